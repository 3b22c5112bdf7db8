/- Calls that hand out parts of memory one by one: what is owned stays apart. -/
import Derived.Test.YtmemiabhkcdgcaaGreatDoorFw38
import Derived.Sort.Grow
import Derived.Lib.SlicesCompact
import Derived.Laws.StructEq
import Derived.Test.YtmemiabhkcdgcaaGreatDoorChecked
import Derived.Test.YtmemiabhkcdgcaaGreatDoorS1
open Option renaming bind_some → je, map_some → jT
open Nat renaming le_refl → jf, le_of_ble_eq_true → js, mul_le_mul_right → jt, lt_of_lt_of_le → jy, zero_le → jE, succ_mul → jM, le_trans → jS, add_zero → jX, zero_add → Jf
open List renaming getElem?_eq_getElem → jg, mem_cons_self → jm, mem_cons_of_mem → jn, length_append → jo, getElem?_append_left → jp, getElem_mem → jq, take_succ_eq_append_getElem → jr, getElem?_take → ju, length_singleton → jv, getElem?_append_right → jx, mem_of_getElem? → jz, getElem?_drop → jA, take_length → jB, drop_eq_getElem_cons → jC, getElem?_toArray → jD, getElem_of_mem → jF, eq_nil_of_length_eq_zero → jG, getD_eq_getElem?_getD → jH, map_append → jJ, getElem?_cons_succ → jK, size_toArray → jN, mem_append_left → jO, append_nil → jP, length_map → jQ, range_succ → jR, all_eq_true → jU, map_cons → jV, length_cons → jY, drop_eq_nil_of_le → jZ, ext_getElem → Ja, append_assoc → Jb, length_take → Jc, not_mem_nil → Jd, mem_cons → Je
open Go.Result renaming andThen_ok → jh
open Bool renaming and_eq_true → ji, eq_iff_iff → jj, true_and → jI, not_eq_true' → jL, not_true → Jg
open Go.Sem renaming run_bind → jk, run_pure → jl
open Int renaming toNat_natCast → jw
open Array renaming getElem?_append_left → jW

namespace Go.Fw
open Go
open Go.RowKit (Below)
section
variable {P:Program} {T:Tab} {n:Nat} {Q:Exit→Act→World→Prop} {k:List It} {e:Env} {w0 w w':World} {L L':List Ch}
theorem SH.append (h:SH w0 w L) (hL:SH w w' L') (hD:∀ c,c ∈ L'→∀ b,c.D b→b<w0.heap.size):SH w0 w' (L'++L):=by
 have h':=h.ext hL.below
 refine ⟨h'.below,fun c hc=>?_,fun c hc=>?_,?_⟩
 ·rcases List.mem_append.1 hc with hc|hc
  ·obtain ⟨p,s⟩:=hL.holds c hc
   exact ⟨p,fun b hb=>⟨jS h.below.size (s b hb).1,(s b hb).2⟩⟩
  ·exact h'.holds c hc
 ·rcases List.mem_append.1 hc with hc|hc
  ·exact hD c hc
  ·exact h.elder c hc
 ·refine List.pairwise_append.2 ⟨hL.apart,h.apart,fun c hc d hd b hcb hdb=>?_⟩
  have h1:=((hL.holds c hc).2 b hcb).1
  have h2:=((h.holds d hd).2 b hdb).2
  omega
end
end Go.Fw


namespace Go.Fw
open Go Go.Sort
open Go.RowKit (Below)
section
variable {P:Program} {T:Tab} {n:Nat} {Q:Exit→Act→World→Prop} {k:List It} {e:Env} {w0 w w':World} {L L':List Ch}
end
end Go.Fw


namespace Go.Fw
open Go
open Go.RowKit (Below)
section
variable {w0 w w':World} {L:List Ch} {α:Type} [GoT α]
def RAll (w:World) (A:Nat→Prop):List α→List (Raw α)→Prop
 | [],[]=>True
 | x::xs,r::rs=>GoT.R w A x r.cs∧RAll w A xs rs
 | _,_=>False
theorem RAll.at {A:Nat→Prop}:∀ {xs:List α} {rs:List (Raw α)},RAll w A xs rs→xs.length=rs.length∧∀ (i:Nat) x,xs[i]?=some x→∃ r,rs[i]?=some r∧GoT.R w A x r.cs
 | [],[],_=>⟨rfl,fun i x h=>by simp at h⟩
 | x::xs,[],h=>h.elim
 | [],r::rs,h=>h.elim
 | x::xs,r::rs,h=>by
  obtain ⟨hl,ha⟩:=RAll.at h.2
  refine ⟨by simp [hl],fun i y hy=>?_⟩
  cases i with
  | zero=>simp only [List.getElem?_cons_zero,Option.some.injEq] at hy ⊢;subst hy;exact ⟨r,rfl,h.1⟩
  | succ i=>simp only [jK] at hy ⊢;exact ha i y hy
end
theorem qwA {P:Program} {T:Tab} {n:Nat} {e:Env} {w:World} (hT:TabOk P T) {x:Operand} {t ty d el:Nat} {ps:String} {af:Array Edge} {g:Option (Nat × Bool)} {te:TE} {p:Option Addr} {l c:Nat}
  (hx:opv e x=some (.slice p l c)) (hte:T.get t=some te) (hk:te.kind=.slice el):Val P n e ⟨some d,.call ⟨.builtin .cap,#[x],#[t]⟩,ty,ps,af,g⟩ w (.int .i64 c):=by
 intro a ha
 have hu:=qb4 (hT _ _ hte) hk
 unfold execOp
 simp [resolve,invoke,builtin,jk,jl,jh,ha.eval hx,Builtin.cap_,run_underlying hu,goInt]
end Go.Fw


namespace Go.Fw
open Go
end Go.Fw


namespace Go.Fw
open Go
open Go.RowKit (Below)
section
variable {P:Program} {T:Tab} {n:Nat} {Q:Exit→Act→World→Prop} {k:List It} {e:Env} {w0 w:World} {L:List Ch}
variable {α:Type} [GoT α] {S S1:Nat→Prop} {xs ys:List α} {p p':Option Addr} {c c':Nat}
end
section
variable {α β γ:Type}
def Emp (o:Option (List α)):Prop:=∀ r,o=some r→r=[]
theorem Emp.none:Emp (none:Option (List α)):=fun _ h=>by cases h
theorem Emp.noneB {f:β→Option (List α)}:Emp ((Option.none:Option β).bind f):=fun _ h=>by cases h
theorem Emp.nil:Emp (some ([]:List α)):=fun _ h=>(Option.some.inj h).symm
theorem Emp.bif {c:Bool} {a b:Option (List α)} (h1:Emp a) (h2:Emp b):Emp (bif c then a else b):=by cases c<;>assumption
theorem Emp.sub {xs:List β} {lo:Int} {f:List β→Option (List α)} (h:Emp (f [])):Emp ((subS xs lo ((0:Nat):Int)).bind f):=fun r hr=>by
 cases hs:subS xs lo ((0:Nat):Int) with
 | none=>rw [hs] at hr;cases hr
 | some y =>
  rw [hs] at hr
  obtain ⟨_,_,_,e⟩:=qm6 hs
  have:y=[]:=by rw [←e];simp
  subst this
  exact h r hr
theorem Emp.bind {x:Option β} {f:β→Option (List α)} (h:∀ y,Emp (f y)):Emp (x.bind f):=by
 cases x with
 | none=>exact Emp.noneB
 | some y=>exact h y
end
end Go.Fw


namespace Go.Fw
open Go
section
variable {ε:Type}
variable {ρ σ τ:Type}
end
end Go.Fw


namespace Go.Fw
open Go
end Go.Fw


namespace Go.Fw
open Go
open Go.RowKit (Below)
structure Same where
 w:World
 K:Nat→Prop
instance instSame:GoT Same where
 k:=1
 agg:=false
 zero:=⟨default,fun _=>False⟩
 zc:=[.bool true]
 R w S x cs:=cs=[.bool true]∧∀ b,x.K b→S b∧w.heap[b]?=x.w.heap[b]?
 O w S x cs:=cs=[.bool true]∧∀ b,x.K b→S b∧w.heap[b]?=x.w.heap[b]?
 kpos:=by decide
 noagg _:=rfl
 len h:=by obtain ⟨rfl,_⟩:=h;rfl
 one h:=by obtain ⟨rfl,_⟩:=h;simp [Value.oneCell']
 loc h hs:=⟨h.1,fun b hb=>⟨(h.2 b hb).1,(hs b (h.2 b hb).1).trans (h.2 b hb).2⟩⟩
 mono h hs:=⟨h.1,fun b hb=>⟨hs b (h.2 b hb).1,(h.2 b hb).2⟩⟩
 toR h:=h
 locO h hs:=⟨h.1,fun b hb=>⟨(h.2 b hb).1,(hs b (h.2 b hb).1).trans (h.2 b hb).2⟩⟩
 monoO h hs:=⟨h.1,fun b hb=>⟨hs b (h.2 b hb).1,(h.2 b hb).2⟩⟩
 zO _ _:=⟨rfl,fun _ h=>h.elim⟩
def FS (F:List Ch) (b:Nat):Prop:=∃ d,d ∈ F∧d.S b
abbrev Fr (w0:World) (F:List Ch) (b:Nat):Prop:=FS F b∨old w0 b
abbrev same (w0 w:World) (F:List Ch):Fct:=fct (⟨w,Fr w0 F⟩:Same) [.bool true]
section
variable {P:Program} {T:Tab} {n:Nat} {Q:Exit→Act→World→Prop} {k:List It} {e:Env} {w0 w w':World} {L L' F:List Ch}
theorem SH.frame (L:List Ch) (h:SH w0 w (L++F)):SH w0 w (L++[Ch.grp (Fw.old w0) (FS F) [same w0 w F]]):=by
 have hp:=List.pairwise_append.1 h.apart
 refine ⟨h.below,fun c hc=>?_,fun c hc=>?_,List.pairwise_append.2 ⟨hp.1,List.pairwise_singleton ..,fun c hc d hd b hb=>?_⟩⟩
 ·rcases List.mem_append.1 hc with hc|hc
  ·exact h.holds c (jO _ hc)
  ·obtain rfl:=List.mem_singleton.1 hc
   refine ⟨fun f hf=>?_,fun b hb=>?_⟩
   ·obtain rfl:=List.mem_singleton.1 hf
    exact ⟨rfl,fun b hb=>⟨hb,rfl⟩⟩
   ·obtain ⟨d,hd,hb⟩:=hb
    exact (h.holds d (List.mem_append_right _ hd)).2 b hb
 ·rcases List.mem_append.1 hc with hc|hc
  ·exact h.elder c (jO _ hc)
  ·obtain rfl:=List.mem_singleton.1 hc
   exact fun b hb=>hb
 ·obtain rfl:=List.mem_singleton.1 hd
  rintro ⟨d,hd,hdb⟩
  exact hp.2.2 c hc d hd b hb hdb
variable {α:Type} [GoT α] {x:α} {cs:List Value} {S D:Nat→Prop} {fs:List Fct}
end
section
open Go.ChangeShapes Go.RowKit
variable {H:Type} {enc:TypeId × Value→H} {P:Program} {w:World} {base:Nat} {spare:Nat→Bool} {held:Bool}
end
end Go.Fw


namespace Go.Fw
open Go
open Go.RowKit (Below)
section
variable {P:Program} {T:Tab} {n:Nat} {Q:Exit→Act→World→Prop} {k:List It} {e:Env} {w0 w w':World} {L:List Ch}
variable {α β:Type} [GoT α] [GoT β] {S Sr Se D:Nat→Prop} {xs ys:List α} {p p':Option Addr} {c c':Nat} {fs:List Fct} {x:α} {cs:List Value}
theorem RAll.loc {A:Nat→Prop}:∀ {xs:List α} {rs:List (Raw α)},RAll w A xs rs→(∀ b,A b→w'.heap[b]?=w.heap[b]?)→RAll w' A xs rs
 | [],[],_,_=>trivial
 | _::_,[],h,_=>h.elim
 | [],_::_,h,_=>h.elim
 | _::_,_::_,h,hb=>⟨GoT.loc h.1 hb,RAll.loc h.2 hb⟩
theorem RAll.mono {A B:Nat→Prop} (hb:∀ b,A b→B b):∀ {xs:List α} {rs:List (Raw α)},RAll w A xs rs→RAll w B xs rs
 | [],[],_=>trivial
 | _::_,[],h=>h.elim
 | [],_::_,h=>h.elim
 | _::_,_::_,h=>⟨GoT.mono h.1 hb,RAll.mono hb h.2⟩
theorem RAll.app {A:Nat→Prop}:∀ {xs:List α} {rs:List (Raw α)} {ys:List α} {qs:List (Raw α)},RAll w A xs rs→RAll w A ys qs→RAll w A (xs++ys) (rs++qs)
 | [],[],_,_,_,h=>h
 | _::_,[],_,_,h,_=>h.elim
 | [],_::_,_,_,h,_=>h.elim
 | _::_,_::_,_,_,h,h'=>⟨h.1,RAll.app h.2 h'⟩
theorem RAll.of {A:Nat→Prop}:∀ {xs:List α} {rs:List (Raw α)},xs.length=rs.length→(∀ (i:Nat) (x:α) (r:Raw α),xs[i]?=some x→rs[i]?=some r→GoT.R w A x r.cs)→RAll w A xs rs
 | [],[],_,_=>trivial
 | _::_,[],h,_=>by cases h
 | [],_::_,h,_=>by cases h
 | x::xs,r::rs,h,ha=>⟨ha 0 x r rfl rfl,RAll.of (by simpa using h) fun i y q hy hq=>ha (i+1) y q (by simpa using hy) (by simpa using hq)⟩
theorem RAll.len {A:Nat→Prop} {rs:List (Raw α)} (h:RAll w A xs rs):xs.length=rs.length:=h.at.1
end
end Go.Fw


namespace Go.Fw
open Go
end Go.Fw


namespace Go.Fw
open Go
open Go.RowKit (Below)
section
variable {P:Program} {T:Tab} {n:Nat} {Q:Exit→Act→World→Prop} {k:List It} {e:Env} {w0 w w':World} {L:List Ch}
end
end Go.Fw


namespace Go.Fw
open Go
open Go.RowKit (Below)
section
variable {P:Program} {T:Tab} {n:Nat} {e:Env} {w:World}
def b3 (a0:Bool) (a1 a2 a3:Int):Array Value:=#[.bool a0,.int .i64 a1,.int .i64 a2,.int .i64 a3]
end
end Go.Fw


namespace Go.Fw
open Go
section
variable {P:Program} {T:Tab} {n:Nat} {e:Env} {w:World}
end
end Go.Fw


namespace Go.Fw
open Go
open Go.RowKit (Below)
section
variable {P:Program} {T:Tab} {n:Nat} {Q:Exit→Act→World→Prop} {k:List It} {e:Env} {w0 w w':World} {L:List Ch}
variable {α β:Type} [GoT α] [GoT β] {S Sr Se D:Nat→Prop} {xs ys:List α} {p p':Option Addr} {c c':Nat} {fs:List Fct} {x:α} {cs:List Value}
end
end Go.Fw


namespace Go.Fw
open Go
open Go.RowKit (Below)
section
variable {w0 w w':World} {L LL F:List Ch} {c:Ch} {fs:List Fct}
end
section
variable {P:Program} {n:Nat} {Q:Exit→Act→World→Prop} {k:List It}
end
end Go.Fw


namespace Go.Fw
open Go
section
variable {P:Program} {T:Tab} {n:Nat} {Q:Exit→Act→World→Prop} {k:List It} {e:Env} {w0 w w':World} {L:List Ch}
end
end Go.Fw


namespace Go.Fw
open Go Go.Proofs
open Go.RowKit (Below)
set_option maxRecDepth 100000
set_option maxHeartbeats 6400000
variable {n:Nat} {w:World} {S:Nat→Prop} {cs1 cs2 cs3 cs4 cs5 cs6 cs7 cs8 cs9:List Value}
structure qU where
 Ar:ByteArray
 Bl:Int
 Bj:Int
 Bd:Bool
instance gt_TPin:GoT qU:=isoT (pairT instStr (pairT instInt (pairT instInt instBool))) (fun x=>(x.Ar,x.Bl,x.Bj,x.Bd)) ⟨ByteArray.empty,0,0,false⟩ rfl true (fun h=>by cases h)
instance fl_TPin:Flat qU:=qin (pairT instStr (pairT instInt (pairT instInt instBool))) (fun x:qU=>(x.Ar,x.Bl,x.Bj,x.Bd)) ⟨ByteArray.empty,0,0,false⟩ rfl true (fun h=>by cases h) (qbJ _ _ (inferInstanceAs (Flat ByteArray)) (qbJ _ _ (inferInstanceAs (Flat Int)) (qbJ _ _ (inferInstanceAs (Flat Int)) (inferInstanceAs (Flat Bool)))))
abbrev qng (x:qU):List Value:=[.string x.Ar,.int .i64 x.Bl,.int .i64 x.Bj,.bool x.Bd]
theorem qax {x:qU} {cs:List Value} (h:GoT.R w S x cs):cs=(qng x):=by
 obtain ⟨_,_,rfl,rfl,⟨_,_,rfl,rfl,⟨_,_,rfl,rfl,rfl⟩⟩⟩:=h
 exact rfl
theorem qds (x:qU):GoT.R w S x (qng x):=have h:=pR (rT x.Ar) (pR (rI x.Bl) (pR (rI x.Bj) (rB x.Bd)));h
structure qq where
 Bc:(List Int)
 Bb:(List Int)
 Au:(List Int)
instance gt_TTable:GoT qq:=isoT (pairT (@instList Int instInt) (pairT (@instList Int instInt) (@instList Int instInt))) (fun x=>(x.Bc,x.Bb,x.Au)) ⟨[],[],[]⟩ rfl true (fun h=>by cases h)
abbrev qlt (x:qq) (p0 p1 p2:Option Addr) (k0 k1 k2:Nat):List Value:=[.slice p0 (x.Bc).length k0,.slice p1 (x.Bb).length k1,.slice p2 (x.Au).length k2]
theorem qa5 {x:qq} {cs:List Value} (h:GoT.R w S x cs):∃ p0 k0 p1 k1 p2 k2,cs=(qlt x p0 p1 p2 k0 k1 k2)∧SlR w S x.Bc p0 k0∧SlR w S x.Bb p1 k1∧SlR w S x.Au p2 k2:=by
 obtain ⟨_,_,rfl,⟨p0,k0,rfl,s0⟩,⟨_,_,rfl,⟨p1,k1,rfl,s1⟩,⟨p2,k2,rfl,s2⟩⟩⟩:=h
 exact ⟨p0,k0,p1,k1,p2,k2,rfl,s0,s1,s2⟩
theorem qhP (x:qq) {p0 p1 p2:Option Addr} {k0 k1 k2:Nat} (s0:SlR w S x.Bc p0 k0) (s1:SlR w S x.Bb p1 k1) (s2:SlR w S x.Au p2 k2):GoT.R w S x (qlt x p0 p1 p2 k0 k1 k2):=have h:=pR (rS s0) (pR (rS s1) (rS s2));h
theorem qqp {w0:World} {L:List Ch} {x:qq} {p0 p1 p2:Option Addr} {l0 k0 l1 k1 l2 k2:Nat} (h:SH w0 w (Ch.own S x [.slice p0 l0 k0,.slice p1 l1 k1,.slice p2 l2 k2]::L)):∃ S0 S1 S2,SH w0 w (Ch.own S2 x.Au [.slice p2 l2 k2]::Ch.own S1 x.Bb [.slice p1 l1 k1]::Ch.own S0 x.Bc [.slice p0 l0 k0]::L):=by
 obtain ⟨hv,ho⟩:=h.headV
 replace ho:GoT.O w S x _:=ho
 obtain ⟨A0,B0,d0,e0,he,o0,ho,a0,b0⟩:=ho
 obtain ⟨q,m,rfl,s0⟩:=o0
 cases he
 replace hv:=hv.push (c:=Ch.own A0 x.Bc [_]) (S2:=B0) ⟨_,_,rfl,s0⟩ (fun _ hd=>hd.elim) a0 b0
 obtain ⟨A1,B1,d1,e1,he,o1,ho,a1,b1⟩:=ho
 obtain ⟨q,m,rfl,s1⟩:=o1
 cases he
 replace hv:=hv.push (c:=Ch.own A1 x.Bb [_]) (S2:=B1) ⟨_,_,rfl,s1⟩ (fun _ hd=>hd.elim) a1 b1
 obtain ⟨q,m,he,s2⟩:=ho
 cases he
 replace hv:=hv.push (c:=Ch.own B1 x.Au [_]) (S2:=(fun _=>False)) ⟨_,_,rfl,s2⟩ (fun _ hd=>hd.elim) (fun b hb=>⟨hb,fun h=>h⟩) (fun _ h=>h.elim)
 exact ⟨A0,A1,B1,hv.sh⟩
theorem qpZ {w0:World} {L:List Ch} (x:qq) {I0 I1 I2:List Nat} {c0 c1 c2:List Value} (h:SH w0 w L) (h0:PO w L I0 x.Bc c0) (h1:PO w L I1 x.Bb c1) (h2:PO w L I2 x.Au c2) (b0:apartB I0 (I1++I2)=true) (b1:apartB I1 I2=true):PO w L (I0++(I1++I2)) x (c0++(c1++c2)) :=
 (qbQ h h0 (qbQ h h1 h2 b1) b0)
structure qC where
 Aq:Int
 Av:Int
 To:Int
 Bg:Int
 Az:(List qq)
 Bh:(List qq)
instance gt_TArc:GoT qC:=isoT (pairT instInt (pairT instInt (pairT instInt (pairT instInt (pairT (@instList qq gt_TTable) (@instList qq gt_TTable)))))) (fun x=>(x.Aq,x.Av,x.To,x.Bg,x.Az,x.Bh)) ⟨0,0,0,0,[],[]⟩ rfl true (fun h=>by cases h)
abbrev qkH (x:qC) (p0 p1:Option Addr) (k0 k1:Nat):List Value:=[.int .i64 x.Aq,.int .i64 x.Av,.int .i64 x.To,.int .i64 x.Bg,.slice p0 (x.Az).length k0,.slice p1 (x.Bh).length k1]
theorem qag {x:qC} {cs:List Value} (h:GoT.R w S x cs):∃ p0 k0 p1 k1,cs=(qkH x p0 p1 k0 k1)∧SlR w S x.Az p0 k0∧SlR w S x.Bh p1 k1:=by
 obtain ⟨_,_,rfl,rfl,⟨_,_,rfl,rfl,⟨_,_,rfl,rfl,⟨_,_,rfl,rfl,⟨_,_,rfl,⟨p0,k0,rfl,s0⟩,⟨p1,k1,rfl,s1⟩⟩⟩⟩⟩⟩:=h
 exact ⟨p0,k0,p1,k1,rfl,s0,s1⟩
theorem qgd (x:qC) {p0 p1:Option Addr} {k0 k1:Nat} (s0:SlR w S x.Az p0 k0) (s1:SlR w S x.Bh p1 k1):GoT.R w S x (qkH x p0 p1 k0 k1):=have h:=pR (rI x.Aq) (pR (rI x.Av) (pR (rI x.To) (pR (rI x.Bg) (pR (rS s0) (rS s1)))));h
theorem qsn {w0:World} {L:List Ch} {x:qC} {p0 p1:Option Addr} {l0 k0 l1 k1:Nat} (h:SH w0 w (Ch.own S x [.int .i64 x.Aq,.int .i64 x.Av,.int .i64 x.To,.int .i64 x.Bg,.slice p0 l0 k0,.slice p1 l1 k1]::L)):∃ S0 S1,SH w0 w (Ch.own S1 x.Bh [.slice p1 l1 k1]::Ch.own S0 x.Az [.slice p0 l0 k0]::L):=by
 obtain ⟨hv,ho⟩:=h.headV
 replace ho:GoT.O w S x _:=ho
 obtain ⟨A0,B0,d0,e0,he,o0,ho,a0,b0⟩:=ho
 obtain rfl:=o0
 cases he
 replace hv:=hv.less b0
 obtain ⟨A1,B1,d1,e1,he,o1,ho,a1,b1⟩:=ho
 obtain rfl:=o1
 cases he
 replace hv:=hv.less b1
 obtain ⟨A2,B2,d2,e2,he,o2,ho,a2,b2⟩:=ho
 obtain rfl:=o2
 cases he
 replace hv:=hv.less b2
 obtain ⟨A3,B3,d3,e3,he,o3,ho,a3,b3⟩:=ho
 obtain rfl:=o3
 cases he
 replace hv:=hv.less b3
 obtain ⟨A4,B4,d4,e4,he,o4,ho,a4,b4⟩:=ho
 obtain ⟨q,m,rfl,s0⟩:=o4
 cases he
 replace hv:=hv.push (c:=Ch.own A4 x.Az [_]) (S2:=B4) ⟨_,_,rfl,s0⟩ (fun _ hd=>hd.elim) a4 b4
 obtain ⟨q,m,he,s1⟩:=ho
 cases he
 replace hv:=hv.push (c:=Ch.own B4 x.Bh [_]) (S2:=(fun _=>False)) ⟨_,_,rfl,s1⟩ (fun _ hd=>hd.elim) (fun b hb=>⟨hb,fun h=>h⟩) (fun _ h=>h.elim)
 exact ⟨A4,B4,hv.sh⟩
theorem qsH {w0:World} {L:List Ch} (x:qC) {I0 I1 I2 I3 I4 I5:List Nat} {c0 c1 c2 c3 c4 c5:List Value} (h:SH w0 w L) (h0:PO w L I0 x.Aq c0) (h1:PO w L I1 x.Av c1) (h2:PO w L I2 x.To c2) (h3:PO w L I3 x.Bg c3) (h4:PO w L I4 x.Az c4) (h5:PO w L I5 x.Bh c5) (b0:apartB I0 (I1++(I2++(I3++(I4++I5))))=true) (b1:apartB I1 (I2++(I3++(I4++I5)))=true) (b2:apartB I2 (I3++(I4++I5))=true) (b3:apartB I3 (I4++I5)=true) (b4:apartB I4 I5=true):PO w L (I0++(I1++(I2++(I3++(I4++I5))))) x (c0++(c1++(c2++(c3++(c4++c5))))) :=
 (qbQ h h0 (qbQ h h1 (qbQ h h2 (qbQ h h3 (qbQ h h4 h5 b4) b3) b2) b1) b0)
structure qp where
 Ar:ByteArray
 Aq:Int
 Am:(List qU)
 Ap:(List qC)
 Ay:(List Int)
 Bn:Int
 Bf:Int
instance gt_TCell:GoT qp:=isoT (pairT instStr (pairT instInt (pairT (@instList qU gt_TPin) (pairT (@instList qC gt_TArc) (pairT (@instList Int instInt) (pairT instInt instInt)))))) (fun x=>(x.Ar,x.Aq,x.Am,x.Ap,x.Ay,x.Bn,x.Bf)) ⟨ByteArray.empty,0,[],[],[],0,0⟩ rfl true (fun h=>by cases h)
abbrev qbN (x:qp) (p0 p1 p2:Option Addr) (k0 k1 k2:Nat):List Value:=[.string x.Ar,.int .i64 x.Aq,.slice p0 (x.Am).length k0,.slice p1 (x.Ap).length k1,.slice p2 (x.Ay).length k2,.int .i64 x.Bn,.int .i64 x.Bf]
theorem qH {x:qp} {cs:List Value} (h:GoT.R w S x cs):∃ p0 k0 p1 k1 p2 k2,cs=(qbN x p0 p1 p2 k0 k1 k2)∧SlR w S x.Am p0 k0∧SlR w S x.Ap p1 k1∧SlR w S x.Ay p2 k2:=by
 obtain ⟨_,_,rfl,rfl,⟨_,_,rfl,rfl,⟨_,_,rfl,⟨p0,k0,rfl,s0⟩,⟨_,_,rfl,⟨p1,k1,rfl,s1⟩,⟨_,_,rfl,⟨p2,k2,rfl,s2⟩,⟨_,_,rfl,rfl,rfl⟩⟩⟩⟩⟩⟩:=h
 exact ⟨p0,k0,p1,k1,p2,k2,rfl,s0,s1,s2⟩
theorem qg4 (x:qp) {p0 p1 p2:Option Addr} {k0 k1 k2:Nat} (s0:SlR w S x.Am p0 k0) (s1:SlR w S x.Ap p1 k1) (s2:SlR w S x.Ay p2 k2):GoT.R w S x (qbN x p0 p1 p2 k0 k1 k2):=have h:=pR (rT x.Ar) (pR (rI x.Aq) (pR (rS s0) (pR (rS s1) (pR (rS s2) (pR (rI x.Bn) (rI x.Bf))))));h
theorem qhR {x:qp} {p0 p1 p2:Option Addr} {l0 k0 l1 k1 l2 k2:Nat} (h:GoT.R w S x [.string x.Ar,.int .i64 x.Aq,.slice p0 l0 k0,.slice p1 l1 k1,.slice p2 l2 k2,.int .i64 x.Bn,.int .i64 x.Bf]):(SlR w S x.Am p0 k0∧l0=(x.Am).length)∧(SlR w S x.Ap p1 k1∧l1=(x.Ap).length)∧(SlR w S x.Ay p2 k2∧l2=(x.Ay).length):=by
 obtain ⟨q0,j0,q1,j1,q2,j2,he,s0,s1,s2⟩:=qH h
 cases he
 exact ⟨⟨s0,rfl⟩,⟨s1,rfl⟩,⟨s2,rfl⟩⟩
theorem qq5 {w0:World} {L:List Ch} {x:qp} {p0 p1 p2:Option Addr} {l0 k0 l1 k1 l2 k2:Nat} (h:SH w0 w (Ch.own S x [.string x.Ar,.int .i64 x.Aq,.slice p0 l0 k0,.slice p1 l1 k1,.slice p2 l2 k2,.int .i64 x.Bn,.int .i64 x.Bf]::L)):∃ S0 S1 S2,SH w0 w (Ch.own S2 x.Ay [.slice p2 l2 k2]::Ch.own S1 x.Ap [.slice p1 l1 k1]::Ch.own S0 x.Am [.slice p0 l0 k0]::L):=by
 obtain ⟨hv,ho⟩:=h.headV
 replace ho:GoT.O w S x _:=ho
 obtain ⟨A0,B0,d0,e0,he,o0,ho,a0,b0⟩:=ho
 obtain rfl:=o0
 cases he
 replace hv:=hv.less b0
 obtain ⟨A1,B1,d1,e1,he,o1,ho,a1,b1⟩:=ho
 obtain rfl:=o1
 cases he
 replace hv:=hv.less b1
 obtain ⟨A2,B2,d2,e2,he,o2,ho,a2,b2⟩:=ho
 obtain ⟨q,m,rfl,s0⟩:=o2
 cases he
 replace hv:=hv.push (c:=Ch.own A2 x.Am [_]) (S2:=B2) ⟨_,_,rfl,s0⟩ (fun _ hd=>hd.elim) a2 b2
 obtain ⟨A3,B3,d3,e3,he,o3,ho,a3,b3⟩:=ho
 obtain ⟨q,m,rfl,s1⟩:=o3
 cases he
 replace hv:=hv.push (c:=Ch.own A3 x.Ap [_]) (S2:=B3) ⟨_,_,rfl,s1⟩ (fun _ hd=>hd.elim) a3 b3
 obtain ⟨A4,B4,d4,e4,he,o4,ho,a4,b4⟩:=ho
 obtain ⟨q,m,rfl,s2⟩:=o4
 cases he
 replace hv:=hv.push (c:=Ch.own A4 x.Ay [_]) (S2:=B4) ⟨_,_,rfl,s2⟩ (fun _ hd=>hd.elim) a4 b4
 obtain ⟨A5,B5,d5,e5,he,o5,ho,a5,b5⟩:=ho
 obtain rfl:=o5
 cases he
 replace hv:=hv.less b5
 exact ⟨A2,A3,A4,hv.sh⟩
theorem qrz {w0:World} {L:List Ch} (x:qp) {I0 I1 I2 I3 I4 I5 I6:List Nat} {c0 c1 c2 c3 c4 c5 c6:List Value} (h:SH w0 w L) (h0:PO w L I0 x.Ar c0) (h1:PO w L I1 x.Aq c1) (h2:PO w L I2 x.Am c2) (h3:PO w L I3 x.Ap c3) (h4:PO w L I4 x.Ay c4) (h5:PO w L I5 x.Bn c5) (h6:PO w L I6 x.Bf c6) (b0:apartB I0 (I1++(I2++(I3++(I4++(I5++I6)))))=true) (b1:apartB I1 (I2++(I3++(I4++(I5++I6))))=true) (b2:apartB I2 (I3++(I4++(I5++I6)))=true) (b3:apartB I3 (I4++(I5++I6))=true) (b4:apartB I4 (I5++I6)=true) (b5:apartB I5 I6=true):PO w L (I0++(I1++(I2++(I3++(I4++(I5++I6)))))) x (c0++(c1++(c2++(c3++(c4++(c5++c6)))))) :=
 (qbQ h h0 (qbQ h h1 (qbQ h h2 (qbQ h h3 (qbQ h h4 (qbQ h h5 h6 b5) b4) b3) b2) b1) b0)
structure qm where
 Ah:(List qp)
instance gt_TLibrary:GoT qm:=isoT (@instList qp gt_TCell) (fun x=>x.Ah) ⟨[]⟩ rfl true (fun h=>by cases h)
theorem qa1 {x:qm} {cs:List Value} (h:GoT.R w S x cs):∃ p0 k0,cs=[.slice p0 (x.Ah).length k0]∧SlR w S x.Ah p0 k0:=by
 obtain ⟨p0,k0,rfl,s0⟩:=h
 exact ⟨p0,k0,rfl,s0⟩
theorem qbY (x:qm) {p0:Option Addr} {k0:Nat} (s0:SlR w S x.Ah p0 k0):GoT.R w S x [.slice p0 (x.Ah).length k0]:=have h:=rS s0;h
theorem qoo {w0:World} {L:List Ch} {x:qm} {p0:Option Addr} {l0 k0:Nat} (h:SH w0 w (Ch.own S x [.slice p0 l0 k0]::L)):∃ S0,SH w0 w (Ch.own S0 x.Ah [.slice p0 l0 k0]::L):=by
 obtain ⟨hv,ho⟩:=h.headV
 replace ho:GoT.O w S x _:=ho
 obtain ⟨q,m,he,s0⟩:=ho
 cases he
 replace hv:=hv.push (c:=Ch.own S x.Ah [_]) (S2:=(fun _=>False)) ⟨_,_,rfl,s0⟩ (fun _ hd=>hd.elim) (fun b hb=>⟨hb,fun h=>h⟩) (fun _ h=>h.elim)
 exact ⟨S,hv.sh⟩
theorem qq6 {w0:World} {L:List Ch} (x:qm) {I0:List Nat} {c0:List Value} (_:SH w0 w L) (h0:PO w L I0 x.Ah c0):PO w L I0 x c0 :=
 h0
structure qg where
 Ar:ByteArray
 Ba:Int
 Af:(List Int)
instance gt_TInstance:GoT qg:=isoT (pairT instStr (pairT instInt (@instList Int instInt))) (fun x=>(x.Ar,x.Ba,x.Af)) ⟨ByteArray.empty,0,[]⟩ rfl true (fun h=>by cases h)
abbrev qic (x:qg) (p0:Option Addr) (k0:Nat):List Value:=[.string x.Ar,.int .i64 x.Ba,.slice p0 (x.Af).length k0]
theorem qJ {x:qg} {cs:List Value} (h:GoT.R w S x cs):∃ p0 k0,cs=(qic x p0 k0)∧SlR w S x.Af p0 k0:=by
 obtain ⟨_,_,rfl,rfl,⟨_,_,rfl,rfl,⟨p0,k0,rfl,s0⟩⟩⟩:=h
 exact ⟨p0,k0,rfl,s0⟩
theorem qfQ (x:qg) {p0:Option Addr} {k0:Nat} (s0:SlR w S x.Af p0 k0):GoT.R w S x (qic x p0 k0):=have h:=pR (rT x.Ar) (pR (rI x.Ba) (rS s0));h
theorem qn3 {w0:World} {L:List Ch} {x:qg} {p0:Option Addr} {l0 k0:Nat} (h:SH w0 w (Ch.own S x [.string x.Ar,.int .i64 x.Ba,.slice p0 l0 k0]::L)):∃ S0,SH w0 w (Ch.own S0 x.Af [.slice p0 l0 k0]::L):=by
 obtain ⟨hv,ho⟩:=h.headV
 replace ho:GoT.O w S x _:=ho
 obtain ⟨A0,B0,d0,e0,he,o0,ho,a0,b0⟩:=ho
 obtain rfl:=o0
 cases he
 replace hv:=hv.less b0
 obtain ⟨A1,B1,d1,e1,he,o1,ho,a1,b1⟩:=ho
 obtain rfl:=o1
 cases he
 replace hv:=hv.less b1
 obtain ⟨q,m,he,s0⟩:=ho
 cases he
 replace hv:=hv.push (c:=Ch.own B1 x.Af [_]) (S2:=(fun _=>False)) ⟨_,_,rfl,s0⟩ (fun _ hd=>hd.elim) (fun b hb=>⟨hb,fun h=>h⟩) (fun _ h=>h.elim)
 exact ⟨B1,hv.sh⟩
theorem qmK {w0:World} {L:List Ch} (x:qg) {I0 I1 I2:List Nat} {c0 c1 c2:List Value} (h:SH w0 w L) (h0:PO w L I0 x.Ar c0) (h1:PO w L I1 x.Ba c1) (h2:PO w L I2 x.Af c2) (b0:apartB I0 (I1++I2)=true) (b1:apartB I1 I2=true):PO w L (I0++(I1++I2)) x (c0++(c1++c2)) :=
 (qbQ h h0 (qbQ h h1 h2 b1) b0)
structure qF where
 Ar:ByteArray
 Bl:Int
 Bo:Int
instance gt_TPort:GoT qF:=isoT (pairT instStr (pairT instInt instInt)) (fun x=>(x.Ar,x.Bl,x.Bo)) ⟨ByteArray.empty,0,0⟩ rfl true (fun h=>by cases h)
instance fl_TPort:Flat qF:=qin (pairT instStr (pairT instInt instInt)) (fun x:qF=>(x.Ar,x.Bl,x.Bo)) ⟨ByteArray.empty,0,0⟩ rfl true (fun h=>by cases h) (qbJ _ _ (inferInstanceAs (Flat ByteArray)) (qbJ _ _ (inferInstanceAs (Flat Int)) (inferInstanceAs (Flat Int))))
abbrev qob (x:qF):List Value:=[.string x.Ar,.int .i64 x.Bl,.int .i64 x.Bo]
theorem qat {x:qF} {cs:List Value} (h:GoT.R w S x cs):cs=(qob x):=by
 obtain ⟨_,_,rfl,rfl,⟨_,_,rfl,rfl,rfl⟩⟩:=h
 exact rfl
theorem qdT (x:qF):GoT.R w S x (qob x):=have h:=pR (rT x.Ar) (pR (rI x.Bl) (rI x.Bo));h
structure qe where
 Aa:(List qg)
 Af:(List ByteArray)
 Ac:(List qF)
instance gt_TDesign:GoT qe:=isoT (pairT (@instList qg gt_TInstance) (pairT (@instList ByteArray instStr) (@instList qF gt_TPort))) (fun x=>(x.Aa,x.Af,x.Ac)) ⟨[],[],[]⟩ rfl true (fun h=>by cases h)
abbrev qaX (x:qe) (p0 p1 p2:Option Addr) (k0 k1 k2:Nat):List Value:=[.slice p0 (x.Aa).length k0,.slice p1 (x.Af).length k1,.slice p2 (x.Ac).length k2]
theorem qae {x:qe} {cs:List Value} (h:GoT.R w S x cs):∃ p0 k0 p1 k1 p2 k2,cs=(qaX x p0 p1 p2 k0 k1 k2)∧SlR w S x.Aa p0 k0∧SlR w S x.Af p1 k1∧SlR w S x.Ac p2 k2:=by
 obtain ⟨_,_,rfl,⟨p0,k0,rfl,s0⟩,⟨_,_,rfl,⟨p1,k1,rfl,s1⟩,⟨p2,k2,rfl,s2⟩⟩⟩:=h
 exact ⟨p0,k0,p1,k1,p2,k2,rfl,s0,s1,s2⟩
theorem qaq (x:qe) {p0 p1 p2:Option Addr} {k0 k1 k2:Nat} (s0:SlR w S x.Aa p0 k0) (s1:SlR w S x.Af p1 k1) (s2:SlR w S x.Ac p2 k2):GoT.R w S x (qaX x p0 p1 p2 k0 k1 k2):=have h:=pR (rS s0) (pR (rS s1) (rS s2));h
theorem qpg {w0:World} {L:List Ch} {x:qe} {p0 p1 p2:Option Addr} {l0 k0 l1 k1 l2 k2:Nat} (h:SH w0 w (Ch.own S x [.slice p0 l0 k0,.slice p1 l1 k1,.slice p2 l2 k2]::L)):∃ S0 S1 S2,SH w0 w (Ch.own S2 x.Ac [.slice p2 l2 k2]::Ch.own S1 x.Af [.slice p1 l1 k1]::Ch.own S0 x.Aa [.slice p0 l0 k0]::L):=by
 obtain ⟨hv,ho⟩:=h.headV
 replace ho:GoT.O w S x _:=ho
 obtain ⟨A0,B0,d0,e0,he,o0,ho,a0,b0⟩:=ho
 obtain ⟨q,m,rfl,s0⟩:=o0
 cases he
 replace hv:=hv.push (c:=Ch.own A0 x.Aa [_]) (S2:=B0) ⟨_,_,rfl,s0⟩ (fun _ hd=>hd.elim) a0 b0
 obtain ⟨A1,B1,d1,e1,he,o1,ho,a1,b1⟩:=ho
 obtain ⟨q,m,rfl,s1⟩:=o1
 cases he
 replace hv:=hv.push (c:=Ch.own A1 x.Af [_]) (S2:=B1) ⟨_,_,rfl,s1⟩ (fun _ hd=>hd.elim) a1 b1
 obtain ⟨q,m,he,s2⟩:=ho
 cases he
 replace hv:=hv.push (c:=Ch.own B1 x.Ac [_]) (S2:=(fun _=>False)) ⟨_,_,rfl,s2⟩ (fun _ hd=>hd.elim) (fun b hb=>⟨hb,fun h=>h⟩) (fun _ h=>h.elim)
 exact ⟨A0,A1,B1,hv.sh⟩
theorem qsk {w0:World} {L:List Ch} (x:qe) {I0 I1 I2:List Nat} {c0 c1 c2:List Value} (h:SH w0 w L) (h0:PO w L I0 x.Aa c0) (h1:PO w L I1 x.Af c1) (h2:PO w L I2 x.Ac c2) (b0:apartB I0 (I1++I2)=true) (b1:apartB I1 I2=true):PO w L (I0++(I1++I2)) x (c0++(c1++c2)) :=
 (qbQ h h0 (qbQ h h1 h2 b1) b0)
structure qy where
 Ak:(List Int)
 Bm:(List Int)
 Bj:(List Int)
 Be:(List Int)
instance gt_TWire:GoT qy:=isoT (pairT (@instList Int instInt) (pairT (@instList Int instInt) (pairT (@instList Int instInt) (@instList Int instInt)))) (fun x=>(x.Ak,x.Bm,x.Bj,x.Be)) ⟨[],[],[],[]⟩ rfl true (fun h=>by cases h)
abbrev qhA (x:qy) (p0 p1 p2 p3:Option Addr) (k0 k1 k2 k3:Nat):List Value:=[.slice p0 (x.Ak).length k0,.slice p1 (x.Bm).length k1,.slice p2 (x.Bj).length k2,.slice p3 (x.Be).length k3]
theorem qa7 {x:qy} {cs:List Value} (h:GoT.R w S x cs):∃ p0 k0 p1 k1 p2 k2 p3 k3,cs=(qhA x p0 p1 p2 p3 k0 k1 k2 k3)∧SlR w S x.Ak p0 k0∧SlR w S x.Bm p1 k1∧SlR w S x.Bj p2 k2∧SlR w S x.Be p3 k3:=by
 obtain ⟨_,_,rfl,⟨p0,k0,rfl,s0⟩,⟨_,_,rfl,⟨p1,k1,rfl,s1⟩,⟨_,_,rfl,⟨p2,k2,rfl,s2⟩,⟨p3,k3,rfl,s3⟩⟩⟩⟩:=h
 exact ⟨p0,k0,p1,k1,p2,k2,p3,k3,rfl,s0,s1,s2,s3⟩
theorem qi4 (x:qy) {p0 p1 p2 p3:Option Addr} {k0 k1 k2 k3:Nat} (s0:SlR w S x.Ak p0 k0) (s1:SlR w S x.Bm p1 k1) (s2:SlR w S x.Bj p2 k2) (s3:SlR w S x.Be p3 k3):GoT.R w S x (qhA x p0 p1 p2 p3 k0 k1 k2 k3):=have h:=pR (rS s0) (pR (rS s1) (pR (rS s2) (rS s3)));h
theorem qrt {w0:World} {L:List Ch} {x:qy} {p0 p1 p2 p3:Option Addr} {l0 k0 l1 k1 l2 k2 l3 k3:Nat} (h:SH w0 w (Ch.own S x [.slice p0 l0 k0,.slice p1 l1 k1,.slice p2 l2 k2,.slice p3 l3 k3]::L)):∃ S0 S1 S2 S3,SH w0 w (Ch.own S3 x.Be [.slice p3 l3 k3]::Ch.own S2 x.Bj [.slice p2 l2 k2]::Ch.own S1 x.Bm [.slice p1 l1 k1]::Ch.own S0 x.Ak [.slice p0 l0 k0]::L):=by
 obtain ⟨hv,ho⟩:=h.headV
 replace ho:GoT.O w S x _:=ho
 obtain ⟨A0,B0,d0,e0,he,o0,ho,a0,b0⟩:=ho
 obtain ⟨q,m,rfl,s0⟩:=o0
 cases he
 replace hv:=hv.push (c:=Ch.own A0 x.Ak [_]) (S2:=B0) ⟨_,_,rfl,s0⟩ (fun _ hd=>hd.elim) a0 b0
 obtain ⟨A1,B1,d1,e1,he,o1,ho,a1,b1⟩:=ho
 obtain ⟨q,m,rfl,s1⟩:=o1
 cases he
 replace hv:=hv.push (c:=Ch.own A1 x.Bm [_]) (S2:=B1) ⟨_,_,rfl,s1⟩ (fun _ hd=>hd.elim) a1 b1
 obtain ⟨A2,B2,d2,e2,he,o2,ho,a2,b2⟩:=ho
 obtain ⟨q,m,rfl,s2⟩:=o2
 cases he
 replace hv:=hv.push (c:=Ch.own A2 x.Bj [_]) (S2:=B2) ⟨_,_,rfl,s2⟩ (fun _ hd=>hd.elim) a2 b2
 obtain ⟨q,m,he,s3⟩:=ho
 cases he
 replace hv:=hv.push (c:=Ch.own B2 x.Be [_]) (S2:=(fun _=>False)) ⟨_,_,rfl,s3⟩ (fun _ hd=>hd.elim) (fun b hb=>⟨hb,fun h=>h⟩) (fun _ h=>h.elim)
 exact ⟨A0,A1,A2,B2,hv.sh⟩
theorem qrB {w0:World} {L:List Ch} (x:qy) {I0 I1 I2 I3:List Nat} {c0 c1 c2 c3:List Value} (h:SH w0 w L) (h0:PO w L I0 x.Ak c0) (h1:PO w L I1 x.Bm c1) (h2:PO w L I2 x.Bj c2) (h3:PO w L I3 x.Be c3) (b0:apartB I0 (I1++(I2++I3))=true) (b1:apartB I1 (I2++I3)=true) (b2:apartB I2 I3=true):PO w L (I0++(I1++(I2++I3))) x (c0++(c1++(c2++c3))) :=
 (qbQ h h0 (qbQ h h1 (qbQ h h2 h3 b2) b1) b0)
structure qi where
 Ai:qm
 Ab:qe
 Aj:(List qy)
instance gt_TBlock:GoT qi:=isoT (pairT gt_TLibrary (pairT gt_TDesign (@instList qy gt_TWire))) (fun x=>(x.Ai,x.Ab,x.Aj)) ⟨(⟨[]⟩:qm),(⟨[],[],[]⟩:qe),[]⟩ rfl true (fun h=>by cases h)
abbrev qah (x:qi) (p0 p1 p2 p3 p4:Option Addr) (k0 k1 k2 k3 k4:Nat):List Value:=[.slice p0 (x.Ai.Ah).length k0,.slice p1 (x.Ab.Aa).length k1,.slice p2 (x.Ab.Af).length k2,.slice p3 (x.Ab.Ac).length k3,.slice p4 (x.Aj).length k4]
theorem qO {x:qi} {cs:List Value} (h:GoT.R w S x cs):∃ p0 k0 p1 k1 p2 k2 p3 k3 p4 k4,cs=(qah x p0 p1 p2 p3 p4 k0 k1 k2 k3 k4)∧SlR w S x.Ai.Ah p0 k0∧SlR w S x.Ab.Aa p1 k1∧SlR w S x.Ab.Af p2 k2∧SlR w S x.Ab.Ac p3 k3∧SlR w S x.Aj p4 k4:=by
 obtain ⟨_,_,rfl,⟨p0,k0,rfl,s0⟩,⟨_,_,rfl,⟨_,_,rfl,⟨p1,k1,rfl,s1⟩,⟨_,_,rfl,⟨p2,k2,rfl,s2⟩,⟨p3,k3,rfl,s3⟩⟩⟩,⟨p4,k4,rfl,s4⟩⟩⟩:=h
 exact ⟨p0,k0,p1,k1,p2,k2,p3,k3,p4,k4,rfl,s0,s1,s2,s3,s4⟩
theorem qms (x:qi) {p0 p1 p2 p3 p4:Option Addr} {k0 k1 k2 k3 k4:Nat} (s0:SlR w S x.Ai.Ah p0 k0) (s1:SlR w S x.Ab.Aa p1 k1) (s2:SlR w S x.Ab.Af p2 k2) (s3:SlR w S x.Ab.Ac p3 k3) (s4:SlR w S x.Aj p4 k4):GoT.R w S x (qah x p0 p1 p2 p3 p4 k0 k1 k2 k3 k4):=have h:=pR (qbY x.Ai s0) (pR (qaq x.Ab s1 s2 s3) (rS s4));h
theorem qo5 {w0:World} {L:List Ch} {x:qi} {p0 p1 p2 p3 p4:Option Addr} {l0 k0 l1 k1 l2 k2 l3 k3 l4 k4:Nat} (h:SH w0 w (Ch.own S x [.slice p0 l0 k0,.slice p1 l1 k1,.slice p2 l2 k2,.slice p3 l3 k3,.slice p4 l4 k4]::L)):∃ S0 S1 S2,SH w0 w (Ch.own S2 x.Aj [.slice p4 l4 k4]::Ch.own S1 x.Ab [.slice p1 l1 k1,.slice p2 l2 k2,.slice p3 l3 k3]::Ch.own S0 x.Ai [.slice p0 l0 k0]::L):=by
 obtain ⟨hv,ho⟩:=h.headV
 replace ho:GoT.O w S x _:=ho
 obtain ⟨A0,B0,d0,e0,he0,o0,ho,a0,b0⟩:=ho
 have hl0:d0.length=1:=GoT.len (GoT.toR o0)
 obtain ⟨rfl,rfl⟩:d0=[.slice p0 l0 k0]∧e0=[.slice p1 l1 k1,.slice p2 l2 k2,.slice p3 l3 k3,.slice p4 l4 k4]:=by
  have:=List.append_inj (show [.slice p0 l0 k0]++[.slice p1 l1 k1,.slice p2 l2 k2,.slice p3 l3 k3,.slice p4 l4 k4]=d0++e0 from he0) (by rw [hl0];rfl)
  exact ⟨this.1.symm,this.2.symm⟩
 replace hv:=hv.push (c:=Ch.own A0 x.Ai [.slice p0 l0 k0]) (S2:=B0) o0 (fun _ hd=>hd.elim) a0 b0
 obtain ⟨A1,B1,d1,e1,he1,o1,ho,a1,b1⟩:=ho
 have hl1:d1.length=3:=GoT.len (GoT.toR o1)
 obtain ⟨rfl,rfl⟩:d1=[.slice p1 l1 k1,.slice p2 l2 k2,.slice p3 l3 k3]∧e1=[.slice p4 l4 k4]:=by
  have:=List.append_inj (show [.slice p1 l1 k1,.slice p2 l2 k2,.slice p3 l3 k3]++[.slice p4 l4 k4]=d1++e1 from he1) (by rw [hl1];rfl)
  exact ⟨this.1.symm,this.2.symm⟩
 replace hv:=hv.push (c:=Ch.own A1 x.Ab [.slice p1 l1 k1,.slice p2 l2 k2,.slice p3 l3 k3]) (S2:=B1) o1 (fun _ hd=>hd.elim) a1 b1
 replace hv:=hv.push (c:=Ch.own B1 x.Aj [.slice p4 l4 k4]) (S2:=(fun _=>False)) ho (fun _ hd=>hd.elim) (fun b hb=>⟨hb,fun h=>h⟩) (fun _ h=>h.elim)
 exact ⟨A0,A1,B1,hv.sh⟩
theorem qtK {w0:World} {L:List Ch} (x:qi) {I0 I1 I2:List Nat} {c0 c1 c2:List Value} (h:SH w0 w L) (h0:PO w L I0 x.Ai c0) (h1:PO w L I1 x.Ab c1) (h2:PO w L I2 x.Aj c2) (b0:apartB I0 (I1++I2)=true) (b1:apartB I1 I2=true):PO w L (I0++(I1++I2)) x (c0++(c1++c2)) :=
 (qbQ h h0 (qbQ h h1 h2 b1) b0)
structure qa where
 Aq:Int
 Bk:Int
 Av:(List Int)
 As:(List Int)
 To:(List Int)
instance gt_TException:GoT qa:=isoT (pairT instInt (pairT instInt (pairT (@instList Int instInt) (pairT (@instList Int instInt) (@instList Int instInt))))) (fun x=>(x.Aq,x.Bk,x.Av,x.As,x.To)) ⟨0,0,[],[],[]⟩ rfl true (fun h=>by cases h)
abbrev qhj (x:qa) (p0 p1 p2:Option Addr) (k0 k1 k2:Nat):List Value:=[.int .i64 x.Aq,.int .i64 x.Bk,.slice p0 (x.Av).length k0,.slice p1 (x.As).length k1,.slice p2 (x.To).length k2]
theorem qD {x:qa} {cs:List Value} (h:GoT.R w S x cs):∃ p0 k0 p1 k1 p2 k2,cs=(qhj x p0 p1 p2 k0 k1 k2)∧SlR w S x.Av p0 k0∧SlR w S x.As p1 k1∧SlR w S x.To p2 k2:=by
 obtain ⟨_,_,rfl,rfl,⟨_,_,rfl,rfl,⟨_,_,rfl,⟨p0,k0,rfl,s0⟩,⟨_,_,rfl,⟨p1,k1,rfl,s1⟩,⟨p2,k2,rfl,s2⟩⟩⟩⟩⟩:=h
 exact ⟨p0,k0,p1,k1,p2,k2,rfl,s0,s1,s2⟩
theorem qcp (x:qa) {p0 p1 p2:Option Addr} {k0 k1 k2:Nat} (s0:SlR w S x.Av p0 k0) (s1:SlR w S x.As p1 k1) (s2:SlR w S x.To p2 k2):GoT.R w S x (qhj x p0 p1 p2 k0 k1 k2):=have h:=pR (rI x.Aq) (pR (rI x.Bk) (pR (rS s0) (pR (rS s1) (rS s2))));h
theorem qna {w0:World} {L:List Ch} {x:qa} {p0 p1 p2:Option Addr} {l0 k0 l1 k1 l2 k2:Nat} (h:SH w0 w (Ch.own S x [.int .i64 x.Aq,.int .i64 x.Bk,.slice p0 l0 k0,.slice p1 l1 k1,.slice p2 l2 k2]::L)):∃ S0 S1 S2,SH w0 w (Ch.own S2 x.To [.slice p2 l2 k2]::Ch.own S1 x.As [.slice p1 l1 k1]::Ch.own S0 x.Av [.slice p0 l0 k0]::L):=by
 obtain ⟨hv,ho⟩:=h.headV
 replace ho:GoT.O w S x _:=ho
 obtain ⟨A0,B0,d0,e0,he,o0,ho,a0,b0⟩:=ho
 obtain rfl:=o0
 cases he
 replace hv:=hv.less b0
 obtain ⟨A1,B1,d1,e1,he,o1,ho,a1,b1⟩:=ho
 obtain rfl:=o1
 cases he
 replace hv:=hv.less b1
 obtain ⟨A2,B2,d2,e2,he,o2,ho,a2,b2⟩:=ho
 obtain ⟨q,m,rfl,s0⟩:=o2
 cases he
 replace hv:=hv.push (c:=Ch.own A2 x.Av [_]) (S2:=B2) ⟨_,_,rfl,s0⟩ (fun _ hd=>hd.elim) a2 b2
 obtain ⟨A3,B3,d3,e3,he,o3,ho,a3,b3⟩:=ho
 obtain ⟨q,m,rfl,s1⟩:=o3
 cases he
 replace hv:=hv.push (c:=Ch.own A3 x.As [_]) (S2:=B3) ⟨_,_,rfl,s1⟩ (fun _ hd=>hd.elim) a3 b3
 obtain ⟨q,m,he,s2⟩:=ho
 cases he
 replace hv:=hv.push (c:=Ch.own B3 x.To [_]) (S2:=(fun _=>False)) ⟨_,_,rfl,s2⟩ (fun _ hd=>hd.elim) (fun b hb=>⟨hb,fun h=>h⟩) (fun _ h=>h.elim)
 exact ⟨A2,A3,B3,hv.sh⟩
theorem ql4 {w0:World} {L:List Ch} (x:qa) {I0 I1 I2 I3 I4:List Nat} {c0 c1 c2 c3 c4:List Value} (h:SH w0 w L) (h0:PO w L I0 x.Aq c0) (h1:PO w L I1 x.Bk c1) (h2:PO w L I2 x.Av c2) (h3:PO w L I3 x.As c3) (h4:PO w L I4 x.To c4) (b0:apartB I0 (I1++(I2++(I3++I4)))=true) (b1:apartB I1 (I2++(I3++I4))=true) (b2:apartB I2 (I3++I4)=true) (b3:apartB I3 I4=true):PO w L (I0++(I1++(I2++(I3++I4)))) x (c0++(c1++(c2++(c3++c4)))) :=
 (qbQ h h0 (qbQ h h1 (qbQ h h2 (qbQ h h3 h4 b3) b2) b1) b0)
structure qqk where
 Bv:Bool
 Bu:Int
 Bq:Int
 Br:Int
instance gt_TEffect:GoT qqk:=isoT (pairT instBool (pairT instInt (pairT instInt instInt))) (fun x=>(x.Bv,x.Bu,x.Bq,x.Br)) ⟨false,0,0,0⟩ rfl true (fun h=>by cases h)
instance fl_TEffect:Flat qqk:=qin (pairT instBool (pairT instInt (pairT instInt instInt))) (fun x:qqk=>(x.Bv,x.Bu,x.Bq,x.Br)) ⟨false,0,0,0⟩ rfl true (fun h=>by cases h) (qbJ _ _ (inferInstanceAs (Flat Bool)) (qbJ _ _ (inferInstanceAs (Flat Int)) (qbJ _ _ (inferInstanceAs (Flat Int)) (inferInstanceAs (Flat Int)))))
structure Tplace where
 instance_:Int
 pin:Int
 net:Int
 drives:Bool
instance gt_Tplace:GoT Tplace:=isoT (pairT instInt (pairT instInt (pairT instInt instBool))) (fun x=>(x.instance_,x.pin,x.net,x.drives)) ⟨0,0,0,false⟩ rfl true (fun h=>by cases h)
instance fl_Tplace:Flat Tplace:=qin (pairT instInt (pairT instInt (pairT instInt instBool))) (fun x:Tplace=>(x.instance_,x.pin,x.net,x.drives)) ⟨0,0,0,false⟩ rfl true (fun h=>by cases h) (qbJ _ _ (inferInstanceAs (Flat Int)) (qbJ _ _ (inferInstanceAs (Flat Int)) (qbJ _ _ (inferInstanceAs (Flat Int)) (inferInstanceAs (Flat Bool)))))
abbrev qlv (x:Tplace):List Value:=[.int .i64 x.instance_,.int .i64 x.pin,.int .i64 x.net,.bool x.drives]
theorem qce {x:Tplace} {cs:List Value} (h:GoT.R w S x cs):cs=(qlv x):=by
 obtain ⟨_,_,rfl,rfl,⟨_,_,rfl,rfl,⟨_,_,rfl,rfl,rfl⟩⟩⟩:=h
 exact rfl
theorem qgV (x:Tplace):GoT.R w S x (qlv x):=have h:=pR (rI x.instance_) (pR (rI x.pin) (pR (rI x.net) (rB x.drives)));h
structure qa0 where
 Av:Int
 To:Int
 Aq:Int
 Bs:Int
instance gt_TLink:GoT qa0:=isoT (pairT instInt (pairT instInt (pairT instInt instInt))) (fun x=>(x.Av,x.To,x.Aq,x.Bs)) ⟨0,0,0,0⟩ rfl true (fun h=>by cases h)
instance fl_TLink:Flat qa0:=qin (pairT instInt (pairT instInt (pairT instInt instInt))) (fun x:qa0=>(x.Av,x.To,x.Aq,x.Bs)) ⟨0,0,0,0⟩ rfl true (fun h=>by cases h) (qbJ _ _ (inferInstanceAs (Flat Int)) (qbJ _ _ (inferInstanceAs (Flat Int)) (qbJ _ _ (inferInstanceAs (Flat Int)) (inferInstanceAs (Flat Int)))))
abbrev qvS (x:qa0):List Value:=[.int .i64 x.Av,.int .i64 x.To,.int .i64 x.Aq,.int .i64 x.Bs]
theorem qpU (x:qa0):GoT.R w S x (qvS x):=have h:=pR (rI x.Av) (pR (rI x.To) (pR (rI x.Aq) (rI x.Bs)));h
structure Tview where
 Bi:qi
 places:(List Tplace)
 links:(List qa0)
 loads:(List Int)
 delays:(List (List Int))
 extras:(List Int)
instance gt_Tview:GoT Tview:=isoT (pairT gt_TBlock (pairT (@instList Tplace gt_Tplace) (pairT (@instList qa0 gt_TLink) (pairT (@instList Int instInt) (pairT (@instList (List Int) (@instList Int instInt)) (@instList Int instInt)))))) (fun x=>(x.Bi,x.places,x.links,x.loads,x.delays,x.extras)) ⟨(⟨(⟨[]⟩:qm),(⟨[],[],[]⟩:qe),[]⟩:qi),[],[],[],[],[]⟩ rfl true (fun h=>by cases h)
abbrev qvF (x:Tview) (p0 p1 p2 p3 p4 p5 p6 p7 p8 p9:Option Addr) (k0 k1 k2 k3 k4 k5 k6 k7 k8 k9:Nat):List Value:=[.slice p0 (x.Bi.Ai.Ah).length k0,.slice p1 (x.Bi.Ab.Aa).length k1,.slice p2 (x.Bi.Ab.Af).length k2,.slice p3 (x.Bi.Ab.Ac).length k3,.slice p4 (x.Bi.Aj).length k4,.slice p5 (x.places).length k5,.slice p6 (x.links).length k6,.slice p7 (x.loads).length k7,.slice p8 (x.delays).length k8,.slice p9 (x.extras).length k9]
theorem qhV {x:Tview} {cs:List Value} (h:GoT.R w S x cs):∃ p0 k0 p1 k1 p2 k2 p3 k3 p4 k4 p5 k5 p6 k6 p7 k7 p8 k8 p9 k9,cs=(qvF x p0 p1 p2 p3 p4 p5 p6 p7 p8 p9 k0 k1 k2 k3 k4 k5 k6 k7 k8 k9)∧SlR w S x.Bi.Ai.Ah p0 k0∧SlR w S x.Bi.Ab.Aa p1 k1∧SlR w S x.Bi.Ab.Af p2 k2∧SlR w S x.Bi.Ab.Ac p3 k3∧SlR w S x.Bi.Aj p4 k4∧SlR w S x.places p5 k5∧SlR w S x.links p6 k6∧SlR w S x.loads p7 k7∧SlR w S x.delays p8 k8∧SlR w S x.extras p9 k9:=by
 obtain ⟨_,_,rfl,⟨_,_,rfl,⟨p0,k0,rfl,s0⟩,⟨_,_,rfl,⟨_,_,rfl,⟨p1,k1,rfl,s1⟩,⟨_,_,rfl,⟨p2,k2,rfl,s2⟩,⟨p3,k3,rfl,s3⟩⟩⟩,⟨p4,k4,rfl,s4⟩⟩⟩,⟨_,_,rfl,⟨p5,k5,rfl,s5⟩,⟨_,_,rfl,⟨p6,k6,rfl,s6⟩,⟨_,_,rfl,⟨p7,k7,rfl,s7⟩,⟨_,_,rfl,⟨p8,k8,rfl,s8⟩,⟨p9,k9,rfl,s9⟩⟩⟩⟩⟩⟩:=h
 exact ⟨p0,k0,p1,k1,p2,k2,p3,k3,p4,k4,p5,k5,p6,k6,p7,k7,p8,k8,p9,k9,rfl,s0,s1,s2,s3,s4,s5,s6,s7,s8,s9⟩
structure Tl05Place where
 instance_:Int
 pin:Int
 net:Int
 drives:Bool
instance gt_Tl05Place:GoT Tl05Place:=isoT (pairT instInt (pairT instInt (pairT instInt instBool))) (fun x=>(x.instance_,x.pin,x.net,x.drives)) ⟨0,0,0,false⟩ rfl true (fun h=>by cases h)
instance fl_Tl05Place:Flat Tl05Place:=qin (pairT instInt (pairT instInt (pairT instInt instBool))) (fun x:Tl05Place=>(x.instance_,x.pin,x.net,x.drives)) ⟨0,0,0,false⟩ rfl true (fun h=>by cases h) (qbJ _ _ (inferInstanceAs (Flat Int)) (qbJ _ _ (inferInstanceAs (Flat Int)) (qbJ _ _ (inferInstanceAs (Flat Int)) (inferInstanceAs (Flat Bool)))))
abbrev qiu (x:Tl05Place):List Value:=[.int .i64 x.instance_,.int .i64 x.pin,.int .i64 x.net,.bool x.drives]
theorem qby {x:Tl05Place} {cs:List Value} (h:GoT.R w S x cs):cs=(qiu x):=by
 obtain ⟨_,_,rfl,rfl,⟨_,_,rfl,rfl,⟨_,_,rfl,rfl,rfl⟩⟩⟩:=h
 exact rfl
theorem qgC (x:Tl05Place):GoT.R w S x (qiu x):=have h:=pR (rI x.instance_) (pR (rI x.pin) (pR (rI x.net) (rB x.drives)));h
structure qL where
 e0:Int
 e1:Int
instance gt_TA2_Int:GoT qL:=isoT (pairT instInt instInt) (fun x=>(x.e0,x.e1)) ⟨0,0⟩ rfl true (fun h=>by cases h)
instance fl_TA2_Int:Flat qL:=qin (pairT instInt instInt) (fun x:qL=>(x.e0,x.e1)) ⟨0,0⟩ rfl true (fun h=>by cases h) (qbJ _ _ (inferInstanceAs (Flat Int)) (inferInstanceAs (Flat Int)))
abbrev qpO (x:qL):List Value:=[.int .i64 x.e0,.int .i64 x.e1]
theorem qqz {x:qL} {cs:List Value} (h:GoT.R w S x cs):cs=(qpO x):=by
 obtain ⟨_,_,rfl,rfl,rfl⟩:=h
 exact rfl
theorem qcE (x:qL):GoT.R w S x (qpO x):=have h:=pR (rI x.e0) (rI x.e1);h
structure qiC where
 Bp:Int
 Bt:Int
instance gt_TSpan:GoT qiC:=isoT (pairT instInt instInt) (fun x=>(x.Bp,x.Bt)) ⟨0,0⟩ rfl true (fun h=>by cases h)
instance fl_TSpan:Flat qiC:=qin (pairT instInt instInt) (fun x:qiC=>(x.Bp,x.Bt)) ⟨0,0⟩ rfl true (fun h=>by cases h) (qbJ _ _ (inferInstanceAs (Flat Int)) (inferInstanceAs (Flat Int)))
abbrev qsD (x:qiC):List Value:=[.int .i64 x.Bp,.int .i64 x.Bt]
theorem qrH {x:qiC} {cs:List Value} (h:GoT.R w S x cs):cs=(qsD x):=by
 obtain ⟨_,_,rfl,rfl,rfl⟩:=h
 exact rfl
theorem qpE (x:qiC):GoT.R w S x (qsD x):=have h:=pR (rI x.Bp) (rI x.Bt);h
def tab:Tab:=[
 (2,⟨.int .i64,1,8,some (.int .i64 0),[]⟩),
 (3,⟨.int .i64,1,8,some (.int .i64 0),[]⟩),
 (4,⟨.bool,1,1,some (.bool false),[]⟩),
 (5,⟨.int .u8,1,1,some (.int .u8 0),[]⟩),
 (9,⟨.str,1,16,some (.string ByteArray.empty),[]⟩),
 (22,⟨.slice 5,1,24,some (.slice none 0 0),[]⟩),
 (24,⟨.slice 201,1,24,some (.slice none 0 0),[]⟩),
 (26,⟨.struct,1,24,some (.agg #[.slice none 0 0]),[(0,1,some false)]⟩),
 (27,⟨.slice 191,1,24,some (.slice none 0 0),[]⟩),
 (28,⟨.slice 9,1,24,some (.slice none 0 0),[]⟩),
 (29,⟨.slice 155,1,24,some (.slice none 0 0),[]⟩),
 (31,⟨.struct,3,72,some (.agg #[.slice none 0 0,.slice none 0 0,.slice none 0 0]),[(0,1,some false),(1,1,some false),(2,1,some false)]⟩),
 (32,⟨.slice 148,1,24,some (.slice none 0 0),[]⟩),
 (34,⟨.struct,5,120,some (.agg #[.slice none 0 0,.slice none 0 0,.slice none 0 0,.slice none 0 0,.slice none 0 0]),[(0,1,some true),(1,3,some true),(4,1,some false)]⟩),
 (35,⟨.slice 106,1,24,some (.slice none 0 0),[]⟩),
 (36,⟨.slice 2,1,24,some (.slice none 0 0),[]⟩),
 (42,⟨.struct,4,32,some (.agg #[.bool false,.int .i64 0,.int .i64 0,.int .i64 0]),[(0,1,some false),(1,1,some false),(2,1,some false),(3,1,some false)]⟩),
 (47,⟨.slice 36,1,24,some (.slice none 0 0),[]⟩),
 (52,⟨.slice 230,1,24,some (.slice none 0 0),[]⟩),
 (54,⟨.struct,1,24,some (.agg #[.slice none 0 0]),[(0,1,some false)]⟩),
 (55,⟨.slice 232,1,24,some (.slice none 0 0),[]⟩),
 (56,⟨.slice 234,1,24,some (.slice none 0 0),[]⟩),
 (58,⟨.struct,3,72,some (.agg #[.slice none 0 0,.slice none 0 0,.slice none 0 0]),[(0,1,some false),(1,1,some false),(2,1,some false)]⟩),
 (59,⟨.slice 166,1,24,some (.slice none 0 0),[]⟩),
 (61,⟨.struct,5,120,some (.agg #[.slice none 0 0,.slice none 0 0,.slice none 0 0,.slice none 0 0,.slice none 0 0]),[(0,1,some true),(1,3,some true),(4,1,some false)]⟩),
 (62,⟨.slice 102,1,24,some (.slice none 0 0),[]⟩),
 (74,⟨.ptr,1,8,some (.pointer none),[]⟩),
 (88,⟨.slice 47,1,24,some (.slice none 0 0),[]⟩),
 (102,⟨.struct,5,88,some (.agg #[.int .i64 0,.int .i64 0,.slice none 0 0,.slice none 0 0,.slice none 0 0]),[(0,1,some false),(1,1,some false),(2,1,some false),(3,1,some false),(4,1,some false)]⟩),
 (106,⟨.struct,5,88,some (.agg #[.int .i64 0,.int .i64 0,.slice none 0 0,.slice none 0 0,.slice none 0 0]),[(0,1,some false),(1,1,some false),(2,1,some false),(3,1,some false),(4,1,some false)]⟩),
 (131,⟨.struct,4,32,some (.agg #[.int .i64 0,.int .i64 0,.int .i64 0,.bool false]),[(0,1,some false),(1,1,some false),(2,1,some false),(3,1,some false)]⟩),
 (132,⟨.slice 131,1,24,some (.slice none 0 0),[]⟩),
 (133,⟨.slice 194,1,24,some (.slice none 0 0),[]⟩),
 (135,⟨.struct,10,240,some (.agg #[.slice none 0 0,.slice none 0 0,.slice none 0 0,.slice none 0 0,.slice none 0 0,.slice none 0 0,.slice none 0 0,.slice none 0 0,.slice none 0 0,.slice none 0 0]),[(0,5,some true),(5,1,some false),(6,1,some false),(7,1,some false),(8,1,some false),(9,1,some false)]⟩),
 (148,⟨.struct,4,96,some (.agg #[.slice none 0 0,.slice none 0 0,.slice none 0 0,.slice none 0 0]),[(0,1,some false),(1,1,some false),(2,1,some false),(3,1,some false)]⟩),
 (151,⟨.struct,4,32,some (.agg #[.int .i64 0,.int .i64 0,.int .i64 0,.bool false]),[(0,1,some false),(1,1,some false),(2,1,some false),(3,1,some false)]⟩),
 (155,⟨.struct,3,32,some (.agg #[.string ByteArray.empty,.int .i64 0,.int .i64 0]),[(0,1,some false),(1,1,some false),(2,1,some false)]⟩),
 (166,⟨.struct,4,96,some (.agg #[.slice none 0 0,.slice none 0 0,.slice none 0 0,.slice none 0 0]),[(0,1,some false),(1,1,some false),(2,1,some false),(3,1,some false)]⟩),
 (181,⟨.slice 4,1,24,some (.slice none 0 0),[]⟩),
 (186,⟨.slice 151,1,24,some (.slice none 0 0),[]⟩),
 (191,⟨.struct,3,48,some (.agg #[.string ByteArray.empty,.int .i64 0,.slice none 0 0]),[(0,1,some false),(1,1,some false),(2,1,some false)]⟩),
 (194,⟨.struct,4,32,some (.agg #[.int .i64 0,.int .i64 0,.int .i64 0,.int .i64 0]),[(0,1,some false),(1,1,some false),(2,1,some false),(3,1,some false)]⟩),
 (198,⟨.slice 218,1,24,some (.slice none 0 0),[]⟩),
 (199,⟨.slice 206,1,24,some (.slice none 0 0),[]⟩),
 (201,⟨.struct,7,112,some (.agg #[.string ByteArray.empty,.int .i64 0,.slice none 0 0,.slice none 0 0,.slice none 0 0,.int .i64 0,.int .i64 0]),[(0,1,some false),(1,1,some false),(2,1,some false),(3,1,some false),(4,1,some false),(5,1,some false),(6,1,some false)]⟩),
 (204,⟨.slice 292,1,24,some (.slice none 0 0),[]⟩),
 (206,⟨.struct,6,80,some (.agg #[.int .i64 0,.int .i64 0,.int .i64 0,.int .i64 0,.slice none 0 0,.slice none 0 0]),[(0,1,some false),(1,1,some false),(2,1,some false),(3,1,some false),(4,1,some false),(5,1,some false)]⟩),
 (218,⟨.struct,4,40,some (.agg #[.string ByteArray.empty,.int .i64 0,.int .i64 0,.bool false]),[(0,1,some false),(1,1,some false),(2,1,some false),(3,1,some false)]⟩),
 (219,⟨.slice 3,1,24,some (.slice none 0 0),[]⟩),
 (227,⟨.slice 282,1,24,some (.slice none 0 0),[]⟩),
 (228,⟨.slice 286,1,24,some (.slice none 0 0),[]⟩),
 (230,⟨.struct,7,112,some (.agg #[.string ByteArray.empty,.int .i64 0,.slice none 0 0,.slice none 0 0,.slice none 0 0,.int .i64 0,.int .i64 0]),[(0,1,some false),(1,1,some false),(2,1,some false),(3,1,some false),(4,1,some false),(5,1,some false),(6,1,some false)]⟩),
 (232,⟨.struct,3,48,some (.agg #[.string ByteArray.empty,.int .i64 0,.slice none 0 0]),[(0,1,some false),(1,1,some false),(2,1,some false)]⟩),
 (234,⟨.struct,3,32,some (.agg #[.string ByteArray.empty,.int .i64 0,.int .i64 0]),[(0,1,some false),(1,1,some false),(2,1,some false)]⟩),
 (252,⟨.slice 254,1,24,some (.slice none 0 0),[]⟩),
 (254,⟨.arr 2 2,2,16,some (.agg #[.int .i64 0,.int .i64 0]),[]⟩),
 (261,⟨.int .u64,1,8,some (.int .u64 0),[]⟩),
 (282,⟨.struct,4,40,some (.agg #[.string ByteArray.empty,.int .i64 0,.int .i64 0,.bool false]),[(0,1,some false),(1,1,some false),(2,1,some false),(3,1,some false)]⟩),
 (284,⟨.slice 311,1,24,some (.slice none 0 0),[]⟩),
 (286,⟨.struct,6,80,some (.agg #[.int .i64 0,.int .i64 0,.int .i64 0,.int .i64 0,.slice none 0 0,.slice none 0 0]),[(0,1,some false),(1,1,some false),(2,1,some false),(3,1,some false),(4,1,some false),(5,1,some false)]⟩),
 (292,⟨.struct,3,72,some (.agg #[.slice none 0 0,.slice none 0 0,.slice none 0 0]),[(0,1,some false),(1,1,some false),(2,1,some false)]⟩),
 (307,⟨.struct,2,16,some (.agg #[.int .i64 0,.int .i64 0]),[(0,1,some false),(1,1,some false)]⟩),
 (311,⟨.struct,3,72,some (.agg #[.slice none 0 0,.slice none 0 0,.slice none 0 0]),[(0,1,some false),(1,1,some false),(2,1,some false)]⟩)]
theorem qc:TabOk Tryz.prog tab:=TabOk.mk (by kernel_rfl)
theorem rp {n:Nat} {Q:Exit→Act→World→Prop} {k:List It} {e:Env} {w:World} {all:Array Oper} {l:List Oper} {op:Op} {d t:Nat} {ps:String} {af:Array Edge} {v:Value}
  (h:pev tab e op=some v) (hn:Nat.blt d n=true) (hk:Run Tryz.prog n Q (.ops all l::k) ((d,v)::e) w):Run Tryz.prog n Q (.ops all (⟨some d,op,t,ps,af,none⟩::l)::k) e w:=r_p qc h hn hk
theorem dp {n:Nat} {Q:Exit→Act→World→Prop} {k:List It} {e:Env} {w:World} {all:Array Oper} {l:List Oper} {op:Op} {d t:Nat} {ps:String} {af:Array Edge} {v:Value}
  (h:pev tab e op=some v) (hn:Nat.blt d n=true) (hk:RunD Tryz.prog n Q k all w l ((d,v)::e)):RunD Tryz.prog n Q k all w (⟨some d,op,t,ps,af,none⟩::l) e:=d_p qc h hn hk
section
variable {P:Program} {n:Nat} {Q:Exit→Act→World→Prop} {k:List It} {e:Env} {w:World}
theorem zSR {i4:Nat} {o5:List Oper} {x3:Code} (h:Run P n Q (.ops o5.toArray o5::.code x3::k) e w):Run P n Q (.code (.seq (.region i4 o5.toArray false) x3)::k) e w:=qgw <| qkn h
theorem zKSR {i5:Nat} {o6:List Oper} {x4:Code} (h:Run P n Q (.ops o6.toArray o6::.code x4::k) e w):Run P n Q (.code .skip::.code (.seq (.region i5 o6.toArray false) x4)::k) e w:=qhW <| qgw <| qkn h
theorem zNSR {a1:Array Oper} {i5:Nat} {o6:List Oper} {x4:Code} (h:Run P n Q (.ops o6.toArray o6::.code x4::k) e w):Run P n Q (.ops a1 []::.code (.seq (.region i5 o6.toArray false) x4)::k) e w:=qec <| qgw <| qkn h
theorem zKS {x3:Code} {x4:Code} (h:Run P n Q (.code x3::.code x4::k) e w):Run P n Q (.code .skip::.code (.seq x3 x4)::k) e w:=qhW <| qgw h
theorem zNS {a1:Array Oper} {x3:Code} {x4:Code} (h:Run P n Q (.code x3::.code x4::k) e w):Run P n Q (.ops a1 []::.code (.seq x3 x4)::k) e w:=qec <| qgw h
theorem zNSS {a1:Array Oper} {x5:Code} {x6:Code} {x4:Code} (h:Run P n Q (.code x5::.code x6::.code x4::k) e w):Run P n Q (.ops a1 []::.code (.seq (.seq x5 x6) x4)::k) e w:=qec <| qgw <| qgw h
theorem zKSB {i5:Nat} {x6:Code} {x4:Code} (h:Run P n Q (.code x6::.blk i5::.code x4::k) e w):Run P n Q (.code .skip::.code (.seq (.block i5 x6) x4)::k) e w:=qhW <| qgw <| qk h
theorem zKSBSR {i5:Nat} {i9:Nat} {o10:List Oper} {x8:Code} {x4:Code} (h:Run P n Q (.ops o10.toArray o10::.code x8::.blk i5::.code x4::k) e w):Run P n Q (.code .skip::.code (.seq (.block i5 (.seq (.region i9 o10.toArray false) x8)) x4)::k) e w:=qhW <| qgw <| qk <| qgw <| qkn h
theorem zSS {x4:Code} {x5:Code} {x3:Code} (h:Run P n Q (.code x4::.code x5::.code x3::k) e w):Run P n Q (.code (.seq (.seq x4 x5) x3)::k) e w:=qgw <| qgw h
theorem zKSS {x5:Code} {x6:Code} {x4:Code} (h:Run P n Q (.code x5::.code x6::.code x4::k) e w):Run P n Q (.code .skip::.code (.seq (.seq x5 x6) x4)::k) e w:=qhW <| qgw <| qgw h
end
section
variable {w0 w:World} {L:List Ch} {n:Nat} {Q:Exit→Act→World→Prop} {k k':List It} {e e':Env} {all:Array Oper} {l l':List Oper} {z:List Nat}
theorem X0 (m:Nat) (hh:xs tab n m [] k e [] []=some (k',e',z,z)) (hk:Run Tryz.prog n Q k' e' w):Run Tryz.prog n Q k e w:=((qrp (P:=Tryz.prog) (Q:=Q) (w:=w) qc m _ _ _ _ _ _ _ _ _ (fun _ h=>by cases h) rfl hh).2 rfl).2 hk
theorem Y0 (m:Nat) (hh:xd tab n all m [] l e [] []=some (l',e',z,z)) (hk:RunD Tryz.prog n Q k all w l' e'):RunD Tryz.prog n Q k all w l e:=((qv3 (P:=Tryz.prog) (Q:=Q) (k:=k) (w:=w) (all:=all) qc m _ _ _ _ _ _ _ _ _ (fun _ h=>by cases h) rfl hh).2 rfl).2 hk
theorem X1 (m:Nat) (i0:Nat) {b0 t0:Nat} {cs0:List Value} (h:SH w0 w L) (hh:(L[i0]?,xs tab n m [(b0,cs0)] k e [] [])=(some (Ch.box b0 cs0 t0),some (k',e',z,z))) (hk:Run Tryz.prog n Q k' e' w):Run Tryz.prog n Q k e w:=by
 simp only [Prod.mk.injEq] at hh
 exact ((qrp (P:=Tryz.prog) (Q:=Q) (w:=w) qc m _ _ _ _ _ _ _ _ _ (fun p hp=>by
  simp only [Je,Jd,or_false] at hp
  rcases hp with rfl
  ·exact h.box i0 hh.1) rfl hh.2).2 rfl).2 hk
theorem Y1 (m:Nat) (i0:Nat) {b0 t0:Nat} {cs0:List Value} (h:SH w0 w L) (hh:(L[i0]?,xd tab n all m [(b0,cs0)] l e [] [])=(some (Ch.box b0 cs0 t0),some (l',e',z,z))) (hk:RunD Tryz.prog n Q k all w l' e'):RunD Tryz.prog n Q k all w l e:=by
 simp only [Prod.mk.injEq] at hh
 exact ((qv3 (P:=Tryz.prog) (Q:=Q) (k:=k) (w:=w) (all:=all) qc m _ _ _ _ _ _ _ _ _ (fun p hp=>by
  simp only [Je,Jd,or_false] at hp
  rcases hp with rfl
  ·exact h.box i0 hh.1) rfl hh.2).2 rfl).2 hk
theorem X2 (m:Nat) (i0 i1:Nat) {b0 t0:Nat} {cs0:List Value} {b1 t1:Nat} {cs1:List Value} (h:SH w0 w L) (hh:(L[i0]?,L[i1]?,xs tab n m [(b0,cs0),(b1,cs1)] k e [] [])=(some (Ch.box b0 cs0 t0),some (Ch.box b1 cs1 t1),some (k',e',z,z))) (hk:Run Tryz.prog n Q k' e' w):Run Tryz.prog n Q k e w:=by
 simp only [Prod.mk.injEq] at hh
 exact ((qrp (P:=Tryz.prog) (Q:=Q) (w:=w) qc m _ _ _ _ _ _ _ _ _ (fun p hp=>by
  simp only [Je,Jd,or_false] at hp
  rcases hp with rfl|rfl
  ·exact h.box i0 hh.1
  ·exact h.box i1 hh.2.1) rfl hh.2.2).2 rfl).2 hk
theorem X3 (m:Nat) (i0 i1 i2:Nat) {b0 t0:Nat} {cs0:List Value} {b1 t1:Nat} {cs1:List Value} {b2 t2:Nat} {cs2:List Value} (h:SH w0 w L) (hh:(L[i0]?,L[i1]?,L[i2]?,xs tab n m [(b0,cs0),(b1,cs1),(b2,cs2)] k e [] [])=(some (Ch.box b0 cs0 t0),some (Ch.box b1 cs1 t1),some (Ch.box b2 cs2 t2),some (k',e',z,z))) (hk:Run Tryz.prog n Q k' e' w):Run Tryz.prog n Q k e w:=by
 simp only [Prod.mk.injEq] at hh
 exact ((qrp (P:=Tryz.prog) (Q:=Q) (w:=w) qc m _ _ _ _ _ _ _ _ _ (fun p hp=>by
  simp only [Je,Jd,or_false] at hp
  rcases hp with rfl|rfl|rfl
  ·exact h.box i0 hh.1
  ·exact h.box i1 hh.2.1
  ·exact h.box i2 hh.2.2.1) rfl hh.2.2.2).2 rfl).2 hk
theorem X4 (m:Nat) (i0 i1 i2 i3:Nat) {b0 t0:Nat} {cs0:List Value} {b1 t1:Nat} {cs1:List Value} {b2 t2:Nat} {cs2:List Value} {b3 t3:Nat} {cs3:List Value} (h:SH w0 w L) (hh:(L[i0]?,L[i1]?,L[i2]?,L[i3]?,xs tab n m [(b0,cs0),(b1,cs1),(b2,cs2),(b3,cs3)] k e [] [])=(some (Ch.box b0 cs0 t0),some (Ch.box b1 cs1 t1),some (Ch.box b2 cs2 t2),some (Ch.box b3 cs3 t3),some (k',e',z,z))) (hk:Run Tryz.prog n Q k' e' w):Run Tryz.prog n Q k e w:=by
 simp only [Prod.mk.injEq] at hh
 exact ((qrp (P:=Tryz.prog) (Q:=Q) (w:=w) qc m _ _ _ _ _ _ _ _ _ (fun p hp=>by
  simp only [Je,Jd,or_false] at hp
  rcases hp with rfl|rfl|rfl|rfl
  ·exact h.box i0 hh.1
  ·exact h.box i1 hh.2.1
  ·exact h.box i2 hh.2.2.1
  ·exact h.box i3 hh.2.2.2.1) rfl hh.2.2.2.2).2 rfl).2 hk
end
section
variable {w0 w:World} {L:List Ch} {n:Nat} {Q:Exit→Act→World→Prop} {k:List It} {e:Env} {all:Array Oper} {l:List Oper}
theorem zp1 {op0:Op} {d0 t0:Nat} {s0:String} {f0:Array Edge} {v0:Value} (h:(pev tab (e) op0,Nat.blt d0 n)=(some v0,true)) (hk:Run Tryz.prog n Q (.ops all l::k) ((d0,v0)::e) w):Run Tryz.prog n Q (.ops all (⟨some d0,op0,t0,s0,f0,none⟩::l)::k) e w:=by
 have H:=h
 simp only [Prod.mk.injEq] at H
 exact rp (H.1) (H.2) (hk)
theorem zd1 {op0:Op} {d0 t0:Nat} {s0:String} {f0:Array Edge} {v0:Value} (h:(pev tab (e) op0,Nat.blt d0 n)=(some v0,true)) (hk:RunD Tryz.prog n Q k all w l ((d0,v0)::e)):RunD Tryz.prog n Q k all w (⟨some d0,op0,t0,s0,f0,none⟩::l) e:=by
 have H:=h
 simp only [Prod.mk.injEq] at H
 exact dp (H.1) (H.2) (hk)
theorem zp2 {op0:Op} {d0 t0:Nat} {s0:String} {f0:Array Edge} {v0:Value} {op1:Op} {d1 t1:Nat} {s1:String} {f1:Array Edge} {v1:Value} (h:(pev tab (e) op0,Nat.blt d0 n,pev tab ((d0,v0)::e) op1,Nat.blt d1 n)=(some v0,true,some v1,true)) (hk:Run Tryz.prog n Q (.ops all l::k) ((d1,v1)::(d0,v0)::e) w):Run Tryz.prog n Q (.ops all (⟨some d0,op0,t0,s0,f0,none⟩::⟨some d1,op1,t1,s1,f1,none⟩::l)::k) e w:=by
 have H:=h
 simp only [Prod.mk.injEq] at H
 exact rp (H.1) (H.2.1) (rp (H.2.2.1) (H.2.2.2) (hk))
theorem zd2 {op0:Op} {d0 t0:Nat} {s0:String} {f0:Array Edge} {v0:Value} {op1:Op} {d1 t1:Nat} {s1:String} {f1:Array Edge} {v1:Value} (h:(pev tab (e) op0,Nat.blt d0 n,pev tab ((d0,v0)::e) op1,Nat.blt d1 n)=(some v0,true,some v1,true)) (hk:RunD Tryz.prog n Q k all w l ((d1,v1)::(d0,v0)::e)):RunD Tryz.prog n Q k all w (⟨some d0,op0,t0,s0,f0,none⟩::⟨some d1,op1,t1,s1,f1,none⟩::l) e:=by
 have H:=h
 simp only [Prod.mk.injEq] at H
 exact dp (H.1) (H.2.1) (dp (H.2.2.1) (H.2.2.2) (hk))
theorem zp3 {op0:Op} {d0 t0:Nat} {s0:String} {f0:Array Edge} {v0:Value} {op1:Op} {d1 t1:Nat} {s1:String} {f1:Array Edge} {v1:Value} {op2:Op} {d2 t2:Nat} {s2:String} {f2:Array Edge} {v2:Value} (h:(pev tab (e) op0,Nat.blt d0 n,pev tab ((d0,v0)::e) op1,Nat.blt d1 n,pev tab ((d1,v1)::(d0,v0)::e) op2,Nat.blt d2 n)=(some v0,true,some v1,true,some v2,true)) (hk:Run Tryz.prog n Q (.ops all l::k) ((d2,v2)::(d1,v1)::(d0,v0)::e) w):Run Tryz.prog n Q (.ops all (⟨some d0,op0,t0,s0,f0,none⟩::⟨some d1,op1,t1,s1,f1,none⟩::⟨some d2,op2,t2,s2,f2,none⟩::l)::k) e w:=by
 have H:=h
 simp only [Prod.mk.injEq] at H
 exact rp (H.1) (H.2.1) (rp (H.2.2.1) (H.2.2.2.1) (rp (H.2.2.2.2.1) (H.2.2.2.2.2) (hk)))
theorem zd3 {op0:Op} {d0 t0:Nat} {s0:String} {f0:Array Edge} {v0:Value} {op1:Op} {d1 t1:Nat} {s1:String} {f1:Array Edge} {v1:Value} {op2:Op} {d2 t2:Nat} {s2:String} {f2:Array Edge} {v2:Value} (h:(pev tab (e) op0,Nat.blt d0 n,pev tab ((d0,v0)::e) op1,Nat.blt d1 n,pev tab ((d1,v1)::(d0,v0)::e) op2,Nat.blt d2 n)=(some v0,true,some v1,true,some v2,true)) (hk:RunD Tryz.prog n Q k all w l ((d2,v2)::(d1,v1)::(d0,v0)::e)):RunD Tryz.prog n Q k all w (⟨some d0,op0,t0,s0,f0,none⟩::⟨some d1,op1,t1,s1,f1,none⟩::⟨some d2,op2,t2,s2,f2,none⟩::l) e:=by
 have H:=h
 simp only [Prod.mk.injEq] at H
 exact dp (H.1) (H.2.1) (dp (H.2.2.1) (H.2.2.2.1) (dp (H.2.2.2.2.1) (H.2.2.2.2.2) (hk)))
theorem zp5 {op0:Op} {d0 t0:Nat} {s0:String} {f0:Array Edge} {v0:Value} {op1:Op} {d1 t1:Nat} {s1:String} {f1:Array Edge} {v1:Value} {op2:Op} {d2 t2:Nat} {s2:String} {f2:Array Edge} {v2:Value} {op3:Op} {d3 t3:Nat} {s3:String} {f3:Array Edge} {v3:Value} {op4:Op} {d4 t4:Nat} {s4:String} {f4:Array Edge} {v4:Value} (h:(pev tab (e) op0,Nat.blt d0 n,pev tab ((d0,v0)::e) op1,Nat.blt d1 n,pev tab ((d1,v1)::(d0,v0)::e) op2,Nat.blt d2 n,pev tab ((d2,v2)::(d1,v1)::(d0,v0)::e) op3,Nat.blt d3 n,pev tab ((d3,v3)::(d2,v2)::(d1,v1)::(d0,v0)::e) op4,Nat.blt d4 n)=(some v0,true,some v1,true,some v2,true,some v3,true,some v4,true)) (hk:Run Tryz.prog n Q (.ops all l::k) ((d4,v4)::(d3,v3)::(d2,v2)::(d1,v1)::(d0,v0)::e) w):Run Tryz.prog n Q (.ops all (⟨some d0,op0,t0,s0,f0,none⟩::⟨some d1,op1,t1,s1,f1,none⟩::⟨some d2,op2,t2,s2,f2,none⟩::⟨some d3,op3,t3,s3,f3,none⟩::⟨some d4,op4,t4,s4,f4,none⟩::l)::k) e w:=by
 have H:=h
 simp only [Prod.mk.injEq] at H
 exact rp (H.1) (H.2.1) (rp (H.2.2.1) (H.2.2.2.1) (rp (H.2.2.2.2.1) (H.2.2.2.2.2.1) (rp (H.2.2.2.2.2.2.1) (H.2.2.2.2.2.2.2.1) (rp (H.2.2.2.2.2.2.2.2.1) (H.2.2.2.2.2.2.2.2.2) (hk)))))
theorem zl (i j:Nat) {d t ty:Nat} {x:Operand} {te:TE} {ps:String} {af:Array Edge} {v:Value} {b:Nat} {cs:List Value} {t':TypeId} (h:SH w0 w L) (hh:(L[i]?,opv e x,tab.get t,ld te cs j,Nat.blt d n)=(some (Ch.box b cs t'),some (.pointer (some ⟨b,0+j,none⟩)),some te,some v,true))
  (hk:Run Tryz.prog n Q (.ops all l::k) ((d,v)::e) w):Run Tryz.prog n Q (.ops all (⟨some d,.load t x,ty,ps,af,none⟩::l)::k) e w:=by
 simp only [Prod.mk.injEq] at hh
 exact r_v (qjg qc (h.box i hh.1) (j:=j) hh.2.1 hh.2.2.1 hh.2.2.2.1) hh.2.2.2.2 hk
theorem zc (j:Nat) {d t ty:Nat} {x:Operand} {te:TE} {ps:String} {af:Array Edge} {v:Value} {b o:Nat} {cs:List Value} (h:CellsAt w b o cs) (hh:(opv e x,tab.get t,ld te cs j,Nat.blt d n)=(some (.pointer (some ⟨b,o+j,none⟩)),some te,some v,true))
  (hk:Run Tryz.prog n Q (.ops all l::k) ((d,v)::e) w):Run Tryz.prog n Q (.ops all (⟨some d,.load t x,ty,ps,af,none⟩::l)::k) e w:=by
 simp only [Prod.mk.injEq] at hh
 exact r_v (qjg qc h (j:=j) hh.1 hh.2.1 hh.2.2.1) hh.2.2.2 hk
theorem zdc (j:Nat) {d t ty:Nat} {x:Operand} {te:TE} {ps:String} {af:Array Edge} {v:Value} {b o:Nat} {cs:List Value} (h:CellsAt w b o cs) (hh:(opv e x,tab.get t,ld te cs j,Nat.blt d n)=(some (.pointer (some ⟨b,o+j,none⟩)),some te,some v,true))
  (hk:RunD Tryz.prog n Q k all w l ((d,v)::e)):RunD Tryz.prog n Q k all w (⟨some d,.load t x,ty,ps,af,none⟩::l) e:=by
 simp only [Prod.mk.injEq] at hh
 exact d_v (fun _ hb=>qjg qc (h.below hb) (j:=j) hh.1 hh.2.1 hh.2.2.1) hh.2.2.2 hk
theorem zx {x i:Operand} {t ty d el m:Nat} {te te1:TE} {ps:String} {af:Array Edge} {p:Option Addr} {ln c:Nat} {kd:IntKind} {iv:Int} {b o q:Nat} (hp:p=some ⟨b,o,none⟩) (hq:q=o+iv.toNat*m) (hlt:0≤iv∧iv<ln) (hh:(opv e x,opv e i,tab.get t,te.kind,tab.get el,te1.size,Nat.blt d n)=(some (.slice p ln c),some (.int kd iv),some te,TK.slice el,some te1,m,true)) (hk:Run Tryz.prog n Q (.ops all l::k) ((d,.pointer (some ⟨b,q,none⟩))::e) w):Run Tryz.prog n Q (.ops all (⟨some d,.indexAddr t x i,ty,ps,af,none⟩::l)::k) e w:=by
 simp only [Prod.mk.injEq] at hh
 exact r_v (qnL qc hp hq hlt hh.1 hh.2.1 hh.2.2.1 hh.2.2.2.1 hh.2.2.2.2.1 hh.2.2.2.2.2.1) hh.2.2.2.2.2.2 hk
theorem zxe {x i:Operand} {t ty d el m:Nat} {te te1:TE} {ps:String} {af:Array Edge} {p:Option Addr} {ln c:Nat} {kd:IntKind} {iv:Int} {b o q:Nat} {α:Prop} (hp:p=some ⟨b,o,none⟩) (hq:q=o+iv.toNat*m) (hlt:0≤iv∧iv<ln∧α) (hh:(opv e x,opv e i,tab.get t,te.kind,tab.get el,te1.size,Nat.blt d n)=(some (.slice p ln c),some (.int kd iv),some te,TK.slice el,some te1,m,true)) (hk:Run Tryz.prog n Q (.ops all l::k) ((d,.pointer (some ⟨b,q,none⟩))::e) w):Run Tryz.prog n Q (.ops all (⟨some d,.indexAddr t x i,ty,ps,af,none⟩::l)::k) e w:=zx hp hq ⟨hlt.1,hlt.2.1⟩ hh hk
theorem zdx {x i:Operand} {t ty d el m:Nat} {te te1:TE} {ps:String} {af:Array Edge} {p:Option Addr} {ln c:Nat} {kd:IntKind} {iv:Int} {b o q:Nat} (hp:p=some ⟨b,o,none⟩) (hq:q=o+iv.toNat*m) (hlt:0≤iv∧iv<ln) (hh:(opv e x,opv e i,tab.get t,te.kind,tab.get el,te1.size,Nat.blt d n)=(some (.slice p ln c),some (.int kd iv),some te,TK.slice el,some te1,m,true)) (hk:RunD Tryz.prog n Q k all w l ((d,.pointer (some ⟨b,q,none⟩))::e)):RunD Tryz.prog n Q k all w (⟨some d,.indexAddr t x i,ty,ps,af,none⟩::l) e:=by
 simp only [Prod.mk.injEq] at hh
 exact d_v (fun _ _=>qnL qc hp hq hlt hh.1 hh.2.1 hh.2.2.1 hh.2.2.2.1 hh.2.2.2.2.1 hh.2.2.2.2.2.1) hh.2.2.2.2.2.2 hk
theorem zdxe {x i:Operand} {t ty d el m:Nat} {te te1:TE} {ps:String} {af:Array Edge} {p:Option Addr} {ln c:Nat} {kd:IntKind} {iv:Int} {b o q:Nat} {α:Prop} (hp:p=some ⟨b,o,none⟩) (hq:q=o+iv.toNat*m) (hlt:0≤iv∧iv<ln∧α) (hh:(opv e x,opv e i,tab.get t,te.kind,tab.get el,te1.size,Nat.blt d n)=(some (.slice p ln c),some (.int kd iv),some te,TK.slice el,some te1,m,true)) (hk:RunD Tryz.prog n Q k all w l ((d,.pointer (some ⟨b,q,none⟩))::e)):RunD Tryz.prog n Q k all w (⟨some d,.indexAddr t x i,ty,ps,af,none⟩::l) e:=zdx hp hq ⟨hlt.1,hlt.2.1⟩ hh hk
theorem zs (i:Nat) {t ty:Nat} {ps:String} {af:Array Edge} {x v:Operand} {te:TE} {b j:Nat} {cs us cs':List Value} {t':TypeId} {u:Value} {L':List Ch} (h:SH w0 w L)
  (hh:(L[i]?,opv e x,opv e v,cellsL u,tab.get t,Nat.beq us.length te.size,Nat.ble (j+us.length) cs.length,ones us,splN cs j us,setN L i (Ch.box b cs' t'))=(some (Ch.box b cs t'),some (.pointer (some ⟨b,j,none⟩)),some u,us,some te,true,true,true,some cs',some L'))
  (hk:∀ w',SH w0 w' L'→Run Tryz.prog n Q (.ops all l::k) e w'):Run Tryz.prog n Q (.ops all (⟨none,.store t x v,ty,ps,af,none⟩::l)::k) e w:=by
 simp only [Prod.mk.injEq] at hh
 obtain ⟨h1,h2,h3,h4,h5,h6,h7,h8,h9,h10⟩:=hh
 subst h4
 have e1:=qqg h9
 have e2:=qsR h10
 subst e1 e2
 exact qvm qc i h h1 h2 h3 h5 h6 h7 h8 hk
end
section
variable {P:Program} {fnc:Func} {R:Ending→World→Prop} {n:Nat} {k:List It} {e:Env} {w0 w:World} {ops:Array Oper} {st:List Nat} {fuel:Nat}
theorem M0 (K:Nat) (is:List Nat) {C:World→Prop} {m K0 f f':Nat} {e':Env} {z:List Nat} (hC:C w) (hh:xa tab n ops is [] f e [] []=some (f',e',z,z))
  (hk:RunA Tryz.prog n (bodyPost Tryz.prog fnc R) k ops st C f' (bits m K) e' w) (ho:oka ops st is (bits m K0) (bits m K)=true:=by kernel_rfl):RunA Tryz.prog n (bodyPost Tryz.prog fnc R) k ops st C f (bits m K0) e w:=by
 exact ((qsM (C:=C) (w:=w) (P:=Tryz.prog) qc hC is _ _ _ _ _ _ _ _ _ _ _ (fun _ h=>by cases h) rfl hh ho).2 rfl).2 hk
theorem G0 (K:Nat) (is:List Nat) {C:World→Prop} {m K0 f f':Nat} {e':Env} {z:List Nat} {all:Array Oper} (hC:C w) (hh:xa tab n ops is [] f e [] []=some (f',e',z,z))
  (hk:RunA Tryz.prog n (bodyPost Tryz.prog fnc R) k ops st C f' (bits m K) e' w) (ho:oka ops st is (bits m K0) (bits m K)=true:=by kernel_rfl):Run Tryz.prog n (bodyPost Tryz.prog fnc R) (.ops all []::.goal (NextA Tryz.prog n (bodyPost Tryz.prog fnc R) k ops st C f (bits m K0))::k) e w :=
 Ag hC (M0 K is (C:=C) hC hh hk ho)
theorem M1 (K:Nat) (is:List Nat) (i0:Nat) {b0 t0:Nat} {cs0:List Value} {LA:List Ch} {m K0 f f':Nat} {e':Env} {z:List Nat} (hC:SH w0 w LA) (hh:(LA[i0]?,xa tab n ops is [(b0,cs0)] f e [] [])=(some (Ch.box b0 cs0 t0),some (f',e',z,z)))
  (hk:RunA Tryz.prog n (bodyPost Tryz.prog fnc R) k ops st (fun w'=>SH w0 w' LA) f' (bits m K) e' w) (ho:oka ops st is (bits m K0) (bits m K)=true:=by kernel_rfl):RunA Tryz.prog n (bodyPost Tryz.prog fnc R) k ops st (fun w'=>SH w0 w' LA) f (bits m K0) e w:=by
 simp only [Prod.mk.injEq] at hh
 exact ((qsM (C:=(fun w'=>SH w0 w' LA)) (w:=w) (P:=Tryz.prog) qc hC is _ _ _ _ _ _ _ _ _ _ _ (fun p hp w1 hw=>by
  simp only [Je,Jd,or_false] at hp
  rcases hp with rfl
  ·exact SH.box hw i0 hh.1) rfl hh.2 ho).2 rfl).2 hk
theorem M2 (K:Nat) (is:List Nat) (i0 i1:Nat) {b0 t0:Nat} {cs0:List Value} {b1 t1:Nat} {cs1:List Value} {LA:List Ch} {m K0 f f':Nat} {e':Env} {z:List Nat} (hC:SH w0 w LA) (hh:(LA[i0]?,LA[i1]?,xa tab n ops is [(b0,cs0),(b1,cs1)] f e [] [])=(some (Ch.box b0 cs0 t0),some (Ch.box b1 cs1 t1),some (f',e',z,z)))
  (hk:RunA Tryz.prog n (bodyPost Tryz.prog fnc R) k ops st (fun w'=>SH w0 w' LA) f' (bits m K) e' w) (ho:oka ops st is (bits m K0) (bits m K)=true:=by kernel_rfl):RunA Tryz.prog n (bodyPost Tryz.prog fnc R) k ops st (fun w'=>SH w0 w' LA) f (bits m K0) e w:=by
 simp only [Prod.mk.injEq] at hh
 exact ((qsM (C:=(fun w'=>SH w0 w' LA)) (w:=w) (P:=Tryz.prog) qc hC is _ _ _ _ _ _ _ _ _ _ _ (fun p hp w1 hw=>by
  simp only [Je,Jd,or_false] at hp
  rcases hp with rfl|rfl
  ·exact SH.box hw i0 hh.1
  ·exact SH.box hw i1 hh.2.1) rfl hh.2.2 ho).2 rfl).2 hk
theorem M3 (K:Nat) (is:List Nat) (i0 i1 i2:Nat) {b0 t0:Nat} {cs0:List Value} {b1 t1:Nat} {cs1:List Value} {b2 t2:Nat} {cs2:List Value} {LA:List Ch} {m K0 f f':Nat} {e':Env} {z:List Nat} (hC:SH w0 w LA) (hh:(LA[i0]?,LA[i1]?,LA[i2]?,xa tab n ops is [(b0,cs0),(b1,cs1),(b2,cs2)] f e [] [])=(some (Ch.box b0 cs0 t0),some (Ch.box b1 cs1 t1),some (Ch.box b2 cs2 t2),some (f',e',z,z)))
  (hk:RunA Tryz.prog n (bodyPost Tryz.prog fnc R) k ops st (fun w'=>SH w0 w' LA) f' (bits m K) e' w) (ho:oka ops st is (bits m K0) (bits m K)=true:=by kernel_rfl):RunA Tryz.prog n (bodyPost Tryz.prog fnc R) k ops st (fun w'=>SH w0 w' LA) f (bits m K0) e w:=by
 simp only [Prod.mk.injEq] at hh
 exact ((qsM (C:=(fun w'=>SH w0 w' LA)) (w:=w) (P:=Tryz.prog) qc hC is _ _ _ _ _ _ _ _ _ _ _ (fun p hp w1 hw=>by
  simp only [Je,Jd,or_false] at hp
  rcases hp with rfl|rfl|rfl
  ·exact SH.box hw i0 hh.1
  ·exact SH.box hw i1 hh.2.1
  ·exact SH.box hw i2 hh.2.2.1) rfl hh.2.2.2 ho).2 rfl).2 hk
theorem Aw (i K:Nat) {C:World→Prop} {m K0 d:Nat} {op:Op} {t:Nat} {ps:String} {af:Array Edge} {v:Value} (hv:∀ w',C w'→Val Tryz.prog n e ⟨some d,op,t,ps,af,none⟩ w' v) (hC:C w) (hh:(ops[i]?,Nat.blt d n)=(some (⟨some d,op,t,ps,af,none⟩:Oper),true))
  (hk:RunA Tryz.prog n (bodyPost Tryz.prog fnc R) k ops st C fuel (bits m K) ((d,v)::e) w) (hl:(bits m K0).setIfInBounds i true=bits m K:=by kernel_rfl)
  (hb:(Region.noSelect ops&&Region.free .any ops (bits m K0) i&&(Region.ready .any ops (bits m K0)).contains i&&st.all (fun s=>!(Nat.beq s i)&&waitsB ops i s&&!((bits m K0).getD s true)))=true:=by kernel_rfl) :
  RunA Tryz.prog n (bodyPost Tryz.prog fnc R) k ops st C (fuel+1) (bits m K0) e w:=by
 simp only [Prod.mk.injEq] at hh
 exact qoG i hh.1 _ hl hb hv hC hh.2 hk
theorem Al (i K j:Nat) {LA:List Ch} {m K0 d t ty b o:Nat} {x:Operand} {te:TE} {ps:String} {af:Array Edge} {v:Value} {cs:List Value} (hc:CellsAt w0 b o cs) (hC:SH w0 w LA)
  (hh:(ops[i]?,opv e x,tab.get t,ld te cs j,Nat.blt d n)=(some (⟨some d,.load t x,ty,ps,af,none⟩:Oper),some (.pointer (some ⟨b,o+j,none⟩)),some te,some v,true))
  (hk:RunA Tryz.prog n (bodyPost Tryz.prog fnc R) k ops st (fun w'=>SH w0 w' LA) fuel (bits m K) ((d,v)::e) w) (hl:(bits m K0).setIfInBounds i true=bits m K:=by kernel_rfl)
  (hb:(Region.noSelect ops&&Region.free .any ops (bits m K0) i&&(Region.ready .any ops (bits m K0)).contains i&&st.all (fun s=>!(Nat.beq s i)&&waitsB ops i s&&!((bits m K0).getD s true)))=true:=by kernel_rfl) :
  RunA Tryz.prog n (bodyPost Tryz.prog fnc R) k ops st (fun w'=>SH w0 w' LA) (fuel+1) (bits m K0) e w:=by
 simp only [Prod.mk.injEq] at hh
 exact qoG i hh.1 _ hl hb (fun w' hw=>qjg qc (hc.below hw.below) (j:=j) hh.2.1 hh.2.2.1 hh.2.2.2.1) hC hh.2.2.2.2 hk
theorem Ax (i K:Nat) {C:World→Prop} {m K0 d t ty el q:Nat} {x ix:Operand} {te te1:TE} {ps:String} {af:Array Edge} {p:Option Addr} {ln c sz:Nat} {kd:IntKind} {iv:Int} {b o:Nat} (hp:p=some ⟨b,o,none⟩) (hq:q=o+iv.toNat*sz) (hlt:0≤iv∧iv<ln) (hC:C w)
  (hh:(ops[i]?,opv e x,opv e ix,tab.get t,te.kind,tab.get el,te1.size,Nat.blt d n)=(some (⟨some d,.indexAddr t x ix,ty,ps,af,none⟩:Oper),some (.slice p ln c),some (.int kd iv),some te,TK.slice el,some te1,sz,true))
  (hk:RunA Tryz.prog n (bodyPost Tryz.prog fnc R) k ops st C fuel (bits m K) ((d,.pointer (some ⟨b,q,none⟩))::e) w) (hl:(bits m K0).setIfInBounds i true=bits m K:=by kernel_rfl)
  (hb:(Region.noSelect ops&&Region.free .any ops (bits m K0) i&&(Region.ready .any ops (bits m K0)).contains i&&st.all (fun s=>!(Nat.beq s i)&&waitsB ops i s&&!((bits m K0).getD s true)))=true:=by kernel_rfl) :
  RunA Tryz.prog n (bodyPost Tryz.prog fnc R) k ops st C (fuel+1) (bits m K0) e w:=by
 simp only [Prod.mk.injEq] at hh
 exact qoG i hh.1 _ hl hb (fun w' _=>qnL qc hp hq hlt hh.2.1 hh.2.2.1 hh.2.2.2.1 hh.2.2.2.2.1 hh.2.2.2.2.2.1 hh.2.2.2.2.2.2.1) hC hh.2.2.2.2.2.2.2 hk
theorem Ae (i K:Nat) {C:World→Prop} {m K0 d t ty el q:Nat} {x ix:Operand} {te te1:TE} {ps:String} {af:Array Edge} {p:Option Addr} {ln c sz:Nat} {kd:IntKind} {iv:Int} {b o:Nat} {α:Prop} (hp:p=some ⟨b,o,none⟩) (hq:q=o+iv.toNat*sz) (hlt:0≤iv∧iv<ln∧α) (hC:C w)
  (hh:(ops[i]?,opv e x,opv e ix,tab.get t,te.kind,tab.get el,te1.size,Nat.blt d n)=(some (⟨some d,.indexAddr t x ix,ty,ps,af,none⟩:Oper),some (.slice p ln c),some (.int kd iv),some te,TK.slice el,some te1,sz,true))
  (hk:RunA Tryz.prog n (bodyPost Tryz.prog fnc R) k ops st C fuel (bits m K) ((d,.pointer (some ⟨b,q,none⟩))::e) w) (hl:(bits m K0).setIfInBounds i true=bits m K:=by kernel_rfl)
  (hb:(Region.noSelect ops&&Region.free .any ops (bits m K0) i&&(Region.ready .any ops (bits m K0)).contains i&&st.all (fun s=>!(Nat.beq s i)&&waitsB ops i s&&!((bits m K0).getD s true)))=true:=by kernel_rfl) :
  RunA Tryz.prog n (bodyPost Tryz.prog fnc R) k ops st C (fuel+1) (bits m K0) e w:=Ax i K hp hq ⟨hlt.1,hlt.2.1⟩ hC hh hk hl hb
theorem rb {fn:Func} {L:List Ch} {x r:Bool} (h:SH w0 w L) (hF:some x=some r) (hr:res1 e fn.results.toList=some (.bool x)) :
  Run Tryz.prog n (bodyPost Tryz.prog fn fun e w'=>∃ v,e=.returned v∧Below w0.heap.size w0 w'∧∃ us,v=tup us∧GoVs.Vs w' (fresh w0 w') r us) (.code .ret::k) e w:=qwI qc h hF (qsX hr)
theorem ri {fn:Func} {L:List Ch} {x r:Int} (h:SH w0 w L) (hF:some x=some r) (hr:res1 e fn.results.toList=some (.int .i64 x)) :
  Run Tryz.prog n (bodyPost Tryz.prog fn fun e w'=>∃ v,e=.returned v∧Below w0.heap.size w0 w'∧∃ us,v=tup us∧GoVs.Vs w' (fresh w0 w') r us) (.code .ret::k) e w:=qwH qc h hF (qsX hr)
theorem rO {fn:Func} {L:List Ch} {α:Type} [GoT α] {r:α} {S:Nat→Prop} {cs:List Value} (i:Nat) (h:SH w0 w L) (hi:L[i]?=some (Ch.own S r cs)) (hr:ResOk tab e w fn.results.toList [GoT.v α cs]) :
  Run Tryz.prog n (bodyPost Tryz.prog fn fun e w'=>∃ v,e=.returned v∧Below w0.heap.size w0 w'∧∃ us,v=tup us∧GoVs.Vs w' (fresh w0 w') r us) (.code .ret::k) e w:=qaA qc _ h hr (PV.done h (qaN (qay i h hi)))
theorem zV {ρ:Type} [GoVs ρ] {f:FuncId} {fn:Func} {c:Code} {vs:List Value} {r:ρ} (m:Nat) (hf:Tryz.prog.funcs[f]?=some fn) (hh:(fn.body,fn.ntmps,Nat.ble vs.length m)=(some c,m,true))
  (h:SH w w []→Run Tryz.prog m (bodyPost Tryz.prog fn fun e w'=>∃ v,e=.returned v∧Below w.heap.size w w'∧∃ us,v=tup us∧GoVs.Vs w' (fresh w w') r us) [.code c] (argEnv 0 vs) w):RetV Tryz.prog f vs w r:=by
 simp only [Prod.mk.injEq] at hh
 exact qqX hf hh.1 hh.2.1 hh.2.2 h
end
section
variable {w0 w:World} {L:List Ch} {n:Nat} {Q:Exit→Act→World→Prop} {k:List It} {e:Env} {all:Array Oper} {l:List Oper} {d ty:Nat} {ps:String} {af:Array Edge} {x:Operand} {args:Array Operand} {ats:Array TypeId} {f:FuncId} {fi ca:Array Value} {av vs:List Value} {β:Type} {rr:β}
theorem zcI {F:Option Int} {g:Int→Option β} (h:SH w0 w L) (hF:F.bind g=some rr) (hc:∀ {r},F=some r→RetV Tryz.prog f vs w r)
  (hh:(opv e x,opvs e args.toList,fi.toList++av++ca.toList,Nat.blt d n)=(some (.func (.func f) fi ca),some av,vs,true))
  (hk:∀ r w' ,SH w0 w' (L)→g r=some rr→Run Tryz.prog n Q (.ops all l::k) ((d,.int .i64 r)::e) w') (hcall:qeP Tryz.prog f:=by exact cA rfl):Run Tryz.prog n Q (.ops all (⟨some d,.call ⟨.value x,args,ats⟩,ty,ps,af,none⟩::l)::k) e w:=by
 obtain ⟨r,hr,hF⟩:=qd hF
 simp only [Prod.mk.injEq] at hh
 exact qvz r h hcall (hc hr) hh.1 hh.2.1 hh.2.2.1 hh.2.2.2 (fun w'  h'=>hk r w'  h' hF)
theorem zcB {F:Option Bool} {g:Bool→Option β} (h:SH w0 w L) (hF:F.bind g=some rr) (hc:∀ {r},F=some r→RetV Tryz.prog f vs w r)
  (hh:(opv e x,opvs e args.toList,fi.toList++av++ca.toList,Nat.blt d n)=(some (.func (.func f) fi ca),some av,vs,true))
  (hk:∀ r w' ,SH w0 w' (L)→g r=some rr→Run Tryz.prog n Q (.ops all l::k) ((d,.bool r)::e) w') (hcall:qeP Tryz.prog f:=by exact cA rfl):Run Tryz.prog n Q (.ops all (⟨some d,.call ⟨.value x,args,ats⟩,ty,ps,af,none⟩::l)::k) e w:=by
 obtain ⟨r,hr,hF⟩:=qd hF
 simp only [Prod.mk.injEq] at hh
 exact qu8 r h hcall (hc hr) hh.1 hh.2.1 hh.2.2.1 hh.2.2.2 (fun w'  h'=>hk r w'  h' hF)
theorem zcS {F:Option ByteArray} {g:ByteArray→Option β} (h:SH w0 w L) (hF:F.bind g=some rr) (hc:∀ {r},F=some r→RetV Tryz.prog f vs w r)
  (hh:(opv e x,opvs e args.toList,fi.toList++av++ca.toList,Nat.blt d n)=(some (.func (.func f) fi ca),some av,vs,true))
  (hk:∀ r w' ,SH w0 w' (L)→g r=some rr→Run Tryz.prog n Q (.ops all l::k) ((d,.string r)::e) w') (hcall:qeP Tryz.prog f:=by exact cA rfl):Run Tryz.prog n Q (.ops all (⟨some d,.call ⟨.value x,args,ats⟩,ty,ps,af,none⟩::l)::k) e w:=by
 obtain ⟨r,hr,hF⟩:=qd hF
 simp only [Prod.mk.injEq] at hh
 exact qvU r h hcall (hc hr) hh.1 hh.2.1 hh.2.2.1 hh.2.2.2 (fun w'  h'=>hk r w'  h' hF)
theorem zcL {α:Type} [GoT α] {F:Option (List α)} {g:(List α)→Option β} (h:SH w0 w L) (hF:F.bind g=some rr) (hc:∀ {r},F=some r→RetV Tryz.prog f vs w r)
  (hh:(opv e x,opvs e args.toList,fi.toList++av++ca.toList,Nat.blt d n)=(some (.func (.func f) fi ca),some av,vs,true))
  (hk:∀ r w' S p c,SH w0 w' (Ch.own S r [.slice p r.length c]::L)→g r=some rr→Run Tryz.prog n Q (.ops all l::k) ((d,.slice p r.length c)::e) w') (hcall:qeP Tryz.prog f:=by exact cA rfl):Run Tryz.prog n Q (.ops all (⟨some d,.call ⟨.value x,args,ats⟩,ty,ps,af,none⟩::l)::k) e w:=by
 obtain ⟨r,hr,hF⟩:=qd hF
 simp only [Prod.mk.injEq] at hh
 exact qql r h hcall (hc hr) hh.1 hh.2.1 hh.2.2.1 hh.2.2.2 (fun w' S p c h'=>hk r w' S p c h' hF)
theorem zcO {α:Type} [GoT α] {F:Option α} {g:α→Option β} (h:SH w0 w L) (hF:F.bind g=some rr) (hc:∀ {r},F=some r→RetV Tryz.prog f vs w r)
  (hh:(opv e x,opvs e args.toList,fi.toList++av++ca.toList,Nat.blt d n)=(some (.func (.func f) fi ca),some av,vs,true))
  (hk:∀ r w' S cs,SH w0 w' (Ch.own S r cs::L)→g r=some rr→Run Tryz.prog n Q (.ops all l::k) ((d,GoT.v α cs)::e) w') (hcall:qeP Tryz.prog f:=by exact cA rfl):Run Tryz.prog n Q (.ops all (⟨some d,.call ⟨.value x,args,ats⟩,ty,ps,af,none⟩::l)::k) e w:=by
 obtain ⟨r,hr,hF⟩:=qd hF
 simp only [Prod.mk.injEq] at hh
 exact qvb r h hcall (hc hr) hh.1 hh.2.1 hh.2.2.1 hh.2.2.2 (fun w' S cs h'=>hk r w' S cs h' hF)
end
def noC:List Nat:=[0,1,199,273]
theorem allC:((List.range 286).all fun f=>noC.contains f || callB Tryz.prog f)=true:=by kernel_rfl
theorem cA {f:Nat} (h:(Nat.blt f 286&&!noC.contains f)=true):qeP Tryz.prog f:=by
 rw [ji,Nat.blt_eq,jL] at h
 have:=List.all_eq_true.1 allC f (List.mem_range.2 h.1)
 rw [h.2] at this
 exact quU this
theorem cB (f:Nat) (h:(Nat.blt f 286&&!noC.contains f)=true):qeP Tryz.prog f:=cA h
def qa2 (_:Nat) (a:(List Int)) (left:Int):Option Int :=
 bif decide ((W64 (left-(a.length:Int)))<0) then some (-1) else
 some (W64 (left-(a.length:Int)))
theorem qaJ {a:(List Int)} {left:Int} (ha1:GoT.R w (old w) a cs1) {r:Int} (hF:qa2 n a left=some r):RetV Tryz.prog 111 [GoT.v (List Int) cs1,.int .i64 left] w r:=by
 obtain ⟨p1,k1,rfl,s1⟩:=ha1
 refine zV 12 Tryz.func111 rfl fun h=>X0 18 rfl (qj rfl hF ?_ ?_)<;>intro hF
 ·exact X0 4 rfl (ri h hF rfl)
 exact X0 6 rfl (ri h hF rfl)
def qjo (_:Nat) (a:qU) (left:Int):Option Int :=
 bif decide ((W64 (left-(a.Ar.size:Int)))<0) then some (-1) else
 some (W64 (left-(a.Ar.size:Int)))
theorem qpj {a:qU} {left:Int} (ha1:GoT.R w (old w) a cs1) {r:Int} (hF:qjo n a left=some r):RetV Tryz.prog 224 [GoT.v qU cs1,.int .i64 left] w r:=by
 obtain rfl:=qax ha1
 refine zV 13 Tryz.func224 rfl fun h=>zSR (qt h rfl rfl fun w1 bb1 h=>X1 17 0 h rfl (qj rfl hF ?_ ?_))<;>intro hF
 ·exact X0 4 rfl (ri h hF rfl)
 exact X0 6 rfl (ri h hF rfl)
def qe7 (a:(List qU)):Nat→Int→Int→Option (Flow Int (Int × Int))
 | 0,_,_=>none
 | n+1,i1,i2 =>
  bif decide (i2<(a.length:Int)) then
   (idx a i2).bind fun y1 =>
   (qjo n y1 i1).bind fun r1 =>
   bif decide (r1<0) then some (.ret (-1)) else
   qe7 a n r1 (W64 (i2+1))
  else
   some (.nxt (i1,i2))
def qlq (n:Nat) (a:(List qU)) (left:Int):Option Int :=
 bif decide ((W64 (left-(a.length:Int)))<0) then some (-1) else
 (qe7 a n (W64 (left-(a.length:Int))) 0).bind fun o=>match o with
 | .ret r=>some r
 | .nxt (i1,_) =>
  some i1
theorem qow {a:(List qU)} {left:Int} (ha1:GoT.R w (old w) a cs1) {r:Int} (hF:qlq n a left=some r):RetV Tryz.prog 201 [GoT.v (List qU) cs1,.int .i64 left] w r:=by
 obtain ⟨p1,k1,rfl,s1⟩:=ha1
 refine zV 27 Tryz.func201 rfl fun h=>X0 18 rfl (qj rfl hF ?_ ?_)<;>intro hF
 ·exact X0 4 rfl (ri h hF rfl)
 refine X0 6 rfl ?_
 obtain ⟨o1,hF,hK1⟩:=qd hF
 refine qk (rL (fun m e w'=>∃ (i1:Int) (i2:Int),qe7 a m i1 i2=some o1∧e=[(0,.slice p1 a.length k1),(1,.int .i64 i1),(5,.int .i64 i2)]∧SH w w' []) n ⟨_,_,hF,rfl,h⟩ rfl ?_)
 rintro m1 e1 w1 ⟨i1,i2,hF,rfl,h⟩
 rcases m1 with _|m1
 ·cases hF
 refine X0 8 rfl (qj rfl hF ?_ ?_)<;>intro hF
 ·refine X0 7 rfl ?_
  obtain ⟨y1,hy1,hF,he1,b1,_,q1,cs2,hp1,hq1,hr1,hc3⟩:=s1.ix hF
  obtain rfl:=qax hr1
  refine zxe hp1 hq1 he1 rfl (zc 0 (hc3.below h.below) rfl (zp1 rfl (zcI h hF (qpj (qds y1)) rfl fun r1 w2 h hF=>X0 7 rfl (qj rfl hF ?_ ?_))))<;>intro hF
  ·refine X0 4 rfl ?_
   obtain rfl:=qb hF;replace hF:=hK1
   exact ri h hF rfl
  exact X0 7 rfl (rK ⟨_,_,hF,rfl,h⟩ rfl)
 refine qn rfl ?_
 obtain rfl:=qb hF;replace hF:=hK1
 exact X0 5 rfl (ri h hF rfl)
def qhq (n:Nat) (a:qq) (left:Int):Option Int :=
 (qa2 n a.Bc left).bind fun r1 =>
 bif decide (r1<0) then some (-1) else
 (qa2 n a.Bb r1).bind fun r2 =>
 bif decide (r2<0) then some (-1) else
 (qa2 n a.Au r2).bind fun r3 =>
 bif decide (r3<0) then some (-1) else
 some r3
theorem qn0 {a:qq} {left:Int} (ha1:GoT.R w (old w) a cs1) {r:Int} (hF:qhq n a left=some r):RetV Tryz.prog 250 [GoT.v qq cs1,.int .i64 left] w r:=by
 obtain ⟨p1,k1,p2,k2,p3,k3,rfl,s1,s2,s3⟩:=qa5 ha1
 refine zV 24 Tryz.func250 rfl fun h=>zSR (qt h rfl rfl fun w1 bb1 h=>X1 7 0 h rfl (zcI h hF (qaJ ⟨_,_,rfl,(h.oldS s1)⟩) rfl fun r1 w2 h hF=>X0 8 rfl (qj rfl hF ?_ ?_)))<;>intro hF
 ·exact X0 4 rfl (ri h hF rfl)
 refine X1 6 0 h rfl (zcI h hF (qaJ ⟨_,_,rfl,(h.oldS s2)⟩) rfl fun r2 w3 h hF=>X0 8 rfl (qj rfl hF ?_ ?_))<;>intro hF
 ·exact X0 4 rfl (ri h hF rfl)
 refine X1 6 0 h rfl (zcI h hF (qaJ ⟨_,_,rfl,(h.oldS s3)⟩) rfl fun r3 w4 h hF=>X0 8 rfl (qj rfl hF ?_ ?_))<;>intro hF
 ·exact X0 4 rfl (ri h hF rfl)
 exact X0 6 rfl (ri h hF rfl)
def qdV (a:(List qq)):Nat→Int→Int→Option (Flow Int (Int × Int))
 | 0,_,_=>none
 | n+1,i1,i2 =>
  bif decide (i2<(a.length:Int)) then
   (idx a i2).bind fun y1 =>
   (qhq n y1 i1).bind fun r1 =>
   bif decide (r1<0) then some (.ret (-1)) else
   qdV a n r1 (W64 (i2+1))
  else
   some (.nxt (i1,i2))
def qh1 (n:Nat) (a:(List qq)) (left:Int):Option Int :=
 bif decide ((W64 (left-(a.length:Int)))<0) then some (-1) else
 (qdV a n (W64 (left-(a.length:Int))) 0).bind fun o=>match o with
 | .ret r=>some r
 | .nxt (i1,_) =>
  some i1
theorem qj6 {a:(List qq)} {left:Int} (ha1:GoT.R w (old w) a cs1) {r:Int} (hF:qh1 n a left=some r):RetV Tryz.prog 239 [GoT.v (List qq) cs1,.int .i64 left] w r:=by
 obtain ⟨p1,k1,rfl,s1⟩:=ha1
 refine zV 27 Tryz.func239 rfl fun h=>X0 18 rfl (qj rfl hF ?_ ?_)<;>intro hF
 ·exact X0 4 rfl (ri h hF rfl)
 refine X0 6 rfl ?_
 obtain ⟨o1,hF,hK1⟩:=qd hF
 refine qk (rL (fun m e w'=>∃ (i1:Int) (i2:Int),qdV a m i1 i2=some o1∧e=[(0,.slice p1 a.length k1),(1,.int .i64 i1),(5,.int .i64 i2)]∧SH w w' []) n ⟨_,_,hF,rfl,h⟩ rfl ?_)
 rintro m1 e1 w1 ⟨i1,i2,hF,rfl,h⟩
 rcases m1 with _|m1
 ·cases hF
 refine X0 8 rfl (qj rfl hF ?_ ?_)<;>intro hF
 ·refine X0 7 rfl ?_
  obtain ⟨y1,hy1,hF,he1,b1,_,q1,cs2,hp1,hq1,hr1,hc3⟩:=s1.ix hF
  obtain ⟨p2,k2,p3,k3,p4,k4,rfl,s2,s3,s4⟩:=qa5 hr1
  refine zxe hp1 hq1 he1 rfl (zc 0 (hc3.below h.below) rfl (zp1 rfl (zcI h hF (qn0 (qhP y1 (h.oldS s2) (h.oldS s3) (h.oldS s4))) rfl fun r1 w2 h hF=>X0 7 rfl (qj rfl hF ?_ ?_))))<;>intro hF
  ·refine X0 4 rfl ?_
   obtain rfl:=qb hF;replace hF:=hK1
   exact ri h hF rfl
  exact X0 7 rfl (rK ⟨_,_,hF,rfl,h⟩ rfl)
 refine qn rfl ?_
 obtain rfl:=qb hF;replace hF:=hK1
 exact X0 5 rfl (ri h hF rfl)
def qjj (n:Nat) (a:qC) (left:Int):Option Int :=
 (qh1 n a.Az left).bind fun r1 =>
 bif decide (r1<0) then some (-1) else
 (qh1 n a.Bh r1).bind fun r2 =>
 bif decide (r2<0) then some (-1) else
 some r2
theorem qpc {a:qC} {left:Int} (ha1:GoT.R w (old w) a cs1) {r:Int} (hF:qjj n a left=some r):RetV Tryz.prog 225 [GoT.v qC cs1,.int .i64 left] w r:=by
 obtain ⟨p1,k1,p2,k2,rfl,s1,s2⟩:=qag ha1
 refine zV 18 Tryz.func225 rfl fun h=>zSR (qt h rfl rfl fun w1 bb1 h=>X1 7 0 h rfl (zcI h hF (qj6 ⟨_,_,rfl,(h.oldS s1)⟩) rfl fun r1 w2 h hF=>X0 8 rfl (qj rfl hF ?_ ?_)))<;>intro hF
 ·exact X0 4 rfl (ri h hF rfl)
 refine X1 6 0 h rfl (zcI h hF (qj6 ⟨_,_,rfl,(h.oldS s2)⟩) rfl fun r2 w3 h hF=>X0 8 rfl (qj rfl hF ?_ ?_))<;>intro hF
 ·exact X0 4 rfl (ri h hF rfl)
 exact X0 6 rfl (ri h hF rfl)
def qfg (a:(List qC)):Nat→Int→Int→Option (Flow Int (Int × Int))
 | 0,_,_=>none
 | n+1,i1,i2 =>
  bif decide (i2<(a.length:Int)) then
   (idx a i2).bind fun y1 =>
   (qjj n y1 i1).bind fun r1 =>
   bif decide (r1<0) then some (.ret (-1)) else
   qfg a n r1 (W64 (i2+1))
  else
   some (.nxt (i1,i2))
def qlc (n:Nat) (a:(List qC)) (left:Int):Option Int :=
 bif decide ((W64 (left-(a.length:Int)))<0) then some (-1) else
 (qfg a n (W64 (left-(a.length:Int))) 0).bind fun o=>match o with
 | .ret r=>some r
 | .nxt (i1,_) =>
  some i1
theorem qoC {a:(List qC)} {left:Int} (ha1:GoT.R w (old w) a cs1) {r:Int} (hF:qlc n a left=some r):RetV Tryz.prog 202 [GoT.v (List qC) cs1,.int .i64 left] w r:=by
 obtain ⟨p1,k1,rfl,s1⟩:=ha1
 refine zV 27 Tryz.func202 rfl fun h=>X0 18 rfl (qj rfl hF ?_ ?_)<;>intro hF
 ·exact X0 4 rfl (ri h hF rfl)
 refine X0 6 rfl ?_
 obtain ⟨o1,hF,hK1⟩:=qd hF
 refine qk (rL (fun m e w'=>∃ (i1:Int) (i2:Int),qfg a m i1 i2=some o1∧e=[(0,.slice p1 a.length k1),(1,.int .i64 i1),(5,.int .i64 i2)]∧SH w w' []) n ⟨_,_,hF,rfl,h⟩ rfl ?_)
 rintro m1 e1 w1 ⟨i1,i2,hF,rfl,h⟩
 rcases m1 with _|m1
 ·cases hF
 refine X0 8 rfl (qj rfl hF ?_ ?_)<;>intro hF
 ·refine X0 7 rfl ?_
  obtain ⟨y1,hy1,hF,he1,b1,_,q1,cs2,hp1,hq1,hr1,hc3⟩:=s1.ix hF
  obtain ⟨p2,k2,p3,k3,rfl,s2,s3⟩:=qag hr1
  refine zxe hp1 hq1 he1 rfl (zc 0 (hc3.below h.below) rfl (zp1 rfl (zcI h hF (qpc (qgd y1 (h.oldS s2) (h.oldS s3))) rfl fun r1 w2 h hF=>X0 7 rfl (qj rfl hF ?_ ?_))))<;>intro hF
  ·refine X0 4 rfl ?_
   obtain rfl:=qb hF;replace hF:=hK1
   exact ri h hF rfl
  exact X0 7 rfl (rK ⟨_,_,hF,rfl,h⟩ rfl)
 refine qn rfl ?_
 obtain rfl:=qb hF;replace hF:=hK1
 exact X0 5 rfl (ri h hF rfl)
def qik (n:Nat) (a:qp) (left:Int):Option Int :=
 bif decide ((W64 (left-(a.Ar.size:Int)))<0) then some (-1) else
 (qlq n a.Am (W64 (left-(a.Ar.size:Int)))).bind fun r1 =>
 bif decide (r1<0) then some (-1) else
 (qlc n a.Ap r1).bind fun r2 =>
 bif decide (r2<0) then some (-1) else
 (qa2 n a.Ay r2).bind fun r3 =>
 bif decide (r3<0) then some (-1) else
 some r3
theorem qos {a:qp} {left:Int} (ha1:GoT.R w (old w) a cs1) {r:Int} (hF:qik n a left=some r):RetV Tryz.prog 165 [GoT.v qp cs1,.int .i64 left] w r:=by
 obtain ⟨p1,k1,p2,k2,p3,k3,rfl,s1,s2,s3⟩:=qH ha1
 refine zV 31 Tryz.func165 rfl fun h=>zSR (qt h rfl rfl fun w1 bb1 h=>X1 17 0 h rfl (qj rfl hF ?_ ?_))<;>intro hF
 ·exact X0 4 rfl (ri h hF rfl)
 refine X1 6 0 h rfl (zcI h hF (qow ⟨_,_,rfl,(h.oldS s1)⟩) rfl fun r1 w2 h hF=>X0 8 rfl (qj rfl hF ?_ ?_))<;>intro hF
 ·exact X0 4 rfl (ri h hF rfl)
 refine X1 6 0 h rfl (zcI h hF (qoC ⟨_,_,rfl,(h.oldS s2)⟩) rfl fun r2 w3 h hF=>X0 8 rfl (qj rfl hF ?_ ?_))<;>intro hF
 ·exact X0 4 rfl (ri h hF rfl)
 refine X1 6 0 h rfl (zcI h hF (qaJ ⟨_,_,rfl,(h.oldS s3)⟩) rfl fun r3 w4 h hF=>X0 8 rfl (qj rfl hF ?_ ?_))<;>intro hF
 ·exact X0 4 rfl (ri h hF rfl)
 exact X0 6 rfl (ri h hF rfl)
def qef (a:(List qp)):Nat→Int→Int→Option (Flow Int (Int × Int))
 | 0,_,_=>none
 | n+1,i1,i2 =>
  bif decide (i2<(a.length:Int)) then
   (idx a i2).bind fun y1 =>
   (qik n y1 i1).bind fun r1 =>
   bif decide (r1<0) then some (.ret (-1)) else
   qef a n r1 (W64 (i2+1))
  else
   some (.nxt (i1,i2))
def qkL (n:Nat) (a:(List qp)) (left:Int):Option Int :=
 bif decide ((W64 (left-(a.length:Int)))<0) then some (-1) else
 (qef a n (W64 (left-(a.length:Int))) 0).bind fun o=>match o with
 | .ret r=>some r
 | .nxt (i1,_) =>
  some i1
theorem qnC {a:(List qp)} {left:Int} (ha1:GoT.R w (old w) a cs1) {r:Int} (hF:qkL n a left=some r):RetV Tryz.prog 106 [GoT.v (List qp) cs1,.int .i64 left] w r:=by
 obtain ⟨p1,k1,rfl,s1⟩:=ha1
 refine zV 27 Tryz.func106 rfl fun h=>X0 18 rfl (qj rfl hF ?_ ?_)<;>intro hF
 ·exact X0 4 rfl (ri h hF rfl)
 refine X0 6 rfl ?_
 obtain ⟨o1,hF,hK1⟩:=qd hF
 refine qk (rL (fun m e w'=>∃ (i1:Int) (i2:Int),qef a m i1 i2=some o1∧e=[(0,.slice p1 a.length k1),(1,.int .i64 i1),(5,.int .i64 i2)]∧SH w w' []) n ⟨_,_,hF,rfl,h⟩ rfl ?_)
 rintro m1 e1 w1 ⟨i1,i2,hF,rfl,h⟩
 rcases m1 with _|m1
 ·cases hF
 refine X0 8 rfl (qj rfl hF ?_ ?_)<;>intro hF
 ·refine X0 7 rfl ?_
  obtain ⟨y1,hy1,hF,he1,b1,_,q1,cs2,hp1,hq1,hr1,hc3⟩:=s1.ix hF
  obtain ⟨p2,k2,p3,k3,p4,k4,rfl,s2,s3,s4⟩:=qH hr1
  refine zxe hp1 hq1 he1 rfl (zc 0 (hc3.below h.below) rfl (zp1 rfl (zcI h hF (qos (qg4 y1 (h.oldS s2) (h.oldS s3) (h.oldS s4))) rfl fun r1 w2 h hF=>X0 7 rfl (qj rfl hF ?_ ?_))))<;>intro hF
  ·refine X0 4 rfl ?_
   obtain rfl:=qb hF;replace hF:=hK1
   exact ri h hF rfl
  exact X0 7 rfl (rK ⟨_,_,hF,rfl,h⟩ rfl)
 refine qn rfl ?_
 obtain rfl:=qb hF;replace hF:=hK1
 exact X0 5 rfl (ri h hF rfl)
def qhm (n:Nat) (a:qm) (left:Int):Option Int :=
 (qkL n a.Ah left).bind fun r1 =>
 bif decide (r1<0) then some (-1) else
 some r1
theorem qmI {a:qm} {left:Int} (ha1:GoT.R w (old w) a cs1) {r:Int} (hF:qhm n a left=some r):RetV Tryz.prog 49 [GoT.v qm cs1,.int .i64 left] w r:=by
 obtain ⟨p1,k1,rfl,s1⟩:=qa1 ha1
 refine zV 12 Tryz.func49 rfl fun h=>zSR (qt h rfl rfl fun w1 bb1 h=>X1 7 0 h rfl (zcI h hF (qnC ⟨_,_,rfl,(h.oldS s1)⟩) rfl fun r1 w2 h hF=>X0 8 rfl (qj rfl hF ?_ ?_)))<;>intro hF
 ·exact X0 4 rfl (ri h hF rfl)
 exact X0 6 rfl (ri h hF rfl)
def qfI (n:Nat) (a:qg) (left:Int):Option Int :=
 bif decide ((W64 (left-(a.Ar.size:Int)))<0) then some (-1) else
 (qa2 n a.Af (W64 (left-(a.Ar.size:Int)))).bind fun r1 =>
 bif decide (r1<0) then some (-1) else
 some r1
theorem qmr {a:qg} {left:Int} (ha1:GoT.R w (old w) a cs1) {r:Int} (hF:qfI n a left=some r):RetV Tryz.prog 166 [GoT.v qg cs1,.int .i64 left] w r:=by
 obtain ⟨p1,k1,rfl,s1⟩:=qJ ha1
 refine zV 19 Tryz.func166 rfl fun h=>zSR (qt h rfl rfl fun w1 bb1 h=>X1 17 0 h rfl (qj rfl hF ?_ ?_))<;>intro hF
 ·exact X0 4 rfl (ri h hF rfl)
 refine X1 6 0 h rfl (zcI h hF (qaJ ⟨_,_,rfl,(h.oldS s1)⟩) rfl fun r1 w2 h hF=>X0 8 rfl (qj rfl hF ?_ ?_))<;>intro hF
 ·exact X0 4 rfl (ri h hF rfl)
 exact X0 6 rfl (ri h hF rfl)
def qcv (a:(List qg)):Nat→Int→Int→Option (Flow Int (Int × Int))
 | 0,_,_=>none
 | n+1,i1,i2 =>
  bif decide (i2<(a.length:Int)) then
   (idx a i2).bind fun y1 =>
   (qfI n y1 i1).bind fun r1 =>
   bif decide (r1<0) then some (.ret (-1)) else
   qcv a n r1 (W64 (i2+1))
  else
   some (.nxt (i1,i2))
def qhJ (n:Nat) (a:(List qg)) (left:Int):Option Int :=
 bif decide ((W64 (left-(a.length:Int)))<0) then some (-1) else
 (qcv a n (W64 (left-(a.length:Int))) 0).bind fun o=>match o with
 | .ret r=>some r
 | .nxt (i1,_) =>
  some i1
theorem qlQ {a:(List qg)} {left:Int} (ha1:GoT.R w (old w) a cs1) {r:Int} (hF:qhJ n a left=some r):RetV Tryz.prog 107 [GoT.v (List qg) cs1,.int .i64 left] w r:=by
 obtain ⟨p1,k1,rfl,s1⟩:=ha1
 refine zV 27 Tryz.func107 rfl fun h=>X0 18 rfl (qj rfl hF ?_ ?_)<;>intro hF
 ·exact X0 4 rfl (ri h hF rfl)
 refine X0 6 rfl ?_
 obtain ⟨o1,hF,hK1⟩:=qd hF
 refine qk (rL (fun m e w'=>∃ (i1:Int) (i2:Int),qcv a m i1 i2=some o1∧e=[(0,.slice p1 a.length k1),(1,.int .i64 i1),(5,.int .i64 i2)]∧SH w w' []) n ⟨_,_,hF,rfl,h⟩ rfl ?_)
 rintro m1 e1 w1 ⟨i1,i2,hF,rfl,h⟩
 rcases m1 with _|m1
 ·cases hF
 refine X0 8 rfl (qj rfl hF ?_ ?_)<;>intro hF
 ·refine X0 7 rfl ?_
  obtain ⟨y1,hy1,hF,he1,b1,_,q1,cs2,hp1,hq1,hr1,hc3⟩:=s1.ix hF
  obtain ⟨p2,k2,rfl,s2⟩:=qJ hr1
  refine zxe hp1 hq1 he1 rfl (zc 0 (hc3.below h.below) rfl (zp1 rfl (zcI h hF (qmr (qfQ y1 (h.oldS s2))) rfl fun r1 w2 h hF=>X0 7 rfl (qj rfl hF ?_ ?_))))<;>intro hF
  ·refine X0 4 rfl ?_
   obtain rfl:=qb hF;replace hF:=hK1
   exact ri h hF rfl
  exact X0 7 rfl (rK ⟨_,_,hF,rfl,h⟩ rfl)
 refine qn rfl ?_
 obtain rfl:=qb hF;replace hF:=hK1
 exact X0 5 rfl (ri h hF rfl)
def qdf (a:(List ByteArray)):Nat→Int→Int→Option (Flow Int (Int × Int))
 | 0,_,_=>none
 | n+1,i1,i2 =>
  bif decide (i2<(a.length:Int)) then
   (idx a i2).bind fun y1 =>
   bif decide ((W64 (i1-(y1.size:Int)))<0) then some (.ret (-1)) else
   qdf a n (W64 (i1-(y1.size:Int))) (W64 (i2+1))
  else
   some (.nxt (i1,i2))
def qjc (n:Nat) (a:(List ByteArray)) (left:Int):Option Int :=
 bif decide ((W64 (left-(a.length:Int)))<0) then some (-1) else
 (qdf a n (W64 (left-(a.length:Int))) 0).bind fun o=>match o with
 | .ret r=>some r
 | .nxt (i1,_) =>
  some i1
theorem qmA {a:(List ByteArray)} {left:Int} (ha1:GoT.R w (old w) a cs1) {r:Int} (hF:qjc n a left=some r):RetV Tryz.prog 108 [GoT.v (List ByteArray) cs1,.int .i64 left] w r:=by
 obtain ⟨p1,k1,rfl,s1⟩:=ha1
 refine zV 28 Tryz.func108 rfl fun h=>X0 18 rfl (qj rfl hF ?_ ?_)<;>intro hF
 ·exact X0 4 rfl (ri h hF rfl)
 refine X0 6 rfl ?_
 obtain ⟨o1,hF,hK1⟩:=qd hF
 refine qk (rL (fun m e w'=>∃ (i1:Int) (i2:Int),qdf a m i1 i2=some o1∧e=[(0,.slice p1 a.length k1),(1,.int .i64 i1),(5,.int .i64 i2)]∧SH w w' []) n ⟨_,_,hF,rfl,h⟩ rfl ?_)
 rintro m1 e1 w1 ⟨i1,i2,hF,rfl,h⟩
 rcases m1 with _|m1
 ·cases hF
 refine X0 8 rfl (qj rfl hF ?_ ?_)<;>intro hF
 ·refine X0 8 rfl ?_
  obtain ⟨y1,hy1,hF,he1,b1,_,q1,cs2,hp1,hq1,rfl,hc3⟩:=s1.ix hF
  refine zxe hp1 hq1 he1 rfl (zc 0 (hc3.below h.below) rfl (X0 9 rfl (qj rfl hF ?_ ?_)))<;>intro hF
  ·refine X0 4 rfl ?_
   obtain rfl:=qb hF;replace hF:=hK1
   exact ri h hF rfl
  exact X0 7 rfl (rK ⟨_,_,hF,rfl,h⟩ rfl)
 refine qn rfl ?_
 obtain rfl:=qb hF;replace hF:=hK1
 exact X0 5 rfl (ri h hF rfl)
def qil (_:Nat) (a:qF) (left:Int):Option Int :=
 bif decide ((W64 (left-(a.Ar.size:Int)))<0) then some (-1) else
 some (W64 (left-(a.Ar.size:Int)))
theorem qoK {a:qF} {left:Int} (ha1:GoT.R w (old w) a cs1) {r:Int} (hF:qil n a left=some r):RetV Tryz.prog 167 [GoT.v qF cs1,.int .i64 left] w r:=by
 obtain rfl:=qat ha1
 refine zV 13 Tryz.func167 rfl fun h=>zSR (qt h rfl rfl fun w1 bb1 h=>X1 17 0 h rfl (qj rfl hF ?_ ?_))<;>intro hF
 ·exact X0 4 rfl (ri h hF rfl)
 exact X0 6 rfl (ri h hF rfl)
def qek (a:(List qF)):Nat→Int→Int→Option (Flow Int (Int × Int))
 | 0,_,_=>none
 | n+1,i1,i2 =>
  bif decide (i2<(a.length:Int)) then
   (idx a i2).bind fun y1 =>
   (qil n y1 i1).bind fun r1 =>
   bif decide (r1<0) then some (.ret (-1)) else
   qek a n r1 (W64 (i2+1))
  else
   some (.nxt (i1,i2))
def qkI (n:Nat) (a:(List qF)) (left:Int):Option Int :=
 bif decide ((W64 (left-(a.length:Int)))<0) then some (-1) else
 (qek a n (W64 (left-(a.length:Int))) 0).bind fun o=>match o with
 | .ret r=>some r
 | .nxt (i1,_) =>
  some i1
theorem qnU {a:(List qF)} {left:Int} (ha1:GoT.R w (old w) a cs1) {r:Int} (hF:qkI n a left=some r):RetV Tryz.prog 109 [GoT.v (List qF) cs1,.int .i64 left] w r:=by
 obtain ⟨p1,k1,rfl,s1⟩:=ha1
 refine zV 27 Tryz.func109 rfl fun h=>X0 18 rfl (qj rfl hF ?_ ?_)<;>intro hF
 ·exact X0 4 rfl (ri h hF rfl)
 refine X0 6 rfl ?_
 obtain ⟨o1,hF,hK1⟩:=qd hF
 refine qk (rL (fun m e w'=>∃ (i1:Int) (i2:Int),qek a m i1 i2=some o1∧e=[(0,.slice p1 a.length k1),(1,.int .i64 i1),(5,.int .i64 i2)]∧SH w w' []) n ⟨_,_,hF,rfl,h⟩ rfl ?_)
 rintro m1 e1 w1 ⟨i1,i2,hF,rfl,h⟩
 rcases m1 with _|m1
 ·cases hF
 refine X0 8 rfl (qj rfl hF ?_ ?_)<;>intro hF
 ·refine X0 7 rfl ?_
  obtain ⟨y1,hy1,hF,he1,b1,_,q1,cs2,hp1,hq1,hr1,hc3⟩:=s1.ix hF
  obtain rfl:=qat hr1
  refine zxe hp1 hq1 he1 rfl (zc 0 (hc3.below h.below) rfl (zp1 rfl (zcI h hF (qoK (qdT y1)) rfl fun r1 w2 h hF=>X0 7 rfl (qj rfl hF ?_ ?_))))<;>intro hF
  ·refine X0 4 rfl ?_
   obtain rfl:=qb hF;replace hF:=hK1
   exact ri h hF rfl
  exact X0 7 rfl (rK ⟨_,_,hF,rfl,h⟩ rfl)
 refine qn rfl ?_
 obtain rfl:=qb hF;replace hF:=hK1
 exact X0 5 rfl (ri h hF rfl)
def qh6 (n:Nat) (a:qe) (left:Int):Option Int :=
 (qhJ n a.Aa left).bind fun r1 =>
 bif decide (r1<0) then some (-1) else
 (qjc n a.Af r1).bind fun r2 =>
 bif decide (r2<0) then some (-1) else
 (qkI n a.Ac r2).bind fun r3 =>
 bif decide (r3<0) then some (-1) else
 some r3
theorem qnu {a:qe} {left:Int} (ha1:GoT.R w (old w) a cs1) {r:Int} (hF:qh6 n a left=some r):RetV Tryz.prog 50 [GoT.v qe cs1,.int .i64 left] w r:=by
 obtain ⟨p1,k1,p2,k2,p3,k3,rfl,s1,s2,s3⟩:=qae ha1
 refine zV 24 Tryz.func50 rfl fun h=>zSR (qt h rfl rfl fun w1 bb1 h=>X1 7 0 h rfl (zcI h hF (qlQ ⟨_,_,rfl,(h.oldS s1)⟩) rfl fun r1 w2 h hF=>X0 8 rfl (qj rfl hF ?_ ?_)))<;>intro hF
 ·exact X0 4 rfl (ri h hF rfl)
 refine X1 6 0 h rfl (zcI h hF (qmA ⟨_,_,rfl,(h.oldS s2)⟩) rfl fun r2 w3 h hF=>X0 8 rfl (qj rfl hF ?_ ?_))<;>intro hF
 ·exact X0 4 rfl (ri h hF rfl)
 refine X1 6 0 h rfl (zcI h hF (qnU ⟨_,_,rfl,(h.oldS s3)⟩) rfl fun r3 w4 h hF=>X0 8 rfl (qj rfl hF ?_ ?_))<;>intro hF
 ·exact X0 4 rfl (ri h hF rfl)
 exact X0 6 rfl (ri h hF rfl)
def qif (n:Nat) (a:qy) (left:Int):Option Int :=
 (qa2 n a.Ak left).bind fun r1 =>
 bif decide (r1<0) then some (-1) else
 (qa2 n a.Bm r1).bind fun r2 =>
 bif decide (r2<0) then some (-1) else
 (qa2 n a.Bj r2).bind fun r3 =>
 bif decide (r3<0) then some (-1) else
 (qa2 n a.Be r3).bind fun r4 =>
 bif decide (r4<0) then some (-1) else
 some r4
theorem qor {a:qy} {left:Int} (ha1:GoT.R w (old w) a cs1) {r:Int} (hF:qif n a left=some r):RetV Tryz.prog 110 [GoT.v qy cs1,.int .i64 left] w r:=by
 obtain ⟨p1,k1,p2,k2,p3,k3,p4,k4,rfl,s1,s2,s3,s4⟩:=qa7 ha1
 refine zV 30 Tryz.func110 rfl fun h=>zSR (qt h rfl rfl fun w1 bb1 h=>X1 7 0 h rfl (zcI h hF (qaJ ⟨_,_,rfl,(h.oldS s1)⟩) rfl fun r1 w2 h hF=>X0 8 rfl (qj rfl hF ?_ ?_)))<;>intro hF
 ·exact X0 4 rfl (ri h hF rfl)
 refine X1 6 0 h rfl (zcI h hF (qaJ ⟨_,_,rfl,(h.oldS s2)⟩) rfl fun r2 w3 h hF=>X0 8 rfl (qj rfl hF ?_ ?_))<;>intro hF
 ·exact X0 4 rfl (ri h hF rfl)
 refine X1 6 0 h rfl (zcI h hF (qaJ ⟨_,_,rfl,(h.oldS s3)⟩) rfl fun r3 w4 h hF=>X0 8 rfl (qj rfl hF ?_ ?_))<;>intro hF
 ·exact X0 4 rfl (ri h hF rfl)
 refine X1 6 0 h rfl (zcI h hF (qaJ ⟨_,_,rfl,(h.oldS s4)⟩) rfl fun r4 w5 h hF=>X0 8 rfl (qj rfl hF ?_ ?_))<;>intro hF
 ·exact X0 4 rfl (ri h hF rfl)
 exact X0 6 rfl (ri h hF rfl)
def qel (a:(List qy)):Nat→Int→Int→Option (Flow Int (Int × Int))
 | 0,_,_=>none
 | n+1,i1,i2 =>
  bif decide (i2<(a.length:Int)) then
   (idx a i2).bind fun y1 =>
   (qif n y1 i1).bind fun r1 =>
   bif decide (r1<0) then some (.ret (-1)) else
   qel a n r1 (W64 (i2+1))
  else
   some (.nxt (i1,i2))
def qks (n:Nat) (a:(List qy)) (left:Int):Option Int :=
 bif decide ((W64 (left-(a.length:Int)))<0) then some (-1) else
 (qel a n (W64 (left-(a.length:Int))) 0).bind fun o=>match o with
 | .ret r=>some r
 | .nxt (i1,_) =>
  some i1
theorem qnM {a:(List qy)} {left:Int} (ha1:GoT.R w (old w) a cs1) {r:Int} (hF:qks n a left=some r):RetV Tryz.prog 51 [GoT.v (List qy) cs1,.int .i64 left] w r:=by
 obtain ⟨p1,k1,rfl,s1⟩:=ha1
 refine zV 27 Tryz.func51 rfl fun h=>X0 18 rfl (qj rfl hF ?_ ?_)<;>intro hF
 ·exact X0 4 rfl (ri h hF rfl)
 refine X0 6 rfl ?_
 obtain ⟨o1,hF,hK1⟩:=qd hF
 refine qk (rL (fun m e w'=>∃ (i1:Int) (i2:Int),qel a m i1 i2=some o1∧e=[(0,.slice p1 a.length k1),(1,.int .i64 i1),(5,.int .i64 i2)]∧SH w w' []) n ⟨_,_,hF,rfl,h⟩ rfl ?_)
 rintro m1 e1 w1 ⟨i1,i2,hF,rfl,h⟩
 rcases m1 with _|m1
 ·cases hF
 refine X0 8 rfl (qj rfl hF ?_ ?_)<;>intro hF
 ·refine X0 7 rfl ?_
  obtain ⟨y1,hy1,hF,he1,b1,_,q1,cs2,hp1,hq1,hr1,hc3⟩:=s1.ix hF
  obtain ⟨p2,k2,p3,k3,p4,k4,p5,k5,rfl,s2,s3,s4,s5⟩:=qa7 hr1
  refine zxe hp1 hq1 he1 rfl (zc 0 (hc3.below h.below) rfl (zp1 rfl (zcI h hF (qor (qi4 y1 (h.oldS s2) (h.oldS s3) (h.oldS s4) (h.oldS s5))) rfl fun r1 w2 h hF=>X0 7 rfl (qj rfl hF ?_ ?_))))<;>intro hF
  ·refine X0 4 rfl ?_
   obtain rfl:=qb hF;replace hF:=hK1
   exact ri h hF rfl
  exact X0 7 rfl (rK ⟨_,_,hF,rfl,h⟩ rfl)
 refine qn rfl ?_
 obtain rfl:=qb hF;replace hF:=hK1
 exact X0 5 rfl (ri h hF rfl)
def qi1 (n:Nat) (a:qi) (left:Int):Option Int :=
 (qhm n (⟨a.Ai.Ah⟩:qm) left).bind fun r1 =>
 bif decide (r1<0) then some (-1) else
 (qh6 n (⟨a.Ab.Aa,a.Ab.Af,a.Ab.Ac⟩:qe) r1).bind fun r2 =>
 bif decide (r2<0) then some (-1) else
 (qks n a.Aj r2).bind fun r3 =>
 bif decide (r3<0) then some (-1) else
 some r3
theorem qnX {a:qi} {left:Int} (ha1:GoT.R w (old w) a cs1) {r:Int} (hF:qi1 n a left=some r):RetV Tryz.prog 18 [GoT.v qi cs1,.int .i64 left] w r:=by
 obtain ⟨p1,k1,p2,k2,p3,k3,p4,k4,p5,k5,rfl,s1,s2,s3,s4,s5⟩:=qO ha1
 refine zV 24 Tryz.func18 rfl fun h=>zSR (qt h rfl rfl fun w1 bb1 h=>X1 7 0 h rfl (zcI h hF (qmI (qbY _ (h.oldS s1))) rfl fun r1 w2 h hF=>X0 8 rfl (qj rfl hF ?_ ?_)))<;>intro hF
 ·exact X0 4 rfl (ri h hF rfl)
 refine X1 6 0 h rfl (zcI h hF (qnu (qaq _ (h.oldS s2) (h.oldS s3) (h.oldS s4))) rfl fun r2 w3 h hF=>X0 8 rfl (qj rfl hF ?_ ?_))<;>intro hF
 ·exact X0 4 rfl (ri h hF rfl)
 refine X1 6 0 h rfl (zcI h hF (qnM ⟨_,_,rfl,(h.oldS s5)⟩) rfl fun r3 w4 h hF=>X0 8 rfl (qj rfl hF ?_ ?_))<;>intro hF
 ·exact X0 4 rfl (ri h hF rfl)
 exact X0 6 rfl (ri h hF rfl)
def qe2 (a:(List Int)):Nat→(List Int)→Int→Option ((List Int) × Int)
 | 0,_,_=>none
 | n+1,x2,i1 =>
  bif decide (i1<(a.length:Int)) then
   (idx a i1).bind fun y1 =>
   (idx x2 i1).bind fun _ =>
   qe2 a n (setS x2 i1 y1) (W64 (i1+1))
  else
   some (x2,i1)
def qaP (n:Nat) (a:(List Int)):Option (List Int) :=
 (mkS (a.length:Int) (0:Int)).bind fun x1 =>
 (qe2 a n x1 0).bind fun o=>match o with
 | (x2,_) =>
  some x2
theorem qaI {a:(List Int)} (ha1:GoT.R w (old w) a cs1) {r:(List Int)} (hF:qaP n a=some r):RetV Tryz.prog 117 [GoT.v (List Int) cs1] w r:=by
 obtain ⟨p1,k1,rfl,s1⟩:=ha1
 refine zV 22 Tryz.func117 rfl fun h=>X0 8 rfl ?_
 obtain ⟨x1,hx1,hF⟩:=qd hF
 obtain ⟨g1,g2,hx1⟩:=qbT hx1
 refine qcY qc Int h rfl rfl rfl rfl rfl rfl rfl rfl rfl g1 g2 hx1 rfl fun w1 S1 p2 h=>X0 7 rfl ?_
 obtain ⟨o1,hF,hK1⟩:=qd hF
 refine qk (rL (fun m e w'=>∃ (x2:(List Int)) (i1:Int),qe2 a m x2 i1=some o1∧e=[(0,.slice p1 a.length k1),(3,.slice p2 x1.length x1.length),(4,.int .i64 i1)]∧SH w w' [Ch.own S1 (x2:List Int) [.slice p2 x1.length x1.length]]) n ⟨_,_,hF,rfl,h⟩ rfl ?_)
 rintro m1 e1 w2 ⟨x2,i1,hF,rfl,h⟩
 rcases m1 with _|m1
 ·cases hF
 refine X0 8 rfl (qj rfl hF ?_ ?_)<;>intro hF
 ·refine X0 8 rfl ?_
  obtain ⟨y1,hy1,hF,he1,b1,_,q1,cs2,hp1,hq1,rfl,hc2⟩:=s1.ix hF
  refine zxe hp1 hq1 he1 rfl (zc 0 (hc2.below h.below) rfl ?_)
  obtain ⟨y2,hy2,hF,he2,b2,_,q2,cs3,hp2,hq2,rfl,hc3⟩:=(h.sl 0 rfl).1.ix hF
  exact zx hp2 hq2 ⟨he2.1,qw he2.2.1 (h.sl 0 rfl).2⟩ rfl (qaS qc 0 0 y1 h rfl hy2 hp2 hq2 rfl hc3 rfl rfl rfl rfl rfl rfl rfl fun w3 h=>X0 7 rfl (rK ⟨_,_,hF,rfl,h⟩ rfl))
 refine qn rfl ?_
 obtain rfl:=qb hF;replace hF:=hK1
 refine X0 5 rfl ?_
 obtain rfl:=qb hF
 exact rO 0 h rfl ⟨rfl,trivial⟩
def qjl (_:Nat) (a:qU):Option qU :=
 some (⟨a.Ar,a.Bl,a.Bj,a.Bd⟩:qU)
theorem qo6 {a:qU} (ha1:GoT.R w (old w) a cs1) {r:qU} (hF:qjl n a=some r):RetV Tryz.prog 226 [GoT.v qU cs1] w r:=by
 obtain rfl:=qax ha1
 refine zV 17 Tryz.func226 rfl fun h=>zSR (qt h rfl rfl fun w1 bb1 h=>qE qc h rfl rfl rfl fun w2 bb2 h=>zNSR (qE qc h rfl rfl rfl fun w3 bb3 h=>X1 6 2 h rfl (zs 0 h rfl fun w4 h=>X1 6 2 h rfl (zs 0 h rfl fun w5 h=>X1 6 2 h rfl (zs 0 h rfl fun w6 h=>X1 6 2 h rfl (zs 0 h rfl fun w7 h=>X1 4 0 h rfl (zs 1 h rfl fun w8 h=>qec ?_)))))))
 obtain rfl:=qb hF
 exact qaA qc (ρ:=qU) [GoT.v qU (qng a)] h ⟨⟨_,_,_,rfl,rfl,h.box 1 rfl,rfl⟩,trivial⟩ (PV.done h (qaN (qB (S:=fun _=>False) (qds (⟨a.Ar,a.Bl,a.Bj,a.Bd⟩:qU)))))
def qf6 (a:(List qU)):Nat→(List qU)→Int→Option ((List qU) × Int)
 | 0,_,_=>none
 | n+1,x2,i1 =>
  bif decide (i1<(a.length:Int)) then
   (idx a i1).bind fun y1 =>
   (qjl n y1).bind fun r1 =>
   (idx x2 i1).bind fun _ =>
   qf6 a n (setS x2 i1 r1) (W64 (i1+1))
  else
   some (x2,i1)
def qjG (n:Nat) (a:(List qU)):Option (List qU) :=
 (mkS (a.length:Int) ((⟨ByteArray.empty,0,0,false⟩:qU):qU)).bind fun x1 =>
 (qf6 a n x1 0).bind fun o=>match o with
 | (x2,_) =>
  some x2
theorem qoE {a:(List qU)} (ha1:GoT.R w (old w) a cs1) {r:(List qU)} (hF:qjG n a=some r):RetV Tryz.prog 203 [GoT.v (List qU) cs1] w r:=by
 obtain ⟨p1,k1,rfl,s1⟩:=ha1
 refine zV 23 Tryz.func203 rfl fun h=>X0 8 rfl ?_
 obtain ⟨x1,hx1,hF⟩:=qd hF
 obtain ⟨g1,g2,hx1⟩:=qbT hx1
 refine qcY qc qU h rfl rfl rfl rfl rfl rfl rfl rfl rfl g1 g2 hx1 rfl fun w1 S1 p2 h=>X0 7 rfl ?_
 obtain ⟨o1,hF,hK1⟩:=qd hF
 refine qk (rL (fun m e w'=>∃ (x2:(List qU)) (i1:Int),qf6 a m x2 i1=some o1∧e=[(0,.slice p1 a.length k1),(3,.slice p2 x1.length x1.length),(4,.int .i64 i1)]∧SH w w' [Ch.own S1 (x2:List qU) [.slice p2 x1.length x1.length]]) n ⟨_,_,hF,rfl,h⟩ rfl ?_)
 rintro m1 e1 w2 ⟨x2,i1,hF,rfl,h⟩
 rcases m1 with _|m1
 ·cases hF
 refine X0 8 rfl (qj rfl hF ?_ ?_)<;>intro hF
 ·refine X0 8 rfl ?_
  obtain ⟨y1,hy1,hF,he1,b1,_,q1,cs2,hp1,hq1,hr1,hc2⟩:=s1.ix hF
  obtain rfl:=qax hr1
  refine zxe hp1 hq1 he1 rfl (zc 0 (hc2.below h.below) rfl (zcO h hF (qo6 (qds y1)) rfl fun r1 w3 S2 cs3 h hF=>?_))
  obtain rfl:=qax (h.own 0 rfl)
  obtain ⟨y2,hy2,hF,he2,b2,_,q2,cs4,hp2,hq2,hr3,hc3⟩:=(h.sl 1 rfl).1.ix hF
  obtain rfl:=qax hr3
  refine zx hp2 hq2 ⟨he2.1,qw he2.2.1 (h.sl 1 rfl).2⟩ rfl (qaS qc 1 0 r1 h rfl hy2 hp2 hq2 (qds y2) hc3 rfl rfl rfl (qds r1) rfl rfl rfl fun w4 h=>X0 7 rfl ?_)
  replace h:=h.pick [1] rfl
  exact rK ⟨_,_,hF,rfl,h⟩ rfl
 refine qn rfl ?_
 obtain rfl:=qb hF;replace hF:=hK1
 refine X0 5 rfl ?_
 obtain rfl:=qb hF
 exact rO 0 h rfl ⟨rfl,trivial⟩
def qhv (n:Nat) (a:qq):Option qq :=
 (qaP n a.Bc).bind fun r1 =>
 (qaP n a.Bb).bind fun r2 =>
 (qaP n a.Au).bind fun r3 =>
 some (⟨r1,r2,r3⟩:qq)
theorem qn5 {a:qq} (ha1:GoT.R w (old w) a cs1) {r:qq} (hF:qhv n a=some r):RetV Tryz.prog 251 [GoT.v qq cs1] w r:=by
 obtain ⟨p1,k1,p2,k2,p3,k3,rfl,s1,s2,s3⟩:=qa5 ha1
 refine zV 17 Tryz.func251 rfl fun h=>zSR (qt h rfl rfl fun w1 bb1 h=>qE qc h rfl rfl rfl fun w2 bb2 h=>zNSR (qE qc h rfl rfl rfl fun w3 bb3 h=>X1 5 2 h rfl (zcL h hF (qaI ⟨_,_,rfl,(h.oldS s1)⟩) rfl fun r1 w4 S1 p4 k4 h hF=>zp1 rfl (zs 1 h rfl fun w5 h=>X1 5 3 h rfl (zcL h hF (qaI ⟨_,_,rfl,(h.oldS s2)⟩) rfl fun r2 w6 S2 p5 k5 h hF=>zp1 rfl (zs 2 h rfl fun w7 h=>X1 5 4 h rfl (zcL h hF (qaI ⟨_,_,rfl,(h.oldS s3)⟩) rfl fun r3 w8 S3 p6 k6 h hF=>zp1 rfl (zs 3 h rfl fun w9 h=>X1 4 3 h rfl (zs 4 h rfl fun w10 h=>qec ?_)))))))))
 obtain rfl:=qb hF
 exact qaA qc (ρ:=qq) [GoT.v qq [.slice p4 r1.length k4,.slice p5 r2.length k5,.slice p6 r3.length k6]] h ⟨⟨_,_,_,rfl,rfl,h.box 4 rfl,rfl⟩,trivial⟩ (PV.done h (qaN (qpZ (⟨r1,r2,r3⟩:qq) h (qay 2 h rfl) (qay 1 h rfl) (qay 0 h rfl) (by rfl) (by rfl))))
def qe4 (a:(List qq)):Nat→(List qq)→Int→Option ((List qq) × Int)
 | 0,_,_=>none
 | n+1,x2,i1 =>
  bif decide (i1<(a.length:Int)) then
   (idx a i1).bind fun y1 =>
   (qhv n y1).bind fun r1 =>
   (idx x2 i1).bind fun _ =>
   qe4 a n (setS x2 i1 r1) (W64 (i1+1))
  else
   some (x2,i1)
def qgE (n:Nat) (a:(List qq)):Option (List qq) :=
 (mkS (a.length:Int) ((⟨[],[],[]⟩:qq):qq)).bind fun x1 =>
 (qe4 a n x1 0).bind fun o=>match o with
 | (x2,_) =>
  some x2
theorem qki {a:(List qq)} (ha1:GoT.R w (old w) a cs1) {r:(List qq)} (hF:qgE n a=some r):RetV Tryz.prog 240 [GoT.v (List qq) cs1] w r:=by
 obtain ⟨p1,k1,rfl,s1⟩:=ha1
 refine zV 23 Tryz.func240 rfl fun h=>X0 8 rfl ?_
 obtain ⟨x1,hx1,hF⟩:=qd hF
 obtain ⟨g1,g2,hx1⟩:=qbT hx1
 refine qcY qc qq h rfl rfl rfl rfl rfl rfl rfl rfl rfl g1 g2 hx1 rfl fun w1 S1 p2 h=>X0 7 rfl ?_
 obtain ⟨o1,hF,hK1⟩:=qd hF
 refine qk (rL (fun m e w'=>∃ (S2:Nat→Prop) (x2:(List qq)) (i1:Int),qe4 a m x2 i1=some o1∧e=[(0,.slice p1 a.length k1),(3,.slice p2 x1.length x1.length),(4,.int .i64 i1)]∧SH w w' [Ch.own S2 (x2:List qq) [.slice p2 x1.length x1.length]]) n ⟨_,_,_,hF,rfl,h⟩ rfl ?_)
 rintro m1 e1 w2 ⟨S2,x2,i1,hF,rfl,h⟩
 rcases m1 with _|m1
 ·cases hF
 refine X0 8 rfl (qj rfl hF ?_ ?_)<;>intro hF
 ·refine X0 8 rfl ?_
  obtain ⟨y1,hy1,hF,he1,b1,_,q1,cs2,hp1,hq1,hr1,hc2⟩:=s1.ix hF
  obtain ⟨p3,k2,p4,k3,p5,k4,rfl,s2,s3,s4⟩:=qa5 hr1
  refine zxe hp1 hq1 he1 rfl (zc 0 (hc2.below h.below) rfl (zcO h hF (qn5 (qhP y1 (h.oldS s2) (h.oldS s3) (h.oldS s4))) rfl fun r1 w3 S3 cs3 h hF=>?_))
  obtain ⟨p6,k5,p7,k6,p8,k7,rfl,-,-,-⟩:=qa5 (h.own 0 rfl)
  obtain ⟨y2,hy2,hF⟩:=qd hF
  have he2:=qav hy2
  replace h:=h.lrn0 1 rfl
  obtain ⟨b2,o_2,q2,cs4,hp2,hq2,-,hr3,hc3⟩:=(qhH (h.lrnO 1 rfl)).1.at hy2
  have hr4:=hr3
  obtain ⟨p9,k8,p10,k9,p11,k10,rfl,s8,s9,s10⟩:=qa5 hr3
  replace h:=h.lrnAdd 1 rfl hr4
  refine zx hp2 hq2 ⟨he2.1,qw he2.2.1 (qhH (h.lrnO 1 rfl)).2⟩ rfl ?_
  replace h:=h.unlrn 1 rfl
  exact qj3 qc r1 h hy2 hp2 hq2 rfl rfl rfl rfl rfl fun w4 S4 h=>X0 7 rfl (rK ⟨_,_,_,hF,rfl,h⟩ rfl)
 refine qn rfl ?_
 obtain rfl:=qb hF;replace hF:=hK1
 refine X0 5 rfl ?_
 obtain rfl:=qb hF
 exact rO 0 h rfl ⟨rfl,trivial⟩
def qji (n:Nat) (a:qC):Option qC :=
 (qgE n a.Az).bind fun r1 =>
 (qgE n a.Bh).bind fun r2 =>
 some (⟨a.Aq,a.Av,a.To,a.Bg,r1,r2⟩:qC)
theorem qo9 {a:qC} (ha1:GoT.R w (old w) a cs1) {r:qC} (hF:qji n a=some r):RetV Tryz.prog 227 [GoT.v qC cs1] w r:=by
 obtain ⟨p1,k1,p2,k2,rfl,s1,s2⟩:=qag ha1
 refine zV 25 Tryz.func227 rfl fun h=>zSR (qt h rfl rfl fun w1 bb1 h=>qE qc h rfl rfl rfl fun w2 bb2 h=>zNSR (qE qc h rfl rfl rfl fun w3 bb3 h=>X1 6 2 h rfl (zs 0 h rfl fun w4 h=>X1 6 2 h rfl (zs 0 h rfl fun w5 h=>X1 6 2 h rfl (zs 0 h rfl fun w6 h=>X1 6 2 h rfl (zs 0 h rfl fun w7 h=>X1 5 2 h rfl (zcL h hF (qki ⟨_,_,rfl,(h.oldS s1)⟩) rfl fun r1 w8 S1 p3 k3 h hF=>zp1 rfl (zs 1 h rfl fun w9 h=>X1 5 3 h rfl (zcL h hF (qki ⟨_,_,rfl,(h.oldS s2)⟩) rfl fun r2 w10 S2 p4 k4 h hF=>zp1 rfl (zs 2 h rfl fun w11 h=>X1 4 2 h rfl (zs 3 h rfl fun w12 h=>qec ?_)))))))))))
 obtain rfl:=qb hF
 exact qaA qc (ρ:=qC) [GoT.v qC [.int .i64 a.Aq,.int .i64 a.Av,.int .i64 a.To,.int .i64 a.Bg,.slice p3 r1.length k3,.slice p4 r2.length k4]] h ⟨⟨_,_,_,rfl,rfl,h.box 3 rfl,rfl⟩,trivial⟩ (PV.done h (qaN (qsH (⟨a.Aq,a.Av,a.To,a.Bg,r1,r2⟩:qC) h (qB (S:=fun _=>False) rfl) (qB (S:=fun _=>False) rfl) (qB (S:=fun _=>False) rfl) (qB (S:=fun _=>False) rfl) (qay 1 h rfl) (qay 0 h rfl) (by rfl) (by rfl) (by rfl) (by rfl) (by rfl))))
def qge (a:(List qC)):Nat→(List qC)→Int→Option ((List qC) × Int)
 | 0,_,_=>none
 | n+1,x2,i1 =>
  bif decide (i1<(a.length:Int)) then
   (idx a i1).bind fun y1 =>
   (qji n y1).bind fun r1 =>
   (idx x2 i1).bind fun _ =>
   qge a n (setS x2 i1 r1) (W64 (i1+1))
  else
   some (x2,i1)
def qjB (n:Nat) (a:(List qC)):Option (List qC) :=
 (mkS (a.length:Int) ((⟨0,0,0,0,[],[]⟩:qC):qC)).bind fun x1 =>
 (qge a n x1 0).bind fun o=>match o with
 | (x2,_) =>
  some x2
theorem qoY {a:(List qC)} (ha1:GoT.R w (old w) a cs1) {r:(List qC)} (hF:qjB n a=some r):RetV Tryz.prog 204 [GoT.v (List qC) cs1] w r:=by
 obtain ⟨p1,k1,rfl,s1⟩:=ha1
 refine zV 23 Tryz.func204 rfl fun h=>X0 8 rfl ?_
 obtain ⟨x1,hx1,hF⟩:=qd hF
 obtain ⟨g1,g2,hx1⟩:=qbT hx1
 refine qcY qc qC h rfl rfl rfl rfl rfl rfl rfl rfl rfl g1 g2 hx1 rfl fun w1 S1 p2 h=>X0 7 rfl ?_
 obtain ⟨o1,hF,hK1⟩:=qd hF
 refine qk (rL (fun m e w'=>∃ (S2:Nat→Prop) (x2:(List qC)) (i1:Int),qge a m x2 i1=some o1∧e=[(0,.slice p1 a.length k1),(3,.slice p2 x1.length x1.length),(4,.int .i64 i1)]∧SH w w' [Ch.own S2 (x2:List qC) [.slice p2 x1.length x1.length]]) n ⟨_,_,_,hF,rfl,h⟩ rfl ?_)
 rintro m1 e1 w2 ⟨S2,x2,i1,hF,rfl,h⟩
 rcases m1 with _|m1
 ·cases hF
 refine X0 8 rfl (qj rfl hF ?_ ?_)<;>intro hF
 ·refine X0 8 rfl ?_
  obtain ⟨y1,hy1,hF,he1,b1,_,q1,cs2,hp1,hq1,hr1,hc2⟩:=s1.ix hF
  obtain ⟨p3,k2,p4,k3,rfl,s2,s3⟩:=qag hr1
  refine zxe hp1 hq1 he1 rfl (zc 0 (hc2.below h.below) rfl (zcO h hF (qo9 (qgd y1 (h.oldS s2) (h.oldS s3))) rfl fun r1 w3 S3 cs3 h hF=>?_))
  obtain ⟨p5,k4,p6,k5,rfl,-,-⟩:=qag (h.own 0 rfl)
  obtain ⟨y2,hy2,hF⟩:=qd hF
  have he2:=qav hy2
  replace h:=h.lrn0 1 rfl
  obtain ⟨b2,o_2,q2,cs4,hp2,hq2,-,hr3,hc3⟩:=(qhH (h.lrnO 1 rfl)).1.at hy2
  have hr4:=hr3
  obtain ⟨p7,k6,p8,k7,rfl,s6,s7⟩:=qag hr3
  replace h:=h.lrnAdd 1 rfl hr4
  refine zx hp2 hq2 ⟨he2.1,qw he2.2.1 (qhH (h.lrnO 1 rfl)).2⟩ rfl ?_
  replace h:=h.unlrn 1 rfl
  exact qj3 qc r1 h hy2 hp2 hq2 rfl rfl rfl rfl rfl fun w4 S4 h=>X0 7 rfl (rK ⟨_,_,_,hF,rfl,h⟩ rfl)
 refine qn rfl ?_
 obtain rfl:=qb hF;replace hF:=hK1
 refine X0 5 rfl ?_
 obtain rfl:=qb hF
 exact rO 0 h rfl ⟨rfl,trivial⟩
def qia (n:Nat) (a:qp):Option qp :=
 (qjG n a.Am).bind fun r1 =>
 (qjB n a.Ap).bind fun r2 =>
 (qaP n a.Ay).bind fun r3 =>
 some (⟨a.Ar,a.Aq,r1,r2,r3,a.Bn,a.Bf⟩:qp)
theorem qoQ {a:qp} (ha1:GoT.R w (old w) a cs1) {r:qp} (hF:qia n a=some r):RetV Tryz.prog 168 [GoT.v qp cs1] w r:=by
 obtain ⟨p1,k1,p2,k2,p3,k3,rfl,s1,s2,s3⟩:=qH ha1
 refine zV 29 Tryz.func168 rfl fun h=>zSR (qt h rfl rfl fun w1 bb1 h=>qE qc h rfl rfl rfl fun w2 bb2 h=>zNSR (qE qc h rfl rfl rfl fun w3 bb3 h=>X1 6 2 h rfl (zs 0 h rfl fun w4 h=>X1 6 2 h rfl (zs 0 h rfl fun w5 h=>X1 5 2 h rfl (zcL h hF (qoE ⟨_,_,rfl,(h.oldS s1)⟩) rfl fun r1 w6 S1 p4 k4 h hF=>zp1 rfl (zs 1 h rfl fun w7 h=>X1 5 3 h rfl (zcL h hF (qoY ⟨_,_,rfl,(h.oldS s2)⟩) rfl fun r2 w8 S2 p5 k5 h hF=>zp1 rfl (zs 2 h rfl fun w9 h=>X1 5 4 h rfl (zcL h hF (qaI ⟨_,_,rfl,(h.oldS s3)⟩) rfl fun r3 w10 S3 p6 k6 h hF=>zp1 rfl (zs 3 h rfl fun w11 h=>X1 6 5 h rfl (zs 3 h rfl fun w12 h=>X1 6 5 h rfl (zs 3 h rfl fun w13 h=>X1 4 3 h rfl (zs 4 h rfl fun w14 h=>qec ?_)))))))))))))
 obtain rfl:=qb hF
 exact qaA qc (ρ:=qp) [GoT.v qp [.string a.Ar,.int .i64 a.Aq,.slice p4 r1.length k4,.slice p5 r2.length k5,.slice p6 r3.length k6,.int .i64 a.Bn,.int .i64 a.Bf]] h ⟨⟨_,_,_,rfl,rfl,h.box 4 rfl,rfl⟩,trivial⟩ (PV.done h (qaN (qrz (⟨a.Ar,a.Aq,r1,r2,r3,a.Bn,a.Bf⟩:qp) h (qB (S:=fun _=>False) rfl) (qB (S:=fun _=>False) rfl) (qay 2 h rfl) (qay 1 h rfl) (qay 0 h rfl) (qB (S:=fun _=>False) rfl) (qB (S:=fun _=>False) rfl) (by rfl) (by rfl) (by rfl) (by rfl) (by rfl) (by rfl))))
def qfL (a:(List qp)):Nat→(List qp)→Int→Option ((List qp) × Int)
 | 0,_,_=>none
 | n+1,x2,i1 =>
  bif decide (i1<(a.length:Int)) then
   (idx a i1).bind fun y1 =>
   (qia n y1).bind fun r1 =>
   (idx x2 i1).bind fun _ =>
   qfL a n (setS x2 i1 r1) (W64 (i1+1))
  else
   some (x2,i1)
def qi0 (n:Nat) (a:(List qp)):Option (List qp) :=
 (mkS (a.length:Int) ((⟨ByteArray.empty,0,[],[],[],0,0⟩:qp):qp)).bind fun x1 =>
 (qfL a n x1 0).bind fun o=>match o with
 | (x2,_) =>
  some x2
theorem qn1 {a:(List qp)} (ha1:GoT.R w (old w) a cs1) {r:(List qp)} (hF:qi0 n a=some r):RetV Tryz.prog 112 [GoT.v (List qp) cs1] w r:=by
 obtain ⟨p1,k1,rfl,s1⟩:=ha1
 refine zV 23 Tryz.func112 rfl fun h=>X0 8 rfl ?_
 obtain ⟨x1,hx1,hF⟩:=qd hF
 obtain ⟨g1,g2,hx1⟩:=qbT hx1
 refine qcY qc qp h rfl rfl rfl rfl rfl rfl rfl rfl rfl g1 g2 hx1 rfl fun w1 S1 p2 h=>X0 7 rfl ?_
 obtain ⟨o1,hF,hK1⟩:=qd hF
 refine qk (rL (fun m e w'=>∃ (S2:Nat→Prop) (x2:(List qp)) (i1:Int),qfL a m x2 i1=some o1∧e=[(0,.slice p1 a.length k1),(3,.slice p2 x1.length x1.length),(4,.int .i64 i1)]∧SH w w' [Ch.own S2 (x2:List qp) [.slice p2 x1.length x1.length]]) n ⟨_,_,_,hF,rfl,h⟩ rfl ?_)
 rintro m1 e1 w2 ⟨S2,x2,i1,hF,rfl,h⟩
 rcases m1 with _|m1
 ·cases hF
 refine X0 8 rfl (qj rfl hF ?_ ?_)<;>intro hF
 ·refine X0 8 rfl ?_
  obtain ⟨y1,hy1,hF,he1,b1,_,q1,cs2,hp1,hq1,hr1,hc2⟩:=s1.ix hF
  obtain ⟨p3,k2,p4,k3,p5,k4,rfl,s2,s3,s4⟩:=qH hr1
  refine zxe hp1 hq1 he1 rfl (zc 0 (hc2.below h.below) rfl (zcO h hF (qoQ (qg4 y1 (h.oldS s2) (h.oldS s3) (h.oldS s4))) rfl fun r1 w3 S3 cs3 h hF=>?_))
  obtain ⟨p6,k5,p7,k6,p8,k7,rfl,-,-,-⟩:=qH (h.own 0 rfl)
  obtain ⟨y2,hy2,hF⟩:=qd hF
  have he2:=qav hy2
  replace h:=h.lrn0 1 rfl
  obtain ⟨b2,o_2,q2,cs4,hp2,hq2,-,hr3,hc3⟩:=(qhH (h.lrnO 1 rfl)).1.at hy2
  have hr4:=hr3
  obtain ⟨p9,k8,p10,k9,p11,k10,rfl,s8,s9,s10⟩:=qH hr3
  replace h:=h.lrnAdd 1 rfl hr4
  refine zx hp2 hq2 ⟨he2.1,qw he2.2.1 (qhH (h.lrnO 1 rfl)).2⟩ rfl ?_
  replace h:=h.unlrn 1 rfl
  exact qj3 qc r1 h hy2 hp2 hq2 rfl rfl rfl rfl rfl fun w4 S4 h=>X0 7 rfl (rK ⟨_,_,_,hF,rfl,h⟩ rfl)
 refine qn rfl ?_
 obtain rfl:=qb hF;replace hF:=hK1
 refine X0 5 rfl ?_
 obtain rfl:=qb hF
 exact rO 0 h rfl ⟨rfl,trivial⟩
def qhD (n:Nat) (a:qm):Option qm :=
 (qi0 n a.Ah).bind fun r1 =>
 some (⟨r1⟩:qm)
theorem qm4 {a:qm} (ha1:GoT.R w (old w) a cs1) {r:qm} (hF:qhD n a=some r):RetV Tryz.prog 53 [GoT.v qm cs1] w r:=by
 obtain ⟨p1,k1,rfl,s1⟩:=qa1 ha1
 refine zV 9 Tryz.func53 rfl fun h=>zSR (qt h rfl rfl fun w1 bb1 h=>qE qc h rfl rfl rfl fun w2 bb2 h=>zNSR (qE qc h rfl rfl rfl fun w3 bb3 h=>X1 5 2 h rfl (zcL h hF (qn1 ⟨_,_,rfl,(h.oldS s1)⟩) rfl fun r1 w4 S1 p2 k2 h hF=>zp1 rfl (zs 1 h rfl fun w5 h=>X1 4 1 h rfl (zs 2 h rfl fun w6 h=>qec ?_)))))
 obtain rfl:=qb hF
 exact qaA qc (ρ:=qm) [GoT.v qm [.slice p2 r1.length k2]] h ⟨⟨_,_,_,rfl,rfl,h.box 2 rfl,rfl⟩,trivial⟩ (PV.done h (qaN (qq6 (⟨r1⟩:qm) h (qay 0 h rfl) )))
def qfJ (n:Nat) (a:qg):Option qg :=
 (qaP n a.Af).bind fun r1 =>
 some (⟨a.Ar,a.Ba,r1⟩:qg)
theorem qmk {a:qg} (ha1:GoT.R w (old w) a cs1) {r:qg} (hF:qfJ n a=some r):RetV Tryz.prog 169 [GoT.v qg cs1] w r:=by
 obtain ⟨p1,k1,rfl,s1⟩:=qJ ha1
 refine zV 15 Tryz.func169 rfl fun h=>zSR (qt h rfl rfl fun w1 bb1 h=>qE qc h rfl rfl rfl fun w2 bb2 h=>zNSR (qE qc h rfl rfl rfl fun w3 bb3 h=>X1 6 2 h rfl (zs 0 h rfl fun w4 h=>X1 6 2 h rfl (zs 0 h rfl fun w5 h=>X1 5 2 h rfl (zcL h hF (qaI ⟨_,_,rfl,(h.oldS s1)⟩) rfl fun r1 w6 S1 p2 k2 h hF=>zp1 rfl (zs 1 h rfl fun w7 h=>X1 4 1 h rfl (zs 2 h rfl fun w8 h=>qec ?_)))))))
 obtain rfl:=qb hF
 exact qaA qc (ρ:=qg) [GoT.v qg [.string a.Ar,.int .i64 a.Ba,.slice p2 r1.length k2]] h ⟨⟨_,_,_,rfl,rfl,h.box 2 rfl,rfl⟩,trivial⟩ (PV.done h (qaN (qmK (⟨a.Ar,a.Ba,r1⟩:qg) h (qB (S:=fun _=>False) rfl) (qB (S:=fun _=>False) rfl) (qay 0 h rfl) (by rfl) (by rfl))))
def qdu (a:(List qg)):Nat→(List qg)→Int→Option ((List qg) × Int)
 | 0,_,_=>none
 | n+1,x2,i1 =>
  bif decide (i1<(a.length:Int)) then
   (idx a i1).bind fun y1 =>
   (qfJ n y1).bind fun r1 =>
   (idx x2 i1).bind fun _ =>
   qdu a n (setS x2 i1 r1) (W64 (i1+1))
  else
   some (x2,i1)
def qgu (n:Nat) (a:(List qg)):Option (List qg) :=
 (mkS (a.length:Int) ((⟨ByteArray.empty,0,[]⟩:qg):qg)).bind fun x1 =>
 (qdu a n x1 0).bind fun o=>match o with
 | (x2,_) =>
  some x2
theorem qlP {a:(List qg)} (ha1:GoT.R w (old w) a cs1) {r:(List qg)} (hF:qgu n a=some r):RetV Tryz.prog 113 [GoT.v (List qg) cs1] w r:=by
 obtain ⟨p1,k1,rfl,s1⟩:=ha1
 refine zV 23 Tryz.func113 rfl fun h=>X0 8 rfl ?_
 obtain ⟨x1,hx1,hF⟩:=qd hF
 obtain ⟨g1,g2,hx1⟩:=qbT hx1
 refine qcY qc qg h rfl rfl rfl rfl rfl rfl rfl rfl rfl g1 g2 hx1 rfl fun w1 S1 p2 h=>X0 7 rfl ?_
 obtain ⟨o1,hF,hK1⟩:=qd hF
 refine qk (rL (fun m e w'=>∃ (S2:Nat→Prop) (x2:(List qg)) (i1:Int),qdu a m x2 i1=some o1∧e=[(0,.slice p1 a.length k1),(3,.slice p2 x1.length x1.length),(4,.int .i64 i1)]∧SH w w' [Ch.own S2 (x2:List qg) [.slice p2 x1.length x1.length]]) n ⟨_,_,_,hF,rfl,h⟩ rfl ?_)
 rintro m1 e1 w2 ⟨S2,x2,i1,hF,rfl,h⟩
 rcases m1 with _|m1
 ·cases hF
 refine X0 8 rfl (qj rfl hF ?_ ?_)<;>intro hF
 ·refine X0 8 rfl ?_
  obtain ⟨y1,hy1,hF,he1,b1,_,q1,cs2,hp1,hq1,hr1,hc2⟩:=s1.ix hF
  obtain ⟨p3,k2,rfl,s2⟩:=qJ hr1
  refine zxe hp1 hq1 he1 rfl (zc 0 (hc2.below h.below) rfl (zcO h hF (qmk (qfQ y1 (h.oldS s2))) rfl fun r1 w3 S3 cs3 h hF=>?_))
  obtain ⟨p4,k3,rfl,-⟩:=qJ (h.own 0 rfl)
  obtain ⟨y2,hy2,hF⟩:=qd hF
  have he2:=qav hy2
  replace h:=h.lrn0 1 rfl
  obtain ⟨b2,o_2,q2,cs4,hp2,hq2,-,hr3,hc3⟩:=(qhH (h.lrnO 1 rfl)).1.at hy2
  have hr4:=hr3
  obtain ⟨p5,k4,rfl,s4⟩:=qJ hr3
  replace h:=h.lrnAdd 1 rfl hr4
  refine zx hp2 hq2 ⟨he2.1,qw he2.2.1 (qhH (h.lrnO 1 rfl)).2⟩ rfl ?_
  replace h:=h.unlrn 1 rfl
  exact qj3 qc r1 h hy2 hp2 hq2 rfl rfl rfl rfl rfl fun w4 S4 h=>X0 7 rfl (rK ⟨_,_,_,hF,rfl,h⟩ rfl)
 refine qn rfl ?_
 obtain rfl:=qb hF;replace hF:=hK1
 refine X0 5 rfl ?_
 obtain rfl:=qb hF
 exact rO 0 h rfl ⟨rfl,trivial⟩
def qey (a:(List ByteArray)):Nat→(List ByteArray)→Int→Option ((List ByteArray) × Int)
 | 0,_,_=>none
 | n+1,x2,i1 =>
  bif decide (i1<(a.length:Int)) then
   (idx a i1).bind fun y1 =>
   (idx x2 i1).bind fun _ =>
   qey a n (setS x2 i1 y1) (W64 (i1+1))
  else
   some (x2,i1)
def qhk (n:Nat) (a:(List ByteArray)):Option (List ByteArray) :=
 (mkS (a.length:Int) (ByteArray.empty:ByteArray)).bind fun x1 =>
 (qey a n x1 0).bind fun o=>match o with
 | (x2,_) =>
  some x2
theorem qmz {a:(List ByteArray)} (ha1:GoT.R w (old w) a cs1) {r:(List ByteArray)} (hF:qhk n a=some r):RetV Tryz.prog 114 [GoT.v (List ByteArray) cs1] w r:=by
 obtain ⟨p1,k1,rfl,s1⟩:=ha1
 refine zV 22 Tryz.func114 rfl fun h=>X0 8 rfl ?_
 obtain ⟨x1,hx1,hF⟩:=qd hF
 obtain ⟨g1,g2,hx1⟩:=qbT hx1
 refine qcY qc ByteArray h rfl rfl rfl rfl rfl rfl rfl rfl rfl g1 g2 hx1 rfl fun w1 S1 p2 h=>X0 7 rfl ?_
 obtain ⟨o1,hF,hK1⟩:=qd hF
 refine qk (rL (fun m e w'=>∃ (x2:(List ByteArray)) (i1:Int),qey a m x2 i1=some o1∧e=[(0,.slice p1 a.length k1),(3,.slice p2 x1.length x1.length),(4,.int .i64 i1)]∧SH w w' [Ch.own S1 (x2:List ByteArray) [.slice p2 x1.length x1.length]]) n ⟨_,_,hF,rfl,h⟩ rfl ?_)
 rintro m1 e1 w2 ⟨x2,i1,hF,rfl,h⟩
 rcases m1 with _|m1
 ·cases hF
 refine X0 8 rfl (qj rfl hF ?_ ?_)<;>intro hF
 ·refine X0 8 rfl ?_
  obtain ⟨y1,hy1,hF,he1,b1,_,q1,cs2,hp1,hq1,rfl,hc2⟩:=s1.ix hF
  refine zxe hp1 hq1 he1 rfl (zc 0 (hc2.below h.below) rfl ?_)
  obtain ⟨y2,hy2,hF,he2,b2,_,q2,cs3,hp2,hq2,rfl,hc3⟩:=(h.sl 0 rfl).1.ix hF
  exact zx hp2 hq2 ⟨he2.1,qw he2.2.1 (h.sl 0 rfl).2⟩ rfl (qaS qc 0 0 y1 h rfl hy2 hp2 hq2 rfl hc3 rfl rfl rfl rfl rfl rfl rfl fun w3 h=>X0 7 rfl (rK ⟨_,_,hF,rfl,h⟩ rfl))
 refine qn rfl ?_
 obtain rfl:=qb hF;replace hF:=hK1
 refine X0 5 rfl ?_
 obtain rfl:=qb hF
 exact rO 0 h rfl ⟨rfl,trivial⟩
def qij (_:Nat) (a:qF):Option qF :=
 some (⟨a.Ar,a.Bl,a.Bo⟩:qF)
theorem qo0 {a:qF} (ha1:GoT.R w (old w) a cs1) {r:qF} (hF:qij n a=some r):RetV Tryz.prog 170 [GoT.v qF cs1] w r:=by
 obtain rfl:=qat ha1
 refine zV 14 Tryz.func170 rfl fun h=>zSR (qt h rfl rfl fun w1 bb1 h=>qE qc h rfl rfl rfl fun w2 bb2 h=>zNSR (qE qc h rfl rfl rfl fun w3 bb3 h=>X1 6 2 h rfl (zs 0 h rfl fun w4 h=>X1 6 2 h rfl (zs 0 h rfl fun w5 h=>X1 6 2 h rfl (zs 0 h rfl fun w6 h=>X1 4 0 h rfl (zs 1 h rfl fun w7 h=>qec ?_))))))
 obtain rfl:=qb hF
 exact qaA qc (ρ:=qF) [GoT.v qF (qob a)] h ⟨⟨_,_,_,rfl,rfl,h.box 1 rfl,rfl⟩,trivial⟩ (PV.done h (qaN (qB (S:=fun _=>False) (qdT (⟨a.Ar,a.Bl,a.Bo⟩:qF)))))
def qfE (a:(List qF)):Nat→(List qF)→Int→Option ((List qF) × Int)
 | 0,_,_=>none
 | n+1,x2,i1 =>
  bif decide (i1<(a.length:Int)) then
   (idx a i1).bind fun y1 =>
   (qij n y1).bind fun r1 =>
   (idx x2 i1).bind fun _ =>
   qfE a n (setS x2 i1 r1) (W64 (i1+1))
  else
   some (x2,i1)
def qiT (n:Nat) (a:(List qF)):Option (List qF) :=
 (mkS (a.length:Int) ((⟨ByteArray.empty,0,0⟩:qF):qF)).bind fun x1 =>
 (qfE a n x1 0).bind fun o=>match o with
 | (x2,_) =>
  some x2
theorem qnT {a:(List qF)} (ha1:GoT.R w (old w) a cs1) {r:(List qF)} (hF:qiT n a=some r):RetV Tryz.prog 115 [GoT.v (List qF) cs1] w r:=by
 obtain ⟨p1,k1,rfl,s1⟩:=ha1
 refine zV 23 Tryz.func115 rfl fun h=>X0 8 rfl ?_
 obtain ⟨x1,hx1,hF⟩:=qd hF
 obtain ⟨g1,g2,hx1⟩:=qbT hx1
 refine qcY qc qF h rfl rfl rfl rfl rfl rfl rfl rfl rfl g1 g2 hx1 rfl fun w1 S1 p2 h=>X0 7 rfl ?_
 obtain ⟨o1,hF,hK1⟩:=qd hF
 refine qk (rL (fun m e w'=>∃ (x2:(List qF)) (i1:Int),qfE a m x2 i1=some o1∧e=[(0,.slice p1 a.length k1),(3,.slice p2 x1.length x1.length),(4,.int .i64 i1)]∧SH w w' [Ch.own S1 (x2:List qF) [.slice p2 x1.length x1.length]]) n ⟨_,_,hF,rfl,h⟩ rfl ?_)
 rintro m1 e1 w2 ⟨x2,i1,hF,rfl,h⟩
 rcases m1 with _|m1
 ·cases hF
 refine X0 8 rfl (qj rfl hF ?_ ?_)<;>intro hF
 ·refine X0 8 rfl ?_
  obtain ⟨y1,hy1,hF,he1,b1,_,q1,cs2,hp1,hq1,hr1,hc2⟩:=s1.ix hF
  obtain rfl:=qat hr1
  refine zxe hp1 hq1 he1 rfl (zc 0 (hc2.below h.below) rfl (zcO h hF (qo0 (qdT y1)) rfl fun r1 w3 S2 cs3 h hF=>?_))
  obtain rfl:=qat (h.own 0 rfl)
  obtain ⟨y2,hy2,hF,he2,b2,_,q2,cs4,hp2,hq2,hr3,hc3⟩:=(h.sl 1 rfl).1.ix hF
  obtain rfl:=qat hr3
  refine zx hp2 hq2 ⟨he2.1,qw he2.2.1 (h.sl 1 rfl).2⟩ rfl (qaS qc 1 0 r1 h rfl hy2 hp2 hq2 (qdT y2) hc3 rfl rfl rfl (qdT r1) rfl rfl rfl fun w4 h=>X0 7 rfl ?_)
  replace h:=h.pick [1] rfl
  exact rK ⟨_,_,hF,rfl,h⟩ rfl
 refine qn rfl ?_
 obtain rfl:=qb hF;replace hF:=hK1
 refine X0 5 rfl ?_
 obtain rfl:=qb hF
 exact rO 0 h rfl ⟨rfl,trivial⟩
def qh8 (n:Nat) (a:qe):Option qe :=
 (qgu n a.Aa).bind fun r1 =>
 (qhk n a.Af).bind fun r2 =>
 (qiT n a.Ac).bind fun r3 =>
 some (⟨r1,r2,r3⟩:qe)
theorem qni {a:qe} (ha1:GoT.R w (old w) a cs1) {r:qe} (hF:qh8 n a=some r):RetV Tryz.prog 54 [GoT.v qe cs1] w r:=by
 obtain ⟨p1,k1,p2,k2,p3,k3,rfl,s1,s2,s3⟩:=qae ha1
 refine zV 17 Tryz.func54 rfl fun h=>zSR (qt h rfl rfl fun w1 bb1 h=>qE qc h rfl rfl rfl fun w2 bb2 h=>zNSR (qE qc h rfl rfl rfl fun w3 bb3 h=>X1 5 2 h rfl (zcL h hF (qlP ⟨_,_,rfl,(h.oldS s1)⟩) rfl fun r1 w4 S1 p4 k4 h hF=>zp1 rfl (zs 1 h rfl fun w5 h=>X1 5 3 h rfl (zcL h hF (qmz ⟨_,_,rfl,(h.oldS s2)⟩) rfl fun r2 w6 S2 p5 k5 h hF=>zp1 rfl (zs 2 h rfl fun w7 h=>X1 5 4 h rfl (zcL h hF (qnT ⟨_,_,rfl,(h.oldS s3)⟩) rfl fun r3 w8 S3 p6 k6 h hF=>zp1 rfl (zs 3 h rfl fun w9 h=>X1 4 3 h rfl (zs 4 h rfl fun w10 h=>qec ?_)))))))))
 obtain rfl:=qb hF
 exact qaA qc (ρ:=qe) [GoT.v qe [.slice p4 r1.length k4,.slice p5 r2.length k5,.slice p6 r3.length k6]] h ⟨⟨_,_,_,rfl,rfl,h.box 4 rfl,rfl⟩,trivial⟩ (PV.done h (qaN (qsk (⟨r1,r2,r3⟩:qe) h (qay 2 h rfl) (qay 1 h rfl) (qay 0 h rfl) (by rfl) (by rfl))))
def qig (n:Nat) (a:qy):Option qy :=
 (qaP n a.Ak).bind fun r1 =>
 (qaP n a.Bm).bind fun r2 =>
 (qaP n a.Bj).bind fun r3 =>
 (qaP n a.Be).bind fun r4 =>
 some (⟨r1,r2,r3,r4⟩:qy)
theorem qop {a:qy} (ha1:GoT.R w (old w) a cs1) {r:qy} (hF:qig n a=some r):RetV Tryz.prog 116 [GoT.v qy cs1] w r:=by
 obtain ⟨p1,k1,p2,k2,p3,k3,p4,k4,rfl,s1,s2,s3,s4⟩:=qa7 ha1
 refine zV 21 Tryz.func116 rfl fun h=>zSR (qt h rfl rfl fun w1 bb1 h=>qE qc h rfl rfl rfl fun w2 bb2 h=>zNSR (qE qc h rfl rfl rfl fun w3 bb3 h=>X1 5 2 h rfl (zcL h hF (qaI ⟨_,_,rfl,(h.oldS s1)⟩) rfl fun r1 w4 S1 p5 k5 h hF=>zp1 rfl (zs 1 h rfl fun w5 h=>X1 5 3 h rfl (zcL h hF (qaI ⟨_,_,rfl,(h.oldS s2)⟩) rfl fun r2 w6 S2 p6 k6 h hF=>zp1 rfl (zs 2 h rfl fun w7 h=>X1 5 4 h rfl (zcL h hF (qaI ⟨_,_,rfl,(h.oldS s3)⟩) rfl fun r3 w8 S3 p7 k7 h hF=>zp1 rfl (zs 3 h rfl fun w9 h=>X1 5 5 h rfl (zcL h hF (qaI ⟨_,_,rfl,(h.oldS s4)⟩) rfl fun r4 w10 S4 p8 k8 h hF=>zp1 rfl (zs 4 h rfl fun w11 h=>X1 4 4 h rfl (zs 5 h rfl fun w12 h=>qec ?_)))))))))))
 obtain rfl:=qb hF
 exact qaA qc (ρ:=qy) [GoT.v qy [.slice p5 r1.length k5,.slice p6 r2.length k6,.slice p7 r3.length k7,.slice p8 r4.length k8]] h ⟨⟨_,_,_,rfl,rfl,h.box 5 rfl,rfl⟩,trivial⟩ (PV.done h (qaN (qrB (⟨r1,r2,r3,r4⟩:qy) h (qay 3 h rfl) (qay 2 h rfl) (qay 1 h rfl) (qay 0 h rfl) (by rfl) (by rfl) (by rfl))))
def qfO (a:(List qy)):Nat→(List qy)→Int→Option ((List qy) × Int)
 | 0,_,_=>none
 | n+1,x2,i1 =>
  bif decide (i1<(a.length:Int)) then
   (idx a i1).bind fun y1 =>
   (qig n y1).bind fun r1 =>
   (idx x2 i1).bind fun _ =>
   qfO a n (setS x2 i1 r1) (W64 (i1+1))
  else
   some (x2,i1)
def qiW (n:Nat) (a:(List qy)):Option (List qy) :=
 (mkS (a.length:Int) ((⟨[],[],[],[]⟩:qy):qy)).bind fun x1 =>
 (qfO a n x1 0).bind fun o=>match o with
 | (x2,_) =>
  some x2
theorem qnI {a:(List qy)} (ha1:GoT.R w (old w) a cs1) {r:(List qy)} (hF:qiW n a=some r):RetV Tryz.prog 55 [GoT.v (List qy) cs1] w r:=by
 obtain ⟨p1,k1,rfl,s1⟩:=ha1
 refine zV 23 Tryz.func55 rfl fun h=>X0 8 rfl ?_
 obtain ⟨x1,hx1,hF⟩:=qd hF
 obtain ⟨g1,g2,hx1⟩:=qbT hx1
 refine qcY qc qy h rfl rfl rfl rfl rfl rfl rfl rfl rfl g1 g2 hx1 rfl fun w1 S1 p2 h=>X0 7 rfl ?_
 obtain ⟨o1,hF,hK1⟩:=qd hF
 refine qk (rL (fun m e w'=>∃ (S2:Nat→Prop) (x2:(List qy)) (i1:Int),qfO a m x2 i1=some o1∧e=[(0,.slice p1 a.length k1),(3,.slice p2 x1.length x1.length),(4,.int .i64 i1)]∧SH w w' [Ch.own S2 (x2:List qy) [.slice p2 x1.length x1.length]]) n ⟨_,_,_,hF,rfl,h⟩ rfl ?_)
 rintro m1 e1 w2 ⟨S2,x2,i1,hF,rfl,h⟩
 rcases m1 with _|m1
 ·cases hF
 refine X0 8 rfl (qj rfl hF ?_ ?_)<;>intro hF
 ·refine X0 8 rfl ?_
  obtain ⟨y1,hy1,hF,he1,b1,_,q1,cs2,hp1,hq1,hr1,hc2⟩:=s1.ix hF
  obtain ⟨p3,k2,p4,k3,p5,k4,p6,k5,rfl,s2,s3,s4,s5⟩:=qa7 hr1
  refine zxe hp1 hq1 he1 rfl (zc 0 (hc2.below h.below) rfl (zcO h hF (qop (qi4 y1 (h.oldS s2) (h.oldS s3) (h.oldS s4) (h.oldS s5))) rfl fun r1 w3 S3 cs3 h hF=>?_))
  obtain ⟨p7,k6,p8,k7,p9,k8,p10,k9,rfl,-,-,-,-⟩:=qa7 (h.own 0 rfl)
  obtain ⟨y2,hy2,hF⟩:=qd hF
  have he2:=qav hy2
  replace h:=h.lrn0 1 rfl
  obtain ⟨b2,o_2,q2,cs4,hp2,hq2,-,hr3,hc3⟩:=(qhH (h.lrnO 1 rfl)).1.at hy2
  have hr4:=hr3
  obtain ⟨p11,k10,p12,k11,p13,k12,p14,k13,rfl,s10,s11,s12,s13⟩:=qa7 hr3
  replace h:=h.lrnAdd 1 rfl hr4
  refine zx hp2 hq2 ⟨he2.1,qw he2.2.1 (qhH (h.lrnO 1 rfl)).2⟩ rfl ?_
  replace h:=h.unlrn 1 rfl
  exact qj3 qc r1 h hy2 hp2 hq2 rfl rfl rfl rfl rfl fun w4 S4 h=>X0 7 rfl (rK ⟨_,_,_,hF,rfl,h⟩ rfl)
 refine qn rfl ?_
 obtain rfl:=qb hF;replace hF:=hK1
 refine X0 5 rfl ?_
 obtain rfl:=qb hF
 exact rO 0 h rfl ⟨rfl,trivial⟩
def qft (n:Nat) (a:qi):Option qi :=
 (qhD n (⟨a.Ai.Ah⟩:qm)).bind fun r1 =>
 (qh8 n (⟨a.Ab.Aa,a.Ab.Af,a.Ab.Ac⟩:qe)).bind fun r2 =>
 (qiW n a.Aj).bind fun r3 =>
 some (⟨r1,r2,r3⟩:qi)
theorem qgH {a:qi} (ha1:GoT.R w (old w) a cs1) {r:qi} (hF:qft n a=some r):RetV Tryz.prog 20 [GoT.v qi cs1] w r:=by
 obtain ⟨p1,k1,p2,k2,p3,k3,p4,k4,p5,k5,rfl,s1,s2,s3,s4,s5⟩:=qO ha1
 refine zV 17 Tryz.func20 rfl fun h=>zSR (qt h rfl rfl fun w1 bb1 h=>qE qc h rfl rfl rfl fun w2 bb2 h=>zNSR (qE qc h rfl rfl rfl fun w3 bb3 h=>X1 5 2 h rfl (zcO h hF (qm4 (qbY _ (h.oldS s1))) rfl fun r1 w4 S1 cs2 h hF=>?_)))
 obtain ⟨p6,k6,rfl,-⟩:=qa1 (h.own 0 rfl)
 refine zp1 rfl (zs 1 h rfl fun w5 h=>X1 5 3 h rfl (zcO h hF (qni (qaq _ (h.oldS s2) (h.oldS s3) (h.oldS s4))) rfl fun r2 w6 S2 cs3 h hF=>?_))
 obtain ⟨p7,k7,p8,k8,p9,k9,rfl,-,-,-⟩:=qae (h.own 0 rfl)
 refine zp1 rfl (zs 2 h rfl fun w7 h=>X1 5 4 h rfl (zcL h hF (qnI ⟨_,_,rfl,(h.oldS s5)⟩) rfl fun r3 w8 S3 p10 k10 h hF=>zp1 rfl (zs 3 h rfl fun w9 h=>X1 4 3 h rfl (zs 4 h rfl fun w10 h=>qec ?_))))
 obtain rfl:=qb hF
 exact qaA qc (ρ:=qi) [GoT.v qi [.slice p6 r1.Ah.length k6,.slice p7 r2.Aa.length k7,.slice p8 r2.Af.length k8,.slice p9 r2.Ac.length k9,.slice p10 r3.length k10]] h ⟨⟨_,_,_,rfl,rfl,h.box 4 rfl,rfl⟩,trivial⟩ (PV.done h (qaN (qtK (⟨r1,r2,r3⟩:qi) h (qay 2 h rfl) (qay 1 h rfl) (qay 0 h rfl) (by rfl) (by rfl))))
def qfi (a:(List Int)) (b:(List Int)):Nat→Int→Option (Flow Bool Int)
 | 0,_=>none
 | n+1,i1 =>
  bif decide (i1<(a.length:Int)) then
   (idx a i1).bind fun y1 =>
   (idx b i1).bind fun y2 =>
   bif (y1 != y2) then some (.ret false) else
   qfi a b n (W64 (i1+1))
  else
   some (.nxt i1)
def qau (n:Nat) (a:(List Int)) (b:(List Int)):Option Bool :=
 bif ((a.length:Int) != (b.length:Int)) then some false else
 (qfi a b n 0).bind fun o=>match o with
 | .ret r=>some r
 | .nxt _ =>
  some true
theorem qaz {a:(List Int)} {b:(List Int)} (ha1:GoT.R w (old w) a cs1) (ha2:GoT.R w (old w) b cs2) {r:Bool} (hF:qau n a b=some r):RetV Tryz.prog 57 [GoT.v (List Int) cs1,GoT.v (List Int) cs2] w r:=by
 obtain ⟨p1,k1,rfl,s1⟩:=ha1
 obtain ⟨p2,k2,rfl,s2⟩:=ha2
 refine zV 26 Tryz.func57 rfl fun h=>X0 13 rfl (qj rfl hF ?_ ?_)<;>intro hF
 ·exact X0 4 rfl (rb h hF rfl)
 refine X0 6 rfl ?_
 obtain ⟨o1,hF,hK1⟩:=qd hF
 refine qk (rL (fun m e w'=>∃ (i1:Int),qfi a b m i1=some o1∧e=[(0,.slice p1 a.length k1),(1,.slice p2 b.length k2),(5,.int .i64 i1)]∧SH w w' []) n ⟨_,hF,rfl,h⟩ rfl ?_)
 rintro m1 e1 w1 ⟨i1,hF,rfl,h⟩
 rcases m1 with _|m1
 ·cases hF
 refine X0 8 rfl (qj rfl hF ?_ ?_)<;>intro hF
 ·refine X0 4 rfl (rD (zd2 rfl ?_))
  obtain ⟨y1,hy1,hF,he1,b1,_,q1,cs3,hp1,hq1,rfl,hc3⟩:=s1.ix hF
  refine zdxe hp1 hq1 he1 rfl (zdc 0 (hc3.below h.below) rfl (zd2 rfl ?_))
  obtain ⟨y2,hy2,hF,he2,b2,_,q2,cs4,hp2,hq2,rfl,hc4⟩:=s2.ix hF
  refine zdxe hp2 hq2 he2 rfl (zdc 0 (hc4.below h.below) rfl (zd1 rfl (dN h fun w2 h=>qj rfl hF ?_ ?_)))<;>intro hF
  ·refine X0 4 rfl ?_
   obtain rfl:=qb hF;replace hF:=hK1
   exact rb h hF rfl
  exact X0 7 rfl (rK ⟨_,hF,rfl,h⟩ rfl)
 refine qn rfl ?_
 obtain rfl:=qb hF;replace hF:=hK1
 exact X0 4 rfl (rb h hF rfl)
def qjp (_:Nat) (a:qU) (b:qU):Option Bool :=
 bif (a.Ar.toList != b.Ar.toList) then some false else
 bif (a.Bl != b.Bl) then some false else
 bif (a.Bj != b.Bj) then some false else
 bif (!(a.Bd==b.Bd)) then some false else
 some true
theorem qpt {a:qU} {b:qU} (ha1:GoT.R w (old w) a cs1) (ha2:GoT.R w (old w) b cs2) {r:Bool} (hF:qjp n a b=some r):RetV Tryz.prog 228 [GoT.v qU cs1,GoT.v qU cs2] w r:=by
 obtain rfl:=qax ha1
 obtain rfl:=qax ha2
 refine zV 25 Tryz.func228 rfl fun h=>zSR (qt h rfl rfl fun w1 bb1 h=>qt h rfl rfl fun w2 bb2 h=>X2 11 1 0 h rfl (qj rfl hF ?_ ?_))<;>intro hF
 ·exact X0 4 rfl (rb h hF rfl)
 refine X2 10 1 0 h rfl (qj rfl hF ?_ ?_)<;>intro hF
 ·exact X0 4 rfl (rb h hF rfl)
 refine X2 10 1 0 h rfl (qj rfl hF ?_ ?_)<;>intro hF
 ·exact X0 4 rfl (rb h hF rfl)
 refine X2 10 1 0 h rfl (qj rfl hF ?_ ?_)<;>intro hF
 ·exact X0 4 rfl (rb h hF rfl)
 exact X0 5 rfl (rb h hF rfl)
def qga (a:(List qU)) (b:(List qU)):Nat→Int→Option (Flow Bool Int)
 | 0,_=>none
 | n+1,i1 =>
  bif decide (i1<(a.length:Int)) then
   (idx a i1).bind fun y1 =>
   (idx b i1).bind fun y2 =>
   (qjp n y1 y2).bind fun r1 =>
   bif (!r1) then some (.ret false) else
   qga a b n (W64 (i1+1))
  else
   some (.nxt i1)
def qjU (n:Nat) (a:(List qU)) (b:(List qU)):Option Bool :=
 bif ((a.length:Int) != (b.length:Int)) then some false else
 (qga a b n 0).bind fun o=>match o with
 | .ret r=>some r
 | .nxt _ =>
  some true
theorem qoX {a:(List qU)} {b:(List qU)} (ha1:GoT.R w (old w) a cs1) (ha2:GoT.R w (old w) b cs2) {r:Bool} (hF:qjU n a b=some r):RetV Tryz.prog 205 [GoT.v (List qU) cs1,GoT.v (List qU) cs2] w r:=by
 obtain ⟨p1,k1,rfl,s1⟩:=ha1
 obtain ⟨p2,k2,rfl,s2⟩:=ha2
 refine zV 27 Tryz.func205 rfl fun h=>X0 13 rfl (qj rfl hF ?_ ?_)<;>intro hF
 ·exact X0 4 rfl (rb h hF rfl)
 refine X0 6 rfl ?_
 obtain ⟨o1,hF,hK1⟩:=qd hF
 refine qk (rL (fun m e w'=>∃ (i1:Int),qga a b m i1=some o1∧e=[(0,.slice p1 a.length k1),(1,.slice p2 b.length k2),(5,.int .i64 i1)]∧SH w w' []) n ⟨_,hF,rfl,h⟩ rfl ?_)
 rintro m1 e1 w1 ⟨i1,hF,rfl,h⟩
 rcases m1 with _|m1
 ·cases hF
 refine X0 8 rfl (qj rfl hF ?_ ?_)<;>intro hF
 ·refine X0 4 rfl (rD (zd2 rfl ?_))
  obtain ⟨y1,hy1,hF,he1,b1,_,q1,cs3,hp1,hq1,hr1,hc3⟩:=s1.ix hF
  obtain rfl:=qax hr1
  refine zdxe hp1 hq1 he1 rfl (zdc 0 (hc3.below h.below) rfl (zd2 rfl ?_))
  obtain ⟨y2,hy2,hF,he2,b2,_,q2,cs4,hp2,hq2,hr2,hc4⟩:=s2.ix hF
  obtain rfl:=qax hr2
  refine zdxe hp2 hq2 he2 rfl (zdc 0 (hc4.below h.below) rfl ?_)
  obtain ⟨r1,hr3,hF⟩:=qd hF
  refine qbU r1 (vsB _) (cB 228 rfl) (fun _ hb=>qpt (qds y1) (qds y2) hr3) rfl rfl rfl rfl (zd1 rfl (dN h fun w2 h=>qj rfl hF ?_ ?_))<;>intro hF
  ·refine X0 4 rfl ?_
   obtain rfl:=qb hF;replace hF:=hK1
   exact rb h hF rfl
  exact X0 7 rfl (rK ⟨_,hF,rfl,h⟩ rfl)
 refine qn rfl ?_
 obtain rfl:=qb hF;replace hF:=hK1
 exact X0 4 rfl (rb h hF rfl)
def qhy (n:Nat) (a:qq) (b:qq):Option Bool :=
 (qau n a.Bc b.Bc).bind fun r1 =>
 bif (!r1) then some false else
 (qau n a.Bb b.Bb).bind fun r2 =>
 bif (!r2) then some false else
 (qau n a.Au b.Au).bind fun r3 =>
 bif (!r3) then some false else
 some true
theorem qnO {a:qq} {b:qq} (ha1:GoT.R w (old w) a cs1) (ha2:GoT.R w (old w) b cs2) {r:Bool} (hF:qhy n a b=some r):RetV Tryz.prog 252 [GoT.v qq cs1,GoT.v qq cs2] w r:=by
 obtain ⟨p1,k1,p2,k2,p3,k3,rfl,s1,s2,s3⟩:=qa5 ha1
 obtain ⟨p4,k4,p5,k5,p6,k6,rfl,s4,s5,s6⟩:=qa5 ha2
 refine zV 23 Tryz.func252 rfl fun h=>zSR (qt h rfl rfl fun w1 bb1 h=>qt h rfl rfl fun w2 bb2 h=>X2 9 1 0 h rfl (zcB h hF (qaz ⟨_,_,rfl,(h.oldS s1)⟩ ⟨_,_,rfl,(h.oldS s4)⟩) rfl fun r1 w3 h hF=>X0 2 rfl (qj rfl hF ?_ ?_)))<;>intro hF
 ·exact X0 4 rfl (rb h hF rfl)
 refine X2 8 1 0 h rfl (zcB h hF (qaz ⟨_,_,rfl,(h.oldS s2)⟩ ⟨_,_,rfl,(h.oldS s5)⟩) rfl fun r2 w4 h hF=>X0 2 rfl (qj rfl hF ?_ ?_))<;>intro hF
 ·exact X0 4 rfl (rb h hF rfl)
 refine X2 8 1 0 h rfl (zcB h hF (qaz ⟨_,_,rfl,(h.oldS s3)⟩ ⟨_,_,rfl,(h.oldS s6)⟩) rfl fun r3 w5 h hF=>X0 2 rfl (qj rfl hF ?_ ?_))<;>intro hF
 ·exact X0 4 rfl (rb h hF rfl)
 exact X0 5 rfl (rb h hF rfl)
def qeZ (a:(List qq)) (b:(List qq)):Nat→Int→Option (Flow Bool Int)
 | 0,_=>none
 | n+1,i1 =>
  bif decide (i1<(a.length:Int)) then
   (idx a i1).bind fun y1 =>
   (idx b i1).bind fun y2 =>
   (qhy n y1 y2).bind fun r1 =>
   bif (!r1) then some (.ret false) else
   qeZ a b n (W64 (i1+1))
  else
   some (.nxt i1)
def qgG (n:Nat) (a:(List qq)) (b:(List qq)):Option Bool :=
 bif ((a.length:Int) != (b.length:Int)) then some false else
 (qeZ a b n 0).bind fun o=>match o with
 | .ret r=>some r
 | .nxt _ =>
  some true
theorem qkq {a:(List qq)} {b:(List qq)} (ha1:GoT.R w (old w) a cs1) (ha2:GoT.R w (old w) b cs2) {r:Bool} (hF:qgG n a b=some r):RetV Tryz.prog 241 [GoT.v (List qq) cs1,GoT.v (List qq) cs2] w r:=by
 obtain ⟨p1,k1,rfl,s1⟩:=ha1
 obtain ⟨p2,k2,rfl,s2⟩:=ha2
 refine zV 27 Tryz.func241 rfl fun h=>X0 13 rfl (qj rfl hF ?_ ?_)<;>intro hF
 ·exact X0 4 rfl (rb h hF rfl)
 refine X0 6 rfl ?_
 obtain ⟨o1,hF,hK1⟩:=qd hF
 refine qk (rL (fun m e w'=>∃ (i1:Int),qeZ a b m i1=some o1∧e=[(0,.slice p1 a.length k1),(1,.slice p2 b.length k2),(5,.int .i64 i1)]∧SH w w' []) n ⟨_,hF,rfl,h⟩ rfl ?_)
 rintro m1 e1 w1 ⟨i1,hF,rfl,h⟩
 rcases m1 with _|m1
 ·cases hF
 refine X0 8 rfl (qj rfl hF ?_ ?_)<;>intro hF
 ·refine X0 4 rfl (rD (zd2 rfl ?_))
  obtain ⟨y1,hy1,hF,he1,b1,_,q1,cs3,hp1,hq1,hr1,hc3⟩:=s1.ix hF
  obtain ⟨p3,k3,p4,k4,p5,k5,rfl,s3,s4,s5⟩:=qa5 hr1
  refine zdxe hp1 hq1 he1 rfl (zdc 0 (hc3.below h.below) rfl (zd2 rfl ?_))
  obtain ⟨y2,hy2,hF,he2,b2,_,q2,cs4,hp2,hq2,hr2,hc4⟩:=s2.ix hF
  obtain ⟨p6,k6,p7,k7,p8,k8,rfl,s6,s7,s8⟩:=qa5 hr2
  refine zdxe hp2 hq2 he2 rfl (zdc 0 (hc4.below h.below) rfl ?_)
  obtain ⟨r1,hr3,hF⟩:=qd hF
  refine qbU r1 (vsB _) (cB 252 rfl) (fun _ hb=>qnO (qhP y1 ((h.ext hb).oldS s3) ((h.ext hb).oldS s4) ((h.ext hb).oldS s5)) (qhP y2 ((h.ext hb).oldS s6) ((h.ext hb).oldS s7) ((h.ext hb).oldS s8)) hr3) rfl rfl rfl rfl (zd1 rfl (dN h fun w2 h=>qj rfl hF ?_ ?_))<;>intro hF
  ·refine X0 4 rfl ?_
   obtain rfl:=qb hF;replace hF:=hK1
   exact rb h hF rfl
  exact X0 7 rfl (rK ⟨_,hF,rfl,h⟩ rfl)
 refine qn rfl ?_
 obtain rfl:=qb hF;replace hF:=hK1
 exact X0 4 rfl (rb h hF rfl)
def qje (n:Nat) (a:qC) (b:qC):Option Bool :=
 bif (a.Aq != b.Aq) then some false else
 bif (a.Av != b.Av) then some false else
 bif (a.To != b.To) then some false else
 bif (a.Bg != b.Bg) then some false else
 (qgG n a.Az b.Az).bind fun r1 =>
 bif (!r1) then some false else
 (qgG n a.Bh b.Bh).bind fun r2 =>
 bif (!r2) then some false else
 some true
theorem qpm {a:qC} {b:qC} (ha1:GoT.R w (old w) a cs1) (ha2:GoT.R w (old w) b cs2) {r:Bool} (hF:qje n a b=some r):RetV Tryz.prog 229 [GoT.v qC cs1,GoT.v qC cs2] w r:=by
 obtain ⟨p1,k1,p2,k2,rfl,s1,s2⟩:=qag ha1
 obtain ⟨p3,k3,p4,k4,rfl,s3,s4⟩:=qag ha2
 refine zV 37 Tryz.func229 rfl fun h=>zSR (qt h rfl rfl fun w1 bb1 h=>qt h rfl rfl fun w2 bb2 h=>X2 11 1 0 h rfl (qj rfl hF ?_ ?_))<;>intro hF
 ·exact X0 4 rfl (rb h hF rfl)
 refine X2 10 1 0 h rfl (qj rfl hF ?_ ?_)<;>intro hF
 ·exact X0 4 rfl (rb h hF rfl)
 refine X2 10 1 0 h rfl (qj rfl hF ?_ ?_)<;>intro hF
 ·exact X0 4 rfl (rb h hF rfl)
 refine X2 10 1 0 h rfl (qj rfl hF ?_ ?_)<;>intro hF
 ·exact X0 4 rfl (rb h hF rfl)
 refine X2 8 1 0 h rfl (zcB h hF (qkq ⟨_,_,rfl,(h.oldS s1)⟩ ⟨_,_,rfl,(h.oldS s3)⟩) rfl fun r1 w3 h hF=>X0 2 rfl (qj rfl hF ?_ ?_))<;>intro hF
 ·exact X0 4 rfl (rb h hF rfl)
 refine X2 8 1 0 h rfl (zcB h hF (qkq ⟨_,_,rfl,(h.oldS s2)⟩ ⟨_,_,rfl,(h.oldS s4)⟩) rfl fun r2 w4 h hF=>X0 2 rfl (qj rfl hF ?_ ?_))<;>intro hF
 ·exact X0 4 rfl (rb h hF rfl)
 exact X0 5 rfl (rb h hF rfl)
end Go.Fw


namespace Go.Fw
open Go Go.Proofs
open Go.RowKit (Below)
set_option maxRecDepth 100000
set_option maxHeartbeats 6400000
variable {n:Nat} {w:World} {cs1 cs2 cs3 cs4 cs5 cs6 cs7 cs8 cs9:List Value}
def qgb (a:(List qC)) (b:(List qC)):Nat→Int→Option (Flow Bool Int)
 | 0,_=>none
 | n+1,i1 =>
  bif decide (i1<(a.length:Int)) then
   (idx a i1).bind fun y1 =>
   (idx b i1).bind fun y2 =>
   (qje n y1 y2).bind fun r1 =>
   bif (!r1) then some (.ret false) else
   qgb a b n (W64 (i1+1))
  else
   some (.nxt i1)
def qjH (n:Nat) (a:(List qC)) (b:(List qC)):Option Bool :=
 bif ((a.length:Int) != (b.length:Int)) then some false else
 (qgb a b n 0).bind fun o=>match o with
 | .ret r=>some r
 | .nxt _ =>
  some true
theorem qoT {a:(List qC)} {b:(List qC)} (ha1:GoT.R w (old w) a cs1) (ha2:GoT.R w (old w) b cs2) {r:Bool} (hF:qjH n a b=some r):RetV Tryz.prog 206 [GoT.v (List qC) cs1,GoT.v (List qC) cs2] w r:=by
 obtain ⟨p1,k1,rfl,s1⟩:=ha1
 obtain ⟨p2,k2,rfl,s2⟩:=ha2
 refine zV 27 Tryz.func206 rfl fun h=>X0 13 rfl (qj rfl hF ?_ ?_)<;>intro hF
 ·exact X0 4 rfl (rb h hF rfl)
 refine X0 6 rfl ?_
 obtain ⟨o1,hF,hK1⟩:=qd hF
 refine qk (rL (fun m e w'=>∃ (i1:Int),qgb a b m i1=some o1∧e=[(0,.slice p1 a.length k1),(1,.slice p2 b.length k2),(5,.int .i64 i1)]∧SH w w' []) n ⟨_,hF,rfl,h⟩ rfl ?_)
 rintro m1 e1 w1 ⟨i1,hF,rfl,h⟩
 rcases m1 with _|m1
 ·cases hF
 refine X0 8 rfl (qj rfl hF ?_ ?_)<;>intro hF
 ·refine X0 4 rfl (rD (zd2 rfl ?_))
  obtain ⟨y1,hy1,hF,he1,b1,_,q1,cs3,hp1,hq1,hr1,hc3⟩:=s1.ix hF
  obtain ⟨p3,k3,p4,k4,rfl,s3,s4⟩:=qag hr1
  refine zdxe hp1 hq1 he1 rfl (zdc 0 (hc3.below h.below) rfl (zd2 rfl ?_))
  obtain ⟨y2,hy2,hF,he2,b2,_,q2,cs4,hp2,hq2,hr2,hc4⟩:=s2.ix hF
  obtain ⟨p5,k5,p6,k6,rfl,s5,s6⟩:=qag hr2
  refine zdxe hp2 hq2 he2 rfl (zdc 0 (hc4.below h.below) rfl ?_)
  obtain ⟨r1,hr3,hF⟩:=qd hF
  refine qbU r1 (vsB _) (cB 229 rfl) (fun _ hb=>qpm (qgd y1 ((h.ext hb).oldS s3) ((h.ext hb).oldS s4)) (qgd y2 ((h.ext hb).oldS s5) ((h.ext hb).oldS s6)) hr3) rfl rfl rfl rfl (zd1 rfl (dN h fun w2 h=>qj rfl hF ?_ ?_))<;>intro hF
  ·refine X0 4 rfl ?_
   obtain rfl:=qb hF;replace hF:=hK1
   exact rb h hF rfl
  exact X0 7 rfl (rK ⟨_,hF,rfl,h⟩ rfl)
 refine qn rfl ?_
 obtain rfl:=qb hF;replace hF:=hK1
 exact X0 4 rfl (rb h hF rfl)
def qie (n:Nat) (a:qp) (b:qp):Option Bool :=
 bif (a.Ar.toList != b.Ar.toList) then some false else
 bif (a.Aq != b.Aq) then some false else
 (qjU n a.Am b.Am).bind fun r1 =>
 bif (!r1) then some false else
 (qjH n a.Ap b.Ap).bind fun r2 =>
 bif (!r2) then some false else
 (qau n a.Ay b.Ay).bind fun r3 =>
 bif (!r3) then some false else
 bif (a.Bn != b.Bn) then some false else
 bif (a.Bf != b.Bf) then some false else
 some true
theorem qoW {a:qp} {b:qp} (ha1:GoT.R w (old w) a cs1) (ha2:GoT.R w (old w) b cs2) {r:Bool} (hF:qie n a b=some r):RetV Tryz.prog 171 [GoT.v qp cs1,GoT.v qp cs2] w r:=by
 obtain ⟨p1,k1,p2,k2,p3,k3,rfl,s1,s2,s3⟩:=qH ha1
 obtain ⟨p4,k4,p5,k5,p6,k6,rfl,s4,s5,s6⟩:=qH ha2
 refine zV 43 Tryz.func171 rfl fun h=>zSR (qt h rfl rfl fun w1 bb1 h=>qt h rfl rfl fun w2 bb2 h=>X2 11 1 0 h rfl (qj rfl hF ?_ ?_))<;>intro hF
 ·exact X0 4 rfl (rb h hF rfl)
 refine X2 10 1 0 h rfl (qj rfl hF ?_ ?_)<;>intro hF
 ·exact X0 4 rfl (rb h hF rfl)
 refine X2 8 1 0 h rfl (zcB h hF (qoX ⟨_,_,rfl,(h.oldS s1)⟩ ⟨_,_,rfl,(h.oldS s4)⟩) rfl fun r1 w3 h hF=>X0 2 rfl (qj rfl hF ?_ ?_))<;>intro hF
 ·exact X0 4 rfl (rb h hF rfl)
 refine X2 8 1 0 h rfl (zcB h hF (qoT ⟨_,_,rfl,(h.oldS s2)⟩ ⟨_,_,rfl,(h.oldS s5)⟩) rfl fun r2 w4 h hF=>X0 2 rfl (qj rfl hF ?_ ?_))<;>intro hF
 ·exact X0 4 rfl (rb h hF rfl)
 refine X2 8 1 0 h rfl (zcB h hF (qaz ⟨_,_,rfl,(h.oldS s3)⟩ ⟨_,_,rfl,(h.oldS s6)⟩) rfl fun r3 w5 h hF=>X0 2 rfl (qj rfl hF ?_ ?_))<;>intro hF
 ·exact X0 4 rfl (rb h hF rfl)
 refine X2 10 1 0 h rfl (qj rfl hF ?_ ?_)<;>intro hF
 ·exact X0 4 rfl (rb h hF rfl)
 refine X2 10 1 0 h rfl (qj rfl hF ?_ ?_)<;>intro hF
 ·exact X0 4 rfl (rb h hF rfl)
 exact X0 5 rfl (rb h hF rfl)
def qfG (a:(List qp)) (b:(List qp)):Nat→Int→Option (Flow Bool Int)
 | 0,_=>none
 | n+1,i1 =>
  bif decide (i1<(a.length:Int)) then
   (idx a i1).bind fun y1 =>
   (idx b i1).bind fun y2 =>
   (qie n y1 y2).bind fun r1 =>
   bif (!r1) then some (.ret false) else
   qfG a b n (W64 (i1+1))
  else
   some (.nxt i1)
def qiX (n:Nat) (a:(List qp)) (b:(List qp)):Option Bool :=
 bif ((a.length:Int) != (b.length:Int)) then some false else
 (qfG a b n 0).bind fun o=>match o with
 | .ret r=>some r
 | .nxt _ =>
  some true
theorem qnF {a:(List qp)} {b:(List qp)} (ha1:GoT.R w (old w) a cs1) (ha2:GoT.R w (old w) b cs2) {r:Bool} (hF:qiX n a b=some r):RetV Tryz.prog 118 [GoT.v (List qp) cs1,GoT.v (List qp) cs2] w r:=by
 obtain ⟨p1,k1,rfl,s1⟩:=ha1
 obtain ⟨p2,k2,rfl,s2⟩:=ha2
 refine zV 27 Tryz.func118 rfl fun h=>X0 13 rfl (qj rfl hF ?_ ?_)<;>intro hF
 ·exact X0 4 rfl (rb h hF rfl)
 refine X0 6 rfl ?_
 obtain ⟨o1,hF,hK1⟩:=qd hF
 refine qk (rL (fun m e w'=>∃ (i1:Int),qfG a b m i1=some o1∧e=[(0,.slice p1 a.length k1),(1,.slice p2 b.length k2),(5,.int .i64 i1)]∧SH w w' []) n ⟨_,hF,rfl,h⟩ rfl ?_)
 rintro m1 e1 w1 ⟨i1,hF,rfl,h⟩
 rcases m1 with _|m1
 ·cases hF
 refine X0 8 rfl (qj rfl hF ?_ ?_)<;>intro hF
 ·refine X0 4 rfl (rD (zd2 rfl ?_))
  obtain ⟨y1,hy1,hF,he1,b1,_,q1,cs3,hp1,hq1,hr1,hc3⟩:=s1.ix hF
  obtain ⟨p3,k3,p4,k4,p5,k5,rfl,s3,s4,s5⟩:=qH hr1
  refine zdxe hp1 hq1 he1 rfl (zdc 0 (hc3.below h.below) rfl (zd2 rfl ?_))
  obtain ⟨y2,hy2,hF,he2,b2,_,q2,cs4,hp2,hq2,hr2,hc4⟩:=s2.ix hF
  obtain ⟨p6,k6,p7,k7,p8,k8,rfl,s6,s7,s8⟩:=qH hr2
  refine zdxe hp2 hq2 he2 rfl (zdc 0 (hc4.below h.below) rfl ?_)
  obtain ⟨r1,hr3,hF⟩:=qd hF
  refine qbU r1 (vsB _) (cB 171 rfl) (fun _ hb=>qoW (qg4 y1 ((h.ext hb).oldS s3) ((h.ext hb).oldS s4) ((h.ext hb).oldS s5)) (qg4 y2 ((h.ext hb).oldS s6) ((h.ext hb).oldS s7) ((h.ext hb).oldS s8)) hr3) rfl rfl rfl rfl (zd1 rfl (dN h fun w2 h=>qj rfl hF ?_ ?_))<;>intro hF
  ·refine X0 4 rfl ?_
   obtain rfl:=qb hF;replace hF:=hK1
   exact rb h hF rfl
  exact X0 7 rfl (rK ⟨_,hF,rfl,h⟩ rfl)
 refine qn rfl ?_
 obtain rfl:=qb hF;replace hF:=hK1
 exact X0 4 rfl (rb h hF rfl)
def qhl (n:Nat) (a:qm) (b:qm):Option Bool :=
 (qiX n a.Ah b.Ah).bind fun r1 =>
 bif (!r1) then some false else
 some true
theorem qmT {a:qm} {b:qm} (ha1:GoT.R w (old w) a cs1) (ha2:GoT.R w (old w) b cs2) {r:Bool} (hF:qhl n a b=some r):RetV Tryz.prog 58 [GoT.v qm cs1,GoT.v qm cs2] w r:=by
 obtain ⟨p1,k1,rfl,s1⟩:=qa1 ha1
 obtain ⟨p2,k2,rfl,s2⟩:=qa1 ha2
 refine zV 11 Tryz.func58 rfl fun h=>zSR (qt h rfl rfl fun w1 bb1 h=>qt h rfl rfl fun w2 bb2 h=>X2 9 1 0 h rfl (zcB h hF (qnF ⟨_,_,rfl,(h.oldS s1)⟩ ⟨_,_,rfl,(h.oldS s2)⟩) rfl fun r1 w3 h hF=>X0 2 rfl (qj rfl hF ?_ ?_)))<;>intro hF
 ·exact X0 4 rfl (rb h hF rfl)
 exact X0 5 rfl (rb h hF rfl)
def qfF (n:Nat) (a:qg) (b:qg):Option Bool :=
 bif (a.Ar.toList != b.Ar.toList) then some false else
 bif (a.Ba != b.Ba) then some false else
 (qau n a.Af b.Af).bind fun r1 =>
 bif (!r1) then some false else
 some true
theorem qmm {a:qg} {b:qg} (ha1:GoT.R w (old w) a cs1) (ha2:GoT.R w (old w) b cs2) {r:Bool} (hF:qfF n a b=some r):RetV Tryz.prog 172 [GoT.v qg cs1,GoT.v qg cs2] w r:=by
 obtain ⟨p1,k1,rfl,s1⟩:=qJ ha1
 obtain ⟨p2,k2,rfl,s2⟩:=qJ ha2
 refine zV 21 Tryz.func172 rfl fun h=>zSR (qt h rfl rfl fun w1 bb1 h=>qt h rfl rfl fun w2 bb2 h=>X2 11 1 0 h rfl (qj rfl hF ?_ ?_))<;>intro hF
 ·exact X0 4 rfl (rb h hF rfl)
 refine X2 10 1 0 h rfl (qj rfl hF ?_ ?_)<;>intro hF
 ·exact X0 4 rfl (rb h hF rfl)
 refine X2 8 1 0 h rfl (zcB h hF (qaz ⟨_,_,rfl,(h.oldS s1)⟩ ⟨_,_,rfl,(h.oldS s2)⟩) rfl fun r1 w3 h hF=>X0 2 rfl (qj rfl hF ?_ ?_))<;>intro hF
 ·exact X0 4 rfl (rb h hF rfl)
 exact X0 5 rfl (rb h hF rfl)
def qdv (a:(List qg)) (b:(List qg)):Nat→Int→Option (Flow Bool Int)
 | 0,_=>none
 | n+1,i1 =>
  bif decide (i1<(a.length:Int)) then
   (idx a i1).bind fun y1 =>
   (idx b i1).bind fun y2 =>
   (qfF n y1 y2).bind fun r1 =>
   bif (!r1) then some (.ret false) else
   qdv a b n (W64 (i1+1))
  else
   some (.nxt i1)
def qgp (n:Nat) (a:(List qg)) (b:(List qg)):Option Bool :=
 bif ((a.length:Int) != (b.length:Int)) then some false else
 (qdv a b n 0).bind fun o=>match o with
 | .ret r=>some r
 | .nxt _ =>
  some true
theorem qlU {a:(List qg)} {b:(List qg)} (ha1:GoT.R w (old w) a cs1) (ha2:GoT.R w (old w) b cs2) {r:Bool} (hF:qgp n a b=some r):RetV Tryz.prog 119 [GoT.v (List qg) cs1,GoT.v (List qg) cs2] w r:=by
 obtain ⟨p1,k1,rfl,s1⟩:=ha1
 obtain ⟨p2,k2,rfl,s2⟩:=ha2
 refine zV 27 Tryz.func119 rfl fun h=>X0 13 rfl (qj rfl hF ?_ ?_)<;>intro hF
 ·exact X0 4 rfl (rb h hF rfl)
 refine X0 6 rfl ?_
 obtain ⟨o1,hF,hK1⟩:=qd hF
 refine qk (rL (fun m e w'=>∃ (i1:Int),qdv a b m i1=some o1∧e=[(0,.slice p1 a.length k1),(1,.slice p2 b.length k2),(5,.int .i64 i1)]∧SH w w' []) n ⟨_,hF,rfl,h⟩ rfl ?_)
 rintro m1 e1 w1 ⟨i1,hF,rfl,h⟩
 rcases m1 with _|m1
 ·cases hF
 refine X0 8 rfl (qj rfl hF ?_ ?_)<;>intro hF
 ·refine X0 4 rfl (rD (zd2 rfl ?_))
  obtain ⟨y1,hy1,hF,he1,b1,_,q1,cs3,hp1,hq1,hr1,hc3⟩:=s1.ix hF
  obtain ⟨p3,k3,rfl,s3⟩:=qJ hr1
  refine zdxe hp1 hq1 he1 rfl (zdc 0 (hc3.below h.below) rfl (zd2 rfl ?_))
  obtain ⟨y2,hy2,hF,he2,b2,_,q2,cs4,hp2,hq2,hr2,hc4⟩:=s2.ix hF
  obtain ⟨p4,k4,rfl,s4⟩:=qJ hr2
  refine zdxe hp2 hq2 he2 rfl (zdc 0 (hc4.below h.below) rfl ?_)
  obtain ⟨r1,hr3,hF⟩:=qd hF
  refine qbU r1 (vsB _) (cB 172 rfl) (fun _ hb=>qmm (qfQ y1 ((h.ext hb).oldS s3)) (qfQ y2 ((h.ext hb).oldS s4)) hr3) rfl rfl rfl rfl (zd1 rfl (dN h fun w2 h=>qj rfl hF ?_ ?_))<;>intro hF
  ·refine X0 4 rfl ?_
   obtain rfl:=qb hF;replace hF:=hK1
   exact rb h hF rfl
  exact X0 7 rfl (rK ⟨_,hF,rfl,h⟩ rfl)
 refine qn rfl ?_
 obtain rfl:=qb hF;replace hF:=hK1
 exact X0 4 rfl (rb h hF rfl)
def qeu (a:(List ByteArray)) (b:(List ByteArray)):Nat→Int→Option (Flow Bool Int)
 | 0,_=>none
 | n+1,i1 =>
  bif decide (i1<(a.length:Int)) then
   (idx a i1).bind fun y1 =>
   (idx b i1).bind fun y2 =>
   bif (y1.toList != y2.toList) then some (.ret false) else
   qeu a b n (W64 (i1+1))
  else
   some (.nxt i1)
def qg9 (n:Nat) (a:(List ByteArray)) (b:(List ByteArray)):Option Bool :=
 bif ((a.length:Int) != (b.length:Int)) then some false else
 (qeu a b n 0).bind fun o=>match o with
 | .ret r=>some r
 | .nxt _ =>
  some true
theorem qmX {a:(List ByteArray)} {b:(List ByteArray)} (ha1:GoT.R w (old w) a cs1) (ha2:GoT.R w (old w) b cs2) {r:Bool} (hF:qg9 n a b=some r):RetV Tryz.prog 120 [GoT.v (List ByteArray) cs1,GoT.v (List ByteArray) cs2] w r:=by
 obtain ⟨p1,k1,rfl,s1⟩:=ha1
 obtain ⟨p2,k2,rfl,s2⟩:=ha2
 refine zV 26 Tryz.func120 rfl fun h=>X0 13 rfl (qj rfl hF ?_ ?_)<;>intro hF
 ·exact X0 4 rfl (rb h hF rfl)
 refine X0 6 rfl ?_
 obtain ⟨o1,hF,hK1⟩:=qd hF
 refine qk (rL (fun m e w'=>∃ (i1:Int),qeu a b m i1=some o1∧e=[(0,.slice p1 a.length k1),(1,.slice p2 b.length k2),(5,.int .i64 i1)]∧SH w w' []) n ⟨_,hF,rfl,h⟩ rfl ?_)
 rintro m1 e1 w1 ⟨i1,hF,rfl,h⟩
 rcases m1 with _|m1
 ·cases hF
 refine X0 8 rfl (qj rfl hF ?_ ?_)<;>intro hF
 ·refine X0 4 rfl (rD (zd2 rfl ?_))
  obtain ⟨y1,hy1,hF,he1,b1,_,q1,cs3,hp1,hq1,rfl,hc3⟩:=s1.ix hF
  refine zdxe hp1 hq1 he1 rfl (zdc 0 (hc3.below h.below) rfl (zd2 rfl ?_))
  obtain ⟨y2,hy2,hF,he2,b2,_,q2,cs4,hp2,hq2,rfl,hc4⟩:=s2.ix hF
  refine zdxe hp2 hq2 he2 rfl (zdc 0 (hc4.below h.below) rfl (zd1 rfl (dN h fun w2 h=>qj rfl hF ?_ ?_)))<;>intro hF
  ·refine X0 4 rfl ?_
   obtain rfl:=qb hF;replace hF:=hK1
   exact rb h hF rfl
  exact X0 7 rfl (rK ⟨_,hF,rfl,h⟩ rfl)
 refine qn rfl ?_
 obtain rfl:=qb hF;replace hF:=hK1
 exact X0 4 rfl (rb h hF rfl)
def qim (_:Nat) (a:qF) (b:qF):Option Bool :=
 bif (a.Ar.toList != b.Ar.toList) then some false else
 bif (a.Bl != b.Bl) then some false else
 bif (a.Bo != b.Bo) then some false else
 some true
theorem qoV {a:qF} {b:qF} (ha1:GoT.R w (old w) a cs1) (ha2:GoT.R w (old w) b cs2) {r:Bool} (hF:qim n a b=some r):RetV Tryz.prog 173 [GoT.v qF cs1,GoT.v qF cs2] w r:=by
 obtain rfl:=qat ha1
 obtain rfl:=qat ha2
 refine zV 20 Tryz.func173 rfl fun h=>zSR (qt h rfl rfl fun w1 bb1 h=>qt h rfl rfl fun w2 bb2 h=>X2 11 1 0 h rfl (qj rfl hF ?_ ?_))<;>intro hF
 ·exact X0 4 rfl (rb h hF rfl)
 refine X2 10 1 0 h rfl (qj rfl hF ?_ ?_)<;>intro hF
 ·exact X0 4 rfl (rb h hF rfl)
 refine X2 10 1 0 h rfl (qj rfl hF ?_ ?_)<;>intro hF
 ·exact X0 4 rfl (rb h hF rfl)
 exact X0 5 rfl (rb h hF rfl)
def qfN (a:(List qF)) (b:(List qF)):Nat→Int→Option (Flow Bool Int)
 | 0,_=>none
 | n+1,i1 =>
  bif decide (i1<(a.length:Int)) then
   (idx a i1).bind fun y1 =>
   (idx b i1).bind fun y2 =>
   (qim n y1 y2).bind fun r1 =>
   bif (!r1) then some (.ret false) else
   qfN a b n (W64 (i1+1))
  else
   some (.nxt i1)
def qiF (n:Nat) (a:(List qF)) (b:(List qF)):Option Bool :=
 bif ((a.length:Int) != (b.length:Int)) then some false else
 (qfN a b n 0).bind fun o=>match o with
 | .ret r=>some r
 | .nxt _ =>
  some true
theorem qnK {a:(List qF)} {b:(List qF)} (ha1:GoT.R w (old w) a cs1) (ha2:GoT.R w (old w) b cs2) {r:Bool} (hF:qiF n a b=some r):RetV Tryz.prog 121 [GoT.v (List qF) cs1,GoT.v (List qF) cs2] w r:=by
 obtain ⟨p1,k1,rfl,s1⟩:=ha1
 obtain ⟨p2,k2,rfl,s2⟩:=ha2
 refine zV 27 Tryz.func121 rfl fun h=>X0 13 rfl (qj rfl hF ?_ ?_)<;>intro hF
 ·exact X0 4 rfl (rb h hF rfl)
 refine X0 6 rfl ?_
 obtain ⟨o1,hF,hK1⟩:=qd hF
 refine qk (rL (fun m e w'=>∃ (i1:Int),qfN a b m i1=some o1∧e=[(0,.slice p1 a.length k1),(1,.slice p2 b.length k2),(5,.int .i64 i1)]∧SH w w' []) n ⟨_,hF,rfl,h⟩ rfl ?_)
 rintro m1 e1 w1 ⟨i1,hF,rfl,h⟩
 rcases m1 with _|m1
 ·cases hF
 refine X0 8 rfl (qj rfl hF ?_ ?_)<;>intro hF
 ·refine X0 4 rfl (rD (zd2 rfl ?_))
  obtain ⟨y1,hy1,hF,he1,b1,_,q1,cs3,hp1,hq1,hr1,hc3⟩:=s1.ix hF
  obtain rfl:=qat hr1
  refine zdxe hp1 hq1 he1 rfl (zdc 0 (hc3.below h.below) rfl (zd2 rfl ?_))
  obtain ⟨y2,hy2,hF,he2,b2,_,q2,cs4,hp2,hq2,hr2,hc4⟩:=s2.ix hF
  obtain rfl:=qat hr2
  refine zdxe hp2 hq2 he2 rfl (zdc 0 (hc4.below h.below) rfl ?_)
  obtain ⟨r1,hr3,hF⟩:=qd hF
  refine qbU r1 (vsB _) (cB 173 rfl) (fun _ hb=>qoV (qdT y1) (qdT y2) hr3) rfl rfl rfl rfl (zd1 rfl (dN h fun w2 h=>qj rfl hF ?_ ?_))<;>intro hF
  ·refine X0 4 rfl ?_
   obtain rfl:=qb hF;replace hF:=hK1
   exact rb h hF rfl
  exact X0 7 rfl (rK ⟨_,hF,rfl,h⟩ rfl)
 refine qn rfl ?_
 obtain rfl:=qb hF;replace hF:=hK1
 exact X0 4 rfl (rb h hF rfl)
def qh2 (n:Nat) (a:qe) (b:qe):Option Bool :=
 (qgp n a.Aa b.Aa).bind fun r1 =>
 bif (!r1) then some false else
 (qg9 n a.Af b.Af).bind fun r2 =>
 bif (!r2) then some false else
 (qiF n a.Ac b.Ac).bind fun r3 =>
 bif (!r3) then some false else
 some true
theorem qm7 {a:qe} {b:qe} (ha1:GoT.R w (old w) a cs1) (ha2:GoT.R w (old w) b cs2) {r:Bool} (hF:qh2 n a b=some r):RetV Tryz.prog 59 [GoT.v qe cs1,GoT.v qe cs2] w r:=by
 obtain ⟨p1,k1,p2,k2,p3,k3,rfl,s1,s2,s3⟩:=qae ha1
 obtain ⟨p4,k4,p5,k5,p6,k6,rfl,s4,s5,s6⟩:=qae ha2
 refine zV 23 Tryz.func59 rfl fun h=>zSR (qt h rfl rfl fun w1 bb1 h=>qt h rfl rfl fun w2 bb2 h=>X2 9 1 0 h rfl (zcB h hF (qlU ⟨_,_,rfl,(h.oldS s1)⟩ ⟨_,_,rfl,(h.oldS s4)⟩) rfl fun r1 w3 h hF=>X0 2 rfl (qj rfl hF ?_ ?_)))<;>intro hF
 ·exact X0 4 rfl (rb h hF rfl)
 refine X2 8 1 0 h rfl (zcB h hF (qmX ⟨_,_,rfl,(h.oldS s2)⟩ ⟨_,_,rfl,(h.oldS s5)⟩) rfl fun r2 w4 h hF=>X0 2 rfl (qj rfl hF ?_ ?_))<;>intro hF
 ·exact X0 4 rfl (rb h hF rfl)
 refine X2 8 1 0 h rfl (zcB h hF (qnK ⟨_,_,rfl,(h.oldS s3)⟩ ⟨_,_,rfl,(h.oldS s6)⟩) rfl fun r3 w5 h hF=>X0 2 rfl (qj rfl hF ?_ ?_))<;>intro hF
 ·exact X0 4 rfl (rb h hF rfl)
 exact X0 5 rfl (rb h hF rfl)
def qit (n:Nat) (a:qy) (b:qy):Option Bool :=
 (qau n a.Ak b.Ak).bind fun r1 =>
 bif (!r1) then some false else
 (qau n a.Bm b.Bm).bind fun r2 =>
 bif (!r2) then some false else
 (qau n a.Bj b.Bj).bind fun r3 =>
 bif (!r3) then some false else
 (qau n a.Be b.Be).bind fun r4 =>
 bif (!r4) then some false else
 some true
theorem qo4 {a:qy} {b:qy} (ha1:GoT.R w (old w) a cs1) (ha2:GoT.R w (old w) b cs2) {r:Bool} (hF:qit n a b=some r):RetV Tryz.prog 122 [GoT.v qy cs1,GoT.v qy cs2] w r:=by
 obtain ⟨p1,k1,p2,k2,p3,k3,p4,k4,rfl,s1,s2,s3,s4⟩:=qa7 ha1
 obtain ⟨p5,k5,p6,k6,p7,k7,p8,k8,rfl,s5,s6,s7,s8⟩:=qa7 ha2
 refine zV 29 Tryz.func122 rfl fun h=>zSR (qt h rfl rfl fun w1 bb1 h=>qt h rfl rfl fun w2 bb2 h=>X2 9 1 0 h rfl (zcB h hF (qaz ⟨_,_,rfl,(h.oldS s1)⟩ ⟨_,_,rfl,(h.oldS s5)⟩) rfl fun r1 w3 h hF=>X0 2 rfl (qj rfl hF ?_ ?_)))<;>intro hF
 ·exact X0 4 rfl (rb h hF rfl)
 refine X2 8 1 0 h rfl (zcB h hF (qaz ⟨_,_,rfl,(h.oldS s2)⟩ ⟨_,_,rfl,(h.oldS s6)⟩) rfl fun r2 w4 h hF=>X0 2 rfl (qj rfl hF ?_ ?_))<;>intro hF
 ·exact X0 4 rfl (rb h hF rfl)
 refine X2 8 1 0 h rfl (zcB h hF (qaz ⟨_,_,rfl,(h.oldS s3)⟩ ⟨_,_,rfl,(h.oldS s7)⟩) rfl fun r3 w5 h hF=>X0 2 rfl (qj rfl hF ?_ ?_))<;>intro hF
 ·exact X0 4 rfl (rb h hF rfl)
 refine X2 8 1 0 h rfl (zcB h hF (qaz ⟨_,_,rfl,(h.oldS s4)⟩ ⟨_,_,rfl,(h.oldS s8)⟩) rfl fun r4 w6 h hF=>X0 2 rfl (qj rfl hF ?_ ?_))<;>intro hF
 ·exact X0 4 rfl (rb h hF rfl)
 exact X0 5 rfl (rb h hF rfl)
def qfH (a:(List qy)) (b:(List qy)):Nat→Int→Option (Flow Bool Int)
 | 0,_=>none
 | n+1,i1 =>
  bif decide (i1<(a.length:Int)) then
   (idx a i1).bind fun y1 =>
   (idx b i1).bind fun y2 =>
   (qit n y1 y2).bind fun r1 =>
   bif (!r1) then some (.ret false) else
   qfH a b n (W64 (i1+1))
  else
   some (.nxt i1)
def qi3 (n:Nat) (a:(List qy)) (b:(List qy)):Option Bool :=
 bif ((a.length:Int) != (b.length:Int)) then some false else
 (qfH a b n 0).bind fun o=>match o with
 | .ret r=>some r
 | .nxt _ =>
  some true
theorem qn6 {a:(List qy)} {b:(List qy)} (ha1:GoT.R w (old w) a cs1) (ha2:GoT.R w (old w) b cs2) {r:Bool} (hF:qi3 n a b=some r):RetV Tryz.prog 60 [GoT.v (List qy) cs1,GoT.v (List qy) cs2] w r:=by
 obtain ⟨p1,k1,rfl,s1⟩:=ha1
 obtain ⟨p2,k2,rfl,s2⟩:=ha2
 refine zV 27 Tryz.func60 rfl fun h=>X0 13 rfl (qj rfl hF ?_ ?_)<;>intro hF
 ·exact X0 4 rfl (rb h hF rfl)
 refine X0 6 rfl ?_
 obtain ⟨o1,hF,hK1⟩:=qd hF
 refine qk (rL (fun m e w'=>∃ (i1:Int),qfH a b m i1=some o1∧e=[(0,.slice p1 a.length k1),(1,.slice p2 b.length k2),(5,.int .i64 i1)]∧SH w w' []) n ⟨_,hF,rfl,h⟩ rfl ?_)
 rintro m1 e1 w1 ⟨i1,hF,rfl,h⟩
 rcases m1 with _|m1
 ·cases hF
 refine X0 8 rfl (qj rfl hF ?_ ?_)<;>intro hF
 ·refine X0 4 rfl (rD (zd2 rfl ?_))
  obtain ⟨y1,hy1,hF,he1,b1,_,q1,cs3,hp1,hq1,hr1,hc3⟩:=s1.ix hF
  obtain ⟨p3,k3,p4,k4,p5,k5,p6,k6,rfl,s3,s4,s5,s6⟩:=qa7 hr1
  refine zdxe hp1 hq1 he1 rfl (zdc 0 (hc3.below h.below) rfl (zd2 rfl ?_))
  obtain ⟨y2,hy2,hF,he2,b2,_,q2,cs4,hp2,hq2,hr2,hc4⟩:=s2.ix hF
  obtain ⟨p7,k7,p8,k8,p9,k9,p10,k10,rfl,s7,s8,s9,s10⟩:=qa7 hr2
  refine zdxe hp2 hq2 he2 rfl (zdc 0 (hc4.below h.below) rfl ?_)
  obtain ⟨r1,hr3,hF⟩:=qd hF
  refine qbU r1 (vsB _) (cB 122 rfl) (fun _ hb=>qo4 (qi4 y1 ((h.ext hb).oldS s3) ((h.ext hb).oldS s4) ((h.ext hb).oldS s5) ((h.ext hb).oldS s6)) (qi4 y2 ((h.ext hb).oldS s7) ((h.ext hb).oldS s8) ((h.ext hb).oldS s9) ((h.ext hb).oldS s10)) hr3) rfl rfl rfl rfl (zd1 rfl (dN h fun w2 h=>qj rfl hF ?_ ?_))<;>intro hF
  ·refine X0 4 rfl ?_
   obtain rfl:=qb hF;replace hF:=hK1
   exact rb h hF rfl
  exact X0 7 rfl (rK ⟨_,hF,rfl,h⟩ rfl)
 refine qn rfl ?_
 obtain rfl:=qb hF;replace hF:=hK1
 exact X0 4 rfl (rb h hF rfl)
def qiU (n:Nat) (a:qi) (b:qi):Option Bool :=
 (qhl n (⟨a.Ai.Ah⟩:qm) (⟨b.Ai.Ah⟩:qm)).bind fun r1 =>
 bif (!r1) then some false else
 (qh2 n (⟨a.Ab.Aa,a.Ab.Af,a.Ab.Ac⟩:qe) (⟨b.Ab.Aa,b.Ab.Af,b.Ab.Ac⟩:qe)).bind fun r2 =>
 bif (!r2) then some false else
 (qi3 n a.Aj b.Aj).bind fun r3 =>
 bif (!r3) then some false else
 some true
theorem qnW {a:qi} {b:qi} (ha1:GoT.R w (old w) a cs1) (ha2:GoT.R w (old w) b cs2) {r:Bool} (hF:qiU n a b=some r):RetV Tryz.prog 23 [GoT.v qi cs1,GoT.v qi cs2] w r:=by
 obtain ⟨p1,k1,p2,k2,p3,k3,p4,k4,p5,k5,rfl,s1,s2,s3,s4,s5⟩:=qO ha1
 obtain ⟨p6,k6,p7,k7,p8,k8,p9,k9,p10,k10,rfl,s6,s7,s8,s9,s10⟩:=qO ha2
 refine zV 23 Tryz.func23 rfl fun h=>zSR (qt h rfl rfl fun w1 bb1 h=>qt h rfl rfl fun w2 bb2 h=>X2 9 1 0 h rfl (zcB h hF (qmT (qbY _ (h.oldS s1)) (qbY _ (h.oldS s6))) rfl fun r1 w3 h hF=>X0 2 rfl (qj rfl hF ?_ ?_)))<;>intro hF
 ·exact X0 4 rfl (rb h hF rfl)
 refine X2 8 1 0 h rfl (zcB h hF (qm7 (qaq _ (h.oldS s2) (h.oldS s3) (h.oldS s4)) (qaq _ (h.oldS s7) (h.oldS s8) (h.oldS s9))) rfl fun r2 w4 h hF=>X0 2 rfl (qj rfl hF ?_ ?_))<;>intro hF
 ·exact X0 4 rfl (rb h hF rfl)
 refine X2 8 1 0 h rfl (zcB h hF (qn6 ⟨_,_,rfl,(h.oldS s5)⟩ ⟨_,_,rfl,(h.oldS s10)⟩) rfl fun r3 w5 h hF=>X0 2 rfl (qj rfl hF ?_ ?_))<;>intro hF
 ·exact X0 4 rfl (rb h hF rfl)
 exact X0 5 rfl (rb h hF rfl)
def qaj (_:Nat) (a_n:Int) (low:Int) (high:Int):Option Bool :=
 bif decide (a_n ≥ low) then some (decide (a_n≤high)) else
 some false
theorem qT {a_n:Int} {low:Int} {high:Int}  {r:Bool} (hF:qaj n a_n low high=some r):RetV Tryz.prog 88 [.int .i64 a_n,.int .i64 low,.int .i64 high] w r:=by
 refine zV 15 Tryz.func88 rfl fun h=>X0 10 rfl (ql (t:=10) hF rfl ?_ ?_)<;>intro hF
 ·exact X0 9 rfl (rb h hF rfl)
 exact X0 6 rfl (rb h hF rfl)
def qdr (s:ByteArray):Nat→Int→Option (Flow Bool Int)
 | 0,_=>none
 | n+1,i1 =>
  bif decide (i1<(s.size:Int)) then
   (
    (atS s i1).bind fun y3 =>
    bif decide (y3 ≥ 97) then
     (atS s i1).bind fun y4 =>
     some (decide (y4≤122))
    else
     some false).bind fun b1 =>
   (
    (atS s i1).bind fun y1 =>
    bif decide (y1 ≥ 48) then
     (atS s i1).bind fun y2 =>
     some (decide (y2≤57))
    else
     some false).bind fun b2 =>
   bif (!b1) then
    bif b2 then
     bif (!(decide (i1 > 0))) then some (.ret false) else
     qdr s n (W64 (i1+1))
    else
     some (.ret false)
   else
    qdr s n (W64 (i1+1))
  else
   some (.nxt i1)
def qgf (n:Nat) (s:ByteArray):Option Bool :=
 (qdr s n 0).bind fun o=>match o with
 | .ret r=>some r
 | .nxt _ =>
  bif decide ((s.size:Int) ≥ 1) then some (decide ((s.size:Int)≤8)) else
  some false
theorem qiA {s:ByteArray}  {r:Bool} (hF:qgf n s=some r):RetV Tryz.prog 197 [.string s] w r:=by
 refine zV 50 Tryz.func197 rfl fun h=>X0 9 rfl ?_
 obtain ⟨o1,hF,hK1⟩:=qd hF
 refine qk (rL (fun m e w'=>∃ (i1:Int),qdr s m i1=some o1∧e=[(0,.string s),(3,.int .i64 i1)]∧SH w w' []) n ⟨_,hF,rfl,h⟩ rfl ?_)
 rintro m1 e1 w1 ⟨i1,hF,rfl,h⟩
 rcases m1 with _|m1
 ·cases hF
 refine X0 8 rfl (qj rfl hF ?_ ?_)<;>intro hF
 ·refine X0 4 rfl ?_
  obtain ⟨KF2,hKF2,o3,hF,hK3⟩:=bindE hF
  refine qdh (fun e w'=>∃ (b1:Bool),KF2 b1=some o1∧e=[(0,.string s),(3,.int .i64 i1),(4,.bool b1)]∧SH w w' []) ?_ ?_
  ·refine X0 3 rfl ?_
   obtain ⟨y3,hx3,hF⟩:=qd hF
   have g3:=qk6 hx3
   refine r_v (qle qc g3 rfl rfl rfl rfl) rfl (zp2 rfl (ql (t:=16) hF rfl ?_ ?_))<;>intro hF
   ·refine X0 5 rfl ?_
    obtain ⟨y4,hx4,hF⟩:=qd hF
    have g4:=qk6 hx4
    refine r_v (qle qc g4 rfl rfl rfl rfl) rfl (X0 5 rfl ?_)
    obtain rfl:=qb hF
    exact rG ⟨_,hK3,rfl,h⟩ rfl
   refine X0 7 rfl ?_
   obtain rfl:=qb hF
   exact rG ⟨_,hK3,rfl,h⟩ rfl
  rintro e3 w3 ⟨b1,hF,rfl,h⟩
  subst hKF2
  refine qgw ?_
  obtain ⟨KF1,hKF1,o2,hF,hK2⟩:=bindE hF
  refine qdh (fun e w'=>∃ (b2:Bool),KF1 b2=some o1∧e=[(0,.string s),(3,.int .i64 i1),(4,.bool b1),(5,.bool b2)]∧SH w w' []) ?_ ?_
  ·refine X0 3 rfl ?_
   obtain ⟨y1,hx1,hF⟩:=qd hF
   have g1:=qk6 hx1
   refine r_v (qle qc g1 rfl rfl rfl rfl) rfl (zp2 rfl (ql (t:=26) hF rfl ?_ ?_))<;>intro hF
   ·refine X0 5 rfl ?_
    obtain ⟨y2,hx2,hF⟩:=qd hF
    have g2:=qk6 hx2
    refine r_v (qle qc g2 rfl rfl rfl rfl) rfl (X0 5 rfl ?_)
    obtain rfl:=qb hF
    exact rG ⟨_,hK2,rfl,h⟩ rfl
   refine X0 7 rfl ?_
   obtain rfl:=qb hF
   exact rG ⟨_,hK2,rfl,h⟩ rfl
  rintro e2 w2 ⟨b2,hF,rfl,h⟩
  subst hKF1
  refine X0 5 rfl (ql (t:=34) hF rfl ?_ ?_)<;>intro hF
  ·refine X0 4 rfl (ql (t:=36) hF rfl ?_ ?_)<;>intro hF
   ·refine X0 10 rfl (qj rfl hF ?_ ?_)<;>intro hF
    ·refine X0 4 rfl ?_
     obtain rfl:=qb hF;replace hF:=hK1
     exact rb h hF rfl
    exact X0 7 rfl (rK ⟨_,hF,rfl,h⟩ rfl)
   refine X0 8 rfl (qes rfl rfl (X0 4 rfl ?_))
   obtain rfl:=qb hF;replace hF:=hK1
   exact rb h hF rfl
  exact X0 8 rfl (qcf rfl rfl (X0 7 rfl (rK ⟨_,hF,rfl,h⟩ rfl)))
 refine qn rfl ?_
 obtain rfl:=qb hF;replace hF:=hK1
 refine X0 6 rfl (ql (t:=45) hF rfl ?_ ?_)<;>intro hF
 ·exact X0 9 rfl (rb h hF rfl)
 exact X0 6 rfl (rb h hF rfl)
def qeh (a_0:qp) (i2:Int) (y1:qU):Nat→Int→Option (Flow (Int × Bool) Int)
 | 0,_=>none
 | n+1,i3 =>
  bif decide (i3<i2) then
   (idx a_0.Am i3).bind fun y2 =>
   bif (y2.Ar.toList==y1.Ar.toList) then some (.ret (0,false)) else
   qeh a_0 i2 y1 n (W64 (i3+1))
  else
   some (.nxt i3)
def qcI (a_0:qp):Nat→Int→Int→Option (Flow (Int × Bool) (Int × Int))
 | 0,_,_=>none
 | n+1,i1,i2 =>
  bif decide (i2<(a_0.Am.length:Int)) then
   (idx a_0.Am i2).bind fun y1 =>
   (qeh a_0 i2 y1 n 0).bind fun o=>match o with
   | .ret r=>some (.ret r)
   | .nxt _ =>
    (
     (qgf n y1.Ar).bind fun r1 =>
     bif (!r1) then some true else
     (qaj n y1.Bj 0 500).bind fun r2 =>
     some (!r2)).bind fun b4 =>
    bif b4 then some (.ret (0,false)) else
    (
     bif (i2==(W64 ((a_0.Am.length:Int)-1))) then
      bif (y1.Bl != 2) then some true else
      bif (y1.Bj != 0) then some true else
      bif y1.Bd then some true else
      bif decide (i2<(W64 ((a_0.Am.length:Int)-1))) then some (y1.Bl != 1) else
      some false
     else
      bif decide (i2<(W64 ((a_0.Am.length:Int)-1))) then some (y1.Bl != 1) else
      some false).bind fun b5 =>
    bif b5 then some (.ret (0,false)) else
    bif y1.Bd then qcI a_0 n (W64 (i1+1)) (W64 (i2+1)) else
    qcI a_0 n i1 (W64 (i2+1))
  else
   some (.nxt (i1,i2))
def qiN (n:Nat) (a_0:qp):Option (Int × Bool) :=
 (
  bif decide ((a_0.Am.length:Int)<2) then some true else
  some (decide ((a_0.Am.length:Int) > 5))).bind fun b1 =>
 bif b1 then some (0,false) else
 (qcI a_0 n 0 0).bind fun o=>match o with
 | .ret r=>some r
 | .nxt (i1,_) =>
  some (i1,true)
theorem qnR {a_0:qp} (ha1:GoT.R w (old w) a_0 cs1) {r:(Int × Bool)} (hF:qiN n a_0=some r):RetV Tryz.prog 219 [GoT.v qp cs1] w r:=by
 obtain ⟨p1,k1,p2,k2,p3,k3,rfl,s1,s2,s3⟩:=qH ha1
 refine zV 86 Tryz.func219 rfl fun h=>zSR (qt h rfl rfl fun w1 bb1 h=>X1 12 0 h rfl ?_)
 obtain ⟨KF3,hKF3,o5,hF,hK5⟩:=bindE hF
 refine qdh (fun e w'=>∃ (b1:Bool),KF3 b1=some r∧e=[(1,.pointer (some ⟨bb1,0,none⟩)),(4,.int .i64 (a_0.Am.length:Int)),(17,.bool b1)]∧SH w w' [Ch.box bb1 (qbN a_0 p1 p2 p3 k1 k2 k3) 201]) ?_ ?_
 ·refine X0 4 rfl (ql (t:=14) hF rfl ?_ ?_)<;>intro hF
  ·refine X0 4 rfl ?_
   obtain rfl:=qb hF
   exact rG ⟨_,hK5,rfl,h⟩ rfl
  refine X0 6 rfl ?_
  obtain rfl:=qb hF
  exact rG ⟨_,hK5,rfl,h⟩ rfl
 rintro e5 w11 ⟨b1,hF,rfl,h⟩
 subst hKF3
 refine qj rfl hF ?_ ?_<;>intro hF
 ·refine X0 5 rfl ?_
  obtain rfl:=qb hF
  exact qaA qc (ρ:=(Int × Bool)) [GoT.v Int [.int .i64 0],GoT.v Bool [.bool false]] h ⟨rfl,rfl,trivial⟩ (PV.done h (qbH h (qB (S:=fun _=>False) rfl) (qaN (qB (S:=fun _=>False) rfl)) (by rfl)))
 refine X0 10 rfl ?_
 obtain ⟨o1,hF,hK1⟩:=qd hF
 refine qk (rL (fun m e w'=>∃ (i1:Int) (i2:Int),qcI a_0 m i1 i2=some o1∧e=[(1,.pointer (some ⟨bb1,0,none⟩)),(4,.int .i64 (a_0.Am.length:Int)),(5,.int .i64 i1),(6,.int .i64 i2)]∧SH w w' [Ch.box bb1 (qbN a_0 p1 p2 p3 k1 k2 k3) 201]) n ⟨_,_,hF,rfl,h⟩ rfl ?_)
 rintro m1 e1 w2 ⟨i1,i2,hF,rfl,h⟩
 rcases m1 with _|m1
 ·cases hF
 refine X0 7 rfl (qj rfl hF ?_ ?_)<;>intro hF
 ·refine X1 8 0 h rfl ?_
  obtain ⟨y1,hy1,hF,he1,b2,_,q1,cs2,hp1,hq1,hr1,hc3⟩:=s1.ix hF
  obtain rfl:=qax hr1
  refine zxe hp1 hq1 he1 rfl (zc 0 (hc3.below h.below) rfl (qE qc h rfl rfl rfl fun w3 bb2 h=>zs 0 h rfl fun w4 h=>X0 6 rfl ?_))
  obtain ⟨o2,hF,hK2⟩:=qd hF
  refine qk (rL (fun m e w'=>∃ (i3:Int),qeh a_0 i2 y1 m i3=some o2∧e=[(1,.pointer (some ⟨bb1,0,none⟩)),(4,.int .i64 (a_0.Am.length:Int)),(5,.int .i64 i1),(6,.int .i64 i2),(7,.pointer (some ⟨bb2,0,none⟩)),(8,.int .i64 i3)]∧SH w w' [Ch.box bb2 (qng y1) 218,Ch.box bb1 (qbN a_0 p1 p2 p3 k1 k2 k3) 201]) m1 ⟨_,hF,rfl,h⟩ rfl ?_)
  rintro m2 e2 w5 ⟨i3,hF,rfl,h⟩
  rcases m2 with _|m2
  ·cases hF
  refine X0 7 rfl (qj rfl hF ?_ ?_)<;>intro hF
  ·refine X0 4 rfl (rD (Y1 2 1 h rfl ?_))
   refine zd1 rfl ?_
   obtain ⟨y2,hy2,hF,he2,b3,_,q2,cs3,hp2,hq2,hr2,hc5⟩:=s1.ix hF
   obtain rfl:=qax hr2
   refine zdxe hp2 hq2 he2 rfl (zd1 rfl (zdc 0 (hc5.below h.below) rfl (Y1 2 0 h rfl ?_)))
   refine zd1 rfl (dN h fun w6 h=>qj rfl hF ?_ ?_)<;>intro hF
   ·refine X0 5 rfl ?_
    obtain rfl:=qb hF;replace hF:=hK2
    obtain rfl:=qb hF;replace hF:=hK1
    obtain rfl:=qb hF
    exact qaA qc (ρ:=(Int × Bool)) [GoT.v Int [.int .i64 0],GoT.v Bool [.bool false]] h ⟨rfl,rfl,trivial⟩ (PV.done h (qbH h (qB (S:=fun _=>False) rfl) (qaN (qB (S:=fun _=>False) rfl)) (by rfl)))
   exact X0 7 rfl (rK ⟨_,hF,rfl,h⟩ rfl)
  refine qn rfl ?_
  obtain rfl:=qb hF;replace hF:=hK2
  refine zSS ?_
  obtain ⟨KF2,hKF2,o4,hF,hK4⟩:=bindE hF
  refine qdh (fun e w'=>∃ (b4:Bool),KF2 b4=some o1∧e=[(1,.pointer (some ⟨bb1,0,none⟩)),(4,.int .i64 (a_0.Am.length:Int)),(5,.int .i64 i1),(6,.int .i64 i2),(7,.pointer (some ⟨bb2,0,none⟩)),(51,.bool b4)]∧SH w w' [Ch.box bb2 (qng y1) 218,Ch.box bb1 (qbN a_0 p1 p2 p3 k1 k2 k3) 201]) ?_ ?_
  ·refine X1 3 0 h rfl (zcB h hF qiA rfl fun r1 w8 h hF=>zp2 rfl (ql (t:=46) hF rfl ?_ ?_))<;>intro hF
   ·refine X0 6 rfl ?_
    obtain rfl:=qb hF
    exact rG ⟨_,hK4,rfl,h⟩ rfl
   refine X1 5 0 h rfl (zcB h hF qT rfl fun r2 w9 h hF=>X0 4 rfl ?_)
   obtain rfl:=qb hF
   exact rG ⟨_,hK4,rfl,h⟩ rfl
  rintro e4 w10 ⟨b4,hF,rfl,h⟩
  subst hKF2
  refine qj rfl hF ?_ ?_<;>intro hF
  ·refine X0 5 rfl ?_
   obtain rfl:=qb hF;replace hF:=hK1
   obtain rfl:=qb hF
   exact qaA qc (ρ:=(Int × Bool)) [GoT.v Int [.int .i64 0],GoT.v Bool [.bool false]] h ⟨rfl,rfl,trivial⟩ (PV.done h (qbH h (qB (S:=fun _=>False) rfl) (qaN (qB (S:=fun _=>False) rfl)) (by rfl)))
  refine zKSS ?_
  obtain ⟨KF1,hKF1,o3,hF,hK3⟩:=bindE hF
  refine qdh (fun e w'=>∃ (b5:Bool),KF1 b5=some o1∧e=[(1,.pointer (some ⟨bb1,0,none⟩)),(4,.int .i64 (a_0.Am.length:Int)),(5,.int .i64 i1),(6,.int .i64 i2),(7,.pointer (some ⟨bb2,0,none⟩)),(80,.bool b5)]∧SH w w' [Ch.box bb2 (qng y1) 218,Ch.box bb1 (qbN a_0 p1 p2 p3 k1 k2 k3) 201]) ?_ ?_
  ·refine X0 6 rfl (ql (t:=56) hF rfl ?_ ?_)<;>intro hF
   ·refine X1 8 0 h rfl (ql (t:=60) hF rfl ?_ ?_)<;>intro hF
    ·refine X0 24 rfl ?_
     obtain rfl:=qb hF
     exact rG ⟨_,hK3,rfl,h⟩ rfl
    refine X1 10 0 h rfl (ql (t:=65) hF rfl ?_ ?_)<;>intro hF
    ·refine X0 17 rfl ?_
     obtain rfl:=qb hF
     exact rG ⟨_,hK3,rfl,h⟩ rfl
    refine X1 8 0 h rfl (ql (t:=70) hF rfl ?_ ?_)<;>intro hF
    ·refine X0 11 rfl ?_
     obtain rfl:=qb hF
     exact rG ⟨_,hK3,rfl,h⟩ rfl
    refine X0 10 rfl (ql (t:=75) hF rfl ?_ ?_)<;>intro hF
    ·refine X1 10 0 h rfl ?_
     obtain rfl:=qb hF
     exact rG ⟨_,hK3,rfl,h⟩ rfl
    refine X0 7 rfl ?_
    obtain rfl:=qb hF
    exact rG ⟨_,hK3,rfl,h⟩ rfl
   refine X0 24 rfl (ql (t:=75) hF rfl ?_ ?_)<;>intro hF
   ·refine X1 10 0 h rfl ?_
    obtain rfl:=qb hF
    exact rG ⟨_,hK3,rfl,h⟩ rfl
   refine X0 7 rfl ?_
   obtain rfl:=qb hF
   exact rG ⟨_,hK3,rfl,h⟩ rfl
  rintro e3 w7 ⟨b5,hF,rfl,h⟩
  subst hKF1
  refine qj rfl hF ?_ ?_<;>intro hF
  ·refine X0 5 rfl ?_
   obtain rfl:=qb hF;replace hF:=hK1
   obtain rfl:=qb hF
   exact qaA qc (ρ:=(Int × Bool)) [GoT.v Int [.int .i64 0],GoT.v Bool [.bool false]] h ⟨rfl,rfl,trivial⟩ (PV.done h (qbH h (qB (S:=fun _=>False) rfl) (qaN (qB (S:=fun _=>False) rfl)) (by rfl)))
  refine X1 6 0 h rfl (qj rfl hF ?_ ?_)<;>intro hF
  ·refine X0 11 rfl ?_
   replace h:=h.pick [1] rfl
   exact rK ⟨_,_,hF,rfl,h⟩ rfl
  refine X0 7 rfl ?_
  replace h:=h.pick [1] rfl
  exact rK ⟨_,_,hF,rfl,h⟩ rfl
 refine qn rfl ?_
 obtain rfl:=qb hF;replace hF:=hK1
 refine X0 6 rfl ?_
 obtain rfl:=qb hF
 exact qaA qc (ρ:=(Int × Bool)) [GoT.v Int [.int .i64 i1],GoT.v Bool [.bool true]] h ⟨rfl,rfl,trivial⟩ (PV.done h (qbH h (qB (S:=fun _=>False) rfl) (qaN (qB (S:=fun _=>False) rfl)) (by rfl)))
def qdp (list:(List Int)):Nat→Int→Option (Flow Bool Int)
 | 0,_=>none
 | n+1,i1 =>
  bif decide (i1<(list.length:Int)) then
   (idx list i1).bind fun y1 =>
   (qaj n y1 0 100000).bind fun r1 =>
   bif (!r1) then some (.ret false) else
   bif decide (i1 > 0) then
    (idx list (W64 (i1-1))).bind fun y2 =>
    (idx list i1).bind fun y3 =>
    bif decide (y2 ≥ y3) then some (.ret false) else
    qdp list n (W64 (i1+1))
   else
    qdp list n (W64 (i1+1))
  else
   some (.nxt i1)
def qg7 (n:Nat) (list:(List Int)):Option Bool :=
 (qdp list n 0).bind fun o=>match o with
 | .ret r=>some r
 | .nxt _ =>
  bif decide ((list.length:Int) ≥ 1) then some (decide ((list.length:Int)≤4)) else
  some false
theorem qkQ {list:(List Int)} (ha1:GoT.R w (old w) list cs1) {r:Bool} (hF:qg7 n list=some r):RetV Tryz.prog 280 [GoT.v (List Int) cs1] w r:=by
 obtain ⟨p1,k1,rfl,s1⟩:=ha1
 refine zV 40 Tryz.func280 rfl fun h=>X0 9 rfl ?_
 obtain ⟨o1,hF,hK1⟩:=qd hF
 refine qk (rL (fun m e w'=>∃ (i1:Int),qdp list m i1=some o1∧e=[(0,.slice p1 list.length k1),(3,.int .i64 i1)]∧SH w w' []) n ⟨_,hF,rfl,h⟩ rfl ?_)
 rintro m1 e1 w1 ⟨i1,hF,rfl,h⟩
 rcases m1 with _|m1
 ·cases hF
 refine X0 8 rfl (qj rfl hF ?_ ?_)<;>intro hF
 ·refine X0 4 rfl (rD (zd2 rfl ?_))
  obtain ⟨y1,hy1,hF,he1,b1,_,q1,cs2,hp1,hq1,rfl,hc2⟩:=s1.ix hF
  refine zdxe hp1 hq1 he1 rfl (zdc 0 (hc2.below h.below) rfl ?_)
  obtain ⟨r1,hr2,hF⟩:=qd hF
  refine qbU r1 (vsB _) (cB 88 rfl) (fun _ hb=>qT  hr2) rfl rfl rfl rfl (zd2 rfl (qbo (t:=16) hF rfl ?_ ?_))<;>intro hF
  ·refine Y0 15 rfl (dN h fun w2 h=>qes rfl rfl (X0 4 rfl ?_))
   obtain rfl:=qb hF;replace hF:=hK1
   exact rb h hF rfl
  refine Y0 6 rfl (qbo (t:=19) hF rfl ?_ ?_)<;>intro hF
  ·refine Y0 7 rfl ?_
   obtain ⟨y2,hy2,hF,he2,b2,_,q2,cs3,hp2,hq2,rfl,hc3⟩:=s1.ix hF
   refine zdxe hp2 hq2 he2 rfl (Y0 1 rfl (zdc 0 (hc3.below h.below) rfl (Y0 5 rfl ?_)))
   obtain ⟨y3,hy3,hF,he3,b3,_,q3,cs4,hp3,hq3,rfl,hc4⟩:=s1.ix hF
   refine zdxe hp3 hq3 he3 rfl (Y0 1 rfl (zdc 0 (hc4.below h.below) rfl (Y0 5 rfl (dN h fun w3 h=>qj rfl hF ?_ ?_))))<;>intro hF
   ·refine X0 4 rfl ?_
    obtain rfl:=qb hF;replace hF:=hK1
    exact rb h hF rfl
   exact X0 7 rfl (rK ⟨_,hF,rfl,h⟩ rfl)
  exact Y0 13 rfl (dN h fun w4 h=>qcf rfl rfl (X0 7 rfl (rK ⟨_,hF,rfl,h⟩ rfl)))
 refine qn rfl ?_
 obtain rfl:=qb hF;replace hF:=hK1
 refine X0 6 rfl (ql (t:=35) hF rfl ?_ ?_)<;>intro hF
 ·exact X0 9 rfl (rb h hF rfl)
 exact X0 6 rfl (rb h hF rfl)
def qei (t:qq):Nat→Int→Option (Flow Bool Int)
 | 0,_=>none
 | n+1,i1 =>
  bif decide (i1<(t.Au.length:Int)) then
   (idx t.Au i1).bind fun y1 =>
   (qaj n y1 (-1000000) 1000000).bind fun r1 =>
   bif (!r1) then some (.ret false) else
   qei t n (W64 (i1+1))
  else
   some (.nxt i1)
def qi2 (n:Nat) (t:qq):Option Bool :=
 (
  (qg7 n t.Bc).bind fun r2 =>
  bif (!r2) then some true else
  (qg7 n t.Bb).bind fun r3 =>
  bif (!r3) then some true else
  some ((t.Au.length:Int) != (W64 ((t.Bc.length:Int)*(t.Bb.length:Int))))).bind fun b1 =>
 bif b1 then some false else
 (qei t n 0).bind fun o=>match o with
 | .ret r=>some r
 | .nxt _ =>
  some true
theorem qn2 {t:qq} (ha1:GoT.R w (old w) t cs1) {r:Bool} (hF:qi2 n t=some r):RetV Tryz.prog 267 [GoT.v qq cs1] w r:=by
 obtain ⟨p1,k1,p2,k2,p3,k3,rfl,s1,s2,s3⟩:=qa5 ha1
 refine zV 41 Tryz.func267 rfl fun h=>zSR (qt h rfl rfl fun w1 bb1 h=>X0 4 rfl ?_)
 obtain ⟨KF1,hKF1,o2,hF,hK2⟩:=bindE hF
 refine qdh (fun e w'=>∃ (b1:Bool),KF1 b1=some r∧e=[(1,.pointer (some ⟨bb1,0,none⟩)),(26,.bool b1)]∧SH w w' [Ch.box bb1 (qlt t p1 p2 p3 k1 k2 k3) 292]) ?_ ?_
 ·refine X1 3 0 h rfl (zcB h hF (qkQ ⟨_,_,rfl,(h.oldS s1)⟩) rfl fun r2 w4 h hF=>zp2 rfl (ql (t:=8) hF rfl ?_ ?_))<;>intro hF
  ·refine X0 19 rfl ?_
   obtain rfl:=qb hF
   exact rG ⟨_,hK2,rfl,h⟩ rfl
  refine X1 5 0 h rfl (zcB h hF (qkQ ⟨_,_,rfl,(h.oldS s2)⟩) rfl fun r3 w5 h hF=>X0 4 rfl (ql (t:=14) hF rfl ?_ ?_))<;>intro hF
  ·refine X0 13 rfl ?_
   obtain rfl:=qb hF
   exact rG ⟨_,hK2,rfl,h⟩ rfl
  refine X3 24 0 0 0 h rfl ?_
  obtain rfl:=qb hF
  exact rG ⟨_,hK2,rfl,h⟩ rfl
 rintro e2 w6 ⟨b1,hF,rfl,h⟩
 subst hKF1
 refine qj rfl hF ?_ ?_<;>intro hF
 ·exact X0 4 rfl (rb h hF rfl)
 refine X0 6 rfl ?_
 obtain ⟨o1,hF,hK1⟩:=qd hF
 refine qk (rL (fun m e w'=>∃ (i1:Int),qei t m i1=some o1∧e=[(1,.pointer (some ⟨bb1,0,none⟩)),(3,.int .i64 i1)]∧SH w w' [Ch.box bb1 (qlt t p1 p2 p3 k1 k2 k3) 292]) n ⟨_,hF,rfl,h⟩ rfl ?_)
 rintro m1 e1 w2 ⟨i1,hF,rfl,h⟩
 rcases m1 with _|m1
 ·cases hF
 refine X1 9 0 h rfl (qj rfl hF ?_ ?_)<;>intro hF
 ·refine X1 8 0 h rfl ?_
  obtain ⟨y1,hy1,hF,he1,b2,_,q1,cs2,hp1,hq1,rfl,hc3⟩:=s3.ix hF
  refine zxe hp1 hq1 he1 rfl (zc 0 (hc3.below h.below) rfl (zcB h hF qT rfl fun r1 w3 h hF=>X0 2 rfl (qj rfl hF ?_ ?_)))<;>intro hF
  ·refine X0 4 rfl ?_
   obtain rfl:=qb hF;replace hF:=hK1
   exact rb h hF rfl
  exact X0 7 rfl (rK ⟨_,hF,rfl,h⟩ rfl)
 refine qn rfl ?_
 obtain rfl:=qb hF;replace hF:=hK1
 exact X0 4 rfl (rb h hF rfl)
def qcw (t:qq):Nat→Int→Int→Int→Option (Int × Int × Int)
 | 0,_,_,_=>none
 | n+1,i1,i2,i3 =>
  bif decide (i3<(t.Au.length:Int)) then
   (idx t.Au i3).bind fun y3 =>
   (idx t.Au i3).bind fun y4 =>
   qcw t n (if y3<i1 then y3 else i1) (if y4 > i2 then y4 else i2) (W64 (i3+1))
  else
   some (i1,i2,i3)
def qgo (n:Nat) (t:qq):Option (qiC × Int) :=
 (qi2 n t).bind fun r1 =>
 bif (!r1) then some ((⟨0,0⟩:qiC),1) else
 (idx t.Au 0).bind fun y1 =>
 (idx t.Au 0).bind fun y2 =>
 (qcw t n y1 y2 1).bind fun o=>match o with
 | (i1,i2,_) =>
  some ((⟨i1,i2⟩:qiC),0)
theorem qlR {t:qq} (ha1:GoT.R w (old w) t cs1) {r:(qiC × Int)} (hF:qgo n t=some r):RetV Tryz.prog 249 [GoT.v qq cs1] w r:=by
 obtain ⟨p1,k1,p2,k2,p3,k3,rfl,s1,s2,s3⟩:=qa5 ha1
 refine zV 45 Tryz.func249 rfl fun h=>zSR (qt h rfl rfl fun w1 bb1 h=>qE qc h rfl rfl rfl fun w2 bb2 h=>X1 6 1 h rfl (zcB h hF (qn2 (h.old ha1)) rfl fun r1 w3 h hF=>X0 2 rfl (qj rfl hF ?_ ?_)))<;>intro hF
 ·refine zSR (r_v (qhf qc [] [] rfl rfl rfl rfl rfl rfl rfl rfl) rfl (zs 0 h rfl fun w4 h=>X0 2 rfl ?_))
  obtain rfl:=qb hF
  exact qaA qc (ρ:=(qiC × Int)) [GoT.v qiC [.int .i64 0,.int .i64 0],GoT.v Int [.int .i64 1]] h ⟨⟨_,_,_,rfl,rfl,h.box 0 rfl,rfl⟩,rfl,trivial⟩ (PV.done h (qbH h (qB (S:=fun _=>False) (qpE (⟨0,0⟩:qiC))) (qaN (qB (S:=fun _=>False) rfl)) (by rfl)))
 refine zKS (rA [] [1] h rfl fun w5 h=>M1 3 [0,1] 0 (h.pick [1] rfl) rfl ?_)
 obtain ⟨y1,hy1,hF,he1,b1,_,q1,cs2,hp1,hq1,rfl,hc2⟩:=s3.ix hF
 refine Ae 2 7 hp1 hq1 he1 (h.pick [1] rfl) rfl (Al 3 15 0 hc2 (h.pick [1] rfl) rfl (M1 63 [4,5] 0 (h.pick [1] rfl) rfl ?_))
 obtain ⟨y2,hy2,hF,he2,b2,_,q2,cs3,hp2,hq2,rfl,hc3⟩:=s3.ix hF
 refine Ae 6 127 hp2 hq2 he2 (h.pick [1] rfl) rfl (Al 7 255 0 hc3 (h.pick [1] rfl) rfl (Aw 8 511 (fun w' hw=>qhf qc [0,1] [.tmp 13,.tmp 17] rfl rfl rfl rfl rfl rfl rfl rfl) (h.pick [1] rfl) rfl ?_))
 refine Ao 9 1023 rfl (qE qc h rfl rfl rfl fun w6 bb3 h=>Ag (h.pick [2] rfl) (Ao 10 2047 rfl (zs 0 h rfl fun w7 h=>Ag (h.pick [2] rfl) (Ad (X0 5 rfl ?_)))))
 obtain ⟨o1,hF,hK1⟩:=qd hF
 refine qk (rL (fun m e w'=>∃ (i1:Int) (i2:Int) (i3:Int),qcw t m i1 i2 i3=some o1∧e=[(1,.pointer (some ⟨bb1,0,none⟩)),(2,.pointer (some ⟨bb2,0,none⟩)),(4,.pointer (some ⟨bb3,0,none⟩)),(5,.int .i64 i3)]∧SH w w' [Ch.box bb3 [.int .i64 i1,.int .i64 i2] 307,Ch.box bb2 [.int .i64 0,.int .i64 0] 307,Ch.box bb1 (qlt t p1 p2 p3 k1 k2 k3) 292]) n ⟨_,_,_,hF,rfl,h⟩ rfl ?_)
 rintro m1 e1 w8 ⟨i1,i2,i3,hF,rfl,h⟩
 rcases m1 with _|m1
 ·cases hF
 refine X1 9 2 h rfl (qj rfl hF ?_ ?_)<;>intro hF
 ·refine X0 4 rfl (rA [9] [0,2] h rfl fun w9 h=>M2 31 [0,1,2,3,4] 0 1 (h.pick [0,2] rfl) rfl ?_)
  obtain ⟨y3,hy3,hF,he3,b3,_,q3,cs4,hp3,hq3,rfl,hc5⟩:=s3.ix hF
  refine Ae 5 63 hp3 hq3 he3 (h.pick [0,2] rfl) rfl (Al 6 127 0 hc5 (h.pick [0,2] rfl) rfl (M0 511 [7,8] (h.pick [0,2] rfl) rfl (Ao 9 1023 rfl (zs 0 h rfl fun w10 h=>qhB (fun hs=>absurd (hs 9 (by decide)) (by decide)) (Ad (rA [9] [0,2] h rfl fun w11 h=>M2 31 [0,1,2,3,4] 0 1 (h.pick [0,2] rfl) rfl ?_))))))
  obtain ⟨y4,hy4,hF,he4,b4,_,q4,cs5,hp4,hq4,rfl,hc6⟩:=s3.ix hF
  exact Ae 5 63 hp4 hq4 he4 (h.pick [0,2] rfl) rfl (Al 6 127 0 hc6 (h.pick [0,2] rfl) rfl (M0 511 [7,8] (h.pick [0,2] rfl) rfl (Ao 9 1023 rfl (zs 0 h rfl fun w12 h=>qhB (fun hs=>absurd (hs 9 (by decide)) (by decide)) (Ad (X0 6 rfl (rK ⟨_,_,_,hF,rfl,h⟩ rfl)))))))
 refine qn rfl ?_
 obtain rfl:=qb hF;replace hF:=hK1
 refine X1 3 0 h rfl (zs 1 h rfl fun w13 h=>X0 2 rfl ?_)
 obtain rfl:=qb hF
 exact qaA qc (ρ:=(qiC × Int)) [GoT.v qiC [.int .i64 i1,.int .i64 i2],GoT.v Int [.int .i64 0]] h ⟨⟨_,_,_,rfl,rfl,h.box 1 rfl,rfl⟩,rfl,trivial⟩ (PV.done h (qbH h (qB (S:=fun _=>False) (qpE (⟨i1,i2⟩:qiC))) (qaN (qB (S:=fun _=>False) rfl)) (by rfl)))
def qcs (list:(List qq)) (positive:Bool):Nat→Int→Option (Flow Bool Int)
 | 0,_=>none
 | n+1,i1 =>
  bif decide (i1<2) then
   (idx list i1).bind fun y1 =>
   (qgo n y1).bind fun o=>match o with
    | (r2,r3) =>
     bif (r3 != 0) then some (.ret false) else
     bif positive then
      bif decide (r2.Bp<0) then some (.ret false) else
      qcs list positive n (W64 (i1+1))
     else
      qcs list positive n (W64 (i1+1))
  else
   some (.nxt i1)
def qc1 (n:Nat) (list:(List qq)) (positive:Bool):Option Bool :=
 bif ((list.length:Int) != 2) then some false else
 (qcs list positive n 0).bind fun o=>match o with
 | .ret r=>some r
 | .nxt _ =>
  some true
theorem qev {list:(List qq)} {positive:Bool} (ha1:GoT.R w (old w) list cs1) {r:Bool} (hF:qc1 n list positive=some r):RetV Tryz.prog 237 [GoT.v (List qq) cs1,.bool positive] w r:=by
 obtain ⟨p1,k1,rfl,s1⟩:=ha1
 refine zV 33 Tryz.func237 rfl fun h=>X0 11 rfl (qj rfl hF ?_ ?_)<;>intro hF
 ·exact X0 4 rfl (rb h hF rfl)
 refine X0 6 rfl ?_
 obtain ⟨o1,hF,hK1⟩:=qd hF
 refine qk (rL (fun m e w'=>∃ (i1:Int),qcs list positive m i1=some o1∧e=[(0,.slice p1 list.length k1),(1,.bool positive),(5,.int .i64 i1)]∧SH w w' []) n ⟨_,hF,rfl,h⟩ rfl ?_)
 rintro m1 e1 w1 ⟨i1,hF,rfl,h⟩
 rcases m1 with _|m1
 ·cases hF
 refine X0 6 rfl (qj rfl hF ?_ ?_)<;>intro hF
 ·refine X0 7 rfl ?_
  obtain ⟨y1,hy1,hF,he1,b1,_,q1,cs2,hp1,hq1,hr1,hc3⟩:=s1.ix hF
  obtain ⟨p2,k2,p3,k3,p4,k4,rfl,s2,s3,s4⟩:=qa5 hr1
  refine zxe hp1 hq1 he1 rfl (zc 0 (hc3.below h.below) rfl ?_)
  obtain ⟨r1,hr2,hF⟩:=qd hF
  obtain ⟨r2,r3⟩:=r1
  refine qee (r2,r3) h (cB 249 rfl) (qlR (qhP y1 (h.oldS s2) (h.oldS s3) (h.oldS s4)) hr2) rfl rfl rfl rfl fun w2 S1 us1 hv1 hr3=>?_
  obtain ⟨S2,S3,cs3,us2,rfl,hv2,hr4⟩:=hv1.cons hr3
  obtain rfl:=qrH (hv2.sh.own 0 rfl)
  obtain ⟨rfl,h⟩:=hv2.lastI hr4
  refine zp3 rfl (qE qc h rfl rfl rfl fun w3 bb1 h=>zs 0 h rfl fun w4 h=>X0 7 rfl (ql (t:=25) hF rfl ?_ ?_))<;>intro hF
  ·refine X0 8 rfl (qes rfl rfl (X0 4 rfl ?_))
   obtain rfl:=qb hF;replace hF:=hK1
   exact rb h hF rfl
  refine X0 4 rfl (ql (t:=27) hF rfl ?_ ?_)<;>intro hF
  ·refine X1 10 0 h rfl (qj rfl hF ?_ ?_)<;>intro hF
   ·refine X0 4 rfl ?_
    obtain rfl:=qb hF;replace hF:=hK1
    exact rb h hF rfl
   refine X0 7 rfl ?_
   replace h:=h.pick [] rfl
   exact rK ⟨_,hF,rfl,h⟩ rfl
  refine X0 7 rfl (qcf rfl rfl (X0 7 rfl ?_))
  replace h:=h.pick [] rfl
  exact rK ⟨_,hF,rfl,h⟩ rfl
 refine qn rfl ?_
 obtain rfl:=qb hF;replace hF:=hK1
 exact X0 4 rfl (rb h hF rfl)
def qjQ (n:Nat) (a_0:qp) (a_1:qC):Option Bool :=
 (
  (qaj n a_1.Av 0 (W64 ((W64 ((a_0.Am.length:Int)-1))-1))).bind fun r7 =>
  bif (!r7) then some true else
  (qaj n a_1.To 0 (W64 ((a_0.Am.length:Int)-1))).bind fun r8 =>
  some (!r8)).bind fun b1 =>
 bif b1 then some false else
 (idx a_0.Am a_1.Av).bind fun y1 =>
 bif (a_1.Aq==1) then
  bif (!y1.Bd) then
   bif (a_1.To==(W64 ((a_0.Am.length:Int)-1))) then
    (qaj n a_1.Bg 1 3).bind fun r1 =>
    bif r1 then
     (qc1 n a_1.Az true).bind fun r2 =>
     bif r2 then
      (qc1 n a_1.Bh true).bind fun r3 =>
      some r3
     else
      some false
    else
     some false
   else
    some false
  else
   some false
 else
  (
   bif (a_1.Aq==2) then some (a_1.Aq==2) else
   some (a_1.Aq==3)).bind fun b3 =>
  bif b3 then
   bif y1.Bd then
    bif (a_1.To==(W64 ((a_0.Am.length:Int)-1))) then
     bif (a_1.Bg==0) then
      (qc1 n a_1.Az true).bind fun r4 =>
      bif r4 then
       (qc1 n a_1.Bh true).bind fun r5 =>
       some r5
      else
       some false
     else
      some false
    else
     some false
   else
    some false
  else
   (
    bif (a_1.Aq==4) then some (a_1.Aq==4) else
    some (a_1.Aq==5)).bind fun b4 =>
   bif b4 then
    bif y1.Bd then
     bif decide (a_1.To<(W64 ((a_0.Am.length:Int)-1))) then
      (idx a_0.Am a_1.To).bind fun y2 =>
      bif (!y2.Bd) then
       bif (a_1.Bg==0) then
        (qc1 n a_1.Az false).bind fun r6 =>
        bif r6 then some ((a_1.Bh.length:Int)==0) else
        some false
       else
        some false
      else
       some false
     else
      some false
    else
     some false
   else
    some false
theorem qol {a_0:qp} {a_1:qC} (ha1:GoT.R w (old w) a_0 cs1) (ha2:GoT.R w (old w) a_1 cs2) {r:Bool} (hF:qjQ n a_0 a_1=some r):RetV Tryz.prog 220 [GoT.v qp cs1,GoT.v qC cs2] w r:=by
 obtain ⟨p1,k1,p2,k2,p3,k3,rfl,s1,s2,s3⟩:=qH ha1
 obtain ⟨p4,k4,p5,k5,rfl,s4,s5⟩:=qag ha2
 refine zV 119 Tryz.func220 rfl fun h=>zSR (qt h rfl rfl fun w1 bb1 h=>qt h rfl rfl fun w2 bb2 h=>X1 12 1 h rfl ?_)
 obtain ⟨KF3,hKF3,o3,hF,hK3⟩:=bindE hF
 refine qdh (fun e w'=>∃ (b1:Bool),KF3 b1=some r∧e=[(2,.pointer (some ⟨bb1,0,none⟩)),(3,.pointer (some ⟨bb2,0,none⟩)),(5,.int .i64 (W64 ((a_0.Am.length:Int)-1))),(23,.bool b1)]∧SH w w' [Ch.box bb2 (qkH a_1 p4 p5 k4 k5) 206,Ch.box bb1 (qbN a_0 p1 p2 p3 k1 k2 k3) 201]) ?_ ?_
 ·refine X1 5 0 h rfl (zcB h hF qT rfl fun r7 w11 h hF=>zp2 rfl (ql (t:=17) hF rfl ?_ ?_))<;>intro hF
  ·refine X0 7 rfl ?_
   obtain rfl:=qb hF
   exact rG ⟨_,hK3,rfl,h⟩ rfl
  refine X1 7 0 h rfl (zcB h hF qT rfl fun r8 w12 h hF=>X0 4 rfl ?_)
  obtain rfl:=qb hF
  exact rG ⟨_,hK3,rfl,h⟩ rfl
 rintro e3 w13 ⟨b1,hF,rfl,h⟩
 subst hKF3
 refine qj rfl hF ?_ ?_<;>intro hF
 ·exact X0 4 rfl (rb h hF rfl)
 refine X2 7 1 0 h rfl ?_
 obtain ⟨y1,hy1,hF,he1,b2,_,q1,cs3,hp1,hq1,hr1,hc2⟩:=s1.ix hF
 obtain rfl:=qax hr1
 refine zxe hp1 hq1 he1 rfl (zp1 rfl (zc 3 (hc2.below h.below) rfl (X1 14 0 h rfl (qj rfl hF ?_ ?_))))<;>intro hF
 ·refine X0 5 rfl (ql (t:=37) hF rfl ?_ ?_)<;>intro hF
  ·refine X1 10 0 h rfl (ql (t:=43) hF rfl ?_ ?_)<;>intro hF
   ·refine X1 5 0 h rfl (zcB h hF qT rfl fun r1 w3 h hF=>zp2 rfl (ql (t:=48) hF rfl ?_ ?_))<;>intro hF
    ·refine X1 5 0 h rfl (zcB h hF (qev ⟨_,_,rfl,(h.oldS s4)⟩) rfl fun r2 w4 h hF=>zp2 rfl (ql (t:=53) hF rfl ?_ ?_))<;>intro hF
     ·exact X1 5 0 h rfl (zcB h hF (qev ⟨_,_,rfl,(h.oldS s5)⟩) rfl fun r3 w5 h hF=>X0 3 rfl (rb h hF rfl))
     exact X0 6 rfl (rb h hF rfl)
    exact X0 11 rfl (rb h hF rfl)
   exact X0 16 rfl (rb h hF rfl)
  exact X0 22 rfl (rb h hF rfl)
 refine X0 6 rfl ?_
 obtain ⟨KF2,hKF2,o2,hF,hK2⟩:=bindE hF
 refine qdh (fun e w'=>∃ (b3:Bool),KF2 b3=some r∧e=[(2,.pointer (some ⟨bb1,0,none⟩)),(3,.pointer (some ⟨bb2,0,none⟩)),(5,.int .i64 (W64 ((a_0.Am.length:Int)-1))),(6,.bool y1.Bd),(32,.int .i64 a_1.Aq),(58,.bool b3)]∧SH w w' [Ch.box bb2 (qkH a_1 p4 p5 k4 k5) 206,Ch.box bb1 (qbN a_0 p1 p2 p3 k1 k2 k3) 201]) ?_ ?_
 ·refine qj rfl hF ?_ ?_<;>intro hF
  ·refine qhW ?_
   obtain rfl:=qb hF
   exact rG ⟨_,hK2,rfl,h⟩ rfl
  refine X0 4 rfl ?_
  obtain rfl:=qb hF
  exact rG ⟨_,hK2,rfl,h⟩ rfl
 rintro e2 w10 ⟨b3,hF,rfl,h⟩
 subst hKF2
 refine qj rfl hF ?_ ?_<;>intro hF
 ·refine X0 4 rfl (ql (t:=62) hF rfl ?_ ?_)<;>intro hF
  ·refine X1 10 0 h rfl (ql (t:=68) hF rfl ?_ ?_)<;>intro hF
   ·refine X1 8 0 h rfl (ql (t:=73) hF rfl ?_ ?_)<;>intro hF
    ·refine X1 5 0 h rfl (zcB h hF (qev ⟨_,_,rfl,(h.oldS s4)⟩) rfl fun r4 w6 h hF=>zp2 rfl (ql (t:=78) hF rfl ?_ ?_))<;>intro hF
     ·exact X1 5 0 h rfl (zcB h hF (qev ⟨_,_,rfl,(h.oldS s5)⟩) rfl fun r5 w7 h hF=>X0 3 rfl (rb h hF rfl))
     exact X0 6 rfl (rb h hF rfl)
    exact X0 11 rfl (rb h hF rfl)
   exact X0 16 rfl (rb h hF rfl)
  exact X0 22 rfl (rb h hF rfl)
 refine X0 6 rfl ?_
 obtain ⟨KF1,hKF1,o1,hF,hK1⟩:=bindE hF
 refine qdh (fun e w'=>∃ (b4:Bool),KF1 b4=some r∧e=[(2,.pointer (some ⟨bb1,0,none⟩)),(3,.pointer (some ⟨bb2,0,none⟩)),(5,.int .i64 (W64 ((a_0.Am.length:Int)-1))),(6,.bool y1.Bd),(83,.bool b4)]∧SH w w' [Ch.box bb2 (qkH a_1 p4 p5 k4 k5) 206,Ch.box bb1 (qbN a_0 p1 p2 p3 k1 k2 k3) 201]) ?_ ?_
 ·refine qj rfl hF ?_ ?_<;>intro hF
  ·refine qhW ?_
   obtain rfl:=qb hF
   exact rG ⟨_,hK1,rfl,h⟩ rfl
  refine X0 4 rfl ?_
  obtain rfl:=qb hF
  exact rG ⟨_,hK1,rfl,h⟩ rfl
 rintro e1 w9 ⟨b4,hF,rfl,h⟩
 subst hKF1
 refine qj rfl hF ?_ ?_<;>intro hF
 ·refine X0 4 rfl (ql (t:=87) hF rfl ?_ ?_)<;>intro hF
  ·refine X1 10 0 h rfl (ql (t:=93) hF rfl ?_ ?_)<;>intro hF
   ·refine X2 9 1 0 h rfl ?_
    obtain ⟨y2,hy2,hF,he2,b5,_,q2,cs4,hp2,hq2,hr7,hc6⟩:=s1.ix hF
    obtain rfl:=qax hr7
    refine zxe hp2 hq2 he2 rfl (X0 3 rfl (zc 3 (hc6.below h.below) rfl (X0 4 rfl (ql (t:=103) hF rfl ?_ ?_))))<;>intro hF
    ·refine X1 8 0 h rfl (ql (t:=108) hF rfl ?_ ?_)<;>intro hF
     ·refine X1 5 0 h rfl (zcB h hF (qev ⟨_,_,rfl,(h.oldS s4)⟩) rfl fun r6 w8 h hF=>zp2 rfl (ql (t:=113) hF rfl ?_ ?_))<;>intro hF
      ·exact X1 11 0 h rfl (rb h hF rfl)
      exact X0 7 rfl (rb h hF rfl)
     exact X0 12 rfl (rb h hF rfl)
    exact X0 17 rfl (rb h hF rfl)
   exact X0 27 rfl (rb h hF rfl)
  exact X0 33 rfl (rb h hF rfl)
 exact X0 6 rfl (rb h hF rfl)
def qcO (c:qp):Nat→(List Int)→Int→Option ((List Int) × Int)
 | 0,_,_=>none
 | n+1,x2,i1 =>
  bif decide (i1<(c.Ap.length:Int)) then
   (idx c.Ap i1).bind fun y1 =>
   (idx x2 y1.Aq).bind fun y2 =>
   (idx x2 y1.Aq).bind fun _ =>
   qcO c n (setS x2 y1.Aq (W64 (y2+1))) (W64 (i1+1))
  else
   some (x2,i1)
def qhZ (n:Nat) (c:qp):Option (List Int) :=
 (mkS 6 (0:Int)).bind fun x1 =>
 (qcO c n x1 0).bind fun o=>match o with
 | (x2,_) =>
  some x2
theorem qnd {c:qp} (ha1:GoT.R w (old w) c cs1) {r:(List Int)} (hF:qhZ n c=some r):RetV Tryz.prog 221 [GoT.v qp cs1] w r:=by
 obtain ⟨p1,k1,p2,k2,p3,k3,rfl,s1,s2,s3⟩:=qH ha1
 refine zV 25 Tryz.func221 rfl fun h=>zSR (qt h rfl rfl fun w1 bb1 h=>X0 4 rfl ?_)
 obtain ⟨x1,hx1,hF⟩:=qd hF
 obtain ⟨g1,g2,hx1⟩:=qbT hx1
 refine qcY qc Int h rfl rfl rfl rfl rfl rfl rfl rfl rfl g1 g2 hx1 rfl fun w2 S1 p4 h=>X0 7 rfl ?_
 obtain ⟨o1,hF,hK1⟩:=qd hF
 refine qk (rL (fun m e w'=>∃ (x2:(List Int)) (i1:Int),qcO c m x2 i1=some o1∧e=[(1,.pointer (some ⟨bb1,0,none⟩)),(3,.slice p4 x1.length x1.length),(4,.int .i64 i1)]∧SH w w' [Ch.own S1 (x2:List Int) [.slice p4 x1.length x1.length],Ch.box bb1 (qbN c p1 p2 p3 k1 k2 k3) 201]) n ⟨_,_,hF,rfl,h⟩ rfl ?_)
 rintro m1 e1 w3 ⟨x2,i1,hF,rfl,h⟩
 rcases m1 with _|m1
 ·cases hF
 refine X1 9 1 h rfl (qj rfl hF ?_ ?_)<;>intro hF
 ·refine X1 8 1 h rfl ?_
  obtain ⟨y1,hy1,hF,he1,b1,_,q1,cs2,hp1,hq1,hr1,hc2⟩:=s2.ix hF
  obtain ⟨p5,k4,p6,k5,rfl,s4,s5⟩:=qag hr1
  refine zxe hp1 hq1 he1 rfl (zp1 rfl (zc 0 (hc2.below h.below) rfl ?_))
  obtain ⟨y2,hy2,hF,he2,b2,_,q2,cs3,hp2,hq2,rfl,hc3⟩:=(h.sl 0 rfl).1.ix hF
  refine zx hp2 hq2 ⟨he2.1,qw he2.2.1 (h.sl 0 rfl).2⟩ rfl (zc 0 hc3 rfl (zp1 rfl ?_))
  obtain ⟨y3,hy3,hF,he3,b3,_,q3,cs4,hp3,hq3,rfl,hc4⟩:=(h.sl 0 rfl).1.ix hF
  exact zx hp3 hq3 ⟨he3.1,qw he3.2.1 (h.sl 0 rfl).2⟩ rfl (qaS qc 0 0 (W64 (y2+1)) h rfl hy3 hp3 hq3 rfl hc4 rfl rfl rfl rfl rfl rfl rfl fun w4 h=>X0 7 rfl (rK ⟨_,_,hF,rfl,h⟩ rfl))
 refine qn rfl ?_
 obtain rfl:=qb hF;replace hF:=hK1
 refine X0 5 rfl ?_
 obtain rfl:=qb hF
 exact rO 0 h rfl ⟨rfl,trivial⟩
def qc4 (a_0:qp) (i1:Int) (y1:qC):Nat→Int→Option (Flow Bool Int)
 | 0,_=>none
 | n+1,i2 =>
  bif decide (i2<i1) then
   (idx a_0.Ap i2).bind fun y2 =>
   bif (y2.Aq==y1.Aq) then
    (idx a_0.Ap i2).bind fun y3 =>
    bif (y3.Av==y1.Av) then
     (idx a_0.Ap i2).bind fun y4 =>
     bif (y4.To==y1.To) then some (.ret false) else
     qc4 a_0 i1 y1 n (W64 (i2+1))
    else
     qc4 a_0 i1 y1 n (W64 (i2+1))
   else
    qc4 a_0 i1 y1 n (W64 (i2+1))
  else
   some (.nxt i2)
def qeU (a_0:qp):Nat→Int→Option (Flow Bool Int)
 | 0,_=>none
 | n+1,i3 =>
  bif decide (i3<(a_0.Ay.length:Int)) then
   (idx a_0.Ay i3).bind fun y5 =>
   (qaj n y5 0 1).bind fun r6 =>
   bif (!r6) then some (.ret false) else
   qeU a_0 n (W64 (i3+1))
  else
   some (.nxt i3)
def qe8 (a_0:qp):Nat→Int→Option (Flow Bool Int)
 | 0,_=>none
 | n+1,i1 =>
  bif decide (i1<(a_0.Ap.length:Int)) then
   (idx a_0.Ap i1).bind fun y1 =>
   (qjQ n a_0 y1).bind fun r4 =>
   bif (!r4) then some (.ret false) else
   (qc4 a_0 i1 y1 n 0).bind fun o=>match o with
   | .ret r=>some (.ret r)
   | .nxt _ =>
    qe8 a_0 n (W64 (i1+1))
  else
   some (.nxt i1)
def qjP (n:Nat) (a_0:qp):Option Bool :=
 (qiN n a_0).bind fun o=>match o with
  | (r2,r3) =>
   (
    bif (!r3) then some true else
    (qgf n a_0.Ar).bind fun r7 =>
    bif (!r7) then some true else
    bif decide ((a_0.Ap.length:Int) > 8) then some true else
    (qaj n a_0.Bn 0 100000).bind fun r8 =>
    bif (!r8) then some true else
    (qaj n a_0.Bf 0 100000).bind fun r9 =>
    some (!r9)).bind fun b1 =>
   bif b1 then some false else
   (qe8 a_0 n 0).bind fun o=>match o with
   | .ret r=>some r
   | .nxt _ =>
    (qhZ n a_0).bind fun r5 =>
    bif (a_0.Aq==1) then
     (qeU a_0 n 0).bind fun o=>match o with
     | .ret r=>some r
     | .nxt _ =>
      bif (r2==0) then
       (shlS 1 (IntKind.wrap .u64 (W64 ((a_0.Am.length:Int)-1)))).bind fun y6 =>
       some ((a_0.Ay.length:Int)==y6)
      else
       some false
    else
     bif (a_0.Aq==2) then
      bif (r2==1) then
       (idx r5 1).bind fun y7 =>
       bif (y7==0) then
        (idx r5 2).bind fun y8 =>
        (idx r5 3).bind fun y9 =>
        bif (!((decide (y8 > 0))==(decide (y9 > 0)))) then some ((a_0.Ay.length:Int)==0) else
        some false
       else
        some false
      else
       some false
     else
      bif (a_0.Aq==3) then
       bif (r2==1) then
        (idx r5 1).bind fun y10 =>
        bif decide (y10 > 0) then
         (idx r5 2).bind fun y11 =>
         bif decide (y11 > 0) then
          (idx r5 3).bind fun y12 =>
          bif (y12==0) then some ((a_0.Ay.length:Int)==0) else
          some false
         else
          some false
        else
         some false
       else
        some false
      else
       some false
theorem qo2 {a_0:qp} (ha1:GoT.R w (old w) a_0 cs1) {r:Bool} (hF:qjP n a_0=some r):RetV Tryz.prog 196 [GoT.v qp cs1] w r:=by
 obtain ⟨p1,k1,p2,k2,p3,k3,rfl,s1,s2,s3⟩:=qH ha1
 refine zV 182 Tryz.func196 rfl fun h=>zSR (qt h rfl rfl fun w1 bb1 h=>X1 5 0 h rfl ?_)
 obtain ⟨r1,hr1,hF⟩:=qd hF
 obtain ⟨r2,r3⟩:=r1
 refine qee (r2,r3) h (cB 219 rfl) (qnR (h.old ha1) hr1) rfl rfl rfl rfl fun w2 S1 us1 hv1 hr2=>?_
 obtain ⟨S2,us2,rfl,hv2,hr3⟩:=hv1.consI hr2
 obtain ⟨rfl,h⟩:=hv2.lastB hr3
 refine X0 8 rfl ?_
 obtain ⟨KF1,hKF1,o4,hF,hK4⟩:=bindE hF
 refine qdh (fun e w'=>∃ (b1:Bool),KF1 b1=some r∧e=[(1,.pointer (some ⟨bb1,0,none⟩)),(3,.int .i64 r2),(40,.bool b1)]∧SH w w' [Ch.box bb1 (qbN a_0 p1 p2 p3 k1 k2 k3) 201]) ?_ ?_
 ·refine X0 4 rfl (ql (t:=17) hF rfl ?_ ?_)<;>intro hF
  ·refine X0 24 rfl ?_
   obtain rfl:=qb hF
   exact rG ⟨_,hK4,rfl,h⟩ rfl
  refine X1 5 0 h rfl (zcB h hF qiA rfl fun r7 w18 h hF=>X0 4 rfl (ql (t:=23) hF rfl ?_ ?_))<;>intro hF
  ·refine X0 18 rfl ?_
   obtain rfl:=qb hF
   exact rG ⟨_,hK4,rfl,h⟩ rfl
  refine X1 10 0 h rfl (ql (t:=29) hF rfl ?_ ?_)<;>intro hF
  ·refine X0 12 rfl ?_
   obtain rfl:=qb hF
   exact rG ⟨_,hK4,rfl,h⟩ rfl
  refine X1 5 0 h rfl (zcB h hF qT rfl fun r8 w19 h hF=>X0 4 rfl (ql (t:=35) hF rfl ?_ ?_))<;>intro hF
  ·refine X0 6 rfl ?_
   obtain rfl:=qb hF
   exact rG ⟨_,hK4,rfl,h⟩ rfl
  refine X1 5 0 h rfl (zcB h hF qT rfl fun r9 w20 h hF=>X0 4 rfl ?_)
  obtain rfl:=qb hF
  exact rG ⟨_,hK4,rfl,h⟩ rfl
 rintro e4 w21 ⟨b1,hF,rfl,h⟩
 subst hKF1
 refine qj rfl hF ?_ ?_<;>intro hF
 ·exact X0 4 rfl (rb h hF rfl)
 refine X0 6 rfl ?_
 obtain ⟨o1,hF,hK1⟩:=qd hF
 refine qk (rL (fun m e w'=>∃ (i1:Int),qe8 a_0 m i1=some o1∧e=[(1,.pointer (some ⟨bb1,0,none⟩)),(3,.int .i64 r2),(5,.int .i64 i1)]∧SH w w' [Ch.box bb1 (qbN a_0 p1 p2 p3 k1 k2 k3) 201]) n ⟨_,hF,rfl,h⟩ rfl ?_)
 rintro m1 e1 w3 ⟨i1,hF,rfl,h⟩
 rcases m1 with _|m1
 ·cases hF
 refine X1 9 0 h rfl (qj rfl hF ?_ ?_)<;>intro hF
 ·refine X1 8 0 h rfl ?_
  obtain ⟨y1,hy1,hF,he1,b2,_,q1,cs2,hp1,hq1,hr5,hc3⟩:=s2.ix hF
  obtain ⟨p4,k4,p5,k5,rfl,s4,s5⟩:=qag hr5
  refine zxe hp1 hq1 he1 rfl (zc 0 (hc3.below h.below) rfl (qE qc h rfl rfl rfl fun w4 bb2 h=>zs 0 h rfl fun w5 h=>X2 6 1 0 h rfl (zcB h hF (qol (h.old ha1) (qgd y1 (h.oldS s4) (h.oldS s5))) rfl fun r4 w6 h hF=>X0 2 rfl (qj rfl hF ?_ ?_))))<;>intro hF
  ·refine X0 4 rfl ?_
   obtain rfl:=qb hF;replace hF:=hK1
   exact rb h hF rfl
  refine X0 5 rfl ?_
  obtain ⟨o2,hF,hK2⟩:=qd hF
  refine qk (rL (fun m e w'=>∃ (i2:Int),qc4 a_0 i1 y1 m i2=some o2∧e=[(1,.pointer (some ⟨bb1,0,none⟩)),(3,.int .i64 r2),(5,.int .i64 i1),(6,.pointer (some ⟨bb2,0,none⟩)),(7,.int .i64 i2)]∧SH w w' [Ch.box bb2 (qkH y1 p4 p5 k4 k5) 206,Ch.box bb1 (qbN a_0 p1 p2 p3 k1 k2 k3) 201]) m1 ⟨_,hF,rfl,h⟩ rfl ?_)
  rintro m2 e2 w7 ⟨i2,hF,rfl,h⟩
  rcases m2 with _|m2
  ·cases hF
  refine X0 7 rfl (qj rfl hF ?_ ?_)<;>intro hF
  ·refine X0 4 rfl (rD (Y1 2 1 h rfl ?_))
   refine zd1 rfl ?_
   obtain ⟨y2,hy2,hF,he2,b3,_,q2,cs3,hp2,hq2,hr7,hc6⟩:=s2.ix hF
   obtain ⟨p6,k6,p7,k7,rfl,s6,s7⟩:=qag hr7
   refine zdxe hp2 hq2 he2 rfl (zd1 rfl (zdc 0 (hc6.below h.below) rfl (Y1 2 0 h rfl ?_)))
   refine zd2 rfl (qbo (t:=71) hF rfl ?_ ?_)<;>intro hF
   ·refine Y1 4 1 h rfl ?_
    refine Y0 3 rfl ?_
    obtain ⟨y3,hy3,hF,he3,b4,_,q3,cs4,hp3,hq3,hr8,hc7⟩:=s2.ix hF
    obtain ⟨p8,k8,p9,k9,rfl,s8,s9⟩:=qag hr8
    refine zdxe hp3 hq3 he3 rfl (Y0 3 rfl (zdc 1 (hc7.below h.below) rfl (Y1 4 0 h rfl ?_)))
    refine Y0 4 rfl (qbo (t:=82) hF rfl ?_ ?_)<;>intro hF
    ·refine Y1 4 1 h rfl ?_
     refine Y0 3 rfl ?_
     obtain ⟨y4,hy4,hF,he4,b5,_,q4,cs5,hp4,hq4,hr9,hc8⟩:=s2.ix hF
     obtain ⟨p10,k10,p11,k11,rfl,s10,s11⟩:=qag hr9
     refine zdxe hp4 hq4 he4 rfl (Y0 3 rfl (zdc 2 (hc8.below h.below) rfl (Y1 4 0 h rfl ?_)))
     refine Y0 3 rfl (dN h fun w8 h=>qj rfl hF ?_ ?_)<;>intro hF
     ·refine X0 4 rfl ?_
      obtain rfl:=qb hF;replace hF:=hK2
      obtain rfl:=qb hF;replace hF:=hK1
      exact rb h hF rfl
     exact X0 7 rfl (rK ⟨_,hF,rfl,h⟩ rfl)
    exact Y0 10 rfl (dN h fun w9 h=>qcf rfl rfl (X0 7 rfl (rK ⟨_,hF,rfl,h⟩ rfl)))
   exact Y0 21 rfl (dN h fun w10 h=>qcf rfl rfl (X0 7 rfl (rK ⟨_,hF,rfl,h⟩ rfl)))
  refine qn rfl ?_
  obtain rfl:=qb hF;replace hF:=hK2
  refine X0 6 rfl ?_
  replace h:=h.pick [1] rfl
  exact rK ⟨_,hF,rfl,h⟩ rfl
 refine qn rfl ?_
 obtain rfl:=qb hF;replace hF:=hK1
 refine X1 3 0 h rfl (zcL h hF (qnd (h.old ha1)) rfl fun r5 w11 S4 p12 k12 h hF=>X1 14 1 h rfl (qj rfl hF ?_ ?_))<;>intro hF
 ·refine X0 5 rfl ?_
  obtain ⟨o3,hF,hK3⟩:=qd hF
  refine qk ?_
  replace h:=h.pick [1] rfl
  refine rL (fun m e w'=>∃ (i3:Int),qeU a_0 m i3=some o3∧e=[(1,.pointer (some ⟨bb1,0,none⟩)),(3,.int .i64 r2),(9,.int .i64 i3)]∧SH w w' [Ch.box bb1 (qbN a_0 p1 p2 p3 k1 k2 k3) 201]) n ⟨_,hF,rfl,h⟩ rfl ?_
  rintro m3 e3 w12 ⟨i3,hF,rfl,h⟩
  rcases m3 with _|m3
  ·cases hF
  refine X1 9 0 h rfl (qj rfl hF ?_ ?_)<;>intro hF
  ·refine X1 8 0 h rfl ?_
   obtain ⟨y5,hy5,hF,he5,b6,_,q5,cs6,hp5,hq5,rfl,hc12⟩:=s3.ix hF
   refine zxe hp5 hq5 he5 rfl (zc 0 (hc12.below h.below) rfl (zcB h hF qT rfl fun r6 w13 h hF=>X0 2 rfl (qj rfl hF ?_ ?_)))<;>intro hF
   ·refine X0 4 rfl ?_
    obtain rfl:=qb hF;replace hF:=hK3
    exact rb h hF rfl
   exact X0 7 rfl (rK ⟨_,hF,rfl,h⟩ rfl)
  refine qn rfl ?_
  obtain rfl:=qb hF;replace hF:=hK3
  refine X0 5 rfl (ql (t:=115) hF rfl ?_ ?_)<;>intro hF
  ·refine X2 17 0 0 h rfl ?_
   obtain ⟨y6,hx1,hF⟩:=qd hF
   obtain ⟨g1,hx1⟩:=qpA hx1
   refine r_v (qv1 g1 rfl rfl) rfl ?_
   rw [hx1]
   exact X0 5 rfl (rb h hF rfl)
  exact X0 13 rfl (rb h hF rfl)
 refine X0 5 rfl (qj rfl hF ?_ ?_)<;>intro hF
 ·refine qgw (rD (zd3 rfl (qbo (t:=131) hF rfl ?_ ?_)))<;>intro hF
  ·refine Y0 3 rfl ?_
   obtain ⟨y7,hy6,hF,he6,b7,_,q6,cs7,hp6,hq6,rfl,hc15⟩:=(h.sl 0 rfl).1.ix hF
   refine zdx hp6 hq6 ⟨he6.1,qw he6.2.1 (h.sl 0 rfl).2⟩ rfl (Y0 1 rfl (zdc 0 hc15 rfl (Y0 4 rfl (qbo (t:=137) hF rfl ?_ ?_))))<;>intro hF
   ·refine Y0 3 rfl ?_
    obtain ⟨y8,hy7,hF,he7,b8,_,q7,cs8,hp7,hq7,rfl,hc16⟩:=(h.sl 0 rfl).1.ix hF
    refine zdx hp7 hq7 ⟨he7.1,qw he7.2.1 (h.sl 0 rfl).2⟩ rfl (Y0 1 rfl (zdc 0 hc16 rfl (Y0 5 rfl ?_)))
    obtain ⟨y9,hy8,hF,he8,b9,_,q8,cs9,hp8,hq8,rfl,hc17⟩:=(h.sl 0 rfl).1.ix hF
    refine zdx hp8 hq8 ⟨he8.1,qw he8.2.1 (h.sl 0 rfl).2⟩ rfl (Y0 1 rfl (zdc 0 hc17 rfl (Y0 6 rfl (qbo (t:=148) hF rfl ?_ ?_))))<;>intro hF
    ·refine Y1 4 1 h rfl ?_
     exact Y0 6 rfl (dN h fun w14 h=>rb h hF rfl)
    exact Y0 6 rfl (dN h fun w15 h=>rb h hF rfl)
   exact Y0 17 rfl (dN h fun w16 h=>rb h hF rfl)
  exact Y0 23 rfl (dN h fun w17 h=>rb h hF rfl)
 refine X0 5 rfl (qj rfl hF ?_ ?_)<;>intro hF
 ·refine X0 5 rfl (ql (t:=158) hF rfl ?_ ?_)<;>intro hF
  ·refine X0 3 rfl ?_
   obtain ⟨y10,hy9,hF,he9,b10,_,q9,cs10,hp9,hq9,rfl,hc19⟩:=(h.sl 0 rfl).1.ix hF
   refine zx hp9 hq9 ⟨he9.1,qw he9.2.1 (h.sl 0 rfl).2⟩ rfl (X0 1 rfl (zc 0 hc19 rfl (X0 4 rfl (ql (t:=164) hF rfl ?_ ?_))))<;>intro hF
   ·refine X0 3 rfl ?_
    obtain ⟨y11,hy10,hF,he10,b11,_,q10,cs11,hp10,hq10,rfl,hc20⟩:=(h.sl 0 rfl).1.ix hF
    refine zx hp10 hq10 ⟨he10.1,qw he10.2.1 (h.sl 0 rfl).2⟩ rfl (X0 1 rfl (zc 0 hc20 rfl (X0 4 rfl (ql (t:=170) hF rfl ?_ ?_))))<;>intro hF
    ·refine X0 3 rfl ?_
     obtain ⟨y12,hy11,hF,he11,b12,_,q11,cs12,hp11,hq11,rfl,hc21⟩:=(h.sl 0 rfl).1.ix hF
     refine zx hp11 hq11 ⟨he11.1,qw he11.2.1 (h.sl 0 rfl).2⟩ rfl (X0 1 rfl (zc 0 hc21 rfl (X0 4 rfl (ql (t:=176) hF rfl ?_ ?_))))<;>intro hF
     ·exact X1 11 1 h rfl (rb h hF rfl)
     exact X0 7 rfl (rb h hF rfl)
    exact X0 13 rfl (rb h hF rfl)
   exact X0 19 rfl (rb h hF rfl)
  exact X0 25 rfl (rb h hF rfl)
 exact X0 6 rfl (rb h hF rfl)
def qdg (l:qm) (i1:Int):Nat→Int→Option (Flow Bool Int)
 | 0,_=>none
 | n+1,i2 =>
  bif decide (i2<i1) then
   (idx l.Ah i2).bind fun y2 =>
   (idx l.Ah i1).bind fun y3 =>
   bif (y2.Ar.toList==y3.Ar.toList) then some (.ret false) else
   qdg l i1 n (W64 (i2+1))
  else
   some (.nxt i2)
def qda (l:qm):Nat→Int→Option (Flow Bool Int)
 | 0,_=>none
 | n+1,i1 =>
  bif decide (i1<(l.Ah.length:Int)) then
   (idx l.Ah i1).bind fun y1 =>
   (qjP n y1).bind fun r1 =>
   bif (!r1) then some (.ret false) else
   (qdg l i1 n 0).bind fun o=>match o with
   | .ret r=>some (.ret r)
   | .nxt _ =>
    qda l n (W64 (i1+1))
  else
   some (.nxt i1)
def qhc (n:Nat) (l:qm):Option Bool :=
 (qda l n 0).bind fun o=>match o with
 | .ret r=>some r
 | .nxt _ =>
  some (decide ((l.Ah.length:Int)≤8))
theorem qmC {l:qm} (ha1:GoT.R w (old w) l cs1) {r:Bool} (hF:qhc n l=some r):RetV Tryz.prog 156 [GoT.v qm cs1] w r:=by
 obtain ⟨p1,k1,rfl,s1⟩:=qa1 ha1
 refine zV 41 Tryz.func156 rfl fun h=>zSR (qt h rfl rfl fun w1 bb1 h=>X0 7 rfl ?_)
 obtain ⟨o1,hF,hK1⟩:=qd hF
 refine qk (rL (fun m e w'=>∃ (i1:Int),qda l m i1=some o1∧e=[(1,.pointer (some ⟨bb1,0,none⟩)),(3,.int .i64 i1)]∧SH w w' [Ch.box bb1 [.slice p1 l.Ah.length k1] 26]) n ⟨_,hF,rfl,h⟩ rfl ?_)
 rintro m1 e1 w2 ⟨i1,hF,rfl,h⟩
 rcases m1 with _|m1
 ·cases hF
 refine X1 9 0 h rfl (qj rfl hF ?_ ?_)<;>intro hF
 ·refine X1 9 0 h rfl ?_
  obtain ⟨y1,hy1,hF,he1,b1,_,q1,cs2,hp1,hq1,hr1,hc2⟩:=s1.ix hF
  obtain ⟨p2,k2,p3,k3,p4,k4,rfl,s2,s3,s4⟩:=qH hr1
  refine zxe hp1 hq1 he1 rfl (zc 0 (hc2.below h.below) rfl (zcB h hF (qo2 (qg4 y1 (h.oldS s2) (h.oldS s3) (h.oldS s4))) rfl fun r1 w3 h hF=>X0 2 rfl (qj rfl hF ?_ ?_)))<;>intro hF
  ·refine X0 4 rfl ?_
   obtain rfl:=qb hF;replace hF:=hK1
   exact rb h hF rfl
  refine X0 5 rfl ?_
  obtain ⟨o2,hF,hK2⟩:=qd hF
  refine qk (rL (fun m e w'=>∃ (i2:Int),qdg l i1 m i2=some o2∧e=[(1,.pointer (some ⟨bb1,0,none⟩)),(3,.int .i64 i1),(4,.int .i64 i2)]∧SH w w' [Ch.box bb1 [.slice p1 l.Ah.length k1] 26]) m1 ⟨_,hF,rfl,h⟩ rfl ?_)
  rintro m2 e2 w4 ⟨i2,hF,rfl,h⟩
  rcases m2 with _|m2
  ·cases hF
  refine X0 7 rfl (qj rfl hF ?_ ?_)<;>intro hF
  ·refine X0 4 rfl (rD (Y1 2 0 h rfl ?_))
   refine zd1 rfl ?_
   obtain ⟨y2,hy2,hF,he2,b2,_,q2,cs3,hp2,hq2,hr3,hc5⟩:=s1.ix hF
   obtain ⟨p5,k5,p6,k6,p7,k7,rfl,s5,s6,s7⟩:=qH hr3
   refine zdxe hp2 hq2 he2 rfl (zd1 rfl (zdc 0 (hc5.below h.below) rfl (Y1 2 0 h rfl ?_)))
   refine zd1 rfl ?_
   obtain ⟨y3,hy3,hF,he3,b3,_,q3,cs4,hp3,hq3,hr4,hc6⟩:=s1.ix hF
   obtain ⟨p8,k8,p9,k9,p10,k10,rfl,s8,s9,s10⟩:=qH hr4
   refine zdxe hp3 hq3 he3 rfl (zd1 rfl (zdc 0 (hc6.below h.below) rfl (zd1 rfl (dN h fun w5 h=>qj rfl hF ?_ ?_))))<;>intro hF
   ·refine X0 4 rfl ?_
    obtain rfl:=qb hF;replace hF:=hK2
    obtain rfl:=qb hF;replace hF:=hK1
    exact rb h hF rfl
   exact X0 7 rfl (rK ⟨_,hF,rfl,h⟩ rfl)
  refine qn rfl ?_
  obtain rfl:=qb hF;replace hF:=hK2
  exact X0 6 rfl (rK ⟨_,hF,rfl,h⟩ rfl)
 refine qn rfl ?_
 obtain rfl:=qb hF;replace hF:=hK1
 exact X1 8 0 h rfl (rb h hF rfl)
end Go.Fw
