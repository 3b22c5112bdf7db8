/-
 DERIVED: THE SHELF's CONTRACTS AT THIS DUMP, IN PLAIN WORDS (tools/lay-plain.mjs out of 'TryzSy.lean', which tools/lay-shelf.mjs wrote): THE SAME DECLARATIONS UNDER THE SAME NAMES: 'import', 'namespace', 'open', 'def', 'theorem' AND NOTHING ELSE: no command of the shelf's: FOR A HAND-IN. Each laying: the table of numbers ('.._ren') and one theorem, a field a fact of the dump's own or the kernel's comparison; each contract: ONE APPLICATION.
-/
import Derived.Shelf.SlGeneric
import Derived.Ground.SlgmProg
import Derived.Ground.SlgnProg
import Derived.Shelf.SortM.Plain
import Derived.Shelf.SortM.SortNone
import Derived.Shelf.SlicesG.CompactI
import Derived.Test.YtbajldmfbhaaoaaGreatDoorProg
import Derived.Test.YtbajldmfbhaaoaaGreatDoorFw38
import Derived.Sort.Grow
import Derived.Lib.SlicesCompact
import Derived.Test.YtbajldmfbhaaoaaGreatDoorChecked
import Derived.Test.YtbajldmfbhaaoaaGreatDoorS1
open Option renaming bind_some → jd
open Nat renaming le_refl → je, lt_of_lt_of_le → jp, mul_le_mul_right → jq, le_of_ble_eq_true → jr, succ_mul → jx
open Go.Result renaming andThen_ok → jf
open Bool renaming and_eq_true → jg, eq_iff_iff → ji, true_and → jy, not_eq_true' → jA
open List renaming getElem?_eq_getElem → jh, length_append → jm, getElem_mem → jn, mem_cons_of_mem → jo, getElem?_append_left → js, mem_cons_self → jt, getElem?_append_right → ju, eq_nil_of_length_eq_zero → jv, getElem?_take → jw, getElem?_toArray → jz, size_toArray → jB, append_assoc → jC, map_cons → jD
open Go.Sem renaming run_bind → jj, run_pure → jk

namespace Go.Proofs
open Go.Shelf
end Go.Proofs


namespace Go.Fw
open Go
open Go.RowKit (Below)
section
variable {P:Program} {T:Tab} {n:Nat} {Q:Exit→Act→World→Prop} {k:List It} {e:Env} {w0 w w':World} {L L':List Ch}
theorem SH.append (h:SH w0 w L) (hL:SH w w' L') (hD:∀ c,c ∈ L'→∀ b,c.D b→b<w0.heap.size):SH w0 w' (L'++L):=by
 have h':=h.ext hL.below
 refine ⟨h'.below,fun c hc=>?_,fun c hc=>?_,?_⟩
 ·rcases List.mem_append.1 hc with hc|hc
  ·obtain ⟨p,s⟩:=hL.holds c hc
   exact ⟨p,fun b hb=>⟨Nat.le_trans h.below.size (s b hb).1,(s b hb).2⟩⟩
  ·exact h'.holds c hc
 ·rcases List.mem_append.1 hc with hc|hc
  ·exact hD c hc
  ·exact h.elder c hc
 ·refine List.pairwise_append.2 ⟨hL.apart,h.apart,fun c hc d hd b hcb hdb=>?_⟩
  have h1:=((hL.holds c hc).2 b hcb).1
  have h2:=((h.holds d hd).2 b hdb).2
  omega
end
end Go.Fw


namespace Go.Fw
open Go Go.Sort
open Go.RowKit (Below)
section
variable {P:Program} {T:Tab} {n:Nat} {Q:Exit→Act→World→Prop} {k:List It} {e:Env} {w0 w w':World} {L L':List Ch}
end
end Go.Fw


namespace Go.Proofs
open Go Go.Fw
end Go.Proofs


namespace Go.Fw
open Go
open Go.RowKit (Below)
section
variable {w0 w w':World} {L:List Ch} {α:Type} [GoT α]
def RAll (w:World) (A:Nat→Prop):List α→List (Raw α)→Prop
 | [],[]=>True
 | x::xs,r::rs=>GoT.R w A x r.cs∧RAll w A xs rs
 | _,_=>False
theorem RAll.at {A:Nat→Prop}:∀ {xs:List α} {rs:List (Raw α)},RAll w A xs rs→xs.length=rs.length∧∀ (i:Nat) x,xs[i]?=some x→∃ r,rs[i]?=some r∧GoT.R w A x r.cs
 | [],[],_=>⟨rfl,fun i x h=>by simp at h⟩
 | x::xs,[],h=>h.elim
 | [],r::rs,h=>h.elim
 | x::xs,r::rs,h=>by
  obtain ⟨hl,ha⟩:=RAll.at h.2
  refine ⟨by simp [hl],fun i y hy=>?_⟩
  cases i with
  | zero=>simp only [List.getElem?_cons_zero,Option.some.injEq] at hy ⊢;subst hy;exact ⟨r,rfl,h.1⟩
  | succ i=>simp only [List.getElem?_cons_succ] at hy ⊢;exact ha i y hy
theorem SH.cutS {S:Nat→Prop} {xs y:List α} {p p1:Option Addr} {ln c k1:Nat} {hi:Int} (i:Nat) (h:SH w0 w L) (hL:L[i]?=some (Ch.own S xs [.slice p ln c])) (hy:subS xs 0 hi=some y) (hp:subP (GoT.k α) p c (0:Int).toNat=p1) (hk:c-(0:Int).toNat=k1) :
  SH w0 w (L.set i (Ch.own S y [.slice p1 y.length k1])):=by
 obtain ⟨h0,h1,h2,rfl⟩:=qhk hy
 obtain ⟨hP,hS⟩:=h.mem hL
 obtain ⟨p0,c0,he,q1,q2,q3⟩:=hP
 simp only [List.cons.injEq,Value.slice.injEq,and_true] at he
 obtain ⟨rfl,rfl,rfl⟩:=he
 have e0:(0:Int).toNat=0:=rfl
 rw [e0] at hp hk
 simp only [Nat.sub_zero] at hk
 subst hk
 simp only [e0,List.drop_zero]
 have hp1:p1=p:=by
  subst hp
  unfold subP
  split
  ·rfl
  ·rcases q3 with ⟨rfl,_,_⟩|⟨b,cur,T,F,rfl,_⟩
   ·rfl
   ·simp [Addr.add]
 subst hp1
 have hlen:(xs.take hi.toNat).length≤c:=by rw [List.length_take];omega
 refine h.upd hL rfl rfl rfl (je _) (fun _ _ _=>rfl) ⟨p1,c,rfl,hlen,q2,?_⟩ (fun b hb=>.inl hb) (fun _ hd=>hd.elim)
 rcases q3 with ⟨rfl,rfl,rfl⟩|⟨b,cur,T,F,rfl,hb,hg,hc,hF,hd,hx⟩
 ·exact .inl ⟨rfl,by simp,rfl⟩
 ·refine .inr ⟨b,cur,T,F,rfl,hb,hg,hc,hF,hd,fun j x hj=>?_⟩
  rw [jw] at hj
  split at hj
  ·exact hx j x hj
  ·cases hj
end
theorem qnZ {P:Program} {T:Tab} {n:Nat} {e:Env} {w:World} (hT:TabOk P T) {x:Operand} {t ty d el:Nat} {ps:String} {af:Array Edge} {g:Option (Nat × Bool)} {te:TE} {p:Option Addr} {l c:Nat}
  (hx:opv e x=some (.slice p l c)) (hte:T.get t=some te) (hk:te.kind=.slice el):Val P n e ⟨some d,.call ⟨.builtin .cap,#[x],#[t]⟩,ty,ps,af,g⟩ w (.int .i64 c):=by
 intro a ha
 have hu:=qcN (hT _ _ hte) hk
 unfold execOp
 simp [resolve,invoke,builtin,jj,jk,jf,ha.eval hx,Builtin.cap_,run_underlying hu,goInt]
end Go.Fw


namespace Go.Fw
open Go
end Go.Fw


namespace Go.Fw
open Go
open Go.RowKit (Below)
section
variable {P:Program} {T:Tab} {n:Nat} {Q:Exit→Act→World→Prop} {k:List It} {e:Env} {w0 w:World} {L:List Ch}
variable {α:Type} [GoT α] {S S1:Nat→Prop} {xs ys:List α} {p p':Option Addr} {c c':Nat}
theorem qm1 (h:SlR w0 (Fw.old w0) xs p c):∃ rs:List (Raw α),Rd w0 xs rs∧SlR w0 (Fw.old w0) rs p c:=by
 obtain ⟨h1,h2,h3⟩:=h
 rcases h3 with ⟨hp,rfl⟩|⟨b,o,cur,T,fr,rfl,hb,hg,hcur,hx⟩
 ·exact ⟨[],⟨rfl,fun i x r hx=>by simp at hx⟩,by simp,h2,.inl ⟨hp,rfl⟩⟩
 ·obtain ⟨rs,hl,hr⟩:=qlG (p:=fun i x (r:Raw α)=>GoT.R w0 (Fw.old w0) x r.cs∧∀ j v,r.cs[j]?=some v→cur[o+i*GoT.k α+j]?=some v) xs (fun i x hi=>by
   obtain ⟨cs,h1,h2⟩:=hx i x hi
   exact ⟨⟨cs⟩,h1,h2⟩)
  refine ⟨rs,⟨hl,fun i x r hi hr'=>(hr i x r hi hr').1⟩,by rw [hl];exact h1,h2,.inr ⟨b,o,cur,T,fr,rfl,hb,hg,hcur,fun i r hi=>?_⟩⟩
  have hi':i<xs.length:=by have:=(List.getElem?_eq_some_iff.1 hi).1;omega
  obtain ⟨q1,q2⟩:=hr i xs[i] r (jh hi') hi
  exact ⟨r.cs,⟨rfl,GoT.len q1,GoT.one q1⟩,q2⟩
theorem qoi (hT:TabOk P T) {all:Array Oper} {l:List Oper} {d t ty el:Nat} {ps:String} {af:Array Edge} {x y:Operand} {z:List α} {ln ln':Nat} {te te':TE} {zv:Value}
  (h:SH w0 w (Ch.rowD w0 S xs p c::L)) (hs:SlR w0 (Fw.old w0) ys p' c') (hl:ln=xs.length) (hl':ln'=ys.length) (hx:opv e x=some (.slice p ln c)) (hy:opv e y=some (.slice p' ln' c'))
  (hte:T.get t=some te) (hk:te.kind=.slice el) (hel:T.get el=some te') (hz:te'.zero=some zv) (hzs:(cellsL zv).length=te'.size) (hsz:te'.size=GoT.k α)
  (hb:Nat.ble te'.bytes 65536=true) (hbig:xs.length+ys.length≤big) (hz':xs++ys=z) (hn:Nat.blt d n=true)
  (hkk:∀ w' p2 c2 S2,SH w0 w' (Ch.rowD w0 S2 z p2 c2::L)→Run P n Q (.ops all l::k) ((d,.slice p2 z.length c2)::e) w') :
  Run P n Q (.ops all (⟨some d,.call ⟨.builtin .append,#[x,y],#[t,t]⟩,ty,ps,af,none⟩::l)::k) e w:=by
 subst hz' hl hl'
 obtain ⟨rs,hd,hp⟩:=qmS (h.mem (i:=0) rfl).1
 obtain ⟨qs,hq,hp'⟩:=qm1 hs
 have h1:=h.say (i:=0) (c':=Ch.own S rs [.slice p rs.length c]) rfl (fun _=>hp) (fun _ h=>h) (fun _ h=>h.elim)
 refine qn3 hT (α:=Raw α) 0 h1 rfl (h1.oldS hp') hq.1.symm (by rw [hd.1];exact hx) hy hte hk hel hz hzs hsz hb (by rw [hd.1,hq.1];exact hbig) hn (fun w' p2 c2 S2 h3=>?_)
 have h5:=h3.say (i:=0) (c':=Ch.rowD w0 S2 (xs++ys) p2 c2) rfl (fun hp=>qmA (hd.app hq) hp) (fun _ h=>h) (fun _ h=>h.elim)
 have:=hkk w' p2 c2 S2 h5
 rw [jm] at this
 rw [hd.1,hq.1]
 exact this
theorem SH.toRowD {ln:Nat} (i:Nat) (h:SH w0 w L) (hi:L[i]?=some (Ch.own S ([]:List α) [.slice p ln c])):SH w0 w (L.set i (Ch.rowD w0 S ([]:List α) p c)) :=
 h.say (c':=Ch.rowD w0 S ([]:List α) p c) hi (fun hp=>by
  obtain ⟨p0,c0,he,h1,h2,h3⟩:=hp
  simp only [List.cons.injEq,Value.slice.injEq,and_true] at he
  obtain ⟨rfl,_,rfl⟩:=he
  refine ⟨by simp,h2,?_⟩
  rcases h3 with ⟨rfl,_,rfl⟩|⟨b,cur,T,F,rfl,hb,hg,hcur,_,_,_⟩
  ·exact .inl ⟨rfl,rfl,rfl⟩
  ·exact .inr ⟨b,cur,T,rfl,hb,hg,hcur,fun i x hx=>by simp at hx⟩) (fun _ h=>h) (fun _ h=>h.elim)
theorem RetG.up {ρ:Type} [GoRs ρ] [MonoRs ρ] {f:FuncId} {vs:List Value} {A A':Nat→Prop} {r:ρ} (h:RetG P f vs w A r) (hA:∀ b,A b→A' b):RetG P f vs w A' r:=by
 refine Calls.mono h ?_
 rintro e w' ⟨v,rfl,hb,us,rfl,hv⟩
 exact ⟨_,rfl,hb,us,rfl,MonoRs.mono hv fun b hb=>hb.elim (fun h=>.inl (hA b h)) .inr⟩
theorem SH.oldreg (h:SH w0 w L):∀ b,Fw.old w b→reg (Fw.old w0) w0 w b:=fun b hb=>by
 rcases Nat.lt_or_ge b w0.heap.size with h1|h1
 ·exact .inl h1
 ·exact .inr ⟨h1,hb⟩
theorem SH.rowR (i:Nat) (h:SH w0 w L) (hi:L[i]?=some (Ch.rowD w0 S xs p c)):SlR w (reg (Fw.old w0) w0 w) xs p c:=(h.rowS i hi).mono h.oldreg
end
section
variable {α β γ:Type}
def Emp (o:Option (List α)):Prop:=∀ r,o=some r→r=[]
theorem Emp.none:Emp (none:Option (List α)):=fun _ h=>by cases h
theorem Emp.noneB {f:β→Option (List α)}:Emp ((Option.none:Option β).bind f):=fun _ h=>by cases h
theorem Emp.nil:Emp (some ([]:List α)):=fun _ h=>(Option.some.inj h).symm
theorem Emp.someB {y:β} {f:β→Option (List α)} (h:Emp (f y)):Emp ((some y).bind f):=h
theorem Emp.bif {c:Bool} {a b:Option (List α)} (h1:Emp a) (h2:Emp b):Emp (bif c then a else b):=by cases c<;>assumption
theorem Emp.bifB {c:Bool} {a b:Option β} {f:β→Option (List α)} (h1:Emp (a.bind f)) (h2:Emp (b.bind f)):Emp ((bif c then a else b).bind f):=by cases c<;>assumption
theorem Emp.sub {xs:List β} {lo:Int} {f:List β→Option (List α)} (h:Emp (f [])):Emp ((subS xs lo ((0:Nat):Int)).bind f):=fun r hr=>by
 cases hs:subS xs lo ((0:Nat):Int) with
 | none=>rw [hs] at hr;cases hr
 | some y =>
  rw [hs] at hr
  obtain ⟨_,_,_,e⟩:=qhk hs
  have:y=[]:=by rw [←e];simp
  subst this
  exact h r hr
theorem Emp.subB {xs:List β} {lo:Int} {g:List β→Option γ} {f:γ→Option (List α)} (h:Emp ((g []).bind f)):Emp (((subS xs lo ((0:Nat):Int)).bind g).bind f):=by
 rw [Option.bind_assoc]
 exact Emp.sub (f:=fun y=>(g y).bind f) h
theorem Emp.assoc {x:Option β} {g:β→Option γ} {f:γ→Option (List α)} (h:∀ y,Emp ((g y).bind f)):Emp ((x.bind g).bind f):=by
 cases x with
 | none=>exact Emp.noneB
 | some y=>exact h y
theorem Emp.bind {x:Option β} {f:β→Option (List α)} (h:∀ y,Emp (f y)):Emp (x.bind f):=by
 cases x with
 | none=>exact Emp.noneB
 | some y=>exact h y
end
end Go.Fw


namespace Go.Fw
open Go
section
variable {ε:Type}
variable {ρ σ τ:Type}
end
end Go.Fw


namespace Go.Fw
open Go
end Go.Fw


namespace Go.Fw
open Go
open Go.RowKit (Below)
structure Same where
 w:World
 K:Nat→Prop
instance instSame:GoT Same where
 k:=1
 agg:=false
 zero:=⟨default,fun _=>False⟩
 zc:=[.bool true]
 R w S x cs:=cs=[.bool true]∧∀ b,x.K b→S b∧w.heap[b]?=x.w.heap[b]?
 O w S x cs:=cs=[.bool true]∧∀ b,x.K b→S b∧w.heap[b]?=x.w.heap[b]?
 kpos:=by decide
 noagg _:=rfl
 len h:=by obtain ⟨rfl,_⟩:=h;rfl
 one h:=by obtain ⟨rfl,_⟩:=h;simp [Value.oneCell']
 loc h hs:=⟨h.1,fun b hb=>⟨(h.2 b hb).1,(hs b (h.2 b hb).1).trans (h.2 b hb).2⟩⟩
 mono h hs:=⟨h.1,fun b hb=>⟨hs b (h.2 b hb).1,(h.2 b hb).2⟩⟩
 toR h:=h
 locO h hs:=⟨h.1,fun b hb=>⟨(h.2 b hb).1,(hs b (h.2 b hb).1).trans (h.2 b hb).2⟩⟩
 monoO h hs:=⟨h.1,fun b hb=>⟨hs b (h.2 b hb).1,(h.2 b hb).2⟩⟩
 zO _ _:=⟨rfl,fun _ h=>h.elim⟩
def FS (F:List Ch) (b:Nat):Prop:=∃ d,d ∈ F∧d.S b
abbrev Fr (w0:World) (F:List Ch) (b:Nat):Prop:=FS F b∨old w0 b
abbrev same (w0 w:World) (F:List Ch):Fct:=fct (⟨w,Fr w0 F⟩:Same) [.bool true]
section
variable {P:Program} {T:Tab} {n:Nat} {Q:Exit→Act→World→Prop} {k:List It} {e:Env} {w0 w w':World} {L L' F:List Ch}
theorem SH.frame (L:List Ch) (h:SH w0 w (L++F)):SH w0 w (L++[Ch.grp (Fw.old w0) (FS F) [same w0 w F]]):=by
 have hp:=List.pairwise_append.1 h.apart
 refine ⟨h.below,fun c hc=>?_,fun c hc=>?_,List.pairwise_append.2 ⟨hp.1,List.pairwise_singleton ..,fun c hc d hd b hb=>?_⟩⟩
 ·rcases List.mem_append.1 hc with hc|hc
  ·exact h.holds c (List.mem_append_left _ hc)
  ·obtain rfl:=List.mem_singleton.1 hc
   refine ⟨fun f hf=>?_,fun b hb=>?_⟩
   ·obtain rfl:=List.mem_singleton.1 hf
    exact ⟨rfl,fun b hb=>⟨hb,rfl⟩⟩
   ·obtain ⟨d,hd,hb⟩:=hb
    exact (h.holds d (List.mem_append_right _ hd)).2 b hb
 ·rcases List.mem_append.1 hc with hc|hc
  ·exact h.elder c (List.mem_append_left _ hc)
  ·obtain rfl:=List.mem_singleton.1 hc
   exact fun b hb=>hb
 ·obtain rfl:=List.mem_singleton.1 hd
  rintro ⟨d,hd,hdb⟩
  exact hp.2.2 c hc d hd b hb hdb
variable {α:Type} [GoT α] {x:α} {cs:List Value} {S D:Nat→Prop} {fs:List Fct}
end
section
open Go.ChangeShapes Go.RowKit
variable {H:Type} {enc:TypeId × Value→H} {P:Program} {w:World} {base:Nat} {spare:Nat→Bool} {held:Bool}
end
end Go.Fw


namespace Go.Fw
open Go
open Go.RowKit (Below)
section
variable {P:Program} {T:Tab} {n:Nat} {Q:Exit→Act→World→Prop} {k:List It} {e:Env} {w0 w w':World} {L:List Ch}
variable {α β:Type} [GoT α] [GoT β] {S Sr Se D:Nat→Prop} {xs ys:List α} {p p':Option Addr} {c c':Nat} {fs:List Fct} {x:α} {cs:List Value}
theorem RAll.loc {A:Nat→Prop}:∀ {xs:List α} {rs:List (Raw α)},RAll w A xs rs→(∀ b,A b→w'.heap[b]?=w.heap[b]?)→RAll w' A xs rs
 | [],[],_,_=>trivial
 | _::_,[],h,_=>h.elim
 | [],_::_,h,_=>h.elim
 | _::_,_::_,h,hb=>⟨GoT.loc h.1 hb,RAll.loc h.2 hb⟩
theorem RAll.mono {A B:Nat→Prop} (hb:∀ b,A b→B b):∀ {xs:List α} {rs:List (Raw α)},RAll w A xs rs→RAll w B xs rs
 | [],[],_=>trivial
 | _::_,[],h=>h.elim
 | [],_::_,h=>h.elim
 | _::_,_::_,h=>⟨GoT.mono h.1 hb,RAll.mono hb h.2⟩
theorem RAll.app {A:Nat→Prop}:∀ {xs:List α} {rs:List (Raw α)} {ys:List α} {qs:List (Raw α)},RAll w A xs rs→RAll w A ys qs→RAll w A (xs++ys) (rs++qs)
 | [],[],_,_,_,h=>h
 | _::_,[],_,_,h,_=>h.elim
 | [],_::_,_,_,h,_=>h.elim
 | _::_,_::_,_,_,h,h'=>⟨h.1,RAll.app h.2 h'⟩
theorem RAll.of {A:Nat→Prop}:∀ {xs:List α} {rs:List (Raw α)},xs.length=rs.length→(∀ (i:Nat) (x:α) (r:Raw α),xs[i]?=some x→rs[i]?=some r→GoT.R w A x r.cs)→RAll w A xs rs
 | [],[],_,_=>trivial
 | _::_,[],h,_=>by cases h
 | [],_::_,h,_=>by cases h
 | x::xs,r::rs,h,ha=>⟨ha 0 x r rfl rfl,RAll.of (by simpa using h) fun i y q hy hq=>ha (i+1) y q (by simpa using hy) (by simpa using hq)⟩
theorem RAll.len {A:Nat→Prop} {rs:List (Raw α)} (h:RAll w A xs rs):xs.length=rs.length:=h.at.1
end
end Go.Fw


namespace Go.Fw
open Go
end Go.Fw


namespace Go.Fw
open Go
open Go.RowKit (Below)
section
variable {P:Program} {T:Tab} {n:Nat} {Q:Exit→Act→World→Prop} {k:List It} {e:Env} {w0 w w':World} {L:List Ch}
theorem qjz {z:Array Value} {m:Nat}:Builtin.zeroCells z m=madeCells z (m*z.size):=rfl
theorem qid (t t2 ty el:TypeId) (k2:IntKind) (i:TypeInfo) (z:Value) (ht:P.underlying t=some (.slice el)) (ht2:P.underlying t2=some (.int k2)) (hi:P.info? el=some i) (hz:i.zero=some z) (hs0:0<i.size)
  (kd:IntKind) (m:Nat) (hm:0<m) (hbig:m≤big) (hfit:m*i.bytes≤281474976710656) :
  (Builtin.append_ #[t,t2] ty #[.slice none 0 0,.int kd (m:Int)]).run P w =
   .ok (.slice (some ⟨w.heap.size,0,none⟩) m (grownCap w m 0 el))
    (w.drew.alloc (.cells (Builtin.zeroCells z.cells m++Builtin.zeroCells z.cells (grownCap w m 0 el-m)) el)):=by
 unfold big at hbig
 have hw:IntKind.i64.wrap (m:Int)=(m:Int):=by
  rw [Go.IntWalk.i64_left]
  exact Go.IntWalk.wrap64_in _ ⟨by omega,by omega⟩
 have hneg:¬ ((m:Int)<0):=by omega
 have hfi:¬ (281474976710656<(m:Int)*(i.bytes:Int)):=by
  have:((m*i.bytes:Nat):Int)≤281474976710656:=by omega
  rw [Int.natCast_mul] at this
  omega
 have hm0:¬ (m*i.size=0):=Nat.ne_of_gt (Nat.mul_pos hm hs0)
 have hmz:¬ (m=0):=by omega
 have hsz:¬ (i.size=0):=by omega
 have hnc:Builtin.nextslicecap m 0=m:=by simp [Builtin.nextslicecap];omega
 have h63':¬ (9223372036854775807<(m:Int)):=by omega
 have h48':¬ (281474976710656<m*i.bytes):=by omega
 simp [Builtin.append_,run_underlying ht,run_underlying ht2,sizeOf,typeInfo,zeroValue,hi,hz,asInt,asIntOf,hw,hneg,hfi,hmz,hsz,h63',hnc,h48',Question.forced,newRow,grownCap,Builtin.firstCells]
 intro h
 exact absurd h hm0
theorem qoq (hT:TabOk P T) (α:Type) [GoT α] {all:Array Oper} {l:List Oper} {d t t2 ty el:Nat} {ps:String} {af:Array Edge} {te te' te2:TE} {x y:Operand} {kd k2:IntKind} {nv:Int} {zv:Value} {z:List α}
  (h:SH w0 w L) (hx:opv e x=some (.slice none 0 0)) (hy:opv e y=some (.int kd nv)) (hte:T.get t=some te) (hk:te.kind=.slice el) (ht2:T.get t2=some te2) (hk2:te2.kind=.int k2) (hel:T.get el=some te') (hz:te'.zero=some zv) (hzc:cellsL zv=GoT.zc α) (hsz:te'.size=GoT.k α)
  (hb:Nat.ble te'.bytes 65536=true) (h0:0≤nv) (hbig:nv≤big) (hz':List.replicate nv.toNat (GoT.zero:α)=z) (hn:Nat.blt d n=true)
  (hkk:∀ w' S p c,SH w0 w' (Ch.own S z [.slice p z.length c]::L)→Run P n Q (.ops all l::k) ((d,.slice p z.length c)::e) w') :
  Run P n Q (.ops all (⟨some d,.call ⟨.builtin .append,#[x,y],#[t,t2]⟩,ty,ps,af,none⟩::l)::k) e w:=by
 subst hz'
 obtain ⟨m,rfl⟩:∃ m:Nat,nv=(m:Int):=⟨nv.toNat,by omega⟩
 rw [Int.toNat_natCast,List.length_replicate] at hkk
 have hbig':m≤big:=by omega
 obtain ⟨i,hi,hs,hby,hzi⟩:=qd2 (hT _ _ hel)
 have hb':=jr hb
 have hsl:=qcN (hT _ _ hte) hk
 have hin:=qjW (hT _ _ ht2) hk2
 have hzl:zv.cells=(GoT.zc α).toArray:=by rw [←hzc,←qbI]
 have hzl':(GoT.zc α).length=GoT.k α:=GoT.len (GoT.toR (GoT.zO w (fun _=>False) (α:=α)))
 have hs0:0<i.size:=by rw [hs,hsz];exact GoT.kpos
 rcases Nat.eq_zero_or_pos m with rfl|hm
 ·have hr:(Builtin.append_ #[t,t2] ty #[.slice none 0 0,.int kd ((0:Nat):Int)]).run P w=.ok (.slice none 0 0) w:=by
   have hw:IntKind.i64.wrap (0:Int)=0:=rfl
   simp [Builtin.append_,run_underlying hsl,run_underlying hin,sizeOf,typeInfo,hi,asInt,asIntOf,hw]
  refine qhA (v:=.slice none 0 0) (w':=w) rfl rfl hn (fun a ha=>?_) (hkk w (fun _=>False) none 0 (h.add (Below.refl _ _) ?_ (fun _ hb=>hb.elim) (fun _ hd=>hd.elim)))
  ·simp only [execOp,resolve,invoke,builtin,jj,jk,jf,List.map_toArray,jD,List.map_nil,ha.eval hx,ha.eval hy,hr]
  ·exact ⟨none,0,by simp,by simp,by simp,.inl ⟨rfl,by simp,rfl⟩⟩
 ·have hfit:m*i.bytes≤281474976710656:=by
   have:m*i.bytes≤2147483648*65536:=Nat.mul_le_mul hbig' (by omega)
   omega
  have hr:=qid (P:=P) (w:=w) t t2 ty el k2 i zv hsl hin hi (hzi.trans hz) hs0 kd m hm hbig' hfit
  have hge:=grownCap_ge w m 0 el
  have hcm:=grownCap_le_maxLen w m 0 el (by unfold big at hbig';simp [maxLen];omega)
  rw [hzl] at hr
  refine qhA (v:=.slice (some ⟨w.heap.size,0,none⟩) m (grownCap w m 0 el)) rfl rfl hn (fun a ha=>?_) (hkk _ (fun b=>b=w.heap.size) _ _ (h.add (w':=w.drew.alloc (.cells (Builtin.zeroCells (GoT.zc α).toArray m++Builtin.zeroCells (GoT.zc α).toArray (grownCap w m 0 el-m)) el)) ?_ ?_ ?_ (fun _ hd=>hd.elim)))
  ·simp only [execOp,resolve,invoke,builtin,jj,jk,jf,List.map_toArray,jD,List.map_nil,ha.eval hx,ha.eval hy,hr]
  ·exact (Below.refl _ w).drew.alloc (je _) _
  ·refine ⟨some ⟨w.heap.size,0,none⟩,_,by simp,by simpa using hge,hcm,.inr ⟨w.heap.size,_,el,fun _ _=>False,rfl,rfl,heap_alloc_new w.drew _,?_,?_,?_,?_⟩⟩
   ·simp only [Array.size_append,size_zeroCells,jB,hzl',←Nat.add_mul]
    congr 1
    omega
   ·intro _ _ hf;exact hf.elim
   ·intro _ _ _ _ hf;exact hf.elim
   ·intro j x hj
    rw [List.getElem?_replicate] at hj
    split at hj
    ·rename_i hlt
     simp only [Option.some.injEq] at hj
     subst hj
     refine ⟨_,GoT.zO _ _,fun r v hr'=>?_⟩
     have:=qhW (z:=GoT.zc α) (m:=m) (i:=j) (j:=r) (v:=v) (by rw [hzl'];exact GoT.kpos) hlt hr'
     rw [hzl'] at this
     rw [Array.getElem?_append_left (by rw [size_zeroCells,jB,hzl'];have h1:=(List.getElem?_eq_some_iff.1 hr').1;rw [hzl'] at h1;have:=qiw (m:=GoT.k α) hlt;omega),qjz,jB,hzl']
     exact this
    ·cases hj
  ·intro b hb
   have:b=w.heap.size:=hb
   subst this
   exact ⟨je _,by simp⟩
end
end Go.Fw


namespace Go.Fw
open Go Go.Proofs
open Go.RowKit (Below)
set_option maxRecDepth 100000
set_option maxHeartbeats 1600000
variable {n:Nat} {w:World} {S:Nat→Prop} {cs1 cs2 cs3 cs4 cs5 cs6 cs7 cs8 cs9:List Value}
structure qI where
 Ap:ByteArray
 Bf:Int
 Bg:Int
 Av:Bool
instance gt_TPin:GoT qI:=isoT (pairT instStr (pairT instInt (pairT instInt instBool))) (fun x=>(x.Ap,x.Bf,x.Bg,x.Av)) ⟨ByteArray.empty,0,0,false⟩ rfl true (fun h=>by cases h)
instance fl_TPin:Flat qI:=qdn (pairT instStr (pairT instInt (pairT instInt instBool))) (fun x:qI=>(x.Ap,x.Bf,x.Bg,x.Av)) ⟨ByteArray.empty,0,0,false⟩ rfl true (fun h=>by cases h) (qW _ _ (inferInstanceAs (Flat ByteArray)) (qW _ _ (inferInstanceAs (Flat Int)) (qW _ _ (inferInstanceAs (Flat Int)) (inferInstanceAs (Flat Bool)))))
abbrev qib (x:qI):List Value:=[.string x.Ap,.int .i64 x.Bf,.int .i64 x.Bg,.bool x.Av]
theorem qax {x:qI} {cs:List Value} (h:GoT.R w S x cs):cs=(qib x):=by
 obtain ⟨_,_,rfl,rfl,⟨_,_,rfl,rfl,⟨_,_,rfl,rfl,rfl⟩⟩⟩:=h
 exact rfl
theorem qe2 (x:qI):GoT.R w S x (qib x):=have h:=pR (rT x.Ap) (pR (rI x.Bf) (pR (rI x.Bg) (rB x.Av)));h
structure qb where
 Ay:(List Int)
 Aq:(List Int)
 Ab:(List Int)
instance gt_TTable:GoT qb:=isoT (pairT (@instList Int instInt) (pairT (@instList Int instInt) (@instList Int instInt))) (fun x=>(x.Ay,x.Aq,x.Ab)) ⟨[],[],[]⟩ rfl true (fun h=>by cases h)
abbrev qfH (x:qb) (p0 p1 p2:Option Addr) (k0 k1 k2:Nat):List Value:=[.slice p0 (x.Ay).length k0,.slice p1 (x.Aq).length k1,.slice p2 (x.Ab).length k2]
theorem qN {x:qb} {cs:List Value} (h:GoT.R w S x cs):∃ p0 k0 p1 k1 p2 k2,cs=(qfH x p0 p1 p2 k0 k1 k2)∧SlR w S x.Ay p0 k0∧SlR w S x.Aq p1 k1∧SlR w S x.Ab p2 k2:=by
 obtain ⟨_,_,rfl,⟨p0,k0,rfl,s0⟩,⟨_,_,rfl,⟨p1,k1,rfl,s1⟩,⟨p2,k2,rfl,s2⟩⟩⟩:=h
 exact ⟨p0,k0,p1,k1,p2,k2,rfl,s0,s1,s2⟩
theorem qdk (x:qb) {p0 p1 p2:Option Addr} {k0 k1 k2:Nat} (s0:SlR w S x.Ay p0 k0) (s1:SlR w S x.Aq p1 k1) (s2:SlR w S x.Ab p2 k2):GoT.R w S x (qfH x p0 p1 p2 k0 k1 k2):=have h:=pR (rS s0) (pR (rS s1) (rS s2));h
theorem qmc {w0:World} {L:List Ch} (x:qb) {I0 I1 I2:List Nat} {c0 c1 c2:List Value} (h:SH w0 w L) (h0:PO w L I0 x.Ay c0) (h1:PO w L I1 x.Aq c1) (h2:PO w L I2 x.Ab c2) (b0:apartB I0 (I1++I2)=true) (b1:apartB I1 I2=true):PO w L (I0++(I1++I2)) x (c0++(c1++c2)) :=
 (qbb h h0 (qbb h h1 h2 b1) b0)
structure qE where
 Ar:Int
 Ba:Int
 To:Int
 Bc:Int
 Au:(List qb)
 Bb:(List qb)
instance gt_TArc:GoT qE:=isoT (pairT instInt (pairT instInt (pairT instInt (pairT instInt (pairT (@instList qb gt_TTable) (@instList qb gt_TTable)))))) (fun x=>(x.Ar,x.Ba,x.To,x.Bc,x.Au,x.Bb)) ⟨0,0,0,0,[],[]⟩ rfl true (fun h=>by cases h)
abbrev qhb (x:qE) (p0 p1:Option Addr) (k0 k1:Nat):List Value:=[.int .i64 x.Ar,.int .i64 x.Ba,.int .i64 x.To,.int .i64 x.Bc,.slice p0 (x.Au).length k0,.slice p1 (x.Bb).length k1]
theorem qK {x:qE} {cs:List Value} (h:GoT.R w S x cs):∃ p0 k0 p1 k1,cs=(qhb x p0 p1 k0 k1)∧SlR w S x.Au p0 k0∧SlR w S x.Bb p1 k1:=by
 obtain ⟨_,_,rfl,rfl,⟨_,_,rfl,rfl,⟨_,_,rfl,rfl,⟨_,_,rfl,rfl,⟨_,_,rfl,⟨p0,k0,rfl,s0⟩,⟨p1,k1,rfl,s1⟩⟩⟩⟩⟩⟩:=h
 exact ⟨p0,k0,p1,k1,rfl,s0,s1⟩
theorem qdS (x:qE) {p0 p1:Option Addr} {k0 k1:Nat} (s0:SlR w S x.Au p0 k0) (s1:SlR w S x.Bb p1 k1):GoT.R w S x (qhb x p0 p1 k0 k1):=have h:=pR (rI x.Ar) (pR (rI x.Ba) (pR (rI x.To) (pR (rI x.Bc) (pR (rS s0) (rS s1)))));h
theorem qnB {w0:World} {L:List Ch} (x:qE) {I0 I1 I2 I3 I4 I5:List Nat} {c0 c1 c2 c3 c4 c5:List Value} (h:SH w0 w L) (h0:PO w L I0 x.Ar c0) (h1:PO w L I1 x.Ba c1) (h2:PO w L I2 x.To c2) (h3:PO w L I3 x.Bc c3) (h4:PO w L I4 x.Au c4) (h5:PO w L I5 x.Bb c5) (b0:apartB I0 (I1++(I2++(I3++(I4++I5))))=true) (b1:apartB I1 (I2++(I3++(I4++I5)))=true) (b2:apartB I2 (I3++(I4++I5))=true) (b3:apartB I3 (I4++I5)=true) (b4:apartB I4 I5=true):PO w L (I0++(I1++(I2++(I3++(I4++I5))))) x (c0++(c1++(c2++(c3++(c4++c5))))) :=
 (qbb h h0 (qbb h h1 (qbb h h2 (qbb h h3 (qbb h h4 h5 b4) b3) b2) b1) b0)
structure ql where
 Ap:ByteArray
 Ar:Int
 Am:(List qI)
 Af:(List qE)
 Az:(List Int)
 Bo:Int
 Be:Int
instance gt_TCell:GoT ql:=isoT (pairT instStr (pairT instInt (pairT (@instList qI gt_TPin) (pairT (@instList qE gt_TArc) (pairT (@instList Int instInt) (pairT instInt instInt)))))) (fun x=>(x.Ap,x.Ar,x.Am,x.Af,x.Az,x.Bo,x.Be)) ⟨ByteArray.empty,0,[],[],[],0,0⟩ rfl true (fun h=>by cases h)
abbrev qbK (x:ql) (p0 p1 p2:Option Addr) (k0 k1 k2:Nat):List Value:=[.string x.Ap,.int .i64 x.Ar,.slice p0 (x.Am).length k0,.slice p1 (x.Af).length k1,.slice p2 (x.Az).length k2,.int .i64 x.Bo,.int .i64 x.Be]
theorem qD {x:ql} {cs:List Value} (h:GoT.R w S x cs):∃ p0 k0 p1 k1 p2 k2,cs=(qbK x p0 p1 p2 k0 k1 k2)∧SlR w S x.Am p0 k0∧SlR w S x.Af p1 k1∧SlR w S x.Az p2 k2:=by
 obtain ⟨_,_,rfl,rfl,⟨_,_,rfl,rfl,⟨_,_,rfl,⟨p0,k0,rfl,s0⟩,⟨_,_,rfl,⟨p1,k1,rfl,s1⟩,⟨_,_,rfl,⟨p2,k2,rfl,s2⟩,⟨_,_,rfl,rfl,rfl⟩⟩⟩⟩⟩⟩:=h
 exact ⟨p0,k0,p1,k1,p2,k2,rfl,s0,s1,s2⟩
theorem qft (x:ql) {p0 p1 p2:Option Addr} {k0 k1 k2:Nat} (s0:SlR w S x.Am p0 k0) (s1:SlR w S x.Af p1 k1) (s2:SlR w S x.Az p2 k2):GoT.R w S x (qbK x p0 p1 p2 k0 k1 k2):=have h:=pR (rT x.Ap) (pR (rI x.Ar) (pR (rS s0) (pR (rS s1) (pR (rS s2) (pR (rI x.Bo) (rI x.Be))))));h
theorem qmL {w0:World} {L:List Ch} (x:ql) {I0 I1 I2 I3 I4 I5 I6:List Nat} {c0 c1 c2 c3 c4 c5 c6:List Value} (h:SH w0 w L) (h0:PO w L I0 x.Ap c0) (h1:PO w L I1 x.Ar c1) (h2:PO w L I2 x.Am c2) (h3:PO w L I3 x.Af c3) (h4:PO w L I4 x.Az c4) (h5:PO w L I5 x.Bo c5) (h6:PO w L I6 x.Be c6) (b0:apartB I0 (I1++(I2++(I3++(I4++(I5++I6)))))=true) (b1:apartB I1 (I2++(I3++(I4++(I5++I6))))=true) (b2:apartB I2 (I3++(I4++(I5++I6)))=true) (b3:apartB I3 (I4++(I5++I6))=true) (b4:apartB I4 (I5++I6)=true) (b5:apartB I5 I6=true):PO w L (I0++(I1++(I2++(I3++(I4++(I5++I6)))))) x (c0++(c1++(c2++(c3++(c4++(c5++c6)))))) :=
 (qbb h h0 (qbb h h1 (qbb h h2 (qbb h h3 (qbb h h4 (qbb h h5 h6 b5) b4) b3) b2) b1) b0)
structure qm where
 Ai:(List ql)
instance gt_TLibrary:GoT qm:=isoT (@instList ql gt_TCell) (fun x=>x.Ai) ⟨[]⟩ rfl true (fun h=>by cases h)
theorem qaK {x:qm} {cs:List Value} (h:GoT.R w S x cs):∃ p0 k0,cs=[.slice p0 (x.Ai).length k0]∧SlR w S x.Ai p0 k0:=by
 obtain ⟨p0,k0,rfl,s0⟩:=h
 exact ⟨p0,k0,rfl,s0⟩
theorem qdB (x:qm) {p0:Option Addr} {k0:Nat} (s0:SlR w S x.Ai p0 k0):GoT.R w S x [.slice p0 (x.Ai).length k0]:=have h:=rS s0;h
theorem qk0 {w0:World} {L:List Ch} (x:qm) {I0:List Nat} {c0:List Value} (_:SH w0 w L) (h0:PO w L I0 x.Ai c0):PO w L I0 x c0 :=
 h0
structure qd where
 Ap:ByteArray
 Bh:Int
 Ah:(List Int)
instance gt_TInstance:GoT qd:=isoT (pairT instStr (pairT instInt (@instList Int instInt))) (fun x=>(x.Ap,x.Bh,x.Ah)) ⟨ByteArray.empty,0,[]⟩ rfl true (fun h=>by cases h)
abbrev qeX (x:qd) (p0:Option Addr) (k0:Nat):List Value:=[.string x.Ap,.int .i64 x.Bh,.slice p0 (x.Ah).length k0]
theorem qH {x:qd} {cs:List Value} (h:GoT.R w S x cs):∃ p0 k0,cs=(qeX x p0 k0)∧SlR w S x.Ah p0 k0:=by
 obtain ⟨_,_,rfl,rfl,⟨_,_,rfl,rfl,⟨p0,k0,rfl,s0⟩⟩⟩:=h
 exact ⟨p0,k0,rfl,s0⟩
theorem qdO (x:qd) {p0:Option Addr} {k0:Nat} (s0:SlR w S x.Ah p0 k0):GoT.R w S x (qeX x p0 k0):=have h:=pR (rT x.Ap) (pR (rI x.Bh) (rS s0));h
theorem qkv {w0:World} {L:List Ch} (x:qd) {I0 I1 I2:List Nat} {c0 c1 c2:List Value} (h:SH w0 w L) (h0:PO w L I0 x.Ap c0) (h1:PO w L I1 x.Bh c1) (h2:PO w L I2 x.Ah c2) (b0:apartB I0 (I1++I2)=true) (b1:apartB I1 I2=true):PO w L (I0++(I1++I2)) x (c0++(c1++c2)) :=
 (qbb h h0 (qbb h h1 h2 b1) b0)
structure qF where
 Ap:ByteArray
 Bf:Int
 Bi:Int
instance gt_TPort:GoT qF:=isoT (pairT instStr (pairT instInt instInt)) (fun x=>(x.Ap,x.Bf,x.Bi)) ⟨ByteArray.empty,0,0⟩ rfl true (fun h=>by cases h)
instance fl_TPort:Flat qF:=qdn (pairT instStr (pairT instInt instInt)) (fun x:qF=>(x.Ap,x.Bf,x.Bi)) ⟨ByteArray.empty,0,0⟩ rfl true (fun h=>by cases h) (qW _ _ (inferInstanceAs (Flat ByteArray)) (qW _ _ (inferInstanceAs (Flat Int)) (inferInstanceAs (Flat Int))))
abbrev qiU (x:qF):List Value:=[.string x.Ap,.int .i64 x.Bf,.int .i64 x.Bi]
theorem qae {x:qF} {cs:List Value} (h:GoT.R w S x cs):cs=(qiU x):=by
 obtain ⟨_,_,rfl,rfl,⟨_,_,rfl,rfl,rfl⟩⟩:=h
 exact rfl
theorem qeC (x:qF):GoT.R w S x (qiU x):=have h:=pR (rT x.Ap) (pR (rI x.Bf) (rI x.Bi));h
structure qc where
 Aa:(List qd)
 Ah:(List ByteArray)
 Ac:(List qF)
instance gt_TDesign:GoT qc:=isoT (pairT (@instList qd gt_TInstance) (pairT (@instList ByteArray instStr) (@instList qF gt_TPort))) (fun x=>(x.Aa,x.Ah,x.Ac)) ⟨[],[],[]⟩ rfl true (fun h=>by cases h)
abbrev qaf (x:qc) (p0 p1 p2:Option Addr) (k0 k1 k2:Nat):List Value:=[.slice p0 (x.Aa).length k0,.slice p1 (x.Ah).length k1,.slice p2 (x.Ac).length k2]
theorem qX {x:qc} {cs:List Value} (h:GoT.R w S x cs):∃ p0 k0 p1 k1 p2 k2,cs=(qaf x p0 p1 p2 k0 k1 k2)∧SlR w S x.Aa p0 k0∧SlR w S x.Ah p1 k1∧SlR w S x.Ac p2 k2:=by
 obtain ⟨_,_,rfl,⟨p0,k0,rfl,s0⟩,⟨_,_,rfl,⟨p1,k1,rfl,s1⟩,⟨p2,k2,rfl,s2⟩⟩⟩:=h
 exact ⟨p0,k0,p1,k1,p2,k2,rfl,s0,s1,s2⟩
theorem qci (x:qc) {p0 p1 p2:Option Addr} {k0 k1 k2:Nat} (s0:SlR w S x.Aa p0 k0) (s1:SlR w S x.Ah p1 k1) (s2:SlR w S x.Ac p2 k2):GoT.R w S x (qaf x p0 p1 p2 k0 k1 k2):=have h:=pR (rS s0) (pR (rS s1) (rS s2));h
theorem qll {w0:World} {L:List Ch} (x:qc) {I0 I1 I2:List Nat} {c0 c1 c2:List Value} (h:SH w0 w L) (h0:PO w L I0 x.Aa c0) (h1:PO w L I1 x.Ah c1) (h2:PO w L I2 x.Ac c2) (b0:apartB I0 (I1++I2)=true) (b1:apartB I1 I2=true):PO w L (I0++(I1++I2)) x (c0++(c1++c2)) :=
 (qbb h h0 (qbb h h1 h2 b1) b0)
structure qz where
 Aj:(List Int)
 Bj:(List Int)
 Bg:(List Int)
 Bd:(List Int)
instance gt_TWire:GoT qz:=isoT (pairT (@instList Int instInt) (pairT (@instList Int instInt) (pairT (@instList Int instInt) (@instList Int instInt)))) (fun x=>(x.Aj,x.Bj,x.Bg,x.Bd)) ⟨[],[],[],[]⟩ rfl true (fun h=>by cases h)
abbrev qgv (x:qz) (p0 p1 p2 p3:Option Addr) (k0 k1 k2 k3:Nat):List Value:=[.slice p0 (x.Aj).length k0,.slice p1 (x.Bj).length k1,.slice p2 (x.Bg).length k2,.slice p3 (x.Bd).length k3]
theorem qaO {x:qz} {cs:List Value} (h:GoT.R w S x cs):∃ p0 k0 p1 k1 p2 k2 p3 k3,cs=(qgv x p0 p1 p2 p3 k0 k1 k2 k3)∧SlR w S x.Aj p0 k0∧SlR w S x.Bj p1 k1∧SlR w S x.Bg p2 k2∧SlR w S x.Bd p3 k3:=by
 obtain ⟨_,_,rfl,⟨p0,k0,rfl,s0⟩,⟨_,_,rfl,⟨p1,k1,rfl,s1⟩,⟨_,_,rfl,⟨p2,k2,rfl,s2⟩,⟨p3,k3,rfl,s3⟩⟩⟩⟩:=h
 exact ⟨p0,k0,p1,k1,p2,k2,p3,k3,rfl,s0,s1,s2,s3⟩
theorem qfv (x:qz) {p0 p1 p2 p3:Option Addr} {k0 k1 k2 k3:Nat} (s0:SlR w S x.Aj p0 k0) (s1:SlR w S x.Bj p1 k1) (s2:SlR w S x.Bg p2 k2) (s3:SlR w S x.Bd p3 k3):GoT.R w S x (qgv x p0 p1 p2 p3 k0 k1 k2 k3):=have h:=pR (rS s0) (pR (rS s1) (pR (rS s2) (rS s3)));h
theorem qne {w0:World} {L:List Ch} (x:qz) {I0 I1 I2 I3:List Nat} {c0 c1 c2 c3:List Value} (h:SH w0 w L) (h0:PO w L I0 x.Aj c0) (h1:PO w L I1 x.Bj c1) (h2:PO w L I2 x.Bg c2) (h3:PO w L I3 x.Bd c3) (b0:apartB I0 (I1++(I2++I3))=true) (b1:apartB I1 (I2++I3)=true) (b2:apartB I2 I3=true):PO w L (I0++(I1++(I2++I3))) x (c0++(c1++(c2++c3))) :=
 (qbb h h0 (qbb h h1 (qbb h h2 h3 b2) b1) b0)
structure qq where
 As:qm
 Ak:qc
 At:(List qz)
instance gt_TBlock:GoT qq:=isoT (pairT gt_TLibrary (pairT gt_TDesign (@instList qz gt_TWire))) (fun x=>(x.As,x.Ak,x.At)) ⟨(⟨[]⟩:qm),(⟨[],[],[]⟩:qc),[]⟩ rfl true (fun h=>by cases h)
abbrev qfR (x:qq) (p0 p1 p2 p3 p4:Option Addr) (k0 k1 k2 k3 k4:Nat):List Value:=[.slice p0 (x.As.Ai).length k0,.slice p1 (x.Ak.Aa).length k1,.slice p2 (x.Ak.Ah).length k2,.slice p3 (x.Ak.Ac).length k3,.slice p4 (x.At).length k4]
theorem qa7 {x:qq} {cs:List Value} (h:GoT.R w S x cs):∃ p0 k0 p1 k1 p2 k2 p3 k3 p4 k4,cs=(qfR x p0 p1 p2 p3 p4 k0 k1 k2 k3 k4)∧SlR w S x.As.Ai p0 k0∧SlR w S x.Ak.Aa p1 k1∧SlR w S x.Ak.Ah p2 k2∧SlR w S x.Ak.Ac p3 k3∧SlR w S x.At p4 k4:=by
 obtain ⟨_,_,rfl,⟨p0,k0,rfl,s0⟩,⟨_,_,rfl,⟨_,_,rfl,⟨p1,k1,rfl,s1⟩,⟨_,_,rfl,⟨p2,k2,rfl,s2⟩,⟨p3,k3,rfl,s3⟩⟩⟩,⟨p4,k4,rfl,s4⟩⟩⟩:=h
 exact ⟨p0,k0,p1,k1,p2,k2,p3,k3,p4,k4,rfl,s0,s1,s2,s3,s4⟩
theorem qmk {w0:World} {L:List Ch} (x:qq) {I0 I1 I2:List Nat} {c0 c1 c2:List Value} (h:SH w0 w L) (h0:PO w L I0 x.As c0) (h1:PO w L I1 x.Ak c1) (h2:PO w L I2 x.At c2) (b0:apartB I0 (I1++I2)=true) (b1:apartB I1 I2=true):PO w L (I0++(I1++I2)) x (c0++(c1++c2)) :=
 (qbb h h0 (qbb h h1 h2 b1) b0)
structure qdV where
 Ap:ByteArray
 Bl:Int
 Bp:Int
 Bn:Int
 Bq:Int
instance gt_TCorner:GoT qdV:=isoT (pairT instStr (pairT instInt (pairT instInt (pairT instInt instInt)))) (fun x=>(x.Ap,x.Bl,x.Bp,x.Bn,x.Bq)) ⟨ByteArray.empty,0,0,0,0⟩ rfl true (fun h=>by cases h)
instance fl_TCorner:Flat qdV:=qdn (pairT instStr (pairT instInt (pairT instInt (pairT instInt instInt)))) (fun x:qdV=>(x.Ap,x.Bl,x.Bp,x.Bn,x.Bq)) ⟨ByteArray.empty,0,0,0,0⟩ rfl true (fun h=>by cases h) (qW _ _ (inferInstanceAs (Flat ByteArray)) (qW _ _ (inferInstanceAs (Flat Int)) (qW _ _ (inferInstanceAs (Flat Int)) (qW _ _ (inferInstanceAs (Flat Int)) (inferInstanceAs (Flat Int))))))
structure qaN where
 Bk:Int
 Br:Int
instance gt_TSpan:GoT qaN:=isoT (pairT instInt instInt) (fun x=>(x.Bk,x.Br)) ⟨0,0⟩ rfl true (fun h=>by cases h)
instance fl_TSpan:Flat qaN:=qdn (pairT instInt instInt) (fun x:qaN=>(x.Bk,x.Br)) ⟨0,0⟩ rfl true (fun h=>by cases h) (qW _ _ (inferInstanceAs (Flat Int)) (inferInstanceAs (Flat Int)))
abbrev qlH (x:qaN):List Value:=[.int .i64 x.Bk,.int .i64 x.Br]
theorem qlB {x:qaN} {cs:List Value} (h:GoT.R w S x cs):cs=(qlH x):=by
 obtain ⟨_,_,rfl,rfl,rfl⟩:=h
 exact rfl
theorem qj4 (x:qaN):GoT.R w S x (qlH x):=have h:=pR (rI x.Bk) (rI x.Br);h
structure qcU where
 Bs:Int
 Bm:qaN
 Bb:qaN
instance gt_TSource:GoT qcU:=isoT (pairT instInt (pairT gt_TSpan gt_TSpan)) (fun x=>(x.Bs,x.Bm,x.Bb)) ⟨0,(⟨0,0⟩:qaN),(⟨0,0⟩:qaN)⟩ rfl true (fun h=>by cases h)
instance fl_TSource:Flat qcU:=qdn (pairT instInt (pairT gt_TSpan gt_TSpan)) (fun x:qcU=>(x.Bs,x.Bm,x.Bb)) ⟨0,(⟨0,0⟩:qaN),(⟨0,0⟩:qaN)⟩ rfl true (fun h=>by cases h) (qW _ _ (inferInstanceAs (Flat Int)) (qW _ _ (inferInstanceAs (Flat qaN)) (inferInstanceAs (Flat qaN))))
structure qd7 where
 A:Int
 B:Int
 Bv:Int
instance gt_TCoupling:GoT qd7:=isoT (pairT instInt (pairT instInt instInt)) (fun x=>(x.A,x.B,x.Bv)) ⟨0,0,0⟩ rfl true (fun h=>by cases h)
instance fl_TCoupling:Flat qd7:=qdn (pairT instInt (pairT instInt instInt)) (fun x:qd7=>(x.A,x.B,x.Bv)) ⟨0,0,0⟩ rfl true (fun h=>by cases h) (qW _ _ (inferInstanceAs (Flat Int)) (qW _ _ (inferInstanceAs (Flat Int)) (inferInstanceAs (Flat Int))))
structure qfZ where
 Bt:(List Bool)
 Bm:(List qaN)
 Bb:(List qaN)
instance gt_TTiming:GoT qfZ:=isoT (pairT (@instList Bool instBool) (pairT (@instList qaN gt_TSpan) (@instList qaN gt_TSpan))) (fun x=>(x.Bt,x.Bm,x.Bb)) ⟨[],[],[]⟩ rfl true (fun h=>by cases h)
structure Tplace where
 instance_:Int
 pin:Int
 net:Int
 drives:Bool
instance gt_Tplace:GoT Tplace:=isoT (pairT instInt (pairT instInt (pairT instInt instBool))) (fun x=>(x.instance_,x.pin,x.net,x.drives)) ⟨0,0,0,false⟩ rfl true (fun h=>by cases h)
instance fl_Tplace:Flat Tplace:=qdn (pairT instInt (pairT instInt (pairT instInt instBool))) (fun x:Tplace=>(x.instance_,x.pin,x.net,x.drives)) ⟨0,0,0,false⟩ rfl true (fun h=>by cases h) (qW _ _ (inferInstanceAs (Flat Int)) (qW _ _ (inferInstanceAs (Flat Int)) (qW _ _ (inferInstanceAs (Flat Int)) (inferInstanceAs (Flat Bool)))))
abbrev qkR (x:Tplace):List Value:=[.int .i64 x.instance_,.int .i64 x.pin,.int .i64 x.net,.bool x.drives]
theorem qkx {x:Tplace} {cs:List Value} (h:GoT.R w S x cs):cs=(qkR x):=by
 obtain ⟨_,_,rfl,rfl,⟨_,_,rfl,rfl,⟨_,_,rfl,rfl,rfl⟩⟩⟩:=h
 exact rfl
theorem qjx (x:Tplace):GoT.R w S x (qkR x):=have h:=pR (rI x.instance_) (pR (rI x.pin) (pR (rI x.net) (rB x.drives)));h
structure qdR where
 Ba:Int
 To:Int
 Ar:Int
 Bu:Int
instance gt_TLink:GoT qdR:=isoT (pairT instInt (pairT instInt (pairT instInt instInt))) (fun x=>(x.Ba,x.To,x.Ar,x.Bu)) ⟨0,0,0,0⟩ rfl true (fun h=>by cases h)
instance fl_TLink:Flat qdR:=qdn (pairT instInt (pairT instInt (pairT instInt instInt))) (fun x:qdR=>(x.Ba,x.To,x.Ar,x.Bu)) ⟨0,0,0,0⟩ rfl true (fun h=>by cases h) (qW _ _ (inferInstanceAs (Flat Int)) (qW _ _ (inferInstanceAs (Flat Int)) (qW _ _ (inferInstanceAs (Flat Int)) (inferInstanceAs (Flat Int)))))
structure Tview where
 Bw:qq
 places:(List Tplace)
 links:(List qdR)
 loads:(List Int)
 delays:(List (List Int))
 extras:(List Int)
instance gt_Tview:GoT Tview:=isoT (pairT gt_TBlock (pairT (@instList Tplace gt_Tplace) (pairT (@instList qdR gt_TLink) (pairT (@instList Int instInt) (pairT (@instList (List Int) (@instList Int instInt)) (@instList Int instInt)))))) (fun x=>(x.Bw,x.places,x.links,x.loads,x.delays,x.extras)) ⟨(⟨(⟨[]⟩:qm),(⟨[],[],[]⟩:qc),[]⟩:qq),[],[],[],[],[]⟩ rfl true (fun h=>by cases h)
structure Tgraph where
 view:(Option Tview)
 live:(List Bool)
instance gt_Tgraph:GoT Tgraph:=isoT (pairT (@instPtr Tview gt_Tview) (@instList Bool instBool)) (fun x=>(x.view,x.live)) ⟨none,[]⟩ rfl true (fun h=>by cases h)
structure Tl05Place where
 instance_:Int
 pin:Int
 net:Int
 drives:Bool
instance gt_Tl05Place:GoT Tl05Place:=isoT (pairT instInt (pairT instInt (pairT instInt instBool))) (fun x=>(x.instance_,x.pin,x.net,x.drives)) ⟨0,0,0,false⟩ rfl true (fun h=>by cases h)
instance fl_Tl05Place:Flat Tl05Place:=qdn (pairT instInt (pairT instInt (pairT instInt instBool))) (fun x:Tl05Place=>(x.instance_,x.pin,x.net,x.drives)) ⟨0,0,0,false⟩ rfl true (fun h=>by cases h) (qW _ _ (inferInstanceAs (Flat Int)) (qW _ _ (inferInstanceAs (Flat Int)) (qW _ _ (inferInstanceAs (Flat Int)) (inferInstanceAs (Flat Bool)))))
abbrev qix (x:Tl05Place):List Value:=[.int .i64 x.instance_,.int .i64 x.pin,.int .i64 x.net,.bool x.drives]
theorem qgT {x:Tl05Place} {cs:List Value} (h:GoT.R w S x cs):cs=(qix x):=by
 obtain ⟨_,_,rfl,rfl,⟨_,_,rfl,rfl,⟨_,_,rfl,rfl,rfl⟩⟩⟩:=h
 exact rfl
theorem qhz (x:Tl05Place):GoT.R w S x (qix x):=have h:=pR (rI x.instance_) (pR (rI x.pin) (pR (rI x.net) (rB x.drives)));h
structure qhh where
 e0:Int
 e1:Int
instance gt_TA2_Int:GoT qhh:=isoT (pairT instInt instInt) (fun x=>(x.e0,x.e1)) ⟨0,0⟩ rfl true (fun h=>by cases h)
instance fl_TA2_Int:Flat qhh:=qdn (pairT instInt instInt) (fun x:qhh=>(x.e0,x.e1)) ⟨0,0⟩ rfl true (fun h=>by cases h) (qW _ _ (inferInstanceAs (Flat Int)) (inferInstanceAs (Flat Int)))
structure Tweight where
 index:Int
 part:Int
instance gt_Tweight:GoT Tweight:=isoT (pairT instInt instInt) (fun x=>(x.index,x.part)) ⟨0,0⟩ rfl true (fun h=>by cases h)
instance fl_Tweight:Flat Tweight:=qdn (pairT instInt instInt) (fun x:Tweight=>(x.index,x.part)) ⟨0,0⟩ rfl true (fun h=>by cases h) (qW _ _ (inferInstanceAs (Flat Int)) (inferInstanceAs (Flat Int)))
def tab:Tab:=[
 (2,⟨.int .i64,1,8,some (.int .i64 0),[]⟩),
 (3,⟨.int .i64,1,8,some (.int .i64 0),[]⟩),
 (4,⟨.bool,1,1,some (.bool false),[]⟩),
 (5,⟨.int .u8,1,1,some (.int .u8 0),[]⟩),
 (9,⟨.str,1,16,some (.string ByteArray.empty),[]⟩),
 (22,⟨.slice 205,1,24,some (.slice none 0 0),[]⟩),
 (24,⟨.struct,1,24,some (.agg #[.slice none 0 0]),[(0,1,some false)]⟩),
 (25,⟨.slice 208,1,24,some (.slice none 0 0),[]⟩),
 (26,⟨.slice 9,1,24,some (.slice none 0 0),[]⟩),
 (27,⟨.slice 211,1,24,some (.slice none 0 0),[]⟩),
 (29,⟨.struct,3,72,some (.agg #[.slice none 0 0,.slice none 0 0,.slice none 0 0]),[(0,1,some false),(1,1,some false),(2,1,some false)]⟩),
 (30,⟨.slice 152,1,24,some (.slice none 0 0),[]⟩),
 (32,⟨.struct,5,120,some (.agg #[.slice none 0 0,.slice none 0 0,.slice none 0 0,.slice none 0 0,.slice none 0 0]),[(0,1,some true),(1,3,some true),(4,1,some false)]⟩),
 (34,⟨.struct,5,48,some (.agg #[.string ByteArray.empty,.int .i64 0,.int .i64 0,.int .i64 0,.int .i64 0]),[(0,1,some false),(1,1,some false),(2,1,some false),(3,1,some false),(4,1,some false)]⟩),
 (35,⟨.slice 2,1,24,some (.slice none 0 0),[]⟩),
 (36,⟨.slice 99,1,24,some (.slice none 0 0),[]⟩),
 (37,⟨.slice 103,1,24,some (.slice none 0 0),[]⟩),
 (42,⟨.slice 4,1,24,some (.slice none 0 0),[]⟩),
 (43,⟨.slice 93,1,24,some (.slice none 0 0),[]⟩),
 (45,⟨.struct,3,72,some (.agg #[.slice none 0 0,.slice none 0 0,.slice none 0 0]),[(0,1,some false),(1,1,some false),(2,1,some false)]⟩),
 (48,⟨.slice 135,1,24,some (.slice none 0 0),[]⟩),
 (50,⟨.struct,1,24,some (.agg #[.slice none 0 0]),[(0,1,some false)]⟩),
 (51,⟨.slice 217,1,24,some (.slice none 0 0),[]⟩),
 (52,⟨.slice 232,1,24,some (.slice none 0 0),[]⟩),
 (54,⟨.struct,3,72,some (.agg #[.slice none 0 0,.slice none 0 0,.slice none 0 0]),[(0,1,some false),(1,1,some false),(2,1,some false)]⟩),
 (55,⟨.slice 170,1,24,some (.slice none 0 0),[]⟩),
 (57,⟨.struct,5,120,some (.agg #[.slice none 0 0,.slice none 0 0,.slice none 0 0,.slice none 0 0,.slice none 0 0]),[(0,1,some true),(1,3,some true),(4,1,some false)]⟩),
 (59,⟨.struct,5,48,some (.agg #[.string ByteArray.empty,.int .i64 0,.int .i64 0,.int .i64 0,.int .i64 0]),[(0,1,some false),(1,1,some false),(2,1,some false),(3,1,some false),(4,1,some false)]⟩),
 (62,⟨.slice 95,1,24,some (.slice none 0 0),[]⟩),
 (64,⟨.slice 101,1,24,some (.slice none 0 0),[]⟩),
 (93,⟨.struct,2,16,some (.agg #[.int .i64 0,.int .i64 0]),[(0,1,some false),(1,1,some false)]⟩),
 (95,⟨.struct,5,40,some (.agg #[.int .i64 0,.int .i64 0,.int .i64 0,.int .i64 0,.int .i64 0]),[(0,1,some false),(1,2,some true),(3,2,some true)]⟩),
 (97,⟨.struct,2,16,some (.agg #[.int .i64 0,.int .i64 0]),[(0,1,some false),(1,1,some false)]⟩),
 (99,⟨.struct,5,40,some (.agg #[.int .i64 0,.int .i64 0,.int .i64 0,.int .i64 0,.int .i64 0]),[(0,1,some false),(1,2,some true),(3,2,some true)]⟩),
 (101,⟨.struct,3,24,some (.agg #[.int .i64 0,.int .i64 0,.int .i64 0]),[(0,1,some false),(1,1,some false),(2,1,some false)]⟩),
 (103,⟨.struct,3,24,some (.agg #[.int .i64 0,.int .i64 0,.int .i64 0]),[(0,1,some false),(1,1,some false),(2,1,some false)]⟩),
 (108,⟨.ptr,1,8,some (.pointer none),[]⟩),
 (110,⟨.struct,2,32,some (.agg #[.pointer none,.slice none 0 0]),[(0,1,some false),(1,1,some false)]⟩),
 (111,⟨.slice 197,1,24,some (.slice none 0 0),[]⟩),
 (112,⟨.slice 225,1,24,some (.slice none 0 0),[]⟩),
 (113,⟨.slice 35,1,24,some (.slice none 0 0),[]⟩),
 (115,⟨.struct,10,240,some (.agg #[.slice none 0 0,.slice none 0 0,.slice none 0 0,.slice none 0 0,.slice none 0 0,.slice none 0 0,.slice none 0 0,.slice none 0 0,.slice none 0 0,.slice none 0 0]),[(0,5,some true),(5,1,some false),(6,1,some false),(7,1,some false),(8,1,some false),(9,1,some false)]⟩),
 (132,⟨.slice 321,1,24,some (.slice none 0 0),[]⟩),
 (133,⟨.slice 138,1,24,some (.slice none 0 0),[]⟩),
 (135,⟨.struct,7,112,some (.agg #[.string ByteArray.empty,.int .i64 0,.slice none 0 0,.slice none 0 0,.slice none 0 0,.int .i64 0,.int .i64 0]),[(0,1,some false),(1,1,some false),(2,1,some false),(3,1,some false),(4,1,some false),(5,1,some false),(6,1,some false)]⟩),
 (136,⟨.slice 142,1,24,some (.slice none 0 0),[]⟩),
 (138,⟨.struct,6,80,some (.agg #[.int .i64 0,.int .i64 0,.int .i64 0,.int .i64 0,.slice none 0 0,.slice none 0 0]),[(0,1,some false),(1,1,some false),(2,1,some false),(3,1,some false),(4,1,some false),(5,1,some false)]⟩),
 (142,⟨.struct,3,72,some (.agg #[.slice none 0 0,.slice none 0 0,.slice none 0 0]),[(0,1,some false),(1,1,some false),(2,1,some false)]⟩),
 (152,⟨.struct,4,96,some (.agg #[.slice none 0 0,.slice none 0 0,.slice none 0 0,.slice none 0 0]),[(0,1,some false),(1,1,some false),(2,1,some false),(3,1,some false)]⟩),
 (170,⟨.struct,4,96,some (.agg #[.slice none 0 0,.slice none 0 0,.slice none 0 0,.slice none 0 0]),[(0,1,some false),(1,1,some false),(2,1,some false),(3,1,some false)]⟩),
 (182,⟨.int .u64,1,8,some (.int .u64 0),[]⟩),
 (197,⟨.struct,4,32,some (.agg #[.int .i64 0,.int .i64 0,.int .i64 0,.bool false]),[(0,1,some false),(1,1,some false),(2,1,some false),(3,1,some false)]⟩),
 (198,⟨.slice 136,1,24,some (.slice none 0 0),[]⟩),
 (202,⟨.slice 327,1,24,some (.slice none 0 0),[]⟩),
 (203,⟨.slice 331,1,24,some (.slice none 0 0),[]⟩),
 (205,⟨.struct,7,112,some (.agg #[.string ByteArray.empty,.int .i64 0,.slice none 0 0,.slice none 0 0,.slice none 0 0,.int .i64 0,.int .i64 0]),[(0,1,some false),(1,1,some false),(2,1,some false),(3,1,some false),(4,1,some false),(5,1,some false),(6,1,some false)]⟩),
 (208,⟨.struct,3,48,some (.agg #[.string ByteArray.empty,.int .i64 0,.slice none 0 0]),[(0,1,some false),(1,1,some false),(2,1,some false)]⟩),
 (211,⟨.struct,3,32,some (.agg #[.string ByteArray.empty,.int .i64 0,.int .i64 0]),[(0,1,some false),(1,1,some false),(2,1,some false)]⟩),
 (217,⟨.struct,3,48,some (.agg #[.string ByteArray.empty,.int .i64 0,.slice none 0 0]),[(0,1,some false),(1,1,some false),(2,1,some false)]⟩),
 (222,⟨.slice 279,1,24,some (.slice none 0 0),[]⟩),
 (225,⟨.struct,4,32,some (.agg #[.int .i64 0,.int .i64 0,.int .i64 0,.int .i64 0]),[(0,1,some false),(1,1,some false),(2,1,some false),(3,1,some false)]⟩),
 (232,⟨.struct,3,32,some (.agg #[.string ByteArray.empty,.int .i64 0,.int .i64 0]),[(0,1,some false),(1,1,some false),(2,1,some false)]⟩),
 (240,⟨.ptr,1,8,some (.pointer none),[]⟩),
 (279,⟨.struct,4,32,some (.agg #[.int .i64 0,.int .i64 0,.int .i64 0,.bool false]),[(0,1,some false),(1,1,some false),(2,1,some false),(3,1,some false)]⟩),
 (281,⟨.slice 3,1,24,some (.slice none 0 0),[]⟩),
 (319,⟨.slice 5,1,24,some (.slice none 0 0),[]⟩),
 (321,⟨.struct,4,40,some (.agg #[.string ByteArray.empty,.int .i64 0,.int .i64 0,.bool false]),[(0,1,some false),(1,1,some false),(2,1,some false),(3,1,some false)]⟩),
 (327,⟨.struct,4,40,some (.agg #[.string ByteArray.empty,.int .i64 0,.int .i64 0,.bool false]),[(0,1,some false),(1,1,some false),(2,1,some false),(3,1,some false)]⟩),
 (329,⟨.slice 386,1,24,some (.slice none 0 0),[]⟩),
 (331,⟨.struct,6,80,some (.agg #[.int .i64 0,.int .i64 0,.int .i64 0,.int .i64 0,.slice none 0 0,.slice none 0 0]),[(0,1,some false),(1,1,some false),(2,1,some false),(3,1,some false),(4,1,some false),(5,1,some false)]⟩),
 (348,⟨.slice 350,1,24,some (.slice none 0 0),[]⟩),
 (350,⟨.arr 2 2,2,16,some (.agg #[.int .i64 0,.int .i64 0]),[]⟩),
 (373,⟨.slice 377,1,24,some (.slice none 0 0),[]⟩),
 (377,⟨.struct,2,16,some (.agg #[.int .i64 0,.int .i64 0]),[(0,1,some false),(1,1,some false)]⟩),
 (386,⟨.struct,3,72,some (.agg #[.slice none 0 0,.slice none 0 0,.slice none 0 0]),[(0,1,some false),(1,1,some false),(2,1,some false)]⟩)]
theorem qk:TabOk Tryz.prog tab:=TabOk.mk (by kernel_rfl)
theorem rp {n:Nat} {Q:Exit→Act→World→Prop} {k:List It} {e:Env} {w:World} {all:Array Oper} {l:List Oper} {op:Op} {d t:Nat} {ps:String} {af:Array Edge} {v:Value}
  (h:pev tab e op=some v) (hn:Nat.blt d n=true) (hk:Run Tryz.prog n Q (.ops all l::k) ((d,v)::e) w):Run Tryz.prog n Q (.ops all (⟨some d,op,t,ps,af,none⟩::l)::k) e w:=r_p qk h hn hk
theorem dp {n:Nat} {Q:Exit→Act→World→Prop} {k:List It} {e:Env} {w:World} {all:Array Oper} {l:List Oper} {op:Op} {d t:Nat} {ps:String} {af:Array Edge} {v:Value}
  (h:pev tab e op=some v) (hn:Nat.blt d n=true) (hk:RunD Tryz.prog n Q k all w l ((d,v)::e)):RunD Tryz.prog n Q k all w (⟨some d,op,t,ps,af,none⟩::l) e:=d_p qk h hn hk
section
variable {P:Program} {n:Nat} {Q:Exit→Act→World→Prop} {k:List It} {e:Env} {w:World}
theorem zSR {i4:Nat} {o5:List Oper} {x3:Code} (h:Run P n Q (.ops o5.toArray o5::.code x3::k) e w):Run P n Q (.code (.seq (.region i4 o5.toArray false) x3)::k) e w:=qd6 <| qe0 h
theorem zKSR {i5:Nat} {o6:List Oper} {x4:Code} (h:Run P n Q (.ops o6.toArray o6::.code x4::k) e w):Run P n Q (.code .skip::.code (.seq (.region i5 o6.toArray false) x4)::k) e w:=qfI <| qd6 <| qe0 h
theorem zNSR {a1:Array Oper} {i5:Nat} {o6:List Oper} {x4:Code} (h:Run P n Q (.ops o6.toArray o6::.code x4::k) e w):Run P n Q (.ops a1 []::.code (.seq (.region i5 o6.toArray false) x4)::k) e w:=qdh <| qd6 <| qe0 h
theorem zKS {x3:Code} {x4:Code} (h:Run P n Q (.code x3::.code x4::k) e w):Run P n Q (.code .skip::.code (.seq x3 x4)::k) e w:=qfI <| qd6 h
theorem zNS {a1:Array Oper} {x3:Code} {x4:Code} (h:Run P n Q (.code x3::.code x4::k) e w):Run P n Q (.ops a1 []::.code (.seq x3 x4)::k) e w:=qdh <| qd6 h
theorem zNSS {a1:Array Oper} {x5:Code} {x6:Code} {x4:Code} (h:Run P n Q (.code x5::.code x6::.code x4::k) e w):Run P n Q (.ops a1 []::.code (.seq (.seq x5 x6) x4)::k) e w:=qdh <| qd6 <| qd6 h
theorem zKSB {i5:Nat} {x6:Code} {x4:Code} (h:Run P n Q (.code x6::.blk i5::.code x4::k) e w):Run P n Q (.code .skip::.code (.seq (.block i5 x6) x4)::k) e w:=qfI <| qd6 <| qj h
theorem zKSBSR {i5:Nat} {i9:Nat} {o10:List Oper} {x8:Code} {x4:Code} (h:Run P n Q (.ops o10.toArray o10::.code x8::.blk i5::.code x4::k) e w):Run P n Q (.code .skip::.code (.seq (.block i5 (.seq (.region i9 o10.toArray false) x8)) x4)::k) e w:=qfI <| qd6 <| qj <| qd6 <| qe0 h
theorem zSS {x4:Code} {x5:Code} {x3:Code} (h:Run P n Q (.code x4::.code x5::.code x3::k) e w):Run P n Q (.code (.seq (.seq x4 x5) x3)::k) e w:=qd6 <| qd6 h
theorem zKSS {x5:Code} {x6:Code} {x4:Code} (h:Run P n Q (.code x5::.code x6::.code x4::k) e w):Run P n Q (.code .skip::.code (.seq (.seq x5 x6) x4)::k) e w:=qfI <| qd6 <| qd6 h
end
section
variable {w0 w:World} {L:List Ch} {n:Nat} {Q:Exit→Act→World→Prop} {k k':List It} {e e':Env} {all:Array Oper} {l l':List Oper} {z:List Nat}
theorem X0 (m:Nat) (hh:xs tab n m [] k e [] []=some (k',e',z,z)) (hk:Run Tryz.prog n Q k' e' w):Run Tryz.prog n Q k e w:=((qlK (P:=Tryz.prog) (Q:=Q) (w:=w) qk m _ _ _ _ _ _ _ _ _ (fun _ h=>by cases h) rfl hh).2 rfl).2 hk
theorem Y0 (m:Nat) (hh:xd tab n all m [] l e [] []=some (l',e',z,z)) (hk:RunD Tryz.prog n Q k all w l' e'):RunD Tryz.prog n Q k all w l e:=((qn0 (P:=Tryz.prog) (Q:=Q) (k:=k) (w:=w) (all:=all) qk m _ _ _ _ _ _ _ _ _ (fun _ h=>by cases h) rfl hh).2 rfl).2 hk
theorem X1 (m:Nat) (i0:Nat) {b0 t0:Nat} {cs0:List Value} (h:SH w0 w L) (hh:(L[i0]?,xs tab n m [(b0,cs0)] k e [] [])=(some (Ch.box b0 cs0 t0),some (k',e',z,z))) (hk:Run Tryz.prog n Q k' e' w):Run Tryz.prog n Q k e w:=by
 simp only [Prod.mk.injEq] at hh
 exact ((qlK (P:=Tryz.prog) (Q:=Q) (w:=w) qk m _ _ _ _ _ _ _ _ _ (fun p hp=>by
  simp only [List.mem_cons,List.not_mem_nil,or_false] at hp
  rcases hp with rfl
  ·exact h.box i0 hh.1) rfl hh.2).2 rfl).2 hk
theorem Y1 (m:Nat) (i0:Nat) {b0 t0:Nat} {cs0:List Value} (h:SH w0 w L) (hh:(L[i0]?,xd tab n all m [(b0,cs0)] l e [] [])=(some (Ch.box b0 cs0 t0),some (l',e',z,z))) (hk:RunD Tryz.prog n Q k all w l' e'):RunD Tryz.prog n Q k all w l e:=by
 simp only [Prod.mk.injEq] at hh
 exact ((qn0 (P:=Tryz.prog) (Q:=Q) (k:=k) (w:=w) (all:=all) qk m _ _ _ _ _ _ _ _ _ (fun p hp=>by
  simp only [List.mem_cons,List.not_mem_nil,or_false] at hp
  rcases hp with rfl
  ·exact h.box i0 hh.1) rfl hh.2).2 rfl).2 hk
theorem X2 (m:Nat) (i0 i1:Nat) {b0 t0:Nat} {cs0:List Value} {b1 t1:Nat} {cs1:List Value} (h:SH w0 w L) (hh:(L[i0]?,L[i1]?,xs tab n m [(b0,cs0),(b1,cs1)] k e [] [])=(some (Ch.box b0 cs0 t0),some (Ch.box b1 cs1 t1),some (k',e',z,z))) (hk:Run Tryz.prog n Q k' e' w):Run Tryz.prog n Q k e w:=by
 simp only [Prod.mk.injEq] at hh
 exact ((qlK (P:=Tryz.prog) (Q:=Q) (w:=w) qk m _ _ _ _ _ _ _ _ _ (fun p hp=>by
  simp only [List.mem_cons,List.not_mem_nil,or_false] at hp
  rcases hp with rfl|rfl
  ·exact h.box i0 hh.1
  ·exact h.box i1 hh.2.1) rfl hh.2.2).2 rfl).2 hk
theorem X3 (m:Nat) (i0 i1 i2:Nat) {b0 t0:Nat} {cs0:List Value} {b1 t1:Nat} {cs1:List Value} {b2 t2:Nat} {cs2:List Value} (h:SH w0 w L) (hh:(L[i0]?,L[i1]?,L[i2]?,xs tab n m [(b0,cs0),(b1,cs1),(b2,cs2)] k e [] [])=(some (Ch.box b0 cs0 t0),some (Ch.box b1 cs1 t1),some (Ch.box b2 cs2 t2),some (k',e',z,z))) (hk:Run Tryz.prog n Q k' e' w):Run Tryz.prog n Q k e w:=by
 simp only [Prod.mk.injEq] at hh
 exact ((qlK (P:=Tryz.prog) (Q:=Q) (w:=w) qk m _ _ _ _ _ _ _ _ _ (fun p hp=>by
  simp only [List.mem_cons,List.not_mem_nil,or_false] at hp
  rcases hp with rfl|rfl|rfl
  ·exact h.box i0 hh.1
  ·exact h.box i1 hh.2.1
  ·exact h.box i2 hh.2.2.1) rfl hh.2.2.2).2 rfl).2 hk
end
section
variable {w0 w:World} {L:List Ch} {n:Nat} {Q:Exit→Act→World→Prop} {k:List It} {e:Env} {all:Array Oper} {l:List Oper}
theorem zp1 {op0:Op} {d0 t0:Nat} {s0:String} {f0:Array Edge} {v0:Value} (h:(pev tab (e) op0,Nat.blt d0 n)=(some v0,true)) (hk:Run Tryz.prog n Q (.ops all l::k) ((d0,v0)::e) w):Run Tryz.prog n Q (.ops all (⟨some d0,op0,t0,s0,f0,none⟩::l)::k) e w:=by
 have H:=h
 simp only [Prod.mk.injEq] at H
 exact rp (H.1) (H.2) (hk)
theorem zd1 {op0:Op} {d0 t0:Nat} {s0:String} {f0:Array Edge} {v0:Value} (h:(pev tab (e) op0,Nat.blt d0 n)=(some v0,true)) (hk:RunD Tryz.prog n Q k all w l ((d0,v0)::e)):RunD Tryz.prog n Q k all w (⟨some d0,op0,t0,s0,f0,none⟩::l) e:=by
 have H:=h
 simp only [Prod.mk.injEq] at H
 exact dp (H.1) (H.2) (hk)
theorem zp2 {op0:Op} {d0 t0:Nat} {s0:String} {f0:Array Edge} {v0:Value} {op1:Op} {d1 t1:Nat} {s1:String} {f1:Array Edge} {v1:Value} (h:(pev tab (e) op0,Nat.blt d0 n,pev tab ((d0,v0)::e) op1,Nat.blt d1 n)=(some v0,true,some v1,true)) (hk:Run Tryz.prog n Q (.ops all l::k) ((d1,v1)::(d0,v0)::e) w):Run Tryz.prog n Q (.ops all (⟨some d0,op0,t0,s0,f0,none⟩::⟨some d1,op1,t1,s1,f1,none⟩::l)::k) e w:=by
 have H:=h
 simp only [Prod.mk.injEq] at H
 exact rp (H.1) (H.2.1) (rp (H.2.2.1) (H.2.2.2) (hk))
theorem zd2 {op0:Op} {d0 t0:Nat} {s0:String} {f0:Array Edge} {v0:Value} {op1:Op} {d1 t1:Nat} {s1:String} {f1:Array Edge} {v1:Value} (h:(pev tab (e) op0,Nat.blt d0 n,pev tab ((d0,v0)::e) op1,Nat.blt d1 n)=(some v0,true,some v1,true)) (hk:RunD Tryz.prog n Q k all w l ((d1,v1)::(d0,v0)::e)):RunD Tryz.prog n Q k all w (⟨some d0,op0,t0,s0,f0,none⟩::⟨some d1,op1,t1,s1,f1,none⟩::l) e:=by
 have H:=h
 simp only [Prod.mk.injEq] at H
 exact dp (H.1) (H.2.1) (dp (H.2.2.1) (H.2.2.2) (hk))
theorem zp3 {op0:Op} {d0 t0:Nat} {s0:String} {f0:Array Edge} {v0:Value} {op1:Op} {d1 t1:Nat} {s1:String} {f1:Array Edge} {v1:Value} {op2:Op} {d2 t2:Nat} {s2:String} {f2:Array Edge} {v2:Value} (h:(pev tab (e) op0,Nat.blt d0 n,pev tab ((d0,v0)::e) op1,Nat.blt d1 n,pev tab ((d1,v1)::(d0,v0)::e) op2,Nat.blt d2 n)=(some v0,true,some v1,true,some v2,true)) (hk:Run Tryz.prog n Q (.ops all l::k) ((d2,v2)::(d1,v1)::(d0,v0)::e) w):Run Tryz.prog n Q (.ops all (⟨some d0,op0,t0,s0,f0,none⟩::⟨some d1,op1,t1,s1,f1,none⟩::⟨some d2,op2,t2,s2,f2,none⟩::l)::k) e w:=by
 have H:=h
 simp only [Prod.mk.injEq] at H
 exact rp (H.1) (H.2.1) (rp (H.2.2.1) (H.2.2.2.1) (rp (H.2.2.2.2.1) (H.2.2.2.2.2) (hk)))
theorem zd3 {op0:Op} {d0 t0:Nat} {s0:String} {f0:Array Edge} {v0:Value} {op1:Op} {d1 t1:Nat} {s1:String} {f1:Array Edge} {v1:Value} {op2:Op} {d2 t2:Nat} {s2:String} {f2:Array Edge} {v2:Value} (h:(pev tab (e) op0,Nat.blt d0 n,pev tab ((d0,v0)::e) op1,Nat.blt d1 n,pev tab ((d1,v1)::(d0,v0)::e) op2,Nat.blt d2 n)=(some v0,true,some v1,true,some v2,true)) (hk:RunD Tryz.prog n Q k all w l ((d2,v2)::(d1,v1)::(d0,v0)::e)):RunD Tryz.prog n Q k all w (⟨some d0,op0,t0,s0,f0,none⟩::⟨some d1,op1,t1,s1,f1,none⟩::⟨some d2,op2,t2,s2,f2,none⟩::l) e:=by
 have H:=h
 simp only [Prod.mk.injEq] at H
 exact dp (H.1) (H.2.1) (dp (H.2.2.1) (H.2.2.2.1) (dp (H.2.2.2.2.1) (H.2.2.2.2.2) (hk)))
theorem zp5 {op0:Op} {d0 t0:Nat} {s0:String} {f0:Array Edge} {v0:Value} {op1:Op} {d1 t1:Nat} {s1:String} {f1:Array Edge} {v1:Value} {op2:Op} {d2 t2:Nat} {s2:String} {f2:Array Edge} {v2:Value} {op3:Op} {d3 t3:Nat} {s3:String} {f3:Array Edge} {v3:Value} {op4:Op} {d4 t4:Nat} {s4:String} {f4:Array Edge} {v4:Value} (h:(pev tab (e) op0,Nat.blt d0 n,pev tab ((d0,v0)::e) op1,Nat.blt d1 n,pev tab ((d1,v1)::(d0,v0)::e) op2,Nat.blt d2 n,pev tab ((d2,v2)::(d1,v1)::(d0,v0)::e) op3,Nat.blt d3 n,pev tab ((d3,v3)::(d2,v2)::(d1,v1)::(d0,v0)::e) op4,Nat.blt d4 n)=(some v0,true,some v1,true,some v2,true,some v3,true,some v4,true)) (hk:Run Tryz.prog n Q (.ops all l::k) ((d4,v4)::(d3,v3)::(d2,v2)::(d1,v1)::(d0,v0)::e) w):Run Tryz.prog n Q (.ops all (⟨some d0,op0,t0,s0,f0,none⟩::⟨some d1,op1,t1,s1,f1,none⟩::⟨some d2,op2,t2,s2,f2,none⟩::⟨some d3,op3,t3,s3,f3,none⟩::⟨some d4,op4,t4,s4,f4,none⟩::l)::k) e w:=by
 have H:=h
 simp only [Prod.mk.injEq] at H
 exact rp (H.1) (H.2.1) (rp (H.2.2.1) (H.2.2.2.1) (rp (H.2.2.2.2.1) (H.2.2.2.2.2.1) (rp (H.2.2.2.2.2.2.1) (H.2.2.2.2.2.2.2.1) (rp (H.2.2.2.2.2.2.2.2.1) (H.2.2.2.2.2.2.2.2.2) (hk)))))
theorem zc (j:Nat) {d t ty:Nat} {x:Operand} {te:TE} {ps:String} {af:Array Edge} {v:Value} {b o:Nat} {cs:List Value} (h:CellsAt w b o cs) (hh:(opv e x,tab.get t,ld te cs j,Nat.blt d n)=(some (.pointer (some ⟨b,o+j,none⟩)),some te,some v,true))
  (hk:Run Tryz.prog n Q (.ops all l::k) ((d,v)::e) w):Run Tryz.prog n Q (.ops all (⟨some d,.load t x,ty,ps,af,none⟩::l)::k) e w:=by
 simp only [Prod.mk.injEq] at hh
 exact r_v (ql4 qk h (j:=j) hh.1 hh.2.1 hh.2.2.1) hh.2.2.2 hk
theorem zdc (j:Nat) {d t ty:Nat} {x:Operand} {te:TE} {ps:String} {af:Array Edge} {v:Value} {b o:Nat} {cs:List Value} (h:CellsAt w b o cs) (hh:(opv e x,tab.get t,ld te cs j,Nat.blt d n)=(some (.pointer (some ⟨b,o+j,none⟩)),some te,some v,true))
  (hk:RunD Tryz.prog n Q k all w l ((d,v)::e)):RunD Tryz.prog n Q k all w (⟨some d,.load t x,ty,ps,af,none⟩::l) e:=by
 simp only [Prod.mk.injEq] at hh
 exact d_v (fun _ hb=>ql4 qk (h.below hb) (j:=j) hh.1 hh.2.1 hh.2.2.1) hh.2.2.2 hk
theorem zx {x i:Operand} {t ty d el m:Nat} {te te1:TE} {ps:String} {af:Array Edge} {p:Option Addr} {ln c:Nat} {kd:IntKind} {iv:Int} {b o q:Nat} (hp:p=some ⟨b,o,none⟩) (hq:q=o+iv.toNat*m) (hlt:0≤iv∧iv<ln) (hh:(opv e x,opv e i,tab.get t,te.kind,tab.get el,te1.size,Nat.blt d n)=(some (.slice p ln c),some (.int kd iv),some te,TK.slice el,some te1,m,true)) (hk:Run Tryz.prog n Q (.ops all l::k) ((d,.pointer (some ⟨b,q,none⟩))::e) w):Run Tryz.prog n Q (.ops all (⟨some d,.indexAddr t x i,ty,ps,af,none⟩::l)::k) e w:=by
 simp only [Prod.mk.injEq] at hh
 exact r_v (qod qk hp hq hlt hh.1 hh.2.1 hh.2.2.1 hh.2.2.2.1 hh.2.2.2.2.1 hh.2.2.2.2.2.1) hh.2.2.2.2.2.2 hk
theorem zxe {x i:Operand} {t ty d el m:Nat} {te te1:TE} {ps:String} {af:Array Edge} {p:Option Addr} {ln c:Nat} {kd:IntKind} {iv:Int} {b o q:Nat} {α:Prop} (hp:p=some ⟨b,o,none⟩) (hq:q=o+iv.toNat*m) (hlt:0≤iv∧iv<ln∧α) (hh:(opv e x,opv e i,tab.get t,te.kind,tab.get el,te1.size,Nat.blt d n)=(some (.slice p ln c),some (.int kd iv),some te,TK.slice el,some te1,m,true)) (hk:Run Tryz.prog n Q (.ops all l::k) ((d,.pointer (some ⟨b,q,none⟩))::e) w):Run Tryz.prog n Q (.ops all (⟨some d,.indexAddr t x i,ty,ps,af,none⟩::l)::k) e w:=zx hp hq ⟨hlt.1,hlt.2.1⟩ hh hk
theorem zdx {x i:Operand} {t ty d el m:Nat} {te te1:TE} {ps:String} {af:Array Edge} {p:Option Addr} {ln c:Nat} {kd:IntKind} {iv:Int} {b o q:Nat} (hp:p=some ⟨b,o,none⟩) (hq:q=o+iv.toNat*m) (hlt:0≤iv∧iv<ln) (hh:(opv e x,opv e i,tab.get t,te.kind,tab.get el,te1.size,Nat.blt d n)=(some (.slice p ln c),some (.int kd iv),some te,TK.slice el,some te1,m,true)) (hk:RunD Tryz.prog n Q k all w l ((d,.pointer (some ⟨b,q,none⟩))::e)):RunD Tryz.prog n Q k all w (⟨some d,.indexAddr t x i,ty,ps,af,none⟩::l) e:=by
 simp only [Prod.mk.injEq] at hh
 exact d_v (fun _ _=>qod qk hp hq hlt hh.1 hh.2.1 hh.2.2.1 hh.2.2.2.1 hh.2.2.2.2.1 hh.2.2.2.2.2.1) hh.2.2.2.2.2.2 hk
theorem zdxe {x i:Operand} {t ty d el m:Nat} {te te1:TE} {ps:String} {af:Array Edge} {p:Option Addr} {ln c:Nat} {kd:IntKind} {iv:Int} {b o q:Nat} {α:Prop} (hp:p=some ⟨b,o,none⟩) (hq:q=o+iv.toNat*m) (hlt:0≤iv∧iv<ln∧α) (hh:(opv e x,opv e i,tab.get t,te.kind,tab.get el,te1.size,Nat.blt d n)=(some (.slice p ln c),some (.int kd iv),some te,TK.slice el,some te1,m,true)) (hk:RunD Tryz.prog n Q k all w l ((d,.pointer (some ⟨b,q,none⟩))::e)):RunD Tryz.prog n Q k all w (⟨some d,.indexAddr t x i,ty,ps,af,none⟩::l) e:=zdx hp hq ⟨hlt.1,hlt.2.1⟩ hh hk
theorem zs (i:Nat) {t ty:Nat} {ps:String} {af:Array Edge} {x v:Operand} {te:TE} {b j:Nat} {cs us cs':List Value} {t':TypeId} {u:Value} {L':List Ch} (h:SH w0 w L)
  (hh:(L[i]?,opv e x,opv e v,cellsL u,tab.get t,Nat.beq us.length te.size,Nat.ble (j+us.length) cs.length,ones us,splN cs j us,setN L i (Ch.box b cs' t'))=(some (Ch.box b cs t'),some (.pointer (some ⟨b,j,none⟩)),some u,us,some te,true,true,true,some cs',some L'))
  (hk:∀ w',SH w0 w' L'→Run Tryz.prog n Q (.ops all l::k) e w'):Run Tryz.prog n Q (.ops all (⟨none,.store t x v,ty,ps,af,none⟩::l)::k) e w:=by
 simp only [Prod.mk.injEq] at hh
 obtain ⟨h1,h2,h3,h4,h5,h6,h7,h8,h9,h10⟩:=hh
 subst h4
 have e1:=qke h9
 have e2:=qlM h10
 subst e1 e2
 exact qnm qk i h h1 h2 h3 h5 h6 h7 h8 hk
end
section
variable {P:Program} {fnc:Func} {R:Ending→World→Prop} {n:Nat} {k:List It} {e:Env} {w0 w:World} {ops:Array Oper} {st:List Nat} {fuel:Nat}
theorem M0 (K:Nat) (is:List Nat) {C:World→Prop} {m K0 f f':Nat} {e':Env} {z:List Nat} (hC:C w) (hh:xa tab n ops is [] f e [] []=some (f',e',z,z))
  (hk:RunA Tryz.prog n (bodyPost Tryz.prog fnc R) k ops st C f' (bits m K) e' w) (ho:oka ops st is (bits m K0) (bits m K)=true:=by kernel_rfl):RunA Tryz.prog n (bodyPost Tryz.prog fnc R) k ops st C f (bits m K0) e w:=by
 exact ((qmK (C:=C) (w:=w) (P:=Tryz.prog) qk hC is _ _ _ _ _ _ _ _ _ _ _ (fun _ h=>by cases h) rfl hh ho).2 rfl).2 hk
theorem G0 (K:Nat) (is:List Nat) {C:World→Prop} {m K0 f f':Nat} {e':Env} {z:List Nat} {all:Array Oper} (hC:C w) (hh:xa tab n ops is [] f e [] []=some (f',e',z,z))
  (hk:RunA Tryz.prog n (bodyPost Tryz.prog fnc R) k ops st C f' (bits m K) e' w) (ho:oka ops st is (bits m K0) (bits m K)=true:=by kernel_rfl):Run Tryz.prog n (bodyPost Tryz.prog fnc R) (.ops all []::.goal (NextA Tryz.prog n (bodyPost Tryz.prog fnc R) k ops st C f (bits m K0))::k) e w :=
 Ag hC (M0 K is (C:=C) hC hh hk ho)
theorem M1 (K:Nat) (is:List Nat) (i0:Nat) {b0 t0:Nat} {cs0:List Value} {LA:List Ch} {m K0 f f':Nat} {e':Env} {z:List Nat} (hC:SH w0 w LA) (hh:(LA[i0]?,xa tab n ops is [(b0,cs0)] f e [] [])=(some (Ch.box b0 cs0 t0),some (f',e',z,z)))
  (hk:RunA Tryz.prog n (bodyPost Tryz.prog fnc R) k ops st (fun w'=>SH w0 w' LA) f' (bits m K) e' w) (ho:oka ops st is (bits m K0) (bits m K)=true:=by kernel_rfl):RunA Tryz.prog n (bodyPost Tryz.prog fnc R) k ops st (fun w'=>SH w0 w' LA) f (bits m K0) e w:=by
 simp only [Prod.mk.injEq] at hh
 exact ((qmK (C:=(fun w'=>SH w0 w' LA)) (w:=w) (P:=Tryz.prog) qk hC is _ _ _ _ _ _ _ _ _ _ _ (fun p hp w1 hw=>by
  simp only [List.mem_cons,List.not_mem_nil,or_false] at hp
  rcases hp with rfl
  ·exact SH.box hw i0 hh.1) rfl hh.2 ho).2 rfl).2 hk
theorem M2 (K:Nat) (is:List Nat) (i0 i1:Nat) {b0 t0:Nat} {cs0:List Value} {b1 t1:Nat} {cs1:List Value} {LA:List Ch} {m K0 f f':Nat} {e':Env} {z:List Nat} (hC:SH w0 w LA) (hh:(LA[i0]?,LA[i1]?,xa tab n ops is [(b0,cs0),(b1,cs1)] f e [] [])=(some (Ch.box b0 cs0 t0),some (Ch.box b1 cs1 t1),some (f',e',z,z)))
  (hk:RunA Tryz.prog n (bodyPost Tryz.prog fnc R) k ops st (fun w'=>SH w0 w' LA) f' (bits m K) e' w) (ho:oka ops st is (bits m K0) (bits m K)=true:=by kernel_rfl):RunA Tryz.prog n (bodyPost Tryz.prog fnc R) k ops st (fun w'=>SH w0 w' LA) f (bits m K0) e w:=by
 simp only [Prod.mk.injEq] at hh
 exact ((qmK (C:=(fun w'=>SH w0 w' LA)) (w:=w) (P:=Tryz.prog) qk hC is _ _ _ _ _ _ _ _ _ _ _ (fun p hp w1 hw=>by
  simp only [List.mem_cons,List.not_mem_nil,or_false] at hp
  rcases hp with rfl|rfl
  ·exact SH.box hw i0 hh.1
  ·exact SH.box hw i1 hh.2.1) rfl hh.2.2 ho).2 rfl).2 hk
theorem Aw (i K:Nat) {C:World→Prop} {m K0 d:Nat} {op:Op} {t:Nat} {ps:String} {af:Array Edge} {v:Value} (hv:∀ w',C w'→Val Tryz.prog n e ⟨some d,op,t,ps,af,none⟩ w' v) (hC:C w) (hh:(ops[i]?,Nat.blt d n)=(some (⟨some d,op,t,ps,af,none⟩:Oper),true))
  (hk:RunA Tryz.prog n (bodyPost Tryz.prog fnc R) k ops st C fuel (bits m K) ((d,v)::e) w) (hl:(bits m K0).setIfInBounds i true=bits m K:=by kernel_rfl)
  (hb:(Region.noSelect ops&&Region.free .any ops (bits m K0) i&&(Region.ready .any ops (bits m K0)).contains i&&st.all (fun s=>!(Nat.beq s i)&&waitsB ops i s&&!((bits m K0).getD s true)))=true:=by kernel_rfl) :
  RunA Tryz.prog n (bodyPost Tryz.prog fnc R) k ops st C (fuel+1) (bits m K0) e w:=by
 simp only [Prod.mk.injEq] at hh
 exact qjA i hh.1 _ hl hb hv hC hh.2 hk
theorem Al (i K j:Nat) {LA:List Ch} {m K0 d t ty b o:Nat} {x:Operand} {te:TE} {ps:String} {af:Array Edge} {v:Value} {cs:List Value} (hc:CellsAt w0 b o cs) (hC:SH w0 w LA)
  (hh:(ops[i]?,opv e x,tab.get t,ld te cs j,Nat.blt d n)=(some (⟨some d,.load t x,ty,ps,af,none⟩:Oper),some (.pointer (some ⟨b,o+j,none⟩)),some te,some v,true))
  (hk:RunA Tryz.prog n (bodyPost Tryz.prog fnc R) k ops st (fun w'=>SH w0 w' LA) fuel (bits m K) ((d,v)::e) w) (hl:(bits m K0).setIfInBounds i true=bits m K:=by kernel_rfl)
  (hb:(Region.noSelect ops&&Region.free .any ops (bits m K0) i&&(Region.ready .any ops (bits m K0)).contains i&&st.all (fun s=>!(Nat.beq s i)&&waitsB ops i s&&!((bits m K0).getD s true)))=true:=by kernel_rfl) :
  RunA Tryz.prog n (bodyPost Tryz.prog fnc R) k ops st (fun w'=>SH w0 w' LA) (fuel+1) (bits m K0) e w:=by
 simp only [Prod.mk.injEq] at hh
 exact qjA i hh.1 _ hl hb (fun w' hw=>ql4 qk (hc.below hw.below) (j:=j) hh.2.1 hh.2.2.1 hh.2.2.2.1) hC hh.2.2.2.2 hk
theorem Ax (i K:Nat) {C:World→Prop} {m K0 d t ty el q:Nat} {x ix:Operand} {te te1:TE} {ps:String} {af:Array Edge} {p:Option Addr} {ln c sz:Nat} {kd:IntKind} {iv:Int} {b o:Nat} (hp:p=some ⟨b,o,none⟩) (hq:q=o+iv.toNat*sz) (hlt:0≤iv∧iv<ln) (hC:C w)
  (hh:(ops[i]?,opv e x,opv e ix,tab.get t,te.kind,tab.get el,te1.size,Nat.blt d n)=(some (⟨some d,.indexAddr t x ix,ty,ps,af,none⟩:Oper),some (.slice p ln c),some (.int kd iv),some te,TK.slice el,some te1,sz,true))
  (hk:RunA Tryz.prog n (bodyPost Tryz.prog fnc R) k ops st C fuel (bits m K) ((d,.pointer (some ⟨b,q,none⟩))::e) w) (hl:(bits m K0).setIfInBounds i true=bits m K:=by kernel_rfl)
  (hb:(Region.noSelect ops&&Region.free .any ops (bits m K0) i&&(Region.ready .any ops (bits m K0)).contains i&&st.all (fun s=>!(Nat.beq s i)&&waitsB ops i s&&!((bits m K0).getD s true)))=true:=by kernel_rfl) :
  RunA Tryz.prog n (bodyPost Tryz.prog fnc R) k ops st C (fuel+1) (bits m K0) e w:=by
 simp only [Prod.mk.injEq] at hh
 exact qjA i hh.1 _ hl hb (fun w' _=>qod qk hp hq hlt hh.2.1 hh.2.2.1 hh.2.2.2.1 hh.2.2.2.2.1 hh.2.2.2.2.2.1 hh.2.2.2.2.2.2.1) hC hh.2.2.2.2.2.2.2 hk
theorem Ae (i K:Nat) {C:World→Prop} {m K0 d t ty el q:Nat} {x ix:Operand} {te te1:TE} {ps:String} {af:Array Edge} {p:Option Addr} {ln c sz:Nat} {kd:IntKind} {iv:Int} {b o:Nat} {α:Prop} (hp:p=some ⟨b,o,none⟩) (hq:q=o+iv.toNat*sz) (hlt:0≤iv∧iv<ln∧α) (hC:C w)
  (hh:(ops[i]?,opv e x,opv e ix,tab.get t,te.kind,tab.get el,te1.size,Nat.blt d n)=(some (⟨some d,.indexAddr t x ix,ty,ps,af,none⟩:Oper),some (.slice p ln c),some (.int kd iv),some te,TK.slice el,some te1,sz,true))
  (hk:RunA Tryz.prog n (bodyPost Tryz.prog fnc R) k ops st C fuel (bits m K) ((d,.pointer (some ⟨b,q,none⟩))::e) w) (hl:(bits m K0).setIfInBounds i true=bits m K:=by kernel_rfl)
  (hb:(Region.noSelect ops&&Region.free .any ops (bits m K0) i&&(Region.ready .any ops (bits m K0)).contains i&&st.all (fun s=>!(Nat.beq s i)&&waitsB ops i s&&!((bits m K0).getD s true)))=true:=by kernel_rfl) :
  RunA Tryz.prog n (bodyPost Tryz.prog fnc R) k ops st C (fuel+1) (bits m K0) e w:=Ax i K hp hq ⟨hlt.1,hlt.2.1⟩ hC hh hk hl hb
theorem rb {fn:Func} {L:List Ch} {x r:Bool} (h:SH w0 w L) (hF:some x=some r) (hr:res1 e fn.results.toList=some (.bool x)) :
  Run Tryz.prog n (bodyPost Tryz.prog fn fun e w'=>∃ v,e=.returned v∧Below w0.heap.size w0 w'∧∃ us,v=tup us∧GoVs.Vs w' (fresh w0 w') r us) (.code .ret::k) e w:=qoE qk h hF (qlL hr)
theorem ri {fn:Func} {L:List Ch} {x r:Int} (h:SH w0 w L) (hF:some x=some r) (hr:res1 e fn.results.toList=some (.int .i64 x)) :
  Run Tryz.prog n (bodyPost Tryz.prog fn fun e w'=>∃ v,e=.returned v∧Below w0.heap.size w0 w'∧∃ us,v=tup us∧GoVs.Vs w' (fresh w0 w') r us) (.code .ret::k) e w:=qoF qk h hF (qlL hr)
theorem rO {fn:Func} {L:List Ch} {α:Type} [GoT α] {r:α} {S:Nat→Prop} {cs:List Value} (i:Nat) (h:SH w0 w L) (hi:L[i]?=some (Ch.own S r cs)) (hr:ResOk tab e w fn.results.toList [GoT.v α cs]) :
  Run Tryz.prog n (bodyPost Tryz.prog fn fun e w'=>∃ v,e=.returned v∧Below w0.heap.size w0 w'∧∃ us,v=tup us∧GoVs.Vs w' (fresh w0 w') r us) (.code .ret::k) e w:=qcs qk _ h hr (PV.done h (qcP (qcp i h hi)))
theorem zV {ρ:Type} [GoVs ρ] {f:FuncId} {fn:Func} {c:Code} {vs:List Value} {r:ρ} (m:Nat) (hf:Tryz.prog.funcs[f]?=some fn) (hh:(fn.body,fn.ntmps,Nat.ble vs.length m)=(some c,m,true))
  (h:SH w w []→Run Tryz.prog m (bodyPost Tryz.prog fn fun e w'=>∃ v,e=.returned v∧Below w.heap.size w w'∧∃ us,v=tup us∧GoVs.Vs w' (fresh w w') r us) [.code c] (argEnv 0 vs) w):RetV Tryz.prog f vs w r:=by
 simp only [Prod.mk.injEq] at hh
 exact qk1 hf hh.1 hh.2.1 hh.2.2 h
end
section
variable {w0 w:World} {L:List Ch} {n:Nat} {Q:Exit→Act→World→Prop} {k:List It} {e:Env} {all:Array Oper} {l:List Oper} {d ty:Nat} {ps:String} {af:Array Edge} {x:Operand} {args:Array Operand} {ats:Array TypeId} {f:FuncId} {fi ca:Array Value} {av vs:List Value} {β:Type} {rr:β}
theorem zcI {F:Option Int} {g:Int→Option β} (h:SH w0 w L) (hF:F.bind g=some rr) (hc:∀ {r},F=some r→RetV Tryz.prog f vs w r)
  (hh:(opv e x,opvs e args.toList,fi.toList++av++ca.toList,Nat.blt d n)=(some (.func (.func f) fi ca),some av,vs,true))
  (hk:∀ r w' ,SH w0 w' (L)→g r=some rr→Run Tryz.prog n Q (.ops all l::k) ((d,.int .i64 r)::e) w') (hcall:qdi Tryz.prog f:=by exact cA rfl):Run Tryz.prog n Q (.ops all (⟨some d,.call ⟨.value x,args,ats⟩,ty,ps,af,none⟩::l)::k) e w:=by
 obtain ⟨r,hr,hF⟩:=qi hF
 simp only [Prod.mk.injEq] at hh
 exact qnS r h hcall (hc hr) hh.1 hh.2.1 hh.2.2.1 hh.2.2.2 (fun w'  h'=>hk r w'  h' hF)
theorem zcB {F:Option Bool} {g:Bool→Option β} (h:SH w0 w L) (hF:F.bind g=some rr) (hc:∀ {r},F=some r→RetV Tryz.prog f vs w r)
  (hh:(opv e x,opvs e args.toList,fi.toList++av++ca.toList,Nat.blt d n)=(some (.func (.func f) fi ca),some av,vs,true))
  (hk:∀ r w' ,SH w0 w' (L)→g r=some rr→Run Tryz.prog n Q (.ops all l::k) ((d,.bool r)::e) w') (hcall:qdi Tryz.prog f:=by exact cA rfl):Run Tryz.prog n Q (.ops all (⟨some d,.call ⟨.value x,args,ats⟩,ty,ps,af,none⟩::l)::k) e w:=by
 obtain ⟨r,hr,hF⟩:=qi hF
 simp only [Prod.mk.injEq] at hh
 exact qnG r h hcall (hc hr) hh.1 hh.2.1 hh.2.2.1 hh.2.2.2 (fun w'  h'=>hk r w'  h' hF)
theorem zcS {F:Option ByteArray} {g:ByteArray→Option β} (h:SH w0 w L) (hF:F.bind g=some rr) (hc:∀ {r},F=some r→RetV Tryz.prog f vs w r)
  (hh:(opv e x,opvs e args.toList,fi.toList++av++ca.toList,Nat.blt d n)=(some (.func (.func f) fi ca),some av,vs,true))
  (hk:∀ r w' ,SH w0 w' (L)→g r=some rr→Run Tryz.prog n Q (.ops all l::k) ((d,.string r)::e) w') (hcall:qdi Tryz.prog f:=by exact cA rfl):Run Tryz.prog n Q (.ops all (⟨some d,.call ⟨.value x,args,ats⟩,ty,ps,af,none⟩::l)::k) e w:=by
 obtain ⟨r,hr,hF⟩:=qi hF
 simp only [Prod.mk.injEq] at hh
 exact qnA r h hcall (hc hr) hh.1 hh.2.1 hh.2.2.1 hh.2.2.2 (fun w'  h'=>hk r w'  h' hF)
theorem zcL {α:Type} [GoT α] {F:Option (List α)} {g:(List α)→Option β} (h:SH w0 w L) (hF:F.bind g=some rr) (hc:∀ {r},F=some r→RetV Tryz.prog f vs w r)
  (hh:(opv e x,opvs e args.toList,fi.toList++av++ca.toList,Nat.blt d n)=(some (.func (.func f) fi ca),some av,vs,true))
  (hk:∀ r w' S p c,SH w0 w' (Ch.own S r [.slice p r.length c]::L)→g r=some rr→Run Tryz.prog n Q (.ops all l::k) ((d,.slice p r.length c)::e) w') (hcall:qdi Tryz.prog f:=by exact cA rfl):Run Tryz.prog n Q (.ops all (⟨some d,.call ⟨.value x,args,ats⟩,ty,ps,af,none⟩::l)::k) e w:=by
 obtain ⟨r,hr,hF⟩:=qi hF
 simp only [Prod.mk.injEq] at hh
 exact qlJ r h hcall (hc hr) hh.1 hh.2.1 hh.2.2.1 hh.2.2.2 (fun w' S p c h'=>hk r w' S p c h' hF)
theorem zcO {α:Type} [GoT α] {F:Option α} {g:α→Option β} (h:SH w0 w L) (hF:F.bind g=some rr) (hc:∀ {r},F=some r→RetV Tryz.prog f vs w r)
  (hh:(opv e x,opvs e args.toList,fi.toList++av++ca.toList,Nat.blt d n)=(some (.func (.func f) fi ca),some av,vs,true))
  (hk:∀ r w' S cs,SH w0 w' (Ch.own S r cs::L)→g r=some rr→Run Tryz.prog n Q (.ops all l::k) ((d,GoT.v α cs)::e) w') (hcall:qdi Tryz.prog f:=by exact cA rfl):Run Tryz.prog n Q (.ops all (⟨some d,.call ⟨.value x,args,ats⟩,ty,ps,af,none⟩::l)::k) e w:=by
 obtain ⟨r,hr,hF⟩:=qi hF
 simp only [Prod.mk.injEq] at hh
 exact qnJ r h hcall (hc hr) hh.1 hh.2.1 hh.2.2.1 hh.2.2.2 (fun w' S cs h'=>hk r w' S cs h' hF)
end
def noC:List Nat:=[0,1,302,331]
theorem allC:((List.range 337).all fun f=>noC.contains f || callB Tryz.prog f)=true:=by kernel_rfl
theorem cA {f:Nat} (h:(Nat.blt f 337&&!noC.contains f)=true):qdi Tryz.prog f:=by
 rw [jg,Nat.blt_eq,jA] at h
 have:=List.all_eq_true.1 allC f (List.mem_range.2 h.1)
 rw [h.2] at this
 exact qmv this
theorem cB (f:Nat) (h:(Nat.blt f 337&&!noC.contains f)=true):qdi Tryz.prog f:=cA h
def qaL (_:Nat) (a:(List Int)) (left:Int):Option Int :=
 bif decide ((W64 (left-(a.length:Int)))<0) then some (-1) else
 some (W64 (left-(a.length:Int)))
theorem qaD {a:(List Int)} {left:Int} (ha1:GoT.R w (old w) a cs1) {r:Int} (hF:qaL n a left=some r):RetV Tryz.prog 129 [GoT.v (List Int) cs1,.int .i64 left] w r:=by
 obtain ⟨p1,k1,rfl,s1⟩:=ha1
 refine zV 12 Tryz.func129 rfl fun h=>X0 18 rfl (qf rfl hF ?_ ?_)<;>intro hF
 ·exact X0 4 rfl (ri h hF rfl)
 exact X0 6 rfl (ri h hF rfl)
def qfA (_:Nat) (a:qI) (left:Int):Option Int :=
 bif decide ((W64 (left-(a.Ap.size:Int)))<0) then some (-1) else
 some (W64 (left-(a.Ap.size:Int)))
theorem qjD {a:qI} {left:Int} (ha1:GoT.R w (old w) a cs1) {r:Int} (hF:qfA n a left=some r):RetV Tryz.prog 250 [GoT.v qI cs1,.int .i64 left] w r:=by
 obtain rfl:=qax ha1
 refine zV 13 Tryz.func250 rfl fun h=>zSR (qy h rfl rfl fun w1 bb1 h=>X1 17 0 h rfl (qf rfl hF ?_ ?_))<;>intro hF
 ·exact X0 4 rfl (ri h hF rfl)
 exact X0 6 rfl (ri h hF rfl)
def qcJ (a:(List qI)):Nat→Int→Int→Option (Flow Int (Int × Int))
 | 0,_,_=>none
 | n+1,i1,i2 =>
  bif decide (i2<(a.length:Int)) then
   (idx a i2).bind fun y1 =>
   (qfA n y1 i1).bind fun r1 =>
   bif decide (r1<0) then some (.ret (-1)) else
   qcJ a n r1 (W64 (i2+1))
  else
   some (.nxt (i1,i2))
def qha (n:Nat) (a:(List qI)) (left:Int):Option Int :=
 bif decide ((W64 (left-(a.length:Int)))<0) then some (-1) else
 (qcJ a n (W64 (left-(a.length:Int))) 0).bind fun o=>match o with
 | .ret r=>some r
 | .nxt (i1,_) =>
  some i1
theorem qji {a:(List qI)} {left:Int} (ha1:GoT.R w (old w) a cs1) {r:Int} (hF:qha n a left=some r):RetV Tryz.prog 200 [GoT.v (List qI) cs1,.int .i64 left] w r:=by
 obtain ⟨p1,k1,rfl,s1⟩:=ha1
 refine zV 27 Tryz.func200 rfl fun h=>X0 18 rfl (qf rfl hF ?_ ?_)<;>intro hF
 ·exact X0 4 rfl (ri h hF rfl)
 refine X0 6 rfl ?_
 obtain ⟨o1,hF,hK1⟩:=qi hF
 refine qj (rL (fun m e w'=>∃ (i1:Int) (i2:Int),qcJ a m i1 i2=some o1∧e=[(0,.slice p1 a.length k1),(1,.int .i64 i1),(5,.int .i64 i2)]∧SH w w' []) n ⟨_,_,hF,rfl,h⟩ rfl ?_)
 rintro m1 e1 w1 ⟨i1,i2,hF,rfl,h⟩
 rcases m1 with _|m1
 ·cases hF
 refine X0 8 rfl (qf rfl hF ?_ ?_)<;>intro hF
 ·refine X0 7 rfl ?_
  obtain ⟨y1,hy1,hF,he1,b1,_,q1,cs2,hp1,hq1,hr1,hc3⟩:=s1.ix hF
  obtain rfl:=qax hr1
  refine zxe hp1 hq1 he1 rfl (zc 0 (hc3.below h.below) rfl (zp1 rfl (zcI h hF (qjD (qe2 y1)) rfl fun r1 w2 h hF=>X0 7 rfl (qf rfl hF ?_ ?_))))<;>intro hF
  ·refine X0 4 rfl ?_
   obtain rfl:=qa hF;replace hF:=hK1
   exact ri h hF rfl
  exact X0 7 rfl (rK ⟨_,_,hF,rfl,h⟩ rfl)
 refine qn rfl ?_
 obtain rfl:=qa hF;replace hF:=hK1
 exact X0 5 rfl (ri h hF rfl)
def qeq (n:Nat) (a:qb) (left:Int):Option Int :=
 (qaL n a.Ay left).bind fun r1 =>
 bif decide (r1<0) then some (-1) else
 (qaL n a.Aq r1).bind fun r2 =>
 bif decide (r2<0) then some (-1) else
 (qaL n a.Ab r2).bind fun r3 =>
 bif decide (r3<0) then some (-1) else
 some r3
theorem qiR {a:qb} {left:Int} (ha1:GoT.R w (old w) a cs1) {r:Int} (hF:qeq n a left=some r):RetV Tryz.prog 314 [GoT.v qb cs1,.int .i64 left] w r:=by
 obtain ⟨p1,k1,p2,k2,p3,k3,rfl,s1,s2,s3⟩:=qN ha1
 refine zV 24 Tryz.func314 rfl fun h=>zSR (qy h rfl rfl fun w1 bb1 h=>X1 7 0 h rfl (zcI h hF (qaD ⟨_,_,rfl,(h.oldS s1)⟩) rfl fun r1 w2 h hF=>X0 8 rfl (qf rfl hF ?_ ?_)))<;>intro hF
 ·exact X0 4 rfl (ri h hF rfl)
 refine X1 6 0 h rfl (zcI h hF (qaD ⟨_,_,rfl,(h.oldS s2)⟩) rfl fun r2 w3 h hF=>X0 8 rfl (qf rfl hF ?_ ?_))<;>intro hF
 ·exact X0 4 rfl (ri h hF rfl)
 refine X1 6 0 h rfl (zcI h hF (qaD ⟨_,_,rfl,(h.oldS s3)⟩) rfl fun r3 w4 h hF=>X0 8 rfl (qf rfl hF ?_ ?_))<;>intro hF
 ·exact X0 4 rfl (ri h hF rfl)
 exact X0 6 rfl (ri h hF rfl)
def qbX (a:(List qb)):Nat→Int→Int→Option (Flow Int (Int × Int))
 | 0,_,_=>none
 | n+1,i1,i2 =>
  bif decide (i2<(a.length:Int)) then
   (idx a i2).bind fun y1 =>
   (qeq n y1 i1).bind fun r1 =>
   bif decide (r1<0) then some (.ret (-1)) else
   qbX a n r1 (W64 (i2+1))
  else
   some (.nxt (i1,i2))
def qeD (n:Nat) (a:(List qb)) (left:Int):Option Int :=
 bif decide ((W64 (left-(a.length:Int)))<0) then some (-1) else
 (qbX a n (W64 (left-(a.length:Int))) 0).bind fun o=>match o with
 | .ret r=>some r
 | .nxt (i1,_) =>
  some i1
theorem qgi {a:(List qb)} {left:Int} (ha1:GoT.R w (old w) a cs1) {r:Int} (hF:qeD n a left=some r):RetV Tryz.prog 292 [GoT.v (List qb) cs1,.int .i64 left] w r:=by
 obtain ⟨p1,k1,rfl,s1⟩:=ha1
 refine zV 27 Tryz.func292 rfl fun h=>X0 18 rfl (qf rfl hF ?_ ?_)<;>intro hF
 ·exact X0 4 rfl (ri h hF rfl)
 refine X0 6 rfl ?_
 obtain ⟨o1,hF,hK1⟩:=qi hF
 refine qj (rL (fun m e w'=>∃ (i1:Int) (i2:Int),qbX a m i1 i2=some o1∧e=[(0,.slice p1 a.length k1),(1,.int .i64 i1),(5,.int .i64 i2)]∧SH w w' []) n ⟨_,_,hF,rfl,h⟩ rfl ?_)
 rintro m1 e1 w1 ⟨i1,i2,hF,rfl,h⟩
 rcases m1 with _|m1
 ·cases hF
 refine X0 8 rfl (qf rfl hF ?_ ?_)<;>intro hF
 ·refine X0 7 rfl ?_
  obtain ⟨y1,hy1,hF,he1,b1,_,q1,cs2,hp1,hq1,hr1,hc3⟩:=s1.ix hF
  obtain ⟨p2,k2,p3,k3,p4,k4,rfl,s2,s3,s4⟩:=qN hr1
  refine zxe hp1 hq1 he1 rfl (zc 0 (hc3.below h.below) rfl (zp1 rfl (zcI h hF (qiR (qdk y1 (h.oldS s2) (h.oldS s3) (h.oldS s4))) rfl fun r1 w2 h hF=>X0 7 rfl (qf rfl hF ?_ ?_))))<;>intro hF
  ·refine X0 4 rfl ?_
   obtain rfl:=qa hF;replace hF:=hK1
   exact ri h hF rfl
  exact X0 7 rfl (rK ⟨_,_,hF,rfl,h⟩ rfl)
 refine qn rfl ?_
 obtain rfl:=qa hF;replace hF:=hK1
 exact X0 5 rfl (ri h hF rfl)
def qfQ (n:Nat) (a:qE) (left:Int):Option Int :=
 (qeD n a.Au left).bind fun r1 =>
 bif decide (r1<0) then some (-1) else
 (qeD n a.Bb r1).bind fun r2 =>
 bif decide (r2<0) then some (-1) else
 some r2
theorem qjB {a:qE} {left:Int} (ha1:GoT.R w (old w) a cs1) {r:Int} (hF:qfQ n a left=some r):RetV Tryz.prog 251 [GoT.v qE cs1,.int .i64 left] w r:=by
 obtain ⟨p1,k1,p2,k2,rfl,s1,s2⟩:=qK ha1
 refine zV 18 Tryz.func251 rfl fun h=>zSR (qy h rfl rfl fun w1 bb1 h=>X1 7 0 h rfl (zcI h hF (qgi ⟨_,_,rfl,(h.oldS s1)⟩) rfl fun r1 w2 h hF=>X0 8 rfl (qf rfl hF ?_ ?_)))<;>intro hF
 ·exact X0 4 rfl (ri h hF rfl)
 refine X1 6 0 h rfl (zcI h hF (qgi ⟨_,_,rfl,(h.oldS s2)⟩) rfl fun r2 w3 h hF=>X0 8 rfl (qf rfl hF ?_ ?_))<;>intro hF
 ·exact X0 4 rfl (ri h hF rfl)
 exact X0 6 rfl (ri h hF rfl)
def qcz (a:(List qE)):Nat→Int→Int→Option (Flow Int (Int × Int))
 | 0,_,_=>none
 | n+1,i1,i2 =>
  bif decide (i2<(a.length:Int)) then
   (idx a i2).bind fun y1 =>
   (qfQ n y1 i1).bind fun r1 =>
   bif decide (r1<0) then some (.ret (-1)) else
   qcz a n r1 (W64 (i2+1))
  else
   some (.nxt (i1,i2))
def qg5 (n:Nat) (a:(List qE)) (left:Int):Option Int :=
 bif decide ((W64 (left-(a.length:Int)))<0) then some (-1) else
 (qcz a n (W64 (left-(a.length:Int))) 0).bind fun o=>match o with
 | .ret r=>some r
 | .nxt (i1,_) =>
  some i1
theorem qjo {a:(List qE)} {left:Int} (ha1:GoT.R w (old w) a cs1) {r:Int} (hF:qg5 n a left=some r):RetV Tryz.prog 201 [GoT.v (List qE) cs1,.int .i64 left] w r:=by
 obtain ⟨p1,k1,rfl,s1⟩:=ha1
 refine zV 27 Tryz.func201 rfl fun h=>X0 18 rfl (qf rfl hF ?_ ?_)<;>intro hF
 ·exact X0 4 rfl (ri h hF rfl)
 refine X0 6 rfl ?_
 obtain ⟨o1,hF,hK1⟩:=qi hF
 refine qj (rL (fun m e w'=>∃ (i1:Int) (i2:Int),qcz a m i1 i2=some o1∧e=[(0,.slice p1 a.length k1),(1,.int .i64 i1),(5,.int .i64 i2)]∧SH w w' []) n ⟨_,_,hF,rfl,h⟩ rfl ?_)
 rintro m1 e1 w1 ⟨i1,i2,hF,rfl,h⟩
 rcases m1 with _|m1
 ·cases hF
 refine X0 8 rfl (qf rfl hF ?_ ?_)<;>intro hF
 ·refine X0 7 rfl ?_
  obtain ⟨y1,hy1,hF,he1,b1,_,q1,cs2,hp1,hq1,hr1,hc3⟩:=s1.ix hF
  obtain ⟨p2,k2,p3,k3,rfl,s2,s3⟩:=qK hr1
  refine zxe hp1 hq1 he1 rfl (zc 0 (hc3.below h.below) rfl (zp1 rfl (zcI h hF (qjB (qdS y1 (h.oldS s2) (h.oldS s3))) rfl fun r1 w2 h hF=>X0 7 rfl (qf rfl hF ?_ ?_))))<;>intro hF
  ·refine X0 4 rfl ?_
   obtain rfl:=qa hF;replace hF:=hK1
   exact ri h hF rfl
  exact X0 7 rfl (rK ⟨_,_,hF,rfl,h⟩ rfl)
 refine qn rfl ?_
 obtain rfl:=qa hF;replace hF:=hK1
 exact X0 5 rfl (ri h hF rfl)
def qeY (n:Nat) (a:ql) (left:Int):Option Int :=
 bif decide ((W64 (left-(a.Ap.size:Int)))<0) then some (-1) else
 (qha n a.Am (W64 (left-(a.Ap.size:Int)))).bind fun r1 =>
 bif decide (r1<0) then some (-1) else
 (qg5 n a.Af r1).bind fun r2 =>
 bif decide (r2<0) then some (-1) else
 (qaL n a.Az r2).bind fun r3 =>
 bif decide (r3<0) then some (-1) else
 some r3
theorem qjn {a:ql} {left:Int} (ha1:GoT.R w (old w) a cs1) {r:Int} (hF:qeY n a left=some r):RetV Tryz.prog 126 [GoT.v ql cs1,.int .i64 left] w r:=by
 obtain ⟨p1,k1,p2,k2,p3,k3,rfl,s1,s2,s3⟩:=qD ha1
 refine zV 31 Tryz.func126 rfl fun h=>zSR (qy h rfl rfl fun w1 bb1 h=>X1 17 0 h rfl (qf rfl hF ?_ ?_))<;>intro hF
 ·exact X0 4 rfl (ri h hF rfl)
 refine X1 6 0 h rfl (zcI h hF (qji ⟨_,_,rfl,(h.oldS s1)⟩) rfl fun r1 w2 h hF=>X0 8 rfl (qf rfl hF ?_ ?_))<;>intro hF
 ·exact X0 4 rfl (ri h hF rfl)
 refine X1 6 0 h rfl (zcI h hF (qjo ⟨_,_,rfl,(h.oldS s2)⟩) rfl fun r2 w3 h hF=>X0 8 rfl (qf rfl hF ?_ ?_))<;>intro hF
 ·exact X0 4 rfl (ri h hF rfl)
 refine X1 6 0 h rfl (zcI h hF (qaD ⟨_,_,rfl,(h.oldS s3)⟩) rfl fun r3 w4 h hF=>X0 8 rfl (qf rfl hF ?_ ?_))<;>intro hF
 ·exact X0 4 rfl (ri h hF rfl)
 exact X0 6 rfl (ri h hF rfl)
def qcc (a:(List ql)):Nat→Int→Int→Option (Flow Int (Int × Int))
 | 0,_,_=>none
 | n+1,i1,i2 =>
  bif decide (i2<(a.length:Int)) then
   (idx a i2).bind fun y1 =>
   (qeY n y1 i1).bind fun r1 =>
   bif decide (r1<0) then some (.ret (-1)) else
   qcc a n r1 (W64 (i2+1))
  else
   some (.nxt (i1,i2))
def qgt (n:Nat) (a:(List ql)) (left:Int):Option Int :=
 bif decide ((W64 (left-(a.length:Int)))<0) then some (-1) else
 (qcc a n (W64 (left-(a.length:Int))) 0).bind fun o=>match o with
 | .ret r=>some r
 | .nxt (i1,_) =>
  some i1
theorem qiQ {a:(List ql)} {left:Int} (ha1:GoT.R w (old w) a cs1) {r:Int} (hF:qgt n a left=some r):RetV Tryz.prog 72 [GoT.v (List ql) cs1,.int .i64 left] w r:=by
 obtain ⟨p1,k1,rfl,s1⟩:=ha1
 refine zV 27 Tryz.func72 rfl fun h=>X0 18 rfl (qf rfl hF ?_ ?_)<;>intro hF
 ·exact X0 4 rfl (ri h hF rfl)
 refine X0 6 rfl ?_
 obtain ⟨o1,hF,hK1⟩:=qi hF
 refine qj (rL (fun m e w'=>∃ (i1:Int) (i2:Int),qcc a m i1 i2=some o1∧e=[(0,.slice p1 a.length k1),(1,.int .i64 i1),(5,.int .i64 i2)]∧SH w w' []) n ⟨_,_,hF,rfl,h⟩ rfl ?_)
 rintro m1 e1 w1 ⟨i1,i2,hF,rfl,h⟩
 rcases m1 with _|m1
 ·cases hF
 refine X0 8 rfl (qf rfl hF ?_ ?_)<;>intro hF
 ·refine X0 7 rfl ?_
  obtain ⟨y1,hy1,hF,he1,b1,_,q1,cs2,hp1,hq1,hr1,hc3⟩:=s1.ix hF
  obtain ⟨p2,k2,p3,k3,p4,k4,rfl,s2,s3,s4⟩:=qD hr1
  refine zxe hp1 hq1 he1 rfl (zc 0 (hc3.below h.below) rfl (zp1 rfl (zcI h hF (qjn (qft y1 (h.oldS s2) (h.oldS s3) (h.oldS s4))) rfl fun r1 w2 h hF=>X0 7 rfl (qf rfl hF ?_ ?_))))<;>intro hF
  ·refine X0 4 rfl ?_
   obtain rfl:=qa hF;replace hF:=hK1
   exact ri h hF rfl
  exact X0 7 rfl (rK ⟨_,_,hF,rfl,h⟩ rfl)
 refine qn rfl ?_
 obtain rfl:=qa hF;replace hF:=hK1
 exact X0 5 rfl (ri h hF rfl)
def qel (n:Nat) (a:qm) (left:Int):Option Int :=
 (qgt n a.Ai left).bind fun r1 =>
 bif decide (r1<0) then some (-1) else
 some r1
theorem qhT {a:qm} {left:Int} (ha1:GoT.R w (old w) a cs1) {r:Int} (hF:qel n a left=some r):RetV Tryz.prog 30 [GoT.v qm cs1,.int .i64 left] w r:=by
 obtain ⟨p1,k1,rfl,s1⟩:=qaK ha1
 refine zV 12 Tryz.func30 rfl fun h=>zSR (qy h rfl rfl fun w1 bb1 h=>X1 7 0 h rfl (zcI h hF (qiQ ⟨_,_,rfl,(h.oldS s1)⟩) rfl fun r1 w2 h hF=>X0 8 rfl (qf rfl hF ?_ ?_)))<;>intro hF
 ·exact X0 4 rfl (ri h hF rfl)
 exact X0 6 rfl (ri h hF rfl)
def qcY (n:Nat) (a:qd) (left:Int):Option Int :=
 bif decide ((W64 (left-(a.Ap.size:Int)))<0) then some (-1) else
 (qaL n a.Ah (W64 (left-(a.Ap.size:Int)))).bind fun r1 =>
 bif decide (r1<0) then some (-1) else
 some r1
theorem qhC {a:qd} {left:Int} (ha1:GoT.R w (old w) a cs1) {r:Int} (hF:qcY n a left=some r):RetV Tryz.prog 127 [GoT.v qd cs1,.int .i64 left] w r:=by
 obtain ⟨p1,k1,rfl,s1⟩:=qH ha1
 refine zV 19 Tryz.func127 rfl fun h=>zSR (qy h rfl rfl fun w1 bb1 h=>X1 17 0 h rfl (qf rfl hF ?_ ?_))<;>intro hF
 ·exact X0 4 rfl (ri h hF rfl)
 refine X1 6 0 h rfl (zcI h hF (qaD ⟨_,_,rfl,(h.oldS s1)⟩) rfl fun r1 w2 h hF=>X0 8 rfl (qf rfl hF ?_ ?_))<;>intro hF
 ·exact X0 4 rfl (ri h hF rfl)
 exact X0 6 rfl (ri h hF rfl)
def qa2 (a:(List qd)):Nat→Int→Int→Option (Flow Int (Int × Int))
 | 0,_,_=>none
 | n+1,i1,i2 =>
  bif decide (i2<(a.length:Int)) then
   (idx a i2).bind fun y1 =>
   (qcY n y1 i1).bind fun r1 =>
   bif decide (r1<0) then some (.ret (-1)) else
   qa2 a n r1 (W64 (i2+1))
  else
   some (.nxt (i1,i2))
def qez (n:Nat) (a:(List qd)) (left:Int):Option Int :=
 bif decide ((W64 (left-(a.length:Int)))<0) then some (-1) else
 (qa2 a n (W64 (left-(a.length:Int))) 0).bind fun o=>match o with
 | .ret r=>some r
 | .nxt (i1,_) =>
  some i1
theorem qhv {a:(List qd)} {left:Int} (ha1:GoT.R w (old w) a cs1) {r:Int} (hF:qez n a left=some r):RetV Tryz.prog 73 [GoT.v (List qd) cs1,.int .i64 left] w r:=by
 obtain ⟨p1,k1,rfl,s1⟩:=ha1
 refine zV 27 Tryz.func73 rfl fun h=>X0 18 rfl (qf rfl hF ?_ ?_)<;>intro hF
 ·exact X0 4 rfl (ri h hF rfl)
 refine X0 6 rfl ?_
 obtain ⟨o1,hF,hK1⟩:=qi hF
 refine qj (rL (fun m e w'=>∃ (i1:Int) (i2:Int),qa2 a m i1 i2=some o1∧e=[(0,.slice p1 a.length k1),(1,.int .i64 i1),(5,.int .i64 i2)]∧SH w w' []) n ⟨_,_,hF,rfl,h⟩ rfl ?_)
 rintro m1 e1 w1 ⟨i1,i2,hF,rfl,h⟩
 rcases m1 with _|m1
 ·cases hF
 refine X0 8 rfl (qf rfl hF ?_ ?_)<;>intro hF
 ·refine X0 7 rfl ?_
  obtain ⟨y1,hy1,hF,he1,b1,_,q1,cs2,hp1,hq1,hr1,hc3⟩:=s1.ix hF
  obtain ⟨p2,k2,rfl,s2⟩:=qH hr1
  refine zxe hp1 hq1 he1 rfl (zc 0 (hc3.below h.below) rfl (zp1 rfl (zcI h hF (qhC (qdO y1 (h.oldS s2))) rfl fun r1 w2 h hF=>X0 7 rfl (qf rfl hF ?_ ?_))))<;>intro hF
  ·refine X0 4 rfl ?_
   obtain rfl:=qa hF;replace hF:=hK1
   exact ri h hF rfl
  exact X0 7 rfl (rK ⟨_,_,hF,rfl,h⟩ rfl)
 refine qn rfl ?_
 obtain rfl:=qa hF;replace hF:=hK1
 exact X0 5 rfl (ri h hF rfl)
def qbv (a:(List ByteArray)):Nat→Int→Int→Option (Flow Int (Int × Int))
 | 0,_,_=>none
 | n+1,i1,i2 =>
  bif decide (i2<(a.length:Int)) then
   (idx a i2).bind fun y1 =>
   bif decide ((W64 (i1-(y1.size:Int)))<0) then some (.ret (-1)) else
   qbv a n (W64 (i1-(y1.size:Int))) (W64 (i2+1))
  else
   some (.nxt (i1,i2))
def qfL (n:Nat) (a:(List ByteArray)) (left:Int):Option Int :=
 bif decide ((W64 (left-(a.length:Int)))<0) then some (-1) else
 (qbv a n (W64 (left-(a.length:Int))) 0).bind fun o=>match o with
 | .ret r=>some r
 | .nxt (i1,_) =>
  some i1
theorem qh8 {a:(List ByteArray)} {left:Int} (ha1:GoT.R w (old w) a cs1) {r:Int} (hF:qfL n a left=some r):RetV Tryz.prog 74 [GoT.v (List ByteArray) cs1,.int .i64 left] w r:=by
 obtain ⟨p1,k1,rfl,s1⟩:=ha1
 refine zV 28 Tryz.func74 rfl fun h=>X0 18 rfl (qf rfl hF ?_ ?_)<;>intro hF
 ·exact X0 4 rfl (ri h hF rfl)
 refine X0 6 rfl ?_
 obtain ⟨o1,hF,hK1⟩:=qi hF
 refine qj (rL (fun m e w'=>∃ (i1:Int) (i2:Int),qbv a m i1 i2=some o1∧e=[(0,.slice p1 a.length k1),(1,.int .i64 i1),(5,.int .i64 i2)]∧SH w w' []) n ⟨_,_,hF,rfl,h⟩ rfl ?_)
 rintro m1 e1 w1 ⟨i1,i2,hF,rfl,h⟩
 rcases m1 with _|m1
 ·cases hF
 refine X0 8 rfl (qf rfl hF ?_ ?_)<;>intro hF
 ·refine X0 8 rfl ?_
  obtain ⟨y1,hy1,hF,he1,b1,_,q1,cs2,hp1,hq1,rfl,hc3⟩:=s1.ix hF
  refine zxe hp1 hq1 he1 rfl (zc 0 (hc3.below h.below) rfl (X0 9 rfl (qf rfl hF ?_ ?_)))<;>intro hF
  ·refine X0 4 rfl ?_
   obtain rfl:=qa hF;replace hF:=hK1
   exact ri h hF rfl
  exact X0 7 rfl (rK ⟨_,_,hF,rfl,h⟩ rfl)
 refine qn rfl ?_
 obtain rfl:=qa hF;replace hF:=hK1
 exact X0 5 rfl (ri h hF rfl)
def qeT (_:Nat) (a:qF) (left:Int):Option Int :=
 bif decide ((W64 (left-(a.Ap.size:Int)))<0) then some (-1) else
 some (W64 (left-(a.Ap.size:Int)))
theorem qjf {a:qF} {left:Int} (ha1:GoT.R w (old w) a cs1) {r:Int} (hF:qeT n a left=some r):RetV Tryz.prog 128 [GoT.v qF cs1,.int .i64 left] w r:=by
 obtain rfl:=qae ha1
 refine zV 13 Tryz.func128 rfl fun h=>zSR (qy h rfl rfl fun w1 bb1 h=>X1 17 0 h rfl (qf rfl hF ?_ ?_))<;>intro hF
 ·exact X0 4 rfl (ri h hF rfl)
 exact X0 6 rfl (ri h hF rfl)
def qb9 (a:(List qF)):Nat→Int→Int→Option (Flow Int (Int × Int))
 | 0,_,_=>none
 | n+1,i1,i2 =>
  bif decide (i2<(a.length:Int)) then
   (idx a i2).bind fun y1 =>
   (qeT n y1 i1).bind fun r1 =>
   bif decide (r1<0) then some (.ret (-1)) else
   qb9 a n r1 (W64 (i2+1))
  else
   some (.nxt (i1,i2))
def qgE (n:Nat) (a:(List qF)) (left:Int):Option Int :=
 bif decide ((W64 (left-(a.length:Int)))<0) then some (-1) else
 (qb9 a n (W64 (left-(a.length:Int))) 0).bind fun o=>match o with
 | .ret r=>some r
 | .nxt (i1,_) =>
  some i1
theorem qiD {a:(List qF)} {left:Int} (ha1:GoT.R w (old w) a cs1) {r:Int} (hF:qgE n a left=some r):RetV Tryz.prog 75 [GoT.v (List qF) cs1,.int .i64 left] w r:=by
 obtain ⟨p1,k1,rfl,s1⟩:=ha1
 refine zV 27 Tryz.func75 rfl fun h=>X0 18 rfl (qf rfl hF ?_ ?_)<;>intro hF
 ·exact X0 4 rfl (ri h hF rfl)
 refine X0 6 rfl ?_
 obtain ⟨o1,hF,hK1⟩:=qi hF
 refine qj (rL (fun m e w'=>∃ (i1:Int) (i2:Int),qb9 a m i1 i2=some o1∧e=[(0,.slice p1 a.length k1),(1,.int .i64 i1),(5,.int .i64 i2)]∧SH w w' []) n ⟨_,_,hF,rfl,h⟩ rfl ?_)
 rintro m1 e1 w1 ⟨i1,i2,hF,rfl,h⟩
 rcases m1 with _|m1
 ·cases hF
 refine X0 8 rfl (qf rfl hF ?_ ?_)<;>intro hF
 ·refine X0 7 rfl ?_
  obtain ⟨y1,hy1,hF,he1,b1,_,q1,cs2,hp1,hq1,hr1,hc3⟩:=s1.ix hF
  obtain rfl:=qae hr1
  refine zxe hp1 hq1 he1 rfl (zc 0 (hc3.below h.below) rfl (zp1 rfl (zcI h hF (qjf (qeC y1)) rfl fun r1 w2 h hF=>X0 7 rfl (qf rfl hF ?_ ?_))))<;>intro hF
  ·refine X0 4 rfl ?_
   obtain rfl:=qa hF;replace hF:=hK1
   exact ri h hF rfl
  exact X0 7 rfl (rK ⟨_,_,hF,rfl,h⟩ rfl)
 refine qn rfl ?_
 obtain rfl:=qa hF;replace hF:=hK1
 exact X0 5 rfl (ri h hF rfl)
def qeH (n:Nat) (a:qc) (left:Int):Option Int :=
 (qez n a.Aa left).bind fun r1 =>
 bif decide (r1<0) then some (-1) else
 (qfL n a.Ah r1).bind fun r2 =>
 bif decide (r2<0) then some (-1) else
 (qgE n a.Ac r2).bind fun r3 =>
 bif decide (r3<0) then some (-1) else
 some r3
theorem qil {a:qc} {left:Int} (ha1:GoT.R w (old w) a cs1) {r:Int} (hF:qeH n a left=some r):RetV Tryz.prog 31 [GoT.v qc cs1,.int .i64 left] w r:=by
 obtain ⟨p1,k1,p2,k2,p3,k3,rfl,s1,s2,s3⟩:=qX ha1
 refine zV 24 Tryz.func31 rfl fun h=>zSR (qy h rfl rfl fun w1 bb1 h=>X1 7 0 h rfl (zcI h hF (qhv ⟨_,_,rfl,(h.oldS s1)⟩) rfl fun r1 w2 h hF=>X0 8 rfl (qf rfl hF ?_ ?_)))<;>intro hF
 ·exact X0 4 rfl (ri h hF rfl)
 refine X1 6 0 h rfl (zcI h hF (qh8 ⟨_,_,rfl,(h.oldS s2)⟩) rfl fun r2 w3 h hF=>X0 8 rfl (qf rfl hF ?_ ?_))<;>intro hF
 ·exact X0 4 rfl (ri h hF rfl)
 refine X1 6 0 h rfl (zcI h hF (qiD ⟨_,_,rfl,(h.oldS s3)⟩) rfl fun r3 w4 h hF=>X0 8 rfl (qf rfl hF ?_ ?_))<;>intro hF
 ·exact X0 4 rfl (ri h hF rfl)
 exact X0 6 rfl (ri h hF rfl)
def qeV (n:Nat) (a:qz) (left:Int):Option Int :=
 (qaL n a.Aj left).bind fun r1 =>
 bif decide (r1<0) then some (-1) else
 (qaL n a.Bj r1).bind fun r2 =>
 bif decide (r2<0) then some (-1) else
 (qaL n a.Bg r2).bind fun r3 =>
 bif decide (r3<0) then some (-1) else
 (qaL n a.Bd r3).bind fun r4 =>
 bif decide (r4<0) then some (-1) else
 some r4
theorem qjq {a:qz} {left:Int} (ha1:GoT.R w (old w) a cs1) {r:Int} (hF:qeV n a left=some r):RetV Tryz.prog 76 [GoT.v qz cs1,.int .i64 left] w r:=by
 obtain ⟨p1,k1,p2,k2,p3,k3,p4,k4,rfl,s1,s2,s3,s4⟩:=qaO ha1
 refine zV 30 Tryz.func76 rfl fun h=>zSR (qy h rfl rfl fun w1 bb1 h=>X1 7 0 h rfl (zcI h hF (qaD ⟨_,_,rfl,(h.oldS s1)⟩) rfl fun r1 w2 h hF=>X0 8 rfl (qf rfl hF ?_ ?_)))<;>intro hF
 ·exact X0 4 rfl (ri h hF rfl)
 refine X1 6 0 h rfl (zcI h hF (qaD ⟨_,_,rfl,(h.oldS s2)⟩) rfl fun r2 w3 h hF=>X0 8 rfl (qf rfl hF ?_ ?_))<;>intro hF
 ·exact X0 4 rfl (ri h hF rfl)
 refine X1 6 0 h rfl (zcI h hF (qaD ⟨_,_,rfl,(h.oldS s3)⟩) rfl fun r3 w4 h hF=>X0 8 rfl (qf rfl hF ?_ ?_))<;>intro hF
 ·exact X0 4 rfl (ri h hF rfl)
 refine X1 6 0 h rfl (zcI h hF (qaD ⟨_,_,rfl,(h.oldS s4)⟩) rfl fun r4 w5 h hF=>X0 8 rfl (qf rfl hF ?_ ?_))<;>intro hF
 ·exact X0 4 rfl (ri h hF rfl)
 exact X0 6 rfl (ri h hF rfl)
def qb7 (a:(List qz)):Nat→Int→Int→Option (Flow Int (Int × Int))
 | 0,_,_=>none
 | n+1,i1,i2 =>
  bif decide (i2<(a.length:Int)) then
   (idx a i2).bind fun y1 =>
   (qeV n y1 i1).bind fun r1 =>
   bif decide (r1<0) then some (.ret (-1)) else
   qb7 a n r1 (W64 (i2+1))
  else
   some (.nxt (i1,i2))
def qgz (n:Nat) (a:(List qz)) (left:Int):Option Int :=
 bif decide ((W64 (left-(a.length:Int)))<0) then some (-1) else
 (qb7 a n (W64 (left-(a.length:Int))) 0).bind fun o=>match o with
 | .ret r=>some r
 | .nxt (i1,_) =>
  some i1
theorem qiM {a:(List qz)} {left:Int} (ha1:GoT.R w (old w) a cs1) {r:Int} (hF:qgz n a left=some r):RetV Tryz.prog 32 [GoT.v (List qz) cs1,.int .i64 left] w r:=by
 obtain ⟨p1,k1,rfl,s1⟩:=ha1
 refine zV 27 Tryz.func32 rfl fun h=>X0 18 rfl (qf rfl hF ?_ ?_)<;>intro hF
 ·exact X0 4 rfl (ri h hF rfl)
 refine X0 6 rfl ?_
 obtain ⟨o1,hF,hK1⟩:=qi hF
 refine qj (rL (fun m e w'=>∃ (i1:Int) (i2:Int),qb7 a m i1 i2=some o1∧e=[(0,.slice p1 a.length k1),(1,.int .i64 i1),(5,.int .i64 i2)]∧SH w w' []) n ⟨_,_,hF,rfl,h⟩ rfl ?_)
 rintro m1 e1 w1 ⟨i1,i2,hF,rfl,h⟩
 rcases m1 with _|m1
 ·cases hF
 refine X0 8 rfl (qf rfl hF ?_ ?_)<;>intro hF
 ·refine X0 7 rfl ?_
  obtain ⟨y1,hy1,hF,he1,b1,_,q1,cs2,hp1,hq1,hr1,hc3⟩:=s1.ix hF
  obtain ⟨p2,k2,p3,k3,p4,k4,p5,k5,rfl,s2,s3,s4,s5⟩:=qaO hr1
  refine zxe hp1 hq1 he1 rfl (zc 0 (hc3.below h.below) rfl (zp1 rfl (zcI h hF (qjq (qfv y1 (h.oldS s2) (h.oldS s3) (h.oldS s4) (h.oldS s5))) rfl fun r1 w2 h hF=>X0 7 rfl (qf rfl hF ?_ ?_))))<;>intro hF
  ·refine X0 4 rfl ?_
   obtain rfl:=qa hF;replace hF:=hK1
   exact ri h hF rfl
  exact X0 7 rfl (rK ⟨_,_,hF,rfl,h⟩ rfl)
 refine qn rfl ?_
 obtain rfl:=qa hF;replace hF:=hK1
 exact X0 5 rfl (ri h hF rfl)
def qfc (n:Nat) (a:qq) (left:Int):Option Int :=
 (qel n (⟨a.As.Ai⟩:qm) left).bind fun r1 =>
 bif decide (r1<0) then some (-1) else
 (qeH n (⟨a.Ak.Aa,a.Ak.Ah,a.Ak.Ac⟩:qc) r1).bind fun r2 =>
 bif decide (r2<0) then some (-1) else
 (qgz n a.At r2).bind fun r3 =>
 bif decide (r3<0) then some (-1) else
 some r3
theorem qiF {a:qq} {left:Int} (ha1:GoT.R w (old w) a cs1) {r:Int} (hF:qfc n a left=some r):RetV Tryz.prog 5 [GoT.v qq cs1,.int .i64 left] w r:=by
 obtain ⟨p1,k1,p2,k2,p3,k3,p4,k4,p5,k5,rfl,s1,s2,s3,s4,s5⟩:=qa7 ha1
 refine zV 24 Tryz.func5 rfl fun h=>zSR (qy h rfl rfl fun w1 bb1 h=>X1 7 0 h rfl (zcI h hF (qhT (qdB _ (h.oldS s1))) rfl fun r1 w2 h hF=>X0 8 rfl (qf rfl hF ?_ ?_)))<;>intro hF
 ·exact X0 4 rfl (ri h hF rfl)
 refine X1 6 0 h rfl (zcI h hF (qil (qci _ (h.oldS s2) (h.oldS s3) (h.oldS s4))) rfl fun r2 w3 h hF=>X0 8 rfl (qf rfl hF ?_ ?_))<;>intro hF
 ·exact X0 4 rfl (ri h hF rfl)
 refine X1 6 0 h rfl (zcI h hF (qiM ⟨_,_,rfl,(h.oldS s5)⟩) rfl fun r3 w4 h hF=>X0 8 rfl (qf rfl hF ?_ ?_))<;>intro hF
 ·exact X0 4 rfl (ri h hF rfl)
 exact X0 6 rfl (ri h hF rfl)
def qcy (a:(List Int)):Nat→(List Int)→Int→Option ((List Int) × Int)
 | 0,_,_=>none
 | n+1,x2,i1 =>
  bif decide (i1<(a.length:Int)) then
   (idx a i1).bind fun y1 =>
   (idx x2 i1).bind fun _ =>
   qcy a n (setS x2 i1 y1) (W64 (i1+1))
  else
   some (x2,i1)
def qaC (n:Nat) (a:(List Int)):Option (List Int) :=
 (mkS (a.length:Int) (0:Int)).bind fun x1 =>
 (qcy a n x1 0).bind fun o=>match o with
 | (x2,_) =>
  some x2
theorem qaE {a:(List Int)} (ha1:GoT.R w (old w) a cs1) {r:(List Int)} (hF:qaC n a=some r):RetV Tryz.prog 12 [GoT.v (List Int) cs1] w r:=by
 obtain ⟨p1,k1,rfl,s1⟩:=ha1
 refine zV 22 Tryz.func12 rfl fun h=>X0 8 rfl ?_
 obtain ⟨x1,hx1,hF⟩:=qi hF
 obtain ⟨g1,g2,hx1⟩:=qcj hx1
 refine qdF qk Int h rfl rfl rfl rfl rfl rfl rfl rfl rfl g1 g2 hx1 rfl fun w1 S1 p2 h=>X0 7 rfl ?_
 obtain ⟨o1,hF,hK1⟩:=qi hF
 refine qj (rL (fun m e w'=>∃ (x2:(List Int)) (i1:Int),qcy a m x2 i1=some o1∧e=[(0,.slice p1 a.length k1),(3,.slice p2 x1.length x1.length),(4,.int .i64 i1)]∧SH w w' [Ch.own S1 (x2:List Int) [.slice p2 x1.length x1.length]]) n ⟨_,_,hF,rfl,h⟩ rfl ?_)
 rintro m1 e1 w2 ⟨x2,i1,hF,rfl,h⟩
 rcases m1 with _|m1
 ·cases hF
 refine X0 8 rfl (qf rfl hF ?_ ?_)<;>intro hF
 ·refine X0 8 rfl ?_
  obtain ⟨y1,hy1,hF,he1,b1,_,q1,cs2,hp1,hq1,rfl,hc2⟩:=s1.ix hF
  refine zxe hp1 hq1 he1 rfl (zc 0 (hc2.below h.below) rfl ?_)
  obtain ⟨y2,hy2,hF,he2,b2,_,q2,cs3,hp2,hq2,rfl,hc3⟩:=(h.sl 0 rfl).1.ix hF
  exact zx hp2 hq2 ⟨he2.1,qbO he2.2.1 (h.sl 0 rfl).2⟩ rfl (qeL qk 0 0 y1 h rfl hy2 hp2 hq2 rfl hc3 rfl rfl rfl rfl rfl rfl rfl fun w3 h=>X0 7 rfl (rK ⟨_,_,hF,rfl,h⟩ rfl))
 refine qn rfl ?_
 obtain rfl:=qa hF;replace hF:=hK1
 refine X0 5 rfl ?_
 obtain rfl:=qa hF
 exact rO 0 h rfl ⟨rfl,trivial⟩
def qfS (_:Nat) (a:qI):Option qI :=
 some (⟨a.Ap,a.Bf,a.Bg,a.Av⟩:qI)
theorem qjF {a:qI} (ha1:GoT.R w (old w) a cs1) {r:qI} (hF:qfS n a=some r):RetV Tryz.prog 258 [GoT.v qI cs1] w r:=by
 obtain rfl:=qax ha1
 refine zV 17 Tryz.func258 rfl fun h=>zSR (qy h rfl rfl fun w1 bb1 h=>qJ qk h rfl rfl rfl fun w2 bb2 h=>zNSR (qJ qk h rfl rfl rfl fun w3 bb3 h=>X1 6 2 h rfl (zs 0 h rfl fun w4 h=>X1 6 2 h rfl (zs 0 h rfl fun w5 h=>X1 6 2 h rfl (zs 0 h rfl fun w6 h=>X1 6 2 h rfl (zs 0 h rfl fun w7 h=>X1 4 0 h rfl (zs 1 h rfl fun w8 h=>qdh ?_)))))))
 obtain rfl:=qa hF
 exact qcs qk (ρ:=qI) [GoT.v qI (qib a)] h ⟨⟨_,_,_,rfl,rfl,h.box 1 rfl,rfl⟩,trivial⟩ (PV.done h (qcP (qaJ (S:=fun _=>False) (qe2 (⟨a.Ap,a.Bf,a.Bg,a.Av⟩:qI)))))
def qdg (a:(List qI)):Nat→(List qI)→Int→Option ((List qI) × Int)
 | 0,_,_=>none
 | n+1,x2,i1 =>
  bif decide (i1<(a.length:Int)) then
   (idx a i1).bind fun y1 =>
   (qfS n y1).bind fun r1 =>
   (idx x2 i1).bind fun _ =>
   qdg a n (setS x2 i1 r1) (W64 (i1+1))
  else
   some (x2,i1)
def qfY (n:Nat) (a:(List qI)):Option (List qI) :=
 (mkS (a.length:Int) ((⟨ByteArray.empty,0,0,false⟩:qI):qI)).bind fun x1 =>
 (qdg a n x1 0).bind fun o=>match o with
 | (x2,_) =>
  some x2
theorem qjd {a:(List qI)} (ha1:GoT.R w (old w) a cs1) {r:(List qI)} (hF:qfY n a=some r):RetV Tryz.prog 207 [GoT.v (List qI) cs1] w r:=by
 obtain ⟨p1,k1,rfl,s1⟩:=ha1
 refine zV 23 Tryz.func207 rfl fun h=>X0 8 rfl ?_
 obtain ⟨x1,hx1,hF⟩:=qi hF
 obtain ⟨g1,g2,hx1⟩:=qcj hx1
 refine qdF qk qI h rfl rfl rfl rfl rfl rfl rfl rfl rfl g1 g2 hx1 rfl fun w1 S1 p2 h=>X0 7 rfl ?_
 obtain ⟨o1,hF,hK1⟩:=qi hF
 refine qj (rL (fun m e w'=>∃ (x2:(List qI)) (i1:Int),qdg a m x2 i1=some o1∧e=[(0,.slice p1 a.length k1),(3,.slice p2 x1.length x1.length),(4,.int .i64 i1)]∧SH w w' [Ch.own S1 (x2:List qI) [.slice p2 x1.length x1.length]]) n ⟨_,_,hF,rfl,h⟩ rfl ?_)
 rintro m1 e1 w2 ⟨x2,i1,hF,rfl,h⟩
 rcases m1 with _|m1
 ·cases hF
 refine X0 8 rfl (qf rfl hF ?_ ?_)<;>intro hF
 ·refine X0 8 rfl ?_
  obtain ⟨y1,hy1,hF,he1,b1,_,q1,cs2,hp1,hq1,hr1,hc2⟩:=s1.ix hF
  obtain rfl:=qax hr1
  refine zxe hp1 hq1 he1 rfl (zc 0 (hc2.below h.below) rfl (zcO h hF (qjF (qe2 y1)) rfl fun r1 w3 S2 cs3 h hF=>?_))
  obtain rfl:=qax (h.own 0 rfl)
  obtain ⟨y2,hy2,hF,he2,b2,_,q2,cs4,hp2,hq2,hr3,hc3⟩:=(h.sl 1 rfl).1.ix hF
  obtain rfl:=qax hr3
  refine zx hp2 hq2 ⟨he2.1,qbO he2.2.1 (h.sl 1 rfl).2⟩ rfl (qeL qk 1 0 r1 h rfl hy2 hp2 hq2 (qe2 y2) hc3 rfl rfl rfl (qe2 r1) rfl rfl rfl fun w4 h=>X0 7 rfl ?_)
  replace h:=h.pick [1] rfl
  exact rK ⟨_,_,hF,rfl,h⟩ rfl
 refine qn rfl ?_
 obtain rfl:=qa hF;replace hF:=hK1
 refine X0 5 rfl ?_
 obtain rfl:=qa hF
 exact rO 0 h rfl ⟨rfl,trivial⟩
def qey (n:Nat) (a:qb):Option qb :=
 (qaC n a.Ay).bind fun r1 =>
 (qaC n a.Aq).bind fun r2 =>
 (qaC n a.Ab).bind fun r3 =>
 some (⟨r1,r2,r3⟩:qb)
theorem qiJ {a:qb} (ha1:GoT.R w (old w) a cs1) {r:qb} (hF:qey n a=some r):RetV Tryz.prog 317 [GoT.v qb cs1] w r:=by
 obtain ⟨p1,k1,p2,k2,p3,k3,rfl,s1,s2,s3⟩:=qN ha1
 refine zV 17 Tryz.func317 rfl fun h=>zSR (qy h rfl rfl fun w1 bb1 h=>qJ qk h rfl rfl rfl fun w2 bb2 h=>zNSR (qJ qk h rfl rfl rfl fun w3 bb3 h=>X1 5 2 h rfl (zcL h hF (qaE ⟨_,_,rfl,(h.oldS s1)⟩) rfl fun r1 w4 S1 p4 k4 h hF=>zp1 rfl (zs 1 h rfl fun w5 h=>X1 5 3 h rfl (zcL h hF (qaE ⟨_,_,rfl,(h.oldS s2)⟩) rfl fun r2 w6 S2 p5 k5 h hF=>zp1 rfl (zs 2 h rfl fun w7 h=>X1 5 4 h rfl (zcL h hF (qaE ⟨_,_,rfl,(h.oldS s3)⟩) rfl fun r3 w8 S3 p6 k6 h hF=>zp1 rfl (zs 3 h rfl fun w9 h=>X1 4 3 h rfl (zs 4 h rfl fun w10 h=>qdh ?_)))))))))
 obtain rfl:=qa hF
 exact qcs qk (ρ:=qb) [GoT.v qb [.slice p4 r1.length k4,.slice p5 r2.length k5,.slice p6 r3.length k6]] h ⟨⟨_,_,_,rfl,rfl,h.box 4 rfl,rfl⟩,trivial⟩ (PV.done h (qcP (qmc (⟨r1,r2,r3⟩:qb) h (qcp 2 h rfl) (qcp 1 h rfl) (qcp 0 h rfl) (by rfl) (by rfl))))
def qcB (a:(List qb)):Nat→(List qb)→Int→Option ((List qb) × Int)
 | 0,_,_=>none
 | n+1,x2,i1 =>
  bif decide (i1<(a.length:Int)) then
   (idx a i1).bind fun y1 =>
   (qey n y1).bind fun r1 =>
   (idx x2 i1).bind fun _ =>
   qcB a n (setS x2 i1 r1) (W64 (i1+1))
  else
   some (x2,i1)
def qdN (n:Nat) (a:(List qb)):Option (List qb) :=
 (mkS (a.length:Int) ((⟨[],[],[]⟩:qb):qb)).bind fun x1 =>
 (qcB a n x1 0).bind fun o=>match o with
 | (x2,_) =>
  some x2
theorem qgl {a:(List qb)} (ha1:GoT.R w (old w) a cs1) {r:(List qb)} (hF:qdN n a=some r):RetV Tryz.prog 297 [GoT.v (List qb) cs1] w r:=by
 obtain ⟨p1,k1,rfl,s1⟩:=ha1
 refine zV 23 Tryz.func297 rfl fun h=>X0 8 rfl ?_
 obtain ⟨x1,hx1,hF⟩:=qi hF
 obtain ⟨g1,g2,hx1⟩:=qcj hx1
 refine qdF qk qb h rfl rfl rfl rfl rfl rfl rfl rfl rfl g1 g2 hx1 rfl fun w1 S1 p2 h=>X0 7 rfl ?_
 obtain ⟨o1,hF,hK1⟩:=qi hF
 refine qj (rL (fun m e w'=>∃ (S2:Nat→Prop) (x2:(List qb)) (i1:Int),qcB a m x2 i1=some o1∧e=[(0,.slice p1 a.length k1),(3,.slice p2 x1.length x1.length),(4,.int .i64 i1)]∧SH w w' [Ch.own S2 (x2:List qb) [.slice p2 x1.length x1.length]]) n ⟨_,_,_,hF,rfl,h⟩ rfl ?_)
 rintro m1 e1 w2 ⟨S2,x2,i1,hF,rfl,h⟩
 rcases m1 with _|m1
 ·cases hF
 refine X0 8 rfl (qf rfl hF ?_ ?_)<;>intro hF
 ·refine X0 8 rfl ?_
  obtain ⟨y1,hy1,hF,he1,b1,_,q1,cs2,hp1,hq1,hr1,hc2⟩:=s1.ix hF
  obtain ⟨p3,k2,p4,k3,p5,k4,rfl,s2,s3,s4⟩:=qN hr1
  refine zxe hp1 hq1 he1 rfl (zc 0 (hc2.below h.below) rfl (zcO h hF (qiJ (qdk y1 (h.oldS s2) (h.oldS s3) (h.oldS s4))) rfl fun r1 w3 S3 cs3 h hF=>?_))
  obtain ⟨p6,k5,p7,k6,p8,k7,rfl,-,-,-⟩:=qN (h.own 0 rfl)
  obtain ⟨y2,hy2,hF⟩:=qi hF
  have he2:=qdT hy2
  replace h:=h.lrn0 1 rfl
  obtain ⟨b2,o_2,q2,cs4,hp2,hq2,-,hr3,hc3⟩:=(qhy (h.lrnO 1 rfl)).1.at hy2
  have hr4:=hr3
  obtain ⟨p9,k8,p10,k9,p11,k10,rfl,s8,s9,s10⟩:=qN hr3
  replace h:=h.lrnAdd 1 rfl hr4
  refine zx hp2 hq2 ⟨he2.1,qbO he2.2.1 (qhy (h.lrnO 1 rfl)).2⟩ rfl ?_
  replace h:=h.unlrn 1 rfl
  exact qgW qk r1 h hy2 hp2 hq2 rfl rfl rfl rfl rfl fun w4 S4 h=>X0 7 rfl (rK ⟨_,_,_,hF,rfl,h⟩ rfl)
 refine qn rfl ?_
 obtain rfl:=qa hF;replace hF:=hK1
 refine X0 5 rfl ?_
 obtain rfl:=qa hF
 exact rO 0 h rfl ⟨rfl,trivial⟩
def qfG (n:Nat) (a:qE):Option qE :=
 (qdN n a.Au).bind fun r1 =>
 (qdN n a.Bb).bind fun r2 =>
 some (⟨a.Ar,a.Ba,a.To,a.Bc,r1,r2⟩:qE)
theorem qjI {a:qE} (ha1:GoT.R w (old w) a cs1) {r:qE} (hF:qfG n a=some r):RetV Tryz.prog 259 [GoT.v qE cs1] w r:=by
 obtain ⟨p1,k1,p2,k2,rfl,s1,s2⟩:=qK ha1
 refine zV 25 Tryz.func259 rfl fun h=>zSR (qy h rfl rfl fun w1 bb1 h=>qJ qk h rfl rfl rfl fun w2 bb2 h=>zNSR (qJ qk h rfl rfl rfl fun w3 bb3 h=>X1 6 2 h rfl (zs 0 h rfl fun w4 h=>X1 6 2 h rfl (zs 0 h rfl fun w5 h=>X1 6 2 h rfl (zs 0 h rfl fun w6 h=>X1 6 2 h rfl (zs 0 h rfl fun w7 h=>X1 5 2 h rfl (zcL h hF (qgl ⟨_,_,rfl,(h.oldS s1)⟩) rfl fun r1 w8 S1 p3 k3 h hF=>zp1 rfl (zs 1 h rfl fun w9 h=>X1 5 3 h rfl (zcL h hF (qgl ⟨_,_,rfl,(h.oldS s2)⟩) rfl fun r2 w10 S2 p4 k4 h hF=>zp1 rfl (zs 2 h rfl fun w11 h=>X1 4 2 h rfl (zs 3 h rfl fun w12 h=>qdh ?_)))))))))))
 obtain rfl:=qa hF
 exact qcs qk (ρ:=qE) [GoT.v qE [.int .i64 a.Ar,.int .i64 a.Ba,.int .i64 a.To,.int .i64 a.Bc,.slice p3 r1.length k3,.slice p4 r2.length k4]] h ⟨⟨_,_,_,rfl,rfl,h.box 3 rfl,rfl⟩,trivial⟩ (PV.done h (qcP (qnB (⟨a.Ar,a.Ba,a.To,a.Bc,r1,r2⟩:qE) h (qaJ (S:=fun _=>False) rfl) (qaJ (S:=fun _=>False) rfl) (qaJ (S:=fun _=>False) rfl) (qaJ (S:=fun _=>False) rfl) (qcp 1 h rfl) (qcp 0 h rfl) (by rfl) (by rfl) (by rfl) (by rfl) (by rfl))))
def qdj (a:(List qE)):Nat→(List qE)→Int→Option ((List qE) × Int)
 | 0,_,_=>none
 | n+1,x2,i1 =>
  bif decide (i1<(a.length:Int)) then
   (idx a i1).bind fun y1 =>
   (qfG n y1).bind fun r1 =>
   (idx x2 i1).bind fun _ =>
   qdj a n (setS x2 i1 r1) (W64 (i1+1))
  else
   some (x2,i1)
def qfX (n:Nat) (a:(List qE)):Option (List qE) :=
 (mkS (a.length:Int) ((⟨0,0,0,0,[],[]⟩:qE):qE)).bind fun x1 =>
 (qdj a n x1 0).bind fun o=>match o with
 | (x2,_) =>
  some x2
theorem qi7 {a:(List qE)} (ha1:GoT.R w (old w) a cs1) {r:(List qE)} (hF:qfX n a=some r):RetV Tryz.prog 208 [GoT.v (List qE) cs1] w r:=by
 obtain ⟨p1,k1,rfl,s1⟩:=ha1
 refine zV 23 Tryz.func208 rfl fun h=>X0 8 rfl ?_
 obtain ⟨x1,hx1,hF⟩:=qi hF
 obtain ⟨g1,g2,hx1⟩:=qcj hx1
 refine qdF qk qE h rfl rfl rfl rfl rfl rfl rfl rfl rfl g1 g2 hx1 rfl fun w1 S1 p2 h=>X0 7 rfl ?_
 obtain ⟨o1,hF,hK1⟩:=qi hF
 refine qj (rL (fun m e w'=>∃ (S2:Nat→Prop) (x2:(List qE)) (i1:Int),qdj a m x2 i1=some o1∧e=[(0,.slice p1 a.length k1),(3,.slice p2 x1.length x1.length),(4,.int .i64 i1)]∧SH w w' [Ch.own S2 (x2:List qE) [.slice p2 x1.length x1.length]]) n ⟨_,_,_,hF,rfl,h⟩ rfl ?_)
 rintro m1 e1 w2 ⟨S2,x2,i1,hF,rfl,h⟩
 rcases m1 with _|m1
 ·cases hF
 refine X0 8 rfl (qf rfl hF ?_ ?_)<;>intro hF
 ·refine X0 8 rfl ?_
  obtain ⟨y1,hy1,hF,he1,b1,_,q1,cs2,hp1,hq1,hr1,hc2⟩:=s1.ix hF
  obtain ⟨p3,k2,p4,k3,rfl,s2,s3⟩:=qK hr1
  refine zxe hp1 hq1 he1 rfl (zc 0 (hc2.below h.below) rfl (zcO h hF (qjI (qdS y1 (h.oldS s2) (h.oldS s3))) rfl fun r1 w3 S3 cs3 h hF=>?_))
  obtain ⟨p5,k4,p6,k5,rfl,-,-⟩:=qK (h.own 0 rfl)
  obtain ⟨y2,hy2,hF⟩:=qi hF
  have he2:=qdT hy2
  replace h:=h.lrn0 1 rfl
  obtain ⟨b2,o_2,q2,cs4,hp2,hq2,-,hr3,hc3⟩:=(qhy (h.lrnO 1 rfl)).1.at hy2
  have hr4:=hr3
  obtain ⟨p7,k6,p8,k7,rfl,s6,s7⟩:=qK hr3
  replace h:=h.lrnAdd 1 rfl hr4
  refine zx hp2 hq2 ⟨he2.1,qbO he2.2.1 (qhy (h.lrnO 1 rfl)).2⟩ rfl ?_
  replace h:=h.unlrn 1 rfl
  exact qgW qk r1 h hy2 hp2 hq2 rfl rfl rfl rfl rfl fun w4 S4 h=>X0 7 rfl (rK ⟨_,_,_,hF,rfl,h⟩ rfl)
 refine qn rfl ?_
 obtain rfl:=qa hF;replace hF:=hK1
 refine X0 5 rfl ?_
 obtain rfl:=qa hF
 exact rO 0 h rfl ⟨rfl,trivial⟩
def qeU (n:Nat) (a:ql):Option ql :=
 (qfY n a.Am).bind fun r1 =>
 (qfX n a.Af).bind fun r2 =>
 (qaC n a.Az).bind fun r3 =>
 some (⟨a.Ap,a.Ar,r1,r2,r3,a.Bo,a.Be⟩:ql)
theorem qjp {a:ql} (ha1:GoT.R w (old w) a cs1) {r:ql} (hF:qeU n a=some r):RetV Tryz.prog 143 [GoT.v ql cs1] w r:=by
 obtain ⟨p1,k1,p2,k2,p3,k3,rfl,s1,s2,s3⟩:=qD ha1
 refine zV 29 Tryz.func143 rfl fun h=>zSR (qy h rfl rfl fun w1 bb1 h=>qJ qk h rfl rfl rfl fun w2 bb2 h=>zNSR (qJ qk h rfl rfl rfl fun w3 bb3 h=>X1 6 2 h rfl (zs 0 h rfl fun w4 h=>X1 6 2 h rfl (zs 0 h rfl fun w5 h=>X1 5 2 h rfl (zcL h hF (qjd ⟨_,_,rfl,(h.oldS s1)⟩) rfl fun r1 w6 S1 p4 k4 h hF=>zp1 rfl (zs 1 h rfl fun w7 h=>X1 5 3 h rfl (zcL h hF (qi7 ⟨_,_,rfl,(h.oldS s2)⟩) rfl fun r2 w8 S2 p5 k5 h hF=>zp1 rfl (zs 2 h rfl fun w9 h=>X1 5 4 h rfl (zcL h hF (qaE ⟨_,_,rfl,(h.oldS s3)⟩) rfl fun r3 w10 S3 p6 k6 h hF=>zp1 rfl (zs 3 h rfl fun w11 h=>X1 6 5 h rfl (zs 3 h rfl fun w12 h=>X1 6 5 h rfl (zs 3 h rfl fun w13 h=>X1 4 3 h rfl (zs 4 h rfl fun w14 h=>qdh ?_)))))))))))))
 obtain rfl:=qa hF
 exact qcs qk (ρ:=ql) [GoT.v ql [.string a.Ap,.int .i64 a.Ar,.slice p4 r1.length k4,.slice p5 r2.length k5,.slice p6 r3.length k6,.int .i64 a.Bo,.int .i64 a.Be]] h ⟨⟨_,_,_,rfl,rfl,h.box 4 rfl,rfl⟩,trivial⟩ (PV.done h (qcP (qmL (⟨a.Ap,a.Ar,r1,r2,r3,a.Bo,a.Be⟩:ql) h (qaJ (S:=fun _=>False) rfl) (qaJ (S:=fun _=>False) rfl) (qcp 2 h rfl) (qcp 1 h rfl) (qcp 0 h rfl) (qaJ (S:=fun _=>False) rfl) (qaJ (S:=fun _=>False) rfl) (by rfl) (by rfl) (by rfl) (by rfl) (by rfl) (by rfl))))
def qcZ (a:(List ql)):Nat→(List ql)→Int→Option ((List ql) × Int)
 | 0,_,_=>none
 | n+1,x2,i1 =>
  bif decide (i1<(a.length:Int)) then
   (idx a i1).bind fun y1 =>
   (qeU n y1).bind fun r1 =>
   (idx x2 i1).bind fun _ =>
   qcZ a n (setS x2 i1 r1) (W64 (i1+1))
  else
   some (x2,i1)
def qfl (n:Nat) (a:(List ql)):Option (List ql) :=
 (mkS (a.length:Int) ((⟨ByteArray.empty,0,[],[],[],0,0⟩:ql):ql)).bind fun x1 =>
 (qcZ a n x1 0).bind fun o=>match o with
 | (x2,_) =>
  some x2
theorem qiO {a:(List ql)} (ha1:GoT.R w (old w) a cs1) {r:(List ql)} (hF:qfl n a=some r):RetV Tryz.prog 88 [GoT.v (List ql) cs1] w r:=by
 obtain ⟨p1,k1,rfl,s1⟩:=ha1
 refine zV 23 Tryz.func88 rfl fun h=>X0 8 rfl ?_
 obtain ⟨x1,hx1,hF⟩:=qi hF
 obtain ⟨g1,g2,hx1⟩:=qcj hx1
 refine qdF qk ql h rfl rfl rfl rfl rfl rfl rfl rfl rfl g1 g2 hx1 rfl fun w1 S1 p2 h=>X0 7 rfl ?_
 obtain ⟨o1,hF,hK1⟩:=qi hF
 refine qj (rL (fun m e w'=>∃ (S2:Nat→Prop) (x2:(List ql)) (i1:Int),qcZ a m x2 i1=some o1∧e=[(0,.slice p1 a.length k1),(3,.slice p2 x1.length x1.length),(4,.int .i64 i1)]∧SH w w' [Ch.own S2 (x2:List ql) [.slice p2 x1.length x1.length]]) n ⟨_,_,_,hF,rfl,h⟩ rfl ?_)
 rintro m1 e1 w2 ⟨S2,x2,i1,hF,rfl,h⟩
 rcases m1 with _|m1
 ·cases hF
 refine X0 8 rfl (qf rfl hF ?_ ?_)<;>intro hF
 ·refine X0 8 rfl ?_
  obtain ⟨y1,hy1,hF,he1,b1,_,q1,cs2,hp1,hq1,hr1,hc2⟩:=s1.ix hF
  obtain ⟨p3,k2,p4,k3,p5,k4,rfl,s2,s3,s4⟩:=qD hr1
  refine zxe hp1 hq1 he1 rfl (zc 0 (hc2.below h.below) rfl (zcO h hF (qjp (qft y1 (h.oldS s2) (h.oldS s3) (h.oldS s4))) rfl fun r1 w3 S3 cs3 h hF=>?_))
  obtain ⟨p6,k5,p7,k6,p8,k7,rfl,-,-,-⟩:=qD (h.own 0 rfl)
  obtain ⟨y2,hy2,hF⟩:=qi hF
  have he2:=qdT hy2
  replace h:=h.lrn0 1 rfl
  obtain ⟨b2,o_2,q2,cs4,hp2,hq2,-,hr3,hc3⟩:=(qhy (h.lrnO 1 rfl)).1.at hy2
  have hr4:=hr3
  obtain ⟨p9,k8,p10,k9,p11,k10,rfl,s8,s9,s10⟩:=qD hr3
  replace h:=h.lrnAdd 1 rfl hr4
  refine zx hp2 hq2 ⟨he2.1,qbO he2.2.1 (qhy (h.lrnO 1 rfl)).2⟩ rfl ?_
  replace h:=h.unlrn 1 rfl
  exact qgW qk r1 h hy2 hp2 hq2 rfl rfl rfl rfl rfl fun w4 S4 h=>X0 7 rfl (rK ⟨_,_,_,hF,rfl,h⟩ rfl)
 refine qn rfl ?_
 obtain rfl:=qa hF;replace hF:=hK1
 refine X0 5 rfl ?_
 obtain rfl:=qa hF
 exact rO 0 h rfl ⟨rfl,trivial⟩
def qeo (n:Nat) (a:qm):Option qm :=
 (qfl n a.Ai).bind fun r1 =>
 some (⟨r1⟩:qm)
theorem qh9 {a:qm} (ha1:GoT.R w (old w) a cs1) {r:qm} (hF:qeo n a=some r):RetV Tryz.prog 38 [GoT.v qm cs1] w r:=by
 obtain ⟨p1,k1,rfl,s1⟩:=qaK ha1
 refine zV 9 Tryz.func38 rfl fun h=>zSR (qy h rfl rfl fun w1 bb1 h=>qJ qk h rfl rfl rfl fun w2 bb2 h=>zNSR (qJ qk h rfl rfl rfl fun w3 bb3 h=>X1 5 2 h rfl (zcL h hF (qiO ⟨_,_,rfl,(h.oldS s1)⟩) rfl fun r1 w4 S1 p2 k2 h hF=>zp1 rfl (zs 1 h rfl fun w5 h=>X1 4 1 h rfl (zs 2 h rfl fun w6 h=>qdh ?_)))))
 obtain rfl:=qa hF
 exact qcs qk (ρ:=qm) [GoT.v qm [.slice p2 r1.length k2]] h ⟨⟨_,_,_,rfl,rfl,h.box 2 rfl,rfl⟩,trivial⟩ (PV.done h (qcP (qk0 (⟨r1⟩:qm) h (qcp 0 h rfl) )))
def qc5 (n:Nat) (a:qd):Option qd :=
 (qaC n a.Ah).bind fun r1 =>
 some (⟨a.Ap,a.Bh,r1⟩:qd)
theorem qhJ {a:qd} (ha1:GoT.R w (old w) a cs1) {r:qd} (hF:qc5 n a=some r):RetV Tryz.prog 144 [GoT.v qd cs1] w r:=by
 obtain ⟨p1,k1,rfl,s1⟩:=qH ha1
 refine zV 15 Tryz.func144 rfl fun h=>zSR (qy h rfl rfl fun w1 bb1 h=>qJ qk h rfl rfl rfl fun w2 bb2 h=>zNSR (qJ qk h rfl rfl rfl fun w3 bb3 h=>X1 6 2 h rfl (zs 0 h rfl fun w4 h=>X1 6 2 h rfl (zs 0 h rfl fun w5 h=>X1 5 2 h rfl (zcL h hF (qaE ⟨_,_,rfl,(h.oldS s1)⟩) rfl fun r1 w6 S1 p2 k2 h hF=>zp1 rfl (zs 1 h rfl fun w7 h=>X1 4 1 h rfl (zs 2 h rfl fun w8 h=>qdh ?_)))))))
 obtain rfl:=qa hF
 exact qcs qk (ρ:=qd) [GoT.v qd [.string a.Ap,.int .i64 a.Bh,.slice p2 r1.length k2]] h ⟨⟨_,_,_,rfl,rfl,h.box 2 rfl,rfl⟩,trivial⟩ (PV.done h (qcP (qkv (⟨a.Ap,a.Bh,r1⟩:qd) h (qaJ (S:=fun _=>False) rfl) (qaJ (S:=fun _=>False) rfl) (qcp 0 h rfl) (by rfl) (by rfl))))
def qbF (a:(List qd)):Nat→(List qd)→Int→Option ((List qd) × Int)
 | 0,_,_=>none
 | n+1,x2,i1 =>
  bif decide (i1<(a.length:Int)) then
   (idx a i1).bind fun y1 =>
   (qc5 n y1).bind fun r1 =>
   (idx x2 i1).bind fun _ =>
   qbF a n (setS x2 i1 r1) (W64 (i1+1))
  else
   some (x2,i1)
def qds (n:Nat) (a:(List qd)):Option (List qd) :=
 (mkS (a.length:Int) ((⟨ByteArray.empty,0,[]⟩:qd):qd)).bind fun x1 =>
 (qbF a n x1 0).bind fun o=>match o with
 | (x2,_) =>
  some x2
theorem qho {a:(List qd)} (ha1:GoT.R w (old w) a cs1) {r:(List qd)} (hF:qds n a=some r):RetV Tryz.prog 89 [GoT.v (List qd) cs1] w r:=by
 obtain ⟨p1,k1,rfl,s1⟩:=ha1
 refine zV 23 Tryz.func89 rfl fun h=>X0 8 rfl ?_
 obtain ⟨x1,hx1,hF⟩:=qi hF
 obtain ⟨g1,g2,hx1⟩:=qcj hx1
 refine qdF qk qd h rfl rfl rfl rfl rfl rfl rfl rfl rfl g1 g2 hx1 rfl fun w1 S1 p2 h=>X0 7 rfl ?_
 obtain ⟨o1,hF,hK1⟩:=qi hF
 refine qj (rL (fun m e w'=>∃ (S2:Nat→Prop) (x2:(List qd)) (i1:Int),qbF a m x2 i1=some o1∧e=[(0,.slice p1 a.length k1),(3,.slice p2 x1.length x1.length),(4,.int .i64 i1)]∧SH w w' [Ch.own S2 (x2:List qd) [.slice p2 x1.length x1.length]]) n ⟨_,_,_,hF,rfl,h⟩ rfl ?_)
 rintro m1 e1 w2 ⟨S2,x2,i1,hF,rfl,h⟩
 rcases m1 with _|m1
 ·cases hF
 refine X0 8 rfl (qf rfl hF ?_ ?_)<;>intro hF
 ·refine X0 8 rfl ?_
  obtain ⟨y1,hy1,hF,he1,b1,_,q1,cs2,hp1,hq1,hr1,hc2⟩:=s1.ix hF
  obtain ⟨p3,k2,rfl,s2⟩:=qH hr1
  refine zxe hp1 hq1 he1 rfl (zc 0 (hc2.below h.below) rfl (zcO h hF (qhJ (qdO y1 (h.oldS s2))) rfl fun r1 w3 S3 cs3 h hF=>?_))
  obtain ⟨p4,k3,rfl,-⟩:=qH (h.own 0 rfl)
  obtain ⟨y2,hy2,hF⟩:=qi hF
  have he2:=qdT hy2
  replace h:=h.lrn0 1 rfl
  obtain ⟨b2,o_2,q2,cs4,hp2,hq2,-,hr3,hc3⟩:=(qhy (h.lrnO 1 rfl)).1.at hy2
  have hr4:=hr3
  obtain ⟨p5,k4,rfl,s4⟩:=qH hr3
  replace h:=h.lrnAdd 1 rfl hr4
  refine zx hp2 hq2 ⟨he2.1,qbO he2.2.1 (qhy (h.lrnO 1 rfl)).2⟩ rfl ?_
  replace h:=h.unlrn 1 rfl
  exact qgW qk r1 h hy2 hp2 hq2 rfl rfl rfl rfl rfl fun w4 S4 h=>X0 7 rfl (rK ⟨_,_,_,hF,rfl,h⟩ rfl)
 refine qn rfl ?_
 obtain rfl:=qa hF;replace hF:=hK1
 refine X0 5 rfl ?_
 obtain rfl:=qa hF
 exact rO 0 h rfl ⟨rfl,trivial⟩
def qch (a:(List ByteArray)):Nat→(List ByteArray)→Int→Option ((List ByteArray) × Int)
 | 0,_,_=>none
 | n+1,x2,i1 =>
  bif decide (i1<(a.length:Int)) then
   (idx a i1).bind fun y1 =>
   (idx x2 i1).bind fun _ =>
   qch a n (setS x2 i1 y1) (W64 (i1+1))
  else
   some (x2,i1)
def qed (n:Nat) (a:(List ByteArray)):Option (List ByteArray) :=
 (mkS (a.length:Int) (ByteArray.empty:ByteArray)).bind fun x1 =>
 (qch a n x1 0).bind fun o=>match o with
 | (x2,_) =>
  some x2
theorem qhX {a:(List ByteArray)} (ha1:GoT.R w (old w) a cs1) {r:(List ByteArray)} (hF:qed n a=some r):RetV Tryz.prog 90 [GoT.v (List ByteArray) cs1] w r:=by
 obtain ⟨p1,k1,rfl,s1⟩:=ha1
 refine zV 22 Tryz.func90 rfl fun h=>X0 8 rfl ?_
 obtain ⟨x1,hx1,hF⟩:=qi hF
 obtain ⟨g1,g2,hx1⟩:=qcj hx1
 refine qdF qk ByteArray h rfl rfl rfl rfl rfl rfl rfl rfl rfl g1 g2 hx1 rfl fun w1 S1 p2 h=>X0 7 rfl ?_
 obtain ⟨o1,hF,hK1⟩:=qi hF
 refine qj (rL (fun m e w'=>∃ (x2:(List ByteArray)) (i1:Int),qch a m x2 i1=some o1∧e=[(0,.slice p1 a.length k1),(3,.slice p2 x1.length x1.length),(4,.int .i64 i1)]∧SH w w' [Ch.own S1 (x2:List ByteArray) [.slice p2 x1.length x1.length]]) n ⟨_,_,hF,rfl,h⟩ rfl ?_)
 rintro m1 e1 w2 ⟨x2,i1,hF,rfl,h⟩
 rcases m1 with _|m1
 ·cases hF
 refine X0 8 rfl (qf rfl hF ?_ ?_)<;>intro hF
 ·refine X0 8 rfl ?_
  obtain ⟨y1,hy1,hF,he1,b1,_,q1,cs2,hp1,hq1,rfl,hc2⟩:=s1.ix hF
  refine zxe hp1 hq1 he1 rfl (zc 0 (hc2.below h.below) rfl ?_)
  obtain ⟨y2,hy2,hF,he2,b2,_,q2,cs3,hp2,hq2,rfl,hc3⟩:=(h.sl 0 rfl).1.ix hF
  exact zx hp2 hq2 ⟨he2.1,qbO he2.2.1 (h.sl 0 rfl).2⟩ rfl (qeL qk 0 0 y1 h rfl hy2 hp2 hq2 rfl hc3 rfl rfl rfl rfl rfl rfl rfl fun w3 h=>X0 7 rfl (rK ⟨_,_,hF,rfl,h⟩ rfl))
 refine qn rfl ?_
 obtain rfl:=qa hF;replace hF:=hK1
 refine X0 5 rfl ?_
 obtain rfl:=qa hF
 exact rO 0 h rfl ⟨rfl,trivial⟩
def qeO (_:Nat) (a:qF):Option qF :=
 some (⟨a.Ap,a.Bf,a.Bi⟩:qF)
theorem qjc {a:qF} (ha1:GoT.R w (old w) a cs1) {r:qF} (hF:qeO n a=some r):RetV Tryz.prog 145 [GoT.v qF cs1] w r:=by
 obtain rfl:=qae ha1
 refine zV 14 Tryz.func145 rfl fun h=>zSR (qy h rfl rfl fun w1 bb1 h=>qJ qk h rfl rfl rfl fun w2 bb2 h=>zNSR (qJ qk h rfl rfl rfl fun w3 bb3 h=>X1 6 2 h rfl (zs 0 h rfl fun w4 h=>X1 6 2 h rfl (zs 0 h rfl fun w5 h=>X1 6 2 h rfl (zs 0 h rfl fun w6 h=>X1 4 0 h rfl (zs 1 h rfl fun w7 h=>qdh ?_))))))
 obtain rfl:=qa hF
 exact qcs qk (ρ:=qF) [GoT.v qF (qiU a)] h ⟨⟨_,_,_,rfl,rfl,h.box 1 rfl,rfl⟩,trivial⟩ (PV.done h (qcP (qaJ (S:=fun _=>False) (qeC (⟨a.Ap,a.Bf,a.Bi⟩:qF)))))
def qc6 (a:(List qF)):Nat→(List qF)→Int→Option ((List qF) × Int)
 | 0,_,_=>none
 | n+1,x2,i1 =>
  bif decide (i1<(a.length:Int)) then
   (idx a i1).bind fun y1 =>
   (qeO n y1).bind fun r1 =>
   (idx x2 i1).bind fun _ =>
   qc6 a n (setS x2 i1 r1) (W64 (i1+1))
  else
   some (x2,i1)
def qfn (n:Nat) (a:(List qF)):Option (List qF) :=
 (mkS (a.length:Int) ((⟨ByteArray.empty,0,0⟩:qF):qF)).bind fun x1 =>
 (qc6 a n x1 0).bind fun o=>match o with
 | (x2,_) =>
  some x2
theorem qiH {a:(List qF)} (ha1:GoT.R w (old w) a cs1) {r:(List qF)} (hF:qfn n a=some r):RetV Tryz.prog 91 [GoT.v (List qF) cs1] w r:=by
 obtain ⟨p1,k1,rfl,s1⟩:=ha1
 refine zV 23 Tryz.func91 rfl fun h=>X0 8 rfl ?_
 obtain ⟨x1,hx1,hF⟩:=qi hF
 obtain ⟨g1,g2,hx1⟩:=qcj hx1
 refine qdF qk qF h rfl rfl rfl rfl rfl rfl rfl rfl rfl g1 g2 hx1 rfl fun w1 S1 p2 h=>X0 7 rfl ?_
 obtain ⟨o1,hF,hK1⟩:=qi hF
 refine qj (rL (fun m e w'=>∃ (x2:(List qF)) (i1:Int),qc6 a m x2 i1=some o1∧e=[(0,.slice p1 a.length k1),(3,.slice p2 x1.length x1.length),(4,.int .i64 i1)]∧SH w w' [Ch.own S1 (x2:List qF) [.slice p2 x1.length x1.length]]) n ⟨_,_,hF,rfl,h⟩ rfl ?_)
 rintro m1 e1 w2 ⟨x2,i1,hF,rfl,h⟩
 rcases m1 with _|m1
 ·cases hF
 refine X0 8 rfl (qf rfl hF ?_ ?_)<;>intro hF
 ·refine X0 8 rfl ?_
  obtain ⟨y1,hy1,hF,he1,b1,_,q1,cs2,hp1,hq1,hr1,hc2⟩:=s1.ix hF
  obtain rfl:=qae hr1
  refine zxe hp1 hq1 he1 rfl (zc 0 (hc2.below h.below) rfl (zcO h hF (qjc (qeC y1)) rfl fun r1 w3 S2 cs3 h hF=>?_))
  obtain rfl:=qae (h.own 0 rfl)
  obtain ⟨y2,hy2,hF,he2,b2,_,q2,cs4,hp2,hq2,hr3,hc3⟩:=(h.sl 1 rfl).1.ix hF
  obtain rfl:=qae hr3
  refine zx hp2 hq2 ⟨he2.1,qbO he2.2.1 (h.sl 1 rfl).2⟩ rfl (qeL qk 1 0 r1 h rfl hy2 hp2 hq2 (qeC y2) hc3 rfl rfl rfl (qeC r1) rfl rfl rfl fun w4 h=>X0 7 rfl ?_)
  replace h:=h.pick [1] rfl
  exact rK ⟨_,_,hF,rfl,h⟩ rfl
 refine qn rfl ?_
 obtain rfl:=qa hF;replace hF:=hK1
 refine X0 5 rfl ?_
 obtain rfl:=qa hF
 exact rO 0 h rfl ⟨rfl,trivial⟩
def qeM (n:Nat) (a:qc):Option qc :=
 (qds n a.Aa).bind fun r1 =>
 (qed n a.Ah).bind fun r2 =>
 (qfn n a.Ac).bind fun r3 =>
 some (⟨r1,r2,r3⟩:qc)
theorem qiq {a:qc} (ha1:GoT.R w (old w) a cs1) {r:qc} (hF:qeM n a=some r):RetV Tryz.prog 39 [GoT.v qc cs1] w r:=by
 obtain ⟨p1,k1,p2,k2,p3,k3,rfl,s1,s2,s3⟩:=qX ha1
 refine zV 17 Tryz.func39 rfl fun h=>zSR (qy h rfl rfl fun w1 bb1 h=>qJ qk h rfl rfl rfl fun w2 bb2 h=>zNSR (qJ qk h rfl rfl rfl fun w3 bb3 h=>X1 5 2 h rfl (zcL h hF (qho ⟨_,_,rfl,(h.oldS s1)⟩) rfl fun r1 w4 S1 p4 k4 h hF=>zp1 rfl (zs 1 h rfl fun w5 h=>X1 5 3 h rfl (zcL h hF (qhX ⟨_,_,rfl,(h.oldS s2)⟩) rfl fun r2 w6 S2 p5 k5 h hF=>zp1 rfl (zs 2 h rfl fun w7 h=>X1 5 4 h rfl (zcL h hF (qiH ⟨_,_,rfl,(h.oldS s3)⟩) rfl fun r3 w8 S3 p6 k6 h hF=>zp1 rfl (zs 3 h rfl fun w9 h=>X1 4 3 h rfl (zs 4 h rfl fun w10 h=>qdh ?_)))))))))
 obtain rfl:=qa hF
 exact qcs qk (ρ:=qc) [GoT.v qc [.slice p4 r1.length k4,.slice p5 r2.length k5,.slice p6 r3.length k6]] h ⟨⟨_,_,_,rfl,rfl,h.box 4 rfl,rfl⟩,trivial⟩ (PV.done h (qcP (qll (⟨r1,r2,r3⟩:qc) h (qcp 2 h rfl) (qcp 1 h rfl) (qcp 0 h rfl) (by rfl) (by rfl))))
def qeQ (n:Nat) (a:qz):Option qz :=
 (qaC n a.Aj).bind fun r1 =>
 (qaC n a.Bj).bind fun r2 =>
 (qaC n a.Bg).bind fun r3 =>
 (qaC n a.Bd).bind fun r4 =>
 some (⟨r1,r2,r3,r4⟩:qz)
theorem qjw {a:qz} (ha1:GoT.R w (old w) a cs1) {r:qz} (hF:qeQ n a=some r):RetV Tryz.prog 92 [GoT.v qz cs1] w r:=by
 obtain ⟨p1,k1,p2,k2,p3,k3,p4,k4,rfl,s1,s2,s3,s4⟩:=qaO ha1
 refine zV 21 Tryz.func92 rfl fun h=>zSR (qy h rfl rfl fun w1 bb1 h=>qJ qk h rfl rfl rfl fun w2 bb2 h=>zNSR (qJ qk h rfl rfl rfl fun w3 bb3 h=>X1 5 2 h rfl (zcL h hF (qaE ⟨_,_,rfl,(h.oldS s1)⟩) rfl fun r1 w4 S1 p5 k5 h hF=>zp1 rfl (zs 1 h rfl fun w5 h=>X1 5 3 h rfl (zcL h hF (qaE ⟨_,_,rfl,(h.oldS s2)⟩) rfl fun r2 w6 S2 p6 k6 h hF=>zp1 rfl (zs 2 h rfl fun w7 h=>X1 5 4 h rfl (zcL h hF (qaE ⟨_,_,rfl,(h.oldS s3)⟩) rfl fun r3 w8 S3 p7 k7 h hF=>zp1 rfl (zs 3 h rfl fun w9 h=>X1 5 5 h rfl (zcL h hF (qaE ⟨_,_,rfl,(h.oldS s4)⟩) rfl fun r4 w10 S4 p8 k8 h hF=>zp1 rfl (zs 4 h rfl fun w11 h=>X1 4 4 h rfl (zs 5 h rfl fun w12 h=>qdh ?_)))))))))))
 obtain rfl:=qa hF
 exact qcs qk (ρ:=qz) [GoT.v qz [.slice p5 r1.length k5,.slice p6 r2.length k6,.slice p7 r3.length k7,.slice p8 r4.length k8]] h ⟨⟨_,_,_,rfl,rfl,h.box 5 rfl,rfl⟩,trivial⟩ (PV.done h (qcP (qne (⟨r1,r2,r3,r4⟩:qz) h (qcp 3 h rfl) (qcp 2 h rfl) (qcp 1 h rfl) (qcp 0 h rfl) (by rfl) (by rfl) (by rfl))))
def qc0 (a:(List qz)):Nat→(List qz)→Int→Option ((List qz) × Int)
 | 0,_,_=>none
 | n+1,x2,i1 =>
  bif decide (i1<(a.length:Int)) then
   (idx a i1).bind fun y1 =>
   (qeQ n y1).bind fun r1 =>
   (idx x2 i1).bind fun _ =>
   qc0 a n (setS x2 i1 r1) (W64 (i1+1))
  else
   some (x2,i1)
def qfi (n:Nat) (a:(List qz)):Option (List qz) :=
 (mkS (a.length:Int) ((⟨[],[],[],[]⟩:qz):qz)).bind fun x1 =>
 (qc0 a n x1 0).bind fun o=>match o with
 | (x2,_) =>
  some x2
theorem qiG {a:(List qz)} (ha1:GoT.R w (old w) a cs1) {r:(List qz)} (hF:qfi n a=some r):RetV Tryz.prog 40 [GoT.v (List qz) cs1] w r:=by
 obtain ⟨p1,k1,rfl,s1⟩:=ha1
 refine zV 23 Tryz.func40 rfl fun h=>X0 8 rfl ?_
 obtain ⟨x1,hx1,hF⟩:=qi hF
 obtain ⟨g1,g2,hx1⟩:=qcj hx1
 refine qdF qk qz h rfl rfl rfl rfl rfl rfl rfl rfl rfl g1 g2 hx1 rfl fun w1 S1 p2 h=>X0 7 rfl ?_
 obtain ⟨o1,hF,hK1⟩:=qi hF
 refine qj (rL (fun m e w'=>∃ (S2:Nat→Prop) (x2:(List qz)) (i1:Int),qc0 a m x2 i1=some o1∧e=[(0,.slice p1 a.length k1),(3,.slice p2 x1.length x1.length),(4,.int .i64 i1)]∧SH w w' [Ch.own S2 (x2:List qz) [.slice p2 x1.length x1.length]]) n ⟨_,_,_,hF,rfl,h⟩ rfl ?_)
 rintro m1 e1 w2 ⟨S2,x2,i1,hF,rfl,h⟩
 rcases m1 with _|m1
 ·cases hF
 refine X0 8 rfl (qf rfl hF ?_ ?_)<;>intro hF
 ·refine X0 8 rfl ?_
  obtain ⟨y1,hy1,hF,he1,b1,_,q1,cs2,hp1,hq1,hr1,hc2⟩:=s1.ix hF
  obtain ⟨p3,k2,p4,k3,p5,k4,p6,k5,rfl,s2,s3,s4,s5⟩:=qaO hr1
  refine zxe hp1 hq1 he1 rfl (zc 0 (hc2.below h.below) rfl (zcO h hF (qjw (qfv y1 (h.oldS s2) (h.oldS s3) (h.oldS s4) (h.oldS s5))) rfl fun r1 w3 S3 cs3 h hF=>?_))
  obtain ⟨p7,k6,p8,k7,p9,k8,p10,k9,rfl,-,-,-,-⟩:=qaO (h.own 0 rfl)
  obtain ⟨y2,hy2,hF⟩:=qi hF
  have he2:=qdT hy2
  replace h:=h.lrn0 1 rfl
  obtain ⟨b2,o_2,q2,cs4,hp2,hq2,-,hr3,hc3⟩:=(qhy (h.lrnO 1 rfl)).1.at hy2
  have hr4:=hr3
  obtain ⟨p11,k10,p12,k11,p13,k12,p14,k13,rfl,s10,s11,s12,s13⟩:=qaO hr3
  replace h:=h.lrnAdd 1 rfl hr4
  refine zx hp2 hq2 ⟨he2.1,qbO he2.2.1 (qhy (h.lrnO 1 rfl)).2⟩ rfl ?_
  replace h:=h.unlrn 1 rfl
  exact qgW qk r1 h hy2 hp2 hq2 rfl rfl rfl rfl rfl fun w4 S4 h=>X0 7 rfl (rK ⟨_,_,_,hF,rfl,h⟩ rfl)
 refine qn rfl ?_
 obtain rfl:=qa hF;replace hF:=hK1
 refine X0 5 rfl ?_
 obtain rfl:=qa hF
 exact rO 0 h rfl ⟨rfl,trivial⟩
def qdx (n:Nat) (a:qq):Option qq :=
 (qeo n (⟨a.As.Ai⟩:qm)).bind fun r1 =>
 (qeM n (⟨a.Ak.Aa,a.Ak.Ah,a.Ak.Ac⟩:qc)).bind fun r2 =>
 (qfi n a.At).bind fun r3 =>
 some (⟨r1,r2,r3⟩:qq)
theorem qe7 {a:qq} (ha1:GoT.R w (old w) a cs1) {r:qq} (hF:qdx n a=some r):RetV Tryz.prog 10 [GoT.v qq cs1] w r:=by
 obtain ⟨p1,k1,p2,k2,p3,k3,p4,k4,p5,k5,rfl,s1,s2,s3,s4,s5⟩:=qa7 ha1
 refine zV 17 Tryz.func10 rfl fun h=>zSR (qy h rfl rfl fun w1 bb1 h=>qJ qk h rfl rfl rfl fun w2 bb2 h=>zNSR (qJ qk h rfl rfl rfl fun w3 bb3 h=>X1 5 2 h rfl (zcO h hF (qh9 (qdB _ (h.oldS s1))) rfl fun r1 w4 S1 cs2 h hF=>?_)))
 obtain ⟨p6,k6,rfl,-⟩:=qaK (h.own 0 rfl)
 refine zp1 rfl (zs 1 h rfl fun w5 h=>X1 5 3 h rfl (zcO h hF (qiq (qci _ (h.oldS s2) (h.oldS s3) (h.oldS s4))) rfl fun r2 w6 S2 cs3 h hF=>?_))
 obtain ⟨p7,k7,p8,k8,p9,k9,rfl,-,-,-⟩:=qX (h.own 0 rfl)
 refine zp1 rfl (zs 2 h rfl fun w7 h=>X1 5 4 h rfl (zcL h hF (qiG ⟨_,_,rfl,(h.oldS s5)⟩) rfl fun r3 w8 S3 p10 k10 h hF=>zp1 rfl (zs 3 h rfl fun w9 h=>X1 4 3 h rfl (zs 4 h rfl fun w10 h=>qdh ?_))))
 obtain rfl:=qa hF
 exact qcs qk (ρ:=qq) [GoT.v qq [.slice p6 r1.Ai.length k6,.slice p7 r2.Aa.length k7,.slice p8 r2.Ah.length k8,.slice p9 r2.Ac.length k9,.slice p10 r3.length k10]] h ⟨⟨_,_,_,rfl,rfl,h.box 4 rfl,rfl⟩,trivial⟩ (PV.done h (qcP (qmk (⟨r1,r2,r3⟩:qq) h (qcp 2 h rfl) (qcp 1 h rfl) (qcp 0 h rfl) (by rfl) (by rfl))))
def qcI (a:(List Int)) (b:(List Int)):Nat→Int→Option (Flow Bool Int)
 | 0,_=>none
 | n+1,i1 =>
  bif decide (i1<(a.length:Int)) then
   (idx a i1).bind fun y1 =>
   (idx b i1).bind fun y2 =>
   bif (y1 != y2) then some (.ret false) else
   qcI a b n (W64 (i1+1))
  else
   some (.nxt i1)
def qaB (n:Nat) (a:(List Int)) (b:(List Int)):Option Bool :=
 bif ((a.length:Int) != (b.length:Int)) then some false else
 (qcI a b n 0).bind fun o=>match o with
 | .ret r=>some r
 | .nxt _ =>
  some true
theorem qaF {a:(List Int)} {b:(List Int)} (ha1:GoT.R w (old w) a cs1) (ha2:GoT.R w (old w) b cs2) {r:Bool} (hF:qaB n a b=some r):RetV Tryz.prog 17 [GoT.v (List Int) cs1,GoT.v (List Int) cs2] w r:=by
 obtain ⟨p1,k1,rfl,s1⟩:=ha1
 obtain ⟨p2,k2,rfl,s2⟩:=ha2
 refine zV 26 Tryz.func17 rfl fun h=>X0 13 rfl (qf rfl hF ?_ ?_)<;>intro hF
 ·exact X0 4 rfl (rb h hF rfl)
 refine X0 6 rfl ?_
 obtain ⟨o1,hF,hK1⟩:=qi hF
 refine qj (rL (fun m e w'=>∃ (i1:Int),qcI a b m i1=some o1∧e=[(0,.slice p1 a.length k1),(1,.slice p2 b.length k2),(5,.int .i64 i1)]∧SH w w' []) n ⟨_,hF,rfl,h⟩ rfl ?_)
 rintro m1 e1 w1 ⟨i1,hF,rfl,h⟩
 rcases m1 with _|m1
 ·cases hF
 refine X0 8 rfl (qf rfl hF ?_ ?_)<;>intro hF
 ·refine X0 4 rfl (rD (zd2 rfl ?_))
  obtain ⟨y1,hy1,hF,he1,b1,_,q1,cs3,hp1,hq1,rfl,hc3⟩:=s1.ix hF
  refine zdxe hp1 hq1 he1 rfl (zdc 0 (hc3.below h.below) rfl (zd2 rfl ?_))
  obtain ⟨y2,hy2,hF,he2,b2,_,q2,cs4,hp2,hq2,rfl,hc4⟩:=s2.ix hF
  refine zdxe hp2 hq2 he2 rfl (zdc 0 (hc4.below h.below) rfl (zd1 rfl (dN h fun w2 h=>qf rfl hF ?_ ?_)))<;>intro hF
  ·refine X0 4 rfl ?_
   obtain rfl:=qa hF;replace hF:=hK1
   exact rb h hF rfl
  exact X0 7 rfl (rK ⟨_,hF,rfl,h⟩ rfl)
 refine qn rfl ?_
 obtain rfl:=qa hF;replace hF:=hK1
 exact X0 4 rfl (rb h hF rfl)
def qfy (_:Nat) (a:qI) (b:qI):Option Bool :=
 bif (a.Ap.toList != b.Ap.toList) then some false else
 bif (a.Bf != b.Bf) then some false else
 bif (a.Bg != b.Bg) then some false else
 bif (!(a.Av==b.Av)) then some false else
 some true
theorem qjM {a:qI} {b:qI} (ha1:GoT.R w (old w) a cs1) (ha2:GoT.R w (old w) b cs2) {r:Bool} (hF:qfy n a b=some r):RetV Tryz.prog 283 [GoT.v qI cs1,GoT.v qI cs2] w r:=by
 obtain rfl:=qax ha1
 obtain rfl:=qax ha2
 refine zV 25 Tryz.func283 rfl fun h=>zSR (qy h rfl rfl fun w1 bb1 h=>qy h rfl rfl fun w2 bb2 h=>X2 11 1 0 h rfl (qf rfl hF ?_ ?_))<;>intro hF
 ·exact X0 4 rfl (rb h hF rfl)
 refine X2 10 1 0 h rfl (qf rfl hF ?_ ?_)<;>intro hF
 ·exact X0 4 rfl (rb h hF rfl)
 refine X2 10 1 0 h rfl (qf rfl hF ?_ ?_)<;>intro hF
 ·exact X0 4 rfl (rb h hF rfl)
 refine X2 10 1 0 h rfl (qf rfl hF ?_ ?_)<;>intro hF
 ·exact X0 4 rfl (rb h hF rfl)
 exact X0 5 rfl (rb h hF rfl)
def qdp (a:(List qI)) (b:(List qI)):Nat→Int→Option (Flow Bool Int)
 | 0,_=>none
 | n+1,i1 =>
  bif decide (i1<(a.length:Int)) then
   (idx a i1).bind fun y1 =>
   (idx b i1).bind fun y2 =>
   (qfy n y1 y2).bind fun r1 =>
   bif (!r1) then some (.ret false) else
   qdp a b n (W64 (i1+1))
  else
   some (.nxt i1)
def qf2 (n:Nat) (a:(List qI)) (b:(List qI)):Option Bool :=
 bif ((a.length:Int) != (b.length:Int)) then some false else
 (qdp a b n 0).bind fun o=>match o with
 | .ret r=>some r
 | .nxt _ =>
  some true
theorem qjb {a:(List qI)} {b:(List qI)} (ha1:GoT.R w (old w) a cs1) (ha2:GoT.R w (old w) b cs2) {r:Bool} (hF:qf2 n a b=some r):RetV Tryz.prog 240 [GoT.v (List qI) cs1,GoT.v (List qI) cs2] w r:=by
 obtain ⟨p1,k1,rfl,s1⟩:=ha1
 obtain ⟨p2,k2,rfl,s2⟩:=ha2
 refine zV 27 Tryz.func240 rfl fun h=>X0 13 rfl (qf rfl hF ?_ ?_)<;>intro hF
 ·exact X0 4 rfl (rb h hF rfl)
 refine X0 6 rfl ?_
 obtain ⟨o1,hF,hK1⟩:=qi hF
 refine qj (rL (fun m e w'=>∃ (i1:Int),qdp a b m i1=some o1∧e=[(0,.slice p1 a.length k1),(1,.slice p2 b.length k2),(5,.int .i64 i1)]∧SH w w' []) n ⟨_,hF,rfl,h⟩ rfl ?_)
 rintro m1 e1 w1 ⟨i1,hF,rfl,h⟩
 rcases m1 with _|m1
 ·cases hF
 refine X0 8 rfl (qf rfl hF ?_ ?_)<;>intro hF
 ·refine X0 4 rfl (rD (zd2 rfl ?_))
  obtain ⟨y1,hy1,hF,he1,b1,_,q1,cs3,hp1,hq1,hr1,hc3⟩:=s1.ix hF
  obtain rfl:=qax hr1
  refine zdxe hp1 hq1 he1 rfl (zdc 0 (hc3.below h.below) rfl (zd2 rfl ?_))
  obtain ⟨y2,hy2,hF,he2,b2,_,q2,cs4,hp2,hq2,hr2,hc4⟩:=s2.ix hF
  obtain rfl:=qax hr2
  refine zdxe hp2 hq2 he2 rfl (zdc 0 (hc4.below h.below) rfl ?_)
  obtain ⟨r1,hr3,hF⟩:=qi hF
  refine qbA r1 (vsB _) (cB 283 rfl) (fun _ hb=>qjM (qe2 y1) (qe2 y2) hr3) rfl rfl rfl rfl (zd1 rfl (dN h fun w2 h=>qf rfl hF ?_ ?_))<;>intro hF
  ·refine X0 4 rfl ?_
   obtain rfl:=qa hF;replace hF:=hK1
   exact rb h hF rfl
  exact X0 7 rfl (rK ⟨_,hF,rfl,h⟩ rfl)
 refine qn rfl ?_
 obtain rfl:=qa hF;replace hF:=hK1
 exact X0 4 rfl (rb h hF rfl)
def qef (n:Nat) (a:qb) (b:qb):Option Bool :=
 (qaB n a.Ay b.Ay).bind fun r1 =>
 bif (!r1) then some false else
 (qaB n a.Aq b.Aq).bind fun r2 =>
 bif (!r2) then some false else
 (qaB n a.Ab b.Ab).bind fun r3 =>
 bif (!r3) then some false else
 some true
theorem qiK {a:qb} {b:qb} (ha1:GoT.R w (old w) a cs1) (ha2:GoT.R w (old w) b cs2) {r:Bool} (hF:qef n a b=some r):RetV Tryz.prog 322 [GoT.v qb cs1,GoT.v qb cs2] w r:=by
 obtain ⟨p1,k1,p2,k2,p3,k3,rfl,s1,s2,s3⟩:=qN ha1
 obtain ⟨p4,k4,p5,k5,p6,k6,rfl,s4,s5,s6⟩:=qN ha2
 refine zV 23 Tryz.func322 rfl fun h=>zSR (qy h rfl rfl fun w1 bb1 h=>qy h rfl rfl fun w2 bb2 h=>X2 9 1 0 h rfl (zcB h hF (qaF ⟨_,_,rfl,(h.oldS s1)⟩ ⟨_,_,rfl,(h.oldS s4)⟩) rfl fun r1 w3 h hF=>X0 2 rfl (qf rfl hF ?_ ?_)))<;>intro hF
 ·exact X0 4 rfl (rb h hF rfl)
 refine X2 8 1 0 h rfl (zcB h hF (qaF ⟨_,_,rfl,(h.oldS s2)⟩ ⟨_,_,rfl,(h.oldS s5)⟩) rfl fun r2 w4 h hF=>X0 2 rfl (qf rfl hF ?_ ?_))<;>intro hF
 ·exact X0 4 rfl (rb h hF rfl)
 refine X2 8 1 0 h rfl (zcB h hF (qaF ⟨_,_,rfl,(h.oldS s3)⟩ ⟨_,_,rfl,(h.oldS s6)⟩) rfl fun r3 w5 h hF=>X0 2 rfl (qf rfl hF ?_ ?_))<;>intro hF
 ·exact X0 4 rfl (rb h hF rfl)
 exact X0 5 rfl (rb h hF rfl)
def qcM (a:(List qb)) (b:(List qb)):Nat→Int→Option (Flow Bool Int)
 | 0,_=>none
 | n+1,i1 =>
  bif decide (i1<(a.length:Int)) then
   (idx a i1).bind fun y1 =>
   (idx b i1).bind fun y2 =>
   (qef n y1 y2).bind fun r1 =>
   bif (!r1) then some (.ret false) else
   qcM a b n (W64 (i1+1))
  else
   some (.nxt i1)
def qdP (n:Nat) (a:(List qb)) (b:(List qb)):Option Bool :=
 bif ((a.length:Int) != (b.length:Int)) then some false else
 (qcM a b n 0).bind fun o=>match o with
 | .ret r=>some r
 | .nxt _ =>
  some true
theorem qgh {a:(List qb)} {b:(List qb)} (ha1:GoT.R w (old w) a cs1) (ha2:GoT.R w (old w) b cs2) {r:Bool} (hF:qdP n a b=some r):RetV Tryz.prog 305 [GoT.v (List qb) cs1,GoT.v (List qb) cs2] w r:=by
 obtain ⟨p1,k1,rfl,s1⟩:=ha1
 obtain ⟨p2,k2,rfl,s2⟩:=ha2
 refine zV 27 Tryz.func305 rfl fun h=>X0 13 rfl (qf rfl hF ?_ ?_)<;>intro hF
 ·exact X0 4 rfl (rb h hF rfl)
 refine X0 6 rfl ?_
 obtain ⟨o1,hF,hK1⟩:=qi hF
 refine qj (rL (fun m e w'=>∃ (i1:Int),qcM a b m i1=some o1∧e=[(0,.slice p1 a.length k1),(1,.slice p2 b.length k2),(5,.int .i64 i1)]∧SH w w' []) n ⟨_,hF,rfl,h⟩ rfl ?_)
 rintro m1 e1 w1 ⟨i1,hF,rfl,h⟩
 rcases m1 with _|m1
 ·cases hF
 refine X0 8 rfl (qf rfl hF ?_ ?_)<;>intro hF
 ·refine X0 4 rfl (rD (zd2 rfl ?_))
  obtain ⟨y1,hy1,hF,he1,b1,_,q1,cs3,hp1,hq1,hr1,hc3⟩:=s1.ix hF
  obtain ⟨p3,k3,p4,k4,p5,k5,rfl,s3,s4,s5⟩:=qN hr1
  refine zdxe hp1 hq1 he1 rfl (zdc 0 (hc3.below h.below) rfl (zd2 rfl ?_))
  obtain ⟨y2,hy2,hF,he2,b2,_,q2,cs4,hp2,hq2,hr2,hc4⟩:=s2.ix hF
  obtain ⟨p6,k6,p7,k7,p8,k8,rfl,s6,s7,s8⟩:=qN hr2
  refine zdxe hp2 hq2 he2 rfl (zdc 0 (hc4.below h.below) rfl ?_)
  obtain ⟨r1,hr3,hF⟩:=qi hF
  refine qbA r1 (vsB _) (cB 322 rfl) (fun _ hb=>qiK (qdk y1 ((h.ext hb).oldS s3) ((h.ext hb).oldS s4) ((h.ext hb).oldS s5)) (qdk y2 ((h.ext hb).oldS s6) ((h.ext hb).oldS s7) ((h.ext hb).oldS s8)) hr3) rfl rfl rfl rfl (zd1 rfl (dN h fun w2 h=>qf rfl hF ?_ ?_))<;>intro hF
  ·refine X0 4 rfl ?_
   obtain rfl:=qa hF;replace hF:=hK1
   exact rb h hF rfl
  exact X0 7 rfl (rK ⟨_,hF,rfl,h⟩ rfl)
 refine qn rfl ?_
 obtain rfl:=qa hF;replace hF:=hK1
 exact X0 4 rfl (rb h hF rfl)
end Go.Fw


namespace Go.Fw
open Go Go.Proofs
open Go.RowKit (Below)
set_option maxRecDepth 100000
set_option maxHeartbeats 1600000
variable {n:Nat} {w:World} {cs1 cs2 cs3 cs4 cs5 cs6 cs7 cs8 cs9:List Value}
def qfO (n:Nat) (a:qE) (b:qE):Option Bool :=
 bif (a.Ar != b.Ar) then some false else
 bif (a.Ba != b.Ba) then some false else
 bif (a.To != b.To) then some false else
 bif (a.Bc != b.Bc) then some false else
 (qdP n a.Au b.Au).bind fun r1 =>
 bif (!r1) then some false else
 (qdP n a.Bb b.Bb).bind fun r2 =>
 bif (!r2) then some false else
 some true
theorem qjL {a:qE} {b:qE} (ha1:GoT.R w (old w) a cs1) (ha2:GoT.R w (old w) b cs2) {r:Bool} (hF:qfO n a b=some r):RetV Tryz.prog 284 [GoT.v qE cs1,GoT.v qE cs2] w r:=by
 obtain ⟨p1,k1,p2,k2,rfl,s1,s2⟩:=qK ha1
 obtain ⟨p3,k3,p4,k4,rfl,s3,s4⟩:=qK ha2
 refine zV 37 Tryz.func284 rfl fun h=>zSR (qy h rfl rfl fun w1 bb1 h=>qy h rfl rfl fun w2 bb2 h=>X2 11 1 0 h rfl (qf rfl hF ?_ ?_))<;>intro hF
 ·exact X0 4 rfl (rb h hF rfl)
 refine X2 10 1 0 h rfl (qf rfl hF ?_ ?_)<;>intro hF
 ·exact X0 4 rfl (rb h hF rfl)
 refine X2 10 1 0 h rfl (qf rfl hF ?_ ?_)<;>intro hF
 ·exact X0 4 rfl (rb h hF rfl)
 refine X2 10 1 0 h rfl (qf rfl hF ?_ ?_)<;>intro hF
 ·exact X0 4 rfl (rb h hF rfl)
 refine X2 8 1 0 h rfl (zcB h hF (qgh ⟨_,_,rfl,(h.oldS s1)⟩ ⟨_,_,rfl,(h.oldS s3)⟩) rfl fun r1 w3 h hF=>X0 2 rfl (qf rfl hF ?_ ?_))<;>intro hF
 ·exact X0 4 rfl (rb h hF rfl)
 refine X2 8 1 0 h rfl (zcB h hF (qgh ⟨_,_,rfl,(h.oldS s2)⟩ ⟨_,_,rfl,(h.oldS s4)⟩) rfl fun r2 w4 h hF=>X0 2 rfl (qf rfl hF ?_ ?_))<;>intro hF
 ·exact X0 4 rfl (rb h hF rfl)
 exact X0 5 rfl (rb h hF rfl)
def qdm (a:(List qE)) (b:(List qE)):Nat→Int→Option (Flow Bool Int)
 | 0,_=>none
 | n+1,i1 =>
  bif decide (i1<(a.length:Int)) then
   (idx a i1).bind fun y1 =>
   (idx b i1).bind fun y2 =>
   (qfO n y1 y2).bind fun r1 =>
   bif (!r1) then some (.ret false) else
   qdm a b n (W64 (i1+1))
  else
   some (.nxt i1)
def qf8 (n:Nat) (a:(List qE)) (b:(List qE)):Option Bool :=
 bif ((a.length:Int) != (b.length:Int)) then some false else
 (qdm a b n 0).bind fun o=>match o with
 | .ret r=>some r
 | .nxt _ =>
  some true
theorem qi5 {a:(List qE)} {b:(List qE)} (ha1:GoT.R w (old w) a cs1) (ha2:GoT.R w (old w) b cs2) {r:Bool} (hF:qf8 n a b=some r):RetV Tryz.prog 241 [GoT.v (List qE) cs1,GoT.v (List qE) cs2] w r:=by
 obtain ⟨p1,k1,rfl,s1⟩:=ha1
 obtain ⟨p2,k2,rfl,s2⟩:=ha2
 refine zV 27 Tryz.func241 rfl fun h=>X0 13 rfl (qf rfl hF ?_ ?_)<;>intro hF
 ·exact X0 4 rfl (rb h hF rfl)
 refine X0 6 rfl ?_
 obtain ⟨o1,hF,hK1⟩:=qi hF
 refine qj (rL (fun m e w'=>∃ (i1:Int),qdm a b m i1=some o1∧e=[(0,.slice p1 a.length k1),(1,.slice p2 b.length k2),(5,.int .i64 i1)]∧SH w w' []) n ⟨_,hF,rfl,h⟩ rfl ?_)
 rintro m1 e1 w1 ⟨i1,hF,rfl,h⟩
 rcases m1 with _|m1
 ·cases hF
 refine X0 8 rfl (qf rfl hF ?_ ?_)<;>intro hF
 ·refine X0 4 rfl (rD (zd2 rfl ?_))
  obtain ⟨y1,hy1,hF,he1,b1,_,q1,cs3,hp1,hq1,hr1,hc3⟩:=s1.ix hF
  obtain ⟨p3,k3,p4,k4,rfl,s3,s4⟩:=qK hr1
  refine zdxe hp1 hq1 he1 rfl (zdc 0 (hc3.below h.below) rfl (zd2 rfl ?_))
  obtain ⟨y2,hy2,hF,he2,b2,_,q2,cs4,hp2,hq2,hr2,hc4⟩:=s2.ix hF
  obtain ⟨p5,k5,p6,k6,rfl,s5,s6⟩:=qK hr2
  refine zdxe hp2 hq2 he2 rfl (zdc 0 (hc4.below h.below) rfl ?_)
  obtain ⟨r1,hr3,hF⟩:=qi hF
  refine qbA r1 (vsB _) (cB 284 rfl) (fun _ hb=>qjL (qdS y1 ((h.ext hb).oldS s3) ((h.ext hb).oldS s4)) (qdS y2 ((h.ext hb).oldS s5) ((h.ext hb).oldS s6)) hr3) rfl rfl rfl rfl (zd1 rfl (dN h fun w2 h=>qf rfl hF ?_ ?_))<;>intro hF
  ·refine X0 4 rfl ?_
   obtain rfl:=qa hF;replace hF:=hK1
   exact rb h hF rfl
  exact X0 7 rfl (rK ⟨_,hF,rfl,h⟩ rfl)
 refine qn rfl ?_
 obtain rfl:=qa hF;replace hF:=hK1
 exact X0 4 rfl (rb h hF rfl)
def qeR (n:Nat) (a:ql) (b:ql):Option Bool :=
 bif (a.Ap.toList != b.Ap.toList) then some false else
 bif (a.Ar != b.Ar) then some false else
 (qf2 n a.Am b.Am).bind fun r1 =>
 bif (!r1) then some false else
 (qf8 n a.Af b.Af).bind fun r2 =>
 bif (!r2) then some false else
 (qaB n a.Az b.Az).bind fun r3 =>
 bif (!r3) then some false else
 bif (a.Bo != b.Bo) then some false else
 bif (a.Be != b.Be) then some false else
 some true
theorem qjk {a:ql} {b:ql} (ha1:GoT.R w (old w) a cs1) (ha2:GoT.R w (old w) b cs2) {r:Bool} (hF:qeR n a b=some r):RetV Tryz.prog 182 [GoT.v ql cs1,GoT.v ql cs2] w r:=by
 obtain ⟨p1,k1,p2,k2,p3,k3,rfl,s1,s2,s3⟩:=qD ha1
 obtain ⟨p4,k4,p5,k5,p6,k6,rfl,s4,s5,s6⟩:=qD ha2
 refine zV 43 Tryz.func182 rfl fun h=>zSR (qy h rfl rfl fun w1 bb1 h=>qy h rfl rfl fun w2 bb2 h=>X2 11 1 0 h rfl (qf rfl hF ?_ ?_))<;>intro hF
 ·exact X0 4 rfl (rb h hF rfl)
 refine X2 10 1 0 h rfl (qf rfl hF ?_ ?_)<;>intro hF
 ·exact X0 4 rfl (rb h hF rfl)
 refine X2 8 1 0 h rfl (zcB h hF (qjb ⟨_,_,rfl,(h.oldS s1)⟩ ⟨_,_,rfl,(h.oldS s4)⟩) rfl fun r1 w3 h hF=>X0 2 rfl (qf rfl hF ?_ ?_))<;>intro hF
 ·exact X0 4 rfl (rb h hF rfl)
 refine X2 8 1 0 h rfl (zcB h hF (qi5 ⟨_,_,rfl,(h.oldS s2)⟩ ⟨_,_,rfl,(h.oldS s5)⟩) rfl fun r2 w4 h hF=>X0 2 rfl (qf rfl hF ?_ ?_))<;>intro hF
 ·exact X0 4 rfl (rb h hF rfl)
 refine X2 8 1 0 h rfl (zcB h hF (qaF ⟨_,_,rfl,(h.oldS s3)⟩ ⟨_,_,rfl,(h.oldS s6)⟩) rfl fun r3 w5 h hF=>X0 2 rfl (qf rfl hF ?_ ?_))<;>intro hF
 ·exact X0 4 rfl (rb h hF rfl)
 refine X2 10 1 0 h rfl (qf rfl hF ?_ ?_)<;>intro hF
 ·exact X0 4 rfl (rb h hF rfl)
 refine X2 10 1 0 h rfl (qf rfl hF ?_ ?_)<;>intro hF
 ·exact X0 4 rfl (rb h hF rfl)
 exact X0 5 rfl (rb h hF rfl)
def qc1 (a:(List ql)) (b:(List ql)):Nat→Int→Option (Flow Bool Int)
 | 0,_=>none
 | n+1,i1 =>
  bif decide (i1<(a.length:Int)) then
   (idx a i1).bind fun y1 =>
   (idx b i1).bind fun y2 =>
   (qeR n y1 y2).bind fun r1 =>
   bif (!r1) then some (.ret false) else
   qc1 a b n (W64 (i1+1))
  else
   some (.nxt i1)
def qff (n:Nat) (a:(List ql)) (b:(List ql)):Option Bool :=
 bif ((a.length:Int) != (b.length:Int)) then some false else
 (qc1 a b n 0).bind fun o=>match o with
 | .ret r=>some r
 | .nxt _ =>
  some true
theorem qiL {a:(List ql)} {b:(List ql)} (ha1:GoT.R w (old w) a cs1) (ha2:GoT.R w (old w) b cs2) {r:Bool} (hF:qff n a b=some r):RetV Tryz.prog 107 [GoT.v (List ql) cs1,GoT.v (List ql) cs2] w r:=by
 obtain ⟨p1,k1,rfl,s1⟩:=ha1
 obtain ⟨p2,k2,rfl,s2⟩:=ha2
 refine zV 27 Tryz.func107 rfl fun h=>X0 13 rfl (qf rfl hF ?_ ?_)<;>intro hF
 ·exact X0 4 rfl (rb h hF rfl)
 refine X0 6 rfl ?_
 obtain ⟨o1,hF,hK1⟩:=qi hF
 refine qj (rL (fun m e w'=>∃ (i1:Int),qc1 a b m i1=some o1∧e=[(0,.slice p1 a.length k1),(1,.slice p2 b.length k2),(5,.int .i64 i1)]∧SH w w' []) n ⟨_,hF,rfl,h⟩ rfl ?_)
 rintro m1 e1 w1 ⟨i1,hF,rfl,h⟩
 rcases m1 with _|m1
 ·cases hF
 refine X0 8 rfl (qf rfl hF ?_ ?_)<;>intro hF
 ·refine X0 4 rfl (rD (zd2 rfl ?_))
  obtain ⟨y1,hy1,hF,he1,b1,_,q1,cs3,hp1,hq1,hr1,hc3⟩:=s1.ix hF
  obtain ⟨p3,k3,p4,k4,p5,k5,rfl,s3,s4,s5⟩:=qD hr1
  refine zdxe hp1 hq1 he1 rfl (zdc 0 (hc3.below h.below) rfl (zd2 rfl ?_))
  obtain ⟨y2,hy2,hF,he2,b2,_,q2,cs4,hp2,hq2,hr2,hc4⟩:=s2.ix hF
  obtain ⟨p6,k6,p7,k7,p8,k8,rfl,s6,s7,s8⟩:=qD hr2
  refine zdxe hp2 hq2 he2 rfl (zdc 0 (hc4.below h.below) rfl ?_)
  obtain ⟨r1,hr3,hF⟩:=qi hF
  refine qbA r1 (vsB _) (cB 182 rfl) (fun _ hb=>qjk (qft y1 ((h.ext hb).oldS s3) ((h.ext hb).oldS s4) ((h.ext hb).oldS s5)) (qft y2 ((h.ext hb).oldS s6) ((h.ext hb).oldS s7) ((h.ext hb).oldS s8)) hr3) rfl rfl rfl rfl (zd1 rfl (dN h fun w2 h=>qf rfl hF ?_ ?_))<;>intro hF
  ·refine X0 4 rfl ?_
   obtain rfl:=qa hF;replace hF:=hK1
   exact rb h hF rfl
  exact X0 7 rfl (rK ⟨_,hF,rfl,h⟩ rfl)
 refine qn rfl ?_
 obtain rfl:=qa hF;replace hF:=hK1
 exact X0 4 rfl (rb h hF rfl)
def qeh (n:Nat) (a:qm) (b:qm):Option Bool :=
 (qff n a.Ai b.Ai).bind fun r1 =>
 bif (!r1) then some false else
 some true
theorem qh1 {a:qm} {b:qm} (ha1:GoT.R w (old w) a cs1) (ha2:GoT.R w (old w) b cs2) {r:Bool} (hF:qeh n a b=some r):RetV Tryz.prog 52 [GoT.v qm cs1,GoT.v qm cs2] w r:=by
 obtain ⟨p1,k1,rfl,s1⟩:=qaK ha1
 obtain ⟨p2,k2,rfl,s2⟩:=qaK ha2
 refine zV 11 Tryz.func52 rfl fun h=>zSR (qy h rfl rfl fun w1 bb1 h=>qy h rfl rfl fun w2 bb2 h=>X2 9 1 0 h rfl (zcB h hF (qiL ⟨_,_,rfl,(h.oldS s1)⟩ ⟨_,_,rfl,(h.oldS s2)⟩) rfl fun r1 w3 h hF=>X0 2 rfl (qf rfl hF ?_ ?_)))<;>intro hF
 ·exact X0 4 rfl (rb h hF rfl)
 exact X0 5 rfl (rb h hF rfl)
def qc4 (n:Nat) (a:qd) (b:qd):Option Bool :=
 bif (a.Ap.toList != b.Ap.toList) then some false else
 bif (a.Bh != b.Bh) then some false else
 (qaB n a.Ah b.Ah).bind fun r1 =>
 bif (!r1) then some false else
 some true
theorem qhI {a:qd} {b:qd} (ha1:GoT.R w (old w) a cs1) (ha2:GoT.R w (old w) b cs2) {r:Bool} (hF:qc4 n a b=some r):RetV Tryz.prog 183 [GoT.v qd cs1,GoT.v qd cs2] w r:=by
 obtain ⟨p1,k1,rfl,s1⟩:=qH ha1
 obtain ⟨p2,k2,rfl,s2⟩:=qH ha2
 refine zV 21 Tryz.func183 rfl fun h=>zSR (qy h rfl rfl fun w1 bb1 h=>qy h rfl rfl fun w2 bb2 h=>X2 11 1 0 h rfl (qf rfl hF ?_ ?_))<;>intro hF
 ·exact X0 4 rfl (rb h hF rfl)
 refine X2 10 1 0 h rfl (qf rfl hF ?_ ?_)<;>intro hF
 ·exact X0 4 rfl (rb h hF rfl)
 refine X2 8 1 0 h rfl (zcB h hF (qaF ⟨_,_,rfl,(h.oldS s1)⟩ ⟨_,_,rfl,(h.oldS s2)⟩) rfl fun r1 w3 h hF=>X0 2 rfl (qf rfl hF ?_ ?_))<;>intro hF
 ·exact X0 4 rfl (rb h hF rfl)
 exact X0 5 rfl (rb h hF rfl)
def qbG (a:(List qd)) (b:(List qd)):Nat→Int→Option (Flow Bool Int)
 | 0,_=>none
 | n+1,i1 =>
  bif decide (i1<(a.length:Int)) then
   (idx a i1).bind fun y1 =>
   (idx b i1).bind fun y2 =>
   (qc4 n y1 y2).bind fun r1 =>
   bif (!r1) then some (.ret false) else
   qbG a b n (W64 (i1+1))
  else
   some (.nxt i1)
def qdC (n:Nat) (a:(List qd)) (b:(List qd)):Option Bool :=
 bif ((a.length:Int) != (b.length:Int)) then some false else
 (qbG a b n 0).bind fun o=>match o with
 | .ret r=>some r
 | .nxt _ =>
  some true
theorem qhs {a:(List qd)} {b:(List qd)} (ha1:GoT.R w (old w) a cs1) (ha2:GoT.R w (old w) b cs2) {r:Bool} (hF:qdC n a b=some r):RetV Tryz.prog 108 [GoT.v (List qd) cs1,GoT.v (List qd) cs2] w r:=by
 obtain ⟨p1,k1,rfl,s1⟩:=ha1
 obtain ⟨p2,k2,rfl,s2⟩:=ha2
 refine zV 27 Tryz.func108 rfl fun h=>X0 13 rfl (qf rfl hF ?_ ?_)<;>intro hF
 ·exact X0 4 rfl (rb h hF rfl)
 refine X0 6 rfl ?_
 obtain ⟨o1,hF,hK1⟩:=qi hF
 refine qj (rL (fun m e w'=>∃ (i1:Int),qbG a b m i1=some o1∧e=[(0,.slice p1 a.length k1),(1,.slice p2 b.length k2),(5,.int .i64 i1)]∧SH w w' []) n ⟨_,hF,rfl,h⟩ rfl ?_)
 rintro m1 e1 w1 ⟨i1,hF,rfl,h⟩
 rcases m1 with _|m1
 ·cases hF
 refine X0 8 rfl (qf rfl hF ?_ ?_)<;>intro hF
 ·refine X0 4 rfl (rD (zd2 rfl ?_))
  obtain ⟨y1,hy1,hF,he1,b1,_,q1,cs3,hp1,hq1,hr1,hc3⟩:=s1.ix hF
  obtain ⟨p3,k3,rfl,s3⟩:=qH hr1
  refine zdxe hp1 hq1 he1 rfl (zdc 0 (hc3.below h.below) rfl (zd2 rfl ?_))
  obtain ⟨y2,hy2,hF,he2,b2,_,q2,cs4,hp2,hq2,hr2,hc4⟩:=s2.ix hF
  obtain ⟨p4,k4,rfl,s4⟩:=qH hr2
  refine zdxe hp2 hq2 he2 rfl (zdc 0 (hc4.below h.below) rfl ?_)
  obtain ⟨r1,hr3,hF⟩:=qi hF
  refine qbA r1 (vsB _) (cB 183 rfl) (fun _ hb=>qhI (qdO y1 ((h.ext hb).oldS s3)) (qdO y2 ((h.ext hb).oldS s4)) hr3) rfl rfl rfl rfl (zd1 rfl (dN h fun w2 h=>qf rfl hF ?_ ?_))<;>intro hF
  ·refine X0 4 rfl ?_
   obtain rfl:=qa hF;replace hF:=hK1
   exact rb h hF rfl
  exact X0 7 rfl (rK ⟨_,hF,rfl,h⟩ rfl)
 refine qn rfl ?_
 obtain rfl:=qa hF;replace hF:=hK1
 exact X0 4 rfl (rb h hF rfl)
def qcl (a:(List ByteArray)) (b:(List ByteArray)):Nat→Int→Option (Flow Bool Int)
 | 0,_=>none
 | n+1,i1 =>
  bif decide (i1<(a.length:Int)) then
   (idx a i1).bind fun y1 =>
   (idx b i1).bind fun y2 =>
   bif (y1.toList != y2.toList) then some (.ret false) else
   qcl a b n (W64 (i1+1))
  else
   some (.nxt i1)
def qew (n:Nat) (a:(List ByteArray)) (b:(List ByteArray)):Option Bool :=
 bif ((a.length:Int) != (b.length:Int)) then some false else
 (qcl a b n 0).bind fun o=>match o with
 | .ret r=>some r
 | .nxt _ =>
  some true
theorem qh0 {a:(List ByteArray)} {b:(List ByteArray)} (ha1:GoT.R w (old w) a cs1) (ha2:GoT.R w (old w) b cs2) {r:Bool} (hF:qew n a b=some r):RetV Tryz.prog 109 [GoT.v (List ByteArray) cs1,GoT.v (List ByteArray) cs2] w r:=by
 obtain ⟨p1,k1,rfl,s1⟩:=ha1
 obtain ⟨p2,k2,rfl,s2⟩:=ha2
 refine zV 26 Tryz.func109 rfl fun h=>X0 13 rfl (qf rfl hF ?_ ?_)<;>intro hF
 ·exact X0 4 rfl (rb h hF rfl)
 refine X0 6 rfl ?_
 obtain ⟨o1,hF,hK1⟩:=qi hF
 refine qj (rL (fun m e w'=>∃ (i1:Int),qcl a b m i1=some o1∧e=[(0,.slice p1 a.length k1),(1,.slice p2 b.length k2),(5,.int .i64 i1)]∧SH w w' []) n ⟨_,hF,rfl,h⟩ rfl ?_)
 rintro m1 e1 w1 ⟨i1,hF,rfl,h⟩
 rcases m1 with _|m1
 ·cases hF
 refine X0 8 rfl (qf rfl hF ?_ ?_)<;>intro hF
 ·refine X0 4 rfl (rD (zd2 rfl ?_))
  obtain ⟨y1,hy1,hF,he1,b1,_,q1,cs3,hp1,hq1,rfl,hc3⟩:=s1.ix hF
  refine zdxe hp1 hq1 he1 rfl (zdc 0 (hc3.below h.below) rfl (zd2 rfl ?_))
  obtain ⟨y2,hy2,hF,he2,b2,_,q2,cs4,hp2,hq2,rfl,hc4⟩:=s2.ix hF
  refine zdxe hp2 hq2 he2 rfl (zdc 0 (hc4.below h.below) rfl (zd1 rfl (dN h fun w2 h=>qf rfl hF ?_ ?_)))<;>intro hF
  ·refine X0 4 rfl ?_
   obtain rfl:=qa hF;replace hF:=hK1
   exact rb h hF rfl
  exact X0 7 rfl (rK ⟨_,hF,rfl,h⟩ rfl)
 refine qn rfl ?_
 obtain rfl:=qa hF;replace hF:=hK1
 exact X0 4 rfl (rb h hF rfl)
def qeP (_:Nat) (a:qF) (b:qF):Option Bool :=
 bif (a.Ap.toList != b.Ap.toList) then some false else
 bif (a.Bf != b.Bf) then some false else
 bif (a.Bi != b.Bi) then some false else
 some true
theorem qiW {a:qF} {b:qF} (ha1:GoT.R w (old w) a cs1) (ha2:GoT.R w (old w) b cs2) {r:Bool} (hF:qeP n a b=some r):RetV Tryz.prog 184 [GoT.v qF cs1,GoT.v qF cs2] w r:=by
 obtain rfl:=qae ha1
 obtain rfl:=qae ha2
 refine zV 20 Tryz.func184 rfl fun h=>zSR (qy h rfl rfl fun w1 bb1 h=>qy h rfl rfl fun w2 bb2 h=>X2 11 1 0 h rfl (qf rfl hF ?_ ?_))<;>intro hF
 ·exact X0 4 rfl (rb h hF rfl)
 refine X2 10 1 0 h rfl (qf rfl hF ?_ ?_)<;>intro hF
 ·exact X0 4 rfl (rb h hF rfl)
 refine X2 10 1 0 h rfl (qf rfl hF ?_ ?_)<;>intro hF
 ·exact X0 4 rfl (rb h hF rfl)
 exact X0 5 rfl (rb h hF rfl)
def qc2 (a:(List qF)) (b:(List qF)):Nat→Int→Option (Flow Bool Int)
 | 0,_=>none
 | n+1,i1 =>
  bif decide (i1<(a.length:Int)) then
   (idx a i1).bind fun y1 =>
   (idx b i1).bind fun y2 =>
   (qeP n y1 y2).bind fun r1 =>
   bif (!r1) then some (.ret false) else
   qc2 a b n (W64 (i1+1))
  else
   some (.nxt i1)
def qfq (n:Nat) (a:(List qF)) (b:(List qF)):Option Bool :=
 bif ((a.length:Int) != (b.length:Int)) then some false else
 (qc2 a b n 0).bind fun o=>match o with
 | .ret r=>some r
 | .nxt _ =>
  some true
theorem qiz {a:(List qF)} {b:(List qF)} (ha1:GoT.R w (old w) a cs1) (ha2:GoT.R w (old w) b cs2) {r:Bool} (hF:qfq n a b=some r):RetV Tryz.prog 110 [GoT.v (List qF) cs1,GoT.v (List qF) cs2] w r:=by
 obtain ⟨p1,k1,rfl,s1⟩:=ha1
 obtain ⟨p2,k2,rfl,s2⟩:=ha2
 refine zV 27 Tryz.func110 rfl fun h=>X0 13 rfl (qf rfl hF ?_ ?_)<;>intro hF
 ·exact X0 4 rfl (rb h hF rfl)
 refine X0 6 rfl ?_
 obtain ⟨o1,hF,hK1⟩:=qi hF
 refine qj (rL (fun m e w'=>∃ (i1:Int),qc2 a b m i1=some o1∧e=[(0,.slice p1 a.length k1),(1,.slice p2 b.length k2),(5,.int .i64 i1)]∧SH w w' []) n ⟨_,hF,rfl,h⟩ rfl ?_)
 rintro m1 e1 w1 ⟨i1,hF,rfl,h⟩
 rcases m1 with _|m1
 ·cases hF
 refine X0 8 rfl (qf rfl hF ?_ ?_)<;>intro hF
 ·refine X0 4 rfl (rD (zd2 rfl ?_))
  obtain ⟨y1,hy1,hF,he1,b1,_,q1,cs3,hp1,hq1,hr1,hc3⟩:=s1.ix hF
  obtain rfl:=qae hr1
  refine zdxe hp1 hq1 he1 rfl (zdc 0 (hc3.below h.below) rfl (zd2 rfl ?_))
  obtain ⟨y2,hy2,hF,he2,b2,_,q2,cs4,hp2,hq2,hr2,hc4⟩:=s2.ix hF
  obtain rfl:=qae hr2
  refine zdxe hp2 hq2 he2 rfl (zdc 0 (hc4.below h.below) rfl ?_)
  obtain ⟨r1,hr3,hF⟩:=qi hF
  refine qbA r1 (vsB _) (cB 184 rfl) (fun _ hb=>qiW (qeC y1) (qeC y2) hr3) rfl rfl rfl rfl (zd1 rfl (dN h fun w2 h=>qf rfl hF ?_ ?_))<;>intro hF
  ·refine X0 4 rfl ?_
   obtain rfl:=qa hF;replace hF:=hK1
   exact rb h hF rfl
  exact X0 7 rfl (rK ⟨_,hF,rfl,h⟩ rfl)
 refine qn rfl ?_
 obtain rfl:=qa hF;replace hF:=hK1
 exact X0 4 rfl (rb h hF rfl)
def qeN (n:Nat) (a:qc) (b:qc):Option Bool :=
 (qdC n a.Aa b.Aa).bind fun r1 =>
 bif (!r1) then some false else
 (qew n a.Ah b.Ah).bind fun r2 =>
 bif (!r2) then some false else
 (qfq n a.Ac b.Ac).bind fun r3 =>
 bif (!r3) then some false else
 some true
theorem qia {a:qc} {b:qc} (ha1:GoT.R w (old w) a cs1) (ha2:GoT.R w (old w) b cs2) {r:Bool} (hF:qeN n a b=some r):RetV Tryz.prog 53 [GoT.v qc cs1,GoT.v qc cs2] w r:=by
 obtain ⟨p1,k1,p2,k2,p3,k3,rfl,s1,s2,s3⟩:=qX ha1
 obtain ⟨p4,k4,p5,k5,p6,k6,rfl,s4,s5,s6⟩:=qX ha2
 refine zV 23 Tryz.func53 rfl fun h=>zSR (qy h rfl rfl fun w1 bb1 h=>qy h rfl rfl fun w2 bb2 h=>X2 9 1 0 h rfl (zcB h hF (qhs ⟨_,_,rfl,(h.oldS s1)⟩ ⟨_,_,rfl,(h.oldS s4)⟩) rfl fun r1 w3 h hF=>X0 2 rfl (qf rfl hF ?_ ?_)))<;>intro hF
 ·exact X0 4 rfl (rb h hF rfl)
 refine X2 8 1 0 h rfl (zcB h hF (qh0 ⟨_,_,rfl,(h.oldS s2)⟩ ⟨_,_,rfl,(h.oldS s5)⟩) rfl fun r2 w4 h hF=>X0 2 rfl (qf rfl hF ?_ ?_))<;>intro hF
 ·exact X0 4 rfl (rb h hF rfl)
 refine X2 8 1 0 h rfl (zcB h hF (qiz ⟨_,_,rfl,(h.oldS s3)⟩ ⟨_,_,rfl,(h.oldS s6)⟩) rfl fun r3 w5 h hF=>X0 2 rfl (qf rfl hF ?_ ?_))<;>intro hF
 ·exact X0 4 rfl (rb h hF rfl)
 exact X0 5 rfl (rb h hF rfl)
def qe4 (n:Nat) (a:qz) (b:qz):Option Bool :=
 (qaB n a.Aj b.Aj).bind fun r1 =>
 bif (!r1) then some false else
 (qaB n a.Bj b.Bj).bind fun r2 =>
 bif (!r2) then some false else
 (qaB n a.Bg b.Bg).bind fun r3 =>
 bif (!r3) then some false else
 (qaB n a.Bd b.Bd).bind fun r4 =>
 bif (!r4) then some false else
 some true
theorem qjl {a:qz} {b:qz} (ha1:GoT.R w (old w) a cs1) (ha2:GoT.R w (old w) b cs2) {r:Bool} (hF:qe4 n a b=some r):RetV Tryz.prog 111 [GoT.v qz cs1,GoT.v qz cs2] w r:=by
 obtain ⟨p1,k1,p2,k2,p3,k3,p4,k4,rfl,s1,s2,s3,s4⟩:=qaO ha1
 obtain ⟨p5,k5,p6,k6,p7,k7,p8,k8,rfl,s5,s6,s7,s8⟩:=qaO ha2
 refine zV 29 Tryz.func111 rfl fun h=>zSR (qy h rfl rfl fun w1 bb1 h=>qy h rfl rfl fun w2 bb2 h=>X2 9 1 0 h rfl (zcB h hF (qaF ⟨_,_,rfl,(h.oldS s1)⟩ ⟨_,_,rfl,(h.oldS s5)⟩) rfl fun r1 w3 h hF=>X0 2 rfl (qf rfl hF ?_ ?_)))<;>intro hF
 ·exact X0 4 rfl (rb h hF rfl)
 refine X2 8 1 0 h rfl (zcB h hF (qaF ⟨_,_,rfl,(h.oldS s2)⟩ ⟨_,_,rfl,(h.oldS s6)⟩) rfl fun r2 w4 h hF=>X0 2 rfl (qf rfl hF ?_ ?_))<;>intro hF
 ·exact X0 4 rfl (rb h hF rfl)
 refine X2 8 1 0 h rfl (zcB h hF (qaF ⟨_,_,rfl,(h.oldS s3)⟩ ⟨_,_,rfl,(h.oldS s7)⟩) rfl fun r3 w5 h hF=>X0 2 rfl (qf rfl hF ?_ ?_))<;>intro hF
 ·exact X0 4 rfl (rb h hF rfl)
 refine X2 8 1 0 h rfl (zcB h hF (qaF ⟨_,_,rfl,(h.oldS s4)⟩ ⟨_,_,rfl,(h.oldS s8)⟩) rfl fun r4 w6 h hF=>X0 2 rfl (qf rfl hF ?_ ?_))<;>intro hF
 ·exact X0 4 rfl (rb h hF rfl)
 exact X0 5 rfl (rb h hF rfl)
def qcX (a:(List qz)) (b:(List qz)):Nat→Int→Option (Flow Bool Int)
 | 0,_=>none
 | n+1,i1 =>
  bif decide (i1<(a.length:Int)) then
   (idx a i1).bind fun y1 =>
   (idx b i1).bind fun y2 =>
   (qe4 n y1 y2).bind fun r1 =>
   bif (!r1) then some (.ret false) else
   qcX a b n (W64 (i1+1))
  else
   some (.nxt i1)
def qfj (n:Nat) (a:(List qz)) (b:(List qz)):Option Bool :=
 bif ((a.length:Int) != (b.length:Int)) then some false else
 (qcX a b n 0).bind fun o=>match o with
 | .ret r=>some r
 | .nxt _ =>
  some true
theorem qiI {a:(List qz)} {b:(List qz)} (ha1:GoT.R w (old w) a cs1) (ha2:GoT.R w (old w) b cs2) {r:Bool} (hF:qfj n a b=some r):RetV Tryz.prog 54 [GoT.v (List qz) cs1,GoT.v (List qz) cs2] w r:=by
 obtain ⟨p1,k1,rfl,s1⟩:=ha1
 obtain ⟨p2,k2,rfl,s2⟩:=ha2
 refine zV 27 Tryz.func54 rfl fun h=>X0 13 rfl (qf rfl hF ?_ ?_)<;>intro hF
 ·exact X0 4 rfl (rb h hF rfl)
 refine X0 6 rfl ?_
 obtain ⟨o1,hF,hK1⟩:=qi hF
 refine qj (rL (fun m e w'=>∃ (i1:Int),qcX a b m i1=some o1∧e=[(0,.slice p1 a.length k1),(1,.slice p2 b.length k2),(5,.int .i64 i1)]∧SH w w' []) n ⟨_,hF,rfl,h⟩ rfl ?_)
 rintro m1 e1 w1 ⟨i1,hF,rfl,h⟩
 rcases m1 with _|m1
 ·cases hF
 refine X0 8 rfl (qf rfl hF ?_ ?_)<;>intro hF
 ·refine X0 4 rfl (rD (zd2 rfl ?_))
  obtain ⟨y1,hy1,hF,he1,b1,_,q1,cs3,hp1,hq1,hr1,hc3⟩:=s1.ix hF
  obtain ⟨p3,k3,p4,k4,p5,k5,p6,k6,rfl,s3,s4,s5,s6⟩:=qaO hr1
  refine zdxe hp1 hq1 he1 rfl (zdc 0 (hc3.below h.below) rfl (zd2 rfl ?_))
  obtain ⟨y2,hy2,hF,he2,b2,_,q2,cs4,hp2,hq2,hr2,hc4⟩:=s2.ix hF
  obtain ⟨p7,k7,p8,k8,p9,k9,p10,k10,rfl,s7,s8,s9,s10⟩:=qaO hr2
  refine zdxe hp2 hq2 he2 rfl (zdc 0 (hc4.below h.below) rfl ?_)
  obtain ⟨r1,hr3,hF⟩:=qi hF
  refine qbA r1 (vsB _) (cB 111 rfl) (fun _ hb=>qjl (qfv y1 ((h.ext hb).oldS s3) ((h.ext hb).oldS s4) ((h.ext hb).oldS s5) ((h.ext hb).oldS s6)) (qfv y2 ((h.ext hb).oldS s7) ((h.ext hb).oldS s8) ((h.ext hb).oldS s9) ((h.ext hb).oldS s10)) hr3) rfl rfl rfl rfl (zd1 rfl (dN h fun w2 h=>qf rfl hF ?_ ?_))<;>intro hF
  ·refine X0 4 rfl ?_
   obtain rfl:=qa hF;replace hF:=hK1
   exact rb h hF rfl
  exact X0 7 rfl (rK ⟨_,hF,rfl,h⟩ rfl)
 refine qn rfl ?_
 obtain rfl:=qa hF;replace hF:=hK1
 exact X0 4 rfl (rb h hF rfl)
def qfd (n:Nat) (a:qq) (b:qq):Option Bool :=
 (qeh n (⟨a.As.Ai⟩:qm) (⟨b.As.Ai⟩:qm)).bind fun r1 =>
 bif (!r1) then some false else
 (qeN n (⟨a.Ak.Aa,a.Ak.Ah,a.Ak.Ac⟩:qc) (⟨b.Ak.Aa,b.Ak.Ah,b.Ak.Ac⟩:qc)).bind fun r2 =>
 bif (!r2) then some false else
 (qfj n a.At b.At).bind fun r3 =>
 bif (!r3) then some false else
 some true
theorem qiy {a:qq} {b:qq} (ha1:GoT.R w (old w) a cs1) (ha2:GoT.R w (old w) b cs2) {r:Bool} (hF:qfd n a b=some r):RetV Tryz.prog 18 [GoT.v qq cs1,GoT.v qq cs2] w r:=by
 obtain ⟨p1,k1,p2,k2,p3,k3,p4,k4,p5,k5,rfl,s1,s2,s3,s4,s5⟩:=qa7 ha1
 obtain ⟨p6,k6,p7,k7,p8,k8,p9,k9,p10,k10,rfl,s6,s7,s8,s9,s10⟩:=qa7 ha2
 refine zV 23 Tryz.func18 rfl fun h=>zSR (qy h rfl rfl fun w1 bb1 h=>qy h rfl rfl fun w2 bb2 h=>X2 9 1 0 h rfl (zcB h hF (qh1 (qdB _ (h.oldS s1)) (qdB _ (h.oldS s6))) rfl fun r1 w3 h hF=>X0 2 rfl (qf rfl hF ?_ ?_)))<;>intro hF
 ·exact X0 4 rfl (rb h hF rfl)
 refine X2 8 1 0 h rfl (zcB h hF (qia (qci _ (h.oldS s2) (h.oldS s3) (h.oldS s4)) (qci _ (h.oldS s7) (h.oldS s8) (h.oldS s9))) rfl fun r2 w4 h hF=>X0 2 rfl (qf rfl hF ?_ ?_))<;>intro hF
 ·exact X0 4 rfl (rb h hF rfl)
 refine X2 8 1 0 h rfl (zcB h hF (qiI ⟨_,_,rfl,(h.oldS s5)⟩ ⟨_,_,rfl,(h.oldS s10)⟩) rfl fun r3 w5 h hF=>X0 2 rfl (qf rfl hF ?_ ?_))<;>intro hF
 ·exact X0 4 rfl (rb h hF rfl)
 exact X0 5 rfl (rb h hF rfl)
def qU (_:Nat) (a_n:Int) (low:Int) (high:Int):Option Bool :=
 bif decide (a_n ≥ low) then some (decide (a_n≤high)) else
 some false
theorem qM {a_n:Int} {low:Int} {high:Int}  {r:Bool} (hF:qU n a_n low high=some r):RetV Tryz.prog 130 [.int .i64 a_n,.int .i64 low,.int .i64 high] w r:=by
 refine zV 15 Tryz.func130 rfl fun h=>X0 10 rfl (qe (t:=10) hF rfl ?_ ?_)<;>intro hF
 ·exact X0 9 rfl (rb h hF rfl)
 exact X0 6 rfl (rb h hF rfl)
def qbz (s:ByteArray):Nat→Int→Option (Flow Bool Int)
 | 0,_=>none
 | n+1,i1 =>
  bif decide (i1<(s.size:Int)) then
   (
    (atS s i1).bind fun y3 =>
    bif decide (y3 ≥ 97) then
     (atS s i1).bind fun y4 =>
     some (decide (y4≤122))
    else
     some false).bind fun b1 =>
   (
    (atS s i1).bind fun y1 =>
    bif decide (y1 ≥ 48) then
     (atS s i1).bind fun y2 =>
     some (decide (y2≤57))
    else
     some false).bind fun b2 =>
   bif (!b1) then
    bif b2 then
     bif (!(decide (i1 > 0))) then some (.ret false) else
     qbz s n (W64 (i1+1))
    else
     some (.ret false)
   else
    qbz s n (W64 (i1+1))
  else
   some (.nxt i1)
def qdv (n:Nat) (s:ByteArray):Option Bool :=
 (qbz s n 0).bind fun o=>match o with
 | .ret r=>some r
 | .nxt _ =>
  bif decide ((s.size:Int) ≥ 1) then some (decide ((s.size:Int)≤8)) else
  some false
theorem qe9 {s:ByteArray}  {r:Bool} (hF:qdv n s=some r):RetV Tryz.prog 131 [.string s] w r:=by
 refine zV 50 Tryz.func131 rfl fun h=>X0 9 rfl ?_
 obtain ⟨o1,hF,hK1⟩:=qi hF
 refine qj (rL (fun m e w'=>∃ (i1:Int),qbz s m i1=some o1∧e=[(0,.string s),(3,.int .i64 i1)]∧SH w w' []) n ⟨_,hF,rfl,h⟩ rfl ?_)
 rintro m1 e1 w1 ⟨i1,hF,rfl,h⟩
 rcases m1 with _|m1
 ·cases hF
 refine X0 8 rfl (qf rfl hF ?_ ?_)<;>intro hF
 ·refine X0 4 rfl ?_
  obtain ⟨KF2,hKF2,o3,hF,hK3⟩:=bindE hF
  refine qc3 (fun e w'=>∃ (b1:Bool),KF2 b1=some o1∧e=[(0,.string s),(3,.int .i64 i1),(4,.bool b1)]∧SH w w' []) ?_ ?_
  ·refine X0 3 rfl ?_
   obtain ⟨y3,hx3,hF⟩:=qi hF
   have g3:=qgX hx3
   refine r_v (qg8 qk g3 rfl rfl rfl rfl) rfl (zp2 rfl (qe (t:=16) hF rfl ?_ ?_))<;>intro hF
   ·refine X0 5 rfl ?_
    obtain ⟨y4,hx4,hF⟩:=qi hF
    have g4:=qgX hx4
    refine r_v (qg8 qk g4 rfl rfl rfl rfl) rfl (X0 5 rfl ?_)
    obtain rfl:=qa hF
    exact rG ⟨_,hK3,rfl,h⟩ rfl
   refine X0 7 rfl ?_
   obtain rfl:=qa hF
   exact rG ⟨_,hK3,rfl,h⟩ rfl
  rintro e3 w3 ⟨b1,hF,rfl,h⟩
  subst hKF2
  refine qd6 ?_
  obtain ⟨KF1,hKF1,o2,hF,hK2⟩:=bindE hF
  refine qc3 (fun e w'=>∃ (b2:Bool),KF1 b2=some o1∧e=[(0,.string s),(3,.int .i64 i1),(4,.bool b1),(5,.bool b2)]∧SH w w' []) ?_ ?_
  ·refine X0 3 rfl ?_
   obtain ⟨y1,hx1,hF⟩:=qi hF
   have g1:=qgX hx1
   refine r_v (qg8 qk g1 rfl rfl rfl rfl) rfl (zp2 rfl (qe (t:=26) hF rfl ?_ ?_))<;>intro hF
   ·refine X0 5 rfl ?_
    obtain ⟨y2,hx2,hF⟩:=qi hF
    have g2:=qgX hx2
    refine r_v (qg8 qk g2 rfl rfl rfl rfl) rfl (X0 5 rfl ?_)
    obtain rfl:=qa hF
    exact rG ⟨_,hK2,rfl,h⟩ rfl
   refine X0 7 rfl ?_
   obtain rfl:=qa hF
   exact rG ⟨_,hK2,rfl,h⟩ rfl
  rintro e2 w2 ⟨b2,hF,rfl,h⟩
  subst hKF1
  refine X0 5 rfl (qe (t:=34) hF rfl ?_ ?_)<;>intro hF
  ·refine X0 4 rfl (qe (t:=36) hF rfl ?_ ?_)<;>intro hF
   ·refine X0 10 rfl (qf rfl hF ?_ ?_)<;>intro hF
    ·refine X0 4 rfl ?_
     obtain rfl:=qa hF;replace hF:=hK1
     exact rb h hF rfl
    exact X0 7 rfl (rK ⟨_,hF,rfl,h⟩ rfl)
   refine X0 8 rfl (qcv rfl rfl (X0 4 rfl ?_))
   obtain rfl:=qa hF;replace hF:=hK1
   exact rb h hF rfl
  exact X0 8 rfl (qcS rfl rfl (X0 7 rfl (rK ⟨_,hF,rfl,h⟩ rfl)))
 refine qn rfl ?_
 obtain rfl:=qa hF;replace hF:=hK1
 refine X0 6 rfl (qe (t:=45) hF rfl ?_ ?_)<;>intro hF
 ·exact X0 9 rfl (rb h hF rfl)
 exact X0 6 rfl (rb h hF rfl)
def qca (a_0:ql) (i2:Int) (y1:qI):Nat→Int→Option (Flow (Int × Bool) Int)
 | 0,_=>none
 | n+1,i3 =>
  bif decide (i3<i2) then
   (idx a_0.Am i3).bind fun y2 =>
   bif (y2.Ap.toList==y1.Ap.toList) then some (.ret (0,false)) else
   qca a_0 i2 y1 n (W64 (i3+1))
  else
   some (.nxt i3)
def qa6 (a_0:ql):Nat→Int→Int→Option (Flow (Int × Bool) (Int × Int))
 | 0,_,_=>none
 | n+1,i1,i2 =>
  bif decide (i2<(a_0.Am.length:Int)) then
   (idx a_0.Am i2).bind fun y1 =>
   (qca a_0 i2 y1 n 0).bind fun o=>match o with
   | .ret r=>some (.ret r)
   | .nxt _ =>
    (
     (qdv n y1.Ap).bind fun r1 =>
     bif (!r1) then some true else
     (qU n y1.Bg 0 500).bind fun r2 =>
     some (!r2)).bind fun b4 =>
    bif b4 then some (.ret (0,false)) else
    (
     bif (i2==(W64 ((a_0.Am.length:Int)-1))) then
      bif (y1.Bf != 2) then some true else
      bif (y1.Bg != 0) then some true else
      bif y1.Av then some true else
      bif decide (i2<(W64 ((a_0.Am.length:Int)-1))) then some (y1.Bf != 1) else
      some false
     else
      bif decide (i2<(W64 ((a_0.Am.length:Int)-1))) then some (y1.Bf != 1) else
      some false).bind fun b5 =>
    bif b5 then some (.ret (0,false)) else
    bif y1.Av then qa6 a_0 n (W64 (i1+1)) (W64 (i2+1)) else
    qa6 a_0 n i1 (W64 (i2+1))
  else
   some (.nxt (i1,i2))
def qfs (n:Nat) (a_0:ql):Option (Int × Bool) :=
 (
  bif decide ((a_0.Am.length:Int)<2) then some true else
  some (decide ((a_0.Am.length:Int) > 5))).bind fun b1 =>
 bif b1 then some (0,false) else
 (qa6 a_0 n 0 0).bind fun o=>match o with
 | .ret r=>some r
 | .nxt (i1,_) =>
  some (i1,true)
theorem qiP {a_0:ql} (ha1:GoT.R w (old w) a_0 cs1) {r:(Int × Bool)} (hF:qfs n a_0=some r):RetV Tryz.prog 285 [GoT.v ql cs1] w r:=by
 obtain ⟨p1,k1,p2,k2,p3,k3,rfl,s1,s2,s3⟩:=qD ha1
 refine zV 86 Tryz.func285 rfl fun h=>zSR (qy h rfl rfl fun w1 bb1 h=>X1 12 0 h rfl ?_)
 obtain ⟨KF3,hKF3,o5,hF,hK5⟩:=bindE hF
 refine qc3 (fun e w'=>∃ (b1:Bool),KF3 b1=some r∧e=[(1,.pointer (some ⟨bb1,0,none⟩)),(4,.int .i64 (a_0.Am.length:Int)),(17,.bool b1)]∧SH w w' [Ch.box bb1 (qbK a_0 p1 p2 p3 k1 k2 k3) 135]) ?_ ?_
 ·refine X0 4 rfl (qe (t:=14) hF rfl ?_ ?_)<;>intro hF
  ·refine X0 4 rfl ?_
   obtain rfl:=qa hF
   exact rG ⟨_,hK5,rfl,h⟩ rfl
  refine X0 6 rfl ?_
  obtain rfl:=qa hF
  exact rG ⟨_,hK5,rfl,h⟩ rfl
 rintro e5 w11 ⟨b1,hF,rfl,h⟩
 subst hKF3
 refine qf rfl hF ?_ ?_<;>intro hF
 ·refine X0 5 rfl ?_
  obtain rfl:=qa hF
  exact qcs qk (ρ:=(Int × Bool)) [GoT.v Int [.int .i64 0],GoT.v Bool [.bool false]] h ⟨rfl,rfl,trivial⟩ (PV.done h (qgq h (qaJ (S:=fun _=>False) rfl) (qcP (qaJ (S:=fun _=>False) rfl)) (by rfl)))
 refine X0 10 rfl ?_
 obtain ⟨o1,hF,hK1⟩:=qi hF
 refine qj (rL (fun m e w'=>∃ (i1:Int) (i2:Int),qa6 a_0 m i1 i2=some o1∧e=[(1,.pointer (some ⟨bb1,0,none⟩)),(4,.int .i64 (a_0.Am.length:Int)),(5,.int .i64 i1),(6,.int .i64 i2)]∧SH w w' [Ch.box bb1 (qbK a_0 p1 p2 p3 k1 k2 k3) 135]) n ⟨_,_,hF,rfl,h⟩ rfl ?_)
 rintro m1 e1 w2 ⟨i1,i2,hF,rfl,h⟩
 rcases m1 with _|m1
 ·cases hF
 refine X0 7 rfl (qf rfl hF ?_ ?_)<;>intro hF
 ·refine X1 8 0 h rfl ?_
  obtain ⟨y1,hy1,hF,he1,b2,_,q1,cs2,hp1,hq1,hr1,hc3⟩:=s1.ix hF
  obtain rfl:=qax hr1
  refine zxe hp1 hq1 he1 rfl (zc 0 (hc3.below h.below) rfl (qJ qk h rfl rfl rfl fun w3 bb2 h=>zs 0 h rfl fun w4 h=>X0 6 rfl ?_))
  obtain ⟨o2,hF,hK2⟩:=qi hF
  refine qj (rL (fun m e w'=>∃ (i3:Int),qca a_0 i2 y1 m i3=some o2∧e=[(1,.pointer (some ⟨bb1,0,none⟩)),(4,.int .i64 (a_0.Am.length:Int)),(5,.int .i64 i1),(6,.int .i64 i2),(7,.pointer (some ⟨bb2,0,none⟩)),(8,.int .i64 i3)]∧SH w w' [Ch.box bb2 (qib y1) 321,Ch.box bb1 (qbK a_0 p1 p2 p3 k1 k2 k3) 135]) m1 ⟨_,hF,rfl,h⟩ rfl ?_)
  rintro m2 e2 w5 ⟨i3,hF,rfl,h⟩
  rcases m2 with _|m2
  ·cases hF
  refine X0 7 rfl (qf rfl hF ?_ ?_)<;>intro hF
  ·refine X0 4 rfl (rD (Y1 2 1 h rfl ?_))
   refine zd1 rfl ?_
   obtain ⟨y2,hy2,hF,he2,b3,_,q2,cs3,hp2,hq2,hr2,hc5⟩:=s1.ix hF
   obtain rfl:=qax hr2
   refine zdxe hp2 hq2 he2 rfl (zd1 rfl (zdc 0 (hc5.below h.below) rfl (Y1 2 0 h rfl ?_)))
   refine zd1 rfl (dN h fun w6 h=>qf rfl hF ?_ ?_)<;>intro hF
   ·refine X0 5 rfl ?_
    obtain rfl:=qa hF;replace hF:=hK2
    obtain rfl:=qa hF;replace hF:=hK1
    obtain rfl:=qa hF
    exact qcs qk (ρ:=(Int × Bool)) [GoT.v Int [.int .i64 0],GoT.v Bool [.bool false]] h ⟨rfl,rfl,trivial⟩ (PV.done h (qgq h (qaJ (S:=fun _=>False) rfl) (qcP (qaJ (S:=fun _=>False) rfl)) (by rfl)))
   exact X0 7 rfl (rK ⟨_,hF,rfl,h⟩ rfl)
  refine qn rfl ?_
  obtain rfl:=qa hF;replace hF:=hK2
  refine zSS ?_
  obtain ⟨KF2,hKF2,o4,hF,hK4⟩:=bindE hF
  refine qc3 (fun e w'=>∃ (b4:Bool),KF2 b4=some o1∧e=[(1,.pointer (some ⟨bb1,0,none⟩)),(4,.int .i64 (a_0.Am.length:Int)),(5,.int .i64 i1),(6,.int .i64 i2),(7,.pointer (some ⟨bb2,0,none⟩)),(51,.bool b4)]∧SH w w' [Ch.box bb2 (qib y1) 321,Ch.box bb1 (qbK a_0 p1 p2 p3 k1 k2 k3) 135]) ?_ ?_
  ·refine X1 3 0 h rfl (zcB h hF qe9 rfl fun r1 w8 h hF=>zp2 rfl (qe (t:=46) hF rfl ?_ ?_))<;>intro hF
   ·refine X0 6 rfl ?_
    obtain rfl:=qa hF
    exact rG ⟨_,hK4,rfl,h⟩ rfl
   refine X1 5 0 h rfl (zcB h hF qM rfl fun r2 w9 h hF=>X0 4 rfl ?_)
   obtain rfl:=qa hF
   exact rG ⟨_,hK4,rfl,h⟩ rfl
  rintro e4 w10 ⟨b4,hF,rfl,h⟩
  subst hKF2
  refine qf rfl hF ?_ ?_<;>intro hF
  ·refine X0 5 rfl ?_
   obtain rfl:=qa hF;replace hF:=hK1
   obtain rfl:=qa hF
   exact qcs qk (ρ:=(Int × Bool)) [GoT.v Int [.int .i64 0],GoT.v Bool [.bool false]] h ⟨rfl,rfl,trivial⟩ (PV.done h (qgq h (qaJ (S:=fun _=>False) rfl) (qcP (qaJ (S:=fun _=>False) rfl)) (by rfl)))
  refine zKSS ?_
  obtain ⟨KF1,hKF1,o3,hF,hK3⟩:=bindE hF
  refine qc3 (fun e w'=>∃ (b5:Bool),KF1 b5=some o1∧e=[(1,.pointer (some ⟨bb1,0,none⟩)),(4,.int .i64 (a_0.Am.length:Int)),(5,.int .i64 i1),(6,.int .i64 i2),(7,.pointer (some ⟨bb2,0,none⟩)),(80,.bool b5)]∧SH w w' [Ch.box bb2 (qib y1) 321,Ch.box bb1 (qbK a_0 p1 p2 p3 k1 k2 k3) 135]) ?_ ?_
  ·refine X0 6 rfl (qe (t:=56) hF rfl ?_ ?_)<;>intro hF
   ·refine X1 8 0 h rfl (qe (t:=60) hF rfl ?_ ?_)<;>intro hF
    ·refine X0 24 rfl ?_
     obtain rfl:=qa hF
     exact rG ⟨_,hK3,rfl,h⟩ rfl
    refine X1 10 0 h rfl (qe (t:=65) hF rfl ?_ ?_)<;>intro hF
    ·refine X0 17 rfl ?_
     obtain rfl:=qa hF
     exact rG ⟨_,hK3,rfl,h⟩ rfl
    refine X1 8 0 h rfl (qe (t:=70) hF rfl ?_ ?_)<;>intro hF
    ·refine X0 11 rfl ?_
     obtain rfl:=qa hF
     exact rG ⟨_,hK3,rfl,h⟩ rfl
    refine X0 10 rfl (qe (t:=75) hF rfl ?_ ?_)<;>intro hF
    ·refine X1 10 0 h rfl ?_
     obtain rfl:=qa hF
     exact rG ⟨_,hK3,rfl,h⟩ rfl
    refine X0 7 rfl ?_
    obtain rfl:=qa hF
    exact rG ⟨_,hK3,rfl,h⟩ rfl
   refine X0 24 rfl (qe (t:=75) hF rfl ?_ ?_)<;>intro hF
   ·refine X1 10 0 h rfl ?_
    obtain rfl:=qa hF
    exact rG ⟨_,hK3,rfl,h⟩ rfl
   refine X0 7 rfl ?_
   obtain rfl:=qa hF
   exact rG ⟨_,hK3,rfl,h⟩ rfl
  rintro e3 w7 ⟨b5,hF,rfl,h⟩
  subst hKF1
  refine qf rfl hF ?_ ?_<;>intro hF
  ·refine X0 5 rfl ?_
   obtain rfl:=qa hF;replace hF:=hK1
   obtain rfl:=qa hF
   exact qcs qk (ρ:=(Int × Bool)) [GoT.v Int [.int .i64 0],GoT.v Bool [.bool false]] h ⟨rfl,rfl,trivial⟩ (PV.done h (qgq h (qaJ (S:=fun _=>False) rfl) (qcP (qaJ (S:=fun _=>False) rfl)) (by rfl)))
  refine X1 6 0 h rfl (qf rfl hF ?_ ?_)<;>intro hF
  ·refine X0 11 rfl ?_
   replace h:=h.pick [1] rfl
   exact rK ⟨_,_,hF,rfl,h⟩ rfl
  refine X0 7 rfl ?_
  replace h:=h.pick [1] rfl
  exact rK ⟨_,_,hF,rfl,h⟩ rfl
 refine qn rfl ?_
 obtain rfl:=qa hF;replace hF:=hK1
 refine X0 6 rfl ?_
 obtain rfl:=qa hF
 exact qcs qk (ρ:=(Int × Bool)) [GoT.v Int [.int .i64 i1],GoT.v Bool [.bool true]] h ⟨rfl,rfl,trivial⟩ (PV.done h (qgq h (qaJ (S:=fun _=>False) rfl) (qcP (qaJ (S:=fun _=>False) rfl)) (by rfl)))
def qbB (list:(List Int)):Nat→Int→Option (Flow Bool Int)
 | 0,_=>none
 | n+1,i1 =>
  bif decide (i1<(list.length:Int)) then
   (idx list i1).bind fun y1 =>
   (qU n y1 0 100000).bind fun r1 =>
   bif (!r1) then some (.ret false) else
   bif decide (i1 > 0) then
    (idx list (W64 (i1-1))).bind fun y2 =>
    (idx list i1).bind fun y3 =>
    bif decide (y2 ≥ y3) then some (.ret false) else
    qbB list n (W64 (i1+1))
   else
    qbB list n (W64 (i1+1))
  else
   some (.nxt i1)
def qeg (n:Nat) (list:(List Int)):Option Bool :=
 (qbB list n 0).bind fun o=>match o with
 | .ret r=>some r
 | .nxt _ =>
  bif decide ((list.length:Int) ≥ 1) then some (decide ((list.length:Int)≤4)) else
  some false
theorem qgH {list:(List Int)} (ha1:GoT.R w (old w) list cs1) {r:Bool} (hF:qeg n list=some r):RetV Tryz.prog 244 [GoT.v (List Int) cs1] w r:=by
 obtain ⟨p1,k1,rfl,s1⟩:=ha1
 refine zV 40 Tryz.func244 rfl fun h=>X0 9 rfl ?_
 obtain ⟨o1,hF,hK1⟩:=qi hF
 refine qj (rL (fun m e w'=>∃ (i1:Int),qbB list m i1=some o1∧e=[(0,.slice p1 list.length k1),(3,.int .i64 i1)]∧SH w w' []) n ⟨_,hF,rfl,h⟩ rfl ?_)
 rintro m1 e1 w1 ⟨i1,hF,rfl,h⟩
 rcases m1 with _|m1
 ·cases hF
 refine X0 8 rfl (qf rfl hF ?_ ?_)<;>intro hF
 ·refine X0 4 rfl (rD (zd2 rfl ?_))
  obtain ⟨y1,hy1,hF,he1,b1,_,q1,cs2,hp1,hq1,rfl,hc2⟩:=s1.ix hF
  refine zdxe hp1 hq1 he1 rfl (zdc 0 (hc2.below h.below) rfl ?_)
  obtain ⟨r1,hr2,hF⟩:=qi hF
  refine qbA r1 (vsB _) (cB 130 rfl) (fun _ hb=>qM  hr2) rfl rfl rfl rfl (zd2 rfl (qaA (t:=16) hF rfl ?_ ?_))<;>intro hF
  ·refine Y0 15 rfl (dN h fun w2 h=>qcv rfl rfl (X0 4 rfl ?_))
   obtain rfl:=qa hF;replace hF:=hK1
   exact rb h hF rfl
  refine Y0 6 rfl (qaA (t:=19) hF rfl ?_ ?_)<;>intro hF
  ·refine Y0 7 rfl ?_
   obtain ⟨y2,hy2,hF,he2,b2,_,q2,cs3,hp2,hq2,rfl,hc3⟩:=s1.ix hF
   refine zdxe hp2 hq2 he2 rfl (Y0 1 rfl (zdc 0 (hc3.below h.below) rfl (Y0 5 rfl ?_)))
   obtain ⟨y3,hy3,hF,he3,b3,_,q3,cs4,hp3,hq3,rfl,hc4⟩:=s1.ix hF
   refine zdxe hp3 hq3 he3 rfl (Y0 1 rfl (zdc 0 (hc4.below h.below) rfl (Y0 5 rfl (dN h fun w3 h=>qf rfl hF ?_ ?_))))<;>intro hF
   ·refine X0 4 rfl ?_
    obtain rfl:=qa hF;replace hF:=hK1
    exact rb h hF rfl
   exact X0 7 rfl (rK ⟨_,hF,rfl,h⟩ rfl)
  exact Y0 13 rfl (dN h fun w4 h=>qcS rfl rfl (X0 7 rfl (rK ⟨_,hF,rfl,h⟩ rfl)))
 refine qn rfl ?_
 obtain rfl:=qa hF;replace hF:=hK1
 refine X0 6 rfl (qe (t:=35) hF rfl ?_ ?_)<;>intro hF
 ·exact X0 9 rfl (rb h hF rfl)
 exact X0 6 rfl (rb h hF rfl)
def qb6 (t:qb):Nat→Int→Option (Flow Bool Int)
 | 0,_=>none
 | n+1,i1 =>
  bif decide (i1<(t.Ab.length:Int)) then
   (idx t.Ab i1).bind fun y1 =>
   (qU n y1 (-1000000) 1000000).bind fun r1 =>
   bif (!r1) then some (.ret false) else
   qb6 t n (W64 (i1+1))
  else
   some (.nxt i1)
def qeu (n:Nat) (t:qb):Option Bool :=
 (
  (qeg n t.Ay).bind fun r2 =>
  bif (!r2) then some true else
  (qeg n t.Aq).bind fun r3 =>
  bif (!r3) then some true else
  some ((t.Ab.length:Int) != (W64 ((t.Ay.length:Int)*(t.Aq.length:Int))))).bind fun b1 =>
 bif b1 then some false else
 (qb6 t n 0).bind fun o=>match o with
 | .ret r=>some r
 | .nxt _ =>
  some true
theorem qgG {t:qb} (ha1:GoT.R w (old w) t cs1) {r:Bool} (hF:qeu n t=some r):RetV Tryz.prog 191 [GoT.v qb cs1] w r:=by
 obtain ⟨p1,k1,p2,k2,p3,k3,rfl,s1,s2,s3⟩:=qN ha1
 refine zV 41 Tryz.func191 rfl fun h=>zSR (qy h rfl rfl fun w1 bb1 h=>X0 4 rfl ?_)
 obtain ⟨KF1,hKF1,o2,hF,hK2⟩:=bindE hF
 refine qc3 (fun e w'=>∃ (b1:Bool),KF1 b1=some r∧e=[(1,.pointer (some ⟨bb1,0,none⟩)),(26,.bool b1)]∧SH w w' [Ch.box bb1 (qfH t p1 p2 p3 k1 k2 k3) 142]) ?_ ?_
 ·refine X1 3 0 h rfl (zcB h hF (qgH ⟨_,_,rfl,(h.oldS s1)⟩) rfl fun r2 w4 h hF=>zp2 rfl (qe (t:=8) hF rfl ?_ ?_))<;>intro hF
  ·refine X0 19 rfl ?_
   obtain rfl:=qa hF
   exact rG ⟨_,hK2,rfl,h⟩ rfl
  refine X1 5 0 h rfl (zcB h hF (qgH ⟨_,_,rfl,(h.oldS s2)⟩) rfl fun r3 w5 h hF=>X0 4 rfl (qe (t:=14) hF rfl ?_ ?_))<;>intro hF
  ·refine X0 13 rfl ?_
   obtain rfl:=qa hF
   exact rG ⟨_,hK2,rfl,h⟩ rfl
  refine X3 24 0 0 0 h rfl ?_
  obtain rfl:=qa hF
  exact rG ⟨_,hK2,rfl,h⟩ rfl
 rintro e2 w6 ⟨b1,hF,rfl,h⟩
 subst hKF1
 refine qf rfl hF ?_ ?_<;>intro hF
 ·exact X0 4 rfl (rb h hF rfl)
 refine X0 6 rfl ?_
 obtain ⟨o1,hF,hK1⟩:=qi hF
 refine qj (rL (fun m e w'=>∃ (i1:Int),qb6 t m i1=some o1∧e=[(1,.pointer (some ⟨bb1,0,none⟩)),(3,.int .i64 i1)]∧SH w w' [Ch.box bb1 (qfH t p1 p2 p3 k1 k2 k3) 142]) n ⟨_,hF,rfl,h⟩ rfl ?_)
 rintro m1 e1 w2 ⟨i1,hF,rfl,h⟩
 rcases m1 with _|m1
 ·cases hF
 refine X1 9 0 h rfl (qf rfl hF ?_ ?_)<;>intro hF
 ·refine X1 8 0 h rfl ?_
  obtain ⟨y1,hy1,hF,he1,b2,_,q1,cs2,hp1,hq1,rfl,hc3⟩:=s3.ix hF
  refine zxe hp1 hq1 he1 rfl (zc 0 (hc3.below h.below) rfl (zcB h hF qM rfl fun r1 w3 h hF=>X0 2 rfl (qf rfl hF ?_ ?_)))<;>intro hF
  ·refine X0 4 rfl ?_
   obtain rfl:=qa hF;replace hF:=hK1
   exact rb h hF rfl
  exact X0 7 rfl (rK ⟨_,hF,rfl,h⟩ rfl)
 refine qn rfl ?_
 obtain rfl:=qa hF;replace hF:=hK1
 exact X0 4 rfl (rb h hF rfl)
def qa5 (t:qb):Nat→Int→Int→Int→Option (Int × Int × Int)
 | 0,_,_,_=>none
 | n+1,i1,i2,i3 =>
  bif decide (i3<(t.Ab.length:Int)) then
   (idx t.Ab i3).bind fun y3 =>
   (idx t.Ab i3).bind fun y4 =>
   qa5 t n (if y3<i1 then y3 else i1) (if y4 > i2 then y4 else i2) (W64 (i3+1))
  else
   some (i1,i2,i3)
def qdA (n:Nat) (t:qb):Option (qaN × Int) :=
 (qeu n t).bind fun r1 =>
 bif (!r1) then some ((⟨0,0⟩:qaN),1) else
 (idx t.Ab 0).bind fun y1 =>
 (idx t.Ab 0).bind fun y2 =>
 (qa5 t n y1 y2 1).bind fun o=>match o with
 | (i1,i2,_) =>
  some ((⟨i1,i2⟩:qaN),0)
theorem qhr {t:qb} (ha1:GoT.R w (old w) t cs1) {r:(qaN × Int)} (hF:qdA n t=some r):RetV Tryz.prog 323 [GoT.v qb cs1] w r:=by
 obtain ⟨p1,k1,p2,k2,p3,k3,rfl,s1,s2,s3⟩:=qN ha1
 refine zV 45 Tryz.func323 rfl fun h=>zSR (qy h rfl rfl fun w1 bb1 h=>qJ qk h rfl rfl rfl fun w2 bb2 h=>X1 6 1 h rfl (zcB h hF (qgG (h.old ha1)) rfl fun r1 w3 h hF=>X0 2 rfl (qf rfl hF ?_ ?_)))<;>intro hF
 ·refine zSR (r_v (qhi qk [] [] rfl rfl rfl rfl rfl rfl rfl rfl) rfl (zs 0 h rfl fun w4 h=>X0 2 rfl ?_))
  obtain rfl:=qa hF
  exact qcs qk (ρ:=(qaN × Int)) [GoT.v qaN [.int .i64 0,.int .i64 0],GoT.v Int [.int .i64 1]] h ⟨⟨_,_,_,rfl,rfl,h.box 0 rfl,rfl⟩,rfl,trivial⟩ (PV.done h (qgq h (qaJ (S:=fun _=>False) (qj4 (⟨0,0⟩:qaN))) (qcP (qaJ (S:=fun _=>False) rfl)) (by rfl)))
 refine zKS (rA [] [1] h rfl fun w5 h=>M1 3 [0,1] 0 (h.pick [1] rfl) rfl ?_)
 obtain ⟨y1,hy1,hF,he1,b1,_,q1,cs2,hp1,hq1,rfl,hc2⟩:=s3.ix hF
 refine Ae 2 7 hp1 hq1 he1 (h.pick [1] rfl) rfl (Al 3 15 0 hc2 (h.pick [1] rfl) rfl (M1 63 [4,5] 0 (h.pick [1] rfl) rfl ?_))
 obtain ⟨y2,hy2,hF,he2,b2,_,q2,cs3,hp2,hq2,rfl,hc3⟩:=s3.ix hF
 refine Ae 6 127 hp2 hq2 he2 (h.pick [1] rfl) rfl (Al 7 255 0 hc3 (h.pick [1] rfl) rfl (Aw 8 511 (fun w' hw=>qhi qk [0,1] [.tmp 13,.tmp 17] rfl rfl rfl rfl rfl rfl rfl rfl) (h.pick [1] rfl) rfl ?_))
 refine Ao 9 1023 rfl (qJ qk h rfl rfl rfl fun w6 bb3 h=>Ag (h.pick [2] rfl) (Ao 10 2047 rfl (zs 0 h rfl fun w7 h=>Ag (h.pick [2] rfl) (Ad (X0 5 rfl ?_)))))
 obtain ⟨o1,hF,hK1⟩:=qi hF
 refine qj (rL (fun m e w'=>∃ (i1:Int) (i2:Int) (i3:Int),qa5 t m i1 i2 i3=some o1∧e=[(1,.pointer (some ⟨bb1,0,none⟩)),(2,.pointer (some ⟨bb2,0,none⟩)),(4,.pointer (some ⟨bb3,0,none⟩)),(5,.int .i64 i3)]∧SH w w' [Ch.box bb3 [.int .i64 i1,.int .i64 i2] 93,Ch.box bb2 [.int .i64 0,.int .i64 0] 93,Ch.box bb1 (qfH t p1 p2 p3 k1 k2 k3) 142]) n ⟨_,_,_,hF,rfl,h⟩ rfl ?_)
 rintro m1 e1 w8 ⟨i1,i2,i3,hF,rfl,h⟩
 rcases m1 with _|m1
 ·cases hF
 refine X1 9 2 h rfl (qf rfl hF ?_ ?_)<;>intro hF
 ·refine X0 4 rfl (rA [9] [0,2] h rfl fun w9 h=>M2 31 [0,1,2,3,4] 0 1 (h.pick [0,2] rfl) rfl ?_)
  obtain ⟨y3,hy3,hF,he3,b3,_,q3,cs4,hp3,hq3,rfl,hc5⟩:=s3.ix hF
  refine Ae 5 63 hp3 hq3 he3 (h.pick [0,2] rfl) rfl (Al 6 127 0 hc5 (h.pick [0,2] rfl) rfl (M0 511 [7,8] (h.pick [0,2] rfl) rfl (Ao 9 1023 rfl (zs 0 h rfl fun w10 h=>qlA (fun hs=>absurd (hs 9 (by decide)) (by decide)) (Ad (rA [9] [0,2] h rfl fun w11 h=>M2 31 [0,1,2,3,4] 0 1 (h.pick [0,2] rfl) rfl ?_))))))
  obtain ⟨y4,hy4,hF,he4,b4,_,q4,cs5,hp4,hq4,rfl,hc6⟩:=s3.ix hF
  exact Ae 5 63 hp4 hq4 he4 (h.pick [0,2] rfl) rfl (Al 6 127 0 hc6 (h.pick [0,2] rfl) rfl (M0 511 [7,8] (h.pick [0,2] rfl) rfl (Ao 9 1023 rfl (zs 0 h rfl fun w12 h=>qlA (fun hs=>absurd (hs 9 (by decide)) (by decide)) (Ad (X0 6 rfl (rK ⟨_,_,_,hF,rfl,h⟩ rfl)))))))
 refine qn rfl ?_
 obtain rfl:=qa hF;replace hF:=hK1
 refine X1 3 0 h rfl (zs 1 h rfl fun w13 h=>X0 2 rfl ?_)
 obtain rfl:=qa hF
 exact qcs qk (ρ:=(qaN × Int)) [GoT.v qaN [.int .i64 i1,.int .i64 i2],GoT.v Int [.int .i64 0]] h ⟨⟨_,_,_,rfl,rfl,h.box 1 rfl,rfl⟩,rfl,trivial⟩ (PV.done h (qgq h (qaJ (S:=fun _=>False) (qj4 (⟨i1,i2⟩:qaN))) (qcP (qaJ (S:=fun _=>False) rfl)) (by rfl)))
def qaU (list:(List qb)) (positive:Bool):Nat→Int→Option (Flow Bool Int)
 | 0,_=>none
 | n+1,i1 =>
  bif decide (i1<2) then
   (idx list i1).bind fun y1 =>
   (qdA n y1).bind fun o=>match o with
    | (r2,r3) =>
     bif (r3 != 0) then some (.ret false) else
     bif positive then
      bif decide (r2.Bk<0) then some (.ret false) else
      qaU list positive n (W64 (i1+1))
     else
      qaU list positive n (W64 (i1+1))
  else
   some (.nxt i1)
def qbq (n:Nat) (list:(List qb)) (positive:Bool):Option Bool :=
 bif ((list.length:Int) != 2) then some false else
 (qaU list positive n 0).bind fun o=>match o with
 | .ret r=>some r
 | .nxt _ =>
  some true
theorem qcm {list:(List qb)} {positive:Bool} (ha1:GoT.R w (old w) list cs1) {r:Bool} (hF:qbq n list positive=some r):RetV Tryz.prog 306 [GoT.v (List qb) cs1,.bool positive] w r:=by
 obtain ⟨p1,k1,rfl,s1⟩:=ha1
 refine zV 33 Tryz.func306 rfl fun h=>X0 11 rfl (qf rfl hF ?_ ?_)<;>intro hF
 ·exact X0 4 rfl (rb h hF rfl)
 refine X0 6 rfl ?_
 obtain ⟨o1,hF,hK1⟩:=qi hF
 refine qj (rL (fun m e w'=>∃ (i1:Int),qaU list positive m i1=some o1∧e=[(0,.slice p1 list.length k1),(1,.bool positive),(5,.int .i64 i1)]∧SH w w' []) n ⟨_,hF,rfl,h⟩ rfl ?_)
 rintro m1 e1 w1 ⟨i1,hF,rfl,h⟩
 rcases m1 with _|m1
 ·cases hF
 refine X0 6 rfl (qf rfl hF ?_ ?_)<;>intro hF
 ·refine X0 7 rfl ?_
  obtain ⟨y1,hy1,hF,he1,b1,_,q1,cs2,hp1,hq1,hr1,hc3⟩:=s1.ix hF
  obtain ⟨p2,k2,p3,k3,p4,k4,rfl,s2,s3,s4⟩:=qN hr1
  refine zxe hp1 hq1 he1 rfl (zc 0 (hc3.below h.below) rfl ?_)
  obtain ⟨r1,hr2,hF⟩:=qi hF
  obtain ⟨r2,r3⟩:=r1
  refine qhH (r2,r3) h (cB 323 rfl) (qhr (qdk y1 (h.oldS s2) (h.oldS s3) (h.oldS s4)) hr2) rfl rfl rfl rfl fun w2 S1 us1 hv1 hr3=>?_
  obtain ⟨S2,S3,cs3,us2,rfl,hv2,hr4⟩:=hv1.cons hr3
  obtain rfl:=qlB (hv2.sh.own 0 rfl)
  obtain ⟨rfl,h⟩:=hv2.lastI hr4
  refine zp3 rfl (qJ qk h rfl rfl rfl fun w3 bb1 h=>zs 0 h rfl fun w4 h=>X0 7 rfl (qe (t:=25) hF rfl ?_ ?_))<;>intro hF
  ·refine X0 8 rfl (qcv rfl rfl (X0 4 rfl ?_))
   obtain rfl:=qa hF;replace hF:=hK1
   exact rb h hF rfl
  refine X0 4 rfl (qe (t:=27) hF rfl ?_ ?_)<;>intro hF
  ·refine X1 10 0 h rfl (qf rfl hF ?_ ?_)<;>intro hF
   ·refine X0 4 rfl ?_
    obtain rfl:=qa hF;replace hF:=hK1
    exact rb h hF rfl
   refine X0 7 rfl ?_
   replace h:=h.pick [] rfl
   exact rK ⟨_,hF,rfl,h⟩ rfl
  refine X0 7 rfl (qcS rfl rfl (X0 7 rfl ?_))
  replace h:=h.pick [] rfl
  exact rK ⟨_,hF,rfl,h⟩ rfl
 refine qn rfl ?_
 obtain rfl:=qa hF;replace hF:=hK1
 exact X0 4 rfl (rb h hF rfl)
def qf6 (n:Nat) (a_0:ql) (a_1:qE):Option Bool :=
 (
  (qU n a_1.Ba 0 (W64 ((W64 ((a_0.Am.length:Int)-1))-1))).bind fun r7 =>
  bif (!r7) then some true else
  (qU n a_1.To 0 (W64 ((a_0.Am.length:Int)-1))).bind fun r8 =>
  some (!r8)).bind fun b1 =>
 bif b1 then some false else
 (idx a_0.Am a_1.Ba).bind fun y1 =>
 bif (a_1.Ar==1) then
  bif (!y1.Av) then
   bif (a_1.To==(W64 ((a_0.Am.length:Int)-1))) then
    (qU n a_1.Bc 1 3).bind fun r1 =>
    bif r1 then
     (qbq n a_1.Au true).bind fun r2 =>
     bif r2 then
      (qbq n a_1.Bb true).bind fun r3 =>
      some r3
     else
      some false
    else
     some false
   else
    some false
  else
   some false
 else
  (
   bif (a_1.Ar==2) then some (a_1.Ar==2) else
   some (a_1.Ar==3)).bind fun b3 =>
  bif b3 then
   bif y1.Av then
    bif (a_1.To==(W64 ((a_0.Am.length:Int)-1))) then
     bif (a_1.Bc==0) then
      (qbq n a_1.Au true).bind fun r4 =>
      bif r4 then
       (qbq n a_1.Bb true).bind fun r5 =>
       some r5
      else
       some false
     else
      some false
    else
     some false
   else
    some false
  else
   (
    bif (a_1.Ar==4) then some (a_1.Ar==4) else
    some (a_1.Ar==5)).bind fun b4 =>
   bif b4 then
    bif y1.Av then
     bif decide (a_1.To<(W64 ((a_0.Am.length:Int)-1))) then
      (idx a_0.Am a_1.To).bind fun y2 =>
      bif (!y2.Av) then
       bif (a_1.Bc==0) then
        (qbq n a_1.Au false).bind fun r6 =>
        bif r6 then some ((a_1.Bb.length:Int)==0) else
        some false
       else
        some false
      else
       some false
     else
      some false
    else
     some false
   else
    some false
theorem qi1 {a_0:ql} {a_1:qE} (ha1:GoT.R w (old w) a_0 cs1) (ha2:GoT.R w (old w) a_1 cs2) {r:Bool} (hF:qf6 n a_0 a_1=some r):RetV Tryz.prog 286 [GoT.v ql cs1,GoT.v qE cs2] w r:=by
 obtain ⟨p1,k1,p2,k2,p3,k3,rfl,s1,s2,s3⟩:=qD ha1
 obtain ⟨p4,k4,p5,k5,rfl,s4,s5⟩:=qK ha2
 refine zV 119 Tryz.func286 rfl fun h=>zSR (qy h rfl rfl fun w1 bb1 h=>qy h rfl rfl fun w2 bb2 h=>X1 12 1 h rfl ?_)
 obtain ⟨KF3,hKF3,o3,hF,hK3⟩:=bindE hF
 refine qc3 (fun e w'=>∃ (b1:Bool),KF3 b1=some r∧e=[(2,.pointer (some ⟨bb1,0,none⟩)),(3,.pointer (some ⟨bb2,0,none⟩)),(5,.int .i64 (W64 ((a_0.Am.length:Int)-1))),(23,.bool b1)]∧SH w w' [Ch.box bb2 (qhb a_1 p4 p5 k4 k5) 138,Ch.box bb1 (qbK a_0 p1 p2 p3 k1 k2 k3) 135]) ?_ ?_
 ·refine X1 5 0 h rfl (zcB h hF qM rfl fun r7 w11 h hF=>zp2 rfl (qe (t:=17) hF rfl ?_ ?_))<;>intro hF
  ·refine X0 7 rfl ?_
   obtain rfl:=qa hF
   exact rG ⟨_,hK3,rfl,h⟩ rfl
  refine X1 7 0 h rfl (zcB h hF qM rfl fun r8 w12 h hF=>X0 4 rfl ?_)
  obtain rfl:=qa hF
  exact rG ⟨_,hK3,rfl,h⟩ rfl
 rintro e3 w13 ⟨b1,hF,rfl,h⟩
 subst hKF3
 refine qf rfl hF ?_ ?_<;>intro hF
 ·exact X0 4 rfl (rb h hF rfl)
 refine X2 7 1 0 h rfl ?_
 obtain ⟨y1,hy1,hF,he1,b2,_,q1,cs3,hp1,hq1,hr1,hc2⟩:=s1.ix hF
 obtain rfl:=qax hr1
 refine zxe hp1 hq1 he1 rfl (zp1 rfl (zc 3 (hc2.below h.below) rfl (X1 14 0 h rfl (qf rfl hF ?_ ?_))))<;>intro hF
 ·refine X0 5 rfl (qe (t:=37) hF rfl ?_ ?_)<;>intro hF
  ·refine X1 10 0 h rfl (qe (t:=43) hF rfl ?_ ?_)<;>intro hF
   ·refine X1 5 0 h rfl (zcB h hF qM rfl fun r1 w3 h hF=>zp2 rfl (qe (t:=48) hF rfl ?_ ?_))<;>intro hF
    ·refine X1 5 0 h rfl (zcB h hF (qcm ⟨_,_,rfl,(h.oldS s4)⟩) rfl fun r2 w4 h hF=>zp2 rfl (qe (t:=53) hF rfl ?_ ?_))<;>intro hF
     ·exact X1 5 0 h rfl (zcB h hF (qcm ⟨_,_,rfl,(h.oldS s5)⟩) rfl fun r3 w5 h hF=>X0 3 rfl (rb h hF rfl))
     exact X0 6 rfl (rb h hF rfl)
    exact X0 11 rfl (rb h hF rfl)
   exact X0 16 rfl (rb h hF rfl)
  exact X0 22 rfl (rb h hF rfl)
 refine X0 6 rfl ?_
 obtain ⟨KF2,hKF2,o2,hF,hK2⟩:=bindE hF
 refine qc3 (fun e w'=>∃ (b3:Bool),KF2 b3=some r∧e=[(2,.pointer (some ⟨bb1,0,none⟩)),(3,.pointer (some ⟨bb2,0,none⟩)),(5,.int .i64 (W64 ((a_0.Am.length:Int)-1))),(6,.bool y1.Av),(32,.int .i64 a_1.Ar),(58,.bool b3)]∧SH w w' [Ch.box bb2 (qhb a_1 p4 p5 k4 k5) 138,Ch.box bb1 (qbK a_0 p1 p2 p3 k1 k2 k3) 135]) ?_ ?_
 ·refine qf rfl hF ?_ ?_<;>intro hF
  ·refine qfI ?_
   obtain rfl:=qa hF
   exact rG ⟨_,hK2,rfl,h⟩ rfl
  refine X0 4 rfl ?_
  obtain rfl:=qa hF
  exact rG ⟨_,hK2,rfl,h⟩ rfl
 rintro e2 w10 ⟨b3,hF,rfl,h⟩
 subst hKF2
 refine qf rfl hF ?_ ?_<;>intro hF
 ·refine X0 4 rfl (qe (t:=62) hF rfl ?_ ?_)<;>intro hF
  ·refine X1 10 0 h rfl (qe (t:=68) hF rfl ?_ ?_)<;>intro hF
   ·refine X1 8 0 h rfl (qe (t:=73) hF rfl ?_ ?_)<;>intro hF
    ·refine X1 5 0 h rfl (zcB h hF (qcm ⟨_,_,rfl,(h.oldS s4)⟩) rfl fun r4 w6 h hF=>zp2 rfl (qe (t:=78) hF rfl ?_ ?_))<;>intro hF
     ·exact X1 5 0 h rfl (zcB h hF (qcm ⟨_,_,rfl,(h.oldS s5)⟩) rfl fun r5 w7 h hF=>X0 3 rfl (rb h hF rfl))
     exact X0 6 rfl (rb h hF rfl)
    exact X0 11 rfl (rb h hF rfl)
   exact X0 16 rfl (rb h hF rfl)
  exact X0 22 rfl (rb h hF rfl)
 refine X0 6 rfl ?_
 obtain ⟨KF1,hKF1,o1,hF,hK1⟩:=bindE hF
 refine qc3 (fun e w'=>∃ (b4:Bool),KF1 b4=some r∧e=[(2,.pointer (some ⟨bb1,0,none⟩)),(3,.pointer (some ⟨bb2,0,none⟩)),(5,.int .i64 (W64 ((a_0.Am.length:Int)-1))),(6,.bool y1.Av),(83,.bool b4)]∧SH w w' [Ch.box bb2 (qhb a_1 p4 p5 k4 k5) 138,Ch.box bb1 (qbK a_0 p1 p2 p3 k1 k2 k3) 135]) ?_ ?_
 ·refine qf rfl hF ?_ ?_<;>intro hF
  ·refine qfI ?_
   obtain rfl:=qa hF
   exact rG ⟨_,hK1,rfl,h⟩ rfl
  refine X0 4 rfl ?_
  obtain rfl:=qa hF
  exact rG ⟨_,hK1,rfl,h⟩ rfl
 rintro e1 w9 ⟨b4,hF,rfl,h⟩
 subst hKF1
 refine qf rfl hF ?_ ?_<;>intro hF
 ·refine X0 4 rfl (qe (t:=87) hF rfl ?_ ?_)<;>intro hF
  ·refine X1 10 0 h rfl (qe (t:=93) hF rfl ?_ ?_)<;>intro hF
   ·refine X2 9 1 0 h rfl ?_
    obtain ⟨y2,hy2,hF,he2,b5,_,q2,cs4,hp2,hq2,hr7,hc6⟩:=s1.ix hF
    obtain rfl:=qax hr7
    refine zxe hp2 hq2 he2 rfl (X0 3 rfl (zc 3 (hc6.below h.below) rfl (X0 4 rfl (qe (t:=103) hF rfl ?_ ?_))))<;>intro hF
    ·refine X1 8 0 h rfl (qe (t:=108) hF rfl ?_ ?_)<;>intro hF
     ·refine X1 5 0 h rfl (zcB h hF (qcm ⟨_,_,rfl,(h.oldS s4)⟩) rfl fun r6 w8 h hF=>zp2 rfl (qe (t:=113) hF rfl ?_ ?_))<;>intro hF
      ·exact X1 11 0 h rfl (rb h hF rfl)
      exact X0 7 rfl (rb h hF rfl)
     exact X0 12 rfl (rb h hF rfl)
    exact X0 17 rfl (rb h hF rfl)
   exact X0 27 rfl (rb h hF rfl)
  exact X0 33 rfl (rb h hF rfl)
 exact X0 6 rfl (rb h hF rfl)
def qbd (c:ql):Nat→(List Int)→Int→Option ((List Int) × Int)
 | 0,_,_=>none
 | n+1,x2,i1 =>
  bif decide (i1<(c.Af.length:Int)) then
   (idx c.Af i1).bind fun y1 =>
   (idx x2 y1.Ar).bind fun y2 =>
   (idx x2 y1.Ar).bind fun _ =>
   qbd c n (setS x2 y1.Ar (W64 (y2+1))) (W64 (i1+1))
  else
   some (x2,i1)
def qeE (n:Nat) (c:ql):Option (List Int) :=
 (mkS 6 (0:Int)).bind fun x1 =>
 (qbd c n x1 0).bind fun o=>match o with
 | (x2,_) =>
  some x2
theorem qie {c:ql} (ha1:GoT.R w (old w) c cs1) {r:(List Int)} (hF:qeE n c=some r):RetV Tryz.prog 287 [GoT.v ql cs1] w r:=by
 obtain ⟨p1,k1,p2,k2,p3,k3,rfl,s1,s2,s3⟩:=qD ha1
 refine zV 25 Tryz.func287 rfl fun h=>zSR (qy h rfl rfl fun w1 bb1 h=>X0 4 rfl ?_)
 obtain ⟨x1,hx1,hF⟩:=qi hF
 obtain ⟨g1,g2,hx1⟩:=qcj hx1
 refine qdF qk Int h rfl rfl rfl rfl rfl rfl rfl rfl rfl g1 g2 hx1 rfl fun w2 S1 p4 h=>X0 7 rfl ?_
 obtain ⟨o1,hF,hK1⟩:=qi hF
 refine qj (rL (fun m e w'=>∃ (x2:(List Int)) (i1:Int),qbd c m x2 i1=some o1∧e=[(1,.pointer (some ⟨bb1,0,none⟩)),(3,.slice p4 x1.length x1.length),(4,.int .i64 i1)]∧SH w w' [Ch.own S1 (x2:List Int) [.slice p4 x1.length x1.length],Ch.box bb1 (qbK c p1 p2 p3 k1 k2 k3) 135]) n ⟨_,_,hF,rfl,h⟩ rfl ?_)
 rintro m1 e1 w3 ⟨x2,i1,hF,rfl,h⟩
 rcases m1 with _|m1
 ·cases hF
 refine X1 9 1 h rfl (qf rfl hF ?_ ?_)<;>intro hF
 ·refine X1 8 1 h rfl ?_
  obtain ⟨y1,hy1,hF,he1,b1,_,q1,cs2,hp1,hq1,hr1,hc2⟩:=s2.ix hF
  obtain ⟨p5,k4,p6,k5,rfl,s4,s5⟩:=qK hr1
  refine zxe hp1 hq1 he1 rfl (zp1 rfl (zc 0 (hc2.below h.below) rfl ?_))
  obtain ⟨y2,hy2,hF,he2,b2,_,q2,cs3,hp2,hq2,rfl,hc3⟩:=(h.sl 0 rfl).1.ix hF
  refine zx hp2 hq2 ⟨he2.1,qbO he2.2.1 (h.sl 0 rfl).2⟩ rfl (zc 0 hc3 rfl (zp1 rfl ?_))
  obtain ⟨y3,hy3,hF,he3,b3,_,q3,cs4,hp3,hq3,rfl,hc4⟩:=(h.sl 0 rfl).1.ix hF
  exact zx hp3 hq3 ⟨he3.1,qbO he3.2.1 (h.sl 0 rfl).2⟩ rfl (qeL qk 0 0 (W64 (y2+1)) h rfl hy3 hp3 hq3 rfl hc4 rfl rfl rfl rfl rfl rfl rfl fun w4 h=>X0 7 rfl (rK ⟨_,_,hF,rfl,h⟩ rfl))
 refine qn rfl ?_
 obtain rfl:=qa hF;replace hF:=hK1
 refine X0 5 rfl ?_
 obtain rfl:=qa hF
 exact rO 0 h rfl ⟨rfl,trivial⟩
def qbp (a_0:ql) (i1:Int) (y1:qE):Nat→Int→Option (Flow Bool Int)
 | 0,_=>none
 | n+1,i2 =>
  bif decide (i2<i1) then
   (idx a_0.Af i2).bind fun y2 =>
   bif (y2.Ar==y1.Ar) then
    (idx a_0.Af i2).bind fun y3 =>
    bif (y3.Ba==y1.Ba) then
     (idx a_0.Af i2).bind fun y4 =>
     bif (y4.To==y1.To) then some (.ret false) else
     qbp a_0 i1 y1 n (W64 (i2+1))
    else
     qbp a_0 i1 y1 n (W64 (i2+1))
   else
    qbp a_0 i1 y1 n (W64 (i2+1))
  else
   some (.nxt i2)
def qcC (a_0:ql):Nat→Int→Option (Flow Bool Int)
 | 0,_=>none
 | n+1,i3 =>
  bif decide (i3<(a_0.Az.length:Int)) then
   (idx a_0.Az i3).bind fun y5 =>
   (qU n y5 0 1).bind fun r6 =>
   bif (!r6) then some (.ret false) else
   qcC a_0 n (W64 (i3+1))
  else
   some (.nxt i3)
def qcx (a_0:ql):Nat→Int→Option (Flow Bool Int)
 | 0,_=>none
 | n+1,i1 =>
  bif decide (i1<(a_0.Af.length:Int)) then
   (idx a_0.Af i1).bind fun y1 =>
   (qf6 n a_0 y1).bind fun r4 =>
   bif (!r4) then some (.ret false) else
   (qbp a_0 i1 y1 n 0).bind fun o=>match o with
   | .ret r=>some (.ret r)
   | .nxt _ =>
    qcx a_0 n (W64 (i1+1))
  else
   some (.nxt i1)
def qf3 (n:Nat) (a_0:ql):Option Bool :=
 (qfs n a_0).bind fun o=>match o with
  | (r2,r3) =>
   (
    bif (!r3) then some true else
    (qdv n a_0.Ap).bind fun r7 =>
    bif (!r7) then some true else
    bif decide ((a_0.Af.length:Int) > 8) then some true else
    (qU n a_0.Bo 0 100000).bind fun r8 =>
    bif (!r8) then some true else
    (qU n a_0.Be 0 100000).bind fun r9 =>
    some (!r9)).bind fun b1 =>
   bif b1 then some false else
   (qcx a_0 n 0).bind fun o=>match o with
   | .ret r=>some r
   | .nxt _ =>
    (qeE n a_0).bind fun r5 =>
    bif (a_0.Ar==1) then
     (qcC a_0 n 0).bind fun o=>match o with
     | .ret r=>some r
     | .nxt _ =>
      bif (r2==0) then
       (shlS 1 (IntKind.wrap .u64 (W64 ((a_0.Am.length:Int)-1)))).bind fun y6 =>
       some ((a_0.Az.length:Int)==y6)
      else
       some false
    else
     bif (a_0.Ar==2) then
      bif (r2==1) then
       (idx r5 1).bind fun y7 =>
       bif (y7==0) then
        (idx r5 2).bind fun y8 =>
        (idx r5 3).bind fun y9 =>
        bif (!((decide (y8 > 0))==(decide (y9 > 0)))) then some ((a_0.Az.length:Int)==0) else
        some false
       else
        some false
      else
       some false
     else
      bif (a_0.Ar==3) then
       bif (r2==1) then
        (idx r5 1).bind fun y10 =>
        bif decide (y10 > 0) then
         (idx r5 2).bind fun y11 =>
         bif decide (y11 > 0) then
          (idx r5 3).bind fun y12 =>
          bif (y12==0) then some ((a_0.Az.length:Int)==0) else
          some false
         else
          some false
        else
         some false
       else
        some false
      else
       some false
theorem qi0 {a_0:ql} (ha1:GoT.R w (old w) a_0 cs1) {r:Bool} (hF:qf3 n a_0=some r):RetV Tryz.prog 243 [GoT.v ql cs1] w r:=by
 obtain ⟨p1,k1,p2,k2,p3,k3,rfl,s1,s2,s3⟩:=qD ha1
 refine zV 182 Tryz.func243 rfl fun h=>zSR (qy h rfl rfl fun w1 bb1 h=>X1 5 0 h rfl ?_)
 obtain ⟨r1,hr1,hF⟩:=qi hF
 obtain ⟨r2,r3⟩:=r1
 refine qhH (r2,r3) h (cB 285 rfl) (qiP (h.old ha1) hr1) rfl rfl rfl rfl fun w2 S1 us1 hv1 hr2=>?_
 obtain ⟨S2,us2,rfl,hv2,hr3⟩:=hv1.consI hr2
 obtain ⟨rfl,h⟩:=hv2.lastB hr3
 refine X0 8 rfl ?_
 obtain ⟨KF1,hKF1,o4,hF,hK4⟩:=bindE hF
 refine qc3 (fun e w'=>∃ (b1:Bool),KF1 b1=some r∧e=[(1,.pointer (some ⟨bb1,0,none⟩)),(3,.int .i64 r2),(40,.bool b1)]∧SH w w' [Ch.box bb1 (qbK a_0 p1 p2 p3 k1 k2 k3) 135]) ?_ ?_
 ·refine X0 4 rfl (qe (t:=17) hF rfl ?_ ?_)<;>intro hF
  ·refine X0 24 rfl ?_
   obtain rfl:=qa hF
   exact rG ⟨_,hK4,rfl,h⟩ rfl
  refine X1 5 0 h rfl (zcB h hF qe9 rfl fun r7 w18 h hF=>X0 4 rfl (qe (t:=23) hF rfl ?_ ?_))<;>intro hF
  ·refine X0 18 rfl ?_
   obtain rfl:=qa hF
   exact rG ⟨_,hK4,rfl,h⟩ rfl
  refine X1 10 0 h rfl (qe (t:=29) hF rfl ?_ ?_)<;>intro hF
  ·refine X0 12 rfl ?_
   obtain rfl:=qa hF
   exact rG ⟨_,hK4,rfl,h⟩ rfl
  refine X1 5 0 h rfl (zcB h hF qM rfl fun r8 w19 h hF=>X0 4 rfl (qe (t:=35) hF rfl ?_ ?_))<;>intro hF
  ·refine X0 6 rfl ?_
   obtain rfl:=qa hF
   exact rG ⟨_,hK4,rfl,h⟩ rfl
  refine X1 5 0 h rfl (zcB h hF qM rfl fun r9 w20 h hF=>X0 4 rfl ?_)
  obtain rfl:=qa hF
  exact rG ⟨_,hK4,rfl,h⟩ rfl
 rintro e4 w21 ⟨b1,hF,rfl,h⟩
 subst hKF1
 refine qf rfl hF ?_ ?_<;>intro hF
 ·exact X0 4 rfl (rb h hF rfl)
 refine X0 6 rfl ?_
 obtain ⟨o1,hF,hK1⟩:=qi hF
 refine qj (rL (fun m e w'=>∃ (i1:Int),qcx a_0 m i1=some o1∧e=[(1,.pointer (some ⟨bb1,0,none⟩)),(3,.int .i64 r2),(5,.int .i64 i1)]∧SH w w' [Ch.box bb1 (qbK a_0 p1 p2 p3 k1 k2 k3) 135]) n ⟨_,hF,rfl,h⟩ rfl ?_)
 rintro m1 e1 w3 ⟨i1,hF,rfl,h⟩
 rcases m1 with _|m1
 ·cases hF
 refine X1 9 0 h rfl (qf rfl hF ?_ ?_)<;>intro hF
 ·refine X1 8 0 h rfl ?_
  obtain ⟨y1,hy1,hF,he1,b2,_,q1,cs2,hp1,hq1,hr5,hc3⟩:=s2.ix hF
  obtain ⟨p4,k4,p5,k5,rfl,s4,s5⟩:=qK hr5
  refine zxe hp1 hq1 he1 rfl (zc 0 (hc3.below h.below) rfl (qJ qk h rfl rfl rfl fun w4 bb2 h=>zs 0 h rfl fun w5 h=>X2 6 1 0 h rfl (zcB h hF (qi1 (h.old ha1) (qdS y1 (h.oldS s4) (h.oldS s5))) rfl fun r4 w6 h hF=>X0 2 rfl (qf rfl hF ?_ ?_))))<;>intro hF
  ·refine X0 4 rfl ?_
   obtain rfl:=qa hF;replace hF:=hK1
   exact rb h hF rfl
  refine X0 5 rfl ?_
  obtain ⟨o2,hF,hK2⟩:=qi hF
  refine qj (rL (fun m e w'=>∃ (i2:Int),qbp a_0 i1 y1 m i2=some o2∧e=[(1,.pointer (some ⟨bb1,0,none⟩)),(3,.int .i64 r2),(5,.int .i64 i1),(6,.pointer (some ⟨bb2,0,none⟩)),(7,.int .i64 i2)]∧SH w w' [Ch.box bb2 (qhb y1 p4 p5 k4 k5) 138,Ch.box bb1 (qbK a_0 p1 p2 p3 k1 k2 k3) 135]) m1 ⟨_,hF,rfl,h⟩ rfl ?_)
  rintro m2 e2 w7 ⟨i2,hF,rfl,h⟩
  rcases m2 with _|m2
  ·cases hF
  refine X0 7 rfl (qf rfl hF ?_ ?_)<;>intro hF
  ·refine X0 4 rfl (rD (Y1 2 1 h rfl ?_))
   refine zd1 rfl ?_
   obtain ⟨y2,hy2,hF,he2,b3,_,q2,cs3,hp2,hq2,hr7,hc6⟩:=s2.ix hF
   obtain ⟨p6,k6,p7,k7,rfl,s6,s7⟩:=qK hr7
   refine zdxe hp2 hq2 he2 rfl (zd1 rfl (zdc 0 (hc6.below h.below) rfl (Y1 2 0 h rfl ?_)))
   refine zd2 rfl (qaA (t:=71) hF rfl ?_ ?_)<;>intro hF
   ·refine Y1 4 1 h rfl ?_
    refine Y0 3 rfl ?_
    obtain ⟨y3,hy3,hF,he3,b4,_,q3,cs4,hp3,hq3,hr8,hc7⟩:=s2.ix hF
    obtain ⟨p8,k8,p9,k9,rfl,s8,s9⟩:=qK hr8
    refine zdxe hp3 hq3 he3 rfl (Y0 3 rfl (zdc 1 (hc7.below h.below) rfl (Y1 4 0 h rfl ?_)))
    refine Y0 4 rfl (qaA (t:=82) hF rfl ?_ ?_)<;>intro hF
    ·refine Y1 4 1 h rfl ?_
     refine Y0 3 rfl ?_
     obtain ⟨y4,hy4,hF,he4,b5,_,q4,cs5,hp4,hq4,hr9,hc8⟩:=s2.ix hF
     obtain ⟨p10,k10,p11,k11,rfl,s10,s11⟩:=qK hr9
     refine zdxe hp4 hq4 he4 rfl (Y0 3 rfl (zdc 2 (hc8.below h.below) rfl (Y1 4 0 h rfl ?_)))
     refine Y0 3 rfl (dN h fun w8 h=>qf rfl hF ?_ ?_)<;>intro hF
     ·refine X0 4 rfl ?_
      obtain rfl:=qa hF;replace hF:=hK2
      obtain rfl:=qa hF;replace hF:=hK1
      exact rb h hF rfl
     exact X0 7 rfl (rK ⟨_,hF,rfl,h⟩ rfl)
    exact Y0 10 rfl (dN h fun w9 h=>qcS rfl rfl (X0 7 rfl (rK ⟨_,hF,rfl,h⟩ rfl)))
   exact Y0 21 rfl (dN h fun w10 h=>qcS rfl rfl (X0 7 rfl (rK ⟨_,hF,rfl,h⟩ rfl)))
  refine qn rfl ?_
  obtain rfl:=qa hF;replace hF:=hK2
  refine X0 6 rfl ?_
  replace h:=h.pick [1] rfl
  exact rK ⟨_,hF,rfl,h⟩ rfl
 refine qn rfl ?_
 obtain rfl:=qa hF;replace hF:=hK1
 refine X1 3 0 h rfl (zcL h hF (qie (h.old ha1)) rfl fun r5 w11 S4 p12 k12 h hF=>X1 14 1 h rfl (qf rfl hF ?_ ?_))<;>intro hF
 ·refine X0 5 rfl ?_
  obtain ⟨o3,hF,hK3⟩:=qi hF
  refine qj ?_
  replace h:=h.pick [1] rfl
  refine rL (fun m e w'=>∃ (i3:Int),qcC a_0 m i3=some o3∧e=[(1,.pointer (some ⟨bb1,0,none⟩)),(3,.int .i64 r2),(9,.int .i64 i3)]∧SH w w' [Ch.box bb1 (qbK a_0 p1 p2 p3 k1 k2 k3) 135]) n ⟨_,hF,rfl,h⟩ rfl ?_
  rintro m3 e3 w12 ⟨i3,hF,rfl,h⟩
  rcases m3 with _|m3
  ·cases hF
  refine X1 9 0 h rfl (qf rfl hF ?_ ?_)<;>intro hF
  ·refine X1 8 0 h rfl ?_
   obtain ⟨y5,hy5,hF,he5,b6,_,q5,cs6,hp5,hq5,rfl,hc12⟩:=s3.ix hF
   refine zxe hp5 hq5 he5 rfl (zc 0 (hc12.below h.below) rfl (zcB h hF qM rfl fun r6 w13 h hF=>X0 2 rfl (qf rfl hF ?_ ?_)))<;>intro hF
   ·refine X0 4 rfl ?_
    obtain rfl:=qa hF;replace hF:=hK3
    exact rb h hF rfl
   exact X0 7 rfl (rK ⟨_,hF,rfl,h⟩ rfl)
  refine qn rfl ?_
  obtain rfl:=qa hF;replace hF:=hK3
  refine X0 5 rfl (qe (t:=115) hF rfl ?_ ?_)<;>intro hF
  ·refine X2 17 0 0 h rfl ?_
   obtain ⟨y6,hx1,hF⟩:=qi hF
   obtain ⟨g1,hx1⟩:=qkb hx1
   refine r_v (qn2 g1 rfl rfl) rfl ?_
   rw [hx1]
   exact X0 5 rfl (rb h hF rfl)
  exact X0 13 rfl (rb h hF rfl)
 refine X0 5 rfl (qf rfl hF ?_ ?_)<;>intro hF
 ·refine qd6 (rD (zd3 rfl (qaA (t:=131) hF rfl ?_ ?_)))<;>intro hF
  ·refine Y0 3 rfl ?_
   obtain ⟨y7,hy6,hF,he6,b7,_,q6,cs7,hp6,hq6,rfl,hc15⟩:=(h.sl 0 rfl).1.ix hF
   refine zdx hp6 hq6 ⟨he6.1,qbO he6.2.1 (h.sl 0 rfl).2⟩ rfl (Y0 1 rfl (zdc 0 hc15 rfl (Y0 4 rfl (qaA (t:=137) hF rfl ?_ ?_))))<;>intro hF
   ·refine Y0 3 rfl ?_
    obtain ⟨y8,hy7,hF,he7,b8,_,q7,cs8,hp7,hq7,rfl,hc16⟩:=(h.sl 0 rfl).1.ix hF
    refine zdx hp7 hq7 ⟨he7.1,qbO he7.2.1 (h.sl 0 rfl).2⟩ rfl (Y0 1 rfl (zdc 0 hc16 rfl (Y0 5 rfl ?_)))
    obtain ⟨y9,hy8,hF,he8,b9,_,q8,cs9,hp8,hq8,rfl,hc17⟩:=(h.sl 0 rfl).1.ix hF
    refine zdx hp8 hq8 ⟨he8.1,qbO he8.2.1 (h.sl 0 rfl).2⟩ rfl (Y0 1 rfl (zdc 0 hc17 rfl (Y0 6 rfl (qaA (t:=148) hF rfl ?_ ?_))))<;>intro hF
    ·refine Y1 4 1 h rfl ?_
     exact Y0 6 rfl (dN h fun w14 h=>rb h hF rfl)
    exact Y0 6 rfl (dN h fun w15 h=>rb h hF rfl)
   exact Y0 17 rfl (dN h fun w16 h=>rb h hF rfl)
  exact Y0 23 rfl (dN h fun w17 h=>rb h hF rfl)
 refine X0 5 rfl (qf rfl hF ?_ ?_)<;>intro hF
 ·refine X0 5 rfl (qe (t:=158) hF rfl ?_ ?_)<;>intro hF
  ·refine X0 3 rfl ?_
   obtain ⟨y10,hy9,hF,he9,b10,_,q9,cs10,hp9,hq9,rfl,hc19⟩:=(h.sl 0 rfl).1.ix hF
   refine zx hp9 hq9 ⟨he9.1,qbO he9.2.1 (h.sl 0 rfl).2⟩ rfl (X0 1 rfl (zc 0 hc19 rfl (X0 4 rfl (qe (t:=164) hF rfl ?_ ?_))))<;>intro hF
   ·refine X0 3 rfl ?_
    obtain ⟨y11,hy10,hF,he10,b11,_,q10,cs11,hp10,hq10,rfl,hc20⟩:=(h.sl 0 rfl).1.ix hF
    refine zx hp10 hq10 ⟨he10.1,qbO he10.2.1 (h.sl 0 rfl).2⟩ rfl (X0 1 rfl (zc 0 hc20 rfl (X0 4 rfl (qe (t:=170) hF rfl ?_ ?_))))<;>intro hF
    ·refine X0 3 rfl ?_
     obtain ⟨y12,hy11,hF,he11,b12,_,q11,cs12,hp11,hq11,rfl,hc21⟩:=(h.sl 0 rfl).1.ix hF
     refine zx hp11 hq11 ⟨he11.1,qbO he11.2.1 (h.sl 0 rfl).2⟩ rfl (X0 1 rfl (zc 0 hc21 rfl (X0 4 rfl (qe (t:=176) hF rfl ?_ ?_))))<;>intro hF
     ·exact X1 11 1 h rfl (rb h hF rfl)
     exact X0 7 rfl (rb h hF rfl)
    exact X0 13 rfl (rb h hF rfl)
   exact X0 19 rfl (rb h hF rfl)
  exact X0 25 rfl (rb h hF rfl)
 exact X0 6 rfl (rb h hF rfl)
def qbw (l:qm) (i1:Int):Nat→Int→Option (Flow Bool Int)
 | 0,_=>none
 | n+1,i2 =>
  bif decide (i2<i1) then
   (idx l.Ai i2).bind fun y2 =>
   (idx l.Ai i1).bind fun y3 =>
   bif (y2.Ap.toList==y3.Ap.toList) then some (.ret false) else
   qbw l i1 n (W64 (i2+1))
  else
   some (.nxt i2)
def qbu (l:qm):Nat→Int→Option (Flow Bool Int)
 | 0,_=>none
 | n+1,i1 =>
  bif decide (i1<(l.Ai.length:Int)) then
   (idx l.Ai i1).bind fun y1 =>
   (qf3 n y1).bind fun r1 =>
   bif (!r1) then some (.ret false) else
   (qbw l i1 n 0).bind fun o=>match o with
   | .ret r=>some (.ret r)
   | .nxt _ =>
    qbu l n (W64 (i1+1))
  else
   some (.nxt i1)
def qen (n:Nat) (l:qm):Option Bool :=
 (qbu l n 0).bind fun o=>match o with
 | .ret r=>some r
 | .nxt _ =>
  some (decide ((l.Ai.length:Int)≤8))
theorem qh7 {l:qm} (ha1:GoT.R w (old w) l cs1) {r:Bool} (hF:qen n l=some r):RetV Tryz.prog 188 [GoT.v qm cs1] w r:=by
 obtain ⟨p1,k1,rfl,s1⟩:=qaK ha1
 refine zV 41 Tryz.func188 rfl fun h=>zSR (qy h rfl rfl fun w1 bb1 h=>X0 7 rfl ?_)
 obtain ⟨o1,hF,hK1⟩:=qi hF
 refine qj (rL (fun m e w'=>∃ (i1:Int),qbu l m i1=some o1∧e=[(1,.pointer (some ⟨bb1,0,none⟩)),(3,.int .i64 i1)]∧SH w w' [Ch.box bb1 [.slice p1 l.Ai.length k1] 50]) n ⟨_,hF,rfl,h⟩ rfl ?_)
 rintro m1 e1 w2 ⟨i1,hF,rfl,h⟩
 rcases m1 with _|m1
 ·cases hF
 refine X1 9 0 h rfl (qf rfl hF ?_ ?_)<;>intro hF
 ·refine X1 9 0 h rfl ?_
  obtain ⟨y1,hy1,hF,he1,b1,_,q1,cs2,hp1,hq1,hr1,hc2⟩:=s1.ix hF
  obtain ⟨p2,k2,p3,k3,p4,k4,rfl,s2,s3,s4⟩:=qD hr1
  refine zxe hp1 hq1 he1 rfl (zc 0 (hc2.below h.below) rfl (zcB h hF (qi0 (qft y1 (h.oldS s2) (h.oldS s3) (h.oldS s4))) rfl fun r1 w3 h hF=>X0 2 rfl (qf rfl hF ?_ ?_)))<;>intro hF
  ·refine X0 4 rfl ?_
   obtain rfl:=qa hF;replace hF:=hK1
   exact rb h hF rfl
  refine X0 5 rfl ?_
  obtain ⟨o2,hF,hK2⟩:=qi hF
  refine qj (rL (fun m e w'=>∃ (i2:Int),qbw l i1 m i2=some o2∧e=[(1,.pointer (some ⟨bb1,0,none⟩)),(3,.int .i64 i1),(4,.int .i64 i2)]∧SH w w' [Ch.box bb1 [.slice p1 l.Ai.length k1] 50]) m1 ⟨_,hF,rfl,h⟩ rfl ?_)
  rintro m2 e2 w4 ⟨i2,hF,rfl,h⟩
  rcases m2 with _|m2
  ·cases hF
  refine X0 7 rfl (qf rfl hF ?_ ?_)<;>intro hF
  ·refine X0 4 rfl (rD (Y1 2 0 h rfl ?_))
   refine zd1 rfl ?_
   obtain ⟨y2,hy2,hF,he2,b2,_,q2,cs3,hp2,hq2,hr3,hc5⟩:=s1.ix hF
   obtain ⟨p5,k5,p6,k6,p7,k7,rfl,s5,s6,s7⟩:=qD hr3
   refine zdxe hp2 hq2 he2 rfl (zd1 rfl (zdc 0 (hc5.below h.below) rfl (Y1 2 0 h rfl ?_)))
   refine zd1 rfl ?_
   obtain ⟨y3,hy3,hF,he3,b3,_,q3,cs4,hp3,hq3,hr4,hc6⟩:=s1.ix hF
   obtain ⟨p8,k8,p9,k9,p10,k10,rfl,s8,s9,s10⟩:=qD hr4
   refine zdxe hp3 hq3 he3 rfl (zd1 rfl (zdc 0 (hc6.below h.below) rfl (zd1 rfl (dN h fun w5 h=>qf rfl hF ?_ ?_))))<;>intro hF
   ·refine X0 4 rfl ?_
    obtain rfl:=qa hF;replace hF:=hK2
    obtain rfl:=qa hF;replace hF:=hK1
    exact rb h hF rfl
   exact X0 7 rfl (rK ⟨_,hF,rfl,h⟩ rfl)
  refine qn rfl ?_
  obtain rfl:=qa hF;replace hF:=hK2
  exact X0 6 rfl (rK ⟨_,hF,rfl,h⟩ rfl)
 refine qn rfl ?_
 obtain rfl:=qa hF;replace hF:=hK1
 exact X1 8 0 h rfl (rb h hF rfl)
end Go.Fw
