/- Sorted lists of tags: insertion, what a sorted list is known by, lists that grow. -/
import Derived.Test.YtmemiabhkcdgcaaGreatDoorFw27
import Derived.KernelRfl
open Option renaming bind_some → je, map_some → jV
open Nat renaming le_refl → jf, le_of_ble_eq_true → jt, mul_le_mul_right → ju, lt_of_lt_of_le → jz, zero_le → jG, succ_mul → jP, le_trans → jS, add_zero → jY, zero_add → Ji
open List renaming getElem?_eq_getElem → jg, mem_cons_of_mem → jm, mem_cons_self → jn, length_append → jo, getElem_mem → jp, getElem?_append_left → jq, getElem?_take → jr, take_succ_eq_append_getElem → js, length_singleton → jw, getElem?_append_right → jy, mem_of_getElem? → jA, getElem?_drop → jB, take_length → jC, drop_eq_getElem_cons → jD, eq_nil_of_length_eq_zero → jE, getElem?_toArray → jF, map_append → jH, getElem_of_mem → jI, getD_eq_getElem?_getD → jK, getElem?_cons_succ → jL, append_nil → jM, length_map → jN, size_toArray → jQ, mem_append_left → jR, range_succ → jT, map_cons → jU, all_eq_true → jW, length_cons → jZ, drop_eq_nil_of_le → Ja, length_take → Jb, ext_getElem → Jc, append_assoc → Jd, length_filter_le → Je, getElem?_set_ne → Jf, not_mem_nil → Jg, mem_cons → Jh
open Go.Result renaming andThen_ok → jh
open Bool renaming and_eq_true → ji, eq_iff_iff → jk, true_and → jJ, not_eq_true' → jO, not_true → Jj, false_or → Jk
open Go.Sem renaming run_bind → jj, run_pure → jl
open Int renaming toNat_natCast → jx
open Array renaming getElem?_append_left → jX

namespace Go.Fw
def ordI (x y:Int):Int:=if x<y then -1 else if y<x then 1 else 0
theorem qmh (x y:Int):ordI y x=-(ordI x y):=by unfold ordI;(repeat' split)<;>omega
theorem qtT (x y z:Int):ordI x y=0→ordI x z=ordI y z:=by unfold ordI;(repeat' split)<;>omega
theorem qwO (x y z:Int):ordI x y<0→ordI y z<0→ordI x z<0:=by unfold ordI;(repeat' split)<;>omega
theorem qxz {x y:Int} (h:ordI x y=0):x=y:=by unfold ordI at h;(repeat' split at h)<;>omega
theorem quL (x:Int):ordI x x=0:=by unfold ordI;(repeat' split)<;>omega
def cmpLk:List Int→List Int→Int
 | [],[]=>0
 | [],_::_=>-1
 | _::_,[]=>1
 | x::xs,y::ys=>if ordI x y=0 then cmpLk xs ys else ordI x y
theorem qiq:∀ xs ys,cmpLk ys xs=-(cmpLk xs ys)
 | [],[]=>rfl
 | [],_::_=>rfl
 | _::_,[]=>rfl
 | x::xs,y::ys=>by
  have a:=qmh x y
  have b:=qiq xs ys
  simp only [cmpLk]
  by_cases e:ordI x y=0
  ·rw [if_pos e,if_pos (by omega)];exact b
  ·rw [if_neg e,if_neg (by omega)];exact a
theorem qoY:∀ xs ys,cmpLk xs ys=0→xs=ys
 | [],[],_=>rfl
 | [],_::_,h=>by simp [cmpLk] at h
 | _::_,[],h=>by simp [cmpLk] at h
 | x::xs,y::ys,h=>by
  simp only [cmpLk] at h
  by_cases e:ordI x y=0
  ·rw [if_pos e] at h
   rw [qxz e,qoY xs ys h]
  ·rw [if_neg e] at h;exact absurd h e
theorem qm1:∀ xs,cmpLk xs xs=0
 | []=>rfl
 | x::xs=>by simp only [cmpLk];rw [if_pos (quL x)];exact qm1 xs
theorem qkW:∀ xs ys zs,cmpLk xs ys<0→cmpLk ys zs<0→cmpLk xs zs<0
 | [],[],_,h,_=>by simp [cmpLk] at h
 | _::_,[],_,h,_=>by simp [cmpLk] at h
 | _,_::_,[],_,h=>by simp [cmpLk] at h
 | [],_::_,_::_,_,_=>by simp [cmpLk]
 | x::xs,y::ys,z::zs,h1,h2=>by
  simp only [cmpLk] at h1 h2 ⊢
  have a1:=qmh x y
  have a2:=qmh y z
  have a3:=qmh x z
  by_cases e1:ordI x y=0
  ·rw [if_pos e1] at h1
   have q1:=qtT x y z e1
   by_cases e2:ordI y z=0
   ·rw [if_pos e2] at h2
    rw [if_pos (by omega)];exact qkW xs ys zs h1 h2
   ·rw [if_neg e2] at h2
    rw [if_neg (by omega)];omega
  ·rw [if_neg e1] at h1
   by_cases e2:ordI y z=0
   ·rw [if_pos e2] at h2
    have q2:=qtT y z x e2
    rw [if_neg (by omega)];omega
   ·rw [if_neg e2] at h2
    have q3:=qwO x y z h1 h2
    rw [if_neg (by omega)];exact q3
def Srt (xs:List (List Int)):Prop:=xs.Pairwise fun x y=>cmpLk x y<0
theorem qtR:Srt []:=List.Pairwise.nil
theorem qtV {t:List Int}:Srt [t]:=List.pairwise_singleton _ _
theorem qn2 {x:List Int} {xs:List (List Int)} (h:Srt (x::xs)):x ∉ xs:=fun hm=>by
 have:=(List.pairwise_cons.1 h).1 x hm
 rw [qm1] at this;omega
theorem qpm:∀ {xs ys:List (List Int)},Srt xs→Srt ys→(∀ t,t ∈ xs↔t ∈ ys)→xs=ys
 | [],[],_,_,_=>rfl
 | [],y::ys,_,_,h=>absurd ((h y).2 (jn ..)) (by simp)
 | x::xs,[],_,_,h=>absurd ((h x).1 (jn ..)) (by simp)
 | x::xs,y::ys,h1,h2,h=>by
  have p1:=List.pairwise_cons.1 h1
  have p2:=List.pairwise_cons.1 h2
  have e:x=y:=by
   rcases List.mem_cons.1 ((h x).1 (jn ..)) with e|hx
   ·exact e
   rcases List.mem_cons.1 ((h y).2 (jn ..)) with e|hy
   ·exact e.symm
   have a:=p2.1 x hx
   have b:=p1.1 y hy
   have:=qiq x y
   omega
  subst e
  have n1:=qn2 h1
  have n2:=qn2 h2
  rw [qpm p1.2 p2.2 fun t=>?_]
  constructor
  ·intro ht
   rcases List.mem_cons.1 ((h t).1 (jm _ ht)) with e|ht'
   ·subst e;exact absurd ht n1
   ·exact ht'
  ·intro ht
   rcases List.mem_cons.1 ((h t).2 (jm _ ht)) with e|ht'
   ·subst e;exact absurd ht n2
   ·exact ht'
theorem qtI:∀ {xs ys:List (List Int)},Srt xs→(∀ t,t ∈ xs→t ∈ ys)→xs.length≤ys.length
 | [],_,_,_=>jG _
 | x::xs,ys,h,hs=>by
  have hx:=hs x (jn ..)
  have:=qtI (xs:=xs) (ys:=ys.erase x) (List.pairwise_cons.1 h).2 fun t ht=>(List.mem_erase_of_ne (by intro e;subst e;exact qn2 h ht)).2 (hs t (jm _ ht))
  rw [List.length_erase_of_mem hx] at this
  have:=List.length_pos_of_mem hx
  simp only [jZ]
  omega
def insT:List (List Int)→List Int→List (List Int)
 | [],t=>[t]
 | x::xs,t=>if cmpLk x t=0 then x::xs else if cmpLk x t<0 then x::insT xs t else t::x::xs
theorem qkL:∀ {xs:List (List Int)} {t y:List Int},y ∈ insT xs t↔y=t∨y ∈ xs
 | [],t,y=>by simp [insT]
 | x::xs,t,y=>by
  unfold insT
  by_cases h:cmpLk x t=0
  ·rw [if_pos h]
   have e:=qoY _ _ h
   subst e
   simp
  ·rw [if_neg h]
   by_cases h2:cmpLk x t<0
   ·rw [if_pos h2,Jh,qkL,Jh]
    constructor
    ·rintro (h|h|h)<;>simp [h]
    ·rintro (h|h|h)<;>simp [h]
   ·rw [if_neg h2];simp
theorem qlW:∀ {xs:List (List Int)} {t:List Int},Srt xs→Srt (insT xs t)
 | [],t,_=>qtV
 | x::xs,t,h=>by
  have p:=List.pairwise_cons.1 h
  unfold insT
  by_cases h1:cmpLk x t=0
  ·rw [if_pos h1];exact h
  ·rw [if_neg h1]
   by_cases h2:cmpLk x t<0
   ·rw [if_pos h2]
    refine List.pairwise_cons.2 ⟨fun y hy=>?_,qlW p.2⟩
    rcases qkL.1 hy with rfl|hy
    ·exact h2
    ·exact p.1 y hy
   ·rw [if_neg h2]
    have h3:cmpLk t x<0:=by have:=qiq x t;omega
    refine List.pairwise_cons.2 ⟨fun y hy=>?_,h⟩
    rcases List.mem_cons.1 hy with rfl|hy
    ·exact h3
    ·exact qkW _ _ _ h3 (p.1 y hy)
theorem qrK {xs:List (List Int)} {t:List Int}:(insT xs t).length≤xs.length+1:=by
 induction xs with
 | nil=>simp [insT]
 | cons x xs ih=>unfold insT;split<;>(try split)<;>simp<;>omega
def rankT (xs:List (List Int)) (t:List Int):Nat:=xs.countP fun x=>decide (cmpLk x t<0)
theorem qsi {xs:List (List Int)} {t:List Int}:rankT xs t≤xs.length:=List.countP_le_length ..
theorem qtW:∀ {xs:List (List Int)} {t:List Int},Srt xs→(∀ i x,i<rankT xs t→xs[i]?=some x→cmpLk x t<0)∧∀ i x,rankT xs t≤i→xs[i]?=some x→0≤cmpLk x t
 | [],t,_=>⟨fun i x _ h=>by simp at h,fun i x _ h=>by simp at h⟩
 | y::xs,t,h=>by
  have p:=List.pairwise_cons.1 h
  obtain ⟨h1,h2⟩:=qtW (t:=t) p.2
  by_cases hy:cmpLk y t<0
  ·have e:rankT (y::xs) t=rankT xs t+1:=by unfold rankT;rw [List.countP_cons_of_pos (by simpa using hy)]
   rw [e]
   constructor
   ·intro i x hi hx
    cases i with
    | zero=>simp at hx;subst hx;exact hy
    | succ i=>exact h1 i x (by omega) (by simpa using hx)
   ·intro i x hi hx
    cases i with
    | zero=>omega
    | succ i=>exact h2 i x (by omega) (by simpa using hx)
  ·have hall:∀ x,x ∈ xs→¬ cmpLk x t<0:=fun x hx hlt=>hy (qkW _ _ _ (p.1 x hx) hlt)
   have e:rankT (y::xs) t=0:=by
    unfold rankT
    rw [List.countP_eq_zero]
    intro x hx
    rcases List.mem_cons.1 hx with rfl|hx
    ·simpa using hy
    ·simpa using hall x hx
   rw [e]
   refine ⟨fun i x hi=>by omega,fun i x _ hx=>?_⟩
   rcases List.mem_cons.1 (jA hx) with rfl|hx
   ·omega
   ·have:=hall x hx;omega
theorem qr6:∀ {xs:List (List Int)} {t:List Int},Srt xs→insT xs t=if (xs[rankT xs t]?).map (fun x=>cmpLk x t)=some 0 then xs else xs.take (rankT xs t)++t::xs.drop (rankT xs t)
 | [],t,_=>rfl
 | y::xs,t,h=>by
  have p:=List.pairwise_cons.1 h
  have ih:=qr6 (t:=t) p.2
  unfold insT
  by_cases hy:cmpLk y t<0
  ·have e:rankT (y::xs) t=rankT xs t+1:=by unfold rankT;rw [List.countP_cons_of_pos (by simpa using hy)]
   rw [if_neg (by omega),if_pos hy,ih,e]
   simp only [jL,List.take_succ_cons,List.drop_succ_cons,List.cons_append]
   split<;>rfl
  ·have hall:∀ x,x ∈ xs→¬ cmpLk x t<0:=fun x hx hlt=>hy (qkW _ _ _ (p.1 x hx) hlt)
   have e:rankT (y::xs) t=0:=by
    unfold rankT
    rw [List.countP_eq_zero]
    intro x hx
    rcases List.mem_cons.1 hx with rfl|hx
    ·simpa using hy
    ·simpa using hall x hx
   rw [e]
   simp only [List.getElem?_cons_zero,jV,Option.some.injEq,List.take_zero,List.drop_zero,List.nil_append]
   by_cases h0:cmpLk y t=0
   ·rw [if_pos h0,if_pos h0]
   ·rw [if_neg h0,if_neg h0,if_neg hy]
theorem qw1 {xs:List (List Int)} {t:List Int} (h:Srt xs) (ht:t ∈ xs):insT xs t=xs :=
 qpm (qlW h) h fun y=>qkL.trans ⟨fun e=>e.elim (fun e=>e ▸ ht) id,.inr⟩
theorem qxl {xs:List (List Int)} {t:List Int} {k:Nat} (h:Srt xs) (hn:t ∉ xs) (h1:∀ i x,i<k→xs[i]?=some x→cmpLk x t<0) (h2:∀ i x,k≤i→xs[i]?=some x→0<cmpLk x t):insT xs t=xs.take k++t::xs.drop k:=by
 refine qpm (qlW h) ?_ ?_
 ·refine List.pairwise_append.2 ⟨h.sublist (List.take_sublist ..),List.pairwise_cons.2 ⟨fun y hy=>?_,h.sublist (List.drop_sublist ..)⟩,fun x hx y hy=>?_⟩
  ·obtain ⟨i,hi,rfl⟩:=jI hy
   have:=h2 (k+i) _ (by omega) (by rw [←jB];exact jg hi)
   have:=qiq t ((xs.drop k)[i])
   omega
  ·obtain ⟨i,hi,rfl⟩:=jI hx
   have hik:i<k:=by simp at hi;omega
   have a:=h1 i _ hik (by rw [←List.getElem?_take_of_lt hik];exact jg hi)
   rcases List.mem_cons.1 hy with rfl|hy
   ·exact a
   ·obtain ⟨j,hj,rfl⟩:=jI hy
    have:=h2 (k+j) _ (by omega) (by rw [←jB];exact jg hj)
    have:=qiq t ((xs.drop k)[j])
    exact qkW _ _ _ a (by omega)
 ·intro y
  rw [qkL,List.mem_append,Jh]
  have:y ∈ xs↔y ∈ xs.take k∨y ∈ xs.drop k:=by rw [←List.mem_append,List.take_append_drop]
  rw [this]
  constructor
  ·rintro (h|h|h)<;>simp [h]
  ·rintro (h|h|h)<;>simp [h]
end Go.Fw


namespace Go.Fw
open Go
section
variable {α β:Type} {f g:Nat→Option Bool} {a b:Bool} {k:Nat→Option α} {X B:α}
theorem Ev.and (h1:Ev f a) (h2:a=true→Ev g b):Ev (fun n=>(f n).bind fun r=>bif r then g n else some false) (a&&b):=by
 refine Ev.bind h1 ?_
 cases a
 ·exact .done
 ·exact Ev.tt rfl (h2 rfl)
theorem Ev.andP (h2:a=true→Ev g b):Ev (fun n=>bif a then g n else some false) (a&&b):=by
 cases a
 ·exact .done
 ·exact Ev.tt rfl (h2 rfl)
theorem Ev.last (h1:Ev f a):Ev (fun n=>(f n).bind fun r=>some r) a:=Ev.bind h1 .done
theorem Ev.neg (h1:Ev f a):Ev (fun n=>(f n).bind fun r=>some (!r)) (!a):=Ev.bind h1 .done
theorem Ev.or (h1:Ev f a) (h2:a=true→Ev g (!b)):Ev (fun n=>(f n).bind fun r=>bif (!r) then some true else g n) (!(a&&b)):=by
 refine Ev.bind h1 ?_
 cases a
 ·exact .done
 ·exact Ev.ff rfl (h2 rfl)
theorem Ev.guard {c:α} (h1:Ev f (!a)) (h2:a=true→Ev k (bif b then X else c)):Ev (fun n=>(f n).bind fun r=>bif r then some c else k n) (bif a&&b then X else c):=by
 refine Ev.bind h1 ?_
 cases a
 ·exact .done
 ·exact Ev.ff rfl (h2 rfl)
theorem Ev.guardB (h1:Ev f (!a)) (h2:a=true→Ev g b):Ev (fun n=>(f n).bind fun r=>bif r then some false else g n) (a&&b):=by
 refine Ev.bind h1 ?_
 cases a
 ·exact .done
 ·exact Ev.ff rfl (h2 rfl)
theorem Ev.chk (h1:Ev f a) (h2:a=true→Ev k (bif b then X else B)):Ev (fun n=>(f n).bind fun r=>bif (!r) then some B else k n) (bif a&&b then X else B):=by
 refine Ev.bind h1 ?_
 cases a
 ·exact .done
 ·exact Ev.ff rfl (h2 rfl)
theorem Ev.chkT (h1:Ev f (!a)) (h2:a=true→Ev k (bif b then X else B)):Ev (fun n=>(f n).bind fun r=>bif r then some B else k n) (bif a&&b then X else B):=Ev.guard h1 h2
theorem Ev.chkT1 (h1:Ev f (!a)) (h2:a=true→Ev k X):Ev (fun n=>(f n).bind fun r=>bif r then some B else k n) (bif a then X else B):=by
 refine Ev.bind h1 ?_
 cases a
 ·exact .done
 ·exact Ev.ff rfl (h2 rfl)
theorem Ev.chk1 (h1:Ev f a) (h2:a=true→Ev k X):Ev (fun n=>(f n).bind fun r=>bif (!r) then some B else k n) (bif a then X else B):=by
 refine Ev.bind h1 ?_
 cases a
 ·exact .done
 ·exact Ev.ff rfl (h2 rfl)
theorem Ev.chkP1 (h2:a=false→Ev k X):Ev (fun n=>bif a then some B else k n) (bif !a then X else B):=by
 cases a
 ·exact Ev.ff rfl (h2 rfl)
 ·exact .done
theorem Ev.ok (h1:Ev f a) (h2:a=true→Ev k (bif b then X else B)):Ev (fun n=>(f n).bind fun r=>bif r then k n else some B) (bif a&&b then X else B):=by
 refine Ev.bind h1 ?_
 cases a
 ·exact .done
 ·exact Ev.tt rfl (h2 rfl)
theorem Ev.ok1 (h1:Ev f a) (h2:a=true→Ev k X):Ev (fun n=>(f n).bind fun r=>bif r then k n else some B) (bif a then X else B):=by
 refine Ev.bind h1 ?_
 cases a
 ·exact .done
 ·exact Ev.tt rfl (h2 rfl)
theorem Ev.okP (h2:a=true→Ev k (bif b then X else B)):Ev (fun n=>bif a then k n else some B) (bif a&&b then X else B):=by
 cases a
 ·exact .done
 ·exact Ev.tt rfl (h2 rfl)
theorem Ev.okP1 (h2:a=true→Ev k X):Ev (fun n=>bif a then k n else some B) (bif a then X else B):=by
 cases a
 ·exact .done
 ·exact Ev.tt rfl (h2 rfl)
theorem Ev.orB (h1:Ev f a) (h2:a=true→Ev g (!b)):Ev (fun n=>(f n).bind fun r=>bif r then g n else some true) (!(a&&b)):=by
 refine Ev.bind h1 ?_
 cases a
 ·exact .done
 ·exact Ev.tt rfl (h2 rfl)
theorem Ev.orBP (h2:a=true→Ev g (!b)):Ev (fun n=>bif a then g n else some true) (!(a&&b)):=by
 cases a
 ·exact .done
 ·exact Ev.tt rfl (h2 rfl)
end
def gt {α:Type} [Inhabited α] (xs:List α) (j:Nat):α:=xs.getD j default
theorem qjJ {α:Type} [Inhabited α] {xs:List α} {j:Nat} (h:j<xs.length):gt xs j=xs[j]:=by simp [gt,h]
theorem qS {α:Type} [Inhabited α] {xs:List α} {j:Nat} (h:j<xs.length):idx xs (j:Int)=some (gt xs j):=by rw [qaW h,qjJ h]
theorem qh4 {α:Type} [Inhabited α] {ok:α→Prop} {xs:List α} (h:okL ok xs) {j:Nat} (hj:j<xs.length):ok (gt xs j):=by rw [qjJ hj];exact h.at hj
theorem qwK {α:Type} [Inhabited α] {xs:List α} {j i:Nat} (h:i<j):gt (xs.take j) i=gt xs i:=by simp [gt,jK,h]
theorem qii {α:Type} [Inhabited α] {p:α→Bool} {xs:List α}:xs.all p=allN (fun j=>p (gt xs j)) xs.length:=qhC
theorem qvR {α:Type} [Inhabited α] {p:α→Bool} {xs:List α}:xs.any p = !allN (fun j=>!p (gt xs j)) xs.length:=qsc
theorem qu1 {α:Type} [Inhabited α] {p:α→Bool} {xs:List α} {j:Nat} (h:j≤xs.length):(xs.take j).any p = !allN (fun i=>!p (gt xs i)) j:=by
 rw [qvR,Jb,Nat.min_eq_left h]
 congr 1
 exact qhm (fun i hi=>by rw [qwK hi])
theorem qfS {α β:Type} [Inhabited α] {xs:List α} {g:α→β} {j:Nat} (h:j<xs.length):(xs.take j).map g++[g (gt xs j)]=(xs.take (j+1)).map g:=by
 rw [qjJ h,js h,jH,jU,List.map_nil]
theorem qwS {j m:Nat} (_:j<m):((j:Int)==W64 ((m:Int)-1))=decide (j+1=m)∨9223372036854775807<m:=by
 by_cases hm:m≤9223372036854775807
 ·refine .inl ?_
  rw [qau (by omega) (by omega),jk]
  simp
  omega
 ·exact .inr (by omega)
theorem loopN {ρ σ τ:Type} {Lf:Nat→τ→Int→Option (Flow ρ σ)} (S:Nat→τ) (p:Nat→Bool) {len:Nat} {bad:ρ} {fin:σ}
  (hend:∀ n,Lf (n+1) (S len) (len:Int)=some (.nxt fin))
  (hstep:∀ j,j<len→(∀ i,i<j→p i=true)→∀ X,(p j=true→Ev (fun n=>Lf n (S (j+1)) ((j+1:Nat):Int)) X)→Ev (fun n=>Lf (n+1) (S j) (j:Int)) (bif p j then X else .ret bad)) :
  Ev (fun n=>Lf n (S 0) 0) (bif allN p len then .nxt fin else .ret bad):=by
 have main:∀ k j,j+k=len→(∀ i,i<j→p i=true)→Ev (fun n=>Lf n (S j) (j:Int)) (bif allN p len then .nxt fin else .ret bad):=by
  intro k
  induction k with
  | zero =>
   intro j hj hp
   obtain rfl:j=len:=by omega
   rw [show allN p j=true from qaK.2 hp]
   exact Ev.step hend .done
  | succ k ih =>
   intro j hj hp
   refine (Ev.succ (hstep j (by omega) hp _ (fun hc=>ih (j+1) (by omega) (fun i hi=>by
    rcases Nat.lt_succ_iff_lt_or_eq.1 hi with h|rfl
    ·exact hp i h
    ·exact hc)))).cast ?_
   cases hc:p j with
   | true=>rfl
   | false =>
    rw [show allN p len=false from qlh.2 ⟨j,by omega,hc⟩]
    rfl
 have:=main len 0 (by omega) (fun i hi=>absurd hi (Nat.not_lt_zero _))
 exact this
theorem loopF {ρ τ:Type} {Lf:Nat→τ→Int→Option ρ} (S:Nat→τ) {len:Nat} {fin:ρ}
  (hend:∀ n,Lf (n+1) (S len) (len:Int)=some fin)
  (hstep:∀ j,j<len→∀ X,Ev (fun n=>Lf n (S (j+1)) ((j+1:Nat):Int)) X→Ev (fun n=>Lf (n+1) (S j) (j:Int)) X) :
  Ev (fun n=>Lf n (S 0) 0) fin :=
 down (P:=fun j=>Ev (fun n=>Lf n (S j) (j:Int)) fin) len (Ev.step hend .done) (fun j hj ih=>Ev.succ (hstep j hj _ ih))
def cntP (q:Nat→Bool):Nat→Nat
 | 0=>0
 | n+1=>cntP q n+(bif q n then 1 else 0)
theorem qeR {q:Nat→Bool} {n:Nat}:cntP q n≤n:=by
 induction n with
 | zero=>exact jf _
 | succ n ih=>unfold cntP;cases q n<;>simp only [cond_true,cond_false]<;>omega
theorem qtn {q r:Nat→Bool} {n:Nat} (h:∀ j,j<n→q j=r j):cntP q n=cntP r n:=by
 induction n with
 | zero=>rfl
 | succ n ih=>unfold cntP;rw [ih (fun j hj=>h j (by omega)),h n (by omega)]
theorem qmj {q:Nat→Bool} {n:Nat}:cntP q n=0↔∀ j,j<n→q j=false:=by
 induction n with
 | zero=>simp [cntP]
 | succ n ih =>
  unfold cntP
  constructor
  ·intro h j hj
   have h1:cntP q n=0:=by omega
   rcases Nat.lt_succ_iff_lt_or_eq.1 hj with h2|rfl
   ·exact ih.1 h1 j h2
   ·cases hq:q j with
    | false=>rfl
    | true=>rw [hq] at h;simp at h
  ·intro h
   rw [ih.2 (fun j hj=>h j (by omega)),h n (by omega)]
   rfl
theorem qrZ {q:Nat→Bool} {n:Nat}:decide (0<cntP q n) = !allN (fun j=>!q j) n:=by
 rw [jk,decide_eq_true_iff,jO,qlh,Nat.pos_iff_ne_zero,Ne,qmj]
 simp
def vecC (c:Nat→Nat) (m:Nat):List Int:=(List.range m).map fun k=>(c k:Int)
theorem ql1 {c:Nat→Nat} {m:Nat}:(vecC c m).length=m:=by simp [vecC]
theorem qrL {c:Nat→Nat} {m k:Nat} (h:k<m):at0 (vecC c m) k=(c k:Int):=by simp [at0,vecC,h]
theorem qjY {c:Nat→Nat} {m k:Nat} (h:k<m):idx (vecC c m) (k:Int)=some (c k:Int):=by rw [qbm (by rw [ql1];exact h),qrL h]
theorem qjG {c d:Nat→Nat} {m:Nat} (h:∀ k,k<m→c k=d k):vecC c m=vecC d m:=by
 unfold vecC
 refine List.map_congr_left (fun k hk=>?_)
 rw [h k (List.mem_range.1 hk)]
theorem qmk {m:Nat} (h:m≤2147483648):mkS (m:Int) (0:Int)=some (vecC (fun _=>0) m):=by
 unfold mkS big
 rw [if_pos ⟨by omega,by omega⟩]
 congr 1
 refine Jc (by simp [vecC]) (fun k h1 h2=>?_)
 simp [vecC]
theorem qqH {c:Nat→Nat} {m k:Nat} (hc:c k<9223372036854775807):setS (vecC c m) (k:Int) (W64 ((c k:Int)+1))=vecC (fun i=>c i+(bif decide (k=i) then 1 else 0)) m:=by
 rw [qej hc]
 unfold setS
 refine Jc (by simp [vecC]) (fun i h1 h2=>?_)
 rw [List.getElem_set]
 show (if k=i then _ else _)=_
 by_cases hk:k=i
 ·subst hk;simp [vecC]
 ·simp [vecC,hk]
theorem qpk {x:Int} (h:0≤x):x=(x.toNat:Int):=by omega
theorem qui {α:Type} {xs:List α} {j:Nat} (h:j≤xs.length):subS xs 0 (j:Int)=some (xs.take j):=by
 unfold subS
 rw [if_pos ⟨by omega,by omega,by omega⟩]
 simp
theorem qb5 {m:Nat} (h:m≤9223372036854775807):W64 ((m:Int)-1)=(m:Int)-1:=qau (by omega) (by omega)
end Go.Fw


namespace Go.Fw
open Go
open Go.ChangeShapes Go.WideShapes Go.ChangeAt Go.RowKit
theorem qrq {P:Program} {w:World} {r:Reach} {b:Nat} {t e:TypeId} {cs:Array Value} (ht:P.underlying t=some (.slice e)):¬ Value.okWide P w r b t (.agg cs):=by
 intro h
 unfold Value.okWide at h
 rw [ht] at h
 simp [Cell.okWide,Cell.ok,ht] at h
theorem qsQ {P:Program} {w:World} {r:Reach} {b:Nat} {t:TypeId} {k:IntKind} {cs:Array Value} (ht:P.underlying t=some (.int k)):¬ Value.okWide P w r b t (.agg cs):=by
 intro h
 unfold Value.okWide at h
 rw [ht] at h
 simp [Cell.okWide,Cell.ok,ht] at h
theorem qqN {P:Program} {H:Type} {enc:TypeId × Value→H} {W:World} {t:TypeId} {v:Value} {d:DataW H} {p:List MemPlace} {α:Type} [A:GoT α] {ρ:α→Prop} (ho:Opens P t A ρ) (hag:A.agg=false) (hn:∀ cs,v ≠ .agg cs)
  (h:DataW.Trod enc P W 0 (fun _=>true) true t v d p):∃ x:α,∃ cs,v=GoT.v α cs∧A.R W (old W) x cs∧ρ x:=by
 obtain ⟨fuel,hf⟩:=h
 obtain ⟨x,hR,hx⟩:=ho.2 hf
 have hc:v.cells=#[v]:=by
  unfold Value.cells
  cases v<;>first|rfl|exact absurd rfl (hn _)
 refine ⟨x,_,?_,hR,hx⟩
 unfold GoT.v mkV
 rw [hag,hc]
 rfl
theorem qt9 {P:Program} {H:Type} {enc:TypeId × Value→H} {W:World} {t:TypeId} {v:Value} {d:DataW H} {p:List MemPlace} {α:Type} [A:GoT α] {ρ:α→Prop} (ho:Opens P t A ρ) (hag:A.agg=true) {fs:Array Field} (ht:P.underlying t=some (.struct fs)) {r:Reach} {b:Nat} (hok:Value.okWide P W r b t v)
  (h:DataW.Trod enc P W 0 (fun _=>true) true t v d p):∃ x:α,∃ cs,v=GoT.v α cs∧A.R W (old W) x cs∧ρ x:=by
 unfold Value.okWide at hok
 rw [ht] at hok
 obtain ⟨cs,rfl,_⟩:=hok
 obtain ⟨fuel,hf⟩:=h
 obtain ⟨x,hR,hx⟩:=ho.2 hf
 refine ⟨x,_,?_,hR,hx⟩
 unfold GoT.v mkV
 rw [hag]
 simp [Value.cells]
theorem qsa {P:Program} {H:Type} {enc:TypeId × Value→H} {W:World} {t e:TypeId} {v:Value} {d:DataW H} {p:List MemPlace} {α:Type} [A:GoT α] {ρ:α→Prop} (ho:Opens P t A ρ) (hag:A.agg=false) (ht:P.underlying t=some (.slice e)) {r:Reach} {b:Nat} (hok:Value.okWide P W r b t v)
  (h:DataW.Trod enc P W 0 (fun _=>true) true t v d p):∃ x:α,∃ cs,v=GoT.v α cs∧A.R W (old W) x cs∧ρ x :=
 qqN ho hag (fun _ hc=>qrq ht (hc ▸ hok)) h
theorem qux {P:Program} {H:Type} {enc:TypeId × Value→H} {W:World} {t:TypeId} {k:IntKind} {v:Value} {d:DataW H} {p:List MemPlace} {α:Type} [A:GoT α] {ρ:α→Prop} (ho:Opens P t A ρ) (hag:A.agg=false) (ht:P.underlying t=some (.int k)) {r:Reach} {b:Nat} (hok:Value.okWide P W r b t v)
  (h:DataW.Trod enc P W 0 (fun _=>true) true t v d p):∃ x:α,∃ cs,v=GoT.v α cs∧A.R W (old W) x cs∧ρ x :=
 qqN ho hag (fun _ hc=>qsQ ht (hc ▸ hok)) h
section
variable {P:Program} {H:Type} {enc:TypeId × Value→H}
theorem qqe (hl:laidOutB P=true) {W W':World} (hb:Below W.heap.size W W'):∀ {ts:List TypeId} {vs:List Value} {ds:List (DataW H)} {ps:List MemPlace},(∀ t ∈ ts,P.readableRec t=true∧t<P.types.size) →
  DataW.TrodAll enc P W 0 (fun _=>true) true ts vs ds ps→(∀ x ∈ ps,x.block<W.heap.size) →
  DataW.TrodAll enc P W' 0 (fun b=>decide (b<W.heap.size)) true ts vs ds ps∧DataW.TrodAll enc P W' 0 (fun _=>true) true ts vs ds ps:=by
 intro ts
 induction ts with
 | nil =>
  intro vs ds ps _ h _
  obtain ⟨rfl,rfl,rfl⟩:=trodAll_nil h
  exact ⟨rfl,rfl⟩
 | cons t ts ih =>
  intro vs ds ps hr h hlt
  obtain ⟨v,vs',d,ds',p,q,rfl,rfl,rfl,hd,hrest⟩:=trodAll_cons h
  obtain ⟨h1,h2⟩:=ih (fun u hu=>hr u (jm _ hu)) hrest (fun x hx=>hlt x (List.mem_append.2 (.inr hx)))
  obtain ⟨r1,r2⟩:=hr t (jn ..)
  have hlt1:∀ x ∈ p,x.block<W.heap.size:=fun x hx=>hlt x (List.mem_append.2 (.inl hx))
  exact ⟨⟨p,q,Below.trod hl r1 r2 hd hb hlt1,h1,rfl⟩,⟨p,q,WideElems.Trod_stays hl r1 r2 hd (fun x hx=>hb.same (hlt1 x hx)) (fun _ _=>rfl),h2,rfl⟩⟩
end
theorem quM {P:Program} {H:Type} {enc:TypeId × Value→H} {fn:Func} {s:ChangeSpec} {apart fresh handsOn again:Bool} {W W':World} {tb:TypeId} {args:Array Value} {ds:List (DataW H)} {p:List MemPlace}
  (hl:laidOutB P=true) (hrr:(fn.params.toList.all fun t=>P.readableRec t&&decide (t<P.types.size))=true) (hres:fn.resultTypes=#[tb]) (htb:P.underlying tb=some .bool) (hvars:s.vars=[])
  (hr:(s.fn H (ds++[])).results=[.lit (.bool true)]) (ha:(s.fn H (ds++[])).args=ds) (hv:(s.fn H (ds++[])).vars=[])
  (hW:DataW.Whole enc P fn.params.toList s.vars apart W args.toList ds [] p) (hb:Below W.heap.size W W') :
  s.post enc P fn apart fresh handsOn again W args (.bool true) W':=by
 have hW0:=hW
 obtain ⟨p0,q0,hA,hV,rfl,hz,hn⟩:=hW
 rw [hvars] at hV
 obtain rfl:q0=[]:=hV
 simp only [jM] at hW0 hz hn
 have hlt:∀ x ∈ p0,x.block<W.heap.size:=fun x hx=>hW0.lt x hx
 obtain ⟨h0',h1'⟩:=qqe hl hb (fun t ht=>by
  have:=List.all_eq_true.1 hrr t ht
  simpa using this) hA hlt
 have hR:∀ (b:Nat) (sp:Nat→Bool) (hd:Bool),DataW.TrodAll enc P W' b sp hd fn.resultTypes.toList ((Value.bool true).resultList fn.resultTypes.size) (s.fn H (ds++[])).results []:=by
  intro b sp hd
  rw [hres,hr]
  exact trodAll_mk1 (shut_bool htb true)
 have hR2:(Value.bool true).resultList fn.resultTypes.size=[.bool true]:=by rw [hres];rfl
 refine ⟨ds,[],p0,[],p0,[],hW0,hR _ _ _,?_,?_,hb.frame _,fun _=>?_⟩
 ·rw [ha]
  exact h0'
 ·rw [hvars,hv]
  exact rfl
 ·refine ⟨ok_one hres rfl (okWide_bool_mk htb true),.lit (.bool true)::ds,[],p0,⟨p0,[],?_,?_,by simp,?_,?_⟩,fun x hx _=>hx⟩
  ·rw [hR2,hres]
   exact ⟨[],p0,shut_bool htb true,h1',by simp⟩
  ·rw [hvars];exact rfl
  ·intro b off hm
   rw [hb.frozen (hlt _ hm)]
   exact hz b off hm
  ·intro hap
   exact hn hap
end Go.Fw


namespace Go.Fw
open Go
theorem loopE {ρ τ:Type} {Lf:Nat→τ→Int→Option ρ} {fin:τ→ρ} (Inv:Nat→τ→Prop) {len:Nat} (hend:∀ n t,Lf (n+1) t (len:Int)=some (fin t))
  (hstep:∀ j t,j<len→Inv j t→∃ t',Inv (j+1) t'∧∀ X,Ev (fun n=>Lf n t' ((j+1:Nat):Int)) X→Ev (fun n=>Lf (n+1) t (j:Int)) X)
  (i0:Nat) (hi:i0≤len) (t:τ) (h0:Inv i0 t):∃ t',Inv len t'∧Ev (fun n=>Lf n t (i0:Int)) (fin t'):=by
 have main:∀ k j t,j+k=len→Inv j t→∃ t',Inv len t'∧Ev (fun n=>Lf n t (j:Int)) (fin t'):=by
  intro k
  induction k with
  | zero =>
   intro j t hj h
   obtain rfl:j=len:=by omega
   exact ⟨t,h,Ev.step (fun n=>hend n t) .done⟩
  | succ k ih =>
   intro j t hj h
   obtain ⟨t',h1,h2⟩:=hstep j t (by omega) h
   obtain ⟨t2,h3,h4⟩:=ih (j+1) t' (by omega) h1
   exact ⟨t2,h3,Ev.succ (h2 _ h4)⟩
 exact main (len-i0) i0 t (by omega) h0
theorem loopDn {ρ τ:Type} {Lf:Nat→τ→Int→Option ρ} {fin:τ→ρ} (Inv:τ→Prop) (m:Nat) (hend:∀ n t,Lf (n+1) t (0:Int)=some (fin t))
  (hstep:∀ j:Nat,∀ t,0<j→j≤m→Inv t→∃ t',Inv t'∧∀ X,Ev (fun n=>Lf n t' ((j-1:Nat):Int)) X→Ev (fun n=>Lf (n+1) t (j:Int)) X):∀ t,Inv t→∃ t',Inv t'∧Ev (fun n=>Lf n t (m:Int)) (fin t'):=by
 have:∀ j,j≤m→∀ t,Inv t→∃ t',Inv t'∧Ev (fun n=>Lf n t (j:Int)) (fin t'):=by
  intro j
  induction j with
  | zero=>exact fun _ t h=>⟨t,h,Ev.step (fun n=>hend n t) .done⟩
  | succ j ih =>
   intro hj t h
   obtain ⟨t',h1,h2⟩:=hstep (j+1) t (by omega) hj h
   obtain ⟨t2,h3,h4⟩:=ih (by omega) t' h1
   exact ⟨t2,h3,Ev.succ (h2 _ h4)⟩
 exact this m (jf _)
theorem quw {α:Type} {p:α→Bool} {xs:List α} {j:Nat} (hj:j<xs.length) (hp:p xs[j]=true) (hlt:∀ i,∀ h:i<j,p (xs[i]'(by omega))=false):ixL p xs=(j:Int):=by
 unfold ixL
 have:xs.findIdx? p=some j:=List.findIdx?_eq_some_iff_getElem.2 ⟨hj,hp,fun i hi=>by have:=hlt i hi;simp [this]⟩
 rw [this]
theorem qvw {α:Type} [Inhabited α] {p:α→Bool} {xs:List α} {j:Nat} (hj:j<xs.length) (hp:p (gt xs j)=true) (hu:∀ i,i<xs.length→p (gt xs i)=true→i=j):ixL p xs=(j:Int):=by
 refine quw hj (by rwa [qjJ hj] at hp) (fun i hi=>?_)
 cases hc:p (xs[i]'(by omega)) with
 | false=>rfl
 | true=>exact absurd (hu i (by omega) (by rw [qjJ (by omega)];exact hc)) (by omega)
theorem qoc {α:Type} [Inhabited α] {xs ys:List α} {j:Nat}:gt (xs++ys) j=if j<xs.length then gt xs j else gt ys (j-xs.length):=by
 unfold gt
 rw [jK,List.getElem?_append]
 by_cases h:j<xs.length
 ·simp only [h,if_true];rfl
 ·simp only [h,if_false];rfl
theorem qrv {α:Type} [Inhabited α] {f:Nat→α} {n j:Nat} (h:j<n):gt ((List.range n).map f) j=f j:=by
 unfold gt;simp [jK,h]
end Go.Fw


namespace Go.Fw
open Go
def vecI (f:Nat→Int) (m:Nat):List Int:=(List.range m).map f
theorem qjL {f:Nat→Int} {m:Nat}:(vecI f m).length=m:=by simp [vecI]
theorem qj3 {f:Nat→Int} {m k:Nat} (h:k<m):idx (vecI f m) (k:Int)=some (f k):=by
 rw [qaW (by rw [qjL];exact h)]
 simp [vecI]
theorem qip {f g:Nat→Int} {m:Nat} (h:∀ k,k<m→f k=g k):vecI f m=vecI g m:=by
 unfold vecI
 exact List.map_congr_left (fun k hk=>h k (List.mem_range.1 hk))
theorem qqI {m:Nat} (h:m≤2147483648):mkS (m:Int) (0:Int)=some (vecI (fun _=>0) m):=by
 unfold mkS big
 rw [if_pos ⟨by omega,by omega⟩]
 congr 1
 refine Jc (by simp [vecI]) (fun k h1 h2=>?_)
 simp [vecI]
theorem qpl {f:Nat→Int} {m k:Nat} {v:Int}:setS (vecI f m) (k:Int) v=vecI (fun i=>if i=k then v else f i) m:=by
 unfold setS
 refine Jc (by simp [vecI]) (fun i h1 h2=>?_)
 rw [List.getElem_set]
 show (if k=i then _ else _)=_
 by_cases hk:k=i
 ·subst hk;simp [vecI]
 ·have:i ≠ k:=fun h=>hk h.symm
  simp [vecI,hk,this]
section
variable {sc:Nat→List Int} {m:Nat}
def inC (sc:Nat→List Int) (m:Nat) (R:List Nat) (k:Nat):Nat:=((List.range m).map fun u=>if u ∈ R then 0 else (sc u).count (k:Int)).sum
inductive Topo (sc:Nat→List Int) (m:Nat):List Nat→Prop
 | nil:Topo sc m []
 | snoc {l:List Nat} {k:Nat}:Topo sc m l→k<m→k ∉ l→(∀ u,u<m→(k:Int) ∈ sc u→u ∈ l)→Topo sc m (l++[k])
def Stuck (sc:Nat→List Int) (m:Nat) (l:List Nat):Prop:=∀ k,k<m→k ∉ l→∃ u,u<m∧(k:Int) ∈ sc u∧u ∉ l
theorem Topo.lt {l:List Nat} (h:Topo sc m l):∀ k,k ∈ l→k<m:=by
 induction h with
 | nil=>intro k hk;cases hk
 | snoc _ hk _ _ ih =>
  intro j hj
  rcases List.mem_append.1 hj with hj|hj
  ·exact ih j hj
  ·rw [List.mem_singleton.1 hj];exact hk
theorem Topo.nodup {l:List Nat} (h:Topo sc m l):l.Nodup:=by
 induction h with
 | nil=>exact List.nodup_nil
 | snoc _ _ hn _ ih =>
  rw [List.nodup_append]
  refine ⟨ih,by simp,fun a ha b hb=>?_⟩
  rw [List.mem_singleton.1 hb]
  rintro rfl
  exact hn ha
theorem Topo.sub {l l':List Nat} (h:Topo sc m l) (hs:Stuck sc m l'):∀ k,k ∈ l→k ∈ l':=by
 induction h with
 | nil=>intro k hk;cases hk
 | @snoc l k _ hk _ hp ih =>
  intro j hj
  rcases List.mem_append.1 hj with hj|hj
  ·exact ih j hj
  ·rw [List.mem_singleton.1 hj]
   by_cases hc:k ∈ l'
   ·exact hc
   ·obtain ⟨u,hu,he,hn⟩:=hs k hk hc
    exact absurd (ih u (hp u hu he)) hn
theorem qm6 {l l':List Nat} (hn:l.Nodup) (h:∀ k,k ∈ l→k ∈ l'):l.length≤l'.length:=by
 induction l generalizing l' with
 | nil=>exact jG _
 | cons a l ih =>
  obtain ⟨h1,h2⟩:=List.nodup_cons.1 hn
  have hm:a ∈ l':=h a (jn ..)
  have:=ih (l':=l'.erase a) h2 (fun k hk=>(List.mem_erase_of_ne (fun e=>h1 (by rw [←e];exact hk))).2 (h k (jm _ hk)))
  rw [List.length_erase_of_mem hm] at this
  have:0<l'.length:=List.length_pos_of_mem hm
  simp only [jZ]
  omega
theorem Topo.len {l:List Nat} (h:Topo sc m l):l.length≤m:=by
 have:=qm6 (l':=List.range m) h.nodup (fun k hk=>List.mem_range.2 (h.lt k hk))
 simpa using this
theorem Topo.full {l:List Nat} (h:Topo sc m l) (hl:l.length=m):∀ k,k<m→k ∈ l:=by
 intro k hk
 by_cases hc:k ∈ l
 ·exact hc
 ·have h1:=qm6 (l:=k::l) (l':=List.range m) (List.nodup_cons.2 ⟨hc,h.nodup⟩) (fun j hj=>by
   rcases List.mem_cons.1 hj with rfl|hj
   ·exact List.mem_range.2 hk
   ·exact List.mem_range.2 (h.lt j hj))
  simp at h1
  omega
theorem Topo.stuck_full {l:List Nat} (_:Topo sc m l) (hf:∀ k,k<m→k ∈ l):Stuck sc m l:=fun k hk hn=>absurd (hf k hk) hn
theorem Topo.pre {l l':List Nat} (h:Topo sc m (l++l')):Topo sc m l:=by
 generalize he:l++l'=x at h
 induction h generalizing l' with
 | nil=>simp at he;rw [he.1];exact .nil
 | @snoc y k ht hk hn hp ih =>
  rcases List.eq_nil_or_concat l' with rfl|⟨l2,b,rfl⟩
  ·rw [jM] at he;subst he;exact .snoc ht hk hn hp
  ·rw [List.concat_eq_append,←Jd] at he
   have:=List.append_inj' he rfl
   exact ih this.1
theorem Topo.at {l l':List Nat} {k:Nat} (h:Topo sc m (l++k::l')):k<m∧k ∉ l∧∀ u,u<m→(k:Int) ∈ sc u→u ∈ l:=by
 have:Topo sc m ((l++[k])++l'):=by simpa using h
 have h1:=this.pre
 generalize he:l++[k]=x at h1
 cases h1 with
 | nil=>simp at he
 | snoc _ a b c =>
  have:=List.append_inj' he rfl
  obtain ⟨rfl,e⟩:=this
  obtain rfl:k=_:=by simpa using e
  exact ⟨a,b,c⟩
theorem qwd {f:Nat→Nat} {m:Nat}:((List.range m).map f).sum=0↔∀ u,u<m→f u=0:=by
 induction m with
 | zero=>simp
 | succ m ih =>
  rw [jT,jH,List.sum_append]
  simp only [jU,List.map_nil,List.sum_cons,List.sum_nil,jY]
  constructor
  ·intro h u hu
   rcases Nat.lt_succ_iff_lt_or_eq.1 hu with h1|rfl
   ·exact ih.1 (by omega) u h1
   ·omega
  ·intro h
   rw [ih.2 (fun u hu=>h u (by omega)),h m (by omega)]
theorem qkT {R:List Nat} {k:Nat}:inC sc m R k=0↔∀ u,u<m→(k:Int) ∈ sc u→u ∈ R:=by
 unfold inC
 rw [qwd]
 constructor
 ·intro h u hu he
  by_cases hc:u ∈ R
  ·exact hc
  ·have:=h u hu
   rw [if_neg hc,List.count_eq_zero] at this
   exact absurd he this
 ·intro h u hu
  by_cases hc:u ∈ R
  ·rw [if_pos hc]
  ·rw [if_neg hc,List.count_eq_zero]
   exact fun he=>hc (h u hu he)
theorem qwR {f g:Nat→Nat} {m i d:Nat} (hi:i<m) (h:∀ u,u<m→u ≠ i→f u=g u) (he:f i=g i+d):((List.range m).map f).sum=((List.range m).map g).sum+d:=by
 induction m with
 | zero=>omega
 | succ m ih =>
  simp only [jT,jH,List.sum_append,jU,List.map_nil,List.sum_cons,List.sum_nil,jY]
  by_cases hm:i=m
  ·subst hm
   have:(List.range i).map f=(List.range i).map g:=List.map_congr_left (fun u hu=>h u (by have:=List.mem_range.1 hu;omega) (by have:=List.mem_range.1 hu;omega))
   rw [this,he]
   omega
  ·rw [ih (by omega) (fun u hu=>h u (by omega)),h m (by omega) (fun e=>hm e.symm)]
   omega
theorem qrF {R:List Nat} {i k:Nat} (hi:i<m) (hn:i ∉ R):inC sc m R k=inC sc m (R++[i]) k+(sc i).count (k:Int):=by
 unfold inC
 refine qwR hi (fun u _ hu=>?_) ?_
 ·by_cases hc:u ∈ R
  ·rw [if_pos hc,if_pos (jR _ hc)]
  ·rw [if_neg hc,if_neg (by simp [hc,hu])]
 ·rw [if_neg hn,if_pos (by simp)]
  omega
theorem qnw {j k:Nat}:((List.range (j+1)).map fun u=>(sc u).count (k:Int)).sum=((List.range j).map fun u=>(sc u).count (k:Int)).sum+(sc j).count (k:Int):=by
 simp [jT]
theorem Topo.zeros {j:Nat} (hj:j≤m):Topo sc m ((List.range j).filter fun k=>decide (inC sc m [] k=0)):=by
 induction j with
 | zero=>exact .nil
 | succ j ih =>
  rw [jT,List.filter_append]
  have ih:=ih (by omega)
  by_cases hc:inC sc m [] j=0
  ·rw [List.filter_cons_of_pos (by simpa using hc),List.filter_nil]
   refine .snoc ih (by omega) (fun h=>?_) (fun u hu he=>absurd (qkT.1 hc u hu he) (by simp))
   have:=List.mem_range.1 (List.mem_filter.1 h).1
   omega
  ·rw [List.filter_cons_of_neg (by simpa using hc),List.filter_nil,jM]
   exact ih
theorem Topo.no_back {l:List Nat} {i k:Nat} (h:Topo sc m l) (hi:i<m) (hn:i ∉ l) (hk:k ∈ l):(sc i).count (k:Int)=0:=by
 rw [List.count_eq_zero]
 intro he
 obtain ⟨a,c,rfl⟩:=List.append_of_mem hk
 exact hn (jR _ (h.at.2.2 i hi he))
end
def ints (l:List Nat):List Int:=l.map fun (k:Nat)=>(k:Int)
theorem qei {l:List Nat}:(ints l).length=l.length:=by simp [ints]
theorem qkC {l:List Nat} {k:Nat}:ints (l++[k])=ints l++[(k:Int)]:=by simp [ints]
theorem qo4 {l:List Nat} {j:Nat} (h:j<l.length):idx (ints l) (j:Int)=some (l[j]:Int):=by
 rw [qaW (by rw [qei];exact h)]
 simp [ints]
theorem qsW {xs:List Int} {j k i:Nat} (hj:xs[j]?=some (k:Int)):(xs.take (j+1)).count (i:Int)=(xs.take j).count (i:Int)+(if i=k then 1 else 0):=by
 obtain ⟨h1,h2⟩:=List.getElem?_eq_some_iff.1 hj
 rw [js h1,List.count_append,h2,List.count_singleton]
 congr 1
 by_cases h:i=k
 ·subst h;simp
 ·have:¬ (k:Int)=(i:Int):=by omega
  simp [h,this]
def qmY (xs:List Int) (m:Nat):Prop:=∀ y,y ∈ xs→∃ k:Nat,k<m∧y=(k:Int)
theorem qmY.at {xs:List Int} {m j:Nat} (h:qmY xs m) (hj:j<xs.length):∃ k:Nat,k<m∧idx xs (j:Int)=some (k:Int)∧xs[j]?=some (k:Int):=by
 obtain ⟨k,hk,e⟩:=h _ (jp hj)
 exact ⟨k,hk,by rw [qaW hj,e],by rw [jg hj,e]⟩
theorem loopR {ρ τ:Type} {Lf:Nat→τ→Int→Option ρ} (Inv:Nat→τ→Prop) (Q:ρ→Prop) {len:Nat} (hend:∀ t,Inv len t→EvQ (fun n=>Lf (n+1) t (len:Int)) Q)
  (hstep:∀ j t,j<len→Inv j t→EvQ (fun n=>Lf n t (j:Int)) Q∨∃ t',Inv (j+1) t'∧∀ X,Ev (fun n=>Lf n t' ((j+1:Nat):Int)) X→Ev (fun n=>Lf (n+1) t (j:Int)) X)
  (i0:Nat) (hi:i0≤len) (t:τ) (h0:Inv i0 t):EvQ (fun n=>Lf n t (i0:Int)) Q:=by
 have main:∀ k j t,j+k=len→Inv j t→EvQ (fun n=>Lf n t (j:Int)) Q:=by
  intro k
  induction k with
  | zero =>
   intro j t hj h
   obtain rfl:j=len:=by omega
   exact EvQ.succ (hend t h)
  | succ k ih =>
   intro j t hj h
   rcases hstep j t (by omega) h with h1|⟨t',h1,h2⟩
   ·exact h1
   ·obtain ⟨r,h3,h4⟩:=ih (j+1) t' (by omega) h1
    exact ⟨r,Ev.succ (h2 _ h3),h4⟩
 exact main (len-i0) i0 t (by omega) h0
end Go.Fw


namespace Go.Fw
section
variable (sc:Nat→List Int) (m:Nat) (st:Nat→Bool) (bg:Nat→List Int) (sp:List Int→Nat→List Int)
inductive TagA:Nat→List Int→Prop
 | start {j:Nat}:st j=true→TagA j (bg j)
 | step {u j:Nat} {t:List Int}:u<m→(j:Int) ∈ sc u→TagA u t→TagA j (sp t j)
def TagR (S R:List Nat) (j:Nat) (t:List Int):Prop:=(j ∈ S∧st j=true∧t=bg j)∨∃ u,u ∈ R∧u<m∧(j:Int) ∈ sc u∧∃ t',TagA sc m st bg sp u t'∧t=sp t' j
end
section
variable {sc:Nat→List Int} {m:Nat} {st:Nat→Bool} {bg:Nat→List Int} {sp:List Int→Nat→List Int}
theorem TagR.sub {S R:List Nat} {j:Nat} {t:List Int} (h:TagR sc m st bg sp S R j t):TagA sc m st bg sp j t:=by
 rcases h with ⟨_,h1,rfl⟩|⟨u,_,hu,h1,t',h2,rfl⟩
 ·exact .start h1
 ·exact .step hu h1 h2
theorem TagR.all {S R:List Nat} {j:Nat} {t:List Int} (hS:j ∈ S) (hR:∀ u,u<m→(j:Int) ∈ sc u→u ∈ R) (h:TagA sc m st bg sp j t):TagR sc m st bg sp S R j t:=by
 cases h with
 | start h1=>exact .inl ⟨hS,h1,rfl⟩
 | step hu h1 h2=>exact .inr ⟨_,hR _ hu h1,hu,h1,_,h2,rfl⟩
structure TagL (f:Nat→List (List Int)) (Q:Nat→List Int→Prop):Prop where
 srt:∀ j,Srt (f j)
 mem:∀ j t,t ∈ f j↔Q j t
theorem TagL.congr {f:Nat→List (List Int)} {Q Q':Nat→List Int→Prop} (h:TagL f Q) (hq:∀ j t,Q j t↔Q' j t):TagL f Q':=⟨h.srt,fun j t=>(h.mem j t).trans (hq j t)⟩
def putF (f:Nat→List (List Int)) (v:Nat) (t:List Int):Nat→List (List Int):=fun j=>if j=v then insT (f v) t else f j
theorem TagL.put {f:Nat→List (List Int)} {Q:Nat→List Int→Prop} (h:TagL f Q) (v:Nat) (t:List Int):TagL (putF f v t) (fun j y=>Q j y∨(j=v∧y=t)) where
 srt j:=by
  unfold putF
  by_cases e:j=v
  ·rw [if_pos e];exact qlW (h.srt v)
  ·rw [if_neg e];exact h.srt j
 mem j y:=by
  unfold putF
  by_cases e:j=v
  ·subst e
   rw [if_pos rfl,qkL,h.mem]
   constructor
   ·rintro (e|e)
    ·exact .inr ⟨rfl,e⟩
    ·exact .inl e
   ·rintro (e|⟨_,e⟩)
    ·exact .inr e
    ·exact .inl e
  ·rw [if_neg e,h.mem]
   exact ⟨.inl,fun x=>x.elim id fun y=>absurd y.1 e⟩
def TagEnd (sc:Nat→List Int) (m:Nat) (st:Nat→Bool) (bg:Nat→List Int) (sp:List Int→Nat→List Int) (r:Option (Nat→List (List Int))):Prop :=
 match r with
 | some f=>(∀ j,j<m→Srt (f j)∧(f j).length≤64∧∀ t,t ∈ f j↔TagA sc m st bg sp j t)
 | none=>∃ j,j<m∧∃ xs,Srt xs∧64<xs.length∧∀ t,t ∈ xs→TagA sc m st bg sp j t
theorem qog {r1 r2:Option (Nat→List (List Int))} (h1:TagEnd sc m st bg sp r1) (h2:TagEnd sc m st bg sp r2):(r1=none∧r2=none)∨∃ f g,r1=some f∧r2=some g∧∀ j,j<m→f j=g j:=by
 have no:∀ {f:Nat→List (List Int)},TagEnd sc m st bg sp (some f)→TagEnd sc m st bg sp none→False:=fun {f} h1 h2=>by
  obtain ⟨j,hj,xs,hs,hl,hm⟩:=h2
  obtain ⟨_,hl',hm'⟩:=h1 j hj
  have:=qtI hs fun t ht=>(hm' t).2 (hm t ht)
  omega
 cases r1 with
 | none =>
  cases r2 with
  | none=>exact .inl ⟨rfl,rfl⟩
  | some g=>exact (no h2 h1).elim
 | some f =>
  cases r2 with
  | none=>exact (no h1 h2).elim
  | some g=>exact .inr ⟨f,g,rfl,rfl,fun j hj=>qpm (h1 j hj).1 (h2 j hj).1 fun t=>((h1 j hj).2.2 t).trans ((h2 j hj).2.2 t).symm⟩
end
end Go.Fw


namespace Go.Fw
open Go
def selN (q:Nat→Bool) (m:Nat):List Nat:=(List.range m).filter q
theorem qnR {q:Nat→Bool} {j:Nat}:selN q (j+1)=selN q j++(bif q j then [j] else []):=by
 unfold selN
 rw [jT,List.filter_append]
 cases h:q j<;>simp [h]
theorem qpw {q:Nat→Bool} {j:Nat}:(selN q j).length≤j:=by
 unfold selN
 exact jS (Je _ _) (by rw [List.length_range];exact jf _)
theorem qrY {q:Nat→Bool} {j k:Nat}:k ∈ selN q j↔k<j∧q k=true:=by
 unfold selN;rw [List.mem_filter,List.mem_range]
theorem qus {ρ:Type} {Lf:Nat→List Int→Int→Option ρ} {q:Nat→Bool} {len:Nat} {fin:ρ} (hl:len≤1048576) (hend:Ev (fun n=>Lf n (ints (selN q len)) (len:Int)) fin)
  (hstep:∀ j,j<len→∀ t:List Int,appS t [(j:Int)]=some (t++[(j:Int)])→∀ X,(q j=true→Ev (fun n=>Lf n (t++[(j:Int)]) ((j+1:Nat):Int)) X)→(q j=false→Ev (fun n=>Lf n t ((j+1:Nat):Int)) X)→Ev (fun n=>Lf (n+1) t (j:Int)) X) :
  Ev (fun n=>Lf n [] 0) fin :=
 down (P:=fun j=>Ev (fun n=>Lf n (ints (selN q j)) (j:Int)) fin) len hend (fun j hj ih=>Ev.succ (hstep j hj _
  (qcc (by have:=qpw (q:=q) (j:=j);rw [qei,jw];omega)) _
  (fun h=>by rw [qnR,h] at ih;simp only [cond_true,qkC] at ih;exact ih) (fun h=>by rw [qnR,h] at ih;simpa using ih)))
section
variable {sc:Nat→List Int} {m:Nat}
end
end Go.Fw


namespace Go.Fw
open Go
open Go.RowKit (Below)
section
variable {w0 w:World} {L:List Ch}
theorem SH.rowS {α:Type} [GoT α] {S:Nat→Prop} {xs:List α} {p:Option Addr} {c:Nat} (i:Nat) (h:SH w0 w L) (hi:L[i]?=some (Ch.rowD w0 S xs p c)):SlR w (Fw.old w) xs p c:=by
 obtain ⟨h1,h2,h3⟩:=(h.mem hi).1
 refine ⟨h1,h2,?_⟩
 rcases h3 with ⟨a,b,_⟩|⟨b,cur,T,rfl,hb,hg,hc,hx⟩
 ·exact .inl ⟨.inl a,b⟩
 ·refine .inr ⟨b,0,cur,T,(0,0),rfl,((h.mem hi).2 b hb).2,hg,by omega,fun i x hi=>?_⟩
  obtain ⟨cs,hR,hj⟩:=hx i x hi
  exact ⟨cs,h.old hR,by simpa using hj⟩
end
end Go.Fw


namespace Go.Fw
open Go
open Go.RowKit (Below)
section
variable {P:Program} {T:Tab} {n:Nat} {Q:Exit→Act→World→Prop} {k:List It} {e:Env} {w0 w:World} {L:List Ch}
variable {α:Type} [GoT α] {S S1:Nat→Prop} {xs ys:List α} {p p':Option Addr} {c c':Nat}
def Rd (w0:World) (xs:List α) (rs:List (Raw α)):Prop:=rs.length=xs.length∧∀ (i:Nat) (x:α) (r:Raw α),xs[i]?=some x→rs[i]?=some r→GoT.R w0 (Fw.old w0) x r.cs
theorem qru (h:(Ch.rowD w0 S xs p c).P w):∃ rs:List (Raw α),Rd w0 xs rs∧(Ch.own S rs [.slice p rs.length c]).P w:=by
 obtain ⟨h1,h2,h3⟩:=h
 rcases h3 with ⟨rfl,rfl,rfl⟩|⟨b,cur,T,rfl,hb,hg,hcur,hx⟩
 ·exact ⟨[],⟨rfl,fun i x r hx=>by simp at hx⟩,none,0,rfl,by simp,by simp,.inl ⟨rfl,rfl,rfl⟩⟩
 ·obtain ⟨rs,hl,hr⟩:=qtY (p:=fun i x (r:Raw α)=>GoT.R w0 (Fw.old w0) x r.cs∧∀ j v,r.cs[j]?=some v→cur[i*GoT.k α+j]?=some v) xs (fun i x hi=>by
   obtain ⟨cs,h1,h2⟩:=hx i x hi
   exact ⟨⟨cs⟩,h1,h2⟩)
  refine ⟨rs,⟨hl,fun i x r hi hr'=>(hr i x r hi hr').1⟩,some ⟨b,0,none⟩,c,rfl,by rw [hl];exact h1,h2,.inr ⟨b,cur,T,fun _ _=>False,rfl,hb,hg,hcur,fun _ _ h=>h.elim,fun _ _ _ _ h=>h.elim,fun i r hi=>?_⟩⟩
  have hi':i<xs.length:=by have:=(List.getElem?_eq_some_iff.1 hi).1;omega
  obtain ⟨q1,q2⟩:=hr i xs[i] r (jg hi') hi
  exact ⟨r.cs,⟨rfl,GoT.len q1,GoT.one q1⟩,q2⟩
theorem qvd {rs:List (Raw α)} {ln:Nat} (hd:Rd w0 xs rs) (h:(Ch.own S rs [.slice p ln c]).P w):(Ch.rowD w0 S xs p c).P w:=by
 obtain ⟨p',c',he,h1,h2,h3⟩:=h
 simp only [List.cons.injEq,Value.slice.injEq,and_true] at he
 obtain ⟨rfl,rfl,rfl⟩:=he
 refine ⟨by rw [←hd.1];exact h1,h2,?_⟩
 rcases h3 with ⟨rfl,hn,rfl⟩|⟨b,cur,T,F,rfl,hb,hg,hcur,_,_,hx⟩
 ·exact .inl ⟨rfl,jE (by rw [←hd.1,hn];rfl),rfl⟩
 ·refine .inr ⟨b,cur,T,rfl,hb,hg,hcur,fun i x hi=>?_⟩
  have hi':i<rs.length:=by have:=(List.getElem?_eq_some_iff.1 hi).1;rw [hd.1];exact this
  obtain ⟨cs,⟨e1,_,_⟩,hj⟩:=hx i rs[i] (jg hi')
  subst e1
  exact ⟨_,hd.2 i x rs[i] hi (jg hi'),hj⟩
theorem Rd.app {rs qs:List (Raw α)} (h1:Rd w0 xs rs) (h2:Rd w0 ys qs):Rd w0 (xs++ys) (rs++qs):=by
 refine ⟨by simp [h1.1,h2.1],fun i x r hx hr=>?_⟩
 by_cases hi:i<xs.length
 ·rw [jq hi] at hx
  rw [jq (by rw [h1.1];exact hi)] at hr
  exact h1.2 i x r hx hr
 ·rw [jy (by omega)] at hx
  rw [jy (by rw [h1.1];omega),h1.1] at hr
  exact h2.2 _ x r hx hr
theorem SH.nilD (h:SH w0 w L):SH w0 w (Ch.rowD w0 (fun _=>False) ([]:List α) none 0::L) :=
 h.cons (c:=Ch.rowD w0 (fun _=>False) ([]:List α) none 0) ⟨by simp,by simp,.inl ⟨rfl,rfl,rfl⟩⟩ (fun _ h=>h) (fun _ h=>h)
theorem SH.tail {d:Ch} (h:SH w0 w (d::L)):SH w0 w L :=
 ⟨h.below,fun c hc=>h.holds c (jm _ hc),fun c hc=>h.elder c (jm _ hc),(List.pairwise_cons.1 h.apart).2⟩
abbrev SH.wc (_:SH w0 w L):World:=w
theorem qxc (hT:TabOk P T) {all:Array Oper} {l:List Oper} {d t ty el:Nat} {ps:String} {af:Array Edge} {x y:Operand} {z:List α} {ln ln':Nat} {te te':TE} {zv:Value}
  (h:SH w0 w (Ch.rowD w0 S1 ys p' c'::Ch.rowD w0 S xs p c::L)) (hl:ln=xs.length) (hl':ln'=ys.length) (hx:opv e x=some (.slice p ln c)) (hy:opv e y=some (.slice p' ln' c'))
  (hte:T.get t=some te) (hk:te.kind=.slice el) (hel:T.get el=some te') (hz:te'.zero=some zv) (hzs:(cellsL zv).length=te'.size) (hsz:te'.size=GoT.k α)
  (hb:Nat.ble te'.bytes 65536=true) (hbig:xs.length+ys.length≤big) (hz':xs++ys=z) (hn:Nat.blt d n=true)
  (hkk:∀ w' p2 c2 S2,SH w0 w' (Ch.rowD w0 S2 z p2 c2::L)→Run P n Q (.ops all l::k) ((d,.slice p2 z.length c2)::e) w') :
  Run P n Q (.ops all (⟨some d,.call ⟨.builtin .append,#[x,y],#[t,t]⟩,ty,ps,af,none⟩::l)::k) e w:=by
 subst hz' hl hl'
 obtain ⟨rs,hd,hp⟩:=qru (h.mem (i:=1) rfl).1
 obtain ⟨qs,hq,hp'⟩:=qru (h.mem (i:=0) rfl).1
 have h1:=h.say (i:=1) (c':=Ch.own S rs [.slice p rs.length c]) rfl (fun _=>hp) (fun _ h=>h) (fun _ h=>h.elim)
 have h2:=h1.say (i:=0) (c':=Ch.own S1 qs [.slice p' qs.length c']) rfl (fun _=>hp') (fun _ h=>h) (fun _ h=>h.elim)
 have hs:=(h2.sl 0 rfl).1
 refine qok hT (α:=Raw α) 1 h2 rfl hs hq.1.symm (by rw [hd.1];exact hx) hy hte hk hel hz hzs hsz hb (by rw [hd.1,hq.1];exact hbig) hn (fun w' p2 c2 S2 h3=>?_)
 have h4:SH w0 w' (Ch.own S2 (rs++qs) [.slice p2 (rs.length+qs.length) c2]::L):=SH.tail h3
 have h5:=h4.say (i:=0) (c':=Ch.rowD w0 S2 (xs++ys) p2 c2) rfl (fun hp=>qvd (hd.app hq) hp) (fun _ h=>h) (fun _ h=>h.elim)
 have:=hkk w' p2 c2 S2 h5
 rw [jo] at this
 rw [hd.1,hq.1]
 exact this
theorem ql {β:Type} {f g:Option β} {r:β} {c:Bool} {t:Nat} (hF:(bif c then f else g)=some r) (ht:e.get t=some (.bool c)) (h1:f=some r→Run P n Q k ((t,.bool true)::e) w) (h2:g=some r→Run P n Q k ((t,.bool false)::e) w):Run P n Q k e w:=by
 cases c
 ·exact qxo rfl ht (h2 hF)
 ·exact qxE rfl ht (h1 hF)
theorem qbx {β:Type} {f g:Option β} {r:β} {c:Bool} {t:Nat} {all:Array Oper} {l:List Oper} (hF:(bif c then f else g)=some r) (ht:e.get t=some (.bool c)) (h1:f=some r→RunD P n Q k all w l ((t,.bool true)::e)) (h2:g=some r→RunD P n Q k all w l ((t,.bool false)::e)):RunD P n Q k all w l e:=by
 cases c
 ·exact qxa rfl ht (h2 hF)
 ·exact qxB rfl ht (h1 hF)
theorem qtP {β:Type} {f g:Option β} {r:β} {c:Bool} {t:Nat} {ops:Array Oper} {st:List Nat} {C:World→Prop} {fuel:Nat} {listed:Array Bool} (hF:(bif c then f else g)=some r) (ht:e.get t=some (.bool c)) (h1:f=some r→RunA P n Q k ops st C fuel listed ((t,.bool true)::e) w) (h2:g=some r→RunA P n Q k ops st C fuel listed ((t,.bool false)::e) w):RunA P n Q k ops st C fuel listed e w:=by
 cases c
 ·exact qxp rfl ht (h2 hF)
 ·exact qxj rfl ht (h1 hF)
theorem SlR.ix {β:Type} {A:Nat→Prop} {i:Int} {f:α→Option β} {r:β} (h:SlR w A xs p c) (hF:(idx xs i).bind f=some r) :
  ∃ y,idx xs i=some y∧f y=some r∧(0≤i∧i<xs.length∧xs[i.toNat]?=some y)∧∃ b o q cs,p=some ⟨b,o,none⟩∧q=o+i.toNat*GoT.k α∧GoT.R w A y cs∧CellsAt w b q cs:=by
 obtain ⟨y,hy,hF⟩:=qd hF
 obtain ⟨b,o,q,cs,h1,h2,_,h3,h4⟩:=h.at hy
 exact ⟨y,hy,hF,qax hy,b,o,q,cs,h1,h2,h3,h4⟩
def RetT {β:Type} [GoT β] (P:Program) (f:FuncId) (vs:List Value) (w w0:World) (F:List Ch) (r:List β):Prop :=
 Calls P f vs.toArray w fun e w'=>∃ S p k,e=.returned (.slice p r.length k)∧SH w0 w' (Ch.own S r [.slice p r.length k]::F)
theorem qnb {β:Type} [GoT β] {r:List β} {F:List Ch} {all:Array Oper} {l:List Oper} {d ty:Nat} {ps:String} {af:Array Edge} {x:Operand} {args:Array Operand} {ats:Array TypeId} {f:FuncId} {fi ca:Array Value} {az vs:List Value}
  (hcall:qe3 P f) (hc:RetT P f vs w w0 F r) (hx:opv e x=some (.func (.func f) fi ca)) (hargs:opvs e args.toList=some az) (hvs:fi.toList++az++ca.toList=vs) (hn:Nat.blt d n=true)
  (hk:∀ w' S p c,SH w0 w' (Ch.own S r [.slice p r.length c]::F)→Run P n Q (.ops all l::k) ((d,.slice p r.length c)::e) w'):Run P n Q (.ops all (⟨some d,.call ⟨.value x,args,ats⟩,ty,ps,af,none⟩::l)::k) e w:=by
 subst hvs
 refine qm5 (R:=fun v w'=>∃ S p c,v=.slice p r.length c∧SH w0 w' (Ch.own S r [.slice p r.length c]::F)) rfl rfl hn (fun a ha=>qjE ha hcall hx hargs w) (hc.mono ?_) ?_
 ·rintro e w' ⟨S,p,c,rfl,h⟩;exact ⟨_,rfl,S,p,c,rfl,h⟩
 ·rintro v w' ⟨S,p,c,rfl,h⟩;exact hk w' S p c h
theorem qkn {β:Type} [GoT β] {r:List β} {F:List Ch} {f:FuncId} {fn:Func} {c:Code} {vs:List Value} {m:Nat} (hf:P.funcs[f]?=some fn) (hb:fn.body=some c) (hm:fn.ntmps=m) (hn:Nat.ble vs.length m=true)
  (h:Run P m (bodyPost P fn fun e w'=>∃ S p k,e=.returned (.slice p r.length k)∧SH w0 w' (Ch.own S r [.slice p r.length k]::F)) [.code c] (argEnv 0 vs) w):RetT P f vs w w0 F r:=by
 subst hm
 have hn':=jt hn
 refine calls_of_wp hf hb ?_
 have hag:Agree fn.ntmps (argEnv 0 vs) { tmps:=vs.toArray++Array.replicate (fn.ntmps-vs.toArray.size) undef,defers:=[] }:=by
  refine ⟨rfl,by simp;omega,fun i v hi=>?_⟩
  obtain ⟨_,h2⟩:=qjT vs 0 i v hi
  simp only [Nat.sub_zero] at h2
  have hlt:=(List.getElem?_eq_some_iff.1 h2).1
  rw [jX (by simpa using hlt)]
  simpa using h2
 have h1:=h _ hag
 refine wp_mono h1 ?_
 intro ex a' w' hq
 cases ex<;>exact hq
theorem qla {β:Type} [GoT β] {r:List β} {F:List Ch} {S':Nat→Prop} {p':Option Addr} {ln' c':Nat} (hT:TabOk P T) {fn:Func} (h:SH w0 w (Ch.own S' r [.slice p' ln' c']::F)) (hr:ResOk T e w fn.results.toList [.slice p' ln' c']) :
  Run P n (bodyPost P fn fun e w'=>∃ S p k,e=.returned (.slice p r.length k)∧SH w0 w' (Ch.own S r [.slice p r.length k]::F)) (.code .ret::k) e w:=by
 obtain rfl:=(h.sl 0 rfl).2
 exact qtK fun _ ha=>⟨ha.defers,_,qjw hT ha hr,S',p',c',rfl,h⟩
end
end Go.Fw


namespace Go.Fw
open Go
structure IsRoot (x w:Int):Prop where
 pos:0≤w
 lo:w*w≤x
 hi:x<(w+1)*(w+1)
end Go.Fw


namespace Go.Fw
open Go
section
variable {L:Nat} {fr to:Nat→Int} {lv:Nat→Bool}
def inN (L:Nat) (fr to:Nat→Int) (lv:Nat→Bool) (R:List Nat) (k:Nat):Nat:=cntP (fun x=>lv x&&(to x==(k:Int)&&!decide (fr x ∈ ints R))) L
def lkN (L:Nat) (fr to:Nat→Int) (lv:Nat→Bool) (i k:Nat):Nat:=cntP (fun x=>lv x&&(fr x==(i:Int))&&(to x==(k:Int))) L
def Closed (L:Nat) (fr to:Nat→Int) (lv:Nat→Bool) (R:List Nat):Prop:=∀ x,x<L→lv x=true→to x ∈ ints R→fr x ∈ ints R
theorem qpb {R:List Nat} {k:Nat}:(k:Int) ∈ ints R↔k ∈ R:=by
 unfold ints
 rw [List.mem_map]
 constructor
 ·rintro ⟨j,hj,e⟩
  obtain rfl:j=k:=by omega
  exact hj
 ·exact fun h=>⟨k,h,rfl⟩
theorem qr8 {R:List Nat} {k:Nat}:inN L fr to lv R k=0↔∀ x,x<L→lv x=true→to x=(k:Int)→fr x ∈ ints R:=by
 unfold inN
 rw [qmj]
 constructor
 ·intro h x hx h1 h2
  have:=h x hx
  rw [h1,h2] at this
  simpa using this
 ·intro h x hx
  cases h1:lv x
  ·rfl
  ·by_cases h2:to x=(k:Int)
   ·have:=h x hx h1 h2
    simp [this]
   ·simp [h2]
theorem Closed.snoc {R:List Nat} {k:Nat} (h:Closed L fr to lv R) (hk:inN L fr to lv R k=0):Closed L fr to lv (R++[k]):=by
 intro x hx h1 h2
 rw [qkC] at h2 ⊢
 rcases List.mem_append.1 h2 with h2|h2
 ·exact jR _ (h x hx h1 h2)
 ·exact jR _ (qr8.1 hk x hx h1 (List.mem_singleton.1 h2))
theorem Closed.nil:Closed L fr to lv []:=fun _ _ _ h=>by simp [ints] at h
theorem Closed.no_back {R:List Nat} {i k:Nat} (h:Closed L fr to lv R) (hi:i ∉ R) (h0:inN L fr to lv R i=0) (hk:k ∈ R++[i]):lkN L fr to lv i k=0:=by
 unfold lkN
 rw [qmj]
 intro x hx
 cases h1:lv x
 ·rfl
 ·by_cases h2:fr x=(i:Int)
  ·by_cases h3:to x=(k:Int)
   ·exfalso
    rcases List.mem_append.1 hk with hk|hk
    ·have:=h x hx h1 (by rw [h3,qpb];exact hk)
     rw [h2,qpb] at this
     exact hi this
    ·rw [List.mem_singleton.1 hk] at h3
     have:=qr8.1 h0 x hx h1 h3
     rw [h2,qpb] at this
     exact hi this
   ·simp [h3]
  ·simp [h2]
end
end Go.Fw


namespace Go.Fw
open Go
open Go.RowKit (Below)
section
variable {P:Program} {T:Tab} {n:Nat} {e:Env} {w:World}
end
end Go.Fw


namespace Go.Fw
open Go
def xs (T:Tab) (n:Nat):Nat→List (Nat × List Value)→List It→Env→List Nat→List Nat→Option (List It × Env × List Nat × List Nat)
 | 0,_,k,e,x,y=>some (k,e,x,y)
 | m+1,bs,k,e,x,y=>match k with
  | .code (.seq a b)::k=>xs T n m bs (.code a::.code b::k) e x y
  | .code .skip::k=>xs T n m bs k e x y
  | .code (.block i c)::k=>xs T n m bs (.code c::.blk i::k) e x y
  | .code (.region _ a false)::k=>xs T n m bs (.ops a a.toList::k) e x y
  | .blk _::k=>xs T n m bs k e x y
  | .ops _ []::k=>xs T n m bs k e x y
  | .ops all (⟨some d,op,_,_,_,none⟩::l)::k=>match Nat.blt d n with
   | true=>match op with
    | .load t p=>match opv e p,T.get t,bs with
     | some (.pointer (some ⟨b,o,none⟩)),some te,(b',cs)::bs'=>match ld te cs o with
      | some v=>xs T n m bs' (.ops all l::k) ((d,v)::e) (b::x) (b'::y)
      | none=>none
     | _,_,_=>none
    | op=>match pev T e op with
     | some v=>xs T n m bs (.ops all l::k) ((d,v)::e) x y
     | none=>none
   | false=>none
  | .ops all (⟨dst,op,ty,ps,af,some g⟩::l)::k=>match guardU e all ⟨dst,op,ty,ps,af,some g⟩ with
   | true=>match dst with
    | some d=>match Nat.blt d n with
     | true=>xs T n m bs (.ops all l::k) ((d,undef)::e) x y
     | false=>none
    | none=>none
   | false=>match guardOf e all ⟨dst,op,ty,ps,af,some g⟩ with
    | some true=>xs T n m bs (.ops all (⟨dst,op,ty,ps,af,none⟩::l)::k) e x y
    | some false=>match dst with
     | some d=>match Nat.blt d n with
      | true=>xs T n m bs (.ops all l::k) ((d,undef)::e) x y
      | false=>none
     | none=>none
    | none=>none
  | _=>none
def xd (T:Tab) (n:Nat) (all:Array Oper):Nat→List (Nat × List Value)→List Oper→Env→List Nat→List Nat→Option (List Oper × Env × List Nat × List Nat)
 | 0,_,k,e,x,y=>some (k,e,x,y)
 | m+1,bs,k,e,x,y=>match k with
  | ⟨some d,op,_,_,_,none⟩::l=>match Nat.blt d n with
   | true=>match op with
    | .load t p=>match opv e p,T.get t,bs with
     | some (.pointer (some ⟨b,o,none⟩)),some te,(b',cs)::bs'=>match ld te cs o with
      | some v=>xd T n all m bs' l ((d,v)::e) (b::x) (b'::y)
      | none=>none
     | _,_,_=>none
    | op=>match pev T e op with
     | some v=>xd T n all m bs l ((d,v)::e) x y
     | none=>none
   | false=>none
  | ⟨dst,op,ty,ps,af,some g⟩::l=>match guardU e all ⟨dst,op,ty,ps,af,some g⟩ with
   | true=>match dst with
    | some d=>match Nat.blt d n with
     | true=>xd T n all m bs l ((d,undef)::e) x y
     | false=>none
    | none=>none
   | false=>match guardOf e all ⟨dst,op,ty,ps,af,some g⟩ with
    | some true=>xd T n all m bs (⟨dst,op,ty,ps,af,none⟩::l) e x y
    | some false=>match dst with
     | some d=>match Nat.blt d n with
      | true=>xd T n all m bs l ((d,undef)::e) x y
      | false=>none
     | none=>none
    | none=>none
  | _=>none
section
variable {P:Program} {T:Tab} {n:Nat} {Q:Exit→Act→World→Prop} {k:List It} {e:Env} {w0 w:World} {L:List Ch}
theorem qsh (hT:TabOk P T):∀ (m:Nat) (bs:List (Nat × List Value)) (k:List It) (e:Env) (x y:List Nat) (k':List It) (e':Env) (x' y':List Nat),(∀ p ∈ bs,CellsAt w p.1 0 p.2)→x.length=y.length →
  xs T n m bs k e x y=some (k',e',x',y')→x'.length=y'.length∧(x'=y'→x=y∧(Run P n Q k' e' w→Run P n Q k e w)):=by
 intro m
 induction m with
 | zero =>
  intro bs k e x y k' e' x' y' _ hl h
  simp only [xs,Option.some.injEq,Prod.mk.injEq] at h
  obtain ⟨rfl,rfl,rfl,rfl⟩:=h
  exact ⟨hl,fun hh=>⟨hh,id⟩⟩
 | succ m ih =>
  intro bs k e x y k' e' x' y' hb hl h
  unfold xs at h
  split at h
  ·obtain ⟨h1,h2⟩:=ih _ _ _ _ _ _ _ _ _ hb hl h
   exact ⟨h1,fun hh=>⟨(h2 hh).1,fun hk=>qgT ((h2 hh).2 hk)⟩⟩
  ·obtain ⟨h1,h2⟩:=ih _ _ _ _ _ _ _ _ _ hb hl h
   exact ⟨h1,fun hh=>⟨(h2 hh).1,fun hk=>qhk ((h2 hh).2 hk)⟩⟩
  ·obtain ⟨h1,h2⟩:=ih _ _ _ _ _ _ _ _ _ hb hl h
   exact ⟨h1,fun hh=>⟨(h2 hh).1,fun hk=>qk ((h2 hh).2 hk)⟩⟩
  ·obtain ⟨h1,h2⟩:=ih _ _ _ _ _ _ _ _ _ hb hl h
   exact ⟨h1,fun hh=>⟨(h2 hh).1,fun hk=>qkX ((h2 hh).2 hk)⟩⟩
  ·obtain ⟨h1,h2⟩:=ih _ _ _ _ _ _ _ _ _ hb hl h
   exact ⟨h1,fun hh=>⟨(h2 hh).1,fun hk=>qxN ((h2 hh).2 hk)⟩⟩
  ·obtain ⟨h1,h2⟩:=ih _ _ _ _ _ _ _ _ _ hb hl h
   exact ⟨h1,fun hh=>⟨(h2 hh).1,fun hk=>qcw ((h2 hh).2 hk)⟩⟩
  ·split at h
   ·rename_i hn
    split at h
    ·split at h
     ·rename_i hx hte
      split at h
      ·rename_i v hv
       have hb':=fun p hp=>hb p (jm _ hp)
       obtain ⟨h1,h2⟩:=ih _ _ _ _ _ _ _ _ _ hb' (by simp [hl]) h
       refine ⟨h1,fun hh=>?_⟩
       obtain ⟨h3,h4⟩:=h2 hh
       obtain ⟨rfl,rfl⟩:=List.cons.inj h3
       exact ⟨rfl,fun hk=>r_v (qim hT (hb _ (jn ..)) (by rw [Ji];exact hx) hte hv) hn (h4 hk)⟩
      ·cases h
     ·cases h
    ·split at h
     ·rename_i v hv
      obtain ⟨h1,h2⟩:=ih _ _ _ _ _ _ _ _ _ hb hl h
      exact ⟨h1,fun hh=>⟨(h2 hh).1,fun hk=>r_v (v_p hT hv w) hn ((h2 hh).2 hk)⟩⟩
     ·cases h
   ·cases h
  ·split at h
   ·rename_i hg
    split at h
    ·split at h
     ·rename_i hn
      obtain ⟨h1,h2⟩:=ih _ _ _ _ _ _ _ _ _ hb hl h
      exact ⟨h1,fun hh=>⟨(h2 hh).1,fun hk=>qw6 (by unfold notW;rw [hg];rfl) rfl hn ((h2 hh).2 hk)⟩⟩
     ·cases h
    ·cases h
   ·split at h
    ·rename_i hg
     obtain ⟨h1,h2⟩:=ih _ _ _ _ _ _ _ _ _ hb hl h
     exact ⟨h1,fun hh=>⟨(h2 hh).1,fun hk=>qvh hg ((h2 hh).2 hk)⟩⟩
    ·rename_i hg
     split at h
     ·split at h
      ·rename_i hn
       obtain ⟨h1,h2⟩:=ih _ _ _ _ _ _ _ _ _ hb hl h
       exact ⟨h1,fun hh=>⟨(h2 hh).1,fun hk=>qw6 (by unfold notW;rw [hg,Bool.or_true]) rfl hn ((h2 hh).2 hk)⟩⟩
      ·cases h
     ·cases h
    ·cases h
  ·cases h
theorem qw7 (hT:TabOk P T) {all:Array Oper}:∀ (m:Nat) (bs:List (Nat × List Value)) (l:List Oper) (e:Env) (x y:List Nat) (l':List Oper) (e':Env) (x' y':List Nat),(∀ p ∈ bs,CellsAt w p.1 0 p.2)→x.length=y.length →
  xd T n all m bs l e x y=some (l',e',x',y')→x'.length=y'.length∧(x'=y'→x=y∧(RunD P n Q k all w l' e'→RunD P n Q k all w l e)):=by
 intro m
 induction m with
 | zero =>
  intro bs l e x y l' e' x' y' _ hl h
  simp only [xd,Option.some.injEq,Prod.mk.injEq] at h
  obtain ⟨rfl,rfl,rfl,rfl⟩:=h
  exact ⟨hl,fun hh=>⟨hh,id⟩⟩
 | succ m ih =>
  intro bs l e x y l' e' x' y' hb hl h
  unfold xd at h
  split at h
  ·split at h
   ·rename_i hn
    split at h
    ·split at h
     ·rename_i hx hte
      split at h
      ·rename_i v hv
       have hb':=fun p hp=>hb p (jm _ hp)
       obtain ⟨h1,h2⟩:=ih _ _ _ _ _ _ _ _ _ hb' (by simp [hl]) h
       refine ⟨h1,fun hh=>?_⟩
       obtain ⟨h3,h4⟩:=h2 hh
       obtain ⟨rfl,rfl⟩:=List.cons.inj h3
       exact ⟨rfl,fun hk=>d_v (fun w' hw=>qim hT ((hb _ (jn ..)).below hw) (by rw [Ji];exact hx) hte hv) hn (h4 hk)⟩
      ·cases h
     ·cases h
    ·split at h
     ·rename_i v hv
      obtain ⟨h1,h2⟩:=ih _ _ _ _ _ _ _ _ _ hb hl h
      exact ⟨h1,fun hh=>⟨(h2 hh).1,fun hk=>d_v (fun w' _=>v_p hT hv w') hn ((h2 hh).2 hk)⟩⟩
     ·cases h
   ·cases h
  ·split at h
   ·rename_i hg
    split at h
    ·split at h
     ·rename_i hn
      obtain ⟨h1,h2⟩:=ih _ _ _ _ _ _ _ _ _ hb hl h
      exact ⟨h1,fun hh=>⟨(h2 hh).1,fun hk=>qw8 (by unfold notW;rw [hg];rfl) rfl hn ((h2 hh).2 hk)⟩⟩
     ·cases h
    ·cases h
   ·split at h
    ·rename_i hg
     obtain ⟨h1,h2⟩:=ih _ _ _ _ _ _ _ _ _ hb hl h
     exact ⟨h1,fun hh=>⟨(h2 hh).1,fun hk=>qwe hg ((h2 hh).2 hk)⟩⟩
    ·rename_i hg
     split at h
     ·split at h
      ·rename_i hn
       obtain ⟨h1,h2⟩:=ih _ _ _ _ _ _ _ _ _ hb hl h
       exact ⟨h1,fun hh=>⟨(h2 hh).1,fun hk=>qw8 (by unfold notW;rw [hg,Bool.or_true]) rfl hn ((h2 hh).2 hk)⟩⟩
      ·cases h
     ·cases h
    ·cases h
  ·cases h
end
def bits (m K:Nat):Array Bool:=((List.range m).map fun i=>K.testBit i).toArray
theorem qqo {m:Nat}:Array.replicate m false=bits m 0:=by
 unfold bits
 apply Array.ext'
 simp only [Nat.zero_testBit,Array.toList_replicate]
 exact Jc (by simp) (by simp)
def xa (T:Tab) (n:Nat) (ops:Array Oper):List Nat→List (Nat × List Value)→Nat→Env→List Nat→List Nat→Option (Nat × Env × List Nat × List Nat)
 | [],_,f,e,x,y=>some (f,e,x,y)
 | i::is,bs,f,e,x,y=>match f with
  | 0=>none
  | f+1=>match ops[i]? with
   | some ⟨some d,op,_,_,_,none⟩=>match Nat.blt d n with
    | true=>match op with
     | .load t p=>match opv e p,T.get t,bs with
      | some (.pointer (some ⟨b,o,none⟩)),some te,(b',cs)::bs'=>match ld te cs o with
       | some v=>xa T n ops is bs' f ((d,v)::e) (b::x) (b'::y)
       | none=>none
      | _,_,_=>none
     | op=>match pev T e op with
      | some v=>xa T n ops is bs f ((d,v)::e) x y
      | none=>none
    | false=>none
   | _=>none
def oka (ops:Array Oper) (st:List Nat):List Nat→Array Bool→Array Bool→Bool
 | [],l,l'=>l==l'
 | i::is,l,l'=>(Region.noSelect ops&&Region.free .any ops l i&&(Region.ready .any ops l).contains i&&st.all (fun s=>!(Nat.beq s i)&&waitsB ops i s&&!(l.getD s true)))&&oka ops st is (l.setIfInBounds i true) l'
section
variable {P:Program} {T:Tab} {n:Nat} {fnc:Func} {R:Ending→World→Prop} {k:List It} {e:Env} {w0 w:World} {ops:Array Oper} {st:List Nat} {C:World→Prop}
theorem qtL (hT:TabOk P T) (hC:C w):∀ (is:List Nat) (bs:List (Nat × List Value)) (f:Nat) (e:Env) (x y:List Nat) (f':Nat) (e':Env) (x' y':List Nat) (l l':Array Bool),(∀ p ∈ bs,∀ w',C w'→CellsAt w' p.1 0 p.2)→x.length=y.length →
  xa T n ops is bs f e x y=some (f',e',x',y')→oka ops st is l l'=true→x'.length=y'.length∧(x'=y'→x=y∧(RunA P n (bodyPost P fnc R) k ops st C f' l' e' w→RunA P n (bodyPost P fnc R) k ops st C f l e w)):=by
 intro is
 induction is with
 | nil =>
  intro bs f e x y f' e' x' y' l l' _ hl h ho
  simp only [xa,Option.some.injEq,Prod.mk.injEq] at h
  obtain ⟨rfl,rfl,rfl,rfl⟩:=h
  obtain rfl:=eq_of_beq ho
  exact ⟨hl,fun hh=>⟨hh,id⟩⟩
 | cons i is ih =>
  intro bs f e x y f' e' x' y' l l' hb hl h ho
  unfold oka at ho
  rw [ji] at ho
  obtain ⟨ho1,ho2⟩:=ho
  unfold xa at h
  split at h
  ·cases h
  ·split at h
   ·rename_i hi
    split at h
    ·rename_i hn
     split at h
     ·split at h
      ·rename_i hx hte
       split at h
       ·rename_i v hv
        have hb':=fun p hp=>hb p (jm _ hp)
        obtain ⟨h1,h2⟩:=ih _ _ _ _ _ _ _ _ _ _ _ hb' (by simp [hl]) h ho2
        refine ⟨h1,fun hh=>?_⟩
        obtain ⟨h3,h4⟩:=h2 hh
        obtain ⟨rfl,rfl⟩:=List.cons.inj h3
        exact ⟨rfl,fun hk=>qpr i hi _ rfl ho1 (fun w' hw'=>qim hT (hb _ (jn ..) w' hw') (by rw [Ji];exact hx) hte hv) hC hn (h4 hk)⟩
       ·cases h
      ·cases h
     ·split at h
      ·rename_i v hv
       obtain ⟨h1,h2⟩:=ih _ _ _ _ _ _ _ _ _ _ _ hb hl h ho2
       exact ⟨h1,fun hh=>⟨(h2 hh).1,fun hk=>qpr i hi _ rfl ho1 (fun w' _=>v_p hT hv w') hC hn ((h2 hh).2 hk)⟩⟩
      ·cases h
    ·cases h
   ·cases h
end
def gets (e:Env):Env→Option Env
 | []=>some []
 | p::l=>match e.get p.1,gets e l with
  | some v,some r=>some ((p.1,v)::r)
  | _,_=>none
theorem qo0 {e:Env}:∀ {e':Env},gets e e'=some e'→subEnv e e'
 | [],_=>trivial
 | p::l,h=>by
  unfold gets at h
  split at h
  ·rename_i v r hv hr
   have h:=List.cons.inj (Option.some.inj h)
   refine ⟨?_,qo0 (by rw [hr,h.2])⟩
   rw [hv,←h.1]
  ·cases h
def pickN (L:List Ch):List Nat→Option (List Ch)
 | []=>some []
 | i::is=>match L[i]?,pickN L is with
  | some c,some l=>some (c::l)
  | _,_=>none
def setN:List Ch→Nat→Ch→Option (List Ch)
 | [],_,_=>some []
 | _::l,0,c=>some (c::l)
 | a::l,i+1,c=>match setN l i c with
  | some r=>some (a::r)
  | none=>none
theorem qtQ:∀ {L:List Ch} {i:Nat} {c:Ch} {L':List Ch},setN L i c=some L'→L.set i c=L'
 | [],_,_,_,h=>by simpa [setN] using h
 | _::_,0,_,_,h=>by simpa [setN] using h
 | a::l,i+1,c,L',h=>by
  unfold setN at h
  split at h
  ·rename_i r hr
   rw [List.set_cons_succ,qtQ hr]
   exact Option.some.inj h
  ·cases h
def splN:List Value→Nat→List Value→Option (List Value)
 | cs,0,[]=>some cs
 | [],_,_=>none
 | _::cs,0,u::us=>match splN cs 0 us with
  | some r=>some (u::r)
  | none=>none
 | c::cs,j+1,us=>match splN cs j us with
  | some r=>some (c::r)
  | none=>none
theorem qq3:∀ {cs:List Value} {j:Nat} {us r:List Value},splN cs j us=some r→splice cs j us=r
 | cs,0,[],r,h=>by
  have h:cs=r:=by cases cs<;>simpa [splN] using h
  subst h;simp [splice]
 | [],0,_::_,_,h=>by simp [splN] at h
 | [],_+1,_,_,h=>by simp [splN] at h
 | c::cs,0,u::us,r,h=>by
  unfold splN at h
  split at h
  ·rename_i q hq
   have:=qq3 hq
   obtain rfl:=Option.some.inj h
   rw [←this]
   simp [splice]
  ·cases h
 | c::cs,j+1,us,r,h=>by
  unfold splN at h
  split at h
  ·rename_i q hq
   have:=qq3 hq
   obtain rfl:=Option.some.inj h
   rw [←this]
   simp [splice,Nat.add_right_comm]
  ·cases h
section
variable {P:Program} {T:Tab} {n:Nat} {Q:Exit→Act→World→Prop} {k:List It} {e:Env} {w0 w:World} {L:List Ch} {all:Array Oper}
theorem dN (h:SH w0 w L) (hk:∀ w',SH w0 w' L→Run P n Q k e w'):RunD P n Q k all w [] e:=qxL fun w' hb=>hk w' (h.ext hb)
theorem rK {Inv:Nat→Env→World→Prop} {m:Nat} {e':Env} (h:Inv m e' w) (hs:gets e e'=some e'):Run P n Q (.goal (Back n Inv (m+1))::k) e w:=qxw m e' (Nat.lt_succ_self m) (qo0 hs) h
theorem rG {J:Env→World→Prop} {e':Env} (h:J e' w) (hs:gets e e'=some e'):Run P n Q (.goal (CutJ n J)::k) e w:=qu0 e' (qo0 hs) h
theorem rL {b:Code} (Inv:Nat→Env→World→Prop) (m:Nat) {e':Env} (h:Inv m e' w) (hs:gets e e'=some e') (round:∀ m e w,Inv m e w→Run P n Q (.code b::.goal (Back n Inv m)::k) e w):Run P n Q (.code (.loop b)::k) e w :=
 qxI e' (qo0 hs) (qxC Inv m h round)
theorem rA {id:Nat} {ops:List Oper} (st is:List Nat) {m:Nat} {L':List Ch} (h:SH w0 w L) (hh:(pickN L is,ops.length,P.follows .mixedOrders)=(some L',m,true))
  (hk:∀ w',SH w0 w' L→RunA P n Q k ops.toArray st (fun w'=>SH w0 w' L') m (bits m 0) e w'):Run P n Q (.code (.region id ops.toArray true)::k) e w:=by
 simp only [Prod.mk.injEq] at hh
 exact qw5 st _ hh.2.2 m (by simpa using hh.2.1) _ qqo fun w' hb=>hk w' (h.ext hb)
theorem Ag {ops:Array Oper} {st:List Nat} {C:World→Prop} {fuel:Nat} {listed:Array Bool} {all:Array Oper} (hC:C w) (h:RunA P n Q k ops st C fuel listed e w):Run P n Q (.ops all []::.goal (NextA P n Q k ops st C fuel listed)::k) e w:=qh3 (fun _=>hC) h
theorem Ao {ops:Array Oper} {st:List Nat} {C:World→Prop} {fuel:Nat} (i K:Nat) {m K0:Nat} {o:Oper} (hi:ops[i]?=some o) (h:Run P n Q (.ops ops [o]::.goal (NextA P n Q k ops st C fuel (bits m K))::k) e w)
  (hl:(bits m K0).setIfInBounds i true=bits m K:=by kernel_rfl) (hr:Region.ready .any ops (bits m K0)=[i]:=by kernel_rfl):RunA P n Q k ops st C (fuel+1) (bits m K0) e w:=qxt i hi _ hl hr h
theorem Ad {ops:Array Oper} {st:List Nat} {C:World→Prop} {listed:Array Bool} (h:Run P n Q k e w) (hr:Region.ready .any ops listed=[]:=by kernel_rfl):RunA P n Q k ops st C 0 listed e w:=qxy hr h
theorem At {ops:Array Oper} {st:List Nat} {C:World→Prop} {fuel:Nat} (i j K K':Nat) {m K0:Nat} {o o':Oper} (hh:(ops[i]?,ops[j]?)=(some o,some o')) (h1:Run P n Q (.ops ops [o]::.goal (NextA P n Q k ops st C fuel (bits m K))::k) e w)
  (h2:Run P n Q (.ops ops [o']::.goal (NextA P n Q k ops st C fuel (bits m K'))::k) e w) (hl1:(bits m K0).setIfInBounds i true=bits m K:=by kernel_rfl) (hl2:(bits m K0).setIfInBounds j true=bits m K':=by kernel_rfl)
  (hr:Region.ready .any ops (bits m K0)=[i,j]:=by kernel_rfl):RunA P n Q k ops st C (fuel+1) (bits m K0) e w:=by
 simp only [Prod.mk.injEq] at hh
 exact qxK i j hh.1 hh.2 _ _ hl1 hl2 hr h1 h2
theorem rD {id:Nat} {ops:List Oper} (h:RunD P n Q k ops.toArray w ops e) (hm:P.follows .mixedOrders=true:=by rfl) (hB:Region.lexB .any ops.toArray=true:=by kernel_rfl):Run P n Q (.code (.region id ops.toArray true)::k) e w:=qxA hm hB h
end
section
variable {w:World} {S:Nat→Prop}
theorem pR {α β:Type} {A:GoT α} {B:GoT β} {x:α} {y:β} {c d:List Value} (h1:A.R w S x c) (h2:B.R w S y d):(pairT A B).R w S (x,y) (c++d):=⟨c,d,rfl,h1,h2⟩
theorem rI (x:Int):GoT.R w S x [.int .i64 x]:=rfl
theorem rB (x:Bool):GoT.R w S x [.bool x]:=rfl
theorem rT (x:ByteArray):GoT.R w S x [.string x]:=rfl
theorem rS {α:Type} [GoT α] {xs:List α} {p:Option Addr} {c:Nat} (s:SlR w S xs p c):GoT.R w S xs [.slice p xs.length c]:=⟨p,c,rfl,s⟩
end
def callB (P:Program) (f:FuncId):Bool:=match P.funcs[f]? with
 | some fn=>fn.body.isSome&&!(fn.name== "runtime.NumGoroutine")
 | none=>false
theorem qv1 {P:Program} {f:FuncId} (h:callB P f=true):qe3 P f:=by
 unfold callB at h
 split at h
 ·rename_i fn hf
  rw [ji,jO] at h
  exact ⟨fn,hf,h.1,h.2⟩
 ·cases h
def res1 (e:Env):List ResultVar→Option Value
 | [.tmp t]=>e.get t
 | _=>none
theorem qtX {T:Tab} {e:Env} {w:World} {rs:List ResultVar} {v:Value} (h:res1 e rs=some v):ResOk T e w rs [v]:=by
 unfold res1 at h
 split at h
 ·exact ⟨h,trivial⟩
 ·cases h
end Go.Fw
