/- Lists of integers by a function of the place; orders of a graph in which edges lead to later places. No program in sight. -/
import Derived.Test.YtanbjhnkfiipnaaGreatDoorFw30
import Derived.KernelRfl
open Option renaming bind_some → je
open Nat renaming le_refl → jf, mul_le_mul_right → jr, le_of_ble_eq_true → js, lt_of_lt_of_le → jt, zero_le → jw, succ_mul → jE, le_trans → jJ, add_zero → jN, zero_add → jZ
open List renaming length_append → jg, length_singleton → ji, getElem?_eq_getElem → jm, mem_cons_of_mem → jo, getElem_mem → jp, mem_cons_self → jq, mem_of_getElem? → ju, getElem?_append_left → jv, getD_eq_getElem?_getD → jx, not_mem_nil → jy, eq_nil_of_length_eq_zero → jA, length_map → jB, take_length → jC, take_succ_eq_append_getElem → jF, mem_append_left → jG, getElem?_take → jH, getElem?_toArray → jI, getElem?_append_right → jK, drop_eq_getElem_cons → jM, append_nil → jO, range_succ → jP, mem_cons → jQ, getElem_of_mem → jS, size_toArray → jT, length_filter_le → jU, append_assoc → jV, map_append → jW, all_eq_true → jX, map_cons → jY
open Bool renaming and_eq_true → jh, eq_iff_iff → jk, not_eq_true' → jD, true_and → jL
open Go.Result renaming andThen_ok → jj
open Go.Sem renaming run_bind → jl, run_pure → jn
open Int renaming toNat_natCast → jz
open Array renaming getElem?_append_left → jR

namespace Go.Fw
open Go
def vecI (f:Nat→Int) (m:Nat):List Int:=(List.range m).map f
theorem qgW {f:Nat→Int} {m:Nat}:(vecI f m).length=m:=by simp [vecI]
theorem qeP {f:Nat→Int} {m k:Nat} (h:k<m):idx (vecI f m) (k:Int)=some (f k):=by
 rw [qay (by rw [qgW];exact h)]
 simp [vecI]
theorem qdM {f g:Nat→Int} {m:Nat} (h:∀ k,k<m→f k=g k):vecI f m=vecI g m:=by
 unfold vecI
 exact List.map_congr_left (fun k hk=>h k (List.mem_range.1 hk))
theorem qjT {m:Nat} (h:m≤2147483648):mkS (m:Int) (0:Int)=some (vecI (fun _=>0) m):=by
 unfold mkS big
 rw [if_pos ⟨by omega,by omega⟩]
 congr 1
 refine List.ext_getElem (by simp [vecI]) (fun k h1 h2=>?_)
 simp [vecI]
theorem qiI {f:Nat→Int} {m k:Nat} {v:Int}:setS (vecI f m) (k:Int) v=vecI (fun i=>if i=k then v else f i) m:=by
 unfold setS
 refine List.ext_getElem (by simp [vecI]) (fun i h1 h2=>?_)
 rw [List.getElem_set]
 show (if k=i then _ else _)=_
 by_cases hk:k=i
 ·subst hk;simp [vecI]
 ·have:i ≠ k:=fun h=>hk h.symm
  simp [vecI,hk,this]
section
variable {sc:Nat→List Int} {m:Nat}
def inC (sc:Nat→List Int) (m:Nat) (R:List Nat) (k:Nat):Nat:=((List.range m).map fun u=>if u ∈ R then 0 else (sc u).count (k:Int)).sum
inductive Topo (sc:Nat→List Int) (m:Nat):List Nat→Prop
 | nil:Topo sc m []
 | snoc {l:List Nat} {k:Nat}:Topo sc m l→k<m→k ∉ l→(∀ u,u<m→(k:Int) ∈ sc u→u ∈ l)→Topo sc m (l++[k])
def Stuck (sc:Nat→List Int) (m:Nat) (l:List Nat):Prop:=∀ k,k<m→k ∉ l→∃ u,u<m∧(k:Int) ∈ sc u∧u ∉ l
theorem Topo.lt {l:List Nat} (h:Topo sc m l):∀ k,k ∈ l→k<m:=by
 induction h with
 | nil=>intro k hk;cases hk
 | snoc _ hk _ _ ih =>
  intro j hj
  rcases List.mem_append.1 hj with hj|hj
  ·exact ih j hj
  ·rw [List.mem_singleton.1 hj];exact hk
theorem Topo.nodup {l:List Nat} (h:Topo sc m l):l.Nodup:=by
 induction h with
 | nil=>exact List.nodup_nil
 | snoc _ _ hn _ ih =>
  rw [List.nodup_append]
  refine ⟨ih,by simp,fun a ha b hb=>?_⟩
  rw [List.mem_singleton.1 hb]
  rintro rfl
  exact hn ha
theorem Topo.sub {l l':List Nat} (h:Topo sc m l) (hs:Stuck sc m l'):∀ k,k ∈ l→k ∈ l':=by
 induction h with
 | nil=>intro k hk;cases hk
 | @snoc l k _ hk _ hp ih =>
  intro j hj
  rcases List.mem_append.1 hj with hj|hj
  ·exact ih j hj
  ·rw [List.mem_singleton.1 hj]
   by_cases hc:k ∈ l'
   ·exact hc
   ·obtain ⟨u,hu,he,hn⟩:=hs k hk hc
    exact absurd (ih u (hp u hu he)) hn
theorem qjr {l l':List Nat} (hn:l.Nodup) (h:∀ k,k ∈ l→k ∈ l'):l.length≤l'.length:=by
 induction l generalizing l' with
 | nil=>exact jw _
 | cons a l ih =>
  obtain ⟨h1,h2⟩:=List.nodup_cons.1 hn
  have hm:a ∈ l':=h a (jq ..)
  have:=ih (l':=l'.erase a) h2 (fun k hk=>(List.mem_erase_of_ne (fun e=>h1 (by rw [←e];exact hk))).2 (h k (jo _ hk)))
  rw [List.length_erase_of_mem hm] at this
  have:0<l'.length:=List.length_pos_of_mem hm
  simp only [List.length_cons]
  omega
theorem Topo.len {l:List Nat} (h:Topo sc m l):l.length≤m:=by
 have:=qjr (l':=List.range m) h.nodup (fun k hk=>List.mem_range.2 (h.lt k hk))
 simpa using this
theorem Topo.full {l:List Nat} (h:Topo sc m l) (hl:l.length=m):∀ k,k<m→k ∈ l:=by
 intro k hk
 by_cases hc:k ∈ l
 ·exact hc
 ·have h1:=qjr (l:=k::l) (l':=List.range m) (List.nodup_cons.2 ⟨hc,h.nodup⟩) (fun j hj=>by
   rcases List.mem_cons.1 hj with rfl|hj
   ·exact List.mem_range.2 hk
   ·exact List.mem_range.2 (h.lt j hj))
  simp at h1
  omega
theorem Topo.stuck_full {l:List Nat} (_:Topo sc m l) (hf:∀ k,k<m→k ∈ l):Stuck sc m l:=fun k hk hn=>absurd (hf k hk) hn
theorem Topo.pre {l l':List Nat} (h:Topo sc m (l++l')):Topo sc m l:=by
 generalize he:l++l'=x at h
 induction h generalizing l' with
 | nil=>simp at he;rw [he.1];exact .nil
 | @snoc y k ht hk hn hp ih =>
  rcases List.eq_nil_or_concat l' with rfl|⟨l2,b,rfl⟩
  ·rw [jO] at he;subst he;exact .snoc ht hk hn hp
  ·rw [List.concat_eq_append,←jV] at he
   have:=List.append_inj' he rfl
   exact ih this.1
theorem Topo.at {l l':List Nat} {k:Nat} (h:Topo sc m (l++k::l')):k<m∧k ∉ l∧∀ u,u<m→(k:Int) ∈ sc u→u ∈ l:=by
 have:Topo sc m ((l++[k])++l'):=by simpa using h
 have h1:=this.pre
 generalize he:l++[k]=x at h1
 cases h1 with
 | nil=>simp at he
 | snoc _ a b c =>
  have:=List.append_inj' he rfl
  obtain ⟨rfl,e⟩:=this
  obtain rfl:k=_:=by simpa using e
  exact ⟨a,b,c⟩
theorem qod {f:Nat→Nat} {m:Nat}:((List.range m).map f).sum=0↔∀ u,u<m→f u=0:=by
 induction m with
 | zero=>simp
 | succ m ih =>
  rw [jP,jW,List.sum_append]
  simp only [jY,List.map_nil,List.sum_cons,List.sum_nil,jN]
  constructor
  ·intro h u hu
   rcases Nat.lt_succ_iff_lt_or_eq.1 hu with h1|rfl
   ·exact ih.1 (by omega) u h1
   ·omega
  ·intro h
   rw [ih.2 (fun u hu=>h u (by omega)),h m (by omega)]
theorem qhE {R:List Nat} {k:Nat}:inC sc m R k=0↔∀ u,u<m→(k:Int) ∈ sc u→u ∈ R:=by
 unfold inC
 rw [qod]
 constructor
 ·intro h u hu he
  by_cases hc:u ∈ R
  ·exact hc
  ·have:=h u hu
   rw [if_neg hc,List.count_eq_zero] at this
   exact absurd he this
 ·intro h u hu
  by_cases hc:u ∈ R
  ·rw [if_pos hc]
  ·rw [if_neg hc,List.count_eq_zero]
   exact fun he=>hc (h u hu he)
theorem qoV {f g:Nat→Nat} {m i d:Nat} (hi:i<m) (h:∀ u,u<m→u ≠ i→f u=g u) (he:f i=g i+d):((List.range m).map f).sum=((List.range m).map g).sum+d:=by
 induction m with
 | zero=>omega
 | succ m ih =>
  simp only [jP,jW,List.sum_append,jY,List.map_nil,List.sum_cons,List.sum_nil,jN]
  by_cases hm:i=m
  ·subst hm
   have:(List.range i).map f=(List.range i).map g:=List.map_congr_left (fun u hu=>h u (by have:=List.mem_range.1 hu;omega) (by have:=List.mem_range.1 hu;omega))
   rw [this,he]
   omega
  ·rw [ih (by omega) (fun u hu=>h u (by omega)),h m (by omega) (fun e=>hm e.symm)]
   omega
theorem qmt {R:List Nat} {i k:Nat} (hi:i<m) (hn:i ∉ R):inC sc m R k=inC sc m (R++[i]) k+(sc i).count (k:Int):=by
 unfold inC
 refine qoV hi (fun u _ hu=>?_) ?_
 ·by_cases hc:u ∈ R
  ·rw [if_pos hc,if_pos (jG _ hc)]
  ·rw [if_neg hc,if_neg (by simp [hc,hu])]
 ·rw [if_neg hn,if_pos (by simp)]
  omega
theorem qjo {j k:Nat}:((List.range (j+1)).map fun u=>(sc u).count (k:Int)).sum=((List.range j).map fun u=>(sc u).count (k:Int)).sum+(sc j).count (k:Int):=by
 simp [jP]
theorem Topo.zeros {j:Nat} (hj:j≤m):Topo sc m ((List.range j).filter fun k=>decide (inC sc m [] k=0)):=by
 induction j with
 | zero=>exact .nil
 | succ j ih =>
  rw [jP,List.filter_append]
  have ih:=ih (by omega)
  by_cases hc:inC sc m [] j=0
  ·rw [List.filter_cons_of_pos (by simpa using hc),List.filter_nil]
   refine .snoc ih (by omega) (fun h=>?_) (fun u hu he=>absurd (qhE.1 hc u hu he) (by simp))
   have:=List.mem_range.1 (List.mem_filter.1 h).1
   omega
  ·rw [List.filter_cons_of_neg (by simpa using hc),List.filter_nil,jO]
   exact ih
theorem Topo.no_back {l:List Nat} {i k:Nat} (h:Topo sc m l) (hi:i<m) (hn:i ∉ l) (hk:k ∈ l):(sc i).count (k:Int)=0:=by
 rw [List.count_eq_zero]
 intro he
 obtain ⟨a,c,rfl⟩:=List.append_of_mem hk
 exact hn (jG _ (h.at.2.2 i hi he))
end
def ints (l:List Nat):List Int:=l.map fun (k:Nat)=>(k:Int)
theorem qeO {l:List Nat}:(ints l).length=l.length:=by simp [ints]
theorem qhL {l:List Nat} {k:Nat}:ints (l++[k])=ints l++[(k:Int)]:=by simp [ints]
theorem qno {l:List Nat} {j:Nat} (h:j<l.length):idx (ints l) (j:Int)=some (l[j]:Int):=by
 rw [qay (by rw [qeO];exact h)]
 simp [ints]
theorem qkO {xs:List Int} {j k i:Nat} (hj:xs[j]?=some (k:Int)):(xs.take (j+1)).count (i:Int)=(xs.take j).count (i:Int)+(if i=k then 1 else 0):=by
 obtain ⟨h1,h2⟩:=List.getElem?_eq_some_iff.1 hj
 rw [jF h1,List.count_append,h2,List.count_singleton]
 congr 1
 by_cases h:i=k
 ·subst h;simp
 ·have:¬ (k:Int)=(i:Int):=by omega
  simp [h,this]
theorem qoO {xs:List Int} {j i:Nat}:(xs.take j).count (i:Int)≤xs.count (i:Int):=List.Sublist.count_le _ (List.take_sublist _ _)
def qjm (xs:List Int) (m:Nat):Prop:=∀ y,y ∈ xs→∃ k:Nat,k<m∧y=(k:Int)
theorem qjm.at {xs:List Int} {m j:Nat} (h:qjm xs m) (hj:j<xs.length):∃ k:Nat,k<m∧idx xs (j:Int)=some (k:Int)∧xs[j]?=some (k:Int):=by
 obtain ⟨k,hk,e⟩:=h _ (jp hj)
 exact ⟨k,hk,by rw [qay hj,e],by rw [jm hj,e]⟩
theorem loopR {ρ τ:Type} {Lf:Nat→τ→Int→Option ρ} (Inv:Nat→τ→Prop) (Q:ρ→Prop) {len:Nat} (hend:∀ t,Inv len t→EvQ (fun n=>Lf (n+1) t (len:Int)) Q)
  (hstep:∀ j t,j<len→Inv j t→EvQ (fun n=>Lf n t (j:Int)) Q∨∃ t',Inv (j+1) t'∧∀ X,Ev (fun n=>Lf n t' ((j+1:Nat):Int)) X→Ev (fun n=>Lf (n+1) t (j:Int)) X)
  (i0:Nat) (hi:i0≤len) (t:τ) (h0:Inv i0 t):EvQ (fun n=>Lf n t (i0:Int)) Q:=by
 have main:∀ k j t,j+k=len→Inv j t→EvQ (fun n=>Lf n t (j:Int)) Q:=by
  intro k
  induction k with
  | zero =>
   intro j t hj h
   obtain rfl:j=len:=by omega
   exact EvQ.succ (hend t h)
  | succ k ih =>
   intro j t hj h
   rcases hstep j t (by omega) h with h1|⟨t',h1,h2⟩
   ·exact h1
   ·obtain ⟨r,h3,h4⟩:=ih (j+1) t' (by omega) h1
    exact ⟨r,Ev.succ (h2 _ h3),h4⟩
 exact main (len-i0) i0 t (by omega) h0
end Go.Fw


namespace Go.Fw
open Go
def selN (q:Nat→Bool) (m:Nat):List Nat:=(List.range m).filter q
theorem qln {q:Nat→Bool} {j:Nat}:selN q (j+1)=selN q j++(bif q j then [j] else []):=by
 unfold selN
 rw [jP,List.filter_append]
 cases h:q j<;>simp [h]
theorem qon {q:Nat→Bool} {j:Nat}:(selN q j).length≤j:=by
 unfold selN
 exact jJ (jU _ _) (by rw [List.length_range];exact jf _)
theorem qnB {ρ:Type} {Lf:Nat→List Int→Int→Option ρ} {q:Nat→Bool} {len:Nat} {fin:ρ} (hl:len≤1048576) (hend:Ev (fun n=>Lf n (ints (selN q len)) (len:Int)) fin)
  (hstep:∀ j,j<len→∀ t:List Int,appS t [(j:Int)]=some (t++[(j:Int)])→∀ X,(q j=true→Ev (fun n=>Lf n (t++[(j:Int)]) ((j+1:Nat):Int)) X)→(q j=false→Ev (fun n=>Lf n t ((j+1:Nat):Int)) X)→Ev (fun n=>Lf (n+1) t (j:Int)) X) :
  Ev (fun n=>Lf n [] 0) fin :=
 down (P:=fun j=>Ev (fun n=>Lf n (ints (selN q j)) (j:Int)) fin) len hend (fun j hj ih=>Ev.succ (hstep j hj _
  (qbG (by have:=qon (q:=q) (j:=j);rw [qeO,ji];omega)) _
  (fun h=>by rw [qln,h] at ih;simp only [cond_true,qhL] at ih;exact ih) (fun h=>by rw [qln,h] at ih;simpa using ih)))
section
variable {sc:Nat→List Int} {m:Nat}
def sumP (sc:Nat→List Int) (c:Nat→Nat):List Nat→Nat→Nat
 | [],_=>0
 | u::l,j=>(sc u).count (j:Int)*c u+sumP sc c l j
theorem qlA {c:Nat→Nat} {l:List Nat} {i j:Nat}:sumP sc c (l++[i]) j=sumP sc c l j+(sc i).count (j:Int)*c i:=by
 induction l with
 | nil=>simp [sumP]
 | cons u l ih=>simp only [List.cons_append,sumP,ih];omega
theorem qkG {c d:Nat→Nat} {l:List Nat} {j:Nat} (h:∀ u,u ∈ l→(j:Int) ∈ sc u→c u=d u):sumP sc c l j=sumP sc d l j:=by
 induction l with
 | nil=>rfl
 | cons u l ih =>
  simp only [sumP]
  rw [ih (fun v hv=>h v (jo _ hv))]
  by_cases he:(j:Int) ∈ sc u
  ·rw [h u (jq ..) he]
  ·rw [List.count_eq_zero.2 he];simp
theorem qnI {c:Nat→Nat} {l l':List Nat} {j:Nat} (h:l.Perm l'):sumP sc c l j=sumP sc c l' j:=by
 induction h with
 | nil=>rfl
 | cons u _ ih=>simp only [sumP,ih]
 | swap u v l=>simp only [sumP];omega
 | trans _ _ ih1 ih2=>exact ih1.trans ih2
theorem qm4 {l l':List Nat} (h1:l.Nodup) (h2:l'.Nodup) (h:∀ k,k ∈ l↔k ∈ l'):l.Perm l':=by
 induction l generalizing l' with
 | nil =>
  cases l' with
  | nil=>exact .nil
  | cons a l'=>exact absurd ((h a).2 (jq ..)) (by simp)
 | cons a l ih =>
  obtain ⟨ha,hl⟩:=List.nodup_cons.1 h1
  have hm:a ∈ l':=(h a).1 (jq ..)
  have:=ih (l':=l'.erase a) hl (h2.erase a) (fun k=>by
   rw [h2.mem_erase_iff]
   constructor
   ·intro hk
    exact ⟨fun e=>ha (by rw [←e];exact hk),(h k).1 (jo _ hk)⟩
   ·rintro ⟨hne,hk⟩
    rcases List.mem_cons.1 ((h k).2 hk) with e|hk
    ·exact absurd e hne
    ·exact hk)
  exact (this.cons a).trans (List.perm_cons_erase hm).symm
def PathEq (sc:Nat→List Int) (M:Nat) (st:Nat→Nat) (l:List Nat) (c:Nat→Nat) (j:Nat):Prop:=c j=min M (st j+sumP sc c l j)
theorem qnA {M:Nat} {l:List Nat} {i j:Nat} {c c':Nat→Nat} {s:Nat} (h:Topo sc m l) (hi:i<m) (hn:i ∉ l) (hp:∀ u,u<m→(i:Int) ∈ sc u→u ∈ l)
  (hc':∀ j,j<m→c' j=min M (c j+(sc i).count (j:Int)*c i)) (hle:∀ j,j<m→c j≤M) (hj:j<m) (he:c j=min M (s+sumP sc c l j)):c' j=min M (s+sumP sc c' (l++[i]) j):=by
 have hii:(sc i).count (i:Int)=0:=List.count_eq_zero.2 (fun he=>hn (hp i hi he))
 have hci:c' i=c i:=by have:=hc' i hi;rw [hii,Nat.zero_mul,jN] at this;have:=hle i hi;omega
 have hsame:∀ u,u ∈ l→c u=c' u:=fun u hu=>by
  have:=hc' u (h.lt u hu)
  rw [h.no_back hi hn hu,Nat.zero_mul,jN] at this
  have:=hle u (h.lt u hu)
  omega
 rw [hc' j hj,he,qlA,hci,qkG (fun u hu _=>hsame u hu)]
 omega
end
end Go.Fw


namespace Go.Fw
open Go
open Go.RowKit (Below)
section
variable {w0 w:World} {L:List Ch}
end
end Go.Fw


namespace Go.Fw
open Go
open Go.RowKit (Below)
section
variable {P:Program} {T:Tab} {n:Nat} {Q:Exit→Act→World→Prop} {k:List It} {e:Env} {w0 w:World} {L:List Ch}
variable {α:Type} [GoT α] {S S1:Nat→Prop} {xs ys:List α} {p p':Option Addr} {c c':Nat}
def Rd (w0:World) (xs:List α) (rs:List (Raw α)):Prop:=rs.length=xs.length∧∀ (i:Nat) (x:α) (r:Raw α),xs[i]?=some x→rs[i]?=some r→GoT.R w0 (Fw.old w0) x r.cs
theorem Rd.app {rs qs:List (Raw α)} (h1:Rd w0 xs rs) (h2:Rd w0 ys qs):Rd w0 (xs++ys) (rs++qs):=by
 refine ⟨by simp [h1.1,h2.1],fun i x r hx hr=>?_⟩
 by_cases hi:i<xs.length
 ·rw [jv hi] at hx
  rw [jv (by rw [h1.1];exact hi)] at hr
  exact h1.2 i x r hx hr
 ·rw [jK (by omega)] at hx
  rw [jK (by rw [h1.1];omega),h1.1] at hr
  exact h2.2 _ x r hx hr
abbrev SH.wc (_:SH w0 w L):World:=w
theorem qj {β:Type} {f g:Option β} {r:β} {c:Bool} {t:Nat} (hF:(bif c then f else g)=some r) (ht:e.get t=some (.bool c)) (h1:f=some r→Run P n Q k ((t,.bool true)::e) w) (h2:g=some r→Run P n Q k ((t,.bool false)::e) w):Run P n Q k e w:=by
 cases c
 ·exact qpJ rfl ht (h2 hF)
 ·exact qpV rfl ht (h1 hF)
theorem qaR {β:Type} {f g:Option β} {r:β} {c:Bool} {t:Nat} {all:Array Oper} {l:List Oper} (hF:(bif c then f else g)=some r) (ht:e.get t=some (.bool c)) (h1:f=some r→RunD P n Q k all w l ((t,.bool true)::e)) (h2:g=some r→RunD P n Q k all w l ((t,.bool false)::e)):RunD P n Q k all w l e:=by
 cases c
 ·exact qpQ rfl ht (h2 hF)
 ·exact qpX rfl ht (h1 hF)
theorem qoY {β:Type} {f g:Option β} {r:β} {c:Bool} {t:Nat} {ops:Array Oper} {st:List Nat} {C:World→Prop} {fuel:Nat} {listed:Array Bool} (hF:(bif c then f else g)=some r) (ht:e.get t=some (.bool c)) (h1:f=some r→RunA P n Q k ops st C fuel listed ((t,.bool true)::e) w) (h2:g=some r→RunA P n Q k ops st C fuel listed ((t,.bool false)::e) w):RunA P n Q k ops st C fuel listed e w:=by
 cases c
 ·exact qpB rfl ht (h2 hF)
 ·exact qpA rfl ht (h1 hF)
theorem SlR.ix {β:Type} {A:Nat→Prop} {i:Int} {f:α→Option β} {r:β} (h:SlR w A xs p c) (hF:(idx xs i).bind f=some r) :
  ∃ y,idx xs i=some y∧f y=some r∧(0≤i∧i<xs.length∧xs[i.toNat]?=some y)∧∃ b o q cs,p=some ⟨b,o,none⟩∧q=o+i.toNat*GoT.k α∧GoT.R w A y cs∧CellsAt w b q cs:=by
 obtain ⟨y,hy,hF⟩:=qe hF
 obtain ⟨b,o,q,cs,h1,h2,_,h3,h4⟩:=h.at hy
 exact ⟨y,hy,hF,qbj hy,b,o,q,cs,h1,h2,h3,h4⟩
end
end Go.Fw


namespace Go.Fw
open Go
structure IsRoot (x w:Int):Prop where
 pos:0≤w
 lo:w*w≤x
 hi:x<(w+1)*(w+1)
end Go.Fw


namespace Go.Fw
open Go
section
variable {L:Nat} {fr to:Nat→Int} {lv:Nat→Bool}
def inN (L:Nat) (fr to:Nat→Int) (lv:Nat→Bool) (R:List Nat) (k:Nat):Nat:=cntP (fun x=>lv x&&(to x==(k:Int)&&!decide (fr x ∈ ints R))) L
def lkN (L:Nat) (fr to:Nat→Int) (lv:Nat→Bool) (i k:Nat):Nat:=cntP (fun x=>lv x&&(fr x==(i:Int))&&(to x==(k:Int))) L
def Closed (L:Nat) (fr to:Nat→Int) (lv:Nat→Bool) (R:List Nat):Prop:=∀ x,x<L→lv x=true→to x ∈ ints R→fr x ∈ ints R
theorem qkW {R:List Nat} {k:Nat}:(k:Int) ∈ ints R↔k ∈ R:=by
 unfold ints
 rw [List.mem_map]
 constructor
 ·rintro ⟨j,hj,e⟩
  obtain rfl:j=k:=by omega
  exact hj
 ·exact fun h=>⟨k,h,rfl⟩
theorem qmx {R:List Nat} {k:Nat}:inN L fr to lv R k=0↔∀ x,x<L→lv x=true→to x=(k:Int)→fr x ∈ ints R:=by
 unfold inN
 rw [qiV]
 constructor
 ·intro h x hx h1 h2
  have:=h x hx
  rw [h1,h2] at this
  simpa using this
 ·intro h x hx
  cases h1:lv x
  ·rfl
  ·by_cases h2:to x=(k:Int)
   ·have:=h x hx h1 h2
    simp [this]
   ·simp [h2]
theorem Closed.snoc {R:List Nat} {k:Nat} (h:Closed L fr to lv R) (hk:inN L fr to lv R k=0):Closed L fr to lv (R++[k]):=by
 intro x hx h1 h2
 rw [qhL] at h2 ⊢
 rcases List.mem_append.1 h2 with h2|h2
 ·exact jG _ (h x hx h1 h2)
 ·exact jG _ (qmx.1 hk x hx h1 (List.mem_singleton.1 h2))
theorem Closed.nil:Closed L fr to lv []:=fun _ _ _ h=>by simp [ints] at h
theorem Closed.no_back {R:List Nat} {i k:Nat} (h:Closed L fr to lv R) (hi:i ∉ R) (h0:inN L fr to lv R i=0) (hk:k ∈ R++[i]):lkN L fr to lv i k=0:=by
 unfold lkN
 rw [qiV]
 intro x hx
 cases h1:lv x
 ·rfl
 ·by_cases h2:fr x=(i:Int)
  ·by_cases h3:to x=(k:Int)
   ·exfalso
    rcases List.mem_append.1 hk with hk|hk
    ·have:=h x hx h1 (by rw [h3,qkW];exact hk)
     rw [h2,qkW] at this
     exact hi this
    ·rw [List.mem_singleton.1 hk] at h3
     have:=qmx.1 h0 x hx h1 h3
     rw [h2,qkW] at this
     exact hi this
   ·simp [h3]
  ·simp [h2]
end
end Go.Fw


namespace Go.Fw
open Go
open Go.RowKit (Below)
section
variable {P:Program} {T:Tab} {n:Nat} {e:Env} {w:World}
end
end Go.Fw


namespace Go.Fw
open Go
def xs (T:Tab) (n:Nat):Nat→List (Nat × List Value)→List It→Env→List Nat→List Nat→Option (List It × Env × List Nat × List Nat)
 | 0,_,k,e,x,y=>some (k,e,x,y)
 | m+1,bs,k,e,x,y=>match k with
  | .code (.seq a b)::k=>xs T n m bs (.code a::.code b::k) e x y
  | .code .skip::k=>xs T n m bs k e x y
  | .code (.block i c)::k=>xs T n m bs (.code c::.blk i::k) e x y
  | .code (.region _ a false)::k=>xs T n m bs (.ops a a.toList::k) e x y
  | .blk _::k=>xs T n m bs k e x y
  | .ops _ []::k=>xs T n m bs k e x y
  | .ops all (⟨some d,op,_,_,_,none⟩::l)::k=>match Nat.blt d n with
   | true=>match op with
    | .load t p=>match opv e p,T.get t,bs with
     | some (.pointer (some ⟨b,o,none⟩)),some te,(b',cs)::bs'=>match ld te cs o with
      | some v=>xs T n m bs' (.ops all l::k) ((d,v)::e) (b::x) (b'::y)
      | none=>none
     | _,_,_=>none
    | op=>match pev T e op with
     | some v=>xs T n m bs (.ops all l::k) ((d,v)::e) x y
     | none=>none
   | false=>none
  | .ops all (⟨dst,op,ty,ps,af,some g⟩::l)::k=>match guardU e all ⟨dst,op,ty,ps,af,some g⟩ with
   | true=>match dst with
    | some d=>match Nat.blt d n with
     | true=>xs T n m bs (.ops all l::k) ((d,undef)::e) x y
     | false=>none
    | none=>none
   | false=>match guardOf e all ⟨dst,op,ty,ps,af,some g⟩ with
    | some true=>xs T n m bs (.ops all (⟨dst,op,ty,ps,af,none⟩::l)::k) e x y
    | some false=>match dst with
     | some d=>match Nat.blt d n with
      | true=>xs T n m bs (.ops all l::k) ((d,undef)::e) x y
      | false=>none
     | none=>none
    | none=>none
  | _=>none
def xd (T:Tab) (n:Nat) (all:Array Oper):Nat→List (Nat × List Value)→List Oper→Env→List Nat→List Nat→Option (List Oper × Env × List Nat × List Nat)
 | 0,_,k,e,x,y=>some (k,e,x,y)
 | m+1,bs,k,e,x,y=>match k with
  | ⟨some d,op,_,_,_,none⟩::l=>match Nat.blt d n with
   | true=>match op with
    | .load t p=>match opv e p,T.get t,bs with
     | some (.pointer (some ⟨b,o,none⟩)),some te,(b',cs)::bs'=>match ld te cs o with
      | some v=>xd T n all m bs' l ((d,v)::e) (b::x) (b'::y)
      | none=>none
     | _,_,_=>none
    | op=>match pev T e op with
     | some v=>xd T n all m bs l ((d,v)::e) x y
     | none=>none
   | false=>none
  | ⟨dst,op,ty,ps,af,some g⟩::l=>match guardU e all ⟨dst,op,ty,ps,af,some g⟩ with
   | true=>match dst with
    | some d=>match Nat.blt d n with
     | true=>xd T n all m bs l ((d,undef)::e) x y
     | false=>none
    | none=>none
   | false=>match guardOf e all ⟨dst,op,ty,ps,af,some g⟩ with
    | some true=>xd T n all m bs (⟨dst,op,ty,ps,af,none⟩::l) e x y
    | some false=>match dst with
     | some d=>match Nat.blt d n with
      | true=>xd T n all m bs l ((d,undef)::e) x y
      | false=>none
     | none=>none
    | none=>none
  | _=>none
section
variable {P:Program} {T:Tab} {n:Nat} {Q:Exit→Act→World→Prop} {k:List It} {e:Env} {w0 w:World} {L:List Ch}
theorem qma (hT:TabOk P T):∀ (m:Nat) (bs:List (Nat × List Value)) (k:List It) (e:Env) (x y:List Nat) (k':List It) (e':Env) (x' y':List Nat),(∀ p ∈ bs,CellsAt w p.1 0 p.2)→x.length=y.length →
  xs T n m bs k e x y=some (k',e',x',y')→x'.length=y'.length∧(x'=y'→x=y∧(Run P n Q k' e' w→Run P n Q k e w)):=by
 intro m
 induction m with
 | zero =>
  intro bs k e x y k' e' x' y' _ hl h
  simp only [xs,Option.some.injEq,Prod.mk.injEq] at h
  obtain ⟨rfl,rfl,rfl,rfl⟩:=h
  exact ⟨hl,fun hh=>⟨hh,id⟩⟩
 | succ m ih =>
  intro bs k e x y k' e' x' y' hb hl h
  unfold xs at h
  split at h
  ·obtain ⟨h1,h2⟩:=ih _ _ _ _ _ _ _ _ _ hb hl h
   exact ⟨h1,fun hh=>⟨(h2 hh).1,fun hk=>qeG ((h2 hh).2 hk)⟩⟩
  ·obtain ⟨h1,h2⟩:=ih _ _ _ _ _ _ _ _ _ hb hl h
   exact ⟨h1,fun hh=>⟨(h2 hh).1,fun hk=>qdk ((h2 hh).2 hk)⟩⟩
  ·obtain ⟨h1,h2⟩:=ih _ _ _ _ _ _ _ _ _ hb hl h
   exact ⟨h1,fun hh=>⟨(h2 hh).1,fun hk=>qt ((h2 hh).2 hk)⟩⟩
  ·obtain ⟨h1,h2⟩:=ih _ _ _ _ _ _ _ _ _ hb hl h
   exact ⟨h1,fun hh=>⟨(h2 hh).1,fun hk=>qhD ((h2 hh).2 hk)⟩⟩
  ·obtain ⟨h1,h2⟩:=ih _ _ _ _ _ _ _ _ _ hb hl h
   exact ⟨h1,fun hh=>⟨(h2 hh).1,fun hk=>qp6 ((h2 hh).2 hk)⟩⟩
  ·obtain ⟨h1,h2⟩:=ih _ _ _ _ _ _ _ _ _ hb hl h
   exact ⟨h1,fun hh=>⟨(h2 hh).1,fun hk=>qaY ((h2 hh).2 hk)⟩⟩
  ·split at h
   ·rename_i hn
    split at h
    ·split at h
     ·rename_i hx hte
      split at h
      ·rename_i v hv
       have hb':=fun p hp=>hb p (jo _ hp)
       obtain ⟨h1,h2⟩:=ih _ _ _ _ _ _ _ _ _ hb' (by simp [hl]) h
       refine ⟨h1,fun hh=>?_⟩
       obtain ⟨h3,h4⟩:=h2 hh
       obtain ⟨rfl,rfl⟩:=List.cons.inj h3
       exact ⟨rfl,fun hk=>r_v (qet hT (hb _ (jq ..)) (by rw [jZ];exact hx) hte hv) hn (h4 hk)⟩
      ·cases h
     ·cases h
    ·split at h
     ·rename_i v hv
      obtain ⟨h1,h2⟩:=ih _ _ _ _ _ _ _ _ _ hb hl h
      exact ⟨h1,fun hh=>⟨(h2 hh).1,fun hk=>r_v (v_p hT hv w) hn ((h2 hh).2 hk)⟩⟩
     ·cases h
   ·cases h
  ·split at h
   ·rename_i hg
    split at h
    ·split at h
     ·rename_i hn
      obtain ⟨h1,h2⟩:=ih _ _ _ _ _ _ _ _ _ hb hl h
      exact ⟨h1,fun hh=>⟨(h2 hh).1,fun hk=>qpr (by unfold notW;rw [hg];rfl) rfl hn ((h2 hh).2 hk)⟩⟩
     ·cases h
    ·cases h
   ·split at h
    ·rename_i hg
     obtain ⟨h1,h2⟩:=ih _ _ _ _ _ _ _ _ _ hb hl h
     exact ⟨h1,fun hh=>⟨(h2 hh).1,fun hk=>qor hg ((h2 hh).2 hk)⟩⟩
    ·rename_i hg
     split at h
     ·split at h
      ·rename_i hn
       obtain ⟨h1,h2⟩:=ih _ _ _ _ _ _ _ _ _ hb hl h
       exact ⟨h1,fun hh=>⟨(h2 hh).1,fun hk=>qpr (by unfold notW;rw [hg,Bool.or_true]) rfl hn ((h2 hh).2 hk)⟩⟩
      ·cases h
     ·cases h
    ·cases h
  ·cases h
theorem qpt (hT:TabOk P T) {all:Array Oper}:∀ (m:Nat) (bs:List (Nat × List Value)) (l:List Oper) (e:Env) (x y:List Nat) (l':List Oper) (e':Env) (x' y':List Nat),(∀ p ∈ bs,CellsAt w p.1 0 p.2)→x.length=y.length →
  xd T n all m bs l e x y=some (l',e',x',y')→x'.length=y'.length∧(x'=y'→x=y∧(RunD P n Q k all w l' e'→RunD P n Q k all w l e)):=by
 intro m
 induction m with
 | zero =>
  intro bs l e x y l' e' x' y' _ hl h
  simp only [xd,Option.some.injEq,Prod.mk.injEq] at h
  obtain ⟨rfl,rfl,rfl,rfl⟩:=h
  exact ⟨hl,fun hh=>⟨hh,id⟩⟩
 | succ m ih =>
  intro bs l e x y l' e' x' y' hb hl h
  unfold xd at h
  split at h
  ·split at h
   ·rename_i hn
    split at h
    ·split at h
     ·rename_i hx hte
      split at h
      ·rename_i v hv
       have hb':=fun p hp=>hb p (jo _ hp)
       obtain ⟨h1,h2⟩:=ih _ _ _ _ _ _ _ _ _ hb' (by simp [hl]) h
       refine ⟨h1,fun hh=>?_⟩
       obtain ⟨h3,h4⟩:=h2 hh
       obtain ⟨rfl,rfl⟩:=List.cons.inj h3
       exact ⟨rfl,fun hk=>d_v (fun w' hw=>qet hT ((hb _ (jq ..)).below hw) (by rw [jZ];exact hx) hte hv) hn (h4 hk)⟩
      ·cases h
     ·cases h
    ·split at h
     ·rename_i v hv
      obtain ⟨h1,h2⟩:=ih _ _ _ _ _ _ _ _ _ hb hl h
      exact ⟨h1,fun hh=>⟨(h2 hh).1,fun hk=>d_v (fun w' _=>v_p hT hv w') hn ((h2 hh).2 hk)⟩⟩
     ·cases h
   ·cases h
  ·split at h
   ·rename_i hg
    split at h
    ·split at h
     ·rename_i hn
      obtain ⟨h1,h2⟩:=ih _ _ _ _ _ _ _ _ _ hb hl h
      exact ⟨h1,fun hh=>⟨(h2 hh).1,fun hk=>qps (by unfold notW;rw [hg];rfl) rfl hn ((h2 hh).2 hk)⟩⟩
     ·cases h
    ·cases h
   ·split at h
    ·rename_i hg
     obtain ⟨h1,h2⟩:=ih _ _ _ _ _ _ _ _ _ hb hl h
     exact ⟨h1,fun hh=>⟨(h2 hh).1,fun hk=>qn8 hg ((h2 hh).2 hk)⟩⟩
    ·rename_i hg
     split at h
     ·split at h
      ·rename_i hn
       obtain ⟨h1,h2⟩:=ih _ _ _ _ _ _ _ _ _ hb hl h
       exact ⟨h1,fun hh=>⟨(h2 hh).1,fun hk=>qps (by unfold notW;rw [hg,Bool.or_true]) rfl hn ((h2 hh).2 hk)⟩⟩
      ·cases h
     ·cases h
    ·cases h
  ·cases h
end
def bits (m K:Nat):Array Bool:=((List.range m).map fun i=>K.testBit i).toArray
theorem qnJ {m:Nat}:Array.replicate m false=bits m 0:=by
 unfold bits
 apply Array.ext'
 simp only [Nat.zero_testBit,Array.toList_replicate]
 exact List.ext_getElem (by simp) (by simp)
def xa (T:Tab) (n:Nat) (ops:Array Oper):List Nat→List (Nat × List Value)→Nat→Env→List Nat→List Nat→Option (Nat × Env × List Nat × List Nat)
 | [],_,f,e,x,y=>some (f,e,x,y)
 | i::is,bs,f,e,x,y=>match f with
  | 0=>none
  | f+1=>match ops[i]? with
   | some ⟨some d,op,_,_,_,none⟩=>match Nat.blt d n with
    | true=>match op with
     | .load t p=>match opv e p,T.get t,bs with
      | some (.pointer (some ⟨b,o,none⟩)),some te,(b',cs)::bs'=>match ld te cs o with
       | some v=>xa T n ops is bs' f ((d,v)::e) (b::x) (b'::y)
       | none=>none
      | _,_,_=>none
     | op=>match pev T e op with
      | some v=>xa T n ops is bs f ((d,v)::e) x y
      | none=>none
    | false=>none
   | _=>none
def oka (ops:Array Oper) (st:List Nat):List Nat→Array Bool→Array Bool→Bool
 | [],l,l'=>l==l'
 | i::is,l,l'=>(Region.noSelect ops&&Region.free .any ops l i&&(Region.ready .any ops l).contains i&&st.all (fun s=>!(Nat.beq s i)&&waitsB ops i s&&!(l.getD s true)))&&oka ops st is (l.setIfInBounds i true) l'
section
variable {P:Program} {T:Tab} {n:Nat} {fnc:Func} {R:Ending→World→Prop} {k:List It} {e:Env} {w0 w:World} {ops:Array Oper} {st:List Nat} {C:World→Prop}
theorem qmv (hT:TabOk P T) (hC:C w):∀ (is:List Nat) (bs:List (Nat × List Value)) (f:Nat) (e:Env) (x y:List Nat) (f':Nat) (e':Env) (x' y':List Nat) (l l':Array Bool),(∀ p ∈ bs,∀ w',C w'→CellsAt w' p.1 0 p.2)→x.length=y.length →
  xa T n ops is bs f e x y=some (f',e',x',y')→oka ops st is l l'=true→x'.length=y'.length∧(x'=y'→x=y∧(RunA P n (bodyPost P fnc R) k ops st C f' l' e' w→RunA P n (bodyPost P fnc R) k ops st C f l e w)):=by
 intro is
 induction is with
 | nil =>
  intro bs f e x y f' e' x' y' l l' _ hl h ho
  simp only [xa,Option.some.injEq,Prod.mk.injEq] at h
  obtain ⟨rfl,rfl,rfl,rfl⟩:=h
  obtain rfl:=eq_of_beq ho
  exact ⟨hl,fun hh=>⟨hh,id⟩⟩
 | cons i is ih =>
  intro bs f e x y f' e' x' y' l l' hb hl h ho
  unfold oka at ho
  rw [jh] at ho
  obtain ⟨ho1,ho2⟩:=ho
  unfold xa at h
  split at h
  ·cases h
  ·split at h
   ·rename_i hi
    split at h
    ·rename_i hn
     split at h
     ·split at h
      ·rename_i hx hte
       split at h
       ·rename_i v hv
        have hb':=fun p hp=>hb p (jo _ hp)
        obtain ⟨h1,h2⟩:=ih _ _ _ _ _ _ _ _ _ _ _ hb' (by simp [hl]) h ho2
        refine ⟨h1,fun hh=>?_⟩
        obtain ⟨h3,h4⟩:=h2 hh
        obtain ⟨rfl,rfl⟩:=List.cons.inj h3
        exact ⟨rfl,fun hk=>qk2 i hi _ rfl ho1 (fun w' hw'=>qet hT (hb _ (jq ..) w' hw') (by rw [jZ];exact hx) hte hv) hC hn (h4 hk)⟩
       ·cases h
      ·cases h
     ·split at h
      ·rename_i v hv
       obtain ⟨h1,h2⟩:=ih _ _ _ _ _ _ _ _ _ _ _ hb hl h ho2
       exact ⟨h1,fun hh=>⟨(h2 hh).1,fun hk=>qk2 i hi _ rfl ho1 (fun w' _=>v_p hT hv w') hC hn ((h2 hh).2 hk)⟩⟩
      ·cases h
    ·cases h
   ·cases h
end
def gets (e:Env):Env→Option Env
 | []=>some []
 | p::l=>match e.get p.1,gets e l with
  | some v,some r=>some ((p.1,v)::r)
  | _,_=>none
theorem qks {e:Env}:∀ {e':Env},gets e e'=some e'→subEnv e e'
 | [],_=>trivial
 | p::l,h=>by
  unfold gets at h
  split at h
  ·rename_i v r hv hr
   have h:=List.cons.inj (Option.some.inj h)
   refine ⟨?_,qks (by rw [hr,h.2])⟩
   rw [hv,←h.1]
  ·cases h
def pickN (L:List Ch):List Nat→Option (List Ch)
 | []=>some []
 | i::is=>match L[i]?,pickN L is with
  | some c,some l=>some (c::l)
  | _,_=>none
def setN:List Ch→Nat→Ch→Option (List Ch)
 | [],_,_=>some []
 | _::l,0,c=>some (c::l)
 | a::l,i+1,c=>match setN l i c with
  | some r=>some (a::r)
  | none=>none
theorem qnj:∀ {L:List Ch} {i:Nat} {c:Ch} {L':List Ch},setN L i c=some L'→L.set i c=L'
 | [],_,_,_,h=>by simpa [setN] using h
 | _::_,0,_,_,h=>by simpa [setN] using h
 | a::l,i+1,c,L',h=>by
  unfold setN at h
  split at h
  ·rename_i r hr
   rw [List.set_cons_succ,qnj hr]
   exact Option.some.inj h
  ·cases h
def splN:List Value→Nat→List Value→Option (List Value)
 | cs,0,[]=>some cs
 | [],_,_=>none
 | _::cs,0,u::us=>match splN cs 0 us with
  | some r=>some (u::r)
  | none=>none
 | c::cs,j+1,us=>match splN cs j us with
  | some r=>some (c::r)
  | none=>none
theorem qlV:∀ {cs:List Value} {j:Nat} {us r:List Value},splN cs j us=some r→splice cs j us=r
 | cs,0,[],r,h=>by
  have h:cs=r:=by cases cs<;>simpa [splN] using h
  subst h;simp [splice]
 | [],0,_::_,_,h=>by simp [splN] at h
 | [],_+1,_,_,h=>by simp [splN] at h
 | c::cs,0,u::us,r,h=>by
  unfold splN at h
  split at h
  ·rename_i q hq
   have:=qlV hq
   obtain rfl:=Option.some.inj h
   rw [←this]
   simp [splice]
  ·cases h
 | c::cs,j+1,us,r,h=>by
  unfold splN at h
  split at h
  ·rename_i q hq
   have:=qlV hq
   obtain rfl:=Option.some.inj h
   rw [←this]
   simp [splice,Nat.add_right_comm]
  ·cases h
section
variable {P:Program} {T:Tab} {n:Nat} {Q:Exit→Act→World→Prop} {k:List It} {e:Env} {w0 w:World} {L:List Ch} {all:Array Oper}
theorem dN (h:SH w0 w L) (hk:∀ w',SH w0 w' L→Run P n Q k e w'):RunD P n Q k all w [] e:=qp8 fun w' hb=>hk w' (h.ext hb)
theorem rK {Inv:Nat→Env→World→Prop} {m:Nat} {e':Env} (h:Inv m e' w) (hs:gets e e'=some e'):Run P n Q (.goal (Back n Inv (m+1))::k) e w:=qpO m e' (Nat.lt_succ_self m) (qks hs) h
theorem rG {J:Env→World→Prop} {e':Env} (h:J e' w) (hs:gets e e'=some e'):Run P n Q (.goal (CutJ n J)::k) e w:=qnR e' (qks hs) h
theorem rL {b:Code} (Inv:Nat→Env→World→Prop) (m:Nat) {e':Env} (h:Inv m e' w) (hs:gets e e'=some e') (round:∀ m e w,Inv m e w→Run P n Q (.code b::.goal (Back n Inv m)::k) e w):Run P n Q (.code (.loop b)::k) e w :=
 qp7 e' (qks hs) (qpP Inv m h round)
theorem rA {id:Nat} {ops:List Oper} (st is:List Nat) {m:Nat} {L':List Ch} (h:SH w0 w L) (hh:(pickN L is,ops.length,P.follows .mixedOrders)=(some L',m,true))
  (hk:∀ w',SH w0 w' L→RunA P n Q k ops.toArray st (fun w'=>SH w0 w' L') m (bits m 0) e w'):Run P n Q (.code (.region id ops.toArray true)::k) e w:=by
 simp only [Prod.mk.injEq] at hh
 exact qp0 st _ hh.2.2 m (by simpa using hh.2.1) _ qnJ fun w' hb=>hk w' (h.ext hb)
theorem Ag {ops:Array Oper} {st:List Nat} {C:World→Prop} {fuel:Nat} {listed:Array Bool} {all:Array Oper} (hC:C w) (h:RunA P n Q k ops st C fuel listed e w):Run P n Q (.ops all []::.goal (NextA P n Q k ops st C fuel listed)::k) e w:=qdP (fun _=>hC) h
theorem Ao {ops:Array Oper} {st:List Nat} {C:World→Prop} {fuel:Nat} (i K:Nat) {m K0:Nat} {o:Oper} (hi:ops[i]?=some o) (h:Run P n Q (.ops ops [o]::.goal (NextA P n Q k ops st C fuel (bits m K))::k) e w)
  (hl:(bits m K0).setIfInBounds i true=bits m K:=by kernel_rfl) (hr:Region.ready .any ops (bits m K0)=[i]:=by kernel_rfl):RunA P n Q k ops st C (fuel+1) (bits m K0) e w:=qpN i hi _ hl hr h
theorem Ad {ops:Array Oper} {st:List Nat} {C:World→Prop} {listed:Array Bool} (h:Run P n Q k e w) (hr:Region.ready .any ops listed=[]:=by kernel_rfl):RunA P n Q k ops st C 0 listed e w:=qpY hr h
theorem At {ops:Array Oper} {st:List Nat} {C:World→Prop} {fuel:Nat} (i j K K':Nat) {m K0:Nat} {o o':Oper} (hh:(ops[i]?,ops[j]?)=(some o,some o')) (h1:Run P n Q (.ops ops [o]::.goal (NextA P n Q k ops st C fuel (bits m K))::k) e w)
  (h2:Run P n Q (.ops ops [o']::.goal (NextA P n Q k ops st C fuel (bits m K'))::k) e w) (hl1:(bits m K0).setIfInBounds i true=bits m K:=by kernel_rfl) (hl2:(bits m K0).setIfInBounds j true=bits m K':=by kernel_rfl)
  (hr:Region.ready .any ops (bits m K0)=[i,j]:=by kernel_rfl):RunA P n Q k ops st C (fuel+1) (bits m K0) e w:=by
 simp only [Prod.mk.injEq] at hh
 exact qp5 i j hh.1 hh.2 _ _ hl1 hl2 hr h1 h2
theorem rD {id:Nat} {ops:List Oper} (h:RunD P n Q k ops.toArray w ops e) (hm:P.follows .mixedOrders=true:=by rfl) (hB:Region.lexB .any ops.toArray=true:=by kernel_rfl):Run P n Q (.code (.region id ops.toArray true)::k) e w:=qpy hm hB h
end
section
variable {w:World} {S:Nat→Prop}
theorem pR {α β:Type} {A:GoT α} {B:GoT β} {x:α} {y:β} {c d:List Value} (h1:A.R w S x c) (h2:B.R w S y d):(pairT A B).R w S (x,y) (c++d):=⟨c,d,rfl,h1,h2⟩
theorem rI (x:Int):GoT.R w S x [.int .i64 x]:=rfl
theorem rB (x:Bool):GoT.R w S x [.bool x]:=rfl
theorem rT (x:ByteArray):GoT.R w S x [.string x]:=rfl
theorem rS {α:Type} [GoT α] {xs:List α} {p:Option Addr} {c:Nat} (s:SlR w S xs p c):GoT.R w S xs [.slice p xs.length c]:=⟨p,c,rfl,s⟩
end
def callB (P:Program) (f:FuncId):Bool:=match P.funcs[f]? with
 | some fn=>fn.body.isSome&&!(fn.name== "runtime.NumGoroutine")
 | none=>false
theorem qoQ {P:Program} {f:FuncId} (h:callB P f=true):qdQ P f:=by
 unfold callB at h
 split at h
 ·rename_i fn hf
  rw [jh,jD] at h
  exact ⟨fn,hf,h.1,h.2⟩
 ·cases h
def res1 (e:Env):List ResultVar→Option Value
 | [.tmp t]=>e.get t
 | _=>none
theorem qni {T:Tab} {e:Env} {w:World} {rs:List ResultVar} {v:Value} (h:res1 e rs=some v):ResOk T e w rs [v]:=by
 unfold res1 at h
 split at h
 ·exact ⟨h,trivial⟩
 ·cases h
end Go.Fw
