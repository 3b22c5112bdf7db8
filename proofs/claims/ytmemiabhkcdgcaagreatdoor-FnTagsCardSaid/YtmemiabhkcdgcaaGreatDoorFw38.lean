/- Plain laws: loops with a state of which something is known. -/
import Derived.Test.YtmemiabhkcdgcaaGreatDoorFw29
import Derived.KernelRfl
open Option renaming bind_some → je, map_some → jW
open Nat renaming le_refl → jf, le_of_ble_eq_true → js, mul_le_mul_right → jx, lt_of_lt_of_le → jy, zero_le → jz, succ_mul → jQ, le_trans → jS, add_zero → Jc, zero_add → Jj
open Bool renaming and_eq_true → jg, eq_iff_iff → jm, true_and → jJ, not_eq_true' → jO, and_assoc → Ji, not_true → Jk, false_or → Jl
open Go.Result renaming andThen_ok → jh
open List renaming getElem?_eq_getElem → ji, length_append → jj, length_singleton → jk, mem_cons_of_mem → jo, getElem_mem → jp, mem_cons_self → jq, take_succ_eq_append_getElem → jr, getElem?_take → jt, getElem?_append_left → ju, mem_of_getElem? → jw, getElem?_drop → jA, take_length → jB, getElem?_append_right → jD, drop_eq_getElem_cons → jE, eq_nil_of_length_eq_zero → jF, not_mem_nil → jG, length_map → jH, getElem?_toArray → jI, getD_eq_getElem?_getD → jK, mem_append_left → jL, getElem_of_mem → jM, mem_cons → jN, getElem?_cons_succ → jP, mem_append_right → jR, append_nil → jT, size_toArray → jV, map_append → jX, range_succ → jY, length_take → jZ, length_filter_le → Ja, map_cons → Jb, drop_eq_nil_of_le → Jd, all_eq_true → Je, length_cons → Jf, append_assoc → Jg, ext_getElem → Jh
open Go.Sem renaming run_bind → jl, run_pure → jn
open Int renaming toNat_natCast → jC
open Array renaming getElem?_append_left → jU

namespace Go.Fw
open Go
theorem loopE {ρ τ:Type} {Lf:Nat→τ→Int→Option ρ} {fin:τ→ρ} (Inv:Nat→τ→Prop) {len:Nat} (hend:∀ n t,Lf (n+1) t (len:Int)=some (fin t))
  (hstep:∀ j t,j<len→Inv j t→∃ t',Inv (j+1) t'∧∀ X,Ev (fun n=>Lf n t' ((j+1:Nat):Int)) X→Ev (fun n=>Lf (n+1) t (j:Int)) X)
  (i0:Nat) (hi:i0≤len) (t:τ) (h0:Inv i0 t):∃ t',Inv len t'∧Ev (fun n=>Lf n t (i0:Int)) (fin t'):=by
 have main:∀ k j t,j+k=len→Inv j t→∃ t',Inv len t'∧Ev (fun n=>Lf n t (j:Int)) (fin t'):=by
  intro k
  induction k with
  | zero =>
   intro j t hj h
   obtain rfl:j=len:=by omega
   exact ⟨t,h,Ev.step (fun n=>hend n t) .done⟩
  | succ k ih =>
   intro j t hj h
   obtain ⟨t',h1,h2⟩:=hstep j t (by omega) h
   obtain ⟨t2,h3,h4⟩:=ih (j+1) t' (by omega) h1
   exact ⟨t2,h3,Ev.succ (h2 _ h4)⟩
 exact main (len-i0) i0 t (by omega) h0
theorem loopDn {ρ τ:Type} {Lf:Nat→τ→Int→Option ρ} {fin:τ→ρ} (Inv:τ→Prop) (m:Nat) (hend:∀ n t,Lf (n+1) t (0:Int)=some (fin t))
  (hstep:∀ j:Nat,∀ t,0<j→j≤m→Inv t→∃ t',Inv t'∧∀ X,Ev (fun n=>Lf n t' ((j-1:Nat):Int)) X→Ev (fun n=>Lf (n+1) t (j:Int)) X):∀ t,Inv t→∃ t',Inv t'∧Ev (fun n=>Lf n t (m:Int)) (fin t'):=by
 have:∀ j,j≤m→∀ t,Inv t→∃ t',Inv t'∧Ev (fun n=>Lf n t (j:Int)) (fin t'):=by
  intro j
  induction j with
  | zero=>exact fun _ t h=>⟨t,h,Ev.step (fun n=>hend n t) .done⟩
  | succ j ih =>
   intro hj t h
   obtain ⟨t',h1,h2⟩:=hstep (j+1) t (by omega) hj h
   obtain ⟨t2,h3,h4⟩:=ih (by omega) t' h1
   exact ⟨t2,h3,Ev.succ (h2 _ h4)⟩
 exact this m (jf _)
theorem qrg {α:Type} {p:α→Bool} {xs:List α} {j:Nat} (hj:j<xs.length) (hp:p xs[j]=true) (hlt:∀ i,∀ h:i<j,p (xs[i]'(by omega))=false):ixL p xs=(j:Int):=by
 unfold ixL
 have:xs.findIdx? p=some j:=List.findIdx?_eq_some_iff_getElem.2 ⟨hj,hp,fun i hi=>by have:=hlt i hi;simp [this]⟩
 rw [this]
theorem qsa {α:Type} [Inhabited α] {p:α→Bool} {xs:List α} {j:Nat} (hj:j<xs.length) (hp:p (gt xs j)=true) (hu:∀ i,i<xs.length→p (gt xs i)=true→i=j):ixL p xs=(j:Int):=by
 refine qrg hj (by rwa [qhS hj] at hp) (fun i hi=>?_)
 cases hc:p (xs[i]'(by omega)) with
 | false=>rfl
 | true=>exact absurd (hu i (by omega) (by rw [qhS (by omega)];exact hc)) (by omega)
theorem qmg {α:Type} [Inhabited α] {xs ys:List α} {j:Nat}:gt (xs++ys) j=if j<xs.length then gt xs j else gt ys (j-xs.length):=by
 unfold gt
 rw [jK,List.getElem?_append]
 by_cases h:j<xs.length
 ·simp only [h,if_true];rfl
 ·simp only [h,if_false];rfl
theorem qoU {α:Type} [Inhabited α] {f:Nat→α} {n j:Nat} (h:j<n):gt ((List.range n).map f) j=f j:=by
 unfold gt;simp [jK,h]
end Go.Fw


namespace Go.Fw
open Go
def vecI (f:Nat→Int) (m:Nat):List Int:=(List.range m).map f
theorem qiz {f:Nat→Int} {m:Nat}:(vecI f m).length=m:=by simp [vecI]
theorem qiG {f:Nat→Int} {m k:Nat} (h:k<m):idx (vecI f m) (k:Int)=some (f k):=by
 rw [qZ (by rw [qiz];exact h)]
 simp [vecI]
theorem qhv {f g:Nat→Int} {m:Nat} (h:∀ k,k<m→f k=g k):vecI f m=vecI g m:=by
 unfold vecI
 exact List.map_congr_left (fun k hk=>h k (List.mem_range.1 hk))
theorem qoh {m:Nat} (h:m≤2147483648):mkS (m:Int) (0:Int)=some (vecI (fun _=>0) m):=by
 unfold mkS big
 rw [if_pos ⟨by omega,by omega⟩]
 congr 1
 refine Jh (by simp [vecI]) (fun k h1 h2=>?_)
 simp [vecI]
theorem qm8 {f:Nat→Int} {m k:Nat} {v:Int}:setS (vecI f m) (k:Int) v=vecI (fun i=>if i=k then v else f i) m:=by
 unfold setS
 refine Jh (by simp [vecI]) (fun i h1 h2=>?_)
 rw [List.getElem_set]
 show (if k=i then _ else _)=_
 by_cases hk:k=i
 ·subst hk;simp [vecI]
 ·have:i ≠ k:=fun h=>hk h.symm
  simp [vecI,hk,this]
section
variable {sc:Nat→List Int} {m:Nat}
def inC (sc:Nat→List Int) (m:Nat) (R:List Nat) (k:Nat):Nat:=((List.range m).map fun u=>if u ∈ R then 0 else (sc u).count (k:Int)).sum
inductive Topo (sc:Nat→List Int) (m:Nat):List Nat→Prop
 | nil:Topo sc m []
 | snoc {l:List Nat} {k:Nat}:Topo sc m l→k<m→k ∉ l→(∀ u,u<m→(k:Int) ∈ sc u→u ∈ l)→Topo sc m (l++[k])
def Stuck (sc:Nat→List Int) (m:Nat) (l:List Nat):Prop:=∀ k,k<m→k ∉ l→∃ u,u<m∧(k:Int) ∈ sc u∧u ∉ l
theorem Topo.lt {l:List Nat} (h:Topo sc m l):∀ k,k ∈ l→k<m:=by
 induction h with
 | nil=>intro k hk;cases hk
 | snoc _ hk _ _ ih =>
  intro j hj
  rcases List.mem_append.1 hj with hj|hj
  ·exact ih j hj
  ·rw [List.mem_singleton.1 hj];exact hk
theorem Topo.nodup {l:List Nat} (h:Topo sc m l):l.Nodup:=by
 induction h with
 | nil=>exact List.nodup_nil
 | snoc _ _ hn _ ih =>
  rw [List.nodup_append]
  refine ⟨ih,by simp,fun a ha b hb=>?_⟩
  rw [List.mem_singleton.1 hb]
  rintro rfl
  exact hn ha
theorem Topo.sub {l l':List Nat} (h:Topo sc m l) (hs:Stuck sc m l'):∀ k,k ∈ l→k ∈ l':=by
 induction h with
 | nil=>intro k hk;cases hk
 | @snoc l k _ hk _ hp ih =>
  intro j hj
  rcases List.mem_append.1 hj with hj|hj
  ·exact ih j hj
  ·rw [List.mem_singleton.1 hj]
   by_cases hc:k ∈ l'
   ·exact hc
   ·obtain ⟨u,hu,he,hn⟩:=hs k hk hc
    exact absurd (ih u (hp u hu he)) hn
theorem qlr {l l':List Nat} (hn:l.Nodup) (h:∀ k,k ∈ l→k ∈ l'):l.length≤l'.length:=by
 induction l generalizing l' with
 | nil=>exact jz _
 | cons a l ih =>
  obtain ⟨h1,h2⟩:=List.nodup_cons.1 hn
  have hm:a ∈ l':=h a (jq ..)
  have:=ih (l':=l'.erase a) h2 (fun k hk=>(List.mem_erase_of_ne (fun e=>h1 (by rw [←e];exact hk))).2 (h k (jo _ hk)))
  rw [List.length_erase_of_mem hm] at this
  have:0<l'.length:=List.length_pos_of_mem hm
  simp only [Jf]
  omega
theorem Topo.len {l:List Nat} (h:Topo sc m l):l.length≤m:=by
 have:=qlr (l':=List.range m) h.nodup (fun k hk=>List.mem_range.2 (h.lt k hk))
 simpa using this
theorem Topo.full {l:List Nat} (h:Topo sc m l) (hl:l.length=m):∀ k,k<m→k ∈ l:=by
 intro k hk
 by_cases hc:k ∈ l
 ·exact hc
 ·have h1:=qlr (l:=k::l) (l':=List.range m) (List.nodup_cons.2 ⟨hc,h.nodup⟩) (fun j hj=>by
   rcases List.mem_cons.1 hj with rfl|hj
   ·exact List.mem_range.2 hk
   ·exact List.mem_range.2 (h.lt j hj))
  simp at h1
  omega
theorem Topo.stuck_full {l:List Nat} (_:Topo sc m l) (hf:∀ k,k<m→k ∈ l):Stuck sc m l:=fun k hk hn=>absurd (hf k hk) hn
theorem Topo.pre {l l':List Nat} (h:Topo sc m (l++l')):Topo sc m l:=by
 generalize he:l++l'=x at h
 induction h generalizing l' with
 | nil=>simp at he;rw [he.1];exact .nil
 | @snoc y k ht hk hn hp ih =>
  rcases List.eq_nil_or_concat l' with rfl|⟨l2,b,rfl⟩
  ·rw [jT] at he;subst he;exact .snoc ht hk hn hp
  ·rw [List.concat_eq_append,←Jg] at he
   have:=List.append_inj' he rfl
   exact ih this.1
theorem Topo.at {l l':List Nat} {k:Nat} (h:Topo sc m (l++k::l')):k<m∧k ∉ l∧∀ u,u<m→(k:Int) ∈ sc u→u ∈ l:=by
 have:Topo sc m ((l++[k])++l'):=by simpa using h
 have h1:=this.pre
 generalize he:l++[k]=x at h1
 cases h1 with
 | nil=>simp at he
 | snoc _ a b c =>
  have:=List.append_inj' he rfl
  obtain ⟨rfl,e⟩:=this
  obtain rfl:k=_:=by simpa using e
  exact ⟨a,b,c⟩
theorem qsI {f:Nat→Nat} {m:Nat}:((List.range m).map f).sum=0↔∀ u,u<m→f u=0:=by
 induction m with
 | zero=>simp
 | succ m ih =>
  rw [jY,jX,List.sum_append]
  simp only [Jb,List.map_nil,List.sum_cons,List.sum_nil,Jc]
  constructor
  ·intro h u hu
   rcases Nat.lt_succ_iff_lt_or_eq.1 hu with h1|rfl
   ·exact ih.1 (by omega) u h1
   ·omega
  ·intro h
   rw [ih.2 (fun u hu=>h u (by omega)),h m (by omega)]
theorem qjr {R:List Nat} {k:Nat}:inC sc m R k=0↔∀ u,u<m→(k:Int) ∈ sc u→u ∈ R:=by
 unfold inC
 rw [qsI]
 constructor
 ·intro h u hu he
  by_cases hc:u ∈ R
  ·exact hc
  ·have:=h u hu
   rw [if_neg hc,List.count_eq_zero] at this
   exact absurd he this
 ·intro h u hu
  by_cases hc:u ∈ R
  ·rw [if_pos hc]
  ·rw [if_neg hc,List.count_eq_zero]
   exact fun he=>hc (h u hu he)
theorem qtf {f g:Nat→Nat} {m i d:Nat} (hi:i<m) (h:∀ u,u<m→u ≠ i→f u=g u) (he:f i=g i+d):((List.range m).map f).sum=((List.range m).map g).sum+d:=by
 induction m with
 | zero=>omega
 | succ m ih =>
  simp only [jY,jX,List.sum_append,Jb,List.map_nil,List.sum_cons,List.sum_nil,Jc]
  by_cases hm:i=m
  ·subst hm
   have:(List.range i).map f=(List.range i).map g:=List.map_congr_left (fun u hu=>h u (by have:=List.mem_range.1 hu;omega) (by have:=List.mem_range.1 hu;omega))
   rw [this,he]
   omega
  ·rw [ih (by omega) (fun u hu=>h u (by omega)),h m (by omega) (fun e=>hm e.symm)]
   omega
theorem qo2 {R:List Nat} {i k:Nat} (hi:i<m) (hn:i ∉ R):inC sc m R k=inC sc m (R++[i]) k+(sc i).count (k:Int):=by
 unfold inC
 refine qtf hi (fun u _ hu=>?_) ?_
 ·by_cases hc:u ∈ R
  ·rw [if_pos hc,if_pos (jL _ hc)]
  ·rw [if_neg hc,if_neg (by simp [hc,hu])]
 ·rw [if_neg hn,if_pos (by simp)]
  omega
theorem qlL {j k:Nat}:((List.range (j+1)).map fun u=>(sc u).count (k:Int)).sum=((List.range j).map fun u=>(sc u).count (k:Int)).sum+(sc j).count (k:Int):=by
 simp [jY]
theorem Topo.zeros {j:Nat} (hj:j≤m):Topo sc m ((List.range j).filter fun k=>decide (inC sc m [] k=0)):=by
 induction j with
 | zero=>exact .nil
 | succ j ih =>
  rw [jY,List.filter_append]
  have ih:=ih (by omega)
  by_cases hc:inC sc m [] j=0
  ·rw [List.filter_cons_of_pos (by simpa using hc),List.filter_nil]
   refine .snoc ih (by omega) (fun h=>?_) (fun u hu he=>absurd (qjr.1 hc u hu he) (by simp))
   have:=List.mem_range.1 (List.mem_filter.1 h).1
   omega
  ·rw [List.filter_cons_of_neg (by simpa using hc),List.filter_nil,jT]
   exact ih
theorem Topo.no_back {l:List Nat} {i k:Nat} (h:Topo sc m l) (hi:i<m) (hn:i ∉ l) (hk:k ∈ l):(sc i).count (k:Int)=0:=by
 rw [List.count_eq_zero]
 intro he
 obtain ⟨a,c,rfl⟩:=List.append_of_mem hk
 exact hn (jL _ (h.at.2.2 i hi he))
end
def ints (l:List Nat):List Int:=l.map fun (k:Nat)=>(k:Int)
theorem qd3 {l:List Nat}:(ints l).length=l.length:=by simp [ints]
theorem qja {l:List Nat} {k:Nat}:ints (l++[k])=ints l++[(k:Int)]:=by simp [ints]
theorem qmV {l:List Nat} {j:Nat} (h:j<l.length):idx (ints l) (j:Int)=some (l[j]:Int):=by
 rw [qZ (by rw [qd3];exact h)]
 simp [ints]
theorem qp4 {xs:List Int} {j k i:Nat} (hj:xs[j]?=some (k:Int)):(xs.take (j+1)).count (i:Int)=(xs.take j).count (i:Int)+(if i=k then 1 else 0):=by
 obtain ⟨h1,h2⟩:=List.getElem?_eq_some_iff.1 hj
 rw [jr h1,List.count_append,h2,List.count_singleton]
 congr 1
 by_cases h:i=k
 ·subst h;simp
 ·have:¬ (k:Int)=(i:Int):=by omega
  simp [h,this]
def qln (xs:List Int) (m:Nat):Prop:=∀ y,y ∈ xs→∃ k:Nat,k<m∧y=(k:Int)
theorem qln.at {xs:List Int} {m j:Nat} (h:qln xs m) (hj:j<xs.length):∃ k:Nat,k<m∧idx xs (j:Int)=some (k:Int)∧xs[j]?=some (k:Int):=by
 obtain ⟨k,hk,e⟩:=h _ (jp hj)
 exact ⟨k,hk,by rw [qZ hj,e],by rw [ji hj,e]⟩
theorem loopR {ρ τ:Type} {Lf:Nat→τ→Int→Option ρ} (Inv:Nat→τ→Prop) (Q:ρ→Prop) {len:Nat} (hend:∀ t,Inv len t→EvQ (fun n=>Lf (n+1) t (len:Int)) Q)
  (hstep:∀ j t,j<len→Inv j t→EvQ (fun n=>Lf n t (j:Int)) Q∨∃ t',Inv (j+1) t'∧∀ X,Ev (fun n=>Lf n t' ((j+1:Nat):Int)) X→Ev (fun n=>Lf (n+1) t (j:Int)) X)
  (i0:Nat) (hi:i0≤len) (t:τ) (h0:Inv i0 t):EvQ (fun n=>Lf n t (i0:Int)) Q:=by
 have main:∀ k j t,j+k=len→Inv j t→EvQ (fun n=>Lf n t (j:Int)) Q:=by
  intro k
  induction k with
  | zero =>
   intro j t hj h
   obtain rfl:j=len:=by omega
   exact EvQ.succ (hend t h)
  | succ k ih =>
   intro j t hj h
   rcases hstep j t (by omega) h with h1|⟨t',h1,h2⟩
   ·exact h1
   ·obtain ⟨r,h3,h4⟩:=ih (j+1) t' (by omega) h1
    exact ⟨r,Ev.succ (h2 _ h3),h4⟩
 exact main (len-i0) i0 t (by omega) h0
end Go.Fw


namespace Go.Fw
open Go
def selN (q:Nat→Bool) (m:Nat):List Nat:=(List.range m).filter q
theorem ql1 {q:Nat→Bool} {j:Nat}:selN q (j+1)=selN q j++(bif q j then [j] else []):=by
 unfold selN
 rw [jY,List.filter_append]
 cases h:q j<;>simp [h]
theorem qnl {q:Nat→Bool} {j:Nat}:(selN q j).length≤j:=by
 unfold selN
 exact jS (Ja _ _) (by rw [List.length_range];exact jf _)
theorem qsh {q:Nat→Bool} {j k:Nat}:k ∈ selN q j↔k<j∧q k=true:=by
 unfold selN;rw [List.mem_filter,List.mem_range]
theorem qre {ρ:Type} {Lf:Nat→List Int→Int→Option ρ} {q:Nat→Bool} {len:Nat} {fin:ρ} (hl:len≤1048576) (hend:Ev (fun n=>Lf n (ints (selN q len)) (len:Int)) fin)
  (hstep:∀ j,j<len→∀ t:List Int,appS t [(j:Int)]=some (t++[(j:Int)])→∀ X,(q j=true→Ev (fun n=>Lf n (t++[(j:Int)]) ((j+1:Nat):Int)) X)→(q j=false→Ev (fun n=>Lf n t ((j+1:Nat):Int)) X)→Ev (fun n=>Lf (n+1) t (j:Int)) X) :
  Ev (fun n=>Lf n [] 0) fin :=
 down (P:=fun j=>Ev (fun n=>Lf n (ints (selN q j)) (j:Int)) fin) len hend (fun j hj ih=>Ev.succ (hstep j hj _
  (qbL (by have:=qnl (q:=q) (j:=j);rw [qd3,jk];omega)) _
  (fun h=>by rw [ql1,h] at ih;simp only [cond_true,qja] at ih;exact ih) (fun h=>by rw [ql1,h] at ih;simpa using ih)))
section
variable {sc:Nat→List Int} {m:Nat}
end
end Go.Fw


namespace Go.Fw
open Go
open Go.RowKit (Below)
section
variable {w0 w:World} {L:List Ch}
theorem SH.rowS {α:Type} [GoT α] {S:Nat→Prop} {xs:List α} {p:Option Addr} {c:Nat} (i:Nat) (h:SH w0 w L) (hi:L[i]?=some (Ch.rowD w0 S xs p c)):SlR w (Fw.old w) xs p c:=by
 obtain ⟨h1,h2,h3⟩:=(h.mem hi).1
 refine ⟨h1,h2,?_⟩
 rcases h3 with ⟨a,b,_⟩|⟨b,cur,T,rfl,hb,hg,hc,hx⟩
 ·exact .inl ⟨.inl a,b⟩
 ·refine .inr ⟨b,0,cur,T,(0,0),rfl,((h.mem hi).2 b hb).2,hg,by omega,fun i x hi=>?_⟩
  obtain ⟨cs,hR,hj⟩:=hx i x hi
  exact ⟨cs,h.old hR,by simpa using hj⟩
end
end Go.Fw


namespace Go.Fw
open Go
open Go.RowKit (Below)
section
variable {P:Program} {T:Tab} {n:Nat} {Q:Exit→Act→World→Prop} {k:List It} {e:Env} {w0 w:World} {L:List Ch}
variable {α:Type} [GoT α] {S S1:Nat→Prop} {xs ys:List α} {p p':Option Addr} {c c':Nat}
def Rd (w0:World) (xs:List α) (rs:List (Raw α)):Prop:=rs.length=xs.length∧∀ (i:Nat) (x:α) (r:Raw α),xs[i]?=some x→rs[i]?=some r→GoT.R w0 (Fw.old w0) x r.cs
theorem qoT (h:(Ch.rowD w0 S xs p c).P w):∃ rs:List (Raw α),Rd w0 xs rs∧(Ch.own S rs [.slice p rs.length c]).P w:=by
 obtain ⟨h1,h2,h3⟩:=h
 rcases h3 with ⟨rfl,rfl,rfl⟩|⟨b,cur,T,rfl,hb,hg,hcur,hx⟩
 ·exact ⟨[],⟨rfl,fun i x r hx=>by simp at hx⟩,none,0,rfl,by simp,by simp,.inl ⟨rfl,rfl,rfl⟩⟩
 ·obtain ⟨rs,hl,hr⟩:=qqM (p:=fun i x (r:Raw α)=>GoT.R w0 (Fw.old w0) x r.cs∧∀ j v,r.cs[j]?=some v→cur[i*GoT.k α+j]?=some v) xs (fun i x hi=>by
   obtain ⟨cs,h1,h2⟩:=hx i x hi
   exact ⟨⟨cs⟩,h1,h2⟩)
  refine ⟨rs,⟨hl,fun i x r hi hr'=>(hr i x r hi hr').1⟩,some ⟨b,0,none⟩,c,rfl,by rw [hl];exact h1,h2,.inr ⟨b,cur,T,fun _ _=>False,rfl,hb,hg,hcur,fun _ _ h=>h.elim,fun _ _ _ _ h=>h.elim,fun i r hi=>?_⟩⟩
  have hi':i<xs.length:=by have:=(List.getElem?_eq_some_iff.1 hi).1;omega
  obtain ⟨q1,q2⟩:=hr i xs[i] r (ji hi') hi
  exact ⟨r.cs,⟨rfl,GoT.len q1,GoT.one q1⟩,q2⟩
theorem qrQ {rs:List (Raw α)} {ln:Nat} (hd:Rd w0 xs rs) (h:(Ch.own S rs [.slice p ln c]).P w):(Ch.rowD w0 S xs p c).P w:=by
 obtain ⟨p',c',he,h1,h2,h3⟩:=h
 simp only [List.cons.injEq,Value.slice.injEq,and_true] at he
 obtain ⟨rfl,rfl,rfl⟩:=he
 refine ⟨by rw [←hd.1];exact h1,h2,?_⟩
 rcases h3 with ⟨rfl,hn,rfl⟩|⟨b,cur,T,F,rfl,hb,hg,hcur,_,_,hx⟩
 ·exact .inl ⟨rfl,jF (by rw [←hd.1,hn];rfl),rfl⟩
 ·refine .inr ⟨b,cur,T,rfl,hb,hg,hcur,fun i x hi=>?_⟩
  have hi':i<rs.length:=by have:=(List.getElem?_eq_some_iff.1 hi).1;rw [hd.1];exact this
  obtain ⟨cs,⟨e1,_,_⟩,hj⟩:=hx i rs[i] (ji hi')
  subst e1
  exact ⟨_,hd.2 i x rs[i] hi (ji hi'),hj⟩
theorem Rd.app {rs qs:List (Raw α)} (h1:Rd w0 xs rs) (h2:Rd w0 ys qs):Rd w0 (xs++ys) (rs++qs):=by
 refine ⟨by simp [h1.1,h2.1],fun i x r hx hr=>?_⟩
 by_cases hi:i<xs.length
 ·rw [ju hi] at hx
  rw [ju (by rw [h1.1];exact hi)] at hr
  exact h1.2 i x r hx hr
 ·rw [jD (by omega)] at hx
  rw [jD (by rw [h1.1];omega),h1.1] at hr
  exact h2.2 _ x r hx hr
theorem SH.nilD (h:SH w0 w L):SH w0 w (Ch.rowD w0 (fun _=>False) ([]:List α) none 0::L) :=
 h.cons (c:=Ch.rowD w0 (fun _=>False) ([]:List α) none 0) ⟨by simp,by simp,.inl ⟨rfl,rfl,rfl⟩⟩ (fun _ h=>h) (fun _ h=>h)
theorem SH.tail {d:Ch} (h:SH w0 w (d::L)):SH w0 w L :=
 ⟨h.below,fun c hc=>h.holds c (jo _ hc),fun c hc=>h.elder c (jo _ hc),(List.pairwise_cons.1 h.apart).2⟩
abbrev SH.wc (_:SH w0 w L):World:=w
theorem SH.back {w1:World} {L2:List Ch} (hL:SH w0 w1 L) (h:SH w1 w L2) (hD:NoD L2):SH w0 w (L2++L):=by
 have hu:=h.unbase hL.below hD
 have hlt:∀ c ∈ L,∀ b,c.S b→b<w1.heap.size:=fun c hc b hb=>((hL.holds c hc).2 b hb).2
 refine ⟨hu.below,fun c hc=>?_,fun c hc=>?_,List.pairwise_append.2 ⟨h.apart,hL.apart,fun c hc d hd b hb hb2=>?_⟩⟩
 ·rcases List.mem_append.1 hc with hc|hc
  ·exact hu.holds c hc
  ·refine ⟨c.loc w1 w (fun b hb=>h.below.block b (hlt c hc b hb)) (fun b hb=>h.below.block b (jy (hL.elder c hc b hb) hL.below.size)) (hL.holds c hc).1,fun b hb=>?_⟩
   have:=(hL.holds c hc).2 b hb
   exact ⟨this.1,jy this.2 h.below.size⟩
 ·rcases List.mem_append.1 hc with hc|hc
  ·exact hu.elder c hc
  ·exact hL.elder c hc
 ·have h1:=((h.holds c hc).2 b hb).1
  have h2:=hlt d hd b hb2
  omega
theorem qtu (hT:TabOk P T) {all:Array Oper} {l:List Oper} {d t ty el:Nat} {ps:String} {af:Array Edge} {x y:Operand} {z:List α} {ln ln':Nat} {te te':TE} {zv:Value}
  (h:SH w0 w (Ch.rowD w0 S1 ys p' c'::Ch.rowD w0 S xs p c::L)) (hl:ln=xs.length) (hl':ln'=ys.length) (hx:opv e x=some (.slice p ln c)) (hy:opv e y=some (.slice p' ln' c'))
  (hte:T.get t=some te) (hk:te.kind=.slice el) (hel:T.get el=some te') (hz:te'.zero=some zv) (hzs:(cellsL zv).length=te'.size) (hsz:te'.size=GoT.k α)
  (hb:Nat.ble te'.bytes 65536=true) (hbig:xs.length+ys.length≤big) (hz':xs++ys=z) (hn:Nat.blt d n=true)
  (hkk:∀ w' p2 c2 S2,SH w0 w' (Ch.rowD w0 S2 z p2 c2::L)→Run P n Q (.ops all l::k) ((d,.slice p2 z.length c2)::e) w') :
  Run P n Q (.ops all (⟨some d,.call ⟨.builtin .append,#[x,y],#[t,t]⟩,ty,ps,af,none⟩::l)::k) e w:=by
 subst hz' hl hl'
 obtain ⟨rs,hd,hp⟩:=qoT (h.mem (i:=1) rfl).1
 obtain ⟨qs,hq,hp'⟩:=qoT (h.mem (i:=0) rfl).1
 have h1:=h.say (i:=1) (c':=Ch.own S rs [.slice p rs.length c]) rfl (fun _=>hp) (fun _ h=>h) (fun _ h=>h.elim)
 have h2:=h1.say (i:=0) (c':=Ch.own S1 qs [.slice p' qs.length c']) rfl (fun _=>hp') (fun _ h=>h) (fun _ h=>h.elim)
 have hs:=(h2.sl 0 rfl).1
 refine qmo hT (α:=Raw α) 1 h2 rfl hs hq.1.symm (by rw [hd.1];exact hx) hy hte hk hel hz hzs hsz hb (by rw [hd.1,hq.1];exact hbig) hn (fun w' p2 c2 S2 h3=>?_)
 have h4:SH w0 w' (Ch.own S2 (rs++qs) [.slice p2 (rs.length+qs.length) c2]::L):=SH.tail h3
 have h5:=h4.say (i:=0) (c':=Ch.rowD w0 S2 (xs++ys) p2 c2) rfl (fun hp=>qrQ (hd.app hq) hp) (fun _ h=>h) (fun _ h=>h.elim)
 have:=hkk w' p2 c2 S2 h5
 rw [jj] at this
 rw [hd.1,hq.1]
 exact this
theorem qh {β:Type} {f g:Option β} {r:β} {c:Bool} {t:Nat} (hF:(bif c then f else g)=some r) (ht:e.get t=some (.bool c)) (h1:f=some r→Run P n Q k ((t,.bool true)::e) w) (h2:g=some r→Run P n Q k ((t,.bool false)::e) w):Run P n Q k e w:=by
 cases c
 ·exact qtI rfl ht (h2 hF)
 ·exact qt0 rfl ht (h1 hF)
theorem qbf {β:Type} {f g:Option β} {r:β} {c:Bool} {t:Nat} {all:Array Oper} {l:List Oper} (hF:(bif c then f else g)=some r) (ht:e.get t=some (.bool c)) (h1:f=some r→RunD P n Q k all w l ((t,.bool true)::e)) (h2:g=some r→RunD P n Q k all w l ((t,.bool false)::e)):RunD P n Q k all w l e:=by
 cases c
 ·exact qtt rfl ht (h2 hF)
 ·exact qtV rfl ht (h1 hF)
theorem qoD {β:Type} {f g:Option β} {r:β} {c:Bool} {t:Nat} {ops:Array Oper} {st:List Nat} {C:World→Prop} {fuel:Nat} {listed:Array Bool} (hF:(bif c then f else g)=some r) (ht:e.get t=some (.bool c)) (h1:f=some r→RunA P n Q k ops st C fuel listed ((t,.bool true)::e) w) (h2:g=some r→RunA P n Q k ops st C fuel listed ((t,.bool false)::e) w):RunA P n Q k ops st C fuel listed e w:=by
 cases c
 ·exact qtJ rfl ht (h2 hF)
 ·exact qtB rfl ht (h1 hF)
theorem SlR.ix {β:Type} {A:Nat→Prop} {i:Int} {f:α→Option β} {r:β} (h:SlR w A xs p c) (hF:(idx xs i).bind f=some r) :
  ∃ y,idx xs i=some y∧f y=some r∧(0≤i∧i<xs.length∧xs[i.toNat]?=some y)∧∃ b o q cs,p=some ⟨b,o,none⟩∧q=o+i.toNat*GoT.k α∧GoT.R w A y cs∧CellsAt w b q cs:=by
 obtain ⟨y,hy,hF⟩:=qe hF
 obtain ⟨b,o,q,cs,h1,h2,_,h3,h4⟩:=h.at hy
 exact ⟨y,hy,hF,qax hy,b,o,q,cs,h1,h2,h3,h4⟩
def RetT {β:Type} [GoT β] (P:Program) (f:FuncId) (vs:List Value) (w w0:World) (F:List Ch) (r:List β):Prop :=
 Calls P f vs.toArray w fun e w'=>∃ S p k,e=.returned (.slice p r.length k)∧SH w0 w' (Ch.own S r [.slice p r.length k]::F)
theorem qlt {β:Type} [GoT β] {r:List β} {F:List Ch} {all:Array Oper} {l:List Oper} {d ty:Nat} {ps:String} {af:Array Edge} {x:Operand} {args:Array Operand} {ats:Array TypeId} {f:FuncId} {fi ca:Array Value} {az vs:List Value}
  (hcall:qei P f) (hc:RetT P f vs w w0 F r) (hx:opv e x=some (.func (.func f) fi ca)) (hargs:opvs e args.toList=some az) (hvs:fi.toList++az++ca.toList=vs) (hn:Nat.blt d n=true)
  (hk:∀ w' S p c,SH w0 w' (Ch.own S r [.slice p r.length c]::F)→Run P n Q (.ops all l::k) ((d,.slice p r.length c)::e) w'):Run P n Q (.ops all (⟨some d,.call ⟨.value x,args,ats⟩,ty,ps,af,none⟩::l)::k) e w:=by
 subst hvs
 refine qkG (R:=fun v w'=>∃ S p c,v=.slice p r.length c∧SH w0 w' (Ch.own S r [.slice p r.length c]::F)) rfl rfl hn (fun a ha=>qhy ha hcall hx hargs w) (hc.mono ?_) ?_
 ·rintro e w' ⟨S,p,c,rfl,h⟩;exact ⟨_,rfl,S,p,c,rfl,h⟩
 ·rintro v w' ⟨S,p,c,rfl,h⟩;exact hk w' S p c h
theorem qiZ {β:Type} [GoT β] {r:List β} {F:List Ch} {f:FuncId} {fn:Func} {c:Code} {vs:List Value} {m:Nat} (hf:P.funcs[f]?=some fn) (hb:fn.body=some c) (hm:fn.ntmps=m) (hn:Nat.ble vs.length m=true)
  (h:Run P m (bodyPost P fn fun e w'=>∃ S p k,e=.returned (.slice p r.length k)∧SH w0 w' (Ch.own S r [.slice p r.length k]::F)) [.code c] (argEnv 0 vs) w):RetT P f vs w w0 F r:=by
 subst hm
 have hn':=js hn
 refine calls_of_wp hf hb ?_
 have hag:Agree fn.ntmps (argEnv 0 vs) { tmps:=vs.toArray++Array.replicate (fn.ntmps-vs.toArray.size) undef,defers:=[] }:=by
  refine ⟨rfl,by simp;omega,fun i v hi=>?_⟩
  obtain ⟨_,h2⟩:=qhu vs 0 i v hi
  simp only [Nat.sub_zero] at h2
  have hlt:=(List.getElem?_eq_some_iff.1 h2).1
  rw [jU (by simpa using hlt)]
  simpa using h2
 have h1:=h _ hag
 refine wp_mono h1 ?_
 intro ex a' w' hq
 cases ex<;>exact hq
theorem qjG {β:Type} [GoT β] {r:List β} {F:List Ch} {S':Nat→Prop} {p':Option Addr} {ln' c':Nat} (hT:TabOk P T) {fn:Func} (h:SH w0 w (Ch.own S' r [.slice p' ln' c']::F)) (hr:ResOk T e w fn.results.toList [.slice p' ln' c']) :
  Run P n (bodyPost P fn fun e w'=>∃ S p k,e=.returned (.slice p r.length k)∧SH w0 w' (Ch.own S r [.slice p r.length k]::F)) (.code .ret::k) e w:=by
 obtain rfl:=(h.sl 0 rfl).2
 exact qo5 fun _ ha=>⟨ha.defers,_,qhg hT ha hr,S',p',c',rfl,h⟩
end
end Go.Fw


namespace Go.Fw
open Go
structure IsRoot (x w:Int):Prop where
 pos:0≤w
 lo:w*w≤x
 hi:x<(w+1)*(w+1)
end Go.Fw


namespace Go.Fw
open Go
section
variable {L:Nat} {fr to:Nat→Int} {lv:Nat→Bool}
def inN (L:Nat) (fr to:Nat→Int) (lv:Nat→Bool) (R:List Nat) (k:Nat):Nat:=cntP (fun x=>lv x&&(to x==(k:Int)&&!decide (fr x ∈ ints R))) L
def lkN (L:Nat) (fr to:Nat→Int) (lv:Nat→Bool) (i k:Nat):Nat:=cntP (fun x=>lv x&&(fr x==(i:Int))&&(to x==(k:Int))) L
def Closed (L:Nat) (fr to:Nat→Int) (lv:Nat→Bool) (R:List Nat):Prop:=∀ x,x<L→lv x=true→to x ∈ ints R→fr x ∈ ints R
theorem qm1 {R:List Nat} {k:Nat}:(k:Int) ∈ ints R↔k ∈ R:=by
 unfold ints
 rw [List.mem_map]
 constructor
 ·rintro ⟨j,hj,e⟩
  obtain rfl:j=k:=by omega
  exact hj
 ·exact fun h=>⟨k,h,rfl⟩
theorem qpp {R:List Nat} {k:Nat}:inN L fr to lv R k=0↔∀ x,x<L→lv x=true→to x=(k:Int)→fr x ∈ ints R:=by
 unfold inN
 rw [qkR]
 constructor
 ·intro h x hx h1 h2
  have:=h x hx
  rw [h1,h2] at this
  simpa using this
 ·intro h x hx
  cases h1:lv x
  ·rfl
  ·by_cases h2:to x=(k:Int)
   ·have:=h x hx h1 h2
    simp [this]
   ·simp [h2]
theorem Closed.snoc {R:List Nat} {k:Nat} (h:Closed L fr to lv R) (hk:inN L fr to lv R k=0):Closed L fr to lv (R++[k]):=by
 intro x hx h1 h2
 rw [qja] at h2 ⊢
 rcases List.mem_append.1 h2 with h2|h2
 ·exact jL _ (h x hx h1 h2)
 ·exact jL _ (qpp.1 hk x hx h1 (List.mem_singleton.1 h2))
theorem Closed.nil:Closed L fr to lv []:=fun _ _ _ h=>by simp [ints] at h
theorem Closed.no_back {R:List Nat} {i k:Nat} (h:Closed L fr to lv R) (hi:i ∉ R) (h0:inN L fr to lv R i=0) (hk:k ∈ R++[i]):lkN L fr to lv i k=0:=by
 unfold lkN
 rw [qkR]
 intro x hx
 cases h1:lv x
 ·rfl
 ·by_cases h2:fr x=(i:Int)
  ·by_cases h3:to x=(k:Int)
   ·exfalso
    rcases List.mem_append.1 hk with hk|hk
    ·have:=h x hx h1 (by rw [h3,qm1];exact hk)
     rw [h2,qm1] at this
     exact hi this
    ·rw [List.mem_singleton.1 hk] at h3
     have:=qpp.1 h0 x hx h1 h3
     rw [h2,qm1] at this
     exact hi this
   ·simp [h3]
  ·simp [h2]
end
end Go.Fw


namespace Go.Fw
open Go
open Go.RowKit (Below)
section
variable {P:Program} {T:Tab} {n:Nat} {e:Env} {w:World}
theorem qnD {t:TypeId} {k:IntKind} (h:P.underlying t=some (.int k)) (w:World):(isAgg t).run P w=.ok false w:=by
 unfold isAgg
 simp only [jl,run_underlying h,jh]
 rfl
theorem qgb {t:TypeId} {k:IntKind} (h:P.underlying t=some (.int k)) {cs:Array Value} {o:Nat} {v:Value} (hv:cs[o]?=some v) (w:World):(part t cs o).run P w=.ok v w:=by
 unfold part
 simp only [jl,qnD h,jh,hv]
 rfl
theorem qh7 (d:Nat) {t:TypeId} (h:P.underlying t=some (.int .i64)) (a b:Int) (w:World):(Op.equalIn (d+1) t (.int .i64 a) (.int .i64 b)).run P w=.ok (a==b) w:=by
 simp [Op.equalIn,run_underlying h]
def isI64 (P:Program) (t:TypeId):Bool:=match P.underlying t with
 | some (.int .i64)=>true
 | _=>false
theorem qnb {t:TypeId} (h:isI64 P t=true):P.underlying t=some (.int .i64):=by
 unfold isI64 at h
 split at h
 ·assumption
 ·cases h
end
end Go.Fw


namespace Go.Fw
open Go
def xs (T:Tab) (n:Nat):Nat→List (Nat × List Value)→List It→Env→List Nat→List Nat→Option (List It × Env × List Nat × List Nat)
 | 0,_,k,e,x,y=>some (k,e,x,y)
 | m+1,bs,k,e,x,y=>match k with
  | .code (.seq a b)::k=>xs T n m bs (.code a::.code b::k) e x y
  | .code .skip::k=>xs T n m bs k e x y
  | .code (.block i c)::k=>xs T n m bs (.code c::.blk i::k) e x y
  | .code (.region _ a false)::k=>xs T n m bs (.ops a a.toList::k) e x y
  | .blk _::k=>xs T n m bs k e x y
  | .ops _ []::k=>xs T n m bs k e x y
  | .ops all (⟨some d,op,_,_,_,none⟩::l)::k=>match Nat.blt d n with
   | true=>match op with
    | .load t p=>match opv e p,T.get t,bs with
     | some (.pointer (some ⟨b,o,none⟩)),some te,(b',cs)::bs'=>match ld te cs o with
      | some v=>xs T n m bs' (.ops all l::k) ((d,v)::e) (b::x) (b'::y)
      | none=>none
     | _,_,_=>none
    | op=>match pev T e op with
     | some v=>xs T n m bs (.ops all l::k) ((d,v)::e) x y
     | none=>none
   | false=>none
  | .ops all (⟨dst,op,ty,ps,af,some g⟩::l)::k=>match guardU e all ⟨dst,op,ty,ps,af,some g⟩ with
   | true=>match dst with
    | some d=>match Nat.blt d n with
     | true=>xs T n m bs (.ops all l::k) ((d,undef)::e) x y
     | false=>none
    | none=>none
   | false=>match guardOf e all ⟨dst,op,ty,ps,af,some g⟩ with
    | some true=>xs T n m bs (.ops all (⟨dst,op,ty,ps,af,none⟩::l)::k) e x y
    | some false=>match dst with
     | some d=>match Nat.blt d n with
      | true=>xs T n m bs (.ops all l::k) ((d,undef)::e) x y
      | false=>none
     | none=>none
    | none=>none
  | _=>none
def xd (T:Tab) (n:Nat) (all:Array Oper):Nat→List (Nat × List Value)→List Oper→Env→List Nat→List Nat→Option (List Oper × Env × List Nat × List Nat)
 | 0,_,k,e,x,y=>some (k,e,x,y)
 | m+1,bs,k,e,x,y=>match k with
  | ⟨some d,op,_,_,_,none⟩::l=>match Nat.blt d n with
   | true=>match op with
    | .load t p=>match opv e p,T.get t,bs with
     | some (.pointer (some ⟨b,o,none⟩)),some te,(b',cs)::bs'=>match ld te cs o with
      | some v=>xd T n all m bs' l ((d,v)::e) (b::x) (b'::y)
      | none=>none
     | _,_,_=>none
    | op=>match pev T e op with
     | some v=>xd T n all m bs l ((d,v)::e) x y
     | none=>none
   | false=>none
  | ⟨dst,op,ty,ps,af,some g⟩::l=>match guardU e all ⟨dst,op,ty,ps,af,some g⟩ with
   | true=>match dst with
    | some d=>match Nat.blt d n with
     | true=>xd T n all m bs l ((d,undef)::e) x y
     | false=>none
    | none=>none
   | false=>match guardOf e all ⟨dst,op,ty,ps,af,some g⟩ with
    | some true=>xd T n all m bs (⟨dst,op,ty,ps,af,none⟩::l) e x y
    | some false=>match dst with
     | some d=>match Nat.blt d n with
      | true=>xd T n all m bs l ((d,undef)::e) x y
      | false=>none
     | none=>none
    | none=>none
  | _=>none
section
variable {P:Program} {T:Tab} {n:Nat} {Q:Exit→Act→World→Prop} {k:List It} {e:Env} {w0 w:World} {L:List Ch}
theorem qok (hT:TabOk P T):∀ (m:Nat) (bs:List (Nat × List Value)) (k:List It) (e:Env) (x y:List Nat) (k':List It) (e':Env) (x' y':List Nat),(∀ p ∈ bs,CellsAt w p.1 0 p.2)→x.length=y.length →
  xs T n m bs k e x y=some (k',e',x',y')→x'.length=y'.length∧(x'=y'→x=y∧(Run P n Q k' e' w→Run P n Q k e w)):=by
 intro m
 induction m with
 | zero =>
  intro bs k e x y k' e' x' y' _ hl h
  simp only [xs,Option.some.injEq,Prod.mk.injEq] at h
  obtain ⟨rfl,rfl,rfl,rfl⟩:=h
  exact ⟨hl,fun hh=>⟨hh,id⟩⟩
 | succ m ih =>
  intro bs k e x y k' e' x' y' hb hl h
  unfold xs at h
  split at h
  ·obtain ⟨h1,h2⟩:=ih _ _ _ _ _ _ _ _ _ hb hl h
   exact ⟨h1,fun hh=>⟨(h2 hh).1,fun hk=>qf1 ((h2 hh).2 hk)⟩⟩
  ·obtain ⟨h1,h2⟩:=ih _ _ _ _ _ _ _ _ _ hb hl h
   exact ⟨h1,fun hh=>⟨(h2 hh).1,fun hk=>qeg ((h2 hh).2 hk)⟩⟩
  ·obtain ⟨h1,h2⟩:=ih _ _ _ _ _ _ _ _ _ hb hl h
   exact ⟨h1,fun hh=>⟨(h2 hh).1,fun hk=>ql ((h2 hh).2 hk)⟩⟩
  ·obtain ⟨h1,h2⟩:=ih _ _ _ _ _ _ _ _ _ hb hl h
   exact ⟨h1,fun hh=>⟨(h2 hh).1,fun hk=>qjv ((h2 hh).2 hk)⟩⟩
  ·obtain ⟨h1,h2⟩:=ih _ _ _ _ _ _ _ _ _ hb hl h
   exact ⟨h1,fun hh=>⟨(h2 hh).1,fun hk=>qub ((h2 hh).2 hk)⟩⟩
  ·obtain ⟨h1,h2⟩:=ih _ _ _ _ _ _ _ _ _ hb hl h
   exact ⟨h1,fun hh=>⟨(h2 hh).1,fun hk=>qa5 ((h2 hh).2 hk)⟩⟩
  ·split at h
   ·rename_i hn
    split at h
    ·split at h
     ·rename_i hx hte
      split at h
      ·rename_i v hv
       have hb':=fun p hp=>hb p (jo _ hp)
       obtain ⟨h1,h2⟩:=ih _ _ _ _ _ _ _ _ _ hb' (by simp [hl]) h
       refine ⟨h1,fun hh=>?_⟩
       obtain ⟨h3,h4⟩:=h2 hh
       obtain ⟨rfl,rfl⟩:=List.cons.inj h3
       exact ⟨rfl,fun hk=>r_v (qfk hT (hb _ (jq ..)) (by rw [Jj];exact hx) hte hv) hn (h4 hk)⟩
      ·cases h
     ·cases h
    ·split at h
     ·rename_i v hv
      obtain ⟨h1,h2⟩:=ih _ _ _ _ _ _ _ _ _ hb hl h
      exact ⟨h1,fun hh=>⟨(h2 hh).1,fun hk=>r_v (v_p hT hv w) hn ((h2 hh).2 hk)⟩⟩
     ·cases h
   ·cases h
  ·split at h
   ·rename_i hg
    split at h
    ·split at h
     ·rename_i hn
      obtain ⟨h1,h2⟩:=ih _ _ _ _ _ _ _ _ _ hb hl h
      exact ⟨h1,fun hh=>⟨(h2 hh).1,fun hk=>qtq (by unfold notW;rw [hg];rfl) rfl hn ((h2 hh).2 hk)⟩⟩
     ·cases h
    ·cases h
   ·split at h
    ·rename_i hg
     obtain ⟨h1,h2⟩:=ih _ _ _ _ _ _ _ _ _ hb hl h
     exact ⟨h1,fun hh=>⟨(h2 hh).1,fun hk=>qrS hg ((h2 hh).2 hk)⟩⟩
    ·rename_i hg
     split at h
     ·split at h
      ·rename_i hn
       obtain ⟨h1,h2⟩:=ih _ _ _ _ _ _ _ _ _ hb hl h
       exact ⟨h1,fun hh=>⟨(h2 hh).1,fun hk=>qtq (by unfold notW;rw [hg,Bool.or_true]) rfl hn ((h2 hh).2 hk)⟩⟩
      ·cases h
     ·cases h
    ·cases h
  ·cases h
theorem qtr (hT:TabOk P T) {all:Array Oper}:∀ (m:Nat) (bs:List (Nat × List Value)) (l:List Oper) (e:Env) (x y:List Nat) (l':List Oper) (e':Env) (x' y':List Nat),(∀ p ∈ bs,CellsAt w p.1 0 p.2)→x.length=y.length →
  xd T n all m bs l e x y=some (l',e',x',y')→x'.length=y'.length∧(x'=y'→x=y∧(RunD P n Q k all w l' e'→RunD P n Q k all w l e)):=by
 intro m
 induction m with
 | zero =>
  intro bs l e x y l' e' x' y' _ hl h
  simp only [xd,Option.some.injEq,Prod.mk.injEq] at h
  obtain ⟨rfl,rfl,rfl,rfl⟩:=h
  exact ⟨hl,fun hh=>⟨hh,id⟩⟩
 | succ m ih =>
  intro bs l e x y l' e' x' y' hb hl h
  unfold xd at h
  split at h
  ·split at h
   ·rename_i hn
    split at h
    ·split at h
     ·rename_i hx hte
      split at h
      ·rename_i v hv
       have hb':=fun p hp=>hb p (jo _ hp)
       obtain ⟨h1,h2⟩:=ih _ _ _ _ _ _ _ _ _ hb' (by simp [hl]) h
       refine ⟨h1,fun hh=>?_⟩
       obtain ⟨h3,h4⟩:=h2 hh
       obtain ⟨rfl,rfl⟩:=List.cons.inj h3
       exact ⟨rfl,fun hk=>d_v (fun w' hw=>qfk hT ((hb _ (jq ..)).below hw) (by rw [Jj];exact hx) hte hv) hn (h4 hk)⟩
      ·cases h
     ·cases h
    ·split at h
     ·rename_i v hv
      obtain ⟨h1,h2⟩:=ih _ _ _ _ _ _ _ _ _ hb hl h
      exact ⟨h1,fun hh=>⟨(h2 hh).1,fun hk=>d_v (fun w' _=>v_p hT hv w') hn ((h2 hh).2 hk)⟩⟩
     ·cases h
   ·cases h
  ·split at h
   ·rename_i hg
    split at h
    ·split at h
     ·rename_i hn
      obtain ⟨h1,h2⟩:=ih _ _ _ _ _ _ _ _ _ hb hl h
      exact ⟨h1,fun hh=>⟨(h2 hh).1,fun hk=>qts (by unfold notW;rw [hg];rfl) rfl hn ((h2 hh).2 hk)⟩⟩
     ·cases h
    ·cases h
   ·split at h
    ·rename_i hg
     obtain ⟨h1,h2⟩:=ih _ _ _ _ _ _ _ _ _ hb hl h
     exact ⟨h1,fun hh=>⟨(h2 hh).1,fun hk=>qsJ hg ((h2 hh).2 hk)⟩⟩
    ·rename_i hg
     split at h
     ·split at h
      ·rename_i hn
       obtain ⟨h1,h2⟩:=ih _ _ _ _ _ _ _ _ _ hb hl h
       exact ⟨h1,fun hh=>⟨(h2 hh).1,fun hk=>qts (by unfold notW;rw [hg,Bool.or_true]) rfl hn ((h2 hh).2 hk)⟩⟩
      ·cases h
     ·cases h
    ·cases h
  ·cases h
end
def bits (m K:Nat):Array Bool:=((List.range m).map fun i=>K.testBit i).toArray
theorem qnY {m:Nat}:Array.replicate m false=bits m 0:=by
 unfold bits
 apply Array.ext'
 simp only [Nat.zero_testBit,Array.toList_replicate]
 exact Jh (by simp) (by simp)
def xa (T:Tab) (n:Nat) (ops:Array Oper):List Nat→List (Nat × List Value)→Nat→Env→List Nat→List Nat→Option (Nat × Env × List Nat × List Nat)
 | [],_,f,e,x,y=>some (f,e,x,y)
 | i::is,bs,f,e,x,y=>match f with
  | 0=>none
  | f+1=>match ops[i]? with
   | some ⟨some d,op,_,_,_,none⟩=>match Nat.blt d n with
    | true=>match op with
     | .load t p=>match opv e p,T.get t,bs with
      | some (.pointer (some ⟨b,o,none⟩)),some te,(b',cs)::bs'=>match ld te cs o with
       | some v=>xa T n ops is bs' f ((d,v)::e) (b::x) (b'::y)
       | none=>none
      | _,_,_=>none
     | op=>match pev T e op with
      | some v=>xa T n ops is bs f ((d,v)::e) x y
      | none=>none
    | false=>none
   | _=>none
def oka (ops:Array Oper) (st:List Nat):List Nat→Array Bool→Array Bool→Bool
 | [],l,l'=>l==l'
 | i::is,l,l'=>(Region.noSelect ops&&Region.free .any ops l i&&(Region.ready .any ops l).contains i&&st.all (fun s=>!(Nat.beq s i)&&waitsB ops i s&&!(l.getD s true)))&&oka ops st is (l.setIfInBounds i true) l'
section
variable {P:Program} {T:Tab} {n:Nat} {fnc:Func} {R:Ending→World→Prop} {k:List It} {e:Env} {w0 w:World} {ops:Array Oper} {st:List Nat} {C:World→Prop}
theorem qo8 (hT:TabOk P T) (hC:C w):∀ (is:List Nat) (bs:List (Nat × List Value)) (f:Nat) (e:Env) (x y:List Nat) (f':Nat) (e':Env) (x' y':List Nat) (l l':Array Bool),(∀ p ∈ bs,∀ w',C w'→CellsAt w' p.1 0 p.2)→x.length=y.length →
  xa T n ops is bs f e x y=some (f',e',x',y')→oka ops st is l l'=true→x'.length=y'.length∧(x'=y'→x=y∧(RunA P n (bodyPost P fnc R) k ops st C f' l' e' w→RunA P n (bodyPost P fnc R) k ops st C f l e w)):=by
 intro is
 induction is with
 | nil =>
  intro bs f e x y f' e' x' y' l l' _ hl h ho
  simp only [xa,Option.some.injEq,Prod.mk.injEq] at h
  obtain ⟨rfl,rfl,rfl,rfl⟩:=h
  obtain rfl:=eq_of_beq ho
  exact ⟨hl,fun hh=>⟨hh,id⟩⟩
 | cons i is ih =>
  intro bs f e x y f' e' x' y' l l' hb hl h ho
  unfold oka at ho
  rw [jg] at ho
  obtain ⟨ho1,ho2⟩:=ho
  unfold xa at h
  split at h
  ·cases h
  ·split at h
   ·rename_i hi
    split at h
    ·rename_i hn
     split at h
     ·split at h
      ·rename_i hx hte
       split at h
       ·rename_i v hv
        have hb':=fun p hp=>hb p (jo _ hp)
        obtain ⟨h1,h2⟩:=ih _ _ _ _ _ _ _ _ _ _ _ hb' (by simp [hl]) h ho2
        refine ⟨h1,fun hh=>?_⟩
        obtain ⟨h3,h4⟩:=h2 hh
        obtain ⟨rfl,rfl⟩:=List.cons.inj h3
        exact ⟨rfl,fun hk=>qnf i hi _ rfl ho1 (fun w' hw'=>qfk hT (hb _ (jq ..) w' hw') (by rw [Jj];exact hx) hte hv) hC hn (h4 hk)⟩
       ·cases h
      ·cases h
     ·split at h
      ·rename_i v hv
       obtain ⟨h1,h2⟩:=ih _ _ _ _ _ _ _ _ _ _ _ hb hl h ho2
       exact ⟨h1,fun hh=>⟨(h2 hh).1,fun hk=>qnf i hi _ rfl ho1 (fun w' _=>v_p hT hv w') hC hn ((h2 hh).2 hk)⟩⟩
      ·cases h
    ·cases h
   ·cases h
end
def gets (e:Env):Env→Option Env
 | []=>some []
 | p::l=>match e.get p.1,gets e l with
  | some v,some r=>some ((p.1,v)::r)
  | _,_=>none
theorem qmQ {e:Env}:∀ {e':Env},gets e e'=some e'→subEnv e e'
 | [],_=>trivial
 | p::l,h=>by
  unfold gets at h
  split at h
  ·rename_i v r hv hr
   have h:=List.cons.inj (Option.some.inj h)
   refine ⟨?_,qmQ (by rw [hr,h.2])⟩
   rw [hv,←h.1]
  ·cases h
def pickN (L:List Ch):List Nat→Option (List Ch)
 | []=>some []
 | i::is=>match L[i]?,pickN L is with
  | some c,some l=>some (c::l)
  | _,_=>none
def setN:List Ch→Nat→Ch→Option (List Ch)
 | [],_,_=>some []
 | _::l,0,c=>some (c::l)
 | a::l,i+1,c=>match setN l i c with
  | some r=>some (a::r)
  | none=>none
theorem qqD:∀ {L:List Ch} {i:Nat} {c:Ch} {L':List Ch},setN L i c=some L'→L.set i c=L'
 | [],_,_,_,h=>by simpa [setN] using h
 | _::_,0,_,_,h=>by simpa [setN] using h
 | a::l,i+1,c,L',h=>by
  unfold setN at h
  split at h
  ·rename_i r hr
   rw [List.set_cons_succ,qqD hr]
   exact Option.some.inj h
  ·cases h
def splN:List Value→Nat→List Value→Option (List Value)
 | cs,0,[]=>some cs
 | [],_,_=>none
 | _::cs,0,u::us=>match splN cs 0 us with
  | some r=>some (u::r)
  | none=>none
 | c::cs,j+1,us=>match splN cs j us with
  | some r=>some (c::r)
  | none=>none
theorem qoz:∀ {cs:List Value} {j:Nat} {us r:List Value},splN cs j us=some r→splice cs j us=r
 | cs,0,[],r,h=>by
  have h:cs=r:=by cases cs<;>simpa [splN] using h
  subst h;simp [splice]
 | [],0,_::_,_,h=>by simp [splN] at h
 | [],_+1,_,_,h=>by simp [splN] at h
 | c::cs,0,u::us,r,h=>by
  unfold splN at h
  split at h
  ·rename_i q hq
   have:=qoz hq
   obtain rfl:=Option.some.inj h
   rw [←this]
   simp [splice]
  ·cases h
 | c::cs,j+1,us,r,h=>by
  unfold splN at h
  split at h
  ·rename_i q hq
   have:=qoz hq
   obtain rfl:=Option.some.inj h
   rw [←this]
   simp [splice,Nat.add_right_comm]
  ·cases h
section
variable {P:Program} {T:Tab} {n:Nat} {Q:Exit→Act→World→Prop} {k:List It} {e:Env} {w0 w:World} {L:List Ch} {all:Array Oper}
theorem dN (h:SH w0 w L) (hk:∀ w',SH w0 w' L→Run P n Q k e w'):RunD P n Q k all w [] e:=qt8 fun w' hb=>hk w' (h.ext hb)
theorem rK {Inv:Nat→Env→World→Prop} {m:Nat} {e':Env} (h:Inv m e' w) (hs:gets e e'=some e'):Run P n Q (.goal (Back n Inv (m+1))::k) e w:=qtP m e' (Nat.lt_succ_self m) (qmQ hs) h
theorem rG {J:Env→World→Prop} {e':Env} (h:J e' w) (hs:gets e e'=some e'):Run P n Q (.goal (CutJ n J)::k) e w:=qrF e' (qmQ hs) h
theorem rL {b:Code} (Inv:Nat→Env→World→Prop) (m:Nat) {e':Env} (h:Inv m e' w) (hs:gets e e'=some e') (round:∀ m e w,Inv m e w→Run P n Q (.code b::.goal (Back n Inv m)::k) e w):Run P n Q (.code (.loop b)::k) e w :=
 qt5 e' (qmQ hs) (qtX Inv m h round)
theorem rA {id:Nat} {ops:List Oper} (st is:List Nat) {m:Nat} {L':List Ch} (h:SH w0 w L) (hh:(pickN L is,ops.length,P.follows .mixedOrders)=(some L',m,true))
  (hk:∀ w',SH w0 w' L→RunA P n Q k ops.toArray st (fun w'=>SH w0 w' L') m (bits m 0) e w'):Run P n Q (.code (.region id ops.toArray true)::k) e w:=by
 simp only [Prod.mk.injEq] at hh
 exact qtp st _ hh.2.2 m (by simpa using hh.2.1) _ qnY fun w' hb=>hk w' (h.ext hb)
theorem Ag {ops:Array Oper} {st:List Nat} {C:World→Prop} {fuel:Nat} {listed:Array Bool} {all:Array Oper} (hC:C w) (h:RunA P n Q k ops st C fuel listed e w):Run P n Q (.ops all []::.goal (NextA P n Q k ops st C fuel listed)::k) e w:=qeh (fun _=>hC) h
theorem Ao {ops:Array Oper} {st:List Nat} {C:World→Prop} {fuel:Nat} (i K:Nat) {m K0:Nat} {o:Oper} (hi:ops[i]?=some o) (h:Run P n Q (.ops ops [o]::.goal (NextA P n Q k ops st C fuel (bits m K))::k) e w)
  (hl:(bits m K0).setIfInBounds i true=bits m K:=by kernel_rfl) (hr:Region.ready .any ops (bits m K0)=[i]:=by kernel_rfl):RunA P n Q k ops st C (fuel+1) (bits m K0) e w:=qtL i hi _ hl hr h
theorem Ad {ops:Array Oper} {st:List Nat} {C:World→Prop} {listed:Array Bool} (h:Run P n Q k e w) (hr:Region.ready .any ops listed=[]:=by kernel_rfl):RunA P n Q k ops st C 0 listed e w:=qtS hr h
theorem At {ops:Array Oper} {st:List Nat} {C:World→Prop} {fuel:Nat} (i j K K':Nat) {m K0:Nat} {o o':Oper} (hh:(ops[i]?,ops[j]?)=(some o,some o')) (h1:Run P n Q (.ops ops [o]::.goal (NextA P n Q k ops st C fuel (bits m K))::k) e w)
  (h2:Run P n Q (.ops ops [o']::.goal (NextA P n Q k ops st C fuel (bits m K'))::k) e w) (hl1:(bits m K0).setIfInBounds i true=bits m K:=by kernel_rfl) (hl2:(bits m K0).setIfInBounds j true=bits m K':=by kernel_rfl)
  (hr:Region.ready .any ops (bits m K0)=[i,j]:=by kernel_rfl):RunA P n Q k ops st C (fuel+1) (bits m K0) e w:=by
 simp only [Prod.mk.injEq] at hh
 exact qt7 i j hh.1 hh.2 _ _ hl1 hl2 hr h1 h2
theorem rD {id:Nat} {ops:List Oper} (h:RunD P n Q k ops.toArray w ops e) (hm:P.follows .mixedOrders=true:=by rfl) (hB:Region.lexB .any ops.toArray=true:=by kernel_rfl):Run P n Q (.code (.region id ops.toArray true)::k) e w:=qtU hm hB h
end
section
variable {w:World} {S:Nat→Prop}
theorem pR {α β:Type} {A:GoT α} {B:GoT β} {x:α} {y:β} {c d:List Value} (h1:A.R w S x c) (h2:B.R w S y d):(pairT A B).R w S (x,y) (c++d):=⟨c,d,rfl,h1,h2⟩
theorem rI (x:Int):GoT.R w S x [.int .i64 x]:=rfl
theorem rB (x:Bool):GoT.R w S x [.bool x]:=rfl
theorem rT (x:ByteArray):GoT.R w S x [.string x]:=rfl
theorem rS {α:Type} [GoT α] {xs:List α} {p:Option Addr} {c:Nat} (s:SlR w S xs p c):GoT.R w S xs [.slice p xs.length c]:=⟨p,c,rfl,s⟩
end
def callB (P:Program) (f:FuncId):Bool:=match P.funcs[f]? with
 | some fn=>fn.body.isSome&&!(fn.name== "runtime.NumGoroutine")
 | none=>false
theorem qsz {P:Program} {f:FuncId} (h:callB P f=true):qei P f:=by
 unfold callB at h
 split at h
 ·rename_i fn hf
  rw [jg,jO] at h
  exact ⟨fn,hf,h.1,h.2⟩
 ·cases h
def res1 (e:Env):List ResultVar→Option Value
 | [.tmp t]=>e.get t
 | _=>none
theorem qqL {T:Tab} {e:Env} {w:World} {rs:List ResultVar} {v:Value} (h:res1 e rs=some v):ResOk T e w rs [v]:=by
 unfold res1 at h
 split at h
 ·exact ⟨h,trivial⟩
 ·cases h
end Go.Fw
