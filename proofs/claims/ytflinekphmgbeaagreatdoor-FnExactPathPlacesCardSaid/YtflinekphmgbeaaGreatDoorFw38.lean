/- Plain laws: loops with a state of which something is known. -/
import Derived.Test.YtflinekphmgbeaaGreatDoorFw29
import Derived.KernelRfl
open Option renaming bind_some → jd
open Nat renaming le_refl → je, mul_le_mul_right → js, le_of_ble_eq_true → ju, lt_of_lt_of_le → jx, succ_mul → jJ, zero_add → Ja, add_zero → Jb
open Bool renaming and_eq_true → jf, eq_iff_iff → jm, true_and → jA, not_eq_true' → jI, not_true → Jc
open Go.Result renaming andThen_ok → jg
open List renaming length_append → jh, getElem?_eq_getElem → ji, mem_cons_of_mem → jo, getElem_mem → jp, append_assoc → jq, getElem?_append_left → jr, length_singleton → jt, take_succ_eq_append_getElem → jv, getElem?_append_right → jw, mem_cons_self → jy, length_map → jz, getElem?_take → jB, getD_eq_getElem?_getD → jC, take_length → jD, getElem?_toArray → jE, drop_eq_getElem_cons → jF, eq_nil_of_length_eq_zero → jH, map_append → jK, all_eq_true → jL, not_mem_nil → jN, getElem_of_mem → jO, length_replicate → jP, size_toArray → jQ, length_take → jS, mem_cons → jU, getElem?_map → jV, append_nil → jY, ext_getElem → jZ
open Go.Sem renaming run_bind → jj, run_pure → jk
open Int renaming toNat_natCast → jn, tdiv_eq_ediv_of_nonneg → jG, mul_nonneg → jR, mul_assoc → jT, mul_le_mul → jW, le_refl → jX
open Array renaming getElem?_append_left → jM

namespace Go.Fw
open Go
theorem loopE {ρ τ:Type} {Lf:Nat→τ→Int→Option ρ} {fin:τ→ρ} (Inv:Nat→τ→Prop) {len:Nat} (hend:∀ n t,Lf (n+1) t (len:Int)=some (fin t))
  (hstep:∀ j t,j<len→Inv j t→∃ t',Inv (j+1) t'∧∀ X,Ev (fun n=>Lf n t' ((j+1:Nat):Int)) X→Ev (fun n=>Lf (n+1) t (j:Int)) X)
  (i0:Nat) (hi:i0≤len) (t:τ) (h0:Inv i0 t):∃ t',Inv len t'∧Ev (fun n=>Lf n t (i0:Int)) (fin t'):=by
 have main:∀ k j t,j+k=len→Inv j t→∃ t',Inv len t'∧Ev (fun n=>Lf n t (j:Int)) (fin t'):=by
  intro k
  induction k with
  | zero =>
   intro j t hj h
   obtain rfl:j=len:=by omega
   exact ⟨t,h,Ev.step (fun n=>hend n t) .done⟩
  | succ k ih =>
   intro j t hj h
   obtain ⟨t',h1,h2⟩:=hstep j t (by omega) h
   obtain ⟨t2,h3,h4⟩:=ih (j+1) t' (by omega) h1
   exact ⟨t2,h3,Ev.succ (h2 _ h4)⟩
 exact main (len-i0) i0 t (by omega) h0
theorem qsG {α:Type} {p:α→Bool} {xs:List α} {j:Nat} (hj:j<xs.length) (hp:p xs[j]=true) (hlt:∀ i,∀ h:i<j,p (xs[i]'(by omega))=false):ixL p xs=(j:Int):=by
 unfold ixL
 have:xs.findIdx? p=some j:=List.findIdx?_eq_some_iff_getElem.2 ⟨hj,hp,fun i hi=>by have:=hlt i hi;simp [this]⟩
 rw [this]
theorem qx2 {α:Type} [Inhabited α] {p:α→Bool} {xs:List α} {j:Nat} (hj:j<xs.length) (hp:p (gt xs j)=true) (hu:∀ i,i<xs.length→p (gt xs i)=true→i=j):ixL p xs=(j:Int):=by
 refine qsG hj (by rwa [qe3 hj] at hp) (fun i hi=>?_)
 cases hc:p (xs[i]'(by omega)) with
 | false=>rfl
 | true=>exact absurd (hu i (by omega) (by rw [qe3 (by omega)];exact hc)) (by omega)
theorem qlW {α:Type} [Inhabited α] {xs ys:List α} {j:Nat}:gt (xs++ys) j=if j<xs.length then gt xs j else gt ys (j-xs.length):=by
 unfold gt
 rw [jC,List.getElem?_append]
 by_cases h:j<xs.length
 ·simp only [h,if_true];rfl
 ·simp only [h,if_false];rfl
theorem qrA {α:Type} [Inhabited α] {f:Nat→α} {n j:Nat} (h:j<n):gt ((List.range n).map f) j=f j:=by
 unfold gt;simp [jC,h]
end Go.Fw


namespace Go.Fw
open Go
def vecI (f:Nat→Int) (m:Nat):List Int:=(List.range m).map f
theorem ql7 {f:Nat→Int} {m:Nat}:(vecI f m).length=m:=by simp [vecI]
theorem qm4 {f:Nat→Int} {m k:Nat} (h:k<m):idx (vecI f m) (k:Int)=some (f k):=by
 rw [qgS (by rw [ql7];exact h)]
 simp [vecI]
theorem qfo {f g:Nat→Int} {m:Nat} (h:∀ k,k<m→f k=g k):vecI f m=vecI g m:=by
 unfold vecI
 exact List.map_congr_left (fun k hk=>h k (List.mem_range.1 hk))
theorem qsg {m:Nat} (h:m≤2147483648):mkS (m:Int) (0:Int)=some (vecI (fun _=>0) m):=by
 unfold mkS big
 rw [if_pos ⟨by omega,by omega⟩]
 congr 1
 refine jZ (by simp [vecI]) (fun k h1 h2=>?_)
 simp [vecI]
theorem qq9 {f:Nat→Int} {m k:Nat} {v:Int}:setS (vecI f m) (k:Int) v=vecI (fun i=>if i=k then v else f i) m:=by
 unfold setS
 refine jZ (by simp [vecI]) (fun i h1 h2=>?_)
 rw [List.getElem_set]
 show (if k=i then _ else _)=_
 by_cases hk:k=i
 ·subst hk;simp [vecI]
 ·have:i ≠ k:=fun h=>hk h.symm
  simp [vecI,hk,this]
section
variable {sc:Nat→List Int} {m:Nat}
inductive Topo (sc:Nat→List Int) (m:Nat):List Nat→Prop
 | nil:Topo sc m []
 | snoc {l:List Nat} {k:Nat}:Topo sc m l→k<m→k ∉ l→(∀ u,u<m→(k:Int) ∈ sc u→u ∈ l)→Topo sc m (l++[k])
def Stuck (sc:Nat→List Int) (m:Nat) (l:List Nat):Prop:=∀ k,k<m→k ∉ l→∃ u,u<m∧(k:Int) ∈ sc u∧u ∉ l
theorem Topo.lt {l:List Nat} (h:Topo sc m l):∀ k,k ∈ l→k<m:=by
 induction h with
 | nil=>intro k hk;cases hk
 | snoc _ hk _ _ ih =>
  intro j hj
  rcases List.mem_append.1 hj with hj|hj
  ·exact ih j hj
  ·rw [List.mem_singleton.1 hj];exact hk
theorem Topo.nodup {l:List Nat} (h:Topo sc m l):l.Nodup:=by
 induction h with
 | nil=>exact List.nodup_nil
 | snoc _ _ hn _ ih =>
  rw [List.nodup_append]
  refine ⟨ih,by simp,fun a ha b hb=>?_⟩
  rw [List.mem_singleton.1 hb]
  rintro rfl
  exact hn ha
theorem Topo.sub {l l':List Nat} (h:Topo sc m l) (hs:Stuck sc m l'):∀ k,k ∈ l→k ∈ l':=by
 induction h with
 | nil=>intro k hk;cases hk
 | @snoc l k _ hk _ hp ih =>
  intro j hj
  rcases List.mem_append.1 hj with hj|hj
  ·exact ih j hj
  ·rw [List.mem_singleton.1 hj]
   by_cases hc:k ∈ l'
   ·exact hc
   ·obtain ⟨u,hu,he,hn⟩:=hs k hk hc
    exact absurd (ih u (hp u hu he)) hn
theorem qrs {l l':List Nat} (hn:l.Nodup) (h:∀ k,k ∈ l→k ∈ l'):l.length≤l'.length:=by
 induction l generalizing l' with
 | nil=>exact Nat.zero_le _
 | cons a l ih =>
  obtain ⟨h1,h2⟩:=List.nodup_cons.1 hn
  have hm:a ∈ l':=h a (jy ..)
  have:=ih (l':=l'.erase a) h2 (fun k hk=>(List.mem_erase_of_ne (fun e=>h1 (by rw [←e];exact hk))).2 (h k (jo _ hk)))
  rw [List.length_erase_of_mem hm] at this
  have:0<l'.length:=List.length_pos_of_mem hm
  simp only [List.length_cons]
  omega
theorem Topo.len {l:List Nat} (h:Topo sc m l):l.length≤m:=by
 have:=qrs (l':=List.range m) h.nodup (fun k hk=>List.mem_range.2 (h.lt k hk))
 simpa using this
theorem Topo.full {l:List Nat} (h:Topo sc m l) (hl:l.length=m):∀ k,k<m→k ∈ l:=by
 intro k hk
 by_cases hc:k ∈ l
 ·exact hc
 ·have h1:=qrs (l:=k::l) (l':=List.range m) (List.nodup_cons.2 ⟨hc,h.nodup⟩) (fun j hj=>by
   rcases List.mem_cons.1 hj with rfl|hj
   ·exact List.mem_range.2 hk
   ·exact List.mem_range.2 (h.lt j hj))
  simp at h1
  omega
theorem Topo.pre {l l':List Nat} (h:Topo sc m (l++l')):Topo sc m l:=by
 generalize he:l++l'=x at h
 induction h generalizing l' with
 | nil=>simp at he;rw [he.1];exact .nil
 | @snoc y k ht hk hn hp ih =>
  rcases List.eq_nil_or_concat l' with rfl|⟨l2,b,rfl⟩
  ·rw [jY] at he;subst he;exact .snoc ht hk hn hp
  ·rw [List.concat_eq_append,←jq] at he
   have:=List.append_inj' he rfl
   exact ih this.1
theorem Topo.at {l l':List Nat} {k:Nat} (h:Topo sc m (l++k::l')):k<m∧k ∉ l∧∀ u,u<m→(k:Int) ∈ sc u→u ∈ l:=by
 have:Topo sc m ((l++[k])++l'):=by simpa using h
 have h1:=this.pre
 generalize he:l++[k]=x at h1
 cases h1 with
 | nil=>simp at he
 | snoc _ a b c =>
  have:=List.append_inj' he rfl
  obtain ⟨rfl,e⟩:=this
  obtain rfl:k=_:=by simpa using e
  exact ⟨a,b,c⟩
theorem Topo.no_back {l:List Nat} {i k:Nat} (h:Topo sc m l) (hi:i<m) (hn:i ∉ l) (hk:k ∈ l):(sc i).count (k:Int)=0:=by
 rw [List.count_eq_zero]
 intro he
 obtain ⟨a,c,rfl⟩:=List.append_of_mem hk
 exact hn (List.mem_append_left _ (h.at.2.2 i hi he))
end
def ints (l:List Nat):List Int:=l.map fun (k:Nat)=>(k:Int)
theorem qdX {l:List Nat}:(ints l).length=l.length:=by simp [ints]
theorem qkA {l:List Nat} {k:Nat}:ints (l++[k])=ints l++[(k:Int)]:=by simp [ints]
theorem qpa {l:List Nat} {j:Nat} (h:j<l.length):idx (ints l) (j:Int)=some (l[j]:Int):=by
 rw [qgS (by rw [qdX];exact h)]
 simp [ints]
def qxg (xs:List Int) (m:Nat):Prop:=∀ y,y ∈ xs→∃ k:Nat,k<m∧y=(k:Int)
theorem qxg.at {xs:List Int} {m j:Nat} (h:qxg xs m) (hj:j<xs.length):∃ k:Nat,k<m∧idx xs (j:Int)=some (k:Int)∧xs[j]?=some (k:Int):=by
 obtain ⟨k,hk,e⟩:=h _ (jp hj)
 exact ⟨k,hk,by rw [qgS hj,e],by rw [ji hj,e]⟩
end Go.Fw


namespace Go.Fw
open Go
def selN (q:Nat→Bool) (m:Nat):List Nat:=(List.range m).filter q
theorem qnR {q:Nat→Bool} {j:Nat}:selN q (j+1)=selN q j++(bif q j then [j] else []):=by
 unfold selN
 rw [List.range_succ,List.filter_append]
 cases h:q j<;>simp [h]
theorem qoB {q:Nat→Bool} {j:Nat}:(selN q j).length≤j:=by
 unfold selN
 exact Nat.le_trans (List.length_filter_le _ _) (by rw [List.length_range];exact je _)
theorem qo1 {q:Nat→Bool} {j k:Nat}:k ∈ selN q j↔k<j∧q k=true:=by
 unfold selN;rw [List.mem_filter,List.mem_range]
theorem qpS {ρ:Type} {Lf:Nat→List Int→Int→Option ρ} {q:Nat→Bool} {len:Nat} {fin:ρ} (hl:len≤1048576) (hend:Ev (fun n=>Lf n (ints (selN q len)) (len:Int)) fin)
  (hstep:∀ j,j<len→∀ t:List Int,appS t [(j:Int)]=some (t++[(j:Int)])→∀ X,(q j=true→Ev (fun n=>Lf n (t++[(j:Int)]) ((j+1:Nat):Int)) X)→(q j=false→Ev (fun n=>Lf n t ((j+1:Nat):Int)) X)→Ev (fun n=>Lf (n+1) t (j:Int)) X) :
  Ev (fun n=>Lf n [] 0) fin :=
 down (P:=fun j=>Ev (fun n=>Lf n (ints (selN q j)) (j:Int)) fin) len hend (fun j hj ih=>Ev.succ (hstep j hj _
  (qc6 (by have:=qoB (q:=q) (j:=j);rw [qdX,jt];omega)) _
  (fun h=>by rw [qnR,h] at ih;simp only [cond_true,qkA] at ih;exact ih) (fun h=>by rw [qnR,h] at ih;simpa using ih)))
section
variable {sc:Nat→List Int} {m:Nat}
end
end Go.Fw


namespace Go.Fw
open Go
open Go.RowKit (Below)
section
variable {w0 w:World} {L:List Ch}
theorem SH.rowS {α:Type} [GoT α] {S:Nat→Prop} {xs:List α} {p:Option Addr} {c:Nat} (i:Nat) (h:SH w0 w L) (hi:L[i]?=some (Ch.rowD w0 S xs p c)):SlR w (Fw.old w) xs p c:=by
 obtain ⟨h1,h2,h3⟩:=(h.mem hi).1
 refine ⟨h1,h2,?_⟩
 rcases h3 with ⟨a,b,_⟩|⟨b,cur,T,rfl,hb,hg,hc,hx⟩
 ·exact .inl ⟨.inl a,b⟩
 ·refine .inr ⟨b,0,cur,T,(0,0),rfl,((h.mem hi).2 b hb).2,hg,by omega,fun i x hi=>?_⟩
  obtain ⟨cs,hR,hj⟩:=hx i x hi
  exact ⟨cs,h.old hR,by simpa using hj⟩
end
end Go.Fw


namespace Go.Fw
open Go
open Go.RowKit (Below)
section
variable {P:Program} {T:Tab} {n:Nat} {Q:Exit→Act→World→Prop} {k:List It} {e:Env} {w0 w:World} {L:List Ch}
variable {α:Type} [GoT α] {S S1:Nat→Prop} {xs ys:List α} {p p':Option Addr} {c c':Nat}
def Rd (w0:World) (xs:List α) (rs:List (Raw α)):Prop:=rs.length=xs.length∧∀ (i:Nat) (x:α) (r:Raw α),xs[i]?=some x→rs[i]?=some r→GoT.R w0 (Fw.old w0) x r.cs
theorem Rd.app {rs qs:List (Raw α)} (h1:Rd w0 xs rs) (h2:Rd w0 ys qs):Rd w0 (xs++ys) (rs++qs):=by
 refine ⟨by simp [h1.1,h2.1],fun i x r hx hr=>?_⟩
 by_cases hi:i<xs.length
 ·rw [jr hi] at hx
  rw [jr (by rw [h1.1];exact hi)] at hr
  exact h1.2 i x r hx hr
 ·rw [jw (by omega)] at hx
  rw [jw (by rw [h1.1];omega),h1.1] at hr
  exact h2.2 _ x r hx hr
abbrev SH.wc (_:SH w0 w L):World:=w
theorem qk {β:Type} {f g:Option β} {r:β} {c:Bool} {t:Nat} (hF:(bif c then f else g)=some r) (ht:e.get t=some (.bool c)) (h1:f=some r→Run P n Q k ((t,.bool true)::e) w) (h2:g=some r→Run P n Q k ((t,.bool false)::e) w):Run P n Q k e w:=by
 cases c
 ·exact qzG rfl ht (h2 hF)
 ·exact qzP rfl ht (h1 hF)
theorem qaT {β:Type} {f g:Option β} {r:β} {c:Bool} {t:Nat} {all:Array Oper} {l:List Oper} (hF:(bif c then f else g)=some r) (ht:e.get t=some (.bool c)) (h1:f=some r→RunD P n Q k all w l ((t,.bool true)::e)) (h2:g=some r→RunD P n Q k all w l ((t,.bool false)::e)):RunD P n Q k all w l e:=by
 cases c
 ·exact qzo rfl ht (h2 hF)
 ·exact qzO rfl ht (h1 hF)
theorem SlR.ix {β:Type} {A:Nat→Prop} {i:Int} {f:α→Option β} {r:β} (h:SlR w A xs p c) (hF:(idx xs i).bind f=some r) :
  ∃ y,idx xs i=some y∧f y=some r∧(0≤i∧i<xs.length∧xs[i.toNat]?=some y)∧∃ b o q cs,p=some ⟨b,o,none⟩∧q=o+i.toNat*GoT.k α∧GoT.R w A y cs∧CellsAt w b q cs:=by
 obtain ⟨y,hy,hF⟩:=qc hF
 obtain ⟨b,o,q,cs,h1,h2,_,h3,h4⟩:=h.at hy
 exact ⟨y,hy,hF,qcG hy,b,o,q,cs,h1,h2,h3,h4⟩
def RetU (P:Program) (f:FuncId) (vs:List Value) (w:World) (J:World→Prop):Prop :=
 Calls P f vs.toArray w fun e w'=>e=.returned (tup [])∧J w'
theorem qvS {J:World→Prop} {all:Array Oper} {l:List Oper} {d ty:Nat} {ps:String} {af:Array Edge} {x:Operand} {args:Array Operand} {ats:Array TypeId} {f:FuncId} {fi ca:Array Value} {as vs:List Value}
  (hcall:qfI P f) (hc:RetU P f vs w J) (hx:opv e x=some (.func (.func f) fi ca)) (hargs:opvs e args.toList=some as) (hvs:fi.toList++as++ca.toList=vs) (hn:Nat.blt d n=true)
  (hk:∀ w',J w'→Run P n Q (.ops all l::k) ((d,tup [])::e) w'):Run P n Q (.ops all (⟨some d,.call ⟨.value x,args,ats⟩,ty,ps,af,none⟩::l)::k) e w:=by
 subst hvs
 refine qpf (R:=fun v w'=>v=tup []∧J w') rfl rfl hn (fun a ha=>qkB ha hcall hx hargs w) (hc.mono ?_) ?_
 ·rintro e w' ⟨rfl,h⟩;exact ⟨_,rfl,rfl,h⟩
 ·rintro v w' ⟨rfl,h⟩;exact hk w' h
theorem qtN {J:World→Prop} {f:FuncId} {fn:Func} {c:Code} {vs:List Value} {m:Nat} (hf:P.funcs[f]?=some fn) (hb:fn.body=some c) (hm:fn.ntmps=m) (hn:Nat.ble vs.length m=true)
  (h:Run P m (bodyPost P fn fun e w'=>e=.returned (tup [])∧J w') [.code c] (argEnv 0 vs) w):RetU P f vs w J:=by
 subst hm
 have hn':=ju hn
 refine calls_of_wp hf hb ?_
 have hag:Agree fn.ntmps (argEnv 0 vs) { tmps:=vs.toArray++Array.replicate (fn.ntmps-vs.toArray.size) undef,defers:=[] }:=by
  refine ⟨rfl,by simp;omega,fun i v hi=>?_⟩
  obtain ⟨_,h2⟩:=qjb vs 0 i v hi
  simp only [Nat.sub_zero] at h2
  have hlt:=(List.getElem?_eq_some_iff.1 h2).1
  rw [jM (by simpa using hlt)]
  simpa using h2
 have h1:=h _ hag
 refine wp_mono h1 ?_
 intro ex a' w' hq
 cases ex<;>exact hq
theorem qzz {J:World→Prop} (hT:TabOk P T) {fn:Func} (h:J w) (hr:ResOk T e w fn.results.toList []) :
  Run P n (bodyPost P fn fun e w'=>e=.returned (tup [])∧J w') (.code .ret::k) e w :=
 qut fun _ ha=>⟨ha.defers,tup [],qhp hT ha hr,rfl,h⟩
theorem qzB {J:World→Prop} (hT:TabOk P T) {fn:Func} (h:J w) (hr:ResOk T e w fn.results.toList []) :
  Run P n (bodyPost P fn fun e w'=>e=.returned (tup [])∧J w') [] e w :=
 qzY fun _ ha=>⟨ha.defers,tup [],qhp hT ha hr,rfl,h⟩
def RetT {β:Type} [GoT β] (P:Program) (f:FuncId) (vs:List Value) (w w0:World) (F:List Ch) (r:List β):Prop :=
 Calls P f vs.toArray w fun e w'=>∃ S p k,e=.returned (.slice p r.length k)∧SH w0 w' (Ch.own S r [.slice p r.length k]::F)
theorem qnL {β:Type} [GoT β] {r:List β} {F:List Ch} {all:Array Oper} {l:List Oper} {d ty:Nat} {ps:String} {af:Array Edge} {x:Operand} {args:Array Operand} {ats:Array TypeId} {f:FuncId} {fi ca:Array Value} {as vs:List Value}
  (hcall:qfI P f) (hc:RetT P f vs w w0 F r) (hx:opv e x=some (.func (.func f) fi ca)) (hargs:opvs e args.toList=some as) (hvs:fi.toList++as++ca.toList=vs) (hn:Nat.blt d n=true)
  (hk:∀ w' S p c,SH w0 w' (Ch.own S r [.slice p r.length c]::F)→Run P n Q (.ops all l::k) ((d,.slice p r.length c)::e) w'):Run P n Q (.ops all (⟨some d,.call ⟨.value x,args,ats⟩,ty,ps,af,none⟩::l)::k) e w:=by
 subst hvs
 refine qpf (R:=fun v w'=>∃ S p c,v=.slice p r.length c∧SH w0 w' (Ch.own S r [.slice p r.length c]::F)) rfl rfl hn (fun a ha=>qkB ha hcall hx hargs w) (hc.mono ?_) ?_
 ·rintro e w' ⟨S,p,c,rfl,h⟩;exact ⟨_,rfl,S,p,c,rfl,h⟩
 ·rintro v w' ⟨S,p,c,rfl,h⟩;exact hk w' S p c h
theorem qp9 {β:Type} [GoT β] {r:List β} {F:List Ch} {f:FuncId} {fn:Func} {c:Code} {vs:List Value} {m:Nat} (hf:P.funcs[f]?=some fn) (hb:fn.body=some c) (hm:fn.ntmps=m) (hn:Nat.ble vs.length m=true)
  (h:Run P m (bodyPost P fn fun e w'=>∃ S p k,e=.returned (.slice p r.length k)∧SH w0 w' (Ch.own S r [.slice p r.length k]::F)) [.code c] (argEnv 0 vs) w):RetT P f vs w w0 F r:=by
 subst hm
 have hn':=ju hn
 refine calls_of_wp hf hb ?_
 have hag:Agree fn.ntmps (argEnv 0 vs) { tmps:=vs.toArray++Array.replicate (fn.ntmps-vs.toArray.size) undef,defers:=[] }:=by
  refine ⟨rfl,by simp;omega,fun i v hi=>?_⟩
  obtain ⟨_,h2⟩:=qjb vs 0 i v hi
  simp only [Nat.sub_zero] at h2
  have hlt:=(List.getElem?_eq_some_iff.1 h2).1
  rw [jM (by simpa using hlt)]
  simpa using h2
 have h1:=h _ hag
 refine wp_mono h1 ?_
 intro ex a' w' hq
 cases ex<;>exact hq
theorem qxG {β:Type} [GoT β] {r:List β} {F:List Ch} {S':Nat→Prop} {p':Option Addr} {ln' c':Nat} (hT:TabOk P T) {fn:Func} (h:SH w0 w (Ch.own S' r [.slice p' ln' c']::F)) (hr:ResOk T e w fn.results.toList [.slice p' ln' c']) :
  Run P n (bodyPost P fn fun e w'=>∃ S p k,e=.returned (.slice p r.length k)∧SH w0 w' (Ch.own S r [.slice p r.length k]::F)) (.code .ret::k) e w:=by
 obtain rfl:=(h.sl 0 rfl).2
 exact qut fun _ ha=>⟨ha.defers,_,qhp hT ha hr,S',p',c',rfl,h⟩
end
end Go.Fw


namespace Go.Fw
open Go
structure IsRoot (x w:Int):Prop where
 pos:0≤w
 lo:w*w≤x
 hi:x<(w+1)*(w+1)
theorem qvR {a b:Int} (h0:0≤a) (h:a≤b):a*a≤b*b:=jW h h h0 (Int.le_trans h0 h)
theorem qy6 {w:Int}:(w+1)*(w+1)=w*w+2*w+1:=by simp only [Int.add_mul,Int.mul_add,Int.one_mul,Int.mul_one];omega
theorem qrF {w:Int}:(2*w)*(2*w)=4*(w*w):=by rw [jT,Int.mul_left_comm w 2 w];omega
theorem qvN {w:Int}:(2*w+1)*(2*w+1)=4*(w*w)+4*w+1:=by rw [qy6,qrF];omega
theorem qxZ {w:Int}:(2*w+2)*(2*w+2)=4*((w+1)*(w+1)):=by rw [show 2*w+2=2*(w+1) by omega,qrF]
theorem IsRoot.uniq {x w v:Int} (h:IsRoot x w) (g:IsRoot x v):w=v:=by
 have h0:=h.pos
 have g0:=g.pos
 have h1:=h.lo
 have h2:=h.hi
 have g1:=g.lo
 have g2:=g.hi
 rcases Int.lt_trichotomy w v with hh|hh|hh
 ·have:=qvR (show 0≤w+1 by omega) (show w+1≤v by omega);omega
 ·exact hh
 ·have:=qvR (show 0≤v+1 by omega) (show v+1≤w by omega);omega
theorem IsRoot.four {x w v:Int} (h:IsRoot x w) (g:IsRoot (4*x) v):v=2*w∨v=2*w+1:=by
 have h0:=h.pos
 have g0:=g.pos
 have h1:=h.lo
 have h2:=h.hi
 have g1:=g.lo
 have g2:=g.hi
 by_cases a:v<2*w
 ·have:=qvR (show 0≤v+1 by omega) (show v+1≤2*w by omega)
  rw [qrF] at this
  omega
 ·by_cases c:2*w+2≤v
  ·have:=qvR (show 0≤2*w+2 by omega) c
   rw [qxZ] at this
   omega
  ·omega
def divI (a b mode:Int):Int:=bif decide (a.tmod b<0)&&(mode==0) then a.tdiv b-1 else bif decide (a.tmod b > 0)&&(mode==1) then a.tdiv b+1 else a.tdiv b
theorem qtt {a b mode:Int} (h:0≤a) (hb:0<b):divI a b mode=if mode=1∧a % b > 0 then a / b+1 else a / b:=by
 unfold divI
 rw [Int.tmod_eq_emod_of_nonneg h,jG h]
 have:=Int.emod_nonneg a (show b ≠ 0 by omega)
 rw [show decide (a % b<0)=false by simp;omega,Bool.false_and]
 simp only [cond_false]
 by_cases h1:mode=1
 ·by_cases h2:a % b > 0
  ·rw [if_pos ⟨h1,h2⟩,decide_eq_true h2,show (mode==1)=true by simpa using h1];rfl
  ·rw [if_neg (fun h=>h2 h.2),decide_eq_false h2];rfl
 ·rw [if_neg (fun h=>h1 h.1),show (mode==1)=false by simpa using h1,Bool.and_false];rfl
theorem quT {x w v mode:Int} (h:IsRoot x w) (g:IsRoot (4*x) v) (hm:mode=0∨mode=1) :
  divI (if mode=1∧v*v<4*x then v+1 else v) 1000 mode=if mode=1∧w*w<x then w / 500+1 else divI w 500 mode:=by
 have h0:=h.pos
 have g0:=g.pos
 have g1:=g.lo
 have h1:=h.lo
 have hv:=h.four g
 rw [qtt h0 (by omega),qtt (by split<;>omega) (by omega)]
 rcases hm with rfl|rfl
 ·rw [if_neg (by omega),if_neg (by omega),if_neg (by omega),if_neg (by omega)]
  omega
 ·have e:v*v=4*(w*w)∨v*v=4*(w*w)+4*w+1:=by
   rcases hv with rfl|rfl
   ·exact .inl qrF
   ·exact .inr qvN
  simp only [true_and]
  by_cases c:w*w<x
  ·have hs:v*v<4*x:=by omega
   rw [if_pos hs,if_pos c]
   split<;>omega
  ·have hw:w*w=x:=by omega
   have hv2:v=2*w:=by
    rcases hv with hv|hv
    ·exact hv
    ·subst hv
     rw [qvN] at g1
     omega
   have hs:¬ v*v<4*x:=by rw [hv2,qrF];omega
   rw [if_neg hs,if_neg c]
   split<;>split<;>omega
theorem qsr {ρ:Type} {Lf:Nat→Int→Int→Option ρ} {fin:Int→ρ} {x H:Int} (hx:0≤x) (hH:x<(H+1)*(H+1)) (h0:0≤H)
  (hend:∀ n l,0≤l→l≤H→Lf (n+1) l l=some (fin l))
  (hstep:∀ n l h,0≤l→l<h→h≤H→Lf (n+1) l h=bif decide ((l+h+1) / 2*((l+h+1) / 2)≤x) then Lf n ((l+h+1) / 2) h else Lf n l ((l+h+1) / 2-1)) :
  ∃ w,IsRoot x w∧w≤H∧Ev (fun n=>Lf n 0 H) (fin w):=by
 have main:∀ d:Nat,∀ l h:Int,0≤l→l≤h→h≤H→h-l≤d→l*l≤x→x<(h+1)*(h+1)→∃ w,IsRoot x w∧w≤H∧Ev (fun n=>Lf n l h) (fin w):=by
  intro d
  induction d with
  | zero =>
   intro l h hl hlh hh hd h1 h2
   obtain rfl:l=h:=by omega
   exact ⟨l,⟨hl,h1,h2⟩,hh,Ev.step (fun n=>hend n l hl hh) .done⟩
  | succ d ih =>
   intro l h hl hlh hh hd h1 h2
   by_cases c:l=h
   ·subst c
    exact ⟨l,⟨hl,h1,h2⟩,hh,Ev.step (fun n=>hend n l hl hh) .done⟩
   ·have hlt:l<h:=by omega
    by_cases q:(l+h+1) / 2*((l+h+1) / 2)≤x
    ·obtain ⟨w,r1,r2,r3⟩:=ih ((l+h+1) / 2) h (by omega) (by omega) hh (by omega) q h2
     exact ⟨w,r1,r2,Ev.step (g:=fun n=>Lf n ((l+h+1) / 2) h) (fun n=>by rw [hstep n l h hl hlt hh,decide_eq_true q];rfl) r3⟩
    ·obtain ⟨w,r1,r2,r3⟩:=ih l ((l+h+1) / 2-1) hl (by omega) (by omega) (by omega) h1 (by rw [Int.sub_add_cancel];omega)
     exact ⟨w,r1,r2,Ev.step (g:=fun n=>Lf n l ((l+h+1) / 2-1)) (fun n=>by rw [hstep n l h hl hlt hh,decide_eq_false q];rfl) r3⟩
 exact main H.toNat 0 H (jX _) h0 (jX _) (by omega) (by omega) hH
end Go.Fw


namespace Go.Fw
open Go
section
variable {L:Nat} {fr to:Nat→Int} {lv:Nat→Bool}
def inN (L:Nat) (fr to:Nat→Int) (lv:Nat→Bool) (R:List Nat) (k:Nat):Nat:=cntP (fun x=>lv x&&(to x==(k:Int)&&!decide (fr x ∈ ints R))) L
def lkN (L:Nat) (fr to:Nat→Int) (lv:Nat→Bool) (i k:Nat):Nat:=cntP (fun x=>lv x&&(fr x==(i:Int))&&(to x==(k:Int))) L
def freeN (L:Nat) (fr to:Nat→Int) (lv:Nat→Bool) (R:List Nat) (k:Nat):Bool:=!decide (k ∈ R)&&decide (inN L fr to lv R k=0)
def nxtN (L:Nat) (fr to:Nat→Int) (lv:Nat→Bool) (n:Nat) (R:List Nat):Option Nat:=(List.range n).find? (freeN L fr to lv R)
def ordN (L:Nat) (fr to:Nat→Int) (lv:Nat→Bool) (n:Nat):Nat→List Nat→Option (List Nat)
 | 0,R=>some R
 | m+1,R=>match nxtN L fr to lv n R with|none=>none|some k=>ordN L fr to lv n m (R++[k])
def Closed (L:Nat) (fr to:Nat→Int) (lv:Nat→Bool) (R:List Nat):Prop:=∀ x,x<L→lv x=true→to x ∈ ints R→fr x ∈ ints R
theorem qlS {R:List Nat} {k:Nat}:(k:Int) ∈ ints R↔k ∈ R:=by
 unfold ints
 rw [List.mem_map]
 constructor
 ·rintro ⟨j,hj,e⟩
  obtain rfl:j=k:=by omega
  exact hj
 ·exact fun h=>⟨k,h,rfl⟩
theorem qvo {p q r:Nat→Bool} {n:Nat} (h:∀ x,x<n→((bif p x then 1 else 0):Nat)=(bif q x then 1 else 0)+(bif r x then 1 else 0)):cntP p n=cntP q n+cntP r n:=by
 induction n with
 | zero=>rfl
 | succ n ih=>unfold cntP;rw [ih (fun x hx=>h x (by omega)),h n (by omega)];omega
theorem qw0 {R:List Nat} {i k:Nat} (hi:i ∉ R):inN L fr to lv R k=inN L fr to lv (R++[i]) k+lkN L fr to lv i k:=by
 unfold inN lkN
 refine qvo fun x _=>?_
 cases lv x
 ·rfl
 ·cases to x==(k:Int)
  ·simp
  ·by_cases hf:fr x=(i:Int)
   ·have h1:fr x ∉ ints R:=by rw [hf,qlS];exact hi
    have h2:fr x ∈ ints (R++[i]):=by rw [qkA,hf];simp
    rw [hf] at h1 h2
    simp [h1,h2,hf]
   ·have h2:(fr x ∈ ints (R++[i]))↔fr x ∈ ints R:=by rw [qkA];simp [hf]
    rw [show (fr x==(i:Int))=false by simpa using hf]
    simp [h2]
theorem qq8 {R:List Nat} {k:Nat}:inN L fr to lv R k=0↔∀ x,x<L→lv x=true→to x=(k:Int)→fr x ∈ ints R:=by
 unfold inN
 rw [qnI]
 constructor
 ·intro h x hx h1 h2
  have:=h x hx
  rw [h1,h2] at this
  simpa using this
 ·intro h x hx
  cases h1:lv x
  ·rfl
  ·by_cases h2:to x=(k:Int)
   ·have:=h x hx h1 h2
    simp [this]
   ·simp [h2]
theorem qpV {n:Nat} {R:List Nat} {k:Nat} (h:nxtN L fr to lv n R=some k):k<n∧k ∉ R∧inN L fr to lv R k=0:=by
 have h1:=List.mem_range.1 (List.mem_of_find?_eq_some h)
 have h2:=List.find?_some h
 unfold freeN at h2
 simp only [jf,jI,decide_eq_false_iff_not,decide_eq_true_eq] at h2
 exact ⟨h1,h2.1,h2.2⟩
theorem Closed.snoc {R:List Nat} {k:Nat} (h:Closed L fr to lv R) (hk:inN L fr to lv R k=0):Closed L fr to lv (R++[k]):=by
 intro x hx h1 h2
 rw [qkA] at h2 ⊢
 rcases List.mem_append.1 h2 with h2|h2
 ·exact List.mem_append_left _ (h x hx h1 h2)
 ·exact List.mem_append_left _ (qq8.1 hk x hx h1 (List.mem_singleton.1 h2))
theorem Closed.nil:Closed L fr to lv []:=fun _ _ _ h=>by simp [ints] at h
theorem Closed.no_back {R:List Nat} {i k:Nat} (h:Closed L fr to lv R) (hi:i ∉ R) (h0:inN L fr to lv R i=0) (hk:k ∈ R++[i]):lkN L fr to lv i k=0:=by
 unfold lkN
 rw [qnI]
 intro x hx
 cases h1:lv x
 ·rfl
 ·by_cases h2:fr x=(i:Int)
  ·by_cases h3:to x=(k:Int)
   ·exfalso
    rcases List.mem_append.1 hk with hk|hk
    ·have:=h x hx h1 (by rw [h3,qlS];exact hk)
     rw [h2,qlS] at this
     exact hi this
    ·rw [List.mem_singleton.1 hk] at h3
     have:=qq8.1 h0 x hx h1 h3
     rw [h2,qlS] at this
     exact hi this
   ·simp [h3]
  ·simp [h2]
theorem qxY {n:Nat}:∀ m R R',ordN L fr to lv n m R=some R'→R'.length=R.length+m:=by
 intro m
 induction m with
 | zero=>intro R R' h;obtain rfl:=Option.some.inj h;rfl
 | succ m ih =>
  intro R R' h
  unfold ordN at h
  cases hn:nxtN L fr to lv n R with
  | none=>rw [hn] at h;cases h
  | some k =>
   rw [hn] at h
   have:=ih _ _ h
   rw [this,jh,jt];omega
end
end Go.Fw


namespace Go.Fw
open Go
open Go.RowKit (Below)
section
variable {P:Program} {T:Tab} {n:Nat} {e:Env} {w:World}
theorem qr0 {t:TypeId} {k:IntKind} (h:P.underlying t=some (.int k)) (w:World):(isAgg t).run P w=.ok false w:=by
 unfold isAgg
 simp only [jj,run_underlying h,jg]
 rfl
theorem qoJ {t:TypeId} {k:IntKind} (h:P.underlying t=some (.int k)) {cs:Array Value} {o:Nat} {v:Value} (hv:cs[o]?=some v) (w:World):(part t cs o).run P w=.ok v w:=by
 unfold part
 simp only [jj,qr0 h,jg,hv]
 rfl
theorem qeY (d:Nat) {t:TypeId} (h:P.underlying t=some (.int .i64)) (a b:Int) (w:World):(Op.equalIn (d+1) t (.int .i64 a) (.int .i64 b)).run P w=.ok (a==b) w:=by
 simp [Op.equalIn,run_underlying h]
theorem qvB {t:TypeId} {f1 f2:Field} {a1 a2 b1 b2:Int} (hu:P.underlying t=some (.struct #[f1,f2])) (n1:f1.name ≠ "_") (n2:f2.name ≠ "_") (o1:f1.offset=0) (o2:f2.offset=1)
  (t1:P.underlying f1.type=some (.int .i64)) (t2:P.underlying f2.type=some (.int .i64)) (hs:P.stoodInHeld t=false) (w:World) :
  (Op.equal t (.agg #[.int .i64 a1,.int .i64 a2]) (.agg #[.int .i64 b1,.int .i64 b2])).run P w=.ok ((a1==b1)&&(a2==b2)) w:=by
 simp only [Op.equal,Op.maxDepth]
 show (Op.equalIn (9998+1+1) t _ _).run P w=_
 have p1:=fun c:Int × Int=>qoJ (P:=P) t1 (cs:=#[.int .i64 c.1,.int .i64 c.2]) (o:=0) (v:=.int .i64 c.1) rfl
 have p2:=fun c:Int × Int=>qoJ (P:=P) t2 (cs:=#[.int .i64 c.1,.int .i64 c.2]) (o:=1) (v:=.int .i64 c.2) rfl
 have q1:=p1 (a1,a2)
 have q2:=p1 (b1,b2)
 have q3:=p2 (a1,a2)
 have q4:=p2 (b1,b2)
 simp only at q1 q2 q3 q4
 rw [Op.equalIn]
 by_cases h1:a1=b1
 ·subst h1
  by_cases h2:a2=b2
  ·subst h2
   simp [run_underlying hu,hs,n1,n2,o1,o2,q1,q3,qeY 9998 t1,qeY 9998 t2]
  ·simp [run_underlying hu,hs,n1,n2,o1,o2,q1,q2,q3,q4,qeY 9998 t1,qeY 9998 t2,h2]
 ·simp [run_underlying hu,hs,n1,n2,o1,o2,q1,q2,q3,q4,qeY 9998 t1,qeY 9998 t2,h1]
theorem qzs {x y:Operand} {t t' d ty:Nat} {ps:String} {af:Array Edge} {g:Option (Nat × Bool)} {f1 f2:Field} {a1 a2 b1 b2:Int} (hu:P.underlying t=some (.struct #[f1,f2])) (hn:((f1.name != "_")&&(f2.name != "_"))=true) (ho:(f1.offset,f2.offset)=(0,1))
  (t1:P.underlying f1.type=some (.int .i64)) (t2:P.underlying f2.type=some (.int .i64)) (hs:P.stoodInHeld t=false) (hg:P.eqGuardType P.depth t=false)
  (hx:opv e x=some (.agg #[.int .i64 a1,.int .i64 a2])) (hy:opv e y=some (.agg #[.int .i64 b1,.int .i64 b2])):Val P n e ⟨some d,.binOp .neq t x y t',ty,ps,af,g⟩ w (.bool (!((a1==b1)&&(a2==b2)))):=by
 intro a ha
 simp only [Prod.mk.injEq] at ho
 simp only [jf,bne_iff_ne] at hn
 have he:=fun w=>qvB (a1:=a1) (a2:=a2) (b1:=b1) (b2:=b2) hu hn.1 hn.2 ho.1 ho.2 t1 t2 hs w
 have hgd:(eqGuard .neq t x y (.agg #[.int .i64 a1,.int .i64 a2]) (.agg #[.int .i64 b1,.int .i64 b2])).run P w=.ok () w:=by
  unfold eqGuard
  simp [hg]
 simp only [execOp,ha.eval hx,ha.eval hy,jj,hgd,jg,binOp,he,jk]
def isI64 (P:Program) (t:TypeId):Bool:=match P.underlying t with
 | some (.int .i64)=>true
 | _=>false
def okI2 (P:Program) (t:TypeId):Bool:=match P.underlying t with
 | some (.struct fs)=>match fs.toList with
  | [f1,f2]=>(f1.name != "_")&&(f2.name != "_")&&Nat.beq f1.offset 0&&Nat.beq f2.offset 1&&isI64 P f1.type&&isI64 P f2.type&&!P.stoodInHeld t&&!P.eqGuardType P.depth t
  | _=>false
 | _=>false
theorem qtF {t:TypeId} (h:isI64 P t=true):P.underlying t=some (.int .i64):=by
 unfold isI64 at h
 split at h
 ·assumption
 ·cases h
theorem qw7 {x y:Operand} {t t' d ty:Nat} {ps:String} {af:Array Edge} {g:Option (Nat × Bool)} {a1 a2 b1 b2:Int} (hk:okI2 P t=true)
  (hx:opv e x=some (.agg #[.int .i64 a1,.int .i64 a2])) (hy:opv e y=some (.agg #[.int .i64 b1,.int .i64 b2])):Val P n e ⟨some d,.binOp .neq t x y t',ty,ps,af,g⟩ w (.bool (!((a1==b1)&&(a2==b2)))):=by
 unfold okI2 at hk
 split at hk
 ·rename_i fs hu
  split at hk
  ·rename_i f1 f2 hf
   have hf':fs=#[f1,f2]:=by rw [←Array.toArray_toList (xs:=fs),hf]
   subst hf'
   simp only [jf,jI] at hk
   obtain ⟨⟨⟨⟨⟨⟨⟨k1,k2⟩,k3⟩,k4⟩,k5⟩,k6⟩,k7⟩,k8⟩:=hk
   exact qzs hu (by simp only [k1,k2,Bool.and_self]) (by rw [Nat.eq_of_beq_eq_true k3,Nat.eq_of_beq_eq_true k4]) (qtF k5) (qtF k6) k7 k8 hx hy
  ·cases hk
 ·cases hk
end
end Go.Fw


namespace Go.Fw
open Go
def xs (T:Tab) (n:Nat):Nat→List (Nat × List Value)→List It→Env→List Nat→List Nat→Option (List It × Env × List Nat × List Nat)
 | 0,_,k,e,x,y=>some (k,e,x,y)
 | m+1,bs,k,e,x,y=>match k with
  | .code (.seq a b)::k=>xs T n m bs (.code a::.code b::k) e x y
  | .code .skip::k=>xs T n m bs k e x y
  | .code (.block i c)::k=>xs T n m bs (.code c::.blk i::k) e x y
  | .code (.region _ a false)::k=>xs T n m bs (.ops a a.toList::k) e x y
  | .blk _::k=>xs T n m bs k e x y
  | .ops _ []::k=>xs T n m bs k e x y
  | .ops all (⟨some d,op,_,_,_,none⟩::l)::k=>match Nat.blt d n with
   | true=>match op with
    | .load t p=>match opv e p,T.get t,bs with
     | some (.pointer (some ⟨b,o,none⟩)),some te,(b',cs)::bs'=>match ld te cs o with
      | some v=>xs T n m bs' (.ops all l::k) ((d,v)::e) (b::x) (b'::y)
      | none=>none
     | _,_,_=>none
    | op=>match pev T e op with
     | some v=>xs T n m bs (.ops all l::k) ((d,v)::e) x y
     | none=>none
   | false=>none
  | .ops all (⟨dst,op,ty,ps,af,some g⟩::l)::k=>match guardU e all ⟨dst,op,ty,ps,af,some g⟩ with
   | true=>match dst with
    | some d=>match Nat.blt d n with
     | true=>xs T n m bs (.ops all l::k) ((d,undef)::e) x y
     | false=>none
    | none=>none
   | false=>match guardOf e all ⟨dst,op,ty,ps,af,some g⟩ with
    | some true=>xs T n m bs (.ops all (⟨dst,op,ty,ps,af,none⟩::l)::k) e x y
    | some false=>match dst with
     | some d=>match Nat.blt d n with
      | true=>xs T n m bs (.ops all l::k) ((d,undef)::e) x y
      | false=>none
     | none=>none
    | none=>none
  | _=>none
def xd (T:Tab) (n:Nat) (all:Array Oper):Nat→List (Nat × List Value)→List Oper→Env→List Nat→List Nat→Option (List Oper × Env × List Nat × List Nat)
 | 0,_,k,e,x,y=>some (k,e,x,y)
 | m+1,bs,k,e,x,y=>match k with
  | ⟨some d,op,_,_,_,none⟩::l=>match Nat.blt d n with
   | true=>match op with
    | .load t p=>match opv e p,T.get t,bs with
     | some (.pointer (some ⟨b,o,none⟩)),some te,(b',cs)::bs'=>match ld te cs o with
      | some v=>xd T n all m bs' l ((d,v)::e) (b::x) (b'::y)
      | none=>none
     | _,_,_=>none
    | op=>match pev T e op with
     | some v=>xd T n all m bs l ((d,v)::e) x y
     | none=>none
   | false=>none
  | ⟨dst,op,ty,ps,af,some g⟩::l=>match guardU e all ⟨dst,op,ty,ps,af,some g⟩ with
   | true=>match dst with
    | some d=>match Nat.blt d n with
     | true=>xd T n all m bs l ((d,undef)::e) x y
     | false=>none
    | none=>none
   | false=>match guardOf e all ⟨dst,op,ty,ps,af,some g⟩ with
    | some true=>xd T n all m bs (⟨dst,op,ty,ps,af,none⟩::l) e x y
    | some false=>match dst with
     | some d=>match Nat.blt d n with
      | true=>xd T n all m bs l ((d,undef)::e) x y
      | false=>none
     | none=>none
    | none=>none
  | _=>none
section
variable {P:Program} {T:Tab} {n:Nat} {Q:Exit→Act→World→Prop} {k:List It} {e:Env} {w0 w:World} {L:List Ch}
theorem qtK (hT:TabOk P T):∀ (m:Nat) (bs:List (Nat × List Value)) (k:List It) (e:Env) (x y:List Nat) (k':List It) (e':Env) (x' y':List Nat),(∀ p ∈ bs,CellsAt w p.1 0 p.2)→x.length=y.length →
  xs T n m bs k e x y=some (k',e',x',y')→x'.length=y'.length∧(x'=y'→x=y∧(Run P n Q k' e' w→Run P n Q k e w)):=by
 intro m
 induction m with
 | zero =>
  intro bs k e x y k' e' x' y' _ hl h
  simp only [xs,Option.some.injEq,Prod.mk.injEq] at h
  obtain ⟨rfl,rfl,rfl,rfl⟩:=h
  exact ⟨hl,fun hh=>⟨hh,id⟩⟩
 | succ m ih =>
  intro bs k e x y k' e' x' y' hb hl h
  unfold xs at h
  split at h
  ·obtain ⟨h1,h2⟩:=ih _ _ _ _ _ _ _ _ _ hb hl h
   exact ⟨h1,fun hh=>⟨(h2 hh).1,fun hk=>qcX ((h2 hh).2 hk)⟩⟩
  ·obtain ⟨h1,h2⟩:=ih _ _ _ _ _ _ _ _ _ hb hl h
   exact ⟨h1,fun hh=>⟨(h2 hh).1,fun hk=>qih ((h2 hh).2 hk)⟩⟩
  ·obtain ⟨h1,h2⟩:=ih _ _ _ _ _ _ _ _ _ hb hl h
   exact ⟨h1,fun hh=>⟨(h2 hh).1,fun hk=>qm ((h2 hh).2 hk)⟩⟩
  ·obtain ⟨h1,h2⟩:=ih _ _ _ _ _ _ _ _ _ hb hl h
   exact ⟨h1,fun hh=>⟨(h2 hh).1,fun hk=>ql9 ((h2 hh).2 hk)⟩⟩
  ·obtain ⟨h1,h2⟩:=ih _ _ _ _ _ _ _ _ _ hb hl h
   exact ⟨h1,fun hh=>⟨(h2 hh).1,fun hk=>qz3 ((h2 hh).2 hk)⟩⟩
  ·obtain ⟨h1,h2⟩:=ih _ _ _ _ _ _ _ _ _ hb hl h
   exact ⟨h1,fun hh=>⟨(h2 hh).1,fun hk=>qcP ((h2 hh).2 hk)⟩⟩
  ·split at h
   ·rename_i hn
    split at h
    ·split at h
     ·rename_i hx hte
      split at h
      ·rename_i v hv
       have hb':=fun p hp=>hb p (jo _ hp)
       obtain ⟨h1,h2⟩:=ih _ _ _ _ _ _ _ _ _ hb' (by simp [hl]) h
       refine ⟨h1,fun hh=>?_⟩
       obtain ⟨h3,h4⟩:=h2 hh
       obtain ⟨rfl,rfl⟩:=List.cons.inj h3
       exact ⟨rfl,fun hk=>r_v (qjW hT (hb _ (jy ..)) (by rw [Ja];exact hx) hte hv) hn (h4 hk)⟩
      ·cases h
     ·cases h
    ·split at h
     ·rename_i v hv
      obtain ⟨h1,h2⟩:=ih _ _ _ _ _ _ _ _ _ hb hl h
      exact ⟨h1,fun hh=>⟨(h2 hh).1,fun hk=>r_v (v_p hT hv w) hn ((h2 hh).2 hk)⟩⟩
     ·cases h
   ·cases h
  ·split at h
   ·rename_i hg
    split at h
    ·split at h
     ·rename_i hn
      obtain ⟨h1,h2⟩:=ih _ _ _ _ _ _ _ _ _ hb hl h
      exact ⟨h1,fun hh=>⟨(h2 hh).1,fun hk=>qzc (by unfold notW;rw [hg];rfl) rfl hn ((h2 hh).2 hk)⟩⟩
     ·cases h
    ·cases h
   ·split at h
    ·rename_i hg
     obtain ⟨h1,h2⟩:=ih _ _ _ _ _ _ _ _ _ hb hl h
     exact ⟨h1,fun hh=>⟨(h2 hh).1,fun hk=>qxo hg ((h2 hh).2 hk)⟩⟩
    ·rename_i hg
     split at h
     ·split at h
      ·rename_i hn
       obtain ⟨h1,h2⟩:=ih _ _ _ _ _ _ _ _ _ hb hl h
       exact ⟨h1,fun hh=>⟨(h2 hh).1,fun hk=>qzc (by unfold notW;rw [hg,Bool.or_true]) rfl hn ((h2 hh).2 hk)⟩⟩
      ·cases h
     ·cases h
    ·cases h
  ·cases h
theorem qzj (hT:TabOk P T) {all:Array Oper}:∀ (m:Nat) (bs:List (Nat × List Value)) (l:List Oper) (e:Env) (x y:List Nat) (l':List Oper) (e':Env) (x' y':List Nat),(∀ p ∈ bs,CellsAt w p.1 0 p.2)→x.length=y.length →
  xd T n all m bs l e x y=some (l',e',x',y')→x'.length=y'.length∧(x'=y'→x=y∧(RunD P n Q k all w l' e'→RunD P n Q k all w l e)):=by
 intro m
 induction m with
 | zero =>
  intro bs l e x y l' e' x' y' _ hl h
  simp only [xd,Option.some.injEq,Prod.mk.injEq] at h
  obtain ⟨rfl,rfl,rfl,rfl⟩:=h
  exact ⟨hl,fun hh=>⟨hh,id⟩⟩
 | succ m ih =>
  intro bs l e x y l' e' x' y' hb hl h
  unfold xd at h
  split at h
  ·split at h
   ·rename_i hn
    split at h
    ·split at h
     ·rename_i hx hte
      split at h
      ·rename_i v hv
       have hb':=fun p hp=>hb p (jo _ hp)
       obtain ⟨h1,h2⟩:=ih _ _ _ _ _ _ _ _ _ hb' (by simp [hl]) h
       refine ⟨h1,fun hh=>?_⟩
       obtain ⟨h3,h4⟩:=h2 hh
       obtain ⟨rfl,rfl⟩:=List.cons.inj h3
       exact ⟨rfl,fun hk=>d_v (fun w' hw=>qjW hT ((hb _ (jy ..)).below hw) (by rw [Ja];exact hx) hte hv) hn (h4 hk)⟩
      ·cases h
     ·cases h
    ·split at h
     ·rename_i v hv
      obtain ⟨h1,h2⟩:=ih _ _ _ _ _ _ _ _ _ hb hl h
      exact ⟨h1,fun hh=>⟨(h2 hh).1,fun hk=>d_v (fun w' _=>v_p hT hv w') hn ((h2 hh).2 hk)⟩⟩
     ·cases h
   ·cases h
  ·split at h
   ·rename_i hg
    split at h
    ·split at h
     ·rename_i hn
      obtain ⟨h1,h2⟩:=ih _ _ _ _ _ _ _ _ _ hb hl h
      exact ⟨h1,fun hh=>⟨(h2 hh).1,fun hk=>qzd (by unfold notW;rw [hg];rfl) rfl hn ((h2 hh).2 hk)⟩⟩
     ·cases h
    ·cases h
   ·split at h
    ·rename_i hg
     obtain ⟨h1,h2⟩:=ih _ _ _ _ _ _ _ _ _ hb hl h
     exact ⟨h1,fun hh=>⟨(h2 hh).1,fun hk=>qxQ hg ((h2 hh).2 hk)⟩⟩
    ·rename_i hg
     split at h
     ·split at h
      ·rename_i hn
       obtain ⟨h1,h2⟩:=ih _ _ _ _ _ _ _ _ _ hb hl h
       exact ⟨h1,fun hh=>⟨(h2 hh).1,fun hk=>qzd (by unfold notW;rw [hg,Bool.or_true]) rfl hn ((h2 hh).2 hk)⟩⟩
      ·cases h
     ·cases h
    ·cases h
  ·cases h
end
def bits (m K:Nat):Array Bool:=((List.range m).map fun i=>K.testBit i).toArray
theorem qwH {m:Nat}:Array.replicate m false=bits m 0:=by
 unfold bits
 apply Array.ext'
 simp only [Nat.zero_testBit,Array.toList_replicate]
 exact jZ (by simp) (by simp)
def xa (T:Tab) (n:Nat) (ops:Array Oper):List Nat→List (Nat × List Value)→Nat→Env→List Nat→List Nat→Option (Nat × Env × List Nat × List Nat)
 | [],_,f,e,x,y=>some (f,e,x,y)
 | i::is,bs,f,e,x,y=>match f with
  | 0=>none
  | f+1=>match ops[i]? with
   | some ⟨some d,op,_,_,_,none⟩=>match Nat.blt d n with
    | true=>match op with
     | .load t p=>match opv e p,T.get t,bs with
      | some (.pointer (some ⟨b,o,none⟩)),some te,(b',cs)::bs'=>match ld te cs o with
       | some v=>xa T n ops is bs' f ((d,v)::e) (b::x) (b'::y)
       | none=>none
      | _,_,_=>none
     | op=>match pev T e op with
      | some v=>xa T n ops is bs f ((d,v)::e) x y
      | none=>none
    | false=>none
   | _=>none
def oka (ops:Array Oper) (st:List Nat):List Nat→Array Bool→Array Bool→Bool
 | [],l,l'=>l==l'
 | i::is,l,l'=>(Region.noSelect ops&&Region.free .any ops l i&&(Region.ready .any ops l).contains i&&st.all (fun s=>!(Nat.beq s i)&&waitsB ops i s&&!(l.getD s true)))&&oka ops st is (l.setIfInBounds i true) l'
section
variable {P:Program} {T:Tab} {n:Nat} {fnc:Func} {R:Ending→World→Prop} {k:List It} {e:Env} {w0 w:World} {ops:Array Oper} {st:List Nat} {C:World→Prop}
theorem que (hT:TabOk P T) (hC:C w):∀ (is:List Nat) (bs:List (Nat × List Value)) (f:Nat) (e:Env) (x y:List Nat) (f':Nat) (e':Env) (x' y':List Nat) (l l':Array Bool),(∀ p ∈ bs,∀ w',C w'→CellsAt w' p.1 0 p.2)→x.length=y.length →
  xa T n ops is bs f e x y=some (f',e',x',y')→oka ops st is l l'=true→x'.length=y'.length∧(x'=y'→x=y∧(RunA P n (bodyPost P fnc R) k ops st C f' l' e' w→RunA P n (bodyPost P fnc R) k ops st C f l e w)):=by
 intro is
 induction is with
 | nil =>
  intro bs f e x y f' e' x' y' l l' _ hl h ho
  simp only [xa,Option.some.injEq,Prod.mk.injEq] at h
  obtain ⟨rfl,rfl,rfl,rfl⟩:=h
  obtain rfl:=eq_of_beq ho
  exact ⟨hl,fun hh=>⟨hh,id⟩⟩
 | cons i is ih =>
  intro bs f e x y f' e' x' y' l l' hb hl h ho
  unfold oka at ho
  rw [jf] at ho
  obtain ⟨ho1,ho2⟩:=ho
  unfold xa at h
  split at h
  ·cases h
  ·split at h
   ·rename_i hi
    split at h
    ·rename_i hn
     split at h
     ·split at h
      ·rename_i hx hte
       split at h
       ·rename_i v hv
        have hb':=fun p hp=>hb p (jo _ hp)
        obtain ⟨h1,h2⟩:=ih _ _ _ _ _ _ _ _ _ _ _ hb' (by simp [hl]) h ho2
        refine ⟨h1,fun hh=>?_⟩
        obtain ⟨h3,h4⟩:=h2 hh
        obtain ⟨rfl,rfl⟩:=List.cons.inj h3
        exact ⟨rfl,fun hk=>qj9 i hi _ rfl ho1 (fun w' hw'=>qjW hT (hb _ (jy ..) w' hw') (by rw [Ja];exact hx) hte hv) hC hn (h4 hk)⟩
       ·cases h
      ·cases h
     ·split at h
      ·rename_i v hv
       obtain ⟨h1,h2⟩:=ih _ _ _ _ _ _ _ _ _ _ _ hb hl h ho2
       exact ⟨h1,fun hh=>⟨(h2 hh).1,fun hk=>qj9 i hi _ rfl ho1 (fun w' _=>v_p hT hv w') hC hn ((h2 hh).2 hk)⟩⟩
      ·cases h
    ·cases h
   ·cases h
end
def gets (e:Env):Env→Option Env
 | []=>some []
 | p::l=>match e.get p.1,gets e l with
  | some v,some r=>some ((p.1,v)::r)
  | _,_=>none
theorem qqQ {e:Env}:∀ {e':Env},gets e e'=some e'→subEnv e e'
 | [],_=>trivial
 | p::l,h=>by
  unfold gets at h
  split at h
  ·rename_i v r hv hr
   have h:=List.cons.inj (Option.some.inj h)
   refine ⟨?_,qqQ (by rw [hr,h.2])⟩
   rw [hv,←h.1]
  ·cases h
def pickN (L:List Ch):List Nat→Option (List Ch)
 | []=>some []
 | i::is=>match L[i]?,pickN L is with
  | some c,some l=>some (c::l)
  | _,_=>none
def setN:List Ch→Nat→Ch→Option (List Ch)
 | [],_,_=>some []
 | _::l,0,c=>some (c::l)
 | a::l,i+1,c=>match setN l i c with
  | some r=>some (a::r)
  | none=>none
theorem qvQ:∀ {L:List Ch} {i:Nat} {c:Ch} {L':List Ch},setN L i c=some L'→L.set i c=L'
 | [],_,_,_,h=>by simpa [setN] using h
 | _::_,0,_,_,h=>by simpa [setN] using h
 | a::l,i+1,c,L',h=>by
  unfold setN at h
  split at h
  ·rename_i r hr
   rw [List.set_cons_succ,qvQ hr]
   exact Option.some.inj h
  ·cases h
def splN:List Value→Nat→List Value→Option (List Value)
 | cs,0,[]=>some cs
 | [],_,_=>none
 | _::cs,0,u::us=>match splN cs 0 us with
  | some r=>some (u::r)
  | none=>none
 | c::cs,j+1,us=>match splN cs j us with
  | some r=>some (c::r)
  | none=>none
theorem qta:∀ {cs:List Value} {j:Nat} {us r:List Value},splN cs j us=some r→splice cs j us=r
 | cs,0,[],r,h=>by
  have h:cs=r:=by cases cs<;>simpa [splN] using h
  subst h;simp [splice]
 | [],0,_::_,_,h=>by simp [splN] at h
 | [],_+1,_,_,h=>by simp [splN] at h
 | c::cs,0,u::us,r,h=>by
  unfold splN at h
  split at h
  ·rename_i q hq
   have:=qta hq
   obtain rfl:=Option.some.inj h
   rw [←this]
   simp [splice]
  ·cases h
 | c::cs,j+1,us,r,h=>by
  unfold splN at h
  split at h
  ·rename_i q hq
   have:=qta hq
   obtain rfl:=Option.some.inj h
   rw [←this]
   simp [splice,Nat.add_right_comm]
  ·cases h
section
variable {P:Program} {T:Tab} {n:Nat} {Q:Exit→Act→World→Prop} {k:List It} {e:Env} {w0 w:World} {L:List Ch} {all:Array Oper}
theorem dN (h:SH w0 w L) (hk:∀ w',SH w0 w' L→Run P n Q k e w'):RunD P n Q k all w [] e:=qzU fun w' hb=>hk w' (h.ext hb)
theorem rK {Inv:Nat→Env→World→Prop} {m:Nat} {e':Env} (h:Inv m e' w) (hs:gets e e'=some e'):Run P n Q (.goal (Back n Inv (m+1))::k) e w:=qzI m e' (Nat.lt_succ_self m) (qqQ hs) h
theorem rG {J:Env→World→Prop} {e':Env} (h:J e' w) (hs:gets e e'=some e'):Run P n Q (.goal (CutJ n J)::k) e w:=qwk e' (qqQ hs) h
theorem rL {b:Code} (Inv:Nat→Env→World→Prop) (m:Nat) {e':Env} (h:Inv m e' w) (hs:gets e e'=some e') (round:∀ m e w,Inv m e w→Run P n Q (.code b::.goal (Back n Inv m)::k) e w):Run P n Q (.code (.loop b)::k) e w :=
 qzX e' (qqQ hs) (qzA Inv m h round)
theorem rA {id:Nat} {ops:List Oper} (st is:List Nat) {m:Nat} {L':List Ch} (h:SH w0 w L) (hh:(pickN L is,ops.length,P.follows .mixedOrders)=(some L',m,true))
  (hk:∀ w',SH w0 w' L→RunA P n Q k ops.toArray st (fun w'=>SH w0 w' L') m (bits m 0) e w'):Run P n Q (.code (.region id ops.toArray true)::k) e w:=by
 simp only [Prod.mk.injEq] at hh
 exact qz2 st _ hh.2.2 m (by simpa using hh.2.1) _ qwH fun w' hb=>hk w' (h.ext hb)
theorem Ag {ops:Array Oper} {st:List Nat} {C:World→Prop} {fuel:Nat} {listed:Array Bool} {all:Array Oper} (hC:C w) (h:RunA P n Q k ops st C fuel listed e w):Run P n Q (.ops all []::.goal (NextA P n Q k ops st C fuel listed)::k) e w:=qbB (fun _=>hC) h
theorem Ao {ops:Array Oper} {st:List Nat} {C:World→Prop} {fuel:Nat} (i K:Nat) {m K0:Nat} {o:Oper} (hi:ops[i]?=some o) (h:Run P n Q (.ops ops [o]::.goal (NextA P n Q k ops st C fuel (bits m K))::k) e w)
  (hl:(bits m K0).setIfInBounds i true=bits m K:=by kernel_rfl) (hr:Region.ready .any ops (bits m K0)=[i]:=by kernel_rfl):RunA P n Q k ops st C (fuel+1) (bits m K0) e w:=qzq i hi _ hl hr h
theorem Ad {ops:Array Oper} {st:List Nat} {C:World→Prop} {listed:Array Bool} (h:Run P n Q k e w) (hr:Region.ready .any ops listed=[]:=by kernel_rfl):RunA P n Q k ops st C 0 listed e w:=qzE hr h
theorem At {ops:Array Oper} {st:List Nat} {C:World→Prop} {fuel:Nat} (i j K K':Nat) {m K0:Nat} {o o':Oper} (hh:(ops[i]?,ops[j]?)=(some o,some o')) (h1:Run P n Q (.ops ops [o]::.goal (NextA P n Q k ops st C fuel (bits m K))::k) e w)
  (h2:Run P n Q (.ops ops [o']::.goal (NextA P n Q k ops st C fuel (bits m K'))::k) e w) (hl1:(bits m K0).setIfInBounds i true=bits m K:=by kernel_rfl) (hl2:(bits m K0).setIfInBounds j true=bits m K':=by kernel_rfl)
  (hr:Region.ready .any ops (bits m K0)=[i,j]:=by kernel_rfl):RunA P n Q k ops st C (fuel+1) (bits m K0) e w:=by
 simp only [Prod.mk.injEq] at hh
 exact qzW i j hh.1 hh.2 _ _ hl1 hl2 hr h1 h2
theorem rD {id:Nat} {ops:List Oper} (h:RunD P n Q k ops.toArray w ops e) (hm:P.follows .mixedOrders=true:=by rfl) (hB:Region.lexB .any ops.toArray=true:=by kernel_rfl):Run P n Q (.code (.region id ops.toArray true)::k) e w:=qzt hm hB h
end
section
variable {w:World} {S:Nat→Prop}
theorem pR {α β:Type} {A:GoT α} {B:GoT β} {x:α} {y:β} {c d:List Value} (h1:A.R w S x c) (h2:B.R w S y d):(pairT A B).R w S (x,y) (c++d):=⟨c,d,rfl,h1,h2⟩
theorem rI (x:Int):GoT.R w S x [.int .i64 x]:=rfl
theorem rB (x:Bool):GoT.R w S x [.bool x]:=rfl
theorem rT (x:ByteArray):GoT.R w S x [.string x]:=rfl
theorem rS {α:Type} [GoT α] {xs:List α} {p:Option Addr} {c:Nat} (s:SlR w S xs p c):GoT.R w S xs [.slice p xs.length c]:=⟨p,c,rfl,s⟩
end
def callB (P:Program) (f:FuncId):Bool:=match P.funcs[f]? with
 | some fn=>fn.body.isSome&&!(fn.name== "runtime.NumGoroutine")
 | none=>false
theorem qx9 {P:Program} {f:FuncId} (h:callB P f=true):qfI P f:=by
 unfold callB at h
 split at h
 ·rename_i fn hf
  rw [jf,jI] at h
  exact ⟨fn,hf,h.1,h.2⟩
 ·cases h
def res1 (e:Env):List ResultVar→Option Value
 | [.tmp t]=>e.get t
 | _=>none
theorem qvL {T:Tab} {e:Env} {w:World} {rs:List ResultVar} {v:Value} (h:res1 e rs=some v):ResOk T e w rs [v]:=by
 unfold res1 at h
 split at h
 ·exact ⟨h,trivial⟩
 ·cases h
end Go.Fw
