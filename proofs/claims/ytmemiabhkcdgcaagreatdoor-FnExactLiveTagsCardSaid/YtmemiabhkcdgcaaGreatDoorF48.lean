/- The law of the tags at one place. -/
import Derived.Test.YtmemiabhkcdgcaaGreatDoorVL
open Option renaming bind_some → je, map_some → jV
open Nat renaming le_refl → jf, le_of_ble_eq_true → jt, mul_le_mul_right → ju, lt_of_lt_of_le → jz, zero_le → jG, succ_mul → jP, le_trans → jS, add_zero → jY, zero_add → Ji
open List renaming getElem?_eq_getElem → jg, mem_cons_of_mem → jm, mem_cons_self → jn, length_append → jo, getElem_mem → jp, getElem?_append_left → jq, getElem?_take → jr, take_succ_eq_append_getElem → js, length_singleton → jw, getElem?_append_right → jy, mem_of_getElem? → jA, getElem?_drop → jB, take_length → jC, drop_eq_getElem_cons → jD, eq_nil_of_length_eq_zero → jE, getElem?_toArray → jF, map_append → jH, getElem_of_mem → jI, getD_eq_getElem?_getD → jK, getElem?_cons_succ → jL, append_nil → jM, length_map → jN, size_toArray → jQ, mem_append_left → jR, range_succ → jT, map_cons → jU, all_eq_true → jW, length_cons → jZ, drop_eq_nil_of_le → Ja, length_take → Jb, ext_getElem → Jc, append_assoc → Jd, length_filter_le → Je, getElem?_set_ne → Jf, not_mem_nil → Jg, mem_cons → Jh
open Go.Result renaming andThen_ok → jh
open Bool renaming and_eq_true → ji, eq_iff_iff → jk, true_and → jJ, not_eq_true' → jO, not_true → Jj, false_or → Jk
open Go.Sem renaming run_bind → jj, run_pure → jl
open Int renaming toNat_natCast → jx
open Array renaming getElem?_append_left → jX

namespace Go.Fw
open Go
set_option maxRecDepth 100000
theorem qti {m l:Nat} {xs:List (List Int)} (h:xs.length≤m) (ht:∀ t,t ∈ xs→qab t≤l):qeg xs≤m+m*l:=by
 have:∀ {ys:List (List Int)},(∀ t,t ∈ ys→qab t≤l)→(ys.map fun x=>qab x).sum≤ys.length*l:=by
  intro ys
  induction ys with
  | nil=>intro _;simp
  | cons y ys ih =>
   intro h
   have h1:=h y (jn ..)
   have h2:=ih fun t ht=>h t (jm _ ht)
   simp only [jU,List.sum_cons,jZ,Nat.add_mul]
   omega
 have h1:=this ht
 have h2:=ju l h
 unfold qeg
 omega
theorem tagsW {b:qg} {es:List qa} {p:Int} {xs:List (List Int)} (h0:codeP b es p=0) (hl:xs.length≤64) (h:∀ t,t ∈ xs→TgA b es p.toNat t):qeg xs≤1048576:=by
 have hel:=(qij (qjK h0)).2.1
 refine jS (qti hl (l:=100) fun t ht=>?_) (by omega)
 have:=qlf (h t ht)
 simp only [qab];omega
theorem qrz:qeg []≤1048576:=by simp [qeg]
def vecG {α:Type} (f:Nat→α) (m:Nat):List α:=(List.range m).map f
theorem qr3 {α:Type} {f:Nat→α} {m:Nat}:(vecG f m).length=m:=by simp [vecG]
theorem qr4 {α:Type} {f:Nat→α} {m k:Nat} (h:k<m):idx (vecG f m) (k:Int)=some (f k):=by
 rw [qaW (by rw [qr3];exact h)]
 simp [vecG]
theorem qsX {α:Type} {f g:Nat→α} {m:Nat} (h:∀ k,k<m→f k=g k):vecG f m=vecG g m:=by
 unfold vecG
 exact List.map_congr_left (fun k hk=>h k (List.mem_range.1 hk))
theorem qwc {α:Type} {f:Nat→α} {m k:Nat} {v:α}:setS (vecG f m) (k:Int) v=vecG (fun i=>if i=k then v else f i) m:=by
 unfold setS
 refine Jc (by simp [vecG]) (fun i h1 h2=>?_)
 rw [List.getElem_set]
 simp only [vecG,List.getElem_map,List.getElem_range,jx]
 by_cases e:k=i
 ·rw [if_pos e,if_pos e.symm]
 ·rw [if_neg e,if_neg (fun h=>e h.symm)]
def offL (a:List (List Int)) (s:Nat):Nat:=((a.take s).map List.length).sum
theorem qnP {a:List (List Int)} {s:Nat} (h:s<a.length):offL a (s+1)=offL a s+(gt a s).length:=by
 have e:gt a s=a[s]:=by have:=qS h;rw [qaW h] at this;exact (Option.some.inj this).symm
 unfold offL
 rw [js h,jH,List.sum_append,e]
 simp
theorem qo2 {a:List (List Int)} {s:Nat}:offL a s+a.length≤qeg a:=by
 have e:(a.map fun x=>qab x).sum=offL a s+((a.drop s).map List.length).sum:=by
  unfold offL
  rw [←List.sum_append,←jH,List.take_append_drop]
  rfl
 unfold qeg
 omega
theorem quU {a:List (List Int)}:vecG (fun i=>gt a i) a.length=a:=by
 refine Jc (by simp [vecG]) (fun i h1 h2=>?_)
 have:=qS h2
 rw [qaW h2] at this
 simp only [vecG,List.getElem_map,List.getElem_range]
 exact (Option.some.inj this).symm
def markS (a:List (List Int)) (k:Int) (s:Nat):List (List Int):=vecG (fun i=>if i<s then marked (k+(offL a i:Int)) (gt a i).length else gt a i) a.length
theorem qtk {a:List (List Int)} {k:Int} (h0:0≤k) (h1:k≤900000000000) (hw:qeg a≤1048576):∃ z y,Ev (fun n=>qgG n a k) (z,y)∧Ev (fun n=>qfh n y k) z∧(k≤z∧z≤k+16777216):=by
 have hl:=qo2 (a:=a) (s:=a.length)
 have hlen:∀ s,s<a.length→(gt a s).length≤1048576:=fun s hs=>by
  have h2:=qo2 (a:=a) (s:=s+1)
  rw [qnP hs] at h2
  omega
 refine ⟨k+(offL a a.length:Int),markS a k a.length,?_,?_,by omega,by omega⟩
 ·have:=loopF (Lf:=fun n (t:List (List Int) × Int) i=>qcL a n t.1 t.2 i) (S:=fun s=>(markS a k s,k+(offL a s:Int))) (len:=a.length) (fin:=(markS a k a.length,k+(offL a a.length:Int),(a.length:Int))) (fun n=>?_) (fun s hs X hX=>?_)
  ·unfold qgG
   have e0:markS a k 0=a:=by unfold markS;simp only [Nat.not_lt_zero,if_false];exact quU
   have e1:k+(offL a 0:Int)=k:=by simp [offL]
   simp only [e0,e1] at this
   exact Ev.bind this .done
  ·simp only [qcL,qh (jf _),cond_false]
  ·have h2:=qo2 (a:=a) (s:=s)
   have ei:idx (markS a k s) (s:Int)=some (gt a s):=by
    unfold markS
    rw [qr4 hs,if_neg (Nat.lt_irrefl _)]
   simp only [qcL,qe hs,cond_true,ei,je,wS s]
   refine Ev.bind (qpG (by omega) (by omega) (hlen s hs)) ?_
   have es:setS (markS a k s) (s:Int) (marked (k+(offL a s:Int)) (gt a s).length)=markS a k (s+1):=by
    unfold markS
    rw [qwc]
    refine qsX fun i _=>?_
    by_cases e:i=s
    ·subst e;rw [if_pos rfl,if_pos (by omega)]
    ·rw [if_neg e]
     by_cases e2:i<s
     ·rw [if_pos e2,if_pos (by omega)]
     ·rw [if_neg e2,if_neg (by omega)]
   have eo:k+(offL a s:Int)+((gt a s).length:Int)=k+(offL a (s+1):Int):=by rw [qnP hs];omega
   rw [eo,es]
   exact hX
 ·have hm:(markS a k a.length).length=a.length:=qr3
  have:=loopF (Lf:=fun n (t:Int) i=>qcH (markS a k a.length) n t i) (S:=fun s=>k+(offL a s:Int)) (len:=a.length) (fin:=.nxt (k+(offL a a.length:Int),(a.length:Int))) (fun n=>?_) (fun s hs X hX=>?_)
  ·unfold qfh
   have e1:k+(offL a 0:Int)=k:=by simp [offL]
   simp only [e1] at this
   exact Ev.bind this .done
  ·simp only [qcH,hm,qh (jf _),cond_false]
  ·have h2:=qo2 (a:=a) (s:=s)
   have ei:idx (markS a k a.length) (s:Int)=some (marked (k+(offL a s:Int)) (gt a s).length):=by
    unfold markS
    rw [qr4 hs,if_pos hs]
   have eo:k+(offL a s:Int)+((gt a s).length:Int)=k+(offL a (s+1):Int):=by rw [qnP hs];omega
   simp only [qcH,hm,qe hs,cond_true,ei,je,wS s]
   refine Ev.bind (qwi (by omega) (by omega) (hlen s hs)) (Ev.ff (decide_eq_false (by omega)) ?_)
   rw [eo]
   exact hX
end Go.Fw


namespace Go.Fw
open Go
set_option maxRecDepth 100000
theorem qvY {b:qg} {es:List qa} {tag:List Int} {p:Int} (hes:okL qQ es) (ht:tag.length=es.length) (hx:es.all (excB b)=true):Ev (fun n=>qgw n es tag p) (effE (selE es (fun i=>matT (gt es i) (at0 tag i) p) es.length)):=by
 have hl:=hes.len
 have hL:Ev (fun n=>qbY es tag p n ([]:List Bool) 0) (pre (fun i=>matT (gt es i) (at0 tag i) p) es.length,(es.length:Int)):=by
  refine loopF (Lf:=qbY es tag p) (S:=pre fun i=>matT (gt es i) (at0 tag i) p) (len:=es.length) (fun n=>?_) (fun j hj X hX=>?_)
  ·simp only [qbY,qh (jf _),cond_false]
  ·have hap:=qq9 (f:=fun i=>matT (gt es i) (at0 tag i) p) (show j≤1048576 by omega)
   simp only [qbY,qe hj,cond_true,qS hj,qbm (show j<tag.length by omega),je,wS j]
   refine Ev.bind (b:=toB (gt es j) p) ?_ ?_
   ·unfold toB
    by_cases h0:(gt es j).To.length=0
    ·exact Ev.tt (by simp [h0]) (Ev.now (by rw [decide_eq_true h0];rfl))
    ·refine Ev.ff (by rw [Bool.eq_false_iff,Ne,beq_iff_eq];omega) ?_
     rw [decide_eq_false h0,Jk]
     exact Ev.bind (qqB (qh4 hes hj).To.len) (Ev.now (by rw [qig];rfl))
   ·simp only [matT] at hap
    cases h3:toB (gt es j) p
    ·simp only [h3,Bool.and_false] at hap
     exact Ev.ff rfl (Ev.bindN hap hX)
    ·simp only [h3,Bool.and_true] at hap
     exact Ev.tt rfl (Ev.bindN hap hX)
 unfold qgw
 exact Ev.bind hL (Ev.bind (qtq (b:=b) hl hx) .done)
end Go.Fw


namespace Go.Fw
open Go
set_option maxRecDepth 100000
theorem qsU {f:Nat→List Int→Option qap} {g:List Int→qap}:∀ {xs:List (List Int)},(∀ t,t ∈ xs→Ev (fun n=>f n t) (g t))→Ev (fun n=>fltF (f n) xs) (xs.filter fun t=>!(g t).Bm)
 | [],_=>Ev.done
 | t::xs,h=>by
  show Ev (fun n=>(f n t).bind fun e=>(fltF (f n) xs).bind fun q=>some (bif e.Bm then q else t::q)) _
  refine Ev.bind (h t (jn ..)) (Ev.bind (qsU fun u hu=>h u (jm _ hu)) (Ev.now ?_))
  rw [List.filter_cons]
  cases (g t).Bm<;>rfl
theorem qqV {b:qg} {es:List qa} {p:Int} (hok:qb6 b) (hes:okL qQ es) {R:List (List Int) × Int} (hs:Ev (fun n=>qiT n b es p) R) (hi:Ev (fun n=>qiN n b es p) R)
  (hx:(codeP b es p=0∧R.2=0∧R.1.length≤64∧∀ t,t ∈ R.1↔TgA b es p.toNat t)∨(R.1=[]∧R.2 ≠ 0)) :
  ∃ Q:List (List Int) × Int,Ev (fun n=>qf9 n b es p) Q∧Ev (fun n=>qe2 n b es p) Q∧Q.1.length≤R.1.length∧(∀ t,t ∈ Q.1→t ∈ R.1)∧Q.2=R.2:=by
 obtain ⟨xs,c⟩:=R
 unfold qf9 qe2
 rcases hx with ⟨h0,h1,h2,h3⟩|⟨h1,h2⟩
 ·obtain rfl:c=0:=h1
  have h2:xs.length≤64:=h2
  have hex:=(qij (qjK h0)).2.2
  have hel:=(qij (qjK h0)).2.1
  have hlen:∀ t,t ∈ xs→t.length=es.length:=fun t ht=>qlf ((h3 t).1 ht)
  have hd:decide (xs.length≤1000000)=true:=decide_eq_true (by omega)
  exact ⟨(xs.filter fun t=>!(effE (selE es (fun i=>matT (gt es i) (at0 t i) p) es.length)).Bm,0),Ev.bind hs (Ev.ff rfl (Ev.tt hd (Ev.bind (qsU fun t ht=>qvY hes (hlen t ht) hex) .done))),Ev.bind hi (Ev.tt hd (Ev.bind (qsU fun t ht=>qs6 hes (hlen t ht)) .done)),Je ..,fun t ht=>(List.mem_filter.1 ht).1,rfl⟩
 ·obtain rfl:xs=[]:=h1
  have hc:(c != 0)=true:=by simpa using h2
  exact ⟨([],c),Ev.bind hs (Ev.tt hc .done),Ev.bind hi (Ev.tt rfl .done),jf _,fun t ht=>ht,rfl⟩
end Go.Fw


namespace Go.Fw
open Go
set_option maxRecDepth 100000
theorem qr5 {b:qg} {es:List qa} {p:Int} (hok:qb6 b) (hes:okL qQ es) :
  ∃ R:List (List Int) × Int,Ev (fun n=>qf9 n b es p) R∧Ev (fun n=>qe2 n b es p) R∧qeg R.1≤1048576:=by
 obtain ⟨R,h1,h2,h3⟩:=qs0 (p:=p) hok hes
 obtain ⟨Q,q1,q2,q3,q4,_⟩:=qqV hok hes h1 h2 h3
 refine ⟨Q,q1,q2,?_⟩
 rcases h3 with ⟨g0,_,g2,g3⟩|⟨g1,_⟩
 ·exact tagsW g0 (by omega) fun t ht=>(g3 t).1 (q4 t ht)
 ·have:Q.1=[]:=jE (by rw [g1] at q3;simpa using q3)
  rw [this];exact qrz
theorem qmw {b:qg} {es:(List qa)} {p:Int} (h0:qmn b) (h1:(rngL qeX) es) (h2:rngI p):Ev (fun n=>qgq n b es p) true:=by
 unfold qgq
 obtain ⟨r1,e1,q1⟩:=qvC (a:=b) (left:=1048576) h0 (by omega) (by omega)
 refine Ev.bind e1 ?_
 rcases q1 with q1|⟨p1,q1⟩
 ·exact Ev.tt (by simpa using q1) .done
 refine Ev.ff (by simp;omega) ?_
 obtain ⟨r2,e2,q2⟩:=qp8 (a:=es) (left:=r1) h1 p1 (by omega)
 refine Ev.bind e2 ?_
 rcases q2 with q2|⟨p2,q2⟩
 ·exact Ev.tt (by simpa using q2) .done
 refine Ev.ff (by simp;omega) ?_
 have w0:qfR b≤1048576:=by omega
 have k0:=qsP h0 w0
 have w1:qbf es≤1048576:=by omega
 have k1:=qoK h1 w1
 obtain ⟨⟨R0,R1⟩,hs,hi,v0⟩:=qr5 (b:=b) (es:=es) (p:=p) k0 k1
 have v0:qeg R0≤1048576:=v0
 refine Ev.bind (qnf w0) ?_
 refine Ev.bind (qit w1) ?_
 refine Ev.bind hs ?_
 refine Ev.bind (qnf w0) ?_
 refine Ev.bind (qit w1) ?_
 refine Ev.bind hi ?_
 refine Ev.bind (b:=false) (Ev.bind (qmO v0) (Ev.ff rfl (Ev.now (by simp)))) (Ev.ff rfl ?_)
 refine Ev.bind (qnf w0) ?_
 refine Ev.bind (qvn w0) (Ev.ff rfl ?_)
 refine Ev.bind (qit w1) ?_
 refine Ev.bind (qp5 w1) (Ev.ff rfl ?_)
 obtain ⟨m1,⟨x1_0,x1_1,x1_2,x1_3,x1_4⟩,mk1,ml1,mu1⟩:=qqX (a:=b) (k:=1) (by omega) (by omega) w0
 refine Ev.bind mk1 ?_
 obtain ⟨m2,x2_0,mk2,ml2,mu2⟩:=qni (a:=es) (k:=m1) (by omega) (by omega) w1
 refine Ev.bind mk2 ?_
 refine Ev.bind (b:=false) (Ev.ff (by simp;omega) (Ev.bind (qmO v0) (Ev.ff rfl (Ev.now (by simp))))) (Ev.ff rfl ?_)
 obtain ⟨z1,y1_0,hm1,hh1,zl1⟩:=qtk (a:=R0) (k:=1) (by omega) (by omega) v0
 refine Ev.bind hm1 ?_
 refine Ev.bind hh1 (Ev.ff (by simp;omega) (Ev.ff qbr ?_))
 refine Ev.bind (qnf w0) ?_
 refine Ev.bind (qit w1) ?_
 refine Ev.bind hi ?_
 refine Ev.bind (b:=false) (Ev.bind (qmO v0) (Ev.ff rfl (Ev.now (by simp)))) (Ev.ff rfl ?_)
 refine Ev.bind hh1 (Ev.ff (by simp;omega) (Ev.ff qbr ?_))
 exact .done
end Go.Fw
