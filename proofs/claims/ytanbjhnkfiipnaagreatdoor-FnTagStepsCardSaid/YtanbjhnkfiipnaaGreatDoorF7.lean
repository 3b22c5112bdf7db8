/- Plain laws: an order of the data graph, on both sides; the law of IsDataAcyclic. -/
import Derived.Test.YtanbjhnkfiipnaaGreatDoorJ1
import Derived.Test.YtanbjhnkfiipnaaGreatDoorFw38
open Option renaming bind_some → je
open Nat renaming le_refl → jf, le_of_ble_eq_true → jq, mul_le_mul_right → jr, lt_of_lt_of_le → jt, zero_le → jD, succ_mul → jF, le_trans → jQ, zero_add → jR
open Bool renaming and_eq_true → jg, eq_iff_iff → jk, true_and → jw, not_eq_true' → jE
open List renaming length_append → jh, length_singleton → jj, getElem?_eq_getElem → jn, mem_cons_of_mem → jo, getElem_mem → jp, mem_cons_self → js, getElem?_append_left → ju, mem_of_getElem? → jv, getElem?_append_right → jx, getD_eq_getElem?_getD → jy, not_mem_nil → jz, length_map → jB, eq_nil_of_length_eq_zero → jC, getElem?_take → jG, getElem?_toArray → jH, mem_cons → jI, take_length → jJ, size_toArray → jK, getElem?_drop → jM, append_assoc → jN, getElem_of_mem → jO, all_eq_true → jP
open Go.Result renaming andThen_ok → ji
open Go.Sem renaming run_bind → jl, run_pure → jm
open Int renaming toNat_natCast → jA
open Array renaming getElem?_append_left → jL

namespace Go.Fw
open Go
set_option maxRecDepth 100000
theorem qjk {b:qc} (h:blockB b=true):Ev (fun n=>qaj n b) ((places b.Aa).length:Int):=by
 unfold qaj
 exact Ev.bind (qeE (qQ (qan h))) (Ev.now (by rw [jB]))
theorem qlq {d:qg} {k:Int} {n:Nat}:qlR (sinksL d k n) n:=by
 intro y hy
 unfold sinksL at hy
 obtain ⟨i,hi,rfl⟩:=List.mem_map.1 hy
 exact ⟨i,List.mem_range.1 (List.mem_filter.1 hi).1,rfl⟩
theorem qmh {b:qc} (h:blockB b=true) {j:Nat} (hj:j<(places b.Aa).length):qlR (succL b j) (places b.Aa).length:=by
 have hd:=qan h
 unfold succL
 cases (gt (places b.Aa) j).drives
 ·cases h0:decide ((gt (places b.Aa) j).instance_<0)
  ·cases dataB (cellAt b (gt (places b.Aa) j).instance_) (gt (places b.Aa) j).pin
   ·intro y hy;cases hy
   ·intro y hy
    rcases qfk hj with ⟨i,k,hi,hk,ej,e⟩|⟨i,hi,_,e⟩
    ·obtain ⟨⟨c0,c1⟩,hn,hcb⟩:=qhn hd hi
     rw [e] at hy
     have ec:cellAt b (place1 b.Aa i k).instance_=gt b.Ac.Ai (gt b.Aa.Ab i).Az.toNat:=by
      unfold cellAt place1;rw [jA]
     rw [ec,show (place1 b.Aa i k).pin=(k:Int) from rfl] at hy
     have hy:y=(j:Int)-(k:Int)+(((gt b.Ac.Ai (gt b.Aa.Ab i).Az.toNat).Ap.length:Int)-1):=by simpa using hy
     obtain ⟨hp,_⟩:=qhA (k:=(gt b.Aa.Ab i).Aj.length-1) hi (by omega)
     exact ⟨off b.Aa i+((gt b.Aa.Ab i).Aj.length-1),hp,by omega⟩
    ·rw [e] at h0
     exact absurd h0 (by show ¬ decide ((-1:Int)<0)=false;decide)
  ·intro y hy;cases hy
 ·intro y hy
  exact qlq y ((List.mem_filter.1 hy).1)
abbrev npl (b:qc):Nat:=(places b.Aa).length
structure Mid (b:qc) (k i:Nat) (c:Nat) (out:List Nat):Prop where
 topo:Topo (succL b) (npl b) out
 klt:k<out.length
 cur:out[k]?=some c
 zero:∀ j,j<npl b→(j ∈ out↔inC (succL b) (npl b) (out.take (k+1)) j+((succL b c).drop i).count (j:Int)=0)
end Go.Fw


namespace Go.Fw
open Go
set_option maxRecDepth 100000
def startB (b:qc) (p:Tplace):Bool:=bif decide (p.instance_<0) then p.drives || clkB b p else clkB b p
def startN (b:qc) (j:Nat):List Nat:=selN (fun i=>startB b (gt (places b.Aa) i)) j
theorem qmB {b:qc} (hok:qce b) (h:blockB b=true):Ev (fun n=>qfq n b) (ints (startN b (npl b))):=by
 have hl:npl b≤78:=qav (qQ (qan h))
 have hL:Ev (fun n=>qbl b n ([]:List Int) 0) (ints (startN b (npl b)),(npl b:Int)):=by
  refine qnD (Lf:=qbl b) (q:=fun i=>startB b (gt (places b.Aa) i)) (len:=npl b) (by omega) (Ev.succ ?_) (fun j hj t ht X h1 h2=>?_)
  ·simp only [qbl]
   exact Ev.bind (qjk h) (Ev.ff (qp (jf _)) .done)
  ·simp only [qbl,wS j,ht,je]
   refine Ev.bind (qjk h) (Ev.tt (qn hj) (Ev.bind (qje hok h hj) ?_))
   refine Ev.bind (b:=startB b (gt (places b.Aa) j)) ?_ ?_
   ·unfold startB
    refine Ev.iff (fun h0=>?_) (fun _=>Ev.last (qic hok h hj))
    rcases qfk hj with ⟨i,k,hi,hk,ej,e⟩|⟨i,hi,_,e⟩
    ·rw [e] at h0
     exact absurd h0 (by show ¬ decide ((i:Int)<0)=true;simp)
    ·have hc:=qic hok h hj
     rw [e] at hc ⊢
     rw [show (toSp (place2 b.Aa i)).pin=(i:Int) from rfl,qZ hi]
     simp only [je]
     rw [show (place2 b.Aa i).drives=((gt b.Aa.Af i).Bk==1) from rfl]
     cases ((gt b.Aa.Af i).Bk==1)
     ·exact Ev.last hc
     ·exact .done
   ·cases hq:startB b (gt (places b.Aa) j)
    ·exact h2 hq
    ·exact h1 hq
 unfold qfq
 exact Ev.bind hL .done
end Go.Fw


namespace Go.Fw
open Go
set_option maxRecDepth 100000
section
variable {code:List (IntK .u8)} {a s:Int}
def PlI (b:qc) (p:Int):Prop:=0≤p∧p<((places b.Aa).length:Int)
theorem qn1 {b:qc} (h:blockB b=true) {j:Nat} (hj:j<(places b.Aa).length):∀ y,y ∈ succL b j→PlI b y:=by
 intro y hy
 obtain ⟨k,hk,e⟩:=qmh h hj y hy
 unfold PlI;omega
theorem qn8 {b:qc} (hok:qce b) (h:blockB b=true) (h0:1≤(places b.Aa).length) (hc:CodeOk code) (hs:SrcI code a s) :
  EvQ (fun n=>qdU n ⟨code,a,s⟩ b) (fun o=>((1≤o.1.length∧o.1.length≤20)∧∀ y,y ∈ o.1→PlI b y)∧SrcI code o.2.1 o.2.2):=by
 have hpl:=qav (qQ (qan h))
 have main:∀ (r:Nat) (x:List Int) (a' s' p:Int),SrcI code a' s'→(1≤x.length∧x.length+r≤20)→(∀ y,y ∈ x→PlI b y)→PlI b p →
   EvQ (fun n=>qbP ⟨code,a,s⟩ b n x a' s' p (r:Int)) (fun o=>((1≤o.1.length∧o.1.length≤20)∧∀ y,y ∈ o.1→PlI b y)∧SrcI code o.2.1 o.2.2):=by
  intro r
  induction r with
  | zero =>
   intro x a' s' p hs hl hx hp
   refine EvQ.succ ?_
   simp only [qbP]
   exact EvQ.ff rfl (EvQ.done ⟨⟨⟨hl.1,by dsimp only;omega⟩,hx⟩,hs⟩)
  | succ r ih =>
   intro x a' s' p hs hl hx hp
   refine EvQ.succ ?_
   simp only [qbP]
   obtain ⟨j,rfl⟩:∃ j:Nat,p=(j:Int):=⟨p.toNat,by have:=hp.1;omega⟩
   have hj:j<(places b.Aa).length:=by have:=hp.2;omega
   have hsl:=qll h (j:=j)
   refine EvQ.tt (by simp) (EvQ.bindE (qjM hok h hj) (EvQ.bif (fun _=>EvQ.done ⟨⟨⟨hl.1,by dsimp only;omega⟩,hx⟩,hs⟩) (fun h1=>?_)))
   have h1:1≤(succL b j).length:=by cases hq:succL b j with
    | nil=>rw [hq] at h1;simp at h1
    | cons y ys=>exact Nat.succ_le_succ (jD _)
   refine EvQ.bind (qae _ hc hs) ?_
   rintro ⟨i22,i23,i24⟩ ⟨⟨⟨q0,q1⟩,_⟩,hs⟩
   dsimp only at q0 q1 hs ⊢
   have q2:=q1 (by omega)
   obtain ⟨k,rfl⟩:∃ k:Nat,i22=(k:Int):=⟨i22.toNat,by omega⟩
   have hk:k<(succL b j).length:=by omega
   have e:W64 (((r+1:Nat):Int)-1)=(r:Int):=by rw [qaM (by omega) (by omega)];omega
   have hpk:=qn1 h hj _ (jp hk)
   rw [e]
   exact EvQ.bindN (qaJ hk) (EvQ.bindN (qbz (by omega)) (ih _ _ _ _ hs ⟨by rw [jh,jj];omega,by rw [jh,jj];omega⟩ (qa4 hx hpk) hpk))
 unfold qdU
 refine EvQ.bindE (qmB hok h) (EvQ.bindE (qeA h) (EvQ.bind (qae _ hc hs) ?_))
 rintro ⟨i1,i2,i3⟩ ⟨⟨⟨q0,q1⟩,_⟩,hs⟩
 dsimp only at q0 q1 hs ⊢
 have p1:PlI b i1:=by
  refine ⟨q0,?_⟩
  by_cases h2:((places b.Aa).length:Int) > 1
  ·rw [if_pos h2] at q1
   exact q1 (by omega)
  ·rw [if_neg h2] at q1
   have:=q1 (by decide)
   omega
 have st:∀ y,y ∈ ints (startN b (npl b))→PlI b y:=by
  intro y hy
  unfold ints startN selN at hy
  obtain ⟨k,hk,rfl⟩:=List.mem_map.1 hy
  have:=List.mem_range.1 (List.mem_filter.1 hk).1
  unfold npl at this
  unfold PlI
  omega
 refine EvQ.bind (R:=fun o:Int × Int × Bool=>SrcI code o.1 o.2.1∧(o.2.2=true→1≤(ints (startN b (npl b))).length)) (EvQ.bif (fun h1=>EvQ.bind (qae 6 hc hs) ?_) (fun _=>EvQ.done ⟨hs,fun h=>by cases h⟩)) ?_
 ·rintro ⟨i28,i29,i30⟩ ⟨_,hs⟩
  exact EvQ.done ⟨hs,fun _=>by have:=of_decide_eq_true h1;omega⟩
 rintro ⟨i4,i5,b1⟩ ⟨hs,hb1⟩
 dsimp only at hs hb1 ⊢
 refine EvQ.bind (R:=fun o:Int × Int × Int=>SrcI code o.1 o.2.1∧PlI b o.2.2) (EvQ.bif (fun h1=>EvQ.bind (qae _ hc hs) ?_) (fun _=>EvQ.done ⟨hs,p1⟩)) ?_
 ·rintro ⟨i25,i26,i27⟩ ⟨⟨⟨t0,t1⟩,_⟩,hs⟩
  dsimp only at t0 t1 hs ⊢
  have hn:=hb1 h1
  have t2:=t1 (by omega)
  obtain ⟨k,rfl⟩:∃ k:Nat,i25=(k:Int):=⟨i25.toNat,by omega⟩
  have hk:k<(ints (startN b (npl b))).length:=by omega
  exact EvQ.bindN (qaJ hk) (EvQ.done ⟨hs,st _ (jp hk)⟩)
 rintro ⟨i6,i7,i8⟩ ⟨hs,hp⟩
 dsimp only at hs hp ⊢
 refine EvQ.bind (qae 10 hc hs) ?_
 rintro ⟨i9,i10,i11⟩ ⟨⟨⟨t0,t1⟩,_⟩,hs⟩
 dsimp only at t0 t1 hs ⊢
 have t2:=t1 (by decide)
 obtain ⟨m,hm⟩:∃ m:Nat,2+i9=(m:Int):=⟨(2+i9).toNat,by omega⟩
 rw [wO (2+i9),hm]
 refine EvQ.bind (main m [i8] i10 i11 i8 hs (by simp;omega) (fun y hy=>by obtain rfl:=List.mem_singleton.1 hy;exact hp) hp) ?_
 rintro ⟨x2,i16,i17⟩ h2
 exact EvQ.done h2
theorem PlI.ok {b:qc} (h:blockB b=true) {p:Int} (hp:PlI b p):okI p:=by
 have hpl:=qav (qQ (qan h))
 unfold PlI at hp
 exact qS (by omega) (by omega)
theorem qpR {b:qc} {path:List Int} (h:blockB b=true) (h0:1≤(places b.Aa).length) (hl:1≤path.length∧path.length≤20) (hp:∀ y,y ∈ path→PlI b y) (hc:CodeOk code) (hs:SrcI code a s) :
  EvQ (fun n=>qc7 n ⟨code,a,s⟩ b path) (fun o=>qag o.1∧SrcI code o.2.1 o.2.2):=by
 have hpl:=qav (qQ (qan h))
 have one:∀ {x:Int},okI x→okL okI [x]:=fun hx=>⟨by simp,fun y hy=>by obtain rfl:=List.mem_singleton.1 hy;exact hx⟩
 have none_:okL okI ([]:List Int):=⟨jD _,fun _ h=>by cases h⟩
 have main:∀ (d j:Nat) (x:List Int) (a' s':Int),SrcI code a' s'→j+d=path.length→x.length≤j→(∀ y,y ∈ x→okI y) →
   EvQ (fun n=>qaA ⟨code,a,s⟩ path n x a' s' (j:Int)) (fun o=>okL okI o.1∧SrcI code o.2.1 o.2.2.1):=by
  intro d
  induction d with
  | zero =>
   intro j x a' s' hs hj hx hok
   refine EvQ.succ ?_
   simp only [qaA]
   exact EvQ.ff (qp (by omega)) (EvQ.done ⟨⟨by dsimp only;omega,hok⟩,hs⟩)
  | succ d ih =>
   intro j x a' s' hs hj hx hok
   have hjl:j<path.length:=by omega
   refine EvQ.succ ?_
   simp only [qaA,wS j]
   refine EvQ.tt (qn hjl) (EvQ.bind (R:=fun o:Int × Int × Bool=>SrcI code o.1 o.2.1) (EvQ.bif (fun _=>EvQ.bind (qae 5 hc hs) ?_) (fun _=>EvQ.done hs)) ?_)
   ·rintro ⟨i18,i19,i20⟩ ⟨_,hs⟩
    exact EvQ.done hs
   ·rintro ⟨i16,i17,b1⟩ hs
    dsimp only at hs ⊢
    refine EvQ.bif (fun _=>?_) (fun _=>ih (j+1) x _ _ hs (by omega) (by omega) hok)
    have hl1:(x++[path[j]]).length≤j+1:=by rw [jh,jj];omega
    exact EvQ.bindN (qaJ hjl) (EvQ.bindN (qbz (by omega)) (EvQ.bindN (qg8 (by omega)) (ih (j+1) _ _ _ hs (by omega) hl1 (qa4 hok ((hp _ (jp hjl)).ok h)))))
 have cnt:∀ {a' s':Int},SrcI code a' s'→EvQ (fun n=>qk n ⟨code,a',s'⟩ ((places b.Aa).length:Int)) (fun o=>okI o.1∧SrcI code o.2.1 o.2.2):=fun {a' s'} hs=>(qae _ hc hs).mono (fun o ho=>⟨by have h1:=ho.1.1.1;have h2:=ho.1.1.2 (by omega);exact qS (by omega) (by omega),ho.2⟩)
 unfold qc7
 refine EvQ.bind (qae 4 hc hs) ?_
 rintro ⟨i1,i2,i3⟩ ⟨_,hs⟩
 dsimp only at hs ⊢
 refine EvQ.bind (R:=fun o:Int × Int × Int=>SrcI code o.1 o.2.1∧okI o.2.2) ?_ ?_
 ·have z0:okI 0:=qS (by decide) (by decide)
  refine EvQ.bif (fun _=>EvQ.bind (qae 4 hc hs) ?_) (fun _=>EvQ.bif (fun _=>EvQ.bif (fun _=>EvQ.bind (qae 40 hc hs) ?_) (fun _=>EvQ.done ⟨hs,z0⟩)) (fun _=>EvQ.bif (fun _=>EvQ.bind (qae 40 hc hs) ?_) (fun _=>EvQ.done ⟨hs,z0⟩)))
  all_goals
   rintro ⟨j1,j2,j3⟩ ⟨_,hs⟩
   exact EvQ.done ⟨hs,qcn _⟩
 rintro ⟨i4,i5,i6⟩ ⟨hs,hi6⟩
 dsimp only at hs hi6 ⊢
 refine EvQ.bind (qae 2 hc hs) ?_
 rintro ⟨i7,i8,i9⟩ ⟨_,hs⟩
 dsimp only at hs ⊢
 refine EvQ.bind (R:=fun o:List Int=>okL okI o) (EvQ.bif (fun _=>EvQ.bindN (qaJ (j:=0) (show 0<path.length by omega)) (EvQ.done (one ((hp _ (jp _)).ok h)))) (fun _=>EvQ.done none_)) (fun x1 hx1=>?_)
 refine EvQ.bind (qae 2 hc hs) ?_
 rintro ⟨i10,i11,i12⟩ ⟨_,hs⟩
 dsimp only at hs ⊢
 have e:W64 ((path.length:Int)-1)=((path.length-1:Nat):Int):=by rw [qaM (by omega) (by omega)];omega
 rw [e]
 refine EvQ.bind (R:=fun o:List Int=>okL okI o) (EvQ.bif (fun _=>EvQ.bindN (qaJ (show path.length-1<path.length by omega)) (EvQ.done (one ((hp _ (jp _)).ok h)))) (fun _=>EvQ.done none_)) (fun x2 hx2=>?_)
 refine EvQ.bind (main path.length 0 [] i11 i12 hs (by omega) (jD _) (fun _ h=>by cases h)) ?_
 rintro ⟨x3,i13,i14,i15⟩ ⟨hx3,hs⟩
 dsimp only at hx3 hs ⊢
 refine EvQ.bind (qae 12 hc hs) ?_
 rintro ⟨i21,i22,i23⟩ ⟨_,hs⟩
 dsimp only at hs ⊢
 refine EvQ.bif (fun _=>EvQ.bindE (qeA h) (EvQ.bind (cnt hs) ?_)) (fun _=>EvQ.bif (fun _=>EvQ.bindE (qeA h) (EvQ.bind (cnt hs) ?_)) (fun _=>EvQ.bif (fun _=>EvQ.bindE (qeA h) (EvQ.bind (cnt hs) ?_)) (fun _=>EvQ.done ⟨⟨qcn _,hi6,hx1,hx3,hx2⟩,hs⟩)))
 ·rintro ⟨j1,j2,j3⟩ ⟨hj,hs⟩
  exact EvQ.done ⟨⟨qcn _,hi6,one hj,hx3,hx2⟩,hs⟩
 ·rintro ⟨j1,j2,j3⟩ ⟨hj,hs⟩
  exact EvQ.done ⟨⟨qcn _,hi6,hx1,hx3,one hj⟩,hs⟩
 ·rintro ⟨j1,j2,j3⟩ ⟨hj,hs⟩
  exact EvQ.done ⟨⟨qcn _,hi6,hx1,one hj,hx2⟩,hs⟩
theorem qpr {b:qc} {path:List Int} (h:blockB b=true) (h0:1≤(places b.Aa).length) (hl:1≤path.length∧path.length≤20) (hp:∀ y,y ∈ path→PlI b y) (hc:CodeOk code) (hs:SrcI code a s) :
  EvQ (fun n=>qeP n ⟨code,a,s⟩ b path) (fun o=>okL qag o.1∧SrcI code o.2.1 o.2.2):=by
 have hpl:=qav (qQ (qan h))
 have main:∀ (r:Nat) (x:List qa) (a' s':Int),SrcI code a' s'→x.length+r≤10→(∀ y,y ∈ x→qag y) →
   EvQ (fun n=>qbR ⟨code,a,s⟩ b path n x a' s' (r:Int)) (fun o=>(o.1.length≤10∧∀ y,y ∈ o.1→qag y)∧SrcI code o.2.1 o.2.2.1):=by
  intro r
  induction r with
  | zero =>
   intro x a' s' hs hx hok
   refine EvQ.succ ?_
   simp only [qbR]
   exact EvQ.ff rfl (EvQ.done ⟨⟨by dsimp only;omega,hok⟩,hs⟩)
  | succ r ih =>
   intro x a' s' hs hx hok
   have e:W64 (((r+1:Nat):Int)-1)=(r:Int):=by rw [qaM (by omega) (by omega)];omega
   refine EvQ.succ ?_
   simp only [qbR,e]
   refine EvQ.tt (by simp) (EvQ.bind (qpR h h0 hl hp hc hs) ?_)
   rintro ⟨r1,i7,i8⟩ ⟨h1,hs⟩
   exact EvQ.bindN (qbz (by omega)) (ih _ _ _ hs (by rw [jh,jj];omega) (qa4 hok h1))
 have grow:∀ (d:Nat) (x:List qa),x.length+d=11→1≤x.length→(∀ y,y ∈ x→qag y)→EvQ (fun n=>qbN n x) (fun o=>o.length≤11∧∀ y,y ∈ o→qag y):=by
  intro d
  induction d with
  | zero =>
   intro x hx h1 hok
   refine EvQ.succ ?_
   simp only [qbN]
   exact EvQ.ff (by simp;omega) (EvQ.done ⟨by omega,hok⟩)
  | succ d ih =>
   intro x hx h1 hok
   refine EvQ.succ ?_
   simp only [qbN]
   refine EvQ.bif (fun _=>EvQ.bindN (qaJ (j:=0) (show 0<x.length by omega)) (EvQ.bindN (qbz (by omega)) (ih _ (by rw [jh,jj];omega) (by rw [jh,jj];omega) (qa4 hok (hok _ (jp _)))))) (fun _=>EvQ.done ⟨by omega,hok⟩)
 unfold qeP
 refine EvQ.bind (qae 5 hc hs) ?_
 rintro ⟨i1,i2,i3⟩ ⟨⟨⟨q0,q1⟩,_⟩,hs⟩
 dsimp only at q0 q1 hs ⊢
 have q2:=q1 (by decide)
 obtain ⟨m,rfl⟩:∃ m:Nat,i1=(m:Int):=⟨i1.toNat,by omega⟩
 refine EvQ.bind (main m [] i2 i3 hs (by simp;omega) (fun _ h=>by cases h)) ?_
 rintro ⟨x1,i4,i5,i6⟩ ⟨⟨l1,h1⟩,hs⟩
 dsimp only at l1 h1 hs ⊢
 refine EvQ.bind (R:=fun o:Int × Int × Bool=>SrcI code o.1 o.2.1∧(o.2.2=true→1≤x1.length)) (EvQ.bif (fun hp=>EvQ.bind (qae 16 hc hs) ?_) (fun _=>EvQ.done ⟨hs,fun h=>by cases h⟩)) ?_
 ·rintro ⟨j1,j2,j3⟩ ⟨_,hs⟩
  exact EvQ.done ⟨hs,fun _=>by have:=of_decide_eq_true hp;omega⟩
 rintro ⟨i9,i10,b1⟩ ⟨hs,hb⟩
 dsimp only at hs hb ⊢
 refine EvQ.bif (fun hb1=>?_) (fun _=>EvQ.done ⟨⟨by dsimp only;omega,h1⟩,hs⟩)
 have hn:=hb hb1
 have h00:0<x1.length:=by omega
 have hx0:=h1 _ (jp h00)
 have set0:∀ {y:qa},qag y→okL qag (setS x1 0 y):=fun {y} hy=>⟨by rw [qcj];omega,qfG h1 hy⟩
 refine EvQ.bind (qae 4 hc hs) ?_
 rintro ⟨i11,i12,i13⟩ ⟨_,hs⟩
 dsimp only at hs ⊢
 refine EvQ.bif (fun _=>EvQ.bind (qae 2 hc hs) ?_) (fun _=>EvQ.bif (fun _=>?_) (fun _=>EvQ.bif (fun _=>?_) (fun _=>?_)))
 ·rintro ⟨i14,i15,i16⟩ ⟨_,hs⟩
  exact EvQ.bindN (qaJ (j:=0) h00) (EvQ.done ⟨set0 ⟨qcn _,hx0.Bd,hx0.As,hx0.Am,hx0.To⟩,hs⟩)
 ·exact EvQ.bindN (qaJ (j:=0) h00) (EvQ.done ⟨set0 ⟨hx0.Ar,qS (x:=-1) (by decide) (by decide),hx0.As,hx0.Am,hx0.To⟩,hs⟩)
 ·exact EvQ.bindE (qeA h) (EvQ.bindN (qaJ (j:=0) h00) (EvQ.done ⟨set0 ⟨hx0.Ar,hx0.Bd,hx0.As,hx0.Am,⟨by simp,fun y hy=>by obtain rfl:=List.mem_singleton.1 hy;exact qS (by omega) (by omega)⟩⟩,hs⟩))
 ·refine EvQ.bind (grow (11-x1.length) x1 (by omega) hn h1) (fun x3 hx3=>EvQ.done ⟨⟨by dsimp only;omega,hx3.2⟩,hs⟩)
structure CaseI (b:qc) (es:List qa) (path:List Int):Prop where
 blk:BlkO b
 es:okL qag es
 l1:1≤path.length
 l2:path.length≤30
 pk:∀ y,y ∈ path→okI y
theorem qpE (hc:CodeOk code):EvQ (fun n=>qeN n code) (fun o=>CaseI o.1 o.2.1 o.2.2):=by
 obtain ⟨s,h1,hs⟩:=qoN hc
 unfold qeN
 refine EvQ.bindE h1 (EvQ.bind (qpj hc hs) ?_)
 rintro ⟨b,i2,i3⟩ ⟨hb,hs⟩
 dsimp only at hb hs ⊢
 have bad:CaseI b [] [0]:=⟨hb,⟨jD _,fun _ h=>by cases h⟩,by simp,by simp,fun y hy=>by obtain rfl:=List.mem_singleton.1 hy;exact qS (by decide) (by decide)⟩
 refine EvQ.bind (R:=fun o:Bool=>o=true∨(blockB b=true∧1≤(places b.Aa).length)) ?_ ?_
 ·refine EvQ.bindE (qg9 hb.ok) ?_
  cases h:blockB b
  ·exact EvQ.tt rfl (EvQ.done (.inl rfl))
  ·refine EvQ.ff rfl (EvQ.bindE (qeA h) (EvQ.done ?_))
   rcases Nat.eq_zero_or_pos (places b.Aa).length with h0|h0
   ·exact .inl (by rw [h0];rfl)
   ·exact .inr ⟨rfl,h0⟩
 intro b1 hb1
 refine EvQ.bif (fun _=>EvQ.done bad) (fun hf=>?_)
 obtain ⟨h,h0⟩:blockB b=true∧1≤(places b.Aa).length:=by
  rcases hb1 with rfl|h
  ·cases hf
  ·exact h
 have hpl:=qav (qQ (qan h))
 refine EvQ.bind (qn8 hb.ok h h0 hc hs) ?_
 rintro ⟨r3,i4,i5⟩ ⟨⟨l3,h3⟩,hs⟩
 refine EvQ.bind (qpr h h0 l3 h3 hc hs) ?_
 rintro ⟨r4,i6,i7⟩ ⟨h4,hs⟩
 refine EvQ.bind (qae 3 hc hs) ?_
 rintro ⟨i8,i9,i10⟩ ⟨_,hs⟩
 dsimp only at l3 h3 h4 hs ⊢
 refine EvQ.bind (R:=fun o:List Int × Int × Int=>((1≤o.1.length∧o.1.length≤20)∧∀ y,y ∈ o.1→PlI b y)∧SrcI code o.2.1 o.2.2) (EvQ.bif (fun _=>EvQ.bind (qn8 hb.ok h h0 hc hs) ?_) (fun _=>EvQ.done ⟨⟨l3,h3⟩,hs⟩)) ?_
 ·rintro ⟨r6,i19,i20⟩ h6
  exact EvQ.done h6
 rintro ⟨x1,i11,i12⟩ ⟨⟨lx,hx⟩,hs⟩
 dsimp only at lx hx hs ⊢
 refine EvQ.bind (qae 14 hc hs) ?_
 rintro ⟨i13,i14,i15⟩ ⟨_,hs⟩
 dsimp only at hs ⊢
 refine EvQ.bif (fun _=>EvQ.bindE (qeA h) (EvQ.bind (qae _ hc hs) ?_)) (fun _=>EvQ.done ⟨hb,h4,lx.1,by dsimp only;omega,fun y hy=>(hx y hy).ok h⟩)
 rintro ⟨i16,i17,i18⟩ ⟨⟨⟨t0,t1⟩,_⟩,hs⟩
 dsimp only at t0 t1
 have t2:=t1 (by omega)
 exact EvQ.bindN (qbz (by omega)) (EvQ.done ⟨hb,h4,by show 1≤(_++_:List Int).length;rw [jh,jj];omega,by show (_++_:List Int).length≤_;rw [jh,jj];omega,qa4 (fun y hy=>(hx y hy).ok h) (qS (by omega) (by omega))⟩)
theorem qoh (hc:CodeOk code):EvQ (fun n=>qc2 n code) (fun o=>CaseI o.1 o.2.1 o.2.2):=by
 unfold qc2
 refine EvQ.bind (qpE hc) ?_
 rintro ⟨b,es,p⟩ h
 exact EvQ.done h
end
end Go.Fw


namespace Go.Fw
open Go
set_option maxRecDepth 100000
theorem qlo {b:qc} (h:blockB b=true):Ev (fun n=>qaj n b) ((places b.Aa).length:Int):=by
 unfold qaj
 exact Ev.bind (qeE (qQ (qan h))) (Ev.now (by rw [jB]))
def plsB (b:qc) (xs:List Int):Bool:=decide (xs.length≤4)&&allN (fun j=>inPl b (at0 xs j)) xs.length
def valB (k v:Int):Bool:=bif k==1 then v==0 else bif k==2 then inI v 1 10 else bif (k==3) || (k==4) then inI v 0 1000000000 else false
def excB (b:qc) (e:qa):Bool:=(plsB b e.As&&(plsB b e.Am&&plsB b e.To))&&(valB e.Ar e.Bd&&(incB e.As&&incB e.To))
theorem qhN {b:qc} {xs:List Int} {sorted:Bool} (h:blockB b=true) (hl:xs.length≤1048576):Ev (fun n=>qdQ n b xs sorted) (plsB b xs&&(!sorted || incB xs)):=by
 have hpl:=qav (qQ (qan h))
 have hL:Ev (fun n=>qbk b xs sorted n 0) (bif allN (fun j=>inPl b (at0 xs j)&&(!sorted || stepB xs j)) xs.length then .nxt (xs.length:Int) else .ret false):=by
  refine qdc ?_ (fun j hj X hX=>Ev.succ ?_)
  ·exact Ev.succ (by simp only [qbk,qp (jf _),cond_false];exact .done)
  ·simp only [qbk,qn hj,cond_true,qay hj,je,qc3,wS j]
   refine Ev.bind (qlo h) ?_
   rw [qbo (show (places b.Aa).length≤9223372036854775807 by omega)]
   simp only [qaC]
   refine Ev.okP (a:=inPl b (at0 xs j)) fun _=>?_
   cases sorted
   ·exact hX
   ·refine Ev.tt rfl ?_
    unfold stepB
    by_cases h0:j=0
    ·subst h0
     exact Ev.ff (by decide) hX
    ·refine Ev.tt (by simp;omega) ?_
     simp only [show (j:Int)-1=((j-1:Nat):Int) by omega,qaM (show -9223372036854775808≤((j-1:Nat):Int) by omega) (by omega),qay (show j-1<xs.length by omega),je]
     rw [show decide (at0 xs (j-1) ≥ at0 xs j) = !decide (at0 xs (j-1)<at0 xs j) by rw [jk];simp,show decide (j=0)=false by simp;omega]
     simp only [qaC,Bool.not_true,Bool.false_or]
     exact Ev.okP1 fun _=>hX
 unfold qdQ
 have e:(plsB b xs&&(!sorted || incB xs))=(allN (fun j=>inPl b (at0 xs j)&&(!sorted || stepB xs j)) xs.length&&decide (xs.length≤4)):=by
  unfold plsB incB
  rw [qgO]
  cases sorted
  ·simp only [Bool.not_false,Bool.true_or,Bool.and_true]
   rw [show allN (fun _=>true) xs.length=true from qar.2 (fun _ _=>rfl),Bool.and_true,Bool.and_comm]
  ·simp only [Bool.not_true,Bool.false_or]
   rw [Bool.and_assoc,Bool.and_comm]
 rw [e]
 refine Ev.bind hL ?_
 cases allN (fun j=>inPl b (at0 xs j)&&(!sorted || stepB xs j)) xs.length
 ·exact .done
 ·refine Ev.now ?_
  show some (decide ((xs.length:Int)≤((4:Nat):Int)))=some (true&&decide (xs.length≤4))
  rw [qhU,jw]
theorem qmN {n:Nat} {k v:Int}:qgz n k v=some (valB k v):=by
 simp only [qgz,qcr,je]
 unfold valB
 cases (k==1)<;>cases (k==2)<;>cases (k==3)<;>cases (k==4)<;>rfl
theorem qkq {b:qc} {V:Tview} {e:qa} (h:blockB b=true) (hP:V.places=places b.Aa) (he:qag e):Ev (fun n=>qc8 n (some V) e) (excB b e):=by
 have hpl:=qav (qQ (qan h))
 have one:∀ xs:List Int,xs.length≤1048576→∀ {F:Nat→Option (Flow Bool Int)} {X:Flow Bool Int},Ev F X →
   Ev (fun n=>bif decide ((xs.length:Int) > 4) then some (.ret false) else (qbd n xs 0 (((places b.Aa).length:Int)-1)).bind fun r2=>bif (!r2) then some (.ret false) else F n) (bif plsB b xs then X else .ret false):=by
  intro xs hx F X hX
  unfold plsB
  rw [show decide ((xs.length:Int) > 4) = !decide (xs.length≤4) from qhI (k:=4)]
  simp only [qaC]
  refine Ev.okP fun _=>Ev.ok1 ((qd6 hx).cast (by rw [qfv (d:=0)];rfl)) fun _=>hX
 have hL:Ev (fun n=>qac (some V) e n 0) (bif plsB b e.As then (bif plsB b e.Am then (bif plsB b e.To then .nxt 3 else .ret false) else .ret false) else .ret false):=by
  refine Ev.succ ?_
  simp only [qac,je,qaR,hP,qbo (show (places b.Aa).length≤9223372036854775807 by omega)]
  refine one e.As he.As.len (F:=fun n=>qac (some V) e n 1) (Ev.succ ?_)
  simp only [qac,je,qaR,hP,qbo (show (places b.Aa).length≤9223372036854775807 by omega)]
  refine one e.Am he.Am.len (F:=fun n=>qac (some V) e n 2) (Ev.succ ?_)
  simp only [qac,je,qaR,hP,qbo (show (places b.Aa).length≤9223372036854775807 by omega)]
  refine one e.To he.To.len (F:=fun n=>qac (some V) e n 3) (Ev.succ ?_)
  exact .done
 unfold qc8 excB
 refine Ev.bind hL ?_
 cases plsB b e.As
 ·exact .done
 ·cases plsB b e.Am
  ·exact .done
  ·cases plsB b e.To
   ·exact .done
   ·simp only [cond_true,qmN,je,Bool.and_self,jw]
    exact Ev.andP fun _=>Ev.and (qgj he.As.len) fun _=>Ev.last (qgj he.To.len)
theorem qj5 {b:qc} {e:qa} (hok:qce b) (he:qag e):Ev (fun n=>qeS n b e) (blockB b&&excB b e):=by
 have eq:(blockB b&&excB b e)=((blockB b&&((plsB b e.As&&(!true || incB e.As))&&((plsB b e.Am&&(!false || incB e.Am))&&(plsB b e.To&&(!true || incB e.To)))))&&valB e.Ar e.Bd):=by
  unfold excB
  generalize blockB b=a1
  generalize plsB b e.As=a2
  generalize plsB b e.Am=a3
  generalize plsB b e.To=a4
  generalize valB e.Ar e.Bd=a5
  generalize incB e.As=a6
  generalize incB e.To=a7
  cases a1<;>cases a2<;>cases a3<;>cases a4<;>cases a5<;>cases a6<;>cases a7<;>rfl
 rw [eq]
 unfold qeS
 refine Ev.guardB (Ev.or (qg9 hok) fun h=>Ev.or (qhN h he.As.len) fun _=>Ev.or (qhN h he.Am.len) fun _=>Ev.neg (qhN h he.To.len)) fun _=>?_
 simp only [qc3,je]
 unfold valB
 cases (e.Ar==1)<;>cases (e.Ar==2)<;>cases (e.Ar==3)<;>cases (e.Ar==4)<;>exact .done
end Go.Fw


namespace Go.Fw
open Go
set_option maxRecDepth 100000
def hasI (xs:List Int) (y:Int):Bool:=xs.any fun x=>x==y
theorem qla {xs:List Int} {y:Int} (hl:xs.length≤1048576):Ev (fun n=>qgi n xs y) (ixL (fun x=>x==y) xs) :=
 qdY (fin:=(xs.length:Int)) (Lf:=qdV xs y) (pf:=fun _ x=>some (x==y)) (fun _ _=>.done)
  (fun n=>by simp only [qdV,qp (jf _),cond_false])
  (fun n j x hx=>by
   have hj:=(List.getElem?_eq_some_iff.1 hx).1
   simp only [qdV,qn hj,cond_true,qfp hx,je,wS j])
  (fun n=>by unfold qgi;congr 1;funext o;cases o<;>rfl)
theorem qlV {xs:List Int} {y:Int} (hl:xs.length≤1048576):Ev (fun n=>qdb n xs y) (hasI xs y):=by
 unfold qdb
 refine Ev.bind (b:=ixL (fun x=>y==x) xs) (qdY (fin:=(xs.length:Int)) (Lf:=qbm xs y) (pf:=fun _ x=>some (y==x)) (fun _ _=>.done)
  (fun n=>by simp only [qbm,qp (jf _),cond_false])
  (fun n j x hx=>by
   have hj:=(List.getElem?_eq_some_iff.1 hx).1
   simp only [qbm,qn hj,cond_true,qfp hx,je,wS j])
  (fun n=>by unfold qfc;congr 1;funext o;cases o<;>rfl)) (Ev.now ?_)
 rw [qha]
 unfold hasI
 congr 2
 funext x
 rw [jk,beq_iff_eq,beq_iff_eq]
 exact eq_comm
theorem qoB {p:Int→Bool} {xs:List Int}:decide (ixL p xs<0) = !xs.any p:=by
 rw [←qha,jk];simp
def stepP (b:qc) (path:List Int) (j:Nat):Bool:=decide (j=0) || hasI (succL b (at0 path (j-1)).toNat) (at0 path j)
def dpathB (b:qc) (path:List Int):Bool:=lenB path 1 60&&(allN (fun j=>inPl b (at0 path j)) path.length&&allN (stepP b path) path.length)
theorem qkw {b:qc} {path:List Int} (hok:qce b) (hl:path.length≤1048576):Ev (fun n=>qe7 n b path) (blockB b&&dpathB b path):=by
 unfold qe7 dpathB
 rw [←Bool.and_assoc,←qgO]
 refine Ev.guardB ?_ fun hb=>?_
 ·unfold lenB
  rw [show decide ((path.length:Int)<1) = !decide (1≤path.length) from qm7 (k:=1),show decide ((path.length:Int) > 60) = !decide (path.length≤60) from qhI (k:=60)]
  refine Ev.or (qg9 hok) fun _=>?_
  simp only [qaC]
  exact Ev.orBP fun _=>.done
 ·rw [jg] at hb
  have h:=hb.1
  have hs:=qQ (qan h)
  have hpl:=qav hs
  have hL:Ev (fun n=>qbc b path n 0) (bif allN (fun j=>inPl b (at0 path j)&&stepP b path j) path.length then .nxt (path.length:Int) else .ret false):=by
   refine loopN (τ:=Unit) (Lf:=fun n _ j=>qbc b path n j) (S:=fun _=>()) (fun j=>inPl b (at0 path j)&&stepP b path j) (fun n=>?_) (fun j hj hp X hX=>?_)
   ·simp only [qbc,qp (jf _),cond_false]
   ·simp only [qbc,qn hj,cond_true,qay hj,je,qc3,wS j]
    have e1:Ev (fun n=>qaj n b) ((places b.Aa).length:Int):=by
     unfold qaj
     exact Ev.bind (qeE hs) (Ev.now (by rw [jB]))
    refine Ev.bind e1 ?_
    rw [qbo (show (places b.Aa).length≤9223372036854775807 by omega)]
    simp only [qaC]
    refine Ev.okP fun hin=>?_
    have hX:=fun hst=>hX (by rw [jg];exact ⟨hin,hst⟩)
    unfold stepP at hX ⊢
    by_cases h0:j=0
    ·subst h0
     refine Ev.ff (by decide) ?_
     exact hX rfl
    ·have hq:=hp (j-1) (by omega)
     rw [jg] at hq
     have hq:=hq.1
     unfold inPl at hq
     rw [qb3] at hq
     have ep:=qju hq.1
     rw [show decide (j=0)=false by simp;omega,Bool.false_or] at hX ⊢
     refine Ev.tt (by simp;omega) ?_
     rw [qbo (show j≤9223372036854775807 by omega),show (j:Int)-1=((j-1:Nat):Int) by omega,qay (show j-1<path.length by omega)]
     simp only [je]
     refine Ev.bind (b:=succL b (at0 path (j-1)).toNat) ?_ (Ev.bind (qla (by have:=qll h (j:=(at0 path (j-1)).toNat);omega)) ?_)
     ·have:=qjM hok h (j:=(at0 path (j-1)).toNat) (by omega)
      rw [←ep] at this
      exact this
     ·rw [qoB]
      simp only [qaC]
      exact Ev.okP1 hX
  refine Ev.bind hL ?_
  cases allN (fun j=>inPl b (at0 path j)&&stepP b path j) path.length<;>exact .done
instance:Inhabited qa:=⟨⟨0,0,[],[],[]⟩⟩
def stepT (e:qa) (found place:Int):Int:=bif decide (found ≥ 0)&&(decide (found<(e.Am.length:Int))&&(at0 e.Am found.toNat==place)) then found+1 else found
def fromB (e:qa) (p:Int):Bool:=decide (e.As.length=0) || hasI e.As p
def beginT (e:qa) (p:Int):Int:=bif fromB e p then stepT e 0 p else -1
def runT (e:qa) (path:List Int):Int:=(path.drop 1).foldl (stepT e) (beginT e (at0 path 0))
theorem qnE {e:qa} {p:Int}:stepT e (-1) p=-1:=rfl
theorem qlz {e:qa} {found p:Int} (hl:e.Am.length≤1048576):Ev (fun n=>qbi n e found p) (stepT e found p):=by
 unfold qbi stepT
 simp only [qai,je]
 cases h1:decide (found ≥ 0)
 ·exact .done
 ·cases h2:decide (found<(e.Am.length:Int))
  ·exact .done
  ·have h1:=of_decide_eq_true h1
   have h2:=of_decide_eq_true h2
   simp only [cond_true,jw]
   obtain ⟨k,rfl⟩:∃ k:Nat,found=(k:Int):=⟨found.toNat,by omega⟩
   rw [qay (show k<e.Am.length by omega),jA]
   simp only [je]
   cases (at0 e.Am k==p)
   ·exact .done
   ·exact Ev.now (by rw [qaM (by omega) (by omega)];rfl)
theorem qoy {e:qa} {p:Int} (he:qag e):Ev (fun n=>qdx n e p) (beginT e p):=by
 unfold qdx beginT fromB
 have hs:=qlz (found:=0) (p:=p) he.Am.len
 by_cases h0:e.As.length=0
 ·exact Ev.ff (by simp [h0]) (by rw [decide_eq_true h0];exact Ev.bind hs .done)
 ·refine Ev.tt (by simp;omega) ?_
  rw [decide_eq_false h0,Bool.false_or]
  refine Ev.bind (qlV he.As.len) ?_
  cases hasI e.As p
  ·exact .done
  ·exact Ev.ff rfl (Ev.bind hs .done)
theorem qnq {α:Type} {xs:List α} (h:1≤xs.length):subS xs 1 (xs.length:Int)=some (xs.drop 1):=by
 unfold subS
 rw [if_pos ⟨by omega,by omega,by omega⟩]
 simp
theorem qnJ {e:qa} {xs:List Int} {i0:Int} {j:Nat} (h:j<xs.length):stepT e ((xs.take j).foldl (stepT e) i0) (at0 xs j)=(xs.take (j+1)).foldl (stepT e) i0:=by
 rw [List.take_succ_eq_append_getElem h,List.foldl_append]
 simp [at0,h]
theorem qmQ {e:qa} {xs:List Int} {i0:Int} (he:qag e) (hl:xs.length≤1048576):Ev (fun n=>qdD e xs n i0 0) (xs.foldl (stepT e) i0,(xs.length:Int)):=by
 have:=loopF (Lf:=qdD e xs) (S:=fun j=>(xs.take j).foldl (stepT e) i0) (len:=xs.length) (fin:=(xs.foldl (stepT e) i0,(xs.length:Int)))
  (fun n=>by simp only [qdD,qp (jf _),cond_false,jJ])
  (fun j hj X hX=>by
   simp only [qdD,qn hj,cond_true,qay hj,je,wS j]
   refine Ev.bind (qlz he.Am.len) ?_
   rw [qnJ hj]
   exact hX)
 simpa using this
theorem qn4 {es:List qa} {path:List Int} (he:okL qag es) (h1:1≤path.length) (hl:path.length≤1048576):Ev (fun n=>qhM n es path) (es.map fun e=>runT e path):=by
 have hes:=he.len
 have hL:Ev (fun n=>qdF es path n ([]:List Int) 0) (es.map (fun e=>runT e path),(es.length:Int)):=by
  refine loopF (Lf:=qdF es path) (S:=fun j=>(es.take j).map fun e=>runT e path) (len:=es.length) (fun n=>?_) (fun j hj X hX=>?_)
  ·simp only [qdF,qp (jf _),cond_false,jJ]
  ·have ha:appS ((es.take j).map fun e=>runT e path) [runT (gt es j) path]=some ((es.take (j+1)).map fun e=>runT e path):=by
    rw [qb2 (by rw [jB,List.length_take,jj];omega),qd7 hj]
   have hd:(path.drop 1).length≤1048576:=by rw [List.length_drop];omega
   simp only [qdF,qn hj,cond_true,qZ hj,je,wS j,qnq h1,show idx path 0=some (at0 path 0) from qay (j:=0) (by omega)]
   refine Ev.bind (qoy (qga he hj)) (Ev.bind (qmQ (qga he hj) hd) ?_)
   exact Ev.bindN ha hX
 unfold qhM
 exact Ev.bind hL .done
theorem qiT {b:qc} {path:List Int} (h:dpathB b path=true):1≤path.length∧path.length≤60:=by
 unfold dpathB lenB at h
 simp only [jg,decide_eq_true_eq] at h
 exact h.1
end Go.Fw


namespace Go.Fw
open Go Go.Proofs
open Go.RowKit (Below)
set_option maxRecDepth 100000
set_option maxHeartbeats 6400000
variable {n:Nat} {w:World} {cs1 cs2 cs3 cs4 cs5 cs6 cs7 cs8 cs9:List Value}
def qbU (list:(List qa)) (tag:(List Int)) (place:Int):Nat→(List Int)→Int→Option ((List Int) × Int)
 | 0,_,_=>none
 | n+1,x1,i1 =>
  bif decide (i1<(list.length:Int)) then
   (idx tag i1).bind fun y1 =>
   (
    bif decide (y1 ≥ 0) then
     (idx list i1).bind fun y2 =>
     bif decide (y1<(y2.Am.length:Int)) then
      (idx list i1).bind fun y3 =>
      (idx y3.Am y1).bind fun y4 =>
      some (y4==place)
     else
      some false
    else
     some false).bind fun b2 =>
   bif b2 then
    (appS x1 ([W64 (y1+1)]:List Int)).bind fun x2 =>
    qbU list tag place n x2 (W64 (i1+1))
   else
    (appS x1 ([y1]:List Int)).bind fun x3 =>
    qbU list tag place n x3 (W64 (i1+1))
  else
   some (x1,i1)
def qfI (n:Nat) (list:(List qa)) (tag:(List Int)) (place:Int):Option (List Int) :=
 (qbU list tag place n ([]:List Int) 0).bind fun o=>match o with
 | (x1,_) =>
  some x1
theorem qhX {list:(List qa)} {tag:(List Int)} {place:Int} (ha1:GoT.R w (old w) list cs1) (ha2:GoT.R w (old w) tag cs2) {r:(List Int)} (hF:qfI n list tag place=some r):RetV Tryz.prog 50 [GoT.v (List qa) cs1,GoT.v (List Int) cs2,.int .i64 place] w r:=by
 obtain ⟨p1,k1,rfl,s1⟩:=ha1
 obtain ⟨p2,k2,rfl,s2⟩:=ha2
 refine zV 52 Tryz.func50 rfl fun h=>X0 6 rfl (ql qb [] _ ([]:List Int) h rfl rfl rfl rfl rfl rfl rfl rfl rfl trivial rfl fun w1 p3 S1 h=>X0 7 rfl ?_)
 obtain ⟨o1,hF,hK1⟩:=qe hF
 refine qt (rL (fun m e w'=>∃ (S2:Nat→Prop) (p4:Option Addr) (ln1:Nat) (k3:Nat) (x1:(List Int)) (i1:Int),qbU list tag place m x1 i1=some o1∧e=[(0,.slice p1 list.length k1),(1,.slice p2 tag.length k2),(2,.int .i64 place),(7,.slice p4 ln1 k3),(8,.int .i64 i1)]∧SH w w' [Ch.own S2 (x1:List Int) [.slice p4 ln1 k3]]) n ⟨_,_,_,_,_,_,hF,rfl,h⟩ rfl ?_)
 rintro m1 e1 w2 ⟨S2,p4,ln1,k3,x1,i1,hF,rfl,h⟩
 obtain rfl:=(h.sl 0 rfl).2
 rcases m1 with _|m1
 ·cases hF
 refine X0 8 rfl (qm rfl hF ?_ ?_)<;>intro hF
 ·refine X0 7 rfl ?_
  obtain ⟨y1,hy1,hF,he1,b1,_,q1,cs3,hp1,hq1,rfl,hc2⟩:=s2.ix hF
  refine zxe hp1 hq1 he1 rfl (zc 0 (hc2.below h.below) rfl (X0 4 rfl ?_))
  obtain ⟨KF1,hKF1,o2,hF,hK2⟩:=bindE hF
  refine qa0 (fun e w'=>∃ (b2:Bool),KF1 b2=some o1∧e=[(0,.slice p1 list.length k1),(1,.slice p2 tag.length k2),(2,.int .i64 place),(7,.slice p4 x1.length k3),(8,.int .i64 i1),(9,.int .i64 y1),(44,.bool b2)]∧SH w w' [Ch.own S2 (x1:List Int) [.slice p4 x1.length k3]]) ?_ ?_
  ·refine X0 4 rfl (qj (t:=23) hF rfl ?_ ?_)<;>intro hF
   ·refine X0 7 rfl ?_
    obtain ⟨y2,hy2,hF,he2,b3,_,q2,cs4,hp2,hq2,hr2,hc4⟩:=s1.ix hF
    obtain ⟨p9,k6,p10,k7,p11,k8,rfl,s3,s4,s5⟩:=qX hr2
    refine zxe hp2 hq2 he2 rfl (X0 3 rfl (zc 3 (hc4.below h.below) rfl (X0 6 rfl (qj (t:=33) hF rfl ?_ ?_))))<;>intro hF
    ·refine X0 5 rfl ?_
     obtain ⟨y3,hy3,hF,he3,b4,_,q3,cs5,hp3,hq3,hr3,hc5⟩:=s1.ix hF
     obtain ⟨p12,k9,p13,k10,p14,k11,rfl,s6,s7,s8⟩:=qX hr3
     refine zxe hp3 hq3 he3 rfl (X0 3 rfl (zc 3 (hc5.below h.below) rfl (X0 3 rfl ?_)))
     obtain ⟨y4,hy4,hF,he4,b5,_,q4,cs6,hp4,hq4,rfl,hc6⟩:=s7.ix hF
     refine zxe hp4 hq4 he4 rfl (X0 1 rfl (zc 0 (hc6.below h.below) rfl (X0 6 rfl ?_)))
     obtain rfl:=qd hF
     exact rG ⟨_,hK2,rfl,h⟩ rfl
    refine X0 12 rfl ?_
    obtain rfl:=qd hF
    exact rG ⟨_,hK2,rfl,h⟩ rfl
   refine X0 22 rfl ?_
   obtain rfl:=qd hF
   exact rG ⟨_,hK2,rfl,h⟩ rfl
  rintro e2 w7 ⟨b2,hF,rfl,h⟩
  subst hKF1
  refine qm rfl hF ?_ ?_<;>intro hF
  ·refine X0 8 rfl (ql qb [.tmp 48] _ ([W64 (y1+1)]:List Int) h rfl rfl rfl rfl rfl rfl rfl rfl rfl ⟨rfl,trivial⟩ rfl fun w3 p5 S3 h=>?_)
   obtain ⟨x2,hx1,hF⟩:=qe hF
   obtain ⟨g1,hx1⟩:=qw hx1
   refine qab qb 1 h rfl (h.sl 0 rfl).1 (h.sl 0 rfl).2 rfl rfl rfl rfl rfl rfl rfl rfl rfl g1 hx1 rfl fun w4 p6 k4 S4 h=>X0 8 rfl ?_
   replace h:=h.pick [1] rfl
   exact rK ⟨_,_,_,_,_,_,hF,rfl,h⟩ rfl
  refine X0 4 rfl (ql qb [.tmp 48] _ ([y1]:List Int) h rfl rfl rfl rfl rfl rfl rfl rfl rfl ⟨rfl,trivial⟩ rfl fun w5 p7 S5 h=>?_)
  obtain ⟨x3,hx2,hF⟩:=qe hF
  obtain ⟨g2,hx2⟩:=qw hx2
  refine qab qb 1 h rfl (h.sl 0 rfl).1 (h.sl 0 rfl).2 rfl rfl rfl rfl rfl rfl rfl rfl rfl g2 hx2 rfl fun w6 p8 k5 S6 h=>X0 8 rfl ?_
  replace h:=h.pick [1] rfl
  exact rK ⟨_,_,_,_,_,_,hF,rfl,h⟩ rfl
 refine qz rfl ?_
 obtain rfl:=qd hF;replace hF:=hK1
 refine X0 5 rfl ?_
 obtain rfl:=qd hF
 exact rO 0 h rfl ⟨rfl,trivial⟩
def qbs (list:(List qa)) (place:Int):Nat→(List Int)→Int→Option ((List Int) × Int)
 | 0,_,_=>none
 | n+1,x1,i1 =>
  bif decide (i1<(list.length:Int)) then
   (
    (idx list i1).bind fun y1 =>
    bif decide ((y1.As.length:Int) > 0) then
     (idx list i1).bind fun y2 =>
     (qgi n y2.As place).bind fun r1 =>
     some (decide (r1<0))
    else
     some false).bind fun b1 =>
   bif b1 then
    (appS x1 ([(-1)]:List Int)).bind fun x2 =>
    qbs list place n x2 (W64 (i1+1))
   else
    (appS x1 ([0]:List Int)).bind fun x3 =>
    qbs list place n x3 (W64 (i1+1))
  else
   some (x1,i1)
def qfY (n:Nat) (list:(List qa)) (place:Int):Option (List Int) :=
 (qbs list place n ([]:List Int) 0).bind fun o=>match o with
 | (x1,_) =>
  (qfI n list x1 place).bind fun r2 =>
  some r2
theorem qjE {list:(List qa)} {place:Int} (ha1:GoT.R w (old w) list cs1) {r:(List Int)} (hF:qfY n list place=some r):RetV Tryz.prog 49 [GoT.v (List qa) cs1,.int .i64 place] w r:=by
 obtain ⟨p1,k1,rfl,s1⟩:=ha1
 refine zV 40 Tryz.func49 rfl fun h=>X0 6 rfl (ql qb [] _ ([]:List Int) h rfl rfl rfl rfl rfl rfl rfl rfl rfl trivial rfl fun w1 p2 S1 h=>X0 7 rfl ?_)
 obtain ⟨o1,hF,hK1⟩:=qe hF
 refine qt (rL (fun m e w'=>∃ (S2:Nat→Prop) (p3:Option Addr) (ln1:Nat) (k2:Nat) (x1:(List Int)) (i1:Int),qbs list place m x1 i1=some o1∧e=[(0,.slice p1 list.length k1),(1,.int .i64 place),(5,.slice p3 ln1 k2),(6,.int .i64 i1)]∧SH w w' [Ch.own S2 (x1:List Int) [.slice p3 ln1 k2]]) n ⟨_,_,_,_,_,_,hF,rfl,h⟩ rfl ?_)
 rintro m1 e1 w2 ⟨S2,p3,ln1,k2,x1,i1,hF,rfl,h⟩
 obtain rfl:=(h.sl 0 rfl).2
 rcases m1 with _|m1
 ·cases hF
 refine X0 8 rfl (qm rfl hF ?_ ?_)<;>intro hF
 ·refine X0 9 rfl ?_
  obtain ⟨KF1,hKF1,o2,hF,hK2⟩:=bindE hF
  refine qa0 (fun e w'=>∃ (b1:Bool),KF1 b1=some o1∧e=[(0,.slice p1 list.length k1),(1,.int .i64 place),(5,.slice p3 x1.length k2),(6,.int .i64 i1),(7,.int .i64 0),(31,.bool b1)]∧SH w w' [Ch.own S2 (x1:List Int) [.slice p3 x1.length k2]]) ?_ ?_
  ·refine X0 3 rfl ?_
   obtain ⟨y1,hy1,hF,he1,b2,_,q1,cs2,hp1,hq1,hr1,hc3⟩:=s1.ix hF
   obtain ⟨p8,k5,p9,k6,p10,k7,rfl,s2,s3,s4⟩:=qX hr1
   refine zxe hp1 hq1 he1 rfl (zp1 rfl (zc 2 (hc3.below h.below) rfl (zp3 rfl (qj (t:=22) hF rfl ?_ ?_))))<;>intro hF
   ·refine X0 5 rfl ?_
    obtain ⟨y2,hy2,hF,he2,b3,_,q2,cs3,hp2,hq2,hr2,hc4⟩:=s1.ix hF
    obtain ⟨p11,k8,p12,k9,p13,k10,rfl,s5,s6,s7⟩:=qX hr2
    refine zxe hp2 hq2 he2 rfl (X0 3 rfl (zc 2 (hc4.below h.below) rfl (X0 3 rfl (zcI h hF (qh5 ⟨_,_,rfl,(h.oldS s5)⟩) rfl fun r1 w7 h hF=>X0 4 rfl ?_))))
    obtain rfl:=qd hF
    exact rG ⟨_,hK2,rfl,h⟩ rfl
   refine X0 10 rfl ?_
   obtain rfl:=qd hF
   exact rG ⟨_,hK2,rfl,h⟩ rfl
  rintro e2 w8 ⟨b1,hF,rfl,h⟩
  subst hKF1
  refine qm rfl hF ?_ ?_<;>intro hF
  ·refine X0 6 rfl (ql qb [.tmp 33] _ ([(-1)]:List Int) h rfl rfl rfl rfl rfl rfl rfl rfl rfl ⟨rfl,trivial⟩ rfl fun w3 p4 S3 h=>?_)
   obtain ⟨x2,hx1,hF⟩:=qe hF
   obtain ⟨g1,hx1⟩:=qw hx1
   refine qab qb 1 h rfl (h.sl 0 rfl).1 (h.sl 0 rfl).2 rfl rfl rfl rfl rfl rfl rfl rfl rfl g1 hx1 rfl fun w4 p5 k3 S4 h=>X0 8 rfl ?_
   replace h:=h.pick [1] rfl
   exact rK ⟨_,_,_,_,_,_,hF,rfl,h⟩ rfl
  refine X0 4 rfl (ql qb [.tmp 33] _ ([0]:List Int) h rfl rfl rfl rfl rfl rfl rfl rfl rfl ⟨rfl,trivial⟩ rfl fun w5 p6 S5 h=>?_)
  obtain ⟨x3,hx2,hF⟩:=qe hF
  obtain ⟨g2,hx2⟩:=qw hx2
  refine qab qb 1 h rfl (h.sl 0 rfl).1 (h.sl 0 rfl).2 rfl rfl rfl rfl rfl rfl rfl rfl rfl g2 hx2 rfl fun w6 p7 k4 S6 h=>X0 8 rfl ?_
  replace h:=h.pick [1] rfl
  exact rK ⟨_,_,_,_,_,_,hF,rfl,h⟩ rfl
 refine qz rfl ?_
 obtain rfl:=qd hF;replace hF:=hK1
 refine X0 5 rfl (zcL h hF (qhX ⟨_,_,rfl,(h.oldS s1)⟩ (h.own 0 rfl)) rfl fun r2 w9 S7 p14 k11 h hF=>X0 2 rfl ?_)
 obtain rfl:=qd hF
 exact rO 0 h rfl ⟨rfl,trivial⟩
def qdJ (list:(List qa)) (path:(List Int)):Nat→(List Int)→Int→Option ((List Int) × Int)
 | 0,_,_=>none
 | n+1,x1,i1 =>
  bif decide (i1<(path.length:Int)) then
   (idx path i1).bind fun y2 =>
   (qfI n list x1 y2).bind fun r4 =>
   qdJ list path n r4 (W64 (i1+1))
  else
   some (x1,i1)
def qgS (n:Nat) (b:qc) (list:(List qa)) (path:(List Int)):Option ((List Int) × Int) :=
 (qgr n b list).bind fun r1 =>
 bif (r1 != 0) then some ([],r1) else
 (qe7 n b path).bind fun r2 =>
 bif (!r2) then some ([],2) else
 (idx path 0).bind fun y1 =>
 (qfY n list y1).bind fun r3 =>
 (qdJ list path n r3 1).bind fun o=>match o with
 | (x1,_) =>
  some (x1,0)
theorem qkU {b:qc} {list:(List qa)} {path:(List Int)} (ha1:GoT.R w (old w) b cs1) (ha2:GoT.R w (old w) list cs2) (ha3:GoT.R w (old w) path cs3) {r:((List Int) × Int)} (hF:qgS n b list path=some r):RetV Tryz.prog 15 [GoT.v qc cs1,GoT.v (List qa) cs2,GoT.v (List Int) cs3] w r:=by
 obtain ⟨p1,k1,p2,k2,p3,k3,p4,k4,p5,k5,rfl,s1,s2,s3,s4,s5⟩:=qK ha1
 obtain ⟨p6,k6,rfl,s6⟩:=ha2
 obtain ⟨p7,k7,rfl,s7⟩:=ha3
 refine zV 40 Tryz.func15 rfl fun h=>zSR (qV h rfl rfl fun w1 bb1 h=>X1 7 0 h rfl (zcI h hF (qjX (h.old ha1) ⟨_,_,rfl,(h.oldS s6)⟩) rfl fun r1 w2 h hF=>X0 8 rfl (qm rfl hF ?_ ?_)))<;>intro hF
 ·refine X0 6 rfl ?_
  obtain rfl:=qd hF
  exact qb1 qb (ρ:=((List Int) × Int)) [GoT.v (List Int) [.slice none 0 0],GoT.v Int [.int .i64 r1]] h ⟨rfl,rfl,trivial⟩ (PV.done h (qc6 h qhf (qc5 (qF (S:=fun _=>False) rfl)) (by rfl)))
 refine X1 6 0 h rfl (zcB h hF (qiV (h.old ha1) ⟨_,_,rfl,(h.oldS s7)⟩) rfl fun r2 w3 h hF=>X0 2 rfl (qm rfl hF ?_ ?_))<;>intro hF
 ·refine X0 5 rfl ?_
  obtain rfl:=qd hF
  exact qb1 qb (ρ:=((List Int) × Int)) [GoT.v (List Int) [.slice none 0 0],GoT.v Int [.int .i64 2]] h ⟨rfl,rfl,trivial⟩ (PV.done h (qc6 h qhf (qc5 (qF (S:=fun _=>False) rfl)) (by rfl)))
 refine X0 5 rfl ?_
 obtain ⟨y1,hy1,hF,he1,b1,_,q1,cs4,hp1,hq1,rfl,hc3⟩:=s7.ix hF
 refine zxe hp1 hq1 he1 rfl (zc 0 (hc3.below h.below) rfl (zcL h hF (qjE ⟨_,_,rfl,(h.oldS s6)⟩) rfl fun r3 w4 S1 p8 k8 h hF=>X0 7 rfl ?_))
 obtain ⟨o1,hF,hK1⟩:=qe hF
 refine qt ?_
 replace h:=h.pick [0] rfl
 refine rL (fun m e w'=>∃ (S2:Nat→Prop) (p9:Option Addr) (ln1:Nat) (k9:Nat) (x1:(List Int)) (i1:Int),qdJ list path m x1 i1=some o1∧e=[(1,.slice p6 list.length k6),(2,.slice p7 path.length k7),(9,.slice p9 ln1 k9),(10,.int .i64 i1)]∧SH w w' [Ch.own S2 (x1:List Int) [.slice p9 ln1 k9]]) n ⟨_,_,_,_,_,_,hF,rfl,h⟩ rfl ?_
 rintro m1 e1 w5 ⟨S2,p9,ln1,k9,x1,i1,hF,rfl,h⟩
 obtain rfl:=(h.sl 0 rfl).2
 rcases m1 with _|m1
 ·cases hF
 refine X0 8 rfl (qm rfl hF ?_ ?_)<;>intro hF
 ·refine X0 8 rfl ?_
  obtain ⟨y2,hy2,hF,he2,b2,_,q2,cs5,hp2,hq2,rfl,hc5⟩:=s7.ix hF
  refine zxe hp2 hq2 he2 rfl (zc 0 (hc5.below h.below) rfl (zcL h hF (qhX ⟨_,_,rfl,(h.oldS s6)⟩ (h.own 0 rfl)) rfl fun r4 w6 S3 p10 k10 h hF=>X0 8 rfl ?_))
  replace h:=h.pick [0] rfl
  exact rK ⟨_,_,_,_,_,_,hF,rfl,h⟩ rfl
 refine qz rfl ?_
 obtain rfl:=qd hF;replace hF:=hK1
 refine X0 6 rfl ?_
 obtain rfl:=qd hF
 exact qb1 qb (ρ:=((List Int) × Int)) [GoT.v (List Int) [.slice p9 x1.length k9],GoT.v Int [.int .i64 0]] h ⟨rfl,rfl,trivial⟩ (PV.done h (qc6 h (qB 0 h rfl) (qc5 (qF (S:=fun _=>False) rfl)) (by rfl)))
def qdw (n:Nat) (a_e:qa) (v0:(Option Tview)):Option Bool :=
 (qc8 n v0 a_e).bind fun r1 =>
 some (!r1)
theorem qhv {a_e:qa} {v0:(Option Tview)} (ha1:GoT.R w (old w) a_e cs1) {p4:Option Addr} (ha2:GoT.R w (old w) (some v0) [.pointer p4]) {r:Bool} (hF:qdw n a_e v0=some r):RetV Tryz.prog 108 [GoT.v qa cs1,.pointer p4] w r:=by
 obtain ⟨p1,k1,p2,k2,p3,k3,rfl,s1,s2,s3⟩:=qX ha1
 obtain ⟨b1,o_1,cs2,rfl,-,hr1,hc1⟩:=PtR.get ha2 rfl
 obtain ⟨p5,rfl,s4⟩:=qfF hr1
 exact zV 8 Tryz.func108 rfl fun h=>zSR (qV h rfl rfl fun w1 bb1 h=>X0 4 rfl (zc 0 (hc1.below h.below) rfl (zl 0 0 h rfl (zcB h hF (qhd (h.old s4) (h.old ha1)) rfl fun r1 w2 h hF=>X0 3 rfl (rb h hF rfl)))))
def qC (s:(List qa)) (f_0:(Option Tview)):Nat→Int→Option (Flow Int Int)
 | 0,_=>none
 | n+1,i1 =>
  bif decide (i1<(s.length:Int)) then
   (idx s i1).bind fun y1 =>
   (qdw n y1 f_0).bind fun r1 =>
   bif r1 then some (.ret i1) else
   qC s f_0 n (W64 (i1+1))
  else
   some (.nxt i1)
def qaq (n:Nat) (s:(List qa)) (f_0:(Option Tview)):Option Int :=
 (qC s f_0 n 0).bind fun o=>match o with
 | .ret r=>some r
 | .nxt _ =>
  some (-1)
theorem qck {s:(List qa)} {f_0:(Option Tview)} (ha1:GoT.R w (old w) s cs1) {p2:Option Addr} (ha2:GoT.R w (old w) (some f_0) [.pointer p2]) {r:Int} (hF:qaq n s f_0=some r):RetV Tryz.prog 138 [GoT.v (List qa) cs1,.func (.func 108) #[] #[.pointer p2]] w r:=by
 obtain ⟨p1,k1,rfl,s1⟩:=ha1
 obtain ⟨b1,o_1,cs2,rfl,-,hr1,hc1⟩:=PtR.get ha2 rfl
 obtain ⟨p3,rfl,s2⟩:=qfF hr1
 refine zV 19 Tryz.func138 rfl fun h=>X0 11 rfl ?_
 obtain ⟨o1,hF,hK1⟩:=qe hF
 refine qt (rL (fun m e w'=>∃ (i1:Int),qC s f_0 m i1=some o1∧e=[(0,.slice p1 s.length k1),(1,.func (.func 108) #[] #[.pointer (some ⟨b1,o_1,none⟩)]),(7,.int .i64 (s.length:Int)),(8,.int .i64 i1)]∧SH w w' []) n ⟨_,hF,rfl,h⟩ rfl ?_)
 rintro m1 e1 w1 ⟨i1,hF,rfl,h⟩
 rcases m1 with _|m1
 ·cases hF
 refine X0 5 rfl (qm rfl hF ?_ ?_)<;>intro hF
 ·refine X0 13 rfl ?_
  obtain ⟨y1,hy1,hF,he1,b2,_,q1,cs3,hp1,hq1,hr2,hc3⟩:=s1.ix hF
  obtain ⟨p4,k2,p5,k3,p6,k4,rfl,s3,s4,s5⟩:=qX hr2
  refine zxe hp1 hq1 he1 rfl (zc 0 (hc3.below h.below) rfl (zcB h hF (qhv (qey y1 (h.oldS s3) (h.oldS s4) (h.oldS s5)) (h.old ha2)) rfl fun r1 w2 h hF=>qa8 (qm rfl hF ?_ ?_)))<;>intro hF
  ·refine X0 5 rfl ?_
   obtain rfl:=qd hF;replace hF:=hK1
   exact ri h hF rfl
  exact X0 6 rfl (rK ⟨_,hF,rfl,h⟩ rfl)
 refine qz rfl ?_
 obtain rfl:=qd hF;replace hF:=hK1
 exact X0 4 rfl (ri h hF rfl)
def qW (n:Nat) (s:(List qa)) (f_0:(Option Tview)):Option Bool :=
 (qaq n s f_0).bind fun r1 =>
 some (decide (r1 ≥ 0))
theorem qb9 {s:(List qa)} {f_0:(Option Tview)} (ha1:GoT.R w (old w) s cs1) {p2:Option Addr} (ha2:GoT.R w (old w) (some f_0) [.pointer p2]) {r:Bool} (hF:qW n s f_0=some r):RetV Tryz.prog 107 [GoT.v (List qa) cs1,.func (.func 108) #[] #[.pointer p2]] w r:=by
 obtain ⟨p1,k1,rfl,s1⟩:=ha1
 obtain ⟨b1,o_1,cs2,rfl,-,hr1,hc1⟩:=PtR.get ha2 rfl
 obtain ⟨p3,rfl,s2⟩:=qfF hr1
 exact zV 9 Tryz.func107 rfl fun h=>X0 8 rfl (zcI h hF (qck ⟨_,_,rfl,(h.oldS s1)⟩ (h.old ha2)) rfl fun r1 w1 h hF=>X0 3 rfl (rb h hF rfl))
def qec (n:Nat) (b:qc) (list:(List qa)):Option ((Option Tview) × Int) :=
 (qgx n b).bind fun r1 =>
 bif (!r1) then some (none,1) else
 bif decide ((list.length:Int) > 6) then some (none,3) else
 (qgu n b).bind fun r2 =>
 (qW n list r2).bind fun r3 =>
 bif r3 then some (none,5) else
 some (r2,0)
theorem qh1 {A:Nat→Prop} (hA:∀ b,A b→old w b) {b:qc} {list:(List qa)} (ha1:GoT.R w A b cs1) (ha2:GoT.R w A list cs2) {r:((Option Tview) × Int)} (hF:qec n b list=some r):RetG Tryz.prog 61 [GoT.v qc cs1,GoT.v (List qa) cs2] w A r:=by
 obtain ⟨p1,k1,p2,k2,p3,k3,p4,k4,p5,k5,rfl,s1,s2,s3,s4,s5⟩:=qK ha1
 obtain ⟨p6,k6,rfl,s6⟩:=ha2
 have hg:=Rg.start hA
 refine qfl Tryz.func61 rfl (m:=21) rfl rfl (fun h=>?_)
 refine zSR (qV h rfl rfl fun w1 bb1 h=>X1 8 0 h rfl (zcB h hF (qjU (h.old (GoT.mono ha1 hg.old))) rfl fun r1 w2 h hF=>X0 3 rfl (qm rfl hF ?_ ?_)))<;>intro hF
 ·refine X0 5 rfl ?_
  obtain rfl:=qd hF
  have hv1:GoRs.Rs (ρ:=((Option Tview) × Int)) h.wc (reg A w h.wc) (none,1) [GoT.v (Option Tview) [.pointer none],GoT.v Int [.int .i64 1]]:=⟨_,_,rfl,rfl,⟨_,rfl,rfl⟩⟩
  exact qfQ qb (ρ:=((Option Tview) × Int)) (r:=(none,1)) [GoT.v (Option Tview) [.pointer none],GoT.v Int [.int .i64 1]] h ⟨rfl,rfl,trivial⟩ hv1
 refine X0 7 rfl (qm rfl hF ?_ ?_)<;>intro hF
 ·refine X0 5 rfl ?_
  obtain rfl:=qd hF
  have hv2:GoRs.Rs (ρ:=((Option Tview) × Int)) h.wc (reg A w h.wc) (none,3) [GoT.v (Option Tview) [.pointer none],GoT.v Int [.int .i64 3]]:=⟨_,_,rfl,rfl,⟨_,rfl,rfl⟩⟩
  exact qfQ qb (ρ:=((Option Tview) × Int)) (r:=(none,3)) [GoT.v (Option Tview) [.pointer none],GoT.v Int [.int .i64 3]] h ⟨rfl,rfl,trivial⟩ hv2
 refine X1 5 0 h rfl ?_
 obtain ⟨r2,hr2,hF⟩:=qe hF
 refine qkb r2 hg h (cB 35 rfl) (qjR (hg.regOld h) (hg.inR h ha1) hr2) rfl rfl rfl rfl fun w3 us1 B1 hg1 hu1 hz1 hv3=>?_
 have hL1:=h.ext hu1.below
 have s7:=Up.S hg h hu1 s6
 have hb1:=h.below.trans (hu1.below.mono h.below.size)
 replace h:=hz1
 obtain ⟨cs3,rfl,hr3⟩:=qhb hv3
 obtain ⟨p7,rfl,s8⟩:=qfF hr3
 refine qD qb h rfl rfl rfl fun w4 bb2 h=>zs 0 h rfl fun w5 h=>X0 6 rfl (zcB h hF (qb9 ⟨_,_,rfl,(h.oldS (s7.mono hg1.old))⟩ (qgQ (x:=r2) 0 h rfl (h.old (GoT.mono s8 hg1.old)))) rfl fun r3 w6 h hF=>qa8 (qm rfl hF ?_ ?_))<;>intro hF
 ·refine X0 5 rfl ?_
  obtain rfl:=qd hF
  have hv4:GoRs.Rs (ρ:=((Option Tview) × Int)) h.wc (reg A w h.wc) (none,5) [GoT.v (Option Tview) [.pointer none],GoT.v Int [.int .i64 5]]:=⟨_,_,rfl,rfl,⟨_,rfl,rfl⟩⟩
  exact qfQ qb (ρ:=((Option Tview) × Int)) (r:=(none,5)) [GoT.v (Option Tview) [.pointer none],GoT.v Int [.int .i64 5]] (h.unbase hg1.below ⟨fun _ h=>h,trivial⟩) ⟨rfl,rfl,trivial⟩ hv4
 refine X1 7 0 h rfl ?_
 obtain rfl:=qd hF
 have hv5:GoRs.Rs (ρ:=((Option Tview) × Int)) h.wc (reg A w h.wc) (r2,0) [GoT.v (Option Tview) [.pointer p7],GoT.v Int [.int .i64 0]]:=⟨_,_,rfl,(hg1.outR h (hg1.inR h s8)),⟨_,rfl,rfl⟩⟩
 exact qfQ qb (ρ:=((Option Tview) × Int)) (r:=(r2,0)) [GoT.v (Option Tview) [.pointer p7],GoT.v Int [.int .i64 0]] (h.unbase hg1.below ⟨fun _ h=>h,trivial⟩) ⟨rfl,rfl,trivial⟩ hv5
def qfL (n:Nat) (b:qc) (list:(List qa)) (place:Int):Option ((Option Tview) × Int) :=
 (qec n b list).bind fun o=>match o with
  | (r2,r3) =>
   bif (r3==0) then
    (qeq n r2 place).bind fun r4 =>
    bif (!r4) then some (none,2) else
    some (r2,r3)
   else
    some (r2,r3)
theorem qhY {A:Nat→Prop} (hA:∀ b,A b→old w b) {b:qc} {list:(List qa)} {place:Int} (ha1:GoT.R w A b cs1) (ha2:GoT.R w A list cs2) {r:((Option Tview) × Int)} (hF:qfL n b list place=some r):RetG Tryz.prog 51 [GoT.v qc cs1,GoT.v (List qa) cs2,.int .i64 place] w A r:=by
 obtain ⟨p1,k1,p2,k2,p3,k3,p4,k4,p5,k5,rfl,s1,s2,s3,s4,s5⟩:=qK ha1
 obtain ⟨p6,k6,rfl,s6⟩:=ha2
 have hg:=Rg.start hA
 refine qfl Tryz.func51 rfl (m:=26) rfl rfl (fun h=>?_)
 refine zSR (qV h rfl rfl fun w1 bb1 h=>X1 7 0 h rfl ?_)
 obtain ⟨r1,hr1,hF⟩:=qe hF
 obtain ⟨r2,r3⟩:=r1
 refine qkb (r2,r3) hg h (cB 61 rfl) (qh1 (hg.regOld h) (hg.inR h ha1) ⟨_,_,rfl,(hg.inS h s6)⟩ hr1) rfl rfl rfl rfl fun w2 us1 B1 hg1 hu1 hz1 hv1=>?_
 have hL1:=h.ext hu1.below
 have hb1:=h.below.trans (hu1.below.mono h.below.size)
 replace h:=hz1
 obtain ⟨cs3,us2,rfl,hr2,hv2⟩:=qfo hv1
 obtain ⟨p7,rfl,s7⟩:=qfF hr2
 obtain ⟨cs4,rfl,hr3⟩:=qhb hv2
 obtain rfl:=hr3
 refine X0 12 rfl (qj (t:=18) hF rfl ?_ ?_)<;>intro hF
 ·refine X0 5 rfl (zcB h hF (qh3 (h.old (GoT.mono s7 hg1.old))) rfl fun r4 w3 h hF=>X0 4 rfl (qm rfl hF ?_ ?_))<;>intro hF
  ·refine X0 5 rfl ?_
   obtain rfl:=qd hF
   have hv3:GoRs.Rs (ρ:=((Option Tview) × Int)) h.wc (reg A w h.wc) (none,2) [GoT.v (Option Tview) [.pointer none],GoT.v Int [.int .i64 2]]:=⟨_,_,rfl,rfl,⟨_,rfl,rfl⟩⟩
   exact qfQ qb (ρ:=((Option Tview) × Int)) (r:=(none,2)) [GoT.v (Option Tview) [.pointer none],GoT.v Int [.int .i64 2]] (h.unbase hg1.below (show NoD [] from trivial)) ⟨rfl,rfl,trivial⟩ hv3
  refine X0 8 rfl ?_
  obtain rfl:=qd hF
  have hv4:GoRs.Rs (ρ:=((Option Tview) × Int)) h.wc (reg A w h.wc) (r2,r3) [GoT.v (Option Tview) [.pointer p7],GoT.v Int [.int .i64 r3]]:=⟨_,_,rfl,(hg1.outR h (hg1.inR h s7)),⟨_,rfl,rfl⟩⟩
  exact qfQ qb (ρ:=((Option Tview) × Int)) (r:=(r2,r3)) [GoT.v (Option Tview) [.pointer p7],GoT.v Int [.int .i64 r3]] (h.unbase hg1.below (show NoD [] from trivial)) ⟨rfl,rfl,trivial⟩ hv4
 refine X0 6 rfl (qcp rfl rfl (X0 8 rfl ?_))
 obtain rfl:=qd hF
 have hv5:GoRs.Rs (ρ:=((Option Tview) × Int)) h.wc (reg A w h.wc) (r2,r3) [GoT.v (Option Tview) [.pointer p7],GoT.v Int [.int .i64 r3]]:=⟨_,_,rfl,(hg1.outR h (hg1.inR h s7)),⟨_,rfl,rfl⟩⟩
 exact qfQ qb (ρ:=((Option Tview) × Int)) (r:=(r2,r3)) [GoT.v (Option Tview) [.pointer p7],GoT.v Int [.int .i64 r3]] (h.unbase hg1.below (show NoD [] from trivial)) ⟨rfl,rfl,trivial⟩ hv5
def qf3 (n:Nat) (b:qc) (list:(List qa)) (place:Int):Option ((List Int) × Int) :=
 (qfL n b list place).bind fun o=>match o with
  | (_,r3) =>
   bif (r3 != 0) then some ([],r3) else
   (qhM n list ([place]:List Int)).bind fun r4 =>
   some (r4,0)
theorem qjq {b:qc} {list:(List qa)} {place:Int} (ha1:GoT.R w (old w) b cs1) (ha2:GoT.R w (old w) list cs2) {r:((List Int) × Int)} (hF:qf3 n b list place=some r):RetV Tryz.prog 16 [GoT.v qc cs1,GoT.v (List qa) cs2,.int .i64 place] w r:=by
 obtain ⟨p1,k1,p2,k2,p3,k3,p4,k4,p5,k5,rfl,s1,s2,s3,s4,s5⟩:=qK ha1
 obtain ⟨p6,k6,rfl,s6⟩:=ha2
 refine zV 24 Tryz.func16 rfl fun h=>zSR (qV h rfl rfl fun w1 bb1 h=>X1 9 0 h rfl ?_)
 have hg1:Rg (old w) w (old w) w:=.start (fun _ h=>h)
 obtain ⟨r1,hr1,hF⟩:=qe hF
 obtain ⟨r2,r3⟩:=r1
 refine qkb (r2,r3) hg1 h (cB 51 rfl) (qhY (hg1.regOld h) (hg1.inR h ha1) ⟨_,_,rfl,(hg1.inS h s6)⟩ hr1) rfl rfl rfl rfl fun w2 us1 B1 hg2 hu1 hz1 hv1=>?_
 have hL1:=h.ext hu1.below
 have s7:=Up.S hg1 h hu1 s6
 have hb1:=h.below.trans (hu1.below.mono h.below.size)
 replace h:=hz1
 obtain ⟨cs3,us2,rfl,hr2,hv2⟩:=qfo hv1
 obtain ⟨p7,rfl,s8⟩:=qfF hr2
 obtain ⟨cs4,rfl,hr3⟩:=qhb hv2
 obtain rfl:=hr3
 refine X0 11 rfl (qm rfl hF ?_ ?_)<;>intro hF
 ·refine X0 6 rfl ?_
  replace h:=h.unbase hg2.below (show NoD [] from trivial)
  obtain rfl:=qd hF
  exact qb1 qb (ρ:=((List Int) × Int)) [GoT.v (List Int) [.slice none 0 0],GoT.v Int [.int .i64 r3]] h ⟨rfl,rfl,trivial⟩ (PV.done h (qc6 h qhf (qc5 (qF (S:=fun _=>False) rfl)) (by rfl)))
 refine X0 5 rfl (ql qb [.tmp 21] _ ([place]:List Int) h rfl rfl rfl rfl rfl rfl rfl rfl rfl ⟨rfl,trivial⟩ rfl fun w3 p8 S1 h=>zcL h hF (qkR ⟨_,_,rfl,(h.oldS (s7.mono hg2.old))⟩ (h.own 0 rfl)) rfl fun r4 w4 S2 p9 k7 h hF=>X0 3 rfl ?_)
 replace h:=h.unbase hg2.below ⟨fun _ h=>h,⟨fun _ h=>h,trivial⟩⟩
 obtain rfl:=qd hF
 exact qb1 qb (ρ:=((List Int) × Int)) [GoT.v (List Int) [.slice p9 r4.length k7],GoT.v Int [.int .i64 0]] h ⟨rfl,rfl,trivial⟩ (PV.done h (qc6 h (qB 0 h rfl) (qc5 (qF (S:=fun _=>False) rfl)) (by rfl)))
def qeG (list:(List qa)) (tag:(List Int)):Nat→Int→Option (Flow Bool Int)
 | 0,_=>none
 | n+1,i1 =>
  bif decide (i1<(list.length:Int)) then
   (idx list i1).bind fun y1 =>
   (idx tag i1).bind fun y2 =>
   (qai n y1.Am).bind fun r1 =>
   (qao n y2 (-1) r1).bind fun r2 =>
   bif (!r2) then some (.ret false) else
   qeG list tag n (W64 (i1+1))
  else
   some (.nxt i1)
def qiB (n:Nat) (list:(List qa)) (tag:(List Int)):Option Bool :=
 bif ((tag.length:Int) != (list.length:Int)) then some false else
 (qeG list tag n 0).bind fun o=>match o with
 | .ret r=>some r
 | .nxt _ =>
  some true
theorem qlI {list:(List qa)} {tag:(List Int)} (ha1:GoT.R w (old w) list cs1) (ha2:GoT.R w (old w) tag cs2) {r:Bool} (hF:qiB n list tag=some r):RetV Tryz.prog 53 [GoT.v (List qa) cs1,GoT.v (List Int) cs2] w r:=by
 obtain ⟨p1,k1,rfl,s1⟩:=ha1
 obtain ⟨p2,k2,rfl,s2⟩:=ha2
 refine zV 29 Tryz.func53 rfl fun h=>X0 13 rfl (qm rfl hF ?_ ?_)<;>intro hF
 ·exact X0 4 rfl (rb h hF rfl)
 refine X0 8 rfl ?_
 obtain ⟨o1,hF,hK1⟩:=qe hF
 refine qt (rL (fun m e w'=>∃ (i1:Int),qeG list tag m i1=some o1∧e=[(1,.slice p2 tag.length k2),(12,.slice p1 list.length k1),(13,.int .i64 (list.length:Int)),(14,.int .i64 i1)]∧SH w w' []) n ⟨_,hF,rfl,h⟩ rfl ?_)
 rintro m1 e1 w1 ⟨i1,hF,rfl,h⟩
 rcases m1 with _|m1
 ·cases hF
 refine X0 5 rfl (qm rfl hF ?_ ?_)<;>intro hF
 ·refine X0 6 rfl ?_
  obtain ⟨y1,hy1,hF,he1,b1,_,q1,cs3,hp1,hq1,hr1,hc3⟩:=s1.ix hF
  obtain ⟨p3,k3,p4,k4,p5,k5,rfl,s3,s4,s5⟩:=qX hr1
  refine zxe hp1 hq1 he1 rfl (zc 0 (hc3.below h.below) rfl (qD qb h rfl rfl rfl fun w2 bb1 h=>zp1 rfl (zs 0 h rfl fun w3 h=>zNS (rD (zd2 rfl ?_)))))
  obtain ⟨y2,hy2,hF,he2,b2,_,q2,cs4,hp2,hq2,rfl,hc4⟩:=s2.ix hF
  refine zdxe hp2 hq2 he2 rfl (zdc 0 (hc4.below h.below) rfl (Y1 2 0 h rfl ?_))
  obtain ⟨r1,hr3,hF⟩:=qe hF
  refine qcB r1 (vsI _) (cB 73 rfl) (fun _ hb=>qaP ⟨_,_,rfl,((h.ext hb).oldS s4)⟩ hr3) rfl rfl rfl rfl ?_
  obtain ⟨r2,hr4,hF⟩:=qe hF
  refine qcB r2 (vsB _) (cB 76 rfl) (fun _ hb=>qad  hr4) rfl rfl rfl rfl (zd1 rfl (dN h fun w4 h=>qm rfl hF ?_ ?_))<;>intro hF
  ·refine X0 4 rfl ?_
   obtain rfl:=qd hF;replace hF:=hK1
   exact rb h hF rfl
  refine X0 6 rfl ?_
  replace h:=h.pick [] rfl
  exact rK ⟨_,hF,rfl,h⟩ rfl
 refine qz rfl ?_
 obtain rfl:=qd hF;replace hF:=hK1
 exact X0 4 rfl (rb h hF rfl)
def qcv (list:(List qa)) (tag:(List Int)) (place:Int):Nat→(List Int)→Int→Option ((List Int) × Int)
 | 0,_,_=>none
 | n+1,x1,i1 =>
  bif decide (i1<(list.length:Int)) then
   (idx list i1).bind fun y1 =>
   (idx tag i1).bind fun y2 =>
   (qbi n y1 y2 place).bind fun r2 =>
   (idx x1 i1).bind fun _ =>
   qcv list tag place n (setS x1 i1 r2) (W64 (i1+1))
  else
   some (x1,i1)
def qgB (n:Nat) (list:(List qa)) (tag:(List Int)) (place:Int):Option (List Int) :=
 (qb4 n tag).bind fun r1 =>
 (qcv list tag place n r1 0).bind fun o=>match o with
 | (x1,_) =>
  some x1
theorem qjW {list:(List qa)} {tag:(List Int)} {place:Int} (ha1:GoT.R w (old w) list cs1) (ha2:GoT.R w (old w) tag cs2) {r:(List Int)} (hF:qgB n list tag place=some r):RetV Tryz.prog 54 [GoT.v (List qa) cs1,GoT.v (List Int) cs2,.int .i64 place] w r:=by
 obtain ⟨p1,k1,rfl,s1⟩:=ha1
 obtain ⟨p2,k2,rfl,s2⟩:=ha2
 refine zV 31 Tryz.func54 rfl fun h=>X0 7 rfl (zcL h hF (qfN ⟨_,_,rfl,(h.oldS s2)⟩) rfl fun r1 w1 S1 p3 k3 h hF=>X0 9 rfl ?_)
 obtain ⟨o1,hF,hK1⟩:=qe hF
 refine qt (rL (fun m e w'=>∃ (x1:(List Int)) (i1:Int),qcv list tag place m x1 i1=some o1∧e=[(1,.slice p2 tag.length k2),(2,.int .i64 place),(7,.slice p3 r1.length k3),(12,.slice p1 list.length k1),(13,.int .i64 (list.length:Int)),(14,.int .i64 i1)]∧SH w w' [Ch.own S1 (x1:List Int) [.slice p3 r1.length k3]]) n ⟨_,_,hF,rfl,h⟩ rfl ?_)
 rintro m1 e1 w2 ⟨x1,i1,hF,rfl,h⟩
 rcases m1 with _|m1
 ·cases hF
 refine X0 5 rfl (qm rfl hF ?_ ?_)<;>intro hF
 ·refine X0 6 rfl ?_
  obtain ⟨y1,hy1,hF,he1,b1,_,q1,cs3,hp1,hq1,hr2,hc2⟩:=s1.ix hF
  obtain ⟨p4,k4,p5,k5,p6,k6,rfl,s3,s4,s5⟩:=qX hr2
  refine zxe hp1 hq1 he1 rfl (zc 0 (hc2.below h.below) rfl (qD qb h rfl rfl rfl fun w3 bb1 h=>zp1 rfl (zs 0 h rfl fun w4 h=>qa8 (rA [] [0] h rfl fun w5 h=>M1 31 [0,1,2,3,4] 0 (h.pick [0] rfl) rfl ?_))))
  obtain ⟨y2,hy2,hF,he2,b2,_,q2,cs4,hp2,hq2,rfl,hc3⟩:=s2.ix hF
  refine Ae 5 63 hp2 hq2 he2 (h.pick [0] rfl) rfl (Al 6 127 0 hc3 (h.pick [0] rfl) rfl (M0 255 [7] (h.pick [0] rfl) rfl (Ao 8 511 rfl (zcI h hF (qcK (qey y1 (h.oldS s3) (h.oldS s4) (h.oldS s5))) rfl fun r2 w6 h hF=>Ag (h.pick [0] rfl) ?_))))
  obtain ⟨y3,hy3,hF,he3,b3,_,q3,cs5,hp3,hq3,rfl,hc4⟩:=(h.sl 1 rfl).1.ix hF
  refine Ax 9 1023 hp3 hq3 ⟨he3.1,qT he3.2.1 (h.sl 1 rfl).2⟩ (h.pick [0] rfl) rfl (Ao 10 2047 rfl (qc9 qb 1 0 r2 h rfl hy3 hp3 hq3 rfl hc4 rfl rfl rfl rfl rfl rfl rfl fun w7 h=>Ag (h.pick [0] rfl) (Ad (X0 5 rfl ?_))))
  replace h:=h.pick [1] rfl
  exact rK ⟨_,_,hF,rfl,h⟩ rfl
 refine qz rfl ?_
 obtain rfl:=qd hF;replace hF:=hK1
 refine X0 5 rfl ?_
 obtain rfl:=qd hF
 exact rO 0 h rfl ⟨rfl,trivial⟩
def qgy (n:Nat) (b:qc) (list:(List qa)) (tag:(List Int)) (place:Int):Option ((List Int) × Int) :=
 (qfL n b list place).bind fun o=>match o with
  | (_,r3) =>
   bif (r3 != 0) then some ([],r3) else
   (qiB n list tag).bind fun r4 =>
   bif (!r4) then some ([],2) else
   (qgB n list tag place).bind fun r5 =>
   some (r5,0)
theorem qgk {b:qc} {list:(List qa)} {tag:(List Int)} {place:Int} (ha1:GoT.R w (old w) b cs1) (ha2:GoT.R w (old w) list cs2) (ha3:GoT.R w (old w) tag cs3) {r:((List Int) × Int)} (hF:qgy n b list tag place=some r):RetV Tryz.prog 17 [GoT.v qc cs1,GoT.v (List qa) cs2,GoT.v (List Int) cs3,.int .i64 place] w r:=by
 obtain ⟨p1,k1,p2,k2,p3,k3,p4,k4,p5,k5,rfl,s1,s2,s3,s4,s5⟩:=qK ha1
 obtain ⟨p6,k6,rfl,s6⟩:=ha2
 obtain ⟨p7,k7,rfl,s7⟩:=ha3
 refine zV 32 Tryz.func17 rfl fun h=>zSR (qV h rfl rfl fun w1 bb1 h=>X1 8 0 h rfl ?_)
 have hg1:Rg (old w) w (old w) w:=.start (fun _ h=>h)
 obtain ⟨r1,hr1,hF⟩:=qe hF
 obtain ⟨r2,r3⟩:=r1
 refine qkb (r2,r3) hg1 h (cB 51 rfl) (qhY (hg1.regOld h) (hg1.inR h ha1) ⟨_,_,rfl,(hg1.inS h s6)⟩ hr1) rfl rfl rfl rfl fun w2 us1 B1 hg2 hu1 hz1 hv1=>?_
 have hL1:=h.ext hu1.below
 have s8:=Up.S hg1 h hu1 s6
 have s9:=Up.S hg1 h hu1 s7
 have hb1:=h.below.trans (hu1.below.mono h.below.size)
 replace h:=hz1
 obtain ⟨cs4,us2,rfl,hr2,hv2⟩:=qfo hv1
 obtain ⟨p8,rfl,s10⟩:=qfF hr2
 obtain ⟨cs5,rfl,hr3⟩:=qhb hv2
 obtain rfl:=hr3
 refine X0 14 rfl (qm rfl hF ?_ ?_)<;>intro hF
 ·refine X0 6 rfl ?_
  replace h:=h.unbase hg2.below (show NoD [] from trivial)
  obtain rfl:=qd hF
  exact qb1 qb (ρ:=((List Int) × Int)) [GoT.v (List Int) [.slice none 0 0],GoT.v Int [.int .i64 r3]] h ⟨rfl,rfl,trivial⟩ (PV.done h (qc6 h qhf (qc5 (qF (S:=fun _=>False) rfl)) (by rfl)))
 refine X0 4 rfl (zcB h hF (qlI ⟨_,_,rfl,(h.oldS (s8.mono hg2.old))⟩ ⟨_,_,rfl,(h.oldS (s9.mono hg2.old))⟩) rfl fun r4 w3 h hF=>X0 3 rfl (qm rfl hF ?_ ?_))<;>intro hF
 ·refine X0 5 rfl ?_
  replace h:=h.unbase hg2.below (show NoD [] from trivial)
  obtain rfl:=qd hF
  exact qb1 qb (ρ:=((List Int) × Int)) [GoT.v (List Int) [.slice none 0 0],GoT.v Int [.int .i64 2]] h ⟨rfl,rfl,trivial⟩ (PV.done h (qc6 h qhf (qc5 (qF (S:=fun _=>False) rfl)) (by rfl)))
 refine X0 7 rfl (zcL h hF (qjW ⟨_,_,rfl,(h.oldS (s8.mono hg2.old))⟩ ⟨_,_,rfl,(h.oldS (s9.mono hg2.old))⟩) rfl fun r5 w4 S1 p9 k8 h hF=>X0 3 rfl ?_)
 replace h:=h.unbase hg2.below ⟨fun _ h=>h,trivial⟩
 obtain rfl:=qd hF
 exact qb1 qb (ρ:=((List Int) × Int)) [GoT.v (List Int) [.slice p9 r5.length k8],GoT.v Int [.int .i64 0]] h ⟨rfl,rfl,trivial⟩ (PV.done h (qc6 h (qB 0 h rfl) (qc5 (qF (S:=fun _=>False) rfl)) (by rfl)))
end Go.Fw


namespace Go.Fw
open Go
set_option maxRecDepth 100000
def codeX (b:qc) (es:List qa):Int:=bif blockB b then (bif decide (es.length≤6) then (bif es.all (excB b) then 0 else 5) else 3) else 1
def codeP (b:qc) (es:List qa) (p:Int):Int:=bif codeX b es==0 then (bif inPl b p then codeX b es else 2) else codeX b es
theorem qkr {b:qc} {es:List qa} (h:codeX b es=0):blockB b=true∧es.length≤6∧es.all (excB b)=true:=by
 unfold codeX at h
 cases h1:blockB b
 ·rw [h1] at h;cases h
 ·rw [h1] at h
  cases h2:decide (es.length≤6)
  ·rw [h2] at h;cases h
  ·rw [h2] at h
   cases h3:es.all (excB b)
   ·rw [h3] at h;cases h
   ·exact ⟨rfl,of_decide_eq_true h2,rfl⟩
theorem qmJ {b:qc} {es:List qa} (hok:qce b) (hes:okL qag es):Ev (fun n=>qgr n b es) (codeX b es):=by
 have hlen:=hes.len
 unfold qgr codeX
 refine Ev.chk1 (qg9 hok) fun h=>?_
 rw [show decide ((es.length:Int) > 6) = !decide (es.length≤6) from qhI (k:=6)]
 simp only [qaC]
 refine Ev.okP1 fun _=>?_
 have hL:Ev (fun n=>qdh b es n 0) (bif es.all (excB b) then .nxt (es.length:Int) else .ret 5):=by
  rw [qfR]
  refine qdc (Ev.succ ?_) (fun j hj X hX=>Ev.succ ?_)
  ·simp only [qdh,qp (jf _),cond_false];exact .done
  ·simp only [qdh,qn hj,cond_true,qZ hj,je,wS j]
   have:=qj5 hok (qga hes hj)
   rw [h,jw] at this
   exact Ev.chk1 this fun _=>hX
 refine Ev.bind hL ?_
 cases es.all (excB b)<;>exact .done
theorem qov {b:qc} {es:List qa} (hok:qce b) (hes:okL qag es) :
  ∃ o,Ev (fun n=>qec n b es) (o,codeX b es)∧(codeX b es=0→∃ ls lo de,o=some ⟨b,places b.Aa,ls,lo,de,[]⟩):=by
 have hlen:=hes.len
 unfold qec codeX
 cases h:blockB b
 ·exact ⟨none,Ev.bind (qkF hok) (Ev.tt (by rw [h];rfl) .done),fun h=>by cases h⟩
 ·have hb:=qkF hok
  rw [h] at hb
  obtain ⟨ls,lo,de,ev⟩:=qmD h
  cases h6:decide (es.length≤6)
  ·exact ⟨none,Ev.bind hb (Ev.ff rfl (Ev.tt (by rw [show decide ((es.length:Int) > 6) = !decide (es.length≤6) from qhI (k:=6),h6];rfl) .done)),fun h=>by cases h⟩
  ·have hc:Ev (fun n=>qW n es (some ⟨b,places b.Aa,ls,lo,de,[]⟩)) (!es.all (excB b)):=by
    unfold qW
    refine Ev.bind (b:=ixL (fun e=>!excB b e) es) (qdY (fin:=(es.length:Int)) (Lf:=qC es (some ⟨b,places b.Aa,ls,lo,de,[]⟩))
     (pf:=fun n x=>qdw n x (some ⟨b,places b.Aa,ls,lo,de,[]⟩)) (fun x hx=>?_)
     (fun n=>by simp only [qC,qp (jf _),cond_false])
     (fun n j x hx=>by
      have hj:=(List.getElem?_eq_some_iff.1 hx).1
      simp only [qC,qn hj,cond_true,qfp hx,je,wS j])
     (fun n=>by unfold qaq;congr 1;funext o;cases o<;>rfl)) (Ev.now ?_)
    ·unfold qdw
     exact Ev.neg (qkq h rfl (hes.2 x hx))
    ·rw [qha,←qi5,Bool.not_not]
   cases h3:es.all (excB b)
   ·rw [h3] at hc
    exact ⟨none,Ev.bind hb (Ev.ff rfl (Ev.ff (by rw [show decide ((es.length:Int) > 6) = !decide (es.length≤6) from qhI (k:=6),h6];rfl) (Ev.bind ev (Ev.bind hc .done)))),fun h=>by cases h⟩
   ·rw [h3] at hc
    exact ⟨_,Ev.bind hb (Ev.ff rfl (Ev.ff (by rw [show decide ((es.length:Int) > 6) = !decide (es.length≤6) from qhI (k:=6),h6];rfl) (Ev.bind ev (Ev.bind hc .done)))),fun _=>⟨ls,lo,de,rfl⟩⟩
theorem ql7 {b:qc} {V:Tview} {p:Int} (h:blockB b=true) (hP:V.places=places b.Aa):Ev (fun n=>qeq n (some V) p) (inPl b p):=by
 have hpl:=qav (qQ (qan h))
 refine Ev.now (x:=some (inPl b p)) rfl |>.congr fun n=>?_
 unfold qeq
 simp only [je,qaR,hP,qcr]
 rw [qbo (by omega)]
 rfl
theorem qmm {b:qc} {es:List qa} {p:Int} (hok:qce b) (hes:okL qag es) :
  ∃ o,Ev (fun n=>qfL n b es p) (o,codeP b es p)∧(codeP b es p=0→∃ ls lo de,o=some ⟨b,places b.Aa,ls,lo,de,[]⟩):=by
 obtain ⟨o,e,hv⟩:=qov hok hes
 unfold qfL codeP
 by_cases h0:codeX b es=0
 ·obtain ⟨ls,lo,de,rfl⟩:=hv h0
  rw [h0] at e ⊢
  have hi:=ql7 (V:=⟨b,places b.Aa,ls,lo,de,[]⟩) (p:=p) (qkr h0).1 rfl
  cases hp:inPl b p
  ·rw [hp] at hi
   exact ⟨none,Ev.bind e (Ev.tt rfl (Ev.bind hi .done)),fun h=>by cases h⟩
  ·rw [hp] at hi
   exact ⟨_,Ev.bind e (Ev.tt rfl (Ev.bind hi .done)),fun _=>⟨ls,lo,de,rfl⟩⟩
 ·have hc:(codeX b es==0)=false:=by simpa using h0
  rw [hc]
  exact ⟨o,Ev.bind e (Ev.ff hc .done),fun h=>absurd h h0⟩
def stepTs (es:List qa) (tag:List Int) (p:Int):List Int:=(List.range es.length).map fun i=>stepT (gt es i) (at0 tag i) p
def startTs (es:List qa) (p:Int):List Int:=es.map fun e=>beginT e p
def pre {α:Type} (f:Nat→α) (j:Nat):List α:=(List.range j).map f
theorem qnf {α:Type} {f:Nat→α} {j:Nat}:(pre f j).length=j:=by simp [pre]
theorem qnZ {α:Type} {f:Nat→α} {j:Nat}:pre f j++[f j]=pre f (j+1):=by unfold pre;rw [List.range_succ,List.map_append];rfl
theorem qm6 {α:Type} {f:Nat→α} {j:Nat} (h:j≤1048576):appS (pre f j) [f j]=some (pre f (j+1)):=by
 rw [qb2 (by rw [qnf,jj];omega),qnZ]
theorem qm1 {α β:Type} [Inhabited α] {xs:List α} {f:α→β}:pre (fun i=>f (gt xs i)) xs.length=xs.map f:=by
 refine List.ext_getElem (by simp [pre]) fun i h1 h2=>?_
 have hi:i<xs.length:=by simpa [pre] using h1
 simp [pre,qgp hi]
theorem ql1 {es:List qa} {tag:List Int} {p:Int} (hes:okL qag es) (ht:tag.length=es.length):Ev (fun n=>qfI n es tag p) (stepTs es tag p):=by
 have hl:=hes.len
 have hL:Ev (fun n=>qbU es tag p n ([]:List Int) 0) (stepTs es tag p,(es.length:Int)):=by
  refine loopF (Lf:=qbU es tag p) (S:=pre fun i=>stepT (gt es i) (at0 tag i) p) (len:=es.length) (fun n=>?_) (fun j hj X hX=>?_)
  ·simp only [qbU,qp (jf _),cond_false];rfl
  ·have hT:=(qga hes hj).Am.len
   have hap:=qm6 (f:=fun i=>stepT (gt es i) (at0 tag i) p) (show j≤1048576 by omega)
   have hst:stepT (gt es j) (at0 tag j) p=bif decide (at0 tag j ≥ 0)&&(decide (at0 tag j<((gt es j).Am.length:Int))&&(at0 (gt es j).Am (at0 tag j).toNat==p)) then at0 tag j+1 else at0 tag j:=rfl
   simp only [qbU,qn hj,cond_true,qZ hj,qay (show j<tag.length by omega),je,wS j]
   rw [hst] at hap
   cases h1:decide (at0 tag j ≥ 0)
   ·rw [h1] at hap
    exact Ev.bindN rfl (Ev.ff rfl (Ev.bindN hap hX))
   ·cases h2:decide (at0 tag j<((gt es j).Am.length:Int))
    ·rw [h1,h2] at hap
     exact Ev.bindN rfl (Ev.ff rfl (Ev.bindN hap hX))
    ·have h1':=of_decide_eq_true h1
     have h2':=of_decide_eq_true h2
     obtain ⟨k,hk⟩:∃ k:Nat,at0 tag j=(k:Int):=⟨(at0 tag j).toNat,by omega⟩
     rw [h1,h2,hk,jA] at hap
     rw [hk] at h2'
     rw [hk]
     simp only [cond_true,qay (show k<(gt es j).Am.length by omega),je]
     cases h3:(at0 (gt es j).Am k==p)
     ·rw [h3] at hap
      exact Ev.ff rfl (Ev.bindN hap hX)
     ·rw [h3] at hap
      rw [qaM (show -9223372036854775808≤(k:Int)+1 by omega) (by omega)]
      exact Ev.tt rfl (Ev.bindN hap hX)
 unfold qfI
 exact Ev.bind hL .done
theorem qmi {es:List qa} {tag:List Int} {p:Int} (hes:okL qag es) (ht:tag.length=es.length):Ev (fun n=>qgB n es tag p) (stepTs es tag p):=by
 have hl:=hes.len
 have hcl:qb4 0 tag=some tag:=by
  show appS [] tag=some tag
  rw [qb2 (by simp;omega)];rfl
 have hL:Ev (fun n=>qcv es tag p n tag 0) (stepTs es tag p,(es.length:Int)):=by
  have:=loopF (Lf:=qcv es tag p) (S:=mixS (fun i=>stepT (gt es i) (at0 tag i) p) tag) (len:=es.length) (fin:=(stepTs es tag p,(es.length:Int))) (fun n=>by
    simp only [qcv,qp (jf _),cond_false]
    rw [←ht,qnk,ht];rfl)
   (fun j hj X hX=>by
    have hjt:j<tag.length:=by omega
    simp only [qcv,qn hj,cond_true,qZ hj,qay hjt,je,wS j,qoF hjt]
    refine Ev.bind (qlz (qga hes hj).Am.len) ?_
    rw [qoC hjt]
    exact hX)
  rwa [qng] at this
 unfold qgB
 exact Ev.bind (f:=fun _=>qb4 0 tag) (Ev.now hcl) (Ev.bind hL .done)
theorem qnA {es:List qa} {p:Int} (hes:okL qag es):Ev (fun n=>qfY n es p) (startTs es p):=by
 have hl:=hes.len
 have hL:Ev (fun n=>qbs es p n ([]:List Int) 0) (pre (fun i=>bif fromB (gt es i) p then 0 else -1) es.length,(es.length:Int)):=by
  refine loopF (Lf:=qbs es p) (S:=pre fun i=>bif fromB (gt es i) p then 0 else -1) (len:=es.length) (fun n=>?_) (fun j hj X hX=>?_)
  ·simp only [qbs,qp (jf _),cond_false]
  ·have hap:=qm6 (f:=fun i=>(bif fromB (gt es i) p then 0 else -1:Int)) (show j≤1048576 by omega)
   simp only [qbs,qn hj,cond_true,qZ hj,je,wS j]
   refine Ev.bind (b:=!fromB (gt es j) p) ?_ ?_
   ·unfold fromB
    by_cases h0:(gt es j).As.length=0
    ·exact Ev.ff (by simp [h0]) (Ev.now (by rw [decide_eq_true h0];rfl))
    ·refine Ev.tt (by simp;omega) ?_
     rw [decide_eq_false h0,Bool.false_or]
     exact Ev.bind (qla (qga hes hj).As.len) (Ev.now (by rw [qoB];rfl))
   ·cases h3:fromB (gt es j) p
    ·simp only [h3,cond_false] at hap
     exact Ev.tt rfl (Ev.bindN hap hX)
    ·simp only [h3,cond_true] at hap
     exact Ev.ff rfl (Ev.bindN hap hX)
 unfold qfY
 refine Ev.bind hL (Ev.bind (ql1 hes (by rw [qnf])) (Ev.now ?_))
 congr 1
 unfold startTs
 rw [←qm1]
 unfold stepTs
 refine List.map_congr_left fun i hi=>?_
 have hi:=List.mem_range.1 hi
 rw [show at0 (pre (fun i=>(bif fromB (gt es i) p then 0 else -1:Int)) es.length) i=bif fromB (gt es i) p then 0 else -1 by simp [at0,pre,hi]]
 unfold beginT
 cases fromB (gt es i) p
 ·exact qnE
 ·rfl
theorem qnn {e:qa} {path:List Int} {p:Int} (h:1≤path.length):runT e (path++[p])=stepT e (runT e path) p:=by
 cases path with
 | nil=>simp at h
 | cons q path =>
  unfold runT
  simp [List.foldl_append,at0]
def runTs (es:List qa) (path:List Int):List Int:=es.map fun e=>runT e path
theorem qgL {es:List qa} {path:List Int}:(runTs es path).length=es.length:=by simp [runTs]
theorem qky {es:List qa} {path:List Int} {p:Int} (h:1≤path.length):stepTs es (runTs es path) p=runTs es (path++[p]):=by
 unfold runTs
 rw [←qm1 (f:=fun e=>runT e (path++[p]))]
 refine List.map_congr_left fun i hi=>?_
 have hi:=List.mem_range.1 hi
 rw [qnn h]
 congr 1
 simp [at0,hi,qgp hi]
def fitsB (es:List qa) (tag:List Int):Bool:=decide (tag.length=es.length)&&allN (fun i=>inI (at0 tag i) (-1) ((gt es i).Am.length:Int)) es.length
theorem lenNe {α β:Type} {xs:List α} {ys:List β}:((xs.length:Int) != (ys.length:Int)) = !decide (xs.length=ys.length):=by rw [jk];simp;omega
theorem qoo {es:List qa} {tag:List Int} (hl:es.length≤1048576):Ev (fun n=>qiB n es tag) (fitsB es tag):=by
 unfold qiB fitsB
 rw [lenNe]
 simp only [qaC]
 refine Ev.andP fun h=>?_
 have h:=of_decide_eq_true h
 have hL:Ev (fun n=>qeG es tag n 0) (bif allN (fun i=>inI (at0 tag i) (-1) ((gt es i).Am.length:Int)) es.length then .nxt (es.length:Int) else .ret false):=by
  refine qdc (Ev.succ ?_) (fun j hj X hX=>Ev.succ ?_)
  ·simp only [qeG,qp (jf _),cond_false];exact .done
  ·simp only [qeG,qn hj,cond_true,qZ hj,qay (show j<tag.length by omega),je,qai,qcr,wS j,qaC]
   exact Ev.okP1 fun _=>hX
 refine Ev.bind hL ?_
 cases allN (fun i=>inI (at0 tag i) (-1) ((gt es i).Am.length:Int)) es.length<;>exact .done
end Go.Fw


namespace Go.Fw
open Go Go.Proofs
open Go.RowKit (Below)
set_option maxRecDepth 100000
set_option maxHeartbeats 6400000
variable {n:Nat} {w:World} {cs1 cs2 cs3 cs4 cs5 cs6 cs7 cs8 cs9:List Value}
def qkC (_:Nat) (code:(List (IntK .u8))):Option Bool :=
 some (decide ((code.length:Int) > 4096))
theorem ql9 {code:(List (IntK .u8))} (ha1:GoT.R w (old w) code cs1) {r:Bool} (hF:qkC n code=some r):RetV Tryz.prog 7 [GoT.v (List (IntK .u8)) cs1] w r:=by
 obtain ⟨p1,k1,rfl,s1⟩:=ha1
 exact zV 6 Tryz.func7 rfl fun h=>X0 11 rfl (rb h hF rfl)
def qcN (a:(List Int)) (b:(List Int)):Nat→Int→Option (Flow Bool Int)
 | 0,_=>none
 | n+1,i1 =>
  bif decide (i1<(a.length:Int)) then
   (idx a i1).bind fun y1 =>
   (idx b i1).bind fun y2 =>
   bif (y1 != y2) then some (.ret false) else
   qcN a b n (W64 (i1+1))
  else
   some (.nxt i1)
def qf4 (n:Nat) (a:(List Int)) (b:(List Int)):Option Bool :=
 bif ((a.length:Int) != (b.length:Int)) then some false else
 (qcN a b n 0).bind fun o=>match o with
 | .ret r=>some r
 | .nxt _ =>
  some true
theorem qjG {a:(List Int)} {b:(List Int)} (ha1:GoT.R w (old w) a cs1) (ha2:GoT.R w (old w) b cs2) {r:Bool} (hF:qf4 n a b=some r):RetV Tryz.prog 18 [GoT.v (List Int) cs1,GoT.v (List Int) cs2] w r:=by
 obtain ⟨p1,k1,rfl,s1⟩:=ha1
 obtain ⟨p2,k2,rfl,s2⟩:=ha2
 refine zV 26 Tryz.func18 rfl fun h=>X0 13 rfl (qm rfl hF ?_ ?_)<;>intro hF
 ·exact X0 4 rfl (rb h hF rfl)
 refine X0 6 rfl ?_
 obtain ⟨o1,hF,hK1⟩:=qe hF
 refine qt (rL (fun m e w'=>∃ (i1:Int),qcN a b m i1=some o1∧e=[(0,.slice p1 a.length k1),(1,.slice p2 b.length k2),(5,.int .i64 i1)]∧SH w w' []) n ⟨_,hF,rfl,h⟩ rfl ?_)
 rintro m1 e1 w1 ⟨i1,hF,rfl,h⟩
 rcases m1 with _|m1
 ·cases hF
 refine X0 8 rfl (qm rfl hF ?_ ?_)<;>intro hF
 ·refine X0 4 rfl (rD (zd2 rfl ?_))
  obtain ⟨y1,hy1,hF,he1,b1,_,q1,cs3,hp1,hq1,rfl,hc3⟩:=s1.ix hF
  refine zdxe hp1 hq1 he1 rfl (zdc 0 (hc3.below h.below) rfl (zd2 rfl ?_))
  obtain ⟨y2,hy2,hF,he2,b2,_,q2,cs4,hp2,hq2,rfl,hc4⟩:=s2.ix hF
  refine zdxe hp2 hq2 he2 rfl (zdc 0 (hc4.below h.below) rfl (zd1 rfl (dN h fun w2 h=>qm rfl hF ?_ ?_)))<;>intro hF
  ·refine X0 4 rfl ?_
   obtain rfl:=qd hF;replace hF:=hK1
   exact rb h hF rfl
  exact X0 7 rfl (rK ⟨_,hF,rfl,h⟩ rfl)
 refine qz rfl ?_
 obtain rfl:=qd hF;replace hF:=hK1
 exact X0 4 rfl (rb h hF rfl)
def qbq (a_0:(List (IntK .u8))):Nat→(List Int)→(List qa)→qc→(List Int)→Int→Option (Flow Bool ((List Int) × (List qa) × qc × (List Int) × Int))
 | 0,_,_,_,_,_=>none
 | n+1,r16,r17,r18,x1,i1 =>
  bif decide (i1<(r16.length:Int)) then
   (appS ([]:List Int) x1).bind fun x2 =>
   (idx r16 i1).bind fun y2 =>
   (qgy n r18 r17 x2 y2).bind fun o=>match o with
    | (r20,r21) =>
     (qc2 n a_0).bind fun o=>match o with
      | (r23,r24,r25) =>
       bif (r21 != 0) then some (.ret false) else
       qbq a_0 n r25 r24 r23 r20 (W64 (i1+1))
  else
   some (.nxt (r16,r17,r18,x1,i1))
def qgm (n:Nat) (a_0:(List (IntK .u8))):Option Bool :=
 (qkC n a_0).bind fun r1 =>
 bif r1 then some true else
 (qc2 n a_0).bind fun o=>match o with
  | (r3,r4,r5) =>
   (qgS n r3 r4 r5).bind fun o=>match o with
    | (r7,r8) =>
     bif (r8 != 0) then some true else
     (idx r5 0).bind fun y1 =>
     (qf3 n r3 r4 y1).bind fun o=>match o with
      | (r10,r11) =>
       (qc2 n a_0).bind fun o=>match o with
        | (r13,r14,r15) =>
         bif (r11 != 0) then some false else
         (qbq a_0 n r15 r14 r13 r10 1).bind fun o=>match o with
         | .ret r=>some r
         | .nxt (_,_,_,x1,_) =>
          (qf4 n x1 r7).bind fun r26 =>
          some r26
theorem qiZ {a_0:(List (IntK .u8))} (ha1:GoT.R w (old w) a_0 cs1) {r:Bool} (hF:qgm n a_0=some r):RetV Tryz.prog 4 [GoT.v (List (IntK .u8)) cs1] w r:=by
 obtain ⟨p1,k1,rfl,s1⟩:=ha1
 refine zV 78 Tryz.func4 rfl fun h=>X0 8 rfl (zcB h hF (ql9 ⟨_,_,rfl,(h.oldS s1)⟩) rfl fun r1 w1 h hF=>qa8 (qm rfl hF ?_ ?_))<;>intro hF
 ·exact X0 4 rfl (rb h hF rfl)
 refine X0 4 rfl ?_
 have hg1:Rg (old w) w (old w) w:=.start (fun _ h=>h)
 obtain ⟨r2,hr2,hF⟩:=qe hF
 obtain ⟨r3,r4,r5⟩:=r2
 refine qiE (r3,r4,r5) hg1 h (cB 14 rfl) (qfr (hg1.atB h) ⟨_,_,rfl,(hg1.inBS h s1)⟩ hr2) rfl rfl rfl rfl fun w2 us1 S1 h hv1=>?_
 obtain ⟨cs2,us2,rfl,hr3,hv2⟩:=qfo hv1
 have hr4:=hr3
 obtain ⟨p2,k2,p3,k3,p4,k4,p5,k5,p6,k6,rfl,s2,s3,s4,s5,s6⟩:=qK hr3
 replace h:=h.grpAdd 0 rfl hr4
 obtain ⟨cs3,us3,rfl,hr5,hv3⟩:=qfo hv2
 have hr6:=hr5
 obtain ⟨p7,k7,rfl,s7⟩:=hr5
 replace h:=h.grpAdd 0 rfl hr6
 obtain ⟨cs4,rfl,hr7⟩:=qhb hv3
 have hr8:=hr7
 obtain ⟨p8,k8,rfl,s8⟩:=hr7
 replace h:=h.grpAdd 0 rfl hr8
 refine zp4 rfl (qD qb h rfl rfl rfl fun w3 bb1 h=>zs 0 h rfl fun w4 h=>X1 8 0 h rfl ?_)
 obtain ⟨r6,hr9,hF⟩:=qe hF
 obtain ⟨r7,r8⟩:=r6
 refine qeY (r7,r8) h (cB 15 rfl) (qkU (h.grp 1 2 rfl rfl) (h.grp 1 1 rfl rfl) (h.grp 1 0 rfl rfl) hr9) rfl rfl rfl rfl fun w5 S2 us4 hv4 hr10=>?_
 obtain ⟨S3,S4,p9,k9,us5,rfl,hv5,hr11⟩:=hv4.consL hr10
 obtain ⟨rfl,h⟩:=hv5.lastI hr11
 refine X0 12 rfl (qm rfl hF ?_ ?_)<;>intro hF
 ·refine X0 4 rfl ?_
  replace h:=h.pick [0,1] rfl
  exact rb h hF rfl
 refine zKS (rA [] [1] h rfl fun w6 h=>M1 7 [0,1,2] 0 (h.pick [1] rfl) rfl ?_)
 obtain ⟨y1,hy1,hF,he1,b1,_,q1,cs5,hp1,hq1,rfl,hc3⟩:=(qes (h.grp 2 0 rfl rfl)).1.ix hF
 refine Ax 3 15 hp1 hq1 ⟨he1.1,qT he1.2.1 (qes (h.grp 2 0 rfl rfl)).2⟩ (h.pick [1] rfl) rfl (Ao 4 31 rfl (zc 0 hc3 rfl (Ag (h.pick [1] rfl) (Ao 5 63 rfl ?_))))
 obtain ⟨r9,hr14,hF⟩:=qe hF
 obtain ⟨r10,r11⟩:=r9
 refine qeY (r10,r11) h (cB 16 rfl) (qjq (h.grp 2 2 rfl rfl) (h.grp 2 1 rfl rfl) hr14) rfl rfl rfl rfl fun w7 S6 us6 hv7 hr15=>?_
 obtain ⟨S7,S8,p10,k10,us7,rfl,hv8,hr16⟩:=hv7.consL hr15
 obtain ⟨rfl,h⟩:=hv8.lastI hr16
 refine G0 2047 [6,7,8,9,10] (h.pick [2] rfl) rfl (Ad (X0 3 rfl ?_))
 obtain ⟨r12,hr18,hF⟩:=qe hF
 obtain ⟨r13,r14,r15⟩:=r12
 refine qiE (r13,r14,r15) hg1 h (cB 14 rfl) (qfr (hg1.atB h) ⟨_,_,rfl,(hg1.inBS h s1)⟩ hr18) rfl rfl rfl rfl fun w8 us8 S10 h hv10=>?_
 obtain ⟨cs6,us9,rfl,hr19,hv11⟩:=qfo hv10
 have hr20:=hr19
 obtain ⟨p11,k11,p12,k12,p13,k13,p14,k14,p15,k15,rfl,s9,s10,s11,s12,s13⟩:=qK hr19
 replace h:=h.grpAdd 0 rfl hr20
 obtain ⟨cs7,us10,rfl,hr21,hv12⟩:=qfo hv11
 have hr22:=hr21
 obtain ⟨p16,k16,rfl,s14⟩:=hr21
 replace h:=h.grpAdd 0 rfl hr22
 obtain ⟨cs8,rfl,hr23⟩:=qhb hv12
 have hr24:=hr23
 obtain ⟨p17,k17,rfl,s15⟩:=hr23
 replace h:=h.grpAdd 0 rfl hr24
 refine zp4 rfl (zs 3 h rfl fun w9 h=>X0 9 rfl (qm rfl hF ?_ ?_))<;>intro hF
 ·refine X0 4 rfl ?_
  replace h:=h.pick [1,2,3] rfl
  exact rb h hF rfl
 refine X0 6 rfl ?_
 replace h:=h.pick [0,1,2,3] rfl
 obtain ⟨o1,hF,hK1⟩:=qe hF
 refine qt (rL (fun m e w'=>∃ (S11:Nat→Prop) (r16:(List Int)) (p18:Option Addr) (k18:Nat) (r17:(List qa)) (p19:Option Addr) (k19:Nat) (r18:qc) (p20:Option Addr) (k20:Nat) (p21:Option Addr) (k21:Nat) (p22:Option Addr) (k22:Nat) (p23:Option Addr) (k23:Nat) (p24:Option Addr) (k24:Nat) (S12:Nat→Prop) (p25:Option Addr) (ln1:Nat) (k25:Nat) (x1:(List Int)) (i1:Int),qbq a_0 m r16 r17 r18 x1 i1=some o1∧e=[(0,.slice p1 a_0.length k1),(3,.pointer (some ⟨bb1,0,none⟩)),(4,.slice p19 r17.length k19),(5,.slice p18 r16.length k18),(6,.slice p9 r7.length k9),(8,.slice p25 ln1 k25),(10,.int .i64 i1)]∧SH w w' [Ch.grp (old w) S11 [fct (r16:(List Int)) [.slice p18 r16.length k18],fct (r17:(List qa)) [.slice p19 r17.length k19],fct (r18:qc) [.slice p20 r18.Ac.Ai.length k20,.slice p21 r18.Aa.Ab.length k21,.slice p22 r18.Aa.Aj.length k22,.slice p23 r18.Aa.Af.length k23,.slice p24 r18.Ah.length k24]],Ch.own S12 (x1:List Int) [.slice p25 ln1 k25],Ch.own S3 (r7:List Int) [.slice p9 r7.length k9],Ch.box bb1 (qr r18 p20 p21 p22 p23 p24 k20 k21 k22 k23 k24) 34]) n ⟨_,_,_,_,_,_,_,_,_,_,_,_,_,_,_,_,_,_,_,_,_,_,_,_,hF,rfl,h⟩ rfl ?_)
 rintro m1 e1 w10 ⟨S11,r16,p18,k18,r17,p19,k19,r18,p20,k20,p21,k21,p22,k22,p23,k23,p24,k24,S12,p25,ln1,k25,x1,i1,hF,rfl,h⟩
 obtain rfl:=(h.sl 1 rfl).2
 rcases m1 with _|m1
 ·cases hF
 refine X0 8 rfl (qm rfl hF ?_ ?_)<;>intro hF
 ·refine X0 4 rfl ?_
  obtain ⟨x2,hx1,hF⟩:=qe hF
  obtain ⟨y2,hy2,hF⟩:=qe hF
  obtain ⟨r19,hr26,hF⟩:=qe hF
  obtain ⟨r20,r21⟩:=r19
  refine qa0 (fun e w'=>∃ (S36:Nat→Prop) (p37:Option Addr) (k34:Nat),e=[(0,.slice p1 a_0.length k1),(3,.pointer (some ⟨bb1,0,none⟩)),(6,.slice p9 r7.length k9),(10,.int .i64 i1),(11,.slice p37 r20.length k34),(12,.int .i64 r21)]∧SH w w' [Ch.own S36 (r20:List Int) [.slice p37 r20.length k34],Ch.grp (old w) S11 [fct (r16:(List Int)) [.slice p18 r16.length k18],fct (r17:(List qa)) [.slice p19 r17.length k19],fct (r18:qc) [.slice p20 r18.Ac.Ai.length k20,.slice p21 r18.Aa.Ab.length k21,.slice p22 r18.Aa.Aj.length k22,.slice p23 r18.Aa.Af.length k23,.slice p24 r18.Ah.length k24]],Ch.own S3 (r7:List Int) [.slice p9 r7.length k9],Ch.box bb1 (qr r18 p20 p21 p22 p23 p24 k20 k21 k22 k23 k24) 34]) ?_ ?_
  ·refine rA [] [3] h rfl fun w14 h=>M1 107 [0,1,3,5,6] 0 (h.pick [3] rfl) rfl ?_
   have he4:=qaT hy2
   obtain ⟨b4,o_4,q4,cs11,hp4,hq4,-,hr40,hc8⟩:=(qes (h.grp 0 0 rfl rfl)).1.at hy2
   obtain rfl:=hr40
   refine Ax 7 235 hp4 hq4 ⟨he4.1,qT he4.2.1 (qes (h.grp 0 0 rfl rfl)).2⟩ (h.pick [3] rfl) rfl (At 2 8 239 491 rfl ?_ ?_)
   ·refine ql qb [] _ ([]:List Int) h rfl rfl rfl rfl rfl rfl rfl rfl rfl trivial rfl fun w23 p38 S37 h=>Ag (h.pick [4] rfl) (At 4 8 255 495 rfl ?_ ?_)
    ·obtain ⟨g5,hx1⟩:=qw hx1
     refine qab qb 0 h rfl (h.sl 2 rfl).1 (h.sl 2 rfl).2 rfl rfl rfl rfl rfl rfl rfl rfl rfl g5 hx1 rfl fun w24 p39 k35 S38 h=>Ag (h.pick [4] rfl) (Ao 8 511 rfl (r_v (qet qb (qio (w1:=w) (S1:=fun _=>False) (qes (h.grp 1 0 rfl rfl)).1 hy2 hp4 hq4 rfl) (j:=0) rfl rfl rfl) rfl (Ag (h.pick [4] rfl) (Ao 9 1023 rfl (qeY (r20,r21) h (cB 17 rfl) (qgk (h.grp 1 2 rfl rfl) (h.grp 1 1 rfl rfl) (h.own 0 rfl) hr26) rfl rfl rfl rfl fun w25 S39 us19 hv25 hr41=>?_)))))
     obtain ⟨S40,S41,p40,k36,us20,rfl,hv26,hr42⟩:=hv25.consL hr41
     obtain ⟨rfl,h⟩:=hv26.lastI hr42
     refine G0 32767 [10,11,12,13,14] (h.pick [5] rfl) rfl (Ad ?_)
     replace h:=h.pick [0,2,4,5] rfl
     exact rG ⟨_,_,_,rfl,h⟩ rfl
    refine r_v (qet qb (qio (w1:=w) (S1:=fun _=>False) (qes (h.grp 1 0 rfl rfl)).1 hy2 hp4 hq4 rfl) (j:=0) rfl rfl rfl) rfl (Ag (h.pick [4] rfl) (Ao 4 511 rfl ?_))
    obtain ⟨g6,hx1⟩:=qw hx1
    refine qab qb 0 h rfl (h.sl 2 rfl).1 (h.sl 2 rfl).2 rfl rfl rfl rfl rfl rfl rfl rfl rfl g6 hx1 rfl fun w26 p41 k37 S43 h=>Ag (h.pick [4] rfl) (Ao 9 1023 rfl (qeY (r20,r21) h (cB 17 rfl) (qgk (h.grp 1 2 rfl rfl) (h.grp 1 1 rfl rfl) (h.own 0 rfl) hr26) rfl rfl rfl rfl fun w27 S44 us21 hv28 hr44=>?_))
    obtain ⟨S45,S46,p42,k38,us22,rfl,hv29,hr45⟩:=hv28.consL hr44
    obtain ⟨rfl,h⟩:=hv29.lastI hr45
    refine G0 32767 [10,11,12,13,14] (h.pick [5] rfl) rfl (Ad ?_)
    replace h:=h.pick [0,2,4,5] rfl
    exact rG ⟨_,_,_,rfl,h⟩ rfl
   refine r_v (qet qb (qio (w1:=w) (S1:=fun _=>False) (qes (h.grp 0 0 rfl rfl)).1 hy2 hp4 hq4 rfl) (j:=0) rfl rfl rfl) rfl (Ag (h.pick [3] rfl) (Ao 2 495 rfl (ql qb [] _ ([]:List Int) h rfl rfl rfl rfl rfl rfl rfl rfl rfl trivial rfl fun w28 p43 S48 h=>Ag (h.pick [4] rfl) (Ao 4 511 rfl ?_))))
   obtain ⟨g7,hx1⟩:=qw hx1
   refine qab qb 0 h rfl (h.sl 2 rfl).1 (h.sl 2 rfl).2 rfl rfl rfl rfl rfl rfl rfl rfl rfl g7 hx1 rfl fun w29 p44 k39 S49 h=>Ag (h.pick [4] rfl) (Ao 9 1023 rfl (qeY (r20,r21) h (cB 17 rfl) (qgk (h.grp 1 2 rfl rfl) (h.grp 1 1 rfl rfl) (h.own 0 rfl) hr26) rfl rfl rfl rfl fun w30 S50 us23 hv31 hr47=>?_))
   obtain ⟨S51,S52,p45,k40,us24,rfl,hv32,hr48⟩:=hv31.consL hr47
   obtain ⟨rfl,h⟩:=hv32.lastI hr48
   refine G0 32767 [10,11,12,13,14] (h.pick [5] rfl) rfl (Ad ?_)
   replace h:=h.pick [0,2,4,5] rfl
   exact rG ⟨_,_,_,rfl,h⟩ rfl
  rintro e2 w31 ⟨S36,p37,k34,rfl,h⟩
  refine X0 3 rfl ?_
  obtain ⟨r22,hr50,hF⟩:=qe hF
  obtain ⟨r23,r24,r25⟩:=r22
  refine qiE (r23,r24,r25) hg1 h (cB 14 rfl) (qfr (hg1.atB h) ⟨_,_,rfl,(hg1.inBS h s1)⟩ hr50) rfl rfl rfl rfl fun w32 us25 S54 h hv34=>?_
  obtain ⟨cs12,us26,rfl,hr51,hv35⟩:=qfo hv34
  have hr52:=hr51
  obtain ⟨p46,k41,p47,k42,p48,k43,p49,k44,p50,k45,rfl,s16,s17,s18,s19,s20⟩:=qK hr51
  replace h:=h.grpAdd 0 rfl hr52
  obtain ⟨cs13,us27,rfl,hr53,hv36⟩:=qfo hv35
  have hr54:=hr53
  obtain ⟨p51,k46,rfl,s21⟩:=hr53
  replace h:=h.grpAdd 0 rfl hr54
  obtain ⟨cs14,rfl,hr55⟩:=qhb hv36
  have hr56:=hr55
  obtain ⟨p52,k47,rfl,s22⟩:=hr55
  replace h:=h.grpAdd 0 rfl hr56
  refine zp4 rfl (zs 4 h rfl fun w33 h=>X0 9 rfl (qm rfl hF ?_ ?_))<;>intro hF
  ·refine X0 4 rfl ?_
   replace h:=h.pick [1,3,4] rfl
   obtain rfl:=qd hF;replace hF:=hK1
   exact rb h hF rfl
  refine X0 11 rfl ?_
  replace h:=h.pick [0,1,3,4] rfl
  exact rK ⟨_,_,_,_,_,_,_,_,_,_,_,_,_,_,_,_,_,_,_,_,_,_,_,_,hF,rfl,h⟩ rfl
 refine qz rfl ?_
 obtain rfl:=qd hF;replace hF:=hK1
 refine X0 4 rfl (zcB h hF (qjG (h.own 1 rfl) (h.own 2 rfl)) rfl fun r26 w34 h hF=>X0 2 rfl ?_)
 replace h:=h.pick [1,2,3] rfl
 exact rb h hF rfl
end Go.Fw


namespace Go.Fw
open Go
set_option maxRecDepth 100000
theorem qkY {e:qa} {f p:Int} (h:-1≤f∧f≤(e.Am.length:Int)):-1≤stepT e f p∧stepT e f p≤(e.Am.length:Int):=by
 unfold stepT
 cases hc:(decide (f ≥ 0)&&(decide (f<(e.Am.length:Int))&&(at0 e.Am f.toNat==p)))
 ·exact h
 ·simp only [jg,decide_eq_true_eq] at hc
  simp only [cond_true]
  omega
theorem qn5 {e:qa} {xs:List Int}:∀ {f:Int},(-1≤f∧f≤(e.Am.length:Int))→-1≤xs.foldl (stepT e) f∧xs.foldl (stepT e) f≤(e.Am.length:Int):=by
 induction xs with
 | nil=>intro f h;exact h
 | cons x xs ih=>intro f h;exact ih (qkY h)
theorem qn7 {e:qa} {path:List Int}:-1≤runT e path∧runT e path≤(e.Am.length:Int):=by
 unfold runT
 refine qn5 ?_
 unfold beginT
 cases fromB e (at0 path 0)
 ·simp only [cond_false];omega
 ·exact qkY (by omega)
theorem qoq {es:List qa} {path:List Int}:fitsB es (runTs es path)=true:=by
 unfold fitsB
 rw [jg,qgL]
 refine ⟨by simp,qar.2 fun i hi=>?_⟩
 have e:at0 (runTs es path) i=runT (gt es i) path:=by
  rw [qko (by rw [qgL];exact hi),qgp hi]
  simp [runTs]
 rw [qb3,e]
 exact qn7
theorem qpc {a:List Int} (hl:a.length≤1048576):Ev (fun n=>qf4 n a a) true:=by
 unfold qf4
 refine Ev.ff (by simp) (Ev.bind (b:=.nxt (a.length:Int)) ?_ .done)
 refine loopF (τ:=Unit) (Lf:=fun n _ i=>qcN a a n i) (S:=fun _=>()) (len:=a.length) (fun n=>by simp only [qcN,qp (jf _),cond_false]) (fun i hi X hX=>?_)
 simp only [qcN,qn hi,cond_true,qaJ hi,je,wS i]
 exact Ev.ff (by simp) hX
section
variable {code:List (IntK .u8)}
theorem qnz {b:qc} {es:List qa} {path:List Int} (hok:qce b) (hes:okL qag es) (hp:path.length≤1048576) :
  (∃ r:List Int × Int,r.2 ≠ 0∧Ev (fun n=>qgS n b es path) r)∨(codeX b es=0∧dpathB b path=true∧Ev (fun n=>qgS n b es path) (runTs es path,0)):=by
 have hl:=hes.len
 have hc:=qmJ hok hes
 unfold qgS
 by_cases h0:codeX b es=0
 ·obtain ⟨hb,_,hx⟩:=qkr h0
  rw [h0] at hc
  have d1:=qkw (path:=path) hok hp
  rw [hb,jw] at d1
  cases hd:dpathB b path
  ·rw [hd] at d1
   exact .inl ⟨([],2),by decide,Ev.bind hc (Ev.ff rfl (Ev.bind d1 (Ev.tt rfl .done)))⟩
  ·obtain ⟨h1,_⟩:=qiT hd
   rw [hd] at d1
   have hL:Ev (fun n=>qdJ es path n (startTs es (at0 path 0)) 1) (runTs es path,(path.length:Int)):=by
    have main:∀ k j,j+k=path.length→1≤j→Ev (fun n=>qdJ es path n (runTs es (path.take j)) (j:Int)) (runTs es path,(path.length:Int)):=by
     intro k
     induction k with
     | zero =>
      intro j hj _
      obtain rfl:j=path.length:=by omega
      exact Ev.succ (by simp only [qdJ,qp (jf _),cond_false,jJ];exact .done)
     | succ k ih =>
      intro j hj hj1
      have hlt:j<path.length:=by omega
      refine Ev.succ ?_
      simp only [qdJ,qn hlt,cond_true,qay hlt,je,wS j]
      refine Ev.bind (ql1 hes qgL) ?_
      rw [qky (by rw [List.length_take];omega),qko hlt,←List.take_succ_eq_append_getElem hlt]
      exact ih (j+1) (by omega) (by omega)
    have:=main (path.length-1) 1 (by omega) (jf _)
    have e1:runTs es (path.take 1)=startTs es (at0 path 0):=by
     cases path with
     | nil=>simp at h1
     | cons q path=>rfl
    rw [e1] at this
    exact this
   exact .inr ⟨h0,rfl,Ev.bind hc (Ev.ff rfl (Ev.bind d1 (Ev.ff rfl (Ev.bindN (qay (j:=0) (by omega)) (Ev.bind (qnA hes) (Ev.bind hL .done))))))⟩
 ·have hne:(codeX b es != 0)=true:=by simpa using h0
  exact .inl ⟨([],codeX b es),h0,Ev.bind hc (Ev.tt hne .done)⟩
theorem qlY {b:qc} {es:List qa} {p:Int} (h:codeX b es=0) (hp:inPl b p=true):codeP b es p=0:=by
 unfold codeP
 rw [h,hp]
 rfl
theorem qlb {b:qc} {path:List Int} (h:dpathB b path=true) {i:Nat} (hi:i<path.length):inPl b (at0 path i)=true:=by
 unfold dpathB at h
 simp only [jg] at h
 exact qar.1 h.2.1 i hi
theorem qop {b:qc} {es:List qa} {path:List Int} (hok:qce b) (hes:okL qag es) (h0:codeX b es=0) (hd:dpathB b path=true) (hl:path.length≤1000) (hdr:Ev (fun n=>qc2 n code) (b,es,path)) :
  Ev (fun n=>qbq code n path es b (startTs es (at0 path 0)) 1) (.nxt (path,es,b,runTs es path,(path.length:Int))):=by
 have hel:=hes.len
 obtain ⟨h1,_⟩:=qiT hd
 have main:∀ k j,j+k=path.length→1≤j→Ev (fun n=>qbq code n path es b (runTs es (path.take j)) (j:Int)) (.nxt (path,es,b,runTs es path,(path.length:Int))):=by
  intro k
  induction k with
  | zero =>
   intro j hj _
   obtain rfl:j=path.length:=by omega
   exact Ev.succ (by simp only [qbq,qp (jf _),cond_false,jJ];exact .done)
  | succ k ih =>
   intro j hj hj1
   have hlt:j<path.length:=by omega
   refine Ev.succ ?_
   simp only [qbq,qn hlt,cond_true,qay hlt,je,wS j]
   obtain ⟨o,ev,_⟩:=qmm (p:=at0 path j) hok hes
   rw [qlY h0 (qlb hd hlt)] at ev
   have f2:=qoo (tag:=runTs es (path.take j)) hel
   rw [qoq] at f2
   have st:Ev (fun n=>qgy n b es (runTs es (path.take j)) (at0 path j)) (stepTs es (runTs es (path.take j)) (at0 path j),0):=by
    unfold qgy
    exact Ev.bind ev (Ev.ff rfl (Ev.bind f2 (Ev.ff rfl (Ev.bind (qmi hes qgL) .done))))
   rw [qky (by rw [List.length_take];omega),qko hlt,←List.take_succ_eq_append_getElem hlt] at st
   rw [qko hlt]
   exact Ev.bindN (qg8 (by rw [qgL];omega)) (Ev.bind st (Ev.bind hdr (Ev.ff rfl (ih (j+1) (by omega) (by omega)))))
 have:=main (path.length-1) 1 (by omega) (jf _)
 have e1:runTs es (path.take 1)=startTs es (at0 path 0):=by
  cases path with
  | nil=>simp at h1
  | cons q path=>rfl
 rw [e1] at this
 exact this
theorem qkn (hk:rngL rng8 code):Ev (fun n=>qgm n code) true:=by
 unfold qgm qkC
 refine Ev.bindN rfl (Ev.bif (fun _=>.done) (fun hl=>?_))
 have hl:code.length≤4096:=by have:=of_decide_eq_false hl;omega
 obtain ⟨⟨b,es,path⟩,hd,hcase⟩:=qoh (code:=code) ⟨by omega,hk.2⟩
 dsimp only at hcase
 have hok:=hcase.blk.ok
 have hes:=hcase.es
 have hpl:=hcase.l2
 rcases qnz (path:=path) hok hes (by omega) with ⟨⟨r,q⟩,hne,ht⟩|⟨h0,hdp,ht⟩
 ·exact Ev.bind hd (Ev.bind ht (Ev.tt (by simpa using hne) .done))
 ·obtain ⟨h1,_⟩:=qiT hdp
  obtain ⟨o,ev,_⟩:=qmm (p:=at0 path 0) hok hes
  rw [qlY h0 (qlb hdp h1)] at ev
  have st:Ev (fun n=>qf3 n b es (at0 path 0)) (startTs es (at0 path 0),0):=by
   unfold qf3
   exact Ev.bind ev (Ev.ff rfl (Ev.bind (qn4 (path:=[at0 path 0]) hes (by simp) (by simp)) .done))
  exact Ev.bind hd (Ev.bind ht (Ev.ff rfl (Ev.bindN (qay (j:=0) h1) (Ev.bind st (Ev.bind hd (Ev.ff rfl (Ev.bind (qop hok hes h0 hdp (by omega) hd) (Ev.bind (qpc (by rw [qgL];exact hes.len)) .done))))))))
end
end Go.Fw
