/- Plain laws: spans of links, the values of a node, the run over all nodes. -/
import Derived.Test.YtopijfgpbojkoaaGreatDoorW9
import Derived.Test.YtopijfgpbojkoaaGreatDoorB9
open Option renaming bind_some → ja
open Nat renaming le_refl → jb, mul_le_mul_right → jj, le_of_ble_eq_true → jq, lt_of_lt_of_le → js, succ_mul → jE, zero_add → jT
open Bool renaming and_eq_true → jc, eq_iff_iff → jh, true_and → jv, not_eq_true' → jD, not_true → jV
open Go.Result renaming andThen_ok → jd
open List renaming length_append → je, getElem?_eq_getElem → jf, length_singleton → jk, append_assoc → jm, mem_cons_of_mem → jn, getElem_mem → jp, getElem?_append_left → jr, mem_cons_self → jt, length_map → ju, getElem?_take → jw, getElem?_append_right → jx, getD_eq_getElem?_getD → jy, take_succ_eq_append_getElem → jz, getElem?_toArray → jA, eq_nil_of_length_eq_zero → jB, take_length → jC, not_mem_nil → jF, length_replicate → jG, size_toArray → jH, getElem_of_mem → jL, map_append → jM, mem_cons → jO, all_eq_true → jQ, length_take → jR, ext_getElem → jS
open Go.Sem renaming run_bind → jg, run_pure → ji
open Int renaming toNat_natCast → jo, tdiv_eq_ediv_of_nonneg → jJ, mul_nonneg → jK, mul_assoc → jN, mul_le_mul → jP, le_refl → jU
open Array renaming getElem?_append_left → jI

namespace Go.Fw
open Go
set_option maxRecDepth 100000
def slR (s:qf):Prop:=(0≤s.Ak∧s.Ak≤1000000)∧(0≤s.Bd∧s.Bd≤1000000)
def SpansOk (b:qe) (c:qu) (f:Nat→qf→qf × qf):Prop :=
 ∀ k s,k<(linksL b).length→slR s→slR (f k s).2∧Ev (fun n=>qgE n b c (gt (linksL b) k) s) (f k s)∧Ev (fun n=>qfs n (some (viewV b)) c (k:Int) s) (f k s)
theorem quQ {b:qe} {c:qu} (h:blockB b=true) (hc:cornerB c=true):∃ f,SpansOk b c f:=by
 have main:∀ x:Nat × qf,∃ r:qf × qf,x.1<(linksL b).length→slR x.2→slR r.2∧Ev (fun n=>qgE n b c (gt (linksL b) x.1) x.2) r∧Ev (fun n=>qfs n (some (viewV b)) c (x.1:Int) x.2) r:=by
  rintro ⟨k,s⟩
  by_cases hk:k<(linksL b).length∧slR s
  ·obtain ⟨hk,⟨e0,e1⟩,⟨l0,l1⟩⟩:=hk
   obtain ⟨⟨d1,p1,q1⟩,⟨u1,a1,b1,v1,w1⟩⟩:=qo1 h hc hk e0 e1 (mode:=0) (.inl rfl)
   obtain ⟨⟨d2,p2,q2⟩,⟨u2,a2,b2,v2,w2⟩⟩:=qo1 h hc hk e0 e1 (mode:=1) (.inr rfl)
   obtain ⟨⟨d3,p3,q3⟩,⟨u3,a3,b3,v3,w3⟩⟩:=qo1 h hc hk l0 l1 (mode:=0) (.inl rfl)
   obtain ⟨⟨d4,p4,q4⟩,⟨u4,a4,b4,v4,w4⟩⟩:=qo1 h hc hk l0 l1 (mode:=1) (.inr rfl)
   refine ⟨(⟨if d3<d1 then d3 else d1,if d4 > d2 then d4 else d2⟩,⟨if u3<u1 then u3 else u1,if u4 > u2 then u4 else u2⟩),fun _ _=>⟨⟨?_,?_⟩,?_,?_⟩⟩
   ·show 0≤(if u3<u1 then u3 else u1)∧(if u3<u1 then u3 else u1)≤1000000
    split<;>omega
   ·show 0≤(if u4 > u2 then u4 else u2)∧(if u4 > u2 then u4 else u2)≤1000000
    split<;>omega
   ·unfold qgE
    exact Ev.bind p1 (Ev.bind p2 (Ev.bind v1 (Ev.bind v2 (Ev.bind p3 (Ev.bind p4 (Ev.bind v3 (Ev.bind v4 .done)))))))
   ·unfold qfs
    refine Ev.bind q1 (Ev.bind q3 (Ev.bind q2 (Ev.bind q4 ?_)))
    have hv:idx (viewV b).links (k:Int)=some (gt (linksL b) k):=qA hk
    simp only [ja,hv]
    refine Ev.bind (b:=false) (Ev.now rfl) (Ev.bind (b:=(if d3<d1 then d3 else d1,if d4 > d2 then d4 else d2)) (Ev.now rfl) ?_)
    exact Ev.bind w1 (Ev.bind w3 (Ev.bind w2 (Ev.bind w4 .done)))
  ·exact ⟨(s,s),fun h1 h2=>absurd ⟨h1,h2⟩ hk⟩
 obtain ⟨f,hf⟩:=Classical.axiomOfChoice main
 exact ⟨fun k s=>f (k,s),fun k s h1 h2=>hf (k,s) h1 h2⟩
def zSp:qf:=⟨0,0⟩
def zSrc:qg:=⟨0,zSp,zSp⟩
def hullS (s t:qf):qf:=⟨if t.Ak<s.Ak then t.Ak else s.Ak,if t.Bd > s.Bd then t.Bd else s.Bd⟩
theorem qqI {s t:qf}:(⟨if s.Ak<t.Ak then s.Ak else t.Ak,if s.Bd > t.Bd then s.Bd else t.Bd⟩:qf)=hullS s t:=by
 unfold hullS
 congr 1
 ·split<;>split<;>omega
 ·split<;>split<;>omega
def plusS (s t:qf):qf:=⟨W64 (s.Ak+t.Ak),W64 (s.Bd+t.Bd)⟩
def joinS (node:Int) (s:Bool × qg) (ar sl:qf):Bool × qg:=bif s.1 then (true,⟨node,hullS s.2.Af ar,hullS s.2.Bc sl⟩) else (true,⟨node,ar,sl⟩)
def frN (ls:List qq) (k:Nat):Nat:=(gt ls k).Bi.toNat
def stepS (f:Nat→qf→qf × qf) (ls:List qq) (t:qx) (node:Int) (s:Bool × qg) (k:Nat):Bool × qg :=
 bif gt t.Bg (frN ls k) then joinS node s (plusS (gt t.Af (frN ls k)) (f k (gt t.Bc (frN ls k))).1) (f k (gt t.Bc (frN ls k))).2 else s
def toQ (ls:List qq) (lv:List Bool) (node:Int) (k:Nat):Bool:=lvL lv k&&(toL ls k==node)
def srcO (xs:List qg) (node:Int):Option qg:=xs.find? fun s=>s.Bo==node
def srcV (o:Option qg):Bool × qg:=match o with|some y=>(true,y)|none=>(false,zSrc)
def ndS (f:Nat→qf→qf × qf) (ls:List qq) (lv:List Bool) (t:qx) (node:Int) (s0:Bool × qg):Nat→Bool × qg
 | 0=>s0
 | k+1=>bif toQ ls lv node k then stepS f ls t node (ndS f ls lv t node s0 k) k else ndS f ls lv t node s0 k
theorem qvb {f:Nat→qf→qf × qf} {ls:List qq} {lv:List Bool} {t:qx} {node:Int} {s0:Bool × qg} {j:Nat}:(selN (toQ ls lv node) j).foldl (stepS f ls t node) s0=ndS f ls lv t node s0 j:=by
 induction j with
 | zero=>rfl
 | succ j ih =>
  rw [qms,List.foldl_append,ih]
  show _=bif toQ ls lv node j then stepS f ls t node (ndS f ls lv t node s0 j) j else ndS f ls lv t node s0 j
  cases toQ ls lv node j<;>rfl
structure TmOk (t:qx) (M:Nat):Prop where
 r:t.Bg.length=M
 a:t.Af.length=M
 s:t.Bc.length=M
 sl:∀ k,k<M→slR (gt t.Bc k)
structure SrcOk (xs:List qg):Prop where
 len:xs.length≤1048576
 inc:∀ j i,i<j→j<xs.length→(gt xs i).Bo<(gt xs j).Bo
 sl:∀ x,x ∈ xs→slR x.Bc
theorem quy {xs:List qg} {node:Int} (hl:xs.length≤1048576):Ev (fun n=>qih n xs node) ((srcV (srcO xs node)).2,(srcV (srcO xs node)).1):=by
 have h1:Ev (fun n=>qav n xs node) (ixL (fun s=>s.Bo==node) xs) :=
  qft (fin:=(xs.length:Int)) (Lf:=qJ xs node) (xs:=xs) (pf:=fun n x=>qi0 n x node) (fun _ _=>.done)
   (fun n=>by simp only [qJ,qk (jb _),cond_false])
   (fun n j x hx=>by
    have hj:=(List.getElem?_eq_some_iff.1 hx).1
    simp only [qJ,qj hj,cond_true,qaq hx,ja,wS j])
   (fun n=>by unfold qav;congr 1;funext o;cases o<;>rfl)
 unfold qih
 refine Ev.bind h1 ?_
 unfold ixL srcO
 cases hf:xs.findIdx? (fun s=>s.Bo==node) with
 | none =>
  have:xs.find? (fun s=>s.Bo==node)=none:=by
   rw [List.find?_eq_none]
   intro x hx
   have:=List.findIdx?_eq_none_iff.1 hf x hx
   simpa using this
  rw [this]
  exact Ev.ff rfl .done
 | some j =>
  obtain ⟨hj,hp,hn⟩:=List.findIdx?_eq_some_iff_getElem.1 hf
  have:xs.find? (fun s=>s.Bo==node)=some xs[j]:=by
   rw [List.find?_eq_some_iff_getElem]
   exact ⟨hp,j,hj,rfl,fun i hi=>by have:=hn i hi;simpa using this⟩
  rw [this]
  refine Ev.tt (show decide ((j:Int) ≥ 0)=true from decide_eq_true (by omega)) ?_
  show Ev (fun n=>(idx xs (j:Int)).bind _) _
  rw [qhC hj]
  exact .done
theorem qmx {xs:List qg} {node:Int} {y:qg} (h:srcO xs node=some y):y.Bo=node∧y ∈ xs:=by
 have h1:=List.find?_some h
 exact ⟨by simpa using h1,List.mem_of_find?_eq_some h⟩
theorem qwh {xs:List qg} {node:Int} (h:SrcOk xs) :
  Ev (fun n=>qcB xs node n 0 0 0 0 0 false 0) ((srcV (srcO xs node)).2.Bo,(srcV (srcO xs node)).2.Af.Ak,(srcV (srcO xs node)).2.Af.Bd,(srcV (srcO xs node)).2.Bc.Ak,(srcV (srcO xs node)).2.Bc.Bd,(srcV (srcO xs node)).1,(xs.length:Int)):=by
 have hl:=h.len
 have:=loopF (τ:=Bool × qg) (Lf:=fun n s j=>qcB xs node n s.2.Bo s.2.Af.Ak s.2.Af.Bd s.2.Bc.Ak s.2.Bc.Bd s.1 j) (S:=fun j=>srcV (srcO (xs.take j) node)) (len:=xs.length)
  (fin:=((srcV (srcO xs node)).2.Bo,(srcV (srcO xs node)).2.Af.Ak,(srcV (srcO xs node)).2.Af.Bd,(srcV (srcO xs node)).2.Bc.Ak,(srcV (srcO xs node)).2.Bc.Bd,(srcV (srcO xs node)).1,(xs.length:Int)))
  (fun n=>by simp only [qcB,qk (jb _),cond_false,jC])
  (fun j hj X hX=>by
   simp only [qcB,qj hj,cond_true,qA hj,ja,wS j]
   have e:srcO (xs.take (j+1)) node=(srcO (xs.take j) node).or (bif (gt xs j).Bo==node then some (gt xs j) else none):=by
    unfold srcO
    rw [jz hj,List.find?_append,←qeZ hj]
    congr 1
   cases hq:(gt xs j).Bo==node
   ·rw [hq] at e
    have e:srcO (xs.take (j+1)) node=srcO (xs.take j) node:=by rw [e];cases srcO (xs.take j) node<;>rfl
    rw [e] at hX
    exact hX
   ·rw [hq] at e
    have hn:srcO (xs.take j) node=none:=by
     unfold srcO
     rw [List.find?_eq_none]
     intro x hx hxn
     obtain ⟨i,hi,rfl⟩:=List.mem_iff_getElem.1 hx
     rw [jR] at hi
     rw [List.getElem_take,←qeZ (by omega)] at hxn
     have:=h.inc j i (by omega) hj
     simp only [beq_iff_eq] at hq hxn
     omega
    have e:srcO (xs.take (j+1)) node=some (gt xs j):=by rw [e,hn];rfl
    rw [e] at hX
    exact hX)
 exact this
theorem qsB {ls:List qq} {M:Nat} (h:LkOk ls M) {k:Nat} (hk:k<ls.length):(gt ls k).Bi=(frN ls k:Int)∧frN ls k<M:=by
 have h0:=h.fr0 k hk
 have h1:=h.fr1 k hk
 unfold frN
 omega
section
variable {b:qe} {c:qu} {f:Nat→qf→qf × qf} {lv:List Bool} {t:qx} {xs:List qg} {node:Int}
theorem qu2 (h:blockB b=true) (hf:SpansOk b c f) (hl:lv.length=(linksL b).length) (ht:TmOk t (2*(places b.Ab).length)) (hx:SrcOk xs) :
  Ev (fun n=>qhB n b c (linksL b) lv xs t node) (ndS f (linksL b) lv t node (srcV (srcO xs node)) (linksL b).length):=by
 have hk:=qml h
 have hkl:=hk.len
 have hL:=loopF (τ:=Bool × qg) (Lf:=fun n s j=>qcC b c (linksL b) lv t node n s.2.Bo s.2.Af.Ak s.2.Af.Bd s.2.Bc.Ak s.2.Bc.Bd s.1 j) (S:=fun j=>ndS f (linksL b) lv t node (srcV (srcO xs node)) j) (len:=(linksL b).length)
  (fin:=(fun s:Bool × qg=>(s.2.Bo,s.2.Af.Ak,s.2.Af.Bd,s.2.Bc.Ak,s.2.Bc.Bd,s.1,((linksL b).length:Int))) (ndS f (linksL b) lv t node (srcV (srcO xs node)) (linksL b).length))
  (fun n=>by simp only [qcC,qk (jb _),cond_false])
  (fun j hj X hX=>by
   obtain ⟨e1,e2⟩:=qsB hk hj
   have eN:ndS f (linksL b) lv t node (srcV (srcO xs node)) (j+1)=bif toQ (linksL b) lv node j then stepS f (linksL b) t node (ndS f (linksL b) lv t node (srcV (srcO xs node)) j) j else ndS f (linksL b) lv t node (srcV (srcO xs node)) j:=rfl
   rw [eN] at hX
   generalize ndS f (linksL b) lv t node (srcV (srcO xs node)) j=s at hX ⊢
   simp only [qcC,qj hj,cond_true,qA hj,qA (show j<lv.length by omega),ja,e1,qA (show frN (linksL b) j<t.Bg.length by rw [ht.r];exact e2),qA (show frN (linksL b) j<t.Af.length by rw [ht.a];exact e2),qA (show frN (linksL b) j<t.Bc.length by rw [ht.s];exact e2),wS j]
   unfold toQ lvL toL at hX
   cases h1:gt lv j
   ·rw [h1] at hX;exact hX
   rw [h1,jv] at hX
   cases h2:(gt (linksL b) j).To==node
   ·rw [h2] at hX
    simp only [bne,h2]
    exact hX
   rw [h2] at hX
   simp only [bne,h2]
   unfold stepS at hX
   cases h3:gt t.Bg (frN (linksL b) j)
   ·rw [h3] at hX;exact hX
   rw [h3] at hX
   simp only [cond_true] at hX
   obtain ⟨_,s1,_⟩:=hf j _ hj (ht.sl _ e2)
   refine Ev.bind (b:=false) (Ev.now rfl) (Ev.ff rfl (Ev.bind s1 ?_))
   generalize f j (gt t.Bc (frN (linksL b) j))=q at hX ⊢
   unfold joinS at hX
   cases h4:s.1
   ·rw [h4] at hX;exact hX
   ·rw [h4] at hX
    simp only [qi2,ja,cond_true]
    have a1:=qqI (s:=s.2.Af) (t:=plusS (gt t.Af (frN (linksL b) j)) q.1)
    have a2:=qqI (s:=s.2.Bc) (t:=q.2)
    simp only [cond_true] at hX
    rw [←a1,←a2] at hX
    exact hX)
 unfold qhB
 exact Ev.bind (qwh hx) (Ev.bind hL .done)
theorem qxn {ls:List qq} {M:Nat} {ps:List Tplace} {lo:List Int} {de:List (List Int)} {ex:List Int} (h:LkOk ls M) (hl:lv.length=ls.length):Ev (fun n=>qir n (grV ls lv ps b lo de ex) node) (ints (selN (toQ ls lv node) ls.length)):=by
 have hll:=h.len
 have hL:Ev (fun n=>qF node ⟨some ⟨b,ps,ls,lo,de,ex⟩,lv⟩ ⟨b,ps,ls,lo,de,ex⟩ n ([]:List Int) 0) (ints (selN (toQ ls lv node) ls.length),(ls.length:Int)):=by
  refine qnI (q:=toQ ls lv node) (Lf:=qF node ⟨some ⟨b,ps,ls,lo,de,ex⟩,lv⟩ ⟨b,ps,ls,lo,de,ex⟩) (len:=ls.length) (by omega) (Ev.succ ?_) (fun j hj t ht X h1 h2=>?_)
  ·simp only [qF,qk (jb _),cond_false];exact .done
  ·simp only [qF,qj hj,cond_true,qA hj,qA (show j<lv.length by omega),ja,qiW,ht,wS j]
   unfold toQ lvL toL at h1 h2
   cases hq:gt lv j
   ·simp only [cond_false];exact h2 (by rw [hq];rfl)
   ·simp only [cond_true]
    cases hw:(gt ls j).To==node
    ·simp only [cond_false];exact h2 (by rw [hq,hw];rfl)
    ·simp only [cond_true];exact h1 (by rw [hq,hw];rfl)
 unfold qir qca grV
 simp only [ja]
 exact Ev.bind (Ev.bind hL .done) .done
def fixS (node:Int) (s:Bool × qg):Bool × qg:=bif s.1 then s else (false,⟨node,zSp,zSp⟩)
theorem quY (h:blockB b=true) (hf:SpansOk b c f) (hl:lv.length=(linksL b).length) (ht:TmOk t (2*(places b.Ab).length)) (hx:xs.length≤1048576) :
  Ev (fun n=>qcW n (some ⟨some (viewV b),lv⟩) c xs t node) (ndS f (linksL b) lv t node (srcV (srcO xs node)) (linksL b).length):=by
 have hk:=qml h
 have hkl:=hk.len
 have hsel:=qnk (q:=toQ (linksL b) lv node) (j:=(linksL b).length)
 have hnd:∀ j,(ndS f (linksL b) lv t node (srcV (srcO xs node)) j).1=true→(ndS f (linksL b) lv t node (srcV (srcO xs node)) j).2.Bo=node:=by
  intro j
  induction j with
  | zero =>
   show (srcV (srcO xs node)).1=true→(srcV (srcO xs node)).2.Bo=node
   cases hs:srcO xs node with
   | none=>intro e;cases e
   | some y=>exact fun _=>(qmx hs).1
  | succ j ih =>
   unfold ndS
   cases toQ (linksL b) lv node j
   ·exact ih
   ·simp only [cond_true]
    unfold stepS
    cases gt t.Bg (frN (linksL b) j)
    ·exact ih
    ·simp only [cond_true]
     unfold joinS
     cases (ndS f (linksL b) lv t node (srcV (srcO xs node)) j).1<;>exact fun _=>rfl
 have hz:∀ j,(ndS f (linksL b) lv t node (srcV (srcO xs node)) j).1=false→(ndS f (linksL b) lv t node (srcV (srcO xs node)) j).2=zSrc:=by
  intro j
  induction j with
  | zero =>
   show (srcV (srcO xs node)).1=false→(srcV (srcO xs node)).2=zSrc
   cases srcO xs node with
   | none=>exact fun _=>rfl
   | some y=>intro e;cases e
  | succ j ih =>
   unfold ndS
   cases toQ (linksL b) lv node j
   ·exact ih
   ·simp only [cond_true]
    unfold stepS
    cases gt t.Bg (frN (linksL b) j)
    ·exact ih
    ·simp only [cond_true]
     unfold joinS
     cases (ndS f (linksL b) lv t node (srcV (srcO xs node)) j).1<;>(intro e;cases e)
 have fl:∀ (l:List Nat) (s:Bool × qg),(∀ k,k ∈ l→toQ (linksL b) lv node k=true)→l.foldl (fun s k=>fixS node (stepS f (linksL b) t node s k)) (fixS node s)=fixS node (l.foldl (stepS f (linksL b) t node) s):=by
  intro l
  induction l with
  | nil=>intro s _;rfl
  | cons k l ih =>
   intro s hq
   have e:fixS node (stepS f (linksL b) t node (fixS node s) k)=fixS node (stepS f (linksL b) t node s k):=by
    unfold stepS
    obtain ⟨s1,s2⟩:=s
    cases gt t.Bg (frN (linksL b) k)<;>cases s1<;>rfl
   rw [List.foldl_cons,List.foldl_cons,e]
   exact ih _ fun k' hk'=>hq k' (jn _ hk')
 have hL:=(qty (τ:=Bool × qg) (xs:=selN (toQ (linksL b) lv node) (linksL b).length) (Lf:=fun n s j=>qaZ (some ⟨some (viewV b),lv⟩) c t (ints (selN (toQ (linksL b) lv node) (linksL b).length)) n s.1 s.2.Bo s.2.Af.Ak s.2.Af.Bd s.2.Bc.Ak s.2.Bc.Bd j)
  (step:=fun s k=>fixS node (stepS f (linksL b) t node s k)) (fin:=fun s=>(s.1,s.2.Bo,s.2.Af.Ak,s.2.Af.Bd,s.2.Bc.Ak,s.2.Bc.Bd,((ints (selN (toQ (linksL b) lv node) (linksL b).length)).length:Int))) (fixS node (srcV (srcO xs node))) (fun _ s=>s=fixS node s∧s.2.Bo=node) (by
   constructor
   ·unfold fixS
    cases hs:(srcV (srcO xs node)).1
    ·rfl
    ·simp only [hs,cond_true]
   ·unfold fixS
    cases hs:srcO xs node with
    | none=>rfl
    | some y=>exact (qmx hs).1)
  (fun j s hj hs=>by
   obtain ⟨h1,h2⟩:=hs
   have key:(stepS f (linksL b) t node s (selN (toQ (linksL b) lv node) (linksL b).length)[j]).2.Bo=node:=by
    unfold stepS
    cases gt t.Bg (frN (linksL b) (selN (toQ (linksL b) lv node) (linksL b).length)[j])
    ·exact h2
    ·unfold joinS
     cases s.1<;>rfl
   constructor
   ·unfold fixS
    cases hs:(stepS f (linksL b) t node s (selN (toQ (linksL b) lv node) (linksL b).length)[j]).1
    ·rfl
    ·simp only [hs,cond_true]
   ·unfold fixS
    cases hs:(stepS f (linksL b) t node s (selN (toQ (linksL b) lv node) (linksL b).length)[j]).1
    ·rfl
    ·exact key)
  (fun n s=>by simp only [qaZ,qdr,qk (jb _),cond_false])
  (fun j s hj hs X hX=>by
   obtain ⟨hfx,hsn⟩:=hs
   have hi:=qo6 hj
   have hm:(selN (toQ (linksL b) lv node) (linksL b).length)[j]<(linksL b).length:=(qnf.1 (jp hj)).1
   generalize (selN (toQ (linksL b) lv node) (linksL b).length)[j]=k at hi hm hX
   obtain ⟨e1,e2⟩:=qsB hk hm
   have hv:idx (viewV b).links (k:Int)=some (gt (linksL b) k):=qA hm
   simp only [qaZ,qdr,qj hj,cond_true,hi,hv,ja,e1,qA (show frN (linksL b) k<t.Bg.length by rw [ht.r];exact e2),qA (show frN (linksL b) k<t.Af.length by rw [ht.a];exact e2),qA (show frN (linksL b) k<t.Bc.length by rw [ht.s];exact e2),wS j]
   unfold stepS at hX
   cases h3:gt t.Bg (frN (linksL b) k)
   ·rw [h3] at hX
    simp only [cond_false] at hX
    rw [←hfx] at hX
    exact hX
   rw [h3] at hX
   simp only [cond_true] at hX ⊢
   obtain ⟨_,_,s1⟩:=hf k _ hm (ht.sl _ e2)
   refine Ev.bind s1 ?_
   generalize f k (gt t.Bc (frN (linksL b) k))=q at hX ⊢
   simp only [qjK,ja]
   unfold joinS at hX
   unfold qeK
   cases h4:s.1
   ·rw [h4] at hX
    simp only [Bool.not_false,cond_true,ja]
    unfold fixS at hX
    simp only [cond_false,cond_true] at hX
    rw [hsn]
    exact hX
   ·rw [h4] at hX
    simp only [jV,cond_false,qhG,ja]
    unfold fixS at hX
    simp only [cond_true] at hX
    rw [hsn]
    exact hX)).1
 rw [fl _ _ (fun k hk'=>(qnf.1 hk').2),qvb] at hL
 unfold qcW
 refine Ev.bind (quy hx) ?_
 have e0:(bif (srcV (srcO xs node)).1 then (qeK 0 ⟨node,⟨0,0⟩,⟨0,0⟩⟩ false ⟨(srcV (srcO xs node)).2.Af.Ak,(srcV (srcO xs node)).2.Af.Bd⟩ ⟨(srcV (srcO xs node)).2.Bc.Ak,(srcV (srcO xs node)).2.Bc.Bd⟩).bind (fun o=>match o with|(x9,x10)=>some (x10,x9.Bo,x9.Af.Ak,x9.Af.Bd,x9.Bc.Ak,x9.Bc.Bd)) else some (false,node,(0:Int),(0:Int),(0:Int),(0:Int))) =
   some ((fixS node (srcV (srcO xs node))).1,(fixS node (srcV (srcO xs node))).2.Bo,(fixS node (srcV (srcO xs node))).2.Af.Ak,(fixS node (srcV (srcO xs node))).2.Af.Bd,(fixS node (srcV (srcO xs node))).2.Bc.Ak,(fixS node (srcV (srcO xs node))).2.Bc.Bd):=by
  cases hs:srcO xs node with
  | none=>rfl
  | some y =>
   have:=(qmx hs).1
   unfold fixS srcV
   simp only [cond_true,this]
   rfl
 refine Ev.bindN e0 (Ev.bind (qxn (ps:=places b.Ab) (lo:=pre (load0 b) b.Ac.length) (de:=pre (exactL b) b.Ac.length) (ex:=[]) hk hl) (Ev.bind hL ?_))
 have z:=hz (linksL b).length
 generalize ndS f (linksL b) lv t node (srcV (srcO xs node)) (linksL b).length=s at z ⊢
 unfold fixS
 obtain ⟨s1,s2⟩:=s
 cases s1
 ·have:=z rfl
  simp only at this
  subst this
  exact .done
 ·exact .done
end
end Go.Fw


namespace Go.Fw
open Go
set_option maxRecDepth 100000
theorem qlY {b:qe} (h:blockB b=true):Ev (fun n=>qfD n b) ((2*(places b.Ab).length:Nat):Int):=by
 have hs:=qag (qaC h)
 have hl:=qbL hs
 unfold qfD
 refine Ev.bind (b:=(places b.Ab).map toSp) (qg6 hs) (Ev.now ?_)
 rw [ju,qax (by omega) (by omega)]
 rfl
theorem qse {v:Tview} (hl:v.places.length≤78) (n:Nat):qcy n (some v)=some ((2*v.places.length:Nat):Int):=by
 unfold qcy qdu
 simp only [ja]
 rw [qax (by omega) (by omega)]
 rfl
def stepN (xs:List qg) (j:Nat):Bool:=decide (j=0) || decide ((gt xs (j-1)).Bo<(gt xs j).Bo)
def srcB (xs:List qg) (M:Nat):Bool:=allN (fun j=>inI (gt xs j).Bo 0 ((M:Int)-1)&&(stepN xs j&&(spanB (gt xs j).Af&&slewB (gt xs j).Bc))) xs.length
theorem qpi {xs:List qg} {j:Nat} (h:j ≠ 0):stepN xs j=decide ((gt xs (j-1)).Bo<(gt xs j).Bo):=by unfold stepN;rw [decide_eq_false h,Bool.false_or]
theorem qp6 {b:qe} {xs:List qg} (h:blockB b=true) (hl:xs.length≤1048576):Ev (fun n=>qfl n b xs) (srcB xs (2*(places b.Ab).length)):=by
 have hpl:=qbL (qag (qaC h))
 have e:=qlY h
 obtain ⟨M,eM⟩:∃ M,M=2*(places b.Ab).length:=⟨_,rfl⟩
 rw [←eM] at e ⊢
 have hM:M≤156:=by omega
 have hL:Ev (fun n=>qbz xs (M:Int) n 0) (bif srcB xs M then .nxt (xs.length:Int) else .ret false):=by
  refine qdU (Lf:=qbz xs (M:Int)) (len:=xs.length) (Ev.succ (by simp only [qbz,qk (jb _),cond_false];exact .done)) (fun j hj X hX=>Ev.succ ?_)
  simp only [qbz,qj hj,cond_true,qA hj,ja,qcG,qpl,qry,wS j,wO ((M:Int)-1)]
  cases inI (gt xs j).Bo 0 ((M:Int)-1)
  ·exact .done
  refine Ev.ff rfl ?_
  by_cases h0:j=0
  ·subst h0
   refine Ev.ff rfl ?_
   show Ev _ (bif (stepN xs 0&&_) then X else _)
   rw [show stepN xs 0=true from rfl]
   show Ev (fun n=>bif !spanB (gt xs 0).Af then _ else bif !slewB (gt xs 0).Bc then _ else _) _
   cases spanB (gt xs 0).Af
   ·exact .done
   ·cases slewB (gt xs 0).Bc
    ·exact .done
    ·exact hX
  ·refine Ev.tt (decide_eq_true (by omega)) ?_
   rw [show (j:Int)-1=((j-1:Nat):Int) by omega,qax (by omega) (by omega),qA (show j-1<xs.length by omega),qpi h0]
   simp only [ja]
   by_cases hlt:(gt xs (j-1)).Bo<(gt xs j).Bo
   ·rw [decide_eq_true hlt]
    refine Ev.ff (decide_eq_false (by omega)) ?_
    show Ev (fun n=>bif !spanB (gt xs j).Af then _ else bif !slewB (gt xs j).Bc then _ else _) _
    cases spanB (gt xs j).Af
    ·exact .done
    ·cases slewB (gt xs j).Bc
     ·exact .done
     ·exact hX
   ·rw [decide_eq_false hlt]
    exact Ev.tt (decide_eq_true (by omega)) .done
 unfold qfl
 refine Ev.bind e (Ev.bind hL ?_)
 cases srcB xs M<;>exact .done
theorem qp3 {v:Tview} {xs:List qg} (hp:v.places.length≤78) (hl:xs.length≤1048576):Ev (fun n=>qc2 n (some v) xs) (srcB xs (2*v.places.length)):=by
 have e:=qse hp
 obtain ⟨M,eM⟩:∃ M,M=2*v.places.length:=⟨_,rfl⟩
 rw [←eM] at e ⊢
 have hM:M≤156:=by omega
 have hL:Ev (fun n=>qaD (some v) xs n 0) (bif srcB xs M then .nxt (xs.length:Int) else .ret false):=by
  refine qdU (Lf:=qaD (some v) xs) (len:=xs.length) (Ev.succ (by simp only [qaD,qk (jb _),cond_false];exact .done)) (fun j hj X hX=>Ev.succ ?_)
  simp only [qaD,qj hj,cond_true,qA hj,ja,qib,e,qc9,qnP,qru,wS j,wO ((M:Int)-1)]
  cases inI (gt xs j).Bo 0 ((M:Int)-1)
  ·exact .done
  refine Ev.ff rfl ?_
  show Ev (fun n=>bif !spanB (gt xs j).Af then _ else bif !slewB (gt xs j).Bc then _ else _) _
  rw [jv,Bool.and_comm]
  cases spanB (gt xs j).Af
  ·exact .done
  ·cases slewB (gt xs j).Bc
   ·exact .done
   ·refine Ev.ff rfl (Ev.ff rfl ?_)
    rw [jv,jv]
    by_cases h0:j=0
    ·subst h0
     exact Ev.ff rfl hX
    ·refine Ev.tt (decide_eq_true (by omega)) ?_
     rw [show (j:Int)-1=((j-1:Nat):Int) by omega,qax (by omega) (by omega),qA (show j-1<xs.length by omega),qpi h0]
     simp only [ja]
     by_cases hlt:(gt xs (j-1)).Bo<(gt xs j).Bo
     ·rw [decide_eq_true hlt]
      exact Ev.ff (decide_eq_false (by omega)) hX
     ·rw [decide_eq_false hlt]
      exact Ev.tt (decide_eq_true (by omega)) .done
 unfold qc2
 refine Ev.bind hL ?_
 cases srcB xs M<;>exact .done
theorem qvI {xs:List qg} {M:Nat} (hl:xs.length≤1048576) (h:srcB xs M=true):SrcOk xs:=by
 unfold srcB at h
 rw [qai] at h
 refine ⟨hl,fun j=>?_,fun x hx=>?_⟩
 ·induction j with
  | zero=>intro i hi _;omega
  | succ j ih =>
   intro i hi hj
   have hs:=h (j+1) hj
   rw [qpi (by omega)] at hs
   simp only [jc,decide_eq_true_eq,Nat.add_sub_cancel] at hs
   have hs':=hs.2.1
   by_cases hij:i=j
   ·rw [hij];exact hs'
   ·have:=ih i (by omega) (by omega);omega
 ·obtain ⟨i,hi,rfl⟩:=List.mem_iff_getElem.1 hx
  have hs:=h i hi
  rw [←qeZ hi]
  simp only [jc] at hs
  have:=hs.2.2.2
  unfold slewB at this
  simp only [jc,decide_eq_true_eq] at this
  exact ⟨⟨this.1,by omega⟩,by omega,this.2.2⟩
section
variable {L:Nat} {fr to:Nat→Int} {lv:Nat→Bool} {n:Nat}
def OrdOk (L:Nat) (fr to:Nat→Int) (lv:Nat→Bool) (n:Nat) (R:List Nat):Prop:=∀ l1 k l2,R=l1++k::l2→k<n∧k ∉ l1∧inN L fr to lv l1 k=0
theorem OrdOk.snoc {R:List Nat} {k:Nat} (h:OrdOk L fr to lv n R) (hk:nxtN L fr to lv n R=some k):OrdOk L fr to lv n (R++[k]):=by
 intro l1 k' l2 e
 rcases List.eq_nil_or_concat l2 with rfl|⟨l2',z,rfl⟩
 ·obtain ⟨rfl,e2⟩:=List.append_inj' e rfl
  obtain rfl:k=k':=by simpa using e2
  exact qoa hk
 ·have e':R++[k]=(l1++k'::l2')++[z]:=by rw [e];simp
  obtain ⟨e1,_⟩:=List.append_inj' e' rfl
  exact h l1 k' l2' e1
theorem qwm:∀ m R R',OrdOk L fr to lv n R→ordN L fr to lv n m R=some R'→OrdOk L fr to lv n R':=by
 intro m
 induction m with
 | zero=>intro R R' h e;obtain rfl:=Option.some.inj e;exact h
 | succ m ih =>
  intro R R' h e
  unfold ordN at e
  cases hn:nxtN L fr to lv n R with
  | none=>rw [hn] at e;cases e
  | some k =>
   rw [hn] at e
   exact ih _ _ (h.snoc hn) e
theorem OrdOk.at {R:List Nat} (h:OrdOk L fr to lv n R) {j:Nat} (hj:j<R.length):R[j]<n∧R[j] ∉ R.take j∧inN L fr to lv (R.take j) R[j]=0:=by
 refine h (R.take j) R[j] (R.drop (j+1)) ?_
 rw [←List.drop_eq_getElem_cons hj,List.take_append_drop]
end
theorem qnM {α:Type} [Inhabited α] {xs:List α} {k:Nat} {v:α} (hk:k<xs.length) (h:gt xs k=v):setS xs (k:Int) v=xs:=by
 unfold setS
 rw [jo,←h,qeZ hk]
 exact List.set_getElem_self hk
theorem qoX {α:Type} [Inhabited α] {xs:List α} {a k:Nat} {y:α} (ha:a<xs.length):gt (setS xs (a:Int) y) k=if k=a then y else gt xs k:=by
 unfold setS
 rw [jo]
 by_cases h:k=a
 ·subst h;rw [if_pos rfl,qoi ha]
 ·rw [if_neg h,qqB h]
def setT (t:qx) (k:Nat) (s:Bool × qg):qx:=⟨setS t.Bg (k:Int) s.1,setS t.Af (k:Int) s.2.Af,setS t.Bc (k:Int) s.2.Bc⟩
theorem qv0 {t:qx} {M k:Nat} {s:Bool × qg} (h:TmOk t M) (hk:k<M) (hs:slR s.2.Bc):TmOk (setT t k s) M where
 r:=by show (setS _ _ _).length=_;rw [qfV];exact h.r
 a:=by show (setS _ _ _).length=_;rw [qfV];exact h.a
 s:=by show (setS _ _ _).length=_;rw [qfV];exact h.s
 sl:=fun j hj=>by
  show slR (gt (setS _ _ _) j)
  rw [qoX (by rw [h.s];exact hk)]
  split
  ·exact hs
  ·exact h.sl j hj
def Bare (t:qx) (M:Nat) (l:List Nat):Prop:=∀ k,k<M→k ∉ l→gt t.Bg k=false∧gt t.Af k=zSp∧gt t.Bc k=zSp
def zT:qx:=⟨[],[],[]⟩
theorem quJ:slR zSp:=by unfold slR zSp;exact ⟨⟨jU _,by show (0:Int)≤_;omega⟩,jU _,by show (0:Int)≤_;omega⟩
theorem qws {s t:qf} (hs:slR s) (ht:slR t):slR (hullS s t):=by
 obtain ⟨⟨a1,a2⟩,a3,a4⟩:=hs
 obtain ⟨⟨b1,b2⟩,b3,b4⟩:=ht
 refine ⟨⟨?_,?_⟩,?_,?_⟩
 ·show (0:Int)≤(if t.Ak<s.Ak then t.Ak else s.Ak);split<;>assumption
 ·show (if t.Ak<s.Ak then t.Ak else s.Ak)≤1000000;split<;>assumption
 ·show (0:Int)≤(if t.Bd > s.Bd then t.Bd else s.Bd);split<;>assumption
 ·show (if t.Bd > s.Bd then t.Bd else s.Bd)≤1000000;split<;>assumption
section
variable {b:qe} {c:qu} {f:Nat→qf→qf × qf} {lv:List Bool} {t:qx} {xs:List qg} {node:Int}
theorem quO (h:blockB b=true) (hf:SpansOk b c f) (ht:TmOk t (2*(places b.Ab).length)) (hx:SrcOk xs):∀ j,j≤(linksL b).length→slR (ndS f (linksL b) lv t node (srcV (srcO xs node)) j).2.Bc:=by
 intro j
 induction j with
 | zero =>
  intro _
  show slR (srcV (srcO xs node)).2.Bc
  cases hs:srcO xs node with
  | none=>exact quJ
  | some y=>exact hx.sl y (qmx hs).2
 | succ j ih =>
  intro hj
  have ih:=ih (by omega)
  obtain ⟨_,e2⟩:=qsB (qml h) (show j<(linksL b).length by omega)
  have h2:=(hf j _ (show j<(linksL b).length by omega) (ht.sl _ e2)).1
  show slR (bif toQ (linksL b) lv node j then stepS f (linksL b) t node (ndS f (linksL b) lv t node (srcV (srcO xs node)) j) j else ndS f (linksL b) lv t node (srcV (srcO xs node)) j).2.Bc
  cases toQ (linksL b) lv node j
  ·exact ih
  ·simp only [cond_true]
   unfold stepS
   cases gt t.Bg (frN (linksL b) j)
   ·exact ih
   ·simp only [cond_true]
    unfold joinS
    cases (ndS f (linksL b) lv t node (srcV (srcO xs node)) j).1
    ·exact h2
    ·exact qws ih h2
theorem qvK:∀ j,(ndS f (linksL b) lv t node (srcV (srcO xs node)) j).1=false→(ndS f (linksL b) lv t node (srcV (srcO xs node)) j).2=zSrc:=by
 intro j
 induction j with
 | zero =>
  show (srcV (srcO xs node)).1=false→(srcV (srcO xs node)).2=zSrc
  cases srcO xs node with
  | none=>exact fun _=>rfl
  | some y=>intro e;cases e
 | succ j ih =>
  unfold ndS
  cases toQ (linksL b) lv node j
  ·exact ih
  ·simp only [cond_true]
   unfold stepS
   cases gt t.Bg (frN (linksL b) j)
   ·exact ih
   ·simp only [cond_true]
    unfold joinS
    cases (ndS f (linksL b) lv t node (srcV (srcO xs node)) j).1<;>(intro e;cases e)
def runR (o:Option qx):qx × Bool:=match o with|some t=>(t,true)|none=>(zT,false)
theorem qw3 (h:blockB b=true) (hf:SpansOk b c f) (hl:lv.length=(linksL b).length) (hx:SrcOk xs) {R:List Nat} (hR:∀ j,∀ hj:j<R.length,R[j]<2*(places b.Ab).length∧R[j] ∉ R.take j) (hRl:R.length≤1000) :
  ∃ o:Option qx,(∀ t,o=some t→TmOk t (2*(places b.Ab).length))∧Ev (fun n=>qj7 n b c (linksL b) lv xs (ints R)) (runR o)∧Ev (fun n=>qev n (some ⟨some (viewV b),lv⟩) c xs (ints R)) (runR o):=by
 have hpl:=qbL (qag (qaC h))
 have hcn:=qlY h
 have hnd:=qse (v:=viewV b) hpl
 have epl:(viewV b).places.length=(places b.Ab).length:=rfl
 rw [epl] at hnd
 obtain ⟨M,eM⟩:∃ M,M=2*(places b.Ab).length:=⟨_,rfl⟩
 have hM:M≤156:=by omega
 have main:∀ d j t,j+d=R.length→TmOk t M→Bare t M (R.take j)→∃ o:Option qx,(∀ t,o=some t→TmOk t M) ∧
   Ev (fun n=>qbV b c (linksL b) lv xs (ints R) n t.Bc t.Af t.Bg (j:Int)) (match o with|some t'=>.nxt (t'.Bc,t'.Af,t'.Bg,(R.length:Int))|none=>.ret (zT,false)) ∧
   Ev (fun n=>qaE (some ⟨some (viewV b),lv⟩) c xs (ints R) n t.Bc t.Af t.Bg (j:Int)) (match o with|some t'=>.nxt (t'.Bc,t'.Af,t'.Bg,(R.length:Int))|none=>.ret (zT,false)):=by
  intro d
  induction d with
  | zero =>
   intro j t hj ht _
   obtain rfl:j=R.length:=by omega
   refine ⟨some t,fun t' e=>by obtain rfl:=Option.some.inj e;exact ht,Ev.succ ?_,Ev.succ ?_⟩
   ·simp only [qbV,qdr,qk (jb _),cond_false];exact .done
   ·simp only [qaE,qdr,qk (jb _),cond_false];exact .done
  | succ d ih =>
   intro j t hj ht hb
   have hjl:j<R.length:=by omega
   obtain ⟨k1,k2⟩:=hR j hjl
   have hi:=qo6 hjl
   have htk:R.take (j+1)=R.take j++[R[j]]:=jz hjl
   generalize R[j]=k at k1 k2 hi htk
   rw [←eM] at k1
   have hs:=qu2 (node:=(k:Int)) h hf hl (by rw [←eM];exact ht) hx
   have hp:=quY (node:=(k:Int)) h hf hl (by rw [←eM];exact ht) hx.len
   have hsl:=quO (node:=(k:Int)) (lv:=lv) h hf (by rw [←eM];exact ht) hx (linksL b).length (jb _)
   have hz:=qvK (f:=f) (b:=b) (lv:=lv) (t:=t) (xs:=xs) (node:=(k:Int)) (linksL b).length
   obtain ⟨b1,b2,b3⟩:=hb k k1 k2
   have ir:idx t.Bg (k:Int)=some (gt t.Bg k):=qA (by rw [ht.r];exact k1)
   have ia:idx t.Af (k:Int)=some (gt t.Af k):=qA (by rw [ht.a];exact k1)
   have is:idx t.Bc (k:Int)=some (gt t.Bc k):=qA (by rw [ht.s];exact k1)
   have stp:∀ n,qbV b c (linksL b) lv xs (ints R) (n+1) t.Bc t.Af t.Bg (j:Int)=(qhB n b c (linksL b) lv xs t (k:Int)).bind fun o=>match o with
    | (r4,r5)=>bif (!r4) then qbV b c (linksL b) lv xs (ints R) n t.Bc t.Af t.Bg ((j+1:Nat):Int) else bif (!spanB r5.Af) then some (.ret (zT,false)) else
     qbV b c (linksL b) lv xs (ints R) n (setS t.Bc (k:Int) r5.Bc) (setS t.Af (k:Int) r5.Af) (setS t.Bg (k:Int) true) ((j+1:Nat):Int):=fun n=>by
    simp only [qbV,qdr,qj hjl,cond_true,hi,ja,qpl,ir,ia,is,wS j]
    rfl
   have ptp:∀ n,qaE (some ⟨some (viewV b),lv⟩) c xs (ints R) (n+1) t.Bc t.Af t.Bg (j:Int)=(qcW n (some ⟨some (viewV b),lv⟩) c xs t (k:Int)).bind fun o=>match o with
    | (r3,r4)=>(bif r3 then some (!spanB r4.Af) else some false).bind fun b3=>bif b3 then some (.ret (zT,false)) else
     qaE (some ⟨some (viewV b),lv⟩) c xs (ints R) n (setS t.Bc (k:Int) r4.Bc) (setS t.Af (k:Int) r4.Af) (setS t.Bg (k:Int) r3) ((j+1:Nat):Int):=fun n=>by
    simp only [qaE,qdr,qj hjl,cond_true,hi,ja,qnP,ir,ia,is,wS j]
    rfl
   generalize ndS f (linksL b) lv t (k:Int) (srcV (srcO xs (k:Int))) (linksL b).length=s at hs hp hsl hz
   obtain ⟨s1,s2⟩:=s
   cases s1
   ·have:=hz rfl
    simp only at this
    subst this
    have e1:setS t.Bc (k:Int) zSrc.Bc=t.Bc:=qnM (by rw [ht.s];exact k1) b3
    have e2:setS t.Af (k:Int) zSrc.Af=t.Af:=qnM (by rw [ht.a];exact k1) b2
    have e3:setS t.Bg (k:Int) false=t.Bg:=qnM (by rw [ht.r];exact k1) b1
    obtain ⟨o,o1,o2,o3⟩:=ih (j+1) t (by omega) ht (fun i hi hni=>hb i hi (fun hm=>hni (by rw [htk];exact List.mem_append_left _ hm)))
    refine ⟨o,o1,Ev.step stp (Ev.bind hs o2),Ev.step ptp (Ev.bind hp ?_)⟩
    simp only [cond_false,ja,e1,e2,e3]
    exact o3
   ·cases hsp:spanB s2.Af
    ·refine ⟨none,fun t e=>(by cases e),Ev.step stp (Ev.bind hs ?_),Ev.step ptp (Ev.bind hp ?_)⟩
     ·simp only [hsp];exact .done
     ·simp only [hsp];exact .done
    ·obtain ⟨o,o1,o2,o3⟩:=ih (j+1) (setT t k (true,s2)) (by omega) (qv0 ht k1 hsl) (fun i hi hni=>by
      rw [htk] at hni
      have hne:i ≠ k:=fun e=>hni (List.mem_append_right _ (List.mem_singleton.2 e))
      have:=hb i hi (fun hm=>hni (List.mem_append_left _ hm))
      refine ⟨?_,?_,?_⟩
      ·show gt (setS _ _ _) i=_;rw [qoX (by rw [ht.r];exact k1),if_neg hne];exact this.1
      ·show gt (setS _ _ _) i=_;rw [qoX (by rw [ht.a];exact k1),if_neg hne];exact this.2.1
      ·show gt (setS _ _ _) i=_;rw [qoX (by rw [ht.s];exact k1),if_neg hne];exact this.2.2)
     refine ⟨o,o1,Ev.step stp (Ev.bind hs ?_),Ev.step ptp (Ev.bind hp ?_)⟩
     ·simp only [hsp];exact o2
     ·simp only [hsp];exact o3
 have hm1:mkS (M:Int) false=some (List.replicate M false):=qo5 (by omega)
 have hm2:mkS (M:Int) (⟨0,0⟩:qf)=some (List.replicate M zSp):=qo5 (by omega)
 have gr:∀ {α:Type} [Inhabited α] (v:α) (k:Nat),k<M→gt (List.replicate M v) k=v:=fun v k hk=>by rw [qeZ (by rw [jG];exact hk)];simp
 obtain ⟨o,o1,o2,o3⟩:=main R.length 0 ⟨List.replicate M false,List.replicate M zSp,List.replicate M zSp⟩ (by omega) ⟨jG,jG,jG,fun k hk=>by
   show slR (gt (List.replicate M zSp) k)
   rw [gr zSp k hk];exact quJ⟩ (fun k hk _=>⟨gr false k hk,gr zSp k hk,gr zSp k hk⟩)
 rw [←eM] at hcn hnd
 refine ⟨o,by rw [←eM];exact o1,?_,?_⟩
 ·unfold qj7 qkx
  refine Ev.bind hcn ?_
  simp only [hm1,hm2,ja]
  refine Ev.bind o2 ?_
  cases o<;>exact .done
 ·unfold qev qgw
  simp only [ja,hnd,hm1,hm2]
  refine Ev.bind o3 ?_
  cases o<;>exact .done
end
end Go.Fw


namespace Go.Fw
open Go Go.Proofs
open Go.RowKit (Below)
set_option maxRecDepth 100000
set_option maxHeartbeats 1600000
variable {n:Nat} {w:World} {cs1 cs2 cs3 cs4 cs5 cs6 cs7 cs8 cs9:List Value}
def qjj (n:Nat) (j:qcP):Option Int :=
 (qc0 n (⟨(⟨j.Ay.Au.Ap⟩:qp),(⟨j.Ay.Ab.Aa,j.Ay.Ab.Aj,j.Ay.Ab.Ah⟩:qd),j.Ay.Ac⟩:qe) (⟨j.Aq.Av,j.Aq.Ar,j.Aq.Bb,j.Aq.As,j.Aq.Be⟩:qu) j.Bm j.Bk).bind fun o=>match o with
  | (_,r3) =>
   some r3
theorem qow {j:qcP} (ha1:GoT.R w (old w) j cs1) {r:Int} (hF:qjj n j=some r):RetV Tryz.prog 8 [GoT.v qcP cs1] w r:=by
 obtain ⟨p1,k1,p2,k2,p3,k3,p4,k4,p5,k5,p6,k6,p7,k7,rfl,s1,s2,s3,s4,s5,s6,s7⟩:=qeH ha1
 refine zV 18 Tryz.func8 rfl fun h=>zSR (qt h rfl rfl fun w1 bb1 h=>X4 12 0 0 0 0 h rfl ?_)
 obtain ⟨r1,hr1,hF⟩:=qc hF
 obtain ⟨r2,r3⟩:=r1
 refine qbD (r2,r3) h (cB 24 rfl) (qkJ (qh9 _ (h.oldS s1) (h.oldS s2) (h.oldS s3) (h.oldS s4) (h.oldS s5)) (qet _) ⟨_,_,rfl,(h.oldS s6)⟩ ⟨_,_,rfl,(h.oldS s7)⟩ hr1) rfl rfl rfl rfl fun w2 S1 us1 hv1 hr2=>?_
 obtain ⟨S2,S3,cs2,us2,rfl,hv2,hr3⟩:=hv1.cons hr2
 obtain ⟨p8,k8,p9,k9,p10,k10,rfl,-,-,-⟩:=qcj (hv2.sh.own 0 rfl)
 obtain ⟨rfl,h⟩:=hv2.lastI hr3
 exact zp3 rfl (qm qa h rfl rfl rfl fun w3 bb2 h=>zs 0 h rfl fun w4 h=>X0 7 rfl (ri h hF rfl))
def qjf (n:Nat) (j:qcP):Option Int :=
 (qiR n j).bind fun o=>match o with
  | (_,r3) =>
   some r3
theorem qos {j:qcP} (ha1:GoT.R w (old w) j cs1) {r:Int} (hF:qjf n j=some r):RetV Tryz.prog 10 [GoT.v qcP cs1] w r:=by
 obtain ⟨p1,k1,p2,k2,p3,k3,p4,k4,p5,k5,p6,k6,p7,k7,rfl,s1,s2,s3,s4,s5,s6,s7⟩:=qeH ha1
 refine zV 11 Tryz.func10 rfl fun h=>zSR (qt h rfl rfl fun w1 bb1 h=>X1 5 0 h rfl ?_)
 have hg1:Rg (old w) w (old w) w:=.start (fun _ h=>h)
 obtain ⟨r1,hr1,hF⟩:=qc hF
 obtain ⟨r2,r3⟩:=r1
 refine qkp (r2,r3) hg1 h (cB 28 rfl) (qpf (hg1.regOld h) (hg1.inR h ha1) hr1) rfl rfl rfl rfl fun w2 us1 B1 hg2 hu1 hz1 hv1=>?_
 have hL1:=h.ext hu1.below
 have hb1:=h.below.trans (hu1.below.mono h.below.size)
 replace h:=hz1
 obtain ⟨cs2,us2,rfl,hr2,hv2⟩:=qm9 hv1
 obtain ⟨p8,rfl,s8⟩:=qbc hr2
 obtain ⟨cs3,rfl,hr3⟩:=ql9 hv2
 obtain rfl:=hr3
 refine X0 11 rfl ?_
 replace h:=h.unbase hg2.below (show NoD [] from trivial)
 exact ri h hF rfl
def qlr (n:Nat) (a:qcP) (left:Int):Option Int :=
 (qi1 n (⟨(⟨a.Ay.Au.Ap⟩:qp),(⟨a.Ay.Ab.Aa,a.Ay.Ab.Aj,a.Ay.Ab.Ah⟩:qd),a.Ay.Ac⟩:qe) left).bind fun r1 =>
 bif decide (r1<0) then some (-1) else
 (qik n (⟨a.Aq.Av,a.Aq.Ar,a.Aq.Bb,a.Aq.As,a.Aq.Be⟩:qu) r1).bind fun r2 =>
 bif decide (r2<0) then some (-1) else
 (qbC n a.Bm r2).bind fun r3 =>
 bif decide (r3<0) then some (-1) else
 (qju n a.Bk r3).bind fun r4 =>
 bif decide (r4<0) then some (-1) else
 some r4
theorem qpY {a:qcP} {left:Int} (ha1:GoT.R w (old w) a cs1) {r:Int} (hF:qlr n a left=some r):RetV Tryz.prog 7 [GoT.v qcP cs1,.int .i64 left] w r:=by
 obtain ⟨p1,k1,p2,k2,p3,k3,p4,k4,p5,k5,p6,k6,p7,k7,rfl,s1,s2,s3,s4,s5,s6,s7⟩:=qeH ha1
 refine zV 30 Tryz.func7 rfl fun h=>zSR (qt h rfl rfl fun w1 bb1 h=>X1 7 0 h rfl (zcI h hF (qoy (qh9 _ (h.oldS s1) (h.oldS s2) (h.oldS s3) (h.oldS s4) (h.oldS s5))) rfl fun r1 w2 h hF=>X0 8 rfl (qh rfl hF ?_ ?_)))<;>intro hF
 ·exact X0 4 rfl (ri h hF rfl)
 refine X1 6 0 h rfl (zcI h hF (qnY (qet _)) rfl fun r2 w3 h hF=>X0 8 rfl (qh rfl hF ?_ ?_))<;>intro hF
 ·exact X0 4 rfl (ri h hF rfl)
 refine X1 6 0 h rfl (zcI h hF (qbm ⟨_,_,rfl,(h.oldS s6)⟩) rfl fun r3 w4 h hF=>X0 8 rfl (qh rfl hF ?_ ?_))<;>intro hF
 ·exact X0 4 rfl (ri h hF rfl)
 refine X1 6 0 h rfl (zcI h hF (qnn ⟨_,_,rfl,(h.oldS s7)⟩) rfl fun r4 w5 h hF=>X0 8 rfl (qh rfl hF ?_ ?_))<;>intro hF
 ·exact X0 4 rfl (ri h hF rfl)
 exact X0 6 rfl (ri h hF rfl)
def qh8 (n:Nat) (a:qcP):Option qcP :=
 (qja n (⟨(⟨a.Ay.Au.Ap⟩:qp),(⟨a.Ay.Ab.Aa,a.Ay.Ab.Aj,a.Ay.Ab.Ah⟩:qd),a.Ay.Ac⟩:qe)).bind fun r1 =>
 (qid n (⟨a.Aq.Av,a.Aq.Ar,a.Aq.Bb,a.Aq.As,a.Aq.Be⟩:qu)).bind fun r2 =>
 (qbl n a.Bm).bind fun r3 =>
 (qhj n a.Bk).bind fun r4 =>
 some (⟨r1,(⟨r2.Av,r2.Ar,r2.Bb,r2.As,r2.Be⟩:qu),r3,r4⟩:qcP)
theorem qkv {a:qcP} (ha1:GoT.R w (old w) a cs1) {r:qcP} (hF:qh8 n a=some r):RetV Tryz.prog 9 [GoT.v qcP cs1] w r:=by
 obtain ⟨p1,k1,p2,k2,p3,k3,p4,k4,p5,k5,p6,k6,p7,k7,rfl,s1,s2,s3,s4,s5,s6,s7⟩:=qeH ha1
 refine zV 21 Tryz.func9 rfl fun h=>zSR (qt h rfl rfl fun w1 bb1 h=>qm qa h rfl rfl rfl fun w2 bb2 h=>zNSR (qm qa h rfl rfl rfl fun w3 bb3 h=>X1 5 2 h rfl (zcO h hF (qoD (qh9 _ (h.oldS s1) (h.oldS s2) (h.oldS s3) (h.oldS s4) (h.oldS s5))) rfl fun r1 w4 S1 cs2 h hF=>?_)))
 obtain ⟨p8,k8,p9,k9,p10,k10,p11,k11,p12,k12,rfl,-,-,-,-,-⟩:=qT (h.own 0 rfl)
 refine zp1 rfl (zs 1 h rfl fun w5 h=>X1 5 3 h rfl (zcO h hF (qn2 (qet _)) rfl fun r2 w6 S2 cs3 h hF=>?_))
 obtain rfl:=qaw (h.own 0 rfl)
 refine zp1 rfl (zs 2 h rfl fun w7 h=>X1 5 4 h rfl (zcL h hF (qbj ⟨_,_,rfl,(h.oldS s6)⟩) rfl fun r3 w8 S3 p13 k13 h hF=>zp1 rfl (zs 3 h rfl fun w9 h=>X1 5 5 h rfl (zcL h hF (qnA ⟨_,_,rfl,(h.oldS s7)⟩) rfl fun r4 w10 S4 p14 k14 h hF=>zp1 rfl (zs 4 h rfl fun w11 h=>X1 4 4 h rfl (zs 5 h rfl fun w12 h=>qct ?_))))))
 obtain rfl:=qb hF
 exact qY qa (ρ:=qcP) [GoT.v qcP [.slice p8 r1.Au.Ap.length k8,.slice p9 r1.Ab.Aa.length k9,.slice p10 r1.Ab.Aj.length k10,.slice p11 r1.Ab.Ah.length k11,.slice p12 r1.Ac.length k12,.string r2.Av,.int .i64 r2.Ar,.int .i64 r2.Bb,.int .i64 r2.As,.int .i64 r2.Be,.slice p13 r3.length k13,.slice p14 r4.length k14]] h ⟨⟨_,_,_,rfl,rfl,h.box 5 rfl,rfl⟩,trivial⟩ (PV.done h (qad (qwj (⟨r1,(⟨r2.Av,r2.Ar,r2.Bb,r2.As,r2.Be⟩:qu),r3,r4⟩:qcP) h (qat 3 h rfl) (qB (S:=fun _=>False) (qet (⟨r2.Av,r2.Ar,r2.Bb,r2.As,r2.Be⟩:qu))) (qat 1 h rfl) (qat 0 h rfl) (by rfl) (by rfl) (by rfl))))
def qlk (n:Nat) (a:qcP) (b:qcP):Option Bool :=
 (qi9 n (⟨(⟨a.Ay.Au.Ap⟩:qp),(⟨a.Ay.Ab.Aa,a.Ay.Ab.Aj,a.Ay.Ab.Ah⟩:qd),a.Ay.Ac⟩:qe) (⟨(⟨b.Ay.Au.Ap⟩:qp),(⟨b.Ay.Ab.Aa,b.Ay.Ab.Aj,b.Ay.Ab.Ah⟩:qd),b.Ay.Ac⟩:qe)).bind fun r1 =>
 bif (!r1) then some false else
 (qie n (⟨a.Aq.Av,a.Aq.Ar,a.Aq.Bb,a.Aq.As,a.Aq.Be⟩:qu) (⟨b.Aq.Av,b.Aq.Ar,b.Aq.Bb,b.Aq.As,b.Aq.Be⟩:qu)).bind fun r2 =>
 bif (!r2) then some false else
 (qbk n a.Bm b.Bm).bind fun r3 =>
 bif (!r3) then some false else
 (qhK n a.Bk b.Bk).bind fun r4 =>
 bif (!r4) then some false else
 some true
theorem qp1 {a:qcP} {b:qcP} (ha1:GoT.R w (old w) a cs1) (ha2:GoT.R w (old w) b cs2) {r:Bool} (hF:qlk n a b=some r):RetV Tryz.prog 11 [GoT.v qcP cs1,GoT.v qcP cs2] w r:=by
 obtain ⟨p1,k1,p2,k2,p3,k3,p4,k4,p5,k5,p6,k6,p7,k7,rfl,s1,s2,s3,s4,s5,s6,s7⟩:=qeH ha1
 obtain ⟨p8,k8,p9,k9,p10,k10,p11,k11,p12,k12,p13,k13,p14,k14,rfl,s8,s9,s10,s11,s12,s13,s14⟩:=qeH ha2
 refine zV 29 Tryz.func11 rfl fun h=>zSR (qt h rfl rfl fun w1 bb1 h=>qt h rfl rfl fun w2 bb2 h=>X2 9 1 0 h rfl (zcB h hF (qoP (qh9 _ (h.oldS s1) (h.oldS s2) (h.oldS s3) (h.oldS s4) (h.oldS s5)) (qh9 _ (h.oldS s8) (h.oldS s9) (h.oldS s10) (h.oldS s11) (h.oldS s12))) rfl fun r1 w3 h hF=>X0 2 rfl (qh rfl hF ?_ ?_)))<;>intro hF
 ·exact X0 4 rfl (rb h hF rfl)
 refine X2 8 1 0 h rfl (zcB h hF (qof (qet _) (qet _)) rfl fun r2 w4 h hF=>X0 2 rfl (qh rfl hF ?_ ?_))<;>intro hF
 ·exact X0 4 rfl (rb h hF rfl)
 refine X2 8 1 0 h rfl (zcB h hF (qbn ⟨_,_,rfl,(h.oldS s6)⟩ ⟨_,_,rfl,(h.oldS s13)⟩) rfl fun r3 w5 h hF=>X0 2 rfl (qh rfl hF ?_ ?_))<;>intro hF
 ·exact X0 4 rfl (rb h hF rfl)
 refine X2 8 1 0 h rfl (zcB h hF (qm6 ⟨_,_,rfl,(h.oldS s7)⟩ ⟨_,_,rfl,(h.oldS s14)⟩) rfl fun r4 w6 h hF=>X0 2 rfl (qh rfl hF ?_ ?_))<;>intro hF
 ·exact X0 4 rfl (rb h hF rfl)
 exact X0 5 rfl (rb h hF rfl)
end Go.Fw


namespace Go.Fw
open Go
def qll (x:qu):Prop:=rngS x.Av∧rngI x.Ar∧rngI x.Bb∧rngI x.As∧rngI x.Be
def qjv (x:qu):Nat:=x.Av.size
structure qqL (x:qu):Prop where
 Av:okS x.Av
 Ar:okI x.Ar
 Bb:okI x.Bb
 As:okI x.As
 Be:okI x.Be
theorem qr2 {x:qu} (h:qll x) (w:qjv x≤1048576):qqL x:=⟨(by unfold okS;simp only [qjv] at w;omega),h.2.1,h.2.2.1,h.2.2.2.1,h.2.2.2.2⟩
theorem qtx {a:qu} (_:qjv a≤1048576):Ev (fun n=>qie n a a) true:=by
 unfold qie
 exact Ev.ff qhi (Ev.ff qaM (Ev.ff qaM (Ev.ff qaM (Ev.ff qaM (.done)))))
def qni (x:qf):Prop:=rngI x.Ak∧rngI x.Bd
structure qrk (x:qf):Prop where
 Ak:okI x.Ak
 Bd:okI x.Bd
theorem qqt {x:qf} (h:qni x):qrk x:=⟨h.1,h.2⟩
def qhY (x:qg):Prop:=rngI x.Bo∧qni x.Af∧qni x.Bc
structure qn0 (x:qg):Prop where
 Bo:okI x.Bo
 Af:qrk x.Af
 Bc:qrk x.Bc
theorem qsc {x:qg} (h:qhY x):qn0 x:=⟨h.1,qqt (h.2.1),qqt (h.2.2)⟩
def qg7 (a:(List qg)):Nat:=a.length
theorem qrm {a:(List qg)} (h:(rngL qhY) a) (w:qg7 a≤1048576):(okL qn0) a :=
 ⟨by simp only [qg7] at w;omega,fun x hx=>qsc (h.2 x hx)⟩
def qo4 (x:qcP):Prop:=qmn x.Ay∧qll x.Aq∧(rngL rngI) x.Bm∧(rngL qhY) x.Bk
def qlt (x:qcP):Nat:=qhA x.Ay+qjv x.Aq+qcX x.Bm+qg7 x.Bk
structure qsU (x:qcP):Prop where
 Ay:qkX x.Ay
 Aq:qqL x.Aq
 Bm:(okL okI) x.Bm
 Bk:(okL qn0) x.Bk
theorem qvp {x:qcP} (h:qo4 x) (w:qlt x≤1048576):qsU x:=⟨qs4 (h.1) (by simp only [qlt] at w;omega),qr2 (h.2.1) (by simp only [qlt] at w;omega),qdB (h.2.2.1) (by simp only [qlt] at w;omega),qrm (h.2.2.2) (by simp only [qlt] at w;omega)⟩
theorem qtb {a:qf}:Ev (fun n=>qiv n a a) true:=by
 unfold qiv
 exact Ev.ff qaM (Ev.ff qaM (.done))
theorem qtX {a:qg}:Ev (fun n=>qgL n a a) true:=by
 unfold qgL
 exact Ev.ff qaM (Ev.bind (qtb (a:=a.Af)) (Ev.ff rfl (Ev.bind (qtb (a:=a.Bc)) (Ev.ff rfl (.done)))))
theorem qso {a:(List qg)} (h:qg7 a≤1048576):Ev (fun n=>qhK n a a) true:=by
 have hl:a.length≤1048576:=by simp only [qg7] at h;omega
 unfold qhK
 exact Ev.ff (by simp) (Ev.bind (b:=.nxt (a.length:Int)) (qig (eqf:=qgL) (fun x hx=>qtX)
  (fun n=>by simp only [qem,qk (jb _),cond_false])
  (fun n j x hx=>by
   have hj:=(List.getElem?_eq_some_iff.1 hx).1
   simp only [qem,qj hj,cond_true,qaq hx,ja,wS j])) .done)
theorem qw9 {a:qcP} (h:qlt a≤1048576):Ev (fun n=>qlk n a a) true:=by
 unfold qlk
 simp only [qlt] at h
 exact Ev.bind (quC (a:=a.Ay) (by omega)) (Ev.ff rfl (Ev.bind (qtx (a:=a.Aq) (by omega)) (Ev.ff rfl (Ev.bind (qfx (a:=a.Bm) (by omega)) (Ev.ff rfl (Ev.bind (qso (a:=a.Bk) (by omega)) (Ev.ff rfl (.done))))))))
theorem quf {a:qu} {left:Int} (h:qll a) (h0:0≤left) (h1:left≤1048576):Sz (fun n=>qik n a left) (fun r=>r=left-(qjv a:Int)):=by
 unfold qik
 obtain ⟨h_0,h_1,h_2,h_3,h_4⟩:=h
 exact Sz.strStep h_0 (by omega) (by omega) fun p0 q0=>Sz.done p0 (by simp only [qjv];omega)
theorem qsr {a:(List qg)} {left:Int} (h:(rngL qhY) a) (h0:0≤left) (h1:left≤1048576):Sz (fun n=>qju n a left) (fun r=>r=left-(qg7 a:Int)) :=
 Sz.less h0 h1 (by omega) (by have:=h.1;omega) (fun _=>rfl)
theorem qwS {a:qcP} {left:Int} (h:qo4 a) (h0:0≤left) (h1:left≤1048576):Sz (fun n=>qlr n a left) (fun r=>r=left-(qlt a:Int)):=by
 unfold qlr
 obtain ⟨h_0,h_1,h_2,h_3⟩:=h
 exact Sz.step (qvz (a:=a.Ay) h_0 (by omega) (by omega)) fun r0 p0 q0=>Sz.step (quf (a:=a.Aq) h_1 (by omega) (by omega)) fun r1 p1 q1=>Sz.step (qfE (a:=a.Bm) h_2 (by omega) (by omega)) fun r2 p2 q2=>Sz.step (qsr (a:=a.Bk) h_3 (by omega) (by omega)) fun r3 p3 q3=>Sz.done p3 (by simp only [qlt];omega)
theorem qt6 {a:qu} (_:qjv a≤1048576):Ev (fun n=>qid n a) a:=by
 unfold qid
 exact .done
theorem qth {a:qf}:Ev (fun n=>qiA n a) a:=by
 unfold qiA
 exact .done
theorem qtw {a:qg}:Ev (fun n=>qgN n a) a:=by
 unfold qgN
 exact Ev.bind (qth (a:=a.Af)) (Ev.bind (qth (a:=a.Bc)) (.done))
theorem qsn {a:(List qg)} (h:qg7 a≤1048576):Ev (fun n=>qhj n a) a:=by
 have hl:a.length≤1048576:=by simp only [qg7] at h;omega
 unfold qhj
 exact Ev.bindN (qhv (by omega)) (Ev.bind (b:=(a,(a.length:Int))) (qiq (cp:=qgN) (fun x hx=>qtw)
  (fun acc n=>by simp only [qef,qk (jb _),cond_false])
  (fun acc n j x y hx hy=>by
   have hj:=(List.getElem?_eq_some_iff.1 hx).1
   simp only [qef,qj hj,cond_true,qaq hx,qaq hy,ja,wS j])) .done)
theorem qsC {a:qcP} (h:qlt a≤1048576):Ev (fun n=>qh8 n a) a:=by
 unfold qh8
 simp only [qlt] at h
 exact Ev.bind (qum (a:=a.Ay) (by omega)) (Ev.bind (qt6 (a:=a.Aq) (by omega)) (Ev.bind (qfC (a:=a.Bm) (by omega)) (Ev.bind (qsn (a:=a.Bk) (by omega)) (.done))))
end Go.Fw


namespace Go.Fw
open Go
set_option maxRecDepth 100000
abbrev lkB (b:qe):Nat:=(linksL b).length
abbrev ndB (b:qe):Nat:=2*(places b.Ab).length
abbrev lvJ (b:qe) (br:List Int):List Bool:=lvB br (lkB b)
def grB (b:qe) (br:List Int):Option Tgraph:=some ⟨some (viewV b),lvJ b br⟩
structure TgOk (b:qe) (c:qu) (br:List Int) (xs:List qg) (R:List Nat):Prop where
 bl:blockB b=true
 co:cornerB c=true
 br_:brB br (lkB b)=true
 sr:srcB xs (ndB b)=true
 or_:ordL (linksL b) (lvJ b br) (ndB b) (ndB b) []=some R
theorem TgOk.ord {b:qe} {c:qu} {br:List Int} {xs:List qg} {R:List Nat} (h:TgOk b c br xs R):OrdOk (lkB b) (frL (linksL b)) (toL (linksL b)) (lvL (lvJ b br)) (ndB b) R :=
 qwm (ndB b) [] R (fun l1 k l2 e=>by cases l1<;>cases e) h.or_
theorem TgOk.len {b:qe} {c:qu} {br:List Int} {xs:List qg} {R:List Nat} (h:TgOk b c br xs R):R.length=ndB b:=by
 have:=qu5 (ndB b) [] R h.or_
 simpa using this
theorem qtj {x:Int} (h:x ≠ 0):(x != 0)=true:=by simpa using h
theorem qxi {b:qe} {c:qu} {br:List Int} {xs:List qg} (hb:qkX b) (hc:okS c.Av) (hbl:br.length≤1048576) (hxl:xs.length≤1048576) :
  (∃ code:Int,code ≠ 0∧Ev (fun n=>qhM n b c br xs) ([],code)∧Ev (fun n=>qeO n b c br xs none) (none,[],code)) ∨
  ∃ R,TgOk b c br xs R∧Ev (fun n=>qhM n b c br xs) (ints R,0)∧Ev (fun n=>qeO n b c br xs none) (grB b br,ints R,0):=by
 have s1:=qon hb
 have i1:=qsM hb
 have s2:=qqT (c:=c) hc
 have i2:=qrq (c:=c) hc
 unfold qhM qeO
 cases h1:blockB b
 ·rw [h1] at s1 i1
  exact .inl ⟨1,by omega,Ev.bind (b:=true) (Ev.bind s1 (Ev.tt rfl .done)) (Ev.tt rfl .done),Ev.bind (b:=true) (Ev.bind i1 (Ev.tt rfl .done)) (Ev.tt rfl .done)⟩
 cases h2:cornerB c
 ·rw [h1] at s1 i1
  rw [h2] at s2 i2
  exact .inl ⟨1,by omega,Ev.bind (b:=true) (Ev.bind s1 (Ev.ff rfl (Ev.bind s2 .done))) (Ev.tt rfl .done),Ev.bind (b:=true) (Ev.bind i1 (Ev.ff rfl (Ev.bind i2 .done))) (Ev.tt rfl .done)⟩
 have hpl:=qbL (qag (qaC h1))
 have hll:=qk3 h1
 have hk:=qml h1
 have s3:=qsI (br:=br) hb h1 hbl
 have i3:=qrC (v:=viewV b) (br:=br) hbl hll
 have s4:=qp6 (xs:=xs) h1 hxl
 have i4:=qp3 (v:=viewV b) (xs:=xs) hpl hxl
 have ev:(viewV b).links=linksL b:=rfl
 have ep:(viewV b).places=places b.Ab:=rfl
 rw [ev] at i3
 rw [ep] at i4
 rw [h1] at s1 i1
 rw [h2] at s2 i2
 have sA:Ev (fun n=>(qge n b).bind fun r6=>bif (!r6) then some true else (qgG n c).bind fun r7=>some (!r7)) false:=Ev.bind s1 (Ev.ff rfl (Ev.bind s2 .done))
 have iA:Ev (fun n=>(qhr n b).bind fun r6=>bif (!r6) then some true else (qgM n c).bind fun r7=>some (!r7)) false:=Ev.bind i1 (Ev.ff rfl (Ev.bind i2 .done))
 have nv:=qsL h1
 cases h3:brB br (lkB b)
 ·rw [h3] at s3 i3
  exact .inl ⟨2,by omega,Ev.bind sA (Ev.ff rfl (Ev.bind (b:=true) (Ev.bind s3 (Ev.tt rfl .done)) (Ev.tt rfl .done))),
   Ev.bind iA (Ev.ff rfl (Ev.bind nv (Ev.bind (b:=false) (Ev.ff rfl .done) (Ev.ff rfl (Ev.bind (b:=true) (Ev.bind i3 (Ev.tt rfl .done)) (Ev.tt rfl .done))))))⟩
 cases h4:srcB xs (ndB b)
 ·rw [h3] at s3 i3
  rw [h4] at s4 i4
  exact .inl ⟨2,by omega,Ev.bind sA (Ev.ff rfl (Ev.bind (b:=true) (Ev.bind s3 (Ev.ff rfl (Ev.bind s4 .done))) (Ev.tt rfl .done))),
   Ev.bind iA (Ev.ff rfl (Ev.bind nv (Ev.bind (b:=false) (Ev.ff rfl .done) (Ev.ff rfl (Ev.bind (b:=true) (Ev.bind i3 (Ev.ff rfl (Ev.bind i4 .done))) (Ev.tt rfl .done))))))⟩
 have i5:=qsy (v:=viewV b) (br:=br) hll h3
 rw [ev] at i5
 have s5:=qpP (ls:=linksL b) (br:=br) hll hbl
 have hlv:(lvJ b br).length=lkB b:=qtc
 have s6:=qtE (lv:=lvJ b br) hk hlv
 have i6:=que (b:=b) (ps:=places b.Ab) (lo:=pre (load0 b) b.Ac.length) (de:=pre (exactL b) b.Ac.length) (ex:=[]) (lv:=lvJ b br) hk hlv rfl
 rw [h3] at s3 i3
 rw [h4] at s4 i4
 have sB:Ev (fun n=>(qgd n b br).bind fun r4=>bif (r4 != 0) then some true else (qfl n b xs).bind fun r5=>some (!r5)) false:=Ev.bind s3 (Ev.ff rfl (Ev.bind s4 .done))
 have iB:Ev (fun n=>(qdR n (some (viewV b)) br).bind fun r6=>bif (!r6) then some true else (qc2 n (some (viewV b)) xs).bind fun r7=>some (!r7)) false:=Ev.bind i3 (Ev.ff rfl (Ev.bind i4 .done))
 have sT:∀ r:List Int × Int,Ev (fun n=>(qgO n (ndB b:Int) (linksL b) (lvJ b br)).bind fun o=>match o with|(r6,r7)=>bif (!r7) then some (([]:List Int),(7:Int)) else some (r6,0)) r→Ev (fun n=>qdX n b br) r:=fun r hr=>by
  unfold qdX
  exact Ev.bind s3 (Ev.ff rfl (Ev.bind (qkr h1) (Ev.bind (qlY h1) (Ev.bind s5 hr))))
 cases ho:ordL (linksL b) (lvJ b br) (ndB b) (ndB b) [] with
 | none =>
  have e:ordR (linksL b) (lvJ b br) (ndB b)=([],false):=by unfold ordR;rw [ho]
  rw [e] at s6 i6
  exact .inl ⟨7,by omega,Ev.bind sA (Ev.ff rfl (Ev.bind sB (Ev.ff rfl (Ev.bind (sT ([],7) (Ev.bind s6 (Ev.tt rfl .done))) .done)))),
   Ev.bind iA (Ev.ff rfl (Ev.bind nv (Ev.bind (b:=false) (Ev.ff rfl .done) (Ev.ff rfl (Ev.bind iB (Ev.ff rfl (Ev.bind i5 (Ev.bind i6 (Ev.tt rfl .done)))))))))⟩
 | some R =>
  have e:ordR (linksL b) (lvJ b br) (ndB b)=(ints R,true):=by unfold ordR;rw [ho]
  rw [e] at s6 i6
  exact .inr ⟨R,⟨h1,h2,h3,h4,ho⟩,Ev.bind sA (Ev.ff rfl (Ev.bind sB (Ev.ff rfl (Ev.bind (sT (ints R,0) (Ev.bind s6 (Ev.ff rfl .done))) .done)))),
   Ev.bind iA (Ev.ff rfl (Ev.bind nv (Ev.bind (b:=false) (Ev.ff rfl .done) (Ev.ff rfl (Ev.bind iB (Ev.ff rfl (Ev.bind i5 (Ev.bind i6 (Ev.ff rfl .done)))))))))⟩
structure WkOk (j:qcP) (t:qx) (R:List Nat):Prop where
 tg:TgOk j.Ay j.Aq j.Bm j.Bk R
 tm:TmOk t (ndB j.Ay)
def wkV (j:qcP) (t:qx) (R:List Nat):Option Twork:=some ⟨grB j.Ay j.Bm,j,t,ints R⟩
theorem qwi {j:qcP} (h:qsU j) :
  (∃ code:Int,code ≠ 0∧Ev (fun n=>qc0 n j.Ay j.Aq j.Bm j.Bk) (zT,code)∧Ev (fun n=>qiR n j) (none,code)) ∨
  ∃ t R,WkOk j t R∧Ev (fun n=>qc0 n j.Ay j.Aq j.Bm j.Bk) (t,0)∧Ev (fun n=>qiR n j) (wkV j t R,0):=by
 have hbl:=h.Bm.len
 have hxl:=h.Bk.len
 unfold qc0 qiR
 rcases qxi h.Ay h.Aq.Av hbl hxl with ⟨code,hne,hs,hi⟩|⟨R,hg,hs,hi⟩
 ·exact .inl ⟨code,hne,Ev.bind hs (Ev.tt (qtj hne) .done),Ev.bind hi (Ev.tt (qtj hne) .done)⟩
 ·have h1:=hg.bl
  have hll:=qk3 h1
  have s5:=qpP (ls:=linksL j.Ay) (br:=j.Bm) hll hbl
  obtain ⟨f,hf⟩:=quQ h1 hg.co
  have hpl:=qbL (qag (qaC h1))
  have hRl:=hg.len
  obtain ⟨o,o1,o2,o3⟩:=qw3 (lv:=lvJ j.Ay j.Bm) (R:=R) h1 hf qtc (qvI hxl hg.sr) (fun i hi=>⟨(hg.ord.at hi).1,(hg.ord.at hi).2.1⟩) (by show R.length≤1000;rw [hRl];show 2*(places j.Ay.Ab).length≤1000;omega)
  cases o with
  | none=>exact .inl ⟨3,by omega,Ev.bind hs (Ev.ff rfl (Ev.bind (qkr h1) (Ev.bind s5 (Ev.bind o2 (Ev.tt rfl .done))))),Ev.bind hi (Ev.ff rfl (Ev.bind o3 (Ev.tt rfl .done)))⟩
  | some t=>exact .inr ⟨t,R,⟨hg,o1 t rfl⟩,Ev.bind hs (Ev.ff rfl (Ev.bind (qkr h1) (Ev.bind s5 (Ev.bind o2 (Ev.ff rfl .done))))),Ev.bind hi (Ev.ff rfl (Ev.bind o3 (Ev.ff rfl .done)))⟩
end Go.Fw


namespace Go.Fw
open Go
set_option maxRecDepth 100000
theorem qst {j:qcP} (h:qsU j):∃ R:Int,Ev (fun n=>qjj n j) R∧Ev (fun n=>qjf n j) R:=by
 unfold qjj qjf
 rcases qwi h with ⟨code,_,hs,hi⟩|⟨t,R,_,hs,hi⟩
 ·exact ⟨code,Ev.bind hs .done,Ev.bind hi .done⟩
 ·exact ⟨0,Ev.bind hs .done,Ev.bind hi .done⟩
def atP (ls:List qq) (start:Int) (path:List Int):Nat→Int
 | 0=>start
 | j+1=>(gt ls (at0 path j).toNat).To
def okP (ls:List qq) (lv:List Bool) (start:Int) (path:List Int) (j:Nat):Bool :=
 inI (at0 path j) 0 ((ls.length:Int)-1)&&(gt lv (at0 path j).toNat&&((gt ls (at0 path j).toNat).Bi==atP ls start path j))
end Go.Fw


namespace Go.Fw
open Go Go.Proofs
open Go.RowKit (Below)
set_option maxRecDepth 100000
set_option maxHeartbeats 1600000
variable {n:Nat} {w:World} {cs1 cs2 cs3 cs4 cs5 cs6 cs7 cs8 cs9:List Value}
def qgy (n:Nat) (aJ:qcP):Option Bool :=
 (qlr n aJ 1048576).bind fun r1 =>
 bif decide (r1<0) then some true else
 (qh8 n aJ).bind fun r2 =>
 (qjj n r2).bind fun r3 =>
 (qh8 n aJ).bind fun r4 =>
 (qjf n r4).bind fun r5 =>
 bif (r5 != r3) then some false else
 (qh8 n aJ).bind fun r6 =>
 (qlk n r4 r6).bind fun r7 =>
 bif (!r7) then some false else
 some true
theorem qk7 {aJ:qcP} (ha1:GoT.R w (old w) aJ cs1) {r:Bool} (hF:qgy n aJ=some r):RetV Tryz.prog 3 [GoT.v qcP cs1] w r:=by
 obtain ⟨p1,k1,p2,k2,p3,k3,p4,k4,p5,k5,p6,k6,p7,k7,rfl,s1,s2,s3,s4,s5,s6,s7⟩:=qeH ha1
 refine zV 27 Tryz.func3 rfl fun h=>zSR (qt h rfl rfl fun w1 bb1 h=>X1 10 0 h rfl (zcI h hF (qpY (h.old ha1)) rfl fun r1 w2 h hF=>X0 8 rfl (qh rfl hF ?_ ?_)))<;>intro hF
 ·exact X0 4 rfl (rb h hF rfl)
 refine X1 4 0 h rfl (zcO h hF (qkv (h.old ha1)) rfl fun r2 w3 S1 cs2 h hF=>?_)
 obtain ⟨p8,k8,p9,k9,p10,k10,p11,k11,p12,k12,p13,k13,p14,k14,rfl,-,-,-,-,-,-,-⟩:=qeH (h.own 0 rfl)
 refine zcI h hF (qow (h.own 0 rfl)) rfl fun r3 w4 h hF=>X1 5 1 h rfl (zcO h hF (qkv (h.old ha1)) rfl fun r4 w5 S2 cs3 h hF=>?_)
 obtain ⟨p15,k15,p16,k16,p17,k17,p18,k18,p19,k19,p20,k20,p21,k21,rfl,-,-,-,-,-,-,-⟩:=qeH (h.own 0 rfl)
 refine qm qa h rfl rfl rfl fun w6 bb2 h=>zs 0 h rfl fun w7 h=>X1 4 0 h rfl (zcI h hF (qos (h.own 1 rfl)) rfl fun r5 w8 h hF=>X0 9 rfl (qh rfl hF ?_ ?_))<;>intro hF
 ·exact X0 4 rfl (rb h hF rfl)
 refine zKSS (rA [] [0,3] h rfl fun w9 h=>M2 3 [0,1] 0 1 (h.pick [0,3] rfl) rfl (Ao 2 7 rfl (zcO h hF (qkv (h.old ha1)) rfl fun r6 w10 S3 cs4 h hF=>?_)))
 obtain ⟨p22,k22,p23,k23,p24,k24,p25,k25,p26,k26,p27,k27,p28,k28,rfl,-,-,-,-,-,-,-⟩:=qeH (h.own 0 rfl)
 refine Ag (h.pick [1,4] rfl) (Ao 3 15 rfl (zcB h hF (qp1 (h.own 2 rfl) (h.own 0 rfl)) rfl fun r7 w11 h hF=>G0 31 [4] (h.pick [1,4] rfl) rfl (Ad (qh rfl hF ?_ ?_))))<;>intro hF
 ·exact X0 4 rfl (rb h hF rfl)
 exact X0 5 rfl (rb h hF rfl)
end Go.Fw


namespace Go.Fw
open Go
end Go.Fw


namespace Go.Fw
open Go
set_option maxRecDepth 100000
theorem qmS {j:qcP} (h0:qo4 j):Ev (fun n=>qgy n j) true:=by
 unfold qgy
 obtain ⟨r1,e1,q1⟩:=qwS (a:=j) (left:=1048576) h0 (by omega) (by omega)
 refine Ev.bind e1 ?_
 rcases q1 with q1|⟨p1,q1⟩
 ·exact Ev.tt (by simpa using q1) .done
 refine Ev.ff (by simp;omega) ?_
 have w0:qlt j≤1048576:=by omega
 have k0:=qvp h0 w0
 obtain ⟨R0,hs,hi⟩:=qst (j:=j) k0
 refine Ev.bind (qsC w0) ?_
 refine Ev.bind hs ?_
 refine Ev.bind (qsC w0) ?_
 refine Ev.bind hi ?_
 refine Ev.ff (by simp) ?_
 refine Ev.bind (qsC w0) ?_
 refine Ev.bind (qw9 w0) (Ev.ff rfl ?_)
 exact .done
end Go.Fw
