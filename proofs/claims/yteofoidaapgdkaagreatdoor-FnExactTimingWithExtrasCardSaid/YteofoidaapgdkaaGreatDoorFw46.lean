/- Plain laws: spans of links, the values of a node, the run over all nodes. -/
import Derived.Test.YteofoidaapgdkaaGreatDoorW9
import Derived.Test.YteofoidaapgdkaaGreatDoorB9
import Derived.Test.YteofoidaapgdkaaGreatDoorW3
import Derived.Test.YteofoidaapgdkaaGreatDoorFw30
import Derived.Test.YteofoidaapgdkaaGreatDoorA2
open Option renaming bind_some → jd
open Nat renaming le_refl → je, le_of_ble_eq_true → jr, mul_le_mul_right → js, lt_of_lt_of_le → jv, succ_mul → jL, zero_add → Jd, add_zero → Je
open Bool renaming and_eq_true → jf, eq_iff_iff → jk, true_and → jz, not_eq_true' → jG, not_true → jX
open Go.Result renaming andThen_ok → jg
open List renaming length_append → jh, getElem?_eq_getElem → ji, mem_cons_of_mem → jn, getElem_mem → jp, append_assoc → jq, length_singleton → jt, getElem?_append_left → ju, mem_cons_self → jw, length_map → jx, take_succ_eq_append_getElem → jy, getElem?_take → jA, getElem?_append_right → jB, getD_eq_getElem?_getD → jC, getElem?_toArray → jE, take_length → jF, eq_nil_of_length_eq_zero → jI, drop_eq_getElem_cons → jJ, map_append → jK, all_eq_true → jM, not_mem_nil → jN, getElem_of_mem → jO, length_replicate → jP, size_toArray → jQ, mem_append_left → jR, append_nil → jT, mem_of_getElem? → jU, mem_cons → jW, range_succ → Ja, length_take → Jb, ext_getElem → Jc
open Go.Sem renaming run_bind → jj, run_pure → jm
open Int renaming toNat_natCast → jo, tdiv_eq_ediv_of_nonneg → jD, mul_nonneg → jS, mul_assoc → jV, mul_le_mul → jY, le_refl → jZ, add_zero → Jf
open Array renaming getElem?_append_left → jH

namespace Go.Fw
open Go
set_option maxRecDepth 100000
def slR (s:qc):Prop:=(0≤s.Am∧s.Am≤1000000)∧(0≤s.Ay∧s.Ay≤1000000)
def SpansS (b:qg) (c:qy) (f:Nat→qc→qc × qc):Prop:=∀ k s,k<(linksL b).length→slR s→slR (f k s).2∧Ev (fun n=>qhL n b c (gt (linksL b) k) s) (f k s)
def SpansI (b:qg) (c:qy) (ex:List Int) (f:Nat→qc→qc × qc):Prop:=∀ k s,k<(linksL b).length→slR s→slR (f k s).2∧Ev (fun n=>qgn n (some (viewE b ex)) c (k:Int) s) (f k s)
def exK (b:qg) (ex:List Int) (k:Nat):Int:=bif (gt (linksL b) k).Av==2 then gt ex (gt (places b.Aa) ((gt (linksL b) k).To / 2).toNat).net.toNat else 0
def wideS (e:Int) (s:qc):qc:=⟨W64 (s.Am-e),W64 (s.Ay+e)⟩
def wideF (b:qg) (ex:List Int) (f:Nat→qc→qc × qc) (k:Nat) (s:qc):qc × qc:=bif decide (0<ex.length)&&((gt (linksL b) k).Av==2) then (wideS (exK b ex k) (f k s).1,(f k s).2) else f k s
theorem qxp {b:qg} {c:qy} (h:blockB b=true) (hc:cornerB c=true):∃ f,SpansS b c f∧∀ ex:List Int,ex.length=0∨ex.length=b.Ac.length→SpansI b c ex (wideF b ex f):=by
 have main:∀ x:Nat × qc,∃ r:qc × qc,x.1<(linksL b).length→slR x.2→slR r.2∧Ev (fun n=>qhL n b c (gt (linksL b) x.1) x.2) r∧∀ ex:List Int,ex.length=0∨ex.length=b.Ac.length→Ev (fun n=>qgn n (some (viewE b ex)) c (x.1:Int) x.2) (wideF b ex (fun _ _=>r) x.1 x.2):=by
  rintro ⟨k,s⟩
  by_cases hk:k<(linksL b).length∧slR s
  ·obtain ⟨hk,⟨e0,e1⟩,⟨l0,l1⟩⟩:=hk
   obtain ⟨⟨d1,p1,q1⟩,⟨u1,a1,b1,v1,w1⟩⟩:=qqx h hc hk e0 e1 (mode:=0) (.inl rfl)
   obtain ⟨⟨d2,p2,q2⟩,⟨u2,a2,b2,v2,w2⟩⟩:=qqx h hc hk e0 e1 (mode:=1) (.inr rfl)
   obtain ⟨⟨d3,p3,q3⟩,⟨u3,a3,b3,v3,w3⟩⟩:=qqx h hc hk l0 l1 (mode:=0) (.inl rfl)
   obtain ⟨⟨d4,p4,q4⟩,⟨u4,a4,b4,v4,w4⟩⟩:=qqx h hc hk l0 l1 (mode:=1) (.inr rfl)
   refine ⟨(⟨if d3<d1 then d3 else d1,if d4 > d2 then d4 else d2⟩,⟨if u3<u1 then u3 else u1,if u4 > u2 then u4 else u2⟩),fun _ _=>⟨⟨?_,?_⟩,?_,fun ex hex=>?_⟩⟩
   ·show 0≤(if u3<u1 then u3 else u1)∧(if u3<u1 then u3 else u1)≤1000000
    split<;>omega
   ·show 0≤(if u4 > u2 then u4 else u2)∧(if u4 > u2 then u4 else u2)≤1000000
    split<;>omega
   ·unfold qhL
    exact Ev.bind p1 (Ev.bind p2 (Ev.bind v1 (Ev.bind v2 (Ev.bind p3 (Ev.bind p4 (Ev.bind v3 (Ev.bind v4 .done)))))))
   ·unfold qgn
    refine Ev.bind (q1 ex) (Ev.bind (q3 ex) (Ev.bind (q2 ex) (Ev.bind (q4 ex) ?_)))
    have hv:idx (viewE b ex).links (k:Int)=some (gt (linksL b) k):=qC hk
    have hx:(viewE b ex).extras=ex:=rfl
    simp only [jd,hv,hx]
    unfold wideF
    have fin:∀ r:Int × Int,Ev (fun n=>(qbs n (some (viewE b ex)) (k:Int) s.Am 0).bind fun r5=>(qbs n (some (viewE b ex)) (k:Int) s.Ay 0).bind fun r6=>(qbs n (some (viewE b ex)) (k:Int) s.Am 1).bind fun r7=>(qbs n (some (viewE b ex)) (k:Int) s.Ay 1).bind fun r8 =>
      some ((⟨r.1,r.2⟩:qc),(⟨if r6<r5 then r6 else r5,if r8 > r7 then r8 else r7⟩:qc))) ((⟨r.1,r.2⟩:qc),(⟨if u3<u1 then u3 else u1,if u4 > u2 then u4 else u2⟩:qc)):=fun r=>Ev.bind (w1 ex) (Ev.bind (w3 ex) (Ev.bind (w2 ex) (Ev.bind (w4 ex) .done)))
    rw [show decide ((ex.length:Int) > 0)=decide (0<ex.length) by rw [decide_eq_decide];omega]
    cases hl:decide (0<ex.length)
    ·exact Ev.bind (b:=false) (Ev.now rfl) (Ev.bind (b:=(if d3<d1 then d3 else d1,if d4 > d2 then d4 else d2)) (Ev.now rfl) (fin _))
    ·cases hkd:(gt (linksL b) k).Av==2
     ·exact Ev.bind (b:=false) (Ev.now rfl) (Ev.bind (b:=(if d3<d1 then d3 else d1,if d4 > d2 then d4 else d2)) (Ev.now rfl) (fin _))
     ·obtain ⟨hcs,_⟩:=qg5 h (qlA hk)
      rcases hcs with ⟨i,j,m,net,a,hx⟩|⟨j,net,q,hx⟩
      ·rw [hx.kind] at hkd;cases hkd
      ·have hn:=quQ (ex:=ex) hx.jl hx.net_ hx.half
       have hlt:net<ex.length:=by
        have:=of_decide_eq_true hl
        have:=hx.nl
        omega
       have hT:=(qg5 h (qlA hk)).2.2
       have hpl:=qbj (qaf (qaD h))
       have ej:((gt (linksL b) k).To / 2).toNat=j:=by
        have:=hx.half
        rw [jD hT.1,qJ (by omega) (by omega)] at this
        omega
       have eK:exK b ex k=gt ex net:=by
        unfold exK
        rw [hkd,ej,hx.net_,jo]
        rfl
       refine Ev.bind (b:=true) (Ev.now rfl) (Ev.bind (b:=(W64 ((if d3<d1 then d3 else d1)-gt ex net),W64 ((if d4 > d2 then d4 else d2)+gt ex net))) ?_ ?_)
       ·simp only [hn,jd,qC hlt]
        exact .done
       ·rw [eK]
        exact fin _
  ·exact ⟨(s,s),fun h1 h2=>absurd ⟨h1,h2⟩ hk⟩
 obtain ⟨f,hf⟩:=Classical.axiomOfChoice main
 exact ⟨fun k s=>f (k,s),fun k s h1 h2=>⟨(hf (k,s) h1 h2).1,(hf (k,s) h1 h2).2.1⟩,fun ex hex k s h1 h2=>⟨by
  have:=(hf (k,s) h1 h2).1
  unfold wideF
  cases decide (0<ex.length)&&((gt (linksL b) k).Av==2)<;>exact this,(hf (k,s) h1 h2).2.2 ex hex⟩⟩
def zSp:qc:=⟨0,0⟩
def zSrc:qe:=⟨0,zSp,zSp⟩
def hullS (s t:qc):qc:=⟨if t.Am<s.Am then t.Am else s.Am,if t.Ay > s.Ay then t.Ay else s.Ay⟩
theorem qrZ {s t:qc}:(⟨if s.Am<t.Am then s.Am else t.Am,if s.Ay > t.Ay then s.Ay else t.Ay⟩:qc)=hullS s t:=by
 unfold hullS
 congr 1
 ·split<;>split<;>omega
 ·split<;>split<;>omega
def plusS (s t:qc):qc:=⟨W64 (s.Am+t.Am),W64 (s.Ay+t.Ay)⟩
def joinS (node:Int) (s:Bool × qe) (ar sl:qc):Bool × qe:=bif s.1 then (true,⟨node,hullS s.2.Af ar,hullS s.2.Aq sl⟩) else (true,⟨node,ar,sl⟩)
def frN (ls:List qu) (k:Nat):Nat:=(gt ls k).Be.toNat
def stepS (f:Nat→qc→qc × qc) (ls:List qu) (t:qn) (node:Int) (s:Bool × qe) (k:Nat):Bool × qe :=
 bif gt t.Aj (frN ls k) then joinS node s (plusS (gt t.Af (frN ls k)) (f k (gt t.Aq (frN ls k))).1) (f k (gt t.Aq (frN ls k))).2 else s
def toQ (ls:List qu) (lv:List Bool) (node:Int) (k:Nat):Bool:=lvL lv k&&(toL ls k==node)
def srcO (xs:List qe) (node:Int):Option qe:=xs.find? fun s=>s.Bm==node
def srcV (o:Option qe):Bool × qe:=match o with|some y=>(true,y)|none=>(false,zSrc)
def ndS (f:Nat→qc→qc × qc) (ls:List qu) (lv:List Bool) (t:qn) (node:Int) (s0:Bool × qe):Nat→Bool × qe
 | 0=>s0
 | k+1=>bif toQ ls lv node k then stepS f ls t node (ndS f ls lv t node s0 k) k else ndS f ls lv t node s0 k
theorem qwS {f:Nat→qc→qc × qc} {ls:List qu} {lv:List Bool} {t:qn} {node:Int} {s0:Bool × qe} {j:Nat}:(selN (toQ ls lv node) j).foldl (stepS f ls t node) s0=ndS f ls lv t node s0 j:=by
 induction j with
 | zero=>rfl
 | succ j ih =>
  rw [qnI,List.foldl_append,ih]
  show _=bif toQ ls lv node j then stepS f ls t node (ndS f ls lv t node s0 j) j else ndS f ls lv t node s0 j
  cases toQ ls lv node j<;>rfl
structure TmOk (t:qn) (M:Nat):Prop where
 r:t.Aj.length=M
 a:t.Af.length=M
 s:t.Aq.length=M
 sl:∀ k,k<M→slR (gt t.Aq k)
structure SrcOk (xs:List qe):Prop where
 len:xs.length≤1048576
 inc:∀ j i,i<j→j<xs.length→(gt xs i).Bm<(gt xs j).Bm
 sl:∀ x,x ∈ xs→slR x.Aq
theorem qw1 {xs:List qe} {node:Int} (hl:xs.length≤1048576):Ev (fun n=>qjw n xs node) ((srcV (srcO xs node)).2,(srcV (srcO xs node)).1):=by
 have h1:Ev (fun n=>qaI n xs node) (ixL (fun s=>s.Bm==node) xs) :=
  qgx (fin:=(xs.length:Int)) (Lf:=qT xs node) (xs:=xs) (pf:=fun n x=>qjY n x node) (fun _ _=>.done)
   (fun n=>by simp only [qT,ql (je _),cond_false])
   (fun n j x hx=>by
    have hj:=(List.getElem?_eq_some_iff.1 hx).1
    simp only [qT,qj hj,cond_true,qM hx,jd,wS j])
   (fun n=>by unfold qaI;congr 1;funext o;cases o<;>rfl)
 unfold qjw
 refine Ev.bind h1 ?_
 unfold ixL srcO
 cases hf:xs.findIdx? (fun s=>s.Bm==node) with
 | none =>
  have:xs.find? (fun s=>s.Bm==node)=none:=by
   rw [List.find?_eq_none]
   intro x hx
   have:=List.findIdx?_eq_none_iff.1 hf x hx
   simpa using this
  rw [this]
  exact Ev.ff rfl .done
 | some j =>
  obtain ⟨hj,hp,hn⟩:=List.findIdx?_eq_some_iff_getElem.1 hf
  have:xs.find? (fun s=>s.Bm==node)=some xs[j]:=by
   rw [List.find?_eq_some_iff_getElem]
   exact ⟨hp,j,hj,rfl,fun i hi=>by have:=hn i hi;simpa using this⟩
  rw [this]
  refine Ev.tt (show decide ((j:Int) ≥ 0)=true from decide_eq_true (by omega)) ?_
  show Ev (fun n=>(idx xs (j:Int)).bind _) _
  rw [qge hj]
  exact .done
theorem qnF {xs:List qe} {node:Int} {y:qe} (h:srcO xs node=some y):y.Bm=node∧y ∈ xs:=by
 have h1:=List.find?_some h
 exact ⟨by simpa using h1,List.mem_of_find?_eq_some h⟩
theorem qxL {xs:List qe} {node:Int} (h:SrcOk xs) :
  Ev (fun n=>qcZ xs node n 0 0 0 0 0 false 0) ((srcV (srcO xs node)).2.Bm,(srcV (srcO xs node)).2.Af.Am,(srcV (srcO xs node)).2.Af.Ay,(srcV (srcO xs node)).2.Aq.Am,(srcV (srcO xs node)).2.Aq.Ay,(srcV (srcO xs node)).1,(xs.length:Int)):=by
 have hl:=h.len
 have:=loopF (τ:=Bool × qe) (Lf:=fun n s j=>qcZ xs node n s.2.Bm s.2.Af.Am s.2.Af.Ay s.2.Aq.Am s.2.Aq.Ay s.1 j) (S:=fun j=>srcV (srcO (xs.take j) node)) (len:=xs.length)
  (fin:=((srcV (srcO xs node)).2.Bm,(srcV (srcO xs node)).2.Af.Am,(srcV (srcO xs node)).2.Af.Ay,(srcV (srcO xs node)).2.Aq.Am,(srcV (srcO xs node)).2.Aq.Ay,(srcV (srcO xs node)).1,(xs.length:Int)))
  (fun n=>by simp only [qcZ,ql (je _),cond_false,jF])
  (fun j hj X hX=>by
   simp only [qcZ,qj hj,cond_true,qC hj,jd,wS j]
   have e:srcO (xs.take (j+1)) node=(srcO (xs.take j) node).or (bif (gt xs j).Bm==node then some (gt xs j) else none):=by
    unfold srcO
    rw [jy hj,List.find?_append,←qfu hj]
    congr 1
   cases hq:(gt xs j).Bm==node
   ·rw [hq] at e
    have e:srcO (xs.take (j+1)) node=srcO (xs.take j) node:=by rw [e];cases srcO (xs.take j) node<;>rfl
    rw [e] at hX
    exact hX
   ·rw [hq] at e
    have hn:srcO (xs.take j) node=none:=by
     unfold srcO
     rw [List.find?_eq_none]
     intro x hx hxn
     obtain ⟨i,hi,rfl⟩:=List.mem_iff_getElem.1 hx
     rw [Jb] at hi
     rw [List.getElem_take,←qfu (by omega)] at hxn
     have:=h.inc j i (by omega) hj
     simp only [beq_iff_eq] at hq hxn
     omega
    have e:srcO (xs.take (j+1)) node=some (gt xs j):=by rw [e,hn];rfl
    rw [e] at hX
    exact hX)
 exact this
theorem qun {ls:List qu} {M:Nat} (h:LkOk ls M) {k:Nat} (hk:k<ls.length):(gt ls k).Be=(frN ls k:Int)∧frN ls k<M:=by
 have h0:=h.fr0 k hk
 have h1:=h.fr1 k hk
 unfold frN
 omega
section
variable {b:qg} {c:qy} {ex:List Int} {f:Nat→qc→qc × qc} {lv:List Bool} {t:qn} {xs:List qe} {node:Int}
theorem qzn {ls:List qu} {M:Nat} {ps:List Tplace} {lo:List Int} {de:List (List Int)} {ex:List Int} (h:LkOk ls M) (hl:lv.length=ls.length):Ev (fun n=>qjx n (grV ls lv ps b lo de ex) node) (ints (selN (toQ ls lv node) ls.length)):=by
 have hll:=h.len
 have hL:Ev (fun n=>qK node ⟨some ⟨b,ps,ls,lo,de,ex⟩,lv⟩ ⟨b,ps,ls,lo,de,ex⟩ n ([]:List Int) 0) (ints (selN (toQ ls lv node) ls.length),(ls.length:Int)):=by
  refine qpG (q:=toQ ls lv node) (Lf:=qK node ⟨some ⟨b,ps,ls,lo,de,ex⟩,lv⟩ ⟨b,ps,ls,lo,de,ex⟩) (len:=ls.length) (by omega) (Ev.succ ?_) (fun j hj t ht X h1 h2=>?_)
  ·simp only [qK,ql (je _),cond_false];exact .done
  ·simp only [qK,qj hj,cond_true,qC hj,qC (show j<lv.length by omega),jd,qj1,ht,wS j]
   unfold toQ lvL toL at h1 h2
   cases hq:gt lv j
   ·simp only [cond_false];exact h2 (by rw [hq];rfl)
   ·simp only [cond_true]
    cases hw:(gt ls j).To==node
    ·simp only [cond_false];exact h2 (by rw [hq,hw];rfl)
    ·simp only [cond_true];exact h1 (by rw [hq,hw];rfl)
 unfold qjx qcA grV
 simp only [jd]
 exact Ev.bind (Ev.bind hL .done) .done
def fixS (node:Int) (s:Bool × qe):Bool × qe:=bif s.1 then s else (false,⟨node,zSp,zSp⟩)
theorem qwH (h:blockB b=true) (hf:SpansI b c ex f) (hl:lv.length=(linksL b).length) (ht:TmOk t (2*(places b.Aa).length)) (hx:xs.length≤1048576) :
  Ev (fun n=>qds n (some ⟨some (viewE b ex),lv⟩) c xs t node) (ndS f (linksL b) lv t node (srcV (srcO xs node)) (linksL b).length):=by
 have hk:=qnv h
 have hkl:=hk.len
 have hsel:=qoo (q:=toQ (linksL b) lv node) (j:=(linksL b).length)
 have hnd:∀ j,(ndS f (linksL b) lv t node (srcV (srcO xs node)) j).1=true→(ndS f (linksL b) lv t node (srcV (srcO xs node)) j).2.Bm=node:=by
  intro j
  induction j with
  | zero =>
   show (srcV (srcO xs node)).1=true→(srcV (srcO xs node)).2.Bm=node
   cases hs:srcO xs node with
   | none=>intro e;cases e
   | some y=>exact fun _=>(qnF hs).1
  | succ j ih =>
   unfold ndS
   cases toQ (linksL b) lv node j
   ·exact ih
   ·simp only [cond_true]
    unfold stepS
    cases gt t.Aj (frN (linksL b) j)
    ·exact ih
    ·simp only [cond_true]
     unfold joinS
     cases (ndS f (linksL b) lv t node (srcV (srcO xs node)) j).1<;>exact fun _=>rfl
 have hz:∀ j,(ndS f (linksL b) lv t node (srcV (srcO xs node)) j).1=false→(ndS f (linksL b) lv t node (srcV (srcO xs node)) j).2=zSrc:=by
  intro j
  induction j with
  | zero =>
   show (srcV (srcO xs node)).1=false→(srcV (srcO xs node)).2=zSrc
   cases srcO xs node with
   | none=>exact fun _=>rfl
   | some y=>intro e;cases e
  | succ j ih =>
   unfold ndS
   cases toQ (linksL b) lv node j
   ·exact ih
   ·simp only [cond_true]
    unfold stepS
    cases gt t.Aj (frN (linksL b) j)
    ·exact ih
    ·simp only [cond_true]
     unfold joinS
     cases (ndS f (linksL b) lv t node (srcV (srcO xs node)) j).1<;>(intro e;cases e)
 have fl:∀ (l:List Nat) (s:Bool × qe),(∀ k,k ∈ l→toQ (linksL b) lv node k=true)→l.foldl (fun s k=>fixS node (stepS f (linksL b) t node s k)) (fixS node s)=fixS node (l.foldl (stepS f (linksL b) t node) s):=by
  intro l
  induction l with
  | nil=>intro s _;rfl
  | cons k l ih =>
   intro s hq
   have e:fixS node (stepS f (linksL b) t node (fixS node s) k)=fixS node (stepS f (linksL b) t node s k):=by
    unfold stepS
    obtain ⟨s1,s2⟩:=s
    cases gt t.Aj (frN (linksL b) k)<;>cases s1<;>rfl
   rw [List.foldl_cons,List.foldl_cons,e]
   exact ih _ fun k' hk'=>hq k' (jn _ hk')
 have hL:=(qv9 (τ:=Bool × qe) (xs:=selN (toQ (linksL b) lv node) (linksL b).length) (Lf:=fun n s j=>qbq (some ⟨some (viewE b ex),lv⟩) c t (ints (selN (toQ (linksL b) lv node) (linksL b).length)) n s.1 s.2.Bm s.2.Af.Am s.2.Af.Ay s.2.Aq.Am s.2.Aq.Ay j)
  (step:=fun s k=>fixS node (stepS f (linksL b) t node s k)) (fin:=fun s=>(s.1,s.2.Bm,s.2.Af.Am,s.2.Af.Ay,s.2.Aq.Am,s.2.Aq.Ay,((ints (selN (toQ (linksL b) lv node) (linksL b).length)).length:Int))) (fixS node (srcV (srcO xs node))) (fun _ s=>s=fixS node s∧s.2.Bm=node) (by
   constructor
   ·unfold fixS
    cases hs:(srcV (srcO xs node)).1
    ·rfl
    ·simp only [hs,cond_true]
   ·unfold fixS
    cases hs:srcO xs node with
    | none=>rfl
    | some y=>exact (qnF hs).1)
  (fun j s hj hs=>by
   obtain ⟨h1,h2⟩:=hs
   have key:(stepS f (linksL b) t node s (selN (toQ (linksL b) lv node) (linksL b).length)[j]).2.Bm=node:=by
    unfold stepS
    cases gt t.Aj (frN (linksL b) (selN (toQ (linksL b) lv node) (linksL b).length)[j])
    ·exact h2
    ·unfold joinS
     cases s.1<;>rfl
   constructor
   ·unfold fixS
    cases hs:(stepS f (linksL b) t node s (selN (toQ (linksL b) lv node) (linksL b).length)[j]).1
    ·rfl
    ·simp only [hs,cond_true]
   ·unfold fixS
    cases hs:(stepS f (linksL b) t node s (selN (toQ (linksL b) lv node) (linksL b).length)[j]).1
    ·rfl
    ·exact key)
  (fun n s=>by simp only [qbq,qd4,ql (je _),cond_false])
  (fun j s hj hs X hX=>by
   obtain ⟨hfx,hsn⟩:=hs
   have hi:=qoR hj
   have hm:(selN (toQ (linksL b) lv node) (linksL b).length)[j]<(linksL b).length:=(qoK.1 (jp hj)).1
   generalize (selN (toQ (linksL b) lv node) (linksL b).length)[j]=k at hi hm hX
   obtain ⟨e1,e2⟩:=qun hk hm
   have hv:idx (viewE b ex).links (k:Int)=some (gt (linksL b) k):=qC hm
   simp only [qbq,qd4,qj hj,cond_true,hi,hv,jd,e1,qC (show frN (linksL b) k<t.Aj.length by rw [ht.r];exact e2),qC (show frN (linksL b) k<t.Af.length by rw [ht.a];exact e2),qC (show frN (linksL b) k<t.Aq.length by rw [ht.s];exact e2),wS j]
   unfold stepS at hX
   cases h3:gt t.Aj (frN (linksL b) k)
   ·rw [h3] at hX
    simp only [cond_false] at hX
    rw [←hfx] at hX
    exact hX
   rw [h3] at hX
   simp only [cond_true] at hX ⊢
   obtain ⟨_,s1⟩:=hf k _ hm (ht.sl _ e2)
   refine Ev.bind s1 ?_
   generalize f k (gt t.Aq (frN (linksL b) k))=q at hX ⊢
   simp only [qkH,jd]
   unfold joinS at hX
   unfold qfQ
   cases h4:s.1
   ·rw [h4] at hX
    simp only [Bool.not_false,cond_true,jd]
    unfold fixS at hX
    simp only [cond_false,cond_true] at hX
    rw [hsn]
    exact hX
   ·rw [h4] at hX
    simp only [jX,cond_false,qiO,jd]
    unfold fixS at hX
    simp only [cond_true] at hX
    rw [hsn]
    exact hX)).1
 rw [fl _ _ (fun k hk'=>(qoK.1 hk').2),qwS] at hL
 unfold qds
 refine Ev.bind (qw1 hx) ?_
 have e0:(bif (srcV (srcO xs node)).1 then (qfQ 0 ⟨node,⟨0,0⟩,⟨0,0⟩⟩ false ⟨(srcV (srcO xs node)).2.Af.Am,(srcV (srcO xs node)).2.Af.Ay⟩ ⟨(srcV (srcO xs node)).2.Aq.Am,(srcV (srcO xs node)).2.Aq.Ay⟩).bind (fun o=>match o with|(x9,x10)=>some (x10,x9.Bm,x9.Af.Am,x9.Af.Ay,x9.Aq.Am,x9.Aq.Ay)) else some (false,node,(0:Int),(0:Int),(0:Int),(0:Int))) =
   some ((fixS node (srcV (srcO xs node))).1,(fixS node (srcV (srcO xs node))).2.Bm,(fixS node (srcV (srcO xs node))).2.Af.Am,(fixS node (srcV (srcO xs node))).2.Af.Ay,(fixS node (srcV (srcO xs node))).2.Aq.Am,(fixS node (srcV (srcO xs node))).2.Aq.Ay):=by
  cases hs:srcO xs node with
  | none=>rfl
  | some y =>
   have:=(qnF hs).1
   unfold fixS srcV
   simp only [cond_true,this]
   rfl
 refine Ev.bindN e0 (Ev.bind (qzn (ps:=places b.Aa) (lo:=pre (load0 b) b.Ac.length) (de:=pre (exactL b) b.Ac.length) (ex:=ex) hk hl) (Ev.bind hL ?_))
 have z:=hz (linksL b).length
 generalize ndS f (linksL b) lv t node (srcV (srcO xs node)) (linksL b).length=s at z ⊢
 unfold fixS
 obtain ⟨s1,s2⟩:=s
 cases s1
 ·have:=z rfl
  simp only at this
  subst this
  exact .done
 ·exact .done
end
end Go.Fw


namespace Go.Fw
open Go
set_option maxRecDepth 100000
theorem qnl {b:qg} (h:blockB b=true):Ev (fun n=>qgD n b) ((2*(places b.Aa).length:Nat):Int):=by
 have hs:=qaf (qaD h)
 have hl:=qbj hs
 unfold qgD
 refine Ev.bind (b:=(places b.Aa).map toSp) (qig hs) (Ev.now ?_)
 rw [jx,qJ (by omega) (by omega)]
 rfl
theorem qts {v:Tview} (hl:v.places.length≤78) (n:Nat):qcX n (some v)=some ((2*v.places.length:Nat):Int):=by
 unfold qcX qec
 simp only [jd]
 rw [qJ (by omega) (by omega)]
 rfl
def stepN (xs:List qe) (j:Nat):Bool:=decide (j=0) || decide ((gt xs (j-1)).Bm<(gt xs j).Bm)
def srcB (xs:List qe) (M:Nat):Bool:=allN (fun j=>inI (gt xs j).Bm 0 ((M:Int)-1)&&(stepN xs j&&(spanB (gt xs j).Af&&slewB (gt xs j).Aq))) xs.length
theorem qqQ {xs:List qe} {j:Nat} (h:j ≠ 0):stepN xs j=decide ((gt xs (j-1)).Bm<(gt xs j).Bm):=by unfold stepN;rw [decide_eq_false h,Bool.false_or]
theorem qrF {b:qg} {xs:List qe} (h:blockB b=true) (hl:xs.length≤1048576):Ev (fun n=>qgs n b xs) (srcB xs (2*(places b.Aa).length)):=by
 have hpl:=qbj (qaf (qaD h))
 have e:=qnl h
 obtain ⟨M,eM⟩:∃ M,M=2*(places b.Aa).length:=⟨_,rfl⟩
 rw [←eM] at e ⊢
 have hM:M≤156:=by omega
 have hL:Ev (fun n=>qbQ xs (M:Int) n 0) (bif srcB xs M then .nxt (xs.length:Int) else .ret false):=by
  refine qd8 (Lf:=qbQ xs (M:Int)) (len:=xs.length) (Ev.succ (by simp only [qbQ,ql (je _),cond_false];exact .done)) (fun j hj X hX=>Ev.succ ?_)
  simp only [qbQ,qj hj,cond_true,qC hj,jd,qcK,qrf,qtC,wS j,wO ((M:Int)-1)]
  cases inI (gt xs j).Bm 0 ((M:Int)-1)
  ·exact .done
  refine Ev.ff rfl ?_
  by_cases h0:j=0
  ·subst h0
   refine Ev.ff rfl ?_
   show Ev _ (bif (stepN xs 0&&_) then X else _)
   rw [show stepN xs 0=true from rfl]
   show Ev (fun n=>bif !spanB (gt xs 0).Af then _ else bif !slewB (gt xs 0).Aq then _ else _) _
   cases spanB (gt xs 0).Af
   ·exact .done
   ·cases slewB (gt xs 0).Aq
    ·exact .done
    ·exact hX
  ·refine Ev.tt (decide_eq_true (by omega)) ?_
   rw [show (j:Int)-1=((j-1:Nat):Int) by omega,qJ (by omega) (by omega),qC (show j-1<xs.length by omega),qqQ h0]
   simp only [jd]
   by_cases hlt:(gt xs (j-1)).Bm<(gt xs j).Bm
   ·rw [decide_eq_true hlt]
    refine Ev.ff (decide_eq_false (by omega)) ?_
    show Ev (fun n=>bif !spanB (gt xs j).Af then _ else bif !slewB (gt xs j).Aq then _ else _) _
    cases spanB (gt xs j).Af
    ·exact .done
    ·cases slewB (gt xs j).Aq
     ·exact .done
     ·exact hX
   ·rw [decide_eq_false hlt]
    exact Ev.tt (decide_eq_true (by omega)) .done
 unfold qgs
 refine Ev.bind e (Ev.bind hL ?_)
 cases srcB xs M<;>exact .done
theorem qrq {v:Tview} {xs:List qe} (hp:v.places.length≤78) (hl:xs.length≤1048576):Ev (fun n=>qdy n (some v) xs) (srcB xs (2*v.places.length)):=by
 have e:=qts hp
 obtain ⟨M,eM⟩:∃ M,M=2*v.places.length:=⟨_,rfl⟩
 rw [←eM] at e ⊢
 have hM:M≤156:=by omega
 have hL:Ev (fun n=>qaW (some v) xs n 0) (bif srcB xs M then .nxt (xs.length:Int) else .ret false):=by
  refine qd8 (Lf:=qaW (some v) xs) (len:=xs.length) (Ev.succ (by simp only [qaW,ql (je _),cond_false];exact .done)) (fun j hj X hX=>Ev.succ ?_)
  simp only [qaW,qj hj,cond_true,qC hj,jd,qje,e,qdE,qo9,qtv,wS j,wO ((M:Int)-1)]
  cases inI (gt xs j).Bm 0 ((M:Int)-1)
  ·exact .done
  refine Ev.ff rfl ?_
  show Ev (fun n=>bif !spanB (gt xs j).Af then _ else bif !slewB (gt xs j).Aq then _ else _) _
  rw [jz,Bool.and_comm]
  cases spanB (gt xs j).Af
  ·exact .done
  ·cases slewB (gt xs j).Aq
   ·exact .done
   ·refine Ev.ff rfl (Ev.ff rfl ?_)
    rw [jz,jz]
    by_cases h0:j=0
    ·subst h0
     exact Ev.ff rfl hX
    ·refine Ev.tt (decide_eq_true (by omega)) ?_
     rw [show (j:Int)-1=((j-1:Nat):Int) by omega,qJ (by omega) (by omega),qC (show j-1<xs.length by omega),qqQ h0]
     simp only [jd]
     by_cases hlt:(gt xs (j-1)).Bm<(gt xs j).Bm
     ·rw [decide_eq_true hlt]
      exact Ev.ff (decide_eq_false (by omega)) hX
     ·rw [decide_eq_false hlt]
      exact Ev.tt (decide_eq_true (by omega)) .done
 unfold qdy
 refine Ev.bind hL ?_
 cases srcB xs M<;>exact .done
theorem qyc {xs:List qe} {M:Nat} (hl:xs.length≤1048576) (h:srcB xs M=true):SrcOk xs:=by
 unfold srcB at h
 rw [qav] at h
 refine ⟨hl,fun j=>?_,fun x hx=>?_⟩
 ·induction j with
  | zero=>intro i hi _;omega
  | succ j ih =>
   intro i hi hj
   have hs:=h (j+1) hj
   rw [qqQ (by omega)] at hs
   simp only [jf,decide_eq_true_eq,Nat.add_sub_cancel] at hs
   have hs':=hs.2.1
   by_cases hij:i=j
   ·rw [hij];exact hs'
   ·have:=ih i (by omega) (by omega);omega
 ·obtain ⟨i,hi,rfl⟩:=List.mem_iff_getElem.1 hx
  have hs:=h i hi
  rw [←qfu hi]
  simp only [jf] at hs
  have:=hs.2.2.2
  unfold slewB at this
  simp only [jf,decide_eq_true_eq] at this
  exact ⟨⟨this.1,by omega⟩,by omega,this.2.2⟩
section
variable {L:Nat} {fr to:Nat→Int} {lv:Nat→Bool} {n:Nat}
def OrdOk (L:Nat) (fr to:Nat→Int) (lv:Nat→Bool) (n:Nat) (R:List Nat):Prop:=∀ l1 k l2,R=l1++k::l2→k<n∧k ∉ l1∧inN L fr to lv l1 k=0
theorem OrdOk.snoc {R:List Nat} {k:Nat} (h:OrdOk L fr to lv n R) (hk:nxtN L fr to lv n R=some k):OrdOk L fr to lv n (R++[k]):=by
 intro l1 k' l2 e
 rcases List.eq_nil_or_concat l2 with rfl|⟨l2',z,rfl⟩
 ·obtain ⟨rfl,e2⟩:=List.append_inj' e rfl
  obtain rfl:k=k':=by simpa using e2
  exact qo3 hk
 ·have e':R++[k]=(l1++k'::l2')++[z]:=by rw [e];simp
  obtain ⟨e1,_⟩:=List.append_inj' e' rfl
  exact h l1 k' l2' e1
theorem qx4:∀ m R R',OrdOk L fr to lv n R→ordN L fr to lv n m R=some R'→OrdOk L fr to lv n R':=by
 intro m
 induction m with
 | zero=>intro R R' h e;obtain rfl:=Option.some.inj e;exact h
 | succ m ih =>
  intro R R' h e
  unfold ordN at e
  cases hn:nxtN L fr to lv n R with
  | none=>rw [hn] at e;cases e
  | some k =>
   rw [hn] at e
   exact ih _ _ (h.snoc hn) e
theorem OrdOk.at {R:List Nat} (h:OrdOk L fr to lv n R) {j:Nat} (hj:j<R.length):R[j]<n∧R[j] ∉ R.take j∧inN L fr to lv (R.take j) R[j]=0:=by
 refine h (R.take j) R[j] (R.drop (j+1)) ?_
 rw [←jJ hj,List.take_append_drop]
end
theorem qpI {α:Type} [Inhabited α] {xs:List α} {k:Nat} {v:α} (hk:k<xs.length) (h:gt xs k=v):setS xs (k:Int) v=xs:=by
 unfold setS
 rw [jo,←h,qfu hk]
 exact List.set_getElem_self hk
theorem qqq {α:Type} [Inhabited α] {xs:List α} {a k:Nat} {y:α} (ha:a<xs.length):gt (setS xs (a:Int) y) k=if k=a then y else gt xs k:=by
 unfold setS
 rw [jo]
 by_cases h:k=a
 ·subst h;rw [if_pos rfl,qpV ha]
 ·rw [if_neg h,qr6 h]
def setT (t:qn) (k:Nat) (s:Bool × qe):qn:=⟨setS t.Aj (k:Int) s.1,setS t.Af (k:Int) s.2.Af,setS t.Aq (k:Int) s.2.Aq⟩
theorem qsr {t:qn} {M k:Nat} {s:Bool × qe} (h:TmOk t M) (hk:k<M) (hs:slR s.2.Aq):TmOk (setT t k s) M where
 r:=by show (setS _ _ _).length=_;rw [qfj];exact h.r
 a:=by show (setS _ _ _).length=_;rw [qfj];exact h.a
 s:=by show (setS _ _ _).length=_;rw [qfj];exact h.s
 sl:=fun j hj=>by
  show slR (gt (setS _ _ _) j)
  rw [qqq (by rw [h.s];exact hk)]
  split
  ·exact hs
  ·exact h.sl j hj
def Bare (t:qn) (M:Nat) (l:List Nat):Prop:=∀ k,k<M→k ∉ l→gt t.Aj k=false∧gt t.Af k=zSp∧gt t.Aq k=zSp
def zT:qn:=⟨[],[],[]⟩
theorem qxk:slR zSp:=by unfold slR zSp;exact ⟨⟨jZ _,by show (0:Int)≤_;omega⟩,jZ _,by show (0:Int)≤_;omega⟩
theorem qyj {s t:qc} (hs:slR s) (ht:slR t):slR (hullS s t):=by
 obtain ⟨⟨a1,a2⟩,a3,a4⟩:=hs
 obtain ⟨⟨b1,b2⟩,b3,b4⟩:=ht
 refine ⟨⟨?_,?_⟩,?_,?_⟩
 ·show (0:Int)≤(if t.Am<s.Am then t.Am else s.Am);split<;>assumption
 ·show (if t.Am<s.Am then t.Am else s.Am)≤1000000;split<;>assumption
 ·show (0:Int)≤(if t.Ay > s.Ay then t.Ay else s.Ay);split<;>assumption
 ·show (if t.Ay > s.Ay then t.Ay else s.Ay)≤1000000;split<;>assumption
section
variable {b:qg} {c:qy} {ex:List Int} {f g:Nat→qc→qc × qc} {lv:List Bool} {t:qn} {xs:List qe} {node:Int}
theorem qo5 (h:blockB b=true) (hg:SpansS b c g) (hgf:∀ k s,(f k s).2=(g k s).2) (ht:TmOk t (2*(places b.Aa).length)) (hx:SrcOk xs):∀ j,j≤(linksL b).length→slR (ndS f (linksL b) lv t node (srcV (srcO xs node)) j).2.Aq:=by
 intro j
 induction j with
 | zero =>
  intro _
  show slR (srcV (srcO xs node)).2.Aq
  cases hs:srcO xs node with
  | none=>exact qxk
  | some y=>exact hx.sl y (qnF hs).2
 | succ j ih =>
  intro hj
  have ih:=ih (by omega)
  obtain ⟨_,e2⟩:=qun (qnv h) (show j<(linksL b).length by omega)
  have h2:=(hg j _ (show j<(linksL b).length by omega) (ht.sl _ e2)).1
  rw [←hgf] at h2
  show slR (bif toQ (linksL b) lv node j then stepS f (linksL b) t node (ndS f (linksL b) lv t node (srcV (srcO xs node)) j) j else ndS f (linksL b) lv t node (srcV (srcO xs node)) j).2.Aq
  cases toQ (linksL b) lv node j
  ·exact ih
  ·simp only [cond_true]
   unfold stepS
   cases gt t.Aj (frN (linksL b) j)
   ·exact ih
   ·simp only [cond_true]
    unfold joinS
    cases (ndS f (linksL b) lv t node (srcV (srcO xs node)) j).1
    ·exact h2
    ·exact qyj ih h2
theorem qx1:∀ j,(ndS f (linksL b) lv t node (srcV (srcO xs node)) j).1=false→(ndS f (linksL b) lv t node (srcV (srcO xs node)) j).2=zSrc:=by
 intro j
 induction j with
 | zero =>
  show (srcV (srcO xs node)).1=false→(srcV (srcO xs node)).2=zSrc
  cases srcO xs node with
  | none=>exact fun _=>rfl
  | some y=>intro e;cases e
 | succ j ih =>
  unfold ndS
  cases toQ (linksL b) lv node j
  ·exact ih
  ·simp only [cond_true]
   unfold stepS
   cases gt t.Aj (frN (linksL b) j)
   ·exact ih
   ·simp only [cond_true]
    unfold joinS
    cases (ndS f (linksL b) lv t node (srcV (srcO xs node)) j).1<;>(intro e;cases e)
def runR (o:Option qn):qn × Bool:=match o with|some t=>(t,true)|none=>(zT,false)
def rnO (f:Nat→qc→qc × qc) (ls:List qu) (lv:List Bool) (xs:List qe):List Nat→qn→Option qn
 | [],t=>some t
 | k::R,t=>bif (ndS f ls lv t (k:Int) (srcV (srcO xs (k:Int))) ls.length).1 then bif spanB (ndS f ls lv t (k:Int) (srcV (srcO xs (k:Int))) ls.length).2.Af then rnO f ls lv xs R (setT t k (ndS f ls lv t (k:Int) (srcV (srcO xs (k:Int))) ls.length)) else none else rnO f ls lv xs R t
def zTm (M:Nat):qn:=⟨List.replicate M false,List.replicate M zSp,List.replicate M zSp⟩
theorem qss {α:Type} [Inhabited α] {v:α} {M k:Nat} (hk:k<M):gt (List.replicate M v) k=v:=by rw [qfu (by rw [jP];exact hk)];simp
theorem quY {M:Nat}:TmOk (zTm M) M:=⟨jP,jP,jP,fun k hk=>by
 show slR (gt (List.replicate M zSp) k)
 rw [qss hk];exact qxk⟩
theorem qwL {M:Nat} {l:List Nat}:Bare (zTm M) M l:=fun k hk _=>⟨qss hk,qss hk,qss hk⟩
def runL (o:Option qn) (m:Nat):Flow (qn × Bool) (List qc × List qc × List Bool × Int):=match o with|some t'=>.nxt (t'.Aq,t'.Af,t'.Aj,(m:Int))|none=>.ret (zT,false)
theorem qxS (h:blockB b=true) (hg:SpansS b c g) (hgf:∀ k s,(f k s).2=(g k s).2) (hf:SpansI b c ex f) (hl:lv.length=(linksL b).length) (hx:SrcOk xs) {R:List Nat} (hR:∀ j,∀ hj:j<R.length,R[j]<2*(places b.Aa).length∧R[j] ∉ R.take j) (hRl:R.length≤1000) :
  Ev (fun n=>qdr n (some ⟨some (viewE b ex),lv⟩) c xs (ints R)) (runR (rnO f (linksL b) lv xs R (zTm (2*(places b.Aa).length)))):=by
 have hpl:=qbj (qaf (qaD h))
 have hnd:=qts (v:=viewE b ex) hpl
 have epl:(viewE b ex).places.length=(places b.Aa).length:=rfl
 rw [epl] at hnd
 obtain ⟨M,eM⟩:∃ M,M=2*(places b.Aa).length:=⟨_,rfl⟩
 have hM:M≤156:=by omega
 have main:∀ d j t,j+d=R.length→TmOk t M→Bare t M (R.take j)→Ev (fun n=>qaV (some ⟨some (viewE b ex),lv⟩) c xs (ints R) n t.Aq t.Af t.Aj (j:Int)) (runL (rnO f (linksL b) lv xs (R.drop j) t) R.length):=by
  intro d
  induction d with
  | zero =>
   intro j t hj ht _
   obtain rfl:j=R.length:=by omega
   rw [List.drop_length]
   refine Ev.succ ?_
   simp only [qaV,qd4,ql (je _),cond_false]
   exact .done
  | succ d ih =>
   intro j t hj ht hb
   have hjl:j<R.length:=by omega
   obtain ⟨k1,k2⟩:=hR j hjl
   have hi:=qoR hjl
   have htk:R.take (j+1)=R.take j++[R[j]]:=jy hjl
   have hd:R.drop j=R[j]::R.drop (j+1):=jJ hjl
   generalize R[j]=k at k1 k2 hi htk hd
   rw [←eM] at k1
   have hp:=qwH (node:=(k:Int)) h hf hl (by rw [←eM];exact ht) hx.len
   have hsl:=qo5 (node:=(k:Int)) (lv:=lv) h hg hgf (by rw [←eM];exact ht) hx (linksL b).length (je _)
   have hz:=qx1 (f:=f) (b:=b) (lv:=lv) (t:=t) (xs:=xs) (node:=(k:Int)) (linksL b).length
   obtain ⟨b1,b2,b3⟩:=hb k k1 k2
   have ir:idx t.Aj (k:Int)=some (gt t.Aj k):=qC (by rw [ht.r];exact k1)
   have ia:idx t.Af (k:Int)=some (gt t.Af k):=qC (by rw [ht.a];exact k1)
   have is:idx t.Aq (k:Int)=some (gt t.Aq k):=qC (by rw [ht.s];exact k1)
   have ptp:∀ n,qaV (some ⟨some (viewE b ex),lv⟩) c xs (ints R) (n+1) t.Aq t.Af t.Aj (j:Int)=(qds n (some ⟨some (viewE b ex),lv⟩) c xs t (k:Int)).bind fun o=>match o with
    | (r3,r4)=>(bif r3 then some (!spanB r4.Af) else some false).bind fun b3=>bif b3 then some (.ret (zT,false)) else
     qaV (some ⟨some (viewE b ex),lv⟩) c xs (ints R) n (setS t.Aq (k:Int) r4.Aq) (setS t.Af (k:Int) r4.Af) (setS t.Aj (k:Int) r3) ((j+1:Nat):Int):=fun n=>by
    simp only [qaV,qd4,qj hjl,cond_true,hi,jd,qo9,ir,ia,is,wS j]
    rfl
   rw [hd]
   unfold rnO
   generalize ndS f (linksL b) lv t (k:Int) (srcV (srcO xs (k:Int))) (linksL b).length=s at hp hsl hz ⊢
   obtain ⟨s1,s2⟩:=s
   cases s1
   ·have:=hz rfl
    simp only at this
    subst this
    have e1:setS t.Aq (k:Int) zSrc.Aq=t.Aq:=qpI (by rw [ht.s];exact k1) b3
    have e2:setS t.Af (k:Int) zSrc.Af=t.Af:=qpI (by rw [ht.a];exact k1) b2
    have e3:setS t.Aj (k:Int) false=t.Aj:=qpI (by rw [ht.r];exact k1) b1
    refine Ev.step ptp (Ev.bind hp ?_)
    simp only [cond_false,jd,e1,e2,e3]
    exact ih (j+1) t (by omega) ht (fun i hi hni=>hb i hi (fun hm=>hni (by rw [htk];exact jR _ hm)))
   ·cases hsp:spanB s2.Af
    ·refine Ev.step ptp (Ev.bind hp ?_)
     simp only [hsp];exact .done
    ·refine Ev.step ptp (Ev.bind hp ?_)
     simp only [hsp]
     refine ih (j+1) (setT t k (true,s2)) (by omega) (qsr ht k1 hsl) (fun i hi hni=>?_)
     rw [htk] at hni
     have hne:i ≠ k:=fun e=>hni (List.mem_append_right _ (List.mem_singleton.2 e))
     have:=hb i hi (fun hm=>hni (jR _ hm))
     refine ⟨?_,?_,?_⟩
     ·show gt (setS _ _ _) i=_;rw [qqq (by rw [ht.r];exact k1),if_neg hne];exact this.1
     ·show gt (setS _ _ _) i=_;rw [qqq (by rw [ht.a];exact k1),if_neg hne];exact this.2.1
     ·show gt (setS _ _ _) i=_;rw [qqq (by rw [ht.s];exact k1),if_neg hne];exact this.2.2
 have hm1:mkS (M:Int) false=some (List.replicate M false):=qnA (by omega)
 have hm2:mkS (M:Int) (⟨0,0⟩:qc)=some (List.replicate M zSp):=qnA (by omega)
 have o3:=main R.length 0 (zTm M) (by omega) quY qwL
 rw [List.drop_zero] at o3
 rw [←eM] at hnd ⊢
 unfold qdr qhF
 simp only [jd,hnd,hm1,hm2]
 refine Ev.bind o3 ?_
 cases rnO f (linksL b) lv xs R (zTm M)<;>exact .done
end
end Go.Fw


namespace Go.Fw
open Go Go.Proofs
open Go.RowKit (Below)
set_option maxRecDepth 100000
set_option maxHeartbeats 1600000
variable {n:Nat} {w:World} {cs1 cs2 cs3 cs4 cs5 cs6 cs7 cs8 cs9:List Value}
def qca (n:Nat) (a_0:qg) (a_1:qy) (a_2:(List Int)) (a_3:(List qe)) (a_4:(List Int)):Option (qn × Int) :=
 (
  (qf6 n a_0).bind fun r5 =>
  bif r5 then
   (qfs n a_1).bind fun r6 =>
   bif r6 then
    bif ((a_4.length:Int) != (a_0.Ac.length:Int)) then some true else
    (qbD n a_4 0 1000000000).bind fun r7 =>
    some (!r7)
   else
    some false
  else
   some false).bind fun b1 =>
 bif b1 then some ((⟨[],[],[]⟩:qn),2) else
 (qfB n a_0 a_1 a_2 a_3 none).bind fun o=>match o with
  | (none,_,i1) =>
   (bif (i1 != 0) then
    some ((⟨[],[],[]⟩:qn),i1)
   else
    none)
  | (some (⟨some (⟨_,x6,x5,x4,x3,_⟩),x2⟩),x1,_) =>
   ((qdr n (some (⟨(some (⟨(⟨(⟨a_0.Ar.Ap⟩:qr),(⟨a_0.Aa.Ab,a_0.Aa.Ai,a_0.Aa.Ah⟩:qf),a_0.Ac⟩:qg),x6,x5,x4,x3,a_4⟩:Tview)),x2⟩:Tgraph)) a_1 a_3 x1).bind fun o=>match o with
    | (r3,r4) =>
     bif (!r4) then some ((⟨[],[],[]⟩:qn),3) else
     some (r3,0))
  | _=>none
theorem qas {a_0:qg} {a_1:qy} {a_2:(List Int)} {a_3:(List qe)} {a_4:(List Int)} (ha1:GoT.R w (old w) a_0 cs1) (ha2:GoT.R w (old w) a_1 cs2) (ha3:GoT.R w (old w) a_2 cs3) (ha4:GoT.R w (old w) a_3 cs4) (ha5:GoT.R w (old w) a_4 cs5) {r:(qn × Int)} (hF:qca n a_0 a_1 a_2 a_3 a_4=some r):RetV Tryz.prog 33 [GoT.v qg cs1,GoT.v qy cs2,GoT.v (List Int) cs3,GoT.v (List qe) cs4,GoT.v (List Int) cs5] w r:=by
 obtain ⟨p1,k1,p2,k2,p3,k3,p4,k4,p5,k5,rfl,s1,s2,s3,s4,s5⟩:=qI ha1
 obtain rfl:=qah ha2
 obtain ⟨p6,k6,rfl,s6⟩:=ha3
 obtain ⟨p7,k7,rfl,s7⟩:=ha4
 obtain ⟨p8,k8,rfl,s8⟩:=ha5
 refine zV 69 Tryz.func33 rfl fun h=>zSR (qv h rfl rfl fun w1 bb1 h=>qv h rfl rfl fun w2 bb2 h=>qp qa h rfl rfl rfl fun w3 bb3 h=>X0 4 rfl ?_)
 obtain ⟨KF1,hKF1,o1,hF,hK1⟩:=bindE hF
 refine qba (fun e w'=>∃ (b1:Bool),KF1 b1=some r∧e=[(2,.slice p6 a_2.length k6),(3,.slice p7 a_3.length k7),(4,.slice p8 a_4.length k8),(5,.pointer (some ⟨bb1,0,none⟩)),(6,.pointer (some ⟨bb2,0,none⟩)),(10,.pointer (some ⟨bb3,0,none⟩)),(35,.bool b1)]∧SH w w' [Ch.box bb3 [.slice none 0 0,.slice none 0 0,.slice none 0 0] 57,Ch.box bb2 (qaq a_1) 77,Ch.box bb1 (qZ a_0 p1 p2 p3 p4 p5 k1 k2 k3 k4 k5) 53]) ?_ ?_
 ·refine X1 2 2 h rfl (zcB h hF (qmD (h.old ha1)) rfl fun r5 w13 h hF=>zp1 rfl (qk (t:=19) hF rfl ?_ ?_))<;>intro hF
  ·refine X1 3 1 h rfl (zcB h hF (qlK (h.old ha2)) rfl fun r6 w14 h hF=>zp2 rfl (qk (t:=23) hF rfl ?_ ?_))<;>intro hF
   ·refine X1 14 2 h rfl (qk (t:=30) hF rfl ?_ ?_)<;>intro hF
    ·refine X0 7 rfl ?_
     obtain rfl:=qb hF
     exact rG ⟨_,hK1,rfl,h⟩ rfl
    refine X0 3 rfl (zcB h hF (qb6 ⟨_,_,rfl,(h.oldS s8)⟩) rfl fun r7 w15 h hF=>X0 6 rfl ?_)
    obtain rfl:=qb hF
    exact rG ⟨_,hK1,rfl,h⟩ rfl
   refine X0 13 rfl ?_
   obtain rfl:=qb hF
   exact rG ⟨_,hK1,rfl,h⟩ rfl
  refine X0 17 rfl ?_
  obtain rfl:=qb hF
  exact rG ⟨_,hK1,rfl,h⟩ rfl
 rintro e1 w16 ⟨b1,hF,rfl,h⟩
 subst hKF1
 refine qh rfl hF ?_ ?_<;>intro hF
 ·refine zSR (r_v (qW qa [] [] rfl rfl rfl rfl rfl rfl rfl rfl) rfl (zs 0 h rfl fun w4 h=>X0 2 rfl ?_))
  obtain rfl:=qb hF
  exact qab qa (ρ:=(qn × Int)) [GoT.v qn [.slice none 0 0,.slice none 0 0,.slice none 0 0],GoT.v Int [.int .i64 2]] h ⟨⟨_,_,_,rfl,rfl,h.box 0 rfl,rfl⟩,rfl,trivial⟩ (PV.done h (qao h (qcD (⟨[],[],[]⟩:qn) h qb3 qb3 qb3 (by rfl) (by rfl)) (qaj (qz (S:=fun _=>False) rfl)) (by rfl)))
 refine X2 7 2 1 h rfl ?_
 obtain ⟨r1,hr1,hF⟩:=qd hF
 refine qs3 (cB 88 rfl) (qm6 (h.old ha1) (h.old ha2) ⟨_,_,rfl,(h.oldS s6)⟩ ⟨_,_,rfl,(h.oldS s7)⟩ rfl hr1) rfl rfl rfl rfl ?_
 rintro w5 us1 L1 hs1 (⟨i1,rfl,rfl,rfl⟩|⟨S1,p9,ln1,k9,x1,bb4,S2,p10,ln2,k10,x2,S3,p11,ln3,k11,x3,S4,p12,ln4,k12,x4,S5,p13,ln5,k13,x5,bb5,S6,p14,ln6,k14,x6,rfl,rfl,rfl⟩)
 ·replace h:SH _ _ [Ch.box bb3 [.slice none 0 0,.slice none 0 0,.slice none 0 0] 57,Ch.box bb2 (qaq a_1) 77,Ch.box bb1 (qZ a_0 p1 p2 p3 p4 p5 k1 k2 k3 k4 k5) 53]:=SH.appendN h hs1 (show NoD [] from trivial)
  refine X0 14 rfl (qh rfl hF ?_ ?_)<;>intro hF
  ·refine zSR (r_v (qW qa [] [] rfl rfl rfl rfl rfl rfl rfl rfl) rfl (zp1 rfl (zs 0 h rfl fun w6 h=>X0 2 rfl ?_)))
   obtain rfl:=qb hF
   exact qab qa (ρ:=(qn × Int)) [GoT.v qn [.slice none 0 0,.slice none 0 0,.slice none 0 0],GoT.v Int [.int .i64 i1]] h ⟨⟨_,_,_,rfl,rfl,h.box 0 rfl,rfl⟩,rfl,trivial⟩ (PV.done h (qao h (qcD (⟨[],[],[]⟩:qn) h qb3 qb3 qb3 (by rfl) (by rfl)) (qaj (qz (S:=fun _=>False) rfl)) (by rfl)))
  refine X0 4 rfl ?_
  cases hF
 replace h:SH _ _ [Ch.own S1 (x1:List Int) [.slice p9 ln1 k9],Ch.box bb4 [.pointer (some ⟨bb5,0,none⟩),.slice p10 ln2 k10] 150,Ch.own S2 (x2:List Bool) [.slice p10 ln2 k10],Ch.own S3 (x3:List (List Int)) [.slice p11 ln3 k11],Ch.own S4 (x4:List Int) [.slice p12 ln4 k12],Ch.own S5 (x5:List qu) [.slice p13 ln5 k13],Ch.box bb5 [.slice p1 a_0.Ar.Ap.length k1,.slice p2 a_0.Aa.Ab.length k2,.slice p3 a_0.Aa.Ai.length k3,.slice p4 a_0.Aa.Ah.length k4,.slice p5 a_0.Ac.length k5,.slice p14 ln6 k14,.slice p13 ln5 k13,.slice p12 ln4 k12,.slice p11 ln3 k11,.slice none 0 0] 155,Ch.own S6 (x6:List Tplace) [.slice p14 ln6 k14],Ch.box bb3 [.slice none 0 0,.slice none 0 0,.slice none 0 0] 57,Ch.box bb2 (qaq a_1) 77,Ch.box bb1 (qZ a_0 p1 p2 p3 p4 p5 k1 k2 k3 k4 k5) 53]:=SH.appendN h hs1 ⟨fun _ h=>h,⟨fun _ h=>h,⟨fun _ h=>h,⟨fun _ h=>h,⟨fun _ h=>h,⟨fun _ h=>h,⟨fun _ h=>h,⟨fun _ h=>h,trivial⟩⟩⟩⟩⟩⟩⟩⟩
 obtain rfl:=(h.sl 0 rfl).2
 obtain rfl:=(h.sl 2 rfl).2
 obtain rfl:=(h.sl 3 rfl).2
 obtain rfl:=(h.sl 4 rfl).2
 obtain rfl:=(h.sl 5 rfl).2
 obtain rfl:=(h.sl 7 rfl).2
 refine X0 14 rfl (qcj rfl rfl (X1 10 1 h rfl (zs 6 h rfl fun w7 h=>X1 7 9 h rfl ?_)))
 obtain ⟨r2,hr2,hF⟩:=qd hF
 obtain ⟨r3,r4⟩:=r2
 refine qaP (r3,r4) h (cB 79 rfl) (qlQ (qdu (x:=(⟨(some (⟨(⟨(⟨a_0.Ar.Ap⟩:qr),(⟨a_0.Aa.Ab,a_0.Aa.Ai,a_0.Aa.Ah⟩:qf),a_0.Ac⟩:qg),x6,x5,x4,x3,a_4⟩:Tview)),x2⟩:Tgraph)) 1 h rfl (⟨[.pointer (some ⟨bb5,0,none⟩)],[.slice p10 x2.length k10],rfl,(qdu (x:=(⟨(⟨(⟨a_0.Ar.Ap⟩:qr),(⟨a_0.Aa.Ab,a_0.Aa.Ai,a_0.Aa.Ah⟩:qf),a_0.Ac⟩:qg),x6,x5,x4,x3,a_4⟩:Tview)) 6 h rfl (⟨[.slice p1 a_0.Ar.Ap.length k1,.slice p2 a_0.Aa.Ab.length k2,.slice p3 a_0.Aa.Ai.length k3,.slice p4 a_0.Aa.Ah.length k4,.slice p5 a_0.Ac.length k5],[.slice p14 x6.length k14,.slice p13 x5.length k13,.slice p12 x4.length k12,.slice p11 x3.length k11,.slice p8 a_4.length k8],rfl,⟨[.slice p1 a_0.Ar.Ap.length k1],[.slice p2 a_0.Aa.Ab.length k2,.slice p3 a_0.Aa.Ai.length k3,.slice p4 a_0.Aa.Ah.length k4,.slice p5 a_0.Ac.length k5],rfl,⟨_,_,rfl,(h.oldS s1)⟩,⟨[.slice p2 a_0.Aa.Ab.length k2,.slice p3 a_0.Aa.Ai.length k3,.slice p4 a_0.Aa.Ah.length k4],[.slice p5 a_0.Ac.length k5],rfl,⟨[.slice p2 a_0.Aa.Ab.length k2],[.slice p3 a_0.Aa.Ai.length k3,.slice p4 a_0.Aa.Ah.length k4],rfl,⟨_,_,rfl,(h.oldS s2)⟩,⟨[.slice p3 a_0.Aa.Ai.length k3],[.slice p4 a_0.Aa.Ah.length k4],rfl,⟨_,_,rfl,(h.oldS s3)⟩,⟨_,_,rfl,(h.oldS s4)⟩⟩⟩,⟨_,_,rfl,(h.oldS s5)⟩⟩⟩,⟨[.slice p14 x6.length k14],[.slice p13 x5.length k13,.slice p12 x4.length k12,.slice p11 x3.length k11,.slice p8 a_4.length k8],rfl,(h.own 7 rfl),⟨[.slice p13 x5.length k13],[.slice p12 x4.length k12,.slice p11 x3.length k11,.slice p8 a_4.length k8],rfl,(h.own 5 rfl),⟨[.slice p12 x4.length k12],[.slice p11 x3.length k11,.slice p8 a_4.length k8],rfl,(h.own 4 rfl),⟨[.slice p11 x3.length k11],[.slice p8 a_4.length k8],rfl,(h.own 3 rfl),⟨_,_,rfl,(h.oldS s8)⟩⟩⟩⟩⟩⟩)),(h.own 2 rfl)⟩)) (h.old ha2) ⟨_,_,rfl,(h.oldS s7)⟩ (h.own 0 rfl) hr2) rfl rfl rfl rfl fun w8 S7 us2 hv1 hr3=>?_
 obtain ⟨S8,S9,cs6,us3,rfl,hv2,hr4⟩:=hv1.cons hr3
 obtain ⟨p15,k15,p16,k16,p17,k17,rfl,-,-,-⟩:=qad (hv2.sh.own 0 rfl)
 obtain ⟨rfl,h⟩:=hv2.lastB hr4
 refine zp3 rfl (qp qa h rfl rfl rfl fun w9 bb6 h=>zs 0 h rfl fun w10 h=>X0 8 rfl (qh rfl hF ?_ ?_))<;>intro hF
 ·refine zSR (r_v (qW qa [] [] rfl rfl rfl rfl rfl rfl rfl rfl) rfl (zs 10 h rfl fun w11 h=>X0 2 rfl ?_))
  obtain rfl:=qb hF
  exact qab qa (ρ:=(qn × Int)) [GoT.v qn [.slice none 0 0,.slice none 0 0,.slice none 0 0],GoT.v Int [.int .i64 3]] h ⟨⟨_,_,_,rfl,rfl,h.box 10 rfl,rfl⟩,rfl,trivial⟩ (PV.done h (qao h (qcD (⟨[],[],[]⟩:qn) h qb3 qb3 qb3 (by rfl) (by rfl)) (qaj (qz (S:=fun _=>False) rfl)) (by rfl)))
 refine X1 4 0 h rfl (zs 10 h rfl fun w12 h=>X0 2 rfl ?_)
 obtain rfl:=qb hF
 exact qab qa (ρ:=(qn × Int)) [GoT.v qn (qaa r3 p15 p16 p17 k15 k16 k17),GoT.v Int [.int .i64 0]] h ⟨⟨_,_,_,rfl,rfl,h.box 10 rfl,rfl⟩,rfl,trivial⟩ (PV.done h (qao h (qap 1 h rfl) (qaj (qz (S:=fun _=>False) rfl)) (by rfl)))
end Go.Fw


namespace Go.Fw
open Go Go.Proofs
open Go.RowKit (Below)
set_option maxRecDepth 100000
set_option maxHeartbeats 1600000
variable {n:Nat} {w:World} {cs1 cs2 cs3 cs4 cs5 cs6 cs7 cs8 cs9:List Value}
def qgi (a:(List Bool)) (b:(List Bool)):Nat→Int→Option (Flow Bool Int)
 | 0,_=>none
 | n+1,i1 =>
  bif decide (i1<(a.length:Int)) then
   (idx a i1).bind fun y1 =>
   (idx b i1).bind fun y2 =>
   bif (!(y1==y2)) then some (.ret false) else
   qgi a b n (W64 (i1+1))
  else
   some (.nxt i1)
def qke (n:Nat) (a:(List Bool)) (b:(List Bool)):Option Bool :=
 bif ((a.length:Int) != (b.length:Int)) then some false else
 (qgi a b n 0).bind fun o=>match o with
 | .ret r=>some r
 | .nxt _ =>
  some true
theorem qqf {a:(List Bool)} {b:(List Bool)} (ha1:GoT.R w (old w) a cs1) (ha2:GoT.R w (old w) b cs2) {r:Bool} (hF:qke n a b=some r):RetV Tryz.prog 61 [GoT.v (List Bool) cs1,GoT.v (List Bool) cs2] w r:=by
 obtain ⟨p1,k1,rfl,s1⟩:=ha1
 obtain ⟨p2,k2,rfl,s2⟩:=ha2
 refine zV 26 Tryz.func61 rfl fun h=>X0 13 rfl (qh rfl hF ?_ ?_)<;>intro hF
 ·exact X0 4 rfl (rb h hF rfl)
 refine X0 6 rfl ?_
 obtain ⟨o1,hF,hK1⟩:=qd hF
 refine qm (rL (fun m e w'=>∃ (i1:Int),qgi a b m i1=some o1∧e=[(0,.slice p1 a.length k1),(1,.slice p2 b.length k2),(5,.int .i64 i1)]∧SH w w' []) n ⟨_,hF,rfl,h⟩ rfl ?_)
 rintro m1 e1 w1 ⟨i1,hF,rfl,h⟩
 rcases m1 with _|m1
 ·cases hF
 refine X0 8 rfl (qh rfl hF ?_ ?_)<;>intro hF
 ·refine X0 4 rfl (rD (zd2 rfl ?_))
  obtain ⟨y1,hy1,hF,he1,b1,_,q1,cs3,hp1,hq1,rfl,hc3⟩:=s1.ix hF
  refine zdxe hp1 hq1 he1 rfl (zdc 0 (hc3.below h.below) rfl (zd2 rfl ?_))
  obtain ⟨y2,hy2,hF,he2,b2,_,q2,cs4,hp2,hq2,rfl,hc4⟩:=s2.ix hF
  refine zdxe hp2 hq2 he2 rfl (zdc 0 (hc4.below h.below) rfl (zd1 rfl (dN h fun w2 h=>qh rfl hF ?_ ?_)))<;>intro hF
  ·refine X0 4 rfl ?_
   obtain rfl:=qb hF;replace hF:=hK1
   exact rb h hF rfl
  exact X0 7 rfl (rK ⟨_,hF,rfl,h⟩ rfl)
 refine qq rfl ?_
 obtain rfl:=qb hF;replace hF:=hK1
 exact X0 4 rfl (rb h hF rfl)
def qgm (a:(List qc)) (b:(List qc)):Nat→Int→Option (Flow Bool Int)
 | 0,_=>none
 | n+1,i1 =>
  bif decide (i1<(a.length:Int)) then
   (idx a i1).bind fun y1 =>
   (idx b i1).bind fun y2 =>
   (qg7 n y1 y2).bind fun r1 =>
   bif (!r1) then some (.ret false) else
   qgm a b n (W64 (i1+1))
  else
   some (.nxt i1)
def qip (n:Nat) (a:(List qc)) (b:(List qc)):Option Bool :=
 bif ((a.length:Int) != (b.length:Int)) then some false else
 (qgm a b n 0).bind fun o=>match o with
 | .ret r=>some r
 | .nxt _ =>
  some true
theorem qmw {a:(List qc)} {b:(List qc)} (ha1:GoT.R w (old w) a cs1) (ha2:GoT.R w (old w) b cs2) {r:Bool} (hF:qip n a b=some r):RetV Tryz.prog 62 [GoT.v (List qc) cs1,GoT.v (List qc) cs2] w r:=by
 obtain ⟨p1,k1,rfl,s1⟩:=ha1
 obtain ⟨p2,k2,rfl,s2⟩:=ha2
 refine zV 27 Tryz.func62 rfl fun h=>X0 13 rfl (qh rfl hF ?_ ?_)<;>intro hF
 ·exact X0 4 rfl (rb h hF rfl)
 refine X0 6 rfl ?_
 obtain ⟨o1,hF,hK1⟩:=qd hF
 refine qm (rL (fun m e w'=>∃ (i1:Int),qgm a b m i1=some o1∧e=[(0,.slice p1 a.length k1),(1,.slice p2 b.length k2),(5,.int .i64 i1)]∧SH w w' []) n ⟨_,hF,rfl,h⟩ rfl ?_)
 rintro m1 e1 w1 ⟨i1,hF,rfl,h⟩
 rcases m1 with _|m1
 ·cases hF
 refine X0 8 rfl (qh rfl hF ?_ ?_)<;>intro hF
 ·refine X0 4 rfl (rD (zd2 rfl ?_))
  obtain ⟨y1,hy1,hF,he1,b1,_,q1,cs3,hp1,hq1,hr1,hc3⟩:=s1.ix hF
  obtain rfl:=qx hr1
  refine zdxe hp1 hq1 he1 rfl (zdc 0 (hc3.below h.below) rfl (zd2 rfl ?_))
  obtain ⟨y2,hy2,hF,he2,b2,_,q2,cs4,hp2,hq2,hr2,hc4⟩:=s2.ix hF
  obtain rfl:=qx hr2
  refine zdxe hp2 hq2 he2 rfl (zdc 0 (hc4.below h.below) rfl ?_)
  obtain ⟨r1,hr3,hF⟩:=qd hF
  refine qbm r1 (vsB _) (cB 139 rfl) (fun _ hb=>qkK (qA y1) (qA y2) hr3) rfl rfl rfl rfl (zd1 rfl (dN h fun w2 h=>qh rfl hF ?_ ?_))<;>intro hF
  ·refine X0 4 rfl ?_
   obtain rfl:=qb hF;replace hF:=hK1
   exact rb h hF rfl
  exact X0 7 rfl (rK ⟨_,hF,rfl,h⟩ rfl)
 refine qq rfl ?_
 obtain rfl:=qb hF;replace hF:=hK1
 exact X0 4 rfl (rb h hF rfl)
end Go.Fw


namespace Go.Fw
open Go Go.Proofs
open Go.RowKit (Below)
set_option maxRecDepth 100000
set_option maxHeartbeats 1600000
variable {n:Nat} {w:World} {cs1 cs2 cs3 cs4 cs5 cs6 cs7 cs8 cs9:List Value}
def qgB (n:Nat) (a:qn) (b:qn):Option Bool :=
 (qke n a.Aj b.Aj).bind fun r1 =>
 bif (!r1) then some false else
 (qip n a.Af b.Af).bind fun r2 =>
 bif (!r2) then some false else
 (qip n a.Aq b.Aq).bind fun r3 =>
 bif (!r3) then some false else
 some true
theorem qi4 {a:qn} {b:qn} (ha1:GoT.R w (old w) a cs1) (ha2:GoT.R w (old w) b cs2) {r:Bool} (hF:qgB n a b=some r):RetV Tryz.prog 17 [GoT.v qn cs1,GoT.v qn cs2] w r:=by
 obtain ⟨p1,k1,p2,k2,p3,k3,rfl,s1,s2,s3⟩:=qad ha1
 obtain ⟨p4,k4,p5,k5,p6,k6,rfl,s4,s5,s6⟩:=qad ha2
 refine zV 23 Tryz.func17 rfl fun h=>zSR (qv h rfl rfl fun w1 bb1 h=>qv h rfl rfl fun w2 bb2 h=>X2 9 1 0 h rfl (zcB h hF (qqf ⟨_,_,rfl,(h.oldS s1)⟩ ⟨_,_,rfl,(h.oldS s4)⟩) rfl fun r1 w3 h hF=>X0 2 rfl (qh rfl hF ?_ ?_)))<;>intro hF
 ·exact X0 4 rfl (rb h hF rfl)
 refine X2 8 1 0 h rfl (zcB h hF (qmw ⟨_,_,rfl,(h.oldS s2)⟩ ⟨_,_,rfl,(h.oldS s5)⟩) rfl fun r2 w4 h hF=>X0 2 rfl (qh rfl hF ?_ ?_))<;>intro hF
 ·exact X0 4 rfl (rb h hF rfl)
 refine X2 8 1 0 h rfl (zcB h hF (qmw ⟨_,_,rfl,(h.oldS s3)⟩ ⟨_,_,rfl,(h.oldS s6)⟩) rfl fun r3 w5 h hF=>X0 2 rfl (qh rfl hF ?_ ?_))<;>intro hF
 ·exact X0 4 rfl (rb h hF rfl)
 exact X0 5 rfl (rb h hF rfl)
def qcm (a:(List Int)):Nat→(List Int)→Int→Int→Option ((List Int) × Int × Int)
 | 0,_,_,_=>none
 | n+1,x1,i1,i2 =>
  bif decide (i2<(a.length:Int)) then
   (idx x1 i2).bind fun _ =>
   qcm a n (setS x1 i2 i1) (W64 (i1+1)) (W64 (i2+1))
  else
   some (x1,i1,i2)
def qaK (n:Nat) (a:(List Int)) (k:Int):Option (Int × (List Int)) :=
 (qcm a n a k 0).bind fun o=>match o with
 | (x1,i1,_) =>
  some (i1,x1)
theorem qaM {n:Nat} {w0 w:World} {F:List Ch} {a:(List Int)} {k:Int} {S1:Nat→Prop} {p1:Option Addr} {ln1 k1:Nat} (h:SH w0 w (Ch.own S1 (a:List Int) [.slice p1 ln1 k1]::F)) {r:(Int × (List Int))} (hF:qaK n a k=some r):RetN Tryz.prog 22 [.slice p1 ln1 k1,.int .i64 k] w (fun w'=>∃ Z0:Nat→Prop,SH w0 w' (Ch.own Z0 (r.2:List Int) [.slice p1 ln1 k1]::F)) r.1:=by
 refine qbH Tryz.func22 rfl (m:=19) rfl rfl ?_
 obtain rfl:=(h.sl 0 rfl).2
 refine X0 9 rfl ?_
 obtain ⟨o1,hF,hK1⟩:=qd hF
 refine qm (rL (fun m e w'=>∃ (x1:(List Int)) (i1:Int) (i2:Int),qcm a m x1 i1 i2=some o1∧e=[(0,.slice p1 a.length k1),(1,.int .i64 i1),(5,.int .i64 i2)]∧SH w0 w' (Ch.own S1 (x1:List Int) [.slice p1 a.length k1]::F)) n ⟨_,_,_,hF,rfl,h⟩ rfl ?_)
 rintro m1 e1 w1 ⟨x1,i1,i2,hF,rfl,h⟩
 rcases m1 with _|m1
 ·cases hF
 refine X0 8 rfl (qh rfl hF ?_ ?_)<;>intro hF
 ·refine X0 8 rfl ?_
  obtain ⟨y1,hy1,hF,he1,b1,_,q1,cs1,hp1,hq1,rfl,hc2⟩:=(h.sl 0 rfl).1.ix hF
  exact zx hp1 hq1 ⟨he1.1,qD he1.2.1 (h.sl 0 rfl).2⟩ rfl (qau qa 0 0 i1 h rfl hy1 hp1 hq1 rfl hc2 rfl rfl rfl rfl rfl rfl rfl fun w2 h=>X0 12 rfl (rK ⟨_,_,_,hF,rfl,h⟩ rfl))
 refine qq rfl ?_
 obtain rfl:=qb hF;replace hF:=hK1
 refine X0 5 rfl ?_
 obtain rfl:=qb hF
 exact qhH qa ⟨_,h⟩ ⟨rfl,trivial⟩
end Go.Fw


namespace Go.Fw
open Go
def qoC (a:(List Bool)):Nat:=a.length
theorem qw3 {a:(List Bool)} (h:qoC a≤1048576):Ev (fun n=>qke n a a) true:=by
 have hl:a.length≤1048576:=by simp only [qoC] at h;omega
 unfold qke
 exact Ev.ff (by simp) (Ev.bind (b:=.nxt (a.length:Int)) (qh4 (eqf:=fun _ x y=>some (!(!(x==y)))) (fun x _=>Ev.now (by simp))
  (fun n=>by simp only [qgi,ql (je _),cond_false])
  (fun n j x hx=>by
   have hj:=(List.getElem?_eq_some_iff.1 hx).1
   simp only [qgi,qj hj,cond_true,qM hx,jd,Bool.not_not,wS j])) .done)
structure qyI (x:qjh):Prop where
 A:okI x.A
 B:okI x.B
 Cb:okI x.Cb
structure qwZ (x:qpF):Prop where
 Cd:okI x.Cd
 Bz:okI x.Bz
structure qsP (x:qji):Prop where
 Be:okI x.Be
 To:okI x.To
 Bj:okI x.Bj
 Ca:okI x.Ca
structure qxi (x:qoI):Prop where
 Bx:(okL qwZ) x.Bx
 Cc:(okL qsP) x.Cc
def qo1 (x:qc):Prop:=rngI x.Am∧rngI x.Ay
structure qoQ (x:qc):Prop where
 Am:okI x.Am
 Ay:okI x.Ay
theorem qrO {x:qc} (h:qo1 x):qoQ x:=⟨h.1,h.2⟩
def qi5 (x:qe):Prop:=rngI x.Bm∧qo1 x.Af∧qo1 x.Aq
structure qsb (x:qe):Prop where
 Bm:okI x.Bm
 Af:qoQ x.Af
 Aq:qoQ x.Aq
theorem qtD {x:qe} (h:qi5 x):qsb x:=⟨h.1,qrO (h.2.1),qrO (h.2.2)⟩
theorem qsx {a:qc}:Ev (fun n=>qg7 n a a) true:=by
 unfold qg7
 exact Ev.ff qby (Ev.ff qby (.done))
theorem qvR {a:qe}:Ev (fun n=>qhP n a a) true:=by
 unfold qhP
 exact Ev.ff qby (Ev.bind (qsx (a:=a.Af)) (Ev.ff rfl (Ev.bind (qsx (a:=a.Aq)) (Ev.ff rfl (.done)))))
def qeq (a:(List qe)):Nat:=a.length
theorem qsM {a:(List qe)} (h:(rngL qi5) a) (w:qeq a≤1048576):(okL qsb) a :=
 ⟨by simp only [qeq] at w;omega,fun x hx=>qtD (h.2 x hx)⟩
theorem quf {a:(List qe)} (h:qeq a≤1048576):Ev (fun n=>qiD n a a) true:=by
 have hl:a.length≤1048576:=by simp only [qeq] at h;omega
 unfold qiD
 exact Ev.ff (by simp) (Ev.bind (b:=.nxt (a.length:Int)) (qh4 (eqf:=qhP) (fun x hx=>qvR)
  (fun n=>by simp only [qe9,ql (je _),cond_false])
  (fun n j x hx=>by
   have hj:=(List.getElem?_eq_some_iff.1 hx).1
   simp only [qe9,qj hj,cond_true,qM hx,jd,wS j])) .done)
def qmh (a:(List qc)):Nat:=a.length
theorem qtu {a:(List qc)} (h:qmh a≤1048576):Ev (fun n=>qip n a a) true:=by
 have hl:a.length≤1048576:=by simp only [qmh] at h;omega
 unfold qip
 exact Ev.ff (by simp) (Ev.bind (b:=.nxt (a.length:Int)) (qh4 (eqf:=qg7) (fun x hx=>qsx)
  (fun n=>by simp only [qgm,ql (je _),cond_false])
  (fun n j x hx=>by
   have hj:=(List.getElem?_eq_some_iff.1 hx).1
   simp only [qgm,qj hj,cond_true,qM hx,jd,wS j])) .done)
def qkZ (x:qn):Nat:=qoC x.Aj+qmh x.Af+qmh x.Aq
structure qzf (x:qn):Prop where
 Aj:(okL okT) x.Aj
 Af:(okL qoQ) x.Af
 Aq:(okL qoQ) x.Aq
theorem qpe {a:qn} (h:qkZ a≤1048576):Ev (fun n=>qgB n a a) true:=by
 unfold qgB
 simp only [qkZ] at h
 exact Ev.bind (qw3 (a:=a.Aj) (by omega)) (Ev.ff rfl (Ev.bind (qtu (a:=a.Af) (by omega)) (Ev.ff rfl (Ev.bind (qtu (a:=a.Aq) (by omega)) (Ev.ff rfl (.done))))))
def qmi (x:qy):Prop:=rngS x.Az∧rngI x.Bc∧rngI x.Bf∧rngI x.Bd∧rngI x.Bg
def qlH (x:qy):Nat:=x.Az.size
structure qv3 (x:qy):Prop where
 Az:okS x.Az
 Bc:okI x.Bc
 Bf:okI x.Bf
 Bd:okI x.Bd
 Bg:okI x.Bg
theorem qtZ {x:qy} (h:qmi x) (w:qlH x≤1048576):qv3 x:=⟨(by unfold okS;simp only [qlH] at w;omega),h.2.1,h.2.2.1,h.2.2.2.1,h.2.2.2.2⟩
theorem qvJ {a:qy} {left:Int} (h:qmi a) (h0:0≤left) (h1:left≤1048576):Sz (fun n=>qjr n a left) (fun r=>r=left-(qlH a:Int)):=by
 unfold qjr
 obtain ⟨h_0,h_1,h_2,h_3,h_4⟩:=h
 exact Sz.strStep h_0 (by omega) (by omega) fun p0 q0=>Sz.done p0 (by simp only [qlH];omega)
theorem quw {a:(List qe)} {left:Int} (h:(rngL qi5) a) (h0:0≤left) (h1:left≤1048576):Sz (fun n=>qk3 n a left) (fun r=>r=left-(qeq a:Int)) :=
 Sz.less h0 h1 (by omega) (by have:=h.1;omega) (fun _=>rfl)
theorem qpj {a:qy} (_:qlH a≤1048576):Ev (fun n=>qgy n a) a:=by
 unfold qgy
 exact .done
theorem qu9 {a:qc}:Ev (fun n=>qjI n a) a:=by
 unfold qjI
 exact .done
theorem qvp {a:qe}:Ev (fun n=>qhX n a) a:=by
 unfold qhX
 exact Ev.bind (qu9 (a:=a.Af)) (Ev.bind (qu9 (a:=a.Aq)) (.done))
theorem qmr {a:(List qe)} (h:qeq a≤1048576):Ev (fun n=>qeH n a) a:=by
 have hl:a.length≤1048576:=by simp only [qeq] at h;omega
 unfold qeH
 exact Ev.bindN (qiq (by omega)) (Ev.bind (b:=(a,(a.length:Int))) (qjm (cp:=qhX) (fun x hx=>qvp)
  (fun acc n=>by simp only [qe8,ql (je _),cond_false])
  (fun acc n j x y hx hy=>by
   have hj:=(List.getElem?_eq_some_iff.1 hx).1
   simp only [qe8,qj hj,cond_true,qM hx,qM hy,jd,wS j])) .done)
end Go.Fw


namespace Go.Fw
open Go
set_option maxRecDepth 100000
abbrev lkB (b:qg):Nat:=(linksL b).length
abbrev ndB (b:qg):Nat:=2*(places b.Aa).length
abbrev lvJ (b:qg) (br:List Int):List Bool:=lvB br (lkB b)
def grB (b:qg) (br:List Int):Option Tgraph:=some ⟨some (viewV b),lvJ b br⟩
structure TgOk (b:qg) (c:qy) (br:List Int) (xs:List qe) (R:List Nat):Prop where
 bl:blockB b=true
 co:cornerB c=true
 br_:brB br (lkB b)=true
 sr:srcB xs (ndB b)=true
 or_:ordL (linksL b) (lvJ b br) (ndB b) (ndB b) []=some R
theorem TgOk.ord {b:qg} {c:qy} {br:List Int} {xs:List qe} {R:List Nat} (h:TgOk b c br xs R):OrdOk (lkB b) (frL (linksL b)) (toL (linksL b)) (lvL (lvJ b br)) (ndB b) R :=
 qx4 (ndB b) [] R (fun l1 k l2 e=>by cases l1<;>cases e) h.or_
theorem TgOk.len {b:qg} {c:qy} {br:List Int} {xs:List qe} {R:List Nat} (h:TgOk b c br xs R):R.length=ndB b:=by
 have:=qwt (ndB b) [] R h.or_
 simpa using this
theorem qvi {x:Int} (h:x ≠ 0):(x != 0)=true:=by simpa using h
theorem qzp {b:qg} {c:qy} {br:List Int} {xs:List qe} (hb:qjF b) (hc:okS c.Az) (hbl:br.length≤1048576) (hxl:xs.length≤1048576) :
  (∃ code:Int,code ≠ 0∧Ev (fun n=>qf3 n b c br xs) ([],code)∧Ev (fun n=>qfB n b c br xs none) (none,[],code)) ∨
  ∃ R,TgOk b c br xs R∧Ev (fun n=>qf3 n b c br xs) (ints R,0)∧Ev (fun n=>qfB n b c br xs none) (grB b br,ints R,0):=by
 have s1:=qlb hb
 have i1:=qq0 hb
 have s2:=ql8 (c:=c) hc
 have i2:=qpQ (c:=c) hc
 unfold qf3 qfB
 cases h1:blockB b
 ·rw [h1] at s1 i1
  exact .inl ⟨1,by omega,Ev.bind (b:=true) (Ev.bind s1 (Ev.tt rfl .done)) (Ev.tt rfl .done),Ev.bind (b:=true) (Ev.bind i1 (Ev.tt rfl .done)) (Ev.tt rfl .done)⟩
 cases h2:cornerB c
 ·rw [h1] at s1 i1
  rw [h2] at s2 i2
  exact .inl ⟨1,by omega,Ev.bind (b:=true) (Ev.bind s1 (Ev.ff rfl (Ev.bind s2 .done))) (Ev.tt rfl .done),Ev.bind (b:=true) (Ev.bind i1 (Ev.ff rfl (Ev.bind i2 .done))) (Ev.tt rfl .done)⟩
 have hpl:=qbj (qaf (qaD h1))
 have hll:=qmu h1
 have hk:=qnv h1
 have s3:=quu (br:=br) hb h1 hbl
 have i3:=qtM (v:=viewV b) (br:=br) hbl hll
 have s4:=qrF (xs:=xs) h1 hxl
 have i4:=qrq (v:=viewV b) (xs:=xs) hpl hxl
 have ev:(viewV b).links=linksL b:=rfl
 have ep:(viewV b).places=places b.Aa:=rfl
 rw [ev] at i3
 rw [ep] at i4
 rw [h1] at s1 i1
 rw [h2] at s2 i2
 have sA:Ev (fun n=>(qfg n b).bind fun r6=>bif (!r6) then some true else (qfr n c).bind fun r7=>some (!r7)) false:=Ev.bind s1 (Ev.ff rfl (Ev.bind s2 .done))
 have iA:Ev (fun n=>(qf6 n b).bind fun r6=>bif (!r6) then some true else (qfs n c).bind fun r7=>some (!r7)) false:=Ev.bind i1 (Ev.ff rfl (Ev.bind i2 .done))
 have nv:=qur h1
 cases h3:brB br (lkB b)
 ·rw [h3] at s3 i3
  exact .inl ⟨2,by omega,Ev.bind sA (Ev.ff rfl (Ev.bind (b:=true) (Ev.bind s3 (Ev.tt rfl .done)) (Ev.tt rfl .done))),
   Ev.bind iA (Ev.ff rfl (Ev.bind nv (Ev.bind (b:=false) (Ev.ff rfl .done) (Ev.ff rfl (Ev.bind (b:=true) (Ev.bind i3 (Ev.tt rfl .done)) (Ev.tt rfl .done))))))⟩
 cases h4:srcB xs (ndB b)
 ·rw [h3] at s3 i3
  rw [h4] at s4 i4
  exact .inl ⟨2,by omega,Ev.bind sA (Ev.ff rfl (Ev.bind (b:=true) (Ev.bind s3 (Ev.ff rfl (Ev.bind s4 .done))) (Ev.tt rfl .done))),
   Ev.bind iA (Ev.ff rfl (Ev.bind nv (Ev.bind (b:=false) (Ev.ff rfl .done) (Ev.ff rfl (Ev.bind (b:=true) (Ev.bind i3 (Ev.ff rfl (Ev.bind i4 .done))) (Ev.tt rfl .done))))))⟩
 have i5:=quO (v:=viewV b) (br:=br) hll h3
 rw [ev] at i5
 have s5:=qrb (ls:=linksL b) (br:=br) hll hbl
 have hlv:(lvJ b br).length=lkB b:=qs5
 have s6:=qvS (lv:=lvJ b br) hk hlv
 have i6:=qwc (b:=b) (ps:=places b.Aa) (lo:=pre (load0 b) b.Ac.length) (de:=pre (exactL b) b.Ac.length) (ex:=[]) (lv:=lvJ b br) hk hlv rfl
 rw [h3] at s3 i3
 rw [h4] at s4 i4
 have sB:Ev (fun n=>(qhv n b br).bind fun r4=>bif (r4 != 0) then some true else (qgs n b xs).bind fun r5=>some (!r5)) false:=Ev.bind s3 (Ev.ff rfl (Ev.bind s4 .done))
 have iB:Ev (fun n=>(qeF n (some (viewV b)) br).bind fun r6=>bif (!r6) then some true else (qdy n (some (viewV b)) xs).bind fun r7=>some (!r7)) false:=Ev.bind i3 (Ev.ff rfl (Ev.bind i4 .done))
 have sT:∀ r:List Int × Int,Ev (fun n=>(qhR n (ndB b:Int) (linksL b) (lvJ b br)).bind fun o=>match o with|(r6,r7)=>bif (!r7) then some (([]:List Int),(7:Int)) else some (r6,0)) r→Ev (fun n=>qeP n b br) r:=fun r hr=>by
  unfold qeP
  exact Ev.bind s3 (Ev.ff rfl (Ev.bind (qmY h1) (Ev.bind (qnl h1) (Ev.bind s5 hr))))
 cases ho:ordL (linksL b) (lvJ b br) (ndB b) (ndB b) [] with
 | none =>
  have e:ordR (linksL b) (lvJ b br) (ndB b)=([],false):=by unfold ordR;rw [ho]
  rw [e] at s6 i6
  exact .inl ⟨7,by omega,Ev.bind sA (Ev.ff rfl (Ev.bind sB (Ev.ff rfl (Ev.bind (sT ([],7) (Ev.bind s6 (Ev.tt rfl .done))) .done)))),
   Ev.bind iA (Ev.ff rfl (Ev.bind nv (Ev.bind (b:=false) (Ev.ff rfl .done) (Ev.ff rfl (Ev.bind iB (Ev.ff rfl (Ev.bind i5 (Ev.bind i6 (Ev.tt rfl .done)))))))))⟩
 | some R =>
  have e:ordR (linksL b) (lvJ b br) (ndB b)=(ints R,true):=by unfold ordR;rw [ho]
  rw [e] at s6 i6
  exact .inr ⟨R,⟨h1,h2,h3,h4,ho⟩,Ev.bind sA (Ev.ff rfl (Ev.bind sB (Ev.ff rfl (Ev.bind (sT (ints R,0) (Ev.bind s6 (Ev.ff rfl .done))) .done)))),
   Ev.bind iA (Ev.ff rfl (Ev.bind nv (Ev.bind (b:=false) (Ev.ff rfl .done) (Ev.ff rfl (Ev.bind iB (Ev.ff rfl (Ev.bind i5 (Ev.bind i6 (Ev.ff rfl .done)))))))))⟩
end Go.Fw


namespace Go.Fw
open Go
set_option maxRecDepth 100000
theorem quj (x:Int):W64 x=(x+9223372036854775808) % 18446744073709551616-9223372036854775808:=by
 unfold W64
 rw [Go.IntWalk.i64_left]
 unfold RowKit.wrap64
 rfl
theorem quS {a d e:Int}:W64 (W64 (a+d)-e)=W64 (a+W64 (d-e)):=by
 simp only [quj];omega
theorem qvU {a d e:Int}:W64 (W64 (a+d)+e)=W64 (a+W64 (d+e)):=by
 simp only [quj];omega
theorem qrM {x:Int}:W64 (W64 x)=W64 x:=by
 simp only [quj];omega
section
variable {b:qg} {c:qy} {ex:List Int} {f:Nat→qc→qc × qc} {lv:List Bool} {t:qn} {xs:List qe} {node:Int}
theorem qxJ {xs:List qe} {node:Int} (h:SrcOk xs) :
  Ev (fun n=>qdQ xs node n 0 0 0 0 0 false 0) ((srcV (srcO xs node)).2.Bm,(srcV (srcO xs node)).2.Af.Am,(srcV (srcO xs node)).2.Af.Ay,(srcV (srcO xs node)).2.Aq.Am,(srcV (srcO xs node)).2.Aq.Ay,(srcV (srcO xs node)).1,(xs.length:Int)):=by
 have e:∀ n i1 i2 i3 i4 i5 b1 i6,qdQ xs node n i1 i2 i3 i4 i5 b1 i6=qcZ xs node n i1 i2 i3 i4 i5 b1 i6:=by
  intro n
  induction n with
  | zero=>intros;rfl
  | succ n ih=>intros;simp only [qdQ,qcZ,ih]
 simp only [e]
 exact qxL h
theorem qxz (h:blockB b=true) (hex:ex.length=b.Ac.length) {k:Nat} (hk:k<(linksL b).length) {q:qc × qc} (hq:q=f k (gt t.Aq (frN (linksL b) k))) (a:qc) :
  ∃ e:Int,Ev (fun n=>bif ((gt (linksL b) k).Av==2) then (qg6 n b (gt (linksL b) k)).bind fun r4=>(idx ex r4).bind fun y18=>some y18 else some 0) e ∧
   (⟨W64 (W64 (a.Am+q.1.Am)-e),W64 (W64 (a.Ay+q.1.Ay)+e)⟩:qc)=plusS a (wideF b ex f k (gt t.Aq (frN (linksL b) k))).1∧q.2=(wideF b ex f k (gt t.Aq (frN (linksL b) k))).2:=by
 subst hq
 obtain ⟨hcs,_,hT⟩:=qg5 h (qlA hk)
 unfold wideF exK
 rcases hcs with ⟨i,j,m,net,y,hx⟩|⟨j,net,y,hx⟩
 ·have hkd:((gt (linksL b) k).Av==2)=false:=by rw [hx.kind];rfl
  rw [hkd,Bool.and_false]
  refine ⟨0,.done,?_,rfl⟩
  unfold plusS
  simp only [Int.sub_zero,Jf,cond_false]
  rw [qrM,qrM]
 ·have hkd:((gt (linksL b) k).Av==2)=true:=by rw [hx.kind];rfl
  have hlt:net<ex.length:=by have:=hx.nl;omega
  have hpl:=qbj (qaf (qaD h))
  have ej:((gt (linksL b) k).To / 2).toNat=j:=by
   have:=hx.half
   rw [jD hT.1,qJ (by omega) (by omega)] at this
   omega
  rw [hkd,decide_eq_true (show 0<ex.length by omega),Bool.and_true,ej,hx.net_,jo]
  refine ⟨gt ex net,Ev.bind (qpq h hx) ?_,?_,rfl⟩
  ·rw [qC hlt];exact .done
  ·simp only [cond_true]
   unfold plusS wideS
   rw [quS,qvU]
theorem qwM (h:blockB b=true) (hf:SpansS b c f) (hex:ex.length=b.Ac.length) (hl:lv.length=(linksL b).length) (ht:TmOk t (2*(places b.Aa).length)) (hx:SrcOk xs) :
  Ev (fun n=>qiM n b c (linksL b) lv xs ex t node) (ndS (wideF b ex f) (linksL b) lv t node (srcV (srcO xs node)) (linksL b).length):=by
 have hk:=qnv h
 have hkl:=hk.len
 obtain ⟨g,hg⟩:∃ g,g=wideF b ex f:=⟨_,rfl⟩
 have hL:=loopF (τ:=Bool × qe) (Lf:=fun n s j=>qc1 b c (linksL b) lv ex t node n s.2.Bm s.2.Af.Am s.2.Af.Ay s.2.Aq.Am s.2.Aq.Ay s.1 j) (S:=fun j=>ndS g (linksL b) lv t node (srcV (srcO xs node)) j) (len:=(linksL b).length)
  (fin:=(fun s:Bool × qe=>(s.2.Bm,s.2.Af.Am,s.2.Af.Ay,s.2.Aq.Am,s.2.Aq.Ay,s.1,((linksL b).length:Int))) (ndS g (linksL b) lv t node (srcV (srcO xs node)) (linksL b).length))
  (fun n=>by simp only [qc1,ql (je _),cond_false])
  (fun j hj X hX=>by
   obtain ⟨e1,e2⟩:=qun hk hj
   have eN:ndS g (linksL b) lv t node (srcV (srcO xs node)) (j+1)=bif toQ (linksL b) lv node j then stepS g (linksL b) t node (ndS g (linksL b) lv t node (srcV (srcO xs node)) j) j else ndS g (linksL b) lv t node (srcV (srcO xs node)) j:=rfl
   rw [eN] at hX
   generalize ndS g (linksL b) lv t node (srcV (srcO xs node)) j=s at hX ⊢
   simp only [qc1,qj hj,cond_true,qC hj,qC (show j<lv.length by omega),jd,e1,qC (show frN (linksL b) j<t.Aj.length by rw [ht.r];exact e2),qC (show frN (linksL b) j<t.Af.length by rw [ht.a];exact e2),qC (show frN (linksL b) j<t.Aq.length by rw [ht.s];exact e2),wS j]
   unfold toQ lvL toL at hX
   cases h1:gt lv j
   ·rw [h1] at hX;exact hX
   rw [h1,jz] at hX
   cases h2:(gt (linksL b) j).To==node
   ·rw [h2] at hX
    simp only [bne,h2]
    exact hX
   rw [h2] at hX
   simp only [bne,h2]
   unfold stepS at hX
   cases h3:gt t.Aj (frN (linksL b) j)
   ·rw [h3] at hX;exact hX
   rw [h3] at hX
   simp only [cond_true] at hX
   obtain ⟨_,s1⟩:=hf j _ hj (ht.sl _ e2)
   obtain ⟨q,hq⟩:∃ q,q=f j (gt t.Aq (frN (linksL b) j)):=⟨_,rfl⟩
   obtain ⟨e,x1,x2,x3⟩:=qxz h hex hj hq (gt t.Af (frN (linksL b) j))
   rw [←hq] at s1
   rw [←hg] at x2 x3
   rw [←x2,←x3] at hX
   refine Ev.bind (b:=false) (Ev.now rfl) (Ev.ff rfl (Ev.bind s1 (Ev.bind x1 ?_)))
   unfold joinS at hX
   cases h4:s.1
   ·rw [h4] at hX;exact hX
   ·rw [h4] at hX
    simp only [qkh,jd,cond_true]
    have a1:=qrZ (s:=s.2.Af) (t:=(⟨W64 (W64 ((gt t.Af (frN (linksL b) j)).Am+q.1.Am)-e),W64 (W64 ((gt t.Af (frN (linksL b) j)).Ay+q.1.Ay)+e)⟩:qc))
    have a2:=qrZ (s:=s.2.Aq) (t:=q.2)
    simp only [cond_true] at hX
    rw [←a1,←a2] at hX
    exact hX)
 rw [←hg]
 unfold qiM
 exact Ev.bind (qxJ hx) (Ev.bind hL .done)
theorem qyr {br:List Int} (h:blockB b=true) (hf:SpansS b c f) (hex:ex.length=b.Ac.length) (hbl:br.length≤1048576) (hx:SrcOk xs) {R:List Nat} (hR:∀ k,k ∈ R→k<2*(places b.Aa).length) (hRl:R.length≤1000) :
  Ev (fun n=>qjV n b c br xs ex (ints R)) (runR (rnO (wideF b ex f) (linksL b) (lvJ b br) xs R (zTm (2*(places b.Aa).length)))):=by
 have hpl:=qbj (qaf (qaD h))
 have hcn:=qnl h
 have hll:=qmu h
 have s5:=qrb (ls:=linksL b) (br:=br) hll hbl
 have hl:(lvJ b br).length=(linksL b).length:=qs5
 have hwf:∀ k s,(wideF b ex f k s).2=(f k s).2:=fun k s=>by
  unfold wideF
  cases decide (0<ex.length)&&((gt (linksL b) k).Av==2)<;>rfl
 obtain ⟨M,eM⟩:∃ M,M=2*(places b.Aa).length:=⟨_,rfl⟩
 have hM:M≤156:=by omega
 have main:∀ d j t,j+d=R.length→TmOk t M→Ev (fun n=>qch b c xs ex (ints R) (linksL b) (lvJ b br) n t.Aq t.Af t.Aj (j:Int)) (runL (rnO (wideF b ex f) (linksL b) (lvJ b br) xs (R.drop j) t) R.length):=by
  intro d
  induction d with
  | zero =>
   intro j t hj ht
   obtain rfl:j=R.length:=by omega
   rw [List.drop_length]
   refine Ev.succ ?_
   simp only [qch,qd4,ql (je _),cond_false]
   exact .done
  | succ d ih =>
   intro j t hj ht
   have hjl:j<R.length:=by omega
   have k1:=hR _ (jp hjl)
   have hi:=qoR hjl
   have hd:R.drop j=R[j]::R.drop (j+1):=jJ hjl
   generalize R[j]=k at k1 hi hd
   rw [←eM] at k1
   have hs:=qwM (node:=(k:Int)) h hf hex hl (by rw [←eM];exact ht) hx
   have hsl:=qo5 (node:=(k:Int)) (lv:=lvJ b br) h hf hwf (by rw [←eM];exact ht) hx (linksL b).length (je _)
   have ir:idx t.Aj (k:Int)=some (gt t.Aj k):=qC (by rw [ht.r];exact k1)
   have ia:idx t.Af (k:Int)=some (gt t.Af k):=qC (by rw [ht.a];exact k1)
   have is:idx t.Aq (k:Int)=some (gt t.Aq k):=qC (by rw [ht.s];exact k1)
   have stp:∀ n,qch b c xs ex (ints R) (linksL b) (lvJ b br) (n+1) t.Aq t.Af t.Aj (j:Int)=(qiM n b c (linksL b) (lvJ b br) xs ex t (k:Int)).bind fun o=>match o with
    | (r4,r5)=>bif (!r4) then qch b c xs ex (ints R) (linksL b) (lvJ b br) n t.Aq t.Af t.Aj ((j+1:Nat):Int) else bif (!spanB r5.Af) then some (.ret (zT,false)) else
     qch b c xs ex (ints R) (linksL b) (lvJ b br) n (setS t.Aq (k:Int) r5.Aq) (setS t.Af (k:Int) r5.Af) (setS t.Aj (k:Int) true) ((j+1:Nat):Int):=fun n=>by
    simp only [qch,qd4,qj hjl,cond_true,hi,jd,qrf,ir,ia,is,wS j]
    rfl
   rw [hd]
   unfold rnO
   generalize ndS (wideF b ex f) (linksL b) (lvJ b br) t (k:Int) (srcV (srcO xs (k:Int))) (linksL b).length=s at hs hsl ⊢
   obtain ⟨s1,s2⟩:=s
   cases s1
   ·exact Ev.step stp (Ev.bind hs (ih (j+1) t (by omega) ht))
   ·cases hsp:spanB s2.Af
    ·refine Ev.step stp (Ev.bind hs ?_)
     simp only [hsp];exact .done
    ·refine Ev.step stp (Ev.bind hs ?_)
     simp only [hsp]
     exact ih (j+1) (setT t k (true,s2)) (by omega) (qsr ht k1 hsl)
 have hm1:mkS (M:Int) false=some (List.replicate M false):=qnA (by omega)
 have hm2:mkS (M:Int) (⟨0,0⟩:qc)=some (List.replicate M zSp):=qnA (by omega)
 have o2:=main R.length 0 (zTm M) (by omega) quY
 rw [List.drop_zero] at o2
 rw [←eM] at hcn ⊢
 unfold qjV qlB
 refine Ev.bind (qmY h) (Ev.bind s5 (Ev.bind hcn ?_))
 simp only [hm1,hm2,jd]
 refine Ev.bind o2 ?_
 cases rnO (wideF b ex f) (linksL b) (lvJ b br) xs R (zTm M)<;>exact .done
end
end Go.Fw


namespace Go.Fw
open Go
set_option maxRecDepth 100000
instance:Inhabited qjh:=⟨⟨0,0,0⟩⟩
end Go.Fw


namespace Go.Fw
open Go
set_option maxRecDepth 100000
theorem qwk {a M:Nat}:(((a:Int)) != (M:Int)) = !(a==M):=by
 rw [jk]
 simp only [bne_iff_ne,ne_eq,jG,beq_eq_false_iff_ne]
 omega
section
variable {b:qg} {t:qn} {net:Int}
end
section
variable {b:qg} {t:qn} {ks:List qjh}
end
section
variable {b:qg} {ks:List qjh} {used:List Int}
end
end Go.Fw


namespace Go.Fw
open Go
set_option maxRecDepth 100000
theorem qyV {b:qg} {c:qy} {br:List Int} {xs:List qe} (hb:qjF b) (hc:okS c.Az) (h:(blockB b&&cornerB c)=false):Ev (fun n=>qf3 n b c br xs) ([],1):=by
 have s1:=qlb hb
 have s2:=ql8 (c:=c) hc
 unfold qf3
 cases h1:blockB b
 ·rw [h1] at s1
  exact Ev.bind (b:=true) (Ev.bind s1 (Ev.tt rfl .done)) (Ev.tt rfl .done)
 ·rw [h1] at s1 h
  have h2:cornerB c=false:=h
  rw [h2] at s2
  exact Ev.bind (b:=true) (Ev.bind s1 (Ev.ff rfl (Ev.bind s2 .done))) (Ev.tt rfl .done)
theorem qx9 {b:qg} {c:qy} {f g:Nat→qc→qc × qc} {lv:List Bool} {xs:List qe} (h:blockB b=true) (hg:SpansS b c g) (hgf:∀ k s,(f k s).2=(g k s).2) (hx:SrcOk xs):∀ (R:List Nat) (t t':qn),(∀ k,k ∈ R→k<2*(places b.Aa).length)→TmOk t (2*(places b.Aa).length)→rnO f (linksL b) lv xs R t=some t'→TmOk t' (2*(places b.Aa).length):=by
 intro R
 induction R with
 | nil=>intro t t' _ ht e;obtain rfl:=Option.some.inj e;exact ht
 | cons k R ih =>
  intro t t' hR ht e
  have hsl:=qo5 (node:=(k:Int)) (lv:=lv) h hg hgf ht hx (linksL b).length (je _)
  unfold rnO at e
  cases h1:(ndS f (linksL b) lv t (k:Int) (srcV (srcO xs (k:Int))) (linksL b).length).1
  ·rw [h1] at e
   exact ih _ _ (fun i hi=>hR i (jn _ hi)) ht e
  ·rw [h1] at e
   cases h2:spanB (ndS f (linksL b) lv t (k:Int) (srcV (srcO xs (k:Int))) (linksL b).length).2.Af
   ·rw [h2] at e;cases e
   ·rw [h2] at e
    exact ih _ _ (fun i hi=>hR i (jn _ hi)) (qsr ht (hR k (jw ..)) hsl) e
section
variable {b:qg} {c:qy} {br:List Int} {xs:List qe} {ex:List Int}
theorem qxW {R:List Nat} (hg:TgOk b c br xs R) (hbl:br.length≤1048576) (hxl:xs.length≤1048576) (hex:ex.length=b.Ac.length) :
  ∃ o:Option qn,(∀ t,o=some t→TmOk t (ndB b))∧Ev (fun n=>qjV n b c br xs ex (ints R)) (runR o)∧Ev (fun n=>qdr n (some ⟨some (viewE b ex),lvJ b br⟩) c xs (ints R)) (runR o):=by
 have h1:=hg.bl
 obtain ⟨f,hf,hfi⟩:=qxp h1 hg.co
 have hpl:=qbj (qaf (qaD h1))
 have hRl:=hg.len
 have hR1:R.length≤1000:=by rw [hRl];show 2*(places b.Aa).length≤1000;omega
 have hRb:∀ k,k ∈ R→k<2*(places b.Aa).length:=fun k hk=>by
  obtain ⟨i,hi,rfl⟩:=List.mem_iff_getElem.1 hk
  exact (hg.ord.at hi).1
 have hwf:∀ k s,(wideF b ex f k s).2=(f k s).2:=fun k s=>by
  unfold wideF
  cases decide (0<ex.length)&&((gt (linksL b) k).Av==2)<;>rfl
 have hsx:=qyc hxl hg.sr
 have o2:=qyr (R:=R) h1 hf hex hbl hsx hRb hR1
 have o3:=qxS (lv:=lvJ b br) (R:=R) h1 hf hwf (hfi ex (.inr hex)) qs5 hsx (fun i hi=>⟨(hg.ord.at hi).1,(hg.ord.at hi).2.1⟩) hR1
 refine ⟨_,fun t ht=>?_,o2,o3⟩
 exact qx9 h1 hf hwf hsx R (zTm (2*(places b.Aa).length)) t hRb quY ht
theorem qnX (hb:qjF b) (hc:okS c.Az) (hbl:br.length≤1048576) (hxl:xs.length≤1048576) (hel:ex.length≤1048576) :
  ∃ R:qn × Int,(R.1.Aj.length≤156∧R.1.Af.length≤156∧R.1.Aq.length≤156)∧Ev (fun n=>qc7 n b c br xs ex) R∧Ev (fun n=>qca n b c br xs ex) R:=by
 have s1:=qlb hb
 have i1:=qq0 hb
 have s2:=ql8 (c:=c) hc
 have i2:=qpQ (c:=c) hc
 have tg:=qzp (br:=br) (xs:=xs) hb hc hbl hxl
 have hz:∀ code:Int,((zT,code):qn × Int).1.Aj.length≤156∧((zT,code):qn × Int).1.Af.length≤156∧((zT,code):qn × Int).1.Aq.length≤156:=fun _=>⟨Nat.zero_le _,Nat.zero_le _,Nat.zero_le _⟩
 unfold qc7 qca
 cases h0:blockB b&&cornerB c
 ·have hbad:=qyV (br:=br) (xs:=xs) hb hc h0
  rcases tg with ⟨code,hne,hs,hi⟩|⟨R,hg,_⟩
  ·have e:code=1:=congrArg Prod.snd (hs.uniq hbad)
   subst e
   refine ⟨(zT,1),hz 1,Ev.bind (b:=true) ?_ (Ev.tt rfl .done),Ev.bind (b:=false) ?_ (Ev.ff rfl (Ev.bind hi (Ev.tt rfl .done)))⟩
   ·cases h1:blockB b
    ·rw [h1] at s1;exact Ev.bind s1 (Ev.tt rfl .done)
    ·rw [h1] at s1 h0
     have h2:cornerB c=false:=h0
     rw [h2] at s2
     exact Ev.bind s1 (Ev.ff rfl (Ev.bind s2 .done))
   ·cases h1:blockB b
    ·rw [h1] at i1;exact Ev.bind i1 (Ev.ff rfl .done)
    ·rw [h1] at i1 h0
     have h2:cornerB c=false:=h0
     rw [h2] at i2
     exact Ev.bind i1 (Ev.tt rfl (Ev.bind i2 (Ev.ff rfl .done)))
  ·rw [hg.bl,hg.co] at h0;cases h0
 ·rw [jf] at h0
  obtain ⟨h1,h2⟩:=h0
  rw [h1] at s1 i1
  rw [h2] at s2 i2
  have hwl:=qk2 h1
  have hw:b.Ac.length=b.Aa.Ai.length:=by omega
  have sA:Ev (fun n=>(qfg n b).bind fun r1=>bif (!r1) then some true else (qfr n c).bind fun r2=>some (!r2)) false:=Ev.bind s1 (Ev.ff rfl (Ev.bind s2 .done))
  cases h3:ex.length==b.Aa.Ai.length
  ·have h4:((ex.length:Int) != (b.Aa.Ai.length:Int))=true:=by rw [qwk,h3];rfl
   refine ⟨(zT,2),hz 2,Ev.bind sA (Ev.ff rfl (Ev.tt h4 .done)),Ev.bind (b:=true) (Ev.bind i1 (Ev.tt rfl (Ev.bind i2 (Ev.tt rfl (Ev.tt ?_ .done))))) (Ev.tt rfl .done)⟩
   rw [hw];exact h4
  ·have h4:((ex.length:Int) != (b.Aa.Ai.length:Int))=false:=by rw [qwk,h3];rfl
   have h4':((ex.length:Int) != (b.Ac.length:Int))=false:=by rw [hw];exact h4
   have hL:Ev (fun n=>qbc ex n 0) (bif allN (fun j=>inI (gt ex j) 0 1000000000) ex.length then .nxt (ex.length:Int) else .ret (zT,2)):=by
    refine qd8 (Lf:=qbc ex) (len:=ex.length) (Ev.succ (by simp only [qbc,ql (je _),cond_false];exact .done)) (fun j hj X hX=>Ev.succ ?_)
    simp only [qbc,qj hj,cond_true,qC hj,jd,qcK,wS j]
    cases inI (gt ex j) 0 1000000000
    ·exact .done
    ·exact hX
   have hA:=qfc (xs:=ex) (lo:=0) (hi:=1000000000) hel
   have eA:(ex.all fun x=>inI x 0 1000000000)=allN (fun j=>inI (gt ex j) 0 1000000000) ex.length:=by
    rw [jk,qav,jM]
    constructor
    ·intro h i hi;rw [qfu hi];exact h _ (jp hi)
    ·intro h x hx
     obtain ⟨i,hi,rfl⟩:=List.mem_iff_getElem.1 hx
     rw [←qfu hi];exact h i hi
   rw [eA] at hA
   cases h5:allN (fun j=>inI (gt ex j) 0 1000000000) ex.length
   ·rw [h5] at hL hA
    exact ⟨(zT,2),hz 2,Ev.bind sA (Ev.ff rfl (Ev.ff h4 (Ev.bind hL .done))),Ev.bind (b:=true) (Ev.bind i1 (Ev.tt rfl (Ev.bind i2 (Ev.tt rfl (Ev.ff h4' (Ev.bind hA .done)))))) (Ev.tt rfl .done)⟩
   ·rw [h5] at hL hA
    have iA:Ev (fun n=>(qf6 n b).bind fun r1=>bif r1 then (qfs n c).bind fun r2=>bif r2 then bif ((ex.length:Int) != (b.Ac.length:Int)) then some true else (qbD n ex 0 1000000000).bind fun r3=>some (!r3) else some false else some false) false :=
     Ev.bind i1 (Ev.tt rfl (Ev.bind i2 (Ev.tt rfl (Ev.ff h4' (Ev.bind hA .done)))))
    rcases tg with ⟨code,hne,hs,hi⟩|⟨R,hg,hs,hi⟩
    ·exact ⟨(zT,code),hz code,Ev.bind sA (Ev.ff rfl (Ev.ff h4 (Ev.bind hL (Ev.bind hs (Ev.tt (qvi hne) .done))))),Ev.bind iA (Ev.ff rfl (Ev.bind hi (Ev.tt (qvi hne) .done)))⟩
    ·obtain ⟨o,o1,o2,o3⟩:=qxW (ex:=ex) hg hbl hxl (by rw [beq_iff_eq] at h3;omega)
     have hpl:=qbj (qaf (qaD h1))
     cases o with
     | none =>
      refine ⟨(zT,3),hz 3,Ev.bind sA (Ev.ff rfl (Ev.ff h4 (Ev.bind hL (Ev.bind hs (Ev.ff rfl (Ev.bind o2 (Ev.tt rfl .done))))))),Ev.bind iA (Ev.ff rfl (Ev.bind hi ?_))⟩
      unfold grB viewV viewE
      dsimp only
      exact Ev.bind o3 (Ev.tt rfl .done)
     | some t =>
      have ht:=o1 t rfl
      have hr:=ht.r
      have ha:=ht.a
      have hsl:=ht.s
      have eM:ndB b=2*(places b.Aa).length:=rfl
      refine ⟨(t,0),⟨by show t.Aj.length≤156;omega,by show t.Af.length≤156;omega,by show t.Aq.length≤156;omega⟩,Ev.bind sA (Ev.ff rfl (Ev.ff h4 (Ev.bind hL (Ev.bind hs (Ev.ff rfl (Ev.bind o2 (Ev.ff rfl .done))))))),Ev.bind iA (Ev.ff rfl (Ev.bind hi ?_))⟩
      unfold grB viewV viewE
      dsimp only
      exact Ev.bind o3 (Ev.ff rfl .done)
end
end Go.Fw


namespace Go.Fw
open Go Go.Proofs
open Go.RowKit (Below)
set_option maxRecDepth 100000
set_option maxHeartbeats 1600000
variable {n:Nat} {w:World} {cs1 cs2 cs3 cs4 cs5 cs6 cs7 cs8 cs9:List Value}
def qfF:Nat→Int→ByteArray→Option (Int × ByteArray)
 | 0,_,_=>none
 | n+1,i1,z1 =>
  bif decide (i1 > 0) then
   (catB (strOf ([(⟨IntKind.wrap .u8 (W64 (48+(i1.tmod 10)))⟩:IntK .u8)]:List (IntK .u8))) z1).bind fun z2 =>
   qfF n (W64 (i1.tdiv 10)) z2
  else
   some (i1,z1)
def qei (n:Nat) (k:Int):Option ByteArray :=
 bif decide (k≤0) then some (⟨#[109,48]⟩:ByteArray) else
 (qfF n k (⟨#[]⟩:ByteArray)).bind fun o=>match o with
 | (_,z1) =>
  (catB (⟨#[109]⟩:ByteArray) z1).bind fun z3 =>
  some z3
theorem qfC {k:Int}  {r:ByteArray} (hF:qei n k=some r):RetV Tryz.prog 212 [.int .i64 k] w r:=by
 refine zV 20 Tryz.func212 rfl fun h=>X0 10 rfl (qh rfl hF ?_ ?_)<;>intro hF
 ·refine X0 4 rfl ?_
  obtain rfl:=qb hF
  exact qab qa (ρ:=ByteArray) [_] h ⟨rfl,trivial⟩ (quN _ _)
 refine X0 6 rfl ?_
 obtain ⟨o1,hF,hK1⟩:=qd hF
 refine qm (rL (fun m e w'=>∃ (i1:Int) (z1:ByteArray),qfF m i1 z1=some o1∧e=[(0,.int .i64 i1),(3,.string z1)]∧SH w w' []) n ⟨_,_,hF,rfl,h⟩ rfl ?_)
 rintro m1 e1 w1 ⟨i1,z1,hF,rfl,h⟩
 rcases m1 with _|m1
 ·cases hF
 refine X0 6 rfl (qh rfl hF ?_ ?_)<;>intro hF
 ·refine X0 8 rfl (qU qa [.tmp 11] _ ([(⟨IntKind.wrap .u8 (W64 (48+(i1.tmod 10)))⟩:IntK .u8)]:List (IntK .u8)) h rfl rfl rfl rfl rfl rfl rfl rfl rfl ⟨rfl,trivial⟩ rfl fun w2 p1 S1 h=>r_v (qyl qa (h.sl 0 rfl).1 (h.sl 0 rfl).2 rfl ⟨rfl,rfl⟩ ⟨rfl,rfl⟩ rfl rfl) rfl (zp1 rfl ?_))
  obtain ⟨z2,hx1,hF⟩:=qd hF
  obtain ⟨g1,hx1⟩:=qrR hx1
  refine r_v (qyH g1 rfl rfl) rfl ?_
  rw [hx1]
  refine X0 8 rfl ?_
  replace h:=h.pick [] rfl
  exact rK ⟨_,_,hF,rfl,h⟩ rfl
 refine qq rfl ?_
 obtain rfl:=qb hF;replace hF:=hK1
 refine X0 3 rfl ?_
 obtain ⟨z3,hx2,hF⟩:=qd hF
 obtain ⟨g2,hx2⟩:=qrR hx2
 refine r_v (qyH g2 rfl rfl) rfl ?_
 rw [hx2]
 refine X0 2 rfl ?_
 obtain rfl:=qb hF
 exact qab qa (ρ:=ByteArray) [_] h ⟨rfl,trivial⟩ (quN _ _)
def qep (a:(List qal)):Nat→(List qal)→Int→Int→Option ((List qal) × Int × Int)
 | 0,_,_,_=>none
 | n+1,x1,i1,i2 =>
  bif decide (i2<(a.length:Int)) then
   (qei n i1).bind fun r1 =>
   (idx x1 i2).bind fun y1 =>
   (idx (setS x1 i2 ({ y1 with Az:=r1 })) i2).bind fun y2 =>
   (idx (setS (setS x1 i2 ({ y1 with Az:=r1 })) i2 ({ y2 with Br:=W64 (i1+1) })) i2).bind fun y3 =>
   (idx (setS (setS (setS x1 i2 ({ y1 with Az:=r1 })) i2 ({ y2 with Br:=W64 (i1+1) })) i2 ({ y3 with Bo:=W64 ((W64 (i1+1))+1) })) i2).bind fun y4 =>
   qep a n (setS (setS (setS (setS x1 i2 ({ y1 with Az:=r1 })) i2 ({ y2 with Br:=W64 (i1+1) })) i2 ({ y3 with Bo:=W64 ((W64 (i1+1))+1) })) i2 ({ y4 with Bn:=(((W64 ((W64 ((W64 (i1+1))+1))+1)).tmod 3)==0) })) (W64 ((W64 ((W64 ((W64 (i1+1))+1))+1))+1)) (W64 (i2+1))
  else
   some (x1,i1,i2)
def qly (n:Nat) (a:(List qal)) (k:Int):Option (Int × (List qal)) :=
 (qep a n a k 0).bind fun o=>match o with
 | (x1,i1,_) =>
  some (i1,x1)
theorem qoq {n:Nat} {w0 w:World} {F:List Ch} {a:(List qal)} {k:Int} {S1:Nat→Prop} {p1:Option Addr} {ln1 k1:Nat} (h:SH w0 w (Ch.own S1 (a:List qal) [.slice p1 ln1 k1]::F)) {r:(Int × (List qal))} (hF:qly n a k=some r):RetN Tryz.prog 213 [.slice p1 ln1 k1,.int .i64 k] w (fun w'=>∃ Z0:Nat→Prop,SH w0 w' (Ch.own Z0 (r.2:List qal) [.slice p1 ln1 k1]::F)) r.1:=by
 refine qbH Tryz.func213 rfl (m:=44) rfl rfl ?_
 obtain rfl:=(h.sl 0 rfl).2
 refine X0 9 rfl ?_
 obtain ⟨o1,hF,hK1⟩:=qd hF
 refine qm (rL (fun m e w'=>∃ (x1:(List qal)) (i1:Int) (i2:Int),qep a m x1 i1 i2=some o1∧e=[(0,.slice p1 a.length k1),(1,.int .i64 i1),(5,.int .i64 i2)]∧SH w0 w' (Ch.own S1 (x1:List qal) [.slice p1 a.length k1]::F)) n ⟨_,_,_,hF,rfl,h⟩ rfl ?_)
 rintro m1 e1 w1 ⟨x1,i1,i2,hF,rfl,h⟩
 rcases m1 with _|m1
 ·cases hF
 refine X0 8 rfl (qh rfl hF ?_ ?_)<;>intro hF
 ·refine X0 8 rfl (zcS h hF qfC rfl fun r1 w2 h hF=>?_)
  obtain ⟨y1,hy1,hF,he1,b1,_,q1,cs1,hp1,hq1,hr2,hc2⟩:=(h.sl 0 rfl).1.ix hF
  obtain rfl:=qaX hr2
  refine zx hp1 hq1 ⟨he1.1,qD he1.2.1 (h.sl 0 rfl).2⟩ rfl (zp1 rfl (qau qa 0 0 ({ y1 with Az:=r1 }:qal) h rfl hy1 hp1 hq1 (qd5 y1) hc2 rfl rfl rfl (qd5 ({ y1 with Az:=r1 })) rfl rfl rfl fun w3 h=>X0 12 rfl ?_))
  obtain ⟨y2,hy2,hF,he2,b2,_,q2,cs2,hp2,hq2,hr3,hc3⟩:=(h.sl 0 rfl).1.ix hF
  obtain rfl:=qaX hr3
  refine zx hp2 hq2 ⟨he2.1,qD he2.2.1 (h.sl 0 rfl).2⟩ rfl (zp1 rfl (qau qa 0 1 ({ y2 with Br:=W64 (i1+1) }:qal) h rfl hy2 hp2 hq2 (qd5 y2) hc3 rfl rfl rfl (qd5 ({ y2 with Br:=W64 (i1+1) })) rfl rfl rfl fun w4 h=>X0 12 rfl ?_))
  obtain ⟨y3,hy3,hF,he3,b3,_,q3,cs3,hp3,hq3,hr4,hc4⟩:=(h.sl 0 rfl).1.ix hF
  obtain rfl:=qaX hr4
  refine zx hp3 hq3 ⟨he3.1,qD he3.2.1 (h.sl 0 rfl).2⟩ rfl (zp1 rfl (qau qa 0 2 ({ y3 with Bo:=W64 ((W64 (i1+1))+1) }:qal) h rfl hy3 hp3 hq3 (qd5 y3) hc4 rfl rfl rfl (qd5 ({ y3 with Bo:=W64 ((W64 (i1+1))+1) })) rfl rfl rfl fun w5 h=>X0 14 rfl ?_))
  obtain ⟨y4,hy4,hF,he4,b4,_,q4,cs4,hp4,hq4,hr5,hc5⟩:=(h.sl 0 rfl).1.ix hF
  obtain rfl:=qaX hr5
  exact zx hp4 hq4 ⟨he4.1,qD he4.2.1 (h.sl 0 rfl).2⟩ rfl (zp1 rfl (qau qa 0 3 ({ y4 with Bn:=(((W64 ((W64 ((W64 (i1+1))+1))+1)).tmod 3)==0) }:qal) h rfl hy4 hp4 hq4 (qd5 y4) hc5 rfl rfl rfl (qd5 ({ y4 with Bn:=(((W64 ((W64 ((W64 (i1+1))+1))+1)).tmod 3)==0) })) rfl rfl rfl fun w6 h=>X0 12 rfl (rK ⟨_,_,_,hF,rfl,h⟩ rfl)))
 refine qq rfl ?_
 obtain rfl:=qb hF;replace hF:=hK1
 refine X0 5 rfl ?_
 obtain rfl:=qb hF
 exact qhH qa ⟨_,h⟩ ⟨rfl,trivial⟩
def qdi (a:(List qt)):Nat→(List qt)→Int→Int→Option ((List qt) × Int × Int)
 | 0,_,_,_=>none
 | n+1,x1,i1,i2 =>
  bif decide (i2<(a.length:Int)) then
   (idx x1 i2).bind fun y1 =>
   (qaK n y1.Bi i1).bind fun o=>match o with
    | (r1,x2) =>
     (qaK n y1.Bb r1).bind fun o=>match o with
      | (r2,x3) =>
       (qaK n y1.Ba r2).bind fun o=>match o with
        | (r3,x4) =>
         qdi a n (setS x1 i2 (⟨x2,x3,x4⟩:qt)) r3 (W64 (i2+1))
  else
   some (x1,i1,i2)
def qh1 (n:Nat) (a:(List qt)) (k:Int):Option (Int × (List qt)) :=
 (qdi a n a k 0).bind fun o=>match o with
 | (x1,i1,_) =>
  some (i1,x1)
theorem qj4 {n:Nat} {w0 w:World} {F:List Ch} {a:(List qt)} {k:Int} {S1:Nat→Prop} {p1:Option Addr} {ln1 k1:Nat} (h:SH w0 w (Ch.own S1 (a:List qt) [.slice p1 ln1 k1]::F)) {r:(Int × (List qt))} (hF:qh1 n a k=some r):RetN Tryz.prog 257 [.slice p1 ln1 k1,.int .i64 k] w (fun w'=>∃ Z0:Nat→Prop,SH w0 w' (Ch.own Z0 (r.2:List qt) [.slice p1 ln1 k1]::F)) r.1:=by
 refine qbH Tryz.func257 rfl (m:=34) rfl rfl ?_
 obtain rfl:=(h.sl 0 rfl).2
 refine X0 9 rfl ?_
 obtain ⟨o1,hF,hK1⟩:=qd hF
 refine qm (rL (fun m e w'=>∃ (S2:Nat→Prop) (x1:(List qt)) (i1:Int) (i2:Int),qdi a m x1 i1 i2=some o1∧e=[(0,.slice p1 a.length k1),(1,.int .i64 i1),(5,.int .i64 i2)]∧SH w0 w' (Ch.own S2 (x1:List qt) [.slice p1 a.length k1]::F)) n ⟨_,_,_,_,hF,rfl,h⟩ rfl ?_)
 rintro m1 e1 w1 ⟨S2,x1,i1,i2,hF,rfl,h⟩
 rcases m1 with _|m1
 ·cases hF
 refine X0 8 rfl (qh rfl hF ?_ ?_)<;>intro hF
 ·refine X0 7 rfl ?_
  obtain ⟨y1,hy1,hF⟩:=qd hF
  have he1:=qcI hy1
  obtain ⟨S3,S4,cs1,h⟩:=h.take hy1
  obtain ⟨p2,k2,p3,k3,p4,k4,rfl,-,-,-⟩:=qaG (h.own 0 rfl)
  obtain ⟨S5,S6,S7,h⟩:=qsX h
  obtain ⟨b1,hp1,-,-,hl2⟩:=h.holeAt 3 rfl
  obtain ⟨q1,hq1⟩:∃ q,q=0+(i2).toNat*GoT.k qt:=⟨_,rfl⟩
  refine zx hp1 hq1 ⟨he1.1,qD he1.2.1 hl2⟩ rfl (zp1 rfl (zc 0 (qcH h 3 rfl hp1 hq1) rfl (zp1 rfl ?_)))
  replace h:=h.pickT 4 [2,0,1,3] rfl
  obtain ⟨o2,hr1,hF⟩:=qd hF
  obtain ⟨r1,x2⟩:=o2
  refine qbP r1 (cB 22 rfl) (qaM h hr1) rfl rfl rfl rfl ?_
  rintro w2 ⟨S8,h⟩
  refine X0 6 rfl ?_
  obtain ⟨b2,hp2,-,-,hl4⟩:=h.holeAt 3 rfl
  obtain ⟨q2,hq2⟩:∃ q,q=0+(i2).toNat*GoT.k qt:=⟨_,rfl⟩
  refine zx hp2 hq2 ⟨he1.1,qD he1.2.1 hl4⟩ rfl (zp1 rfl (zc 1 (qcH h 3 rfl hp2 hq2) rfl (zp1 rfl ?_)))
  replace h:=h.pickT 4 [2,0,1,3] rfl
  obtain ⟨o3,hr2,hF⟩:=qd hF
  obtain ⟨r2,x3⟩:=o3
  refine qbP r2 (cB 22 rfl) (qaM h hr2) rfl rfl rfl rfl ?_
  rintro w3 ⟨S9,h⟩
  refine X0 5 rfl ?_
  obtain ⟨b3,hp3,-,-,hl6⟩:=h.holeAt 3 rfl
  obtain ⟨q3,hq3⟩:∃ q,q=0+(i2).toNat*GoT.k qt:=⟨_,rfl⟩
  refine zx hp3 hq3 ⟨he1.1,qD he1.2.1 hl6⟩ rfl (zp1 rfl (zc 2 (qcH h 3 rfl hp3 hq3) rfl (zp1 rfl ?_)))
  replace h:=h.pickT 4 [2,0,1,3] rfl
  obtain ⟨o4,hr3,hF⟩:=qd hF
  obtain ⟨r3,x4⟩:=o4
  refine qbP r3 (cB 22 rfl) (qaM h hr3) rfl rfl rfl rfl ?_
  rintro w4 ⟨S10,h⟩
  refine X0 8 rfl ?_
  obtain ⟨S11,h⟩:=h.gatherT 4 [3] (qsh (⟨x2,x3,x4⟩:qt) h (qap 2 h rfl) (qap 1 h rfl) (qap 0 h rfl) (by rfl) (by rfl)) rfl
  replace h:=h.put
  obtain ⟨S12,h⟩:=qpw (S:=_) h
  exact rK ⟨_,_,_,_,hF,rfl,h⟩ rfl
 refine qq rfl ?_
 obtain rfl:=qb hF;replace hF:=hK1
 refine X0 5 rfl ?_
 obtain rfl:=qb hF
 exact qhH qa ⟨_,h⟩ ⟨rfl,trivial⟩
def qeB (a:(List qG)):Nat→(List qG)→Int→Int→Option ((List qG) × Int × Int)
 | 0,_,_,_=>none
 | n+1,x1,i1,i2 =>
  bif decide (i2<(a.length:Int)) then
   (idx x1 i2).bind fun y1 =>
   (qh1 n y1.Bj (W64 ((W64 ((W64 ((W64 (i1+1))+1))+1))+1))).bind fun o=>match o with
    | (r1,x2) =>
     (qh1 n y1.Aq r1).bind fun o=>match o with
      | (r2,x3) =>
       qeB a n (setS x1 i2 (⟨i1,W64 (i1+1),W64 ((W64 (i1+1))+1),W64 ((W64 ((W64 (i1+1))+1))+1),x2,x3⟩:qG)) r2 (W64 (i2+1))
  else
   some (x1,i1,i2)
def qlC (n:Nat) (a:(List qG)) (k:Int):Option (Int × (List qG)) :=
 (qeB a n a k 0).bind fun o=>match o with
 | (x1,i1,_) =>
  some (i1,x1)
theorem qoy {n:Nat} {w0 w:World} {F:List Ch} {a:(List qG)} {k:Int} {S1:Nat→Prop} {p1:Option Addr} {ln1 k1:Nat} (h:SH w0 w (Ch.own S1 (a:List qG) [.slice p1 ln1 k1]::F)) {r:(Int × (List qG))} (hF:qlC n a k=some r):RetN Tryz.prog 214 [.slice p1 ln1 k1,.int .i64 k] w (fun w'=>∃ Z0:Nat→Prop,SH w0 w' (Ch.own Z0 (r.2:List qG) [.slice p1 ln1 k1]::F)) r.1:=by
 refine qbH Tryz.func214 rfl (m:=55) rfl rfl ?_
 obtain rfl:=(h.sl 0 rfl).2
 refine X0 9 rfl ?_
 obtain ⟨o1,hF,hK1⟩:=qd hF
 refine qm (rL (fun m e w'=>∃ (S2:Nat→Prop) (x1:(List qG)) (i1:Int) (i2:Int),qeB a m x1 i1 i2=some o1∧e=[(0,.slice p1 a.length k1),(1,.int .i64 i1),(5,.int .i64 i2)]∧SH w0 w' (Ch.own S2 (x1:List qG) [.slice p1 a.length k1]::F)) n ⟨_,_,_,_,hF,rfl,h⟩ rfl ?_)
 rintro m1 e1 w1 ⟨S2,x1,i1,i2,hF,rfl,h⟩
 rcases m1 with _|m1
 ·cases hF
 refine X0 8 rfl (qh rfl hF ?_ ?_)<;>intro hF
 ·refine X0 8 rfl ?_
  obtain ⟨y1,hy1,hF⟩:=qd hF
  have he1:=qcI hy1
  obtain ⟨S3,S4,cs1,h⟩:=h.take hy1
  obtain ⟨p2,k2,p3,k3,rfl,-,-⟩:=qai (h.own 0 rfl)
  obtain ⟨S5,S6,h⟩:=quI h
  obtain ⟨b1,hp1,-,-,hl2⟩:=h.holeAt 2 rfl
  obtain ⟨q1,hq1⟩:∃ q,q=0+(i2).toNat*GoT.k qG:=⟨_,rfl⟩
  refine zx hp1 hq1 ⟨he1.1,qD he1.2.1 hl2⟩ rfl (zp1 rfl (qg3 qa 2 0 h rfl hp1 hq1 rfl rfl rfl rfl rfl rfl fun w2 h=>?_))
  replace h:SH _ _ (Ch.own S6 (y1.Aq:List qt) [.slice p3 y1.Aq.length k3]::Ch.own S5 (y1.Bj:List qt) [.slice p2 y1.Bj.length k2]::Ch.hole S4 (x1:List qG) p1 a.length k1 (i2).toNat [.int .i64 i1,.int .i64 y1.Be,.int .i64 y1.To,.int .i64 y1.Bl,.slice p2 y1.Bj.length k2,.slice p3 y1.Aq.length k3]::F):=h
  refine X0 12 rfl ?_
  obtain ⟨b2,hp2,-,-,hl4⟩:=h.holeAt 2 rfl
  obtain ⟨q2,hq2⟩:∃ q,q=0+(i2).toNat*GoT.k qG:=⟨_,rfl⟩
  refine zx hp2 hq2 ⟨he1.1,qD he1.2.1 hl4⟩ rfl (zp1 rfl (qg3 qa 2 1 h rfl hp2 hq2 rfl rfl rfl rfl rfl rfl fun w3 h=>X0 12 rfl ?_))
  obtain ⟨b3,hp3,-,-,hl6⟩:=h.holeAt 2 rfl
  obtain ⟨q3,hq3⟩:∃ q,q=0+(i2).toNat*GoT.k qG:=⟨_,rfl⟩
  refine zx hp3 hq3 ⟨he1.1,qD he1.2.1 hl6⟩ rfl (zp1 rfl (qg3 qa 2 2 h rfl hp3 hq3 rfl rfl rfl rfl rfl rfl fun w4 h=>X0 12 rfl ?_))
  obtain ⟨b4,hp4,-,-,hl8⟩:=h.holeAt 2 rfl
  obtain ⟨q4,hq4⟩:∃ q,q=0+(i2).toNat*GoT.k qG:=⟨_,rfl⟩
  refine zx hp4 hq4 ⟨he1.1,qD he1.2.1 hl8⟩ rfl (zp1 rfl (qg3 qa 2 3 h rfl hp4 hq4 rfl rfl rfl rfl rfl rfl fun w5 h=>?_))
  replace h:SH _ _ (Ch.own S6 (y1.Aq:List qt) [.slice p3 y1.Aq.length k3]::Ch.own S5 (y1.Bj:List qt) [.slice p2 y1.Bj.length k2]::Ch.hole S4 (x1:List qG) p1 a.length k1 (i2).toNat [.int .i64 i1,.int .i64 (W64 (i1+1)),.int .i64 (W64 ((W64 (i1+1))+1)),.int .i64 (W64 ((W64 ((W64 (i1+1))+1))+1)),.slice p2 y1.Bj.length k2,.slice p3 y1.Aq.length k3]::F):=h
  refine X0 11 rfl ?_
  obtain ⟨b5,hp5,-,-,hl10⟩:=h.holeAt 2 rfl
  obtain ⟨q5,hq5⟩:∃ q,q=0+(i2).toNat*GoT.k qG:=⟨_,rfl⟩
  refine zx hp5 hq5 ⟨he1.1,qD he1.2.1 hl10⟩ rfl (zp1 rfl (zc 4 (qcH h 2 rfl hp5 hq5) rfl (zp1 rfl ?_)))
  replace h:=h.pickT 3 [1,0,2] rfl
  obtain ⟨o2,hr1,hF⟩:=qd hF
  obtain ⟨r1,x2⟩:=o2
  refine qbP r1 (cB 257 rfl) (qj4 h hr1) rfl rfl rfl rfl ?_
  rintro w6 ⟨S7,h⟩
  refine X0 5 rfl ?_
  obtain ⟨b6,hp6,-,-,hl12⟩:=h.holeAt 2 rfl
  obtain ⟨q6,hq6⟩:∃ q,q=0+(i2).toNat*GoT.k qG:=⟨_,rfl⟩
  refine zx hp6 hq6 ⟨he1.1,qD he1.2.1 hl12⟩ rfl (zp1 rfl (zc 5 (qcH h 2 rfl hp6 hq6) rfl (zp1 rfl ?_)))
  replace h:=h.pickT 3 [1,0,2] rfl
  obtain ⟨o3,hr2,hF⟩:=qd hF
  obtain ⟨r2,x3⟩:=o3
  refine qbP r2 (cB 257 rfl) (qj4 h hr2) rfl rfl rfl rfl ?_
  rintro w7 ⟨S8,h⟩
  refine X0 8 rfl ?_
  obtain ⟨S9,h⟩:=h.gatherT 3 [2] (qve (⟨i1,W64 (i1+1),W64 ((W64 (i1+1))+1),W64 ((W64 ((W64 (i1+1))+1))+1),x2,x3⟩:qG) h (qz (S:=fun _=>False) rfl) (qz (S:=fun _=>False) rfl) (qz (S:=fun _=>False) rfl) (qz (S:=fun _=>False) rfl) (qap 1 h rfl) (qap 0 h rfl) (by rfl) (by rfl) (by rfl) (by rfl) (by rfl)) rfl
  replace h:=h.put
  obtain ⟨S10,h⟩:=qpw (S:=_) h
  exact rK ⟨_,_,_,_,hF,rfl,h⟩ rfl
 refine qq rfl ?_
 obtain rfl:=qb hF;replace hF:=hK1
 refine X0 5 rfl ?_
 obtain rfl:=qb hF
 exact qhH qa ⟨_,h⟩ ⟨rfl,trivial⟩
def qdJ (a:(List qw)):Nat→(List qw)→Int→Int→Option ((List qw) × Int × Int)
 | 0,_,_,_=>none
 | n+1,x1,i1,i2 =>
  bif decide (i2<(a.length:Int)) then
   (qei n i1).bind fun r1 =>
   (idx x1 i2).bind fun y1 =>
   (qly n y1.Au (W64 ((W64 (i1+1))+1))).bind fun o=>match o with
    | (r2,x2) =>
     (qlC n y1.As r2).bind fun o=>match o with
      | (r3,x3) =>
       (qaK n y1.Bk r3).bind fun o=>match o with
        | (r4,x4) =>
         qdJ a n (setS x1 i2 (⟨r1,W64 (i1+1),x2,x3,x4,r4,W64 (r4+1)⟩:qw)) (W64 ((W64 (r4+1))+1)) (W64 (i2+1))
  else
   some (x1,i1,i2)
def qkG (n:Nat) (a:(List qw)) (k:Int):Option (Int × (List qw)) :=
 (qdJ a n a k 0).bind fun o=>match o with
 | (x1,i1,_) =>
  some (i1,x1)
theorem qok {n:Nat} {w0 w:World} {F:List Ch} {a:(List qw)} {k:Int} {S1:Nat→Prop} {p1:Option Addr} {ln1 k1:Nat} (h:SH w0 w (Ch.own S1 (a:List qw) [.slice p1 ln1 k1]::F)) {r:(Int × (List qw))} (hF:qkG n a k=some r):RetN Tryz.prog 140 [.slice p1 ln1 k1,.int .i64 k] w (fun w'=>∃ Z0:Nat→Prop,SH w0 w' (Ch.own Z0 (r.2:List qw) [.slice p1 ln1 k1]::F)) r.1:=by
 refine qbH Tryz.func140 rfl (m:=63) rfl rfl ?_
 obtain rfl:=(h.sl 0 rfl).2
 refine X0 9 rfl ?_
 obtain ⟨o1,hF,hK1⟩:=qd hF
 refine qm (rL (fun m e w'=>∃ (S2:Nat→Prop) (x1:(List qw)) (i1:Int) (i2:Int),qdJ a m x1 i1 i2=some o1∧e=[(0,.slice p1 a.length k1),(1,.int .i64 i1),(5,.int .i64 i2)]∧SH w0 w' (Ch.own S2 (x1:List qw) [.slice p1 a.length k1]::F)) n ⟨_,_,_,_,hF,rfl,h⟩ rfl ?_)
 rintro m1 e1 w1 ⟨S2,x1,i1,i2,hF,rfl,h⟩
 rcases m1 with _|m1
 ·cases hF
 refine X0 8 rfl (qh rfl hF ?_ ?_)<;>intro hF
 ·refine X0 8 rfl (zcS h hF qfC rfl fun r1 w2 h hF=>?_)
  obtain ⟨y1,hy1,hF⟩:=qd hF
  have he1:=qcI hy1
  obtain ⟨S3,S4,cs1,h⟩:=h.take hy1
  obtain ⟨p2,k2,p3,k3,p4,k4,rfl,-,-,-⟩:=qae (h.own 0 rfl)
  obtain ⟨S5,S6,S7,h⟩:=qtq h
  obtain ⟨b1,hp1,-,-,hl2⟩:=h.holeAt 3 rfl
  obtain ⟨q1,hq1⟩:∃ q,q=0+(i2).toNat*GoT.k qw:=⟨_,rfl⟩
  refine zx hp1 hq1 ⟨he1.1,qD he1.2.1 hl2⟩ rfl (zp1 rfl (qg3 qa 3 0 h rfl hp1 hq1 rfl rfl rfl rfl rfl rfl fun w3 h=>?_))
  replace h:SH _ _ (Ch.own S7 (y1.Bk:List Int) [.slice p4 y1.Bk.length k4]::Ch.own S6 (y1.As:List qG) [.slice p3 y1.As.length k3]::Ch.own S5 (y1.Au:List qal) [.slice p2 y1.Au.length k2]::Ch.hole S4 (x1:List qw) p1 a.length k1 (i2).toNat [.string r1,.int .i64 y1.Av,.slice p2 y1.Au.length k2,.slice p3 y1.As.length k3,.slice p4 y1.Bk.length k4,.int .i64 y1.Bw,.int .i64 y1.Bq]::F):=h
  refine X0 12 rfl ?_
  obtain ⟨b2,hp2,-,-,hl4⟩:=h.holeAt 3 rfl
  obtain ⟨q2,hq2⟩:∃ q,q=0+(i2).toNat*GoT.k qw:=⟨_,rfl⟩
  refine zx hp2 hq2 ⟨he1.1,qD he1.2.1 hl4⟩ rfl (zp1 rfl (qg3 qa 3 1 h rfl hp2 hq2 rfl rfl rfl rfl rfl rfl fun w4 h=>X0 11 rfl ?_))
  obtain ⟨b3,hp3,-,-,hl6⟩:=h.holeAt 3 rfl
  obtain ⟨q3,hq3⟩:∃ q,q=0+(i2).toNat*GoT.k qw:=⟨_,rfl⟩
  refine zx hp3 hq3 ⟨he1.1,qD he1.2.1 hl6⟩ rfl (zp1 rfl (zc 2 (qcH h 3 rfl hp3 hq3) rfl (zp1 rfl ?_)))
  replace h:=h.pickT 4 [2,0,1,3] rfl
  obtain ⟨o2,hr2,hF⟩:=qd hF
  obtain ⟨r2,x2⟩:=o2
  refine qbP r2 (cB 213 rfl) (qoq h hr2) rfl rfl rfl rfl ?_
  rintro w5 ⟨S8,h⟩
  refine X0 6 rfl ?_
  obtain ⟨b4,hp4,-,-,hl8⟩:=h.holeAt 3 rfl
  obtain ⟨q4,hq4⟩:∃ q,q=0+(i2).toNat*GoT.k qw:=⟨_,rfl⟩
  refine zx hp4 hq4 ⟨he1.1,qD he1.2.1 hl8⟩ rfl (zp1 rfl (zc 3 (qcH h 3 rfl hp4 hq4) rfl (zp1 rfl ?_)))
  replace h:=h.pickT 4 [2,0,1,3] rfl
  obtain ⟨o3,hr3,hF⟩:=qd hF
  obtain ⟨r3,x3⟩:=o3
  refine qbP r3 (cB 214 rfl) (qoy h hr3) rfl rfl rfl rfl ?_
  rintro w6 ⟨S9,h⟩
  refine X0 6 rfl ?_
  obtain ⟨b5,hp5,-,-,hl10⟩:=h.holeAt 3 rfl
  obtain ⟨q5,hq5⟩:∃ q,q=0+(i2).toNat*GoT.k qw:=⟨_,rfl⟩
  refine zx hp5 hq5 ⟨he1.1,qD he1.2.1 hl10⟩ rfl (zp1 rfl (zc 4 (qcH h 3 rfl hp5 hq5) rfl (zp1 rfl ?_)))
  replace h:=h.pickT 4 [2,0,1,3] rfl
  obtain ⟨o4,hr4,hF⟩:=qd hF
  obtain ⟨r4,x4⟩:=o4
  refine qbP r4 (cB 22 rfl) (qaM h hr4) rfl rfl rfl rfl ?_
  rintro w7 ⟨S10,h⟩
  refine X0 7 rfl ?_
  obtain ⟨b6,hp6,-,-,hl12⟩:=h.holeAt 3 rfl
  obtain ⟨q6,hq6⟩:∃ q,q=0+(i2).toNat*GoT.k qw:=⟨_,rfl⟩
  refine zx hp6 hq6 ⟨he1.1,qD he1.2.1 hl12⟩ rfl (zp1 rfl (qg3 qa 3 5 h rfl hp6 hq6 rfl rfl rfl rfl rfl rfl fun w8 h=>X0 12 rfl ?_))
  obtain ⟨b7,hp7,-,-,hl14⟩:=h.holeAt 3 rfl
  obtain ⟨q7,hq7⟩:∃ q,q=0+(i2).toNat*GoT.k qw:=⟨_,rfl⟩
  refine zx hp7 hq7 ⟨he1.1,qD he1.2.1 hl14⟩ rfl (zp1 rfl (qg3 qa 3 6 h rfl hp7 hq7 rfl rfl rfl rfl rfl rfl fun w9 h=>?_))
  replace h:SH _ _ (Ch.own S10 (x4:List Int) [.slice p4 y1.Bk.length k4]::Ch.own S9 (x3:List qG) [.slice p3 y1.As.length k3]::Ch.own S8 (x2:List qal) [.slice p2 y1.Au.length k2]::Ch.hole S4 (x1:List qw) p1 a.length k1 (i2).toNat [.string r1,.int .i64 (W64 (i1+1)),.slice p2 y1.Au.length k2,.slice p3 y1.As.length k3,.slice p4 y1.Bk.length k4,.int .i64 r4,.int .i64 (W64 (r4+1))]::F):=h
  refine X0 12 rfl ?_
  obtain ⟨S11,h⟩:=h.gatherT 4 [3] (qt2 (⟨r1,W64 (i1+1),x2,x3,x4,r4,W64 (r4+1)⟩:qw) h (qz (S:=fun _=>False) rfl) (qz (S:=fun _=>False) rfl) (qap 2 h rfl) (qap 1 h rfl) (qap 0 h rfl) (qz (S:=fun _=>False) rfl) (qz (S:=fun _=>False) rfl) (by rfl) (by rfl) (by rfl) (by rfl) (by rfl) (by rfl)) rfl
  replace h:=h.put
  obtain ⟨S12,h⟩:=qpw (S:=_) h
  exact rK ⟨_,_,_,_,hF,rfl,h⟩ rfl
 refine qq rfl ?_
 obtain rfl:=qb hF;replace hF:=hK1
 refine X0 5 rfl ?_
 obtain rfl:=qb hF
 exact qhH qa ⟨_,h⟩ ⟨rfl,trivial⟩
def qhA (n:Nat) (a:qr) (k:Int):Option (Int × (List qw)) :=
 (qkG n a.Ap k).bind fun o=>match o with
  | (r1,x1) =>
   some (r1,x1)
theorem qni {n:Nat} {w0 w:World} {F:List Ch} {a:qr} {k:Int} {S1:Nat→Prop} {p1:Option Addr} {ln1 k1:Nat} (h:SH w0 w (Ch.own S1 (a.Ap:List qw) [.slice p1 ln1 k1]::F)) {r:(Int × (List qw))} (hF:qhA n a k=some r):RetN Tryz.prog 64 [.agg #[.slice p1 ln1 k1],.int .i64 k] w (fun w'=>∃ Z0:Nat→Prop,SH w0 w' (Ch.own Z0 (r.2:List qw) [.slice p1 ln1 k1]::F)) r.1:=by
 refine qbH Tryz.func64 rfl (m:=10) rfl rfl ?_
 obtain rfl:=(h.sl 0 rfl).2
 refine zSR (qv h rfl rfl fun w1 bb1 h=>X1 7 0 h rfl ?_)
 replace h:=h.pickT 2 [1,0] rfl
 obtain ⟨o1,hr1,hF⟩:=qd hF
 obtain ⟨r1,x1⟩:=o1
 refine qbP r1 (cB 140 rfl) (qok h hr1) rfl rfl rfl rfl ?_
 rintro w2 ⟨S2,h⟩
 refine X0 7 rfl ?_
 obtain rfl:=qb hF
 replace h:=h.pickT 2 [0] rfl
 exact qhH qa ⟨_,h⟩ ⟨rfl,trivial⟩
def qcb (a:(List qi)):Nat→(List qi)→Int→Int→Option ((List qi) × Int × Int)
 | 0,_,_,_=>none
 | n+1,x1,i1,i2 =>
  bif decide (i2<(a.length:Int)) then
   (qei n i1).bind fun r1 =>
   (idx x1 i2).bind fun y1 =>
   (qaK n y1.Ai (W64 ((W64 (i1+1))+1))).bind fun o=>match o with
    | (r2,x2) =>
     qcb a n (setS x1 i2 (⟨r1,W64 (i1+1),x2⟩:qi)) r2 (W64 (i2+1))
  else
   some (x1,i1,i2)
def qic (n:Nat) (a:(List qi)) (k:Int):Option (Int × (List qi)) :=
 (qcb a n a k 0).bind fun o=>match o with
 | (x1,i1,_) =>
  some (i1,x1)
theorem qmp {n:Nat} {w0 w:World} {F:List Ch} {a:(List qi)} {k:Int} {S1:Nat→Prop} {p1:Option Addr} {ln1 k1:Nat} (h:SH w0 w (Ch.own S1 (a:List qi) [.slice p1 ln1 k1]::F)) {r:(Int × (List qi))} (hF:qic n a k=some r):RetN Tryz.prog 141 [.slice p1 ln1 k1,.int .i64 k] w (fun w'=>∃ Z0:Nat→Prop,SH w0 w' (Ch.own Z0 (r.2:List qi) [.slice p1 ln1 k1]::F)) r.1:=by
 refine qbH Tryz.func141 rfl (m:=35) rfl rfl ?_
 obtain rfl:=(h.sl 0 rfl).2
 refine X0 9 rfl ?_
 obtain ⟨o1,hF,hK1⟩:=qd hF
 refine qm (rL (fun m e w'=>∃ (S2:Nat→Prop) (x1:(List qi)) (i1:Int) (i2:Int),qcb a m x1 i1 i2=some o1∧e=[(0,.slice p1 a.length k1),(1,.int .i64 i1),(5,.int .i64 i2)]∧SH w0 w' (Ch.own S2 (x1:List qi) [.slice p1 a.length k1]::F)) n ⟨_,_,_,_,hF,rfl,h⟩ rfl ?_)
 rintro m1 e1 w1 ⟨S2,x1,i1,i2,hF,rfl,h⟩
 rcases m1 with _|m1
 ·cases hF
 refine X0 8 rfl (qh rfl hF ?_ ?_)<;>intro hF
 ·refine X0 8 rfl (zcS h hF qfC rfl fun r1 w2 h hF=>?_)
  obtain ⟨y1,hy1,hF⟩:=qd hF
  have he1:=qcI hy1
  obtain ⟨S3,S4,cs1,h⟩:=h.take hy1
  obtain ⟨p2,k2,rfl,-⟩:=qO (h.own 0 rfl)
  obtain ⟨S5,h⟩:=qqg h
  obtain ⟨b1,hp1,-,-,hl2⟩:=h.holeAt 1 rfl
  obtain ⟨q1,hq1⟩:∃ q,q=0+(i2).toNat*GoT.k qi:=⟨_,rfl⟩
  refine zx hp1 hq1 ⟨he1.1,qD he1.2.1 hl2⟩ rfl (zp1 rfl (qg3 qa 1 0 h rfl hp1 hq1 rfl rfl rfl rfl rfl rfl fun w3 h=>X0 12 rfl ?_))
  obtain ⟨b2,hp2,-,-,hl4⟩:=h.holeAt 1 rfl
  obtain ⟨q2,hq2⟩:∃ q,q=0+(i2).toNat*GoT.k qi:=⟨_,rfl⟩
  refine zx hp2 hq2 ⟨he1.1,qD he1.2.1 hl4⟩ rfl (zp1 rfl (qg3 qa 1 1 h rfl hp2 hq2 rfl rfl rfl rfl rfl rfl fun w4 h=>?_))
  replace h:SH _ _ (Ch.own S5 (y1.Ai:List Int) [.slice p2 y1.Ai.length k2]::Ch.hole S4 (x1:List qi) p1 a.length k1 (i2).toNat [.string r1,.int .i64 (W64 (i1+1)),.slice p2 y1.Ai.length k2]::F):=h
  refine X0 10 rfl ?_
  obtain ⟨b3,hp3,-,-,hl6⟩:=h.holeAt 1 rfl
  obtain ⟨q3,hq3⟩:∃ q,q=0+(i2).toNat*GoT.k qi:=⟨_,rfl⟩
  refine zx hp3 hq3 ⟨he1.1,qD he1.2.1 hl6⟩ rfl (zp1 rfl (zc 2 (qcH h 1 rfl hp3 hq3) rfl (zp1 rfl ?_)))
  obtain ⟨o2,hr2,hF⟩:=qd hF
  obtain ⟨r2,x2⟩:=o2
  refine qbP r2 (cB 22 rfl) (qaM h hr2) rfl rfl rfl rfl ?_
  rintro w5 ⟨S6,h⟩
  refine X0 8 rfl ?_
  obtain ⟨S7,h⟩:=h.gatherT 2 [1] (qoT (⟨r1,W64 (i1+1),x2⟩:qi) h (qz (S:=fun _=>False) rfl) (qz (S:=fun _=>False) rfl) (qap 0 h rfl) (by rfl) (by rfl)) rfl
  replace h:=h.put
  obtain ⟨S8,h⟩:=qpw (S:=_) h
  exact rK ⟨_,_,_,_,hF,rfl,h⟩ rfl
 refine qq rfl ?_
 obtain rfl:=qb hF;replace hF:=hK1
 refine X0 5 rfl ?_
 obtain rfl:=qb hF
 exact qhH qa ⟨_,h⟩ ⟨rfl,trivial⟩
def qcS (a:(List ByteArray)):Nat→(List ByteArray)→Int→Int→Option ((List ByteArray) × Int × Int)
 | 0,_,_,_=>none
 | n+1,x1,i1,i2 =>
  bif decide (i2<(a.length:Int)) then
   (qei n i1).bind fun r1 =>
   (idx x1 i2).bind fun _ =>
   qcS a n (setS x1 i2 r1) (W64 (i1+1)) (W64 (i2+1))
  else
   some (x1,i1,i2)
def qjf (n:Nat) (a:(List ByteArray)) (k:Int):Option (Int × (List ByteArray)) :=
 (qcS a n a k 0).bind fun o=>match o with
 | (x1,i1,_) =>
  some (i1,x1)
theorem qm0 {n:Nat} {w0 w:World} {F:List Ch} {a:(List ByteArray)} {k:Int} {S1:Nat→Prop} {p1:Option Addr} {ln1 k1:Nat} (h:SH w0 w (Ch.own S1 (a:List ByteArray) [.slice p1 ln1 k1]::F)) {r:(Int × (List ByteArray))} (hF:qjf n a k=some r):RetN Tryz.prog 142 [.slice p1 ln1 k1,.int .i64 k] w (fun w'=>∃ Z0:Nat→Prop,SH w0 w' (Ch.own Z0 (r.2:List ByteArray) [.slice p1 ln1 k1]::F)) r.1:=by
 refine qbH Tryz.func142 rfl (m:=20) rfl rfl ?_
 obtain rfl:=(h.sl 0 rfl).2
 refine X0 9 rfl ?_
 obtain ⟨o1,hF,hK1⟩:=qd hF
 refine qm (rL (fun m e w'=>∃ (x1:(List ByteArray)) (i1:Int) (i2:Int),qcS a m x1 i1 i2=some o1∧e=[(0,.slice p1 a.length k1),(1,.int .i64 i1),(5,.int .i64 i2)]∧SH w0 w' (Ch.own S1 (x1:List ByteArray) [.slice p1 a.length k1]::F)) n ⟨_,_,_,hF,rfl,h⟩ rfl ?_)
 rintro m1 e1 w1 ⟨x1,i1,i2,hF,rfl,h⟩
 rcases m1 with _|m1
 ·cases hF
 refine X0 8 rfl (qh rfl hF ?_ ?_)<;>intro hF
 ·refine X0 8 rfl (zcS h hF qfC rfl fun r1 w2 h hF=>?_)
  obtain ⟨y1,hy1,hF,he1,b1,_,q1,cs1,hp1,hq1,rfl,hc2⟩:=(h.sl 0 rfl).1.ix hF
  exact zx hp1 hq1 ⟨he1.1,qD he1.2.1 (h.sl 0 rfl).2⟩ rfl (qau qa 0 0 r1 h rfl hy1 hp1 hq1 rfl hc2 rfl rfl rfl rfl rfl rfl rfl fun w3 h=>X0 12 rfl (rK ⟨_,_,_,hF,rfl,h⟩ rfl))
 refine qq rfl ?_
 obtain rfl:=qb hF;replace hF:=hK1
 refine X0 5 rfl ?_
 obtain rfl:=qb hF
 exact qhH qa ⟨_,h⟩ ⟨rfl,trivial⟩
def qdC (a:(List qP)):Nat→(List qP)→Int→Int→Option ((List qP) × Int × Int)
 | 0,_,_,_=>none
 | n+1,x1,i1,i2 =>
  bif decide (i2<(a.length:Int)) then
   (qei n i1).bind fun r1 =>
   (idx x1 i2).bind fun y1 =>
   (idx (setS x1 i2 ({ y1 with Az:=r1 })) i2).bind fun y2 =>
   (idx (setS (setS x1 i2 ({ y1 with Az:=r1 })) i2 ({ y2 with Br:=W64 (i1+1) })) i2).bind fun y3 =>
   qdC a n (setS (setS (setS x1 i2 ({ y1 with Az:=r1 })) i2 ({ y2 with Br:=W64 (i1+1) })) i2 ({ y3 with Bt:=W64 ((W64 (i1+1))+1) })) (W64 ((W64 ((W64 (i1+1))+1))+1)) (W64 (i2+1))
  else
   some (x1,i1,i2)
def qkV (n:Nat) (a:(List qP)) (k:Int):Option (Int × (List qP)) :=
 (qdC a n a k 0).bind fun o=>match o with
 | (x1,i1,_) =>
  some (i1,x1)
theorem qoa {n:Nat} {w0 w:World} {F:List Ch} {a:(List qP)} {k:Int} {S1:Nat→Prop} {p1:Option Addr} {ln1 k1:Nat} (h:SH w0 w (Ch.own S1 (a:List qP) [.slice p1 ln1 k1]::F)) {r:(Int × (List qP))} (hF:qkV n a k=some r):RetN Tryz.prog 143 [.slice p1 ln1 k1,.int .i64 k] w (fun w'=>∃ Z0:Nat→Prop,SH w0 w' (Ch.own Z0 (r.2:List qP) [.slice p1 ln1 k1]::F)) r.1:=by
 refine qbH Tryz.func143 rfl (m:=35) rfl rfl ?_
 obtain rfl:=(h.sl 0 rfl).2
 refine X0 9 rfl ?_
 obtain ⟨o1,hF,hK1⟩:=qd hF
 refine qm (rL (fun m e w'=>∃ (x1:(List qP)) (i1:Int) (i2:Int),qdC a m x1 i1 i2=some o1∧e=[(0,.slice p1 a.length k1),(1,.int .i64 i1),(5,.int .i64 i2)]∧SH w0 w' (Ch.own S1 (x1:List qP) [.slice p1 a.length k1]::F)) n ⟨_,_,_,hF,rfl,h⟩ rfl ?_)
 rintro m1 e1 w1 ⟨x1,i1,i2,hF,rfl,h⟩
 rcases m1 with _|m1
 ·cases hF
 refine X0 8 rfl (qh rfl hF ?_ ?_)<;>intro hF
 ·refine X0 8 rfl (zcS h hF qfC rfl fun r1 w2 h hF=>?_)
  obtain ⟨y1,hy1,hF,he1,b1,_,q1,cs1,hp1,hq1,hr2,hc2⟩:=(h.sl 0 rfl).1.ix hF
  obtain rfl:=qaS hr2
  refine zx hp1 hq1 ⟨he1.1,qD he1.2.1 (h.sl 0 rfl).2⟩ rfl (zp1 rfl (qau qa 0 0 ({ y1 with Az:=r1 }:qP) h rfl hy1 hp1 hq1 (qes y1) hc2 rfl rfl rfl (qes ({ y1 with Az:=r1 })) rfl rfl rfl fun w3 h=>X0 12 rfl ?_))
  obtain ⟨y2,hy2,hF,he2,b2,_,q2,cs2,hp2,hq2,hr3,hc3⟩:=(h.sl 0 rfl).1.ix hF
  obtain rfl:=qaS hr3
  refine zx hp2 hq2 ⟨he2.1,qD he2.2.1 (h.sl 0 rfl).2⟩ rfl (zp1 rfl (qau qa 0 1 ({ y2 with Br:=W64 (i1+1) }:qP) h rfl hy2 hp2 hq2 (qes y2) hc3 rfl rfl rfl (qes ({ y2 with Br:=W64 (i1+1) })) rfl rfl rfl fun w4 h=>X0 12 rfl ?_))
  obtain ⟨y3,hy3,hF,he3,b3,_,q3,cs3,hp3,hq3,hr4,hc4⟩:=(h.sl 0 rfl).1.ix hF
  obtain rfl:=qaS hr4
  exact zx hp3 hq3 ⟨he3.1,qD he3.2.1 (h.sl 0 rfl).2⟩ rfl (zp1 rfl (qau qa 0 2 ({ y3 with Bt:=W64 ((W64 (i1+1))+1) }:qP) h rfl hy3 hp3 hq3 (qes y3) hc4 rfl rfl rfl (qes ({ y3 with Bt:=W64 ((W64 (i1+1))+1) })) rfl rfl rfl fun w5 h=>X0 12 rfl (rK ⟨_,_,_,hF,rfl,h⟩ rfl)))
 refine qq rfl ?_
 obtain rfl:=qb hF;replace hF:=hK1
 refine X0 5 rfl ?_
 obtain rfl:=qb hF
 exact qhH qa ⟨_,h⟩ ⟨rfl,trivial⟩
def qh5 (n:Nat) (a:qf) (k:Int):Option (Int × (List qi) × (List ByteArray) × (List qP)) :=
 (qic n a.Ab k).bind fun o=>match o with
  | (r1,x1) =>
   (qjf n a.Ai r1).bind fun o=>match o with
    | (r2,x2) =>
     (qkV n a.Ah r2).bind fun o=>match o with
      | (r3,x3) =>
       some (r3,x1,x2,x3)
theorem qnP {n:Nat} {w0 w:World} {F:List Ch} {a:qf} {k:Int} {S1:Nat→Prop} {p1:Option Addr} {ln1 k1:Nat} {S2:Nat→Prop} {p2:Option Addr} {ln2 k2:Nat} {S3:Nat→Prop} {p3:Option Addr} {ln3 k3:Nat} (h:SH w0 w (Ch.own S3 (a.Ah:List qP) [.slice p3 ln3 k3]::Ch.own S2 (a.Ai:List ByteArray) [.slice p2 ln2 k2]::Ch.own S1 (a.Ab:List qi) [.slice p1 ln1 k1]::F)) {r:(Int × (List qi) × (List ByteArray) × (List qP))} (hF:qh5 n a k=some r):RetN Tryz.prog 65 [.agg #[.slice p1 ln1 k1,.slice p2 ln2 k2,.slice p3 ln3 k3],.int .i64 k] w (fun w'=>∃ Z0 Z1 Z2:Nat→Prop,SH w0 w' (Ch.own Z2 (r.2.2.2:List qP) [.slice p3 ln3 k3]::Ch.own Z1 (r.2.2.1:List ByteArray) [.slice p2 ln2 k2]::Ch.own Z0 (r.2.1:List qi) [.slice p1 ln1 k1]::F)) r.1:=by
 refine qbH Tryz.func65 rfl (m:=18) rfl rfl ?_
 obtain rfl:=(h.sl 0 rfl).2
 obtain rfl:=(h.sl 1 rfl).2
 obtain rfl:=(h.sl 2 rfl).2
 refine zSR (qv h rfl rfl fun w1 bb1 h=>X1 7 0 h rfl ?_)
 replace h:=h.pickT 4 [3,0,1,2] rfl
 obtain ⟨o1,hr1,hF⟩:=qd hF
 obtain ⟨r1,x1⟩:=o1
 refine qbP r1 (cB 141 rfl) (qmp h hr1) rfl rfl rfl rfl ?_
 rintro w2 ⟨S4,h⟩
 refine X1 7 1 h rfl ?_
 replace h:=h.pickT 4 [3,0,1,2] rfl
 obtain ⟨o2,hr2,hF⟩:=qd hF
 obtain ⟨r2,x2⟩:=o2
 refine qbP r2 (cB 142 rfl) (qm0 h hr2) rfl rfl rfl rfl ?_
 rintro w3 ⟨S5,h⟩
 refine X1 7 2 h rfl ?_
 replace h:=h.pickT 4 [3,0,1,2] rfl
 obtain ⟨o3,hr3,hF⟩:=qd hF
 obtain ⟨r3,x3⟩:=o3
 refine qbP r3 (cB 143 rfl) (qoa h hr3) rfl rfl rfl rfl ?_
 rintro w4 ⟨S6,h⟩
 refine X0 7 rfl ?_
 obtain rfl:=qb hF
 replace h:=h.pickT 4 [0,1,2] rfl
 exact qhH qa ⟨_,_,_,h⟩ ⟨rfl,trivial⟩
def qdM (a:(List qE)):Nat→(List qE)→Int→Int→Option ((List qE) × Int × Int)
 | 0,_,_,_=>none
 | n+1,x1,i1,i2 =>
  bif decide (i2<(a.length:Int)) then
   (idx x1 i2).bind fun y1 =>
   (qaK n y1.Ak i1).bind fun o=>match o with
    | (r1,x2) =>
     (qaK n y1.Bs r1).bind fun o=>match o with
      | (r2,x3) =>
       (qaK n y1.Bo r2).bind fun o=>match o with
        | (r3,x4) =>
         (qaK n y1.Bh r3).bind fun o=>match o with
          | (r4,x5) =>
           qdM a n (setS x1 i2 (⟨x2,x3,x4,x5⟩:qE)) r4 (W64 (i2+1))
  else
   some (x1,i1,i2)
def qkI (n:Nat) (a:(List qE)) (k:Int):Option (Int × (List qE)) :=
 (qdM a n a k 0).bind fun o=>match o with
 | (x1,i1,_) =>
  some (i1,x1)
theorem qoh {n:Nat} {w0 w:World} {F:List Ch} {a:(List qE)} {k:Int} {S1:Nat→Prop} {p1:Option Addr} {ln1 k1:Nat} (h:SH w0 w (Ch.own S1 (a:List qE) [.slice p1 ln1 k1]::F)) {r:(Int × (List qE))} (hF:qkI n a k=some r):RetN Tryz.prog 66 [.slice p1 ln1 k1,.int .i64 k] w (fun w'=>∃ Z0:Nat→Prop,SH w0 w' (Ch.own Z0 (r.2:List qE) [.slice p1 ln1 k1]::F)) r.1:=by
 refine qbH Tryz.func66 rfl (m:=41) rfl rfl ?_
 obtain rfl:=(h.sl 0 rfl).2
 refine X0 9 rfl ?_
 obtain ⟨o1,hF,hK1⟩:=qd hF
 refine qm (rL (fun m e w'=>∃ (S2:Nat→Prop) (x1:(List qE)) (i1:Int) (i2:Int),qdM a m x1 i1 i2=some o1∧e=[(0,.slice p1 a.length k1),(1,.int .i64 i1),(5,.int .i64 i2)]∧SH w0 w' (Ch.own S2 (x1:List qE) [.slice p1 a.length k1]::F)) n ⟨_,_,_,_,hF,rfl,h⟩ rfl ?_)
 rintro m1 e1 w1 ⟨S2,x1,i1,i2,hF,rfl,h⟩
 rcases m1 with _|m1
 ·cases hF
 refine X0 8 rfl (qh rfl hF ?_ ?_)<;>intro hF
 ·refine X0 7 rfl ?_
  obtain ⟨y1,hy1,hF⟩:=qd hF
  have he1:=qcI hy1
  obtain ⟨S3,S4,cs1,h⟩:=h.take hy1
  obtain ⟨p2,k2,p3,k3,p4,k4,p5,k5,rfl,-,-,-,-⟩:=qaN (h.own 0 rfl)
  obtain ⟨S5,S6,S7,S8,h⟩:=qtT h
  obtain ⟨b1,hp1,-,-,hl2⟩:=h.holeAt 4 rfl
  obtain ⟨q1,hq1⟩:∃ q,q=0+(i2).toNat*GoT.k qE:=⟨_,rfl⟩
  refine zx hp1 hq1 ⟨he1.1,qD he1.2.1 hl2⟩ rfl (zp1 rfl (zc 0 (qcH h 4 rfl hp1 hq1) rfl (zp1 rfl ?_)))
  replace h:=h.pickT 5 [3,0,1,2,4] rfl
  obtain ⟨o2,hr1,hF⟩:=qd hF
  obtain ⟨r1,x2⟩:=o2
  refine qbP r1 (cB 22 rfl) (qaM h hr1) rfl rfl rfl rfl ?_
  rintro w2 ⟨S9,h⟩
  refine X0 6 rfl ?_
  obtain ⟨b2,hp2,-,-,hl4⟩:=h.holeAt 4 rfl
  obtain ⟨q2,hq2⟩:∃ q,q=0+(i2).toNat*GoT.k qE:=⟨_,rfl⟩
  refine zx hp2 hq2 ⟨he1.1,qD he1.2.1 hl4⟩ rfl (zp1 rfl (zc 1 (qcH h 4 rfl hp2 hq2) rfl (zp1 rfl ?_)))
  replace h:=h.pickT 5 [3,0,1,2,4] rfl
  obtain ⟨o3,hr2,hF⟩:=qd hF
  obtain ⟨r2,x3⟩:=o3
  refine qbP r2 (cB 22 rfl) (qaM h hr2) rfl rfl rfl rfl ?_
  rintro w3 ⟨S10,h⟩
  refine X0 6 rfl ?_
  obtain ⟨b3,hp3,-,-,hl6⟩:=h.holeAt 4 rfl
  obtain ⟨q3,hq3⟩:∃ q,q=0+(i2).toNat*GoT.k qE:=⟨_,rfl⟩
  refine zx hp3 hq3 ⟨he1.1,qD he1.2.1 hl6⟩ rfl (zp1 rfl (zc 2 (qcH h 4 rfl hp3 hq3) rfl (zp1 rfl ?_)))
  replace h:=h.pickT 5 [3,0,1,2,4] rfl
  obtain ⟨o4,hr3,hF⟩:=qd hF
  obtain ⟨r3,x4⟩:=o4
  refine qbP r3 (cB 22 rfl) (qaM h hr3) rfl rfl rfl rfl ?_
  rintro w4 ⟨S11,h⟩
  refine X0 5 rfl ?_
  obtain ⟨b4,hp4,-,-,hl8⟩:=h.holeAt 4 rfl
  obtain ⟨q4,hq4⟩:∃ q,q=0+(i2).toNat*GoT.k qE:=⟨_,rfl⟩
  refine zx hp4 hq4 ⟨he1.1,qD he1.2.1 hl8⟩ rfl (zp1 rfl (zc 3 (qcH h 4 rfl hp4 hq4) rfl (zp1 rfl ?_)))
  replace h:=h.pickT 5 [3,0,1,2,4] rfl
  obtain ⟨o5,hr4,hF⟩:=qd hF
  obtain ⟨r4,x5⟩:=o5
  refine qbP r4 (cB 22 rfl) (qaM h hr4) rfl rfl rfl rfl ?_
  rintro w5 ⟨S12,h⟩
  refine X0 8 rfl ?_
  obtain ⟨S13,h⟩:=h.gatherT 5 [4] (qtn (⟨x2,x3,x4,x5⟩:qE) h (qap 3 h rfl) (qap 2 h rfl) (qap 1 h rfl) (qap 0 h rfl) (by rfl) (by rfl) (by rfl)) rfl
  replace h:=h.put
  obtain ⟨S14,h⟩:=qpw (S:=_) h
  exact rK ⟨_,_,_,_,hF,rfl,h⟩ rfl
 refine qq rfl ?_
 obtain rfl:=qb hF;replace hF:=hK1
 refine X0 5 rfl ?_
 obtain rfl:=qb hF
 exact qhH qa ⟨_,h⟩ ⟨rfl,trivial⟩
def qiQ (n:Nat) (a:qg) (k:Int):Option (Int × (List qw) × (List qi) × (List ByteArray) × (List qP) × (List qE)) :=
 (qhA n (⟨a.Ar.Ap⟩:qr) k).bind fun o=>match o with
  | (r1,x1) =>
   (qh5 n (⟨a.Aa.Ab,a.Aa.Ai,a.Aa.Ah⟩:qf) r1).bind fun o=>match o with
    | (r2,x2,x3,x4) =>
     (qkI n a.Ac r2).bind fun o=>match o with
      | (r3,x5) =>
       some (r3,x1,x2,x3,x4,x5)
theorem qn4 {n:Nat} {w0 w:World} {F:List Ch} {a:qg} {k:Int} {S1:Nat→Prop} {p1:Option Addr} {ln1 k1:Nat} {S2:Nat→Prop} {p2:Option Addr} {ln2 k2:Nat} {S3:Nat→Prop} {p3:Option Addr} {ln3 k3:Nat} {S4:Nat→Prop} {p4:Option Addr} {ln4 k4:Nat} {S5:Nat→Prop} {p5:Option Addr} {ln5 k5:Nat} (h:SH w0 w (Ch.own S5 (a.Ac:List qE) [.slice p5 ln5 k5]::Ch.own S4 (a.Aa.Ah:List qP) [.slice p4 ln4 k4]::Ch.own S3 (a.Aa.Ai:List ByteArray) [.slice p3 ln3 k3]::Ch.own S2 (a.Aa.Ab:List qi) [.slice p2 ln2 k2]::Ch.own S1 (a.Ar.Ap:List qw) [.slice p1 ln1 k1]::F)) {r:(Int × (List qw) × (List qi) × (List ByteArray) × (List qP) × (List qE))} (hF:qiQ n a k=some r):RetN Tryz.prog 19 [.agg #[.slice p1 ln1 k1,.slice p2 ln2 k2,.slice p3 ln3 k3,.slice p4 ln4 k4,.slice p5 ln5 k5],.int .i64 k] w (fun w'=>∃ Z0 Z1 Z2 Z3 Z4:Nat→Prop,SH w0 w' (Ch.own Z4 (r.2.2.2.2.2:List qE) [.slice p5 ln5 k5]::Ch.own Z3 (r.2.2.2.2.1:List qP) [.slice p4 ln4 k4]::Ch.own Z2 (r.2.2.2.1:List ByteArray) [.slice p3 ln3 k3]::Ch.own Z1 (r.2.2.1:List qi) [.slice p2 ln2 k2]::Ch.own Z0 (r.2.1:List qw) [.slice p1 ln1 k1]::F)) r.1:=by
 refine qbH Tryz.func19 rfl (m:=18) rfl rfl ?_
 obtain rfl:=(h.sl 0 rfl).2
 obtain rfl:=(h.sl 1 rfl).2
 obtain rfl:=(h.sl 2 rfl).2
 obtain rfl:=(h.sl 3 rfl).2
 obtain rfl:=(h.sl 4 rfl).2
 refine zSR (qv h rfl rfl fun w1 bb1 h=>X1 7 0 h rfl ?_)
 replace h:=h.pickT 6 [5,0,1,2,3,4] rfl
 obtain ⟨o1,hr1,hF⟩:=qd hF
 obtain ⟨r1,x1⟩:=o1
 refine qbP r1 (cB 64 rfl) (qni h hr1) rfl rfl rfl rfl ?_
 rintro w2 ⟨S6,h⟩
 refine X1 7 1 h rfl ?_
 replace h:=h.pickT 6 [3,4,5,0,1,2] rfl
 obtain ⟨o2,hr2,hF⟩:=qd hF
 obtain ⟨r2,x2,x3,x4⟩:=o2
 refine qbP r2 (cB 65 rfl) (qnP h hr2) rfl rfl rfl rfl ?_
 rintro w3 ⟨S7,S8,S9,h⟩
 refine X1 7 4 h rfl ?_
 replace h:=h.pickT 6 [5,0,1,2,3,4] rfl
 obtain ⟨o3,hr3,hF⟩:=qd hF
 obtain ⟨r3,x5⟩:=o3
 refine qbP r3 (cB 66 rfl) (qoh h hr3) rfl rfl rfl rfl ?_
 rintro w4 ⟨S10,h⟩
 refine X0 7 rfl ?_
 obtain rfl:=qb hF
 replace h:=h.pickT 6 [0,1,2,3,4] rfl
 exact qhH qa ⟨_,_,_,_,_,h⟩ ⟨rfl,trivial⟩
def qdI (a:(List Bool)):Nat→(List Bool)→Int→Int→Option ((List Bool) × Int × Int)
 | 0,_,_,_=>none
 | n+1,x1,i1,i2 =>
  bif decide (i2<(a.length:Int)) then
   (idx x1 i2).bind fun _ =>
   qdI a n (setS x1 i2 ((i1.tmod 3)==0)) (W64 (i1+1)) (W64 (i2+1))
  else
   some (x1,i1,i2)
def qis (n:Nat) (a:(List Bool)) (k:Int):Option (Int × (List Bool)) :=
 (qdI a n a k 0).bind fun o=>match o with
 | (x1,i1,_) =>
  some (i1,x1)
theorem qn5 {n:Nat} {w0 w:World} {F:List Ch} {a:(List Bool)} {k:Int} {S1:Nat→Prop} {p1:Option Addr} {ln1 k1:Nat} (h:SH w0 w (Ch.own S1 (a:List Bool) [.slice p1 ln1 k1]::F)) {r:(Int × (List Bool))} (hF:qis n a k=some r):RetN Tryz.prog 67 [.slice p1 ln1 k1,.int .i64 k] w (fun w'=>∃ Z0:Nat→Prop,SH w0 w' (Ch.own Z0 (r.2:List Bool) [.slice p1 ln1 k1]::F)) r.1:=by
 refine qbH Tryz.func67 rfl (m:=21) rfl rfl ?_
 obtain rfl:=(h.sl 0 rfl).2
 refine X0 9 rfl ?_
 obtain ⟨o1,hF,hK1⟩:=qd hF
 refine qm (rL (fun m e w'=>∃ (x1:(List Bool)) (i1:Int) (i2:Int),qdI a m x1 i1 i2=some o1∧e=[(0,.slice p1 a.length k1),(1,.int .i64 i1),(5,.int .i64 i2)]∧SH w0 w' (Ch.own S1 (x1:List Bool) [.slice p1 a.length k1]::F)) n ⟨_,_,_,hF,rfl,h⟩ rfl ?_)
 rintro m1 e1 w1 ⟨x1,i1,i2,hF,rfl,h⟩
 rcases m1 with _|m1
 ·cases hF
 refine X0 8 rfl (qh rfl hF ?_ ?_)<;>intro hF
 ·refine X0 10 rfl ?_
  obtain ⟨y1,hy1,hF,he1,b1,_,q1,cs1,hp1,hq1,rfl,hc2⟩:=(h.sl 0 rfl).1.ix hF
  exact zx hp1 hq1 ⟨he1.1,qD he1.2.1 (h.sl 0 rfl).2⟩ rfl (qau qa 0 0 ((i1.tmod 3)==0) h rfl hy1 hp1 hq1 rfl hc2 rfl rfl rfl rfl rfl rfl rfl fun w2 h=>X0 12 rfl (rK ⟨_,_,_,hF,rfl,h⟩ rfl))
 refine qq rfl ?_
 obtain rfl:=qb hF;replace hF:=hK1
 refine X0 5 rfl ?_
 obtain rfl:=qb hF
 exact qhH qa ⟨_,h⟩ ⟨rfl,trivial⟩
def qdN (a:(List qc)):Nat→(List qc)→Int→Int→Option ((List qc) × Int × Int)
 | 0,_,_,_=>none
 | n+1,x1,i1,i2 =>
  bif decide (i2<(a.length:Int)) then
   (idx x1 i2).bind fun y1 =>
   (idx (setS x1 i2 ({ y1 with Am:=i1 })) i2).bind fun y2 =>
   qdN a n (setS (setS x1 i2 ({ y1 with Am:=i1 })) i2 ({ y2 with Ay:=W64 (i1+1) })) (W64 ((W64 (i1+1))+1)) (W64 (i2+1))
  else
   some (x1,i1,i2)
def qgZ (n:Nat) (a:(List qc)) (k:Int):Option (Int × (List qc)) :=
 (qdN a n a k 0).bind fun o=>match o with
 | (x1,i1,_) =>
  some (i1,x1)
theorem qky {n:Nat} {w0 w:World} {F:List Ch} {a:(List qc)} {k:Int} {S1:Nat→Prop} {p1:Option Addr} {ln1 k1:Nat} (h:SH w0 w (Ch.own S1 (a:List qc) [.slice p1 ln1 k1]::F)) {r:(Int × (List qc))} (hF:qgZ n a k=some r):RetN Tryz.prog 68 [.slice p1 ln1 k1,.int .i64 k] w (fun w'=>∃ Z0:Nat→Prop,SH w0 w' (Ch.own Z0 (r.2:List qc) [.slice p1 ln1 k1]::F)) r.1:=by
 refine qbH Tryz.func68 rfl (m:=27) rfl rfl ?_
 obtain rfl:=(h.sl 0 rfl).2
 refine X0 9 rfl ?_
 obtain ⟨o1,hF,hK1⟩:=qd hF
 refine qm (rL (fun m e w'=>∃ (x1:(List qc)) (i1:Int) (i2:Int),qdN a m x1 i1 i2=some o1∧e=[(0,.slice p1 a.length k1),(1,.int .i64 i1),(5,.int .i64 i2)]∧SH w0 w' (Ch.own S1 (x1:List qc) [.slice p1 a.length k1]::F)) n ⟨_,_,_,hF,rfl,h⟩ rfl ?_)
 rintro m1 e1 w1 ⟨x1,i1,i2,hF,rfl,h⟩
 rcases m1 with _|m1
 ·cases hF
 refine X0 8 rfl (qh rfl hF ?_ ?_)<;>intro hF
 ·refine X0 8 rfl ?_
  obtain ⟨y1,hy1,hF,he1,b1,_,q1,cs1,hp1,hq1,hr1,hc2⟩:=(h.sl 0 rfl).1.ix hF
  obtain rfl:=qx hr1
  refine zx hp1 hq1 ⟨he1.1,qD he1.2.1 (h.sl 0 rfl).2⟩ rfl (zp1 rfl (qau qa 0 0 ({ y1 with Am:=i1 }:qc) h rfl hy1 hp1 hq1 (qA y1) hc2 rfl rfl rfl (qA ({ y1 with Am:=i1 })) rfl rfl rfl fun w2 h=>X0 12 rfl ?_))
  obtain ⟨y2,hy2,hF,he2,b2,_,q2,cs2,hp2,hq2,hr2,hc3⟩:=(h.sl 0 rfl).1.ix hF
  obtain rfl:=qx hr2
  exact zx hp2 hq2 ⟨he2.1,qD he2.2.1 (h.sl 0 rfl).2⟩ rfl (zp1 rfl (qau qa 0 1 ({ y2 with Ay:=W64 (i1+1) }:qc) h rfl hy2 hp2 hq2 (qA y2) hc3 rfl rfl rfl (qA ({ y2 with Ay:=W64 (i1+1) })) rfl rfl rfl fun w3 h=>X0 12 rfl (rK ⟨_,_,_,hF,rfl,h⟩ rfl)))
 refine qq rfl ?_
 obtain rfl:=qb hF;replace hF:=hK1
 refine X0 5 rfl ?_
 obtain rfl:=qb hF
 exact qhH qa ⟨_,h⟩ ⟨rfl,trivial⟩
def qh6 (n:Nat) (a:qn) (k:Int):Option (Int × (List Bool) × (List qc) × (List qc)) :=
 (qis n a.Aj k).bind fun o=>match o with
  | (r1,x1) =>
   (qgZ n a.Af r1).bind fun o=>match o with
    | (r2,x2) =>
     (qgZ n a.Aq r2).bind fun o=>match o with
      | (r3,x3) =>
       some (r3,x1,x2,x3)
theorem qnR {n:Nat} {w0 w:World} {F:List Ch} {a:qn} {k:Int} {S1:Nat→Prop} {p1:Option Addr} {ln1 k1:Nat} {S2:Nat→Prop} {p2:Option Addr} {ln2 k2:Nat} {S3:Nat→Prop} {p3:Option Addr} {ln3 k3:Nat} (h:SH w0 w (Ch.own S3 (a.Aq:List qc) [.slice p3 ln3 k3]::Ch.own S2 (a.Af:List qc) [.slice p2 ln2 k2]::Ch.own S1 (a.Aj:List Bool) [.slice p1 ln1 k1]::F)) {r:(Int × (List Bool) × (List qc) × (List qc))} (hF:qh6 n a k=some r):RetN Tryz.prog 20 [.agg #[.slice p1 ln1 k1,.slice p2 ln2 k2,.slice p3 ln3 k3],.int .i64 k] w (fun w'=>∃ Z0 Z1 Z2:Nat→Prop,SH w0 w' (Ch.own Z2 (r.2.2.2:List qc) [.slice p3 ln3 k3]::Ch.own Z1 (r.2.2.1:List qc) [.slice p2 ln2 k2]::Ch.own Z0 (r.2.1:List Bool) [.slice p1 ln1 k1]::F)) r.1:=by
 refine qbH Tryz.func20 rfl (m:=18) rfl rfl ?_
 obtain rfl:=(h.sl 0 rfl).2
 obtain rfl:=(h.sl 1 rfl).2
 obtain rfl:=(h.sl 2 rfl).2
 refine zSR (qv h rfl rfl fun w1 bb1 h=>X1 7 0 h rfl ?_)
 replace h:=h.pickT 4 [3,0,1,2] rfl
 obtain ⟨o1,hr1,hF⟩:=qd hF
 obtain ⟨r1,x1⟩:=o1
 refine qbP r1 (cB 67 rfl) (qn5 h hr1) rfl rfl rfl rfl ?_
 rintro w2 ⟨S4,h⟩
 refine X1 7 1 h rfl ?_
 replace h:=h.pickT 4 [3,0,1,2] rfl
 obtain ⟨o2,hr2,hF⟩:=qd hF
 obtain ⟨r2,x2⟩:=o2
 refine qbP r2 (cB 68 rfl) (qky h hr2) rfl rfl rfl rfl ?_
 rintro w3 ⟨S5,h⟩
 refine X1 7 2 h rfl ?_
 replace h:=h.pickT 4 [3,0,1,2] rfl
 obtain ⟨o3,hr3,hF⟩:=qd hF
 obtain ⟨r3,x3⟩:=o3
 refine qbP r3 (cB 68 rfl) (qky h hr3) rfl rfl rfl rfl ?_
 rintro w4 ⟨S6,h⟩
 refine X0 7 rfl ?_
 obtain rfl:=qb hF
 replace h:=h.pickT 4 [0,1,2] rfl
 exact qhH qa ⟨_,_,_,h⟩ ⟨rfl,trivial⟩
def qcQ (a:(List qe)):Nat→(List qe)→Int→Int→Option ((List qe) × Int × Int)
 | 0,_,_,_=>none
 | n+1,x1,i1,i2 =>
  bif decide (i2<(a.length:Int)) then
   (idx x1 i2).bind fun y1 =>
   (idx (setS x1 i2 ({ y1 with Bm:=i1 })) i2).bind fun y2 =>
   (idx (setS (setS x1 i2 ({ y1 with Bm:=i1 })) i2 ({ y2 with Af:={ y2.Af with Am:=W64 (i1+1) } })) i2).bind fun y3 =>
   (idx (setS (setS (setS x1 i2 ({ y1 with Bm:=i1 })) i2 ({ y2 with Af:={ y2.Af with Am:=W64 (i1+1) } })) i2 ({ y3 with Af:={ y3.Af with Ay:=W64 ((W64 (i1+1))+1) } })) i2).bind fun y4 =>
   (idx (setS (setS (setS (setS x1 i2 ({ y1 with Bm:=i1 })) i2 ({ y2 with Af:={ y2.Af with Am:=W64 (i1+1) } })) i2 ({ y3 with Af:={ y3.Af with Ay:=W64 ((W64 (i1+1))+1) } })) i2 ({ y4 with Aq:={ y4.Aq with Am:=W64 ((W64 ((W64 (i1+1))+1))+1) } })) i2).bind fun y5 =>
   qcQ a n (setS (setS (setS (setS (setS x1 i2 ({ y1 with Bm:=i1 })) i2 ({ y2 with Af:={ y2.Af with Am:=W64 (i1+1) } })) i2 ({ y3 with Af:={ y3.Af with Ay:=W64 ((W64 (i1+1))+1) } })) i2 ({ y4 with Aq:={ y4.Aq with Am:=W64 ((W64 ((W64 (i1+1))+1))+1) } })) i2 ({ y5 with Aq:={ y5.Aq with Ay:=W64 ((W64 ((W64 ((W64 (i1+1))+1))+1))+1) } })) (W64 ((W64 ((W64 ((W64 ((W64 (i1+1))+1))+1))+1))+1)) (W64 (i2+1))
  else
   some (x1,i1,i2)
def qjg (n:Nat) (a:(List qe)) (k:Int):Option (Int × (List qe)) :=
 (qcQ a n a k 0).bind fun o=>match o with
 | (x1,i1,_) =>
  some (i1,x1)
theorem qnh {n:Nat} {w0 w:World} {F:List Ch} {a:(List qe)} {k:Int} {S1:Nat→Prop} {p1:Option Addr} {ln1 k1:Nat} (h:SH w0 w (Ch.own S1 (a:List qe) [.slice p1 ln1 k1]::F)) {r:(Int × (List qe))} (hF:qjg n a k=some r):RetN Tryz.prog 34 [.slice p1 ln1 k1,.int .i64 k] w (fun w'=>∃ Z0:Nat→Prop,SH w0 w' (Ch.own Z0 (r.2:List qe) [.slice p1 ln1 k1]::F)) r.1:=by
 refine qbH Tryz.func34 rfl (m:=52) rfl rfl ?_
 obtain rfl:=(h.sl 0 rfl).2
 refine X0 9 rfl ?_
 obtain ⟨o1,hF,hK1⟩:=qd hF
 refine qm (rL (fun m e w'=>∃ (x1:(List qe)) (i1:Int) (i2:Int),qcQ a m x1 i1 i2=some o1∧e=[(0,.slice p1 a.length k1),(1,.int .i64 i1),(5,.int .i64 i2)]∧SH w0 w' (Ch.own S1 (x1:List qe) [.slice p1 a.length k1]::F)) n ⟨_,_,_,hF,rfl,h⟩ rfl ?_)
 rintro m1 e1 w1 ⟨x1,i1,i2,hF,rfl,h⟩
 rcases m1 with _|m1
 ·cases hF
 refine X0 8 rfl (qh rfl hF ?_ ?_)<;>intro hF
 ·refine X0 8 rfl ?_
  obtain ⟨y1,hy1,hF,he1,b1,_,q1,cs1,hp1,hq1,hr1,hc2⟩:=(h.sl 0 rfl).1.ix hF
  obtain rfl:=qX hr1
  refine zx hp1 hq1 ⟨he1.1,qD he1.2.1 (h.sl 0 rfl).2⟩ rfl (zp1 rfl (qau qa 0 0 ({ y1 with Bm:=i1 }:qe) h rfl hy1 hp1 hq1 (qaL y1) hc2 rfl rfl rfl (qaL ({ y1 with Bm:=i1 })) rfl rfl rfl fun w2 h=>X0 12 rfl ?_))
  obtain ⟨y2,hy2,hF,he2,b2,_,q2,cs2,hp2,hq2,hr2,hc3⟩:=(h.sl 0 rfl).1.ix hF
  obtain rfl:=qX hr2
  refine zx hp2 hq2 ⟨he2.1,qD he2.2.1 (h.sl 0 rfl).2⟩ rfl (zp2 rfl (qau qa 0 1 ({ y2 with Af:={ y2.Af with Am:=W64 (i1+1) } }:qe) h rfl hy2 hp2 hq2 (qaL y2) hc3 rfl rfl rfl (qaL ({ y2 with Af:={ y2.Af with Am:=W64 (i1+1) } })) rfl rfl rfl fun w3 h=>X0 12 rfl ?_))
  obtain ⟨y3,hy3,hF,he3,b3,_,q3,cs3,hp3,hq3,hr3,hc4⟩:=(h.sl 0 rfl).1.ix hF
  obtain rfl:=qX hr3
  refine zx hp3 hq3 ⟨he3.1,qD he3.2.1 (h.sl 0 rfl).2⟩ rfl (zp2 rfl (qau qa 0 2 ({ y3 with Af:={ y3.Af with Ay:=W64 ((W64 (i1+1))+1) } }:qe) h rfl hy3 hp3 hq3 (qaL y3) hc4 rfl rfl rfl (qaL ({ y3 with Af:={ y3.Af with Ay:=W64 ((W64 (i1+1))+1) } })) rfl rfl rfl fun w4 h=>X0 12 rfl ?_))
  obtain ⟨y4,hy4,hF,he4,b4,_,q4,cs4,hp4,hq4,hr4,hc5⟩:=(h.sl 0 rfl).1.ix hF
  obtain rfl:=qX hr4
  refine zx hp4 hq4 ⟨he4.1,qD he4.2.1 (h.sl 0 rfl).2⟩ rfl (zp2 rfl (qau qa 0 3 ({ y4 with Aq:={ y4.Aq with Am:=W64 ((W64 ((W64 (i1+1))+1))+1) } }:qe) h rfl hy4 hp4 hq4 (qaL y4) hc5 rfl rfl rfl (qaL ({ y4 with Aq:={ y4.Aq with Am:=W64 ((W64 ((W64 (i1+1))+1))+1) } })) rfl rfl rfl fun w5 h=>X0 12 rfl ?_))
  obtain ⟨y5,hy5,hF,he5,b5,_,q5,cs5,hp5,hq5,hr5,hc6⟩:=(h.sl 0 rfl).1.ix hF
  obtain rfl:=qX hr5
  exact zx hp5 hq5 ⟨he5.1,qD he5.2.1 (h.sl 0 rfl).2⟩ rfl (zp2 rfl (qau qa 0 4 ({ y5 with Aq:={ y5.Aq with Ay:=W64 ((W64 ((W64 ((W64 (i1+1))+1))+1))+1) } }:qe) h rfl hy5 hp5 hq5 (qaL y5) hc6 rfl rfl rfl (qaL ({ y5 with Aq:={ y5.Aq with Ay:=W64 ((W64 ((W64 ((W64 (i1+1))+1))+1))+1) } })) rfl rfl rfl fun w6 h=>X0 12 rfl (rK ⟨_,_,_,hF,rfl,h⟩ rfl)))
 refine qq rfl ?_
 obtain rfl:=qb hF;replace hF:=hK1
 refine X0 5 rfl ?_
 obtain rfl:=qb hF
 exact qhH qa ⟨_,h⟩ ⟨rfl,trivial⟩
def qdz (a:(List Bool)):Nat→Int→Int→Option (Flow Int (Int × Int))
 | 0,_,_=>none
 | n+1,i1,i2 =>
  bif decide (i2<(a.length:Int)) then
   (idx a i2).bind fun y1 =>
   bif (!(y1==((i1.tmod 3)==0))) then some (.ret (-1)) else
   qdz a n (W64 (i1+1)) (W64 (i2+1))
  else
   some (.nxt (i1,i2))
def qir (n:Nat) (a:(List Bool)) (k:Int):Option Int :=
 (qdz a n k 0).bind fun o=>match o with
 | .ret r=>some r
 | .nxt (i1,_) =>
  some i1
theorem qoH {a:(List Bool)} {k:Int} (ha1:GoT.R w (old w) a cs1) {r:Int} (hF:qir n a k=some r):RetV Tryz.prog 89 [GoT.v (List Bool) cs1,.int .i64 k] w r:=by
 obtain ⟨p1,k1,rfl,s1⟩:=ha1
 refine zV 23 Tryz.func89 rfl fun h=>X0 9 rfl ?_
 obtain ⟨o1,hF,hK1⟩:=qd hF
 refine qm (rL (fun m e w'=>∃ (i1:Int) (i2:Int),qdz a m i1 i2=some o1∧e=[(0,.slice p1 a.length k1),(1,.int .i64 i1),(5,.int .i64 i2)]∧SH w w' []) n ⟨_,_,hF,rfl,h⟩ rfl ?_)
 rintro m1 e1 w1 ⟨i1,i2,hF,rfl,h⟩
 rcases m1 with _|m1
 ·cases hF
 refine X0 8 rfl (qh rfl hF ?_ ?_)<;>intro hF
 ·refine X0 8 rfl ?_
  obtain ⟨y1,hy1,hF,he1,b1,_,q1,cs2,hp1,hq1,rfl,hc2⟩:=s1.ix hF
  refine zxe hp1 hq1 he1 rfl (zc 0 (hc2.below h.below) rfl (X0 5 rfl (qh rfl hF ?_ ?_)))<;>intro hF
  ·refine X0 4 rfl ?_
   obtain rfl:=qb hF;replace hF:=hK1
   exact ri h hF rfl
  exact X0 12 rfl (rK ⟨_,_,hF,rfl,h⟩ rfl)
 refine qq rfl ?_
 obtain rfl:=qb hF;replace hF:=hK1
 exact X0 5 rfl (ri h hF rfl)
def qdK (a:(List qc)):Nat→Int→Int→Option (Flow Int (Int × Int))
 | 0,_,_=>none
 | n+1,i1,i2 =>
  bif decide (i2<(a.length:Int)) then
   (idx a i2).bind fun y1 =>
   bif (y1.Am != i1) then some (.ret (-1)) else
   (idx a i2).bind fun y2 =>
   bif (y2.Ay != (W64 (i1+1))) then some (.ret (-1)) else
   qdK a n (W64 ((W64 (i1+1))+1)) (W64 (i2+1))
  else
   some (.nxt (i1,i2))
def qg0 (n:Nat) (a:(List qc)) (k:Int):Option Int :=
 (qdK a n k 0).bind fun o=>match o with
 | .ret r=>some r
 | .nxt (i1,_) =>
  some i1
theorem qlp {a:(List qc)} {k:Int} (ha1:GoT.R w (old w) a cs1) {r:Int} (hF:qg0 n a k=some r):RetV Tryz.prog 90 [GoT.v (List qc) cs1,.int .i64 k] w r:=by
 obtain ⟨p1,k1,rfl,s1⟩:=ha1
 refine zV 31 Tryz.func90 rfl fun h=>X0 9 rfl ?_
 obtain ⟨o1,hF,hK1⟩:=qd hF
 refine qm (rL (fun m e w'=>∃ (i1:Int) (i2:Int),qdK a m i1 i2=some o1∧e=[(0,.slice p1 a.length k1),(1,.int .i64 i1),(5,.int .i64 i2)]∧SH w w' []) n ⟨_,_,hF,rfl,h⟩ rfl ?_)
 rintro m1 e1 w1 ⟨i1,i2,hF,rfl,h⟩
 rcases m1 with _|m1
 ·cases hF
 refine X0 8 rfl (qh rfl hF ?_ ?_)<;>intro hF
 ·refine X0 8 rfl ?_
  obtain ⟨y1,hy1,hF,he1,b1,_,q1,cs2,hp1,hq1,hr1,hc2⟩:=s1.ix hF
  obtain rfl:=qx hr1
  refine zxe hp1 hq1 he1 rfl (zp1 rfl (zc 0 (hc2.below h.below) rfl (X0 3 rfl (qh rfl hF ?_ ?_))))<;>intro hF
  ·refine X0 4 rfl ?_
   obtain rfl:=qb hF;replace hF:=hK1
   exact ri h hF rfl
  refine X0 12 rfl ?_
  obtain ⟨y2,hy2,hF,he2,b2,_,q2,cs3,hp2,hq2,hr2,hc4⟩:=s1.ix hF
  obtain rfl:=qx hr2
  refine zxe hp2 hq2 he2 rfl (zp1 rfl (zc 1 (hc4.below h.below) rfl (X0 3 rfl (qh rfl hF ?_ ?_))))<;>intro hF
  ·refine X0 4 rfl ?_
   obtain rfl:=qb hF;replace hF:=hK1
   exact ri h hF rfl
  exact X0 12 rfl (rK ⟨_,_,hF,rfl,h⟩ rfl)
 refine qq rfl ?_
 obtain rfl:=qb hF;replace hF:=hK1
 exact X0 5 rfl (ri h hF rfl)
def qgj (n:Nat) (a:qn) (k:Int):Option Int :=
 (qir n a.Aj k).bind fun r1 =>
 bif decide (r1<0) then some (-1) else
 (qg0 n a.Af r1).bind fun r2 =>
 bif decide (r2<0) then some (-1) else
 (qg0 n a.Aq r2).bind fun r3 =>
 bif decide (r3<0) then some (-1) else
 some r3
theorem qkS {a:qn} {k:Int} (ha1:GoT.R w (old w) a cs1) {r:Int} (hF:qgj n a k=some r):RetV Tryz.prog 35 [GoT.v qn cs1,.int .i64 k] w r:=by
 obtain ⟨p1,k1,p2,k2,p3,k3,rfl,s1,s2,s3⟩:=qad ha1
 refine zV 24 Tryz.func35 rfl fun h=>zSR (qv h rfl rfl fun w1 bb1 h=>X1 7 0 h rfl (zcI h hF (qoH ⟨_,_,rfl,(h.oldS s1)⟩) rfl fun r1 w2 h hF=>X0 8 rfl (qh rfl hF ?_ ?_)))<;>intro hF
 ·exact X0 4 rfl (ri h hF rfl)
 refine X1 6 0 h rfl (zcI h hF (qlp ⟨_,_,rfl,(h.oldS s2)⟩) rfl fun r2 w3 h hF=>X0 8 rfl (qh rfl hF ?_ ?_))<;>intro hF
 ·exact X0 4 rfl (ri h hF rfl)
 refine X1 6 0 h rfl (zcI h hF (qlp ⟨_,_,rfl,(h.oldS s3)⟩) rfl fun r3 w4 h hF=>X0 8 rfl (qh rfl hF ?_ ?_))<;>intro hF
 ·exact X0 4 rfl (ri h hF rfl)
 exact X0 6 rfl (ri h hF rfl)
end Go.Fw


namespace Go.Fw
open Go Go.Proofs
open Go.RowKit (Below)
set_option maxRecDepth 100000
set_option maxHeartbeats 1600000
variable {n:Nat} {w:World} {cs1 cs2 cs3 cs4 cs5 cs6 cs7 cs8 cs9:List Value}
def qdR (n:Nat) (a_0:qg) (a_1:qy) (a_2:(List Int)) (a_3:(List qe)) (a_4:(List Int)):Option Bool :=
 bif decide ((a_2.length:Int) > 1048576) then some true else
 bif decide ((a_4.length:Int) > 1048576) then some true else
 (qkl n a_0 1048576).bind fun r1 =>
 bif decide (r1<0) then some true else
 (qjr n a_1 r1).bind fun r2 =>
 bif decide (r2<0) then some true else
 (qk3 n a_3 r2).bind fun r3 =>
 bif decide (r3<0) then some true else
 (qfY n a_0).bind fun r4 =>
 (qgy n a_1).bind fun r5 =>
 (qaz n a_2).bind fun r6 =>
 (qeH n a_3).bind fun r7 =>
 (qaz n a_4).bind fun r8 =>
 (qc7 n (⟨(⟨r4.Ar.Ap⟩:qr),(⟨r4.Aa.Ab,r4.Aa.Ai,r4.Aa.Ah⟩:qf),r4.Ac⟩:qg) r5 r6 r7 r8).bind fun o=>match o with
  | (r10,r11) =>
   (qfY n a_0).bind fun r12 =>
   (qaz n a_2).bind fun r13 =>
   (qeH n a_3).bind fun r14 =>
   (qaz n a_4).bind fun r15 =>
   (qgy n a_1).bind fun r16 =>
   (qca n r12 r16 r13 r14 r15).bind fun o=>match o with
    | (r18,r19) =>
     (
      (qgB n (⟨r18.Aj,r18.Af,r18.Aq⟩:qn) (⟨r10.Aj,r10.Af,r10.Aq⟩:qn)).bind fun r45 =>
      bif (!r45) then some true else
      some (r19 != r11)).bind fun b1 =>
     bif b1 then some false else
     (qfY n a_0).bind fun r20 =>
     (qka n r12 r20).bind fun r21 =>
     bif (!r21) then some false else
     (qaz n a_2).bind fun r22 =>
     (qbu n r13 r22).bind fun r23 =>
     bif (!r23) then some false else
     (qeH n a_3).bind fun r24 =>
     (qiD n r14 r24).bind fun r25 =>
     bif (!r25) then some false else
     (qaz n a_4).bind fun r26 =>
     (qbu n r15 r26).bind fun r27 =>
     bif (!r27) then some false else
     (qiQ n (⟨(⟨r12.Ar.Ap⟩:qr),(⟨r12.Aa.Ab,r12.Aa.Ai,r12.Aa.Ah⟩:qf),r12.Ac⟩:qg) 1).bind fun o=>match o with
      | (r28,_,_,_,_,_) =>
       (qaK n r13 r28).bind fun o=>match o with
        | (r29,_) =>
         (qjg n r14 r29).bind fun o=>match o with
          | (r30,_) =>
           (qaK n r15 r30).bind fun o=>match o with
            | (r31,_) =>
             (
              bif decide (r31<0) then some true else
              (qgB n (⟨r18.Aj,r18.Af,r18.Aq⟩:qn) (⟨r10.Aj,r10.Af,r10.Aq⟩:qn)).bind fun r44 =>
              bif (!r44) then some true else
              some (r19 != r11)).bind fun b2 =>
             bif b2 then some false else
             (qh6 n (⟨r18.Aj,r18.Af,r18.Aq⟩:qn) 1).bind fun o=>match o with
              | (r32,x9,x10,x11) =>
               (qgj n (⟨x9,x10,x11⟩:qn) 1).bind fun r33 =>
               bif decide (r33<0) then some false else
               bif (r33 != r32) then some false else
               (qfY n (⟨(⟨a_0.Ar.Ap⟩:qr),(⟨a_0.Aa.Ab,a_0.Aa.Ai,a_0.Aa.Ah⟩:qf),a_0.Ac⟩:qg)).bind fun r34 =>
               (qgy n (⟨a_1.Az,a_1.Bc,a_1.Bf,a_1.Bd,a_1.Bg⟩:qy)).bind fun r35 =>
               (qaz n a_2).bind fun r36 =>
               (qeH n a_3).bind fun r37 =>
               (qaz n a_4).bind fun r38 =>
               (qca n (⟨(⟨r34.Ar.Ap⟩:qr),(⟨r34.Aa.Ab,r34.Aa.Ai,r34.Aa.Ah⟩:qf),r34.Ac⟩:qg) r35 r36 r37 r38).bind fun o=>match o with
                | (r40,r41) =>
                 (
                  (qgB n (⟨r40.Aj,r40.Af,r40.Aq⟩:qn) (⟨r10.Aj,r10.Af,r10.Aq⟩:qn)).bind fun r43 =>
                  bif (!r43) then some true else
                  some (r41 != r11)).bind fun b3 =>
                 bif b3 then some false else
                 (qgj n (⟨x9,x10,x11⟩:qn) 1).bind fun r42 =>
                 bif decide (r42<0) then some false else
                 bif (r42 != r32) then some false else
                 some true
theorem qiZ {a_0:qg} {a_1:qy} {a_2:(List Int)} {a_3:(List qe)} {a_4:(List Int)} (ha1:GoT.R w (old w) a_0 cs1) (ha2:GoT.R w (old w) a_1 cs2) (ha3:GoT.R w (old w) a_2 cs3) (ha4:GoT.R w (old w) a_3 cs4) (ha5:GoT.R w (old w) a_4 cs5) {r:Bool} (hF:qdR n a_0 a_1 a_2 a_3 a_4=some r):RetV Tryz.prog 5 [GoT.v qg cs1,GoT.v qy cs2,GoT.v (List Int) cs3,GoT.v (List qe) cs4,GoT.v (List Int) cs5] w r:=by
 obtain ⟨p1,k1,p2,k2,p3,k3,p4,k4,p5,k5,rfl,s1,s2,s3,s4,s5⟩:=qI ha1
 obtain rfl:=qah ha2
 obtain ⟨p6,k6,rfl,s6⟩:=ha3
 obtain ⟨p7,k7,rfl,s7⟩:=ha4
 obtain ⟨p8,k8,rfl,s8⟩:=ha5
 refine zV 174 Tryz.func5 rfl fun h=>zSR (qv h rfl rfl fun w1 bb1 h=>qv h rfl rfl fun w2 bb2 h=>X0 9 rfl (qh rfl hF ?_ ?_))<;>intro hF
 ·exact X0 4 rfl (rb h hF rfl)
 refine X0 8 rfl (qh rfl hF ?_ ?_)<;>intro hF
 ·exact X0 4 rfl (rb h hF rfl)
 refine X1 9 1 h rfl (zcI h hF (qql (h.old ha1)) rfl fun r1 w3 h hF=>X0 8 rfl (qh rfl hF ?_ ?_))<;>intro hF
 ·exact X0 4 rfl (rb h hF rfl)
 refine X1 5 0 h rfl (zcI h hF (qpx (h.old ha2)) rfl fun r2 w4 h hF=>X0 8 rfl (qh rfl hF ?_ ?_))<;>intro hF
 ·exact X0 4 rfl (rb h hF rfl)
 refine X0 5 rfl (zcI h hF (qo2 ⟨_,_,rfl,(h.oldS s7)⟩) rfl fun r3 w5 h hF=>X0 8 rfl (qh rfl hF ?_ ?_))<;>intro hF
 ·exact X0 4 rfl (rb h hF rfl)
 refine zKS ?_
 obtain ⟨r4,hr4,hF⟩:=qd hF
 obtain ⟨r5,hr5,hF⟩:=qd hF
 obtain ⟨r6,hr6,hF⟩:=qd hF
 obtain ⟨r7,hr7,hF⟩:=qd hF
 obtain ⟨r8,hr8,hF⟩:=qd hF
 obtain ⟨r9,hr9,hF⟩:=qd hF
 obtain ⟨r10,r11⟩:=r9
 refine qba (fun e w'=>∃ (bb11:Nat) (S103:Nat→Prop) (p66:Option Addr) (k66:Nat) (S104:Nat→Prop) (p67:Option Addr) (k67:Nat) (S105:Nat→Prop) (p68:Option Addr) (k68:Nat),e=[(2,.slice p6 a_2.length k6),(3,.slice p7 a_3.length k7),(4,.slice p8 a_4.length k8),(5,.pointer (some ⟨bb1,0,none⟩)),(6,.pointer (some ⟨bb2,0,none⟩)),(12,.pointer (some ⟨bb11,0,none⟩)),(13,.int .i64 r11)]∧SH w w' [Ch.box bb11 (qaa r10 p68 p67 p66 k68 k67 k66) 57,Ch.own S103 (r10.Aq:List qc) [.slice p66 r10.Aq.length k66],Ch.own S104 (r10.Af:List qc) [.slice p67 r10.Af.length k67],Ch.own S105 (r10.Aj:List Bool) [.slice p68 r10.Aj.length k68],Ch.box bb2 (qaq a_1) 71,Ch.box bb1 (qZ a_0 p1 p2 p3 p4 p5 k1 k2 k3 k4 k5) 32]) ?_ ?_
 ·refine rA [] [0,1] h rfl fun w14 h=>M2 341 [0,2,4,6,8] 1 0 (h.pick [0,1] rfl) rfl (At 1 14 343 16725 rfl ?_ ?_)
  ·refine qee r4 h (cB 11 rfl) (qeW (h.old ha1) hr4) rfl rfl rfl rfl fun w56 S106 cs21 h=>?_
   obtain ⟨p69,k69,p70,k70,p71,k71,p72,k72,p73,k73,rfl,-,-,-,-,-⟩:=qI (h.own 0 rfl)
   obtain ⟨S107,S108,S109,h⟩:=qhU h
   replace h:=h.pick [1,0,2,3,4] rfl
   obtain ⟨S110,S111,S112,h⟩:=qhV h
   replace h:=h.pick [4,0,1,2,3,5,6] rfl
   obtain ⟨S113,h⟩:=qhi h
   refine Ag (h.pick [5,6] rfl) (At 3 14 351 16727 rfl ?_ ?_)
   ·refine qee r5 h (cB 27 rfl) (qco (h.old ha2) hr5) rfl rfl rfl rfl fun w57 S114 cs22 h=>?_
    obtain rfl:=qah (h.own 0 rfl)
    refine Ag (h.pick [6,7] rfl) (At 5 14 383 16735 rfl ?_ ?_)
    ·refine qa2 r6 h (cB 28 rfl) (qB ⟨_,_,rfl,(h.oldS s6)⟩ hr6) rfl rfl rfl rfl fun w58 S115 p74 k74 h=>Ag (h.pick [7,8] rfl) (At 7 14 511 16767 rfl ?_ ?_)
     ·refine qa2 r7 h (cB 29 rfl) (qaR ⟨_,_,rfl,(h.oldS s7)⟩ hr7) rfl rfl rfl rfl fun w59 S116 p75 k75 h=>Ag (h.pick [8,9] rfl) (At 9 14 1023 16895 rfl ?_ ?_)
      ·refine qa2 r8 h (cB 28 rfl) (qB ⟨_,_,rfl,(h.oldS s8)⟩ hr8) rfl rfl rfl rfl fun w60 S117 p76 k76 h=>Ag (h.pick [9,10] rfl) (At 10 14 2047 17407 rfl ?_ ?_)
       ·refine qaP (r10,r11) h (cB 32 rfl) (qbb ⟨[.slice p69 r4.Ar.Ap.length k69],[.slice p70 r4.Aa.Ab.length k70,.slice p71 r4.Aa.Ai.length k71,.slice p72 r4.Aa.Ah.length k72,.slice p73 r4.Ac.length k73],rfl,(h.own 4 rfl),⟨[.slice p70 r4.Aa.Ab.length k70,.slice p71 r4.Aa.Ai.length k71,.slice p72 r4.Aa.Ah.length k72],[.slice p73 r4.Ac.length k73],rfl,⟨[.slice p70 r4.Aa.Ab.length k70],[.slice p71 r4.Aa.Ai.length k71,.slice p72 r4.Aa.Ah.length k72],rfl,(h.own 7 rfl),⟨[.slice p71 r4.Aa.Ai.length k71],[.slice p72 r4.Aa.Ah.length k72],rfl,(h.own 6 rfl),(h.own 5 rfl)⟩⟩,(h.own 8 rfl)⟩⟩ (h.own 3 rfl) (h.own 2 rfl) (h.own 1 rfl) (h.own 0 rfl) hr9) rfl rfl rfl rfl fun w61 S118 us17 hv25 hr34=>?_
        obtain ⟨S119,S120,cs23,us18,rfl,hv26,hr35⟩:=hv25.cons hr34
        obtain ⟨p77,k77,p78,k78,p79,k79,rfl,-,-,-⟩:=qad (hv26.sh.own 0 rfl)
        obtain ⟨rfl,h⟩:=hv26.lastI hr35
        obtain ⟨S122,S123,S124,h⟩:=qaE h
        refine G0 16383 [11,12,13] (h.pick [12,13] rfl) rfl (Ao 14 32767 rfl (qp qa h rfl rfl rfl fun w62 bb12 h=>Ag (h.pick [13,14] rfl) (Ao 15 65535 rfl (zs 0 h rfl fun w63 h=>G0 131071 [16] (h.pick [13,14] rfl) rfl (Ad ?_)))))
        replace h:=h.pick [0,1,2,3,13,14] rfl
        exact rG ⟨_,_,_,_,_,_,_,_,_,_,rfl,h⟩ rfl
       refine qp qa h rfl rfl rfl fun w64 bb13 h=>Ag (h.pick [10,11] rfl) (Ao 10 18431 rfl (qaP (r10,r11) h (cB 32 rfl) (qbb ⟨[.slice p69 r4.Ar.Ap.length k69],[.slice p70 r4.Aa.Ab.length k70,.slice p71 r4.Aa.Ai.length k71,.slice p72 r4.Aa.Ah.length k72,.slice p73 r4.Ac.length k73],rfl,(h.own 5 rfl),⟨[.slice p70 r4.Aa.Ab.length k70,.slice p71 r4.Aa.Ai.length k71,.slice p72 r4.Aa.Ah.length k72],[.slice p73 r4.Ac.length k73],rfl,⟨[.slice p70 r4.Aa.Ab.length k70],[.slice p71 r4.Aa.Ai.length k71,.slice p72 r4.Aa.Ah.length k72],rfl,(h.own 8 rfl),⟨[.slice p71 r4.Aa.Ai.length k71],[.slice p72 r4.Aa.Ah.length k72],rfl,(h.own 7 rfl),(h.own 6 rfl)⟩⟩,(h.own 9 rfl)⟩⟩ (h.own 4 rfl) (h.own 3 rfl) (h.own 2 rfl) (h.own 1 rfl) hr9) rfl rfl rfl rfl fun w65 S125 us19 hv28 hr37=>?_))
       obtain ⟨S126,S127,cs24,us20,rfl,hv29,hr38⟩:=hv28.cons hr37
       obtain ⟨p80,k80,p81,k81,p82,k82,rfl,-,-,-⟩:=qad (hv29.sh.own 0 rfl)
       obtain ⟨rfl,h⟩:=hv29.lastI hr38
       obtain ⟨S129,S130,S131,h⟩:=qaE h
       refine G0 32767 [11,12,13] (h.pick [13,14] rfl) rfl (Ao 15 65535 rfl (zs 3 h rfl fun w66 h=>G0 131071 [16] (h.pick [13,14] rfl) rfl (Ad ?_)))
       replace h:=h.pick [3,0,1,2,13,14] rfl
       exact rG ⟨_,_,_,_,_,_,_,_,_,_,rfl,h⟩ rfl
      refine qp qa h rfl rfl rfl fun w67 bb14 h=>Ag (h.pick [9,10] rfl) (Ao 9 17407 rfl (qa2 r8 h (cB 28 rfl) (qB ⟨_,_,rfl,(h.oldS s8)⟩ hr8) rfl rfl rfl rfl fun w68 S132 p83 k83 h=>Ag (h.pick [10,11] rfl) (Ao 10 18431 rfl (qaP (r10,r11) h (cB 32 rfl) (qbb ⟨[.slice p69 r4.Ar.Ap.length k69],[.slice p70 r4.Aa.Ab.length k70,.slice p71 r4.Aa.Ai.length k71,.slice p72 r4.Aa.Ah.length k72,.slice p73 r4.Ac.length k73],rfl,(h.own 5 rfl),⟨[.slice p70 r4.Aa.Ab.length k70,.slice p71 r4.Aa.Ai.length k71,.slice p72 r4.Aa.Ah.length k72],[.slice p73 r4.Ac.length k73],rfl,⟨[.slice p70 r4.Aa.Ab.length k70],[.slice p71 r4.Aa.Ai.length k71,.slice p72 r4.Aa.Ah.length k72],rfl,(h.own 8 rfl),⟨[.slice p71 r4.Aa.Ai.length k71],[.slice p72 r4.Aa.Ah.length k72],rfl,(h.own 7 rfl),(h.own 6 rfl)⟩⟩,(h.own 9 rfl)⟩⟩ (h.own 4 rfl) (h.own 3 rfl) (h.own 2 rfl) (h.own 0 rfl) hr9) rfl rfl rfl rfl fun w69 S133 us21 hv31 hr40=>?_))))
      obtain ⟨S134,S135,cs25,us22,rfl,hv32,hr41⟩:=hv31.cons hr40
      obtain ⟨p84,k84,p85,k85,p86,k86,rfl,-,-,-⟩:=qad (hv32.sh.own 0 rfl)
      obtain ⟨rfl,h⟩:=hv32.lastI hr41
      obtain ⟨S137,S138,S139,h⟩:=qaE h
      refine G0 32767 [11,12,13] (h.pick [13,14] rfl) rfl (Ao 15 65535 rfl (zs 4 h rfl fun w70 h=>G0 131071 [16] (h.pick [13,14] rfl) rfl (Ad ?_)))
      replace h:=h.pick [4,0,1,2,13,14] rfl
      exact rG ⟨_,_,_,_,_,_,_,_,_,_,rfl,h⟩ rfl
     refine qp qa h rfl rfl rfl fun w71 bb15 h=>Ag (h.pick [8,9] rfl) (Ao 7 16895 rfl (qa2 r7 h (cB 29 rfl) (qaR ⟨_,_,rfl,(h.oldS s7)⟩ hr7) rfl rfl rfl rfl fun w72 S140 p87 k87 h=>Ag (h.pick [9,10] rfl) (Ao 9 17407 rfl (qa2 r8 h (cB 28 rfl) (qB ⟨_,_,rfl,(h.oldS s8)⟩ hr8) rfl rfl rfl rfl fun w73 S141 p88 k88 h=>Ag (h.pick [10,11] rfl) (Ao 10 18431 rfl (qaP (r10,r11) h (cB 32 rfl) (qbb ⟨[.slice p69 r4.Ar.Ap.length k69],[.slice p70 r4.Aa.Ab.length k70,.slice p71 r4.Aa.Ai.length k71,.slice p72 r4.Aa.Ah.length k72,.slice p73 r4.Ac.length k73],rfl,(h.own 5 rfl),⟨[.slice p70 r4.Aa.Ab.length k70,.slice p71 r4.Aa.Ai.length k71,.slice p72 r4.Aa.Ah.length k72],[.slice p73 r4.Ac.length k73],rfl,⟨[.slice p70 r4.Aa.Ab.length k70],[.slice p71 r4.Aa.Ai.length k71,.slice p72 r4.Aa.Ah.length k72],rfl,(h.own 8 rfl),⟨[.slice p71 r4.Aa.Ai.length k71],[.slice p72 r4.Aa.Ah.length k72],rfl,(h.own 7 rfl),(h.own 6 rfl)⟩⟩,(h.own 9 rfl)⟩⟩ (h.own 4 rfl) (h.own 3 rfl) (h.own 1 rfl) (h.own 0 rfl) hr9) rfl rfl rfl rfl fun w74 S142 us23 hv34 hr43=>?_))))))
     obtain ⟨S143,S144,cs26,us24,rfl,hv35,hr44⟩:=hv34.cons hr43
     obtain ⟨p89,k89,p90,k90,p91,k91,rfl,-,-,-⟩:=qad (hv35.sh.own 0 rfl)
     obtain ⟨rfl,h⟩:=hv35.lastI hr44
     obtain ⟨S146,S147,S148,h⟩:=qaE h
     refine G0 32767 [11,12,13] (h.pick [13,14] rfl) rfl (Ao 15 65535 rfl (zs 5 h rfl fun w75 h=>G0 131071 [16] (h.pick [13,14] rfl) rfl (Ad ?_)))
     replace h:=h.pick [5,0,1,2,13,14] rfl
     exact rG ⟨_,_,_,_,_,_,_,_,_,_,rfl,h⟩ rfl
    refine qp qa h rfl rfl rfl fun w76 bb16 h=>Ag (h.pick [7,8] rfl) (Ao 5 16767 rfl (qa2 r6 h (cB 28 rfl) (qB ⟨_,_,rfl,(h.oldS s6)⟩ hr6) rfl rfl rfl rfl fun w77 S149 p92 k92 h=>Ag (h.pick [8,9] rfl) (Ao 7 16895 rfl (qa2 r7 h (cB 29 rfl) (qaR ⟨_,_,rfl,(h.oldS s7)⟩ hr7) rfl rfl rfl rfl fun w78 S150 p93 k93 h=>Ag (h.pick [9,10] rfl) (Ao 9 17407 rfl (qa2 r8 h (cB 28 rfl) (qB ⟨_,_,rfl,(h.oldS s8)⟩ hr8) rfl rfl rfl rfl fun w79 S151 p94 k94 h=>Ag (h.pick [10,11] rfl) (Ao 10 18431 rfl (qaP (r10,r11) h (cB 32 rfl) (qbb ⟨[.slice p69 r4.Ar.Ap.length k69],[.slice p70 r4.Aa.Ab.length k70,.slice p71 r4.Aa.Ai.length k71,.slice p72 r4.Aa.Ah.length k72,.slice p73 r4.Ac.length k73],rfl,(h.own 5 rfl),⟨[.slice p70 r4.Aa.Ab.length k70,.slice p71 r4.Aa.Ai.length k71,.slice p72 r4.Aa.Ah.length k72],[.slice p73 r4.Ac.length k73],rfl,⟨[.slice p70 r4.Aa.Ab.length k70],[.slice p71 r4.Aa.Ai.length k71,.slice p72 r4.Aa.Ah.length k72],rfl,(h.own 8 rfl),⟨[.slice p71 r4.Aa.Ai.length k71],[.slice p72 r4.Aa.Ah.length k72],rfl,(h.own 7 rfl),(h.own 6 rfl)⟩⟩,(h.own 9 rfl)⟩⟩ (h.own 4 rfl) (h.own 2 rfl) (h.own 1 rfl) (h.own 0 rfl) hr9) rfl rfl rfl rfl fun w80 S152 us25 hv37 hr46=>?_))))))))
    obtain ⟨S153,S154,cs27,us26,rfl,hv38,hr47⟩:=hv37.cons hr46
    obtain ⟨p95,k95,p96,k96,p97,k97,rfl,-,-,-⟩:=qad (hv38.sh.own 0 rfl)
    obtain ⟨rfl,h⟩:=hv38.lastI hr47
    obtain ⟨S156,S157,S158,h⟩:=qaE h
    refine G0 32767 [11,12,13] (h.pick [13,14] rfl) rfl (Ao 15 65535 rfl (zs 6 h rfl fun w81 h=>G0 131071 [16] (h.pick [13,14] rfl) rfl (Ad ?_)))
    replace h:=h.pick [6,0,1,2,13,14] rfl
    exact rG ⟨_,_,_,_,_,_,_,_,_,_,rfl,h⟩ rfl
   refine qp qa h rfl rfl rfl fun w82 bb17 h=>Ag (h.pick [6,7] rfl) (Ao 3 16735 rfl (qee r5 h (cB 27 rfl) (qco (h.old ha2) hr5) rfl rfl rfl rfl fun w83 S159 cs28 h=>?_))
   obtain rfl:=qah (h.own 0 rfl)
   refine Ag (h.pick [7,8] rfl) (Ao 5 16767 rfl (qa2 r6 h (cB 28 rfl) (qB ⟨_,_,rfl,(h.oldS s6)⟩ hr6) rfl rfl rfl rfl fun w84 S160 p98 k98 h=>Ag (h.pick [8,9] rfl) (Ao 7 16895 rfl (qa2 r7 h (cB 29 rfl) (qaR ⟨_,_,rfl,(h.oldS s7)⟩ hr7) rfl rfl rfl rfl fun w85 S161 p99 k99 h=>Ag (h.pick [9,10] rfl) (Ao 9 17407 rfl (qa2 r8 h (cB 28 rfl) (qB ⟨_,_,rfl,(h.oldS s8)⟩ hr8) rfl rfl rfl rfl fun w86 S162 p100 k100 h=>Ag (h.pick [10,11] rfl) (Ao 10 18431 rfl (qaP (r10,r11) h (cB 32 rfl) (qbb ⟨[.slice p69 r4.Ar.Ap.length k69],[.slice p70 r4.Aa.Ab.length k70,.slice p71 r4.Aa.Ai.length k71,.slice p72 r4.Aa.Ah.length k72,.slice p73 r4.Ac.length k73],rfl,(h.own 5 rfl),⟨[.slice p70 r4.Aa.Ab.length k70,.slice p71 r4.Aa.Ai.length k71,.slice p72 r4.Aa.Ah.length k72],[.slice p73 r4.Ac.length k73],rfl,⟨[.slice p70 r4.Aa.Ab.length k70],[.slice p71 r4.Aa.Ai.length k71,.slice p72 r4.Aa.Ah.length k72],rfl,(h.own 8 rfl),⟨[.slice p71 r4.Aa.Ai.length k71],[.slice p72 r4.Aa.Ah.length k72],rfl,(h.own 7 rfl),(h.own 6 rfl)⟩⟩,(h.own 9 rfl)⟩⟩ (h.own 3 rfl) (h.own 2 rfl) (h.own 1 rfl) (h.own 0 rfl) hr9) rfl rfl rfl rfl fun w87 S163 us27 hv40 hr49=>?_))))))))
   obtain ⟨S164,S165,cs29,us28,rfl,hv41,hr50⟩:=hv40.cons hr49
   obtain ⟨p101,k101,p102,k102,p103,k103,rfl,-,-,-⟩:=qad (hv41.sh.own 0 rfl)
   obtain ⟨rfl,h⟩:=hv41.lastI hr50
   obtain ⟨S167,S168,S169,h⟩:=qaE h
   refine G0 32767 [11,12,13] (h.pick [13,14] rfl) rfl (Ao 15 65535 rfl (zs 7 h rfl fun w88 h=>G0 131071 [16] (h.pick [13,14] rfl) rfl (Ad ?_)))
   replace h:=h.pick [7,0,1,2,13,14] rfl
   exact rG ⟨_,_,_,_,_,_,_,_,_,_,rfl,h⟩ rfl
  refine qp qa h rfl rfl rfl fun w89 bb18 h=>Ag (h.pick [1,2] rfl) (Ao 1 16727 rfl (qee r4 h (cB 11 rfl) (qeW (h.old ha1) hr4) rfl rfl rfl rfl fun w90 S170 cs30 h=>?_))
  obtain ⟨p104,k104,p105,k105,p106,k106,p107,k107,p108,k108,rfl,-,-,-,-,-⟩:=qI (h.own 0 rfl)
  obtain ⟨S171,S172,S173,h⟩:=qhU h
  replace h:=h.pick [1,0,2,3,4,5] rfl
  obtain ⟨S174,S175,S176,h⟩:=qhV h
  replace h:=h.pick [4,0,1,2,3,5,6,7] rfl
  obtain ⟨S177,h⟩:=qhi h
  refine Ag (h.pick [6,7] rfl) (Ao 3 16735 rfl (qee r5 h (cB 27 rfl) (qco (h.old ha2) hr5) rfl rfl rfl rfl fun w91 S178 cs31 h=>?_))
  obtain rfl:=qah (h.own 0 rfl)
  refine Ag (h.pick [7,8] rfl) (Ao 5 16767 rfl (qa2 r6 h (cB 28 rfl) (qB ⟨_,_,rfl,(h.oldS s6)⟩ hr6) rfl rfl rfl rfl fun w92 S179 p109 k109 h=>Ag (h.pick [8,9] rfl) (Ao 7 16895 rfl (qa2 r7 h (cB 29 rfl) (qaR ⟨_,_,rfl,(h.oldS s7)⟩ hr7) rfl rfl rfl rfl fun w93 S180 p110 k110 h=>Ag (h.pick [9,10] rfl) (Ao 9 17407 rfl (qa2 r8 h (cB 28 rfl) (qB ⟨_,_,rfl,(h.oldS s8)⟩ hr8) rfl rfl rfl rfl fun w94 S181 p111 k111 h=>Ag (h.pick [10,11] rfl) (Ao 10 18431 rfl (qaP (r10,r11) h (cB 32 rfl) (qbb ⟨[.slice p104 r4.Ar.Ap.length k104],[.slice p105 r4.Aa.Ab.length k105,.slice p106 r4.Aa.Ai.length k106,.slice p107 r4.Aa.Ah.length k107,.slice p108 r4.Ac.length k108],rfl,(h.own 4 rfl),⟨[.slice p105 r4.Aa.Ab.length k105,.slice p106 r4.Aa.Ai.length k106,.slice p107 r4.Aa.Ah.length k107],[.slice p108 r4.Ac.length k108],rfl,⟨[.slice p105 r4.Aa.Ab.length k105],[.slice p106 r4.Aa.Ai.length k106,.slice p107 r4.Aa.Ah.length k107],rfl,(h.own 7 rfl),⟨[.slice p106 r4.Aa.Ai.length k106],[.slice p107 r4.Aa.Ah.length k107],rfl,(h.own 6 rfl),(h.own 5 rfl)⟩⟩,(h.own 8 rfl)⟩⟩ (h.own 3 rfl) (h.own 2 rfl) (h.own 1 rfl) (h.own 0 rfl) hr9) rfl rfl rfl rfl fun w95 S182 us29 hv43 hr52=>?_))))))))
  obtain ⟨S183,S184,cs32,us30,rfl,hv44,hr53⟩:=hv43.cons hr52
  obtain ⟨p112,k112,p113,k113,p114,k114,rfl,-,-,-⟩:=qad (hv44.sh.own 0 rfl)
  obtain ⟨rfl,h⟩:=hv44.lastI hr53
  obtain ⟨S186,S187,S188,h⟩:=qaE h
  refine G0 32767 [11,12,13] (h.pick [13,14] rfl) rfl (Ao 15 65535 rfl (zs 12 h rfl fun w96 h=>G0 131071 [16] (h.pick [13,14] rfl) rfl (Ad ?_)))
  replace h:=h.pick [12,0,1,2,13,14] rfl
  exact rG ⟨_,_,_,_,_,_,_,_,_,_,rfl,h⟩ rfl
 rintro e1 w97 ⟨bb11,S103,p66,k66,S104,p67,k67,S105,p68,k68,rfl,h⟩
 refine X1 3 5 h rfl (zcO h hF (qeW (h.old ha1)) rfl fun r12 w98 S189 cs33 h hF=>?_)
 obtain ⟨p115,k115,p116,k116,p117,k117,p118,k118,p119,k119,rfl,-,-,-,-,-⟩:=qI (h.own 0 rfl)
 refine qp qa h rfl rfl rfl fun w99 bb19 h=>zs 0 h rfl fun w100 h=>X0 4 rfl (zcL h hF (qB ⟨_,_,rfl,(h.oldS s6)⟩) rfl fun r13 w101 S190 p120 k120 h hF=>X0 5 rfl (zcL h hF (qaR ⟨_,_,rfl,(h.oldS s7)⟩) rfl fun r14 w102 S191 p121 k121 h hF=>X0 5 rfl (zcL h hF (qB ⟨_,_,rfl,(h.oldS s8)⟩) rfl fun r15 w103 S192 p122 k122 h hF=>X0 3 rfl ?_)))
 obtain ⟨r16,hr59,hF⟩:=qd hF
 obtain ⟨r17,hr60,hF⟩:=qd hF
 obtain ⟨r18,r19⟩:=r17
 refine qba (fun e w'=>∃ (bb24:Nat) (S224:Nat→Prop) (p135:Option Addr) (k135:Nat) (S225:Nat→Prop) (p136:Option Addr) (k136:Nat) (S226:Nat→Prop) (p137:Option Addr) (k137:Nat),e=[(2,.slice p6 a_2.length k6),(3,.slice p7 a_3.length k7),(4,.slice p8 a_4.length k8),(5,.pointer (some ⟨bb1,0,none⟩)),(6,.pointer (some ⟨bb2,0,none⟩)),(12,.pointer (some ⟨bb11,0,none⟩)),(13,.int .i64 r11),(14,.pointer (some ⟨bb19,0,none⟩)),(15,.slice p120 r13.length k120),(16,.slice p121 r14.length k121),(17,.slice p122 r15.length k122),(18,.pointer (some ⟨bb24,0,none⟩)),(19,.int .i64 r19)]∧SH w w' [Ch.box bb24 (qaa r18 p137 p136 p135 k137 k136 k135) 57,Ch.own S224 (r18.Aq:List qc) [.slice p135 r18.Aq.length k135],Ch.own S225 (r18.Af:List qc) [.slice p136 r18.Af.length k136],Ch.own S226 (r18.Aj:List Bool) [.slice p137 r18.Aj.length k137],Ch.own S192 (r15:List Int) [.slice p122 r15.length k122],Ch.own S191 (r14:List qe) [.slice p121 r14.length k121],Ch.own S190 (r13:List Int) [.slice p120 r13.length k120],Ch.box bb19 (qZ r12 p115 p116 p117 p118 p119 k115 k116 k117 k118 k119) 53,Ch.own S189 (r12:qg) (qZ r12 p115 p116 p117 p118 p119 k115 k116 k117 k118 k119),Ch.box bb11 (qaa r10 p68 p67 p66 k68 k67 k66) 57,Ch.own S103 (r10.Aq:List qc) [.slice p66 r10.Aq.length k66],Ch.own S104 (r10.Af:List qc) [.slice p67 r10.Af.length k67],Ch.own S105 (r10.Aj:List Bool) [.slice p68 r10.Aj.length k68],Ch.box bb2 (qaq a_1) 71,Ch.box bb1 (qZ a_0 p1 p2 p3 p4 p5 k1 k2 k3 k4 k5) 32]) ?_ ?_
 ·refine rA [] [3,9] h rfl fun w108 h=>M2 59 [0,1,3,4,5] 0 1 (h.pick [3,9] rfl) rfl (At 2 10 63 1083 rfl ?_ ?_)
  ·refine qee r16 h (cB 27 rfl) (qco (h.old ha2) hr59) rfl rfl rfl rfl fun w120 S227 cs41 h=>?_
   obtain rfl:=qah (h.own 0 rfl)
   refine Ag (h.pick [4,10] rfl) (At 6 10 127 1087 rfl ?_ ?_)
   ·refine qaP (r18,r19) h (cB 33 rfl) (qas (h.own 5 rfl) (h.own 0 rfl) (h.own 3 rfl) (h.own 2 rfl) (h.own 1 rfl) hr60) rfl rfl rfl rfl fun w121 S228 us39 hv58 hr73=>?_
    obtain ⟨S229,S230,cs42,us40,rfl,hv59,hr74⟩:=hv58.cons hr73
    obtain ⟨p138,k138,p139,k139,p140,k140,rfl,-,-,-⟩:=qad (hv59.sh.own 0 rfl)
    obtain ⟨rfl,h⟩:=hv59.lastI hr74
    obtain ⟨S232,S233,S234,h⟩:=qaE h
    refine G0 1023 [7,8,9] (h.pick [7,13] rfl) rfl (Ao 10 2047 rfl (qp qa h rfl rfl rfl fun w122 bb25 h=>Ag (h.pick [8,14] rfl) (Ao 11 4095 rfl (zs 0 h rfl fun w123 h=>G0 8191 [12] (h.pick [8,14] rfl) rfl (Ad ?_)))))
    replace h:=h.pick [0,1,2,3,5,6,7,8,9,10,11,12,13,14,15] rfl
    exact rG ⟨_,_,_,_,_,_,_,_,_,_,rfl,h⟩ rfl
   refine qp qa h rfl rfl rfl fun w124 bb26 h=>Ag (h.pick [5,11] rfl) (Ao 6 1151 rfl (qaP (r18,r19) h (cB 33 rfl) (qas (h.own 6 rfl) (h.own 1 rfl) (h.own 4 rfl) (h.own 3 rfl) (h.own 2 rfl) hr60) rfl rfl rfl rfl fun w125 S235 us41 hv61 hr76=>?_))
   obtain ⟨S236,S237,cs43,us42,rfl,hv62,hr77⟩:=hv61.cons hr76
   obtain ⟨p141,k141,p142,k142,p143,k143,rfl,-,-,-⟩:=qad (hv62.sh.own 0 rfl)
   obtain ⟨rfl,h⟩:=hv62.lastI hr77
   obtain ⟨S239,S240,S241,h⟩:=qaE h
   refine G0 2047 [7,8,9] (h.pick [8,14] rfl) rfl (Ao 11 4095 rfl (zs 3 h rfl fun w126 h=>G0 8191 [12] (h.pick [8,14] rfl) rfl (Ad ?_)))
   replace h:=h.pick [3,0,1,2,5,6,7,8,9,10,11,12,13,14,15] rfl
   exact rG ⟨_,_,_,_,_,_,_,_,_,_,rfl,h⟩ rfl
  refine qp qa h rfl rfl rfl fun w127 bb27 h=>Ag (h.pick [4,10] rfl) (Ao 2 1087 rfl (qee r16 h (cB 27 rfl) (qco (h.old ha2) hr59) rfl rfl rfl rfl fun w128 S242 cs44 h=>?_))
  obtain rfl:=qah (h.own 0 rfl)
  refine Ag (h.pick [5,11] rfl) (Ao 6 1151 rfl (qaP (r18,r19) h (cB 33 rfl) (qas (h.own 6 rfl) (h.own 0 rfl) (h.own 4 rfl) (h.own 3 rfl) (h.own 2 rfl) hr60) rfl rfl rfl rfl fun w129 S243 us43 hv64 hr79=>?_))
  obtain ⟨S244,S245,cs45,us44,rfl,hv65,hr80⟩:=hv64.cons hr79
  obtain ⟨p144,k144,p145,k145,p146,k146,rfl,-,-,-⟩:=qad (hv65.sh.own 0 rfl)
  obtain ⟨rfl,h⟩:=hv65.lastI hr80
  obtain ⟨S247,S248,S249,h⟩:=qaE h
  refine G0 2047 [7,8,9] (h.pick [8,14] rfl) rfl (Ao 11 4095 rfl (zs 4 h rfl fun w130 h=>G0 8191 [12] (h.pick [8,14] rfl) rfl (Ad ?_)))
  replace h:=h.pick [4,0,1,2,5,6,7,8,9,10,11,12,13,14,15] rfl
  exact rG ⟨_,_,_,_,_,_,_,_,_,_,rfl,h⟩ rfl
 rintro e2 w131 ⟨bb24,S224,p135,k135,S225,p136,k136,S226,p137,k137,rfl,h⟩
 refine zSS ?_
 obtain ⟨KF3,hKF3,o8,hF,hK3⟩:=bindE hF
 refine qba (fun e w'=>∃ (b1:Bool),KF3 b1=some r∧e=[(2,.slice p6 a_2.length k6),(3,.slice p7 a_3.length k7),(4,.slice p8 a_4.length k8),(5,.pointer (some ⟨bb1,0,none⟩)),(6,.pointer (some ⟨bb2,0,none⟩)),(12,.pointer (some ⟨bb11,0,none⟩)),(13,.int .i64 r11),(14,.pointer (some ⟨bb19,0,none⟩)),(15,.slice p120 r13.length k120),(16,.slice p121 r14.length k121),(17,.slice p122 r15.length k122),(18,.pointer (some ⟨bb24,0,none⟩)),(19,.int .i64 r19),(86,.bool b1)]∧SH w w' [Ch.box bb24 (qaa r18 p137 p136 p135 k137 k136 k135) 57,Ch.own S224 (r18.Aq:List qc) [.slice p135 r18.Aq.length k135],Ch.own S225 (r18.Af:List qc) [.slice p136 r18.Af.length k136],Ch.own S226 (r18.Aj:List Bool) [.slice p137 r18.Aj.length k137],Ch.own S192 (r15:List Int) [.slice p122 r15.length k122],Ch.own S191 (r14:List qe) [.slice p121 r14.length k121],Ch.own S190 (r13:List Int) [.slice p120 r13.length k120],Ch.box bb19 (qZ r12 p115 p116 p117 p118 p119 k115 k116 k117 k118 k119) 53,Ch.own S189 (r12:qg) (qZ r12 p115 p116 p117 p118 p119 k115 k116 k117 k118 k119),Ch.box bb11 (qaa r10 p68 p67 p66 k68 k67 k66) 57,Ch.own S103 (r10.Aq:List qc) [.slice p66 r10.Aq.length k66],Ch.own S104 (r10.Af:List qc) [.slice p67 r10.Af.length k67],Ch.own S105 (r10.Aj:List Bool) [.slice p68 r10.Aj.length k68],Ch.box bb2 (qaq a_1) 71,Ch.box bb1 (qZ a_0 p1 p2 p3 p4 p5 k1 k2 k3 k4 k5) 32]) ?_ ?_
 ·refine X2 3 0 9 h rfl (zcB h hF (qi4 ⟨[.slice p137 r18.Aj.length k137],[.slice p136 r18.Af.length k136,.slice p135 r18.Aq.length k135],rfl,(h.own 3 rfl),⟨[.slice p136 r18.Af.length k136],[.slice p135 r18.Aq.length k135],rfl,(h.own 2 rfl),(h.own 1 rfl)⟩⟩ ⟨[.slice p68 r10.Aj.length k68],[.slice p67 r10.Af.length k67,.slice p66 r10.Aq.length k66],rfl,(h.own 12 rfl),⟨[.slice p67 r10.Af.length k67],[.slice p66 r10.Aq.length k66],rfl,(h.own 11 rfl),(h.own 10 rfl)⟩⟩) rfl fun r45 w244 h hF=>zp2 rfl (qk (t:=82) hF rfl ?_ ?_))<;>intro hF
  ·refine X0 5 rfl ?_
   obtain rfl:=qb hF
   exact rG ⟨_,hK3,rfl,h⟩ rfl
  refine X0 8 rfl ?_
  obtain rfl:=qb hF
  exact rG ⟨_,hK3,rfl,h⟩ rfl
 rintro e6 w245 ⟨b1,hF,rfl,h⟩
 subst hKF3
 refine qh rfl hF ?_ ?_<;>intro hF
 ·exact X0 4 rfl (rb h hF rfl)
 refine zKSS (rA [] [7,14] h rfl fun w132 h=>M2 3 [0,1] 0 1 (h.pick [7,14] rfl) rfl (Ao 2 7 rfl (zcO h hF (qeW (h.old ha1)) rfl fun r20 w133 S250 cs46 h hF=>?_)))
 obtain ⟨p147,k147,p148,k148,p149,k149,p150,k150,p151,k151,rfl,-,-,-,-,-⟩:=qI (h.own 0 rfl)
 refine Ag (h.pick [8,15] rfl) (Ao 3 15 rfl (zcB h hF (qp6 (h.own 9 rfl) (h.own 0 rfl)) rfl fun r21 w134 h hF=>G0 31 [4] (h.pick [8,15] rfl) rfl (Ad (qh rfl hF ?_ ?_))))<;>intro hF
 ·exact X0 4 rfl (rb h hF rfl)
 refine X0 6 rfl (zcL h hF (qB ⟨_,_,rfl,(h.oldS s6)⟩) rfl fun r22 w135 S251 p152 k152 h hF=>zcB h hF (qbk (h.own 8 rfl) (h.own 0 rfl)) rfl fun r23 w136 h hF=>X0 2 rfl (qh rfl hF ?_ ?_))<;>intro hF
 ·exact X0 4 rfl (rb h hF rfl)
 refine X0 6 rfl (zcL h hF (qaR ⟨_,_,rfl,(h.oldS s7)⟩) rfl fun r24 w137 S252 p153 k153 h hF=>zcB h hF (qoN (h.own 8 rfl) (h.own 0 rfl)) rfl fun r25 w138 h hF=>X0 2 rfl (qh rfl hF ?_ ?_))<;>intro hF
 ·exact X0 4 rfl (rb h hF rfl)
 refine X0 6 rfl (zcL h hF (qB ⟨_,_,rfl,(h.oldS s8)⟩) rfl fun r26 w139 S253 p154 k154 h hF=>zcB h hF (qbk (h.own 8 rfl) (h.own 0 rfl)) rfl fun r27 w140 h hF=>X0 2 rfl (qh rfl hF ?_ ?_))<;>intro hF
 ·exact X0 4 rfl (rb h hF rfl)
 refine X1 9 11 h rfl ?_
 replace h:=h.pick [12,0,1,2,3,4,5,6,7,8,9,10,11,13,14,15,16,17,18] rfl
 obtain ⟨S254,S255,S256,h⟩:=qhU h
 replace h:=h.pick [2,0,1,3,4,5,6,7,8,9,10,11,12,13,14,15,16,17,18,19,20] rfl
 obtain ⟨S257,h⟩:=qhi h
 replace h:=h.pick [2,0,1,3,4,5,6,7,8,9,10,11,12,13,14,15,16,17,18,19,20] rfl
 obtain ⟨S258,S259,S260,h⟩:=qhV h
 replace h:=h.pick [4,0,1,2,3,9,10,11,12,13,14,15,17,18,19,20,21,22] rfl
 obtain ⟨o1,hr90,hF⟩:=qd hF
 obtain ⟨r28,x1,x2,x3,x4,x5⟩:=o1
 refine qbP r28 (cB 19 rfl) (qn4 h hr90) rfl rfl rfl rfl ?_
 rintro w141 ⟨S261,S262,S263,S264,S265,h⟩
 replace h:SH _ _ [Ch.own S265 (x5:List qE) [.slice p119 r12.Ac.length k119],Ch.own S264 (x4:List qP) [.slice p118 r12.Aa.Ah.length k118],Ch.own S263 (x3:List ByteArray) [.slice p117 r12.Aa.Ai.length k117],Ch.own S262 (x2:List qi) [.slice p116 r12.Aa.Ab.length k116],Ch.own S261 (x1:List qw) [.slice p115 r12.Ar.Ap.length k115],Ch.box bb24 (qaa r18 p137 p136 p135 k137 k136 k135) 57,Ch.own S224 (r18.Aq:List qc) [.slice p135 r18.Aq.length k135],Ch.own S225 (r18.Af:List qc) [.slice p136 r18.Af.length k136],Ch.own S226 (r18.Aj:List Bool) [.slice p137 r18.Aj.length k137],Ch.own S192 (r15:List Int) [.slice p122 r15.length k122],Ch.own S191 (r14:List qe) [.slice p121 r14.length k121],Ch.own S190 (r13:List Int) [.slice p120 r13.length k120],Ch.box bb11 (qaa r10 p68 p67 p66 k68 k67 k66) 57,Ch.own S103 (r10.Aq:List qc) [.slice p66 r10.Aq.length k66],Ch.own S104 (r10.Af:List qc) [.slice p67 r10.Af.length k67],Ch.own S105 (r10.Aj:List Bool) [.slice p68 r10.Aj.length k68],Ch.box bb2 (qaq a_1) 71,Ch.box bb1 (qZ a_0 p1 p2 p3 p4 p5 k1 k2 k3 k4 k5) 32]:=h
 refine X0 6 rfl ?_
 replace h:=h.pick [11,5,6,7,8,9,10,12,13,14,15,16,17] rfl
 obtain ⟨o2,hr91,hF⟩:=qd hF
 obtain ⟨r29,x6⟩:=o2
 refine qbP r29 (cB 22 rfl) (qaM h hr91) rfl rfl rfl rfl ?_
 rintro w142 ⟨S266,h⟩
 replace h:SH _ _ [Ch.own S266 (x6:List Int) [.slice p120 r13.length k120],Ch.box bb24 (qaa r18 p137 p136 p135 k137 k136 k135) 57,Ch.own S224 (r18.Aq:List qc) [.slice p135 r18.Aq.length k135],Ch.own S225 (r18.Af:List qc) [.slice p136 r18.Af.length k136],Ch.own S226 (r18.Aj:List Bool) [.slice p137 r18.Aj.length k137],Ch.own S192 (r15:List Int) [.slice p122 r15.length k122],Ch.own S191 (r14:List qe) [.slice p121 r14.length k121],Ch.box bb11 (qaa r10 p68 p67 p66 k68 k67 k66) 57,Ch.own S103 (r10.Aq:List qc) [.slice p66 r10.Aq.length k66],Ch.own S104 (r10.Af:List qc) [.slice p67 r10.Af.length k67],Ch.own S105 (r10.Aj:List Bool) [.slice p68 r10.Aj.length k68],Ch.box bb2 (qaq a_1) 71,Ch.box bb1 (qZ a_0 p1 p2 p3 p4 p5 k1 k2 k3 k4 k5) 32]:=h
 refine X0 6 rfl ?_
 replace h:=h.pick [6,1,2,3,4,5,7,8,9,10,11,12] rfl
 obtain ⟨o3,hr92,hF⟩:=qd hF
 obtain ⟨r30,x7⟩:=o3
 refine qbP r30 (cB 34 rfl) (qnh h hr92) rfl rfl rfl rfl ?_
 rintro w143 ⟨S267,h⟩
 replace h:SH _ _ [Ch.own S267 (x7:List qe) [.slice p121 r14.length k121],Ch.box bb24 (qaa r18 p137 p136 p135 k137 k136 k135) 57,Ch.own S224 (r18.Aq:List qc) [.slice p135 r18.Aq.length k135],Ch.own S225 (r18.Af:List qc) [.slice p136 r18.Af.length k136],Ch.own S226 (r18.Aj:List Bool) [.slice p137 r18.Aj.length k137],Ch.own S192 (r15:List Int) [.slice p122 r15.length k122],Ch.box bb11 (qaa r10 p68 p67 p66 k68 k67 k66) 57,Ch.own S103 (r10.Aq:List qc) [.slice p66 r10.Aq.length k66],Ch.own S104 (r10.Af:List qc) [.slice p67 r10.Af.length k67],Ch.own S105 (r10.Aj:List Bool) [.slice p68 r10.Aj.length k68],Ch.box bb2 (qaq a_1) 71,Ch.box bb1 (qZ a_0 p1 p2 p3 p4 p5 k1 k2 k3 k4 k5) 32]:=h
 refine X0 6 rfl ?_
 replace h:=h.pick [5,1,2,3,4,6,7,8,9,10,11] rfl
 obtain ⟨o4,hr93,hF⟩:=qd hF
 obtain ⟨r31,x8⟩:=o4
 refine qbP r31 (cB 22 rfl) (qaM h hr93) rfl rfl rfl rfl ?_
 rintro w144 ⟨S268,h⟩
 replace h:SH _ _ [Ch.own S268 (x8:List Int) [.slice p122 r15.length k122],Ch.box bb24 (qaa r18 p137 p136 p135 k137 k136 k135) 57,Ch.own S224 (r18.Aq:List qc) [.slice p135 r18.Aq.length k135],Ch.own S225 (r18.Af:List qc) [.slice p136 r18.Af.length k136],Ch.own S226 (r18.Aj:List Bool) [.slice p137 r18.Aj.length k137],Ch.box bb11 (qaa r10 p68 p67 p66 k68 k67 k66) 57,Ch.own S103 (r10.Aq:List qc) [.slice p66 r10.Aq.length k66],Ch.own S104 (r10.Af:List qc) [.slice p67 r10.Af.length k67],Ch.own S105 (r10.Aj:List Bool) [.slice p68 r10.Aj.length k68],Ch.box bb2 (qaq a_1) 71,Ch.box bb1 (qZ a_0 p1 p2 p3 p4 p5 k1 k2 k3 k4 k5) 32]:=h
 refine X0 4 rfl ?_
 obtain ⟨KF2,hKF2,o7,hF,hK2⟩:=bindE hF
 refine qba (fun e w'=>∃ (b2:Bool),KF2 b2=some r∧e=[(2,.slice p6 a_2.length k6),(3,.slice p7 a_3.length k7),(4,.slice p8 a_4.length k8),(5,.pointer (some ⟨bb1,0,none⟩)),(6,.pointer (some ⟨bb2,0,none⟩)),(12,.pointer (some ⟨bb11,0,none⟩)),(13,.int .i64 r11),(18,.pointer (some ⟨bb24,0,none⟩)),(131,.bool b2)]∧SH w w' [Ch.box bb24 (qaa r18 p137 p136 p135 k137 k136 k135) 57,Ch.own S224 (r18.Aq:List qc) [.slice p135 r18.Aq.length k135],Ch.own S225 (r18.Af:List qc) [.slice p136 r18.Af.length k136],Ch.own S226 (r18.Aj:List Bool) [.slice p137 r18.Aj.length k137],Ch.box bb11 (qaa r10 p68 p67 p66 k68 k67 k66) 57,Ch.own S103 (r10.Aq:List qc) [.slice p66 r10.Aq.length k66],Ch.own S104 (r10.Af:List qc) [.slice p67 r10.Af.length k67],Ch.own S105 (r10.Aj:List Bool) [.slice p68 r10.Aj.length k68],Ch.box bb2 (qaq a_1) 71,Ch.box bb1 (qZ a_0 p1 p2 p3 p4 p5 k1 k2 k3 k4 k5) 32]) ?_ ?_
 ·refine X0 4 rfl (qk (t:=121) hF rfl ?_ ?_)<;>intro hF
  ·refine X0 11 rfl ?_
   replace h:=h.pick [1,2,3,4,5,6,7,8,9,10] rfl
   obtain rfl:=qb hF
   exact rG ⟨_,hK2,rfl,h⟩ rfl
  refine X2 5 1 5 h rfl (zcB h hF (qi4 ⟨[.slice p137 r18.Aj.length k137],[.slice p136 r18.Af.length k136,.slice p135 r18.Aq.length k135],rfl,(h.own 4 rfl),⟨[.slice p136 r18.Af.length k136],[.slice p135 r18.Aq.length k135],rfl,(h.own 3 rfl),(h.own 2 rfl)⟩⟩ ⟨[.slice p68 r10.Aj.length k68],[.slice p67 r10.Af.length k67,.slice p66 r10.Aq.length k66],rfl,(h.own 8 rfl),⟨[.slice p67 r10.Af.length k67],[.slice p66 r10.Aq.length k66],rfl,(h.own 7 rfl),(h.own 6 rfl)⟩⟩) rfl fun r44 w242 h hF=>X0 4 rfl (qk (t:=127) hF rfl ?_ ?_))<;>intro hF
  ·refine X0 5 rfl ?_
   replace h:=h.pick [1,2,3,4,5,6,7,8,9,10] rfl
   obtain rfl:=qb hF
   exact rG ⟨_,hK2,rfl,h⟩ rfl
  refine X0 8 rfl ?_
  replace h:=h.pick [1,2,3,4,5,6,7,8,9,10] rfl
  obtain rfl:=qb hF
  exact rG ⟨_,hK2,rfl,h⟩ rfl
 rintro e5 w243 ⟨b2,hF,rfl,h⟩
 subst hKF2
 refine qh rfl hF ?_ ?_<;>intro hF
 ·exact X0 4 rfl (rb h hF rfl)
 refine X1 9 0 h rfl ?_
 replace h:=h.pick [1,2,3,0,4,5,6,7,8,9] rfl
 obtain ⟨o5,hr94,hF⟩:=qd hF
 obtain ⟨r32,x9,x10,x11⟩:=o5
 refine qbP r32 (cB 20 rfl) (qnR h hr94) rfl rfl rfl rfl ?_
 rintro w145 ⟨S269,S270,S271,h⟩
 replace h:SH _ _ [Ch.own S271 (x11:List qc) [.slice p135 r18.Aq.length k135],Ch.own S270 (x10:List qc) [.slice p136 r18.Af.length k136],Ch.own S269 (x9:List Bool) [.slice p137 r18.Aj.length k137],Ch.box bb24 (qaa r18 p137 p136 p135 k137 k136 k135) 57,Ch.box bb11 (qaa r10 p68 p67 p66 k68 k67 k66) 57,Ch.own S103 (r10.Aq:List qc) [.slice p66 r10.Aq.length k66],Ch.own S104 (r10.Af:List qc) [.slice p67 r10.Af.length k67],Ch.own S105 (r10.Aj:List Bool) [.slice p68 r10.Aj.length k68],Ch.box bb2 (qaq a_1) 71,Ch.box bb1 (qZ a_0 p1 p2 p3 p4 p5 k1 k2 k3 k4 k5) 32]:=h
 refine X1 10 3 h rfl (zcI h hF (qkS ⟨[.slice p137 r18.Aj.length k137],[.slice p136 r18.Af.length k136,.slice p135 r18.Aq.length k135],rfl,(h.own 2 rfl),⟨[.slice p136 r18.Af.length k136],[.slice p135 r18.Aq.length k135],rfl,(h.own 1 rfl),(h.own 0 rfl)⟩⟩) rfl fun r33 w146 h hF=>X0 8 rfl (qh rfl hF ?_ ?_))<;>intro hF
 ·exact X0 4 rfl (rb h hF rfl)
 refine X0 8 rfl (qh rfl hF ?_ ?_)<;>intro hF
 ·exact X0 4 rfl (rb h hF rfl)
 refine zKS ?_
 obtain ⟨r34,hr96,hF⟩:=qd hF
 obtain ⟨r35,hr97,hF⟩:=qd hF
 obtain ⟨r36,hr98,hF⟩:=qd hF
 obtain ⟨r37,hr99,hF⟩:=qd hF
 obtain ⟨r38,hr100,hF⟩:=qd hF
 obtain ⟨r39,hr101,hF⟩:=qd hF
 obtain ⟨r40,r41⟩:=r39
 refine qba (fun e w'=>∃ (bb36:Nat) (S374:Nat→Prop) (p212:Option Addr) (k212:Nat) (S375:Nat→Prop) (p213:Option Addr) (k213:Nat) (S376:Nat→Prop) (p214:Option Addr) (k214:Nat),e=[(12,.pointer (some ⟨bb11,0,none⟩)),(13,.int .i64 r11),(18,.pointer (some ⟨bb24,0,none⟩)),(21,.int .i64 r32),(23,.pointer (some ⟨bb36,0,none⟩)),(24,.int .i64 r41)]∧SH w w' [Ch.box bb36 (qaa r40 p214 p213 p212 k214 k213 k212) 57,Ch.own S374 (r40.Aq:List qc) [.slice p212 r40.Aq.length k212],Ch.own S375 (r40.Af:List qc) [.slice p213 r40.Af.length k213],Ch.own S376 (r40.Aj:List Bool) [.slice p214 r40.Aj.length k214],Ch.own S271 (x11:List qc) [.slice p135 r18.Aq.length k135],Ch.own S270 (x10:List qc) [.slice p136 r18.Af.length k136],Ch.own S269 (x9:List Bool) [.slice p137 r18.Aj.length k137],Ch.box bb24 (qaa r18 p137 p136 p135 k137 k136 k135) 57,Ch.box bb11 (qaa r10 p68 p67 p66 k68 k67 k66) 57,Ch.own S103 (r10.Aq:List qc) [.slice p66 r10.Aq.length k66],Ch.own S104 (r10.Af:List qc) [.slice p67 r10.Af.length k67],Ch.own S105 (r10.Aj:List Bool) [.slice p68 r10.Aj.length k68]]) ?_ ?_
 ·refine rA [] [8,9] h rfl fun w155 h=>M2 341 [0,2,4,6,8] 1 0 (h.pick [8,9] rfl) rfl (At 1 14 343 16725 rfl ?_ ?_)
  ·refine qee r34 h (cB 11 rfl) (qeW (qqM _ (h.oldS s1) (h.oldS s2) (h.oldS s3) (h.oldS s4) (h.oldS s5)) hr96) rfl rfl rfl rfl fun w197 S377 cs62 h=>?_
   obtain ⟨p215,k215,p216,k216,p217,k217,p218,k218,p219,k219,rfl,-,-,-,-,-⟩:=qI (h.own 0 rfl)
   obtain ⟨S378,S379,S380,h⟩:=qhU h
   replace h:=h.pick [1,0,2,3,4,5,6,7,8,9,10,11,12] rfl
   obtain ⟨S381,S382,S383,h⟩:=qhV h
   replace h:=h.pick [4,0,1,2,3,5,6,7,8,9,10,11,12,13,14] rfl
   obtain ⟨S384,h⟩:=qhi h
   refine Ag (h.pick [13,14] rfl) (At 3 14 351 16727 rfl ?_ ?_)
   ·refine qee r35 h (cB 27 rfl) (qco (qlq _) hr97) rfl rfl rfl rfl fun w198 S385 cs63 h=>?_
    obtain rfl:=qah (h.own 0 rfl)
    refine Ag (h.pick [14,15] rfl) (At 5 14 383 16735 rfl ?_ ?_)
    ·refine qa2 r36 h (cB 28 rfl) (qB ⟨_,_,rfl,(h.oldS s6)⟩ hr98) rfl rfl rfl rfl fun w199 S386 p220 k220 h=>Ag (h.pick [15,16] rfl) (At 7 14 511 16767 rfl ?_ ?_)
     ·refine qa2 r37 h (cB 29 rfl) (qaR ⟨_,_,rfl,(h.oldS s7)⟩ hr99) rfl rfl rfl rfl fun w200 S387 p221 k221 h=>Ag (h.pick [16,17] rfl) (At 9 14 1023 16895 rfl ?_ ?_)
      ·refine qa2 r38 h (cB 28 rfl) (qB ⟨_,_,rfl,(h.oldS s8)⟩ hr100) rfl rfl rfl rfl fun w201 S388 p222 k222 h=>Ag (h.pick [17,18] rfl) (At 10 14 2047 17407 rfl ?_ ?_)
       ·refine qaP (r40,r41) h (cB 33 rfl) (qas ⟨[.slice p215 r34.Ar.Ap.length k215],[.slice p216 r34.Aa.Ab.length k216,.slice p217 r34.Aa.Ai.length k217,.slice p218 r34.Aa.Ah.length k218,.slice p219 r34.Ac.length k219],rfl,(h.own 4 rfl),⟨[.slice p216 r34.Aa.Ab.length k216,.slice p217 r34.Aa.Ai.length k217,.slice p218 r34.Aa.Ah.length k218],[.slice p219 r34.Ac.length k219],rfl,⟨[.slice p216 r34.Aa.Ab.length k216],[.slice p217 r34.Aa.Ai.length k217,.slice p218 r34.Aa.Ah.length k218],rfl,(h.own 7 rfl),⟨[.slice p217 r34.Aa.Ai.length k217],[.slice p218 r34.Aa.Ah.length k218],rfl,(h.own 6 rfl),(h.own 5 rfl)⟩⟩,(h.own 8 rfl)⟩⟩ (h.own 3 rfl) (h.own 2 rfl) (h.own 1 rfl) (h.own 0 rfl) hr101) rfl rfl rfl rfl fun w202 S389 us61 hv91 hr126=>?_
        obtain ⟨S390,S391,cs64,us62,rfl,hv92,hr127⟩:=hv91.cons hr126
        obtain ⟨p223,k223,p224,k224,p225,k225,rfl,-,-,-⟩:=qad (hv92.sh.own 0 rfl)
        obtain ⟨rfl,h⟩:=hv92.lastI hr127
        obtain ⟨S393,S394,S395,h⟩:=qaE h
        refine G0 16383 [11,12,13] (h.pick [20,21] rfl) rfl (Ao 14 32767 rfl (qp qa h rfl rfl rfl fun w203 bb37 h=>Ag (h.pick [21,22] rfl) (Ao 15 65535 rfl (zs 0 h rfl fun w204 h=>G0 131071 [16] (h.pick [21,22] rfl) rfl (Ad ?_)))))
        replace h:=h.pick [0,1,2,3,13,14,15,16,17,18,19,20] rfl
        exact rG ⟨_,_,_,_,_,_,_,_,_,_,rfl,h⟩ rfl
       refine qp qa h rfl rfl rfl fun w205 bb38 h=>Ag (h.pick [18,19] rfl) (Ao 10 18431 rfl (qaP (r40,r41) h (cB 33 rfl) (qas ⟨[.slice p215 r34.Ar.Ap.length k215],[.slice p216 r34.Aa.Ab.length k216,.slice p217 r34.Aa.Ai.length k217,.slice p218 r34.Aa.Ah.length k218,.slice p219 r34.Ac.length k219],rfl,(h.own 5 rfl),⟨[.slice p216 r34.Aa.Ab.length k216,.slice p217 r34.Aa.Ai.length k217,.slice p218 r34.Aa.Ah.length k218],[.slice p219 r34.Ac.length k219],rfl,⟨[.slice p216 r34.Aa.Ab.length k216],[.slice p217 r34.Aa.Ai.length k217,.slice p218 r34.Aa.Ah.length k218],rfl,(h.own 8 rfl),⟨[.slice p217 r34.Aa.Ai.length k217],[.slice p218 r34.Aa.Ah.length k218],rfl,(h.own 7 rfl),(h.own 6 rfl)⟩⟩,(h.own 9 rfl)⟩⟩ (h.own 4 rfl) (h.own 3 rfl) (h.own 2 rfl) (h.own 1 rfl) hr101) rfl rfl rfl rfl fun w206 S396 us63 hv94 hr129=>?_))
       obtain ⟨S397,S398,cs65,us64,rfl,hv95,hr130⟩:=hv94.cons hr129
       obtain ⟨p226,k226,p227,k227,p228,k228,rfl,-,-,-⟩:=qad (hv95.sh.own 0 rfl)
       obtain ⟨rfl,h⟩:=hv95.lastI hr130
       obtain ⟨S400,S401,S402,h⟩:=qaE h
       refine G0 32767 [11,12,13] (h.pick [21,22] rfl) rfl (Ao 15 65535 rfl (zs 3 h rfl fun w207 h=>G0 131071 [16] (h.pick [21,22] rfl) rfl (Ad ?_)))
       replace h:=h.pick [3,0,1,2,13,14,15,16,17,18,19,20] rfl
       exact rG ⟨_,_,_,_,_,_,_,_,_,_,rfl,h⟩ rfl
      refine qp qa h rfl rfl rfl fun w208 bb39 h=>Ag (h.pick [17,18] rfl) (Ao 9 17407 rfl (qa2 r38 h (cB 28 rfl) (qB ⟨_,_,rfl,(h.oldS s8)⟩ hr100) rfl rfl rfl rfl fun w209 S403 p229 k229 h=>Ag (h.pick [18,19] rfl) (Ao 10 18431 rfl (qaP (r40,r41) h (cB 33 rfl) (qas ⟨[.slice p215 r34.Ar.Ap.length k215],[.slice p216 r34.Aa.Ab.length k216,.slice p217 r34.Aa.Ai.length k217,.slice p218 r34.Aa.Ah.length k218,.slice p219 r34.Ac.length k219],rfl,(h.own 5 rfl),⟨[.slice p216 r34.Aa.Ab.length k216,.slice p217 r34.Aa.Ai.length k217,.slice p218 r34.Aa.Ah.length k218],[.slice p219 r34.Ac.length k219],rfl,⟨[.slice p216 r34.Aa.Ab.length k216],[.slice p217 r34.Aa.Ai.length k217,.slice p218 r34.Aa.Ah.length k218],rfl,(h.own 8 rfl),⟨[.slice p217 r34.Aa.Ai.length k217],[.slice p218 r34.Aa.Ah.length k218],rfl,(h.own 7 rfl),(h.own 6 rfl)⟩⟩,(h.own 9 rfl)⟩⟩ (h.own 4 rfl) (h.own 3 rfl) (h.own 2 rfl) (h.own 0 rfl) hr101) rfl rfl rfl rfl fun w210 S404 us65 hv97 hr132=>?_))))
      obtain ⟨S405,S406,cs66,us66,rfl,hv98,hr133⟩:=hv97.cons hr132
      obtain ⟨p230,k230,p231,k231,p232,k232,rfl,-,-,-⟩:=qad (hv98.sh.own 0 rfl)
      obtain ⟨rfl,h⟩:=hv98.lastI hr133
      obtain ⟨S408,S409,S410,h⟩:=qaE h
      refine G0 32767 [11,12,13] (h.pick [21,22] rfl) rfl (Ao 15 65535 rfl (zs 4 h rfl fun w211 h=>G0 131071 [16] (h.pick [21,22] rfl) rfl (Ad ?_)))
      replace h:=h.pick [4,0,1,2,13,14,15,16,17,18,19,20] rfl
      exact rG ⟨_,_,_,_,_,_,_,_,_,_,rfl,h⟩ rfl
     refine qp qa h rfl rfl rfl fun w212 bb40 h=>Ag (h.pick [16,17] rfl) (Ao 7 16895 rfl (qa2 r37 h (cB 29 rfl) (qaR ⟨_,_,rfl,(h.oldS s7)⟩ hr99) rfl rfl rfl rfl fun w213 S411 p233 k233 h=>Ag (h.pick [17,18] rfl) (Ao 9 17407 rfl (qa2 r38 h (cB 28 rfl) (qB ⟨_,_,rfl,(h.oldS s8)⟩ hr100) rfl rfl rfl rfl fun w214 S412 p234 k234 h=>Ag (h.pick [18,19] rfl) (Ao 10 18431 rfl (qaP (r40,r41) h (cB 33 rfl) (qas ⟨[.slice p215 r34.Ar.Ap.length k215],[.slice p216 r34.Aa.Ab.length k216,.slice p217 r34.Aa.Ai.length k217,.slice p218 r34.Aa.Ah.length k218,.slice p219 r34.Ac.length k219],rfl,(h.own 5 rfl),⟨[.slice p216 r34.Aa.Ab.length k216,.slice p217 r34.Aa.Ai.length k217,.slice p218 r34.Aa.Ah.length k218],[.slice p219 r34.Ac.length k219],rfl,⟨[.slice p216 r34.Aa.Ab.length k216],[.slice p217 r34.Aa.Ai.length k217,.slice p218 r34.Aa.Ah.length k218],rfl,(h.own 8 rfl),⟨[.slice p217 r34.Aa.Ai.length k217],[.slice p218 r34.Aa.Ah.length k218],rfl,(h.own 7 rfl),(h.own 6 rfl)⟩⟩,(h.own 9 rfl)⟩⟩ (h.own 4 rfl) (h.own 3 rfl) (h.own 1 rfl) (h.own 0 rfl) hr101) rfl rfl rfl rfl fun w215 S413 us67 hv100 hr135=>?_))))))
     obtain ⟨S414,S415,cs67,us68,rfl,hv101,hr136⟩:=hv100.cons hr135
     obtain ⟨p235,k235,p236,k236,p237,k237,rfl,-,-,-⟩:=qad (hv101.sh.own 0 rfl)
     obtain ⟨rfl,h⟩:=hv101.lastI hr136
     obtain ⟨S417,S418,S419,h⟩:=qaE h
     refine G0 32767 [11,12,13] (h.pick [21,22] rfl) rfl (Ao 15 65535 rfl (zs 5 h rfl fun w216 h=>G0 131071 [16] (h.pick [21,22] rfl) rfl (Ad ?_)))
     replace h:=h.pick [5,0,1,2,13,14,15,16,17,18,19,20] rfl
     exact rG ⟨_,_,_,_,_,_,_,_,_,_,rfl,h⟩ rfl
    refine qp qa h rfl rfl rfl fun w217 bb41 h=>Ag (h.pick [15,16] rfl) (Ao 5 16767 rfl (qa2 r36 h (cB 28 rfl) (qB ⟨_,_,rfl,(h.oldS s6)⟩ hr98) rfl rfl rfl rfl fun w218 S420 p238 k238 h=>Ag (h.pick [16,17] rfl) (Ao 7 16895 rfl (qa2 r37 h (cB 29 rfl) (qaR ⟨_,_,rfl,(h.oldS s7)⟩ hr99) rfl rfl rfl rfl fun w219 S421 p239 k239 h=>Ag (h.pick [17,18] rfl) (Ao 9 17407 rfl (qa2 r38 h (cB 28 rfl) (qB ⟨_,_,rfl,(h.oldS s8)⟩ hr100) rfl rfl rfl rfl fun w220 S422 p240 k240 h=>Ag (h.pick [18,19] rfl) (Ao 10 18431 rfl (qaP (r40,r41) h (cB 33 rfl) (qas ⟨[.slice p215 r34.Ar.Ap.length k215],[.slice p216 r34.Aa.Ab.length k216,.slice p217 r34.Aa.Ai.length k217,.slice p218 r34.Aa.Ah.length k218,.slice p219 r34.Ac.length k219],rfl,(h.own 5 rfl),⟨[.slice p216 r34.Aa.Ab.length k216,.slice p217 r34.Aa.Ai.length k217,.slice p218 r34.Aa.Ah.length k218],[.slice p219 r34.Ac.length k219],rfl,⟨[.slice p216 r34.Aa.Ab.length k216],[.slice p217 r34.Aa.Ai.length k217,.slice p218 r34.Aa.Ah.length k218],rfl,(h.own 8 rfl),⟨[.slice p217 r34.Aa.Ai.length k217],[.slice p218 r34.Aa.Ah.length k218],rfl,(h.own 7 rfl),(h.own 6 rfl)⟩⟩,(h.own 9 rfl)⟩⟩ (h.own 4 rfl) (h.own 2 rfl) (h.own 1 rfl) (h.own 0 rfl) hr101) rfl rfl rfl rfl fun w221 S423 us69 hv103 hr138=>?_))))))))
    obtain ⟨S424,S425,cs68,us70,rfl,hv104,hr139⟩:=hv103.cons hr138
    obtain ⟨p241,k241,p242,k242,p243,k243,rfl,-,-,-⟩:=qad (hv104.sh.own 0 rfl)
    obtain ⟨rfl,h⟩:=hv104.lastI hr139
    obtain ⟨S427,S428,S429,h⟩:=qaE h
    refine G0 32767 [11,12,13] (h.pick [21,22] rfl) rfl (Ao 15 65535 rfl (zs 6 h rfl fun w222 h=>G0 131071 [16] (h.pick [21,22] rfl) rfl (Ad ?_)))
    replace h:=h.pick [6,0,1,2,13,14,15,16,17,18,19,20] rfl
    exact rG ⟨_,_,_,_,_,_,_,_,_,_,rfl,h⟩ rfl
   refine qp qa h rfl rfl rfl fun w223 bb42 h=>Ag (h.pick [14,15] rfl) (Ao 3 16735 rfl (qee r35 h (cB 27 rfl) (qco (qlq _) hr97) rfl rfl rfl rfl fun w224 S430 cs69 h=>?_))
   obtain rfl:=qah (h.own 0 rfl)
   refine Ag (h.pick [15,16] rfl) (Ao 5 16767 rfl (qa2 r36 h (cB 28 rfl) (qB ⟨_,_,rfl,(h.oldS s6)⟩ hr98) rfl rfl rfl rfl fun w225 S431 p244 k244 h=>Ag (h.pick [16,17] rfl) (Ao 7 16895 rfl (qa2 r37 h (cB 29 rfl) (qaR ⟨_,_,rfl,(h.oldS s7)⟩ hr99) rfl rfl rfl rfl fun w226 S432 p245 k245 h=>Ag (h.pick [17,18] rfl) (Ao 9 17407 rfl (qa2 r38 h (cB 28 rfl) (qB ⟨_,_,rfl,(h.oldS s8)⟩ hr100) rfl rfl rfl rfl fun w227 S433 p246 k246 h=>Ag (h.pick [18,19] rfl) (Ao 10 18431 rfl (qaP (r40,r41) h (cB 33 rfl) (qas ⟨[.slice p215 r34.Ar.Ap.length k215],[.slice p216 r34.Aa.Ab.length k216,.slice p217 r34.Aa.Ai.length k217,.slice p218 r34.Aa.Ah.length k218,.slice p219 r34.Ac.length k219],rfl,(h.own 5 rfl),⟨[.slice p216 r34.Aa.Ab.length k216,.slice p217 r34.Aa.Ai.length k217,.slice p218 r34.Aa.Ah.length k218],[.slice p219 r34.Ac.length k219],rfl,⟨[.slice p216 r34.Aa.Ab.length k216],[.slice p217 r34.Aa.Ai.length k217,.slice p218 r34.Aa.Ah.length k218],rfl,(h.own 8 rfl),⟨[.slice p217 r34.Aa.Ai.length k217],[.slice p218 r34.Aa.Ah.length k218],rfl,(h.own 7 rfl),(h.own 6 rfl)⟩⟩,(h.own 9 rfl)⟩⟩ (h.own 3 rfl) (h.own 2 rfl) (h.own 1 rfl) (h.own 0 rfl) hr101) rfl rfl rfl rfl fun w228 S434 us71 hv106 hr141=>?_))))))))
   obtain ⟨S435,S436,cs70,us72,rfl,hv107,hr142⟩:=hv106.cons hr141
   obtain ⟨p247,k247,p248,k248,p249,k249,rfl,-,-,-⟩:=qad (hv107.sh.own 0 rfl)
   obtain ⟨rfl,h⟩:=hv107.lastI hr142
   obtain ⟨S438,S439,S440,h⟩:=qaE h
   refine G0 32767 [11,12,13] (h.pick [21,22] rfl) rfl (Ao 15 65535 rfl (zs 7 h rfl fun w229 h=>G0 131071 [16] (h.pick [21,22] rfl) rfl (Ad ?_)))
   replace h:=h.pick [7,0,1,2,13,14,15,16,17,18,19,20] rfl
   exact rG ⟨_,_,_,_,_,_,_,_,_,_,rfl,h⟩ rfl
  refine qp qa h rfl rfl rfl fun w230 bb43 h=>Ag (h.pick [9,10] rfl) (Ao 1 16727 rfl (qee r34 h (cB 11 rfl) (qeW (qqM _ (h.oldS s1) (h.oldS s2) (h.oldS s3) (h.oldS s4) (h.oldS s5)) hr96) rfl rfl rfl rfl fun w231 S441 cs71 h=>?_))
  obtain ⟨p250,k250,p251,k251,p252,k252,p253,k253,p254,k254,rfl,-,-,-,-,-⟩:=qI (h.own 0 rfl)
  obtain ⟨S442,S443,S444,h⟩:=qhU h
  replace h:=h.pick [1,0,2,3,4,5,6,7,8,9,10,11,12,13] rfl
  obtain ⟨S445,S446,S447,h⟩:=qhV h
  replace h:=h.pick [4,0,1,2,3,5,6,7,8,9,10,11,12,13,14,15] rfl
  obtain ⟨S448,h⟩:=qhi h
  refine Ag (h.pick [14,15] rfl) (Ao 3 16735 rfl (qee r35 h (cB 27 rfl) (qco (qlq _) hr97) rfl rfl rfl rfl fun w232 S449 cs72 h=>?_))
  obtain rfl:=qah (h.own 0 rfl)
  refine Ag (h.pick [15,16] rfl) (Ao 5 16767 rfl (qa2 r36 h (cB 28 rfl) (qB ⟨_,_,rfl,(h.oldS s6)⟩ hr98) rfl rfl rfl rfl fun w233 S450 p255 k255 h=>Ag (h.pick [16,17] rfl) (Ao 7 16895 rfl (qa2 r37 h (cB 29 rfl) (qaR ⟨_,_,rfl,(h.oldS s7)⟩ hr99) rfl rfl rfl rfl fun w234 S451 p256 k256 h=>Ag (h.pick [17,18] rfl) (Ao 9 17407 rfl (qa2 r38 h (cB 28 rfl) (qB ⟨_,_,rfl,(h.oldS s8)⟩ hr100) rfl rfl rfl rfl fun w235 S452 p257 k257 h=>Ag (h.pick [18,19] rfl) (Ao 10 18431 rfl (qaP (r40,r41) h (cB 33 rfl) (qas ⟨[.slice p250 r34.Ar.Ap.length k250],[.slice p251 r34.Aa.Ab.length k251,.slice p252 r34.Aa.Ai.length k252,.slice p253 r34.Aa.Ah.length k253,.slice p254 r34.Ac.length k254],rfl,(h.own 4 rfl),⟨[.slice p251 r34.Aa.Ab.length k251,.slice p252 r34.Aa.Ai.length k252,.slice p253 r34.Aa.Ah.length k253],[.slice p254 r34.Ac.length k254],rfl,⟨[.slice p251 r34.Aa.Ab.length k251],[.slice p252 r34.Aa.Ai.length k252,.slice p253 r34.Aa.Ah.length k253],rfl,(h.own 7 rfl),⟨[.slice p252 r34.Aa.Ai.length k252],[.slice p253 r34.Aa.Ah.length k253],rfl,(h.own 6 rfl),(h.own 5 rfl)⟩⟩,(h.own 8 rfl)⟩⟩ (h.own 3 rfl) (h.own 2 rfl) (h.own 1 rfl) (h.own 0 rfl) hr101) rfl rfl rfl rfl fun w236 S453 us73 hv109 hr144=>?_))))))))
  obtain ⟨S454,S455,cs73,us74,rfl,hv110,hr145⟩:=hv109.cons hr144
  obtain ⟨p258,k258,p259,k259,p260,k260,rfl,-,-,-⟩:=qad (hv110.sh.own 0 rfl)
  obtain ⟨rfl,h⟩:=hv110.lastI hr145
  obtain ⟨S457,S458,S459,h⟩:=qaE h
  refine G0 32767 [11,12,13] (h.pick [21,22] rfl) rfl (Ao 15 65535 rfl (zs 12 h rfl fun w237 h=>G0 131071 [16] (h.pick [21,22] rfl) rfl (Ad ?_)))
  replace h:=h.pick [12,0,1,2,13,14,15,16,17,18,19,20] rfl
  exact rG ⟨_,_,_,_,_,_,_,_,_,_,rfl,h⟩ rfl
 rintro e3 w238 ⟨bb36,S374,p212,k212,S375,p213,k213,S376,p214,k214,rfl,h⟩
 refine zSS ?_
 obtain ⟨KF1,hKF1,o6,hF,hK1⟩:=bindE hF
 refine qba (fun e w'=>∃ (b3:Bool),KF1 b3=some r∧e=[(18,.pointer (some ⟨bb24,0,none⟩)),(21,.int .i64 r32),(165,.bool b3)]∧SH w w' [Ch.own S271 (x11:List qc) [.slice p135 r18.Aq.length k135],Ch.own S270 (x10:List qc) [.slice p136 r18.Af.length k136],Ch.own S269 (x9:List Bool) [.slice p137 r18.Aj.length k137],Ch.box bb24 (qaa r18 p137 p136 p135 k137 k136 k135) 57]) ?_ ?_
 ·refine X2 3 0 8 h rfl (zcB h hF (qi4 ⟨[.slice p214 r40.Aj.length k214],[.slice p213 r40.Af.length k213,.slice p212 r40.Aq.length k212],rfl,(h.own 3 rfl),⟨[.slice p213 r40.Af.length k213],[.slice p212 r40.Aq.length k212],rfl,(h.own 2 rfl),(h.own 1 rfl)⟩⟩ ⟨[.slice p68 r10.Aj.length k68],[.slice p67 r10.Af.length k67,.slice p66 r10.Aq.length k66],rfl,(h.own 11 rfl),⟨[.slice p67 r10.Af.length k67],[.slice p66 r10.Aq.length k66],rfl,(h.own 10 rfl),(h.own 9 rfl)⟩⟩) rfl fun r43 w240 h hF=>zp2 rfl (qk (t:=161) hF rfl ?_ ?_))<;>intro hF
  ·refine X0 5 rfl ?_
   replace h:=h.pick [4,5,6,7] rfl
   obtain rfl:=qb hF
   exact rG ⟨_,hK1,rfl,h⟩ rfl
  refine X0 8 rfl ?_
  replace h:=h.pick [4,5,6,7] rfl
  obtain rfl:=qb hF
  exact rG ⟨_,hK1,rfl,h⟩ rfl
 rintro e4 w241 ⟨b3,hF,rfl,h⟩
 subst hKF1
 refine qh rfl hF ?_ ?_<;>intro hF
 ·exact X0 4 rfl (rb h hF rfl)
 refine X1 9 3 h rfl (zcI h hF (qkS ⟨[.slice p137 r18.Aj.length k137],[.slice p136 r18.Af.length k136,.slice p135 r18.Aq.length k135],rfl,(h.own 2 rfl),⟨[.slice p136 r18.Af.length k136],[.slice p135 r18.Aq.length k135],rfl,(h.own 1 rfl),(h.own 0 rfl)⟩⟩) rfl fun r42 w239 h hF=>X0 8 rfl (qh rfl hF ?_ ?_))<;>intro hF
 ·exact X0 4 rfl (rb h hF rfl)
 refine X0 8 rfl (qh rfl hF ?_ ?_)<;>intro hF
 ·exact X0 4 rfl (rb h hF rfl)
 exact X0 5 rfl (rb h hF rfl)
end Go.Fw


namespace Go.Fw
open Go Go.Proofs
open Go.RowKit (Below)
set_option maxRecDepth 100000
set_option maxHeartbeats 1600000
variable {n:Nat} {w:World} {cs1 cs2 cs3 cs4 cs5 cs6 cs7 cs8 cs9:List Value}
end Go.Fw


namespace Go.Fw
open Go
end Go.Fw


namespace Go.Fw
open Go
set_option maxRecDepth 100000
def Mk {σ:Type} (F:Nat→Option (Int × σ)) (k:Int) (w:Nat):Prop:=∃ k' x,Ev F (k',x)∧k≤k'∧k'≤k+16*(w:Int)
theorem qbA {α:Type} {t:List α} {j:Nat} {y:α} (h:j<t.length):idx (setS t (j:Int) y) (j:Int)=some y:=by
 rw [qge (by rw [qfj];exact h),qwf h]
theorem qaY {α:Type} {t:List α} {i:Int} {y z:α}:setS (setS t i y) i z=setS t i z:=by
 unfold setS;rw [List.set_set]
theorem qrw {α:Type} {a:List α} {wt:α→Nat} {j:Nat} (h:j<a.length):((a.take (j+1)).map wt).sum=((a.take j).map wt).sum+wt a[j]:=by
 rw [jy h,jK,List.sum_append];simp
theorem qt6 {α:Type} {a:List α} {wt:α→Nat} {j:Nat}:((a.take j).map wt).sum≤(a.map wt).sum:=by
 conv=>rhs;rw [←List.take_append_drop j a]
 rw [jK,List.sum_append]
 exact Nat.le_add_right _ _
theorem qhu {α:Type} {a:List α} {wt:α→Nat} {Lf:Nat→List α→Int→Int→Option (List α × Int × Int)} {F:Nat→Option (Int × List α)} {k:Int} (hk0:0≤k) (hk1:k+16*((a.length+(a.map wt).sum:Nat):Int)≤1000000000000)
  (hend:∀ n t k,Lf (n+1) t k (a.length:Int)=some (t,k,(a.length:Int)))
  (hstep:∀ x,x ∈ a→∀ k:Int,0≤k→k+16*((1+wt x:Nat):Int)≤1000000000000→∃ y k',k≤k'∧k'≤k+16*((1+wt x:Nat):Int) ∧
   ∀ (t:List α) (j:Nat),j<9223372036854775807→j<a.length→j<t.length→t[j]?=some x→∀ X,Ev (fun n=>Lf n (setS t (j:Int) y) k' ((j+1:Nat):Int)) X→Ev (fun n=>Lf (n+1) t k (j:Int)) X)
  (hl:a.length≤1048576)
  (hF:∀ n,F n=(Lf n a k 0).bind fun o=>match o with|(x1,i1,_)=>some (i1,x1)):Mk F k (a.length+(a.map wt).sum):=by
 obtain ⟨⟨t,k'⟩,⟨_,_,h3,h4⟩,e⟩:=loopE (τ:=List α × Int) (Lf:=fun n t j=>Lf n t.1 t.2 j) (fin:=fun t=>(t.1,t.2,(a.length:Int)))
  (fun j t=>t.1.length=a.length∧(∀ i,j≤i→t.1[i]?=a[i]?)∧k≤t.2∧t.2≤k+16*((j+((a.take j).map wt).sum:Nat):Int)) (len:=a.length)
  (fun n t=>hend n t.1 t.2)
  (fun j t hj ht=>by
   obtain ⟨h1,h2,h3,h4⟩:=ht
   have hs:=qrw (wt:=wt) hj
   have hs2:=qt6 (a:=a) (wt:=wt) (j:=j+1)
   obtain ⟨y,k',q1,q2,q3⟩:=hstep a[j] (jp hj) t.2 (by omega) (by omega)
   refine ⟨(setS t.1 (j:Int) y,k'),⟨by rw [qfj];exact h1,fun i hi=>?_,by show k≤k';omega,?_⟩,fun X hX=>?_⟩
   ·show (t.1.set _ _)[i]?=_
    rw [List.getElem?_set_ne (by rw [jo];omega)]
    exact h2 i (by omega)
   ·show k'≤k+_
    rw [hs]
    omega
   ·exact q3 t.1 j (by omega) hj (by omega) (by rw [h2 j (je _),ji hj]) X hX) 0 (Nat.zero_le _) (a,k) ⟨rfl,fun _ _=>rfl,jZ _,by show k≤k+_;omega⟩
 rw [jF] at h4
 exact ⟨k',t,Ev.congr hF (Ev.bind e .done),h3,h4⟩
theorem qtp {α:Type} {pre a:List α} {j:Nat} {y:α} (hp:pre.length=j) (hj:j<a.length):setS (pre++a.drop j) (j:Int) y=(pre++[y])++a.drop (j+1):=by
 show (pre++a.drop j).set j y=_
 rw [List.set_append,if_neg (by omega),hp,Nat.sub_self,jJ hj,List.set_cons_zero,jq]
 rfl
def marked (k:Int) (m:Nat):List Int:=(List.range m).map fun (i:Nat)=>k+(i:Int)
theorem quJ {a:List Int} {k:Int} (h0:0≤k) (h1:k≤1000000000000) (hl:a.length≤1048576):Ev (fun n=>qaK n a k) (k+(a.length:Int),marked k a.length):=by
 have hL:Ev (fun n=>qcm a n a k 0) (marked k a.length,k+(a.length:Int),(a.length:Int)):=by
  have:=loopF (τ:=List Int × Int) (Lf:=fun n t j=>qcm a n t.1 t.2 j) (S:=fun j=>(marked k j++a.drop j,k+(j:Int))) (len:=a.length) (fin:=(marked k a.length,k+(a.length:Int),(a.length:Int))) (fun n=>by
    simp only [qcm,ql (je _),cond_false,List.drop_length,jT])
   (fun j hj X hX=>by
    have hp:(marked k j).length=j:=by simp [marked]
    have hlt:j<(marked k j++a.drop j).length:=by rw [jh,hp,List.length_drop];omega
    have hm:marked k (j+1)=marked k j++[k+(j:Int)]:=by unfold marked;rw [Ja,jK];rfl
    simp only [qcm,qj hj,cond_true,qge hlt,jd,qtp hp hj,wS j,qJ (show -9223372036854775808≤k+(j:Int)+1 by omega) (by omega)]
    rw [←hm]
    rw [show k+(j:Int)+1=k+((j+1:Nat):Int) by omega]
    exact hX)
  simpa [marked] using this
 unfold qaK
 exact Ev.bind hL .done
theorem qeJ {a:List Int} {k:Int} (h0:0≤k) (h1:k≤1000000000000) (hl:qaO a≤1048576):∃ k' x,Ev (fun n=>qaK n a k) (k',x)∧k≤k'∧k'≤k+16*(qaO a:Int) :=
 ⟨_,_,quJ h0 h1 hl,by omega,by unfold qaO;omega⟩
theorem qu7 {a b:ByteArray} (h:a.size+b.size≤1000000):catB a b=some (a++b):=by
 unfold catB
 rw [if_pos]
 show ((a.size+b.size:Nat):Int)≤9223372036854775807
 omega
theorem qsi {x:IntK .u8}:(strOf [x]).size=1:=rfl
theorem qjO {k:Int} (hk:k≤1000000000001000):∃ s,Ev (fun n=>qei n k) s:=by
 have main:∀ m:Nat,∀ i1:Int,∀ z:ByteArray,0≤i1→i1≤9000000000000000000→i1<10 ^ m→z.size+m≤1000→∃ o:Int × ByteArray,o.2.size≤1000∧Ev (fun n=>qfF n i1 z) o:=by
  intro m
  induction m with
  | zero =>
   intro i1 z h0 hb h1 hz
   have:i1=0:=by have:(10:Int) ^ 0=1:=rfl;omega
   subst this
   exact ⟨(0,z),by show z.size≤1000;omega,Ev.succ (Ev.ff (by decide) .done)⟩
  | succ m ih =>
   intro i1 z h0 hb h1 hz
   by_cases hp:i1=0
   ·subst hp
    exact ⟨(0,z),by show z.size≤1000;omega,Ev.succ (Ev.ff (by decide) .done)⟩
   ·have hd:i1.tdiv 10=i1 / 10:=jD h0
    have h10:(10:Int) ^ (m+1)=10 ^ m*10:=Int.pow_succ _ _
    have hc:catB (strOf ([(⟨IntKind.wrap .u8 (W64 (48+(i1.tmod 10)))⟩:IntK .u8)])) z=some (strOf ([(⟨IntKind.wrap .u8 (W64 (48+(i1.tmod 10)))⟩:IntK .u8)])++z):=qu7 (by rw [qsi];omega)
    obtain ⟨o,ho,e⟩:=ih (i1 / 10) (strOf ([(⟨IntKind.wrap .u8 (W64 (48+(i1.tmod 10)))⟩:IntK .u8)])++z) (by omega) (by omega) (by omega) (by rw [ByteArray.size_append,qsi];omega)
    refine ⟨o,ho,Ev.succ ?_⟩
    simp only [qfF,show decide (i1 > 0)=true by simp;omega,cond_true,hc,jd,hd,qJ (show -9223372036854775808≤i1 / 10 by omega) (by omega)]
    exact e
 unfold qei
 by_cases h0:k≤0
 ·exact ⟨_,Ev.tt (by simpa using h0) .done⟩
 ·obtain ⟨⟨o1,o2⟩,ho,e⟩:=main 16 k ⟨#[]⟩ (by omega) (by omega) (by have:(10:Int) ^ 16=10000000000000000:=rfl;omega) (by decide)
  refine ⟨(⟨#[109]⟩:ByteArray)++o2,Ev.ff (by simp;omega) (Ev.bind e ?_)⟩
  have ho:o2.size≤1000:=ho
  show Ev (fun n=>(catB ⟨#[109]⟩ o2).bind fun z3=>some z3) _
  rw [qu7 (show (⟨#[109]⟩:ByteArray).size+o2.size≤1000000 by have:(⟨#[109]⟩:ByteArray).size=1:=rfl;omega)]
  exact .done
theorem qwB {α:Type} {a:List α}:(a.map (fun _=>0)).sum=0:=by induction a<;>simp_all
theorem qnY {a:(List qt)} {k:Int} (h0:0≤k) (h1:k+16*(qc8 a:Int)≤1000000000000) (hw:qc8 a≤1048576):Mk (fun n=>qh1 n a k) k (qc8 a):=by
 refine qhu (a:=a) (wt:=(fun x:qt=>qea x)) h0 h1 (Lf:=qdi a) (fun n t k=>by simp only [qdi,ql (je _),cond_false]) (fun x hx k h0 h1=>?_) (by simp only [qc8] at hw;omega) (fun _=>rfl)
 have hs:=qcB (wt:=(fun x:qt=>qea x)) hx
 have ew:qea x=qaO x.Bi+qaO x.Bb+qaO x.Ba:=rfl
 have hw:a.length+(a.map (fun x:qt=>qea x)).sum≤1048576:=hw
 simp only [ew] at hs h1 ⊢
 obtain ⟨k1,x1,q1,l1,u1⟩:=qeJ (a:=x.Bi) (k:=k) (by omega) (by omega) (by omega)
 obtain ⟨k2,x2,q2,l2,u2⟩:=qeJ (a:=x.Bb) (k:=k1) (by omega) (by omega) (by omega)
 obtain ⟨k3,x3,q3,l3,u3⟩:=qeJ (a:=x.Ba) (k:=k2) (by omega) (by omega) (by omega)
 refine ⟨⟨x1,x2,x3⟩,k3,by omega,by omega,fun t j hb hj ht hx X hX=>?_⟩
 simp only [qdi,qj hj,cond_true,qc9 hb]
 try simp only [qM hx,qbA ht,jd,qaY]
 refine Ev.bind q1 ?_
 try simp only [qM hx,qbA ht,jd,qaY]
 refine Ev.bind q2 ?_
 try simp only [qM hx,qbA ht,jd,qaY]
 refine Ev.bind q3 ?_
 try simp only [qM hx,qbA ht,jd,qaY]
 exact hX
theorem qtU {a:(List qG)} {k:Int} (h0:0≤k) (h1:k+16*(qhK a:Int)≤1000000000000) (hw:qhK a≤1048576):Mk (fun n=>qlC n a k) k (qhK a):=by
 refine qhu (a:=a) (wt:=(fun x:qG=>qi2 x)) h0 h1 (Lf:=qeB a) (fun n t k=>by simp only [qeB,ql (je _),cond_false]) (fun x hx k h0 h1=>?_) (by simp only [qhK] at hw;omega) (fun _=>rfl)
 have hs:=qcB (wt:=(fun x:qG=>qi2 x)) hx
 have ew:qi2 x=qc8 x.Bj+qc8 x.Aq:=rfl
 have hw:a.length+(a.map (fun x:qG=>qi2 x)).sum≤1048576:=hw
 simp only [ew] at hs h1 ⊢
 have e1:W64 (k+1)=k+1:=qJ (by omega) (by omega)
 have e2:W64 (k+1+1)=k+1+1:=qJ (by omega) (by omega)
 have e3:W64 (k+1+1+1)=k+1+1+1:=qJ (by omega) (by omega)
 have e4:W64 (k+1+1+1+1)=k+1+1+1+1:=qJ (by omega) (by omega)
 obtain ⟨k1,x1,q1,l1,u1⟩:=qnY (a:=x.Bj) (k:=k+1+1+1+1) (by omega) (by omega) (by omega)
 obtain ⟨k2,x2,q2,l2,u2⟩:=qnY (a:=x.Aq) (k:=k1) (by omega) (by omega) (by omega)
 refine ⟨⟨k,k+1,k+1+1,k+1+1+1,x1,x2⟩,k2,by omega,by omega,fun t j hb hj ht hx X hX=>?_⟩
 simp only [qeB,qj hj,cond_true,qc9 hb]
 try simp only [qM hx,qbA ht,jd,qaY,e1,e2,e3,e4]
 refine Ev.bind q1 ?_
 try simp only [qM hx,qbA ht,jd,qaY,e1,e2,e3,e4]
 refine Ev.bind q2 ?_
 try simp only [qM hx,qbA ht,jd,qaY,e1,e2,e3,e4]
 exact hX
theorem qti {a:(List qal)} {k:Int} (h0:0≤k) (h1:k+16*(qhI a:Int)≤1000000000000) (hw:qhI a≤1048576):Mk (fun n=>qly n a k) k (qhI a):=by
 refine qhu (a:=a) (wt:=(fun x:qal=>qkE x)) h0 h1 (Lf:=qep a) (fun n t k=>by simp only [qep,ql (je _),cond_false]) (fun x hx k h0 h1=>?_) (by simp only [qhI] at hw;omega) (fun _=>rfl)
 have hs:=qcB (wt:=(fun x:qal=>qkE x)) hx
 have ew:qkE x=x.Az.size:=rfl
 have hw:a.length+(a.map (fun x:qal=>qkE x)).sum≤1048576:=hw
 simp only [ew] at hs h1 ⊢
 obtain ⟨s1,es1⟩:=qjO (k:=k) (by omega)
 have e1:W64 (k+1)=k+1:=qJ (by omega) (by omega)
 have e2:W64 (k+1+1)=k+1+1:=qJ (by omega) (by omega)
 have e3:W64 (k+1+1+1)=k+1+1+1:=qJ (by omega) (by omega)
 have e4:W64 (k+1+1+1+1)=k+1+1+1+1:=qJ (by omega) (by omega)
 refine ⟨⟨s1,k+1,k+1+1,((k+1+1+1).tmod 3)==0⟩,k+1+1+1+1,by omega,by omega,fun t j hb hj ht hx X hX=>?_⟩
 simp only [qep,qj hj,cond_true,qc9 hb]
 try simp only [qM hx,qbA ht,jd,qaY]
 refine Ev.bind es1 ?_
 try simp only [qM hx,qbA ht,jd,qaY,e1,e2,e3,e4]
 exact hX
theorem qsS {a:(List qw)} {k:Int} (h0:0≤k) (h1:k+16*(qgf a:Int)≤1000000000000) (hw:qgf a≤1048576):Mk (fun n=>qkG n a k) k (qgf a):=by
 refine qhu (a:=a) (wt:=(fun x:qw=>qfO x)) h0 h1 (Lf:=qdJ a) (fun n t k=>by simp only [qdJ,ql (je _),cond_false]) (fun x hx k h0 h1=>?_) (by simp only [qgf] at hw;omega) (fun _=>rfl)
 have hs:=qcB (wt:=(fun x:qw=>qfO x)) hx
 have ew:qfO x=x.Az.size+qhI x.Au+qhK x.As+qaO x.Bk:=rfl
 have hw:a.length+(a.map (fun x:qw=>qfO x)).sum≤1048576:=hw
 simp only [ew] at hs h1 ⊢
 obtain ⟨s1,es1⟩:=qjO (k:=k) (by omega)
 have e1:W64 (k+1)=k+1:=qJ (by omega) (by omega)
 have e2:W64 (k+1+1)=k+1+1:=qJ (by omega) (by omega)
 obtain ⟨k2,x2,q2,l2,u2⟩:=qti (a:=x.Au) (k:=k+1+1) (by omega) (by omega) (by omega)
 obtain ⟨k3,x3,q3,l3,u3⟩:=qtU (a:=x.As) (k:=k2) (by omega) (by omega) (by omega)
 obtain ⟨k4,x4,q4,l4,u4⟩:=qeJ (a:=x.Bk) (k:=k3) (by omega) (by omega) (by omega)
 have e3:W64 (k4+1)=k4+1:=qJ (by omega) (by omega)
 have e4:W64 (k4+1+1)=k4+1+1:=qJ (by omega) (by omega)
 refine ⟨⟨s1,k+1,x2,x3,x4,k4,k4+1⟩,k4+1+1,by omega,by omega,fun t j hb hj ht hx X hX=>?_⟩
 simp only [qdJ,qj hj,cond_true,qc9 hb]
 try simp only [qM hx,qbA ht,jd,qaY]
 refine Ev.bind es1 ?_
 try simp only [qM hx,qbA ht,jd,qaY,e1,e2]
 refine Ev.bind q2 ?_
 try simp only [qM hx,qbA ht,jd,qaY,e1,e2]
 refine Ev.bind q3 ?_
 try simp only [qM hx,qbA ht,jd,qaY,e1,e2]
 refine Ev.bind q4 ?_
 try simp only [qM hx,qbA ht,jd,qaY,e1,e2,e3,e4]
 exact hX
theorem qqI {a:qr} {k:Int} (h0:0≤k) (h1:k+16*(qew a:Int)≤1000000000000) (hw:qew a≤1048576):Mk (fun n=>qhA n a k) k (qew a):=by
 simp only [qew] at h1 hw ⊢
 obtain ⟨k1,x1,q1,l1,u1⟩:=qsS (a:=a.Ap) (k:=k) (by omega) (by omega) (by omega)
 refine ⟨k1,x1,?_,by omega,by omega⟩
 unfold qhA
 exact Ev.bind q1 (.done)
theorem qpp {a:(List qi)} {k:Int} (h0:0≤k) (h1:k+16*(qbS a:Int)≤1000000000000) (hw:qbS a≤1048576):Mk (fun n=>qic n a k) k (qbS a):=by
 refine qhu (a:=a) (wt:=(fun x:qi=>qbM x)) h0 h1 (Lf:=qcb a) (fun n t k=>by simp only [qcb,ql (je _),cond_false]) (fun x hx k h0 h1=>?_) (by simp only [qbS] at hw;omega) (fun _=>rfl)
 have hs:=qcB (wt:=(fun x:qi=>qbM x)) hx
 have ew:qbM x=x.Az.size+qaO x.Ai:=rfl
 have hw:a.length+(a.map (fun x:qi=>qbM x)).sum≤1048576:=hw
 simp only [ew] at hs h1 ⊢
 obtain ⟨s1,es1⟩:=qjO (k:=k) (by omega)
 have e1:W64 (k+1)=k+1:=qJ (by omega) (by omega)
 have e2:W64 (k+1+1)=k+1+1:=qJ (by omega) (by omega)
 obtain ⟨k2,x2,q2,l2,u2⟩:=qeJ (a:=x.Ai) (k:=k+1+1) (by omega) (by omega) (by omega)
 refine ⟨⟨s1,k+1,x2⟩,k2,by omega,by omega,fun t j hb hj ht hx X hX=>?_⟩
 simp only [qcb,qj hj,cond_true,qc9 hb]
 try simp only [qM hx,qbA ht,jd,qaY]
 refine Ev.bind es1 ?_
 try simp only [qM hx,qbA ht,jd,qaY,e1,e2]
 refine Ev.bind q2 ?_
 try simp only [qM hx,qbA ht,jd,qaY,e1,e2]
 exact hX
theorem qqD {a:(List ByteArray)} {k:Int} (h0:0≤k) (h1:k+16*(qem a:Int)≤1000000000000) (hw:qem a≤1048576):Mk (fun n=>qjf n a k) k (qem a):=by
 refine qhu (a:=a) (wt:=(fun x:ByteArray=>x.size)) h0 h1 (Lf:=qcS a) (fun n t k=>by simp only [qcS,ql (je _),cond_false]) (fun x hx k h0 h1=>?_) (by simp only [qem] at hw;omega) (fun _=>rfl)
 obtain ⟨s,es⟩:=qjO (k:=k) (by omega)
 have e1:W64 (k+1)=k+1:=qJ (by omega) (by omega)
 refine ⟨s,k+1,by omega,by omega,fun t j hb hj ht hx X hX=>?_⟩
 simp only [qcS,qj hj,cond_true,e1,qc9 hb]
 refine Ev.bind es ?_
 try simp only [qM hx,jd]
 exact hX
theorem qso {a:(List qP)} {k:Int} (h0:0≤k) (h1:k+16*(qf5 a:Int)≤1000000000000) (hw:qf5 a≤1048576):Mk (fun n=>qkV n a k) k (qf5 a):=by
 refine qhu (a:=a) (wt:=(fun x:qP=>qie x)) h0 h1 (Lf:=qdC a) (fun n t k=>by simp only [qdC,ql (je _),cond_false]) (fun x hx k h0 h1=>?_) (by simp only [qf5] at hw;omega) (fun _=>rfl)
 have hs:=qcB (wt:=(fun x:qP=>qie x)) hx
 have ew:qie x=x.Az.size:=rfl
 have hw:a.length+(a.map (fun x:qP=>qie x)).sum≤1048576:=hw
 simp only [ew] at hs h1 ⊢
 obtain ⟨s1,es1⟩:=qjO (k:=k) (by omega)
 have e1:W64 (k+1)=k+1:=qJ (by omega) (by omega)
 have e2:W64 (k+1+1)=k+1+1:=qJ (by omega) (by omega)
 have e3:W64 (k+1+1+1)=k+1+1+1:=qJ (by omega) (by omega)
 refine ⟨⟨s1,k+1,k+1+1⟩,k+1+1+1,by omega,by omega,fun t j hb hj ht hx X hX=>?_⟩
 simp only [qdC,qj hj,cond_true,qc9 hb]
 try simp only [qM hx,qbA ht,jd,qaY]
 refine Ev.bind es1 ?_
 try simp only [qM hx,qbA ht,jd,qaY,e1,e2,e3]
 exact hX
theorem qru {a:qf} {k:Int} (h0:0≤k) (h1:k+16*(qeE a:Int)≤1000000000000) (hw:qeE a≤1048576):Mk (fun n=>qh5 n a k) k (qeE a):=by
 simp only [qeE] at h1 hw ⊢
 obtain ⟨k1,x1,q1,l1,u1⟩:=qpp (a:=a.Ab) (k:=k) (by omega) (by omega) (by omega)
 obtain ⟨k2,x2,q2,l2,u2⟩:=qqD (a:=a.Ai) (k:=k1) (by omega) (by omega) (by omega)
 obtain ⟨k3,x3,q3,l3,u3⟩:=qso (a:=a.Ah) (k:=k2) (by omega) (by omega) (by omega)
 refine ⟨k3,(x1,x2,x3),?_,by omega,by omega⟩
 unfold qh5
 exact Ev.bind q1 (Ev.bind q2 (Ev.bind q3 (.done)))
theorem qtb {a:(List qE)} {k:Int} (h0:0≤k) (h1:k+16*(qf8 a:Int)≤1000000000000) (hw:qf8 a≤1048576):Mk (fun n=>qkI n a k) k (qf8 a):=by
 refine qhu (a:=a) (wt:=(fun x:qE=>qfA x)) h0 h1 (Lf:=qdM a) (fun n t k=>by simp only [qdM,ql (je _),cond_false]) (fun x hx k h0 h1=>?_) (by simp only [qf8] at hw;omega) (fun _=>rfl)
 have hs:=qcB (wt:=(fun x:qE=>qfA x)) hx
 have ew:qfA x=qaO x.Ak+qaO x.Bs+qaO x.Bo+qaO x.Bh:=rfl
 have hw:a.length+(a.map (fun x:qE=>qfA x)).sum≤1048576:=hw
 simp only [ew] at hs h1 ⊢
 obtain ⟨k1,x1,q1,l1,u1⟩:=qeJ (a:=x.Ak) (k:=k) (by omega) (by omega) (by omega)
 obtain ⟨k2,x2,q2,l2,u2⟩:=qeJ (a:=x.Bs) (k:=k1) (by omega) (by omega) (by omega)
 obtain ⟨k3,x3,q3,l3,u3⟩:=qeJ (a:=x.Bo) (k:=k2) (by omega) (by omega) (by omega)
 obtain ⟨k4,x4,q4,l4,u4⟩:=qeJ (a:=x.Bh) (k:=k3) (by omega) (by omega) (by omega)
 refine ⟨⟨x1,x2,x3,x4⟩,k4,by omega,by omega,fun t j hb hj ht hx X hX=>?_⟩
 simp only [qdM,qj hj,cond_true,qc9 hb]
 try simp only [qM hx,qbA ht,jd,qaY]
 refine Ev.bind q1 ?_
 try simp only [qM hx,qbA ht,jd,qaY]
 refine Ev.bind q2 ?_
 try simp only [qM hx,qbA ht,jd,qaY]
 refine Ev.bind q3 ?_
 try simp only [qM hx,qbA ht,jd,qaY]
 refine Ev.bind q4 ?_
 try simp only [qM hx,qbA ht,jd,qaY]
 exact hX
theorem qsC {a:qg} {k:Int} (h0:0≤k) (h1:k+16*(qf7 a:Int)≤1000000000000) (hw:qf7 a≤1048576):Mk (fun n=>qiQ n a k) k (qf7 a):=by
 simp only [qf7] at h1 hw ⊢
 obtain ⟨k1,x1,q1,l1,u1⟩:=qqI (a:=a.Ar) (k:=k) (by omega) (by omega) (by omega)
 obtain ⟨k2,⟨x2_0,x2_1,x2_2⟩,q2,l2,u2⟩:=qru (a:=a.Aa) (k:=k1) (by omega) (by omega) (by omega)
 obtain ⟨k3,x3,q3,l3,u3⟩:=qtb (a:=a.Ac) (k:=k2) (by omega) (by omega) (by omega)
 refine ⟨k3,(x1,x2_0,x2_1,x2_2,x3),?_,by omega,by omega⟩
 unfold qiQ
 exact Ev.bind q1 (Ev.bind q2 (Ev.bind q3 (.done)))
theorem qq8 {a:(List qe)} {k:Int} (h0:0≤k) (h1:k+16*(qeq a:Int)≤1000000000000) (hw:qeq a≤1048576):Mk (fun n=>qjg n a k) k (qeq a):=by
 rw [show qeq a=a.length+(a.map (fun _:qe=>0)).sum by unfold qeq;rw [qwB,Je]] at *
 refine qhu (a:=a) (wt:=(fun _:qe=>0)) h0 h1 (Lf:=qcQ a) (fun n t k=>by simp only [qcQ,ql (je _),cond_false]) (fun x hx k h0 h1=>?_) (by omega) (fun _=>rfl)
 have hs:=qcB (wt:=(fun _:qe=>0)) hx
 have e1:W64 (k+1)=k+1:=qJ (by omega) (by omega)
 have e2:W64 (k+1+1)=k+1+1:=qJ (by omega) (by omega)
 have e3:W64 (k+1+1+1)=k+1+1+1:=qJ (by omega) (by omega)
 have e4:W64 (k+1+1+1+1)=k+1+1+1+1:=qJ (by omega) (by omega)
 have e5:W64 (k+1+1+1+1+1)=k+1+1+1+1+1:=qJ (by omega) (by omega)
 refine ⟨⟨k,⟨k+1,k+1+1⟩,⟨k+1+1+1,k+1+1+1+1⟩⟩,k+1+1+1+1+1,by omega,by omega,fun t j hb hj ht hx X hX=>?_⟩
 simp only [qcQ,qj hj,cond_true,qc9 hb]
 try simp only [qM hx,qbA ht,jd,qaY,e1,e2,e3,e4,e5]
 exact hX
end Go.Fw


namespace Go.Fw
open Go
set_option maxRecDepth 100000
def mkd {α:Type} (v:Int→α) (c:Nat) (k:Int) (m:Nat):List α:=(List.range m).map fun (i:Nat)=>v (k+((c*i:Nat):Int))
theorem qqu {α:Type} {v:Int→α} {c:Nat} {k:Int} {m:Nat}:(mkd v c k m).length=m:=by simp [mkd]
theorem qwr {α:Type} {v:Int→α} {c:Nat} {k:Int} {m j:Nat} (h:j<m):idx (mkd v c k m) (j:Int)=some (v (k+((c*j:Nat):Int))):=by
 rw [qge (by rw [qqu];exact h)];simp [mkd]
theorem mkdL {α:Type} (c:Nat) (v:Int→α) {a:List α} {Lf:Nat→List α→Int→Int→Option (List α × Int × Int)} {k:Int} (h0:0≤k) (h1:k≤1000000000000) (hl:a.length≤1048576) (hc:c≤16)
  (hend:∀ n t i,Lf (n+1) t i (a.length:Int)=some (t,i,(a.length:Int)))
  (hstep:∀ n (t:List α) (i:Int) (j:Nat),j<a.length→j<t.length→0≤i→i≤2000000000000→Lf (n+1) t i (j:Int)=Lf n (setS t (j:Int) (v i)) (i+(c:Int)) ((j+1:Nat):Int)) :
  Ev (fun n=>Lf n a k 0) (mkd v c k a.length,k+((c*a.length:Nat):Int),(a.length:Int)):=by
 have:=loopF (τ:=List α × Int) (Lf:=fun n t j=>Lf n t.1 t.2 j) (S:=fun j=>(mkd v c k j++a.drop j,k+((c*j:Nat):Int))) (len:=a.length) (fin:=(mkd v c k a.length,k+((c*a.length:Nat):Int),(a.length:Int))) (fun n=>by
   simp only [hend,List.drop_length,jT])
  (fun j hj X hX=>by
   have hp:(mkd v c k j).length=j:=qqu
   have hlt:j<(mkd v c k j++a.drop j).length:=by rw [jh,hp,List.length_drop];omega
   have hm:mkd v c k (j+1)=mkd v c k j++[v (k+((c*j:Nat):Int))]:=by unfold mkd;rw [Ja,jK];rfl
   have hcj:c*j≤16*1048576:=Nat.mul_le_mul hc (by omega)
   simp only [hstep _ _ _ j hj hlt (show 0≤k+((c*j:Nat):Int) by omega) (by omega),qtp hp hj]
   rw [←hm]
   have e:k+((c*j:Nat):Int)+(c:Int)=k+((c*(j+1):Nat):Int):=by rw [Nat.mul_succ];omega
   rw [e]
   exact hX)
 simpa [mkd] using this
theorem hedL {m c:Nat} {k:Int} {Lh:Nat→Int→Int→Option (Flow Int (Int × Int))} (hend:∀ n i,Lh (n+1) i (m:Int)=some (.nxt (i,(m:Int))))
  (hstep:∀ n (j:Nat),j<m→Lh (n+1) (k+((c*j:Nat):Int)) (j:Int)=Lh n (k+((c*j:Nat):Int)+(c:Int)) ((j+1:Nat):Int)):Ev (fun n=>Lh n k 0) (.nxt (k+((c*m:Nat):Int),(m:Int))):=by
 have:=loopF (Lf:=Lh) (S:=fun j=>k+((c*j:Nat):Int)) (len:=m) (fin:=.nxt (k+((c*m:Nat):Int),(m:Int))) (fun n=>hend n _)
  (fun j hj X hX=>by
   simp only [hstep _ j hj]
   have e:k+((c*j:Nat):Int)+(c:Int)=k+((c*(j+1):Nat):Int):=by rw [Nat.mul_succ];omega
   rw [e]
   exact hX)
 simpa using this
theorem qxl {a:List Bool} {k:Int} (h0:0≤k) (h1:k≤1000000000000) (hl:a.length≤1048576):∃ y,Ev (fun n=>qis n a k) (k+((1*a.length:Nat):Int),y)∧Ev (fun n=>qir n y k) (k+((1*a.length:Nat):Int)):=by
 refine ⟨mkd (fun i=>(i.tmod 3)==0) 1 k a.length,?_,?_⟩
 ·have hL:=mkdL (Lf:=qdI a) 1 (fun i=>(i.tmod 3)==0) h0 h1 hl (by decide)
   (fun n t i=>by simp only [qdI,ql (je _),cond_false])
   (fun n t i j hj ht i0 i1=>by
    have e:=wS j
    have q1:W64 (i+1)=i+1:=qJ (by omega) (by omega)
    simp only [qdI,qj hj,cond_true,qge ht,jd,e,q1]
    first|rfl|skip)
  unfold qis
  exact Ev.bind hL .done
 ·have hlen:(mkd (fun i=>(i.tmod 3)==0) 1 k a.length).length=a.length:=qqu
  have hL:=hedL (Lh:=qdz (mkd (fun i=>(i.tmod 3)==0) 1 k a.length)) (m:=a.length) (c:=1) (k:=k)
   (fun n i=>by simp only [qdz,hlen,ql (je _),cond_false])
   (fun n j hj=>by
    have e:=wS j
    have i0:0≤k+((1*j:Nat):Int):=by omega
    have i1:k+((1*j:Nat):Int)≤2000000000000:=by omega
    have e0:=qwr (v:=(fun i=>(i.tmod 3)==0)) (c:=1) (k:=k) (m:=a.length) hj
    generalize k+((1*j:Nat):Int)=i at i0 i1 e0 ⊢
    have q1:W64 (i+1)=i+1:=qJ (by omega) (by omega)
    simp only [qdz,hlen,qj hj,cond_true,e0,jd,bne_self_eq_false,BEq.rfl,jX,cond_false,e,q1]
    first|rfl|skip)
  unfold qir
  exact Ev.bind hL .done
theorem qtf {a:List qc} {k:Int} (h0:0≤k) (h1:k≤1000000000000) (hl:a.length≤1048576):∃ y,Ev (fun n=>qgZ n a k) (k+((2*a.length:Nat):Int),y)∧Ev (fun n=>qg0 n y k) (k+((2*a.length:Nat):Int)):=by
 refine ⟨mkd (fun i=>(⟨i,i+1⟩:qc)) 2 k a.length,?_,?_⟩
 ·have hL:=mkdL (Lf:=qdN a) 2 (fun i=>(⟨i,i+1⟩:qc)) h0 h1 hl (by decide)
   (fun n t i=>by simp only [qdN,ql (je _),cond_false])
   (fun n t i j hj ht i0 i1=>by
    have e:=wS j
    have q1:W64 (i+1)=i+1:=qJ (by omega) (by omega)
    have q2:W64 (i+2)=i+2:=qJ (by omega) (by omega)
    have r1:i+1+1=i+2:=by omega
    simp only [qdN,qj hj,cond_true,qge ht,jd,qbA ht,qaY,e,q1,q2,r1]
    first|rfl|skip)
  unfold qgZ
  exact Ev.bind hL .done
 ·have hlen:(mkd (fun i=>(⟨i,i+1⟩:qc)) 2 k a.length).length=a.length:=qqu
  have hL:=hedL (Lh:=qdK (mkd (fun i=>(⟨i,i+1⟩:qc)) 2 k a.length)) (m:=a.length) (c:=2) (k:=k)
   (fun n i=>by simp only [qdK,hlen,ql (je _),cond_false])
   (fun n j hj=>by
    have e:=wS j
    have i0:0≤k+((2*j:Nat):Int):=by omega
    have i1:k+((2*j:Nat):Int)≤2000000000000:=by omega
    have e0:=qwr (v:=(fun i=>(⟨i,i+1⟩:qc))) (c:=2) (k:=k) (m:=a.length) hj
    generalize k+((2*j:Nat):Int)=i at i0 i1 e0 ⊢
    have q1:W64 (i+1)=i+1:=qJ (by omega) (by omega)
    have q2:W64 (i+2)=i+2:=qJ (by omega) (by omega)
    have r1:i+1+1=i+2:=by omega
    simp only [qdK,hlen,qj hj,cond_true,e0,jd,bne_self_eq_false,BEq.rfl,jX,cond_false,e,q1,q2,r1]
    first|rfl|skip)
  unfold qg0
  exact Ev.bind hL .done
theorem qvy {a:qn} {k:Int} (h0:0≤k) (h1:k≤900000000000) (hw:qkZ a≤1048576):∃ z y,Ev (fun n=>qh6 n a k) (z,y)∧Ev (fun n=>qgj n (⟨y.1,y.2.1,y.2.2⟩:qn) k) z∧k≤z:=by
 simp only [qkZ,qoC,qmh,qmh] at hw
 obtain ⟨y0,m0,e0⟩:=qxl (a:=a.Aj) (k:=k) (by omega) (by omega) (by omega)
 obtain ⟨y1,m1,e1⟩:=qtf (a:=a.Af) (k:=k+((1*a.Aj.length:Nat):Int)) (by omega) (by omega) (by omega)
 obtain ⟨y2,m2,e2⟩:=qtf (a:=a.Aq) (k:=k+((1*a.Aj.length:Nat):Int)+((2*a.Af.length:Nat):Int)) (by omega) (by omega) (by omega)
 refine ⟨k+((1*a.Aj.length:Nat):Int)+((2*a.Af.length:Nat):Int)+((2*a.Aq.length:Nat):Int),(y0,y1,y2),?_,?_,by omega⟩
 ·unfold qh6
  exact Ev.bind m0 (Ev.bind m1 (Ev.bind m2 (.done)))
 ·unfold qgj
  exact Ev.bind e0 (Ev.ff (by simp;omega) (Ev.bind e1 (Ev.ff (by simp;omega) (Ev.bind e2 (Ev.ff (by simp;omega) (.done))))))
end Go.Fw


namespace Go.Fw
open Go
set_option maxRecDepth 100000
theorem qnp {b:qg} {c:qy} {br:List Int} {xs:List qe} {ex:List Int} (hb:qjF b) (hc:okS c.Az) (hbl:br.length≤1048576) (hxl:xs.length≤1048576) (hel:ex.length≤1048576) :
  ∃ R:qn × Int,Ev (fun n=>qc7 n b c br xs ex) R∧Ev (fun n=>qca n b c br xs ex) R∧qkZ R.1≤1048576:=by
 obtain ⟨R,⟨h1,h2,h3⟩,hs,hi⟩:=qnX hb hc hbl hxl hel
 exact ⟨R,hs,hi,by unfold qkZ qoC qmh;omega⟩
theorem qko {b:qg} {c:qy} {br:(List Int)} {xs:(List qe)} {ex:(List Int)} (h0:qnt b) (h1:qmi c) (h2:(rngL rngI) br) (h3:(rngL qi5) xs) (h4:(rngL rngI) ex):Ev (fun n=>qdR n b c br xs ex) true:=by
 unfold qdR
 refine Ev.bif (fun _=>.done) (fun hl=>?_)
 have hl2:br.length≤1048576:=by have:=of_decide_eq_false hl;omega
 refine Ev.bif (fun _=>.done) (fun hl=>?_)
 have hl4:ex.length≤1048576:=by have:=of_decide_eq_false hl;omega
 obtain ⟨r1,e1,q1⟩:=qwl (a:=b) (left:=1048576) h0 (by omega) (by omega)
 refine Ev.bind e1 ?_
 rcases q1 with q1|⟨p1,q1⟩
 ·exact Ev.tt (by simpa using q1) .done
 refine Ev.ff (by simp;omega) ?_
 obtain ⟨r2,e2,q2⟩:=qvJ (a:=c) (left:=r1) h1 p1 (by omega)
 refine Ev.bind e2 ?_
 rcases q2 with q2|⟨p2,q2⟩
 ·exact Ev.tt (by simpa using q2) .done
 refine Ev.ff (by simp;omega) ?_
 obtain ⟨r3,e3,q3⟩:=quw (a:=xs) (left:=r2) h3 p2 (by omega)
 refine Ev.bind e3 ?_
 rcases q3 with q3|⟨p3,q3⟩
 ·exact Ev.tt (by simpa using q3) .done
 refine Ev.ff (by simp;omega) ?_
 have w0:qf7 b≤1048576:=by omega
 have k0:=quc h0 w0
 have w1:qlH c≤1048576:=by omega
 have k1:=qtZ h1 w1
 have w2:qaO br≤1048576:=by unfold qaO;omega
 have k2:=qdv h2 w2
 have w3:qeq xs≤1048576:=by omega
 have k3:=qsM h3 w3
 have w4:qaO ex≤1048576:=by unfold qaO;omega
 have k4:=qdv h4 w4
 obtain ⟨⟨R0,R1⟩,hs,hi,v0⟩:=qnp (b:=b) (c:=c) (br:=br) (xs:=xs) (ex:=ex) k0 k1.Az k2.len k3.len k4.len
 have v0:qkZ R0≤1048576:=v0
 refine Ev.bind (qoA w0) ?_
 refine Ev.bind (qpj w1) ?_
 refine Ev.bind (qcy w2) ?_
 refine Ev.bind (qmr w3) ?_
 refine Ev.bind (qcy w4) ?_
 refine Ev.bind hs ?_
 refine Ev.bind (qoA w0) ?_
 refine Ev.bind (qcy w2) ?_
 refine Ev.bind (qmr w3) ?_
 refine Ev.bind (qcy w4) ?_
 refine Ev.bind (qpj w1) ?_
 refine Ev.bind hi ?_
 refine Ev.bind (b:=false) (Ev.bind (qpe v0) (Ev.ff rfl (Ev.now (by simp)))) (Ev.ff rfl ?_)
 refine Ev.bind (qoA w0) ?_
 refine Ev.bind (qwK w0) (Ev.ff rfl ?_)
 refine Ev.bind (qcy w2) ?_
 refine Ev.bind (qfM w2) (Ev.ff rfl ?_)
 refine Ev.bind (qmr w3) ?_
 refine Ev.bind (quf w3) (Ev.ff rfl ?_)
 refine Ev.bind (qcy w4) ?_
 refine Ev.bind (qfM w4) (Ev.ff rfl ?_)
 obtain ⟨m1,⟨x1_0,x1_1,x1_2,x1_3,x1_4⟩,mk1,ml1,mu1⟩:=qsC (a:=b) (k:=1) (by omega) (by omega) w0
 refine Ev.bind mk1 ?_
 obtain ⟨m2,x2_0,mk2,ml2,mu2⟩:=qeJ (a:=br) (k:=m1) (by omega) (by omega) w2
 refine Ev.bind mk2 ?_
 obtain ⟨m3,x3_0,mk3,ml3,mu3⟩:=qq8 (a:=xs) (k:=m2) (by omega) (by omega) w3
 refine Ev.bind mk3 ?_
 obtain ⟨m4,x4_0,mk4,ml4,mu4⟩:=qeJ (a:=ex) (k:=m3) (by omega) (by omega) w4
 refine Ev.bind mk4 ?_
 refine Ev.bind (b:=false) (Ev.ff (by simp;omega) (Ev.bind (qpe v0) (Ev.ff rfl (Ev.now (by simp))))) (Ev.ff rfl ?_)
 obtain ⟨z1,⟨y1_0,y1_1,y1_2⟩,hm1,hh1,zl1⟩:=qvy (a:=R0) (k:=1) (by omega) (by omega) v0
 refine Ev.bind hm1 ?_
 refine Ev.bind hh1 (Ev.ff (by simp;omega) (Ev.ff qby ?_))
 refine Ev.bind (qoA w0) ?_
 refine Ev.bind (qpj w1) ?_
 refine Ev.bind (qcy w2) ?_
 refine Ev.bind (qmr w3) ?_
 refine Ev.bind (qcy w4) ?_
 refine Ev.bind hi ?_
 refine Ev.bind (b:=false) (Ev.bind (qpe v0) (Ev.ff rfl (Ev.now (by simp)))) (Ev.ff rfl ?_)
 refine Ev.bind hh1 (Ev.ff (by simp;omega) (Ev.ff qby ?_))
 exact .done
end Go.Fw


namespace Go.Fw
open Go
end Go.Fw


namespace Go.Fw
open Go
open Go.RowKit (Below)
structure Same where
 w:World
 K:Nat→Prop
instance instSame:GoT Same where
 k:=1
 agg:=false
 zero:=⟨default,fun _=>False⟩
 zc:=[.bool true]
 R w S x cs:=cs=[.bool true]∧∀ b,x.K b→S b∧w.heap[b]?=x.w.heap[b]?
 O w S x cs:=cs=[.bool true]∧∀ b,x.K b→S b∧w.heap[b]?=x.w.heap[b]?
 kpos:=by decide
 noagg _:=rfl
 len h:=by obtain ⟨rfl,_⟩:=h;rfl
 one h:=by obtain ⟨rfl,_⟩:=h;simp [Value.oneCell']
 loc h hs:=⟨h.1,fun b hb=>⟨(h.2 b hb).1,(hs b (h.2 b hb).1).trans (h.2 b hb).2⟩⟩
 mono h hs:=⟨h.1,fun b hb=>⟨hs b (h.2 b hb).1,(h.2 b hb).2⟩⟩
 toR h:=h
 locO h hs:=⟨h.1,fun b hb=>⟨(h.2 b hb).1,(hs b (h.2 b hb).1).trans (h.2 b hb).2⟩⟩
 monoO h hs:=⟨h.1,fun b hb=>⟨hs b (h.2 b hb).1,(h.2 b hb).2⟩⟩
 zO _ _:=⟨rfl,fun _ h=>h.elim⟩
def FS (F:List Ch) (b:Nat):Prop:=∃ d,d ∈ F∧d.S b
abbrev Fr (w0:World) (F:List Ch) (b:Nat):Prop:=FS F b∨old w0 b
abbrev same (w0 w:World) (F:List Ch):Fct:=fct (⟨w,Fr w0 F⟩:Same) [.bool true]
section
variable {P:Program} {T:Tab} {n:Nat} {Q:Exit→Act→World→Prop} {k:List It} {e:Env} {w0 w w':World} {L L' F:List Ch}
theorem SH.frame (L:List Ch) (h:SH w0 w (L++F)):SH w0 w (L++[Ch.grp (Fw.old w0) (FS F) [same w0 w F]]):=by
 have hp:=List.pairwise_append.1 h.apart
 refine ⟨h.below,fun c hc=>?_,fun c hc=>?_,List.pairwise_append.2 ⟨hp.1,List.pairwise_singleton ..,fun c hc d hd b hb=>?_⟩⟩
 ·rcases List.mem_append.1 hc with hc|hc
  ·exact h.holds c (jR _ hc)
  ·obtain rfl:=List.mem_singleton.1 hc
   refine ⟨fun f hf=>?_,fun b hb=>?_⟩
   ·obtain rfl:=List.mem_singleton.1 hf
    exact ⟨rfl,fun b hb=>⟨hb,rfl⟩⟩
   ·obtain ⟨d,hd,hb⟩:=hb
    exact (h.holds d (List.mem_append_right _ hd)).2 b hb
 ·rcases List.mem_append.1 hc with hc|hc
  ·exact h.elder c (jR _ hc)
  ·obtain rfl:=List.mem_singleton.1 hc
   exact fun b hb=>hb
 ·obtain rfl:=List.mem_singleton.1 hd
  rintro ⟨d,hd,hdb⟩
  exact hp.2.2 c hc d hd b hb hdb
variable {α:Type} [GoT α] {x:α} {cs:List Value} {S D:Nat→Prop} {fs:List Fct}
end
section
open Go.ChangeShapes Go.RowKit
variable {H:Type} {enc:TypeId × Value→H} {P:Program} {w:World} {base:Nat} {spare:Nat→Bool} {held:Bool}
theorem qsU {t0 t1 t2 t3 t4:TypeId} {args:Array Value} {ds:List (DataW H)} {ps:List MemPlace} (h:DataW.TrodAll enc P w base spare held [t0,t1,t2,t3,t4] args.toList ds ps) :
  ∃ v0 v1 v2 v3 v4 d0 d1 d2 d3 d4 p0 p1 p2 p3 p4,args=#[v0,v1,v2,v3,v4]∧ds=[d0,d1,d2,d3,d4]∧ps=p0++p1++p2++p3++p4∧DataW.Trod enc P w base spare held t0 v0 d0 p0∧DataW.Trod enc P w base spare held t1 v1 d1 p1∧DataW.Trod enc P w base spare held t2 v2 d2 p2∧DataW.Trod enc P w base spare held t3 v3 d3 p3∧DataW.Trod enc P w base spare held t4 v4 d4 p4:=by
 obtain ⟨v0,vs0,d0,ds0,p0,q0,hargs,rfl,rfl,g0,k0⟩:=trodAll_cons h
 obtain ⟨v1,vs1,d1,ds1,p1,q1,rfl,rfl,rfl,g1,k1⟩:=trodAll_cons k0
 obtain ⟨v2,vs2,d2,ds2,p2,q2,rfl,rfl,rfl,g2,k2⟩:=trodAll_cons k1
 obtain ⟨v3,vs3,d3,ds3,p3,q3,rfl,rfl,rfl,g3,k3⟩:=trodAll_cons k2
 obtain ⟨v4,vs4,d4,ds4,p4,q4,rfl,rfl,rfl,g4,k4⟩:=trodAll_cons k3
 obtain ⟨rfl,rfl,rfl⟩:=trodAll_nil k4
 exact ⟨v0,v1,v2,v3,v4,d0,d1,d2,d3,d4,p0,p1,p2,p3,p4,by cases args;simp_all,rfl,by simp,g0,g1,g2,g3,g4⟩
end
end Go.Fw
