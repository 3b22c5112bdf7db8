/- Plain laws: the links of a valid block; its view. -/
import Derived.Test.YtbmbbkjleheokaaGreatDoorW1
import Derived.Test.YtbmbbkjleheokaaGreatDoorR2
import Derived.Test.YtbmbbkjleheokaaGreatDoorFw38
import Derived.Test.YtbmbbkjleheokaaGreatDoorZ2
open Option renaming bind_some → jd, some → V, none → U
open Nat renaming le_refl → je, mul_le_mul_right → js, le_trans → jX, zero_le → Jh
open Bool renaming and_eq_true → jf, eq_iff_iff → jm, true_and → jz, not_eq_true' → jF, not_true → Ji
open List renaming length_append → jg, length_singleton → ji, getElem?_eq_getElem → jn, getElem_mem → jo, mem_cons_of_mem → jp, append_assoc → jt, mem_cons_self → jv, take_succ_eq_append_getElem → jw, length_map → jx, not_mem_nil → jy, length_take → jB, take_length → jC, getD_eq_getElem?_getD → jD, drop_eq_getElem_cons → jH, mem_append_left → jI, mem_cons → jJ, length_replicate → jL, mem_append_right → jR, map_append → jU, length_cons → jY, getElem_take → Jb, append_nil → Jc, all_eq_true → Jd, ext_getElem → Je
open Int renaming toNat_natCast → jr, tdiv_eq_ediv_of_nonneg → jE, le_refl → jS, mul_nonneg → jT, mul_assoc → jZ, mul_le_mul → Ja, add_zero → Jf

namespace Go.Fw
open Go
set_option maxRecDepth 100000
def pre {α:Type}(f:Nat→α)(j:Nat):List α:=(List.range j).map f
theorem qj5 {α:Type}{f:Nat→α}{j:Nat}:(pre f j).length=j:=by simp[pre]
theorem qtU {α:Type}{f:Nat→α}{j:Nat}:pre f j++[f j]=pre f (j+1):=by unfold pre;rw[List.range_succ,jU];rfl
theorem qqd {α:Type}{f:Nat→α}{j:Nat}(h:j≤1048576):appS (pre f j) [f j]=V (pre f (j+1)):=by
 rw[qcI (by rw[qj5,ji];omega),qtU]
theorem qrJ {α:Type}[Inhabited α]{f:Nat→α}{n j:Nat}(h:j<n):gt (pre f n) j=f j:=qoO h
theorem qh5 {α:Type}[Inhabited α]{f:Nat→α}{n j:Nat}(h:j<n):idx (pre f n) (j:Int)=V (f j):=by rw[qw (by rw[qj5];exact h),qrJ h]
theorem qg1 {α:Type}{f g:Nat→α}{n:Nat}(h:∀ k,k<n→f k=g k):pre f n=pre g n:=List.map_congr_left fun k a=>h k (List.mem_range.1 a)
theorem qm7 {α:Type}{f:Nat→α}{n k:Nat}{v:α}:setS (pre f n) (k:Int) v=pre (fun i=>if i=k then v else f i) n:=by
 unfold setS pre;rw[jr];refine Je (by simp) fun i a b=>?_;rw[List.getElem_set];by_cases h:k=i
 ·subst h;simp
 ·rw[if_neg h];simp[show ¬ i=k from fun e=>h e.symm]
def fm {α:Type}(f:Nat→List α)(j:Nat):List α:=(List.range j).flatMap f
theorem qjf {α:Type}{f:Nat→List α}{j:Nat}:fm f (j+1)=fm f j++f j:=by unfold fm;rw[List.range_succ,List.flatMap_append];simp
theorem qnM {α:Type}{f:Nat→List α}{j c:Nat}(h:∀ i,i<j→(f i).length≤c):(fm f j).length≤c*j:=by
 induction j with
 | zero=>exact je _
 | succ j ih=>rw[qjf,jg];have:=ih (fun i hi=>h i (by omega));have:=h j (by omega);rw[Nat.mul_succ];omega
def transL (a:qal):List qT:=
 bif (a.Bc==2) then[⟨0,0⟩,⟨0,1⟩] else bif (a.Bc==3) then[⟨1,0⟩,⟨1,1⟩] else bif (a.Bc != 1) then[] else
 bif (a.Bn==1) then[⟨0,0⟩,⟨1,1⟩] else bif (a.Bn==2) then[⟨0,1⟩,⟨1,0⟩] else[⟨0,0⟩,⟨0,1⟩,⟨1,0⟩,⟨1,1⟩]
theorem qsQ {a:qal}{n:Nat}:qfm n a=V (transL a):=by
 unfold qfm transL;cases (a.Bc==2)
 ·cases (a.Bc==3)
  ·cases (a.Bc != 1)
   ·cases (a.Bn==1)
    ·cases (a.Bn==2)<;>rfl
    ·rfl
   ·rfl
  ·rfl
 ·rfl
theorem qpc {a:qal}:(transL a).length≤4:=by
 unfold transL;cases (a.Bc==2)
 ·cases (a.Bc==3)
  ·cases (a.Bc != 1)
   ·cases (a.Bn==1)
    ·cases (a.Bn==2)<;>simp
    ·simp
   ·simp
  ·simp
 ·simp
def b01 (x:Int):Prop:=x=0∨x=1
theorem qpT {a:qal}{t:qT}(h:t ∈ transL a):b01 t.e0∧b01 t.e1:=by
 have b:∀ t ∈ [(⟨0,0⟩:qT),⟨0,1⟩,⟨1,0⟩,⟨1,1⟩],b01 t.e0∧b01 t.e1:=by
  intro t c;simp only[jJ,jy,or_false] at c;rcases c with rfl|rfl|rfl|rfl<;>simp[b01]
 refine b t ?_;unfold transL at h;revert h;cases (a.Bc==2)
 ·cases (a.Bc==3)
  ·cases (a.Bc != 1)
   ·cases (a.Bn==1)
    ·cases (a.Bn==2)
     ·exact fun h=>h
     ·intro h;simp at h;rcases h with rfl|rfl<;>simp
    ·intro h;simp at h;rcases h with rfl|rfl<;>simp
   ·intro h;simp at h
  ·intro h;simp at h;rcases h with rfl|rfl<;>simp
 ·intro h;simp at h;rcases h with rfl|rfl<;>simp
def al1 (first:Int)(k:Nat)(a:qal)(t:qT):ql:=⟨2*(first+a.Bk)+t.e0,2*(first+a.To)+t.e1,1,(k:Int)⟩
def arcLs (first:Int)(k:Nat)(a:qal):List ql:=(transL a).map (al1 first k a)
def cellLs (c:qE)(first:Int)(j:Nat):List ql:=fm (fun k=>arcLs first k (gt c.Au k)) j
def instLs (b:qe)(j:Nat):List ql:=fm (fun i=>cellLs (cellAt b (i:Int)) (off b.Aa i:Int) (cellAt b (i:Int)).Au.length) j
theorem qnQ {first:Int}{k:Nat}{a:qal}:(arcLs first k a).length≤4:=by unfold arcLs;rw[jx];exact qpc
theorem qqK {b:qe}(h:blockB b=true){i:Nat}(hi:i<b.Aa.Ab.length):Ev (fun n=>qff n b (gt b.Aa.Ab i) (off b.Aa i:Int)) (cellLs (cellAt b (i:Int)) (off b.Aa i:Int) (cellAt b (i:Int)).Au.length):=by
 have u:=qao h;have D:=qW u;obtain⟨⟨z,c1⟩,r,g⟩:=qha u hi;have B:=qmS g;have s:=(qgP (qiC g)).1;have v:off b.Aa i≤78:=by
  have:=qaE D;rw[qgM] at this;have:=qr2 (d:=b.Aa) (show i≤b.Aa.Ab.length by omega);omega
 show Ev _ (cellLs (gt b.Ap.Aq (gt b.Aa.Ab i).Bt.toNat) (off b.Aa i:Int) (gt b.Ap.Aq (gt b.Aa.Ab i).Bt.toNat).Au.length);generalize hc:gt b.Ap.Aq (gt b.Aa.Ab i).Bt.toNat=c at r g B s ⊢;have A:Ev (fun n=>qbp (off b.Aa i:Int) c n ([]:List ql) 0) (cellLs c (off b.Aa i:Int) c.Au.length,(c.Au.length:Int)):=by
  refine loopF (Lf:=qbp (off b.Aa i:Int) c) (S:=cellLs c (off b.Aa i:Int)) (len:=c.Au.length) (fun n=>?_) (fun j p X o=>?_)
  ·simp only[qbp,qq (je _),cond_false]
  ·have H:=ql5 g p;have C:(cellLs c (off b.Aa i:Int) j).length≤4*j:=qnM fun _ _=>qnQ;simp only[qbp,qn p,cond_true,qw p,jd,qsQ,wS j];have m:Ev (fun n=>qbr (off b.Aa i:Int) (j:Int) (gt c.Au j) (transL (gt c.Au j)) n (cellLs c (off b.Aa i:Int) j) 0) (cellLs c (off b.Aa i:Int) (j+1),((transL (gt c.Au j)).length:Int)):=by
    have F:=qpc (a:=gt c.Au j);have:=loopF (Lf:=qbr (off b.Aa i:Int) (j:Int) (gt c.Au j) (transL (gt c.Au j))) (S:=fun k=>cellLs c (off b.Aa i:Int) j++((transL (gt c.Au j)).take k).map (al1 (off b.Aa i:Int) j (gt c.Au j))) (len:=(transL (gt c.Au j)).length) (fin:=(cellLs c (off b.Aa i:Int) (j+1),((transL (gt c.Au j)).length:Int))) (fun n=>by
      simp only[qbr,qq (je _),cond_false,jC];show V (cellLs c _ j++arcLs _ j _,_)=V (fm _ (j+1),_);rw[qjf];rfl)
     (fun k f X o=>by
      have y:=qpT (a:=gt c.Au j) (t:=gt (transL (gt c.Au j)) k) (by rw[qef f];exact jo f);have e0:W64 (W64 (2*W64 ((off b.Aa i:Int)+(gt c.Au j).Bk))+(gt (transL (gt c.Au j)) k).e0)=2*((off b.Aa i:Int)+(gt c.Au j).Bk)+(gt (transL (gt c.Au j)) k).e0:=by
       rcases y.1 with e|e<;>rw[e,wO ((off b.Aa i:Int)+(gt c.Au j).Bk),qU (x:=2*((off b.Aa i:Int)+(gt c.Au j).Bk)) (by omega) (by omega),qU (by omega) (by omega)]
      have e1:W64 (W64 (2*W64 ((off b.Aa i:Int)+(gt c.Au j).To))+(gt (transL (gt c.Au j)) k).e1)=2*((off b.Aa i:Int)+(gt c.Au j).To)+(gt (transL (gt c.Au j)) k).e1:=by
       rcases y.2 with e|e<;>rw[e,wO ((off b.Aa i:Int)+(gt c.Au j).To),qU (x:=2*((off b.Aa i:Int)+(gt c.Au j).To)) (by omega) (by omega),qU (by omega) (by omega)]
      simp only[qbr,qn f,cond_true,qw f,jd,e0,e1,wS k];rw[qcI (by rw[jg,jx,jB,ji];omega),jt];have:((transL (gt c.Au j)).take k).map (al1 (off b.Aa i:Int) j (gt c.Au j))++[al1 (off b.Aa i:Int) j (gt c.Au j) (gt (transL (gt c.Au j)) k)]=((transL (gt c.Au j)).take (k+1)).map (al1 (off b.Aa i:Int) j (gt c.Au j)):=qf1 f;have l:((transL (gt c.Au j)).take k).map (al1 (off b.Aa i:Int) j (gt c.Au j))++[(⟨2*((off b.Aa i:Int)+(gt c.Au j).Bk)+(gt (transL (gt c.Au j)) k).e0,2*((off b.Aa i:Int)+(gt c.Au j).To)+(gt (transL (gt c.Au j)) k).e1,1,(j:Int)⟩:ql)]=((transL (gt c.Au j)).take (k+1)).map (al1 (off b.Aa i:Int) j (gt c.Au j)):=this;rw[l];exact o)
    simpa using this
   exact Ev.bind m o
 unfold qff;rw[qfM z c1,hc];simp only[jd];exact Ev.bind A .done
def dvN (d:qf)(k:Nat):Nat:=((List.range (places d).length).find? fun j=>drvQ d (k:Int) j).getD 0
theorem qh8 {l:qu}{d:qf}(h:designB l d=true){k:Nat}(f:k<d.Aj.length):dvN d k<(places d).length∧drvQ d (k:Int) (dvN d k)=true:=by
 obtain⟨j,b,c,a⟩:=qvT h (k:=(k:Int)) (by omega) (by omega);unfold dvN;cases hf:(List.range (places d).length).find? fun j=>drvQ d (k:Int) j with
 | none=>
  have:=List.find?_eq_none.1 hf j (List.mem_range.2 b);exact absurd (by unfold drvQ;rw[c,a];simp) this
 | some i=>exact⟨List.mem_range.1 (List.mem_of_find?_eq_some hf),by have:=List.find?_some hf;exact this⟩
theorem qlX {d:qf}{k:Int}{j:Nat}:drvQ d k j=true↔(gt (places d) j).net=k∧(gt (places d) j).drives=true:=by unfold drvQ;simp
theorem qtX {l:qu}{d:qf}(h:designB l d=true){k:Nat}(m:k<d.Aj.length){j:Nat}(i:j<(places d).length)(n:(gt (places d) j).net=(k:Int))(g:(gt (places d) j).drives=true):dvN d k=j:=by
 obtain⟨a,b⟩:=qh8 h m;obtain⟨c,f⟩:=qlX.1 b;exact qrk h a i (by rw[c,n]) f g
def wl1 (a:Nat)(s:Int)(k:Nat):List ql:=[⟨2*(a:Int),2*s,2,(k:Int)⟩,⟨2*(a:Int)+1,2*s+1,2,(k:Int)⟩]
def wlN (b:qe)(i j:Nat):List ql:=fm (fun k=>wl1 (dvN b.Aa i) (at0 (skL b i) k) k) j
def wireLs (b:qe)(j:Nat):List ql:=fm (fun i=>wlN b i (skL b i).length) j
def linksL (b:qe):List ql:=instLs b b.Aa.Ab.length++wireLs b b.Af.length
def load0 (b:qe)(i:Nat):Int:=gt (loadsL b i) 0
def viewE (b:qe)(ex:List Int):Tview:=⟨b,places b.Aa,linksL b,pre (load0 b) b.Af.length,pre (exactL b) b.Af.length,ex⟩
def viewV (b:qe):Tview:=viewE b []
theorem qiB {b:qe}(h:blockB b=true){j:Nat}(d:j≤b.Aa.Ab.length):(instLs b j).length≤32*j:=by
 refine qnM fun i hi=>?_;obtain⟨_,_,a⟩:=qha (qao h) (show i<b.Aa.Ab.length by omega);have c:=qmS a;have:(cellLs (cellAt b (i:Int)) (off b.Aa i:Int) (cellAt b (i:Int)).Au.length).length≤4*(cellAt b (i:Int)).Au.length:=qnM fun _ _=>qnQ;have e:(cellAt b (i:Int)).Au.length≤8:=c;omega
theorem qqy {b:qe}{i j:Nat}:(wlN b i j).length≤2*j:=qnM fun _ _=>je _
theorem qmM {b:qe}(h:blockB b=true){j:Nat}:(wireLs b j).length≤156*j:=by
 refine qnM fun i _=>?_;have:=qqy (b:=b) (i:=i) (j:=(skL b i).length);have:=qgV h (i:=i);omega
theorem qgH {b:qe}(h:blockB b=true):(linksL b).length≤10000:=by
 have a:=qW (qao h);have c:=a.ni;have d:=a.nn;have f:=qjE h;have g:=qiB h (je _);have i:=qmM h (j:=b.Af.length);unfold linksL;rw[jg];omega
theorem qsc {b:qe}(h:blockB b=true):Ev (fun n=>qjm n b) (V (viewV b)):=by
 have r:=qao h;have z:=qW r;have R:=qaE z;have Y:=z.ni;have a3:=z.nn;have hwl:=qjE h;have e1:Ev (fun n=>qdS b n ([]:List ql) 0 0) (instLs b b.Aa.Ab.length,(off b.Aa b.Aa.Ab.length:Int),(b.Aa.Ab.length:Int)):=by
  have:=loopF (τ:=List ql×Int) (Lf:=fun n t j=>qdS b n t.1 t.2 j) (S:=fun j=>(instLs b j,(off b.Aa j:Int))) (len:=b.Aa.Ab.length) (fin:=(instLs b b.Aa.Ab.length,(off b.Aa b.Aa.Ab.length:Int),(b.Aa.Ab.length:Int))) (fun n=>by simp only[qdS,qq (je _),cond_false])
   (fun j a X m=>by
    have F:=qiB h (show j≤b.Aa.Ab.length by omega);have M:=qiB h (show j+1≤b.Aa.Ab.length by omega);have N:=qjM (d:=b.Aa) (i:=j);have a4:off b.Aa (j+1)≤78:=by
     rw[qgM] at R;have:=qr2 (d:=b.Aa) (show j+1≤b.Aa.Ab.length by omega);omega
    simp only[qdS,qn a,cond_true,qw a,jd,qbu,wS j];refine Ev.bind (qqK h a) ?_;have e:instLs b j++cellLs (cellAt b (j:Int)) (off b.Aa j:Int) (cellAt b (j:Int)).Au.length=instLs b (j+1):=qjf.symm;rw[qcI (by rw[←jg,e];omega),e,qU (by omega) (by omega),show(off b.Aa j:Int)+((gt b.Aa.Ab j).Aj.length:Int)=((off b.Aa (j+1):Nat):Int) by omega];exact m)
  exact this
 have I:mkS (b.Af.length:Int) (0:Int)=V (vecI (fun _=>0) b.Af.length):=qp5 (by omega);have J:mkS (b.Af.length:Int) ([]:List Int)=V (pre (fun _=>[]) b.Af.length):=by
  rw[qj1 (by omega)]
  congr 1
  refine Je (by simp[pre]) fun i u h2=>?_;simp[pre]
 have P:Ev (fun n=>qda (places b.Aa) n (pre (fun _=>[]) b.Af.length) (vecI (fun _=>0) b.Af.length) 0) (pre (fun i=>skL b i) b.Af.length,vecI (fun k=>(dvN b.Aa k:Int)) b.Af.length,((places b.Aa).length:Int)):=by
  have v:∀ k,k<b.Af.length→dvN b.Aa k<(places b.Aa).length:=fun k o=>(qh8 r (by omega)).1;have:=loopF (τ:=List (List Int)×List Int) (Lf:=fun n t j=>qda (places b.Aa) n t.1 t.2 j) (S:=fun j=>(pre (fun i=>sinksL b.Aa (i:Int) j) b.Af.length,vecI (fun k=>if dvN b.Aa k<j then(dvN b.Aa k:Int) else 0) b.Af.length)) (len:=(places b.Aa).length)
   (fin:=(pre (fun i=>skL b i) b.Af.length,vecI (fun k=>(dvN b.Aa k:Int)) b.Af.length,((places b.Aa).length:Int))) (fun n=>by
    simp only[qda,qq (je _),cond_false];rw[qfo (g:=fun k=>(dvN b.Aa k:Int)) (fun k o=>if_pos (v k o))]
    rfl)
   (fun j a X m=>by
    obtain⟨n0,n1⟩:=qkW r a;obtain⟨l,p⟩:∃ l:Nat,(gt (places b.Aa) j).net=(l:Int):=⟨_,qeO n0⟩;have x:l<b.Af.length:=by omega
    simp only[qda,qn a,cond_true,qw a,jd,p,wS j,qlU x,qh5 (f:=fun i=>sinksL b.Aa (i:Int) j) x];cases hdr:(gt (places b.Aa) j).drives
    ·have A:pre (fun i=>sinksL b.Aa (i:Int) (j+1)) b.Af.length=setS (pre (fun i=>sinksL b.Aa (i:Int) j) b.Af.length) (l:Int) (sinksL b.Aa (l:Int) j++[(j:Int)]):=by
      rw[qm7];refine qg1 fun k o=>?_;rw[qiY];unfold snkQ;rw[p,hdr];by_cases c:k=l
      ·subst c;rw[if_pos Z];simp
      ·rw[if_neg c,show(((l:Int)==(k:Int))&&!false)=false by simp;omega];simp
     have B:vecI (fun k=>if dvN b.Aa k<j+1 then(dvN b.Aa k:Int) else 0) b.Af.length=vecI (fun k=>if dvN b.Aa k<j then(dvN b.Aa k:Int) else 0) b.Af.length:=by
      refine qfo fun k o=>?_;have K:dvN b.Aa k ≠ j:=fun e=>by
       have:=(qlX.1 (qh8 r (k:=k) (by omega)).2).2;rw[e,hdr] at this;cases this
      by_cases u:dvN b.Aa k<j
      ·rw[if_pos u,if_pos (by omega)]
      ·rw[if_neg u,if_neg (by omega)]
     rw[A,B] at m;simp only[cond_false];have a7:(sinksL b.Aa (l:Int) j).length≤j:=by rw[qiF];exact qfY
     rw[qcI (by rw[ji];omega)];exact m
    ·have A:pre (fun i=>sinksL b.Aa (i:Int) (j+1)) b.Af.length=pre (fun i=>sinksL b.Aa (i:Int) j) b.Af.length:=by
      refine qg1 fun k o=>?_;rw[qiY];unfold snkQ;rw[hdr];simp
     have H:=qtX r (show l<b.Aa.Aj.length by omega) a p hdr;have B:vecI (fun k=>if dvN b.Aa k<j+1 then(dvN b.Aa k:Int) else 0) b.Af.length=setS (vecI (fun k=>if dvN b.Aa k<j then(dvN b.Aa k:Int) else 0) b.Af.length) (l:Int) (j:Int):=by
      rw[qoM];refine qfo fun k o=>?_;by_cases c:k=l
      ·subst c;rw[if_pos Z,H,if_pos (by omega)]
      ·rw[if_neg c];have K:dvN b.Aa k ≠ j:=fun e=>by
        have:=(qlX.1 (qh8 r (k:=k) (by omega)).2).1;rw[e,p] at this;omega
       by_cases u:dvN b.Aa k<j
       ·rw[if_pos u,if_pos (by omega)]
       ·rw[if_neg u,if_neg (by omega)]
     rw[A,B] at m;exact m)
  simpa [sinksL,pre,vecI] using this
 have D:∀ (i k:Nat) (s:Int) (t:List ql),i<b.Af.length→0≤s→s≤78→t.length≤1000000→Ev (fun n=>qdN (vecI (fun k=>(dvN b.Aa k:Int)) b.Af.length) (i:Int) (k:Int) s n t 0) (t++wl1 (dvN b.Aa i) s k,2):=by
  intro i k s t hi a5 a6 ht;have v:=(qh8 r (k:=i) (by omega)).1;have L:idx (vecI (fun k=>(dvN b.Aa k:Int)) b.Af.length) (i:Int)=V (dvN b.Aa i:Int):=qlU hi;refine Ev.succ ?_;simp only[qdN,L,jd];refine Ev.tt Z ?_;rw[wO (2*(dvN b.Aa i:Int)),wO (2*s),wO (2*(dvN b.Aa i:Int)+0),wO (2*s+0),qcI (by rw[ji];omega)];simp only[jd];refine Ev.succ ?_;simp only[qdN,L,jd];refine Ev.tt Z ?_;rw[show W64 (0+1)=1 from rfl,wO (2*(dvN b.Aa i:Int)),wO (2*s),wO (2*(dvN b.Aa i:Int)+1),wO (2*s+1),qcI (by rw[jg,ji,ji];omega)];simp only[jd];refine Ev.succ ?_;simp only[qdN];refine Ev.ff Z (Ev.now ?_);unfold wl1;rw[jt,Jf,Jf]
  rfl
 have C:∀ (i:Nat) (t:List ql),i<b.Af.length→t.length≤900000→Ev (fun n=>qdY (vecI (fun k=>(dvN b.Aa k:Int)) b.Af.length) (i:Int) (skL b i) n t 0) (t++wlN b i (skL b i).length,((skL b i).length:Int)):=by
  intro i t hi ht;have a8:=qgV h (i:=i);have:=loopF (Lf:=qdY (vecI (fun k=>(dvN b.Aa k:Int)) b.Af.length) (i:Int) (skL b i)) (S:=fun k=>t++wlN b i k) (len:=(skL b i).length) (fin:=(t++wlN b i (skL b i).length,((skL b i).length:Int))) (fun n=>by simp only[qdY,qq (je _),cond_false])
   (fun k o X m=>by
    obtain⟨y,L,ey,_⟩:=qmR o;have hwn:=qqy (b:=b) (i:=i) (j:=k);simp only[qdY,qn o,cond_true,qas o,jd,wS k];refine Ev.bind (D i k (at0 (skL b i) k) (t++wlN b i k) hi (by omega) (by omega) (by rw[jg];omega)) ?_;rw[jt,show wlN b i k++wl1 (dvN b.Aa i) (at0 (skL b i) k) k=wlN b i (k+1) from qjf.symm];exact m)
  simpa [wlN,fm] using this
 have Q:Ev (fun n=>qdO b (pre (fun i=>skL b i) b.Af.length) (vecI (fun k=>(dvN b.Aa k:Int)) b.Af.length) n ([]:List (List Int)) ([]:List Int) (instLs b b.Aa.Ab.length) 0) (pre (exactL b) b.Af.length,pre (load0 b) b.Af.length,linksL b,(b.Af.length:Int)):=by
  have F:=qiB h (je _);have:=loopF (τ:=List (List Int)×List Int×List ql) (Lf:=fun n t j=>qdO b (pre (fun i=>skL b i) b.Af.length) (vecI (fun k=>(dvN b.Aa k:Int)) b.Af.length) n t.1 t.2.1 t.2.2 j) (S:=fun j=>(pre (exactL b) j,pre (load0 b) j,instLs b b.Aa.Ab.length++wireLs b j)) (len:=b.Af.length)
   (fin:=(pre (exactL b) b.Af.length,pre (load0 b) b.Af.length,linksL b,(b.Af.length:Int))) (fun n=>by simp only[qdO,qq (je _),cond_false];rfl)
   (fun j a X m=>by
    have hw:=qbw h a;have W:=hw.lo;have T:=qlb h a;have O:=qmM h (j:=j);simp only[qdO,qn a,cond_true,wS j];refine Ev.bind (qmV h a) ?_;rw[show idx (loadsL b j) (0:Int)=V (load0 b j) from qw (j:=0) (by omega)];simp only[jd];rw[qqd (by omega)];simp only[jd];refine Ev.bind (qoJ h a) ?_;rw[qqd (by omega),qh5 (f:=fun i=>skL b i) a];simp only[jd];refine Ev.bind (C j _ a (by rw[jg];omega)) ?_;rw[jt,show wireLs b j++wlN b j (skL b j).length=wireLs b (j+1) from qjf.symm];exact m)
  simpa [wireLs,fm,pre] using this
 unfold qjm;refine Ev.bind (qmf z) (Ev.bind e1 ?_);rw[I,J];simp only[jd];exact Ev.bind P (Ev.bind Q .done)

structure LkOk (ls:List ql)(M:Nat):Prop where
 len:ls.length≤10000
 nodes:M≤156
 fr0:∀ x,x<ls.length→0≤(gt ls x).Bk
 fr1:∀ x,x<ls.length→(gt ls x).Bk<(M:Int)
 to0:∀ x,x<ls.length→0≤(gt ls x).To
 to1:∀ x,x<ls.length→(gt ls x).To<(M:Int)
def frL (ls:List ql)(x:Nat):Int:=(gt ls x).Bk
def toL (ls:List ql)(x:Nat):Int:=(gt ls x).To
def lvL (lv:List Bool)(x:Nat):Bool:=gt lv x
abbrev inL (ls:List ql)(lv:List Bool)(j:Nat)(R:List Nat)(k:Nat):Nat:=inN j (frL ls) (toL ls) (lvL lv) R k
abbrev nxtL (ls:List ql)(lv:List Bool)(M:Nat)(R:List Nat):Option Nat:=nxtN ls.length (frL ls) (toL ls) (lvL lv) M R
abbrev ordL (ls:List ql)(lv:List Bool)(M m:Nat)(R:List Nat):Option (List Nat):=ordN ls.length (frL ls) (toL ls) (lvL lv) M m R
def ordR (ls:List ql)(lv:List Bool)(M:Nat):List Int×Bool:=match ordL ls lv M M [] with|some R=>(ints R,true)|none=>([],false)
theorem qsK {ls:List ql}{lv:List Bool}{M m:Nat}{R:List Nat}(h:nxtL ls lv M R=U):ordL ls lv M (m+1) R=U:=by
 show(match nxtL ls lv M R with|none=>U|some k=>ordL ls lv M m (R++[k]))=U;rw[h]
theorem qtc {ls:List ql}{lv:List Bool}{M m k:Nat}{R:List Nat}(h:nxtL ls lv M R=V k):ordL ls lv M (m+1) R=ordL ls lv M m (R++[k]):=by
 show(match nxtL ls lv M R with|none=>U|some k=>ordL ls lv M m (R++[k]))=_;rw[h]
theorem qkP {M:Nat}{v:Bool}(h:M≤2147483648):mkS (M:Int) v=V (pre (fun _=>v) M):=by
 rw[qj1 h]
 congr 1
 refine Je (by simp[pre]) fun i a b=>?_;simp[pre]
theorem qvI {L:Nat}{fr to:Nat→Int}{lv:Nat→Bool}{R:List Nat}{k:Nat}:inN L fr to lv R k≤L:=qfY
theorem qrw {L:Nat}{fr to:Nat→Int}{lv:Nat→Bool}{R:List Nat}{k:Nat}:inN (L+1) fr to lv R k=inN L fr to lv R k+(bif lv L&&(to L==(k:Int)&&!decide (fr L ∈ ints R)) then 1 else 0):=rfl
def ledB (ls:List ql)(lv:List Bool)(j:Nat)(R:List Nat)(M:Nat):List Bool:=pre (fun k=>!decide (inL ls lv j R k=0)) M
def inB (R:List Nat)(M:Nat):List Bool:=pre (fun k=>decide (k ∈ R)) M
theorem quz {ls:List ql}{lv:List Bool}{M:Nat}(h:LkOk ls M)(A:lv.length=ls.length){R:List Nat} :
  Ev (fun n=>qcz ls lv (inB R M) n (pre (fun _=>false) M) 0) (ledB ls lv ls.length R M,(ls.length:Int)):=by
 have x:=h.len;refine loopF (Lf:=qcz ls lv (inB R M)) (S:=fun j=>ledB ls lv j R M) (len:=ls.length) (fun n=>?_) (fun j l X i=>?_)
 ·simp only[qcz,qq (je _),cond_false]
 ·obtain⟨a,u⟩:∃ a:Nat,(gt ls j).Bk=(a:Int):=⟨_,qeO (h.fr0 j l)⟩;obtain⟨c,v⟩:∃ c:Nat,(gt ls j).To=(c:Int):=⟨_,qeO (h.to0 j l)⟩;have p:a<M:=by have:=h.fr1 j l;omega
  have r:c<M:=by have:=h.to1 j l;omega
  have s:frL ls j=(a:Int):=u;have o:toL ls j=(c:Int):=v;have b:decide (frL ls j ∈ ints R)=decide (a ∈ R):=by rw[s];exact decide_eq_decide.2 qhu
  have y:idx (inB R M) (a:Int)=V (decide (a ∈ R)):=qh5 (f:=fun k=>decide (k ∈ R)) p;have z:idx (ledB ls lv j R M) (c:Int)=V (!decide (inL ls lv j R c=0)):=qh5 (f:=fun k=>!decide (inL ls lv j R k=0)) r;have t:(lvL lv j&&!decide (a ∈ R))=true→ledB ls lv (j+1) R M=setS (ledB ls lv j R M) (c:Int) true:=by
   intro g;unfold ledB;rw[qm7];refine qg1 fun k _=>?_;show(!decide (inN (j+1) _ _ _ R k=0))=_;rw[qrw,o,b];by_cases m:k=c
   ·subst m;rw[if_pos Z];simp only[jf] at g;simp[g.1,g.2]
   ·rw[if_neg m,show((c:Int)==(k:Int))=false by simp;omega];simp
  have d:(lvL lv j&&!decide (a ∈ R))=false→ledB ls lv (j+1) R M=ledB ls lv j R M:=by
   intro g;unfold ledB;refine qg1 fun k _=>?_;show(!decide (inN (j+1) _ _ _ R k=0))=_;rw[qrw,o,b,show(lvL lv j&&(((c:Int)==(k:Int))&&!decide (a ∈ R)))=false by
    cases h1:lvL lv j
    ·rfl
    ·rw[h1] at g;simp only[jz] at g;rw[g];simp]
   simp
  simp only[qcz,qn l,cond_true,qw (show j<lv.length by omega),qw l,jd,u,v,y,z,wS j];cases h1:gt lv j
  ·simp only[cond_false,jd];have:=d (by unfold lvL;rw[h1];rfl);rw[this] at i;exact i
  ·simp only[cond_true,jd];cases h2:decide (a ∈ R)
   ·simp only[Bool.not_false,cond_true];have:=t (by unfold lvL;rw[h1,h2];rfl);rw[this] at i;exact i
   ·simp only[Ji,cond_false];have:=d (by unfold lvL;rw[h1,h2];rfl);rw[this] at i;exact i
theorem qt2 {ls:List ql}{lv:List Bool}{M:Nat}(h:LkOk ls M){R:List Nat} :
  Ev (fun n=>qb2 (M:Int) (inB R M) (ledB ls lv ls.length R M) n 0) (match nxtL ls lv M R with|some k=>(k:Int)|none=>(M:Int)):=by
 have u:=h.nodes;have b:∀ d j,j+d=M→(∀ i,i<j→freeN ls.length (frL ls) (toL ls) (lvL lv) R i=false) →
   Ev (fun n=>qb2 (M:Int) (inB R M) (ledB ls lv ls.length R M) n (j:Int)) (match nxtL ls lv M R with|some k=>(k:Int)|none=>(M:Int)):=by
  intro d
  induction d with
  | zero=>
   intro j p c;have l:nxtL ls lv M R=U:=by
    show(List.range M).find? _=U;rw[List.find?_eq_none];intro x r;rw[List.mem_range] at r;rw[c x (by omega)];simp
   rw[l];refine Ev.succ ?_;simp only[qb2,qq (show M≤j by omega),cond_false];rw[show j=M by omega];exact .done
  | succ d ih=>
   intro j p c;have a:j<M:=by omega
   have s:idx (inB R M) (j:Int)=V (decide (j ∈ R)):=qh5 (f:=fun k=>decide (k ∈ R)) a;have t:idx (ledB ls lv ls.length R M) (j:Int)=V (!decide (inL ls lv ls.length R j=0)):=qh5 (f:=fun k=>!decide (inL ls lv ls.length R k=0)) a;refine Ev.succ ?_;simp only[qb2,qn a,cond_true,s,t,jd,wS j];have m:freeN ls.length (frL ls) (toL ls) (lvL lv) R j=false→Ev (fun n=>qb2 (M:Int) (inB R M) (ledB ls lv ls.length R M) n ((j+1:Nat):Int)) (match nxtL ls lv M R with|some k=>(k:Int)|none=>(M:Int)):=fun o=>
    ih (j+1) (by omega) fun i hi=>by
     by_cases g:i=j
     ·rw[g];exact o
     ·exact c i (by omega)
   cases h1:decide (j ∈ R)
   ·simp only[cond_false];cases h2:decide (inL ls lv ls.length R j=0)
    ·simp only[Bool.not_false,cond_true];exact m (by unfold freeN;rw[h1];show(!false&&decide (inL ls lv ls.length R j=0))=false;rw[h2];rfl)
    ·simp only[Ji,cond_false];have:nxtL ls lv M R=V j:=by
      show(List.range M).find? _=V j;rw[List.find?_range_eq_some];refine⟨?_,List.mem_range.2 a,fun i hi=>by rw[c i hi];rfl⟩;unfold freeN;rw[h1];show(!false&&decide (inL ls lv ls.length R j=0))=true;rw[h2];rfl
     rw[this];exact .done
   ·simp only[cond_true];exact m (by unfold freeN;rw[h1];rfl)
 exact b M 0 (by omega) (fun i hi=>absurd hi (by omega))
theorem qpE {ls:List ql}{lv:List Bool}{M:Nat}(h:LkOk ls M)(g:lv.length=ls.length):Ev (fun n=>qgh n (M:Int) ls lv) (ordR ls lv M):=by
 have o:=h.nodes;have b:∀ m R,R.length+m=M→Ev (fun n=>qen (M:Int) ls lv n (inB R M) (ints R))
   (match ordL ls lv M m R with|some R'=>.nxt (inB R' M,ints R')|none=>.ret ([],false)):=by
  intro m
  induction m with
  | zero=>
   intro R c;refine Ev.succ ?_;simp only[qen,qbt,qq (show M≤R.length by omega),cond_false];exact .done
  | succ m ih=>
   intro R c;refine Ev.succ ?_;simp only[qen,qbt,qn (show R.length<M by omega),cond_true,qkP (v:=false) (show M≤2147483648 by omega),jd];refine Ev.bind (quz h g) (Ev.bind (qt2 h) ?_);show Ev _ (match (match nxtL ls lv M R with|none=>U|some k=>ordL ls lv M m (R++[k])) with|some R'=>_|none=>_);cases hn:nxtL ls lv M R with
   | none=>
    simp only[beq_self_eq_true,cond_true];exact .done
   | some k=>
    obtain⟨d,_,_⟩:=qnY hn;have l:idx (inB R M) (k:Int)=V (decide (k ∈ R)):=qh5 (f:=fun k=>decide (k ∈ R)) d;have e1:setS (inB R M) (k:Int) true=inB (R++[k]) M:=by
     unfold inB;rw[qm7];refine qg1 fun i _=>?_;by_cases a:i=k
     ·subst a;simp
     ·simp[a]
    simp only[show((k:Int)==(M:Int))=false by simp;omega,cond_false,l,jd];rw[qcI (by rw[qbt,ji];omega),e1,←qjA];exact ih (R++[k]) (by rw[jg,ji];omega)
 have e0:pre (fun _=>false) M=inB [] M:=qg1 fun k _=>by simp
 unfold qgh;rw[qkP (v:=false) (show M≤2147483648 by omega)];simp only[jd];rw[e0];refine Ev.bind (b M [] (by simp)) ?_;unfold ordR;cases ordL ls lv M M []<;>exact .done
def grV (ls:List ql)(lv:List Bool)(ps:List Tplace)(b:qe)(lo:List Int)(de:List (List Int))(ex:List Int):Option Tgraph:=V ⟨V ⟨b,ps,ls,lo,de,ex⟩,lv⟩
theorem qqo {xs:List Int}(c:xs.length≤1000000):Ev (fun n=>qgT n xs 0) (ixL (fun y=>(0:Int)==y) xs):=
 qga (fin:=(xs.length:Int)) (Lf:=qc0 xs 0) (pf:=fun _ y=>V ((0:Int)==y)) (fun _ _=>.done)
  (fun n=>by simp only[qc0,qq (je _),cond_false])
  (fun n j x a=>by
   have b:=(List.getElem?_eq_some_iff.1 a).1;simp only[qc0,qn b,cond_true,qhd a,jd,wS j])
  (fun n=>by unfold qgT;congr 1;funext o;cases o<;>rfl)
theorem quU {f:Nat→Int}{M:Nat}{p:Int→Bool}:ixL p (vecI f M)=match (List.range M).find? (fun k=>p (f k)) with|some k=>(k:Int)|none=>-1:=by
 cases hf:(List.range M).find? (fun k=>p (f k)) with
 | none=>
  have a:(vecI f M).findIdx? p=U:=by
   rw[List.findIdx?_eq_none_iff];intro x g;obtain⟨k,d,rfl⟩:=List.mem_map.1 g;have:=List.find?_eq_none.1 hf k d;simpa using this
  unfold ixL;rw[a]
 | some k=>
  obtain⟨a,b,c⟩:=List.find?_range_eq_some.1 hf;rw[List.mem_range] at b;have:=qp0 (p:=p) (xs:=vecI f M) (j:=k) (by rw[qkI];exact b) (by simpa [vecI] using a) (fun i hi=>by
   have:=c i hi;simpa [vecI] using this)
  rw[this]
section
variable {ls:List ql}{lv:List Bool}{M:Nat}{ps:List Tplace}{b:qe}{lo:List Int}{de:List (List Int)}{ex:List Int}
theorem qql (h:LkOk ls M)(k:lv.length=ls.length):Ev (fun n=>qbh n (grV ls lv ps b lo de ex)) (ints (selN (lvL lv) ls.length)):=by
 have g:=h.len;have f:Ev (fun n=>qP ⟨V ⟨b,ps,ls,lo,de,ex⟩,lv⟩ ⟨b,ps,ls,lo,de,ex⟩ n ([]:List Int) 0) (ints (selN (lvL lv) ls.length),(ls.length:Int)):=by
  refine qmd (q:=lvL lv) (Lf:=qP ⟨V ⟨b,ps,ls,lo,de,ex⟩,lv⟩ ⟨b,ps,ls,lo,de,ex⟩) (len:=ls.length) (by omega) (Ev.succ ?_) (fun j a t i X c d=>?_)
  ·simp only[qP,qq (je _),cond_false];exact .done
  ·simp only[qP,qn a,cond_true,qw a,qw (show j<lv.length by omega),jd,qhG,i,wS j];cases hq:gt lv j
   ·simp only[cond_false];exact d hq
   ·simp only[cond_true];exact c hq
 unfold qbh grV;simp only[jd];exact Ev.bind f .done
theorem qut (h:LkOk ls M)(k:lv.length=ls.length){v:Int}:Ev (fun n=>qhy n (grV ls lv ps b lo de ex) v) (ints (selN (fun x=>lvL lv x&&(frL ls x==v)) ls.length)):=by
 have g:=h.len;have f:Ev (fun n=>qQ v ⟨V ⟨b,ps,ls,lo,de,ex⟩,lv⟩ ⟨b,ps,ls,lo,de,ex⟩ n ([]:List Int) 0) (ints (selN (fun x=>lvL lv x&&(frL ls x==v)) ls.length),(ls.length:Int)):=by
  refine qmd (q:=fun x=>lvL lv x&&(frL ls x==v)) (Lf:=qQ v ⟨V ⟨b,ps,ls,lo,de,ex⟩,lv⟩ ⟨b,ps,ls,lo,de,ex⟩) (len:=ls.length) (by omega) (Ev.succ ?_) (fun j d t i X c a=>?_)
  ·simp only[qQ,qq (je _),cond_false];exact .done
  ·simp only[qQ,qn d,cond_true,qw d,qw (show j<lv.length by omega),jd,qis,i,wS j];unfold lvL frL at c a;cases hq:gt lv j
   ·simp only[cond_false];exact a (by rw[hq];rfl)
   ·simp only[cond_true];cases hw:(gt ls j).Bk==v
    ·simp only[cond_false];exact a (by rw[hq,hw];rfl)
    ·simp only[cond_true];exact c (by rw[hq,hw];rfl)
 unfold qhy qcl grV;simp only[jd];exact Ev.bind (Ev.bind f .done) .done
theorem qtB {q:Nat→Bool}{m:Nat}{p:Nat→Bool}:(selN q m).countP p=cntP (fun x=>q x&&p x) m:=by
 induction m with
 | zero=>rfl
 | succ m ih=>
  rw[qjz,List.countP_append,ih];show _=cntP (fun x=>q x&&p x) m+(bif (q m&&p m) then 1 else 0);cases q m
  ·rfl
  ·cases hp:p m<;>simp[hp]
def cntT (ls:List ql)(S:List Nat)(k:Nat):Nat:=S.countP (fun x=>toL ls x==(k:Int))
theorem qsB {S:List Nat}{k:Nat}:cntT ls S k≤S.length:=List.countP_le_length
theorem qs8 {S:List Nat}{j k:Nat}(a:j<S.length):cntT ls (S.take (j+1)) k=cntT ls (S.take j) k+(if toL ls S[j]=(k:Int) then 1 else 0):=by
 unfold cntT;rw[jw a,List.countP_append];by_cases h:toL ls S[j]=(k:Int)<;>simp[h]
theorem bumpV {f:Nat→Int}{c:Nat}{S:List Nat}{j:Nat}{d v:Int}(g:j<S.length)(b:toL ls S[j]=(c:Int))(h:v=f c+d*(cntT ls (S.take j) c:Int)+d) :
  setS (vecI (fun k=>f k+d*(cntT ls (S.take j) k:Int)) M) (c:Int) v=vecI (fun k=>f k+d*(cntT ls (S.take (j+1)) k:Int)) M:=by
 rw[qoM];refine qfo fun k _=>?_;rw[qs8 g,b];by_cases a:k=c
 ·subst a;rw[if_pos Z,if_pos Z,h];rw[Int.natCast_add,Int.mul_add];omega
 ·rw[if_neg a,if_neg (by omega)];simp
theorem qvQ (h:LkOk ls M){S:List Nat}(p:∀ x,x ∈ S→x<ls.length)(s:S.length≤10000) :
  Ev (fun n=>qca ⟨V ⟨b,ps,ls,lo,de,ex⟩,lv⟩ (ints S) n (vecI (fun _=>0) M) 0) (vecI (fun k=>(cntT ls S k:Int)) M,(S.length:Int)):=by
 have:=loopF (Lf:=qca ⟨V ⟨b,ps,ls,lo,de,ex⟩,lv⟩ (ints S)) (S:=fun j=>vecI (fun k=>0+1*(cntT ls (S.take j) k:Int)) M) (len:=S.length) (fin:=(vecI (fun k=>(cntT ls S k:Int)) M,(S.length:Int))) (fun n=>by
   simp only[qca,qbt,qq (je _),cond_false,jC];rw[qfo (f:=fun k=>0+1*(cntT ls S k:Int)) (g:=fun k=>(cntT ls S k:Int)) (fun k _=>by omega)])
  (fun j a X r=>by
   have m:=p S[j] (jo a);obtain⟨c,o⟩:∃ c:Nat,(gt ls S[j]).To=(c:Int):=⟨_,qeO (h.to0 _ m)⟩;have i:c<M:=by have:=h.to1 _ m;omega
   have l:=qsB (ls:=ls) (S:=S.take j) (k:=c);rw[jB] at l;simp only[qca,qbt,qn a,cond_true,qkj a,jd,qw m,o,qlU i,wS j];rw[qU (by omega) (by omega),bumpV (d:=1) a o (by omega)];exact r)
 rw[qfo (f:=fun k=>0+1*(cntT ls (S.take 0) k:Int)) (g:=fun _=>0) (fun k _=>by unfold cntT;simp)] at this;exact this
theorem qtl (h:LkOk ls M){S:List Nat}{f:Nat→Int}(p:∀ x,x ∈ S→x<ls.length)(u:S.length≤10000)(s:∀ k,k<M→-1≤f k∧f k≤10000) :
  Ev (fun n=>qcb ⟨V ⟨b,ps,ls,lo,de,ex⟩,lv⟩ (ints S) n (vecI f M) 0) (vecI (fun k=>f k-(cntT ls S k:Int)) M,(S.length:Int)):=by
 have:=loopF (Lf:=qcb ⟨V ⟨b,ps,ls,lo,de,ex⟩,lv⟩ (ints S)) (S:=fun j=>vecI (fun k=>f k+(-1)*(cntT ls (S.take j) k:Int)) M) (len:=S.length) (fin:=(vecI (fun k=>f k-(cntT ls S k:Int)) M,(S.length:Int))) (fun n=>by
   simp only[qcb,qbt,qq (je _),cond_false,jC];rw[qfo (f:=fun k=>f k+(-1)*(cntT ls S k:Int)) (g:=fun k=>f k-(cntT ls S k:Int)) (fun k _=>by omega)])
  (fun j i X r=>by
   have m:=p S[j] (jo i);obtain⟨c,o⟩:∃ c:Nat,(gt ls S[j]).To=(c:Int):=⟨_,qeO (h.to0 _ m)⟩;have a:c<M:=by have:=h.to1 _ m;omega
   have l:=qsB (ls:=ls) (S:=S.take j) (k:=c);rw[jB] at l;have t:=s c a;simp only[qcb,qbt,qn i,cond_true,qkj i,jd,qw m,o,qlU a,wS j];rw[qU (by omega) (by omega),bumpV (d:=-1) i o (by omega)];exact r)
 rw[qfo (f:=fun k=>f k+(-1)*(cntT ls (S.take 0) k:Int)) (g:=f) (fun k _=>by unfold cntT;simp)] at this;exact this
def openV (ls:List ql)(lv:List Bool)(R:List Nat)(k:Nat):Int:=if k ∈ R then -1 else(inL ls lv ls.length R k:Int)
theorem qsG {R:List Nat}:ixL (fun y=>(0:Int)==y) (vecI (openV ls lv R) M)=match nxtL ls lv M R with|some k=>(k:Int)|none=>-1:=by
 rw[quU];have:(fun k=>((0:Int)==openV ls lv R k))=freeN ls.length (frL ls) (toL ls) (lvL lv) R:=by
  funext k
  unfold openV freeN;by_cases a:k ∈ R
  ·rw[if_pos a];simp[a]
  ·rw[if_neg a];simp only[a,decide_false,Bool.not_false,jz];by_cases b:inL ls lv ls.length R k=0
   ·simp[b]
   ·rw[show((0:Int)==((inL ls lv ls.length R k:Nat):Int))=false from beq_eq_false_iff_ne.2 (by omega)];simpa using b
 rw[this]
 rfl
theorem qsS (h:LkOk ls M)(t:lv.length=ls.length)(F:M=2*ps.length):Ev (fun n=>qg0 n (grV ls lv ps b lo de ex)) (ordR ls lv M):=by
 have H:=h.nodes;have C:=h.len;have g:∀ m R,R.length+m=M→Closed ls.length (frL ls) (toL ls) (lvL lv) R→∃ y:List Int×List Int×Int,Ev (fun n=>qb9 (grV ls lv ps b lo de ex) ⟨V ⟨b,ps,ls,lo,de,ex⟩,lv⟩ (vecI (fun _=>0) M) n (ints R) (vecI (openV ls lv R) M) (R.length:Int))
   (match ordL ls lv M m R with|some R'=>.nxt (ints R',y.2.1,y.2.2)|none=>.ret ([],false)):=by
  intro m
  induction m with
  | zero=>
   intro R A _;refine⟨(ints R,vecI (openV ls lv R) M,(R.length:Int)),Ev.succ ?_⟩;simp only[qb9,qkI,qq (show M≤R.length by omega),cond_false];exact .done
  | succ m ih=>
   intro R A s;have c:=qqo (xs:=vecI (openV ls lv R) M) (by rw[qkI];omega);rw[qsG] at c;cases hn:nxtL ls lv M R with
   | none=>
    rw[hn] at c;rw[qsK hn];refine⟨([],[],0),Ev.succ ?_⟩;simp only[qb9,qkI,qn (show R.length<M by omega),cond_true];exact Ev.bind c (Ev.tt (by decide) .done)
   | some k=>
    rw[hn] at c;rw[qtc hn];obtain⟨B,d,r⟩:=qnY hn;obtain⟨y,o⟩:=ih (R++[k]) (by rw[jg,ji];omega) (s.snoc r);refine⟨y,Ev.succ ?_⟩;simp only[qb9,qkI,qn (show R.length<M by omega),cond_true];refine Ev.bind c (Ev.ff (by simp) ?_);rw[qlU B,qcI (by rw[qbt,ji];omega),qoM,←qjA];simp only[jd];refine Ev.bind (qut h t) ?_;have D:=qiX (q:=fun x=>lvL lv x&&(frL ls x==(k:Int))) (j:=ls.length);refine Ev.bind (qtl h (fun x p=>(qhh.1 p).1) (by omega) (fun i hi=>?_)) ?_
    ·split
     ·omega
     ·unfold openV;have:inL ls lv ls.length R i≤ls.length:=qvI;split<;>omega
    ·have u:vecI (fun i=>(if i=k then -1 else openV ls lv R i)-(cntT ls (selN (fun x=>lvL lv x&&(frL ls x==(k:Int))) ls.length) i:Int)) M=vecI (openV ls lv (R++[k])) M:=by
      refine qfo fun i _=>?_;have v:cntT ls (selN (fun x=>lvL lv x&&(frL ls x==(k:Int))) ls.length) i=lkN ls.length (frL ls) (toL ls) (lvL lv) k i:=qtB;rw[v];unfold openV;by_cases a:i ∈ R++[k]
      ·rw[if_pos a,s.no_back d r a];rcases List.mem_append.1 a with l|l
       ·split
        ·rfl
        ·rfl
       ·rw[if_pos (List.mem_singleton.1 l)];rfl
      ·have l:i ∉ R:=fun e=>a (jI _ e);have z:i ≠ k:=fun e=>a (jR _ (List.mem_singleton.2 e));rw[if_neg a,if_neg z,if_neg l];have:=quc (L:=ls.length) (fr:=frL ls) (to:=toL ls) (lv:=lvL lv) (R:=R) (i:=k) (k:=i) d;show(inN _ _ _ _ R i:Int)-_=(inN _ _ _ _ (R++[k]) i:Int);omega
     rw[u,qgQ (show R.length<9223372036854775807 by omega)];rw[jg,ji] at o;exact o
 have f:=qvQ (b:=b) (ps:=ps) (lo:=lo) (de:=de) (ex:=ex) (lv:=lv) h (S:=selN (lvL lv) ls.length) (fun x p=>(qhh.1 p).1) (by have:=qiX (q:=lvL lv) (j:=ls.length);omega);have e0:vecI (fun k=>(cntT ls (selN (lvL lv) ls.length) k:Int)) M=vecI (openV ls lv []) M:=by
  refine qfo fun k _=>?_;unfold openV;rw[if_neg (by simp)]
  congr 1
  show List.countP _ _=inN _ _ _ _ [] k;rw[qtB];unfold inN;exact qoX fun x _=>by simp[ints]
 rw[e0] at f;obtain⟨y,o⟩:=g M [] (by simp) Closed.nil;unfold qg0;show Ev (fun n=>(V _).bind _) _;simp only[jd,qb1,qed];rw[qU (by omega) (by omega),show 2*(ps.length:Int)=(M:Int) by omega,qp5 (by omega)];simp only[jd];refine Ev.bind (qql h t) (Ev.bind f (Ev.bind o ?_));unfold ordR;cases ordL ls lv M M []<;>exact .done
end

theorem qqn {n m:Nat}{a b mode:Int}:qe7 n a b mode=qcA m a b mode:=by
 unfold qe7 qcA;cases quoS a b with
 | none=>rfl
 | some y1=>
  cases remS a b with
  | none=>rfl
  | some y2=>
   simp only[jd];generalize decide (y2<0)=p;generalize decide (y2 > 0)=q;generalize (mode==0)=m0;generalize (mode==1)=m1;cases p<;>cases q<;>cases m0<;>cases m1<;>rfl
theorem qtp {a b:Int}(f:0<b):-(if a<0 then -a else a)≤a.tdiv b∧a.tdiv b≤(if a<0 then -a else a):=by
 by_cases h:a<0
 ·rw[if_pos h];have e:a.tdiv b=-((-a).tdiv b):=by rw[Int.neg_tdiv,Int.neg_neg]
  rw[e,jE (show 0≤-a by omega)];have c:=Int.ediv_nonneg (show 0≤-a by omega) (show 0≤b by omega);have d:=Int.ediv_le_self (a:=-a) b (by omega);omega
 ·rw[if_neg h,jE (by omega)];have c:=Int.ediv_nonneg (show 0≤a by omega) (show 0≤b by omega);have d:=Int.ediv_le_self (a:=a) b (by omega);omega
theorem qjV {n:Nat}{a b mode:Int}(d:0<b)(g:-9000000000000000000≤a)(h:a≤9000000000000000000):qcA n a b mode=V (divI a b mode):=by
 have c:=qtp (a:=a) d;have i:-9000000000000000000≤a.tdiv b∧a.tdiv b≤9000000000000000000:=by
  revert c;split<;>intro c<;>omega
 unfold qcA quoS remS divI;rw[if_neg (by omega),if_neg (by omega)];have f:IntKind.i64.wrap (a.tdiv b)=a.tdiv b:=qU (by omega) (by omega);simp only[f,jd];rw[wO (a.tdiv b-1),wO (a.tdiv b+1)];generalize decide (a.tmod b<0)=p;generalize decide (a.tmod b > 0)=q;generalize (mode==0)=m0;generalize (mode==1)=m1;cases p<;>cases q<;>cases m0<;>cases m1<;>rfl
theorem qqI {a b mode M:Int}(d:0<b)(c:0≤a)(h:a≤b*M):0≤divI a b mode∧divI a b mode≤M:=by
 rw[qqf c d];have e:=Int.emod_add_mul_ediv a b;have k:=Int.emod_nonneg a (show b ≠ 0 by omega);have g:=Int.ediv_nonneg c (show 0≤b by omega);have i:a / b≤M:=Int.ediv_le_of_le_mul d (by rw[Int.mul_comm];exact h);split
 ·rename_i hc
  refine⟨by omega,?_⟩;have:a / b<M:=by
   refine Int.lt_of_not_ge fun l=>?_;have f:a / b=M:=by omega
   rw[f] at e;omega
  omega
 ·exact⟨g,i⟩
structure AxOk (ax:List Int):Prop where
 lo:1≤ax.length
 hi:ax.length≤4
 at_:∀ j,j<ax.length→0≤at0 ax j∧at0 ax j≤100000
 inc:∀ j i,i<j→j<ax.length→at0 ax i<at0 ax j
theorem qrl {b:List Int}(h:axisB b=true):AxOk b:=by
 unfold axisB lenB incB at h;simp only[jf,decide_eq_true_eq] at h;obtain⟨⟨m,n⟩,k,l⟩:=h;rw[qgE (d:=0),qaA] at k;rw[qaA] at l;refine⟨m,n,fun j f=>by have:=k j f;rw[qa5] at this;exact this,fun j=>?_⟩
 induction j with
 | zero=>intro i hi _;omega
 | succ j ih=>
  intro i hi f;have a:=l (j+1) f;unfold stepB at a;simp only[Bool.or_eq_true,decide_eq_true_eq,Nat.add_sub_cancel] at a;have g:at0 b j<at0 b (j+1):=by
   rcases a with a|a
   ·omega
   ·exact a
  by_cases c:i=j
  ·rw[c];exact g
  ·have:=ih i (by omega) (by omega);omega
theorem least {P:Nat→Prop}:∀ m,P m→∃ p,p≤m∧P p∧∀ k,k<p→¬ P k:=by
 intro m
 induction m using Nat.strongRecOn with
 | ind m ih=>
  intro f;by_cases h:∃ k,k<m∧P k
  ·obtain⟨k,a,b⟩:=h;obtain⟨p,g,c,d⟩:=ih k a b;exact⟨p,by omega,c,d⟩
  ·exact⟨m,je _,f,fun k a b=>h ⟨k,a,b⟩⟩
structure Wt (ax:List Int)(i:Nat)(a b:Int):Prop where
 il:i<ax.length
 a0:0<a
 a1:a≤100000
 b0:0≤b
 b1:b≤100000
 nx:0<b→i+1<ax.length
 one:b=0→a=1
def wtL (i:Nat)(a b:Int):List Tweight:=if b=0 then[⟨(i:Int),1⟩] else[⟨(i:Int),a⟩,⟨((i+1:Nat):Int),b⟩]
def clampV (a:List Int)(x:Int):Int:=if at0 a (a.length-1)<(if at0 a 0 > x then at0 a 0 else x) then at0 a (a.length-1) else(if at0 a 0 > x then at0 a 0 else x)
theorem quV {m:Nat}(h:m≤8):shrS .u64 (IntKind.wrap .u64 (W64 (m:Int))) 1=V ((m / 2:Nat):Int):=by
 rcases (by omega:m=0∨m=1∨m=2∨m=3∨m=4∨m=5∨m=6∨m=7∨m=8) with e|e|e|e|e|e|e|e|e<;>rw[e]<;>rfl
theorem qsD {a:List Int}(h:AxOk a){c:Int}{p:Nat}(s:p<a.length)(z:c≤at0 a p)(t:∀ k,k<p→at0 a k<c) :
  Ev (fun n=>qdc n a c) ((p:Int),(at0 a p==c)):=by
 have y:=h.hi;have b:∀ d i j,j-i≤d→i≤p→p≤j→j≤a.length→Ev (fun n=>qaB a c n (i:Int) (j:Int)) ((p:Int),(p:Int)):=by
  intro d
  induction d with
  | zero=>
   intro i j u hi m o;refine Ev.succ ?_;simp only[qaB,qq (show j≤i by omega),cond_false];rw[show i=p by omega,show j=p by omega];exact .done
  | succ d ih=>
   intro i j u hi m o;refine Ev.succ ?_;by_cases g:i<j
   ·have r:(i+j) / 2<a.length:=by omega
    simp only[qaB,qn g,cond_true,←Int.natCast_add,quV (show i+j≤8 by omega),jd,qU (x:=(((i+j) / 2:Nat):Int)) (by omega) (by omega),qas r,qjO,qhw,bne_self_eq_false,cond_false,qgQ (show(i+j) / 2<9223372036854775807 by omega)];by_cases f:at0 a ((i+j) / 2)<c
    ·refine Ev.tt (by simpa using f) (ih _ _ (by omega) ?_ m o);refine Nat.lt_of_not_le fun l=>?_;by_cases v:p=(i+j) / 2
     ·rw[←v] at f;omega
     ·have:=h.inc ((i+j) / 2) p (by omega) r;omega
    ·refine Ev.ff (by simpa using f) (ih _ _ (by omega) hi ?_ (by omega));refine Nat.le_of_not_lt fun l=>f (t _ l)
   ·simp only[qaB,qq (show j≤i by omega),cond_false];rw[show i=p by omega,show j=p by omega];exact .done
 unfold qdc;refine Ev.bind (b a.length 0 a.length (by omega) (by omega) (by omega) (je _)) ?_;simp only[qn s,cond_true,qas s,jd,qfZ,bne_self_eq_false,cond_false];cases at0 a p==c<;>exact .done
theorem qoH {f:List Int}(h:AxOk f)(x:Int):∃ i a b,Wt f i a b∧Ev (fun n=>qeS n f x) ((i:Int),a,b)∧Ev (fun n=>qgX n f x) (wtL i a b,a+b):=by
 have M:=h.lo;have I:=h.hi;have L:at0 f 0≤at0 f (f.length-1):=by
  by_cases D:f.length-1=0
  ·rw[D];exact jS _
  ·have:=h.inc (f.length-1) 0 (by omega) (by omega);omega
 obtain⟨c,A⟩:∃ c,c=clampV f x:=⟨_,rfl⟩;have v:at0 f 0≤c∧c≤at0 f (f.length-1):=by
  rw[A];unfold clampV;split<;>split at *<;>omega
 obtain⟨p,Q,r,y⟩:=least (P:=fun k=>c≤at0 f k) (f.length-1) v.2;have o:p<f.length:=by omega
 have s:∀ k,k<p→at0 f k<c:=fun k K=>by have:=y k K;omega
 have C:=qsD h o r s;have l:(if at0 f (f.length-1)<(if at0 f 0 > x then at0 f 0 else x) then at0 f (f.length-1) else(if at0 f 0 > x then at0 f 0 else x))=c:=A.symm;have g:W64 ((f.length:Int)-1)=((f.length-1:Nat):Int):=by rw[qfg (by omega)];omega
 have T:=h.at_ p o;have m:∀ (R:Int×Int×Int),Ev (fun n=>qbA f x (at0 f 0) (at0 f (f.length-1)) n (p:Int)) (.ret R)→Ev (fun n=>qeS n f x) R:=by
  intro R F;have t:∀ d j,j=p+d→j<f.length→Ev (fun n=>qbA f x (at0 f 0) (at0 f (f.length-1)) n (j:Int)) (.ret R):=by
   intro d
   induction d with
   | zero=>intro j J _;rw[show j=p by omega];exact F
   | succ d ih=>
    intro j J B;have H:=h.inc j p (by omega) B;refine Ev.succ ?_;simp only[qbA,show decide ((j:Int) ≥ 0)=true from decide_eq_true (by omega),cond_true,qas B,jd,l];refine Ev.ff (beq_eq_false_iff_ne.2 (by omega)) (Ev.ff (decide_eq_false (by omega)) ?_);rw[show(j:Int)-1=((j-1:Nat):Int) by omega,qU (by omega) (by omega)];exact ih (j-1) (by omega) (by omega)
  unfold qeS;rw[show(0:Int)=((0:Nat):Int) from rfl,qas (show 0<f.length by omega),g,qas (show f.length-1<f.length by omega)];simp only[jd];exact Ev.bind (t (f.length-1-p) (f.length-1) (by omega) (by omega)) .done
 by_cases u:at0 f p=c
 ·refine⟨p,1,0,⟨o,by omega,by omega,by omega,by omega,fun h=>absurd h (by omega),fun _=>rfl⟩,m _ (Ev.succ ?_),?_⟩
  ·simp only[qbA,show decide ((p:Int) ≥ 0)=true from decide_eq_true (by omega),cond_true,qas o,jd,l];exact Ev.tt (beq_iff_eq.2 u.symm) .done
  ·unfold qgX;rw[show(0:Int)=((0:Nat):Int) from rfl,qas (show 0<f.length by omega),g,qas (show f.length-1<f.length by omega)];simp only[jd,l];exact Ev.bind C (Ev.tt (beq_iff_eq.2 u) (Ev.now Z))
 ·have O:0<p:=by
   refine Nat.pos_of_ne_zero fun e=>u ?_;rw[e] at r ⊢;omega
  have N:=s (p-1) (by omega);have S:=h.at_ (p-1) (by omega);have z:((p:Int)-1)=((p-1:Nat):Int):=by omega
  refine⟨p-1,at0 f p-c,c-at0 f (p-1),⟨by omega,by omega,by omega,by omega,by omega,fun _=>by omega,fun h=>absurd h (by omega)⟩,m _ (Ev.succ ?_),?_⟩
  ·simp only[qbA,show decide ((p:Int) ≥ 0)=true from decide_eq_true (by omega),cond_true,qas o,jd,l];refine Ev.ff (beq_eq_false_iff_ne.2 (by omega)) (Ev.ff (decide_eq_false (by omega)) ?_);rw[z,qU (x:=((p-1:Nat):Int)) (by omega) (by omega)];refine Ev.succ ?_;simp only[qbA,show decide (((p-1:Nat):Int) ≥ 0)=true from decide_eq_true (by omega),cond_true,qas (show p-1<f.length by omega),jd,l];refine Ev.ff (beq_eq_false_iff_ne.2 (by omega)) (Ev.tt (decide_eq_true (by omega)) ?_);rw[qgQ (show p-1<9223372036854775807 by omega),show p-1+1=p by omega,qas o];simp only[jd];rw[wO (at0 f p-c),wO (c-at0 f (p-1))];exact .done
  ·unfold qgX;rw[show(0:Int)=((0:Nat):Int) from rfl,qas (show 0<f.length by omega),g,qas (show f.length-1<f.length by omega)];simp only[jd,l];refine Ev.bind C (Ev.ff (beq_eq_false_iff_ne.2 u) ?_);rw[qas o,z,qU (x:=((p-1:Nat):Int)) (by omega) (by omega),qas (show p-1<f.length by omega)];simp only[jd];rw[wO (at0 f p-c),wO (c-at0 f (p-1)),wO (at0 f p-at0 f (p-1))];refine Ev.now ?_;unfold wtL;rw[if_neg (by omega),show p-1+1=p by omega]
   congr 2
   omega

structure TbOk (t:qO):Prop where
 s:AxOk t.Bo
 l:AxOk t.Bl
 n:t.Bi.length=t.Bo.length*t.Bl.length
 v:∀ k,-1000000≤at0 t.Bi k∧at0 t.Bi k≤1000000
theorem qsA {xs:List Int}{k:Nat}(h:¬ k<xs.length):at0 xs k=0:=by simp[at0,jD,List.getElem?_eq_none (show xs.length≤k by omega)]
theorem qsF {t:qO}(h:tableB t=true):TbOk t:=by
 unfold tableB at h;simp only[jf,decide_eq_true_eq] at h;obtain⟨c,f,g,a⟩:=h;rw[qgE (d:=0),qaA] at a;refine⟨qrl c,qrl f,g,fun k=>?_⟩;by_cases b:k<t.Bi.length
 ·have:=a k b;rw[qa5] at this;exact this
 ·rw[qsA b];omega
def tv (t:qO)(i j:Nat):Int:=at0 t.Bi (i*t.Bl.length+j)
theorem mulA {x y Y:Int}(a:0≤x)(c:-Y≤y)(d:y≤Y):-(x*Y)≤x*y∧x*y≤x*Y:=by
 have f:=Int.mul_le_mul_of_nonneg_left d a;have b:=Int.mul_le_mul_of_nonneg_left c a;rw[Int.mul_neg] at b;exact⟨b,f⟩
theorem mulT {w q v:Int}(d:0≤w)(w1:w≤100000)(b:0≤q)(c:q≤100000)(h:-1000000≤v)(i:v≤1000000):(0≤w*q∧w*q≤10000000000)∧(-10000000000000000≤w*q*v∧w*q*v≤10000000000000000):=by
 have a:=jT d b;have f:w*q≤100000*100000:=Ja w1 c b (by omega);have g:=mulA (x:=w*q) (y:=v) (Y:=1000000) a (by omega) (by omega);refine⟨⟨a,by omega⟩,?_,?_⟩<;>omega
theorem qve {t:qO}{i j:Nat}(h:TbOk t)(hi:i<t.Bo.length)(f:j<t.Bl.length):i*t.Bl.length+j<t.Bi.length∧t.Bi.length≤16:=by
 have a:=h.s.hi;have b:=h.l.hi;have c:(i+1)*t.Bl.length≤t.Bo.length*t.Bl.length:=js _ hi;have d:t.Bo.length*t.Bl.length≤4*4:=Nat.mul_le_mul a b;rw[h.n];rw[Nat.add_mul] at c;omega
theorem sTerm {t:qO}(h:TbOk t){i j c k:Nat}{a1 b1 a2 b2 w q s:Int}(I:c<2)(J:k<2)(B:w=if c=1 then b1 else a1)(f:q=if k=0 then a2 else b2)
  (F:0≤w) (w1:w≤100000) (C:0≤q) (D:q≤100000) (hi:0<w→i+c<t.Bo.length) (z:0<q→j+k<t.Bl.length) (s0:-1000000000000000000≤s) (s1:s≤1000000000000000000) (n:Nat) :
  qcp t (i:Int) a1 b1 (j:Int) a2 b2 (c:Int) (n+1) s (k:Int)=qcp t (i:Int) a1 b1 (j:Int) a2 b2 (c:Int) n (s+w*q*tv t (i+c) (j+k)) ((k+1:Nat):Int):=by
 have l:=h.v ((i+c)*t.Bl.length+(j+k));obtain⟨⟨M,N⟩,O,P⟩:=mulT F w1 C D l.1 l.2;have o:(bif ((c:Int)==1) then V b1 else V a1)=V w:=by
  rw[B];by_cases a:c=1
  ·rw[if_pos a,a];rfl
  ·rw[if_neg a,show((c:Int)==1)=false from beq_eq_false_iff_ne.2 (by omega)];rfl
 have p:(bif ((k:Int)==0) then V (W64 (w*a2)) else V (W64 (w*b2)))=V (w*q):=by
  have m:W64 (w*q)=w*q:=qU (by omega) (by omega);by_cases a:k=0
  ·rw[if_pos a] at f;rw[a,←f,m];rfl
  ·rw[if_neg a] at f;rw[show((k:Int)==0)=false from beq_eq_false_iff_ne.2 (by omega),←f,m];rfl
 rw[qcp];simp only[show decide ((k:Int)<2)=true from decide_eq_true (by omega),cond_true,o,p,jd,wS k];by_cases d:w*q > 0
 ·have b:0<w:=by
   by_cases e:w=0
   ·rw[e,Int.zero_mul] at d;omega
   ·omega
  have g:0<q:=by
   by_cases e:q=0
   ·rw[e,Int.mul_zero] at d;omega
   ·omega
  obtain⟨H,Q⟩:=qve h (hi b) (z g);have K:=h.l.hi;have L:=h.s.hi;have y:=hi b;have A:((i+c:Nat):Int)*(t.Bl.length:Int)=(((i+c)*t.Bl.length:Nat):Int):=(Int.natCast_mul _ _).symm;have u:W64 (W64 (W64 (W64 ((i:Int)+(c:Int))*(t.Bl.length:Int))+(j:Int))+(k:Int))=(((i+c)*t.Bl.length+(j+k):Nat):Int):=by
   rw[wO ((i:Int)+(c:Int)),←Int.natCast_add,A,qU (x:=(((i+c)*t.Bl.length:Nat):Int)) (by omega) (by omega),←Int.natCast_add,qU (x:=(((i+c)*t.Bl.length+j:Nat):Int)) (by omega) (by omega),←Int.natCast_add,qU (by omega) (by omega),Nat.add_assoc]
  rw[show decide (w*q > 0)=true from decide_eq_true d,u,qas H];simp only[cond_true,jd];have r:W64 (s+W64 (w*q*at0 t.Bi ((i+c)*t.Bl.length+(j+k))))=s+w*q*tv t (i+c) (j+k):=by
   unfold tv;rw[qU (x:=w*q*at0 t.Bi ((i+c)*t.Bl.length+(j+k))) (by omega) (by omega),qU (by omega) (by omega)]
  rw[r]
 ·have v:w*q=0:=by omega
  rw[show decide (w*q > 0)=false from decide_eq_false d,v,Int.zero_mul,Jf]
  rfl
def rowS (t:qO)(j:Nat)(a2 b2:Int)(i:Nat):Int:=a2*tv t i j+b2*tv t i (j+1)
theorem qk4 {t:qO}(h:TbOk t){i j:Nat}:-1000000≤tv t i j∧tv t i j≤1000000:=h.v _
theorem qqr {t:qO}(h:TbOk t){i j:Nat}{a2 b2:Int}(a0:0≤a2)(b0:0≤b2):-((a2+b2)*1000000)≤rowS t j a2 b2 i∧rowS t j a2 b2 i≤(a2+b2)*1000000:=by
 have a:=mulA (x:=a2) (y:=tv t i j) (Y:=1000000) a0 (qk4 h).1 (qk4 h).2;have b:=mulA (x:=b2) (y:=tv t i (j+1)) (Y:=1000000) b0 (qk4 h).1 (qk4 h).2;unfold rowS;omega
theorem sRow {t:qO}(h:TbOk t){i j c:Nat}{a1 b1 a2 b2 w s:Int}(d:c<2)(f:w=if c=1 then b1 else a1)(b:0≤w)(w1:w≤100000)(hi:0<w→i+c<t.Bo.length)(a:Wt t.Bl j a2 b2)
  (s0:-100000000000000000≤s) (s1:s≤100000000000000000):Ev (fun n=>qcp t (i:Int) a1 b1 (j:Int) a2 b2 (c:Int) n s 0) (s+w*rowS t j a2 b2 (i+c),2):=by
 have l:=a.a0;have g:=a.b0;have m:=(mulT b w1 (show 0≤a2 by omega) a.a1 (qk4 h (i:=i+c) (j:=j)).1 (qk4 h).2).2;refine Ev.step (fun n=>sTerm h d (k:=0) (w:=w) (q:=a2) (by omega) f Z b w1 (by omega) a.a1 hi (fun _=>a.il) (by omega) (by omega) n) ?_;refine Ev.step (fun n=>sTerm h d (k:=1) (w:=w) (q:=b2) (by omega) f Z b w1 g a.b1 hi a.nx (by show _≤s+w*a2*tv t (i+c) (j+0);rw[Nat.add_zero];omega) (by show s+w*a2*tv t (i+c) (j+0)≤_;rw[Nat.add_zero];omega) n) ?_;refine Ev.succ ?_;simp only[qcp,show decide (((1+1:Nat):Int)<2)=false from rfl,cond_false];refine Ev.now ?_;unfold rowS;rw[Int.mul_add,←jZ,←jZ,Int.add_assoc,Nat.add_zero]
 rfl
theorem iTerm {t:qO}(h:TbOk t){a:List Tweight}{i j k:Nat}{w q s:Int}(m:k<a.length)(A:a.length≤2)(p:idx a (k:Int)=V ⟨(j:Int),q⟩)(c:0≤w)(w1:w≤100000)(r:0≤q)(u:q≤100000)
  (hi:i<t.Bo.length) (l:j<t.Bl.length) (s0:-1000000000000000000≤s) (s1:s≤1000000000000000000) (n:Nat) :
  qa3 t a ⟨(i:Int),w⟩ (n+1) s (k:Int)=qa3 t a ⟨(i:Int),w⟩ n (s+w*q*tv t i j) ((k+1:Nat):Int):=by
 have b:=qk4 h (i:=i) (j:=j);obtain⟨_,C,D⟩:=mulT c w1 r u b.1 b.2;have F:=mulA (x:=w) (y:=tv t i j) (Y:=1000000) c b.1 b.2;obtain⟨v,H⟩:=qve h hi l;have z:=h.l.hi;have B:=h.s.hi;have o:(i:Int)*(t.Bl.length:Int)=((i*t.Bl.length:Nat):Int):=(Int.natCast_mul _ _).symm;rw[qa3];simp only[qn m,cond_true,p,jd,wS k,o];rw[qU (x:=((i*t.Bl.length:Nat):Int)) (by omega) (by omega),←Int.natCast_add,qU (x:=((i*t.Bl.length+j:Nat):Int)) (by omega) (by omega),qas v];simp only[jd];have d:W64 (s+W64 (W64 (at0 t.Bi (i*t.Bl.length+j)*w)*q))=s+w*q*tv t i j:=by
  have f:at0 t.Bi (i*t.Bl.length+j)*w=w*tv t i j:=Int.mul_comm _ _;have g:w*tv t i j*q=w*q*tv t i j:=by rw[jZ,Int.mul_comm (tv t i j) q,←jZ]
  rw[f,wO (w*tv t i j),g,wO (w*q*tv t i j),qU (by omega) (by omega)]
 rw[d]
theorem iRow {t:qO}(h:TbOk t){i j:Nat}{a2 b2 w s:Int}(b:0≤w)(w1:w≤100000)(hi:i<t.Bo.length)(a:Wt t.Bl j a2 b2)
  (s0:-100000000000000000≤s) (s1:s≤100000000000000000):Ev (fun n=>qa3 t (wtL j a2 b2) ⟨(i:Int),w⟩ n s 0) (s+w*rowS t j a2 b2 i,((wtL j a2 b2).length:Int)):=by
 have l:=a.a0;have g:=a.b0;have m:=(mulT b w1 (show 0≤a2 by omega) a.a1 (qk4 h (i:=i) (j:=j)).1 (qk4 h).2).2;by_cases c:b2=0
 ·have f:=a.one c;subst c f;have d:wtL j 1 0=[⟨(j:Int),1⟩]:=if_pos Z;rw[d];refine Ev.step (fun n=>iTerm h (k:=0) (q:=1) (by simp) (by simp) Z b w1 (by omega) (by omega) hi a.il (by omega) (by omega) n) (Ev.succ ?_);simp only[qa3];refine Ev.ff Z (Ev.now ?_);unfold rowS;rw[Int.mul_one,Int.one_mul,Int.zero_mul,Jf]
  rfl
 ·have d:wtL j a2 b2=[⟨(j:Int),a2⟩,⟨((j+1:Nat):Int),b2⟩]:=if_neg c;rw[d];refine Ev.step (fun n=>iTerm h (k:=0) (q:=a2) (by simp) (by simp) Z b w1 (by omega) a.a1 hi a.il (by omega) (by omega) n) ?_;refine Ev.step (fun n=>iTerm h (k:=1) (j:=j+1) (q:=b2) (by simp) (by simp) Z b w1 g a.b1 hi (a.nx (by omega)) (by omega) (by omega) n) (Ev.succ ?_);simp only[qa3];refine Ev.ff Z (Ev.now ?_);unfold rowS;rw[Int.mul_add,←jZ,←jZ,Int.add_assoc]
  rfl
def sumS (t:qO)(i j:Nat)(a1 b1 a2 b2:Int):Int:=a1*rowS t j a2 b2 i+b1*rowS t j a2 b2 (i+1)
theorem rowT {t:qO}(h:TbOk t){i j:Nat}{w a2 b2:Int}(f:0≤w)(w1:w≤100000)(a:Wt t.Bl j a2 b2):-20000000000000000≤w*rowS t j a2 b2 i∧w*rowS t j a2 b2 i≤20000000000000000:=by
 have l:=a.a0;have c:=a.b0;have b:=a.a1;have d:=a.b1;have g:=qqr h (i:=i) (j:=j) (a2:=a2) (b2:=b2) (by omega) c;have k:=mulA (x:=w) (y:=rowS t j a2 b2 i) (Y:=200000000000) f (by omega) (by omega);omega
theorem quM {t:qO}(h:TbOk t)(sl ld:Int):∃ S D:Int,0<D∧S≤D*1000000∧-(D*1000000)≤S∧-9000000000000000000≤S∧S≤9000000000000000000∧((∀ k,0≤at0 t.Bi k)→0≤S) ∧
  ∀ mode,Ev (fun n=>qgS n t sl ld mode) (divI S D mode)∧Ev (fun n=>qdM n t sl ld mode) (divI S D mode):=by
 obtain⟨i,a1,b1,W1,p1,F⟩:=qoH h.s sl;obtain⟨j,a2,b2,W2,C,H⟩:=qoH h.l ld;have A:=W1.a0;have a:=W1.b0;have B:=W2.a0;have b:=W2.b0;have d:=W1.a1;have f:=W1.b1;have I:=W2.a1;have J:=W2.b1;have r1:=rowT h (i:=i) (w:=a1) (by omega) d W2;have L:=rowT h (i:=i+1) (w:=b1) a f W2;have u:=qqr h (i:=i) (j:=j) (a2:=a2) (b2:=b2) (by omega) b;have v:=qqr h (i:=i+1) (j:=j) (a2:=a2) (b2:=b2) (by omega) b;have M:=mulA (x:=a1) (y:=rowS t j a2 b2 i) (Y:=(a2+b2)*1000000) (by omega) u.1 u.2;have N:=mulA (x:=b1) (y:=rowS t j a2 b2 (i+1)) (Y:=(a2+b2)*1000000) a v.1 v.2;have K:a1*((a2+b2)*1000000)+b1*((a2+b2)*1000000)=(a1+b1)*(a2+b2)*1000000:=by rw[←Int.add_mul,jZ]
 have D0:0<(a1+b1)*(a2+b2):=Int.mul_pos (by omega) (by omega);have D1:(a1+b1)*(a2+b2)≤200000*200000:=Ja (by omega) (by omega) (by omega) (by omega);refine⟨sumS t i j a1 b1 a2 b2,(a1+b1)*(a2+b2),D0,by unfold sumS;omega,by unfold sumS;omega,by unfold sumS;omega,by unfold sumS;omega,fun s=>?_,fun mode=>⟨?_,?_⟩⟩
 ·have r:∀ i,0≤rowS t j a2 b2 i:=fun i=>Int.add_nonneg (jT (by omega) (s _)) (jT b (s _));exact Int.add_nonneg (jT (by omega) (r _)) (jT a (r _))
 ·have l:Ev (fun n=>qd2 t (i:Int) a1 b1 (j:Int) a2 b2 n 0 0) (sumS t i j a1 b1 a2 b2,2):=by
   refine Ev.succ ?_;simp only[qd2];refine Ev.tt Z (Ev.bind (sRow h (c:=0) (w:=a1) (by omega) Z (by omega) d (fun _=>W1.il) W2 (by omega) (by omega)) ?_);refine Ev.succ ?_;simp only[qd2];refine Ev.tt Z (Ev.bind (sRow h (c:=1) (w:=b1) (by omega) Z a f W1.nx W2 (by rw[Nat.add_zero];omega) (by rw[Nat.add_zero];omega)) ?_);refine Ev.succ ?_;simp only[qd2];refine Ev.ff Z (Ev.now ?_);unfold sumS;rw[Int.zero_add,Nat.add_zero]
   rfl
  unfold qgS;refine Ev.bind p1 (Ev.bind C (Ev.bind l ?_));show Ev (fun n=>(qcA n (sumS t i j a1 b1 a2 b2) (W64 (W64 (a1+b1)*W64 (a2+b2))) mode).bind fun p=>V p) _;rw[wO (a1+b1),wO (a2+b2),wO ((a1+b1)*(a2+b2))];exact Ev.bind ⟨0,fun n _=>qjV D0 (by unfold sumS;omega) (by unfold sumS;omega)⟩ .done
 ·have l:Ev (fun n=>qa9 t (wtL i a1 b1) (wtL j a2 b2) n 0 0) (sumS t i j a1 b1 a2 b2,((wtL i a1 b1).length:Int)):=by
   by_cases g:b1=0
   ·have z:=W1.one g;subst g z;have o:wtL i 1 0=[⟨(i:Int),1⟩]:=if_pos Z;rw[o];refine Ev.succ ?_;simp only[qa9];refine Ev.tt Z (Ev.bind (Ev.now Z) (Ev.bind (iRow h (i:=i) (w:=1) (by omega) (by omega) W1.il W2 (by omega) (by omega)) (Ev.succ ?_)));simp only[qa9];refine Ev.ff Z (Ev.now ?_);unfold sumS;rw[Int.zero_add,Int.zero_mul,Jf]
    rfl
   ·have o:wtL i a1 b1=[⟨(i:Int),a1⟩,⟨((i+1:Nat):Int),b1⟩]:=if_neg g;rw[o];refine Ev.succ ?_;simp only[qa9];refine Ev.tt Z (Ev.bind (Ev.now Z) (Ev.bind (iRow h (i:=i) (w:=a1) (by omega) d W1.il W2 (by omega) (by omega)) (Ev.succ ?_)));simp only[qa9];refine Ev.tt Z (Ev.bind (Ev.now Z) (Ev.bind (iRow h (i:=i+1) (w:=b1) a f (W1.nx (by omega)) W2 (by omega) (by omega)) (Ev.succ ?_)));simp only[qa9];refine Ev.ff Z (Ev.now ?_);unfold sumS;rw[Int.zero_add]
    rfl
  unfold qdM;refine Ev.bind F (Ev.bind H (Ev.bind l ?_));show Ev (fun n=>(qe7 n (sumS t i j a1 b1 a2 b2) (W64 ((a1+b1)*(a2+b2))) mode).bind fun p=>V p) _;rw[wO ((a1+b1)*(a2+b2))];exact Ev.bind ⟨0,fun n _=>(qqn (m:=0)).trans (qjV D0 (by unfold sumS;omega) (by unfold sumS;omega))⟩ .done

theorem qs2 {b:qe}(h:blockB b=true){j:Nat}(d:j<(places b.Aa).length){n:Nat}:qkh n b.Ap b.Aa (toSp (gt (places b.Aa) j))=V (capJ b j):=by
 have c:=qao h;unfold capJ pinCap;rcases qkn d with⟨i,k,hi,hk,_,e⟩|⟨i,hi,_,e⟩
 ·rw[e];obtain⟨⟨a,c1⟩,f,_⟩:=qha c hi;unfold place1 cellAt toSp;simp only[qkh,show decide ((i:Int)<0)=false by simp,cond_false,qw hi,jd,qfM a c1,jr,qw (show k<(gt b.Ap.Aq (gt b.Aa.Ab i).Bt.toNat).Be.length by omega)]
 ·rw[e];rfl
theorem qnZ {b:qe}(h:blockB b=true){i:Nat}(hi:i<b.Af.length):Ev (fun n=>qhr n b (i:Int)) (loadsL b i):=by
 have c:=qbw h hi;have p:=qW (qao h);have x:=c.lo;have u:=c.hi;have d:=c.cap;have z:=qgV h (i:=i);have e1:Ev (fun n=>qdl b (gt b.Af i) ((places b.Aa).map toSp) (skL b i) n (gt b.Af i).Bp 0) (ldA b (gt b.Af i) (skL b i) (skL b i).length,((skL b i).length:Int)):=by
  refine loopF (Lf:=qdl b (gt b.Af i) ((places b.Aa).map toSp) (skL b i)) (S:=ldA b (gt b.Af i) (skL b i)) (len:=(skL b i).length) (fun n=>?_) (fun j a X o=>?_)
  ·simp only[qdl,qq (je _),cond_false]
  ·obtain⟨y,l,m,_⟩:=qmR a;have f:j<(gt b.Af i).Bj.length:=by rw[c.snk];exact a
   have k:=c.sin j f;have v:=qnh (b:=b) (w:=gt b.Af i) (sk:=skL b i) (j:=j);have g:idx ((places b.Aa).map toSp) (y:Int)=V (toSp (gt (places b.Aa) y)):=by
    refine qhd ?_;rw[List.getElem?_map,jn l,qef l];rfl
   have s:=fun n=>qs2 h l (n:=n);simp only[qdl,qn a,cond_true,qas a,m,jd,qas f,qfM k.1 (show at0 (gt b.Af i).Bj j<((ldA b (gt b.Af i) (skL b i) j).length:Int) by omega),g,s,wS j];have:ldA b (gt b.Af i) (skL b i) (j+1)=setS (ldA b (gt b.Af i) (skL b i) j) (at0 (gt b.Af i).Bj j) (W64 (gt (ldA b (gt b.Af i) (skL b i) j) (at0 (gt b.Af i).Bj j).toNat+capJ b y)):=by
    show addSink _ _ _ _ _=_;unfold addSink;rw[m,jr]
   rw[this] at o;exact o
 have r:∀ j t,t.length=(gt b.Af i).Ak.length→j<(gt b.Af i).Ak.length→Ev (fun n=>qde (gt b.Af i) n t (j:Int)) (ldB (gt b.Af i) j t,0):=by
  intro j
  induction j with
  | zero=>
   intro t _ _;refine Ev.succ ?_;show Ev (fun n=>qde (gt b.Af i) (n+1) t 0) _;unfold qde;exact Ev.ff Z .done
  | succ j ih=>
   intro t A a;have g:=c.par (j+1) (by omega) a;refine Ev.succ ?_;simp only[qde,show decide (((j+1:Nat):Int) > 0)=true from decide_eq_true (by omega),cond_true,qas a,jd,qfM g.1 (show at0 (gt b.Af i).Ak (j+1)<(t.length:Int) by omega),qw (show j+1<t.length by omega),show((j+1:Nat):Int)-1=(j:Int) by omega,qU (show -9223372036854775808≤(j:Int) by omega) (by omega)];exact ih _ (by rw[qaZ];exact A) (by omega)
 unfold qhr qd9;rw[qw hi];simp only[jd,qcI (show([]:List Int).length+(gt b.Af i).Bp.length≤2147483648 by simp;omega),List.nil_append];refine Ev.bind (qf3 p) (Ev.bind (qkl p) (Ev.bind e1 ?_));rw[qfg (show(gt b.Af i).Bp.length≤9223372036854775807 by omega),show((gt b.Af i).Bp.length:Int)-1=(((gt b.Af i).Ak.length-1:Nat):Int) by omega];exact Ev.bind (r _ _ (by rw[qnh];exact d) (by omega)) .done
theorem qm0 {b:qe}(h:blockB b=true){i:Nat}(hi:i<b.Af.length):Ev (fun n=>qgA n b (i:Int)) (delaysL b i):=by
 have f:=qbw h hi;have o:=f.lo;have m:=f.hi;have l:=f.res;have r:=qlb h hi;have c:∀ d k,k+1+d=(gt b.Af i).Ak.length→Ev (fun n=>qdK (gt b.Af i) (loadsL b i) n (dlL (gt b.Af i) (loadsL b i) k) ((k+1:Nat):Int)) (delaysL b i,((loadsL b i).length:Int)):=by
  intro d
  induction d with
  | zero=>
   intro k g;refine Ev.succ ?_;simp only[qdK,qq (show(loadsL b i).length≤k+1 by omega),cond_false];refine Ev.now ?_;rw[r,←g];unfold delaysL;rw[←g]
   rfl
  | succ d ih=>
   intro k g;have p:=f.par (k+1) (by omega) (by omega);have a:=qne (w:=gt b.Af i) (ld:=loadsL b i) (k:=k);refine Ev.succ ?_;simp only[qdK,qn (show k+1<(loadsL b i).length by omega),cond_true,qas (show k+1<(gt b.Af i).Ak.length by omega),jd,qfM p.1 (show at0 (gt b.Af i).Ak (k+1)<((dlL (gt b.Af i) (loadsL b i) k).length:Int) by omega),
    qas (show k+1<(gt b.Af i).Bu.length by omega),qw (show k+1<(loadsL b i).length by omega),qgQ (show k+1<9223372036854775807 by omega)]
   rw[qcI (by rw[a,ji];omega)];exact ih (k+1) (by omega)
 unfold qgA;rw[qw hi];simp only[jd];refine Ev.bind (qnZ h hi) ?_;exact Ev.bind (c ((gt b.Af i).Ak.length-1) 0 (by omega)) .done
theorem qnz {b:qe}(h:blockB b=true){i:Nat}(hi:i<b.Af.length){mode:Int}:Ev (fun n=>qf2 n b (i:Int) mode) ((exactL b i).map fun x=>divI x 1000 mode):=by
 have k:=qbw h hi;have r:(gt b.Af i).Bj.length≤78:=by rw[k.snk];exact qgV h
 have p:=qlZ h hi;have l:Ev (fun n=>qbM b (i:Int) mode (delaysL b i) n ([]:List Int) 0) ((exactL b i).map (fun x=>divI x 1000 mode),((gt b.Af i).Bj.length:Int)):=by
  refine loopF (Lf:=qbM b (i:Int) mode (delaysL b i)) (S:=fun j=>(((gt b.Af i).Bj.take j).map fun s=>gt (delaysL b i) s.toNat).map fun x=>divI x 1000 mode) (len:=(gt b.Af i).Bj.length) (fun n=>?_) (fun j c X o=>?_)
  ·simp only[qbM,qw hi,jd,qq (je _),cond_false,jC];rfl
  ·have g:=k.sin j c;have f:=qoV h hi c;have m:gt (exactL b i) j=gt (delaysL b i) (at0 (gt b.Af i).Bj j).toNat:=by
    unfold exactL;rw[qef (by rw[jx];exact c),List.getElem_map,qlL c]
   rw[m] at f;have d:=fun n=>qjV (n:=n) (a:=gt (delaysL b i) (at0 (gt b.Af i).Bj j).toNat) (b:=1000) (mode:=mode) (by omega) (by omega) (by omega);simp only[qbM,qw hi,jd,qn c,cond_true,qas c,qfM g.1 (show at0 (gt b.Af i).Bj j<((delaysL b i).length:Int) by omega),d,wS j];rw[qcI (by rw[jx,jx,jB,ji];omega)];have:(((gt b.Af i).Bj.take j).map (fun s=>gt (delaysL b i) s.toNat)).map (fun x=>divI x 1000 mode)++[divI (gt (delaysL b i) (at0 (gt b.Af i).Bj j).toNat) 1000 mode]=(((gt b.Af i).Bj.take (j+1)).map fun s=>gt (delaysL b i) s.toNat).map fun x=>divI x 1000 mode:=by
    rw[jw c,jU,jU,qlL c];rfl
   rw[this];exact o
 unfold qf2;exact Ev.bind (qm0 h hi) (Ev.bind l .done)

instance:Inhabited qi:=⟨⟨0,⟨0,0⟩,⟨0,0⟩⟩⟩
instance:Inhabited qj:=⟨⟨0,0⟩⟩
def cornerB (c:qx):Bool:=(inI c.Av 100 5000&&(inI c.Az 100 5000&&(inI c.As 100 5000&&inI c.Ba 100 5000)))&&(nameB c.Bh&&(decide (c.Av≤c.Az)&&decide (c.As≤c.Ba)))
theorem qqC {c:qx}(h:okS c.Bh):Ev (fun n=>qhq n c) (cornerB c):=by
 have a:Ev (fun n=>qb7 c n 0) (bif inI c.Av 100 5000&&(inI c.Az 100 5000&&(inI c.As 100 5000&&inI c.Ba 100 5000)) then .nxt 4 else .ret false):=by
  refine Ev.succ ?_;simp only[qb7,qcB,show idx ([c.Av,c.Az,c.As,c.Ba]:List Int) 0=V c.Av from rfl,jd];refine Ev.tt Z ?_;cases inI c.Av 100 5000
  ·exact .done
  refine Ev.ff Z (Ev.succ ?_);simp only[qb7,qcB,show W64 (0+1)=1 from rfl,show idx ([c.Av,c.Az,c.As,c.Ba]:List Int) 1=V c.Az from rfl,jd];refine Ev.tt Z ?_;cases inI c.Az 100 5000
  ·exact .done
  refine Ev.ff Z (Ev.succ ?_);simp only[qb7,qcB,show W64 (1+1)=2 from rfl,show idx ([c.Av,c.Az,c.As,c.Ba]:List Int) 2=V c.As from rfl,jd];refine Ev.tt Z ?_;cases inI c.As 100 5000
  ·exact .done
  refine Ev.ff Z (Ev.succ ?_);simp only[qb7,qcB,show W64 (2+1)=3 from rfl,show idx ([c.Av,c.Az,c.As,c.Ba]:List Int) 3=V c.Ba from rfl,jd];refine Ev.tt Z ?_;cases inI c.Ba 100 5000
  ·exact .done
  refine Ev.ff Z (Ev.succ ?_);simp only[qb7];exact Ev.ff Z .done
 unfold qhq cornerB;refine Ev.bind a ?_;cases inI c.Av 100 5000&&(inI c.Az 100 5000&&(inI c.As 100 5000&&inI c.Ba 100 5000))
 ·exact .done
 ·refine Ev.bind (qlc h) ?_;cases nameB c.Bh
  ·exact .done
  ·cases decide (c.Av≤c.Az)<;>exact .done
theorem qpn {n:Nat}{a b:Int}:qgf n a b=V (decide (a ≥ 100)&&(decide (a≤b)&&decide (b≤5000))):=by
 unfold qgf;cases decide (a ≥ 100)
 ·rfl
 ·cases decide (a≤b)<;>rfl
theorem qq1 {c:qx}(h:okS c.Bh):Ev (fun n=>qho n c) (cornerB c):=by
 have e:cornerB c=(nameB c.Bh&&((decide (c.Av ≥ 100)&&(decide (c.Av≤c.Az)&&decide (c.Az≤5000)))&&(decide (c.As ≥ 100)&&(decide (c.As≤c.Ba)&&decide (c.Ba≤5000))))):=by
  unfold cornerB;rw[jm];simp only[jf,qa5,decide_eq_true_eq];constructor
  ·rintro⟨⟨b,d,f,g⟩,a,i,k⟩;refine⟨a,⟨?_,?_,?_⟩,?_,?_,?_⟩<;>omega
  ·rintro⟨a,⟨b,d,f⟩,g,i,k⟩;refine⟨⟨⟨?_,?_⟩,⟨?_,?_⟩,⟨?_,?_⟩,?_,?_⟩,a,?_,?_⟩<;>omega
 rw[e];unfold qho;simp only[qnw h,qpn,jd];cases nameB c.Bh
 ·exact .done
 ·cases decide (c.Av ≥ 100)&&(decide (c.Av≤c.Az)&&decide (c.Az≤5000))<;>exact .done
def spanB (s:qj):Bool:=inI s.Ar (-1000000000) 1000000000&&(inI s.Bg (-1000000000) 1000000000&&decide (s.Ar≤s.Bg))
def slewB (s:qj):Bool:=decide (s.Ar ≥ 0)&&(decide (s.Ar≤s.Bg)&&decide (s.Bg≤1000000))
theorem qo6 {n:Nat}{s:qj}:qhT n s=V (spanB s):=by
 unfold qhT spanB;simp only[qcB,jd];cases inI s.Ar (-1000000000) 1000000000
 ·rfl
 ·cases inI s.Bg (-1000000000) 1000000000<;>rfl
theorem qnE {n:Nat}{s:qj}:qgL n s=V (spanB s):=by
 unfold qgL qj3 spanB;simp only[qdL,jd];cases inI s.Ar (-1000000000) 1000000000
 ·rfl
 ·cases inI s.Bg (-1000000000) 1000000000<;>rfl
theorem qqN {n:Nat}{s:qj}:qhj n s=V (slewB s):=by
 unfold qhj slewB;cases decide (s.Ar ≥ 0)
 ·rfl
 ·cases decide (s.Ar≤s.Bg)<;>rfl
theorem qrc {n:Nat}{s:qj}:qht n s=V (slewB s):=by
 have e:slewB s=(spanB s&&(inI s.Ar 0 1000000&&inI s.Bg 0 1000000)):=by
  unfold slewB spanB;rw[jm];simp only[jf,qa5,decide_eq_true_eq];constructor
  ·rintro⟨a,b,c⟩;refine⟨⟨⟨?_,?_⟩,⟨?_,?_⟩,?_⟩,⟨?_,?_⟩,?_,?_⟩<;>omega
  ·rintro⟨⟨a,b,c⟩,d,f⟩;refine⟨?_,?_,?_⟩<;>omega
 rw[e];unfold qht qkb;simp only[qnE,qdL,jd];cases spanB s
 ·rfl
 ·cases inI s.Ar 0 1000000<;>rfl

theorem qp9 {b:qe}{k:Int}(h:blockB b=true){j:Nat}(c:j<(places b.Aa).length)(l:(gt (places b.Aa) j).net=k)(d:(gt (places b.Aa) j).drives=true):Ev (fun n=>qh9 n b.Aa k) (j:Int):=by
 have g:=qao h;have p:=qW g;have t:=qaE p;have e:ixL (fun q:Tl05Place=>(q.net==k)&&q.drives) ((places b.Aa).map toSp)=(j:Int):=by
  refine qt6 (by simpa using c) ?_ (fun i hi m=>?_)
  ·rw[qnR c];show(((gt (places b.Aa) j).net==k)&&(gt (places b.Aa) j).drives)=true;rw[l,d];simp
  ·have f:i<(places b.Aa).length:=by simpa using hi
   rw[qnR f] at m;have a:(((gt (places b.Aa) i).net==k)&&(gt (places b.Aa) i).drives)=true:=m;simp only[jf,beq_iff_eq] at a;exact qrk g f c (by rw[a.1,l]) a.2 d
 unfold qh9;refine Ev.bind (qf3 p) ?_;rw[←e];exact qga (fin:=(((places b.Aa).map toSp).length:Int)) (Lf:=qcT k ((places b.Aa).map toSp)) (xs:=(places b.Aa).map toSp) (pf:=fun _ (q:Tl05Place)=>V ((q.net==k)&&q.drives)) (fun _ _=>.done)
  (fun n=>by simp only[qcT,qq (je _),cond_false])
  (fun n j x r=>by
   have c:=(List.getElem?_eq_some_iff.1 r).1;have s:j<(places b.Aa).length:=by simpa using c
   simp only[qcT,qn c,cond_true,qhd r,jd,wS j];cases (x.net==k)<;>cases x.drives<;>rfl)
  (fun n=>by congr 1;funext o;cases o<;>rfl)
theorem qo2 {b:qe}{i k:Nat}(h:blockB b=true)(hi:i<b.Aa.Ab.length)(s:k<(gt b.Aa.Ab i).Aj.length):Ev (fun n=>qik n b.Aa (i:Int) (k:Int)) ((off b.Aa i+k:Nat):Int):=by
 have p:=qao h;have f:=qW p;have u:=qaE f;obtain⟨c,l⟩:=qjx hi s;have e:ixL (fun q:Tl05Place=>(q.instance_==(i:Int))&&(q.pin==(k:Int))) ((places b.Aa).map toSp)=((off b.Aa i+k:Nat):Int):=by
  refine qt6 (by simpa using c) ?_ (fun m t a=>?_)
  ·rw[qnR c,l];unfold place1 toSp;simp
  ·have d:m<(places b.Aa).length:=by simpa using t
   rw[qnR d] at a;rcases qkn d with⟨i',k',hi',hk',em,e'⟩|⟨i',hi',em,e'⟩
   ·rw[e'] at a;unfold place1 toSp at a;simp only[jf,beq_iff_eq] at a;obtain rfl:i'=i:=by omega
    obtain rfl:k'=k:=by omega
    exact em
   ·rw[e'] at a;unfold place2 toSp at a;simp only[jf,beq_iff_eq] at a;omega
 unfold qik;refine Ev.bind (qf3 f) ?_;rw[←e];exact qga (fin:=(((places b.Aa).map toSp).length:Int)) (Lf:=qdQ (i:Int) (k:Int) ((places b.Aa).map toSp)) (xs:=(places b.Aa).map toSp) (pf:=fun _ (q:Tl05Place)=>V ((q.instance_==(i:Int))&&(q.pin==(k:Int)))) (fun _ _=>.done)
  (fun n=>by simp only[qdQ,qq (je _),cond_false])
  (fun n j x g=>by
   have c:=(List.getElem?_eq_some_iff.1 g).1;have r:j<(places b.Aa).length:=by simpa using c
   simp only[qdQ,qn c,cond_true,qhd g,jd,wS j];cases (x.instance_==(i:Int))<;>cases (x.pin==(k:Int))<;>rfl)
  (fun n=>by congr 1;funext o;cases o<;>rfl)
theorem qqe {n:Nat}{xs:List ql}{f t a c k i:Int}(o:xs.length≤1000000)(l:0≤f)(m:f≤1000000)(p:0≤t)(r:t≤1000000)(b:b01 a)(g:b01 c):qe8 n xs f t a c k i=V (xs++[⟨2*f+a,2*t+c,k,i⟩]):=by
 have d:0≤a∧a≤1:=by rcases b with e|e<;>omega
 have h:0≤c∧c≤1:=by rcases g with e|e<;>omega
 unfold qe8;rw[wO (2*f),wO (2*t),wO (2*f+a),wO (2*t+c),qcI (by rw[ji];omega)]
 rfl
def fitB (a:qal)(i j:Int):Bool:=bif a.Bc==1 then(bif a.Bn==3 then true else(a.Bn==1)==(i==j)) else bif a.Bc==2 then i==0 else bif a.Bc==3 then i==1 else false
def pcL (a:qal)(f t k i j:Int):List ql:=bif fitB a i j then[⟨2*f+i,2*t+j,1,k⟩] else[]
theorem arcStep {arc:qal}{xs:List ql}{f t k i j:Int}{X:List ql×Int}(l:xs.length≤1000000)(c:0≤f)(d:f≤1000000)(m:0≤t)(o:t≤1000000)(hi:b01 i)(b:b01 j)
  (h:Ev (fun n=>qa6 arc f t k i n (xs++pcL arc f t k i j) (j+1)) X):Ev (fun n=>qa6 arc f t k i n xs j) X:=by
 have a:0≤j∧j≤1:=by rcases b with e|e<;>omega
 have g:=fun n=>qqe (n:=n) (k:=1) (i:=k) l c d m o hi b;refine Ev.succ ?_;simp only[qa6,g,jd,wO (j+1)];refine Ev.tt (decide_eq_true a.2) ?_;unfold pcL fitB at h;cases h1:arc.Bc==1
 ·cases h2:arc.Bc==2
  ·cases h3:arc.Bc==3
   ·rw[h1,h2,h3] at h;simpa using h
   ·rw[h1,h2,h3] at h;cases h4:i==1
    ·rw[h4] at h;simpa using h
    ·rw[h4] at h;simpa using h
  ·rw[h1,h2] at h;cases h4:i==0
   ·rw[h4] at h;simpa using h
   ·rw[h4] at h;simpa using h
 ·rw[h1] at h;cases h2:arc.Bn==3
  ·rw[h2] at h;cases h4:(arc.Bn==1)==(i==j)
   ·rw[h4] at h;simpa [h4] using h
   ·rw[h4] at h;simpa [h4] using h
  ·rw[h2] at h;simpa using h
theorem qvR {arc:qal}{xs:List ql}{f t k:Int}(u:xs.length≤900000)(c:0≤f)(d:f≤1000000)(g:0≤t)(h:t≤1000000) :
  Ev (fun n=>qj4 n xs arc f t k) (xs++pcL arc f t k 0 0++pcL arc f t k 0 1++pcL arc f t k 1 0++pcL arc f t k 1 1):=by
 have a:∀ i j,(pcL arc f t k i j).length≤1:=fun i j=>by unfold pcL;cases fitB arc i j<;>simp
 have l:=a 0 0;have m:=a 0 1;have o:=a 1 0;have p:=a 1 1;have b:∀ (i:Int) (ys:List ql),b01 i→ys.length≤900010→Ev (fun n=>qa6 arc f t k i n ys 0) (ys++pcL arc f t k i 0++pcL arc f t k i 1,2):=by
  intro i ys hi v;have s:=a i 0;refine arcStep (by omega) c d g h hi (.inl Z) (arcStep (j:=0+1) (by rw[jg];omega) c d g h hi (.inr Z) (Ev.succ ?_));simp only[qa6];exact Ev.ff Z .done
 have r:Ev (fun n=>qeD arc f t k n xs 0) (xs++pcL arc f t k 0 0++pcL arc f t k 0 1++pcL arc f t k 1 0++pcL arc f t k 1 1,2):=by
  refine Ev.succ ?_;simp only[qeD];refine Ev.tt Z (Ev.bind (b 0 xs (.inl Z) (by omega)) ?_);refine Ev.succ ?_;simp only[qeD];refine Ev.tt Z (Ev.bind (b 1 _ (.inr Z) (by simp only[jg];omega)) ?_);refine Ev.succ ?_;simp only[qeD];exact Ev.ff Z .done
 unfold qj4;exact Ev.bind r .done
theorem qsW {ps:List qaq}{a:qal}(h:arcS ps a=true)(c:a.Bc≤3)(b:1≤a.Bc):(a.Bc=1∧(a.Bn=1∨a.Bn=2∨a.Bn=3))∨a.Bc=2∨a.Bc=3:=by
 rcases (by omega:a.Bc=1∨a.Bc=2∨a.Bc=3) with e|e|e
 ·refine .inl ⟨e,?_⟩;unfold arcS at h;rw[e] at h;simp only[beq_self_eq_true,cond_true,jf,qa5] at h;have:=h.2.2.2.1;omega
 ·exact .inr (.inl e)
 ·exact .inr (.inr e)
theorem qug {ps:List qaq}{a:qal}{first:Int}{k:Nat}(h:arcS ps a=true)(c:a.Bc≤3)(b:1≤a.Bc) :
  pcL a (first+a.Bk) (first+a.To) (k:Int) 0 0++pcL a (first+a.Bk) (first+a.To) (k:Int) 0 1++pcL a (first+a.Bk) (first+a.To) (k:Int) 1 0++pcL a (first+a.Bk) (first+a.To) (k:Int) 1 1=arcLs first k a:=by
 unfold arcLs transL pcL fitB;rcases qsW h c b with⟨e,e2|e2|e2⟩|e|e
 ·rw[e,e2];rfl
 ·rw[e,e2];rfl
 ·rw[e,e2];rfl
 ·rw[e];rfl
 ·rw[e];rfl
theorem qn2 {a:qal}{first:Int}{k:Nat}(h:3<a.Bc):arcLs first k a=[]:=by
 unfold arcLs transL;rw[show(a.Bc==2)=false from beq_eq_false_iff_ne.2 (by omega),show(a.Bc==3)=false from beq_eq_false_iff_ne.2 (by omega),show(a.Bc != 1)=true from bne_iff_ne.2 (by omega)]
 rfl
theorem qfe {b:qe}(h:blockB b=true):Ev (fun n=>qcm n b) (linksL b):=by
 have v:=qao h;have z:=qW v;have hl:=qaE z;have hni:=z.ni;have hnn:=z.nn;have J:=qjE h;have p:(⟨b.Aa.Ab,b.Aa.Aj,b.Aa.Ah⟩:qf)=b.Aa:=rfl;have e1:Ev (fun n=>qdf b n ([]:List ql) 0) (instLs b b.Aa.Ab.length,(b.Aa.Ab.length:Int)):=by
  refine loopF (Lf:=qdf b) (S:=instLs b) (len:=b.Aa.Ab.length) (fun n=>?_) (fun j m X g=>?_)
  ·simp only[qdf,qq (je _),cond_false]
  ·obtain⟨⟨Q,c1⟩,r,l⟩:=qha v m;have M:=qmS l;have s:=(qgP (qiC l)).1;have H:=qiB h (show j≤b.Aa.Ab.length by omega);have O:=qjM (d:=b.Aa) (i:=j);have hof:off b.Aa (j+1)≤78:=by
    rw[qgM] at hl;have:=qr2 (d:=b.Aa) (show j+1≤b.Aa.Ab.length by omega);omega
   have F:cellAt b (j:Int)=gt b.Ap.Aq (gt b.Aa.Ab j).Bt.toNat:=rfl;simp only[qdf,qn m,cond_true,qw m,qfM Q c1,jd,wS j];have C:Ev (fun n=>qcy b (j:Int) (cellAt b (j:Int)) n (instLs b j) 0) (instLs b (j+1),((cellAt b (j:Int)).Au.length:Int)):=by
    rw[show instLs b (j+1)=instLs b j++cellLs (cellAt b (j:Int)) (off b.Aa j:Int) (cellAt b (j:Int)).Au.length from qjf];rw[←F] at l r M s;generalize cellAt b (j:Int)=c at l r M s ⊢;have:=loopF (Lf:=qcy b (j:Int) c) (S:=fun k=>instLs b j++cellLs c (off b.Aa j:Int) k) (len:=c.Au.length) (fin:=(instLs b j++cellLs c (off b.Aa j:Int) c.Au.length,(c.Au.length:Int))) (fun n=>by simp only[qcy,qq (je _),cond_false])
     (fun k o X g=>by
      obtain⟨⟨k1,k5⟩,N,I,Y⟩:=ql5 l o;have e:(cellLs c (off b.Aa j:Int) k).length≤4*k:=qnM fun _ _=>qnQ;have A:cellLs c (off b.Aa j:Int) (k+1)=cellLs c (off b.Aa j:Int) k++arcLs (off b.Aa j:Int) k (gt c.Au k):=qjf;rw[A] at g;simp only[qcy,qn o,cond_true,qw o,jd,wS k,p];by_cases B:(gt c.Au k).Bc≤3
      ·refine Ev.tt (decide_eq_true B) ?_;have K:=qo2 h m (k:=(gt c.Au k).Bk.toNat) (by omega);have L:=qo2 h m (k:=(gt c.Au k).To.toNat) (by omega);rw[←qeO N.1] at K;rw[←qeO I.1] at L;refine Ev.bind K (Ev.bind L (Ev.bind (qvR (by rw[jg];omega) (by omega) (by omega) (by omega) (by omega)) ?_));have u:∀ x:Int,0≤x→((off b.Aa j+x.toNat:Nat):Int)=(off b.Aa j:Int)+x:=fun x hx=>by omega
       rw[u _ N.1,u _ I.1,jt,jt,jt,←jt (pcL _ _ _ _ _ _),←jt (pcL _ _ _ _ _ _++_),qug Y B k1,jt];exact g
      ·refine Ev.ff (decide_eq_false B) ?_;rw[qn2 (by omega),Jc] at g;exact g)
    simpa [cellLs,fm] using this
   exact Ev.bind C g
 have D:∀ (i:Nat) (t:List ql),i<b.Af.length→t.length≤900000→Ev (fun n=>qdo (dvN b.Aa i:Int) (skL b i) n t 0) (t++wlN b i (skL b i).length,((skL b i).length:Int)):=by
  intro i t hi I;have hsm:=qgV h (i:=i);have a3:=(qh8 v (k:=i) (by omega)).1;have:=loopF (Lf:=qdo (dvN b.Aa i:Int) (skL b i)) (S:=fun k=>t++wlN b i k) (len:=(skL b i).length) (fin:=(t++wlN b i (skL b i).length,((skL b i).length:Int))) (fun n=>by simp only[qdo,qq (je _),cond_false])
   (fun k o X g=>by
    obtain⟨y,hy,ey,_⟩:=qmR o;have hwn:=qqy (b:=b) (i:=i) (j:=k);have p1:=fun n=>qqe (n:=n) (xs:=t++wlN b i k) (f:=(dvN b.Aa i:Int)) (t:=at0 (skL b i) k) (a:=0) (c:=0) (k:=2) (i:=(k:Int)) (by rw[jg];omega) (by omega) (by omega) (by omega) (by omega) (.inl Z) (.inl Z);have p2:=fun n=>qqe (n:=n) (xs:=t++wlN b i k++[⟨2*(dvN b.Aa i:Int)+0,2*at0 (skL b i) k+0,2,(k:Int)⟩]) (f:=(dvN b.Aa i:Int)) (t:=at0 (skL b i) k) (a:=1) (c:=1) (k:=2) (i:=(k:Int)) (by rw[jg,jg,ji];omega) (by omega) (by omega) (by omega) (by omega) (.inr Z) (.inr Z);simp only[qdo,qn o,cond_true,qas o,jd,p1,p2,wS k];have A:wlN b i (k+1)=wlN b i k++wl1 (dvN b.Aa i) (at0 (skL b i) k) k:=qjf;rw[A] at g;rw[Jf,Jf,jt,jt];exact g)
  simpa [wlN,fm] using this
 have u:Ev (fun n=>qdj b n (instLs b b.Aa.Ab.length) 0) (linksL b,(b.Aa.Aj.length:Int)):=by
  have H:=qiB h (je _);have:=loopF (Lf:=qdj b) (S:=fun j=>instLs b b.Aa.Ab.length++wireLs b j) (len:=b.Aa.Aj.length) (fin:=(linksL b,(b.Aa.Aj.length:Int))) (fun n=>by
    simp only[qdj,qq (je _),cond_false];rw[←J];rfl)
   (fun j m X g=>by
    have P:=qmM h (j:=j);obtain⟨R,d2⟩:=qh8 v m;obtain⟨T,W⟩:=qlX.1 d2;simp only[qdj,qn m,cond_true,wS j,p];refine Ev.bind (qp9 h R T W) (Ev.bind (qkl z) (Ev.bind (D j _ (by omega) (by rw[jg];omega)) ?_));rw[jt,show wireLs b j++wlN b j (skL b j).length=wireLs b (j+1) from qjf.symm];exact g)
  simpa [wireLs,fm] using this
 unfold qcm;exact Ev.bind e1 (Ev.bind u .done)
def lvB (br:List Int)(m:Nat):List Bool:=pre (fun k=>!br.any fun y=>y==(k:Int)) m
theorem qk2 {br:List Int}{m:Nat}:(lvB br m).length=m:=qj5
theorem qml {br:List Int}{x:Int}(d:br.length≤1048576):Ev (fun n=>qgD n br x) (br.any fun y=>y==x):=by
 have b:Ev (fun n=>qeI br x n 0) (bif br.any (fun y=>y==x) then .ret true else .nxt (br.length:Int)):=by
  have:=qeA (Lf:=qeI br x) (len:=br.length) (f:=fun j=>!(gt br j==x)) (bad:=true) (fin:=.nxt (br.length:Int)) (Ev.succ (by simp only[qeI,qq (je _),cond_false];exact .done))
   (fun j a X c=>Ev.succ (by
    simp only[qeI,qn a,cond_true,qw a,jd,wS j];cases gt br j==x
    ·exact c
    ·exact .done))
  rw[qsf];refine this.cast ?_;cases allN (fun j=>!(gt br j==x)) br.length<;>rfl
 unfold qgD;refine Ev.bind b ?_;cases br.any (fun y=>y==x)<;>exact .done
theorem qlf {ls:List ql}{br:List Int}(g:ls.length≤10000)(a:br.length≤1048576):Ev (fun n=>qfQ n ls br) (lvB br ls.length):=by
 have b:Ev (fun n=>qdT ls br n ([]:List Bool) 0) (lvB br ls.length,(ls.length:Int)):=by
  refine loopF (Lf:=qdT ls br) (S:=fun j=>lvB br j) (len:=ls.length) (fun n=>?_) (fun j d X c=>?_)
  ·simp only[qdT,qq (je _),cond_false]
  ·simp only[qdT,qn d,cond_true,wS j];refine Ev.bind (qml a) ?_;have e:appS (lvB br j) [!br.any fun y=>y==(j:Int)]=V (lvB br (j+1)):=qqd (f:=fun k:Nat=>!br.any fun y=>y==(k:Int)) (by omega);rw[e];exact c
 unfold qfQ;exact Ev.bind b .done
def brB (br:List Int)(m:Nat):Bool:=(br.all fun x=>inI x 0 ((m:Int)-1))&&incB br
theorem qsi {v:Tview}{br:List Int}(A:v.links.length≤10000)(h:brB br v.links.length=true):Ev (fun n=>qgt n (V v) br) (V ⟨V v,lvB br v.links.length⟩):=by
 unfold brB at h;rw[jf,qiq,qaA] at h;have u:mkS (v.links.length:Int) false=V (pre (fun _=>false) v.links.length):=qkP (by omega);generalize hM:v.links.length=M at A h u ⊢;have m:∀ j i,i<j→j<br.length→gt br i<gt br j:=by
  intro j
  induction j with
  | zero=>intro i hi _;omega
  | succ j ih=>
   intro i hi b;have c:=h.2;unfold incB at c;rw[qaA] at c;have c:=c (j+1) b;unfold stepB at c;simp only[Bool.or_eq_true,decide_eq_true_eq,Nat.add_sub_cancel] at c;have s:gt br j<gt br (j+1):=by
    rcases c with c|c
    ·omega
    ·exact c
   by_cases r:i=j
   ·rw[r];exact s
   ·have:=ih i (by omega) (by omega);omega
 have o:∀ j,j<br.length→(j:Int)≤gt br j:=by
  intro j
  induction j with
  | zero=>
   intro b;have:=h.1 0 b;rw[qa5] at this;omega
  | succ j ih=>
   intro b;have:=ih (by omega);have:=m (j+1) j (by omega) b;omega
 have C:br.length≤M:=by
  by_cases D:br.length=0
  ·omega
  ·have F:=o (br.length-1) (by omega);have B:=h.1 (br.length-1) (by omega);rw[qa5] at B;omega
 have e1:Ev (fun n=>qbX (pre (fun _=>false) M) n (pre (fun _=>false) M) 0) (pre (fun _=>true) M,(M:Int)):=by
  have:=loopF (Lf:=qbX (pre (fun _=>false) M)) (S:=fun j=>pre (fun k=>decide (k<j)) M) (len:=M) (fin:=(pre (fun _=>true) M,(M:Int))) (fun n=>by
    simp only[qbX,qj5,qq (je _),cond_false];rw[qg1 (g:=fun _=>true) fun k d=>decide_eq_true d])
   (fun j b X l=>by
    simp only[qbX,qj5,qn b,cond_true,qh5 (f:=fun k=>decide (k<j)) b,jd,qm7,wS j];have:pre (fun k=>decide (k<j+1)) M=pre (fun k=>if k=j then true else decide (k<j)) M:=qg1 fun k _=>by
     by_cases d:k=j
     ·rw[if_pos d,d];simp
     ·rw[if_neg d,decide_eq_decide];omega
    rw[this] at l;exact l)
  simpa using this
 have z:Ev (fun n=>qbV br n (pre (fun _=>true) M) 0) (lvB br M,(br.length:Int)):=by
  have:=loopF (Lf:=qbV br) (S:=fun j=>pre (fun k=>!(br.take j).any fun y=>y==(k:Int)) M) (len:=br.length) (fin:=(lvB br M,(br.length:Int))) (fun n=>by
    simp only[qbV,qq (je _),cond_false,jC];rfl)
   (fun j b X l=>by
    have x:=h.1 j b;rw[qa5] at x;obtain⟨a,t⟩:∃ a:Nat,gt br j=(a:Int):=⟨_,qeO x.1⟩;have p:a<M:=by omega
    simp only[qbV,qn b,cond_true,qw b,t,qh5 (f:=fun k=>!(br.take j).any fun y=>y==(k:Int)) p,jd,qm7,wS j];have:pre (fun k=>!(br.take (j+1)).any fun y=>y==(k:Int)) M=pre (fun k=>if k=a then false else !(br.take j).any fun y=>y==(k:Int)) M:=qg1 fun k _=>by
     rw[jw b,List.any_append,←qef b,t];by_cases d:k=a
     ·rw[if_pos d,d];simp
     ·rw[if_neg d];have:((a:Int)==(k:Int))=false:=by simp;omega
      simp[this]
    rw[this] at l;exact l)
  simpa using this
 unfold qgt;simp only[jd,hM,u];exact Ev.bind e1 (Ev.bind z .done)
theorem qtf {br:List Int}{m:Nat}(h:br.length≤1048576)(i:m≤10000):Ev (fun n=>qig n br (m:Int)) (brB br m):=by
 have g:Ev (fun n=>qcg br (m:Int) n 0) (bif allN (fun j=>inI (gt br j) 0 ((m:Int)-1)&&stepB br j) br.length then .nxt (br.length:Int) else .ret false):=by
  refine qeA (Lf:=qcg br (m:Int)) (len:=br.length) (Ev.succ (by simp only[qcg,qq (je _),cond_false];exact .done)) (fun j d X c=>Ev.succ ?_);simp only[qcg,qn d,cond_true,qw d,jd,qcB,wS j,wO ((m:Int)-1)];cases h1:inI (gt br j) 0 ((m:Int)-1)
  ·exact .done
  ·refine Ev.ff Z ?_;by_cases b:j=0
   ·subst b;exact Ev.ff Z c
   ·refine Ev.tt (decide_eq_true (by omega)) ?_;rw[show(j:Int)-1=((j-1:Nat):Int) by omega,qU (by omega) (by omega),qw (show j-1<br.length by omega)];simp only[jd];have f:stepB br j=decide (gt br (j-1)<gt br j):=by
     unfold stepB;rw[decide_eq_false b,Bool.false_or]
     rfl
    rw[f];by_cases a:gt br (j-1)<gt br j
    ·rw[decide_eq_true a];exact Ev.ff (decide_eq_false (by omega)) c
    ·rw[decide_eq_false a];exact Ev.tt (decide_eq_true (by omega)) .done
 unfold qig;refine Ev.bind g ?_;unfold brB incB;rw[qiq,←qkK];cases allN (fun j=>inI (gt br j) 0 ((m:Int)-1)&&stepB br j) br.length<;>exact .done
theorem qra {v:Tview}{br:List Int}(a:br.length≤1048576)(b:v.links.length≤10000):Ev (fun n=>qez n (V v) br) (brB br v.links.length):=by
 unfold qez qgm brB;simp only[jd,wO ((v.links.length:Int)-1)];exact Ev.and (qfk a) fun _=>Ev.last (qlq a)
theorem qoR {b:qe}{br:List Int}(a:qil b)(h:blockB b=true)(c:br.length≤1048576):Ev (fun n=>qfU n b br) (bif brB br (linksL b).length then 0 else 2):=by
 unfold qfU;refine Ev.bind (qhM a) (Ev.ff (by rw[h];rfl) (Ev.bind (qfe h) (Ev.bind (qtf c (qgH h)) ?_)));cases brB br (linksL b).length<;>exact .done

theorem ql2 {α:Type}{f:Nat→List α}{n:Nat}{x:α}(h:x ∈ fm f n):∃ j,j<n∧x ∈ f j:=by
 unfold fm at h;obtain⟨j,a,b⟩:=List.mem_flatMap.1 h;exact⟨j,List.mem_range.1 a,b⟩
theorem qsC {x:Int}{j:Nat}{t:Int}(b:b01 t)(d:j≤100000)(e:x=2*(j:Int)+t):W64 (x.tdiv 2)=(j:Int)∧x.tmod 2=t:=by
 have c:0≤t∧t≤1:=by rcases b with e|e<;>omega
 have a:0≤x:=by omega
 rw[jE a,Int.tmod_eq_emod_of_nonneg a,qU (by omega) (by omega)];omega
structure CLk (b:qe)(x:ql)(i j m net a:Nat):Prop where
 kind:x.Bc=1
 il:i<b.Aa.Ab.length
 jl:j<(places b.Aa).length
 inst:(gt (places b.Aa) j).instance_=(i:Int)
 net_:(gt (places b.Aa) j).net=(net:Int)
 nl:net<b.Af.length
 half:W64 (x.To.tdiv 2)=(j:Int)
 mod:x.To.tmod 2=(m:Int)
 ml:m<2
 ix:x.Bx=(a:Int)
 al:a<(cellAt b (i:Int)).Au.length
 d2:(gt (cellAt b (i:Int)).Au a).Bs.length=2
 s2:(gt (cellAt b (i:Int)).Au a).Bd.length=2
 dt:∀ t,t ∈ (gt (cellAt b (i:Int)).Au a).Bs→TbOk t∧∀ k,0≤at0 t.Bi k
 st:∀ t,t ∈ (gt (cellAt b (i:Int)).Au a).Bd→TbOk t∧∀ k,0≤at0 t.Bi k
structure WLk (b:qe)(x:ql)(j net k:Nat):Prop where
 kind:x.Bc=2
 jl:j<(places b.Aa).length
 net_:(gt (places b.Aa) j).net=(net:Int)
 nl:net<b.Af.length
 half:W64 (x.To.tdiv 2)=(j:Int)
 ix:x.Bx=(k:Int)
 kl:k<(gt b.Af net).Bj.length
theorem qvV {xs:List Int}(h:0≤mnL xs)(k:Nat):0≤at0 xs k:=by
 have b:∀ (ys:List Int) (a:Int),(ys.foldl (fun(m y:Int)=>if y<m then y else m) a≤a)∧∀ y,y ∈ ys→ys.foldl (fun(m y:Int)=>if y<m then y else m) a≤y:=by
  intro ys
  induction ys with
  | nil=>intro a;exact⟨jS _,fun y g=>by cases g⟩
  | cons z ys ih=>
   intro a;rw[List.foldl_cons];obtain⟨i,l⟩:=ih (if z<a then z else a);refine⟨?_,fun y g=>?_⟩
   ·split at i<;>split<;>omega
   ·rcases List.mem_cons.1 g with e|e
    ·subst e;split at i<;>split<;>omega
    ·exact l y e
 by_cases d:k<xs.length
 ·have f:xs[k] ∈ xs.drop 1∨k=0:=by
   by_cases c:k=0
   ·exact .inr c
   ·refine .inl ?_;have:xs[k]=(xs.drop 1)[k-1]'(by rw[List.length_drop];omega):=by
     rw[List.getElem_drop]
     congr 1;omega
    rw[this];exact jo _
  rw[qlL d];unfold mnL at h;rcases f with f|c
  ·exact Int.le_trans h ((b _ _).2 _ f)
  ·subst c;have:=(b (xs.drop 1) (at0 xs 0)).1;rw[←qlL d];exact Int.le_trans h this
 ·rw[qsA d];exact jS _
theorem qoW {a:List qO}(h:tablesB a true=true):a.length=2∧∀ t,t ∈ a→TbOk t∧∀ k,0≤at0 t.Bi k:=by
 unfold tablesB at h;rw[jf,decide_eq_true_eq,Jd] at h;refine⟨h.1,fun t b=>?_⟩;have:=h.2 t b;unfold tabB at this;simp only[Ji,Bool.false_or,jf,decide_eq_true_eq] at this;exact⟨qsF this.1,qvV this.2⟩
theorem qrG {ps:List qaq}{a:qal}(h:arcS ps a=true)(c:a.Bc≤3)(b:1≤a.Bc):a.To=(ps.length:Int)-1∧tablesB a.Bs true=true∧tablesB a.Bd true=true:=by
 unfold arcS at h;rcases (by omega:a.Bc=1∨a.Bc=2∨a.Bc=3) with e|e|e
 ·rw[e] at h;simp only[beq_self_eq_true,cond_true,jf,beq_iff_eq] at h;exact⟨h.2.2.1,h.2.2.2.2⟩
 ·rw[e] at h;simp only[show((2:Int)==1)=false from rfl,cond_false,beq_self_eq_true,Bool.true_or,cond_true,jf,beq_iff_eq] at h;exact⟨h.2.2.1,h.2.2.2.2⟩
 ·rw[e] at h;simp only[show((3:Int)==1)=false from rfl,cond_false,beq_self_eq_true,Bool.or_true,cond_true,jf,beq_iff_eq] at h;exact⟨h.2.2.1,h.2.2.2.2⟩
theorem qqR {a:qal}{t:qT}(h:t ∈ transL a):1≤a.Bc∧a.Bc≤3:=by
 refine⟨?_,?_⟩<;>refine Int.le_of_not_gt fun b=>?_
 ·have:arcLs 0 0 a=[]:=by
   unfold arcLs transL;rw[show(a.Bc==2)=false from beq_eq_false_iff_ne.2 (by omega),show(a.Bc==3)=false from beq_eq_false_iff_ne.2 (by omega),show(a.Bc != 1)=true from bne_iff_ne.2 (by omega)]
   rfl
  unfold arcLs at this;rw[List.map_eq_nil_iff] at this;rw[this] at h;cases h
 ·have:arcLs 0 0 a=[]:=qn2 b;unfold arcLs at this;rw[List.map_eq_nil_iff] at this;rw[this] at h;cases h
theorem qhD {b:qe}(h:blockB b=true){x:ql}(c:x ∈ linksL b):((∃ i j m net a,CLk b x i j m net a)∨∃ j net k,WLk b x j net k)∧(0≤x.Bk∧x.Bk<2*((places b.Aa).length:Int))∧(0≤x.To∧x.To<2*((places b.Aa).length:Int)):=by
 have l:=qao h;have P:=qW l;have hl:=qaE P;have S:=qjE h;unfold linksL at c;rcases List.mem_append.1 c with c|c
 ·obtain⟨i,hi,c⟩:=ql2 c;obtain⟨a,A,c⟩:=ql2 c;unfold arcLs at c;obtain⟨t,g,rfl⟩:=List.mem_map.1 c;obtain⟨⟨c0,c1⟩,u,f⟩:=qha l hi;have r:cellAt b (i:Int)=gt b.Ap.Aq (gt b.Aa.Ab i).Bt.toNat:=rfl;rw[←r] at u f;obtain⟨⟨k1,k5⟩,hf,Q,L⟩:=ql5 f A;obtain⟨J,K⟩:=qqR g;obtain⟨X,o⟩:=qpT g;obtain⟨D,Y,tS⟩:=qrG L K J;obtain⟨d2,dt⟩:=qoW Y;obtain⟨s2,st⟩:=qoW tS;have O:=(qgP (qiC f)).1;have n:(cellAt b (i:Int)).Be.length-1<(gt b.Aa.Ab i).Aj.length:=by omega
  obtain⟨B,F⟩:=qjx hi n;obtain⟨W,n1⟩:=qkW l B;have e1:(al1 (off b.Aa i:Int) a (gt (cellAt b (i:Int)).Au a) t).To=2*((off b.Aa i+((cellAt b (i:Int)).Be.length-1):Nat):Int)+t.e1:=by
   show 2*((off b.Aa i:Int)+(gt (cellAt b (i:Int)).Au a).To)+t.e1=_;rw[D];omega
  obtain⟨s,C⟩:=qsC o (by omega) e1;obtain⟨m,H⟩:∃ m:Nat,t.e1=(m:Int):=⟨t.e1.toNat,by rcases o with e|e<;>omega⟩;have N:off b.Aa i+(gt (cellAt b (i:Int)).Au a).Bk.toNat<(places b.Aa).length:=(qjx hi (k:=(gt (cellAt b (i:Int)).Au a).Bk.toNat) (by omega)).1;have p:(al1 (off b.Aa i:Int) a (gt (cellAt b (i:Int)).Au a) t).Bk=2*((off b.Aa i:Int)+(gt (cellAt b (i:Int)).Au a).Bk)+t.e0:=rfl;refine⟨.inl ⟨i,_,m,(gt (places b.Aa) (off b.Aa i+((cellAt b (i:Int)).Be.length-1))).net.toNat,a,⟨rfl,hi,B,by rw[F];rfl,qeO W,by omega,s,by rw[C,H],by rcases o with e|e<;>omega,rfl,A,d2,s2,dt,st⟩⟩,?_,?_⟩
  ·rw[p];rcases X with e|e<;>rw[e]<;>omega
  ·rw[e1];rcases o with e|e<;>rw[e]<;>omega
 ·obtain⟨i,hi,c⟩:=ql2 c;obtain⟨k,n,c⟩:=ql2 c;obtain⟨y,T,I,v⟩:=qmR n;have M:=(qh8 l (k:=i) (by omega)).1;have R:=qbw h hi;have z:(gt (places b.Aa) y).net=(i:Int):=by
   unfold snkQ at v;simp only[jf,beq_iff_eq] at v;exact v.1
  have d:∀ t:Int,b01 t→x=⟨2*(dvN b.Aa i:Int)+t,2*at0 (skL b i) k+t,2,(k:Int)⟩→((∃ i j m net a,CLk b x i j m net a)∨∃ j net k,WLk b x j net k)∧(0≤x.Bk∧x.Bk<2*((places b.Aa).length:Int))∧(0≤x.To∧x.To<2*((places b.Aa).length:Int)):=by
   intro t g e;have e1:x.To=2*(y:Int)+t:=by rw[e,I]
   have p:x.Bk=2*(dvN b.Aa i:Int)+t:=by rw[e]
   obtain⟨s,C⟩:=qsC g (by omega) e1;refine⟨.inr ⟨y,i,k,⟨by rw[e],T,z,hi,s,by rw[e],by rw[R.snk];exact n⟩⟩,?_,?_⟩
   ·rw[p];rcases g with e|e<;>rw[e]<;>omega
   ·rw[e1];rcases g with e|e<;>rw[e]<;>omega
  unfold wl1 at c;simp only[jJ,jy,or_false] at c;rcases c with c|c
  ·exact d 0 (.inl Z) (by rw[c,Jf,Jf])
  ·exact d 1 (.inr Z) c
theorem qjS {α:Type}[Inhabited α]{xs:List α}{k:Nat}(h:k<xs.length):gt xs k ∈ xs:=by rw[qef h];exact jo h
theorem qiJ {b:qe}(h:blockB b=true):LkOk (linksL b) (2*(places b.Aa).length) where
 len:=qgH h
 nodes:=by have:=qaE (qW (qao h));omega
 fr0:=fun x a=>(qhD h (qjS a)).2.1.1
 fr1:=fun x a=>by have:=(qhD h (qjS a)).2.1.2;omega
 to0:=fun x a=>(qhD h (qjS a)).2.2.1
 to1:=fun x a=>by have:=(qhD h (qjS a)).2.2.2;omega
theorem qp8 {c:qx}(h:cornerB c=true){kind mode:Int}:∃ f:Int,100≤f∧f≤5000∧(∀ n,qgG n c kind mode=V f)∧∀ n,qeE n c kind mode=V f:=by
 unfold cornerB at h;simp only[jf,qa5,decide_eq_true_eq] at h;obtain⟨⟨a,b,d,g⟩,_⟩:=h;unfold qgG qeE;cases kind==1
 ·cases mode==0
  ·exact⟨_,g.1,g.2,fun _=>rfl,fun _=>rfl⟩
  ·exact⟨_,d.1,d.2,fun _=>rfl,fun _=>rfl⟩
 ·cases mode==0
  ·exact⟨_,b.1,b.2,fun _=>rfl,fun _=>rfl⟩
  ·exact⟨_,a.1,a.2,fun _=>rfl,fun _=>rfl⟩
theorem qqV {p f mode:Int}(h:0≤p)(p1:p≤400000000000)(c:0≤f)(g:f≤5000):(∀ n,qcA n (W64 (p*f)) 1000 mode=V (divI (p*f) 1000 mode))∧∀ n,qjN n p f mode=V (divI (p*f) 1000 mode):=by
 have i:=jT h c;have k:p*f≤400000000000*5000:=Ja p1 g c (by omega);have e:W64 (p*f)=p*f:=qU (by omega) (by omega);have d:=fun n=>qjV (n:=n) (a:=p*f) (b:=1000) (mode:=mode) (by omega) (by omega) (by omega);refine⟨fun n=>by rw[e];exact d n,fun n=>?_⟩;unfold qjN;rw[e,qqn (m:=0),d 0]
 rfl
theorem qum {l h H:Int}(c:0≤l)(d:l<h)(f:h≤H)(g:H≤3000000000):W64 (W64 (W64 (l+h)+1) |>.tdiv 2)=(l+h+1) / 2∧W64 ((l+h+1) / 2*((l+h+1) / 2))=(l+h+1) / 2*((l+h+1) / 2)∧W64 ((l+h+1) / 2-1)=(l+h+1) / 2-1:=by
 have a:0≤(l+h+1) / 2∧(l+h+1) / 2≤3000000000:=by omega
 have i:(l+h+1) / 2*((l+h+1) / 2)≤3000000000*3000000000:=Ja a.2 a.2 a.1 (by omega);have b:=jT a.1 a.1;rw[wO (l+h),wO (l+h+1),jE (by omega),wO ((l+h+1) / 2),wO ((l+h+1) / 2-1)];exact⟨rfl,qU (by omega) (by omega),rfl⟩
theorem qtw {y mode:Int}(k:0≤y)(r:y≤4000000000000000000):∃ v,IsRoot y v∧v≤2000000000∧Ev (fun n=>qh0 n y mode) (if mode=1∧v*v<y then v+1 else v):=by
 obtain⟨v,r1,f,p⟩:=qpX (Lf:=fun n l h=>qdP y n l h) (fin:=fun l=>(l,l)) (x:=y) (H:=2000000000) k (by omega) (by omega)
  (fun n l _ _=>by simp only[qdP,show decide (l<l)=false from decide_eq_false (Int.lt_irrefl l),cond_false])
  (fun n l h a b m=>by
   obtain⟨e1,g,i⟩:=qum a b m (by omega);simp only[qdP,decide_eq_true b,cond_true,e1,g,i])
 refine⟨v,r1,f,?_⟩;unfold qh0;refine Ev.bind p ?_;have d:=r1.pos;have s:v*v≤2000000000*2000000000:=Ja f f d (by omega);have o:=jT d d;simp only[wO (v*v),wO (v+1)];by_cases c:mode=1
 ·refine Ev.tt (by simpa using c) ?_;by_cases a:v*v<y
  ·rw[if_pos ⟨c,a⟩];exact Ev.tt (decide_eq_true a) .done
  ·rw[if_neg fun h=>a h.2];exact Ev.ff (decide_eq_false a) .done
 ·rw[if_neg fun h=>c h.1];exact Ev.ff (by simpa using c) .done
theorem qtn {y:Int}(d:0≤y)(m:y≤4000000000000000000):∃ v,IsRoot y v∧v≤3000000000∧Ev (fun n=>qmm n y) v:=by
 obtain⟨v,r1,i,k⟩:=qpX (Lf:=fun n l h=>qf0 y n l h) (fin:=fun l=>(l,l)) (x:=y) (H:=3000000000) d (by omega) (by omega)
  (fun n l _ _=>by simp only[qf0,show decide (l<l)=false from decide_eq_false (Int.lt_irrefl l),cond_false])
  (fun n l h g a f=>by
   obtain⟨e1,b,c⟩:=qum g a f (by omega);simp only[qf0,decide_eq_true a,cond_true,e1,b,c])
 refine⟨v,r1,i,?_⟩;unfold qmm;exact Ev.bind k .done
theorem qsX {sl d mode:Int}(s0:0≤sl)(s1:sl≤1000000)(g:0≤d)(k:d≤344000000)(l:mode=0∨mode=1):∃ r:Int,0≤r ∧
  Ev (fun n=>(qh0 n (W64 (W64 (W64 (1000000*sl)*sl)+W64 (W64 (4*d)*d))) mode).bind fun z=>(qcA n z 1000 mode).bind fun A=>V A) r∧Ev (fun n=>qiO n sl d mode) r:=by
 have H:=jT s0 s0;have I:sl*sl≤1000000*1000000:=Ja s1 s1 s0 (by omega);have J:=jT g g;have K:d*d≤344000000*344000000:=Ja k k g (by omega);have e1:W64 (W64 (W64 (1000000*sl)*sl)+W64 (W64 (4*d)*d))=4*(250000*(sl*sl)+d*d):=by
  rw[wO (1000000*sl),wO (4*d),jZ 1000000,jZ 4,wO (1000000*(sl*sl)),wO (4*(d*d)),qU (by omega) (by omega)];omega
 have s:W64 (W64 (W64 (W64 (500*sl)*500)*sl)+W64 (d*d))=250000*(sl*sl)+d*d:=by
  rw[wO (500*sl),wO (500*sl*500),show 500*sl*500*sl=250000*(sl*sl) by rw[←jZ];congr 1;omega,wO (250000*(sl*sl)),wO (d*d),qU (by omega) (by omega)]
 obtain⟨v,o,L,B⟩:=qtw (mode:=mode) (y:=4*(250000*(sl*sl)+d*d)) (by omega) (by omega);obtain⟨w,w1,p,C⟩:=qtn (y:=250000*(sl*sl)+d*d) (by omega) (by omega);have x:=qrF w1 o l;have F:=o.pos;have f:=w1.pos;have a:0≤(if mode=1∧v*v<4*(250000*(sl*sl)+d*d) then v+1 else v)∧(if mode=1∧v*v<4*(250000*(sl*sl)+d*d) then v+1 else v)≤1000*3000000:=by split<;>omega
 refine⟨_,(qqI (b:=1000) (mode:=mode) (M:=3000000) (by omega) a.1 a.2).1,?_,?_⟩
 ·rw[e1];exact Ev.bind B (Ev.bind ⟨0,fun n _=>qjV (by omega) (by omega) (by omega)⟩ .done)
 ·rw[x];unfold qiO;rw[s];refine Ev.bind C ?_;have D:w*w≤3000000000*3000000000:=Ja p p f (by omega);have u:=jT f f;have t:(fun n=>qe7 n w 500 mode)=fun _=>V (divI w 500 mode):=by
   funext n
   rw[qqn (m:=0),qjV (by omega) (by omega) (by omega)]
  have i:=congrFun t;simp only[wO (w*w),jE f,wO (w / 500),wO (w / 500+1),i,jd];rcases l with rfl|rfl
  ·rw[if_neg (by omega)];exact .done
  ·by_cases c:w*w<250000*(sl*sl)+d*d
   ·rw[if_pos ⟨rfl,c⟩,decide_eq_true c];exact .done
   ·rw[if_neg fun h=>c h.2,decide_eq_false c];exact .done
theorem qre {t:qO}(h:TbOk t∧∀ k,0≤at0 t.Bi k)(sl ld mode:Int):∃ r:Int,0≤r∧r≤1000000∧Ev (fun n=>qgS n t sl ld mode) r∧Ev (fun n=>qdM n t sl ld mode) r:=by
 obtain⟨S,D,D0,S1,_,_,_,S0,a⟩:=quM h.1 sl ld;obtain⟨b,r1⟩:=qqI (mode:=mode) D0 (S0 h.2) S1;exact⟨_,b,r1,a mode⟩
theorem qr6 {b:qe}{ex:List Int}{x:ql}{j net:Nat}(jl:j<(places b.Aa).length)(c:(gt (places b.Aa) j).net=(net:Int))(a:W64 (x.To.tdiv 2)=(j:Int))(n:Nat):qeY n (V (viewE b ex)) x=V (net:Int):=by
 unfold qeY;show(idx (places b.Aa) (W64 (x.To.tdiv 2))).bind _=_;rw[a,qw jl];exact congrArg V c
theorem qty {b:qe}{ex:List Int}(h:blockB b=true){x:ql}{i j m net a:Nat}(c:CLk b x i j m net a)(n:Nat):qgb n (V (viewE b ex)) x=V (gt (cellAt b (i:Int)).Au a):=by
 obtain⟨⟨d,c1⟩,_,_⟩:=qha (qao h) c.il;unfold qgb;show(idx (places b.Aa) (W64 (x.To.tdiv 2))).bind (fun f=>(idx b.Aa.Ab f.instance_).bind fun g=>(idx b.Ap.Aq g.Bt).bind fun k=>(idx k.Au x.Bx).bind fun l=>V l)=_;rw[c.half,qw c.jl,jd,c.inst,qw c.il,jd,qfM d c1,jd,c.ix];show(idx (cellAt b (i:Int)).Au (a:Int)).bind _=_;rw[qw c.al];rfl
theorem qpR {b:qe}(h:blockB b=true){x:ql}{i j m net a:Nat}(c:CLk b x i j m net a):Ev (fun n=>qi4 n b x) (gt (cellAt b (i:Int)).Au a,load0 b net):=by
 have d:=qao h;have s:=qW d;obtain⟨⟨f,c1⟩,_,_⟩:=qha d c.il;have r:idx ((places b.Aa).map toSp) (j:Int)=V (toSp (gt (places b.Aa) j)):=by
  refine qhd ?_;rw[List.getElem?_map,jn c.jl,qef c.jl];rfl
 have o:=qlb h c.nl;have p:=(qbw h c.nl).lo;have g:(toSp (gt (places b.Aa) j)).instance_=(i:Int):=c.inst;have k:(toSp (gt (places b.Aa) j)).net=(net:Int):=c.net_;have l:idx (gt b.Ap.Aq (gt b.Aa.Ab i).Bt.toNat).Au (a:Int)=V (gt (cellAt b (i:Int)).Au a):=qw c.al;unfold qi4;refine Ev.bind (qf3 s) ?_;simp only[c.half,r,jd,g,k,qw c.il,qfM f c1,c.ix,l];refine Ev.bind (qnZ h c.nl) ?_;rw[show idx (loadsL b net) (0:Int)=V (load0 b net) from qw (j:=0) (by omega)];exact .done
theorem qpP {b:qe}(h:blockB b=true){x:ql}{j net k:Nat}(a:WLk b x j net k):Ev (fun n=>qiW n b x) (net:Int):=by
 have f:=qW (qao h);have d:idx ((places b.Aa).map toSp) (j:Int)=V (toSp (gt (places b.Aa) j)):=by
  refine qhd ?_;rw[List.getElem?_map,jn a.jl,qef a.jl];rfl
 have c:(toSp (gt (places b.Aa) j)).net=(net:Int):=a.net_;unfold qiW;refine Ev.bind (qf3 f) ?_;simp only[a.half,d,jd,c];exact .done
theorem qqj {b:qe}{c:qx}(ex:List Int)(h:blockB b=true)(L:cornerB c=true){k:Nat}(N:k<(linksL b).length){sl mode:Int}(s0:0≤sl)(s1:sl≤1000000)(X:mode=0∨mode=1) :
  (∃ D:Int,Ev (fun n=>qdw n b c (gt (linksL b) k) sl mode) D∧Ev (fun n=>qcr n (V (viewE b ex)) c (k:Int) sl mode) D) ∧
  ∃ S:Int,0≤S∧S≤1000000∧Ev (fun n=>qec n b (gt (linksL b) k) sl mode) S∧Ev (fun n=>qbi n (V (viewE b ex)) (k:Int) sl mode) S:=by
 have t:idx (viewE b ex).links (k:Int)=V (gt (linksL b) k):=qw N;obtain⟨d,_⟩:=qhD h (qjS N);generalize gt (linksL b) k=x at d t;rcases d with⟨i,j,m,net,a,d⟩|⟨j,net,q,d⟩
 ·have l:=qr6 (ex:=ex) d.jl d.net_ d.half;have o:=qty (ex:=ex) h d;have s:idx (viewE b ex).loads (net:Int)=V (load0 b net):=qh5 (f:=load0 b) d.nl;obtain⟨f,T,A,H,F⟩:=qp8 L (kind:=x.Bc) (mode:=mode);have z:m<(gt (cellAt b (i:Int)).Au a).Bs.length:=by rw[d.d2];exact d.ml
  have I:m<(gt (cellAt b (i:Int)).Au a).Bd.length:=by rw[d.s2];exact d.ml
  obtain⟨r,r0,r1,rs,ri⟩:=qre (d.dt _ (qjS z)) sl (load0 b net) mode;obtain⟨u,O,u1,K,J⟩:=qre (d.st _ (qjS I)) sl (load0 b net) mode;obtain⟨c1,y⟩:=qqV (mode:=mode) r0 (by omega) (show 0≤f by omega) A;have g:(x.Bc==1)=true:=by rw[d.kind];rfl
  refine⟨⟨divI (r*f) 1000 mode,?_,?_⟩,⟨u,O,u1,?_,?_⟩⟩
  ·unfold qdw;refine Ev.tt g (Ev.bind (qpR h d) ?_);simp only[d.mod,qw z,jd,H];exact Ev.bind rs (Ev.bind ⟨0,fun n _=>c1 n⟩ .done)
  ·unfold qcr;simp only[jd,t,l,s,o,d.mod,qw z,F];exact Ev.tt g (Ev.bind ri (Ev.bind ⟨0,fun n _=>y n⟩ .done))
  ·unfold qec;refine Ev.tt g (Ev.bind (qpR h d) ?_);simp only[d.mod,qw I,jd];exact Ev.bind K .done
  ·unfold qbi;simp only[jd,t,l,s,o,d.mod,qw I];refine Ev.tt g (Ev.bind J (Ev.now ?_));rw[if_neg (by omega)]
 ·have l:=qr6 (ex:=ex) d.jl d.net_ d.half;have p:idx (viewE b ex).delays (net:Int)=V (exactL b net):=qh5 (f:=exactL b) d.nl;have B:(exactL b net).length=(gt b.Af net).Bj.length:=by unfold exactL;rw[jx]
  have v:q<(exactL b net).length:=by rw[B];exact d.kl
  obtain⟨P,x1⟩:=qoV h d.nl d.kl;obtain⟨f,T,A,H,F⟩:=qp8 L (kind:=x.Bc) (mode:=mode);have Q:=fun n=>qjV (n:=n) (a:=gt (exactL b net) q) (b:=1000) (mode:=mode) (by omega) (by omega) (by omega);obtain⟨e,p1⟩:=qqI (a:=gt (exactL b net) q) (b:=1000) (mode:=mode) (M:=344000) (by omega) P (by omega);obtain⟨c1,y⟩:=qqV (mode:=mode) e (by omega) (show 0≤f by omega) A;have g:(x.Bc==1)=false:=by rw[d.kind];rfl
  have hi:idx ((exactL b net).map fun x=>divI x 1000 mode) (q:Int)=V (divI (gt (exactL b net) q) 1000 mode):=by
   rw[qw (by rw[jx];exact v),qnR v]
  obtain⟨u,O,K,J⟩:=qsX s0 s1 P x1 X;refine⟨⟨divI (divI (gt (exactL b net) q) 1000 mode*f) 1000 mode,?_,?_⟩,⟨if u<1000000 then u else 1000000,by split<;>omega,by split<;>omega,?_,?_⟩⟩
  ·unfold qdw;refine Ev.ff g (Ev.bind (qpP h d) (Ev.bind (qnz h d.nl) ?_));simp only[d.ix,hi,jd,H];exact Ev.bind ⟨0,fun n _=>c1 n⟩ .done
  ·unfold qcr;simp only[jd,t,l,p,d.ix,qw v,F];refine Ev.ff g (Ev.bind (b:=divI (gt (exactL b net) q) 1000 mode) ⟨0,fun n _=>(qqn (m:=0)).trans (Q 0)⟩ (Ev.bind ⟨0,fun n _=>y n⟩ .done))
  ·have Y:=qbw h d.nl;have C:=Y.sin q d.kl;have W:=qlZ h d.nl;have R:gt (exactL b net) q=gt (delaysL b net) (at0 (gt b.Af net).Bj q).toNat:=by
    unfold exactL;rw[qef (by rw[jx];exact d.kl),List.getElem_map,qlL d.kl]
   unfold qec qk5;refine Ev.ff g (Ev.bind (qpP h d) ?_);simp only[d.ix,qw d.nl,jd,qas d.kl];refine Ev.bind (b:=u) (Ev.bind (qm0 h d.nl) ?_) .done;rw[qfM C.1 (show at0 (gt b.Af net).Bj q<((delaysL b net).length:Int) by omega)];simp only[jd];rw[←R];exact K
  ·unfold qbi;simp only[jd,t,l,p,d.ix,qw v];refine Ev.ff g (Ev.bind J (Ev.now ?_))
   congr 1
   split<;>split<;>omega
theorem qoE {b:qe}{c:qx}(h:blockB b=true)(g:cornerB c=true){k:Nat}(i:k<(linksL b).length){sl mode:Int}(s0:0≤sl)(s1:sl≤1000000)(l:mode=0∨mode=1) :
  (∃ D:Int,Ev (fun n=>qdw n b c (gt (linksL b) k) sl mode) D∧∀ ex,Ev (fun n=>qcr n (V (viewE b ex)) c (k:Int) sl mode) D) ∧
  ∃ S:Int,0≤S∧S≤1000000∧Ev (fun n=>qec n b (gt (linksL b) k) sl mode) S∧∀ ex,Ev (fun n=>qbi n (V (viewE b ex)) (k:Int) sl mode) S:=by
 obtain⟨⟨D,m,_⟩,⟨S,a,c',d,_⟩⟩:=qqj [] h g i s0 s1 l;refine⟨⟨D,m,fun ex=>?_⟩,⟨S,a,c',d,fun ex=>?_⟩⟩
 ·obtain⟨⟨D',e1,f⟩,_⟩:=qqj ex h g i s0 s1 l;rw[m.uniq e1];exact f
 ·obtain⟨_,⟨S',_,_,e1,f⟩⟩:=qqj ex h g i s0 s1 l;rw[d.uniq e1];exact f

def slR (s:qj):Prop:=(0≤s.Ar∧s.Ar≤1000000)∧(0≤s.Bg∧s.Bg≤1000000)
def SpansS (b:qe)(c:qx)(f:Nat→qj→qj×qj):Prop:=∀ k s,k<(linksL b).length→slR s→slR (f k s).2∧Ev (fun n=>qhg n b c (gt (linksL b) k) s) (f k s)
def SpansI (b:qe)(c:qx)(ex:List Int)(f:Nat→qj→qj×qj):Prop:=∀ k s,k<(linksL b).length→slR s→slR (f k s).2∧Ev (fun n=>qgd n (V (viewE b ex)) c (k:Int) s) (f k s)
def exK (b:qe)(ex:List Int)(k:Nat):Int:=bif (gt (linksL b) k).Bc==2 then gt ex (gt (places b.Aa) ((gt (linksL b) k).To / 2).toNat).net.toNat else 0
def wideS (e:Int)(s:qj):qj:=⟨W64 (s.Ar-e),W64 (s.Bg+e)⟩
def wideF (b:qe)(ex:List Int)(f:Nat→qj→qj×qj)(k:Nat)(s:qj):qj×qj:=bif decide (0<ex.length)&&((gt (linksL b) k).Bc==2) then(wideS (exK b ex k) (f k s).1,(f k s).2) else f k s
theorem quh {b:qe}{c:qx}(h:blockB b=true)(D:cornerB c=true):∃ f,SpansS b c f∧∀ ex:List Int,ex.length=0∨ex.length=b.Af.length→SpansI b c ex (wideF b ex f):=by
 have C:∀ x:Nat×qj,∃ r:qj×qj,x.1<(linksL b).length→slR x.2→slR r.2∧Ev (fun n=>qhg n b c (gt (linksL b) x.1) x.2) r∧∀ ex:List Int,ex.length=0∨ex.length=b.Af.length→Ev (fun n=>qgd n (V (viewE b ex)) c (x.1:Int) x.2) (wideF b ex (fun _ _=>r) x.1 x.2):=by
  rintro⟨k,s⟩;by_cases d:k<(linksL b).length∧slR s
  ·obtain⟨d,⟨e0,e1⟩,⟨J,K⟩⟩:=d;obtain⟨⟨l,p1,q1⟩,⟨t,a1,b1,v1,w1⟩⟩:=qoE h D d e0 e1 (mode:=0) (.inl Z);obtain⟨⟨d2,X,q2⟩,⟨u,a2,b2,v2,w2⟩⟩:=qoE h D d e0 e1 (mode:=1) (.inr Z);obtain⟨⟨o,Y,q3⟩,⟨v,a3,b3,v3,w3⟩⟩:=qoE h D d J K (mode:=0) (.inl Z);obtain⟨⟨p,e,q4⟩,⟨y,a4,b4,v4,w4⟩⟩:=qoE h D d J K (mode:=1) (.inr Z);refine⟨(⟨if o<l then o else l,if p > d2 then p else d2⟩,⟨if v<t then v else t,if y > u then y else u⟩),fun _ _=>⟨⟨?_,?_⟩,?_,fun ex B=>?_⟩⟩
   ·show 0≤(if v<t then v else t)∧(if v<t then v else t)≤1000000;split<;>omega
   ·show 0≤(if y > u then y else u)∧(if y > u then y else u)≤1000000;split<;>omega
   ·unfold qhg;exact Ev.bind p1 (Ev.bind X (Ev.bind v1 (Ev.bind v2 (Ev.bind Y (Ev.bind e (Ev.bind v3 (Ev.bind v4 .done)))))))
   ·unfold qgd;refine Ev.bind (q1 ex) (Ev.bind (q3 ex) (Ev.bind (q2 ex) (Ev.bind (q4 ex) ?_)));have W:idx (viewE b ex).links (k:Int)=V (gt (linksL b) k):=qw d;have g:(viewE b ex).extras=ex:=rfl;simp only[jd,W,g];unfold wideF;have fin:∀ r:Int×Int,Ev (fun n=>(qbi n (V (viewE b ex)) (k:Int) s.Ar 0).bind fun L=>(qbi n (V (viewE b ex)) (k:Int) s.Bg 0).bind fun M=>(qbi n (V (viewE b ex)) (k:Int) s.Ar 1).bind fun N=>(qbi n (V (viewE b ex)) (k:Int) s.Bg 1).bind fun O=>
      V ((⟨r.1,r.2⟩:qj),(⟨if M<L then M else L,if O > N then O else N⟩:qj))) ((⟨r.1,r.2⟩:qj),(⟨if v<t then v else t,if y > u then y else u⟩:qj)):=fun r=>Ev.bind (w1 ex) (Ev.bind (w3 ex) (Ev.bind (w2 ex) (Ev.bind (w4 ex) .done)))
    rw[show decide ((ex.length:Int) > 0)=decide (0<ex.length) by rw[decide_eq_decide];omega];cases hl:decide (0<ex.length)
    ·exact Ev.bind (b:=false) (Ev.now Z) (Ev.bind (b:=(if o<l then o else l,if p > d2 then p else d2)) (Ev.now Z) (fin _))
    ·cases hkd:(gt (linksL b) k).Bc==2
     ·exact Ev.bind (b:=false) (Ev.now Z) (Ev.bind (b:=(if o<l then o else l,if p > d2 then p else d2)) (Ev.now Z) (fin _))
     ·obtain⟨H,_⟩:=qhD h (qjS d);rcases H with⟨i,j,m,net,a,g⟩|⟨j,net,q,g⟩
      ·rw[g.kind] at hkd;cases hkd
      ·have S:=qr6 (ex:=ex) g.jl g.net_ g.half;have I:net<ex.length:=by
        have:=of_decide_eq_true hl;have:=g.nl;omega
       have R:=(qhD h (qjS d)).2.2;have T:=qaE (qW (qao h));have Q:((gt (linksL b) k).To / 2).toNat=j:=by
        have:=g.half;rw[jE R.1,qU (by omega) (by omega)] at this;omega
       have P:exK b ex k=gt ex net:=by
        unfold exK;rw[hkd,Q,g.net_,jr]
        rfl
       refine Ev.bind (b:=true) (Ev.now Z) (Ev.bind (b:=(W64 ((if o<l then o else l)-gt ex net),W64 ((if p > d2 then p else d2)+gt ex net))) ?_ ?_)
       ·simp only[S,jd,qw I];exact .done
       ·rw[P];exact fin _
  ·exact⟨(s,s),fun z A=>absurd ⟨z,A⟩ d⟩
 obtain⟨f,F⟩:=Classical.axiomOfChoice C;exact⟨fun k s=>f (k,s),fun k s z A=>⟨(F (k,s) z A).1,(F (k,s) z A).2.1⟩,fun ex B k s z A=>⟨by
  have:=(F (k,s) z A).1;unfold wideF;cases decide (0<ex.length)&&((gt (linksL b) k).Bc==2)<;>exact this,(F (k,s) z A).2.2 ex B⟩⟩
theorem qtg {b:qe}{f:Nat→qj→qj×qj}:wideF b [] f=f:=rfl
def zSp:qj:=⟨0,0⟩
def zSrc:qi:=⟨0,zSp,zSp⟩
def hullS (s t:qj):qj:=⟨if t.Ar<s.Ar then t.Ar else s.Ar,if t.Bg > s.Bg then t.Bg else s.Bg⟩
theorem qpV {s t:qj}:(⟨if s.Ar<t.Ar then s.Ar else t.Ar,if s.Bg > t.Bg then s.Bg else t.Bg⟩:qj)=hullS s t:=by
 unfold hullS
 congr 1
 ·split<;>split<;>omega
 ·split<;>split<;>omega
def plusS (s t:qj):qj:=⟨W64 (s.Ar+t.Ar),W64 (s.Bg+t.Bg)⟩
def joinS (node:Int)(s:Bool×qi)(a sl:qj):Bool×qi:=bif s.1 then(true,⟨node,hullS s.2.Ai a,hullS s.2.Bd sl⟩) else(true,⟨node,a,sl⟩)
def frN (ls:List ql)(k:Nat):Nat:=(gt ls k).Bk.toNat
def stepS (f:Nat→qj→qj×qj)(ls:List ql)(t:qB)(node:Int)(s:Bool×qi)(k:Nat):Bool×qi:=
 bif gt t.Bf (frN ls k) then joinS node s (plusS (gt t.Ai (frN ls k)) (f k (gt t.Bd (frN ls k))).1) (f k (gt t.Bd (frN ls k))).2 else s
def toQ (ls:List ql)(lv:List Bool)(node:Int)(k:Nat):Bool:=lvL lv k&&(toL ls k==node)
def srcO (xs:List qi)(node:Int):Option qi:=xs.find? fun s=>s.Bm==node
def srcV (o:Option qi):Bool×qi:=match o with|some y=>(true,y)|none=>(false,zSrc)
def ndS (f:Nat→qj→qj×qj)(ls:List ql)(lv:List Bool)(t:qB)(node:Int)(s0:Bool×qi):Nat→Bool×qi
 | 0=>s0
 | k+1=>bif toQ ls lv node k then stepS f ls t node (ndS f ls lv t node s0 k) k else ndS f ls lv t node s0 k
theorem qt7 {f:Nat→qj→qj×qj}{ls:List ql}{lv:List Bool}{t:qB}{node:Int}{s0:Bool×qi}{j:Nat}:(selN (toQ ls lv node) j).foldl (stepS f ls t node) s0=ndS f ls lv t node s0 j:=by
 induction j with
 | zero=>rfl
 | succ j ih=>
  rw[qjz,List.foldl_append,ih];show _=bif toQ ls lv node j then stepS f ls t node (ndS f ls lv t node s0 j) j else ndS f ls lv t node s0 j;cases toQ ls lv node j<;>rfl
structure TmOk (t:qB)(M:Nat):Prop where
 r:t.Bf.length=M
 a:t.Ai.length=M
 s:t.Bd.length=M
 sl:∀ k,k<M→slR (gt t.Bd k)
structure SrcOk (xs:List qi):Prop where
 len:xs.length≤1048576
 inc:∀ j i,i<j→j<xs.length→(gt xs i).Bm<(gt xs j).Bm
 sl:∀ x,x ∈ xs→slR x.Bd
theorem qrp {xs:List qi}{node:Int}(g:xs.length≤1048576):Ev (fun n=>qhk n xs node) ((srcV (srcO xs node)).2,(srcV (srcO xs node)).1):=by
 have c:Ev (fun n=>qaI n xs node) (ixL (fun s=>s.Bm==node) xs):=
  qga (fin:=(xs.length:Int)) (Lf:=qX xs node) (xs:=xs) (pf:=fun n x=>qjb n x node) (fun _ _=>.done)
   (fun n=>by simp only[qX,qq (je _),cond_false])
   (fun n j x b=>by
    have a:=(List.getElem?_eq_some_iff.1 b).1;simp only[qX,qn a,cond_true,qhd b,jd,wS j])
   (fun n=>by unfold qaI;congr 1;funext o;cases o<;>rfl)
 unfold qhk;refine Ev.bind c ?_;unfold ixL srcO;cases hf:xs.findIdx? (fun s=>s.Bm==node) with
 | none=>
  have:xs.find? (fun s=>s.Bm==node)=U:=by
   rw[List.find?_eq_none];intro x b;have:=List.findIdx?_eq_none_iff.1 hf x b;simpa using this
  rw[this];exact Ev.ff Z .done
 | some j=>
  obtain⟨a,f,d⟩:=List.findIdx?_eq_some_iff_getElem.1 hf;have:xs.find? (fun s=>s.Bm==node)=V xs[j]:=by
   rw[List.find?_eq_some_iff_getElem];exact⟨f,j,a,rfl,fun i hi=>by have:=d i hi;simpa using this⟩
  rw[this];refine Ev.tt (show decide ((j:Int) ≥ 0)=true from decide_eq_true (by omega)) ?_;show Ev (fun n=>(idx xs (j:Int)).bind _) _;rw[qbe a];exact .done
theorem qmi {xs:List qi}{node:Int}{y:qi}(h:srcO xs node=V y):y.Bm=node∧y ∈ xs:=by
 have a:=List.find?_some h;exact⟨by simpa using a,List.mem_of_find?_eq_some h⟩
theorem quD {xs:List qi}{node:Int}(h:SrcOk xs) :
  Ev (fun n=>qc4 xs node n 0 0 0 0 0 false 0) ((srcV (srcO xs node)).2.Bm,(srcV (srcO xs node)).2.Ai.Ar,(srcV (srcO xs node)).2.Ai.Bg,(srcV (srcO xs node)).2.Bd.Ar,(srcV (srcO xs node)).2.Bd.Bg,(srcV (srcO xs node)).1,(xs.length:Int)):=by
 have g:=h.len;have:=loopF (τ:=Bool×qi) (Lf:=fun n s j=>qc4 xs node n s.2.Bm s.2.Ai.Ar s.2.Ai.Bg s.2.Bd.Ar s.2.Bd.Bg s.1 j) (S:=fun j=>srcV (srcO (xs.take j) node)) (len:=xs.length)
  (fin:=((srcV (srcO xs node)).2.Bm,(srcV (srcO xs node)).2.Ai.Ar,(srcV (srcO xs node)).2.Ai.Bg,(srcV (srcO xs node)).2.Bd.Ar,(srcV (srcO xs node)).2.Bd.Bg,(srcV (srcO xs node)).1,(xs.length:Int)))
  (fun n=>by simp only[qc4,qq (je _),cond_false,jC])
  (fun j a X c=>by
   simp only[qc4,qn a,cond_true,qw a,jd,wS j];have e:srcO (xs.take (j+1)) node=(srcO (xs.take j) node).or (bif (gt xs j).Bm==node then V (gt xs j) else U):=by
    unfold srcO;rw[jw a,List.find?_append,←qef a]
    congr 1
   cases hq:(gt xs j).Bm==node
   ·rw[hq] at e;have e:srcO (xs.take (j+1)) node=srcO (xs.take j) node:=by rw[e];cases srcO (xs.take j) node<;>rfl
    rw[e] at c;exact c
   ·rw[hq] at e;have d:srcO (xs.take j) node=U:=by
     unfold srcO;rw[List.find?_eq_none];intro x f b;obtain⟨i,hi,rfl⟩:=List.mem_iff_getElem.1 f;rw[jB] at hi;rw[Jb,←qef (by omega)] at b;have:=h.inc j i (by omega) a;simp only[beq_iff_eq] at hq b;omega
    have e:srcO (xs.take (j+1)) node=V (gt xs j):=by rw[e,d];rfl
    rw[e] at c;exact c)
 exact this
theorem qks {ls:List ql}{M:Nat}(h:LkOk ls M){k:Nat}(a:k<ls.length):(gt ls k).Bk=(frN ls k:Int)∧frN ls k<M:=by
 have b:=h.fr0 k a;have c:=h.fr1 k a;unfold frN;omega
section
variable {b:qe}{c:qx}{ex:List Int}{f:Nat→qj→qj×qj}{lv:List Bool}{t:qB}{xs:List qi}{node:Int}
theorem qt5 (h:blockB b=true)(o:SpansS b c f)(u:lv.length=(linksL b).length)(i:TmOk t (2*(places b.Aa).length))(r:SrcOk xs) :
  Ev (fun n=>qh4 n b c (linksL b) lv xs t node) (ndS f (linksL b) lv t node (srcV (srcO xs node)) (linksL b).length):=by
 have k:=qiJ h;have p:=k.len;have m:=loopF (τ:=Bool×qi) (Lf:=fun n s j=>qc1 b c (linksL b) lv t node n s.2.Bm s.2.Ai.Ar s.2.Ai.Bg s.2.Bd.Ar s.2.Bd.Bg s.1 j) (S:=fun j=>ndS f (linksL b) lv t node (srcV (srcO xs node)) j) (len:=(linksL b).length)
  (fin:=(fun s:Bool×qi=>(s.2.Bm,s.2.Ai.Ar,s.2.Ai.Bg,s.2.Bd.Ar,s.2.Bd.Bg,s.1,((linksL b).length:Int))) (ndS f (linksL b) lv t node (srcV (srcO xs node)) (linksL b).length))
  (fun n=>by simp only[qc1,qq (je _),cond_false])
  (fun j g X a=>by
   obtain⟨e1,d⟩:=qks k g;have l:ndS f (linksL b) lv t node (srcV (srcO xs node)) (j+1)=bif toQ (linksL b) lv node j then stepS f (linksL b) t node (ndS f (linksL b) lv t node (srcV (srcO xs node)) j) j else ndS f (linksL b) lv t node (srcV (srcO xs node)) j:=rfl;rw[l] at a;generalize ndS f (linksL b) lv t node (srcV (srcO xs node)) j=s at a ⊢;simp only[qc1,qn g,cond_true,qw g,qw (show j<lv.length by omega),jd,e1,qw (show frN (linksL b) j<t.Bf.length by rw[i.r];exact d),qw (show frN (linksL b) j<t.Ai.length by rw[i.a];exact d),qw (show frN (linksL b) j<t.Bd.length by rw[i.s];exact d),wS j];unfold toQ lvL toL at a;cases h1:gt lv j
   ·rw[h1] at a;exact a
   rw[h1,jz] at a;cases h2:(gt (linksL b) j).To==node
   ·rw[h2] at a;simp only[bne,h2];exact a
   rw[h2] at a;simp only[bne,h2];unfold stepS at a;cases h3:gt t.Bf (frN (linksL b) j)
   ·rw[h3] at a;exact a
   rw[h3] at a;simp only[cond_true] at a;obtain⟨_,s1⟩:=o j _ g (i.sl _ d);refine Ev.bind (b:=false) (Ev.now Z) (Ev.ff Z (Ev.bind s1 ?_));generalize f j (gt t.Bd (frN (linksL b) j))=q at a ⊢;unfold joinS at a;cases h4:s.1
   ·rw[h4] at a;exact a
   ·rw[h4] at a;simp only[qjn,jd,cond_true];have a1:=qpV (s:=s.2.Ai) (t:=plusS (gt t.Ai (frN (linksL b) j)) q.1);have a2:=qpV (s:=s.2.Bd) (t:=q.2);simp only[cond_true] at a;rw[←a1,←a2] at a;exact a)
 unfold qh4;exact Ev.bind (quD r) (Ev.bind m .done)
theorem qvd {ls:List ql}{M:Nat}{ps:List Tplace}{lo:List Int}{de:List (List Int)}{ex:List Int}(h:LkOk ls M)(k:lv.length=ls.length):Ev (fun n=>qhl n (grV ls lv ps b lo de ex) node) (ints (selN (toQ ls lv node) ls.length)):=by
 have g:=h.len;have f:Ev (fun n=>qR node ⟨V ⟨b,ps,ls,lo,de,ex⟩,lv⟩ ⟨b,ps,ls,lo,de,ex⟩ n ([]:List Int) 0) (ints (selN (toQ ls lv node) ls.length),(ls.length:Int)):=by
  refine qmd (q:=toQ ls lv node) (Lf:=qR node ⟨V ⟨b,ps,ls,lo,de,ex⟩,lv⟩ ⟨b,ps,ls,lo,de,ex⟩) (len:=ls.length) (by omega) (Ev.succ ?_) (fun j d t i X c a=>?_)
  ·simp only[qR,qq (je _),cond_false];exact .done
  ·simp only[qR,qn d,cond_true,qw d,qw (show j<lv.length by omega),jd,qjd,i,wS j];unfold toQ lvL toL at c a;cases hq:gt lv j
   ·simp only[cond_false];exact a (by rw[hq];rfl)
   ·simp only[cond_true];cases hw:(gt ls j).To==node
    ·simp only[cond_false];exact a (by rw[hq,hw];rfl)
    ·simp only[cond_true];exact c (by rw[hq,hw];rfl)
 unfold qhl qcK grV;simp only[jd];exact Ev.bind (Ev.bind f .done) .done
def fixS (node:Int)(s:Bool×qi):Bool×qi:=bif s.1 then s else(false,⟨node,zSp,zSp⟩)
theorem qtm (h:blockB b=true)(H:SpansI b c ex f)(J:lv.length=(linksL b).length)(u:TmOk t (2*(places b.Aa).length))(N:xs.length≤1048576) :
  Ev (fun n=>qdA n (V ⟨V (viewE b ex),lv⟩) c xs t node) (ndS f (linksL b) lv t node (srcV (srcO xs node)) (linksL b).length):=by
 have x:=qiJ h;have I:=x.len;have C:=qiX (q:=toQ (linksL b) lv node) (j:=(linksL b).length);have K:∀ j,(ndS f (linksL b) lv t node (srcV (srcO xs node)) j).1=true→(ndS f (linksL b) lv t node (srcV (srcO xs node)) j).2.Bm=node:=by
  intro j
  induction j with
  | zero=>
   show(srcV (srcO xs node)).1=true→(srcV (srcO xs node)).2.Bm=node;cases d:srcO xs node with
   | none=>intro e;cases e
   | some y=>exact fun _=>(qmi d).1
  | succ j ih=>
   unfold ndS;cases toQ (linksL b) lv node j
   ·exact ih
   ·simp only[cond_true];unfold stepS;cases gt t.Bf (frN (linksL b) j)
    ·exact ih
    ·simp only[cond_true];unfold joinS;cases (ndS f (linksL b) lv t node (srcV (srcO xs node)) j).1<;>exact fun _=>rfl
 have O:∀ j,(ndS f (linksL b) lv t node (srcV (srcO xs node)) j).1=false→(ndS f (linksL b) lv t node (srcV (srcO xs node)) j).2=zSrc:=by
  intro j
  induction j with
  | zero=>
   show(srcV (srcO xs node)).1=false→(srcV (srcO xs node)).2=zSrc;cases srcO xs node with
   | none=>exact fun _=>rfl
   | some y=>intro e;cases e
  | succ j ih=>
   unfold ndS;cases toQ (linksL b) lv node j
   ·exact ih
   ·simp only[cond_true];unfold stepS;cases gt t.Bf (frN (linksL b) j)
    ·exact ih
    ·simp only[cond_true];unfold joinS;cases (ndS f (linksL b) lv t node (srcV (srcO xs node)) j).1<;>(intro e;cases e)
 have D:∀ (l:List Nat) (s:Bool×qi),(∀ k,k ∈ l→toQ (linksL b) lv node k=true)→l.foldl (fun s k=>fixS node (stepS f (linksL b) t node s k)) (fixS node s)=fixS node (l.foldl (stepS f (linksL b) t node) s):=by
  intro l
  induction l with
  | nil=>intro s _;rfl
  | cons k l ih=>
   intro s L;have e:fixS node (stepS f (linksL b) t node (fixS node s) k)=fixS node (stepS f (linksL b) t node s k):=by
    unfold stepS;obtain⟨s1,s2⟩:=s;cases gt t.Bf (frN (linksL b) k)<;>cases s1<;>rfl
   rw[List.foldl_cons,List.foldl_cons,e];exact ih _ fun P g=>L P (jp _ g)
 have B:=(qpM (τ:=Bool×qi) (xs:=selN (toQ (linksL b) lv node) (linksL b).length) (Lf:=fun n s j=>qbn (V ⟨V (viewE b ex),lv⟩) c t (ints (selN (toQ (linksL b) lv node) (linksL b).length)) n s.1 s.2.Bm s.2.Ai.Ar s.2.Ai.Bg s.2.Bd.Ar s.2.Bd.Bg j)
  (step:=fun s k=>fixS node (stepS f (linksL b) t node s k)) (fin:=fun s=>(s.1,s.2.Bm,s.2.Ai.Ar,s.2.Ai.Bg,s.2.Bd.Ar,s.2.Bd.Bg,((ints (selN (toQ (linksL b) lv node) (linksL b).length)).length:Int))) (fixS node (srcV (srcO xs node))) (fun _ s=>s=fixS node s∧s.2.Bm=node) (by
   constructor
   ·unfold fixS;cases d:(srcV (srcO xs node)).1
    ·rfl
    ·simp only[d,cond_true]
   ·unfold fixS;cases d:srcO xs node with
    | none=>rfl
    | some y=>exact(qmi d).1)
  (fun j s p d=>by
   obtain⟨Q,F⟩:=d;have A:(stepS f (linksL b) t node s (selN (toQ (linksL b) lv node) (linksL b).length)[j]).2.Bm=node:=by
    unfold stepS;cases gt t.Bf (frN (linksL b) (selN (toQ (linksL b) lv node) (linksL b).length)[j])
    ·exact F
    ·unfold joinS;cases s.1<;>rfl
   constructor
   ·unfold fixS;cases d:(stepS f (linksL b) t node s (selN (toQ (linksL b) lv node) (linksL b).length)[j]).1
    ·rfl
    ·simp only[d,cond_true]
   ·unfold fixS;cases d:(stepS f (linksL b) t node s (selN (toQ (linksL b) lv node) (linksL b).length)[j]).1
    ·rfl
    ·exact A)
  (fun n s=>by simp only[qbn,qbt,qq (je _),cond_false])
  (fun j s p d X a=>by
   obtain⟨v,i⟩:=d;have hi:=qkj p;have r:(selN (toQ (linksL b) lv node) (linksL b).length)[j]<(linksL b).length:=(qhh.1 (jo p)).1;generalize (selN (toQ (linksL b) lv node) (linksL b).length)[j]=k at hi r a;obtain⟨e1,m⟩:=qks x r;have M:idx (viewE b ex).links (k:Int)=V (gt (linksL b) k):=qw r;simp only[qbn,qbt,qn p,cond_true,hi,M,jd,e1,qw (show frN (linksL b) k<t.Bf.length by rw[u.r];exact m),qw (show frN (linksL b) k<t.Ai.length by rw[u.a];exact m),qw (show frN (linksL b) k<t.Bd.length by rw[u.s];exact m),wS j];unfold stepS at a;cases h3:gt t.Bf (frN (linksL b) k)
   ·rw[h3] at a;simp only[cond_false] at a;rw[←v] at a;exact a
   rw[h3] at a;simp only[cond_true] at a ⊢;obtain⟨_,s1⟩:=H k _ r (u.sl _ m);refine Ev.bind s1 ?_;generalize f k (gt t.Bd (frN (linksL b) k))=q at a ⊢;simp only[qjL,jd];unfold joinS at a;unfold qfI;cases h4:s.1
   ·rw[h4] at a;simp only[Bool.not_false,cond_true,jd];unfold fixS at a;simp only[cond_false,cond_true] at a;rw[i];exact a
   ·rw[h4] at a;simp only[Ji,cond_false,qim,jd];unfold fixS at a;simp only[cond_true] at a;rw[i];exact a)).1
 rw[D _ _ (fun k g=>(qhh.1 g).2),qt7] at B;unfold qdA;refine Ev.bind (qrp N) ?_;have e0:(bif (srcV (srcO xs node)).1 then(qfI 0 ⟨node,⟨0,0⟩,⟨0,0⟩⟩ false ⟨(srcV (srcO xs node)).2.Ai.Ar,(srcV (srcO xs node)).2.Ai.Bg⟩ ⟨(srcV (srcO xs node)).2.Bd.Ar,(srcV (srcO xs node)).2.Bd.Bg⟩).bind (fun o=>match o with|(x9,x10)=>V (x10,x9.Bm,x9.Ai.Ar,x9.Ai.Bg,x9.Bd.Ar,x9.Bd.Bg)) else V (false,node,(0:Int),(0:Int),(0:Int),(0:Int))) =
   V ((fixS node (srcV (srcO xs node))).1,(fixS node (srcV (srcO xs node))).2.Bm,(fixS node (srcV (srcO xs node))).2.Ai.Ar,(fixS node (srcV (srcO xs node))).2.Ai.Bg,(fixS node (srcV (srcO xs node))).2.Bd.Ar,(fixS node (srcV (srcO xs node))).2.Bd.Bg):=by
  cases d:srcO xs node with
  | none=>rfl
  | some y=>
   have:=(qmi d).1;unfold fixS srcV;simp only[cond_true,this]
   rfl
 refine Ev.bindN e0 (Ev.bind (qvd (ps:=places b.Aa) (lo:=pre (load0 b) b.Af.length) (de:=pre (exactL b) b.Af.length) (ex:=ex) x J) (Ev.bind B ?_));have z:=O (linksL b).length;generalize ndS f (linksL b) lv t node (srcV (srcO xs node)) (linksL b).length=s at z ⊢;unfold fixS;obtain⟨s1,s2⟩:=s;cases s1
 ·have:=z Z;simp only at this;subst this;exact .done
 ·exact .done
end

theorem qgO {b:qe}(h:blockB b=true):Ev (fun n=>qaY n b) ((2*(places b.Aa).length:Nat):Int):=by
 have a:=qW (qao h);have c:=qaE a;unfold qaY;refine Ev.bind (b:=(places b.Aa).map toSp) (qf3 a) (Ev.now ?_);rw[jx,qU (by omega) (by omega)]
 rfl
theorem qm1 {v:Tview}(a:v.places.length≤78)(n:Nat):qb1 n (V v)=V ((2*v.places.length:Nat):Int):=by
 unfold qb1 qed;simp only[jd];rw[qU (by omega) (by omega)]
 rfl
def stepN (xs:List qi)(j:Nat):Bool:=decide (j=0) || decide ((gt xs (j-1)).Bm<(gt xs j).Bm)
def srcB (xs:List qi)(M:Nat):Bool:=allN (fun j=>inI (gt xs j).Bm 0 ((M:Int)-1)&&(stepN xs j&&(spanB (gt xs j).Ai&&slewB (gt xs j).Bd))) xs.length
theorem qo4 {xs:List qi}{j:Nat}(h:j ≠ 0):stepN xs j=decide ((gt xs (j-1)).Bm<(gt xs j).Bm):=by unfold stepN;rw[decide_eq_false h,Bool.false_or]
theorem qpl {b:qe}{xs:List qi}(h:blockB b=true)(m:xs.length≤1048576):Ev (fun n=>qge n b xs) (srcB xs (2*(places b.Aa).length)):=by
 have k:=qaE (qW (qao h));have e:=qgO h;obtain⟨M,g⟩:∃ M,M=2*(places b.Aa).length:=⟨_,rfl⟩;rw[←g] at e ⊢;have l:M≤156:=by omega
 have i:Ev (fun n=>qbY xs (M:Int) n 0) (bif srcB xs M then .nxt (xs.length:Int) else .ret false):=by
  refine qeA (Lf:=qbY xs (M:Int)) (len:=xs.length) (Ev.succ (by simp only[qbY,qq (je _),cond_false];exact .done)) (fun j f X d=>Ev.succ ?_);simp only[qbY,qn f,cond_true,qw f,jd,qcB,qo6,qqN,wS j,wO ((M:Int)-1)];cases inI (gt xs j).Bm 0 ((M:Int)-1)
  ·exact .done
  refine Ev.ff Z ?_;by_cases c:j=0
  ·subst c;refine Ev.ff Z ?_;show Ev _ (bif (stepN xs 0&&_) then X else _);rw[show stepN xs 0=true from rfl];show Ev (fun n=>bif !spanB (gt xs 0).Ai then _ else bif !slewB (gt xs 0).Bd then _ else _) _;cases spanB (gt xs 0).Ai
   ·exact .done
   ·cases slewB (gt xs 0).Bd
    ·exact .done
    ·exact d
  ·refine Ev.tt (decide_eq_true (by omega)) ?_;rw[show(j:Int)-1=((j-1:Nat):Int) by omega,qU (by omega) (by omega),qw (show j-1<xs.length by omega),qo4 c];simp only[jd];by_cases a:(gt xs (j-1)).Bm<(gt xs j).Bm
   ·rw[decide_eq_true a];refine Ev.ff (decide_eq_false (by omega)) ?_;show Ev (fun n=>bif !spanB (gt xs j).Ai then _ else bif !slewB (gt xs j).Bd then _ else _) _;cases spanB (gt xs j).Ai
    ·exact .done
    ·cases slewB (gt xs j).Bd
     ·exact .done
     ·exact d
   ·rw[decide_eq_false a];exact Ev.tt (decide_eq_true (by omega)) .done
 unfold qge;refine Ev.bind e (Ev.bind i ?_);cases srcB xs M<;>exact .done
theorem qps {v:Tview}{xs:List qi}(h:v.places.length≤78)(k:xs.length≤1048576):Ev (fun n=>qdD n (V v) xs) (srcB xs (2*v.places.length)):=by
 have e:=qm1 h;obtain⟨M,f⟩:∃ M,M=2*v.places.length:=⟨_,rfl⟩;rw[←f] at e ⊢;have i:M≤156:=by omega
 have g:Ev (fun n=>qaX (V v) xs n 0) (bif srcB xs M then .nxt (xs.length:Int) else .ret false):=by
  refine qeA (Lf:=qaX (V v) xs) (len:=xs.length) (Ev.succ (by simp only[qaX,qq (je _),cond_false];exact .done)) (fun j d X c=>Ev.succ ?_);simp only[qaX,qn d,cond_true,qw d,jd,qiI,e,qdL,qnE,qrc,wS j,wO ((M:Int)-1)];cases inI (gt xs j).Bm 0 ((M:Int)-1)
  ·exact .done
  refine Ev.ff Z ?_;show Ev (fun n=>bif !spanB (gt xs j).Ai then _ else bif !slewB (gt xs j).Bd then _ else _) _;rw[jz,Bool.and_comm];cases spanB (gt xs j).Ai
  ·exact .done
  ·cases slewB (gt xs j).Bd
   ·exact .done
   ·refine Ev.ff Z (Ev.ff Z ?_);rw[jz,jz];by_cases b:j=0
    ·subst b;exact Ev.ff Z c
    ·refine Ev.tt (decide_eq_true (by omega)) ?_;rw[show(j:Int)-1=((j-1:Nat):Int) by omega,qU (by omega) (by omega),qw (show j-1<xs.length by omega),qo4 b];simp only[jd];by_cases a:(gt xs (j-1)).Bm<(gt xs j).Bm
     ·rw[decide_eq_true a];exact Ev.ff (decide_eq_false (by omega)) c
     ·rw[decide_eq_false a];exact Ev.tt (decide_eq_true (by omega)) .done
 unfold qdD;refine Ev.bind g ?_;cases srcB xs M<;>exact .done
theorem qqz {xs:List qi}{M:Nat}(f:xs.length≤1048576)(h:srcB xs M=true):SrcOk xs:=by
 unfold srcB at h;rw[qaA] at h;refine⟨f,fun j=>?_,fun x g=>?_⟩
 ·induction j with
  | zero=>intro i hi _;omega
  | succ j ih=>
   intro i hi d;have a:=h (j+1) d;rw[qo4 (by omega)] at a;simp only[jf,decide_eq_true_eq,Nat.add_sub_cancel] at a;have c:=a.2.1;by_cases b:i=j
   ·rw[b];exact c
   ·have:=ih i (by omega) (by omega);omega
 ·obtain⟨i,hi,rfl⟩:=List.mem_iff_getElem.1 g;have a:=h i hi;rw[←qef hi];simp only[jf] at a;have:=a.2.2.2;unfold slewB at this;simp only[jf,decide_eq_true_eq] at this;exact⟨⟨this.1,by omega⟩,by omega,this.2.2⟩
section
variable {L:Nat}{fr to:Nat→Int}{lv:Nat→Bool}{n:Nat}
def OrdOk (L:Nat)(fr to:Nat→Int)(lv:Nat→Bool)(n:Nat)(R:List Nat):Prop:=∀ l1 k l2,R=l1++k::l2→k<n∧k ∉ l1∧inN L fr to lv l1 k=0
theorem OrdOk.snoc {R:List Nat}{k:Nat}(h:OrdOk L fr to lv n R)(f:nxtN L fr to lv n R=V k):OrdOk L fr to lv n (R++[k]):=by
 intro b a l2 e;rcases List.eq_nil_or_concat l2 with rfl|⟨l2',z,rfl⟩
 ·obtain⟨rfl,d⟩:=List.append_inj' e Z;obtain rfl:k=a:=by simpa using d
  exact qnY f
 ·have c:R++[k]=(b++a::l2')++[z]:=by rw[e];simp
  obtain⟨e1,_⟩:=List.append_inj' c Z;exact h b a l2' e1
theorem qu0:∀ m R R',OrdOk L fr to lv n R→ordN L fr to lv n m R=V R'→OrdOk L fr to lv n R':=by
 intro m
 induction m with
 | zero=>intro R R' h e;obtain rfl:=Option.some.inj e;exact h
 | succ m ih=>
  intro R R' h e;unfold ordN at e;cases hn:nxtN L fr to lv n R with
  | none=>rw[hn] at e;cases e
  | some k=>
   rw[hn] at e;exact ih _ _ (h.snoc hn) e
theorem OrdOk.at {R:List Nat}(h:OrdOk L fr to lv n R){j:Nat}(a:j<R.length):R[j]<n∧R[j] ∉ R.take j∧inN L fr to lv (R.take j) R[j]=0:=by
 refine h (R.take j) R[j] (R.drop (j+1)) ?_;rw[←jH a,List.take_append_drop]
end
theorem qmp {α:Type}[Inhabited α]{xs:List α}{k:Nat}{v:α}(a:k<xs.length)(h:gt xs k=v):setS xs (k:Int) v=xs:=by
 unfold setS;rw[jr,←h,qef a];exact List.set_getElem_self a
theorem qfW {α:Type}[Inhabited α]{xs:List α}{a k:Nat}{y:α}(b:a<xs.length):gt (setS xs (a:Int) y) k=if k=a then y else gt xs k:=by
 unfold setS;rw[jr];by_cases h:k=a
 ·subst h;rw[if_pos Z,qn3 b]
 ·rw[if_neg h,qpF h]
def setT (t:qB)(k:Nat)(s:Bool×qi):qB:=⟨setS t.Bf (k:Int) s.1,setS t.Ai (k:Int) s.2.Ai,setS t.Bd (k:Int) s.2.Bd⟩
theorem qqA {t:qB}{M k:Nat}{s:Bool×qi}(h:TmOk t M)(c:k<M)(d:slR s.2.Bd):TmOk (setT t k s) M where
 r:=by show(setS _ _ _).length=_;rw[qaZ];exact h.r
 a:=by show(setS _ _ _).length=_;rw[qaZ];exact h.a
 s:=by show(setS _ _ _).length=_;rw[qaZ];exact h.s
 sl:=fun j b=>by
  show slR (gt (setS _ _ _) j);rw[qfW (by rw[h.s];exact c)];split
  ·exact d
  ·exact h.sl j b
def Bare (t:qB)(M:Nat)(l:List Nat):Prop:=∀ k,k<M→k ∉ l→gt t.Bf k=false∧gt t.Ai k=zSp∧gt t.Bd k=zSp
def zT:qB:=⟨[],[],[]⟩
theorem qtN:slR zSp:=by unfold slR zSp;exact⟨⟨jS _,by show(0:Int)≤_;omega⟩,jS _,by show(0:Int)≤_;omega⟩
theorem quK {s t:qj}(a:slR s)(b:slR t):slR (hullS s t):=by
 obtain⟨⟨a1,a2⟩,c,d⟩:=a;obtain⟨⟨b1,b2⟩,b3,f⟩:=b;refine⟨⟨?_,?_⟩,?_,?_⟩
 ·show(0:Int)≤(if t.Ar<s.Ar then t.Ar else s.Ar);split<;>assumption
 ·show(if t.Ar<s.Ar then t.Ar else s.Ar)≤1000000;split<;>assumption
 ·show(0:Int)≤(if t.Bg > s.Bg then t.Bg else s.Bg);split<;>assumption
 ·show(if t.Bg > s.Bg then t.Bg else s.Bg)≤1000000;split<;>assumption
section
variable {b:qe}{c:qx}{ex:List Int}{f g:Nat→qj→qj×qj}{lv:List Bool}{t:qB}{xs:List qi}{node:Int}
theorem qpI (h:blockB b=true)(m:SpansS b c g)(i:∀ k s,(f k s).2=(g k s).2)(n:TmOk t (2*(places b.Aa).length))(o:SrcOk xs):∀ j,j≤(linksL b).length→slR (ndS f (linksL b) lv t node (srcV (srcO xs node)) j).2.Bd:=by
 intro j
 induction j with
 | zero=>
  intro _;show slR (srcV (srcO xs node)).2.Bd;cases hs:srcO xs node with
  | none=>exact qtN
  | some y=>exact o.sl y (qmi hs).2
 | succ j a=>
  intro p;have a:=a (by omega);obtain⟨_,l⟩:=qks (qiJ h) (show j<(linksL b).length by omega);have d:=(m j _ (show j<(linksL b).length by omega) (n.sl _ l)).1;rw[←i] at d;show slR (bif toQ (linksL b) lv node j then stepS f (linksL b) t node (ndS f (linksL b) lv t node (srcV (srcO xs node)) j) j else ndS f (linksL b) lv t node (srcV (srcO xs node)) j).2.Bd;cases toQ (linksL b) lv node j
  ·exact a
  ·simp only[cond_true];unfold stepS;cases gt t.Bf (frN (linksL b) j)
   ·exact a
   ·simp only[cond_true];unfold joinS;cases (ndS f (linksL b) lv t node (srcV (srcO xs node)) j).1
    ·exact d
    ·exact quK a d
theorem qqW (h:blockB b=true)(a:SpansS b c f)(d:TmOk t (2*(places b.Aa).length))(g:SrcOk xs):∀ j,j≤(linksL b).length→slR (ndS f (linksL b) lv t node (srcV (srcO xs node)) j).2.Bd:=qpI h a (fun _ _=>rfl) d g
theorem quQ:∀ j,(ndS f (linksL b) lv t node (srcV (srcO xs node)) j).1=false→(ndS f (linksL b) lv t node (srcV (srcO xs node)) j).2=zSrc:=by
 intro j
 induction j with
 | zero=>
  show(srcV (srcO xs node)).1=false→(srcV (srcO xs node)).2=zSrc;cases srcO xs node with
  | none=>exact fun _=>rfl
  | some y=>intro e;cases e
 | succ j ih=>
  unfold ndS;cases toQ (linksL b) lv node j
  ·exact ih
  ·simp only[cond_true];unfold stepS;cases gt t.Bf (frN (linksL b) j)
   ·exact ih
   ·simp only[cond_true];unfold joinS;cases (ndS f (linksL b) lv t node (srcV (srcO xs node)) j).1<;>(intro e;cases e)
def runR (o:Option qB):qB×Bool:=match o with|some t=>(t,true)|none=>(zT,false)
def rnO (f:Nat→qj→qj×qj)(ls:List ql)(lv:List Bool)(xs:List qi):List Nat→qB→Option qB
 | [],t=>V t
 | k::R,t=>bif (ndS f ls lv t (k:Int) (srcV (srcO xs (k:Int))) ls.length).1 then bif spanB (ndS f ls lv t (k:Int) (srcV (srcO xs (k:Int))) ls.length).2.Ai then rnO f ls lv xs R (setT t k (ndS f ls lv t (k:Int) (srcV (srcO xs (k:Int))) ls.length)) else U else rnO f ls lv xs R t
def zTm (M:Nat):qB:=⟨List.replicate M false,List.replicate M zSp,List.replicate M zSp⟩
theorem qqq {α:Type}[Inhabited α]{v:α}{M k:Nat}(a:k<M):gt (List.replicate M v) k=v:=by rw[qef (by rw[jL];exact a)];simp
theorem qrO {M:Nat}:TmOk (zTm M) M:=⟨jL,jL,jL,fun k a=>by
 show slR (gt (List.replicate M zSp) k);rw[qqq a];exact qtN⟩
theorem qtL {M:Nat}{l:List Nat}:Bare (zTm M) M l:=fun k a _=>⟨qqq a,qqq a,qqq a⟩
theorem qvs (h:blockB b=true)(m:SpansS b c f)(n:SrcOk xs):∀ (R:List Nat) (t d:qB),(∀ k,k ∈ R→k<2*(places b.Aa).length)→TmOk t (2*(places b.Aa).length)→rnO f (linksL b) lv xs R t=V d→TmOk d (2*(places b.Aa).length):=by
 intro R
 induction R with
 | nil=>intro t d _ a e;obtain rfl:=Option.some.inj e;exact a
 | cons k R ih=>
  intro t d g a e;have l:=qqW (node:=(k:Int)) (lv:=lv) h m a n (linksL b).length (je _);unfold rnO at e;cases h1:(ndS f (linksL b) lv t (k:Int) (srcV (srcO xs (k:Int))) (linksL b).length).1
  ·rw[h1] at e;exact ih _ _ (fun i hi=>g i (jp _ hi)) a e
  ·rw[h1] at e;cases h2:spanB (ndS f (linksL b) lv t (k:Int) (srcV (srcO xs (k:Int))) (linksL b).length).2.Ai
   ·rw[h2] at e;cases e
   ·rw[h2] at e;exact ih _ _ (fun i hi=>g i (jp _ hi)) (qqA a (g k (jv ..)) l) e
def runL (o:Option qB)(m:Nat):Flow (qB×Bool) (List qj×List qj×List Bool×Int):=match o with|some t'=>.nxt (t'.Bd,t'.Ai,t'.Bf,(m:Int))|none=>.ret (zT,false)
theorem qu6 (h:blockB b=true)(A:SpansS b c f)(I:lv.length=(linksL b).length)(B:SrcOk xs){R:List Nat}(D:∀ k,k ∈ R→k<2*(places b.Aa).length)(F:R.length≤1000) :
  Ev (fun n=>qkg n b c (linksL b) lv xs (ints R)) (runR (rnO f (linksL b) lv xs R (zTm (2*(places b.Aa).length)))):=by
 have J:=qaE (qW (qao h));have m:=qgO h;obtain⟨M,u⟩:∃ M,M=2*(places b.Aa).length:=⟨_,rfl⟩;have N:M≤156:=by omega
 have r:∀ d j t,j+d=R.length→TmOk t M→Ev (fun n=>qcn b c (linksL b) lv xs (ints R) n t.Bd t.Ai t.Bf (j:Int)) (runL (rnO f (linksL b) lv xs (R.drop j) t) R.length):=by
  intro d
  induction d with
  | zero=>
   intro j t H g;obtain rfl:j=R.length:=by omega
   rw[List.drop_length];refine Ev.succ ?_;simp only[qcn,qbt,qq (je _),cond_false];exact .done
  | succ d ih=>
   intro j t H g;have a:j<R.length:=by omega
   have l:=D _ (jo a);have hi:=qkj a;have z:R.drop j=R[j]::R.drop (j+1):=jH a;generalize R[j]=k at l hi z;rw[←u] at l;have v:=qt5 (node:=(k:Int)) h A I (by rw[←u];exact g) B;have p:=qqW (node:=(k:Int)) (lv:=lv) h A (by rw[←u];exact g) B (linksL b).length (je _);have L:idx t.Bf (k:Int)=V (gt t.Bf k):=qw (by rw[g.r];exact l);have K:idx t.Ai (k:Int)=V (gt t.Ai k):=qw (by rw[g.a];exact l);have is:idx t.Bd (k:Int)=V (gt t.Bd k):=qw (by rw[g.s];exact l);have i:∀ n,qcn b c (linksL b) lv xs (ints R) (n+1) t.Bd t.Ai t.Bf (j:Int)=(qh4 n b c (linksL b) lv xs t (k:Int)).bind fun o=>match o with
    | (r4,r5)=>bif (!r4) then qcn b c (linksL b) lv xs (ints R) n t.Bd t.Ai t.Bf ((j+1:Nat):Int) else bif (!spanB r5.Ai) then V (.ret (zT,false)) else
     qcn b c (linksL b) lv xs (ints R) n (setS t.Bd (k:Int) r5.Bd) (setS t.Ai (k:Int) r5.Ai) (setS t.Bf (k:Int) true) ((j+1:Nat):Int):=fun n=>by
    simp only[qcn,qbt,qn a,cond_true,hi,jd,qo6,L,K,is,wS j]
    rfl
   rw[z];unfold rnO;generalize ndS f (linksL b) lv t (k:Int) (srcV (srcO xs (k:Int))) (linksL b).length=s at v p ⊢;obtain⟨s1,s2⟩:=s;cases s1
   ·exact Ev.step i (Ev.bind v (ih (j+1) t (by omega) g))
   ·cases hsp:spanB s2.Ai
    ·refine Ev.step i (Ev.bind v ?_);simp only[hsp];exact .done
    ·refine Ev.step i (Ev.bind v ?_);simp only[hsp];exact ih (j+1) (setT t k (true,s2)) (by omega) (qqA g l p)
 have x:mkS (M:Int) false=V (List.replicate M false):=qj1 (by omega);have y:mkS (M:Int) (⟨0,0⟩:qj)=V (List.replicate M zSp):=qj1 (by omega);have C:=r R.length 0 (zTm M) (by omega) qrO;rw[List.drop_zero] at C;rw[←u] at m ⊢;unfold qkg qkq;refine Ev.bind m ?_;simp only[x,y,jd];refine Ev.bind C ?_;cases rnO f (linksL b) lv xs R (zTm M)<;>exact .done
theorem qvb (h:blockB b=true)(hg:SpansS b c g)(H:∀ k s,(f k s).2=(g k s).2)(hf:SpansI b c ex f)(hl:lv.length=(linksL b).length)(P:SrcOk xs){R:List Nat}(Y:∀ j,∀ O:j<R.length,R[j]<2*(places b.Aa).length∧R[j] ∉ R.take j)(a3:R.length≤1000) :
  Ev (fun n=>qfl n (V ⟨V (viewE b ex),lv⟩) c xs (ints R)) (runR (rnO f (linksL b) lv xs R (zTm (2*(places b.Aa).length)))):=by
 have L:=qaE (qW (qao h));have r:=qm1 (v:=viewE b ex) L;have D:(viewE b ex).places.length=(places b.Aa).length:=rfl;rw[D] at r;obtain⟨M,B⟩:∃ M,M=2*(places b.Aa).length:=⟨_,rfl⟩;have hM:M≤156:=by omega
 have A:∀ d j t,j+d=R.length→TmOk t M→Bare t M (R.take j)→Ev (fun n=>qaW (V ⟨V (viewE b ex),lv⟩) c xs (ints R) n t.Bd t.Ai t.Bf (j:Int)) (runL (rnO f (linksL b) lv xs (R.drop j) t) R.length):=by
  intro d
  induction d with
  | zero=>
   intro j t O a _;obtain rfl:j=R.length:=by omega
   rw[List.drop_length];refine Ev.succ ?_;simp only[qaW,qbt,qq (je _),cond_false];exact .done
  | succ d ih=>
   intro j t O a F;have m:j<R.length:=by omega
   obtain⟨l,S⟩:=Y j m;have hi:=qkj m;have x:R.take (j+1)=R.take j++[R[j]]:=jw m;have N:R.drop j=R[j]::R.drop (j+1):=jH m;generalize R[j]=k at l S hi x N;rw[←B] at l;have C:=qtm (node:=(k:Int)) h hf hl (by rw[←B];exact a) P.len;have z:=qpI (node:=(k:Int)) (lv:=lv) h hg H (by rw[←B];exact a) P (linksL b).length (je _);have Q:=quQ (f:=f) (b:=b) (lv:=lv) (t:=t) (xs:=xs) (node:=(k:Int)) (linksL b).length;obtain⟨b1,b2,b3⟩:=F k l S;have ir:idx t.Bf (k:Int)=V (gt t.Bf k):=qw (by rw[a.r];exact l);have ia:idx t.Ai (k:Int)=V (gt t.Ai k):=qw (by rw[a.a];exact l);have is:idx t.Bd (k:Int)=V (gt t.Bd k):=qw (by rw[a.s];exact l);have y:∀ n,qaW (V ⟨V (viewE b ex),lv⟩) c xs (ints R) (n+1) t.Bd t.Ai t.Bf (j:Int)=(qdA n (V ⟨V (viewE b ex),lv⟩) c xs t (k:Int)).bind fun o=>match o with
    | (r3,r4)=>(bif r3 then V (!spanB r4.Ai) else V false).bind fun b3=>bif b3 then V (.ret (zT,false)) else
     qaW (V ⟨V (viewE b ex),lv⟩) c xs (ints R) n (setS t.Bd (k:Int) r4.Bd) (setS t.Ai (k:Int) r4.Ai) (setS t.Bf (k:Int) r3) ((j+1:Nat):Int):=fun n=>by
    simp only[qaW,qbt,qn m,cond_true,hi,jd,qnE,ir,ia,is,wS j]
    rfl
   rw[N];unfold rnO;generalize ndS f (linksL b) lv t (k:Int) (srcV (srcO xs (k:Int))) (linksL b).length=s at C z Q ⊢;obtain⟨s1,s2⟩:=s;cases s1
   ·have:=Q Z;simp only at this;subst this;have e1:setS t.Bd (k:Int) zSrc.Bd=t.Bd:=qmp (by rw[a.s];exact l) b3;have W:setS t.Ai (k:Int) zSrc.Ai=t.Ai:=qmp (by rw[a.a];exact l) b2;have X:setS t.Bf (k:Int) false=t.Bf:=qmp (by rw[a.r];exact l) b1;refine Ev.step y (Ev.bind C ?_);simp only[cond_false,jd,e1,W,X];exact ih (j+1) t (by omega) a (fun i hi p=>F i hi (fun I=>p (by rw[x];exact jI _ I)))
   ·cases hsp:spanB s2.Ai
    ·refine Ev.step y (Ev.bind C ?_);simp only[hsp];exact .done
    ·refine Ev.step y (Ev.bind C ?_);simp only[hsp];refine ih (j+1) (setT t k (true,s2)) (by omega) (qqA a l z) (fun i hi p=>?_);rw[x] at p;have u:i ≠ k:=fun e=>p (jR _ (List.mem_singleton.2 e));have:=F i hi (fun I=>p (jI _ I));refine⟨?_,?_,?_⟩
     ·show gt (setS _ _ _) i=_;rw[qfW (by rw[a.r];exact l),if_neg u];exact this.1
     ·show gt (setS _ _ _) i=_;rw[qfW (by rw[a.a];exact l),if_neg u];exact this.2.1
     ·show gt (setS _ _ _) i=_;rw[qfW (by rw[a.s];exact l),if_neg u];exact this.2.2
 have J:mkS (M:Int) false=V (List.replicate M false):=qj1 (by omega);have K:mkS (M:Int) (⟨0,0⟩:qj)=V (List.replicate M zSp):=qj1 (by omega);have T:=A R.length 0 (zTm M) (by omega) qrO qtL;rw[List.drop_zero] at T;rw[←B] at r ⊢;unfold qfl qhb;simp only[jd,r,J,K];refine Ev.bind T ?_;cases rnO f (linksL b) lv xs R (zTm M)<;>exact .done
end

abbrev lkB (b:qe):Nat:=(linksL b).length
abbrev ndB (b:qe):Nat:=2*(places b.Aa).length
abbrev lvJ (b:qe)(br:List Int):List Bool:=lvB br (lkB b)
def grB (b:qe)(br:List Int):Option Tgraph:=V ⟨V (viewV b),lvJ b br⟩
structure TgOk (b:qe)(c:qx)(br:List Int)(xs:List qi)(R:List Nat):Prop where
 bl:blockB b=true
 co:cornerB c=true
 br_:brB br (lkB b)=true
 sr:srcB xs (ndB b)=true
 or_:ordL (linksL b) (lvJ b br) (ndB b) (ndB b) []=V R
theorem TgOk.ord {b:qe}{c:qx}{br:List Int}{xs:List qi}{R:List Nat}(h:TgOk b c br xs R):OrdOk (lkB b) (frL (linksL b)) (toL (linksL b)) (lvL (lvJ b br)) (ndB b) R:=
 qu0 (ndB b) [] R (fun a k l2 e=>by cases a<;>cases e) h.or_
theorem TgOk.len {b:qe}{c:qx}{br:List Int}{xs:List qi}{R:List Nat}(h:TgOk b c br xs R):R.length=ndB b:=by
 have:=qtu (ndB b) [] R h.or_;simpa using this
theorem qkd {x:Int}(h:x ≠ 0):(x != 0)=true:=by simpa using h
theorem qv5 {b:qe}{c:qx}{br:List Int}{xs:List qi}(B:qil b)(H:okS c.Bh)(a:br.length≤1048576)(m:xs.length≤1048576) :
  (∃ code:Int,code ≠ 0∧Ev (fun n=>qhW n b c br xs) ([],code)∧Ev (fun n=>qfA n b c br xs U) (U,[],code)) ∨
  ∃ R,TgOk b c br xs R∧Ev (fun n=>qhW n b c br xs) (ints R,0)∧Ev (fun n=>qfA n b c br xs U) (grB b br,ints R,0):=by
 have s1:=qhM B;have k:=qrD B;have s2:=qqC (c:=c) H;have s:=qq1 (c:=c) H;unfold qhW qfA;cases h1:blockB b
 ·rw[h1] at s1 k;exact .inl ⟨1,by omega,Ev.bind (b:=true) (Ev.bind s1 (Ev.tt Z .done)) (Ev.tt Z .done),Ev.bind (b:=true) (Ev.bind k (Ev.tt Z .done)) (Ev.tt Z .done)⟩
 cases h2:cornerB c
 ·rw[h1] at s1 k;rw[h2] at s2 s;exact .inl ⟨1,by omega,Ev.bind (b:=true) (Ev.bind s1 (Ev.ff Z (Ev.bind s2 .done))) (Ev.tt Z .done),Ev.bind (b:=true) (Ev.bind k (Ev.ff Z (Ev.bind s .done))) (Ev.tt Z .done)⟩
 have C:=qaE (qW (qao h1));have d:=qgH h1;have I:=qiJ h1;have i:=qoR (br:=br) B h1 a;have f:=qra (v:=viewV b) (br:=br) a d;have y:=qpl (xs:=xs) h1 m;have p:=qps (v:=viewV b) (xs:=xs) C m;have F:(viewV b).links=linksL b:=rfl;have M:(viewV b).places=places b.Aa:=rfl;rw[F] at f;rw[M] at p;rw[h1] at s1 k;rw[h2] at s2 s;have A:Ev (fun n=>(qdx n b).bind fun g=>bif (!g) then V true else(qhq n c).bind fun h=>V (!h)) false:=Ev.bind s1 (Ev.ff Z (Ev.bind s2 .done));have u:Ev (fun n=>(qhZ n b).bind fun g=>bif (!g) then V true else(qho n c).bind fun h=>V (!h)) false:=Ev.bind k (Ev.ff Z (Ev.bind s .done));have x:=qsc h1;cases h3:brB br (lkB b)
 ·rw[h3] at i f;exact .inl ⟨2,by omega,Ev.bind A (Ev.ff Z (Ev.bind (b:=true) (Ev.bind i (Ev.tt Z .done)) (Ev.tt Z .done))),
   Ev.bind u (Ev.ff Z (Ev.bind x (Ev.bind (b:=false) (Ev.ff Z .done) (Ev.ff Z (Ev.bind (b:=true) (Ev.bind f (Ev.tt Z .done)) (Ev.tt Z .done))))))⟩
 cases h4:srcB xs (ndB b)
 ·rw[h3] at i f;rw[h4] at y p;exact .inl ⟨2,by omega,Ev.bind A (Ev.ff Z (Ev.bind (b:=true) (Ev.bind i (Ev.ff Z (Ev.bind y .done))) (Ev.tt Z .done))),
   Ev.bind u (Ev.ff Z (Ev.bind x (Ev.bind (b:=false) (Ev.ff Z .done) (Ev.ff Z (Ev.bind (b:=true) (Ev.bind f (Ev.ff Z (Ev.bind p .done))) (Ev.tt Z .done))))))⟩
 have D:=qsi (v:=viewV b) (br:=br) d h3;rw[F] at D;have Q:=qlf (ls:=linksL b) (br:=br) d a;have l:(lvJ b br).length=lkB b:=qk2;have z:=qpE (lv:=lvJ b br) I l;have t:=qsS (b:=b) (ps:=places b.Aa) (lo:=pre (load0 b) b.Af.length) (de:=pre (exactL b) b.Af.length) (ex:=[]) (lv:=lvJ b br) I l Z;rw[h3] at i f;rw[h4] at y p;have K:Ev (fun n=>(qfU n b br).bind fun O=>bif (O != 0) then V true else(qge n b xs).bind fun P=>V (!P)) false:=Ev.bind i (Ev.ff Z (Ev.bind y .done));have J:Ev (fun n=>(qez n (V (viewV b)) br).bind fun g=>bif (!g) then V true else(qdD n (V (viewV b)) xs).bind fun h=>V (!h)) false:=Ev.bind f (Ev.ff Z (Ev.bind p .done));have L:∀ r:List Int×Int,Ev (fun n=>(qgh n (ndB b:Int) (linksL b) (lvJ b br)).bind fun o=>match o with|(g,h)=>bif (!h) then V (([]:List Int),(7:Int)) else V (g,0)) r→Ev (fun n=>qeK n b br) r:=fun r N=>by
  unfold qeK;exact Ev.bind i (Ev.ff Z (Ev.bind (qfe h1) (Ev.bind (qgO h1) (Ev.bind Q N))))
 cases ho:ordL (linksL b) (lvJ b br) (ndB b) (ndB b) [] with
 | none=>
  have e:ordR (linksL b) (lvJ b br) (ndB b)=([],false):=by unfold ordR;rw[ho]
  rw[e] at z t;exact .inl ⟨7,by omega,Ev.bind A (Ev.ff Z (Ev.bind K (Ev.ff Z (Ev.bind (L ([],7) (Ev.bind z (Ev.tt Z .done))) .done)))),
   Ev.bind u (Ev.ff Z (Ev.bind x (Ev.bind (b:=false) (Ev.ff Z .done) (Ev.ff Z (Ev.bind J (Ev.ff Z (Ev.bind D (Ev.bind t (Ev.tt Z .done)))))))))⟩
 | some R=>
  have e:ordR (linksL b) (lvJ b br) (ndB b)=(ints R,true):=by unfold ordR;rw[ho]
  rw[e] at z t;exact .inr ⟨R,⟨h1,h2,h3,h4,ho⟩,Ev.bind A (Ev.ff Z (Ev.bind K (Ev.ff Z (Ev.bind (L (ints R,0) (Ev.bind z (Ev.ff Z .done))) .done)))),
   Ev.bind u (Ev.ff Z (Ev.bind x (Ev.bind (b:=false) (Ev.ff Z .done) (Ev.ff Z (Ev.bind J (Ev.ff Z (Ev.bind D (Ev.bind t (Ev.ff Z .done)))))))))⟩
structure WkOk (j:qbG)(t:qB)(R:List Nat):Prop where
 tg:TgOk j.Ac j.Am j.Bb j.Ay R
 tm:TmOk t (ndB j.Ac)
def wkV (j:qbG)(t:qB)(R:List Nat):Option Twork:=V ⟨grB j.Ac j.Bb,j,t,ints R⟩
theorem qux {j:qbG}(h:qqg j) :
  (∃ code:Int,code ≠ 0∧Ev (fun n=>qdz n j.Ac j.Am j.Bb j.Ay) (zT,code)∧Ev (fun n=>qi1 n j) (U,code)) ∨
  ∃ t R,WkOk j t R∧Ev (fun n=>qdz n j.Ac j.Am j.Bb j.Ay) (t,0)∧Ev (fun n=>qi1 n j) (wkV j t R,0):=by
 have g:=h.Bb.len;have a:=h.Ay.len;unfold qdz qi1;rcases qv5 h.Ac h.Am.Bh g a with⟨code,hne,hs,hi⟩|⟨R,hg,hs,hi⟩
 ·exact .inl ⟨code,hne,Ev.bind hs (Ev.tt (qkd hne) .done),Ev.bind hi (Ev.tt (qkd hne) .done)⟩
 ·have b:=hg.bl;have s:=qgH b;have y:=qlf (ls:=linksL j.Ac) (br:=j.Bb) s g;obtain⟨f,p,r⟩:=quh b hg.co;have l:=r [] (.inl Z);rw[qtg] at l;have A:=qaE (qW (qao b));have m:=hg.len;have c:R.length≤1000:=by rw[m];show 2*(places j.Ac.Aa).length≤1000;omega
  have d:∀ k,k ∈ R→k<2*(places j.Ac.Aa).length:=fun k z=>by
   obtain⟨i,hi,rfl⟩:=List.mem_iff_getElem.1 z;exact(hg.ord.at hi).1
  have u:=qu6 (lv:=lvJ j.Ac j.Bb) (R:=R) b p qk2 (qqz a hg.sr) d c;have v:=qvb (lv:=lvJ j.Ac j.Bb) (R:=R) b p (fun _ _=>rfl) l qk2 (qqz a hg.sr) (fun i hi=>⟨(hg.ord.at hi).1,(hg.ord.at hi).2.1⟩) c;have x:=qvs (lv:=lvJ j.Ac j.Bb) b p (qqz a hg.sr) R (zTm (2*(places j.Ac.Aa).length));generalize rnO f (linksL j.Ac) (lvJ j.Ac j.Bb) j.Ay R (zTm (2*(places j.Ac.Aa).length))=o at x u v;cases o with
  | none=>exact .inl ⟨3,by omega,Ev.bind hs (Ev.ff Z (Ev.bind (qfe b) (Ev.bind y (Ev.bind u (Ev.tt Z .done))))),Ev.bind hi (Ev.ff Z (Ev.bind v (Ev.tt Z .done)))⟩
  | some t=>exact .inr ⟨t,R,⟨hg,x t d qrO Z⟩,Ev.bind hs (Ev.ff Z (Ev.bind (qfe b) (Ev.bind y (Ev.bind u (Ev.ff Z .done))))),Ev.bind hi (Ev.ff Z (Ev.bind v (Ev.ff Z .done)))⟩

def sdL (ls:List ql)(fw:Bool)(k:Nat):Int:=bif fw then frL ls k else toL ls k
def tdL (ls:List ql)(fw:Bool)(k:Nat):Int:=bif fw then toL ls k else frL ls k
structure ReachI (ls:List ql)(lv:List Bool)(M:Nat)(fw:Bool)(v:Nat)(x:List Bool):Prop where
 len:x.length=M
 self:gt x v=true
 wit:∀ j,j<M→gt x j=true→j=v∨∃ k a:Nat,k<ls.length∧gt lv k=true∧sdL ls fw k=(a:Int)∧a<M∧gt x a=true∧tdL ls fw k=(j:Int)
def ShutI (ls:List ql)(lv:List Bool)(fw:Bool)(x:List Bool)(k:Nat):Prop:=gt lv k=true→∀ a b:Nat,sdL ls fw k=(a:Int)→tdL ls fw k=(b:Int)→gt x a=true→gt x b=true
theorem qs3 {x:List Bool}:x.countP id≤x.length:=List.countP_le_length
theorem qsT {x:List Bool}{c:Nat}(a:c<x.length)(h:gt x c=false):(setS x (c:Int) true).countP id=x.countP id+1:=by
 have e:setS x (c:Int) true=x.set c true:=by unfold setS;rw[jr]
 rw[e];have:x[c]=false:=by rw[←qef a];exact h
 clear e h
 induction x generalizing c with
 | nil=>cases a
 | cons y x ih=>
  cases c with
  | zero=>
   have d:y=false:=this;subst d;simp
  | succ c=>
   have b:c<x.length:=by simpa using a
   have:=ih b (by simpa using this);rw[List.set_cons_succ,List.countP_cons,List.countP_cons,this];omega
section
variable {ls:List ql}{lv:List Bool}{M:Nat}
theorem qtR (h:LkOk ls M){k:Nat}(c:k<ls.length)(fw:Bool):∃ a b:Nat,sdL ls fw k=(a:Int)∧tdL ls fw k=(b:Int)∧a<M∧b<M:=by
 have d:=h.fr0 k c;have g:=h.fr1 k c;have f:=h.to0 k c;have i:=h.to1 k c;cases fw
 ·exact⟨(gt ls k).To.toNat,(gt ls k).Bk.toNat,qeO f,qeO d,by omega,by omega⟩
 ·exact⟨(gt ls k).Bk.toNat,(gt ls k).To.toNat,qeO d,qeO f,by omega,by omega⟩
theorem qvz (h:LkOk ls M)(S:lv.length=ls.length){fw:Bool}{v:Nat}:∀ (d k:Nat) (x:List Bool) (b:Bool),k+d=ls.length→ReachI ls lv M fw v x→(b=false→∀ j,j<k→ShutI ls lv fw x j) →
  EvQ (fun n=>qdm ls lv fw n x b (k:Int)) (fun o=>ReachI ls lv M fw v o.1∧(o.2.1=false→∀ j,j<ls.length→ShutI ls lv fw o.1 j)∧x.countP id≤o.1.countP id∧(o.2.1=true→b=true∨x.countP id<o.1.countP id)):=by
 have Q:=h.len;intro d
 induction d with
 | zero=>
  intro k x b P g s;refine EvQ.succ ?_;simp only[qdm];refine EvQ.ff (qq (by omega)) (EvQ.done ⟨g,fun e j u=>s e j (by omega),je _,fun e=>.inl e⟩)
 | succ d ih=>
  intro k x b P g s;have f:k<ls.length:=by omega
  obtain⟨p,q,z,C,I,R⟩:=qtR h f fw;refine EvQ.succ ?_;simp only[qdm,wS k];refine EvQ.tt (qn f) (EvQ.bindN (qw f) (EvQ.bindN (qw f) (EvQ.bindN (b:=((p:Int),(q:Int))) (by rw[←z,←C];cases fw<;>rfl) ?_)));have B:p<x.length:=by rw[g.len];exact I
  have c:q<x.length:=by rw[g.len];exact R
  refine EvQ.bindN (b:=gt lv k&&(gt x p&&!gt x q)) (by rw[qw (show k<lv.length by omega),qw B,qw c];simp only[jd];cases gt lv k<;>cases gt x p<;>rfl) ?_;refine EvQ.bif (fun i=>?_) (fun i=>?_)
  ·simp only[jf,jF] at i;obtain⟨c1,r,F⟩:=i;have A:p ≠ q:=fun e=>by rw[e,F] at r;cases r
   have H:=qsT c F;refine EvQ.bindN (qw c) ((ih (k+1) (setS x (q:Int) true) true (by omega) ⟨by rw[qaZ];exact g.len,?_,fun j u l=>?_⟩ (fun e=>by cases e)).mono fun o m=>⟨m.1,m.2.1,by have:=m.2.2.1;omega,fun _=>.inr (by have:=m.2.2.1;omega)⟩)
   ·rw[qfW c];split
    ·rfl
    ·exact g.self
   ·by_cases e:j=q
    ·exact .inr ⟨k,p,f,c1,z,I,by rw[qfW c,if_neg A];exact r,by rw[C,e]⟩
    ·rw[qfW c,if_neg e] at l;rcases g.wit j u l with e2|⟨k',a,w1,w2,w3,w4,w5,w6⟩
     ·exact .inl e2
     ·exact .inr ⟨k',a,w1,w2,w3,w4,by rw[qfW c];split;rfl;exact w5,w6⟩
  ·refine ih (k+1) x b (by omega) g (fun e j u=>?_);by_cases N:j=k
   ·subst N;intro y a J O t D;rw[z] at O;rw[C] at t;have K:p=a:=by omega
    have L:q=J:=by omega
    subst K;subst L;rw[y,D] at i;simpa using i
   ·exact s e j (by omega)
theorem qsm (h:LkOk ls M)(t:lv.length=ls.length){fw:Bool}{v:Nat}(y:v<M):EvQ (fun n=>qhp n (M:Int) ls lv (v:Int) fw) (fun x=>ReachI ls lv M fw v x∧∀ j,j<ls.length→ShutI ls lv fw x j):=by
 have A:=h.nodes;have f:∀ (d:Nat) (x:List Bool),M<x.countP id+d→ReachI ls lv M fw v x→EvQ (fun n=>qes ls lv fw n x true) (fun o=>ReachI ls lv M fw v o.1∧∀ j,j<ls.length→ShutI ls lv fw o.1 j):=by
  intro d
  induction d with
  | zero=>
   intro x s l;have:=qs3 (x:=x);rw[l.len] at this;omega
  | succ d ih=>
   intro x s l;refine EvQ.succ ?_;simp only[qes,cond_true];refine EvQ.bind (qvz h t ls.length 0 x false (by omega) l (fun _ j k=>absurd k (Nat.not_lt_zero _))) ?_;rintro⟨z,b3,i⟩ ⟨g,m,r,p⟩;dsimp only at g m r p ⊢;cases b3
   ·refine EvQ.succ ?_;simp only[qes,cond_false];exact EvQ.done ⟨g,m Z⟩
   ·rcases p rfl with e|e
    ·cases e
    ·exact ih z (by omega) g
 unfold qhp;have a:v<(pre (fun _=>false) M).length:=by rw[qj5];exact y
 refine EvQ.bindN (qkP (by omega)) (EvQ.bindN (qw a) (EvQ.bind (f (M+1) _ (by omega) ⟨by rw[qaZ,qj5],by rw[qfW a,if_pos Z],fun j k c=>?_⟩) ?_))
 ·refine .inl ?_;refine Classical.byContradiction fun e=>?_;rw[qfW a,if_neg e,qrJ k] at c;cases c
 ·rintro⟨x,b⟩ u;exact EvQ.done u
def SelfL (ls:List ql)(lv:List Bool)(v:Nat):Prop:=∃ k,k<ls.length∧gt lv k=true∧frL ls k=(v:Int)∧toL ls k=(v:Int)
structure LoopI (ls:List ql)(lv:List Bool)(M:Nat)(l:List Int):Prop where
 ex:∃(v:Nat) (there back:List Bool),v<M∧(ReachI ls lv M true v there∧∀ j,j<ls.length→ShutI ls lv true there j)∧(ReachI ls lv M false v back∧∀ j,j<ls.length→ShutI ls lv false back j) ∧
  l=ints (selN (fun w=>gt there w&&gt back w) M)∧(1<l.length∨SelfL ls lv v)
theorem qvK (h:LkOk ls M)(p:lv.length=ls.length){v:Nat}:EvQ (fun n=>qjv n ls lv (v:Int)) (fun r=>r=true→SelfL ls lv v):=by
 have l:=h.len;have b:∀ d k,k+d=ls.length→EvQ (fun n=>qc9 ls lv (v:Int) n (k:Int)) (fun o=>∀ r,o=.ret r→SelfL ls lv v):=by
  intro d
  induction d with
  | zero=>
   intro k i;refine EvQ.succ ?_;simp only[qc9];exact EvQ.ff (qq (by omega)) (EvQ.done fun r m=>by cases m)
  | succ d ih=>
   intro k i;have a:k<ls.length:=by omega
   refine EvQ.succ ?_;simp only[qc9,wS k];refine EvQ.tt (qn a) (EvQ.bindN (qw (show k<lv.length by omega)) (EvQ.bif (fun c=>EvQ.bindN (qw a) (EvQ.bif (fun f=>EvQ.bindN (qw a) (EvQ.bif (fun g=>EvQ.done fun _ _=>⟨k,a,c,beq_iff_eq.1 f,beq_iff_eq.1 g⟩) (fun _=>ih (k+1) (by omega)))) (fun _=>ih (k+1) (by omega)))) (fun _=>ih (k+1) (by omega))))
 unfold qjv;refine EvQ.bind (b ls.length 0 (by omega)) ?_;rintro(r|x) ho
 ·exact EvQ.done fun _=>ho r Z
 ·exact EvQ.done fun e=>by cases e
theorem qva (h:LkOk ls M)(t:lv.length=ls.length):EvQ (fun n=>qiN n (M:Int) ls lv) (fun o=>∀ l,l ∈ o→LoopI ls lv M l):=by
 have L:=h.nodes;have k:∀ {a back:List Bool},a.length=M→back.length=M→∀ d j p f,j+d=M→p=ints (selN (fun w=>gt a w&&gt back w) j)→f.length=M →
   EvQ (fun n=>qdu (M:Int) a back n p f (j:Int)) (fun o=>o.1=ints (selN (fun w=>gt a w&&gt back w) M)∧o.2.1.length=M):=by
  intro a back z y d
  induction d with
  | zero=>
   intro j p f D s x;obtain rfl:j=M:=by omega
   refine EvQ.succ ?_;simp only[qdu];exact EvQ.ff (qq (je _)) (EvQ.done ⟨s,x⟩)
  | succ d ih=>
   intro j p f D s x;refine EvQ.succ ?_;simp only[qdu,wS j];refine EvQ.tt (qn (by omega)) (EvQ.bindN (b:=gt a j&&gt back j) (by rw[qw (show j<a.length by omega),qw (show j<back.length by omega)];simp only[jd];cases gt a j<;>rfl) ?_);have e:=qjz (q:=fun w=>gt a w&&gt back w) (j:=j);have J:(selN (fun w=>gt a w&&gt back w) j).length≤j:=qiX;refine EvQ.bif (fun g=>?_) (fun g=>?_)
   ·refine EvQ.bindN (qcq (by rw[s,qbt];omega)) (EvQ.bindN (qw (show j<f.length by omega)) (ih (j+1) _ _ (by omega) ?_ (by rw[qaZ];exact x)));rw[e,g,cond_true,s];unfold ints;rw[jU];rfl
   ·refine ih (j+1) _ _ (by omega) ?_ x;rw[e,g,cond_false,Jc,s]
 have v:∀ d j m c,j+d=M→m.length=M→c.length≤j→(∀ l,l ∈ c→LoopI ls lv M l) →
   EvQ (fun n=>qcG (M:Int) ls lv n m c (j:Int)) (fun o=>∀ l,l ∈ o.2.1→LoopI ls lv M l):=by
  intro d
  induction d with
  | zero=>
   intro j m c D B F u;refine EvQ.succ ?_;simp only[qcG];exact EvQ.ff (qq (by omega)) (EvQ.done u)
  | succ d ih=>
   intro j m c D B F u;refine EvQ.succ ?_;simp only[qcG,wS j];refine EvQ.tt (qn (by omega)) (EvQ.bindN (qw (show j<m.length by omega)) (EvQ.bif (fun _=>ih (j+1) m c (by omega) B (by omega) u) (fun _=>?_)));refine EvQ.bind (qsm h t (fw:=true) (show j<M by omega)) (fun a z=>?_);refine EvQ.bind (qsm h t (fw:=false) (show j<M by omega)) (fun back y=>?_);refine EvQ.bind (k z.1.len y.1.len M 0 [] m (by omega) Z B) ?_;rintro⟨p,f,i⟩ ⟨A,l5⟩;dsimp only at A l5 ⊢;refine EvQ.bind (R:=fun r=>r=true→LoopI ls lv M p) (EvQ.bif (fun g=>EvQ.done fun _=>⟨j,a,back,by omega,z,y,A,.inl (by have:=of_decide_eq_true g;omega)⟩) (fun _=>EvQ.bind (qvK h t) (fun r I=>EvQ.done fun e=>⟨j,a,back,by omega,z,y,A,.inr (I e)⟩))) (fun K C=>?_);refine EvQ.bif (fun g=>?_) (fun _=>ih (j+1) f c (by omega) l5 (by omega) u);exact EvQ.bindN (qcq (by omega)) (ih (j+1) f _ (by omega) l5 (by rw[jg,ji];omega) (qbQ u (C g)))
 unfold qiN;refine EvQ.bindN (qkP (by omega)) (EvQ.bind (v M 0 (pre (fun _=>false) M) [] (by omega) qj5 (je _) (fun _ t=>by cases t)) ?_);rintro⟨_,c,_⟩ H;exact EvQ.done H
theorem qtj (h:LkOk ls M)(A:∀ k k',k<ls.length→k'<ls.length→(gt ls k).Bc ≠ 1→(gt ls k').Bc ≠ 1→toL ls k ≠ frL ls k'){l:List Int}(L:LoopI ls lv M l) :
  ∃ k,k<ls.length∧gt lv k=true∧(gt ls k).Bc=1∧frL ls k ∈ l∧toL ls k ∈ l:=by
 obtain⟨v,c,back,N,⟨z,D⟩,⟨x,C⟩,e,m⟩:=L.ex;have mem:∀ w:Nat,w<M→gt c w=true→gt back w=true→(w:Int) ∈ l:=fun w H I J=>by
  rw[e,qhu,qhh];exact⟨H,by rw[I,J];rfl⟩
 rcases m with m|⟨k,k1,k2,k3,k4⟩
 · -- another node of the loop
  obtain⟨w,f,g⟩:∃ w,w ∈ selN (fun w=>gt c w&&gt back w) M∧w ≠ v:=by
   have i:(selN (fun w=>gt c w&&gt back w) M).Nodup:=List.nodup_range.filter _;have d:1<(selN (fun w=>gt c w&&gt back w) M).length:=by rw[e,qbt] at m;exact m
   generalize selN (fun w=>gt c w&&gt back w) M=S at i d
   match S,i,d with
   | a::b::S,i,_=>
    by_cases t:a=v
    ·refine⟨b,by simp,fun F=>?_⟩;rw[List.nodup_cons] at i;exact i.1 (by rw[t,←F];simp)
    ·exact⟨a,by simp,t⟩
  rw[qhh,jf] at f;obtain⟨n,p,o⟩:=f;rcases z.wit w n p with e1|⟨k1,a1,p1,p2,p3,p4,p5,p6⟩
  ·exact absurd e1 g
  rcases x.wit w n o with e1|⟨k2,a2,q1,q2,q3,q4,q5,q6⟩
  ·exact absurd e1 g
  have u:frL ls k1=(a1:Int):=p3;have s:toL ls k1=(w:Int):=p6;have r:frL ls k2=(w:Int):=q6;have B:toL ls k2=(a2:Int):=q3;by_cases K1:(gt ls k1).Bc=1
  ·exact⟨k1,p1,p2,K1,by rw[u];exact mem a1 p4 p5 (C k1 p1 p2 w a1 s u o),by rw[s];exact mem w n p o⟩
  ·by_cases K2:(gt ls k2).Bc=1
   ·exact⟨k2,q1,q2,K2,by rw[r];exact mem w n p o,by rw[B];exact mem a2 q4 (D k2 q1 q2 w a2 r B p) q5⟩
   ·exact absurd (s.trans r.symm) (A k1 k2 p1 q1 K1 K2)
 ·have y:=mem v N z.self x.self;refine⟨k,k1,k2,?_,by rw[k3];exact y,by rw[k4];exact y⟩;exact Classical.byContradiction fun K=>A k k k1 k1 K K (k4.trans k3.symm)
theorem qsn {xs:List Int}{x:Int}(h:x ∈ xs):(xs.any fun y=>y==x)=true:=List.any_eq_true.2 ⟨x,h,by simp⟩
theorem qu5 (h:LkOk ls M)(Q:∀ k k',k<ls.length→k'<ls.length→(gt ls k).Bc ≠ 1→(gt ls k').Bc ≠ 1→toL ls k ≠ frL ls k'):∀ (d:Nat) (lv:List Bool),lv.length=ls.length→lv.countP id<d →
  EvQ (fun n=>qfx ls (M:Int) n lv) (fun o=>o.length=ls.length):=by
 have P:=h.len;have T:=h.nodes;intro d
 induction d with
 | zero=>intro lv _ S;omega
 | succ d ih=>
  intro lv B W;refine EvQ.succ ?_;simp only[qfx];refine EvQ.bind (qva h B) (fun r D=>?_);refine EvQ.bif (fun _=>EvQ.done B) (fun m=>?_);cases r with
  | nil=>simp at m
  | cons f r=>
   have F:=D f (by simp);have l:f.length≤1048576:=by
    obtain⟨_,_,_,_,_,_,e,_⟩:=F.ex;rw[e,qbt];exact jX qiX (by omega)
   obtain⟨t,R,H,I,J,K⟩:=qtj h Q F;have i0:idx (f::r) 0=V f:=rfl;have p:∀ d j c,j+d=ls.length→((∃ k:Nat,c=(k:Int)∧k<ls.length∧gt lv k=true)∨j≤t) →
     EvQ (fun n=>qbm ls lv (f::r) n c (j:Int)) (fun o=>∃ k:Nat,o.1=(k:Int)∧k<ls.length∧gt lv k=true):=by
    intro d
    induction d with
    | zero=>
     intro j c O hi;refine EvQ.succ ?_;simp only[qbm];refine EvQ.ff (qq (by omega)) (EvQ.done ?_);rcases hi with hi|hi
     ·exact hi
     ·omega
    | succ d ih2=>
     intro j c O hi;have a:j<ls.length:=by omega
     have nx:∀ {i},((∃ k:Nat,i=(k:Int)∧k<ls.length∧gt lv k=true)∨j+1≤t)→EvQ (fun n=>qbm ls lv (f::r) n i ((j+1:Nat):Int)) (fun o=>∃ k:Nat,o.1=(k:Int)∧k<ls.length∧gt lv k=true):=fun N=>ih2 (j+1) _ (by omega) N;have skip:j ≠ t→(∃ k:Nat,c=(k:Int)∧k<ls.length∧gt lv k=true)∨j+1≤t:=fun m=>by
      rcases hi with hi|hi
      ·exact .inl hi
      ·exact .inr (by omega)
     refine EvQ.succ ?_;simp only[qbm,wS j];refine EvQ.tt (qn a) (EvQ.bindN (qw (show j<lv.length by omega)) (EvQ.bif (fun c1=>EvQ.bindN (qw a) (EvQ.bif (fun u=>EvQ.bindN i0 (EvQ.bindN (qw a) (EvQ.bindE (qml l) (EvQ.bif (fun v=>EvQ.bindN i0 (EvQ.bindN (qw a) (EvQ.bindE (qml l) (EvQ.bif (fun x=>nx (.inl ⟨j,rfl,a,c1⟩)) (fun x=>nx (skip fun e=>?_)))))) (fun v=>nx (skip fun e=>?_)))))) (fun u=>nx (skip fun e=>?_)))) (fun c1=>nx (skip fun e=>?_))))
     ·subst e;have:=qsn K;unfold toL at this;rw[this] at x;cases x
     ·subst e;have:=qsn J;unfold frL at this;rw[this] at v;cases v
     ·subst e;rw[I] at u;cases u
     ·subst e;rw[H] at c1;cases c1
   refine EvQ.bind (p ls.length 0 (-1) (by omega) (.inr (Jh _))) ?_;rintro⟨c,X⟩ ⟨k,rfl,g,C⟩;have b:k<lv.length:=by omega
   refine EvQ.bindN (qw b) (ih _ (by rw[qaZ];exact B) ?_);have e:setS lv (k:Int) false=lv.set k false:=by unfold setS;rw[jr]
   rw[e];have A:lv[k]=true:=by rw[←qef b];exact C
   have z:∀ (xs:List Bool) (k:Nat) (g:k<xs.length),xs[k]=true→(xs.set k false).countP id+1=xs.countP id:=by
    intro xs
    induction xs with
    | nil=>intro k g;cases g
    | cons y xs ih3=>
     intro k g s;cases k with
     | zero=>
      have s:y=true:=s;subst s;simp
     | succ k=>
      have L:k<xs.length:=by simpa using g
      have:=ih3 k L (by simpa using s);rw[List.set_cons_succ,List.countP_cons,List.countP_cons];omega
   have:=z lv k b A;omega
end
theorem qpS {b:qe}(h:blockB b=true){x:ql}(c:x ∈ linksL b)(p:x.Bc ≠ 1) :
  ∃(m s:Nat) (t:Int),b01 t∧x.Bk=2*(m:Int)+t∧x.To=2*(s:Int)+t∧(gt (places b.Aa) m).drives=true∧(gt (places b.Aa) s).drives=false:=by
 have o:=qao h;have r:=qjE h;unfold linksL at c;rcases List.mem_append.1 c with c|c
 ·obtain⟨i,hi,c⟩:=ql2 c;obtain⟨a,u,c⟩:=ql2 c;unfold arcLs at c;obtain⟨t,v,rfl⟩:=List.mem_map.1 c;exact absurd Z p
 ·obtain⟨i,hi,c⟩:=ql2 c;obtain⟨k,f,c⟩:=ql2 c;obtain⟨y,z,n,g⟩:=qmR f;have d:=(qh8 o (k:=i) (by omega)).2;unfold wl1 at c;simp only[jJ,jy,or_false] at c;have l:=(qlX.1 d).2;have d2:(gt (places b.Aa) y).drives=false:=by
   unfold snkQ at g;simp only[jf,jF] at g;exact g.2
  rcases c with c|c
  ·exact⟨_,y,0,.inl Z,by rw[c,Jf],by rw[c,Jf,n],l,d2⟩
  ·exact⟨_,y,1,.inr Z,by rw[c],by rw[c,n],l,d2⟩
theorem qrL {b:qe}(h:blockB b=true):∀ k a,k<(linksL b).length→a<(linksL b).length→(gt (linksL b) k).Bc ≠ 1→(gt (linksL b) a).Bc ≠ 1→toL (linksL b) k ≠ frL (linksL b) a:=by
 intro k a o f m n e;obtain⟨v,s,t,p,y,B,u,d2⟩:=qpS h (qjS o) m;obtain⟨d,z,A,g,l,r,c,i⟩:=qpS h (qjS f) n;have x:(gt (linksL b) k).To=(gt (linksL b) a).Bk:=e;have:s=d:=by rcases p with e|e<;>rcases g with e2|e2<;>omega
 rw[this,c] at d2;cases d2
theorem quk {b:qe}(h:blockB b=true):EvQ (fun n=>qiS n b) (fun o=>okL okI o):=by
 have m:=qiJ h;have l:=m.len;have k:=qgO h;unfold qiS;refine EvQ.bindE (qfe h) (EvQ.bindE (qlf l (by simp)) (EvQ.bindE k (EvQ.bind (qu5 m (qrL h) _ _ qk2 (Nat.lt_succ_self _)) (fun p t=>?_))));have c:∀ d j a,j+d=(linksL b).length→a.length≤j→(∀ y,y ∈ a→okI y)→EvQ (fun n=>qdg (lvB [] (linksL b).length) p n a (j:Int)) (fun o=>o.1.length≤10000∧∀ y,y ∈ o.1→okI y):=by
  intro d
  induction d with
  | zero=>
   intro j a s g f;refine EvQ.succ ?_;simp only[qdg,qk2];exact EvQ.ff (qq (by omega)) (EvQ.done ⟨by dsimp only;omega,f⟩)
  | succ d ih=>
   intro j a s g f;refine EvQ.succ ?_;simp only[qdg,qk2,wS j];refine EvQ.tt (qn (by omega)) (EvQ.bindN (qw (show j<p.length by omega)) (EvQ.bif (fun _=>?_) (fun _=>ih (j+1) a (by omega) (by omega) f)));exact EvQ.bindN (qcq (by omega)) (ih (j+1) _ (by omega) (by rw[jg,ji];omega) (qbQ f (qax (by omega) (by omega))))
 refine EvQ.bind (c (linksL b).length 0 [] (by omega) (je _) (fun _ u=>by cases u)) ?_;rintro⟨a,i⟩ ⟨r,g⟩;exact EvQ.done ⟨by dsimp only at r ⊢;omega,g⟩

def swV (j:qbG)(t:qB):Option Tl20Work:=V ⟨j,linksL j.Ac,lvJ j.Ac j.Bb,t⟩
theorem qsz {j:qbG}(h:qqg j) :
  (∃ code:Int,code ≠ 0∧Ev (fun n=>qfT n j) (U,code)∧∀ mode nodes,Ev (fun n=>qh1 n j mode nodes) (U,code)) ∨
  ∃ t R,WkOk j t R∧Ev (fun n=>qfT n j) (swV j t,0)∧∀ mode nodes,nodes.length≤1048576→(mode=0∨mode=1) →
   Ev (fun n=>qh1 n j mode nodes) (bif nodes.all (fun x=>inI x 0 ((ndB j.Ac:Int)-1)) then(wkV j t R,0) else(U,4)):=by
 have c:=h.Bb.len;unfold qfT qh1;rcases qux h with⟨code,hne,hs,hi⟩|⟨t,R,hw,hs,hi⟩
 ·exact .inl ⟨code,hne,Ev.bind hs (Ev.tt (qkd hne) .done),fun mode nodes=>Ev.bind hi (Ev.tt (qkd hne) .done)⟩
 ·have a:=hw.tg.bl;have d:=qgH a;have g:=qaE (qW (qao a));have l:=qlf (ls:=linksL j.Ac) (br:=j.Bb) d c;refine .inr ⟨t,R,hw,Ev.bind hs (Ev.ff Z (Ev.bind (qfe a) (Ev.bind l .done))),fun mode nodes k i=>Ev.bind hi (Ev.ff Z ?_)⟩;have f:=qm1 (v:=viewV j.Ac) g;have e1:W64 (((2*(viewV j.Ac).places.length:Nat):Int)-1)=(ndB j.Ac:Int)-1:=by
   show W64 (((2*(places j.Ac.Aa).length:Nat):Int)-1)=_;rw[qU (by omega) (by omega)]
  unfold wkV grB;simp only[jd,f,e1];refine Ev.bind (qfk k) ?_;cases nodes.all fun x=>inI x 0 ((ndB j.Ac:Int)-1)
  ·exact Ev.tt Z .done
  ·refine Ev.ff Z ?_;rcases i with rfl|rfl<;>exact Ev.bind (b:=true) (Ev.now Z) (Ev.ff Z .done)
theorem qqx {j:qbG}{t:qB}{node:Int}(h:j.Ay.length≤1048576):Ev (fun n=>qiw n (swV j t) node) ((srcV (srcO j.Ay node)).2,(srcV (srcO j.Ay node)).1):=by
 have g:Ev (fun n=>qcN (swV j t) node n 0) (match srcO j.Ay node with|some y=>.ret (y,true)|none=>.nxt (j.Ay.length:Int)):=by
  have c:∀ d i,i+d=j.Ay.length→(j.Ay.take i).find? (fun s=>s.Bm==node)=U→Ev (fun n=>qcN (swV j t) node n (i:Int)) (match srcO j.Ay node with|some y=>.ret (y,true)|none=>.nxt (j.Ay.length:Int)):=by
   intro d
   induction d with
   | zero=>
    intro i hi b;obtain rfl:i=j.Ay.length:=by omega
    rw[jC] at b;unfold srcO;rw[b];refine Ev.succ ?_;simp only[qcN,swV,jd,qq (je _),cond_false];exact .done
   | succ d ih=>
    intro i hi b;have a:i<j.Ay.length:=by omega
    refine Ev.succ ?_;simp only[qcN,swV,jd,qn a,cond_true,qw a,wS i];cases hq:(gt j.Ay i).Bm==node
    ·refine ih (i+1) (by omega) ?_;rw[jw a,List.find?_append,b,←qef a,List.find?_cons_of_neg (by simp[hq])]
     rfl
    ·have f:j.Ay.drop i=gt j.Ay i::j.Ay.drop (i+1):=by rw[qef a];exact jH a
     have:srcO j.Ay node=V (gt j.Ay i):=by
      generalize gt j.Ay i=y at hq f;unfold srcO;rw[←List.take_append_drop i j.Ay,List.find?_append,b,f,List.find?_cons_of_pos (by simpa using hq)]
      rfl
     rw[this];exact .done
  exact c j.Ay.length 0 (by omega) Z
 unfold qiw;refine Ev.bind g ?_;cases srcO j.Ay node<;>exact .done
def atP (ls:List ql)(start:Int)(a:List Int):Nat→Int
 | 0=>start
 | j+1=>(gt ls (at0 a j).toNat).To
def okP (ls:List ql)(lv:List Bool)(start:Int)(a:List Int)(j:Nat):Bool:=
 inI (at0 a j) 0 ((ls.length:Int)-1)&&(gt lv (at0 a j).toNat&&((gt ls (at0 a j).toNat).Bk==atP ls start a j))
theorem inRange {x:Int}{m:Nat}(h:inI x 0 ((m:Int)-1)=true):0≤x∧x<(m:Int)∧x.toNat<m:=by rw[qa5] at h;omega

section
variable {code:List (IntK .u8)}{a s:Int}
theorem qsw {α:Type}{P:α→Prop}{x y z:α}{i:Int}(d:0≤i)(f:i<3)(a:P x)(b:P y)(c:P z):∃ v,idx [x,y,z] i=V v∧P v:=by
 have:i=0∨i=1∨i=2:=by omega
 rcases this with rfl|rfl|rfl
 ·exact⟨x,rfl,a⟩
 ·exact⟨y,rfl,b⟩
 ·exact⟨z,rfl,c⟩
theorem ql0 {x:Int}(a:-2000000000≤x)(b:x≤2000000000):okI x:=qax (by omega) (by omega)
theorem qtZ (c:CodeOk code)(h:SrcI code a s):EvQ (fun n=>qf5 n ⟨code,a,s⟩) (fun o=>qno o.1∧SrcI code o.2.1 o.2.2):=by
 unfold qf5;refine EvQ.bind (qam 3 c h) ?_;rintro⟨M,N,O⟩ ⟨⟨⟨k,p1⟩,_⟩,b⟩;dsimp only at k p1 b ⊢;obtain⟨Y,f,d⟩:=qsw (P:=okS) (x:=(⟨#[115,108,111,119]⟩:ByteArray)) (y:=(⟨#[102,97,115,116]⟩:ByteArray)) (z:=(⟨#[116,121,112]⟩:ByteArray)) k (p1 (by decide)) (by show(4:Nat)≤1048576;decide) (by show(4:Nat)≤1048576;decide) (by show(3:Nat)≤1048576;decide);refine EvQ.bindN f (EvQ.bind (qam 20 c b) ?_);rintro⟨Q,R,S⟩ ⟨_,b⟩;refine EvQ.bind (qam 20 c b) ?_;rintro⟨T,W,X⟩ ⟨_,b⟩;refine EvQ.bind (qam 60 c b) ?_;rintro⟨p,r,t⟩ ⟨_,b⟩;refine EvQ.bind (qam 40 c b) ?_;rintro⟨u,v,A⟩ ⟨_,b⟩;refine EvQ.bind (qam 30 c b) ?_;rintro⟨B,C,D⟩ ⟨_,b⟩;dsimp only at b ⊢;refine EvQ.bif (fun _=>EvQ.done ⟨⟨d,qaJ _,qaJ _,qaJ _,qaJ _⟩,b⟩) (fun _=>EvQ.bif (fun _=>EvQ.bind (qam 3 c b) ?_) (fun _=>EvQ.bif (fun _=>EvQ.bind (qam 2 c b) ?_) (fun _=>EvQ.bif (fun _=>EvQ.done ⟨⟨by show(0:Nat)≤1048576;decide,qaJ _,qaJ _,qaJ _,qaJ _⟩,b⟩) (fun _=>EvQ.done ⟨⟨d,qaJ _,qaJ _,qaJ _,qaJ _⟩,b⟩))))
 ·rintro⟨F,H,I⟩ ⟨⟨⟨l,m⟩,_⟩,b⟩;dsimp only at l m b ⊢;obtain⟨e,g,i⟩:=qsw (P:=okI) (x:=(99:Int)) (y:=100) (z:=-1) l (m (by decide)) (ql0 (by decide) (by decide)) (ql0 (by decide) (by decide)) (ql0 (by decide) (by decide));exact EvQ.bindN g (EvQ.done ⟨⟨d,qaJ _,qaJ _,i,qaJ _⟩,b⟩)
 ·rintro⟨J,K,L⟩ ⟨_,b⟩;exact EvQ.done ⟨⟨d,qaJ _,qaJ _,qaJ _,qaJ _⟩,b⟩
theorem qq9 (d:CodeOk code)(h:SrcI code a s):EvQ (fun n=>qgv n ⟨code,a,s⟩) (fun o=>BlkO o.1∧SrcI code o.2.1 o.2.2):=by
 unfold qgv;refine EvQ.bind (qam 12 d h) ?_;rintro⟨k,l,m⟩ ⟨_,b⟩;dsimp only at b ⊢;refine EvQ.bif (fun _=>EvQ.bind (qrH d b) ?_) (fun _=>EvQ.bif (fun _=>EvQ.bif (fun _=>EvQ.bind (qme (by decide) (by decide) d b) ?_) (fun _=>EvQ.bind (qme (by decide) (by decide) d b) ?_)) (fun _=>EvQ.bif (fun _=>EvQ.bind (qme (by decide) (by decide) d b) ?_) (fun _=>EvQ.bind (qme (by decide) (by decide) d b) ?_)))
 ·rintro⟨r,f,g⟩ i;exact EvQ.done i
 ·rintro⟨r,f,g⟩ ⟨c,b⟩;exact EvQ.done ⟨⟨c.ok,c.des.sm⟩,b⟩
 ·rintro⟨r,f,g⟩ ⟨c,b⟩;exact EvQ.done ⟨⟨c.ok,c.des.sm⟩,b⟩
 ·rintro⟨r,f,g⟩ ⟨c,b⟩;exact EvQ.done ⟨⟨c.ok,c.des.sm⟩,b⟩
 ·rintro⟨r,f,g⟩ ⟨c,b⟩;exact EvQ.done ⟨⟨c.ok,c.des.sm⟩,b⟩
theorem qtC {b:qe}(D:BlkO b)(k:CodeOk code)(h:SrcI code a s):EvQ (fun n=>qf4 n ⟨code,a,s⟩ b) (fun o=>okL okI o.1∧SrcI code o.2.1 o.2.2):=by
 unfold qf4;refine EvQ.bind (R:=fun o:Int×Int×Bool=>SrcI code o.1 o.2.1∧(o.2.2=false→blockB b=true)) (EvQ.bindE (qhM D.ok) (EvQ.bif (fun _=>EvQ.done ⟨h,fun e=>by cases e⟩) (fun g=>EvQ.bind (qam 3 k h) ?_))) ?_
 ·rintro⟨X,Y,a3⟩ ⟨_,c⟩;exact EvQ.done ⟨c,fun _=>by simpa using g⟩
 rintro⟨i1,i2,b1⟩ ⟨c,g⟩;dsimp only at c g ⊢;refine EvQ.bif (fun _=>EvQ.done ⟨⟨Jh _,fun _ h=>by cases h⟩,c⟩) (fun u=>?_);have g:=g u;have I:=qgH g;refine EvQ.bindE (qfe g) (EvQ.bind (qam 8 k c) ?_);rintro⟨v,i4,i5⟩ ⟨⟨⟨p0,p1⟩,_⟩,c⟩;dsimp only at p0 p1 c ⊢;have p2:=p1 (by decide);have z:W64 (1+v)=1+v:=qU (by omega) (by omega);rw[z];refine EvQ.bind (qam _ k c) ?_;rintro⟨A,i7,i8⟩ ⟨⟨⟨q0,B⟩,_⟩,c⟩;dsimp only at q0 B c ⊢;have q2:=B (by omega);obtain⟨j,rfl⟩:∃ j:Nat,A=(j:Int):=⟨A.toNat,by omega⟩;have m:∀ (d j:Nat) (x:List Int) (p r:Int),SrcI code p r→(linksL b).length≤j+d→x.length≤j→j≤(linksL b).length+8→(∀ y,y ∈ x→okI y) →
   EvQ (fun n=>qci ⟨code,a,s⟩ (linksL b) v n x p r (j:Int)) (fun o=>(o.1.length≤20000∧∀ y,y ∈ o.1→okI y)∧SrcI code o.2.1 o.2.2.1):=by
  intro d
  induction d with
  | zero=>
   intro j x p r c F J H f;refine EvQ.succ ?_;simp only[qci];exact EvQ.ff (qq (by omega)) (EvQ.done ⟨⟨by dsimp only;omega,f⟩,c⟩)
  | succ d ih=>
   intro j x p r c F J H f;refine EvQ.succ ?_;simp only[qci,z];refine EvQ.bif (fun l=>?_) (fun _=>EvQ.done ⟨⟨by dsimp only;omega,f⟩,c⟩);have l:j<(linksL b).length:=by have:=of_decide_eq_true l;omega
   refine EvQ.bindN (qcq (by omega)) (EvQ.bind (qam _ k c) ?_);rintro⟨i,M,N⟩ ⟨⟨⟨t0,C⟩,_⟩,c⟩;dsimp only at t0 C c ⊢;have t2:=C (by omega);have e1:W64 ((j:Int)+W64 (1+i))=((j+(1+i.toNat):Nat):Int):=by rw[wO (1+i),qU (by omega) (by omega)];omega
   rw[e1];exact ih _ _ _ _ c (by omega) (by rw[jg,ji];omega) (by omega) (qbQ f (ql0 (by omega) (by omega)))
 refine EvQ.bind (m (linksL b).length j [] i7 i8 c (by omega) (Jh _) (by omega) (fun _ h=>by cases h)) ?_;rintro⟨x1,i9,K,L⟩ ⟨⟨l1,t⟩,c⟩;dsimp only at l1 t c ⊢;refine EvQ.bind (qam 12 k c) ?_;rintro⟨O,P,Q⟩ ⟨_,c⟩;dsimp only at c ⊢;refine EvQ.bif (fun _=>EvQ.bind (qam 2 k c) ?_) (fun _=>EvQ.done ⟨⟨by dsimp only;omega,t⟩,c⟩);rintro⟨S,T,W⟩ ⟨_,c⟩;exact EvQ.bindN (qcq (by omega)) (EvQ.done ⟨⟨by show(_++_:List Int).length≤_;rw[jg,ji];omega,qbQ t (qaJ _)⟩,c⟩)
theorem qp7 {b:qe}(B:BlkO b)(p:CodeOk code)(h:SrcI code a s):EvQ (fun n=>qd3 n ⟨code,a,s⟩ b) (fun o=>okL qg9 o.1∧SrcI code o.2.1 o.2.2):=by
 have O:=qaE B.sm;have two:∀ {I:Int} {b1:Bool} (d j:Nat) (x:List qi) (l m:Int),SrcI code l m→j+d=2→x.length+d≤1000→(∀ y,y ∈ x→qg9 y) →
   EvQ (fun n=>qbF ⟨code,a,s⟩ I b1 n x l m (j:Int)) (fun o=>(o.1.length≤x.length+d∧∀ y,y ∈ o.1→qg9 y)∧SrcI code o.2.1 o.2.2.1):=by
  intro I b1 d
  induction d with
  | zero=>
   intro j x l m c C F f;obtain rfl:j=2:=by omega
   refine EvQ.succ ?_;simp only[qbF];exact EvQ.ff Z (EvQ.done ⟨⟨je _,f⟩,c⟩)
  | succ d ih=>
   intro j x l m c C F f;refine EvQ.succ ?_;simp only[qbF,wS j];refine EvQ.tt (decide_eq_true (by omega)) (EvQ.bind (R:=fun o:Int×Int×Bool=>SrcI code o.1 o.2.1) (EvQ.bif (fun _=>EvQ.bind (qam 8 p c) ?_) (fun _=>EvQ.bind (qam 24 p c) ?_)) ?_)
   ·rintro⟨a6,a7,a8⟩ ⟨_,c⟩;refine EvQ.bif (fun _=>EvQ.done c) (fun _=>EvQ.bind (qam 24 p c) ?_);rintro⟨a9,b4,b5⟩ ⟨_,c⟩;exact EvQ.done c
   ·rintro⟨b6,b7,b8⟩ ⟨_,c⟩;exact EvQ.done c
   rintro⟨i7,i8,b2⟩ c;dsimp only at c ⊢;refine EvQ.bif (fun _=>EvQ.bind (qam 200 p c) ?_) (fun _=>(ih (j+1) x i7 i8 c (by omega) (by omega) f).mono fun o t=>⟨⟨by have:=t.1.1;omega,t.1.2⟩,t.2⟩);rintro⟨i9,P,Q⟩ ⟨_,c⟩;refine EvQ.bind (qam 30 p c) ?_;rintro⟨H,S,T⟩ ⟨⟨⟨t0,L⟩,_⟩,c⟩;refine EvQ.bind (qam 40 p c) ?_;rintro⟨X,Y,e⟩ ⟨_,c⟩;refine EvQ.bind (qam 12 p c) ?_;rintro⟨a3,a4,a5⟩ ⟨_,c⟩;dsimp only at t0 L c ⊢;have t2:=L (by decide);refine EvQ.bindN (qcq (by omega)) ((ih (j+1) _ _ _ c (by omega) (by rw[jg,ji];omega) (qbQ f ⟨qaJ _,⟨qaJ _,qaJ _⟩,⟨ql0 (x:=H) (by omega) (by omega),qaJ _⟩⟩)).mono fun o t=>⟨⟨by have:=t.1.1;rw[jg,ji] at this;omega,t.1.2⟩,t.2⟩)
 unfold qd3;refine EvQ.bindE (qhM B.ok) (EvQ.bif (fun _=>EvQ.done ⟨⟨Jh _,fun _ h=>by cases h⟩,h⟩) (fun _=>EvQ.bindE (qf3 B.sm) ?_));have D:((places b.Aa).map toSp).length=(places b.Aa).length:=jx ..;generalize (places b.Aa).map toSp=ps at D ⊢;have A:∀ (d j:Nat) (x:List qi) (l m:Int),SrcI code l m→j+d=ps.length→x.length≤2*j→(∀ y,y ∈ x→qg9 y) →
   EvQ (fun n=>qb4 ⟨code,a,s⟩ ps n x l m (j:Int)) (fun o=>(o.1.length≤156∧∀ y,y ∈ o.1→qg9 y)∧SrcI code o.2.1 o.2.2.1):=by
  intro d
  induction d with
  | zero=>
   intro j x l m c C F f;refine EvQ.succ ?_;simp only[qb4];exact EvQ.ff (qq (by omega)) (EvQ.done ⟨⟨by dsimp only;omega,f⟩,c⟩)
  | succ d ih=>
   intro j x l m c C F f;have r:j<ps.length:=by omega
   refine EvQ.succ ?_;simp only[qb4,wS j];refine EvQ.tt (qn r) (EvQ.bind (R:=fun _=>True) (EvQ.bindN (qbe r) (EvQ.bif (fun _=>EvQ.bindN (qbe r) (EvQ.done trivial)) (fun _=>EvQ.done trivial))) (fun b1 _=>?_));refine EvQ.bind (two 2 0 x l m c Z (by omega) f) ?_;rintro⟨x2,i4,i5,i6⟩ ⟨⟨l2,N⟩,c⟩;exact ih (j+1) x2 i4 i5 c (by omega) (by dsimp only at l2;omega) N
 refine EvQ.bind (A ps.length 0 [] a s h (by omega) (je _) (fun _ h=>by cases h)) ?_;rintro⟨J,i1,i2,I⟩ ⟨⟨l1,u⟩,c⟩;dsimp only at l1 u c ⊢;refine EvQ.bif (fun g=>?_) (fun _=>EvQ.done ⟨⟨by dsimp only;omega,u⟩,c⟩);have g:0<J.length:=by have:=of_decide_eq_true g;omega
 refine EvQ.bind (qam _ p c) ?_;rintro⟨z,b9,c0⟩ ⟨⟨⟨q0,K⟩,_⟩,c⟩;dsimp only at q0 K c ⊢;have q2:=K (by omega);obtain⟨k,rfl⟩:∃ k:Nat,z=(k:Int):=⟨z.toNat,by omega⟩;have v:k<J.length:=by omega
 have i:=u _ (jo v);have M:=u _ (jo g);have W:∀ {y:qi},qg9 y→okL qg9 (setS J (k:Int) y):=fun {y} h=>⟨by rw[qaZ];omega,qij u h⟩;refine EvQ.bind (qam 30 p c) ?_;rintro⟨c2,c3,c4⟩ ⟨_,c⟩;dsimp only at c ⊢;refine EvQ.bif (fun _=>EvQ.bindN (qbe (j:=0) g) (EvQ.bindN (qbe v) (EvQ.done ⟨W ⟨M.Bm,i.Ai,i.Bd⟩,c⟩))) (fun _=>EvQ.bif (fun _=>EvQ.bindN (qbe v) (EvQ.bindN (qbe v) (EvQ.done ⟨W ⟨i.Bm,⟨qaJ _,i.Ai.Bg⟩,i.Bd⟩,c⟩))) (fun _=>EvQ.bif (fun _=>EvQ.bindN (qbe v) (EvQ.done ⟨W ⟨i.Bm,i.Ai,⟨ql0 (x:=-1) (by decide) (by decide),i.Bd.Bg⟩⟩,c⟩)) (fun _=>EvQ.bif (fun _=>EvQ.bindN (qbe v) (EvQ.done ⟨W ⟨i.Bm,⟨i.Ai.Ar,ql0 (x:=1000000000) (by decide) (by decide)⟩,i.Bd⟩,c⟩)) (fun _=>EvQ.done ⟨⟨by dsimp only;omega,u⟩,c⟩))))
structure CasI (b:qe)(c:qx)(br:List Int)(xs:List qi):Prop where
 bl:BlkO b
 co:qno c
 br_:okL okI br
 sr:okL qg9 xs
theorem qtP (d:CodeOk code)(h:SrcI code a s):EvQ (fun n=>qg5 n ⟨code,a,s⟩) (fun o=>CasI o.1 o.2.1 o.2.2.1 o.2.2.2.1∧SrcI code o.2.2.2.2.1 o.2.2.2.2.2):=by
 unfold qg5;refine EvQ.bind (qq9 d h) ?_;rintro⟨r1,J,K⟩ ⟨c,b⟩;refine EvQ.bind (qtZ d b) ?_;rintro⟨T,L,M⟩ ⟨f,b⟩;refine EvQ.bind (qam 3 d b) ?_;rintro⟨N,O,P⟩ ⟨_,b⟩;dsimp only at c f b ⊢;refine EvQ.bind (R:=fun o:qe×Int×Int=>BlkO o.1∧SrcI code o.2.1 o.2.2) (EvQ.bif (fun _=>EvQ.bind (qme (by decide) (by decide) d b) ?_) (fun _=>EvQ.done ⟨c,b⟩)) ?_
 ·rintro⟨r9,F,H⟩ ⟨c,b⟩;exact EvQ.done ⟨⟨c.ok,c.des.sm⟩,b⟩
 rintro⟨I,Q,S⟩ ⟨c,b⟩;dsimp only at c b ⊢;refine EvQ.bind (qtC c d b) ?_;rintro⟨W,r,t⟩ ⟨g,b⟩;dsimp only at g b ⊢;refine EvQ.bind (R:=fun o:Int×Int×Bool=>SrcI code o.1 o.2.1∧(o.2.2=true→blockB I=true)) (EvQ.bindE (qhM c.ok) (EvQ.bif (fun i=>EvQ.bif (fun _=>EvQ.bind (qam 6 d b) ?_) (fun _=>EvQ.done ⟨b,fun e=>by cases e⟩)) (fun _=>EvQ.done ⟨b,fun e=>by cases e⟩))) ?_
 ·rintro⟨B,C,D⟩ ⟨_,b⟩;exact EvQ.done ⟨b,fun _=>i⟩
 rintro⟨u,v,b1⟩ ⟨b,i⟩;dsimp only at b i ⊢;refine EvQ.bif (fun k=>EvQ.bind (quk (i k)) (fun X l=>EvQ.bind (qp7 c d b) ?_)) (fun _=>EvQ.bind (qp7 c d b) ?_)
 ·rintro⟨Y,x,y⟩ ⟨m,b⟩;exact EvQ.done ⟨⟨c,f,l,m⟩,b⟩
 ·rintro⟨r7,z,A⟩ ⟨p,b⟩;exact EvQ.done ⟨⟨c,f,g,p⟩,b⟩
structure JobI (j:qbG):Prop where
 ok:qqg j
 sm:smallD j.Ac.Aa
theorem qv3 (c:CodeOk code)(h:SrcI code a s):EvQ (fun n=>qhv n ⟨code,a,s⟩) (fun o=>JobI o.1∧SrcI code o.2.1 o.2.2):=by
 unfold qhv;refine EvQ.bind (qtP c h) ?_;rintro⟨r1,i,k,l,f,g⟩ ⟨b,d⟩;exact EvQ.done ⟨⟨⟨b.bl.ok,b.co,b.br_,b.sr⟩,b.bl.sm⟩,d⟩
theorem quf {b:qe}(h:smallD b.Aa):Ev (fun n=>qaY n b) ((2*(places b.Aa).length:Nat):Int):=by
 have a:=qaE h;unfold qaY;refine Ev.bind (b:=(places b.Aa).map toSp) (qf3 h) (Ev.now ?_);rw[jx,qU (by omega) (by omega)]
 rfl
theorem qvn {j:qbG}(v:JobI j)(u:CodeOk code)(h:SrcI code a s):EvQ (fun n=>qg7 n ⟨code,a,s⟩ j) (fun o=>okI o.1∧SrcI code o.2.1 o.2.2):=by
 have i:=quf v.sm;have H:=qaE v.sm;unfold qg7;rcases qsz v.ok with⟨code',hne,hs',_⟩|⟨t,R,hw,hs',_⟩
 ·refine EvQ.bindE hs' (EvQ.bindE i (EvQ.bind (qam _ u h) ?_));rintro⟨e,C,D⟩ ⟨_,b⟩;dsimp only at b ⊢;have F:EvQ (fun n=>qd4 ⟨code,a,s⟩ code' ((2*(places j.Ac.Aa).length:Nat):Int) n C D 0) (fun o=>SrcI code o.1 o.2):=by
   refine EvQ.succ ?_;simp only[qd4];exact EvQ.bind (R:=fun o=>o=(C,D,false)) (EvQ.tt Z (EvQ.ff (by simpa using hne) (EvQ.done Z))) (fun o y=>by subst y;exact EvQ.done b)
  refine EvQ.bind F ?_;rintro⟨i8,i9⟩ b;exact EvQ.done ⟨qaJ _,b⟩
 ·obtain⟨B,x4,x5⟩:=t;unfold swV at hs';have I:B.length=2*(places j.Ac.Aa).length:=hw.tm.r;refine EvQ.bindE hs' (EvQ.bindE i (EvQ.bind (qam _ u h) ?_));rintro⟨J,z,A⟩ ⟨_,b⟩;dsimp only at b ⊢;have p:∀ (d f:Nat) (c g r:Int),f+d=12→SrcI code g r→okI c→EvQ (fun n=>qbL ⟨code,a,s⟩ B ((2*(places j.Ac.Aa).length:Nat):Int) n g r c (f:Int)) (fun o=>SrcI code o.1 o.2.1∧okI o.2.2):=by
   intro d
   induction d with
   | zero=>
    intro f c g r x b hi;obtain rfl:f=12:=by omega
    refine EvQ.succ ?_;simp only[qbL];exact EvQ.bind (R:=fun o=>o=(g,r,false)) (EvQ.ff Z (EvQ.done Z)) (fun o y=>by subst y;exact EvQ.done ⟨b,hi⟩)
   | succ d ih=>
    intro f c g r x b hi;refine EvQ.succ ?_;simp only[qbL,wS f];refine EvQ.bind (R:=fun o:Int×Int×Bool=>SrcI code o.1 o.2.1) (EvQ.tt (decide_eq_true (by omega)) (EvQ.tt Z (EvQ.bind (qam 16 u b) ?_))) ?_
    ·rintro⟨S,T,W⟩ ⟨_,b⟩;exact EvQ.done b
    rintro⟨N,O,b2⟩ b;dsimp only at b ⊢;refine EvQ.bif (fun _=>EvQ.bind (qam _ u b) ?_) (fun _=>EvQ.done ⟨b,hi⟩);rintro⟨m,P,Q⟩ ⟨⟨⟨X,Y⟩,_⟩,b⟩;dsimp only at X Y b ⊢;refine EvQ.bif (fun l=>?_) (fun _=>ih (f+1) _ _ _ (by omega) b hi);have l:=of_decide_eq_true l;obtain⟨k,rfl⟩:∃ k:Nat,m=(k:Int):=⟨m.toNat,by omega⟩;exact EvQ.bindN (qbe (show k<B.length by omega)) (EvQ.bif (fun _=>ih (f+1) _ _ _ (by omega) b (ql0 (by omega) (by omega))) (fun _=>ih (f+1) _ _ _ (by omega) b hi))
  refine EvQ.bind (p 12 0 _ z A Z b (qaJ _)) ?_;rintro⟨K,L,M⟩ ⟨b,hi⟩;exact EvQ.done ⟨hi,b⟩
end

section
variable {code:List (IntK .u8)}
theorem qui (a:CodeOk code):EvQ (fun n=>qdi n code) (fun o=>JobI o.1∧okI o.2):=by
 obtain⟨s,d,b⟩:=qrX a;unfold qdi;refine EvQ.bindE d (EvQ.bind (qv3 a b) ?_);rintro⟨j,f,g⟩ ⟨c,b⟩;refine EvQ.bind (qvn c a b) ?_;rintro⟨h,i,k⟩ ⟨hi,_⟩;exact EvQ.done ⟨c,hi⟩
end

def mn6 (x:Int):Int:=if x<1000000 then x else 1000000
theorem qvS {x:Int}:(if 1000000<x then 1000000 else x)=mn6 x:=by unfold mn6;split<;>split<;>omega
def ctS (ls:List ql)(lv:List Bool)(c:List Int)(node:Int)(a:Int)(j:Nat):Int:=(selN (toQ ls lv node) j).foldl (fun v k=>mn6 (W64 (v+gt c (frN ls k)))) a
theorem qoZ {ls:List ql}{lv:List Bool}{c:List Int}{node a:Int}{j:Nat}:ctS ls lv c node a (j+1)=bif toQ ls lv node j then mn6 (W64 (ctS ls lv c node a j+gt c (frN ls j))) else ctS ls lv c node a j:=by
 unfold ctS;rw[qjz,List.foldl_append];cases toQ ls lv node j<;>rfl
theorem qr5 {α:Type}{xs:List α}{k:Nat}{u v:α}:setS (setS xs (k:Int) u) (k:Int) v=setS xs (k:Int) v:=by
 unfold setS;rw[List.set_set]
def st0 (j:qbG)(node:Int):Int:=bif (srcV (srcO j.Ay node)).1 then 1 else 0
theorem qsR {ls:List ql}{lv:List Bool}{c c':List Int}{node a:Int}:∀ j,(∀ x,x<j→toQ ls lv node x=true→gt c (frN ls x)=gt c' (frN ls x))→ctS ls lv c node a j=ctS ls lv c' node a j:=by
 intro j
 induction j with
 | zero=>intro _;rfl
 | succ j ih=>
  intro h;rw[qoZ,qoZ,ih fun x b=>h x (by omega)];cases hq:toQ ls lv node j
  ·rfl
  ·simp only[cond_true];rw[h j (by omega) hq]
theorem qr4 {j:qbG}{t:qB}{R:List Nat}(h:qqg j)(T:WkOk j t R):∃ c:List Int,c.length=ndB j.Ac∧(∀ k,k<ndB j.Ac→gt c k=ctS (linksL j.Ac) (lvJ j.Ac j.Bb) c (k:Int) (st0 j (k:Int)) (lkB j.Ac)) ∧
  ∀ node,node<ndB j.Ac→Ev (fun n=>(qgB n (swV j t)).bind fun r4=>(idx r4 (node:Int)).bind fun y1=>V (y1,(0:Int))) (gt c node,0)∧Ev (fun n=>qft n (wkV j t R) (node:Int)) (gt c node):=by
 have h1:=T.tg.bl;have Y:=h.Ay.len;have u:=qiJ h1;have hll:=u.len;have J:(lvJ j.Ac j.Bb).length=lkB j.Ac:=qk2;have hpl:=qaE (qW (qao h1));have H:=qgO h1;have A:=qm1 (v:=viewV j.Ac) hpl;have epl:(viewV j.Ac).places.length=(places j.Ac.Aa).length:=rfl;rw[epl] at A;have hRl:=T.tg.len;have B:=qpE (lv:=lvJ j.Ac j.Bb) u J;have eo:ordR (linksL j.Ac) (lvJ j.Ac j.Bb) (2*(places j.Ac.Aa).length)=(ints R,true):=by unfold ordR;rw[show ordL (linksL j.Ac) (lvJ j.Ac j.Bb) (2*(places j.Ac.Aa).length) (2*(places j.Ac.Aa).length) []=V R from T.tg.or_]
 rw[eo] at B;have eM:ndB j.Ac=2*(places j.Ac.Aa).length:=rfl;have f:=T.tg.ord;generalize hM0:ndB j.Ac=M at hRl eM ⊢;rw[hM0] at f;rw[←eM] at H A B;have hM:M≤156:=by omega
 have main:∀ d i c,i+d=R.length→c.length=M→(∀ k,k<M→k ∉ R.take i→gt c k=0)→(∀ k,k<M→k ∈ R.take i→gt c k=ctS (linksL j.Ac) (lvJ j.Ac j.Bb) c (k:Int) (st0 j (k:Int)) (lkB j.Ac))→∃ c':List Int,c'.length=M∧(∀ k,k<M→k ∈ R→gt c' k=ctS (linksL j.Ac) (lvJ j.Ac j.Bb) c' (k:Int) (st0 j (k:Int)) (lkB j.Ac)) ∧
   Ev (fun n=>qdH (swV j t) ⟨j,linksL j.Ac,lvJ j.Ac j.Bb,t⟩ (ints R) n c (i:Int)) (c',(R.length:Int)) ∧
   Ev (fun n=>qb3 ⟨grB j.Ac j.Bb,j,t,ints R⟩ ⟨V (viewV j.Ac),lvJ j.Ac j.Bb⟩ n c (i:Int)) (c',(R.length:Int)):=by
  intro d
  induction d with
  | zero=>
   intro i c hi hc _ C;obtain rfl:i=R.length:=by omega
   rw[jC] at C;refine⟨c,hc,C,Ev.succ ?_,Ev.succ ?_⟩
   ·simp only[qdH,qbt,qq (je _),cond_false];exact .done
   ·simp only[qb3,qbt,qq (je _),cond_false];exact .done
  | succ d ih=>
   intro i c hi hc hz C;have z:i<R.length:=by omega
   obtain⟨k1,k2,k3⟩:=T.tg.ord.at z;rw[hM0] at k1;have I:=qkj z;have D:R.take (i+1)=R.take i++[R[i]]:=jw z;generalize R[i]=k at k1 k2 k3 I D;have hS:=qqx (j:=j) (t:=t) (node:=(k:Int)) Y;have hI:=qrp (xs:=j.Ay) (node:=(k:Int)) Y;have hz0:=hz k k1 k2;have g:k<c.length:=by omega
   obtain⟨o,L⟩:∃ o:Int,o=st0 j (k:Int):=⟨_,rfl⟩;have sL:Ev (fun n=>qcd ⟨j,linksL j.Ac,lvJ j.Ac j.Bb,t⟩ c (k:Int) n o 0) (ctS (linksL j.Ac) (lvJ j.Ac j.Bb) c (k:Int) o (lkB j.Ac),(lkB j.Ac:Int)):=by
    have:=loopF (Lf:=fun n s x=>qcd ⟨j,linksL j.Ac,lvJ j.Ac j.Bb,t⟩ c (k:Int) n s x) (S:=ctS (linksL j.Ac) (lvJ j.Ac j.Bb) c (k:Int) o) (len:=lkB j.Ac) (fin:=(ctS (linksL j.Ac) (lvJ j.Ac j.Bb) c (k:Int) o (lkB j.Ac),(lkB j.Ac:Int)))
     (fun n=>by simp only[qcd,qq (je _),cond_false])
     (fun x m X r=>by
      obtain⟨e1,e2⟩:=qks u m;rw[←eM] at e2;rw[qoZ] at r;have F:x<(linksL j.Ac).length:=m;simp only[qcd,qn F,cond_true,qw F,qw (show x<(lvJ j.Ac j.Bb).length by rw[J];exact m),jd,e1,qw (show frN (linksL j.Ac) x<c.length by omega),wS x];unfold toQ lvL toL at r;cases hv:gt (lvJ j.Ac j.Bb) x
      ·rw[hv] at r;exact r
      ·rw[hv] at r;cases ht:(gt (linksL j.Ac) x).To==(k:Int)
       ·rw[ht] at r;exact r
       ·rw[ht] at r;exact r)
    exact this
   have nz:∀ x,x ∈ selN (toQ (linksL j.Ac) (lvJ j.Ac j.Bb) (k:Int)) (lkB j.Ac)→x<lkB j.Ac∧frN (linksL j.Ac) x ≠ k:=fun x m=>by
    obtain⟨N,O⟩:=qhh.1 m;unfold toQ at O;rw[jf,beq_iff_eq] at O;have:=qkJ.1 k3 x N O.1 O.2;obtain⟨e1,_⟩:=qks u N;rw[show frL (linksL j.Ac) x=(frN (linksL j.Ac) x:Int) from e1,qhu] at this;exact⟨N,fun e=>k2 (by rw[←e];exact this)⟩
   have pL:Ev (fun n=>qbD ⟨V (viewV j.Ac),lvJ j.Ac j.Bb⟩ (k:Int) (ints (selN (toQ (linksL j.Ac) (lvJ j.Ac j.Bb) (k:Int)) (lkB j.Ac))) n (setS c (k:Int) o) 0) (setS c (k:Int) (ctS (linksL j.Ac) (lvJ j.Ac j.Bb) c (k:Int) o (lkB j.Ac)),((ints (selN (toQ (linksL j.Ac) (lvJ j.Ac j.Bb) (k:Int)) (lkB j.Ac))).length:Int)):=by
    have hsl:(selN (toQ (linksL j.Ac) (lvJ j.Ac j.Bb) (k:Int)) (lkB j.Ac)).length≤10000:=jX qiX hll;have:=(qpM (τ:=Int) (xs:=selN (toQ (linksL j.Ac) (lvJ j.Ac j.Bb) (k:Int)) (lkB j.Ac)) (Lf:=fun n v x=>qbD ⟨V (viewV j.Ac),lvJ j.Ac j.Bb⟩ (k:Int) (ints (selN (toQ (linksL j.Ac) (lvJ j.Ac j.Bb) (k:Int)) (lkB j.Ac))) n (setS c (k:Int) v) x)
     (step:=fun v x=>mn6 (W64 (v+gt c (frN (linksL j.Ac) x)))) (fin:=fun v=>(setS c (k:Int) v,((ints (selN (toQ (linksL j.Ac) (lvJ j.Ac j.Bb) (k:Int)) (lkB j.Ac))).length:Int))) o (fun _ _=>True) trivial (fun _ _ _ _=>trivial)
     (fun n v=>by simp only[qbD,qbt,qq (je _),cond_false])
     (fun x v m _ X r=>by
      have W:=qkj m;obtain⟨N,O⟩:=nz _ (jo m);generalize (selN (toQ (linksL j.Ac) (lvJ j.Ac j.Bb) (k:Int)) (lkB j.Ac))[x]=y at W N O r;obtain⟨e1,e2⟩:=qks u N;rw[←eM] at e2;have ev:(viewV j.Ac).links=linksL j.Ac:=rfl;have i1:idx (setS c (k:Int) v) (k:Int)=V v:=by rw[qw (by rw[qaZ];exact g),qfW g,if_pos Z]
      have i2:idx (setS c (k:Int) v) (frN (linksL j.Ac) y:Int)=V (gt c (frN (linksL j.Ac) y)):=by rw[qw (by rw[qaZ];omega),qfW g,if_neg O]
      simp only[qbD,qbt,qn m,cond_true,W,jd,ev,qw N,e1,i1,i2,qvS,qr5,wS x];exact r)).1
    exact this
   have near:∀ y,y<M→y ∈ R.take (i+1)→∀ x,x<lkB j.Ac→toQ (linksL j.Ac) (lvJ j.Ac j.Bb) (y:Int) x=true→gt c (frN (linksL j.Ac) x)=gt (setS c (k:Int) (ctS (linksL j.Ac) (lvJ j.Ac j.Bb) c (k:Int) o (lkB j.Ac))) (frN (linksL j.Ac) x):=fun y hy a x m Q=>by
    rw[qfW g,if_neg];rw[D,List.mem_append,List.mem_singleton] at a;rcases a with a|rfl
    ·intro e;obtain⟨p,hp,ep⟩:=List.mem_iff_getElem.1 a;rw[jB] at hp;rw[Jb] at ep;have h0:=(f.at (j:=p) (by omega)).2.2;rw[ep] at h0;unfold toQ at Q;rw[jf,beq_iff_eq] at Q;have:=qkJ.1 h0 x m Q.1 Q.2;obtain⟨e1,_⟩:=qks u m;rw[show frL (linksL j.Ac) x=(frN (linksL j.Ac) x:Int) from e1,qhu,e] at this;obtain⟨q,hq',eq⟩:=List.mem_iff_getElem.1 this;rw[jB] at hq';rw[Jb] at eq;exact k2 (List.mem_iff_getElem.2 ⟨q,by rw[jB];omega,by rw[Jb];exact eq⟩)
    ·exact(nz x (qhh.2 ⟨m,Q⟩)).2
   have sR:=ih (i+1) (setS c (k:Int) (ctS (linksL j.Ac) (lvJ j.Ac j.Bb) c (k:Int) o (lkB j.Ac))) (by omega) (by rw[qaZ];exact hc) (fun y hy K=>by
     rw[D] at K;have hne:y ≠ k:=fun e=>K (jR _ (List.mem_singleton.2 e));rw[qfW g,if_neg hne];exact hz y hy fun a=>K (jI _ a)) (fun y hy a=>by
     rw[←qsR _ (near y hy a),qfW g];split
     ·next e=>rw[e,L]
     ·next e=>
      rw[D,List.mem_append,List.mem_singleton] at a;rcases a with a|a
      ·exact C y hy a
      ·exact absurd a e)
   obtain⟨c',l',d',s',p'⟩:=sR;have ic:idx c (k:Int)=V 0:=by rw[qw g,hz0]
   refine⟨c',l',d',Ev.succ ?_,Ev.succ ?_⟩
   ·simp only[qdH,qbt,qn z,cond_true,I,jd,ic,wS i];refine Ev.bind hS (Ev.bind (b:=o) (Ev.now ?_) (Ev.bind sL s'));rw[L];unfold st0;cases (srcV (srcO j.Ay (k:Int))).1<;>rfl
   ·simp only[qb3,qbt,qn z,cond_true,I,jd,ic,wS i];refine Ev.bind hI (Ev.bind (b:=setS c (k:Int) o) (Ev.now ?_) ?_)
    ·rw[L];unfold st0;cases (srcV (srcO j.Ay (k:Int))).1
     ·simp only[cond_false];rw[qmp g hz0]
     ·rfl
    ·refine Ev.bind (qvd (b:=j.Ac) (lv:=lvJ j.Ac j.Bb) (ps:=places j.Ac.Aa) (lo:=pre (load0 j.Ac) j.Ac.Af.length) (de:=pre (exactL j.Ac) j.Ac.Af.length) (ex:=[]) u J) (Ev.bind pL p')
 have P:mkS (M:Int) (0:Int)=V (List.replicate M 0):=qj1 (by omega);obtain⟨c',l',d',s',p'⟩:=main R.length 0 (List.replicate M 0) (by omega) jL (fun k u _=>by rw[qef (by rw[jL];exact u)];simp) (fun k _ a=>by rw[List.take_zero] at a;cases a);refine⟨c',l',fun k u=>d' k u ?_,fun node hn=>⟨?_,?_⟩⟩
 ·refine Classical.byContradiction fun a=>?_;have A:R.Nodup:=by
   unfold List.Nodup;rw[List.pairwise_iff_getElem];exact fun i j' _ hj hij e=>(f.at hj).2.1 (by rw[←e,List.mem_iff_getElem];exact⟨i,by rw[jB];omega,by rw[Jb]⟩)
  have:=qm3 (l:=k::R) (l':=List.range M) (List.nodup_cons.2 ⟨a,A⟩) (fun x m=>by
   rw[List.mem_range];rcases List.mem_cons.1 m with rfl|m
   ·exact u
   ·obtain⟨i,hi,rfl⟩:=List.mem_iff_getElem.1 m;exact(f.at hi).1)
  rw[jY,List.length_range] at this;omega
 ·have:Ev (fun n=>qgB n (swV j t)) c':=by
   unfold qgB;show Ev (fun n=>(qaY n j.Ac).bind _) _;refine Ev.bind H ?_;rw[P];simp only[jd];exact Ev.bind H (Ev.bind B (Ev.bind s' .done))
  refine Ev.bind this ?_;rw[qw (by omega)];exact .done
 ·unfold qft wkV grB;simp only[A,jd,P];refine Ev.bind p' ?_;show Ev (fun n=>(idx c' (node:Int)).bind _) _;rw[qw (by omega)];exact .done

section
variable {L:Nat}{fr to:Nat→Int}{lv:Nat→Bool}{n:Nat}{R:List Nat}
theorem OrdOk.ne (h:OrdOk L fr to lv n R){i j:Nat}(a:i<j)(b:j<R.length):R[i]'(by omega) ≠ R[j]:=fun e=>
 (h.at b).2.1 (by rw[←e,List.mem_iff_getElem];exact⟨i,by rw[jB];omega,by rw[Jb]⟩)
theorem OrdOk.nodup (h:OrdOk L fr to lv n R):R.Nodup:=by
 unfold List.Nodup;rw[List.pairwise_iff_getElem];exact fun i j _ b a=>h.ne a b
theorem OrdOk.full (h:OrdOk L fr to lv n R)(g:R.length=n){k:Nat}(c:k<n):∃ i,∃ hi:i<R.length,R[i]=k:=by
 refine Classical.byContradiction fun b=>?_;have f:k ∉ R:=fun d=>b (List.mem_iff_getElem.1 d);have:=qm3 (l:=k::R) (l':=List.range n) (List.nodup_cons.2 ⟨f,h.nodup⟩) (fun x a=>by
  rw[List.mem_range];rcases List.mem_cons.1 a with rfl|a
  ·exact c
  ·obtain⟨i,hi,rfl⟩:=List.mem_iff_getElem.1 a;exact(h.at hi).1)
 rw[jY,List.length_range] at this;omega
theorem OrdOk.later (h:OrdOk L fr to lv n R)(p:R.length=n){x a c:Nat}(s:x<L)(r:lv x=true)(m:fr x=(a:Int))(o:to x=(c:Int))(f:c<n){i:Nat}(hi:i<R.length)(b:R[i]=a):∃ j,∃ k:j<R.length,i<j∧R[j]=c:=by
 obtain⟨j,k,e⟩:=h.full p f;have l:=(h.at k).2.2;rw[e] at l;have:=qkJ.1 l x s r o;rw[m,qhu,List.mem_iff_getElem] at this;obtain⟨t,g,d⟩:=this;rw[jB] at g;rw[Jb] at d;refine⟨j,k,?_,e⟩;rcases Nat.lt_trichotomy i t with hh|hh|hh
 ·exact absurd (b.trans d.symm) (h.ne hh (by omega))
 ·omega
 ·exact absurd (d.trans b.symm) (h.ne hh hi)
end
end Go.Fw


namespace Go.Fw
open Go Go.Proofs Go.Proofs.Tryz
open Go.RowKit (Below)
set_option maxRecDepth 100000
set_option maxHeartbeats 6400000
variable {n:Nat}{w:World}{cs1 cs2 cs3 cs4 cs5 cs6 cs7 cs8 cs9:List Value}
def qo7 (_:Nat)(code:(List (IntK .u8))):Option Bool :=V (decide ((code.length:Int) > 4096))
theorem qry {code:(List (IntK .u8))}(a:Ro w code cs1){r:Bool}(F:qo7 n code=V r):RetV prog 9 [GoT.v (List (IntK .u8)) cs1] w r:=by
 obtain⟨_,_,rfl,_⟩:=a;exact zV 6 func9 Z fun h=>X0 11 Z (rb h F Z)
def qcv (a_0:(List (IntK .u8)))(a:(List Int))(b:(List ql)):Nat→qbG→Int→Int→Int→Option (Flow Bool (qbG×Int×Int×Int))| 0,_,_,_,_=>U| n+1,c,l,k,d =>bif decide (d<(a.length:Int)) then(idx a d).bind fun m =>(idx b m).bind fun p =>(qfE n c p.Bk).bind fun o=>match o with| (f,g) =>(qdi n a_0).bind fun o=>match o with| (h,i) =>bif (g != 0) then V (.ret false) else qcv a_0 a b n h i (W64 (k+f)) (W64 (d+1)) else V (.nxt (c,l,k,d))
def qbU (c:qbG)(a:Int):Nat→Int→Int→Option (Int×Int)| 0,_,_=>U| n+1,d,b =>bif decide (b<(c.Ay.length:Int)) then(idx c.Ay b).bind fun f =>bif (f.Bm==a) then qbU c a n 1 (W64 (b+1)) else qbU c a n d (W64 (b+1)) else V (d,b)
def qi8 (n:Nat)(a_0:(List (IntK .u8))):Option Bool :=(qo7 n a_0).bind fun r1 =>bif r1 then V true else(qdi n a_0).bind fun o=>match o with| (s,t) =>(qfE n s t).bind fun o=>match o with| (c,k) =>(qdi n a_0).bind fun o=>match o with| (a,b) =>bif (k != 0) then(qfB n a b).bind fun o=>match o with| (_,d) =>(bif (k==d) then V (c==0) else V false).bind fun b1 =>V b1 else bif decide (c ≥ 1000000) then V (c==1000000) else(qbU a b n 0 0).bind fun o=>match o with| (l,_) =>(qji n (⟨(⟨a.Ac.Ap.Aq⟩:qu),(⟨a.Ac.Aa.Ab,a.Ac.Aa.Aj,a.Ac.Aa.Ah⟩:qf),a.Ac.Af⟩:qe) a.Bb b).bind fun o=>match o with| (f,_) =>(qjj n (⟨(⟨a.Ac.Ap.Aq⟩:qu),(⟨a.Ac.Aa.Ab,a.Ac.Aa.Aj,a.Ac.Aa.Ah⟩:qf),a.Ac.Af⟩:qe)).bind fun o=>match o with| (g,_) =>(qcv a_0 f g n a b l 0).bind fun o=>match o with| .ret r=>V r| .nxt (h,m,p,_) =>(qfB n h m).bind fun o=>match o with| (i,_) =>bif (p==c) then V (c==i) else V false
theorem qmI {a_0:(List (IntK .u8))}(ha1:Ro w a_0 cs1){r:Bool}(F:qi8 n a_0=V r):RetV prog 5 [GoT.v (List (IntK .u8)) cs1] w r:=by
 obtain⟨p1,k1,rfl,s1⟩:=ha1;refine zV 130 func5 Z fun h=>X0 8 Z (zcB h F (qry ⟨_,_,rfl,(h.oldS s1)⟩) Z fun _ w1 h F=>qa2 (qk Z F ?_ ?_))<;>intro F
 ·exact X0 4 Z (rb h F Z)
 refine X0 4 Z ?_;have g:Rg (old w) w (old w) w:=.start (fun _ h=>h);obtain⟨⟨r3,r4⟩,hr2,F⟩:=qd F;refine qqM (r3,r4) g h (cB 22 Z) (qgo (g.atB h) ⟨_,_,rfl,(g.inBS h s1)⟩ hr2) Z Z Z Z fun _ _ S1 h hv1=>?_;obtain⟨_,_,rfl,c8,hv2⟩:=qia hv1;have hr4:=c8;obtain⟨_,_,_,_,_,_,_,_,_,_,_,_,_,_,rfl,_,_,_,_,_,_,_⟩:=qek c8;replace h:=h.grpAdd 0 Z hr4;obtain⟨_,rfl,d9⟩:=qih hv2;have hr6:=d9;obtain rfl:=d9;refine zp3 Z (qh qa h Z Z Z fun _ v h=>zs 0 h Z fun _ h=>X1 6 0 h Z ?_);obtain⟨⟨r6,r7⟩,hr7,F⟩:=qd F;refine qa4 (r6,r7) h (cB 23 Z) (qj8 (h.grp 1 0 Z Z) hr7) Z Z Z Z fun _ _ _ hv3 hr8=>?_;obtain⟨_,_,rfl,hv4,hr9⟩:=hv3.consI hr8;obtain⟨rfl,h⟩:=hv4.lastI hr9;refine X0 9 Z ?_;obtain⟨⟨a,T⟩,b5,F⟩:=qd F;refine qqM (a,T) g h (cB 22 Z) (qgo (g.atB h) ⟨_,_,rfl,(g.inBS h s1)⟩ b5) Z Z Z Z fun _ _ S5 h hv6=>?_;obtain⟨_,_,rfl,x,hv7⟩:=qia hv6;have b6:=x;obtain⟨p9,k9,k,i,d,b,f,c,o,l,f6,f2,f7,f3,rfl,_,_,_,_,_,_,_⟩:=qek x;replace h:=h.grpAdd 0 Z b6;obtain⟨_,rfl,y⟩:=qih hv7;have hr15:=y;obtain rfl:=y;refine zp3 Z (zs 1 h Z fun _ h=>X0 8 Z (qk Z F ?_ ?_))<;>intro F
 ·refine X1 4 1 h Z ?_;obtain⟨⟨r12,r13⟩,b7,F⟩:=qd F;refine qa4 (r12,r13) h (cB 24 Z) (qkk (h.grp 0 0 Z Z) b7) Z Z Z Z fun _ _ _ hv8 b8=>?_;obtain⟨_,_,rfl,hv9,b9⟩:=hv8.consI b8;obtain⟨rfl,h⟩:=hv9.lastI b9;refine X0 7 Z ?_;obtain⟨KF1,a3,_,F,X⟩:=bindE F;refine qaz (fun e w'=>∃(b1:Bool),KF1 b1=V r∧e=[(2,.bool b1)]∧SH w w' []) ?_ ?_
  ·refine X0 5 Z (qg (t:=49) F Z ?_ ?_)<;>intro F
   ·refine X0 7 Z ?_;replace h:=h.pick [0,1] Z;replace h:=h.pick [] Z;obtain rfl:=qc F;exact rG ⟨_,X,rfl,h⟩ Z
   refine X0 5 Z ?_;replace h:=h.pick [0,1] Z;replace h:=h.pick [] Z;obtain rfl:=qc F;exact rG ⟨_,X,rfl,h⟩ Z
  rintro _ _ ⟨b1,F,rfl,h⟩;subst a3;exact rb h F Z
 refine X0 7 Z (qk Z F ?_ ?_)<;>intro F
 ·refine X0 6 Z ?_;replace h:=h.pick [1] Z;exact rb h F Z
 refine X0 10 Z ?_;replace h:=h.pick [0,1] Z;obtain⟨o2,F,hK2⟩:=qd F;refine qm (rL (fun m e w'=>∃(i1:Int) (i2:Int),qbU a T m i1 i2=V o2∧e=[(0,.slice p1 a_0.length k1),(3,.pointer (V ⟨v,0,U⟩)),(4,.int .i64 T),(5,.int .i64 r6),(9,.int .i64 i1),(10,.int .i64 i2)]∧SH w w' [Ch.grp (old w) S5 [fct (a:qbG) (qhF a p9 k d f o f6 f7 k9 i b c l f2 f3)],Ch.box v (qhF a p9 k d f o f6 f7 k9 i b c l f2 f3) 62]) n ⟨_,_,F,rfl,h⟩ Z ?_);rintro m1 _ _ ⟨i1,i2,F,rfl,h⟩;rcases m1 with _|m1
 ·cases F
 refine X1 9 1 h Z (qk Z F ?_ ?_)<;>intro F
 ·refine X1 8 1 h Z ?_;obtain⟨_,_,F,a4,_,_,_,_,hp1,hq1,c0,hc5⟩:=(qbW (h.grp 0 0 Z Z)).2.2.2.2.2.2.1.ix F;obtain rfl:=qac c0;refine zx hp1 hq1 ⟨a4.1,qA a4.2.1 (qbW (h.grp 0 0 Z Z)).2.2.2.2.2.2.2⟩ Z (zp1 Z (zc 0 hc5 Z (X0 3 Z (qk Z F ?_ ?_))))<;>intro F
  ·exact X0 9 Z (rK ⟨_,_,F,rfl,h⟩ Z)
  exact X0 7 Z (rK ⟨_,_,F,rfl,h⟩ Z)
 refine qv Z ?_;obtain rfl:=qc F;replace F:=hK2;refine X2 7 1 1 h Z ?_;obtain⟨⟨p,r16⟩,c2,F⟩:=qd F;refine qa4 (p,r16) h (cB 25 Z) (qoe ⟨[.slice p9 a.Ac.Ap.Aq.length k9],[.slice k a.Ac.Aa.Ab.length i,.slice d a.Ac.Aa.Aj.length b,.slice f a.Ac.Aa.Ah.length c,.slice o a.Ac.Af.length l],rfl,⟨_,_,rfl,(qbW (h.grp 0 0 Z Z)).1.1⟩,⟨[.slice k a.Ac.Aa.Ab.length i,.slice d a.Ac.Aa.Aj.length b,.slice f a.Ac.Aa.Ah.length c],[.slice o a.Ac.Af.length l],rfl,⟨[.slice k a.Ac.Aa.Ab.length i],[.slice d a.Ac.Aa.Aj.length b,.slice f a.Ac.Aa.Ah.length c],rfl,⟨_,_,rfl,(qbW (h.grp 0 0 Z Z)).2.1.1⟩,⟨[.slice d a.Ac.Aa.Aj.length b],[.slice f a.Ac.Aa.Ah.length c],rfl,⟨_,_,rfl,(qbW (h.grp 0 0 Z Z)).2.2.1.1⟩,⟨_,_,rfl,(qbW (h.grp 0 0 Z Z)).2.2.2.1.1⟩⟩⟩,⟨_,_,rfl,(qbW (h.grp 0 0 Z Z)).2.2.2.2.1.1⟩⟩⟩ ⟨_,_,rfl,(qbW (h.grp 0 0 Z Z)).2.2.2.2.2.1.1⟩ c2) Z Z Z Z fun _ _ _ e2 c3=>?_;obtain⟨S10,_,f8,f4,_,rfl,e3,c4⟩:=e2.consL c3;obtain⟨rfl,h⟩:=e3.lastI c4;refine X1 10 2 h Z ?_;obtain⟨⟨s,r19⟩,c5,F⟩:=qd F;refine qa4 (s,r19) h (cB 26 Z) (qoo ⟨[.slice p9 a.Ac.Ap.Aq.length k9],[.slice k a.Ac.Aa.Ab.length i,.slice d a.Ac.Aa.Aj.length b,.slice f a.Ac.Aa.Ah.length c,.slice o a.Ac.Af.length l],rfl,⟨_,_,rfl,(qbW (h.grp 1 0 Z Z)).1.1⟩,⟨[.slice k a.Ac.Aa.Ab.length i,.slice d a.Ac.Aa.Aj.length b,.slice f a.Ac.Aa.Ah.length c],[.slice o a.Ac.Af.length l],rfl,⟨[.slice k a.Ac.Aa.Ab.length i],[.slice d a.Ac.Aa.Aj.length b,.slice f a.Ac.Aa.Ah.length c],rfl,⟨_,_,rfl,(qbW (h.grp 1 0 Z Z)).2.1.1⟩,⟨[.slice d a.Ac.Aa.Aj.length b],[.slice f a.Ac.Aa.Ah.length c],rfl,⟨_,_,rfl,(qbW (h.grp 1 0 Z Z)).2.2.1.1⟩,⟨_,_,rfl,(qbW (h.grp 1 0 Z Z)).2.2.2.1.1⟩⟩⟩,⟨_,_,rfl,(qbW (h.grp 1 0 Z Z)).2.2.2.2.1.1⟩⟩⟩ c5) Z Z Z Z fun _ _ _ e4 c6=>?_;obtain⟨S14,_,f9,f5,_,rfl,e5,c7⟩:=e4.consL c6;obtain⟨rfl,h⟩:=e5.lastI c7;refine X0 11 Z ?_;obtain⟨o3,F,Y⟩:=qd F;refine qm (rL (fun m e w'=>∃(W:Nat→Prop) (u:qbG) (L:Option Addr) (B:Nat) (M:Option Addr) (C:Nat) (N:Option Addr) (D:Nat) (O:Option Addr) (H:Nat) (P:Option Addr) (I:Nat) (Q:Option Addr) (J:Nat) (R:Option Addr) (K:Nat) (i3:Int) (i4:Int) (i5:Int),qcv a_0 p s m u i3 i4 i5=V o3∧e=[(0,.slice p1 a_0.length k1),(3,.pointer (V ⟨v,0,U⟩)),(4,.int .i64 i3),(5,.int .i64 r6),(9,.int .i64 i4),(11,.slice f8 p.length f4),(13,.slice f9 s.length f5),(15,.int .i64 i5)]∧SH w w' [Ch.own S14 (s:List ql) [.slice f9 s.length f5],Ch.own S10 (p:List Int) [.slice f8 p.length f4],Ch.grp (old w) W [fct (u:qbG) (qhF u L M N O P Q R B C D H I J K)],Ch.box v (qhF u L M N O P Q R B C D H I J K) 62]) n ⟨_,_,_,_,_,_,_,_,_,_,_,_,_,_,_,_,_,_,_,F,rfl,h⟩ Z ?_);rintro m2 _ _ ⟨W,u,L,B,M,C,N,D,O,H,P,I,Q,J,R,K,i3,i4,i5,F,rfl,h⟩;rcases m2 with _|m2
 ·cases F
 refine X0 8 Z (qk Z F ?_ ?_)<;>intro F
 ·refine X0 4 Z (rA [] [0,1,3] h Z fun _ h=>M1 15 [0,1,2,3] 2 (h.pick [0,1,3] Z) Z ?_);obtain⟨_,hy2,F,a5,_,_,_,_,a7,a9,rfl,_⟩:=(h.sl 1 Z).1.ix F;refine Ax 4 31 a7 a9 ⟨a5.1,qA a5.2.1 (h.sl 1 Z).2⟩ (h.pick [0,1,3] Z) Z (Aw 5 63 (fun w' hw=>qbc qa (qz (w1:=w) (S1:=fun _=>False) hw 1 Z hy2 a7 a9 Z) (j:=0) Z Z Z) (h.pick [0,1,3] Z) Z ?_);obtain⟨y3,hy3,F,a6,_,_,_,_,a8,b4,c9,_⟩:=(h.sl 0 Z).1.ix F;obtain rfl:=qah c9;refine Ax 6 127 a8 b4 ⟨a6.1,qA a6.2.1 (h.sl 0 Z).2⟩ (h.pick [0,1,3] Z) Z (M0 255 [7] (h.pick [0,1,3] Z) Z (Aw 8 511 (fun w' hw=>qbc qa (qz hw 0 Z hy3 a8 b4 (qcj (w:=w) (S:=fun _=>False) y3)) (j:=0) Z Z Z) (h.pick [0,1,3] Z) Z ?_));refine Ao 9 1023 Z ?_;obtain⟨⟨r22,r23⟩,d0,F⟩:=qd F;refine qa4 (r22,r23) h (cB 23 Z) (qj8 (h.grp 2 0 Z Z) d0) Z Z Z Z fun _ _ _ e6 d1=>?_;obtain⟨_,_,rfl,e7,d3⟩:=e6.consI d1;obtain⟨rfl,h⟩:=e7.lastI d3;refine G0 32767 [10,11,12,13,14] (h.pick [0,1,3] Z) Z (Ad (X0 3 Z ?_));obtain⟨⟨r25,r26⟩,d4,F⟩:=qd F;refine qqM (r25,r26) g h (cB 22 Z) (qgo (g.atB h) ⟨_,_,rfl,(g.inBS h s1)⟩ d4) Z Z Z Z fun _ _ _ h e8=>?_;obtain⟨_,_,rfl,z,e9⟩:=qia e8;have d5:=z;obtain⟨_,_,_,_,_,_,_,_,_,_,_,_,_,_,rfl,_,_,_,_,_,_,_⟩:=qek z;replace h:=h.grpAdd 0 Z d5;obtain⟨_,rfl,A⟩:=qih e9;have hr39:=A;obtain rfl:=A;refine zp3 Z (zs 4 h Z fun _ h=>X0 8 Z (qk Z F ?_ ?_))<;>intro F
  ·refine X0 4 Z ?_;replace h:=h.pick [1,2,4] Z;obtain rfl:=qc F;replace F:=Y;exact rb h F Z
  refine X0 13 Z ?_;replace h:=h.pick [0,1,2,4] Z;replace h:=h.pick [1,2,0,3] Z;exact rK ⟨_,_,_,_,_,_,_,_,_,_,_,_,_,_,_,_,_,_,_,F,rfl,h⟩ Z
 refine qv Z ?_;obtain rfl:=qc F;replace F:=Y;refine X1 4 3 h Z ?_;obtain⟨⟨r28,r29⟩,d6,F⟩:=qd F;refine qa4 (r28,r29) h (cB 24 Z) (qkk (h.grp 2 0 Z Z) d6) Z Z Z Z fun _ _ _ f0 d7=>?_;obtain⟨_,_,rfl,f1,d8⟩:=f0.consI d7;obtain⟨rfl,h⟩:=f1.lastI d8;refine X0 12 Z (qg (t:=125) F Z ?_ ?_)<;>intro F
 ·refine X0 9 Z ?_;replace h:=h.pick [0,1,3] Z;exact rb h F Z
 refine X0 6 Z ?_;replace h:=h.pick [0,1,3] Z;exact rb h F Z

end Go.Fw


namespace Go.Fw
open Go
set_option maxRecDepth 100000
def sm6 (g:Nat→Int)(S:List Nat)(v:Int):Int:=S.foldl (fun v k=>mn6 (W64 (v+g k))) v
def smA (g:Nat→Int)(S:List Nat)(v:Int):Int:=S.foldl (fun v k=>v+g k) v
theorem qsx {g:Nat→Int}:∀ (S:List Nat) (v:Int),(∀ k,k ∈ S→0≤g k∧g k≤1000000)→0≤v→v≤1000000→v≤sm6 g S v∧sm6 g S v≤1000000:=by
 intro S
 induction S with
 | nil=>intro v _ _ h;exact⟨jS _,h⟩
 | cons k S ih=>
  intro v a f i;obtain⟨c,d⟩:=a k (jv ..);have e:W64 (v+g k)=v+g k:=qU (by omega) (by omega);have:=ih (mn6 (v+g k)) (fun x b=>a x (jp _ b)) (by unfold mn6;split<;>omega) (by unfold mn6;split<;>omega);show v≤sm6 g S (mn6 (W64 (v+g k)))∧sm6 g S (mn6 (W64 (v+g k)))≤1000000;rw[e];refine⟨Int.le_trans ?_ this.1,this.2⟩;unfold mn6;split<;>omega
theorem qvN {g:Nat→Int}:∀ (S:List Nat) (v:Int),(∀ k,k ∈ S→0≤g k∧g k≤1000000)→0≤v→v≤1000000→sm6 g S v<1000000→smA g S v=sm6 g S v:=by
 intro S
 induction S with
 | nil=>intro v _ _ _ _;rfl
 | cons k S ih=>
  intro v f m n a;obtain⟨i,l⟩:=f k (jv ..);have b:=fun x h=>f x (jp k h);have e:W64 (v+g k)=v+g k:=qU (by omega) (by omega);have a:sm6 g S (mn6 (W64 (v+g k)))<1000000:=a;show smA g S (v+g k)=sm6 g S (mn6 (W64 (v+g k)));rw[e] at a ⊢;by_cases d:v+g k<1000000
  ·have c:mn6 (v+g k)=v+g k:=by unfold mn6;rw[if_pos d]
   rw[c] at a ⊢;exact ih _ b (by omega) (by omega) a
  ·have c:mn6 (v+g k)=1000000:=by unfold mn6;rw[if_neg d]
   rw[c] at a;have:=(qsx S 1000000 b (by omega) (by omega)).1;omega
theorem qu9 {g:Nat→Int}:∀ (S:List Nat) (v:Int),(∀ k,k ∈ S→0≤g k∧g k≤1000000)→v≤smA g S v∧smA g S v≤v+1000000*(S.length:Int):=by
 intro S
 induction S with
 | nil=>intro v _;exact⟨jS _,by show v≤v+1000000*((0:Nat):Int);omega⟩
 | cons k S ih=>
  intro v a;obtain⟨c,d⟩:=a k (jv ..);have:=ih (v+g k) fun x b=>a x (jp k b);rw[jY];show v≤smA g S (v+g k)∧smA g S (v+g k)≤_;omega
section
variable {code:List (IntK .u8)}
theorem qr3 {b:qe}{br:List Int}{node:Int}(i:qil b)(h:blockB b=true)(m:br.length≤1048576)(u:brB br (lkB b)=true)(x:inI node 0 ((ndB b:Int)-1)=true) :
  Ev (fun n=>qji n b br node) (ints (selN (toQ (linksL b) (lvJ b br) node) (lkB b)),0):=by
 have z:=qaE (qW (qao h));have v:=qgH h;have l:=qoR i h m;rw[u] at l;have d:=qgO h;have s:Ev (fun n=>qjs n b br node) 0:=by
  unfold qjs;refine Ev.bind l (Ev.ff Z (Ev.bind d ?_));rw[qU (by omega) (by omega)];have g:inI node 0 (((2*(places b.Aa).length:Nat):Int)-1)=true:=x;simp only[qcB,g,jd];exact .done
 have r:Ev (fun n=>qc6 br node (linksL b) n [] 0) (ints (selN (toQ (linksL b) (lvJ b br) node) (lkB b)),(lkB b:Int)):=by
  refine qmd (Lf:=qc6 br node (linksL b)) (q:=toQ (linksL b) (lvJ b br) node) (len:=lkB b) (by show(linksL b).length≤_;omega) (Ev.succ ?_) (fun k a t A X o p=>?_)
  ·simp only[qc6];exact Ev.ff (qq (je _)) .done
  ·simp only[qc6,qgQ (show k<9223372036854775807 by have:k<(linksL b).length:=a;omega)];have e:toQ (linksL b) (lvJ b br) node k=((gt (linksL b) k).To==node&&!(br.any fun y=>y==(k:Int))):=by
    unfold toQ lvL;rw[show gt (lvJ b br) k = !br.any (fun y=>y==(k:Int)) from qrJ (f:=fun k=>!br.any fun y=>y==(k:Int)) a,Bool.and_comm]
    rfl
   refine Ev.tt (qn a) (Ev.bind (b:=toQ (linksL b) (lvJ b br) node k) (Ev.bindN (qw a) ?_) ?_)
   ·rw[e];refine Ev.bif (fun c=>?_) (fun c=>?_)
    ·rw[c,jz];exact Ev.bind (qml m) .done
    ·rw[c,Bool.false_and];exact .done
   ·refine Ev.bif (fun c=>Ev.bindN A (o c)) (fun c=>p c)
 unfold qji;exact Ev.bind s (Ev.ff Z (Ev.bind (qfe h) (Ev.bind r .done)))
theorem qvt {j:qbG}{node:Int}(h:j.Ay.length≤1048576):EvQ (fun n=>qbU j node n 0 0) (fun o=>o.1=st0 j node):=by
 have f:∀ d i v,i+d=j.Ay.length→EvQ (fun n=>qbU j node n v (i:Int)) (fun o=>o.1=if (srcO (j.Ay.drop i) node).isSome then 1 else v):=by
  intro d
  induction d with
  | zero=>
   intro i v hi;refine EvQ.succ ?_;simp only[qbU];refine EvQ.ff (qq (by omega)) (EvQ.done ?_);rw[List.drop_eq_nil_of_le (by omega)]
   rfl
  | succ d ih=>
   intro i v hi;have a:i<j.Ay.length:=by omega
   refine EvQ.succ ?_;simp only[qbU,wS i];have g:j.Ay.drop i=j.Ay[i]::j.Ay.drop (i+1):=jH a;refine EvQ.tt (qn a) (EvQ.bindN (qbe a) (EvQ.bif (fun c=>(ih (i+1) 1 (by omega)).mono fun o b=>?_) (fun c=>(ih (i+1) v (by omega)).mono fun o b=>?_)))
   ·rw[b,g];unfold srcO;rw[List.find?_cons_of_pos (by simpa using c)];simp
   ·rw[b,g];unfold srcO;rw[List.find?_cons_of_neg (by simpa using c)]
 refine(f j.Ay.length 0 0 (by omega)).mono fun o b=>?_;rw[b,List.drop_zero];unfold st0 srcV;cases srcO j.Ay node<;>rfl
theorem qrN {b:qe}(a:qil b)(h:blockB b=true):Ev (fun n=>qjj n b) (linksL b,0):=by
 unfold qjj;have c:=qhM a;rw[h] at c;exact Ev.bind c (Ev.ff Z (Ev.bind (qfe h) .done))
theorem qt8 {g:Nat→Int}{S:List Nat}{v:Int}{i:Nat}(hi:i<S.length):smA g (S.take (i+1)) v=smA g (S.take i) v+g S[i]:=by
 unfold smA;rw[jw hi,List.foldl_append]
 rfl
theorem qoT (C:rngL rng8 code):Ev (fun n=>qi8 n code) true:=by
 unfold qi8 qo7;refine Ev.bindN Z (Ev.bif (fun _=>.done) (fun hl=>?_));have hl:code.length≤4096:=by have:=of_decide_eq_false hl;omega
 obtain⟨⟨j,node⟩,M,hj,hn⟩:=qui (code:=code) ⟨by omega,C.2⟩;dsimp only at hj hn;have h:=hj.ok;refine Ev.bind M ?_;dsimp only;have all:(∃ r:Int×Int,Ev (fun n=>qfE n j node) r∧r.2 ≠ 0∧r.1=0∧Ev (fun n=>qfB n j node) r) ∨
   ∃ t R c,∃ k:Nat,WkOk j t R∧node=(k:Int)∧k<ndB j.Ac∧(∀ k,k<ndB j.Ac→gt c k=ctS (linksL j.Ac) (lvJ j.Ac j.Bb) c (k:Int) (st0 j (k:Int)) (lkB j.Ac)) ∧
    ∀ k:Nat,k<ndB j.Ac→Ev (fun n=>qfB n j (k:Int)) (gt c k,0)∧Ev (fun n=>qfE n j (k:Int)) (gt c k,0):=by
  unfold qfB qfE qiE;rcases qsz h with⟨code',hne,l,hi⟩|⟨t,R,hw,l,hi⟩
  ·exact .inl ⟨(0,code'),Ev.bind (hi 0 [node]) (Ev.tt (qkd hne) .done),hne,rfl,Ev.bind (b:=(U,code')) (Ev.bind l (Ev.tt (qkd hne) .done)) (Ev.tt (qkd hne) .done)⟩
  ·have f:=hw.tg.bl;have a5:=qaE (qW (qao f));have A:=qgO f;have e1:∀ n x,qar n x 0 (W64 (((2*(places j.Ac.Aa).length:Nat):Int)-1))=V (inI x 0 ((ndB j.Ac:Int)-1)):=fun n x=>by rw[qcB,qU (by omega) (by omega)]
   have K:∀ x,([x].all fun x=>inI x 0 ((ndB j.Ac:Int)-1))=inI x 0 ((ndB j.Ac:Int)-1):=fun x=>by simp
   cases O:inI node 0 ((ndB j.Ac:Int)-1)
   ·have u:=hi 0 [node] (by simp) (.inl Z);rw[K,O] at u;refine .inl ⟨(0,4),Ev.bind u (Ev.tt Z .done),by decide,rfl,Ev.bind (b:=(U,4)) (Ev.bind l (Ev.ff Z (Ev.bind A ?_))) (Ev.tt Z .done)⟩;simp only[e1,O];exact .done
   ·obtain⟨r0,r1,r2⟩:=inRange O;obtain⟨c,_,L,d⟩:=qr4 h hw;refine .inr ⟨t,R,c,node.toNat,hw,qeO r0,r2,L,fun k C=>?_⟩;have D:inI (k:Int) 0 ((ndB j.Ac:Int)-1)=true:=by rw[qa5];omega
    have u:=hi 0 [(k:Int)] (by simp) (.inl Z);rw[K,D] at u;obtain⟨P,s⟩:=d k C;refine⟨Ev.bind (b:=(swV j t,0)) (Ev.bind l (Ev.ff Z (Ev.bind A ?_))) (Ev.ff Z P),Ev.bind u (Ev.ff Z (Ev.bind s .done))⟩;simp only[e1,D];exact .done
 rcases all with⟨⟨x,c⟩,hi,hne,hz,l⟩|⟨t,R,c,k,hw,rfl,hkn,L,d⟩
 ·dsimp only at hne hz;subst hz;exact Ev.bind hi (Ev.bind M (Ev.tt (qkd hne) (Ev.bind l (Ev.bind (b:=true) (Ev.tt (by simp) (Ev.now Z)) .done))))
 ·have f:=hw.tg.bl;have a3:=qgH f;have o:=qiJ f;have a5:=qaE (qW (qao f));have y:=d k hkn;have st:∀ x,0≤st0 j x∧st0 j x≤1:=fun x=>by unfold st0;cases (srcV (srcO j.Ay x)).1<;>exact⟨by decide,by decide⟩
  have J:∀ k,k<ndB j.Ac→0≤gt c k∧gt c k≤1000000:=by
   have ho:=hw.tg.ord;have T:=hw.tg.len;have I:∀ i,∀ hi:i<R.length,0≤gt c R[i]∧gt c R[i]≤1000000:=by
    intro i
    induction i using Nat.strongRecOn with
    | _ i ih=>
     intro hi;obtain⟨k1,_,k3⟩:=ho.at hi;have l:=L R[i] k1;obtain⟨s0,s1⟩:=st (R[i]:Int);have:=qsx (g:=fun x=>gt c (frN (linksL j.Ac) x)) (selN (toQ (linksL j.Ac) (lvJ j.Ac j.Bb) (R[i]:Int)) (lkB j.Ac)) (st0 j (R[i]:Int)) (fun x a=>by
      rw[qhh] at a;obtain⟨P,s⟩:=a;unfold toQ at s;rw[jf,beq_iff_eq] at s;have hm:=qkJ.1 k3 x P s.1 s.2;obtain⟨e1,_⟩:=qks o P;rw[show frL (linksL j.Ac) x=(frN (linksL j.Ac) x:Int) from e1,qhu,List.mem_iff_getElem] at hm;obtain⟨q,hq,eq⟩:=hm;rw[jB] at hq;rw[Jb] at eq;have:=ih q (by omega) (by omega);rw[eq] at this;exact this) s0 (by omega)
     rw[l];exact⟨Int.le_trans s0 this.1,this.2⟩
   intro k C;obtain⟨i,hi,e⟩:=ho.full T C;rw[←e];exact I i hi
  obtain⟨n0,n1⟩:=J k hkn;refine Ev.bind y.2 (Ev.bind M (Ev.ff Z (Ev.bif (fun z=>Ev.now ?_) (fun p=>?_))))
  ·have:=of_decide_eq_true z;have e:gt c k=1000000:=by omega
   rw[e];rfl
  ·have p:gt c k<1000000:=by have:=of_decide_eq_false p;omega
   have a4:inI (k:Int) 0 ((ndB j.Ac:Int)-1)=true:=by rw[qa5];omega
   obtain⟨⟨i1,i2⟩,a6,F⟩:=qvt (node:=(k:Int)) h.Ay.len;dsimp only at F;subst F;refine Ev.bind a6 (Ev.bind (qr3 h.Ac f h.Bb.len hw.tg.br_ a4) (Ev.bind (qrN h.Ac f) ?_));have W:∀ x,x ∈ selN (toQ (linksL j.Ac) (lvJ j.Ac j.Bb) (k:Int)) (lkB j.Ac)→x<(linksL j.Ac).length:=fun x a=>(qhh.1 a).1;have Y:(selN (toQ (linksL j.Ac) (lvJ j.Ac j.Bb) (k:Int)) (lkB j.Ac)).length≤10000:=jX qiX a3;have m:gt c k=sm6 (fun x=>gt c (frN (linksL j.Ac) x)) (selN (toQ (linksL j.Ac) (lvJ j.Ac j.Bb) (k:Int)) (lkB j.Ac)) (st0 j (k:Int)):=L k hkn;have N:∀ x,x ∈ selN (toQ (linksL j.Ac) (lvJ j.Ac j.Bb) (k:Int)) (lkB j.Ac)→0≤gt c (frN (linksL j.Ac) x)∧gt c (frN (linksL j.Ac) x)≤1000000:=fun x a=>J _ (qks o (W x a)).2;obtain⟨s0,s1⟩:=st (k:Int);generalize selN (toQ (linksL j.Ac) (lvJ j.Ac j.Bb) (k:Int)) (lkB j.Ac)=S at W Y m N ⊢;have H:smA (fun x=>gt c (frN (linksL j.Ac) x)) S (st0 j (k:Int))=gt c k:=by
    rw[m];exact qvN S _ N s0 (by omega) (by rw[←m];exact p)
   have Q:Ev (fun n=>qcv code (ints S) (linksL j.Ac) n j (k:Int) (st0 j (k:Int)) 0)
     (.nxt (j,(k:Int),smA (fun x=>gt c (frN (linksL j.Ac) x)) S (st0 j (k:Int)),(S.length:Int))):=by
    refine qvy (τ:=Int) (len:=S.length) (Lf:=fun n t i=>qcv code (ints S) (linksL j.Ac) n j (k:Int) t i) (st:=fun i=>smA (fun x=>gt c (frN (linksL j.Ac) x)) (S.take i) (st0 j (k:Int))) (Ev.succ ?_) (fun i hi X hX=>Ev.succ ?_)
    ·simp only[qcv,qbt,jC];exact Ev.ff (qq (je _)) .done
    ·have a:=W _ (jo hi);obtain⟨g0,g1⟩:=N _ (jo hi);have et:=qt8 (g:=fun x=>gt c (frN (linksL j.Ac) x)) (v:=st0 j (k:Int)) hi;have O:=qu9 (S.take i) (st0 j (k:Int)) (g:=fun x=>gt c (frN (linksL j.Ac) x)) (fun x a=>N x (List.mem_of_mem_take a));have htl:(S.take i).length≤10000:=by rw[jB];omega
     have B:=qkj hi;generalize S[i]=x at a g0 g1 et B;obtain⟨e1,K⟩:=qks o a;have ew:W64 (smA (fun x=>gt c (frN (linksL j.Ac) x)) (S.take i) (st0 j (k:Int))+gt c (frN (linksL j.Ac) x))=smA (fun x=>gt c (frN (linksL j.Ac) x)) (S.take (i+1)) (st0 j (k:Int)):=by
      rw[et];exact qU (by omega) (by omega)
     have hP:=(d _ K).2;simp only[qcv,qbt,wS i];refine Ev.tt (qn hi) (Ev.bindN B (Ev.bindN (qw a) ?_));rw[e1];refine Ev.bind hP (Ev.bind M (Ev.ff Z ?_));dsimp only;rw[ew];exact hX
   refine Ev.bind Q (Ev.bind y.1 (Ev.tt (by rw[H];simp) (Ev.now (by simp))))
end
end Go.Fw
