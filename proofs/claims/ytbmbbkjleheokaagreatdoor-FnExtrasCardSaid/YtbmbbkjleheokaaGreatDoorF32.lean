/- Plain laws: the links of a valid block; its view. -/
import Derived.Test.YtbmbbkjleheokaaGreatDoorW1
import Derived.Test.YtbmbbkjleheokaaGreatDoorR2
import Derived.Test.YtbmbbkjleheokaaGreatDoorFw38
import Derived.Test.YtbmbbkjleheokaaGreatDoorZ2
open Option renaming bind_some → jd, some → V, none → U
open Nat renaming le_refl → je, mul_le_mul_right → js, zero_le → jZ, le_trans → Je
open Bool renaming and_eq_true → jf, eq_iff_iff → jk, true_and → jB, not_eq_true' → jD, not_true → Jg
open List renaming length_append → jg, length_singleton → ji, getElem?_eq_getElem → jn, getElem_mem → jo, mem_cons_of_mem → jp, append_assoc → jt, length_map → jv, mem_cons_self → jw, getD_eq_getElem?_getD → jx, not_mem_nil → jy, length_replicate → jC, take_succ_eq_append_getElem → jE, mem_cons → jG, take_length → jJ, mem_append_left → jL, drop_eq_getElem_cons → jQ, map_append → jT, all_eq_true → jU, mem_append_right → jX, ext_getElem → Ja, append_nil → Jc, length_take → Jd
open Int renaming toNat_natCast → jr, tdiv_eq_ediv_of_nonneg → jz, mul_nonneg → jP, le_refl → jR, mul_le_mul → jS, add_zero → jY, mul_assoc → Jb

namespace Go.Fw
open Go
set_option maxRecDepth 100000
def pre {α:Type}(f:Nat→α)(j:Nat):List α:=(List.range j).map f
theorem qj1 {α:Type}{f:Nat→α}{j:Nat}:(pre f j).length=j:=by simp[pre]
theorem qtU {α:Type}{f:Nat→α}{j:Nat}:pre f j++[f j]=pre f (j+1):=by unfold pre;rw[List.range_succ,jT];rfl
theorem qpZ {α:Type}{f:Nat→α}{j:Nat}(h:j≤1048576):appS (pre f j) [f j]=V (pre f (j+1)):=by
 rw[qcE (by rw[qj1,ji];omega),qtU]
theorem qtP {α:Type}[Inhabited α]{f:Nat→α}{n j:Nat}(h:j<n):gt (pre f n) j=f j:=qoY h
theorem qh4 {α:Type}[Inhabited α]{f:Nat→α}{n j:Nat}(h:j<n):idx (pre f n) (j:Int)=V (f j):=by rw[qy (by rw[qj1];exact h),qtP h]
theorem qg3 {α:Type}{f g:Nat→α}{n:Nat}(h:∀ k,k<n→f k=g k):pre f n=pre g n:=List.map_congr_left fun k a=>h k (List.mem_range.1 a)
theorem qnd {α:Type}{f:Nat→α}{n k:Nat}{v:α}:setS (pre f n) (k:Int) v=pre (fun i=>if i=k then v else f i) n:=by
 unfold setS pre;rw[jr];refine Ja (by simp) fun i a b=>?_;rw[List.getElem_set];by_cases h:k=i
 ·subst h;simp
 ·rw[if_neg h];simp[show ¬ i=k from fun e=>h e.symm]
def fm {α:Type}(f:Nat→List α)(j:Nat):List α:=(List.range j).flatMap f
theorem qji {α:Type}{f:Nat→List α}{j:Nat}:fm f (j+1)=fm f j++f j:=by unfold fm;rw[List.range_succ,List.flatMap_append];simp
theorem qnP {α:Type}{f:Nat→List α}{j c:Nat}(h:∀ i,i<j→(f i).length≤c):(fm f j).length≤c*j:=by
 induction j with
 | zero=>exact je _
 | succ j ih=>rw[qji,jg];have:=ih (fun i hi=>h i (by omega));have:=h j (by omega);rw[Nat.mul_succ];omega
def transL (a:qak):List qT:=
 bif (a.Au==2) then[⟨0,0⟩,⟨0,1⟩] else bif (a.Au==3) then[⟨1,0⟩,⟨1,1⟩] else bif (a.Au != 1) then[] else
 bif (a.Bk==1) then[⟨0,0⟩,⟨1,1⟩] else bif (a.Bk==2) then[⟨0,1⟩,⟨1,0⟩] else[⟨0,0⟩,⟨0,1⟩,⟨1,0⟩,⟨1,1⟩]
theorem qsi {a:qak}{n:Nat}:qe6 n a=V (transL a):=by
 unfold qe6 transL;cases (a.Au==2)
 ·cases (a.Au==3)
  ·cases (a.Au != 1)
   ·cases (a.Bk==1)
    ·cases (a.Bk==2)<;>rfl
    ·rfl
   ·rfl
  ·rfl
 ·rfl
theorem qo8 {a:qak}:(transL a).length≤4:=by
 unfold transL;cases (a.Au==2)
 ·cases (a.Au==3)
  ·cases (a.Au != 1)
   ·cases (a.Bk==1)
    ·cases (a.Bk==2)<;>simp
    ·simp
   ·simp
  ·simp
 ·simp
def b01 (x:Int):Prop:=x=0∨x=1
theorem qpL {a:qak}{t:qT}(h:t ∈ transL a):b01 t.e0∧b01 t.e1:=by
 have b:∀ t ∈ [(⟨0,0⟩:qT),⟨0,1⟩,⟨1,0⟩,⟨1,1⟩],b01 t.e0∧b01 t.e1:=by
  intro t c;simp only[jG,jy,or_false] at c;rcases c with rfl|rfl|rfl|rfl<;>simp[b01]
 refine b t ?_;unfold transL at h;revert h;cases (a.Au==2)
 ·cases (a.Au==3)
  ·cases (a.Au != 1)
   ·cases (a.Bk==1)
    ·cases (a.Bk==2)
     ·exact fun h=>h
     ·intro h;simp at h;rcases h with rfl|rfl<;>simp
    ·intro h;simp at h;rcases h with rfl|rfl<;>simp
   ·intro h;simp at h
  ·intro h;simp at h;rcases h with rfl|rfl<;>simp
 ·intro h;simp at h;rcases h with rfl|rfl<;>simp
def al1 (first:Int)(k:Nat)(a:qak)(t:qT):qm:=⟨2*(first+a.Bd)+t.e0,2*(first+a.To)+t.e1,1,(k:Int)⟩
def arcLs (first:Int)(k:Nat)(a:qak):List qm:=(transL a).map (al1 first k a)
def cellLs (c:qG)(first:Int)(j:Nat):List qm:=fm (fun k=>arcLs first k (gt c.Aq k)) j
def instLs (b:qe)(j:Nat):List qm:=fm (fun i=>cellLs (cellAt b (i:Int)) (off b.Aa i:Int) (cellAt b (i:Int)).Aq.length) j
theorem qnr {first:Int}{k:Nat}{a:qak}:(arcLs first k a).length≤4:=by unfold arcLs;rw[jv];exact qo8
theorem qqs {b:qe}(h:blockB b=true){i:Nat}(hi:i<b.Aa.Ab.length):Ev (fun n=>qe7 n b (gt b.Aa.Ab i) (off b.Aa i:Int)) (cellLs (cellAt b (i:Int)) (off b.Aa i:Int) (cellAt b (i:Int)).Aq.length):=by
 have u:=qan h;have D:=qX u;obtain⟨⟨z,c1⟩,r,g⟩:=qgQ u hi;have B:=qmJ g;have s:=(qgy (qis g)).1;have v:off b.Aa i≤78:=by
  have:=qaQ D;rw[qgG] at this;have:=qrw (d:=b.Aa) (show i≤b.Aa.Ab.length by omega);omega
 show Ev _ (cellLs (gt b.Am.Ap (gt b.Aa.Ab i).Bp.toNat) (off b.Aa i:Int) (gt b.Am.Ap (gt b.Aa.Ab i).Bp.toNat).Aq.length);generalize hc:gt b.Am.Ap (gt b.Aa.Ab i).Bp.toNat=c at r g B s ⊢;have A:Ev (fun n=>qbr (off b.Aa i:Int) c n ([]:List qm) 0) (cellLs c (off b.Aa i:Int) c.Aq.length,(c.Aq.length:Int)):=by
  refine loopF (Lf:=qbr (off b.Aa i:Int) c) (S:=cellLs c (off b.Aa i:Int)) (len:=c.Aq.length) (fun n=>?_) (fun j p X o=>?_)
  ·simp only[qbr,qt (je _),cond_false]
  ·have H:=qlQ g p;have C:(cellLs c (off b.Aa i:Int) j).length≤4*j:=qnP fun _ _=>qnr;simp only[qbr,qr p,cond_true,qy p,jd,qsi,wS j];have m:Ev (fun n=>qbp (off b.Aa i:Int) (j:Int) (gt c.Aq j) (transL (gt c.Aq j)) n (cellLs c (off b.Aa i:Int) j) 0) (cellLs c (off b.Aa i:Int) (j+1),((transL (gt c.Aq j)).length:Int)):=by
    have F:=qo8 (a:=gt c.Aq j);have:=loopF (Lf:=qbp (off b.Aa i:Int) (j:Int) (gt c.Aq j) (transL (gt c.Aq j))) (S:=fun k=>cellLs c (off b.Aa i:Int) j++((transL (gt c.Aq j)).take k).map (al1 (off b.Aa i:Int) j (gt c.Aq j))) (len:=(transL (gt c.Aq j)).length) (fin:=(cellLs c (off b.Aa i:Int) (j+1),((transL (gt c.Aq j)).length:Int))) (fun n=>by
      simp only[qbp,qt (je _),cond_false,jJ];show V (cellLs c _ j++arcLs _ j _,_)=V (fm _ (j+1),_);rw[qji];rfl)
     (fun k f X o=>by
      have y:=qpL (a:=gt c.Aq j) (t:=gt (transL (gt c.Aq j)) k) (by rw[qdz f];exact jo f);have e0:W64 (W64 (2*W64 ((off b.Aa i:Int)+(gt c.Aq j).Bd))+(gt (transL (gt c.Aq j)) k).e0)=2*((off b.Aa i:Int)+(gt c.Aq j).Bd)+(gt (transL (gt c.Aq j)) k).e0:=by
       rcases y.1 with e|e<;>rw[e,wO ((off b.Aa i:Int)+(gt c.Aq j).Bd),qU (x:=2*((off b.Aa i:Int)+(gt c.Aq j).Bd)) (by omega) (by omega),qU (by omega) (by omega)]
      have e1:W64 (W64 (2*W64 ((off b.Aa i:Int)+(gt c.Aq j).To))+(gt (transL (gt c.Aq j)) k).e1)=2*((off b.Aa i:Int)+(gt c.Aq j).To)+(gt (transL (gt c.Aq j)) k).e1:=by
       rcases y.2 with e|e<;>rw[e,wO ((off b.Aa i:Int)+(gt c.Aq j).To),qU (x:=2*((off b.Aa i:Int)+(gt c.Aq j).To)) (by omega) (by omega),qU (by omega) (by omega)]
      simp only[qbp,qr f,cond_true,qy f,jd,e0,e1,wS k];rw[qcE (by rw[jg,jv,Jd,ji];omega),jt];have:((transL (gt c.Aq j)).take k).map (al1 (off b.Aa i:Int) j (gt c.Aq j))++[al1 (off b.Aa i:Int) j (gt c.Aq j) (gt (transL (gt c.Aq j)) k)]=((transL (gt c.Aq j)).take (k+1)).map (al1 (off b.Aa i:Int) j (gt c.Aq j)):=qf4 f;have l:((transL (gt c.Aq j)).take k).map (al1 (off b.Aa i:Int) j (gt c.Aq j))++[(⟨2*((off b.Aa i:Int)+(gt c.Aq j).Bd)+(gt (transL (gt c.Aq j)) k).e0,2*((off b.Aa i:Int)+(gt c.Aq j).To)+(gt (transL (gt c.Aq j)) k).e1,1,(j:Int)⟩:qm)]=((transL (gt c.Aq j)).take (k+1)).map (al1 (off b.Aa i:Int) j (gt c.Aq j)):=this;rw[l];exact o)
    simpa using this
   exact Ev.bind m o
 unfold qe7;rw[qfw z c1,hc];simp only[jd];exact Ev.bind A .done
def dvN (d:qi)(k:Nat):Nat:=((List.range (places d).length).find? fun j=>drvQ d (k:Int) j).getD 0
theorem qic {l:qz}{d:qi}(h:designB l d=true){k:Nat}(f:k<d.Aj.length):dvN d k<(places d).length∧drvQ d (k:Int) (dvN d k)=true:=by
 obtain⟨j,b,c,a⟩:=qvw h (k:=(k:Int)) (by omega) (by omega);unfold dvN;cases hf:(List.range (places d).length).find? fun j=>drvQ d (k:Int) j with
 | none=>
  have:=List.find?_eq_none.1 hf j (List.mem_range.2 b);exact absurd (by unfold drvQ;rw[c,a];simp) this
 | some i=>exact⟨List.mem_range.1 (List.mem_of_find?_eq_some hf),by have:=List.find?_some hf;exact this⟩
theorem qlU {d:qi}{k:Int}{j:Nat}:drvQ d k j=true↔(gt (places d) j).net=k∧(gt (places d) j).drives=true:=by unfold drvQ;simp
theorem qtg {l:qz}{d:qi}(h:designB l d=true){k:Nat}(m:k<d.Aj.length){j:Nat}(i:j<(places d).length)(n:(gt (places d) j).net=(k:Int))(g:(gt (places d) j).drives=true):dvN d k=j:=by
 obtain⟨a,b⟩:=qic h m;obtain⟨c,f⟩:=qlU.1 b;exact qq1 h a i (by rw[c,n]) f g
def wl1 (a:Nat)(s:Int)(k:Nat):List qm:=[⟨2*(a:Int),2*s,2,(k:Int)⟩,⟨2*(a:Int)+1,2*s+1,2,(k:Int)⟩]
def wlN (b:qe)(i j:Nat):List qm:=fm (fun k=>wl1 (dvN b.Aa i) (at0 (skL b i) k) k) j
def wireLs (b:qe)(j:Nat):List qm:=fm (fun i=>wlN b i (skL b i).length) j
def linksL (b:qe):List qm:=instLs b b.Aa.Ab.length++wireLs b b.Ac.length
def load0 (b:qe)(i:Nat):Int:=gt (loadsL b i) 0
def viewE (b:qe)(ex:List Int):Tview:=⟨b,places b.Aa,linksL b,pre (load0 b) b.Ac.length,pre (exactL b) b.Ac.length,ex⟩
def viewV (b:qe):Tview:=viewE b []
theorem qiu {b:qe}(h:blockB b=true){j:Nat}(d:j≤b.Aa.Ab.length):(instLs b j).length≤32*j:=by
 refine qnP fun i hi=>?_;obtain⟨_,_,a⟩:=qgQ (qan h) (show i<b.Aa.Ab.length by omega);have c:=qmJ a;have:(cellLs (cellAt b (i:Int)) (off b.Aa i:Int) (cellAt b (i:Int)).Aq.length).length≤4*(cellAt b (i:Int)).Aq.length:=qnP fun _ _=>qnr;have e:(cellAt b (i:Int)).Aq.length≤8:=c;omega
theorem qqb {b:qe}{i j:Nat}:(wlN b i j).length≤2*j:=qnP fun _ _=>je _
theorem qmD {b:qe}(h:blockB b=true){j:Nat}:(wireLs b j).length≤156*j:=by
 refine qnP fun i _=>?_;have:=qqb (b:=b) (i:=i) (j:=(skL b i).length);have:=qgW h (i:=i);omega
theorem qjw {b:qe}(h:blockB b=true):(linksL b).length≤10000:=by
 have a:=qX (qan h);have c:=a.ni;have d:=a.nn;have f:=qiq h;have g:=qiu h (je _);have i:=qmD h (j:=b.Ac.length);unfold linksL;rw[jg];omega
theorem qrv {b:qe}(h:blockB b=true):Ev (fun n=>qid n b) (V (viewV b)):=by
 have r:=qan h;have z:=qX r;have R:=qaQ z;have Y:=z.ni;have a3:=z.nn;have hwl:=qiq h;have e1:Ev (fun n=>qc6 b n ([]:List qm) 0 0) (instLs b b.Aa.Ab.length,(off b.Aa b.Aa.Ab.length:Int),(b.Aa.Ab.length:Int)):=by
  have:=loopF (τ:=List qm×Int) (Lf:=fun n t j=>qc6 b n t.1 t.2 j) (S:=fun j=>(instLs b j,(off b.Aa j:Int))) (len:=b.Aa.Ab.length) (fin:=(instLs b b.Aa.Ab.length,(off b.Aa b.Aa.Ab.length:Int),(b.Aa.Ab.length:Int))) (fun n=>by simp only[qc6,qt (je _),cond_false])
   (fun j a X m=>by
    have F:=qiu h (show j≤b.Aa.Ab.length by omega);have M:=qiu h (show j+1≤b.Aa.Ab.length by omega);have N:=qjC (d:=b.Aa) (i:=j);have a4:off b.Aa (j+1)≤78:=by
     rw[qgG] at R;have:=qrw (d:=b.Aa) (show j+1≤b.Aa.Ab.length by omega);omega
    simp only[qc6,qr a,cond_true,qy a,jd,qbx,wS j];refine Ev.bind (qqs h a) ?_;have e:instLs b j++cellLs (cellAt b (j:Int)) (off b.Aa j:Int) (cellAt b (j:Int)).Aq.length=instLs b (j+1):=qji.symm;rw[qcE (by rw[←jg,e];omega),e,qU (by omega) (by omega),show(off b.Aa j:Int)+((gt b.Aa.Ab j).Aj.length:Int)=((off b.Aa (j+1):Nat):Int) by omega];exact m)
  exact this
 have I:mkS (b.Ac.length:Int) (0:Int)=V (vecI (fun _=>0) b.Ac.length):=qpR (by omega);have J:mkS (b.Ac.length:Int) ([]:List Int)=V (pre (fun _=>[]) b.Ac.length):=by
  rw[qjX (by omega)]
  congr 1
  refine Ja (by simp[pre]) fun i u h2=>?_;simp[pre]
 have P:Ev (fun n=>qco (places b.Aa) n (pre (fun _=>[]) b.Ac.length) (vecI (fun _=>0) b.Ac.length) 0) (pre (fun i=>skL b i) b.Ac.length,vecI (fun k=>(dvN b.Aa k:Int)) b.Ac.length,((places b.Aa).length:Int)):=by
  have v:∀ k,k<b.Ac.length→dvN b.Aa k<(places b.Aa).length:=fun k o=>(qic r (by omega)).1;have:=loopF (τ:=List (List Int)×List Int) (Lf:=fun n t j=>qco (places b.Aa) n t.1 t.2 j) (S:=fun j=>(pre (fun i=>sinksL b.Aa (i:Int) j) b.Ac.length,vecI (fun k=>if dvN b.Aa k<j then(dvN b.Aa k:Int) else 0) b.Ac.length)) (len:=(places b.Aa).length)
   (fin:=(pre (fun i=>skL b i) b.Ac.length,vecI (fun k=>(dvN b.Aa k:Int)) b.Ac.length,((places b.Aa).length:Int))) (fun n=>by
    simp only[qco,qt (je _),cond_false];rw[qfr (g:=fun k=>(dvN b.Aa k:Int)) (fun k o=>if_pos (v k o))]
    rfl)
   (fun j a X m=>by
    obtain⟨n0,n1⟩:=qk5 r a;obtain⟨l,p⟩:∃ l:Nat,(gt (places b.Aa) j).net=(l:Int):=⟨_,qfm n0⟩;have x:l<b.Ac.length:=by omega
    simp only[qco,qr a,cond_true,qy a,jd,p,wS j,qlZ x,qh4 (f:=fun i=>sinksL b.Aa (i:Int) j) x];cases hdr:(gt (places b.Aa) j).drives
    ·have A:pre (fun i=>sinksL b.Aa (i:Int) (j+1)) b.Ac.length=setS (pre (fun i=>sinksL b.Aa (i:Int) j) b.Ac.length) (l:Int) (sinksL b.Aa (l:Int) j++[(j:Int)]):=by
      rw[qnd];refine qg3 fun k o=>?_;rw[qiW];unfold snkQ;rw[p,hdr];by_cases c:k=l
      ·subst c;rw[if_pos Z];simp
      ·rw[if_neg c,show(((l:Int)==(k:Int))&&!false)=false by simp;omega];simp
     have B:vecI (fun k=>if dvN b.Aa k<j+1 then(dvN b.Aa k:Int) else 0) b.Ac.length=vecI (fun k=>if dvN b.Aa k<j then(dvN b.Aa k:Int) else 0) b.Ac.length:=by
      refine qfr fun k o=>?_;have K:dvN b.Aa k ≠ j:=fun e=>by
       have:=(qlU.1 (qic r (k:=k) (by omega)).2).2;rw[e,hdr] at this;cases this
      by_cases u:dvN b.Aa k<j
      ·rw[if_pos u,if_pos (by omega)]
      ·rw[if_neg u,if_neg (by omega)]
     rw[A,B] at m;simp only[cond_false];have a7:(sinksL b.Aa (l:Int) j).length≤j:=by rw[qix];exact qf2
     rw[qcE (by rw[ji];omega)];exact m
    ·have A:pre (fun i=>sinksL b.Aa (i:Int) (j+1)) b.Ac.length=pre (fun i=>sinksL b.Aa (i:Int) j) b.Ac.length:=by
      refine qg3 fun k o=>?_;rw[qiW];unfold snkQ;rw[hdr];simp
     have H:=qtg r (show l<b.Aa.Aj.length by omega) a p hdr;have B:vecI (fun k=>if dvN b.Aa k<j+1 then(dvN b.Aa k:Int) else 0) b.Ac.length=setS (vecI (fun k=>if dvN b.Aa k<j then(dvN b.Aa k:Int) else 0) b.Ac.length) (l:Int) (j:Int):=by
      rw[qoK];refine qfr fun k o=>?_;by_cases c:k=l
      ·subst c;rw[if_pos Z,H,if_pos (by omega)]
      ·rw[if_neg c];have K:dvN b.Aa k ≠ j:=fun e=>by
        have:=(qlU.1 (qic r (k:=k) (by omega)).2).1;rw[e,p] at this;omega
       by_cases u:dvN b.Aa k<j
       ·rw[if_pos u,if_pos (by omega)]
       ·rw[if_neg u,if_neg (by omega)]
     rw[A,B] at m;exact m)
  simpa [sinksL,pre,vecI] using this
 have D:∀ (i k:Nat) (s:Int) (t:List qm),i<b.Ac.length→0≤s→s≤78→t.length≤1000000→Ev (fun n=>qc7 (vecI (fun k=>(dvN b.Aa k:Int)) b.Ac.length) (i:Int) (k:Int) s n t 0) (t++wl1 (dvN b.Aa i) s k,2):=by
  intro i k s t hi a5 a6 ht;have v:=(qic r (k:=i) (by omega)).1;have L:idx (vecI (fun k=>(dvN b.Aa k:Int)) b.Ac.length) (i:Int)=V (dvN b.Aa i:Int):=qlZ hi;refine Ev.succ ?_;simp only[qc7,L,jd];refine Ev.tt Z ?_;rw[wO (2*(dvN b.Aa i:Int)),wO (2*s),wO (2*(dvN b.Aa i:Int)+0),wO (2*s+0),qcE (by rw[ji];omega)];simp only[jd];refine Ev.succ ?_;simp only[qc7,L,jd];refine Ev.tt Z ?_;rw[show W64 (0+1)=1 from rfl,wO (2*(dvN b.Aa i:Int)),wO (2*s),wO (2*(dvN b.Aa i:Int)+1),wO (2*s+1),qcE (by rw[jg,ji,ji];omega)];simp only[jd];refine Ev.succ ?_;simp only[qc7];refine Ev.ff Z (Ev.now ?_);unfold wl1;rw[jt,jY,jY]
  rfl
 have C:∀ (i:Nat) (t:List qm),i<b.Ac.length→t.length≤900000→Ev (fun n=>qc8 (vecI (fun k=>(dvN b.Aa k:Int)) b.Ac.length) (i:Int) (skL b i) n t 0) (t++wlN b i (skL b i).length,((skL b i).length:Int)):=by
  intro i t hi ht;have a8:=qgW h (i:=i);have:=loopF (Lf:=qc8 (vecI (fun k=>(dvN b.Aa k:Int)) b.Ac.length) (i:Int) (skL b i)) (S:=fun k=>t++wlN b i k) (len:=(skL b i).length) (fin:=(t++wlN b i (skL b i).length,((skL b i).length:Int))) (fun n=>by simp only[qc8,qt (je _),cond_false])
   (fun k o X m=>by
    obtain⟨y,L,ey,_⟩:=qmN o;have hwn:=qqb (b:=b) (i:=i) (j:=k);simp only[qc8,qr o,cond_true,qar o,jd,wS k];refine Ev.bind (D i k (at0 (skL b i) k) (t++wlN b i k) hi (by omega) (by omega) (by rw[jg];omega)) ?_;rw[jt,show wlN b i k++wl1 (dvN b.Aa i) (at0 (skL b i) k) k=wlN b i (k+1) from qji.symm];exact m)
  simpa [wlN,fm] using this
 have Q:Ev (fun n=>qcZ b (pre (fun i=>skL b i) b.Ac.length) (vecI (fun k=>(dvN b.Aa k:Int)) b.Ac.length) n ([]:List (List Int)) ([]:List Int) (instLs b b.Aa.Ab.length) 0) (pre (exactL b) b.Ac.length,pre (load0 b) b.Ac.length,linksL b,(b.Ac.length:Int)):=by
  have F:=qiu h (je _);have:=loopF (τ:=List (List Int)×List Int×List qm) (Lf:=fun n t j=>qcZ b (pre (fun i=>skL b i) b.Ac.length) (vecI (fun k=>(dvN b.Aa k:Int)) b.Ac.length) n t.1 t.2.1 t.2.2 j) (S:=fun j=>(pre (exactL b) j,pre (load0 b) j,instLs b b.Aa.Ab.length++wireLs b j)) (len:=b.Ac.length)
   (fin:=(pre (exactL b) b.Ac.length,pre (load0 b) b.Ac.length,linksL b,(b.Ac.length:Int))) (fun n=>by simp only[qcZ,qt (je _),cond_false];rfl)
   (fun j a X m=>by
    have hw:=qbz h a;have W:=hw.lo;have T:=qkS h a;have O:=qmD h (j:=j);simp only[qcZ,qr a,cond_true,wS j];refine Ev.bind (qmR h a) ?_;rw[show idx (loadsL b j) (0:Int)=V (load0 b j) from qy (j:=0) (by omega)];simp only[jd];rw[qpZ (by omega)];simp only[jd];refine Ev.bind (qoM h a) ?_;rw[qpZ (by omega),qh4 (f:=fun i=>skL b i) a];simp only[jd];refine Ev.bind (C j _ a (by rw[jg];omega)) ?_;rw[jt,show wireLs b j++wlN b j (skL b j).length=wireLs b (j+1) from qji.symm];exact m)
  simpa [wireLs,fm,pre] using this
 unfold qid;refine Ev.bind (qme z) (Ev.bind e1 ?_);rw[I,J];simp only[jd];exact Ev.bind P (Ev.bind Q .done)

structure LkOk (ls:List qm)(M:Nat):Prop where
 len:ls.length≤10000
 nodes:M≤156
 fr0:∀ x,x<ls.length→0≤(gt ls x).Bd
 fr1:∀ x,x<ls.length→(gt ls x).Bd<(M:Int)
 to0:∀ x,x<ls.length→0≤(gt ls x).To
 to1:∀ x,x<ls.length→(gt ls x).To<(M:Int)
def frL (ls:List qm)(x:Nat):Int:=(gt ls x).Bd
def toL (ls:List qm)(x:Nat):Int:=(gt ls x).To
def lvL (lv:List Bool)(x:Nat):Bool:=gt lv x
abbrev inL (ls:List qm)(lv:List Bool)(j:Nat)(R:List Nat)(k:Nat):Nat:=inN j (frL ls) (toL ls) (lvL lv) R k
abbrev nxtL (ls:List qm)(lv:List Bool)(M:Nat)(R:List Nat):Option Nat:=nxtN ls.length (frL ls) (toL ls) (lvL lv) M R
abbrev ordL (ls:List qm)(lv:List Bool)(M m:Nat)(R:List Nat):Option (List Nat):=ordN ls.length (frL ls) (toL ls) (lvL lv) M m R
def ordR (ls:List qm)(lv:List Bool)(M:Nat):List Int×Bool:=match ordL ls lv M M [] with|some R=>(ints R,true)|none=>([],false)
theorem qsK {ls:List qm}{lv:List Bool}{M m:Nat}{R:List Nat}(h:nxtL ls lv M R=U):ordL ls lv M (m+1) R=U:=by
 show(match nxtL ls lv M R with|none=>U|some k=>ordL ls lv M m (R++[k]))=U;rw[h]
theorem qsZ {ls:List qm}{lv:List Bool}{M m k:Nat}{R:List Nat}(h:nxtL ls lv M R=V k):ordL ls lv M (m+1) R=ordL ls lv M m (R++[k]):=by
 show(match nxtL ls lv M R with|none=>U|some k=>ordL ls lv M m (R++[k]))=_;rw[h]
theorem qkM {M:Nat}{v:Bool}(h:M≤2147483648):mkS (M:Int) v=V (pre (fun _=>v) M):=by
 rw[qjX h]
 congr 1
 refine Ja (by simp[pre]) fun i a b=>?_;simp[pre]
theorem qvk {L:Nat}{fr to:Nat→Int}{lv:Nat→Bool}{R:List Nat}{k:Nat}:inN L fr to lv R k≤L:=qf2
theorem qqE {L:Nat}{fr to:Nat→Int}{lv:Nat→Bool}{R:List Nat}{k:Nat}:inN (L+1) fr to lv R k=inN L fr to lv R k+(bif lv L&&(to L==(k:Int)&&!decide (fr L ∈ ints R)) then 1 else 0):=rfl
def ledB (ls:List qm)(lv:List Bool)(j:Nat)(R:List Nat)(M:Nat):List Bool:=pre (fun k=>!decide (inL ls lv j R k=0)) M
def inB (R:List Nat)(M:Nat):List Bool:=pre (fun k=>decide (k ∈ R)) M
theorem quk {ls:List qm}{lv:List Bool}{M:Nat}(h:LkOk ls M)(A:lv.length=ls.length){R:List Nat} :
  Ev (fun n=>qcA ls lv (inB R M) n (pre (fun _=>false) M) 0) (ledB ls lv ls.length R M,(ls.length:Int)):=by
 have x:=h.len;refine loopF (Lf:=qcA ls lv (inB R M)) (S:=fun j=>ledB ls lv j R M) (len:=ls.length) (fun n=>?_) (fun j l X i=>?_)
 ·simp only[qcA,qt (je _),cond_false]
 ·obtain⟨a,u⟩:∃ a:Nat,(gt ls j).Bd=(a:Int):=⟨_,qfm (h.fr0 j l)⟩;obtain⟨c,v⟩:∃ c:Nat,(gt ls j).To=(c:Int):=⟨_,qfm (h.to0 j l)⟩;have p:a<M:=by have:=h.fr1 j l;omega
  have r:c<M:=by have:=h.to1 j l;omega
  have s:frL ls j=(a:Int):=u;have o:toL ls j=(c:Int):=v;have b:decide (frL ls j ∈ ints R)=decide (a ∈ R):=by rw[s];exact decide_eq_decide.2 qkq
  have y:idx (inB R M) (a:Int)=V (decide (a ∈ R)):=qh4 (f:=fun k=>decide (k ∈ R)) p;have z:idx (ledB ls lv j R M) (c:Int)=V (!decide (inL ls lv j R c=0)):=qh4 (f:=fun k=>!decide (inL ls lv j R k=0)) r;have t:(lvL lv j&&!decide (a ∈ R))=true→ledB ls lv (j+1) R M=setS (ledB ls lv j R M) (c:Int) true:=by
   intro g;unfold ledB;rw[qnd];refine qg3 fun k _=>?_;show(!decide (inN (j+1) _ _ _ R k=0))=_;rw[qqE,o,b];by_cases m:k=c
   ·subst m;rw[if_pos Z];simp only[jf] at g;simp[g.1,g.2]
   ·rw[if_neg m,show((c:Int)==(k:Int))=false by simp;omega];simp
  have d:(lvL lv j&&!decide (a ∈ R))=false→ledB ls lv (j+1) R M=ledB ls lv j R M:=by
   intro g;unfold ledB;refine qg3 fun k _=>?_;show(!decide (inN (j+1) _ _ _ R k=0))=_;rw[qqE,o,b,show(lvL lv j&&(((c:Int)==(k:Int))&&!decide (a ∈ R)))=false by
    cases h1:lvL lv j
    ·rfl
    ·rw[h1] at g;simp only[jB] at g;rw[g];simp]
   simp
  simp only[qcA,qr l,cond_true,qy (show j<lv.length by omega),qy l,jd,u,v,y,z,wS j];cases h1:gt lv j
  ·simp only[cond_false,jd];have:=d (by unfold lvL;rw[h1];rfl);rw[this] at i;exact i
  ·simp only[cond_true,jd];cases h2:decide (a ∈ R)
   ·simp only[Bool.not_false,cond_true];have:=t (by unfold lvL;rw[h1,h2];rfl);rw[this] at i;exact i
   ·simp only[Jg,cond_false];have:=d (by unfold lvL;rw[h1,h2];rfl);rw[this] at i;exact i
theorem qt5 {ls:List qm}{lv:List Bool}{M:Nat}(h:LkOk ls M){R:List Nat} :
  Ev (fun n=>qb7 (M:Int) (inB R M) (ledB ls lv ls.length R M) n 0) (match nxtL ls lv M R with|some k=>(k:Int)|none=>(M:Int)):=by
 have u:=h.nodes;have b:∀ d j,j+d=M→(∀ i,i<j→freeN ls.length (frL ls) (toL ls) (lvL lv) R i=false) →
   Ev (fun n=>qb7 (M:Int) (inB R M) (ledB ls lv ls.length R M) n (j:Int)) (match nxtL ls lv M R with|some k=>(k:Int)|none=>(M:Int)):=by
  intro d
  induction d with
  | zero=>
   intro j p c;have l:nxtL ls lv M R=U:=by
    show(List.range M).find? _=U;rw[List.find?_eq_none];intro x r;rw[List.mem_range] at r;rw[c x (by omega)];simp
   rw[l];refine Ev.succ ?_;simp only[qb7,qt (show M≤j by omega),cond_false];rw[show j=M by omega];exact .done
  | succ d ih=>
   intro j p c;have a:j<M:=by omega
   have s:idx (inB R M) (j:Int)=V (decide (j ∈ R)):=qh4 (f:=fun k=>decide (k ∈ R)) a;have t:idx (ledB ls lv ls.length R M) (j:Int)=V (!decide (inL ls lv ls.length R j=0)):=qh4 (f:=fun k=>!decide (inL ls lv ls.length R k=0)) a;refine Ev.succ ?_;simp only[qb7,qr a,cond_true,s,t,jd,wS j];have m:freeN ls.length (frL ls) (toL ls) (lvL lv) R j=false→Ev (fun n=>qb7 (M:Int) (inB R M) (ledB ls lv ls.length R M) n ((j+1:Nat):Int)) (match nxtL ls lv M R with|some k=>(k:Int)|none=>(M:Int)):=fun o=>
    ih (j+1) (by omega) fun i hi=>by
     by_cases g:i=j
     ·rw[g];exact o
     ·exact c i (by omega)
   cases h1:decide (j ∈ R)
   ·simp only[cond_false];cases h2:decide (inL ls lv ls.length R j=0)
    ·simp only[Bool.not_false,cond_true];exact m (by unfold freeN;rw[h1];show(!false&&decide (inL ls lv ls.length R j=0))=false;rw[h2];rfl)
    ·simp only[Jg,cond_false];have:nxtL ls lv M R=V j:=by
      show(List.range M).find? _=V j;rw[List.find?_range_eq_some];refine⟨?_,List.mem_range.2 a,fun i hi=>by rw[c i hi];rfl⟩;unfold freeN;rw[h1];show(!false&&decide (inL ls lv ls.length R j=0))=true;rw[h2];rfl
     rw[this];exact .done
   ·simp only[cond_true];exact m (by unfold freeN;rw[h1];rfl)
 exact b M 0 (by omega) (fun i hi=>absurd hi (by omega))
theorem qsr {ls:List qm}{lv:List Bool}{M:Nat}(h:LkOk ls M)(g:lv.length=ls.length):Ev (fun n=>qhf n (M:Int) ls lv) (ordR ls lv M):=by
 have o:=h.nodes;have b:∀ m R,R.length+m=M→Ev (fun n=>qer (M:Int) ls lv n (inB R M) (ints R))
   (match ordL ls lv M m R with|some R'=>.nxt (inB R' M,ints R')|none=>.ret ([],false)):=by
  intro m
  induction m with
  | zero=>
   intro R c;refine Ev.succ ?_;simp only[qer,qcR,qt (show M≤R.length by omega),cond_false];exact .done
  | succ m ih=>
   intro R c;refine Ev.succ ?_;simp only[qer,qcR,qr (show R.length<M by omega),cond_true,qkM (v:=false) (show M≤2147483648 by omega),jd];refine Ev.bind (quk h g) (Ev.bind (qt5 h) ?_);show Ev _ (match (match nxtL ls lv M R with|none=>U|some k=>ordL ls lv M m (R++[k])) with|some R'=>_|none=>_);cases hn:nxtL ls lv M R with
   | none=>
    simp only[beq_self_eq_true,cond_true];exact .done
   | some k=>
    obtain⟨d,_,_⟩:=qnx hn;have l:idx (inB R M) (k:Int)=V (decide (k ∈ R)):=qh4 (f:=fun k=>decide (k ∈ R)) d;have e1:setS (inB R M) (k:Int) true=inB (R++[k]) M:=by
     unfold inB;rw[qnd];refine qg3 fun i _=>?_;by_cases a:i=k
     ·subst a;simp
     ·simp[a]
    simp only[show((k:Int)==(M:Int))=false by simp;omega,cond_false,l,jd];rw[qcE (by rw[qcR,ji];omega),e1,←qjl];exact ih (R++[k]) (by rw[jg,ji];omega)
 have e0:pre (fun _=>false) M=inB [] M:=qg3 fun k _=>by simp
 unfold qhf;rw[qkM (v:=false) (show M≤2147483648 by omega)];simp only[jd];rw[e0];refine Ev.bind (b M [] (by simp)) ?_;unfold ordR;cases ordL ls lv M M []<;>exact .done
def grV (ls:List qm)(lv:List Bool)(ps:List Tplace)(b:qe)(lo:List Int)(de:List (List Int))(ex:List Int):Option Tgraph:=V ⟨V ⟨b,ps,ls,lo,de,ex⟩,lv⟩
theorem qqh {xs:List Int}(c:xs.length≤1000000):Ev (fun n=>qgP n xs 0) (ixL (fun y=>(0:Int)==y) xs):=
 qf8 (fin:=(xs.length:Int)) (Lf:=qcS xs 0) (pf:=fun _ y=>V ((0:Int)==y)) (fun _ _=>.done)
  (fun n=>by simp only[qcS,qt (je _),cond_false])
  (fun n j x a=>by
   have b:=(List.getElem?_eq_some_iff.1 a).1;simp only[qcS,qr b,cond_true,qg5 a,jd,wS j])
  (fun n=>by unfold qgP;congr 1;funext o;cases o<;>rfl)
theorem quD {f:Nat→Int}{M:Nat}{p:Int→Bool}:ixL p (vecI f M)=match (List.range M).find? (fun k=>p (f k)) with|some k=>(k:Int)|none=>-1:=by
 cases hf:(List.range M).find? (fun k=>p (f k)) with
 | none=>
  have a:(vecI f M).findIdx? p=U:=by
   rw[List.findIdx?_eq_none_iff];intro x g;obtain⟨k,d,rfl⟩:=List.mem_map.1 g;have:=List.find?_eq_none.1 hf k d;simpa using this
  unfold ixL;rw[a]
 | some k=>
  obtain⟨a,b,c⟩:=List.find?_range_eq_some.1 hf;rw[List.mem_range] at b;have:=qpy (p:=p) (xs:=vecI f M) (j:=k) (by rw[qkL];exact b) (by simpa [vecI] using a) (fun i hi=>by
   have:=c i hi;simpa [vecI] using this)
  rw[this]
section
variable {ls:List qm}{lv:List Bool}{M:Nat}{ps:List Tplace}{b:qe}{lo:List Int}{de:List (List Int)}{ex:List Int}
theorem qp9 (h:LkOk ls M)(k:lv.length=ls.length):Ev (fun n=>qbj n (grV ls lv ps b lo de ex)) (ints (selN (lvL lv) ls.length)):=by
 have g:=h.len;have f:Ev (fun n=>qP ⟨V ⟨b,ps,ls,lo,de,ex⟩,lv⟩ ⟨b,ps,ls,lo,de,ex⟩ n ([]:List Int) 0) (ints (selN (lvL lv) ls.length),(ls.length:Int)):=by
  refine qnO (q:=lvL lv) (Lf:=qP ⟨V ⟨b,ps,ls,lo,de,ex⟩,lv⟩ ⟨b,ps,ls,lo,de,ex⟩) (len:=ls.length) (by omega) (Ev.succ ?_) (fun j a t i X c d=>?_)
  ·simp only[qP,qt (je _),cond_false];exact .done
  ·simp only[qP,qr a,cond_true,qy a,qy (show j<lv.length by omega),jd,qhx,i,wS j];cases hq:gt lv j
   ·simp only[cond_false];exact d hq
   ·simp only[cond_true];exact c hq
 unfold qbj grV;simp only[jd];exact Ev.bind f .done
theorem quL (h:LkOk ls M)(k:lv.length=ls.length){v:Int}:Ev (fun n=>qhu n (grV ls lv ps b lo de ex) v) (ints (selN (fun x=>lvL lv x&&(frL ls x==v)) ls.length)):=by
 have g:=h.len;have f:Ev (fun n=>qQ v ⟨V ⟨b,ps,ls,lo,de,ex⟩,lv⟩ ⟨b,ps,ls,lo,de,ex⟩ n ([]:List Int) 0) (ints (selN (fun x=>lvL lv x&&(frL ls x==v)) ls.length),(ls.length:Int)):=by
  refine qnO (q:=fun x=>lvL lv x&&(frL ls x==v)) (Lf:=qQ v ⟨V ⟨b,ps,ls,lo,de,ex⟩,lv⟩ ⟨b,ps,ls,lo,de,ex⟩) (len:=ls.length) (by omega) (Ev.succ ?_) (fun j d t i X c a=>?_)
  ·simp only[qQ,qt (je _),cond_false];exact .done
  ·simp only[qQ,qr d,cond_true,qy d,qy (show j<lv.length by omega),jd,qif,i,wS j];unfold lvL frL at c a;cases hq:gt lv j
   ·simp only[cond_false];exact a (by rw[hq];rfl)
   ·simp only[cond_true];cases hw:(gt ls j).Bd==v
    ·simp only[cond_false];exact a (by rw[hq,hw];rfl)
    ·simp only[cond_true];exact c (by rw[hq,hw];rfl)
 unfold qhu qcj grV;simp only[jd];exact Ev.bind (Ev.bind f .done) .done
theorem qs7 {q:Nat→Bool}{m:Nat}{p:Nat→Bool}:(selN q m).countP p=cntP (fun x=>q x&&p x) m:=by
 induction m with
 | zero=>rfl
 | succ m ih=>
  rw[qkO,List.countP_append,ih];show _=cntP (fun x=>q x&&p x) m+(bif (q m&&p m) then 1 else 0);cases q m
  ·rfl
  ·cases hp:p m<;>simp[hp]
def cntT (ls:List qm)(S:List Nat)(k:Nat):Nat:=S.countP (fun x=>toL ls x==(k:Int))
theorem qsf {S:List Nat}{k:Nat}:cntT ls S k≤S.length:=List.countP_le_length
theorem qsw {S:List Nat}{j k:Nat}(a:j<S.length):cntT ls (S.take (j+1)) k=cntT ls (S.take j) k+(if toL ls S[j]=(k:Int) then 1 else 0):=by
 unfold cntT;rw[jE a,List.countP_append];by_cases h:toL ls S[j]=(k:Int)<;>simp[h]
theorem bumpV {f:Nat→Int}{c:Nat}{S:List Nat}{j:Nat}{d v:Int}(g:j<S.length)(b:toL ls S[j]=(c:Int))(h:v=f c+d*(cntT ls (S.take j) c:Int)+d) :
  setS (vecI (fun k=>f k+d*(cntT ls (S.take j) k:Int)) M) (c:Int) v=vecI (fun k=>f k+d*(cntT ls (S.take (j+1)) k:Int)) M:=by
 rw[qoK];refine qfr fun k _=>?_;rw[qsw g,b];by_cases a:k=c
 ·subst a;rw[if_pos Z,if_pos Z,h];rw[Int.natCast_add,Int.mul_add];omega
 ·rw[if_neg a,if_neg (by omega)];simp
theorem qu9 (h:LkOk ls M){S:List Nat}(p:∀ x,x ∈ S→x<ls.length)(s:S.length≤10000) :
  Ev (fun n=>qb9 ⟨V ⟨b,ps,ls,lo,de,ex⟩,lv⟩ (ints S) n (vecI (fun _=>0) M) 0) (vecI (fun k=>(cntT ls S k:Int)) M,(S.length:Int)):=by
 have:=loopF (Lf:=qb9 ⟨V ⟨b,ps,ls,lo,de,ex⟩,lv⟩ (ints S)) (S:=fun j=>vecI (fun k=>0+1*(cntT ls (S.take j) k:Int)) M) (len:=S.length) (fin:=(vecI (fun k=>(cntT ls S k:Int)) M,(S.length:Int))) (fun n=>by
   simp only[qb9,qcR,qt (je _),cond_false,jJ];rw[qfr (f:=fun k=>0+1*(cntT ls S k:Int)) (g:=fun k=>(cntT ls S k:Int)) (fun k _=>by omega)])
  (fun j a X r=>by
   have m:=p S[j] (jo a);obtain⟨c,o⟩:∃ c:Nat,(gt ls S[j]).To=(c:Int):=⟨_,qfm (h.to0 _ m)⟩;have i:c<M:=by have:=h.to1 _ m;omega
   have l:=qsf (ls:=ls) (S:=S.take j) (k:=c);rw[Jd] at l;simp only[qb9,qcR,qr a,cond_true,qmU a,jd,qy m,o,qlZ i,wS j];rw[qU (by omega) (by omega),bumpV (d:=1) a o (by omega)];exact r)
 rw[qfr (f:=fun k=>0+1*(cntT ls (S.take 0) k:Int)) (g:=fun _=>0) (fun k _=>by unfold cntT;simp)] at this;exact this
theorem qs4 (h:LkOk ls M){S:List Nat}{f:Nat→Int}(p:∀ x,x ∈ S→x<ls.length)(u:S.length≤10000)(s:∀ k,k<M→-1≤f k∧f k≤10000) :
  Ev (fun n=>qcc ⟨V ⟨b,ps,ls,lo,de,ex⟩,lv⟩ (ints S) n (vecI f M) 0) (vecI (fun k=>f k-(cntT ls S k:Int)) M,(S.length:Int)):=by
 have:=loopF (Lf:=qcc ⟨V ⟨b,ps,ls,lo,de,ex⟩,lv⟩ (ints S)) (S:=fun j=>vecI (fun k=>f k+(-1)*(cntT ls (S.take j) k:Int)) M) (len:=S.length) (fin:=(vecI (fun k=>f k-(cntT ls S k:Int)) M,(S.length:Int))) (fun n=>by
   simp only[qcc,qcR,qt (je _),cond_false,jJ];rw[qfr (f:=fun k=>f k+(-1)*(cntT ls S k:Int)) (g:=fun k=>f k-(cntT ls S k:Int)) (fun k _=>by omega)])
  (fun j i X r=>by
   have m:=p S[j] (jo i);obtain⟨c,o⟩:∃ c:Nat,(gt ls S[j]).To=(c:Int):=⟨_,qfm (h.to0 _ m)⟩;have a:c<M:=by have:=h.to1 _ m;omega
   have l:=qsf (ls:=ls) (S:=S.take j) (k:=c);rw[Jd] at l;have t:=s c a;simp only[qcc,qcR,qr i,cond_true,qmU i,jd,qy m,o,qlZ a,wS j];rw[qU (by omega) (by omega),bumpV (d:=-1) i o (by omega)];exact r)
 rw[qfr (f:=fun k=>f k+(-1)*(cntT ls (S.take 0) k:Int)) (g:=f) (fun k _=>by unfold cntT;simp)] at this;exact this
def openV (ls:List qm)(lv:List Bool)(R:List Nat)(k:Nat):Int:=if k ∈ R then -1 else(inL ls lv ls.length R k:Int)
theorem qsH {R:List Nat}:ixL (fun y=>(0:Int)==y) (vecI (openV ls lv R) M)=match nxtL ls lv M R with|some k=>(k:Int)|none=>-1:=by
 rw[quD];have:(fun k=>((0:Int)==openV ls lv R k))=freeN ls.length (frL ls) (toL ls) (lvL lv) R:=by
  funext k
  unfold openV freeN;by_cases a:k ∈ R
  ·rw[if_pos a];simp[a]
  ·rw[if_neg a];simp only[a,decide_false,Bool.not_false,jB];by_cases b:inL ls lv ls.length R k=0
   ·simp[b]
   ·rw[show((0:Int)==((inL ls lv ls.length R k:Nat):Int))=false from beq_eq_false_iff_ne.2 (by omega)];simpa using b
 rw[this]
 rfl
theorem qsU (h:LkOk ls M)(t:lv.length=ls.length)(F:M=2*ps.length):Ev (fun n=>qgT n (grV ls lv ps b lo de ex)) (ordR ls lv M):=by
 have H:=h.nodes;have C:=h.len;have g:∀ m R,R.length+m=M→Closed ls.length (frL ls) (toL ls) (lvL lv) R→∃ y:List Int×List Int×Int,Ev (fun n=>qcb (grV ls lv ps b lo de ex) ⟨V ⟨b,ps,ls,lo,de,ex⟩,lv⟩ (vecI (fun _=>0) M) n (ints R) (vecI (openV ls lv R) M) (R.length:Int))
   (match ordL ls lv M m R with|some R'=>.nxt (ints R',y.2.1,y.2.2)|none=>.ret ([],false)):=by
  intro m
  induction m with
  | zero=>
   intro R A _;refine⟨(ints R,vecI (openV ls lv R) M,(R.length:Int)),Ev.succ ?_⟩;simp only[qcb,qkL,qt (show M≤R.length by omega),cond_false];exact .done
  | succ m ih=>
   intro R A s;have c:=qqh (xs:=vecI (openV ls lv R) M) (by rw[qkL];omega);rw[qsH] at c;cases hn:nxtL ls lv M R with
   | none=>
    rw[hn] at c;rw[qsK hn];refine⟨([],[],0),Ev.succ ?_⟩;simp only[qcb,qkL,qr (show R.length<M by omega),cond_true];exact Ev.bind c (Ev.tt (by decide) .done)
   | some k=>
    rw[hn] at c;rw[qsZ hn];obtain⟨B,d,r⟩:=qnx hn;obtain⟨y,o⟩:=ih (R++[k]) (by rw[jg,ji];omega) (s.snoc r);refine⟨y,Ev.succ ?_⟩;simp only[qcb,qkL,qr (show R.length<M by omega),cond_true];refine Ev.bind c (Ev.ff (by simp) ?_);rw[qlZ B,qcE (by rw[qcR,ji];omega),qoK,←qjl];simp only[jd];refine Ev.bind (quL h t) ?_;have D:=qkI (q:=fun x=>lvL lv x&&(frL ls x==(k:Int))) (j:=ls.length);refine Ev.bind (qs4 h (fun x p=>(qkK.1 p).1) (by omega) (fun i hi=>?_)) ?_
    ·split
     ·omega
     ·unfold openV;have:inL ls lv ls.length R i≤ls.length:=qvk;split<;>omega
    ·have u:vecI (fun i=>(if i=k then -1 else openV ls lv R i)-(cntT ls (selN (fun x=>lvL lv x&&(frL ls x==(k:Int))) ls.length) i:Int)) M=vecI (openV ls lv (R++[k])) M:=by
      refine qfr fun i _=>?_;have v:cntT ls (selN (fun x=>lvL lv x&&(frL ls x==(k:Int))) ls.length) i=lkN ls.length (frL ls) (toL ls) (lvL lv) k i:=qs7;rw[v];unfold openV;by_cases a:i ∈ R++[k]
      ·rw[if_pos a,s.no_back d r a];rcases List.mem_append.1 a with l|l
       ·split
        ·rfl
        ·rfl
       ·rw[if_pos (List.mem_singleton.1 l)];rfl
      ·have l:i ∉ R:=fun e=>a (jL _ e);have z:i ≠ k:=fun e=>a (jX _ (List.mem_singleton.2 e));rw[if_neg a,if_neg z,if_neg l];have:=qtC (L:=ls.length) (fr:=frL ls) (to:=toL ls) (lv:=lvL lv) (R:=R) (i:=k) (k:=i) d;show(inN _ _ _ _ R i:Int)-_=(inN _ _ _ _ (R++[k]) i:Int);omega
     rw[u,qhh (show R.length<9223372036854775807 by omega)];rw[jg,ji] at o;exact o
 have f:=qu9 (b:=b) (ps:=ps) (lo:=lo) (de:=de) (ex:=ex) (lv:=lv) h (S:=selN (lvL lv) ls.length) (fun x p=>(qkK.1 p).1) (by have:=qkI (q:=lvL lv) (j:=ls.length);omega);have e0:vecI (fun k=>(cntT ls (selN (lvL lv) ls.length) k:Int)) M=vecI (openV ls lv []) M:=by
  refine qfr fun k _=>?_;unfold openV;rw[if_neg (by simp)]
  congr 1
  show List.countP _ _=inN _ _ _ _ [] k;rw[qs7];unfold inN;exact qoL fun x _=>by simp[ints]
 rw[e0] at f;obtain⟨y,o⟩:=g M [] (by simp) Closed.nil;unfold qgT;show Ev (fun n=>(V _).bind _) _;simp only[jd,qda,qd9];rw[qU (by omega) (by omega),show 2*(ps.length:Int)=(M:Int) by omega,qpR (by omega)];simp only[jd];refine Ev.bind (qp9 h t) (Ev.bind f (Ev.bind o ?_));unfold ordR;cases ordL ls lv M M []<;>exact .done
end

theorem qqq {n m:Nat}{a b mode:Int}:qff n a b mode=qcx m a b mode:=by
 unfold qff qcx;cases quoS a b with
 | none=>rfl
 | some y1=>
  cases remS a b with
  | none=>rfl
  | some y2=>
   simp only[jd];generalize decide (y2<0)=p;generalize decide (y2 > 0)=q;generalize (mode==0)=m0;generalize (mode==1)=m1;cases p<;>cases q<;>cases m0<;>cases m1<;>rfl
theorem qt7 {a b:Int}(f:0<b):-(if a<0 then -a else a)≤a.tdiv b∧a.tdiv b≤(if a<0 then -a else a):=by
 by_cases h:a<0
 ·rw[if_pos h];have e:a.tdiv b=-((-a).tdiv b):=by rw[Int.neg_tdiv,Int.neg_neg]
  rw[e,jz (show 0≤-a by omega)];have c:=Int.ediv_nonneg (show 0≤-a by omega) (show 0≤b by omega);have d:=Int.ediv_le_self (a:=-a) b (by omega);omega
 ·rw[if_neg h,jz (by omega)];have c:=Int.ediv_nonneg (show 0≤a by omega) (show 0≤b by omega);have d:=Int.ediv_le_self (a:=a) b (by omega);omega
theorem qjI {n:Nat}{a b mode:Int}(d:0<b)(g:-9000000000000000000≤a)(h:a≤9000000000000000000):qcx n a b mode=V (divI a b mode):=by
 have c:=qt7 (a:=a) d;have i:-9000000000000000000≤a.tdiv b∧a.tdiv b≤9000000000000000000:=by
  revert c;split<;>intro c<;>omega
 unfold qcx quoS remS divI;rw[if_neg (by omega),if_neg (by omega)];have f:IntKind.i64.wrap (a.tdiv b)=a.tdiv b:=qU (by omega) (by omega);simp only[f,jd];rw[wO (a.tdiv b-1),wO (a.tdiv b+1)];generalize decide (a.tmod b<0)=p;generalize decide (a.tmod b > 0)=q;generalize (mode==0)=m0;generalize (mode==1)=m1;cases p<;>cases q<;>cases m0<;>cases m1<;>rfl
theorem qjP {a b mode M:Int}(d:0<b)(c:0≤a)(h:a≤b*M):0≤divI a b mode∧divI a b mode≤M:=by
 rw[qkW c d];have e:=Int.emod_add_mul_ediv a b;have k:=Int.emod_nonneg a (show b ≠ 0 by omega);have g:=Int.ediv_nonneg c (show 0≤b by omega);have i:a / b≤M:=Int.ediv_le_of_le_mul d (by rw[Int.mul_comm];exact h);split
 ·rename_i hc
  refine⟨by omega,?_⟩;have:a / b<M:=by
   refine Int.lt_of_not_ge fun l=>?_;have f:a / b=M:=by omega
   rw[f] at e;omega
  omega
 ·exact⟨g,i⟩
structure AxOk (ax:List Int):Prop where
 lo:1≤ax.length
 hi:ax.length≤4
 at_:∀ j,j<ax.length→0≤at0 ax j∧at0 ax j≤100000
 inc:∀ j i,i<j→j<ax.length→at0 ax i<at0 ax j
theorem qrh {b:List Int}(h:axisB b=true):AxOk b:=by
 unfold axisB lenB incB at h;simp only[jf,decide_eq_true_eq] at h;obtain⟨⟨m,n⟩,k,l⟩:=h;rw[qgI (d:=0),qai] at k;rw[qai] at l;refine⟨m,n,fun j f=>by have:=k j f;rw[qa5] at this;exact this,fun j=>?_⟩
 induction j with
 | zero=>intro i hi _;omega
 | succ j ih=>
  intro i hi f;have a:=l (j+1) f;unfold stepB at a;simp only[Bool.or_eq_true,decide_eq_true_eq,Nat.add_sub_cancel] at a;have g:at0 b j<at0 b (j+1):=by
   rcases a with a|a
   ·omega
   ·exact a
  by_cases c:i=j
  ·rw[c];exact g
  ·have:=ih i (by omega) (by omega);omega
theorem least {P:Nat→Prop}:∀ m,P m→∃ p,p≤m∧P p∧∀ k,k<p→¬ P k:=by
 intro m
 induction m using Nat.strongRecOn with
 | ind m ih=>
  intro f;by_cases h:∃ k,k<m∧P k
  ·obtain⟨k,a,b⟩:=h;obtain⟨p,g,c,d⟩:=ih k a b;exact⟨p,by omega,c,d⟩
  ·exact⟨m,je _,f,fun k a b=>h ⟨k,a,b⟩⟩
structure Wt (ax:List Int)(i:Nat)(a b:Int):Prop where
 il:i<ax.length
 a0:0<a
 a1:a≤100000
 b0:0≤b
 b1:b≤100000
 nx:0<b→i+1<ax.length
 one:b=0→a=1
def wtL (i:Nat)(a b:Int):List Tweight:=if b=0 then[⟨(i:Int),1⟩] else[⟨(i:Int),a⟩,⟨((i+1:Nat):Int),b⟩]
def clampV (a:List Int)(x:Int):Int:=if at0 a (a.length-1)<(if at0 a 0 > x then at0 a 0 else x) then at0 a (a.length-1) else(if at0 a 0 > x then at0 a 0 else x)
theorem quM {m:Nat}(h:m≤8):shrS .u64 (IntKind.wrap .u64 (W64 (m:Int))) 1=V ((m / 2:Nat):Int):=by
 rcases (by omega:m=0∨m=1∨m=2∨m=3∨m=4∨m=5∨m=6∨m=7∨m=8) with e|e|e|e|e|e|e|e|e<;>rw[e]<;>rfl
theorem qsq {a:List Int}(h:AxOk a){c:Int}{p:Nat}(s:p<a.length)(z:c≤at0 a p)(t:∀ k,k<p→at0 a k<c) :
  Ev (fun n=>qdd n a c) ((p:Int),(at0 a p==c)):=by
 have y:=h.hi;have b:∀ d i j,j-i≤d→i≤p→p≤j→j≤a.length→Ev (fun n=>qaD a c n (i:Int) (j:Int)) ((p:Int),(p:Int)):=by
  intro d
  induction d with
  | zero=>
   intro i j u hi m o;refine Ev.succ ?_;simp only[qaD,qt (show j≤i by omega),cond_false];rw[show i=p by omega,show j=p by omega];exact .done
  | succ d ih=>
   intro i j u hi m o;refine Ev.succ ?_;by_cases g:i<j
   ·have r:(i+j) / 2<a.length:=by omega
    simp only[qaD,qr g,cond_true,←Int.natCast_add,quM (show i+j≤8 by omega),jd,qU (x:=(((i+j) / 2:Nat):Int)) (by omega) (by omega),qar r,qjK,qhr,bne_self_eq_false,cond_false,qhh (show(i+j) / 2<9223372036854775807 by omega)];by_cases f:at0 a ((i+j) / 2)<c
    ·refine Ev.tt (by simpa using f) (ih _ _ (by omega) ?_ m o);refine Nat.lt_of_not_le fun l=>?_;by_cases v:p=(i+j) / 2
     ·rw[←v] at f;omega
     ·have:=h.inc ((i+j) / 2) p (by omega) r;omega
    ·refine Ev.ff (by simpa using f) (ih _ _ (by omega) hi ?_ (by omega));refine Nat.le_of_not_lt fun l=>f (t _ l)
   ·simp only[qaD,qt (show j≤i by omega),cond_false];rw[show i=p by omega,show j=p by omega];exact .done
 unfold qdd;refine Ev.bind (b a.length 0 a.length (by omega) (by omega) (by omega) (je _)) ?_;simp only[qr s,cond_true,qar s,jd,qf5,bne_self_eq_false,cond_false];cases at0 a p==c<;>exact .done
theorem qoS {f:List Int}(h:AxOk f)(x:Int):∃ i a b,Wt f i a b∧Ev (fun n=>qeQ n f x) ((i:Int),a,b)∧Ev (fun n=>qgU n f x) (wtL i a b,a+b):=by
 have M:=h.lo;have I:=h.hi;have L:at0 f 0≤at0 f (f.length-1):=by
  by_cases D:f.length-1=0
  ·rw[D];exact jR _
  ·have:=h.inc (f.length-1) 0 (by omega) (by omega);omega
 obtain⟨c,A⟩:∃ c,c=clampV f x:=⟨_,rfl⟩;have v:at0 f 0≤c∧c≤at0 f (f.length-1):=by
  rw[A];unfold clampV;split<;>split at *<;>omega
 obtain⟨p,Q,r,y⟩:=least (P:=fun k=>c≤at0 f k) (f.length-1) v.2;have o:p<f.length:=by omega
 have s:∀ k,k<p→at0 f k<c:=fun k K=>by have:=y k K;omega
 have C:=qsq h o r s;have l:(if at0 f (f.length-1)<(if at0 f 0 > x then at0 f 0 else x) then at0 f (f.length-1) else(if at0 f 0 > x then at0 f 0 else x))=c:=A.symm;have g:W64 ((f.length:Int)-1)=((f.length-1:Nat):Int):=by rw[qfb (by omega)];omega
 have T:=h.at_ p o;have m:∀ (R:Int×Int×Int),Ev (fun n=>qbF f x (at0 f 0) (at0 f (f.length-1)) n (p:Int)) (.ret R)→Ev (fun n=>qeQ n f x) R:=by
  intro R F;have t:∀ d j,j=p+d→j<f.length→Ev (fun n=>qbF f x (at0 f 0) (at0 f (f.length-1)) n (j:Int)) (.ret R):=by
   intro d
   induction d with
   | zero=>intro j J _;rw[show j=p by omega];exact F
   | succ d ih=>
    intro j J B;have H:=h.inc j p (by omega) B;refine Ev.succ ?_;simp only[qbF,show decide ((j:Int) ≥ 0)=true from decide_eq_true (by omega),cond_true,qar B,jd,l];refine Ev.ff (beq_eq_false_iff_ne.2 (by omega)) (Ev.ff (decide_eq_false (by omega)) ?_);rw[show(j:Int)-1=((j-1:Nat):Int) by omega,qU (by omega) (by omega)];exact ih (j-1) (by omega) (by omega)
  unfold qeQ;rw[show(0:Int)=((0:Nat):Int) from rfl,qar (show 0<f.length by omega),g,qar (show f.length-1<f.length by omega)];simp only[jd];exact Ev.bind (t (f.length-1-p) (f.length-1) (by omega) (by omega)) .done
 by_cases u:at0 f p=c
 ·refine⟨p,1,0,⟨o,by omega,by omega,by omega,by omega,fun h=>absurd h (by omega),fun _=>rfl⟩,m _ (Ev.succ ?_),?_⟩
  ·simp only[qbF,show decide ((p:Int) ≥ 0)=true from decide_eq_true (by omega),cond_true,qar o,jd,l];exact Ev.tt (beq_iff_eq.2 u.symm) .done
  ·unfold qgU;rw[show(0:Int)=((0:Nat):Int) from rfl,qar (show 0<f.length by omega),g,qar (show f.length-1<f.length by omega)];simp only[jd,l];exact Ev.bind C (Ev.tt (beq_iff_eq.2 u) (Ev.now Z))
 ·have O:0<p:=by
   refine Nat.pos_of_ne_zero fun e=>u ?_;rw[e] at r ⊢;omega
  have N:=s (p-1) (by omega);have S:=h.at_ (p-1) (by omega);have z:((p:Int)-1)=((p-1:Nat):Int):=by omega
  refine⟨p-1,at0 f p-c,c-at0 f (p-1),⟨by omega,by omega,by omega,by omega,by omega,fun _=>by omega,fun h=>absurd h (by omega)⟩,m _ (Ev.succ ?_),?_⟩
  ·simp only[qbF,show decide ((p:Int) ≥ 0)=true from decide_eq_true (by omega),cond_true,qar o,jd,l];refine Ev.ff (beq_eq_false_iff_ne.2 (by omega)) (Ev.ff (decide_eq_false (by omega)) ?_);rw[z,qU (x:=((p-1:Nat):Int)) (by omega) (by omega)];refine Ev.succ ?_;simp only[qbF,show decide (((p-1:Nat):Int) ≥ 0)=true from decide_eq_true (by omega),cond_true,qar (show p-1<f.length by omega),jd,l];refine Ev.ff (beq_eq_false_iff_ne.2 (by omega)) (Ev.tt (decide_eq_true (by omega)) ?_);rw[qhh (show p-1<9223372036854775807 by omega),show p-1+1=p by omega,qar o];simp only[jd];rw[wO (at0 f p-c),wO (c-at0 f (p-1))];exact .done
  ·unfold qgU;rw[show(0:Int)=((0:Nat):Int) from rfl,qar (show 0<f.length by omega),g,qar (show f.length-1<f.length by omega)];simp only[jd,l];refine Ev.bind C (Ev.ff (beq_eq_false_iff_ne.2 u) ?_);rw[qar o,z,qU (x:=((p-1:Nat):Int)) (by omega) (by omega),qar (show p-1<f.length by omega)];simp only[jd];rw[wO (at0 f p-c),wO (c-at0 f (p-1)),wO (at0 f p-at0 f (p-1))];refine Ev.now ?_;unfold wtL;rw[if_neg (by omega),show p-1+1=p by omega]
   congr 2
   omega

structure TbOk (t:qO):Prop where
 s:AxOk t.Bj
 l:AxOk t.Be
 n:t.Az.length=t.Bj.length*t.Be.length
 v:∀ k,-1000000≤at0 t.Az k∧at0 t.Az k≤1000000
theorem qr8 {xs:List Int}{k:Nat}(h:¬ k<xs.length):at0 xs k=0:=by simp[at0,jx,List.getElem?_eq_none (show xs.length≤k by omega)]
theorem qsP {t:qO}(h:tableB t=true):TbOk t:=by
 unfold tableB at h;simp only[jf,decide_eq_true_eq] at h;obtain⟨c,f,g,a⟩:=h;rw[qgI (d:=0),qai] at a;refine⟨qrh c,qrh f,g,fun k=>?_⟩;by_cases b:k<t.Az.length
 ·have:=a k b;rw[qa5] at this;exact this
 ·rw[qr8 b];omega
def tv (t:qO)(i j:Nat):Int:=at0 t.Az (i*t.Be.length+j)
theorem mulA {x y Y:Int}(a:0≤x)(c:-Y≤y)(d:y≤Y):-(x*Y)≤x*y∧x*y≤x*Y:=by
 have f:=Int.mul_le_mul_of_nonneg_left d a;have b:=Int.mul_le_mul_of_nonneg_left c a;rw[Int.mul_neg] at b;exact⟨b,f⟩
theorem mulT {w q v:Int}(d:0≤w)(w1:w≤100000)(b:0≤q)(c:q≤100000)(h:-1000000≤v)(i:v≤1000000):(0≤w*q∧w*q≤10000000000)∧(-10000000000000000≤w*q*v∧w*q*v≤10000000000000000):=by
 have a:=jP d b;have f:w*q≤100000*100000:=jS w1 c b (by omega);have g:=mulA (x:=w*q) (y:=v) (Y:=1000000) a (by omega) (by omega);refine⟨⟨a,by omega⟩,?_,?_⟩<;>omega
theorem qu4 {t:qO}{i j:Nat}(h:TbOk t)(hi:i<t.Bj.length)(f:j<t.Be.length):i*t.Be.length+j<t.Az.length∧t.Az.length≤16:=by
 have a:=h.s.hi;have b:=h.l.hi;have c:(i+1)*t.Be.length≤t.Bj.length*t.Be.length:=js _ hi;have d:t.Bj.length*t.Be.length≤4*4:=Nat.mul_le_mul a b;rw[h.n];rw[Nat.add_mul] at c;omega
theorem sTerm {t:qO}(h:TbOk t){i j c k:Nat}{a1 b1 a2 b2 w q s:Int}(I:c<2)(J:k<2)(B:w=if c=1 then b1 else a1)(f:q=if k=0 then a2 else b2)
  (F:0≤w) (w1:w≤100000) (C:0≤q) (D:q≤100000) (hi:0<w→i+c<t.Bj.length) (z:0<q→j+k<t.Be.length) (s0:-1000000000000000000≤s) (s1:s≤1000000000000000000) (n:Nat) :
  qcl t (i:Int) a1 b1 (j:Int) a2 b2 (c:Int) (n+1) s (k:Int)=qcl t (i:Int) a1 b1 (j:Int) a2 b2 (c:Int) n (s+w*q*tv t (i+c) (j+k)) ((k+1:Nat):Int):=by
 have l:=h.v ((i+c)*t.Be.length+(j+k));obtain⟨⟨M,N⟩,O,P⟩:=mulT F w1 C D l.1 l.2;have o:(bif ((c:Int)==1) then V b1 else V a1)=V w:=by
  rw[B];by_cases a:c=1
  ·rw[if_pos a,a];rfl
  ·rw[if_neg a,show((c:Int)==1)=false from beq_eq_false_iff_ne.2 (by omega)];rfl
 have p:(bif ((k:Int)==0) then V (W64 (w*a2)) else V (W64 (w*b2)))=V (w*q):=by
  have m:W64 (w*q)=w*q:=qU (by omega) (by omega);by_cases a:k=0
  ·rw[if_pos a] at f;rw[a,←f,m];rfl
  ·rw[if_neg a] at f;rw[show((k:Int)==0)=false from beq_eq_false_iff_ne.2 (by omega),←f,m];rfl
 rw[qcl];simp only[show decide ((k:Int)<2)=true from decide_eq_true (by omega),cond_true,o,p,jd,wS k];by_cases d:w*q > 0
 ·have b:0<w:=by
   by_cases e:w=0
   ·rw[e,Int.zero_mul] at d;omega
   ·omega
  have g:0<q:=by
   by_cases e:q=0
   ·rw[e,Int.mul_zero] at d;omega
   ·omega
  obtain⟨H,Q⟩:=qu4 h (hi b) (z g);have K:=h.l.hi;have L:=h.s.hi;have y:=hi b;have A:((i+c:Nat):Int)*(t.Be.length:Int)=(((i+c)*t.Be.length:Nat):Int):=(Int.natCast_mul _ _).symm;have u:W64 (W64 (W64 (W64 ((i:Int)+(c:Int))*(t.Be.length:Int))+(j:Int))+(k:Int))=(((i+c)*t.Be.length+(j+k):Nat):Int):=by
   rw[wO ((i:Int)+(c:Int)),←Int.natCast_add,A,qU (x:=(((i+c)*t.Be.length:Nat):Int)) (by omega) (by omega),←Int.natCast_add,qU (x:=(((i+c)*t.Be.length+j:Nat):Int)) (by omega) (by omega),←Int.natCast_add,qU (by omega) (by omega),Nat.add_assoc]
  rw[show decide (w*q > 0)=true from decide_eq_true d,u,qar H];simp only[cond_true,jd];have r:W64 (s+W64 (w*q*at0 t.Az ((i+c)*t.Be.length+(j+k))))=s+w*q*tv t (i+c) (j+k):=by
   unfold tv;rw[qU (x:=w*q*at0 t.Az ((i+c)*t.Be.length+(j+k))) (by omega) (by omega),qU (by omega) (by omega)]
  rw[r]
 ·have v:w*q=0:=by omega
  rw[show decide (w*q > 0)=false from decide_eq_false d,v,Int.zero_mul,jY]
  rfl
def rowS (t:qO)(j:Nat)(a2 b2:Int)(i:Nat):Int:=a2*tv t i j+b2*tv t i (j+1)
theorem qlc {t:qO}(h:TbOk t){i j:Nat}:-1000000≤tv t i j∧tv t i j≤1000000:=h.v _
theorem qqp {t:qO}(h:TbOk t){i j:Nat}{a2 b2:Int}(a0:0≤a2)(b0:0≤b2):-((a2+b2)*1000000)≤rowS t j a2 b2 i∧rowS t j a2 b2 i≤(a2+b2)*1000000:=by
 have a:=mulA (x:=a2) (y:=tv t i j) (Y:=1000000) a0 (qlc h).1 (qlc h).2;have b:=mulA (x:=b2) (y:=tv t i (j+1)) (Y:=1000000) b0 (qlc h).1 (qlc h).2;unfold rowS;omega
theorem sRow {t:qO}(h:TbOk t){i j c:Nat}{a1 b1 a2 b2 w s:Int}(d:c<2)(f:w=if c=1 then b1 else a1)(b:0≤w)(w1:w≤100000)(hi:0<w→i+c<t.Bj.length)(a:Wt t.Be j a2 b2)
  (s0:-100000000000000000≤s) (s1:s≤100000000000000000):Ev (fun n=>qcl t (i:Int) a1 b1 (j:Int) a2 b2 (c:Int) n s 0) (s+w*rowS t j a2 b2 (i+c),2):=by
 have l:=a.a0;have g:=a.b0;have m:=(mulT b w1 (show 0≤a2 by omega) a.a1 (qlc h (i:=i+c) (j:=j)).1 (qlc h).2).2;refine Ev.step (fun n=>sTerm h d (k:=0) (w:=w) (q:=a2) (by omega) f Z b w1 (by omega) a.a1 hi (fun _=>a.il) (by omega) (by omega) n) ?_;refine Ev.step (fun n=>sTerm h d (k:=1) (w:=w) (q:=b2) (by omega) f Z b w1 g a.b1 hi a.nx (by show _≤s+w*a2*tv t (i+c) (j+0);rw[Nat.add_zero];omega) (by show s+w*a2*tv t (i+c) (j+0)≤_;rw[Nat.add_zero];omega) n) ?_;refine Ev.succ ?_;simp only[qcl,show decide (((1+1:Nat):Int)<2)=false from rfl,cond_false];refine Ev.now ?_;unfold rowS;rw[Int.mul_add,←Jb,←Jb,Int.add_assoc,Nat.add_zero]
 rfl
theorem iTerm {t:qO}(h:TbOk t){a:List Tweight}{i j k:Nat}{w q s:Int}(m:k<a.length)(A:a.length≤2)(p:idx a (k:Int)=V ⟨(j:Int),q⟩)(c:0≤w)(w1:w≤100000)(r:0≤q)(u:q≤100000)
  (hi:i<t.Bj.length) (l:j<t.Be.length) (s0:-1000000000000000000≤s) (s1:s≤1000000000000000000) (n:Nat) :
  qba t a ⟨(i:Int),w⟩ (n+1) s (k:Int)=qba t a ⟨(i:Int),w⟩ n (s+w*q*tv t i j) ((k+1:Nat):Int):=by
 have b:=qlc h (i:=i) (j:=j);obtain⟨_,C,D⟩:=mulT c w1 r u b.1 b.2;have F:=mulA (x:=w) (y:=tv t i j) (Y:=1000000) c b.1 b.2;obtain⟨v,H⟩:=qu4 h hi l;have z:=h.l.hi;have B:=h.s.hi;have o:(i:Int)*(t.Be.length:Int)=((i*t.Be.length:Nat):Int):=(Int.natCast_mul _ _).symm;rw[qba];simp only[qr m,cond_true,p,jd,wS k,o];rw[qU (x:=((i*t.Be.length:Nat):Int)) (by omega) (by omega),←Int.natCast_add,qU (x:=((i*t.Be.length+j:Nat):Int)) (by omega) (by omega),qar v];simp only[jd];have d:W64 (s+W64 (W64 (at0 t.Az (i*t.Be.length+j)*w)*q))=s+w*q*tv t i j:=by
  have f:at0 t.Az (i*t.Be.length+j)*w=w*tv t i j:=Int.mul_comm _ _;have g:w*tv t i j*q=w*q*tv t i j:=by rw[Jb,Int.mul_comm (tv t i j) q,←Jb]
  rw[f,wO (w*tv t i j),g,wO (w*q*tv t i j),qU (by omega) (by omega)]
 rw[d]
theorem iRow {t:qO}(h:TbOk t){i j:Nat}{a2 b2 w s:Int}(b:0≤w)(w1:w≤100000)(hi:i<t.Bj.length)(a:Wt t.Be j a2 b2)
  (s0:-100000000000000000≤s) (s1:s≤100000000000000000):Ev (fun n=>qba t (wtL j a2 b2) ⟨(i:Int),w⟩ n s 0) (s+w*rowS t j a2 b2 i,((wtL j a2 b2).length:Int)):=by
 have l:=a.a0;have g:=a.b0;have m:=(mulT b w1 (show 0≤a2 by omega) a.a1 (qlc h (i:=i) (j:=j)).1 (qlc h).2).2;by_cases c:b2=0
 ·have f:=a.one c;subst c f;have d:wtL j 1 0=[⟨(j:Int),1⟩]:=if_pos Z;rw[d];refine Ev.step (fun n=>iTerm h (k:=0) (q:=1) (by simp) (by simp) Z b w1 (by omega) (by omega) hi a.il (by omega) (by omega) n) (Ev.succ ?_);simp only[qba];refine Ev.ff Z (Ev.now ?_);unfold rowS;rw[Int.mul_one,Int.one_mul,Int.zero_mul,jY]
  rfl
 ·have d:wtL j a2 b2=[⟨(j:Int),a2⟩,⟨((j+1:Nat):Int),b2⟩]:=if_neg c;rw[d];refine Ev.step (fun n=>iTerm h (k:=0) (q:=a2) (by simp) (by simp) Z b w1 (by omega) a.a1 hi a.il (by omega) (by omega) n) ?_;refine Ev.step (fun n=>iTerm h (k:=1) (j:=j+1) (q:=b2) (by simp) (by simp) Z b w1 g a.b1 hi (a.nx (by omega)) (by omega) (by omega) n) (Ev.succ ?_);simp only[qba];refine Ev.ff Z (Ev.now ?_);unfold rowS;rw[Int.mul_add,←Jb,←Jb,Int.add_assoc]
  rfl
def sumS (t:qO)(i j:Nat)(a1 b1 a2 b2:Int):Int:=a1*rowS t j a2 b2 i+b1*rowS t j a2 b2 (i+1)
theorem rowT {t:qO}(h:TbOk t){i j:Nat}{w a2 b2:Int}(f:0≤w)(w1:w≤100000)(a:Wt t.Be j a2 b2):-20000000000000000≤w*rowS t j a2 b2 i∧w*rowS t j a2 b2 i≤20000000000000000:=by
 have l:=a.a0;have c:=a.b0;have b:=a.a1;have d:=a.b1;have g:=qqp h (i:=i) (j:=j) (a2:=a2) (b2:=b2) (by omega) c;have k:=mulA (x:=w) (y:=rowS t j a2 b2 i) (Y:=200000000000) f (by omega) (by omega);omega
theorem qr0 {t:qO}(h:TbOk t)(sl ld:Int):∃ S D:Int,0<D∧S≤D*1000000∧-(D*1000000)≤S∧-9000000000000000000≤S∧S≤9000000000000000000∧((∀ k,0≤at0 t.Az k)→0≤S) ∧
  ∀ mode,Ev (fun n=>qgR n t sl ld mode) (divI S D mode)∧Ev (fun n=>qdK n t sl ld mode) (divI S D mode):=by
 obtain⟨i,a1,b1,W1,p1,F⟩:=qoS h.s sl;obtain⟨j,a2,b2,W2,C,H⟩:=qoS h.l ld;have A:=W1.a0;have a:=W1.b0;have B:=W2.a0;have b:=W2.b0;have d:=W1.a1;have f:=W1.b1;have I:=W2.a1;have J:=W2.b1;have r1:=rowT h (i:=i) (w:=a1) (by omega) d W2;have L:=rowT h (i:=i+1) (w:=b1) a f W2;have u:=qqp h (i:=i) (j:=j) (a2:=a2) (b2:=b2) (by omega) b;have v:=qqp h (i:=i+1) (j:=j) (a2:=a2) (b2:=b2) (by omega) b;have M:=mulA (x:=a1) (y:=rowS t j a2 b2 i) (Y:=(a2+b2)*1000000) (by omega) u.1 u.2;have N:=mulA (x:=b1) (y:=rowS t j a2 b2 (i+1)) (Y:=(a2+b2)*1000000) a v.1 v.2;have K:a1*((a2+b2)*1000000)+b1*((a2+b2)*1000000)=(a1+b1)*(a2+b2)*1000000:=by rw[←Int.add_mul,Jb]
 have D0:0<(a1+b1)*(a2+b2):=Int.mul_pos (by omega) (by omega);have D1:(a1+b1)*(a2+b2)≤200000*200000:=jS (by omega) (by omega) (by omega) (by omega);refine⟨sumS t i j a1 b1 a2 b2,(a1+b1)*(a2+b2),D0,by unfold sumS;omega,by unfold sumS;omega,by unfold sumS;omega,by unfold sumS;omega,fun s=>?_,fun mode=>⟨?_,?_⟩⟩
 ·have r:∀ i,0≤rowS t j a2 b2 i:=fun i=>Int.add_nonneg (jP (by omega) (s _)) (jP b (s _));exact Int.add_nonneg (jP (by omega) (r _)) (jP a (r _))
 ·have l:Ev (fun n=>qdS t (i:Int) a1 b1 (j:Int) a2 b2 n 0 0) (sumS t i j a1 b1 a2 b2,2):=by
   refine Ev.succ ?_;simp only[qdS];refine Ev.tt Z (Ev.bind (sRow h (c:=0) (w:=a1) (by omega) Z (by omega) d (fun _=>W1.il) W2 (by omega) (by omega)) ?_);refine Ev.succ ?_;simp only[qdS];refine Ev.tt Z (Ev.bind (sRow h (c:=1) (w:=b1) (by omega) Z a f W1.nx W2 (by rw[Nat.add_zero];omega) (by rw[Nat.add_zero];omega)) ?_);refine Ev.succ ?_;simp only[qdS];refine Ev.ff Z (Ev.now ?_);unfold sumS;rw[Int.zero_add,Nat.add_zero]
   rfl
  unfold qgR;refine Ev.bind p1 (Ev.bind C (Ev.bind l ?_));show Ev (fun n=>(qcx n (sumS t i j a1 b1 a2 b2) (W64 (W64 (a1+b1)*W64 (a2+b2))) mode).bind fun p=>V p) _;rw[wO (a1+b1),wO (a2+b2),wO ((a1+b1)*(a2+b2))];exact Ev.bind ⟨0,fun n _=>qjI D0 (by unfold sumS;omega) (by unfold sumS;omega)⟩ .done
 ·have l:Ev (fun n=>qa4 t (wtL i a1 b1) (wtL j a2 b2) n 0 0) (sumS t i j a1 b1 a2 b2,((wtL i a1 b1).length:Int)):=by
   by_cases g:b1=0
   ·have z:=W1.one g;subst g z;have o:wtL i 1 0=[⟨(i:Int),1⟩]:=if_pos Z;rw[o];refine Ev.succ ?_;simp only[qa4];refine Ev.tt Z (Ev.bind (Ev.now Z) (Ev.bind (iRow h (i:=i) (w:=1) (by omega) (by omega) W1.il W2 (by omega) (by omega)) (Ev.succ ?_)));simp only[qa4];refine Ev.ff Z (Ev.now ?_);unfold sumS;rw[Int.zero_add,Int.zero_mul,jY]
    rfl
   ·have o:wtL i a1 b1=[⟨(i:Int),a1⟩,⟨((i+1:Nat):Int),b1⟩]:=if_neg g;rw[o];refine Ev.succ ?_;simp only[qa4];refine Ev.tt Z (Ev.bind (Ev.now Z) (Ev.bind (iRow h (i:=i) (w:=a1) (by omega) d W1.il W2 (by omega) (by omega)) (Ev.succ ?_)));simp only[qa4];refine Ev.tt Z (Ev.bind (Ev.now Z) (Ev.bind (iRow h (i:=i+1) (w:=b1) a f (W1.nx (by omega)) W2 (by omega) (by omega)) (Ev.succ ?_)));simp only[qa4];refine Ev.ff Z (Ev.now ?_);unfold sumS;rw[Int.zero_add]
    rfl
  unfold qdK;refine Ev.bind F (Ev.bind H (Ev.bind l ?_));show Ev (fun n=>(qff n (sumS t i j a1 b1 a2 b2) (W64 ((a1+b1)*(a2+b2))) mode).bind fun p=>V p) _;rw[wO ((a1+b1)*(a2+b2))];exact Ev.bind ⟨0,fun n _=>(qqq (m:=0)).trans (qjI D0 (by unfold sumS;omega) (by unfold sumS;omega))⟩ .done

theorem qsy {b:qe}(h:blockB b=true){j:Nat}(d:j<(places b.Aa).length){n:Nat}:qj5 n b.Am b.Aa (toSp (gt (places b.Aa) j))=V (capJ b j):=by
 have c:=qan h;unfold capJ pinCap;rcases qjV d with⟨i,k,hi,hk,_,e⟩|⟨i,hi,_,e⟩
 ·rw[e];obtain⟨⟨a,c1⟩,f,_⟩:=qgQ c hi;unfold place1 cellAt toSp;simp only[qj5,show decide ((i:Int)<0)=false by simp,cond_false,qy hi,jd,qfw a c1,jr,qy (show k<(gt b.Am.Ap (gt b.Aa.Ab i).Bp.toNat).Ay.length by omega)]
 ·rw[e];rfl
theorem qn0 {b:qe}(h:blockB b=true){i:Nat}(hi:i<b.Ac.length):Ev (fun n=>qhk n b (i:Int)) (loadsL b i):=by
 have c:=qbz h hi;have p:=qX (qan h);have x:=c.lo;have u:=c.hi;have d:=c.cap;have z:=qgW h (i:=i);have e1:Ev (fun n=>qdr b (gt b.Ac i) ((places b.Aa).map toSp) (skL b i) n (gt b.Ac i).Bl 0) (ldA b (gt b.Ac i) (skL b i) (skL b i).length,((skL b i).length:Int)):=by
  refine loopF (Lf:=qdr b (gt b.Ac i) ((places b.Aa).map toSp) (skL b i)) (S:=ldA b (gt b.Ac i) (skL b i)) (len:=(skL b i).length) (fun n=>?_) (fun j a X o=>?_)
  ·simp only[qdr,qt (je _),cond_false]
  ·obtain⟨y,l,m,_⟩:=qmN a;have f:j<(gt b.Ac i).Bb.length:=by rw[c.snk];exact a
   have k:=c.sin j f;have v:=qni (b:=b) (w:=gt b.Ac i) (sk:=skL b i) (j:=j);have g:idx ((places b.Aa).map toSp) (y:Int)=V (toSp (gt (places b.Aa) y)):=by
    refine qg5 ?_;rw[List.getElem?_map,jn l,qdz l];rfl
   have s:=fun n=>qsy h l (n:=n);simp only[qdr,qr a,cond_true,qar a,m,jd,qar f,qfw k.1 (show at0 (gt b.Ac i).Bb j<((ldA b (gt b.Ac i) (skL b i) j).length:Int) by omega),g,s,wS j];have:ldA b (gt b.Ac i) (skL b i) (j+1)=setS (ldA b (gt b.Ac i) (skL b i) j) (at0 (gt b.Ac i).Bb j) (W64 (gt (ldA b (gt b.Ac i) (skL b i) j) (at0 (gt b.Ac i).Bb j).toNat+capJ b y)):=by
    show addSink _ _ _ _ _=_;unfold addSink;rw[m,jr]
   rw[this] at o;exact o
 have r:∀ j t,t.length=(gt b.Ac i).Ai.length→j<(gt b.Ac i).Ai.length→Ev (fun n=>qdj (gt b.Ac i) n t (j:Int)) (ldB (gt b.Ac i) j t,0):=by
  intro j
  induction j with
  | zero=>
   intro t _ _;refine Ev.succ ?_;show Ev (fun n=>qdj (gt b.Ac i) (n+1) t 0) _;unfold qdj;exact Ev.ff Z .done
  | succ j ih=>
   intro t A a;have g:=c.par (j+1) (by omega) a;refine Ev.succ ?_;simp only[qdj,show decide (((j+1:Nat):Int) > 0)=true from decide_eq_true (by omega),cond_true,qar a,jd,qfw g.1 (show at0 (gt b.Ac i).Ai (j+1)<(t.length:Int) by omega),qy (show j+1<t.length by omega),show((j+1:Nat):Int)-1=(j:Int) by omega,qU (show -9223372036854775808≤(j:Int) by omega) (by omega)];exact ih _ (by rw[qbd];exact A) (by omega)
 unfold qhk qea;rw[qy hi];simp only[jd,qcE (show([]:List Int).length+(gt b.Ac i).Bl.length≤2147483648 by simp;omega),List.nil_append];refine Ev.bind (qgx p) (Ev.bind (qj9 p) (Ev.bind e1 ?_));rw[qfb (show(gt b.Ac i).Bl.length≤9223372036854775807 by omega),show((gt b.Ac i).Bl.length:Int)-1=(((gt b.Ac i).Ai.length-1:Nat):Int) by omega];exact Ev.bind (r _ _ (by rw[qni];exact d) (by omega)) .done
theorem qmY {b:qe}(h:blockB b=true){i:Nat}(hi:i<b.Ac.length):Ev (fun n=>qgC n b (i:Int)) (delaysL b i):=by
 have f:=qbz h hi;have o:=f.lo;have m:=f.hi;have l:=f.res;have l1:=qkS h hi;have c:∀ d k,k+1+d=(gt b.Ac i).Ai.length→Ev (fun n=>qdJ (gt b.Ac i) (loadsL b i) n (dlL (gt b.Ac i) (loadsL b i) k) ((k+1:Nat):Int)) (delaysL b i,((loadsL b i).length:Int)):=by
  intro d
  induction d with
  | zero=>
   intro k g;refine Ev.succ ?_;simp only[qdJ,qt (show(loadsL b i).length≤k+1 by omega),cond_false];refine Ev.now ?_;rw[l1,←g];unfold delaysL;rw[←g]
   rfl
  | succ d ih=>
   intro k g;have p:=f.par (k+1) (by omega) (by omega);have a:=qm5 (w:=gt b.Ac i) (ld:=loadsL b i) (k:=k);refine Ev.succ ?_;simp only[qdJ,qr (show k+1<(loadsL b i).length by omega),cond_true,qar (show k+1<(gt b.Ac i).Ai.length by omega),jd,qfw p.1 (show at0 (gt b.Ac i).Ai (k+1)<((dlL (gt b.Ac i) (loadsL b i) k).length:Int) by omega),
    qar (show k+1<(gt b.Ac i).Bq.length by omega),qy (show k+1<(loadsL b i).length by omega),qhh (show k+1<9223372036854775807 by omega)]
   rw[qcE (by rw[a,ji];omega)];exact ih (k+1) (by omega)
 unfold qgC;rw[qy hi];simp only[jd];refine Ev.bind (qn0 h hi) ?_;exact Ev.bind (c ((gt b.Ac i).Ai.length-1) 0 (by omega)) .done
theorem qit {b:qe}(h:blockB b=true){i:Nat}(hi:i<b.Ac.length){mode:Int}:Ev (fun n=>qf1 n b (i:Int) mode) ((exactL b i).map fun x=>divI x 1000 mode):=by
 have k:=qbz h hi;have r:(gt b.Ac i).Bb.length≤78:=by rw[k.snk];exact qgW h
 have p:=qlS h hi;have l:Ev (fun n=>qbS b (i:Int) mode (delaysL b i) n ([]:List Int) 0) ((exactL b i).map (fun x=>divI x 1000 mode),((gt b.Ac i).Bb.length:Int)):=by
  refine loopF (Lf:=qbS b (i:Int) mode (delaysL b i)) (S:=fun j=>(((gt b.Ac i).Bb.take j).map fun s=>gt (delaysL b i) s.toNat).map fun x=>divI x 1000 mode) (len:=(gt b.Ac i).Bb.length) (fun n=>?_) (fun j c X o=>?_)
  ·simp only[qbS,qy hi,jd,qt (je _),cond_false,jJ];rfl
  ·have g:=k.sin j c;have f:=qmH h hi c;have m:gt (exactL b i) j=gt (delaysL b i) (at0 (gt b.Ac i).Bb j).toNat:=by
    unfold exactL;rw[qdz (by rw[jv];exact c),List.getElem_map,ql1 c]
   rw[m] at f;have d:=fun n=>qjI (n:=n) (a:=gt (delaysL b i) (at0 (gt b.Ac i).Bb j).toNat) (b:=1000) (mode:=mode) (by omega) (by omega) (by omega);simp only[qbS,qy hi,jd,qr c,cond_true,qar c,qfw g.1 (show at0 (gt b.Ac i).Bb j<((delaysL b i).length:Int) by omega),d,wS j];rw[qcE (by rw[jv,jv,Jd,ji];omega)];have:(((gt b.Ac i).Bb.take j).map (fun s=>gt (delaysL b i) s.toNat)).map (fun x=>divI x 1000 mode)++[divI (gt (delaysL b i) (at0 (gt b.Ac i).Bb j).toNat) 1000 mode]=(((gt b.Ac i).Bb.take (j+1)).map fun s=>gt (delaysL b i) s.toNat).map fun x=>divI x 1000 mode:=by
    rw[jE c,jT,jT,ql1 c];rfl
   rw[this];exact o
 unfold qf1;exact Ev.bind (qmY h hi) (Ev.bind l .done)

instance:Inhabited qf:=⟨⟨0,⟨0,0⟩,⟨0,0⟩⟩⟩
instance:Inhabited qh:=⟨⟨0,0⟩⟩
def cornerB (c:qv):Bool:=(inI c.Bc 100 5000&&(inI c.Bg 100 5000&&(inI c.Bf 100 5000&&inI c.Bh 100 5000)))&&(nameB c.Ba&&(decide (c.Bc≤c.Bg)&&decide (c.Bf≤c.Bh)))
theorem qk7 {c:qv}(h:okS c.Ba):Ev (fun n=>qfo n c) (cornerB c):=by
 have a:Ev (fun n=>qb2 c n 0) (bif inI c.Bc 100 5000&&(inI c.Bg 100 5000&&(inI c.Bf 100 5000&&inI c.Bh 100 5000)) then .nxt 4 else .ret false):=by
  refine Ev.succ ?_;simp only[qb2,qcQ,show idx ([c.Bc,c.Bg,c.Bf,c.Bh]:List Int) 0=V c.Bc from rfl,jd];refine Ev.tt Z ?_;cases inI c.Bc 100 5000
  ·exact .done
  refine Ev.ff Z (Ev.succ ?_);simp only[qb2,qcQ,show W64 (0+1)=1 from rfl,show idx ([c.Bc,c.Bg,c.Bf,c.Bh]:List Int) 1=V c.Bg from rfl,jd];refine Ev.tt Z ?_;cases inI c.Bg 100 5000
  ·exact .done
  refine Ev.ff Z (Ev.succ ?_);simp only[qb2,qcQ,show W64 (1+1)=2 from rfl,show idx ([c.Bc,c.Bg,c.Bf,c.Bh]:List Int) 2=V c.Bf from rfl,jd];refine Ev.tt Z ?_;cases inI c.Bf 100 5000
  ·exact .done
  refine Ev.ff Z (Ev.succ ?_);simp only[qb2,qcQ,show W64 (2+1)=3 from rfl,show idx ([c.Bc,c.Bg,c.Bf,c.Bh]:List Int) 3=V c.Bh from rfl,jd];refine Ev.tt Z ?_;cases inI c.Bh 100 5000
  ·exact .done
  refine Ev.ff Z (Ev.succ ?_);simp only[qb2];exact Ev.ff Z .done
 unfold qfo cornerB;refine Ev.bind a ?_;cases inI c.Bc 100 5000&&(inI c.Bg 100 5000&&(inI c.Bf 100 5000&&inI c.Bh 100 5000))
 ·exact .done
 ·refine Ev.bind (qle h) ?_;cases nameB c.Ba
  ·exact .done
  ·cases decide (c.Bc≤c.Bg)<;>exact .done
theorem qpj {n:Nat}{a b:Int}:qga n a b=V (decide (a ≥ 100)&&(decide (a≤b)&&decide (b≤5000))):=by
 unfold qga;cases decide (a ≥ 100)
 ·rfl
 ·cases decide (a≤b)<;>rfl
theorem qlX {c:qv}(h:okS c.Ba):Ev (fun n=>qfs n c) (cornerB c):=by
 have e:cornerB c=(nameB c.Ba&&((decide (c.Bc ≥ 100)&&(decide (c.Bc≤c.Bg)&&decide (c.Bg≤5000)))&&(decide (c.Bf ≥ 100)&&(decide (c.Bf≤c.Bh)&&decide (c.Bh≤5000))))):=by
  unfold cornerB;rw[jk];simp only[jf,qa5,decide_eq_true_eq];constructor
  ·rintro⟨⟨b,d,f,g⟩,a,i,k⟩;refine⟨a,⟨?_,?_,?_⟩,?_,?_,?_⟩<;>omega
  ·rintro⟨a,⟨b,d,f⟩,g,i,k⟩;refine⟨⟨⟨?_,?_⟩,⟨?_,?_⟩,⟨?_,?_⟩,?_,?_⟩,a,?_,?_⟩<;>omega
 rw[e];unfold qfs;simp only[qnA h,qpj,jd];cases nameB c.Ba
 ·exact .done
 ·cases decide (c.Bc ≥ 100)&&(decide (c.Bc≤c.Bg)&&decide (c.Bg≤5000))<;>exact .done
def spanB (s:qh):Bool:=inI s.Ak (-1000000000) 1000000000&&(inI s.Ar (-1000000000) 1000000000&&decide (s.Ak≤s.Ar))
def slewB (s:qh):Bool:=decide (s.Ak ≥ 0)&&(decide (s.Ak≤s.Ar)&&decide (s.Ar≤1000000))
theorem qoU {n:Nat}{s:qh}:qhN n s=V (spanB s):=by
 unfold qhN spanB;simp only[qcQ,jd];cases inI s.Ak (-1000000000) 1000000000
 ·rfl
 ·cases inI s.Ar (-1000000000) 1000000000<;>rfl
theorem qnj {n:Nat}{s:qh}:qgB n s=V (spanB s):=by
 unfold qgB qjQ spanB;simp only[qdH,jd];cases inI s.Ak (-1000000000) 1000000000
 ·rfl
 ·cases inI s.Ar (-1000000000) 1000000000<;>rfl
theorem qra {n:Nat}{s:qh}:qhc n s=V (slewB s):=by
 unfold qhc slewB;cases decide (s.Ak ≥ 0)
 ·rfl
 ·cases decide (s.Ak≤s.Ar)<;>rfl
theorem qq0 {n:Nat}{s:qh}:qhb n s=V (slewB s):=by
 have e:slewB s=(spanB s&&(inI s.Ak 0 1000000&&inI s.Ar 0 1000000)):=by
  unfold slewB spanB;rw[jk];simp only[jf,qa5,decide_eq_true_eq];constructor
  ·rintro⟨a,b,c⟩;refine⟨⟨⟨?_,?_⟩,⟨?_,?_⟩,?_⟩,⟨?_,?_⟩,?_,?_⟩<;>omega
  ·rintro⟨⟨a,b,c⟩,d,f⟩;refine⟨?_,?_,?_⟩<;>omega
 rw[e];unfold qhb qkb;simp only[qnj,qdH,jd];cases spanB s
 ·rfl
 ·cases inI s.Ak 0 1000000<;>rfl

theorem qqg {b:qe}{k:Int}(h:blockB b=true){j:Nat}(c:j<(places b.Aa).length)(l:(gt (places b.Aa) j).net=k)(d:(gt (places b.Aa) j).drives=true):Ev (fun n=>qhQ n b.Aa k) (j:Int):=by
 have g:=qan h;have p:=qX g;have t:=qaQ p;have e:ixL (fun q:Tl05Place=>(q.net==k)&&q.drives) ((places b.Aa).map toSp)=(j:Int):=by
  refine qts (by simpa using c) ?_ (fun i hi m=>?_)
  ·rw[qmF c];show(((gt (places b.Aa) j).net==k)&&(gt (places b.Aa) j).drives)=true;rw[l,d];simp
  ·have f:i<(places b.Aa).length:=by simpa using hi
   rw[qmF f] at m;have a:(((gt (places b.Aa) i).net==k)&&(gt (places b.Aa) i).drives)=true:=m;simp only[jf,beq_iff_eq] at a;exact qq1 g f c (by rw[a.1,l]) a.2 d
 unfold qhQ;refine Ev.bind (qgx p) ?_;rw[←e];exact qf8 (fin:=(((places b.Aa).map toSp).length:Int)) (Lf:=qcJ k ((places b.Aa).map toSp)) (xs:=(places b.Aa).map toSp) (pf:=fun _ (q:Tl05Place)=>V ((q.net==k)&&q.drives)) (fun _ _=>.done)
  (fun n=>by simp only[qcJ,qt (je _),cond_false])
  (fun n j x r=>by
   have c:=(List.getElem?_eq_some_iff.1 r).1;have s:j<(places b.Aa).length:=by simpa using c
   simp only[qcJ,qr c,cond_true,qg5 r,jd,wS j];cases (x.net==k)<;>cases x.drives<;>rfl)
  (fun n=>by congr 1;funext o;cases o<;>rfl)
theorem qoD {b:qe}{i k:Nat}(h:blockB b=true)(hi:i<b.Aa.Ab.length)(s:k<(gt b.Aa.Ab i).Aj.length):Ev (fun n=>qh2 n b.Aa (i:Int) (k:Int)) ((off b.Aa i+k:Nat):Int):=by
 have p:=qan h;have f:=qX p;have u:=qaQ f;obtain⟨c,l⟩:=qjr hi s;have e:ixL (fun q:Tl05Place=>(q.instance_==(i:Int))&&(q.pin==(k:Int))) ((places b.Aa).map toSp)=((off b.Aa i+k:Nat):Int):=by
  refine qts (by simpa using c) ?_ (fun m t a=>?_)
  ·rw[qmF c,l];unfold place1 toSp;simp
  ·have d:m<(places b.Aa).length:=by simpa using t
   rw[qmF d] at a;rcases qjV d with⟨i',k',hi',hk',em,e'⟩|⟨i',hi',em,e'⟩
   ·rw[e'] at a;unfold place1 toSp at a;simp only[jf,beq_iff_eq] at a;obtain rfl:i'=i:=by omega
    obtain rfl:k'=k:=by omega
    exact em
   ·rw[e'] at a;unfold place2 toSp at a;simp only[jf,beq_iff_eq] at a;omega
 unfold qh2;refine Ev.bind (qgx f) ?_;rw[←e];exact qf8 (fin:=(((places b.Aa).map toSp).length:Int)) (Lf:=qdQ (i:Int) (k:Int) ((places b.Aa).map toSp)) (xs:=(places b.Aa).map toSp) (pf:=fun _ (q:Tl05Place)=>V ((q.instance_==(i:Int))&&(q.pin==(k:Int)))) (fun _ _=>.done)
  (fun n=>by simp only[qdQ,qt (je _),cond_false])
  (fun n j x g=>by
   have c:=(List.getElem?_eq_some_iff.1 g).1;have r:j<(places b.Aa).length:=by simpa using c
   simp only[qdQ,qr c,cond_true,qg5 g,jd,wS j];cases (x.instance_==(i:Int))<;>cases (x.pin==(k:Int))<;>rfl)
  (fun n=>by congr 1;funext o;cases o<;>rfl)
theorem qp3 {n:Nat}{xs:List qm}{f t a c k i:Int}(m:xs.length≤1000000)(l:0≤f)(f1:f≤1000000)(o:0≤t)(p:t≤1000000)(b:b01 a)(g:b01 c):qfh n xs f t a c k i=V (xs++[⟨2*f+a,2*t+c,k,i⟩]):=by
 have d:0≤a∧a≤1:=by rcases b with e|e<;>omega
 have h:0≤c∧c≤1:=by rcases g with e|e<;>omega
 unfold qfh;rw[wO (2*f),wO (2*t),wO (2*f+a),wO (2*t+c),qcE (by rw[ji];omega)]
 rfl
def fitB (a:qak)(i j:Int):Bool:=bif a.Au==1 then(bif a.Bk==3 then true else(a.Bk==1)==(i==j)) else bif a.Au==2 then i==0 else bif a.Au==3 then i==1 else false
def pcL (a:qak)(f t k i j:Int):List qm:=bif fitB a i j then[⟨2*f+i,2*t+j,1,k⟩] else[]
theorem arcStep {arc:qak}{xs:List qm}{f t k i j:Int}{X:List qm×Int}(g:xs.length≤1000000)(c:0≤f)(f1:f≤1000000)(l:0≤t)(m:t≤1000000)(hi:b01 i)(b:b01 j)
  (h:Ev (fun n=>qa6 arc f t k i n (xs++pcL arc f t k i j) (j+1)) X):Ev (fun n=>qa6 arc f t k i n xs j) X:=by
 have a:0≤j∧j≤1:=by rcases b with e|e<;>omega
 have d:=fun n=>qp3 (n:=n) (k:=1) (i:=k) g c f1 l m hi b;refine Ev.succ ?_;simp only[qa6,d,jd,wO (j+1)];refine Ev.tt (decide_eq_true a.2) ?_;unfold pcL fitB at h;cases h1:arc.Au==1
 ·cases h2:arc.Au==2
  ·cases h3:arc.Au==3
   ·rw[h1,h2,h3] at h;simpa using h
   ·rw[h1,h2,h3] at h;cases h4:i==1
    ·rw[h4] at h;simpa using h
    ·rw[h4] at h;simpa using h
  ·rw[h1,h2] at h;cases h4:i==0
   ·rw[h4] at h;simpa using h
   ·rw[h4] at h;simpa using h
 ·rw[h1] at h;cases h2:arc.Bk==3
  ·rw[h2] at h;cases h4:(arc.Bk==1)==(i==j)
   ·rw[h4] at h;simpa [h4] using h
   ·rw[h4] at h;simpa [h4] using h
  ·rw[h2] at h;simpa using h
theorem qvu {arc:qak}{xs:List qm}{f t k:Int}(s:xs.length≤900000)(c:0≤f)(f1:f≤1000000)(d:0≤t)(g:t≤1000000) :
  Ev (fun n=>qjR n xs arc f t k) (xs++pcL arc f t k 0 0++pcL arc f t k 0 1++pcL arc f t k 1 0++pcL arc f t k 1 1):=by
 have a:∀ i j,(pcL arc f t k i j).length≤1:=fun i j=>by unfold pcL;cases fitB arc i j<;>simp
 have h:=a 0 0;have l:=a 0 1;have m:=a 1 0;have o:=a 1 1;have b:∀ (i:Int) (ys:List qm),b01 i→ys.length≤900010→Ev (fun n=>qa6 arc f t k i n ys 0) (ys++pcL arc f t k i 0++pcL arc f t k i 1,2):=by
  intro i ys hi u;have r:=a i 0;refine arcStep (by omega) c f1 d g hi (.inl Z) (arcStep (j:=0+1) (by rw[jg];omega) c f1 d g hi (.inr Z) (Ev.succ ?_));simp only[qa6];exact Ev.ff Z .done
 have p:Ev (fun n=>qeI arc f t k n xs 0) (xs++pcL arc f t k 0 0++pcL arc f t k 0 1++pcL arc f t k 1 0++pcL arc f t k 1 1,2):=by
  refine Ev.succ ?_;simp only[qeI];refine Ev.tt Z (Ev.bind (b 0 xs (.inl Z) (by omega)) ?_);refine Ev.succ ?_;simp only[qeI];refine Ev.tt Z (Ev.bind (b 1 _ (.inr Z) (by simp only[jg];omega)) ?_);refine Ev.succ ?_;simp only[qeI];exact Ev.ff Z .done
 unfold qjR;exact Ev.bind p .done
theorem qs0 {ps:List qap}{a:qak}(h:arcS ps a=true)(c:a.Au≤3)(b:1≤a.Au):(a.Au=1∧(a.Bk=1∨a.Bk=2∨a.Bk=3))∨a.Au=2∨a.Au=3:=by
 rcases (by omega:a.Au=1∨a.Au=2∨a.Au=3) with e|e|e
 ·refine .inl ⟨e,?_⟩;unfold arcS at h;rw[e] at h;simp only[beq_self_eq_true,cond_true,jf,qa5] at h;have:=h.2.2.2.1;omega
 ·exact .inr (.inl e)
 ·exact .inr (.inr e)
theorem qti {ps:List qap}{a:qak}{first:Int}{k:Nat}(h:arcS ps a=true)(c:a.Au≤3)(b:1≤a.Au) :
  pcL a (first+a.Bd) (first+a.To) (k:Int) 0 0++pcL a (first+a.Bd) (first+a.To) (k:Int) 0 1++pcL a (first+a.Bd) (first+a.To) (k:Int) 1 0++pcL a (first+a.Bd) (first+a.To) (k:Int) 1 1=arcLs first k a:=by
 unfold arcLs transL pcL fitB;rcases qs0 h c b with⟨e,e2|e2|e2⟩|e|e
 ·rw[e,e2];rfl
 ·rw[e,e2];rfl
 ·rw[e,e2];rfl
 ·rw[e];rfl
 ·rw[e];rfl
theorem qn5 {a:qak}{first:Int}{k:Nat}(h:3<a.Au):arcLs first k a=[]:=by
 unfold arcLs transL;rw[show(a.Au==2)=false from beq_eq_false_iff_ne.2 (by omega),show(a.Au==3)=false from beq_eq_false_iff_ne.2 (by omega),show(a.Au != 1)=true from bne_iff_ne.2 (by omega)]
 rfl
theorem qiP {b:qe}(h:blockB b=true):Ev (fun n=>qei n b) (linksL b):=by
 have v:=qan h;have z:=qX v;have e:=qaQ z;have a3:=z.ni;have a4:=z.nn;have J:=qiq h;have p:(⟨b.Aa.Ab,b.Aa.Aj,b.Aa.Ah⟩:qi)=b.Aa:=rfl;have e1:Ev (fun n=>qdm b n ([]:List qm) 0) (instLs b b.Aa.Ab.length,(b.Aa.Ab.length:Int)):=by
  refine loopF (Lf:=qdm b) (S:=instLs b) (len:=b.Aa.Ab.length) (fun n=>?_) (fun j m X g=>?_)
  ·simp only[qdm,qt (je _),cond_false]
  ·obtain⟨⟨O,c1⟩,r,l⟩:=qgQ v m;have K:=qmJ l;have s:=(qgy (qis l)).1;have H:=qiu h (show j≤b.Aa.Ab.length by omega);have M:=qjC (d:=b.Aa) (i:=j);have a5:off b.Aa (j+1)≤78:=by
    rw[qgG] at e;have:=qrw (d:=b.Aa) (show j+1≤b.Aa.Ab.length by omega);omega
   have F:cellAt b (j:Int)=gt b.Am.Ap (gt b.Aa.Ab j).Bp.toNat:=rfl;simp only[qdm,qr m,cond_true,qy m,qfw O c1,jd,wS j];have C:Ev (fun n=>qcs b (j:Int) (cellAt b (j:Int)) n (instLs b j) 0) (instLs b (j+1),((cellAt b (j:Int)).Aq.length:Int)):=by
    rw[show instLs b (j+1)=instLs b j++cellLs (cellAt b (j:Int)) (off b.Aa j:Int) (cellAt b (j:Int)).Aq.length from qji];rw[←F] at l r K s;generalize cellAt b (j:Int)=c at l r K s ⊢;have:=loopF (Lf:=qcs b (j:Int) c) (S:=fun k=>instLs b j++cellLs c (off b.Aa j:Int) k) (len:=c.Aq.length) (fin:=(instLs b j++cellLs c (off b.Aa j:Int) c.Aq.length,(c.Aq.length:Int))) (fun n=>by simp only[qcs,qt (je _),cond_false])
     (fun k o X g=>by
      obtain⟨⟨k1,k5⟩,L,I,T⟩:=qlQ l o;have W:(cellLs c (off b.Aa j:Int) k).length≤4*k:=qnP fun _ _=>qnr;have A:cellLs c (off b.Aa j:Int) (k+1)=cellLs c (off b.Aa j:Int) k++arcLs (off b.Aa j:Int) k (gt c.Aq k):=qji;rw[A] at g;simp only[qcs,qr o,cond_true,qy o,jd,wS k,p];by_cases B:(gt c.Aq k).Au≤3
      ·refine Ev.tt (decide_eq_true B) ?_;have f1:=qoD h m (k:=(gt c.Aq k).Bd.toNat) (by omega);have f2:=qoD h m (k:=(gt c.Aq k).To.toNat) (by omega);rw[←qfm L.1] at f1;rw[←qfm I.1] at f2;refine Ev.bind f1 (Ev.bind f2 (Ev.bind (qvu (by rw[jg];omega) (by omega) (by omega) (by omega) (by omega)) ?_));have u:∀ x:Int,0≤x→((off b.Aa j+x.toNat:Nat):Int)=(off b.Aa j:Int)+x:=fun x hx=>by omega
       rw[u _ L.1,u _ I.1,jt,jt,jt,←jt (pcL _ _ _ _ _ _),←jt (pcL _ _ _ _ _ _++_),qti T B k1,jt];exact g
      ·refine Ev.ff (decide_eq_false B) ?_;rw[qn5 (by omega),Jc] at g;exact g)
    simpa [cellLs,fm] using this
   exact Ev.bind C g
 have D:∀ (i:Nat) (t:List qm),i<b.Ac.length→t.length≤900000→Ev (fun n=>qdn (dvN b.Aa i:Int) (skL b i) n t 0) (t++wlN b i (skL b i).length,((skL b i).length:Int)):=by
  intro i t hi I;have a6:=qgW h (i:=i);have Y:=(qic v (k:=i) (by omega)).1;have:=loopF (Lf:=qdn (dvN b.Aa i:Int) (skL b i)) (S:=fun k=>t++wlN b i k) (len:=(skL b i).length) (fin:=(t++wlN b i (skL b i).length,((skL b i).length:Int))) (fun n=>by simp only[qdn,qt (je _),cond_false])
   (fun k o X g=>by
    obtain⟨y,hy,ey,_⟩:=qmN o;have a7:=qqb (b:=b) (i:=i) (j:=k);have p1:=fun n=>qp3 (n:=n) (xs:=t++wlN b i k) (f:=(dvN b.Aa i:Int)) (t:=at0 (skL b i) k) (a:=0) (c:=0) (k:=2) (i:=(k:Int)) (by rw[jg];omega) (by omega) (by omega) (by omega) (by omega) (.inl Z) (.inl Z);have p2:=fun n=>qp3 (n:=n) (xs:=t++wlN b i k++[⟨2*(dvN b.Aa i:Int)+0,2*at0 (skL b i) k+0,2,(k:Int)⟩]) (f:=(dvN b.Aa i:Int)) (t:=at0 (skL b i) k) (a:=1) (c:=1) (k:=2) (i:=(k:Int)) (by rw[jg,jg,ji];omega) (by omega) (by omega) (by omega) (by omega) (.inr Z) (.inr Z);simp only[qdn,qr o,cond_true,qar o,jd,p1,p2,wS k];have A:wlN b i (k+1)=wlN b i k++wl1 (dvN b.Aa i) (at0 (skL b i) k) k:=qji;rw[A] at g;rw[jY,jY,jt,jt];exact g)
  simpa [wlN,fm] using this
 have u:Ev (fun n=>qdi b n (instLs b b.Aa.Ab.length) 0) (linksL b,(b.Aa.Aj.length:Int)):=by
  have H:=qiu h (je _);have:=loopF (Lf:=qdi b) (S:=fun j=>instLs b b.Aa.Ab.length++wireLs b j) (len:=b.Aa.Aj.length) (fin:=(linksL b,(b.Aa.Aj.length:Int))) (fun n=>by
    simp only[qdi,qt (je _),cond_false];rw[←J];rfl)
   (fun j m X g=>by
    have N:=qmD h (j:=j);obtain⟨P,d2⟩:=qic v m;obtain⟨Q,R⟩:=qlU.1 d2;simp only[qdi,qr m,cond_true,wS j,p];refine Ev.bind (qqg h P Q R) (Ev.bind (qj9 z) (Ev.bind (D j _ (by omega) (by rw[jg];omega)) ?_));rw[jt,show wireLs b j++wlN b j (skL b j).length=wireLs b (j+1) from qji.symm];exact g)
  simpa [wireLs,fm] using this
 unfold qei;exact Ev.bind e1 (Ev.bind u .done)
def lvB (br:List Int)(m:Nat):List Bool:=pre (fun k=>!br.any fun y=>y==(k:Int)) m
theorem qka {br:List Int}{m:Nat}:(lvB br m).length=m:=qj1
theorem qnW {br:List Int}{x:Int}(d:br.length≤1048576):Ev (fun n=>qhE n br x) (br.any fun y=>y==x):=by
 have b:Ev (fun n=>qeB br x n 0) (bif br.any (fun y=>y==x) then .ret true else .nxt (br.length:Int)):=by
  have:=qed (Lf:=qeB br x) (len:=br.length) (f:=fun j=>!(gt br j==x)) (bad:=true) (fin:=.nxt (br.length:Int)) (Ev.succ (by simp only[qeB,qt (je _),cond_false];exact .done))
   (fun j a X c=>Ev.succ (by
    simp only[qeB,qr a,cond_true,qy a,jd,wS j];cases gt br j==x
    ·exact c
    ·exact .done))
  rw[qrW];refine this.cast ?_;cases allN (fun j=>!(gt br j==x)) br.length<;>rfl
 unfold qhE;refine Ev.bind b ?_;cases br.any (fun y=>y==x)<;>exact .done
theorem qmL {ls:List qm}{br:List Int}(g:ls.length≤10000)(a:br.length≤1048576):Ev (fun n=>qgO n ls br) (lvB br ls.length):=by
 have b:Ev (fun n=>qdY ls br n ([]:List Bool) 0) (lvB br ls.length,(ls.length:Int)):=by
  refine loopF (Lf:=qdY ls br) (S:=fun j=>lvB br j) (len:=ls.length) (fun n=>?_) (fun j d X c=>?_)
  ·simp only[qdY,qt (je _),cond_false]
  ·simp only[qdY,qr d,cond_true,wS j];refine Ev.bind (qnW a) ?_;have e:appS (lvB br j) [!br.any fun y=>y==(j:Int)]=V (lvB br (j+1)):=qpZ (f:=fun k:Nat=>!br.any fun y=>y==(k:Int)) (by omega);rw[e];exact c
 unfold qgO;exact Ev.bind b .done
def brB (br:List Int)(m:Nat):Bool:=(br.all fun x=>inI x 0 ((m:Int)-1))&&incB br
theorem qrs {v:Tview}{br:List Int}(A:v.links.length≤10000)(h:brB br v.links.length=true):Ev (fun n=>qe9 n (V v) br) (V ⟨V v,lvB br v.links.length⟩):=by
 unfold brB at h;rw[jf,qhP,qai] at h;have u:mkS (v.links.length:Int) false=V (pre (fun _=>false) v.links.length):=qkM (by omega);generalize hM:v.links.length=M at A h u ⊢;have m:∀ j i,i<j→j<br.length→gt br i<gt br j:=by
  intro j
  induction j with
  | zero=>intro i hi _;omega
  | succ j ih=>
   intro i hi b;have c:=h.2;unfold incB at c;rw[qai] at c;have c:=c (j+1) b;unfold stepB at c;simp only[Bool.or_eq_true,decide_eq_true_eq,Nat.add_sub_cancel] at c;have s:gt br j<gt br (j+1):=by
    rcases c with c|c
    ·omega
    ·exact c
   by_cases r:i=j
   ·rw[r];exact s
   ·have:=ih i (by omega) (by omega);omega
 have o:∀ j,j<br.length→(j:Int)≤gt br j:=by
  intro j
  induction j with
  | zero=>
   intro b;have:=h.1 0 b;rw[qa5] at this;omega
  | succ j ih=>
   intro b;have:=ih (by omega);have:=m (j+1) j (by omega) b;omega
 have C:br.length≤M:=by
  by_cases D:br.length=0
  ·omega
  ·have F:=o (br.length-1) (by omega);have B:=h.1 (br.length-1) (by omega);rw[qa5] at B;omega
 have e1:Ev (fun n=>qbD (pre (fun _=>false) M) n (pre (fun _=>false) M) 0) (pre (fun _=>true) M,(M:Int)):=by
  have:=loopF (Lf:=qbD (pre (fun _=>false) M)) (S:=fun j=>pre (fun k=>decide (k<j)) M) (len:=M) (fin:=(pre (fun _=>true) M,(M:Int))) (fun n=>by
    simp only[qbD,qj1,qt (je _),cond_false];rw[qg3 (g:=fun _=>true) fun k d=>decide_eq_true d])
   (fun j b X l=>by
    simp only[qbD,qj1,qr b,cond_true,qh4 (f:=fun k=>decide (k<j)) b,jd,qnd,wS j];have:pre (fun k=>decide (k<j+1)) M=pre (fun k=>if k=j then true else decide (k<j)) M:=qg3 fun k _=>by
     by_cases d:k=j
     ·rw[if_pos d,d];simp
     ·rw[if_neg d,decide_eq_decide];omega
    rw[this] at l;exact l)
  simpa using this
 have z:Ev (fun n=>qbB br n (pre (fun _=>true) M) 0) (lvB br M,(br.length:Int)):=by
  have:=loopF (Lf:=qbB br) (S:=fun j=>pre (fun k=>!(br.take j).any fun y=>y==(k:Int)) M) (len:=br.length) (fin:=(lvB br M,(br.length:Int))) (fun n=>by
    simp only[qbB,qt (je _),cond_false,jJ];rfl)
   (fun j b X l=>by
    have x:=h.1 j b;rw[qa5] at x;obtain⟨a,t⟩:∃ a:Nat,gt br j=(a:Int):=⟨_,qfm x.1⟩;have p:a<M:=by omega
    simp only[qbB,qr b,cond_true,qy b,t,qh4 (f:=fun k=>!(br.take j).any fun y=>y==(k:Int)) p,jd,qnd,wS j];have:pre (fun k=>!(br.take (j+1)).any fun y=>y==(k:Int)) M=pre (fun k=>if k=a then false else !(br.take j).any fun y=>y==(k:Int)) M:=qg3 fun k _=>by
     rw[jE b,List.any_append,←qdz b,t];by_cases d:k=a
     ·rw[if_pos d,d];simp
     ·rw[if_neg d];have:((a:Int)==(k:Int))=false:=by simp;omega
      simp[this]
    rw[this] at l;exact l)
  simpa using this
 unfold qe9;simp only[jd,hM,u];exact Ev.bind e1 (Ev.bind z .done)
theorem qsX {br:List Int}{m:Nat}(h:br.length≤1048576)(i:m≤10000):Ev (fun n=>qhS n br (m:Int)) (brB br m):=by
 have g:Ev (fun n=>qch br (m:Int) n 0) (bif allN (fun j=>inI (gt br j) 0 ((m:Int)-1)&&stepB br j) br.length then .nxt (br.length:Int) else .ret false):=by
  refine qed (Lf:=qch br (m:Int)) (len:=br.length) (Ev.succ (by simp only[qch,qt (je _),cond_false];exact .done)) (fun j d X c=>Ev.succ ?_);simp only[qch,qr d,cond_true,qy d,jd,qcQ,wS j,wO ((m:Int)-1)];cases h1:inI (gt br j) 0 ((m:Int)-1)
  ·exact .done
  ·refine Ev.ff Z ?_;by_cases b:j=0
   ·subst b;exact Ev.ff Z c
   ·refine Ev.tt (decide_eq_true (by omega)) ?_;rw[show(j:Int)-1=((j-1:Nat):Int) by omega,qU (by omega) (by omega),qy (show j-1<br.length by omega)];simp only[jd];have f:stepB br j=decide (gt br (j-1)<gt br j):=by
     unfold stepB;rw[decide_eq_false b,Bool.false_or]
     rfl
    rw[f];by_cases a:gt br (j-1)<gt br j
    ·rw[decide_eq_true a];exact Ev.ff (decide_eq_false (by omega)) c
    ·rw[decide_eq_false a];exact Ev.tt (decide_eq_true (by omega)) .done
 unfold qhS;refine Ev.bind g ?_;unfold brB incB;rw[qhP,←qkC];cases allN (fun j=>inI (gt br j) 0 ((m:Int)-1)&&stepB br j) br.length<;>exact .done
theorem qrd {v:Tview}{br:List Int}(a:br.length≤1048576)(b:v.links.length≤10000):Ev (fun n=>qez n (V v) br) (brB br v.links.length):=by
 unfold qez qgf brB;simp only[jd,wO ((v.links.length:Int)-1)];exact Ev.and (qeb a) fun _=>Ev.last (qlk a)
theorem qrx {b:qe}{br:List Int}(a:qha b)(h:blockB b=true)(c:br.length≤1048576):Ev (fun n=>qgL n b br) (bif brB br (linksL b).length then 0 else 2):=by
 unfold qgL;refine Ev.bind (qgu a) (Ev.ff (by rw[h];rfl) (Ev.bind (qiP h) (Ev.bind (qsX c (qjw h)) ?_)));cases brB br (linksL b).length<;>exact .done

theorem qlD {α:Type}{f:Nat→List α}{n:Nat}{x:α}(h:x ∈ fm f n):∃ j,j<n∧x ∈ f j:=by
 unfold fm at h;obtain⟨j,a,b⟩:=List.mem_flatMap.1 h;exact⟨j,List.mem_range.1 a,b⟩
theorem qsc {x:Int}{j:Nat}{t:Int}(b:b01 t)(d:j≤100000)(e:x=2*(j:Int)+t):W64 (x.tdiv 2)=(j:Int)∧x.tmod 2=t:=by
 have c:0≤t∧t≤1:=by rcases b with e|e<;>omega
 have a:0≤x:=by omega
 rw[jz a,Int.tmod_eq_emod_of_nonneg a,qU (by omega) (by omega)];omega
structure CLk (b:qe)(x:qm)(i j m net a:Nat):Prop where
 kind:x.Au=1
 il:i<b.Aa.Ab.length
 jl:j<(places b.Aa).length
 inst:(gt (places b.Aa) j).instance_=(i:Int)
 net_:(gt (places b.Aa) j).net=(net:Int)
 nl:net<b.Ac.length
 half:W64 (x.To.tdiv 2)=(j:Int)
 mod:x.To.tmod 2=(m:Int)
 ml:m<2
 ix:x.Bu=(a:Int)
 al:a<(cellAt b (i:Int)).Aq.length
 d2:(gt (cellAt b (i:Int)).Aq a).Bm.length=2
 s2:(gt (cellAt b (i:Int)).Aq a).Av.length=2
 dt:∀ t,t ∈ (gt (cellAt b (i:Int)).Aq a).Bm→TbOk t∧∀ k,0≤at0 t.Az k
 st:∀ t,t ∈ (gt (cellAt b (i:Int)).Aq a).Av→TbOk t∧∀ k,0≤at0 t.Az k
structure WLk (b:qe)(x:qm)(j net k:Nat):Prop where
 kind:x.Au=2
 jl:j<(places b.Aa).length
 net_:(gt (places b.Aa) j).net=(net:Int)
 nl:net<b.Ac.length
 half:W64 (x.To.tdiv 2)=(j:Int)
 ix:x.Bu=(k:Int)
 kl:k<(gt b.Ac net).Bb.length
theorem qvd {xs:List Int}(h:0≤mnL xs)(k:Nat):0≤at0 xs k:=by
 have b:∀ (ys:List Int) (a:Int),(ys.foldl (fun(m y:Int)=>if y<m then y else m) a≤a)∧∀ y,y ∈ ys→ys.foldl (fun(m y:Int)=>if y<m then y else m) a≤y:=by
  intro ys
  induction ys with
  | nil=>intro a;exact⟨jR _,fun y g=>by cases g⟩
  | cons z ys ih=>
   intro a;rw[List.foldl_cons];obtain⟨i,l⟩:=ih (if z<a then z else a);refine⟨?_,fun y g=>?_⟩
   ·split at i<;>split<;>omega
   ·rcases List.mem_cons.1 g with e|e
    ·subst e;split at i<;>split<;>omega
    ·exact l y e
 by_cases d:k<xs.length
 ·have f:xs[k] ∈ xs.drop 1∨k=0:=by
   by_cases c:k=0
   ·exact .inr c
   ·refine .inl ?_;have:xs[k]=(xs.drop 1)[k-1]'(by rw[List.length_drop];omega):=by
     rw[List.getElem_drop]
     congr 1;omega
    rw[this];exact jo _
  rw[ql1 d];unfold mnL at h;rcases f with f|c
  ·exact Int.le_trans h ((b _ _).2 _ f)
  ·subst c;have:=(b (xs.drop 1) (at0 xs 0)).1;rw[←ql1 d];exact Int.le_trans h this
 ·rw[qr8 d];exact jR _
theorem qoG {a:List qO}(h:tablesB a true=true):a.length=2∧∀ t,t ∈ a→TbOk t∧∀ k,0≤at0 t.Az k:=by
 unfold tablesB at h;rw[jf,decide_eq_true_eq,jU] at h;refine⟨h.1,fun t b=>?_⟩;have:=h.2 t b;unfold tabB at this;simp only[Jg,Bool.false_or,jf,decide_eq_true_eq] at this;exact⟨qsP this.1,qvd this.2⟩
theorem qrr {ps:List qap}{a:qak}(h:arcS ps a=true)(c:a.Au≤3)(b:1≤a.Au):a.To=(ps.length:Int)-1∧tablesB a.Bm true=true∧tablesB a.Av true=true:=by
 unfold arcS at h;rcases (by omega:a.Au=1∨a.Au=2∨a.Au=3) with e|e|e
 ·rw[e] at h;simp only[beq_self_eq_true,cond_true,jf,beq_iff_eq] at h;exact⟨h.2.2.1,h.2.2.2.2⟩
 ·rw[e] at h;simp only[show((2:Int)==1)=false from rfl,cond_false,beq_self_eq_true,Bool.true_or,cond_true,jf,beq_iff_eq] at h;exact⟨h.2.2.1,h.2.2.2.2⟩
 ·rw[e] at h;simp only[show((3:Int)==1)=false from rfl,cond_false,beq_self_eq_true,Bool.or_true,cond_true,jf,beq_iff_eq] at h;exact⟨h.2.2.1,h.2.2.2.2⟩
theorem qqZ {a:qak}{t:qT}(h:t ∈ transL a):1≤a.Au∧a.Au≤3:=by
 refine⟨?_,?_⟩<;>refine Int.le_of_not_gt fun b=>?_
 ·have:arcLs 0 0 a=[]:=by
   unfold arcLs transL;rw[show(a.Au==2)=false from beq_eq_false_iff_ne.2 (by omega),show(a.Au==3)=false from beq_eq_false_iff_ne.2 (by omega),show(a.Au != 1)=true from bne_iff_ne.2 (by omega)]
   rfl
  unfold arcLs at this;rw[List.map_eq_nil_iff] at this;rw[this] at h;cases h
 ·have:arcLs 0 0 a=[]:=qn5 b;unfold arcLs at this;rw[List.map_eq_nil_iff] at this;rw[this] at h;cases h
theorem qeH {b:qe}(h:blockB b=true){x:qm}(c:x ∈ linksL b):((∃ i j m net a,CLk b x i j m net a)∨∃ j net k,WLk b x j net k)∧(0≤x.Bd∧x.Bd<2*((places b.Aa).length:Int))∧(0≤x.To∧x.To<2*((places b.Aa).length:Int)):=by
 have l:=qan h;have P:=qX l;have hl:=qaQ P;have S:=qiq h;unfold linksL at c;rcases List.mem_append.1 c with c|c
 ·obtain⟨i,hi,c⟩:=qlD c;obtain⟨a,A,c⟩:=qlD c;unfold arcLs at c;obtain⟨t,g,rfl⟩:=List.mem_map.1 c;obtain⟨⟨c0,c1⟩,u,f⟩:=qgQ l hi;have r:cellAt b (i:Int)=gt b.Am.Ap (gt b.Aa.Ab i).Bp.toNat:=rfl;rw[←r] at u f;obtain⟨⟨k1,k5⟩,hf,Q,L⟩:=qlQ f A;obtain⟨J,K⟩:=qqZ g;obtain⟨X,o⟩:=qpL g;obtain⟨D,Y,tS⟩:=qrr L K J;obtain⟨d2,dt⟩:=qoG Y;obtain⟨s2,st⟩:=qoG tS;have O:=(qgy (qis f)).1;have n:(cellAt b (i:Int)).Ay.length-1<(gt b.Aa.Ab i).Aj.length:=by omega
  obtain⟨B,F⟩:=qjr hi n;obtain⟨W,n1⟩:=qk5 l B;have e1:(al1 (off b.Aa i:Int) a (gt (cellAt b (i:Int)).Aq a) t).To=2*((off b.Aa i+((cellAt b (i:Int)).Ay.length-1):Nat):Int)+t.e1:=by
   show 2*((off b.Aa i:Int)+(gt (cellAt b (i:Int)).Aq a).To)+t.e1=_;rw[D];omega
  obtain⟨s,C⟩:=qsc o (by omega) e1;obtain⟨m,H⟩:∃ m:Nat,t.e1=(m:Int):=⟨t.e1.toNat,by rcases o with e|e<;>omega⟩;have N:off b.Aa i+(gt (cellAt b (i:Int)).Aq a).Bd.toNat<(places b.Aa).length:=(qjr hi (k:=(gt (cellAt b (i:Int)).Aq a).Bd.toNat) (by omega)).1;have p:(al1 (off b.Aa i:Int) a (gt (cellAt b (i:Int)).Aq a) t).Bd=2*((off b.Aa i:Int)+(gt (cellAt b (i:Int)).Aq a).Bd)+t.e0:=rfl;refine⟨.inl ⟨i,_,m,(gt (places b.Aa) (off b.Aa i+((cellAt b (i:Int)).Ay.length-1))).net.toNat,a,⟨rfl,hi,B,by rw[F];rfl,qfm W,by omega,s,by rw[C,H],by rcases o with e|e<;>omega,rfl,A,d2,s2,dt,st⟩⟩,?_,?_⟩
  ·rw[p];rcases X with e|e<;>rw[e]<;>omega
  ·rw[e1];rcases o with e|e<;>rw[e]<;>omega
 ·obtain⟨i,hi,c⟩:=qlD c;obtain⟨k,n,c⟩:=qlD c;obtain⟨y,T,I,v⟩:=qmN n;have M:=(qic l (k:=i) (by omega)).1;have R:=qbz h hi;have z:(gt (places b.Aa) y).net=(i:Int):=by
   unfold snkQ at v;simp only[jf,beq_iff_eq] at v;exact v.1
  have d:∀ t:Int,b01 t→x=⟨2*(dvN b.Aa i:Int)+t,2*at0 (skL b i) k+t,2,(k:Int)⟩→((∃ i j m net a,CLk b x i j m net a)∨∃ j net k,WLk b x j net k)∧(0≤x.Bd∧x.Bd<2*((places b.Aa).length:Int))∧(0≤x.To∧x.To<2*((places b.Aa).length:Int)):=by
   intro t g e;have e1:x.To=2*(y:Int)+t:=by rw[e,I]
   have p:x.Bd=2*(dvN b.Aa i:Int)+t:=by rw[e]
   obtain⟨s,C⟩:=qsc g (by omega) e1;refine⟨.inr ⟨y,i,k,⟨by rw[e],T,z,hi,s,by rw[e],by rw[R.snk];exact n⟩⟩,?_,?_⟩
   ·rw[p];rcases g with e|e<;>rw[e]<;>omega
   ·rw[e1];rcases g with e|e<;>rw[e]<;>omega
  unfold wl1 at c;simp only[jG,jy,or_false] at c;rcases c with c|c
  ·exact d 0 (.inl Z) (by rw[c,jY,jY])
  ·exact d 1 (.inr Z) c
theorem qg9 {α:Type}[Inhabited α]{xs:List α}{k:Nat}(h:k<xs.length):gt xs k ∈ xs:=by rw[qdz h];exact jo h
theorem qjn {b:qe}(h:blockB b=true):LkOk (linksL b) (2*(places b.Aa).length) where
 len:=qjw h
 nodes:=by have:=qaQ (qX (qan h));omega
 fr0:=fun x a=>(qeH h (qg9 a)).2.1.1
 fr1:=fun x a=>by have:=(qeH h (qg9 a)).2.1.2;omega
 to0:=fun x a=>(qeH h (qg9 a)).2.2.1
 to1:=fun x a=>by have:=(qeH h (qg9 a)).2.2.2;omega
theorem qpp {c:qv}(h:cornerB c=true){kind mode:Int}:∃ f:Int,100≤f∧f≤5000∧(∀ n,qdE n c kind mode=V f)∧∀ n,qeG n c kind mode=V f:=by
 unfold cornerB at h;simp only[jf,qa5,decide_eq_true_eq] at h;obtain⟨⟨a,b,d,g⟩,_⟩:=h;unfold qdE qeG;cases kind==1
 ·cases mode==0
  ·exact⟨_,g.1,g.2,fun _=>rfl,fun _=>rfl⟩
  ·exact⟨_,d.1,d.2,fun _=>rfl,fun _=>rfl⟩
 ·cases mode==0
  ·exact⟨_,b.1,b.2,fun _=>rfl,fun _=>rfl⟩
  ·exact⟨_,a.1,a.2,fun _=>rfl,fun _=>rfl⟩
theorem qkm {p f mode:Int}(g:0≤p)(p1:p≤400000000000)(c:0≤f)(f1:f≤5000):(∀ n,qcx n (W64 (p*f)) 1000 mode=V (divI (p*f) 1000 mode))∧∀ n,qjB n p f mode=V (divI (p*f) 1000 mode):=by
 have h:=jP g c;have i:p*f≤400000000000*5000:=jS p1 f1 c (by omega);have e:W64 (p*f)=p*f:=qU (by omega) (by omega);have d:=fun n=>qjI (n:=n) (a:=p*f) (b:=1000) (mode:=mode) (by omega) (by omega) (by omega);refine⟨fun n=>by rw[e];exact d n,fun n=>?_⟩;unfold qjB;rw[e,qqq (m:=0),d 0]
 rfl
theorem qtq {l h H:Int}(c:0≤l)(d:l<h)(f:h≤H)(g:H≤3000000000):W64 (W64 (W64 (l+h)+1) |>.tdiv 2)=(l+h+1) / 2∧W64 ((l+h+1) / 2*((l+h+1) / 2))=(l+h+1) / 2*((l+h+1) / 2)∧W64 ((l+h+1) / 2-1)=(l+h+1) / 2-1:=by
 have a:0≤(l+h+1) / 2∧(l+h+1) / 2≤3000000000:=by omega
 have i:(l+h+1) / 2*((l+h+1) / 2)≤3000000000*3000000000:=jS a.2 a.2 a.1 (by omega);have b:=jP a.1 a.1;rw[wO (l+h),wO (l+h+1),jz (by omega),wO ((l+h+1) / 2),wO ((l+h+1) / 2-1)];exact⟨rfl,qU (by omega) (by omega),rfl⟩
theorem qth {y mode:Int}(k:0≤y)(r:y≤4000000000000000000):∃ v,IsRoot y v∧v≤2000000000∧Ev (fun n=>qib n y mode) (if mode=1∧v*v<y then v+1 else v):=by
 obtain⟨v,r1,f,p⟩:=qpN (Lf:=fun n l h=>qdR y n l h) (fin:=fun l=>(l,l)) (x:=y) (H:=2000000000) k (by omega) (by omega)
  (fun n l _ _=>by simp only[qdR,show decide (l<l)=false from decide_eq_false (Int.lt_irrefl l),cond_false])
  (fun n l h a b m=>by
   obtain⟨e1,g,i⟩:=qtq a b m (by omega);simp only[qdR,decide_eq_true b,cond_true,e1,g,i])
 refine⟨v,r1,f,?_⟩;unfold qib;refine Ev.bind p ?_;have d:=r1.pos;have s:v*v≤2000000000*2000000000:=jS f f d (by omega);have o:=jP d d;simp only[wO (v*v),wO (v+1)];by_cases c:mode=1
 ·refine Ev.tt (by simpa using c) ?_;by_cases a:v*v<y
  ·rw[if_pos ⟨c,a⟩];exact Ev.tt (decide_eq_true a) .done
  ·rw[if_neg fun h=>a h.2];exact Ev.ff (decide_eq_false a) .done
 ·rw[if_neg fun h=>c h.1];exact Ev.ff (by simpa using c) .done
theorem qtm {y:Int}(d:0≤y)(m:y≤4000000000000000000):∃ v,IsRoot y v∧v≤3000000000∧Ev (fun n=>qmh n y) v:=by
 obtain⟨v,r1,i,k⟩:=qpN (Lf:=fun n l h=>qfW y n l h) (fin:=fun l=>(l,l)) (x:=y) (H:=3000000000) d (by omega) (by omega)
  (fun n l _ _=>by simp only[qfW,show decide (l<l)=false from decide_eq_false (Int.lt_irrefl l),cond_false])
  (fun n l h g a f=>by
   obtain⟨e1,b,c⟩:=qtq g a f (by omega);simp only[qfW,decide_eq_true a,cond_true,e1,b,c])
 refine⟨v,r1,i,?_⟩;unfold qmh;exact Ev.bind k .done
theorem qsE {sl d mode:Int}(s0:0≤sl)(s1:sl≤1000000)(g:0≤d)(k:d≤344000000)(l:mode=0∨mode=1):∃ r:Int,0≤r ∧
  Ev (fun n=>(qib n (W64 (W64 (W64 (1000000*sl)*sl)+W64 (W64 (4*d)*d))) mode).bind fun z=>(qcx n z 1000 mode).bind fun A=>V A) r∧Ev (fun n=>qiF n sl d mode) r:=by
 have H:=jP s0 s0;have I:sl*sl≤1000000*1000000:=jS s1 s1 s0 (by omega);have J:=jP g g;have K:d*d≤344000000*344000000:=jS k k g (by omega);have e1:W64 (W64 (W64 (1000000*sl)*sl)+W64 (W64 (4*d)*d))=4*(250000*(sl*sl)+d*d):=by
  rw[wO (1000000*sl),wO (4*d),Jb 1000000,Jb 4,wO (1000000*(sl*sl)),wO (4*(d*d)),qU (by omega) (by omega)];omega
 have s:W64 (W64 (W64 (W64 (500*sl)*500)*sl)+W64 (d*d))=250000*(sl*sl)+d*d:=by
  rw[wO (500*sl),wO (500*sl*500),show 500*sl*500*sl=250000*(sl*sl) by rw[←Jb];congr 1;omega,wO (250000*(sl*sl)),wO (d*d),qU (by omega) (by omega)]
 obtain⟨v,o,L,B⟩:=qth (mode:=mode) (y:=4*(250000*(sl*sl)+d*d)) (by omega) (by omega);obtain⟨w,w1,p,C⟩:=qtm (y:=250000*(sl*sl)+d*d) (by omega) (by omega);have x:=qrl w1 o l;have F:=o.pos;have f:=w1.pos;have a:0≤(if mode=1∧v*v<4*(250000*(sl*sl)+d*d) then v+1 else v)∧(if mode=1∧v*v<4*(250000*(sl*sl)+d*d) then v+1 else v)≤1000*3000000:=by split<;>omega
 refine⟨_,(qjP (b:=1000) (mode:=mode) (M:=3000000) (by omega) a.1 a.2).1,?_,?_⟩
 ·rw[e1];exact Ev.bind B (Ev.bind ⟨0,fun n _=>qjI (by omega) (by omega) (by omega)⟩ .done)
 ·rw[x];unfold qiF;rw[s];refine Ev.bind C ?_;have D:w*w≤3000000000*3000000000:=jS p p f (by omega);have u:=jP f f;have t:(fun n=>qff n w 500 mode)=fun _=>V (divI w 500 mode):=by
   funext n
   rw[qqq (m:=0),qjI (by omega) (by omega) (by omega)]
  have i:=congrFun t;simp only[wO (w*w),jz f,wO (w / 500),wO (w / 500+1),i,jd];rcases l with rfl|rfl
  ·rw[if_neg (by omega)];exact .done
  ·by_cases c:w*w<250000*(sl*sl)+d*d
   ·rw[if_pos ⟨rfl,c⟩,decide_eq_true c];exact .done
   ·rw[if_neg fun h=>c h.2,decide_eq_false c];exact .done
theorem qqD {t:qO}(h:TbOk t∧∀ k,0≤at0 t.Az k)(sl ld mode:Int):∃ r:Int,0≤r∧r≤1000000∧Ev (fun n=>qgR n t sl ld mode) r∧Ev (fun n=>qdK n t sl ld mode) r:=by
 obtain⟨S,D,D0,S1,_,_,_,S0,a⟩:=qr0 h.1 sl ld;obtain⟨b,r1⟩:=qjP (mode:=mode) D0 (S0 h.2) S1;exact⟨_,b,r1,a mode⟩
theorem qrq {b:qe}{ex:List Int}{x:qm}{j net:Nat}(jl:j<(places b.Aa).length)(c:(gt (places b.Aa) j).net=(net:Int))(a:W64 (x.To.tdiv 2)=(j:Int))(n:Nat):qeX n (V (viewE b ex)) x=V (net:Int):=by
 unfold qeX;show(idx (places b.Aa) (W64 (x.To.tdiv 2))).bind _=_;rw[a,qy jl];exact congrArg V c
theorem qto {b:qe}{ex:List Int}(h:blockB b=true){x:qm}{i j m net a:Nat}(c:CLk b x i j m net a)(n:Nat):qgb n (V (viewE b ex)) x=V (gt (cellAt b (i:Int)).Aq a):=by
 obtain⟨⟨d,c1⟩,_,_⟩:=qgQ (qan h) c.il;unfold qgb;show(idx (places b.Aa) (W64 (x.To.tdiv 2))).bind (fun f=>(idx b.Aa.Ab f.instance_).bind fun g=>(idx b.Am.Ap g.Bp).bind fun k=>(idx k.Aq x.Bu).bind fun l=>V l)=_;rw[c.half,qy c.jl,jd,c.inst,qy c.il,jd,qfw d c1,jd,c.ix];show(idx (cellAt b (i:Int)).Aq (a:Int)).bind _=_;rw[qy c.al];rfl
theorem ql8 {b:qe}(h:blockB b=true){x:qm}{i j m net a:Nat}(c:CLk b x i j m net a):Ev (fun n=>qiV n b x) (gt (cellAt b (i:Int)).Aq a,load0 b net):=by
 have d:=qan h;have s:=qX d;obtain⟨⟨f,c1⟩,_,_⟩:=qgQ d c.il;have r:idx ((places b.Aa).map toSp) (j:Int)=V (toSp (gt (places b.Aa) j)):=by
  refine qg5 ?_;rw[List.getElem?_map,jn c.jl,qdz c.jl];rfl
 have o:=qkS h c.nl;have p:=(qbz h c.nl).lo;have g:(toSp (gt (places b.Aa) j)).instance_=(i:Int):=c.inst;have k:(toSp (gt (places b.Aa) j)).net=(net:Int):=c.net_;have l:idx (gt b.Am.Ap (gt b.Aa.Ab i).Bp.toNat).Aq (a:Int)=V (gt (cellAt b (i:Int)).Aq a):=qy c.al;unfold qiV;refine Ev.bind (qgx s) ?_;simp only[c.half,r,jd,g,k,qy c.il,qfw f c1,c.ix,l];refine Ev.bind (qn0 h c.nl) ?_;rw[show idx (loadsL b net) (0:Int)=V (load0 b net) from qy (j:=0) (by omega)];exact .done
theorem qkG {b:qe}(h:blockB b=true){x:qm}{j net k:Nat}(a:WLk b x j net k):Ev (fun n=>qgE n b x) (net:Int):=by
 have f:=qX (qan h);have d:idx ((places b.Aa).map toSp) (j:Int)=V (toSp (gt (places b.Aa) j)):=by
  refine qg5 ?_;rw[List.getElem?_map,jn a.jl,qdz a.jl];rfl
 have c:(toSp (gt (places b.Aa) j)).net=(net:Int):=a.net_;unfold qgE;refine Ev.bind (qgx f) ?_;simp only[a.half,d,jd,c];exact .done
theorem qp7 {b:qe}{c:qv}(ex:List Int)(h:blockB b=true)(K:cornerB c=true){k:Nat}(L:k<(linksL b).length){sl mode:Int}(s0:0≤sl)(s1:sl≤1000000)(W:mode=0∨mode=1) :
  (∃ D:Int,Ev (fun n=>qbc n b c (gt (linksL b) k) sl mode) D∧Ev (fun n=>qcn n (V (viewE b ex)) c (k:Int) sl mode) D) ∧
  ∃ S:Int,0≤S∧S≤1000000∧Ev (fun n=>qd7 n b (gt (linksL b) k) sl mode) S∧Ev (fun n=>qbu n (V (viewE b ex)) (k:Int) sl mode) S:=by
 have t:idx (viewE b ex).links (k:Int)=V (gt (linksL b) k):=qy L;obtain⟨d,_⟩:=qeH h (qg9 L);generalize gt (linksL b) k=x at d t;rcases d with⟨i,j,m,net,a,d⟩|⟨j,net,q,d⟩
 ·have l:=qrq (ex:=ex) d.jl d.net_ d.half;have o:=qto (ex:=ex) h d;have s:idx (viewE b ex).loads (net:Int)=V (load0 b net):=qh4 (f:=load0 b) d.nl;obtain⟨f,R,f1,F,C⟩:=qpp K (kind:=x.Au) (mode:=mode);have z:m<(gt (cellAt b (i:Int)).Aq a).Bm.length:=by rw[d.d2];exact d.ml
  have H:m<(gt (cellAt b (i:Int)).Aq a).Av.length:=by rw[d.s2];exact d.ml
  obtain⟨r,e,r1,rs,ri⟩:=qqD (d.dt _ (qg9 z)) sl (load0 b net) mode;obtain⟨u,N,u1,J,I⟩:=qqD (d.st _ (qg9 H)) sl (load0 b net) mode;obtain⟨c1,y⟩:=qkm (mode:=mode) e (by omega) (show 0≤f by omega) f1;have g:(x.Au==1)=true:=by rw[d.kind];rfl
  refine⟨⟨divI (r*f) 1000 mode,?_,?_⟩,⟨u,N,u1,?_,?_⟩⟩
  ·unfold qbc;refine Ev.tt g (Ev.bind (ql8 h d) ?_);simp only[d.mod,qy z,jd,F];exact Ev.bind rs (Ev.bind ⟨0,fun n _=>c1 n⟩ .done)
  ·unfold qcn;simp only[jd,t,l,s,o,d.mod,qy z,C];exact Ev.tt g (Ev.bind ri (Ev.bind ⟨0,fun n _=>y n⟩ .done))
  ·unfold qd7;refine Ev.tt g (Ev.bind (ql8 h d) ?_);simp only[d.mod,qy H,jd];exact Ev.bind J .done
  ·unfold qbu;simp only[jd,t,l,s,o,d.mod,qy H];refine Ev.tt g (Ev.bind I (Ev.now ?_));rw[if_neg (by omega)]
 ·have l:=qrq (ex:=ex) d.jl d.net_ d.half;have p:idx (viewE b ex).delays (net:Int)=V (exactL b net):=qh4 (f:=exactL b) d.nl;have A:(exactL b net).length=(gt b.Ac net).Bb.length:=by unfold exactL;rw[jv]
  have v:q<(exactL b net).length:=by rw[A];exact d.kl
  obtain⟨O,x1⟩:=qmH h d.nl d.kl;obtain⟨f,R,f1,F,C⟩:=qpp K (kind:=x.Au) (mode:=mode);have P:=fun n=>qjI (n:=n) (a:=gt (exactL b net) q) (b:=1000) (mode:=mode) (by omega) (by omega) (by omega);obtain⟨Y,p1⟩:=qjP (a:=gt (exactL b net) q) (b:=1000) (mode:=mode) (M:=344000) (by omega) O (by omega);obtain⟨c1,y⟩:=qkm (mode:=mode) Y (by omega) (show 0≤f by omega) f1;have g:(x.Au==1)=false:=by rw[d.kind];rfl
  have hi:idx ((exactL b net).map fun x=>divI x 1000 mode) (q:Int)=V (divI (gt (exactL b net) q) 1000 mode):=by
   rw[qy (by rw[jv];exact v),qmF v]
  obtain⟨u,N,J,I⟩:=qsE s0 s1 O x1 W;refine⟨⟨divI (divI (gt (exactL b net) q) 1000 mode*f) 1000 mode,?_,?_⟩,⟨if u<1000000 then u else 1000000,by split<;>omega,by split<;>omega,?_,?_⟩⟩
  ·unfold qbc;refine Ev.ff g (Ev.bind (qkG h d) (Ev.bind (qit h d.nl) ?_));simp only[d.ix,hi,jd,F];exact Ev.bind ⟨0,fun n _=>c1 n⟩ .done
  ·unfold qcn;simp only[jd,t,l,p,d.ix,qy v,C];refine Ev.ff g (Ev.bind (b:=divI (gt (exactL b net) q) 1000 mode) ⟨0,fun n _=>(qqq (m:=0)).trans (P 0)⟩ (Ev.bind ⟨0,fun n _=>y n⟩ .done))
  ·have X:=qbz h d.nl;have B:=X.sin q d.kl;have T:=qlS h d.nl;have Q:gt (exactL b net) q=gt (delaysL b net) (at0 (gt b.Ac net).Bb q).toNat:=by
    unfold exactL;rw[qdz (by rw[jv];exact d.kl),List.getElem_map,ql1 d.kl]
   unfold qd7 qkY;refine Ev.ff g (Ev.bind (qkG h d) ?_);simp only[d.ix,qy d.nl,jd,qar d.kl];refine Ev.bind (b:=u) (Ev.bind (qmY h d.nl) ?_) .done;rw[qfw B.1 (show at0 (gt b.Ac net).Bb q<((delaysL b net).length:Int) by omega)];simp only[jd];rw[←Q];exact J
  ·unfold qbu;simp only[jd,t,l,p,d.ix,qy v];refine Ev.ff g (Ev.bind I (Ev.now ?_))
   congr 1
   split<;>split<;>omega
theorem qjW {b:qe}{c:qv}(h:blockB b=true)(g:cornerB c=true){k:Nat}(i:k<(linksL b).length){sl mode:Int}(s0:0≤sl)(s1:sl≤1000000)(l:mode=0∨mode=1) :
  (∃ D:Int,Ev (fun n=>qbc n b c (gt (linksL b) k) sl mode) D∧∀ ex,Ev (fun n=>qcn n (V (viewE b ex)) c (k:Int) sl mode) D) ∧
  ∃ S:Int,0≤S∧S≤1000000∧Ev (fun n=>qd7 n b (gt (linksL b) k) sl mode) S∧∀ ex,Ev (fun n=>qbu n (V (viewE b ex)) (k:Int) sl mode) S:=by
 obtain⟨⟨D,m,_⟩,⟨S,a,c',d,_⟩⟩:=qp7 [] h g i s0 s1 l;refine⟨⟨D,m,fun ex=>?_⟩,⟨S,a,c',d,fun ex=>?_⟩⟩
 ·obtain⟨⟨D',e1,f⟩,_⟩:=qp7 ex h g i s0 s1 l;rw[m.uniq e1];exact f
 ·obtain⟨_,⟨S',_,_,e1,f⟩⟩:=qp7 ex h g i s0 s1 l;rw[d.uniq e1];exact f

def slR (s:qh):Prop:=(0≤s.Ak∧s.Ak≤1000000)∧(0≤s.Ar∧s.Ar≤1000000)
def SpansS (b:qe)(c:qv)(f:Nat→qh→qh×qh):Prop:=∀ k s,k<(linksL b).length→slR s→slR (f k s).2∧Ev (fun n=>qfi n b c (gt (linksL b) k) s) (f k s)
def SpansI (b:qe)(c:qv)(ex:List Int)(f:Nat→qh→qh×qh):Prop:=∀ k s,k<(linksL b).length→slR s→slR (f k s).2∧Ev (fun n=>qf7 n (V (viewE b ex)) c (k:Int) s) (f k s)
def exK (b:qe)(ex:List Int)(k:Nat):Int:=bif (gt (linksL b) k).Au==2 then gt ex (gt (places b.Aa) ((gt (linksL b) k).To / 2).toNat).net.toNat else 0
def wideS (e:Int)(s:qh):qh:=⟨W64 (s.Ak-e),W64 (s.Ar+e)⟩
def wideF (b:qe)(ex:List Int)(f:Nat→qh→qh×qh)(k:Nat)(s:qh):qh×qh:=bif decide (0<ex.length)&&((gt (linksL b) k).Au==2) then(wideS (exK b ex k) (f k s).1,(f k s).2) else f k s
theorem qtl {b:qe}{c:qv}(h:blockB b=true)(D:cornerB c=true):∃ f,SpansS b c f∧∀ ex:List Int,ex.length=0∨ex.length=b.Ac.length→SpansI b c ex (wideF b ex f):=by
 have C:∀ x:Nat×qh,∃ r:qh×qh,x.1<(linksL b).length→slR x.2→slR r.2∧Ev (fun n=>qfi n b c (gt (linksL b) x.1) x.2) r∧∀ ex:List Int,ex.length=0∨ex.length=b.Ac.length→Ev (fun n=>qf7 n (V (viewE b ex)) c (x.1:Int) x.2) (wideF b ex (fun _ _=>r) x.1 x.2):=by
  rintro⟨k,s⟩;by_cases d:k<(linksL b).length∧slR s
  ·obtain⟨d,⟨e0,e1⟩,⟨l0,l1⟩⟩:=d;obtain⟨⟨l,p1,Y⟩,⟨t,a1,b1,v1,w1⟩⟩:=qjW h D d e0 e1 (mode:=0) (.inl Z);obtain⟨⟨d2,T,e⟩,⟨u,a2,b2,v2,w2⟩⟩:=qjW h D d e0 e1 (mode:=1) (.inr Z);obtain⟨⟨o,W,q3⟩,⟨v,a3,b3,v3,w3⟩⟩:=qjW h D d l0 l1 (mode:=0) (.inl Z);obtain⟨⟨p,X,q4⟩,⟨y,a4,b4,v4,w4⟩⟩:=qjW h D d l0 l1 (mode:=1) (.inr Z);refine⟨(⟨if o<l then o else l,if p > d2 then p else d2⟩,⟨if v<t then v else t,if y > u then y else u⟩),fun _ _=>⟨⟨?_,?_⟩,?_,fun ex B=>?_⟩⟩
   ·show 0≤(if v<t then v else t)∧(if v<t then v else t)≤1000000;split<;>omega
   ·show 0≤(if y > u then y else u)∧(if y > u then y else u)≤1000000;split<;>omega
   ·unfold qfi;exact Ev.bind p1 (Ev.bind T (Ev.bind v1 (Ev.bind v2 (Ev.bind W (Ev.bind X (Ev.bind v3 (Ev.bind v4 .done)))))))
   ·unfold qf7;refine Ev.bind (Y ex) (Ev.bind (q3 ex) (Ev.bind (e ex) (Ev.bind (q4 ex) ?_)));have S:idx (viewE b ex).links (k:Int)=V (gt (linksL b) k):=qy d;have g:(viewE b ex).extras=ex:=rfl;simp only[jd,S,g];unfold wideF;have fin:∀ r:Int×Int,Ev (fun n=>(qbu n (V (viewE b ex)) (k:Int) s.Ak 0).bind fun J=>(qbu n (V (viewE b ex)) (k:Int) s.Ar 0).bind fun K=>(qbu n (V (viewE b ex)) (k:Int) s.Ak 1).bind fun L=>(qbu n (V (viewE b ex)) (k:Int) s.Ar 1).bind fun M=>
      V ((⟨r.1,r.2⟩:qh),(⟨if K<J then K else J,if M > L then M else L⟩:qh))) ((⟨r.1,r.2⟩:qh),(⟨if v<t then v else t,if y > u then y else u⟩:qh)):=fun r=>Ev.bind (w1 ex) (Ev.bind (w3 ex) (Ev.bind (w2 ex) (Ev.bind (w4 ex) .done)))
    rw[show decide ((ex.length:Int) > 0)=decide (0<ex.length) by rw[decide_eq_decide];omega];cases hl:decide (0<ex.length)
    ·exact Ev.bind (b:=false) (Ev.now Z) (Ev.bind (b:=(if o<l then o else l,if p > d2 then p else d2)) (Ev.now Z) (fin _))
    ·cases hkd:(gt (linksL b) k).Au==2
     ·exact Ev.bind (b:=false) (Ev.now Z) (Ev.bind (b:=(if o<l then o else l,if p > d2 then p else d2)) (Ev.now Z) (fin _))
     ·obtain⟨H,_⟩:=qeH h (qg9 d);rcases H with⟨i,j,m,net,a,g⟩|⟨j,net,q,g⟩
      ·rw[g.kind] at hkd;cases hkd
      ·have Q:=qrq (ex:=ex) g.jl g.net_ g.half;have I:net<ex.length:=by
        have:=of_decide_eq_true hl;have:=g.nl;omega
       have P:=(qeH h (qg9 d)).2.2;have R:=qaQ (qX (qan h));have O:((gt (linksL b) k).To / 2).toNat=j:=by
        have:=g.half;rw[jz P.1,qU (by omega) (by omega)] at this;omega
       have N:exK b ex k=gt ex net:=by
        unfold exK;rw[hkd,O,g.net_,jr]
        rfl
       refine Ev.bind (b:=true) (Ev.now Z) (Ev.bind (b:=(W64 ((if o<l then o else l)-gt ex net),W64 ((if p > d2 then p else d2)+gt ex net))) ?_ ?_)
       ·simp only[Q,jd,qy I];exact .done
       ·rw[N];exact fin _
  ·exact⟨(s,s),fun z A=>absurd ⟨z,A⟩ d⟩
 obtain⟨f,F⟩:=Classical.axiomOfChoice C;exact⟨fun k s=>f (k,s),fun k s z A=>⟨(F (k,s) z A).1,(F (k,s) z A).2.1⟩,fun ex B k s z A=>⟨by
  have:=(F (k,s) z A).1;unfold wideF;cases decide (0<ex.length)&&((gt (linksL b) k).Au==2)<;>exact this,(F (k,s) z A).2.2 ex B⟩⟩
def zSp:qh:=⟨0,0⟩
def zSrc:qf:=⟨0,zSp,zSp⟩
def hullS (s t:qh):qh:=⟨if t.Ak<s.Ak then t.Ak else s.Ak,if t.Ar > s.Ar then t.Ar else s.Ar⟩
theorem qpq {s t:qh}:(⟨if s.Ak<t.Ak then s.Ak else t.Ak,if s.Ar > t.Ar then s.Ar else t.Ar⟩:qh)=hullS s t:=by
 unfold hullS
 congr 1
 ·split<;>split<;>omega
 ·split<;>split<;>omega
def plusS (s t:qh):qh:=⟨W64 (s.Ak+t.Ak),W64 (s.Ar+t.Ar)⟩
def joinS (node:Int)(s:Bool×qf)(ar sl:qh):Bool×qf:=bif s.1 then(true,⟨node,hullS s.2.Af ar,hullS s.2.Av sl⟩) else(true,⟨node,ar,sl⟩)
def frN (ls:List qm)(k:Nat):Nat:=(gt ls k).Bd.toNat
def stepS (f:Nat→qh→qh×qh)(ls:List qm)(t:qk)(node:Int)(s:Bool×qf)(k:Nat):Bool×qf:=
 bif gt t.As (frN ls k) then joinS node s (plusS (gt t.Af (frN ls k)) (f k (gt t.Av (frN ls k))).1) (f k (gt t.Av (frN ls k))).2 else s
def toQ (ls:List qm)(lv:List Bool)(node:Int)(k:Nat):Bool:=lvL lv k&&(toL ls k==node)
def srcO (xs:List qf)(node:Int):Option qf:=xs.find? fun s=>s.Bi==node
def srcV (o:Option qf):Bool×qf:=match o with|some y=>(true,y)|none=>(false,zSrc)
def ndS (f:Nat→qh→qh×qh)(ls:List qm)(lv:List Bool)(t:qk)(node:Int)(s0:Bool×qf):Nat→Bool×qf
 | 0=>s0
 | k+1=>bif toQ ls lv node k then stepS f ls t node (ndS f ls lv t node s0 k) k else ndS f ls lv t node s0 k
theorem qtj {f:Nat→qh→qh×qh}{ls:List qm}{lv:List Bool}{t:qk}{node:Int}{s0:Bool×qf}{j:Nat}:(selN (toQ ls lv node) j).foldl (stepS f ls t node) s0=ndS f ls lv t node s0 j:=by
 induction j with
 | zero=>rfl
 | succ j ih=>
  rw[qkO,List.foldl_append,ih];show _=bif toQ ls lv node j then stepS f ls t node (ndS f ls lv t node s0 j) j else ndS f ls lv t node s0 j;cases toQ ls lv node j<;>rfl
structure TmOk (t:qk)(M:Nat):Prop where
 r:t.As.length=M
 a:t.Af.length=M
 s:t.Av.length=M
 sl:∀ k,k<M→slR (gt t.Av k)
structure SrcOk (xs:List qf):Prop where
 len:xs.length≤1048576
 inc:∀ j i,i<j→j<xs.length→(gt xs i).Bi<(gt xs j).Bi
 sl:∀ x,x ∈ xs→slR x.Av
theorem qs9 {xs:List qf}{node:Int}(g:xs.length≤1048576):Ev (fun n=>qiJ n xs node) ((srcV (srcO xs node)).2,(srcV (srcO xs node)).1):=by
 have c:Ev (fun n=>qaP n xs node) (ixL (fun s=>s.Bi==node) xs):=
  qf8 (fin:=(xs.length:Int)) (Lf:=qY xs node) (xs:=xs) (pf:=fun n x=>qi1 n x node) (fun _ _=>.done)
   (fun n=>by simp only[qY,qt (je _),cond_false])
   (fun n j x b=>by
    have a:=(List.getElem?_eq_some_iff.1 b).1;simp only[qY,qr a,cond_true,qg5 b,jd,wS j])
   (fun n=>by unfold qaP;congr 1;funext o;cases o<;>rfl)
 unfold qiJ;refine Ev.bind c ?_;unfold ixL srcO;cases hf:xs.findIdx? (fun s=>s.Bi==node) with
 | none=>
  have:xs.find? (fun s=>s.Bi==node)=U:=by
   rw[List.find?_eq_none];intro x b;have:=List.findIdx?_eq_none_iff.1 hf x b;simpa using this
  rw[this];exact Ev.ff Z .done
 | some j=>
  obtain⟨a,f,d⟩:=List.findIdx?_eq_some_iff_getElem.1 hf;have:xs.find? (fun s=>s.Bi==node)=V xs[j]:=by
   rw[List.find?_eq_some_iff_getElem];exact⟨f,j,a,rfl,fun i hi=>by have:=d i hi;simpa using this⟩
  rw[this];refine Ev.tt (show decide ((j:Int) ≥ 0)=true from decide_eq_true (by omega)) ?_;show Ev (fun n=>(idx xs (j:Int)).bind _) _;rw[qa2 a];exact .done
theorem qkr {xs:List qf}{node:Int}{y:qf}(h:srcO xs node=V y):y.Bi=node∧y ∈ xs:=by
 have a:=List.find?_some h;exact⟨by simpa using a,List.mem_of_find?_eq_some h⟩
theorem quj {xs:List qf}{node:Int}(h:SrcOk xs) :
  Ev (fun n=>qc3 xs node n 0 0 0 0 0 false 0) ((srcV (srcO xs node)).2.Bi,(srcV (srcO xs node)).2.Af.Ak,(srcV (srcO xs node)).2.Af.Ar,(srcV (srcO xs node)).2.Av.Ak,(srcV (srcO xs node)).2.Av.Ar,(srcV (srcO xs node)).1,(xs.length:Int)):=by
 have g:=h.len;have:=loopF (τ:=Bool×qf) (Lf:=fun n s j=>qc3 xs node n s.2.Bi s.2.Af.Ak s.2.Af.Ar s.2.Av.Ak s.2.Av.Ar s.1 j) (S:=fun j=>srcV (srcO (xs.take j) node)) (len:=xs.length)
  (fin:=((srcV (srcO xs node)).2.Bi,(srcV (srcO xs node)).2.Af.Ak,(srcV (srcO xs node)).2.Af.Ar,(srcV (srcO xs node)).2.Av.Ak,(srcV (srcO xs node)).2.Av.Ar,(srcV (srcO xs node)).1,(xs.length:Int)))
  (fun n=>by simp only[qc3,qt (je _),cond_false,jJ])
  (fun j a X c=>by
   simp only[qc3,qr a,cond_true,qy a,jd,wS j];have e:srcO (xs.take (j+1)) node=(srcO (xs.take j) node).or (bif (gt xs j).Bi==node then V (gt xs j) else U):=by
    unfold srcO;rw[jE a,List.find?_append,←qdz a]
    congr 1
   cases hq:(gt xs j).Bi==node
   ·rw[hq] at e;have e:srcO (xs.take (j+1)) node=srcO (xs.take j) node:=by rw[e];cases srcO (xs.take j) node<;>rfl
    rw[e] at c;exact c
   ·rw[hq] at e;have d:srcO (xs.take j) node=U:=by
     unfold srcO;rw[List.find?_eq_none];intro x f b;obtain⟨i,hi,rfl⟩:=List.mem_iff_getElem.1 f;rw[Jd] at hi;rw[List.getElem_take,←qdz (by omega)] at b;have:=h.inc j i (by omega) a;simp only[beq_iff_eq] at hq b;omega
    have e:srcO (xs.take (j+1)) node=V (gt xs j):=by rw[e,d];rfl
    rw[e] at c;exact c)
 exact this
theorem qqa {ls:List qm}{M:Nat}(h:LkOk ls M){k:Nat}(a:k<ls.length):(gt ls k).Bd=(frN ls k:Int)∧frN ls k<M:=by
 have b:=h.fr0 k a;have c:=h.fr1 k a;unfold frN;omega
section
variable {b:qe}{c:qv}{ex:List Int}{f:Nat→qh→qh×qh}{lv:List Bool}{t:qk}{xs:List qf}{node:Int}
theorem qvM {ls:List qm}{M:Nat}{ps:List Tplace}{lo:List Int}{de:List (List Int)}{ex:List Int}(h:LkOk ls M)(k:lv.length=ls.length):Ev (fun n=>qiG n (grV ls lv ps b lo de ex) node) (ints (selN (toQ ls lv node) ls.length)):=by
 have g:=h.len;have f:Ev (fun n=>qR node ⟨V ⟨b,ps,ls,lo,de,ex⟩,lv⟩ ⟨b,ps,ls,lo,de,ex⟩ n ([]:List Int) 0) (ints (selN (toQ ls lv node) ls.length),(ls.length:Int)):=by
  refine qnO (q:=toQ ls lv node) (Lf:=qR node ⟨V ⟨b,ps,ls,lo,de,ex⟩,lv⟩ ⟨b,ps,ls,lo,de,ex⟩) (len:=ls.length) (by omega) (Ev.succ ?_) (fun j d t i X c a=>?_)
  ·simp only[qR,qt (je _),cond_false];exact .done
  ·simp only[qR,qr d,cond_true,qy d,qy (show j<lv.length by omega),jd,qi0,i,wS j];unfold toQ lvL toL at c a;cases hq:gt lv j
   ·simp only[cond_false];exact a (by rw[hq];rfl)
   ·simp only[cond_true];cases hw:(gt ls j).To==node
    ·simp only[cond_false];exact a (by rw[hq,hw];rfl)
    ·simp only[cond_true];exact c (by rw[hq,hw];rfl)
 unfold qiG qcF grV;simp only[jd];exact Ev.bind (Ev.bind f .done) .done
def fixS (node:Int)(s:Bool×qf):Bool×qf:=bif s.1 then s else(false,⟨node,zSp,zSp⟩)
theorem qtW (h:blockB b=true)(H:SpansI b c ex f)(J:lv.length=(linksL b).length)(u:TmOk t (2*(places b.Aa).length))(N:xs.length≤1048576) :
  Ev (fun n=>qdy n (V ⟨V (viewE b ex),lv⟩) c xs t node) (ndS f (linksL b) lv t node (srcV (srcO xs node)) (linksL b).length):=by
 have x:=qjn h;have I:=x.len;have C:=qkI (q:=toQ (linksL b) lv node) (j:=(linksL b).length);have K:∀ j,(ndS f (linksL b) lv t node (srcV (srcO xs node)) j).1=true→(ndS f (linksL b) lv t node (srcV (srcO xs node)) j).2.Bi=node:=by
  intro j
  induction j with
  | zero=>
   show(srcV (srcO xs node)).1=true→(srcV (srcO xs node)).2.Bi=node;cases d:srcO xs node with
   | none=>intro e;cases e
   | some y=>exact fun _=>(qkr d).1
  | succ j ih=>
   unfold ndS;cases toQ (linksL b) lv node j
   ·exact ih
   ·simp only[cond_true];unfold stepS;cases gt t.As (frN (linksL b) j)
    ·exact ih
    ·simp only[cond_true];unfold joinS;cases (ndS f (linksL b) lv t node (srcV (srcO xs node)) j).1<;>exact fun _=>rfl
 have O:∀ j,(ndS f (linksL b) lv t node (srcV (srcO xs node)) j).1=false→(ndS f (linksL b) lv t node (srcV (srcO xs node)) j).2=zSrc:=by
  intro j
  induction j with
  | zero=>
   show(srcV (srcO xs node)).1=false→(srcV (srcO xs node)).2=zSrc;cases srcO xs node with
   | none=>exact fun _=>rfl
   | some y=>intro e;cases e
  | succ j ih=>
   unfold ndS;cases toQ (linksL b) lv node j
   ·exact ih
   ·simp only[cond_true];unfold stepS;cases gt t.As (frN (linksL b) j)
    ·exact ih
    ·simp only[cond_true];unfold joinS;cases (ndS f (linksL b) lv t node (srcV (srcO xs node)) j).1<;>(intro e;cases e)
 have D:∀ (l:List Nat) (s:Bool×qf),(∀ k,k ∈ l→toQ (linksL b) lv node k=true)→l.foldl (fun s k=>fixS node (stepS f (linksL b) t node s k)) (fixS node s)=fixS node (l.foldl (stepS f (linksL b) t node) s):=by
  intro l
  induction l with
  | nil=>intro s _;rfl
  | cons k l ih=>
   intro s L;have e:fixS node (stepS f (linksL b) t node (fixS node s) k)=fixS node (stepS f (linksL b) t node s k):=by
    unfold stepS;obtain⟨s1,s2⟩:=s;cases gt t.As (frN (linksL b) k)<;>cases s1<;>rfl
   rw[List.foldl_cons,List.foldl_cons,e];exact ih _ fun P g=>L P (jp _ g)
 have B:=(qsO (τ:=Bool×qf) (xs:=selN (toQ (linksL b) lv node) (linksL b).length) (Lf:=fun n s j=>qbt (V ⟨V (viewE b ex),lv⟩) c t (ints (selN (toQ (linksL b) lv node) (linksL b).length)) n s.1 s.2.Bi s.2.Af.Ak s.2.Af.Ar s.2.Av.Ak s.2.Av.Ar j)
  (step:=fun s k=>fixS node (stepS f (linksL b) t node s k)) (fin:=fun s=>(s.1,s.2.Bi,s.2.Af.Ak,s.2.Af.Ar,s.2.Av.Ak,s.2.Av.Ar,((ints (selN (toQ (linksL b) lv node) (linksL b).length)).length:Int))) (fixS node (srcV (srcO xs node))) (fun _ s=>s=fixS node s∧s.2.Bi=node) (by
   constructor
   ·unfold fixS;cases d:(srcV (srcO xs node)).1
    ·rfl
    ·simp only[d,cond_true]
   ·unfold fixS;cases d:srcO xs node with
    | none=>rfl
    | some y=>exact(qkr d).1)
  (fun j s p d=>by
   obtain⟨Q,F⟩:=d;have A:(stepS f (linksL b) t node s (selN (toQ (linksL b) lv node) (linksL b).length)[j]).2.Bi=node:=by
    unfold stepS;cases gt t.As (frN (linksL b) (selN (toQ (linksL b) lv node) (linksL b).length)[j])
    ·exact F
    ·unfold joinS;cases s.1<;>rfl
   constructor
   ·unfold fixS;cases d:(stepS f (linksL b) t node s (selN (toQ (linksL b) lv node) (linksL b).length)[j]).1
    ·rfl
    ·simp only[d,cond_true]
   ·unfold fixS;cases d:(stepS f (linksL b) t node s (selN (toQ (linksL b) lv node) (linksL b).length)[j]).1
    ·rfl
    ·exact A)
  (fun n s=>by simp only[qbt,qcR,qt (je _),cond_false])
  (fun j s p d X a=>by
   obtain⟨v,i⟩:=d;have hi:=qmU p;have r:(selN (toQ (linksL b) lv node) (linksL b).length)[j]<(linksL b).length:=(qkK.1 (jo p)).1;generalize (selN (toQ (linksL b) lv node) (linksL b).length)[j]=k at hi r a;obtain⟨e1,m⟩:=qqa x r;have M:idx (viewE b ex).links (k:Int)=V (gt (linksL b) k):=qy r;simp only[qbt,qcR,qr p,cond_true,hi,M,jd,e1,qy (show frN (linksL b) k<t.As.length by rw[u.r];exact m),qy (show frN (linksL b) k<t.Af.length by rw[u.a];exact m),qy (show frN (linksL b) k<t.Av.length by rw[u.s];exact m),wS j];unfold stepS at a;cases h3:gt t.As (frN (linksL b) k)
   ·rw[h3] at a;simp only[cond_false] at a;rw[←v] at a;exact a
   rw[h3] at a;simp only[cond_true] at a ⊢;obtain⟨_,s1⟩:=H k _ r (u.sl _ m);refine Ev.bind s1 ?_;generalize f k (gt t.Av (frN (linksL b) k))=q at a ⊢;simp only[qjt,jd];unfold joinS at a;unfold qfy;cases h4:s.1
   ·rw[h4] at a;simp only[Bool.not_false,cond_true,jd];unfold fixS at a;simp only[cond_false,cond_true] at a;rw[i];exact a
   ·rw[h4] at a;simp only[Jg,cond_false,qhW,jd];unfold fixS at a;simp only[cond_true] at a;rw[i];exact a)).1
 rw[D _ _ (fun k g=>(qkK.1 g).2),qtj] at B;unfold qdy;refine Ev.bind (qs9 N) ?_;have e0:(bif (srcV (srcO xs node)).1 then(qfy 0 ⟨node,⟨0,0⟩,⟨0,0⟩⟩ false ⟨(srcV (srcO xs node)).2.Af.Ak,(srcV (srcO xs node)).2.Af.Ar⟩ ⟨(srcV (srcO xs node)).2.Av.Ak,(srcV (srcO xs node)).2.Av.Ar⟩).bind (fun o=>match o with|(x9,x10)=>V (x10,x9.Bi,x9.Af.Ak,x9.Af.Ar,x9.Av.Ak,x9.Av.Ar)) else V (false,node,(0:Int),(0:Int),(0:Int),(0:Int))) =
   V ((fixS node (srcV (srcO xs node))).1,(fixS node (srcV (srcO xs node))).2.Bi,(fixS node (srcV (srcO xs node))).2.Af.Ak,(fixS node (srcV (srcO xs node))).2.Af.Ar,(fixS node (srcV (srcO xs node))).2.Av.Ak,(fixS node (srcV (srcO xs node))).2.Av.Ar):=by
  cases d:srcO xs node with
  | none=>rfl
  | some y=>
   have:=(qkr d).1;unfold fixS srcV;simp only[cond_true,this]
   rfl
 refine Ev.bindN e0 (Ev.bind (qvM (ps:=places b.Aa) (lo:=pre (load0 b) b.Ac.length) (de:=pre (exactL b) b.Ac.length) (ex:=ex) x J) (Ev.bind B ?_));have z:=O (linksL b).length;generalize ndS f (linksL b) lv t node (srcV (srcO xs node)) (linksL b).length=s at z ⊢;unfold fixS;obtain⟨s1,s2⟩:=s;cases s1
 ·have:=z Z;simp only at this;subst this;exact .done
 ·exact .done
end

theorem qjZ {b:qe}(h:blockB b=true):Ev (fun n=>qfl n b) ((2*(places b.Aa).length:Nat):Int):=by
 have a:=qX (qan h);have c:=qaQ a;unfold qfl;refine Ev.bind (b:=(places b.Aa).map toSp) (qgx a) (Ev.now ?_);rw[jv,qU (by omega) (by omega)]
 rfl
theorem qqJ {v:Tview}(a:v.places.length≤78)(n:Nat):qda n (V v)=V ((2*v.places.length:Nat):Int):=by
 unfold qda qd9;simp only[jd];rw[qU (by omega) (by omega)]
 rfl
def stepN (xs:List qf)(j:Nat):Bool:=decide (j=0) || decide ((gt xs (j-1)).Bi<(gt xs j).Bi)
def srcB (xs:List qf)(M:Nat):Bool:=allN (fun j=>inI (gt xs j).Bi 0 ((M:Int)-1)&&(stepN xs j&&(spanB (gt xs j).Af&&slewB (gt xs j).Av))) xs.length
theorem qoX {xs:List qf}{j:Nat}(h:j ≠ 0):stepN xs j=decide ((gt xs (j-1)).Bi<(gt xs j).Bi):=by unfold stepN;rw[decide_eq_false h,Bool.false_or]
theorem qpb {b:qe}{xs:List qf}(h:blockB b=true)(m:xs.length≤1048576):Ev (fun n=>qf9 n b xs) (srcB xs (2*(places b.Aa).length)):=by
 have k:=qaQ (qX (qan h));have e:=qjZ h;obtain⟨M,g⟩:∃ M,M=2*(places b.Aa).length:=⟨_,rfl⟩;rw[←g] at e ⊢;have l:M≤156:=by omega
 have i:Ev (fun n=>qbY xs (M:Int) n 0) (bif srcB xs M then .nxt (xs.length:Int) else .ret false):=by
  refine qed (Lf:=qbY xs (M:Int)) (len:=xs.length) (Ev.succ (by simp only[qbY,qt (je _),cond_false];exact .done)) (fun j f X d=>Ev.succ ?_);simp only[qbY,qr f,cond_true,qy f,jd,qcQ,qoU,qra,wS j,wO ((M:Int)-1)];cases inI (gt xs j).Bi 0 ((M:Int)-1)
  ·exact .done
  refine Ev.ff Z ?_;by_cases c:j=0
  ·subst c;refine Ev.ff Z ?_;show Ev _ (bif (stepN xs 0&&_) then X else _);rw[show stepN xs 0=true from rfl];show Ev (fun n=>bif !spanB (gt xs 0).Af then _ else bif !slewB (gt xs 0).Av then _ else _) _;cases spanB (gt xs 0).Af
   ·exact .done
   ·cases slewB (gt xs 0).Av
    ·exact .done
    ·exact d
  ·refine Ev.tt (decide_eq_true (by omega)) ?_;rw[show(j:Int)-1=((j-1:Nat):Int) by omega,qU (by omega) (by omega),qy (show j-1<xs.length by omega),qoX c];simp only[jd];by_cases a:(gt xs (j-1)).Bi<(gt xs j).Bi
   ·rw[decide_eq_true a];refine Ev.ff (decide_eq_false (by omega)) ?_;show Ev (fun n=>bif !spanB (gt xs j).Af then _ else bif !slewB (gt xs j).Av then _ else _) _;cases spanB (gt xs j).Af
    ·exact .done
    ·cases slewB (gt xs j).Av
     ·exact .done
     ·exact d
   ·rw[decide_eq_false a];exact Ev.tt (decide_eq_true (by omega)) .done
 unfold qf9;refine Ev.bind e (Ev.bind i ?_);cases srcB xs M<;>exact .done
theorem qpa {v:Tview}{xs:List qf}(h:v.places.length≤78)(k:xs.length≤1048576):Ev (fun n=>qdA n (V v) xs) (srcB xs (2*v.places.length)):=by
 have e:=qqJ h;obtain⟨M,f⟩:∃ M,M=2*v.places.length:=⟨_,rfl⟩;rw[←f] at e ⊢;have i:M≤156:=by omega
 have g:Ev (fun n=>qaX (V v) xs n 0) (bif srcB xs M then .nxt (xs.length:Int) else .ret false):=by
  refine qed (Lf:=qaX (V v) xs) (len:=xs.length) (Ev.succ (by simp only[qaX,qt (je _),cond_false];exact .done)) (fun j d X c=>Ev.succ ?_);simp only[qaX,qr d,cond_true,qy d,jd,qip,e,qdH,qnj,qq0,wS j,wO ((M:Int)-1)];cases inI (gt xs j).Bi 0 ((M:Int)-1)
  ·exact .done
  refine Ev.ff Z ?_;show Ev (fun n=>bif !spanB (gt xs j).Af then _ else bif !slewB (gt xs j).Av then _ else _) _;rw[jB,Bool.and_comm];cases spanB (gt xs j).Af
  ·exact .done
  ·cases slewB (gt xs j).Av
   ·exact .done
   ·refine Ev.ff Z (Ev.ff Z ?_);rw[jB,jB];by_cases b:j=0
    ·subst b;exact Ev.ff Z c
    ·refine Ev.tt (decide_eq_true (by omega)) ?_;rw[show(j:Int)-1=((j-1:Nat):Int) by omega,qU (by omega) (by omega),qy (show j-1<xs.length by omega),qoX b];simp only[jd];by_cases a:(gt xs (j-1)).Bi<(gt xs j).Bi
     ·rw[decide_eq_true a];exact Ev.ff (decide_eq_false (by omega)) c
     ·rw[decide_eq_false a];exact Ev.tt (decide_eq_true (by omega)) .done
 unfold qdA;refine Ev.bind g ?_;cases srcB xs M<;>exact .done
theorem qoA {xs:List qf}{M:Nat}(f:xs.length≤1048576)(h:srcB xs M=true):SrcOk xs:=by
 unfold srcB at h;rw[qai] at h;refine⟨f,fun j=>?_,fun x g=>?_⟩
 ·induction j with
  | zero=>intro i hi _;omega
  | succ j ih=>
   intro i hi d;have a:=h (j+1) d;rw[qoX (by omega)] at a;simp only[jf,decide_eq_true_eq,Nat.add_sub_cancel] at a;have c:=a.2.1;by_cases b:i=j
   ·rw[b];exact c
   ·have:=ih i (by omega) (by omega);omega
 ·obtain⟨i,hi,rfl⟩:=List.mem_iff_getElem.1 g;have a:=h i hi;rw[←qdz hi];simp only[jf] at a;have:=a.2.2.2;unfold slewB at this;simp only[jf,decide_eq_true_eq] at this;exact⟨⟨this.1,by omega⟩,by omega,this.2.2⟩
section
variable {L:Nat}{fr to:Nat→Int}{lv:Nat→Bool}{n:Nat}
def OrdOk (L:Nat)(fr to:Nat→Int)(lv:Nat→Bool)(n:Nat)(R:List Nat):Prop:=∀ l1 k l2,R=l1++k::l2→k<n∧k ∉ l1∧inN L fr to lv l1 k=0
theorem OrdOk.snoc {R:List Nat}{k:Nat}(h:OrdOk L fr to lv n R)(d:nxtN L fr to lv n R=V k):OrdOk L fr to lv n (R++[k]):=by
 intro l1 a l2 e;rcases List.eq_nil_or_concat l2 with rfl|⟨l2',z,rfl⟩
 ·obtain⟨rfl,c⟩:=List.append_inj' e Z;obtain rfl:k=a:=by simpa using c
  exact qnx d
 ·have b:R++[k]=(l1++a::l2')++[z]:=by rw[e];simp
  obtain⟨e1,_⟩:=List.append_inj' b Z;exact h l1 a l2' e1
theorem qul:∀ m R R',OrdOk L fr to lv n R→ordN L fr to lv n m R=V R'→OrdOk L fr to lv n R':=by
 intro m
 induction m with
 | zero=>intro R R' h e;obtain rfl:=Option.some.inj e;exact h
 | succ m ih=>
  intro R R' h e;unfold ordN at e;cases hn:nxtN L fr to lv n R with
  | none=>rw[hn] at e;cases e
  | some k=>
   rw[hn] at e;exact ih _ _ (h.snoc hn) e
theorem OrdOk.at {R:List Nat}(h:OrdOk L fr to lv n R){j:Nat}(a:j<R.length):R[j]<n∧R[j] ∉ R.take j∧inN L fr to lv (R.take j) R[j]=0:=by
 refine h (R.take j) R[j] (R.drop (j+1)) ?_;rw[←jQ a,List.take_append_drop]
end
theorem qnE {α:Type}[Inhabited α]{xs:List α}{k:Nat}{v:α}(a:k<xs.length)(h:gt xs k=v):setS xs (k:Int) v=xs:=by
 unfold setS;rw[jr,←h,qdz a];exact List.set_getElem_self a
theorem qfa {α:Type}[Inhabited α]{xs:List α}{a k:Nat}{y:α}(b:a<xs.length):gt (setS xs (a:Int) y) k=if k=a then y else gt xs k:=by
 unfold setS;rw[jr];by_cases h:k=a
 ·subst h;rw[if_pos Z,qn6 b]
 ·rw[if_neg h,qpJ h]
def setT (t:qk)(k:Nat)(s:Bool×qf):qk:=⟨setS t.As (k:Int) s.1,setS t.Af (k:Int) s.2.Af,setS t.Av (k:Int) s.2.Av⟩
theorem qmf {t:qk}{M k:Nat}{s:Bool×qf}(h:TmOk t M)(c:k<M)(d:slR s.2.Av):TmOk (setT t k s) M where
 r:=by show(setS _ _ _).length=_;rw[qbd];exact h.r
 a:=by show(setS _ _ _).length=_;rw[qbd];exact h.a
 s:=by show(setS _ _ _).length=_;rw[qbd];exact h.s
 sl:=fun j b=>by
  show slR (gt (setS _ _ _) j);rw[qfa (by rw[h.s];exact c)];split
  ·exact d
  ·exact h.sl j b
def Bare (t:qk)(M:Nat)(l:List Nat):Prop:=∀ k,k<M→k ∉ l→gt t.As k=false∧gt t.Af k=zSp∧gt t.Av k=zSp
def zT:qk:=⟨[],[],[]⟩
theorem qtV:slR zSp:=by unfold slR zSp;exact⟨⟨jR _,by show(0:Int)≤_;omega⟩,jR _,by show(0:Int)≤_;omega⟩
theorem qus {s t:qh}(a:slR s)(b:slR t):slR (hullS s t):=by
 obtain⟨⟨a1,a2⟩,c,d⟩:=a;obtain⟨⟨b1,b2⟩,b3,f⟩:=b;refine⟨⟨?_,?_⟩,?_,?_⟩
 ·show(0:Int)≤(if t.Ak<s.Ak then t.Ak else s.Ak);split<;>assumption
 ·show(if t.Ak<s.Ak then t.Ak else s.Ak)≤1000000;split<;>assumption
 ·show(0:Int)≤(if t.Ar > s.Ar then t.Ar else s.Ar);split<;>assumption
 ·show(if t.Ar > s.Ar then t.Ar else s.Ar)≤1000000;split<;>assumption
section
variable {b:qe}{c:qv}{ex:List Int}{f g:Nat→qh→qh×qh}{lv:List Bool}{t:qk}{xs:List qf}{node:Int}
theorem qjq (h:blockB b=true)(m:SpansS b c g)(i:∀ k s,(f k s).2=(g k s).2)(n:TmOk t (2*(places b.Aa).length))(o:SrcOk xs):∀ j,j≤(linksL b).length→slR (ndS f (linksL b) lv t node (srcV (srcO xs node)) j).2.Av:=by
 intro j
 induction j with
 | zero=>
  intro _;show slR (srcV (srcO xs node)).2.Av;cases hs:srcO xs node with
  | none=>exact qtV
  | some y=>exact o.sl y (qkr hs).2
 | succ j a=>
  intro p;have a:=a (by omega);obtain⟨_,l⟩:=qqa (qjn h) (show j<(linksL b).length by omega);have d:=(m j _ (show j<(linksL b).length by omega) (n.sl _ l)).1;rw[←i] at d;show slR (bif toQ (linksL b) lv node j then stepS f (linksL b) t node (ndS f (linksL b) lv t node (srcV (srcO xs node)) j) j else ndS f (linksL b) lv t node (srcV (srcO xs node)) j).2.Av;cases toQ (linksL b) lv node j
  ·exact a
  ·simp only[cond_true];unfold stepS;cases gt t.As (frN (linksL b) j)
   ·exact a
   ·simp only[cond_true];unfold joinS;cases (ndS f (linksL b) lv t node (srcV (srcO xs node)) j).1
    ·exact d
    ·exact qus a d
theorem qud:∀ j,(ndS f (linksL b) lv t node (srcV (srcO xs node)) j).1=false→(ndS f (linksL b) lv t node (srcV (srcO xs node)) j).2=zSrc:=by
 intro j
 induction j with
 | zero=>
  show(srcV (srcO xs node)).1=false→(srcV (srcO xs node)).2=zSrc;cases srcO xs node with
  | none=>exact fun _=>rfl
  | some y=>intro e;cases e
 | succ j ih=>
  unfold ndS;cases toQ (linksL b) lv node j
  ·exact ih
  ·simp only[cond_true];unfold stepS;cases gt t.As (frN (linksL b) j)
   ·exact ih
   ·simp only[cond_true];unfold joinS;cases (ndS f (linksL b) lv t node (srcV (srcO xs node)) j).1<;>(intro e;cases e)
def runR (o:Option qk):qk×Bool:=match o with|some t=>(t,true)|none=>(zT,false)
def rnO (f:Nat→qh→qh×qh)(ls:List qm)(lv:List Bool)(xs:List qf):List Nat→qk→Option qk
 | [],t=>V t
 | k::R,t=>bif (ndS f ls lv t (k:Int) (srcV (srcO xs (k:Int))) ls.length).1 then bif spanB (ndS f ls lv t (k:Int) (srcV (srcO xs (k:Int))) ls.length).2.Af then rnO f ls lv xs R (setT t k (ndS f ls lv t (k:Int) (srcV (srcO xs (k:Int))) ls.length)) else U else rnO f ls lv xs R t
def zTm (M:Nat):qk:=⟨List.replicate M false,List.replicate M zSp,List.replicate M zSp⟩
theorem qmK {α:Type}[Inhabited α]{v:α}{M k:Nat}(a:k<M):gt (List.replicate M v) k=v:=by rw[qdz (by rw[jC];exact a)];simp
theorem qlB {M:Nat}:TmOk (zTm M) M:=⟨jC,jC,jC,fun k a=>by
 show slR (gt (List.replicate M zSp) k);rw[qmK a];exact qtV⟩
theorem qtp {M:Nat}{l:List Nat}:Bare (zTm M) M l:=fun k a _=>⟨qmK a,qmK a,qmK a⟩
def runL (o:Option qk)(m:Nat):Flow (qk×Bool) (List qh×List qh×List Bool×Int):=match o with|some t'=>.nxt (t'.Av,t'.Af,t'.As,(m:Int))|none=>.ret (zT,false)
theorem qqf (h:blockB b=true)(hg:SpansS b c g)(H:∀ k s,(f k s).2=(g k s).2)(hf:SpansI b c ex f)(hl:lv.length=(linksL b).length)(P:SrcOk xs){R:List Nat}(Y:∀ j,∀ O:j<R.length,R[j]<2*(places b.Aa).length∧R[j] ∉ R.take j)(a3:R.length≤1000) :
  Ev (fun n=>qcw n (V ⟨V (viewE b ex),lv⟩) c xs (ints R)) (runR (rnO f (linksL b) lv xs R (zTm (2*(places b.Aa).length)))):=by
 have L:=qaQ (qX (qan h));have r:=qqJ (v:=viewE b ex) L;have D:(viewE b ex).places.length=(places b.Aa).length:=rfl;rw[D] at r;obtain⟨M,B⟩:∃ M,M=2*(places b.Aa).length:=⟨_,rfl⟩;have hM:M≤156:=by omega
 have A:∀ d j t,j+d=R.length→TmOk t M→Bare t M (R.take j)→Ev (fun n=>qaY (V ⟨V (viewE b ex),lv⟩) c xs (ints R) n t.Av t.Af t.As (j:Int)) (runL (rnO f (linksL b) lv xs (R.drop j) t) R.length):=by
  intro d
  induction d with
  | zero=>
   intro j t O a _;obtain rfl:j=R.length:=by omega
   rw[List.drop_length];refine Ev.succ ?_;simp only[qaY,qcR,qt (je _),cond_false];exact .done
  | succ d ih=>
   intro j t O a F;have m:j<R.length:=by omega
   obtain⟨l,S⟩:=Y j m;have hi:=qmU m;have x:R.take (j+1)=R.take j++[R[j]]:=jE m;have N:R.drop j=R[j]::R.drop (j+1):=jQ m;generalize R[j]=k at l S hi x N;rw[←B] at l;have C:=qtW (node:=(k:Int)) h hf hl (by rw[←B];exact a) P.len;have z:=qjq (node:=(k:Int)) (lv:=lv) h hg H (by rw[←B];exact a) P (linksL b).length (je _);have Q:=qud (f:=f) (b:=b) (lv:=lv) (t:=t) (xs:=xs) (node:=(k:Int)) (linksL b).length;obtain⟨b1,b2,b3⟩:=F k l S;have ir:idx t.As (k:Int)=V (gt t.As k):=qy (by rw[a.r];exact l);have ia:idx t.Af (k:Int)=V (gt t.Af k):=qy (by rw[a.a];exact l);have is:idx t.Av (k:Int)=V (gt t.Av k):=qy (by rw[a.s];exact l);have y:∀ n,qaY (V ⟨V (viewE b ex),lv⟩) c xs (ints R) (n+1) t.Av t.Af t.As (j:Int)=(qdy n (V ⟨V (viewE b ex),lv⟩) c xs t (k:Int)).bind fun o=>match o with
    | (r3,r4)=>(bif r3 then V (!spanB r4.Af) else V false).bind fun b3=>bif b3 then V (.ret (zT,false)) else
     qaY (V ⟨V (viewE b ex),lv⟩) c xs (ints R) n (setS t.Av (k:Int) r4.Av) (setS t.Af (k:Int) r4.Af) (setS t.As (k:Int) r3) ((j+1:Nat):Int):=fun n=>by
    simp only[qaY,qcR,qr m,cond_true,hi,jd,qnj,ir,ia,is,wS j]
    rfl
   rw[N];unfold rnO;generalize ndS f (linksL b) lv t (k:Int) (srcV (srcO xs (k:Int))) (linksL b).length=s at C z Q ⊢;obtain⟨s1,s2⟩:=s;cases s1
   ·have:=Q Z;simp only at this;subst this;have e1:setS t.Av (k:Int) zSrc.Av=t.Av:=qnE (by rw[a.s];exact l) b3;have W:setS t.Af (k:Int) zSrc.Af=t.Af:=qnE (by rw[a.a];exact l) b2;have X:setS t.As (k:Int) false=t.As:=qnE (by rw[a.r];exact l) b1;refine Ev.step y (Ev.bind C ?_);simp only[cond_false,jd,e1,W,X];exact ih (j+1) t (by omega) a (fun i hi p=>F i hi (fun I=>p (by rw[x];exact jL _ I)))
   ·cases hsp:spanB s2.Af
    ·refine Ev.step y (Ev.bind C ?_);simp only[hsp];exact .done
    ·refine Ev.step y (Ev.bind C ?_);simp only[hsp];refine ih (j+1) (setT t k (true,s2)) (by omega) (qmf a l z) (fun i hi p=>?_);rw[x] at p;have u:i ≠ k:=fun e=>p (jX _ (List.mem_singleton.2 e));have:=F i hi (fun I=>p (jL _ I));refine⟨?_,?_,?_⟩
     ·show gt (setS _ _ _) i=_;rw[qfa (by rw[a.r];exact l),if_neg u];exact this.1
     ·show gt (setS _ _ _) i=_;rw[qfa (by rw[a.a];exact l),if_neg u];exact this.2.1
     ·show gt (setS _ _ _) i=_;rw[qfa (by rw[a.s];exact l),if_neg u];exact this.2.2
 have J:mkS (M:Int) false=V (List.replicate M false):=qjX (by omega);have K:mkS (M:Int) (⟨0,0⟩:qh)=V (List.replicate M zSp):=qjX (by omega);have T:=A R.length 0 (zTm M) (by omega) qlB qtp;rw[List.drop_zero] at T;rw[←B] at r ⊢;unfold qcw qg8;simp only[jd,r,J,K];refine Ev.bind T ?_;cases rnO f (linksL b) lv xs R (zTm M)<;>exact .done
end

abbrev lkB (b:qe):Nat:=(linksL b).length
abbrev ndB (b:qe):Nat:=2*(places b.Aa).length
abbrev lvJ (b:qe)(br:List Int):List Bool:=lvB br (lkB b)
def grB (b:qe)(br:List Int):Option Tgraph:=V ⟨V (viewV b),lvJ b br⟩
structure TgOk (b:qe)(c:qv)(br:List Int)(xs:List qf)(R:List Nat):Prop where
 bl:blockB b=true
 co:cornerB c=true
 br_:brB br (lkB b)=true
 sr:srcB xs (ndB b)=true
 or_:ordL (linksL b) (lvJ b br) (ndB b) (ndB b) []=V R
theorem TgOk.ord {b:qe}{c:qv}{br:List Int}{xs:List qf}{R:List Nat}(h:TgOk b c br xs R):OrdOk (lkB b) (frL (linksL b)) (toL (linksL b)) (lvL (lvJ b br)) (ndB b) R:=
 qul (ndB b) [] R (fun l1 k l2 e=>by cases l1<;>cases e) h.or_
theorem TgOk.len {b:qe}{c:qv}{br:List Int}{xs:List qf}{R:List Nat}(h:TgOk b c br xs R):R.length=ndB b:=by
 have:=qtf (ndB b) [] R h.or_;simpa using this
theorem qr6 {x:Int}(h:x ≠ 0):(x != 0)=true:=by simpa using h
theorem qvO {b:qe}{c:qv}{br:List Int}{xs:List qf}(B:qha b)(H:okS c.Ba)(a:br.length≤1048576)(m:xs.length≤1048576) :
  (∃ code:Int,code ≠ 0∧Ev (fun n=>qfT n b c br xs) ([],code)∧Ev (fun n=>qbP n b c br xs U) (U,[],code)) ∨
  ∃ R,TgOk b c br xs R∧Ev (fun n=>qfT n b c br xs) (ints R,0)∧Ev (fun n=>qbP n b c br xs U) (grB b br,ints R,0):=by
 have s1:=qgu B;have k:=qmE B;have s2:=qk7 (c:=c) H;have s:=qlX (c:=c) H;unfold qfT qbP;cases h1:blockB b
 ·rw[h1] at s1 k;exact .inl ⟨1,by omega,Ev.bind (b:=true) (Ev.bind s1 (Ev.tt Z .done)) (Ev.tt Z .done),Ev.bind (b:=true) (Ev.bind k (Ev.tt Z .done)) (Ev.tt Z .done)⟩
 cases h2:cornerB c
 ·rw[h1] at s1 k;rw[h2] at s2 s;exact .inl ⟨1,by omega,Ev.bind (b:=true) (Ev.bind s1 (Ev.ff Z (Ev.bind s2 .done))) (Ev.tt Z .done),Ev.bind (b:=true) (Ev.bind k (Ev.ff Z (Ev.bind s .done))) (Ev.tt Z .done)⟩
 have C:=qaQ (qX (qan h1));have d:=qjw h1;have I:=qjn h1;have i:=qrx (br:=br) B h1 a;have f:=qrd (v:=viewV b) (br:=br) a d;have y:=qpb (xs:=xs) h1 m;have p:=qpa (v:=viewV b) (xs:=xs) C m;have F:(viewV b).links=linksL b:=rfl;have M:(viewV b).places=places b.Aa:=rfl;rw[F] at f;rw[M] at p;rw[h1] at s1 k;rw[h2] at s2 s;have A:Ev (fun n=>(qcH n b).bind fun g=>bif (!g) then V true else(qfo n c).bind fun h=>V (!h)) false:=Ev.bind s1 (Ev.ff Z (Ev.bind s2 .done));have u:Ev (fun n=>(qf0 n b).bind fun g=>bif (!g) then V true else(qfs n c).bind fun h=>V (!h)) false:=Ev.bind k (Ev.ff Z (Ev.bind s .done));have x:=qrv h1;cases h3:brB br (lkB b)
 ·rw[h3] at i f;exact .inl ⟨2,by omega,Ev.bind A (Ev.ff Z (Ev.bind (b:=true) (Ev.bind i (Ev.tt Z .done)) (Ev.tt Z .done))),
   Ev.bind u (Ev.ff Z (Ev.bind x (Ev.bind (b:=false) (Ev.ff Z .done) (Ev.ff Z (Ev.bind (b:=true) (Ev.bind f (Ev.tt Z .done)) (Ev.tt Z .done))))))⟩
 cases h4:srcB xs (ndB b)
 ·rw[h3] at i f;rw[h4] at y p;exact .inl ⟨2,by omega,Ev.bind A (Ev.ff Z (Ev.bind (b:=true) (Ev.bind i (Ev.ff Z (Ev.bind y .done))) (Ev.tt Z .done))),
   Ev.bind u (Ev.ff Z (Ev.bind x (Ev.bind (b:=false) (Ev.ff Z .done) (Ev.ff Z (Ev.bind (b:=true) (Ev.bind f (Ev.ff Z (Ev.bind p .done))) (Ev.tt Z .done))))))⟩
 have D:=qrs (v:=viewV b) (br:=br) d h3;rw[F] at D;have Q:=qmL (ls:=linksL b) (br:=br) d a;have l:(lvJ b br).length=lkB b:=qka;have z:=qsr (lv:=lvJ b br) I l;have t:=qsU (b:=b) (ps:=places b.Aa) (lo:=pre (load0 b) b.Ac.length) (de:=pre (exactL b) b.Ac.length) (ex:=[]) (lv:=lvJ b br) I l Z;rw[h3] at i f;rw[h4] at y p;have K:Ev (fun n=>(qgL n b br).bind fun O=>bif (O != 0) then V true else(qf9 n b xs).bind fun P=>V (!P)) false:=Ev.bind i (Ev.ff Z (Ev.bind y .done));have J:Ev (fun n=>(qez n (V (viewV b)) br).bind fun g=>bif (!g) then V true else(qdA n (V (viewV b)) xs).bind fun h=>V (!h)) false:=Ev.bind f (Ev.ff Z (Ev.bind p .done));have L:∀ r:List Int×Int,Ev (fun n=>(qhf n (ndB b:Int) (linksL b) (lvJ b br)).bind fun o=>match o with|(g,h)=>bif (!h) then V (([]:List Int),(7:Int)) else V (g,0)) r→Ev (fun n=>qeK n b br) r:=fun r N=>by
  unfold qeK;exact Ev.bind i (Ev.ff Z (Ev.bind (qiP h1) (Ev.bind (qjZ h1) (Ev.bind Q N))))
 cases ho:ordL (linksL b) (lvJ b br) (ndB b) (ndB b) [] with
 | none=>
  have e:ordR (linksL b) (lvJ b br) (ndB b)=([],false):=by unfold ordR;rw[ho]
  rw[e] at z t;exact .inl ⟨7,by omega,Ev.bind A (Ev.ff Z (Ev.bind K (Ev.ff Z (Ev.bind (L ([],7) (Ev.bind z (Ev.tt Z .done))) .done)))),
   Ev.bind u (Ev.ff Z (Ev.bind x (Ev.bind (b:=false) (Ev.ff Z .done) (Ev.ff Z (Ev.bind J (Ev.ff Z (Ev.bind D (Ev.bind t (Ev.tt Z .done)))))))))⟩
 | some R=>
  have e:ordR (linksL b) (lvJ b br) (ndB b)=(ints R,true):=by unfold ordR;rw[ho]
  rw[e] at z t;exact .inr ⟨R,⟨h1,h2,h3,h4,ho⟩,Ev.bind A (Ev.ff Z (Ev.bind K (Ev.ff Z (Ev.bind (L (ints R,0) (Ev.bind z (Ev.ff Z .done))) .done)))),
   Ev.bind u (Ev.ff Z (Ev.bind x (Ev.bind (b:=false) (Ev.ff Z .done) (Ev.ff Z (Ev.bind J (Ev.ff Z (Ev.bind D (Ev.bind t (Ev.ff Z .done)))))))))⟩
structure WkOk (j:qqA)(t:qk)(R:List Nat):Prop where
 tg:TgOk j.Br j.Cb j.Bz j.Bx R
 tm:TmOk t (ndB j.Br)

def sdL (ls:List qm)(fw:Bool)(k:Nat):Int:=bif fw then frL ls k else toL ls k
def tdL (ls:List qm)(fw:Bool)(k:Nat):Int:=bif fw then toL ls k else frL ls k
structure ReachI (ls:List qm)(lv:List Bool)(M:Nat)(fw:Bool)(v:Nat)(x:List Bool):Prop where
 len:x.length=M
 self:gt x v=true
 wit:∀ j,j<M→gt x j=true→j=v∨∃ k a:Nat,k<ls.length∧gt lv k=true∧sdL ls fw k=(a:Int)∧a<M∧gt x a=true∧tdL ls fw k=(j:Int)
def ShutI (ls:List qm)(lv:List Bool)(fw:Bool)(x:List Bool)(k:Nat):Prop:=gt lv k=true→∀ a b:Nat,sdL ls fw k=(a:Int)→tdL ls fw k=(b:Int)→gt x a=true→gt x b=true
theorem qsJ {x:List Bool}:x.countP id≤x.length:=List.countP_le_length
theorem qss {x:List Bool}{c:Nat}(a:c<x.length)(h:gt x c=false):(setS x (c:Int) true).countP id=x.countP id+1:=by
 have e:setS x (c:Int) true=x.set c true:=by unfold setS;rw[jr]
 rw[e];have:x[c]=false:=by rw[←qdz a];exact h
 clear e h
 induction x generalizing c with
 | nil=>cases a
 | cons y x ih=>
  cases c with
  | zero=>
   have d:y=false:=this;subst d;simp
  | succ c=>
   have b:c<x.length:=by simpa using a
   have:=ih b (by simpa using this);rw[List.set_cons_succ,List.countP_cons,List.countP_cons,this];omega
section
variable {ls:List qm}{lv:List Bool}{M:Nat}
theorem qtX (h:LkOk ls M){k:Nat}(c:k<ls.length)(fw:Bool):∃ a b:Nat,sdL ls fw k=(a:Int)∧tdL ls fw k=(b:Int)∧a<M∧b<M:=by
 have d:=h.fr0 k c;have f1:=h.fr1 k c;have f:=h.to0 k c;have g:=h.to1 k c;cases fw
 ·exact⟨(gt ls k).To.toNat,(gt ls k).Bd.toNat,qfm f,qfm d,by omega,by omega⟩
 ·exact⟨(gt ls k).Bd.toNat,(gt ls k).To.toNat,qfm d,qfm f,by omega,by omega⟩
theorem qvz (h:LkOk ls M)(S:lv.length=ls.length){fw:Bool}{v:Nat}:∀ (d k:Nat) (x:List Bool) (b:Bool),k+d=ls.length→ReachI ls lv M fw v x→(b=false→∀ j,j<k→ShutI ls lv fw x j) →
  EvQ (fun n=>qdh ls lv fw n x b (k:Int)) (fun o=>ReachI ls lv M fw v o.1∧(o.2.1=false→∀ j,j<ls.length→ShutI ls lv fw o.1 j)∧x.countP id≤o.1.countP id∧(o.2.1=true→b=true∨x.countP id<o.1.countP id)):=by
 have Q:=h.len;intro d
 induction d with
 | zero=>
  intro k x b P g s;refine EvQ.succ ?_;simp only[qdh];refine EvQ.ff (qt (by omega)) (EvQ.done ⟨g,fun e j u=>s e j (by omega),je _,fun e=>.inl e⟩)
 | succ d ih=>
  intro k x b P g s;have f:k<ls.length:=by omega
  obtain⟨p,q,z,C,I,R⟩:=qtX h f fw;refine EvQ.succ ?_;simp only[qdh,wS k];refine EvQ.tt (qr f) (EvQ.bindN (qy f) (EvQ.bindN (qy f) (EvQ.bindN (b:=((p:Int),(q:Int))) (by rw[←z,←C];cases fw<;>rfl) ?_)));have B:p<x.length:=by rw[g.len];exact I
  have c:q<x.length:=by rw[g.len];exact R
  refine EvQ.bindN (b:=gt lv k&&(gt x p&&!gt x q)) (by rw[qy (show k<lv.length by omega),qy B,qy c];simp only[jd];cases gt lv k<;>cases gt x p<;>rfl) ?_;refine EvQ.bif (fun i=>?_) (fun i=>?_)
  ·simp only[jf,jD] at i;obtain⟨c1,r,F⟩:=i;have A:p ≠ q:=fun e=>by rw[e,F] at r;cases r
   have H:=qss c F;refine EvQ.bindN (qy c) ((ih (k+1) (setS x (q:Int) true) true (by omega) ⟨by rw[qbd];exact g.len,?_,fun j u l=>?_⟩ (fun e=>by cases e)).mono fun o m=>⟨m.1,m.2.1,by have:=m.2.2.1;omega,fun _=>.inr (by have:=m.2.2.1;omega)⟩)
   ·rw[qfa c];split
    ·rfl
    ·exact g.self
   ·by_cases e:j=q
    ·exact .inr ⟨k,p,f,c1,z,I,by rw[qfa c,if_neg A];exact r,by rw[C,e]⟩
    ·rw[qfa c,if_neg e] at l;rcases g.wit j u l with e2|⟨k',a,w1,w2,w3,w4,w5,w6⟩
     ·exact .inl e2
     ·exact .inr ⟨k',a,w1,w2,w3,w4,by rw[qfa c];split;rfl;exact w5,w6⟩
  ·refine ih (k+1) x b (by omega) g (fun e j u=>?_);by_cases N:j=k
   ·subst N;intro y a J O t D;rw[z] at O;rw[C] at t;have K:p=a:=by omega
    have L:q=J:=by omega
    subst K;subst L;rw[y,D] at i;simpa using i
   ·exact s e j (by omega)
theorem qr5 (h:LkOk ls M)(t:lv.length=ls.length){fw:Bool}{v:Nat}(y:v<M):EvQ (fun n=>qhi n (M:Int) ls lv (v:Int) fw) (fun x=>ReachI ls lv M fw v x∧∀ j,j<ls.length→ShutI ls lv fw x j):=by
 have A:=h.nodes;have f:∀ (d:Nat) (x:List Bool),M<x.countP id+d→ReachI ls lv M fw v x→EvQ (fun n=>qeo ls lv fw n x true) (fun o=>ReachI ls lv M fw v o.1∧∀ j,j<ls.length→ShutI ls lv fw o.1 j):=by
  intro d
  induction d with
  | zero=>
   intro x s l;have:=qsJ (x:=x);rw[l.len] at this;omega
  | succ d ih=>
   intro x s l;refine EvQ.succ ?_;simp only[qeo,cond_true];refine EvQ.bind (qvz h t ls.length 0 x false (by omega) l (fun _ j k=>absurd k (Nat.not_lt_zero _))) ?_;rintro⟨z,b3,i⟩ ⟨g,m,r,p⟩;dsimp only at g m r p ⊢;cases b3
   ·refine EvQ.succ ?_;simp only[qeo,cond_false];exact EvQ.done ⟨g,m Z⟩
   ·rcases p rfl with e|e
    ·cases e
    ·exact ih z (by omega) g
 unfold qhi;have a:v<(pre (fun _=>false) M).length:=by rw[qj1];exact y
 refine EvQ.bindN (qkM (by omega)) (EvQ.bindN (qy a) (EvQ.bind (f (M+1) _ (by omega) ⟨by rw[qbd,qj1],by rw[qfa a,if_pos Z],fun j k c=>?_⟩) ?_))
 ·refine .inl ?_;refine Classical.byContradiction fun e=>?_;rw[qfa a,if_neg e,qtP k] at c;cases c
 ·rintro⟨x,b⟩ u;exact EvQ.done u
def SelfL (ls:List qm)(lv:List Bool)(v:Nat):Prop:=∃ k,k<ls.length∧gt lv k=true∧frL ls k=(v:Int)∧toL ls k=(v:Int)
structure LoopI (ls:List qm)(lv:List Bool)(M:Nat)(l:List Int):Prop where
 ex:∃(v:Nat) (there back:List Bool),v<M∧(ReachI ls lv M true v there∧∀ j,j<ls.length→ShutI ls lv true there j)∧(ReachI ls lv M false v back∧∀ j,j<ls.length→ShutI ls lv false back j) ∧
  l=ints (selN (fun w=>gt there w&&gt back w) M)∧(1<l.length∨SelfL ls lv v)
theorem qvD (h:LkOk ls M)(p:lv.length=ls.length){v:Nat}:EvQ (fun n=>qi8 n ls lv (v:Int)) (fun r=>r=true→SelfL ls lv v):=by
 have l:=h.len;have b:∀ d k,k+d=ls.length→EvQ (fun n=>qdb ls lv (v:Int) n (k:Int)) (fun o=>∀ r,o=.ret r→SelfL ls lv v):=by
  intro d
  induction d with
  | zero=>
   intro k i;refine EvQ.succ ?_;simp only[qdb];exact EvQ.ff (qt (by omega)) (EvQ.done fun r m=>by cases m)
  | succ d ih=>
   intro k i;have a:k<ls.length:=by omega
   refine EvQ.succ ?_;simp only[qdb,wS k];refine EvQ.tt (qr a) (EvQ.bindN (qy (show k<lv.length by omega)) (EvQ.bif (fun c=>EvQ.bindN (qy a) (EvQ.bif (fun f=>EvQ.bindN (qy a) (EvQ.bif (fun g=>EvQ.done fun _ _=>⟨k,a,c,beq_iff_eq.1 f,beq_iff_eq.1 g⟩) (fun _=>ih (k+1) (by omega)))) (fun _=>ih (k+1) (by omega)))) (fun _=>ih (k+1) (by omega))))
 unfold qi8;refine EvQ.bind (b ls.length 0 (by omega)) ?_;rintro(r|x) ho
 ·exact EvQ.done fun _=>ho r Z
 ·exact EvQ.done fun e=>by cases e
theorem quf (h:LkOk ls M)(t:lv.length=ls.length):EvQ (fun n=>qiz n (M:Int) ls lv) (fun o=>∀ l,l ∈ o→LoopI ls lv M l):=by
 have L:=h.nodes;have k:∀ {a back:List Bool},a.length=M→back.length=M→∀ d j p f,j+d=M→p=ints (selN (fun w=>gt a w&&gt back w) j)→f.length=M →
   EvQ (fun n=>qds (M:Int) a back n p f (j:Int)) (fun o=>o.1=ints (selN (fun w=>gt a w&&gt back w) M)∧o.2.1.length=M):=by
  intro a back z y d
  induction d with
  | zero=>
   intro j p f D s x;obtain rfl:j=M:=by omega
   refine EvQ.succ ?_;simp only[qds];exact EvQ.ff (qt (je _)) (EvQ.done ⟨s,x⟩)
  | succ d ih=>
   intro j p f D s x;refine EvQ.succ ?_;simp only[qds,wS j];refine EvQ.tt (qr (by omega)) (EvQ.bindN (b:=gt a j&&gt back j) (by rw[qy (show j<a.length by omega),qy (show j<back.length by omega)];simp only[jd];cases gt a j<;>rfl) ?_);have e:=qkO (q:=fun w=>gt a w&&gt back w) (j:=j);have J:(selN (fun w=>gt a w&&gt back w) j).length≤j:=qkI;refine EvQ.bif (fun g=>?_) (fun g=>?_)
   ·refine EvQ.bindN (qce (by rw[s,qcR];omega)) (EvQ.bindN (qy (show j<f.length by omega)) (ih (j+1) _ _ (by omega) ?_ (by rw[qbd];exact x)));rw[e,g,cond_true,s];unfold ints;rw[jT];rfl
   ·refine ih (j+1) _ _ (by omega) ?_ x;rw[e,g,cond_false,Jc,s]
 have v:∀ d j m c,j+d=M→m.length=M→c.length≤j→(∀ l,l ∈ c→LoopI ls lv M l) →
   EvQ (fun n=>qct (M:Int) ls lv n m c (j:Int)) (fun o=>∀ l,l ∈ o.2.1→LoopI ls lv M l):=by
  intro d
  induction d with
  | zero=>
   intro j m c D B F u;refine EvQ.succ ?_;simp only[qct];exact EvQ.ff (qt (by omega)) (EvQ.done u)
  | succ d ih=>
   intro j m c D B F u;refine EvQ.succ ?_;simp only[qct,wS j];refine EvQ.tt (qr (by omega)) (EvQ.bindN (qy (show j<m.length by omega)) (EvQ.bif (fun _=>ih (j+1) m c (by omega) B (by omega) u) (fun _=>?_)));refine EvQ.bind (qr5 h t (fw:=true) (show j<M by omega)) (fun a z=>?_);refine EvQ.bind (qr5 h t (fw:=false) (show j<M by omega)) (fun back y=>?_);refine EvQ.bind (k z.1.len y.1.len M 0 [] m (by omega) Z B) ?_;rintro⟨p,f,i⟩ ⟨A,l5⟩;dsimp only at A l5 ⊢;refine EvQ.bind (R:=fun r=>r=true→LoopI ls lv M p) (EvQ.bif (fun g=>EvQ.done fun _=>⟨j,a,back,by omega,z,y,A,.inl (by have:=of_decide_eq_true g;omega)⟩) (fun _=>EvQ.bind (qvD h t) (fun r I=>EvQ.done fun e=>⟨j,a,back,by omega,z,y,A,.inr (I e)⟩))) (fun K C=>?_);refine EvQ.bif (fun g=>?_) (fun _=>ih (j+1) f c (by omega) l5 (by omega) u);exact EvQ.bindN (qce (by omega)) (ih (j+1) f _ (by omega) l5 (by rw[jg,ji];omega) (qbL u (C g)))
 unfold qiz;refine EvQ.bindN (qkM (by omega)) (EvQ.bind (v M 0 (pre (fun _=>false) M) [] (by omega) qj1 (je _) (fun _ t=>by cases t)) ?_);rintro⟨_,c,_⟩ H;exact EvQ.done H
theorem qsC (h:LkOk ls M)(y:∀ k k',k<ls.length→k'<ls.length→(gt ls k).Au ≠ 1→(gt ls k').Au ≠ 1→toL ls k ≠ frL ls k'){l:List Int}(I:LoopI ls lv M l) :
  ∃ k,k<ls.length∧gt lv k=true∧(gt ls k).Au=1∧frL ls k ∈ l∧toL ls k ∈ l:=by
 obtain⟨v,c,back,J,⟨x,B⟩,⟨t,A⟩,e,m⟩:=I.ex;have mem:∀ w:Nat,w<M→gt c w=true→gt back w=true→(w:Int) ∈ l:=fun w D F H=>by
  rw[e,qkq,qkK];exact⟨D,by rw[F,H];rfl⟩
 rcases m with m|⟨k,k1,k2,k3,k4⟩
 · -- another node of the loop
  obtain⟨w,f,g⟩:∃ w,w ∈ selN (fun w=>gt c w&&gt back w) M∧w ≠ v:=by
   have i:(selN (fun w=>gt c w&&gt back w) M).Nodup:=List.nodup_range.filter _;have d:1<(selN (fun w=>gt c w&&gt back w) M).length:=by rw[e,qcR] at m;exact m
   generalize selN (fun w=>gt c w&&gt back w) M=S at i d
   match S,i,d with
   | a::b::S,i,_=>
    by_cases s:a=v
    ·refine⟨b,by simp,fun C=>?_⟩;rw[List.nodup_cons] at i;exact i.1 (by rw[s,←C];simp)
    ·exact⟨a,by simp,s⟩
  rw[qkK,jf] at f;obtain⟨n,p,o⟩:=f;rcases x.wit w n p with e1|⟨k1,a1,p1,p2,p3,p4,p5,p6⟩
  ·exact absurd e1 g
  rcases t.wit w n o with e1|⟨k2,a2,q1,q2,q3,q4,q5,q6⟩
  ·exact absurd e1 g
  have f1:frL ls k1=(a1:Int):=p3;have r:toL ls k1=(w:Int):=p6;have f2:frL ls k2=(w:Int):=q6;have z:toL ls k2=(a2:Int):=q3;by_cases K1:(gt ls k1).Au=1
  ·exact⟨k1,p1,p2,K1,by rw[f1];exact mem a1 p4 p5 (A k1 p1 p2 w a1 r f1 o),by rw[r];exact mem w n p o⟩
  ·by_cases K2:(gt ls k2).Au=1
   ·exact⟨k2,q1,q2,K2,by rw[f2];exact mem w n p o,by rw[z];exact mem a2 q4 (B k2 q1 q2 w a2 f2 z p) q5⟩
   ·exact absurd (r.trans f2.symm) (y k1 k2 p1 q1 K1 K2)
 ·have u:=mem v J x.self t.self;refine⟨k,k1,k2,?_,by rw[k3];exact u,by rw[k4];exact u⟩;exact Classical.byContradiction fun K=>y k k k1 k1 K K (k4.trans k3.symm)
theorem qr4 {xs:List Int}{x:Int}(h:x ∈ xs):(xs.any fun y=>y==x)=true:=List.any_eq_true.2 ⟨x,h,by simp⟩
theorem quW (h:LkOk ls M)(P:∀ k k',k<ls.length→k'<ls.length→(gt ls k).Au ≠ 1→(gt ls k').Au ≠ 1→toL ls k ≠ frL ls k'):∀ (d:Nat) (lv:List Bool),lv.length=ls.length→lv.countP id<d →
  EvQ (fun n=>qfJ ls (M:Int) n lv) (fun o=>o.length=ls.length):=by
 have O:=h.len;have S:=h.nodes;intro d
 induction d with
 | zero=>intro lv _ R;omega
 | succ d ih=>
  intro lv A T;refine EvQ.succ ?_;simp only[qfJ];refine EvQ.bind (quf h A) (fun p C=>?_);refine EvQ.bif (fun _=>EvQ.done A) (fun l=>?_);cases p with
  | nil=>simp at l
  | cons l0 p=>
   have D:=C l0 (by simp);have g:l0.length≤1048576:=by
    obtain⟨_,_,_,_,_,_,e,_⟩:=D.ex;rw[e,qcR];exact Je qkI (by omega)
   obtain⟨s,Q,F,H,I,J⟩:=qsC h P D;have i0:idx (l0::p) 0=V l0:=rfl;have m:∀ d j c,j+d=ls.length→((∃ k:Nat,c=(k:Int)∧k<ls.length∧gt lv k=true)∨j≤s) →
     EvQ (fun n=>qbm ls lv (l0::p) n c (j:Int)) (fun o=>∃ k:Nat,o.1=(k:Int)∧k<ls.length∧gt lv k=true):=by
    intro d
    induction d with
    | zero=>
     intro j c N hi;refine EvQ.succ ?_;simp only[qbm];refine EvQ.ff (qt (by omega)) (EvQ.done ?_);rcases hi with hi|hi
     ·exact hi
     ·omega
    | succ d ih2=>
     intro j c N hi;have a:j<ls.length:=by omega
     have nx:∀ {i},((∃ k:Nat,i=(k:Int)∧k<ls.length∧gt lv k=true)∨j+1≤s)→EvQ (fun n=>qbm ls lv (l0::p) n i ((j+1:Nat):Int)) (fun o=>∃ k:Nat,o.1=(k:Int)∧k<ls.length∧gt lv k=true):=fun L=>ih2 (j+1) _ (by omega) L;have skip:j ≠ s→(∃ k:Nat,c=(k:Int)∧k<ls.length∧gt lv k=true)∨j+1≤s:=fun l=>by
      rcases hi with hi|hi
      ·exact .inl hi
      ·exact .inr (by omega)
     refine EvQ.succ ?_;simp only[qbm,wS j];refine EvQ.tt (qr a) (EvQ.bindN (qy (show j<lv.length by omega)) (EvQ.bif (fun c1=>EvQ.bindN (qy a) (EvQ.bif (fun t=>EvQ.bindN i0 (EvQ.bindN (qy a) (EvQ.bindE (qnW g) (EvQ.bif (fun u=>EvQ.bindN i0 (EvQ.bindN (qy a) (EvQ.bindE (qnW g) (EvQ.bif (fun v=>nx (.inl ⟨j,rfl,a,c1⟩)) (fun v=>nx (skip fun e=>?_)))))) (fun u=>nx (skip fun e=>?_)))))) (fun t=>nx (skip fun e=>?_)))) (fun c1=>nx (skip fun e=>?_))))
     ·subst e;have:=qr4 J;unfold toL at this;rw[this] at v;cases v
     ·subst e;have:=qr4 I;unfold frL at this;rw[this] at u;cases u
     ·subst e;rw[H] at t;cases t
     ·subst e;rw[F] at c1;cases c1
   refine EvQ.bind (m ls.length 0 (-1) (by omega) (.inr (jZ _))) ?_;rintro⟨c,W⟩ ⟨k,rfl,f,B⟩;have b:k<lv.length:=by omega
   refine EvQ.bindN (qy b) (ih _ (by rw[qbd];exact A) ?_);have e:setS lv (k:Int) false=lv.set k false:=by unfold setS;rw[jr]
   rw[e];have z:lv[k]=true:=by rw[←qdz b];exact B
   have x:∀ (xs:List Bool) (k:Nat) (f:k<xs.length),xs[k]=true→(xs.set k false).countP id+1=xs.countP id:=by
    intro xs
    induction xs with
    | nil=>intro k f;cases f
    | cons y xs ih3=>
     intro k f r;cases k with
     | zero=>
      have r:y=true:=r;subst r;simp
     | succ k=>
      have K:k<xs.length:=by simpa using f
      have:=ih3 k K (by simpa using r);rw[List.set_cons_succ,List.countP_cons,List.countP_cons];omega
   have:=x lv k b z;omega
end
theorem qps {b:qe}(h:blockB b=true){x:qm}(c:x ∈ linksL b)(p:x.Au ≠ 1) :
  ∃(m s:Nat) (t:Int),b01 t∧x.Bd=2*(m:Int)+t∧x.To=2*(s:Int)+t∧(gt (places b.Aa) m).drives=true∧(gt (places b.Aa) s).drives=false:=by
 have o:=qan h;have r:=qiq h;unfold linksL at c;rcases List.mem_append.1 c with c|c
 ·obtain⟨i,hi,c⟩:=qlD c;obtain⟨a,u,c⟩:=qlD c;unfold arcLs at c;obtain⟨t,v,rfl⟩:=List.mem_map.1 c;exact absurd Z p
 ·obtain⟨i,hi,c⟩:=qlD c;obtain⟨k,f,c⟩:=qlD c;obtain⟨y,z,n,g⟩:=qmN f;have d:=(qic o (k:=i) (by omega)).2;unfold wl1 at c;simp only[jG,jy,or_false] at c;have l:=(qlU.1 d).2;have d2:(gt (places b.Aa) y).drives=false:=by
   unfold snkQ at g;simp only[jf,jD] at g;exact g.2
  rcases c with c|c
  ·exact⟨_,y,0,.inl Z,by rw[c,jY],by rw[c,jY,n],l,d2⟩
  ·exact⟨_,y,1,.inr Z,by rw[c],by rw[c,n],l,d2⟩
theorem qrC {b:qe}(h:blockB b=true):∀ k a,k<(linksL b).length→a<(linksL b).length→(gt (linksL b) k).Au ≠ 1→(gt (linksL b) a).Au ≠ 1→toL (linksL b) k ≠ frL (linksL b) a:=by
 intro k a o f m n e;obtain⟨v,s,t,p,f1,A,u,d2⟩:=qps h (qg9 o) m;obtain⟨d,y,z,g,l,r,c,i⟩:=qps h (qg9 f) n;have x:(gt (linksL b) k).To=(gt (linksL b) a).Bd:=e;have:s=d:=by rcases p with e|e<;>rcases g with e2|e2<;>omega
 rw[this,c] at d2;cases d2
theorem qt3 {b:qe}(h:blockB b=true):EvQ (fun n=>qiB n b) (fun o=>okL okI o):=by
 have m:=qjn h;have l:=m.len;have k:=qjZ h;unfold qiB;refine EvQ.bindE (qiP h) (EvQ.bindE (qmL l (by simp)) (EvQ.bindE k (EvQ.bind (quW m (qrC h) _ _ qka (Nat.lt_succ_self _)) (fun p t=>?_))));have c:∀ d j a,j+d=(linksL b).length→a.length≤j→(∀ y,y ∈ a→okI y)→EvQ (fun n=>qdo (lvB [] (linksL b).length) p n a (j:Int)) (fun o=>o.1.length≤10000∧∀ y,y ∈ o.1→okI y):=by
  intro d
  induction d with
  | zero=>
   intro j a s g f;refine EvQ.succ ?_;simp only[qdo,qka];exact EvQ.ff (qt (by omega)) (EvQ.done ⟨by dsimp only;omega,f⟩)
  | succ d ih=>
   intro j a s g f;refine EvQ.succ ?_;simp only[qdo,qka,wS j];refine EvQ.tt (qr (by omega)) (EvQ.bindN (qy (show j<p.length by omega)) (EvQ.bif (fun _=>?_) (fun _=>ih (j+1) a (by omega) (by omega) f)));exact EvQ.bindN (qce (by omega)) (ih (j+1) _ (by omega) (by rw[jg,ji];omega) (qbL f (qaC (by omega) (by omega))))
 refine EvQ.bind (c (linksL b).length 0 [] (by omega) (je _) (fun _ u=>by cases u)) ?_;rintro⟨a,i⟩ ⟨r,g⟩;exact EvQ.done ⟨by dsimp only at r ⊢;omega,g⟩

def atP (ls:List qm)(start:Int)(a:List Int):Nat→Int
 | 0=>start
 | j+1=>(gt ls (at0 a j).toNat).To
def okP (ls:List qm)(lv:List Bool)(start:Int)(a:List Int)(j:Nat):Bool:=
 inI (at0 a j) 0 ((ls.length:Int)-1)&&(gt lv (at0 a j).toNat&&((gt ls (at0 a j).toNat).Bd==atP ls start a j))

section
variable {code:List (IntK .u8)}{a s:Int}
theorem qql {α:Type}{P:α→Prop}{x y z:α}{i:Int}(d:0≤i)(f:i<3)(a:P x)(b:P y)(c:P z):∃ v,idx [x,y,z] i=V v∧P v:=by
 have:i=0∨i=1∨i=2:=by omega
 rcases this with rfl|rfl|rfl
 ·exact⟨x,rfl,a⟩
 ·exact⟨y,rfl,b⟩
 ·exact⟨z,rfl,c⟩
theorem qki {x:Int}(a:-2000000000≤x)(b:x≤2000000000):okI x:=qaC (by omega) (by omega)
theorem qtr (c:CodeOk code)(h:SrcI code a s):EvQ (fun n=>qfV n ⟨code,a,s⟩) (fun o=>qnk o.1∧SrcI code o.2.1 o.2.2):=by
 unfold qfV;refine EvQ.bind (qal 3 c h) ?_;rintro⟨M,N,O⟩ ⟨⟨⟨k,p1⟩,_⟩,b⟩;dsimp only at k p1 b ⊢;obtain⟨Y,f,d⟩:=qql (P:=okS) (x:=(⟨#[115,108,111,119]⟩:ByteArray)) (y:=(⟨#[102,97,115,116]⟩:ByteArray)) (z:=(⟨#[116,121,112]⟩:ByteArray)) k (p1 (by decide)) (by show(4:Nat)≤1048576;decide) (by show(4:Nat)≤1048576;decide) (by show(3:Nat)≤1048576;decide);refine EvQ.bindN f (EvQ.bind (qal 20 c b) ?_);rintro⟨Q,R,S⟩ ⟨_,b⟩;refine EvQ.bind (qal 20 c b) ?_;rintro⟨T,W,X⟩ ⟨_,b⟩;refine EvQ.bind (qal 60 c b) ?_;rintro⟨p,r,t⟩ ⟨_,b⟩;refine EvQ.bind (qal 40 c b) ?_;rintro⟨u,v,A⟩ ⟨_,b⟩;refine EvQ.bind (qal 30 c b) ?_;rintro⟨B,C,D⟩ ⟨_,b⟩;dsimp only at b ⊢;refine EvQ.bif (fun _=>EvQ.done ⟨⟨d,qaR _,qaR _,qaR _,qaR _⟩,b⟩) (fun _=>EvQ.bif (fun _=>EvQ.bind (qal 3 c b) ?_) (fun _=>EvQ.bif (fun _=>EvQ.bind (qal 2 c b) ?_) (fun _=>EvQ.bif (fun _=>EvQ.done ⟨⟨by show(0:Nat)≤1048576;decide,qaR _,qaR _,qaR _,qaR _⟩,b⟩) (fun _=>EvQ.done ⟨⟨d,qaR _,qaR _,qaR _,qaR _⟩,b⟩))))
 ·rintro⟨F,H,I⟩ ⟨⟨⟨l,m⟩,_⟩,b⟩;dsimp only at l m b ⊢;obtain⟨e,g,i⟩:=qql (P:=okI) (x:=(99:Int)) (y:=100) (z:=-1) l (m (by decide)) (qki (by decide) (by decide)) (qki (by decide) (by decide)) (qki (by decide) (by decide));exact EvQ.bindN g (EvQ.done ⟨⟨d,qaR _,qaR _,i,qaR _⟩,b⟩)
 ·rintro⟨J,K,L⟩ ⟨_,b⟩;exact EvQ.done ⟨⟨d,qaR _,qaR _,qaR _,qaR _⟩,b⟩
theorem qqB (d:CodeOk code)(h:SrcI code a s):EvQ (fun n=>qgp n ⟨code,a,s⟩) (fun o=>BlkO o.1∧SrcI code o.2.1 o.2.2):=by
 unfold qgp;refine EvQ.bind (qal 12 d h) ?_;rintro⟨k,l,m⟩ ⟨_,b⟩;dsimp only at b ⊢;refine EvQ.bif (fun _=>EvQ.bind (qrJ d b) ?_) (fun _=>EvQ.bif (fun _=>EvQ.bif (fun _=>EvQ.bind (qmg (by decide) (by decide) d b) ?_) (fun _=>EvQ.bind (qmg (by decide) (by decide) d b) ?_)) (fun _=>EvQ.bif (fun _=>EvQ.bind (qmg (by decide) (by decide) d b) ?_) (fun _=>EvQ.bind (qmg (by decide) (by decide) d b) ?_)))
 ·rintro⟨r,f,g⟩ i;exact EvQ.done i
 ·rintro⟨r,f,g⟩ ⟨c,b⟩;exact EvQ.done ⟨⟨c.ok,c.des.sm⟩,b⟩
 ·rintro⟨r,f,g⟩ ⟨c,b⟩;exact EvQ.done ⟨⟨c.ok,c.des.sm⟩,b⟩
 ·rintro⟨r,f,g⟩ ⟨c,b⟩;exact EvQ.done ⟨⟨c.ok,c.des.sm⟩,b⟩
 ·rintro⟨r,f,g⟩ ⟨c,b⟩;exact EvQ.done ⟨⟨c.ok,c.des.sm⟩,b⟩
theorem qtJ {b:qe}(D:BlkO b)(k:CodeOk code)(h:SrcI code a s):EvQ (fun n=>qfY n ⟨code,a,s⟩ b) (fun o=>okL okI o.1∧SrcI code o.2.1 o.2.2):=by
 unfold qfY;refine EvQ.bind (R:=fun o:Int×Int×Bool=>SrcI code o.1 o.2.1∧(o.2.2=false→blockB b=true)) (EvQ.bindE (qgu D.ok) (EvQ.bif (fun _=>EvQ.done ⟨h,fun e=>by cases e⟩) (fun g=>EvQ.bind (qal 3 k h) ?_))) ?_
 ·rintro⟨X,Y,a3⟩ ⟨_,c⟩;exact EvQ.done ⟨c,fun _=>by simpa using g⟩
 rintro⟨i1,i2,b1⟩ ⟨c,g⟩;dsimp only at c g ⊢;refine EvQ.bif (fun _=>EvQ.done ⟨⟨jZ _,fun _ h=>by cases h⟩,c⟩) (fun u=>?_);have g:=g u;have I:=qjw g;refine EvQ.bindE (qiP g) (EvQ.bind (qal 8 k c) ?_);rintro⟨v,i4,i5⟩ ⟨⟨⟨p0,p1⟩,_⟩,c⟩;dsimp only at p0 p1 c ⊢;have p2:=p1 (by decide);have z:W64 (1+v)=1+v:=qU (by omega) (by omega);rw[z];refine EvQ.bind (qal _ k c) ?_;rintro⟨A,i7,i8⟩ ⟨⟨⟨q0,B⟩,_⟩,c⟩;dsimp only at q0 B c ⊢;have q2:=B (by omega);obtain⟨j,rfl⟩:∃ j:Nat,A=(j:Int):=⟨A.toNat,by omega⟩;have m:∀ (d j:Nat) (x:List Int) (p r:Int),SrcI code p r→(linksL b).length≤j+d→x.length≤j→j≤(linksL b).length+8→(∀ y,y ∈ x→okI y) →
   EvQ (fun n=>qci ⟨code,a,s⟩ (linksL b) v n x p r (j:Int)) (fun o=>(o.1.length≤20000∧∀ y,y ∈ o.1→okI y)∧SrcI code o.2.1 o.2.2.1):=by
  intro d
  induction d with
  | zero=>
   intro j x p r c F J H f;refine EvQ.succ ?_;simp only[qci];exact EvQ.ff (qt (by omega)) (EvQ.done ⟨⟨by dsimp only;omega,f⟩,c⟩)
  | succ d ih=>
   intro j x p r c F J H f;refine EvQ.succ ?_;simp only[qci,z];refine EvQ.bif (fun l=>?_) (fun _=>EvQ.done ⟨⟨by dsimp only;omega,f⟩,c⟩);have l:j<(linksL b).length:=by have:=of_decide_eq_true l;omega
   refine EvQ.bindN (qce (by omega)) (EvQ.bind (qal _ k c) ?_);rintro⟨i,M,N⟩ ⟨⟨⟨t0,C⟩,_⟩,c⟩;dsimp only at t0 C c ⊢;have t2:=C (by omega);have e1:W64 ((j:Int)+W64 (1+i))=((j+(1+i.toNat):Nat):Int):=by rw[wO (1+i),qU (by omega) (by omega)];omega
   rw[e1];exact ih _ _ _ _ c (by omega) (by rw[jg,ji];omega) (by omega) (qbL f (qki (by omega) (by omega)))
 refine EvQ.bind (m (linksL b).length j [] i7 i8 c (by omega) (jZ _) (by omega) (fun _ h=>by cases h)) ?_;rintro⟨x1,i9,K,L⟩ ⟨⟨l1,t⟩,c⟩;dsimp only at l1 t c ⊢;refine EvQ.bind (qal 12 k c) ?_;rintro⟨O,P,Q⟩ ⟨_,c⟩;dsimp only at c ⊢;refine EvQ.bif (fun _=>EvQ.bind (qal 2 k c) ?_) (fun _=>EvQ.done ⟨⟨by dsimp only;omega,t⟩,c⟩);rintro⟨S,T,W⟩ ⟨_,c⟩;exact EvQ.bindN (qce (by omega)) (EvQ.done ⟨⟨by show(_++_:List Int).length≤_;rw[jg,ji];omega,qbL t (qaR _)⟩,c⟩)
theorem qpO {b:qe}(B:BlkO b)(p:CodeOk code)(h:SrcI code a s):EvQ (fun n=>qd3 n ⟨code,a,s⟩ b) (fun o=>okL qgK o.1∧SrcI code o.2.1 o.2.2):=by
 have O:=qaQ B.sm;have two:∀ {I:Int} {b1:Bool} (d j:Nat) (x:List qf) (l m:Int),SrcI code l m→j+d=2→x.length+d≤1000→(∀ y,y ∈ x→qgK y) →
   EvQ (fun n=>qbG ⟨code,a,s⟩ I b1 n x l m (j:Int)) (fun o=>(o.1.length≤x.length+d∧∀ y,y ∈ o.1→qgK y)∧SrcI code o.2.1 o.2.2.1):=by
  intro I b1 d
  induction d with
  | zero=>
   intro j x l m c C F f;obtain rfl:j=2:=by omega
   refine EvQ.succ ?_;simp only[qbG];exact EvQ.ff Z (EvQ.done ⟨⟨je _,f⟩,c⟩)
  | succ d ih=>
   intro j x l m c C F f;refine EvQ.succ ?_;simp only[qbG,wS j];refine EvQ.tt (decide_eq_true (by omega)) (EvQ.bind (R:=fun o:Int×Int×Bool=>SrcI code o.1 o.2.1) (EvQ.bif (fun _=>EvQ.bind (qal 8 p c) ?_) (fun _=>EvQ.bind (qal 24 p c) ?_)) ?_)
   ·rintro⟨a6,a7,a8⟩ ⟨_,c⟩;refine EvQ.bif (fun _=>EvQ.done c) (fun _=>EvQ.bind (qal 24 p c) ?_);rintro⟨a9,b4,b5⟩ ⟨_,c⟩;exact EvQ.done c
   ·rintro⟨b6,b7,b8⟩ ⟨_,c⟩;exact EvQ.done c
   rintro⟨i7,i8,b2⟩ c;dsimp only at c ⊢;refine EvQ.bif (fun _=>EvQ.bind (qal 200 p c) ?_) (fun _=>(ih (j+1) x i7 i8 c (by omega) (by omega) f).mono fun o t=>⟨⟨by have:=t.1.1;omega,t.1.2⟩,t.2⟩);rintro⟨i9,P,Q⟩ ⟨_,c⟩;refine EvQ.bind (qal 30 p c) ?_;rintro⟨H,S,T⟩ ⟨⟨⟨t0,L⟩,_⟩,c⟩;refine EvQ.bind (qal 40 p c) ?_;rintro⟨X,Y,e⟩ ⟨_,c⟩;refine EvQ.bind (qal 12 p c) ?_;rintro⟨a3,a4,a5⟩ ⟨_,c⟩;dsimp only at t0 L c ⊢;have t2:=L (by decide);refine EvQ.bindN (qce (by omega)) ((ih (j+1) _ _ _ c (by omega) (by rw[jg,ji];omega) (qbL f ⟨qaR _,⟨qaR _,qaR _⟩,⟨qki (x:=H) (by omega) (by omega),qaR _⟩⟩)).mono fun o t=>⟨⟨by have:=t.1.1;rw[jg,ji] at this;omega,t.1.2⟩,t.2⟩)
 unfold qd3;refine EvQ.bindE (qgu B.ok) (EvQ.bif (fun _=>EvQ.done ⟨⟨jZ _,fun _ h=>by cases h⟩,h⟩) (fun _=>EvQ.bindE (qgx B.sm) ?_));have D:((places b.Aa).map toSp).length=(places b.Aa).length:=jv ..;generalize (places b.Aa).map toSp=ps at D ⊢;have A:∀ (d j:Nat) (x:List qf) (l m:Int),SrcI code l m→j+d=ps.length→x.length≤2*j→(∀ y,y ∈ x→qgK y) →
   EvQ (fun n=>qb5 ⟨code,a,s⟩ ps n x l m (j:Int)) (fun o=>(o.1.length≤156∧∀ y,y ∈ o.1→qgK y)∧SrcI code o.2.1 o.2.2.1):=by
  intro d
  induction d with
  | zero=>
   intro j x l m c C F f;refine EvQ.succ ?_;simp only[qb5];exact EvQ.ff (qt (by omega)) (EvQ.done ⟨⟨by dsimp only;omega,f⟩,c⟩)
  | succ d ih=>
   intro j x l m c C F f;have r:j<ps.length:=by omega
   refine EvQ.succ ?_;simp only[qb5,wS j];refine EvQ.tt (qr r) (EvQ.bind (R:=fun _=>True) (EvQ.bindN (qa2 r) (EvQ.bif (fun _=>EvQ.bindN (qa2 r) (EvQ.done trivial)) (fun _=>EvQ.done trivial))) (fun b1 _=>?_));refine EvQ.bind (two 2 0 x l m c Z (by omega) f) ?_;rintro⟨x2,i4,i5,i6⟩ ⟨⟨l2,N⟩,c⟩;exact ih (j+1) x2 i4 i5 c (by omega) (by dsimp only at l2;omega) N
 refine EvQ.bind (A ps.length 0 [] a s h (by omega) (je _) (fun _ h=>by cases h)) ?_;rintro⟨J,i1,i2,I⟩ ⟨⟨l1,u⟩,c⟩;dsimp only at l1 u c ⊢;refine EvQ.bif (fun g=>?_) (fun _=>EvQ.done ⟨⟨by dsimp only;omega,u⟩,c⟩);have g:0<J.length:=by have:=of_decide_eq_true g;omega
 refine EvQ.bind (qal _ p c) ?_;rintro⟨z,b9,c0⟩ ⟨⟨⟨q0,K⟩,_⟩,c⟩;dsimp only at q0 K c ⊢;have q2:=K (by omega);obtain⟨k,rfl⟩:∃ k:Nat,z=(k:Int):=⟨z.toNat,by omega⟩;have v:k<J.length:=by omega
 have i:=u _ (jo v);have M:=u _ (jo g);have W:∀ {y:qf},qgK y→okL qgK (setS J (k:Int) y):=fun {y} h=>⟨by rw[qbd];omega,qhe u h⟩;refine EvQ.bind (qal 30 p c) ?_;rintro⟨c2,c3,c4⟩ ⟨_,c⟩;dsimp only at c ⊢;refine EvQ.bif (fun _=>EvQ.bindN (qa2 (j:=0) g) (EvQ.bindN (qa2 v) (EvQ.done ⟨W ⟨M.Bi,i.Af,i.Av⟩,c⟩))) (fun _=>EvQ.bif (fun _=>EvQ.bindN (qa2 v) (EvQ.bindN (qa2 v) (EvQ.done ⟨W ⟨i.Bi,⟨qaR _,i.Af.Ar⟩,i.Av⟩,c⟩))) (fun _=>EvQ.bif (fun _=>EvQ.bindN (qa2 v) (EvQ.done ⟨W ⟨i.Bi,i.Af,⟨qki (x:=-1) (by decide) (by decide),i.Av.Ar⟩⟩,c⟩)) (fun _=>EvQ.bif (fun _=>EvQ.bindN (qa2 v) (EvQ.done ⟨W ⟨i.Bi,⟨i.Af.Ak,qki (x:=1000000000) (by decide) (by decide)⟩,i.Av⟩,c⟩)) (fun _=>EvQ.done ⟨⟨by dsimp only;omega,u⟩,c⟩))))
structure CasI (b:qe)(c:qv)(br:List Int)(xs:List qf):Prop where
 bl:BlkO b
 co:qnk c
 br_:okL okI br
 sr:okL qgK xs
theorem qty (d:CodeOk code)(h:SrcI code a s):EvQ (fun n=>qg0 n ⟨code,a,s⟩) (fun o=>CasI o.1 o.2.1 o.2.2.1 o.2.2.2.1∧SrcI code o.2.2.2.2.1 o.2.2.2.2.2):=by
 unfold qg0;refine EvQ.bind (qqB d h) ?_;rintro⟨r1,J,K⟩ ⟨c,b⟩;refine EvQ.bind (qtr d b) ?_;rintro⟨T,L,M⟩ ⟨f,b⟩;refine EvQ.bind (qal 3 d b) ?_;rintro⟨N,O,P⟩ ⟨_,b⟩;dsimp only at c f b ⊢;refine EvQ.bind (R:=fun o:qe×Int×Int=>BlkO o.1∧SrcI code o.2.1 o.2.2) (EvQ.bif (fun _=>EvQ.bind (qmg (by decide) (by decide) d b) ?_) (fun _=>EvQ.done ⟨c,b⟩)) ?_
 ·rintro⟨r9,F,H⟩ ⟨c,b⟩;exact EvQ.done ⟨⟨c.ok,c.des.sm⟩,b⟩
 rintro⟨I,Q,S⟩ ⟨c,b⟩;dsimp only at c b ⊢;refine EvQ.bind (qtJ c d b) ?_;rintro⟨W,r,t⟩ ⟨g,b⟩;dsimp only at g b ⊢;refine EvQ.bind (R:=fun o:Int×Int×Bool=>SrcI code o.1 o.2.1∧(o.2.2=true→blockB I=true)) (EvQ.bindE (qgu c.ok) (EvQ.bif (fun i=>EvQ.bif (fun _=>EvQ.bind (qal 6 d b) ?_) (fun _=>EvQ.done ⟨b,fun e=>by cases e⟩)) (fun _=>EvQ.done ⟨b,fun e=>by cases e⟩))) ?_
 ·rintro⟨B,C,D⟩ ⟨_,b⟩;exact EvQ.done ⟨b,fun _=>i⟩
 rintro⟨u,v,b1⟩ ⟨b,i⟩;dsimp only at b i ⊢;refine EvQ.bif (fun k=>EvQ.bind (qt3 (i k)) (fun X l=>EvQ.bind (qpO c d b) ?_)) (fun _=>EvQ.bind (qpO c d b) ?_)
 ·rintro⟨Y,x,y⟩ ⟨m,b⟩;exact EvQ.done ⟨⟨c,f,l,m⟩,b⟩
 ·rintro⟨r7,z,A⟩ ⟨p,b⟩;exact EvQ.done ⟨⟨c,f,g,p⟩,b⟩
structure JobI (j:qqA):Prop where
 ok:qu8 j
 sm:smallD j.Br.Aa
end

section
variable {code:List (IntK .u8)}
theorem qsN (l:CodeOk code):EvQ (fun n=>qdc n code) (fun o=>CasI o.1 o.2.1 o.2.2.1 o.2.2.2.1∧okL okI o.2.2.2.2):=by
 obtain⟨s,i,a⟩:=qrE l;unfold qdc;refine EvQ.bindE i (EvQ.bind (qty l a) ?_);rintro⟨b,c,br,xs,S,T⟩ ⟨k,a⟩;dsimp only at k a ⊢;have D:=k.bl.sm.nn;have p:∀ (d j:Nat) (x:List Int) (r t:Int),SrcI code r t→j+d=b.Aa.Aj.length→x.length=j→(∀ y,y ∈ x→okI y) →
   EvQ (fun n=>qa3 code b n x r t (j:Int)) (fun o=>(o.1.length=b.Aa.Aj.length∧∀ y,y ∈ o.1→okI y)∧SrcI code o.2.1 o.2.2.1):=by
  intro d
  induction d with
  | zero=>
   intro j x r t a C F g;refine EvQ.succ ?_;simp only[qa3];exact EvQ.ff (qt (by omega)) (EvQ.done ⟨⟨by dsimp only;omega,g⟩,a⟩)
  | succ d ih=>
   intro j x r t a C F g;refine EvQ.succ ?_;simp only[qa3,wS j];refine EvQ.tt (qr (by omega)) (EvQ.bind (qal 20 l a) ?_);rintro⟨i7,i8,i9⟩ ⟨_,a⟩;refine EvQ.bind (qal 2 l a) ?_;rintro⟨I,J,K⟩ ⟨_,a⟩;exact EvQ.bindN (qce (by omega)) (ih (j+1) _ _ _ a (by omega) (by rw[jg,ji];omega) (qbL g (qaR _)))
 refine EvQ.bind (p b.Aa.Aj.length 0 [] S T a (by omega) Z (fun _ h=>by cases h)) ?_;rintro⟨m,W,X,Y⟩ ⟨⟨l1,i⟩,a⟩;dsimp only at l1 i a ⊢;have ok1:okL okI m:=⟨by omega,i⟩;refine EvQ.bif (fun f=>?_) (fun _=>EvQ.done ⟨k,ok1⟩);have f:0<m.length:=by have:=of_decide_eq_true f;omega
 refine EvQ.bind (qal 24 l a) ?_;rintro⟨L,M,N⟩ ⟨_,a⟩;dsimp only at a ⊢;refine EvQ.bif (fun _=>EvQ.bind (qal 3 l a) ?_) (fun _=>EvQ.bif (fun _=>?_) (fun _=>EvQ.done ⟨k,ok1⟩))
 ·rintro⟨O,Q,R⟩ ⟨⟨⟨A,B⟩,_⟩,_⟩;dsimp only at A B ⊢;obtain⟨y1,u,v⟩:=qql (P:=okI) (x:=(-1:Int)) (y:=1000000000) (z:=1000000001) A (B (by decide)) (qki (by decide) (by decide)) (qki (by decide) (by decide)) (qki (by decide) (by decide));exact EvQ.bindN u (EvQ.bindN (qa2 (j:=0) f) (EvQ.done ⟨k,⟨by show(setS _ _ _).length≤_;rw[qbd];omega,qhe i v⟩⟩))
 ·have e:subS m 1 (m.length:Int)=V (m.drop 1):=by
   unfold subS;rw[if_pos (by omega)];simp
  exact EvQ.bindN e (EvQ.done ⟨k,⟨by show(m.drop 1).length≤_;rw[List.length_drop];omega,fun y H=>i y (List.mem_of_mem_drop H)⟩⟩)
end

theorem qma {p f mode:Int}(c:0≤p)(p1:p≤1000000)(a:0≤f)(f1:f≤5000):0≤divI (p*f) 1000 mode∧divI (p*f) 1000 mode≤5000000:=by
 have b:0≤p*f:=jP c a;have d:p*f≤1000000*5000:=jS p1 f1 a (by omega);exact qjP (by omega) b (by omega)
theorem qnZ {a b:Int}(d:0<b)(c:0≤a):divI a b 0≤divI a b 1:=by
 rw[qkW c d,qkW c d];rw[if_neg (by omega)];split<;>omega
theorem qst {a c b mode:Int}(d:0<b)(g:0≤a)(h:a≤c)(m:mode=0∨mode=1):divI a b mode≤divI c b mode:=by
 rw[qkW g d,qkW (by omega) d];have l:a / b≤c / b:=Int.ediv_le_ediv d h;rcases m with rfl|rfl
 ·rw[if_neg (by omega),if_neg (by omega)];exact l
 ·by_cases i:a % b > 0
  ·rw[if_pos ⟨rfl,i⟩];by_cases k:c % b > 0
   ·rw[if_pos ⟨rfl,k⟩];omega
   ·rw[if_neg (by omega)];have e1:=Int.mul_ediv_add_emod a b;have f:=Int.mul_ediv_add_emod c b;have n1:=Int.emod_nonneg c (show b ≠ 0 by omega);have z:c % b=0:=by omega
    refine Classical.byContradiction fun n=>?_;have:c / b=a / b:=by omega
    rw[this] at f;omega
  ·rw[if_neg (by omega)];split<;>omega
theorem qrT {c:qv}(h:cornerB c=true){kind:Int}:∃ f g:Int,(100≤f∧f≤g∧g≤5000)∧(∀ n,qdE n c kind 0=V f)∧∀ n,qdE n c kind 1=V g:=by
 unfold cornerB at h;simp only[jf,qa5,decide_eq_true_eq] at h;obtain⟨⟨d,i,k,l⟩,_,a,b⟩:=h;unfold qdE;cases kind==1
 ·exact⟨c.Bf,c.Bh,⟨by omega,b,by omega⟩,fun _=>rfl,fun _=>rfl⟩
 ·exact⟨c.Bc,c.Bg,⟨by omega,a,by omega⟩,fun _=>rfl,fun _=>rfl⟩
theorem qoN {b:qe}{c:qv}(h:blockB b=true)(P:cornerB c=true){k:Nat}(Q:k<(linksL b).length){sl:Int}:∃ D E:Int,(0≤D∧D≤E∧E≤5000000)∧Ev (fun n=>qbc n b c (gt (linksL b) k) sl 0) D∧Ev (fun n=>qbc n b c (gt (linksL b) k) sl 1) E:=by
 obtain⟨d,_⟩:=qeH h (qg9 Q);generalize gt (linksL b) k=x at d;obtain⟨f,g,⟨W,f1,f2⟩,H,I⟩:=qrT P (kind:=x.Au);have F:∀ {p q:Int},0≤p→p≤q→q≤1000000→divI (p*f) 1000 0≤divI (q*g) 1000 1:=fun {p q} r T X=>by
  have O:p*f≤q*g:=jS T f1 (by omega) (by omega);have N:0≤p*f:=jP r (by omega);exact Int.le_trans (qst (by omega) N O (.inl Z)) (qnZ (by omega) (by omega))
 rcases d with⟨i,j,m,net,a,d⟩|⟨j,net,q,d⟩
 ·have t:m<(gt (cellAt b (i:Int)).Aq a).Bm.length:=by rw[d.d2];exact d.ml
  obtain⟨R,z⟩:=d.dt _ (qg9 t);obtain⟨S,D,D0,S1,_,_,_,S0,o⟩:=qr0 R sl (load0 b net);obtain⟨A,r1⟩:=qjP (mode:=0) D0 (S0 z) S1;obtain⟨J,K⟩:=qjP (mode:=1) D0 (S0 z) S1;have y:=qnZ (a:=S) D0 (S0 z);obtain⟨c1,_⟩:=qkm (mode:=0) A (by omega) (show 0≤f by omega) (by omega);obtain⟨s,_⟩:=qkm (mode:=1) J (by omega) (show 0≤g by omega) f2;have l:(x.Au==1)=true:=by rw[d.kind];rfl
  refine⟨divI (divI S D 0*f) 1000 0,divI (divI S D 1*g) 1000 1,⟨(qma A r1 (by omega) (by omega)).1,F A y K,(qma J K (by omega) f2).2⟩,?_,?_⟩
  ·unfold qbc;refine Ev.tt l (Ev.bind (ql8 h d) ?_);simp only[d.mod,qy t,jd,H];exact Ev.bind (o 0).1 (Ev.bind ⟨0,fun n _=>c1 n⟩ .done)
  ·unfold qbc;refine Ev.tt l (Ev.bind (ql8 h d) ?_);simp only[d.mod,qy t,jd,I];exact Ev.bind (o 1).1 (Ev.bind ⟨0,fun n _=>s n⟩ .done)
 ·have u:(exactL b net).length=(gt b.Ac net).Bb.length:=by unfold exactL;rw[jv]
  have C:q<(exactL b net).length:=by rw[u];exact d.kl
  obtain⟨B,e⟩:=qmH h d.nl d.kl;obtain⟨r,p1⟩:=qjP (a:=gt (exactL b net) q) (b:=1000) (mode:=0) (M:=344000) (by omega) B (by omega);obtain⟨L,Y⟩:=qjP (a:=gt (exactL b net) q) (b:=1000) (mode:=1) (M:=344000) (by omega) B (by omega);have v:=qnZ (a:=gt (exactL b net) q) (b:=1000) (by omega) B;obtain⟨c1,_⟩:=qkm (mode:=0) r (by omega) (show 0≤f by omega) (by omega);obtain⟨s,_⟩:=qkm (mode:=1) L (by omega) (show 0≤g by omega) f2;have l:(x.Au==1)=false:=by rw[d.kind];rfl
  have hi:∀ mode:Int,idx ((exactL b net).map fun x=>divI x 1000 mode) (q:Int)=V (divI (gt (exactL b net) q) 1000 mode):=fun mode=>by
   rw[qy (by rw[jv];exact C),qmF C]
  refine⟨divI (divI (gt (exactL b net) q) 1000 0*f) 1000 0,divI (divI (gt (exactL b net) q) 1000 1*g) 1000 1,⟨(qma r (by omega) (by omega) (by omega)).1,F r v (by omega),(qma L (by omega) (by omega) f2).2⟩,?_,?_⟩
  ·unfold qbc;refine Ev.ff l (Ev.bind (qkG h d) (Ev.bind (qit h d.nl) ?_));simp only[d.ix,hi,jd,H];exact Ev.bind ⟨0,fun n _=>c1 n⟩ .done
  ·unfold qbc;refine Ev.ff l (Ev.bind (qkG h d) (Ev.bind (qit h d.nl) ?_));simp only[d.ix,hi,jd,I];exact Ev.bind ⟨0,fun n _=>s n⟩ .done
theorem qo7 {b:qe}{c:qv}{f:Nat→qh→qh×qh}(h:blockB b=true)(l:cornerB c=true)(v:SpansS b c f){k:Nat}(a:k<(linksL b).length){s:qh}(o:slR s) :
  0≤(f k s).1.Ak∧(f k s).1.Ak≤(f k s).1.Ar∧(f k s).1.Ar≤5000000:=by
 have m:=(v k s a o).2;obtain⟨⟨e0,e1⟩,⟨l0,l1⟩⟩:=o;obtain⟨d,d2,⟨a1,a2,F⟩,p1,x⟩:=qoN h l a (sl:=s.Ak);obtain⟨g,i,⟨b1,b2,b3⟩,y,z⟩:=qoN h l a (sl:=s.Ar);obtain⟨_,⟨p,_,_,A,_⟩⟩:=qjW h l a e0 e1 (mode:=0) (.inl Z);obtain⟨_,⟨r,_,_,B,_⟩⟩:=qjW h l a e0 e1 (mode:=1) (.inr Z);obtain⟨_,⟨t,_,_,C,_⟩⟩:=qjW h l a l0 l1 (mode:=0) (.inl Z);obtain⟨_,⟨u,_,_,D,_⟩⟩:=qjW h l a l0 l1 (mode:=1) (.inr Z);have e:Ev (fun n=>qfi n b c (gt (linksL b) k) s) (⟨if g<d then g else d,if i > d2 then i else d2⟩,⟨if t<p then t else p,if u > r then u else r⟩):=by
  unfold qfi;exact Ev.bind p1 (Ev.bind x (Ev.bind A (Ev.bind B (Ev.bind y (Ev.bind z (Ev.bind C (Ev.bind D .done)))))))
 rw[m.uniq e];refine⟨?_,?_,?_⟩
 ·show 0≤(if g<d then g else d);split<;>omega
 ·show(if g<d then g else d)≤(if i > d2 then i else d2);split<;>split<;>omega
 ·show(if i > d2 then i else d2)≤5000000;split<;>omega

def fE (f:Nat→qh→qh×qh)(e:Nat→Int)(k:Nat)(s:qh):qh×qh:=(wideS (e k) (f k s).1,(f k s).2)
structure Nest (x y:qh):Prop where
 e0:-5000000000≤y.Ak
 e1:y.Ak≤x.Ak
 el:x.Ak≤x.Ar
 l1:x.Ar≤y.Ar
 l0:y.Ar≤5000000000
theorem Nest.hull {x y a b:qh}(h:Nest x y)(c:Nest a b):Nest (hullS x a) (hullS y b):=by
 obtain⟨a0,a1,a2,d,f⟩:=h;obtain⟨b0,b1,b2,b3,g⟩:=c;constructor
 ·show -5000000000≤(if b.Ak<y.Ak then b.Ak else y.Ak);split<;>omega
 ·show(if b.Ak<y.Ak then b.Ak else y.Ak)≤(if a.Ak<x.Ak then a.Ak else x.Ak);split<;>split<;>omega
 ·show(if a.Ak<x.Ak then a.Ak else x.Ak)≤(if a.Ar > x.Ar then a.Ar else x.Ar);split<;>split<;>omega
 ·show(if a.Ar > x.Ar then a.Ar else x.Ar)≤(if b.Ar > y.Ar then b.Ar else y.Ar);split<;>split<;>omega
 ·show(if b.Ar > y.Ar then b.Ar else y.Ar)≤5000000000;split<;>omega
theorem qnD {s:qh}:spanB s=true↔(-1000000000≤s.Ak∧s.Ak≤s.Ar∧s.Ar≤1000000000):=by
 unfold spanB;simp only[jf,qa5,decide_eq_true_eq];omega
theorem Nest.refl {x:qh}(h:spanB x=true):Nest x x:=by
 rw[qnD] at h;exact⟨by omega,by omega,by omega,by omega,by omega⟩
theorem Nest.plus {x y d:qh}{e1 e2:Int}(h:Nest x y)(a:spanB x=true)(b:spanB y=true)(g:0≤d.Ak)(i:d.Ak≤d.Ar)(d2:d.Ar≤5000000)(e0:0≤e1)(l:e1≤e2)(k:e2≤1000000000) :
  Nest (plusS x (wideS e1 d)) (plusS y (wideS e2 d)):=by
 rw[qnD] at a b;obtain⟨_,a1,_,f,_⟩:=h;have w1:plusS x (wideS e1 d)=⟨x.Ak+(d.Ak-e1),x.Ar+(d.Ar+e1)⟩:=by
  unfold plusS wideS;simp only;rw[wO (d.Ak-e1),wO (d.Ar+e1),qU (by omega) (by omega),qU (by omega) (by omega)]
 have c:plusS y (wideS e2 d)=⟨y.Ak+(d.Ak-e2),y.Ar+(d.Ar+e2)⟩:=by
  unfold plusS wideS;simp only;rw[wO (d.Ak-e2),wO (d.Ar+e2),qU (by omega) (by omega),qU (by omega) (by omega)]
 rw[w1,c];exact⟨by show -5000000000≤y.Ak+(d.Ak-e2);omega,by show y.Ak+(d.Ak-e2)≤x.Ak+(d.Ak-e1);omega,by show x.Ak+(d.Ak-e1)≤x.Ar+(d.Ar+e1);omega,by show x.Ar+(d.Ar+e1)≤y.Ar+(d.Ar+e2);omega,by show y.Ar+(d.Ar+e2)≤5000000000;omega⟩
structure NdR (s1 s2:Bool×qf):Prop where
 r:s1.1=s2.1
 sl:s1.2.Av=s2.2.Av
 ar:s1.1=true→Nest s1.2.Af s2.2.Af
structure Wd (t1 t2:qk)(M:Nat):Prop where
 o1:TmOk t1 M
 o2:TmOk t2 M
 r:∀ k,k<M→gt t1.As k=gt t2.As k
 sl:∀ k,k<M→gt t1.Av k=gt t2.Av k
 ar:∀ k,k<M→gt t1.As k=true→spanB (gt t1.Af k)=true∧spanB (gt t2.Af k)=true∧Nest (gt t1.Af k) (gt t2.Af k)
section
variable {b:qe}{c:qv}{f:Nat→qh→qh×qh}{e1 e2:Nat→Int}{lv:List Bool}{xs:List qf}{t1 t2:qk}
theorem qrV (h:blockB b=true)(o:cornerB c=true)(r:SpansS b c f)(p:∀ k,0≤e1 k∧e1 k≤e2 k∧e2 k≤1000000000)(i:Wd t1 t2 (2*(places b.Aa).length)){node:Int}{s1 s2:Bool×qf}(g:NdR s1 s2){k:Nat}(l:k<(linksL b).length) :
  NdR (stepS (fE f e1) (linksL b) t1 node s1 k) (stepS (fE f e2) (linksL b) t2 node s2 k):=by
 have a:frN (linksL b) k<2*(places b.Aa).length:=by
  have:=(qeH h (qg9 l)).2.1;unfold frN;omega
 unfold stepS;rw[←i.r _ a,←i.sl _ a];cases hr:gt t1.As (frN (linksL b) k)
 ·exact g
 ·obtain⟨a1,a2,n⟩:=i.ar _ a hr;obtain⟨s,t,u⟩:=qo7 h o r l (i.o1.sl _ a);obtain⟨v,x,y⟩:=p k;have m:=n.plus (d:=(f k (gt t1.Av (frN (linksL b) k))).1) a1 a2 s t u v x y;show NdR (joinS node s1 (plusS _ (wideS (e1 k) _)) (f k (gt t1.Av (frN (linksL b) k))).2) (joinS node s2 (plusS _ (wideS (e2 k) _)) (f k (gt t1.Av (frN (linksL b) k))).2);unfold joinS;rw[←g.r];cases h1:s1.1
  ·exact⟨rfl,rfl,fun _=>m⟩
  ·exact⟨rfl,by show hullS s1.2.Av _=hullS s2.2.Av _;rw[g.sl],fun _=>(g.ar h1).hull m⟩
theorem qtw (h:blockB b=true)(a:cornerB c=true)(g:SpansS b c f)(d:∀ k,0≤e1 k∧e1 k≤e2 k∧e2 k≤1000000000)(l:Wd t1 t2 (2*(places b.Aa).length)){node:Int}{s:Bool×qf}(i:NdR s s) :
  ∀ j,j≤(linksL b).length→NdR (ndS (fE f e1) (linksL b) lv t1 node s j) (ndS (fE f e2) (linksL b) lv t2 node s j):=by
 intro j
 induction j with
 | zero=>intro _;exact i
 | succ j ih=>
  intro m;show NdR (bif toQ (linksL b) lv node j then _ else _) (bif toQ (linksL b) lv node j then _ else _);cases toQ (linksL b) lv node j
  ·exact ih (by omega)
  ·exact qrV h a g d l (ih (by omega)) (by omega)
theorem qt6 (h:blockB b=true)(D:cornerB c=true)(v:SpansS b c f)(F:∀ k,0≤e1 k∧e1 k≤e2 k∧e2 k≤1000000000)(C:SrcOk xs)(A:∀ x,x ∈ xs→spanB x.Af=true) :
  ∀ (R:List Nat) (t1 t2 l:qk),(∀ k,k ∈ R→k<2*(places b.Aa).length)→Wd t1 t2 (2*(places b.Aa).length)→rnO (fE f e2) (linksL b) lv xs R t2=V l →
   ∃ t1',rnO (fE f e1) (linksL b) lv xs R t1=V t1'∧Wd t1' l (2*(places b.Aa).length):=by
 intro R
 induction R with
 | nil=>intro t1 t2 l _ a e;obtain rfl:=Option.some.inj e;exact⟨t1,rfl,a⟩
 | cons k R ih=>
  intro t1 t2 l u a e;have g:=u k (jw ..);have z:NdR (srcV (srcO xs (k:Int))) (srcV (srcO xs (k:Int))):=⟨rfl,rfl,fun t=>by
   cases ho:srcO xs (k:Int) with
   | none=>rw[ho] at t;cases t
   | some y=>exact Nest.refl (A y (qkr ho).2)⟩
  have m:=qtw (lv:=lv) (node:=(k:Int)) h D v F a z (linksL b).length (je _);have r:=qjq (f:=fE f e1) (lv:=lv) (node:=(k:Int)) h v (fun _ _=>rfl) a.o1 C (linksL b).length (je _);have s:=qjq (f:=fE f e2) (lv:=lv) (node:=(k:Int)) h v (fun _ _=>rfl) a.o2 C (linksL b).length (je _);unfold rnO at e ⊢;generalize ndS (fE f e1) (linksL b) lv t1 (k:Int) (srcV (srcO xs (k:Int))) (linksL b).length=s1 at m r ⊢;generalize ndS (fE f e2) (linksL b) lv t2 (k:Int) (srcV (srcO xs (k:Int))) (linksL b).length=s2 at m s e;rw[m.r];cases h1:s2.1
  ·rw[h1] at e;exact ih _ _ _ (fun i hi=>u i (jp _ hi)) a e
  ·rw[h1] at e;have p:=m.ar (by rw[m.r];exact h1);cases h2:spanB s2.2.Af
   ·rw[h2] at e;cases e
   ·rw[h2] at e;have B:spanB s1.2.Af=true:=by
     rw[qnD] at h2 ⊢;obtain⟨_,a1,a2,H,_⟩:=p;omega
    rw[B];refine ih _ _ _ (fun i hi=>u i (jp _ hi)) ⟨qmf a.o1 g r,qmf a.o2 g s,fun j o=>?_,fun j o=>?_,fun j o t=>?_⟩ e
    ·show gt (setS _ _ _) j=gt (setS _ _ _) j;rw[qfa (by rw[a.o1.r];exact g),qfa (by rw[a.o2.r];exact g)];split
     ·exact m.r
     ·exact a.r j o
    ·show gt (setS _ _ _) j=gt (setS _ _ _) j;rw[qfa (by rw[a.o1.s];exact g),qfa (by rw[a.o2.s];exact g)];split
     ·exact m.sl
     ·exact a.sl j o
    ·have n:gt (setS t1.As (k:Int) s1.1) j=true:=t;rw[qfa (by rw[a.o1.r];exact g)] at n;show spanB (gt (setS _ _ _) j)=true∧spanB (gt (setS _ _ _) j)=true∧Nest (gt (setS _ _ _) j) (gt (setS _ _ _) j);rw[qfa (by rw[a.o1.a];exact g),qfa (by rw[a.o2.a];exact g)];by_cases d:j=k
     ·rw[if_pos d,if_pos d];exact⟨B,h2,p⟩
     ·rw[if_neg d,if_neg d];rw[if_neg d] at n;exact a.ar j o n
theorem Wd.start {M:Nat}:Wd (zTm M) (zTm M) M:=⟨qlB,qlB,fun _ _=>rfl,fun _ _=>rfl,fun k b a=>by
 have:gt (zTm M).As k=false:=qmK b;rw[this] at a;cases a⟩
end

theorem qrz (x:Int):W64 x=(x+9223372036854775808) % 18446744073709551616-9223372036854775808:=by
 unfold W64;rw[Go.IntWalk.i64_left];unfold RowKit.wrap64
 rfl
theorem qrG {a d e:Int}:W64 (W64 (a+d)-e)=W64 (a+W64 (d-e)):=by
 simp only[qrz];omega
theorem qsj {a d e:Int}:W64 (W64 (a+d)+e)=W64 (a+W64 (d+e)):=by
 simp only[qrz];omega
theorem qpB {x:Int}:W64 (W64 x)=W64 x:=by
 simp only[qrz];omega
section
variable {b:qe}{c:qv}{ex:List Int}{f:Nat→qh→qh×qh}{lv:List Bool}{t:qk}{xs:List qf}{node:Int}
theorem quC {xs:List qf}{node:Int}(h:SrcOk xs) :
  Ev (fun n=>qd1 xs node n 0 0 0 0 0 false 0) ((srcV (srcO xs node)).2.Bi,(srcV (srcO xs node)).2.Af.Ak,(srcV (srcO xs node)).2.Af.Ar,(srcV (srcO xs node)).2.Av.Ak,(srcV (srcO xs node)).2.Av.Ar,(srcV (srcO xs node)).1,(xs.length:Int)):=by
 have e:∀ n i1 i2 i3 i4 i5 b1 i6,qd1 xs node n i1 i2 i3 i4 i5 b1 i6=qc3 xs node n i1 i2 i3 i4 i5 b1 i6:=by
  intro n
  induction n with
  | zero=>intros;rfl
  | succ n ih=>intros;simp only[qd1,qc3,ih]
 simp only[e];exact quj h
theorem qtz (h:blockB b=true)(r:ex.length=b.Ac.length){k:Nat}(s:k<(linksL b).length){q:qh×qh}(v:q=f k (gt t.Av (frN (linksL b) k)))(a:qh) :
  ∃ e:Int,Ev (fun n=>bif ((gt (linksL b) k).Au==2) then(qgE n b (gt (linksL b) k)).bind fun x=>(idx ex x).bind fun l=>V l else V 0) e ∧
   (⟨W64 (W64 (a.Ak+q.1.Ak)-e),W64 (W64 (a.Ar+q.1.Ar)+e)⟩:qh)=plusS a (wideF b ex f k (gt t.Av (frN (linksL b) k))).1∧q.2=(wideF b ex f k (gt t.Av (frN (linksL b) k))).2:=by
 subst v;obtain⟨d,_,p⟩:=qeH h (qg9 s);unfold wideF exK;rcases d with⟨i,j,m,net,y,hx⟩|⟨j,net,y,hx⟩
 ·have c:((gt (linksL b) k).Au==2)=false:=by rw[hx.kind];rfl
  rw[c,Bool.and_false];refine⟨0,.done,?_,rfl⟩;unfold plusS;simp only[Int.sub_zero,jY,cond_false];rw[qpB,qpB]
 ·have c:((gt (linksL b) k).Au==2)=true:=by rw[hx.kind];rfl
  have g:net<ex.length:=by have:=hx.nl;omega
  have u:=qaQ (qX (qan h));have o:((gt (linksL b) k).To / 2).toNat=j:=by
   have:=hx.half;rw[jz p.1,qU (by omega) (by omega)] at this;omega
  rw[c,decide_eq_true (show 0<ex.length by omega),Bool.and_true,o,hx.net_,jr];refine⟨gt ex net,Ev.bind (qkG h hx) ?_,?_,rfl⟩
  ·rw[qy g];exact .done
  ·simp only[cond_true];unfold plusS wideS;rw[qrG,qsj]
theorem qt9 (h:blockB b=true)(y:SpansS b c f)(l:ex.length=b.Ac.length)(C:lv.length=(linksL b).length)(k:TmOk t (2*(places b.Aa).length))(A:SrcOk xs) :
  Ev (fun n=>qia n b c (linksL b) lv xs ex t node) (ndS (wideF b ex f) (linksL b) lv t node (srcV (srcO xs node)) (linksL b).length):=by
 have o:=qjn h;have z:=o.len;obtain⟨g,m⟩:∃ g,g=wideF b ex f:=⟨_,rfl⟩;have x:=loopF (τ:=Bool×qf) (Lf:=fun n s j=>qc4 b c (linksL b) lv ex t node n s.2.Bi s.2.Af.Ak s.2.Af.Ar s.2.Av.Ak s.2.Av.Ar s.1 j) (S:=fun j=>ndS g (linksL b) lv t node (srcV (srcO xs node)) j) (len:=(linksL b).length)
  (fin:=(fun s:Bool×qf=>(s.2.Bi,s.2.Af.Ak,s.2.Af.Ar,s.2.Av.Ak,s.2.Av.Ar,s.1,((linksL b).length:Int))) (ndS g (linksL b) lv t node (srcV (srcO xs node)) (linksL b).length))
  (fun n=>by simp only[qc4,qt (je _),cond_false])
  (fun j d X a=>by
   obtain⟨e1,i⟩:=qqa o d;have v:ndS g (linksL b) lv t node (srcV (srcO xs node)) (j+1)=bif toQ (linksL b) lv node j then stepS g (linksL b) t node (ndS g (linksL b) lv t node (srcV (srcO xs node)) j) j else ndS g (linksL b) lv t node (srcV (srcO xs node)) j:=rfl;rw[v] at a;generalize ndS g (linksL b) lv t node (srcV (srcO xs node)) j=s at a ⊢;simp only[qc4,qr d,cond_true,qy d,qy (show j<lv.length by omega),jd,e1,qy (show frN (linksL b) j<t.As.length by rw[k.r];exact i),qy (show frN (linksL b) j<t.Af.length by rw[k.a];exact i),qy (show frN (linksL b) j<t.Av.length by rw[k.s];exact i),wS j];unfold toQ lvL toL at a;cases h1:gt lv j
   ·rw[h1] at a;exact a
   rw[h1,jB] at a;cases h2:(gt (linksL b) j).To==node
   ·rw[h2] at a;simp only[bne,h2];exact a
   rw[h2] at a;simp only[bne,h2];unfold stepS at a;cases h3:gt t.As (frN (linksL b) j)
   ·rw[h3] at a;exact a
   rw[h3] at a;simp only[cond_true] at a;obtain⟨_,s1⟩:=y j _ d (k.sl _ i);obtain⟨q,p⟩:∃ q,q=f j (gt t.Av (frN (linksL b) j)):=⟨_,rfl⟩;obtain⟨e,B,r,u⟩:=qtz h l d p (gt t.Af (frN (linksL b) j));rw[←p] at s1;rw[←m] at r u;rw[←r,←u] at a;refine Ev.bind (b:=false) (Ev.now Z) (Ev.ff Z (Ev.bind s1 (Ev.bind B ?_)));unfold joinS at a;cases h4:s.1
   ·rw[h4] at a;exact a
   ·rw[h4] at a;simp only[qje,jd,cond_true];have a1:=qpq (s:=s.2.Af) (t:=(⟨W64 (W64 ((gt t.Af (frN (linksL b) j)).Ak+q.1.Ak)-e),W64 (W64 ((gt t.Af (frN (linksL b) j)).Ar+q.1.Ar)+e)⟩:qh));have a2:=qpq (s:=s.2.Av) (t:=q.2);simp only[cond_true] at a;rw[←a1,←a2] at a;exact a)
 rw[←m];unfold qia;exact Ev.bind (quC A) (Ev.bind x .done)
theorem qum {br:List Int}(h:blockB b=true)(F:SpansS b c f)(y:ex.length=b.Ac.length)(x:br.length≤1048576)(H:SrcOk xs){R:List Nat}(I:∀ k,k ∈ R→k<2*(places b.Aa).length)(J:R.length≤1000) :
  Ev (fun n=>qiT n b c br xs ex (ints R)) (runR (rnO (wideF b ex f) (linksL b) (lvJ b br) xs R (zTm (2*(places b.Aa).length)))):=by
 have N:=qaQ (qX (qan h));have m:=qjZ h;have z:=qjw h;have Q:=qmL (ls:=linksL b) (br:=br) z x;have L:(lvJ b br).length=(linksL b).length:=qka;have C:∀ k s,(wideF b ex f k s).2=(f k s).2:=fun k s=>by
  unfold wideF;cases decide (0<ex.length)&&((gt (linksL b) k).Au==2)<;>rfl
 obtain⟨M,u⟩:∃ M,M=2*(places b.Aa).length:=⟨_,rfl⟩;have S:M≤156:=by omega
 have r:∀ d j t,j+d=R.length→TmOk t M→Ev (fun n=>qck b c xs ex (ints R) (linksL b) (lvJ b br) n t.Av t.Af t.As (j:Int)) (runL (rnO (wideF b ex f) (linksL b) (lvJ b br) xs (R.drop j) t) R.length):=by
  intro d
  induction d with
  | zero=>
   intro j t K g;obtain rfl:j=R.length:=by omega
   rw[List.drop_length];refine Ev.succ ?_;simp only[qck,qcR,qt (je _),cond_false];exact .done
  | succ d ih=>
   intro j t K g;have a:j<R.length:=by omega
   have l:=I _ (jo a);have hi:=qmU a;have D:R.drop j=R[j]::R.drop (j+1):=jQ a;generalize R[j]=k at l hi D;rw[←u] at l;have v:=qt9 (node:=(k:Int)) h F y L (by rw[←u];exact g) H;have p:=qjq (node:=(k:Int)) (lv:=lvJ b br) h F C (by rw[←u];exact g) H (linksL b).length (je _);have P:idx t.As (k:Int)=V (gt t.As k):=qy (by rw[g.r];exact l);have O:idx t.Af (k:Int)=V (gt t.Af k):=qy (by rw[g.a];exact l);have is:idx t.Av (k:Int)=V (gt t.Av k):=qy (by rw[g.s];exact l);have i:∀ n,qck b c xs ex (ints R) (linksL b) (lvJ b br) (n+1) t.Av t.Af t.As (j:Int)=(qia n b c (linksL b) (lvJ b br) xs ex t (k:Int)).bind fun o=>match o with
    | (r4,r5)=>bif (!r4) then qck b c xs ex (ints R) (linksL b) (lvJ b br) n t.Av t.Af t.As ((j+1:Nat):Int) else bif (!spanB r5.Af) then V (.ret (zT,false)) else
     qck b c xs ex (ints R) (linksL b) (lvJ b br) n (setS t.Av (k:Int) r5.Av) (setS t.Af (k:Int) r5.Af) (setS t.As (k:Int) true) ((j+1:Nat):Int):=fun n=>by
    simp only[qck,qcR,qr a,cond_true,hi,jd,qoU,P,O,is,wS j]
    rfl
   rw[D];unfold rnO;generalize ndS (wideF b ex f) (linksL b) (lvJ b br) t (k:Int) (srcV (srcO xs (k:Int))) (linksL b).length=s at v p ⊢;obtain⟨s1,s2⟩:=s;cases s1
   ·exact Ev.step i (Ev.bind v (ih (j+1) t (by omega) g))
   ·cases hsp:spanB s2.Af
    ·refine Ev.step i (Ev.bind v ?_);simp only[hsp];exact .done
    ·refine Ev.step i (Ev.bind v ?_);simp only[hsp];exact ih (j+1) (setT t k (true,s2)) (by omega) (qmf g l p)
 have A:mkS (M:Int) false=V (List.replicate M false):=qjX (by omega);have B:mkS (M:Int) (⟨0,0⟩:qh)=V (List.replicate M zSp):=qjX (by omega);have o2:=r R.length 0 (zTm M) (by omega) qlB;rw[List.drop_zero] at o2;rw[←u] at m ⊢;unfold qiT qkg;refine Ev.bind (qiP h) (Ev.bind Q (Ev.bind m ?_));simp only[A,B,jd];refine Ev.bind o2 ?_;cases rnO (wideF b ex f) (linksL b) (lvJ b br) xs R (zTm M)<;>exact .done
end

theorem qtE {a M:Nat}:(((a:Int)) != (M:Int)) = !(a==M):=by
 rw[jk];simp only[bne_iff_ne,ne_eq,jD,beq_eq_false_iff_ne];omega
section
variable {b:qe}{t:qk}{net:Int}
end
section
variable {b:qe}{t:qk}
end
section
variable {b:qe}{used:List Int}
end

theorem qvy {b:qe}{c:qv}{br:List Int}{xs:List qf}(d:qha b)(f:okS c.Ba)(h:(blockB b&&cornerB c)=false):Ev (fun n=>qfT n b c br xs) ([],1):=by
 have s1:=qgu d;have s2:=qk7 (c:=c) f;unfold qfT;cases h1:blockB b
 ·rw[h1] at s1;exact Ev.bind (b:=true) (Ev.bind s1 (Ev.tt Z .done)) (Ev.tt Z .done)
 ·rw[h1] at s1 h;have a:cornerB c=false:=h;rw[a] at s2;exact Ev.bind (b:=true) (Ev.bind s1 (Ev.ff Z (Ev.bind s2 .done))) (Ev.tt Z .done)
theorem quA {b:qe}{c:qv}{f g:Nat→qh→qh×qh}{lv:List Bool}{xs:List qf}(h:blockB b=true)(o:SpansS b c g)(m:∀ k s,(f k s).2=(g k s).2)(p:SrcOk xs):∀ (R:List Nat) (t d:qk),(∀ k,k ∈ R→k<2*(places b.Aa).length)→TmOk t (2*(places b.Aa).length)→rnO f (linksL b) lv xs R t=V d→TmOk d (2*(places b.Aa).length):=by
 intro R
 induction R with
 | nil=>intro t d _ a e;obtain rfl:=Option.some.inj e;exact a
 | cons k R ih=>
  intro t d l a e;have n:=qjq (node:=(k:Int)) (lv:=lv) h o m a p (linksL b).length (je _);unfold rnO at e;cases h1:(ndS f (linksL b) lv t (k:Int) (srcV (srcO xs (k:Int))) (linksL b).length).1
  ·rw[h1] at e;exact ih _ _ (fun i hi=>l i (jp _ hi)) a e
  ·rw[h1] at e;cases h2:spanB (ndS f (linksL b) lv t (k:Int) (srcV (srcO xs (k:Int))) (linksL b).length).2.Af
   ·rw[h2] at e;cases e
   ·rw[h2] at e;exact ih _ _ (fun i hi=>l i (jp _ hi)) (qmf a (l k (jw ..)) n) e
section
variable {b:qe}{c:qv}{br:List Int}{xs:List qf}{ex:List Int}
theorem qt0 {R:List Nat}(a:TgOk b c br xs R)(x:br.length≤1048576)(y:xs.length≤1048576)(m:ex.length=b.Ac.length) :
  ∃ f,(SpansS b c f∧∀ e:List Int,e.length=0∨e.length=b.Ac.length→SpansI b c e (wideF b e f))∧∃ o:Option qk,(o=rnO (wideF b ex f) (linksL b) (lvJ b br) xs R (zTm (2*(places b.Aa).length))∧∀ t,o=V t→TmOk t (ndB b))∧Ev (fun n=>qiT n b c br xs ex (ints R)) (runR o)∧Ev (fun n=>qcw n (V ⟨V (viewE b ex),lvJ b br⟩) c xs (ints R)) (runR o):=by
 have g:=a.bl;obtain⟨f,u,p⟩:=qtl g a.co;have A:=qaQ (qX (qan g));have v:=a.len;have h:R.length≤1000:=by rw[v];show 2*(places b.Aa).length≤1000;omega
 have l:∀ k,k ∈ R→k<2*(places b.Aa).length:=fun k z=>by
  obtain⟨i,hi,rfl⟩:=List.mem_iff_getElem.1 z;exact(a.ord.at hi).1
 have r:∀ k s,(wideF b ex f k s).2=(f k s).2:=fun k s=>by
  unfold wideF;cases decide (0<ex.length)&&((gt (linksL b) k).Au==2)<;>rfl
 have d:=qoA y a.sr;have o2:=qum (R:=R) g u m x d l h;have C:=qqf (lv:=lvJ b br) (R:=R) g u r (p ex (.inr m)) qka d (fun i hi=>⟨(a.ord.at hi).1,(a.ord.at hi).2.1⟩) h;refine⟨f,⟨u,p⟩,_,⟨rfl,fun t B=>?_⟩,o2,C⟩;exact quA g u r d R (zTm (2*(places b.Aa).length)) t l qlB B
def ExtI (b:qe)(c:qv)(br:List Int)(xs:List qf)(ex:List Int)(t:qk):Prop:=
 ∃ R f,TgOk b c br xs R∧SpansS b c f∧(∀ e:List Int,e.length=0∨e.length=b.Ac.length→SpansI b c e (wideF b e f))∧(ex.length=b.Ac.length∧allN (fun j=>inI (gt ex j) 0 1000000000) ex.length=true)∧rnO (wideF b ex f) (linksL b) (lvJ b br) xs R (zTm (2*(places b.Aa).length))=V t∧Ev (fun n=>qbP n b c br xs U) (grB b br,ints R,0)
theorem qlM (B:qha b)(C:okS c.Ba)(u:br.length≤1048576)(y:xs.length≤1048576)(D:ex.length≤1048576) :
  ∃ R:qk×Int,(R.1.As.length≤156∧R.1.Af.length≤156∧R.1.Av.length≤156)∧Ev (fun n=>qeM n b c br xs ex) R∧Ev (fun n=>qbQ n b c br xs ex) R∧(R.2=0→ExtI b c br xs ex R.1):=by
 have s1:=qgu B;have g:=qmE B;have s2:=qk7 (c:=c) C;have l:=qlX (c:=c) C;have tg:=qvO (br:=br) (xs:=xs) B C u y;have z:∀ code:Int,((zT,code):qk×Int).1.As.length≤156∧((zT,code):qk×Int).1.Af.length≤156∧((zT,code):qk×Int).1.Av.length≤156:=fun _=>⟨jZ _,jZ _,jZ _⟩;unfold qeM qbQ;cases h0:blockB b&&cornerB c
 ·have s:=qvy (br:=br) (xs:=xs) B C h0;rcases tg with⟨code,hne,hs,hi⟩|⟨R,hg,_⟩
  ·have e:code=1:=congrArg Prod.snd (hs.uniq s);subst e;refine⟨(zT,1),z 1,Ev.bind (b:=true) ?_ (Ev.tt Z .done),Ev.bind (b:=false) ?_ (Ev.ff Z (Ev.bind hi (Ev.tt Z .done))),fun e=>by cases e⟩
   ·cases a:blockB b
    ·rw[a] at s1;exact Ev.bind s1 (Ev.tt Z .done)
    ·rw[a] at s1 h0;have m:cornerB c=false:=h0;rw[m] at s2;exact Ev.bind s1 (Ev.ff Z (Ev.bind s2 .done))
   ·cases a:blockB b
    ·rw[a] at g;exact Ev.bind g (Ev.ff Z .done)
    ·rw[a] at g h0;have m:cornerB c=false:=h0;rw[m] at l;exact Ev.bind g (Ev.tt Z (Ev.bind l (Ev.ff Z .done)))
  ·rw[hg.bl,hg.co] at h0;cases h0
 ·rw[jf] at h0;obtain⟨a,m⟩:=h0;rw[a] at s1 g;rw[m] at s2 l;have W:=qiq a;have L:b.Ac.length=b.Aa.Aj.length:=by omega
  have A:Ev (fun n=>(qcH n b).bind fun r1=>bif (!r1) then V true else(qfo n c).bind fun J=>V (!J)) false:=Ev.bind s1 (Ev.ff Z (Ev.bind s2 .done));cases h3:ex.length==b.Aa.Aj.length
  ·have d:((ex.length:Int) != (b.Aa.Aj.length:Int))=true:=by rw[qtE,h3];rfl
   refine⟨(zT,2),z 2,Ev.bind A (Ev.ff Z (Ev.tt d .done)),Ev.bind (b:=true) (Ev.bind g (Ev.tt Z (Ev.bind l (Ev.tt Z (Ev.tt ?_ .done))))) (Ev.tt Z .done),fun e=>by cases e⟩;rw[L];exact d
  ·have d:((ex.length:Int) != (b.Aa.Aj.length:Int))=false:=by rw[qtE,h3];rfl
   have p:((ex.length:Int) != (b.Ac.length:Int))=false:=by rw[L];exact d
   have k:Ev (fun n=>qbb ex n 0) (bif allN (fun j=>inI (gt ex j) 0 1000000000) ex.length then .nxt (ex.length:Int) else .ret (zT,2)):=by
    refine qed (Lf:=qbb ex) (len:=ex.length) (Ev.succ (by simp only[qbb,qt (je _),cond_false];exact .done)) (fun j K X P=>Ev.succ ?_);simp only[qbb,qr K,cond_true,qy K,jd,qcQ,wS j];cases inI (gt ex j) 0 1000000000
    ·exact .done
    ·exact P
   have r:=qeb (xs:=ex) (lo:=0) (hi:=1000000000) D;have N:(ex.all fun x=>inI x 0 1000000000)=allN (fun j=>inI (gt ex j) 0 1000000000) ex.length:=by
    rw[jk,qai,jU];constructor
    ·intro h i hi;rw[qdz hi];exact h _ (jo hi)
    ·intro h x Y;obtain⟨i,hi,rfl⟩:=List.mem_iff_getElem.1 Y;rw[←qdz hi];exact h i hi
   rw[N] at r;cases h5:allN (fun j=>inI (gt ex j) 0 1000000000) ex.length
   ·rw[h5] at k r;exact⟨(zT,2),z 2,Ev.bind A (Ev.ff Z (Ev.ff d (Ev.bind k .done))),Ev.bind (b:=true) (Ev.bind g (Ev.tt Z (Ev.bind l (Ev.tt Z (Ev.ff p (Ev.bind r .done)))))) (Ev.tt Z .done),fun e=>by cases e⟩
   ·rw[h5] at k r;have I:Ev (fun n=>(qf0 n b).bind fun r1=>bif r1 then(qfs n c).bind fun J=>bif J then bif ((ex.length:Int) != (b.Ac.length:Int)) then V true else(qbN n ex 0 1000000000).bind fun r3=>V (!r3) else V false else V false) false:=
     Ev.bind g (Ev.tt Z (Ev.bind l (Ev.tt Z (Ev.ff p (Ev.bind r .done)))))
    rcases tg with⟨code,hne,hs,hi⟩|⟨R,hg,hs,hi⟩
    ·exact⟨(zT,code),z code,Ev.bind A (Ev.ff Z (Ev.ff d (Ev.bind k (Ev.bind hs (Ev.tt (qr6 hne) .done))))),Ev.bind I (Ev.ff Z (Ev.bind hi (Ev.tt (qr6 hne) .done))),fun e=>absurd e hne⟩
    ·have v:ex.length=b.Ac.length:=by rw[beq_iff_eq] at h3;omega
     obtain⟨f,⟨Q,F⟩,o,⟨O,o1⟩,o2,M⟩:=qt0 (ex:=ex) hg u y v;have S:=qaQ (qX (qan a));cases o with
     | none=>
      refine⟨(zT,3),z 3,Ev.bind A (Ev.ff Z (Ev.ff d (Ev.bind k (Ev.bind hs (Ev.ff Z (Ev.bind o2 (Ev.tt Z .done))))))),Ev.bind I (Ev.ff Z (Ev.bind hi ?_)),fun e=>by cases e⟩;unfold grB viewV viewE;dsimp only;exact Ev.bind M (Ev.tt Z .done)
     | some t=>
      have H:=o1 t Z;have hr:=H.r;have ha:=H.a;have T:=H.s;have eM:ndB b=2*(places b.Aa).length:=rfl;refine⟨(t,0),⟨by show t.As.length≤156;omega,by show t.Af.length≤156;omega,by show t.Av.length≤156;omega⟩,Ev.bind A (Ev.ff Z (Ev.ff d (Ev.bind k (Ev.bind hs (Ev.ff Z (Ev.bind o2 (Ev.ff Z .done))))))),Ev.bind I (Ev.ff Z (Ev.bind hi ?_)),fun _=>⟨R,f,hg,Q,F,⟨v,h5⟩,O.symm,hi⟩⟩;unfold grB viewV viewE;dsimp only;exact Ev.bind M (Ev.ff Z .done)
end
end Go.Fw


namespace Go.Fw
open Go Go.Proofs Go.Proofs.Tryz
open Go.RowKit (Below)
set_option maxRecDepth 100000
set_option maxHeartbeats 6400000
variable {n:Nat}{w:World}{cs1 cs2 cs3 cs4 cs5 cs6 cs7 cs8 cs9:List Value}
def qoC (_:Nat)(code:(List (IntK .u8))):Option Bool :=V (decide ((code.length:Int) > 4096))
theorem qqR {code:(List (IntK .u8))}(a:Ro w code cs1){r:Bool}(F:qoC n code=V r):RetV prog 9 [GoT.v (List (IntK .u8)) cs1] w r:=by
 obtain⟨_,_,rfl,_⟩:=a;exact zV 6 func9 Z fun h=>X0 11 Z (rb h F Z)
def qkh (n:Nat)(a_0:(List (IntK .u8))):Option Bool :=(qoC n a_0).bind fun r1 =>bif r1 then V true else(qdc n a_0).bind fun o=>match o with| (d,f,g,h,u) =>(qbQ n d f g h u).bind fun o=>match o with| (v,c) =>(qeM n d f g h u).bind fun o=>match o with| (i,k) =>(bif (c != k) then V true else(qih n v i).bind fun t =>V (!t)).bind fun b1 =>bif b1 then V false else bif (c != 0) then V true else(mkS (u.length:Int) (0:Int)).bind fun x =>(qbQ n d f g h x).bind fun o=>match o with| (a,l) =>(qe3 n d f g h).bind fun o=>match o with| (b,m) =>bif (l==0) then bif (m==0) then(qih n (⟨a.As,a.Af,a.Av⟩:qk) b).bind fun p =>bif p then(qiH n b v).bind fun r =>bif r then(qfL n b.Av v.Av).bind fun s =>V s else V false else V false else V false else V false
theorem qnn {a_0:(List (IntK .u8))}(ha1:Ro w a_0 cs1){r:Bool}(F:qkh n a_0=V r):RetV prog 4 [GoT.v (List (IntK .u8)) cs1] w r:=by
 obtain⟨_,_,rfl,s1⟩:=ha1;refine zV 97 func4 Z fun h=>X0 8 Z (zcB h F (qqR ⟨_,_,rfl,(h.oldS s1)⟩) Z fun _ _ h F=>qbe (ql Z F ?_ ?_))<;>intro F
 ·exact X0 4 Z (rb h F Z)
 refine X0 4 Z ?_;have M:Rg (old w) w (old w) w:=.start (fun _ h=>h);obtain⟨⟨N,B,O,P,R⟩,hr2,F⟩:=qd F;refine qup (N,B,O,P,R) M h (cB 15 Z) (qi5 (M.atB h) ⟨_,_,rfl,(M.inBS h s1)⟩ hr2) Z Z Z Z fun _ _ S1 h hv1=>?_;obtain⟨_,_,rfl,b5,hv2⟩:=qjO hv1;have hr4:=b5;obtain⟨p2,k2,p3,k3,p4,k4,p5,k5,p6,k6,rfl,_,_,_,_,_⟩:=qL b5;replace h:=h.grpAdd 0 Z hr4;obtain⟨_,_,rfl,c6,hv3⟩:=qjO hv2;have hr6:=c6;obtain rfl:=qaS c6;obtain⟨_,_,rfl,c7,hv4⟩:=qjO hv3;have hr8:=c7;obtain⟨p7,k7,rfl,_⟩:=c7;replace h:=h.grpAdd 0 Z hr8;obtain⟨_,_,rfl,c8,hv5⟩:=qjO hv4;have a3:=c8;obtain⟨p8,k8,rfl,_⟩:=c8;replace h:=h.grpAdd 0 Z a3;obtain⟨_,rfl,C⟩:=ql2 hv5;have a4:=C;obtain⟨p9,k9,rfl,_⟩:=C;replace h:=h.grpAdd 0 Z a4;refine X0 6 Z (qj qa h Z Z Z fun _ k h=>qj qa h Z Z Z fun _ l h=>zs 1 h Z fun _ h=>zs 0 h Z fun _ h=>X2 11 1 0 h Z ?_);obtain⟨⟨Q,d5⟩,a5,F⟩:=qd F;refine qbI (Q,d5) h (cB 16 Z) (qdv (h.grp 2 3 Z Z) (qeg B) (h.grp 2 2 Z Z) (h.grp 2 1 Z Z) (h.grp 2 0 Z Z) a5) Z Z Z Z fun _ _ _ hv6 a6=>?_;obtain⟨S3,_,_,_,rfl,d4,a7⟩:=hv6.cons a6;obtain⟨v,o,x,p,y,s,rfl,-,-,-⟩:=qaK (d4.sh.own 0 Z);obtain⟨rfl,h⟩:=d4.lastI a7;refine zp3 Z (qj qa h Z Z Z fun _ m h=>zs 0 h Z fun _ h=>X2 10 3 2 h Z ?_);obtain⟨⟨r12,r13⟩,a8,F⟩:=qd F;refine qbI (r12,r13) h (cB 17 Z) (qkl (h.grp 4 3 Z Z) (qeg B) (h.grp 4 2 Z Z) (h.grp 4 1 Z Z) (h.grp 4 0 Z Z) a8) Z Z Z Z fun _ _ _ hv9 a9=>?_;obtain⟨_,_,_,_,rfl,D,b4⟩:=hv9.cons a9;obtain⟨_,_,_,_,_,_,rfl,-,-,-⟩:=qaK (D.sh.own 0 Z);obtain⟨rfl,h⟩:=D.lastI b4;refine zp3 Z (qj qa h Z Z Z fun _ _ h=>zs 0 h Z fun _ h=>X0 3 Z ?_);obtain⟨KF1,Y,_,F,X⟩:=bindE F;refine qaF (fun e w'=>∃(b1:Bool),KF1 b1=V r∧e=[(3,.pointer (V ⟨k,0,U⟩)),(4,.pointer (V ⟨l,0,U⟩)),(5,.slice p7 O.length k7),(6,.slice p8 P.length k8),(7,.slice p9 R.length k9),(8,.pointer (V ⟨m,0,U⟩)),(9,.int .i64 d5),(52,.bool b1)]∧SH w w' [Ch.box m (qaB Q v x y o p s) 55,Ch.own S3 (Q:qk) (qaB Q v x y o p s),Ch.box l (qW B) 36,Ch.box k (qx N p2 p3 p4 p5 p6 k2 k3 k4 k5 k6) 34,Ch.grp (old w) S1 [fct (R:(List Int)) [.slice p9 R.length k9],fct (P:(List qf)) [.slice p8 P.length k8],fct (O:(List Int)) [.slice p7 O.length k7],fct (N:qe) (qx N p2 p3 p4 p5 p6 k2 k3 k4 k5 k6)]]) ?_ ?_
 ·refine X0 5 Z (qg (t:=47) F Z ?_ ?_)<;>intro F
  ·refine X0 6 Z ?_;replace h:=h.pick [2,3,4,5,6] Z;obtain rfl:=qc F;exact rG ⟨_,X,rfl,h⟩ Z
  refine X2 5 2 0 h Z (zcB h F (qlg (h.own 3 Z) (h.own 1 Z)) Z fun _ _ h F=>X0 4 Z ?_);replace h:=h.pick [2,3,4,5,6] Z;obtain rfl:=qc F;exact rG ⟨_,X,rfl,h⟩ Z
 rintro _ _ ⟨b1,F,rfl,h⟩;subst Y;refine ql Z F ?_ ?_<;>intro F
 ·refine X0 4 Z ?_;replace h:=h.pick [0,1,2,3] Z;exact rb h F Z
 refine X0 7 Z (ql Z F ?_ ?_)<;>intro F
 ·refine X0 4 Z ?_;replace h:=h.pick [0,1,2,3] Z;exact rb h F Z
 refine zKS ?_;obtain⟨_,b,F⟩:=qd F;obtain⟨⟨a,A⟩,c,F⟩:=qd F;refine qaF (fun e w'=>∃(L:Nat) (S:Nat→Prop) (g:Option Addr) (d:Nat) (T:Nat→Prop) (i:Option Addr) (f:Nat) (W:Nat→Prop) (z:Option Addr) (u:Nat),e=[(3,.pointer (V ⟨k,0,U⟩)),(4,.pointer (V ⟨l,0,U⟩)),(5,.slice p7 O.length k7),(6,.slice p8 P.length k8),(8,.pointer (V ⟨m,0,U⟩)),(12,.pointer (V ⟨L,0,U⟩)),(13,.int .i64 A)]∧SH w w' [Ch.box L (qaB a z i g u f d) 55,Ch.own S (a.Av:List qh) [.slice g a.Av.length d],Ch.own T (a.Af:List qh) [.slice i a.Af.length f],Ch.own W (a.As:List Bool) [.slice z a.As.length u],Ch.box m (qaB Q v x y o p s) 55,Ch.own S3 (Q:qk) (qaB Q v x y o p s),Ch.box l (qW B) 36,Ch.box k (qx N p2 p3 p4 p5 p6 k2 k3 k4 k5 k6) 34,Ch.grp (old w) S1 [fct (R:(List Int)) [.slice p9 R.length k9],fct (P:(List qf)) [.slice p8 P.length k8],fct (O:(List Int)) [.slice p7 O.length k7],fct (N:qe) (qx N p2 p3 p4 p5 p6 k2 k3 k4 k5 k6)]]) ?_ ?_
 ·refine rA [] [2,3] h Z fun _ h=>M2 63 [0,1,2,3,4,5] 1 0 (h.pick [2,3] Z) Z (At 6 11 127 2111 Z ?_ ?_)
  ·obtain⟨g7,g8,b⟩:=qab b;refine qaq qa Int h Z Z Z Z Z Z Z Z Z g7 g8 b Z fun _ _ _ h=>Ag (h.pick [3,4] Z) (At 7 11 255 2175 Z ?_ ?_)
   ·refine qbI (a,A) h (cB 16 Z) (qdv (h.grp 5 3 Z Z) (qeg B) (h.grp 5 2 Z Z) (h.grp 5 1 Z Z) (h.own 0 Z) c) Z Z Z Z fun _ _ _ c9 b6=>?_;obtain⟨_,_,_,_,rfl,H,b7⟩:=c9.cons b6;obtain⟨_,_,_,_,_,_,rfl,-,-,-⟩:=qaK (H.sh.own 0 Z);obtain⟨rfl,h⟩:=H.lastI b7;obtain⟨_,_,_,h⟩:=qhl h;refine G0 2047 [8,9,10] (h.pick [6,7] Z) Z (Ao 11 4095 Z (qj qa h Z Z Z fun _ _ h=>Ag (h.pick [7,8] Z) (Ao 12 8191 Z (zs 0 h Z fun _ h=>G0 16383 [13] (h.pick [7,8] Z) Z (Ad ?_)))));replace h:=h.pick [0,1,2,3,5,6,7,8,9] Z;exact rG ⟨_,_,_,_,_,_,_,_,_,_,rfl,h⟩ Z
   refine qj qa h Z Z Z fun _ _ h=>Ag (h.pick [4,5] Z) (Ao 7 2303 Z (qbI (a,A) h (cB 16 Z) (qdv (h.grp 6 3 Z Z) (qeg B) (h.grp 6 2 Z Z) (h.grp 6 1 Z Z) (h.own 1 Z) c) Z Z Z Z fun _ _ _ d0 b8=>?_));obtain⟨_,_,_,_,rfl,I,b9⟩:=d0.cons b8;obtain⟨_,_,_,_,_,_,rfl,-,-,-⟩:=qaK (I.sh.own 0 Z);obtain⟨rfl,h⟩:=I.lastI b9;obtain⟨_,_,_,h⟩:=qhl h;refine G0 4095 [8,9,10] (h.pick [7,8] Z) Z (Ao 12 8191 Z (zs 3 h Z fun _ h=>G0 16383 [13] (h.pick [7,8] Z) Z (Ad ?_)));replace h:=h.pick [3,0,1,2,5,6,7,8,9] Z;exact rG ⟨_,_,_,_,_,_,_,_,_,_,rfl,h⟩ Z
  refine qj qa h Z Z Z fun _ _ h=>Ag (h.pick [3,4] Z) (Ao 6 2175 Z ?_);obtain⟨g9,g10,b⟩:=qab b;refine qaq qa Int h Z Z Z Z Z Z Z Z Z g9 g10 b Z fun _ _ _ h=>Ag (h.pick [4,5] Z) (Ao 7 2303 Z (qbI (a,A) h (cB 16 Z) (qdv (h.grp 6 3 Z Z) (qeg B) (h.grp 6 2 Z Z) (h.grp 6 1 Z Z) (h.own 0 Z) c) Z Z Z Z fun _ _ _ d1 c0=>?_));obtain⟨_,_,_,_,rfl,J,c2⟩:=d1.cons c0;obtain⟨_,_,_,_,_,_,rfl,-,-,-⟩:=qaK (J.sh.own 0 Z);obtain⟨rfl,h⟩:=J.lastI c2;obtain⟨_,_,_,h⟩:=qhl h;refine G0 4095 [8,9,10] (h.pick [7,8] Z) Z (Ao 12 8191 Z (zs 4 h Z fun _ h=>G0 16383 [13] (h.pick [7,8] Z) Z (Ad ?_)));replace h:=h.pick [4,0,1,2,5,6,7,8,9] Z;exact rG ⟨_,_,_,_,_,_,_,_,_,_,rfl,h⟩ Z
 rintro _ _ ⟨L,S,g,d,T,i,f,W,z,u,rfl,h⟩;refine X2 6 7 6 h Z ?_;obtain⟨⟨r18,r19⟩,c3,F⟩:=qd F;refine qbI (r18,r19) h (cB 19 Z) (qkp (h.grp 8 3 Z Z) (qeg B) (h.grp 8 2 Z Z) (h.grp 8 1 Z Z) c3) Z Z Z Z fun _ _ _ d3 c4=>?_;obtain⟨_,_,_,_,rfl,K,c5⟩:=d3.cons c4;obtain⟨_,_,_,_,_,_,rfl,-,-,-⟩:=qaK (K.sh.own 0 Z);obtain⟨rfl,h⟩:=K.lastI c5;refine zp3 Z (qj qa h Z Z Z fun _ _ h=>zs 0 h Z fun _ h=>X0 7 Z (qg (t:=76) F Z ?_ ?_))<;>intro F
 ·refine X0 6 Z (qg (t:=80) F Z ?_ ?_)<;>intro F
  ·refine X2 5 2 0 h Z (zcB h F (qlg ⟨[.slice z a.As.length u],[.slice i a.Af.length f,.slice g a.Av.length d],rfl,(h.own 5 Z),⟨[.slice i a.Af.length f],[.slice g a.Av.length d],rfl,(h.own 4 Z),(h.own 3 Z)⟩⟩ (h.own 1 Z)) Z fun _ _ h F=>zp2 Z (qg (t:=85) F Z ?_ ?_))<;>intro F
   ·refine X2 5 0 6 h Z (zcB h F (qnK (h.own 1 Z) (h.own 7 Z)) Z fun _ _ h F=>zp2 Z (qg (t:=90) F Z ?_ ?_))<;>intro F
    ·refine X2 9 0 6 h Z (zcB h F (qh6 ⟨_,_,rfl,(qn8 (h.own 1 Z)).2.2.1⟩ ⟨_,_,rfl,(qn8 (h.own 7 Z)).2.2.1⟩) Z fun _ _ h F=>X0 3 Z ?_);replace h:=h.pick [0,1,2,3,4,5,6,7,8,9] Z;exact rb h F Z
    refine X0 8 Z ?_;replace h:=h.pick [0,1,2,3,4,5,6,7,8,9] Z;exact rb h F Z
   refine X0 13 Z ?_;replace h:=h.pick [0,1,2,3,4,5,6,7,8,9] Z;exact rb h F Z
  refine X0 18 Z ?_;replace h:=h.pick [0,1,2,3,4,5,6,7,8,9] Z;exact rb h F Z
 refine X0 22 Z ?_;replace h:=h.pick [0,1,2,3,4,5,6,7,8,9] Z;exact rb h F Z

end Go.Fw


namespace Go.Fw
open Go
set_option maxRecDepth 100000
section
variable {b:qe}{c:qv}{br:List Int}{xs:List qf}{ex:List Int}{g f1 f2:Nat→qh→qh×qh}{lv:List Bool}{t:qk}
theorem qrD (c:blockB b=true)(d:TmOk t (2*(places b.Aa).length))(a:∀ k s,k<(linksL b).length→slR s→f1 k s=f2 k s){node:Int}{s0:Bool×qf}:∀ j,j≤(linksL b).length→ndS f1 (linksL b) lv t node s0 j=ndS f2 (linksL b) lv t node s0 j:=by
 intro j
 induction j with
 | zero=>intro _;rfl
 | succ j ih=>
  intro f;unfold ndS;rw[ih (by omega)];cases toQ (linksL b) lv node j
  ·rfl
  ·simp only[cond_true];unfold stepS;rw[a j _ (by omega) (d.sl _ (qqa (qjn c) (show j<(linksL b).length by omega)).2)]
theorem qnl (l:blockB b=true)(n:SpansS b c g)(m:∀ k s,(f1 k s).2=(g k s).2)(d:∀ k s,k<(linksL b).length→slR s→f1 k s=f2 k s)(o:SrcOk xs) :
  ∀ (R:List Nat) (t:qk),(∀ k,k ∈ R→k<2*(places b.Aa).length)→TmOk t (2*(places b.Aa).length)→rnO f1 (linksL b) lv xs R t=rnO f2 (linksL b) lv xs R t:=by
 intro R
 induction R with
 | nil=>intro t _ _;rfl
 | cons k R ih=>
  intro t f a;have e:=qrD (lv:=lv) (node:=(k:Int)) (s0:=srcV (srcO xs (k:Int))) l a d (linksL b).length (je _);have h:=qjq (node:=(k:Int)) (lv:=lv) l n m a o (linksL b).length (je _);unfold rnO;rw[←e,ih _ (fun i hi=>f i (jp _ hi)) a,ih _ (fun i hi=>f i (jp _ hi)) (qmf a (f k (jw ..)) h)]
theorem qpP {s:qh}(a:0≤s.Ak)(b:s.Ak≤s.Ar)(c:s.Ar≤5000000):wideS 0 s=s:=by
 unfold wideS;rw[Int.sub_zero,jY,qU (by omega) (by omega),qU (by omega) (by omega)]
def exQ (b:qe)(ex:List Int)(k:Nat):Int:=bif (gt (linksL b) k).Au==2 then exK b ex k else 0
theorem qrZ (d:blockB b=true)(l:cornerB c=true)(n:SpansS b c g)(h:ex.length=b.Ac.length):∀ k s,k<(linksL b).length→slR s→wideF b ex g k s=fE g (exQ b ex) k s:=by
 intro k s f p;obtain⟨r,t,u⟩:=qo7 d l n f p;unfold wideF fE exQ;cases hkd:(gt (linksL b) k).Au==2
 ·rw[Bool.and_false];simp only[cond_false];rw[qpP r t u]
 ·have o:decide (0<ex.length)=true:=by
   obtain⟨a,_⟩:=qeH d (qg9 f);rcases a with⟨i,j,m,net,y,hx⟩|⟨j,net,y,hx⟩
   ·rw[hx.kind] at hkd;cases hkd
   ·have:=hx.nl;exact decide_eq_true (by omega)
  rw[o,Bool.and_true]
  rfl
theorem quP {k:Nat}(h:allN (fun j=>inI (gt ex j) 0 1000000000) ex.length=true):0≤exQ b ex k∧exQ b ex k≤1000000000:=by
 have all:∀ i,0≤gt ex i∧gt ex i≤1000000000:=fun i=>by
  by_cases hi:i<ex.length
  ·rw[qai] at h;have:=h i hi;rw[qa5] at this;exact this
  ·have:gt ex i=0:=by unfold gt;rw[jx,List.getElem?_eq_none (by omega)];rfl
   rw[this];omega
 unfold exQ exK;cases (gt (linksL b) k).Au==2
 ·exact⟨jR _,by show(0:Int)≤_;omega⟩
 ·exact all _
theorem qvv {R:List Nat}(p:qha b)(r:okS c.Ba)(l:ex.length≤1048576)(v:xs.length≤1048576)(a:TgOk b c br xs R)(H:SpansS b c g)(o:SpansI b c ex (wideF b ex g))(m:ex.length=b.Ac.length)(y:allN (fun j=>inI (gt ex j) 0 1000000000) ex.length=true)
  (e:rnO (wideF b ex g) (linksL b) (lvJ b br) xs R (zTm (2*(places b.Aa).length))=V t) (hi:Ev (fun n=>qbP n b c br xs U) (grB b br,ints R,0)):Ev (fun n=>qbQ n b c br xs ex) (t,0):=by
 have d:=a.bl;have A:=qmE p;have B:=qlX (c:=c) r;rw[d] at A;rw[a.co] at B;have I:=qaQ (qX (qan d));have h:=a.len;have f:R.length≤1000:=by rw[h];show 2*(places b.Aa).length≤1000;omega
 have u:∀ k s,(wideF b ex g k s).2=(g k s).2:=fun k s=>by
  unfold wideF;cases decide (0<ex.length)&&((gt (linksL b) k).Au==2)<;>rfl
 have C:=qqf (lv:=lvJ b br) (R:=R) d H u o qka (qoA v a.sr) (fun i hi=>⟨(a.ord.at hi).1,(a.ord.at hi).2.1⟩) f;rw[e] at C;have z:=qeb (xs:=ex) (lo:=0) (hi:=1000000000) l;have D:(ex.all fun x=>inI x 0 1000000000)=true:=by
  rw[qai] at y;rw[jU];intro x J;obtain⟨i,hi,rfl⟩:=List.mem_iff_getElem.1 J;rw[←qdz hi];exact y i hi
 rw[D] at z;have F:((ex.length:Int) != (b.Ac.length:Int))=false:=by rw[m];simp
 unfold qbQ;refine Ev.bind (b:=false) (Ev.bind A (Ev.tt Z (Ev.bind B (Ev.tt Z (Ev.ff F (Ev.bind z .done)))))) (Ev.ff Z (Ev.bind hi ?_));unfold grB viewV viewE;dsimp only;exact Ev.bind C (Ev.ff Z .done)
theorem qtK {R:List Nat}(k:xs.length≤1048576)(a:TgOk b c br xs R)(o:SpansS b c g)(h:SpansI b c [] (wideF b [] g))
  (e:rnO g (linksL b) (lvJ b br) xs R (zTm (2*(places b.Aa).length))=V t) (hi:Ev (fun n=>qbP n b c br xs U) (grB b br,ints R,0)):Ev (fun n=>qe3 n b c br xs) (t,0):=by
 have l:=a.bl;have p:=qaQ (qX (qan l));have f:=a.len;have d:R.length≤1000:=by rw[f];show 2*(places b.Aa).length≤1000;omega
 have m:=qqf (lv:=lvJ b br) (R:=R) l o (fun _ _=>rfl) h qka (qoA k a.sr) (fun i hi=>⟨(a.ord.at hi).1,(a.ord.at hi).2.1⟩) d;rw[e] at m;unfold qe3;exact Ev.bind hi (Ev.ff Z (Ev.bind m (Ev.ff Z .done)))
end
theorem qmI {xs ys:List qh}(d:xs.length≤1048576)(c:xs=ys):Ev (fun n=>qfL n xs ys) true:=by
 subst c;have a:Ev (fun n=>qcO xs xs n 0) (.nxt (xs.length:Int)):=by
  refine qrA (τ:=Unit) (st:=fun _=>()) (Lf:=fun n _ i=>qcO xs xs n i) (len:=xs.length) (Ev.succ ?_) (fun i hi X b=>Ev.succ ?_)
  ·simp only[qcO];exact Ev.ff (qt (je _)) .done
  ·simp only[qcO,wS i];exact Ev.tt (qr hi) (Ev.bindN (qa2 hi) (Ev.bindN (qa2 hi) (Ev.ff (by simp) b)))
 unfold qfL;exact Ev.ff (by simp) (Ev.bind a .done)
theorem qoE {t:qk}(f:t.As.length≤1048576)(c:t.Af.length≤1048576)(d:t.Av.length≤1048576):Ev (fun n=>qih n t t) true:=by
 have a:Ev (fun n=>qdP t t n 0) (.nxt (t.As.length:Int)):=by
  refine qrA (τ:=Unit) (st:=fun _=>()) (Lf:=fun n _ i=>qdP t t n i) (len:=t.As.length) (Ev.succ ?_) (fun i hi X b=>Ev.succ ?_)
  ·simp only[qdP];exact Ev.ff (qt (je _)) .done
  ·simp only[qdP,wS i];exact Ev.tt (qr hi) (Ev.bindN (qa2 hi) (Ev.bindN (qa2 hi) (Ev.ff (by simp) b)))
 unfold qih;exact Ev.ff (by simp) (Ev.bind a (Ev.bind (qmI c Z) (Ev.tt Z (Ev.bind (qmI d Z) .done))))
theorem qso {d f:qk}{M:Nat}(s:M≤1000)(a:Wd d f M):Ev (fun n=>qiH n d f) true:=by
 have g:=a.o1.r;have m:=a.o1.a;have o:=a.o2.r;have p:=a.o2.a;have r:Ev (fun n=>qcr d f n 0) (.nxt (M:Int)):=by
  refine qrA (τ:=Unit) (st:=fun _=>()) (Lf:=fun n _ i=>qcr d f n i) (len:=M) (Ev.succ ?_) (fun i hi X h=>Ev.succ ?_)
  ·simp only[qcr,g];exact Ev.ff (qt (je _)) .done
  ·simp only[qcr,g,wS i];refine Ev.tt (qr hi) (Ev.bindN (qy (by omega)) (Ev.bif (fun l=>?_) (fun _=>h)));obtain⟨_,_,k⟩:=a.ar i hi l;have c:=a.r i hi;rw[l] at c;have n1:=k.e1;have t:=k.l1;refine Ev.bindN (qy (by omega)) (Ev.ff (by rw[←c];rfl) (Ev.bindN (qy (by omega)) (Ev.bindN (qy (by omega)) (Ev.ff (decide_eq_false (by omega)) (Ev.bindN (qy (by omega)) (Ev.bindN (qy (by omega)) (Ev.ff (decide_eq_false (by omega)) h)))))))
 unfold qiH;refine Ev.bind (b:=false) ?_ (Ev.ff Z (Ev.bind r .done));rw[g,m,o,p];exact Ev.ff (by simp) (Ev.ff (by simp) (Ev.now (by simp)))
theorem qtd {c d:qk}{M:Nat}(a:Wd c d M):c.Av=d.Av:=by
 refine Ja (by rw[a.o1.s,a.o2.s]) fun i b f=>?_;rw[←qdz b,←qdz f];exact a.sl i (by rw[←a.o1.s];exact b)
section
variable {code:List (IntK .u8)}
theorem qpW (h:rngL rng8 code):Ev (fun n=>qkh n code) true:=by
 unfold qkh qoC;refine Ev.bindN Z (Ev.bif (fun _=>.done) (fun W=>?_));have W:code.length≤4096:=by have:=of_decide_eq_false W;omega
 obtain⟨⟨b,c,br,xs,ex⟩,hd,r,D⟩:=qsN (code:=code) ⟨by omega,h.2⟩;dsimp only at r D;have C:=D.len;have m:=r.sr.len;obtain⟨⟨t,X⟩,⟨l1,l2,l3⟩,A,hi,J⟩:=qlM r.bl.ok r.co.Ba r.br_.len m C;dsimp only at l1 l2 l3 J;have hT:=qoE (t:=t) (by omega) (by omega) (by omega);refine Ev.bind hd (Ev.bind hi (Ev.bind A (Ev.bind (b:=false) (Ev.ff (by simp) (Ev.bind hT .done)) (Ev.ff Z (Ev.bif (fun _=>.done) (fun N=>?_))))));have N:X=0:=by simpa using N
 obtain⟨R,f,a,g,F,⟨p,Y⟩,M,H⟩:=J N;have o:=a.bl;have hpl:=qaQ (qX (qan o));have d:∀ k,k ∈ R→k<2*(places b.Aa).length:=fun k h=>by
  obtain⟨i,hi,rfl⟩:=List.mem_iff_getElem.1 h;exact(a.ord.at hi).1
 have l:=qoA m a.sr;have I:∀ (e:List Int) k s,(wideF b e f k s).2=(f k s).2:=fun e k s=>by
  unfold wideF;cases decide (0<e.length)&&((gt (linksL b) k).Au==2)<;>rfl
 have e1:=qnl (lv:=lvJ b br) o g (I ex) (qrZ o a.co g p) l R _ d qlB;rw[M] at e1;have u:∀ x,x ∈ xs→spanB x.Af=true:=fun x J=>by
  have v:=a.sr;unfold srcB at v;rw[qai] at v;obtain⟨i,hi,rfl⟩:=List.mem_iff_getElem.1 J;have:=v i hi;rw[←qdz hi];simp only[jf] at this;exact this.2.2.1
 obtain⟨tp,r1,B⟩:=qt6 (lv:=lvJ b br) (e1:=fun _=>0) o a.co g (fun k=>by have:=quP (b:=b) (k:=k) Y;exact⟨jR _,this.1,this.2⟩) l u R _ _ _ d Wd.start e1.symm;have S:∀ k s,k<(linksL b).length→slR s→fE f (fun _=>0) k s=f k s:=fun k s h A=>by
  obtain⟨q0,q1,q2⟩:=qo7 o a.co g h A;show(wideS 0 (f k s).1,(f k s).2)=f k s;rw[qpP q0 q1 q2]
 have K:=qnl (lv:=lvJ b br) (f1:=fE f (fun _=>0)) o g (fun _ _=>rfl) S l R _ d qlB;rw[r1] at K;have hP:=qtK m a g (F [] (.inl Z)) K.symm H;have y:(List.replicate ex.length (0:Int)).length=b.Ac.length:=by rw[jC];exact p
 have O:allN (fun j=>inI (gt (List.replicate ex.length (0:Int)) j) 0 1000000000) (List.replicate ex.length (0:Int)).length=true:=by
  rw[qai];intro j T;rw[jC] at T;rw[qmK T]
  rfl
 have P:∀ k,exQ b (List.replicate ex.length (0:Int)) k=0:=fun k=>by
  have z:∀ i,gt (List.replicate ex.length (0:Int)) i=0:=fun i=>by
   by_cases hi:i<ex.length
   ·exact qmK hi
   ·unfold gt;rw[jx,List.getElem?_eq_none (by rw[jC];omega)];rfl
  unfold exQ exK;cases h:(gt (linksL b) k).Au==2
  ·rfl
  ·exact z _
 have Q:=qnl (lv:=lvJ b br) (f2:=f) o g (I (List.replicate ex.length 0)) (fun k s h A=>by
  rw[qrZ o a.co g y k s h A,←S k s h A];unfold fE;rw[P]) l R _ d qlB
 rw[←K] at Q;have hZ:=qvv (ex:=List.replicate ex.length 0) r.bl.ok r.co.Ba (by rw[jC];exact C) m a g (F _ (.inr y)) y O Q H;have hm:mkS (ex.length:Int) (0:Int)=V (List.replicate ex.length 0):=qjX (by omega);have w1:=B.o1.r;have w2:=B.o1.a;have w3:=B.o1.s;have L:=qoE (t:=tp) (by omega) (by omega) (by omega);exact Ev.bindN hm (Ev.bind hZ (Ev.bind hP (Ev.tt Z (Ev.tt Z (Ev.bind L (Ev.tt Z (Ev.bind (qso (by omega) B) (Ev.tt Z (Ev.bind (qmI (by omega) (qtd B)) .done)))))))))
end
end Go.Fw
