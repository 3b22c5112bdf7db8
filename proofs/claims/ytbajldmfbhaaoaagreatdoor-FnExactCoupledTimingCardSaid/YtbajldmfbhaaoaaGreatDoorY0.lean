/- Plain laws: the specification's links; live links. -/
import Derived.Test.YtbajldmfbhaaoaaGreatDoorW7
import Derived.Test.YtbajldmfbhaaoaaGreatDoorB9
import Derived.Test.YtbajldmfbhaaoaaGreatDoorW3
import Derived.Test.YtbajldmfbhaaoaaGreatDoorA2
import Derived.Test.YtbajldmfbhaaoaaGreatDoorFw33
open Option renaming bind_some → jd, some → V, none → U
open Nat renaming le_refl → je, le_of_ble_eq_true → jp, mul_le_mul_right → js, lt_of_lt_of_le → jw, succ_mul → jO, zero_add → jW, le_trans → Jb, add_zero → Jh
open Bool renaming and_eq_true → jf, eq_iff_iff → jk, true_and → jx, not_eq_true' → jF, not_true → jV, false_or → Jj
open Go.Result renaming andThen_ok → jg
open List renaming length_append → jh, getElem?_eq_getElem → ji, mem_cons_of_mem → jo, getElem_mem → jq, append_assoc → jr, length_singleton → jt, mem_cons_self → ju, getElem?_append_left → jv, length_map → jy, getElem?_take → jz, take_succ_eq_append_getElem → jB, getElem?_append_right → jC, getD_eq_getElem?_getD → jD, take_length → jG, getElem?_toArray → jH, all_eq_true → jI, size_toArray → jJ, length_replicate → jK, eq_nil_of_length_eq_zero → jL, drop_eq_getElem_cons → jM, map_append → jN, length_take → jP, not_mem_nil → jQ, getElem_of_mem → jR, mem_append_left → jS, append_nil → jU, mem_of_getElem? → jX, mem_cons → Ja, range_succ → Jd, length_cons → Je, ext_getElem → Jf, map_cons → Jg
open Go.Sem renaming run_bind → jj, run_pure → jm
open Int renaming toNat_natCast → jn, tdiv_eq_ediv_of_nonneg → jE, mul_nonneg → jT, le_refl → jY, mul_assoc → jZ, mul_le_mul → Jc, add_zero → Ji
open Array renaming getElem?_append_left → jA

namespace Go.Fw
open Go
set_option maxRecDepth 100000
theorem qp4 {b:qe}{k:Int}(h:blockB b=true){j:Nat}(hj:j<(places b.Aa).length)(hk:(gt (places b.Aa) j).net=k)(hdr:(gt (places b.Aa) j).drives=true):Ev (fun n=>qh0 n b.Aa k) (j:Int):=by
 have hd:=qaA h;have hs:=qai hd;have hl:=qbl hs;have e:ixL (fun q:Tl05Place=>(q.net==k)&&q.drives) ((places b.Aa).map toSp)=(j:Int):=by
  refine qwr (by simpa using hj) ?_ (fun i hi hq=>?_)
  ·rw[qqE hj];show(((gt (places b.Aa) j).net==k)&&(gt (places b.Aa) j).drives)=true;rw[hk,hdr];simp
  ·have hi':i<(places b.Aa).length:=by simpa using hi
   rw[qqE hi'] at hq;have hq':(((gt (places b.Aa) i).net==k)&&(gt (places b.Aa) i).drives)=true:=hq;simp only[jf,beq_iff_eq] at hq';exact qu5 hd hi' hj (by rw[hq'.1,hk]) hq'.2 hdr
 unfold qh0;refine Ev.bind (qi7 hs) ?_;rw[←e];exact qgm (fin:=(((places b.Aa).map toSp).length:Int)) (Lf:=qc4 k ((places b.Aa).map toSp)) (xs:=(places b.Aa).map toSp) (pf:=fun _ (q:Tl05Place)=>V ((q.net==k)&&q.drives)) (fun _ _=>.done)
  (fun n=>by simp only[qc4,ql (je _),cond_false])
  (fun n j x hx=>by
   have hj:=(List.getElem?_eq_some_iff.1 hx).1;have hj':j<(places b.Aa).length:=by simpa using hj
   simp only[qc4,qk hj,cond_true,qan hx,jd,wS j];cases (x.net==k)<;>cases x.drives<;>rfl)
  (fun n=>by congr 1;funext o;cases o<;>rfl)
theorem qsk {b:qe}{i k:Nat}(h:blockB b=true)(hi:i<b.Aa.Ab.length)(hk:k<(gt b.Aa.Ab i).Ai.length):Ev (fun n=>qjy n b.Aa (i:Int) (k:Int)) ((off b.Aa i+k:Nat):Int):=by
 have hd:=qaA h;have hs:=qai hd;have hl:=qbl hs;obtain⟨hj,ej⟩:=qlv hi hk;have e:ixL (fun q:Tl05Place=>(q.instance_==(i:Int))&&(q.pin==(k:Int))) ((places b.Aa).map toSp)=((off b.Aa i+k:Nat):Int):=by
  refine qwr (by simpa using hj) ?_ (fun m hm hq=>?_)
  ·rw[qqE hj,ej];unfold place1 toSp;simp
  ·have hm':m<(places b.Aa).length:=by simpa using hm
   rw[qqE hm'] at hq;rcases qmF hm' with⟨i',k',hi',hk',em,e'⟩|⟨i',hi',em,e'⟩
   ·rw[e'] at hq;unfold place1 toSp at hq;simp only[jf,beq_iff_eq] at hq;obtain rfl:i'=i:=by omega
    obtain rfl:k'=k:=by omega
    exact em
   ·rw[e'] at hq;unfold place2 toSp at hq;simp only[jf,beq_iff_eq] at hq;omega
 unfold qjy;refine Ev.bind (qi7 hs) ?_;rw[←e];exact qgm (fin:=(((places b.Aa).map toSp).length:Int)) (Lf:=qem (i:Int) (k:Int) ((places b.Aa).map toSp)) (xs:=(places b.Aa).map toSp) (pf:=fun _ (q:Tl05Place)=>V ((q.instance_==(i:Int))&&(q.pin==(k:Int)))) (fun _ _=>.done)
  (fun n=>by simp only[qem,ql (je _),cond_false])
  (fun n j x hx=>by
   have hj:=(List.getElem?_eq_some_iff.1 hx).1;have hj':j<(places b.Aa).length:=by simpa using hj
   simp only[qem,qk hj,cond_true,qan hx,jd,wS j];cases (x.instance_==(i:Int))<;>cases (x.pin==(k:Int))<;>rfl)
  (fun n=>by congr 1;funext o;cases o<;>rfl)
theorem quH {n:Nat}{xs:List qv}{f t a c k i:Int}(hx:xs.length≤1000000)(f0:0≤f)(f1:f≤1000000)(t0:0≤t)(t1:t≤1000000)(ha:b01 a)(hc:b01 c):qfO n xs f t a c k i=V (xs++[⟨2*f+a,2*t+c,k,i⟩]):=by
 have ha':0≤a∧a≤1:=by rcases ha with e|e<;>omega
 have hc':0≤c∧c≤1:=by rcases hc with e|e<;>omega
 unfold qfO;rw[wO (2*f),wO (2*t),wO (2*f+a),wO (2*t+c),qcS (by rw[jt];omega)]
 rfl
def fitB (a:qL)(i j:Int):Bool:=bif a.Ay==1 then(bif a.Bl==3 then true else(a.Bl==1)==(i==j)) else bif a.Ay==2 then i==0 else bif a.Ay==3 then i==1 else false
def pcL (a:qL)(f t k i j:Int):List qv:=bif fitB a i j then[⟨2*f+i,2*t+j,1,k⟩] else[]
theorem arcStep {arc:qL}{xs:List qv}{f t k i j:Int}{X:List qv×Int}(hx:xs.length≤1000000)(f0:0≤f)(f1:f≤1000000)(t0:0≤t)(t1:t≤1000000)(hi:b01 i)(hj:b01 j)
  (h:Ev (fun n=>qbf arc f t k i n (xs++pcL arc f t k i j) (j+1)) X):Ev (fun n=>qbf arc f t k i n xs j) X:=by
 have hj':0≤j∧j≤1:=by rcases hj with e|e<;>omega
 have hp:=fun n=>quH (n:=n) (k:=1) (i:=k) hx f0 f1 t0 t1 hi hj;refine Ev.succ ?_;simp only[qbf,hp,jd,wO (j+1)];refine Ev.tt (decide_eq_true hj'.2) ?_;unfold pcL fitB at h;cases h1:arc.Ay==1
 ·cases h2:arc.Ay==2
  ·cases h3:arc.Ay==3
   ·rw[h1,h2,h3] at h;simpa using h
   ·rw[h1,h2,h3] at h;cases h4:i==1
    ·rw[h4] at h;simpa using h
    ·rw[h4] at h;simpa using h
  ·rw[h1,h2] at h;cases h4:i==0
   ·rw[h4] at h;simpa using h
   ·rw[h4] at h;simpa using h
 ·rw[h1] at h;cases h2:arc.Bl==3
  ·rw[h2] at h;cases h4:(arc.Bl==1)==(i==j)
   ·rw[h4] at h;simpa [h4] using h
   ·rw[h4] at h;simpa [h4] using h
  ·rw[h2] at h;simpa using h
theorem qAQ {arc:qL}{xs:List qv}{f t k:Int}(hx:xs.length≤900000)(f0:0≤f)(f1:f≤1000000)(t0:0≤t)(t1:t≤1000000) :
  Ev (fun n=>qmj n xs arc f t k) (xs++pcL arc f t k 0 0++pcL arc f t k 0 1++pcL arc f t k 1 0++pcL arc f t k 1 1):=by
 have hl:∀ i j,(pcL arc f t k i j).length≤1:=fun i j=>by unfold pcL;cases fitB arc i j<;>simp
 have h00:=hl 0 0;have h01:=hl 0 1;have h10:=hl 1 0;have h11:=hl 1 1;have row:∀ (i:Int) (ys:List qv),b01 i→ys.length≤900010→Ev (fun n=>qbf arc f t k i n ys 0) (ys++pcL arc f t k i 0++pcL arc f t k i 1,2):=by
  intro i ys hi hy;have hli:=hl i 0;refine arcStep (by omega) f0 f1 t0 t1 hi (.inl Z) (arcStep (j:=0+1) (by rw[jh];omega) f0 f1 t0 t1 hi (.inr Z) (Ev.succ ?_));simp only[qbf];exact Ev.ff Z .done
 have hL:Ev (fun n=>qe5 arc f t k n xs 0) (xs++pcL arc f t k 0 0++pcL arc f t k 0 1++pcL arc f t k 1 0++pcL arc f t k 1 1,2):=by
  refine Ev.succ ?_;simp only[qe5];refine Ev.tt Z (Ev.bind (row 0 xs (.inl Z) (by omega)) ?_);refine Ev.succ ?_;simp only[qe5];refine Ev.tt Z (Ev.bind (row 1 _ (.inr Z) (by simp only[jh];omega)) ?_);refine Ev.succ ?_;simp only[qe5];exact Ev.ff Z .done
 unfold qmj;exact Ev.bind hL .done
theorem qxv {ps:List qat}{a:qL}(h:arcS ps a=true)(h3:a.Ay≤3)(h1:1≤a.Ay):(a.Ay=1∧(a.Bl=1∨a.Bl=2∨a.Bl=3))∨a.Ay=2∨a.Ay=3:=by
 rcases (by omega:a.Ay=1∨a.Ay=2∨a.Ay=3) with e|e|e
 ·refine .inl ⟨e,?_⟩;unfold arcS at h;rw[e] at h;simp only[beq_self_eq_true,cond_true,jf,qa3] at h;have:=h.2.2.2.1;omega
 ·exact .inr (.inl e)
 ·exact .inr (.inr e)
theorem qzt {ps:List qat}{a:qL}{first:Int}{k:Nat}(h:arcS ps a=true)(h3:a.Ay≤3)(h1:1≤a.Ay) :
  pcL a (first+a.Bf) (first+a.To) (k:Int) 0 0++pcL a (first+a.Bf) (first+a.To) (k:Int) 0 1++pcL a (first+a.Bf) (first+a.To) (k:Int) 1 0++pcL a (first+a.Bf) (first+a.To) (k:Int) 1 1=arcLs first k a:=by
 unfold arcLs transL pcL fitB;rcases qxv h h3 h1 with⟨e,e2|e2|e2⟩|e|e
 ·rw[e,e2];rfl
 ·rw[e,e2];rfl
 ·rw[e,e2];rfl
 ·rw[e];rfl
 ·rw[e];rfl
theorem qrm {a:qL}{first:Int}{k:Nat}(h:3<a.Ay):arcLs first k a=[]:=by
 unfold arcLs transL;rw[show(a.Ay==2)=false from beq_eq_false_iff_ne.2 (by omega),show(a.Ay==3)=false from beq_eq_false_iff_ne.2 (by omega),show(a.Ay != 1)=true from bne_iff_ne.2 (by omega)]
 rfl
theorem qn9 {b:qe}(h:blockB b=true):Ev (fun n=>qhh n b) (linksL b):=by
 have hd:=qaA h;have hs:=qai hd;have hl:=qbl hs;have hni:=hs.ni;have hnn:=hs.nn;have hwl:=qj1 h;have hd0:(⟨b.Aa.Ab,b.Aa.Ai,b.Aa.Ah⟩:qg)=b.Aa:=rfl;have e1:Ev (fun n=>qdE b n ([]:List qv) 0) (instLs b b.Aa.Ab.length,(b.Aa.Ab.length:Int)):=by
  refine loopF (Lf:=qdE b) (S:=instLs b) (len:=b.Aa.Ab.length) (fun n=>?_) (fun j hj X hX=>?_)
  ·simp only[qdE,ql (je _),cond_false]
  ·obtain⟨⟨c0,c1⟩,hnl,hcb⟩:=qim hd hj;have ha:=qpD hcb;have hpb:=(qhS (qj2 hcb)).1;have hil:=qjX h (show j≤b.Aa.Ab.length by omega);have hoff:=qlQ (d:=b.Aa) (i:=j);have hof:off b.Aa (j+1)≤78:=by
    rw[qh4] at hl;have:=qwJ (d:=b.Aa) (show j+1≤b.Aa.Ab.length by omega);omega
   have hcA:cellAt b (j:Int)=gt b.Ar.Ap (gt b.Aa.Ab j).Bo.toNat:=rfl;simp only[qdE,qk hj,cond_true,qC hj,qfW c0 c1,jd,wS j];have hL2:Ev (fun n=>qcE b (j:Int) (cellAt b (j:Int)) n (instLs b j) 0) (instLs b (j+1),((cellAt b (j:Int)).As.length:Int)):=by
    rw[show instLs b (j+1)=instLs b j++cellLs (cellAt b (j:Int)) (off b.Aa j:Int) (cellAt b (j:Int)).As.length from qle];rw[←hcA] at hcb hnl ha hpb;generalize cellAt b (j:Int)=c at hcb hnl ha hpb ⊢;have:=loopF (Lf:=qcE b (j:Int) c) (S:=fun k=>instLs b j++cellLs c (off b.Aa j:Int) k) (len:=c.As.length) (fin:=(instLs b j++cellLs c (off b.Aa j:Int) c.As.length,(c.As.length:Int))) (fun n=>by simp only[qcE,ql (je _),cond_false])
     (fun k hk X hX=>by
      obtain⟨⟨k1,k5⟩,hf,ht,hA⟩:=qog hcb hk;have hcl:(cellLs c (off b.Aa j:Int) k).length≤4*k:=qqN fun _ _=>qq2;have es:cellLs c (off b.Aa j:Int) (k+1)=cellLs c (off b.Aa j:Int) k++arcLs (off b.Aa j:Int) k (gt c.As k):=qle;rw[es] at hX;simp only[qcE,qk hk,cond_true,qC hk,jd,wS k,hd0];by_cases h3:(gt c.As k).Ay≤3
      ·refine Ev.tt (decide_eq_true h3) ?_;have f1:=qsk h hj (k:=(gt c.As k).Bf.toNat) (by omega);have f2:=qsk h hj (k:=(gt c.As k).To.toNat) (by omega);rw[←qfn hf.1] at f1;rw[←qfn ht.1] at f2;refine Ev.bind f1 (Ev.bind f2 (Ev.bind (qAQ (by rw[jh];omega) (by omega) (by omega) (by omega) (by omega)) ?_));have e3:∀ x:Int,0≤x→((off b.Aa j+x.toNat:Nat):Int)=(off b.Aa j:Int)+x:=fun x hx=>by omega
       rw[e3 _ hf.1,e3 _ ht.1,jr,jr,jr,←jr (pcL _ _ _ _ _ _),←jr (pcL _ _ _ _ _ _++_),qzt hA h3 k1,jr];exact hX
      ·refine Ev.ff (decide_eq_false h3) ?_;rw[qrm (by omega),jU] at hX;exact hX)
    simpa [cellLs,fm] using this
   exact Ev.bind hL2 hX
 have hL4:∀ (i:Nat) (t:List qv),i<b.Af.length→t.length≤900000→Ev (fun n=>qdw (dvN b.Aa i:Int) (skL b i) n t 0) (t++wlN b i (skL b i).length,((skL b i).length:Int)):=by
  intro i t hi ht;have hsm:=qh9 h (i:=i);have hdv:=(qjk hd (k:=i) (by omega)).1;have:=loopF (Lf:=qdw (dvN b.Aa i:Int) (skL b i)) (S:=fun k=>t++wlN b i k) (len:=(skL b i).length) (fin:=(t++wlN b i (skL b i).length,((skL b i).length:Int))) (fun n=>by simp only[qdw,ql (je _),cond_false])
   (fun k hk X hX=>by
    obtain⟨y,hy,ey,_⟩:=qqP hk;have hwn:=quJ (b:=b) (i:=i) (j:=k);have p1:=fun n=>quH (n:=n) (xs:=t++wlN b i k) (f:=(dvN b.Aa i:Int)) (t:=at0 (skL b i) k) (a:=0) (c:=0) (k:=2) (i:=(k:Int)) (by rw[jh];omega) (by omega) (by omega) (by omega) (by omega) (.inl Z) (.inl Z);have p2:=fun n=>quH (n:=n) (xs:=t++wlN b i k++[⟨2*(dvN b.Aa i:Int)+0,2*at0 (skL b i) k+0,2,(k:Int)⟩]) (f:=(dvN b.Aa i:Int)) (t:=at0 (skL b i) k) (a:=1) (c:=1) (k:=2) (i:=(k:Int)) (by rw[jh,jh,jt];omega) (by omega) (by omega) (by omega) (by omega) (.inr Z) (.inr Z);simp only[qdw,qk hk,cond_true,qay hk,jd,p1,p2,wS k];have es:wlN b i (k+1)=wlN b i k++wl1 (dvN b.Aa i) (at0 (skL b i) k) k:=qle;rw[es] at hX;rw[Ji,Ji,jr,jr];exact hX)
  simpa [wlN,fm] using this
 have e3:Ev (fun n=>qdF b n (instLs b b.Aa.Ab.length) 0) (linksL b,(b.Aa.Ai.length:Int)):=by
  have hil:=qjX h (je _);have:=loopF (Lf:=qdF b) (S:=fun j=>instLs b b.Aa.Ab.length++wireLs b j) (len:=b.Aa.Ai.length) (fin:=(linksL b,(b.Aa.Ai.length:Int))) (fun n=>by
    simp only[qdF,ql (je _),cond_false];rw[←hwl];rfl)
   (fun j hj X hX=>by
    have hwl2:=qpG h (j:=j);obtain⟨d1,d2⟩:=qjk hd hj;obtain⟨d3,d4⟩:=qob.1 d2;simp only[qdF,qk hj,cond_true,wS j,hd0];refine Ev.bind (qp4 h d1 d3 d4) (Ev.bind (qox hs) (Ev.bind (hL4 j _ (by omega) (by rw[jh];omega)) ?_));rw[jr,show wireLs b j++wlN b j (skL b j).length=wireLs b (j+1) from qle.symm];exact hX)
  simpa [wireLs,fm] using this
 unfold qhh;exact Ev.bind e1 (Ev.bind e3 .done)
def lvB (br:List Int)(m:Nat):List Bool:=pre (fun k=>!br.any fun y=>y==(k:Int)) m
theorem qt6 {br:List Int}{m:Nat}:(lvB br m).length=m:=qpQ
theorem qrb {br:List Int}{x:Int}(hl:br.length≤1048576):Ev (fun n=>qja n br x) (br.any fun y=>y==x):=by
 have hL:Ev (fun n=>qe7 br x n 0) (bif br.any (fun y=>y==x) then .ret true else .nxt (br.length:Int)):=by
  have:=qel (Lf:=qe7 br x) (len:=br.length) (f:=fun j=>!(gt br j==x)) (bad:=true) (fin:=.nxt (br.length:Int)) (Ev.succ (by simp only[qe7,ql (je _),cond_false];exact .done))
   (fun j hj X hX=>Ev.succ (by
    simp only[qe7,qk hj,cond_true,qC hj,jd,wS j];cases gt br j==x
    ·exact hX
    ·exact .done))
  rw[qwA];refine this.cast ?_;cases allN (fun j=>!(gt br j==x)) br.length<;>rfl
 unfold qja;refine Ev.bind hL ?_;cases br.any (fun y=>y==x)<;>exact .done
theorem qsu {ls:List qv}{br:List Int}(h1:ls.length≤10000)(h2:br.length≤1048576):Ev (fun n=>qjR n ls br) (lvB br ls.length):=by
 have hL:Ev (fun n=>qee ls br n ([]:List Bool) 0) (lvB br ls.length,(ls.length:Int)):=by
  refine loopF (Lf:=qee ls br) (S:=fun j=>lvB br j) (len:=ls.length) (fun n=>?_) (fun j hj X hX=>?_)
  ·simp only[qee,ql (je _),cond_false]
  ·simp only[qee,qk hj,cond_true,wS j];refine Ev.bind (qrb h2) ?_;have e:appS (lvB br j) [!br.any fun y=>y==(j:Int)]=V (lvB br (j+1)):=qus (f:=fun k:Nat=>!br.any fun y=>y==(k:Int)) (by omega);rw[e];exact hX
 unfold qjR;exact Ev.bind hL .done
def brB (br:List Int)(m:Nat):Bool:=(br.all fun x=>inI x 0 ((m:Int)-1))&&incB br
theorem qwb {v:Tview}{br:List Int}(h1:v.links.length≤10000)(hb:brB br v.links.length=true):Ev (fun n=>qhy n (V v) br) (V ⟨V v,lvB br v.links.length⟩):=by
 unfold brB at hb;rw[jf,qjL,qaC] at hb;have hm:mkS (v.links.length:Int) false=V (pre (fun _=>false) v.links.length):=qq3 (by omega);generalize hM:v.links.length=M at h1 hb hm ⊢;have hinc:∀ j i,i<j→j<br.length→gt br i<gt br j:=by
  intro j
  induction j with
  | zero=>intro i hi _;omega
  | succ j ih=>
   intro i hi hj;have hs:=hb.2;unfold incB at hs;rw[qaC] at hs;have hs:=hs (j+1) hj;unfold stepB at hs;simp only[Bool.or_eq_true,decide_eq_true_eq,Nat.add_sub_cancel] at hs;have hs':gt br j<gt br (j+1):=by
    rcases hs with hs|hs
    ·omega
    ·exact hs
   by_cases hij:i=j
   ·rw[hij];exact hs'
   ·have:=ih i (by omega) (by omega);omega
 have hlen:∀ j,j<br.length→(j:Int)≤gt br j:=by
  intro j
  induction j with
  | zero=>
   intro hj;have:=hb.1 0 hj;rw[qa3] at this;omega
  | succ j ih=>
   intro hj;have:=ih (by omega);have:=hinc (j+1) j (by omega) hj;omega
 have hbl:br.length≤M:=by
  by_cases h0:br.length=0
  ·omega
  ·have h2:=hlen (br.length-1) (by omega);have h3:=hb.1 (br.length-1) (by omega);rw[qa3] at h3;omega
 have e1:Ev (fun n=>qb0 (pre (fun _=>false) M) n (pre (fun _=>false) M) 0) (pre (fun _=>true) M,(M:Int)):=by
  have:=loopF (Lf:=qb0 (pre (fun _=>false) M)) (S:=fun j=>pre (fun k=>decide (k<j)) M) (len:=M) (fin:=(pre (fun _=>true) M,(M:Int))) (fun n=>by
    simp only[qb0,qpQ,ql (je _),cond_false];rw[qir (g:=fun _=>true) fun k hk=>decide_eq_true hk])
   (fun j hj X hX=>by
    simp only[qb0,qpQ,qk hj,cond_true,qjP (f:=fun k=>decide (k<j)) hj,jd,qqa,wS j];have:pre (fun k=>decide (k<j+1)) M=pre (fun k=>if k=j then true else decide (k<j)) M:=qir fun k _=>by
     by_cases hk:k=j
     ·rw[if_pos hk,hk];simp
     ·rw[if_neg hk,decide_eq_decide];omega
    rw[this] at hX;exact hX)
  simpa using this
 have e2:Ev (fun n=>qb5 br n (pre (fun _=>true) M) 0) (lvB br M,(br.length:Int)):=by
  have:=loopF (Lf:=qb5 br) (S:=fun j=>pre (fun k=>!(br.take j).any fun y=>y==(k:Int)) M) (len:=br.length) (fin:=(lvB br M,(br.length:Int))) (fun n=>by
    simp only[qb5,ql (je _),cond_false,jG];rfl)
   (fun j hj X hX=>by
    have hr:=hb.1 j hj;rw[qa3] at hr;obtain⟨a,ha⟩:∃ a:Nat,gt br j=(a:Int):=⟨_,qfn hr.1⟩;have haM:a<M:=by omega
    simp only[qb5,qk hj,cond_true,qC hj,ha,qjP (f:=fun k=>!(br.take j).any fun y=>y==(k:Int)) haM,jd,qqa,wS j];have:pre (fun k=>!(br.take (j+1)).any fun y=>y==(k:Int)) M=pre (fun k=>if k=a then false else !(br.take j).any fun y=>y==(k:Int)) M:=qir fun k _=>by
     rw[jB hj,List.any_append,←qgv hj,ha];by_cases hk:k=a
     ·rw[if_pos hk,hk];simp
     ·rw[if_neg hk];have:((a:Int)==(k:Int))=false:=by simp;omega
      simp[this]
    rw[this] at hX;exact hX)
  simpa using this
 unfold qhy;simp only[jd,hM,hm];exact Ev.bind e1 (Ev.bind e2 .done)
theorem qxE {br:List Int}{m:Nat}(hl:br.length≤1048576)(hm:m≤10000):Ev (fun n=>qjs n br (m:Int)) (brB br m):=by
 have hL:Ev (fun n=>qci br (m:Int) n 0) (bif allN (fun j=>inI (gt br j) 0 ((m:Int)-1)&&stepB br j) br.length then .nxt (br.length:Int) else .ret false):=by
  refine qel (Lf:=qci br (m:Int)) (len:=br.length) (Ev.succ (by simp only[qci,ql (je _),cond_false];exact .done)) (fun j hj X hX=>Ev.succ ?_);simp only[qci,qk hj,cond_true,qC hj,jd,qcV,wS j,wO ((m:Int)-1)];cases h1:inI (gt br j) 0 ((m:Int)-1)
  ·exact .done
  ·refine Ev.ff Z ?_;by_cases h0:j=0
   ·subst h0;exact Ev.ff Z hX
   ·refine Ev.tt (decide_eq_true (by omega)) ?_;rw[show(j:Int)-1=((j-1:Nat):Int) by omega,qF (by omega) (by omega),qC (show j-1<br.length by omega)];simp only[jd];have es:stepB br j=decide (gt br (j-1)<gt br j):=by
     unfold stepB;rw[decide_eq_false h0,Jj]
     rfl
    rw[es];by_cases hlt:gt br (j-1)<gt br j
    ·rw[decide_eq_true hlt];exact Ev.ff (decide_eq_false (by omega)) hX
    ·rw[decide_eq_false hlt];exact Ev.tt (decide_eq_true (by omega)) .done
 unfold qjs;refine Ev.bind hL ?_;unfold brB incB;rw[qjL,←qmX];cases allN (fun j=>inI (gt br j) 0 ((m:Int)-1)&&stepB br j) br.length<;>exact .done
theorem qvh {v:Tview}{br:List Int}(hl:br.length≤1048576)(hm:v.links.length≤10000):Ev (fun n=>qe9 n (V v) br) (brB br v.links.length):=by
 unfold qe9 qhm brB;simp only[jd,wO ((v.links.length:Int)-1)];exact Ev.and (qfD hl) fun _=>Ev.last (qkR hl)
theorem qwg {b:qe}{br:List Int}(hok:qkx b)(h:blockB b=true)(hl:br.length≤1048576):Ev (fun n=>qih n b br) (bif brB br (linksL b).length then 0 else 2):=by
 unfold qih;refine Ev.bind (qmp hok) (Ev.ff (by rw[h];rfl) (Ev.bind (qn9 h) (Ev.bind (qxE hl (qnE h)) ?_)));cases brB br (linksL b).length<;>exact .done
end Go.Fw


namespace Go.Fw
open Go
set_option maxRecDepth 100000
theorem qui {α:Type}{f:Nat→List α}{n:Nat}{x:α}(h:x ∈ fm f n):∃ j,j<n∧x ∈ f j:=by
 unfold fm at h;obtain⟨j,h1,h2⟩:=List.mem_flatMap.1 h;exact⟨j,List.mem_range.1 h1,h2⟩
theorem qw3 {x:Int}{j:Nat}{t:Int}(ht:b01 t)(hj:j≤100000)(e:x=2*(j:Int)+t):W64 (x.tdiv 2)=(j:Int)∧x.tmod 2=t:=by
 have ht':0≤t∧t≤1:=by rcases ht with e|e<;>omega
 have hx:0≤x:=by omega
 rw[jE hx,Int.tmod_eq_emod_of_nonneg hx,qF (by omega) (by omega)];omega
structure CLk (b:qe)(x:qv)(i j m net a:Nat):Prop where
 kind:x.Ay=1
 il:i<b.Aa.Ab.length
 jl:j<(places b.Aa).length
 inst:(gt (places b.Aa) j).instance_=(i:Int)
 net_:(gt (places b.Aa) j).net=(net:Int)
 nl:net<b.Af.length
 half:W64 (x.To.tdiv 2)=(j:Int)
 mod:x.To.tmod 2=(m:Int)
 ml:m<2
 ix:x.Bw=(a:Int)
 al:a<(cellAt b (i:Int)).As.length
 d2:(gt (cellAt b (i:Int)).As a).Bj.length=2
 s2:(gt (cellAt b (i:Int)).As a).Aq.length=2
 dt:∀ t,t ∈ (gt (cellAt b (i:Int)).As a).Bj→TbOk t∧∀ k,0≤at0 t.Ba k
 st:∀ t,t ∈ (gt (cellAt b (i:Int)).As a).Aq→TbOk t∧∀ k,0≤at0 t.Ba k
structure WLk (b:qe)(x:qv)(j net k:Nat):Prop where
 kind:x.Ay=2
 jl:j<(places b.Aa).length
 net_:(gt (places b.Aa) j).net=(net:Int)
 nl:net<b.Af.length
 half:W64 (x.To.tdiv 2)=(j:Int)
 ix:x.Bw=(k:Int)
 kl:k<(gt b.Af net).Bg.length
theorem qAO {xs:List Int}(h:0≤mnL xs)(k:Nat):0≤at0 xs k:=by
 have fold:∀ (ys:List Int) (a:Int),(ys.foldl (fun(m y:Int)=>if y<m then y else m) a≤a)∧∀ y,y ∈ ys→ys.foldl (fun(m y:Int)=>if y<m then y else m) a≤y:=by
  intro ys
  induction ys with
  | nil=>intro a;exact⟨jY _,fun y hy=>by cases hy⟩
  | cons z ys ih=>
   intro a;rw[List.foldl_cons];obtain⟨h1,h2⟩:=ih (if z<a then z else a);refine⟨?_,fun y hy=>?_⟩
   ·split at h1<;>split<;>omega
   ·rcases List.mem_cons.1 hy with e|e
    ·subst e;split at h1<;>split<;>omega
    ·exact h2 y e
 by_cases hk:k<xs.length
 ·have hm:xs[k] ∈ xs.drop 1∨k=0:=by
   by_cases h0:k=0
   ·exact .inr h0
   ·refine .inl ?_;have:xs[k]=(xs.drop 1)[k-1]'(by rw[List.length_drop];omega):=by
     rw[List.getElem_drop]
     congr 1;omega
    rw[this];exact jq _
  rw[qlM hk];unfold mnL at h;rcases hm with hm|h0
  ·exact Int.le_trans h ((fold _ _).2 _ hm)
  ·subst h0;have:=(fold (xs.drop 1) (at0 xs 0)).1;rw[←qlM hk];exact Int.le_trans h this
 ·rw[qw2 hk];exact jY _
theorem qsm {ts:List qx}(h:tablesB ts true=true):ts.length=2∧∀ t,t ∈ ts→TbOk t∧∀ k,0≤at0 t.Ba k:=by
 unfold tablesB at h;rw[jf,decide_eq_true_eq,jI] at h;refine⟨h.1,fun t ht=>?_⟩;have:=h.2 t ht;unfold tabB at this;simp only[jV,Jj,jf,decide_eq_true_eq] at this;exact⟨qyf this.1,qAO this.2⟩
theorem qwc {ps:List qat}{a:qL}(h:arcS ps a=true)(h3:a.Ay≤3)(h1:1≤a.Ay):a.To=(ps.length:Int)-1∧tablesB a.Bj true=true∧tablesB a.Aq true=true:=by
 unfold arcS at h;rcases (by omega:a.Ay=1∨a.Ay=2∨a.Ay=3) with e|e|e
 ·rw[e] at h;simp only[beq_self_eq_true,cond_true,jf,beq_iff_eq] at h;exact⟨h.2.2.1,h.2.2.2.2⟩
 ·rw[e] at h;simp only[show((2:Int)==1)=false from rfl,cond_false,beq_self_eq_true,Bool.true_or,cond_true,jf,beq_iff_eq] at h;exact⟨h.2.2.1,h.2.2.2.2⟩
 ·rw[e] at h;simp only[show((3:Int)==1)=false from rfl,cond_false,beq_self_eq_true,Bool.or_true,cond_true,jf,beq_iff_eq] at h;exact⟨h.2.2.1,h.2.2.2.2⟩
theorem qvc {a:qL}{t:qU}(h:t ∈ transL a):1≤a.Ay∧a.Ay≤3:=by
 refine⟨?_,?_⟩<;>refine Int.le_of_not_gt fun hg=>?_
 ·have:arcLs 0 0 a=[]:=by
   unfold arcLs transL;rw[show(a.Ay==2)=false from beq_eq_false_iff_ne.2 (by omega),show(a.Ay==3)=false from beq_eq_false_iff_ne.2 (by omega),show(a.Ay != 1)=true from bne_iff_ne.2 (by omega)]
   rfl
  unfold arcLs at this;rw[List.map_eq_nil_iff] at this;rw[this] at h;cases h
 ·have:arcLs 0 0 a=[]:=qrm hg;unfold arcLs at this;rw[List.map_eq_nil_iff] at this;rw[this] at h;cases h
theorem qhN {b:qe}(h:blockB b=true){x:qv}(hx:x ∈ linksL b):((∃ i j m net a,CLk b x i j m net a)∨∃ j net k,WLk b x j net k)∧(0≤x.Bf∧x.Bf<2*((places b.Aa).length:Int))∧(0≤x.To∧x.To<2*((places b.Aa).length:Int)):=by
 have hd:=qaA h;have hs:=qai hd;have hl:=qbl hs;have hwl:=qj1 h;unfold linksL at hx;rcases List.mem_append.1 hx with hx|hx
 ·obtain⟨i,hi,hx⟩:=qui hx;obtain⟨a,ha,hx⟩:=qui hx;unfold arcLs at hx;obtain⟨t,ht,rfl⟩:=List.mem_map.1 hx;obtain⟨⟨c0,c1⟩,hnl,hcb⟩:=qim hd hi;have hcA:cellAt b (i:Int)=gt b.Ar.Ap (gt b.Aa.Ab i).Bo.toNat:=rfl;rw[←hcA] at hnl hcb;obtain⟨⟨k1,k5⟩,hf,hto,hA⟩:=qog hcb ha;obtain⟨g1,g3⟩:=qvc ht;obtain⟨t0,t1⟩:=qt2 ht;obtain⟨eT,tD,tS⟩:=qwc hA g3 g1;obtain⟨d2,dt⟩:=qsm tD;obtain⟨s2,st⟩:=qsm tS;have hpb:=(qhS (qj2 hcb)).1;have hk:(cellAt b (i:Int)).Av.length-1<(gt b.Aa.Ab i).Ai.length:=by omega
  obtain⟨hj,ej⟩:=qlv hi hk;obtain⟨n0,n1⟩:=qnM hd hj;have e1:(al1 (off b.Aa i:Int) a (gt (cellAt b (i:Int)).As a) t).To=2*((off b.Aa i+((cellAt b (i:Int)).Av.length-1):Nat):Int)+t.e1:=by
   show 2*((off b.Aa i:Int)+(gt (cellAt b (i:Int)).As a).To)+t.e1=_;rw[eT];omega
  obtain⟨hh,hm⟩:=qw3 t1 (by omega) e1;obtain⟨m,em⟩:∃ m:Nat,t.e1=(m:Int):=⟨t.e1.toNat,by rcases t1 with e|e<;>omega⟩;have hfr:off b.Aa i+(gt (cellAt b (i:Int)).As a).Bf.toNat<(places b.Aa).length:=(qlv hi (k:=(gt (cellAt b (i:Int)).As a).Bf.toNat) (by omega)).1;have e2:(al1 (off b.Aa i:Int) a (gt (cellAt b (i:Int)).As a) t).Bf=2*((off b.Aa i:Int)+(gt (cellAt b (i:Int)).As a).Bf)+t.e0:=rfl;refine⟨.inl ⟨i,_,m,(gt (places b.Aa) (off b.Aa i+((cellAt b (i:Int)).Av.length-1))).net.toNat,a,⟨rfl,hi,hj,by rw[ej];rfl,qfn n0,by omega,hh,by rw[hm,em],by rcases t1 with e|e<;>omega,rfl,ha,d2,s2,dt,st⟩⟩,?_,?_⟩
  ·rw[e2];rcases t0 with e|e<;>rw[e]<;>omega
  ·rw[e1];rcases t1 with e|e<;>rw[e]<;>omega
 ·obtain⟨i,hi,hx⟩:=qui hx;obtain⟨k,hk,hx⟩:=qui hx;obtain⟨y,hy,ey,hq⟩:=qqP hk;have hdv:=(qjk hd (k:=i) (by omega)).1;have hw:=qbF h hi;have hq':(gt (places b.Aa) y).net=(i:Int):=by
   unfold snkQ at hq;simp only[jf,beq_iff_eq] at hq;exact hq.1
  have main:∀ t:Int,b01 t→x=⟨2*(dvN b.Aa i:Int)+t,2*at0 (skL b i) k+t,2,(k:Int)⟩→((∃ i j m net a,CLk b x i j m net a)∨∃ j net k,WLk b x j net k)∧(0≤x.Bf∧x.Bf<2*((places b.Aa).length:Int))∧(0≤x.To∧x.To<2*((places b.Aa).length:Int)):=by
   intro t ht e;have e1:x.To=2*(y:Int)+t:=by rw[e,ey]
   have e2:x.Bf=2*(dvN b.Aa i:Int)+t:=by rw[e]
   obtain⟨hh,hm⟩:=qw3 ht (by omega) e1;refine⟨.inr ⟨y,i,k,⟨by rw[e],hy,hq',hi,hh,by rw[e],by rw[hw.snk];exact hk⟩⟩,?_,?_⟩
   ·rw[e2];rcases ht with e|e<;>rw[e]<;>omega
   ·rw[e1];rcases ht with e|e<;>rw[e]<;>omega
  unfold wl1 at hx;simp only[Ja,jQ,or_false] at hx;rcases hx with hx|hx
  ·exact main 0 (.inl Z) (by rw[hx,Ji,Ji])
  ·exact main 1 (.inr Z) hx
theorem qmS {α:Type}[Inhabited α]{xs:List α}{k:Nat}(h:k<xs.length):gt xs k ∈ xs:=by rw[qgv h];exact jq h
theorem qoU {b:qe}(h:blockB b=true):LkOk (linksL b) (2*(places b.Aa).length) where
 len:=qnE h
 nodes:=by have:=qbl (qai (qaA h));omega
 fr0:=fun x hx=>(qhN h (qmS hx)).2.1.1
 fr1:=fun x hx=>by have:=(qhN h (qmS hx)).2.1.2;omega
 to0:=fun x hx=>(qhN h (qmS hx)).2.2.1
 to1:=fun x hx=>by have:=(qhN h (qmS hx)).2.2.2;omega
theorem qtI {c:qz}(h:cornerB c=true){kind mode:Int}:∃ f:Int,100≤f∧f≤5000∧(∀ n,qhZ n c kind mode=V f)∧∀ n,qfe n c kind mode=V f:=by
 unfold cornerB at h;simp only[jf,qa3,decide_eq_true_eq] at h;obtain⟨⟨h1,h2,h3,h4⟩,_⟩:=h;unfold qhZ qfe;cases kind==1
 ·cases mode==0
  ·exact⟨_,h4.1,h4.2,fun _=>rfl,fun _=>rfl⟩
  ·exact⟨_,h3.1,h3.2,fun _=>rfl,fun _=>rfl⟩
 ·cases mode==0
  ·exact⟨_,h2.1,h2.2,fun _=>rfl,fun _=>rfl⟩
  ·exact⟨_,h1.1,h1.2,fun _=>rfl,fun _=>rfl⟩
theorem qvF {p f mode:Int}(p0:0≤p)(p1:p≤400000000000)(f0:0≤f)(f1:f≤5000):(∀ n,qcL n (W64 (p*f)) 1000 mode=V (divI (p*f) 1000 mode))∧∀ n,qlK n p f mode=V (divI (p*f) 1000 mode):=by
 have h0:=jT p0 f0;have h1:p*f≤400000000000*5000:=Jc p1 f1 f0 (by omega);have e:W64 (p*f)=p*f:=qF (by omega) (by omega);have hd:=fun n=>qlH (n:=n) (a:=p*f) (b:=1000) (mode:=mode) (by omega) (by omega) (by omega);refine⟨fun n=>by rw[e];exact hd n,fun n=>?_⟩;unfold qlK;rw[e,qux (m:=0),hd 0]
 rfl
theorem qza {l h H:Int}(h0:0≤l)(h1:l<h)(h2:h≤H)(hH:H≤3000000000):W64 (W64 (W64 (l+h)+1) |>.tdiv 2)=(l+h+1) / 2∧W64 ((l+h+1) / 2*((l+h+1) / 2))=(l+h+1) / 2*((l+h+1) / 2)∧W64 ((l+h+1) / 2-1)=(l+h+1) / 2-1:=by
 have hm:0≤(l+h+1) / 2∧(l+h+1) / 2≤3000000000:=by omega
 have hq:(l+h+1) / 2*((l+h+1) / 2)≤3000000000*3000000000:=Jc hm.2 hm.2 hm.1 (by omega);have hq0:=jT hm.1 hm.1;rw[wO (l+h),wO (l+h+1),jE (by omega),wO ((l+h+1) / 2),wO ((l+h+1) / 2-1)];exact⟨rfl,qF (by omega) (by omega),rfl⟩
theorem qyG {y mode:Int}(h0:0≤y)(h1:y≤4000000000000000000):∃ v,IsRoot y v∧v≤2000000000∧Ev (fun n=>qjA n y mode) (if mode=1∧v*v<y then v+1 else v):=by
 obtain⟨v,r1,r2,r3⟩:=qtU (Lf:=fun n l h=>qek y n l h) (fin:=fun l=>(l,l)) (x:=y) (H:=2000000000) h0 (by omega) (by omega)
  (fun n l _ _=>by simp only[qek,show decide (l<l)=false from decide_eq_false (Int.lt_irrefl l),cond_false])
  (fun n l h hl hlt hh=>by
   obtain⟨e1,e2,e3⟩:=qza hl hlt hh (by omega);simp only[qek,decide_eq_true hlt,cond_true,e1,e2,e3])
 refine⟨v,r1,r2,?_⟩;unfold qjA;refine Ev.bind r3 ?_;have hv:=r1.pos;have hq:v*v≤2000000000*2000000000:=Jc r2 r2 hv (by omega);have hq0:=jT hv hv;simp only[wO (v*v),wO (v+1)];by_cases hm:mode=1
 ·refine Ev.tt (by simpa using hm) ?_;by_cases hl:v*v<y
  ·rw[if_pos ⟨hm,hl⟩];exact Ev.tt (decide_eq_true hl) .done
  ·rw[if_neg fun h=>hl h.2];exact Ev.ff (decide_eq_false hl) .done
 ·rw[if_neg fun h=>hm h.1];exact Ev.ff (by simpa using hm) .done
theorem qyv {y:Int}(h0:0≤y)(h1:y≤4000000000000000000):∃ v,IsRoot y v∧v≤3000000000∧Ev (fun n=>qoT n y) v:=by
 obtain⟨v,r1,r2,r3⟩:=qtU (Lf:=fun n l h=>qgw y n l h) (fin:=fun l=>(l,l)) (x:=y) (H:=3000000000) h0 (by omega) (by omega)
  (fun n l _ _=>by simp only[qgw,show decide (l<l)=false from decide_eq_false (Int.lt_irrefl l),cond_false])
  (fun n l h hl hlt hh=>by
   obtain⟨e1,e2,e3⟩:=qza hl hlt hh (by omega);simp only[qgw,decide_eq_true hlt,cond_true,e1,e2,e3])
 refine⟨v,r1,r2,?_⟩;unfold qoT;exact Ev.bind r3 .done
theorem qxw {sl d mode:Int}(s0:0≤sl)(s1:sl≤1000000)(d0:0≤d)(d1:d≤344000000)(hm:mode=0∨mode=1):∃ r:Int,0≤r ∧
  Ev (fun n=>(qjA n (W64 (W64 (W64 (1000000*sl)*sl)+W64 (W64 (4*d)*d))) mode).bind fun r2=>(qcL n r2 1000 mode).bind fun r3=>V r3) r∧Ev (fun n=>qkm n sl d mode) r:=by
 have q1:=jT s0 s0;have q2:sl*sl≤1000000*1000000:=Jc s1 s1 s0 (by omega);have q3:=jT d0 d0;have q4:d*d≤344000000*344000000:=Jc d1 d1 d0 (by omega);have e1:W64 (W64 (W64 (1000000*sl)*sl)+W64 (W64 (4*d)*d))=4*(250000*(sl*sl)+d*d):=by
  rw[wO (1000000*sl),wO (4*d),jZ 1000000,jZ 4,wO (1000000*(sl*sl)),wO (4*(d*d)),qF (by omega) (by omega)];omega
 have e2:W64 (W64 (W64 (W64 (500*sl)*500)*sl)+W64 (d*d))=250000*(sl*sl)+d*d:=by
  rw[wO (500*sl),wO (500*sl*500),show 500*sl*500*sl=250000*(sl*sl) by rw[←jZ];congr 1;omega,wO (250000*(sl*sl)),wO (d*d),qF (by omega) (by omega)]
 obtain⟨v,v1,v2,v3⟩:=qyG (mode:=mode) (y:=4*(250000*(sl*sl)+d*d)) (by omega) (by omega);obtain⟨w,w1,w2,w3⟩:=qyv (y:=250000*(sl*sl)+d*d) (by omega) (by omega);have hr:=qwB w1 v1 hm;have hv:=v1.pos;have hw:=w1.pos;have hv1:0≤(if mode=1∧v*v<4*(250000*(sl*sl)+d*d) then v+1 else v)∧(if mode=1∧v*v<4*(250000*(sl*sl)+d*d) then v+1 else v)≤1000*3000000:=by split<;>omega
 refine⟨_,(quM (b:=1000) (mode:=mode) (M:=3000000) (by omega) hv1.1 hv1.2).1,?_,?_⟩
 ·rw[e1];exact Ev.bind v3 (Ev.bind ⟨0,fun n _=>qlH (by omega) (by omega) (by omega)⟩ .done)
 ·rw[hr];unfold qkm;rw[e2];refine Ev.bind w3 ?_;have hq:w*w≤3000000000*3000000000:=Jc w2 w2 hw (by omega);have hq0:=jT hw hw;have ed:(fun n=>qfK n w 500 mode)=fun _=>V (divI w 500 mode):=by
   funext n
   rw[qux (m:=0),qlH (by omega) (by omega) (by omega)]
  have hdv:=congrFun ed;simp only[wO (w*w),jE hw,wO (w / 500),wO (w / 500+1),hdv,jd];rcases hm with rfl|rfl
  ·rw[if_neg (by omega)];exact .done
  ·by_cases hl:w*w<250000*(sl*sl)+d*d
   ·rw[if_pos ⟨rfl,hl⟩,decide_eq_true hl];exact .done
   ·rw[if_neg fun h=>hl h.2,decide_eq_false hl];exact .done
theorem qu8 {t:qx}(h:TbOk t∧∀ k,0≤at0 t.Ba k)(sl ld mode:Int):∃ r:Int,0≤r∧r≤1000000∧Ev (fun n=>qh7 n t sl ld mode) r∧Ev (fun n=>qea n t sl ld mode) r:=by
 obtain⟨S,D,D0,S1,_,_,_,S0,hev⟩:=qAb h.1 sl ld;obtain⟨r0,r1⟩:=quM (mode:=mode) D0 (S0 h.2) S1;exact⟨_,r0,r1,hev mode⟩
theorem qwE {b:qe}{ex:List Int}{x:qv}{j net:Nat}(jl:j<(places b.Aa).length)(hn:(gt (places b.Aa) j).net=(net:Int))(hh:W64 (x.To.tdiv 2)=(j:Int))(n:Nat):qfu n (V (viewE b ex)) x=V (net:Int):=by
 unfold qfu;show(idx (places b.Aa) (W64 (x.To.tdiv 2))).bind _=_;rw[hh,qC jl];exact congrArg V hn
theorem qzg {b:qe}{ex:List Int}(h:blockB b=true){x:qv}{i j m net a:Nat}(hx:CLk b x i j m net a)(n:Nat):qgV n (V (viewE b ex)) x=V (gt (cellAt b (i:Int)).As a):=by
 obtain⟨⟨c0,c1⟩,_,_⟩:=qim (qaA h) hx.il;unfold qgV;show(idx (places b.Aa) (W64 (x.To.tdiv 2))).bind (fun y2=>(idx b.Aa.Ab y2.instance_).bind fun y3=>(idx b.Ar.Ap y3.Bo).bind fun y4=>(idx y4.As x.Bw).bind fun y5=>V y5)=_;rw[hx.half,qC hx.jl,jd,hx.inst,qC hx.il,jd,qfW c0 c1,jd,hx.ix];show(idx (cellAt b (i:Int)).As (a:Int)).bind _=_;rw[qC hx.al];rfl
theorem qtA {b:qe}(h:blockB b=true){x:qv}{i j m net a:Nat}(hx:CLk b x i j m net a):Ev (fun n=>qkv n b x) (gt (cellAt b (i:Int)).As a,load0 b net):=by
 have hd:=qaA h;have hs:=qai hd;obtain⟨⟨c0,c1⟩,_,_⟩:=qim hd hx.il;have hp:idx ((places b.Aa).map toSp) (j:Int)=V (toSp (gt (places b.Aa) j)):=by
  refine qan ?_;rw[List.getElem?_map,ji hx.jl,qgv hx.jl];rfl
 have hll:=qnu h hx.nl;have hlo:=(qbF h hx.nl).lo;have h1:(toSp (gt (places b.Aa) j)).instance_=(i:Int):=hx.inst;have h2:(toSp (gt (places b.Aa) j)).net=(net:Int):=hx.net_;have h3:idx (gt b.Ar.Ap (gt b.Aa.Ab i).Bo.toNat).As (a:Int)=V (gt (cellAt b (i:Int)).As a):=qC hx.al;unfold qkv;refine Ev.bind (qi7 hs) ?_;simp only[hx.half,hp,jd,h1,h2,qC hx.il,qfW c0 c1,hx.ix,h3];refine Ev.bind (qrq h hx.nl) ?_;rw[show idx (loadsL b net) (0:Int)=V (load0 b net) from qC (j:=0) (by omega)];exact .done
theorem qqx {b:qe}(h:blockB b=true){x:qv}{j net k:Nat}(hx:WLk b x j net k):Ev (fun n=>qh2 n b x) (net:Int):=by
 have hs:=qai (qaA h);have hp:idx ((places b.Aa).map toSp) (j:Int)=V (toSp (gt (places b.Aa) j)):=by
  refine qan ?_;rw[List.getElem?_map,ji hx.jl,qgv hx.jl];rfl
 have h2:(toSp (gt (places b.Aa) j)).net=(net:Int):=hx.net_;unfold qh2;refine Ev.bind (qi7 hs) ?_;simp only[hx.half,hp,jd,h2];exact .done
theorem qt8 {b:qe}{c:qz}(ex:List Int)(h:blockB b=true)(hc:cornerB c=true){k:Nat}(hk:k<(linksL b).length){sl mode:Int}(s0:0≤sl)(s1:sl≤1000000)(hm:mode=0∨mode=1) :
  (∃ D:Int,Ev (fun n=>qdL n b c (gt (linksL b) k) sl mode) D∧Ev (fun n=>qcu n (V (viewE b ex)) c (k:Int) sl mode) D) ∧
  ∃ S:Int,0≤S∧S≤1000000∧Ev (fun n=>qeA n b (gt (linksL b) k) sl mode) S∧Ev (fun n=>qbs n (V (viewE b ex)) (k:Int) sl mode) S:=by
 have hv:idx (viewE b ex).links (k:Int)=V (gt (linksL b) k):=qC hk;obtain⟨hx,_⟩:=qhN h (qmS hk);generalize gt (linksL b) k=x at hx hv;rcases hx with⟨i,j,m,net,a,hx⟩|⟨j,net,q,hx⟩
 ·have hnet:=qwE (ex:=ex) hx.jl hx.net_ hx.half;have harc:=qzg (ex:=ex) h hx;have hld:idx (viewE b ex).loads (net:Int)=V (load0 b net):=qjP (f:=load0 b) hx.nl;obtain⟨f,f0,f1,sF,iF⟩:=qtI hc (kind:=x.Ay) (mode:=mode);have dl:m<(gt (cellAt b (i:Int)).As a).Bj.length:=by rw[hx.d2];exact hx.ml
  have sL:m<(gt (cellAt b (i:Int)).As a).Aq.length:=by rw[hx.s2];exact hx.ml
  obtain⟨r,r0,r1,rs,ri⟩:=qu8 (hx.dt _ (qmS dl)) sl (load0 b net) mode;obtain⟨u,u0,u1,us,ui⟩:=qu8 (hx.st _ (qmS sL)) sl (load0 b net) mode;obtain⟨c1,c2⟩:=qvF (mode:=mode) r0 (by omega) (show 0≤f by omega) f1;have hk1:(x.Ay==1)=true:=by rw[hx.kind];rfl
  refine⟨⟨divI (r*f) 1000 mode,?_,?_⟩,⟨u,u0,u1,?_,?_⟩⟩
  ·unfold qdL;refine Ev.tt hk1 (Ev.bind (qtA h hx) ?_);simp only[hx.mod,qC dl,jd,sF];exact Ev.bind rs (Ev.bind ⟨0,fun n _=>c1 n⟩ .done)
  ·unfold qcu;simp only[jd,hv,hnet,hld,harc,hx.mod,qC dl,iF];exact Ev.tt hk1 (Ev.bind ri (Ev.bind ⟨0,fun n _=>c2 n⟩ .done))
  ·unfold qeA;refine Ev.tt hk1 (Ev.bind (qtA h hx) ?_);simp only[hx.mod,qC sL,jd];exact Ev.bind us .done
  ·unfold qbs;simp only[jd,hv,hnet,hld,harc,hx.mod,qC sL];refine Ev.tt hk1 (Ev.bind ui (Ev.now ?_));rw[if_neg (by omega)]
 ·have hnet:=qwE (ex:=ex) hx.jl hx.net_ hx.half;have hde:idx (viewE b ex).delays (net:Int)=V (exactL b net):=qjP (f:=exactL b) hx.nl;have hel:(exactL b net).length=(gt b.Af net).Bg.length:=by unfold exactL;rw[jy]
  have hq:q<(exactL b net).length:=by rw[hel];exact hx.kl
  obtain⟨x0,x1⟩:=qsC h hx.nl hx.kl;obtain⟨f,f0,f1,sF,iF⟩:=qtI hc (kind:=x.Ay) (mode:=mode);have dd:=fun n=>qlH (n:=n) (a:=gt (exactL b net) q) (b:=1000) (mode:=mode) (by omega) (by omega) (by omega);obtain⟨p0,p1⟩:=quM (a:=gt (exactL b net) q) (b:=1000) (mode:=mode) (M:=344000) (by omega) x0 (by omega);obtain⟨c1,c2⟩:=qvF (mode:=mode) p0 (by omega) (show 0≤f by omega) f1;have hk1:(x.Ay==1)=false:=by rw[hx.kind];rfl
  have hi:idx ((exactL b net).map fun x=>divI x 1000 mode) (q:Int)=V (divI (gt (exactL b net) q) 1000 mode):=by
   rw[qC (by rw[jy];exact hq),qqE hq]
  obtain⟨u,u0,us,ui⟩:=qxw s0 s1 x0 x1 hm;refine⟨⟨divI (divI (gt (exactL b net) q) 1000 mode*f) 1000 mode,?_,?_⟩,⟨if u<1000000 then u else 1000000,by split<;>omega,by split<;>omega,?_,?_⟩⟩
  ·unfold qdL;refine Ev.ff hk1 (Ev.bind (qqx h hx) (Ev.bind (qq8 h hx.nl) ?_));simp only[hx.ix,hi,jd,sF];exact Ev.bind ⟨0,fun n _=>c1 n⟩ .done
  ·unfold qcu;simp only[jd,hv,hnet,hde,hx.ix,qC hq,iF];refine Ev.ff hk1 (Ev.bind (b:=divI (gt (exactL b net) q) 1000 mode) ⟨0,fun n _=>(qux (m:=0)).trans (dd 0)⟩ (Ev.bind ⟨0,fun n _=>c2 n⟩ .done))
  ·have hw:=qbF h hx.nl;have hsn:=hw.sin q hx.kl;have hdl:=qoa h hx.nl;have eg:gt (exactL b net) q=gt (delaysL b net) (at0 (gt b.Af net).Bg q).toNat:=by
    unfold exactL;rw[qgv (by rw[jy];exact hx.kl),List.getElem_map,qlM hx.kl]
   unfold qeA qnw;refine Ev.ff hk1 (Ev.bind (qqx h hx) ?_);simp only[hx.ix,qC hx.nl,jd,qay hx.kl];refine Ev.bind (b:=u) (Ev.bind (qqi h hx.nl) ?_) .done;rw[qfW hsn.1 (show at0 (gt b.Af net).Bg q<((delaysL b net).length:Int) by omega)];simp only[jd];rw[←eg];exact us
  ·unfold qbs;simp only[jd,hv,hnet,hde,hx.ix,qC hq];refine Ev.ff hk1 (Ev.bind ui (Ev.now ?_))
   congr 1
   split<;>split<;>omega
theorem qr5 {b:qe}{c:qz}(h:blockB b=true)(hc:cornerB c=true){k:Nat}(hk:k<(linksL b).length){sl mode:Int}(s0:0≤sl)(s1:sl≤1000000)(hm:mode=0∨mode=1) :
  (∃ D:Int,Ev (fun n=>qdL n b c (gt (linksL b) k) sl mode) D∧∀ ex,Ev (fun n=>qcu n (V (viewE b ex)) c (k:Int) sl mode) D) ∧
  ∃ S:Int,0≤S∧S≤1000000∧Ev (fun n=>qeA n b (gt (linksL b) k) sl mode) S∧∀ ex,Ev (fun n=>qbs n (V (viewE b ex)) (k:Int) sl mode) S:=by
 obtain⟨⟨D,d1,_⟩,⟨S,a,c',s1',_⟩⟩:=qt8 [] h hc hk s0 s1 hm;refine⟨⟨D,d1,fun ex=>?_⟩,⟨S,a,c',s1',fun ex=>?_⟩⟩
 ·obtain⟨⟨D',e1,e2⟩,_⟩:=qt8 ex h hc hk s0 s1 hm;rw[d1.uniq e1];exact e2
 ·obtain⟨_,⟨S',_,_,e1,e2⟩⟩:=qt8 ex h hc hk s0 s1 hm;rw[s1'.uniq e1];exact e2
end Go.Fw


namespace Go.Fw
open Go
set_option maxRecDepth 100000
def slR (s:qc):Prop:=(0≤s.Am∧s.Am≤1000000)∧(0≤s.Au∧s.Au≤1000000)
def SpansS (b:qe)(c:qz)(f:Nat→qc→qc×qc):Prop:=∀ k s,k<(linksL b).length→slR s→slR (f k s).2∧Ev (fun n=>qiC n b c (gt (linksL b) k) s) (f k s)
def SpansI (b:qe)(c:qz)(ex:List Int)(f:Nat→qc→qc×qc):Prop:=∀ k s,k<(linksL b).length→slR s→slR (f k s).2∧Ev (fun n=>qg4 n (V (viewE b ex)) c (k:Int) s) (f k s)
def exK (b:qe)(ex:List Int)(k:Nat):Int:=bif (gt (linksL b) k).Ay==2 then gt ex (gt (places b.Aa) ((gt (linksL b) k).To / 2).toNat).net.toNat else 0
def wideS (e:Int)(s:qc):qc:=⟨W64 (s.Am-e),W64 (s.Au+e)⟩
def wideF (b:qe)(ex:List Int)(f:Nat→qc→qc×qc)(k:Nat)(s:qc):qc×qc:=bif decide (0<ex.length)&&((gt (linksL b) k).Ay==2) then(wideS (exK b ex k) (f k s).1,(f k s).2) else f k s
theorem qy8 {b:qe}{c:qz}(h:blockB b=true)(hc:cornerB c=true):∃ f,SpansS b c f∧∀ ex:List Int,ex.length=0∨ex.length=b.Af.length→SpansI b c ex (wideF b ex f):=by
 have main:∀ x:Nat×qc,∃ r:qc×qc,x.1<(linksL b).length→slR x.2→slR r.2∧Ev (fun n=>qiC n b c (gt (linksL b) x.1) x.2) r∧∀ ex:List Int,ex.length=0∨ex.length=b.Af.length→Ev (fun n=>qg4 n (V (viewE b ex)) c (x.1:Int) x.2) (wideF b ex (fun _ _=>r) x.1 x.2):=by
  rintro⟨k,s⟩;by_cases hk:k<(linksL b).length∧slR s
  ·obtain⟨hk,⟨e0,e1⟩,⟨l0,l1⟩⟩:=hk;obtain⟨⟨d1,p1,q1⟩,⟨u1,a1,b1,v1,w1⟩⟩:=qr5 h hc hk e0 e1 (mode:=0) (.inl Z);obtain⟨⟨d2,p2,q2⟩,⟨u2,a2,b2,v2,w2⟩⟩:=qr5 h hc hk e0 e1 (mode:=1) (.inr Z);obtain⟨⟨d3,p3,q3⟩,⟨u3,a3,b3,v3,w3⟩⟩:=qr5 h hc hk l0 l1 (mode:=0) (.inl Z);obtain⟨⟨d4,p4,q4⟩,⟨u4,a4,b4,v4,w4⟩⟩:=qr5 h hc hk l0 l1 (mode:=1) (.inr Z);refine⟨(⟨if d3<d1 then d3 else d1,if d4 > d2 then d4 else d2⟩,⟨if u3<u1 then u3 else u1,if u4 > u2 then u4 else u2⟩),fun _ _=>⟨⟨?_,?_⟩,?_,fun ex hex=>?_⟩⟩
   ·show 0≤(if u3<u1 then u3 else u1)∧(if u3<u1 then u3 else u1)≤1000000;split<;>omega
   ·show 0≤(if u4 > u2 then u4 else u2)∧(if u4 > u2 then u4 else u2)≤1000000;split<;>omega
   ·unfold qiC;exact Ev.bind p1 (Ev.bind p2 (Ev.bind v1 (Ev.bind v2 (Ev.bind p3 (Ev.bind p4 (Ev.bind v3 (Ev.bind v4 .done)))))))
   ·unfold qg4;refine Ev.bind (q1 ex) (Ev.bind (q3 ex) (Ev.bind (q2 ex) (Ev.bind (q4 ex) ?_)));have hv:idx (viewE b ex).links (k:Int)=V (gt (linksL b) k):=qC hk;have hx:(viewE b ex).extras=ex:=rfl;simp only[jd,hv,hx];unfold wideF;have fin:∀ r:Int×Int,Ev (fun n=>(qbs n (V (viewE b ex)) (k:Int) s.Am 0).bind fun r5=>(qbs n (V (viewE b ex)) (k:Int) s.Au 0).bind fun r6=>(qbs n (V (viewE b ex)) (k:Int) s.Am 1).bind fun r7=>(qbs n (V (viewE b ex)) (k:Int) s.Au 1).bind fun r8=>
      V ((⟨r.1,r.2⟩:qc),(⟨if r6<r5 then r6 else r5,if r8 > r7 then r8 else r7⟩:qc))) ((⟨r.1,r.2⟩:qc),(⟨if u3<u1 then u3 else u1,if u4 > u2 then u4 else u2⟩:qc)):=fun r=>Ev.bind (w1 ex) (Ev.bind (w3 ex) (Ev.bind (w2 ex) (Ev.bind (w4 ex) .done)))
    rw[show decide ((ex.length:Int) > 0)=decide (0<ex.length) by rw[decide_eq_decide];omega];cases hl:decide (0<ex.length)
    ·exact Ev.bind (b:=false) (Ev.now Z) (Ev.bind (b:=(if d3<d1 then d3 else d1,if d4 > d2 then d4 else d2)) (Ev.now Z) (fin _))
    ·cases hkd:(gt (linksL b) k).Ay==2
     ·exact Ev.bind (b:=false) (Ev.now Z) (Ev.bind (b:=(if d3<d1 then d3 else d1,if d4 > d2 then d4 else d2)) (Ev.now Z) (fin _))
     ·obtain⟨hcs,_⟩:=qhN h (qmS hk);rcases hcs with⟨i,j,m,net,a,hx⟩|⟨j,net,q,hx⟩
      ·rw[hx.kind] at hkd;cases hkd
      ·have hn:=qwE (ex:=ex) hx.jl hx.net_ hx.half;have hlt:net<ex.length:=by
        have:=of_decide_eq_true hl;have:=hx.nl;omega
       have hT:=(qhN h (qmS hk)).2.2;have hpl:=qbl (qai (qaA h));have ej:((gt (linksL b) k).To / 2).toNat=j:=by
        have:=hx.half;rw[jE hT.1,qF (by omega) (by omega)] at this;omega
       have eK:exK b ex k=gt ex net:=by
        unfold exK;rw[hkd,ej,hx.net_,jn]
        rfl
       refine Ev.bind (b:=true) (Ev.now Z) (Ev.bind (b:=(W64 ((if d3<d1 then d3 else d1)-gt ex net),W64 ((if d4 > d2 then d4 else d2)+gt ex net))) ?_ ?_)
       ·simp only[hn,jd,qC hlt];exact .done
       ·rw[eK];exact fin _
  ·exact⟨(s,s),fun h1 h2=>absurd ⟨h1,h2⟩ hk⟩
 obtain⟨f,hf⟩:=Classical.axiomOfChoice main;exact⟨fun k s=>f (k,s),fun k s h1 h2=>⟨(hf (k,s) h1 h2).1,(hf (k,s) h1 h2).2.1⟩,fun ex hex k s h1 h2=>⟨by
  have:=(hf (k,s) h1 h2).1;unfold wideF;cases decide (0<ex.length)&&((gt (linksL b) k).Ay==2)<;>exact this,(hf (k,s) h1 h2).2.2 ex hex⟩⟩
def zSp:qc:=⟨0,0⟩
def zSrc:qf:=⟨0,zSp,zSp⟩
def hullS (s t:qc):qc:=⟨if t.Am<s.Am then t.Am else s.Am,if t.Au > s.Au then t.Au else s.Au⟩
theorem qtx {s t:qc}:(⟨if s.Am<t.Am then s.Am else t.Am,if s.Au > t.Au then s.Au else t.Au⟩:qc)=hullS s t:=by
 unfold hullS
 congr 1
 ·split<;>split<;>omega
 ·split<;>split<;>omega
def plusS (s t:qc):qc:=⟨W64 (s.Am+t.Am),W64 (s.Au+t.Au)⟩
def joinS (node:Int)(s:Bool×qf)(ar sl:qc):Bool×qf:=bif s.1 then(true,⟨node,hullS s.2.Ac ar,hullS s.2.Aq sl⟩) else(true,⟨node,ar,sl⟩)
def frN (ls:List qv)(k:Nat):Nat:=(gt ls k).Bf.toNat
def stepS (f:Nat→qc→qc×qc)(ls:List qv)(t:qq)(node:Int)(s:Bool×qf)(k:Nat):Bool×qf:=
 bif gt t.Aj (frN ls k) then joinS node s (plusS (gt t.Ac (frN ls k)) (f k (gt t.Aq (frN ls k))).1) (f k (gt t.Aq (frN ls k))).2 else s
def toQ (ls:List qv)(lv:List Bool)(node:Int)(k:Nat):Bool:=lvL lv k&&(toL ls k==node)
def srcO (xs:List qf)(node:Int):Option qf:=xs.find? fun s=>s.Bm==node
def srcV (o:Option qf):Bool×qf:=match o with|some y=>(true,y)|none=>(false,zSrc)
def ndS (f:Nat→qc→qc×qc)(ls:List qv)(lv:List Bool)(t:qq)(node:Int)(s0:Bool×qf):Nat→Bool×qf
 | 0=>s0
 | k+1=>bif toQ ls lv node k then stepS f ls t node (ndS f ls lv t node s0 k) k else ndS f ls lv t node s0 k
theorem qzj {f:Nat→qc→qc×qc}{ls:List qv}{lv:List Bool}{t:qq}{node:Int}{s0:Bool×qf}{j:Nat}:(selN (toQ ls lv node) j).foldl (stepS f ls t node) s0=ndS f ls lv t node s0 j:=by
 induction j with
 | zero=>rfl
 | succ j ih=>
  rw[qoX,List.foldl_append,ih];show _=bif toQ ls lv node j then stepS f ls t node (ndS f ls lv t node s0 j) j else ndS f ls lv t node s0 j;cases toQ ls lv node j<;>rfl
structure TmOk (t:qq)(M:Nat):Prop where
 r:t.Aj.length=M
 a:t.Ac.length=M
 s:t.Aq.length=M
 sl:∀ k,k<M→slR (gt t.Aq k)
structure SrcOk (xs:List qf):Prop where
 len:xs.length≤1048576
 inc:∀ j i,i<j→j<xs.length→(gt xs i).Bm<(gt xs j).Bm
 sl:∀ x,x ∈ xs→slR x.Aq
theorem qzn {xs:List qf}{node:Int}(hl:xs.length≤1048576):Ev (fun n=>qkg n xs node) ((srcV (srcO xs node)).2,(srcV (srcO xs node)).1):=by
 have h1:Ev (fun n=>qaM n xs node) (ixL (fun s=>s.Bm==node) xs):=
  qgm (fin:=(xs.length:Int)) (Lf:=qab xs node) (xs:=xs) (pf:=fun n x=>qkV n x node) (fun _ _=>.done)
   (fun n=>by simp only[qab,ql (je _),cond_false])
   (fun n j x hx=>by
    have hj:=(List.getElem?_eq_some_iff.1 hx).1;simp only[qab,qk hj,cond_true,qan hx,jd,wS j])
   (fun n=>by unfold qaM;congr 1;funext o;cases o<;>rfl)
 unfold qkg;refine Ev.bind h1 ?_;unfold ixL srcO;cases hf:xs.findIdx? (fun s=>s.Bm==node) with
 | none=>
  have:xs.find? (fun s=>s.Bm==node)=U:=by
   rw[List.find?_eq_none];intro x hx;have:=List.findIdx?_eq_none_iff.1 hf x hx;simpa using this
  rw[this];exact Ev.ff Z .done
 | some j=>
  obtain⟨hj,hp,hn⟩:=List.findIdx?_eq_some_iff_getElem.1 hf;have:xs.find? (fun s=>s.Bm==node)=V xs[j]:=by
   rw[List.find?_eq_some_iff_getElem];exact⟨hp,j,hj,rfl,fun i hi=>by have:=hn i hi;simpa using this⟩
  rw[this];refine Ev.tt (show decide ((j:Int) ≥ 0)=true from decide_eq_true (by omega)) ?_;show Ev (fun n=>(idx xs (j:Int)).bind _) _;rw[qga hj];exact .done
theorem qoQ {xs:List qf}{node:Int}{y:qf}(h:srcO xs node=V y):y.Bm=node∧y ∈ xs:=by
 have h1:=List.find?_some h;exact⟨by simpa using h1,List.mem_of_find?_eq_some h⟩
theorem qwM {ls:List qv}{M:Nat}(h:LkOk ls M){k:Nat}(hk:k<ls.length):(gt ls k).Bf=(frN ls k:Int)∧frN ls k<M:=by
 have h0:=h.fr0 k hk;have h1:=h.fr1 k hk;unfold frN;omega
section
variable {b:qe}{c:qz}{ex:List Int}{f:Nat→qc→qc×qc}{lv:List Bool}{t:qq}{xs:List qf}{node:Int}
theorem qBy {ls:List qv}{M:Nat}{ps:List Tplace}{lo:List Int}{de:List (List Int)}{ex:List Int}(h:LkOk ls M)(hl:lv.length=ls.length):Ev (fun n=>qkk n (grV ls lv ps b lo de ex) node) (ints (selN (toQ ls lv node) ls.length)):=by
 have hll:=h.len;have hL:Ev (fun n=>qO node ⟨V ⟨b,ps,ls,lo,de,ex⟩,lv⟩ ⟨b,ps,ls,lo,de,ex⟩ n ([]:List Int) 0) (ints (selN (toQ ls lv node) ls.length),(ls.length:Int)):=by
  refine qls (q:=toQ ls lv node) (Lf:=qO node ⟨V ⟨b,ps,ls,lo,de,ex⟩,lv⟩ ⟨b,ps,ls,lo,de,ex⟩) (len:=ls.length) (by omega) (Ev.succ ?_) (fun j hj t ht X h1 h2=>?_)
  ·simp only[qO,ql (je _),cond_false];exact .done
  ·simp only[qO,qk hj,cond_true,qC hj,qC (show j<lv.length by omega),jd,qkT,ht,wS j];unfold toQ lvL toL at h1 h2;cases hq:gt lv j
   ·simp only[cond_false];exact h2 (by rw[hq];rfl)
   ·simp only[cond_true];cases hw:(gt ls j).To==node
    ·simp only[cond_false];exact h2 (by rw[hq,hw];rfl)
    ·simp only[cond_true];exact h1 (by rw[hq,hw];rfl)
 unfold qkk qcT grV;simp only[jd];exact Ev.bind (Ev.bind hL .done) .done
def fixS (node:Int)(s:Bool×qf):Bool×qf:=bif s.1 then s else(false,⟨node,zSp,zSp⟩)
theorem qyo (h:blockB b=true)(hf:SpansI b c ex f)(hl:lv.length=(linksL b).length)(ht:TmOk t (2*(places b.Aa).length))(hx:xs.length≤1048576) :
  Ev (fun n=>qdX n (V ⟨V (viewE b ex),lv⟩) c xs t node) (ndS f (linksL b) lv t node (srcV (srcO xs node)) (linksL b).length):=by
 have hk:=qoU h;have hkl:=hk.len;have hsel:=qly (q:=toQ (linksL b) lv node) (j:=(linksL b).length);have hnd:∀ j,(ndS f (linksL b) lv t node (srcV (srcO xs node)) j).1=true→(ndS f (linksL b) lv t node (srcV (srcO xs node)) j).2.Bm=node:=by
  intro j
  induction j with
  | zero=>
   show(srcV (srcO xs node)).1=true→(srcV (srcO xs node)).2.Bm=node;cases hs:srcO xs node with
   | none=>intro e;cases e
   | some y=>exact fun _=>(qoQ hs).1
  | succ j ih=>
   unfold ndS;cases toQ (linksL b) lv node j
   ·exact ih
   ·simp only[cond_true];unfold stepS;cases gt t.Aj (frN (linksL b) j)
    ·exact ih
    ·simp only[cond_true];unfold joinS;cases (ndS f (linksL b) lv t node (srcV (srcO xs node)) j).1<;>exact fun _=>rfl
 have hz:∀ j,(ndS f (linksL b) lv t node (srcV (srcO xs node)) j).1=false→(ndS f (linksL b) lv t node (srcV (srcO xs node)) j).2=zSrc:=by
  intro j
  induction j with
  | zero=>
   show(srcV (srcO xs node)).1=false→(srcV (srcO xs node)).2=zSrc;cases srcO xs node with
   | none=>exact fun _=>rfl
   | some y=>intro e;cases e
  | succ j ih=>
   unfold ndS;cases toQ (linksL b) lv node j
   ·exact ih
   ·simp only[cond_true];unfold stepS;cases gt t.Aj (frN (linksL b) j)
    ·exact ih
    ·simp only[cond_true];unfold joinS;cases (ndS f (linksL b) lv t node (srcV (srcO xs node)) j).1<;>(intro e;cases e)
 have fl:∀ (l:List Nat) (s:Bool×qf),(∀ k,k ∈ l→toQ (linksL b) lv node k=true)→l.foldl (fun s k=>fixS node (stepS f (linksL b) t node s k)) (fixS node s)=fixS node (l.foldl (stepS f (linksL b) t node) s):=by
  intro l
  induction l with
  | nil=>intro s _;rfl
  | cons k l ih=>
   intro s hq;have e:fixS node (stepS f (linksL b) t node (fixS node s) k)=fixS node (stepS f (linksL b) t node s k):=by
    unfold stepS;obtain⟨s1,s2⟩:=s;cases gt t.Aj (frN (linksL b) k)<;>cases s1<;>rfl
   rw[List.foldl_cons,List.foldl_cons,e];exact ih _ fun k' hk'=>hq k' (jo _ hk')
 have hL:=(qxp (τ:=Bool×qf) (xs:=selN (toQ (linksL b) lv node) (linksL b).length) (Lf:=fun n s j=>qbv (V ⟨V (viewE b ex),lv⟩) c t (ints (selN (toQ (linksL b) lv node) (linksL b).length)) n s.1 s.2.Bm s.2.Ac.Am s.2.Ac.Au s.2.Aq.Am s.2.Aq.Au j)
  (step:=fun s k=>fixS node (stepS f (linksL b) t node s k)) (fin:=fun s=>(s.1,s.2.Bm,s.2.Ac.Am,s.2.Ac.Au,s.2.Aq.Am,s.2.Aq.Au,((ints (selN (toQ (linksL b) lv node) (linksL b).length)).length:Int))) (fixS node (srcV (srcO xs node))) (fun _ s=>s=fixS node s∧s.2.Bm=node) (by
   constructor
   ·unfold fixS;cases hs:(srcV (srcO xs node)).1
    ·rfl
    ·simp only[hs,cond_true]
   ·unfold fixS;cases hs:srcO xs node with
    | none=>rfl
    | some y=>exact(qoQ hs).1)
  (fun j s hj hs=>by
   obtain⟨h1,h2⟩:=hs;have key:(stepS f (linksL b) t node s (selN (toQ (linksL b) lv node) (linksL b).length)[j]).2.Bm=node:=by
    unfold stepS;cases gt t.Aj (frN (linksL b) (selN (toQ (linksL b) lv node) (linksL b).length)[j])
    ·exact h2
    ·unfold joinS;cases s.1<;>rfl
   constructor
   ·unfold fixS;cases hs:(stepS f (linksL b) t node s (selN (toQ (linksL b) lv node) (linksL b).length)[j]).1
    ·rfl
    ·simp only[hs,cond_true]
   ·unfold fixS;cases hs:(stepS f (linksL b) t node s (selN (toQ (linksL b) lv node) (linksL b).length)[j]).1
    ·rfl
    ·exact key)
  (fun n s=>by simp only[qbv,qcF,ql (je _),cond_false])
  (fun j s hj hs X hX=>by
   obtain⟨hfx,hsn⟩:=hs;have hi:=qp5 hj;have hm:(selN (toQ (linksL b) lv node) (linksL b).length)[j]<(linksL b).length:=(qky.1 (jq hj)).1;generalize (selN (toQ (linksL b) lv node) (linksL b).length)[j]=k at hi hm hX;obtain⟨e1,e2⟩:=qwM hk hm;have hv:idx (viewE b ex).links (k:Int)=V (gt (linksL b) k):=qC hm;simp only[qbv,qcF,qk hj,cond_true,hi,hv,jd,e1,qC (show frN (linksL b) k<t.Aj.length by rw[ht.r];exact e2),qC (show frN (linksL b) k<t.Ac.length by rw[ht.a];exact e2),qC (show frN (linksL b) k<t.Aq.length by rw[ht.s];exact e2),wS j];unfold stepS at hX;cases h3:gt t.Aj (frN (linksL b) k)
   ·rw[h3] at hX;simp only[cond_false] at hX;rw[←hfx] at hX;exact hX
   rw[h3] at hX;simp only[cond_true] at hX ⊢;obtain⟨_,s1⟩:=hf k _ hm (ht.sl _ e2);refine Ev.bind s1 ?_;generalize f k (gt t.Aq (frN (linksL b) k))=q at hX ⊢;simp only[qma,jd];unfold joinS at hX;unfold qdC;cases h4:s.1
   ·rw[h4] at hX;simp only[Bool.not_false,cond_true,jd];unfold fixS at hX;simp only[cond_false,cond_true] at hX;rw[hsn];exact hX
   ·rw[h4] at hX;simp only[jV,cond_false,qhF,jd];unfold fixS at hX;simp only[cond_true] at hX;rw[hsn];exact hX)).1
 rw[fl _ _ (fun k hk'=>(qky.1 hk').2),qzj] at hL;unfold qdX;refine Ev.bind (qzn hx) ?_;have e0:(bif (srcV (srcO xs node)).1 then(qdC 0 ⟨node,⟨0,0⟩,⟨0,0⟩⟩ false ⟨(srcV (srcO xs node)).2.Ac.Am,(srcV (srcO xs node)).2.Ac.Au⟩ ⟨(srcV (srcO xs node)).2.Aq.Am,(srcV (srcO xs node)).2.Aq.Au⟩).bind (fun o=>match o with|(x9,x10)=>V (x10,x9.Bm,x9.Ac.Am,x9.Ac.Au,x9.Aq.Am,x9.Aq.Au)) else V (false,node,(0:Int),(0:Int),(0:Int),(0:Int))) =
   V ((fixS node (srcV (srcO xs node))).1,(fixS node (srcV (srcO xs node))).2.Bm,(fixS node (srcV (srcO xs node))).2.Ac.Am,(fixS node (srcV (srcO xs node))).2.Ac.Au,(fixS node (srcV (srcO xs node))).2.Aq.Am,(fixS node (srcV (srcO xs node))).2.Aq.Au):=by
  cases hs:srcO xs node with
  | none=>rfl
  | some y=>
   have:=(qoQ hs).1;unfold fixS srcV;simp only[cond_true,this]
   rfl
 refine Ev.bindN e0 (Ev.bind (qBy (ps:=places b.Aa) (lo:=pre (load0 b) b.Af.length) (de:=pre (exactL b) b.Af.length) (ex:=ex) hk hl) (Ev.bind hL ?_));have z:=hz (linksL b).length;generalize ndS f (linksL b) lv t node (srcV (srcO xs node)) (linksL b).length=s at z ⊢;unfold fixS;obtain⟨s1,s2⟩:=s;cases s1
 ·have:=z Z;simp only at this;subst this;exact .done
 ·exact .done
end
end Go.Fw


namespace Go.Fw
open Go
set_option maxRecDepth 100000
theorem qov {b:qe}(h:blockB b=true):Ev (fun n=>qhi n b) ((2*(places b.Aa).length:Nat):Int):=by
 have hs:=qai (qaA h);have hl:=qbl hs;unfold qhi;refine Ev.bind (b:=(places b.Aa).map toSp) (qi7 hs) (Ev.now ?_);rw[jy,qF (by omega) (by omega)]
 rfl
theorem qvM {v:Tview}(hl:v.places.length≤78)(n:Nat):qdi n (V v)=V ((2*v.places.length:Nat):Int):=by
 unfold qdi qew;simp only[jd];rw[qF (by omega) (by omega)]
 rfl
def stepN (xs:List qf)(j:Nat):Bool:=decide (j=0) || decide ((gt xs (j-1)).Bm<(gt xs j).Bm)
def srcB (xs:List qf)(M:Nat):Bool:=allN (fun j=>inI (gt xs j).Bm 0 ((M:Int)-1)&&(stepN xs j&&(spanB (gt xs j).Ac&&slewB (gt xs j).Aq))) xs.length
theorem qsR {xs:List qf}{j:Nat}(h:j ≠ 0):stepN xs j=decide ((gt xs (j-1)).Bm<(gt xs j).Bm):=by unfold stepN;rw[decide_eq_false h,Jj]
theorem qto {b:qe}{xs:List qf}(h:blockB b=true)(hl:xs.length≤1048576):Ev (fun n=>qhb n b xs) (srcB xs (2*(places b.Aa).length)):=by
 have hpl:=qbl (qai (qaA h));have e:=qov h;obtain⟨M,eM⟩:∃ M,M=2*(places b.Aa).length:=⟨_,rfl⟩;rw[←eM] at e ⊢;have hM:M≤156:=by omega
 have hL:Ev (fun n=>qbZ xs (M:Int) n 0) (bif srcB xs M then .nxt (xs.length:Int) else .ret false):=by
  refine qel (Lf:=qbZ xs (M:Int)) (len:=xs.length) (Ev.succ (by simp only[qbZ,ql (je _),cond_false];exact .done)) (fun j hj X hX=>Ev.succ ?_);simp only[qbZ,qk hj,cond_true,qC hj,jd,qcV,qsJ,qvW,wS j,wO ((M:Int)-1)];cases inI (gt xs j).Bm 0 ((M:Int)-1)
  ·exact .done
  refine Ev.ff Z ?_;by_cases h0:j=0
  ·subst h0;refine Ev.ff Z ?_;show Ev _ (bif (stepN xs 0&&_) then X else _);rw[show stepN xs 0=true from rfl];show Ev (fun n=>bif !spanB (gt xs 0).Ac then _ else bif !slewB (gt xs 0).Aq then _ else _) _;cases spanB (gt xs 0).Ac
   ·exact .done
   ·cases slewB (gt xs 0).Aq
    ·exact .done
    ·exact hX
  ·refine Ev.tt (decide_eq_true (by omega)) ?_;rw[show(j:Int)-1=((j-1:Nat):Int) by omega,qF (by omega) (by omega),qC (show j-1<xs.length by omega),qsR h0];simp only[jd];by_cases hlt:(gt xs (j-1)).Bm<(gt xs j).Bm
   ·rw[decide_eq_true hlt];refine Ev.ff (decide_eq_false (by omega)) ?_;show Ev (fun n=>bif !spanB (gt xs j).Ac then _ else bif !slewB (gt xs j).Aq then _ else _) _;cases spanB (gt xs j).Ac
    ·exact .done
    ·cases slewB (gt xs j).Aq
     ·exact .done
     ·exact hX
   ·rw[decide_eq_false hlt];exact Ev.tt (decide_eq_true (by omega)) .done
 unfold qhb;refine Ev.bind e (Ev.bind hL ?_);cases srcB xs M<;>exact .done
theorem qtn {v:Tview}{xs:List qf}(hp:v.places.length≤78)(hl:xs.length≤1048576):Ev (fun n=>qdW n (V v) xs) (srcB xs (2*v.places.length)):=by
 have e:=qvM hp;obtain⟨M,eM⟩:∃ M,M=2*v.places.length:=⟨_,rfl⟩;rw[←eM] at e ⊢;have hM:M≤156:=by omega
 have hL:Ev (fun n=>qa6 (V v) xs n 0) (bif srcB xs M then .nxt (xs.length:Int) else .ret false):=by
  refine qel (Lf:=qa6 (V v) xs) (len:=xs.length) (Ev.succ (by simp only[qa6,ql (je _),cond_false];exact .done)) (fun j hj X hX=>Ev.succ ?_);simp only[qa6,qk hj,cond_true,qC hj,jd,qj6,e,qdB,qqR,quZ,wS j,wO ((M:Int)-1)];cases inI (gt xs j).Bm 0 ((M:Int)-1)
  ·exact .done
  refine Ev.ff Z ?_;show Ev (fun n=>bif !spanB (gt xs j).Ac then _ else bif !slewB (gt xs j).Aq then _ else _) _;rw[jx,Bool.and_comm];cases spanB (gt xs j).Ac
  ·exact .done
  ·cases slewB (gt xs j).Aq
   ·exact .done
   ·refine Ev.ff Z (Ev.ff Z ?_);rw[jx,jx];by_cases h0:j=0
    ·subst h0;exact Ev.ff Z hX
    ·refine Ev.tt (decide_eq_true (by omega)) ?_;rw[show(j:Int)-1=((j-1:Nat):Int) by omega,qF (by omega) (by omega),qC (show j-1<xs.length by omega),qsR h0];simp only[jd];by_cases hlt:(gt xs (j-1)).Bm<(gt xs j).Bm
     ·rw[decide_eq_true hlt];exact Ev.ff (decide_eq_false (by omega)) hX
     ·rw[decide_eq_false hlt];exact Ev.tt (decide_eq_true (by omega)) .done
 unfold qdW;refine Ev.bind hL ?_;cases srcB xs M<;>exact .done
theorem qzX {xs:List qf}{M:Nat}(hl:xs.length≤1048576)(h:srcB xs M=true):SrcOk xs:=by
 unfold srcB at h;rw[qaC] at h;refine⟨hl,fun j=>?_,fun x hx=>?_⟩
 ·induction j with
  | zero=>intro i hi _;omega
  | succ j ih=>
   intro i hi hj;have hs:=h (j+1) hj;rw[qsR (by omega)] at hs;simp only[jf,decide_eq_true_eq,Nat.add_sub_cancel] at hs;have hs':=hs.2.1;by_cases hij:i=j
   ·rw[hij];exact hs'
   ·have:=ih i (by omega) (by omega);omega
 ·obtain⟨i,hi,rfl⟩:=List.mem_iff_getElem.1 hx;have hs:=h i hi;rw[←qgv hi];simp only[jf] at hs;have:=hs.2.2.2;unfold slewB at this;simp only[jf,decide_eq_true_eq] at this;exact⟨⟨this.1,by omega⟩,by omega,this.2.2⟩
section
variable {L:Nat}{fr to:Nat→Int}{lv:Nat→Bool}{n:Nat}
def OrdOk (L:Nat)(fr to:Nat→Int)(lv:Nat→Bool)(n:Nat)(R:List Nat):Prop:=∀ l1 k l2,R=l1++k::l2→k<n∧k ∉ l1∧inN L fr to lv l1 k=0
theorem OrdOk.snoc {R:List Nat}{k:Nat}(h:OrdOk L fr to lv n R)(hk:nxtN L fr to lv n R=V k):OrdOk L fr to lv n (R++[k]):=by
 intro l1 k' l2 e;rcases List.eq_nil_or_concat l2 with rfl|⟨l2',z,rfl⟩
 ·obtain⟨rfl,e2⟩:=List.append_inj' e Z;obtain rfl:k=k':=by simpa using e2
  exact qqF hk
 ·have e':R++[k]=(l1++k'::l2')++[z]:=by rw[e];simp
  obtain⟨e1,_⟩:=List.append_inj' e' Z;exact h l1 k' l2' e1
theorem qAw:∀ m R R',OrdOk L fr to lv n R→ordN L fr to lv n m R=V R'→OrdOk L fr to lv n R':=by
 intro m
 induction m with
 | zero=>intro R R' h e;obtain rfl:=Option.some.inj e;exact h
 | succ m ih=>
  intro R R' h e;unfold ordN at e;cases hn:nxtN L fr to lv n R with
  | none=>rw[hn] at e;cases e
  | some k=>
   rw[hn] at e;exact ih _ _ (h.snoc hn) e
theorem OrdOk.at {R:List Nat}(h:OrdOk L fr to lv n R){j:Nat}(hj:j<R.length):R[j]<n∧R[j] ∉ R.take j∧inN L fr to lv (R.take j) R[j]=0:=by
 refine h (R.take j) R[j] (R.drop (j+1)) ?_;rw[←jM hj,List.take_append_drop]
end
theorem qre {α:Type}[Inhabited α]{xs:List α}{k:Nat}{v:α}(hk:k<xs.length)(h:gt xs k=v):setS xs (k:Int) v=xs:=by
 unfold setS;rw[jn,←h,qgv hk];exact List.set_getElem_self hk
theorem qp3 {α:Type}[Inhabited α]{xs:List α}{a k:Nat}{y:α}(ha:a<xs.length):gt (setS xs (a:Int) y) k=if k=a then y else gt xs k:=by
 unfold setS;rw[jn];by_cases h:k=a
 ·subst h;rw[if_pos Z,qrf ha]
 ·rw[if_neg h,qtC h]
def setT (t:qq)(k:Nat)(s:Bool×qf):qq:=⟨setS t.Aj (k:Int) s.1,setS t.Ac (k:Int) s.2.Ac,setS t.Aq (k:Int) s.2.Aq⟩
theorem qua {t:qq}{M k:Nat}{s:Bool×qf}(h:TmOk t M)(hk:k<M)(hs:slR s.2.Aq):TmOk (setT t k s) M where
 r:=by show(setS _ _ _).length=_;rw[qdT];exact h.r
 a:=by show(setS _ _ _).length=_;rw[qdT];exact h.a
 s:=by show(setS _ _ _).length=_;rw[qdT];exact h.s
 sl:=fun j hj=>by
  show slR (gt (setS _ _ _) j);rw[qp3 (by rw[h.s];exact hk)];split
  ·exact hs
  ·exact h.sl j hj
def Bare (t:qq)(M:Nat)(l:List Nat):Prop:=∀ k,k<M→k ∉ l→gt t.Aj k=false∧gt t.Ac k=zSp∧gt t.Aq k=zSp
def zT:qq:=⟨[],[],[]⟩
theorem qy1:slR zSp:=by unfold slR zSp;exact⟨⟨jY _,by show(0:Int)≤_;omega⟩,jY _,by show(0:Int)≤_;omega⟩
theorem qzS {s t:qc}(hs:slR s)(ht:slR t):slR (hullS s t):=by
 obtain⟨⟨a1,a2⟩,a3,a4⟩:=hs;obtain⟨⟨b1,b2⟩,b3,b4⟩:=ht;refine⟨⟨?_,?_⟩,?_,?_⟩
 ·show(0:Int)≤(if t.Am<s.Am then t.Am else s.Am);split<;>assumption
 ·show(if t.Am<s.Am then t.Am else s.Am)≤1000000;split<;>assumption
 ·show(0:Int)≤(if t.Au > s.Au then t.Au else s.Au);split<;>assumption
 ·show(if t.Au > s.Au then t.Au else s.Au)≤1000000;split<;>assumption
section
variable {b:qe}{c:qz}{ex:List Int}{f g:Nat→qc→qc×qc}{lv:List Bool}{t:qq}{xs:List qf}{node:Int}
theorem qqs (h:blockB b=true)(hg:SpansS b c g)(hgf:∀ k s,(f k s).2=(g k s).2)(ht:TmOk t (2*(places b.Aa).length))(hx:SrcOk xs):∀ j,j≤(linksL b).length→slR (ndS f (linksL b) lv t node (srcV (srcO xs node)) j).2.Aq:=by
 intro j
 induction j with
 | zero=>
  intro _;show slR (srcV (srcO xs node)).2.Aq;cases hs:srcO xs node with
  | none=>exact qy1
  | some y=>exact hx.sl y (qoQ hs).2
 | succ j ih=>
  intro hj;have ih:=ih (by omega);obtain⟨_,e2⟩:=qwM (qoU h) (show j<(linksL b).length by omega);have h2:=(hg j _ (show j<(linksL b).length by omega) (ht.sl _ e2)).1;rw[←hgf] at h2;show slR (bif toQ (linksL b) lv node j then stepS f (linksL b) t node (ndS f (linksL b) lv t node (srcV (srcO xs node)) j) j else ndS f (linksL b) lv t node (srcV (srcO xs node)) j).2.Aq;cases toQ (linksL b) lv node j
  ·exact ih
  ·simp only[cond_true];unfold stepS;cases gt t.Aj (frN (linksL b) j)
   ·exact ih
   ·simp only[cond_true];unfold joinS;cases (ndS f (linksL b) lv t node (srcV (srcO xs node)) j).1
    ·exact h2
    ·exact qzS ih h2
theorem qz3:∀ j,(ndS f (linksL b) lv t node (srcV (srcO xs node)) j).1=false→(ndS f (linksL b) lv t node (srcV (srcO xs node)) j).2=zSrc:=by
 intro j
 induction j with
 | zero=>
  show(srcV (srcO xs node)).1=false→(srcV (srcO xs node)).2=zSrc;cases srcO xs node with
  | none=>exact fun _=>rfl
  | some y=>intro e;cases e
 | succ j ih=>
  unfold ndS;cases toQ (linksL b) lv node j
  ·exact ih
  ·simp only[cond_true];unfold stepS;cases gt t.Aj (frN (linksL b) j)
   ·exact ih
   ·simp only[cond_true];unfold joinS;cases (ndS f (linksL b) lv t node (srcV (srcO xs node)) j).1<;>(intro e;cases e)
def runR (o:Option qq):qq×Bool:=match o with|some t=>(t,true)|none=>(zT,false)
def rnO (f:Nat→qc→qc×qc)(ls:List qv)(lv:List Bool)(xs:List qf):List Nat→qq→Option qq
 | [],t=>V t
 | k::R,t=>bif (ndS f ls lv t (k:Int) (srcV (srcO xs (k:Int))) ls.length).1 then bif spanB (ndS f ls lv t (k:Int) (srcV (srcO xs (k:Int))) ls.length).2.Ac then rnO f ls lv xs R (setT t k (ndS f ls lv t (k:Int) (srcV (srcO xs (k:Int))) ls.length)) else U else rnO f ls lv xs R t
def zTm (M:Nat):qq:=⟨List.replicate M false,List.replicate M zSp,List.replicate M zSp⟩
theorem qum {α:Type}[Inhabited α]{v:α}{M k:Nat}(hk:k<M):gt (List.replicate M v) k=v:=by rw[qgv (by rw[jK];exact hk)];simp
theorem qwd {M:Nat}:TmOk (zTm M) M:=⟨jK,jK,jK,fun k hk=>by
 show slR (gt (List.replicate M zSp) k);rw[qum hk];exact qy1⟩
theorem qzc {M:Nat}{l:List Nat}:Bare (zTm M) M l:=fun k hk _=>⟨qum hk,qum hk,qum hk⟩
def runL (o:Option qq)(m:Nat):Flow (qq×Bool) (List qc×List qc×List Bool×Int):=match o with|some t'=>.nxt (t'.Aq,t'.Ac,t'.Aj,(m:Int))|none=>.ret (zT,false)
theorem qAc (h:blockB b=true)(hg:SpansS b c g)(hgf:∀ k s,(f k s).2=(g k s).2)(hf:SpansI b c ex f)(hl:lv.length=(linksL b).length)(hx:SrcOk xs){R:List Nat}(hR:∀ j,∀ hj:j<R.length,R[j]<2*(places b.Aa).length∧R[j] ∉ R.take j)(hRl:R.length≤1000) :
  Ev (fun n=>qb3 n (V ⟨V (viewE b ex),lv⟩) c xs (ints R)) (runR (rnO f (linksL b) lv xs R (zTm (2*(places b.Aa).length)))):=by
 have hpl:=qbl (qai (qaA h));have hnd:=qvM (v:=viewE b ex) hpl;have epl:(viewE b ex).places.length=(places b.Aa).length:=rfl;rw[epl] at hnd;obtain⟨M,eM⟩:∃ M,M=2*(places b.Aa).length:=⟨_,rfl⟩;have hM:M≤156:=by omega
 have main:∀ d j t,j+d=R.length→TmOk t M→Bare t M (R.take j)→Ev (fun n=>qa4 (V ⟨V (viewE b ex),lv⟩) c xs (ints R) n t.Aq t.Ac t.Aj (j:Int)) (runL (rnO f (linksL b) lv xs (R.drop j) t) R.length):=by
  intro d
  induction d with
  | zero=>
   intro j t hj ht _;obtain rfl:j=R.length:=by omega
   rw[List.drop_length];refine Ev.succ ?_;simp only[qa4,qcF,ql (je _),cond_false];exact .done
  | succ d ih=>
   intro j t hj ht hb;have hjl:j<R.length:=by omega
   obtain⟨k1,k2⟩:=hR j hjl;have hi:=qp5 hjl;have htk:R.take (j+1)=R.take j++[R[j]]:=jB hjl;have hd:R.drop j=R[j]::R.drop (j+1):=jM hjl;generalize R[j]=k at k1 k2 hi htk hd;rw[←eM] at k1;have hp:=qyo (node:=(k:Int)) h hf hl (by rw[←eM];exact ht) hx.len;have hsl:=qqs (node:=(k:Int)) (lv:=lv) h hg hgf (by rw[←eM];exact ht) hx (linksL b).length (je _);have hz:=qz3 (f:=f) (b:=b) (lv:=lv) (t:=t) (xs:=xs) (node:=(k:Int)) (linksL b).length;obtain⟨b1,b2,b3⟩:=hb k k1 k2;have ir:idx t.Aj (k:Int)=V (gt t.Aj k):=qC (by rw[ht.r];exact k1);have ia:idx t.Ac (k:Int)=V (gt t.Ac k):=qC (by rw[ht.a];exact k1);have is:idx t.Aq (k:Int)=V (gt t.Aq k):=qC (by rw[ht.s];exact k1);have ptp:∀ n,qa4 (V ⟨V (viewE b ex),lv⟩) c xs (ints R) (n+1) t.Aq t.Ac t.Aj (j:Int)=(qdX n (V ⟨V (viewE b ex),lv⟩) c xs t (k:Int)).bind fun o=>match o with
    | (r3,r4)=>(bif r3 then V (!spanB r4.Ac) else V false).bind fun b3=>bif b3 then V (.ret (zT,false)) else
     qa4 (V ⟨V (viewE b ex),lv⟩) c xs (ints R) n (setS t.Aq (k:Int) r4.Aq) (setS t.Ac (k:Int) r4.Ac) (setS t.Aj (k:Int) r3) ((j+1:Nat):Int):=fun n=>by
    simp only[qa4,qcF,qk hjl,cond_true,hi,jd,qqR,ir,ia,is,wS j]
    rfl
   rw[hd];unfold rnO;generalize ndS f (linksL b) lv t (k:Int) (srcV (srcO xs (k:Int))) (linksL b).length=s at hp hsl hz ⊢;obtain⟨s1,s2⟩:=s;cases s1
   ·have:=hz Z;simp only at this;subst this;have e1:setS t.Aq (k:Int) zSrc.Aq=t.Aq:=qre (by rw[ht.s];exact k1) b3;have e2:setS t.Ac (k:Int) zSrc.Ac=t.Ac:=qre (by rw[ht.a];exact k1) b2;have e3:setS t.Aj (k:Int) false=t.Aj:=qre (by rw[ht.r];exact k1) b1;refine Ev.step ptp (Ev.bind hp ?_);simp only[cond_false,jd,e1,e2,e3];exact ih (j+1) t (by omega) ht (fun i hi hni=>hb i hi (fun hm=>hni (by rw[htk];exact jS _ hm)))
   ·cases hsp:spanB s2.Ac
    ·refine Ev.step ptp (Ev.bind hp ?_);simp only[hsp];exact .done
    ·refine Ev.step ptp (Ev.bind hp ?_);simp only[hsp];refine ih (j+1) (setT t k (true,s2)) (by omega) (qua ht k1 hsl) (fun i hi hni=>?_);rw[htk] at hni;have hne:i ≠ k:=fun e=>hni (List.mem_append_right _ (List.mem_singleton.2 e));have:=hb i hi (fun hm=>hni (jS _ hm));refine⟨?_,?_,?_⟩
     ·show gt (setS _ _ _) i=_;rw[qp3 (by rw[ht.r];exact k1),if_neg hne];exact this.1
     ·show gt (setS _ _ _) i=_;rw[qp3 (by rw[ht.a];exact k1),if_neg hne];exact this.2.1
     ·show gt (setS _ _ _) i=_;rw[qp3 (by rw[ht.s];exact k1),if_neg hne];exact this.2.2
 have hm1:mkS (M:Int) false=V (List.replicate M false):=qmw (by omega);have hm2:mkS (M:Int) (⟨0,0⟩:qc)=V (List.replicate M zSp):=qmw (by omega);have o3:=main R.length 0 (zTm M) (by omega) qwd qzc;rw[List.drop_zero] at o3;rw[←eM] at hnd ⊢;unfold qb3 qiu;simp only[jd,hnd,hm1,hm2];refine Ev.bind o3 ?_;cases rnO f (linksL b) lv xs R (zTm M)<;>exact .done
end
end Go.Fw


namespace Go.Fw
open Go
def qqp (a:(List Bool)):Nat:=a.length
theorem qyA {a:(List Bool)}(h:qqp a≤1048576):Ev (fun n=>qli n a a) true:=by
 have hl:a.length≤1048576:=by simp only[qqp] at h;omega
 unfold qli;exact Ev.ff (by simp) (Ev.bind (b:=.nxt (a.length:Int)) (qib (eqf:=fun _ x y=>V (!(!(x==y)))) (fun x _=>Ev.now (by simp))
  (fun n=>by simp only[qgS,ql (je _),cond_false])
  (fun n j x hx=>by
   have hj:=(List.getElem?_eq_some_iff.1 hx).1;simp only[qgS,qk hj,cond_true,qan hx,jd,Bool.not_not,wS j])) .done)
def qip (x:qh):Prop:=rngI x.A∧rngI x.B∧rngI x.Bp
structure qrp (x:qh):Prop where
 A:okI x.A
 B:okI x.B
 Bp:okI x.Bp
theorem qts {x:qh}(h:qip x):qrp x:=⟨h.1,h.2.1,h.2.2⟩
theorem qvz {a:qh}:Ev (fun n=>qha n a a) true:=by
 unfold qha;exact Ev.ff qa7 (Ev.ff qa7 (Ev.ff qa7 (.done)))
def qcD (a:(List qh)):Nat:=a.length
theorem qsM {a:(List qh)}(h:(rngL qip) a)(w:qcD a≤1048576):(okL qrp) a:=
 ⟨by simp only[qcD] at w;omega,fun x hx=>qts (h.2 x hx)⟩
theorem qt9 {a:(List qh)}(h:qcD a≤1048576):Ev (fun n=>qis n a a) true:=by
 have hl:a.length≤1048576:=by simp only[qcD] at h;omega
 unfold qis;exact Ev.ff (by simp) (Ev.bind (b:=.nxt (a.length:Int)) (qib (eqf:=qha) (fun x hx=>qvz)
  (fun n=>by simp only[qer,ql (je _),cond_false])
  (fun n j x hx=>by
   have hj:=(List.getElem?_eq_some_iff.1 hx).1;simp only[qer,qk hj,cond_true,qan hx,jd,wS j])) .done)
def qpT (x:qc):Prop:=rngI x.Am∧rngI x.Au
structure qpV (x:qc):Prop where
 Am:okI x.Am
 Au:okI x.Au
theorem qtV {x:qc}(h:qpT x):qpV x:=⟨h.1,h.2⟩
def qka (x:qf):Prop:=rngI x.Bm∧qpT x.Ac∧qpT x.Aq
structure qtQ (x:qf):Prop where
 Bm:okI x.Bm
 Ac:qpV x.Ac
 Aq:qpV x.Aq
theorem qvv {x:qf}(h:qka x):qtQ x:=⟨h.1,qtV (h.2.1),qtV (h.2.2)⟩
theorem quL {a:qc}:Ev (fun n=>qhC n a a) true:=by
 unfold qhC;exact Ev.ff qa7 (Ev.ff qa7 (.done))
theorem qxA {a:qf}:Ev (fun n=>qiK n a a) true:=by
 unfold qiK;exact Ev.ff qa7 (Ev.bind (quL (a:=a.Ac)) (Ev.ff Z (Ev.bind (quL (a:=a.Aq)) (Ev.ff Z (.done)))))
def qeP (a:(List qf)):Nat:=a.length
theorem quI {a:(List qf)}(h:(rngL qka) a)(w:qeP a≤1048576):(okL qtQ) a:=
 ⟨by simp only[qeP] at w;omega,fun x hx=>qvv (h.2 x hx)⟩
theorem qv3 {a:(List qf)}(h:qeP a≤1048576):Ev (fun n=>qjn n a a) true:=by
 have hl:a.length≤1048576:=by simp only[qeP] at h;omega
 unfold qjn;exact Ev.ff (by simp) (Ev.bind (b:=.nxt (a.length:Int)) (qib (eqf:=qiK) (fun x hx=>qxA)
  (fun n=>by simp only[qfM,ql (je _),cond_false])
  (fun n j x hx=>by
   have hj:=(List.getElem?_eq_some_iff.1 hx).1;simp only[qfM,qk hj,cond_true,qan hx,jd,wS j])) .done)
def qnJ (a:(List qc)):Nat:=a.length
theorem qvx {a:(List qc)}(h:qnJ a≤1048576):Ev (fun n=>qjz n a a) true:=by
 have hl:a.length≤1048576:=by simp only[qnJ] at h;omega
 unfold qjz;exact Ev.ff (by simp) (Ev.bind (b:=.nxt (a.length:Int)) (qib (eqf:=qhC) (fun x hx=>quL)
  (fun n=>by simp only[qgY,ql (je _),cond_false])
  (fun n j x hx=>by
   have hj:=(List.getElem?_eq_some_iff.1 hx).1;simp only[qgY,qk hj,cond_true,qan hx,jd,wS j])) .done)
def ql6 (x:qq):Nat:=qqp x.Aj+qnJ x.Ac+qnJ x.Aq
structure qBn (x:qq):Prop where
 Aj:(okL okT) x.Aj
 Ac:(okL qpV) x.Ac
 Aq:(okL qpV) x.Aq
theorem qqM {a:qq}(h:ql6 a≤1048576):Ev (fun n=>qhg n a a) true:=by
 unfold qhg;simp only[ql6] at h;exact Ev.bind (qyA (a:=a.Aj) (by omega)) (Ev.ff Z (Ev.bind (qvx (a:=a.Ac) (by omega)) (Ev.ff Z (Ev.bind (qvx (a:=a.Aq) (by omega)) (Ev.ff Z (.done))))))
def qnI (x:qz):Prop:=rngS x.Az∧rngI x.Bc∧rngI x.Be∧rngI x.Bd∧rngI x.Bh
def qm7 (x:qz):Nat:=x.Az.size
structure qxY (x:qz):Prop where
 Az:okS x.Az
 Bc:okI x.Bc
 Be:okI x.Be
 Bd:okI x.Bd
 Bh:okI x.Bh
theorem qvb {x:qz}(h:qnI x)(w:qm7 x≤1048576):qxY x:=⟨(by unfold okS;simp only[qm7] at w;omega),h.2.1,h.2.2.1,h.2.2.2.1,h.2.2.2.2⟩
theorem qxW {a:qz}{left:Int}(h:qnI a)(h0:0≤left)(h1:left≤1048576):Sz (fun n=>qkl n a left) (fun r=>r=left-(qm7 a:Int)):=by
 unfold qkl;obtain⟨h_0,h_1,h_2,h_3,h_4⟩:=h;exact Sz.strStep h_0 (by omega) (by omega) fun p0 q0=>Sz.done p0 (by simp only[qm7];omega)
theorem quE {a:(List qh)}{left:Int}(h:(rngL qip) a)(h0:0≤left)(h1:left≤1048576):Sz (fun n=>qj7 n a left) (fun r=>r=left-(qcD a:Int)):=
 Sz.less h0 h1 (by omega) (by have:=h.1;omega) (fun _=>rfl)
theorem qwS {a:(List qf)}{left:Int}(h:(rngL qka) a)(h0:0≤left)(h1:left≤1048576):Sz (fun n=>qlP n a left) (fun r=>r=left-(qeP a:Int)):=
 Sz.less h0 h1 (by omega) (by have:=h.1;omega) (fun _=>rfl)
theorem qqt {a:qz}(_:qm7 a≤1048576):Ev (fun n=>qhe n a) a:=by
 unfold qhe;exact .done
theorem qvi {a:qh}:Ev (fun n=>qg3 n a) a:=by
 unfold qg3;exact .done
theorem qlj {a:(List qh)}(h:qcD a≤1048576):Ev (fun n=>qdI n a) a:=by
 have hl:a.length≤1048576:=by simp only[qcD] at h;omega
 unfold qdI;exact Ev.bindN (qiO (by omega)) (Ev.bind (b:=(a,(a.length:Int))) (qjv (cp:=qg3) (fun x hx=>qvi)
  (fun acc n=>by simp only[qeu,ql (je _),cond_false])
  (fun acc n j x y hx hy=>by
   have hj:=(List.getElem?_eq_some_iff.1 hx).1;simp only[qeu,qk hj,cond_true,qan hx,qan hy,jd,wS j])) .done)
theorem qw4 {a:qc}:Ev (fun n=>qkI n a) a:=by
 unfold qkI;exact .done
theorem qyd {a:qf}:Ev (fun n=>qiA n a) a:=by
 unfold qiA;exact Ev.bind (qw4 (a:=a.Ac)) (Ev.bind (qw4 (a:=a.Aq)) (.done))
theorem qnx {a:(List qf)}(h:qeP a≤1048576):Ev (fun n=>qfb n a) a:=by
 have hl:a.length≤1048576:=by simp only[qeP] at h;omega
 unfold qfb;exact Ev.bindN (qiO (by omega)) (Ev.bind (b:=(a,(a.length:Int))) (qjv (cp:=qiA) (fun x hx=>qyd)
  (fun acc n=>by simp only[qfE,ql (je _),cond_false])
  (fun acc n j x y hx hy=>by
   have hj:=(List.getElem?_eq_some_iff.1 hx).1;simp only[qfE,qk hj,cond_true,qan hx,qan hy,jd,wS j])) .done)
end Go.Fw


namespace Go.Fw
open Go
set_option maxRecDepth 100000
abbrev lkB (b:qe):Nat:=(linksL b).length
abbrev ndB (b:qe):Nat:=2*(places b.Aa).length
abbrev lvJ (b:qe)(br:List Int):List Bool:=lvB br (lkB b)
def grB (b:qe)(br:List Int):Option Tgraph:=V ⟨V (viewV b),lvJ b br⟩
structure TgOk (b:qe)(c:qz)(br:List Int)(xs:List qf)(R:List Nat):Prop where
 bl:blockB b=true
 co:cornerB c=true
 br_:brB br (lkB b)=true
 sr:srcB xs (ndB b)=true
 or_:ordL (linksL b) (lvJ b br) (ndB b) (ndB b) []=V R
theorem TgOk.ord {b:qe}{c:qz}{br:List Int}{xs:List qf}{R:List Nat}(h:TgOk b c br xs R):OrdOk (lkB b) (frL (linksL b)) (toL (linksL b)) (lvL (lvJ b br)) (ndB b) R:=
 qAw (ndB b) [] R (fun l1 k l2 e=>by cases l1<;>cases e) h.or_
theorem TgOk.len {b:qe}{c:qz}{br:List Int}{xs:List qf}{R:List Nat}(h:TgOk b c br xs R):R.length=ndB b:=by
 have:=qyJ (ndB b) [] R h.or_;simpa using this
theorem qxg {x:Int}(h:x ≠ 0):(x != 0)=true:=by simpa using h
theorem qBq {b:qe}{c:qz}{br:List Int}{xs:List qf}(hb:qkx b)(hc:okS c.Az)(hbl:br.length≤1048576)(hxl:xs.length≤1048576) :
  (∃ code:Int,code ≠ 0∧Ev (fun n=>qgI n b c br xs) ([],code)∧Ev (fun n=>qgt n b c br xs U) (U,[],code)) ∨
  ∃ R,TgOk b c br xs R∧Ev (fun n=>qgI n b c br xs) (ints R,0)∧Ev (fun n=>qgt n b c br xs U) (grB b br,ints R,0):=by
 have s1:=qmp hb;have i1:=qsZ hb;have s2:=qnl (c:=c) hc;have i2:=qrk (c:=c) hc;unfold qgI qgt;cases h1:blockB b
 ·rw[h1] at s1 i1;exact .inl ⟨1,by omega,Ev.bind (b:=true) (Ev.bind s1 (Ev.tt Z .done)) (Ev.tt Z .done),Ev.bind (b:=true) (Ev.bind i1 (Ev.tt Z .done)) (Ev.tt Z .done)⟩
 cases h2:cornerB c
 ·rw[h1] at s1 i1;rw[h2] at s2 i2;exact .inl ⟨1,by omega,Ev.bind (b:=true) (Ev.bind s1 (Ev.ff Z (Ev.bind s2 .done))) (Ev.tt Z .done),Ev.bind (b:=true) (Ev.bind i1 (Ev.ff Z (Ev.bind i2 .done))) (Ev.tt Z .done)⟩
 have hpl:=qbl (qai (qaA h1));have hll:=qnE h1;have hk:=qoU h1;have s3:=qwg (br:=br) hb h1 hbl;have i3:=qvh (v:=viewV b) (br:=br) hbl hll;have s4:=qto (xs:=xs) h1 hxl;have i4:=qtn (v:=viewV b) (xs:=xs) hpl hxl;have ev:(viewV b).links=linksL b:=rfl;have ep:(viewV b).places=places b.Aa:=rfl;rw[ev] at i3;rw[ep] at i4;rw[h1] at s1 i1;rw[h2] at s2 i2;have sA:Ev (fun n=>(qfB n b).bind fun r6=>bif (!r6) then V true else(qfV n c).bind fun r7=>V (!r7)) false:=Ev.bind s1 (Ev.ff Z (Ev.bind s2 .done));have iA:Ev (fun n=>(qgC n b).bind fun r6=>bif (!r6) then V true else(qfY n c).bind fun r7=>V (!r7)) false:=Ev.bind i1 (Ev.ff Z (Ev.bind i2 .done));have nv:=qwa h1;cases h3:brB br (lkB b)
 ·rw[h3] at s3 i3;exact .inl ⟨2,by omega,Ev.bind sA (Ev.ff Z (Ev.bind (b:=true) (Ev.bind s3 (Ev.tt Z .done)) (Ev.tt Z .done))),
   Ev.bind iA (Ev.ff Z (Ev.bind nv (Ev.bind (b:=false) (Ev.ff Z .done) (Ev.ff Z (Ev.bind (b:=true) (Ev.bind i3 (Ev.tt Z .done)) (Ev.tt Z .done))))))⟩
 cases h4:srcB xs (ndB b)
 ·rw[h3] at s3 i3;rw[h4] at s4 i4;exact .inl ⟨2,by omega,Ev.bind sA (Ev.ff Z (Ev.bind (b:=true) (Ev.bind s3 (Ev.ff Z (Ev.bind s4 .done))) (Ev.tt Z .done))),
   Ev.bind iA (Ev.ff Z (Ev.bind nv (Ev.bind (b:=false) (Ev.ff Z .done) (Ev.ff Z (Ev.bind (b:=true) (Ev.bind i3 (Ev.ff Z (Ev.bind i4 .done))) (Ev.tt Z .done))))))⟩
 have i5:=qwb (v:=viewV b) (br:=br) hll h3;rw[ev] at i5;have s5:=qsu (ls:=linksL b) (br:=br) hll hbl;have hlv:(lvJ b br).length=lkB b:=qt6;have s6:=qxF (lv:=lvJ b br) hk hlv;have i6:=qxs (b:=b) (ps:=places b.Aa) (lo:=pre (load0 b) b.Af.length) (de:=pre (exactL b) b.Af.length) (ex:=[]) (lv:=lvJ b br) hk hlv Z;rw[h3] at s3 i3;rw[h4] at s4 i4;have sB:Ev (fun n=>(qih n b br).bind fun r4=>bif (r4 != 0) then V true else(qhb n b xs).bind fun r5=>V (!r5)) false:=Ev.bind s3 (Ev.ff Z (Ev.bind s4 .done));have iB:Ev (fun n=>(qe9 n (V (viewV b)) br).bind fun r6=>bif (!r6) then V true else(qdW n (V (viewV b)) xs).bind fun r7=>V (!r7)) false:=Ev.bind i3 (Ev.ff Z (Ev.bind i4 .done));have sT:∀ r:List Int×Int,Ev (fun n=>(qiy n (ndB b:Int) (linksL b) (lvJ b br)).bind fun o=>match o with|(r6,r7)=>bif (!r7) then V (([]:List Int),(7:Int)) else V (r6,0)) r→Ev (fun n=>qfi n b br) r:=fun r hr=>by
  unfold qfi;exact Ev.bind s3 (Ev.ff Z (Ev.bind (qn9 h1) (Ev.bind (qov h1) (Ev.bind s5 hr))))
 cases ho:ordL (linksL b) (lvJ b br) (ndB b) (ndB b) [] with
 | none=>
  have e:ordR (linksL b) (lvJ b br) (ndB b)=([],false):=by unfold ordR;rw[ho]
  rw[e] at s6 i6;exact .inl ⟨7,by omega,Ev.bind sA (Ev.ff Z (Ev.bind sB (Ev.ff Z (Ev.bind (sT ([],7) (Ev.bind s6 (Ev.tt Z .done))) .done)))),
   Ev.bind iA (Ev.ff Z (Ev.bind nv (Ev.bind (b:=false) (Ev.ff Z .done) (Ev.ff Z (Ev.bind iB (Ev.ff Z (Ev.bind i5 (Ev.bind i6 (Ev.tt Z .done)))))))))⟩
 | some R=>
  have e:ordR (linksL b) (lvJ b br) (ndB b)=(ints R,true):=by unfold ordR;rw[ho]
  rw[e] at s6 i6;exact .inr ⟨R,⟨h1,h2,h3,h4,ho⟩,Ev.bind sA (Ev.ff Z (Ev.bind sB (Ev.ff Z (Ev.bind (sT (ints R,0) (Ev.bind s6 (Ev.ff Z .done))) .done)))),
   Ev.bind iA (Ev.ff Z (Ev.bind nv (Ev.bind (b:=false) (Ev.ff Z .done) (Ev.ff Z (Ev.bind iB (Ev.ff Z (Ev.bind i5 (Ev.bind i6 (Ev.ff Z .done)))))))))⟩
end Go.Fw


namespace Go.Fw
open Go
set_option maxRecDepth 100000
theorem qww (x:Int):W64 x=(x+9223372036854775808) % 18446744073709551616-9223372036854775808:=by
 unfold W64;rw[Go.IntWalk.i64_left];unfold RowKit.wrap64
 rfl
theorem qwl {a d e:Int}:W64 (W64 (a+d)-e)=W64 (a+W64 (d-e)):=by
 simp only[qww];omega
theorem qxo {a d e:Int}:W64 (W64 (a+d)+e)=W64 (a+W64 (d+e)):=by
 simp only[qww];omega
theorem qtD {x:Int}:W64 (W64 x)=W64 x:=by
 simp only[qww];omega
section
variable {b:qe}{c:qz}{ex:List Int}{f:Nat→qc→qc×qc}{lv:List Bool}{t:qq}{xs:List qf}{node:Int}
theorem qAe {xs:List qf}{node:Int}(h:SrcOk xs) :
  Ev (fun n=>qdl xs node n 0 0 0 0 0 false 0) ((srcV (srcO xs node)).2.Bm,(srcV (srcO xs node)).2.Ac.Am,(srcV (srcO xs node)).2.Ac.Au,(srcV (srcO xs node)).2.Aq.Am,(srcV (srcO xs node)).2.Aq.Au,(srcV (srcO xs node)).1,(xs.length:Int)):=by
 have hl:=h.len;have:=loopF (τ:=Bool×qf) (Lf:=fun n s j=>qdl xs node n s.2.Bm s.2.Ac.Am s.2.Ac.Au s.2.Aq.Am s.2.Aq.Au s.1 j) (S:=fun j=>srcV (srcO (xs.take j) node)) (len:=xs.length)
  (fin:=((srcV (srcO xs node)).2.Bm,(srcV (srcO xs node)).2.Ac.Am,(srcV (srcO xs node)).2.Ac.Au,(srcV (srcO xs node)).2.Aq.Am,(srcV (srcO xs node)).2.Aq.Au,(srcV (srcO xs node)).1,(xs.length:Int)))
  (fun n=>by simp only[qdl,ql (je _),cond_false,jG])
  (fun j hj X hX=>by
   simp only[qdl,qk hj,cond_true,qC hj,jd,wS j];have e:srcO (xs.take (j+1)) node=(srcO (xs.take j) node).or (bif (gt xs j).Bm==node then V (gt xs j) else U):=by
    unfold srcO;rw[jB hj,List.find?_append,←qgv hj]
    congr 1
   cases hq:(gt xs j).Bm==node
   ·rw[hq] at e;have e:srcO (xs.take (j+1)) node=srcO (xs.take j) node:=by rw[e];cases srcO (xs.take j) node<;>rfl
    rw[e] at hX;exact hX
   ·rw[hq] at e;have hn:srcO (xs.take j) node=U:=by
     unfold srcO;rw[List.find?_eq_none];intro x hx hxn;obtain⟨i,hi,rfl⟩:=List.mem_iff_getElem.1 hx;rw[jP] at hi;rw[List.getElem_take,←qgv (by omega)] at hxn;have:=h.inc j i (by omega) hj;simp only[beq_iff_eq] at hq hxn;omega
    have e:srcO (xs.take (j+1)) node=V (gt xs j):=by rw[e,hn];rfl
    rw[e] at hX;exact hX)
 exact this
theorem qzf (h:blockB b=true)(hex:ex.length=b.Af.length){k:Nat}(hk:k<(linksL b).length){q:qc×qc}(hq:q=f k (gt t.Aq (frN (linksL b) k)))(a:qc) :
  ∃ e:Int,Ev (fun n=>bif ((gt (linksL b) k).Ay==2) then(qh2 n b (gt (linksL b) k)).bind fun r4=>(idx ex r4).bind fun y18=>V y18 else V 0) e ∧
   (⟨W64 (W64 (a.Am+q.1.Am)-e),W64 (W64 (a.Au+q.1.Au)+e)⟩:qc)=plusS a (wideF b ex f k (gt t.Aq (frN (linksL b) k))).1∧q.2=(wideF b ex f k (gt t.Aq (frN (linksL b) k))).2:=by
 subst hq;obtain⟨hcs,_,hT⟩:=qhN h (qmS hk);unfold wideF exK;rcases hcs with⟨i,j,m,net,y,hx⟩|⟨j,net,y,hx⟩
 ·have hkd:((gt (linksL b) k).Ay==2)=false:=by rw[hx.kind];rfl
  rw[hkd,Bool.and_false];refine⟨0,.done,?_,rfl⟩;unfold plusS;simp only[Int.sub_zero,Ji,cond_false];rw[qtD,qtD]
 ·have hkd:((gt (linksL b) k).Ay==2)=true:=by rw[hx.kind];rfl
  have hlt:net<ex.length:=by have:=hx.nl;omega
  have hpl:=qbl (qai (qaA h));have ej:((gt (linksL b) k).To / 2).toNat=j:=by
   have:=hx.half;rw[jE hT.1,qF (by omega) (by omega)] at this;omega
  rw[hkd,decide_eq_true (show 0<ex.length by omega),Bool.and_true,ej,hx.net_,jn];refine⟨gt ex net,Ev.bind (qqx h hx) ?_,?_,rfl⟩
  ·rw[qC hlt];exact .done
  ·simp only[cond_true];unfold plusS wideS;rw[qwl,qxo]
theorem qze (h:blockB b=true)(hf:SpansS b c f)(hex:ex.length=b.Af.length)(hl:lv.length=(linksL b).length)(ht:TmOk t (2*(places b.Aa).length))(hx:SrcOk xs) :
  Ev (fun n=>qjF n b c (linksL b) lv xs ex t node) (ndS (wideF b ex f) (linksL b) lv t node (srcV (srcO xs node)) (linksL b).length):=by
 have hk:=qoU h;have hkl:=hk.len;obtain⟨g,hg⟩:∃ g,g=wideF b ex f:=⟨_,rfl⟩;have hL:=loopF (τ:=Bool×qf) (Lf:=fun n s j=>qdn b c (linksL b) lv ex t node n s.2.Bm s.2.Ac.Am s.2.Ac.Au s.2.Aq.Am s.2.Aq.Au s.1 j) (S:=fun j=>ndS g (linksL b) lv t node (srcV (srcO xs node)) j) (len:=(linksL b).length)
  (fin:=(fun s:Bool×qf=>(s.2.Bm,s.2.Ac.Am,s.2.Ac.Au,s.2.Aq.Am,s.2.Aq.Au,s.1,((linksL b).length:Int))) (ndS g (linksL b) lv t node (srcV (srcO xs node)) (linksL b).length))
  (fun n=>by simp only[qdn,ql (je _),cond_false])
  (fun j hj X hX=>by
   obtain⟨e1,e2⟩:=qwM hk hj;have eN:ndS g (linksL b) lv t node (srcV (srcO xs node)) (j+1)=bif toQ (linksL b) lv node j then stepS g (linksL b) t node (ndS g (linksL b) lv t node (srcV (srcO xs node)) j) j else ndS g (linksL b) lv t node (srcV (srcO xs node)) j:=rfl;rw[eN] at hX;generalize ndS g (linksL b) lv t node (srcV (srcO xs node)) j=s at hX ⊢;simp only[qdn,qk hj,cond_true,qC hj,qC (show j<lv.length by omega),jd,e1,qC (show frN (linksL b) j<t.Aj.length by rw[ht.r];exact e2),qC (show frN (linksL b) j<t.Ac.length by rw[ht.a];exact e2),qC (show frN (linksL b) j<t.Aq.length by rw[ht.s];exact e2),wS j];unfold toQ lvL toL at hX;cases h1:gt lv j
   ·rw[h1] at hX;exact hX
   rw[h1,jx] at hX;cases h2:(gt (linksL b) j).To==node
   ·rw[h2] at hX;simp only[bne,h2];exact hX
   rw[h2] at hX;simp only[bne,h2];unfold stepS at hX;cases h3:gt t.Aj (frN (linksL b) j)
   ·rw[h3] at hX;exact hX
   rw[h3] at hX;simp only[cond_true] at hX;obtain⟨_,s1⟩:=hf j _ hj (ht.sl _ e2);obtain⟨q,hq⟩:∃ q,q=f j (gt t.Aq (frN (linksL b) j)):=⟨_,rfl⟩;obtain⟨e,x1,x2,x3⟩:=qzf h hex hj hq (gt t.Ac (frN (linksL b) j));rw[←hq] at s1;rw[←hg] at x2 x3;rw[←x2,←x3] at hX;refine Ev.bind (b:=false) (Ev.now Z) (Ev.ff Z (Ev.bind s1 (Ev.bind x1 ?_)));unfold joinS at hX;cases h4:s.1
   ·rw[h4] at hX;exact hX
   ·rw[h4] at hX;simp only[qjM,jd,cond_true];have a1:=qtx (s:=s.2.Ac) (t:=(⟨W64 (W64 ((gt t.Ac (frN (linksL b) j)).Am+q.1.Am)-e),W64 (W64 ((gt t.Ac (frN (linksL b) j)).Au+q.1.Au)+e)⟩:qc));have a2:=qtx (s:=s.2.Aq) (t:=q.2);simp only[cond_true] at hX;rw[←a1,←a2] at hX;exact hX)
 rw[←hg];unfold qjF;exact Ev.bind (qAe hx) (Ev.bind hL .done)
theorem qAr {br:List Int}(h:blockB b=true)(hf:SpansS b c f)(hex:ex.length=b.Af.length)(hbl:br.length≤1048576)(hx:SrcOk xs){R:List Nat}(hR:∀ k,k ∈ R→k<2*(places b.Aa).length)(hRl:R.length≤1000) :
  Ev (fun n=>qhL n b c br xs ex (ints R)) (runR (rnO (wideF b ex f) (linksL b) (lvJ b br) xs R (zTm (2*(places b.Aa).length)))):=by
 have hpl:=qbl (qai (qaA h));have hcn:=qov h;have hll:=qnE h;have s5:=qsu (ls:=linksL b) (br:=br) hll hbl;have hl:(lvJ b br).length=(linksL b).length:=qt6;have hwf:∀ k s,(wideF b ex f k s).2=(f k s).2:=fun k s=>by
  unfold wideF;cases decide (0<ex.length)&&((gt (linksL b) k).Ay==2)<;>rfl
 obtain⟨M,eM⟩:∃ M,M=2*(places b.Aa).length:=⟨_,rfl⟩;have hM:M≤156:=by omega
 have main:∀ d j t,j+d=R.length→TmOk t M→Ev (fun n=>qcp b c xs ex (ints R) (linksL b) (lvJ b br) n t.Aq t.Ac t.Aj (j:Int)) (runL (rnO (wideF b ex f) (linksL b) (lvJ b br) xs (R.drop j) t) R.length):=by
  intro d
  induction d with
  | zero=>
   intro j t hj ht;obtain rfl:j=R.length:=by omega
   rw[List.drop_length];refine Ev.succ ?_;simp only[qcp,qcF,ql (je _),cond_false];exact .done
  | succ d ih=>
   intro j t hj ht;have hjl:j<R.length:=by omega
   have k1:=hR _ (jq hjl);have hi:=qp5 hjl;have hd:R.drop j=R[j]::R.drop (j+1):=jM hjl;generalize R[j]=k at k1 hi hd;rw[←eM] at k1;have hs:=qze (node:=(k:Int)) h hf hex hl (by rw[←eM];exact ht) hx;have hsl:=qqs (node:=(k:Int)) (lv:=lvJ b br) h hf hwf (by rw[←eM];exact ht) hx (linksL b).length (je _);have ir:idx t.Aj (k:Int)=V (gt t.Aj k):=qC (by rw[ht.r];exact k1);have ia:idx t.Ac (k:Int)=V (gt t.Ac k):=qC (by rw[ht.a];exact k1);have is:idx t.Aq (k:Int)=V (gt t.Aq k):=qC (by rw[ht.s];exact k1);have stp:∀ n,qcp b c xs ex (ints R) (linksL b) (lvJ b br) (n+1) t.Aq t.Ac t.Aj (j:Int)=(qjF n b c (linksL b) (lvJ b br) xs ex t (k:Int)).bind fun o=>match o with
    | (r4,r5)=>bif (!r4) then qcp b c xs ex (ints R) (linksL b) (lvJ b br) n t.Aq t.Ac t.Aj ((j+1:Nat):Int) else bif (!spanB r5.Ac) then V (.ret (zT,false)) else
     qcp b c xs ex (ints R) (linksL b) (lvJ b br) n (setS t.Aq (k:Int) r5.Aq) (setS t.Ac (k:Int) r5.Ac) (setS t.Aj (k:Int) true) ((j+1:Nat):Int):=fun n=>by
    simp only[qcp,qcF,qk hjl,cond_true,hi,jd,qsJ,ir,ia,is,wS j]
    rfl
   rw[hd];unfold rnO;generalize ndS (wideF b ex f) (linksL b) (lvJ b br) t (k:Int) (srcV (srcO xs (k:Int))) (linksL b).length=s at hs hsl ⊢;obtain⟨s1,s2⟩:=s;cases s1
   ·exact Ev.step stp (Ev.bind hs (ih (j+1) t (by omega) ht))
   ·cases hsp:spanB s2.Ac
    ·refine Ev.step stp (Ev.bind hs ?_);simp only[hsp];exact .done
    ·refine Ev.step stp (Ev.bind hs ?_);simp only[hsp];exact ih (j+1) (setT t k (true,s2)) (by omega) (qua ht k1 hsl)
 have hm1:mkS (M:Int) false=V (List.replicate M false):=qmw (by omega);have hm2:mkS (M:Int) (⟨0,0⟩:qc)=V (List.replicate M zSp):=qmw (by omega);have o2:=main R.length 0 (zTm M) (by omega) qwd;rw[List.drop_zero] at o2;rw[←eM] at hcn ⊢;unfold qhL qmJ;refine Ev.bind (qn9 h) (Ev.bind s5 (Ev.bind hcn ?_));simp only[hm1,hm2,jd];refine Ev.bind o2 ?_;cases rnO (wideF b ex f) (linksL b) (lvJ b br) xs R (zTm M)<;>exact .done
end
end Go.Fw


namespace Go.Fw
open Go
set_option maxRecDepth 100000
instance:Inhabited qh:=⟨⟨0,0,0⟩⟩
def cplB (b:qe)(y:qh):Bool:=netB b.Aa y.A&&(netB b.Aa y.B&&(decide (y.A<y.B)&&inI y.Bp 1 10000))
def ltC (x y:qh):Bool:=decide (x.A<y.A) || ((x.A==y.A)&&decide (x.B<y.B))
def cplsB (b:qe)(ks:List qh):Bool:=allN (fun j=>cplB b (gt ks j)&&(decide (j=0) || ltC (gt ks (j-1)) (gt ks j))) ks.length&&decide (ks.length≤20)
def cmp3 (x y:Int):Int:=if x<y then -1 else if x > y then 1 else 0
theorem qAX {n:Nat}{x y:Int}:qfN n x y=V (cmp3 x y):=by
 simp only[qfN,qeh,bne_self_eq_false,jd,cond_false];unfold cmp3;by_cases h1:x<y
 ·simp[h1]
 ·by_cases h2:x > y
  ·simp[h1,h2]
  ·simp[h1,h2]
theorem or3 {x y:Int}{n:Nat}:qiB [x,y] (n+3) 0=bif x != 0 then V (.ret x) else bif y != 0 then V (.ret y) else V (.nxt 2):=rfl
theorem qBr {x y:Int}:Ev (fun n=>qnq n [x,y]) (if x=0 then y else x):=by
 unfold qnq;refine Ev.bind (b:=bif x != 0 then .ret x else bif y != 0 then .ret y else .nxt 2) (Ev.succ (Ev.succ (Ev.succ ?_))) ?_
 ·refine⟨0,fun n _=>?_⟩;show qiB [x,y] (n+3) 0=_;rw[or3];cases (x != 0)<;>cases (y != 0)<;>rfl
 ·by_cases h1:x=0
  ·subst h1;by_cases h2:y=0
   ·subst h2;exact .done
   ·have:(y != 0)=true:=by simpa using h2
    rw[this];exact .done
  ·have:(x != 0)=true:=by simpa using h1
   rw[this,if_neg h1];exact .done
theorem qAU {x y:qh}:decide ((if cmp3 x.A y.A=0 then cmp3 x.B y.B else cmp3 x.A y.A) ≥ 0) = !ltC x y:=by
 unfold cmp3 ltC;by_cases h1:x.A<y.A
 ·simp[h1]
 ·by_cases h2:x.A > y.A
  ·have:¬ x.A=y.A:=by omega
   simp[h1,h2,this]
  ·have:x.A=y.A:=by omega
   rw[this];by_cases h3:x.B<y.B
   ·simp[h3]
   ·by_cases h4:x.B > y.B
    ·simp[h3,h4]
    ·simp[h3,h4]
theorem qrT {b:qe}{ks:List qh}(hn:b.Aa.Ai.length≤1048576)(hl:ks.length≤1048576):Ev (fun n=>qcK n b ks) (cplsB b ks):=by
 have hL:Ev (fun n=>qaZ b ks n 0) (bif allN (fun j=>cplB b (gt ks j)&&(decide (j=0) || ltC (gt ks (j-1)) (gt ks j))) ks.length then .nxt (ks.length:Int) else .ret false):=by
  refine qel ?_ (fun j hj X hX=>Ev.succ ?_)
  ·exact Ev.succ (by simp only[qaZ,ql (je _),cond_false];exact .done)
  ·simp only[qaZ,qk hj,cond_true,qC hj,jd,wS j,qsf (d:=⟨b.Aa.Ab,b.Aa.Ai,b.Aa.Ah⟩) hn,qdB,qAX,qb2];refine Ev.chkT ?_ fun _=>?_
   ·unfold cplB;refine Ev.orBP fun _=>Ev.orBP fun _=>?_;rw[show decide ((gt ks j).A ≥ (gt ks j).B) = !decide ((gt ks j).A<(gt ks j).B) by rw[jk];simp,qb2];exact Ev.orBP fun _=>.done
   ·by_cases h0:j=0
    ·subst h0;exact Ev.ff (by decide) hX
    ·have e2:decide (j=0)=false:=by simp;omega
     have e3:decide ((j:Int) > 0)=true:=by simp;omega
     rw[e2,e3,qdU (show j≤9223372036854775807 by omega),show(j:Int)-1=((j-1:Nat):Int) by omega,qC (show j-1<ks.length by omega)];simp only[cond_true,jd,Jj];refine Ev.bind qBr ?_;rw[qAU];simp only[qb2];exact Ev.okP1 fun _=>hX
 unfold qcK cplsB;refine Ev.bind hL ?_;cases allN (fun j=>cplB b (gt ks j)&&(decide (j=0) || ltC (gt ks (j-1)) (gt ks j))) ks.length
 ·exact .done
 ·refine Ev.now ?_;show V (decide ((ks.length:Int)≤((20:Nat):Int)))=V (true&&decide (ks.length≤20));rw[qmu,jx]
theorem qrA {b:qe}{ks:List qh}(hn:b.Aa.Ai.length≤1048576)(hl:ks.length≤1048576):Ev (fun n=>qhp n b ks) (cplsB b ks):=by
 have hL:Ev (fun n=>qbG b ks n 0) (bif allN (fun j=>cplB b (gt ks j)&&(decide (j=0) || ltC (gt ks (j-1)) (gt ks j))) ks.length then .nxt (ks.length:Int) else .ret false):=by
  refine qel ?_ (fun j hj X hX=>Ev.succ ?_)
  ·exact Ev.succ (by simp only[qbG,ql (je _),cond_false];exact .done)
  ·simp only[qbG,qk hj,cond_true,qC hj,jd,wS j,qq9 hn,qcV,qdU (show b.Aa.Ai.length≤9223372036854775807 by omega)];rw[show inI (gt ks j).A 0 ((b.Aa.Ai.length:Int)-1)=netB b.Aa (gt ks j).A from rfl];refine Ev.chkT ?_ fun _=>?_
   ·unfold cplB;simp only[qb2];refine Ev.orBP fun hA=>?_;have hA':0≤(gt ks j).A∧(gt ks j).A≤(b.Aa.Ai.length:Int)-1:=qa3.1 hA;rw[qF (show -9223372036854775808≤(gt ks j).A+1 by omega) (by omega)];rw[←Bool.and_assoc];have e:inI (gt ks j).B ((gt ks j).A+1) ((b.Aa.Ai.length:Int)-1)=(netB b.Aa (gt ks j).B&&decide ((gt ks j).A<(gt ks j).B)):=by
     unfold netB inI;rw[jk];simp;omega
    rw[e];exact Ev.orBP fun _=>.done
   ·by_cases h0:j=0
    ·subst h0;exact Ev.ff (by decide) hX
    ·have e2:decide (j=0)=false:=by simp;omega
     have e3:decide ((j:Int) > 0)=true:=by simp;omega
     rw[e2,e3,qdU (show j≤9223372036854775807 by omega),show(j:Int)-1=((j-1:Nat):Int) by omega,qC (show j-1<ks.length by omega)];simp only[cond_true,jd,Jj];unfold ltC;by_cases h1:(gt ks (j-1)).A > (gt ks j).A
     ·have h2:¬ (gt ks (j-1)).A<(gt ks j).A:=by omega
      have h3:¬ (gt ks (j-1)).A=(gt ks j).A:=by omega
      simp only[h1,h2,h3,decide_true,decide_false,cond_true,Jj,beq_eq_false_iff_ne.2 h3,Bool.false_and,cond_false];exact .done
     ·by_cases h3:(gt ks (j-1)).A=(gt ks j).A
      ·have h2:¬ (gt ks (j-1)).A<(gt ks j).A:=by omega
       simp only[h1,h2,decide_false,cond_false,Jj,beq_iff_eq.2 h3,cond_true,jx];rw[show decide ((gt ks (j-1)).B ≥ (gt ks j).B) = !decide ((gt ks (j-1)).B<(gt ks j).B) by rw[jk];simp];simp only[qb2];exact Ev.okP1 fun _=>hX
      ·have h2:(gt ks (j-1)).A<(gt ks j).A:=by omega
       simp only[h1,h2,decide_false,decide_true,cond_false,beq_eq_false_iff_ne.2 h3,Bool.true_or,cond_true];exact hX
 unfold qhp cplsB;refine Ev.bind hL ?_;cases allN (fun j=>cplB b (gt ks j)&&(decide (j=0) || ltC (gt ks (j-1)) (gt ks j))) ks.length
 ·exact .done
 ·refine Ev.now ?_;show V (decide ((ks.length:Int)≤((20:Nat):Int)))=V (true&&decide (ks.length≤20));rw[qmu,jx]
end Go.Fw


namespace Go.Fw
open Go
set_option maxRecDepth 100000
def TmL (t:qq)(M:Nat):Prop:=t.Aj.length=M∧t.Ac.length=M
def winO (t:qq)(m:Nat):qc×Bool:=
 bif gt t.Aj m then bif gt t.Aj (m+1) then(hullS (gt t.Ac m) (gt t.Ac (m+1)),true) else(gt t.Ac m,true) else bif gt t.Aj (m+1) then(gt t.Ac (m+1),true) else(zSp,false)
def winB (b:qe)(t:qq)(net:Int):qc×Bool:=winO t (2*dvN b.Aa net.toNat)
section
variable {b:qe}{t:qq}{net:Int}
theorem qyz (h:blockB b=true)(hn:netB b.Aa net=true):∃ k:Nat,net=(k:Int)∧k<b.Aa.Ai.length∧dvN b.Aa k<(places b.Aa).length∧(places b.Aa).length≤78∧(gt (places b.Aa) (dvN b.Aa k)).net=net∧(gt (places b.Aa) (dvN b.Aa k)).drives=true:=by
 unfold netB at hn;rw[qa3] at hn;have hk:net.toNat<b.Aa.Ai.length:=by omega
 obtain⟨h1,h2⟩:=qjk (qaA h) hk;obtain⟨h3,h4⟩:=qob.1 h2;exact⟨net.toNat,qfn hn.1,hk,h1,qbl (qai (qaA h)),by rw[h3];exact(qfn hn.1).symm,h4⟩
theorem qsj (h:blockB b=true)(ht:TmL t (ndB b))(hn:netB b.Aa net=true):Ev (fun n=>qhQ n b t net) (winB b t net):=by
 obtain⟨k,rfl,hk,h1,hpl,h3,h4⟩:=qyz h hn;obtain⟨t1,t2⟩:=ht;have eM:ndB b=2*(places b.Aa).length:=rfl;unfold qhQ winB;rw[jn];refine Ev.bind (qp4 h h1 h3 h4) ?_;generalize dvN b.Aa k=m at h1;have e1:W64 (2*(m:Int))=((2*m:Nat):Int):=by rw[qF (by omega) (by omega)];omega
 have e2:W64 (((2*m:Nat):Int)+1)=((2*m+1:Nat):Int):=by rw[qF (by omega) (by omega)];omega
 simp only[e1,e2,qC (show 2*m<t.Aj.length by omega),qC (show 2*m+1<t.Aj.length by omega),qC (show 2*m<t.Ac.length by omega),qC (show 2*m+1<t.Ac.length by omega),jd];unfold winO;cases gt t.Aj (2*m)<;>cases gt t.Aj (2*m+1)<;>exact .done
theorem qxZ {m:Nat}(h1:m+1<t.Aj.length)(h2:m+1<t.Ac.length):Ev (fun n=>qmr n t [(m:Int),((m+1:Nat):Int)]) (winO t m):=by
 have d:decide ((0:Int)<(([(m:Int),((m+1:Nat):Int)]:List Int).length:Int))=true:=rfl;have d2:decide ((1:Int)<(([(m:Int),((m+1:Nat):Int)]:List Int).length:Int))=true:=rfl;have d3:decide ((2:Int)<(([(m:Int),((m+1:Nat):Int)]:List Int).length:Int))=false:=rfl;have x1:idx [(m:Int),((m+1:Nat):Int)] 0=V (m:Int):=rfl;have x2:idx [(m:Int),((m+1:Nat):Int)] 1=V ((m+1:Nat):Int):=rfl;have w1:W64 (0+1)=1:=rfl;have w2:W64 (1+1)=2:=rfl;unfold qmr winO;cases r1:gt t.Aj m<;>cases r2:gt t.Aj (m+1)<;>refine⟨3,fun n hn=>?_⟩<;>obtain⟨n,rfl⟩:∃ k,n=k+3:=⟨n-3,by omega⟩ <;>
  simp only[qhG,d,d2,d3,x1,x2,w1,w2,cond_true,cond_false,jd,qC (show m<t.Aj.length by omega),qC h1,qC (show m<t.Ac.length by omega),qC h2,r1,r2,qdC,qhF,jV,Bool.not_false]<;>rfl
theorem qtO (ex:List Int)(h:blockB b=true)(ht:TmL t (ndB b))(hn:netB b.Aa net=true):Ev (fun n=>qgq n (V (viewE b ex)) t net) (winB b t net):=by
 obtain⟨k,rfl,hk,h1,hpl,h3,h4⟩:=qyz h hn;obtain⟨t1,t2⟩:=ht;have eM:ndB b=2*(places b.Aa).length:=rfl;have e:ixL (fun q:Tplace=>(q.net==(k:Int))&&q.drives) (places b.Aa)=(dvN b.Aa k:Int):=by
  refine qwr h1 (by rw[h3,h4];simp) (fun i hi hq=>?_);simp only[jf,beq_iff_eq] at hq;exact(qvK (qaA h) hk hi hq.1 hq.2).symm
 have hI:Ev (fun n=>qau n (places b.Aa) (k:Int)) (dvN b.Aa k:Int):=by
  rw[←e];exact qgm (fin:=((places b.Aa).length:Int)) (Lf:=qT (places b.Aa) (k:Int)) (xs:=places b.Aa) (pf:=fun n x=>qgB n x (k:Int)) (fun x _=>by
    unfold qgB;cases x.net==(k:Int)<;>exact .done)
   (fun n=>by simp only[qT,ql (je _),cond_false])
   (fun n j x hx=>by
    have hj:=(List.getElem?_eq_some_iff.1 hx).1;simp only[qT,qk hj,cond_true,qan hx,jd,wS j])
   (fun n=>by unfold qau;congr 1;funext o;cases o<;>rfl)
 unfold qgq winB;rw[jn];show Ev (fun n=>(qau n (places b.Aa) (k:Int)).bind _) _;refine Ev.bind hI ?_;generalize dvN b.Aa k=m at h1;have e1:W64 (2*(m:Int))=((2*m:Nat):Int):=by rw[qF (by omega) (by omega)];omega
 have e2:W64 (((2*m:Nat):Int)+1)=((2*m+1:Nat):Int):=by rw[qF (by omega) (by omega)];omega
 simp only[e1,e2];exact Ev.bind (qxZ (t:=t) (m:=2*m) (by omega) (by omega)) .done
end
def actQ (b:qe)(t:qq)(ks:List qh)(k:Nat):Bool:=
 (winB b t (gt ks k).A).2&&((winB b t (gt ks k).B).2&&(decide ((winB b t (gt ks k).A).1.Am≤(winB b t (gt ks k).B).1.Au)&&decide ((winB b t (gt ks k).B).1.Am≤(winB b t (gt ks k).A).1.Au)))
theorem qpX {b:qe}{ks:List qh}(h:cplsB b ks=true):ks.length≤20∧∀ k,k<ks.length→netB b.Aa (gt ks k).A=true∧netB b.Aa (gt ks k).B=true∧(gt ks k).A<(gt ks k).B:=by
 unfold cplsB at h;rw[jf,qaC,decide_eq_true_eq] at h;refine⟨h.2,fun k hk=>?_⟩;have:=h.1 k hk;unfold cplB at this;simp only[jf,decide_eq_true_eq] at this;exact⟨this.1.1,this.1.2.1,this.1.2.2.1⟩
section
variable {b:qe}{t:qq}{ks:List qh}
theorem qv4 (h:blockB b=true)(ht:TmL t (ndB b))(hc:cplsB b ks=true):Ev (fun n=>qjK n b t ks) (ints (selN (actQ b t ks) ks.length)):=by
 obtain⟨hl,hn⟩:=qpX hc;have hL:Ev (fun n=>qck b t ks n ([]:List Int) 0) (ints (selN (actQ b t ks) ks.length),(ks.length:Int)):=by
  refine qls (q:=actQ b t ks) (Lf:=qck b t ks) (len:=ks.length) (by omega) (Ev.succ ?_) (fun j hj s hs X h1 h2=>?_)
  ·simp only[qck,ql (je _),cond_false];exact .done
  ·obtain⟨nA,nB,_⟩:=hn j hj;simp only[qck,qk hj,cond_true,qC hj,jd,hs,wS j];refine Ev.bind (qsj h ht nA) (Ev.bind (qsj h ht nB) ?_);unfold actQ at h1 h2;generalize winB b t (gt ks j).A=u at h1 h2 ⊢;generalize winB b t (gt ks j).B=v at h1 h2 ⊢;cases q1:u.2
   ·exact Ev.bind (b:=false) (Ev.now Z) (Ev.ff Z (h2 (by rw[q1];rfl)))
   cases q2:v.2
   ·exact Ev.bind (b:=false) (Ev.now Z) (Ev.ff Z (h2 (by rw[q1,q2];rfl)))
   cases q3:decide (u.1.Am≤v.1.Au)
   ·exact Ev.bind (b:=false) (Ev.now Z) (Ev.ff Z (h2 (by rw[q1,q2,q3];rfl)))
   cases q4:decide (v.1.Am≤u.1.Au)
   ·exact Ev.bind (b:=false) (Ev.now Z) (Ev.ff Z (h2 (by rw[q1,q2,q3,q4];rfl)))
   ·exact Ev.bind (b:=true) (Ev.now Z) (Ev.tt Z (h1 (by rw[q1,q2,q3,q4];rfl)))
 unfold qjK;exact Ev.bind hL .done
theorem qxO (ex:List Int)(h:blockB b=true)(ht:TmL t (ndB b))(hc:cplsB b ks=true):Ev (fun n=>qif n (V (viewE b ex)) t ks) (ints (selN (actQ b t ks) ks.length)):=by
 obtain⟨hl,hn⟩:=qpX hc;have hL:Ev (fun n=>qa9 (V (viewE b ex)) t ks n ([]:List Int) 0) (ints (selN (actQ b t ks) ks.length),(ks.length:Int)):=by
  refine qls (q:=actQ b t ks) (Lf:=qa9 (V (viewE b ex)) t ks) (len:=ks.length) (by omega) (Ev.succ ?_) (fun j hj s hs X h1 h2=>?_)
  ·simp only[qa9,ql (je _),cond_false];exact .done
  ·obtain⟨nA,nB,_⟩:=hn j hj;simp only[qa9,qk hj,cond_true,qC hj,jd,hs,wS j];refine Ev.bind (qtO ex h ht nA) (Ev.bind (qtO ex h ht nB) ?_);unfold actQ at h1 h2;generalize winB b t (gt ks j).A=u at h1 h2 ⊢;generalize winB b t (gt ks j).B=v at h1 h2 ⊢;unfold qi3;cases q1:u.2
   ·exact Ev.ff Z (h2 (by rw[q1];rfl))
   cases q2:v.2
   ·exact Ev.tt Z (Ev.ff Z (h2 (by rw[q1,q2];rfl)))
   cases q3:decide (u.1.Am≤v.1.Au)
   ·exact Ev.tt Z (Ev.tt Z (Ev.bind (b:=false) (Ev.now Z) (Ev.ff Z (h2 (by rw[q1,q2,q3];rfl)))))
   cases q4:decide (v.1.Am≤u.1.Au)
   ·exact Ev.tt Z (Ev.tt Z (Ev.bind (b:=false) (Ev.now Z) (Ev.ff Z (h2 (by rw[q1,q2,q3,q4];rfl)))))
   ·exact Ev.tt Z (Ev.tt Z (Ev.bind (b:=true) (Ev.now Z) (Ev.tt Z (h1 (by rw[q1,q2,q3,q4];rfl)))))
 unfold qif;exact Ev.bind hL .done
end
def addE (s:List Int)(x:qh):List Int:=setS (setS s x.A (W64 (gt s x.A.toNat+x.Bp))) x.B (W64 (gt s x.B.toNat+x.Bp))
def exS (ks:List qh)(m:Nat)(used:List Int):Nat→List Int
 | 0=>List.replicate m 0
 | j+1=>addE (exS ks m used j) (gt ks (at0 used j).toNat)
theorem quf {ks:List qh}{m:Nat}{used:List Int}{j:Nat}:(exS ks m used j).length=m:=by
 induction j with
 | zero=>exact jK
 | succ j ih=>show(setS (setS _ _ _) _ _).length=m;rw[qdT,qdT];exact ih
theorem inRange0 {x:Int}{m:Nat}(h:inI x 0 ((m:Int)-1)=true):0≤x∧x<(m:Int)∧x.toNat<m:=by rw[qa3] at h;omega
theorem qBm {br:List Int}{m:Nat}(h:brB br m=true){i:Nat}(hi:i<br.length):∃ k:Nat,k<m∧at0 br i=(k:Int):=by
 unfold brB at h;rw[jf,jI] at h;have:=h.1 _ (jq hi);obtain⟨r0,r1,r2⟩:=inRange0 this;exact⟨br[i].toNat,r2,by rw[qlM hi];exact qfn r0⟩
section
variable {b:qe}{ks:List qh}{used:List Int}
theorem qw8 (hc:cplsB b ks=true)(hu:brB used ks.length=true){i:Nat}(hi:i<used.length){s:List Int}(hs:s.length=b.Aa.Ai.length):∃ k:Nat,k<ks.length∧at0 used i=(k:Int)∧idx s (gt ks k).A=V (gt s (gt ks k).A.toNat) ∧
  ∀ v,idx (setS s (gt ks k).A v) (gt ks k).B=V (gt s (gt ks k).B.toNat):=by
 obtain⟨k,hk,ek⟩:=qBm hu hi;obtain⟨nA,nB,hlt⟩:=(qpX hc).2 k hk;unfold netB at nA nB;rw[qa3] at nA nB;refine⟨k,hk,ek,qfW nA.1 (by omega),fun v=>?_⟩;have eA:=qfn nA.1;have eB:=qfn nB.1;rw[eA,eB,qC (by rw[qdT];omega),qp3 (by omega),if_neg (by omega),jn]
theorem qws (hc:cplsB b ks=true)(hnl:b.Aa.Ai.length≤1048576)(hul:used.length≤1048576)(hu:brB used ks.length=true):Ev (fun n=>qgh n b ks used) (exS ks b.Aa.Ai.length used used.length):=by
 have hL:=loopF (Lf:=fun n s i=>qd4 ks used n s i) (S:=exS ks b.Aa.Ai.length used) (len:=used.length) (fin:=(exS ks b.Aa.Ai.length used used.length,(used.length:Int)))
  (fun n=>by simp only[qd4,ql (je _),cond_false])
  (fun i hi X hX=>by
   obtain⟨k,hk,ek,e1,e2⟩:=qw8 hc hu hi (quf (ks:=ks) (used:=used) (j:=i));have eN:exS ks b.Aa.Ai.length used (i+1)=addE (exS ks b.Aa.Ai.length used i) (gt ks k):=by
    show addE _ _=_;rw[ek,jn]
   rw[eN] at hX;generalize exS ks b.Aa.Ai.length used i=s at e1 e2 hX ⊢;simp only[qd4,qk hi,cond_true,qay hi,jd,ek,qC hk,e1,e2,wS i];exact hX)
 unfold qgh;simp only[qmw (show b.Aa.Ai.length≤2147483648 by omega),jd];exact Ev.bind hL .done
theorem qvn (h:blockB b=true)(hc:cplsB b ks=true)(hnl:b.Aa.Ai.length≤1048576)(hul:used.length≤1048576)(hu:brB used ks.length=true):Ev (fun n=>qde n b ks used) (exS ks b.Aa.Ai.length used used.length):=by
 have hL:=loopF (Lf:=fun n s i=>qcc ks used n s i) (S:=exS ks b.Aa.Ai.length used) (len:=used.length) (fin:=(exS ks b.Aa.Ai.length used used.length,(used.length:Int)))
  (fun n=>by simp only[qcc,ql (je _),cond_false])
  (fun i hi X hX=>by
   obtain⟨k,hk,ek,e1,e2⟩:=qw8 hc hu hi (quf (ks:=ks) (used:=used) (j:=i));have eN:exS ks b.Aa.Ai.length used (i+1)=addE (exS ks b.Aa.Ai.length used i) (gt ks k):=by
    show addE _ _=_;rw[ek,jn]
   rw[eN] at hX;generalize exS ks b.Aa.Ai.length used i=s at e1 e2 hX ⊢;simp only[qcc,qk hi,cond_true,qay hi,jd,ek,qC hk,e1,e2,wS i];exact hX)
 have hwl:=qj1 h;unfold qde;rw[show b.Af.length=b.Aa.Ai.length by omega];simp only[qmw (show b.Aa.Ai.length≤2147483648 by omega),jd];exact Ev.bind hL .done
theorem qxG (hk:ks.length≤20)(hul:used.length≤1048576):Ev (fun n=>qkz n ks used) (brB used ks.length):=by
 unfold qkz brB;have e1:W64 ((ks.length:Int)-1)=(ks.length:Int)-1:=qF (by omega) (by omega);simp only[qfl,jd,e1];refine Ev.bind (qfD hul) ?_;cases used.all fun x=>inI x 0 ((ks.length:Int)-1)
 ·exact Ev.ff Z .done
 ·exact Ev.tt Z (Ev.bind (qkR hul) .done)
end
end Go.Fw


namespace Go.Fw
open Go
set_option maxRecDepth 100000
def hasI (xs:List Int)(y:Int):Bool:=xs.any fun x=>x==y
theorem qA4 {b:qe}{c:qz}{br:List Int}{xs:List qf}(hb:qkx b)(hc:okS c.Az)(h:(blockB b&&cornerB c)=false):Ev (fun n=>qgI n b c br xs) ([],1):=by
 have s1:=qmp hb;have s2:=qnl (c:=c) hc;unfold qgI;cases h1:blockB b
 ·rw[h1] at s1;exact Ev.bind (b:=true) (Ev.bind s1 (Ev.tt Z .done)) (Ev.tt Z .done)
 ·rw[h1] at s1 h;have h2:cornerB c=false:=h;rw[h2] at s2;exact Ev.bind (b:=true) (Ev.bind s1 (Ev.ff Z (Ev.bind s2 .done))) (Ev.tt Z .done)
theorem qzO {b:qe}{c:qz}{f g:Nat→qc→qc×qc}{lv:List Bool}{xs:List qf}(h:blockB b=true)(hg:SpansS b c g)(hgf:∀ k s,(f k s).2=(g k s).2)(hx:SrcOk xs):∀ (R:List Nat) (t t':qq),(∀ k,k ∈ R→k<2*(places b.Aa).length)→TmOk t (2*(places b.Aa).length)→rnO f (linksL b) lv xs R t=V t'→TmOk t' (2*(places b.Aa).length):=by
 intro R
 induction R with
 | nil=>intro t t' _ ht e;obtain rfl:=Option.some.inj e;exact ht
 | cons k R ih=>
  intro t t' hR ht e;have hsl:=qqs (node:=(k:Int)) (lv:=lv) h hg hgf ht hx (linksL b).length (je _);unfold rnO at e;cases h1:(ndS f (linksL b) lv t (k:Int) (srcV (srcO xs (k:Int))) (linksL b).length).1
  ·rw[h1] at e;exact ih _ _ (fun i hi=>hR i (jo _ hi)) ht e
  ·rw[h1] at e;cases h2:spanB (ndS f (linksL b) lv t (k:Int) (srcV (srcO xs (k:Int))) (linksL b).length).2.Ac
   ·rw[h2] at e;cases e
   ·rw[h2] at e;exact ih _ _ (fun i hi=>hR i (jo _ hi)) (qua ht (hR k (ju ..)) hsl) e
section
variable {b:qe}{c:qz}{br:List Int}{xs:List qf}{ex:List Int}
theorem qzG {R:List Nat}(hg:TgOk b c br xs R)(hbl:br.length≤1048576)(hxl:xs.length≤1048576)(hex:ex.length=b.Af.length) :
  ∃ o:Option qq,(∀ t,o=V t→TmOk t (ndB b))∧Ev (fun n=>qhL n b c br xs ex (ints R)) (runR o)∧Ev (fun n=>qb3 n (V ⟨V (viewE b ex),lvJ b br⟩) c xs (ints R)) (runR o):=by
 have h1:=hg.bl;obtain⟨f,hf,hfi⟩:=qy8 h1 hg.co;have hpl:=qbl (qai (qaA h1));have hRl:=hg.len;have hR1:R.length≤1000:=by rw[hRl];show 2*(places b.Aa).length≤1000;omega
 have hRb:∀ k,k ∈ R→k<2*(places b.Aa).length:=fun k hk=>by
  obtain⟨i,hi,rfl⟩:=List.mem_iff_getElem.1 hk;exact(hg.ord.at hi).1
 have hwf:∀ k s,(wideF b ex f k s).2=(f k s).2:=fun k s=>by
  unfold wideF;cases decide (0<ex.length)&&((gt (linksL b) k).Ay==2)<;>rfl
 have hsx:=qzX hxl hg.sr;have o2:=qAr (R:=R) h1 hf hex hbl hsx hRb hR1;have o3:=qAc (lv:=lvJ b br) (R:=R) h1 hf hwf (hfi ex (.inr hex)) qt6 hsx (fun i hi=>⟨(hg.ord.at hi).1,(hg.ord.at hi).2.1⟩) hR1;refine⟨_,fun t ht=>?_,o2,o3⟩;exact qzO h1 hf hwf hsx R (zTm (2*(places b.Aa).length)) t hRb qwd ht
end
theorem qyV {m:Nat}{a d:List Int}(hm:m≤1048576)(ha:a.length≤1048576)(hd:d.length≤1048576):Ev (fun n=>qke n (m:Int) a d) (ints (selN (fun k=>hasI a (k:Int) || hasI d (k:Int)) m)):=by
 have hL:Ev (fun n=>qcH (m:Int) a d n ([]:List Int) 0) (ints (selN (fun k=>hasI a (k:Int) || hasI d (k:Int)) m),(m:Int)):=by
  refine qls (q:=fun k=>hasI a (k:Int) || hasI d (k:Int)) (Lf:=qcH (m:Int) a d) (len:=m) hm (Ev.succ ?_) (fun j hj s hs X h1 h2=>?_)
  ·simp only[qcH,ql (je _),cond_false];exact .done
  ·simp only[qcH,qk hj,cond_true,jd,hs,wS j];have e1:=qrb (x:=(j:Int)) ha;have e2:=qrb (x:=(j:Int)) hd;unfold hasI at h1 h2;cases q1:a.any fun y=>y==(j:Int)
   ·rw[q1] at e1;cases q2:d.any fun y=>y==(j:Int)
    ·rw[q2] at e2;exact Ev.bind (b:=false) (Ev.bind e1 (Ev.ff Z (Ev.bind e2 .done))) (Ev.ff Z (h2 (by rw[q1,q2];rfl)))
    ·rw[q2] at e2;exact Ev.bind (b:=true) (Ev.bind e1 (Ev.ff Z (Ev.bind e2 .done))) (Ev.tt Z (h1 (by rw[q1,q2];rfl)))
   ·rw[q1] at e1;exact Ev.bind (b:=true) (Ev.bind e1 (Ev.tt Z .done)) (Ev.tt Z (h1 (by rw[q1];rfl)))
 unfold qke;exact Ev.bind hL .done
end Go.Fw


namespace Go.Fw
open Go
set_option maxRecDepth 100000
theorem sub00 {α:Type}(xs:List α):subS xs 0 ((0:Nat):Int)=V []:=by
 unfold subS;rw[if_pos (by omega)];simp
theorem qyD {k:Int}(h0:0≤k)(h1:k≤1048576):Ev (fun n=>qfg n k) []:=by
 unfold qfg;have e:W64 (k-W64 (0-((0:Nat):Int)))=k:=by
  have e1:W64 (0-((0:Nat):Int))=0:=rfl;rw[e1,Int.sub_zero];exact qF (by omega) (by omega)
 refine Ev.bind (b:=()) (Ev.ff (by simp;omega) .done) ?_;rw[e];refine Ev.bif (fun hk=>?_) (fun _=>.done);have h2:mkS k (0:Int)=V (List.replicate k.toNat 0):=by unfold mkS;rw[if_pos ⟨h0,by unfold big;omega⟩]
 exact Ev.bindN h2 (Ev.bindN (sub00 _) .done)
theorem qxX {a d:List Int}(h:a.length+d.length≤1048576):Ev (fun n=>qf3 n [a,d]) (a++d):=by
 have h1:Ev (fun n=>qc8 [a,d] n 0 0) (((a.length+d.length:Nat):Int),2):=by
  have ea:W64 (0+(a.length:Int))=(a.length:Int):=by rw[Int.zero_add];exact qF (by omega) (by omega)
  have ed:W64 ((a.length:Int)+(d.length:Int))=((a.length+d.length:Nat):Int):=by rw[qF (by omega) (by omega)];omega
  refine Ev.succ (Ev.succ (Ev.succ ?_));simp only[qc8];refine Ev.tt Z (Ev.bindN (b:=a) Z ?_);rw[ea];refine Ev.ff (by simp) (Ev.tt Z (Ev.bindN (b:=d) Z ?_));rw[ed];exact Ev.ff (by simp;omega) (Ev.ff Z .done)
 have h2:Ev (fun n=>qcZ [a,d] n [] 0) (a++d,2):=by
  refine Ev.succ (Ev.succ (Ev.succ ?_));simp only[qcZ];refine Ev.tt Z (Ev.bindN (b:=a) Z (Ev.bindN (b:=a) ?_ (Ev.tt Z (Ev.bindN (b:=d) Z (Ev.bindN (b:=a++d) ?_ (Ev.ff Z .done))))))
  ·have:=qcS (xs:=([]:List Int)) (ys:=a) (by simp;omega);rwa [List.nil_append] at this
  ·exact qcS (by omega)
 unfold qf3;exact Ev.bind h1 (Ev.bind (qyD (by omega) (by omega)) (Ev.bind h2 .done))
theorem qu6 {q:Nat→Bool}{m k:Nat}(h:k<m):hasI (ints (selN q m)) (k:Int)=q k:=by
 unfold hasI;rw[jk,List.any_eq_true];constructor
 ·rintro⟨x,hx,e⟩;rw[beq_iff_eq] at e;subst e;obtain⟨j,hj,ej⟩:=qlu.1 hx;obtain⟨_,h2⟩:=qky.1 hj;have:j=k:=by omega
  subst this;exact h2
 ·intro hq;exact⟨(k:Int),qlu.2 ⟨k,qky.2 ⟨h,hq⟩,rfl⟩,by simp⟩
theorem qv0 {q r:Nat→Bool}{m:Nat}(h:∀ k,k<m→q k=r k):selN q m=selN r m:=by
 unfold selN;exact List.filter_congr fun k hk=>h k (List.mem_range.1 hk)
theorem qxf {q:Nat→Bool}{m:Nat}:brB (ints (selN q m)) m=true:=by
 unfold brB;rw[jf,jI];refine⟨fun x hx=>?_,?_⟩
 ·obtain⟨j,hj,ej⟩:=qlu.1 hx;have:=(qky.1 hj).1;rw[qa3];omega
 ·unfold incB;rw[qaC];intro j hj;unfold stepB;rcases Nat.eq_zero_or_pos j with rfl|h0
  ·rfl
  ·have hp:=List.pairwise_iff_getElem.1 (qrj (q:=q) (m:=m)) (j-1) j (by omega) hj (by omega);rw[qlM hj,qlM (show j-1<(ints (selN q m)).length by omega)];simp only[Bool.or_eq_true,decide_eq_true_eq];exact .inr hp
theorem qyF {τ ρ ε σ1 σ2:Type}{m:Nat}{Ls:Nat→List Int→Int→Option (Flow ρ σ1)}{Li:Nat→ε→List Int→Int→Option (Flow ρ σ2)}{lim:ρ}{fin:τ→List Int→Int→ρ}{P:ρ→Prop}(nx:(Nat→Bool)→Option (τ×(Nat→Bool)))
  (p0:P lim) (p1:∀ q t a r,nx q=V (t,a)→P (fin t (ints (selN q m)) r))
  (hS:∀ q r X,(nx q=U→X=lim)→(∀ t a,nx q=V (t,a)→(selN (fun k=>q k || a k) m).length=(selN q m).length→X=fin t (ints (selN q m)) r) →
   (∀ t a,nx q=V (t,a)→(selN (fun k=>q k || a k) m).length ≠ (selN q m).length→Ev (fun n=>Ls n (ints (selN (fun k=>q k || a k) m)) (W64 (r+1))) (.ret X))→Ev (fun n=>Ls (n+1) (ints (selN q m)) r) (.ret X))
  (hI:∀ e q r X,(nx q=U→X=lim)→(∀ t a,nx q=V (t,a)→(selN (fun k=>q k || a k) m).length=(selN q m).length→X=fin t (ints (selN q m)) r) →
   (∀ t a,nx q=V (t,a)→(selN (fun k=>q k || a k) m).length ≠ (selN q m).length→∀ e',Ev (fun n=>Li n e' (ints (selN (fun k=>q k || a k) m)) (W64 (r+1))) (.ret X))→Ev (fun n=>Li (n+1) e (ints (selN q m)) r) (.ret X)) :
  ∀ k q r,m≤(selN q m).length+k→∃ X,P X∧Ev (fun n=>Ls n (ints (selN q m)) r) (.ret X)∧∀ e,Ev (fun n=>Li n e (ints (selN q m)) r) (.ret X):=by
 intro k
 induction k with
 | zero=>
  intro q r hk;cases hn:nx q with
  | none=>exact⟨lim,p0,Ev.succ (hS q r _ (fun _=>rfl) (fun t a h=>by rw[hn] at h;cases h) (fun t a h=>by rw[hn] at h;cases h)),fun e=>Ev.succ (hI e q r _ (fun _=>rfl) (fun t a h=>by rw[hn] at h;cases h) (fun t a h=>by rw[hn] at h;cases h))⟩
  | some p=>
   obtain⟨t,a⟩:=p;have h1:=qtt (q:=q) (a:=a) (m:=m);have h2:(selN (fun k=>q k || a k) m).length≤m:=qly;have he:(selN (fun k=>q k || a k) m).length=(selN q m).length:=by omega
   refine⟨fin t (ints (selN q m)) r,p1 q t a r hn,Ev.succ (hS q r _ (fun h=>by rw[hn] at h;cases h) (fun t' a' h _=>?_) (fun t' a' h hne=>?_)),fun e=>Ev.succ (hI e q r _ (fun h=>by rw[hn] at h;cases h) (fun t' a' h _=>?_) (fun t' a' h hne=>?_))⟩ <;>
    (rw[hn] at h;obtain⟨rfl,rfl⟩:=Prod.mk.inj (Option.some.inj h))
   ·rfl
   ·exact absurd he hne
   ·rfl
   ·exact absurd he hne
 | succ k ih=>
  intro q r hk;cases hn:nx q with
  | none=>exact⟨lim,p0,Ev.succ (hS q r _ (fun _=>rfl) (fun t a h=>by rw[hn] at h;cases h) (fun t a h=>by rw[hn] at h;cases h)),fun e=>Ev.succ (hI e q r _ (fun _=>rfl) (fun t a h=>by rw[hn] at h;cases h) (fun t a h=>by rw[hn] at h;cases h))⟩
  | some p=>
   obtain⟨t,a⟩:=p;by_cases he:(selN (fun k=>q k || a k) m).length=(selN q m).length
   ·refine⟨fin t (ints (selN q m)) r,p1 q t a r hn,Ev.succ (hS q r _ (fun h=>by rw[hn] at h;cases h) (fun t' a' h _=>?_) (fun t' a' h hne=>?_)),fun e=>Ev.succ (hI e q r _ (fun h=>by rw[hn] at h;cases h) (fun t' a' h _=>?_) (fun t' a' h hne=>?_))⟩ <;>
     (rw[hn] at h;obtain⟨rfl,rfl⟩:=Prod.mk.inj (Option.some.inj h))
    ·rfl
    ·exact absurd he hne
    ·rfl
    ·exact absurd he hne
   ·have h1:=qtt (q:=q) (a:=a) (m:=m);obtain⟨X,hX0,hX1,hX2⟩:=ih (fun k=>q k || a k) (W64 (r+1)) (by omega);refine⟨X,hX0,Ev.succ (hS q r _ (fun h=>by rw[hn] at h;cases h) (fun t' a' h hq=>?_) (fun t' a' h hne=>?_)),fun e=>Ev.succ (hI e q r _ (fun h=>by rw[hn] at h;cases h) (fun t' a' h hq=>?_) (fun t' a' h hne=>?_))⟩ <;>
     (rw[hn] at h;obtain⟨rfl,rfl⟩:=Prod.mk.inj (Option.some.inj h))
    ·exact absurd hq he
    ·exact hX1
    ·exact absurd hq he
    ·exact hX2
theorem qnf {q:Nat→Bool}{m:Nat}(h:m≤20):(ints (selN q m)).length≤20:=by
 rw[qcF];exact Jb qly h
section
variable {b:qe}{c:qz}{br:List Int}{xs:List qf}{ks:List qh}{R:List Nat}
theorem qyE (hg:TgOk b c br xs R)(hbl:br.length≤1048576)(hxl:xs.length≤1048576)(hnl:b.Aa.Ai.length≤1048576)(hk:cplsB b ks=true) :
  ∃ O:(Nat→Bool)→Option qq,∀ q,(∀ t,O q=V t→TmOk t (ndB b))∧∃ ex:List Int,Ev (fun n=>qgh n b ks (ints (selN q ks.length))) ex∧Ev (fun n=>qde n b ks (ints (selN q ks.length))) ex ∧
   Ev (fun n=>qhL n b c br xs ex (ints R)) (runR (O q))∧Ev (fun n=>qb3 n (V ⟨V (viewE b ex),lvJ b br⟩) c xs (ints R)) (runR (O q)):=by
 have hkl:=(qpX hk).1;have hwl:=qj1 hg.bl;refine Classical.axiomOfChoice (r:=fun q (o:Option qq)=>(∀ t,o=V t→TmOk t (ndB b))∧∃ ex:List Int,Ev (fun n=>qgh n b ks (ints (selN q ks.length))) ex∧Ev (fun n=>qde n b ks (ints (selN q ks.length))) ex ∧
   Ev (fun n=>qhL n b c br xs ex (ints R)) (runR o)∧Ev (fun n=>qb3 n (V ⟨V (viewE b ex),lvJ b br⟩) c xs (ints R)) (runR o)) fun q=>?_
 have hul:=qnf (q:=q) hkl;have sE:=qws (used:=ints (selN q ks.length)) hk hnl (by omega) qxf;have iE:=qvn (used:=ints (selN q ks.length)) hg.bl hk hnl (by omega) qxf;obtain⟨o,o1,o2,o3⟩:=qzG (ex:=exS ks b.Aa.Ai.length (ints (selN q ks.length)) (ints (selN q ks.length)).length) hg hbl hxl (by rw[quf];omega);exact⟨o,o1,_,sE,iE,o2,o3⟩
theorem qqX (hb:qkx b)(hc:okS c.Az)(hbl:br.length≤1048576)(hxl:xs.length≤1048576)(hk:ks.length≤1048576) :
  ∃ X:qq×(List Int)×Int×Int,((X.1.Aj.length≤156∧X.1.Ac.length≤156∧X.1.Aq.length≤156)∧X.2.1.length≤20)∧Ev (fun n=>qfa n b c br xs ks) X∧Ev (fun n=>qdH n b c br xs ks) X:=by
 have hnl:b.Aa.Ai.length≤1048576:=hb.Aa.Ai.len;have s1:=qmp hb;have i1:=qsZ hb;have s2:=qnl (c:=c) hc;have i2:=qrk (c:=c) hc;have s3:=qrA (b:=b) hnl hk;have i3:=qrT (b:=b) hnl hk;have tg:=qBq (br:=br) (xs:=xs) hb hc hbl hxl;have hz:∀ code:Int,((((zT,[],0,code):qq×(List Int)×Int×Int).1.Aj.length≤156∧((zT,[],0,code):qq×(List Int)×Int×Int).1.Ac.length≤156∧((zT,[],0,code):qq×(List Int)×Int×Int).1.Aq.length≤156)∧((zT,[],0,code):qq×(List Int)×Int×Int).2.1.length≤20):=fun _=>⟨⟨Nat.zero_le _,Nat.zero_le _,Nat.zero_le _⟩,Nat.zero_le _⟩;unfold qfa qdH qi4 qnD;cases h0:blockB b&&cornerB c
 ·have hbad:=qA4 (br:=br) (xs:=xs) hb hc h0;rcases tg with⟨code,hne,hs,hi⟩|⟨R,hg,_⟩
  ·have e:code=1:=congrArg Prod.snd (hs.uniq hbad);subst e;refine⟨(zT,[],0,1),hz 1,Ev.bind (b:=([],1)) (Ev.bind (b:=true) ?_ (Ev.tt Z .done)) (Ev.tt Z .done),Ev.bind (b:=(U,[],1)) (Ev.bind (b:=false) ?_ (Ev.ff Z (Ev.bind hi .done))) (Ev.tt Z .done)⟩
   ·cases h1:blockB b
    ·rw[h1] at s1;exact Ev.bind s1 (Ev.tt Z .done)
    ·rw[h1] at s1 h0;have h2:cornerB c=false:=h0;rw[h2] at s2;exact Ev.bind s1 (Ev.ff Z (Ev.bind s2 .done))
   ·cases h1:blockB b
    ·rw[h1] at i1;exact Ev.bind i1 (Ev.ff Z .done)
    ·rw[h1] at i1 h0;have h2:cornerB c=false:=h0;rw[h2] at i2;exact Ev.bind i1 (Ev.tt Z (Ev.bind i2 (Ev.ff Z .done)))
  ·rw[hg.bl,hg.co] at h0;cases h0
 ·rw[jf] at h0;obtain⟨h1,h2⟩:=h0;rw[h1] at s1 i1;rw[h2] at s2 i2;have sA:Ev (fun n=>(qfB n b).bind fun r1=>bif (!r1) then V true else(qfV n c).bind fun r2=>V (!r2)) false:=Ev.bind s1 (Ev.ff Z (Ev.bind s2 .done));cases h3:cplsB b ks
  ·rw[h3] at s3 i3;exact⟨(zT,[],0,2),hz 2,Ev.bind (b:=([],2)) (Ev.bind sA (Ev.ff Z (Ev.bind s3 (Ev.tt Z .done)))) (Ev.tt Z .done),Ev.bind (b:=(U,[],2)) (Ev.bind (b:=true) (Ev.bind i1 (Ev.tt Z (Ev.bind i2 (Ev.tt Z (Ev.bind i3 (Ev.tt Z .done)))))) (Ev.tt Z .done)) (Ev.tt Z .done)⟩
  rw[h3] at s3 i3;have hkl:=(qpX h3).1;have i4:=qxG (ks:=ks) (used:=[]) hkl (by simp);have e4:brB [] ks.length=true:=rfl;rw[e4] at i4;have iA:Ev (fun n=>(qgC n b).bind fun r1=>bif r1 then(qfY n c).bind fun r2=>bif r2 then(qcK n b ks).bind fun r3=>bif (!r3) then V true else(qkz n ks []).bind fun r4=>V (!r4) else V false else V false) false:=
   Ev.bind i1 (Ev.tt Z (Ev.bind i2 (Ev.tt Z (Ev.bind i3 (Ev.ff Z (Ev.bind i4 .done))))))
  rcases tg with⟨code,hne,hs,hi⟩|⟨R,hg,hs,hi⟩
  ·exact⟨(zT,[],0,code),hz code,Ev.bind (b:=([],code)) (Ev.bind sA (Ev.ff Z (Ev.bind s3 (Ev.ff Z (Ev.bind hs .done))))) (Ev.tt (qxg hne) .done),Ev.bind (b:=(U,[],code)) (Ev.bind iA (Ev.ff Z (Ev.bind hi .done))) (Ev.tt (qxg hne) .done)⟩
  ·obtain⟨O,hO⟩:=qyE (ks:=ks) hg hbl hxl hnl h3;have hpl:=qbl (qai (qaA h1));have eM:ndB b=2*(places b.Aa).length:=rfl;have mg:∀ (q a:Nat→Bool),selN (fun k=>hasI (ints (selN q ks.length)) (k:Int) || hasI (ints (selN a ks.length)) (k:Int)) ks.length=selN (fun k=>q k || a k) ks.length:=fun q a=>qv0 fun k hk'=>by rw[qu6 hk',qu6 hk']
   have len_eq:∀ (u v:List Nat),(((ints u).length:Int)==((ints v).length:Int))=decide (u.length=v.length):=fun u v=>by rw[qcF,qcF,jk,beq_iff_eq,decide_eq_true_iff];omega
   have eU:∀ (q a:Nat→Bool),compI (sortI (ints (selN q ks.length)++ints (selN a ks.length)))=ints (selN (fun k=>q k || a k) ks.length):=fun q a=>qwt;obtain⟨X,hX,hs',hi'⟩:=qyF (m:=ks.length) (ε:=List Int) (lim:=((zT,[],0,3):qq×(List Int)×Int×Int))
    (P:=fun X=>(X.1.Aj.length≤156∧X.1.Ac.length≤156∧X.1.Aq.length≤156)∧X.2.1.length≤20)
    (Ls:=fun n u r=>qdq b c br xs ks (ints R) n u r)
    (Li:=fun n e u r=>qds b c xs ks (ints R) (lvJ b br) (pre (exactL b) b.Af.length) (pre (load0 b) b.Af.length) (linksL b) (places b.Aa) n e u r)
    (fin:=fun t u r=>(t,u,r,0)) (fun q=>(O q).map fun t=>(t,actQ b t ks)) (hz 3)
    (fun q t a r h=>by
     have:O q=V t:=by
      cases ho:O q with
      | none=>rw[ho] at h;cases h
      | some t'=>rw[ho] at h;rw[(Prod.mk.inj (Option.some.inj h)).1]
     have ht:=(hO q).1 t this;have hr:=ht.r;have ha:=ht.a;have hsl:=ht.s;exact⟨⟨by show t.Aj.length≤156;omega,by show t.Ac.length≤156;omega,by show t.Aq.length≤156;omega⟩,qnf hkl⟩)
    (fun q r X x0 x1 x2=>by
     obtain⟨ht,ex,sE,_,o2,_⟩:=hO q;simp only[qdq];refine Ev.bind sE (Ev.bind o2 ?_);cases ho:O q with
     | none=>
      rw[x0 (by rw[ho];rfl)];exact Ev.tt Z .done
     | some t=>
      have hT:=ht t ho;have hal:(ints (selN (actQ b t ks) ks.length)).length≤1048576:=by rw[qcF];exact Jb qly hk
      have hul:(ints (selN q ks.length)).length≤1048576:=by have:=qnf (q:=q) hkl;omega
      have sM:=qyV (m:=ks.length) (a:=ints (selN q ks.length)) (d:=ints (selN (actQ b t ks) ks.length)) hk hul hal;rw[mg] at sM;refine Ev.ff Z (Ev.bind (qv4 h1 ⟨hT.r,hT.a⟩ h3) (Ev.bind sM ?_));have x1':=x1 t (actQ b t ks) (by rw[ho];rfl);have x2':=x2 t (actQ b t ks) (by rw[ho];rfl);rw[len_eq];by_cases hq:(selN (fun k=>q k || actQ b t ks k) ks.length).length=(selN q ks.length).length
      ·rw[x1' hq];exact Ev.tt (by simpa using hq) .done
      ·exact Ev.ff (by simpa using hq) (x2' hq))
    (fun e q r X x0 x1 x2=>by
     obtain⟨ht,ex,_,iE,_,o3⟩:=hO q;simp only[qds];refine Ev.bind iE (Ev.bind o3 ?_);cases ho:O q with
     | none=>
      rw[x0 (by rw[ho];rfl)];exact Ev.tt Z .done
     | some t=>
      have hT:=ht t ho;have hul:=qnf (q:=q) hkl;have hal:=qnf (q:=actQ b t ks) hkl;refine Ev.ff Z (Ev.bind (qxO ex h1 ⟨hT.r,hT.a⟩ h3) (Ev.bind (qxX (a:=ints (selN q ks.length)) (d:=ints (selN (actQ b t ks) ks.length)) (by omega)) ?_));have hso:sortS (ints (selN q ks.length)++ints (selN (actQ b t ks) ks.length))=V (sortI (ints (selN q ks.length)++ints (selN (actQ b t ks) ks.length))):=by
       unfold sortS;rw[if_pos (by rw[jh];omega)]
      refine Ev.bindN hso (Ev.bindN Z ?_);rw[eU];have x1':=x1 t (actQ b t ks) (by rw[ho];rfl);have x2':=x2 t (actQ b t ks) (by rw[ho];rfl);rw[len_eq];by_cases hq:(selN (fun k=>q k || actQ b t ks k) ks.length).length=(selN q ks.length).length
      ·rw[x1' hq];exact Ev.tt (by simpa using hq) .done
      ·exact Ev.ff (by simpa using hq) (x2' hq ex))
    ks.length (fun _=>false) 1 (by omega)
   have e0:ints (selN (fun _=>false) ks.length)=[]:=by unfold selN ints;simp
   rw[e0] at hs' hi';refine⟨X,hX,Ev.bind (b:=(ints R,0)) (Ev.bind sA (Ev.ff Z (Ev.bind s3 (Ev.ff Z (Ev.bind hs .done))))) (Ev.ff Z (Ev.bind hs' .done)),Ev.bind (b:=(grB b br,ints R,0)) (Ev.bind iA (Ev.ff Z (Ev.bind hi .done))) ?_⟩;unfold grB viewV viewE;dsimp only;exact Ev.bind (hi' []) .done
end
end Go.Fw


namespace Go.Fw
open Go Go.Proofs Go.Proofs.Tryz
open Go.RowKit (Below)
set_option maxRecDepth 100000
set_option maxHeartbeats 1600000
variable {n:Nat}{w:World}{cs1 cs2 cs3 cs4 cs5 cs6 cs7 cs8 cs9:List Value}
def qgc:Nat→Int→ByteArray→Option (Int×ByteArray)
 | 0,_,_=>U
 | n+1,a,b=>
  bif decide (a > 0) then
   (catB (strOf ([(⟨IntKind.wrap .u8 (W64 (48+(a.tmod 10)))⟩:IntK .u8)]:List (IntK .u8))) b).bind fun c=>
   qgc n (W64 (a.tdiv 10)) c
  else
   V (a,b)
def qeH (n:Nat)(k:Int):Option ByteArray:=
 bif decide (k≤0) then V (⟨#[109,48]⟩:ByteArray) else
 (qgc n k (⟨#[]⟩:ByteArray)).bind fun o=>match o with
 | (_,a)=>
  (catB (⟨#[109]⟩:ByteArray) a).bind fun b=>
  V b
theorem qgk {k:Int}  {r:ByteArray}(F:qeH n k=V r):RetV prog 185 [.int .i64 k] w r:=by
 refine zV 20 func185 Z fun h=>X0 10 Z (qi Z F ?_ ?_)<;>intro F
 ·refine X0 4 Z ?_;obtain rfl:=qb F;exact qX qa (ρ:=ByteArray) [_] h ⟨rfl,trivial⟩ (qwP _ _)
 refine X0 6 Z ?_;obtain⟨o,F,d⟩:=qd F;refine qn (rL (fun m e w'=>∃(c:Int) (f:ByteArray),qgc m c f=V o∧e=[(0,.int .i64 c),(3,.string f)]∧SH w w' []) n ⟨_,_,F,rfl,h⟩ Z ?_);rintro g _ _ ⟨c,f,F,rfl,h⟩;rcases g with _|g
 ·cases F
 refine X0 6 Z (qi Z F ?_ ?_)<;>intro F
 ·refine X0 8 Z (qG qa [.tmp 11] _ ([(⟨IntKind.wrap .u8 (W64 (48+(c.tmod 10)))⟩:IntK .u8)]:List (IntK .u8)) h Z Z Z Z Z Z Z Z Z ⟨rfl,trivial⟩ Z fun _ _ _ h=>r_v (qAh qa (h.sl 0 Z).1 (h.sl 0 Z).2 Z ⟨rfl,rfl⟩ ⟨rfl,rfl⟩ Z Z) Z (zp1 Z ?_));obtain⟨_,a,F⟩:=qd F;obtain⟨i,a⟩:=qtT a;refine r_v (qAy i Z Z) Z ?_;rw[a];refine X0 8 Z ?_;replace h:=h.pick [] Z;exact rK ⟨_,_,F,rfl,h⟩ Z
 refine qr Z ?_;obtain rfl:=qb F;replace F:=d;refine X0 3 Z ?_;obtain⟨_,b,F⟩:=qd F;obtain⟨l,b⟩:=qtT b;refine r_v (qAy l Z Z) Z ?_;rw[b];refine X0 2 Z ?_;obtain rfl:=qb F;exact qX qa (ρ:=ByteArray) [_] h ⟨rfl,trivial⟩ (qwP _ _)
def qeU (a:(List qat)):Nat→(List qat)→Int→Int→Option ((List qat)×Int×Int)
 | 0,_,_,_=>U
 | n+1,d,c,b=>
  bif decide (b<(a.length:Int)) then
   (qeH n c).bind fun f=>
   (idx d b).bind fun g=>
   (idx (setS d b ({ g with Az:=f })) b).bind fun h=>
   (idx (setS (setS d b ({ g with Az:=f })) b ({ h with Bs:=W64 (c+1) })) b).bind fun i=>
   (idx (setS (setS (setS d b ({ g with Az:=f })) b ({ h with Bs:=W64 (c+1) })) b ({ i with Bq:=W64 ((W64 (c+1))+1) })) b).bind fun k=>
   qeU a n (setS (setS (setS (setS d b ({ g with Az:=f })) b ({ h with Bs:=W64 (c+1) })) b ({ i with Bq:=W64 ((W64 (c+1))+1) })) b ({ k with Bn:=(((W64 ((W64 ((W64 (c+1))+1))+1)).tmod 3)==0) })) (W64 ((W64 ((W64 ((W64 (c+1))+1))+1))+1)) (W64 (b+1))
  else
   V (d,c,b)
def qmQ (n:Nat)(a:(List qat))(k:Int):Option (Int×(List qat)):=
 (qeU a n a k 0).bind fun o=>match o with
 | (c,b,_)=>
  V (b,c)
theorem qqc {n:Nat}{R w:World}{F:List Ch}{a:(List qat)}{k:Int}{S1:Nat→Prop}{z:Option Addr}{c y:Nat}(h:SH R w (Ch.own S1 (a:List qat) [.slice z c y]::F)){r:(Int×(List qat))}(hF:qmQ n a k=V r):RetN prog 186 [.slice z c y,.int .i64 k] w (fun w'=>∃ Z0:Nat→Prop,SH R w' (Ch.own Z0 (r.2:List qat) [.slice z c y]::F)) r.1:=by
 refine qbD func186 Z (m:=44) Z Z ?_;obtain rfl:=(h.sl 0 Z).2;refine X0 9 Z ?_;obtain⟨o1,hF,A⟩:=qd hF;refine qn (rL (fun m e w'=>∃(S:(List qat)) (b:Int) (Q:Int),qeU a m S b Q=V o1∧e=[(0,.slice z a.length y),(1,.int .i64 b),(5,.int .i64 Q)]∧SH R w' (Ch.own S1 (S:List qat) [.slice z a.length y]::F)) n ⟨_,_,_,hF,rfl,h⟩ Z ?_);rintro m1 _ _ ⟨S,b,Q,hF,rfl,h⟩;rcases m1 with _|m1
 ·cases hF
 refine X0 8 Z (qi Z hF ?_ ?_)<;>intro hF
 ·refine X0 8 Z (zcS h hF qgk Z fun r1 _ h hF=>?_);obtain⟨T,M,hF,d,_,_,_,_,l,t,I,B⟩:=(h.sl 0 Z).1.ix hF;obtain rfl:=qa5 I;refine zx l t ⟨d.1,qD d.2.1 (h.sl 0 Z).2⟩ Z (zp1 Z (qao qa 0 0 ({ T with Az:=r1 }:qat) h Z M l t (qev T) B Z Z Z (qev ({ T with Az:=r1 })) Z Z Z fun _ h=>X0 12 Z ?_));obtain⟨W,N,hF,f,_,_,_,_,o,u,J,C⟩:=(h.sl 0 Z).1.ix hF;obtain rfl:=qa5 J;refine zx o u ⟨f.1,qD f.2.1 (h.sl 0 Z).2⟩ Z (zp1 Z (qao qa 0 1 ({ W with Bs:=W64 (b+1) }:qat) h Z N o u (qev W) C Z Z Z (qev ({ W with Bs:=W64 (b+1) })) Z Z Z fun _ h=>X0 12 Z ?_));obtain⟨X,O,hF,g,_,_,_,_,p,v,K,D⟩:=(h.sl 0 Z).1.ix hF;obtain rfl:=qa5 K;refine zx p v ⟨g.1,qD g.2.1 (h.sl 0 Z).2⟩ Z (zp1 Z (qao qa 0 2 ({ X with Bq:=W64 ((W64 (b+1))+1) }:qat) h Z O p v (qev X) D Z Z Z (qev ({ X with Bq:=W64 ((W64 (b+1))+1) })) Z Z Z fun _ h=>X0 14 Z ?_));obtain⟨Y,P,hF,i,_,_,_,_,s,x,L,H⟩:=(h.sl 0 Z).1.ix hF;obtain rfl:=qa5 L;exact zx s x ⟨i.1,qD i.2.1 (h.sl 0 Z).2⟩ Z (zp1 Z (qao qa 0 3 ({ Y with Bn:=(((W64 ((W64 ((W64 (b+1))+1))+1)).tmod 3)==0) }:qat) h Z P s x (qev Y) H Z Z Z (qev ({ Y with Bn:=(((W64 ((W64 ((W64 (b+1))+1))+1)).tmod 3)==0) })) Z Z Z fun _ h=>X0 12 Z (rK ⟨_,_,_,hF,rfl,h⟩ Z)))
 refine qr Z ?_;obtain rfl:=qb hF;replace hF:=A;refine X0 5 Z ?_;obtain rfl:=qb hF;exact qhB qa ⟨_,h⟩ ⟨rfl,trivial⟩
def qdv (a:(List qx)):Nat→(List qx)→Int→Int→Option ((List qx)×Int×Int)
 | 0,_,_,_=>U
 | n+1,c,f,b=>
  bif decide (b<(a.length:Int)) then
   (idx c b).bind fun d=>
   (qaO n d.Bi f).bind fun o=>match o with
    | (g,k)=>
     (qaO n d.Bb g).bind fun o=>match o with
      | (h,l)=>
       (qaO n d.Ba h).bind fun o=>match o with
        | (i,m)=>
         qdv a n (setS c b (⟨k,l,m⟩:qx)) i (W64 (b+1))
  else
   V (c,f,b)
def qiS (n:Nat)(a:(List qx))(k:Int):Option (Int×(List qx)):=
 (qdv a n a k 0).bind fun o=>match o with
 | (c,b,_)=>
  V (b,c)
theorem qk2 {n:Nat}{H w:World}{F:List Ch}{a:(List qx)}{k:Int}{S1:Nat→Prop}{u:Option Addr}{c t:Nat}(h:SH H w (Ch.own S1 (a:List qx) [.slice u c t]::F)){r:(Int×(List qx))}(hF:qiS n a k=V r):RetN prog 242 [.slice u c t,.int .i64 k] w (fun w'=>∃ Z0:Nat→Prop,SH H w' (Ch.own Z0 (r.2:List qx) [.slice u c t]::F)) r.1:=by
 refine qbD func242 Z (m:=34) Z Z ?_;obtain rfl:=(h.sl 0 Z).2;refine X0 9 Z ?_;obtain⟨K,hF,v⟩:=qd hF;refine qn (rL (fun m e w'=>∃(S2:Nat→Prop) (I:(List qx)) (D:Int) (d:Int),qdv a m I D d=V K∧e=[(0,.slice u a.length t),(1,.int .i64 D),(5,.int .i64 d)]∧SH H w' (Ch.own S2 (I:List qx) [.slice u a.length t]::F)) n ⟨_,_,_,_,hF,rfl,h⟩ Z ?_);rintro J _ _ ⟨S2,I,D,d,hF,rfl,h⟩;rcases J with _|J
 ·cases hF
 refine X0 8 Z (qi Z hF ?_ ?_)<;>intro hF
 ·refine X0 7 Z ?_;obtain⟨_,s,hF⟩:=qd hF;have b:=qc1 s;obtain⟨_,_,_,h⟩:=h.take s;obtain⟨_,_,_,_,_,_,rfl,-,-,-⟩:=qaK (h.own 0 Z);obtain⟨_,_,_,h⟩:=quR h;obtain⟨_,f,-,-,x⟩:=h.holeAt 3 Z;obtain⟨X,l⟩:∃ q,q=0+(d).toNat*GoT.k qx:=⟨_,rfl⟩;refine zx f l ⟨b.1,qD b.2.1 x⟩ Z (zp1 Z (zc 0 (qc5 h 3 Z f l) Z (zp1 Z ?_)));replace h:=h.pickT 4 [2,0,1,3] Z;obtain⟨L,A,hF⟩:=qd hF;obtain⟨O,R⟩:=L;refine qbU O (cB 22 Z) (qaR h A) Z Z Z Z ?_;rintro _ ⟨_,h⟩;refine X0 6 Z ?_;obtain⟨_,g,-,-,y⟩:=h.holeAt 3 Z;obtain⟨Y,o⟩:∃ q,q=0+(d).toNat*GoT.k qx:=⟨_,rfl⟩;refine zx g o ⟨b.1,qD b.2.1 y⟩ Z (zp1 Z (zc 1 (qc5 h 3 Z g o) Z (zp1 Z ?_)));replace h:=h.pickT 4 [2,0,1,3] Z;obtain⟨M,B,hF⟩:=qd hF;obtain⟨P,T⟩:=M;refine qbU P (cB 22 Z) (qaR h B) Z Z Z Z ?_;rintro _ ⟨_,h⟩;refine X0 5 Z ?_;obtain⟨_,i,-,-,z⟩:=h.holeAt 3 Z;obtain⟨q3,p⟩:∃ q,q=0+(d).toNat*GoT.k qx:=⟨_,rfl⟩;refine zx i p ⟨b.1,qD b.2.1 z⟩ Z (zp1 Z (zc 2 (qc5 h 3 Z i p) Z (zp1 Z ?_)));replace h:=h.pickT 4 [2,0,1,3] Z;obtain⟨N,C,hF⟩:=qd hF;obtain⟨Q,W⟩:=N;refine qbU Q (cB 22 Z) (qaR h C) Z Z Z Z ?_;rintro _ ⟨_,h⟩;refine X0 8 Z ?_;obtain⟨_,h⟩:=h.gatherT 4 [3] (qtE (⟨R,T,W⟩:qx) h (qak 2 h Z) (qak 1 h Z) (qak 0 h Z) (by rfl) (by rfl)) Z;replace h:=h.put;obtain⟨_,h⟩:=qqz (S:=_) h;exact rK ⟨_,_,_,_,hF,rfl,h⟩ Z
 refine qr Z ?_;obtain rfl:=qb hF;replace hF:=v;refine X0 5 Z ?_;obtain rfl:=qb hF;exact qhB qa ⟨_,h⟩ ⟨rfl,trivial⟩
def qe2 (a:(List qL)):Nat→(List qL)→Int→Int→Option ((List qL)×Int×Int)
 | 0,_,_,_=>U
 | n+1,d,b,c=>
  bif decide (c<(a.length:Int)) then
   (idx d c).bind fun f=>
   (qiS n f.Bj (W64 ((W64 ((W64 ((W64 (b+1))+1))+1))+1))).bind fun o=>match o with
    | (g,i)=>
     (qiS n f.Aq g).bind fun o=>match o with
      | (h,k)=>
       qe2 a n (setS d c (⟨b,W64 (b+1),W64 ((W64 (b+1))+1),W64 ((W64 ((W64 (b+1))+1))+1),i,k⟩:qL)) h (W64 (c+1))
  else
   V (d,b,c)
def qmN (n:Nat)(a:(List qL))(k:Int):Option (Int×(List qL)):=
 (qe2 a n a k 0).bind fun o=>match o with
 | (c,b,_)=>
  V (b,c)
theorem qpZ {n:Nat}{Y w:World}{F:List Ch}{a:(List qL)}{k:Int}{S1:Nat→Prop}{l:Option Addr}{i g:Nat}(h:SH Y w (Ch.own S1 (a:List qL) [.slice l i g]::F)){r:(Int×(List qL))}(hF:qmN n a k=V r):RetN prog 187 [.slice l i g,.int .i64 k] w (fun w'=>∃ Z0:Nat→Prop,SH Y w' (Ch.own Z0 (r.2:List qL) [.slice l i g]::F)) r.1:=by
 refine qbD func187 Z (m:=55) Z Z ?_;obtain rfl:=(h.sl 0 Z).2;refine X0 9 Z ?_;obtain⟨o1,hF,O⟩:=qd hF;refine qn (rL (fun m e w'=>∃(S2:Nat→Prop) (J:(List qL)) (d:Int) (f:Int),qe2 a m J d f=V o1∧e=[(0,.slice l a.length g),(1,.int .i64 d),(5,.int .i64 f)]∧SH Y w' (Ch.own S2 (J:List qL) [.slice l a.length g]::F)) n ⟨_,_,_,_,hF,rfl,h⟩ Z ?_);rintro m1 _ _ ⟨S2,J,d,f,hF,rfl,h⟩;rcases m1 with _|m1
 ·cases hF
 refine X0 8 Z (qi Z hF ?_ ?_)<;>intro hF
 ·refine X0 8 Z ?_;obtain⟨c,I,hF⟩:=qd hF;have b:=qc1 I;obtain⟨_,S4,_,h⟩:=h.take I;obtain⟨M,K,N,L,rfl,-,-⟩:=qaq (h.own 0 Z);obtain⟨S5,S6,h⟩:=qwI h;obtain⟨_,s,-,-,P⟩:=h.holeAt 2 Z;obtain⟨q1,z⟩:∃ q,q=0+(f).toNat*GoT.k qL:=⟨_,rfl⟩;refine zx s z ⟨b.1,qD b.2.1 P⟩ Z (zp1 Z (qhT qa 2 0 h Z s z Z Z Z Z Z Z fun _ h=>?_));replace h:SH _ _ (Ch.own S6 (c.Aq:List qx) [.slice N c.Aq.length L]::Ch.own S5 (c.Bj:List qx) [.slice M c.Bj.length K]::Ch.hole S4 (J:List qL) l a.length g (f).toNat [.int .i64 d,.int .i64 c.Bf,.int .i64 c.To,.int .i64 c.Bl,.slice M c.Bj.length K,.slice N c.Aq.length L]::F):=h;refine X0 12 Z ?_;obtain⟨_,t,-,-,Q⟩:=h.holeAt 2 Z;obtain⟨q2,A⟩:∃ q,q=0+(f).toNat*GoT.k qL:=⟨_,rfl⟩;refine zx t A ⟨b.1,qD b.2.1 Q⟩ Z (zp1 Z (qhT qa 2 1 h Z t A Z Z Z Z Z Z fun _ h=>X0 12 Z ?_));obtain⟨_,u,-,-,R⟩:=h.holeAt 2 Z;obtain⟨q3,B⟩:∃ q,q=0+(f).toNat*GoT.k qL:=⟨_,rfl⟩;refine zx u B ⟨b.1,qD b.2.1 R⟩ Z (zp1 Z (qhT qa 2 2 h Z u B Z Z Z Z Z Z fun _ h=>X0 12 Z ?_));obtain⟨_,v,-,-,T⟩:=h.holeAt 2 Z;obtain⟨q4,C⟩:∃ q,q=0+(f).toNat*GoT.k qL:=⟨_,rfl⟩;refine zx v C ⟨b.1,qD b.2.1 T⟩ Z (zp1 Z (qhT qa 2 3 h Z v C Z Z Z Z Z Z fun _ h=>?_));replace h:SH _ _ (Ch.own S6 (c.Aq:List qx) [.slice N c.Aq.length L]::Ch.own S5 (c.Bj:List qx) [.slice M c.Bj.length K]::Ch.hole S4 (J:List qL) l a.length g (f).toNat [.int .i64 d,.int .i64 (W64 (d+1)),.int .i64 (W64 ((W64 (d+1))+1)),.int .i64 (W64 ((W64 ((W64 (d+1))+1))+1)),.slice M c.Bj.length K,.slice N c.Aq.length L]::F):=h;refine X0 11 Z ?_;obtain⟨_,x,-,-,o⟩:=h.holeAt 2 Z;obtain⟨q5,D⟩:∃ q,q=0+(f).toNat*GoT.k qL:=⟨_,rfl⟩;refine zx x D ⟨b.1,qD b.2.1 o⟩ Z (zp1 Z (zc 4 (qc5 h 2 Z x D) Z (zp1 Z ?_)));replace h:=h.pickT 3 [1,0,2] Z;obtain⟨o2,W,hF⟩:=qd hF;obtain⟨r1,x2⟩:=o2;refine qbU r1 (cB 242 Z) (qk2 h W) Z Z Z Z ?_;rintro _ ⟨_,h⟩;refine X0 5 Z ?_;obtain⟨_,y,-,-,p⟩:=h.holeAt 2 Z;obtain⟨q6,H⟩:∃ q,q=0+(f).toNat*GoT.k qL:=⟨_,rfl⟩;refine zx y H ⟨b.1,qD b.2.1 p⟩ Z (zp1 Z (zc 5 (qc5 h 2 Z y H) Z (zp1 Z ?_)));replace h:=h.pickT 3 [1,0,2] Z;obtain⟨o3,X,hF⟩:=qd hF;obtain⟨r2,x3⟩:=o3;refine qbU r2 (cB 242 Z) (qk2 h X) Z Z Z Z ?_;rintro _ ⟨_,h⟩;refine X0 8 Z ?_;obtain⟨_,h⟩:=h.gatherT 3 [2] (qw7 (⟨d,W64 (d+1),W64 ((W64 (d+1))+1),W64 ((W64 ((W64 (d+1))+1))+1),x2,x3⟩:qL) h (qy (S:=fun _=>False) Z) (qy (S:=fun _=>False) Z) (qy (S:=fun _=>False) Z) (qy (S:=fun _=>False) Z) (qak 1 h Z) (qak 0 h Z) (by rfl) (by rfl) (by rfl) (by rfl) (by rfl)) Z;replace h:=h.put;obtain⟨_,h⟩:=qqz (S:=_) h;exact rK ⟨_,_,_,_,hF,rfl,h⟩ Z
 refine qr Z ?_;obtain rfl:=qb hF;replace hF:=O;refine X0 5 Z ?_;obtain rfl:=qb hF;exact qhB qa ⟨_,h⟩ ⟨rfl,trivial⟩
def qd9 (a:(List qA)):Nat→(List qA)→Int→Int→Option ((List qA)×Int×Int)
 | 0,_,_,_=>U
 | n+1,f,c,b=>
  bif decide (b<(a.length:Int)) then
   (qeH n c).bind fun h=>
   (idx f b).bind fun g=>
   (qmQ n g.Av (W64 ((W64 (c+1))+1))).bind fun o=>match o with
    | (i,l)=>
     (qmN n g.As i).bind fun o=>match o with
      | (k,m)=>
       (qaO n g.Bk k).bind fun o=>match o with
        | (d,p)=>
         qd9 a n (setS f b (⟨h,W64 (c+1),l,m,p,d,W64 (d+1)⟩:qA)) (W64 ((W64 (d+1))+1)) (W64 (b+1))
  else
   V (f,c,b)
def ql0 (n:Nat)(a:(List qA))(k:Int):Option (Int×(List qA)):=
 (qd9 a n a k 0).bind fun o=>match o with
 | (c,b,_)=>
  V (b,c)
theorem qpC {n:Nat}{w0 w:World}{F:List Ch}{a:(List qA)}{k:Int}{S1:Nat→Prop}{i:Option Addr}{g f:Nat}(h:SH w0 w (Ch.own S1 (a:List qA) [.slice i g f]::F)){r:(Int×(List qA))}(hF:ql0 n a k=V r):RetN prog 112 [.slice i g f,.int .i64 k] w (fun w'=>∃ Z0:Nat→Prop,SH w0 w' (Ch.own Z0 (r.2:List qA) [.slice i g f]::F)) r.1:=by
 refine qbD func112 Z (m:=63) Z Z ?_;obtain rfl:=(h.sl 0 Z).2;refine X0 9 Z ?_;obtain⟨o1,hF,Y⟩:=qd hF;refine qn (rL (fun m e w'=>∃(S2:Nat→Prop) (N:(List qA)) (L:Int) (d:Int),qd9 a m N L d=V o1∧e=[(0,.slice i a.length f),(1,.int .i64 L),(5,.int .i64 d)]∧SH w0 w' (Ch.own S2 (N:List qA) [.slice i a.length f]::F)) n ⟨_,_,_,_,hF,rfl,h⟩ Z ?_);rintro m1 _ _ ⟨S2,N,L,d,hF,rfl,h⟩;rcases m1 with _|m1
 ·cases hF
 refine X0 8 Z (qi Z hF ?_ ?_)<;>intro hF
 ·refine X0 8 Z (zcS h hF qgk Z fun r1 _ h hF=>?_);obtain⟨c,K,hF⟩:=qd hF;have b:=qc1 K;obtain⟨_,S4,_,h⟩:=h.take K;obtain⟨R,O,T,P,W,Q,rfl,-,-,-⟩:=qal (h.own 0 Z);obtain⟨S5,S6,S7,h⟩:=qvA h;obtain⟨_,s,-,-,a3⟩:=h.holeAt 3 Z;obtain⟨q1,A⟩:∃ q,q=0+(d).toNat*GoT.k qA:=⟨_,rfl⟩;refine zx s A ⟨b.1,qD b.2.1 a3⟩ Z (zp1 Z (qhT qa 3 0 h Z s A Z Z Z Z Z Z fun _ h=>?_));replace h:SH _ _ (Ch.own S7 (c.Bk:List Int) [.slice W c.Bk.length Q]::Ch.own S6 (c.As:List qL) [.slice T c.As.length P]::Ch.own S5 (c.Av:List qat) [.slice R c.Av.length O]::Ch.hole S4 (N:List qA) i a.length f (d).toNat [.string r1,.int .i64 c.Ay,.slice R c.Av.length O,.slice T c.As.length P,.slice W c.Bk.length Q,.int .i64 c.Bx,.int .i64 c.Br]::F):=h;refine X0 12 Z ?_;obtain⟨_,t,-,-,a4⟩:=h.holeAt 3 Z;obtain⟨q2,B⟩:∃ q,q=0+(d).toNat*GoT.k qA:=⟨_,rfl⟩;refine zx t B ⟨b.1,qD b.2.1 a4⟩ Z (zp1 Z (qhT qa 3 1 h Z t B Z Z Z Z Z Z fun _ h=>X0 11 Z ?_));obtain⟨_,u,-,-,a5⟩:=h.holeAt 3 Z;obtain⟨q3,C⟩:∃ q,q=0+(d).toNat*GoT.k qA:=⟨_,rfl⟩;refine zx u C ⟨b.1,qD b.2.1 a5⟩ Z (zp1 Z (zc 2 (qc5 h 3 Z u C) Z (zp1 Z ?_)));replace h:=h.pickT 4 [2,0,1,3] Z;obtain⟨o2,a7,hF⟩:=qd hF;obtain⟨r2,x2⟩:=o2;refine qbU r2 (cB 186 Z) (qqc h a7) Z Z Z Z ?_;rintro _ ⟨S8,h⟩;refine X0 6 Z ?_;obtain⟨_,v,-,-,a6⟩:=h.holeAt 3 Z;obtain⟨q4,D⟩:∃ q,q=0+(d).toNat*GoT.k qA:=⟨_,rfl⟩;refine zx v D ⟨b.1,qD b.2.1 a6⟩ Z (zp1 Z (zc 3 (qc5 h 3 Z v D) Z (zp1 Z ?_)));replace h:=h.pickT 4 [2,0,1,3] Z;obtain⟨o3,a8,hF⟩:=qd hF;obtain⟨r3,x3⟩:=o3;refine qbU r3 (cB 187 Z) (qpZ h a8) Z Z Z Z ?_;rintro _ ⟨S9,h⟩;refine X0 6 Z ?_;obtain⟨_,x,-,-,l⟩:=h.holeAt 3 Z;obtain⟨q5,H⟩:∃ q,q=0+(d).toNat*GoT.k qA:=⟨_,rfl⟩;refine zx x H ⟨b.1,qD b.2.1 l⟩ Z (zp1 Z (zc 4 (qc5 h 3 Z x H) Z (zp1 Z ?_)));replace h:=h.pickT 4 [2,0,1,3] Z;obtain⟨o4,a9,hF⟩:=qd hF;obtain⟨M,x4⟩:=o4;refine qbU M (cB 22 Z) (qaR h a9) Z Z Z Z ?_;rintro _ ⟨X,h⟩;refine X0 7 Z ?_;obtain⟨_,y,-,-,o⟩:=h.holeAt 3 Z;obtain⟨q6,I⟩:∃ q,q=0+(d).toNat*GoT.k qA:=⟨_,rfl⟩;refine zx y I ⟨b.1,qD b.2.1 o⟩ Z (zp1 Z (qhT qa 3 5 h Z y I Z Z Z Z Z Z fun _ h=>X0 12 Z ?_));obtain⟨_,z,-,-,p⟩:=h.holeAt 3 Z;obtain⟨q7,J⟩:∃ q,q=0+(d).toNat*GoT.k qA:=⟨_,rfl⟩;refine zx z J ⟨b.1,qD b.2.1 p⟩ Z (zp1 Z (qhT qa 3 6 h Z z J Z Z Z Z Z Z fun _ h=>?_));replace h:SH _ _ (Ch.own X (x4:List Int) [.slice W c.Bk.length Q]::Ch.own S9 (x3:List qL) [.slice T c.As.length P]::Ch.own S8 (x2:List qat) [.slice R c.Av.length O]::Ch.hole S4 (N:List qA) i a.length f (d).toNat [.string r1,.int .i64 (W64 (L+1)),.slice R c.Av.length O,.slice T c.As.length P,.slice W c.Bk.length Q,.int .i64 M,.int .i64 (W64 (M+1))]::F):=h;refine X0 12 Z ?_;obtain⟨_,h⟩:=h.gatherT 4 [3] (qvf (⟨r1,W64 (L+1),x2,x3,x4,M,W64 (M+1)⟩:qA) h (qy (S:=fun _=>False) Z) (qy (S:=fun _=>False) Z) (qak 2 h Z) (qak 1 h Z) (qak 0 h Z) (qy (S:=fun _=>False) Z) (qy (S:=fun _=>False) Z) (by rfl) (by rfl) (by rfl) (by rfl) (by rfl) (by rfl)) Z;replace h:=h.put;obtain⟨_,h⟩:=qqz (S:=_) h;exact rK ⟨_,_,_,_,hF,rfl,h⟩ Z
 refine qr Z ?_;obtain rfl:=qb hF;replace hF:=Y;refine X0 5 Z ?_;obtain rfl:=qb hF;exact qhB qa ⟨_,h⟩ ⟨rfl,trivial⟩
def qig (n:Nat)(a:qt)(k:Int):Option (Int×(List qA)):=
 (ql0 n a.Ap k).bind fun o=>match o with
  | (b,c)=>
   V (b,c)
theorem qoE {n:Nat}{g w:World}{F:List Ch}{a:qt}{k:Int}{S1:Nat→Prop}{f:Option Addr}{b d:Nat}(h:SH g w (Ch.own S1 (a.Ap:List qA) [.slice f b d]::F)){r:(Int×(List qA))}(hF:qig n a k=V r):RetN prog 57 [.agg #[.slice f b d],.int .i64 k] w (fun w'=>∃ Z0:Nat→Prop,SH g w' (Ch.own Z0 (r.2:List qA) [.slice f b d]::F)) r.1:=by
 refine qbD func57 Z (m:=10) Z Z ?_;obtain rfl:=(h.sl 0 Z).2;refine zSR (qw h Z Z fun _ _ h=>X1 7 0 h Z ?_);replace h:=h.pickT 2 [1,0] Z;obtain⟨i,c,hF⟩:=qd hF;obtain⟨l,_⟩:=i;refine qbU l (cB 112 Z) (qpC h c) Z Z Z Z ?_;rintro _ ⟨_,h⟩;refine X0 7 Z ?_;obtain rfl:=qb hF;replace h:=h.pickT 2 [0] Z;exact qhB qa ⟨_,h⟩ ⟨rfl,trivial⟩
def qco (a:(List qm)):Nat→(List qm)→Int→Int→Option ((List qm)×Int×Int)
 | 0,_,_,_=>U
 | n+1,d,c,b=>
  bif decide (b<(a.length:Int)) then
   (qeH n c).bind fun f=>
   (idx d b).bind fun i=>
   (qaO n i.Ai (W64 ((W64 (c+1))+1))).bind fun o=>match o with
    | (g,h)=>
     qco a n (setS d b (⟨f,W64 (c+1),h⟩:qm)) g (W64 (b+1))
  else
   V (d,c,b)
def qi5 (n:Nat)(a:(List qm))(k:Int):Option (Int×(List qm)):=
 (qco a n a k 0).bind fun o=>match o with
 | (c,b,_)=>
  V (b,c)
theorem qnp {n:Nat}{D w:World}{F:List Ch}{a:(List qm)}{k:Int}{S1:Nat→Prop}{g:Option Addr}{d f:Nat}(h:SH D w (Ch.own S1 (a:List qm) [.slice g d f]::F)){r:(Int×(List qm))}(hF:qi5 n a k=V r):RetN prog 113 [.slice g d f,.int .i64 k] w (fun w'=>∃ Z0:Nat→Prop,SH D w' (Ch.own Z0 (r.2:List qm) [.slice g d f]::F)) r.1:=by
 refine qbD func113 Z (m:=35) Z Z ?_;obtain rfl:=(h.sl 0 Z).2;refine X0 9 Z ?_;obtain⟨O,hF,y⟩:=qd hF;refine qn (rL (fun m e w'=>∃(S2:Nat→Prop) (x:(List qm)) (v:Int) (c:Int),qco a m x v c=V O∧e=[(0,.slice g a.length f),(1,.int .i64 v),(5,.int .i64 c)]∧SH D w' (Ch.own S2 (x:List qm) [.slice g a.length f]::F)) n ⟨_,_,_,_,hF,rfl,h⟩ Z ?_);rintro J _ _ ⟨S2,x,v,c,hF,rfl,h⟩;rcases J with _|J
 ·cases hF
 refine X0 8 Z (qi Z hF ?_ ?_)<;>intro hF
 ·refine X0 8 Z (zcS h hF qgk Z fun L _ h hF=>?_);obtain⟨H,u,hF⟩:=qd hF;have b:=qc1 u;obtain⟨_,M,_,h⟩:=h.take u;obtain⟨K,I,rfl,-⟩:=qW (h.own 0 Z);obtain⟨N,h⟩:=qru h;obtain⟨_,i,-,-,z⟩:=h.holeAt 1 Z;obtain⟨T,p⟩:∃ q,q=0+(c).toNat*GoT.k qm:=⟨_,rfl⟩;refine zx i p ⟨b.1,qD b.2.1 z⟩ Z (zp1 Z (qhT qa 1 0 h Z i p Z Z Z Z Z Z fun _ h=>X0 12 Z ?_));obtain⟨_,l,-,-,A⟩:=h.holeAt 1 Z;obtain⟨W,s⟩:∃ q,q=0+(c).toNat*GoT.k qm:=⟨_,rfl⟩;refine zx l s ⟨b.1,qD b.2.1 A⟩ Z (zp1 Z (qhT qa 1 1 h Z l s Z Z Z Z Z Z fun _ h=>?_));replace h:SH _ _ (Ch.own N (H.Ai:List Int) [.slice K H.Ai.length I]::Ch.hole M (x:List qm) g a.length f (c).toNat [.string L,.int .i64 (W64 (v+1)),.slice K H.Ai.length I]::F):=h;refine X0 10 Z ?_;obtain⟨_,o,-,-,B⟩:=h.holeAt 1 Z;obtain⟨X,t⟩:∃ q,q=0+(c).toNat*GoT.k qm:=⟨_,rfl⟩;refine zx o t ⟨b.1,qD b.2.1 B⟩ Z (zp1 Z (zc 2 (qc5 h 1 Z o t) Z (zp1 Z ?_)));obtain⟨P,C,hF⟩:=qd hF;obtain⟨Q,R⟩:=P;refine qbU Q (cB 22 Z) (qaR h C) Z Z Z Z ?_;rintro _ ⟨_,h⟩;refine X0 8 Z ?_;obtain⟨_,h⟩:=h.gatherT 2 [1] (qp0 (⟨L,W64 (v+1),R⟩:qm) h (qy (S:=fun _=>False) Z) (qy (S:=fun _=>False) Z) (qak 0 h Z) (by rfl) (by rfl)) Z;replace h:=h.put;obtain⟨_,h⟩:=qqz (S:=_) h;exact rK ⟨_,_,_,_,hF,rfl,h⟩ Z
 refine qr Z ?_;obtain rfl:=qb hF;replace hF:=y;refine X0 5 Z ?_;obtain rfl:=qb hF;exact qhB qa ⟨_,h⟩ ⟨rfl,trivial⟩
def qda (a:(List ByteArray)):Nat→(List ByteArray)→Int→Int→Option ((List ByteArray)×Int×Int)
 | 0,_,_,_=>U
 | n+1,d,c,b=>
  bif decide (b<(a.length:Int)) then
   (qeH n c).bind fun f=>
   (idx d b).bind fun _=>
   qda a n (setS d b f) (W64 (c+1)) (W64 (b+1))
  else
   V (d,c,b)
def qj4 (n:Nat)(a:(List ByteArray))(k:Int):Option (Int×(List ByteArray)):=
 (qda a n a k 0).bind fun o=>match o with
 | (c,b,_)=>
  V (b,c)
theorem qoD {n:Nat}{u w:World}{F:List Ch}{a:(List ByteArray)}{k:Int}{S1:Nat→Prop}{i:Option Addr}{b g:Nat}(h:SH u w (Ch.own S1 (a:List ByteArray) [.slice i b g]::F)){r:(Int×(List ByteArray))}(hF:qj4 n a k=V r):RetN prog 114 [.slice i b g,.int .i64 k] w (fun w'=>∃ Z0:Nat→Prop,SH u w' (Ch.own Z0 (r.2:List ByteArray) [.slice i b g]::F)) r.1:=by
 refine qbD func114 Z (m:=20) Z Z ?_;obtain rfl:=(h.sl 0 Z).2;refine X0 9 Z ?_;obtain⟨y,hF,l⟩:=qd hF;refine qn (rL (fun m e w'=>∃(v:(List ByteArray)) (s:Int) (t:Int),qda a m v s t=V y∧e=[(0,.slice i a.length g),(1,.int .i64 s),(5,.int .i64 t)]∧SH u w' (Ch.own S1 (v:List ByteArray) [.slice i a.length g]::F)) n ⟨_,_,_,hF,rfl,h⟩ Z ?_);rintro x _ _ ⟨v,s,t,hF,rfl,h⟩;rcases x with _|x
 ·cases hF
 refine X0 8 Z (qi Z hF ?_ ?_)<;>intro hF
 ·refine X0 8 Z (zcS h hF qgk Z fun z _ h hF=>?_);obtain⟨_,p,hF,c,_,_,_,_,d,f,rfl,o⟩:=(h.sl 0 Z).1.ix hF;exact zx d f ⟨c.1,qD c.2.1 (h.sl 0 Z).2⟩ Z (qao qa 0 0 z h Z p d f Z o Z Z Z Z Z Z Z fun _ h=>X0 12 Z (rK ⟨_,_,_,hF,rfl,h⟩ Z))
 refine qr Z ?_;obtain rfl:=qb hF;replace hF:=l;refine X0 5 Z ?_;obtain rfl:=qb hF;exact qhB qa ⟨_,h⟩ ⟨rfl,trivial⟩
def qeb (a:(List qY)):Nat→(List qY)→Int→Int→Option ((List qY)×Int×Int)
 | 0,_,_,_=>U
 | n+1,d,c,b=>
  bif decide (b<(a.length:Int)) then
   (qeH n c).bind fun f=>
   (idx d b).bind fun g=>
   (idx (setS d b ({ g with Az:=f })) b).bind fun h=>
   (idx (setS (setS d b ({ g with Az:=f })) b ({ h with Bs:=W64 (c+1) })) b).bind fun i=>
   qeb a n (setS (setS (setS d b ({ g with Az:=f })) b ({ h with Bs:=W64 (c+1) })) b ({ i with Bu:=W64 ((W64 (c+1))+1) })) (W64 ((W64 ((W64 (c+1))+1))+1)) (W64 (b+1))
  else
   V (d,c,b)
def qlD (n:Nat)(a:(List qY))(k:Int):Option (Int×(List qY)):=
 (qeb a n a k 0).bind fun o=>match o with
 | (c,b,_)=>
  V (b,c)
theorem qpn {n:Nat}{L w:World}{F:List Ch}{a:(List qY)}{k:Int}{S1:Nat→Prop}{v:Option Addr}{c u:Nat}(h:SH L w (Ch.own S1 (a:List qY) [.slice v c u]::F)){r:(Int×(List qY))}(hF:qlD n a k=V r):RetN prog 115 [.slice v c u,.int .i64 k] w (fun w'=>∃ Z0:Nat→Prop,SH L w' (Ch.own Z0 (r.2:List qY) [.slice v c u]::F)) r.1:=by
 refine qbD func115 Z (m:=35) Z Z ?_;obtain rfl:=(h.sl 0 Z).2;refine X0 9 Z ?_;obtain⟨S,hF,x⟩:=qd hF;refine qn (rL (fun m e w'=>∃(M:(List qY)) (b:Int) (K:Int),qeb a m M b K=V S∧e=[(0,.slice v a.length u),(1,.int .i64 b),(5,.int .i64 K)]∧SH L w' (Ch.own S1 (M:List qY) [.slice v a.length u]::F)) n ⟨_,_,_,hF,rfl,h⟩ Z ?_);rintro Q _ _ ⟨M,b,K,hF,rfl,h⟩;rcases Q with _|Q
 ·cases hF
 refine X0 8 Z (qi Z hF ?_ ?_)<;>intro hF
 ·refine X0 8 Z (zcS h hF qgk Z fun R _ h hF=>?_);obtain⟨N,H,hF,d,_,_,_,_,i,p,B,y⟩:=(h.sl 0 Z).1.ix hF;obtain rfl:=qa0 B;refine zx i p ⟨d.1,qD d.2.1 (h.sl 0 Z).2⟩ Z (zp1 Z (qao qa 0 0 ({ N with Az:=R }:qY) h Z H i p (qeW N) y Z Z Z (qeW ({ N with Az:=R })) Z Z Z fun _ h=>X0 12 Z ?_));obtain⟨O,I,hF,f,_,_,_,_,l,s,C,z⟩:=(h.sl 0 Z).1.ix hF;obtain rfl:=qa0 C;refine zx l s ⟨f.1,qD f.2.1 (h.sl 0 Z).2⟩ Z (zp1 Z (qao qa 0 1 ({ O with Bs:=W64 (b+1) }:qY) h Z I l s (qeW O) z Z Z Z (qeW ({ O with Bs:=W64 (b+1) })) Z Z Z fun _ h=>X0 12 Z ?_));obtain⟨P,J,hF,g,_,_,_,_,o,t,D,A⟩:=(h.sl 0 Z).1.ix hF;obtain rfl:=qa0 D;exact zx o t ⟨g.1,qD g.2.1 (h.sl 0 Z).2⟩ Z (zp1 Z (qao qa 0 2 ({ P with Bu:=W64 ((W64 (b+1))+1) }:qY) h Z J o t (qeW P) A Z Z Z (qeW ({ P with Bu:=W64 ((W64 (b+1))+1) })) Z Z Z fun _ h=>X0 12 Z (rK ⟨_,_,_,hF,rfl,h⟩ Z)))
 refine qr Z ?_;obtain rfl:=qb hF;replace hF:=x;refine X0 5 Z ?_;obtain rfl:=qb hF;exact qhB qa ⟨_,h⟩ ⟨rfl,trivial⟩
def qiV (n:Nat)(a:qg)(k:Int):Option (Int×(List qm)×(List ByteArray)×(List qY)):=
 (qi5 n a.Ab k).bind fun o=>match o with
  | (b,f)=>
   (qj4 n a.Ai b).bind fun o=>match o with
    | (c,g)=>
     (qlD n a.Ah c).bind fun o=>match o with
      | (d,h)=>
       V (d,f,g,h)
theorem qpi {n:Nat}{v w:World}{F:List Ch}{a:qg}{k:Int}{S1:Nat→Prop}{s:Option Addr}{b l:Nat}{S2:Nat→Prop}{t:Option Addr}{c o:Nat}{x:Nat→Prop}{u:Option Addr}{d p:Nat}(h:SH v w (Ch.own x (a.Ah:List qY) [.slice u d p]::Ch.own S2 (a.Ai:List ByteArray) [.slice t c o]::Ch.own S1 (a.Ab:List qm) [.slice s b l]::F)){r:(Int×(List qm)×(List ByteArray)×(List qY))}(hF:qiV n a k=V r):RetN prog 58 [.agg #[.slice s b l,.slice t c o,.slice u d p],.int .i64 k] w (fun w'=>∃ Z0 Z1 Z2:Nat→Prop,SH v w' (Ch.own Z2 (r.2.2.2:List qY) [.slice u d p]::Ch.own Z1 (r.2.2.1:List ByteArray) [.slice t c o]::Ch.own Z0 (r.2.1:List qm) [.slice s b l]::F)) r.1:=by
 refine qbD func58 Z (m:=18) Z Z ?_;obtain rfl:=(h.sl 0 Z).2;obtain rfl:=(h.sl 1 Z).2;obtain rfl:=(h.sl 2 Z).2;refine zSR (qw h Z Z fun _ _ h=>X1 7 0 h Z ?_);replace h:=h.pickT 4 [3,0,1,2] Z;obtain⟨y,f,hF⟩:=qd hF;obtain⟨B,_⟩:=y;refine qbU B (cB 113 Z) (qnp h f) Z Z Z Z ?_;rintro _ ⟨_,h⟩;refine X1 7 1 h Z ?_;replace h:=h.pickT 4 [3,0,1,2] Z;obtain⟨z,g,hF⟩:=qd hF;obtain⟨C,_⟩:=z;refine qbU C (cB 114 Z) (qoD h g) Z Z Z Z ?_;rintro _ ⟨_,h⟩;refine X1 7 2 h Z ?_;replace h:=h.pickT 4 [3,0,1,2] Z;obtain⟨A,i,hF⟩:=qd hF;obtain⟨D,_⟩:=A;refine qbU D (cB 115 Z) (qpn h i) Z Z Z Z ?_;rintro _ ⟨_,h⟩;refine X0 7 Z ?_;obtain rfl:=qb hF;replace h:=h.pickT 4 [0,1,2] Z;exact qhB qa ⟨_,_,_,h⟩ ⟨rfl,trivial⟩
def qd6 (a:(List qH)):Nat→(List qH)→Int→Int→Option ((List qH)×Int×Int)
 | 0,_,_,_=>U
 | n+1,d,f,b=>
  bif decide (b<(a.length:Int)) then
   (idx d b).bind fun c=>
   (qaO n c.Ak f).bind fun o=>match o with
    | (g,l)=>
     (qaO n c.Bt g).bind fun o=>match o with
      | (h,m)=>
       (qaO n c.Bq h).bind fun o=>match o with
        | (i,p)=>
         (qaO n c.Bg i).bind fun o=>match o with
          | (k,r)=>
           qd6 a n (setS d b (⟨l,m,p,r⟩:qH)) k (W64 (b+1))
  else
   V (d,f,b)
def qlz (n:Nat)(a:(List qH))(k:Int):Option (Int×(List qH)):=
 (qd6 a n a k 0).bind fun o=>match o with
 | (c,b,_)=>
  V (b,c)
theorem qpB {n:Nat}{L w:World}{F:List Ch}{a:(List qH)}{k:Int}{S1:Nat→Prop}{x:Option Addr}{d v:Nat}(h:SH L w (Ch.own S1 (a:List qH) [.slice x d v]::F)){r:(Int×(List qH))}(hF:qlz n a k=V r):RetN prog 59 [.slice x d v,.int .i64 k] w (fun w'=>∃ Z0:Nat→Prop,SH L w' (Ch.own Z0 (r.2:List qH) [.slice x d v]::F)) r.1:=by
 refine qbD func59 Z (m:=41) Z Z ?_;obtain rfl:=(h.sl 0 Z).2;refine X0 9 Z ?_;obtain⟨O,hF,y⟩:=qd hF;refine qn (rL (fun m e w'=>∃(S2:Nat→Prop) (M:(List qH)) (K:Int) (c:Int),qd6 a m M K c=V O∧e=[(0,.slice x a.length v),(1,.int .i64 K),(5,.int .i64 c)]∧SH L w' (Ch.own S2 (M:List qH) [.slice x a.length v]::F)) n ⟨_,_,_,_,hF,rfl,h⟩ Z ?_);rintro N _ _ ⟨S2,M,K,c,hF,rfl,h⟩;rcases N with _|N
 ·cases hF
 refine X0 8 Z (qi Z hF ?_ ?_)<;>intro hF
 ·refine X0 7 Z ?_;obtain⟨_,u,hF⟩:=qd hF;have b:=qc1 u;obtain⟨_,_,_,h⟩:=h.take u;obtain⟨_,_,_,_,_,_,_,_,rfl,-,-,-,-⟩:=qaS (h.own 0 Z);obtain⟨_,_,_,_,h⟩:=quU h;obtain⟨_,f,-,-,z⟩:=h.holeAt 4 Z;obtain⟨q1,o⟩:∃ q,q=0+(c).toNat*GoT.k qH:=⟨_,rfl⟩;refine zx f o ⟨b.1,qD b.2.1 z⟩ Z (zp1 Z (zc 0 (qc5 h 4 Z f o) Z (zp1 Z ?_)));replace h:=h.pickT 5 [3,0,1,2,4] Z;obtain⟨P,D,hF⟩:=qd hF;obtain⟨W,x2⟩:=P;refine qbU W (cB 22 Z) (qaR h D) Z Z Z Z ?_;rintro _ ⟨_,h⟩;refine X0 6 Z ?_;obtain⟨_,g,-,-,A⟩:=h.holeAt 4 Z;obtain⟨q2,p⟩:∃ q,q=0+(c).toNat*GoT.k qH:=⟨_,rfl⟩;refine zx g p ⟨b.1,qD b.2.1 A⟩ Z (zp1 Z (zc 1 (qc5 h 4 Z g p) Z (zp1 Z ?_)));replace h:=h.pickT 5 [3,0,1,2,4] Z;obtain⟨Q,H,hF⟩:=qd hF;obtain⟨X,x3⟩:=Q;refine qbU X (cB 22 Z) (qaR h H) Z Z Z Z ?_;rintro _ ⟨_,h⟩;refine X0 6 Z ?_;obtain⟨_,i,-,-,B⟩:=h.holeAt 4 Z;obtain⟨q3,s⟩:∃ q,q=0+(c).toNat*GoT.k qH:=⟨_,rfl⟩;refine zx i s ⟨b.1,qD b.2.1 B⟩ Z (zp1 Z (zc 2 (qc5 h 4 Z i s) Z (zp1 Z ?_)));replace h:=h.pickT 5 [3,0,1,2,4] Z;obtain⟨R,I,hF⟩:=qd hF;obtain⟨Y,x4⟩:=R;refine qbU Y (cB 22 Z) (qaR h I) Z Z Z Z ?_;rintro _ ⟨_,h⟩;refine X0 5 Z ?_;obtain⟨_,l,-,-,C⟩:=h.holeAt 4 Z;obtain⟨q4,t⟩:∃ q,q=0+(c).toNat*GoT.k qH:=⟨_,rfl⟩;refine zx l t ⟨b.1,qD b.2.1 C⟩ Z (zp1 Z (zc 3 (qc5 h 4 Z l t) Z (zp1 Z ?_)));replace h:=h.pickT 5 [3,0,1,2,4] Z;obtain⟨T,J,hF⟩:=qd hF;obtain⟨r4,x5⟩:=T;refine qbU r4 (cB 22 Z) (qaR h J) Z Z Z Z ?_;rintro _ ⟨_,h⟩;refine X0 8 Z ?_;obtain⟨_,h⟩:=h.gatherT 5 [4] (qvS (⟨x2,x3,x4,x5⟩:qH) h (qak 3 h Z) (qak 2 h Z) (qak 1 h Z) (qak 0 h Z) (by rfl) (by rfl) (by rfl)) Z;replace h:=h.put;obtain⟨_,h⟩:=qqz (S:=_) h;exact rK ⟨_,_,_,_,hF,rfl,h⟩ Z
 refine qr Z ?_;obtain rfl:=qb hF;replace hF:=y;refine X0 5 Z ?_;obtain rfl:=qb hF;exact qhB qa ⟨_,h⟩ ⟨rfl,trivial⟩
def qjo (n:Nat)(a:qe)(k:Int):Option (Int×(List qA)×(List qm)×(List ByteArray)×(List qY)×(List qH)):=
 (qig n (⟨a.Ar.Ap⟩:qt) k).bind fun o=>match o with
  | (b,f)=>
   (qiV n (⟨a.Aa.Ab,a.Aa.Ai,a.Aa.Ah⟩:qg) b).bind fun o=>match o with
    | (c,g,h,i)=>
     (qlz n a.Af c).bind fun o=>match o with
      | (d,l)=>
       V (d,f,g,h,i,l)
theorem qps {n:Nat}{C w:World}{F:List Ch}{a:qe}{k:Int}{S1:Nat→Prop}{x:Option Addr}{b p:Nat}{S2:Nat→Prop}{y:Option Addr}{c s:Nat}{D:Nat→Prop}{z:Option Addr}{d t:Nat}{H:Nat→Prop}{A:Option Addr}{f u:Nat}{I:Nat→Prop}{B:Option Addr}{g v:Nat}(h:SH C w (Ch.own I (a.Af:List qH) [.slice B g v]::Ch.own H (a.Aa.Ah:List qY) [.slice A f u]::Ch.own D (a.Aa.Ai:List ByteArray) [.slice z d t]::Ch.own S2 (a.Aa.Ab:List qm) [.slice y c s]::Ch.own S1 (a.Ar.Ap:List qA) [.slice x b p]::F)){r:(Int×(List qA)×(List qm)×(List ByteArray)×(List qY)×(List qH))}(hF:qjo n a k=V r):RetN prog 21 [.agg #[.slice x b p,.slice y c s,.slice z d t,.slice A f u,.slice B g v],.int .i64 k] w (fun w'=>∃ Z0 Z1 Z2 Z3 Z4:Nat→Prop,SH C w' (Ch.own Z4 (r.2.2.2.2.2:List qH) [.slice B g v]::Ch.own Z3 (r.2.2.2.2.1:List qY) [.slice A f u]::Ch.own Z2 (r.2.2.2.1:List ByteArray) [.slice z d t]::Ch.own Z1 (r.2.2.1:List qm) [.slice y c s]::Ch.own Z0 (r.2.1:List qA) [.slice x b p]::F)) r.1:=by
 refine qbD func21 Z (m:=18) Z Z ?_;obtain rfl:=(h.sl 0 Z).2;obtain rfl:=(h.sl 1 Z).2;obtain rfl:=(h.sl 2 Z).2;obtain rfl:=(h.sl 3 Z).2;obtain rfl:=(h.sl 4 Z).2;refine zSR (qw h Z Z fun _ _ h=>X1 7 0 h Z ?_);replace h:=h.pickT 6 [5,0,1,2,3,4] Z;obtain⟨J,i,hF⟩:=qd hF;obtain⟨M,_⟩:=J;refine qbU M (cB 57 Z) (qoE h i) Z Z Z Z ?_;rintro _ ⟨_,h⟩;refine X1 7 1 h Z ?_;replace h:=h.pickT 6 [3,4,5,0,1,2] Z;obtain⟨K,l,hF⟩:=qd hF;obtain⟨N,_,_,_⟩:=K;refine qbU N (cB 58 Z) (qpi h l) Z Z Z Z ?_;rintro _ ⟨_,_,_,h⟩;refine X1 7 4 h Z ?_;replace h:=h.pickT 6 [5,0,1,2,3,4] Z;obtain⟨L,o,hF⟩:=qd hF;obtain⟨O,_⟩:=L;refine qbU O (cB 59 Z) (qpB h o) Z Z Z Z ?_;rintro _ ⟨_,h⟩;refine X0 7 Z ?_;obtain rfl:=qb hF;replace h:=h.pickT 6 [0,1,2,3,4] Z;exact qhB qa ⟨_,_,_,_,_,h⟩ ⟨rfl,trivial⟩
def qdb (a:(List qf)):Nat→(List qf)→Int→Int→Option ((List qf)×Int×Int)
 | 0,_,_,_=>U
 | n+1,f,c,b=>
  bif decide (b<(a.length:Int)) then
   (idx f b).bind fun h=>
   (idx (setS f b ({ h with Bm:=c })) b).bind fun d=>
   (idx (setS (setS f b ({ h with Bm:=c })) b ({ d with Ac:={ d.Ac with Am:=W64 (c+1) } })) b).bind fun g=>
   (idx (setS (setS (setS f b ({ h with Bm:=c })) b ({ d with Ac:={ d.Ac with Am:=W64 (c+1) } })) b ({ g with Ac:={ g.Ac with Au:=W64 ((W64 (c+1))+1) } })) b).bind fun i=>
   (idx (setS (setS (setS (setS f b ({ h with Bm:=c })) b ({ d with Ac:={ d.Ac with Am:=W64 (c+1) } })) b ({ g with Ac:={ g.Ac with Au:=W64 ((W64 (c+1))+1) } })) b ({ i with Aq:={ i.Aq with Am:=W64 ((W64 ((W64 (c+1))+1))+1) } })) b).bind fun k=>
   qdb a n (setS (setS (setS (setS (setS f b ({ h with Bm:=c })) b ({ d with Ac:={ d.Ac with Am:=W64 (c+1) } })) b ({ g with Ac:={ g.Ac with Au:=W64 ((W64 (c+1))+1) } })) b ({ i with Aq:={ i.Aq with Am:=W64 ((W64 ((W64 (c+1))+1))+1) } })) b ({ k with Aq:={ k.Aq with Au:=W64 ((W64 ((W64 ((W64 (c+1))+1))+1))+1) } })) (W64 ((W64 ((W64 ((W64 ((W64 (c+1))+1))+1))+1))+1)) (W64 (b+1))
  else
   V (f,c,b)
def qj0 (n:Nat)(a:(List qf))(k:Int):Option (Int×(List qf)):=
 (qdb a n a k 0).bind fun o=>match o with
 | (c,b,_)=>
  V (b,c)
theorem qor {n:Nat}{w0 w:World}{F:List Ch}{a:(List qf)}{k:Int}{S1:Nat→Prop}{C:Option Addr}{c B:Nat}(h:SH w0 w (Ch.own S1 (a:List qf) [.slice C c B]::F)){r:(Int×(List qf))}(hF:qj0 n a k=V r):RetN prog 23 [.slice C c B,.int .i64 k] w (fun w'=>∃ Z0:Nat→Prop,SH w0 w' (Ch.own Z0 (r.2:List qf) [.slice C c B]::F)) r.1:=by
 refine qbD func23 Z (m:=52) Z Z ?_;obtain rfl:=(h.sl 0 Z).2;refine X0 9 Z ?_;obtain⟨o1,hF,K⟩:=qd hF;refine qn (rL (fun m e w'=>∃(x1:(List qf)) (b:Int) (i2:Int),qdb a m x1 b i2=V o1∧e=[(0,.slice C a.length B),(1,.int .i64 b),(5,.int .i64 i2)]∧SH w0 w' (Ch.own S1 (x1:List qf) [.slice C a.length B]::F)) n ⟨_,_,_,hF,rfl,h⟩ Z ?_);rintro m1 _ _ ⟨x1,b,i2,hF,rfl,h⟩;rcases m1 with _|m1
 ·cases hF
 refine X0 8 Z (qi Z hF ?_ ?_)<;>intro hF
 ·refine X0 8 Z ?_;obtain⟨y1,X,hF,d,_,_,_,_,o,v,Q,L⟩:=(h.sl 0 Z).1.ix hF;obtain rfl:=qac Q;refine zx o v ⟨d.1,qD d.2.1 (h.sl 0 Z).2⟩ Z (zp1 Z (qao qa 0 0 ({ y1 with Bm:=b }:qf) h Z X o v (qaP y1) L Z Z Z (qaP ({ y1 with Bm:=b })) Z Z Z fun _ h=>X0 12 Z ?_));obtain⟨D,Y,hF,f,_,_,_,_,p,x,R,M⟩:=(h.sl 0 Z).1.ix hF;obtain rfl:=qac R;refine zx p x ⟨f.1,qD f.2.1 (h.sl 0 Z).2⟩ Z (zp2 Z (qao qa 0 1 ({ D with Ac:={ D.Ac with Am:=W64 (b+1) } }:qf) h Z Y p x (qaP D) M Z Z Z (qaP ({ D with Ac:={ D.Ac with Am:=W64 (b+1) } })) Z Z Z fun _ h=>X0 12 Z ?_));obtain⟨H,a3,hF,g,_,_,_,_,s,y,S,N⟩:=(h.sl 0 Z).1.ix hF;obtain rfl:=qac S;refine zx s y ⟨g.1,qD g.2.1 (h.sl 0 Z).2⟩ Z (zp2 Z (qao qa 0 2 ({ H with Ac:={ H.Ac with Au:=W64 ((W64 (b+1))+1) } }:qf) h Z a3 s y (qaP H) N Z Z Z (qaP ({ H with Ac:={ H.Ac with Au:=W64 ((W64 (b+1))+1) } })) Z Z Z fun _ h=>X0 12 Z ?_));obtain⟨I,a4,hF,i,_,_,_,_,t,z,T,O⟩:=(h.sl 0 Z).1.ix hF;obtain rfl:=qac T;refine zx t z ⟨i.1,qD i.2.1 (h.sl 0 Z).2⟩ Z (zp2 Z (qao qa 0 3 ({ I with Aq:={ I.Aq with Am:=W64 ((W64 ((W64 (b+1))+1))+1) } }:qf) h Z a4 t z (qaP I) O Z Z Z (qaP ({ I with Aq:={ I.Aq with Am:=W64 ((W64 ((W64 (b+1))+1))+1) } })) Z Z Z fun _ h=>X0 12 Z ?_));obtain⟨J,a5,hF,l,_,_,_,_,u,A,W,P⟩:=(h.sl 0 Z).1.ix hF;obtain rfl:=qac W;exact zx u A ⟨l.1,qD l.2.1 (h.sl 0 Z).2⟩ Z (zp2 Z (qao qa 0 4 ({ J with Aq:={ J.Aq with Au:=W64 ((W64 ((W64 ((W64 (b+1))+1))+1))+1) } }:qf) h Z a5 u A (qaP J) P Z Z Z (qaP ({ J with Aq:={ J.Aq with Au:=W64 ((W64 ((W64 ((W64 (b+1))+1))+1))+1) } })) Z Z Z fun _ h=>X0 12 Z (rK ⟨_,_,_,hF,rfl,h⟩ Z)))
 refine qr Z ?_;obtain rfl:=qb hF;replace hF:=K;refine X0 5 Z ?_;obtain rfl:=qb hF;exact qhB qa ⟨_,h⟩ ⟨rfl,trivial⟩
def qcn (a:(List qh)):Nat→(List qh)→Int→Int→Option ((List qh)×Int×Int)
 | 0,_,_,_=>U
 | n+1,d,c,b=>
  bif decide (b<(a.length:Int)) then
   (idx d b).bind fun f=>
   (idx (setS d b ({ f with A:=c })) b).bind fun g=>
   (idx (setS (setS d b ({ f with A:=c })) b ({ g with B:=W64 (c+1) })) b).bind fun h=>
   qcn a n (setS (setS (setS d b ({ f with A:=c })) b ({ g with B:=W64 (c+1) })) b ({ h with Bp:=W64 ((W64 (c+1))+1) })) (W64 ((W64 ((W64 (c+1))+1))+1)) (W64 (b+1))
  else
   V (d,c,b)
def qiW (n:Nat)(a:(List qh))(k:Int):Option (Int×(List qh)):=
 (qcn a n a k 0).bind fun o=>match o with
 | (c,b,_)=>
  V (b,c)
theorem qnC {n:Nat}{N w:World}{F:List Ch}{a:(List qh)}{k:Int}{S1:Nat→Prop}{v:Option Addr}{c u:Nat}(h:SH N w (Ch.own S1 (a:List qh) [.slice v c u]::F)){r:(Int×(List qh))}(hF:qiW n a k=V r):RetN prog 24 [.slice v c u,.int .i64 k] w (fun w'=>∃ Z0:Nat→Prop,SH N w' (Ch.own Z0 (r.2:List qh) [.slice v c u]::F)) r.1:=by
 refine qbD func24 Z (m:=34) Z Z ?_;obtain rfl:=(h.sl 0 Z).2;refine X0 9 Z ?_;obtain⟨T,hF,x⟩:=qd hF;refine qn (rL (fun m e w'=>∃(O:(List qh)) (b:Int) (M:Int),qcn a m O b M=V T∧e=[(0,.slice v a.length u),(1,.int .i64 b),(5,.int .i64 M)]∧SH N w' (Ch.own S1 (O:List qh) [.slice v a.length u]::F)) n ⟨_,_,_,hF,rfl,h⟩ Z ?_);rintro S _ _ ⟨O,b,M,hF,rfl,h⟩;rcases S with _|S
 ·cases hF
 refine X0 8 Z (qi Z hF ?_ ?_)<;>intro hF
 ·refine X0 8 Z ?_;obtain⟨P,J,hF,d,_,_,_,_,i,p,D,y⟩:=(h.sl 0 Z).1.ix hF;obtain rfl:=qV D;refine zx i p ⟨d.1,qD d.2.1 (h.sl 0 Z).2⟩ Z (zp1 Z (qao qa 0 0 ({ P with A:=b }:qh) h Z J i p (qb6 P) y Z Z Z (qb6 ({ P with A:=b })) Z Z Z fun _ h=>X0 12 Z ?_));obtain⟨Q,K,hF,f,_,_,_,_,l,s,H,z⟩:=(h.sl 0 Z).1.ix hF;obtain rfl:=qV H;refine zx l s ⟨f.1,qD f.2.1 (h.sl 0 Z).2⟩ Z (zp1 Z (qao qa 0 1 ({ Q with B:=W64 (b+1) }:qh) h Z K l s (qb6 Q) z Z Z Z (qb6 ({ Q with B:=W64 (b+1) })) Z Z Z fun _ h=>X0 12 Z ?_));obtain⟨R,L,hF,g,_,_,_,_,o,t,I,C⟩:=(h.sl 0 Z).1.ix hF;obtain rfl:=qV I;exact zx o t ⟨g.1,qD g.2.1 (h.sl 0 Z).2⟩ Z (zp1 Z (qao qa 0 2 ({ R with Bp:=W64 ((W64 (b+1))+1) }:qh) h Z L o t (qb6 R) C Z Z Z (qb6 ({ R with Bp:=W64 ((W64 (b+1))+1) })) Z Z Z fun _ h=>X0 12 Z (rK ⟨_,_,_,hF,rfl,h⟩ Z)))
 refine qr Z ?_;obtain rfl:=qb hF;replace hF:=x;refine X0 5 Z ?_;obtain rfl:=qb hF;exact qhB qa ⟨_,h⟩ ⟨rfl,trivial⟩
def qd8 (a:(List Bool)):Nat→(List Bool)→Int→Int→Option ((List Bool)×Int×Int)
 | 0,_,_,_=>U
 | n+1,d,c,b=>
  bif decide (b<(a.length:Int)) then
   (idx d b).bind fun _=>
   qd8 a n (setS d b ((c.tmod 3)==0)) (W64 (c+1)) (W64 (b+1))
  else
   V (d,c,b)
def qjx (n:Nat)(a:(List Bool))(k:Int):Option (Int×(List Bool)):=
 (qd8 a n a k 0).bind fun o=>match o with
 | (c,b,_)=>
  V (b,c)
theorem qpp {n:Nat}{u w:World}{F:List Ch}{a:(List Bool)}{k:Int}{S1:Nat→Prop}{i:Option Addr}{b g:Nat}(h:SH u w (Ch.own S1 (a:List Bool) [.slice i b g]::F)){r:(Int×(List Bool))}(hF:qjx n a k=V r):RetN prog 60 [.slice i b g,.int .i64 k] w (fun w'=>∃ Z0:Nat→Prop,SH u w' (Ch.own Z0 (r.2:List Bool) [.slice i b g]::F)) r.1:=by
 refine qbD func60 Z (m:=21) Z Z ?_;obtain rfl:=(h.sl 0 Z).2;refine X0 9 Z ?_;obtain⟨y,hF,o⟩:=qd hF;refine qn (rL (fun m e w'=>∃(v:(List Bool)) (l:Int) (t:Int),qd8 a m v l t=V y∧e=[(0,.slice i a.length g),(1,.int .i64 l),(5,.int .i64 t)]∧SH u w' (Ch.own S1 (v:List Bool) [.slice i a.length g]::F)) n ⟨_,_,_,hF,rfl,h⟩ Z ?_);rintro x _ _ ⟨v,l,t,hF,rfl,h⟩;rcases x with _|x
 ·cases hF
 refine X0 8 Z (qi Z hF ?_ ?_)<;>intro hF
 ·refine X0 10 Z ?_;obtain⟨_,s,hF,c,_,_,_,_,d,f,rfl,p⟩:=(h.sl 0 Z).1.ix hF;exact zx d f ⟨c.1,qD c.2.1 (h.sl 0 Z).2⟩ Z (qao qa 0 0 ((l.tmod 3)==0) h Z s d f Z p Z Z Z Z Z Z Z fun _ h=>X0 12 Z (rK ⟨_,_,_,hF,rfl,h⟩ Z))
 refine qr Z ?_;obtain rfl:=qb hF;replace hF:=o;refine X0 5 Z ?_;obtain rfl:=qb hF;exact qhB qa ⟨_,h⟩ ⟨rfl,trivial⟩
def qd3 (a:(List qc)):Nat→(List qc)→Int→Int→Option ((List qc)×Int×Int)
 | 0,_,_,_=>U
 | n+1,d,c,b=>
  bif decide (b<(a.length:Int)) then
   (idx d b).bind fun f=>
   (idx (setS d b ({ f with Am:=c })) b).bind fun g=>
   qd3 a n (setS (setS d b ({ f with Am:=c })) b ({ g with Au:=W64 (c+1) })) (W64 ((W64 (c+1))+1)) (W64 (b+1))
  else
   V (d,c,b)
def qhJ (n:Nat)(a:(List qc))(k:Int):Option (Int×(List qc)):=
 (qd3 a n a k 0).bind fun o=>match o with
 | (c,b,_)=>
  V (b,c)
theorem qlx {n:Nat}{C w:World}{F:List Ch}{a:(List qc)}{k:Int}{S1:Nat→Prop}{s:Option Addr}{c p:Nat}(h:SH C w (Ch.own S1 (a:List qc) [.slice s c p]::F)){r:(Int×(List qc))}(hF:qhJ n a k=V r):RetN prog 61 [.slice s c p,.int .i64 k] w (fun w'=>∃ Z0:Nat→Prop,SH C w' (Ch.own Z0 (r.2:List qc) [.slice s c p]::F)) r.1:=by
 refine qbD func61 Z (m:=27) Z Z ?_;obtain rfl:=(h.sl 0 Z).2;refine X0 9 Z ?_;obtain⟨K,hF,t⟩:=qd hF;refine qn (rL (fun m e w'=>∃(D:(List qc)) (b:Int) (B:Int),qd3 a m D b B=V K∧e=[(0,.slice s a.length p),(1,.int .i64 b),(5,.int .i64 B)]∧SH C w' (Ch.own S1 (D:List qc) [.slice s a.length p]::F)) n ⟨_,_,_,hF,rfl,h⟩ Z ?_);rintro J _ _ ⟨D,b,B,hF,rfl,h⟩;rcases J with _|J
 ·cases hF
 refine X0 8 Z (qi Z hF ?_ ?_)<;>intro hF
 ·refine X0 8 Z ?_;obtain⟨H,z,hF,d,_,_,_,_,g,l,x,u⟩:=(h.sl 0 Z).1.ix hF;obtain rfl:=qu x;refine zx g l ⟨d.1,qD d.2.1 (h.sl 0 Z).2⟩ Z (zp1 Z (qao qa 0 0 ({ H with Am:=b }:qc) h Z z g l (qB H) u Z Z Z (qB ({ H with Am:=b })) Z Z Z fun _ h=>X0 12 Z ?_));obtain⟨I,A,hF,f,_,_,_,_,i,o,y,v⟩:=(h.sl 0 Z).1.ix hF;obtain rfl:=qu y;exact zx i o ⟨f.1,qD f.2.1 (h.sl 0 Z).2⟩ Z (zp1 Z (qao qa 0 1 ({ I with Au:=W64 (b+1) }:qc) h Z A i o (qB I) v Z Z Z (qB ({ I with Au:=W64 (b+1) })) Z Z Z fun _ h=>X0 12 Z (rK ⟨_,_,_,hF,rfl,h⟩ Z)))
 refine qr Z ?_;obtain rfl:=qb hF;replace hF:=t;refine X0 5 Z ?_;obtain rfl:=qb hF;exact qhB qa ⟨_,h⟩ ⟨rfl,trivial⟩
def qiU (n:Nat)(a:qq)(k:Int):Option (Int×(List Bool)×(List qc)×(List qc)):=
 (qjx n a.Aj k).bind fun o=>match o with
  | (b,f)=>
   (qhJ n a.Ac b).bind fun o=>match o with
    | (c,g)=>
     (qhJ n a.Aq c).bind fun o=>match o with
      | (d,h)=>
       V (d,f,g,h)
theorem qph {n:Nat}{v w:World}{F:List Ch}{a:qq}{k:Int}{S1:Nat→Prop}{s:Option Addr}{b l:Nat}{S2:Nat→Prop}{t:Option Addr}{c o:Nat}{x:Nat→Prop}{u:Option Addr}{d p:Nat}(h:SH v w (Ch.own x (a.Aq:List qc) [.slice u d p]::Ch.own S2 (a.Ac:List qc) [.slice t c o]::Ch.own S1 (a.Aj:List Bool) [.slice s b l]::F)){r:(Int×(List Bool)×(List qc)×(List qc))}(hF:qiU n a k=V r):RetN prog 25 [.agg #[.slice s b l,.slice t c o,.slice u d p],.int .i64 k] w (fun w'=>∃ Z0 Z1 Z2:Nat→Prop,SH v w' (Ch.own Z2 (r.2.2.2:List qc) [.slice u d p]::Ch.own Z1 (r.2.2.1:List qc) [.slice t c o]::Ch.own Z0 (r.2.1:List Bool) [.slice s b l]::F)) r.1:=by
 refine qbD func25 Z (m:=18) Z Z ?_;obtain rfl:=(h.sl 0 Z).2;obtain rfl:=(h.sl 1 Z).2;obtain rfl:=(h.sl 2 Z).2;refine zSR (qw h Z Z fun _ _ h=>X1 7 0 h Z ?_);replace h:=h.pickT 4 [3,0,1,2] Z;obtain⟨y,f,hF⟩:=qd hF;obtain⟨B,_⟩:=y;refine qbU B (cB 60 Z) (qpp h f) Z Z Z Z ?_;rintro _ ⟨_,h⟩;refine X1 7 1 h Z ?_;replace h:=h.pickT 4 [3,0,1,2] Z;obtain⟨z,g,hF⟩:=qd hF;obtain⟨C,_⟩:=z;refine qbU C (cB 61 Z) (qlx h g) Z Z Z Z ?_;rintro _ ⟨_,h⟩;refine X1 7 2 h Z ?_;replace h:=h.pickT 4 [3,0,1,2] Z;obtain⟨A,i,hF⟩:=qd hF;obtain⟨D,_⟩:=A;refine qbU D (cB 61 Z) (qlx h i) Z Z Z Z ?_;rintro _ ⟨_,h⟩;refine X0 7 Z ?_;obtain rfl:=qb hF;replace h:=h.pickT 4 [0,1,2] Z;exact qhB qa ⟨_,_,_,h⟩ ⟨rfl,trivial⟩
def qec (a:(List Bool)):Nat→Int→Int→Option (Flow Int (Int×Int))
 | 0,_,_=>U
 | n+1,c,b=>
  bif decide (b<(a.length:Int)) then
   (idx a b).bind fun d=>
   bif (!(d==((c.tmod 3)==0))) then V (.ret (-1)) else
   qec a n (W64 (c+1)) (W64 (b+1))
  else
   V (.nxt (c,b))
def qjO (n:Nat)(a:(List Bool))(k:Int):Option Int:=
 (qec a n k 0).bind fun o=>match o with
 | .ret r=>V r
 | .nxt (b,_)=>
  V b
theorem qqm {a:(List Bool)}{k:Int}(c:Ro w a cs1){r:Int}(F:qjO n a k=V r):RetV prog 62 [GoT.v (List Bool) cs1,.int .i64 k] w r:=by
 obtain⟨u,s,rfl,v⟩:=c;refine zV 23 func62 Z fun h=>X0 9 Z ?_;obtain⟨t,F,b⟩:=qd F;refine qn (rL (fun m e w'=>∃(l:Int) (o:Int),qec a m l o=V t∧e=[(0,.slice u a.length s),(1,.int .i64 l),(5,.int .i64 o)]∧SH w w' []) n ⟨_,_,F,rfl,h⟩ Z ?_);rintro p _ _ ⟨l,o,F,rfl,h⟩;rcases p with _|p
 ·cases F
 refine X0 8 Z (qi Z F ?_ ?_)<;>intro F
 ·refine X0 8 Z ?_;obtain⟨_,_,F,f,_,_,_,_,g,i,rfl,d⟩:=v.ix F;refine zxe g i f Z (zc 0 (d.below h.below) Z (X0 5 Z (qi Z F ?_ ?_)))<;>intro F
  ·refine X0 4 Z ?_;obtain rfl:=qb F;replace F:=b;exact ri h F Z
  exact X0 12 Z (rK ⟨_,_,F,rfl,h⟩ Z)
 refine qr Z ?_;obtain rfl:=qb F;replace F:=b;exact X0 5 Z (ri h F Z)
def qdY (a:(List qc)):Nat→Int→Int→Option (Flow Int (Int×Int))
 | 0,_,_=>U
 | n+1,c,b=>
  bif decide (b<(a.length:Int)) then
   (idx a b).bind fun d=>
   bif (d.Am != c) then V (.ret (-1)) else
   (idx a b).bind fun f=>
   bif (f.Au != (W64 (c+1))) then V (.ret (-1)) else
   qdY a n (W64 ((W64 (c+1))+1)) (W64 (b+1))
  else
   V (.nxt (c,b))
def qhW (n:Nat)(a:(List qc))(k:Int):Option Int:=
 (qdY a n k 0).bind fun o=>match o with
 | .ret r=>V r
 | .nxt (b,_)=>
  V b
theorem qmz {a:(List qc)}{k:Int}(c:Ro w a cs1){r:Int}(F:qhW n a k=V r):RetV prog 63 [GoT.v (List qc) cs1,.int .i64 k] w r:=by
 obtain⟨C,A,rfl,z⟩:=c;refine zV 31 func63 Z fun h=>X0 9 Z ?_;obtain⟨B,F,b⟩:=qd F;refine qn (rL (fun m e w'=>∃(v:Int) (x:Int),qdY a m v x=V B∧e=[(0,.slice C a.length A),(1,.int .i64 v),(5,.int .i64 x)]∧SH w w' []) n ⟨_,_,F,rfl,h⟩ Z ?_);rintro y _ _ ⟨v,x,F,rfl,h⟩;rcases y with _|y
 ·cases F
 refine X0 8 Z (qi Z F ?_ ?_)<;>intro F
 ·refine X0 8 Z ?_;obtain⟨_,_,F,g,_,_,_,_,l,p,t,d⟩:=z.ix F;obtain rfl:=qu t;refine zxe l p g Z (zp1 Z (zc 0 (d.below h.below) Z (X0 3 Z (qi Z F ?_ ?_))))<;>intro F
  ·refine X0 4 Z ?_;obtain rfl:=qb F;replace F:=b;exact ri h F Z
  refine X0 12 Z ?_;obtain⟨_,_,F,i,_,_,_,_,o,s,u,f⟩:=z.ix F;obtain rfl:=qu u;refine zxe o s i Z (zp1 Z (zc 1 (f.below h.below) Z (X0 3 Z (qi Z F ?_ ?_))))<;>intro F
  ·refine X0 4 Z ?_;obtain rfl:=qb F;replace F:=b;exact ri h F Z
  exact X0 12 Z (rK ⟨_,_,F,rfl,h⟩ Z)
 refine qr Z ?_;obtain rfl:=qb F;replace F:=b;exact X0 5 Z (ri h F Z)
def qg6 (n:Nat)(a:qq)(k:Int):Option Int:=
 (qjO n a.Aj k).bind fun b=>
 bif decide (b<0) then V (-1) else
 (qhW n a.Ac b).bind fun c=>
 bif decide (c<0) then V (-1) else
 (qhW n a.Aq c).bind fun d=>
 bif decide (d<0) then V (-1) else
 V d
theorem qlI {a:qq}{k:Int}(b:Ro w a cs1){r:Int}(F:qg6 n a k=V r):RetV prog 26 [GoT.v qq cs1,.int .i64 k] w r:=by
 obtain⟨_,_,_,_,_,_,rfl,c,s2,d⟩:=qM b;refine zV 24 func26 Z fun h=>zSR (qw h Z Z fun _ _ h=>X1 7 0 h Z (zcI h F (qqm ⟨_,_,rfl,(h.oldS c)⟩) Z fun _ _ h F=>X0 8 Z (qi Z F ?_ ?_)))<;>intro F
 ·exact X0 4 Z (ri h F Z)
 refine X1 6 0 h Z (zcI h F (qmz ⟨_,_,rfl,(h.oldS s2)⟩) Z fun _ _ h F=>X0 8 Z (qi Z F ?_ ?_))<;>intro F
 ·exact X0 4 Z (ri h F Z)
 refine X1 6 0 h Z (zcI h F (qmz ⟨_,_,rfl,(h.oldS d)⟩) Z fun _ _ h F=>X0 8 Z (qi Z F ?_ ?_))<;>intro F
 ·exact X0 4 Z (ri h F Z)
 exact X0 6 Z (ri h F Z)
end Go.Fw


namespace Go.Fw
open Go Go.Proofs Go.Proofs.Tryz
open Go.RowKit (Below)
set_option maxRecDepth 100000
set_option maxHeartbeats 6400000
variable {n:Nat}{w:World}{cs1 cs2 cs3 cs4 cs5 cs6 cs7 cs8 cs9:List Value}
def qfo (n:Nat)(a:qe)(d:qz)(g:(List Int))(h:(List qf))(i:(List qh)):Option Bool:=
 bif decide ((g.length:Int) > 1048576) then V true else
 (qlc n a 1048576).bind fun r1=>
 bif decide (r1<0) then V true else
 (qkl n d r1).bind fun r2=>
 bif decide (r2<0) then V true else
 (qlP n h r2).bind fun r3=>
 bif decide (r3<0) then V true else
 (qj7 n i r3).bind fun r4=>
 bif decide (r4<0) then V true else
 (qgK n a).bind fun C=>
 (qhe n d).bind fun r6=>
 (qba n g).bind fun r7=>
 (qfb n h).bind fun r8=>
 (qdI n i).bind fun r9=>
 (qfa n (⟨(⟨C.Ar.Ap⟩:qt),(⟨C.Aa.Ab,C.Aa.Ai,C.Aa.Ah⟩:qg),C.Af⟩:qe) r6 r7 r8 r9).bind fun o=>match o with
  | (b,l,m,p)=>
   (qgK n a).bind fun f=>
   (qba n g).bind fun r=>
   (qfb n h).bind fun s=>
   (qdI n i).bind fun t=>
   (qhe n d).bind fun K=>
   (qdH n f K r s t).bind fun o=>match o with
    | (c,u,x,y)=>
     (
      (qhg n (⟨c.Aj,c.Ac,c.Aq⟩:qq) (⟨b.Aj,b.Ac,b.Aq⟩:qq)).bind fun b8=>
      bif (!b8) then V true else
      (qa8 n u l).bind fun b9=>
      bif (!b9) then V true else
      bif (x != m) then V true else
      V (y != p)).bind fun b1=>
     bif b1 then V false else
     (qgK n a).bind fun L=>
     (qld n f L).bind fun M=>
     bif (!M) then V false else
     (qba n g).bind fun N=>
     (qa8 n r N).bind fun O=>
     bif (!O) then V false else
     (qfb n h).bind fun P=>
     (qjn n s P).bind fun Q=>
     bif (!Q) then V false else
     (qdI n i).bind fun R=>
     (qis n t R).bind fun S=>
     bif (!S) then V false else
     (qjo n (⟨(⟨f.Ar.Ap⟩:qt),(⟨f.Aa.Ab,f.Aa.Ai,f.Aa.Ah⟩:qg),f.Af⟩:qe) 1).bind fun o=>match o with
      | (T,_,_,_,_,_)=>
       (qaO n r T).bind fun o=>match o with
        | (W,_)=>
         (qj0 n s W).bind fun o=>match o with
          | (X,_)=>
           (qiW n t X).bind fun o=>match o with
            | (Y,_)=>
             (
              bif decide (Y<0) then V true else
              (qhg n (⟨c.Aj,c.Ac,c.Aq⟩:qq) (⟨b.Aj,b.Ac,b.Aq⟩:qq)).bind fun b6=>
              bif (!b6) then V true else
              (qa8 n u l).bind fun b7=>
              bif (!b7) then V true else
              bif (x != m) then V true else
              V (y != p)).bind fun b2=>
             bif b2 then V false else
             (qiU n (⟨c.Aj,c.Ac,c.Aq⟩:qq) 1).bind fun o=>match o with
              | (e,x9,H,I)=>
               (qaO n u e).bind fun o=>match o with
                | (z,J)=>
                 (qg6 n (⟨x9,H,I⟩:qq) 1).bind fun A=>
                 bif decide (A<0) then V false else
                 (qg2 n J A).bind fun B=>
                 bif decide (B<0) then V false else
                 bif (B != z) then V false else
                 (qgK n (⟨(⟨a.Ar.Ap⟩:qt),(⟨a.Aa.Ab,a.Aa.Ai,a.Aa.Ah⟩:qg),a.Af⟩:qe)).bind fun k=>
                 (qhe n (⟨d.Az,d.Bc,d.Be,d.Bd,d.Bh⟩:qz)).bind fun a3=>
                 (qba n g).bind fun a4=>
                 (qfb n h).bind fun a5=>
                 (qdI n i).bind fun a6=>
                 (qdH n (⟨(⟨k.Ar.Ap⟩:qt),(⟨k.Aa.Ab,k.Aa.Ai,k.Aa.Ah⟩:qg),k.Af⟩:qe) a3 a4 a5 a6).bind fun o=>match o with
                  | (v,a7,a8,a9)=>
                   (
                    (qhg n (⟨v.Aj,v.Ac,v.Aq⟩:qq) (⟨b.Aj,b.Ac,b.Aq⟩:qq)).bind fun b4=>
                    bif (!b4) then V true else
                    (qa8 n a7 l).bind fun b5=>
                    bif (!b5) then V true else
                    bif (a8 != m) then V true else
                    V (a9 != p)).bind fun b3=>
                   bif b3 then V false else
                   (qg6 n (⟨x9,H,I⟩:qq) 1).bind fun D=>
                   bif decide (D<0) then V false else
                   (qg2 n J D).bind fun F=>
                   bif decide (F<0) then V false else
                   bif (F != z) then V false else
                   V true
theorem qkW {c3:qe}{c4:qz}{a_2:(List Int)}{a_3:(List qf)}{a_4:(List qh)}(ha1:Ro w c3 cs1)(g2:Ro w c4 cs2)(ha3:Ro w a_2 cs3)(ha4:Ro w a_3 cs4)(ha5:Ro w a_4 cs5){r:Bool}(F:qfo n c3 c4 a_2 a_3 a_4=V r):RetV prog 3 [GoT.v qe cs1,GoT.v qz cs2,GoT.v (List Int) cs3,GoT.v (List qf) cs4,GoT.v (List qh) cs5] w r:=by
 obtain⟨p1,k1,p2,k2,p3,k3,p4,k4,p5,k5,rfl,s1,s2,s3,s4,s5⟩:=qE ha1;obtain rfl:=qag g2;obtain⟨p6,k6,rfl,s6⟩:=ha3;obtain⟨p7,k7,rfl,s7⟩:=ha4;obtain⟨p8,k8,rfl,s8⟩:=ha5;refine zV 234 func3 Z fun h=>zSR (qw h Z Z fun _ b4 h=>qw h Z Z fun _ b5 h=>X0 9 Z (qi Z F ?_ ?_))<;>intro F
 ·exact X0 4 Z (rb h F Z)
 refine X1 9 1 h Z (zcI h F (qrQ (h.old ha1)) Z fun _ _ h F=>X0 8 Z (qi Z F ?_ ?_))<;>intro F
 ·exact X0 4 Z (rb h F Z)
 refine X1 5 0 h Z (zcI h F (qqW (h.old g2)) Z fun _ _ h F=>X0 8 Z (qi Z F ?_ ?_))<;>intro F
 ·exact X0 4 Z (rb h F Z)
 refine X0 5 Z (zcI h F (qpU ⟨_,_,rfl,(h.oldS s7)⟩) Z fun _ _ h F=>X0 8 Z (qi Z F ?_ ?_))<;>intro F
 ·exact X0 4 Z (rb h F Z)
 refine X0 5 Z (zcI h F (qo8 ⟨_,_,rfl,(h.oldS s8)⟩) Z fun _ _ h F=>X0 8 Z (qi Z F ?_ ?_))<;>intro F
 ·exact X0 4 Z (rb h F Z)
 refine zKS ?_;obtain⟨d,hr5,F⟩:=qd F;obtain⟨r6,hr6,F⟩:=qd F;obtain⟨r7,hr7,F⟩:=qd F;obtain⟨r8,hr8,F⟩:=qd F;obtain⟨r9,hr9,F⟩:=qd F;obtain⟨r10,c9,F⟩:=qd F;obtain⟨b,v,c7,c8⟩:=r10;refine qaT (fun e w'=>∃(H:Nat) (S:Nat→Prop) (z:Option Addr) (x:Nat) (T:Nat→Prop) (A:Option Addr) (y:Nat) (W:Nat→Prop) (M:Option Addr) (K:Nat) (X:Nat→Prop) (a7:Option Addr) (a6:Nat),e=[(2,.slice p6 a_2.length k6),(3,.slice p7 a_3.length k7),(4,.slice p8 a_4.length k8),(5,.pointer (V ⟨b4,0,U⟩)),(6,.pointer (V ⟨b5,0,U⟩)),(12,.pointer (V ⟨H,0,U⟩)),(13,.slice a7 v.length a6),(14,.int .i64 c7),(15,.int .i64 c8)]∧SH w w' [Ch.box H (qI b M A z K y x) 45,Ch.own S (b.Aq:List qc) [.slice z b.Aq.length x],Ch.own T (b.Ac:List qc) [.slice A b.Ac.length y],Ch.own W (b.Aj:List Bool) [.slice M b.Aj.length K],Ch.own X (v:List Int) [.slice a7 v.length a6],Ch.box b5 (qam c4) 34,Ch.box b4 (qJ c3 p1 p2 p3 p4 p5 k1 k2 k3 k4 k5) 32]) ?_ ?_
 ·refine rA [] [0,1] h Z fun _ h=>M2 341 [0,2,4,6,8] 1 0 (h.pick [0,1] Z) Z (At 1 16 343 65877 Z ?_ ?_)
  ·refine qeC d h (cB 10 Z) (qft (h.old ha1) hr5) Z Z Z Z fun _ _ _ h=>?_;obtain⟨p78,k78,a5,a4,P,N,Q,O,c6,c5,rfl,-,-,-,-,-⟩:=qE (h.own 0 Z);obtain⟨_,_,_,h⟩:=qiH h;replace h:=h.pick [1,0,2,3,4] Z;obtain⟨_,_,_,h⟩:=qiG h;replace h:=h.pick [4,0,1,2,3,5,6] Z;obtain⟨_,h⟩:=qhM h;refine Ag (h.pick [5,6] Z) (At 3 16 351 65879 Z ?_ ?_)
   ·refine qeC r6 h (cB 11 Z) (qcP (h.old g2) hr6) Z Z Z Z fun _ _ _ h=>?_;obtain rfl:=qag (h.own 0 Z);refine Ag (h.pick [6,7] Z) (At 5 16 383 65887 Z ?_ ?_)
    ·refine qa2 r7 h (cB 12 Z) (qar ⟨_,_,rfl,(h.oldS s6)⟩ hr7) Z Z Z Z fun _ _ _ _ h=>Ag (h.pick [7,8] Z) (At 7 16 511 65919 Z ?_ ?_)
     ·refine qa2 r8 h (cB 13 Z) (qaX ⟨_,_,rfl,(h.oldS s7)⟩ hr8) Z Z Z Z fun _ _ _ _ h=>Ag (h.pick [8,9] Z) (At 9 16 1023 66047 Z ?_ ?_)
      ·refine qa2 r9 h (cB 14 Z) (qax ⟨_,_,rfl,(h.oldS s8)⟩ hr9) Z Z Z Z fun _ _ _ _ h=>Ag (h.pick [9,10] Z) (At 10 16 2047 66559 Z ?_ ?_)
       ·refine qaF (b,v,c7,c8) h (cB 9 Z) (qbQ ⟨[.slice p78 d.Ar.Ap.length k78],[.slice a5 d.Aa.Ab.length a4,.slice P d.Aa.Ai.length N,.slice Q d.Aa.Ah.length O,.slice c6 d.Af.length c5],rfl,(h.own 4 Z),⟨[.slice a5 d.Aa.Ab.length a4,.slice P d.Aa.Ai.length N,.slice Q d.Aa.Ah.length O],[.slice c6 d.Af.length c5],rfl,⟨[.slice a5 d.Aa.Ab.length a4],[.slice P d.Aa.Ai.length N,.slice Q d.Aa.Ah.length O],rfl,(h.own 7 Z),⟨[.slice P d.Aa.Ai.length N],[.slice Q d.Aa.Ah.length O],rfl,(h.own 6 Z),(h.own 5 Z)⟩⟩,(h.own 8 Z)⟩⟩ (h.own 3 Z) (h.own 2 Z) (h.own 1 Z) (h.own 0 Z) c9) Z Z Z Z fun _ _ _ hv41 hr51=>?_;obtain⟨_,_,_,_,rfl,hv42,hr52⟩:=hv41.cons hr51;obtain⟨_,_,_,_,_,_,rfl,-,-,-⟩:=qM (hv42.sh.own 0 Z);obtain⟨_,_,_,_,_,rfl,hv43,hr53⟩:=hv42.consL hr52;obtain⟨_,_,rfl,hv44,hr54⟩:=hv43.consI hr53;obtain⟨rfl,h⟩:=hv44.lastI hr54;replace h:=h.pick [1,0,2,3,4,5,6,7,8,9,10,11,12] Z;obtain⟨_,_,_,h⟩:=qaz h;refine G0 65535 [11,12,13,14,15] (h.pick [13,14] Z) Z (Ao 16 131071 Z (qp qa h Z Z Z fun _ _ h=>Ag (h.pick [14,15] Z) (Ao 17 262143 Z (zs 0 h Z fun _ h=>G0 2097151 [18,19,20] (h.pick [14,15] Z) Z (Ad ?_)))));replace h:=h.pick [0,1,2,3,4,14,15] Z;exact rG ⟨_,_,_,_,_,_,_,_,_,_,_,_,_,rfl,h⟩ Z
       refine qp qa h Z Z Z fun _ _ h=>Ag (h.pick [10,11] Z) (Ao 10 67583 Z (qaF (b,v,c7,c8) h (cB 9 Z) (qbQ ⟨[.slice p78 d.Ar.Ap.length k78],[.slice a5 d.Aa.Ab.length a4,.slice P d.Aa.Ai.length N,.slice Q d.Aa.Ah.length O,.slice c6 d.Af.length c5],rfl,(h.own 5 Z),⟨[.slice a5 d.Aa.Ab.length a4,.slice P d.Aa.Ai.length N,.slice Q d.Aa.Ah.length O],[.slice c6 d.Af.length c5],rfl,⟨[.slice a5 d.Aa.Ab.length a4],[.slice P d.Aa.Ai.length N,.slice Q d.Aa.Ah.length O],rfl,(h.own 8 Z),⟨[.slice P d.Aa.Ai.length N],[.slice Q d.Aa.Ah.length O],rfl,(h.own 7 Z),(h.own 6 Z)⟩⟩,(h.own 9 Z)⟩⟩ (h.own 4 Z) (h.own 3 Z) (h.own 2 Z) (h.own 1 Z) c9) Z Z Z Z fun _ _ _ hv46 hr56=>?_));obtain⟨_,_,_,_,rfl,hv47,hr57⟩:=hv46.cons hr56;obtain⟨_,_,_,_,_,_,rfl,-,-,-⟩:=qM (hv47.sh.own 0 Z);obtain⟨_,_,_,_,_,rfl,hv48,hr58⟩:=hv47.consL hr57;obtain⟨_,_,rfl,hv49,hr59⟩:=hv48.consI hr58;obtain⟨rfl,h⟩:=hv49.lastI hr59;replace h:=h.pick [1,0,2,3,4,5,6,7,8,9,10,11,12,13] Z;obtain⟨_,_,_,h⟩:=qaz h;refine G0 131071 [11,12,13,14,15] (h.pick [14,15] Z) Z (Ao 17 262143 Z (zs 4 h Z fun _ h=>G0 2097151 [18,19,20] (h.pick [14,15] Z) Z (Ad ?_)));replace h:=h.pick [4,0,1,2,3,14,15] Z;exact rG ⟨_,_,_,_,_,_,_,_,_,_,_,_,_,rfl,h⟩ Z
      refine qp qa h Z Z Z fun _ _ h=>Ag (h.pick [9,10] Z) (Ao 9 66559 Z (qa2 r9 h (cB 14 Z) (qax ⟨_,_,rfl,(h.oldS s8)⟩ hr9) Z Z Z Z fun _ _ _ _ h=>Ag (h.pick [10,11] Z) (Ao 10 67583 Z (qaF (b,v,c7,c8) h (cB 9 Z) (qbQ ⟨[.slice p78 d.Ar.Ap.length k78],[.slice a5 d.Aa.Ab.length a4,.slice P d.Aa.Ai.length N,.slice Q d.Aa.Ah.length O,.slice c6 d.Af.length c5],rfl,(h.own 5 Z),⟨[.slice a5 d.Aa.Ab.length a4,.slice P d.Aa.Ai.length N,.slice Q d.Aa.Ah.length O],[.slice c6 d.Af.length c5],rfl,⟨[.slice a5 d.Aa.Ab.length a4],[.slice P d.Aa.Ai.length N,.slice Q d.Aa.Ah.length O],rfl,(h.own 8 Z),⟨[.slice P d.Aa.Ai.length N],[.slice Q d.Aa.Ah.length O],rfl,(h.own 7 Z),(h.own 6 Z)⟩⟩,(h.own 9 Z)⟩⟩ (h.own 4 Z) (h.own 3 Z) (h.own 2 Z) (h.own 0 Z) c9) Z Z Z Z fun _ _ _ hv51 hr61=>?_))));obtain⟨_,_,_,_,rfl,hv52,hr62⟩:=hv51.cons hr61;obtain⟨_,_,_,_,_,_,rfl,-,-,-⟩:=qM (hv52.sh.own 0 Z);obtain⟨_,_,_,_,_,rfl,hv53,hr63⟩:=hv52.consL hr62;obtain⟨_,_,rfl,hv54,hr64⟩:=hv53.consI hr63;obtain⟨rfl,h⟩:=hv54.lastI hr64;replace h:=h.pick [1,0,2,3,4,5,6,7,8,9,10,11,12,13] Z;obtain⟨_,_,_,h⟩:=qaz h;refine G0 131071 [11,12,13,14,15] (h.pick [14,15] Z) Z (Ao 17 262143 Z (zs 5 h Z fun _ h=>G0 2097151 [18,19,20] (h.pick [14,15] Z) Z (Ad ?_)));replace h:=h.pick [5,0,1,2,3,14,15] Z;exact rG ⟨_,_,_,_,_,_,_,_,_,_,_,_,_,rfl,h⟩ Z
     refine qp qa h Z Z Z fun _ _ h=>Ag (h.pick [8,9] Z) (Ao 7 66047 Z (qa2 r8 h (cB 13 Z) (qaX ⟨_,_,rfl,(h.oldS s7)⟩ hr8) Z Z Z Z fun _ _ _ _ h=>Ag (h.pick [9,10] Z) (Ao 9 66559 Z (qa2 r9 h (cB 14 Z) (qax ⟨_,_,rfl,(h.oldS s8)⟩ hr9) Z Z Z Z fun _ _ _ _ h=>Ag (h.pick [10,11] Z) (Ao 10 67583 Z (qaF (b,v,c7,c8) h (cB 9 Z) (qbQ ⟨[.slice p78 d.Ar.Ap.length k78],[.slice a5 d.Aa.Ab.length a4,.slice P d.Aa.Ai.length N,.slice Q d.Aa.Ah.length O,.slice c6 d.Af.length c5],rfl,(h.own 5 Z),⟨[.slice a5 d.Aa.Ab.length a4,.slice P d.Aa.Ai.length N,.slice Q d.Aa.Ah.length O],[.slice c6 d.Af.length c5],rfl,⟨[.slice a5 d.Aa.Ab.length a4],[.slice P d.Aa.Ai.length N,.slice Q d.Aa.Ah.length O],rfl,(h.own 8 Z),⟨[.slice P d.Aa.Ai.length N],[.slice Q d.Aa.Ah.length O],rfl,(h.own 7 Z),(h.own 6 Z)⟩⟩,(h.own 9 Z)⟩⟩ (h.own 4 Z) (h.own 3 Z) (h.own 1 Z) (h.own 0 Z) c9) Z Z Z Z fun _ _ _ hv56 hr66=>?_))))));obtain⟨_,_,_,_,rfl,hv57,hr67⟩:=hv56.cons hr66;obtain⟨_,_,_,_,_,_,rfl,-,-,-⟩:=qM (hv57.sh.own 0 Z);obtain⟨_,_,_,_,_,rfl,hv58,hr68⟩:=hv57.consL hr67;obtain⟨_,_,rfl,hv59,hr69⟩:=hv58.consI hr68;obtain⟨rfl,h⟩:=hv59.lastI hr69;replace h:=h.pick [1,0,2,3,4,5,6,7,8,9,10,11,12,13] Z;obtain⟨_,_,_,h⟩:=qaz h;refine G0 131071 [11,12,13,14,15] (h.pick [14,15] Z) Z (Ao 17 262143 Z (zs 6 h Z fun _ h=>G0 2097151 [18,19,20] (h.pick [14,15] Z) Z (Ad ?_)));replace h:=h.pick [6,0,1,2,3,14,15] Z;exact rG ⟨_,_,_,_,_,_,_,_,_,_,_,_,_,rfl,h⟩ Z
    refine qp qa h Z Z Z fun _ _ h=>Ag (h.pick [7,8] Z) (Ao 5 65919 Z (qa2 r7 h (cB 12 Z) (qar ⟨_,_,rfl,(h.oldS s6)⟩ hr7) Z Z Z Z fun _ _ _ _ h=>Ag (h.pick [8,9] Z) (Ao 7 66047 Z (qa2 r8 h (cB 13 Z) (qaX ⟨_,_,rfl,(h.oldS s7)⟩ hr8) Z Z Z Z fun _ _ _ _ h=>Ag (h.pick [9,10] Z) (Ao 9 66559 Z (qa2 r9 h (cB 14 Z) (qax ⟨_,_,rfl,(h.oldS s8)⟩ hr9) Z Z Z Z fun _ _ _ _ h=>Ag (h.pick [10,11] Z) (Ao 10 67583 Z (qaF (b,v,c7,c8) h (cB 9 Z) (qbQ ⟨[.slice p78 d.Ar.Ap.length k78],[.slice a5 d.Aa.Ab.length a4,.slice P d.Aa.Ai.length N,.slice Q d.Aa.Ah.length O,.slice c6 d.Af.length c5],rfl,(h.own 5 Z),⟨[.slice a5 d.Aa.Ab.length a4,.slice P d.Aa.Ai.length N,.slice Q d.Aa.Ah.length O],[.slice c6 d.Af.length c5],rfl,⟨[.slice a5 d.Aa.Ab.length a4],[.slice P d.Aa.Ai.length N,.slice Q d.Aa.Ah.length O],rfl,(h.own 8 Z),⟨[.slice P d.Aa.Ai.length N],[.slice Q d.Aa.Ah.length O],rfl,(h.own 7 Z),(h.own 6 Z)⟩⟩,(h.own 9 Z)⟩⟩ (h.own 4 Z) (h.own 2 Z) (h.own 1 Z) (h.own 0 Z) c9) Z Z Z Z fun _ _ _ hv61 hr71=>?_))))))));obtain⟨_,_,_,_,rfl,hv62,hr72⟩:=hv61.cons hr71;obtain⟨_,_,_,_,_,_,rfl,-,-,-⟩:=qM (hv62.sh.own 0 Z);obtain⟨_,_,_,_,_,rfl,hv63,hr73⟩:=hv62.consL hr72;obtain⟨_,_,rfl,hv64,hr74⟩:=hv63.consI hr73;obtain⟨rfl,h⟩:=hv64.lastI hr74;replace h:=h.pick [1,0,2,3,4,5,6,7,8,9,10,11,12,13] Z;obtain⟨_,_,_,h⟩:=qaz h;refine G0 131071 [11,12,13,14,15] (h.pick [14,15] Z) Z (Ao 17 262143 Z (zs 7 h Z fun _ h=>G0 2097151 [18,19,20] (h.pick [14,15] Z) Z (Ad ?_)));replace h:=h.pick [7,0,1,2,3,14,15] Z;exact rG ⟨_,_,_,_,_,_,_,_,_,_,_,_,_,rfl,h⟩ Z
   refine qp qa h Z Z Z fun _ _ h=>Ag (h.pick [6,7] Z) (Ao 3 65887 Z (qeC r6 h (cB 11 Z) (qcP (h.old g2) hr6) Z Z Z Z fun _ _ _ h=>?_));obtain rfl:=qag (h.own 0 Z);refine Ag (h.pick [7,8] Z) (Ao 5 65919 Z (qa2 r7 h (cB 12 Z) (qar ⟨_,_,rfl,(h.oldS s6)⟩ hr7) Z Z Z Z fun _ _ _ _ h=>Ag (h.pick [8,9] Z) (Ao 7 66047 Z (qa2 r8 h (cB 13 Z) (qaX ⟨_,_,rfl,(h.oldS s7)⟩ hr8) Z Z Z Z fun _ _ _ _ h=>Ag (h.pick [9,10] Z) (Ao 9 66559 Z (qa2 r9 h (cB 14 Z) (qax ⟨_,_,rfl,(h.oldS s8)⟩ hr9) Z Z Z Z fun _ _ _ _ h=>Ag (h.pick [10,11] Z) (Ao 10 67583 Z (qaF (b,v,c7,c8) h (cB 9 Z) (qbQ ⟨[.slice p78 d.Ar.Ap.length k78],[.slice a5 d.Aa.Ab.length a4,.slice P d.Aa.Ai.length N,.slice Q d.Aa.Ah.length O,.slice c6 d.Af.length c5],rfl,(h.own 5 Z),⟨[.slice a5 d.Aa.Ab.length a4,.slice P d.Aa.Ai.length N,.slice Q d.Aa.Ah.length O],[.slice c6 d.Af.length c5],rfl,⟨[.slice a5 d.Aa.Ab.length a4],[.slice P d.Aa.Ai.length N,.slice Q d.Aa.Ah.length O],rfl,(h.own 8 Z),⟨[.slice P d.Aa.Ai.length N],[.slice Q d.Aa.Ah.length O],rfl,(h.own 7 Z),(h.own 6 Z)⟩⟩,(h.own 9 Z)⟩⟩ (h.own 3 Z) (h.own 2 Z) (h.own 1 Z) (h.own 0 Z) c9) Z Z Z Z fun _ _ _ hv66 hr76=>?_))))))));obtain⟨_,_,_,_,rfl,hv67,hr77⟩:=hv66.cons hr76;obtain⟨_,_,_,_,_,_,rfl,-,-,-⟩:=qM (hv67.sh.own 0 Z);obtain⟨_,_,_,_,_,rfl,hv68,hr78⟩:=hv67.consL hr77;obtain⟨_,_,rfl,hv69,hr79⟩:=hv68.consI hr78;obtain⟨rfl,h⟩:=hv69.lastI hr79;replace h:=h.pick [1,0,2,3,4,5,6,7,8,9,10,11,12,13] Z;obtain⟨_,_,_,h⟩:=qaz h;refine G0 131071 [11,12,13,14,15] (h.pick [14,15] Z) Z (Ao 17 262143 Z (zs 8 h Z fun _ h=>G0 2097151 [18,19,20] (h.pick [14,15] Z) Z (Ad ?_)));replace h:=h.pick [8,0,1,2,3,14,15] Z;exact rG ⟨_,_,_,_,_,_,_,_,_,_,_,_,_,rfl,h⟩ Z
  refine qp qa h Z Z Z fun _ _ h=>Ag (h.pick [1,2] Z) (Ao 1 65879 Z (qeC d h (cB 10 Z) (qft (h.old ha1) hr5) Z Z Z Z fun _ _ _ h=>?_));obtain⟨p119,k119,p120,k120,p121,k121,p122,k122,p123,k123,rfl,-,-,-,-,-⟩:=qE (h.own 0 Z);obtain⟨_,_,_,h⟩:=qiH h;replace h:=h.pick [1,0,2,3,4,5] Z;obtain⟨_,_,_,h⟩:=qiG h;replace h:=h.pick [4,0,1,2,3,5,6,7] Z;obtain⟨_,h⟩:=qhM h;refine Ag (h.pick [6,7] Z) (Ao 3 65887 Z (qeC r6 h (cB 11 Z) (qcP (h.old g2) hr6) Z Z Z Z fun _ _ _ h=>?_));obtain rfl:=qag (h.own 0 Z);refine Ag (h.pick [7,8] Z) (Ao 5 65919 Z (qa2 r7 h (cB 12 Z) (qar ⟨_,_,rfl,(h.oldS s6)⟩ hr7) Z Z Z Z fun _ _ _ _ h=>Ag (h.pick [8,9] Z) (Ao 7 66047 Z (qa2 r8 h (cB 13 Z) (qaX ⟨_,_,rfl,(h.oldS s7)⟩ hr8) Z Z Z Z fun _ _ _ _ h=>Ag (h.pick [9,10] Z) (Ao 9 66559 Z (qa2 r9 h (cB 14 Z) (qax ⟨_,_,rfl,(h.oldS s8)⟩ hr9) Z Z Z Z fun _ _ _ _ h=>Ag (h.pick [10,11] Z) (Ao 10 67583 Z (qaF (b,v,c7,c8) h (cB 9 Z) (qbQ ⟨[.slice p119 d.Ar.Ap.length k119],[.slice p120 d.Aa.Ab.length k120,.slice p121 d.Aa.Ai.length k121,.slice p122 d.Aa.Ah.length k122,.slice p123 d.Af.length k123],rfl,(h.own 4 Z),⟨[.slice p120 d.Aa.Ab.length k120,.slice p121 d.Aa.Ai.length k121,.slice p122 d.Aa.Ah.length k122],[.slice p123 d.Af.length k123],rfl,⟨[.slice p120 d.Aa.Ab.length k120],[.slice p121 d.Aa.Ai.length k121,.slice p122 d.Aa.Ah.length k122],rfl,(h.own 7 Z),⟨[.slice p121 d.Aa.Ai.length k121],[.slice p122 d.Aa.Ah.length k122],rfl,(h.own 6 Z),(h.own 5 Z)⟩⟩,(h.own 8 Z)⟩⟩ (h.own 3 Z) (h.own 2 Z) (h.own 1 Z) (h.own 0 Z) c9) Z Z Z Z fun _ _ _ hv71 hr81=>?_))))))));obtain⟨_,_,_,_,rfl,hv72,hr82⟩:=hv71.cons hr81;obtain⟨_,_,_,_,_,_,rfl,-,-,-⟩:=qM (hv72.sh.own 0 Z);obtain⟨_,_,_,_,_,rfl,hv73,hr83⟩:=hv72.consL hr82;obtain⟨_,_,rfl,hv74,hr84⟩:=hv73.consI hr83;obtain⟨rfl,h⟩:=hv74.lastI hr84;replace h:=h.pick [1,0,2,3,4,5,6,7,8,9,10,11,12,13] Z;obtain⟨_,_,_,h⟩:=qaz h;refine G0 131071 [11,12,13,14,15] (h.pick [14,15] Z) Z (Ao 17 262143 Z (zs 13 h Z fun _ h=>G0 2097151 [18,19,20] (h.pick [14,15] Z) Z (Ad ?_)));replace h:=h.pick [13,0,1,2,3,14,15] Z;exact rG ⟨_,_,_,_,_,_,_,_,_,_,_,_,_,rfl,h⟩ Z
 rintro _ _ ⟨H,S,z,x,T,A,y,W,M,K,X,a7,a6,rfl,h⟩;refine X1 3 6 h Z (zcO h F (qft (h.old ha1)) Z fun d4 _ S235 _ h F=>?_);obtain⟨f3,e6,f4,e7,f5,e8,f6,e9,f7,f0,rfl,-,-,-,-,-⟩:=qE (h.own 0 Z);refine qp qa h Z Z Z fun _ bb19 h=>zs 0 h Z fun _ h=>X0 4 Z (zcL h F (qar ⟨_,_,rfl,(h.oldS s6)⟩) Z fun e4 _ S236 d9 d7 h F=>X0 5 Z (zcL h F (qaX ⟨_,_,rfl,(h.oldS s7)⟩) Z fun d5 _ S237 d3 d1 h F=>X0 5 Z (zcL h F (qax ⟨_,_,rfl,(h.oldS s8)⟩) Z fun b7 _ e5 c2 c1 h F=>X0 3 Z ?_)));obtain⟨r19,hr90,F⟩:=qd F;obtain⟨r20,hr91,F⟩:=qd F;obtain⟨c,D,r23,r24⟩:=r20;refine qaT (fun e w'=>∃(I:Nat) (b8:Nat→Prop) (i:Option Addr) (f:Nat) (b9:Nat→Prop) (k:Option Addr) (g:Nat) (c0:Nat→Prop) (m:Option Addr) (l:Nat) (a9:Nat→Prop) (L:Option Addr) (J:Nat),e=[(2,.slice p6 a_2.length k6),(3,.slice p7 a_3.length k7),(4,.slice p8 a_4.length k8),(5,.pointer (V ⟨b4,0,U⟩)),(6,.pointer (V ⟨b5,0,U⟩)),(12,.pointer (V ⟨H,0,U⟩)),(13,.slice a7 v.length a6),(14,.int .i64 c7),(15,.int .i64 c8),(16,.pointer (V ⟨bb19,0,U⟩)),(17,.slice d9 e4.length d7),(18,.slice d3 d5.length d1),(19,.slice c2 b7.length c1),(20,.pointer (V ⟨I,0,U⟩)),(21,.slice L D.length J),(22,.int .i64 r23),(23,.int .i64 r24)]∧SH w w' [Ch.box I (qI c m k i l g f) 45,Ch.own b8 (c.Aq:List qc) [.slice i c.Aq.length f],Ch.own b9 (c.Ac:List qc) [.slice k c.Ac.length g],Ch.own c0 (c.Aj:List Bool) [.slice m c.Aj.length l],Ch.own a9 (D:List Int) [.slice L D.length J],Ch.own e5 (b7:List qh) [.slice c2 b7.length c1],Ch.own S237 (d5:List qf) [.slice d3 d5.length d1],Ch.own S236 (e4:List Int) [.slice d9 e4.length d7],Ch.box bb19 (qJ d4 f3 f4 f5 f6 f7 e6 e7 e8 e9 f0) 57,Ch.own S235 (d4:qe) (qJ d4 f3 f4 f5 f6 f7 e6 e7 e8 e9 f0),Ch.box H (qI b M A z K y x) 45,Ch.own S (b.Aq:List qc) [.slice z b.Aq.length x],Ch.own T (b.Ac:List qc) [.slice A b.Ac.length y],Ch.own W (b.Aj:List Bool) [.slice M b.Aj.length K],Ch.own X (v:List Int) [.slice a7 v.length a6],Ch.box b5 (qam c4) 34,Ch.box b4 (qJ c3 p1 p2 p3 p4 p5 k1 k2 k3 k4 k5) 32]) ?_ ?_
 ·refine rA [] [3,10] h Z fun _ h=>M2 59 [0,1,3,4,5] 0 1 (h.pick [3,10] Z) Z (At 2 12 63 4155 Z ?_ ?_)
  ·refine qeC r19 h (cB 11 Z) (qcP (h.old g2) hr90) Z Z Z Z fun _ _ _ h=>?_;obtain rfl:=qag (h.own 0 Z);refine Ag (h.pick [4,11] Z) (At 6 12 127 4159 Z ?_ ?_)
   ·refine qaF (c,D,r23,r24) h (cB 15 Z) (qaN (h.own 5 Z) (h.own 0 Z) (h.own 3 Z) (h.own 2 Z) (h.own 1 Z) hr91) Z Z Z Z fun _ _ _ hv96 hr112=>?_;obtain⟨_,_,_,_,rfl,hv97,hr113⟩:=hv96.cons hr112;obtain⟨_,_,_,_,_,_,rfl,-,-,-⟩:=qM (hv97.sh.own 0 Z);obtain⟨_,_,_,_,_,rfl,hv98,hr114⟩:=hv97.consL hr113;obtain⟨_,_,rfl,hv99,hr115⟩:=hv98.consI hr114;obtain⟨rfl,h⟩:=hv99.lastI hr115;replace h:=h.pick [1,0,2,3,4,5,6,7,8,9,10,11,12,13,14] Z;obtain⟨_,_,_,h⟩:=qaz h;refine G0 4095 [7,8,9,10,11] (h.pick [8,15] Z) Z (Ao 12 8191 Z (qp qa h Z Z Z fun _ _ h=>Ag (h.pick [9,16] Z) (Ao 13 16383 Z (zs 0 h Z fun _ h=>G0 131071 [14,15,16] (h.pick [9,16] Z) Z (Ad ?_)))));replace h:=h.pick [0,1,2,3,4,6,7,8,9,10,11,12,13,14,15,16,17] Z;exact rG ⟨_,_,_,_,_,_,_,_,_,_,_,_,_,rfl,h⟩ Z
   refine qp qa h Z Z Z fun _ _ h=>Ag (h.pick [5,12] Z) (Ao 6 4223 Z (qaF (c,D,r23,r24) h (cB 15 Z) (qaN (h.own 6 Z) (h.own 1 Z) (h.own 4 Z) (h.own 3 Z) (h.own 2 Z) hr91) Z Z Z Z fun _ _ _ hv101 hr117=>?_));obtain⟨_,_,_,_,rfl,hv102,hr118⟩:=hv101.cons hr117;obtain⟨_,_,_,_,_,_,rfl,-,-,-⟩:=qM (hv102.sh.own 0 Z);obtain⟨_,_,_,_,_,rfl,hv103,hr119⟩:=hv102.consL hr118;obtain⟨_,_,rfl,hv104,hr120⟩:=hv103.consI hr119;obtain⟨rfl,h⟩:=hv104.lastI hr120;replace h:=h.pick [1,0,2,3,4,5,6,7,8,9,10,11,12,13,14,15] Z;obtain⟨_,_,_,h⟩:=qaz h;refine G0 8191 [7,8,9,10,11] (h.pick [9,16] Z) Z (Ao 13 16383 Z (zs 4 h Z fun _ h=>G0 131071 [14,15,16] (h.pick [9,16] Z) Z (Ad ?_)));replace h:=h.pick [4,0,1,2,3,6,7,8,9,10,11,12,13,14,15,16,17] Z;exact rG ⟨_,_,_,_,_,_,_,_,_,_,_,_,_,rfl,h⟩ Z
  refine qp qa h Z Z Z fun _ _ h=>Ag (h.pick [4,11] Z) (Ao 2 4159 Z (qeC r19 h (cB 11 Z) (qcP (h.old g2) hr90) Z Z Z Z fun _ _ _ h=>?_));obtain rfl:=qag (h.own 0 Z);refine Ag (h.pick [5,12] Z) (Ao 6 4223 Z (qaF (c,D,r23,r24) h (cB 15 Z) (qaN (h.own 6 Z) (h.own 0 Z) (h.own 4 Z) (h.own 3 Z) (h.own 2 Z) hr91) Z Z Z Z fun _ _ _ hv106 hr122=>?_));obtain⟨_,_,_,_,rfl,hv107,hr123⟩:=hv106.cons hr122;obtain⟨_,_,_,_,_,_,rfl,-,-,-⟩:=qM (hv107.sh.own 0 Z);obtain⟨_,_,_,_,_,rfl,hv108,hr124⟩:=hv107.consL hr123;obtain⟨_,_,rfl,hv109,hr125⟩:=hv108.consI hr124;obtain⟨rfl,h⟩:=hv109.lastI hr125;replace h:=h.pick [1,0,2,3,4,5,6,7,8,9,10,11,12,13,14,15] Z;obtain⟨_,_,_,h⟩:=qaz h;refine G0 8191 [7,8,9,10,11] (h.pick [9,16] Z) Z (Ao 13 16383 Z (zs 5 h Z fun _ h=>G0 131071 [14,15,16] (h.pick [9,16] Z) Z (Ad ?_)));replace h:=h.pick [5,0,1,2,3,6,7,8,9,10,11,12,13,14,15,16,17] Z;exact rG ⟨_,_,_,_,_,_,_,_,_,_,_,_,_,rfl,h⟩ Z
 rintro _ _ ⟨I,b8,i,f,b9,k,g,c0,m,l,a9,L,J,rfl,h⟩;refine zSS ?_;obtain⟨KF3,hKF3,_,F,hK3⟩:=bindE F;refine qaT (fun e w'=>∃(b1:Bool),KF3 b1=V r∧e=[(2,.slice p6 a_2.length k6),(3,.slice p7 a_3.length k7),(4,.slice p8 a_4.length k8),(5,.pointer (V ⟨b4,0,U⟩)),(6,.pointer (V ⟨b5,0,U⟩)),(12,.pointer (V ⟨H,0,U⟩)),(13,.slice a7 v.length a6),(14,.int .i64 c7),(15,.int .i64 c8),(16,.pointer (V ⟨bb19,0,U⟩)),(17,.slice d9 e4.length d7),(18,.slice d3 d5.length d1),(19,.slice c2 b7.length c1),(20,.pointer (V ⟨I,0,U⟩)),(21,.slice L D.length J),(22,.int .i64 r23),(23,.int .i64 r24),(109,.bool b1)]∧SH w w' [Ch.box I (qI c m k i l g f) 45,Ch.own b8 (c.Aq:List qc) [.slice i c.Aq.length f],Ch.own b9 (c.Ac:List qc) [.slice k c.Ac.length g],Ch.own c0 (c.Aj:List Bool) [.slice m c.Aj.length l],Ch.own a9 (D:List Int) [.slice L D.length J],Ch.own e5 (b7:List qh) [.slice c2 b7.length c1],Ch.own S237 (d5:List qf) [.slice d3 d5.length d1],Ch.own S236 (e4:List Int) [.slice d9 e4.length d7],Ch.box bb19 (qJ d4 f3 f4 f5 f6 f7 e6 e7 e8 e9 f0) 57,Ch.own S235 (d4:qe) (qJ d4 f3 f4 f5 f6 f7 e6 e7 e8 e9 f0),Ch.box H (qI b M A z K y x) 45,Ch.own S (b.Aq:List qc) [.slice z b.Aq.length x],Ch.own T (b.Ac:List qc) [.slice A b.Ac.length y],Ch.own W (b.Aj:List Bool) [.slice M b.Aj.length K],Ch.own X (v:List Int) [.slice a7 v.length a6],Ch.box b5 (qam c4) 34,Ch.box b4 (qJ c3 p1 p2 p3 p4 p5 k1 k2 k3 k4 k5) 32]) ?_ ?_
 ·refine X2 3 0 10 h Z (zcB h F (qj8 ⟨[.slice m c.Aj.length l],[.slice k c.Ac.length g,.slice i c.Aq.length f],rfl,(h.own 3 Z),⟨[.slice k c.Ac.length g],[.slice i c.Aq.length f],rfl,(h.own 2 Z),(h.own 1 Z)⟩⟩ ⟨[.slice M b.Aj.length K],[.slice A b.Ac.length y,.slice z b.Aq.length x],rfl,(h.own 13 Z),⟨[.slice A b.Ac.length y],[.slice z b.Aq.length x],rfl,(h.own 12 Z),(h.own 11 Z)⟩⟩) Z fun _ _ h F=>zp2 Z (qj (t:=94) F Z ?_ ?_))<;>intro F
  ·refine X0 16 Z ?_;obtain rfl:=qb F;exact rG ⟨_,hK3,rfl,h⟩ Z
  refine X0 5 Z (zcB h F (qaW (h.own 4 Z) (h.own 14 Z)) Z fun _ _ h F=>X0 4 Z (qj (t:=100) F Z ?_ ?_))<;>intro F
  ·refine X0 10 Z ?_;obtain rfl:=qb F;exact rG ⟨_,hK3,rfl,h⟩ Z
  refine X0 8 Z (qj (t:=105) F Z ?_ ?_)<;>intro F
  ·refine X0 5 Z ?_;obtain rfl:=qb F;exact rG ⟨_,hK3,rfl,h⟩ Z
  refine X0 8 Z ?_;obtain rfl:=qb F;exact rG ⟨_,hK3,rfl,h⟩ Z
 rintro _ _ ⟨b1,F,rfl,h⟩;subst hKF3;refine qi Z F ?_ ?_<;>intro F
 ·exact X0 4 Z (rb h F Z)
 refine zKSS (rA [] [8,16] h Z fun _ h=>M2 3 [0,1] 0 1 (h.pick [8,16] Z) Z (Ao 2 7 Z (zcO h F (qft (h.old ha1)) Z fun _ _ _ _ h F=>?_)));obtain⟨_,_,_,_,_,_,_,_,_,_,rfl,-,-,-,-,-⟩:=qE (h.own 0 Z);refine Ag (h.pick [9,17] Z) (Ao 3 15 Z (zcB h F (qrD (h.own 10 Z) (h.own 0 Z)) Z fun _ _ h F=>G0 31 [4] (h.pick [9,17] Z) Z (Ad (qi Z F ?_ ?_))))<;>intro F
 ·exact X0 4 Z (rb h F Z)
 refine X0 6 Z (zcL h F (qar ⟨_,_,rfl,(h.oldS s6)⟩) Z fun _ _ _ _ _ h F=>zcB h F (qaW (h.own 9 Z) (h.own 0 Z)) Z fun _ _ h F=>X0 2 Z (qi Z F ?_ ?_))<;>intro F
 ·exact X0 4 Z (rb h F Z)
 refine X0 6 Z (zcL h F (qaX ⟨_,_,rfl,(h.oldS s7)⟩) Z fun _ _ _ _ _ h F=>zcB h F (qqn (h.own 9 Z) (h.own 0 Z)) Z fun _ _ h F=>X0 2 Z (qi Z F ?_ ?_))<;>intro F
 ·exact X0 4 Z (rb h F Z)
 refine X0 6 Z (zcL h F (qax ⟨_,_,rfl,(h.oldS s8)⟩) Z fun _ _ _ _ _ h F=>zcB h F (qo3 (h.own 9 Z) (h.own 0 Z)) Z fun _ _ h F=>X0 2 Z (qi Z F ?_ ?_))<;>intro F
 ·exact X0 4 Z (rb h F Z)
 refine X1 9 12 h Z ?_;replace h:=h.pick [13,0,1,2,3,4,5,6,7,8,9,10,11,12,14,15,16,17,18,19,20] Z;obtain⟨_,_,_,h⟩:=qiH h;replace h:=h.pick [2,0,1,3,4,5,6,7,8,9,10,11,12,13,14,15,16,17,18,19,20,21,22] Z;obtain⟨_,h⟩:=qhM h;replace h:=h.pick [2,0,1,3,4,5,6,7,8,9,10,11,12,13,14,15,16,17,18,19,20,21,22] Z;obtain⟨_,_,_,h⟩:=qiG h;replace h:=h.pick [4,0,1,2,3,9,10,11,12,13,14,15,16,18,19,20,21,22,23,24] Z;obtain⟨o1,hr135,F⟩:=qd F;obtain⟨r33,x1,x2,x3,x4,x5⟩:=o1;refine qbU r33 (cB 21 Z) (qps h hr135) Z Z Z Z ?_;rintro _ ⟨S329,S330,S331,S332,S333,h⟩;replace h:SH _ _ [Ch.own S333 (x5:List qH) [.slice f7 d4.Af.length f0],Ch.own S332 (x4:List qY) [.slice f6 d4.Aa.Ah.length e9],Ch.own S331 (x3:List ByteArray) [.slice f5 d4.Aa.Ai.length e8],Ch.own S330 (x2:List qm) [.slice f4 d4.Aa.Ab.length e7],Ch.own S329 (x1:List qA) [.slice f3 d4.Ar.Ap.length e6],Ch.box I (qI c m k i l g f) 45,Ch.own b8 (c.Aq:List qc) [.slice i c.Aq.length f],Ch.own b9 (c.Ac:List qc) [.slice k c.Ac.length g],Ch.own c0 (c.Aj:List Bool) [.slice m c.Aj.length l],Ch.own a9 (D:List Int) [.slice L D.length J],Ch.own e5 (b7:List qh) [.slice c2 b7.length c1],Ch.own S237 (d5:List qf) [.slice d3 d5.length d1],Ch.own S236 (e4:List Int) [.slice d9 e4.length d7],Ch.box H (qI b M A z K y x) 45,Ch.own S (b.Aq:List qc) [.slice z b.Aq.length x],Ch.own T (b.Ac:List qc) [.slice A b.Ac.length y],Ch.own W (b.Aj:List Bool) [.slice M b.Aj.length K],Ch.own X (v:List Int) [.slice a7 v.length a6],Ch.box b5 (qam c4) 34,Ch.box b4 (qJ c3 p1 p2 p3 p4 p5 k1 k2 k3 k4 k5) 32]:=h;refine X0 6 Z ?_;replace h:=h.pick [12,5,6,7,8,9,10,11,13,14,15,16,17,18,19] Z;obtain⟨o2,hr136,F⟩:=qd F;obtain⟨r34,x6⟩:=o2;refine qbU r34 (cB 22 Z) (qaR h hr136) Z Z Z Z ?_;rintro _ ⟨S334,h⟩;replace h:SH _ _ [Ch.own S334 (x6:List Int) [.slice d9 e4.length d7],Ch.box I (qI c m k i l g f) 45,Ch.own b8 (c.Aq:List qc) [.slice i c.Aq.length f],Ch.own b9 (c.Ac:List qc) [.slice k c.Ac.length g],Ch.own c0 (c.Aj:List Bool) [.slice m c.Aj.length l],Ch.own a9 (D:List Int) [.slice L D.length J],Ch.own e5 (b7:List qh) [.slice c2 b7.length c1],Ch.own S237 (d5:List qf) [.slice d3 d5.length d1],Ch.box H (qI b M A z K y x) 45,Ch.own S (b.Aq:List qc) [.slice z b.Aq.length x],Ch.own T (b.Ac:List qc) [.slice A b.Ac.length y],Ch.own W (b.Aj:List Bool) [.slice M b.Aj.length K],Ch.own X (v:List Int) [.slice a7 v.length a6],Ch.box b5 (qam c4) 34,Ch.box b4 (qJ c3 p1 p2 p3 p4 p5 k1 k2 k3 k4 k5) 32]:=h;refine X0 6 Z ?_;replace h:=h.pick [7,1,2,3,4,5,6,8,9,10,11,12,13,14] Z;obtain⟨o3,hr137,F⟩:=qd F;obtain⟨r35,x7⟩:=o3;refine qbU r35 (cB 23 Z) (qor h hr137) Z Z Z Z ?_;rintro _ ⟨S335,h⟩;replace h:SH _ _ [Ch.own S335 (x7:List qf) [.slice d3 d5.length d1],Ch.box I (qI c m k i l g f) 45,Ch.own b8 (c.Aq:List qc) [.slice i c.Aq.length f],Ch.own b9 (c.Ac:List qc) [.slice k c.Ac.length g],Ch.own c0 (c.Aj:List Bool) [.slice m c.Aj.length l],Ch.own a9 (D:List Int) [.slice L D.length J],Ch.own e5 (b7:List qh) [.slice c2 b7.length c1],Ch.box H (qI b M A z K y x) 45,Ch.own S (b.Aq:List qc) [.slice z b.Aq.length x],Ch.own T (b.Ac:List qc) [.slice A b.Ac.length y],Ch.own W (b.Aj:List Bool) [.slice M b.Aj.length K],Ch.own X (v:List Int) [.slice a7 v.length a6],Ch.box b5 (qam c4) 34,Ch.box b4 (qJ c3 p1 p2 p3 p4 p5 k1 k2 k3 k4 k5) 32]:=h;refine X0 6 Z ?_;replace h:=h.pick [6,1,2,3,4,5,7,8,9,10,11,12,13] Z;obtain⟨o4,hr138,F⟩:=qd F;obtain⟨r36,x8⟩:=o4;refine qbU r36 (cB 24 Z) (qnC h hr138) Z Z Z Z ?_;rintro _ ⟨S336,h⟩;replace h:SH _ _ [Ch.own S336 (x8:List qh) [.slice c2 b7.length c1],Ch.box I (qI c m k i l g f) 45,Ch.own b8 (c.Aq:List qc) [.slice i c.Aq.length f],Ch.own b9 (c.Ac:List qc) [.slice k c.Ac.length g],Ch.own c0 (c.Aj:List Bool) [.slice m c.Aj.length l],Ch.own a9 (D:List Int) [.slice L D.length J],Ch.box H (qI b M A z K y x) 45,Ch.own S (b.Aq:List qc) [.slice z b.Aq.length x],Ch.own T (b.Ac:List qc) [.slice A b.Ac.length y],Ch.own W (b.Aj:List Bool) [.slice M b.Aj.length K],Ch.own X (v:List Int) [.slice a7 v.length a6],Ch.box b5 (qam c4) 34,Ch.box b4 (qJ c3 p1 p2 p3 p4 p5 k1 k2 k3 k4 k5) 32]:=h;refine X0 4 Z ?_;obtain⟨KF2,hKF2,_,F,hK2⟩:=bindE F;refine qaT (fun e w'=>∃(b2:Bool),KF2 b2=V r∧e=[(2,.slice p6 a_2.length k6),(3,.slice p7 a_3.length k7),(4,.slice p8 a_4.length k8),(5,.pointer (V ⟨b4,0,U⟩)),(6,.pointer (V ⟨b5,0,U⟩)),(12,.pointer (V ⟨H,0,U⟩)),(13,.slice a7 v.length a6),(14,.int .i64 c7),(15,.int .i64 c8),(20,.pointer (V ⟨I,0,U⟩)),(21,.slice L D.length J),(165,.bool b2)]∧SH w w' [Ch.box I (qI c m k i l g f) 45,Ch.own b8 (c.Aq:List qc) [.slice i c.Aq.length f],Ch.own b9 (c.Ac:List qc) [.slice k c.Ac.length g],Ch.own c0 (c.Aj:List Bool) [.slice m c.Aj.length l],Ch.own a9 (D:List Int) [.slice L D.length J],Ch.box H (qI b M A z K y x) 45,Ch.own S (b.Aq:List qc) [.slice z b.Aq.length x],Ch.own T (b.Ac:List qc) [.slice A b.Ac.length y],Ch.own W (b.Aj:List Bool) [.slice M b.Aj.length K],Ch.own X (v:List Int) [.slice a7 v.length a6],Ch.box b5 (qam c4) 34,Ch.box b4 (qJ c3 p1 p2 p3 p4 p5 k1 k2 k3 k4 k5) 32]) ?_ ?_
 ·refine X0 4 Z (qj (t:=144) F Z ?_ ?_)<;>intro F
  ·refine X0 22 Z ?_;replace h:=h.pick [1,2,3,4,5,6,7,8,9,10,11,12] Z;obtain rfl:=qb F;exact rG ⟨_,hK2,rfl,h⟩ Z
  refine X2 5 1 6 h Z (zcB h F (qj8 ⟨[.slice m c.Aj.length l],[.slice k c.Ac.length g,.slice i c.Aq.length f],rfl,(h.own 4 Z),⟨[.slice k c.Ac.length g],[.slice i c.Aq.length f],rfl,(h.own 3 Z),(h.own 2 Z)⟩⟩ ⟨[.slice M b.Aj.length K],[.slice A b.Ac.length y,.slice z b.Aq.length x],rfl,(h.own 9 Z),⟨[.slice A b.Ac.length y],[.slice z b.Aq.length x],rfl,(h.own 8 Z),(h.own 7 Z)⟩⟩) Z fun _ _ h F=>X0 4 Z (qj (t:=150) F Z ?_ ?_))<;>intro F
  ·refine X0 16 Z ?_;replace h:=h.pick [1,2,3,4,5,6,7,8,9,10,11,12] Z;obtain rfl:=qb F;exact rG ⟨_,hK2,rfl,h⟩ Z
  refine X0 5 Z (zcB h F (qaW (h.own 5 Z) (h.own 10 Z)) Z fun _ _ h F=>X0 4 Z (qj (t:=156) F Z ?_ ?_))<;>intro F
  ·refine X0 10 Z ?_;replace h:=h.pick [1,2,3,4,5,6,7,8,9,10,11,12] Z;obtain rfl:=qb F;exact rG ⟨_,hK2,rfl,h⟩ Z
  refine X0 8 Z (qj (t:=161) F Z ?_ ?_)<;>intro F
  ·refine X0 5 Z ?_;replace h:=h.pick [1,2,3,4,5,6,7,8,9,10,11,12] Z;obtain rfl:=qb F;exact rG ⟨_,hK2,rfl,h⟩ Z
  refine X0 8 Z ?_;replace h:=h.pick [1,2,3,4,5,6,7,8,9,10,11,12] Z;obtain rfl:=qb F;exact rG ⟨_,hK2,rfl,h⟩ Z
 rintro _ _ ⟨b2,F,rfl,h⟩;subst hKF2;refine qi Z F ?_ ?_<;>intro F
 ·exact X0 4 Z (rb h F Z)
 refine X1 9 0 h Z ?_;replace h:=h.pick [1,2,3,0,4,5,6,7,8,9,10,11] Z;obtain⟨o5,hr139,F⟩:=qd F;obtain⟨r37,x9,x10,x11⟩:=o5;refine qbU r37 (cB 25 Z) (qph h hr139) Z Z Z Z ?_;rintro _ ⟨S337,S338,S339,h⟩;replace h:SH _ _ [Ch.own S339 (x11:List qc) [.slice i c.Aq.length f],Ch.own S338 (x10:List qc) [.slice k c.Ac.length g],Ch.own S337 (x9:List Bool) [.slice m c.Aj.length l],Ch.box I (qI c m k i l g f) 45,Ch.own a9 (D:List Int) [.slice L D.length J],Ch.box H (qI b M A z K y x) 45,Ch.own S (b.Aq:List qc) [.slice z b.Aq.length x],Ch.own T (b.Ac:List qc) [.slice A b.Ac.length y],Ch.own W (b.Aj:List Bool) [.slice M b.Aj.length K],Ch.own X (v:List Int) [.slice a7 v.length a6],Ch.box b5 (qam c4) 34,Ch.box b4 (qJ c3 p1 p2 p3 p4 p5 k1 k2 k3 k4 k5) 32]:=h;refine X0 6 Z ?_;replace h:=h.pick [4,0,1,2,3,5,6,7,8,9,10,11] Z;obtain⟨o6,hr140,F⟩:=qd F;obtain⟨r38,x12⟩:=o6;refine qbU r38 (cB 22 Z) (qaR h hr140) Z Z Z Z ?_;rintro _ ⟨S340,h⟩;replace h:SH _ _ [Ch.own S340 (x12:List Int) [.slice L D.length J],Ch.own S339 (x11:List qc) [.slice i c.Aq.length f],Ch.own S338 (x10:List qc) [.slice k c.Ac.length g],Ch.own S337 (x9:List Bool) [.slice m c.Aj.length l],Ch.box I (qI c m k i l g f) 45,Ch.box H (qI b M A z K y x) 45,Ch.own S (b.Aq:List qc) [.slice z b.Aq.length x],Ch.own T (b.Ac:List qc) [.slice A b.Ac.length y],Ch.own W (b.Aj:List Bool) [.slice M b.Aj.length K],Ch.own X (v:List Int) [.slice a7 v.length a6],Ch.box b5 (qam c4) 34,Ch.box b4 (qJ c3 p1 p2 p3 p4 p5 k1 k2 k3 k4 k5) 32]:=h;refine X1 10 4 h Z (zcI h F (qlI ⟨[.slice m c.Aj.length l],[.slice k c.Ac.length g,.slice i c.Aq.length f],rfl,(h.own 3 Z),⟨[.slice k c.Ac.length g],[.slice i c.Aq.length f],rfl,(h.own 2 Z),(h.own 1 Z)⟩⟩) Z fun _ _ h F=>X0 8 Z (qi Z F ?_ ?_))<;>intro F
 ·exact X0 4 Z (rb h F Z)
 refine X0 5 Z (zcI h F (qlL (h.own 0 Z)) Z fun _ _ h F=>X0 8 Z (qi Z F ?_ ?_))<;>intro F
 ·exact X0 4 Z (rb h F Z)
 refine X0 8 Z (qi Z F ?_ ?_)<;>intro F
 ·exact X0 4 Z (rb h F Z)
 refine zKS ?_;obtain⟨a,hr143,F⟩:=qd F;obtain⟨r42,g3,F⟩:=qd F;obtain⟨r43,e3,F⟩:=qd F;obtain⟨r44,d0,F⟩:=qd F;obtain⟨r45,b6,F⟩:=qd F;obtain⟨r46,a8,F⟩:=qd F;obtain⟨R,d6,g0,g1⟩:=r46;refine qaT (fun e w'=>∃(bb36:Nat) (S467:Nat→Prop) (f8:Option Addr) (f1:Nat) (S468:Nat→Prop) (f9:Option Addr) (f2:Nat) (S469:Nat→Prop) (p246:Option Addr) (k246:Nat) (S470:Nat→Prop) (p247:Option Addr) (k247:Nat),e=[(12,.pointer (V ⟨H,0,U⟩)),(13,.slice a7 v.length a6),(14,.int .i64 c7),(15,.int .i64 c8),(20,.pointer (V ⟨I,0,U⟩)),(21,.slice L D.length J),(25,.int .i64 r38),(27,.pointer (V ⟨bb36,0,U⟩)),(28,.slice p247 d6.length k247),(29,.int .i64 g0),(30,.int .i64 g1)]∧SH w w' [Ch.box bb36 (qI R p246 f9 f8 k246 f2 f1) 45,Ch.own S467 (R.Aq:List qc) [.slice f8 R.Aq.length f1],Ch.own S468 (R.Ac:List qc) [.slice f9 R.Ac.length f2],Ch.own S469 (R.Aj:List Bool) [.slice p246 R.Aj.length k246],Ch.own S470 (d6:List Int) [.slice p247 d6.length k247],Ch.own S340 (x12:List Int) [.slice L D.length J],Ch.own S339 (x11:List qc) [.slice i c.Aq.length f],Ch.own S338 (x10:List qc) [.slice k c.Ac.length g],Ch.own S337 (x9:List Bool) [.slice m c.Aj.length l],Ch.box I (qI c m k i l g f) 45,Ch.box H (qI b M A z K y x) 45,Ch.own S (b.Aq:List qc) [.slice z b.Aq.length x],Ch.own T (b.Ac:List qc) [.slice A b.Ac.length y],Ch.own W (b.Aj:List Bool) [.slice M b.Aj.length K],Ch.own X (v:List Int) [.slice a7 v.length a6]]) ?_ ?_
 ·refine rA [] [10,11] h Z fun _ h=>M2 341 [0,2,4,6,8] 1 0 (h.pick [10,11] Z) Z (At 1 16 343 65877 Z ?_ ?_)
  ·refine qeC a h (cB 10 Z) (qft (qsh _ (h.oldS s1) (h.oldS s2) (h.oldS s3) (h.oldS s4) (h.oldS s5)) hr143) Z Z Z Z fun _ _ _ h=>?_;obtain⟨e2,d8,C,B,s,o,u,p,a3,Y,rfl,-,-,-,-,-⟩:=qE (h.own 0 Z);obtain⟨_,_,_,h⟩:=qiH h;replace h:=h.pick [1,0,2,3,4,5,6,7,8,9,10,11,12,13,14] Z;obtain⟨_,_,_,h⟩:=qiG h;replace h:=h.pick [4,0,1,2,3,5,6,7,8,9,10,11,12,13,14,15,16] Z;obtain⟨_,h⟩:=qhM h;refine Ag (h.pick [15,16] Z) (At 3 16 351 65879 Z ?_ ?_)
   ·refine qeC r42 h (cB 11 Z) (qcP (qmC _) g3) Z Z Z Z fun _ _ _ h=>?_;obtain rfl:=qag (h.own 0 Z);refine Ag (h.pick [16,17] Z) (At 5 16 383 65887 Z ?_ ?_)
    ·refine qa2 r43 h (cB 12 Z) (qar ⟨_,_,rfl,(h.oldS s6)⟩ e3) Z Z Z Z fun _ _ _ _ h=>Ag (h.pick [17,18] Z) (At 7 16 511 65919 Z ?_ ?_)
     ·refine qa2 r44 h (cB 13 Z) (qaX ⟨_,_,rfl,(h.oldS s7)⟩ d0) Z Z Z Z fun _ _ _ _ h=>Ag (h.pick [18,19] Z) (At 9 16 1023 66047 Z ?_ ?_)
      ·refine qa2 r45 h (cB 14 Z) (qax ⟨_,_,rfl,(h.oldS s8)⟩ b6) Z Z Z Z fun _ _ _ _ h=>Ag (h.pick [19,20] Z) (At 10 16 2047 66559 Z ?_ ?_)
       ·refine qaF (R,d6,g0,g1) h (cB 15 Z) (qaN ⟨[.slice e2 a.Ar.Ap.length d8],[.slice C a.Aa.Ab.length B,.slice s a.Aa.Ai.length o,.slice u a.Aa.Ah.length p,.slice a3 a.Af.length Y],rfl,(h.own 4 Z),⟨[.slice C a.Aa.Ab.length B,.slice s a.Aa.Ai.length o,.slice u a.Aa.Ah.length p],[.slice a3 a.Af.length Y],rfl,⟨[.slice C a.Aa.Ab.length B],[.slice s a.Aa.Ai.length o,.slice u a.Aa.Ah.length p],rfl,(h.own 7 Z),⟨[.slice s a.Aa.Ai.length o],[.slice u a.Aa.Ah.length p],rfl,(h.own 6 Z),(h.own 5 Z)⟩⟩,(h.own 8 Z)⟩⟩ (h.own 3 Z) (h.own 2 Z) (h.own 1 Z) (h.own 0 Z) a8) Z Z Z Z fun _ _ _ hv151 hr189=>?_;obtain⟨_,_,_,_,rfl,hv152,hr190⟩:=hv151.cons hr189;obtain⟨_,_,_,_,_,_,rfl,-,-,-⟩:=qM (hv152.sh.own 0 Z);obtain⟨_,_,_,_,_,rfl,hv153,hr191⟩:=hv152.consL hr190;obtain⟨_,_,rfl,hv154,hr192⟩:=hv153.consI hr191;obtain⟨rfl,h⟩:=hv154.lastI hr192;replace h:=h.pick [1,0,2,3,4,5,6,7,8,9,10,11,12,13,14,15,16,17,18,19,20,21,22] Z;obtain⟨_,_,_,h⟩:=qaz h;refine G0 65535 [11,12,13,14,15] (h.pick [23,24] Z) Z (Ao 16 131071 Z (qp qa h Z Z Z fun _ _ h=>Ag (h.pick [24,25] Z) (Ao 17 262143 Z (zs 0 h Z fun _ h=>G0 2097151 [18,19,20] (h.pick [24,25] Z) Z (Ad ?_)))));replace h:=h.pick [0,1,2,3,4,14,15,16,17,18,19,20,21,22,23] Z;exact rG ⟨_,_,_,_,_,_,_,_,_,_,_,_,_,rfl,h⟩ Z
       refine qp qa h Z Z Z fun _ _ h=>Ag (h.pick [20,21] Z) (Ao 10 67583 Z (qaF (R,d6,g0,g1) h (cB 15 Z) (qaN ⟨[.slice e2 a.Ar.Ap.length d8],[.slice C a.Aa.Ab.length B,.slice s a.Aa.Ai.length o,.slice u a.Aa.Ah.length p,.slice a3 a.Af.length Y],rfl,(h.own 5 Z),⟨[.slice C a.Aa.Ab.length B,.slice s a.Aa.Ai.length o,.slice u a.Aa.Ah.length p],[.slice a3 a.Af.length Y],rfl,⟨[.slice C a.Aa.Ab.length B],[.slice s a.Aa.Ai.length o,.slice u a.Aa.Ah.length p],rfl,(h.own 8 Z),⟨[.slice s a.Aa.Ai.length o],[.slice u a.Aa.Ah.length p],rfl,(h.own 7 Z),(h.own 6 Z)⟩⟩,(h.own 9 Z)⟩⟩ (h.own 4 Z) (h.own 3 Z) (h.own 2 Z) (h.own 1 Z) a8) Z Z Z Z fun _ _ _ hv156 hr194=>?_));obtain⟨_,_,_,_,rfl,hv157,hr195⟩:=hv156.cons hr194;obtain⟨_,_,_,_,_,_,rfl,-,-,-⟩:=qM (hv157.sh.own 0 Z);obtain⟨_,_,_,_,_,rfl,hv158,hr196⟩:=hv157.consL hr195;obtain⟨_,_,rfl,hv159,hr197⟩:=hv158.consI hr196;obtain⟨rfl,h⟩:=hv159.lastI hr197;replace h:=h.pick [1,0,2,3,4,5,6,7,8,9,10,11,12,13,14,15,16,17,18,19,20,21,22,23] Z;obtain⟨_,_,_,h⟩:=qaz h;refine G0 131071 [11,12,13,14,15] (h.pick [24,25] Z) Z (Ao 17 262143 Z (zs 4 h Z fun _ h=>G0 2097151 [18,19,20] (h.pick [24,25] Z) Z (Ad ?_)));replace h:=h.pick [4,0,1,2,3,14,15,16,17,18,19,20,21,22,23] Z;exact rG ⟨_,_,_,_,_,_,_,_,_,_,_,_,_,rfl,h⟩ Z
      refine qp qa h Z Z Z fun _ _ h=>Ag (h.pick [19,20] Z) (Ao 9 66559 Z (qa2 r45 h (cB 14 Z) (qax ⟨_,_,rfl,(h.oldS s8)⟩ b6) Z Z Z Z fun _ _ _ _ h=>Ag (h.pick [20,21] Z) (Ao 10 67583 Z (qaF (R,d6,g0,g1) h (cB 15 Z) (qaN ⟨[.slice e2 a.Ar.Ap.length d8],[.slice C a.Aa.Ab.length B,.slice s a.Aa.Ai.length o,.slice u a.Aa.Ah.length p,.slice a3 a.Af.length Y],rfl,(h.own 5 Z),⟨[.slice C a.Aa.Ab.length B,.slice s a.Aa.Ai.length o,.slice u a.Aa.Ah.length p],[.slice a3 a.Af.length Y],rfl,⟨[.slice C a.Aa.Ab.length B],[.slice s a.Aa.Ai.length o,.slice u a.Aa.Ah.length p],rfl,(h.own 8 Z),⟨[.slice s a.Aa.Ai.length o],[.slice u a.Aa.Ah.length p],rfl,(h.own 7 Z),(h.own 6 Z)⟩⟩,(h.own 9 Z)⟩⟩ (h.own 4 Z) (h.own 3 Z) (h.own 2 Z) (h.own 0 Z) a8) Z Z Z Z fun _ _ _ hv161 hr199=>?_))));obtain⟨_,_,_,_,rfl,hv162,hr200⟩:=hv161.cons hr199;obtain⟨_,_,_,_,_,_,rfl,-,-,-⟩:=qM (hv162.sh.own 0 Z);obtain⟨_,_,_,_,_,rfl,hv163,hr201⟩:=hv162.consL hr200;obtain⟨_,_,rfl,hv164,hr202⟩:=hv163.consI hr201;obtain⟨rfl,h⟩:=hv164.lastI hr202;replace h:=h.pick [1,0,2,3,4,5,6,7,8,9,10,11,12,13,14,15,16,17,18,19,20,21,22,23] Z;obtain⟨_,_,_,h⟩:=qaz h;refine G0 131071 [11,12,13,14,15] (h.pick [24,25] Z) Z (Ao 17 262143 Z (zs 5 h Z fun _ h=>G0 2097151 [18,19,20] (h.pick [24,25] Z) Z (Ad ?_)));replace h:=h.pick [5,0,1,2,3,14,15,16,17,18,19,20,21,22,23] Z;exact rG ⟨_,_,_,_,_,_,_,_,_,_,_,_,_,rfl,h⟩ Z
     refine qp qa h Z Z Z fun _ _ h=>Ag (h.pick [18,19] Z) (Ao 7 66047 Z (qa2 r44 h (cB 13 Z) (qaX ⟨_,_,rfl,(h.oldS s7)⟩ d0) Z Z Z Z fun _ _ _ _ h=>Ag (h.pick [19,20] Z) (Ao 9 66559 Z (qa2 r45 h (cB 14 Z) (qax ⟨_,_,rfl,(h.oldS s8)⟩ b6) Z Z Z Z fun _ _ _ _ h=>Ag (h.pick [20,21] Z) (Ao 10 67583 Z (qaF (R,d6,g0,g1) h (cB 15 Z) (qaN ⟨[.slice e2 a.Ar.Ap.length d8],[.slice C a.Aa.Ab.length B,.slice s a.Aa.Ai.length o,.slice u a.Aa.Ah.length p,.slice a3 a.Af.length Y],rfl,(h.own 5 Z),⟨[.slice C a.Aa.Ab.length B,.slice s a.Aa.Ai.length o,.slice u a.Aa.Ah.length p],[.slice a3 a.Af.length Y],rfl,⟨[.slice C a.Aa.Ab.length B],[.slice s a.Aa.Ai.length o,.slice u a.Aa.Ah.length p],rfl,(h.own 8 Z),⟨[.slice s a.Aa.Ai.length o],[.slice u a.Aa.Ah.length p],rfl,(h.own 7 Z),(h.own 6 Z)⟩⟩,(h.own 9 Z)⟩⟩ (h.own 4 Z) (h.own 3 Z) (h.own 1 Z) (h.own 0 Z) a8) Z Z Z Z fun _ _ _ hv166 hr204=>?_))))));obtain⟨_,_,_,_,rfl,hv167,hr205⟩:=hv166.cons hr204;obtain⟨_,_,_,_,_,_,rfl,-,-,-⟩:=qM (hv167.sh.own 0 Z);obtain⟨_,_,_,_,_,rfl,hv168,hr206⟩:=hv167.consL hr205;obtain⟨_,_,rfl,hv169,hr207⟩:=hv168.consI hr206;obtain⟨rfl,h⟩:=hv169.lastI hr207;replace h:=h.pick [1,0,2,3,4,5,6,7,8,9,10,11,12,13,14,15,16,17,18,19,20,21,22,23] Z;obtain⟨_,_,_,h⟩:=qaz h;refine G0 131071 [11,12,13,14,15] (h.pick [24,25] Z) Z (Ao 17 262143 Z (zs 6 h Z fun _ h=>G0 2097151 [18,19,20] (h.pick [24,25] Z) Z (Ad ?_)));replace h:=h.pick [6,0,1,2,3,14,15,16,17,18,19,20,21,22,23] Z;exact rG ⟨_,_,_,_,_,_,_,_,_,_,_,_,_,rfl,h⟩ Z
    refine qp qa h Z Z Z fun _ _ h=>Ag (h.pick [17,18] Z) (Ao 5 65919 Z (qa2 r43 h (cB 12 Z) (qar ⟨_,_,rfl,(h.oldS s6)⟩ e3) Z Z Z Z fun _ _ _ _ h=>Ag (h.pick [18,19] Z) (Ao 7 66047 Z (qa2 r44 h (cB 13 Z) (qaX ⟨_,_,rfl,(h.oldS s7)⟩ d0) Z Z Z Z fun _ _ _ _ h=>Ag (h.pick [19,20] Z) (Ao 9 66559 Z (qa2 r45 h (cB 14 Z) (qax ⟨_,_,rfl,(h.oldS s8)⟩ b6) Z Z Z Z fun _ _ _ _ h=>Ag (h.pick [20,21] Z) (Ao 10 67583 Z (qaF (R,d6,g0,g1) h (cB 15 Z) (qaN ⟨[.slice e2 a.Ar.Ap.length d8],[.slice C a.Aa.Ab.length B,.slice s a.Aa.Ai.length o,.slice u a.Aa.Ah.length p,.slice a3 a.Af.length Y],rfl,(h.own 5 Z),⟨[.slice C a.Aa.Ab.length B,.slice s a.Aa.Ai.length o,.slice u a.Aa.Ah.length p],[.slice a3 a.Af.length Y],rfl,⟨[.slice C a.Aa.Ab.length B],[.slice s a.Aa.Ai.length o,.slice u a.Aa.Ah.length p],rfl,(h.own 8 Z),⟨[.slice s a.Aa.Ai.length o],[.slice u a.Aa.Ah.length p],rfl,(h.own 7 Z),(h.own 6 Z)⟩⟩,(h.own 9 Z)⟩⟩ (h.own 4 Z) (h.own 2 Z) (h.own 1 Z) (h.own 0 Z) a8) Z Z Z Z fun _ _ _ hv171 hr209=>?_))))))));obtain⟨_,_,_,_,rfl,hv172,hr210⟩:=hv171.cons hr209;obtain⟨_,_,_,_,_,_,rfl,-,-,-⟩:=qM (hv172.sh.own 0 Z);obtain⟨_,_,_,_,_,rfl,hv173,hr211⟩:=hv172.consL hr210;obtain⟨_,_,rfl,hv174,hr212⟩:=hv173.consI hr211;obtain⟨rfl,h⟩:=hv174.lastI hr212;replace h:=h.pick [1,0,2,3,4,5,6,7,8,9,10,11,12,13,14,15,16,17,18,19,20,21,22,23] Z;obtain⟨_,_,_,h⟩:=qaz h;refine G0 131071 [11,12,13,14,15] (h.pick [24,25] Z) Z (Ao 17 262143 Z (zs 7 h Z fun _ h=>G0 2097151 [18,19,20] (h.pick [24,25] Z) Z (Ad ?_)));replace h:=h.pick [7,0,1,2,3,14,15,16,17,18,19,20,21,22,23] Z;exact rG ⟨_,_,_,_,_,_,_,_,_,_,_,_,_,rfl,h⟩ Z
   refine qp qa h Z Z Z fun _ _ h=>Ag (h.pick [16,17] Z) (Ao 3 65887 Z (qeC r42 h (cB 11 Z) (qcP (qmC _) g3) Z Z Z Z fun _ _ _ h=>?_));obtain rfl:=qag (h.own 0 Z);refine Ag (h.pick [17,18] Z) (Ao 5 65919 Z (qa2 r43 h (cB 12 Z) (qar ⟨_,_,rfl,(h.oldS s6)⟩ e3) Z Z Z Z fun _ _ _ _ h=>Ag (h.pick [18,19] Z) (Ao 7 66047 Z (qa2 r44 h (cB 13 Z) (qaX ⟨_,_,rfl,(h.oldS s7)⟩ d0) Z Z Z Z fun _ _ _ _ h=>Ag (h.pick [19,20] Z) (Ao 9 66559 Z (qa2 r45 h (cB 14 Z) (qax ⟨_,_,rfl,(h.oldS s8)⟩ b6) Z Z Z Z fun _ _ _ _ h=>Ag (h.pick [20,21] Z) (Ao 10 67583 Z (qaF (R,d6,g0,g1) h (cB 15 Z) (qaN ⟨[.slice e2 a.Ar.Ap.length d8],[.slice C a.Aa.Ab.length B,.slice s a.Aa.Ai.length o,.slice u a.Aa.Ah.length p,.slice a3 a.Af.length Y],rfl,(h.own 5 Z),⟨[.slice C a.Aa.Ab.length B,.slice s a.Aa.Ai.length o,.slice u a.Aa.Ah.length p],[.slice a3 a.Af.length Y],rfl,⟨[.slice C a.Aa.Ab.length B],[.slice s a.Aa.Ai.length o,.slice u a.Aa.Ah.length p],rfl,(h.own 8 Z),⟨[.slice s a.Aa.Ai.length o],[.slice u a.Aa.Ah.length p],rfl,(h.own 7 Z),(h.own 6 Z)⟩⟩,(h.own 9 Z)⟩⟩ (h.own 3 Z) (h.own 2 Z) (h.own 1 Z) (h.own 0 Z) a8) Z Z Z Z fun _ _ _ hv176 hr214=>?_))))))));obtain⟨_,_,_,_,rfl,hv177,hr215⟩:=hv176.cons hr214;obtain⟨_,_,_,_,_,_,rfl,-,-,-⟩:=qM (hv177.sh.own 0 Z);obtain⟨_,_,_,_,_,rfl,hv178,hr216⟩:=hv177.consL hr215;obtain⟨_,_,rfl,hv179,hr217⟩:=hv178.consI hr216;obtain⟨rfl,h⟩:=hv179.lastI hr217;replace h:=h.pick [1,0,2,3,4,5,6,7,8,9,10,11,12,13,14,15,16,17,18,19,20,21,22,23] Z;obtain⟨_,_,_,h⟩:=qaz h;refine G0 131071 [11,12,13,14,15] (h.pick [24,25] Z) Z (Ao 17 262143 Z (zs 8 h Z fun _ h=>G0 2097151 [18,19,20] (h.pick [24,25] Z) Z (Ad ?_)));replace h:=h.pick [8,0,1,2,3,14,15,16,17,18,19,20,21,22,23] Z;exact rG ⟨_,_,_,_,_,_,_,_,_,_,_,_,_,rfl,h⟩ Z
  refine qp qa h Z Z Z fun _ _ h=>Ag (h.pick [11,12] Z) (Ao 1 65879 Z (qeC a h (cB 10 Z) (qft (qsh _ (h.oldS s1) (h.oldS s2) (h.oldS s3) (h.oldS s4) (h.oldS s5)) hr143) Z Z Z Z fun _ _ _ h=>?_));obtain⟨p289,k289,p290,k290,p291,k291,p292,k292,p293,k293,rfl,-,-,-,-,-⟩:=qE (h.own 0 Z);obtain⟨_,_,_,h⟩:=qiH h;replace h:=h.pick [1,0,2,3,4,5,6,7,8,9,10,11,12,13,14,15] Z;obtain⟨_,_,_,h⟩:=qiG h;replace h:=h.pick [4,0,1,2,3,5,6,7,8,9,10,11,12,13,14,15,16,17] Z;obtain⟨_,h⟩:=qhM h;refine Ag (h.pick [16,17] Z) (Ao 3 65887 Z (qeC r42 h (cB 11 Z) (qcP (qmC _) g3) Z Z Z Z fun _ _ _ h=>?_));obtain rfl:=qag (h.own 0 Z);refine Ag (h.pick [17,18] Z) (Ao 5 65919 Z (qa2 r43 h (cB 12 Z) (qar ⟨_,_,rfl,(h.oldS s6)⟩ e3) Z Z Z Z fun _ _ _ _ h=>Ag (h.pick [18,19] Z) (Ao 7 66047 Z (qa2 r44 h (cB 13 Z) (qaX ⟨_,_,rfl,(h.oldS s7)⟩ d0) Z Z Z Z fun _ _ _ _ h=>Ag (h.pick [19,20] Z) (Ao 9 66559 Z (qa2 r45 h (cB 14 Z) (qax ⟨_,_,rfl,(h.oldS s8)⟩ b6) Z Z Z Z fun _ _ _ _ h=>Ag (h.pick [20,21] Z) (Ao 10 67583 Z (qaF (R,d6,g0,g1) h (cB 15 Z) (qaN ⟨[.slice p289 a.Ar.Ap.length k289],[.slice p290 a.Aa.Ab.length k290,.slice p291 a.Aa.Ai.length k291,.slice p292 a.Aa.Ah.length k292,.slice p293 a.Af.length k293],rfl,(h.own 4 Z),⟨[.slice p290 a.Aa.Ab.length k290,.slice p291 a.Aa.Ai.length k291,.slice p292 a.Aa.Ah.length k292],[.slice p293 a.Af.length k293],rfl,⟨[.slice p290 a.Aa.Ab.length k290],[.slice p291 a.Aa.Ai.length k291,.slice p292 a.Aa.Ah.length k292],rfl,(h.own 7 Z),⟨[.slice p291 a.Aa.Ai.length k291],[.slice p292 a.Aa.Ah.length k292],rfl,(h.own 6 Z),(h.own 5 Z)⟩⟩,(h.own 8 Z)⟩⟩ (h.own 3 Z) (h.own 2 Z) (h.own 1 Z) (h.own 0 Z) a8) Z Z Z Z fun _ _ _ hv181 hr219=>?_))))))));obtain⟨_,_,_,_,rfl,hv182,hr220⟩:=hv181.cons hr219;obtain⟨_,_,_,_,_,_,rfl,-,-,-⟩:=qM (hv182.sh.own 0 Z);obtain⟨_,_,_,_,_,rfl,hv183,hr221⟩:=hv182.consL hr220;obtain⟨_,_,rfl,hv184,hr222⟩:=hv183.consI hr221;obtain⟨rfl,h⟩:=hv184.lastI hr222;replace h:=h.pick [1,0,2,3,4,5,6,7,8,9,10,11,12,13,14,15,16,17,18,19,20,21,22,23] Z;obtain⟨_,_,_,h⟩:=qaz h;refine G0 131071 [11,12,13,14,15] (h.pick [24,25] Z) Z (Ao 17 262143 Z (zs 13 h Z fun _ h=>G0 2097151 [18,19,20] (h.pick [24,25] Z) Z (Ad ?_)));replace h:=h.pick [13,0,1,2,3,14,15,16,17,18,19,20,21,22,23] Z;exact rG ⟨_,_,_,_,_,_,_,_,_,_,_,_,_,rfl,h⟩ Z
 rintro _ _ ⟨bb36,S467,f8,f1,S468,f9,f2,S469,p246,k246,S470,p247,k247,rfl,h⟩;refine zSS ?_;obtain⟨KF1,hKF1,_,F,hK1⟩:=bindE F;refine qaT (fun e w'=>∃(b3:Bool),KF1 b3=V r∧e=[(20,.pointer (V ⟨I,0,U⟩)),(21,.slice L D.length J),(25,.int .i64 r38),(220,.bool b3)]∧SH w w' [Ch.own S340 (x12:List Int) [.slice L D.length J],Ch.own S339 (x11:List qc) [.slice i c.Aq.length f],Ch.own S338 (x10:List qc) [.slice k c.Ac.length g],Ch.own S337 (x9:List Bool) [.slice m c.Aj.length l],Ch.box I (qI c m k i l g f) 45]) ?_ ?_
 ·refine X2 3 0 10 h Z (zcB h F (qj8 ⟨[.slice p246 R.Aj.length k246],[.slice f9 R.Ac.length f2,.slice f8 R.Aq.length f1],rfl,(h.own 3 Z),⟨[.slice f9 R.Ac.length f2],[.slice f8 R.Aq.length f1],rfl,(h.own 2 Z),(h.own 1 Z)⟩⟩ ⟨[.slice M b.Aj.length K],[.slice A b.Ac.length y,.slice z b.Aq.length x],rfl,(h.own 13 Z),⟨[.slice A b.Ac.length y],[.slice z b.Aq.length x],rfl,(h.own 12 Z),(h.own 11 Z)⟩⟩) Z fun _ _ h F=>zp2 Z (qj (t:=205) F Z ?_ ?_))<;>intro F
  ·refine X0 16 Z ?_;replace h:=h.pick [5,6,7,8,9] Z;obtain rfl:=qb F;exact rG ⟨_,hK1,rfl,h⟩ Z
  refine X0 5 Z (zcB h F (qaW (h.own 4 Z) (h.own 14 Z)) Z fun _ _ h F=>X0 4 Z (qj (t:=211) F Z ?_ ?_))<;>intro F
  ·refine X0 10 Z ?_;replace h:=h.pick [5,6,7,8,9] Z;obtain rfl:=qb F;exact rG ⟨_,hK1,rfl,h⟩ Z
  refine X0 8 Z (qj (t:=216) F Z ?_ ?_)<;>intro F
  ·refine X0 5 Z ?_;replace h:=h.pick [5,6,7,8,9] Z;obtain rfl:=qb F;exact rG ⟨_,hK1,rfl,h⟩ Z
  refine X0 8 Z ?_;replace h:=h.pick [5,6,7,8,9] Z;obtain rfl:=qb F;exact rG ⟨_,hK1,rfl,h⟩ Z
 rintro _ _ ⟨b3,F,rfl,h⟩;subst hKF1;refine qi Z F ?_ ?_<;>intro F
 ·exact X0 4 Z (rb h F Z)
 refine X1 9 4 h Z (zcI h F (qlI ⟨[.slice m c.Aj.length l],[.slice k c.Ac.length g,.slice i c.Aq.length f],rfl,(h.own 3 Z),⟨[.slice k c.Ac.length g],[.slice i c.Aq.length f],rfl,(h.own 2 Z),(h.own 1 Z)⟩⟩) Z fun _ _ h F=>X0 8 Z (qi Z F ?_ ?_))<;>intro F
 ·exact X0 4 Z (rb h F Z)
 refine X0 5 Z (zcI h F (qlL (h.own 0 Z)) Z fun _ _ h F=>X0 8 Z (qi Z F ?_ ?_))<;>intro F
 ·exact X0 4 Z (rb h F Z)
 refine X0 8 Z (qi Z F ?_ ?_)<;>intro F
 ·exact X0 4 Z (rb h F Z)
 exact X0 5 Z (rb h F Z)
end Go.Fw


namespace Go.Fw
open Go
end Go.Fw


namespace Go.Fw
open Go
set_option maxRecDepth 100000
def Mk {σ:Type}(F:Nat→Option (Int×σ))(k:Int)(w:Nat):Prop:=∃ k' x,Ev F (k',x)∧k≤k'∧k'≤k+16*(w:Int)
theorem qoy {α:Type}{t:List α}{j:Nat}{y:α}(h:j<t.length):idx (setS t (j:Int) y) (j:Int)=V y:=by
 rw[qga (by rw[qdT];exact h),qxu h]
theorem qm9 {α:Type}{t:List α}{i:Int}{y z:α}:setS (setS t i y) i z=setS t i z:=by
 unfold setS;rw[List.set_set]
theorem qtk {α:Type}{a:List α}{wt:α→Nat}{j:Nat}(h:j<a.length):((a.take (j+1)).map wt).sum=((a.take j).map wt).sum+wt a[j]:=by
 rw[jB h,jN,List.sum_append];simp
theorem qvH {α:Type}{a:List α}{wt:α→Nat}{j:Nat}:((a.take j).map wt).sum≤(a.map wt).sum:=by
 conv=>rhs;rw[←List.take_append_drop j a]
 rw[jN,List.sum_append];exact Nat.le_add_right _ _
theorem qhf {α:Type}{a:List α}{wt:α→Nat}{Lf:Nat→List α→Int→Int→Option (List α×Int×Int)}{F:Nat→Option (Int×List α)}{k:Int}(hk0:0≤k)(hk1:k+16*((a.length+(a.map wt).sum:Nat):Int)≤1000000000000)
  (hend:∀ n t k,Lf (n+1) t k (a.length:Int)=V (t,k,(a.length:Int)))
  (hstep:∀ x,x ∈ a→∀ k:Int,0≤k→k+16*((1+wt x:Nat):Int)≤1000000000000→∃ y k',k≤k'∧k'≤k+16*((1+wt x:Nat):Int) ∧
   ∀ (t:List α) (j:Nat),j<9223372036854775807→j<a.length→j<t.length→t[j]?=V x→∀ X,Ev (fun n=>Lf n (setS t (j:Int) y) k' ((j+1:Nat):Int)) X→Ev (fun n=>Lf (n+1) t k (j:Int)) X)
  (hl:a.length≤1048576)
  (hF:∀ n,F n=(Lf n a k 0).bind fun o=>match o with|(x1,i1,_)=>V (i1,x1)):Mk F k (a.length+(a.map wt).sum):=by
 obtain⟨⟨t,k'⟩,⟨_,_,h3,h4⟩,e⟩:=loopE (τ:=List α×Int) (Lf:=fun n t j=>Lf n t.1 t.2 j) (fin:=fun t=>(t.1,t.2,(a.length:Int)))
  (fun j t=>t.1.length=a.length∧(∀ i,j≤i→t.1[i]?=a[i]?)∧k≤t.2∧t.2≤k+16*((j+((a.take j).map wt).sum:Nat):Int)) (len:=a.length)
  (fun n t=>hend n t.1 t.2)
  (fun j t hj ht=>by
   obtain⟨h1,h2,h3,h4⟩:=ht;have hs:=qtk (wt:=wt) hj;have hs2:=qvH (a:=a) (wt:=wt) (j:=j+1);obtain⟨y,k',q1,q2,q3⟩:=hstep a[j] (jq hj) t.2 (by omega) (by omega);refine⟨(setS t.1 (j:Int) y,k'),⟨by rw[qdT];exact h1,fun i hi=>?_,by show k≤k';omega,?_⟩,fun X hX=>?_⟩
   ·show(t.1.set _ _)[i]?=_;rw[List.getElem?_set_ne (by rw[jn];omega)];exact h2 i (by omega)
   ·show k'≤k+_;rw[hs];omega
   ·exact q3 t.1 j (by omega) hj (by omega) (by rw[h2 j (je _),ji hj]) X hX) 0 (Nat.zero_le _) (a,k) ⟨rfl,fun _ _=>rfl,jY _,by show k≤k+_;omega⟩
 rw[jG] at h4;exact⟨k',t,Ev.congr hF (Ev.bind e .done),h3,h4⟩
theorem quY {α:Type}{pre a:List α}{j:Nat}{y:α}(hp:pre.length=j)(hj:j<a.length):setS (pre++a.drop j) (j:Int) y=(pre++[y])++a.drop (j+1):=by
 show(pre++a.drop j).set j y=_;rw[List.set_append,if_neg (by omega),hp,Nat.sub_self,jM hj,List.set_cons_zero,jr]
 rfl
def marked (k:Int)(m:Nat):List Int:=(List.range m).map fun(i:Nat)=>k+(i:Int)
theorem qsa {a:List Int}{k:Int}(h0:0≤k)(h1:k≤1000000000000)(hl:a.length≤1048576):Ev (fun n=>qaO n a k) (k+(a.length:Int),marked k a.length):=by
 have hL:Ev (fun n=>qcA a n a k 0) (marked k a.length,k+(a.length:Int),(a.length:Int)):=by
  have:=loopF (τ:=List Int×Int) (Lf:=fun n t j=>qcA a n t.1 t.2 j) (S:=fun j=>(marked k j++a.drop j,k+(j:Int))) (len:=a.length) (fin:=(marked k a.length,k+(a.length:Int),(a.length:Int))) (fun n=>by
    simp only[qcA,ql (je _),cond_false,List.drop_length,jU])
   (fun j hj X hX=>by
    have hp:(marked k j).length=j:=by simp[marked]
    have hlt:j<(marked k j++a.drop j).length:=by rw[jh,hp,List.length_drop];omega
    have hm:marked k (j+1)=marked k j++[k+(j:Int)]:=by unfold marked;rw[Jd,jN];rfl
    simp only[qcA,qk hj,cond_true,qga hlt,jd,quY hp hj,wS j,qF (show -9223372036854775808≤k+(j:Int)+1 by omega) (by omega)];rw[←hm];rw[show k+(j:Int)+1=k+((j+1:Nat):Int) by omega];exact hX)
  simpa [marked] using this
 unfold qaO;exact Ev.bind hL .done
theorem qfT {a:List Int}{k:Int}(h0:0≤k)(h1:k≤1000000000000)(hl:qaQ a≤1048576):∃ k' x,Ev (fun n=>qaO n a k) (k',x)∧k≤k'∧k'≤k+16*(qaQ a:Int):=
 ⟨_,_,qsa h0 h1 hl,by omega,by unfold qaQ;omega⟩
theorem qzL {k:Int}{m:Nat}(h0:0≤k)(h1:k≤1000000000000)(hl:m≤1048576):Ev (fun n=>qg2 n (marked k m) k) (k+(m:Int)):=by
 have hlen:(marked k m).length=m:=by simp[marked]
 have hL:Ev (fun n=>qcC (marked k m) n k 0) (.nxt (k+(m:Int),(m:Int))):=by
  have:=loopF (Lf:=qcC (marked k m)) (S:=fun j=>k+(j:Int)) (len:=m) (fin:=.nxt (k+(m:Int),(m:Int))) (fun n=>by
    simp only[qcC,hlen,ql (je _),cond_false])
   (fun j hj X hX=>by
    have e:idx (marked k m) (j:Int)=V (k+(j:Int)):=by
     rw[qga (by rw[hlen];exact hj)];simp[marked]
    simp only[qcC,hlen,qk hj,cond_true,e,jd,bne_self_eq_false,cond_false,wS j,qF (show -9223372036854775808≤k+(j:Int)+1 by omega) (by omega)];rw[show k+(j:Int)+1=k+((j+1:Nat):Int) by omega];exact hX)
  simpa using this
 unfold qg2;exact Ev.bind hL .done
theorem qw5 {a b:ByteArray}(h:a.size+b.size≤1000000):catB a b=V (a++b):=by
 unfold catB;rw[if_pos];show((a.size+b.size:Nat):Int)≤9223372036854775807;omega
theorem qtH {x:IntK .u8}:(strOf [x]).size=1:=rfl
theorem qkD {k:Int}(hk:k≤1000000000001000):∃ s,Ev (fun n=>qeH n k) s:=by
 have main:∀ m:Nat,∀ i1:Int,∀ z:ByteArray,0≤i1→i1≤9000000000000000000→i1<10 ^ m→z.size+m≤1000→∃ o:Int×ByteArray,o.2.size≤1000∧Ev (fun n=>qgc n i1 z) o:=by
  intro m
  induction m with
  | zero=>
   intro i1 z h0 hb h1 hz;have:i1=0:=by have:(10:Int) ^ 0=1:=rfl;omega
   subst this;exact⟨(0,z),by show z.size≤1000;omega,Ev.succ (Ev.ff (by decide) .done)⟩
  | succ m ih=>
   intro i1 z h0 hb h1 hz;by_cases hp:i1=0
   ·subst hp;exact⟨(0,z),by show z.size≤1000;omega,Ev.succ (Ev.ff (by decide) .done)⟩
   ·have hd:i1.tdiv 10=i1 / 10:=jE h0;have h10:(10:Int) ^ (m+1)=10 ^ m*10:=Int.pow_succ _ _;have hc:catB (strOf ([(⟨IntKind.wrap .u8 (W64 (48+(i1.tmod 10)))⟩:IntK .u8)])) z=V (strOf ([(⟨IntKind.wrap .u8 (W64 (48+(i1.tmod 10)))⟩:IntK .u8)])++z):=qw5 (by rw[qtH];omega);obtain⟨o,ho,e⟩:=ih (i1 / 10) (strOf ([(⟨IntKind.wrap .u8 (W64 (48+(i1.tmod 10)))⟩:IntK .u8)])++z) (by omega) (by omega) (by omega) (by rw[ByteArray.size_append,qtH];omega);refine⟨o,ho,Ev.succ ?_⟩;simp only[qgc,show decide (i1 > 0)=true by simp;omega,cond_true,hc,jd,hd,qF (show -9223372036854775808≤i1 / 10 by omega) (by omega)];exact e
 unfold qeH;by_cases h0:k≤0
 ·exact⟨_,Ev.tt (by simpa using h0) .done⟩
 ·obtain⟨⟨o1,o2⟩,ho,e⟩:=main 16 k ⟨#[]⟩ (by omega) (by omega) (by have:(10:Int) ^ 16=10000000000000000:=rfl;omega) (by decide);refine⟨(⟨#[109]⟩:ByteArray)++o2,Ev.ff (by simp;omega) (Ev.bind e ?_)⟩;have ho:o2.size≤1000:=ho;show Ev (fun n=>(catB ⟨#[109]⟩ o2).bind fun z3=>V z3) _;rw[qw5 (show(⟨#[109]⟩:ByteArray).size+o2.size≤1000000 by have:(⟨#[109]⟩:ByteArray).size=1:=rfl;omega)];exact .done
theorem qvR {α:Type}{a:List α}:(a.map (fun _=>0)).sum=0:=by induction a<;>simp_all
theorem qpk {a:(List qx)}{k:Int}(h0:0≤k)(h1:k+16*(qdr a:Int)≤1000000000000)(hw:qdr a≤1048576):Mk (fun n=>qiS n a k) k (qdr a):=by
 refine qhf (a:=a) (wt:=(fun x:qx=>qex x)) h0 h1 (Lf:=qdv a) (fun n t k=>by simp only[qdv,ql (je _),cond_false]) (fun x hx k h0 h1=>?_) (by simp only[qdr] at hw;omega) (fun _=>rfl);have hs:=qcz (wt:=(fun x:qx=>qex x)) hx;have ew:qex x=qaQ x.Bi+qaQ x.Bb+qaQ x.Ba:=rfl;have hw:a.length+(a.map (fun x:qx=>qex x)).sum≤1048576:=hw;simp only[ew] at hs h1 ⊢;obtain⟨k1,x1,q1,l1,u1⟩:=qfT (a:=x.Bi) (k:=k) (by omega) (by omega) (by omega);obtain⟨k2,x2,q2,l2,u2⟩:=qfT (a:=x.Bb) (k:=k1) (by omega) (by omega) (by omega);obtain⟨k3,x3,q3,l3,u3⟩:=qfT (a:=x.Ba) (k:=k2) (by omega) (by omega) (by omega);refine⟨⟨x1,x2,x3⟩,k3,by omega,by omega,fun t j hb hj ht hx X hX=>?_⟩;simp only[qdv,qk hj,cond_true,qc9 hb]
 try simp only[qan hx,jd]
 refine Ev.bind q1 ?_;refine Ev.bind q2 ?_;refine Ev.bind q3 ?_;exact hX
theorem qvE {a:(List qL)}{k:Int}(h0:0≤k)(h1:k+16*(qit a:Int)≤1000000000000)(hw:qit a≤1048576):Mk (fun n=>qmN n a k) k (qit a):=by
 refine qhf (a:=a) (wt:=(fun x:qL=>qjV x)) h0 h1 (Lf:=qe2 a) (fun n t k=>by simp only[qe2,ql (je _),cond_false]) (fun x hx k h0 h1=>?_) (by simp only[qit] at hw;omega) (fun _=>rfl);have hs:=qcz (wt:=(fun x:qL=>qjV x)) hx;have ew:qjV x=qdr x.Bj+qdr x.Aq:=rfl;have hw:a.length+(a.map (fun x:qL=>qjV x)).sum≤1048576:=hw;simp only[ew] at hs h1 ⊢;have e1:W64 (k+1)=k+1:=qF (by omega) (by omega);have e2:W64 (k+1+1)=k+1+1:=qF (by omega) (by omega);have e3:W64 (k+1+1+1)=k+1+1+1:=qF (by omega) (by omega);have e4:W64 (k+1+1+1+1)=k+1+1+1+1:=qF (by omega) (by omega);obtain⟨k1,x1,q1,l1,u1⟩:=qpk (a:=x.Bj) (k:=k+1+1+1+1) (by omega) (by omega) (by omega);obtain⟨k2,x2,q2,l2,u2⟩:=qpk (a:=x.Aq) (k:=k1) (by omega) (by omega) (by omega);refine⟨⟨k,k+1,k+1+1,k+1+1+1,x1,x2⟩,k2,by omega,by omega,fun t j hb hj ht hx X hX=>?_⟩;simp only[qe2,qk hj,cond_true,qc9 hb]
 try simp only[qan hx,jd,e1,e2,e3,e4]
 refine Ev.bind q1 ?_;refine Ev.bind q2 ?_;exact hX
theorem qu9 {a:(List qat)}{k:Int}(h0:0≤k)(h1:k+16*(qiw a:Int)≤1000000000000)(hw:qiw a≤1048576):Mk (fun n=>qmQ n a k) k (qiw a):=by
 refine qhf (a:=a) (wt:=(fun x:qat=>ql3 x)) h0 h1 (Lf:=qeU a) (fun n t k=>by simp only[qeU,ql (je _),cond_false]) (fun x hx k h0 h1=>?_) (by simp only[qiw] at hw;omega) (fun _=>rfl);have hs:=qcz (wt:=(fun x:qat=>ql3 x)) hx;have ew:ql3 x=x.Az.size:=rfl;have hw:a.length+(a.map (fun x:qat=>ql3 x)).sum≤1048576:=hw;simp only[ew] at hs h1 ⊢;obtain⟨s1,es1⟩:=qkD (k:=k) (by omega);have e1:W64 (k+1)=k+1:=qF (by omega) (by omega);have e2:W64 (k+1+1)=k+1+1:=qF (by omega) (by omega);have e3:W64 (k+1+1+1)=k+1+1+1:=qF (by omega) (by omega);have e4:W64 (k+1+1+1+1)=k+1+1+1+1:=qF (by omega) (by omega);refine⟨⟨s1,k+1,k+1+1,((k+1+1+1).tmod 3)==0⟩,k+1+1+1+1,by omega,by omega,fun t j hb hj ht hx X hX=>?_⟩;simp only[qeU,qk hj,cond_true,qc9 hb]
 try simp only[qan hx,qoy ht,jd,qm9]
 refine Ev.bind es1 ?_
 try simp only[e1,e2,e3,e4]
 exact hX
theorem quw {a:(List qA)}{k:Int}(h0:0≤k)(h1:k+16*(qgF a:Int)≤1000000000000)(hw:qgF a≤1048576):Mk (fun n=>ql0 n a k) k (qgF a):=by
 refine qhf (a:=a) (wt:=(fun x:qA=>qgi x)) h0 h1 (Lf:=qd9 a) (fun n t k=>by simp only[qd9,ql (je _),cond_false]) (fun x hx k h0 h1=>?_) (by simp only[qgF] at hw;omega) (fun _=>rfl);have hs:=qcz (wt:=(fun x:qA=>qgi x)) hx;have ew:qgi x=x.Az.size+qiw x.Av+qit x.As+qaQ x.Bk:=rfl;have hw:a.length+(a.map (fun x:qA=>qgi x)).sum≤1048576:=hw;simp only[ew] at hs h1 ⊢;obtain⟨s1,es1⟩:=qkD (k:=k) (by omega);have e1:W64 (k+1)=k+1:=qF (by omega) (by omega);have e2:W64 (k+1+1)=k+1+1:=qF (by omega) (by omega);obtain⟨k2,x2,q2,l2,u2⟩:=qu9 (a:=x.Av) (k:=k+1+1) (by omega) (by omega) (by omega);obtain⟨k3,x3,q3,l3,u3⟩:=qvE (a:=x.As) (k:=k2) (by omega) (by omega) (by omega);obtain⟨k4,x4,q4,l4,u4⟩:=qfT (a:=x.Bk) (k:=k3) (by omega) (by omega) (by omega);have e3:W64 (k4+1)=k4+1:=qF (by omega) (by omega);have e4:W64 (k4+1+1)=k4+1+1:=qF (by omega) (by omega);refine⟨⟨s1,k+1,x2,x3,x4,k4,k4+1⟩,k4+1+1,by omega,by omega,fun t j hb hj ht hx X hX=>?_⟩;simp only[qd9,qk hj,cond_true,qc9 hb]
 try simp only[qan hx,jd]
 refine Ev.bind es1 ?_
 try simp only[e1,e2]
 refine Ev.bind q2 ?_;refine Ev.bind q3 ?_;refine Ev.bind q4 ?_
 try simp only[e3,e4]
 exact hX
theorem qsL {a:qt}{k:Int}(h0:0≤k)(h1:k+16*(qeX a:Int)≤1000000000000)(hw:qeX a≤1048576):Mk (fun n=>qig n a k) k (qeX a):=by
 simp only[qeX] at h1 hw ⊢;obtain⟨k1,x1,q1,l1,u1⟩:=quw (a:=a.Ap) (k:=k) (by omega) (by omega) (by omega);refine⟨k1,x1,?_,by omega,by omega⟩;unfold qig;exact Ev.bind q1 (.done)
theorem qqq {a:(List qm)}{k:Int}(h0:0≤k)(h1:k+16*(qb4 a:Int)≤1000000000000)(hw:qb4 a≤1048576):Mk (fun n=>qi5 n a k) k (qb4 a):=by
 refine qhf (a:=a) (wt:=(fun x:qm=>qbP x)) h0 h1 (Lf:=qco a) (fun n t k=>by simp only[qco,ql (je _),cond_false]) (fun x hx k h0 h1=>?_) (by simp only[qb4] at hw;omega) (fun _=>rfl);have hs:=qcz (wt:=(fun x:qm=>qbP x)) hx;have ew:qbP x=x.Az.size+qaQ x.Ai:=rfl;have hw:a.length+(a.map (fun x:qm=>qbP x)).sum≤1048576:=hw;simp only[ew] at hs h1 ⊢;obtain⟨s1,es1⟩:=qkD (k:=k) (by omega);have e1:W64 (k+1)=k+1:=qF (by omega) (by omega);have e2:W64 (k+1+1)=k+1+1:=qF (by omega) (by omega);obtain⟨k2,x2,q2,l2,u2⟩:=qfT (a:=x.Ai) (k:=k+1+1) (by omega) (by omega) (by omega);refine⟨⟨s1,k+1,x2⟩,k2,by omega,by omega,fun t j hb hj ht hx X hX=>?_⟩;simp only[qco,qk hj,cond_true,qc9 hb]
 try simp only[qan hx,jd]
 refine Ev.bind es1 ?_
 try simp only[e1,e2]
 refine Ev.bind q2 ?_;exact hX
theorem qsW {a:(List ByteArray)}{k:Int}(h0:0≤k)(h1:k+16*(qeL a:Int)≤1000000000000)(hw:qeL a≤1048576):Mk (fun n=>qj4 n a k) k (qeL a):=by
 refine qhf (a:=a) (wt:=(fun x:ByteArray=>x.size)) h0 h1 (Lf:=qda a) (fun n t k=>by simp only[qda,ql (je _),cond_false]) (fun x hx k h0 h1=>?_) (by simp only[qeL] at hw;omega) (fun _=>rfl);obtain⟨s,es⟩:=qkD (k:=k) (by omega);have e1:W64 (k+1)=k+1:=qF (by omega) (by omega);refine⟨s,k+1,by omega,by omega,fun t j hb hj ht hx X hX=>?_⟩;simp only[qda,qk hj,cond_true,e1,qc9 hb];refine Ev.bind es ?_
 try simp only[qan hx,jd]
 exact hX
theorem quj {a:(List qY)}{k:Int}(h0:0≤k)(h1:k+16*(qgA a:Int)≤1000000000000)(hw:qgA a≤1048576):Mk (fun n=>qlD n a k) k (qgA a):=by
 refine qhf (a:=a) (wt:=(fun x:qY=>qi0 x)) h0 h1 (Lf:=qeb a) (fun n t k=>by simp only[qeb,ql (je _),cond_false]) (fun x hx k h0 h1=>?_) (by simp only[qgA] at hw;omega) (fun _=>rfl);have hs:=qcz (wt:=(fun x:qY=>qi0 x)) hx;have ew:qi0 x=x.Az.size:=rfl;have hw:a.length+(a.map (fun x:qY=>qi0 x)).sum≤1048576:=hw;simp only[ew] at hs h1 ⊢;obtain⟨s1,es1⟩:=qkD (k:=k) (by omega);have e1:W64 (k+1)=k+1:=qF (by omega) (by omega);have e2:W64 (k+1+1)=k+1+1:=qF (by omega) (by omega);have e3:W64 (k+1+1+1)=k+1+1+1:=qF (by omega) (by omega);refine⟨⟨s1,k+1,k+1+1⟩,k+1+1+1,by omega,by omega,fun t j hb hj ht hx X hX=>?_⟩;simp only[qeb,qk hj,cond_true,qc9 hb]
 try simp only[qan hx,qoy ht,jd,qm9]
 refine Ev.bind es1 ?_
 try simp only[e1,e2,e3]
 exact hX
theorem qtd {a:qg}{k:Int}(h0:0≤k)(h1:k+16*(qfd a:Int)≤1000000000000)(hw:qfd a≤1048576):Mk (fun n=>qiV n a k) k (qfd a):=by
 simp only[qfd] at h1 hw ⊢;obtain⟨k1,x1,q1,l1,u1⟩:=qqq (a:=a.Ab) (k:=k) (by omega) (by omega) (by omega);obtain⟨k2,x2,q2,l2,u2⟩:=qsW (a:=a.Ai) (k:=k1) (by omega) (by omega) (by omega);obtain⟨k3,x3,q3,l3,u3⟩:=quj (a:=a.Ah) (k:=k2) (by omega) (by omega) (by omega);refine⟨k3,(x1,x2,x3),?_,by omega,by omega⟩;unfold qiV;exact Ev.bind q1 (Ev.bind q2 (Ev.bind q3 (.done)))
theorem qup {a:(List qH)}{k:Int}(h0:0≤k)(h1:k+16*(qgJ a:Int)≤1000000000000)(hw:qgJ a≤1048576):Mk (fun n=>qlz n a k) k (qgJ a):=by
 refine qhf (a:=a) (wt:=(fun x:qH=>qgr x)) h0 h1 (Lf:=qd6 a) (fun n t k=>by simp only[qd6,ql (je _),cond_false]) (fun x hx k h0 h1=>?_) (by simp only[qgJ] at hw;omega) (fun _=>rfl);have hs:=qcz (wt:=(fun x:qH=>qgr x)) hx;have ew:qgr x=qaQ x.Ak+qaQ x.Bt+qaQ x.Bq+qaQ x.Bg:=rfl;have hw:a.length+(a.map (fun x:qH=>qgr x)).sum≤1048576:=hw;simp only[ew] at hs h1 ⊢;obtain⟨k1,x1,q1,l1,u1⟩:=qfT (a:=x.Ak) (k:=k) (by omega) (by omega) (by omega);obtain⟨k2,x2,q2,l2,u2⟩:=qfT (a:=x.Bt) (k:=k1) (by omega) (by omega) (by omega);obtain⟨k3,x3,q3,l3,u3⟩:=qfT (a:=x.Bq) (k:=k2) (by omega) (by omega) (by omega);obtain⟨k4,x4,q4,l4,u4⟩:=qfT (a:=x.Bg) (k:=k3) (by omega) (by omega) (by omega);refine⟨⟨x1,x2,x3,x4⟩,k4,by omega,by omega,fun t j hb hj ht hx X hX=>?_⟩;simp only[qd6,qk hj,cond_true,qc9 hb]
 try simp only[qan hx,jd]
 refine Ev.bind q1 ?_;refine Ev.bind q2 ?_;refine Ev.bind q3 ?_;refine Ev.bind q4 ?_;exact hX
theorem qug {a:qe}{k:Int}(h0:0≤k)(h1:k+16*(qgE a:Int)≤1000000000000)(hw:qgE a≤1048576):Mk (fun n=>qjo n a k) k (qgE a):=by
 simp only[qgE] at h1 hw ⊢;obtain⟨k1,x1,q1,l1,u1⟩:=qsL (a:=a.Ar) (k:=k) (by omega) (by omega) (by omega);obtain⟨k2,⟨x2_0,x2_1,x2_2⟩,q2,l2,u2⟩:=qtd (a:=a.Aa) (k:=k1) (by omega) (by omega) (by omega);obtain⟨k3,x3,q3,l3,u3⟩:=qup (a:=a.Af) (k:=k2) (by omega) (by omega) (by omega);refine⟨k3,(x1,x2_0,x2_1,x2_2,x3),?_,by omega,by omega⟩;unfold qjo;exact Ev.bind q1 (Ev.bind q2 (Ev.bind q3 (.done)))
theorem qrd {a:(List qh)}{k:Int}(h0:0≤k)(h1:k+16*(qcD a:Int)≤1000000000000)(hw:qcD a≤1048576):Mk (fun n=>qiW n a k) k (qcD a):=by
 rw[show qcD a=a.length+(a.map (fun _:qh=>0)).sum by unfold qcD;rw[qvR,Jh]] at *;refine qhf (a:=a) (wt:=(fun _:qh=>0)) h0 h1 (Lf:=qcn a) (fun n t k=>by simp only[qcn,ql (je _),cond_false]) (fun x hx k h0 h1=>?_) (by omega) (fun _=>rfl);have hs:=qcz (wt:=(fun _:qh=>0)) hx;have e1:W64 (k+1)=k+1:=qF (by omega) (by omega);have e2:W64 (k+1+1)=k+1+1:=qF (by omega) (by omega);have e3:W64 (k+1+1+1)=k+1+1+1:=qF (by omega) (by omega);refine⟨⟨k,k+1,k+1+1⟩,k+1+1+1,by omega,by omega,fun t j hb hj ht hx X hX=>?_⟩;simp only[qcn,qk hj,cond_true,qc9 hb]
 try simp only[qan hx,qoy ht,jd,qm9,e1,e2,e3]
 exact hX
theorem qr9 {a:(List qf)}{k:Int}(h0:0≤k)(h1:k+16*(qeP a:Int)≤1000000000000)(hw:qeP a≤1048576):Mk (fun n=>qj0 n a k) k (qeP a):=by
 rw[show qeP a=a.length+(a.map (fun _:qf=>0)).sum by unfold qeP;rw[qvR,Jh]] at *;refine qhf (a:=a) (wt:=(fun _:qf=>0)) h0 h1 (Lf:=qdb a) (fun n t k=>by simp only[qdb,ql (je _),cond_false]) (fun x hx k h0 h1=>?_) (by omega) (fun _=>rfl);have hs:=qcz (wt:=(fun _:qf=>0)) hx;have e1:W64 (k+1)=k+1:=qF (by omega) (by omega);have e2:W64 (k+1+1)=k+1+1:=qF (by omega) (by omega);have e3:W64 (k+1+1+1)=k+1+1+1:=qF (by omega) (by omega);have e4:W64 (k+1+1+1+1)=k+1+1+1+1:=qF (by omega) (by omega);have e5:W64 (k+1+1+1+1+1)=k+1+1+1+1+1:=qF (by omega) (by omega);refine⟨⟨k,⟨k+1,k+1+1⟩,⟨k+1+1+1,k+1+1+1+1⟩⟩,k+1+1+1+1+1,by omega,by omega,fun t j hb hj ht hx X hX=>?_⟩;simp only[qdb,qk hj,cond_true,qc9 hb]
 try simp only[qan hx,qoy ht,jd,qm9,e1,e2,e3,e4,e5]
 exact hX
end Go.Fw


namespace Go.Fw
open Go
set_option maxRecDepth 100000
def mkd {α:Type}(v:Int→α)(c:Nat)(k:Int)(m:Nat):List α:=(List.range m).map fun(i:Nat)=>v (k+((c*i:Nat):Int))
theorem qr8 {α:Type}{v:Int→α}{c:Nat}{k:Int}{m:Nat}:(mkd v c k m).length=m:=by simp[mkd]
theorem qyO {α:Type}{v:Int→α}{c:Nat}{k:Int}{m j:Nat}(h:j<m):idx (mkd v c k m) (j:Int)=V (v (k+((c*j:Nat):Int))):=by
 rw[qga (by rw[qr8];exact h)];simp[mkd]
theorem mkdL {α:Type}(c:Nat)(v:Int→α){a:List α}{Lf:Nat→List α→Int→Int→Option (List α×Int×Int)}{k:Int}(h0:0≤k)(h1:k≤1000000000000)(hl:a.length≤1048576)(hc:c≤16)
  (hend:∀ n t i,Lf (n+1) t i (a.length:Int)=V (t,i,(a.length:Int)))
  (hstep:∀ n (t:List α) (i:Int) (j:Nat),j<a.length→j<t.length→0≤i→i≤2000000000000→Lf (n+1) t i (j:Int)=Lf n (setS t (j:Int) (v i)) (i+(c:Int)) ((j+1:Nat):Int)) :
  Ev (fun n=>Lf n a k 0) (mkd v c k a.length,k+((c*a.length:Nat):Int),(a.length:Int)):=by
 have:=loopF (τ:=List α×Int) (Lf:=fun n t j=>Lf n t.1 t.2 j) (S:=fun j=>(mkd v c k j++a.drop j,k+((c*j:Nat):Int))) (len:=a.length) (fin:=(mkd v c k a.length,k+((c*a.length:Nat):Int),(a.length:Int))) (fun n=>by
   simp only[hend,List.drop_length,jU])
  (fun j hj X hX=>by
   have hp:(mkd v c k j).length=j:=qr8;have hlt:j<(mkd v c k j++a.drop j).length:=by rw[jh,hp,List.length_drop];omega
   have hm:mkd v c k (j+1)=mkd v c k j++[v (k+((c*j:Nat):Int))]:=by unfold mkd;rw[Jd,jN];rfl
   have hcj:c*j≤16*1048576:=Nat.mul_le_mul hc (by omega);simp only[hstep _ _ _ j hj hlt (show 0≤k+((c*j:Nat):Int) by omega) (by omega),quY hp hj];rw[←hm];have e:k+((c*j:Nat):Int)+(c:Int)=k+((c*(j+1):Nat):Int):=by rw[Nat.mul_succ];omega
   rw[e];exact hX)
 simpa [mkd] using this
theorem hedL {m c:Nat}{k:Int}{Lh:Nat→Int→Int→Option (Flow Int (Int×Int))}(hend:∀ n i,Lh (n+1) i (m:Int)=V (.nxt (i,(m:Int))))
  (hstep:∀ n (j:Nat),j<m→Lh (n+1) (k+((c*j:Nat):Int)) (j:Int)=Lh n (k+((c*j:Nat):Int)+(c:Int)) ((j+1:Nat):Int)):Ev (fun n=>Lh n k 0) (.nxt (k+((c*m:Nat):Int),(m:Int))):=by
 have:=loopF (Lf:=Lh) (S:=fun j=>k+((c*j:Nat):Int)) (len:=m) (fin:=.nxt (k+((c*m:Nat):Int),(m:Int))) (fun n=>hend n _)
  (fun j hj X hX=>by
   simp only[hstep _ j hj];have e:k+((c*j:Nat):Int)+(c:Int)=k+((c*(j+1):Nat):Int):=by rw[Nat.mul_succ];omega
   rw[e];exact hX)
 simpa using this
theorem qyp {a:List Bool}{k:Int}(h0:0≤k)(h1:k≤1000000000000)(hl:a.length≤1048576):∃ y,Ev (fun n=>qjx n a k) (k+((1*a.length:Nat):Int),y)∧Ev (fun n=>qjO n y k) (k+((1*a.length:Nat):Int)):=by
 refine⟨mkd (fun i=>(i.tmod 3)==0) 1 k a.length,?_,?_⟩
 ·have hL:=mkdL (Lf:=qd8 a) 1 (fun i=>(i.tmod 3)==0) h0 h1 hl (by decide)
   (fun n t i=>by simp only[qd8,ql (je _),cond_false])
   (fun n t i j hj ht i0 i1=>by
    have e:=wS j;have q1:W64 (i+1)=i+1:=qF (by omega) (by omega);simp only[qd8,qk hj,cond_true,qga ht,jd,e,q1]
    first|rfl|skip)
  unfold qjx;exact Ev.bind hL .done
 ·have hlen:(mkd (fun i=>(i.tmod 3)==0) 1 k a.length).length=a.length:=qr8;have hL:=hedL (Lh:=qec (mkd (fun i=>(i.tmod 3)==0) 1 k a.length)) (m:=a.length) (c:=1) (k:=k)
   (fun n i=>by simp only[qec,hlen,ql (je _),cond_false])
   (fun n j hj=>by
    have e:=wS j;have i0:0≤k+((1*j:Nat):Int):=by omega
    have i1:k+((1*j:Nat):Int)≤2000000000000:=by omega
    have e0:=qyO (v:=(fun i=>(i.tmod 3)==0)) (c:=1) (k:=k) (m:=a.length) hj;generalize k+((1*j:Nat):Int)=i at i0 i1 e0 ⊢;have q1:W64 (i+1)=i+1:=qF (by omega) (by omega);simp only[qec,hlen,qk hj,cond_true,e0,jd,bne_self_eq_false,BEq.rfl,jV,cond_false,e,q1]
    first|rfl|skip)
  unfold qjO;exact Ev.bind hL .done
theorem qvQ {a:List qc}{k:Int}(h0:0≤k)(h1:k≤1000000000000)(hl:a.length≤1048576):∃ y,Ev (fun n=>qhJ n a k) (k+((2*a.length:Nat):Int),y)∧Ev (fun n=>qhW n y k) (k+((2*a.length:Nat):Int)):=by
 refine⟨mkd (fun i=>(⟨i,i+1⟩:qc)) 2 k a.length,?_,?_⟩
 ·have hL:=mkdL (Lf:=qd3 a) 2 (fun i=>(⟨i,i+1⟩:qc)) h0 h1 hl (by decide)
   (fun n t i=>by simp only[qd3,ql (je _),cond_false])
   (fun n t i j hj ht i0 i1=>by
    have e:=wS j;have q1:W64 (i+1)=i+1:=qF (by omega) (by omega);have q2:W64 (i+2)=i+2:=qF (by omega) (by omega);have r1:i+1+1=i+2:=by omega
    simp only[qd3,qk hj,cond_true,qga ht,jd,qoy ht,qm9,e,q1,q2,r1]
    first|rfl|skip)
  unfold qhJ;exact Ev.bind hL .done
 ·have hlen:(mkd (fun i=>(⟨i,i+1⟩:qc)) 2 k a.length).length=a.length:=qr8;have hL:=hedL (Lh:=qdY (mkd (fun i=>(⟨i,i+1⟩:qc)) 2 k a.length)) (m:=a.length) (c:=2) (k:=k)
   (fun n i=>by simp only[qdY,hlen,ql (je _),cond_false])
   (fun n j hj=>by
    have e:=wS j;have i0:0≤k+((2*j:Nat):Int):=by omega
    have i1:k+((2*j:Nat):Int)≤2000000000000:=by omega
    have e0:=qyO (v:=(fun i=>(⟨i,i+1⟩:qc))) (c:=2) (k:=k) (m:=a.length) hj;generalize k+((2*j:Nat):Int)=i at i0 i1 e0 ⊢;have q1:W64 (i+1)=i+1:=qF (by omega) (by omega);have q2:W64 (i+2)=i+2:=qF (by omega) (by omega);have r1:i+1+1=i+2:=by omega
    simp only[qdY,hlen,qk hj,cond_true,e0,jd,bne_self_eq_false,BEq.rfl,jV,cond_false,e,q1,q2,r1]
    first|rfl|skip)
  unfold qhW;exact Ev.bind hL .done
theorem qxR {a:qq}{k:Int}(h0:0≤k)(h1:k≤900000000000)(hw:ql6 a≤1048576):∃ z y,Ev (fun n=>qiU n a k) (z,y)∧Ev (fun n=>qg6 n (⟨y.1,y.2.1,y.2.2⟩:qq) k) z∧(k≤z∧z≤k+16777216):=by
 simp only[ql6,qqp,qnJ,qnJ] at hw;obtain⟨y0,m0,e0⟩:=qyp (a:=a.Aj) (k:=k) (by omega) (by omega) (by omega);obtain⟨y1,m1,e1⟩:=qvQ (a:=a.Ac) (k:=k+((1*a.Aj.length:Nat):Int)) (by omega) (by omega) (by omega);obtain⟨y2,m2,e2⟩:=qvQ (a:=a.Aq) (k:=k+((1*a.Aj.length:Nat):Int)+((2*a.Ac.length:Nat):Int)) (by omega) (by omega) (by omega);refine⟨k+((1*a.Aj.length:Nat):Int)+((2*a.Ac.length:Nat):Int)+((2*a.Aq.length:Nat):Int),(y0,y1,y2),?_,?_,by omega,by omega⟩
 ·unfold qiU;exact Ev.bind m0 (Ev.bind m1 (Ev.bind m2 (.done)))
 ·unfold qg6;exact Ev.bind e0 (Ev.ff (by simp;omega) (Ev.bind e1 (Ev.ff (by simp;omega) (Ev.bind e2 (Ev.ff (by simp;omega) (.done))))))
end Go.Fw


namespace Go.Fw
open Go
set_option maxRecDepth 100000
theorem qpP {b:qe}{c:qz}{br:List Int}{xs:List qf}{ks:List qh}(hb:qkx b)(hc:okS c.Az)(hbl:br.length≤1048576)(hxl:xs.length≤1048576)(hk:ks.length≤1048576) :
  ∃ R:qq×(List Int)×Int×Int,Ev (fun n=>qfa n b c br xs ks) R∧Ev (fun n=>qdH n b c br xs ks) R∧ql6 R.1≤1048576∧qaQ R.2.1≤1048576:=by
 obtain⟨R,⟨⟨h1,h2,h3⟩,h4⟩,hs,hi⟩:=qqX hb hc hbl hxl hk;exact⟨R,hs,hi,by unfold ql6 qqp qnJ;omega,by unfold qaQ;omega⟩
theorem qmR {b:qe}{c:qz}{br:(List Int)}{xs:(List qf)}{ks:(List qh)}(h0:qo2 b)(h1:qnI c)(h2:(rngL rngI) br)(h3:(rngL qka) xs)(h4:(rngL qip) ks):Ev (fun n=>qfo n b c br xs ks) true:=by
 unfold qfo;refine Ev.bif (fun _=>.done) (fun hl=>?_);have hl2:br.length≤1048576:=by have:=of_decide_eq_false hl;omega
 obtain⟨r1,e1,q1⟩:=qzq (a:=b) (left:=1048576) h0 (by omega) (by omega);refine Ev.bind e1 ?_;rcases q1 with q1|⟨p1,q1⟩
 ·exact Ev.tt (by simpa using q1) .done
 refine Ev.ff (by simp;omega) ?_;obtain⟨r2,e2,q2⟩:=qxW (a:=c) (left:=r1) h1 p1 (by omega);refine Ev.bind e2 ?_;rcases q2 with q2|⟨p2,q2⟩
 ·exact Ev.tt (by simpa using q2) .done
 refine Ev.ff (by simp;omega) ?_;obtain⟨r3,e3,q3⟩:=qwS (a:=xs) (left:=r2) h3 p2 (by omega);refine Ev.bind e3 ?_;rcases q3 with q3|⟨p3,q3⟩
 ·exact Ev.tt (by simpa using q3) .done
 refine Ev.ff (by simp;omega) ?_;obtain⟨r4,e4,q4⟩:=quE (a:=ks) (left:=r3) h4 p3 (by omega);refine Ev.bind e4 ?_;rcases q4 with q4|⟨p4,q4⟩
 ·exact Ev.tt (by simpa using q4) .done
 refine Ev.ff (by simp;omega) ?_;have w0:qgE b≤1048576:=by omega
 have k0:=qwf h0 w0;have w1:qm7 c≤1048576:=by omega
 have k1:=qvb h1 w1;have w2:qaQ br≤1048576:=by unfold qaQ;omega
 have k2:=qeI h2 w2;have w3:qeP xs≤1048576:=by omega
 have k3:=quI h3 w3;have w4:qcD ks≤1048576:=by omega
 have k4:=qsM h4 w4;obtain⟨⟨R0,R1,R2,R3⟩,hs,hi,v0,v1⟩:=qpP (b:=b) (c:=c) (br:=br) (xs:=xs) (ks:=ks) k0 k1.Az k2.len k3.len k4.len;have v0:ql6 R0≤1048576:=v0;have v1:qaQ R1≤1048576:=v1;refine Ev.bind (qqf w0) ?_;refine Ev.bind (qqt w1) ?_;refine Ev.bind (qeO w2) ?_;refine Ev.bind (qnx w3) ?_;refine Ev.bind (qlj w4) ?_;refine Ev.bind hs ?_;refine Ev.bind (qqf w0) ?_;refine Ev.bind (qeO w2) ?_;refine Ev.bind (qnx w3) ?_;refine Ev.bind (qlj w4) ?_;refine Ev.bind (qqt w1) ?_;refine Ev.bind hi ?_;refine Ev.bind (b:=false) (Ev.bind (qqM v0) (Ev.ff Z (Ev.bind (qeK v1) (Ev.ff Z (Ev.ff (by simp) (Ev.now (by simp))))))) (Ev.ff Z ?_);refine Ev.bind (qqf w0) ?_;refine Ev.bind (qyL w0) (Ev.ff Z ?_);refine Ev.bind (qeO w2) ?_;refine Ev.bind (qeK w2) (Ev.ff Z ?_);refine Ev.bind (qnx w3) ?_;refine Ev.bind (qv3 w3) (Ev.ff Z ?_);refine Ev.bind (qlj w4) ?_;refine Ev.bind (qt9 w4) (Ev.ff Z ?_);obtain⟨m1,⟨x1_0,x1_1,x1_2,x1_3,x1_4⟩,mk1,ml1,mu1⟩:=qug (a:=b) (k:=1) (by omega) (by omega) w0;refine Ev.bind mk1 ?_;obtain⟨m2,x2_0,mk2,ml2,mu2⟩:=qfT (a:=br) (k:=m1) (by omega) (by omega) w2;refine Ev.bind mk2 ?_;obtain⟨m3,x3_0,mk3,ml3,mu3⟩:=qr9 (a:=xs) (k:=m2) (by omega) (by omega) w3;refine Ev.bind mk3 ?_;obtain⟨m4,x4_0,mk4,ml4,mu4⟩:=qrd (a:=ks) (k:=m3) (by omega) (by omega) w4;refine Ev.bind mk4 ?_;refine Ev.bind (b:=false) (Ev.ff (by simp;omega) (Ev.bind (qqM v0) (Ev.ff Z (Ev.bind (qeK v1) (Ev.ff Z (Ev.ff (by simp) (Ev.now (by simp)))))))) (Ev.ff Z ?_);obtain⟨z1,⟨y1_0,y1_1,y1_2⟩,hm1,hh1,zl1⟩:=qxR (a:=R0) (k:=1) (by omega) (by omega) v0;refine Ev.bind hm1 ?_;have hh2:=qzL (k:=z1) (m:=R1.length) (by omega) (by omega) v1;refine Ev.bind (qsa (by omega) (by omega) v1) ?_;refine Ev.bind hh1 (Ev.ff (by simp;omega) ?_);refine Ev.bind hh2 (Ev.ff (by simp;omega) (Ev.ff qa7 ?_));refine Ev.bind (qqf w0) ?_;refine Ev.bind (qqt w1) ?_;refine Ev.bind (qeO w2) ?_;refine Ev.bind (qnx w3) ?_;refine Ev.bind (qlj w4) ?_;refine Ev.bind hi ?_;refine Ev.bind (b:=false) (Ev.bind (qqM v0) (Ev.ff Z (Ev.bind (qeK v1) (Ev.ff Z (Ev.ff (by simp) (Ev.now (by simp))))))) (Ev.ff Z ?_);refine Ev.bind hh1 (Ev.ff (by simp;omega) ?_);refine Ev.bind hh2 (Ev.ff (by simp;omega) (Ev.ff qa7 ?_));exact .done
end Go.Fw
