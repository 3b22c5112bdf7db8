/- Plain laws: the delay and the slew of a link. -/
import Derived.Test.YtflinekphmgbeaaGreatDoorW8
import Derived.Test.YtflinekphmgbeaaGreatDoorB9
import Derived.Test.YtflinekphmgbeaaGreatDoorFw32
open Option renaming bind_some → ja
open Nat renaming le_refl → jb, mul_le_mul_right → jm, le_of_ble_eq_true → jq, lt_of_lt_of_le → js, succ_mul → jF, zero_add → jU
open Bool renaming and_eq_true → jc, eq_iff_iff → jh, true_and → jw, not_eq_true' → jE, not_true → jW
open Go.Result renaming andThen_ok → jd
open List renaming length_append → je, getElem?_eq_getElem → jf, mem_cons_of_mem → jk, length_singleton → jn, getElem_mem → jo, append_assoc → jp, getElem?_append_left → jr, mem_cons_self → jt, take_succ_eq_append_getElem → ju, length_map → jv, getElem?_take → jx, getElem?_append_right → jy, getD_eq_getElem?_getD → jz, getElem?_toArray → jA, take_length → jB, eq_nil_of_length_eq_zero → jC, drop_eq_getElem_cons → jD, not_mem_nil → jH, length_replicate → jI, size_toArray → jJ, all_eq_true → jM, length_take → jN, getElem_of_mem → jO, map_append → jP, mem_cons → jR, ext_getElem → jT
open Go.Sem renaming run_bind → jg, run_pure → ji
open Int renaming toNat_natCast → jj, tdiv_eq_ediv_of_nonneg → jG, mul_nonneg → jL, mul_assoc → jQ, mul_le_mul → jS, le_refl → jV
open Array renaming getElem?_append_left → jK

namespace Go.Fw
open Go
set_option maxRecDepth 100000
theorem qsd {α:Type} {f:Nat→List α} {n:Nat} {x:α} (h:x ∈ fm f n):∃ j,j<n∧x ∈ f j:=by
 unfold fm at h
 obtain ⟨j,h1,h2⟩:=List.mem_flatMap.1 h
 exact ⟨j,List.mem_range.1 h1,h2⟩
theorem quj {x:Int} {j:Nat} {t:Int} (ht:b01 t) (hj:j≤100000) (e:x=2*(j:Int)+t):W64 (x.tdiv 2)=(j:Int)∧x.tmod 2=t:=by
 have ht':0≤t∧t≤1:=by rcases ht with e|e<;>omega
 have hx:0≤x:=by omega
 rw [jG hx,Int.tmod_eq_emod_of_nonneg hx,qaw (by omega) (by omega)]
 omega
structure CLk (b:qf) (x:qr) (i j m net a:Nat):Prop where
 kind:x.Bf=1
 il:i<b.Ab.Aa.length
 jl:j<(places b.Ab).length
 inst:(gt (places b.Ab) j).instance_=(i:Int)
 net_:(gt (places b.Ab) j).net=(net:Int)
 nl:net<b.Ac.length
 half:W64 (x.To.tdiv 2)=(j:Int)
 mod:x.To.tmod 2=(m:Int)
 ml:m<2
 ix:x.Bz=(a:Int)
 al:a<(cellAt b (i:Int)).Au.length
 d2:(gt (cellAt b (i:Int)).Au a).Bp.length=2
 s2:(gt (cellAt b (i:Int)).Au a).Bc.length=2
 dt:∀ t,t ∈ (gt (cellAt b (i:Int)).Au a).Bp→TbOk t∧∀ k,0≤at0 t.Bh k
 st:∀ t,t ∈ (gt (cellAt b (i:Int)).Au a).Bc→TbOk t∧∀ k,0≤at0 t.Bh k
structure WLk (b:qf) (x:qr) (j net k:Nat):Prop where
 kind:x.Bf=2
 jl:j<(places b.Ab).length
 net_:(gt (places b.Ab) j).net=(net:Int)
 nl:net<b.Ac.length
 half:W64 (x.To.tdiv 2)=(j:Int)
 ix:x.Bz=(k:Int)
 kl:k<(gt b.Ac net).Bl.length
theorem qya {xs:List Int} (h:0≤mnL xs) (k:Nat):0≤at0 xs k:=by
 have fold:∀ (ys:List Int) (a:Int),(ys.foldl (fun (m y:Int)=>if y<m then y else m) a≤a)∧∀ y,y ∈ ys→ys.foldl (fun (m y:Int)=>if y<m then y else m) a≤y:=by
  intro ys
  induction ys with
  | nil=>intro a;exact ⟨jV _,fun y hy=>by cases hy⟩
  | cons z ys ih =>
   intro a
   rw [List.foldl_cons]
   obtain ⟨h1,h2⟩:=ih (if z<a then z else a)
   refine ⟨?_,fun y hy=>?_⟩
   ·split at h1<;>split<;>omega
   ·rcases List.mem_cons.1 hy with e|e
    ·subst e;split at h1<;>split<;>omega
    ·exact h2 y e
 by_cases hk:k<xs.length
 ·have hm:xs[k] ∈ xs.drop 1∨k=0:=by
   by_cases h0:k=0
   ·exact .inr h0
   ·refine .inl ?_
    have:xs[k]=(xs.drop 1)[k-1]'(by rw [List.length_drop];omega):=by
     rw [List.getElem_drop]
     congr 1;omega
    rw [this]
    exact jo _
  rw [qkd hk]
  unfold mnL at h
  rcases hm with hm|h0
  ·exact Int.le_trans h ((fold _ _).2 _ hm)
  ·subst h0
   have:=(fold (xs.drop 1) (at0 xs 0)).1
   rw [←qkd hk]
   exact Int.le_trans h this
 ·rw [qus hk];exact jV _
theorem qp1 {ts:List qx} (h:tablesB ts true=true):ts.length=2∧∀ t,t ∈ ts→TbOk t∧∀ k,0≤at0 t.Bh k:=by
 unfold tablesB at h
 rw [jc,decide_eq_true_eq,jM] at h
 refine ⟨h.1,fun t ht=>?_⟩
 have:=h.2 t ht
 unfold tabB at this
 simp only [jW,Bool.false_or,jc,decide_eq_true_eq] at this
 exact ⟨quO this.1,qya this.2⟩
theorem qui {ps:List qar} {a:qP} (h:arcS ps a=true) (h3:a.Bf≤3) (h1:1≤a.Bf):a.To=(ps.length:Int)-1∧tablesB a.Bp true=true∧tablesB a.Bc true=true:=by
 unfold arcS at h
 rcases (by omega:a.Bf=1∨a.Bf=2∨a.Bf=3) with e|e|e
 ·rw [e] at h
  simp only [beq_self_eq_true,cond_true,jc,beq_iff_eq] at h
  exact ⟨h.2.2.1,h.2.2.2.2⟩
 ·rw [e] at h
  simp only [show ((2:Int)==1)=false from rfl,cond_false,beq_self_eq_true,Bool.true_or,cond_true,jc,beq_iff_eq] at h
  exact ⟨h.2.2.1,h.2.2.2.2⟩
 ·rw [e] at h
  simp only [show ((3:Int)==1)=false from rfl,cond_false,beq_self_eq_true,Bool.or_true,cond_true,jc,beq_iff_eq] at h
  exact ⟨h.2.2.1,h.2.2.2.2⟩
theorem qtb {a:qP} {t:qH} (h:t ∈ transL a):1≤a.Bf∧a.Bf≤3:=by
 refine ⟨?_,?_⟩<;>refine Int.le_of_not_gt fun hg=>?_
 ·have:arcLs 0 0 a=[]:=by
   unfold arcLs transL
   rw [show (a.Bf==2)=false from beq_eq_false_iff_ne.2 (by omega),show (a.Bf==3)=false from beq_eq_false_iff_ne.2 (by omega),show (a.Bf != 1)=true from bne_iff_ne.2 (by omega)]
   rfl
  unfold arcLs at this
  rw [List.map_eq_nil_iff] at this
  rw [this] at h;cases h
 ·have:arcLs 0 0 a=[]:=qpf hg
  unfold arcLs at this
  rw [List.map_eq_nil_iff] at this
  rw [this] at h;cases h
theorem qhB {b:qf} (h:blockB b=true) {x:qr} (hx:x ∈ linksL b):((∃ i j m net a,CLk b x i j m net a)∨∃ j net k,WLk b x j net k)∧(0≤x.Bk∧x.Bk<2*((places b.Ab).length:Int))∧(0≤x.To∧x.To<2*((places b.Ab).length:Int)):=by
 have hd:=qaq h
 have hs:=qX hd
 have hl:=qa0 hs
 have hwl:=qlV h
 unfold linksL at hx
 rcases List.mem_append.1 hx with hx|hx
 ·obtain ⟨i,hi,hx⟩:=qsd hx
  obtain ⟨a,ha,hx⟩:=qsd hx
  unfold arcLs at hx
  obtain ⟨t,ht,rfl⟩:=List.mem_map.1 hx
  obtain ⟨⟨c0,c1⟩,hnl,hcb⟩:=qgR hd hi
  have hcA:cellAt b (i:Int)=gt b.Ay.Aq (gt b.Ab.Aa i).Bs.toNat:=rfl
  rw [←hcA] at hnl hcb
  obtain ⟨⟨k1,k5⟩,hf,hto,hA⟩:=qmZ hcb ha
  obtain ⟨g1,g3⟩:=qtb ht
  obtain ⟨t0,t1⟩:=qrK ht
  obtain ⟨eT,tD,tS⟩:=qui hA g3 g1
  obtain ⟨d2,dt⟩:=qp1 tD
  obtain ⟨s2,st⟩:=qp1 tS
  have hpb:=(qgv (qiy hcb)).1
  have hk:(cellAt b (i:Int)).Be.length-1<(gt b.Ab.Aa i).Am.length:=by omega
  obtain ⟨hj,ej⟩:=qjY hi hk
  obtain ⟨n0,n1⟩:=qlM hd hj
  have e1:(al1 (off b.Ab i:Int) a (gt (cellAt b (i:Int)).Au a) t).To=2*((off b.Ab i+((cellAt b (i:Int)).Be.length-1):Nat):Int)+t.e1:=by
   show 2*((off b.Ab i:Int)+(gt (cellAt b (i:Int)).Au a).To)+t.e1=_
   rw [eT];omega
  obtain ⟨hh,hm⟩:=quj t1 (by omega) e1
  obtain ⟨m,em⟩:∃ m:Nat,t.e1=(m:Int):=⟨t.e1.toNat,by rcases t1 with e|e<;>omega⟩
  have hfr:off b.Ab i+(gt (cellAt b (i:Int)).Au a).Bk.toNat<(places b.Ab).length:=(qjY hi (k:=(gt (cellAt b (i:Int)).Au a).Bk.toNat) (by omega)).1
  have e2:(al1 (off b.Ab i:Int) a (gt (cellAt b (i:Int)).Au a) t).Bk=2*((off b.Ab i:Int)+(gt (cellAt b (i:Int)).Au a).Bk)+t.e0:=rfl
  refine ⟨.inl ⟨i,_,m,(gt (places b.Ab) (off b.Ab i+((cellAt b (i:Int)).Be.length-1))).net.toNat,a,⟨rfl,hi,hj,by rw [ej];rfl,qem n0,by omega,hh,by rw [hm,em],by rcases t1 with e|e<;>omega,rfl,ha,d2,s2,dt,st⟩⟩,?_,?_⟩
  ·rw [e2]
   rcases t0 with e|e<;>rw [e]<;>omega
  ·rw [e1]
   rcases t1 with e|e<;>rw [e]<;>omega
 ·obtain ⟨i,hi,hx⟩:=qsd hx
  obtain ⟨k,hk,hx⟩:=qsd hx
  obtain ⟨y,hy,ey,hq⟩:=qo0 hk
  have hdv:=(qi7 hd (k:=i) (by omega)).1
  have hw:=qbp h hi
  have hq':(gt (places b.Ab) y).net=(i:Int):=by
   unfold snkQ at hq
   simp only [jc,beq_iff_eq] at hq
   exact hq.1
  have main:∀ t:Int,b01 t→x=⟨2*(dvN b.Ab i:Int)+t,2*at0 (skL b i) k+t,2,(k:Int)⟩→((∃ i j m net a,CLk b x i j m net a)∨∃ j net k,WLk b x j net k)∧(0≤x.Bk∧x.Bk<2*((places b.Ab).length:Int))∧(0≤x.To∧x.To<2*((places b.Ab).length:Int)):=by
   intro t ht e
   have e1:x.To=2*(y:Int)+t:=by rw [e,ey]
   have e2:x.Bk=2*(dvN b.Ab i:Int)+t:=by rw [e]
   obtain ⟨hh,hm⟩:=quj ht (by omega) e1
   refine ⟨.inr ⟨y,i,k,⟨by rw [e],hy,hq',hi,hh,by rw [e],by rw [hw.snk];exact hk⟩⟩,?_,?_⟩
   ·rw [e2]
    rcases ht with e|e<;>rw [e]<;>omega
   ·rw [e1]
    rcases ht with e|e<;>rw [e]<;>omega
  unfold wl1 at hx
  simp only [jR,jH,or_false] at hx
  rcases hx with hx|hx
  ·exact main 0 (.inl rfl) (by rw [hx,Int.add_zero,Int.add_zero])
  ·exact main 1 (.inr rfl) hx
theorem qlK {α:Type} [Inhabited α] {xs:List α} {k:Nat} (h:k<xs.length):gt xs k ∈ xs:=by rw [qe4 h];exact jo h
theorem qiB {b:qf} (h:blockB b=true):LkOk (linksL b) (2*(places b.Ab).length) where
 len:=qgh h
 nodes:=by have:=qa0 (qX (qaq h));omega
 fr0:=fun x hx=>(qhB h (qlK hx)).2.1.1
 fr1:=fun x hx=>by have:=(qhB h (qlK hx)).2.1.2;omega
 to0:=fun x hx=>(qhB h (qlK hx)).2.2.1
 to1:=fun x hx=>by have:=(qhB h (qlK hx)).2.2.2;omega
theorem qrr {c:qt} (h:cornerB c=true) {kind mode:Int}:∃ f:Int,100≤f∧f≤5000∧(∀ n,qgA n c kind mode=some f)∧∀ n,qef n c kind mode=some f:=by
 unfold cornerB at h
 simp only [jc,qa4,decide_eq_true_eq] at h
 obtain ⟨⟨h1,h2,h3,h4⟩,_⟩:=h
 unfold qgA qef
 cases kind==1
 ·cases mode==0
  ·exact ⟨_,h4.1,h4.2,fun _=>rfl,fun _=>rfl⟩
  ·exact ⟨_,h3.1,h3.2,fun _=>rfl,fun _=>rfl⟩
 ·cases mode==0
  ·exact ⟨_,h2.1,h2.2,fun _=>rfl,fun _=>rfl⟩
  ·exact ⟨_,h1.1,h1.2,fun _=>rfl,fun _=>rfl⟩
theorem qtc {p f mode:Int} (p0:0≤p) (p1:p≤400000000000) (f0:0≤f) (f1:f≤5000):(∀ n,qcg n (W64 (p*f)) 1000 mode=some (divI (p*f) 1000 mode))∧∀ n,qj2 n p f mode=some (divI (p*f) 1000 mode):=by
 have h0:=jL p0 f0
 have h1:p*f≤400000000000*5000:=jS p1 f1 f0 (by omega)
 have e:W64 (p*f)=p*f:=qaw (by omega) (by omega)
 have hd:=fun n=>qkr (n:=n) (a:=p*f) (b:=1000) (mode:=mode) (by omega) (by omega) (by omega)
 refine ⟨fun n=>by rw [e];exact hd n,fun n=>?_⟩
 unfold qj2
 rw [e,qsm (m:=0),hd 0]
 rfl
theorem qwr {l h H:Int} (h0:0≤l) (h1:l<h) (h2:h≤H) (hH:H≤3000000000):W64 (W64 (W64 (l+h)+1) |>.tdiv 2)=(l+h+1) / 2∧W64 ((l+h+1) / 2*((l+h+1) / 2))=(l+h+1) / 2*((l+h+1) / 2)∧W64 ((l+h+1) / 2-1)=(l+h+1) / 2-1:=by
 have hm:0≤(l+h+1) / 2∧(l+h+1) / 2≤3000000000:=by omega
 have hq:(l+h+1) / 2*((l+h+1) / 2)≤3000000000*3000000000:=jS hm.2 hm.2 hm.1 (by omega)
 have hq0:=jL hm.1 hm.1
 rw [wO (l+h),wO (l+h+1),jG (by omega),wO ((l+h+1) / 2),wO ((l+h+1) / 2-1)]
 exact ⟨rfl,qaw (by omega) (by omega),rfl⟩
theorem qvA {y mode:Int} (h0:0≤y) (h1:y≤4000000000000000000):∃ v,IsRoot y v∧v≤2000000000∧Ev (fun n=>qhT n y mode) (if mode=1∧v*v<y then v+1 else v):=by
 obtain ⟨v,r1,r2,r3⟩:=qrH (Lf:=fun n l h=>qdx y n l h) (fin:=fun l=>(l,l)) (x:=y) (H:=2000000000) h0 (by omega) (by omega)
  (fun n l _ _=>by simp only [qdx,show decide (l<l)=false from decide_eq_false (Int.lt_irrefl l),cond_false])
  (fun n l h hl hlt hh=>by
   obtain ⟨e1,e2,e3⟩:=qwr hl hlt hh (by omega)
   simp only [qdx,decide_eq_true hlt,cond_true,e1,e2,e3])
 refine ⟨v,r1,r2,?_⟩
 unfold qhT
 refine Ev.bind r3 ?_
 have hv:=r1.pos
 have hq:v*v≤2000000000*2000000000:=jS r2 r2 hv (by omega)
 have hq0:=jL hv hv
 simp only [wO (v*v),wO (v+1)]
 by_cases hm:mode=1
 ·refine Ev.tt (by simpa using hm) ?_
  by_cases hl:v*v<y
  ·rw [if_pos ⟨hm,hl⟩];exact Ev.tt (decide_eq_true hl) .done
  ·rw [if_neg fun h=>hl h.2];exact Ev.ff (decide_eq_false hl) .done
 ·rw [if_neg fun h=>hm h.1]
  exact Ev.ff (by simpa using hm) .done
theorem qwk {y:Int} (h0:0≤y) (h1:y≤4000000000000000000):∃ v,IsRoot y v∧v≤3000000000∧Ev (fun n=>qm4 n y) v:=by
 obtain ⟨v,r1,r2,r3⟩:=qrH (Lf:=fun n l h=>qfF y n l h) (fin:=fun l=>(l,l)) (x:=y) (H:=3000000000) h0 (by omega) (by omega)
  (fun n l _ _=>by simp only [qfF,show decide (l<l)=false from decide_eq_false (Int.lt_irrefl l),cond_false])
  (fun n l h hl hlt hh=>by
   obtain ⟨e1,e2,e3⟩:=qwr hl hlt hh (by omega)
   simp only [qfF,decide_eq_true hlt,cond_true,e1,e2,e3])
 refine ⟨v,r1,r2,?_⟩
 unfold qm4
 exact Ev.bind r3 .done
theorem qvk {sl d mode:Int} (s0:0≤sl) (s1:sl≤1000000) (d0:0≤d) (d1:d≤344000000) (hm:mode=0∨mode=1):∃ r:Int,0≤r ∧
  Ev (fun n=>(qhT n (W64 (W64 (W64 (1000000*sl)*sl)+W64 (W64 (4*d)*d))) mode).bind fun r2=>(qcg n r2 1000 mode).bind fun r3=>some r3) r∧Ev (fun n=>qiL n sl d mode) r:=by
 have q1:=jL s0 s0
 have q2:sl*sl≤1000000*1000000:=jS s1 s1 s0 (by omega)
 have q3:=jL d0 d0
 have q4:d*d≤344000000*344000000:=jS d1 d1 d0 (by omega)
 have e1:W64 (W64 (W64 (1000000*sl)*sl)+W64 (W64 (4*d)*d))=4*(250000*(sl*sl)+d*d):=by
  rw [wO (1000000*sl),wO (4*d),jQ 1000000,jQ 4,wO (1000000*(sl*sl)),wO (4*(d*d)),qaw (by omega) (by omega)]
  omega
 have e2:W64 (W64 (W64 (W64 (500*sl)*500)*sl)+W64 (d*d))=250000*(sl*sl)+d*d:=by
  rw [wO (500*sl),wO (500*sl*500),show 500*sl*500*sl=250000*(sl*sl) by rw [←jQ];congr 1;omega,wO (250000*(sl*sl)),wO (d*d),qaw (by omega) (by omega)]
 obtain ⟨v,v1,v2,v3⟩:=qvA (mode:=mode) (y:=4*(250000*(sl*sl)+d*d)) (by omega) (by omega)
 obtain ⟨w,w1,w2,w3⟩:=qwk (y:=250000*(sl*sl)+d*d) (by omega) (by omega)
 have hr:=qtS w1 v1 hm
 have hv:=v1.pos
 have hw:=w1.pos
 have hv1:0≤(if mode=1∧v*v<4*(250000*(sl*sl)+d*d) then v+1 else v)∧(if mode=1∧v*v<4*(250000*(sl*sl)+d*d) then v+1 else v)≤1000*3000000:=by split<;>omega
 refine ⟨_,(qr5 (b:=1000) (mode:=mode) (M:=3000000) (by omega) hv1.1 hv1.2).1,?_,?_⟩
 ·rw [e1]
  exact Ev.bind v3 (Ev.bind ⟨0,fun n _=>qkr (by omega) (by omega) (by omega)⟩ .done)
 ·rw [hr]
  unfold qiL
  rw [e2]
  refine Ev.bind w3 ?_
  have hq:w*w≤3000000000*3000000000:=jS w2 w2 hw (by omega)
  have hq0:=jL hw hw
  have ed:(fun n=>qeT n w 500 mode)=fun _=>some (divI w 500 mode):=by
   funext n
   rw [qsm (m:=0),qkr (by omega) (by omega) (by omega)]
  have hdv:=congrFun ed
  simp only [wO (w*w),jG hw,wO (w / 500),wO (w / 500+1),hdv,ja]
  rcases hm with rfl|rfl
  ·rw [if_neg (by omega)]
   exact .done
  ·by_cases hl:w*w<250000*(sl*sl)+d*d
   ·rw [if_pos ⟨rfl,hl⟩,decide_eq_true hl];exact .done
   ·rw [if_neg fun h=>hl h.2,decide_eq_false hl];exact .done
theorem qsG {t:qx} (h:TbOk t∧∀ k,0≤at0 t.Bh k) (sl ld mode:Int):∃ r:Int,0≤r∧r≤1000000∧Ev (fun n=>qg2 n t sl ld mode) r∧Ev (fun n=>qdt n t sl ld mode) r:=by
 obtain ⟨S,D,D0,S1,_,_,_,S0,hev⟩:=qxe h.1 sl ld
 obtain ⟨r0,r1⟩:=qr5 (mode:=mode) D0 (S0 h.2) S1
 exact ⟨_,r0,r1,hev mode⟩
theorem qtt {b:qf} {ex:List Int} {x:qr} {j net:Nat} (jl:j<(places b.Ab).length) (hn:(gt (places b.Ab) j).net=(net:Int)) (hh:W64 (x.To.tdiv 2)=(j:Int)) (n:Nat):qez n (some (viewE b ex)) x=some (net:Int):=by
 unfold qez
 show (idx (places b.Ab) (W64 (x.To.tdiv 2))).bind _=_
 rw [hh,qA jl]
 exact congrArg some hn
theorem qv4 {b:qf} {ex:List Int} (h:blockB b=true) {x:qr} {i j m net a:Nat} (hx:CLk b x i j m net a) (n:Nat):qfM n (some (viewE b ex)) x=some (gt (cellAt b (i:Int)).Au a):=by
 obtain ⟨⟨c0,c1⟩,_,_⟩:=qgR (qaq h) hx.il
 unfold qfM
 show (idx (places b.Ab) (W64 (x.To.tdiv 2))).bind (fun y2=>(idx b.Ab.Aa y2.instance_).bind fun y3=>(idx b.Ay.Aq y3.Bs).bind fun y4=>(idx y4.Au x.Bz).bind fun y5=>some y5)=_
 rw [hx.half,qA hx.jl,ja,hx.inst,qA hx.il,ja,qdD c0 c1,ja,hx.ix]
 show (idx (cellAt b (i:Int)).Au (a:Int)).bind _=_
 rw [qA hx.al];rfl
theorem qrm {b:qf} (h:blockB b=true) {x:qr} {i j m net a:Nat} (hx:CLk b x i j m net a):Ev (fun n=>qi3 n b x) (gt (cellAt b (i:Int)).Au a,load0 b net):=by
 have hd:=qaq h
 have hs:=qX hd
 obtain ⟨⟨c0,c1⟩,_,_⟩:=qgR hd hx.il
 have hp:idx ((places b.Ab).map toSp) (j:Int)=some (toSp (gt (places b.Ab) j)):=by
  refine qax ?_
  rw [List.getElem?_map,jf hx.jl,qe4 hx.jl];rfl
 have hll:=qlY h hx.nl
 have hlo:=(qbp h hx.nl).lo
 have h1:(toSp (gt (places b.Ab) j)).instance_=(i:Int):=hx.inst
 have h2:(toSp (gt (places b.Ab) j)).net=(net:Int):=hx.net_
 have h3:idx (gt b.Ay.Aq (gt b.Ab.Aa i).Bs.toNat).Au (a:Int)=some (gt (cellAt b (i:Int)).Au a):=qA hx.al
 unfold qi3
 refine Ev.bind (qhx hs) ?_
 simp only [hx.half,hp,ja,h1,h2,qA hx.il,qdD c0 c1,hx.ix,h3]
 refine Ev.bind (qo9 h hx.nl) ?_
 rw [show idx (loadsL b net) (0:Int)=some (load0 b net) from qA (j:=0) (by omega)]
 exact .done
theorem qru {b:qf} (h:blockB b=true) {x:qr} {j net k:Nat} (hx:WLk b x j net k):Ev (fun n=>qjo n b x) (net:Int):=by
 have hs:=qX (qaq h)
 have hp:idx ((places b.Ab).map toSp) (j:Int)=some (toSp (gt (places b.Ab) j)):=by
  refine qax ?_
  rw [List.getElem?_map,jf hx.jl,qe4 hx.jl];rfl
 have h2:(toSp (gt (places b.Ab) j)).net=(net:Int):=hx.net_
 unfold qjo
 refine Ev.bind (qhx hs) ?_
 simp only [hx.half,hp,ja,h2]
 exact .done
theorem qsf {b:qf} {c:qt} (ex:List Int) (h:blockB b=true) (hc:cornerB c=true) {k:Nat} (hk:k<(linksL b).length) {sl mode:Int} (s0:0≤sl) (s1:sl≤1000000) (hm:mode=0∨mode=1) :
  (∃ D:Int,Ev (fun n=>qc9 n b c (gt (linksL b) k) sl mode) D∧Ev (fun n=>qcb n (some (viewE b ex)) c (k:Int) sl mode) D) ∧
  ∃ S:Int,0≤S∧S≤1000000∧Ev (fun n=>qdV n b (gt (linksL b) k) sl mode) S∧Ev (fun n=>qa8 n (some (viewE b ex)) (k:Int) sl mode) S:=by
 have hv:idx (viewE b ex).links (k:Int)=some (gt (linksL b) k):=qA hk
 obtain ⟨hx,_⟩:=qhB h (qlK hk)
 generalize gt (linksL b) k=x at hx hv
 rcases hx with ⟨i,j,m,net,a,hx⟩|⟨j,net,q,hx⟩
 ·have hnet:=qtt (ex:=ex) hx.jl hx.net_ hx.half
  have harc:=qv4 (ex:=ex) h hx
  have hld:idx (viewE b ex).loads (net:Int)=some (load0 b net):=qhs (f:=load0 b) hx.nl
  obtain ⟨f,f0,f1,sF,iF⟩:=qrr hc (kind:=x.Bf) (mode:=mode)
  have dl:m<(gt (cellAt b (i:Int)).Au a).Bp.length:=by rw [hx.d2];exact hx.ml
  have sL:m<(gt (cellAt b (i:Int)).Au a).Bc.length:=by rw [hx.s2];exact hx.ml
  obtain ⟨r,r0,r1,rs,ri⟩:=qsG (hx.dt _ (qlK dl)) sl (load0 b net) mode
  obtain ⟨u,u0,u1,us,ui⟩:=qsG (hx.st _ (qlK sL)) sl (load0 b net) mode
  obtain ⟨c1,c2⟩:=qtc (mode:=mode) r0 (by omega) (show 0≤f by omega) f1
  have hk1:(x.Bf==1)=true:=by rw [hx.kind];rfl
  refine ⟨⟨divI (r*f) 1000 mode,?_,?_⟩,⟨u,u0,u1,?_,?_⟩⟩
  ·unfold qc9
   refine Ev.tt hk1 (Ev.bind (qrm h hx) ?_)
   simp only [hx.mod,qA dl,ja,sF]
   exact Ev.bind rs (Ev.bind ⟨0,fun n _=>c1 n⟩ .done)
  ·unfold qcb
   simp only [ja,hv,hnet,hld,harc,hx.mod,qA dl,iF]
   exact Ev.tt hk1 (Ev.bind ri (Ev.bind ⟨0,fun n _=>c2 n⟩ .done))
  ·unfold qdV
   refine Ev.tt hk1 (Ev.bind (qrm h hx) ?_)
   simp only [hx.mod,qA sL,ja]
   exact Ev.bind us .done
  ·unfold qa8
   simp only [ja,hv,hnet,hld,harc,hx.mod,qA sL]
   refine Ev.tt hk1 (Ev.bind ui (Ev.now ?_))
   rw [if_neg (by omega)]
 ·have hnet:=qtt (ex:=ex) hx.jl hx.net_ hx.half
  have hde:idx (viewE b ex).delays (net:Int)=some (exactL b net):=qhs (f:=exactL b) hx.nl
  have hel:(exactL b net).length=(gt b.Ac net).Bl.length:=by unfold exactL;rw [jv]
  have hq:q<(exactL b net).length:=by rw [hel];exact hx.kl
  obtain ⟨x0,x1⟩:=qqu h hx.nl hx.kl
  obtain ⟨f,f0,f1,sF,iF⟩:=qrr hc (kind:=x.Bf) (mode:=mode)
  have dd:=fun n=>qkr (n:=n) (a:=gt (exactL b net) q) (b:=1000) (mode:=mode) (by omega) (by omega) (by omega)
  obtain ⟨p0,p1⟩:=qr5 (a:=gt (exactL b net) q) (b:=1000) (mode:=mode) (M:=344000) (by omega) x0 (by omega)
  obtain ⟨c1,c2⟩:=qtc (mode:=mode) p0 (by omega) (show 0≤f by omega) f1
  have hk1:(x.Bf==1)=false:=by rw [hx.kind];rfl
  have hi:idx ((exactL b net).map fun x=>divI x 1000 mode) (q:Int)=some (divI (gt (exactL b net) q) 1000 mode):=by
   rw [qA (by rw [jv];exact hq),qoz hq]
  obtain ⟨u,u0,us,ui⟩:=qvk s0 s1 x0 x1 hm
  refine ⟨⟨divI (divI (gt (exactL b net) q) 1000 mode*f) 1000 mode,?_,?_⟩,⟨if u<1000000 then u else 1000000,by split<;>omega,by split<;>omega,?_,?_⟩⟩
  ·unfold qc9
   refine Ev.ff hk1 (Ev.bind (qru h hx) (Ev.bind (qoG h hx.nl) ?_))
   simp only [hx.ix,hi,ja,sF]
   exact Ev.bind ⟨0,fun n _=>c1 n⟩ .done
  ·unfold qcb
   simp only [ja,hv,hnet,hde,hx.ix,qA hq,iF]
   refine Ev.ff hk1 (Ev.bind (b:=divI (gt (exactL b net) q) 1000 mode) ⟨0,fun n _=>(qsm (m:=0)).trans (dd 0)⟩ (Ev.bind ⟨0,fun n _=>c2 n⟩ .done))
  ·have hw:=qbp h hx.nl
   have hsn:=hw.sin q hx.kl
   have hdl:=qm0 h hx.nl
   have eg:gt (exactL b net) q=gt (delaysL b net) (at0 (gt b.Ac net).Bl q).toNat:=by
    unfold exactL
    rw [qe4 (by rw [jv];exact hx.kl),List.getElem_map,qkd hx.kl]
   unfold qdV qlE
   refine Ev.ff hk1 (Ev.bind (qru h hx) ?_)
   simp only [hx.ix,qA hx.nl,ja,qae hx.kl]
   refine Ev.bind (b:=u) (Ev.bind (qoo h hx.nl) ?_) .done
   rw [qdD hsn.1 (show at0 (gt b.Ac net).Bl q<((delaysL b net).length:Int) by omega)]
   simp only [ja]
   rw [←eg]
   exact us
  ·unfold qa8
   simp only [ja,hv,hnet,hde,hx.ix,qA hq]
   refine Ev.ff hk1 (Ev.bind ui (Ev.now ?_))
   congr 1
   split<;>split<;>omega
theorem qpY {b:qf} {c:qt} (h:blockB b=true) (hc:cornerB c=true) {k:Nat} (hk:k<(linksL b).length) {sl mode:Int} (s0:0≤sl) (s1:sl≤1000000) (hm:mode=0∨mode=1) :
  (∃ D:Int,Ev (fun n=>qc9 n b c (gt (linksL b) k) sl mode) D∧∀ ex,Ev (fun n=>qcb n (some (viewE b ex)) c (k:Int) sl mode) D) ∧
  ∃ S:Int,0≤S∧S≤1000000∧Ev (fun n=>qdV n b (gt (linksL b) k) sl mode) S∧∀ ex,Ev (fun n=>qa8 n (some (viewE b ex)) (k:Int) sl mode) S:=by
 obtain ⟨⟨D,d1,_⟩,⟨S,a,c',s1',_⟩⟩:=qsf [] h hc hk s0 s1 hm
 refine ⟨⟨D,d1,fun ex=>?_⟩,⟨S,a,c',s1',fun ex=>?_⟩⟩
 ·obtain ⟨⟨D',e1,e2⟩,_⟩:=qsf ex h hc hk s0 s1 hm
  rw [d1.uniq e1];exact e2
 ·obtain ⟨_,⟨S',_,_,e1,e2⟩⟩:=qsf ex h hc hk s0 s1 hm
  rw [s1'.uniq e1];exact e2
end Go.Fw


namespace Go.Fw
open Go
set_option maxRecDepth 100000
def slR (s:qd):Prop:=(0≤s.Ap∧s.Ap≤1000000)∧(0≤s.Bd∧s.Bd≤1000000)
def SpansS (b:qf) (c:qt) (f:Nat→qd→qd × qd):Prop:=∀ k s,k<(linksL b).length→slR s→slR (f k s).2∧Ev (fun n=>qf1 n b c (gt (linksL b) k) s) (f k s)
def SpansI (b:qf) (c:qt) (ex:List Int) (f:Nat→qd→qd × qd):Prop:=∀ k s,k<(linksL b).length→slR s→slR (f k s).2∧Ev (fun n=>qet n (some (viewE b ex)) c (k:Int) s) (f k s)
def exK (b:qf) (ex:List Int) (k:Nat):Int:=bif (gt (linksL b) k).Bf==2 then gt ex (gt (places b.Ab) ((gt (linksL b) k).To / 2).toNat).net.toNat else 0
def wideS (e:Int) (s:qd):qd:=⟨W64 (s.Ap-e),W64 (s.Bd+e)⟩
def wideF (b:qf) (ex:List Int) (f:Nat→qd→qd × qd) (k:Nat) (s:qd):qd × qd:=bif decide (0<ex.length)&&((gt (linksL b) k).Bf==2) then (wideS (exK b ex k) (f k s).1,(f k s).2) else f k s
theorem qtf {b:qf} {c:qt} (h:blockB b=true) (hc:cornerB c=true):∃ f,SpansS b c f∧∀ ex:List Int,ex.length=0∨ex.length=b.Ac.length→SpansI b c ex (wideF b ex f):=by
 have main:∀ x:Nat × qd,∃ r:qd × qd,x.1<(linksL b).length→slR x.2→slR r.2∧Ev (fun n=>qf1 n b c (gt (linksL b) x.1) x.2) r∧∀ ex:List Int,ex.length=0∨ex.length=b.Ac.length→Ev (fun n=>qet n (some (viewE b ex)) c (x.1:Int) x.2) (wideF b ex (fun _ _=>r) x.1 x.2):=by
  rintro ⟨k,s⟩
  by_cases hk:k<(linksL b).length∧slR s
  ·obtain ⟨hk,⟨e0,e1⟩,⟨l0,l1⟩⟩:=hk
   obtain ⟨⟨d1,p1,q1⟩,⟨u1,a1,b1,v1,w1⟩⟩:=qpY h hc hk e0 e1 (mode:=0) (.inl rfl)
   obtain ⟨⟨d2,p2,q2⟩,⟨u2,a2,b2,v2,w2⟩⟩:=qpY h hc hk e0 e1 (mode:=1) (.inr rfl)
   obtain ⟨⟨d3,p3,q3⟩,⟨u3,a3,b3,v3,w3⟩⟩:=qpY h hc hk l0 l1 (mode:=0) (.inl rfl)
   obtain ⟨⟨d4,p4,q4⟩,⟨u4,a4,b4,v4,w4⟩⟩:=qpY h hc hk l0 l1 (mode:=1) (.inr rfl)
   refine ⟨(⟨if d3<d1 then d3 else d1,if d4 > d2 then d4 else d2⟩,⟨if u3<u1 then u3 else u1,if u4 > u2 then u4 else u2⟩),fun _ _=>⟨⟨?_,?_⟩,?_,fun ex hex=>?_⟩⟩
   ·show 0≤(if u3<u1 then u3 else u1)∧(if u3<u1 then u3 else u1)≤1000000
    split<;>omega
   ·show 0≤(if u4 > u2 then u4 else u2)∧(if u4 > u2 then u4 else u2)≤1000000
    split<;>omega
   ·unfold qf1
    exact Ev.bind p1 (Ev.bind p2 (Ev.bind v1 (Ev.bind v2 (Ev.bind p3 (Ev.bind p4 (Ev.bind v3 (Ev.bind v4 .done)))))))
   ·unfold qet
    refine Ev.bind (q1 ex) (Ev.bind (q3 ex) (Ev.bind (q2 ex) (Ev.bind (q4 ex) ?_)))
    have hv:idx (viewE b ex).links (k:Int)=some (gt (linksL b) k):=qA hk
    have hx:(viewE b ex).extras=ex:=rfl
    simp only [ja,hv,hx]
    unfold wideF
    have fin:∀ r:Int × Int,Ev (fun n=>(qa8 n (some (viewE b ex)) (k:Int) s.Ap 0).bind fun r5=>(qa8 n (some (viewE b ex)) (k:Int) s.Bd 0).bind fun r6=>(qa8 n (some (viewE b ex)) (k:Int) s.Ap 1).bind fun r7=>(qa8 n (some (viewE b ex)) (k:Int) s.Bd 1).bind fun r8 =>
      some ((⟨r.1,r.2⟩:qd),(⟨if r6<r5 then r6 else r5,if r8 > r7 then r8 else r7⟩:qd))) ((⟨r.1,r.2⟩:qd),(⟨if u3<u1 then u3 else u1,if u4 > u2 then u4 else u2⟩:qd)):=fun r=>Ev.bind (w1 ex) (Ev.bind (w3 ex) (Ev.bind (w2 ex) (Ev.bind (w4 ex) .done)))
    rw [show decide ((ex.length:Int) > 0)=decide (0<ex.length) by rw [decide_eq_decide];omega]
    cases hl:decide (0<ex.length)
    ·exact Ev.bind (b:=false) (Ev.now rfl) (Ev.bind (b:=(if d3<d1 then d3 else d1,if d4 > d2 then d4 else d2)) (Ev.now rfl) (fin _))
    ·cases hkd:(gt (linksL b) k).Bf==2
     ·exact Ev.bind (b:=false) (Ev.now rfl) (Ev.bind (b:=(if d3<d1 then d3 else d1,if d4 > d2 then d4 else d2)) (Ev.now rfl) (fin _))
     ·obtain ⟨hcs,_⟩:=qhB h (qlK hk)
      rcases hcs with ⟨i,j,m,net,a,hx⟩|⟨j,net,q,hx⟩
      ·rw [hx.kind] at hkd;cases hkd
      ·have hn:=qtt (ex:=ex) hx.jl hx.net_ hx.half
       have hlt:net<ex.length:=by
        have:=of_decide_eq_true hl
        have:=hx.nl
        omega
       have hT:=(qhB h (qlK hk)).2.2
       have hpl:=qa0 (qX (qaq h))
       have ej:((gt (linksL b) k).To / 2).toNat=j:=by
        have:=hx.half
        rw [jG hT.1,qaw (by omega) (by omega)] at this
        omega
       have eK:exK b ex k=gt ex net:=by
        unfold exK
        rw [hkd,ej,hx.net_,jj]
        rfl
       refine Ev.bind (b:=true) (Ev.now rfl) (Ev.bind (b:=(W64 ((if d3<d1 then d3 else d1)-gt ex net),W64 ((if d4 > d2 then d4 else d2)+gt ex net))) ?_ ?_)
       ·simp only [hn,ja,qA hlt]
        exact .done
       ·rw [eK]
        exact fin _
  ·exact ⟨(s,s),fun h1 h2=>absurd ⟨h1,h2⟩ hk⟩
 obtain ⟨f,hf⟩:=Classical.axiomOfChoice main
 exact ⟨fun k s=>f (k,s),fun k s h1 h2=>⟨(hf (k,s) h1 h2).1,(hf (k,s) h1 h2).2.1⟩,fun ex hex k s h1 h2=>⟨by
  have:=(hf (k,s) h1 h2).1
  unfold wideF
  cases decide (0<ex.length)&&((gt (linksL b) k).Bf==2)<;>exact this,(hf (k,s) h1 h2).2.2 ex hex⟩⟩
theorem qrn {b:qf} {f:Nat→qd→qd × qd}:wideF b [] f=f:=rfl
def zSp:qd:=⟨0,0⟩
def zSrc:qg:=⟨0,zSp,zSp⟩
def hullS (s t:qd):qd:=⟨if t.Ap<s.Ap then t.Ap else s.Ap,if t.Bd > s.Bd then t.Bd else s.Bd⟩
theorem qrx {s t:qd}:(⟨if s.Ap<t.Ap then s.Ap else t.Ap,if s.Bd > t.Bd then s.Bd else t.Bd⟩:qd)=hullS s t:=by
 unfold hullS
 congr 1
 ·split<;>split<;>omega
 ·split<;>split<;>omega
def plusS (s t:qd):qd:=⟨W64 (s.Ap+t.Ap),W64 (s.Bd+t.Bd)⟩
def joinS (node:Int) (s:Bool × qg) (ar sl:qd):Bool × qg:=bif s.1 then (true,⟨node,hullS s.2.Ah ar,hullS s.2.Bc sl⟩) else (true,⟨node,ar,sl⟩)
def frN (ls:List qr) (k:Nat):Nat:=(gt ls k).Bk.toNat
def stepS (f:Nat→qd→qd × qd) (ls:List qr) (t:qy) (node:Int) (s:Bool × qg) (k:Nat):Bool × qg :=
 bif gt t.Bg (frN ls k) then joinS node s (plusS (gt t.Ah (frN ls k)) (f k (gt t.Bc (frN ls k))).1) (f k (gt t.Bc (frN ls k))).2 else s
def toQ (ls:List qr) (lv:List Bool) (node:Int) (k:Nat):Bool:=lvL lv k&&(toL ls k==node)
def srcO (xs:List qg) (node:Int):Option qg:=xs.find? fun s=>s.Bo==node
def srcV (o:Option qg):Bool × qg:=match o with|some y=>(true,y)|none=>(false,zSrc)
def ndS (f:Nat→qd→qd × qd) (ls:List qr) (lv:List Bool) (t:qy) (node:Int) (s0:Bool × qg):Nat→Bool × qg
 | 0=>s0
 | k+1=>bif toQ ls lv node k then stepS f ls t node (ndS f ls lv t node s0 k) k else ndS f ls lv t node s0 k
theorem qvG {f:Nat→qd→qd × qd} {ls:List qr} {lv:List Bool} {t:qy} {node:Int} {s0:Bool × qg} {j:Nat}:(selN (toQ ls lv node) j).foldl (stepS f ls t node) s0=ndS f ls lv t node s0 j:=by
 induction j with
 | zero=>rfl
 | succ j ih =>
  rw [qnb,List.foldl_append,ih]
  show _=bif toQ ls lv node j then stepS f ls t node (ndS f ls lv t node s0 j) j else ndS f ls lv t node s0 j
  cases toQ ls lv node j<;>rfl
structure TmOk (t:qy) (M:Nat):Prop where
 r:t.Bg.length=M
 a:t.Ah.length=M
 s:t.Bc.length=M
 sl:∀ k,k<M→slR (gt t.Bc k)
structure SrcOk (xs:List qg):Prop where
 len:xs.length≤1048576
 inc:∀ j i,i<j→j<xs.length→(gt xs i).Bo<(gt xs j).Bo
 sl:∀ x,x ∈ xs→slR x.Bc
theorem qqC {xs:List qg} {node:Int} (hl:xs.length≤1048576):Ev (fun n=>qdX n xs node) ((srcV (srcO xs node)).2,(srcV (srcO xs node)).1):=by
 have h1:Ev (fun n=>qaC n xs node) (ixL (fun s=>s.Bo==node) xs) :=
  qfn (fin:=(xs.length:Int)) (Lf:=qL xs node) (xs:=xs) (pf:=fun n x=>qjv n x node) (fun _ _=>.done)
   (fun n=>by simp only [qL,ql (jb _),cond_false])
   (fun n j x hx=>by
    have hj:=(List.getElem?_eq_some_iff.1 hx).1
    simp only [qL,qk hj,cond_true,qax hx,ja,wS j])
   (fun n=>by unfold qaC;congr 1;funext o;cases o<;>rfl)
 unfold qdX
 refine Ev.bind h1 ?_
 unfold ixL srcO
 cases hf:xs.findIdx? (fun s=>s.Bo==node) with
 | none =>
  have:xs.find? (fun s=>s.Bo==node)=none:=by
   rw [List.find?_eq_none]
   intro x hx
   have:=List.findIdx?_eq_none_iff.1 hf x hx
   simpa using this
  rw [this]
  exact Ev.ff rfl .done
 | some j =>
  obtain ⟨hj,hp,hn⟩:=List.findIdx?_eq_some_iff_getElem.1 hf
  have:xs.find? (fun s=>s.Bo==node)=some xs[j]:=by
   rw [List.find?_eq_some_iff_getElem]
   exact ⟨hp,j,hj,rfl,fun i hi=>by have:=hn i hi;simpa using this⟩
  rw [this]
  refine Ev.tt (show decide ((j:Int) ≥ 0)=true from decide_eq_true (by omega)) ?_
  show Ev (fun n=>(idx xs (j:Int)).bind _) _
  rw [qhZ hj]
  exact .done
theorem qnd {xs:List qg} {node:Int} {y:qg} (h:srcO xs node=some y):y.Bo=node∧y ∈ xs:=by
 have h1:=List.find?_some h
 exact ⟨by simpa using h1,List.mem_of_find?_eq_some h⟩
theorem qxI {xs:List qg} {node:Int} (h:SrcOk xs) :
  Ev (fun n=>qcL xs node n 0 0 0 0 0 false 0) ((srcV (srcO xs node)).2.Bo,(srcV (srcO xs node)).2.Ah.Ap,(srcV (srcO xs node)).2.Ah.Bd,(srcV (srcO xs node)).2.Bc.Ap,(srcV (srcO xs node)).2.Bc.Bd,(srcV (srcO xs node)).1,(xs.length:Int)):=by
 have hl:=h.len
 have:=loopF (τ:=Bool × qg) (Lf:=fun n s j=>qcL xs node n s.2.Bo s.2.Ah.Ap s.2.Ah.Bd s.2.Bc.Ap s.2.Bc.Bd s.1 j) (S:=fun j=>srcV (srcO (xs.take j) node)) (len:=xs.length)
  (fin:=((srcV (srcO xs node)).2.Bo,(srcV (srcO xs node)).2.Ah.Ap,(srcV (srcO xs node)).2.Ah.Bd,(srcV (srcO xs node)).2.Bc.Ap,(srcV (srcO xs node)).2.Bc.Bd,(srcV (srcO xs node)).1,(xs.length:Int)))
  (fun n=>by simp only [qcL,ql (jb _),cond_false,jB])
  (fun j hj X hX=>by
   simp only [qcL,qk hj,cond_true,qA hj,ja,wS j]
   have e:srcO (xs.take (j+1)) node=(srcO (xs.take j) node).or (bif (gt xs j).Bo==node then some (gt xs j) else none):=by
    unfold srcO
    rw [ju hj,List.find?_append,←qe4 hj]
    congr 1
   cases hq:(gt xs j).Bo==node
   ·rw [hq] at e
    have e:srcO (xs.take (j+1)) node=srcO (xs.take j) node:=by rw [e];cases srcO (xs.take j) node<;>rfl
    rw [e] at hX
    exact hX
   ·rw [hq] at e
    have hn:srcO (xs.take j) node=none:=by
     unfold srcO
     rw [List.find?_eq_none]
     intro x hx hxn
     obtain ⟨i,hi,rfl⟩:=List.mem_iff_getElem.1 hx
     rw [jN] at hi
     rw [List.getElem_take,←qe4 (by omega)] at hxn
     have:=h.inc j i (by omega) hj
     simp only [beq_iff_eq] at hq hxn
     omega
    have e:srcO (xs.take (j+1)) node=some (gt xs j):=by rw [e,hn];rfl
    rw [e] at hX
    exact hX)
 exact this
theorem qqA {ls:List qr} {M:Nat} (h:LkOk ls M) {k:Nat} (hk:k<ls.length):(gt ls k).Bk=(frN ls k:Int)∧frN ls k<M:=by
 have h0:=h.fr0 k hk
 have h1:=h.fr1 k hk
 unfold frN
 omega
section
variable {b:qf} {c:qt} {ex:List Int} {f:Nat→qd→qd × qd} {lv:List Bool} {t:qy} {xs:List qg} {node:Int}
theorem qwI (h:blockB b=true) (hf:SpansS b c f) (hl:lv.length=(linksL b).length) (ht:TmOk t (2*(places b.Ab).length)) (hx:SrcOk xs) :
  Ev (fun n=>qhV n b c (linksL b) lv xs t node) (ndS f (linksL b) lv t node (srcV (srcO xs node)) (linksL b).length):=by
 have hk:=qiB h
 have hkl:=hk.len
 have hL:=loopF (τ:=Bool × qg) (Lf:=fun n s j=>qcP b c (linksL b) lv t node n s.2.Bo s.2.Ah.Ap s.2.Ah.Bd s.2.Bc.Ap s.2.Bc.Bd s.1 j) (S:=fun j=>ndS f (linksL b) lv t node (srcV (srcO xs node)) j) (len:=(linksL b).length)
  (fin:=(fun s:Bool × qg=>(s.2.Bo,s.2.Ah.Ap,s.2.Ah.Bd,s.2.Bc.Ap,s.2.Bc.Bd,s.1,((linksL b).length:Int))) (ndS f (linksL b) lv t node (srcV (srcO xs node)) (linksL b).length))
  (fun n=>by simp only [qcP,ql (jb _),cond_false])
  (fun j hj X hX=>by
   obtain ⟨e1,e2⟩:=qqA hk hj
   have eN:ndS f (linksL b) lv t node (srcV (srcO xs node)) (j+1)=bif toQ (linksL b) lv node j then stepS f (linksL b) t node (ndS f (linksL b) lv t node (srcV (srcO xs node)) j) j else ndS f (linksL b) lv t node (srcV (srcO xs node)) j:=rfl
   rw [eN] at hX
   generalize ndS f (linksL b) lv t node (srcV (srcO xs node)) j=s at hX ⊢
   simp only [qcP,qk hj,cond_true,qA hj,qA (show j<lv.length by omega),ja,e1,qA (show frN (linksL b) j<t.Bg.length by rw [ht.r];exact e2),qA (show frN (linksL b) j<t.Ah.length by rw [ht.a];exact e2),qA (show frN (linksL b) j<t.Bc.length by rw [ht.s];exact e2),wS j]
   unfold toQ lvL toL at hX
   cases h1:gt lv j
   ·rw [h1] at hX;exact hX
   rw [h1,jw] at hX
   cases h2:(gt (linksL b) j).To==node
   ·rw [h2] at hX
    simp only [bne,h2]
    exact hX
   rw [h2] at hX
   simp only [bne,h2]
   unfold stepS at hX
   cases h3:gt t.Bg (frN (linksL b) j)
   ·rw [h3] at hX;exact hX
   rw [h3] at hX
   simp only [cond_true] at hX
   obtain ⟨_,s1⟩:=hf j _ hj (ht.sl _ e2)
   refine Ev.bind (b:=false) (Ev.now rfl) (Ev.ff rfl (Ev.bind s1 ?_))
   generalize f j (gt t.Bc (frN (linksL b) j))=q at hX ⊢
   unfold joinS at hX
   cases h4:s.1
   ·rw [h4] at hX;exact hX
   ·rw [h4] at hX
    simp only [qjI,ja,cond_true]
    have a1:=qrx (s:=s.2.Ah) (t:=plusS (gt t.Ah (frN (linksL b) j)) q.1)
    have a2:=qrx (s:=s.2.Bc) (t:=q.2)
    simp only [cond_true] at hX
    rw [←a1,←a2] at hX
    exact hX)
 unfold qhV
 exact Ev.bind (qxI hx) (Ev.bind hL .done)
theorem qyE {ls:List qr} {M:Nat} {ps:List Tplace} {lo:List Int} {de:List (List Int)} {ex:List Int} (h:LkOk ls M) (hl:lv.length=ls.length):Ev (fun n=>qiS n (grV ls lv ps b lo de ex) node) (ints (selN (toQ ls lv node) ls.length)):=by
 have hll:=h.len
 have hL:Ev (fun n=>qF node ⟨some ⟨b,ps,ls,lo,de,ex⟩,lv⟩ ⟨b,ps,ls,lo,de,ex⟩ n ([]:List Int) 0) (ints (selN (toQ ls lv node) ls.length),(ls.length:Int)):=by
  refine qox (q:=toQ ls lv node) (Lf:=qF node ⟨some ⟨b,ps,ls,lo,de,ex⟩,lv⟩ ⟨b,ps,ls,lo,de,ex⟩) (len:=ls.length) (by omega) (Ev.succ ?_) (fun j hj t ht X h1 h2=>?_)
  ·simp only [qF,ql (jb _),cond_false];exact .done
  ·simp only [qF,qk hj,cond_true,qA hj,qA (show j<lv.length by omega),ja,qjt,ht,wS j]
   unfold toQ lvL toL at h1 h2
   cases hq:gt lv j
   ·simp only [cond_false];exact h2 (by rw [hq];rfl)
   ·simp only [cond_true]
    cases hw:(gt ls j).To==node
    ·simp only [cond_false];exact h2 (by rw [hq,hw];rfl)
    ·simp only [cond_true];exact h1 (by rw [hq,hw];rfl)
 unfold qiS qcp grV
 simp only [ja]
 exact Ev.bind (Ev.bind hL .done) .done
def fixS (node:Int) (s:Bool × qg):Bool × qg:=bif s.1 then s else (false,⟨node,zSp,zSp⟩)
theorem qvW (h:blockB b=true) (hf:SpansI b c ex f) (hl:lv.length=(linksL b).length) (ht:TmOk t (2*(places b.Ab).length)) (hx:xs.length≤1048576) :
  Ev (fun n=>qdk n (some ⟨some (viewE b ex),lv⟩) c xs t node) (ndS f (linksL b) lv t node (srcV (srcO xs node)) (linksL b).length):=by
 have hk:=qiB h
 have hkl:=hk.len
 have hsel:=qop (q:=toQ (linksL b) lv node) (j:=(linksL b).length)
 have hnd:∀ j,(ndS f (linksL b) lv t node (srcV (srcO xs node)) j).1=true→(ndS f (linksL b) lv t node (srcV (srcO xs node)) j).2.Bo=node:=by
  intro j
  induction j with
  | zero =>
   show (srcV (srcO xs node)).1=true→(srcV (srcO xs node)).2.Bo=node
   cases hs:srcO xs node with
   | none=>intro e;cases e
   | some y=>exact fun _=>(qnd hs).1
  | succ j ih =>
   unfold ndS
   cases toQ (linksL b) lv node j
   ·exact ih
   ·simp only [cond_true]
    unfold stepS
    cases gt t.Bg (frN (linksL b) j)
    ·exact ih
    ·simp only [cond_true]
     unfold joinS
     cases (ndS f (linksL b) lv t node (srcV (srcO xs node)) j).1<;>exact fun _=>rfl
 have hz:∀ j,(ndS f (linksL b) lv t node (srcV (srcO xs node)) j).1=false→(ndS f (linksL b) lv t node (srcV (srcO xs node)) j).2=zSrc:=by
  intro j
  induction j with
  | zero =>
   show (srcV (srcO xs node)).1=false→(srcV (srcO xs node)).2=zSrc
   cases srcO xs node with
   | none=>exact fun _=>rfl
   | some y=>intro e;cases e
  | succ j ih =>
   unfold ndS
   cases toQ (linksL b) lv node j
   ·exact ih
   ·simp only [cond_true]
    unfold stepS
    cases gt t.Bg (frN (linksL b) j)
    ·exact ih
    ·simp only [cond_true]
     unfold joinS
     cases (ndS f (linksL b) lv t node (srcV (srcO xs node)) j).1<;>(intro e;cases e)
 have fl:∀ (l:List Nat) (s:Bool × qg),(∀ k,k ∈ l→toQ (linksL b) lv node k=true)→l.foldl (fun s k=>fixS node (stepS f (linksL b) t node s k)) (fixS node s)=fixS node (l.foldl (stepS f (linksL b) t node) s):=by
  intro l
  induction l with
  | nil=>intro s _;rfl
  | cons k l ih =>
   intro s hq
   have e:fixS node (stepS f (linksL b) t node (fixS node s) k)=fixS node (stepS f (linksL b) t node s k):=by
    unfold stepS
    obtain ⟨s1,s2⟩:=s
    cases gt t.Bg (frN (linksL b) k)<;>cases s1<;>rfl
   rw [List.foldl_cons,List.foldl_cons,e]
   exact ih _ fun k' hk'=>hq k' (jk _ hk')
 have hL:=(quG (τ:=Bool × qg) (xs:=selN (toQ (linksL b) lv node) (linksL b).length) (Lf:=fun n s j=>qbe (some ⟨some (viewE b ex),lv⟩) c t (ints (selN (toQ (linksL b) lv node) (linksL b).length)) n s.1 s.2.Bo s.2.Ah.Ap s.2.Ah.Bd s.2.Bc.Ap s.2.Bc.Bd j)
  (step:=fun s k=>fixS node (stepS f (linksL b) t node s k)) (fin:=fun s=>(s.1,s.2.Bo,s.2.Ah.Ap,s.2.Ah.Bd,s.2.Bc.Ap,s.2.Bc.Bd,((ints (selN (toQ (linksL b) lv node) (linksL b).length)).length:Int))) (fixS node (srcV (srcO xs node))) (fun _ s=>s=fixS node s∧s.2.Bo=node) (by
   constructor
   ·unfold fixS
    cases hs:(srcV (srcO xs node)).1
    ·rfl
    ·simp only [hs,cond_true]
   ·unfold fixS
    cases hs:srcO xs node with
    | none=>rfl
    | some y=>exact (qnd hs).1)
  (fun j s hj hs=>by
   obtain ⟨h1,h2⟩:=hs
   have key:(stepS f (linksL b) t node s (selN (toQ (linksL b) lv node) (linksL b).length)[j]).2.Bo=node:=by
    unfold stepS
    cases gt t.Bg (frN (linksL b) (selN (toQ (linksL b) lv node) (linksL b).length)[j])
    ·exact h2
    ·unfold joinS
     cases s.1<;>rfl
   constructor
   ·unfold fixS
    cases hs:(stepS f (linksL b) t node s (selN (toQ (linksL b) lv node) (linksL b).length)[j]).1
    ·rfl
    ·simp only [hs,cond_true]
   ·unfold fixS
    cases hs:(stepS f (linksL b) t node s (selN (toQ (linksL b) lv node) (linksL b).length)[j]).1
    ·rfl
    ·exact key)
  (fun n s=>by simp only [qbe,qdL,ql (jb _),cond_false])
  (fun j s hj hs X hX=>by
   obtain ⟨hfx,hsn⟩:=hs
   have hi:=qn9 hj
   have hm:(selN (toQ (linksL b) lv node) (linksL b).length)[j]<(linksL b).length:=(qnT.1 (jo hj)).1
   generalize (selN (toQ (linksL b) lv node) (linksL b).length)[j]=k at hi hm hX
   obtain ⟨e1,e2⟩:=qqA hk hm
   have hv:idx (viewE b ex).links (k:Int)=some (gt (linksL b) k):=qA hm
   simp only [qbe,qdL,qk hj,cond_true,hi,hv,ja,e1,qA (show frN (linksL b) k<t.Bg.length by rw [ht.r];exact e2),qA (show frN (linksL b) k<t.Ah.length by rw [ht.a];exact e2),qA (show frN (linksL b) k<t.Bc.length by rw [ht.s];exact e2),wS j]
   unfold stepS at hX
   cases h3:gt t.Bg (frN (linksL b) k)
   ·rw [h3] at hX
    simp only [cond_false] at hX
    rw [←hfx] at hX
    exact hX
   rw [h3] at hX
   simp only [cond_true] at hX ⊢
   obtain ⟨_,s1⟩:=hf k _ hm (ht.sl _ e2)
   refine Ev.bind s1 ?_
   generalize f k (gt t.Bc (frN (linksL b) k))=q at hX ⊢
   simp only [qgo,ja]
   unfold joinS at hX
   unfold qfq
   cases h4:s.1
   ·rw [h4] at hX
    simp only [Bool.not_false,cond_true,ja]
    unfold fixS at hX
    simp only [cond_false,cond_true] at hX
    rw [hsn]
    exact hX
   ·rw [h4] at hX
    simp only [jW,cond_false,qhO,ja]
    unfold fixS at hX
    simp only [cond_true] at hX
    rw [hsn]
    exact hX)).1
 rw [fl _ _ (fun k hk'=>(qnT.1 hk').2),qvG] at hL
 unfold qdk
 refine Ev.bind (qqC hx) ?_
 have e0:(bif (srcV (srcO xs node)).1 then (qfq 0 ⟨node,⟨0,0⟩,⟨0,0⟩⟩ false ⟨(srcV (srcO xs node)).2.Ah.Ap,(srcV (srcO xs node)).2.Ah.Bd⟩ ⟨(srcV (srcO xs node)).2.Bc.Ap,(srcV (srcO xs node)).2.Bc.Bd⟩).bind (fun o=>match o with|(x9,x10)=>some (x10,x9.Bo,x9.Ah.Ap,x9.Ah.Bd,x9.Bc.Ap,x9.Bc.Bd)) else some (false,node,(0:Int),(0:Int),(0:Int),(0:Int))) =
   some ((fixS node (srcV (srcO xs node))).1,(fixS node (srcV (srcO xs node))).2.Bo,(fixS node (srcV (srcO xs node))).2.Ah.Ap,(fixS node (srcV (srcO xs node))).2.Ah.Bd,(fixS node (srcV (srcO xs node))).2.Bc.Ap,(fixS node (srcV (srcO xs node))).2.Bc.Bd):=by
  cases hs:srcO xs node with
  | none=>rfl
  | some y =>
   have:=(qnd hs).1
   unfold fixS srcV
   simp only [cond_true,this]
   rfl
 refine Ev.bindN e0 (Ev.bind (qyE (ps:=places b.Ab) (lo:=pre (load0 b) b.Ac.length) (de:=pre (exactL b) b.Ac.length) (ex:=ex) hk hl) (Ev.bind hL ?_))
 have z:=hz (linksL b).length
 generalize ndS f (linksL b) lv t node (srcV (srcO xs node)) (linksL b).length=s at z ⊢
 unfold fixS
 obtain ⟨s1,s2⟩:=s
 cases s1
 ·have:=z rfl
  simp only at this
  subst this
  exact .done
 ·exact .done
end
end Go.Fw


namespace Go.Fw
open Go
set_option maxRecDepth 100000
theorem qmy {b:qf} (h:blockB b=true):Ev (fun n=>qf2 n b) ((2*(places b.Ab).length:Nat):Int):=by
 have hs:=qX (qaq h)
 have hl:=qa0 hs
 unfold qf2
 refine Ev.bind (b:=(places b.Ab).map toSp) (qhx hs) (Ev.now ?_)
 rw [jv,qaw (by omega) (by omega)]
 rfl
theorem qor {v:Tview} (hl:v.places.length≤78) (n:Nat):qcc n (some v)=some ((2*v.places.length:Nat):Int):=by
 unfold qcc qdP
 simp only [ja]
 rw [qaw (by omega) (by omega)]
 rfl
def stepN (xs:List qg) (j:Nat):Bool:=decide (j=0) || decide ((gt xs (j-1)).Bo<(gt xs j).Bo)
def srcB (xs:List qg) (M:Nat):Bool:=allN (fun j=>inI (gt xs j).Bo 0 ((M:Int)-1)&&(stepN xs j&&(spanB (gt xs j).Ah&&slewB (gt xs j).Bc))) xs.length
theorem qqe {xs:List qg} {j:Nat} (h:j ≠ 0):stepN xs j=decide ((gt xs (j-1)).Bo<(gt xs j).Bo):=by unfold stepN;rw [decide_eq_false h,Bool.false_or]
theorem qqV {b:qf} {xs:List qg} (h:blockB b=true) (hl:xs.length≤1048576):Ev (fun n=>qfW n b xs) (srcB xs (2*(places b.Ab).length)):=by
 have hpl:=qa0 (qX (qaq h))
 have e:=qmy h
 obtain ⟨M,eM⟩:∃ M,M=2*(places b.Ab).length:=⟨_,rfl⟩
 rw [←eM] at e ⊢
 have hM:M≤156:=by omega
 have hL:Ev (fun n=>qbL xs (M:Int) n 0) (bif srcB xs M then .nxt (xs.length:Int) else .ret false):=by
  refine qed (Lf:=qbL xs (M:Int)) (len:=xs.length) (Ev.succ (by simp only [qbL,ql (jb _),cond_false];exact .done)) (fun j hj X hX=>Ev.succ ?_)
  simp only [qbL,qk hj,cond_true,qA hj,ja,qcE,qqN,qsM,wS j,wO ((M:Int)-1)]
  cases inI (gt xs j).Bo 0 ((M:Int)-1)
  ·exact .done
  refine Ev.ff rfl ?_
  by_cases h0:j=0
  ·subst h0
   refine Ev.ff rfl ?_
   show Ev _ (bif (stepN xs 0&&_) then X else _)
   rw [show stepN xs 0=true from rfl]
   show Ev (fun n=>bif !spanB (gt xs 0).Ah then _ else bif !slewB (gt xs 0).Bc then _ else _) _
   cases spanB (gt xs 0).Ah
   ·exact .done
   ·cases slewB (gt xs 0).Bc
    ·exact .done
    ·exact hX
  ·refine Ev.tt (decide_eq_true (by omega)) ?_
   rw [show (j:Int)-1=((j-1:Nat):Int) by omega,qaw (by omega) (by omega),qA (show j-1<xs.length by omega),qqe h0]
   simp only [ja]
   by_cases hlt:(gt xs (j-1)).Bo<(gt xs j).Bo
   ·rw [decide_eq_true hlt]
    refine Ev.ff (decide_eq_false (by omega)) ?_
    show Ev (fun n=>bif !spanB (gt xs j).Ah then _ else bif !slewB (gt xs j).Bc then _ else _) _
    cases spanB (gt xs j).Ah
    ·exact .done
    ·cases slewB (gt xs j).Bc
     ·exact .done
     ·exact hX
   ·rw [decide_eq_false hlt]
    exact Ev.tt (decide_eq_true (by omega)) .done
 unfold qfW
 refine Ev.bind e (Ev.bind hL ?_)
 cases srcB xs M<;>exact .done
theorem qq6 {v:Tview} {xs:List qg} (hp:v.places.length≤78) (hl:xs.length≤1048576):Ev (fun n=>qdg n (some v) xs) (srcB xs (2*v.places.length)):=by
 have e:=qor hp
 obtain ⟨M,eM⟩:∃ M,M=2*v.places.length:=⟨_,rfl⟩
 rw [←eM] at e ⊢
 have hM:M≤156:=by omega
 have hL:Ev (fun n=>qaM (some v) xs n 0) (bif srcB xs M then .nxt (xs.length:Int) else .ret false):=by
  refine qed (Lf:=qaM (some v) xs) (len:=xs.length) (Ev.succ (by simp only [qaM,ql (jb _),cond_false];exact .done)) (fun j hj X hX=>Ev.succ ?_)
  simp only [qaM,qk hj,cond_true,qA hj,ja,qiE,e,qcZ,qoO,qsN,wS j,wO ((M:Int)-1)]
  cases inI (gt xs j).Bo 0 ((M:Int)-1)
  ·exact .done
  refine Ev.ff rfl ?_
  show Ev (fun n=>bif !spanB (gt xs j).Ah then _ else bif !slewB (gt xs j).Bc then _ else _) _
  rw [jw,Bool.and_comm]
  cases spanB (gt xs j).Ah
  ·exact .done
  ·cases slewB (gt xs j).Bc
   ·exact .done
   ·refine Ev.ff rfl (Ev.ff rfl ?_)
    rw [jw,jw]
    by_cases h0:j=0
    ·subst h0
     exact Ev.ff rfl hX
    ·refine Ev.tt (decide_eq_true (by omega)) ?_
     rw [show (j:Int)-1=((j-1:Nat):Int) by omega,qaw (by omega) (by omega),qA (show j-1<xs.length by omega),qqe h0]
     simp only [ja]
     by_cases hlt:(gt xs (j-1)).Bo<(gt xs j).Bo
     ·rw [decide_eq_true hlt]
      exact Ev.ff (decide_eq_false (by omega)) hX
     ·rw [decide_eq_false hlt]
      exact Ev.tt (decide_eq_true (by omega)) .done
 unfold qdg
 refine Ev.bind hL ?_
 cases srcB xs M<;>exact .done
theorem qsj {xs:List qg} {M:Nat} (hl:xs.length≤1048576) (h:srcB xs M=true):SrcOk xs:=by
 unfold srcB at h
 rw [qah] at h
 refine ⟨hl,fun j=>?_,fun x hx=>?_⟩
 ·induction j with
  | zero=>intro i hi _;omega
  | succ j ih =>
   intro i hi hj
   have hs:=h (j+1) hj
   rw [qqe (by omega)] at hs
   simp only [jc,decide_eq_true_eq,Nat.add_sub_cancel] at hs
   have hs':=hs.2.1
   by_cases hij:i=j
   ·rw [hij];exact hs'
   ·have:=ih i (by omega) (by omega);omega
 ·obtain ⟨i,hi,rfl⟩:=List.mem_iff_getElem.1 hx
  have hs:=h i hi
  rw [←qe4 hi]
  simp only [jc] at hs
  have:=hs.2.2.2
  unfold slewB at this
  simp only [jc,decide_eq_true_eq] at this
  exact ⟨⟨this.1,by omega⟩,by omega,this.2.2⟩
section
variable {L:Nat} {fr to:Nat→Int} {lv:Nat→Bool} {n:Nat}
def OrdOk (L:Nat) (fr to:Nat→Int) (lv:Nat→Bool) (n:Nat) (R:List Nat):Prop:=∀ l1 k l2,R=l1++k::l2→k<n∧k ∉ l1∧inN L fr to lv l1 k=0
theorem OrdOk.snoc {R:List Nat} {k:Nat} (h:OrdOk L fr to lv n R) (hk:nxtN L fr to lv n R=some k):OrdOk L fr to lv n (R++[k]):=by
 intro l1 k' l2 e
 rcases List.eq_nil_or_concat l2 with rfl|⟨l2',z,rfl⟩
 ·obtain ⟨rfl,e2⟩:=List.append_inj' e rfl
  obtain rfl:k=k':=by simpa using e2
  exact qo3 hk
 ·have e':R++[k]=(l1++k'::l2')++[z]:=by rw [e];simp
  obtain ⟨e1,_⟩:=List.append_inj' e' rfl
  exact h l1 k' l2' e1
theorem qxn:∀ m R R',OrdOk L fr to lv n R→ordN L fr to lv n m R=some R'→OrdOk L fr to lv n R':=by
 intro m
 induction m with
 | zero=>intro R R' h e;obtain rfl:=Option.some.inj e;exact h
 | succ m ih =>
  intro R R' h e
  unfold ordN at e
  cases hn:nxtN L fr to lv n R with
  | none=>rw [hn] at e;cases e
  | some k =>
   rw [hn] at e
   exact ih _ _ (h.snoc hn) e
theorem OrdOk.at {R:List Nat} (h:OrdOk L fr to lv n R) {j:Nat} (hj:j<R.length):R[j]<n∧R[j] ∉ R.take j∧inN L fr to lv (R.take j) R[j]=0:=by
 refine h (R.take j) R[j] (R.drop (j+1)) ?_
 rw [←jD hj,List.take_append_drop]
end
theorem qoY {α:Type} [Inhabited α] {xs:List α} {k:Nat} {v:α} (hk:k<xs.length) (h:gt xs k=v):setS xs (k:Int) v=xs:=by
 unfold setS
 rw [jj,←h,qe4 hk]
 exact List.set_getElem_self hk
theorem qpW {α:Type} [Inhabited α] {xs:List α} {a k:Nat} {y:α} (ha:a<xs.length):gt (setS xs (a:Int) y) k=if k=a then y else gt xs k:=by
 unfold setS
 rw [jj]
 by_cases h:k=a
 ·subst h;rw [if_pos rfl,qpd ha]
 ·rw [if_neg h,qrD h]
def setT (t:qy) (k:Nat) (s:Bool × qg):qy:=⟨setS t.Bg (k:Int) s.1,setS t.Ah (k:Int) s.2.Ah,setS t.Bc (k:Int) s.2.Bc⟩
theorem qsv {t:qy} {M k:Nat} {s:Bool × qg} (h:TmOk t M) (hk:k<M) (hs:slR s.2.Bc):TmOk (setT t k s) M where
 r:=by show (setS _ _ _).length=_;rw [qgs];exact h.r
 a:=by show (setS _ _ _).length=_;rw [qgs];exact h.a
 s:=by show (setS _ _ _).length=_;rw [qgs];exact h.s
 sl:=fun j hj=>by
  show slR (gt (setS _ _ _) j)
  rw [qpW (by rw [h.s];exact hk)]
  split
  ·exact hs
  ·exact h.sl j hj
def Bare (t:qy) (M:Nat) (l:List Nat):Prop:=∀ k,k<M→k ∉ l→gt t.Bg k=false∧gt t.Ah k=zSp∧gt t.Bc k=zSp
def zT:qy:=⟨[],[],[]⟩
theorem qvE:slR zSp:=by unfold slR zSp;exact ⟨⟨jV _,by show (0:Int)≤_;omega⟩,jV _,by show (0:Int)≤_;omega⟩
theorem qw4 {s t:qd} (hs:slR s) (ht:slR t):slR (hullS s t):=by
 obtain ⟨⟨a1,a2⟩,a3,a4⟩:=hs
 obtain ⟨⟨b1,b2⟩,b3,b4⟩:=ht
 refine ⟨⟨?_,?_⟩,?_,?_⟩
 ·show (0:Int)≤(if t.Ap<s.Ap then t.Ap else s.Ap);split<;>assumption
 ·show (if t.Ap<s.Ap then t.Ap else s.Ap)≤1000000;split<;>assumption
 ·show (0:Int)≤(if t.Bd > s.Bd then t.Bd else s.Bd);split<;>assumption
 ·show (if t.Bd > s.Bd then t.Bd else s.Bd)≤1000000;split<;>assumption
section
variable {b:qf} {c:qt} {ex:List Int} {f g:Nat→qd→qd × qd} {lv:List Bool} {t:qy} {xs:List qg} {node:Int}
theorem qrl (h:blockB b=true) (hg:SpansS b c g) (hgf:∀ k s,(f k s).2=(g k s).2) (ht:TmOk t (2*(places b.Ab).length)) (hx:SrcOk xs):∀ j,j≤(linksL b).length→slR (ndS f (linksL b) lv t node (srcV (srcO xs node)) j).2.Bc:=by
 intro j
 induction j with
 | zero =>
  intro _
  show slR (srcV (srcO xs node)).2.Bc
  cases hs:srcO xs node with
  | none=>exact qvE
  | some y=>exact hx.sl y (qnd hs).2
 | succ j ih =>
  intro hj
  have ih:=ih (by omega)
  obtain ⟨_,e2⟩:=qqA (qiB h) (show j<(linksL b).length by omega)
  have h2:=(hg j _ (show j<(linksL b).length by omega) (ht.sl _ e2)).1
  rw [←hgf] at h2
  show slR (bif toQ (linksL b) lv node j then stepS f (linksL b) t node (ndS f (linksL b) lv t node (srcV (srcO xs node)) j) j else ndS f (linksL b) lv t node (srcV (srcO xs node)) j).2.Bc
  cases toQ (linksL b) lv node j
  ·exact ih
  ·simp only [cond_true]
   unfold stepS
   cases gt t.Bg (frN (linksL b) j)
   ·exact ih
   ·simp only [cond_true]
    unfold joinS
    cases (ndS f (linksL b) lv t node (srcV (srcO xs node)) j).1
    ·exact h2
    ·exact qw4 ih h2
theorem qtl (h:blockB b=true) (hf:SpansS b c f) (ht:TmOk t (2*(places b.Ab).length)) (hx:SrcOk xs):∀ j,j≤(linksL b).length→slR (ndS f (linksL b) lv t node (srcV (srcO xs node)) j).2.Bc:=qrl h hf (fun _ _=>rfl) ht hx
theorem qxd:∀ j,(ndS f (linksL b) lv t node (srcV (srcO xs node)) j).1=false→(ndS f (linksL b) lv t node (srcV (srcO xs node)) j).2=zSrc:=by
 intro j
 induction j with
 | zero =>
  show (srcV (srcO xs node)).1=false→(srcV (srcO xs node)).2=zSrc
  cases srcO xs node with
  | none=>exact fun _=>rfl
  | some y=>intro e;cases e
 | succ j ih =>
  unfold ndS
  cases toQ (linksL b) lv node j
  ·exact ih
  ·simp only [cond_true]
   unfold stepS
   cases gt t.Bg (frN (linksL b) j)
   ·exact ih
   ·simp only [cond_true]
    unfold joinS
    cases (ndS f (linksL b) lv t node (srcV (srcO xs node)) j).1<;>(intro e;cases e)
def runR (o:Option qy):qy × Bool:=match o with|some t=>(t,true)|none=>(zT,false)
def rnO (f:Nat→qd→qd × qd) (ls:List qr) (lv:List Bool) (xs:List qg):List Nat→qy→Option qy
 | [],t=>some t
 | k::R,t=>bif (ndS f ls lv t (k:Int) (srcV (srcO xs (k:Int))) ls.length).1 then bif spanB (ndS f ls lv t (k:Int) (srcV (srcO xs (k:Int))) ls.length).2.Ah then rnO f ls lv xs R (setT t k (ndS f ls lv t (k:Int) (srcV (srcO xs (k:Int))) ls.length)) else none else rnO f ls lv xs R t
def zTm (M:Nat):qy:=⟨List.replicate M false,List.replicate M zSp,List.replicate M zSp⟩
theorem qrT {α:Type} [Inhabited α] {v:α} {M k:Nat} (hk:k<M):gt (List.replicate M v) k=v:=by rw [qe4 (by rw [jI];exact hk)];simp
theorem qub {M:Nat}:TmOk (zTm M) M:=⟨jI,jI,jI,fun k hk=>by
 show slR (gt (List.replicate M zSp) k)
 rw [qrT hk];exact qvE⟩
theorem qws {M:Nat} {l:List Nat}:Bare (zTm M) M l:=fun k hk _=>⟨qrT hk,qrT hk,qrT hk⟩
theorem qx7 (h:blockB b=true) (hf:SpansS b c f) (hx:SrcOk xs):∀ (R:List Nat) (t t':qy),(∀ k,k ∈ R→k<2*(places b.Ab).length)→TmOk t (2*(places b.Ab).length)→rnO f (linksL b) lv xs R t=some t'→TmOk t' (2*(places b.Ab).length):=by
 intro R
 induction R with
 | nil=>intro t t' _ ht e;obtain rfl:=Option.some.inj e;exact ht
 | cons k R ih =>
  intro t t' hR ht e
  have hsl:=qtl (node:=(k:Int)) (lv:=lv) h hf ht hx (linksL b).length (jb _)
  unfold rnO at e
  cases h1:(ndS f (linksL b) lv t (k:Int) (srcV (srcO xs (k:Int))) (linksL b).length).1
  ·rw [h1] at e
   exact ih _ _ (fun i hi=>hR i (jk _ hi)) ht e
  ·rw [h1] at e
   cases h2:spanB (ndS f (linksL b) lv t (k:Int) (srcV (srcO xs (k:Int))) (linksL b).length).2.Ah
   ·rw [h2] at e;cases e
   ·rw [h2] at e
    exact ih _ _ (fun i hi=>hR i (jk _ hi)) (qsv ht (hR k (jt ..)) hsl) e
def runL (o:Option qy) (m:Nat):Flow (qy × Bool) (List qd × List qd × List Bool × Int):=match o with|some t'=>.nxt (t'.Bc,t'.Ah,t'.Bg,(m:Int))|none=>.ret (zT,false)
theorem qxB (h:blockB b=true) (hf:SpansS b c f) (hl:lv.length=(linksL b).length) (hx:SrcOk xs) {R:List Nat} (hR:∀ k,k ∈ R→k<2*(places b.Ab).length) (hRl:R.length≤1000) :
  Ev (fun n=>qkI n b c (linksL b) lv xs (ints R)) (runR (rnO f (linksL b) lv xs R (zTm (2*(places b.Ab).length)))):=by
 have hpl:=qa0 (qX (qaq h))
 have hcn:=qmy h
 obtain ⟨M,eM⟩:∃ M,M=2*(places b.Ab).length:=⟨_,rfl⟩
 have hM:M≤156:=by omega
 have main:∀ d j t,j+d=R.length→TmOk t M→Ev (fun n=>qca b c (linksL b) lv xs (ints R) n t.Bc t.Ah t.Bg (j:Int)) (runL (rnO f (linksL b) lv xs (R.drop j) t) R.length):=by
  intro d
  induction d with
  | zero =>
   intro j t hj ht
   obtain rfl:j=R.length:=by omega
   rw [List.drop_length]
   refine Ev.succ ?_
   simp only [qca,qdL,ql (jb _),cond_false]
   exact .done
  | succ d ih =>
   intro j t hj ht
   have hjl:j<R.length:=by omega
   have k1:=hR _ (jo hjl)
   have hi:=qn9 hjl
   have hd:R.drop j=R[j]::R.drop (j+1):=jD hjl
   generalize R[j]=k at k1 hi hd
   rw [←eM] at k1
   have hs:=qwI (node:=(k:Int)) h hf hl (by rw [←eM];exact ht) hx
   have hsl:=qtl (node:=(k:Int)) (lv:=lv) h hf (by rw [←eM];exact ht) hx (linksL b).length (jb _)
   have ir:idx t.Bg (k:Int)=some (gt t.Bg k):=qA (by rw [ht.r];exact k1)
   have ia:idx t.Ah (k:Int)=some (gt t.Ah k):=qA (by rw [ht.a];exact k1)
   have is:idx t.Bc (k:Int)=some (gt t.Bc k):=qA (by rw [ht.s];exact k1)
   have stp:∀ n,qca b c (linksL b) lv xs (ints R) (n+1) t.Bc t.Ah t.Bg (j:Int)=(qhV n b c (linksL b) lv xs t (k:Int)).bind fun o=>match o with
    | (r4,r5)=>bif (!r4) then qca b c (linksL b) lv xs (ints R) n t.Bc t.Ah t.Bg ((j+1:Nat):Int) else bif (!spanB r5.Ah) then some (.ret (zT,false)) else
     qca b c (linksL b) lv xs (ints R) n (setS t.Bc (k:Int) r5.Bc) (setS t.Ah (k:Int) r5.Ah) (setS t.Bg (k:Int) true) ((j+1:Nat):Int):=fun n=>by
    simp only [qca,qdL,qk hjl,cond_true,hi,ja,qqN,ir,ia,is,wS j]
    rfl
   rw [hd]
   unfold rnO
   generalize ndS f (linksL b) lv t (k:Int) (srcV (srcO xs (k:Int))) (linksL b).length=s at hs hsl ⊢
   obtain ⟨s1,s2⟩:=s
   cases s1
   ·exact Ev.step stp (Ev.bind hs (ih (j+1) t (by omega) ht))
   ·cases hsp:spanB s2.Ah
    ·refine Ev.step stp (Ev.bind hs ?_)
     simp only [hsp];exact .done
    ·refine Ev.step stp (Ev.bind hs ?_)
     simp only [hsp]
     exact ih (j+1) (setT t k (true,s2)) (by omega) (qsv ht k1 hsl)
 have hm1:mkS (M:Int) false=some (List.replicate M false):=qm6 (by omega)
 have hm2:mkS (M:Int) (⟨0,0⟩:qd)=some (List.replicate M zSp):=qm6 (by omega)
 have o2:=main R.length 0 (zTm M) (by omega) qub
 rw [List.drop_zero] at o2
 rw [←eM] at hcn ⊢
 unfold qkI qk7
 refine Ev.bind hcn ?_
 simp only [hm1,hm2,ja]
 refine Ev.bind o2 ?_
 cases rnO f (linksL b) lv xs R (zTm M)<;>exact .done
theorem qxv (h:blockB b=true) (hg:SpansS b c g) (hgf:∀ k s,(f k s).2=(g k s).2) (hf:SpansI b c ex f) (hl:lv.length=(linksL b).length) (hx:SrcOk xs) {R:List Nat} (hR:∀ j,∀ hj:j<R.length,R[j]<2*(places b.Ab).length∧R[j] ∉ R.take j) (hRl:R.length≤1000) :
  Ev (fun n=>qeQ n (some ⟨some (viewE b ex),lv⟩) c xs (ints R)) (runR (rnO f (linksL b) lv xs R (zTm (2*(places b.Ab).length)))):=by
 have hpl:=qa0 (qX (qaq h))
 have hnd:=qor (v:=viewE b ex) hpl
 have epl:(viewE b ex).places.length=(places b.Ab).length:=rfl
 rw [epl] at hnd
 obtain ⟨M,eM⟩:∃ M,M=2*(places b.Ab).length:=⟨_,rfl⟩
 have hM:M≤156:=by omega
 have main:∀ d j t,j+d=R.length→TmOk t M→Bare t M (R.take j)→Ev (fun n=>qaN (some ⟨some (viewE b ex),lv⟩) c xs (ints R) n t.Bc t.Ah t.Bg (j:Int)) (runL (rnO f (linksL b) lv xs (R.drop j) t) R.length):=by
  intro d
  induction d with
  | zero =>
   intro j t hj ht _
   obtain rfl:j=R.length:=by omega
   rw [List.drop_length]
   refine Ev.succ ?_
   simp only [qaN,qdL,ql (jb _),cond_false]
   exact .done
  | succ d ih =>
   intro j t hj ht hb
   have hjl:j<R.length:=by omega
   obtain ⟨k1,k2⟩:=hR j hjl
   have hi:=qn9 hjl
   have htk:R.take (j+1)=R.take j++[R[j]]:=ju hjl
   have hd:R.drop j=R[j]::R.drop (j+1):=jD hjl
   generalize R[j]=k at k1 k2 hi htk hd
   rw [←eM] at k1
   have hp:=qvW (node:=(k:Int)) h hf hl (by rw [←eM];exact ht) hx.len
   have hsl:=qrl (node:=(k:Int)) (lv:=lv) h hg hgf (by rw [←eM];exact ht) hx (linksL b).length (jb _)
   have hz:=qxd (f:=f) (b:=b) (lv:=lv) (t:=t) (xs:=xs) (node:=(k:Int)) (linksL b).length
   obtain ⟨b1,b2,b3⟩:=hb k k1 k2
   have ir:idx t.Bg (k:Int)=some (gt t.Bg k):=qA (by rw [ht.r];exact k1)
   have ia:idx t.Ah (k:Int)=some (gt t.Ah k):=qA (by rw [ht.a];exact k1)
   have is:idx t.Bc (k:Int)=some (gt t.Bc k):=qA (by rw [ht.s];exact k1)
   have ptp:∀ n,qaN (some ⟨some (viewE b ex),lv⟩) c xs (ints R) (n+1) t.Bc t.Ah t.Bg (j:Int)=(qdk n (some ⟨some (viewE b ex),lv⟩) c xs t (k:Int)).bind fun o=>match o with
    | (r3,r4)=>(bif r3 then some (!spanB r4.Ah) else some false).bind fun b3=>bif b3 then some (.ret (zT,false)) else
     qaN (some ⟨some (viewE b ex),lv⟩) c xs (ints R) n (setS t.Bc (k:Int) r4.Bc) (setS t.Ah (k:Int) r4.Ah) (setS t.Bg (k:Int) r3) ((j+1:Nat):Int):=fun n=>by
    simp only [qaN,qdL,qk hjl,cond_true,hi,ja,qoO,ir,ia,is,wS j]
    rfl
   rw [hd]
   unfold rnO
   generalize ndS f (linksL b) lv t (k:Int) (srcV (srcO xs (k:Int))) (linksL b).length=s at hp hsl hz ⊢
   obtain ⟨s1,s2⟩:=s
   cases s1
   ·have:=hz rfl
    simp only at this
    subst this
    have e1:setS t.Bc (k:Int) zSrc.Bc=t.Bc:=qoY (by rw [ht.s];exact k1) b3
    have e2:setS t.Ah (k:Int) zSrc.Ah=t.Ah:=qoY (by rw [ht.a];exact k1) b2
    have e3:setS t.Bg (k:Int) false=t.Bg:=qoY (by rw [ht.r];exact k1) b1
    refine Ev.step ptp (Ev.bind hp ?_)
    simp only [cond_false,ja,e1,e2,e3]
    exact ih (j+1) t (by omega) ht (fun i hi hni=>hb i hi (fun hm=>hni (by rw [htk];exact List.mem_append_left _ hm)))
   ·cases hsp:spanB s2.Ah
    ·refine Ev.step ptp (Ev.bind hp ?_)
     simp only [hsp];exact .done
    ·refine Ev.step ptp (Ev.bind hp ?_)
     simp only [hsp]
     refine ih (j+1) (setT t k (true,s2)) (by omega) (qsv ht k1 hsl) (fun i hi hni=>?_)
     rw [htk] at hni
     have hne:i ≠ k:=fun e=>hni (List.mem_append_right _ (List.mem_singleton.2 e))
     have:=hb i hi (fun hm=>hni (List.mem_append_left _ hm))
     refine ⟨?_,?_,?_⟩
     ·show gt (setS _ _ _) i=_;rw [qpW (by rw [ht.r];exact k1),if_neg hne];exact this.1
     ·show gt (setS _ _ _) i=_;rw [qpW (by rw [ht.a];exact k1),if_neg hne];exact this.2.1
     ·show gt (setS _ _ _) i=_;rw [qpW (by rw [ht.s];exact k1),if_neg hne];exact this.2.2
 have hm1:mkS (M:Int) false=some (List.replicate M false):=qm6 (by omega)
 have hm2:mkS (M:Int) (⟨0,0⟩:qd)=some (List.replicate M zSp):=qm6 (by omega)
 have o3:=main R.length 0 (zTm M) (by omega) qub qws
 rw [List.drop_zero] at o3
 rw [←eM] at hnd ⊢
 unfold qeQ qg4
 simp only [ja,hnd,hm1,hm2]
 refine Ev.bind o3 ?_
 cases rnO f (linksL b) lv xs R (zTm M)<;>exact .done
end
end Go.Fw


namespace Go.Fw
open Go Go.Proofs
open Go.RowKit (Below)
set_option maxRecDepth 100000
set_option maxHeartbeats 1600000
variable {n:Nat} {w:World} {cs1 cs2 cs3 cs4 cs5 cs6 cs7 cs8 cs9:List Value}
def qdc (n:Nat) (j:qbb):Option ((Option Tl20Work) × Int) :=
 (qdf n (⟨(⟨j.Af.Ay.Aq⟩:qq),(⟨j.Af.Ab.Aa,j.Af.Ab.Am,j.Af.Ab.Aj⟩:qe),j.Af.Ac⟩:qf) (⟨j.Ai.Bb,j.Ai.As,j.Ai.Az,j.Ai.Ar,j.Ai.Ba⟩:qt) j.Bi j.Av).bind fun o=>match o with
  | (r2,r3) =>
   bif (r3 != 0) then some (none,r3) else
   (qeY n (⟨(⟨j.Af.Ay.Aq⟩:qq),(⟨j.Af.Ab.Aa,j.Af.Ab.Am,j.Af.Ab.Aj⟩:qe),j.Af.Ac⟩:qf)).bind fun r4 =>
   (qg0 n r4 j.Bi).bind fun r5 =>
   some ((some (⟨(⟨(⟨(⟨j.Af.Ay.Aq⟩:qq),(⟨j.Af.Ab.Aa,j.Af.Ab.Am,j.Af.Ab.Aj⟩:qe),j.Af.Ac⟩:qf),(⟨j.Ai.Bb,j.Ai.As,j.Ai.Az,j.Ai.Ar,j.Ai.Ba⟩:qt),j.Bi,j.Av⟩:qbb),r4,r5,r2⟩:Tl20Work)),0)
theorem qpG {A:Nat→Prop} (hA:∀ b,A b→old w b) {j:qbb} (ha1:GoT.R w A j cs1) {r:((Option Tl20Work) × Int)} (hF:qdc n j=some r):RetG Tryz.prog 33 [GoT.v qbb cs1] w A r:=by
 obtain ⟨p1,k1,p2,k2,p3,k3,p4,k4,p5,k5,p6,k6,p7,k7,rfl,s1,s2,s3,s4,s5,s6,s7⟩:=qdo ha1
 have hg:=Rg.start hA
 refine qeE Tryz.func33 rfl (m:=34) rfl rfl (fun h=>?_)
 refine zSR (qv h rfl rfl fun w1 bb1 h=>X4 13 0 0 0 0 h rfl ?_)
 obtain ⟨r1,hr1,hF⟩:=qc hF
 obtain ⟨r2,r3⟩:=r1
 refine qaD (r2,r3) h (cB 59 rfl) (qlk (qdw _ (h.oldS (s1.mono hg.old)) (h.oldS (s2.mono hg.old)) (h.oldS (s3.mono hg.old)) (h.oldS (s4.mono hg.old)) (h.oldS (s5.mono hg.old))) (qaV _) ⟨_,_,rfl,(h.oldS (s6.mono hg.old))⟩ ⟨_,_,rfl,(h.oldS (s7.mono hg.old))⟩ hr1) rfl rfl rfl rfl fun w2 S1 us1 hv1 hr2=>?_
 obtain ⟨S2,S3,cs2,us2,rfl,hv2,hr3⟩:=hv1.cons hr2
 obtain ⟨p8,k8,p9,k9,p10,k10,rfl,-,-,-⟩:=qcx (hv2.sh.own 0 rfl)
 obtain ⟨rfl,h⟩:=hv2.lastI hr3
 refine zp3 rfl (qj qa h rfl rfl rfl fun w3 bb2 h=>zs 0 h rfl fun w4 h=>X0 8 rfl (qh rfl hF ?_ ?_))<;>intro hF
 ·refine X0 6 rfl ?_
  obtain rfl:=qb hF
  have hv4:GoRs.Rs (ρ:=((Option Tl20Work) × Int)) h.wc (reg A w h.wc) (none,r3) [GoT.v (Option Tl20Work) [.pointer none],GoT.v Int [.int .i64 r3]]:=⟨_,_,rfl,rfl,⟨_,rfl,rfl⟩⟩
  exact qe1 qa (ρ:=((Option Tl20Work) × Int)) (r:=(none,r3)) [GoT.v (Option Tl20Work) [.pointer none],GoT.v Int [.int .i64 r3]] h ⟨rfl,rfl,trivial⟩ hv4
 refine X1 5 2 h rfl (zcL h hF (qgS (qdw _ (h.oldS (s1.mono hg.old)) (h.oldS (s2.mono hg.old)) (h.oldS (s3.mono hg.old)) (h.oldS (s4.mono hg.old)) (h.oldS (s5.mono hg.old)))) rfl fun r4 w5 S5 p11 k11 h hF=>X0 3 rfl (rA [] [1,3] h rfl fun w6 h=>M3 95 [0,1,2,3,4,6] 1 1 0 (h.pick [1,3] rfl) rfl (Ao 5 127 rfl (zcL h hF (qhq (h.own 0 rfl) ⟨_,_,rfl,(h.oldS (s6.mono hg.old))⟩) rfl fun r5 w7 S6 p12 k12 h hF=>Ag (h.pick [2,4] rfl) (Aw 7 255 (fun w' hw=>qY qa [0,1,2,3] [.tmp 25,.tmp 26,.tmp 30,.tmp 31] rfl rfl rfl rfl rfl rfl rfl rfl) (h.pick [2,4] rfl) rfl ?_)))))
 refine Ao 8 511 rfl (qv h rfl rfl fun w8 bb3 h=>G0 2047 [9,10] (h.pick [3,5] rfl) rfl (Ad ?_))
 obtain rfl:=qb hF
 have hv5:GoRs.Rs (ρ:=((Option Tl20Work) × Int)) h.wc (reg A w h.wc) ((some (⟨(⟨(⟨(⟨j.Af.Ay.Aq⟩:qq),(⟨j.Af.Ab.Aa,j.Af.Ab.Am,j.Af.Ab.Aj⟩:qe),j.Af.Ac⟩:qf),(⟨j.Ai.Bb,j.Ai.As,j.Ai.Az,j.Ai.Ar,j.Ai.Ba⟩:qt),j.Bi,j.Av⟩:qbb),r4,r5,r2⟩:Tl20Work)),0) [GoT.v (Option Tl20Work) [.pointer (some ⟨bb3,0,none⟩)],GoT.v Int [.int .i64 0]]:=⟨_,_,rfl,(hg.outR h (Rg.boxR (x:=(⟨(⟨(⟨(⟨j.Af.Ay.Aq⟩:qq),(⟨j.Af.Ab.Aa,j.Af.Ab.Am,j.Af.Ab.Aj⟩:qe),j.Af.Ac⟩:qf),(⟨j.Ai.Bb,j.Ai.As,j.Ai.Az,j.Ai.Ar,j.Ai.Ba⟩:qt),j.Bi,j.Av⟩:qbb),r4,r5,r2⟩:Tl20Work)) 0 h rfl (⟨[.slice p1 j.Af.Ay.Aq.length k1,.slice p2 j.Af.Ab.Aa.length k2,.slice p3 j.Af.Ab.Am.length k3,.slice p4 j.Af.Ab.Aj.length k4,.slice p5 j.Af.Ac.length k5,.string j.Ai.Bb,.int .i64 j.Ai.As,.int .i64 j.Ai.Az,.int .i64 j.Ai.Ar,.int .i64 j.Ai.Ba,.slice p6 j.Bi.length k6,.slice p7 j.Av.length k7],[.slice p11 r4.length k11,.slice p12 r5.length k12,.slice p8 r2.Bg.length k8,.slice p9 r2.Ah.length k9,.slice p10 r2.Bc.length k10],rfl,⟨[.slice p1 j.Af.Ay.Aq.length k1,.slice p2 j.Af.Ab.Aa.length k2,.slice p3 j.Af.Ab.Am.length k3,.slice p4 j.Af.Ab.Aj.length k4,.slice p5 j.Af.Ac.length k5],[.string j.Ai.Bb,.int .i64 j.Ai.As,.int .i64 j.Ai.Az,.int .i64 j.Ai.Ar,.int .i64 j.Ai.Ba,.slice p6 j.Bi.length k6,.slice p7 j.Av.length k7],rfl,⟨[.slice p1 j.Af.Ay.Aq.length k1],[.slice p2 j.Af.Ab.Aa.length k2,.slice p3 j.Af.Ab.Am.length k3,.slice p4 j.Af.Ab.Aj.length k4,.slice p5 j.Af.Ac.length k5],rfl,⟨_,_,rfl,(hg.inS h s1)⟩,⟨[.slice p2 j.Af.Ab.Aa.length k2,.slice p3 j.Af.Ab.Am.length k3,.slice p4 j.Af.Ab.Aj.length k4],[.slice p5 j.Af.Ac.length k5],rfl,⟨[.slice p2 j.Af.Ab.Aa.length k2],[.slice p3 j.Af.Ab.Am.length k3,.slice p4 j.Af.Ab.Aj.length k4],rfl,⟨_,_,rfl,(hg.inS h s2)⟩,⟨[.slice p3 j.Af.Ab.Am.length k3],[.slice p4 j.Af.Ab.Aj.length k4],rfl,⟨_,_,rfl,(hg.inS h s3)⟩,⟨_,_,rfl,(hg.inS h s4)⟩⟩⟩,⟨_,_,rfl,(hg.inS h s5)⟩⟩⟩,⟨[.string j.Ai.Bb,.int .i64 j.Ai.As,.int .i64 j.Ai.Az,.int .i64 j.Ai.Ar,.int .i64 j.Ai.Ba],[.slice p6 j.Bi.length k6,.slice p7 j.Av.length k7],rfl,⟨[.string j.Ai.Bb],[.int .i64 j.Ai.As,.int .i64 j.Ai.Az,.int .i64 j.Ai.Ar,.int .i64 j.Ai.Ba],rfl,rfl,⟨[.int .i64 j.Ai.As],[.int .i64 j.Ai.Az,.int .i64 j.Ai.Ar,.int .i64 j.Ai.Ba],rfl,rfl,⟨[.int .i64 j.Ai.Az],[.int .i64 j.Ai.Ar,.int .i64 j.Ai.Ba],rfl,rfl,⟨[.int .i64 j.Ai.Ar],[.int .i64 j.Ai.Ba],rfl,rfl,rfl⟩⟩⟩⟩,⟨[.slice p6 j.Bi.length k6],[.slice p7 j.Av.length k7],rfl,⟨_,_,rfl,(hg.inS h s6)⟩,⟨_,_,rfl,(hg.inS h s7)⟩⟩⟩⟩,⟨[.slice p11 r4.length k11],[.slice p12 r5.length k12,.slice p8 r2.Bg.length k8,.slice p9 r2.Ah.length k9,.slice p10 r2.Bc.length k10],rfl,(Rg.ownR 2 h rfl),⟨[.slice p12 r5.length k12],[.slice p8 r2.Bg.length k8,.slice p9 r2.Ah.length k9,.slice p10 r2.Bc.length k10],rfl,(Rg.ownR 1 h rfl),(Rg.ownR 4 h rfl)⟩⟩⟩))),⟨_,rfl,rfl⟩⟩
 exact qe1 qa (ρ:=((Option Tl20Work) × Int)) (r:=((some (⟨(⟨(⟨(⟨j.Af.Ay.Aq⟩:qq),(⟨j.Af.Ab.Aa,j.Af.Ab.Am,j.Af.Ab.Aj⟩:qe),j.Af.Ac⟩:qf),(⟨j.Ai.Bb,j.Ai.As,j.Ai.Az,j.Ai.Ar,j.Ai.Ba⟩:qt),j.Bi,j.Av⟩:qbb),r4,r5,r2⟩:Tl20Work)),0)) [GoT.v (Option Tl20Work) [.pointer (some ⟨bb3,0,none⟩)],GoT.v Int [.int .i64 0]] h ⟨rfl,rfl,trivial⟩ hv5
def qjH (_:Nat) (mode:Int):Option Bool :=
 bif (mode==0) then some true else
 some (mode==1)
theorem qpB {mode:Int}  {r:Bool} (hF:qjH n mode=some r):RetV Tryz.prog 34 [.int .i64 mode] w r:=by
 refine zV 9 Tryz.func34 rfl fun h=>X0 9 rfl (qi (t:=5) hF rfl ?_ ?_)<;>intro hF
 ·exact X0 5 rfl (rb h hF rfl)
 exact X0 7 rfl (rb h hF rfl)
def qcD (a_w:(Option Tl20Work)) (node:Int):Nat→Int→Option (Flow (qg × Bool) Int)
 | 0,_=>none
 | n+1,i1 =>
  (a_w).bind fun y1 =>
  bif decide (i1<(y1.j.Av.length:Int)) then
   (idx y1.j.Av i1).bind fun y2 =>
   bif (y2.Bo==node) then
    (idx y1.j.Av i1).bind fun y3 =>
    some (.ret (y3,true))
   else
    qcD a_w node n (W64 (i1+1))
  else
   some (.nxt i1)
def qgi (n:Nat) (a_w:(Option Tl20Work)) (node:Int):Option (qg × Bool) :=
 (qcD a_w node n 0).bind fun o=>match o with
 | .ret r=>some r
 | .nxt _ =>
  some ((⟨0,(⟨0,0⟩:qd),(⟨0,0⟩:qd)⟩:qg),false)
theorem qkZ {a_w:(Option Tl20Work)} {node:Int} (ha1:GoT.R w (old w) a_w cs1) {r:(qg × Bool)} (hF:qgi n a_w node=some r):RetV Tryz.prog 62 [GoT.v (Option Tl20Work) cs1,.int .i64 node] w r:=by
 obtain ⟨p1,rfl,s1⟩:=qak ha1
 refine zV 37 Tryz.func62 rfl fun h=>zSR (qj qa h rfl rfl rfl fun w1 bb1 h=>X0 7 rfl ?_)
 obtain ⟨o1,hF,hK1⟩:=qc hF
 refine qm (rL (fun m e w'=>∃ (i1:Int),qcD a_w node m i1=some o1∧e=[(0,.pointer p1),(1,.int .i64 node),(4,.pointer (some ⟨bb1,0,none⟩)),(6,.int .i64 i1)]∧SH w w' [Ch.box bb1 [.int .i64 0,.int .i64 0,.int .i64 0,.int .i64 0,.int .i64 0] 116]) n ⟨_,hF,rfl,h⟩ rfl ?_)
 rintro m1 e1 w2 ⟨i1,hF,rfl,h⟩
 rcases m1 with _|m1
 ·cases hF
 refine X0 5 rfl ?_
 obtain ⟨y1,hy1,hF⟩:=qc hF
 obtain ⟨b1,o_1,cs2,rfl,-,hr1,hc1⟩:=PtR.get s1 hy1
 obtain ⟨p2,k1,p3,k2,p4,k3,p5,k4,p6,k5,p7,k6,p8,k7,p9,k8,p10,k9,p11,k10,p12,k11,p13,k12,rfl,s2,s3,s4,s5,s6,s7,s8,s9,s10,s11,s12,s13⟩:=qiN hr1
 refine zp3 rfl (zc 11 (hc1.below h.below) rfl (X0 3 rfl (qh rfl hF ?_ ?_)))<;>intro hF
 ·refine X0 9 rfl (zc 11 (hc1.below h.below) rfl (zp1 rfl ?_))
  obtain ⟨y2,hy2,hF,he1,b2,_,q1,cs3,hp1,hq1,hr2,hc3⟩:=s8.ix hF
  obtain rfl:=qJ hr2
  refine zxe hp1 hq1 he1 rfl (zp1 rfl (zc 0 (hc3.below h.below) rfl (X0 3 rfl (qh rfl hF ?_ ?_))))<;>intro hF
  ·refine X0 6 rfl (zc 11 (hc1.below h.below) rfl (zp1 rfl ?_))
   obtain ⟨y3,hy3,hF,he2,b3,_,q2,cs4,hp2,hq2,hr3,hc5⟩:=s8.ix hF
   obtain rfl:=qJ hr3
   refine zxe hp2 hq2 he2 rfl (zc 0 (hc5.below h.below) rfl (zs 0 h rfl fun w3 h=>X0 2 rfl ?_))
   obtain rfl:=qb hF;replace hF:=hK1
   obtain rfl:=qb hF
   exact qU qa (ρ:=(qg × Bool)) [GoT.v qg (qfk y3),GoT.v Bool [.bool true]] h ⟨⟨_,_,_,rfl,rfl,h.box 0 rfl,rfl⟩,rfl,trivial⟩ (PV.done h (qag h (qz (S:=fun _=>False) (qb6 y3)) (qW (qz (S:=fun _=>False) rfl)) (by rfl)))
  exact X0 7 rfl (rK ⟨_,hF,rfl,h⟩ rfl)
 refine qu rfl ?_
 obtain rfl:=qb hF;replace hF:=hK1
 refine zSR (r_v (qY qa [] [] rfl rfl rfl rfl rfl rfl rfl rfl) rfl (zs 0 h rfl fun w4 h=>X0 2 rfl ?_))
 obtain rfl:=qb hF
 exact qU qa (ρ:=(qg × Bool)) [GoT.v qg [.int .i64 0,.int .i64 0,.int .i64 0,.int .i64 0,.int .i64 0],GoT.v Bool [.bool false]] h ⟨⟨_,_,_,rfl,rfl,h.box 0 rfl,rfl⟩,rfl,trivial⟩ (PV.done h (qag h (qz (S:=fun _=>False) (qb6 (⟨0,(⟨0,0⟩:qd),(⟨0,0⟩:qd)⟩:qg))) (qW (qz (S:=fun _=>False) rfl)) (by rfl)))
def qeg (a_0:(Option Tl20Work)) (a_2:(List Int)) (r3:Bool):Nat→Int→Int→Option (Flow (Int × Bool) (Int × Int))
 | 0,_,_=>none
 | n+1,i1,i2 =>
  (
   bif decide (i2<(a_2.length:Int)) then some r3 else
   some false).bind fun b1 =>
  bif b1 then
   (idx a_2 i2).bind fun y1 =>
   (
    (a_0).bind fun y4 =>
    (qas n y1 0 (W64 ((y4.links.length:Int)-1))).bind fun r4 =>
    bif (!r4) then some true else
    (idx y4.live y1).bind fun y5 =>
    bif (!y5) then some true else
    (idx y4.links y1).bind fun y6 =>
    some (y6.Bk != i1)).bind fun b3 =>
   bif b3 then some (.ret (0,false)) else
   (a_0).bind fun y2 =>
   (idx y2.links y1).bind fun y3 =>
   qeg a_0 a_2 r3 n y3.To (W64 (i2+1))
  else
   some (.nxt (i1,i2))
def qk0 (n:Nat) (a_0:(Option Tl20Work)) (a_1:Int) (a_2:(List Int)):Option (Int × Bool) :=
 (qgi n a_0 a_1).bind fun o=>match o with
  | (_,r3) =>
   (qeg a_0 a_2 r3 n a_1 0).bind fun o=>match o with
   | .ret r=>some r
   | .nxt (i1,_) =>
    some (i1,r3)
theorem qp8 {a_0:(Option Tl20Work)} {a_1:Int} {a_2:(List Int)} (ha1:GoT.R w (old w) a_0 cs1) (ha2:GoT.R w (old w) a_2 cs2) {r:(Int × Bool)} (hF:qk0 n a_0 a_1 a_2=some r):RetV Tryz.prog 35 [GoT.v (Option Tl20Work) cs1,.int .i64 a_1,GoT.v (List Int) cs2] w r:=by
 obtain ⟨p1,rfl,s1⟩:=qak ha1
 obtain ⟨p2,k1,rfl,s2⟩:=ha2
 refine zV 74 Tryz.func35 rfl fun h=>X0 9 rfl ?_
 obtain ⟨r1,hr1,hF⟩:=qc hF
 obtain ⟨r2,r3⟩:=r1
 refine qaD (r2,r3) h (cB 62 rfl) (qkZ (h.old s1) hr1) rfl rfl rfl rfl fun w1 S1 us1 hv1 hr2=>?_
 obtain ⟨S2,S3,cs3,us2,rfl,hv2,hr3⟩:=hv1.cons hr2
 obtain rfl:=qJ (hv2.sh.own 0 rfl)
 obtain ⟨rfl,h⟩:=hv2.lastB hr3
 refine zp3 rfl (qj qa h rfl rfl rfl fun w2 bb1 h=>zs 0 h rfl fun w3 h=>X0 12 rfl ?_)
 obtain ⟨o1,hF,hK1⟩:=qc hF
 refine qm ?_
 replace h:=h.pick [] rfl
 refine rL (fun m e w'=>∃ (i1:Int) (i2:Int),qeg a_0 a_2 r3 m i1 i2=some o1∧e=[(0,.pointer p1),(2,.slice p2 a_2.length k1),(9,.bool r3),(10,.int .i64 i1),(11,.int .i64 i2)]∧SH w w' []) n ⟨_,_,hF,rfl,h⟩ rfl ?_
 rintro m1 e1 w4 ⟨i1,i2,hF,rfl,h⟩
 rcases m1 with _|m1
 ·cases hF
 refine zSS ?_
 obtain ⟨KF2,hKF2,o3,hF,hK3⟩:=bindE hF
 refine qbl (fun e w'=>∃ (b1:Bool),KF2 b1=some o1∧e=[(0,.pointer p1),(2,.slice p2 a_2.length k1),(9,.bool r3),(10,.int .i64 i1),(11,.int .i64 i2),(26,.bool b1)]∧SH w w' []) ?_ ?_
 ·refine X0 6 rfl (qi (t:=24) hF rfl ?_ ?_)<;>intro hF
  ·refine X0 4 rfl ?_
   obtain rfl:=qb hF
   exact rG ⟨_,hK3,rfl,h⟩ rfl
  refine X0 3 rfl ?_
  obtain rfl:=qb hF
  exact rG ⟨_,hK3,rfl,h⟩ rfl
 rintro e3 w7 ⟨b1,hF,rfl,h⟩
 subst hKF2
 refine qh rfl hF ?_ ?_<;>intro hF
 ·refine X0 7 rfl ?_
  obtain ⟨y1,hy1,hF,he1,b2,_,q1,cs4,hp1,hq1,rfl,hc2⟩:=s2.ix hF
  refine zxe hp1 hq1 he1 rfl (zc 0 (hc2.below h.below) rfl (X0 4 rfl ?_))
  obtain ⟨KF1,hKF1,o2,hF,hK2⟩:=bindE hF
  refine qbl (fun e w'=>∃ (b3:Bool),KF1 b3=some o1∧e=[(0,.pointer p1),(2,.slice p2 a_2.length k1),(9,.bool r3),(11,.int .i64 i2),(12,.int .i64 y1),(63,.bool b3)]∧SH w w' []) ?_ ?_
  ·refine X0 3 rfl ?_
   obtain ⟨y4,hy4,hF⟩:=qc hF
   obtain ⟨b6,o_4,cs7,rfl,-,hr8,hc6⟩:=PtR.get s1 hy4
   obtain ⟨p15,k14,p16,k15,p17,k16,p18,k17,p19,k18,p20,k19,p21,k20,p22,k21,p23,k22,p24,k23,p25,k24,p26,k25,rfl,s15,s16,s17,s18,s19,s20,s21,s22,s23,s24,s25,s26⟩:=qiN hr8
   refine zp2 rfl (zc 12 (hc6.below h.below) rfl (zp2 rfl (zcB h hF qad rfl fun r4 w5 h hF=>zp2 rfl (qi (t:=42) hF rfl ?_ ?_))))<;>intro hF
   ·refine X0 22 rfl ?_
    obtain rfl:=qb hF
    exact rG ⟨_,hK2,rfl,h⟩ rfl
   refine X0 7 rfl (zc 13 (hc6.below h.below) rfl (X0 3 rfl ?_))
   obtain ⟨y5,hy5,hF,he3,b7,_,q3,cs8,hp3,hq3,rfl,hc7⟩:=s23.ix hF
   refine zxe hp3 hq3 he3 rfl (X0 1 rfl (zc 0 (hc7.below h.below) rfl (X0 4 rfl (qi (t:=52) hF rfl ?_ ?_))))<;>intro hF
   ·refine X0 12 rfl ?_
    obtain rfl:=qb hF
    exact rG ⟨_,hK2,rfl,h⟩ rfl
   refine X0 7 rfl (zc 12 (hc6.below h.below) rfl (X0 3 rfl ?_))
   obtain ⟨y6,hy6,hF,he4,b8,_,q4,cs9,hp4,hq4,hr11,hc8⟩:=s22.ix hF
   obtain rfl:=qam hr11
   refine zxe hp4 hq4 he4 rfl (X0 3 rfl (zc 0 (hc8.below h.below) rfl (X0 6 rfl ?_)))
   obtain rfl:=qb hF
   exact rG ⟨_,hK2,rfl,h⟩ rfl
  rintro e2 w6 ⟨b3,hF,rfl,h⟩
  subst hKF1
  refine qh rfl hF ?_ ?_<;>intro hF
  ·refine X0 5 rfl ?_
   obtain rfl:=qb hF;replace hF:=hK1
   obtain rfl:=qb hF
   exact qU qa (ρ:=(Int × Bool)) [GoT.v Int [.int .i64 0],GoT.v Bool [.bool false]] h ⟨rfl,rfl,trivial⟩ (PV.done h (qag h (qz (S:=fun _=>False) rfl) (qW (qz (S:=fun _=>False) rfl)) (by rfl)))
  refine X0 3 rfl ?_
  obtain ⟨y2,hy2,hF⟩:=qc hF
  obtain ⟨b4,o_2,cs5,rfl,-,hr6,hc4⟩:=PtR.get s1 hy2
  obtain ⟨p3,k2,p4,k3,p5,k4,p6,k5,p7,k6,p8,k7,p9,k8,p10,k9,p11,k10,p12,k11,p13,k12,p14,k13,rfl,s3,s4,s5,s6,s7,s8,s9,s10,s11,s12,s13,s14⟩:=qiN hr6
  refine zp2 rfl (zc 12 (hc4.below h.below) rfl (zp1 rfl ?_))
  obtain ⟨y3,hy3,hF,he2,b5,_,q2,cs6,hp2,hq2,hr7,hc5⟩:=s10.ix hF
  obtain rfl:=qam hr7
  exact zxe hp2 hq2 he2 rfl (zp1 rfl (zc 1 (hc5.below h.below) rfl (X0 8 rfl (rK ⟨_,_,hF,rfl,h⟩ rfl))))
 refine qu rfl ?_
 obtain rfl:=qb hF;replace hF:=hK1
 refine X0 7 rfl ?_
 obtain rfl:=qb hF
 exact qU qa (ρ:=(Int × Bool)) [GoT.v Int [.int .i64 i1],GoT.v Bool [.bool r3]] h ⟨rfl,rfl,trivial⟩ (PV.done h (qag h (qz (S:=fun _=>False) rfl) (qW (qz (S:=fun _=>False) rfl)) (by rfl)))
def qir (_:Nat) (s:qd) (mode:Int):Option Int :=
 bif (mode==1) then some s.Bd else
 some s.Ap
theorem qmf {s:qd} {mode:Int} (ha1:GoT.R w (old w) s cs1) {r:Int} (hF:qir n s mode=some r):RetV Tryz.prog 64 [GoT.v qd cs1,.int .i64 mode] w r:=by
 obtain rfl:=qn ha1
 refine zV 11 Tryz.func64 rfl fun h=>zSR (qv h rfl rfl fun w1 bb1 h=>X0 8 rfl (qh rfl hF ?_ ?_))<;>intro hF
 ·exact X1 6 0 h rfl (ri h hF rfl)
 exact X1 7 0 h rfl (ri h hF rfl)
def qlb (n:Nat) (a_w:(Option Tl20Work)) (link:Int) (mode:Int):Option Int :=
 (a_w).bind fun y1 =>
 (idx y1.links link).bind fun y2 =>
 (idx y1.t.Bc y2.Bk).bind fun y3 =>
 (qf1 n (⟨(⟨y1.j.Af.Ay.Aq⟩:qq),(⟨y1.j.Af.Ab.Aa,y1.j.Af.Ab.Am,y1.j.Af.Ab.Aj⟩:qe),y1.j.Af.Ac⟩:qf) (⟨y1.j.Ai.Bb,y1.j.Ai.As,y1.j.Ai.Az,y1.j.Ai.Ar,y1.j.Ai.Ba⟩:qt) y2 y3).bind fun o=>match o with
  | (r2,_) =>
   (qir n r2 mode).bind fun r4 =>
   some r4
theorem qoX {a_w:(Option Tl20Work)} {link:Int} {mode:Int} (ha1:GoT.R w (old w) a_w cs1) {r:Int} (hF:qlb n a_w link mode=some r):RetV Tryz.prog 65 [GoT.v (Option Tl20Work) cs1,.int .i64 link,.int .i64 mode] w r:=by
 obtain ⟨p1,rfl,s1⟩:=qak ha1
 refine zV 44 Tryz.func65 rfl fun h=>X0 7 rfl ?_
 obtain ⟨y1,hy1,hF⟩:=qc hF
 obtain ⟨b1,o_1,cs2,rfl,-,hr1,hc1⟩:=PtR.get s1 hy1
 obtain ⟨p2,k1,p3,k2,p4,k3,p5,k4,p6,k5,p7,k6,p8,k7,p9,k8,p10,k9,p11,k10,p12,k11,p13,k12,rfl,s2,s3,s4,s5,s6,s7,s8,s9,s10,s11,s12,s13⟩:=qiN hr1
 refine zp2 rfl (zc 12 (hc1.below h.below) rfl (zp1 rfl ?_))
 obtain ⟨y2,hy2,hF,he1,b2,_,q1,cs3,hp1,hq1,hr2,hc2⟩:=s9.ix hF
 obtain rfl:=qam hr2
 refine zxe hp1 hq1 he1 rfl (zc 0 (hc2.below h.below) rfl (qj qa h rfl rfl rfl fun w1 bb1 h=>zs 0 h rfl fun w2 h=>zNS (rA [] [0] h rfl fun w3 h=>M0 15 [0,1,2,3] (h.pick [0] rfl) rfl (Al 4 31 0 hc1 (h.pick [0] rfl) rfl (M0 511 [5,6,7,8] (h.pick [0] rfl) rfl (Al 9 1023 5 hc1 (h.pick [0] rfl) rfl (M1 32767 [10,11,12,13,14] 0 (h.pick [0] rfl) rfl (Al 15 65535 16 hc1 (h.pick [0] rfl) rfl (M1 262143 [16,17] 0 (h.pick [0] rfl) rfl ?_)))))))))
 obtain ⟨y3,hy3,hF,he2,b3,_,q2,cs4,hp2,hq2,hr3,hc3⟩:=s13.ix hF
 obtain rfl:=qn hr3
 refine Ae 18 524287 hp2 hq2 he2 (h.pick [0] rfl) rfl (Al 19 1048575 0 hc3 (h.pick [0] rfl) rfl ?_)
 obtain ⟨r1,hr4,hF⟩:=qc hF
 obtain ⟨r2,r3⟩:=r1
 refine qkE (fun e w'=>∃ (bb9:Nat),e=[(2,.int .i64 mode),(8,.pointer (some ⟨bb9,0,none⟩))]∧SH w w' [Ch.box bb9 (qfH r2) 86,Ch.box bb1 (qi0 y2) 121]) 0 (bits 28 268435455) ?_ ?_
 ·intro K
  refine qnc 20 24 25 rfl rfl rfl (bits 28 2097151) (bits 28 17825791) (bits 28 34603007) (by kernel_rfl) (by kernel_rfl) (by kernel_rfl) (by kernel_rfl) ?_ ?_ ?_
  ·refine qaD (r2,r3) h (cB 98 rfl) (qby (qdw _ (h.oldS s2) (h.oldS s3) (h.oldS s4) (h.oldS s5) (h.oldS s6)) (qaV _) (qbs y2) (qw y3) hr4) rfl rfl rfl rfl fun w15 S9 us5 hv7 hr11=>?_
   obtain ⟨S10,S11,cs9,us6,rfl,hv8,hr12⟩:=hv7.cons hr11
   obtain rfl:=qn (hv8.sh.own 0 rfl)
   obtain ⟨cs10,rfl,h⟩:=hv8.last hr12
   obtain rfl:=qn (h.own 0 rfl)
   refine G0 16777215 [21,22,23] (h.pick [2] rfl) rfl (At 24 25 33554431 50331647 rfl ?_ ?_)
   ·refine qj qa h rfl rfl rfl fun w16 bb7 h=>Ag (h.pick [3] rfl) (Ao 25 67108863 rfl (qj qa h rfl rfl rfl fun w17 bb8 h=>Ag (h.pick [4] rfl) (Ao 26 134217727 rfl (zs 1 h rfl fun w18 h=>Ag (h.pick [4] rfl) (Ao 27 268435455 rfl (zs 0 h rfl fun w19 h=>Ag (h.pick [4] rfl) ?_))))))
    replace h:=h.pick [1,4] rfl
    exact qcq [(2,_),(8,_)] ⟨rfl,rfl,trivial⟩ (K _ _ ⟨_,rfl,h⟩)
   refine qj qa h rfl rfl rfl fun w16 bb7 h=>Ag (h.pick [3] rfl) (Ao 24 67108863 rfl (qj qa h rfl rfl rfl fun w17 bb8 h=>Ag (h.pick [4] rfl) (Ao 26 134217727 rfl (zs 0 h rfl fun w18 h=>Ag (h.pick [4] rfl) (Ao 27 268435455 rfl (zs 1 h rfl fun w19 h=>Ag (h.pick [4] rfl) ?_))))))
   replace h:=h.pick [0,4] rfl
   exact qcq [(2,_),(8,_)] ⟨rfl,rfl,trivial⟩ (K _ _ ⟨_,rfl,h⟩)
  ·refine qj qa h rfl rfl rfl fun w15 bb7 h=>Ag (h.pick [1] rfl) (At 20 25 18874367 51380223 rfl ?_ ?_)
   ·refine qaD (r2,r3) h (cB 98 rfl) (qby (qdw _ (h.oldS s2) (h.oldS s3) (h.oldS s4) (h.oldS s5) (h.oldS s6)) (qaV _) (qbs y2) (qw y3) hr4) rfl rfl rfl rfl fun w16 S9 us5 hv7 hr11=>?_
    obtain ⟨S10,S11,cs9,us6,rfl,hv8,hr12⟩:=hv7.cons hr11
    obtain rfl:=qn (hv8.sh.own 0 rfl)
    obtain ⟨cs10,rfl,h⟩:=hv8.last hr12
    obtain rfl:=qn (h.own 0 rfl)
    refine G0 33554431 [21,22,23] (h.pick [3] rfl) rfl (Ao 25 67108863 rfl (qj qa h rfl rfl rfl fun w17 bb8 h=>Ag (h.pick [4] rfl) (Ao 26 134217727 rfl (zs 3 h rfl fun w18 h=>Ag (h.pick [4] rfl) (Ao 27 268435455 rfl (zs 0 h rfl fun w19 h=>Ag (h.pick [4] rfl) ?_))))))
    replace h:=h.pick [3,4] rfl
    exact qcq [(2,_),(8,_)] ⟨rfl,rfl,trivial⟩ (K _ _ ⟨_,rfl,h⟩)
   refine qj qa h rfl rfl rfl fun w16 bb8 h=>Ag (h.pick [2] rfl) (Ao 20 52428799 rfl (qaD (r2,r3) h (cB 98 rfl) (qby (qdw _ (h.oldS s2) (h.oldS s3) (h.oldS s4) (h.oldS s5) (h.oldS s6)) (qaV _) (qbs y2) (qw y3) hr4) rfl rfl rfl rfl fun w17 S9 us5 hv7 hr11=>?_))
   obtain ⟨S10,S11,cs9,us6,rfl,hv8,hr12⟩:=hv7.cons hr11
   obtain rfl:=qn (hv8.sh.own 0 rfl)
   obtain ⟨cs10,rfl,h⟩:=hv8.last hr12
   obtain rfl:=qn (h.own 0 rfl)
   refine G0 67108863 [21,22,23] (h.pick [4] rfl) rfl (Ao 26 134217727 rfl (zs 3 h rfl fun w18 h=>Ag (h.pick [4] rfl) (Ao 27 268435455 rfl (zs 2 h rfl fun w19 h=>Ag (h.pick [4] rfl) ?_))))
   replace h:=h.pick [3,4] rfl
   exact qcq [(2,_),(8,_)] ⟨rfl,rfl,trivial⟩ (K _ _ ⟨_,rfl,h⟩)
  refine qj qa h rfl rfl rfl fun w15 bb7 h=>Ag (h.pick [1] rfl) (At 20 24 35651583 51380223 rfl ?_ ?_)
  ·refine qaD (r2,r3) h (cB 98 rfl) (qby (qdw _ (h.oldS s2) (h.oldS s3) (h.oldS s4) (h.oldS s5) (h.oldS s6)) (qaV _) (qbs y2) (qw y3) hr4) rfl rfl rfl rfl fun w16 S9 us5 hv7 hr11=>?_
   obtain ⟨S10,S11,cs9,us6,rfl,hv8,hr12⟩:=hv7.cons hr11
   obtain rfl:=qn (hv8.sh.own 0 rfl)
   obtain ⟨cs10,rfl,h⟩:=hv8.last hr12
   obtain rfl:=qn (h.own 0 rfl)
   refine G0 50331647 [21,22,23] (h.pick [3] rfl) rfl (Ao 24 67108863 rfl (qj qa h rfl rfl rfl fun w17 bb8 h=>Ag (h.pick [4] rfl) (Ao 26 134217727 rfl (zs 0 h rfl fun w18 h=>Ag (h.pick [4] rfl) (Ao 27 268435455 rfl (zs 3 h rfl fun w19 h=>Ag (h.pick [4] rfl) ?_))))))
   replace h:=h.pick [0,4] rfl
   exact qcq [(2,_),(8,_)] ⟨rfl,rfl,trivial⟩ (K _ _ ⟨_,rfl,h⟩)
  refine qj qa h rfl rfl rfl fun w16 bb8 h=>Ag (h.pick [2] rfl) (Ao 20 52428799 rfl (qaD (r2,r3) h (cB 98 rfl) (qby (qdw _ (h.oldS s2) (h.oldS s3) (h.oldS s4) (h.oldS s5) (h.oldS s6)) (qaV _) (qbs y2) (qw y3) hr4) rfl rfl rfl rfl fun w17 S9 us5 hv7 hr11=>?_))
  obtain ⟨S10,S11,cs9,us6,rfl,hv8,hr12⟩:=hv7.cons hr11
  obtain rfl:=qn (hv8.sh.own 0 rfl)
  obtain ⟨cs10,rfl,h⟩:=hv8.last hr12
  obtain rfl:=qn (h.own 0 rfl)
  refine G0 67108863 [21,22,23] (h.pick [4] rfl) rfl (Ao 26 134217727 rfl (zs 2 h rfl fun w18 h=>Ag (h.pick [4] rfl) (Ao 27 268435455 rfl (zs 3 h rfl fun w19 h=>Ag (h.pick [4] rfl) ?_))))
  replace h:=h.pick [2,4] rfl
  exact qcq [(2,_),(8,_)] ⟨rfl,rfl,trivial⟩ (K _ _ ⟨_,rfl,h⟩)
 rintro e2 w20 ⟨bb9,rfl,h⟩
 exact Ad (X1 4 0 h rfl (zcI h hF (qmf (qw r2)) rfl fun r4 w21 h hF=>X0 2 rfl (ri h hF rfl)))
def qc0 (a_w:(Option Tl20Work)) (list:(List Int)) (mode:Int):Nat→Int→Int→Option (Int × Int)
 | 0,_,_=>none
 | n+1,i1,i2 =>
  bif decide (i2<(list.length:Int)) then
   (idx list i2).bind fun y1 =>
   (qlb n a_w y1 mode).bind fun r5 =>
   qc0 a_w list mode n (W64 (i1+r5)) (W64 (i2+1))
  else
   some (i1,i2)
def qho (n:Nat) (a_w:(Option Tl20Work)) (start:Int) (list:(List Int)) (mode:Int):Option Int :=
 (qgi n a_w start).bind fun o=>match o with
  | (r2,_) =>
   (qir n (⟨r2.Ah.Ap,r2.Ah.Bd⟩:qd) mode).bind fun r4 =>
   (qc0 a_w list mode n r4 0).bind fun o=>match o with
   | (i1,_) =>
    some i1
theorem qnJ {a_w:(Option Tl20Work)} {start:Int} {list:(List Int)} {mode:Int} (ha1:GoT.R w (old w) a_w cs1) (ha2:GoT.R w (old w) list cs2) {r:Int} (hF:qho n a_w start list mode=some r):RetV Tryz.prog 36 [GoT.v (Option Tl20Work) cs1,.int .i64 start,GoT.v (List Int) cs2,.int .i64 mode] w r:=by
 obtain ⟨p1,rfl,s1⟩:=qak ha1
 obtain ⟨p2,k1,rfl,s2⟩:=ha2
 refine zV 39 Tryz.func36 rfl fun h=>X0 8 rfl ?_
 obtain ⟨r1,hr1,hF⟩:=qc hF
 obtain ⟨r2,r3⟩:=r1
 refine qaD (r2,r3) h (cB 62 rfl) (qkZ (h.old s1) hr1) rfl rfl rfl rfl fun w1 S1 us1 hv1 hr2=>?_
 obtain ⟨S2,S3,cs3,us2,rfl,hv2,hr3⟩:=hv1.cons hr2
 obtain rfl:=qJ (hv2.sh.own 0 rfl)
 obtain ⟨rfl,h⟩:=hv2.lastB hr3
 refine zp3 rfl (qj qa h rfl rfl rfl fun w2 bb1 h=>zs 0 h rfl fun w3 h=>X1 7 0 h rfl (zcI h hF (qmf (qw _)) rfl fun r4 w4 h hF=>X0 7 rfl ?_))
 obtain ⟨o1,hF,hK1⟩:=qc hF
 refine qm ?_
 replace h:=h.pick [] rfl
 refine rL (fun m e w'=>∃ (i1:Int) (i2:Int),qc0 a_w list mode m i1 i2=some o1∧e=[(0,.pointer p1),(2,.slice p2 list.length k1),(3,.int .i64 mode),(11,.int .i64 i1),(12,.int .i64 i2)]∧SH w w' []) n ⟨_,_,hF,rfl,h⟩ rfl ?_
 rintro m1 e1 w5 ⟨i1,i2,hF,rfl,h⟩
 rcases m1 with _|m1
 ·cases hF
 refine X0 8 rfl (qh rfl hF ?_ ?_)<;>intro hF
 ·refine X0 8 rfl ?_
  obtain ⟨y1,hy1,hF,he1,b1,_,q1,cs4,hp1,hq1,rfl,hc2⟩:=s2.ix hF
  exact zxe hp1 hq1 he1 rfl (zc 0 (hc2.below h.below) rfl (zp1 rfl (zcI h hF (qoX (h.old s1)) rfl fun r5 w6 h hF=>X0 9 rfl (rK ⟨_,_,hF,rfl,h⟩ rfl))))
 refine qu rfl ?_
 obtain rfl:=qb hF;replace hF:=hK1
 exact X0 5 rfl (ri h hF rfl)
def qgU (n:Nat) (j:qbb) (start:Int) (links:(List Int)) (mode:Int):Option (Int × Int) :=
 (qdc n j).bind fun o=>match o with
  | (r2,r3) =>
   bif (r3 != 0) then some (0,r3) else
   (qjH n mode).bind fun r4 =>
   bif (!r4) then some (0,2) else
   (qk0 n r2 start links).bind fun o=>match o with
    | (_,r7) =>
     bif (!r7) then some (0,5) else
     (qho n r2 start links mode).bind fun r8 =>
     some (r8,0)
theorem qnq {j:qbb} {start:Int} {links:(List Int)} {mode:Int} (ha1:GoT.R w (old w) j cs1) (ha2:GoT.R w (old w) links cs2) {r:(Int × Int)} (hF:qgU n j start links mode=some r):RetV Tryz.prog 10 [GoT.v qbb cs1,.int .i64 start,GoT.v (List Int) cs2,.int .i64 mode] w r:=by
 obtain ⟨p1,k1,p2,k2,p3,k3,p4,k4,p5,k5,p6,k6,p7,k7,rfl,s1,s2,s3,s4,s5,s6,s7⟩:=qdo ha1
 obtain ⟨p8,k8,rfl,s8⟩:=ha2
 refine zV 39 Tryz.func10 rfl fun h=>zSR (qv h rfl rfl fun w1 bb1 h=>X1 6 0 h rfl ?_)
 have hg1:Rg (old w) w (old w) w:=.start (fun _ h=>h)
 obtain ⟨r1,hr1,hF⟩:=qc hF
 obtain ⟨r2,r3⟩:=r1
 refine qhY (r2,r3) hg1 h (cB 33 rfl) (qpG (hg1.regOld h) (hg1.inR h ha1) hr1) rfl rfl rfl rfl fun w2 us1 B1 hg2 hu1 hz1 hv1=>?_
 have hL1:=h.ext hu1.below
 have s9:=Up.S hg1 h hu1 s8
 have hb1:=h.below.trans (hu1.below.mono h.below.size)
 replace h:=hz1
 obtain ⟨cs3,us2,rfl,hr2,hv2⟩:=qk5 hv1
 obtain ⟨p9,rfl,s10⟩:=qak hr2
 obtain ⟨cs4,rfl,hr3⟩:=qkw hv2
 obtain rfl:=hr3
 refine X0 12 rfl (qh rfl hF ?_ ?_)<;>intro hF
 ·refine X0 6 rfl ?_
  replace h:=h.unbase hg2.below (show NoD [] from trivial)
  obtain rfl:=qb hF
  exact qU qa (ρ:=(Int × Int)) [GoT.v Int [.int .i64 0],GoT.v Int [.int .i64 r3]] h ⟨rfl,rfl,trivial⟩ (PV.done h (qag h (qz (S:=fun _=>False) rfl) (qW (qz (S:=fun _=>False) rfl)) (by rfl)))
 refine X0 5 rfl (zcB h hF qpB rfl fun r4 w3 h hF=>X0 2 rfl (qh rfl hF ?_ ?_))<;>intro hF
 ·refine X0 5 rfl ?_
  replace h:=h.unbase hg2.below (show NoD [] from trivial)
  obtain rfl:=qb hF
  exact qU qa (ρ:=(Int × Int)) [GoT.v Int [.int .i64 0],GoT.v Int [.int .i64 2]] h ⟨rfl,rfl,trivial⟩ (PV.done h (qag h (qz (S:=fun _=>False) rfl) (qW (qz (S:=fun _=>False) rfl)) (by rfl)))
 refine X0 6 rfl ?_
 obtain ⟨r5,hr5,hF⟩:=qc hF
 obtain ⟨r6,r7⟩:=r5
 refine qaD (r6,r7) h (cB 35 rfl) (qp8 (h.old (GoT.mono s10 hg2.old)) ⟨_,_,rfl,(h.oldS (s9.mono hg2.old))⟩ hr5) rfl rfl rfl rfl fun w4 S1 us3 hv3 hr6=>?_
 obtain ⟨S2,us4,rfl,hv4,hr7⟩:=hv3.consI hr6
 obtain ⟨rfl,h⟩:=hv4.lastB hr7
 refine X0 12 rfl (qh rfl hF ?_ ?_)<;>intro hF
 ·refine X0 5 rfl ?_
  replace h:=h.unbase hg2.below (show NoD [] from trivial)
  obtain rfl:=qb hF
  exact qU qa (ρ:=(Int × Int)) [GoT.v Int [.int .i64 0],GoT.v Int [.int .i64 5]] h ⟨rfl,rfl,trivial⟩ (PV.done h (qag h (qz (S:=fun _=>False) rfl) (qW (qz (S:=fun _=>False) rfl)) (by rfl)))
 refine X0 7 rfl (zcI h hF (qnJ (h.old (GoT.mono s10 hg2.old)) ⟨_,_,rfl,(h.oldS (s9.mono hg2.old))⟩) rfl fun r8 w5 h hF=>X0 3 rfl ?_)
 replace h:=h.unbase hg2.below (show NoD [] from trivial)
 obtain rfl:=qb hF
 exact qU qa (ρ:=(Int × Int)) [GoT.v Int [.int .i64 r8],GoT.v Int [.int .i64 0]] h ⟨rfl,rfl,trivial⟩ (PV.done h (qag h (qz (S:=fun _=>False) rfl) (qW (qz (S:=fun _=>False) rfl)) (by rfl)))
def qiK (n:Nat) (v:(Option Tview)) (link:Int):Option Bool :=
 (v).bind fun y1 =>
 (qcU n y1.links).bind fun r1 =>
 (qaG n link 0 (W64 (r1-1))).bind fun r2 =>
 some r2
theorem qnw {v:(Option Tview)} {link:Int} (ha1:GoT.R w (old w) v cs1) {r:Bool} (hF:qiK n v link=some r):RetV Tryz.prog 161 [GoT.v (Option Tview) cs1,.int .i64 link] w r:=by
 obtain ⟨p1,rfl,s1⟩:=qak ha1
 refine zV 13 Tryz.func161 rfl fun h=>X0 8 rfl ?_
 obtain ⟨y1,hy1,hF⟩:=qc hF
 obtain ⟨b1,o_1,cs2,rfl,-,hr1,hc1⟩:=PtR.get s1 hy1
 obtain ⟨p2,k1,p3,k2,p4,k3,p5,k4,p6,k5,p7,k6,p8,k7,p9,k8,p10,k9,p11,k10,rfl,s2,s3,s4,s5,s6,s7,s8,s9,s10,s11⟩:=qbF hr1
 exact zp2 rfl (zc 6 (hc1.below h.below) rfl (zcI h hF (qhm ⟨_,_,rfl,(h.oldS s8)⟩) rfl fun r1 w1 h hF=>zp1 rfl (zcB h hF qav rfl fun r2 w2 h hF=>X0 2 rfl (rb h hF rfl))))
def qbZ (v:(Option Tview)) (links:(List Int)):Nat→Int→Option (Flow Bool Int)
 | 0,_=>none
 | n+1,i1 =>
  bif decide (i1<(links.length:Int)) then
   (idx links i1).bind fun y1 =>
   (qiK n v y1).bind fun r1 =>
   bif (!r1) then some (.ret false) else
   bif decide (i1 > 0) then
    (v).bind fun y2 =>
    (idx links (W64 (i1-1))).bind fun y3 =>
    (idx y2.links y3).bind fun y4 =>
    (idx y2.links y1).bind fun y5 =>
    bif (y4.To != y5.Bk) then some (.ret false) else
    qbZ v links n (W64 (i1+1))
   else
    qbZ v links n (W64 (i1+1))
  else
   some (.nxt i1)
def qgT (n:Nat) (v:(Option Tview)) (links:(List Int)):Option Bool :=
 (qbZ v links n 0).bind fun o=>match o with
 | .ret r=>some r
 | .nxt _ =>
  some true
theorem qnr {v:(Option Tview)} {links:(List Int)} (ha1:GoT.R w (old w) v cs1) (ha2:GoT.R w (old w) links cs2) {r:Bool} (hF:qgT n v links=some r):RetV Tryz.prog 109 [GoT.v (Option Tview) cs1,GoT.v (List Int) cs2] w r:=by
 obtain ⟨p1,rfl,s1⟩:=qak ha1
 obtain ⟨p2,k1,rfl,s2⟩:=ha2
 refine zV 46 Tryz.func109 rfl fun h=>X0 11 rfl ?_
 obtain ⟨o1,hF,hK1⟩:=qc hF
 refine qm (rL (fun m e w'=>∃ (i1:Int),qbZ v links m i1=some o1∧e=[(0,.pointer p1),(1,.slice p2 links.length k1),(7,.slice p2 links.length k1),(8,.int .i64 (links.length:Int)),(9,.int .i64 i1)]∧SH w w' []) n ⟨_,hF,rfl,h⟩ rfl ?_)
 rintro m1 e1 w1 ⟨i1,hF,rfl,h⟩
 rcases m1 with _|m1
 ·cases hF
 refine X0 5 rfl (qh rfl hF ?_ ?_)<;>intro hF
 ·refine X0 6 rfl ?_
  obtain ⟨y1,hy1,hF,he1,b1,_,q1,cs3,hp1,hq1,rfl,hc2⟩:=s2.ix hF
  refine zxe hp1 hq1 he1 rfl (zc 0 (hc2.below h.below) rfl (X0 4 rfl (rD (zd2 rfl ?_))))
  obtain ⟨r1,hr2,hF⟩:=qc hF
  refine qbj r1 (vsB _) (cB 161 rfl) (fun _ hb=>qnw ((h.ext hb).old s1) hr2) rfl rfl rfl rfl (zd2 rfl (qaJ (t:=18) hF rfl ?_ ?_))<;>intro hF
  ·refine Y0 26 rfl (dN h fun w2 h=>qbU rfl rfl (X0 4 rfl ?_))
   obtain rfl:=qb hF;replace hF:=hK1
   exact rb h hF rfl
  refine Y0 6 rfl (qaJ (t:=21) hF rfl ?_ ?_)<;>intro hF
  ·refine Y0 3 rfl ?_
   obtain ⟨y2,hy2,hF⟩:=qc hF
   obtain ⟨b2,o_2,cs4,rfl,-,hr3,hc3⟩:=PtR.get s1 hy2
   obtain ⟨p3,k2,p4,k3,p5,k4,p6,k5,p7,k6,p8,k7,p9,k8,p10,k9,p11,k10,p12,k11,rfl,s3,s4,s5,s6,s7,s8,s9,s10,s11,s12⟩:=qbF hr3
   refine Y0 4 rfl (zdc 6 (hc3.below h.below) rfl (Y0 7 rfl ?_))
   obtain ⟨y3,hy3,hF,he2,b3,_,q2,cs5,hp2,hq2,rfl,hc4⟩:=s2.ix hF
   refine zdxe hp2 hq2 he2 rfl (Y0 1 rfl (zdc 0 (hc4.below h.below) rfl (Y0 1 rfl ?_)))
   obtain ⟨y4,hy4,hF,he3,b4,_,q3,cs6,hp3,hq3,hr5,hc5⟩:=s9.ix hF
   obtain rfl:=qam hr5
   refine zdxe hp3 hq3 he3 rfl (Y0 3 rfl (zdc 1 (hc5.below h.below) rfl (Y0 7 rfl (zdc 6 (hc3.below h.below) rfl (Y0 3 rfl ?_)))))
   obtain ⟨y5,hy5,hF,he4,b5,_,q4,cs7,hp4,hq4,hr6,hc6⟩:=s9.ix hF
   obtain rfl:=qam hr6
   refine zdxe hp4 hq4 he4 rfl (Y0 3 rfl (zdc 0 (hc6.below h.below) rfl (Y0 5 rfl (dN h fun w3 h=>qh rfl hF ?_ ?_))))<;>intro hF
   ·refine X0 4 rfl ?_
    obtain rfl:=qb hF;replace hF:=hK1
    exact rb h hF rfl
   exact X0 6 rfl (rK ⟨_,hF,rfl,h⟩ rfl)
  exact Y0 24 rfl (dN h fun w4 h=>qbV rfl rfl (X0 6 rfl (rK ⟨_,hF,rfl,h⟩ rfl)))
 refine qu rfl ?_
 obtain rfl:=qb hF;replace hF:=hK1
 exact X0 4 rfl (rb h hF rfl)
def qeU (_:Nat) (link:Int) (v0:(Option Twork)):Option Bool :=
 (v0).bind fun y1 =>
 (y1.graph).bind fun y2 =>
 (idx y2.live link).bind fun y3 =>
 some (!y3)
theorem qli {link:Int} {v0:(Option Twork)} {p1:Option Addr} (ha1:GoT.R w (old w) (some v0) [.pointer p1]) {r:Bool} (hF:qeU n link v0=some r):RetV Tryz.prog 111 [.int .i64 link,.pointer p1] w r:=by
 obtain ⟨b1,o_1,cs1,rfl,-,hr1,hc1⟩:=PtR.get ha1 rfl
 obtain ⟨p2,rfl,s1⟩:=qak hr1
 refine zV 15 Tryz.func111 rfl fun h=>X0 6 rfl (zc 0 (hc1.below h.below) rfl ?_)
 obtain ⟨y1,hy1,hF⟩:=qc hF
 obtain ⟨b2,o_2,cs2,rfl,-,hr2,hc2⟩:=PtR.get s1 hy1
 obtain ⟨p3,p4,k1,p5,k2,p6,k3,p7,k4,p8,k5,p9,k6,p10,k7,p11,k8,p12,k9,p13,k10,p14,k11,rfl,s2,s3,s4,s5,s6,s7,s8,s9,s10,s11,s12,s13⟩:=qlS hr2
 refine zp2 rfl (zc 0 (hc2.below h.below) rfl ?_)
 obtain ⟨y2,hy2,hF⟩:=qc hF
 obtain ⟨b3,o_3,cs3,rfl,-,hr3,hc3⟩:=PtR.get s2 hy2
 obtain ⟨p15,p16,k12,rfl,s14,s15⟩:=qdj hr3
 refine zp2 rfl (zc 1 (hc3.below h.below) rfl (zp1 rfl ?_))
 obtain ⟨y3,hy3,hF,he1,b4,_,q1,cs4,hp1,hq1,rfl,hc4⟩:=s15.ix hF
 exact zxe hp1 hq1 he1 rfl (zc 0 (hc4.below h.below) rfl (X0 3 rfl (rb h hF rfl)))
def qR (s:(List Int)) (f_0:(Option Twork)):Nat→Int→Option (Flow Int Int)
 | 0,_=>none
 | n+1,i1 =>
  bif decide (i1<(s.length:Int)) then
   (idx s i1).bind fun y1 =>
   (qeU n y1 f_0).bind fun r1 =>
   bif r1 then some (.ret i1) else
   qR s f_0 n (W64 (i1+1))
  else
   some (.nxt i1)
def qaF (n:Nat) (s:(List Int)) (f_0:(Option Twork)):Option Int :=
 (qR s f_0 n 0).bind fun o=>match o with
 | .ret r=>some r
 | .nxt _ =>
  some (-1)
theorem qeX {s:(List Int)} {f_0:(Option Twork)} (ha1:GoT.R w (old w) s cs1) {p2:Option Addr} (ha2:GoT.R w (old w) (some f_0) [.pointer p2]) {r:Int} (hF:qaF n s f_0=some r):RetV Tryz.prog 162 [GoT.v (List Int) cs1,.func (.func 111) #[] #[.pointer p2]] w r:=by
 obtain ⟨p1,k1,rfl,s1⟩:=ha1
 obtain ⟨b1,o_1,cs2,rfl,-,hr1,hc1⟩:=PtR.get ha2 rfl
 obtain ⟨p3,rfl,s2⟩:=qak hr1
 refine zV 19 Tryz.func162 rfl fun h=>X0 11 rfl ?_
 obtain ⟨o1,hF,hK1⟩:=qc hF
 refine qm (rL (fun m e w'=>∃ (i1:Int),qR s f_0 m i1=some o1∧e=[(0,.slice p1 s.length k1),(1,.func (.func 111) #[] #[.pointer (some ⟨b1,o_1,none⟩)]),(7,.int .i64 (s.length:Int)),(8,.int .i64 i1)]∧SH w w' []) n ⟨_,hF,rfl,h⟩ rfl ?_)
 rintro m1 e1 w1 ⟨i1,hF,rfl,h⟩
 rcases m1 with _|m1
 ·cases hF
 refine X0 5 rfl (qh rfl hF ?_ ?_)<;>intro hF
 ·refine X0 13 rfl ?_
  obtain ⟨y1,hy1,hF,he1,b2,_,q1,cs3,hp1,hq1,rfl,hc3⟩:=s1.ix hF
  refine zxe hp1 hq1 he1 rfl (zc 0 (hc3.below h.below) rfl (zcB h hF (qli (h.old ha2)) rfl fun r1 w2 h hF=>qcr (qh rfl hF ?_ ?_)))<;>intro hF
  ·refine X0 5 rfl ?_
   obtain rfl:=qb hF;replace hF:=hK1
   exact ri h hF rfl
  exact X0 6 rfl (rK ⟨_,hF,rfl,h⟩ rfl)
 refine qu rfl ?_
 obtain rfl:=qb hF;replace hF:=hK1
 exact X0 4 rfl (ri h hF rfl)
def qS (n:Nat) (s:(List Int)) (f_0:(Option Twork)):Option Bool :=
 (qaF n s f_0).bind fun r1 =>
 some (decide (r1 ≥ 0))
theorem qbQ {s:(List Int)} {f_0:(Option Twork)} (ha1:GoT.R w (old w) s cs1) {p2:Option Addr} (ha2:GoT.R w (old w) (some f_0) [.pointer p2]) {r:Bool} (hF:qS n s f_0=some r):RetV Tryz.prog 110 [GoT.v (List Int) cs1,.func (.func 111) #[] #[.pointer p2]] w r:=by
 obtain ⟨p1,k1,rfl,s1⟩:=ha1
 obtain ⟨b1,o_1,cs2,rfl,-,hr1,hc1⟩:=PtR.get ha2 rfl
 obtain ⟨p3,rfl,s2⟩:=qak hr1
 exact zV 9 Tryz.func110 rfl fun h=>X0 8 rfl (zcI h hF (qeX ⟨_,_,rfl,(h.oldS s1)⟩ (h.old ha2)) rfl fun r1 w1 h hF=>X0 3 rfl (rb h hF rfl))
def qfB (n:Nat) (a_w:(Option Twork)) (start:Int) (links:(List Int)):Option Bool :=
 (a_w).bind fun y1 =>
 (qdX n y1.job.Av start).bind fun o=>match o with
  | (_,r3) =>
   (
    bif (!r3) then some true else
    (y1.graph).bind fun y6 =>
    (qgT n y6.view links).bind fun r6 =>
    some (!r6)).bind fun b2 =>
   bif b2 then some false else
   bif decide ((links.length:Int) > 0) then
    (y1.graph).bind fun y2 =>
    (y2.view).bind fun y3 =>
    (idx links 0).bind fun y4 =>
    (idx y3.links y4).bind fun y5 =>
    bif (y5.Bk != start) then some false else
    (qS n links a_w).bind fun r4 =>
    some (!r4)
   else
    (qS n links a_w).bind fun r5 =>
    some (!r5)
theorem qmp {a_w:(Option Twork)} {start:Int} {links:(List Int)} (ha1:GoT.R w (old w) a_w cs1) (ha2:GoT.R w (old w) links cs2) {r:Bool} (hF:qfB n a_w start links=some r):RetV Tryz.prog 71 [GoT.v (Option Twork) cs1,.int .i64 start,GoT.v (List Int) cs2] w r:=by
 obtain ⟨p1,rfl,s1⟩:=qak ha1
 obtain ⟨p2,k1,rfl,s2⟩:=ha2
 refine zV 60 Tryz.func71 rfl fun h=>zSR (qv h rfl rfl fun w1 bb1 h=>X1 6 0 h rfl ?_)
 obtain ⟨y1,hy1,hF⟩:=qc hF
 obtain ⟨b1,o_1,cs3,rfl,-,hr1,hc1⟩:=PtR.get s1 hy1
 obtain ⟨p3,p4,k2,p5,k3,p6,k4,p7,k5,p8,k6,p9,k7,p10,k8,p11,k9,p12,k10,p13,k11,p14,k12,rfl,s3,s4,s5,s6,s7,s8,s9,s10,s11,s12,s13,s14⟩:=qlS hr1
 refine zp3 rfl (zc 12 (hc1.below h.below) rfl (zp1 rfl ?_))
 obtain ⟨r1,hr2,hF⟩:=qc hF
 obtain ⟨r2,r3⟩:=r1
 refine qaD (r2,r3) h (cB 79 rfl) (qiD ⟨_,_,rfl,(h.oldS s10)⟩ hr2) rfl rfl rfl rfl fun w2 S1 us1 hv1 hr3=>?_
 obtain ⟨S2,S3,cs4,us2,rfl,hv2,hr4⟩:=hv1.cons hr3
 obtain rfl:=qJ (hv2.sh.own 0 rfl)
 obtain ⟨rfl,h⟩:=hv2.lastB hr4
 refine zp3 rfl (qj qa h rfl rfl rfl fun w3 bb2 h=>zs 0 h rfl fun w4 h=>X0 3 rfl ?_)
 obtain ⟨KF1,hKF1,o1,hF,hK1⟩:=bindE hF
 refine qbl (fun e w'=>∃ (b2:Bool),KF1 b2=some r∧e=[(1,.int .i64 start),(2,.slice p2 links.length k1),(3,.pointer (some ⟨bb1,0,none⟩)),(32,.bool b2)]∧SH w w' [Ch.box bb1 [.pointer (some ⟨b1,o_1,none⟩)] 82]) ?_ ?_
 ·refine X0 4 rfl (qi (t:=21) hF rfl ?_ ?_)<;>intro hF
  ·refine X0 12 rfl ?_
   replace h:=h.pick [2] rfl
   obtain rfl:=qb hF
   exact rG ⟨_,hK1,rfl,h⟩ rfl
  refine X1 7 2 h rfl (zc 0 (hc1.below h.below) rfl (X0 1 rfl ?_))
  obtain ⟨y6,hy6,hF⟩:=qc hF
  obtain ⟨b7,o_6,cs9,rfl,-,hr12,hc8⟩:=PtR.get s3 hy6
  obtain ⟨p27,p28,k24,rfl,s27,s28⟩:=qdj hr12
  refine X0 4 rfl (zc 0 (hc8.below h.below) rfl (X0 3 rfl (zcB h hF (qnr (h.old s27) ⟨_,_,rfl,(h.oldS s2)⟩) rfl fun r6 w9 h hF=>X0 4 rfl ?_)))
  replace h:=h.pick [2] rfl
  obtain rfl:=qb hF
  exact rG ⟨_,hK1,rfl,h⟩ rfl
 rintro e1 w10 ⟨b2,hF,rfl,h⟩
 subst hKF1
 refine qh rfl hF ?_ ?_<;>intro hF
 ·exact X0 4 rfl (rb h hF rfl)
 refine zKSS (rD (zd4 rfl (qaJ (t:=36) hF rfl ?_ ?_)))<;>intro hF
 ·refine Y1 2 0 h rfl ?_
  refine Y0 5 rfl (zdc 0 (hc1.below h.below) rfl (Y0 1 rfl ?_))
  obtain ⟨y2,hy2,hF⟩:=qc hF
  obtain ⟨b3,o_2,cs5,rfl,-,hr6,hc3⟩:=PtR.get s3 hy2
  obtain ⟨p15,p16,k13,rfl,s15,s16⟩:=qdj hr6
  refine Y0 4 rfl (zdc 0 (hc3.below h.below) rfl (Y0 1 rfl ?_))
  obtain ⟨y3,hy3,hF⟩:=qc hF
  obtain ⟨b4,o_3,cs6,rfl,-,hr7,hc4⟩:=PtR.get s15 hy3
  obtain ⟨p17,k14,p18,k15,p19,k16,p20,k17,p21,k18,p22,k19,p23,k20,p24,k21,p25,k22,p26,k23,rfl,s17,s18,s19,s20,s21,s22,s23,s24,s25,s26⟩:=qbF hr7
  refine Y0 4 rfl (zdc 6 (hc4.below h.below) rfl (Y0 3 rfl ?_))
  obtain ⟨y4,hy4,hF,he1,b5,_,q1,cs7,hp1,hq1,rfl,hc5⟩:=s2.ix hF
  refine zdxe hp1 hq1 he1 rfl (Y0 1 rfl (zdc 0 (hc5.below h.below) rfl (Y0 1 rfl ?_)))
  obtain ⟨y5,hy5,hF,he2,b6,_,q2,cs8,hp2,hq2,hr9,hc6⟩:=s23.ix hF
  obtain rfl:=qam hr9
  refine zdxe hp2 hq2 he2 rfl (Y0 3 rfl (zdc 0 (hc6.below h.below) rfl (Y0 5 rfl (dN h fun w5 h=>qh rfl hF ?_ ?_))))<;>intro hF
  ·exact X0 4 rfl (rb h hF rfl)
  exact X0 5 rfl (zcB h hF (qbQ ⟨_,_,rfl,(h.oldS s2)⟩ (qgy (x:=a_w) 0 h rfl (h.old s1))) rfl fun r4 w6 h hF=>X0 3 rfl (rb h hF rfl))
 exact Y0 19 rfl (dN h fun w7 h=>qbV rfl rfl (X0 5 rfl (zcB h hF (qbQ ⟨_,_,rfl,(h.oldS s2)⟩ (qgy (x:=a_w) 0 h rfl (h.old s1))) rfl fun r5 w8 h hF=>X0 3 rfl (rb h hF rfl))))
def qdY (n:Nat) (j:qbb) (mode:Int) (start:Int) (links:(List Int)):Option ((Option Twork) × Int) :=
 (qg1 n j mode []).bind fun o=>match o with
  | (r2,r3) =>
   bif (r3==0) then
    (qfB n r2 start links).bind fun r4 =>
    bif (!r4) then some (none,5) else
    some (r2,r3)
   else
    some (r2,r3)
theorem qoy {A:Nat→Prop} (hA:∀ b,A b→old w b) {j:qbb} {mode:Int} {start:Int} {links:(List Int)} (ha1:GoT.R w A j cs1) (ha2:GoT.R w A links cs2) {r:((Option Twork) × Int)} (hF:qdY n j mode start links=some r):RetG Tryz.prog 40 [GoT.v qbb cs1,.int .i64 mode,.int .i64 start,GoT.v (List Int) cs2] w A r:=by
 obtain ⟨p1,k1,p2,k2,p3,k3,p4,k4,p5,k5,p6,k6,p7,k7,rfl,s1,s2,s3,s4,s5,s6,s7⟩:=qdo ha1
 obtain ⟨p8,k8,rfl,s8⟩:=ha2
 have hg:=Rg.start hA
 refine qeE Tryz.func40 rfl (m:=29) rfl rfl (fun h=>?_)
 refine zSR (qv h rfl rfl fun w1 bb1 h=>X1 7 0 h rfl ?_)
 obtain ⟨r1,hr1,hF⟩:=qc hF
 obtain ⟨r2,r3⟩:=r1
 refine qhY (r2,r3) hg h (cB 70 rfl) (qpz (hg.regOld h) (hg.inR h ha1) ⟨_,_,rfl,qng⟩ hr1) rfl rfl rfl rfl fun w2 us1 B1 hg1 hu1 hz1 hv1=>?_
 have hL1:=h.ext hu1.below
 have s9:=Up.S hg h hu1 s8
 have hb1:=h.below.trans (hu1.below.mono h.below.size)
 replace h:=hz1
 obtain ⟨cs3,us2,rfl,hr2,hv2⟩:=qk5 hv1
 obtain ⟨p9,rfl,s10⟩:=qak hr2
 obtain ⟨cs4,rfl,hr3⟩:=qkw hv2
 obtain rfl:=hr3
 refine X0 12 rfl (qi (t:=20) hF rfl ?_ ?_)<;>intro hF
 ·refine X0 7 rfl (zcB h hF (qmp (h.old (GoT.mono s10 hg1.old)) ⟨_,_,rfl,(h.oldS (s9.mono hg1.old))⟩) rfl fun r4 w3 h hF=>X0 4 rfl (qh rfl hF ?_ ?_))<;>intro hF
  ·refine X0 5 rfl ?_
   obtain rfl:=qb hF
   have hv3:GoRs.Rs (ρ:=((Option Twork) × Int)) h.wc (reg A w h.wc) (none,5) [GoT.v (Option Twork) [.pointer none],GoT.v Int [.int .i64 5]]:=⟨_,_,rfl,rfl,⟨_,rfl,rfl⟩⟩
   exact qe1 qa (ρ:=((Option Twork) × Int)) (r:=(none,5)) [GoT.v (Option Twork) [.pointer none],GoT.v Int [.int .i64 5]] (h.unbase hg1.below (show NoD [] from trivial)) ⟨rfl,rfl,trivial⟩ hv3
  refine X0 8 rfl ?_
  obtain rfl:=qb hF
  have hv4:GoRs.Rs (ρ:=((Option Twork) × Int)) h.wc (reg A w h.wc) (r2,r3) [GoT.v (Option Twork) [.pointer p9],GoT.v Int [.int .i64 r3]]:=⟨_,_,rfl,(hg1.outR h (hg1.inR h s10)),⟨_,rfl,rfl⟩⟩
  exact qe1 qa (ρ:=((Option Twork) × Int)) (r:=(r2,r3)) [GoT.v (Option Twork) [.pointer p9],GoT.v Int [.int .i64 r3]] (h.unbase hg1.below (show NoD [] from trivial)) ⟨rfl,rfl,trivial⟩ hv4
 refine X0 7 rfl (qbV rfl rfl (X0 8 rfl ?_))
 obtain rfl:=qb hF
 have hv5:GoRs.Rs (ρ:=((Option Twork) × Int)) h.wc (reg A w h.wc) (r2,r3) [GoT.v (Option Twork) [.pointer p9],GoT.v Int [.int .i64 r3]]:=⟨_,_,rfl,(hg1.outR h (hg1.inR h s10)),⟨_,rfl,rfl⟩⟩
 exact qe1 qa (ρ:=((Option Twork) × Int)) (r:=(r2,r3)) [GoT.v (Option Twork) [.pointer p9],GoT.v Int [.int .i64 r3]] (h.unbase hg1.below (show NoD [] from trivial)) ⟨rfl,rfl,trivial⟩ hv5
def qdn (a_2:(List Int)) (y1:Twork):Nat→(List qd)→Int→Int→Int→Option ((List qd) × Int × Int × Int)
 | 0,_,_,_,_=>none
 | n+1,x1,i1,i2,i3 =>
  bif decide (i3<(a_2.length:Int)) then
   (idx a_2 i3).bind fun y2 =>
   (y1.graph).bind fun y3 =>
   (y3.view).bind fun y4 =>
   (idx y4.links y2).bind fun y5 =>
   (idx y1.timing.Bc y5.Bk).bind fun y6 =>
   (qet n y3.view (⟨y1.job.Ai.Bb,y1.job.Ai.As,y1.job.Ai.Az,y1.job.Ai.Ar,y1.job.Ai.Ba⟩:qt) y2 y6).bind fun o=>match o with
    | (r5,_) =>
     (qgo n (⟨i1,i2⟩:qd) r5).bind fun r9 =>
     (appS x1 ([r9]:List qd)).bind fun x3 =>
     qdn a_2 y1 n x3 r9.Ap r9.Bd (W64 (i3+1))
  else
   some (x1,i1,i2,i3)
def qio (n:Nat) (a_0:(Option Twork)) (a_1:Int) (a_2:(List Int)):Option (List qd) :=
 (a_0).bind fun y1 =>
 (qdX n y1.job.Av a_1).bind fun o=>match o with
  | (r2,_) =>
   (qdn a_2 y1 n ([(⟨r2.Ah.Ap,r2.Ah.Bd⟩:qd)]:List qd) r2.Ah.Ap r2.Ah.Bd 0).bind fun o=>match o with
   | (x1,_,_,_) =>
    some x1
theorem qos {a_0:(Option Twork)} {a_1:Int} {a_2:(List Int)} (ha1:GoT.R w (old w) a_0 cs1) (ha2:GoT.R w (old w) a_2 cs2) {r:(List qd)} (hF:qio n a_0 a_1 a_2=some r):RetV Tryz.prog 72 [GoT.v (Option Twork) cs1,.int .i64 a_1,GoT.v (List Int) cs2] w r:=by
 obtain ⟨p1,rfl,s1⟩:=qak ha1
 obtain ⟨p2,k1,rfl,s2⟩:=ha2
 refine zV 82 Tryz.func72 rfl fun h=>X0 7 rfl ?_
 obtain ⟨y1,hy1,hF⟩:=qc hF
 obtain ⟨b1,o_1,cs3,rfl,-,hr1,hc1⟩:=PtR.get s1 hy1
 obtain ⟨p3,p4,k2,p5,k3,p6,k4,p7,k5,p8,k6,p9,k7,p10,k8,p11,k9,p12,k10,p13,k11,p14,k12,rfl,s3,s4,s5,s6,s7,s8,s9,s10,s11,s12,s13,s14⟩:=qlS hr1
 refine zp3 rfl (zc 12 (hc1.below h.below) rfl (zp1 rfl ?_))
 obtain ⟨r1,hr2,hF⟩:=qc hF
 obtain ⟨r2,r3⟩:=r1
 refine qaD (r2,r3) h (cB 79 rfl) (qiD ⟨_,_,rfl,(h.oldS s10)⟩ hr2) rfl rfl rfl rfl fun w1 S1 us1 hv1 hr3=>?_
 obtain ⟨S2,S3,cs4,us2,rfl,hv2,hr4⟩:=hv1.cons hr3
 obtain rfl:=qJ (hv2.sh.own 0 rfl)
 obtain ⟨rfl,h⟩:=hv2.lastB hr4
 refine zp3 rfl (qj qa h rfl rfl rfl fun w2 bb1 h=>zs 0 h rfl fun w3 h=>X1 6 0 h rfl (qj qa h rfl rfl rfl fun w4 bb2 h=>zs 0 h rfl fun w5 h=>X1 4 0 h rfl (qK qa [.tmp 27] _ ([(⟨r2.Ah.Ap,r2.Ah.Bd⟩:qd)]:List qd) h rfl rfl rfl rfl rfl rfl rfl rfl rfl ⟨(qw (⟨r2.Ah.Ap,r2.Ah.Bd⟩:qd)),trivial⟩ rfl fun w6 p15 S5 h=>X0 9 rfl ?_)))
 obtain ⟨o1,hF,hK1⟩:=qc hF
 refine qm ?_
 replace h:=h.pick [0,1] rfl
 refine rL (fun m e w'=>∃ (S6:Nat→Prop) (p16:Option Addr) (ln1:Nat) (k13:Nat) (x1:(List qd)) (i1:Int) (i2:Int) (i3:Int),qdn a_2 y1 m x1 i1 i2 i3=some o1∧e=[(0,.pointer (some ⟨b1,o_1,none⟩)),(9,.pointer (some ⟨bb2,0,none⟩)),(10,.slice p16 ln1 k13),(29,.slice p2 a_2.length k1),(30,.int .i64 (a_2.length:Int)),(31,.int .i64 i3)]∧SH w w' [Ch.own S6 (x1:List qd) [.slice p16 ln1 k13],Ch.box bb2 [.int .i64 i1,.int .i64 i2] 86]) n ⟨_,_,_,_,_,_,_,_,hF,rfl,h⟩ rfl ?_
 rintro m1 e1 w7 ⟨S6,p16,ln1,k13,x1,i1,i2,i3,hF,rfl,h⟩
 obtain rfl:=(h.sl 0 rfl).2
 rcases m1 with _|m1
 ·cases hF
 refine X0 5 rfl (qh rfl hF ?_ ?_)<;>intro hF
 ·refine zKSBSR ?_
  obtain ⟨y2,hy2,hF,he1,b2,_,q1,cs5,hp1,hq1,rfl,hc3⟩:=s2.ix hF
  refine zxe hp1 hq1 he1 rfl (zc 0 (hc3.below h.below) rfl (X0 3 rfl (rA [] [] h rfl fun w8 h=>M0 7 [0,1,2] (h.pick [] rfl) rfl (Al 3 15 0 hc1 (h.pick [] rfl) rfl ?_))))
  obtain ⟨y3,hy3,hF⟩:=qc hF
  obtain ⟨b3,o_3,cs6,rfl,-,hr7,hc4⟩:=PtR.get s3 hy3
  obtain ⟨p17,p18,k14,rfl,s15,s16⟩:=qdj hr7
  refine M0 63 [4,5] (h.pick [] rfl) rfl (Al 6 127 0 hc4 (h.pick [] rfl) rfl (M0 2047 [7,8,9,10] (h.pick [] rfl) rfl (Al 11 4095 6 hc1 (h.pick [] rfl) rfl (M0 131071 [12,13,14,15,16] (h.pick [] rfl) rfl (Al 17 262143 15 hc1 (h.pick [] rfl) rfl (M0 2097151 [18,19,20] (h.pick [] rfl) rfl (Al 21 4194303 0 hc1 (h.pick [] rfl) rfl (M0 16777215 [22,23] (h.pick [] rfl) rfl (Al 24 33554431 0 hc4 (h.pick [] rfl) rfl ?_)))))))))
  obtain ⟨y4,hy4,hF⟩:=qc hF
  obtain ⟨b4,o_4,cs7,rfl,-,hr8,hc5⟩:=PtR.get s15 hy4
  obtain ⟨p19,k15,p20,k16,p21,k17,p22,k18,p23,k19,p24,k20,p25,k21,p26,k22,p27,k23,p28,k24,rfl,s17,s18,s19,s20,s21,s22,s23,s24,s25,s26⟩:=qbF hr8
  refine M0 134217727 [25,26] (h.pick [] rfl) rfl (Al 27 268435455 6 hc5 (h.pick [] rfl) rfl (M0 536870911 [28] (h.pick [] rfl) rfl ?_))
  obtain ⟨y5,hy5,hF,he2,b5,_,q2,cs8,hp2,hq2,hr9,hc6⟩:=s23.ix hF
  obtain rfl:=qam hr9
  refine Ae 29 1073741823 hp2 hq2 he2 (h.pick [] rfl) rfl (M0 2147483647 [30] (h.pick [] rfl) rfl (Al 31 4294967295 0 hc6 (h.pick [] rfl) rfl ?_))
  obtain ⟨y6,hy6,hF,he3,b6,_,q3,cs9,hp3,hq3,hr10,hc7⟩:=s13.ix hF
  obtain rfl:=qn hr10
  refine Ae 32 8589934591 hp3 hq3 he3 (h.pick [] rfl) rfl (Al 33 17179869183 0 hc7 (h.pick [] rfl) rfl ?_)
  obtain ⟨r4,hr11,hF⟩:=qc hF
  obtain ⟨r5,r6⟩:=r4
  refine qkE (fun e w'=>∃ (bb22:Nat),e=[(0,.pointer (some ⟨b1,o_1,none⟩)),(10,.slice p16 x1.length k13),(13,.pointer (some ⟨bb22,0,none⟩)),(29,.slice p2 a_2.length k1),(30,.int .i64 (a_2.length:Int)),(31,.int .i64 i3),(9,.pointer (some ⟨bb2,0,none⟩))]∧SH w w' [Ch.box bb22 (qfH r5) 86,Ch.own S6 (x1:List qd) [.slice p16 x1.length k13],Ch.box bb2 [.int .i64 i1,.int .i64 i2] 86]) 0 (bits 42 4398046511103) ?_ ?_
  ·intro K
   refine qnc 34 38 39 rfl rfl rfl (bits 42 34359738367) (bits 42 292057776127) (bits 42 566935683071) (by kernel_rfl) (by kernel_rfl) (by kernel_rfl) (by kernel_rfl) ?_ ?_ ?_
   ·refine qaD (r5,r6) h (cB 112 rfl) (qa1 (h.old s15) (qaV _) (qw y6) hr11) rfl rfl rfl rfl fun w51 S36 us15 hv22 hr32=>?_
    obtain ⟨S37,S38,cs24,us16,rfl,hv23,hr33⟩:=hv22.cons hr32
    obtain rfl:=qn (hv23.sh.own 0 rfl)
    obtain ⟨cs25,rfl,h⟩:=hv23.last hr33
    obtain rfl:=qn (h.own 0 rfl)
    refine G0 274877906943 [35,36,37] (h.pick [] rfl) rfl (At 38 39 549755813887 824633720831 rfl ?_ ?_)
    ·refine qj qa h rfl rfl rfl fun w52 bb20 h=>Ag (h.pick [] rfl) (Ao 39 1099511627775 rfl (qj qa h rfl rfl rfl fun w53 bb21 h=>Ag (h.pick [] rfl) (Ao 40 2199023255551 rfl (zs 1 h rfl fun w54 h=>Ag (h.pick [] rfl) (Ao 41 4398046511103 rfl (zs 0 h rfl fun w55 h=>Ag (h.pick [] rfl) ?_))))))
     replace h:=h.pick [1,4,5] rfl
     exact qcq [(0,_),(10,_),(13,_),(29,_),(30,_),(31,_),(9,_)] ⟨rfl,rfl,rfl,rfl,rfl,rfl,rfl,trivial⟩ (K _ _ ⟨_,rfl,h⟩)
    refine qj qa h rfl rfl rfl fun w52 bb20 h=>Ag (h.pick [] rfl) (Ao 38 1099511627775 rfl (qj qa h rfl rfl rfl fun w53 bb21 h=>Ag (h.pick [] rfl) (Ao 40 2199023255551 rfl (zs 0 h rfl fun w54 h=>Ag (h.pick [] rfl) (Ao 41 4398046511103 rfl (zs 1 h rfl fun w55 h=>Ag (h.pick [] rfl) ?_))))))
    replace h:=h.pick [0,4,5] rfl
    exact qcq [(0,_),(10,_),(13,_),(29,_),(30,_),(31,_),(9,_)] ⟨rfl,rfl,rfl,rfl,rfl,rfl,rfl,trivial⟩ (K _ _ ⟨_,rfl,h⟩)
   ·refine qj qa h rfl rfl rfl fun w51 bb20 h=>Ag (h.pick [] rfl) (At 34 39 309237645311 841813590015 rfl ?_ ?_)
    ·refine qaD (r5,r6) h (cB 112 rfl) (qa1 (h.old s15) (qaV _) (qw y6) hr11) rfl rfl rfl rfl fun w52 S36 us15 hv22 hr32=>?_
     obtain ⟨S37,S38,cs24,us16,rfl,hv23,hr33⟩:=hv22.cons hr32
     obtain rfl:=qn (hv23.sh.own 0 rfl)
     obtain ⟨cs25,rfl,h⟩:=hv23.last hr33
     obtain rfl:=qn (h.own 0 rfl)
     refine G0 549755813887 [35,36,37] (h.pick [] rfl) rfl (Ao 39 1099511627775 rfl (qj qa h rfl rfl rfl fun w53 bb21 h=>Ag (h.pick [] rfl) (Ao 40 2199023255551 rfl (zs 3 h rfl fun w54 h=>Ag (h.pick [] rfl) (Ao 41 4398046511103 rfl (zs 0 h rfl fun w55 h=>Ag (h.pick [] rfl) ?_))))))
     replace h:=h.pick [3,4,5] rfl
     exact qcq [(0,_),(10,_),(13,_),(29,_),(30,_),(31,_),(9,_)] ⟨rfl,rfl,rfl,rfl,rfl,rfl,rfl,trivial⟩ (K _ _ ⟨_,rfl,h⟩)
    refine qj qa h rfl rfl rfl fun w52 bb21 h=>Ag (h.pick [] rfl) (Ao 34 858993459199 rfl (qaD (r5,r6) h (cB 112 rfl) (qa1 (h.old s15) (qaV _) (qw y6) hr11) rfl rfl rfl rfl fun w53 S36 us15 hv22 hr32=>?_))
    obtain ⟨S37,S38,cs24,us16,rfl,hv23,hr33⟩:=hv22.cons hr32
    obtain rfl:=qn (hv23.sh.own 0 rfl)
    obtain ⟨cs25,rfl,h⟩:=hv23.last hr33
    obtain rfl:=qn (h.own 0 rfl)
    refine G0 1099511627775 [35,36,37] (h.pick [] rfl) rfl (Ao 40 2199023255551 rfl (zs 3 h rfl fun w54 h=>Ag (h.pick [] rfl) (Ao 41 4398046511103 rfl (zs 2 h rfl fun w55 h=>Ag (h.pick [] rfl) ?_))))
    replace h:=h.pick [3,4,5] rfl
    exact qcq [(0,_),(10,_),(13,_),(29,_),(30,_),(31,_),(9,_)] ⟨rfl,rfl,rfl,rfl,rfl,rfl,rfl,trivial⟩ (K _ _ ⟨_,rfl,h⟩)
   refine qj qa h rfl rfl rfl fun w51 bb20 h=>Ag (h.pick [] rfl) (At 34 38 584115552255 841813590015 rfl ?_ ?_)
   ·refine qaD (r5,r6) h (cB 112 rfl) (qa1 (h.old s15) (qaV _) (qw y6) hr11) rfl rfl rfl rfl fun w52 S36 us15 hv22 hr32=>?_
    obtain ⟨S37,S38,cs24,us16,rfl,hv23,hr33⟩:=hv22.cons hr32
    obtain rfl:=qn (hv23.sh.own 0 rfl)
    obtain ⟨cs25,rfl,h⟩:=hv23.last hr33
    obtain rfl:=qn (h.own 0 rfl)
    refine G0 824633720831 [35,36,37] (h.pick [] rfl) rfl (Ao 38 1099511627775 rfl (qj qa h rfl rfl rfl fun w53 bb21 h=>Ag (h.pick [] rfl) (Ao 40 2199023255551 rfl (zs 0 h rfl fun w54 h=>Ag (h.pick [] rfl) (Ao 41 4398046511103 rfl (zs 3 h rfl fun w55 h=>Ag (h.pick [] rfl) ?_))))))
    replace h:=h.pick [0,4,5] rfl
    exact qcq [(0,_),(10,_),(13,_),(29,_),(30,_),(31,_),(9,_)] ⟨rfl,rfl,rfl,rfl,rfl,rfl,rfl,trivial⟩ (K _ _ ⟨_,rfl,h⟩)
   refine qj qa h rfl rfl rfl fun w52 bb21 h=>Ag (h.pick [] rfl) (Ao 34 858993459199 rfl (qaD (r5,r6) h (cB 112 rfl) (qa1 (h.old s15) (qaV _) (qw y6) hr11) rfl rfl rfl rfl fun w53 S36 us15 hv22 hr32=>?_))
   obtain ⟨S37,S38,cs24,us16,rfl,hv23,hr33⟩:=hv22.cons hr32
   obtain rfl:=qn (hv23.sh.own 0 rfl)
   obtain ⟨cs25,rfl,h⟩:=hv23.last hr33
   obtain rfl:=qn (h.own 0 rfl)
   refine G0 1099511627775 [35,36,37] (h.pick [] rfl) rfl (Ao 40 2199023255551 rfl (zs 2 h rfl fun w54 h=>Ag (h.pick [] rfl) (Ao 41 4398046511103 rfl (zs 3 h rfl fun w55 h=>Ag (h.pick [] rfl) ?_))))
   replace h:=h.pick [2,4,5] rfl
   exact qcq [(0,_),(10,_),(13,_),(29,_),(30,_),(31,_),(9,_)] ⟨rfl,rfl,rfl,rfl,rfl,rfl,rfl,trivial⟩ (K _ _ ⟨_,rfl,h⟩)
  rintro e6 w56 ⟨bb22,rfl,h⟩
  refine Ad (X2 4 2 0 h rfl (zcO h hF (qkP (qw _) (qw r5)) rfl fun r9 w57 S40 cs26 h hF=>?_))
  obtain rfl:=qn (h.own 0 rfl)
  refine zs 3 h rfl fun w58 h=>X1 4 3 h rfl (qK qa [.tmp 77] _ ([r9]:List qd) h rfl rfl rfl rfl rfl rfl rfl rfl rfl ⟨(qw r9),trivial⟩ rfl fun w59 p32 S41 h=>?_)
  obtain ⟨x3,hx3,hF⟩:=qc hF
  obtain ⟨g3,hx3⟩:=qay hx3
  refine qcw qa 3 h rfl (h.sl 0 rfl).1 (h.sl 0 rfl).2 rfl rfl rfl rfl rfl rfl rfl rfl rfl g3 hx3 rfl fun w60 p33 k26 S42 h=>X0 7 rfl ?_
  replace h:=h.pick [3,4] rfl
  exact rK ⟨_,_,_,_,_,_,_,_,hF,rfl,h⟩ rfl
 refine qu rfl ?_
 obtain rfl:=qb hF;replace hF:=hK1
 refine X0 5 rfl ?_
 obtain rfl:=qb hF
 exact rO 0 h rfl ⟨rfl,trivial⟩
def qdT (n:Nat) (a_w:(Option Twork)) (start:Int) (links:(List Int)):Option qd :=
 (qio n a_w start links).bind fun r1 =>
 (idx r1 (links.length:Int)).bind fun y1 =>
 some y1
theorem qkz {a_w:(Option Twork)} {start:Int} {links:(List Int)} (ha1:GoT.R w (old w) a_w cs1) (ha2:GoT.R w (old w) links cs2) {r:qd} (hF:qdT n a_w start links=some r):RetV Tryz.prog 41 [GoT.v (Option Twork) cs1,.int .i64 start,GoT.v (List Int) cs2] w r:=by
 obtain ⟨p1,rfl,s1⟩:=qak ha1
 obtain ⟨p2,k1,rfl,s2⟩:=ha2
 refine zV 15 Tryz.func41 rfl fun h=>zSR (qj qa h rfl rfl rfl fun w1 bb1 h=>X0 6 rfl (zcL h hF (qos (h.old s1) ⟨_,_,rfl,(h.oldS s2)⟩) rfl fun r1 w2 S1 p3 k2 h hF=>zp2 rfl ?_))
 obtain ⟨y1,hy1,hF,he1,b1,_,q1,cs3,hp1,hq1,hr2,hc1⟩:=(h.sl 0 rfl).1.ix hF
 obtain rfl:=qn hr2
 refine zx hp1 hq1 ⟨he1.1,qV he1.2.1 (h.sl 0 rfl).2⟩ rfl (zc 0 hc1 rfl (zs 1 h rfl fun w3 h=>qcr ?_))
 obtain rfl:=qb hF
 exact qU qa (ρ:=qd) [GoT.v qd (qfH y1)] h ⟨⟨_,_,_,rfl,rfl,h.box 1 rfl,rfl⟩,trivial⟩ (PV.done h (qW (qz (S:=fun _=>False) (qw y1))))
def ql9 (_:Nat) (s:qd) (mode:Int):Option Int :=
 bif (mode==0) then some s.Ap else
 some s.Bd
theorem qpJ {s:qd} {mode:Int} (ha1:GoT.R w (old w) s cs1) {r:Int} (hF:ql9 n s mode=some r):RetV Tryz.prog 42 [GoT.v qd cs1,.int .i64 mode] w r:=by
 obtain rfl:=qn ha1
 refine zV 11 Tryz.func42 rfl fun h=>zSR (qv h rfl rfl fun w1 bb1 h=>X0 8 rfl (qh rfl hF ?_ ?_))<;>intro hF
 ·exact X1 6 0 h rfl (ri h hF rfl)
 exact X1 7 0 h rfl (ri h hF rfl)
def qgE (n:Nat) (j:qbb) (start:Int) (links:(List Int)) (mode:Int):Option (Int × Int) :=
 (qdY n j mode start links).bind fun o=>match o with
  | (r2,r3) =>
   bif (r3 != 0) then some (0,r3) else
   (qdT n r2 start links).bind fun r4 =>
   (ql9 n r4 mode).bind fun r5 =>
   some (r5,0)
theorem qnt {j:qbb} {start:Int} {links:(List Int)} {mode:Int} (ha1:GoT.R w (old w) j cs1) (ha2:GoT.R w (old w) links cs2) {r:(Int × Int)} (hF:qgE n j start links mode=some r):RetV Tryz.prog 13 [GoT.v qbb cs1,.int .i64 start,GoT.v (List Int) cs2,.int .i64 mode] w r:=by
 obtain ⟨p1,k1,p2,k2,p3,k3,p4,k4,p5,k5,p6,k6,p7,k7,rfl,s1,s2,s3,s4,s5,s6,s7⟩:=qdo ha1
 obtain ⟨p8,k8,rfl,s8⟩:=ha2
 refine zV 29 Tryz.func13 rfl fun h=>zSR (qv h rfl rfl fun w1 bb1 h=>X1 9 0 h rfl ?_)
 have hg1:Rg (old w) w (old w) w:=.start (fun _ h=>h)
 obtain ⟨r1,hr1,hF⟩:=qc hF
 obtain ⟨r2,r3⟩:=r1
 refine qhY (r2,r3) hg1 h (cB 40 rfl) (qoy (hg1.regOld h) (hg1.inR h ha1) ⟨_,_,rfl,(hg1.inS h s8)⟩ hr1) rfl rfl rfl rfl fun w2 us1 B1 hg2 hu1 hz1 hv1=>?_
 have hL1:=h.ext hu1.below
 have s9:=Up.S hg1 h hu1 s8
 have hb1:=h.below.trans (hu1.below.mono h.below.size)
 replace h:=hz1
 obtain ⟨cs3,us2,rfl,hr2,hv2⟩:=qk5 hv1
 obtain ⟨p9,rfl,s10⟩:=qak hr2
 obtain ⟨cs4,rfl,hr3⟩:=qkw hv2
 obtain rfl:=hr3
 refine X0 12 rfl (qh rfl hF ?_ ?_)<;>intro hF
 ·refine X0 6 rfl ?_
  replace h:=h.unbase hg2.below (show NoD [] from trivial)
  obtain rfl:=qb hF
  exact qU qa (ρ:=(Int × Int)) [GoT.v Int [.int .i64 0],GoT.v Int [.int .i64 r3]] h ⟨rfl,rfl,trivial⟩ (PV.done h (qag h (qz (S:=fun _=>False) rfl) (qW (qz (S:=fun _=>False) rfl)) (by rfl)))
 refine X0 6 rfl (zcO h hF (qkz (h.old (GoT.mono s10 hg2.old)) ⟨_,_,rfl,(h.oldS (s9.mono hg2.old))⟩) rfl fun r4 w3 S1 cs5 h hF=>?_)
 obtain rfl:=qn (h.own 0 rfl)
 refine zp1 rfl (zcI h hF (qpJ (h.own 0 rfl)) rfl fun r5 w4 h hF=>X0 3 rfl ?_)
 replace h:=h.unbase hg2.below ⟨fun _ h=>h,trivial⟩
 obtain rfl:=qb hF
 exact qU qa (ρ:=(Int × Int)) [GoT.v Int [.int .i64 r5],GoT.v Int [.int .i64 0]] h ⟨rfl,rfl,trivial⟩ (PV.done h (qag h (qz (S:=fun _=>False) rfl) (qW (qz (S:=fun _=>False) rfl)) (by rfl)))
end Go.Fw


namespace Go.Fw
open Go Go.Proofs
open Go.RowKit (Below)
set_option maxRecDepth 100000
set_option maxHeartbeats 1600000
variable {n:Nat} {w:World} {cs1 cs2 cs3 cs4 cs5 cs6 cs7 cs8 cs9:List Value}
def qlG (n:Nat) (a:qbb) (left:Int):Option Int :=
 (qjF n (⟨(⟨a.Af.Ay.Aq⟩:qq),(⟨a.Af.Ab.Aa,a.Af.Ab.Am,a.Af.Ab.Aj⟩:qe),a.Af.Ac⟩:qf) left).bind fun r1 =>
 bif decide (r1<0) then some (-1) else
 (qiZ n (⟨a.Ai.Bb,a.Ai.As,a.Ai.Az,a.Ai.Ar,a.Ai.Ba⟩:qt) r1).bind fun r2 =>
 bif decide (r2<0) then some (-1) else
 (qbP n a.Bi r2).bind fun r3 =>
 bif decide (r3<0) then some (-1) else
 (qku n a.Av r3).bind fun r4 =>
 bif decide (r4<0) then some (-1) else
 some r4
theorem qqS {a:qbb} {left:Int} (ha1:GoT.R w (old w) a cs1) {r:Int} (hF:qlG n a left=some r):RetV Tryz.prog 9 [GoT.v qbb cs1,.int .i64 left] w r:=by
 obtain ⟨p1,k1,p2,k2,p3,k3,p4,k4,p5,k5,p6,k6,p7,k7,rfl,s1,s2,s3,s4,s5,s6,s7⟩:=qdo ha1
 refine zV 30 Tryz.func9 rfl fun h=>zSR (qv h rfl rfl fun w1 bb1 h=>X1 7 0 h rfl (zcI h hF (qpF (qdw _ (h.oldS s1) (h.oldS s2) (h.oldS s3) (h.oldS s4) (h.oldS s5))) rfl fun r1 w2 h hF=>X0 8 rfl (qh rfl hF ?_ ?_)))<;>intro hF
 ·exact X0 4 rfl (ri h hF rfl)
 refine X1 6 0 h rfl (zcI h hF (qoH (qaV _)) rfl fun r2 w3 h hF=>X0 8 rfl (qh rfl hF ?_ ?_))<;>intro hF
 ·exact X0 4 rfl (ri h hF rfl)
 refine X1 6 0 h rfl (zcI h hF (qbx ⟨_,_,rfl,(h.oldS s6)⟩) rfl fun r3 w4 h hF=>X0 8 rfl (qh rfl hF ?_ ?_))<;>intro hF
 ·exact X0 4 rfl (ri h hF rfl)
 refine X1 6 0 h rfl (zcI h hF (qod ⟨_,_,rfl,(h.oldS s7)⟩) rfl fun r4 w5 h hF=>X0 8 rfl (qh rfl hF ?_ ?_))<;>intro hF
 ·exact X0 4 rfl (ri h hF rfl)
 exact X0 6 rfl (ri h hF rfl)
def qiw (n:Nat) (a:qbb):Option qbb :=
 (qjQ n (⟨(⟨a.Af.Ay.Aq⟩:qq),(⟨a.Af.Ab.Aa,a.Af.Ab.Am,a.Af.Ab.Aj⟩:qe),a.Af.Ac⟩:qf)).bind fun r1 =>
 (qiV n (⟨a.Ai.Bb,a.Ai.As,a.Ai.Az,a.Ai.Ar,a.Ai.Ba⟩:qt)).bind fun r2 =>
 (qaO n a.Bi).bind fun r3 =>
 (qhU n a.Av).bind fun r4 =>
 some (⟨r1,(⟨r2.Bb,r2.As,r2.Az,r2.Ar,r2.Ba⟩:qt),r3,r4⟩:qbb)
theorem qk9 {a:qbb} (ha1:GoT.R w (old w) a cs1) {r:qbb} (hF:qiw n a=some r):RetV Tryz.prog 11 [GoT.v qbb cs1] w r:=by
 obtain ⟨p1,k1,p2,k2,p3,k3,p4,k4,p5,k5,p6,k6,p7,k7,rfl,s1,s2,s3,s4,s5,s6,s7⟩:=qdo ha1
 refine zV 21 Tryz.func11 rfl fun h=>zSR (qv h rfl rfl fun w1 bb1 h=>qj qa h rfl rfl rfl fun w2 bb2 h=>zNSR (qj qa h rfl rfl rfl fun w3 bb3 h=>X1 5 2 h rfl (zcO h hF (qpO (qdw _ (h.oldS s1) (h.oldS s2) (h.oldS s3) (h.oldS s4) (h.oldS s5))) rfl fun r1 w4 S1 cs2 h hF=>?_)))
 obtain ⟨p8,k8,p9,k9,p10,k10,p11,k11,p12,k12,rfl,-,-,-,-,-⟩:=qaa (h.own 0 rfl)
 refine zp1 rfl (zs 1 h rfl fun w5 h=>X1 5 3 h rfl (zcO h hF (qo5 (qaV _)) rfl fun r2 w6 S2 cs3 h hF=>?_))
 obtain rfl:=qaA (h.own 0 rfl)
 refine zp1 rfl (zs 2 h rfl fun w7 h=>X1 5 4 h rfl (zcL h hF (qaH ⟨_,_,rfl,(h.oldS s6)⟩) rfl fun r3 w8 S3 p13 k13 h hF=>zp1 rfl (zs 3 h rfl fun w9 h=>X1 5 5 h rfl (zcL h hF (qn1 ⟨_,_,rfl,(h.oldS s7)⟩) rfl fun r4 w10 S4 p14 k14 h hF=>zp1 rfl (zs 4 h rfl fun w11 h=>X1 4 4 h rfl (zs 5 h rfl fun w12 h=>qcr ?_))))))
 obtain rfl:=qb hF
 exact qU qa (ρ:=qbb) [GoT.v qbb [.slice p8 r1.Ay.Aq.length k8,.slice p9 r1.Ab.Aa.length k9,.slice p10 r1.Ab.Am.length k10,.slice p11 r1.Ab.Aj.length k11,.slice p12 r1.Ac.length k12,.string r2.Bb,.int .i64 r2.As,.int .i64 r2.Az,.int .i64 r2.Ar,.int .i64 r2.Ba,.slice p13 r3.length k13,.slice p14 r4.length k14]] h ⟨⟨_,_,_,rfl,rfl,h.box 5 rfl,rfl⟩,trivial⟩ (PV.done h (qW (qw3 (⟨r1,(⟨r2.Bb,r2.As,r2.Az,r2.Ar,r2.Ba⟩:qt),r3,r4⟩:qbb) h (qaz 3 h rfl) (qz (S:=fun _=>False) (qaV (⟨r2.Bb,r2.As,r2.Az,r2.Ar,r2.Ba⟩:qt))) (qaz 1 h rfl) (qaz 0 h rfl) (by rfl) (by rfl) (by rfl))))
def qlH (n:Nat) (a:qbb) (b:qbb):Option Bool :=
 (qjB n (⟨(⟨a.Af.Ay.Aq⟩:qq),(⟨a.Af.Ab.Aa,a.Af.Ab.Am,a.Af.Ab.Aj⟩:qe),a.Af.Ac⟩:qf) (⟨(⟨b.Af.Ay.Aq⟩:qq),(⟨b.Af.Ab.Aa,b.Af.Ab.Am,b.Af.Ab.Aj⟩:qe),b.Af.Ac⟩:qf)).bind fun r1 =>
 bif (!r1) then some false else
 (qiQ n (⟨a.Ai.Bb,a.Ai.As,a.Ai.Az,a.Ai.Ar,a.Ai.Ba⟩:qt) (⟨b.Ai.Bb,b.Ai.As,b.Ai.Az,b.Ai.Ar,b.Ai.Ba⟩:qt)).bind fun r2 =>
 bif (!r2) then some false else
 (qbn n a.Bi b.Bi).bind fun r3 =>
 bif (!r3) then some false else
 (qh5 n a.Av b.Av).bind fun r4 =>
 bif (!r4) then some false else
 some true
theorem qqQ {a:qbb} {b:qbb} (ha1:GoT.R w (old w) a cs1) (ha2:GoT.R w (old w) b cs2) {r:Bool} (hF:qlH n a b=some r):RetV Tryz.prog 14 [GoT.v qbb cs1,GoT.v qbb cs2] w r:=by
 obtain ⟨p1,k1,p2,k2,p3,k3,p4,k4,p5,k5,p6,k6,p7,k7,rfl,s1,s2,s3,s4,s5,s6,s7⟩:=qdo ha1
 obtain ⟨p8,k8,p9,k9,p10,k10,p11,k11,p12,k12,p13,k13,p14,k14,rfl,s8,s9,s10,s11,s12,s13,s14⟩:=qdo ha2
 refine zV 29 Tryz.func14 rfl fun h=>zSR (qv h rfl rfl fun w1 bb1 h=>qv h rfl rfl fun w2 bb2 h=>X2 9 1 0 h rfl (zcB h hF (qpA (qdw _ (h.oldS s1) (h.oldS s2) (h.oldS s3) (h.oldS s4) (h.oldS s5)) (qdw _ (h.oldS s8) (h.oldS s9) (h.oldS s10) (h.oldS s11) (h.oldS s12))) rfl fun r1 w3 h hF=>X0 2 rfl (qh rfl hF ?_ ?_)))<;>intro hF
 ·exact X0 4 rfl (rb h hF rfl)
 refine X2 8 1 0 h rfl (zcB h hF (qoI (qaV _) (qaV _)) rfl fun r2 w4 h hF=>X0 2 rfl (qh rfl hF ?_ ?_))<;>intro hF
 ·exact X0 4 rfl (rb h hF rfl)
 refine X2 8 1 0 h rfl (zcB h hF (qbf ⟨_,_,rfl,(h.oldS s6)⟩ ⟨_,_,rfl,(h.oldS s13)⟩) rfl fun r3 w5 h hF=>X0 2 rfl (qh rfl hF ?_ ?_))<;>intro hF
 ·exact X0 4 rfl (rb h hF rfl)
 refine X2 8 1 0 h rfl (zcB h hF (qnZ ⟨_,_,rfl,(h.oldS s7)⟩ ⟨_,_,rfl,(h.oldS s14)⟩) rfl fun r4 w6 h hF=>X0 2 rfl (qh rfl hF ?_ ?_))<;>intro hF
 ·exact X0 4 rfl (rb h hF rfl)
 exact X0 5 rfl (rb h hF rfl)
end Go.Fw


namespace Go.Fw
open Go
def qlR (x:qt):Prop:=rngS x.Bb∧rngI x.As∧rngI x.Az∧rngI x.Ar∧rngI x.Ba
def qkg (x:qt):Nat:=x.Bb.size
structure qry (x:qt):Prop where
 Bb:okS x.Bb
 As:okI x.As
 Az:okI x.Az
 Ar:okI x.Ar
 Ba:okI x.Ba
theorem qtm {x:qt} (h:qlR x) (w:qkg x≤1048576):qry x:=⟨(by unfold okS;simp only [qkg] at w;omega),h.2.1,h.2.2.1,h.2.2.2.1,h.2.2.2.2⟩
theorem qvm {a:qt} (_:qkg a≤1048576):Ev (fun n=>qiQ n a a) true:=by
 unfold qiQ
 exact Ev.ff qh6 (Ev.ff qaS (Ev.ff qaS (Ev.ff qaS (Ev.ff qaS (.done)))))
def qnR (x:qd):Prop:=rngI x.Ap∧rngI x.Bd
structure qrP (x:qd):Prop where
 Ap:okI x.Ap
 Bd:okI x.Bd
theorem qrI {x:qd} (h:qnR x):qrP x:=⟨h.1,h.2⟩
def qiv (x:qg):Prop:=rngI x.Bo∧qnR x.Ah∧qnR x.Bc
structure qo7 (x:qg):Prop where
 Bo:okI x.Bo
 Ah:qrP x.Ah
 Bc:qrP x.Bc
theorem qsE {x:qg} (h:qiv x):qo7 x:=⟨h.1,qrI (h.2.1),qrI (h.2.2)⟩
def qhH (a:(List qg)):Nat:=a.length
theorem qsi {a:(List qg)} (h:(rngL qiv) a) (w:qhH a≤1048576):(okL qo7) a :=
 ⟨by simp only [qhH] at w;omega,fun x hx=>qsE (h.2 x hx)⟩
def qpR (x:qbb):Prop:=qm9 x.Af∧qlR x.Ai∧(rngL rngI) x.Bi∧(rngL qiv) x.Av
def qme (x:qbb):Nat:=qhP x.Af+qkg x.Ai+qcz x.Bi+qhH x.Av
structure ql1 (x:qbb):Prop where
 Af:qlz x.Af
 Ai:qry x.Ai
 Bi:(okL okI) x.Bi
 Av:(okL qo7) x.Av
theorem qwN {x:qbb} (h:qpR x) (w:qme x≤1048576):ql1 x:=⟨qtA (h.1) (by simp only [qme] at w;omega),qtm (h.2.1) (by simp only [qme] at w;omega),qdi (h.2.2.1) (by simp only [qme] at w;omega),qsi (h.2.2.2) (by simp only [qme] at w;omega)⟩
theorem quA {a:qd}:Ev (fun n=>qi4 n a a) true:=by
 unfold qi4
 exact Ev.ff qaS (Ev.ff qaS (.done))
theorem quL {a:qg}:Ev (fun n=>qhk n a a) true:=by
 unfold qhk
 exact Ev.ff qaS (Ev.bind (quA (a:=a.Ah)) (Ev.ff rfl (Ev.bind (quA (a:=a.Bc)) (Ev.ff rfl (.done)))))
theorem qtT {a:(List qg)} (h:qhH a≤1048576):Ev (fun n=>qh5 n a a) true:=by
 have hl:a.length≤1048576:=by simp only [qhH] at h;omega
 unfold qh5
 exact Ev.ff (by simp) (Ev.bind (b:=.nxt (a.length:Int)) (qiP (eqf:=qhk) (fun x hx=>quL)
  (fun n=>by simp only [qeG,ql (jb _),cond_false])
  (fun n j x hx=>by
   have hj:=(List.getElem?_eq_some_iff.1 hx).1
   simp only [qeG,qk hj,cond_true,qax hx,ja,wS j])) .done)
theorem qyt {a:qbb} (h:qme a≤1048576):Ev (fun n=>qlH n a a) true:=by
 unfold qlH
 simp only [qme] at h
 exact Ev.bind (qwp (a:=a.Af) (by omega)) (Ev.ff rfl (Ev.bind (qvm (a:=a.Ai) (by omega)) (Ev.ff rfl (Ev.bind (qfh (a:=a.Bi) (by omega)) (Ev.ff rfl (Ev.bind (qtT (a:=a.Av) (by omega)) (Ev.ff rfl (.done))))))))
theorem quU {a:qt} {left:Int} (h:qlR a) (h0:0≤left) (h1:left≤1048576):Sz (fun n=>qiZ n a left) (fun r=>r=left-(qkg a:Int)):=by
 unfold qiZ
 obtain ⟨h_0,h_1,h_2,h_3,h_4⟩:=h
 exact Sz.strStep h_0 (by omega) (by omega) fun p0 q0=>Sz.done p0 (by simp only [qkg];omega)
theorem qtx {a:(List qg)} {left:Int} (h:(rngL qiv) a) (h0:0≤left) (h1:left≤1048576):Sz (fun n=>qku n a left) (fun r=>r=left-(qhH a:Int)) :=
 Sz.less h0 h1 (by omega) (by have:=h.1;omega) (fun _=>rfl)
theorem qyb {a:qbb} {left:Int} (h:qpR a) (h0:0≤left) (h1:left≤1048576):Sz (fun n=>qlG n a left) (fun r=>r=left-(qme a:Int)):=by
 unfold qlG
 obtain ⟨h_0,h_1,h_2,h_3⟩:=h
 exact Sz.step (qvN (a:=a.Af) h_0 (by omega) (by omega)) fun r0 p0 q0=>Sz.step (quU (a:=a.Ai) h_1 (by omega) (by omega)) fun r1 p1 q1=>Sz.step (qf0 (a:=a.Bi) h_2 (by omega) (by omega)) fun r2 p2 q2=>Sz.step (qtx (a:=a.Av) h_3 (by omega) (by omega)) fun r3 p3 q3=>Sz.done p3 (by simp only [qme];omega)
theorem qvr {a:qt} (_:qkg a≤1048576):Ev (fun n=>qiV n a) a:=by
 unfold qiV
 exact .done
theorem qur {a:qd}:Ev (fun n=>qje n a) a:=by
 unfold qje
 exact .done
theorem qvs {a:qg}:Ev (fun n=>qg9 n a) a:=by
 unfold qg9
 exact Ev.bind (qur (a:=a.Ah)) (Ev.bind (qur (a:=a.Bc)) (.done))
theorem qtz {a:(List qg)} (h:qhH a≤1048576):Ev (fun n=>qhU n a) a:=by
 have hl:a.length≤1048576:=by simp only [qhH] at h;omega
 unfold qhU
 exact Ev.bindN (qim (by omega)) (Ev.bind (b:=(a,(a.length:Int))) (qi2 (cp:=qg9) (fun x hx=>qvs)
  (fun acc n=>by simp only [qeS,ql (jb _),cond_false])
  (fun acc n j x y hx hy=>by
   have hj:=(List.getElem?_eq_some_iff.1 hx).1
   simp only [qeS,qk hj,cond_true,qax hx,qax hy,ja,wS j])) .done)
theorem qtW {a:qbb} (h:qme a≤1048576):Ev (fun n=>qiw n a) a:=by
 unfold qiw
 simp only [qme] at h
 exact Ev.bind (qvT (a:=a.Af) (by omega)) (Ev.bind (qvr (a:=a.Ai) (by omega)) (Ev.bind (qd5 (a:=a.Bi) (by omega)) (Ev.bind (qtz (a:=a.Av) (by omega)) (.done))))
end Go.Fw


namespace Go.Fw
open Go
set_option maxRecDepth 100000
abbrev lkB (b:qf):Nat:=(linksL b).length
abbrev ndB (b:qf):Nat:=2*(places b.Ab).length
abbrev lvJ (b:qf) (br:List Int):List Bool:=lvB br (lkB b)
def grB (b:qf) (br:List Int):Option Tgraph:=some ⟨some (viewV b),lvJ b br⟩
structure TgOk (b:qf) (c:qt) (br:List Int) (xs:List qg) (R:List Nat):Prop where
 bl:blockB b=true
 co:cornerB c=true
 br_:brB br (lkB b)=true
 sr:srcB xs (ndB b)=true
 or_:ordL (linksL b) (lvJ b br) (ndB b) (ndB b) []=some R
theorem TgOk.ord {b:qf} {c:qt} {br:List Int} {xs:List qg} {R:List Nat} (h:TgOk b c br xs R):OrdOk (lkB b) (frL (linksL b)) (toL (linksL b)) (lvL (lvJ b br)) (ndB b) R :=
 qxn (ndB b) [] R (fun l1 k l2 e=>by cases l1<;>cases e) h.or_
theorem TgOk.len {b:qf} {c:qt} {br:List Int} {xs:List qg} {R:List Nat} (h:TgOk b c br xs R):R.length=ndB b:=by
 have:=qwu (ndB b) [] R h.or_
 simpa using this
theorem qkK {x:Int} (h:x ≠ 0):(x != 0)=true:=by simpa using h
theorem qyD {b:qf} {c:qt} {br:List Int} {xs:List qg} (hb:qlz b) (hc:okS c.Bb) (hbl:br.length≤1048576) (hxl:xs.length≤1048576) :
  (∃ code:Int,code ≠ 0∧Ev (fun n=>qh8 n b c br xs) ([],code)∧Ev (fun n=>qff n b c br xs none) (none,[],code)) ∨
  ∃ R,TgOk b c br xs R∧Ev (fun n=>qh8 n b c br xs) (ints R,0)∧Ev (fun n=>qff n b c br xs none) (grB b br,ints R,0):=by
 have s1:=qpg hb
 have i1:=qtM hb
 have s2:=qrV (c:=c) hc
 have i2:=qsH (c:=c) hc
 unfold qh8 qff
 cases h1:blockB b
 ·rw [h1] at s1 i1
  exact .inl ⟨1,by omega,Ev.bind (b:=true) (Ev.bind s1 (Ev.tt rfl .done)) (Ev.tt rfl .done),Ev.bind (b:=true) (Ev.bind i1 (Ev.tt rfl .done)) (Ev.tt rfl .done)⟩
 cases h2:cornerB c
 ·rw [h1] at s1 i1
  rw [h2] at s2 i2
  exact .inl ⟨1,by omega,Ev.bind (b:=true) (Ev.bind s1 (Ev.ff rfl (Ev.bind s2 .done))) (Ev.tt rfl .done),Ev.bind (b:=true) (Ev.bind i1 (Ev.ff rfl (Ev.bind i2 .done))) (Ev.tt rfl .done)⟩
 have hpl:=qa0 (qX (qaq h1))
 have hll:=qgh h1
 have hk:=qiB h1
 have s3:=qtY (br:=br) hb h1 hbl
 have i3:=qs5 (v:=viewV b) (br:=br) hbl hll
 have s4:=qqV (xs:=xs) h1 hxl
 have i4:=qq6 (v:=viewV b) (xs:=xs) hpl hxl
 have ev:(viewV b).links=linksL b:=rfl
 have ep:(viewV b).places=places b.Ab:=rfl
 rw [ev] at i3
 rw [ep] at i4
 rw [h1] at s1 i1
 rw [h2] at s2 i2
 have sA:Ev (fun n=>(qgG n b).bind fun r6=>bif (!r6) then some true else (qhn n c).bind fun r7=>some (!r7)) false:=Ev.bind s1 (Ev.ff rfl (Ev.bind s2 .done))
 have iA:Ev (fun n=>(qis n b).bind fun r6=>bif (!r6) then some true else (qhl n c).bind fun r7=>some (!r7)) false:=Ev.bind i1 (Ev.ff rfl (Ev.bind i2 .done))
 have nv:=qt6 h1
 cases h3:brB br (lkB b)
 ·rw [h3] at s3 i3
  exact .inl ⟨2,by omega,Ev.bind sA (Ev.ff rfl (Ev.bind (b:=true) (Ev.bind s3 (Ev.tt rfl .done)) (Ev.tt rfl .done))),
   Ev.bind iA (Ev.ff rfl (Ev.bind nv (Ev.bind (b:=false) (Ev.ff rfl .done) (Ev.ff rfl (Ev.bind (b:=true) (Ev.bind i3 (Ev.tt rfl .done)) (Ev.tt rfl .done))))))⟩
 cases h4:srcB xs (ndB b)
 ·rw [h3] at s3 i3
  rw [h4] at s4 i4
  exact .inl ⟨2,by omega,Ev.bind sA (Ev.ff rfl (Ev.bind (b:=true) (Ev.bind s3 (Ev.ff rfl (Ev.bind s4 .done))) (Ev.tt rfl .done))),
   Ev.bind iA (Ev.ff rfl (Ev.bind nv (Ev.bind (b:=false) (Ev.ff rfl .done) (Ev.ff rfl (Ev.bind (b:=true) (Ev.bind i3 (Ev.ff rfl (Ev.bind i4 .done))) (Ev.tt rfl .done))))))⟩
 have i5:=qtK (v:=viewV b) (br:=br) hll h3
 rw [ev] at i5
 have s5:=qlP (ls:=linksL b) (br:=br) hll hbl
 have hlv:(lvJ b br).length=lkB b:=qn4
 have s6:=qvx (lv:=lvJ b br) hk hlv
 have i6:=qvz (b:=b) (ps:=places b.Ab) (lo:=pre (load0 b) b.Ac.length) (de:=pre (exactL b) b.Ac.length) (ex:=[]) (lv:=lvJ b br) hk hlv rfl
 rw [h3] at s3 i3
 rw [h4] at s4 i4
 have sB:Ev (fun n=>(qgX n b br).bind fun r4=>bif (r4 != 0) then some true else (qfW n b xs).bind fun r5=>some (!r5)) false:=Ev.bind s3 (Ev.ff rfl (Ev.bind s4 .done))
 have iB:Ev (fun n=>(qek n (some (viewV b)) br).bind fun r6=>bif (!r6) then some true else (qdg n (some (viewV b)) xs).bind fun r7=>some (!r7)) false:=Ev.bind i3 (Ev.ff rfl (Ev.bind i4 .done))
 have sT:∀ r:List Int × Int,Ev (fun n=>(qha n (ndB b:Int) (linksL b) (lvJ b br)).bind fun o=>match o with|(r6,r7)=>bif (!r7) then some (([]:List Int),(7:Int)) else some (r6,0)) r→Ev (fun n=>qeq n b br) r:=fun r hr=>by
  unfold qeq
  exact Ev.bind s3 (Ev.ff rfl (Ev.bind (qhJ h1) (Ev.bind (qmy h1) (Ev.bind s5 hr))))
 cases ho:ordL (linksL b) (lvJ b br) (ndB b) (ndB b) [] with
 | none =>
  have e:ordR (linksL b) (lvJ b br) (ndB b)=([],false):=by unfold ordR;rw [ho]
  rw [e] at s6 i6
  exact .inl ⟨7,by omega,Ev.bind sA (Ev.ff rfl (Ev.bind sB (Ev.ff rfl (Ev.bind (sT ([],7) (Ev.bind s6 (Ev.tt rfl .done))) .done)))),
   Ev.bind iA (Ev.ff rfl (Ev.bind nv (Ev.bind (b:=false) (Ev.ff rfl .done) (Ev.ff rfl (Ev.bind iB (Ev.ff rfl (Ev.bind i5 (Ev.bind i6 (Ev.tt rfl .done)))))))))⟩
 | some R =>
  have e:ordR (linksL b) (lvJ b br) (ndB b)=(ints R,true):=by unfold ordR;rw [ho]
  rw [e] at s6 i6
  exact .inr ⟨R,⟨h1,h2,h3,h4,ho⟩,Ev.bind sA (Ev.ff rfl (Ev.bind sB (Ev.ff rfl (Ev.bind (sT (ints R,0) (Ev.bind s6 (Ev.ff rfl .done))) .done)))),
   Ev.bind iA (Ev.ff rfl (Ev.bind nv (Ev.bind (b:=false) (Ev.ff rfl .done) (Ev.ff rfl (Ev.bind iB (Ev.ff rfl (Ev.bind i5 (Ev.bind i6 (Ev.ff rfl .done)))))))))⟩
structure WkOk (j:qbb) (t:qy) (R:List Nat):Prop where
 tg:TgOk j.Af j.Ai j.Bi j.Av R
 tm:TmOk t (ndB j.Af)
def wkV (j:qbb) (t:qy) (R:List Nat):Option Twork:=some ⟨grB j.Af j.Bi,j,t,ints R⟩
theorem qut {j:qbb} (h:ql1 j) :
  (∃ code:Int,code ≠ 0∧Ev (fun n=>qdf n j.Af j.Ai j.Bi j.Av) (zT,code)∧Ev (fun n=>qjk n j) (none,code)) ∨
  ∃ t R,WkOk j t R∧Ev (fun n=>qdf n j.Af j.Ai j.Bi j.Av) (t,0)∧Ev (fun n=>qjk n j) (wkV j t R,0):=by
 have hbl:=h.Bi.len
 have hxl:=h.Av.len
 unfold qdf qjk
 rcases qyD h.Af h.Ai.Bb hbl hxl with ⟨code,hne,hs,hi⟩|⟨R,hg,hs,hi⟩
 ·exact .inl ⟨code,hne,Ev.bind hs (Ev.tt (qkK hne) .done),Ev.bind hi (Ev.tt (qkK hne) .done)⟩
 ·have h1:=hg.bl
  have hll:=qgh h1
  have s5:=qlP (ls:=linksL j.Af) (br:=j.Bi) hll hbl
  obtain ⟨f,hf,hfi⟩:=qtf h1 hg.co
  have hi0:=hfi [] (.inl rfl)
  rw [qrn] at hi0
  have hpl:=qa0 (qX (qaq h1))
  have hRl:=hg.len
  have hR1:R.length≤1000:=by rw [hRl];show 2*(places j.Af.Ab).length≤1000;omega
  have hRb:∀ k,k ∈ R→k<2*(places j.Af.Ab).length:=fun k hk=>by
   obtain ⟨i,hi,rfl⟩:=List.mem_iff_getElem.1 hk
   exact (hg.ord.at hi).1
  have o2:=qxB (lv:=lvJ j.Af j.Bi) (R:=R) h1 hf qn4 (qsj hxl hg.sr) hRb hR1
  have o3:=qxv (lv:=lvJ j.Af j.Bi) (R:=R) h1 hf (fun _ _=>rfl) hi0 qn4 (qsj hxl hg.sr) (fun i hi=>⟨(hg.ord.at hi).1,(hg.ord.at hi).2.1⟩) hR1
  have o1:=qx7 (lv:=lvJ j.Af j.Bi) h1 hf (qsj hxl hg.sr) R (zTm (2*(places j.Af.Ab).length))
  generalize rnO f (linksL j.Af) (lvJ j.Af j.Bi) j.Av R (zTm (2*(places j.Af.Ab).length))=o at o1 o2 o3
  cases o with
  | none=>exact .inl ⟨3,by omega,Ev.bind hs (Ev.ff rfl (Ev.bind (qhJ h1) (Ev.bind s5 (Ev.bind o2 (Ev.tt rfl .done))))),Ev.bind hi (Ev.ff rfl (Ev.bind o3 (Ev.tt rfl .done)))⟩
  | some t=>exact .inr ⟨t,R,⟨hg,o1 t hRb qub rfl⟩,Ev.bind hs (Ev.ff rfl (Ev.bind (qhJ h1) (Ev.bind s5 (Ev.bind o2 (Ev.ff rfl .done))))),Ev.bind hi (Ev.ff rfl (Ev.bind o3 (Ev.ff rfl .done)))⟩
end Go.Fw


namespace Go.Fw
open Go
set_option maxRecDepth 100000
def swV (j:qbb) (t:qy):Option Tl20Work:=some ⟨j,linksL j.Af,lvJ j.Af j.Bi,t⟩
theorem qw0 {j:qbb} (h:ql1 j) :
  (∃ code:Int,code ≠ 0∧Ev (fun n=>qdc n j) (none,code)∧∀ mode nodes,Ev (fun n=>qg1 n j mode nodes) (none,code)) ∨
  ∃ t R,WkOk j t R∧Ev (fun n=>qdc n j) (swV j t,0)∧∀ mode nodes,nodes.length≤1048576→(mode=0∨mode=1) →
   Ev (fun n=>qg1 n j mode nodes) (bif nodes.all (fun x=>inI x 0 ((ndB j.Af:Int)-1)) then (wkV j t R,0) else (none,4)):=by
 have hbl:=h.Bi.len
 unfold qdc qg1
 rcases qut h with ⟨code,hne,hs,hi⟩|⟨t,R,hw,hs,hi⟩
 ·exact .inl ⟨code,hne,Ev.bind hs (Ev.tt (qkK hne) .done),fun mode nodes=>Ev.bind hi (Ev.tt (qkK hne) .done)⟩
 ·have h1:=hw.tg.bl
  have hll:=qgh h1
  have hpl:=qa0 (qX (qaq h1))
  have s5:=qlP (ls:=linksL j.Af) (br:=j.Bi) hll hbl
  refine .inr ⟨t,R,hw,Ev.bind hs (Ev.ff rfl (Ev.bind (qhJ h1) (Ev.bind s5 .done))),fun mode nodes hn hm=>Ev.bind hi (Ev.ff rfl ?_)⟩
  have hnd:=qor (v:=viewV j.Af) hpl
  have e1:W64 (((2*(viewV j.Af).places.length:Nat):Int)-1)=(ndB j.Af:Int)-1:=by
   show W64 (((2*(places j.Af.Ab).length:Nat):Int)-1)=_
   rw [qaw (by omega) (by omega)]
  unfold wkV grB
  simp only [ja,hnd,e1]
  refine Ev.bind (qdR hn) ?_
  cases nodes.all fun x=>inI x 0 ((ndB j.Af:Int)-1)
  ·exact Ev.tt rfl .done
  ·refine Ev.ff rfl ?_
   rcases hm with rfl|rfl<;>exact Ev.bind (b:=true) (Ev.now rfl) (Ev.ff rfl .done)
theorem qnV {j:qbb} {t:qy} {node:Int} (hl:j.Av.length≤1048576):Ev (fun n=>qgi n (swV j t) node) ((srcV (srcO j.Av node)).2,(srcV (srcO j.Av node)).1):=by
 have h1:Ev (fun n=>qcD (swV j t) node n 0) (match srcO j.Av node with|some y=>.ret (y,true)|none=>.nxt (j.Av.length:Int)):=by
  have main:∀ d i,i+d=j.Av.length→(j.Av.take i).find? (fun s=>s.Bo==node)=none→Ev (fun n=>qcD (swV j t) node n (i:Int)) (match srcO j.Av node with|some y=>.ret (y,true)|none=>.nxt (j.Av.length:Int)):=by
   intro d
   induction d with
   | zero =>
    intro i hi hn
    obtain rfl:i=j.Av.length:=by omega
    rw [jB] at hn
    unfold srcO
    rw [hn]
    refine Ev.succ ?_
    simp only [qcD,swV,ja,ql (jb _),cond_false]
    exact .done
   | succ d ih =>
    intro i hi hn
    have hil:i<j.Av.length:=by omega
    refine Ev.succ ?_
    simp only [qcD,swV,ja,qk hil,cond_true,qA hil,wS i]
    cases hq:(gt j.Av i).Bo==node
    ·refine ih (i+1) (by omega) ?_
     rw [ju hil,List.find?_append,hn,←qe4 hil,List.find?_cons_of_neg (by simp [hq])]
     rfl
    ·have hd:j.Av.drop i=gt j.Av i::j.Av.drop (i+1):=by rw [qe4 hil];exact jD hil
     have:srcO j.Av node=some (gt j.Av i):=by
      generalize gt j.Av i=y at hq hd
      unfold srcO
      rw [←List.take_append_drop i j.Av,List.find?_append,hn,hd,List.find?_cons_of_pos (by simpa using hq)]
      rfl
     rw [this]
     exact .done
  exact main j.Av.length 0 (by omega) rfl
 unfold qgi
 refine Ev.bind h1 ?_
 cases srcO j.Av node<;>exact .done
def atP (ls:List qr) (start:Int) (path:List Int):Nat→Int
 | 0=>start
 | j+1=>(gt ls (at0 path j).toNat).To
def okP (ls:List qr) (lv:List Bool) (start:Int) (path:List Int) (j:Nat):Bool :=
 inI (at0 path j) 0 ((ls.length:Int)-1)&&(gt lv (at0 path j).toNat&&((gt ls (at0 path j).toNat).Bk==atP ls start path j))
def pathB (j:qbb) (start:Int) (path:List Int):Bool:=(srcV (srcO j.Av start)).1&&allN (okP (linksL j.Af) (lvJ j.Af j.Bi) start path) path.length
def endB (j:qbb) (start:Int) (path:List Int):Int:=atP (linksL j.Af) start path path.length
theorem inRange {x:Int} {m:Nat} (h:inI x 0 ((m:Int)-1)=true):0≤x∧x<(m:Int)∧x.toNat<m:=by rw [qa4] at h;omega
theorem qvh {j:qbb} {t:qy} {start:Int} {path:List Int} (h1:blockB j.Af=true) (hl:j.Av.length≤1048576) (hp:path.length≤1048576):∃ e:Int,Ev (fun n=>qk0 n (swV j t) start path) (e,pathB j start path)∧(pathB j start path=true→e=endB j start path):=by
 have hll:=qgh h1
 have hlv:(lvJ j.Af j.Bi).length=lkB j.Af:=qn4
 have hS:=qnV (j:=j) (t:=t) (node:=start) hl
 unfold qk0 pathB
 cases hs:(srcV (srcO j.Av start)).1
 ·rw [hs] at hS
  refine ⟨start,Ev.bind hS (Ev.bind (b:=.nxt (start,0)) (Ev.succ ?_) .done),fun e=>by cases e⟩
  unfold qeg
  cases decide ((0:Int)<(path.length:Int))<;>exact .done
 ·rw [hs] at hS
  have hL:=loopN (Lf:=fun n i x=>qeg (swV j t) path true n i x) (S:=atP (linksL j.Af) start path) (p:=okP (linksL j.Af) (lvJ j.Af j.Bi) start path) (len:=path.length) (bad:=((0:Int),false)) (fin:=(endB j start path,(path.length:Int)))
   (fun n=>by simp only [qeg,ql (jb _),cond_false,ja];rfl)
   (fun i hi _ X hX=>by
    have eW:W64 (((linksL j.Af).length:Int)-1)=((linksL j.Af).length:Int)-1:=qaw (by omega) (by omega)
    simp only [qeg,qk hi,cond_true,ja,qae hi,swV,qcE,eW,wS i]
    unfold okP at hX ⊢
    cases hr:inI (at0 path i) 0 (((linksL j.Af).length:Int)-1)
    ·exact Ev.bind (b:=true) (Ev.tt rfl .done) (Ev.tt rfl .done)
    ·obtain ⟨r0,r1,r2⟩:=inRange hr
     rw [hr] at hX
     simp only [qdD r0 r1,qdD r0 (show at0 path i<((lvJ j.Af j.Bi).length:Int) by rw [hlv];exact r1),ja]
     cases hv:gt (lvJ j.Af j.Bi) (at0 path i).toNat
     ·exact Ev.bind (b:=true) (Ev.ff rfl (Ev.tt rfl .done)) (Ev.tt rfl .done)
     ·rw [hv] at hX
      cases hf:(gt (linksL j.Af) (at0 path i).toNat).Bk==atP (linksL j.Af) start path i
      ·exact Ev.bind (b:=true) (Ev.ff rfl (Ev.ff rfl (Ev.now (by simp only [bne,hf];rfl)))) (Ev.tt rfl .done)
      ·rw [hf] at hX
       exact Ev.bind (b:=false) (Ev.ff rfl (Ev.ff rfl (Ev.now (by simp only [bne,hf];rfl)))) (Ev.ff rfl (hX rfl)))
  cases hb:allN (okP (linksL j.Af) (lvJ j.Af j.Bi) start path) path.length
  ·rw [hb] at hL
   exact ⟨0,Ev.bind hS (Ev.bind hL .done),fun e=>by cases e⟩
  ·rw [hb] at hL
   exact ⟨endB j start path,Ev.bind hS (Ev.bind hL .done),fun _=>rfl⟩
def linkB (ls:List qr) (path:List Int) (j:Nat):Bool:=inI (at0 path j) 0 ((ls.length:Int)-1)&&(decide (j=0) || (gt ls (at0 path (j-1)).toNat).To==(gt ls (at0 path j).toNat).Bk)
theorem quZ {v:Tview} {path:List Int} (hll:v.links.length≤10000) (hp:path.length≤1048576):Ev (fun n=>qgT n (some v) path) (allN (linkB v.links path) path.length):=by
 have hL:=loopN (τ:=Unit) (Lf:=fun n _ x=>qbZ (some v) path n x) (S:=fun _=>()) (p:=linkB v.links path) (len:=path.length) (bad:=false) (fin:=(path.length:Int))
  (fun n=>by simp only [qbZ,ql (jb _),cond_false])
  (fun i hi hpr X hX=>by
   have eW:W64 ((v.links.length:Int)-1)=(v.links.length:Int)-1:=qaw (by omega) (by omega)
   simp only [qbZ,qk hi,cond_true,ja,qae hi,qiK,qcU,qcZ,eW,wS i]
   unfold linkB at hX ⊢
   cases hr:inI (at0 path i) 0 ((v.links.length:Int)-1)
   ·exact .done
   ·obtain ⟨r0,r1,r2⟩:=inRange hr
    rw [hr] at hX
    refine Ev.ff rfl ?_
    by_cases h0:i=0
    ·subst h0
     exact Ev.ff rfl (hX rfl)
    ·refine Ev.tt (decide_eq_true (by omega)) ?_
     have hq:=hpr (i-1) (by omega)
     unfold linkB at hq
     rw [jc] at hq
     obtain ⟨q0,q1,_⟩:=inRange hq.1
     rw [show (i:Int)-1=((i-1:Nat):Int) by omega,qaw (by omega) (by omega)]
     simp only [qae (show i-1<path.length by omega),ja,qdD q0 q1,qdD r0 r1,bne]
     rw [decide_eq_false h0] at hX ⊢
     cases he:(gt v.links (at0 path (i-1)).toNat).To==(gt v.links (at0 path i).toNat).Bk
     ·exact .done
     ·rw [he] at hX
      exact hX rfl)
 unfold qgT
 refine Ev.bind hL ?_
 cases allN (linkB v.links path) path.length<;>exact .done
theorem quc {j:qbb} {t:qy} {R:List Nat} {path:List Int} (hp:path.length≤1048576) (hr:∀ x,x ∈ path→0≤x∧x<(lkB j.Af:Int)):Ev (fun n=>qS n path (wkV j t R)) (!path.all fun x=>gt (lvJ j.Af j.Bi) x.toNat):=by
 have hlv:(lvJ j.Af j.Bi).length=lkB j.Af:=qn4
 have h1:Ev (fun n=>qaF n path (wkV j t R)) (ixL (fun x=>!gt (lvJ j.Af j.Bi) x.toNat) path) :=
  qfn (fin:=(path.length:Int)) (Lf:=qR path (wkV j t R)) (xs:=path) (pf:=fun n x=>qeU n x (wkV j t R)) (fun x hx=>by
    obtain ⟨x0,x1⟩:=hr x hx
    unfold qeU wkV grB
    simp only [ja,qdD x0 (show x<((lvJ j.Af j.Bi).length:Int) by rw [hlv];exact x1)]
    exact .done)
   (fun n=>by simp only [qR,ql (jb _),cond_false])
   (fun n i x hx=>by
    have hi:=(List.getElem?_eq_some_iff.1 hx).1
    simp only [qR,qk hi,cond_true,qax hx,ja,wS i])
   (fun n=>by unfold qaF;congr 1;funext o;cases o<;>rfl)
 unfold qS
 refine Ev.bind h1 (Ev.now ?_)
 rw [qmX,←qon,Bool.not_not]
theorem qsx {j:qbb} {t:qy} {R:List Nat} {start:Int} {path:List Int} (h1:blockB j.Af=true) (hl:j.Av.length≤1048576) (hp:path.length≤1048576):Ev (fun n=>qfB n (wkV j t R) start path) (pathB j start path):=by
 have hll:=qgh h1
 have hS:=qqC (xs:=j.Av) (node:=start) hl
 have hP:=quZ (v:=viewV j.Af) (path:=path) hll hp
 have ev:(viewV j.Af).links=linksL j.Af:=rfl
 rw [ev] at hP
 have fr:path.length ≠ 0→allN (linkB (linksL j.Af) path) path.length=true→∃ k:Nat,k<lkB j.Af∧at0 path 0=(k:Int):=fun h0 hb=>by
  rw [qah] at hb
  have:=hb 0 (by omega)
  unfold linkB at this
  rw [jc] at this
  obtain ⟨q0,q1,q2⟩:=inRange this.1
  exact ⟨(at0 path 0).toNat,q2,qem q0⟩
 have hrg:allN (linkB (linksL j.Af) path) path.length=true→∀ x,x ∈ path→0≤x∧x<(lkB j.Af:Int):=fun hb x hx=>by
  obtain ⟨i,hi,rfl⟩:=List.mem_iff_getElem.1 hx
  rw [qah] at hb
  have:=hb i hi
  unfold linkB at this
  rw [jc] at this
  obtain ⟨q0,q1,_⟩:=inRange this.1
  rw [qkd hi] at q0 q1
  exact ⟨q0,q1⟩
 have key:allN (okP (linksL j.Af) (lvJ j.Af j.Bi) start path) path.length=(allN (linkB (linksL j.Af) path) path.length&&(bif decide (path.length=0) then true else ((gt (linksL j.Af) (at0 path 0).toNat).Bk==start)&&path.all fun x=>gt (lvJ j.Af j.Bi) x.toNat)):=by
  rw [jh,jc,qah,qah]
  unfold okP linkB
  simp only [jc,Bool.or_eq_true,decide_eq_true_eq,beq_iff_eq]
  constructor
  ·intro hh
   refine ⟨fun i hi=>⟨(hh i hi).1,?_⟩,?_⟩
   ·cases i with
    | zero=>exact .inl rfl
    | succ i=>exact .inr (hh (i+1) hi).2.2.symm
   ·by_cases h0:path.length=0
    ·rw [decide_eq_true h0];rfl
    ·rw [decide_eq_false h0]
     simp only [cond_false,jc,beq_iff_eq,jM]
     refine ⟨(hh 0 (by omega)).2.2,fun x hx=>?_⟩
     obtain ⟨i,hi,rfl⟩:=List.mem_iff_getElem.1 hx
     rw [←qkd hi]
     exact (hh i hi).2.1
  ·rintro ⟨ha,hb⟩ i hi
   rw [decide_eq_false (by omega)] at hb
   simp only [cond_false,jc,beq_iff_eq,jM] at hb
   refine ⟨(ha i hi).1,by rw [qkd hi];exact hb.2 _ (jo hi),?_⟩
   cases i with
   | zero=>exact hb.1
   | succ i =>
    rcases (ha (i+1) hi).2 with e|e
    ·omega
    ·exact e.symm
 unfold qfB pathB
 rw [key]
 show Ev (fun n=>(qdX n j.Av start).bind _) _
 refine Ev.bind hS ?_
 cases hs:(srcV (srcO j.Av start)).1
 ·exact Ev.bind (b:=true) (Ev.tt rfl .done) (Ev.tt rfl .done)
 ·cases hb:allN (linkB (linksL j.Af) path) path.length
  ·rw [hb] at hP
   exact Ev.bind (b:=true) (Ev.ff rfl (Ev.bindN rfl (Ev.bind hP .done))) (Ev.tt rfl .done)
  ·have hA:=quc (j:=j) (t:=t) (R:=R) hp (hrg hb)
   have hfr:=fr
   rw [hb] at hP
   refine Ev.bind (b:=false) (Ev.ff rfl (Ev.bindN rfl (Ev.bind hP .done))) (Ev.ff rfl ?_)
   by_cases h0:path.length=0
   ·rw [decide_eq_true h0]
    refine Ev.ff (decide_eq_false (by omega)) (Ev.bind hA (Ev.now ?_))
    rw [List.length_eq_zero_iff.1 h0]
    rfl
   ·rw [decide_eq_false h0]
    obtain ⟨k,hk,ek⟩:=hfr h0 hb
    refine Ev.tt (decide_eq_true (by omega)) ?_
    show Ev (fun n=>(idx path 0).bind fun y4=>(idx (linksL j.Af) y4).bind fun y5=>bif (y5.Bk != start) then some false else (qS n path (wkV j t R)).bind fun r4=>some (!r4)) _
    rw [show idx path (0:Int)=some (k:Int) by rw [show (0:Int)=((0:Nat):Int) from rfl,qae (by omega),ek]]
    simp only [ja,qA hk,bne]
    rw [ek,jj]
    cases (gt (linksL j.Af) k).Bk==start
    ·exact .done
    ·refine Ev.ff rfl (Ev.bind hA (Ev.now ?_))
     rw [Bool.not_not]
     rfl
theorem qsY {j:qbb} {start:Int} {path:List Int} (h:ql1 j) (hp:path.length≤1048576) {mode:Int} (hm:mode=0∨mode=1) :
  (∃ code:Int,code ≠ 0∧Ev (fun n=>qdc n j) (none,code)∧Ev (fun n=>qdY n j mode start path) (none,code)) ∨
  ∃ t R,WkOk j t R∧Ev (fun n=>qdc n j) (swV j t,0)∧Ev (fun n=>qdY n j mode start path) (bif pathB j start path then (wkV j t R,0) else (none,5)):=by
 unfold qdY
 rcases qw0 h with ⟨code,hne,hs,hi⟩|⟨t,R,hw,hs,hi⟩
 ·exact .inl ⟨code,hne,hs,Ev.bind (hi mode []) (Ev.ff (by simpa using hne) .done)⟩
 ·have hP:=qsx (t:=t) (R:=R) (start:=start) hw.tg.bl h.Av.len hp
  refine .inr ⟨t,R,hw,hs,Ev.bind (hi mode [] (Nat.zero_le _) hm) (Ev.tt rfl (Ev.bind hP ?_))⟩
  cases pathB j start path<;>exact .done
end Go.Fw


namespace Go.Fw
open Go
set_option maxRecDepth 100000
section
variable {L:Nat} {fr to:Nat→Int} {lv:Nat→Bool} {n:Nat} {R:List Nat}
theorem OrdOk.ne (h:OrdOk L fr to lv n R) {i j:Nat} (hij:i<j) (hj:j<R.length):R[i]'(by omega) ≠ R[j]:=fun e =>
 (h.at hj).2.1 (by rw [←e,List.mem_iff_getElem];exact ⟨i,by rw [jN];omega,by rw [List.getElem_take]⟩)
theorem OrdOk.nodup (h:OrdOk L fr to lv n R):R.Nodup:=by
 unfold List.Nodup
 rw [List.pairwise_iff_getElem]
 exact fun i j _ hj hij=>h.ne hij hj
theorem OrdOk.full (h:OrdOk L fr to lv n R) (hl:R.length=n) {k:Nat} (hk:k<n):∃ i,∃ hi:i<R.length,R[i]=k:=by
 refine Classical.byContradiction fun hc=>?_
 have hn:k ∉ R:=fun hm=>hc (List.mem_iff_getElem.1 hm)
 have:=qqs (l:=k::R) (l':=List.range n) (List.nodup_cons.2 ⟨hn,h.nodup⟩) (fun x hx=>by
  rw [List.mem_range]
  rcases List.mem_cons.1 hx with rfl|hx
  ·exact hk
  ·obtain ⟨i,hi,rfl⟩:=List.mem_iff_getElem.1 hx
   exact (h.at hi).1)
 rw [List.length_cons,List.length_range] at this
 omega
theorem OrdOk.later (h:OrdOk L fr to lv n R) (hl:R.length=n) {x a c:Nat} (hx:x<L) (hv:lv x=true) (ha:fr x=(a:Int)) (hc:to x=(c:Int)) (hcn:c<n) {i:Nat} (hi:i<R.length) (hia:R[i]=a):∃ j,∃ hj:j<R.length,i<j∧R[j]=c:=by
 obtain ⟨j,hj,e⟩:=h.full hl hcn
 have h0:=(h.at hj).2.2
 rw [e] at h0
 have:=qqk.1 h0 x hx hv hc
 rw [ha,qln,List.mem_iff_getElem] at this
 obtain ⟨i',hi',e'⟩:=this
 rw [jN] at hi'
 rw [List.getElem_take] at e'
 refine ⟨j,hj,?_,e⟩
 rcases Nat.lt_trichotomy i i' with hh|hh|hh
 ·exact absurd (hia.trans e'.symm) (h.ne hh (by omega))
 ·omega
 ·exact absurd (e'.trans hia.symm) (h.ne hh hi)
end
theorem qv1 {j:qbb} {t:qy} {R:List Nat} {start:Int} {path:List Int} (hw:WkOk j t R) (hb:pathB j start path=true):path.length≤156:=by
 have h1:=hw.tg.bl
 have hk:=qiB h1
 have ho:=hw.tg.ord
 have hl:=hw.tg.len
 have hpl:=qa0 (qX (qaq h1))
 have hM:ndB j.Af≤156:=by show 2*(places j.Af.Ab).length≤156;omega
 by_cases h0:path.length=0
 ·omega
 unfold pathB at hb
 rw [jc,qah] at hb
 have step:∀ i,i<path.length→∃ x a c:Nat,x<lkB j.Af∧lvL (lvJ j.Af j.Bi) x=true∧frL (linksL j.Af) x=(a:Int)∧toL (linksL j.Af) x=(c:Int)∧a<ndB j.Af∧c<ndB j.Af∧atP (linksL j.Af) start path i=(a:Int)∧atP (linksL j.Af) start path (i+1)=(c:Int):=by
  intro i hi
  have:=hb.2 i hi
  unfold okP at this
  simp only [jc,beq_iff_eq] at this
  obtain ⟨hr,hv,hf⟩:=this
  obtain ⟨r0,r1,r2⟩:=inRange hr
  have f0:=hk.fr0 _ r2
  have f1:=hk.fr1 _ r2
  have t0:=hk.to0 _ r2
  have t1:=hk.to1 _ r2
  refine ⟨(at0 path i).toNat,(gt (linksL j.Af) (at0 path i).toNat).Bk.toNat,(gt (linksL j.Af) (at0 path i).toNat).To.toNat,r2,hv,qem f0,qem t0,?_,?_,?_,qem t0⟩
  ·show _<2*(places j.Af.Ab).length;omega
  ·show _<2*(places j.Af.Ab).length;omega
  ·rw [←hf];exact qem f0
 have main:∀ i,i≤path.length→∃ p,∃ hp:p<R.length,i≤p∧(R[p]:Int)=atP (linksL j.Af) start path i:=by
  intro i
  induction i with
  | zero =>
   intro _
   obtain ⟨x,a,c,_,_,_,_,ha,_,e,_⟩:=step 0 (by omega)
   obtain ⟨p,hp,ep⟩:=ho.full hl ha
   exact ⟨p,hp,Nat.zero_le _,by rw [ep,e]⟩
  | succ i ih =>
   intro hi
   obtain ⟨p,hp,hle,ep⟩:=ih (by omega)
   obtain ⟨x,a,c,hx,hv,hf,ht,ha,hc,e1,e2⟩:=step i (by omega)
   obtain ⟨q,hq,hlt,eq⟩:=ho.later hl hx hv hf ht hc hp (by rw [e1] at ep;omega)
   exact ⟨q,hq,by omega,by rw [eq,e2]⟩
 obtain ⟨p,hp,hle,_⟩:=main path.length (jb _)
 omega
end Go.Fw


namespace Go.Fw
open Go
set_option maxRecDepth 100000
def modeB (m:Int):Bool:=(m==0) || (m==1)
theorem qtj {m:Int} (h:modeB m=true):m=0∨m=1:=by unfold modeB at h;simpa using h
theorem qvL {m:Int} (h:modeB m=false):(m==0)=false∧(m==1)=false:=by unfold modeB at h;simpa using h
theorem qu5 {n:Nat} {m:Int}:qk1 n m=some (modeB m):=by
 unfold qk1 modeB
 cases m==0<;>rfl
theorem qnE {n:Nat} {m:Int}:qjH n m=some (modeB m):=by
 unfold qjH modeB
 cases m==0<;>rfl
theorem qsQ {j:qbb} {start:Int} {path:List Int} (h:ql1 j) (hp:path.length≤1048576) (mode:Int) :
  (∃ code:Int,code ≠ 0∧Ev (fun n=>qdc n j) (none,code)∧Ev (fun n=>qdY n j mode start path) (none,code)) ∨
  ∃ t R,WkOk j t R∧Ev (fun n=>qdc n j) (swV j t,0)∧Ev (fun n=>qdY n j mode start path) (bif modeB mode then bif pathB j start path then (wkV j t R,0) else (none,5) else (none,2)):=by
 cases hm:modeB mode
 ·obtain ⟨m0,m1⟩:=qvL hm
  have hbl:=h.Bi.len
  unfold qdc qdY qg1
  rcases qut h with ⟨code,hne,hs,hi⟩|⟨t,R,hw,hs,hi⟩
  ·exact .inl ⟨code,hne,Ev.bind hs (Ev.tt (qkK hne) .done),Ev.bind (b:=(none,code)) (Ev.bind hi (Ev.tt (qkK hne) .done)) (Ev.ff (by simpa using hne) .done)⟩
  ·have h1:=hw.tg.bl
   have hll:=qgh h1
   have hpl:=qa0 (qX (qaq h1))
   have s5:=qlP (ls:=linksL j.Af) (br:=j.Bi) hll hbl
   refine .inr ⟨t,R,hw,Ev.bind hs (Ev.ff rfl (Ev.bind (qhJ h1) (Ev.bind s5 .done))),Ev.bind (b:=(none,2)) (Ev.bind hi (Ev.ff rfl ?_)) .done⟩
   have hnd:=qor (v:=viewV j.Af) hpl
   unfold wkV grB
   simp only [ja,hnd]
   refine Ev.bind (qdR (Nat.zero_le _)) (Ev.ff rfl ?_)
   simp only [qu5,hm]
   exact .done
 ·exact qsY h hp (qtj hm)
theorem qsV {j:qbb} {start:Int} {path:List Int} (hb:pathB j start path=true) {i:Nat} (hi:i<path.length):∃ k:Nat,k<lkB j.Af∧at0 path i=(k:Int):=by
 unfold pathB at hb
 rw [jc,qah] at hb
 have:=hb.2 i hi
 unfold okP at this
 rw [jc] at this
 obtain ⟨r0,_,r2⟩:=inRange this.1
 exact ⟨(at0 path i).toNat,r2,qem r0⟩
def ofS (m:Int) (s:qd):Int:=bif m==1 then s.Bd else s.Ap
theorem qwf {m:Int} {a b:qd}:W64 (ofS m a+ofS m b)=ofS m (plusS a b):=by
 unfold ofS plusS
 cases m==1<;>rfl
theorem qp5 {n:Nat} {m:Int} {s:qd}:qir n s m=some (ofS m s):=by
 unfold qir ofS
 cases m==1<;>rfl
theorem qyB {n:Nat} {m:Int} {s:qd} (h:modeB m=true):ql9 n s m=some (ofS m s):=by
 rcases qtj h with rfl|rfl<;>rfl
def arS (f:Nat→qd→qd × qd) (ls:List qr) (t:qy) (a0:qd) (path:List Int):Nat→qd
 | 0=>a0
 | i+1=>plusS (arS f ls t a0 path i) (f (at0 path i).toNat (gt t.Bc (frN ls (at0 path i).toNat))).1
section
variable {j:qbb} {t:qy} {R:List Nat} {start:Int} {path:List Int} {f:Nat→qd→qd × qd}
theorem qxF (h:ql1 j) (hw:WkOk j t R) (hf:SpansS j.Af j.Ai f) (hp:path.length≤1048576) (hb:pathB j start path=true) (mode:Int) :
  Ev (fun n=>qho n (swV j t) start path mode) (ofS mode (arS f (linksL j.Af) t (srcV (srcO j.Av start)).2.Ah path path.length)):=by
 have hk:=qiB hw.tg.bl
 have ht:=hw.tm
 have hL:=loopF (Lf:=fun n s i=>qc0 (swV j t) path mode n s i) (S:=fun i=>ofS mode (arS f (linksL j.Af) t (srcV (srcO j.Av start)).2.Ah path i)) (len:=path.length) (fin:=(ofS mode (arS f (linksL j.Af) t (srcV (srcO j.Av start)).2.Ah path path.length),(path.length:Int)))
  (fun n=>by simp only [qc0,ql (jb _),cond_false])
  (fun i hi X hX=>by
   obtain ⟨k,hk1,ek⟩:=qsV hb hi
   obtain ⟨e1,e2⟩:=qqA hk hk1
   obtain ⟨_,s1⟩:=hf k _ hk1 (ht.sl _ e2)
   have e3:arS f (linksL j.Af) t (srcV (srcO j.Av start)).2.Ah path (i+1)=plusS (arS f (linksL j.Af) t (srcV (srcO j.Av start)).2.Ah path i) (f k (gt t.Bc (frN (linksL j.Af) k))).1:=by
    show plusS _ _=_
    rw [ek,jj]
   rw [e3,←qwf] at hX
   simp only [qc0,qk hi,cond_true,qae hi,ja,ek,wS i]
   refine Ev.bind (b:=ofS mode (f k (gt t.Bc (frN (linksL j.Af) k))).1) ?_ hX
   unfold qlb swV
   simp only [ja,qA hk1,e1,qA (show frN (linksL j.Af) k<t.Bc.length by rw [ht.s];exact e2)]
   refine Ev.bind s1 ?_
   simp only [qp5]
   exact .done)
 unfold qho
 refine Ev.bind (qnV h.Av.len) ?_
 simp only [qp5,ja]
 exact Ev.bind hL .done
theorem qxz (h:ql1 j) (hw:WkOk j t R) (hf:SpansI j.Af j.Ai [] f) (hp:path.length≤1048575) (hb:pathB j start path=true) :
  Ev (fun n=>qio n (wkV j t R) start path) (pre (arS f (linksL j.Af) t (srcV (srcO j.Av start)).2.Ah path) (path.length+1)):=by
 have hk:=qiB hw.tg.bl
 have ht:=hw.tm
 obtain ⟨a0,ha⟩:∃ a,a=(srcV (srcO j.Av start)).2.Ah:=⟨_,rfl⟩
 have hL:=loopF (Lf:=fun n (s:List qd × qd) i=>qdn path ⟨grB j.Af j.Bi,j,t,ints R⟩ n s.1 s.2.Ap s.2.Bd i) (S:=fun i=>(pre (arS f (linksL j.Af) t a0 path) (i+1),arS f (linksL j.Af) t a0 path i)) (len:=path.length) (fin:=(pre (arS f (linksL j.Af) t a0 path) (path.length+1),(arS f (linksL j.Af) t a0 path path.length).Ap,(arS f (linksL j.Af) t a0 path path.length).Bd,(path.length:Int)))
  (fun n=>by simp only [qdn,ql (jb _),cond_false])
  (fun i hi X hX=>by
   obtain ⟨k,hk1,ek⟩:=qsV hb hi
   obtain ⟨e1,e2⟩:=qqA hk hk1
   obtain ⟨_,s1⟩:=hf k _ hk1 (ht.sl _ e2)
   have e3:arS f (linksL j.Af) t a0 path (i+1)=plusS (arS f (linksL j.Af) t a0 path i) (f k (gt t.Bc (frN (linksL j.Af) k))).1:=by
    show plusS _ _=_
    rw [ek,jj]
   have ev:(viewV j.Af).links=linksL j.Af:=rfl
   have ea:appS (pre (arS f (linksL j.Af) t a0 path) (i+1)) [arS f (linksL j.Af) t a0 path (i+1)]=some (pre (arS f (linksL j.Af) t a0 path) (i+1+1)):=qpT (by omega)
   simp only [qdn,qk hi,cond_true,qae hi,ja,ek,wkV,grB,ev,qA hk1,e1,qA (show frN (linksL j.Af) k<t.Bc.length by rw [ht.s];exact e2),wS i]
   refine Ev.bind s1 ?_
   generalize (f k (gt t.Bc (frN (linksL j.Af) k))).1=q at e3
   generalize arS f (linksL j.Af) t a0 path i=u at e3
   simp only [qgo,ja]
   rw [e3] at ea hX
   unfold plusS at ea hX
   rw [ea]
   exact hX)
 unfold qio
 show Ev (fun n=>(qdX n j.Av start).bind _) _
 refine Ev.bind (qqC h.Av.len) ?_
 subst ha
 exact Ev.bind hL .done
theorem qwU (h:ql1 j) (hw:WkOk j t R) (hf:SpansI j.Af j.Ai [] f) (hp:path.length≤1048575) (hb:pathB j start path=true) :
  Ev (fun n=>qdT n (wkV j t R) start path) (arS f (linksL j.Af) t (srcV (srcO j.Av start)).2.Ah path path.length):=by
 unfold qdT
 refine Ev.bind (qxz h hw hf hp hb) ?_
 rw [qhs (by omega)]
 exact .done
end
section
variable {j:qbb} {t:qy} {R:List Nat} {start mode:Int} {path:List Int} {d:Nat→Int→Int × Int}
end
theorem qqP {j:qbb} {start mode:Int} {path:List Int} (h:ql1 j) (hl:okL okI path):∃ R:Int × Int,Ev (fun n=>qgU n j start path mode) R∧Ev (fun n=>qgE n j start path mode) R:=by
 have hp:=hl.len
 unfold qgU qgE
 rcases qsQ (start:=start) h hp mode with ⟨code,hne,hs,hi⟩|⟨t,R,hw,hs,hi⟩
 ·exact ⟨(0,code),Ev.bind hs (Ev.tt (qkK hne) .done),Ev.bind hi (Ev.tt (qkK hne) .done)⟩
 ·cases hm:modeB mode
  ·rw [hm] at hi
   refine ⟨(0,2),Ev.bind hs (Ev.ff rfl ?_),Ev.bind hi (Ev.tt rfl .done)⟩
   simp only [qnE,hm]
   exact .done
  ·rw [hm] at hi
   obtain ⟨e,he,_⟩:=qvh (j:=j) (t:=t) (start:=start) hw.tg.bl h.Av.len hp
   cases hb:pathB j start path
   ·rw [hb] at hi he
    refine ⟨(0,5),Ev.bind hs (Ev.ff rfl ?_),Ev.bind hi (Ev.tt rfl .done)⟩
    simp only [qnE,hm,ja]
    exact Ev.ff rfl (Ev.bind he .done)
   ·have hpl:=qv1 hw hb
    rw [hb] at hi he
    obtain ⟨f,hf,hfi⟩:=qtf hw.tg.bl hw.tg.co
    have hi0:=hfi [] (.inl rfl)
    rw [qrn] at hi0
    refine ⟨(ofS mode (arS f (linksL j.Af) t (srcV (srcO j.Av start)).2.Ah path path.length),0),Ev.bind hs (Ev.ff rfl ?_),Ev.bind hi (Ev.ff rfl (Ev.bind (qwU h hw hi0 (by omega) hb) ?_))⟩
    ·simp only [qnE,hm,ja]
     exact Ev.ff rfl (Ev.bind he (Ev.ff rfl (Ev.bind (qxF h hw hf hp hb mode) .done)))
    ·simp only [qyB hm]
     exact .done
end Go.Fw


namespace Go.Fw
open Go
set_option maxRecDepth 100000
end Go.Fw


namespace Go.Fw
open Go Go.Proofs
open Go.RowKit (Below)
set_option maxRecDepth 100000
set_option maxHeartbeats 1600000
variable {n:Nat} {w:World} {cs1 cs2 cs3 cs4 cs5 cs6 cs7 cs8 cs9:List Value}
def qe8 (n:Nat) (aJ:qbb) (aStart:Int) (aLinks:(List Int)) (aMode:Int):Option Bool :=
 bif decide ((aLinks.length:Int) > 1048576) then some true else
 (qlG n aJ 1048576).bind fun r1 =>
 bif decide (r1<0) then some true else
 (qiw n aJ).bind fun r2 =>
 (qaO n aLinks).bind fun r3 =>
 (qgU n r2 aStart r3 aMode).bind fun o=>match o with
  | (r5,r6) =>
   (qiw n aJ).bind fun r7 =>
   (qaO n aLinks).bind fun r8 =>
   (qgE n r7 aStart r8 aMode).bind fun o=>match o with
    | (r10,r11) =>
     (
      bif (r10 != r5) then some true else
      some (r11 != r6)).bind fun b1 =>
     bif b1 then some false else
     (qiw n aJ).bind fun r12 =>
     (qlH n r7 r12).bind fun r13 =>
     bif (!r13) then some false else
     (qaO n aLinks).bind fun r14 =>
     (qbn n r8 r14).bind fun r15 =>
     bif (!r15) then some false else
     some true
theorem qko {aJ:qbb} {aStart:Int} {aLinks:(List Int)} {aMode:Int} (ha1:GoT.R w (old w) aJ cs1) (ha2:GoT.R w (old w) aLinks cs2) {r:Bool} (hF:qe8 n aJ aStart aLinks aMode=some r):RetV Tryz.prog 3 [GoT.v qbb cs1,.int .i64 aStart,GoT.v (List Int) cs2,.int .i64 aMode] w r:=by
 obtain ⟨p1,k1,p2,k2,p3,k3,p4,k4,p5,k5,p6,k6,p7,k7,rfl,s1,s2,s3,s4,s5,s6,s7⟩:=qdo ha1
 obtain ⟨p8,k8,rfl,s8⟩:=ha2
 refine zV 64 Tryz.func3 rfl fun h=>zSR (qv h rfl rfl fun w1 bb1 h=>X0 9 rfl (qh rfl hF ?_ ?_))<;>intro hF
 ·exact X0 4 rfl (rb h hF rfl)
 refine X1 9 0 h rfl (zcI h hF (qqS (h.old ha1)) rfl fun r1 w2 h hF=>X0 8 rfl (qh rfl hF ?_ ?_))<;>intro hF
 ·exact X0 4 rfl (rb h hF rfl)
 refine X1 4 0 h rfl (zcO h hF (qk9 (h.old ha1)) rfl fun r2 w3 S1 cs3 h hF=>?_)
 obtain ⟨p9,k9,p10,k10,p11,k11,p12,k12,p13,k13,p14,k14,p15,k15,rfl,-,-,-,-,-,-,-⟩:=qdo (h.own 0 rfl)
 refine zp2 rfl (zcL h hF (qaH ⟨_,_,rfl,(h.oldS s8)⟩) rfl fun r3 w4 S2 p16 k16 h hF=>zp1 rfl ?_)
 obtain ⟨r4,hr4,hF⟩:=qc hF
 obtain ⟨r5,r6⟩:=r4
 refine qaD (r5,r6) h (cB 10 rfl) (qnq (h.own 1 rfl) (h.own 0 rfl) hr4) rfl rfl rfl rfl fun w5 S3 us1 hv1 hr5=>?_
 obtain ⟨S4,us2,rfl,hv2,hr6⟩:=hv1.consI hr5
 obtain ⟨rfl,h⟩:=hv2.lastI hr6
 refine X1 9 2 h rfl (zcO h hF (qk9 (h.old ha1)) rfl fun r7 w6 S6 cs4 h hF=>?_)
 obtain ⟨p17,k17,p18,k18,p19,k19,p20,k20,p21,k21,p22,k22,p23,k23,rfl,-,-,-,-,-,-,-⟩:=qdo (h.own 0 rfl)
 refine qj qa h rfl rfl rfl fun w7 bb2 h=>zs 0 h rfl fun w8 h=>X0 4 rfl (zcL h hF (qaH ⟨_,_,rfl,(h.oldS s8)⟩) rfl fun r8 w9 S7 p24 k24 h hF=>X1 8 1 h rfl ?_)
 obtain ⟨r9,hr10,hF⟩:=qc hF
 obtain ⟨r10,r11⟩:=r9
 refine qaD (r10,r11) h (cB 13 rfl) (qnt (h.own 2 rfl) (h.own 0 rfl) hr10) rfl rfl rfl rfl fun w10 S8 us3 hv4 hr11=>?_
 obtain ⟨S9,us4,rfl,hv5,hr12⟩:=hv4.consI hr11
 obtain ⟨rfl,h⟩:=hv5.lastI hr12
 refine X0 8 rfl ?_
 obtain ⟨KF1,hKF1,o1,hF,hK1⟩:=bindE hF
 refine qbl (fun e w'=>∃ (b1:Bool),KF1 b1=some r∧e=[(2,.slice p8 aLinks.length k8),(4,.pointer (some ⟨bb1,0,none⟩)),(12,.pointer (some ⟨bb2,0,none⟩)),(13,.slice p24 r8.length k24),(53,.bool b1)]∧SH w w' [Ch.own S7 (r8:List Int) [.slice p24 r8.length k24],Ch.box bb2 (qss r7 p17 p18 p19 p20 p21 p22 p23 k17 k18 k19 k20 k21 k22 k23) 55,Ch.own S6 (r7:qbb) (qss r7 p17 p18 p19 p20 p21 p22 p23 k17 k18 k19 k20 k21 k22 k23),Ch.box bb1 (qss aJ p1 p2 p3 p4 p5 p6 p7 k1 k2 k3 k4 k5 k6 k7) 38]) ?_ ?_
 ·refine X0 5 rfl (qi (t:=49) hF rfl ?_ ?_)<;>intro hF
  ·refine X0 5 rfl ?_
   replace h:=h.pick [0,1,2,5] rfl
   obtain rfl:=qb hF
   exact rG ⟨_,hK1,rfl,h⟩ rfl
  refine X0 8 rfl ?_
  replace h:=h.pick [0,1,2,5] rfl
  obtain rfl:=qb hF
  exact rG ⟨_,hK1,rfl,h⟩ rfl
 rintro e1 w16 ⟨b1,hF,rfl,h⟩
 subst hKF1
 refine qh rfl hF ?_ ?_<;>intro hF
 ·exact X0 4 rfl (rb h hF rfl)
 refine zKSS (rA [] [1,3] h rfl fun w11 h=>M2 3 [0,1] 0 1 (h.pick [1,3] rfl) rfl (Ao 2 7 rfl (zcO h hF (qk9 (h.old ha1)) rfl fun r12 w12 S11 cs5 h hF=>?_)))
 obtain ⟨p25,k25,p26,k26,p27,k27,p28,k28,p29,k29,p30,k30,p31,k31,rfl,-,-,-,-,-,-,-⟩:=qdo (h.own 0 rfl)
 refine Ag (h.pick [2,4] rfl) (Ao 3 15 rfl (zcB h hF (qqQ (h.own 3 rfl) (h.own 0 rfl)) rfl fun r13 w13 h hF=>G0 31 [4] (h.pick [2,4] rfl) rfl (Ad (qh rfl hF ?_ ?_))))<;>intro hF
 ·exact X0 4 rfl (rb h hF rfl)
 refine X0 6 rfl (zcL h hF (qaH ⟨_,_,rfl,(h.oldS s8)⟩) rfl fun r14 w14 S12 p32 k32 h hF=>zcB h hF (qbf (h.own 2 rfl) (h.own 0 rfl)) rfl fun r15 w15 h hF=>X0 2 rfl (qh rfl hF ?_ ?_))<;>intro hF
 ·exact X0 4 rfl (rb h hF rfl)
 exact X0 5 rfl (rb h hF rfl)
end Go.Fw


namespace Go.Fw
open Go
end Go.Fw


namespace Go.Fw
open Go
set_option maxRecDepth 100000
theorem ql7 {j:qbb} {start:Int} {path:(List Int)} {mode:Int} (h0:qpR j) (h1:rngI start) (h2:(rngL rngI) path) (h3:rngI mode):Ev (fun n=>qe8 n j start path mode) true:=by
 unfold qe8
 refine Ev.bif (fun _=>.done) (fun hl=>?_)
 have hl2:path.length≤1048576:=by have:=of_decide_eq_false hl;omega
 obtain ⟨r1,e1,q1⟩:=qyb (a:=j) (left:=1048576) h0 (by omega) (by omega)
 refine Ev.bind e1 ?_
 rcases q1 with q1|⟨p1,q1⟩
 ·exact Ev.tt (by simpa using q1) .done
 refine Ev.ff (by simp;omega) ?_
 have w0:qme j≤1048576:=by omega
 have k0:=qwN h0 w0
 have w2:qcz path≤1048576:=by unfold qcz;omega
 have k2:=qdi h2 w2
 obtain ⟨⟨R0,R1⟩,hs,hi⟩:=qqP (j:=j) (start:=start) (path:=path) (mode:=mode) k0 k2
 refine Ev.bind (qtW w0) ?_
 refine Ev.bind (qd5 w2) ?_
 refine Ev.bind hs ?_
 refine Ev.bind (qtW w0) ?_
 refine Ev.bind (qd5 w2) ?_
 refine Ev.bind hi ?_
 refine Ev.bind (b:=false) (Ev.ff (by simp) (Ev.now (by simp))) (Ev.ff rfl ?_)
 refine Ev.bind (qtW w0) ?_
 refine Ev.bind (qyt w0) (Ev.ff rfl ?_)
 refine Ev.bind (qd5 w2) ?_
 refine Ev.bind (qfh w2) (Ev.ff rfl ?_)
 exact .done
end Go.Fw
