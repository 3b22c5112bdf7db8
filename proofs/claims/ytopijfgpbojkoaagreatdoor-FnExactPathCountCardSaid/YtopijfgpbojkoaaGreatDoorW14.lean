/- Plain laws: the delay and the slew of a link. -/
import Derived.Test.YtopijfgpbojkoaaGreatDoorW8
import Derived.Test.YtopijfgpbojkoaaGreatDoorB9
open Option renaming bind_some → ja
open Nat renaming le_refl → jb, mul_le_mul_right → jj, le_of_ble_eq_true → jq, lt_of_lt_of_le → jt, succ_mul → jF, zero_add → jV
open Bool renaming and_eq_true → jc, eq_iff_iff → jh, true_and → jw, not_eq_true' → jE, not_true → jX
open Go.Result renaming andThen_ok → jd
open List renaming length_append → je, getElem?_eq_getElem → jf, length_singleton → jk, append_assoc → jm, mem_cons_of_mem → jn, getElem_mem → jo, getElem?_append_left → jr, take_succ_eq_append_getElem → js, mem_cons_self → ju, length_map → jv, getElem?_take → jx, getElem?_append_right → jy, getD_eq_getElem?_getD → jz, getElem?_toArray → jA, take_length → jB, length_replicate → jC, eq_nil_of_length_eq_zero → jD, not_mem_nil → jG, size_toArray → jH, drop_eq_getElem_cons → jL, getElem_of_mem → jM, map_append → jN, mem_append_left → jO, mem_cons → jQ, all_eq_true → jS, length_take → jT, ext_getElem → jU
open Go.Sem renaming run_bind → jg, run_pure → ji
open Int renaming toNat_natCast → jp, tdiv_eq_ediv_of_nonneg → jJ, mul_nonneg → jK, mul_assoc → jP, mul_le_mul → jR, le_refl → jW
open Array renaming getElem?_append_left → jI

namespace Go.Fw
open Go
set_option maxRecDepth 100000
theorem qrJ {α:Type} {f:Nat→List α} {n:Nat} {x:α} (h:x ∈ fm f n):∃ j,j<n∧x ∈ f j:=by
 unfold fm at h
 obtain ⟨j,h1,h2⟩:=List.mem_flatMap.1 h
 exact ⟨j,List.mem_range.1 h1,h2⟩
theorem qtD {x:Int} {j:Nat} {t:Int} (ht:b01 t) (hj:j≤100000) (e:x=2*(j:Int)+t):W64 (x.tdiv 2)=(j:Int)∧x.tmod 2=t:=by
 have ht':0≤t∧t≤1:=by rcases ht with e|e<;>omega
 have hx:0≤x:=by omega
 rw [jJ hx,Int.tmod_eq_emod_of_nonneg hx,qas (by omega) (by omega)]
 omega
structure CLk (b:qf) (x:qq) (i j m net a:Nat):Prop where
 kind:x.Be=1
 il:i<b.Ab.Aa.length
 jl:j<(places b.Ab).length
 inst:(gt (places b.Ab) j).instance_=(i:Int)
 net_:(gt (places b.Ab) j).net=(net:Int)
 nl:net<b.Ac.length
 half:W64 (x.To.tdiv 2)=(j:Int)
 mod:x.To.tmod 2=(m:Int)
 ml:m<2
 ix:x.Bz=(a:Int)
 al:a<(cellAt b (i:Int)).Ar.length
 d2:(gt (cellAt b (i:Int)).Ar a).Bp.length=2
 s2:(gt (cellAt b (i:Int)).Ar a).Bd.length=2
 dt:∀ t,t ∈ (gt (cellAt b (i:Int)).Ar a).Bp→TbOk t∧∀ k,0≤at0 t.Bi k
 st:∀ t,t ∈ (gt (cellAt b (i:Int)).Ar a).Bd→TbOk t∧∀ k,0≤at0 t.Bi k
structure WLk (b:qf) (x:qq) (j net k:Nat):Prop where
 kind:x.Be=2
 jl:j<(places b.Ab).length
 net_:(gt (places b.Ab) j).net=(net:Int)
 nl:net<b.Ac.length
 half:W64 (x.To.tdiv 2)=(j:Int)
 ix:x.Bz=(k:Int)
 kl:k<(gt b.Ac net).Bl.length
theorem qxu {xs:List Int} (h:0≤mnL xs) (k:Nat):0≤at0 xs k:=by
 have fold:∀ (ys:List Int) (a:Int),(ys.foldl (fun (m y:Int)=>if y<m then y else m) a≤a)∧∀ y,y ∈ ys→ys.foldl (fun (m y:Int)=>if y<m then y else m) a≤y:=by
  intro ys
  induction ys with
  | nil=>intro a;exact ⟨jW _,fun y hy=>by cases hy⟩
  | cons z ys ih =>
   intro a
   rw [List.foldl_cons]
   obtain ⟨h1,h2⟩:=ih (if z<a then z else a)
   refine ⟨?_,fun y hy=>?_⟩
   ·split at h1<;>split<;>omega
   ·rcases List.mem_cons.1 hy with e|e
    ·subst e;split at h1<;>split<;>omega
    ·exact h2 y e
 by_cases hk:k<xs.length
 ·have hm:xs[k] ∈ xs.drop 1∨k=0:=by
   by_cases h0:k=0
   ·exact .inr h0
   ·refine .inl ?_
    have:xs[k]=(xs.drop 1)[k-1]'(by rw [List.length_drop];omega):=by
     rw [List.getElem_drop]
     congr 1;omega
    rw [this]
    exact jo _
  rw [qmC hk]
  unfold mnL at h
  rcases hm with hm|h0
  ·exact Int.le_trans h ((fold _ _).2 _ hm)
  ·subst h0
   have:=(fold (xs.drop 1) (at0 xs 0)).1
   rw [←qmC hk]
   exact Int.le_trans h this
 ·rw [qtL hk];exact jW _
theorem qpY {ts:List qv} (h:tablesB ts true=true):ts.length=2∧∀ t,t ∈ ts→TbOk t∧∀ k,0≤at0 t.Bi k:=by
 unfold tablesB at h
 rw [jc,decide_eq_true_eq,jS] at h
 refine ⟨h.1,fun t ht=>?_⟩
 have:=h.2 t ht
 unfold tabB at this
 simp only [jX,Bool.false_or,jc,decide_eq_true_eq] at this
 exact ⟨qt6 this.1,qxu this.2⟩
theorem qtz {ps:List qan} {a:qP} (h:arcS ps a=true) (h3:a.Be≤3) (h1:1≤a.Be):a.To=(ps.length:Int)-1∧tablesB a.Bp true=true∧tablesB a.Bd true=true:=by
 unfold arcS at h
 rcases (by omega:a.Be=1∨a.Be=2∨a.Be=3) with e|e|e
 ·rw [e] at h
  simp only [beq_self_eq_true,cond_true,jc,beq_iff_eq] at h
  exact ⟨h.2.2.1,h.2.2.2.2⟩
 ·rw [e] at h
  simp only [show ((2:Int)==1)=false from rfl,cond_false,beq_self_eq_true,Bool.true_or,cond_true,jc,beq_iff_eq] at h
  exact ⟨h.2.2.1,h.2.2.2.2⟩
 ·rw [e] at h
  simp only [show ((3:Int)==1)=false from rfl,cond_false,beq_self_eq_true,Bool.or_true,cond_true,jc,beq_iff_eq] at h
  exact ⟨h.2.2.1,h.2.2.2.2⟩
theorem qsJ {a:qP} {t:qI} (h:t ∈ transL a):1≤a.Be∧a.Be≤3:=by
 refine ⟨?_,?_⟩<;>refine Int.le_of_not_gt fun hg=>?_
 ·have:arcLs 0 0 a=[]:=by
   unfold arcLs transL
   rw [show (a.Be==2)=false from beq_eq_false_iff_ne.2 (by omega),show (a.Be==3)=false from beq_eq_false_iff_ne.2 (by omega),show (a.Be != 1)=true from bne_iff_ne.2 (by omega)]
   rfl
  unfold arcLs at this
  rw [List.map_eq_nil_iff] at this
  rw [this] at h;cases h
 ·have:arcLs 0 0 a=[]:=qoQ hg
  unfold arcLs at this
  rw [List.map_eq_nil_iff] at this
  rw [this] at h;cases h
theorem qkd {b:qf} (h:blockB b=true) {x:qq} (hx:x ∈ linksL b):((∃ i j m net a,CLk b x i j m net a)∨∃ j net k,WLk b x j net k)∧(0≤x.Bk∧x.Bk<2*((places b.Ab).length:Int))∧(0≤x.To∧x.To<2*((places b.Ab).length:Int)):=by
 have hd:=qat h
 have hs:=qaa hd
 have hl:=qbl hs
 have hwl:=qlI h
 unfold linksL at hx
 rcases List.mem_append.1 hx with hx|hx
 ·obtain ⟨i,hi,hx⟩:=qrJ hx
  obtain ⟨a,ha,hx⟩:=qrJ hx
  unfold arcLs at hx
  obtain ⟨t,ht,rfl⟩:=List.mem_map.1 hx
  obtain ⟨⟨c0,c1⟩,hnl,hcb⟩:=qgL hd hi
  have hcA:cellAt b (i:Int)=gt b.Av.Aq (gt b.Ab.Aa i).Bs.toNat:=rfl
  rw [←hcA] at hnl hcb
  obtain ⟨⟨k1,k5⟩,hf,hto,hA⟩:=qmp hcb ha
  obtain ⟨g1,g3⟩:=qsJ ht
  obtain ⟨t0,t1⟩:=qqG ht
  obtain ⟨eT,tD,tS⟩:=qtz hA g3 g1
  obtain ⟨d2,dt⟩:=qpY tD
  obtain ⟨s2,st⟩:=qpY tS
  have hpb:=(qgo (qik hcb)).1
  have hk:(cellAt b (i:Int)).Bc.length-1<(gt b.Ab.Aa i).Am.length:=by omega
  obtain ⟨hj,ej⟩:=qjD hi hk
  obtain ⟨n0,n1⟩:=qll hd hj
  have e1:(al1 (off b.Ab i:Int) a (gt (cellAt b (i:Int)).Ar a) t).To=2*((off b.Ab i+((cellAt b (i:Int)).Bc.length-1):Nat):Int)+t.e1:=by
   show 2*((off b.Ab i:Int)+(gt (cellAt b (i:Int)).Ar a).To)+t.e1=_
   rw [eT];omega
  obtain ⟨hh,hm⟩:=qtD t1 (by omega) e1
  obtain ⟨m,em⟩:∃ m:Nat,t.e1=(m:Int):=⟨t.e1.toNat,by rcases t1 with e|e<;>omega⟩
  have hfr:off b.Ab i+(gt (cellAt b (i:Int)).Ar a).Bk.toNat<(places b.Ab).length:=(qjD hi (k:=(gt (cellAt b (i:Int)).Ar a).Bk.toNat) (by omega)).1
  have e2:(al1 (off b.Ab i:Int) a (gt (cellAt b (i:Int)).Ar a) t).Bk=2*((off b.Ab i:Int)+(gt (cellAt b (i:Int)).Ar a).Bk)+t.e0:=rfl
  refine ⟨.inl ⟨i,_,m,(gt (places b.Ab) (off b.Ab i+((cellAt b (i:Int)).Bc.length-1))).net.toNat,a,⟨rfl,hi,hj,by rw [ej];rfl,qfU n0,by omega,hh,by rw [hm,em],by rcases t1 with e|e<;>omega,rfl,ha,d2,s2,dt,st⟩⟩,?_,?_⟩
  ·rw [e2]
   rcases t0 with e|e<;>rw [e]<;>omega
  ·rw [e1]
   rcases t1 with e|e<;>rw [e]<;>omega
 ·obtain ⟨i,hi,hx⟩:=qrJ hx
  obtain ⟨k,hk,hx⟩:=qrJ hx
  obtain ⟨y,hy,ey,hq⟩:=qof hk
  have hdv:=(qiR hd (k:=i) (by omega)).1
  have hw:=qbe h hi
  have hq':(gt (places b.Ab) y).net=(i:Int):=by
   unfold snkQ at hq
   simp only [jc,beq_iff_eq] at hq
   exact hq.1
  have main:∀ t:Int,b01 t→x=⟨2*(dvN b.Ab i:Int)+t,2*at0 (skL b i) k+t,2,(k:Int)⟩→((∃ i j m net a,CLk b x i j m net a)∨∃ j net k,WLk b x j net k)∧(0≤x.Bk∧x.Bk<2*((places b.Ab).length:Int))∧(0≤x.To∧x.To<2*((places b.Ab).length:Int)):=by
   intro t ht e
   have e1:x.To=2*(y:Int)+t:=by rw [e,ey]
   have e2:x.Bk=2*(dvN b.Ab i:Int)+t:=by rw [e]
   obtain ⟨hh,hm⟩:=qtD ht (by omega) e1
   refine ⟨.inr ⟨y,i,k,⟨by rw [e],hy,hq',hi,hh,by rw [e],by rw [hw.snk];exact hk⟩⟩,?_,?_⟩
   ·rw [e2]
    rcases ht with e|e<;>rw [e]<;>omega
   ·rw [e1]
    rcases ht with e|e<;>rw [e]<;>omega
  unfold wl1 at hx
  simp only [jQ,jG,or_false] at hx
  rcases hx with hx|hx
  ·exact main 0 (.inl rfl) (by rw [hx,Int.add_zero,Int.add_zero])
  ·exact main 1 (.inr rfl) hx
theorem qnl {α:Type} [Inhabited α] {xs:List α} {k:Nat} (h:k<xs.length):gt xs k ∈ xs:=by rw [qeu h];exact jo h
theorem qkQ {b:qf} (h:blockB b=true):LkOk (linksL b) (2*(places b.Ab).length) where
 len:=qj7 h
 nodes:=by have:=qbl (qaa (qat h));omega
 fr0:=fun x hx=>(qkd h (qnl hx)).2.1.1
 fr1:=fun x hx=>by have:=(qkd h (qnl hx)).2.1.2;omega
 to0:=fun x hx=>(qkd h (qnl hx)).2.2.1
 to1:=fun x hx=>by have:=(qkd h (qnl hx)).2.2.2;omega
theorem qqY {c:qt} (h:cornerB c=true) {kind mode:Int}:∃ f:Int,100≤f∧f≤5000∧(∀ n,qgk n c kind mode=some f)∧∀ n,qd0 n c kind mode=some f:=by
 unfold cornerB at h
 simp only [jc,qaX,decide_eq_true_eq] at h
 obtain ⟨⟨h1,h2,h3,h4⟩,_⟩:=h
 unfold qgk qd0
 cases kind==1
 ·cases mode==0
  ·exact ⟨_,h4.1,h4.2,fun _=>rfl,fun _=>rfl⟩
  ·exact ⟨_,h3.1,h3.2,fun _=>rfl,fun _=>rfl⟩
 ·cases mode==0
  ·exact ⟨_,h2.1,h2.2,fun _=>rfl,fun _=>rfl⟩
  ·exact ⟨_,h1.1,h1.2,fun _=>rfl,fun _=>rfl⟩
theorem qr7 {p f mode:Int} (p0:0≤p) (p1:p≤400000000000) (f0:0≤f) (f1:f≤5000):(∀ n,qcc n (W64 (p*f)) 1000 mode=some (divI (p*f) 1000 mode))∧∀ n,qjV n p f mode=some (divI (p*f) 1000 mode):=by
 have h0:=jK p0 f0
 have h1:p*f≤400000000000*5000:=jR p1 f1 f0 (by omega)
 have e:W64 (p*f)=p*f:=qas (by omega) (by omega)
 have hd:=fun n=>qjX (n:=n) (a:=p*f) (b:=1000) (mode:=mode) (by omega) (by omega) (by omega)
 refine ⟨fun n=>by rw [e];exact hd n,fun n=>?_⟩
 unfold qjV
 rw [e,qrq (m:=0),hd 0]
 rfl
theorem quX {l h H:Int} (h0:0≤l) (h1:l<h) (h2:h≤H) (hH:H≤3000000000):W64 (W64 (W64 (l+h)+1) |>.tdiv 2)=(l+h+1) / 2∧W64 ((l+h+1) / 2*((l+h+1) / 2))=(l+h+1) / 2*((l+h+1) / 2)∧W64 ((l+h+1) / 2-1)=(l+h+1) / 2-1:=by
 have hm:0≤(l+h+1) / 2∧(l+h+1) / 2≤3000000000:=by omega
 have hq:(l+h+1) / 2*((l+h+1) / 2)≤3000000000*3000000000:=jR hm.2 hm.2 hm.1 (by omega)
 have hq0:=jK hm.1 hm.1
 rw [wO (l+h),wO (l+h+1),jJ (by omega),wO ((l+h+1) / 2),wO ((l+h+1) / 2-1)]
 exact ⟨rfl,qas (by omega) (by omega),rfl⟩
theorem qvw {y mode:Int} (h0:0≤y) (h1:y≤4000000000000000000):∃ v,IsRoot y v∧v≤2000000000∧Ev (fun n=>qhF n y mode) (if mode=1∧v*v<y then v+1 else v):=by
 obtain ⟨v,r1,r2,r3⟩:=qq1 (Lf:=fun n l h=>qdu y n l h) (fin:=fun l=>(l,l)) (x:=y) (H:=2000000000) h0 (by omega) (by omega)
  (fun n l _ _=>by simp only [qdu,show decide (l<l)=false from decide_eq_false (Int.lt_irrefl l),cond_false])
  (fun n l h hl hlt hh=>by
   obtain ⟨e1,e2,e3⟩:=quX hl hlt hh (by omega)
   simp only [qdu,decide_eq_true hlt,cond_true,e1,e2,e3])
 refine ⟨v,r1,r2,?_⟩
 unfold qhF
 refine Ev.bind r3 ?_
 have hv:=r1.pos
 have hq:v*v≤2000000000*2000000000:=jR r2 r2 hv (by omega)
 have hq0:=jK hv hv
 simp only [wO (v*v),wO (v+1)]
 by_cases hm:mode=1
 ·refine Ev.tt (by simpa using hm) ?_
  by_cases hl:v*v<y
  ·rw [if_pos ⟨hm,hl⟩];exact Ev.tt (decide_eq_true hl) .done
  ·rw [if_neg fun h=>hl h.2];exact Ev.ff (decide_eq_false hl) .done
 ·rw [if_neg fun h=>hm h.1]
  exact Ev.ff (by simpa using hm) .done
theorem quN {y:Int} (h0:0≤y) (h1:y≤4000000000000000000):∃ v,IsRoot y v∧v≤3000000000∧Ev (fun n=>qmJ n y) v:=by
 obtain ⟨v,r1,r2,r3⟩:=qq1 (Lf:=fun n l h=>qfh y n l h) (fin:=fun l=>(l,l)) (x:=y) (H:=3000000000) h0 (by omega) (by omega)
  (fun n l _ _=>by simp only [qfh,show decide (l<l)=false from decide_eq_false (Int.lt_irrefl l),cond_false])
  (fun n l h hl hlt hh=>by
   obtain ⟨e1,e2,e3⟩:=quX hl hlt hh (by omega)
   simp only [qfh,decide_eq_true hlt,cond_true,e1,e2,e3])
 refine ⟨v,r1,r2,?_⟩
 unfold qmJ
 exact Ev.bind r3 .done
theorem qtX {sl d mode:Int} (s0:0≤sl) (s1:sl≤1000000) (d0:0≤d) (d1:d≤344000000) (hm:mode=0∨mode=1):∃ r:Int,0≤r ∧
  Ev (fun n=>(qhF n (W64 (W64 (W64 (1000000*sl)*sl)+W64 (W64 (4*d)*d))) mode).bind fun r2=>(qcc n r2 1000 mode).bind fun r3=>some r3) r∧Ev (fun n=>qiI n sl d mode) r:=by
 have q1:=jK s0 s0
 have q2:sl*sl≤1000000*1000000:=jR s1 s1 s0 (by omega)
 have q3:=jK d0 d0
 have q4:d*d≤344000000*344000000:=jR d1 d1 d0 (by omega)
 have e1:W64 (W64 (W64 (1000000*sl)*sl)+W64 (W64 (4*d)*d))=4*(250000*(sl*sl)+d*d):=by
  rw [wO (1000000*sl),wO (4*d),jP 1000000,jP 4,wO (1000000*(sl*sl)),wO (4*(d*d)),qas (by omega) (by omega)]
  omega
 have e2:W64 (W64 (W64 (W64 (500*sl)*500)*sl)+W64 (d*d))=250000*(sl*sl)+d*d:=by
  rw [wO (500*sl),wO (500*sl*500),show 500*sl*500*sl=250000*(sl*sl) by rw [←jP];congr 1;omega,wO (250000*(sl*sl)),wO (d*d),qas (by omega) (by omega)]
 obtain ⟨v,v1,v2,v3⟩:=qvw (mode:=mode) (y:=4*(250000*(sl*sl)+d*d)) (by omega) (by omega)
 obtain ⟨w,w1,w2,w3⟩:=quN (y:=250000*(sl*sl)+d*d) (by omega) (by omega)
 have hr:=qte w1 v1 hm
 have hv:=v1.pos
 have hw:=w1.pos
 have hv1:0≤(if mode=1∧v*v<4*(250000*(sl*sl)+d*d) then v+1 else v)∧(if mode=1∧v*v<4*(250000*(sl*sl)+d*d) then v+1 else v)≤1000*3000000:=by split<;>omega
 refine ⟨_,(qrp (b:=1000) (mode:=mode) (M:=3000000) (by omega) hv1.1 hv1.2).1,?_,?_⟩
 ·rw [e1]
  exact Ev.bind v3 (Ev.bind ⟨0,fun n _=>qjX (by omega) (by omega) (by omega)⟩ .done)
 ·rw [hr]
  unfold qiI
  rw [e2]
  refine Ev.bind w3 ?_
  have hq:w*w≤3000000000*3000000000:=jR w2 w2 hw (by omega)
  have hq0:=jK hw hw
  have ed:(fun n=>qex n w 500 mode)=fun _=>some (divI w 500 mode):=by
   funext n
   rw [qrq (m:=0),qjX (by omega) (by omega) (by omega)]
  have hdv:=congrFun ed
  simp only [wO (w*w),jJ hw,wO (w / 500),wO (w / 500+1),hdv,ja]
  rcases hm with rfl|rfl
  ·rw [if_neg (by omega)]
   exact .done
  ·by_cases hl:w*w<250000*(sl*sl)+d*d
   ·rw [if_pos ⟨rfl,hl⟩,decide_eq_true hl];exact .done
   ·rw [if_neg fun h=>hl h.2,decide_eq_false hl];exact .done
theorem qsF {t:qv} (h:TbOk t∧∀ k,0≤at0 t.Bi k) (sl ld mode:Int):∃ r:Int,0≤r∧r≤1000000∧Ev (fun n=>qgy n t sl ld mode) r∧Ev (fun n=>qdd n t sl ld mode) r:=by
 obtain ⟨S,D,D0,S1,_,_,_,S0,hev⟩:=qwR h.1 sl ld
 obtain ⟨r0,r1⟩:=qrp (mode:=mode) D0 (S0 h.2) S1
 exact ⟨_,r0,r1,hev mode⟩
theorem qvl {b:qf} {x:qq} {j net:Nat} (jl:j<(places b.Ab).length) (hn:(gt (places b.Ab) j).net=(net:Int)) (hh:W64 (x.To.tdiv 2)=(j:Int)) (n:Nat):qek n (some (viewV b)) x=some (net:Int):=by
 unfold qek
 show (idx (places b.Ab) (W64 (x.To.tdiv 2))).bind _=_
 rw [hh,qz jl]
 exact congrArg some hn
theorem qvP {b:qf} (h:blockB b=true) {x:qq} {i j m net a:Nat} (hx:CLk b x i j m net a) (n:Nat):qfG n (some (viewV b)) x=some (gt (cellAt b (i:Int)).Ar a):=by
 obtain ⟨⟨c0,c1⟩,_,_⟩:=qgL (qat h) hx.il
 unfold qfG
 show (idx (places b.Ab) (W64 (x.To.tdiv 2))).bind (fun y2=>(idx b.Ab.Aa y2.instance_).bind fun y3=>(idx b.Av.Aq y3.Bs).bind fun y4=>(idx y4.Ar x.Bz).bind fun y5=>some y5)=_
 rw [hx.half,qz hx.jl,ja,hx.inst,qz hx.il,ja,qfc c0 c1,ja,hx.ix]
 show (idx (cellAt b (i:Int)).Ar (a:Int)).bind _=_
 rw [qz hx.al];rfl
theorem qqL {b:qf} (h:blockB b=true) {x:qq} {i j m net a:Nat} (hx:CLk b x i j m net a):Ev (fun n=>qi3 n b x) (gt (cellAt b (i:Int)).Ar a,load0 b net):=by
 have hd:=qat h
 have hs:=qaa hd
 obtain ⟨⟨c0,c1⟩,_,_⟩:=qgL hd hx.il
 have hp:idx ((places b.Ab).map toSp) (j:Int)=some (toSp (gt (places b.Ab) j)):=by
  refine qaq ?_
  rw [List.getElem?_map,jf hx.jl,qeu hx.jl];rfl
 have hll:=qlE h hx.nl
 have hlo:=(qbe h hx.nl).lo
 have h1:(toSp (gt (places b.Ab) j)).instance_=(i:Int):=hx.inst
 have h2:(toSp (gt (places b.Ab) j)).net=(net:Int):=hx.net_
 have h3:idx (gt b.Av.Aq (gt b.Ab.Aa i).Bs.toNat).Ar (a:Int)=some (gt (cellAt b (i:Int)).Ar a):=qz hx.al
 unfold qi3
 refine Ev.bind (qhn hs) ?_
 simp only [hx.half,hp,ja,h1,h2,qz hx.il,qfc c0 c1,hx.ix,h3]
 refine Ev.bind (qoK h hx.nl) ?_
 rw [show idx (loadsL b net) (0:Int)=some (load0 b net) from qz (j:=0) (by omega)]
 exact .done
theorem qq6 {b:qf} (h:blockB b=true) {x:qq} {j net k:Nat} (hx:WLk b x j net k):Ev (fun n=>qi4 n b x) (net:Int):=by
 have hs:=qaa (qat h)
 have hp:idx ((places b.Ab).map toSp) (j:Int)=some (toSp (gt (places b.Ab) j)):=by
  refine qaq ?_
  rw [List.getElem?_map,jf hx.jl,qeu hx.jl];rfl
 have h2:(toSp (gt (places b.Ab) j)).net=(net:Int):=hx.net_
 unfold qi4
 refine Ev.bind (qhn hs) ?_
 simp only [hx.half,hp,ja,h2]
 exact .done
theorem qpr {b:qf} {c:qt} (h:blockB b=true) (hc:cornerB c=true) {k:Nat} (hk:k<(linksL b).length) {sl mode:Int} (s0:0≤sl) (s1:sl≤1000000) (hm:mode=0∨mode=1) :
  (∃ D:Int,Ev (fun n=>qdJ n b c (gt (linksL b) k) sl mode) D∧Ev (fun n=>qcD n (some (viewV b)) c (k:Int) sl mode) D) ∧
  ∃ S:Int,0≤S∧S≤1000000∧Ev (fun n=>qeG n b (gt (linksL b) k) sl mode) S∧Ev (fun n=>qdc n (some (viewV b)) (k:Int) sl mode) S:=by
 have hv:idx (viewV b).links (k:Int)=some (gt (linksL b) k):=qz hk
 obtain ⟨hx,_⟩:=qkd h (qnl hk)
 generalize gt (linksL b) k=x at hx hv
 rcases hx with ⟨i,j,m,net,a,hx⟩|⟨j,net,q,hx⟩
 ·have hnet:=qvl hx.jl hx.net_ hx.half
  have harc:=qvP h hx
  have hld:idx (viewV b).loads (net:Int)=some (load0 b net):=qhO (f:=load0 b) hx.nl
  obtain ⟨f,f0,f1,sF,iF⟩:=qqY hc (kind:=x.Be) (mode:=mode)
  have dl:m<(gt (cellAt b (i:Int)).Ar a).Bp.length:=by rw [hx.d2];exact hx.ml
  have sL:m<(gt (cellAt b (i:Int)).Ar a).Bd.length:=by rw [hx.s2];exact hx.ml
  obtain ⟨r,r0,r1,rs,ri⟩:=qsF (hx.dt _ (qnl dl)) sl (load0 b net) mode
  obtain ⟨u,u0,u1,us,ui⟩:=qsF (hx.st _ (qnl sL)) sl (load0 b net) mode
  obtain ⟨c1,c2⟩:=qr7 (mode:=mode) r0 (by omega) (show 0≤f by omega) f1
  have hk1:(x.Be==1)=true:=by rw [hx.kind];rfl
  refine ⟨⟨divI (r*f) 1000 mode,?_,?_⟩,⟨u,u0,u1,?_,?_⟩⟩
  ·unfold qdJ
   refine Ev.tt hk1 (Ev.bind (qqL h hx) ?_)
   simp only [hx.mod,qz dl,ja,sF]
   exact Ev.bind rs (Ev.bind ⟨0,fun n _=>c1 n⟩ .done)
  ·unfold qcD
   simp only [ja,hv,hnet,hld,harc,hx.mod,qz dl,iF]
   exact Ev.tt hk1 (Ev.bind ri (Ev.bind ⟨0,fun n _=>c2 n⟩ .done))
  ·unfold qeG
   refine Ev.tt hk1 (Ev.bind (qqL h hx) ?_)
   simp only [hx.mod,qz sL,ja]
   exact Ev.bind us .done
  ·unfold qdc
   simp only [ja,hv,hnet,hld,harc,hx.mod,qz sL]
   refine Ev.tt hk1 (Ev.bind ui (Ev.now ?_))
   rw [if_neg (by omega)]
 ·have hnet:=qvl hx.jl hx.net_ hx.half
  have hde:idx (viewV b).delays (net:Int)=some (exactL b net):=qhO (f:=exactL b) hx.nl
  have hel:(exactL b net).length=(gt b.Ac net).Bl.length:=by unfold exactL;rw [jv]
  have hq:q<(exactL b net).length:=by rw [hel];exact hx.kl
  obtain ⟨x0,x1⟩:=qpC h hx.nl hx.kl
  obtain ⟨f,f0,f1,sF,iF⟩:=qqY hc (kind:=x.Be) (mode:=mode)
  have dd:=fun n=>qjX (n:=n) (a:=gt (exactL b net) q) (b:=1000) (mode:=mode) (by omega) (by omega) (by omega)
  obtain ⟨p0,p1⟩:=qrp (a:=gt (exactL b net) q) (b:=1000) (mode:=mode) (M:=344000) (by omega) x0 (by omega)
  obtain ⟨c1,c2⟩:=qr7 (mode:=mode) p0 (by omega) (show 0≤f by omega) f1
  have hk1:(x.Be==1)=false:=by rw [hx.kind];rfl
  have hi:idx ((exactL b net).map fun x=>divI x 1000 mode) (q:Int)=some (divI (gt (exactL b net) q) 1000 mode):=by
   rw [qz (by rw [jv];exact hq),qoy hq]
  obtain ⟨u,u0,us,ui⟩:=qtX s0 s1 x0 x1 hm
  refine ⟨⟨divI (divI (gt (exactL b net) q) 1000 mode*f) 1000 mode,?_,?_⟩,⟨if u<1000000 then u else 1000000,by split<;>omega,by split<;>omega,?_,?_⟩⟩
  ·unfold qdJ
   refine Ev.ff hk1 (Ev.bind (qq6 h hx) (Ev.bind (qn7 h hx.nl) ?_))
   simp only [hx.ix,hi,ja,sF]
   exact Ev.bind ⟨0,fun n _=>c1 n⟩ .done
  ·unfold qcD
   simp only [ja,hv,hnet,hde,hx.ix,qz hq,iF]
   refine Ev.ff hk1 (Ev.bind (b:=divI (gt (exactL b net) q) 1000 mode) ⟨0,fun n _=>(qrq (m:=0)).trans (dd 0)⟩ (Ev.bind ⟨0,fun n _=>c2 n⟩ .done))
  ·have hw:=qbe h hx.nl
   have hsn:=hw.sin q hx.kl
   have hdl:=qmz h hx.nl
   have eg:gt (exactL b net) q=gt (delaysL b net) (at0 (gt b.Ac net).Bl q).toNat:=by
    unfold exactL
    rw [qeu (by rw [jv];exact hx.kl),List.getElem_map,qmC hx.kl]
   unfold qeG qlu
   refine Ev.ff hk1 (Ev.bind (qq6 h hx) ?_)
   simp only [hx.ix,qz hx.nl,ja,qag hx.kl]
   refine Ev.bind (b:=u) (Ev.bind (qnN h hx.nl) ?_) .done
   rw [qfc hsn.1 (show at0 (gt b.Ac net).Bl q<((delaysL b net).length:Int) by omega)]
   simp only [ja]
   rw [←eg]
   exact us
  ·unfold qdc
   simp only [ja,hv,hnet,hde,hx.ix,qz hq]
   refine Ev.ff hk1 (Ev.bind ui (Ev.now ?_))
   congr 1
   split<;>split<;>omega
end Go.Fw


namespace Go.Fw
open Go
set_option maxRecDepth 100000
def slR (s:qh):Prop:=(0≤s.Ap∧s.Ap≤1000000)∧(0≤s.Bf∧s.Bf≤1000000)
def SpansOk (b:qf) (c:qt) (f:Nat→qh→qh × qh):Prop :=
 ∀ k s,k<(linksL b).length→slR s→slR (f k s).2∧Ev (fun n=>qg6 n b c (gt (linksL b) k) s) (f k s)∧Ev (fun n=>qfD n (some (viewV b)) c (k:Int) s) (f k s)
theorem qvx {b:qf} {c:qt} (h:blockB b=true) (hc:cornerB c=true):∃ f,SpansOk b c f:=by
 have main:∀ x:Nat × qh,∃ r:qh × qh,x.1<(linksL b).length→slR x.2→slR r.2∧Ev (fun n=>qg6 n b c (gt (linksL b) x.1) x.2) r∧Ev (fun n=>qfD n (some (viewV b)) c (x.1:Int) x.2) r:=by
  rintro ⟨k,s⟩
  by_cases hk:k<(linksL b).length∧slR s
  ·obtain ⟨hk,⟨e0,e1⟩,⟨l0,l1⟩⟩:=hk
   obtain ⟨⟨d1,p1,q1⟩,⟨u1,a1,b1,v1,w1⟩⟩:=qpr h hc hk e0 e1 (mode:=0) (.inl rfl)
   obtain ⟨⟨d2,p2,q2⟩,⟨u2,a2,b2,v2,w2⟩⟩:=qpr h hc hk e0 e1 (mode:=1) (.inr rfl)
   obtain ⟨⟨d3,p3,q3⟩,⟨u3,a3,b3,v3,w3⟩⟩:=qpr h hc hk l0 l1 (mode:=0) (.inl rfl)
   obtain ⟨⟨d4,p4,q4⟩,⟨u4,a4,b4,v4,w4⟩⟩:=qpr h hc hk l0 l1 (mode:=1) (.inr rfl)
   refine ⟨(⟨if d3<d1 then d3 else d1,if d4 > d2 then d4 else d2⟩,⟨if u3<u1 then u3 else u1,if u4 > u2 then u4 else u2⟩),fun _ _=>⟨⟨?_,?_⟩,?_,?_⟩⟩
   ·show 0≤(if u3<u1 then u3 else u1)∧(if u3<u1 then u3 else u1)≤1000000
    split<;>omega
   ·show 0≤(if u4 > u2 then u4 else u2)∧(if u4 > u2 then u4 else u2)≤1000000
    split<;>omega
   ·unfold qg6
    exact Ev.bind p1 (Ev.bind p2 (Ev.bind v1 (Ev.bind v2 (Ev.bind p3 (Ev.bind p4 (Ev.bind v3 (Ev.bind v4 .done)))))))
   ·unfold qfD
    refine Ev.bind q1 (Ev.bind q3 (Ev.bind q2 (Ev.bind q4 ?_)))
    have hv:idx (viewV b).links (k:Int)=some (gt (linksL b) k):=qz hk
    simp only [ja,hv]
    refine Ev.bind (b:=false) (Ev.now rfl) (Ev.bind (b:=(if d3<d1 then d3 else d1,if d4 > d2 then d4 else d2)) (Ev.now rfl) ?_)
    exact Ev.bind w1 (Ev.bind w3 (Ev.bind w2 (Ev.bind w4 .done)))
  ·exact ⟨(s,s),fun h1 h2=>absurd ⟨h1,h2⟩ hk⟩
 obtain ⟨f,hf⟩:=Classical.axiomOfChoice main
 exact ⟨fun k s=>f (k,s),fun k s h1 h2=>hf (k,s) h1 h2⟩
def zSp:qh:=⟨0,0⟩
def zSrc:qe:=⟨0,zSp,zSp⟩
def hullS (s t:qh):qh:=⟨if t.Ap<s.Ap then t.Ap else s.Ap,if t.Bf > s.Bf then t.Bf else s.Bf⟩
theorem qq7 {s t:qh}:(⟨if s.Ap<t.Ap then s.Ap else t.Ap,if s.Bf > t.Bf then s.Bf else t.Bf⟩:qh)=hullS s t:=by
 unfold hullS
 congr 1
 ·split<;>split<;>omega
 ·split<;>split<;>omega
def plusS (s t:qh):qh:=⟨W64 (s.Ap+t.Ap),W64 (s.Bf+t.Bf)⟩
def joinS (node:Int) (s:Bool × qe) (ar sl:qh):Bool × qe:=bif s.1 then (true,⟨node,hullS s.2.Ah ar,hullS s.2.Bd sl⟩) else (true,⟨node,ar,sl⟩)
def frN (ls:List qq) (k:Nat):Nat:=(gt ls k).Bk.toNat
def stepS (f:Nat→qh→qh × qh) (ls:List qq) (t:qx) (node:Int) (s:Bool × qe) (k:Nat):Bool × qe :=
 bif gt t.Bh (frN ls k) then joinS node s (plusS (gt t.Ah (frN ls k)) (f k (gt t.Bd (frN ls k))).1) (f k (gt t.Bd (frN ls k))).2 else s
def toQ (ls:List qq) (lv:List Bool) (node:Int) (k:Nat):Bool:=lvL lv k&&(toL ls k==node)
def srcO (xs:List qe) (node:Int):Option qe:=xs.find? fun s=>s.Bo==node
def srcV (o:Option qe):Bool × qe:=match o with|some y=>(true,y)|none=>(false,zSrc)
def ndS (f:Nat→qh→qh × qh) (ls:List qq) (lv:List Bool) (t:qx) (node:Int) (s0:Bool × qe):Nat→Bool × qe
 | 0=>s0
 | k+1=>bif toQ ls lv node k then stepS f ls t node (ndS f ls lv t node s0 k) k else ndS f ls lv t node s0 k
theorem qvr {f:Nat→qh→qh × qh} {ls:List qq} {lv:List Bool} {t:qx} {node:Int} {s0:Bool × qe} {j:Nat}:(selN (toQ ls lv node) j).foldl (stepS f ls t node) s0=ndS f ls lv t node s0 j:=by
 induction j with
 | zero=>rfl
 | succ j ih =>
  rw [qlg,List.foldl_append,ih]
  show _=bif toQ ls lv node j then stepS f ls t node (ndS f ls lv t node s0 j) j else ndS f ls lv t node s0 j
  cases toQ ls lv node j<;>rfl
structure TmOk (t:qx) (M:Nat):Prop where
 r:t.Bh.length=M
 a:t.Ah.length=M
 s:t.Bd.length=M
 sl:∀ k,k<M→slR (gt t.Bd k)
structure SrcOk (xs:List qe):Prop where
 len:xs.length≤1048576
 inc:∀ j i,i<j→j<xs.length→(gt xs i).Bo<(gt xs j).Bo
 sl:∀ x,x ∈ xs→slR x.Bd
theorem qr4 {xs:List qe} {node:Int} (hl:xs.length≤1048576):Ev (fun n=>qg1 n xs node) ((srcV (srcO xs node)).2,(srcV (srcO xs node)).1):=by
 have h1:Ev (fun n=>qay n xs node) (ixL (fun s=>s.Bo==node) xs) :=
  qfw (fin:=(xs.length:Int)) (Lf:=qL xs node) (xs:=xs) (pf:=fun n x=>qjf n x node) (fun _ _=>.done)
   (fun n=>by simp only [qL,qk (jb _),cond_false])
   (fun n j x hx=>by
    have hj:=(List.getElem?_eq_some_iff.1 hx).1
    simp only [qL,qj hj,cond_true,qaq hx,ja,wS j])
   (fun n=>by unfold qay;congr 1;funext o;cases o<;>rfl)
 unfold qg1
 refine Ev.bind h1 ?_
 unfold ixL srcO
 cases hf:xs.findIdx? (fun s=>s.Bo==node) with
 | none =>
  have:xs.find? (fun s=>s.Bo==node)=none:=by
   rw [List.find?_eq_none]
   intro x hx
   have:=List.findIdx?_eq_none_iff.1 hf x hx
   simpa using this
  rw [this]
  exact Ev.ff rfl .done
 | some j =>
  obtain ⟨hj,hp,hn⟩:=List.findIdx?_eq_some_iff_getElem.1 hf
  have:xs.find? (fun s=>s.Bo==node)=some xs[j]:=by
   rw [List.find?_eq_some_iff_getElem]
   exact ⟨hp,j,hj,rfl,fun i hi=>by have:=hn i hi;simpa using this⟩
  rw [this]
  refine Ev.tt (show decide ((j:Int) ≥ 0)=true from decide_eq_true (by omega)) ?_
  show Ev (fun n=>(idx xs (j:Int)).bind _) _
  rw [qh7 hj]
  exact .done
theorem qmT {xs:List qe} {node:Int} {y:qe} (h:srcO xs node=some y):y.Bo=node∧y ∈ xs:=by
 have h1:=List.find?_some h
 exact ⟨by simpa using h1,List.mem_of_find?_eq_some h⟩
theorem qwq {xs:List qe} {node:Int} (h:SrcOk xs) :
  Ev (fun n=>qcG xs node n 0 0 0 0 0 false 0) ((srcV (srcO xs node)).2.Bo,(srcV (srcO xs node)).2.Ah.Ap,(srcV (srcO xs node)).2.Ah.Bf,(srcV (srcO xs node)).2.Bd.Ap,(srcV (srcO xs node)).2.Bd.Bf,(srcV (srcO xs node)).1,(xs.length:Int)):=by
 have hl:=h.len
 have:=loopF (τ:=Bool × qe) (Lf:=fun n s j=>qcG xs node n s.2.Bo s.2.Ah.Ap s.2.Ah.Bf s.2.Bd.Ap s.2.Bd.Bf s.1 j) (S:=fun j=>srcV (srcO (xs.take j) node)) (len:=xs.length)
  (fin:=((srcV (srcO xs node)).2.Bo,(srcV (srcO xs node)).2.Ah.Ap,(srcV (srcO xs node)).2.Ah.Bf,(srcV (srcO xs node)).2.Bd.Ap,(srcV (srcO xs node)).2.Bd.Bf,(srcV (srcO xs node)).1,(xs.length:Int)))
  (fun n=>by simp only [qcG,qk (jb _),cond_false,jB])
  (fun j hj X hX=>by
   simp only [qcG,qj hj,cond_true,qz hj,ja,wS j]
   have e:srcO (xs.take (j+1)) node=(srcO (xs.take j) node).or (bif (gt xs j).Bo==node then some (gt xs j) else none):=by
    unfold srcO
    rw [js hj,List.find?_append,←qeu hj]
    congr 1
   cases hq:(gt xs j).Bo==node
   ·rw [hq] at e
    have e:srcO (xs.take (j+1)) node=srcO (xs.take j) node:=by rw [e];cases srcO (xs.take j) node<;>rfl
    rw [e] at hX
    exact hX
   ·rw [hq] at e
    have hn:srcO (xs.take j) node=none:=by
     unfold srcO
     rw [List.find?_eq_none]
     intro x hx hxn
     obtain ⟨i,hi,rfl⟩:=List.mem_iff_getElem.1 hx
     rw [jT] at hi
     rw [List.getElem_take,←qeu (by omega)] at hxn
     have:=h.inc j i (by omega) hj
     simp only [beq_iff_eq] at hq hxn
     omega
    have e:srcO (xs.take (j+1)) node=some (gt xs j):=by rw [e,hn];rfl
    rw [e] at hX
    exact hX)
 exact this
theorem qob {ls:List qq} {M:Nat} (h:LkOk ls M) {k:Nat} (hk:k<ls.length):(gt ls k).Bk=(frN ls k:Int)∧frN ls k<M:=by
 have h0:=h.fr0 k hk
 have h1:=h.fr1 k hk
 unfold frN
 omega
section
variable {b:qf} {c:qt} {f:Nat→qh→qh × qh} {lv:List Bool} {t:qx} {xs:List qe} {node:Int}
theorem qv2 (h:blockB b=true) (hf:SpansOk b c f) (hl:lv.length=(linksL b).length) (ht:TmOk t (2*(places b.Ab).length)) (hx:SrcOk xs) :
  Ev (fun n=>qhS n b c (linksL b) lv xs t node) (ndS f (linksL b) lv t node (srcV (srcO xs node)) (linksL b).length):=by
 have hk:=qkQ h
 have hkl:=hk.len
 have hL:=loopF (τ:=Bool × qe) (Lf:=fun n s j=>qcJ b c (linksL b) lv t node n s.2.Bo s.2.Ah.Ap s.2.Ah.Bf s.2.Bd.Ap s.2.Bd.Bf s.1 j) (S:=fun j=>ndS f (linksL b) lv t node (srcV (srcO xs node)) j) (len:=(linksL b).length)
  (fin:=(fun s:Bool × qe=>(s.2.Bo,s.2.Ah.Ap,s.2.Ah.Bf,s.2.Bd.Ap,s.2.Bd.Bf,s.1,((linksL b).length:Int))) (ndS f (linksL b) lv t node (srcV (srcO xs node)) (linksL b).length))
  (fun n=>by simp only [qcJ,qk (jb _),cond_false])
  (fun j hj X hX=>by
   obtain ⟨e1,e2⟩:=qob hk hj
   have eN:ndS f (linksL b) lv t node (srcV (srcO xs node)) (j+1)=bif toQ (linksL b) lv node j then stepS f (linksL b) t node (ndS f (linksL b) lv t node (srcV (srcO xs node)) j) j else ndS f (linksL b) lv t node (srcV (srcO xs node)) j:=rfl
   rw [eN] at hX
   generalize ndS f (linksL b) lv t node (srcV (srcO xs node)) j=s at hX ⊢
   simp only [qcJ,qj hj,cond_true,qz hj,qz (show j<lv.length by omega),ja,e1,qz (show frN (linksL b) j<t.Bh.length by rw [ht.r];exact e2),qz (show frN (linksL b) j<t.Ah.length by rw [ht.a];exact e2),qz (show frN (linksL b) j<t.Bd.length by rw [ht.s];exact e2),wS j]
   unfold toQ lvL toL at hX
   cases h1:gt lv j
   ·rw [h1] at hX;exact hX
   rw [h1,jw] at hX
   cases h2:(gt (linksL b) j).To==node
   ·rw [h2] at hX
    simp only [bne,h2]
    exact hX
   rw [h2] at hX
   simp only [bne,h2]
   unfold stepS at hX
   cases h3:gt t.Bh (frN (linksL b) j)
   ·rw [h3] at hX;exact hX
   rw [h3] at hX
   simp only [cond_true] at hX
   obtain ⟨_,s1,_⟩:=hf j _ hj (ht.sl _ e2)
   refine Ev.bind (b:=false) (Ev.now rfl) (Ev.ff rfl (Ev.bind s1 ?_))
   generalize f j (gt t.Bd (frN (linksL b) j))=q at hX ⊢
   unfold joinS at hX
   cases h4:s.1
   ·rw [h4] at hX;exact hX
   ·rw [h4] at hX
    simp only [qjk,ja,cond_true]
    have a1:=qq7 (s:=s.2.Ah) (t:=plusS (gt t.Ah (frN (linksL b) j)) q.1)
    have a2:=qq7 (s:=s.2.Bd) (t:=q.2)
    simp only [cond_true] at hX
    rw [←a1,←a2] at hX
    exact hX)
 unfold qhS
 exact Ev.bind (qwq hx) (Ev.bind hL .done)
theorem qxb {ls:List qq} {M:Nat} {ps:List Tplace} {lo:List Int} {de:List (List Int)} {ex:List Int} (h:LkOk ls M) (hl:lv.length=ls.length):Ev (fun n=>qgX n (grV ls lv ps b lo de ex) node) (ints (selN (toQ ls lv node) ls.length)):=by
 have hll:=h.len
 have hL:Ev (fun n=>qF node ⟨some ⟨b,ps,ls,lo,de,ex⟩,lv⟩ ⟨b,ps,ls,lo,de,ex⟩ n ([]:List Int) 0) (ints (selN (toQ ls lv node) ls.length),(ls.length:Int)):=by
  refine qos (q:=toQ ls lv node) (Lf:=qF node ⟨some ⟨b,ps,ls,lo,de,ex⟩,lv⟩ ⟨b,ps,ls,lo,de,ex⟩) (len:=ls.length) (by omega) (Ev.succ ?_) (fun j hj t ht X h1 h2=>?_)
  ·simp only [qF,qk (jb _),cond_false];exact .done
  ·simp only [qF,qj hj,cond_true,qz hj,qz (show j<lv.length by omega),ja,qjc,ht,wS j]
   unfold toQ lvL toL at h1 h2
   cases hq:gt lv j
   ·simp only [cond_false];exact h2 (by rw [hq];rfl)
   ·simp only [cond_true]
    cases hw:(gt ls j).To==node
    ·simp only [cond_false];exact h2 (by rw [hq,hw];rfl)
    ·simp only [cond_true];exact h1 (by rw [hq,hw];rfl)
 unfold qgX qcj grV
 simp only [ja]
 exact Ev.bind (Ev.bind hL .done) .done
def fixS (node:Int) (s:Bool × qe):Bool × qe:=bif s.1 then s else (false,⟨node,zSp,zSp⟩)
theorem qvF (h:blockB b=true) (hf:SpansOk b c f) (hl:lv.length=(linksL b).length) (ht:TmOk t (2*(places b.Ab).length)) (hx:xs.length≤1048576) :
  Ev (fun n=>qc4 n (some ⟨some (viewV b),lv⟩) c xs t node) (ndS f (linksL b) lv t node (srcV (srcO xs node)) (linksL b).length):=by
 have hk:=qkQ h
 have hkl:=hk.len
 have hsel:=qmn (q:=toQ (linksL b) lv node) (j:=(linksL b).length)
 have hnd:∀ j,(ndS f (linksL b) lv t node (srcV (srcO xs node)) j).1=true→(ndS f (linksL b) lv t node (srcV (srcO xs node)) j).2.Bo=node:=by
  intro j
  induction j with
  | zero =>
   show (srcV (srcO xs node)).1=true→(srcV (srcO xs node)).2.Bo=node
   cases hs:srcO xs node with
   | none=>intro e;cases e
   | some y=>exact fun _=>(qmT hs).1
  | succ j ih =>
   unfold ndS
   cases toQ (linksL b) lv node j
   ·exact ih
   ·simp only [cond_true]
    unfold stepS
    cases gt t.Bh (frN (linksL b) j)
    ·exact ih
    ·simp only [cond_true]
     unfold joinS
     cases (ndS f (linksL b) lv t node (srcV (srcO xs node)) j).1<;>exact fun _=>rfl
 have hz:∀ j,(ndS f (linksL b) lv t node (srcV (srcO xs node)) j).1=false→(ndS f (linksL b) lv t node (srcV (srcO xs node)) j).2=zSrc:=by
  intro j
  induction j with
  | zero =>
   show (srcV (srcO xs node)).1=false→(srcV (srcO xs node)).2=zSrc
   cases srcO xs node with
   | none=>exact fun _=>rfl
   | some y=>intro e;cases e
  | succ j ih =>
   unfold ndS
   cases toQ (linksL b) lv node j
   ·exact ih
   ·simp only [cond_true]
    unfold stepS
    cases gt t.Bh (frN (linksL b) j)
    ·exact ih
    ·simp only [cond_true]
     unfold joinS
     cases (ndS f (linksL b) lv t node (srcV (srcO xs node)) j).1<;>(intro e;cases e)
 have fl:∀ (l:List Nat) (s:Bool × qe),(∀ k,k ∈ l→toQ (linksL b) lv node k=true)→l.foldl (fun s k=>fixS node (stepS f (linksL b) t node s k)) (fixS node s)=fixS node (l.foldl (stepS f (linksL b) t node) s):=by
  intro l
  induction l with
  | nil=>intro s _;rfl
  | cons k l ih =>
   intro s hq
   have e:fixS node (stepS f (linksL b) t node (fixS node s) k)=fixS node (stepS f (linksL b) t node s k):=by
    unfold stepS
    obtain ⟨s1,s2⟩:=s
    cases gt t.Bh (frN (linksL b) k)<;>cases s1<;>rfl
   rw [List.foldl_cons,List.foldl_cons,e]
   exact ih _ fun k' hk'=>hq k' (jn _ hk')
 have hL:=(qqT (τ:=Bool × qe) (xs:=selN (toQ (linksL b) lv node) (linksL b).length) (Lf:=fun n s j=>qa1 (some ⟨some (viewV b),lv⟩) c t (ints (selN (toQ (linksL b) lv node) (linksL b).length)) n s.1 s.2.Bo s.2.Ah.Ap s.2.Ah.Bf s.2.Bd.Ap s.2.Bd.Bf j)
  (step:=fun s k=>fixS node (stepS f (linksL b) t node s k)) (fin:=fun s=>(s.1,s.2.Bo,s.2.Ah.Ap,s.2.Ah.Bf,s.2.Bd.Ap,s.2.Bd.Bf,((ints (selN (toQ (linksL b) lv node) (linksL b).length)).length:Int))) (fixS node (srcV (srcO xs node))) (fun _ s=>s=fixS node s∧s.2.Bo=node) (by
   constructor
   ·unfold fixS
    cases hs:(srcV (srcO xs node)).1
    ·rfl
    ·simp only [hs,cond_true]
   ·unfold fixS
    cases hs:srcO xs node with
    | none=>rfl
    | some y=>exact (qmT hs).1)
  (fun j s hj hs=>by
   obtain ⟨h1,h2⟩:=hs
   have key:(stepS f (linksL b) t node s (selN (toQ (linksL b) lv node) (linksL b).length)[j]).2.Bo=node:=by
    unfold stepS
    cases gt t.Bh (frN (linksL b) (selN (toQ (linksL b) lv node) (linksL b).length)[j])
    ·exact h2
    ·unfold joinS
     cases s.1<;>rfl
   constructor
   ·unfold fixS
    cases hs:(stepS f (linksL b) t node s (selN (toQ (linksL b) lv node) (linksL b).length)[j]).1
    ·rfl
    ·simp only [hs,cond_true]
   ·unfold fixS
    cases hs:(stepS f (linksL b) t node s (selN (toQ (linksL b) lv node) (linksL b).length)[j]).1
    ·rfl
    ·exact key)
  (fun n s=>by simp only [qa1,qbQ,qk (jb _),cond_false])
  (fun j s hj hs X hX=>by
   obtain ⟨hfx,hsn⟩:=hs
   have hi:=qmL hj
   have hm:(selN (toQ (linksL b) lv node) (linksL b).length)[j]<(linksL b).length:=(qme.1 (jo hj)).1
   generalize (selN (toQ (linksL b) lv node) (linksL b).length)[j]=k at hi hm hX
   obtain ⟨e1,e2⟩:=qob hk hm
   have hv:idx (viewV b).links (k:Int)=some (gt (linksL b) k):=qz hm
   simp only [qa1,qbQ,qj hj,cond_true,hi,hv,ja,e1,qz (show frN (linksL b) k<t.Bh.length by rw [ht.r];exact e2),qz (show frN (linksL b) k<t.Ah.length by rw [ht.a];exact e2),qz (show frN (linksL b) k<t.Bd.length by rw [ht.s];exact e2),wS j]
   unfold stepS at hX
   cases h3:gt t.Bh (frN (linksL b) k)
   ·rw [h3] at hX
    simp only [cond_false] at hX
    rw [←hfx] at hX
    exact hX
   rw [h3] at hX
   simp only [cond_true] at hX ⊢
   obtain ⟨_,_,s1⟩:=hf k _ hm (ht.sl _ e2)
   refine Ev.bind s1 ?_
   generalize f k (gt t.Bd (frN (linksL b) k))=q at hX ⊢
   simp only [qj4,ja]
   unfold joinS at hX
   unfold qfb
   cases h4:s.1
   ·rw [h4] at hX
    simp only [Bool.not_false,cond_true,ja]
    unfold fixS at hX
    simp only [cond_false,cond_true] at hX
    rw [hsn]
    exact hX
   ·rw [h4] at hX
    simp only [jX,cond_false,qhU,ja]
    unfold fixS at hX
    simp only [cond_true] at hX
    rw [hsn]
    exact hX)).1
 rw [fl _ _ (fun k hk'=>(qme.1 hk').2),qvr] at hL
 unfold qc4
 refine Ev.bind (qr4 hx) ?_
 have e0:(bif (srcV (srcO xs node)).1 then (qfb 0 ⟨node,⟨0,0⟩,⟨0,0⟩⟩ false ⟨(srcV (srcO xs node)).2.Ah.Ap,(srcV (srcO xs node)).2.Ah.Bf⟩ ⟨(srcV (srcO xs node)).2.Bd.Ap,(srcV (srcO xs node)).2.Bd.Bf⟩).bind (fun o=>match o with|(x9,x10)=>some (x10,x9.Bo,x9.Ah.Ap,x9.Ah.Bf,x9.Bd.Ap,x9.Bd.Bf)) else some (false,node,(0:Int),(0:Int),(0:Int),(0:Int))) =
   some ((fixS node (srcV (srcO xs node))).1,(fixS node (srcV (srcO xs node))).2.Bo,(fixS node (srcV (srcO xs node))).2.Ah.Ap,(fixS node (srcV (srcO xs node))).2.Ah.Bf,(fixS node (srcV (srcO xs node))).2.Bd.Ap,(fixS node (srcV (srcO xs node))).2.Bd.Bf):=by
  cases hs:srcO xs node with
  | none=>rfl
  | some y =>
   have:=(qmT hs).1
   unfold fixS srcV
   simp only [cond_true,this]
   rfl
 refine Ev.bindN e0 (Ev.bind (qxb (ps:=places b.Ab) (lo:=pre (load0 b) b.Ac.length) (de:=pre (exactL b) b.Ac.length) (ex:=[]) hk hl) (Ev.bind hL ?_))
 have z:=hz (linksL b).length
 generalize ndS f (linksL b) lv t node (srcV (srcO xs node)) (linksL b).length=s at z ⊢
 unfold fixS
 obtain ⟨s1,s2⟩:=s
 cases s1
 ·have:=z rfl
  simp only at this
  subst this
  exact .done
 ·exact .done
end
end Go.Fw


namespace Go.Fw
open Go
set_option maxRecDepth 100000
theorem qiV {b:qf} (h:blockB b=true):Ev (fun n=>qck n b) ((2*(places b.Ab).length:Nat):Int):=by
 have hs:=qaa (qat h)
 have hl:=qbl hs
 unfold qck
 refine Ev.bind (b:=(places b.Ab).map toSp) (qhn hs) (Ev.now ?_)
 rw [jv,qas (by omega) (by omega)]
 rfl
theorem qny {v:Tview} (hl:v.places.length≤78) (n:Nat):qbK n (some v)=some ((2*v.places.length:Nat):Int):=by
 unfold qbK qdA
 simp only [ja]
 rw [qas (by omega) (by omega)]
 rfl
def stepN (xs:List qe) (j:Nat):Bool:=decide (j=0) || decide ((gt xs (j-1)).Bo<(gt xs j).Bo)
def srcB (xs:List qe) (M:Nat):Bool:=allN (fun j=>inI (gt xs j).Bo 0 ((M:Int)-1)&&(stepN xs j&&(spanB (gt xs j).Ah&&slewB (gt xs j).Bd))) xs.length
theorem qqe {xs:List qe} {j:Nat} (h:j ≠ 0):stepN xs j=decide ((gt xs (j-1)).Bo<(gt xs j).Bo):=by unfold stepN;rw [decide_eq_false h,Bool.false_or]
theorem qqo {b:qf} {xs:List qe} (h:blockB b=true) (hl:xs.length≤1048576):Ev (fun n=>qfy n b xs) (srcB xs (2*(places b.Ab).length)):=by
 have hpl:=qbl (qaa (qat h))
 have e:=qiV h
 obtain ⟨M,eM⟩:∃ M,M=2*(places b.Ab).length:=⟨_,rfl⟩
 rw [←eM] at e ⊢
 have hM:M≤156:=by omega
 have hL:Ev (fun n=>qbG xs (M:Int) n 0) (bif srcB xs M then .nxt (xs.length:Int) else .ret false):=by
  refine qd1 (Lf:=qbG xs (M:Int)) (len:=xs.length) (Ev.succ (by simp only [qbG,qk (jb _),cond_false];exact .done)) (fun j hj X hX=>Ev.succ ?_)
  simp only [qbG,qj hj,cond_true,qz hj,ja,qcw,qpZ,qr0,wS j,wO ((M:Int)-1)]
  cases inI (gt xs j).Bo 0 ((M:Int)-1)
  ·exact .done
  refine Ev.ff rfl ?_
  by_cases h0:j=0
  ·subst h0
   refine Ev.ff rfl ?_
   show Ev _ (bif (stepN xs 0&&_) then X else _)
   rw [show stepN xs 0=true from rfl]
   show Ev (fun n=>bif !spanB (gt xs 0).Ah then _ else bif !slewB (gt xs 0).Bd then _ else _) _
   cases spanB (gt xs 0).Ah
   ·exact .done
   ·cases slewB (gt xs 0).Bd
    ·exact .done
    ·exact hX
  ·refine Ev.tt (decide_eq_true (by omega)) ?_
   rw [show (j:Int)-1=((j-1:Nat):Int) by omega,qas (by omega) (by omega),qz (show j-1<xs.length by omega),qqe h0]
   simp only [ja]
   by_cases hlt:(gt xs (j-1)).Bo<(gt xs j).Bo
   ·rw [decide_eq_true hlt]
    refine Ev.ff (decide_eq_false (by omega)) ?_
    show Ev (fun n=>bif !spanB (gt xs j).Ah then _ else bif !slewB (gt xs j).Bd then _ else _) _
    cases spanB (gt xs j).Ah
    ·exact .done
    ·cases slewB (gt xs j).Bd
     ·exact .done
     ·exact hX
   ·rw [decide_eq_false hlt]
    exact Ev.tt (decide_eq_true (by omega)) .done
 unfold qfy
 refine Ev.bind e (Ev.bind hL ?_)
 cases srcB xs M<;>exact .done
theorem qqx {v:Tview} {xs:List qe} (hp:v.places.length≤78) (hl:xs.length≤1048576):Ev (fun n=>qdb n (some v) xs) (srcB xs (2*v.places.length)):=by
 have e:=qny hp
 obtain ⟨M,eM⟩:∃ M,M=2*v.places.length:=⟨_,rfl⟩
 rw [←eM] at e ⊢
 have hM:M≤156:=by omega
 have hL:Ev (fun n=>qaH (some v) xs n 0) (bif srcB xs M then .nxt (xs.length:Int) else .ret false):=by
  refine qd1 (Lf:=qaH (some v) xs) (len:=xs.length) (Ev.succ (by simp only [qaH,qk (jb _),cond_false];exact .done)) (fun j hj X hX=>Ev.succ ?_)
  simp only [qaH,qj hj,cond_true,qz hj,ja,qit,e,qdf,qot,qsb,wS j,wO ((M:Int)-1)]
  cases inI (gt xs j).Bo 0 ((M:Int)-1)
  ·exact .done
  refine Ev.ff rfl ?_
  show Ev (fun n=>bif !spanB (gt xs j).Ah then _ else bif !slewB (gt xs j).Bd then _ else _) _
  rw [jw,Bool.and_comm]
  cases spanB (gt xs j).Ah
  ·exact .done
  ·cases slewB (gt xs j).Bd
   ·exact .done
   ·refine Ev.ff rfl (Ev.ff rfl ?_)
    rw [jw,jw]
    by_cases h0:j=0
    ·subst h0
     exact Ev.ff rfl hX
    ·refine Ev.tt (decide_eq_true (by omega)) ?_
     rw [show (j:Int)-1=((j-1:Nat):Int) by omega,qas (by omega) (by omega),qz (show j-1<xs.length by omega),qqe h0]
     simp only [ja]
     by_cases hlt:(gt xs (j-1)).Bo<(gt xs j).Bo
     ·rw [decide_eq_true hlt]
      exact Ev.ff (decide_eq_false (by omega)) hX
     ·rw [decide_eq_false hlt]
      exact Ev.tt (decide_eq_true (by omega)) .done
 unfold qdb
 refine Ev.bind hL ?_
 cases srcB xs M<;>exact .done
theorem qwv {xs:List qe} {M:Nat} (hl:xs.length≤1048576) (h:srcB xs M=true):SrcOk xs:=by
 unfold srcB at h
 rw [qak] at h
 refine ⟨hl,fun j=>?_,fun x hx=>?_⟩
 ·induction j with
  | zero=>intro i hi _;omega
  | succ j ih =>
   intro i hi hj
   have hs:=h (j+1) hj
   rw [qqe (by omega)] at hs
   simp only [jc,decide_eq_true_eq,Nat.add_sub_cancel] at hs
   have hs':=hs.2.1
   by_cases hij:i=j
   ·rw [hij];exact hs'
   ·have:=ih i (by omega) (by omega);omega
 ·obtain ⟨i,hi,rfl⟩:=List.mem_iff_getElem.1 hx
  have hs:=h i hi
  rw [←qeu hi]
  simp only [jc] at hs
  have:=hs.2.2.2
  unfold slewB at this
  simp only [jc,decide_eq_true_eq] at this
  exact ⟨⟨this.1,by omega⟩,by omega,this.2.2⟩
section
variable {L:Nat} {fr to:Nat→Int} {lv:Nat→Bool} {n:Nat}
def OrdOk (L:Nat) (fr to:Nat→Int) (lv:Nat→Bool) (n:Nat) (R:List Nat):Prop:=∀ l1 k l2,R=l1++k::l2→k<n∧k ∉ l1∧inN L fr to lv l1 k=0
theorem OrdOk.snoc {R:List Nat} {k:Nat} (h:OrdOk L fr to lv n R) (hk:nxtN L fr to lv n R=some k):OrdOk L fr to lv n (R++[k]):=by
 intro l1 k' l2 e
 rcases List.eq_nil_or_concat l2 with rfl|⟨l2',z,rfl⟩
 ·obtain ⟨rfl,e2⟩:=List.append_inj' e rfl
  obtain rfl:k=k':=by simpa using e2
  exact qoe hk
 ·have e':R++[k]=(l1++k'::l2')++[z]:=by rw [e];simp
  obtain ⟨e1,_⟩:=List.append_inj' e' rfl
  exact h l1 k' l2' e1
theorem qwc:∀ m R R',OrdOk L fr to lv n R→ordN L fr to lv n m R=some R'→OrdOk L fr to lv n R':=by
 intro m
 induction m with
 | zero=>intro R R' h e;obtain rfl:=Option.some.inj e;exact h
 | succ m ih =>
  intro R R' h e
  unfold ordN at e
  cases hn:nxtN L fr to lv n R with
  | none=>rw [hn] at e;cases e
  | some k =>
   rw [hn] at e
   exact ih _ _ (h.snoc hn) e
theorem OrdOk.at {R:List Nat} (h:OrdOk L fr to lv n R) {j:Nat} (hj:j<R.length):R[j]<n∧R[j] ∉ R.take j∧inN L fr to lv (R.take j) R[j]=0:=by
 refine h (R.take j) R[j] (R.drop (j+1)) ?_
 rw [←jL hj,List.take_append_drop]
end
theorem qmQ {α:Type} [Inhabited α] {xs:List α} {k:Nat} {v:α} (hk:k<xs.length) (h:gt xs k=v):setS xs (k:Int) v=xs:=by
 unfold setS
 rw [jp,←h,qeu hk]
 exact List.set_getElem_self hk
theorem qlF {α:Type} [Inhabited α] {xs:List α} {a k:Nat} {y:α} (ha:a<xs.length):gt (setS xs (a:Int) y) k=if k=a then y else gt xs k:=by
 unfold setS
 rw [jp]
 by_cases h:k=a
 ·subst h;rw [if_pos rfl,qoM ha]
 ·rw [if_neg h,qqM h]
def setT (t:qx) (k:Nat) (s:Bool × qe):qx:=⟨setS t.Bh (k:Int) s.1,setS t.Ah (k:Int) s.2.Ah,setS t.Bd (k:Int) s.2.Bd⟩
theorem qwx {t:qx} {M k:Nat} {s:Bool × qe} (h:TmOk t M) (hk:k<M) (hs:slR s.2.Bd):TmOk (setT t k s) M where
 r:=by show (setS _ _ _).length=_;rw [qeH];exact h.r
 a:=by show (setS _ _ _).length=_;rw [qeH];exact h.a
 s:=by show (setS _ _ _).length=_;rw [qeH];exact h.s
 sl:=fun j hj=>by
  show slR (gt (setS _ _ _) j)
  rw [qlF (by rw [h.s];exact hk)]
  split
  ·exact hs
  ·exact h.sl j hj
def Bare (t:qx) (M:Nat) (l:List Nat):Prop:=∀ k,k<M→k ∉ l→gt t.Bh k=false∧gt t.Ah k=zSp∧gt t.Bd k=zSp
def zT:qx:=⟨[],[],[]⟩
theorem qvH:slR zSp:=by unfold slR zSp;exact ⟨⟨jW _,by show (0:Int)≤_;omega⟩,jW _,by show (0:Int)≤_;omega⟩
theorem qws {s t:qh} (hs:slR s) (ht:slR t):slR (hullS s t):=by
 obtain ⟨⟨a1,a2⟩,a3,a4⟩:=hs
 obtain ⟨⟨b1,b2⟩,b3,b4⟩:=ht
 refine ⟨⟨?_,?_⟩,?_,?_⟩
 ·show (0:Int)≤(if t.Ap<s.Ap then t.Ap else s.Ap);split<;>assumption
 ·show (if t.Ap<s.Ap then t.Ap else s.Ap)≤1000000;split<;>assumption
 ·show (0:Int)≤(if t.Bf > s.Bf then t.Bf else s.Bf);split<;>assumption
 ·show (if t.Bf > s.Bf then t.Bf else s.Bf)≤1000000;split<;>assumption
section
variable {b:qf} {c:qt} {f:Nat→qh→qh × qh} {lv:List Bool} {t:qx} {xs:List qe} {node:Int}
theorem qvA (h:blockB b=true) (hf:SpansOk b c f) (ht:TmOk t (2*(places b.Ab).length)) (hx:SrcOk xs):∀ j,j≤(linksL b).length→slR (ndS f (linksL b) lv t node (srcV (srcO xs node)) j).2.Bd:=by
 intro j
 induction j with
 | zero =>
  intro _
  show slR (srcV (srcO xs node)).2.Bd
  cases hs:srcO xs node with
  | none=>exact qvH
  | some y=>exact hx.sl y (qmT hs).2
 | succ j ih =>
  intro hj
  have ih:=ih (by omega)
  obtain ⟨_,e2⟩:=qob (qkQ h) (show j<(linksL b).length by omega)
  have h2:=(hf j _ (show j<(linksL b).length by omega) (ht.sl _ e2)).1
  show slR (bif toQ (linksL b) lv node j then stepS f (linksL b) t node (ndS f (linksL b) lv t node (srcV (srcO xs node)) j) j else ndS f (linksL b) lv t node (srcV (srcO xs node)) j).2.Bd
  cases toQ (linksL b) lv node j
  ·exact ih
  ·simp only [cond_true]
   unfold stepS
   cases gt t.Bh (frN (linksL b) j)
   ·exact ih
   ·simp only [cond_true]
    unfold joinS
    cases (ndS f (linksL b) lv t node (srcV (srcO xs node)) j).1
    ·exact h2
    ·exact qws ih h2
theorem qwY:∀ j,(ndS f (linksL b) lv t node (srcV (srcO xs node)) j).1=false→(ndS f (linksL b) lv t node (srcV (srcO xs node)) j).2=zSrc:=by
 intro j
 induction j with
 | zero =>
  show (srcV (srcO xs node)).1=false→(srcV (srcO xs node)).2=zSrc
  cases srcO xs node with
  | none=>exact fun _=>rfl
  | some y=>intro e;cases e
 | succ j ih =>
  unfold ndS
  cases toQ (linksL b) lv node j
  ·exact ih
  ·simp only [cond_true]
   unfold stepS
   cases gt t.Bh (frN (linksL b) j)
   ·exact ih
   ·simp only [cond_true]
    unfold joinS
    cases (ndS f (linksL b) lv t node (srcV (srcO xs node)) j).1<;>(intro e;cases e)
def runR (o:Option qx):qx × Bool:=match o with|some t=>(t,true)|none=>(zT,false)
theorem qxJ (h:blockB b=true) (hf:SpansOk b c f) (hl:lv.length=(linksL b).length) (hx:SrcOk xs) {R:List Nat} (hR:∀ j,∀ hj:j<R.length,R[j]<2*(places b.Ab).length∧R[j] ∉ R.take j) (hRl:R.length≤1000) :
  ∃ o:Option qx,(∀ t,o=some t→TmOk t (2*(places b.Ab).length))∧Ev (fun n=>qku n b c (linksL b) lv xs (ints R)) (runR o)∧Ev (fun n=>qeB n (some ⟨some (viewV b),lv⟩) c xs (ints R)) (runR o):=by
 have hpl:=qbl (qaa (qat h))
 have hcn:=qiV h
 have hnd:=qny (v:=viewV b) hpl
 have epl:(viewV b).places.length=(places b.Ab).length:=rfl
 rw [epl] at hnd
 obtain ⟨M,eM⟩:∃ M,M=2*(places b.Ab).length:=⟨_,rfl⟩
 have hM:M≤156:=by omega
 have main:∀ d j t,j+d=R.length→TmOk t M→Bare t M (R.take j)→∃ o:Option qx,(∀ t,o=some t→TmOk t M) ∧
   Ev (fun n=>qb1 b c (linksL b) lv xs (ints R) n t.Bd t.Ah t.Bh (j:Int)) (match o with|some t'=>.nxt (t'.Bd,t'.Ah,t'.Bh,(R.length:Int))|none=>.ret (zT,false)) ∧
   Ev (fun n=>qaF (some ⟨some (viewV b),lv⟩) c xs (ints R) n t.Bd t.Ah t.Bh (j:Int)) (match o with|some t'=>.nxt (t'.Bd,t'.Ah,t'.Bh,(R.length:Int))|none=>.ret (zT,false)):=by
  intro d
  induction d with
  | zero =>
   intro j t hj ht _
   obtain rfl:j=R.length:=by omega
   refine ⟨some t,fun t' e=>by obtain rfl:=Option.some.inj e;exact ht,Ev.succ ?_,Ev.succ ?_⟩
   ·simp only [qb1,qbQ,qk (jb _),cond_false];exact .done
   ·simp only [qaF,qbQ,qk (jb _),cond_false];exact .done
  | succ d ih =>
   intro j t hj ht hb
   have hjl:j<R.length:=by omega
   obtain ⟨k1,k2⟩:=hR j hjl
   have hi:=qmL hjl
   have htk:R.take (j+1)=R.take j++[R[j]]:=js hjl
   generalize R[j]=k at k1 k2 hi htk
   rw [←eM] at k1
   have hs:=qv2 (node:=(k:Int)) h hf hl (by rw [←eM];exact ht) hx
   have hp:=qvF (node:=(k:Int)) h hf hl (by rw [←eM];exact ht) hx.len
   have hsl:=qvA (node:=(k:Int)) (lv:=lv) h hf (by rw [←eM];exact ht) hx (linksL b).length (jb _)
   have hz:=qwY (f:=f) (b:=b) (lv:=lv) (t:=t) (xs:=xs) (node:=(k:Int)) (linksL b).length
   obtain ⟨b1,b2,b3⟩:=hb k k1 k2
   have ir:idx t.Bh (k:Int)=some (gt t.Bh k):=qz (by rw [ht.r];exact k1)
   have ia:idx t.Ah (k:Int)=some (gt t.Ah k):=qz (by rw [ht.a];exact k1)
   have is:idx t.Bd (k:Int)=some (gt t.Bd k):=qz (by rw [ht.s];exact k1)
   have stp:∀ n,qb1 b c (linksL b) lv xs (ints R) (n+1) t.Bd t.Ah t.Bh (j:Int)=(qhS n b c (linksL b) lv xs t (k:Int)).bind fun o=>match o with
    | (r4,r5)=>bif (!r4) then qb1 b c (linksL b) lv xs (ints R) n t.Bd t.Ah t.Bh ((j+1:Nat):Int) else bif (!spanB r5.Ah) then some (.ret (zT,false)) else
     qb1 b c (linksL b) lv xs (ints R) n (setS t.Bd (k:Int) r5.Bd) (setS t.Ah (k:Int) r5.Ah) (setS t.Bh (k:Int) true) ((j+1:Nat):Int):=fun n=>by
    simp only [qb1,qbQ,qj hjl,cond_true,hi,ja,qpZ,ir,ia,is,wS j]
    rfl
   have ptp:∀ n,qaF (some ⟨some (viewV b),lv⟩) c xs (ints R) (n+1) t.Bd t.Ah t.Bh (j:Int)=(qc4 n (some ⟨some (viewV b),lv⟩) c xs t (k:Int)).bind fun o=>match o with
    | (r3,r4)=>(bif r3 then some (!spanB r4.Ah) else some false).bind fun b3=>bif b3 then some (.ret (zT,false)) else
     qaF (some ⟨some (viewV b),lv⟩) c xs (ints R) n (setS t.Bd (k:Int) r4.Bd) (setS t.Ah (k:Int) r4.Ah) (setS t.Bh (k:Int) r3) ((j+1:Nat):Int):=fun n=>by
    simp only [qaF,qbQ,qj hjl,cond_true,hi,ja,qot,ir,ia,is,wS j]
    rfl
   generalize ndS f (linksL b) lv t (k:Int) (srcV (srcO xs (k:Int))) (linksL b).length=s at hs hp hsl hz
   obtain ⟨s1,s2⟩:=s
   cases s1
   ·have:=hz rfl
    simp only at this
    subst this
    have e1:setS t.Bd (k:Int) zSrc.Bd=t.Bd:=qmQ (by rw [ht.s];exact k1) b3
    have e2:setS t.Ah (k:Int) zSrc.Ah=t.Ah:=qmQ (by rw [ht.a];exact k1) b2
    have e3:setS t.Bh (k:Int) false=t.Bh:=qmQ (by rw [ht.r];exact k1) b1
    obtain ⟨o,o1,o2,o3⟩:=ih (j+1) t (by omega) ht (fun i hi hni=>hb i hi (fun hm=>hni (by rw [htk];exact jO _ hm)))
    refine ⟨o,o1,Ev.step stp (Ev.bind hs o2),Ev.step ptp (Ev.bind hp ?_)⟩
    simp only [cond_false,ja,e1,e2,e3]
    exact o3
   ·cases hsp:spanB s2.Ah
    ·refine ⟨none,fun t e=>(by cases e),Ev.step stp (Ev.bind hs ?_),Ev.step ptp (Ev.bind hp ?_)⟩
     ·simp only [hsp];exact .done
     ·simp only [hsp];exact .done
    ·obtain ⟨o,o1,o2,o3⟩:=ih (j+1) (setT t k (true,s2)) (by omega) (qwx ht k1 hsl) (fun i hi hni=>by
      rw [htk] at hni
      have hne:i ≠ k:=fun e=>hni (List.mem_append_right _ (List.mem_singleton.2 e))
      have:=hb i hi (fun hm=>hni (jO _ hm))
      refine ⟨?_,?_,?_⟩
      ·show gt (setS _ _ _) i=_;rw [qlF (by rw [ht.r];exact k1),if_neg hne];exact this.1
      ·show gt (setS _ _ _) i=_;rw [qlF (by rw [ht.a];exact k1),if_neg hne];exact this.2.1
      ·show gt (setS _ _ _) i=_;rw [qlF (by rw [ht.s];exact k1),if_neg hne];exact this.2.2)
     refine ⟨o,o1,Ev.step stp (Ev.bind hs ?_),Ev.step ptp (Ev.bind hp ?_)⟩
     ·simp only [hsp];exact o2
     ·simp only [hsp];exact o3
 have hm1:mkS (M:Int) false=some (List.replicate M false):=qn1 (by omega)
 have hm2:mkS (M:Int) (⟨0,0⟩:qh)=some (List.replicate M zSp):=qn1 (by omega)
 have gr:∀ {α:Type} [Inhabited α] (v:α) (k:Nat),k<M→gt (List.replicate M v) k=v:=fun v k hk=>by rw [qeu (by rw [jC];exact hk)];simp
 obtain ⟨o,o1,o2,o3⟩:=main R.length 0 ⟨List.replicate M false,List.replicate M zSp,List.replicate M zSp⟩ (by omega) ⟨jC,jC,jC,fun k hk=>by
   show slR (gt (List.replicate M zSp) k)
   rw [gr zSp k hk];exact qvH⟩ (fun k hk _=>⟨gr false k hk,gr zSp k hk,gr zSp k hk⟩)
 rw [←eM] at hcn hnd
 refine ⟨o,by rw [←eM];exact o1,?_,?_⟩
 ·unfold qku qkN
  refine Ev.bind hcn ?_
  simp only [hm1,hm2,ja]
  refine Ev.bind o2 ?_
  cases o<;>exact .done
 ·unfold qeB qgP
  simp only [ja,hnd,hm1,hm2]
  refine Ev.bind o3 ?_
  cases o<;>exact .done
end
end Go.Fw


namespace Go.Fw
open Go Go.Proofs
open Go.RowKit (Below)
set_option maxRecDepth 100000
set_option maxHeartbeats 1600000
variable {n:Nat} {w:World} {cs1 cs2 cs3 cs4 cs5 cs6 cs7 cs8 cs9:List Value}
def qhR (n:Nat) (j:qbA):Option ((Option Tl20Work) × Int) :=
 (qc6 n (⟨(⟨j.Af.Av.Aq⟩:qp),(⟨j.Af.Ab.Aa,j.Af.Ab.Am,j.Af.Ab.Aj⟩:qd),j.Af.Ac⟩:qf) (⟨j.Ai.Ba,j.Ai.Au,j.Ai.Ay,j.Ai.As,j.Ai.Az⟩:qt) j.Bg j.Bb).bind fun o=>match o with
  | (r2,r3) =>
   bif (r3 != 0) then some (none,r3) else
   (qeN n (⟨(⟨j.Af.Av.Aq⟩:qp),(⟨j.Af.Ab.Aa,j.Af.Ab.Am,j.Af.Ab.Aj⟩:qd),j.Af.Ac⟩:qf)).bind fun r4 =>
   (qgx n r4 j.Bg).bind fun r5 =>
   some ((some (⟨(⟨(⟨(⟨j.Af.Av.Aq⟩:qp),(⟨j.Af.Ab.Aa,j.Af.Ab.Am,j.Af.Ab.Aj⟩:qd),j.Af.Ac⟩:qf),(⟨j.Ai.Ba,j.Ai.Au,j.Ai.Ay,j.Ai.As,j.Ai.Az⟩:qt),j.Bg,j.Bb⟩:qbA),r4,r5,r2⟩:Tl20Work)),0)
theorem qoV {A:Nat→Prop} (hA:∀ b,A b→old w b) {j:qbA} (ha1:GoT.R w A j cs1) {r:((Option Tl20Work) × Int)} (hF:qhR n j=some r):RetG Tryz.prog 32 [GoT.v qbA cs1] w A r:=by
 obtain ⟨p1,k1,p2,k2,p3,k3,p4,k4,p5,k5,p6,k6,p7,k7,rfl,s1,s2,s3,s4,s5,s6,s7⟩:=qdj ha1
 have hg:=Rg.start hA
 refine qeC Tryz.func32 rfl (m:=34) rfl rfl (fun h=>?_)
 refine zSR (qu h rfl rfl fun w1 bb1 h=>X4 13 0 0 0 0 h rfl ?_)
 obtain ⟨r1,hr1,hF⟩:=qc hF
 obtain ⟨r2,r3⟩:=r1
 refine qbh (r2,r3) h (cB 24 rfl) (qkV (qeK _ (h.oldS (s1.mono hg.old)) (h.oldS (s2.mono hg.old)) (h.oldS (s3.mono hg.old)) (h.oldS (s4.mono hg.old)) (h.oldS (s5.mono hg.old))) (qem _) ⟨_,_,rfl,(h.oldS (s6.mono hg.old))⟩ ⟨_,_,rfl,(h.oldS (s7.mono hg.old))⟩ hr1) rfl rfl rfl rfl fun w2 S1 us1 hv1 hr2=>?_
 obtain ⟨S2,S3,cs2,us2,rfl,hv2,hr3⟩:=hv1.cons hr2
 obtain ⟨p8,k8,p9,k9,p10,k10,rfl,-,-,-⟩:=qco (hv2.sh.own 0 rfl)
 obtain ⟨rfl,h⟩:=hv2.lastI hr3
 refine zp3 rfl (qm qa h rfl rfl rfl fun w3 bb2 h=>zs 0 h rfl fun w4 h=>X0 8 rfl (qg rfl hF ?_ ?_))<;>intro hF
 ·refine X0 6 rfl ?_
  obtain rfl:=qb hF
  have hv4:GoRs.Rs (ρ:=((Option Tl20Work) × Int)) h.wc (reg A w h.wc) (none,r3) [GoT.v (Option Tl20Work) [.pointer none],GoT.v Int [.int .i64 r3]]:=⟨_,_,rfl,rfl,⟨_,rfl,rfl⟩⟩
  exact qeL qa (ρ:=((Option Tl20Work) × Int)) (r:=(none,r3)) [GoT.v (Option Tl20Work) [.pointer none],GoT.v Int [.int .i64 r3]] h ⟨rfl,rfl,trivial⟩ hv4
 refine X1 5 2 h rfl (zcL h hF (qgK (qeK _ (h.oldS (s1.mono hg.old)) (h.oldS (s2.mono hg.old)) (h.oldS (s3.mono hg.old)) (h.oldS (s4.mono hg.old)) (h.oldS (s5.mono hg.old)))) rfl fun r4 w5 S5 p11 k11 h hF=>X0 3 rfl (rA [] [1,3] h rfl fun w6 h=>M3 95 [0,1,2,3,4,6] 1 1 0 (h.pick [1,3] rfl) rfl (Ao 5 127 rfl (zcL h hF (qhb (h.own 0 rfl) ⟨_,_,rfl,(h.oldS (s6.mono hg.old))⟩) rfl fun r5 w7 S6 p12 k12 h hF=>Ag (h.pick [2,4] rfl) (Aw 7 255 (fun w' hw=>qT qa [0,1,2,3] [.tmp 25,.tmp 26,.tmp 30,.tmp 31] rfl rfl rfl rfl rfl rfl rfl rfl) (h.pick [2,4] rfl) rfl ?_)))))
 refine Ao 8 511 rfl (qu h rfl rfl fun w8 bb3 h=>G0 2047 [9,10] (h.pick [3,5] rfl) rfl (Ad ?_))
 obtain rfl:=qb hF
 have hv5:GoRs.Rs (ρ:=((Option Tl20Work) × Int)) h.wc (reg A w h.wc) ((some (⟨(⟨(⟨(⟨j.Af.Av.Aq⟩:qp),(⟨j.Af.Ab.Aa,j.Af.Ab.Am,j.Af.Ab.Aj⟩:qd),j.Af.Ac⟩:qf),(⟨j.Ai.Ba,j.Ai.Au,j.Ai.Ay,j.Ai.As,j.Ai.Az⟩:qt),j.Bg,j.Bb⟩:qbA),r4,r5,r2⟩:Tl20Work)),0) [GoT.v (Option Tl20Work) [.pointer (some ⟨bb3,0,none⟩)],GoT.v Int [.int .i64 0]]:=⟨_,_,rfl,(hg.outR h (Rg.boxR (x:=(⟨(⟨(⟨(⟨j.Af.Av.Aq⟩:qp),(⟨j.Af.Ab.Aa,j.Af.Ab.Am,j.Af.Ab.Aj⟩:qd),j.Af.Ac⟩:qf),(⟨j.Ai.Ba,j.Ai.Au,j.Ai.Ay,j.Ai.As,j.Ai.Az⟩:qt),j.Bg,j.Bb⟩:qbA),r4,r5,r2⟩:Tl20Work)) 0 h rfl (⟨[.slice p1 j.Af.Av.Aq.length k1,.slice p2 j.Af.Ab.Aa.length k2,.slice p3 j.Af.Ab.Am.length k3,.slice p4 j.Af.Ab.Aj.length k4,.slice p5 j.Af.Ac.length k5,.string j.Ai.Ba,.int .i64 j.Ai.Au,.int .i64 j.Ai.Ay,.int .i64 j.Ai.As,.int .i64 j.Ai.Az,.slice p6 j.Bg.length k6,.slice p7 j.Bb.length k7],[.slice p11 r4.length k11,.slice p12 r5.length k12,.slice p8 r2.Bh.length k8,.slice p9 r2.Ah.length k9,.slice p10 r2.Bd.length k10],rfl,⟨[.slice p1 j.Af.Av.Aq.length k1,.slice p2 j.Af.Ab.Aa.length k2,.slice p3 j.Af.Ab.Am.length k3,.slice p4 j.Af.Ab.Aj.length k4,.slice p5 j.Af.Ac.length k5],[.string j.Ai.Ba,.int .i64 j.Ai.Au,.int .i64 j.Ai.Ay,.int .i64 j.Ai.As,.int .i64 j.Ai.Az,.slice p6 j.Bg.length k6,.slice p7 j.Bb.length k7],rfl,⟨[.slice p1 j.Af.Av.Aq.length k1],[.slice p2 j.Af.Ab.Aa.length k2,.slice p3 j.Af.Ab.Am.length k3,.slice p4 j.Af.Ab.Aj.length k4,.slice p5 j.Af.Ac.length k5],rfl,⟨_,_,rfl,(hg.inS h s1)⟩,⟨[.slice p2 j.Af.Ab.Aa.length k2,.slice p3 j.Af.Ab.Am.length k3,.slice p4 j.Af.Ab.Aj.length k4],[.slice p5 j.Af.Ac.length k5],rfl,⟨[.slice p2 j.Af.Ab.Aa.length k2],[.slice p3 j.Af.Ab.Am.length k3,.slice p4 j.Af.Ab.Aj.length k4],rfl,⟨_,_,rfl,(hg.inS h s2)⟩,⟨[.slice p3 j.Af.Ab.Am.length k3],[.slice p4 j.Af.Ab.Aj.length k4],rfl,⟨_,_,rfl,(hg.inS h s3)⟩,⟨_,_,rfl,(hg.inS h s4)⟩⟩⟩,⟨_,_,rfl,(hg.inS h s5)⟩⟩⟩,⟨[.string j.Ai.Ba,.int .i64 j.Ai.Au,.int .i64 j.Ai.Ay,.int .i64 j.Ai.As,.int .i64 j.Ai.Az],[.slice p6 j.Bg.length k6,.slice p7 j.Bb.length k7],rfl,⟨[.string j.Ai.Ba],[.int .i64 j.Ai.Au,.int .i64 j.Ai.Ay,.int .i64 j.Ai.As,.int .i64 j.Ai.Az],rfl,rfl,⟨[.int .i64 j.Ai.Au],[.int .i64 j.Ai.Ay,.int .i64 j.Ai.As,.int .i64 j.Ai.Az],rfl,rfl,⟨[.int .i64 j.Ai.Ay],[.int .i64 j.Ai.As,.int .i64 j.Ai.Az],rfl,rfl,⟨[.int .i64 j.Ai.As],[.int .i64 j.Ai.Az],rfl,rfl,rfl⟩⟩⟩⟩,⟨[.slice p6 j.Bg.length k6],[.slice p7 j.Bb.length k7],rfl,⟨_,_,rfl,(hg.inS h s6)⟩,⟨_,_,rfl,(hg.inS h s7)⟩⟩⟩⟩,⟨[.slice p11 r4.length k11],[.slice p12 r5.length k12,.slice p8 r2.Bh.length k8,.slice p9 r2.Ah.length k9,.slice p10 r2.Bd.length k10],rfl,(Rg.ownR 2 h rfl),⟨[.slice p12 r5.length k12],[.slice p8 r2.Bh.length k8,.slice p9 r2.Ah.length k9,.slice p10 r2.Bd.length k10],rfl,(Rg.ownR 1 h rfl),(Rg.ownR 4 h rfl)⟩⟩⟩))),⟨_,rfl,rfl⟩⟩
 exact qeL qa (ρ:=((Option Tl20Work) × Int)) (r:=((some (⟨(⟨(⟨(⟨j.Af.Av.Aq⟩:qp),(⟨j.Af.Ab.Aa,j.Af.Ab.Am,j.Af.Ab.Aj⟩:qd),j.Af.Ac⟩:qf),(⟨j.Ai.Ba,j.Ai.Au,j.Ai.Ay,j.Ai.As,j.Ai.Az⟩:qt),j.Bg,j.Bb⟩:qbA),r4,r5,r2⟩:Tl20Work)),0)) [GoT.v (Option Tl20Work) [.pointer (some ⟨bb3,0,none⟩)],GoT.v Int [.int .i64 0]] h ⟨rfl,rfl,trivial⟩ hv5
def qct (a_w:(Option Tl20Work)) (node:Int):Nat→Int→Option (Flow (qe × Bool) Int)
 | 0,_=>none
 | n+1,i1 =>
  (a_w).bind fun y1 =>
  bif decide (i1<(y1.j.Bb.length:Int)) then
   (idx y1.j.Bb i1).bind fun y2 =>
   bif (y2.Bo==node) then
    (idx y1.j.Bb i1).bind fun y3 =>
    some (.ret (y3,true))
   else
    qct a_w node n (W64 (i1+1))
  else
   some (.nxt i1)
def qhH (n:Nat) (a_w:(Option Tl20Work)) (node:Int):Option (qe × Bool) :=
 (qct a_w node n 0).bind fun o=>match o with
 | .ret r=>some r
 | .nxt _ =>
  some ((⟨0,(⟨0,0⟩:qh),(⟨0,0⟩:qh)⟩:qe),false)
theorem qnA {a_w:(Option Tl20Work)} {node:Int} (ha1:GoT.R w (old w) a_w cs1) {r:(qe × Bool)} (hF:qhH n a_w node=some r):RetV Tryz.prog 57 [GoT.v (Option Tl20Work) cs1,.int .i64 node] w r:=by
 obtain ⟨p1,rfl,s1⟩:=qaB ha1
 refine zV 37 Tryz.func57 rfl fun h=>zSR (qm qa h rfl rfl rfl fun w1 bb1 h=>X0 7 rfl ?_)
 obtain ⟨o1,hF,hK1⟩:=qc hF
 refine ql (rL (fun m e w'=>∃ (i1:Int),qct a_w node m i1=some o1∧e=[(0,.pointer p1),(1,.int .i64 node),(4,.pointer (some ⟨bb1,0,none⟩)),(6,.int .i64 i1)]∧SH w w' [Ch.box bb1 [.int .i64 0,.int .i64 0,.int .i64 0,.int .i64 0,.int .i64 0] 112]) n ⟨_,hF,rfl,h⟩ rfl ?_)
 rintro m1 e1 w2 ⟨i1,hF,rfl,h⟩
 rcases m1 with _|m1
 ·cases hF
 refine X0 5 rfl ?_
 obtain ⟨y1,hy1,hF⟩:=qc hF
 obtain ⟨b1,o_1,cs2,rfl,-,hr1,hc1⟩:=PtR.get s1 hy1
 obtain ⟨p2,k1,p3,k2,p4,k3,p5,k4,p6,k5,p7,k6,p8,k7,p9,k8,p10,k9,p11,k10,p12,k11,p13,k12,rfl,s2,s3,s4,s5,s6,s7,s8,s9,s10,s11,s12,s13⟩:=qna hr1
 refine zp3 rfl (zc 11 (hc1.below h.below) rfl (X0 3 rfl (qg rfl hF ?_ ?_)))<;>intro hF
 ·refine X0 9 rfl (zc 11 (hc1.below h.below) rfl (zp1 rfl ?_))
  obtain ⟨y2,hy2,hF,he1,b2,_,q1,cs3,hp1,hq1,hr2,hc3⟩:=s8.ix hF
  obtain rfl:=qS hr2
  refine zxe hp1 hq1 he1 rfl (zp1 rfl (zc 0 (hc3.below h.below) rfl (X0 3 rfl (qg rfl hF ?_ ?_))))<;>intro hF
  ·refine X0 6 rfl (zc 11 (hc1.below h.below) rfl (zp1 rfl ?_))
   obtain ⟨y3,hy3,hF,he2,b3,_,q2,cs4,hp2,hq2,hr3,hc5⟩:=s8.ix hF
   obtain rfl:=qS hr3
   refine zxe hp2 hq2 he2 rfl (zc 0 (hc5.below h.below) rfl (zs 0 h rfl fun w3 h=>X0 2 rfl ?_))
   obtain rfl:=qb hF;replace hF:=hK1
   obtain rfl:=qb hF
   exact qW qa (ρ:=(qe × Bool)) [GoT.v qe (qe6 y3),GoT.v Bool [.bool true]] h ⟨⟨_,_,_,rfl,rfl,h.box 0 rfl,rfl⟩,rfl,trivial⟩ (PV.done h (qaf h (qy (S:=fun _=>False) (qb0 y3)) (qY (qy (S:=fun _=>False) rfl)) (by rfl)))
  exact X0 7 rfl (rK ⟨_,hF,rfl,h⟩ rfl)
 refine qr rfl ?_
 obtain rfl:=qb hF;replace hF:=hK1
 refine zSR (r_v (qT qa [] [] rfl rfl rfl rfl rfl rfl rfl rfl) rfl (zs 0 h rfl fun w4 h=>X0 2 rfl ?_))
 obtain rfl:=qb hF
 exact qW qa (ρ:=(qe × Bool)) [GoT.v qe [.int .i64 0,.int .i64 0,.int .i64 0,.int .i64 0,.int .i64 0],GoT.v Bool [.bool false]] h ⟨⟨_,_,_,rfl,rfl,h.box 0 rfl,rfl⟩,rfl,trivial⟩ (PV.done h (qaf h (qy (S:=fun _=>False) (qb0 (⟨0,(⟨0,0⟩:qh),(⟨0,0⟩:qh)⟩:qe))) (qY (qy (S:=fun _=>False) rfl)) (by rfl)))
def qii (n:Nat) (j:qbA) (node:Int):Option ((Option Tl20Work) × Int) :=
 (qhR n j).bind fun o=>match o with
  | (r2,r3) =>
   bif (r3 != 0) then some (none,r3) else
   (qck n (⟨(⟨j.Af.Av.Aq⟩:qp),(⟨j.Af.Ab.Aa,j.Af.Ab.Am,j.Af.Ab.Aj⟩:qd),j.Af.Ac⟩:qf)).bind fun r4 =>
   (qai n node 0 (W64 (r4-1))).bind fun r5 =>
   bif (!r5) then some (none,4) else
   some (r2,0)
theorem qmY {A:Nat→Prop} (hA:∀ b,A b→old w b) {j:qbA} {node:Int} (ha1:GoT.R w A j cs1) {r:((Option Tl20Work) × Int)} (hF:qii n j node=some r):RetG Tryz.prog 35 [GoT.v qbA cs1,.int .i64 node] w A r:=by
 obtain ⟨p1,k1,p2,k2,p3,k3,p4,k4,p5,k5,p6,k6,p7,k7,rfl,s1,s2,s3,s4,s5,s6,s7⟩:=qdj ha1
 have hg:=Rg.start hA
 refine qeC Tryz.func35 rfl (m:=24) rfl rfl (fun h=>?_)
 refine zSR (qu h rfl rfl fun w1 bb1 h=>X1 6 0 h rfl ?_)
 obtain ⟨r1,hr1,hF⟩:=qc hF
 obtain ⟨r2,r3⟩:=r1
 refine qhV (r2,r3) hg h (cB 32 rfl) (qoV (hg.regOld h) (hg.inR h ha1) hr1) rfl rfl rfl rfl fun w2 us1 B1 hg1 hu1 hz1 hv1=>?_
 have hL1:=h.ext hu1.below
 have hc1:=Up.box 0 h hu1 rfl
 have s8:=Up.S hg h hu1 s1
 have s9:=Up.S hg h hu1 s2
 have s10:=Up.S hg h hu1 s3
 have s11:=Up.S hg h hu1 s4
 have s12:=Up.S hg h hu1 s5
 have s13:=Up.S hg h hu1 s6
 have s14:=Up.S hg h hu1 s7
 have s15:=Up.R hg h hu1 ha1
 have ha2:=Up.boxP (x:=j) hg 0 h hu1 rfl (hg.inR h ha1)
 have hb1:=h.below.trans (hu1.below.mono h.below.size)
 replace h:=hz1
 obtain ⟨cs2,us2,rfl,hr2,hv2⟩:=qkm hv1
 obtain ⟨p8,rfl,s16⟩:=qaB hr2
 obtain ⟨cs3,rfl,hr3⟩:=qj2 hv2
 obtain rfl:=hr3
 refine X0 12 rfl (qg rfl hF ?_ ?_)<;>intro hF
 ·refine X0 6 rfl ?_
  obtain rfl:=qb hF
  have hv3:GoRs.Rs (ρ:=((Option Tl20Work) × Int)) h.wc (reg A w h.wc) (none,r3) [GoT.v (Option Tl20Work) [.pointer none],GoT.v Int [.int .i64 r3]]:=⟨_,_,rfl,rfl,⟨_,rfl,rfl⟩⟩
  exact qeL qa (ρ:=((Option Tl20Work) × Int)) (r:=(none,r3)) [GoT.v (Option Tl20Work) [.pointer none],GoT.v Int [.int .i64 r3]] (h.unbase hg1.below (show NoD [] from trivial)) ⟨rfl,rfl,trivial⟩ hv3
 refine X0 6 rfl (zc 0 (hc1.below h.below) rfl (zcI h hF (qdL (qeK _ (h.oldS (s8.mono hg1.old)) (h.oldS (s9.mono hg1.old)) (h.oldS (s10.mono hg1.old)) (h.oldS (s11.mono hg1.old)) (h.oldS (s12.mono hg1.old)))) rfl fun r4 w3 h hF=>zp1 rfl (zcB h hF qab rfl fun r5 w4 h hF=>X0 2 rfl (qg rfl hF ?_ ?_))))<;>intro hF
 ·refine X0 5 rfl ?_
  obtain rfl:=qb hF
  have hv4:GoRs.Rs (ρ:=((Option Tl20Work) × Int)) h.wc (reg A w h.wc) (none,4) [GoT.v (Option Tl20Work) [.pointer none],GoT.v Int [.int .i64 4]]:=⟨_,_,rfl,rfl,⟨_,rfl,rfl⟩⟩
  exact qeL qa (ρ:=((Option Tl20Work) × Int)) (r:=(none,4)) [GoT.v (Option Tl20Work) [.pointer none],GoT.v Int [.int .i64 4]] (h.unbase hg1.below (show NoD [] from trivial)) ⟨rfl,rfl,trivial⟩ hv4
 refine X0 7 rfl ?_
 obtain rfl:=qb hF
 have hv5:GoRs.Rs (ρ:=((Option Tl20Work) × Int)) h.wc (reg A w h.wc) (r2,0) [GoT.v (Option Tl20Work) [.pointer p8],GoT.v Int [.int .i64 0]]:=⟨_,_,rfl,(hg1.outR h (hg1.inR h s16)),⟨_,rfl,rfl⟩⟩
 exact qeL qa (ρ:=((Option Tl20Work) × Int)) (r:=(r2,0)) [GoT.v (Option Tl20Work) [.pointer p8],GoT.v Int [.int .i64 0]] (h.unbase hg1.below (show NoD [] from trivial)) ⟨rfl,rfl,trivial⟩ hv5
def qbX (y1:Tl20Work) (x2:(List Int)) (y2:Int):Nat→Int→Int→Option (Int × Int)
 | 0,_,_=>none
 | n+1,i3,i4 =>
  bif decide (i4<(y1.links.length:Int)) then
   (
    (idx y1.live i4).bind fun y5 =>
    bif y5 then
     (idx y1.links i4).bind fun y6 =>
     some (y6.To==y2)
    else
     some false).bind fun b3 =>
   bif b3 then
    (idx y1.links i4).bind fun y3 =>
    (idx x2 y3.Bk).bind fun y4 =>
    qbX y1 x2 y2 n (if (W64 (i3+y4))<1000000 then (W64 (i3+y4)) else 1000000) (W64 (i4+1))
   else
    qbX y1 x2 y2 n i3 (W64 (i4+1))
  else
   some (i3,i4)
def qcx (a_0:(Option Tl20Work)) (y1:Tl20Work) (r4:(List Int)):Nat→(List Int)→Int→Option ((List Int) × Int)
 | 0,_,_=>none
 | n+1,x2,i1 =>
  bif decide (i1<(r4.length:Int)) then
   (idx r4 i1).bind fun y2 =>
   (qhH n a_0 y2).bind fun o=>match o with
    | (_,r8) =>
     (
      bif r8 then some 1 else
      some 0).bind fun i2 =>
     (qbX y1 x2 y2 n i2 0).bind fun o=>match o with
     | (i3,_) =>
      (idx x2 y2).bind fun _ =>
      qcx a_0 y1 r4 n (setS x2 y2 i3) (W64 (i1+1))
  else
   some (x2,i1)
def qgb (n:Nat) (a_0:(Option Tl20Work)):Option (List Int) :=
 (a_0).bind fun y1 =>
 (qck n (⟨(⟨y1.j.Af.Av.Aq⟩:qp),(⟨y1.j.Af.Ab.Aa,y1.j.Af.Ab.Am,y1.j.Af.Ab.Aj⟩:qd),y1.j.Af.Ac⟩:qf)).bind fun r1 =>
 (mkS r1 (0:Int)).bind fun x1 =>
 (qck n (⟨(⟨y1.j.Af.Av.Aq⟩:qp),(⟨y1.j.Af.Ab.Aa,y1.j.Af.Ab.Am,y1.j.Af.Ab.Aj⟩:qd),y1.j.Af.Ac⟩:qf)).bind fun r2 =>
 (qfP n r2 y1.links y1.live).bind fun o=>match o with
  | (r4,_) =>
   (qcx a_0 y1 r4 n x1 0).bind fun o=>match o with
   | (x2,_) =>
    some x2
theorem qnZ {a_0:(Option Tl20Work)} (ha1:GoT.R w (old w) a_0 cs1) {r:(List Int)} (hF:qgb n a_0=some r):RetV Tryz.prog 36 [GoT.v (Option Tl20Work) cs1] w r:=by
 obtain ⟨p1,rfl,s1⟩:=qaB ha1
 refine zV 101 Tryz.func36 rfl fun h=>X0 7 rfl ?_
 obtain ⟨y1,hy1,hF⟩:=qc hF
 obtain ⟨b1,o_1,cs2,rfl,-,hr1,hc1⟩:=PtR.get s1 hy1
 obtain ⟨p2,k1,p3,k2,p4,k3,p5,k4,p6,k5,p7,k6,p8,k7,p9,k8,p10,k9,p11,k10,p12,k11,p13,k12,rfl,s2,s3,s4,s5,s6,s7,s8,s9,s10,s11,s12,s13⟩:=qna hr1
 refine zp3 rfl (zc 0 (hc1.below h.below) rfl (zcI h hF (qdL (qeK _ (h.oldS s2) (h.oldS s3) (h.oldS s4) (h.oldS s5) (h.oldS s6))) rfl fun r1 w1 h hF=>?_))
 obtain ⟨x1,hx1,hF⟩:=qc hF
 obtain ⟨g1,g2,hx1⟩:=qJ hx1
 refine qad qa Int h rfl rfl rfl rfl rfl rfl rfl rfl rfl g1 g2 hx1 rfl fun w2 S1 p14 h=>X0 3 rfl (rA [] [] h rfl fun w3 h=>M0 15 [0,1,2,3] (h.pick [] rfl) rfl (Al 4 31 0 hc1 (h.pick [] rfl) rfl (M0 479 [6,7,8] (h.pick [] rfl) rfl (Al 9 991 12 hc1 (h.pick [] rfl) rfl (M0 8159 [10,11,12] (h.pick [] rfl) rfl (Al 13 16351 13 hc1 (h.pick [] rfl) rfl (Ao 5 16383 rfl (zcI h hF (qdL (qeK _ (h.oldS s2) (h.oldS s3) (h.oldS s4) (h.oldS s5) (h.oldS s6))) rfl fun r2 w4 h hF=>Ag (h.pick [] rfl) (Ao 14 32767 rfl ?_)))))))))
 obtain ⟨r3,hr4,hF⟩:=qc hF
 obtain ⟨r4,r5⟩:=r3
 refine qbh (r4,r5) h (cB 61 rfl) (qk4 ⟨_,_,rfl,(h.oldS s9)⟩ ⟨_,_,rfl,(h.oldS s10)⟩ hr4) rfl rfl rfl rfl fun w5 S2 us1 hv1 hr5=>?_
 obtain ⟨S3,S4,p15,k13,us2,rfl,hv2,hr6⟩:=hv1.consL hr5
 obtain ⟨rfl,h⟩:=hv2.lastB hr6
 refine G0 1048575 [15,16,17,18,19] (h.pick [] rfl) rfl (Ad (X0 5 rfl ?_))
 obtain ⟨o1,hF,hK1⟩:=qc hF
 refine ql (rL (fun m e w'=>∃ (x2:(List Int)) (i1:Int),qcx a_0 y1 r4 m x2 i1=some o1∧e=[(0,.pointer (some ⟨b1,o_1,none⟩)),(3,.slice p14 x1.length x1.length),(4,.slice p15 r4.length k13),(6,.int .i64 i1)]∧SH w w' [Ch.own S3 (r4:List Int) [.slice p15 r4.length k13],Ch.own S1 (x2:List Int) [.slice p14 x1.length x1.length]]) n ⟨_,_,hF,rfl,h⟩ rfl ?_)
 rintro m1 e1 w6 ⟨x2,i1,hF,rfl,h⟩
 rcases m1 with _|m1
 ·cases hF
 refine X0 8 rfl (qg rfl hF ?_ ?_)<;>intro hF
 ·refine X0 7 rfl ?_
  obtain ⟨y2,hy2,hF,he1,b2,_,q1,cs3,hp1,hq1,rfl,hc3⟩:=(h.sl 0 rfl).1.ix hF
  refine zx hp1 hq1 ⟨he1.1,qH he1.2.1 (h.sl 0 rfl).2⟩ rfl (zc 0 hc3 rfl (X0 10 rfl ?_))
  obtain ⟨r6,hr9,hF⟩:=qc hF
  obtain ⟨r7,r8⟩:=r6
  refine qbh (r7,r8) h (cB 57 rfl) (qnA (h.old s1) hr9) rfl rfl rfl rfl fun w7 S6 us3 hv4 hr10=>?_
  obtain ⟨S7,S8,cs4,us4,rfl,hv5,hr11⟩:=hv4.cons hr10
  obtain rfl:=qS (hv5.sh.own 0 rfl)
  obtain ⟨rfl,h⟩:=hv5.lastB hr11
  refine zp3 rfl (qm qa h rfl rfl rfl fun w8 bb1 h=>zs 0 h rfl fun w9 h=>X0 7 rfl ?_)
  obtain ⟨KF2,hKF2,o4,hF,hK4⟩:=bindE hF
  refine qba (fun e w'=>∃ (i2:Int),KF2 i2=some o1∧e=[(0,.pointer (some ⟨b1,o_1,none⟩)),(3,.slice p14 x1.length x1.length),(4,.slice p15 r4.length k13),(6,.int .i64 i1),(7,.int .i64 y2),(8,.int .i64 i2)]∧SH w w' [Ch.own S3 (r4:List Int) [.slice p15 r4.length k13],Ch.own S1 (x2:List Int) [.slice p14 x1.length x1.length]]) ?_ ?_
  ·refine qg rfl hF ?_ ?_<;>intro hF
   ·refine X0 3 rfl ?_
    replace h:=h.pick [2,3] rfl
    obtain rfl:=qb hF
    exact rG ⟨_,hK4,rfl,h⟩ rfl
   refine qgm ?_
   replace h:=h.pick [2,3] rfl
   obtain rfl:=qb hF
   exact rG ⟨_,hK4,rfl,h⟩ rfl
  rintro e4 w13 ⟨i2,hF,rfl,h⟩
  subst hKF2
  refine X0 5 rfl ?_
  obtain ⟨o2,hF,hK2⟩:=qc hF
  refine ql (rL (fun m e w'=>∃ (i3:Int) (i4:Int),qbX y1 x2 y2 m i3 i4=some o2∧e=[(0,.pointer (some ⟨b1,o_1,none⟩)),(3,.slice p14 x1.length x1.length),(4,.slice p15 r4.length k13),(6,.int .i64 i1),(7,.int .i64 y2),(8,.int .i64 i3),(11,.int .i64 i4)]∧SH w w' [Ch.own S3 (r4:List Int) [.slice p15 r4.length k13],Ch.own S1 (x2:List Int) [.slice p14 x1.length x1.length]]) m1 ⟨_,_,hF,rfl,h⟩ rfl ?_)
  rintro m2 e2 w10 ⟨i3,i4,hF,rfl,h⟩
  rcases m2 with _|m2
  ·cases hF
  refine X0 7 rfl (zc 12 (hc1.below h.below) rfl (X0 3 rfl (qg rfl hF ?_ ?_)))<;>intro hF
  ·refine X0 4 rfl ?_
   obtain ⟨KF1,hKF1,o3,hF,hK3⟩:=bindE hF
   refine qba (fun e w'=>∃ (b3:Bool),KF1 b3=some o2∧e=[(0,.pointer (some ⟨b1,o_1,none⟩)),(3,.slice p14 x1.length x1.length),(4,.slice p15 r4.length k13),(6,.int .i64 i1),(7,.int .i64 y2),(8,.int .i64 i3),(11,.int .i64 i4),(81,.bool b3)]∧SH w w' [Ch.own S3 (r4:List Int) [.slice p15 r4.length k13],Ch.own S1 (x2:List Int) [.slice p14 x1.length x1.length]]) ?_ ?_
   ·refine X0 4 rfl (zc 13 (hc1.below h.below) rfl (zp1 rfl ?_))
    obtain ⟨y5,hy5,hF,he4,b6,_,q4,cs7,hp4,hq4,rfl,hc8⟩:=s10.ix hF
    refine zxe hp4 hq4 he4 rfl (zc 0 (hc8.below h.below) rfl (zp1 rfl (qi (t:=70) hF rfl ?_ ?_)))<;>intro hF
    ·refine X0 7 rfl (zc 12 (hc1.below h.below) rfl (X0 3 rfl ?_))
     obtain ⟨y6,hy6,hF,he5,b7,_,q5,cs8,hp5,hq5,hr16,hc9⟩:=s9.ix hF
     obtain rfl:=qaz hr16
     refine zxe hp5 hq5 he5 rfl (X0 3 rfl (zc 1 (hc9.below h.below) rfl (X0 6 rfl ?_)))
     obtain rfl:=qb hF
     exact rG ⟨_,hK3,rfl,h⟩ rfl
    refine X0 12 rfl ?_
    obtain rfl:=qb hF
    exact rG ⟨_,hK3,rfl,h⟩ rfl
   rintro e3 w11 ⟨b3,hF,rfl,h⟩
   subst hKF1
   refine qg rfl hF ?_ ?_<;>intro hF
   ·refine X0 6 rfl (zc 12 (hc1.below h.below) rfl (zp1 rfl ?_))
    obtain ⟨y3,hy3,hF,he2,b4,_,q2,cs5,hp2,hq2,hr13,hc6⟩:=s9.ix hF
    obtain rfl:=qaz hr13
    refine zxe hp2 hq2 he2 rfl (zp1 rfl (zc 0 (hc6.below h.below) rfl ?_))
    obtain ⟨y4,hy4,hF,he3,b5,_,q3,cs6,hp3,hq3,rfl,hc7⟩:=(h.sl 1 rfl).1.ix hF
    exact zx hp3 hq3 ⟨he3.1,qH he3.2.1 (h.sl 1 rfl).2⟩ rfl (zc 0 hc7 rfl (X0 10 rfl (rK ⟨_,_,hF,rfl,h⟩ rfl)))
   exact X0 7 rfl (rK ⟨_,_,hF,rfl,h⟩ rfl)
  refine qr rfl ?_
  obtain rfl:=qb hF;replace hF:=hK2
  refine X0 4 rfl ?_
  obtain ⟨y7,hy7,hF,he6,b8,_,q6,cs9,hp6,hq6,rfl,hc10⟩:=(h.sl 1 rfl).1.ix hF
  exact zx hp6 hq6 ⟨he6.1,qH he6.2.1 (h.sl 1 rfl).2⟩ rfl (qaW qa 1 0 i3 h rfl hy7 hp6 hq6 rfl hc10 rfl rfl rfl rfl rfl rfl rfl fun w12 h=>X0 7 rfl (rK ⟨_,_,hF,rfl,h⟩ rfl))
 refine qr rfl ?_
 obtain rfl:=qb hF;replace hF:=hK1
 refine X0 5 rfl ?_
 obtain rfl:=qb hF
 exact rO 1 h rfl ⟨rfl,trivial⟩
def qh8 (n:Nat) (j:qbA) (node:Int):Option (Int × Int) :=
 (qii n j node).bind fun o=>match o with
  | (r2,r3) =>
   bif (r3 != 0) then some (0,r3) else
   (qgb n r2).bind fun r4 =>
   (idx r4 node).bind fun y1 =>
   some (y1,0)
theorem qn5 {j:qbA} {node:Int} (ha1:GoT.R w (old w) j cs1) {r:(Int × Int)} (hF:qh8 n j node=some r):RetV Tryz.prog 16 [GoT.v qbA cs1,.int .i64 node] w r:=by
 obtain ⟨p1,k1,p2,k2,p3,k3,p4,k4,p5,k5,p6,k6,p7,k7,rfl,s1,s2,s3,s4,s5,s6,s7⟩:=qdj ha1
 refine zV 22 Tryz.func16 rfl fun h=>zSR (qu h rfl rfl fun w1 bb1 h=>X1 7 0 h rfl ?_)
 have hg1:Rg (old w) w (old w) w:=.start (fun _ h=>h)
 obtain ⟨r1,hr1,hF⟩:=qc hF
 obtain ⟨r2,r3⟩:=r1
 refine qhV (r2,r3) hg1 h (cB 35 rfl) (qmY (hg1.regOld h) (hg1.inR h ha1) hr1) rfl rfl rfl rfl fun w2 us1 B1 hg2 hu1 hz1 hv1=>?_
 have hL1:=h.ext hu1.below
 have hb1:=h.below.trans (hu1.below.mono h.below.size)
 replace h:=hz1
 obtain ⟨cs2,us2,rfl,hr2,hv2⟩:=qkm hv1
 obtain ⟨p8,rfl,s8⟩:=qaB hr2
 obtain ⟨cs3,rfl,hr3⟩:=qj2 hv2
 obtain rfl:=hr3
 refine X0 12 rfl (qg rfl hF ?_ ?_)<;>intro hF
 ·refine X0 6 rfl ?_
  replace h:=h.unbase hg2.below (show NoD [] from trivial)
  obtain rfl:=qb hF
  exact qW qa (ρ:=(Int × Int)) [GoT.v Int [.int .i64 0],GoT.v Int [.int .i64 r3]] h ⟨rfl,rfl,trivial⟩ (PV.done h (qaf h (qy (S:=fun _=>False) rfl) (qY (qy (S:=fun _=>False) rfl)) (by rfl)))
 refine X0 4 rfl (zcL h hF (qnZ (h.old (GoT.mono s8 hg2.old))) rfl fun r4 w3 S1 p9 k8 h hF=>zp1 rfl ?_)
 obtain ⟨y1,hy1,hF,he1,b1,_,q1,cs4,hp1,hq1,rfl,hc2⟩:=(h.sl 0 rfl).1.ix hF
 refine zx hp1 hq1 ⟨he1.1,qH he1.2.1 (h.sl 0 rfl).2⟩ rfl (zc 0 hc2 rfl (X0 3 rfl ?_))
 replace h:=h.unbase hg2.below ⟨fun _ h=>h,trivial⟩
 obtain rfl:=qb hF
 exact qW qa (ρ:=(Int × Int)) [GoT.v Int [.int .i64 y1],GoT.v Int [.int .i64 0]] h ⟨rfl,rfl,trivial⟩ (PV.done h (qaf h (qy (S:=fun _=>False) rfl) (qY (qy (S:=fun _=>False) rfl)) (by rfl)))
def qbg (y2:Tgraph) (y3:Int) (r5:(List Int)):Nat→(List Int)→Int→Option ((List Int) × Int)
 | 0,_,_=>none
 | n+1,x4,i2 =>
  bif decide (i2<(r5.length:Int)) then
   (idx r5 i2).bind fun y4 =>
   (idx x4 y3).bind fun y5 =>
   (y2.view).bind fun y6 =>
   (idx y6.links y4).bind fun y7 =>
   (idx x4 y7.Bk).bind fun y8 =>
   (idx x4 y3).bind fun _ =>
   qbg y2 y3 r5 n (setS x4 y3 (if 1000000<(W64 (y5+y8)) then 1000000 else (W64 (y5+y8)))) (W64 (i2+1))
  else
   some (x4,i2)
def qbj (y1:Twork) (y2:Tgraph):Nat→(List Int)→Int→Option ((List Int) × Int)
 | 0,_,_=>none
 | n+1,x2,i1 =>
  bif decide (i1<(y1.order.length:Int)) then
   (idx y1.order i1).bind fun y3 =>
   (qg1 n y1.job.Bb y3).bind fun o=>match o with
    | (_,r4) =>
     (
      bif r4 then
       (idx x2 y3).bind fun y10 =>
       (idx x2 y3).bind fun _ =>
       some (setS x2 y3 (W64 (y10+1)))
      else
       some x2).bind fun x3 =>
     (qgX n y1.graph y3).bind fun r5 =>
     (qbg y2 y3 r5 n x3 0).bind fun o=>match o with
     | (x4,_) =>
      qbj y1 y2 n x4 (W64 (i1+1))
  else
   some (x2,i1)
def qeT (n:Nat) (a_0:(Option Twork)) (a_1:Int):Option Int :=
 (a_0).bind fun y1 =>
 (y1.graph).bind fun y2 =>
 (qbK n y2.view).bind fun r1 =>
 (mkS r1 (0:Int)).bind fun x1 =>
 (qbj y1 y2 n x1 0).bind fun o=>match o with
 | (x2,_) =>
  (idx x2 a_1).bind fun y12 =>
  some y12
theorem qlt {a_0:(Option Twork)} {a_1:Int} (ha1:GoT.R w (old w) a_0 cs1) {r:Int} (hF:qeT n a_0 a_1=some r):RetV Tryz.prog 38 [GoT.v (Option Twork) cs1,.int .i64 a_1] w r:=by
 obtain ⟨p1,rfl,s1⟩:=qaB ha1
 refine zV 90 Tryz.func38 rfl fun h=>X0 7 rfl ?_
 obtain ⟨y1,hy1,hF⟩:=qc hF
 obtain ⟨b1,o_1,cs2,rfl,-,hr1,hc1⟩:=PtR.get s1 hy1
 obtain ⟨p2,p3,k1,p4,k2,p5,k3,p6,k4,p7,k5,p8,k6,p9,k7,p10,k8,p11,k9,p12,k10,p13,k11,rfl,s2,s3,s4,s5,s6,s7,s8,s9,s10,s11,s12,s13⟩:=qp5 hr1
 refine zp2 rfl (zc 0 (hc1.below h.below) rfl ?_)
 obtain ⟨y2,hy2,hF⟩:=qc hF
 obtain ⟨b2,o_2,cs3,rfl,-,hr2,hc2⟩:=PtR.get s2 hy2
 obtain ⟨p14,p15,k12,rfl,s14,s15⟩:=qfg hr2
 refine zp2 rfl (zc 0 (hc2.below h.below) rfl (zcI h hF (qcV (h.old s14)) rfl fun r1 w1 h hF=>?_))
 obtain ⟨x1,hx1,hF⟩:=qc hF
 obtain ⟨g1,g2,hx1⟩:=qJ hx1
 refine qad qa Int h rfl rfl rfl rfl rfl rfl rfl rfl rfl g1 g2 hx1 rfl fun w2 S1 p16 h=>X0 8 rfl (zc 16 (hc1.below h.below) rfl (X0 3 rfl ?_))
 obtain ⟨o1,hF,hK1⟩:=qc hF
 refine ql (rL (fun m e w'=>∃ (x2:(List Int)) (i1:Int),qbj y1 y2 m x2 i1=some o1∧e=[(0,.pointer (some ⟨b1,o_1,none⟩)),(1,.int .i64 a_1),(5,.slice p16 x1.length x1.length),(24,.slice p13 y1.order.length k11),(25,.int .i64 (y1.order.length:Int)),(26,.int .i64 i1)]∧SH w w' [Ch.own S1 (x2:List Int) [.slice p16 x1.length x1.length]]) n ⟨_,_,hF,rfl,h⟩ rfl ?_)
 rintro m1 e1 w3 ⟨x2,i1,hF,rfl,h⟩
 rcases m1 with _|m1
 ·cases hF
 refine X0 5 rfl (qg rfl hF ?_ ?_)<;>intro hF
 ·refine zKSBSR ?_
  obtain ⟨y3,hy3,hF,he1,b3,_,q1,cs4,hp1,hq1,rfl,hc4⟩:=s13.ix hF
  refine zxe hp1 hq1 he1 rfl (zc 0 (hc4.below h.below) rfl (X0 9 rfl (zc 12 (hc1.below h.below) rfl (zp1 rfl ?_))))
  obtain ⟨r2,hr5,hF⟩:=qc hF
  obtain ⟨r3,r4⟩:=r2
  refine qbh (r3,r4) h (cB 65 rfl) (qld ⟨_,_,rfl,(h.oldS s9)⟩ hr5) rfl rfl rfl rfl fun w4 S2 us1 hv1 hr6=>?_
  obtain ⟨S3,S4,cs5,us2,rfl,hv2,hr7⟩:=hv1.cons hr6
  obtain rfl:=qS (hv2.sh.own 0 rfl)
  obtain ⟨rfl,h⟩:=hv2.lastB hr7
  refine zp3 rfl (qm qa h rfl rfl rfl fun w5 bb1 h=>zs 0 h rfl fun w6 h=>X0 6 rfl ?_)
  obtain ⟨KF1,hKF1,o3,hF,hK3⟩:=bindE hF
  refine qba (fun e w'=>∃ (x3:(List Int)),KF1 x3=some o1∧e=[(0,.pointer (some ⟨b1,o_1,none⟩)),(1,.int .i64 a_1),(5,.slice p16 x1.length x1.length),(7,.int .i64 y3),(24,.slice p13 y1.order.length k11),(25,.int .i64 (y1.order.length:Int)),(26,.int .i64 i1)]∧SH w w' [Ch.own S1 (x3:List Int) [.slice p16 x1.length x1.length]]) ?_ ?_
  ·refine qg rfl hF ?_ ?_<;>intro hF
   ·refine X0 3 rfl ?_
    obtain ⟨y10,hy10,hF,he7,b10,_,q7,cs12,hp7,hq7,rfl,hc13⟩:=(h.sl 2 rfl).1.ix hF
    refine zx hp7 hq7 ⟨he7.1,qH he7.2.1 (h.sl 2 rfl).2⟩ rfl (zc 0 hc13 rfl (zp1 rfl ?_))
    obtain ⟨y11,hy11,hF,he8,b11,_,q8,cs13,hp8,hq8,rfl,hc14⟩:=(h.sl 2 rfl).1.ix hF
    refine zx hp8 hq8 ⟨he8.1,qH he8.2.1 (h.sl 2 rfl).2⟩ rfl (qaW qa 2 0 (W64 (y10+1)) h rfl hy11 hp8 hq8 rfl hc14 rfl rfl rfl rfl rfl rfl rfl fun w11 h=>qcs ?_)
    replace h:=h.pick [2] rfl
    obtain rfl:=qb hF
    exact rG ⟨_,hK3,rfl,h⟩ rfl
   refine qgm ?_
   replace h:=h.pick [2] rfl
   obtain rfl:=qb hF
   exact rG ⟨_,hK3,rfl,h⟩ rfl
  rintro e3 w12 ⟨x3,hF,rfl,h⟩
  subst hKF1
  refine X0 5 rfl (zc 0 (hc1.below h.below) rfl (zp1 rfl (zcL h hF (qle (h.old s2)) rfl fun r5 w7 S6 p17 k13 h hF=>X0 3 rfl ?_)))
  obtain ⟨o2,hF,hK2⟩:=qc hF
  refine ql (rL (fun m e w'=>∃ (x4:(List Int)) (i2:Int),qbg y2 y3 r5 m x4 i2=some o2∧e=[(0,.pointer (some ⟨b1,o_1,none⟩)),(1,.int .i64 a_1),(5,.slice p16 x1.length x1.length),(7,.int .i64 y3),(24,.slice p13 y1.order.length k11),(25,.int .i64 (y1.order.length:Int)),(26,.int .i64 i1),(52,.slice p17 r5.length k13),(53,.int .i64 (r5.length:Int)),(54,.int .i64 i2)]∧SH w w' [Ch.own S6 (r5:List Int) [.slice p17 r5.length k13],Ch.own S1 (x4:List Int) [.slice p16 x1.length x1.length]]) m1 ⟨_,_,hF,rfl,h⟩ rfl ?_)
  rintro m2 e2 w8 ⟨x4,i2,hF,rfl,h⟩
  rcases m2 with _|m2
  ·cases hF
  refine X0 5 rfl (qg rfl hF ?_ ?_)<;>intro hF
  ·refine zKSBSR ?_
   obtain ⟨y4,hy4,hF,he2,b4,_,q2,cs6,hp2,hq2,rfl,hc6⟩:=(h.sl 0 rfl).1.ix hF
   refine zx hp2 hq2 ⟨he2.1,qH he2.2.1 (h.sl 0 rfl).2⟩ rfl (zc 0 hc6 rfl (X0 2 rfl (rA [26] [1] h rfl fun w9 h=>M0 15 [0,1,2,3] (h.pick [1] rfl) rfl ?_)))
   obtain ⟨y5,hy5,hF,he3,b5,_,q3,cs7,hp3,hq3,rfl,hc7⟩:=(h.sl 1 rfl).1.ix hF
   refine Ax 4 31 hp3 hq3 ⟨he3.1,qH he3.2.1 (h.sl 1 rfl).2⟩ (h.pick [1] rfl) rfl (Aw 5 63 (fun w' hw=>qif qa (qbD (w1:=w) (S1:=fun _=>False) hw 0 rfl hy5 hp3 hq3 rfl) (j:=0) rfl rfl rfl) (h.pick [1] rfl) rfl ?_)
   refine M0 1023 [6,7,8,9] (h.pick [1] rfl) rfl (Al 10 2047 0 hc1 (h.pick [1] rfl) rfl (M0 8191 [11,12] (h.pick [1] rfl) rfl (Al 13 16383 0 hc2 (h.pick [1] rfl) rfl ?_)))
   obtain ⟨y6,hy6,hF⟩:=qc hF
   obtain ⟨b6,o_6,cs8,rfl,-,hr12,hc8⟩:=PtR.get s14 hy6
   obtain ⟨p18,k14,p19,k15,p20,k16,p21,k17,p22,k18,p23,k19,p24,k20,p25,k21,p26,k22,p27,k23,rfl,s16,s17,s18,s19,s20,s21,s22,s23,s24,s25⟩:=qb7 hr12
   refine M0 65535 [14,15] (h.pick [1] rfl) rfl (Al 16 131071 6 hc8 (h.pick [1] rfl) rfl (M0 262143 [17] (h.pick [1] rfl) rfl ?_))
   obtain ⟨y7,hy7,hF,he4,b7,_,q4,cs9,hp4,hq4,hr13,hc9⟩:=s22.ix hF
   obtain rfl:=qaz hr13
   refine Ae 18 524287 hp4 hq4 he4 (h.pick [1] rfl) rfl (M0 1048575 [19] (h.pick [1] rfl) rfl (Al 20 2097151 0 hc9 (h.pick [1] rfl) rfl ?_))
   obtain ⟨y8,hy8,hF,he5,b8,_,q5,cs10,hp5,hq5,rfl,hc10⟩:=(h.sl 1 rfl).1.ix hF
   refine Ax 21 4194303 hp5 hq5 ⟨he5.1,qH he5.2.1 (h.sl 1 rfl).2⟩ (h.pick [1] rfl) rfl (Aw 22 8388607 (fun w' hw=>qif qa (qbD (w1:=w) (S1:=fun _=>False) hw 0 rfl hy8 hp5 hq5 rfl) (j:=0) rfl rfl rfl) (h.pick [1] rfl) rfl ?_)
   refine M0 33554431 [23,24] (h.pick [1] rfl) rfl ?_
   obtain ⟨y9,hy9,hF,he6,b9,_,q6,cs11,hp6,hq6,rfl,hc11⟩:=(h.sl 1 rfl).1.ix hF
   exact Ax 25 67108863 hp6 hq6 ⟨he6.1,qH he6.2.1 (h.sl 1 rfl).2⟩ (h.pick [1] rfl) rfl (Ao 26 134217727 rfl (qaW qa 1 0 (if 1000000<(W64 (y5+y8)) then 1000000 else (W64 (y5+y8))) h rfl hy9 hp6 hq6 rfl hc11 rfl rfl rfl rfl rfl rfl rfl fun w10 h=>qbm (fun hs=>absurd (hs 26 (by decide)) (by decide)) (Ad (X0 5 rfl (rK ⟨_,_,hF,rfl,h⟩ rfl)))))
  refine qr rfl ?_
  obtain rfl:=qb hF;replace hF:=hK2
  refine X0 5 rfl ?_
  replace h:=h.pick [1] rfl
  exact rK ⟨_,_,hF,rfl,h⟩ rfl
 refine qr rfl ?_
 obtain rfl:=qb hF;replace hF:=hK1
 refine X0 4 rfl ?_
 obtain ⟨y12,hy12,hF,he9,b12,_,q9,cs14,hp9,hq9,rfl,hc15⟩:=(h.sl 0 rfl).1.ix hF
 exact zx hp9 hq9 ⟨he9.1,qH he9.2.1 (h.sl 0 rfl).2⟩ rfl (zc 0 hc15 rfl (X0 2 rfl (ri h hF rfl)))
def qhM (n:Nat) (j:qbA) (node:Int):Option (Int × Int) :=
 (qh5 n j 0 ([node]:List Int)).bind fun o=>match o with
  | (r2,r3) =>
   bif (r3 != 0) then some (0,r3) else
   (qeT n r2 node).bind fun r4 =>
   some (r4,0)
theorem qnK {j:qbA} {node:Int} (ha1:GoT.R w (old w) j cs1) {r:(Int × Int)} (hF:qhM n j node=some r):RetV Tryz.prog 17 [GoT.v qbA cs1,.int .i64 node] w r:=by
 obtain ⟨p1,k1,p2,k2,p3,k3,p4,k4,p5,k5,p6,k6,p7,k7,rfl,s1,s2,s3,s4,s5,s6,s7⟩:=qdj ha1
 refine zV 21 Tryz.func17 rfl fun h=>zSR (qu h rfl rfl fun w1 bb1 h=>X1 7 0 h rfl (qO qa [.tmp 10] _ ([node]:List Int) h rfl rfl rfl rfl rfl rfl rfl rfl rfl ⟨rfl,trivial⟩ rfl fun w2 p8 S1 h=>?_))
 have hg1:Rg (old w) w (old w) w:=.start (fun _ h=>h)
 obtain ⟨r1,hr1,hF⟩:=qc hF
 obtain ⟨r2,r3⟩:=r1
 refine qhV (r2,r3) hg1 h (cB 37 rfl) (qo4 (hg1.regOld h) (hg1.inR h ha1) (Rg.ownR 0 h rfl) hr1) rfl rfl rfl rfl fun w3 us1 B1 hg2 hu1 hz1 hv1=>?_
 have hL1:=h.ext hu1.below
 have hb1:=h.below.trans (hu1.below.mono h.below.size)
 replace h:=hz1
 obtain ⟨cs2,us2,rfl,hr2,hv2⟩:=qkm hv1
 obtain ⟨p9,rfl,s8⟩:=qaB hr2
 obtain ⟨cs3,rfl,hr3⟩:=qj2 hv2
 obtain rfl:=hr3
 refine X0 12 rfl (qg rfl hF ?_ ?_)<;>intro hF
 ·refine X0 6 rfl ?_
  replace h:=h.unbase hg2.below (show NoD [] from trivial)
  obtain rfl:=qb hF
  exact qW qa (ρ:=(Int × Int)) [GoT.v Int [.int .i64 0],GoT.v Int [.int .i64 r3]] h ⟨rfl,rfl,trivial⟩ (PV.done h (qaf h (qy (S:=fun _=>False) rfl) (qY (qy (S:=fun _=>False) rfl)) (by rfl)))
 refine X0 5 rfl (zcI h hF (qlt (h.old (GoT.mono s8 hg2.old))) rfl fun r4 w4 h hF=>X0 3 rfl ?_)
 replace h:=h.unbase hg2.below (show NoD [] from trivial)
 obtain rfl:=qb hF
 exact qW qa (ρ:=(Int × Int)) [GoT.v Int [.int .i64 r4],GoT.v Int [.int .i64 0]] h ⟨rfl,rfl,trivial⟩ (PV.done h (qaf h (qy (S:=fun _=>False) rfl) (qY (qy (S:=fun _=>False) rfl)) (by rfl)))
def qlr (n:Nat) (a:qbA) (left:Int):Option Int :=
 (qjo n (⟨(⟨a.Af.Av.Aq⟩:qp),(⟨a.Af.Ab.Aa,a.Af.Ab.Am,a.Af.Ab.Aj⟩:qd),a.Af.Ac⟩:qf) left).bind fun r1 =>
 bif decide (r1<0) then some (-1) else
 (qiD n (⟨a.Ai.Ba,a.Ai.Au,a.Ai.Ay,a.Ai.As,a.Ai.Az⟩:qt) r1).bind fun r2 =>
 bif decide (r2<0) then some (-1) else
 (qbJ n a.Bg r2).bind fun r3 =>
 bif decide (r3<0) then some (-1) else
 (qkc n a.Bb r3).bind fun r4 =>
 bif decide (r4<0) then some (-1) else
 some r4
theorem qqz {a:qbA} {left:Int} (ha1:GoT.R w (old w) a cs1) {r:Int} (hF:qlr n a left=some r):RetV Tryz.prog 7 [GoT.v qbA cs1,.int .i64 left] w r:=by
 obtain ⟨p1,k1,p2,k2,p3,k3,p4,k4,p5,k5,p6,k6,p7,k7,rfl,s1,s2,s3,s4,s5,s6,s7⟩:=qdj ha1
 refine zV 30 Tryz.func7 rfl fun h=>zSR (qu h rfl rfl fun w1 bb1 h=>X1 7 0 h rfl (zcI h hF (qoT (qeK _ (h.oldS s1) (h.oldS s2) (h.oldS s3) (h.oldS s4) (h.oldS s5))) rfl fun r1 w2 h hF=>X0 8 rfl (qg rfl hF ?_ ?_)))<;>intro hF
 ·exact X0 4 rfl (ri h hF rfl)
 refine X1 6 0 h rfl (zcI h hF (qod (qem _)) rfl fun r2 w3 h hF=>X0 8 rfl (qg rfl hF ?_ ?_))<;>intro hF
 ·exact X0 4 rfl (ri h hF rfl)
 refine X1 6 0 h rfl (zcI h hF (qbq ⟨_,_,rfl,(h.oldS s6)⟩) rfl fun r3 w4 h hF=>X0 8 rfl (qg rfl hF ?_ ?_))<;>intro hF
 ·exact X0 4 rfl (ri h hF rfl)
 refine X1 6 0 h rfl (zcI h hF (qnL ⟨_,_,rfl,(h.oldS s7)⟩) rfl fun r4 w5 h hF=>X0 8 rfl (qg rfl hF ?_ ?_))<;>intro hF
 ·exact X0 4 rfl (ri h hF rfl)
 exact X0 6 rfl (ri h hF rfl)
def qiq (n:Nat) (a:qbA):Option qbA :=
 (qjn n (⟨(⟨a.Af.Av.Aq⟩:qp),(⟨a.Af.Ab.Aa,a.Af.Ab.Am,a.Af.Ab.Aj⟩:qd),a.Af.Ac⟩:qf)).bind fun r1 =>
 (qiJ n (⟨a.Ai.Ba,a.Ai.Au,a.Ai.Ay,a.Ai.As,a.Ai.Az⟩:qt)).bind fun r2 =>
 (qbt n a.Bg).bind fun r3 =>
 (qhK n a.Bb).bind fun r4 =>
 some (⟨r1,(⟨r2.Ba,r2.Au,r2.Ay,r2.As,r2.Az⟩:qt),r3,r4⟩:qbA)
theorem qkJ {a:qbA} (ha1:GoT.R w (old w) a cs1) {r:qbA} (hF:qiq n a=some r):RetV Tryz.prog 9 [GoT.v qbA cs1] w r:=by
 obtain ⟨p1,k1,p2,k2,p3,k3,p4,k4,p5,k5,p6,k6,p7,k7,rfl,s1,s2,s3,s4,s5,s6,s7⟩:=qdj ha1
 refine zV 21 Tryz.func9 rfl fun h=>zSR (qu h rfl rfl fun w1 bb1 h=>qm qa h rfl rfl rfl fun w2 bb2 h=>zNSR (qm qa h rfl rfl rfl fun w3 bb3 h=>X1 5 2 h rfl (zcO h hF (qo7 (qeK _ (h.oldS s1) (h.oldS s2) (h.oldS s3) (h.oldS s4) (h.oldS s5))) rfl fun r1 w4 S1 cs2 h hF=>?_)))
 obtain ⟨p8,k8,p9,k9,p10,k10,p11,k11,p12,k12,rfl,-,-,-,-,-⟩:=qV (h.own 0 rfl)
 refine zp1 rfl (zs 1 h rfl fun w5 h=>X1 5 3 h rfl (zcO h hF (qoj (qem _)) rfl fun r2 w6 S2 cs3 h hF=>?_))
 obtain rfl:=qax (h.own 0 rfl)
 refine zp1 rfl (zs 2 h rfl fun w7 h=>X1 5 4 h rfl (zcL h hF (qbp ⟨_,_,rfl,(h.oldS s6)⟩) rfl fun r3 w8 S3 p13 k13 h hF=>zp1 rfl (zs 3 h rfl fun w9 h=>X1 5 5 h rfl (zcL h hF (qnu ⟨_,_,rfl,(h.oldS s7)⟩) rfl fun r4 w10 S4 p14 k14 h hF=>zp1 rfl (zs 4 h rfl fun w11 h=>X1 4 4 h rfl (zs 5 h rfl fun w12 h=>qcs ?_))))))
 obtain rfl:=qb hF
 exact qW qa (ρ:=qbA) [GoT.v qbA [.slice p8 r1.Av.Aq.length k8,.slice p9 r1.Ab.Aa.length k9,.slice p10 r1.Ab.Am.length k10,.slice p11 r1.Ab.Aj.length k11,.slice p12 r1.Ac.length k12,.string r2.Ba,.int .i64 r2.Au,.int .i64 r2.Ay,.int .i64 r2.As,.int .i64 r2.Az,.slice p13 r3.length k13,.slice p14 r4.length k14]] h ⟨⟨_,_,_,rfl,rfl,h.box 5 rfl,rfl⟩,trivial⟩ (PV.done h (qY (qwB (⟨r1,(⟨r2.Ba,r2.Au,r2.Ay,r2.As,r2.Az⟩:qt),r3,r4⟩:qbA) h (qav 3 h rfl) (qy (S:=fun _=>False) (qem (⟨r2.Ba,r2.Au,r2.Ay,r2.As,r2.Az⟩:qt))) (qav 1 h rfl) (qav 0 h rfl) (by rfl) (by rfl) (by rfl))))
def qlC (n:Nat) (a:qbA) (b:qbA):Option Bool :=
 (qjx n (⟨(⟨a.Af.Av.Aq⟩:qp),(⟨a.Af.Ab.Aa,a.Af.Ab.Am,a.Af.Ab.Aj⟩:qd),a.Af.Ac⟩:qf) (⟨(⟨b.Af.Av.Aq⟩:qp),(⟨b.Af.Ab.Aa,b.Af.Ab.Am,b.Af.Ab.Aj⟩:qd),b.Af.Ac⟩:qf)).bind fun r1 =>
 bif (!r1) then some false else
 (qiv n (⟨a.Ai.Ba,a.Ai.Au,a.Ai.Ay,a.Ai.As,a.Ai.Az⟩:qt) (⟨b.Ai.Ba,b.Ai.Au,b.Ai.Ay,b.Ai.As,b.Ai.Az⟩:qt)).bind fun r2 =>
 bif (!r2) then some false else
 (qbu n a.Bg b.Bg).bind fun r3 =>
 bif (!r3) then some false else
 (qhB n a.Bb b.Bb).bind fun r4 =>
 bif (!r4) then some false else
 some true
theorem qqj {a:qbA} {b:qbA} (ha1:GoT.R w (old w) a cs1) (ha2:GoT.R w (old w) b cs2) {r:Bool} (hF:qlC n a b=some r):RetV Tryz.prog 11 [GoT.v qbA cs1,GoT.v qbA cs2] w r:=by
 obtain ⟨p1,k1,p2,k2,p3,k3,p4,k4,p5,k5,p6,k6,p7,k7,rfl,s1,s2,s3,s4,s5,s6,s7⟩:=qdj ha1
 obtain ⟨p8,k8,p9,k9,p10,k10,p11,k11,p12,k12,p13,k13,p14,k14,rfl,s8,s9,s10,s11,s12,s13,s14⟩:=qdj ha2
 refine zV 29 Tryz.func11 rfl fun h=>zSR (qu h rfl rfl fun w1 bb1 h=>qu h rfl rfl fun w2 bb2 h=>X2 9 1 0 h rfl (zcB h hF (qpk (qeK _ (h.oldS s1) (h.oldS s2) (h.oldS s3) (h.oldS s4) (h.oldS s5)) (qeK _ (h.oldS s8) (h.oldS s9) (h.oldS s10) (h.oldS s11) (h.oldS s12))) rfl fun r1 w3 h hF=>X0 2 rfl (qg rfl hF ?_ ?_)))<;>intro hF
 ·exact X0 4 rfl (rb h hF rfl)
 refine X2 8 1 0 h rfl (zcB h hF (qox (qem _) (qem _)) rfl fun r2 w4 h hF=>X0 2 rfl (qg rfl hF ?_ ?_))<;>intro hF
 ·exact X0 4 rfl (rb h hF rfl)
 refine X2 8 1 0 h rfl (zcB h hF (qbo ⟨_,_,rfl,(h.oldS s6)⟩ ⟨_,_,rfl,(h.oldS s13)⟩) rfl fun r3 w5 h hF=>X0 2 rfl (qg rfl hF ?_ ?_))<;>intro hF
 ·exact X0 4 rfl (rb h hF rfl)
 refine X2 8 1 0 h rfl (zcB h hF (qnM ⟨_,_,rfl,(h.oldS s7)⟩ ⟨_,_,rfl,(h.oldS s14)⟩) rfl fun r4 w6 h hF=>X0 2 rfl (qg rfl hF ?_ ?_))<;>intro hF
 ·exact X0 4 rfl (rb h hF rfl)
 exact X0 5 rfl (rb h hF rfl)
end Go.Fw


namespace Go.Fw
open Go
def qlp (x:qt):Prop:=rngS x.Ba∧rngI x.Au∧rngI x.Ay∧rngI x.As∧rngI x.Az
def qjR (x:qt):Nat:=x.Ba.size
structure qrd (x:qt):Prop where
 Ba:okS x.Ba
 Au:okI x.Au
 Ay:okI x.Ay
 As:okI x.As
 Az:okI x.Az
theorem qsg {x:qt} (h:qlp x) (w:qjR x≤1048576):qrd x:=⟨(by unfold okS;simp only [qjR] at w;omega),h.2.1,h.2.2.1,h.2.2.2.1,h.2.2.2.2⟩
theorem quK {a:qt} (_:qjR a≤1048576):Ev (fun n=>qiv n a a) true:=by
 unfold qiv
 exact Ev.ff qhD (Ev.ff qaL (Ev.ff qaL (Ev.ff qaL (Ev.ff qaL (.done)))))
def qnz (x:qh):Prop:=rngI x.Ap∧rngI x.Bf
structure qrO (x:qh):Prop where
 Ap:okI x.Ap
 Bf:okI x.Bf
theorem qrf {x:qh} (h:qnz x):qrO x:=⟨h.1,h.2⟩
def qiu (x:qe):Prop:=rngI x.Bo∧qnz x.Ah∧qnz x.Bd
structure qog (x:qe):Prop where
 Bo:okI x.Bo
 Ah:qrO x.Ah
 Bd:qrO x.Bd
theorem qsA {x:qe} (h:qiu x):qog x:=⟨h.1,qrf (h.2.1),qrf (h.2.2)⟩
def qhs (a:(List qe)):Nat:=a.length
theorem qrl {a:(List qe)} (h:(rngL qiu) a) (w:qhs a≤1048576):(okL qog) a :=
 ⟨by simp only [qhs] at w;omega,fun x hx=>qsA (h.2 x hx)⟩
def qpv (x:qbA):Prop:=qmR x.Af∧qlp x.Ai∧(rngL rngI) x.Bg∧(rngL qiu) x.Bb
def qlX (x:qbA):Nat:=qhw x.Af+qjR x.Ai+qc9 x.Bg+qhs x.Bb
structure qpH (x:qbA):Prop where
 Af:qli x.Af
 Ai:qrd x.Ai
 Bg:(okL okI) x.Bg
 Bb:(okL qog) x.Bb
theorem quR {x:qbA} (h:qpv x) (w:qlX x≤1048576):qpH x:=⟨qtn (h.1) (by simp only [qlX] at w;omega),qsg (h.2.1) (by simp only [qlX] at w;omega),qdI (h.2.2.1) (by simp only [qlX] at w;omega),qrl (h.2.2.2) (by simp only [qlX] at w;omega)⟩
theorem qtA {a:qh}:Ev (fun n=>qi0 n a a) true:=by
 unfold qi0
 exact Ev.ff qaL (Ev.ff qaL (.done))
theorem quB {a:qe}:Ev (fun n=>qgV n a a) true:=by
 unfold qgV
 exact Ev.ff qaL (Ev.bind (qtA (a:=a.Ah)) (Ev.ff rfl (Ev.bind (qtA (a:=a.Bd)) (Ev.ff rfl (.done)))))
theorem qtr {a:(List qe)} (h:qhs a≤1048576):Ev (fun n=>qhB n a a) true:=by
 have hl:a.length≤1048576:=by simp only [qhs] at h;omega
 unfold qhB
 exact Ev.ff (by simp) (Ev.bind (b:=.nxt (a.length:Int)) (qix (eqf:=qgV) (fun x hx=>quB)
  (fun n=>by simp only [qet,qk (jb _),cond_false])
  (fun n j x hx=>by
   have hj:=(List.getElem?_eq_some_iff.1 hx).1
   simp only [qet,qj hj,cond_true,qaq hx,ja,wS j])) .done)
theorem qxw {a:qbA} (h:qlX a≤1048576):Ev (fun n=>qlC n a a) true:=by
 unfold qlC
 simp only [qlX] at h
 exact Ev.bind (qvJ (a:=a.Af) (by omega)) (Ev.ff rfl (Ev.bind (quK (a:=a.Ai) (by omega)) (Ev.ff rfl (Ev.bind (qfS (a:=a.Bg) (by omega)) (Ev.ff rfl (Ev.bind (qtr (a:=a.Bb) (by omega)) (Ev.ff rfl (.done))))))))
theorem quy {a:qt} {left:Int} (h:qlp a) (h0:0≤left) (h1:left≤1048576):Sz (fun n=>qiD n a left) (fun r=>r=left-(qjR a:Int)):=by
 unfold qiD
 obtain ⟨h_0,h_1,h_2,h_3,h_4⟩:=h
 exact Sz.strStep h_0 (by omega) (by omega) fun p0 q0=>Sz.done p0 (by simp only [qjR];omega)
theorem qs3 {a:(List qe)} {left:Int} (h:(rngL qiu) a) (h0:0≤left) (h1:left≤1048576):Sz (fun n=>qkc n a left) (fun r=>r=left-(qhs a:Int)) :=
 Sz.less h0 h1 (by omega) (by have:=h.1;omega) (fun _=>rfl)
theorem qxo {a:qbA} {left:Int} (h:qpv a) (h0:0≤left) (h1:left≤1048576):Sz (fun n=>qlr n a left) (fun r=>r=left-(qlX a:Int)):=by
 unfold qlr
 obtain ⟨h_0,h_1,h_2,h_3⟩:=h
 exact Sz.step (qu5 (a:=a.Af) h_0 (by omega) (by omega)) fun r0 p0 q0=>Sz.step (quy (a:=a.Ai) h_1 (by omega) (by omega)) fun r1 p1 q1=>Sz.step (qfL (a:=a.Bg) h_2 (by omega) (by omega)) fun r2 p2 q2=>Sz.step (qs3 (a:=a.Bb) h_3 (by omega) (by omega)) fun r3 p3 q3=>Sz.done p3 (by simp only [qlX];omega)
theorem qtZ {a:qt} (_:qjR a≤1048576):Ev (fun n=>qiJ n a) a:=by
 unfold qiJ
 exact .done
theorem qtB {a:qh}:Ev (fun n=>qi7 n a) a:=by
 unfold qi7
 exact .done
theorem quE {a:qe}:Ev (fun n=>qgT n a) a:=by
 unfold qgT
 exact Ev.bind (qtB (a:=a.Ah)) (Ev.bind (qtB (a:=a.Bd)) (.done))
theorem qtv {a:(List qe)} (h:qhs a≤1048576):Ev (fun n=>qhK n a) a:=by
 have hl:a.length≤1048576:=by simp only [qhs] at h;omega
 unfold qhK
 exact Ev.bindN (qhx (by omega)) (Ev.bind (b:=(a,(a.length:Int))) (qiB (cp:=qgT) (fun x hx=>quE)
  (fun acc n=>by simp only [qez,qk (jb _),cond_false])
  (fun acc n j x y hx hy=>by
   have hj:=(List.getElem?_eq_some_iff.1 hx).1
   simp only [qez,qj hj,cond_true,qaq hx,qaq hy,ja,wS j])) .done)
theorem qtu {a:qbA} (h:qlX a≤1048576):Ev (fun n=>qiq n a) a:=by
 unfold qiq
 simp only [qlX] at h
 exact Ev.bind (qvY (a:=a.Af) (by omega)) (Ev.bind (qtZ (a:=a.Ai) (by omega)) (Ev.bind (qfN (a:=a.Bg) (by omega)) (Ev.bind (qtv (a:=a.Bb) (by omega)) (.done))))
end Go.Fw


namespace Go.Fw
open Go
set_option maxRecDepth 100000
abbrev lkB (b:qf):Nat:=(linksL b).length
abbrev ndB (b:qf):Nat:=2*(places b.Ab).length
abbrev lvJ (b:qf) (br:List Int):List Bool:=lvB br (lkB b)
def grB (b:qf) (br:List Int):Option Tgraph:=some ⟨some (viewV b),lvJ b br⟩
structure TgOk (b:qf) (c:qt) (br:List Int) (xs:List qe) (R:List Nat):Prop where
 bl:blockB b=true
 co:cornerB c=true
 br_:brB br (lkB b)=true
 sr:srcB xs (ndB b)=true
 or_:ordL (linksL b) (lvJ b br) (ndB b) (ndB b) []=some R
theorem TgOk.ord {b:qf} {c:qt} {br:List Int} {xs:List qe} {R:List Nat} (h:TgOk b c br xs R):OrdOk (lkB b) (frL (linksL b)) (toL (linksL b)) (lvL (lvJ b br)) (ndB b) R :=
 qwc (ndB b) [] R (fun l1 k l2 e=>by cases l1<;>cases e) h.or_
theorem TgOk.len {b:qf} {c:qt} {br:List Int} {xs:List qe} {R:List Nat} (h:TgOk b c br xs R):R.length=ndB b:=by
 have:=qvK (ndB b) [] R h.or_
 simpa using this
theorem qlN {x:Int} (h:x ≠ 0):(x != 0)=true:=by simpa using h
theorem qxU {b:qf} {c:qt} {br:List Int} {xs:List qe} (hb:qli b) (hc:okS c.Ba) (hbl:br.length≤1048576) (hxl:xs.length≤1048576) :
  (∃ code:Int,code ≠ 0∧Ev (fun n=>qh9 n b c br xs) ([],code)∧Ev (fun n=>qe8 n b c br xs none) (none,[],code)) ∨
  ∃ R,TgOk b c br xs R∧Ev (fun n=>qh9 n b c br xs) (ints R,0)∧Ev (fun n=>qe8 n b c br xs none) (grB b br,ints R,0):=by
 have s1:=qoN hb
 have i1:=qsX hb
 have s2:=qrB (c:=c) hc
 have i2:=qr8 (c:=c) hc
 unfold qh9 qe8
 cases h1:blockB b
 ·rw [h1] at s1 i1
  exact .inl ⟨1,by omega,Ev.bind (b:=true) (Ev.bind s1 (Ev.tt rfl .done)) (Ev.tt rfl .done),Ev.bind (b:=true) (Ev.bind i1 (Ev.tt rfl .done)) (Ev.tt rfl .done)⟩
 cases h2:cornerB c
 ·rw [h1] at s1 i1
  rw [h2] at s2 i2
  exact .inl ⟨1,by omega,Ev.bind (b:=true) (Ev.bind s1 (Ev.ff rfl (Ev.bind s2 .done))) (Ev.tt rfl .done),Ev.bind (b:=true) (Ev.bind i1 (Ev.ff rfl (Ev.bind i2 .done))) (Ev.tt rfl .done)⟩
 have hpl:=qbl (qaa (qat h1))
 have hll:=qj7 h1
 have hk:=qkQ h1
 have s3:=qs0 (br:=br) hb h1 hbl
 have i3:=qsG (v:=viewV b) (br:=br) hbl hll
 have s4:=qqo (xs:=xs) h1 hxl
 have i4:=qqx (v:=viewV b) (xs:=xs) hpl hxl
 have ev:(viewV b).links=linksL b:=rfl
 have ep:(viewV b).places=places b.Ab:=rfl
 rw [ev] at i3
 rw [ep] at i4
 rw [h1] at s1 i1
 rw [h2] at s2 i2
 have sA:Ev (fun n=>(qgv n b).bind fun r6=>bif (!r6) then some true else (qg3 n c).bind fun r7=>some (!r7)) false:=Ev.bind s1 (Ev.ff rfl (Ev.bind s2 .done))
 have iA:Ev (fun n=>(qhX n b).bind fun r6=>bif (!r6) then some true else (qg0 n c).bind fun r7=>some (!r7)) false:=Ev.bind i1 (Ev.ff rfl (Ev.bind i2 .done))
 have nv:=qtx h1
 cases h3:brB br (lkB b)
 ·rw [h3] at s3 i3
  exact .inl ⟨2,by omega,Ev.bind sA (Ev.ff rfl (Ev.bind (b:=true) (Ev.bind s3 (Ev.tt rfl .done)) (Ev.tt rfl .done))),
   Ev.bind iA (Ev.ff rfl (Ev.bind nv (Ev.bind (b:=false) (Ev.ff rfl .done) (Ev.ff rfl (Ev.bind (b:=true) (Ev.bind i3 (Ev.tt rfl .done)) (Ev.tt rfl .done))))))⟩
 cases h4:srcB xs (ndB b)
 ·rw [h3] at s3 i3
  rw [h4] at s4 i4
  exact .inl ⟨2,by omega,Ev.bind sA (Ev.ff rfl (Ev.bind (b:=true) (Ev.bind s3 (Ev.ff rfl (Ev.bind s4 .done))) (Ev.tt rfl .done))),
   Ev.bind iA (Ev.ff rfl (Ev.bind nv (Ev.bind (b:=false) (Ev.ff rfl .done) (Ev.ff rfl (Ev.bind (b:=true) (Ev.bind i3 (Ev.ff rfl (Ev.bind i4 .done))) (Ev.tt rfl .done))))))⟩
 have i5:=qtt (v:=viewV b) (br:=br) hll h3
 rw [ev] at i5
 have s5:=qnq (ls:=linksL b) (br:=br) hll hbl
 have hlv:(lvJ b br).length=lkB b:=qrK
 have s6:=qq2 (lv:=lvJ b br) hk hlv
 have i6:=qtS (b:=b) (ps:=places b.Ab) (lo:=pre (load0 b) b.Ac.length) (de:=pre (exactL b) b.Ac.length) (ex:=[]) (lv:=lvJ b br) hk hlv rfl
 rw [h3] at s3 i3
 rw [h4] at s4 i4
 have sB:Ev (fun n=>(qgw n b br).bind fun r4=>bif (r4 != 0) then some true else (qfy n b xs).bind fun r5=>some (!r5)) false:=Ev.bind s3 (Ev.ff rfl (Ev.bind s4 .done))
 have iB:Ev (fun n=>(qd4 n (some (viewV b)) br).bind fun r6=>bif (!r6) then some true else (qdb n (some (viewV b)) xs).bind fun r7=>some (!r7)) false:=Ev.bind i3 (Ev.ff rfl (Ev.bind i4 .done))
 have sT:∀ r:List Int × Int,Ev (fun n=>(qfP n (ndB b:Int) (linksL b) (lvJ b br)).bind fun o=>match o with|(r6,r7)=>bif (!r7) then some (([]:List Int),(7:Int)) else some (r6,0)) r→Ev (fun n=>qd7 n b br) r:=fun r hr=>by
  unfold qd7
  exact Ev.bind s3 (Ev.ff rfl (Ev.bind (qi6 h1) (Ev.bind (qiV h1) (Ev.bind s5 hr))))
 cases ho:ordL (linksL b) (lvJ b br) (ndB b) (ndB b) [] with
 | none =>
  have e:ordR (linksL b) (lvJ b br) (ndB b)=([],false):=by unfold ordR;rw [ho]
  rw [e] at s6 i6
  exact .inl ⟨7,by omega,Ev.bind sA (Ev.ff rfl (Ev.bind sB (Ev.ff rfl (Ev.bind (sT ([],7) (Ev.bind s6 (Ev.tt rfl .done))) .done)))),
   Ev.bind iA (Ev.ff rfl (Ev.bind nv (Ev.bind (b:=false) (Ev.ff rfl .done) (Ev.ff rfl (Ev.bind iB (Ev.ff rfl (Ev.bind i5 (Ev.bind i6 (Ev.tt rfl .done)))))))))⟩
 | some R =>
  have e:ordR (linksL b) (lvJ b br) (ndB b)=(ints R,true):=by unfold ordR;rw [ho]
  rw [e] at s6 i6
  exact .inr ⟨R,⟨h1,h2,h3,h4,ho⟩,Ev.bind sA (Ev.ff rfl (Ev.bind sB (Ev.ff rfl (Ev.bind (sT (ints R,0) (Ev.bind s6 (Ev.ff rfl .done))) .done)))),
   Ev.bind iA (Ev.ff rfl (Ev.bind nv (Ev.bind (b:=false) (Ev.ff rfl .done) (Ev.ff rfl (Ev.bind iB (Ev.ff rfl (Ev.bind i5 (Ev.bind i6 (Ev.ff rfl .done)))))))))⟩
structure WkOk (j:qbA) (t:qx) (R:List Nat):Prop where
 tg:TgOk j.Af j.Ai j.Bg j.Bb R
 tm:TmOk t (ndB j.Af)
def wkV (j:qbA) (t:qx) (R:List Nat):Option Twork:=some ⟨grB j.Af j.Bg,j,t,ints R⟩
theorem qwi {j:qbA} (h:qpH j) :
  (∃ code:Int,code ≠ 0∧Ev (fun n=>qc6 n j.Af j.Ai j.Bg j.Bb) (zT,code)∧Ev (fun n=>qi1 n j) (none,code)) ∨
  ∃ t R,WkOk j t R∧Ev (fun n=>qc6 n j.Af j.Ai j.Bg j.Bb) (t,0)∧Ev (fun n=>qi1 n j) (wkV j t R,0):=by
 have hbl:=h.Bg.len
 have hxl:=h.Bb.len
 unfold qc6 qi1
 rcases qxU h.Af h.Ai.Ba hbl hxl with ⟨code,hne,hs,hi⟩|⟨R,hg,hs,hi⟩
 ·exact .inl ⟨code,hne,Ev.bind hs (Ev.tt (qlN hne) .done),Ev.bind hi (Ev.tt (qlN hne) .done)⟩
 ·have h1:=hg.bl
  have hll:=qj7 h1
  have s5:=qnq (ls:=linksL j.Af) (br:=j.Bg) hll hbl
  obtain ⟨f,hf⟩:=qvx h1 hg.co
  have hpl:=qbl (qaa (qat h1))
  have hRl:=hg.len
  obtain ⟨o,o1,o2,o3⟩:=qxJ (lv:=lvJ j.Af j.Bg) (R:=R) h1 hf qrK (qwv hxl hg.sr) (fun i hi=>⟨(hg.ord.at hi).1,(hg.ord.at hi).2.1⟩) (by show R.length≤1000;rw [hRl];show 2*(places j.Af.Ab).length≤1000;omega)
  cases o with
  | none=>exact .inl ⟨3,by omega,Ev.bind hs (Ev.ff rfl (Ev.bind (qi6 h1) (Ev.bind s5 (Ev.bind o2 (Ev.tt rfl .done))))),Ev.bind hi (Ev.ff rfl (Ev.bind o3 (Ev.tt rfl .done)))⟩
  | some t=>exact .inr ⟨t,R,⟨hg,o1 t rfl⟩,Ev.bind hs (Ev.ff rfl (Ev.bind (qi6 h1) (Ev.bind s5 (Ev.bind o2 (Ev.ff rfl .done))))),Ev.bind hi (Ev.ff rfl (Ev.bind o3 (Ev.ff rfl .done)))⟩
end Go.Fw


namespace Go.Fw
open Go
set_option maxRecDepth 100000
def swV (j:qbA) (t:qx):Option Tl20Work:=some ⟨j,linksL j.Af,lvJ j.Af j.Bg,t⟩
theorem qwG {j:qbA} (h:qpH j) :
  (∃ code:Int,code ≠ 0∧Ev (fun n=>qhR n j) (none,code)∧∀ mode nodes,Ev (fun n=>qh5 n j mode nodes) (none,code)) ∨
  ∃ t R,WkOk j t R∧Ev (fun n=>qhR n j) (swV j t,0)∧∀ mode nodes,nodes.length≤1048576→(mode=0∨mode=1) →
   Ev (fun n=>qh5 n j mode nodes) (bif nodes.all (fun x=>inI x 0 ((ndB j.Af:Int)-1)) then (wkV j t R,0) else (none,4)):=by
 have hbl:=h.Bg.len
 unfold qhR qh5
 rcases qwi h with ⟨code,hne,hs,hi⟩|⟨t,R,hw,hs,hi⟩
 ·exact .inl ⟨code,hne,Ev.bind hs (Ev.tt (qlN hne) .done),fun mode nodes=>Ev.bind hi (Ev.tt (qlN hne) .done)⟩
 ·have h1:=hw.tg.bl
  have hll:=qj7 h1
  have hpl:=qbl (qaa (qat h1))
  have s5:=qnq (ls:=linksL j.Af) (br:=j.Bg) hll hbl
  refine .inr ⟨t,R,hw,Ev.bind hs (Ev.ff rfl (Ev.bind (qi6 h1) (Ev.bind s5 .done))),fun mode nodes hn hm=>Ev.bind hi (Ev.ff rfl ?_)⟩
  have hnd:=qny (v:=viewV j.Af) hpl
  have e1:W64 (((2*(viewV j.Af).places.length:Nat):Int)-1)=(ndB j.Af:Int)-1:=by
   show W64 (((2*(places j.Af.Ab).length:Nat):Int)-1)=_
   rw [qas (by omega) (by omega)]
  unfold wkV grB
  simp only [ja,hnd,e1]
  refine Ev.bind (qer hn) ?_
  cases nodes.all fun x=>inI x 0 ((ndB j.Af:Int)-1)
  ·exact Ev.tt rfl .done
  ·refine Ev.ff rfl ?_
   rcases hm with rfl|rfl<;>exact Ev.bind (b:=true) (Ev.now rfl) (Ev.ff rfl .done)
theorem qrk {j:qbA} {t:qx} {node:Int} (hl:j.Bb.length≤1048576):Ev (fun n=>qhH n (swV j t) node) ((srcV (srcO j.Bb node)).2,(srcV (srcO j.Bb node)).1):=by
 have h1:Ev (fun n=>qct (swV j t) node n 0) (match srcO j.Bb node with|some y=>.ret (y,true)|none=>.nxt (j.Bb.length:Int)):=by
  have main:∀ d i,i+d=j.Bb.length→(j.Bb.take i).find? (fun s=>s.Bo==node)=none→Ev (fun n=>qct (swV j t) node n (i:Int)) (match srcO j.Bb node with|some y=>.ret (y,true)|none=>.nxt (j.Bb.length:Int)):=by
   intro d
   induction d with
   | zero =>
    intro i hi hn
    obtain rfl:i=j.Bb.length:=by omega
    rw [jB] at hn
    unfold srcO
    rw [hn]
    refine Ev.succ ?_
    simp only [qct,swV,ja,qk (jb _),cond_false]
    exact .done
   | succ d ih =>
    intro i hi hn
    have hil:i<j.Bb.length:=by omega
    refine Ev.succ ?_
    simp only [qct,swV,ja,qj hil,cond_true,qz hil,wS i]
    cases hq:(gt j.Bb i).Bo==node
    ·refine ih (i+1) (by omega) ?_
     rw [js hil,List.find?_append,hn,←qeu hil,List.find?_cons_of_neg (by simp [hq])]
     rfl
    ·have hd:j.Bb.drop i=gt j.Bb i::j.Bb.drop (i+1):=by rw [qeu hil];exact jL hil
     have:srcO j.Bb node=some (gt j.Bb i):=by
      generalize gt j.Bb i=y at hq hd
      unfold srcO
      rw [←List.take_append_drop i j.Bb,List.find?_append,hn,hd,List.find?_cons_of_pos (by simpa using hq)]
      rfl
     rw [this]
     exact .done
  exact main j.Bb.length 0 (by omega) rfl
 unfold qhH
 refine Ev.bind h1 ?_
 cases srcO j.Bb node<;>exact .done
def atP (ls:List qq) (start:Int) (path:List Int):Nat→Int
 | 0=>start
 | j+1=>(gt ls (at0 path j).toNat).To
def okP (ls:List qq) (lv:List Bool) (start:Int) (path:List Int) (j:Nat):Bool :=
 inI (at0 path j) 0 ((ls.length:Int)-1)&&(gt lv (at0 path j).toNat&&((gt ls (at0 path j).toNat).Bk==atP ls start path j))
theorem inRange {x:Int} {m:Nat} (h:inI x 0 ((m:Int)-1)=true):0≤x∧x<(m:Int)∧x.toNat<m:=by rw [qaX] at h;omega
def mn6 (x:Int):Int:=if x<1000000 then x else 1000000
theorem qxm {x:Int}:(if 1000000<x then 1000000 else x)=mn6 x:=by unfold mn6;split<;>split<;>omega
def ctS (ls:List qq) (lv:List Bool) (c:List Int) (node:Int) (v0:Int) (j:Nat):Int:=(selN (toQ ls lv node) j).foldl (fun v k=>mn6 (W64 (v+gt c (frN ls k)))) v0
theorem qu9 {ls:List qq} {lv:List Bool} {c:List Int} {node v0:Int} {j:Nat}:ctS ls lv c node v0 (j+1)=bif toQ ls lv node j then mn6 (W64 (ctS ls lv c node v0 j+gt c (frN ls j))) else ctS ls lv c node v0 j:=by
 unfold ctS
 rw [qlg,List.foldl_append]
 cases toQ ls lv node j<;>rfl
theorem qtw {α:Type} {xs:List α} {k:Nat} {u v:α}:setS (setS xs (k:Int) u) (k:Int) v=setS xs (k:Int) v:=by
 unfold setS;rw [List.set_set]
theorem quA {j:qbA} {t:qx} {R:List Nat} (h:qpH j) (hw:WkOk j t R) {node:Nat} (hn:node<ndB j.Af):∃ x:Int,Ev (fun n=>(qgb n (swV j t)).bind fun r4=>(idx r4 (node:Int)).bind fun y1=>some (y1,(0:Int))) (x,0)∧Ev (fun n=>qeT n (wkV j t R) (node:Int)) x:=by
 have h1:=hw.tg.bl
 have hxl:=h.Bb.len
 have hk:=qkQ h1
 have hll:=hk.len
 have hlv:(lvJ j.Af j.Bg).length=lkB j.Af:=qrK
 have hpl:=qbl (qaa (qat h1))
 have hcn:=qiV h1
 have hnd:=qny (v:=viewV j.Af) hpl
 have epl:(viewV j.Af).places.length=(places j.Af.Ab).length:=rfl
 rw [epl] at hnd
 have hRl:=hw.tg.len
 have hord:=qq2 (lv:=lvJ j.Af j.Bg) hk hlv
 have eo:ordR (linksL j.Af) (lvJ j.Af j.Bg) (2*(places j.Af.Ab).length)=(ints R,true):=by unfold ordR;rw [show ordL (linksL j.Af) (lvJ j.Af j.Bg) (2*(places j.Af.Ab).length) (2*(places j.Af.Ab).length) []=some R from hw.tg.or_]
 rw [eo] at hord
 have eM:ndB j.Af=2*(places j.Af.Ab).length:=rfl
 generalize hM0:ndB j.Af=M at hn hRl eM
 rw [←eM] at hcn hnd hord
 have hM:M≤156:=by omega
 have main:∀ d i c,i+d=R.length→c.length=M→(∀ k,k<M→k ∉ R.take i→gt c k=0)→∃ c':List Int,c'.length=M ∧
   Ev (fun n=>qcx (swV j t) ⟨j,linksL j.Af,lvJ j.Af j.Bg,t⟩ (ints R) n c (i:Int)) (c',(R.length:Int)) ∧
   Ev (fun n=>qbj ⟨grB j.Af j.Bg,j,t,ints R⟩ ⟨some (viewV j.Af),lvJ j.Af j.Bg⟩ n c (i:Int)) (c',(R.length:Int)):=by
  intro d
  induction d with
  | zero =>
   intro i c hi hc _
   obtain rfl:i=R.length:=by omega
   refine ⟨c,hc,Ev.succ ?_,Ev.succ ?_⟩
   ·simp only [qcx,qbQ,qk (jb _),cond_false];exact .done
   ·simp only [qbj,qbQ,qk (jb _),cond_false];exact .done
  | succ d ih =>
   intro i c hi hc hz
   have hil:i<R.length:=by omega
   obtain ⟨k1,k2,k3⟩:=hw.tg.ord.at hil
   rw [hM0] at k1
   have hix:=qmL hil
   have htk:R.take (i+1)=R.take i++[R[i]]:=js hil
   generalize R[i]=k at k1 k2 k3 hix htk
   have hS:=qrk (j:=j) (t:=t) (node:=(k:Int)) hxl
   have hI:=qr4 (xs:=j.Bb) (node:=(k:Int)) hxl
   have hz0:=hz k k1 k2
   have hkc:k<c.length:=by omega
   obtain ⟨v0,hv0⟩:∃ v0:Int,v0=bif (srcV (srcO j.Bb (k:Int))).1 then 1 else 0:=⟨_,rfl⟩
   have sL:Ev (fun n=>qbX ⟨j,linksL j.Af,lvJ j.Af j.Bg,t⟩ c (k:Int) n v0 0) (ctS (linksL j.Af) (lvJ j.Af j.Bg) c (k:Int) v0 (lkB j.Af),(lkB j.Af:Int)):=by
    have:=loopF (Lf:=fun n s x=>qbX ⟨j,linksL j.Af,lvJ j.Af j.Bg,t⟩ c (k:Int) n s x) (S:=ctS (linksL j.Af) (lvJ j.Af j.Bg) c (k:Int) v0) (len:=lkB j.Af) (fin:=(ctS (linksL j.Af) (lvJ j.Af j.Bg) c (k:Int) v0 (lkB j.Af),(lkB j.Af:Int)))
     (fun n=>by simp only [qbX,qk (jb _),cond_false])
     (fun x hx X hX=>by
      obtain ⟨e1,e2⟩:=qob hk hx
      rw [←eM] at e2
      rw [qu9] at hX
      have hxl':x<(linksL j.Af).length:=hx
      simp only [qbX,qj hxl',cond_true,qz hxl',qz (show x<(lvJ j.Af j.Bg).length by rw [hlv];exact hx),ja,e1,qz (show frN (linksL j.Af) x<c.length by omega),wS x]
      unfold toQ lvL toL at hX
      cases hv:gt (lvJ j.Af j.Bg) x
      ·rw [hv] at hX;exact hX
      ·rw [hv] at hX
       cases ht:(gt (linksL j.Af) x).To==(k:Int)
       ·rw [ht] at hX;exact hX
       ·rw [ht] at hX;exact hX)
    exact this
   have nz:∀ x,x ∈ selN (toQ (linksL j.Af) (lvJ j.Af j.Bg) (k:Int)) (lkB j.Af)→x<lkB j.Af∧frN (linksL j.Af) x ≠ k:=fun x hx=>by
    obtain ⟨x1,x2⟩:=qme.1 hx
    unfold toQ at x2
    rw [jc,beq_iff_eq] at x2
    have:=qpP.1 k3 x x1 x2.1 x2.2
    obtain ⟨e1,_⟩:=qob hk x1
    rw [show frL (linksL j.Af) x=(frN (linksL j.Af) x:Int) from e1,qk7] at this
    exact ⟨x1,fun e=>k2 (by rw [←e];exact this)⟩
   have pL:Ev (fun n=>qbg ⟨some (viewV j.Af),lvJ j.Af j.Bg⟩ (k:Int) (ints (selN (toQ (linksL j.Af) (lvJ j.Af j.Bg) (k:Int)) (lkB j.Af))) n (setS c (k:Int) v0) 0) (setS c (k:Int) (ctS (linksL j.Af) (lvJ j.Af j.Bg) c (k:Int) v0 (lkB j.Af)),((ints (selN (toQ (linksL j.Af) (lvJ j.Af j.Bg) (k:Int)) (lkB j.Af))).length:Int)):=by
    have hsl:(selN (toQ (linksL j.Af) (lvJ j.Af j.Bg) (k:Int)) (lkB j.Af)).length≤10000:=Nat.le_trans qmn hll
    have:=(qqT (τ:=Int) (xs:=selN (toQ (linksL j.Af) (lvJ j.Af j.Bg) (k:Int)) (lkB j.Af)) (Lf:=fun n v x=>qbg ⟨some (viewV j.Af),lvJ j.Af j.Bg⟩ (k:Int) (ints (selN (toQ (linksL j.Af) (lvJ j.Af j.Bg) (k:Int)) (lkB j.Af))) n (setS c (k:Int) v) x)
     (step:=fun v x=>mn6 (W64 (v+gt c (frN (linksL j.Af) x)))) (fin:=fun v=>(setS c (k:Int) v,((ints (selN (toQ (linksL j.Af) (lvJ j.Af j.Bg) (k:Int)) (lkB j.Af))).length:Int))) v0 (fun _ _=>True) trivial (fun _ _ _ _=>trivial)
     (fun n v=>by simp only [qbg,qbQ,qk (jb _),cond_false])
     (fun x v hx _ X hX=>by
      have hxi:=qmL hx
      obtain ⟨x1,x2⟩:=nz _ (jo hx)
      generalize (selN (toQ (linksL j.Af) (lvJ j.Af j.Bg) (k:Int)) (lkB j.Af))[x]=y at hxi x1 x2 hX
      obtain ⟨e1,e2⟩:=qob hk x1
      rw [←eM] at e2
      have ev:(viewV j.Af).links=linksL j.Af:=rfl
      have i1:idx (setS c (k:Int) v) (k:Int)=some v:=by rw [qz (by rw [qeH];exact hkc),qlF hkc,if_pos rfl]
      have i2:idx (setS c (k:Int) v) (frN (linksL j.Af) y:Int)=some (gt c (frN (linksL j.Af) y)):=by rw [qz (by rw [qeH];omega),qlF hkc,if_neg x2]
      simp only [qbg,qbQ,qj hx,cond_true,hxi,ja,ev,qz x1,e1,i1,i2,qxm,qtw,wS x]
      exact hX)).1
    exact this
   have sR:∃ c':List Int,c'.length=M∧Ev (fun n=>qcx (swV j t) ⟨j,linksL j.Af,lvJ j.Af j.Bg,t⟩ (ints R) n (setS c (k:Int) (ctS (linksL j.Af) (lvJ j.Af j.Bg) c (k:Int) v0 (lkB j.Af))) ((i+1:Nat):Int)) (c',(R.length:Int)) ∧
     Ev (fun n=>qbj ⟨grB j.Af j.Bg,j,t,ints R⟩ ⟨some (viewV j.Af),lvJ j.Af j.Bg⟩ n (setS c (k:Int) (ctS (linksL j.Af) (lvJ j.Af j.Bg) c (k:Int) v0 (lkB j.Af))) ((i+1:Nat):Int)) (c',(R.length:Int)) :=
    ih (i+1) _ (by omega) (by rw [qeH];exact hc) (fun y hy hny=>by
     rw [htk] at hny
     have hne:y ≠ k:=fun e=>hny (List.mem_append_right _ (List.mem_singleton.2 e))
     rw [qlF hkc,if_neg hne]
     exact hz y hy fun hm=>hny (jO _ hm))
   obtain ⟨c',l',s',p'⟩:=sR
   have ic:idx c (k:Int)=some 0:=by rw [qz hkc,hz0]
   refine ⟨c',l',Ev.succ ?_,Ev.succ ?_⟩
   ·simp only [qcx,qbQ,qj hil,cond_true,hix,ja,ic,wS i]
    refine Ev.bind hS (Ev.bind (b:=v0) (Ev.now ?_) (Ev.bind sL s'))
    rw [hv0]
    cases (srcV (srcO j.Bb (k:Int))).1<;>rfl
   ·simp only [qbj,qbQ,qj hil,cond_true,hix,ja,ic,wS i]
    refine Ev.bind hI (Ev.bind (b:=setS c (k:Int) v0) (Ev.now ?_) ?_)
    ·rw [hv0]
     cases (srcV (srcO j.Bb (k:Int))).1
     ·simp only [cond_false]
      rw [qmQ hkc hz0]
     ·rfl
    ·refine Ev.bind (qxb (b:=j.Af) (lv:=lvJ j.Af j.Bg) (ps:=places j.Af.Ab) (lo:=pre (load0 j.Af) j.Af.Ac.length) (de:=pre (exactL j.Af) j.Af.Ac.length) (ex:=[]) hk hlv) (Ev.bind pL p')
 have hmk:mkS (M:Int) (0:Int)=some (List.replicate M 0):=qn1 (by omega)
 obtain ⟨c',l',s',p'⟩:=main R.length 0 (List.replicate M 0) (by omega) jC (fun k hk _=>by rw [qeu (by rw [jC];exact hk)];simp)
 refine ⟨gt c' node,?_,?_⟩
 ·have:Ev (fun n=>qgb n (swV j t)) c':=by
   unfold qgb
   show Ev (fun n=>(qck n j.Af).bind _) _
   refine Ev.bind hcn ?_
   rw [hmk]
   simp only [ja]
   exact Ev.bind hcn (Ev.bind hord (Ev.bind s' .done))
  refine Ev.bind this ?_
  rw [qz (by omega)]
  exact .done
 ·unfold qeT wkV grB
  simp only [hnd,ja,hmk]
  refine Ev.bind p' ?_
  show Ev (fun n=>(idx c' (node:Int)).bind _) _
  rw [qz (by omega)]
  exact .done
theorem qrA {j:qbA} {node:Int} (h:qpH j):∃ R:Int × Int,Ev (fun n=>qh8 n j node) R∧Ev (fun n=>qhM n j node) R:=by
 unfold qh8 qhM qii
 rcases qwG h with ⟨code,hne,hs,hi⟩|⟨t,R,hw,hs,hi⟩
 ·exact ⟨(0,code),Ev.bind (b:=(none,code)) (Ev.bind hs (Ev.tt (qlN hne) .done)) (Ev.tt (qlN hne) .done),Ev.bind (hi 0 [node]) (Ev.tt (qlN hne) .done)⟩
 ·have h1:=hw.tg.bl
  have hpl:=qbl (qaa (qat h1))
  have hI:=hi 0 [node] (by simp) (.inl rfl)
  have hcn:=qiV h1
  have e1:∀ n,qai n node 0 (W64 (((2*(places j.Af.Ab).length:Nat):Int)-1))=some (inI node 0 ((ndB j.Af:Int)-1)):=fun n=>by rw [qcw,qas (by omega) (by omega)]
  have e2:([node].all fun x=>inI x 0 ((ndB j.Af:Int)-1))=inI node 0 ((ndB j.Af:Int)-1):=by simp
  rw [e2] at hI
  cases hr:inI node 0 ((ndB j.Af:Int)-1)
  ·rw [hr] at hI
   refine ⟨(0,4),Ev.bind (b:=(none,4)) (Ev.bind hs (Ev.ff rfl (Ev.bind hcn ?_))) (Ev.tt rfl .done),Ev.bind hI (Ev.tt rfl .done)⟩
   simp only [e1,hr]
   exact .done
  ·rw [hr] at hI
   obtain ⟨r0,r1,r2⟩:=inRange hr
   obtain ⟨x,x1,x2⟩:=quA h hw (node:=node.toNat) r2
   rw [←qfU r0] at x1 x2
   refine ⟨(x,0),Ev.bind (b:=(swV j t,0)) (Ev.bind hs (Ev.ff rfl (Ev.bind hcn ?_))) (Ev.ff rfl x1),Ev.bind hI (Ev.ff rfl (Ev.bind x2 .done))⟩
   simp only [e1,hr]
   exact .done
end Go.Fw


namespace Go.Fw
open Go Go.Proofs
open Go.RowKit (Below)
set_option maxRecDepth 100000
set_option maxHeartbeats 1600000
variable {n:Nat} {w:World} {cs1 cs2 cs3 cs4 cs5 cs6 cs7 cs8 cs9:List Value}
def qfW (n:Nat) (aJ:qbA) (aNode:Int):Option Bool :=
 (qlr n aJ 1048576).bind fun r1 =>
 bif decide (r1<0) then some true else
 (qiq n aJ).bind fun r2 =>
 (qh8 n r2 aNode).bind fun o=>match o with
  | (r4,r5) =>
   (qiq n aJ).bind fun r6 =>
   (qhM n r6 aNode).bind fun o=>match o with
    | (r8,r9) =>
     (
      bif (r8 != r4) then some true else
      some (r9 != r5)).bind fun b1 =>
     bif b1 then some false else
     (qiq n aJ).bind fun r10 =>
     (qlC n r6 r10).bind fun r11 =>
     bif (!r11) then some false else
     some true
theorem qkO {aJ:qbA} {aNode:Int} (ha1:GoT.R w (old w) aJ cs1) {r:Bool} (hF:qfW n aJ aNode=some r):RetV Tryz.prog 5 [GoT.v qbA cs1,.int .i64 aNode] w r:=by
 obtain ⟨p1,k1,p2,k2,p3,k3,p4,k4,p5,k5,p6,k6,p7,k7,rfl,s1,s2,s3,s4,s5,s6,s7⟩:=qdj ha1
 refine zV 44 Tryz.func5 rfl fun h=>zSR (qu h rfl rfl fun w1 bb1 h=>X1 10 0 h rfl (zcI h hF (qqz (h.old ha1)) rfl fun r1 w2 h hF=>X0 8 rfl (qg rfl hF ?_ ?_)))<;>intro hF
 ·exact X0 4 rfl (rb h hF rfl)
 refine X1 4 0 h rfl (zcO h hF (qkJ (h.old ha1)) rfl fun r2 w3 S1 cs2 h hF=>?_)
 obtain ⟨p8,k8,p9,k9,p10,k10,p11,k11,p12,k12,p13,k13,p14,k14,rfl,-,-,-,-,-,-,-⟩:=qdj (h.own 0 rfl)
 refine zp1 rfl ?_
 obtain ⟨r3,hr3,hF⟩:=qc hF
 obtain ⟨r4,r5⟩:=r3
 refine qbh (r4,r5) h (cB 16 rfl) (qn5 (h.own 0 rfl) hr3) rfl rfl rfl rfl fun w4 S2 us1 hv1 hr4=>?_
 obtain ⟨S3,us2,rfl,hv2,hr5⟩:=hv1.consI hr4
 obtain ⟨rfl,h⟩:=hv2.lastI hr5
 refine X1 9 1 h rfl (zcO h hF (qkJ (h.old ha1)) rfl fun r6 w5 S5 cs3 h hF=>?_)
 obtain ⟨p15,k15,p16,k16,p17,k17,p18,k18,p19,k19,p20,k20,p21,k21,rfl,-,-,-,-,-,-,-⟩:=qdj (h.own 0 rfl)
 refine qm qa h rfl rfl rfl fun w6 bb2 h=>zs 0 h rfl fun w7 h=>X1 5 0 h rfl ?_
 obtain ⟨r7,hr8,hF⟩:=qc hF
 obtain ⟨r8,r9⟩:=r7
 refine qbh (r8,r9) h (cB 17 rfl) (qnK (h.own 1 rfl) hr8) rfl rfl rfl rfl fun w8 S6 us3 hv4 hr9=>?_
 obtain ⟨S7,us4,rfl,hv5,hr10⟩:=hv4.consI hr9
 obtain ⟨rfl,h⟩:=hv5.lastI hr10
 refine X0 8 rfl ?_
 obtain ⟨KF1,hKF1,o1,hF,hK1⟩:=bindE hF
 refine qba (fun e w'=>∃ (b1:Bool),KF1 b1=some r∧e=[(2,.pointer (some ⟨bb1,0,none⟩)),(8,.pointer (some ⟨bb2,0,none⟩)),(38,.bool b1)]∧SH w w' [Ch.box bb2 (qrN r6 p15 p16 p17 p18 p19 p20 p21 k15 k16 k17 k18 k19 k20 k21) 54,Ch.own S5 (r6:qbA) (qrN r6 p15 p16 p17 p18 p19 p20 p21 k15 k16 k17 k18 k19 k20 k21),Ch.box bb1 (qrN aJ p1 p2 p3 p4 p5 p6 p7 k1 k2 k3 k4 k5 k6 k7) 38]) ?_ ?_
 ·refine X0 5 rfl (qi (t:=34) hF rfl ?_ ?_)<;>intro hF
  ·refine X0 5 rfl ?_
   replace h:=h.pick [0,1,3] rfl
   obtain rfl:=qb hF
   exact rG ⟨_,hK1,rfl,h⟩ rfl
  refine X0 8 rfl ?_
  replace h:=h.pick [0,1,3] rfl
  obtain rfl:=qb hF
  exact rG ⟨_,hK1,rfl,h⟩ rfl
 rintro e1 w12 ⟨b1,hF,rfl,h⟩
 subst hKF1
 refine qg rfl hF ?_ ?_<;>intro hF
 ·exact X0 4 rfl (rb h hF rfl)
 refine zKSS (rA [] [0,2] h rfl fun w9 h=>M2 3 [0,1] 0 1 (h.pick [0,2] rfl) rfl (Ao 2 7 rfl (zcO h hF (qkJ (h.old ha1)) rfl fun r10 w10 S9 cs4 h hF=>?_)))
 obtain ⟨p22,k22,p23,k23,p24,k24,p25,k25,p26,k26,p27,k27,p28,k28,rfl,-,-,-,-,-,-,-⟩:=qdj (h.own 0 rfl)
 refine Ag (h.pick [1,3] rfl) (Ao 3 15 rfl (zcB h hF (qqj (h.own 2 rfl) (h.own 0 rfl)) rfl fun r11 w11 h hF=>G0 31 [4] (h.pick [1,3] rfl) rfl (Ad (qg rfl hF ?_ ?_))))<;>intro hF
 ·exact X0 4 rfl (rb h hF rfl)
 exact X0 5 rfl (rb h hF rfl)
end Go.Fw


namespace Go.Fw
open Go
end Go.Fw


namespace Go.Fw
open Go
set_option maxRecDepth 100000
theorem qmr {j:qbA} {node:Int} (h0:qpv j) (h1:rngI node):Ev (fun n=>qfW n j node) true:=by
 unfold qfW
 obtain ⟨r1,e1,q1⟩:=qxo (a:=j) (left:=1048576) h0 (by omega) (by omega)
 refine Ev.bind e1 ?_
 rcases q1 with q1|⟨p1,q1⟩
 ·exact Ev.tt (by simpa using q1) .done
 refine Ev.ff (by simp;omega) ?_
 have w0:qlX j≤1048576:=by omega
 have k0:=quR h0 w0
 obtain ⟨⟨R0,R1⟩,hs,hi⟩:=qrA (j:=j) (node:=node) k0
 refine Ev.bind (qtu w0) ?_
 refine Ev.bind hs ?_
 refine Ev.bind (qtu w0) ?_
 refine Ev.bind hi ?_
 refine Ev.bind (b:=false) (Ev.ff (by simp) (Ev.now (by simp))) (Ev.ff rfl ?_)
 refine Ev.bind (qtu w0) ?_
 refine Ev.bind (qxw w0) (Ev.ff rfl ?_)
 exact .done
end Go.Fw
