/- Plain laws: the delay and the slew of a link. -/
import Derived.Test.YtflinekphmgbeaaGreatDoorW8
import Derived.Test.YtflinekphmgbeaaGreatDoorB9
import Derived.Test.YtflinekphmgbeaaGreatDoorFw32
open Option renaming bind_some → ja
open Nat renaming le_refl → jb, mul_le_mul_right → jm, le_of_ble_eq_true → jq, lt_of_lt_of_le → js, succ_mul → jF, zero_add → jU
open Bool renaming and_eq_true → jc, eq_iff_iff → jh, true_and → jw, not_eq_true' → jE, not_true → jW
open Go.Result renaming andThen_ok → jd
open List renaming length_append → je, getElem?_eq_getElem → jf, mem_cons_of_mem → jk, length_singleton → jn, getElem_mem → jo, append_assoc → jp, getElem?_append_left → jr, mem_cons_self → jt, take_succ_eq_append_getElem → ju, length_map → jv, getElem?_take → jx, getElem?_append_right → jy, getD_eq_getElem?_getD → jz, getElem?_toArray → jA, take_length → jB, eq_nil_of_length_eq_zero → jC, drop_eq_getElem_cons → jD, not_mem_nil → jH, length_replicate → jI, size_toArray → jJ, all_eq_true → jM, length_take → jN, getElem_of_mem → jO, map_append → jP, mem_cons → jR, ext_getElem → jT
open Go.Sem renaming run_bind → jg, run_pure → ji
open Int renaming toNat_natCast → jj, tdiv_eq_ediv_of_nonneg → jG, mul_nonneg → jL, mul_assoc → jQ, mul_le_mul → jS, le_refl → jV
open Array renaming getElem?_append_left → jK

namespace Go.Fw
open Go
set_option maxRecDepth 100000
theorem qsh {α:Type} {f:Nat→List α} {n:Nat} {x:α} (h:x ∈ fm f n):∃ j,j<n∧x ∈ f j:=by
 unfold fm at h
 obtain ⟨j,h1,h2⟩:=List.mem_flatMap.1 h
 exact ⟨j,List.mem_range.1 h1,h2⟩
theorem quO {x:Int} {j:Nat} {t:Int} (ht:b01 t) (hj:j≤100000) (e:x=2*(j:Int)+t):W64 (x.tdiv 2)=(j:Int)∧x.tmod 2=t:=by
 have ht':0≤t∧t≤1:=by rcases ht with e|e<;>omega
 have hx:0≤x:=by omega
 rw [jG hx,Int.tmod_eq_emod_of_nonneg hx,qaw (by omega) (by omega)]
 omega
structure CLk (b:qf) (x:qt) (i j m net a:Nat):Prop where
 kind:x.Bf=1
 il:i<b.Ab.Aa.length
 jl:j<(places b.Ab).length
 inst:(gt (places b.Ab) j).instance_=(i:Int)
 net_:(gt (places b.Ab) j).net=(net:Int)
 nl:net<b.Ac.length
 half:W64 (x.To.tdiv 2)=(j:Int)
 mod:x.To.tmod 2=(m:Int)
 ml:m<2
 ix:x.Bz=(a:Int)
 al:a<(cellAt b (i:Int)).Av.length
 d2:(gt (cellAt b (i:Int)).Av a).Bp.length=2
 s2:(gt (cellAt b (i:Int)).Av a).Bc.length=2
 dt:∀ t,t ∈ (gt (cellAt b (i:Int)).Av a).Bp→TbOk t∧∀ k,0≤at0 t.Bh k
 st:∀ t,t ∈ (gt (cellAt b (i:Int)).Av a).Bc→TbOk t∧∀ k,0≤at0 t.Bh k
structure WLk (b:qf) (x:qt) (j net k:Nat):Prop where
 kind:x.Bf=2
 jl:j<(places b.Ab).length
 net_:(gt (places b.Ab) j).net=(net:Int)
 nl:net<b.Ac.length
 half:W64 (x.To.tdiv 2)=(j:Int)
 ix:x.Bz=(k:Int)
 kl:k<(gt b.Ac net).Bl.length
theorem qym {xs:List Int} (h:0≤mnL xs) (k:Nat):0≤at0 xs k:=by
 have fold:∀ (ys:List Int) (a:Int),(ys.foldl (fun (m y:Int)=>if y<m then y else m) a≤a)∧∀ y,y ∈ ys→ys.foldl (fun (m y:Int)=>if y<m then y else m) a≤y:=by
  intro ys
  induction ys with
  | nil=>intro a;exact ⟨jV _,fun y hy=>by cases hy⟩
  | cons z ys ih =>
   intro a
   rw [List.foldl_cons]
   obtain ⟨h1,h2⟩:=ih (if z<a then z else a)
   refine ⟨?_,fun y hy=>?_⟩
   ·split at h1<;>split<;>omega
   ·rcases List.mem_cons.1 hy with e|e
    ·subst e;split at h1<;>split<;>omega
    ·exact h2 y e
 by_cases hk:k<xs.length
 ·have hm:xs[k] ∈ xs.drop 1∨k=0:=by
   by_cases h0:k=0
   ·exact .inr h0
   ·refine .inl ?_
    have:xs[k]=(xs.drop 1)[k-1]'(by rw [List.length_drop];omega):=by
     rw [List.getElem_drop]
     congr 1;omega
    rw [this]
    exact jo _
  rw [qkg hk]
  unfold mnL at h
  rcases hm with hm|h0
  ·exact Int.le_trans h ((fold _ _).2 _ hm)
  ·subst h0
   have:=(fold (xs.drop 1) (at0 xs 0)).1
   rw [←qkg hk]
   exact Int.le_trans h this
 ·rw [quL hk];exact jV _
theorem qqn {ts:List qx} (h:tablesB ts true=true):ts.length=2∧∀ t,t ∈ ts→TbOk t∧∀ k,0≤at0 t.Bh k:=by
 unfold tablesB at h
 rw [jc,decide_eq_true_eq,jM] at h
 refine ⟨h.1,fun t ht=>?_⟩
 have:=h.2 t ht
 unfold tabB at this
 simp only [jW,Bool.false_or,jc,decide_eq_true_eq] at this
 exact ⟨qu5 this.1,qym this.2⟩
theorem qtL {ps:List qaq} {a:qP} (h:arcS ps a=true) (h3:a.Bf≤3) (h1:1≤a.Bf):a.To=(ps.length:Int)-1∧tablesB a.Bp true=true∧tablesB a.Bc true=true:=by
 unfold arcS at h
 rcases (by omega:a.Bf=1∨a.Bf=2∨a.Bf=3) with e|e|e
 ·rw [e] at h
  simp only [beq_self_eq_true,cond_true,jc,beq_iff_eq] at h
  exact ⟨h.2.2.1,h.2.2.2.2⟩
 ·rw [e] at h
  simp only [show ((2:Int)==1)=false from rfl,cond_false,beq_self_eq_true,Bool.true_or,cond_true,jc,beq_iff_eq] at h
  exact ⟨h.2.2.1,h.2.2.2.2⟩
 ·rw [e] at h
  simp only [show ((3:Int)==1)=false from rfl,cond_false,beq_self_eq_true,Bool.or_true,cond_true,jc,beq_iff_eq] at h
  exact ⟨h.2.2.1,h.2.2.2.2⟩
theorem qtf {a:qP} {t:qJ} (h:t ∈ transL a):1≤a.Bf∧a.Bf≤3:=by
 refine ⟨?_,?_⟩<;>refine Int.le_of_not_gt fun hg=>?_
 ·have:arcLs 0 0 a=[]:=by
   unfold arcLs transL
   rw [show (a.Bf==2)=false from beq_eq_false_iff_ne.2 (by omega),show (a.Bf==3)=false from beq_eq_false_iff_ne.2 (by omega),show (a.Bf != 1)=true from bne_iff_ne.2 (by omega)]
   rfl
  unfold arcLs at this
  rw [List.map_eq_nil_iff] at this
  rw [this] at h;cases h
 ·have:arcLs 0 0 a=[]:=qpt hg
  unfold arcLs at this
  rw [List.map_eq_nil_iff] at this
  rw [this] at h;cases h
theorem qhG {b:qf} (h:blockB b=true) {x:qt} (hx:x ∈ linksL b):((∃ i j m net a,CLk b x i j m net a)∨∃ j net k,WLk b x j net k)∧(0≤x.Bk∧x.Bk<2*((places b.Ab).length:Int))∧(0≤x.To∧x.To<2*((places b.Ab).length:Int)):=by
 have hd:=qas h
 have hs:=qX hd
 have hl:=qa4 hs
 have hwl:=qmk h
 unfold linksL at hx
 rcases List.mem_append.1 hx with hx|hx
 ·obtain ⟨i,hi,hx⟩:=qsh hx
  obtain ⟨a,ha,hx⟩:=qsh hx
  unfold arcLs at hx
  obtain ⟨t,ht,rfl⟩:=List.mem_map.1 hx
  obtain ⟨⟨c0,c1⟩,hnl,hcb⟩:=qgZ hd hi
  have hcA:cellAt b (i:Int)=gt b.Ay.Au (gt b.Ab.Aa i).Bs.toNat:=rfl
  rw [←hcA] at hnl hcb
  obtain ⟨⟨k1,k5⟩,hf,hto,hA⟩:=qmW hcb ha
  obtain ⟨g1,g3⟩:=qtf ht
  obtain ⟨t0,t1⟩:=qr2 ht
  obtain ⟨eT,tD,tS⟩:=qtL hA g3 g1
  obtain ⟨d2,dt⟩:=qqn tD
  obtain ⟨s2,st⟩:=qqn tS
  have hpb:=(qgD (qiT hcb)).1
  have hk:(cellAt b (i:Int)).Be.length-1<(gt b.Ab.Aa i).Ap.length:=by omega
  obtain ⟨hj,ej⟩:=qkb hi hk
  obtain ⟨n0,n1⟩:=ql5 hd hj
  have e1:(al1 (off b.Ab i:Int) a (gt (cellAt b (i:Int)).Av a) t).To=2*((off b.Ab i+((cellAt b (i:Int)).Be.length-1):Nat):Int)+t.e1:=by
   show 2*((off b.Ab i:Int)+(gt (cellAt b (i:Int)).Av a).To)+t.e1=_
   rw [eT];omega
  obtain ⟨hh,hm⟩:=quO t1 (by omega) e1
  obtain ⟨m,em⟩:∃ m:Nat,t.e1=(m:Int):=⟨t.e1.toNat,by rcases t1 with e|e<;>omega⟩
  have hfr:off b.Ab i+(gt (cellAt b (i:Int)).Av a).Bk.toNat<(places b.Ab).length:=(qkb hi (k:=(gt (cellAt b (i:Int)).Av a).Bk.toNat) (by omega)).1
  have e2:(al1 (off b.Ab i:Int) a (gt (cellAt b (i:Int)).Av a) t).Bk=2*((off b.Ab i:Int)+(gt (cellAt b (i:Int)).Av a).Bk)+t.e0:=rfl
  refine ⟨.inl ⟨i,_,m,(gt (places b.Ab) (off b.Ab i+((cellAt b (i:Int)).Be.length-1))).net.toNat,a,⟨rfl,hi,hj,by rw [ej];rfl,qej n0,by omega,hh,by rw [hm,em],by rcases t1 with e|e<;>omega,rfl,ha,d2,s2,dt,st⟩⟩,?_,?_⟩
  ·rw [e2]
   rcases t0 with e|e<;>rw [e]<;>omega
  ·rw [e1]
   rcases t1 with e|e<;>rw [e]<;>omega
 ·obtain ⟨i,hi,hx⟩:=qsh hx
  obtain ⟨k,hk,hx⟩:=qsh hx
  obtain ⟨y,hy,ey,hq⟩:=qpm hk
  have hdv:=(qjm hd (k:=i) (by omega)).1
  have hw:=qbs h hi
  have hq':(gt (places b.Ab) y).net=(i:Int):=by
   unfold snkQ at hq
   simp only [jc,beq_iff_eq] at hq
   exact hq.1
  have main:∀ t:Int,b01 t→x=⟨2*(dvN b.Ab i:Int)+t,2*at0 (skL b i) k+t,2,(k:Int)⟩→((∃ i j m net a,CLk b x i j m net a)∨∃ j net k,WLk b x j net k)∧(0≤x.Bk∧x.Bk<2*((places b.Ab).length:Int))∧(0≤x.To∧x.To<2*((places b.Ab).length:Int)):=by
   intro t ht e
   have e1:x.To=2*(y:Int)+t:=by rw [e,ey]
   have e2:x.Bk=2*(dvN b.Ab i:Int)+t:=by rw [e]
   obtain ⟨hh,hm⟩:=quO ht (by omega) e1
   refine ⟨.inr ⟨y,i,k,⟨by rw [e],hy,hq',hi,hh,by rw [e],by rw [hw.snk];exact hk⟩⟩,?_,?_⟩
   ·rw [e2]
    rcases ht with e|e<;>rw [e]<;>omega
   ·rw [e1]
    rcases ht with e|e<;>rw [e]<;>omega
  unfold wl1 at hx
  simp only [jR,jH,or_false] at hx
  rcases hx with hx|hx
  ·exact main 0 (.inl rfl) (by rw [hx,Int.add_zero,Int.add_zero])
  ·exact main 1 (.inr rfl) hx
theorem qlY {α:Type} [Inhabited α] {xs:List α} {k:Nat} (h:k<xs.length):gt xs k ∈ xs:=by rw [qe8 h];exact jo h
theorem qiP {b:qf} (h:blockB b=true):LkOk (linksL b) (2*(places b.Ab).length) where
 len:=qgt h
 nodes:=by have:=qa4 (qX (qas h));omega
 fr0:=fun x hx=>(qhG h (qlY hx)).2.1.1
 fr1:=fun x hx=>by have:=(qhG h (qlY hx)).2.1.2;omega
 to0:=fun x hx=>(qhG h (qlY hx)).2.2.1
 to1:=fun x hx=>by have:=(qhG h (qlY hx)).2.2.2;omega
theorem qrE {c:qr} (h:cornerB c=true) {kind mode:Int}:∃ f:Int,100≤f∧f≤5000∧(∀ n,qgC n c kind mode=some f)∧∀ n,qep n c kind mode=some f:=by
 unfold cornerB at h
 simp only [jc,qa9,decide_eq_true_eq] at h
 obtain ⟨⟨h1,h2,h3,h4⟩,_⟩:=h
 unfold qgC qep
 cases kind==1
 ·cases mode==0
  ·exact ⟨_,h4.1,h4.2,fun _=>rfl,fun _=>rfl⟩
  ·exact ⟨_,h3.1,h3.2,fun _=>rfl,fun _=>rfl⟩
 ·cases mode==0
  ·exact ⟨_,h2.1,h2.2,fun _=>rfl,fun _=>rfl⟩
  ·exact ⟨_,h1.1,h1.2,fun _=>rfl,fun _=>rfl⟩
theorem qtI {p f mode:Int} (p0:0≤p) (p1:p≤400000000000) (f0:0≤f) (f1:f≤5000):(∀ n,qcq n (W64 (p*f)) 1000 mode=some (divI (p*f) 1000 mode))∧∀ n,qkA n p f mode=some (divI (p*f) 1000 mode):=by
 have h0:=jL p0 f0
 have h1:p*f≤400000000000*5000:=jS p1 f1 f0 (by omega)
 have e:W64 (p*f)=p*f:=qaw (by omega) (by omega)
 have hd:=fun n=>qks (n:=n) (a:=p*f) (b:=1000) (mode:=mode) (by omega) (by omega) (by omega)
 refine ⟨fun n=>by rw [e];exact hd n,fun n=>?_⟩
 unfold qkA
 rw [e,qsw (m:=0),hd 0]
 rfl
theorem qwQ {l h H:Int} (h0:0≤l) (h1:l<h) (h2:h≤H) (hH:H≤3000000000):W64 (W64 (W64 (l+h)+1) |>.tdiv 2)=(l+h+1) / 2∧W64 ((l+h+1) / 2*((l+h+1) / 2))=(l+h+1) / 2*((l+h+1) / 2)∧W64 ((l+h+1) / 2-1)=(l+h+1) / 2-1:=by
 have hm:0≤(l+h+1) / 2∧(l+h+1) / 2≤3000000000:=by omega
 have hq:(l+h+1) / 2*((l+h+1) / 2)≤3000000000*3000000000:=jS hm.2 hm.2 hm.1 (by omega)
 have hq0:=jL hm.1 hm.1
 rw [wO (l+h),wO (l+h+1),jG (by omega),wO ((l+h+1) / 2),wO ((l+h+1) / 2-1)]
 exact ⟨rfl,qaw (by omega) (by omega),rfl⟩
theorem qwS {y mode:Int} (h0:0≤y) (h1:y≤4000000000000000000):∃ v,IsRoot y v∧v≤2000000000∧Ev (fun n=>qh6 n y mode) (if mode=1∧v*v<y then v+1 else v):=by
 obtain ⟨v,r1,r2,r3⟩:=qrL (Lf:=fun n l h=>qdI y n l h) (fin:=fun l=>(l,l)) (x:=y) (H:=2000000000) h0 (by omega) (by omega)
  (fun n l _ _=>by simp only [qdI,show decide (l<l)=false from decide_eq_false (Int.lt_irrefl l),cond_false])
  (fun n l h hl hlt hh=>by
   obtain ⟨e1,e2,e3⟩:=qwQ hl hlt hh (by omega)
   simp only [qdI,decide_eq_true hlt,cond_true,e1,e2,e3])
 refine ⟨v,r1,r2,?_⟩
 unfold qh6
 refine Ev.bind r3 ?_
 have hv:=r1.pos
 have hq:v*v≤2000000000*2000000000:=jS r2 r2 hv (by omega)
 have hq0:=jL hv hv
 simp only [wO (v*v),wO (v+1)]
 by_cases hm:mode=1
 ·refine Ev.tt (by simpa using hm) ?_
  by_cases hl:v*v<y
  ·rw [if_pos ⟨hm,hl⟩];exact Ev.tt (decide_eq_true hl) .done
  ·rw [if_neg fun h=>hl h.2];exact Ev.ff (decide_eq_false hl) .done
 ·rw [if_neg fun h=>hm h.1]
  exact Ev.ff (by simpa using hm) .done
theorem qv3 {y:Int} (h0:0≤y) (h1:y≤4000000000000000000):∃ v,IsRoot y v∧v≤3000000000∧Ev (fun n=>qno n y) v:=by
 obtain ⟨v,r1,r2,r3⟩:=qrL (Lf:=fun n l h=>qfz y n l h) (fin:=fun l=>(l,l)) (x:=y) (H:=3000000000) h0 (by omega) (by omega)
  (fun n l _ _=>by simp only [qfz,show decide (l<l)=false from decide_eq_false (Int.lt_irrefl l),cond_false])
  (fun n l h hl hlt hh=>by
   obtain ⟨e1,e2,e3⟩:=qwQ hl hlt hh (by omega)
   simp only [qfz,decide_eq_true hlt,cond_true,e1,e2,e3])
 refine ⟨v,r1,r2,?_⟩
 unfold qno
 exact Ev.bind r3 .done
theorem qu8 {sl d mode:Int} (s0:0≤sl) (s1:sl≤1000000) (d0:0≤d) (d1:d≤344000000) (hm:mode=0∨mode=1):∃ r:Int,0≤r ∧
  Ev (fun n=>(qh6 n (W64 (W64 (W64 (1000000*sl)*sl)+W64 (W64 (4*d)*d))) mode).bind fun r2=>(qcq n r2 1000 mode).bind fun r3=>some r3) r∧Ev (fun n=>qiY n sl d mode) r:=by
 have q1:=jL s0 s0
 have q2:sl*sl≤1000000*1000000:=jS s1 s1 s0 (by omega)
 have q3:=jL d0 d0
 have q4:d*d≤344000000*344000000:=jS d1 d1 d0 (by omega)
 have e1:W64 (W64 (W64 (1000000*sl)*sl)+W64 (W64 (4*d)*d))=4*(250000*(sl*sl)+d*d):=by
  rw [wO (1000000*sl),wO (4*d),jQ 1000000,jQ 4,wO (1000000*(sl*sl)),wO (4*(d*d)),qaw (by omega) (by omega)]
  omega
 have e2:W64 (W64 (W64 (W64 (500*sl)*500)*sl)+W64 (d*d))=250000*(sl*sl)+d*d:=by
  rw [wO (500*sl),wO (500*sl*500),show 500*sl*500*sl=250000*(sl*sl) by rw [←jQ];congr 1;omega,wO (250000*(sl*sl)),wO (d*d),qaw (by omega) (by omega)]
 obtain ⟨v,v1,v2,v3⟩:=qwS (mode:=mode) (y:=4*(250000*(sl*sl)+d*d)) (by omega) (by omega)
 obtain ⟨w,w1,w2,w3⟩:=qv3 (y:=250000*(sl*sl)+d*d) (by omega) (by omega)
 have hr:=qt1 w1 v1 hm
 have hv:=v1.pos
 have hw:=w1.pos
 have hv1:0≤(if mode=1∧v*v<4*(250000*(sl*sl)+d*d) then v+1 else v)∧(if mode=1∧v*v<4*(250000*(sl*sl)+d*d) then v+1 else v)≤1000*3000000:=by split<;>omega
 refine ⟨_,(qsx (b:=1000) (mode:=mode) (M:=3000000) (by omega) hv1.1 hv1.2).1,?_,?_⟩
 ·rw [e1]
  exact Ev.bind v3 (Ev.bind ⟨0,fun n _=>qks (by omega) (by omega) (by omega)⟩ .done)
 ·rw [hr]
  unfold qiY
  rw [e2]
  refine Ev.bind w3 ?_
  have hq:w*w≤3000000000*3000000000:=jS w2 w2 hw (by omega)
  have hq0:=jL hw hw
  have ed:(fun n=>qeR n w 500 mode)=fun _=>some (divI w 500 mode):=by
   funext n
   rw [qsw (m:=0),qks (by omega) (by omega) (by omega)]
  have hdv:=congrFun ed
  simp only [wO (w*w),jG hw,wO (w / 500),wO (w / 500+1),hdv,ja]
  rcases hm with rfl|rfl
  ·rw [if_neg (by omega)]
   exact .done
  ·by_cases hl:w*w<250000*(sl*sl)+d*d
   ·rw [if_pos ⟨rfl,hl⟩,decide_eq_true hl];exact .done
   ·rw [if_neg fun h=>hl h.2,decide_eq_false hl];exact .done
theorem qs3 {t:qx} (h:TbOk t∧∀ k,0≤at0 t.Bh k) (sl ld mode:Int):∃ r:Int,0≤r∧r≤1000000∧Ev (fun n=>qgW n t sl ld mode) r∧Ev (fun n=>qdy n t sl ld mode) r:=by
 obtain ⟨S,D,D0,S1,_,_,_,S0,hev⟩:=qxU h.1 sl ld
 obtain ⟨r0,r1⟩:=qsx (mode:=mode) D0 (S0 h.2) S1
 exact ⟨_,r0,r1,hev mode⟩
theorem qtV {b:qf} {ex:List Int} {x:qt} {j net:Nat} (jl:j<(places b.Ab).length) (hn:(gt (places b.Ab) j).net=(net:Int)) (hh:W64 (x.To.tdiv 2)=(j:Int)) (n:Nat):qeD n (some (viewE b ex)) x=some (net:Int):=by
 unfold qeD
 show (idx (places b.Ab) (W64 (x.To.tdiv 2))).bind _=_
 rw [hh,qA jl]
 exact congrArg some hn
theorem qv6 {b:qf} {ex:List Int} (h:blockB b=true) {x:qt} {i j m net a:Nat} (hx:CLk b x i j m net a) (n:Nat):qf4 n (some (viewE b ex)) x=some (gt (cellAt b (i:Int)).Av a):=by
 obtain ⟨⟨c0,c1⟩,_,_⟩:=qgZ (qas h) hx.il
 unfold qf4
 show (idx (places b.Ab) (W64 (x.To.tdiv 2))).bind (fun y2=>(idx b.Ab.Aa y2.instance_).bind fun y3=>(idx b.Ay.Au y3.Bs).bind fun y4=>(idx y4.Av x.Bz).bind fun y5=>some y5)=_
 rw [hx.half,qA hx.jl,ja,hx.inst,qA hx.il,ja,qdK c0 c1,ja,hx.ix]
 show (idx (cellAt b (i:Int)).Av (a:Int)).bind _=_
 rw [qA hx.al];rfl
theorem qrI {b:qf} (h:blockB b=true) {x:qt} {i j m net a:Nat} (hx:CLk b x i j m net a):Ev (fun n=>qjo n b x) (gt (cellAt b (i:Int)).Av a,load0 b net):=by
 have hd:=qas h
 have hs:=qX hd
 obtain ⟨⟨c0,c1⟩,_,_⟩:=qgZ hd hx.il
 have hp:idx ((places b.Ab).map toSp) (j:Int)=some (toSp (gt (places b.Ab) j)):=by
  refine qaz ?_
  rw [List.getElem?_map,jf hx.jl,qe8 hx.jl];rfl
 have hll:=qml h hx.nl
 have hlo:=(qbs h hx.nl).lo
 have h1:(toSp (gt (places b.Ab) j)).instance_=(i:Int):=hx.inst
 have h2:(toSp (gt (places b.Ab) j)).net=(net:Int):=hx.net_
 have h3:idx (gt b.Ay.Au (gt b.Ab.Aa i).Bs.toNat).Av (a:Int)=some (gt (cellAt b (i:Int)).Av a):=qA hx.al
 unfold qjo
 refine Ev.bind (qhF hs) ?_
 simp only [hx.half,hp,ja,h1,h2,qA hx.il,qdK c0 c1,hx.ix,h3]
 refine Ev.bind (qps h hx.nl) ?_
 rw [show idx (loadsL b net) (0:Int)=some (load0 b net) from qA (j:=0) (by omega)]
 exact .done
theorem qrS {b:qf} (h:blockB b=true) {x:qt} {j net k:Nat} (hx:WLk b x j net k):Ev (fun n=>qju n b x) (net:Int):=by
 have hs:=qX (qas h)
 have hp:idx ((places b.Ab).map toSp) (j:Int)=some (toSp (gt (places b.Ab) j)):=by
  refine qaz ?_
  rw [List.getElem?_map,jf hx.jl,qe8 hx.jl];rfl
 have h2:(toSp (gt (places b.Ab) j)).net=(net:Int):=hx.net_
 unfold qju
 refine Ev.bind (qhF hs) ?_
 simp only [hx.half,hp,ja,h2]
 exact .done
theorem qqe {b:qf} {c:qr} (ex:List Int) (h:blockB b=true) (hc:cornerB c=true) {k:Nat} (hk:k<(linksL b).length) {sl mode:Int} (s0:0≤sl) (s1:sl≤1000000) (hm:mode=0∨mode=1) :
  (∃ D:Int,Ev (fun n=>qbQ n b c (gt (linksL b) k) sl mode) D∧Ev (fun n=>qbb n (some (viewE b ex)) c (k:Int) sl mode) D) ∧
  ∃ S:Int,0≤S∧S≤1000000∧Ev (fun n=>qcf n b (gt (linksL b) k) sl mode) S∧Ev (fun n=>qaG n (some (viewE b ex)) (k:Int) sl mode) S:=by
 have hv:idx (viewE b ex).links (k:Int)=some (gt (linksL b) k):=qA hk
 obtain ⟨hx,_⟩:=qhG h (qlY hk)
 generalize gt (linksL b) k=x at hx hv
 rcases hx with ⟨i,j,m,net,a,hx⟩|⟨j,net,q,hx⟩
 ·have hnet:=qtV (ex:=ex) hx.jl hx.net_ hx.half
  have harc:=qv6 (ex:=ex) h hx
  have hld:idx (viewE b ex).loads (net:Int)=some (load0 b net):=qg6 (f:=load0 b) hx.nl
  obtain ⟨f,f0,f1,sF,iF⟩:=qrE hc (kind:=x.Bf) (mode:=mode)
  have dl:m<(gt (cellAt b (i:Int)).Av a).Bp.length:=by rw [hx.d2];exact hx.ml
  have sL:m<(gt (cellAt b (i:Int)).Av a).Bc.length:=by rw [hx.s2];exact hx.ml
  obtain ⟨r,r0,r1,rs,ri⟩:=qs3 (hx.dt _ (qlY dl)) sl (load0 b net) mode
  obtain ⟨u,u0,u1,us,ui⟩:=qs3 (hx.st _ (qlY sL)) sl (load0 b net) mode
  obtain ⟨c1,c2⟩:=qtI (mode:=mode) r0 (by omega) (show 0≤f by omega) f1
  have hk1:(x.Bf==1)=true:=by rw [hx.kind];rfl
  refine ⟨⟨divI (r*f) 1000 mode,?_,?_⟩,⟨u,u0,u1,?_,?_⟩⟩
  ·unfold qbQ
   refine Ev.tt hk1 (Ev.bind (qrI h hx) ?_)
   simp only [hx.mod,qA dl,ja,sF]
   exact Ev.bind rs (Ev.bind ⟨0,fun n _=>c1 n⟩ .done)
  ·unfold qbb
   simp only [ja,hv,hnet,hld,harc,hx.mod,qA dl,iF]
   exact Ev.tt hk1 (Ev.bind ri (Ev.bind ⟨0,fun n _=>c2 n⟩ .done))
  ·unfold qcf
   refine Ev.tt hk1 (Ev.bind (qrI h hx) ?_)
   simp only [hx.mod,qA sL,ja]
   exact Ev.bind us .done
  ·unfold qaG
   simp only [ja,hv,hnet,hld,harc,hx.mod,qA sL]
   refine Ev.tt hk1 (Ev.bind ui (Ev.now ?_))
   rw [if_neg (by omega)]
 ·have hnet:=qtV (ex:=ex) hx.jl hx.net_ hx.half
  have hde:idx (viewE b ex).delays (net:Int)=some (exactL b net):=qg6 (f:=exactL b) hx.nl
  have hel:(exactL b net).length=(gt b.Ac net).Bl.length:=by unfold exactL;rw [jv]
  have hq:q<(exactL b net).length:=by rw [hel];exact hx.kl
  obtain ⟨x0,x1⟩:=qq0 h hx.nl hx.kl
  obtain ⟨f,f0,f1,sF,iF⟩:=qrE hc (kind:=x.Bf) (mode:=mode)
  have dd:=fun n=>qks (n:=n) (a:=gt (exactL b net) q) (b:=1000) (mode:=mode) (by omega) (by omega) (by omega)
  obtain ⟨p0,p1⟩:=qsx (a:=gt (exactL b net) q) (b:=1000) (mode:=mode) (M:=344000) (by omega) x0 (by omega)
  obtain ⟨c1,c2⟩:=qtI (mode:=mode) p0 (by omega) (show 0≤f by omega) f1
  have hk1:(x.Bf==1)=false:=by rw [hx.kind];rfl
  have hi:idx ((exactL b net).map fun x=>divI x 1000 mode) (q:Int)=some (divI (gt (exactL b net) q) 1000 mode):=by
   rw [qA (by rw [jv];exact hq),qoL hq]
  obtain ⟨u,u0,us,ui⟩:=qu8 s0 s1 x0 x1 hm
  refine ⟨⟨divI (divI (gt (exactL b net) q) 1000 mode*f) 1000 mode,?_,?_⟩,⟨if u<1000000 then u else 1000000,by split<;>omega,by split<;>omega,?_,?_⟩⟩
  ·unfold qbQ
   refine Ev.ff hk1 (Ev.bind (qrS h hx) (Ev.bind (qo0 h hx.nl) ?_))
   simp only [hx.ix,hi,ja,sF]
   exact Ev.bind ⟨0,fun n _=>c1 n⟩ .done
  ·unfold qbb
   simp only [ja,hv,hnet,hde,hx.ix,qA hq,iF]
   refine Ev.ff hk1 (Ev.bind (b:=divI (gt (exactL b net) q) 1000 mode) ⟨0,fun n _=>(qsw (m:=0)).trans (dd 0)⟩ (Ev.bind ⟨0,fun n _=>c2 n⟩ .done))
  ·have hw:=qbs h hx.nl
   have hsn:=hw.sin q hx.kl
   have hdl:=qmM h hx.nl
   have eg:gt (exactL b net) q=gt (delaysL b net) (at0 (gt b.Ac net).Bl q).toNat:=by
    unfold exactL
    rw [qe8 (by rw [jv];exact hx.kl),List.getElem_map,qkg hx.kl]
   unfold qcf qlZ
   refine Ev.ff hk1 (Ev.bind (qrS h hx) ?_)
   simp only [hx.ix,qA hx.nl,ja,qab hx.kl]
   refine Ev.bind (b:=u) (Ev.bind (qn8 h hx.nl) ?_) .done
   rw [qdK hsn.1 (show at0 (gt b.Ac net).Bl q<((delaysL b net).length:Int) by omega)]
   simp only [ja]
   rw [←eg]
   exact us
  ·unfold qaG
   simp only [ja,hv,hnet,hde,hx.ix,qA hq]
   refine Ev.ff hk1 (Ev.bind ui (Ev.now ?_))
   congr 1
   split<;>split<;>omega
theorem qqb {b:qf} {c:qr} (h:blockB b=true) (hc:cornerB c=true) {k:Nat} (hk:k<(linksL b).length) {sl mode:Int} (s0:0≤sl) (s1:sl≤1000000) (hm:mode=0∨mode=1) :
  (∃ D:Int,Ev (fun n=>qbQ n b c (gt (linksL b) k) sl mode) D∧∀ ex,Ev (fun n=>qbb n (some (viewE b ex)) c (k:Int) sl mode) D) ∧
  ∃ S:Int,0≤S∧S≤1000000∧Ev (fun n=>qcf n b (gt (linksL b) k) sl mode) S∧∀ ex,Ev (fun n=>qaG n (some (viewE b ex)) (k:Int) sl mode) S:=by
 obtain ⟨⟨D,d1,_⟩,⟨S,a,c',s1',_⟩⟩:=qqe [] h hc hk s0 s1 hm
 refine ⟨⟨D,d1,fun ex=>?_⟩,⟨S,a,c',s1',fun ex=>?_⟩⟩
 ·obtain ⟨⟨D',e1,e2⟩,_⟩:=qqe ex h hc hk s0 s1 hm
  rw [d1.uniq e1];exact e2
 ·obtain ⟨_,⟨S',_,_,e1,e2⟩⟩:=qqe ex h hc hk s0 s1 hm
  rw [s1'.uniq e1];exact e2
end Go.Fw


namespace Go.Fw
open Go
set_option maxRecDepth 100000
def slR (s:qd):Prop:=(0≤s.Ak∧s.Ak≤1000000)∧(0≤s.Bd∧s.Bd≤1000000)
def SpansS (b:qf) (c:qr) (f:Nat→qd→qd × qd):Prop:=∀ k s,k<(linksL b).length→slR s→slR (f k s).2∧Ev (fun n=>qga n b c (gt (linksL b) k) s) (f k s)
def SpansI (b:qf) (c:qr) (ex:List Int) (f:Nat→qd→qd × qd):Prop:=∀ k s,k<(linksL b).length→slR s→slR (f k s).2∧Ev (fun n=>qeA n (some (viewE b ex)) c (k:Int) s) (f k s)
def exK (b:qf) (ex:List Int) (k:Nat):Int:=bif (gt (linksL b) k).Bf==2 then gt ex (gt (places b.Ab) ((gt (linksL b) k).To / 2).toNat).net.toNat else 0
def wideS (e:Int) (s:qd):qd:=⟨W64 (s.Ak-e),W64 (s.Bd+e)⟩
def wideF (b:qf) (ex:List Int) (f:Nat→qd→qd × qd) (k:Nat) (s:qd):qd × qd:=bif decide (0<ex.length)&&((gt (linksL b) k).Bf==2) then (wideS (exK b ex k) (f k s).1,(f k s).2) else f k s
theorem qtl {b:qf} {c:qr} (h:blockB b=true) (hc:cornerB c=true):∃ f,SpansS b c f∧∀ ex:List Int,ex.length=0∨ex.length=b.Ac.length→SpansI b c ex (wideF b ex f):=by
 have main:∀ x:Nat × qd,∃ r:qd × qd,x.1<(linksL b).length→slR x.2→slR r.2∧Ev (fun n=>qga n b c (gt (linksL b) x.1) x.2) r∧∀ ex:List Int,ex.length=0∨ex.length=b.Ac.length→Ev (fun n=>qeA n (some (viewE b ex)) c (x.1:Int) x.2) (wideF b ex (fun _ _=>r) x.1 x.2):=by
  rintro ⟨k,s⟩
  by_cases hk:k<(linksL b).length∧slR s
  ·obtain ⟨hk,⟨e0,e1⟩,⟨l0,l1⟩⟩:=hk
   obtain ⟨⟨d1,p1,q1⟩,⟨u1,a1,b1,v1,w1⟩⟩:=qqb h hc hk e0 e1 (mode:=0) (.inl rfl)
   obtain ⟨⟨d2,p2,q2⟩,⟨u2,a2,b2,v2,w2⟩⟩:=qqb h hc hk e0 e1 (mode:=1) (.inr rfl)
   obtain ⟨⟨d3,p3,q3⟩,⟨u3,a3,b3,v3,w3⟩⟩:=qqb h hc hk l0 l1 (mode:=0) (.inl rfl)
   obtain ⟨⟨d4,p4,q4⟩,⟨u4,a4,b4,v4,w4⟩⟩:=qqb h hc hk l0 l1 (mode:=1) (.inr rfl)
   refine ⟨(⟨if d3<d1 then d3 else d1,if d4 > d2 then d4 else d2⟩,⟨if u3<u1 then u3 else u1,if u4 > u2 then u4 else u2⟩),fun _ _=>⟨⟨?_,?_⟩,?_,fun ex hex=>?_⟩⟩
   ·show 0≤(if u3<u1 then u3 else u1)∧(if u3<u1 then u3 else u1)≤1000000
    split<;>omega
   ·show 0≤(if u4 > u2 then u4 else u2)∧(if u4 > u2 then u4 else u2)≤1000000
    split<;>omega
   ·unfold qga
    exact Ev.bind p1 (Ev.bind p2 (Ev.bind v1 (Ev.bind v2 (Ev.bind p3 (Ev.bind p4 (Ev.bind v3 (Ev.bind v4 .done)))))))
   ·unfold qeA
    refine Ev.bind (q1 ex) (Ev.bind (q3 ex) (Ev.bind (q2 ex) (Ev.bind (q4 ex) ?_)))
    have hv:idx (viewE b ex).links (k:Int)=some (gt (linksL b) k):=qA hk
    have hx:(viewE b ex).extras=ex:=rfl
    simp only [ja,hv,hx]
    unfold wideF
    have fin:∀ r:Int × Int,Ev (fun n=>(qaG n (some (viewE b ex)) (k:Int) s.Ak 0).bind fun r5=>(qaG n (some (viewE b ex)) (k:Int) s.Bd 0).bind fun r6=>(qaG n (some (viewE b ex)) (k:Int) s.Ak 1).bind fun r7=>(qaG n (some (viewE b ex)) (k:Int) s.Bd 1).bind fun r8 =>
      some ((⟨r.1,r.2⟩:qd),(⟨if r6<r5 then r6 else r5,if r8 > r7 then r8 else r7⟩:qd))) ((⟨r.1,r.2⟩:qd),(⟨if u3<u1 then u3 else u1,if u4 > u2 then u4 else u2⟩:qd)):=fun r=>Ev.bind (w1 ex) (Ev.bind (w3 ex) (Ev.bind (w2 ex) (Ev.bind (w4 ex) .done)))
    rw [show decide ((ex.length:Int) > 0)=decide (0<ex.length) by rw [decide_eq_decide];omega]
    cases hl:decide (0<ex.length)
    ·exact Ev.bind (b:=false) (Ev.now rfl) (Ev.bind (b:=(if d3<d1 then d3 else d1,if d4 > d2 then d4 else d2)) (Ev.now rfl) (fin _))
    ·cases hkd:(gt (linksL b) k).Bf==2
     ·exact Ev.bind (b:=false) (Ev.now rfl) (Ev.bind (b:=(if d3<d1 then d3 else d1,if d4 > d2 then d4 else d2)) (Ev.now rfl) (fin _))
     ·obtain ⟨hcs,_⟩:=qhG h (qlY hk)
      rcases hcs with ⟨i,j,m,net,a,hx⟩|⟨j,net,q,hx⟩
      ·rw [hx.kind] at hkd;cases hkd
      ·have hn:=qtV (ex:=ex) hx.jl hx.net_ hx.half
       have hlt:net<ex.length:=by
        have:=of_decide_eq_true hl
        have:=hx.nl
        omega
       have hT:=(qhG h (qlY hk)).2.2
       have hpl:=qa4 (qX (qas h))
       have ej:((gt (linksL b) k).To / 2).toNat=j:=by
        have:=hx.half
        rw [jG hT.1,qaw (by omega) (by omega)] at this
        omega
       have eK:exK b ex k=gt ex net:=by
        unfold exK
        rw [hkd,ej,hx.net_,jj]
        rfl
       refine Ev.bind (b:=true) (Ev.now rfl) (Ev.bind (b:=(W64 ((if d3<d1 then d3 else d1)-gt ex net),W64 ((if d4 > d2 then d4 else d2)+gt ex net))) ?_ ?_)
       ·simp only [hn,ja,qA hlt]
        exact .done
       ·rw [eK]
        exact fin _
  ·exact ⟨(s,s),fun h1 h2=>absurd ⟨h1,h2⟩ hk⟩
 obtain ⟨f,hf⟩:=Classical.axiomOfChoice main
 exact ⟨fun k s=>f (k,s),fun k s h1 h2=>⟨(hf (k,s) h1 h2).1,(hf (k,s) h1 h2).2.1⟩,fun ex hex k s h1 h2=>⟨by
  have:=(hf (k,s) h1 h2).1
  unfold wideF
  cases decide (0<ex.length)&&((gt (linksL b) k).Bf==2)<;>exact this,(hf (k,s) h1 h2).2.2 ex hex⟩⟩
theorem qrA {b:qf} {f:Nat→qd→qd × qd}:wideF b [] f=f:=rfl
def zSp:qd:=⟨0,0⟩
def zSrc:qg:=⟨0,zSp,zSp⟩
def hullS (s t:qd):qd:=⟨if t.Ak<s.Ak then t.Ak else s.Ak,if t.Bd > s.Bd then t.Bd else s.Bd⟩
theorem qrW {s t:qd}:(⟨if s.Ak<t.Ak then s.Ak else t.Ak,if s.Bd > t.Bd then s.Bd else t.Bd⟩:qd)=hullS s t:=by
 unfold hullS
 congr 1
 ·split<;>split<;>omega
 ·split<;>split<;>omega
def plusS (s t:qd):qd:=⟨W64 (s.Ak+t.Ak),W64 (s.Bd+t.Bd)⟩
def joinS (node:Int) (s:Bool × qg) (ar sl:qd):Bool × qg:=bif s.1 then (true,⟨node,hullS s.2.Ah ar,hullS s.2.Bc sl⟩) else (true,⟨node,ar,sl⟩)
def frN (ls:List qt) (k:Nat):Nat:=(gt ls k).Bk.toNat
def stepS (f:Nat→qd→qd × qd) (ls:List qt) (t:qy) (node:Int) (s:Bool × qg) (k:Nat):Bool × qg :=
 bif gt t.Bg (frN ls k) then joinS node s (plusS (gt t.Ah (frN ls k)) (f k (gt t.Bc (frN ls k))).1) (f k (gt t.Bc (frN ls k))).2 else s
def toQ (ls:List qt) (lv:List Bool) (node:Int) (k:Nat):Bool:=lvL lv k&&(toL ls k==node)
def srcO (xs:List qg) (node:Int):Option qg:=xs.find? fun s=>s.Bo==node
def srcV (o:Option qg):Bool × qg:=match o with|some y=>(true,y)|none=>(false,zSrc)
def ndS (f:Nat→qd→qd × qd) (ls:List qt) (lv:List Bool) (t:qy) (node:Int) (s0:Bool × qg):Nat→Bool × qg
 | 0=>s0
 | k+1=>bif toQ ls lv node k then stepS f ls t node (ndS f ls lv t node s0 k) k else ndS f ls lv t node s0 k
theorem qwy {f:Nat→qd→qd × qd} {ls:List qt} {lv:List Bool} {t:qy} {node:Int} {s0:Bool × qg} {j:Nat}:(selN (toQ ls lv node) j).foldl (stepS f ls t node) s0=ndS f ls lv t node s0 j:=by
 induction j with
 | zero=>rfl
 | succ j ih =>
  rw [qni,List.foldl_append,ih]
  show _=bif toQ ls lv node j then stepS f ls t node (ndS f ls lv t node s0 j) j else ndS f ls lv t node s0 j
  cases toQ ls lv node j<;>rfl
structure TmOk (t:qy) (M:Nat):Prop where
 r:t.Bg.length=M
 a:t.Ah.length=M
 s:t.Bc.length=M
 sl:∀ k,k<M→slR (gt t.Bc k)
structure SrcOk (xs:List qg):Prop where
 len:xs.length≤1048576
 inc:∀ j i,i<j→j<xs.length→(gt xs i).Bo<(gt xs j).Bo
 sl:∀ x,x ∈ xs→slR x.Bc
theorem qoa {xs:List qg} {node:Int} (hl:xs.length≤1048576):Ev (fun n=>qcy n xs node) ((srcV (srcO xs node)).2,(srcV (srcO xs node)).1):=by
 have h1:Ev (fun n=>qaB n xs node) (ixL (fun s=>s.Bo==node) xs) :=
  qfm (fin:=(xs.length:Int)) (Lf:=qM xs node) (xs:=xs) (pf:=fun n x=>qjE n x node) (fun _ _=>.done)
   (fun n=>by simp only [qM,ql (jb _),cond_false])
   (fun n j x hx=>by
    have hj:=(List.getElem?_eq_some_iff.1 hx).1
    simp only [qM,qk hj,cond_true,qaz hx,ja,wS j])
   (fun n=>by unfold qaB;congr 1;funext o;cases o<;>rfl)
 unfold qcy
 refine Ev.bind h1 ?_
 unfold ixL srcO
 cases hf:xs.findIdx? (fun s=>s.Bo==node) with
 | none =>
  have:xs.find? (fun s=>s.Bo==node)=none:=by
   rw [List.find?_eq_none]
   intro x hx
   have:=List.findIdx?_eq_none_iff.1 hf x hx
   simpa using this
  rw [this]
  exact Ev.ff rfl .done
 | some j =>
  obtain ⟨hj,hp,hn⟩:=List.findIdx?_eq_some_iff_getElem.1 hf
  have:xs.find? (fun s=>s.Bo==node)=some xs[j]:=by
   rw [List.find?_eq_some_iff_getElem]
   exact ⟨hp,j,hj,rfl,fun i hi=>by have:=hn i hi;simpa using this⟩
  rw [this]
  refine Ev.tt (show decide ((j:Int) ≥ 0)=true from decide_eq_true (by omega)) ?_
  show Ev (fun n=>(idx xs (j:Int)).bind _) _
  rw [qh1 hj]
  exact .done
theorem qlt {xs:List qg} {node:Int} {y:qg} (h:srcO xs node=some y):y.Bo=node∧y ∈ xs:=by
 have h1:=List.find?_some h
 exact ⟨by simpa using h1,List.mem_of_find?_eq_some h⟩
theorem qxX {xs:List qg} {node:Int} (h:SrcOk xs) :
  Ev (fun n=>qcX xs node n 0 0 0 0 0 false 0) ((srcV (srcO xs node)).2.Bo,(srcV (srcO xs node)).2.Ah.Ak,(srcV (srcO xs node)).2.Ah.Bd,(srcV (srcO xs node)).2.Bc.Ak,(srcV (srcO xs node)).2.Bc.Bd,(srcV (srcO xs node)).1,(xs.length:Int)):=by
 have hl:=h.len
 have:=loopF (τ:=Bool × qg) (Lf:=fun n s j=>qcX xs node n s.2.Bo s.2.Ah.Ak s.2.Ah.Bd s.2.Bc.Ak s.2.Bc.Bd s.1 j) (S:=fun j=>srcV (srcO (xs.take j) node)) (len:=xs.length)
  (fin:=((srcV (srcO xs node)).2.Bo,(srcV (srcO xs node)).2.Ah.Ak,(srcV (srcO xs node)).2.Ah.Bd,(srcV (srcO xs node)).2.Bc.Ak,(srcV (srcO xs node)).2.Bc.Bd,(srcV (srcO xs node)).1,(xs.length:Int)))
  (fun n=>by simp only [qcX,ql (jb _),cond_false,jB])
  (fun j hj X hX=>by
   simp only [qcX,qk hj,cond_true,qA hj,ja,wS j]
   have e:srcO (xs.take (j+1)) node=(srcO (xs.take j) node).or (bif (gt xs j).Bo==node then some (gt xs j) else none):=by
    unfold srcO
    rw [ju hj,List.find?_append,←qe8 hj]
    congr 1
   cases hq:(gt xs j).Bo==node
   ·rw [hq] at e
    have e:srcO (xs.take (j+1)) node=srcO (xs.take j) node:=by rw [e];cases srcO (xs.take j) node<;>rfl
    rw [e] at hX
    exact hX
   ·rw [hq] at e
    have hn:srcO (xs.take j) node=none:=by
     unfold srcO
     rw [List.find?_eq_none]
     intro x hx hxn
     obtain ⟨i,hi,rfl⟩:=List.mem_iff_getElem.1 hx
     rw [jN] at hi
     rw [List.getElem_take,←qe8 (by omega)] at hxn
     have:=h.inc j i (by omega) hj
     simp only [beq_iff_eq] at hq hxn
     omega
    have e:srcO (xs.take (j+1)) node=some (gt xs j):=by rw [e,hn];rfl
    rw [e] at hX
    exact hX)
 exact this
theorem qqH {ls:List qt} {M:Nat} (h:LkOk ls M) {k:Nat} (hk:k<ls.length):(gt ls k).Bk=(frN ls k:Int)∧frN ls k<M:=by
 have h0:=h.fr0 k hk
 have h1:=h.fr1 k hk
 unfold frN
 omega
section
variable {b:qf} {c:qr} {ex:List Int} {f:Nat→qd→qd × qd} {lv:List Bool} {t:qy} {xs:List qg} {node:Int}
theorem qw1 (h:blockB b=true) (hf:SpansS b c f) (hl:lv.length=(linksL b).length) (ht:TmOk t (2*(places b.Ab).length)) (hx:SrcOk xs) :
  Ev (fun n=>qh8 n b c (linksL b) lv xs t node) (ndS f (linksL b) lv t node (srcV (srcO xs node)) (linksL b).length):=by
 have hk:=qiP h
 have hkl:=hk.len
 have hL:=loopF (τ:=Bool × qg) (Lf:=fun n s j=>qcZ b c (linksL b) lv t node n s.2.Bo s.2.Ah.Ak s.2.Ah.Bd s.2.Bc.Ak s.2.Bc.Bd s.1 j) (S:=fun j=>ndS f (linksL b) lv t node (srcV (srcO xs node)) j) (len:=(linksL b).length)
  (fin:=(fun s:Bool × qg=>(s.2.Bo,s.2.Ah.Ak,s.2.Ah.Bd,s.2.Bc.Ak,s.2.Bc.Bd,s.1,((linksL b).length:Int))) (ndS f (linksL b) lv t node (srcV (srcO xs node)) (linksL b).length))
  (fun n=>by simp only [qcZ,ql (jb _),cond_false])
  (fun j hj X hX=>by
   obtain ⟨e1,e2⟩:=qqH hk hj
   have eN:ndS f (linksL b) lv t node (srcV (srcO xs node)) (j+1)=bif toQ (linksL b) lv node j then stepS f (linksL b) t node (ndS f (linksL b) lv t node (srcV (srcO xs node)) j) j else ndS f (linksL b) lv t node (srcV (srcO xs node)) j:=rfl
   rw [eN] at hX
   generalize ndS f (linksL b) lv t node (srcV (srcO xs node)) j=s at hX ⊢
   simp only [qcZ,qk hj,cond_true,qA hj,qA (show j<lv.length by omega),ja,e1,qA (show frN (linksL b) j<t.Bg.length by rw [ht.r];exact e2),qA (show frN (linksL b) j<t.Ah.length by rw [ht.a];exact e2),qA (show frN (linksL b) j<t.Bc.length by rw [ht.s];exact e2),wS j]
   unfold toQ lvL toL at hX
   cases h1:gt lv j
   ·rw [h1] at hX;exact hX
   rw [h1,jw] at hX
   cases h2:(gt (linksL b) j).To==node
   ·rw [h2] at hX
    simp only [bne,h2]
    exact hX
   rw [h2] at hX
   simp only [bne,h2]
   unfold stepS at hX
   cases h3:gt t.Bg (frN (linksL b) j)
   ·rw [h3] at hX;exact hX
   rw [h3] at hX
   simp only [cond_true] at hX
   obtain ⟨_,s1⟩:=hf j _ hj (ht.sl _ e2)
   refine Ev.bind (b:=false) (Ev.now rfl) (Ev.ff rfl (Ev.bind s1 ?_))
   generalize f j (gt t.Bc (frN (linksL b) j))=q at hX ⊢
   unfold joinS at hX
   cases h4:s.1
   ·rw [h4] at hX;exact hX
   ·rw [h4] at hX
    simp only [qjM,ja,cond_true]
    have a1:=qrW (s:=s.2.Ah) (t:=plusS (gt t.Ah (frN (linksL b) j)) q.1)
    have a2:=qrW (s:=s.2.Bc) (t:=q.2)
    simp only [cond_true] at hX
    rw [←a1,←a2] at hX
    exact hX)
 unfold qh8
 exact Ev.bind (qxX hx) (Ev.bind hL .done)
theorem qyX {ls:List qt} {M:Nat} {ps:List Tplace} {lo:List Int} {de:List (List Int)} {ex:List Int} (h:LkOk ls M) (hl:lv.length=ls.length):Ev (fun n=>qi0 n (grV ls lv ps b lo de ex) node) (ints (selN (toQ ls lv node) ls.length)):=by
 have hll:=h.len
 have hL:Ev (fun n=>qG node ⟨some ⟨b,ps,ls,lo,de,ex⟩,lv⟩ ⟨b,ps,ls,lo,de,ex⟩ n ([]:List Int) 0) (ints (selN (toQ ls lv node) ls.length),(ls.length:Int)):=by
  refine qpo (q:=toQ ls lv node) (Lf:=qG node ⟨some ⟨b,ps,ls,lo,de,ex⟩,lv⟩ ⟨b,ps,ls,lo,de,ex⟩) (len:=ls.length) (by omega) (Ev.succ ?_) (fun j hj t ht X h1 h2=>?_)
  ·simp only [qG,ql (jb _),cond_false];exact .done
  ·simp only [qG,qk hj,cond_true,qA hj,qA (show j<lv.length by omega),ja,qjH,ht,wS j]
   unfold toQ lvL toL at h1 h2
   cases hq:gt lv j
   ·simp only [cond_false];exact h2 (by rw [hq];rfl)
   ·simp only [cond_true]
    cases hw:(gt ls j).To==node
    ·simp only [cond_false];exact h2 (by rw [hq,hw];rfl)
    ·simp only [cond_true];exact h1 (by rw [hq,hw];rfl)
 unfold qi0 qcu grV
 simp only [ja]
 exact Ev.bind (Ev.bind hL .done) .done
def fixS (node:Int) (s:Bool × qg):Bool × qg:=bif s.1 then s else (false,⟨node,zSp,zSp⟩)
theorem qwM (h:blockB b=true) (hf:SpansI b c ex f) (hl:lv.length=(linksL b).length) (ht:TmOk t (2*(places b.Ab).length)) (hx:xs.length≤1048576) :
  Ev (fun n=>qdr n (some ⟨some (viewE b ex),lv⟩) c xs t node) (ndS f (linksL b) lv t node (srcV (srcO xs node)) (linksL b).length):=by
 have hk:=qiP h
 have hkl:=hk.len
 have hsel:=qod (q:=toQ (linksL b) lv node) (j:=(linksL b).length)
 have hnd:∀ j,(ndS f (linksL b) lv t node (srcV (srcO xs node)) j).1=true→(ndS f (linksL b) lv t node (srcV (srcO xs node)) j).2.Bo=node:=by
  intro j
  induction j with
  | zero =>
   show (srcV (srcO xs node)).1=true→(srcV (srcO xs node)).2.Bo=node
   cases hs:srcO xs node with
   | none=>intro e;cases e
   | some y=>exact fun _=>(qlt hs).1
  | succ j ih =>
   unfold ndS
   cases toQ (linksL b) lv node j
   ·exact ih
   ·simp only [cond_true]
    unfold stepS
    cases gt t.Bg (frN (linksL b) j)
    ·exact ih
    ·simp only [cond_true]
     unfold joinS
     cases (ndS f (linksL b) lv t node (srcV (srcO xs node)) j).1<;>exact fun _=>rfl
 have hz:∀ j,(ndS f (linksL b) lv t node (srcV (srcO xs node)) j).1=false→(ndS f (linksL b) lv t node (srcV (srcO xs node)) j).2=zSrc:=by
  intro j
  induction j with
  | zero =>
   show (srcV (srcO xs node)).1=false→(srcV (srcO xs node)).2=zSrc
   cases srcO xs node with
   | none=>exact fun _=>rfl
   | some y=>intro e;cases e
  | succ j ih =>
   unfold ndS
   cases toQ (linksL b) lv node j
   ·exact ih
   ·simp only [cond_true]
    unfold stepS
    cases gt t.Bg (frN (linksL b) j)
    ·exact ih
    ·simp only [cond_true]
     unfold joinS
     cases (ndS f (linksL b) lv t node (srcV (srcO xs node)) j).1<;>(intro e;cases e)
 have fl:∀ (l:List Nat) (s:Bool × qg),(∀ k,k ∈ l→toQ (linksL b) lv node k=true)→l.foldl (fun s k=>fixS node (stepS f (linksL b) t node s k)) (fixS node s)=fixS node (l.foldl (stepS f (linksL b) t node) s):=by
  intro l
  induction l with
  | nil=>intro s _;rfl
  | cons k l ih =>
   intro s hq
   have e:fixS node (stepS f (linksL b) t node (fixS node s) k)=fixS node (stepS f (linksL b) t node s k):=by
    unfold stepS
    obtain ⟨s1,s2⟩:=s
    cases gt t.Bg (frN (linksL b) k)<;>cases s1<;>rfl
   rw [List.foldl_cons,List.foldl_cons,e]
   exact ih _ fun k' hk'=>hq k' (jk _ hk')
 have hL:=(quV (τ:=Bool × qg) (xs:=selN (toQ (linksL b) lv node) (linksL b).length) (Lf:=fun n s j=>qbi (some ⟨some (viewE b ex),lv⟩) c t (ints (selN (toQ (linksL b) lv node) (linksL b).length)) n s.1 s.2.Bo s.2.Ah.Ak s.2.Ah.Bd s.2.Bc.Ak s.2.Bc.Bd j)
  (step:=fun s k=>fixS node (stepS f (linksL b) t node s k)) (fin:=fun s=>(s.1,s.2.Bo,s.2.Ah.Ak,s.2.Ah.Bd,s.2.Bc.Ak,s.2.Bc.Bd,((ints (selN (toQ (linksL b) lv node) (linksL b).length)).length:Int))) (fixS node (srcV (srcO xs node))) (fun _ s=>s=fixS node s∧s.2.Bo=node) (by
   constructor
   ·unfold fixS
    cases hs:(srcV (srcO xs node)).1
    ·rfl
    ·simp only [hs,cond_true]
   ·unfold fixS
    cases hs:srcO xs node with
    | none=>rfl
    | some y=>exact (qlt hs).1)
  (fun j s hj hs=>by
   obtain ⟨h1,h2⟩:=hs
   have key:(stepS f (linksL b) t node s (selN (toQ (linksL b) lv node) (linksL b).length)[j]).2.Bo=node:=by
    unfold stepS
    cases gt t.Bg (frN (linksL b) (selN (toQ (linksL b) lv node) (linksL b).length)[j])
    ·exact h2
    ·unfold joinS
     cases s.1<;>rfl
   constructor
   ·unfold fixS
    cases hs:(stepS f (linksL b) t node s (selN (toQ (linksL b) lv node) (linksL b).length)[j]).1
    ·rfl
    ·simp only [hs,cond_true]
   ·unfold fixS
    cases hs:(stepS f (linksL b) t node s (selN (toQ (linksL b) lv node) (linksL b).length)[j]).1
    ·rfl
    ·exact key)
  (fun n s=>by simp only [qbi,qdP,ql (jb _),cond_false])
  (fun j s hj hs X hX=>by
   obtain ⟨hfx,hsn⟩:=hs
   have hi:=qoi hj
   have hm:(selN (toQ (linksL b) lv node) (linksL b).length)[j]<(linksL b).length:=(qos.1 (jo hj)).1
   generalize (selN (toQ (linksL b) lv node) (linksL b).length)[j]=k at hi hm hX
   obtain ⟨e1,e2⟩:=qqH hk hm
   have hv:idx (viewE b ex).links (k:Int)=some (gt (linksL b) k):=qA hm
   simp only [qbi,qdP,qk hj,cond_true,hi,hv,ja,e1,qA (show frN (linksL b) k<t.Bg.length by rw [ht.r];exact e2),qA (show frN (linksL b) k<t.Ah.length by rw [ht.a];exact e2),qA (show frN (linksL b) k<t.Bc.length by rw [ht.s];exact e2),wS j]
   unfold stepS at hX
   cases h3:gt t.Bg (frN (linksL b) k)
   ·rw [h3] at hX
    simp only [cond_false] at hX
    rw [←hfx] at hX
    exact hX
   rw [h3] at hX
   simp only [cond_true] at hX ⊢
   obtain ⟨_,s1⟩:=hf k _ hm (ht.sl _ e2)
   refine Ev.bind s1 ?_
   generalize f k (gt t.Bc (frN (linksL b) k))=q at hX ⊢
   simp only [qgq,ja]
   unfold joinS at hX
   unfold qfv
   cases h4:s.1
   ·rw [h4] at hX
    simp only [Bool.not_false,cond_true,ja]
    unfold fixS at hX
    simp only [cond_false,cond_true] at hX
    rw [hsn]
    exact hX
   ·rw [h4] at hX
    simp only [jW,cond_false,qiq,ja]
    unfold fixS at hX
    simp only [cond_true] at hX
    rw [hsn]
    exact hX)).1
 rw [fl _ _ (fun k hk'=>(qos.1 hk').2),qwy] at hL
 unfold qdr
 refine Ev.bind (qoa hx) ?_
 have e0:(bif (srcV (srcO xs node)).1 then (qfv 0 ⟨node,⟨0,0⟩,⟨0,0⟩⟩ false ⟨(srcV (srcO xs node)).2.Ah.Ak,(srcV (srcO xs node)).2.Ah.Bd⟩ ⟨(srcV (srcO xs node)).2.Bc.Ak,(srcV (srcO xs node)).2.Bc.Bd⟩).bind (fun o=>match o with|(x9,x10)=>some (x10,x9.Bo,x9.Ah.Ak,x9.Ah.Bd,x9.Bc.Ak,x9.Bc.Bd)) else some (false,node,(0:Int),(0:Int),(0:Int),(0:Int))) =
   some ((fixS node (srcV (srcO xs node))).1,(fixS node (srcV (srcO xs node))).2.Bo,(fixS node (srcV (srcO xs node))).2.Ah.Ak,(fixS node (srcV (srcO xs node))).2.Ah.Bd,(fixS node (srcV (srcO xs node))).2.Bc.Ak,(fixS node (srcV (srcO xs node))).2.Bc.Bd):=by
  cases hs:srcO xs node with
  | none=>rfl
  | some y =>
   have:=(qlt hs).1
   unfold fixS srcV
   simp only [cond_true,this]
   rfl
 refine Ev.bindN e0 (Ev.bind (qyX (ps:=places b.Ab) (lo:=pre (load0 b) b.Ac.length) (de:=pre (exactL b) b.Ac.length) (ex:=ex) hk hl) (Ev.bind hL ?_))
 have z:=hz (linksL b).length
 generalize ndS f (linksL b) lv t node (srcV (srcO xs node)) (linksL b).length=s at z ⊢
 unfold fixS
 obtain ⟨s1,s2⟩:=s
 cases s1
 ·have:=z rfl
  simp only at this
  subst this
  exact .done
 ·exact .done
end
end Go.Fw


namespace Go.Fw
open Go
set_option maxRecDepth 100000
theorem qmL {b:qf} (h:blockB b=true):Ev (fun n=>qf6 n b) ((2*(places b.Ab).length:Nat):Int):=by
 have hs:=qX (qas h)
 have hl:=qa4 hs
 unfold qf6
 refine Ev.bind (b:=(places b.Ab).map toSp) (qhF hs) (Ev.now ?_)
 rw [jv,qaw (by omega) (by omega)]
 rfl
theorem qov {v:Tview} (hl:v.places.length≤78) (n:Nat):qce n (some v)=some ((2*v.places.length:Nat):Int):=by
 unfold qce qdZ
 simp only [ja]
 rw [qaw (by omega) (by omega)]
 rfl
def stepN (xs:List qg) (j:Nat):Bool:=decide (j=0) || decide ((gt xs (j-1)).Bo<(gt xs j).Bo)
def srcB (xs:List qg) (M:Nat):Bool:=allN (fun j=>inI (gt xs j).Bo 0 ((M:Int)-1)&&(stepN xs j&&(spanB (gt xs j).Ah&&slewB (gt xs j).Bc))) xs.length
theorem qqW {xs:List qg} {j:Nat} (h:j ≠ 0):stepN xs j=decide ((gt xs (j-1)).Bo<(gt xs j).Bo):=by unfold stepN;rw [decide_eq_false h,Bool.false_or]
theorem qrr {b:qf} {xs:List qg} (h:blockB b=true) (hl:xs.length≤1048576):Ev (fun n=>qf2 n b xs) (srcB xs (2*(places b.Ab).length)):=by
 have hpl:=qa4 (qX (qas h))
 have e:=qmL h
 obtain ⟨M,eM⟩:∃ M,M=2*(places b.Ab).length:=⟨_,rfl⟩
 rw [←eM] at e ⊢
 have hM:M≤156:=by omega
 have hL:Ev (fun n=>qbL xs (M:Int) n 0) (bif srcB xs M then .nxt (xs.length:Int) else .ret false):=by
  refine qek (Lf:=qbL xs (M:Int)) (len:=xs.length) (Ev.succ (by simp only [qbL,ql (jb _),cond_false];exact .done)) (fun j hj X hX=>Ev.succ ?_)
  simp only [qbL,qk hj,cond_true,qA hj,ja,qcH,qqp,qs8,wS j,wO ((M:Int)-1)]
  cases inI (gt xs j).Bo 0 ((M:Int)-1)
  ·exact .done
  refine Ev.ff rfl ?_
  by_cases h0:j=0
  ·subst h0
   refine Ev.ff rfl ?_
   show Ev _ (bif (stepN xs 0&&_) then X else _)
   rw [show stepN xs 0=true from rfl]
   show Ev (fun n=>bif !spanB (gt xs 0).Ah then _ else bif !slewB (gt xs 0).Bc then _ else _) _
   cases spanB (gt xs 0).Ah
   ·exact .done
   ·cases slewB (gt xs 0).Bc
    ·exact .done
    ·exact hX
  ·refine Ev.tt (decide_eq_true (by omega)) ?_
   rw [show (j:Int)-1=((j-1:Nat):Int) by omega,qaw (by omega) (by omega),qA (show j-1<xs.length by omega),qqW h0]
   simp only [ja]
   by_cases hlt:(gt xs (j-1)).Bo<(gt xs j).Bo
   ·rw [decide_eq_true hlt]
    refine Ev.ff (decide_eq_false (by omega)) ?_
    show Ev (fun n=>bif !spanB (gt xs j).Ah then _ else bif !slewB (gt xs j).Bc then _ else _) _
    cases spanB (gt xs j).Ah
    ·exact .done
    ·cases slewB (gt xs j).Bc
     ·exact .done
     ·exact hX
   ·rw [decide_eq_false hlt]
    exact Ev.tt (decide_eq_true (by omega)) .done
 unfold qf2
 refine Ev.bind e (Ev.bind hL ?_)
 cases srcB xs M<;>exact .done
theorem qru {v:Tview} {xs:List qg} (hp:v.places.length≤78) (hl:xs.length≤1048576):Ev (fun n=>qdn n (some v) xs) (srcB xs (2*v.places.length)):=by
 have e:=qov hp
 obtain ⟨M,eM⟩:∃ M,M=2*v.places.length:=⟨_,rfl⟩
 rw [←eM] at e ⊢
 have hM:M≤156:=by omega
 have hL:Ev (fun n=>qaO (some v) xs n 0) (bif srcB xs M then .nxt (xs.length:Int) else .ret false):=by
  refine qek (Lf:=qaO (some v) xs) (len:=xs.length) (Ev.succ (by simp only [qaO,ql (jb _),cond_false];exact .done)) (fun j hj X hX=>Ev.succ ?_)
  simp only [qaO,qk hj,cond_true,qA hj,ja,qiQ,e,qdc,qpb,qs0,wS j,wO ((M:Int)-1)]
  cases inI (gt xs j).Bo 0 ((M:Int)-1)
  ·exact .done
  refine Ev.ff rfl ?_
  show Ev (fun n=>bif !spanB (gt xs j).Ah then _ else bif !slewB (gt xs j).Bc then _ else _) _
  rw [jw,Bool.and_comm]
  cases spanB (gt xs j).Ah
  ·exact .done
  ·cases slewB (gt xs j).Bc
   ·exact .done
   ·refine Ev.ff rfl (Ev.ff rfl ?_)
    rw [jw,jw]
    by_cases h0:j=0
    ·subst h0
     exact Ev.ff rfl hX
    ·refine Ev.tt (decide_eq_true (by omega)) ?_
     rw [show (j:Int)-1=((j-1:Nat):Int) by omega,qaw (by omega) (by omega),qA (show j-1<xs.length by omega),qqW h0]
     simp only [ja]
     by_cases hlt:(gt xs (j-1)).Bo<(gt xs j).Bo
     ·rw [decide_eq_true hlt]
      exact Ev.ff (decide_eq_false (by omega)) hX
     ·rw [decide_eq_false hlt]
      exact Ev.tt (decide_eq_true (by omega)) .done
 unfold qdn
 refine Ev.bind hL ?_
 cases srcB xs M<;>exact .done
theorem qoj {xs:List qg} {M:Nat} (hl:xs.length≤1048576) (h:srcB xs M=true):SrcOk xs:=by
 unfold srcB at h
 rw [qah] at h
 refine ⟨hl,fun j=>?_,fun x hx=>?_⟩
 ·induction j with
  | zero=>intro i hi _;omega
  | succ j ih =>
   intro i hi hj
   have hs:=h (j+1) hj
   rw [qqW (by omega)] at hs
   simp only [jc,decide_eq_true_eq,Nat.add_sub_cancel] at hs
   have hs':=hs.2.1
   by_cases hij:i=j
   ·rw [hij];exact hs'
   ·have:=ih i (by omega) (by omega);omega
 ·obtain ⟨i,hi,rfl⟩:=List.mem_iff_getElem.1 hx
  have hs:=h i hi
  rw [←qe8 hi]
  simp only [jc] at hs
  have:=hs.2.2.2
  unfold slewB at this
  simp only [jc,decide_eq_true_eq] at this
  exact ⟨⟨this.1,by omega⟩,by omega,this.2.2⟩
section
variable {L:Nat} {fr to:Nat→Int} {lv:Nat→Bool} {n:Nat}
def OrdOk (L:Nat) (fr to:Nat→Int) (lv:Nat→Bool) (n:Nat) (R:List Nat):Prop:=∀ l1 k l2,R=l1++k::l2→k<n∧k ∉ l1∧inN L fr to lv l1 k=0
theorem OrdOk.snoc {R:List Nat} {k:Nat} (h:OrdOk L fr to lv n R) (hk:nxtN L fr to lv n R=some k):OrdOk L fr to lv n (R++[k]):=by
 intro l1 k' l2 e
 rcases List.eq_nil_or_concat l2 with rfl|⟨l2',z,rfl⟩
 ·obtain ⟨rfl,e2⟩:=List.append_inj' e rfl
  obtain rfl:k=k':=by simpa using e2
  exact qpf hk
 ·have e':R++[k]=(l1++k'::l2')++[z]:=by rw [e];simp
  obtain ⟨e1,_⟩:=List.append_inj' e' rfl
  exact h l1 k' l2' e1
theorem qxf:∀ m R R',OrdOk L fr to lv n R→ordN L fr to lv n m R=some R'→OrdOk L fr to lv n R':=by
 intro m
 induction m with
 | zero=>intro R R' h e;obtain rfl:=Option.some.inj e;exact h
 | succ m ih =>
  intro R R' h e
  unfold ordN at e
  cases hn:nxtN L fr to lv n R with
  | none=>rw [hn] at e;cases e
  | some k =>
   rw [hn] at e
   exact ih _ _ (h.snoc hn) e
theorem OrdOk.at {R:List Nat} (h:OrdOk L fr to lv n R) {j:Nat} (hj:j<R.length):R[j]<n∧R[j] ∉ R.take j∧inN L fr to lv (R.take j) R[j]=0:=by
 refine h (R.take j) R[j] (R.drop (j+1)) ?_
 rw [←jD hj,List.take_append_drop]
end
theorem qoK {α:Type} [Inhabited α] {xs:List α} {k:Nat} {v:α} (hk:k<xs.length) (h:gt xs k=v):setS xs (k:Int) v=xs:=by
 unfold setS
 rw [jj,←h,qe8 hk]
 exact List.set_getElem_self hk
theorem qp8 {α:Type} [Inhabited α] {xs:List α} {a k:Nat} {y:α} (ha:a<xs.length):gt (setS xs (a:Int) y) k=if k=a then y else gt xs k:=by
 unfold setS
 rw [jj]
 by_cases h:k=a
 ·subst h;rw [if_pos rfl,qpq ha]
 ·rw [if_neg h,qrz h]
def setT (t:qy) (k:Nat) (s:Bool × qg):qy:=⟨setS t.Bg (k:Int) s.1,setS t.Ah (k:Int) s.2.Ah,setS t.Bc (k:Int) s.2.Bc⟩
theorem qr8 {t:qy} {M k:Nat} {s:Bool × qg} (h:TmOk t M) (hk:k<M) (hs:slR s.2.Bc):TmOk (setT t k s) M where
 r:=by show (setS _ _ _).length=_;rw [qgH];exact h.r
 a:=by show (setS _ _ _).length=_;rw [qgH];exact h.a
 s:=by show (setS _ _ _).length=_;rw [qgH];exact h.s
 sl:=fun j hj=>by
  show slR (gt (setS _ _ _) j)
  rw [qp8 (by rw [h.s];exact hk)]
  split
  ·exact hs
  ·exact h.sl j hj
def Bare (t:qy) (M:Nat) (l:List Nat):Prop:=∀ k,k<M→k ∉ l→gt t.Bg k=false∧gt t.Ah k=zSp∧gt t.Bc k=zSp
def zT:qy:=⟨[],[],[]⟩
theorem qwU:slR zSp:=by unfold slR zSp;exact ⟨⟨jV _,by show (0:Int)≤_;omega⟩,jV _,by show (0:Int)≤_;omega⟩
theorem qxF {s t:qd} (hs:slR s) (ht:slR t):slR (hullS s t):=by
 obtain ⟨⟨a1,a2⟩,a3,a4⟩:=hs
 obtain ⟨⟨b1,b2⟩,b3,b4⟩:=ht
 refine ⟨⟨?_,?_⟩,?_,?_⟩
 ·show (0:Int)≤(if t.Ak<s.Ak then t.Ak else s.Ak);split<;>assumption
 ·show (if t.Ak<s.Ak then t.Ak else s.Ak)≤1000000;split<;>assumption
 ·show (0:Int)≤(if t.Bd > s.Bd then t.Bd else s.Bd);split<;>assumption
 ·show (if t.Bd > s.Bd then t.Bd else s.Bd)≤1000000;split<;>assumption
section
variable {b:qf} {c:qr} {ex:List Int} {f g:Nat→qd→qd × qd} {lv:List Bool} {t:qy} {xs:List qg} {node:Int}
theorem qry (h:blockB b=true) (hg:SpansS b c g) (hgf:∀ k s,(f k s).2=(g k s).2) (ht:TmOk t (2*(places b.Ab).length)) (hx:SrcOk xs):∀ j,j≤(linksL b).length→slR (ndS f (linksL b) lv t node (srcV (srcO xs node)) j).2.Bc:=by
 intro j
 induction j with
 | zero =>
  intro _
  show slR (srcV (srcO xs node)).2.Bc
  cases hs:srcO xs node with
  | none=>exact qwU
  | some y=>exact hx.sl y (qlt hs).2
 | succ j ih =>
  intro hj
  have ih:=ih (by omega)
  obtain ⟨_,e2⟩:=qqH (qiP h) (show j<(linksL b).length by omega)
  have h2:=(hg j _ (show j<(linksL b).length by omega) (ht.sl _ e2)).1
  rw [←hgf] at h2
  show slR (bif toQ (linksL b) lv node j then stepS f (linksL b) t node (ndS f (linksL b) lv t node (srcV (srcO xs node)) j) j else ndS f (linksL b) lv t node (srcV (srcO xs node)) j).2.Bc
  cases toQ (linksL b) lv node j
  ·exact ih
  ·simp only [cond_true]
   unfold stepS
   cases gt t.Bg (frN (linksL b) j)
   ·exact ih
   ·simp only [cond_true]
    unfold joinS
    cases (ndS f (linksL b) lv t node (srcV (srcO xs node)) j).1
    ·exact h2
    ·exact qxF ih h2
theorem qsR (h:blockB b=true) (hf:SpansS b c f) (ht:TmOk t (2*(places b.Ab).length)) (hx:SrcOk xs):∀ j,j≤(linksL b).length→slR (ndS f (linksL b) lv t node (srcV (srcO xs node)) j).2.Bc:=qry h hf (fun _ _=>rfl) ht hx
theorem qxo:∀ j,(ndS f (linksL b) lv t node (srcV (srcO xs node)) j).1=false→(ndS f (linksL b) lv t node (srcV (srcO xs node)) j).2=zSrc:=by
 intro j
 induction j with
 | zero =>
  show (srcV (srcO xs node)).1=false→(srcV (srcO xs node)).2=zSrc
  cases srcO xs node with
  | none=>exact fun _=>rfl
  | some y=>intro e;cases e
 | succ j ih =>
  unfold ndS
  cases toQ (linksL b) lv node j
  ·exact ih
  ·simp only [cond_true]
   unfold stepS
   cases gt t.Bg (frN (linksL b) j)
   ·exact ih
   ·simp only [cond_true]
    unfold joinS
    cases (ndS f (linksL b) lv t node (srcV (srcO xs node)) j).1<;>(intro e;cases e)
def runR (o:Option qy):qy × Bool:=match o with|some t=>(t,true)|none=>(zT,false)
def rnO (f:Nat→qd→qd × qd) (ls:List qt) (lv:List Bool) (xs:List qg):List Nat→qy→Option qy
 | [],t=>some t
 | k::R,t=>bif (ndS f ls lv t (k:Int) (srcV (srcO xs (k:Int))) ls.length).1 then bif spanB (ndS f ls lv t (k:Int) (srcV (srcO xs (k:Int))) ls.length).2.Ah then rnO f ls lv xs R (setT t k (ndS f ls lv t (k:Int) (srcV (srcO xs (k:Int))) ls.length)) else none else rnO f ls lv xs R t
def zTm (M:Nat):qy:=⟨List.replicate M false,List.replicate M zSp,List.replicate M zSp⟩
theorem qsz {α:Type} [Inhabited α] {v:α} {M k:Nat} (hk:k<M):gt (List.replicate M v) k=v:=by rw [qe8 (by rw [jI];exact hk)];simp
theorem qtS {M:Nat}:TmOk (zTm M) M:=⟨jI,jI,jI,fun k hk=>by
 show slR (gt (List.replicate M zSp) k)
 rw [qsz hk];exact qwU⟩
theorem qww {M:Nat} {l:List Nat}:Bare (zTm M) M l:=fun k hk _=>⟨qsz hk,qsz hk,qsz hk⟩
theorem qyB (h:blockB b=true) (hf:SpansS b c f) (hx:SrcOk xs):∀ (R:List Nat) (t t':qy),(∀ k,k ∈ R→k<2*(places b.Ab).length)→TmOk t (2*(places b.Ab).length)→rnO f (linksL b) lv xs R t=some t'→TmOk t' (2*(places b.Ab).length):=by
 intro R
 induction R with
 | nil=>intro t t' _ ht e;obtain rfl:=Option.some.inj e;exact ht
 | cons k R ih =>
  intro t t' hR ht e
  have hsl:=qsR (node:=(k:Int)) (lv:=lv) h hf ht hx (linksL b).length (jb _)
  unfold rnO at e
  cases h1:(ndS f (linksL b) lv t (k:Int) (srcV (srcO xs (k:Int))) (linksL b).length).1
  ·rw [h1] at e
   exact ih _ _ (fun i hi=>hR i (jk _ hi)) ht e
  ·rw [h1] at e
   cases h2:spanB (ndS f (linksL b) lv t (k:Int) (srcV (srcO xs (k:Int))) (linksL b).length).2.Ah
   ·rw [h2] at e;cases e
   ·rw [h2] at e
    exact ih _ _ (fun i hi=>hR i (jk _ hi)) (qr8 ht (hR k (jt ..)) hsl) e
def runL (o:Option qy) (m:Nat):Flow (qy × Bool) (List qd × List qd × List Bool × Int):=match o with|some t'=>.nxt (t'.Bc,t'.Ah,t'.Bg,(m:Int))|none=>.ret (zT,false)
theorem qxG (h:blockB b=true) (hf:SpansS b c f) (hl:lv.length=(linksL b).length) (hx:SrcOk xs) {R:List Nat} (hR:∀ k,k ∈ R→k<2*(places b.Ab).length) (hRl:R.length≤1000) :
  Ev (fun n=>qla n b c (linksL b) lv xs (ints R)) (runR (rnO f (linksL b) lv xs R (zTm (2*(places b.Ab).length)))):=by
 have hpl:=qa4 (qX (qas h))
 have hcn:=qmL h
 obtain ⟨M,eM⟩:∃ M,M=2*(places b.Ab).length:=⟨_,rfl⟩
 have hM:M≤156:=by omega
 have main:∀ d j t,j+d=R.length→TmOk t M→Ev (fun n=>qcb b c (linksL b) lv xs (ints R) n t.Bc t.Ah t.Bg (j:Int)) (runL (rnO f (linksL b) lv xs (R.drop j) t) R.length):=by
  intro d
  induction d with
  | zero =>
   intro j t hj ht
   obtain rfl:j=R.length:=by omega
   rw [List.drop_length]
   refine Ev.succ ?_
   simp only [qcb,qdP,ql (jb _),cond_false]
   exact .done
  | succ d ih =>
   intro j t hj ht
   have hjl:j<R.length:=by omega
   have k1:=hR _ (jo hjl)
   have hi:=qoi hjl
   have hd:R.drop j=R[j]::R.drop (j+1):=jD hjl
   generalize R[j]=k at k1 hi hd
   rw [←eM] at k1
   have hs:=qw1 (node:=(k:Int)) h hf hl (by rw [←eM];exact ht) hx
   have hsl:=qsR (node:=(k:Int)) (lv:=lv) h hf (by rw [←eM];exact ht) hx (linksL b).length (jb _)
   have ir:idx t.Bg (k:Int)=some (gt t.Bg k):=qA (by rw [ht.r];exact k1)
   have ia:idx t.Ah (k:Int)=some (gt t.Ah k):=qA (by rw [ht.a];exact k1)
   have is:idx t.Bc (k:Int)=some (gt t.Bc k):=qA (by rw [ht.s];exact k1)
   have stp:∀ n,qcb b c (linksL b) lv xs (ints R) (n+1) t.Bc t.Ah t.Bg (j:Int)=(qh8 n b c (linksL b) lv xs t (k:Int)).bind fun o=>match o with
    | (r4,r5)=>bif (!r4) then qcb b c (linksL b) lv xs (ints R) n t.Bc t.Ah t.Bg ((j+1:Nat):Int) else bif (!spanB r5.Ah) then some (.ret (zT,false)) else
     qcb b c (linksL b) lv xs (ints R) n (setS t.Bc (k:Int) r5.Bc) (setS t.Ah (k:Int) r5.Ah) (setS t.Bg (k:Int) true) ((j+1:Nat):Int):=fun n=>by
    simp only [qcb,qdP,qk hjl,cond_true,hi,ja,qqp,ir,ia,is,wS j]
    rfl
   rw [hd]
   unfold rnO
   generalize ndS f (linksL b) lv t (k:Int) (srcV (srcO xs (k:Int))) (linksL b).length=s at hs hsl ⊢
   obtain ⟨s1,s2⟩:=s
   cases s1
   ·exact Ev.step stp (Ev.bind hs (ih (j+1) t (by omega) ht))
   ·cases hsp:spanB s2.Ah
    ·refine Ev.step stp (Ev.bind hs ?_)
     simp only [hsp];exact .done
    ·refine Ev.step stp (Ev.bind hs ?_)
     simp only [hsp]
     exact ih (j+1) (setT t k (true,s2)) (by omega) (qr8 ht k1 hsl)
 have hm1:mkS (M:Int) false=some (List.replicate M false):=qns (by omega)
 have hm2:mkS (M:Int) (⟨0,0⟩:qd)=some (List.replicate M zSp):=qns (by omega)
 have o2:=main R.length 0 (zTm M) (by omega) qtS
 rw [List.drop_zero] at o2
 rw [←eM] at hcn ⊢
 unfold qla qlm
 refine Ev.bind hcn ?_
 simp only [hm1,hm2,ja]
 refine Ev.bind o2 ?_
 cases rnO f (linksL b) lv xs R (zTm M)<;>exact .done
theorem qxR (h:blockB b=true) (hg:SpansS b c g) (hgf:∀ k s,(f k s).2=(g k s).2) (hf:SpansI b c ex f) (hl:lv.length=(linksL b).length) (hx:SrcOk xs) {R:List Nat} (hR:∀ j,∀ hj:j<R.length,R[j]<2*(places b.Ab).length∧R[j] ∉ R.take j) (hRl:R.length≤1000) :
  Ev (fun n=>qeW n (some ⟨some (viewE b ex),lv⟩) c xs (ints R)) (runR (rnO f (linksL b) lv xs R (zTm (2*(places b.Ab).length)))):=by
 have hpl:=qa4 (qX (qas h))
 have hnd:=qov (v:=viewE b ex) hpl
 have epl:(viewE b ex).places.length=(places b.Ab).length:=rfl
 rw [epl] at hnd
 obtain ⟨M,eM⟩:∃ M,M=2*(places b.Ab).length:=⟨_,rfl⟩
 have hM:M≤156:=by omega
 have main:∀ d j t,j+d=R.length→TmOk t M→Bare t M (R.take j)→Ev (fun n=>qaP (some ⟨some (viewE b ex),lv⟩) c xs (ints R) n t.Bc t.Ah t.Bg (j:Int)) (runL (rnO f (linksL b) lv xs (R.drop j) t) R.length):=by
  intro d
  induction d with
  | zero =>
   intro j t hj ht _
   obtain rfl:j=R.length:=by omega
   rw [List.drop_length]
   refine Ev.succ ?_
   simp only [qaP,qdP,ql (jb _),cond_false]
   exact .done
  | succ d ih =>
   intro j t hj ht hb
   have hjl:j<R.length:=by omega
   obtain ⟨k1,k2⟩:=hR j hjl
   have hi:=qoi hjl
   have htk:R.take (j+1)=R.take j++[R[j]]:=ju hjl
   have hd:R.drop j=R[j]::R.drop (j+1):=jD hjl
   generalize R[j]=k at k1 k2 hi htk hd
   rw [←eM] at k1
   have hp:=qwM (node:=(k:Int)) h hf hl (by rw [←eM];exact ht) hx.len
   have hsl:=qry (node:=(k:Int)) (lv:=lv) h hg hgf (by rw [←eM];exact ht) hx (linksL b).length (jb _)
   have hz:=qxo (f:=f) (b:=b) (lv:=lv) (t:=t) (xs:=xs) (node:=(k:Int)) (linksL b).length
   obtain ⟨b1,b2,b3⟩:=hb k k1 k2
   have ir:idx t.Bg (k:Int)=some (gt t.Bg k):=qA (by rw [ht.r];exact k1)
   have ia:idx t.Ah (k:Int)=some (gt t.Ah k):=qA (by rw [ht.a];exact k1)
   have is:idx t.Bc (k:Int)=some (gt t.Bc k):=qA (by rw [ht.s];exact k1)
   have ptp:∀ n,qaP (some ⟨some (viewE b ex),lv⟩) c xs (ints R) (n+1) t.Bc t.Ah t.Bg (j:Int)=(qdr n (some ⟨some (viewE b ex),lv⟩) c xs t (k:Int)).bind fun o=>match o with
    | (r3,r4)=>(bif r3 then some (!spanB r4.Ah) else some false).bind fun b3=>bif b3 then some (.ret (zT,false)) else
     qaP (some ⟨some (viewE b ex),lv⟩) c xs (ints R) n (setS t.Bc (k:Int) r4.Bc) (setS t.Ah (k:Int) r4.Ah) (setS t.Bg (k:Int) r3) ((j+1:Nat):Int):=fun n=>by
    simp only [qaP,qdP,qk hjl,cond_true,hi,ja,qpb,ir,ia,is,wS j]
    rfl
   rw [hd]
   unfold rnO
   generalize ndS f (linksL b) lv t (k:Int) (srcV (srcO xs (k:Int))) (linksL b).length=s at hp hsl hz ⊢
   obtain ⟨s1,s2⟩:=s
   cases s1
   ·have:=hz rfl
    simp only at this
    subst this
    have e1:setS t.Bc (k:Int) zSrc.Bc=t.Bc:=qoK (by rw [ht.s];exact k1) b3
    have e2:setS t.Ah (k:Int) zSrc.Ah=t.Ah:=qoK (by rw [ht.a];exact k1) b2
    have e3:setS t.Bg (k:Int) false=t.Bg:=qoK (by rw [ht.r];exact k1) b1
    refine Ev.step ptp (Ev.bind hp ?_)
    simp only [cond_false,ja,e1,e2,e3]
    exact ih (j+1) t (by omega) ht (fun i hi hni=>hb i hi (fun hm=>hni (by rw [htk];exact List.mem_append_left _ hm)))
   ·cases hsp:spanB s2.Ah
    ·refine Ev.step ptp (Ev.bind hp ?_)
     simp only [hsp];exact .done
    ·refine Ev.step ptp (Ev.bind hp ?_)
     simp only [hsp]
     refine ih (j+1) (setT t k (true,s2)) (by omega) (qr8 ht k1 hsl) (fun i hi hni=>?_)
     rw [htk] at hni
     have hne:i ≠ k:=fun e=>hni (List.mem_append_right _ (List.mem_singleton.2 e))
     have:=hb i hi (fun hm=>hni (List.mem_append_left _ hm))
     refine ⟨?_,?_,?_⟩
     ·show gt (setS _ _ _) i=_;rw [qp8 (by rw [ht.r];exact k1),if_neg hne];exact this.1
     ·show gt (setS _ _ _) i=_;rw [qp8 (by rw [ht.a];exact k1),if_neg hne];exact this.2.1
     ·show gt (setS _ _ _) i=_;rw [qp8 (by rw [ht.s];exact k1),if_neg hne];exact this.2.2
 have hm1:mkS (M:Int) false=some (List.replicate M false):=qns (by omega)
 have hm2:mkS (M:Int) (⟨0,0⟩:qd)=some (List.replicate M zSp):=qns (by omega)
 have o3:=main R.length 0 (zTm M) (by omega) qtS qww
 rw [List.drop_zero] at o3
 rw [←eM] at hnd ⊢
 unfold qeW qhc
 simp only [ja,hnd,hm1,hm2]
 refine Ev.bind o3 ?_
 cases rnO f (linksL b) lv xs R (zTm M)<;>exact .done
end
end Go.Fw


namespace Go.Fw
open Go Go.Proofs
open Go.RowKit (Below)
set_option maxRecDepth 100000
set_option maxHeartbeats 1600000
variable {n:Nat} {w:World} {cs1 cs2 cs3 cs4 cs5 cs6 cs7 cs8 cs9:List Value}
def qdj (n:Nat) (j:qa2):Option ((Option Tl20Work) × Int) :=
 (qdo n (⟨(⟨j.Af.Ay.Au⟩:qq),(⟨j.Af.Ab.Aa,j.Af.Ab.Ap,j.Af.Ab.Aj⟩:qe),j.Af.Ac⟩:qf) (⟨j.Ai.Bb,j.Ai.As,j.Ai.Az,j.Ai.Aq,j.Ai.Ba⟩:qr) j.Bi j.Ar).bind fun o=>match o with
  | (r2,r3) =>
   bif (r3 != 0) then some (none,r3) else
   (qe2 n (⟨(⟨j.Af.Ay.Au⟩:qq),(⟨j.Af.Ab.Aa,j.Af.Ab.Ap,j.Af.Ab.Aj⟩:qe),j.Af.Ac⟩:qf)).bind fun r4 =>
   (qg0 n r4 j.Bi).bind fun r5 =>
   some ((some (⟨(⟨(⟨(⟨j.Af.Ay.Au⟩:qq),(⟨j.Af.Ab.Aa,j.Af.Ab.Ap,j.Af.Ab.Aj⟩:qe),j.Af.Ac⟩:qf),(⟨j.Ai.Bb,j.Ai.As,j.Ai.Az,j.Ai.Aq,j.Ai.Ba⟩:qr),j.Bi,j.Ar⟩:qa2),r4,r5,r2⟩:Tl20Work)),0)
theorem qpC {A:Nat→Prop} (hA:∀ b,A b→old w b) {j:qa2} (ha1:GoT.R w A j cs1) {r:((Option Tl20Work) × Int)} (hF:qdj n j=some r):RetG Tryz.prog 33 [GoT.v qa2 cs1] w A r:=by
 obtain ⟨p1,k1,p2,k2,p3,k3,p4,k4,p5,k5,p6,k6,p7,k7,rfl,s1,s2,s3,s4,s5,s6,s7⟩:=qdf ha1
 have hg:=Rg.start hA
 refine qd1 Tryz.func33 rfl (m:=34) rfl rfl (fun h=>?_)
 refine zSR (qw h rfl rfl fun w1 bb1 h=>X4 13 0 0 0 0 h rfl ?_)
 obtain ⟨r1,hr1,hF⟩:=qc hF
 obtain ⟨r2,r3⟩:=r1
 refine qay (r2,r3) h (cB 59 rfl) (qlQ (qcE _ (h.oldS (s1.mono hg.old)) (h.oldS (s2.mono hg.old)) (h.oldS (s3.mono hg.old)) (h.oldS (s4.mono hg.old)) (h.oldS (s5.mono hg.old))) (qaI _) ⟨_,_,rfl,(h.oldS (s6.mono hg.old))⟩ ⟨_,_,rfl,(h.oldS (s7.mono hg.old))⟩ hr1) rfl rfl rfl rfl fun w2 S1 us1 hv1 hr2=>?_
 obtain ⟨S2,S3,cs2,us2,rfl,hv2,hr3⟩:=hv1.cons hr2
 obtain ⟨p8,k8,p9,k9,p10,k10,rfl,-,-,-⟩:=qcI (hv2.sh.own 0 rfl)
 obtain ⟨rfl,h⟩:=hv2.lastI hr3
 refine zp3 rfl (qj qa h rfl rfl rfl fun w3 bb2 h=>zs 0 h rfl fun w4 h=>X0 8 rfl (qh rfl hF ?_ ?_))<;>intro hF
 ·refine X0 6 rfl ?_
  obtain rfl:=qb hF
  have hv4:GoRs.Rs (ρ:=((Option Tl20Work) × Int)) h.wc (reg A w h.wc) (none,r3) [GoT.v (Option Tl20Work) [.pointer none],GoT.v Int [.int .i64 r3]]:=⟨_,_,rfl,rfl,⟨_,rfl,rfl⟩⟩
  exact qdD qa (ρ:=((Option Tl20Work) × Int)) (r:=(none,r3)) [GoT.v (Option Tl20Work) [.pointer none],GoT.v Int [.int .i64 r3]] h ⟨rfl,rfl,trivial⟩ hv4
 refine X1 5 2 h rfl (zcL h hF (qgY (qcE _ (h.oldS (s1.mono hg.old)) (h.oldS (s2.mono hg.old)) (h.oldS (s3.mono hg.old)) (h.oldS (s4.mono hg.old)) (h.oldS (s5.mono hg.old)))) rfl fun r4 w5 S5 p11 k11 h hF=>X0 3 rfl (rA [] [1,3] h rfl fun w6 h=>M3 95 [0,1,2,3,4,6] 1 1 0 (h.pick [1,3] rfl) rfl (Ao 5 127 rfl (zcL h hF (qhD (h.own 0 rfl) ⟨_,_,rfl,(h.oldS (s6.mono hg.old))⟩) rfl fun r5 w7 S6 p12 k12 h hF=>Ag (h.pick [2,4] rfl) (Aw 7 255 (fun w' hw=>qY qa [0,1,2,3] [.tmp 25,.tmp 26,.tmp 30,.tmp 31] rfl rfl rfl rfl rfl rfl rfl rfl) (h.pick [2,4] rfl) rfl ?_)))))
 refine Ao 8 511 rfl (qw h rfl rfl fun w8 bb3 h=>G0 2047 [9,10] (h.pick [3,5] rfl) rfl (Ad ?_))
 obtain rfl:=qb hF
 have hv5:GoRs.Rs (ρ:=((Option Tl20Work) × Int)) h.wc (reg A w h.wc) ((some (⟨(⟨(⟨(⟨j.Af.Ay.Au⟩:qq),(⟨j.Af.Ab.Aa,j.Af.Ab.Ap,j.Af.Ab.Aj⟩:qe),j.Af.Ac⟩:qf),(⟨j.Ai.Bb,j.Ai.As,j.Ai.Az,j.Ai.Aq,j.Ai.Ba⟩:qr),j.Bi,j.Ar⟩:qa2),r4,r5,r2⟩:Tl20Work)),0) [GoT.v (Option Tl20Work) [.pointer (some ⟨bb3,0,none⟩)],GoT.v Int [.int .i64 0]]:=⟨_,_,rfl,(hg.outR h (Rg.boxR (x:=(⟨(⟨(⟨(⟨j.Af.Ay.Au⟩:qq),(⟨j.Af.Ab.Aa,j.Af.Ab.Ap,j.Af.Ab.Aj⟩:qe),j.Af.Ac⟩:qf),(⟨j.Ai.Bb,j.Ai.As,j.Ai.Az,j.Ai.Aq,j.Ai.Ba⟩:qr),j.Bi,j.Ar⟩:qa2),r4,r5,r2⟩:Tl20Work)) 0 h rfl (⟨[.slice p1 j.Af.Ay.Au.length k1,.slice p2 j.Af.Ab.Aa.length k2,.slice p3 j.Af.Ab.Ap.length k3,.slice p4 j.Af.Ab.Aj.length k4,.slice p5 j.Af.Ac.length k5,.string j.Ai.Bb,.int .i64 j.Ai.As,.int .i64 j.Ai.Az,.int .i64 j.Ai.Aq,.int .i64 j.Ai.Ba,.slice p6 j.Bi.length k6,.slice p7 j.Ar.length k7],[.slice p11 r4.length k11,.slice p12 r5.length k12,.slice p8 r2.Bg.length k8,.slice p9 r2.Ah.length k9,.slice p10 r2.Bc.length k10],rfl,⟨[.slice p1 j.Af.Ay.Au.length k1,.slice p2 j.Af.Ab.Aa.length k2,.slice p3 j.Af.Ab.Ap.length k3,.slice p4 j.Af.Ab.Aj.length k4,.slice p5 j.Af.Ac.length k5],[.string j.Ai.Bb,.int .i64 j.Ai.As,.int .i64 j.Ai.Az,.int .i64 j.Ai.Aq,.int .i64 j.Ai.Ba,.slice p6 j.Bi.length k6,.slice p7 j.Ar.length k7],rfl,⟨[.slice p1 j.Af.Ay.Au.length k1],[.slice p2 j.Af.Ab.Aa.length k2,.slice p3 j.Af.Ab.Ap.length k3,.slice p4 j.Af.Ab.Aj.length k4,.slice p5 j.Af.Ac.length k5],rfl,⟨_,_,rfl,(hg.inS h s1)⟩,⟨[.slice p2 j.Af.Ab.Aa.length k2,.slice p3 j.Af.Ab.Ap.length k3,.slice p4 j.Af.Ab.Aj.length k4],[.slice p5 j.Af.Ac.length k5],rfl,⟨[.slice p2 j.Af.Ab.Aa.length k2],[.slice p3 j.Af.Ab.Ap.length k3,.slice p4 j.Af.Ab.Aj.length k4],rfl,⟨_,_,rfl,(hg.inS h s2)⟩,⟨[.slice p3 j.Af.Ab.Ap.length k3],[.slice p4 j.Af.Ab.Aj.length k4],rfl,⟨_,_,rfl,(hg.inS h s3)⟩,⟨_,_,rfl,(hg.inS h s4)⟩⟩⟩,⟨_,_,rfl,(hg.inS h s5)⟩⟩⟩,⟨[.string j.Ai.Bb,.int .i64 j.Ai.As,.int .i64 j.Ai.Az,.int .i64 j.Ai.Aq,.int .i64 j.Ai.Ba],[.slice p6 j.Bi.length k6,.slice p7 j.Ar.length k7],rfl,⟨[.string j.Ai.Bb],[.int .i64 j.Ai.As,.int .i64 j.Ai.Az,.int .i64 j.Ai.Aq,.int .i64 j.Ai.Ba],rfl,rfl,⟨[.int .i64 j.Ai.As],[.int .i64 j.Ai.Az,.int .i64 j.Ai.Aq,.int .i64 j.Ai.Ba],rfl,rfl,⟨[.int .i64 j.Ai.Az],[.int .i64 j.Ai.Aq,.int .i64 j.Ai.Ba],rfl,rfl,⟨[.int .i64 j.Ai.Aq],[.int .i64 j.Ai.Ba],rfl,rfl,rfl⟩⟩⟩⟩,⟨[.slice p6 j.Bi.length k6],[.slice p7 j.Ar.length k7],rfl,⟨_,_,rfl,(hg.inS h s6)⟩,⟨_,_,rfl,(hg.inS h s7)⟩⟩⟩⟩,⟨[.slice p11 r4.length k11],[.slice p12 r5.length k12,.slice p8 r2.Bg.length k8,.slice p9 r2.Ah.length k9,.slice p10 r2.Bc.length k10],rfl,(Rg.ownR 2 h rfl),⟨[.slice p12 r5.length k12],[.slice p8 r2.Bg.length k8,.slice p9 r2.Ah.length k9,.slice p10 r2.Bc.length k10],rfl,(Rg.ownR 1 h rfl),(Rg.ownR 4 h rfl)⟩⟩⟩))),⟨_,rfl,rfl⟩⟩
 exact qdD qa (ρ:=((Option Tl20Work) × Int)) (r:=((some (⟨(⟨(⟨(⟨j.Af.Ay.Au⟩:qq),(⟨j.Af.Ab.Aa,j.Af.Ab.Ap,j.Af.Ab.Aj⟩:qe),j.Af.Ac⟩:qf),(⟨j.Ai.Bb,j.Ai.As,j.Ai.Az,j.Ai.Aq,j.Ai.Ba⟩:qr),j.Bi,j.Ar⟩:qa2),r4,r5,r2⟩:Tl20Work)),0)) [GoT.v (Option Tl20Work) [.pointer (some ⟨bb3,0,none⟩)],GoT.v Int [.int .i64 0]] h ⟨rfl,rfl,trivial⟩ hv5
def qj3 (_:Nat) (mode:Int):Option Bool :=
 bif (mode==0) then some true else
 some (mode==1)
theorem qp5 {mode:Int}  {r:Bool} (hF:qj3 n mode=some r):RetV Tryz.prog 34 [.int .i64 mode] w r:=by
 refine zV 9 Tryz.func34 rfl fun h=>X0 9 rfl (qi (t:=5) hF rfl ?_ ?_)<;>intro hF
 ·exact X0 5 rfl (rb h hF rfl)
 exact X0 7 rfl (rb h hF rfl)
def qcC (a_w:(Option Tl20Work)) (node:Int):Nat→Int→Option (Flow (qg × Bool) Int)
 | 0,_=>none
 | n+1,i1 =>
  (a_w).bind fun y1 =>
  bif decide (i1<(y1.j.Ar.length:Int)) then
   (idx y1.j.Ar i1).bind fun y2 =>
   bif (y2.Bo==node) then
    (idx y1.j.Ar i1).bind fun y3 =>
    some (.ret (y3,true))
   else
    qcC a_w node n (W64 (i1+1))
  else
   some (.nxt i1)
def qfr (n:Nat) (a_w:(Option Tl20Work)) (node:Int):Option (qg × Bool) :=
 (qcC a_w node n 0).bind fun o=>match o with
 | .ret r=>some r
 | .nxt _ =>
  some ((⟨0,(⟨0,0⟩:qd),(⟨0,0⟩:qd)⟩:qg),false)
theorem qiu {a_w:(Option Tl20Work)} {node:Int} (ha1:GoT.R w (old w) a_w cs1) {r:(qg × Bool)} (hF:qfr n a_w node=some r):RetV Tryz.prog 62 [GoT.v (Option Tl20Work) cs1,.int .i64 node] w r:=by
 obtain ⟨p1,rfl,s1⟩:=qac ha1
 refine zV 37 Tryz.func62 rfl fun h=>zSR (qj qa h rfl rfl rfl fun w1 bb1 h=>X0 7 rfl ?_)
 obtain ⟨o1,hF,hK1⟩:=qc hF
 refine qm (rL (fun m e w'=>∃ (i1:Int),qcC a_w node m i1=some o1∧e=[(0,.pointer p1),(1,.int .i64 node),(4,.pointer (some ⟨bb1,0,none⟩)),(6,.int .i64 i1)]∧SH w w' [Ch.box bb1 [.int .i64 0,.int .i64 0,.int .i64 0,.int .i64 0,.int .i64 0] 116]) n ⟨_,hF,rfl,h⟩ rfl ?_)
 rintro m1 e1 w2 ⟨i1,hF,rfl,h⟩
 rcases m1 with _|m1
 ·cases hF
 refine X0 5 rfl ?_
 obtain ⟨y1,hy1,hF⟩:=qc hF
 obtain ⟨b1,o_1,cs2,rfl,-,hr1,hc1⟩:=PtR.get s1 hy1
 obtain ⟨p2,k1,p3,k2,p4,k3,p5,k4,p6,k5,p7,k6,p8,k7,p9,k8,p10,k9,p11,k10,p12,k11,p13,k12,rfl,s2,s3,s4,s5,s6,s7,s8,s9,s10,s11,s12,s13⟩:=qhv hr1
 refine zp3 rfl (zc 11 (hc1.below h.below) rfl (X0 3 rfl (qh rfl hF ?_ ?_)))<;>intro hF
 ·refine X0 9 rfl (zc 11 (hc1.below h.below) rfl (zp1 rfl ?_))
  obtain ⟨y2,hy2,hF,he1,b2,_,q1,cs3,hp1,hq1,hr2,hc3⟩:=s8.ix hF
  obtain rfl:=qF hr2
  refine zxe hp1 hq1 he1 rfl (zp1 rfl (zc 0 (hc3.below h.below) rfl (X0 3 rfl (qh rfl hF ?_ ?_))))<;>intro hF
  ·refine X0 6 rfl (zc 11 (hc1.below h.below) rfl (zp1 rfl ?_))
   obtain ⟨y3,hy3,hF,he2,b3,_,q2,cs4,hp2,hq2,hr3,hc5⟩:=s8.ix hF
   obtain rfl:=qF hr3
   refine zxe hp2 hq2 he2 rfl (zc 0 (hc5.below h.below) rfl (zs 0 h rfl fun w3 h=>X0 2 rfl ?_))
   obtain rfl:=qb hF;replace hF:=hK1
   obtain rfl:=qb hF
   exact qS qa (ρ:=(qg × Bool)) [GoT.v qg (qfp y3),GoT.v Bool [.bool true]] h ⟨⟨_,_,_,rfl,rfl,h.box 0 rfl,rfl⟩,rfl,trivial⟩ (PV.done h (qai h (qz (S:=fun _=>False) (qb7 y3)) (qW (qz (S:=fun _=>False) rfl)) (by rfl)))
  exact X0 7 rfl (rK ⟨_,hF,rfl,h⟩ rfl)
 refine qu rfl ?_
 obtain rfl:=qb hF;replace hF:=hK1
 refine zSR (r_v (qY qa [] [] rfl rfl rfl rfl rfl rfl rfl rfl) rfl (zs 0 h rfl fun w4 h=>X0 2 rfl ?_))
 obtain rfl:=qb hF
 exact qS qa (ρ:=(qg × Bool)) [GoT.v qg [.int .i64 0,.int .i64 0,.int .i64 0,.int .i64 0,.int .i64 0],GoT.v Bool [.bool false]] h ⟨⟨_,_,_,rfl,rfl,h.box 0 rfl,rfl⟩,rfl,trivial⟩ (PV.done h (qai h (qz (S:=fun _=>False) (qb7 (⟨0,(⟨0,0⟩:qd),(⟨0,0⟩:qd)⟩:qg))) (qW (qz (S:=fun _=>False) rfl)) (by rfl)))
def qeh (a_0:(Option Tl20Work)) (a_2:(List Int)) (r3:Bool):Nat→Int→Int→Option (Flow (Int × Bool) (Int × Int))
 | 0,_,_=>none
 | n+1,i1,i2 =>
  (
   bif decide (i2<(a_2.length:Int)) then some r3 else
   some false).bind fun b1 =>
  bif b1 then
   (idx a_2 i2).bind fun y1 =>
   (
    (a_0).bind fun y4 =>
    (qar n y1 0 (W64 ((y4.links.length:Int)-1))).bind fun r4 =>
    bif (!r4) then some true else
    (idx y4.live y1).bind fun y5 =>
    bif (!y5) then some true else
    (idx y4.links y1).bind fun y6 =>
    some (y6.Bk != i1)).bind fun b3 =>
   bif b3 then some (.ret (0,false)) else
   (a_0).bind fun y2 =>
   (idx y2.links y1).bind fun y3 =>
   qeh a_0 a_2 r3 n y3.To (W64 (i2+1))
  else
   some (.nxt (i1,i2))
def qkU (n:Nat) (a_0:(Option Tl20Work)) (a_1:Int) (a_2:(List Int)):Option (Int × Bool) :=
 (qfr n a_0 a_1).bind fun o=>match o with
  | (_,r3) =>
   (qeh a_0 a_2 r3 n a_1 0).bind fun o=>match o with
   | .ret r=>some r
   | .nxt (i1,_) =>
    some (i1,r3)
theorem qqh {a_0:(Option Tl20Work)} {a_1:Int} {a_2:(List Int)} (ha1:GoT.R w (old w) a_0 cs1) (ha2:GoT.R w (old w) a_2 cs2) {r:(Int × Bool)} (hF:qkU n a_0 a_1 a_2=some r):RetV Tryz.prog 35 [GoT.v (Option Tl20Work) cs1,.int .i64 a_1,GoT.v (List Int) cs2] w r:=by
 obtain ⟨p1,rfl,s1⟩:=qac ha1
 obtain ⟨p2,k1,rfl,s2⟩:=ha2
 refine zV 74 Tryz.func35 rfl fun h=>X0 9 rfl ?_
 obtain ⟨r1,hr1,hF⟩:=qc hF
 obtain ⟨r2,r3⟩:=r1
 refine qay (r2,r3) h (cB 62 rfl) (qiu (h.old s1) hr1) rfl rfl rfl rfl fun w1 S1 us1 hv1 hr2=>?_
 obtain ⟨S2,S3,cs3,us2,rfl,hv2,hr3⟩:=hv1.cons hr2
 obtain rfl:=qF (hv2.sh.own 0 rfl)
 obtain ⟨rfl,h⟩:=hv2.lastB hr3
 refine zp3 rfl (qj qa h rfl rfl rfl fun w2 bb1 h=>zs 0 h rfl fun w3 h=>X0 12 rfl ?_)
 obtain ⟨o1,hF,hK1⟩:=qc hF
 refine qm ?_
 replace h:=h.pick [] rfl
 refine rL (fun m e w'=>∃ (i1:Int) (i2:Int),qeh a_0 a_2 r3 m i1 i2=some o1∧e=[(0,.pointer p1),(2,.slice p2 a_2.length k1),(9,.bool r3),(10,.int .i64 i1),(11,.int .i64 i2)]∧SH w w' []) n ⟨_,_,hF,rfl,h⟩ rfl ?_
 rintro m1 e1 w4 ⟨i1,i2,hF,rfl,h⟩
 rcases m1 with _|m1
 ·cases hF
 refine zSS ?_
 obtain ⟨KF2,hKF2,o3,hF,hK3⟩:=bindE hF
 refine qbp (fun e w'=>∃ (b1:Bool),KF2 b1=some o1∧e=[(0,.pointer p1),(2,.slice p2 a_2.length k1),(9,.bool r3),(10,.int .i64 i1),(11,.int .i64 i2),(26,.bool b1)]∧SH w w' []) ?_ ?_
 ·refine X0 6 rfl (qi (t:=24) hF rfl ?_ ?_)<;>intro hF
  ·refine X0 4 rfl ?_
   obtain rfl:=qb hF
   exact rG ⟨_,hK3,rfl,h⟩ rfl
  refine X0 3 rfl ?_
  obtain rfl:=qb hF
  exact rG ⟨_,hK3,rfl,h⟩ rfl
 rintro e3 w7 ⟨b1,hF,rfl,h⟩
 subst hKF2
 refine qh rfl hF ?_ ?_<;>intro hF
 ·refine X0 7 rfl ?_
  obtain ⟨y1,hy1,hF,he1,b2,_,q1,cs4,hp1,hq1,rfl,hc2⟩:=s2.ix hF
  refine zxe hp1 hq1 he1 rfl (zc 0 (hc2.below h.below) rfl (X0 4 rfl ?_))
  obtain ⟨KF1,hKF1,o2,hF,hK2⟩:=bindE hF
  refine qbp (fun e w'=>∃ (b3:Bool),KF1 b3=some o1∧e=[(0,.pointer p1),(2,.slice p2 a_2.length k1),(9,.bool r3),(11,.int .i64 i2),(12,.int .i64 y1),(63,.bool b3)]∧SH w w' []) ?_ ?_
  ·refine X0 3 rfl ?_
   obtain ⟨y4,hy4,hF⟩:=qc hF
   obtain ⟨b6,o_4,cs7,rfl,-,hr8,hc6⟩:=PtR.get s1 hy4
   obtain ⟨p15,k14,p16,k15,p17,k16,p18,k17,p19,k18,p20,k19,p21,k20,p22,k21,p23,k22,p24,k23,p25,k24,p26,k25,rfl,s15,s16,s17,s18,s19,s20,s21,s22,s23,s24,s25,s26⟩:=qhv hr8
   refine zp2 rfl (zc 12 (hc6.below h.below) rfl (zp2 rfl (zcB h hF qaf rfl fun r4 w5 h hF=>zp2 rfl (qi (t:=42) hF rfl ?_ ?_))))<;>intro hF
   ·refine X0 22 rfl ?_
    obtain rfl:=qb hF
    exact rG ⟨_,hK2,rfl,h⟩ rfl
   refine X0 7 rfl (zc 13 (hc6.below h.below) rfl (X0 3 rfl ?_))
   obtain ⟨y5,hy5,hF,he3,b7,_,q3,cs8,hp3,hq3,rfl,hc7⟩:=s23.ix hF
   refine zxe hp3 hq3 he3 rfl (X0 1 rfl (zc 0 (hc7.below h.below) rfl (X0 4 rfl (qi (t:=52) hF rfl ?_ ?_))))<;>intro hF
   ·refine X0 12 rfl ?_
    obtain rfl:=qb hF
    exact rG ⟨_,hK2,rfl,h⟩ rfl
   refine X0 7 rfl (zc 12 (hc6.below h.below) rfl (X0 3 rfl ?_))
   obtain ⟨y6,hy6,hF,he4,b8,_,q4,cs9,hp4,hq4,hr11,hc8⟩:=s22.ix hF
   obtain rfl:=qam hr11
   refine zxe hp4 hq4 he4 rfl (X0 3 rfl (zc 0 (hc8.below h.below) rfl (X0 6 rfl ?_)))
   obtain rfl:=qb hF
   exact rG ⟨_,hK2,rfl,h⟩ rfl
  rintro e2 w6 ⟨b3,hF,rfl,h⟩
  subst hKF1
  refine qh rfl hF ?_ ?_<;>intro hF
  ·refine X0 5 rfl ?_
   obtain rfl:=qb hF;replace hF:=hK1
   obtain rfl:=qb hF
   exact qS qa (ρ:=(Int × Bool)) [GoT.v Int [.int .i64 0],GoT.v Bool [.bool false]] h ⟨rfl,rfl,trivial⟩ (PV.done h (qai h (qz (S:=fun _=>False) rfl) (qW (qz (S:=fun _=>False) rfl)) (by rfl)))
  refine X0 3 rfl ?_
  obtain ⟨y2,hy2,hF⟩:=qc hF
  obtain ⟨b4,o_2,cs5,rfl,-,hr6,hc4⟩:=PtR.get s1 hy2
  obtain ⟨p3,k2,p4,k3,p5,k4,p6,k5,p7,k6,p8,k7,p9,k8,p10,k9,p11,k10,p12,k11,p13,k12,p14,k13,rfl,s3,s4,s5,s6,s7,s8,s9,s10,s11,s12,s13,s14⟩:=qhv hr6
  refine zp2 rfl (zc 12 (hc4.below h.below) rfl (zp1 rfl ?_))
  obtain ⟨y3,hy3,hF,he2,b5,_,q2,cs6,hp2,hq2,hr7,hc5⟩:=s10.ix hF
  obtain rfl:=qam hr7
  exact zxe hp2 hq2 he2 rfl (zp1 rfl (zc 1 (hc5.below h.below) rfl (X0 8 rfl (rK ⟨_,_,hF,rfl,h⟩ rfl))))
 refine qu rfl ?_
 obtain rfl:=qb hF;replace hF:=hK1
 refine X0 7 rfl ?_
 obtain rfl:=qb hF
 exact qS qa (ρ:=(Int × Bool)) [GoT.v Int [.int .i64 i1],GoT.v Bool [.bool r3]] h ⟨rfl,rfl,trivial⟩ (PV.done h (qai h (qz (S:=fun _=>False) rfl) (qW (qz (S:=fun _=>False) rfl)) (by rfl)))
def qfG (_:Nat) (s:qd) (mode:Int):Option Int :=
 bif (mode==1) then some s.Bd else
 some s.Ak
theorem qhE {s:qd} {mode:Int} (ha1:GoT.R w (old w) s cs1) {r:Int} (hF:qfG n s mode=some r):RetV Tryz.prog 64 [GoT.v qd cs1,.int .i64 mode] w r:=by
 obtain rfl:=qn ha1
 refine zV 11 Tryz.func64 rfl fun h=>zSR (qw h rfl rfl fun w1 bb1 h=>X0 8 rfl (qh rfl hF ?_ ?_))<;>intro hF
 ·exact X1 6 0 h rfl (ri h hF rfl)
 exact X1 7 0 h rfl (ri h hF rfl)
def qlq (n:Nat) (a_w:(Option Tl20Work)) (link:Int) (mode:Int):Option Int :=
 (a_w).bind fun y1 =>
 (idx y1.links link).bind fun y2 =>
 (idx y1.t.Bc y2.Bk).bind fun y3 =>
 (qga n (⟨(⟨y1.j.Af.Ay.Au⟩:qq),(⟨y1.j.Af.Ab.Aa,y1.j.Af.Ab.Ap,y1.j.Af.Ab.Aj⟩:qe),y1.j.Af.Ac⟩:qf) (⟨y1.j.Ai.Bb,y1.j.Ai.As,y1.j.Ai.Az,y1.j.Ai.Aq,y1.j.Ai.Ba⟩:qr) y2 y3).bind fun o=>match o with
  | (r2,_) =>
   (qfG n r2 mode).bind fun r4 =>
   some r4
theorem qpn {a_w:(Option Tl20Work)} {link:Int} {mode:Int} (ha1:GoT.R w (old w) a_w cs1) {r:Int} (hF:qlq n a_w link mode=some r):RetV Tryz.prog 65 [GoT.v (Option Tl20Work) cs1,.int .i64 link,.int .i64 mode] w r:=by
 obtain ⟨p1,rfl,s1⟩:=qac ha1
 refine zV 44 Tryz.func65 rfl fun h=>X0 7 rfl ?_
 obtain ⟨y1,hy1,hF⟩:=qc hF
 obtain ⟨b1,o_1,cs2,rfl,-,hr1,hc1⟩:=PtR.get s1 hy1
 obtain ⟨p2,k1,p3,k2,p4,k3,p5,k4,p6,k5,p7,k6,p8,k7,p9,k8,p10,k9,p11,k10,p12,k11,p13,k12,rfl,s2,s3,s4,s5,s6,s7,s8,s9,s10,s11,s12,s13⟩:=qhv hr1
 refine zp2 rfl (zc 12 (hc1.below h.below) rfl (zp1 rfl ?_))
 obtain ⟨y2,hy2,hF,he1,b2,_,q1,cs3,hp1,hq1,hr2,hc2⟩:=s9.ix hF
 obtain rfl:=qam hr2
 refine zxe hp1 hq1 he1 rfl (zc 0 (hc2.below h.below) rfl (qj qa h rfl rfl rfl fun w1 bb1 h=>zs 0 h rfl fun w2 h=>zNS (rA [] [0] h rfl fun w3 h=>M0 15 [0,1,2,3] (h.pick [0] rfl) rfl (Al 4 31 0 hc1 (h.pick [0] rfl) rfl (M0 511 [5,6,7,8] (h.pick [0] rfl) rfl (Al 9 1023 5 hc1 (h.pick [0] rfl) rfl (M1 32767 [10,11,12,13,14] 0 (h.pick [0] rfl) rfl (Al 15 65535 16 hc1 (h.pick [0] rfl) rfl (M1 262143 [16,17] 0 (h.pick [0] rfl) rfl ?_)))))))))
 obtain ⟨y3,hy3,hF,he2,b3,_,q2,cs4,hp2,hq2,hr3,hc3⟩:=s13.ix hF
 obtain rfl:=qn hr3
 refine Ae 18 524287 hp2 hq2 he2 (h.pick [0] rfl) rfl (Al 19 1048575 0 hc3 (h.pick [0] rfl) rfl ?_)
 obtain ⟨r1,hr4,hF⟩:=qc hF
 obtain ⟨r2,r3⟩:=r1
 refine qkV (fun e w'=>∃ (bb9:Nat),e=[(2,.int .i64 mode),(8,.pointer (some ⟨bb9,0,none⟩))]∧SH w w' [Ch.box bb9 (qfM r2) 86,Ch.box bb1 (qi7 y2) 121]) 0 (bits 28 268435455) ?_ ?_
 ·intro K
  refine qnl 20 24 25 rfl rfl rfl (bits 28 2097151) (bits 28 17825791) (bits 28 34603007) (by kernel_rfl) (by kernel_rfl) (by kernel_rfl) (by kernel_rfl) ?_ ?_ ?_
  ·refine qay (r2,r3) h (cB 98 rfl) (qby (qcE _ (h.oldS s2) (h.oldS s3) (h.oldS s4) (h.oldS s5) (h.oldS s6)) (qaI _) (qa5 y2) (qv y3) hr4) rfl rfl rfl rfl fun w15 S9 us5 hv7 hr11=>?_
   obtain ⟨S10,S11,cs9,us6,rfl,hv8,hr12⟩:=hv7.cons hr11
   obtain rfl:=qn (hv8.sh.own 0 rfl)
   obtain ⟨cs10,rfl,h⟩:=hv8.last hr12
   obtain rfl:=qn (h.own 0 rfl)
   refine G0 16777215 [21,22,23] (h.pick [2] rfl) rfl (At 24 25 33554431 50331647 rfl ?_ ?_)
   ·refine qj qa h rfl rfl rfl fun w16 bb7 h=>Ag (h.pick [3] rfl) (Ao 25 67108863 rfl (qj qa h rfl rfl rfl fun w17 bb8 h=>Ag (h.pick [4] rfl) (Ao 26 134217727 rfl (zs 1 h rfl fun w18 h=>Ag (h.pick [4] rfl) (Ao 27 268435455 rfl (zs 0 h rfl fun w19 h=>Ag (h.pick [4] rfl) ?_))))))
    replace h:=h.pick [1,4] rfl
    exact qcv [(2,_),(8,_)] ⟨rfl,rfl,trivial⟩ (K _ _ ⟨_,rfl,h⟩)
   refine qj qa h rfl rfl rfl fun w16 bb7 h=>Ag (h.pick [3] rfl) (Ao 24 67108863 rfl (qj qa h rfl rfl rfl fun w17 bb8 h=>Ag (h.pick [4] rfl) (Ao 26 134217727 rfl (zs 0 h rfl fun w18 h=>Ag (h.pick [4] rfl) (Ao 27 268435455 rfl (zs 1 h rfl fun w19 h=>Ag (h.pick [4] rfl) ?_))))))
   replace h:=h.pick [0,4] rfl
   exact qcv [(2,_),(8,_)] ⟨rfl,rfl,trivial⟩ (K _ _ ⟨_,rfl,h⟩)
  ·refine qj qa h rfl rfl rfl fun w15 bb7 h=>Ag (h.pick [1] rfl) (At 20 25 18874367 51380223 rfl ?_ ?_)
   ·refine qay (r2,r3) h (cB 98 rfl) (qby (qcE _ (h.oldS s2) (h.oldS s3) (h.oldS s4) (h.oldS s5) (h.oldS s6)) (qaI _) (qa5 y2) (qv y3) hr4) rfl rfl rfl rfl fun w16 S9 us5 hv7 hr11=>?_
    obtain ⟨S10,S11,cs9,us6,rfl,hv8,hr12⟩:=hv7.cons hr11
    obtain rfl:=qn (hv8.sh.own 0 rfl)
    obtain ⟨cs10,rfl,h⟩:=hv8.last hr12
    obtain rfl:=qn (h.own 0 rfl)
    refine G0 33554431 [21,22,23] (h.pick [3] rfl) rfl (Ao 25 67108863 rfl (qj qa h rfl rfl rfl fun w17 bb8 h=>Ag (h.pick [4] rfl) (Ao 26 134217727 rfl (zs 3 h rfl fun w18 h=>Ag (h.pick [4] rfl) (Ao 27 268435455 rfl (zs 0 h rfl fun w19 h=>Ag (h.pick [4] rfl) ?_))))))
    replace h:=h.pick [3,4] rfl
    exact qcv [(2,_),(8,_)] ⟨rfl,rfl,trivial⟩ (K _ _ ⟨_,rfl,h⟩)
   refine qj qa h rfl rfl rfl fun w16 bb8 h=>Ag (h.pick [2] rfl) (Ao 20 52428799 rfl (qay (r2,r3) h (cB 98 rfl) (qby (qcE _ (h.oldS s2) (h.oldS s3) (h.oldS s4) (h.oldS s5) (h.oldS s6)) (qaI _) (qa5 y2) (qv y3) hr4) rfl rfl rfl rfl fun w17 S9 us5 hv7 hr11=>?_))
   obtain ⟨S10,S11,cs9,us6,rfl,hv8,hr12⟩:=hv7.cons hr11
   obtain rfl:=qn (hv8.sh.own 0 rfl)
   obtain ⟨cs10,rfl,h⟩:=hv8.last hr12
   obtain rfl:=qn (h.own 0 rfl)
   refine G0 67108863 [21,22,23] (h.pick [4] rfl) rfl (Ao 26 134217727 rfl (zs 3 h rfl fun w18 h=>Ag (h.pick [4] rfl) (Ao 27 268435455 rfl (zs 2 h rfl fun w19 h=>Ag (h.pick [4] rfl) ?_))))
   replace h:=h.pick [3,4] rfl
   exact qcv [(2,_),(8,_)] ⟨rfl,rfl,trivial⟩ (K _ _ ⟨_,rfl,h⟩)
  refine qj qa h rfl rfl rfl fun w15 bb7 h=>Ag (h.pick [1] rfl) (At 20 24 35651583 51380223 rfl ?_ ?_)
  ·refine qay (r2,r3) h (cB 98 rfl) (qby (qcE _ (h.oldS s2) (h.oldS s3) (h.oldS s4) (h.oldS s5) (h.oldS s6)) (qaI _) (qa5 y2) (qv y3) hr4) rfl rfl rfl rfl fun w16 S9 us5 hv7 hr11=>?_
   obtain ⟨S10,S11,cs9,us6,rfl,hv8,hr12⟩:=hv7.cons hr11
   obtain rfl:=qn (hv8.sh.own 0 rfl)
   obtain ⟨cs10,rfl,h⟩:=hv8.last hr12
   obtain rfl:=qn (h.own 0 rfl)
   refine G0 50331647 [21,22,23] (h.pick [3] rfl) rfl (Ao 24 67108863 rfl (qj qa h rfl rfl rfl fun w17 bb8 h=>Ag (h.pick [4] rfl) (Ao 26 134217727 rfl (zs 0 h rfl fun w18 h=>Ag (h.pick [4] rfl) (Ao 27 268435455 rfl (zs 3 h rfl fun w19 h=>Ag (h.pick [4] rfl) ?_))))))
   replace h:=h.pick [0,4] rfl
   exact qcv [(2,_),(8,_)] ⟨rfl,rfl,trivial⟩ (K _ _ ⟨_,rfl,h⟩)
  refine qj qa h rfl rfl rfl fun w16 bb8 h=>Ag (h.pick [2] rfl) (Ao 20 52428799 rfl (qay (r2,r3) h (cB 98 rfl) (qby (qcE _ (h.oldS s2) (h.oldS s3) (h.oldS s4) (h.oldS s5) (h.oldS s6)) (qaI _) (qa5 y2) (qv y3) hr4) rfl rfl rfl rfl fun w17 S9 us5 hv7 hr11=>?_))
  obtain ⟨S10,S11,cs9,us6,rfl,hv8,hr12⟩:=hv7.cons hr11
  obtain rfl:=qn (hv8.sh.own 0 rfl)
  obtain ⟨cs10,rfl,h⟩:=hv8.last hr12
  obtain rfl:=qn (h.own 0 rfl)
  refine G0 67108863 [21,22,23] (h.pick [4] rfl) rfl (Ao 26 134217727 rfl (zs 2 h rfl fun w18 h=>Ag (h.pick [4] rfl) (Ao 27 268435455 rfl (zs 3 h rfl fun w19 h=>Ag (h.pick [4] rfl) ?_))))
  replace h:=h.pick [2,4] rfl
  exact qcv [(2,_),(8,_)] ⟨rfl,rfl,trivial⟩ (K _ _ ⟨_,rfl,h⟩)
 rintro e2 w20 ⟨bb9,rfl,h⟩
 exact Ad (X1 4 0 h rfl (zcI h hF (qhE (qv r2)) rfl fun r4 w21 h hF=>X0 2 rfl (ri h hF rfl)))
def qdb (a_w:(Option Tl20Work)) (list:(List Int)) (mode:Int):Nat→Int→Int→Option (Int × Int)
 | 0,_,_=>none
 | n+1,i1,i2 =>
  bif decide (i2<(list.length:Int)) then
   (idx list i2).bind fun y1 =>
   (qlq n a_w y1 mode).bind fun r5 =>
   qdb a_w list mode n (W64 (i1+r5)) (W64 (i2+1))
  else
   some (i1,i2)
def qhx (n:Nat) (a_w:(Option Tl20Work)) (start:Int) (list:(List Int)) (mode:Int):Option Int :=
 (qfr n a_w start).bind fun o=>match o with
  | (r2,_) =>
   (qfG n (⟨r2.Ah.Ak,r2.Ah.Bd⟩:qd) mode).bind fun r4 =>
   (qdb a_w list mode n r4 0).bind fun o=>match o with
   | (i1,_) =>
    some i1
theorem qnY {a_w:(Option Tl20Work)} {start:Int} {list:(List Int)} {mode:Int} (ha1:GoT.R w (old w) a_w cs1) (ha2:GoT.R w (old w) list cs2) {r:Int} (hF:qhx n a_w start list mode=some r):RetV Tryz.prog 36 [GoT.v (Option Tl20Work) cs1,.int .i64 start,GoT.v (List Int) cs2,.int .i64 mode] w r:=by
 obtain ⟨p1,rfl,s1⟩:=qac ha1
 obtain ⟨p2,k1,rfl,s2⟩:=ha2
 refine zV 39 Tryz.func36 rfl fun h=>X0 8 rfl ?_
 obtain ⟨r1,hr1,hF⟩:=qc hF
 obtain ⟨r2,r3⟩:=r1
 refine qay (r2,r3) h (cB 62 rfl) (qiu (h.old s1) hr1) rfl rfl rfl rfl fun w1 S1 us1 hv1 hr2=>?_
 obtain ⟨S2,S3,cs3,us2,rfl,hv2,hr3⟩:=hv1.cons hr2
 obtain rfl:=qF (hv2.sh.own 0 rfl)
 obtain ⟨rfl,h⟩:=hv2.lastB hr3
 refine zp3 rfl (qj qa h rfl rfl rfl fun w2 bb1 h=>zs 0 h rfl fun w3 h=>X1 7 0 h rfl (zcI h hF (qhE (qv _)) rfl fun r4 w4 h hF=>X0 7 rfl ?_))
 obtain ⟨o1,hF,hK1⟩:=qc hF
 refine qm ?_
 replace h:=h.pick [] rfl
 refine rL (fun m e w'=>∃ (i1:Int) (i2:Int),qdb a_w list mode m i1 i2=some o1∧e=[(0,.pointer p1),(2,.slice p2 list.length k1),(3,.int .i64 mode),(11,.int .i64 i1),(12,.int .i64 i2)]∧SH w w' []) n ⟨_,_,hF,rfl,h⟩ rfl ?_
 rintro m1 e1 w5 ⟨i1,i2,hF,rfl,h⟩
 rcases m1 with _|m1
 ·cases hF
 refine X0 8 rfl (qh rfl hF ?_ ?_)<;>intro hF
 ·refine X0 8 rfl ?_
  obtain ⟨y1,hy1,hF,he1,b1,_,q1,cs4,hp1,hq1,rfl,hc2⟩:=s2.ix hF
  exact zxe hp1 hq1 he1 rfl (zc 0 (hc2.below h.below) rfl (zp1 rfl (zcI h hF (qpn (h.old s1)) rfl fun r5 w6 h hF=>X0 9 rfl (rK ⟨_,_,hF,rfl,h⟩ rfl))))
 refine qu rfl ?_
 obtain rfl:=qb hF;replace hF:=hK1
 exact X0 5 rfl (ri h hF rfl)
def qh4 (n:Nat) (j:qa2) (start:Int) (links:(List Int)) (mode:Int):Option ((Option Tl20Work) × Int) :=
 (qdj n j).bind fun o=>match o with
  | (r2,r3) =>
   bif (r3 != 0) then some (none,r3) else
   (qj3 n mode).bind fun r4 =>
   bif (!r4) then some (none,2) else
   (qkU n r2 start links).bind fun o=>match o with
    | (_,r7) =>
     bif (!r7) then some (none,5) else
     some (r2,0)
theorem qp3 {A:Nat→Prop} (hA:∀ b,A b→old w b) {j:qa2} {start:Int} {links:(List Int)} {mode:Int} (ha1:GoT.R w A j cs1) (ha2:GoT.R w A links cs2) {r:((Option Tl20Work) × Int)} (hF:qh4 n j start links mode=some r):RetG Tryz.prog 46 [GoT.v qa2 cs1,.int .i64 start,GoT.v (List Int) cs2,.int .i64 mode] w A r:=by
 obtain ⟨p1,k1,p2,k2,p3,k3,p4,k4,p5,k5,p6,k6,p7,k7,rfl,s1,s2,s3,s4,s5,s6,s7⟩:=qdf ha1
 obtain ⟨p8,k8,rfl,s8⟩:=ha2
 have hg:=Rg.start hA
 refine qd1 Tryz.func46 rfl (m:=35) rfl rfl (fun h=>?_)
 refine zSR (qw h rfl rfl fun w1 bb1 h=>X1 6 0 h rfl ?_)
 obtain ⟨r1,hr1,hF⟩:=qc hF
 obtain ⟨r2,r3⟩:=r1
 refine qhC (r2,r3) hg h (cB 33 rfl) (qpC (hg.regOld h) (hg.inR h ha1) hr1) rfl rfl rfl rfl fun w2 us1 B1 hg1 hu1 hz1 hv1=>?_
 have hL1:=h.ext hu1.below
 have s9:=Up.S hg h hu1 s8
 have hb1:=h.below.trans (hu1.below.mono h.below.size)
 replace h:=hz1
 obtain ⟨cs3,us2,rfl,hr2,hv2⟩:=qj8 hv1
 obtain ⟨p9,rfl,s10⟩:=qac hr2
 obtain ⟨cs4,rfl,hr3⟩:=qjK hv2
 obtain rfl:=hr3
 refine X0 12 rfl (qh rfl hF ?_ ?_)<;>intro hF
 ·refine X0 6 rfl ?_
  obtain rfl:=qb hF
  have hv3:GoRs.Rs (ρ:=((Option Tl20Work) × Int)) h.wc (reg A w h.wc) (none,r3) [GoT.v (Option Tl20Work) [.pointer none],GoT.v Int [.int .i64 r3]]:=⟨_,_,rfl,rfl,⟨_,rfl,rfl⟩⟩
  exact qdD qa (ρ:=((Option Tl20Work) × Int)) (r:=(none,r3)) [GoT.v (Option Tl20Work) [.pointer none],GoT.v Int [.int .i64 r3]] (h.unbase hg1.below (show NoD [] from trivial)) ⟨rfl,rfl,trivial⟩ hv3
 refine X0 5 rfl (zcB h hF qp5 rfl fun r4 w3 h hF=>X0 2 rfl (qh rfl hF ?_ ?_))<;>intro hF
 ·refine X0 5 rfl ?_
  obtain rfl:=qb hF
  have hv4:GoRs.Rs (ρ:=((Option Tl20Work) × Int)) h.wc (reg A w h.wc) (none,2) [GoT.v (Option Tl20Work) [.pointer none],GoT.v Int [.int .i64 2]]:=⟨_,_,rfl,rfl,⟨_,rfl,rfl⟩⟩
  exact qdD qa (ρ:=((Option Tl20Work) × Int)) (r:=(none,2)) [GoT.v (Option Tl20Work) [.pointer none],GoT.v Int [.int .i64 2]] (h.unbase hg1.below (show NoD [] from trivial)) ⟨rfl,rfl,trivial⟩ hv4
 refine X0 6 rfl ?_
 obtain ⟨r5,hr5,hF⟩:=qc hF
 obtain ⟨r6,r7⟩:=r5
 refine qay (r6,r7) h (cB 35 rfl) (qqh (h.old (GoT.mono s10 hg1.old)) ⟨_,_,rfl,(h.oldS (s9.mono hg1.old))⟩ hr5) rfl rfl rfl rfl fun w4 S1 us3 hv5 hr6=>?_
 obtain ⟨S2,us4,rfl,hv6,hr7⟩:=hv5.consI hr6
 obtain ⟨rfl,h⟩:=hv6.lastB hr7
 refine X0 12 rfl (qh rfl hF ?_ ?_)<;>intro hF
 ·refine X0 5 rfl ?_
  obtain rfl:=qb hF
  have hv8:GoRs.Rs (ρ:=((Option Tl20Work) × Int)) h.wc (reg A w h.wc) (none,5) [GoT.v (Option Tl20Work) [.pointer none],GoT.v Int [.int .i64 5]]:=⟨_,_,rfl,rfl,⟨_,rfl,rfl⟩⟩
  exact qdD qa (ρ:=((Option Tl20Work) × Int)) (r:=(none,5)) [GoT.v (Option Tl20Work) [.pointer none],GoT.v Int [.int .i64 5]] (h.unbase hg1.below (show NoD [] from trivial)) ⟨rfl,rfl,trivial⟩ hv8
 refine X0 7 rfl ?_
 obtain rfl:=qb hF
 have hv9:GoRs.Rs (ρ:=((Option Tl20Work) × Int)) h.wc (reg A w h.wc) (r2,0) [GoT.v (Option Tl20Work) [.pointer p9],GoT.v Int [.int .i64 0]]:=⟨_,_,rfl,(hg1.outR h (hg1.inR h s10)),⟨_,rfl,rfl⟩⟩
 exact qdD qa (ρ:=((Option Tl20Work) × Int)) (r:=(r2,0)) [GoT.v (Option Tl20Work) [.pointer p9],GoT.v Int [.int .i64 0]] (h.unbase hg1.below (show NoD [] from trivial)) ⟨rfl,rfl,trivial⟩ hv9
def qfl (a_0:(Option Tl20Work)) (a_2:(List Int)) (a_3:Int):Nat→Int→Int→Int→Option (Int × Int × Int)
 | 0,_,_,_=>none
 | n+1,i1,i2,i3 =>
  bif decide (i3<(a_2.length:Int)) then
   (a_0).bind fun y1 =>
   (idx a_2 i3).bind fun y2 =>
   (idx y1.links y2).bind fun y3 =>
   (qbQ n (⟨(⟨y1.j.Af.Ay.Au⟩:qq),(⟨y1.j.Af.Ab.Aa,y1.j.Af.Ab.Ap,y1.j.Af.Ab.Aj⟩:qe),y1.j.Af.Ac⟩:qf) (⟨y1.j.Ai.Bb,y1.j.Ai.As,y1.j.Ai.Az,y1.j.Ai.Aq,y1.j.Ai.Ba⟩:qr) y3 i2 a_3).bind fun r6 =>
   (qcf n (⟨(⟨y1.j.Af.Ay.Au⟩:qq),(⟨y1.j.Af.Ab.Aa,y1.j.Af.Ab.Ap,y1.j.Af.Ab.Aj⟩:qe),y1.j.Af.Ac⟩:qf) y3 i2 a_3).bind fun r7 =>
   qfl a_0 a_2 a_3 n (W64 (i1+r6)) r7 (W64 (i3+1))
  else
   some (i1,i2,i3)
def qk3 (n:Nat) (a_0:(Option Tl20Work)) (a_1:Int) (a_2:(List Int)) (a_3:Int):Option (Int × Int) :=
 (qfr n a_0 a_1).bind fun o=>match o with
  | (r2,_) =>
   (qfG n (⟨r2.Ah.Ak,r2.Ah.Bd⟩:qd) a_3).bind fun r4 =>
   (qfG n (⟨r2.Bc.Ak,r2.Bc.Bd⟩:qd) a_3).bind fun r5 =>
   (qfl a_0 a_2 a_3 n r4 r5 0).bind fun o=>match o with
   | (i1,i2,_) =>
    some (i1,i2)
theorem qqS {a_0:(Option Tl20Work)} {a_1:Int} {a_2:(List Int)} {a_3:Int} (ha1:GoT.R w (old w) a_0 cs1) (ha2:GoT.R w (old w) a_2 cs2) {r:(Int × Int)} (hF:qk3 n a_0 a_1 a_2 a_3=some r):RetV Tryz.prog 47 [GoT.v (Option Tl20Work) cs1,.int .i64 a_1,GoT.v (List Int) cs2,.int .i64 a_3] w r:=by
 obtain ⟨p1,rfl,s1⟩:=qac ha1
 obtain ⟨p2,k1,rfl,s2⟩:=ha2
 refine zV 73 Tryz.func47 rfl fun h=>X0 9 rfl ?_
 obtain ⟨r1,hr1,hF⟩:=qc hF
 obtain ⟨r2,r3⟩:=r1
 refine qay (r2,r3) h (cB 62 rfl) (qiu (h.old s1) hr1) rfl rfl rfl rfl fun w1 S1 us1 hv1 hr2=>?_
 obtain ⟨S2,S3,cs3,us2,rfl,hv2,hr3⟩:=hv1.cons hr2
 obtain rfl:=qF (hv2.sh.own 0 rfl)
 obtain ⟨rfl,h⟩:=hv2.lastB hr3
 refine zp3 rfl (qj qa h rfl rfl rfl fun w2 bb1 h=>zs 0 h rfl fun w3 h=>X1 7 0 h rfl (zcI h hF (qhE (qv _)) rfl fun r4 w4 h hF=>X1 7 0 h rfl (zcI h hF (qhE (qv _)) rfl fun r5 w5 h hF=>X0 7 rfl ?_)))
 obtain ⟨o1,hF,hK1⟩:=qc hF
 refine qm ?_
 replace h:=h.pick [] rfl
 refine rL (fun m e w'=>∃ (i1:Int) (i2:Int) (i3:Int),qfl a_0 a_2 a_3 m i1 i2 i3=some o1∧e=[(0,.pointer p1),(2,.slice p2 a_2.length k1),(3,.int .i64 a_3),(12,.int .i64 i1),(13,.int .i64 i2),(14,.int .i64 i3)]∧SH w w' []) n ⟨_,_,_,hF,rfl,h⟩ rfl ?_
 rintro m1 e1 w6 ⟨i1,i2,i3,hF,rfl,h⟩
 rcases m1 with _|m1
 ·cases hF
 refine X0 8 rfl (qh rfl hF ?_ ?_)<;>intro hF
 ·refine X0 4 rfl (rA [] [] h rfl fun w7 h=>M0 1 [0] (h.pick [] rfl) rfl ?_)
  obtain ⟨y1,hy1,hF⟩:=qc hF
  obtain ⟨b1,o_1,cs4,rfl,-,hr7,hc2⟩:=PtR.get s1 hy1
  obtain ⟨p3,k2,p4,k3,p5,k4,p6,k5,p7,k6,p8,k7,p9,k8,p10,k9,p11,k10,p12,k11,p13,k12,p14,k13,rfl,s3,s4,s5,s6,s7,s8,s9,s10,s11,s12,s13,s14⟩:=qhv hr7
  refine M0 7 [1,2] (h.pick [] rfl) rfl (Al 3 15 12 hc2 (h.pick [] rfl) rfl (M0 63 [4,5] (h.pick [] rfl) rfl ?_))
  obtain ⟨y2,hy2,hF,he1,b2,_,q1,cs5,hp1,hq1,rfl,hc3⟩:=s2.ix hF
  refine Ae 6 127 hp1 hq1 he1 (h.pick [] rfl) rfl (Al 7 255 0 hc3 (h.pick [] rfl) rfl ?_)
  obtain ⟨y3,hy3,hF,he2,b3,_,q2,cs6,hp2,hq2,hr9,hc4⟩:=s10.ix hF
  obtain rfl:=qam hr9
  refine Ae 8 511 hp2 hq2 he2 (h.pick [] rfl) rfl (Al 9 1023 0 hc4 (h.pick [] rfl) rfl (Ao 10 2047 rfl (qj qa h rfl rfl rfl fun w8 bb2 h=>Ag (h.pick [] rfl) (Ao 11 4095 rfl (zs 0 h rfl fun w9 h=>Ag (h.pick [] rfl) (Ad (qcJ (rD (zd5 rfl (zdc 0 (hc2.below h.below) rfl (zd4 rfl (zdc 5 (hc2.below h.below) rfl (Y1 1 0 h rfl ?_)))))))))))))
  refine zd2 rfl ?_
  obtain ⟨r6,hr10,hF⟩:=qc hF
  refine qaQ r6 (vsI _) (cB 77 rfl) (fun _ hb=>qcr (qcE _ ((h.ext hb).oldS s3) ((h.ext hb).oldS s4) ((h.ext hb).oldS s5) ((h.ext hb).oldS s6) ((h.ext hb).oldS s7)) (qaI _) (qa5 y3) hr10) rfl rfl rfl rfl (zd2 rfl (dN h fun w10 h=>rD (zd4 rfl (zdc 0 (hc2.below h.below) rfl (Y1 1 0 h rfl ?_)))))
  refine zd2 rfl ?_
  obtain ⟨r7,hr11,hF⟩:=qc hF
  refine qaQ r7 (vsI _) (cB 78 rfl) (fun _ hb=>qcW (qcE _ ((h.ext hb).oldS s3) ((h.ext hb).oldS s4) ((h.ext hb).oldS s5) ((h.ext hb).oldS s6) ((h.ext hb).oldS s7)) (qa5 y3) hr11) rfl rfl rfl rfl (zd1 rfl (dN h fun w11 h=>X0 6 rfl ?_))
  replace h:=h.pick [] rfl
  exact rK ⟨_,_,_,hF,rfl,h⟩ rfl
 refine qu rfl ?_
 obtain rfl:=qb hF;replace hF:=hK1
 refine X0 7 rfl ?_
 obtain rfl:=qb hF
 exact qS qa (ρ:=(Int × Int)) [GoT.v Int [.int .i64 i1],GoT.v Int [.int .i64 i2]] h ⟨rfl,rfl,trivial⟩ (PV.done h (qai h (qz (S:=fun _=>False) rfl) (qW (qz (S:=fun _=>False) rfl)) (by rfl)))
def qjS (_:Nat) (graph:Int) (own:Int) (mode:Int):Option Int :=
 bif (mode==1) then some (W64 (graph-own)) else
 some (W64 (own-graph))
theorem qp1 {graph:Int} {own:Int} {mode:Int}  {r:Int} (hF:qjS n graph own mode=some r):RetV Tryz.prog 49 [.int .i64 graph,.int .i64 own,.int .i64 mode] w r:=by
 refine zV 15 Tryz.func49 rfl fun h=>X0 10 rfl (qh rfl hF ?_ ?_)<;>intro hF
 ·exact X0 7 rfl (ri h hF rfl)
 exact X0 8 rfl (ri h hF rfl)
def qfB (n:Nat) (j:qa2) (start:Int) (links:(List Int)) (mode:Int):Option (Int × Int) :=
 (qh4 n j start links mode).bind fun o=>match o with
  | (r2,r3) =>
   bif (r3 != 0) then some (0,r3) else
   (qk3 n r2 start links mode).bind fun o=>match o with
    | (r5,_) =>
     (qhx n r2 start links mode).bind fun r7 =>
     (qjS n r7 r5 mode).bind fun r8 =>
     some (r8,0)
theorem qmE {j:qa2} {start:Int} {links:(List Int)} {mode:Int} (ha1:GoT.R w (old w) j cs1) (ha2:GoT.R w (old w) links cs2) {r:(Int × Int)} (hF:qfB n j start links mode=some r):RetV Tryz.prog 18 [GoT.v qa2 cs1,.int .i64 start,GoT.v (List Int) cs2,.int .i64 mode] w r:=by
 obtain ⟨p1,k1,p2,k2,p3,k3,p4,k4,p5,k5,p6,k6,p7,k7,rfl,s1,s2,s3,s4,s5,s6,s7⟩:=qdf ha1
 obtain ⟨p8,k8,rfl,s8⟩:=ha2
 refine zV 41 Tryz.func18 rfl fun h=>zSR (qw h rfl rfl fun w1 bb1 h=>X1 9 0 h rfl ?_)
 have hg1:Rg (old w) w (old w) w:=.start (fun _ h=>h)
 obtain ⟨r1,hr1,hF⟩:=qc hF
 obtain ⟨r2,r3⟩:=r1
 refine qhC (r2,r3) hg1 h (cB 46 rfl) (qp3 (hg1.regOld h) (hg1.inR h ha1) ⟨_,_,rfl,(hg1.inS h s8)⟩ hr1) rfl rfl rfl rfl fun w2 us1 B1 hg2 hu1 hz1 hv1=>?_
 have hL1:=h.ext hu1.below
 have s9:=Up.S hg1 h hu1 s8
 have hb1:=h.below.trans (hu1.below.mono h.below.size)
 replace h:=hz1
 obtain ⟨cs3,us2,rfl,hr2,hv2⟩:=qj8 hv1
 obtain ⟨p9,rfl,s10⟩:=qac hr2
 obtain ⟨cs4,rfl,hr3⟩:=qjK hv2
 obtain rfl:=hr3
 refine X0 12 rfl (qh rfl hF ?_ ?_)<;>intro hF
 ·refine X0 6 rfl ?_
  replace h:=h.unbase hg2.below (show NoD [] from trivial)
  obtain rfl:=qb hF
  exact qS qa (ρ:=(Int × Int)) [GoT.v Int [.int .i64 0],GoT.v Int [.int .i64 r3]] h ⟨rfl,rfl,trivial⟩ (PV.done h (qai h (qz (S:=fun _=>False) rfl) (qW (qz (S:=fun _=>False) rfl)) (by rfl)))
 refine X0 7 rfl ?_
 obtain ⟨r4,hr4,hF⟩:=qc hF
 obtain ⟨r5,r6⟩:=r4
 refine qay (r5,r6) h (cB 47 rfl) (qqS (h.old (GoT.mono s10 hg2.old)) ⟨_,_,rfl,(h.oldS (s9.mono hg2.old))⟩ hr4) rfl rfl rfl rfl fun w3 S1 us3 hv3 hr5=>?_
 obtain ⟨S2,us4,rfl,hv4,hr6⟩:=hv3.consI hr5
 obtain ⟨rfl,h⟩:=hv4.lastI hr6
 refine X0 12 rfl (zcI h hF (qnY (h.old (GoT.mono s10 hg2.old)) ⟨_,_,rfl,(h.oldS (s9.mono hg2.old))⟩) rfl fun r7 w4 h hF=>zp2 rfl (zcI h hF qp1 rfl fun r8 w5 h hF=>X0 3 rfl ?_))
 replace h:=h.unbase hg2.below (show NoD [] from trivial)
 obtain rfl:=qb hF
 exact qS qa (ρ:=(Int × Int)) [GoT.v Int [.int .i64 r8],GoT.v Int [.int .i64 0]] h ⟨rfl,rfl,trivial⟩ (PV.done h (qai h (qz (S:=fun _=>False) rfl) (qW (qz (S:=fun _=>False) rfl)) (by rfl)))
def qiO (n:Nat) (v:(Option Tview)) (link:Int):Option Bool :=
 (v).bind fun y1 =>
 (qc3 n y1.links).bind fun r1 =>
 (qaH n link 0 (W64 (r1-1))).bind fun r2 =>
 some r2
theorem qnB {v:(Option Tview)} {link:Int} (ha1:GoT.R w (old w) v cs1) {r:Bool} (hF:qiO n v link=some r):RetV Tryz.prog 161 [GoT.v (Option Tview) cs1,.int .i64 link] w r:=by
 obtain ⟨p1,rfl,s1⟩:=qac ha1
 refine zV 13 Tryz.func161 rfl fun h=>X0 8 rfl ?_
 obtain ⟨y1,hy1,hF⟩:=qc hF
 obtain ⟨b1,o_1,cs2,rfl,-,hr1,hc1⟩:=PtR.get s1 hy1
 obtain ⟨p2,k1,p3,k2,p4,k3,p5,k4,p6,k5,p7,k6,p8,k7,p9,k8,p10,k9,p11,k10,rfl,s2,s3,s4,s5,s6,s7,s8,s9,s10,s11⟩:=qbE hr1
 exact zp2 rfl (zc 6 (hc1.below h.below) rfl (zcI h hF (qhm ⟨_,_,rfl,(h.oldS s8)⟩) rfl fun r1 w1 h hF=>zp1 rfl (zcB h hF qax rfl fun r2 w2 h hF=>X0 2 rfl (rb h hF rfl))))
def qb1 (v:(Option Tview)) (links:(List Int)):Nat→Int→Option (Flow Bool Int)
 | 0,_=>none
 | n+1,i1 =>
  bif decide (i1<(links.length:Int)) then
   (idx links i1).bind fun y1 =>
   (qiO n v y1).bind fun r1 =>
   bif (!r1) then some (.ret false) else
   bif decide (i1 > 0) then
    (v).bind fun y2 =>
    (idx links (W64 (i1-1))).bind fun y3 =>
    (idx y2.links y3).bind fun y4 =>
    (idx y2.links y1).bind fun y5 =>
    bif (y4.To != y5.Bk) then some (.ret false) else
    qb1 v links n (W64 (i1+1))
   else
    qb1 v links n (W64 (i1+1))
  else
   some (.nxt i1)
def qg1 (n:Nat) (v:(Option Tview)) (links:(List Int)):Option Bool :=
 (qb1 v links n 0).bind fun o=>match o with
 | .ret r=>some r
 | .nxt _ =>
  some true
theorem qnH {v:(Option Tview)} {links:(List Int)} (ha1:GoT.R w (old w) v cs1) (ha2:GoT.R w (old w) links cs2) {r:Bool} (hF:qg1 n v links=some r):RetV Tryz.prog 109 [GoT.v (Option Tview) cs1,GoT.v (List Int) cs2] w r:=by
 obtain ⟨p1,rfl,s1⟩:=qac ha1
 obtain ⟨p2,k1,rfl,s2⟩:=ha2
 refine zV 46 Tryz.func109 rfl fun h=>X0 11 rfl ?_
 obtain ⟨o1,hF,hK1⟩:=qc hF
 refine qm (rL (fun m e w'=>∃ (i1:Int),qb1 v links m i1=some o1∧e=[(0,.pointer p1),(1,.slice p2 links.length k1),(7,.slice p2 links.length k1),(8,.int .i64 (links.length:Int)),(9,.int .i64 i1)]∧SH w w' []) n ⟨_,hF,rfl,h⟩ rfl ?_)
 rintro m1 e1 w1 ⟨i1,hF,rfl,h⟩
 rcases m1 with _|m1
 ·cases hF
 refine X0 5 rfl (qh rfl hF ?_ ?_)<;>intro hF
 ·refine X0 6 rfl ?_
  obtain ⟨y1,hy1,hF,he1,b1,_,q1,cs3,hp1,hq1,rfl,hc2⟩:=s2.ix hF
  refine zxe hp1 hq1 he1 rfl (zc 0 (hc2.below h.below) rfl (X0 4 rfl (rD (zd2 rfl ?_))))
  obtain ⟨r1,hr2,hF⟩:=qc hF
  refine qaQ r1 (vsB _) (cB 161 rfl) (fun _ hb=>qnB ((h.ext hb).old s1) hr2) rfl rfl rfl rfl (zd2 rfl (qaL (t:=18) hF rfl ?_ ?_))<;>intro hF
  ·refine Y0 26 rfl (dN h fun w2 h=>qbX rfl rfl (X0 4 rfl ?_))
   obtain rfl:=qb hF;replace hF:=hK1
   exact rb h hF rfl
  refine Y0 6 rfl (qaL (t:=21) hF rfl ?_ ?_)<;>intro hF
  ·refine Y0 3 rfl ?_
   obtain ⟨y2,hy2,hF⟩:=qc hF
   obtain ⟨b2,o_2,cs4,rfl,-,hr3,hc3⟩:=PtR.get s1 hy2
   obtain ⟨p3,k2,p4,k3,p5,k4,p6,k5,p7,k6,p8,k7,p9,k8,p10,k9,p11,k10,p12,k11,rfl,s3,s4,s5,s6,s7,s8,s9,s10,s11,s12⟩:=qbE hr3
   refine Y0 4 rfl (zdc 6 (hc3.below h.below) rfl (Y0 7 rfl ?_))
   obtain ⟨y3,hy3,hF,he2,b3,_,q2,cs5,hp2,hq2,rfl,hc4⟩:=s2.ix hF
   refine zdxe hp2 hq2 he2 rfl (Y0 1 rfl (zdc 0 (hc4.below h.below) rfl (Y0 1 rfl ?_)))
   obtain ⟨y4,hy4,hF,he3,b4,_,q3,cs6,hp3,hq3,hr5,hc5⟩:=s9.ix hF
   obtain rfl:=qam hr5
   refine zdxe hp3 hq3 he3 rfl (Y0 3 rfl (zdc 1 (hc5.below h.below) rfl (Y0 7 rfl (zdc 6 (hc3.below h.below) rfl (Y0 3 rfl ?_)))))
   obtain ⟨y5,hy5,hF,he4,b5,_,q4,cs7,hp4,hq4,hr6,hc6⟩:=s9.ix hF
   obtain rfl:=qam hr6
   refine zdxe hp4 hq4 he4 rfl (Y0 3 rfl (zdc 0 (hc6.below h.below) rfl (Y0 5 rfl (dN h fun w3 h=>qh rfl hF ?_ ?_))))<;>intro hF
   ·refine X0 4 rfl ?_
    obtain rfl:=qb hF;replace hF:=hK1
    exact rb h hF rfl
   exact X0 6 rfl (rK ⟨_,hF,rfl,h⟩ rfl)
  exact Y0 24 rfl (dN h fun w4 h=>qbZ rfl rfl (X0 6 rfl (rK ⟨_,hF,rfl,h⟩ rfl)))
 refine qu rfl ?_
 obtain rfl:=qb hF;replace hF:=hK1
 exact X0 4 rfl (rb h hF rfl)
def qeV (_:Nat) (link:Int) (v0:(Option Twork)):Option Bool :=
 (v0).bind fun y1 =>
 (y1.graph).bind fun y2 =>
 (idx y2.live link).bind fun y3 =>
 some (!y3)
theorem qlu {link:Int} {v0:(Option Twork)} {p1:Option Addr} (ha1:GoT.R w (old w) (some v0) [.pointer p1]) {r:Bool} (hF:qeV n link v0=some r):RetV Tryz.prog 111 [.int .i64 link,.pointer p1] w r:=by
 obtain ⟨b1,o_1,cs1,rfl,-,hr1,hc1⟩:=PtR.get ha1 rfl
 obtain ⟨p2,rfl,s1⟩:=qac hr1
 refine zV 15 Tryz.func111 rfl fun h=>X0 6 rfl (zc 0 (hc1.below h.below) rfl ?_)
 obtain ⟨y1,hy1,hF⟩:=qc hF
 obtain ⟨b2,o_2,cs2,rfl,-,hr2,hc2⟩:=PtR.get s1 hy1
 obtain ⟨p3,p4,k1,p5,k2,p6,k3,p7,k4,p8,k5,p9,k6,p10,k7,p11,k8,p12,k9,p13,k10,p14,k11,rfl,s2,s3,s4,s5,s6,s7,s8,s9,s10,s11,s12,s13⟩:=qkm hr2
 refine zp2 rfl (zc 0 (hc2.below h.below) rfl ?_)
 obtain ⟨y2,hy2,hF⟩:=qc hF
 obtain ⟨b3,o_3,cs3,rfl,-,hr3,hc3⟩:=PtR.get s2 hy2
 obtain ⟨p15,p16,k12,rfl,s14,s15⟩:=qcV hr3
 refine zp2 rfl (zc 1 (hc3.below h.below) rfl (zp1 rfl ?_))
 obtain ⟨y3,hy3,hF,he1,b4,_,q1,cs4,hp1,hq1,rfl,hc4⟩:=s15.ix hF
 exact zxe hp1 hq1 he1 rfl (zc 0 (hc4.below h.below) rfl (X0 3 rfl (rb h hF rfl)))
def qU (s:(List Int)) (f_0:(Option Twork)):Nat→Int→Option (Flow Int Int)
 | 0,_=>none
 | n+1,i1 =>
  bif decide (i1<(s.length:Int)) then
   (idx s i1).bind fun y1 =>
   (qeV n y1 f_0).bind fun r1 =>
   bif r1 then some (.ret i1) else
   qU s f_0 n (W64 (i1+1))
  else
   some (.nxt i1)
def qaF (n:Nat) (s:(List Int)) (f_0:(Option Twork)):Option Int :=
 (qU s f_0 n 0).bind fun o=>match o with
 | .ret r=>some r
 | .nxt _ =>
  some (-1)
theorem qe3 {s:(List Int)} {f_0:(Option Twork)} (ha1:GoT.R w (old w) s cs1) {p2:Option Addr} (ha2:GoT.R w (old w) (some f_0) [.pointer p2]) {r:Int} (hF:qaF n s f_0=some r):RetV Tryz.prog 162 [GoT.v (List Int) cs1,.func (.func 111) #[] #[.pointer p2]] w r:=by
 obtain ⟨p1,k1,rfl,s1⟩:=ha1
 obtain ⟨b1,o_1,cs2,rfl,-,hr1,hc1⟩:=PtR.get ha2 rfl
 obtain ⟨p3,rfl,s2⟩:=qac hr1
 refine zV 19 Tryz.func162 rfl fun h=>X0 11 rfl ?_
 obtain ⟨o1,hF,hK1⟩:=qc hF
 refine qm (rL (fun m e w'=>∃ (i1:Int),qU s f_0 m i1=some o1∧e=[(0,.slice p1 s.length k1),(1,.func (.func 111) #[] #[.pointer (some ⟨b1,o_1,none⟩)]),(7,.int .i64 (s.length:Int)),(8,.int .i64 i1)]∧SH w w' []) n ⟨_,hF,rfl,h⟩ rfl ?_)
 rintro m1 e1 w1 ⟨i1,hF,rfl,h⟩
 rcases m1 with _|m1
 ·cases hF
 refine X0 5 rfl (qh rfl hF ?_ ?_)<;>intro hF
 ·refine X0 13 rfl ?_
  obtain ⟨y1,hy1,hF,he1,b2,_,q1,cs3,hp1,hq1,rfl,hc3⟩:=s1.ix hF
  refine zxe hp1 hq1 he1 rfl (zc 0 (hc3.below h.below) rfl (zcB h hF (qlu (h.old ha2)) rfl fun r1 w2 h hF=>qcw (qh rfl hF ?_ ?_)))<;>intro hF
  ·refine X0 5 rfl ?_
   obtain rfl:=qb hF;replace hF:=hK1
   exact ri h hF rfl
  exact X0 6 rfl (rK ⟨_,hF,rfl,h⟩ rfl)
 refine qu rfl ?_
 obtain rfl:=qb hF;replace hF:=hK1
 exact X0 4 rfl (ri h hF rfl)
def qV (n:Nat) (s:(List Int)) (f_0:(Option Twork)):Option Bool :=
 (qaF n s f_0).bind fun r1 =>
 some (decide (r1 ≥ 0))
theorem qbS {s:(List Int)} {f_0:(Option Twork)} (ha1:GoT.R w (old w) s cs1) {p2:Option Addr} (ha2:GoT.R w (old w) (some f_0) [.pointer p2]) {r:Bool} (hF:qV n s f_0=some r):RetV Tryz.prog 110 [GoT.v (List Int) cs1,.func (.func 111) #[] #[.pointer p2]] w r:=by
 obtain ⟨p1,k1,rfl,s1⟩:=ha1
 obtain ⟨b1,o_1,cs2,rfl,-,hr1,hc1⟩:=PtR.get ha2 rfl
 obtain ⟨p3,rfl,s2⟩:=qac hr1
 exact zV 9 Tryz.func110 rfl fun h=>X0 8 rfl (zcI h hF (qe3 ⟨_,_,rfl,(h.oldS s1)⟩ (h.old ha2)) rfl fun r1 w1 h hF=>X0 3 rfl (rb h hF rfl))
def qfC (n:Nat) (a_w:(Option Twork)) (start:Int) (links:(List Int)):Option Bool :=
 (a_w).bind fun y1 =>
 (qcy n y1.job.Ar start).bind fun o=>match o with
  | (_,r3) =>
   (
    bif (!r3) then some true else
    (y1.graph).bind fun y6 =>
    (qg1 n y6.view links).bind fun r6 =>
    some (!r6)).bind fun b2 =>
   bif b2 then some false else
   bif decide ((links.length:Int) > 0) then
    (y1.graph).bind fun y2 =>
    (y2.view).bind fun y3 =>
    (idx links 0).bind fun y4 =>
    (idx y3.links y4).bind fun y5 =>
    bif (y5.Bk != start) then some false else
    (qV n links a_w).bind fun r4 =>
    some (!r4)
   else
    (qV n links a_w).bind fun r5 =>
    some (!r5)
theorem qmA {a_w:(Option Twork)} {start:Int} {links:(List Int)} (ha1:GoT.R w (old w) a_w cs1) (ha2:GoT.R w (old w) links cs2) {r:Bool} (hF:qfC n a_w start links=some r):RetV Tryz.prog 71 [GoT.v (Option Twork) cs1,.int .i64 start,GoT.v (List Int) cs2] w r:=by
 obtain ⟨p1,rfl,s1⟩:=qac ha1
 obtain ⟨p2,k1,rfl,s2⟩:=ha2
 refine zV 60 Tryz.func71 rfl fun h=>zSR (qw h rfl rfl fun w1 bb1 h=>X1 6 0 h rfl ?_)
 obtain ⟨y1,hy1,hF⟩:=qc hF
 obtain ⟨b1,o_1,cs3,rfl,-,hr1,hc1⟩:=PtR.get s1 hy1
 obtain ⟨p3,p4,k2,p5,k3,p6,k4,p7,k5,p8,k6,p9,k7,p10,k8,p11,k9,p12,k10,p13,k11,p14,k12,rfl,s3,s4,s5,s6,s7,s8,s9,s10,s11,s12,s13,s14⟩:=qkm hr1
 refine zp3 rfl (zc 12 (hc1.below h.below) rfl (zp1 rfl ?_))
 obtain ⟨r1,hr2,hF⟩:=qc hF
 obtain ⟨r2,r3⟩:=r1
 refine qay (r2,r3) h (cB 79 rfl) (qgO ⟨_,_,rfl,(h.oldS s10)⟩ hr2) rfl rfl rfl rfl fun w2 S1 us1 hv1 hr3=>?_
 obtain ⟨S2,S3,cs4,us2,rfl,hv2,hr4⟩:=hv1.cons hr3
 obtain rfl:=qF (hv2.sh.own 0 rfl)
 obtain ⟨rfl,h⟩:=hv2.lastB hr4
 refine zp3 rfl (qj qa h rfl rfl rfl fun w3 bb2 h=>zs 0 h rfl fun w4 h=>X0 3 rfl ?_)
 obtain ⟨KF1,hKF1,o1,hF,hK1⟩:=bindE hF
 refine qbp (fun e w'=>∃ (b2:Bool),KF1 b2=some r∧e=[(1,.int .i64 start),(2,.slice p2 links.length k1),(3,.pointer (some ⟨bb1,0,none⟩)),(32,.bool b2)]∧SH w w' [Ch.box bb1 [.pointer (some ⟨b1,o_1,none⟩)] 82]) ?_ ?_
 ·refine X0 4 rfl (qi (t:=21) hF rfl ?_ ?_)<;>intro hF
  ·refine X0 12 rfl ?_
   replace h:=h.pick [2] rfl
   obtain rfl:=qb hF
   exact rG ⟨_,hK1,rfl,h⟩ rfl
  refine X1 7 2 h rfl (zc 0 (hc1.below h.below) rfl (X0 1 rfl ?_))
  obtain ⟨y6,hy6,hF⟩:=qc hF
  obtain ⟨b7,o_6,cs9,rfl,-,hr12,hc8⟩:=PtR.get s3 hy6
  obtain ⟨p27,p28,k24,rfl,s27,s28⟩:=qcV hr12
  refine X0 4 rfl (zc 0 (hc8.below h.below) rfl (X0 3 rfl (zcB h hF (qnH (h.old s27) ⟨_,_,rfl,(h.oldS s2)⟩) rfl fun r6 w9 h hF=>X0 4 rfl ?_)))
  replace h:=h.pick [2] rfl
  obtain rfl:=qb hF
  exact rG ⟨_,hK1,rfl,h⟩ rfl
 rintro e1 w10 ⟨b2,hF,rfl,h⟩
 subst hKF1
 refine qh rfl hF ?_ ?_<;>intro hF
 ·exact X0 4 rfl (rb h hF rfl)
 refine zKSS (rD (zd4 rfl (qaL (t:=36) hF rfl ?_ ?_)))<;>intro hF
 ·refine Y1 2 0 h rfl ?_
  refine Y0 5 rfl (zdc 0 (hc1.below h.below) rfl (Y0 1 rfl ?_))
  obtain ⟨y2,hy2,hF⟩:=qc hF
  obtain ⟨b3,o_2,cs5,rfl,-,hr6,hc3⟩:=PtR.get s3 hy2
  obtain ⟨p15,p16,k13,rfl,s15,s16⟩:=qcV hr6
  refine Y0 4 rfl (zdc 0 (hc3.below h.below) rfl (Y0 1 rfl ?_))
  obtain ⟨y3,hy3,hF⟩:=qc hF
  obtain ⟨b4,o_3,cs6,rfl,-,hr7,hc4⟩:=PtR.get s15 hy3
  obtain ⟨p17,k14,p18,k15,p19,k16,p20,k17,p21,k18,p22,k19,p23,k20,p24,k21,p25,k22,p26,k23,rfl,s17,s18,s19,s20,s21,s22,s23,s24,s25,s26⟩:=qbE hr7
  refine Y0 4 rfl (zdc 6 (hc4.below h.below) rfl (Y0 3 rfl ?_))
  obtain ⟨y4,hy4,hF,he1,b5,_,q1,cs7,hp1,hq1,rfl,hc5⟩:=s2.ix hF
  refine zdxe hp1 hq1 he1 rfl (Y0 1 rfl (zdc 0 (hc5.below h.below) rfl (Y0 1 rfl ?_)))
  obtain ⟨y5,hy5,hF,he2,b6,_,q2,cs8,hp2,hq2,hr9,hc6⟩:=s23.ix hF
  obtain rfl:=qam hr9
  refine zdxe hp2 hq2 he2 rfl (Y0 3 rfl (zdc 0 (hc6.below h.below) rfl (Y0 5 rfl (dN h fun w5 h=>qh rfl hF ?_ ?_))))<;>intro hF
  ·exact X0 4 rfl (rb h hF rfl)
  exact X0 5 rfl (zcB h hF (qbS ⟨_,_,rfl,(h.oldS s2)⟩ (qgF (x:=a_w) 0 h rfl (h.old s1))) rfl fun r4 w6 h hF=>X0 3 rfl (rb h hF rfl))
 exact Y0 19 rfl (dN h fun w7 h=>qbZ rfl rfl (X0 5 rfl (zcB h hF (qbS ⟨_,_,rfl,(h.oldS s2)⟩ (qgF (x:=a_w) 0 h rfl (h.old s1))) rfl fun r5 w8 h hF=>X0 3 rfl (rb h hF rfl))))
def qcx (n:Nat) (j:qa2) (mode:Int) (start:Int) (links:(List Int)):Option ((Option Twork) × Int) :=
 (qg4 n j mode []).bind fun o=>match o with
  | (r2,r3) =>
   bif (r3==0) then
    (qfC n r2 start links).bind fun r4 =>
    bif (!r4) then some (none,5) else
    some (r2,r3)
   else
    some (r2,r3)
theorem qpd {A:Nat→Prop} (hA:∀ b,A b→old w b) {j:qa2} {mode:Int} {start:Int} {links:(List Int)} (ha1:GoT.R w A j cs1) (ha2:GoT.R w A links cs2) {r:((Option Twork) × Int)} (hF:qcx n j mode start links=some r):RetG Tryz.prog 40 [GoT.v qa2 cs1,.int .i64 mode,.int .i64 start,GoT.v (List Int) cs2] w A r:=by
 obtain ⟨p1,k1,p2,k2,p3,k3,p4,k4,p5,k5,p6,k6,p7,k7,rfl,s1,s2,s3,s4,s5,s6,s7⟩:=qdf ha1
 obtain ⟨p8,k8,rfl,s8⟩:=ha2
 have hg:=Rg.start hA
 refine qd1 Tryz.func40 rfl (m:=29) rfl rfl (fun h=>?_)
 refine zSR (qw h rfl rfl fun w1 bb1 h=>X1 7 0 h rfl ?_)
 obtain ⟨r1,hr1,hF⟩:=qc hF
 obtain ⟨r2,r3⟩:=r1
 refine qhC (r2,r3) hg h (cB 70 rfl) (qpU (hg.regOld h) (hg.inR h ha1) ⟨_,_,rfl,qnt⟩ hr1) rfl rfl rfl rfl fun w2 us1 B1 hg1 hu1 hz1 hv1=>?_
 have hL1:=h.ext hu1.below
 have s9:=Up.S hg h hu1 s8
 have hb1:=h.below.trans (hu1.below.mono h.below.size)
 replace h:=hz1
 obtain ⟨cs3,us2,rfl,hr2,hv2⟩:=qj8 hv1
 obtain ⟨p9,rfl,s10⟩:=qac hr2
 obtain ⟨cs4,rfl,hr3⟩:=qjK hv2
 obtain rfl:=hr3
 refine X0 12 rfl (qi (t:=20) hF rfl ?_ ?_)<;>intro hF
 ·refine X0 7 rfl (zcB h hF (qmA (h.old (GoT.mono s10 hg1.old)) ⟨_,_,rfl,(h.oldS (s9.mono hg1.old))⟩) rfl fun r4 w3 h hF=>X0 4 rfl (qh rfl hF ?_ ?_))<;>intro hF
  ·refine X0 5 rfl ?_
   obtain rfl:=qb hF
   have hv3:GoRs.Rs (ρ:=((Option Twork) × Int)) h.wc (reg A w h.wc) (none,5) [GoT.v (Option Twork) [.pointer none],GoT.v Int [.int .i64 5]]:=⟨_,_,rfl,rfl,⟨_,rfl,rfl⟩⟩
   exact qdD qa (ρ:=((Option Twork) × Int)) (r:=(none,5)) [GoT.v (Option Twork) [.pointer none],GoT.v Int [.int .i64 5]] (h.unbase hg1.below (show NoD [] from trivial)) ⟨rfl,rfl,trivial⟩ hv3
  refine X0 8 rfl ?_
  obtain rfl:=qb hF
  have hv4:GoRs.Rs (ρ:=((Option Twork) × Int)) h.wc (reg A w h.wc) (r2,r3) [GoT.v (Option Twork) [.pointer p9],GoT.v Int [.int .i64 r3]]:=⟨_,_,rfl,(hg1.outR h (hg1.inR h s10)),⟨_,rfl,rfl⟩⟩
  exact qdD qa (ρ:=((Option Twork) × Int)) (r:=(r2,r3)) [GoT.v (Option Twork) [.pointer p9],GoT.v Int [.int .i64 r3]] (h.unbase hg1.below (show NoD [] from trivial)) ⟨rfl,rfl,trivial⟩ hv4
 refine X0 7 rfl (qbZ rfl rfl (X0 8 rfl ?_))
 obtain rfl:=qb hF
 have hv5:GoRs.Rs (ρ:=((Option Twork) × Int)) h.wc (reg A w h.wc) (r2,r3) [GoT.v (Option Twork) [.pointer p9],GoT.v Int [.int .i64 r3]]:=⟨_,_,rfl,(hg1.outR h (hg1.inR h s10)),⟨_,rfl,rfl⟩⟩
 exact qdD qa (ρ:=((Option Twork) × Int)) (r:=(r2,r3)) [GoT.v (Option Twork) [.pointer p9],GoT.v Int [.int .i64 r3]] (h.unbase hg1.below (show NoD [] from trivial)) ⟨rfl,rfl,trivial⟩ hv5
def qdA (a_2:(List Int)) (y1:Twork):Nat→(List qd)→Int→Int→Int→Option ((List qd) × Int × Int × Int)
 | 0,_,_,_,_=>none
 | n+1,x1,i1,i2,i3 =>
  bif decide (i3<(a_2.length:Int)) then
   (idx a_2 i3).bind fun y2 =>
   (y1.graph).bind fun y3 =>
   (y3.view).bind fun y4 =>
   (idx y4.links y2).bind fun y5 =>
   (idx y1.timing.Bc y5.Bk).bind fun y6 =>
   (qeA n y3.view (⟨y1.job.Ai.Bb,y1.job.Ai.As,y1.job.Ai.Az,y1.job.Ai.Aq,y1.job.Ai.Ba⟩:qr) y2 y6).bind fun o=>match o with
    | (r5,_) =>
     (qgq n (⟨i1,i2⟩:qd) r5).bind fun r9 =>
     (appS x1 ([r9]:List qd)).bind fun x3 =>
     qdA a_2 y1 n x3 r9.Ak r9.Bd (W64 (i3+1))
  else
   some (x1,i1,i2,i3)
def qh2 (n:Nat) (a_0:(Option Twork)) (a_1:Int) (a_2:(List Int)):Option (List qd) :=
 (a_0).bind fun y1 =>
 (qcy n y1.job.Ar a_1).bind fun o=>match o with
  | (r2,_) =>
   (qdA a_2 y1 n ([(⟨r2.Ah.Ak,r2.Ah.Bd⟩:qd)]:List qd) r2.Ah.Ak r2.Ah.Bd 0).bind fun o=>match o with
   | (x1,_,_,_) =>
    some x1
theorem qog {a_0:(Option Twork)} {a_1:Int} {a_2:(List Int)} (ha1:GoT.R w (old w) a_0 cs1) (ha2:GoT.R w (old w) a_2 cs2) {r:(List qd)} (hF:qh2 n a_0 a_1 a_2=some r):RetV Tryz.prog 72 [GoT.v (Option Twork) cs1,.int .i64 a_1,GoT.v (List Int) cs2] w r:=by
 obtain ⟨p1,rfl,s1⟩:=qac ha1
 obtain ⟨p2,k1,rfl,s2⟩:=ha2
 refine zV 82 Tryz.func72 rfl fun h=>X0 7 rfl ?_
 obtain ⟨y1,hy1,hF⟩:=qc hF
 obtain ⟨b1,o_1,cs3,rfl,-,hr1,hc1⟩:=PtR.get s1 hy1
 obtain ⟨p3,p4,k2,p5,k3,p6,k4,p7,k5,p8,k6,p9,k7,p10,k8,p11,k9,p12,k10,p13,k11,p14,k12,rfl,s3,s4,s5,s6,s7,s8,s9,s10,s11,s12,s13,s14⟩:=qkm hr1
 refine zp3 rfl (zc 12 (hc1.below h.below) rfl (zp1 rfl ?_))
 obtain ⟨r1,hr2,hF⟩:=qc hF
 obtain ⟨r2,r3⟩:=r1
 refine qay (r2,r3) h (cB 79 rfl) (qgO ⟨_,_,rfl,(h.oldS s10)⟩ hr2) rfl rfl rfl rfl fun w1 S1 us1 hv1 hr3=>?_
 obtain ⟨S2,S3,cs4,us2,rfl,hv2,hr4⟩:=hv1.cons hr3
 obtain rfl:=qF (hv2.sh.own 0 rfl)
 obtain ⟨rfl,h⟩:=hv2.lastB hr4
 refine zp3 rfl (qj qa h rfl rfl rfl fun w2 bb1 h=>zs 0 h rfl fun w3 h=>X1 6 0 h rfl (qj qa h rfl rfl rfl fun w4 bb2 h=>zs 0 h rfl fun w5 h=>X1 4 0 h rfl (qI qa [.tmp 27] _ ([(⟨r2.Ah.Ak,r2.Ah.Bd⟩:qd)]:List qd) h rfl rfl rfl rfl rfl rfl rfl rfl rfl ⟨(qv (⟨r2.Ah.Ak,r2.Ah.Bd⟩:qd)),trivial⟩ rfl fun w6 p15 S5 h=>X0 9 rfl ?_)))
 obtain ⟨o1,hF,hK1⟩:=qc hF
 refine qm ?_
 replace h:=h.pick [0,1] rfl
 refine rL (fun m e w'=>∃ (S6:Nat→Prop) (p16:Option Addr) (ln1:Nat) (k13:Nat) (x1:(List qd)) (i1:Int) (i2:Int) (i3:Int),qdA a_2 y1 m x1 i1 i2 i3=some o1∧e=[(0,.pointer (some ⟨b1,o_1,none⟩)),(9,.pointer (some ⟨bb2,0,none⟩)),(10,.slice p16 ln1 k13),(29,.slice p2 a_2.length k1),(30,.int .i64 (a_2.length:Int)),(31,.int .i64 i3)]∧SH w w' [Ch.own S6 (x1:List qd) [.slice p16 ln1 k13],Ch.box bb2 [.int .i64 i1,.int .i64 i2] 86]) n ⟨_,_,_,_,_,_,_,_,hF,rfl,h⟩ rfl ?_
 rintro m1 e1 w7 ⟨S6,p16,ln1,k13,x1,i1,i2,i3,hF,rfl,h⟩
 obtain rfl:=(h.sl 0 rfl).2
 rcases m1 with _|m1
 ·cases hF
 refine X0 5 rfl (qh rfl hF ?_ ?_)<;>intro hF
 ·refine zKSBSR ?_
  obtain ⟨y2,hy2,hF,he1,b2,_,q1,cs5,hp1,hq1,rfl,hc3⟩:=s2.ix hF
  refine zxe hp1 hq1 he1 rfl (zc 0 (hc3.below h.below) rfl (X0 3 rfl (rA [] [] h rfl fun w8 h=>M0 7 [0,1,2] (h.pick [] rfl) rfl (Al 3 15 0 hc1 (h.pick [] rfl) rfl ?_))))
  obtain ⟨y3,hy3,hF⟩:=qc hF
  obtain ⟨b3,o_3,cs6,rfl,-,hr7,hc4⟩:=PtR.get s3 hy3
  obtain ⟨p17,p18,k14,rfl,s15,s16⟩:=qcV hr7
  refine M0 63 [4,5] (h.pick [] rfl) rfl (Al 6 127 0 hc4 (h.pick [] rfl) rfl (M0 2047 [7,8,9,10] (h.pick [] rfl) rfl (Al 11 4095 6 hc1 (h.pick [] rfl) rfl (M0 131071 [12,13,14,15,16] (h.pick [] rfl) rfl (Al 17 262143 15 hc1 (h.pick [] rfl) rfl (M0 2097151 [18,19,20] (h.pick [] rfl) rfl (Al 21 4194303 0 hc1 (h.pick [] rfl) rfl (M0 16777215 [22,23] (h.pick [] rfl) rfl (Al 24 33554431 0 hc4 (h.pick [] rfl) rfl ?_)))))))))
  obtain ⟨y4,hy4,hF⟩:=qc hF
  obtain ⟨b4,o_4,cs7,rfl,-,hr8,hc5⟩:=PtR.get s15 hy4
  obtain ⟨p19,k15,p20,k16,p21,k17,p22,k18,p23,k19,p24,k20,p25,k21,p26,k22,p27,k23,p28,k24,rfl,s17,s18,s19,s20,s21,s22,s23,s24,s25,s26⟩:=qbE hr8
  refine M0 134217727 [25,26] (h.pick [] rfl) rfl (Al 27 268435455 6 hc5 (h.pick [] rfl) rfl (M0 536870911 [28] (h.pick [] rfl) rfl ?_))
  obtain ⟨y5,hy5,hF,he2,b5,_,q2,cs8,hp2,hq2,hr9,hc6⟩:=s23.ix hF
  obtain rfl:=qam hr9
  refine Ae 29 1073741823 hp2 hq2 he2 (h.pick [] rfl) rfl (M0 2147483647 [30] (h.pick [] rfl) rfl (Al 31 4294967295 0 hc6 (h.pick [] rfl) rfl ?_))
  obtain ⟨y6,hy6,hF,he3,b6,_,q3,cs9,hp3,hq3,hr10,hc7⟩:=s13.ix hF
  obtain rfl:=qn hr10
  refine Ae 32 8589934591 hp3 hq3 he3 (h.pick [] rfl) rfl (Al 33 17179869183 0 hc7 (h.pick [] rfl) rfl ?_)
  obtain ⟨r4,hr11,hF⟩:=qc hF
  obtain ⟨r5,r6⟩:=r4
  refine qkV (fun e w'=>∃ (bb22:Nat),e=[(0,.pointer (some ⟨b1,o_1,none⟩)),(10,.slice p16 x1.length k13),(13,.pointer (some ⟨bb22,0,none⟩)),(29,.slice p2 a_2.length k1),(30,.int .i64 (a_2.length:Int)),(31,.int .i64 i3),(9,.pointer (some ⟨bb2,0,none⟩))]∧SH w w' [Ch.box bb22 (qfM r5) 86,Ch.own S6 (x1:List qd) [.slice p16 x1.length k13],Ch.box bb2 [.int .i64 i1,.int .i64 i2] 86]) 0 (bits 42 4398046511103) ?_ ?_
  ·intro K
   refine qnl 34 38 39 rfl rfl rfl (bits 42 34359738367) (bits 42 292057776127) (bits 42 566935683071) (by kernel_rfl) (by kernel_rfl) (by kernel_rfl) (by kernel_rfl) ?_ ?_ ?_
   ·refine qay (r5,r6) h (cB 112 rfl) (qa3 (h.old s15) (qaI _) (qv y6) hr11) rfl rfl rfl rfl fun w51 S36 us15 hv22 hr32=>?_
    obtain ⟨S37,S38,cs24,us16,rfl,hv23,hr33⟩:=hv22.cons hr32
    obtain rfl:=qn (hv23.sh.own 0 rfl)
    obtain ⟨cs25,rfl,h⟩:=hv23.last hr33
    obtain rfl:=qn (h.own 0 rfl)
    refine G0 274877906943 [35,36,37] (h.pick [] rfl) rfl (At 38 39 549755813887 824633720831 rfl ?_ ?_)
    ·refine qj qa h rfl rfl rfl fun w52 bb20 h=>Ag (h.pick [] rfl) (Ao 39 1099511627775 rfl (qj qa h rfl rfl rfl fun w53 bb21 h=>Ag (h.pick [] rfl) (Ao 40 2199023255551 rfl (zs 1 h rfl fun w54 h=>Ag (h.pick [] rfl) (Ao 41 4398046511103 rfl (zs 0 h rfl fun w55 h=>Ag (h.pick [] rfl) ?_))))))
     replace h:=h.pick [1,4,5] rfl
     exact qcv [(0,_),(10,_),(13,_),(29,_),(30,_),(31,_),(9,_)] ⟨rfl,rfl,rfl,rfl,rfl,rfl,rfl,trivial⟩ (K _ _ ⟨_,rfl,h⟩)
    refine qj qa h rfl rfl rfl fun w52 bb20 h=>Ag (h.pick [] rfl) (Ao 38 1099511627775 rfl (qj qa h rfl rfl rfl fun w53 bb21 h=>Ag (h.pick [] rfl) (Ao 40 2199023255551 rfl (zs 0 h rfl fun w54 h=>Ag (h.pick [] rfl) (Ao 41 4398046511103 rfl (zs 1 h rfl fun w55 h=>Ag (h.pick [] rfl) ?_))))))
    replace h:=h.pick [0,4,5] rfl
    exact qcv [(0,_),(10,_),(13,_),(29,_),(30,_),(31,_),(9,_)] ⟨rfl,rfl,rfl,rfl,rfl,rfl,rfl,trivial⟩ (K _ _ ⟨_,rfl,h⟩)
   ·refine qj qa h rfl rfl rfl fun w51 bb20 h=>Ag (h.pick [] rfl) (At 34 39 309237645311 841813590015 rfl ?_ ?_)
    ·refine qay (r5,r6) h (cB 112 rfl) (qa3 (h.old s15) (qaI _) (qv y6) hr11) rfl rfl rfl rfl fun w52 S36 us15 hv22 hr32=>?_
     obtain ⟨S37,S38,cs24,us16,rfl,hv23,hr33⟩:=hv22.cons hr32
     obtain rfl:=qn (hv23.sh.own 0 rfl)
     obtain ⟨cs25,rfl,h⟩:=hv23.last hr33
     obtain rfl:=qn (h.own 0 rfl)
     refine G0 549755813887 [35,36,37] (h.pick [] rfl) rfl (Ao 39 1099511627775 rfl (qj qa h rfl rfl rfl fun w53 bb21 h=>Ag (h.pick [] rfl) (Ao 40 2199023255551 rfl (zs 3 h rfl fun w54 h=>Ag (h.pick [] rfl) (Ao 41 4398046511103 rfl (zs 0 h rfl fun w55 h=>Ag (h.pick [] rfl) ?_))))))
     replace h:=h.pick [3,4,5] rfl
     exact qcv [(0,_),(10,_),(13,_),(29,_),(30,_),(31,_),(9,_)] ⟨rfl,rfl,rfl,rfl,rfl,rfl,rfl,trivial⟩ (K _ _ ⟨_,rfl,h⟩)
    refine qj qa h rfl rfl rfl fun w52 bb21 h=>Ag (h.pick [] rfl) (Ao 34 858993459199 rfl (qay (r5,r6) h (cB 112 rfl) (qa3 (h.old s15) (qaI _) (qv y6) hr11) rfl rfl rfl rfl fun w53 S36 us15 hv22 hr32=>?_))
    obtain ⟨S37,S38,cs24,us16,rfl,hv23,hr33⟩:=hv22.cons hr32
    obtain rfl:=qn (hv23.sh.own 0 rfl)
    obtain ⟨cs25,rfl,h⟩:=hv23.last hr33
    obtain rfl:=qn (h.own 0 rfl)
    refine G0 1099511627775 [35,36,37] (h.pick [] rfl) rfl (Ao 40 2199023255551 rfl (zs 3 h rfl fun w54 h=>Ag (h.pick [] rfl) (Ao 41 4398046511103 rfl (zs 2 h rfl fun w55 h=>Ag (h.pick [] rfl) ?_))))
    replace h:=h.pick [3,4,5] rfl
    exact qcv [(0,_),(10,_),(13,_),(29,_),(30,_),(31,_),(9,_)] ⟨rfl,rfl,rfl,rfl,rfl,rfl,rfl,trivial⟩ (K _ _ ⟨_,rfl,h⟩)
   refine qj qa h rfl rfl rfl fun w51 bb20 h=>Ag (h.pick [] rfl) (At 34 38 584115552255 841813590015 rfl ?_ ?_)
   ·refine qay (r5,r6) h (cB 112 rfl) (qa3 (h.old s15) (qaI _) (qv y6) hr11) rfl rfl rfl rfl fun w52 S36 us15 hv22 hr32=>?_
    obtain ⟨S37,S38,cs24,us16,rfl,hv23,hr33⟩:=hv22.cons hr32
    obtain rfl:=qn (hv23.sh.own 0 rfl)
    obtain ⟨cs25,rfl,h⟩:=hv23.last hr33
    obtain rfl:=qn (h.own 0 rfl)
    refine G0 824633720831 [35,36,37] (h.pick [] rfl) rfl (Ao 38 1099511627775 rfl (qj qa h rfl rfl rfl fun w53 bb21 h=>Ag (h.pick [] rfl) (Ao 40 2199023255551 rfl (zs 0 h rfl fun w54 h=>Ag (h.pick [] rfl) (Ao 41 4398046511103 rfl (zs 3 h rfl fun w55 h=>Ag (h.pick [] rfl) ?_))))))
    replace h:=h.pick [0,4,5] rfl
    exact qcv [(0,_),(10,_),(13,_),(29,_),(30,_),(31,_),(9,_)] ⟨rfl,rfl,rfl,rfl,rfl,rfl,rfl,trivial⟩ (K _ _ ⟨_,rfl,h⟩)
   refine qj qa h rfl rfl rfl fun w52 bb21 h=>Ag (h.pick [] rfl) (Ao 34 858993459199 rfl (qay (r5,r6) h (cB 112 rfl) (qa3 (h.old s15) (qaI _) (qv y6) hr11) rfl rfl rfl rfl fun w53 S36 us15 hv22 hr32=>?_))
   obtain ⟨S37,S38,cs24,us16,rfl,hv23,hr33⟩:=hv22.cons hr32
   obtain rfl:=qn (hv23.sh.own 0 rfl)
   obtain ⟨cs25,rfl,h⟩:=hv23.last hr33
   obtain rfl:=qn (h.own 0 rfl)
   refine G0 1099511627775 [35,36,37] (h.pick [] rfl) rfl (Ao 40 2199023255551 rfl (zs 2 h rfl fun w54 h=>Ag (h.pick [] rfl) (Ao 41 4398046511103 rfl (zs 3 h rfl fun w55 h=>Ag (h.pick [] rfl) ?_))))
   replace h:=h.pick [2,4,5] rfl
   exact qcv [(0,_),(10,_),(13,_),(29,_),(30,_),(31,_),(9,_)] ⟨rfl,rfl,rfl,rfl,rfl,rfl,rfl,trivial⟩ (K _ _ ⟨_,rfl,h⟩)
  rintro e6 w56 ⟨bb22,rfl,h⟩
  refine Ad (X2 4 2 0 h rfl (zcO h hF (qli (qv _) (qv r5)) rfl fun r9 w57 S40 cs26 h hF=>?_))
  obtain rfl:=qn (h.own 0 rfl)
  refine zs 3 h rfl fun w58 h=>X1 4 3 h rfl (qI qa [.tmp 77] _ ([r9]:List qd) h rfl rfl rfl rfl rfl rfl rfl rfl rfl ⟨(qv r9),trivial⟩ rfl fun w59 p32 S41 h=>?_)
  obtain ⟨x3,hx3,hF⟩:=qc hF
  obtain ⟨g3,hx3⟩:=qat hx3
  refine qct qa 3 h rfl (h.sl 0 rfl).1 (h.sl 0 rfl).2 rfl rfl rfl rfl rfl rfl rfl rfl rfl g3 hx3 rfl fun w60 p33 k26 S42 h=>X0 7 rfl ?_
  replace h:=h.pick [3,4] rfl
  exact rK ⟨_,_,_,_,_,_,_,_,hF,rfl,h⟩ rfl
 refine qu rfl ?_
 obtain rfl:=qb hF;replace hF:=hK1
 refine X0 5 rfl ?_
 obtain rfl:=qb hF
 exact rO 0 h rfl ⟨rfl,trivial⟩
def qdV (n:Nat) (a_w:(Option Twork)) (start:Int) (links:(List Int)):Option qd :=
 (qh2 n a_w start links).bind fun r1 =>
 (idx r1 (links.length:Int)).bind fun y1 =>
 some y1
theorem qkM {a_w:(Option Twork)} {start:Int} {links:(List Int)} (ha1:GoT.R w (old w) a_w cs1) (ha2:GoT.R w (old w) links cs2) {r:qd} (hF:qdV n a_w start links=some r):RetV Tryz.prog 41 [GoT.v (Option Twork) cs1,.int .i64 start,GoT.v (List Int) cs2] w r:=by
 obtain ⟨p1,rfl,s1⟩:=qac ha1
 obtain ⟨p2,k1,rfl,s2⟩:=ha2
 refine zV 15 Tryz.func41 rfl fun h=>zSR (qj qa h rfl rfl rfl fun w1 bb1 h=>X0 6 rfl (zcL h hF (qog (h.old s1) ⟨_,_,rfl,(h.oldS s2)⟩) rfl fun r1 w2 S1 p3 k2 h hF=>zp2 rfl ?_))
 obtain ⟨y1,hy1,hF,he1,b1,_,q1,cs3,hp1,hq1,hr2,hc1⟩:=(h.sl 0 rfl).1.ix hF
 obtain rfl:=qn hr2
 refine zx hp1 hq1 ⟨he1.1,qR he1.2.1 (h.sl 0 rfl).2⟩ rfl (zc 0 hc1 rfl (zs 1 h rfl fun w3 h=>qcw ?_))
 obtain rfl:=qb hF
 exact qS qa (ρ:=qd) [GoT.v qd (qfM y1)] h ⟨⟨_,_,_,rfl,rfl,h.box 1 rfl,rfl⟩,trivial⟩ (PV.done h (qW (qz (S:=fun _=>False) (qv y1))))
def qh9 (_:Nat) (s:qd) (mode:Int):Option Int :=
 bif (mode==0) then some s.Ak else
 some s.Bd
theorem qjD {s:qd} {mode:Int} (ha1:GoT.R w (old w) s cs1) {r:Int} (hF:qh9 n s mode=some r):RetV Tryz.prog 42 [GoT.v qd cs1,.int .i64 mode] w r:=by
 obtain rfl:=qn ha1
 refine zV 11 Tryz.func42 rfl fun h=>zSR (qw h rfl rfl fun w1 bb1 h=>X0 8 rfl (qh rfl hF ?_ ?_))<;>intro hF
 ·exact X1 6 0 h rfl (ri h hF rfl)
 exact X1 7 0 h rfl (ri h hF rfl)
def qcp (a_2:(List Int)) (a_3:Int) (y1:Twork):Nat→(List Int)→Int→Int→Int→Option ((List Int) × Int × Int × Int)
 | 0,_,_,_,_=>none
 | n+1,x1,i1,i2,i3 =>
  bif decide (i3<(a_2.length:Int)) then
   (idx a_2 i3).bind fun y2 =>
   (y1.graph).bind fun y3 =>
   (qbb n y3.view (⟨y1.job.Ai.Bb,y1.job.Ai.As,y1.job.Ai.Az,y1.job.Ai.Aq,y1.job.Ai.Ba⟩:qr) y2 i2 a_3).bind fun r6 =>
   (qaG n y3.view y2 i2 a_3).bind fun r7 =>
   (appS x1 ([W64 (i1+r6)]:List Int)).bind fun x2 =>
   qcp a_2 a_3 y1 n x2 (W64 (i1+r6)) r7 (W64 (i3+1))
  else
   some (x1,i1,i2,i3)
def qgh (n:Nat) (a_0:(Option Twork)) (a_1:Int) (a_2:(List Int)) (a_3:Int):Option ((List Int) × Int) :=
 (a_0).bind fun y1 =>
 (qcy n y1.job.Ar a_1).bind fun o=>match o with
  | (r2,_) =>
   (qh9 n (⟨r2.Ah.Ak,r2.Ah.Bd⟩:qd) a_3).bind fun r4 =>
   (qh9 n (⟨r2.Bc.Ak,r2.Bc.Bd⟩:qd) a_3).bind fun r5 =>
   (qcp a_2 a_3 y1 n ([r4]:List Int) r4 r5 0).bind fun o=>match o with
   | (x1,_,i2,_) =>
    some (x1,i2)
theorem qm0 {a_0:(Option Twork)} {a_1:Int} {a_2:(List Int)} {a_3:Int} (ha1:GoT.R w (old w) a_0 cs1) (ha2:GoT.R w (old w) a_2 cs2) {r:((List Int) × Int)} (hF:qgh n a_0 a_1 a_2 a_3=some r):RetV Tryz.prog 48 [GoT.v (Option Twork) cs1,.int .i64 a_1,GoT.v (List Int) cs2,.int .i64 a_3] w r:=by
 obtain ⟨p1,rfl,s1⟩:=qac ha1
 obtain ⟨p2,k1,rfl,s2⟩:=ha2
 refine zV 79 Tryz.func48 rfl fun h=>X0 8 rfl ?_
 obtain ⟨y1,hy1,hF⟩:=qc hF
 obtain ⟨b1,o_1,cs3,rfl,-,hr1,hc1⟩:=PtR.get s1 hy1
 obtain ⟨p3,p4,k2,p5,k3,p6,k4,p7,k5,p8,k6,p9,k7,p10,k8,p11,k9,p12,k10,p13,k11,p14,k12,rfl,s3,s4,s5,s6,s7,s8,s9,s10,s11,s12,s13,s14⟩:=qkm hr1
 refine zp3 rfl (zc 12 (hc1.below h.below) rfl (zp1 rfl ?_))
 obtain ⟨r1,hr2,hF⟩:=qc hF
 obtain ⟨r2,r3⟩:=r1
 refine qay (r2,r3) h (cB 79 rfl) (qgO ⟨_,_,rfl,(h.oldS s10)⟩ hr2) rfl rfl rfl rfl fun w1 S1 us1 hv1 hr3=>?_
 obtain ⟨S2,S3,cs4,us2,rfl,hv2,hr4⟩:=hv1.cons hr3
 obtain rfl:=qF (hv2.sh.own 0 rfl)
 obtain ⟨rfl,h⟩:=hv2.lastB hr4
 refine zp3 rfl (qj qa h rfl rfl rfl fun w2 bb1 h=>zs 0 h rfl fun w3 h=>X0 3 rfl (rD (Y1 2 0 h rfl ?_)))
 refine zd1 rfl ?_
 obtain ⟨r4,hr6,hF⟩:=qc hF
 refine qaQ r4 (vsI _) (cB 42 rfl) (fun _ hb=>qjD (qv _) hr6) rfl rfl rfl rfl (Y1 2 0 h rfl ?_)
 refine zd1 rfl ?_
 obtain ⟨r5,hr7,hF⟩:=qc hF
 refine qaQ r5 (vsI _) (cB 42 rfl) (fun _ hb=>qjD (qv _) hr7) rfl rfl rfl rfl (zd2 rfl (dN h fun w4 h=>X0 3 rfl (qI qa [.tmp 35] _ ([r4]:List Int) h rfl rfl rfl rfl rfl rfl rfl rfl rfl ⟨rfl,trivial⟩ rfl fun w5 p15 S5 h=>X0 9 rfl ?_)))
 obtain ⟨o1,hF,hK1⟩:=qc hF
 refine qm ?_
 replace h:=h.pick [0] rfl
 refine rL (fun m e w'=>∃ (S6:Nat→Prop) (p16:Option Addr) (ln1:Nat) (k13:Nat) (x1:(List Int)) (i1:Int) (i2:Int) (i3:Int),qcp a_2 a_3 y1 m x1 i1 i2 i3=some o1∧e=[(0,.pointer (some ⟨b1,o_1,none⟩)),(3,.int .i64 a_3),(12,.int .i64 i1),(13,.int .i64 i2),(14,.slice p16 ln1 k13),(37,.slice p2 a_2.length k1),(38,.int .i64 (a_2.length:Int)),(39,.int .i64 i3)]∧SH w w' [Ch.own S6 (x1:List Int) [.slice p16 ln1 k13]]) n ⟨_,_,_,_,_,_,_,_,hF,rfl,h⟩ rfl ?_
 rintro m1 e1 w6 ⟨S6,p16,ln1,k13,x1,i1,i2,i3,hF,rfl,h⟩
 obtain rfl:=(h.sl 0 rfl).2
 rcases m1 with _|m1
 ·cases hF
 refine X0 5 rfl (qh rfl hF ?_ ?_)<;>intro hF
 ·refine zKSBSR ?_
  obtain ⟨y2,hy2,hF,he1,b2,_,q1,cs5,hp1,hq1,rfl,hc3⟩:=s2.ix hF
  refine zxe hp1 hq1 he1 rfl (zc 0 (hc3.below h.below) rfl (X0 3 rfl (rD (zd4 rfl (zdc 0 (hc1.below h.below) rfl ?_)))))
  obtain ⟨y3,hy3,hF⟩:=qc hF
  obtain ⟨b3,o_3,cs6,rfl,-,hr9,hc4⟩:=PtR.get s3 hy3
  obtain ⟨p17,p18,k14,rfl,s15,s16⟩:=qcV hr9
  refine zd2 rfl (zdc 0 (hc4.below h.below) rfl (zd4 rfl (zdc 6 (hc1.below h.below) rfl (zd3 rfl ?_))))
  obtain ⟨r6,hr10,hF⟩:=qc hF
  refine qaQ r6 (vsI _) (cB 80 rfl) (fun _ hb=>qal ((h.ext hb).old s15) (qaI _) hr10) rfl rfl rfl rfl (zd2 rfl (dN h fun w7 h=>X0 5 rfl (zc 0 (hc1.below h.below) rfl (zp2 rfl (zc 0 (hc4.below h.below) rfl (zp3 rfl (zcI h hF (qeN (h.old s15)) rfl fun r7 w8 h hF=>X0 5 rfl (qI qa [.tmp 73] _ ([W64 (i1+r6)]:List Int) h rfl rfl rfl rfl rfl rfl rfl rfl rfl ⟨rfl,trivial⟩ rfl fun w9 p19 S7 h=>?_))))))))
  obtain ⟨x2,hx1,hF⟩:=qc hF
  obtain ⟨g1,hx1⟩:=qat hx1
  refine qct qa 1 h rfl (h.sl 0 rfl).1 (h.sl 0 rfl).2 rfl rfl rfl rfl rfl rfl rfl rfl rfl g1 hx1 rfl fun w10 p20 k15 S8 h=>X0 7 rfl ?_
  replace h:=h.pick [1] rfl
  exact rK ⟨_,_,_,_,_,_,_,_,hF,rfl,h⟩ rfl
 refine qu rfl ?_
 obtain rfl:=qb hF;replace hF:=hK1
 refine X0 7 rfl ?_
 obtain rfl:=qb hF
 exact qS qa (ρ:=((List Int) × Int)) [GoT.v (List Int) [.slice p16 x1.length k13],GoT.v Int [.int .i64 i2]] h ⟨rfl,rfl,trivial⟩ (PV.done h (qai h (qaA 0 h rfl) (qW (qz (S:=fun _=>False) rfl)) (by rfl)))
end Go.Fw


namespace Go.Fw
open Go Go.Proofs
open Go.RowKit (Below)
set_option maxRecDepth 100000
set_option maxHeartbeats 1600000
variable {n:Nat} {w:World} {cs1 cs2 cs3 cs4 cs5 cs6 cs7 cs8 cs9:List Value}
def qiz (_:Nat) (graph:Int) (own:Int) (mode:Int):Option Int :=
 bif (mode==1) then some (W64 (graph-own)) else
 some (W64 (own-graph))
theorem qor {graph:Int} {own:Int} {mode:Int}  {r:Int} (hF:qiz n graph own mode=some r):RetV Tryz.prog 50 [.int .i64 graph,.int .i64 own,.int .i64 mode] w r:=by
 refine zV 15 Tryz.func50 rfl fun h=>X0 10 rfl (qh rfl hF ?_ ?_)<;>intro hF
 ·exact X0 7 rfl (ri h hF rfl)
 exact X0 8 rfl (ri h hF rfl)
def qeJ (n:Nat) (a_w:(Option Twork)) (start:Int) (links:(List Int)) (mode:Int):Option Int :=
 (qgh n a_w start links mode).bind fun o=>match o with
  | (r2,_) =>
   (idx r2 (links.length:Int)).bind fun y1 =>
   some y1
theorem qlG {a_w:(Option Twork)} {start:Int} {links:(List Int)} {mode:Int} (ha1:GoT.R w (old w) a_w cs1) (ha2:GoT.R w (old w) links cs2) {r:Int} (hF:qeJ n a_w start links mode=some r):RetV Tryz.prog 51 [GoT.v (Option Twork) cs1,.int .i64 start,GoT.v (List Int) cs2,.int .i64 mode] w r:=by
 obtain ⟨p1,rfl,s1⟩:=qac ha1
 obtain ⟨p2,k1,rfl,s2⟩:=ha2
 refine zV 24 Tryz.func51 rfl fun h=>X0 10 rfl ?_
 obtain ⟨r1,hr1,hF⟩:=qc hF
 obtain ⟨r2,r3⟩:=r1
 refine qay (r2,r3) h (cB 48 rfl) (qm0 (h.old s1) ⟨_,_,rfl,(h.oldS s2)⟩ hr1) rfl rfl rfl rfl fun w1 S1 us1 hv1 hr2=>?_
 obtain ⟨S2,S3,p3,k2,us2,rfl,hv2,hr3⟩:=hv1.consL hr2
 obtain ⟨rfl,h⟩:=hv2.lastI hr3
 refine X0 11 rfl ?_
 obtain ⟨y1,hy1,hF,he1,b1,_,q1,cs3,hp1,hq1,rfl,hc1⟩:=(h.sl 0 rfl).1.ix hF
 exact zx hp1 hq1 ⟨he1.1,qR he1.2.1 (h.sl 0 rfl).2⟩ rfl (zc 0 hc1 rfl (X0 2 rfl (ri h hF rfl)))
def qfD (n:Nat) (j:qa2) (start:Int) (links:(List Int)) (mode:Int):Option (Int × Int) :=
 (qcx n j mode start links).bind fun o=>match o with
  | (r2,r3) =>
   bif (r3 != 0) then some (0,r3) else
   (qdV n r2 start links).bind fun r4 =>
   (qh9 n r4 mode).bind fun r5 =>
   (qeJ n r2 start links mode).bind fun r6 =>
   (qiz n r5 r6 mode).bind fun r7 =>
   some (r7,0)
theorem qmy {j:qa2} {start:Int} {links:(List Int)} {mode:Int} (ha1:GoT.R w (old w) j cs1) (ha2:GoT.R w (old w) links cs2) {r:(Int × Int)} (hF:qfD n j start links mode=some r):RetV Tryz.prog 19 [GoT.v qa2 cs1,.int .i64 start,GoT.v (List Int) cs2,.int .i64 mode] w r:=by
 obtain ⟨p1,k1,p2,k2,p3,k3,p4,k4,p5,k5,p6,k6,p7,k7,rfl,s1,s2,s3,s4,s5,s6,s7⟩:=qdf ha1
 obtain ⟨p8,k8,rfl,s8⟩:=ha2
 refine zV 36 Tryz.func19 rfl fun h=>zSR (qw h rfl rfl fun w1 bb1 h=>X1 9 0 h rfl ?_)
 have hg1:Rg (old w) w (old w) w:=.start (fun _ h=>h)
 obtain ⟨r1,hr1,hF⟩:=qc hF
 obtain ⟨r2,r3⟩:=r1
 refine qhC (r2,r3) hg1 h (cB 40 rfl) (qpd (hg1.regOld h) (hg1.inR h ha1) ⟨_,_,rfl,(hg1.inS h s8)⟩ hr1) rfl rfl rfl rfl fun w2 us1 B1 hg2 hu1 hz1 hv1=>?_
 have hL1:=h.ext hu1.below
 have s9:=Up.S hg1 h hu1 s8
 have hb1:=h.below.trans (hu1.below.mono h.below.size)
 replace h:=hz1
 obtain ⟨cs3,us2,rfl,hr2,hv2⟩:=qj8 hv1
 obtain ⟨p9,rfl,s10⟩:=qac hr2
 obtain ⟨cs4,rfl,hr3⟩:=qjK hv2
 obtain rfl:=hr3
 refine X0 12 rfl (qh rfl hF ?_ ?_)<;>intro hF
 ·refine X0 6 rfl ?_
  replace h:=h.unbase hg2.below (show NoD [] from trivial)
  obtain rfl:=qb hF
  exact qS qa (ρ:=(Int × Int)) [GoT.v Int [.int .i64 0],GoT.v Int [.int .i64 r3]] h ⟨rfl,rfl,trivial⟩ (PV.done h (qai h (qz (S:=fun _=>False) rfl) (qW (qz (S:=fun _=>False) rfl)) (by rfl)))
 refine X0 6 rfl (zcO h hF (qkM (h.old (GoT.mono s10 hg2.old)) ⟨_,_,rfl,(h.oldS (s9.mono hg2.old))⟩) rfl fun r4 w3 S1 cs5 h hF=>?_)
 obtain rfl:=qn (h.own 0 rfl)
 refine zp1 rfl (zcI h hF (qjD (h.own 0 rfl)) rfl fun r5 w4 h hF=>zp4 rfl (zcI h hF (qlG (h.old (GoT.mono s10 hg2.old)) ⟨_,_,rfl,(h.oldS (s9.mono hg2.old))⟩) rfl fun r6 w5 h hF=>zp1 rfl (zcI h hF qor rfl fun r7 w6 h hF=>X0 3 rfl ?_)))
 replace h:=h.unbase hg2.below ⟨fun _ h=>h,trivial⟩
 obtain rfl:=qb hF
 exact qS qa (ρ:=(Int × Int)) [GoT.v Int [.int .i64 r7],GoT.v Int [.int .i64 0]] h ⟨rfl,rfl,trivial⟩ (PV.done h (qai h (qz (S:=fun _=>False) rfl) (qW (qz (S:=fun _=>False) rfl)) (by rfl)))
def qme (n:Nat) (a:qa2) (left:Int):Option Int :=
 (qjO n (⟨(⟨a.Af.Ay.Au⟩:qq),(⟨a.Af.Ab.Aa,a.Af.Ab.Ap,a.Af.Ab.Aj⟩:qe),a.Af.Ac⟩:qf) left).bind fun r1 =>
 bif decide (r1<0) then some (-1) else
 (qi6 n (⟨a.Ai.Bb,a.Ai.As,a.Ai.Az,a.Ai.Aq,a.Ai.Ba⟩:qr) r1).bind fun r2 =>
 bif decide (r2<0) then some (-1) else
 (qbR n a.Bi r2).bind fun r3 =>
 bif decide (r3<0) then some (-1) else
 (qkD n a.Ar r3).bind fun r4 =>
 bif decide (r4<0) then some (-1) else
 some r4
theorem qre {a:qa2} {left:Int} (ha1:GoT.R w (old w) a cs1) {r:Int} (hF:qme n a left=some r):RetV Tryz.prog 9 [GoT.v qa2 cs1,.int .i64 left] w r:=by
 obtain ⟨p1,k1,p2,k2,p3,k3,p4,k4,p5,k5,p6,k6,p7,k7,rfl,s1,s2,s3,s4,s5,s6,s7⟩:=qdf ha1
 refine zV 30 Tryz.func9 rfl fun h=>zSR (qw h rfl rfl fun w1 bb1 h=>X1 7 0 h rfl (zcI h hF (qpN (qcE _ (h.oldS s1) (h.oldS s2) (h.oldS s3) (h.oldS s4) (h.oldS s5))) rfl fun r1 w2 h hF=>X0 8 rfl (qh rfl hF ?_ ?_)))<;>intro hF
 ·exact X0 4 rfl (ri h hF rfl)
 refine X1 6 0 h rfl (zcI h hF (qoT (qaI _)) rfl fun r2 w3 h hF=>X0 8 rfl (qh rfl hF ?_ ?_))<;>intro hF
 ·exact X0 4 rfl (ri h hF rfl)
 refine X1 6 0 h rfl (zcI h hF (qbA ⟨_,_,rfl,(h.oldS s6)⟩) rfl fun r3 w4 h hF=>X0 8 rfl (qh rfl hF ?_ ?_))<;>intro hF
 ·exact X0 4 rfl (ri h hF rfl)
 refine X1 6 0 h rfl (zcI h hF (qoF ⟨_,_,rfl,(h.oldS s7)⟩) rfl fun r4 w5 h hF=>X0 8 rfl (qh rfl hF ?_ ?_))<;>intro hF
 ·exact X0 4 rfl (ri h hF rfl)
 exact X0 6 rfl (ri h hF rfl)
def qiH (n:Nat) (a:qa2):Option qa2 :=
 (qjZ n (⟨(⟨a.Af.Ay.Au⟩:qq),(⟨a.Af.Ab.Aa,a.Af.Ab.Ap,a.Af.Ab.Aj⟩:qe),a.Af.Ac⟩:qf)).bind fun r1 =>
 (qjc n (⟨a.Ai.Bb,a.Ai.As,a.Ai.Az,a.Ai.Aq,a.Ai.Ba⟩:qr)).bind fun r2 =>
 (qaR n a.Bi).bind fun r3 =>
 (qhX n a.Ar).bind fun r4 =>
 some (⟨r1,(⟨r2.Bb,r2.As,r2.Az,r2.Aq,r2.Ba⟩:qr),r3,r4⟩:qa2)
theorem qll {a:qa2} (ha1:GoT.R w (old w) a cs1) {r:qa2} (hF:qiH n a=some r):RetV Tryz.prog 11 [GoT.v qa2 cs1] w r:=by
 obtain ⟨p1,k1,p2,k2,p3,k3,p4,k4,p5,k5,p6,k6,p7,k7,rfl,s1,s2,s3,s4,s5,s6,s7⟩:=qdf ha1
 refine zV 21 Tryz.func11 rfl fun h=>zSR (qw h rfl rfl fun w1 bb1 h=>qj qa h rfl rfl rfl fun w2 bb2 h=>zNSR (qj qa h rfl rfl rfl fun w3 bb3 h=>X1 5 2 h rfl (zcO h hF (qpA (qcE _ (h.oldS s1) (h.oldS s2) (h.oldS s3) (h.oldS s4) (h.oldS s5))) rfl fun r1 w4 S1 cs2 h hF=>?_)))
 obtain ⟨p8,k8,p9,k9,p10,k10,p11,k11,p12,k12,rfl,-,-,-,-,-⟩:=qaa (h.own 0 rfl)
 refine zp1 rfl (zs 1 h rfl fun w5 h=>X1 5 3 h rfl (zcO h hF (qo8 (qaI _)) rfl fun r2 w6 S2 cs3 h hF=>?_))
 obtain rfl:=qaD (h.own 0 rfl)
 refine zp1 rfl (zs 2 h rfl fun w7 h=>X1 5 4 h rfl (zcL h hF (qaJ ⟨_,_,rfl,(h.oldS s6)⟩) rfl fun r3 w8 S3 p13 k13 h hF=>zp1 rfl (zs 3 h rfl fun w9 h=>X1 5 5 h rfl (zcL h hF (qoG ⟨_,_,rfl,(h.oldS s7)⟩) rfl fun r4 w10 S4 p14 k14 h hF=>zp1 rfl (zs 4 h rfl fun w11 h=>X1 4 4 h rfl (zs 5 h rfl fun w12 h=>qcw ?_))))))
 obtain rfl:=qb hF
 exact qS qa (ρ:=qa2) [GoT.v qa2 [.slice p8 r1.Ay.Au.length k8,.slice p9 r1.Ab.Aa.length k9,.slice p10 r1.Ab.Ap.length k10,.slice p11 r1.Ab.Aj.length k11,.slice p12 r1.Ac.length k12,.string r2.Bb,.int .i64 r2.As,.int .i64 r2.Az,.int .i64 r2.Aq,.int .i64 r2.Ba,.slice p13 r3.length k13,.slice p14 r4.length k14]] h ⟨⟨_,_,_,rfl,rfl,h.box 5 rfl,rfl⟩,trivial⟩ (PV.done h (qW (qxA (⟨r1,(⟨r2.Bb,r2.As,r2.Az,r2.Aq,r2.Ba⟩:qr),r3,r4⟩:qa2) h (qaA 3 h rfl) (qz (S:=fun _=>False) (qaI (⟨r2.Bb,r2.As,r2.Az,r2.Aq,r2.Ba⟩:qr))) (qaA 1 h rfl) (qaA 0 h rfl) (by rfl) (by rfl) (by rfl))))
def qlV (n:Nat) (a:qa2) (b:qa2):Option Bool :=
 (qjN n (⟨(⟨a.Af.Ay.Au⟩:qq),(⟨a.Af.Ab.Aa,a.Af.Ab.Ap,a.Af.Ab.Aj⟩:qe),a.Af.Ac⟩:qf) (⟨(⟨b.Af.Ay.Au⟩:qq),(⟨b.Af.Ab.Aa,b.Af.Ab.Ap,b.Af.Ab.Aj⟩:qe),b.Af.Ac⟩:qf)).bind fun r1 =>
 bif (!r1) then some false else
 (qiW n (⟨a.Ai.Bb,a.Ai.As,a.Ai.Az,a.Ai.Aq,a.Ai.Ba⟩:qr) (⟨b.Ai.Bb,b.Ai.As,b.Ai.Az,b.Ai.Aq,b.Ai.Ba⟩:qr)).bind fun r2 =>
 bif (!r2) then some false else
 (qbo n a.Bi b.Bi).bind fun r3 =>
 bif (!r3) then some false else
 (qir n a.Ar b.Ar).bind fun r4 =>
 bif (!r4) then some false else
 some true
theorem qrp {a:qa2} {b:qa2} (ha1:GoT.R w (old w) a cs1) (ha2:GoT.R w (old w) b cs2) {r:Bool} (hF:qlV n a b=some r):RetV Tryz.prog 14 [GoT.v qa2 cs1,GoT.v qa2 cs2] w r:=by
 obtain ⟨p1,k1,p2,k2,p3,k3,p4,k4,p5,k5,p6,k6,p7,k7,rfl,s1,s2,s3,s4,s5,s6,s7⟩:=qdf ha1
 obtain ⟨p8,k8,p9,k9,p10,k10,p11,k11,p12,k12,p13,k13,p14,k14,rfl,s8,s9,s10,s11,s12,s13,s14⟩:=qdf ha2
 refine zV 29 Tryz.func14 rfl fun h=>zSR (qw h rfl rfl fun w1 bb1 h=>qw h rfl rfl fun w2 bb2 h=>X2 9 1 0 h rfl (zcB h hF (qpM (qcE _ (h.oldS s1) (h.oldS s2) (h.oldS s3) (h.oldS s4) (h.oldS s5)) (qcE _ (h.oldS s8) (h.oldS s9) (h.oldS s10) (h.oldS s11) (h.oldS s12))) rfl fun r1 w3 h hF=>X0 2 rfl (qh rfl hF ?_ ?_)))<;>intro hF
 ·exact X0 4 rfl (rb h hF rfl)
 refine X2 8 1 0 h rfl (zcB h hF (qpg (qaI _) (qaI _)) rfl fun r2 w4 h hF=>X0 2 rfl (qh rfl hF ?_ ?_))<;>intro hF
 ·exact X0 4 rfl (rb h hF rfl)
 refine X2 8 1 0 h rfl (zcB h hF (qbd ⟨_,_,rfl,(h.oldS s6)⟩ ⟨_,_,rfl,(h.oldS s13)⟩) rfl fun r3 w5 h hF=>X0 2 rfl (qh rfl hF ?_ ?_))<;>intro hF
 ·exact X0 4 rfl (rb h hF rfl)
 refine X2 8 1 0 h rfl (zcB h hF (qn3 ⟨_,_,rfl,(h.oldS s7)⟩ ⟨_,_,rfl,(h.oldS s14)⟩) rfl fun r4 w6 h hF=>X0 2 rfl (qh rfl hF ?_ ?_))<;>intro hF
 ·exact X0 4 rfl (rb h hF rfl)
 exact X0 5 rfl (rb h hF rfl)
end Go.Fw


namespace Go.Fw
open Go
def qmb (x:qr):Prop:=rngS x.Bb∧rngI x.As∧rngI x.Az∧rngI x.Aq∧rngI x.Ba
def qkG (x:qr):Nat:=x.Bb.size
structure qrw (x:qr):Prop where
 Bb:okS x.Bb
 As:okI x.As
 Az:okI x.Az
 Aq:okI x.Aq
 Ba:okI x.Ba
theorem qtq {x:qr} (h:qmb x) (w:qkG x≤1048576):qrw x:=⟨(by unfold okS;simp only [qkG] at w;omega),h.2.1,h.2.2.1,h.2.2.2.1,h.2.2.2.2⟩
theorem qvS {a:qr} (_:qkG a≤1048576):Ev (fun n=>qiW n a a) true:=by
 unfold qiW
 exact Ev.ff qif (Ev.ff qaW (Ev.ff qaW (Ev.ff qaW (Ev.ff qaW (.done)))))
def qol (x:qd):Prop:=rngI x.Ak∧rngI x.Bd
structure qsk (x:qd):Prop where
 Ak:okI x.Ak
 Bd:okI x.Bd
theorem qrN {x:qd} (h:qol x):qsk x:=⟨h.1,h.2⟩
def qiM (x:qg):Prop:=rngI x.Bo∧qol x.Ah∧qol x.Bc
structure qoS (x:qg):Prop where
 Bo:okI x.Bo
 Ah:qsk x.Ah
 Bc:qsk x.Bc
theorem qtE {x:qg} (h:qiM x):qoS x:=⟨h.1,qrN (h.2.1),qrN (h.2.2)⟩
def qhT (a:(List qg)):Nat:=a.length
theorem qsa {a:(List qg)} (h:(rngL qiM) a) (w:qhT a≤1048576):(okL qoS) a :=
 ⟨by simp only [qhT] at w;omega,fun x hx=>qtE (h.2 x hx)⟩
def qqd (x:qa2):Prop:=qnr x.Af∧qmb x.Ai∧(rngL rngI) x.Bi∧(rngL qiM) x.Ar
def qmw (x:qa2):Nat:=qik x.Af+qkG x.Ai+qcL x.Bi+qhT x.Ar
structure qiG (x:qa2):Prop where
 Af:qlv x.Af
 Ai:qrw x.Ai
 Bi:(okL okI) x.Bi
 Ar:(okL qoS) x.Ar
theorem qwx {x:qa2} (h:qqd x) (w:qmw x≤1048576):qiG x:=⟨qtW (h.1) (by simp only [qmw] at w;omega),qtq (h.2.1) (by simp only [qmw] at w;omega),qds (h.2.2.1) (by simp only [qmw] at w;omega),qsa (h.2.2.2) (by simp only [qmw] at w;omega)⟩
theorem quQ {a:qd}:Ev (fun n=>qjg n a a) true:=by
 unfold qjg
 exact Ev.ff qaW (Ev.ff qaW (.done))
theorem qvt {a:qg}:Ev (fun n=>qhj n a a) true:=by
 unfold qhj
 exact Ev.ff qaW (Ev.bind (quQ (a:=a.Ah)) (Ev.ff rfl (Ev.bind (quQ (a:=a.Bc)) (Ev.ff rfl (.done)))))
theorem qtJ {a:(List qg)} (h:qhT a≤1048576):Ev (fun n=>qir n a a) true:=by
 have hl:a.length≤1048576:=by simp only [qhT] at h;omega
 unfold qir
 exact Ev.ff (by simp) (Ev.bind (b:=.nxt (a.length:Int)) (qi8 (eqf:=qhj) (fun x hx=>qvt)
  (fun n=>by simp only [qeY,ql (jb _),cond_false])
  (fun n j x hx=>by
   have hj:=(List.getElem?_eq_some_iff.1 hx).1
   simp only [qeY,qk hj,cond_true,qaz hx,ja,wS j])) .done)
theorem qyr {a:qa2} (h:qmw a≤1048576):Ev (fun n=>qlV n a a) true:=by
 unfold qlV
 simp only [qmw] at h
 exact Ev.bind (qv0 (a:=a.Af) (by omega)) (Ev.ff rfl (Ev.bind (qvS (a:=a.Ai) (by omega)) (Ev.ff rfl (Ev.bind (qfx (a:=a.Bi) (by omega)) (Ev.ff rfl (Ev.bind (qtJ (a:=a.Ar) (by omega)) (Ev.ff rfl (.done))))))))
theorem qu6 {a:qr} {left:Int} (h:qmb a) (h0:0≤left) (h1:left≤1048576):Sz (fun n=>qi6 n a left) (fun r=>r=left-(qkG a:Int)):=by
 unfold qi6
 obtain ⟨h_0,h_1,h_2,h_3,h_4⟩:=h
 exact Sz.strStep h_0 (by omega) (by omega) fun p0 q0=>Sz.done p0 (by simp only [qkG];omega)
theorem qug {a:(List qg)} {left:Int} (h:(rngL qiM) a) (h0:0≤left) (h1:left≤1048576):Sz (fun n=>qkD n a left) (fun r=>r=left-(qhT a:Int)) :=
 Sz.less h0 h1 (by omega) (by have:=h.1;omega) (fun _=>rfl)
theorem qyO {a:qa2} {left:Int} (h:qqd a) (h0:0≤left) (h1:left≤1048576):Sz (fun n=>qme n a left) (fun r=>r=left-(qmw a:Int)):=by
 unfold qme
 obtain ⟨h_0,h_1,h_2,h_3⟩:=h
 exact Sz.step (qwO (a:=a.Af) h_0 (by omega) (by omega)) fun r0 p0 q0=>Sz.step (qu6 (a:=a.Ai) h_1 (by omega) (by omega)) fun r1 p1 q1=>Sz.step (qf5 (a:=a.Bi) h_2 (by omega) (by omega)) fun r2 p2 q2=>Sz.step (qug (a:=a.Ar) h_3 (by omega) (by omega)) fun r3 p3 q3=>Sz.done p3 (by simp only [qmw];omega)
theorem qvQ {a:qr} (_:qkG a≤1048576):Ev (fun n=>qjc n a) a:=by
 unfold qjc
 exact .done
theorem quH {a:qd}:Ev (fun n=>qje n a) a:=by
 unfold qje
 exact .done
theorem qvx {a:qg}:Ev (fun n=>qhg n a) a:=by
 unfold qhg
 exact Ev.bind (quH (a:=a.Ah)) (Ev.bind (quH (a:=a.Bc)) (.done))
theorem quj {a:(List qg)} (h:qhT a≤1048576):Ev (fun n=>qhX n a) a:=by
 have hl:a.length≤1048576:=by simp only [qhT] at h;omega
 unfold qhX
 exact Ev.bindN (qic (by omega)) (Ev.bind (b:=(a,(a.length:Int))) (qi1 (cp:=qhg) (fun x hx=>qvx)
  (fun acc n=>by simp only [qeQ,ql (jb _),cond_false])
  (fun acc n j x y hx hy=>by
   have hj:=(List.getElem?_eq_some_iff.1 hx).1
   simp only [qeQ,qk hj,cond_true,qaz hx,qaz hy,ja,wS j])) .done)
theorem qt9 {a:qa2} (h:qmw a≤1048576):Ev (fun n=>qiH n a) a:=by
 unfold qiH
 simp only [qmw] at h
 exact Ev.bind (qwr (a:=a.Af) (by omega)) (Ev.bind (qvQ (a:=a.Ai) (by omega)) (Ev.bind (qed (a:=a.Bi) (by omega)) (Ev.bind (quj (a:=a.Ar) (by omega)) (.done))))
end Go.Fw


namespace Go.Fw
open Go
set_option maxRecDepth 100000
abbrev lkB (b:qf):Nat:=(linksL b).length
abbrev ndB (b:qf):Nat:=2*(places b.Ab).length
abbrev lvJ (b:qf) (br:List Int):List Bool:=lvB br (lkB b)
def grB (b:qf) (br:List Int):Option Tgraph:=some ⟨some (viewV b),lvJ b br⟩
structure TgOk (b:qf) (c:qr) (br:List Int) (xs:List qg) (R:List Nat):Prop where
 bl:blockB b=true
 co:cornerB c=true
 br_:brB br (lkB b)=true
 sr:srcB xs (ndB b)=true
 or_:ordL (linksL b) (lvJ b br) (ndB b) (ndB b) []=some R
theorem TgOk.ord {b:qf} {c:qr} {br:List Int} {xs:List qg} {R:List Nat} (h:TgOk b c br xs R):OrdOk (lkB b) (frL (linksL b)) (toL (linksL b)) (lvL (lvJ b br)) (ndB b) R :=
 qxf (ndB b) [] R (fun l1 k l2 e=>by cases l1<;>cases e) h.or_
theorem TgOk.len {b:qf} {c:qr} {br:List Int} {xs:List qg} {R:List Nat} (h:TgOk b c br xs R):R.length=ndB b:=by
 have:=qwR (ndB b) [] R h.or_
 simpa using this
theorem qj4 {x:Int} (h:x ≠ 0):(x != 0)=true:=by simpa using h
theorem qy0 {b:qf} {c:qr} {br:List Int} {xs:List qg} (hb:qlv b) (hc:okS c.Bb) (hbl:br.length≤1048576) (hxl:xs.length≤1048576) :
  (∃ code:Int,code ≠ 0∧Ev (fun n=>qip n b c br xs) ([],code)∧Ev (fun n=>qfg n b c br xs none) (none,[],code)) ∨
  ∃ R,TgOk b c br xs R∧Ev (fun n=>qip n b c br xs) (ints R,0)∧Ev (fun n=>qfg n b c br xs none) (grB b br,ints R,0):=by
 have s1:=qpr hb
 have i1:=quq hb
 have s2:=qsF (c:=c) hc
 have i2:=qts (c:=c) hc
 unfold qip qfg
 cases h1:blockB b
 ·rw [h1] at s1 i1
  exact .inl ⟨1,by omega,Ev.bind (b:=true) (Ev.bind s1 (Ev.tt rfl .done)) (Ev.tt rfl .done),Ev.bind (b:=true) (Ev.bind i1 (Ev.tt rfl .done)) (Ev.tt rfl .done)⟩
 cases h2:cornerB c
 ·rw [h1] at s1 i1
  rw [h2] at s2 i2
  exact .inl ⟨1,by omega,Ev.bind (b:=true) (Ev.bind s1 (Ev.ff rfl (Ev.bind s2 .done))) (Ev.tt rfl .done),Ev.bind (b:=true) (Ev.bind i1 (Ev.ff rfl (Ev.bind i2 .done))) (Ev.tt rfl .done)⟩
 have hpl:=qa4 (qX (qas h1))
 have hll:=qgt h1
 have hk:=qiP h1
 have s3:=qtU (br:=br) hb h1 hbl
 have i3:=qsX (v:=viewV b) (br:=br) hbl hll
 have s4:=qrr (xs:=xs) h1 hxl
 have i4:=qru (v:=viewV b) (xs:=xs) hpl hxl
 have ev:(viewV b).links=linksL b:=rfl
 have ep:(viewV b).places=places b.Ab:=rfl
 rw [ev] at i3
 rw [ep] at i4
 rw [h1] at s1 i1
 rw [h2] at s2 i2
 have sA:Ev (fun n=>(qg7 n b).bind fun r6=>bif (!r6) then some true else (qhh n c).bind fun r7=>some (!r7)) false:=Ev.bind s1 (Ev.ff rfl (Ev.bind s2 .done))
 have iA:Ev (fun n=>(qhW n b).bind fun r6=>bif (!r6) then some true else (qhs n c).bind fun r7=>some (!r7)) false:=Ev.bind i1 (Ev.ff rfl (Ev.bind i2 .done))
 have nv:=quf h1
 cases h3:brB br (lkB b)
 ·rw [h3] at s3 i3
  exact .inl ⟨2,by omega,Ev.bind sA (Ev.ff rfl (Ev.bind (b:=true) (Ev.bind s3 (Ev.tt rfl .done)) (Ev.tt rfl .done))),
   Ev.bind iA (Ev.ff rfl (Ev.bind nv (Ev.bind (b:=false) (Ev.ff rfl .done) (Ev.ff rfl (Ev.bind (b:=true) (Ev.bind i3 (Ev.tt rfl .done)) (Ev.tt rfl .done))))))⟩
 cases h4:srcB xs (ndB b)
 ·rw [h3] at s3 i3
  rw [h4] at s4 i4
  exact .inl ⟨2,by omega,Ev.bind sA (Ev.ff rfl (Ev.bind (b:=true) (Ev.bind s3 (Ev.ff rfl (Ev.bind s4 .done))) (Ev.tt rfl .done))),
   Ev.bind iA (Ev.ff rfl (Ev.bind nv (Ev.bind (b:=false) (Ev.ff rfl .done) (Ev.ff rfl (Ev.bind (b:=true) (Ev.bind i3 (Ev.ff rfl (Ev.bind i4 .done))) (Ev.tt rfl .done))))))⟩
 have i5:=qtK (v:=viewV b) (br:=br) hll h3
 rw [ev] at i5
 have s5:=qlX (ls:=linksL b) (br:=br) hll hbl
 have hlv:(lvJ b br).length=lkB b:=qon
 have s6:=qvD (lv:=lvJ b br) hk hlv
 have i6:=qvk (b:=b) (ps:=places b.Ab) (lo:=pre (load0 b) b.Ac.length) (de:=pre (exactL b) b.Ac.length) (ex:=[]) (lv:=lvJ b br) hk hlv rfl
 rw [h3] at s3 i3
 rw [h4] at s4 i4
 have sB:Ev (fun n=>(qgX n b br).bind fun r4=>bif (r4 != 0) then some true else (qf2 n b xs).bind fun r5=>some (!r5)) false:=Ev.bind s3 (Ev.ff rfl (Ev.bind s4 .done))
 have iB:Ev (fun n=>(qen n (some (viewV b)) br).bind fun r6=>bif (!r6) then some true else (qdn n (some (viewV b)) xs).bind fun r7=>some (!r7)) false:=Ev.bind i3 (Ev.ff rfl (Ev.bind i4 .done))
 have sT:∀ r:List Int × Int,Ev (fun n=>(qhp n (ndB b:Int) (linksL b) (lvJ b br)).bind fun o=>match o with|(r6,r7)=>bif (!r7) then some (([]:List Int),(7:Int)) else some (r6,0)) r→Ev (fun n=>qes n b br) r:=fun r hr=>by
  unfold qes
  exact Ev.bind s3 (Ev.ff rfl (Ev.bind (qhU h1) (Ev.bind (qmL h1) (Ev.bind s5 hr))))
 cases ho:ordL (linksL b) (lvJ b br) (ndB b) (ndB b) [] with
 | none =>
  have e:ordR (linksL b) (lvJ b br) (ndB b)=([],false):=by unfold ordR;rw [ho]
  rw [e] at s6 i6
  exact .inl ⟨7,by omega,Ev.bind sA (Ev.ff rfl (Ev.bind sB (Ev.ff rfl (Ev.bind (sT ([],7) (Ev.bind s6 (Ev.tt rfl .done))) .done)))),
   Ev.bind iA (Ev.ff rfl (Ev.bind nv (Ev.bind (b:=false) (Ev.ff rfl .done) (Ev.ff rfl (Ev.bind iB (Ev.ff rfl (Ev.bind i5 (Ev.bind i6 (Ev.tt rfl .done)))))))))⟩
 | some R =>
  have e:ordR (linksL b) (lvJ b br) (ndB b)=(ints R,true):=by unfold ordR;rw [ho]
  rw [e] at s6 i6
  exact .inr ⟨R,⟨h1,h2,h3,h4,ho⟩,Ev.bind sA (Ev.ff rfl (Ev.bind sB (Ev.ff rfl (Ev.bind (sT (ints R,0) (Ev.bind s6 (Ev.ff rfl .done))) .done)))),
   Ev.bind iA (Ev.ff rfl (Ev.bind nv (Ev.bind (b:=false) (Ev.ff rfl .done) (Ev.ff rfl (Ev.bind iB (Ev.ff rfl (Ev.bind i5 (Ev.bind i6 (Ev.ff rfl .done)))))))))⟩
structure WkOk (j:qa2) (t:qy) (R:List Nat):Prop where
 tg:TgOk j.Af j.Ai j.Bi j.Ar R
 tm:TmOk t (ndB j.Af)
def wkV (j:qa2) (t:qy) (R:List Nat):Option Twork:=some ⟨grB j.Af j.Bi,j,t,ints R⟩
theorem quI {j:qa2} (h:qiG j) :
  (∃ code:Int,code ≠ 0∧Ev (fun n=>qdo n j.Af j.Ai j.Bi j.Ar) (zT,code)∧Ev (fun n=>qjr n j) (none,code)) ∨
  ∃ t R,WkOk j t R∧Ev (fun n=>qdo n j.Af j.Ai j.Bi j.Ar) (t,0)∧Ev (fun n=>qjr n j) (wkV j t R,0):=by
 have hbl:=h.Bi.len
 have hxl:=h.Ar.len
 unfold qdo qjr
 rcases qy0 h.Af h.Ai.Bb hbl hxl with ⟨code,hne,hs,hi⟩|⟨R,hg,hs,hi⟩
 ·exact .inl ⟨code,hne,Ev.bind hs (Ev.tt (qj4 hne) .done),Ev.bind hi (Ev.tt (qj4 hne) .done)⟩
 ·have h1:=hg.bl
  have hll:=qgt h1
  have s5:=qlX (ls:=linksL j.Af) (br:=j.Bi) hll hbl
  obtain ⟨f,hf,hfi⟩:=qtl h1 hg.co
  have hi0:=hfi [] (.inl rfl)
  rw [qrA] at hi0
  have hpl:=qa4 (qX (qas h1))
  have hRl:=hg.len
  have hR1:R.length≤1000:=by rw [hRl];show 2*(places j.Af.Ab).length≤1000;omega
  have hRb:∀ k,k ∈ R→k<2*(places j.Af.Ab).length:=fun k hk=>by
   obtain ⟨i,hi,rfl⟩:=List.mem_iff_getElem.1 hk
   exact (hg.ord.at hi).1
  have o2:=qxG (lv:=lvJ j.Af j.Bi) (R:=R) h1 hf qon (qoj hxl hg.sr) hRb hR1
  have o3:=qxR (lv:=lvJ j.Af j.Bi) (R:=R) h1 hf (fun _ _=>rfl) hi0 qon (qoj hxl hg.sr) (fun i hi=>⟨(hg.ord.at hi).1,(hg.ord.at hi).2.1⟩) hR1
  have o1:=qyB (lv:=lvJ j.Af j.Bi) h1 hf (qoj hxl hg.sr) R (zTm (2*(places j.Af.Ab).length))
  generalize rnO f (linksL j.Af) (lvJ j.Af j.Bi) j.Ar R (zTm (2*(places j.Af.Ab).length))=o at o1 o2 o3
  cases o with
  | none=>exact .inl ⟨3,by omega,Ev.bind hs (Ev.ff rfl (Ev.bind (qhU h1) (Ev.bind s5 (Ev.bind o2 (Ev.tt rfl .done))))),Ev.bind hi (Ev.ff rfl (Ev.bind o3 (Ev.tt rfl .done)))⟩
  | some t=>exact .inr ⟨t,R,⟨hg,o1 t hRb qtS rfl⟩,Ev.bind hs (Ev.ff rfl (Ev.bind (qhU h1) (Ev.bind s5 (Ev.bind o2 (Ev.ff rfl .done))))),Ev.bind hi (Ev.ff rfl (Ev.bind o3 (Ev.ff rfl .done)))⟩
end Go.Fw


namespace Go.Fw
open Go
set_option maxRecDepth 100000
def swV (j:qa2) (t:qy):Option Tl20Work:=some ⟨j,linksL j.Af,lvJ j.Af j.Bi,t⟩
theorem qxs {j:qa2} (h:qiG j) :
  (∃ code:Int,code ≠ 0∧Ev (fun n=>qdj n j) (none,code)∧∀ mode nodes,Ev (fun n=>qg4 n j mode nodes) (none,code)) ∨
  ∃ t R,WkOk j t R∧Ev (fun n=>qdj n j) (swV j t,0)∧∀ mode nodes,nodes.length≤1048576→(mode=0∨mode=1) →
   Ev (fun n=>qg4 n j mode nodes) (bif nodes.all (fun x=>inI x 0 ((ndB j.Af:Int)-1)) then (wkV j t R,0) else (none,4)):=by
 have hbl:=h.Bi.len
 unfold qdj qg4
 rcases quI h with ⟨code,hne,hs,hi⟩|⟨t,R,hw,hs,hi⟩
 ·exact .inl ⟨code,hne,Ev.bind hs (Ev.tt (qj4 hne) .done),fun mode nodes=>Ev.bind hi (Ev.tt (qj4 hne) .done)⟩
 ·have h1:=hw.tg.bl
  have hll:=qgt h1
  have hpl:=qa4 (qX (qas h1))
  have s5:=qlX (ls:=linksL j.Af) (br:=j.Bi) hll hbl
  refine .inr ⟨t,R,hw,Ev.bind hs (Ev.ff rfl (Ev.bind (qhU h1) (Ev.bind s5 .done))),fun mode nodes hn hm=>Ev.bind hi (Ev.ff rfl ?_)⟩
  have hnd:=qov (v:=viewV j.Af) hpl
  have e1:W64 (((2*(viewV j.Af).places.length:Nat):Int)-1)=(ndB j.Af:Int)-1:=by
   show W64 (((2*(places j.Af.Ab).length:Nat):Int)-1)=_
   rw [qaw (by omega) (by omega)]
  unfold wkV grB
  simp only [ja,hnd,e1]
  refine Ev.bind (qdR hn) ?_
  cases nodes.all fun x=>inI x 0 ((ndB j.Af:Int)-1)
  ·exact Ev.tt rfl .done
  ·refine Ev.ff rfl ?_
   rcases hm with rfl|rfl<;>exact Ev.bind (b:=true) (Ev.now rfl) (Ev.ff rfl .done)
theorem ql3 {j:qa2} {t:qy} {node:Int} (hl:j.Ar.length≤1048576):Ev (fun n=>qfr n (swV j t) node) ((srcV (srcO j.Ar node)).2,(srcV (srcO j.Ar node)).1):=by
 have h1:Ev (fun n=>qcC (swV j t) node n 0) (match srcO j.Ar node with|some y=>.ret (y,true)|none=>.nxt (j.Ar.length:Int)):=by
  have main:∀ d i,i+d=j.Ar.length→(j.Ar.take i).find? (fun s=>s.Bo==node)=none→Ev (fun n=>qcC (swV j t) node n (i:Int)) (match srcO j.Ar node with|some y=>.ret (y,true)|none=>.nxt (j.Ar.length:Int)):=by
   intro d
   induction d with
   | zero =>
    intro i hi hn
    obtain rfl:i=j.Ar.length:=by omega
    rw [jB] at hn
    unfold srcO
    rw [hn]
    refine Ev.succ ?_
    simp only [qcC,swV,ja,ql (jb _),cond_false]
    exact .done
   | succ d ih =>
    intro i hi hn
    have hil:i<j.Ar.length:=by omega
    refine Ev.succ ?_
    simp only [qcC,swV,ja,qk hil,cond_true,qA hil,wS i]
    cases hq:(gt j.Ar i).Bo==node
    ·refine ih (i+1) (by omega) ?_
     rw [ju hil,List.find?_append,hn,←qe8 hil,List.find?_cons_of_neg (by simp [hq])]
     rfl
    ·have hd:j.Ar.drop i=gt j.Ar i::j.Ar.drop (i+1):=by rw [qe8 hil];exact jD hil
     have:srcO j.Ar node=some (gt j.Ar i):=by
      generalize gt j.Ar i=y at hq hd
      unfold srcO
      rw [←List.take_append_drop i j.Ar,List.find?_append,hn,hd,List.find?_cons_of_pos (by simpa using hq)]
      rfl
     rw [this]
     exact .done
  exact main j.Ar.length 0 (by omega) rfl
 unfold qfr
 refine Ev.bind h1 ?_
 cases srcO j.Ar node<;>exact .done
def atP (ls:List qt) (start:Int) (path:List Int):Nat→Int
 | 0=>start
 | j+1=>(gt ls (at0 path j).toNat).To
def okP (ls:List qt) (lv:List Bool) (start:Int) (path:List Int) (j:Nat):Bool :=
 inI (at0 path j) 0 ((ls.length:Int)-1)&&(gt lv (at0 path j).toNat&&((gt ls (at0 path j).toNat).Bk==atP ls start path j))
def pathB (j:qa2) (start:Int) (path:List Int):Bool:=(srcV (srcO j.Ar start)).1&&allN (okP (linksL j.Af) (lvJ j.Af j.Bi) start path) path.length
def endB (j:qa2) (start:Int) (path:List Int):Int:=atP (linksL j.Af) start path path.length
theorem inRange {x:Int} {m:Nat} (h:inI x 0 ((m:Int)-1)=true):0≤x∧x<(m:Int)∧x.toNat<m:=by rw [qa9] at h;omega
theorem qvv {j:qa2} {t:qy} {start:Int} {path:List Int} (h1:blockB j.Af=true) (hl:j.Ar.length≤1048576) (hp:path.length≤1048576):∃ e:Int,Ev (fun n=>qkU n (swV j t) start path) (e,pathB j start path)∧(pathB j start path=true→e=endB j start path):=by
 have hll:=qgt h1
 have hlv:(lvJ j.Af j.Bi).length=lkB j.Af:=qon
 have hS:=ql3 (j:=j) (t:=t) (node:=start) hl
 unfold qkU pathB
 cases hs:(srcV (srcO j.Ar start)).1
 ·rw [hs] at hS
  refine ⟨start,Ev.bind hS (Ev.bind (b:=.nxt (start,0)) (Ev.succ ?_) .done),fun e=>by cases e⟩
  unfold qeh
  cases decide ((0:Int)<(path.length:Int))<;>exact .done
 ·rw [hs] at hS
  have hL:=loopN (Lf:=fun n i x=>qeh (swV j t) path true n i x) (S:=atP (linksL j.Af) start path) (p:=okP (linksL j.Af) (lvJ j.Af j.Bi) start path) (len:=path.length) (bad:=((0:Int),false)) (fin:=(endB j start path,(path.length:Int)))
   (fun n=>by simp only [qeh,ql (jb _),cond_false,ja];rfl)
   (fun i hi _ X hX=>by
    have eW:W64 (((linksL j.Af).length:Int)-1)=((linksL j.Af).length:Int)-1:=qaw (by omega) (by omega)
    simp only [qeh,qk hi,cond_true,ja,qab hi,swV,qcH,eW,wS i]
    unfold okP at hX ⊢
    cases hr:inI (at0 path i) 0 (((linksL j.Af).length:Int)-1)
    ·exact Ev.bind (b:=true) (Ev.tt rfl .done) (Ev.tt rfl .done)
    ·obtain ⟨r0,r1,r2⟩:=inRange hr
     rw [hr] at hX
     simp only [qdK r0 r1,qdK r0 (show at0 path i<((lvJ j.Af j.Bi).length:Int) by rw [hlv];exact r1),ja]
     cases hv:gt (lvJ j.Af j.Bi) (at0 path i).toNat
     ·exact Ev.bind (b:=true) (Ev.ff rfl (Ev.tt rfl .done)) (Ev.tt rfl .done)
     ·rw [hv] at hX
      cases hf:(gt (linksL j.Af) (at0 path i).toNat).Bk==atP (linksL j.Af) start path i
      ·exact Ev.bind (b:=true) (Ev.ff rfl (Ev.ff rfl (Ev.now (by simp only [bne,hf];rfl)))) (Ev.tt rfl .done)
      ·rw [hf] at hX
       exact Ev.bind (b:=false) (Ev.ff rfl (Ev.ff rfl (Ev.now (by simp only [bne,hf];rfl)))) (Ev.ff rfl (hX rfl)))
  cases hb:allN (okP (linksL j.Af) (lvJ j.Af j.Bi) start path) path.length
  ·rw [hb] at hL
   exact ⟨0,Ev.bind hS (Ev.bind hL .done),fun e=>by cases e⟩
  ·rw [hb] at hL
   exact ⟨endB j start path,Ev.bind hS (Ev.bind hL .done),fun _=>rfl⟩
def linkB (ls:List qt) (path:List Int) (j:Nat):Bool:=inI (at0 path j) 0 ((ls.length:Int)-1)&&(decide (j=0) || (gt ls (at0 path (j-1)).toNat).To==(gt ls (at0 path j).toNat).Bk)
theorem qvM {v:Tview} {path:List Int} (hll:v.links.length≤10000) (hp:path.length≤1048576):Ev (fun n=>qg1 n (some v) path) (allN (linkB v.links path) path.length):=by
 have hL:=loopN (τ:=Unit) (Lf:=fun n _ x=>qb1 (some v) path n x) (S:=fun _=>()) (p:=linkB v.links path) (len:=path.length) (bad:=false) (fin:=(path.length:Int))
  (fun n=>by simp only [qb1,ql (jb _),cond_false])
  (fun i hi hpr X hX=>by
   have eW:W64 ((v.links.length:Int)-1)=(v.links.length:Int)-1:=qaw (by omega) (by omega)
   simp only [qb1,qk hi,cond_true,ja,qab hi,qiO,qc3,qdc,eW,wS i]
   unfold linkB at hX ⊢
   cases hr:inI (at0 path i) 0 ((v.links.length:Int)-1)
   ·exact .done
   ·obtain ⟨r0,r1,r2⟩:=inRange hr
    rw [hr] at hX
    refine Ev.ff rfl ?_
    by_cases h0:i=0
    ·subst h0
     exact Ev.ff rfl (hX rfl)
    ·refine Ev.tt (decide_eq_true (by omega)) ?_
     have hq:=hpr (i-1) (by omega)
     unfold linkB at hq
     rw [jc] at hq
     obtain ⟨q0,q1,_⟩:=inRange hq.1
     rw [show (i:Int)-1=((i-1:Nat):Int) by omega,qaw (by omega) (by omega)]
     simp only [qab (show i-1<path.length by omega),ja,qdK q0 q1,qdK r0 r1,bne]
     rw [decide_eq_false h0] at hX ⊢
     cases he:(gt v.links (at0 path (i-1)).toNat).To==(gt v.links (at0 path i).toNat).Bk
     ·exact .done
     ·rw [he] at hX
      exact hX rfl)
 unfold qg1
 refine Ev.bind hL ?_
 cases allN (linkB v.links path) path.length<;>exact .done
theorem qud {j:qa2} {t:qy} {R:List Nat} {path:List Int} (hp:path.length≤1048576) (hr:∀ x,x ∈ path→0≤x∧x<(lkB j.Af:Int)):Ev (fun n=>qV n path (wkV j t R)) (!path.all fun x=>gt (lvJ j.Af j.Bi) x.toNat):=by
 have hlv:(lvJ j.Af j.Bi).length=lkB j.Af:=qon
 have h1:Ev (fun n=>qaF n path (wkV j t R)) (ixL (fun x=>!gt (lvJ j.Af j.Bi) x.toNat) path) :=
  qfm (fin:=(path.length:Int)) (Lf:=qU path (wkV j t R)) (xs:=path) (pf:=fun n x=>qeV n x (wkV j t R)) (fun x hx=>by
    obtain ⟨x0,x1⟩:=hr x hx
    unfold qeV wkV grB
    simp only [ja,qdK x0 (show x<((lvJ j.Af j.Bi).length:Int) by rw [hlv];exact x1)]
    exact .done)
   (fun n=>by simp only [qU,ql (jb _),cond_false])
   (fun n i x hx=>by
    have hi:=(List.getElem?_eq_some_iff.1 hx).1
    simp only [qU,qk hi,cond_true,qaz hx,ja,wS i])
   (fun n=>by unfold qaF;congr 1;funext o;cases o<;>rfl)
 unfold qV
 refine Ev.bind h1 (Ev.now ?_)
 rw [qm8,←qot,Bool.not_not]
theorem qtc {j:qa2} {t:qy} {R:List Nat} {start:Int} {path:List Int} (h1:blockB j.Af=true) (hl:j.Ar.length≤1048576) (hp:path.length≤1048576):Ev (fun n=>qfC n (wkV j t R) start path) (pathB j start path):=by
 have hll:=qgt h1
 have hS:=qoa (xs:=j.Ar) (node:=start) hl
 have hP:=qvM (v:=viewV j.Af) (path:=path) hll hp
 have ev:(viewV j.Af).links=linksL j.Af:=rfl
 rw [ev] at hP
 have fr:path.length ≠ 0→allN (linkB (linksL j.Af) path) path.length=true→∃ k:Nat,k<lkB j.Af∧at0 path 0=(k:Int):=fun h0 hb=>by
  rw [qah] at hb
  have:=hb 0 (by omega)
  unfold linkB at this
  rw [jc] at this
  obtain ⟨q0,q1,q2⟩:=inRange this.1
  exact ⟨(at0 path 0).toNat,q2,qej q0⟩
 have hrg:allN (linkB (linksL j.Af) path) path.length=true→∀ x,x ∈ path→0≤x∧x<(lkB j.Af:Int):=fun hb x hx=>by
  obtain ⟨i,hi,rfl⟩:=List.mem_iff_getElem.1 hx
  rw [qah] at hb
  have:=hb i hi
  unfold linkB at this
  rw [jc] at this
  obtain ⟨q0,q1,_⟩:=inRange this.1
  rw [qkg hi] at q0 q1
  exact ⟨q0,q1⟩
 have key:allN (okP (linksL j.Af) (lvJ j.Af j.Bi) start path) path.length=(allN (linkB (linksL j.Af) path) path.length&&(bif decide (path.length=0) then true else ((gt (linksL j.Af) (at0 path 0).toNat).Bk==start)&&path.all fun x=>gt (lvJ j.Af j.Bi) x.toNat)):=by
  rw [jh,jc,qah,qah]
  unfold okP linkB
  simp only [jc,Bool.or_eq_true,decide_eq_true_eq,beq_iff_eq]
  constructor
  ·intro hh
   refine ⟨fun i hi=>⟨(hh i hi).1,?_⟩,?_⟩
   ·cases i with
    | zero=>exact .inl rfl
    | succ i=>exact .inr (hh (i+1) hi).2.2.symm
   ·by_cases h0:path.length=0
    ·rw [decide_eq_true h0];rfl
    ·rw [decide_eq_false h0]
     simp only [cond_false,jc,beq_iff_eq,jM]
     refine ⟨(hh 0 (by omega)).2.2,fun x hx=>?_⟩
     obtain ⟨i,hi,rfl⟩:=List.mem_iff_getElem.1 hx
     rw [←qkg hi]
     exact (hh i hi).2.1
  ·rintro ⟨ha,hb⟩ i hi
   rw [decide_eq_false (by omega)] at hb
   simp only [cond_false,jc,beq_iff_eq,jM] at hb
   refine ⟨(ha i hi).1,by rw [qkg hi];exact hb.2 _ (jo hi),?_⟩
   cases i with
   | zero=>exact hb.1
   | succ i =>
    rcases (ha (i+1) hi).2 with e|e
    ·omega
    ·exact e.symm
 unfold qfC pathB
 rw [key]
 show Ev (fun n=>(qcy n j.Ar start).bind _) _
 refine Ev.bind hS ?_
 cases hs:(srcV (srcO j.Ar start)).1
 ·exact Ev.bind (b:=true) (Ev.tt rfl .done) (Ev.tt rfl .done)
 ·cases hb:allN (linkB (linksL j.Af) path) path.length
  ·rw [hb] at hP
   exact Ev.bind (b:=true) (Ev.ff rfl (Ev.bindN rfl (Ev.bind hP .done))) (Ev.tt rfl .done)
  ·have hA:=qud (j:=j) (t:=t) (R:=R) hp (hrg hb)
   have hfr:=fr
   rw [hb] at hP
   refine Ev.bind (b:=false) (Ev.ff rfl (Ev.bindN rfl (Ev.bind hP .done))) (Ev.ff rfl ?_)
   by_cases h0:path.length=0
   ·rw [decide_eq_true h0]
    refine Ev.ff (decide_eq_false (by omega)) (Ev.bind hA (Ev.now ?_))
    rw [List.length_eq_zero_iff.1 h0]
    rfl
   ·rw [decide_eq_false h0]
    obtain ⟨k,hk,ek⟩:=hfr h0 hb
    refine Ev.tt (decide_eq_true (by omega)) ?_
    show Ev (fun n=>(idx path 0).bind fun y4=>(idx (linksL j.Af) y4).bind fun y5=>bif (y5.Bk != start) then some false else (qV n path (wkV j t R)).bind fun r4=>some (!r4)) _
    rw [show idx path (0:Int)=some (k:Int) by rw [show (0:Int)=((0:Nat):Int) from rfl,qab (by omega),ek]]
    simp only [ja,qA hk,bne]
    rw [ek,jj]
    cases (gt (linksL j.Af) k).Bk==start
    ·exact .done
    ·refine Ev.ff rfl (Ev.bind hA (Ev.now ?_))
     rw [Bool.not_not]
     rfl
theorem qto {j:qa2} {start:Int} {path:List Int} (h:qiG j) (hp:path.length≤1048576) {mode:Int} (hm:mode=0∨mode=1) :
  (∃ code:Int,code ≠ 0∧Ev (fun n=>qdj n j) (none,code)∧Ev (fun n=>qcx n j mode start path) (none,code)) ∨
  ∃ t R,WkOk j t R∧Ev (fun n=>qdj n j) (swV j t,0)∧Ev (fun n=>qcx n j mode start path) (bif pathB j start path then (wkV j t R,0) else (none,5)):=by
 unfold qcx
 rcases qxs h with ⟨code,hne,hs,hi⟩|⟨t,R,hw,hs,hi⟩
 ·exact .inl ⟨code,hne,hs,Ev.bind (hi mode []) (Ev.ff (by simpa using hne) .done)⟩
 ·have hP:=qtc (t:=t) (R:=R) (start:=start) hw.tg.bl h.Ar.len hp
  refine .inr ⟨t,R,hw,hs,Ev.bind (hi mode [] (Nat.zero_le _) hm) (Ev.tt rfl (Ev.bind hP ?_))⟩
  cases pathB j start path<;>exact .done
end Go.Fw


namespace Go.Fw
open Go
set_option maxRecDepth 100000
section
variable {L:Nat} {fr to:Nat→Int} {lv:Nat→Bool} {n:Nat} {R:List Nat}
theorem OrdOk.ne (h:OrdOk L fr to lv n R) {i j:Nat} (hij:i<j) (hj:j<R.length):R[i]'(by omega) ≠ R[j]:=fun e =>
 (h.at hj).2.1 (by rw [←e,List.mem_iff_getElem];exact ⟨i,by rw [jN];omega,by rw [List.getElem_take]⟩)
theorem OrdOk.nodup (h:OrdOk L fr to lv n R):R.Nodup:=by
 unfold List.Nodup
 rw [List.pairwise_iff_getElem]
 exact fun i j _ hj hij=>h.ne hij hj
theorem OrdOk.full (h:OrdOk L fr to lv n R) (hl:R.length=n) {k:Nat} (hk:k<n):∃ i,∃ hi:i<R.length,R[i]=k:=by
 refine Classical.byContradiction fun hc=>?_
 have hn:k ∉ R:=fun hm=>hc (List.mem_iff_getElem.1 hm)
 have:=qqy (l:=k::R) (l':=List.range n) (List.nodup_cons.2 ⟨hn,h.nodup⟩) (fun x hx=>by
  rw [List.mem_range]
  rcases List.mem_cons.1 hx with rfl|hx
  ·exact hk
  ·obtain ⟨i,hi,rfl⟩:=List.mem_iff_getElem.1 hx
   exact (h.at hi).1)
 rw [List.length_cons,List.length_range] at this
 omega
theorem OrdOk.later (h:OrdOk L fr to lv n R) (hl:R.length=n) {x a c:Nat} (hx:x<L) (hv:lv x=true) (ha:fr x=(a:Int)) (hc:to x=(c:Int)) (hcn:c<n) {i:Nat} (hi:i<R.length) (hia:R[i]=a):∃ j,∃ hj:j<R.length,i<j∧R[j]=c:=by
 obtain ⟨j,hj,e⟩:=h.full hl hcn
 have h0:=(h.at hj).2.2
 rw [e] at h0
 have:=qqT.1 h0 x hx hv hc
 rw [ha,qlA,List.mem_iff_getElem] at this
 obtain ⟨i',hi',e'⟩:=this
 rw [jN] at hi'
 rw [List.getElem_take] at e'
 refine ⟨j,hj,?_,e⟩
 rcases Nat.lt_trichotomy i i' with hh|hh|hh
 ·exact absurd (hia.trans e'.symm) (h.ne hh (by omega))
 ·omega
 ·exact absurd (e'.trans hia.symm) (h.ne hh hi)
end
theorem qxa {j:qa2} {t:qy} {R:List Nat} {start:Int} {path:List Int} (hw:WkOk j t R) (hb:pathB j start path=true):path.length≤156:=by
 have h1:=hw.tg.bl
 have hk:=qiP h1
 have ho:=hw.tg.ord
 have hl:=hw.tg.len
 have hpl:=qa4 (qX (qas h1))
 have hM:ndB j.Af≤156:=by show 2*(places j.Af.Ab).length≤156;omega
 by_cases h0:path.length=0
 ·omega
 unfold pathB at hb
 rw [jc,qah] at hb
 have step:∀ i,i<path.length→∃ x a c:Nat,x<lkB j.Af∧lvL (lvJ j.Af j.Bi) x=true∧frL (linksL j.Af) x=(a:Int)∧toL (linksL j.Af) x=(c:Int)∧a<ndB j.Af∧c<ndB j.Af∧atP (linksL j.Af) start path i=(a:Int)∧atP (linksL j.Af) start path (i+1)=(c:Int):=by
  intro i hi
  have:=hb.2 i hi
  unfold okP at this
  simp only [jc,beq_iff_eq] at this
  obtain ⟨hr,hv,hf⟩:=this
  obtain ⟨r0,r1,r2⟩:=inRange hr
  have f0:=hk.fr0 _ r2
  have f1:=hk.fr1 _ r2
  have t0:=hk.to0 _ r2
  have t1:=hk.to1 _ r2
  refine ⟨(at0 path i).toNat,(gt (linksL j.Af) (at0 path i).toNat).Bk.toNat,(gt (linksL j.Af) (at0 path i).toNat).To.toNat,r2,hv,qej f0,qej t0,?_,?_,?_,qej t0⟩
  ·show _<2*(places j.Af.Ab).length;omega
  ·show _<2*(places j.Af.Ab).length;omega
  ·rw [←hf];exact qej f0
 have main:∀ i,i≤path.length→∃ p,∃ hp:p<R.length,i≤p∧(R[p]:Int)=atP (linksL j.Af) start path i:=by
  intro i
  induction i with
  | zero =>
   intro _
   obtain ⟨x,a,c,_,_,_,_,ha,_,e,_⟩:=step 0 (by omega)
   obtain ⟨p,hp,ep⟩:=ho.full hl ha
   exact ⟨p,hp,Nat.zero_le _,by rw [ep,e]⟩
  | succ i ih =>
   intro hi
   obtain ⟨p,hp,hle,ep⟩:=ih (by omega)
   obtain ⟨x,a,c,hx,hv,hf,ht,ha,hc,e1,e2⟩:=step i (by omega)
   obtain ⟨q,hq,hlt,eq⟩:=ho.later hl hx hv hf ht hc hp (by rw [e1] at ep;omega)
   exact ⟨q,hq,by omega,by rw [eq,e2]⟩
 obtain ⟨p,hp,hle,_⟩:=main path.length (jb _)
 omega
end Go.Fw


namespace Go.Fw
open Go
set_option maxRecDepth 100000
def modeB (m:Int):Bool:=(m==0) || (m==1)
theorem qqu {m:Int} (h:modeB m=true):m=0∨m=1:=by unfold modeB at h;simpa using h
theorem qwi {m:Int} (h:modeB m=false):(m==0)=false∧(m==1)=false:=by unfold modeB at h;simpa using h
theorem qvw {n:Nat} {m:Int}:qk7 n m=some (modeB m):=by
 unfold qk7 modeB
 cases m==0<;>rfl
theorem qnT {n:Nat} {m:Int}:qj3 n m=some (modeB m):=by
 unfold qj3 modeB
 cases m==0<;>rfl
theorem qtz {j:qa2} {start:Int} {path:List Int} (h:qiG j) (hp:path.length≤1048576) (mode:Int) :
  (∃ code:Int,code ≠ 0∧Ev (fun n=>qdj n j) (none,code)∧Ev (fun n=>qcx n j mode start path) (none,code)) ∨
  ∃ t R,WkOk j t R∧Ev (fun n=>qdj n j) (swV j t,0)∧Ev (fun n=>qcx n j mode start path) (bif modeB mode then bif pathB j start path then (wkV j t R,0) else (none,5) else (none,2)):=by
 cases hm:modeB mode
 ·obtain ⟨m0,m1⟩:=qwi hm
  have hbl:=h.Bi.len
  unfold qdj qcx qg4
  rcases quI h with ⟨code,hne,hs,hi⟩|⟨t,R,hw,hs,hi⟩
  ·exact .inl ⟨code,hne,Ev.bind hs (Ev.tt (qj4 hne) .done),Ev.bind (b:=(none,code)) (Ev.bind hi (Ev.tt (qj4 hne) .done)) (Ev.ff (by simpa using hne) .done)⟩
  ·have h1:=hw.tg.bl
   have hll:=qgt h1
   have hpl:=qa4 (qX (qas h1))
   have s5:=qlX (ls:=linksL j.Af) (br:=j.Bi) hll hbl
   refine .inr ⟨t,R,hw,Ev.bind hs (Ev.ff rfl (Ev.bind (qhU h1) (Ev.bind s5 .done))),Ev.bind (b:=(none,2)) (Ev.bind hi (Ev.ff rfl ?_)) .done⟩
   have hnd:=qov (v:=viewV j.Af) hpl
   unfold wkV grB
   simp only [ja,hnd]
   refine Ev.bind (qdR (Nat.zero_le _)) (Ev.ff rfl ?_)
   simp only [qvw,hm]
   exact .done
 ·exact qto h hp (qqu hm)
theorem qql {j:qa2} {start:Int} {path:List Int} (hb:pathB j start path=true) {i:Nat} (hi:i<path.length):∃ k:Nat,k<lkB j.Af∧at0 path i=(k:Int):=by
 unfold pathB at hb
 rw [jc,qah] at hb
 have:=hb.2 i hi
 unfold okP at this
 rw [jc] at this
 obtain ⟨r0,_,r2⟩:=inRange this.1
 exact ⟨(at0 path i).toNat,r2,qej r0⟩
def ofS (m:Int) (s:qd):Int:=bif m==1 then s.Bd else s.Ak
theorem qwI {m:Int} {a b:qd}:W64 (ofS m a+ofS m b)=ofS m (plusS a b):=by
 unfold ofS plusS
 cases m==1<;>rfl
theorem qnZ {n:Nat} {m:Int} {s:qd}:qfG n s m=some (ofS m s):=by
 unfold qfG ofS
 cases m==1<;>rfl
theorem qyd {n:Nat} {m:Int} {s:qd} (h:modeB m=true):qh9 n s m=some (ofS m s):=by
 rcases qqu h with rfl|rfl<;>rfl
def arS (f:Nat→qd→qd × qd) (ls:List qt) (t:qy) (a0:qd) (path:List Int):Nat→qd
 | 0=>a0
 | i+1=>plusS (arS f ls t a0 path i) (f (at0 path i).toNat (gt t.Bc (frN ls (at0 path i).toNat))).1
section
variable {j:qa2} {t:qy} {R:List Nat} {start:Int} {path:List Int} {f:Nat→qd→qd × qd}
theorem qxQ (h:qiG j) (hw:WkOk j t R) (hf:SpansS j.Af j.Ai f) (hp:path.length≤1048576) (hb:pathB j start path=true) (mode:Int) :
  Ev (fun n=>qhx n (swV j t) start path mode) (ofS mode (arS f (linksL j.Af) t (srcV (srcO j.Ar start)).2.Ah path path.length)):=by
 have hk:=qiP hw.tg.bl
 have ht:=hw.tm
 have hL:=loopF (Lf:=fun n s i=>qdb (swV j t) path mode n s i) (S:=fun i=>ofS mode (arS f (linksL j.Af) t (srcV (srcO j.Ar start)).2.Ah path i)) (len:=path.length) (fin:=(ofS mode (arS f (linksL j.Af) t (srcV (srcO j.Ar start)).2.Ah path path.length),(path.length:Int)))
  (fun n=>by simp only [qdb,ql (jb _),cond_false])
  (fun i hi X hX=>by
   obtain ⟨k,hk1,ek⟩:=qql hb hi
   obtain ⟨e1,e2⟩:=qqH hk hk1
   obtain ⟨_,s1⟩:=hf k _ hk1 (ht.sl _ e2)
   have e3:arS f (linksL j.Af) t (srcV (srcO j.Ar start)).2.Ah path (i+1)=plusS (arS f (linksL j.Af) t (srcV (srcO j.Ar start)).2.Ah path i) (f k (gt t.Bc (frN (linksL j.Af) k))).1:=by
    show plusS _ _=_
    rw [ek,jj]
   rw [e3,←qwI] at hX
   simp only [qdb,qk hi,cond_true,qab hi,ja,ek,wS i]
   refine Ev.bind (b:=ofS mode (f k (gt t.Bc (frN (linksL j.Af) k))).1) ?_ hX
   unfold qlq swV
   simp only [ja,qA hk1,e1,qA (show frN (linksL j.Af) k<t.Bc.length by rw [ht.s];exact e2)]
   refine Ev.bind s1 ?_
   simp only [qnZ]
   exact .done)
 unfold qhx
 refine Ev.bind (ql3 h.Ar.len) ?_
 simp only [qnZ,ja]
 exact Ev.bind hL .done
theorem qxx (h:qiG j) (hw:WkOk j t R) (hf:SpansI j.Af j.Ai [] f) (hp:path.length≤1048575) (hb:pathB j start path=true) :
  Ev (fun n=>qh2 n (wkV j t R) start path) (pre (arS f (linksL j.Af) t (srcV (srcO j.Ar start)).2.Ah path) (path.length+1)):=by
 have hk:=qiP hw.tg.bl
 have ht:=hw.tm
 obtain ⟨a0,ha⟩:∃ a,a=(srcV (srcO j.Ar start)).2.Ah:=⟨_,rfl⟩
 have hL:=loopF (Lf:=fun n (s:List qd × qd) i=>qdA path ⟨grB j.Af j.Bi,j,t,ints R⟩ n s.1 s.2.Ak s.2.Bd i) (S:=fun i=>(pre (arS f (linksL j.Af) t a0 path) (i+1),arS f (linksL j.Af) t a0 path i)) (len:=path.length) (fin:=(pre (arS f (linksL j.Af) t a0 path) (path.length+1),(arS f (linksL j.Af) t a0 path path.length).Ak,(arS f (linksL j.Af) t a0 path path.length).Bd,(path.length:Int)))
  (fun n=>by simp only [qdA,ql (jb _),cond_false])
  (fun i hi X hX=>by
   obtain ⟨k,hk1,ek⟩:=qql hb hi
   obtain ⟨e1,e2⟩:=qqH hk hk1
   obtain ⟨_,s1⟩:=hf k _ hk1 (ht.sl _ e2)
   have e3:arS f (linksL j.Af) t a0 path (i+1)=plusS (arS f (linksL j.Af) t a0 path i) (f k (gt t.Bc (frN (linksL j.Af) k))).1:=by
    show plusS _ _=_
    rw [ek,jj]
   have ev:(viewV j.Af).links=linksL j.Af:=rfl
   have ea:appS (pre (arS f (linksL j.Af) t a0 path) (i+1)) [arS f (linksL j.Af) t a0 path (i+1)]=some (pre (arS f (linksL j.Af) t a0 path) (i+1+1)):=qoe (by omega)
   simp only [qdA,qk hi,cond_true,qab hi,ja,ek,wkV,grB,ev,qA hk1,e1,qA (show frN (linksL j.Af) k<t.Bc.length by rw [ht.s];exact e2),wS i]
   refine Ev.bind s1 ?_
   generalize (f k (gt t.Bc (frN (linksL j.Af) k))).1=q at e3
   generalize arS f (linksL j.Af) t a0 path i=u at e3
   simp only [qgq,ja]
   rw [e3] at ea hX
   unfold plusS at ea hX
   rw [ea]
   exact hX)
 unfold qh2
 show Ev (fun n=>(qcy n j.Ar start).bind _) _
 refine Ev.bind (qoa h.Ar.len) ?_
 subst ha
 exact Ev.bind hL .done
theorem qxl (h:qiG j) (hw:WkOk j t R) (hf:SpansI j.Af j.Ai [] f) (hp:path.length≤1048575) (hb:pathB j start path=true) :
  Ev (fun n=>qdV n (wkV j t R) start path) (arS f (linksL j.Af) t (srcV (srcO j.Ar start)).2.Ah path path.length):=by
 unfold qdV
 refine Ev.bind (qxx h hw hf hp hb) ?_
 rw [qg6 (by omega)]
 exact .done
end
def OwnOk (b:qf) (c:qr) (mode:Int) (d:Nat→Int→Int × Int):Prop:=∀ k sl,k<(linksL b).length→0≤sl→sl≤1000000 →
 (0≤(d k sl).2∧(d k sl).2≤1000000)∧Ev (fun n=>qbQ n b c (gt (linksL b) k) sl mode) (d k sl).1∧Ev (fun n=>qbb n (some (viewV b)) c (k:Int) sl mode) (d k sl).1 ∧
 Ev (fun n=>qcf n b (gt (linksL b) k) sl mode) (d k sl).2∧Ev (fun n=>qaG n (some (viewV b)) (k:Int) sl mode) (d k sl).2
theorem qyF {b:qf} {c:qr} (h:blockB b=true) (hc:cornerB c=true) {mode:Int} (hm:modeB mode=true):∃ d,OwnOk b c mode d:=by
 have main:∀ x:Nat × Int,∃ r:Int × Int,x.1<(linksL b).length→0≤x.2→x.2≤1000000 →
   (0≤r.2∧r.2≤1000000)∧Ev (fun n=>qbQ n b c (gt (linksL b) x.1) x.2 mode) r.1∧Ev (fun n=>qbb n (some (viewV b)) c (x.1:Int) x.2 mode) r.1 ∧
   Ev (fun n=>qcf n b (gt (linksL b) x.1) x.2 mode) r.2∧Ev (fun n=>qaG n (some (viewV b)) (x.1:Int) x.2 mode) r.2:=by
  rintro ⟨k,s⟩
  by_cases hk:k<(linksL b).length∧0≤s∧s≤1000000
  ·obtain ⟨hk,h0,h1⟩:=hk
   obtain ⟨⟨d,p1,p2⟩,⟨u,u0,u1,v1,v2⟩⟩:=qqe (c:=c) [] h hc hk h0 h1 (qqu hm)
   exact ⟨(d,u),fun _ _ _=>⟨⟨u0,u1⟩,p1,p2,v1,v2⟩⟩
  ·exact ⟨(0,0),fun h1 h2 h3=>absurd ⟨h1,h2,h3⟩ hk⟩
 obtain ⟨d,hd⟩:=Classical.axiomOfChoice main
 exact ⟨fun k s=>d (k,s),fun k s h1 h2 h3=>hd (k,s) h1 h2 h3⟩
def prS (d:Nat→Int→Int × Int) (s0:Int × Int) (path:List Int):Nat→Int × Int
 | 0=>s0
 | i+1=>(W64 ((prS d s0 path i).1+(d (at0 path i).toNat (prS d s0 path i).2).1),(d (at0 path i).toNat (prS d s0 path i).2).2)
section
variable {j:qa2} {t:qy} {R:List Nat} {start mode:Int} {path:List Int} {d:Nat→Int→Int × Int}
theorem qs2 {xs:List qg} (hx:SrcOk xs) (hm:modeB mode=true):0≤ofS mode (srcV (srcO xs start)).2.Bc∧ofS mode (srcV (srcO xs start)).2.Bc≤1000000:=by
 cases hs:srcO xs start with
 | none=>unfold ofS srcV zSrc zSp;cases mode==1<;>(simp only [cond_true,cond_false];omega)
 | some y =>
  obtain ⟨⟨a,b⟩,⟨c,e⟩⟩:=hx.sl y (qlt hs).2
  unfold ofS srcV
  cases mode==1<;>(simp only [cond_true,cond_false];omega)
theorem qti (hd:OwnOk j.Af j.Ai mode d) {s0:Int × Int} (h0:0≤s0.2∧s0.2≤1000000) (hr:∀ i,i<path.length→∃ k:Nat,k<lkB j.Af∧at0 path i=(k:Int)):∀ i,i≤path.length→0≤(prS d s0 path i).2∧(prS d s0 path i).2≤1000000:=by
 intro i
 induction i with
 | zero=>exact fun _=>h0
 | succ i ih =>
  intro hi
  obtain ⟨k,hk,ek⟩:=hr i (by omega)
  obtain ⟨a,b⟩:=ih (by omega)
  have:=(hd k _ hk a b).1
  show 0≤(d (at0 path i).toNat (prS d s0 path i).2).2∧(d (at0 path i).toNat (prS d s0 path i).2).2≤1000000
  rw [ek,jj]
  exact this
def own0 (j:qa2) (start mode:Int):Int × Int:=(ofS mode (srcV (srcO j.Ar start)).2.Ah,ofS mode (srcV (srcO j.Ar start)).2.Bc)
theorem qxi (h:qiG j) (hw:WkOk j t R) (hm:modeB mode=true) (hd:OwnOk j.Af j.Ai mode d) (hp:path.length≤1048576) (hr:∀ i,i<path.length→∃ k:Nat,k<lkB j.Af∧at0 path i=(k:Int)) :
  Ev (fun n=>qk3 n (swV j t) start path mode) (prS d (own0 j start mode) path path.length):=by
 have h0:=qs2 (start:=start) (qoj h.Ar.len hw.tg.sr) hm
 have hsl:=qti (s0:=own0 j start mode) hd h0 hr
 have hL:=loopF (Lf:=fun n (s:Int × Int) i=>qfl (swV j t) path mode n s.1 s.2 i) (S:=fun i=>prS d (own0 j start mode) path i) (len:=path.length) (fin:=((prS d (own0 j start mode) path path.length).1,(prS d (own0 j start mode) path path.length).2,(path.length:Int)))
  (fun n=>by simp only [qfl,ql (jb _),cond_false])
  (fun i hi X hX=>by
   obtain ⟨k,hk,ek⟩:=hr i hi
   obtain ⟨s0,s1⟩:=hsl i (by omega)
   obtain ⟨_,q1,_,q2,_⟩:=hd k _ hk s0 s1
   have e3:prS d (own0 j start mode) path (i+1)=(W64 ((prS d (own0 j start mode) path i).1+(d k (prS d (own0 j start mode) path i).2).1),(d k (prS d (own0 j start mode) path i).2).2):=by
    show (W64 _,_)=_
    rw [ek,jj]
   rw [e3] at hX
   simp only [qfl,qk hi,cond_true,qab hi,ja,ek,swV,qA hk,wS i]
   exact Ev.bind q1 (Ev.bind q2 hX))
 unfold qk3
 refine Ev.bind (ql3 h.Ar.len) ?_
 simp only [qnZ,ja]
 exact Ev.bind hL .done
theorem qum (h:qiG j) (hw:WkOk j t R) (hm:modeB mode=true) (hd:OwnOk j.Af j.Ai mode d) (hp:path.length≤1048575) (hr:∀ i,i<path.length→∃ k:Nat,k<lkB j.Af∧at0 path i=(k:Int)) :
  Ev (fun n=>qgh n (wkV j t R) start path mode) (pre (fun i=>(prS d (own0 j start mode) path i).1) (path.length+1),(prS d (own0 j start mode) path path.length).2):=by
 have h0:=qs2 (start:=start) (qoj h.Ar.len hw.tg.sr) hm
 have hsl:=qti (s0:=own0 j start mode) hd h0 hr
 have hL:=loopF (Lf:=fun n (s:List Int × Int × Int) i=>qcp path mode ⟨grB j.Af j.Bi,j,t,ints R⟩ n s.1 s.2.1 s.2.2 i) (S:=fun i=>(pre (fun i=>(prS d (own0 j start mode) path i).1) (i+1),prS d (own0 j start mode) path i)) (len:=path.length) (fin:=(pre (fun i=>(prS d (own0 j start mode) path i).1) (path.length+1),(prS d (own0 j start mode) path path.length).1,(prS d (own0 j start mode) path path.length).2,(path.length:Int)))
  (fun n=>by simp only [qcp,ql (jb _),cond_false])
  (fun i hi X hX=>by
   obtain ⟨k,hk,ek⟩:=hr i hi
   obtain ⟨s0,s1⟩:=hsl i (by omega)
   obtain ⟨_,_,q1,_,q2⟩:=hd k _ hk s0 s1
   have e3:prS d (own0 j start mode) path (i+1)=(W64 ((prS d (own0 j start mode) path i).1+(d k (prS d (own0 j start mode) path i).2).1),(d k (prS d (own0 j start mode) path i).2).2):=by
    show (W64 _,_)=_
    rw [ek,jj]
   have ea:appS (pre (fun i=>(prS d (own0 j start mode) path i).1) (i+1)) [(prS d (own0 j start mode) path (i+1)).1]=some (pre (fun i=>(prS d (own0 j start mode) path i).1) (i+1+1)):=qoe (f:=fun i=>(prS d (own0 j start mode) path i).1) (by omega)
   rw [e3] at hX ea
   simp only [qcp,qk hi,cond_true,qab hi,ja,ek,wkV,grB,wS i]
   refine Ev.bind q1 (Ev.bind q2 ?_)
   rw [ea]
   exact hX)
 unfold qgh
 show Ev (fun n=>(qcy n j.Ar start).bind _) _
 refine Ev.bind (qoa h.Ar.len) ?_
 simp only [qyd hm,ja]
 exact Ev.bind hL .done
theorem qu9 (h:qiG j) (hw:WkOk j t R) (hm:modeB mode=true) (hd:OwnOk j.Af j.Ai mode d) (hp:path.length≤1048575) (hr:∀ i,i<path.length→∃ k:Nat,k<lkB j.Af∧at0 path i=(k:Int)) :
  Ev (fun n=>qeJ n (wkV j t R) start path mode) (prS d (own0 j start mode) path path.length).1:=by
 unfold qeJ
 refine Ev.bind (qum h hw hm hd hp hr) ?_
 simp only [qg6 (f:=fun i=>(prS d (own0 j start mode) path i).1) (show path.length<path.length+1 by omega)]
 exact .done
end
theorem qut {j:qa2} {start mode:Int} {path:List Int} (h:qiG j) (hp:path.length≤1048576) :
  (∃ code:Int,code ≠ 0∧Ev (fun n=>qh4 n j start path mode) (none,code)∧Ev (fun n=>qcx n j mode start path) (none,code)) ∨
  ∃ t R,WkOk j t R∧modeB mode=true∧pathB j start path=true∧Ev (fun n=>qh4 n j start path mode) (swV j t,0)∧Ev (fun n=>qcx n j mode start path) (wkV j t R,0):=by
 unfold qh4
 rcases qtz (start:=start) h hp mode with ⟨code,hne,hs,hi⟩|⟨t,R,hw,hs,hi⟩
 ·exact .inl ⟨code,hne,Ev.bind hs (Ev.tt (qj4 hne) .done),hi⟩
 ·cases hm:modeB mode
  ·rw [hm] at hi
   refine .inl ⟨2,by omega,Ev.bind hs (Ev.ff rfl ?_),hi⟩
   simp only [qnT,hm]
   exact .done
  ·rw [hm] at hi
   obtain ⟨e,he,_⟩:=qvv (j:=j) (t:=t) (start:=start) hw.tg.bl h.Ar.len hp
   cases hb:pathB j start path
   ·rw [hb] at hi he
    refine .inl ⟨5,by omega,Ev.bind hs (Ev.ff rfl ?_),hi⟩
    simp only [qnT,hm,ja]
    exact Ev.ff rfl (Ev.bind he .done)
   ·rw [hb] at hi he
    refine .inr ⟨t,R,hw,rfl,rfl,Ev.bind hs (Ev.ff rfl ?_),hi⟩
    simp only [qnT,hm,ja]
    exact Ev.ff rfl (Ev.bind he .done)
theorem qpl {j:qa2} {start mode:Int} {path:List Int} (h:qiG j) (hl:okL okI path):∃ R:Int × Int,Ev (fun n=>qfB n j start path mode) R∧Ev (fun n=>qfD n j start path mode) R:=by
 have hp:=hl.len
 unfold qfB qfD
 rcases qut (start:=start) (mode:=mode) h hp with ⟨code,hne,hs,hi⟩|⟨t,R,hw,hm,hb,hs,hi⟩
 ·exact ⟨(0,code),Ev.bind hs (Ev.tt (qj4 hne) .done),Ev.bind hi (Ev.tt (qj4 hne) .done)⟩
 ·have hpl:=qxa hw hb
  obtain ⟨d,hd⟩:=qyF hw.tg.bl hw.tg.co hm
  obtain ⟨f,hf,hfi⟩:=qtl hw.tg.bl hw.tg.co
  have hi0:=hfi [] (.inl rfl)
  rw [qrA] at hi0
  have hr:=fun i hi=>qql (i:=i) hb hi
  have hA:=qxQ h hw hf hp hb mode
  have hG:=qxl h hw hi0 (by omega) hb
  have hS:=qxi (start:=start) h hw hm hd hp hr
  have hO:=qu9 (start:=start) h hw hm hd (by omega) hr
  have hgain:∀ n g o,qjS n g o mode=qiz n g o mode:=fun _ _ _=>rfl
  generalize arS f (linksL j.Af) t (srcV (srcO j.Ar start)).2.Ah path path.length=a at hA hG
  generalize prS d (own0 j start mode) path path.length=q at hS hO
  refine ⟨(bif mode==1 then W64 (ofS mode a-q.1) else W64 (q.1-ofS mode a),0),Ev.bind hs (Ev.ff rfl (Ev.bind hS (Ev.bind hA ?_))),Ev.bind hi (Ev.ff rfl (Ev.bind hG ?_))⟩
  ·unfold qjS
   cases mode==1<;>exact .done
  ·simp only [qyd hm,ja]
   refine Ev.bind hO ?_
   unfold qiz
   cases mode==1<;>exact .done
end Go.Fw


namespace Go.Fw
open Go
set_option maxRecDepth 100000
end Go.Fw


namespace Go.Fw
open Go Go.Proofs
open Go.RowKit (Below)
set_option maxRecDepth 100000
set_option maxHeartbeats 1600000
variable {n:Nat} {w:World} {cs1 cs2 cs3 cs4 cs5 cs6 cs7 cs8 cs9:List Value}
def qev (n:Nat) (aJ:qa2) (aStart:Int) (aLinks:(List Int)) (aMode:Int):Option Bool :=
 bif decide ((aLinks.length:Int) > 1048576) then some true else
 (qme n aJ 1048576).bind fun r1 =>
 bif decide (r1<0) then some true else
 (qiH n aJ).bind fun r2 =>
 (qaR n aLinks).bind fun r3 =>
 (qfB n r2 aStart r3 aMode).bind fun o=>match o with
  | (r5,r6) =>
   (qiH n aJ).bind fun r7 =>
   (qaR n aLinks).bind fun r8 =>
   (qfD n r7 aStart r8 aMode).bind fun o=>match o with
    | (r10,r11) =>
     (
      bif (r10 != r5) then some true else
      some (r11 != r6)).bind fun b1 =>
     bif b1 then some false else
     (qiH n aJ).bind fun r12 =>
     (qlV n r7 r12).bind fun r13 =>
     bif (!r13) then some false else
     (qaR n aLinks).bind fun r14 =>
     (qbo n r8 r14).bind fun r15 =>
     bif (!r15) then some false else
     some true
theorem qjJ {aJ:qa2} {aStart:Int} {aLinks:(List Int)} {aMode:Int} (ha1:GoT.R w (old w) aJ cs1) (ha2:GoT.R w (old w) aLinks cs2) {r:Bool} (hF:qev n aJ aStart aLinks aMode=some r):RetV Tryz.prog 5 [GoT.v qa2 cs1,.int .i64 aStart,GoT.v (List Int) cs2,.int .i64 aMode] w r:=by
 obtain ⟨p1,k1,p2,k2,p3,k3,p4,k4,p5,k5,p6,k6,p7,k7,rfl,s1,s2,s3,s4,s5,s6,s7⟩:=qdf ha1
 obtain ⟨p8,k8,rfl,s8⟩:=ha2
 refine zV 64 Tryz.func5 rfl fun h=>zSR (qw h rfl rfl fun w1 bb1 h=>X0 9 rfl (qh rfl hF ?_ ?_))<;>intro hF
 ·exact X0 4 rfl (rb h hF rfl)
 refine X1 9 0 h rfl (zcI h hF (qre (h.old ha1)) rfl fun r1 w2 h hF=>X0 8 rfl (qh rfl hF ?_ ?_))<;>intro hF
 ·exact X0 4 rfl (rb h hF rfl)
 refine X1 4 0 h rfl (zcO h hF (qll (h.old ha1)) rfl fun r2 w3 S1 cs3 h hF=>?_)
 obtain ⟨p9,k9,p10,k10,p11,k11,p12,k12,p13,k13,p14,k14,p15,k15,rfl,-,-,-,-,-,-,-⟩:=qdf (h.own 0 rfl)
 refine zp2 rfl (zcL h hF (qaJ ⟨_,_,rfl,(h.oldS s8)⟩) rfl fun r3 w4 S2 p16 k16 h hF=>zp1 rfl ?_)
 obtain ⟨r4,hr4,hF⟩:=qc hF
 obtain ⟨r5,r6⟩:=r4
 refine qay (r5,r6) h (cB 18 rfl) (qmE (h.own 1 rfl) (h.own 0 rfl) hr4) rfl rfl rfl rfl fun w5 S3 us1 hv1 hr5=>?_
 obtain ⟨S4,us2,rfl,hv2,hr6⟩:=hv1.consI hr5
 obtain ⟨rfl,h⟩:=hv2.lastI hr6
 refine X1 9 2 h rfl (zcO h hF (qll (h.old ha1)) rfl fun r7 w6 S6 cs4 h hF=>?_)
 obtain ⟨p17,k17,p18,k18,p19,k19,p20,k20,p21,k21,p22,k22,p23,k23,rfl,-,-,-,-,-,-,-⟩:=qdf (h.own 0 rfl)
 refine qj qa h rfl rfl rfl fun w7 bb2 h=>zs 0 h rfl fun w8 h=>X0 4 rfl (zcL h hF (qaJ ⟨_,_,rfl,(h.oldS s8)⟩) rfl fun r8 w9 S7 p24 k24 h hF=>X1 8 1 h rfl ?_)
 obtain ⟨r9,hr10,hF⟩:=qc hF
 obtain ⟨r10,r11⟩:=r9
 refine qay (r10,r11) h (cB 19 rfl) (qmy (h.own 2 rfl) (h.own 0 rfl) hr10) rfl rfl rfl rfl fun w10 S8 us3 hv4 hr11=>?_
 obtain ⟨S9,us4,rfl,hv5,hr12⟩:=hv4.consI hr11
 obtain ⟨rfl,h⟩:=hv5.lastI hr12
 refine X0 8 rfl ?_
 obtain ⟨KF1,hKF1,o1,hF,hK1⟩:=bindE hF
 refine qbp (fun e w'=>∃ (b1:Bool),KF1 b1=some r∧e=[(2,.slice p8 aLinks.length k8),(4,.pointer (some ⟨bb1,0,none⟩)),(12,.pointer (some ⟨bb2,0,none⟩)),(13,.slice p24 r8.length k24),(53,.bool b1)]∧SH w w' [Ch.own S7 (r8:List Int) [.slice p24 r8.length k24],Ch.box bb2 (qss r7 p17 p18 p19 p20 p21 p22 p23 k17 k18 k19 k20 k21 k22 k23) 55,Ch.own S6 (r7:qa2) (qss r7 p17 p18 p19 p20 p21 p22 p23 k17 k18 k19 k20 k21 k22 k23),Ch.box bb1 (qss aJ p1 p2 p3 p4 p5 p6 p7 k1 k2 k3 k4 k5 k6 k7) 38]) ?_ ?_
 ·refine X0 5 rfl (qi (t:=49) hF rfl ?_ ?_)<;>intro hF
  ·refine X0 5 rfl ?_
   replace h:=h.pick [0,1,2,5] rfl
   obtain rfl:=qb hF
   exact rG ⟨_,hK1,rfl,h⟩ rfl
  refine X0 8 rfl ?_
  replace h:=h.pick [0,1,2,5] rfl
  obtain rfl:=qb hF
  exact rG ⟨_,hK1,rfl,h⟩ rfl
 rintro e1 w16 ⟨b1,hF,rfl,h⟩
 subst hKF1
 refine qh rfl hF ?_ ?_<;>intro hF
 ·exact X0 4 rfl (rb h hF rfl)
 refine zKSS (rA [] [1,3] h rfl fun w11 h=>M2 3 [0,1] 0 1 (h.pick [1,3] rfl) rfl (Ao 2 7 rfl (zcO h hF (qll (h.old ha1)) rfl fun r12 w12 S11 cs5 h hF=>?_)))
 obtain ⟨p25,k25,p26,k26,p27,k27,p28,k28,p29,k29,p30,k30,p31,k31,rfl,-,-,-,-,-,-,-⟩:=qdf (h.own 0 rfl)
 refine Ag (h.pick [2,4] rfl) (Ao 3 15 rfl (zcB h hF (qrp (h.own 3 rfl) (h.own 0 rfl)) rfl fun r13 w13 h hF=>G0 31 [4] (h.pick [2,4] rfl) rfl (Ad (qh rfl hF ?_ ?_))))<;>intro hF
 ·exact X0 4 rfl (rb h hF rfl)
 refine X0 6 rfl (zcL h hF (qaJ ⟨_,_,rfl,(h.oldS s8)⟩) rfl fun r14 w14 S12 p32 k32 h hF=>zcB h hF (qbd (h.own 2 rfl) (h.own 0 rfl)) rfl fun r15 w15 h hF=>X0 2 rfl (qh rfl hF ?_ ?_))<;>intro hF
 ·exact X0 4 rfl (rb h hF rfl)
 exact X0 5 rfl (rb h hF rfl)
end Go.Fw


namespace Go.Fw
open Go
end Go.Fw


namespace Go.Fw
open Go
set_option maxRecDepth 100000
theorem qlo {j:qa2} {start:Int} {path:(List Int)} {mode:Int} (h0:qqd j) (_h1:rngI start) (h2:(rngL rngI) path) (_h3:rngI mode):Ev (fun n=>qev n j start path mode) true:=by
 unfold qev
 refine Ev.bif (fun _=>.done) (fun hl=>?_)
 have hl2:path.length≤1048576:=by have:=of_decide_eq_false hl;omega
 obtain ⟨r1,e1,q1⟩:=qyO (a:=j) (left:=1048576) h0 (by omega) (by omega)
 refine Ev.bind e1 ?_
 rcases q1 with q1|⟨p1,q1⟩
 ·exact Ev.tt (by simpa using q1) .done
 refine Ev.ff (by simp;omega) ?_
 have w0:qmw j≤1048576:=by omega
 have k0:=qwx h0 w0
 have w2:qcL path≤1048576:=by unfold qcL;omega
 have k2:=qds h2 w2
 obtain ⟨⟨R0,R1⟩,hs,hi⟩:=qpl (j:=j) (start:=start) (path:=path) (mode:=mode) k0 k2
 refine Ev.bind (qt9 w0) ?_
 refine Ev.bind (qed w2) ?_
 refine Ev.bind hs ?_
 refine Ev.bind (qt9 w0) ?_
 refine Ev.bind (qed w2) ?_
 refine Ev.bind hi ?_
 refine Ev.bind (b:=false) (Ev.ff (by simp) (Ev.now (by simp))) (Ev.ff rfl ?_)
 refine Ev.bind (qt9 w0) ?_
 refine Ev.bind (qyr w0) (Ev.ff rfl ?_)
 refine Ev.bind (qed w2) ?_
 refine Ev.bind (qfx w2) (Ev.ff rfl ?_)
 exact .done
end Go.Fw
