/- Plain laws: the delay and the slew of a link. -/
import Derived.Test.YtopijfgpbojkoaaGreatDoorW8
import Derived.Test.YtopijfgpbojkoaaGreatDoorB9
open Option renaming bind_some → ja
open Nat renaming le_refl → jb, mul_le_mul_right → jj, le_of_ble_eq_true → jq, lt_of_lt_of_le → js, succ_mul → jE, zero_add → jU
open Bool renaming and_eq_true → jc, eq_iff_iff → jh, true_and → jw, not_eq_true' → jD, not_true → jW
open Go.Result renaming andThen_ok → jd
open List renaming length_append → je, getElem?_eq_getElem → jf, length_singleton → jk, append_assoc → jm, mem_cons_of_mem → jo, getElem_mem → jp, getElem?_append_left → jr, mem_cons_self → jt, take_succ_eq_append_getElem → ju, length_map → jv, getElem?_take → jx, getElem?_append_right → jy, getD_eq_getElem?_getD → jz, getElem?_toArray → jA, take_length → jB, eq_nil_of_length_eq_zero → jC, not_mem_nil → jF, length_replicate → jG, size_toArray → jH, all_eq_true → jL, drop_eq_getElem_cons → jM, getElem_of_mem → jN, map_append → jO, mem_cons → jQ, length_take → jS, ext_getElem → jT
open Go.Sem renaming run_bind → jg, run_pure → ji
open Int renaming toNat_natCast → jn, tdiv_eq_ediv_of_nonneg → jJ, mul_nonneg → jK, mul_assoc → jP, mul_le_mul → jR, le_refl → jV
open Array renaming getElem?_append_left → jI

namespace Go.Fw
open Go
set_option maxRecDepth 100000
theorem qrW {α:Type} {f:Nat→List α} {n:Nat} {x:α} (h:x ∈ fm f n):∃ j,j<n∧x ∈ f j:=by
 unfold fm at h
 obtain ⟨j,h1,h2⟩:=List.mem_flatMap.1 h
 exact ⟨j,List.mem_range.1 h1,h2⟩
theorem qtR {x:Int} {j:Nat} {t:Int} (ht:b01 t) (hj:j≤100000) (e:x=2*(j:Int)+t):W64 (x.tdiv 2)=(j:Int)∧x.tmod 2=t:=by
 have ht':0≤t∧t≤1:=by rcases ht with e|e<;>omega
 have hx:0≤x:=by omega
 rw [jJ hx,Int.tmod_eq_emod_of_nonneg hx,qav (by omega) (by omega)]
 omega
structure CLk (b:qf) (x:qq) (i j m net a:Nat):Prop where
 kind:x.Be=1
 il:i<b.Ab.Aa.length
 jl:j<(places b.Ab).length
 inst:(gt (places b.Ab) j).instance_=(i:Int)
 net_:(gt (places b.Ab) j).net=(net:Int)
 nl:net<b.Ac.length
 half:W64 (x.To.tdiv 2)=(j:Int)
 mod:x.To.tmod 2=(m:Int)
 ml:m<2
 ix:x.Bz=(a:Int)
 al:a<(cellAt b (i:Int)).Ar.length
 d2:(gt (cellAt b (i:Int)).Ar a).Bq.length=2
 s2:(gt (cellAt b (i:Int)).Ar a).Bc.length=2
 dt:∀ t,t ∈ (gt (cellAt b (i:Int)).Ar a).Bq→TbOk t∧∀ k,0≤at0 t.Bh k
 st:∀ t,t ∈ (gt (cellAt b (i:Int)).Ar a).Bc→TbOk t∧∀ k,0≤at0 t.Bh k
structure WLk (b:qf) (x:qq) (j net k:Nat):Prop where
 kind:x.Be=2
 jl:j<(places b.Ab).length
 net_:(gt (places b.Ab) j).net=(net:Int)
 nl:net<b.Ac.length
 half:W64 (x.To.tdiv 2)=(j:Int)
 ix:x.Bz=(k:Int)
 kl:k<(gt b.Ac net).Bl.length
theorem qxv {xs:List Int} (h:0≤mnL xs) (k:Nat):0≤at0 xs k:=by
 have fold:∀ (ys:List Int) (a:Int),(ys.foldl (fun (m y:Int)=>if y<m then y else m) a≤a)∧∀ y,y ∈ ys→ys.foldl (fun (m y:Int)=>if y<m then y else m) a≤y:=by
  intro ys
  induction ys with
  | nil=>intro a;exact ⟨jV _,fun y hy=>by cases hy⟩
  | cons z ys ih =>
   intro a
   rw [List.foldl_cons]
   obtain ⟨h1,h2⟩:=ih (if z<a then z else a)
   refine ⟨?_,fun y hy=>?_⟩
   ·split at h1<;>split<;>omega
   ·rcases List.mem_cons.1 hy with e|e
    ·subst e;split at h1<;>split<;>omega
    ·exact h2 y e
 by_cases hk:k<xs.length
 ·have hm:xs[k] ∈ xs.drop 1∨k=0:=by
   by_cases h0:k=0
   ·exact .inr h0
   ·refine .inl ?_
    have:xs[k]=(xs.drop 1)[k-1]'(by rw [List.length_drop];omega):=by
     rw [List.getElem_drop]
     congr 1;omega
    rw [this]
    exact jp _
  rw [qkb hk]
  unfold mnL at h
  rcases hm with hm|h0
  ·exact Int.le_trans h ((fold _ _).2 _ hm)
  ·subst h0
   have:=(fold (xs.drop 1) (at0 xs 0)).1
   rw [←qkb hk]
   exact Int.le_trans h this
 ·rw [qtO hk];exact jV _
theorem qpS {ts:List qv} (h:tablesB ts true=true):ts.length=2∧∀ t,t ∈ ts→TbOk t∧∀ k,0≤at0 t.Bh k:=by
 unfold tablesB at h
 rw [jc,decide_eq_true_eq,jL] at h
 refine ⟨h.1,fun t ht=>?_⟩
 have:=h.2 t ht
 unfold tabB at this
 simp only [jW,Bool.false_or,jc,decide_eq_true_eq] at this
 exact ⟨qt5 this.1,qxv this.2⟩
theorem qtc {ps:List qaq} {a:qN} (h:arcS ps a=true) (h3:a.Be≤3) (h1:1≤a.Be):a.To=(ps.length:Int)-1∧tablesB a.Bq true=true∧tablesB a.Bc true=true:=by
 unfold arcS at h
 rcases (by omega:a.Be=1∨a.Be=2∨a.Be=3) with e|e|e
 ·rw [e] at h
  simp only [beq_self_eq_true,cond_true,jc,beq_iff_eq] at h
  exact ⟨h.2.2.1,h.2.2.2.2⟩
 ·rw [e] at h
  simp only [show ((2:Int)==1)=false from rfl,cond_false,beq_self_eq_true,Bool.true_or,cond_true,jc,beq_iff_eq] at h
  exact ⟨h.2.2.1,h.2.2.2.2⟩
 ·rw [e] at h
  simp only [show ((3:Int)==1)=false from rfl,cond_false,beq_self_eq_true,Bool.or_true,cond_true,jc,beq_iff_eq] at h
  exact ⟨h.2.2.1,h.2.2.2.2⟩
theorem qsr {a:qN} {t:qH} (h:t ∈ transL a):1≤a.Be∧a.Be≤3:=by
 refine ⟨?_,?_⟩<;>refine Int.le_of_not_gt fun hg=>?_
 ·have:arcLs 0 0 a=[]:=by
   unfold arcLs transL
   rw [show (a.Be==2)=false from beq_eq_false_iff_ne.2 (by omega),show (a.Be==3)=false from beq_eq_false_iff_ne.2 (by omega),show (a.Be != 1)=true from bne_iff_ne.2 (by omega)]
   rfl
  unfold arcLs at this
  rw [List.map_eq_nil_iff] at this
  rw [this] at h;cases h
 ·have:arcLs 0 0 a=[]:=qoP hg
  unfold arcLs at this
  rw [List.map_eq_nil_iff] at this
  rw [this] at h;cases h
theorem qkf {b:qf} (h:blockB b=true) {x:qq} (hx:x ∈ linksL b):((∃ i j m net a,CLk b x i j m net a)∨∃ j net k,WLk b x j net k)∧(0≤x.Bk∧x.Bk<2*((places b.Ab).length:Int))∧(0≤x.To∧x.To<2*((places b.Ab).length:Int)):=by
 have hd:=qaE h
 have hs:=qai hd
 have hl:=qbI hs
 have hwl:=qlC h
 unfold linksL at hx
 rcases List.mem_append.1 hx with hx|hx
 ·obtain ⟨i,hi,hx⟩:=qrW hx
  obtain ⟨a,ha,hx⟩:=qrW hx
  unfold arcLs at hx
  obtain ⟨t,ht,rfl⟩:=List.mem_map.1 hx
  obtain ⟨⟨c0,c1⟩,hnl,hcb⟩:=qgy hd hi
  have hcA:cellAt b (i:Int)=gt b.Av.Aq (gt b.Ab.Aa i).Bs.toNat:=rfl
  rw [←hcA] at hnl hcb
  obtain ⟨⟨k1,k5⟩,hf,hto,hA⟩:=qmF hcb ha
  obtain ⟨g1,g3⟩:=qsr ht
  obtain ⟨t0,t1⟩:=qqS ht
  obtain ⟨eT,tD,tS⟩:=qtc hA g3 g1
  obtain ⟨d2,dt⟩:=qpS tD
  obtain ⟨s2,st⟩:=qpS tS
  have hpb:=(qgi (qiq hcb)).1
  have hk:(cellAt b (i:Int)).Bd.length-1<(gt b.Ab.Aa i).Am.length:=by omega
  obtain ⟨hj,ej⟩:=qjI hi hk
  obtain ⟨n0,n1⟩:=qlz hd hj
  have e1:(al1 (off b.Ab i:Int) a (gt (cellAt b (i:Int)).Ar a) t).To=2*((off b.Ab i+((cellAt b (i:Int)).Bd.length-1):Nat):Int)+t.e1:=by
   show 2*((off b.Ab i:Int)+(gt (cellAt b (i:Int)).Ar a).To)+t.e1=_
   rw [eT];omega
  obtain ⟨hh,hm⟩:=qtR t1 (by omega) e1
  obtain ⟨m,em⟩:∃ m:Nat,t.e1=(m:Int):=⟨t.e1.toNat,by rcases t1 with e|e<;>omega⟩
  have hfr:off b.Ab i+(gt (cellAt b (i:Int)).Ar a).Bk.toNat<(places b.Ab).length:=(qjI hi (k:=(gt (cellAt b (i:Int)).Ar a).Bk.toNat) (by omega)).1
  have e2:(al1 (off b.Ab i:Int) a (gt (cellAt b (i:Int)).Ar a) t).Bk=2*((off b.Ab i:Int)+(gt (cellAt b (i:Int)).Ar a).Bk)+t.e0:=rfl
  refine ⟨.inl ⟨i,_,m,(gt (places b.Ab) (off b.Ab i+((cellAt b (i:Int)).Bd.length-1))).net.toNat,a,⟨rfl,hi,hj,by rw [ej];rfl,qfY n0,by omega,hh,by rw [hm,em],by rcases t1 with e|e<;>omega,rfl,ha,d2,s2,dt,st⟩⟩,?_,?_⟩
  ·rw [e2]
   rcases t0 with e|e<;>rw [e]<;>omega
  ·rw [e1]
   rcases t1 with e|e<;>rw [e]<;>omega
 ·obtain ⟨i,hi,hx⟩:=qrW hx
  obtain ⟨k,hk,hx⟩:=qrW hx
  obtain ⟨y,hy,ey,hq⟩:=qoy hk
  have hdv:=(qiV hd (k:=i) (by omega)).1
  have hw:=qbi h hi
  have hq':(gt (places b.Ab) y).net=(i:Int):=by
   unfold snkQ at hq
   simp only [jc,beq_iff_eq] at hq
   exact hq.1
  have main:∀ t:Int,b01 t→x=⟨2*(dvN b.Ab i:Int)+t,2*at0 (skL b i) k+t,2,(k:Int)⟩→((∃ i j m net a,CLk b x i j m net a)∨∃ j net k,WLk b x j net k)∧(0≤x.Bk∧x.Bk<2*((places b.Ab).length:Int))∧(0≤x.To∧x.To<2*((places b.Ab).length:Int)):=by
   intro t ht e
   have e1:x.To=2*(y:Int)+t:=by rw [e,ey]
   have e2:x.Bk=2*(dvN b.Ab i:Int)+t:=by rw [e]
   obtain ⟨hh,hm⟩:=qtR ht (by omega) e1
   refine ⟨.inr ⟨y,i,k,⟨by rw [e],hy,hq',hi,hh,by rw [e],by rw [hw.snk];exact hk⟩⟩,?_,?_⟩
   ·rw [e2]
    rcases ht with e|e<;>rw [e]<;>omega
   ·rw [e1]
    rcases ht with e|e<;>rw [e]<;>omega
  unfold wl1 at hx
  simp only [jQ,jF,or_false] at hx
  rcases hx with hx|hx
  ·exact main 0 (.inl rfl) (by rw [hx,Int.add_zero,Int.add_zero])
  ·exact main 1 (.inr rfl) hx
theorem qnk {α:Type} [Inhabited α] {xs:List α} {k:Nat} (h:k<xs.length):gt xs k ∈ xs:=by rw [qeT h];exact jp h
theorem qmV {b:qf} (h:blockB b=true):LkOk (linksL b) (2*(places b.Ab).length) where
 len:=qht h
 nodes:=by have:=qbI (qai (qaE h));omega
 fr0:=fun x hx=>(qkf h (qnk hx)).2.1.1
 fr1:=fun x hx=>by have:=(qkf h (qnk hx)).2.1.2;omega
 to0:=fun x hx=>(qkf h (qnk hx)).2.2.1
 to1:=fun x hx=>by have:=(qkf h (qnk hx)).2.2.2;omega
theorem qrf {c:qu} (h:cornerB c=true) {kind mode:Int}:∃ f:Int,100≤f∧f≤5000∧(∀ n,qga n c kind mode=some f)∧∀ n,qd5 n c kind mode=some f:=by
 unfold cornerB at h
 simp only [jc,qa1,decide_eq_true_eq] at h
 obtain ⟨⟨h1,h2,h3,h4⟩,_⟩:=h
 unfold qga qd5
 cases kind==1
 ·cases mode==0
  ·exact ⟨_,h4.1,h4.2,fun _=>rfl,fun _=>rfl⟩
  ·exact ⟨_,h3.1,h3.2,fun _=>rfl,fun _=>rfl⟩
 ·cases mode==0
  ·exact ⟨_,h2.1,h2.2,fun _=>rfl,fun _=>rfl⟩
  ·exact ⟨_,h1.1,h1.2,fun _=>rfl,fun _=>rfl⟩
theorem qsJ {p f mode:Int} (p0:0≤p) (p1:p≤400000000000) (f0:0≤f) (f1:f≤5000):(∀ n,qcb n (W64 (p*f)) 1000 mode=some (divI (p*f) 1000 mode))∧∀ n,qki n p f mode=some (divI (p*f) 1000 mode):=by
 have h0:=jK p0 f0
 have h1:p*f≤400000000000*5000:=jR p1 f1 f0 (by omega)
 have e:W64 (p*f)=p*f:=qav (by omega) (by omega)
 have hd:=fun n=>qjV (n:=n) (a:=p*f) (b:=1000) (mode:=mode) (by omega) (by omega) (by omega)
 refine ⟨fun n=>by rw [e];exact hd n,fun n=>?_⟩
 unfold qki
 rw [e,qrL (m:=0),hd 0]
 rfl
theorem qu0 {l h H:Int} (h0:0≤l) (h1:l<h) (h2:h≤H) (hH:H≤3000000000):W64 (W64 (W64 (l+h)+1) |>.tdiv 2)=(l+h+1) / 2∧W64 ((l+h+1) / 2*((l+h+1) / 2))=(l+h+1) / 2*((l+h+1) / 2)∧W64 ((l+h+1) / 2-1)=(l+h+1) / 2-1:=by
 have hm:0≤(l+h+1) / 2∧(l+h+1) / 2≤3000000000:=by omega
 have hq:(l+h+1) / 2*((l+h+1) / 2)≤3000000000*3000000000:=jR hm.2 hm.2 hm.1 (by omega)
 have hq0:=jK hm.1 hm.1
 rw [wO (l+h),wO (l+h+1),jJ (by omega),wO ((l+h+1) / 2),wO ((l+h+1) / 2-1)]
 exact ⟨rfl,qav (by omega) (by omega),rfl⟩
theorem qvY {y mode:Int} (h0:0≤y) (h1:y≤4000000000000000000):∃ v,IsRoot y v∧v≤2000000000∧Ev (fun n=>qic n y mode) (if mode=1∧v*v<y then v+1 else v):=by
 obtain ⟨v,r1,r2,r3⟩:=qq9 (Lf:=fun n l h=>qdw y n l h) (fin:=fun l=>(l,l)) (x:=y) (H:=2000000000) h0 (by omega) (by omega)
  (fun n l _ _=>by simp only [qdw,show decide (l<l)=false from decide_eq_false (Int.lt_irrefl l),cond_false])
  (fun n l h hl hlt hh=>by
   obtain ⟨e1,e2,e3⟩:=qu0 hl hlt hh (by omega)
   simp only [qdw,decide_eq_true hlt,cond_true,e1,e2,e3])
 refine ⟨v,r1,r2,?_⟩
 unfold qic
 refine Ev.bind r3 ?_
 have hv:=r1.pos
 have hq:v*v≤2000000000*2000000000:=jR r2 r2 hv (by omega)
 have hq0:=jK hv hv
 simp only [wO (v*v),wO (v+1)]
 by_cases hm:mode=1
 ·refine Ev.tt (by simpa using hm) ?_
  by_cases hl:v*v<y
  ·rw [if_pos ⟨hm,hl⟩];exact Ev.tt (decide_eq_true hl) .done
  ·rw [if_neg fun h=>hl h.2];exact Ev.ff (decide_eq_false hl) .done
 ·rw [if_neg fun h=>hm h.1]
  exact Ev.ff (by simpa using hm) .done
theorem qv1 {y:Int} (h0:0≤y) (h1:y≤4000000000000000000):∃ v,IsRoot y v∧v≤3000000000∧Ev (fun n=>qmS n y) v:=by
 obtain ⟨v,r1,r2,r3⟩:=qq9 (Lf:=fun n l h=>qfs y n l h) (fin:=fun l=>(l,l)) (x:=y) (H:=3000000000) h0 (by omega) (by omega)
  (fun n l _ _=>by simp only [qfs,show decide (l<l)=false from decide_eq_false (Int.lt_irrefl l),cond_false])
  (fun n l h hl hlt hh=>by
   obtain ⟨e1,e2,e3⟩:=qu0 hl hlt hh (by omega)
   simp only [qfs,decide_eq_true hlt,cond_true,e1,e2,e3])
 refine ⟨v,r1,r2,?_⟩
 unfold qmS
 exact Ev.bind r3 .done
theorem quM {sl d mode:Int} (s0:0≤sl) (s1:sl≤1000000) (d0:0≤d) (d1:d≤344000000) (hm:mode=0∨mode=1):∃ r:Int,0≤r ∧
  Ev (fun n=>(qic n (W64 (W64 (W64 (1000000*sl)*sl)+W64 (W64 (4*d)*d))) mode).bind fun r2=>(qcb n r2 1000 mode).bind fun r3=>some r3) r∧Ev (fun n=>qiP n sl d mode) r:=by
 have q1:=jK s0 s0
 have q2:sl*sl≤1000000*1000000:=jR s1 s1 s0 (by omega)
 have q3:=jK d0 d0
 have q4:d*d≤344000000*344000000:=jR d1 d1 d0 (by omega)
 have e1:W64 (W64 (W64 (1000000*sl)*sl)+W64 (W64 (4*d)*d))=4*(250000*(sl*sl)+d*d):=by
  rw [wO (1000000*sl),wO (4*d),jP 1000000,jP 4,wO (1000000*(sl*sl)),wO (4*(d*d)),qav (by omega) (by omega)]
  omega
 have e2:W64 (W64 (W64 (W64 (500*sl)*500)*sl)+W64 (d*d))=250000*(sl*sl)+d*d:=by
  rw [wO (500*sl),wO (500*sl*500),show 500*sl*500*sl=250000*(sl*sl) by rw [←jP];congr 1;omega,wO (250000*(sl*sl)),wO (d*d),qav (by omega) (by omega)]
 obtain ⟨v,v1,v2,v3⟩:=qvY (mode:=mode) (y:=4*(250000*(sl*sl)+d*d)) (by omega) (by omega)
 obtain ⟨w,w1,w2,w3⟩:=qv1 (y:=250000*(sl*sl)+d*d) (by omega) (by omega)
 have hr:=qtn w1 v1 hm
 have hv:=v1.pos
 have hw:=w1.pos
 have hv1:0≤(if mode=1∧v*v<4*(250000*(sl*sl)+d*d) then v+1 else v)∧(if mode=1∧v*v<4*(250000*(sl*sl)+d*d) then v+1 else v)≤1000*3000000:=by split<;>omega
 refine ⟨_,(qrO (b:=1000) (mode:=mode) (M:=3000000) (by omega) hv1.1 hv1.2).1,?_,?_⟩
 ·rw [e1]
  exact Ev.bind v3 (Ev.bind ⟨0,fun n _=>qjV (by omega) (by omega) (by omega)⟩ .done)
 ·rw [hr]
  unfold qiP
  rw [e2]
  refine Ev.bind w3 ?_
  have hq:w*w≤3000000000*3000000000:=jR w2 w2 hw (by omega)
  have hq0:=jK hw hw
  have ed:(fun n=>qeu n w 500 mode)=fun _=>some (divI w 500 mode):=by
   funext n
   rw [qrL (m:=0),qjV (by omega) (by omega) (by omega)]
  have hdv:=congrFun ed
  simp only [wO (w*w),jJ hw,wO (w / 500),wO (w / 500+1),hdv,ja]
  rcases hm with rfl|rfl
  ·rw [if_neg (by omega)]
   exact .done
  ·by_cases hl:w*w<250000*(sl*sl)+d*d
   ·rw [if_pos ⟨rfl,hl⟩,decide_eq_true hl];exact .done
   ·rw [if_neg fun h=>hl h.2,decide_eq_false hl];exact .done
theorem qsx {t:qv} (h:TbOk t∧∀ k,0≤at0 t.Bh k) (sl ld mode:Int):∃ r:Int,0≤r∧r≤1000000∧Ev (fun n=>qgJ n t sl ld mode) r∧Ev (fun n=>qdi n t sl ld mode) r:=by
 obtain ⟨S,D,D0,S1,_,_,_,S0,hev⟩:=qwx h.1 sl ld
 obtain ⟨r0,r1⟩:=qrO (mode:=mode) D0 (S0 h.2) S1
 exact ⟨_,r0,r1,hev mode⟩
theorem qvW {b:qf} {x:qq} {j net:Nat} (jl:j<(places b.Ab).length) (hn:(gt (places b.Ab) j).net=(net:Int)) (hh:W64 (x.To.tdiv 2)=(j:Int)) (n:Nat):qen n (some (viewV b)) x=some (net:Int):=by
 unfold qen
 show (idx (places b.Ab) (W64 (x.To.tdiv 2))).bind _=_
 rw [hh,qB jl]
 exact congrArg some hn
theorem qu7 {b:qf} (h:blockB b=true) {x:qq} {i j m net a:Nat} (hx:CLk b x i j m net a) (n:Nat):qfB n (some (viewV b)) x=some (gt (cellAt b (i:Int)).Ar a):=by
 obtain ⟨⟨c0,c1⟩,_,_⟩:=qgy (qaE h) hx.il
 unfold qfB
 show (idx (places b.Ab) (W64 (x.To.tdiv 2))).bind (fun y2=>(idx b.Ab.Aa y2.instance_).bind fun y3=>(idx b.Av.Aq y3.Bs).bind fun y4=>(idx y4.Ar x.Bz).bind fun y5=>some y5)=_
 rw [hx.half,qB hx.jl,ja,hx.inst,qB hx.il,ja,qdt c0 c1,ja,hx.ix]
 show (idx (cellAt b (i:Int)).Ar (a:Int)).bind _=_
 rw [qB hx.al];rfl
theorem qqW {b:qf} (h:blockB b=true) {x:qq} {i j m net a:Nat} (hx:CLk b x i j m net a):Ev (fun n=>qi7 n b x) (gt (cellAt b (i:Int)).Ar a,load0 b net):=by
 have hd:=qaE h
 have hs:=qai hd
 obtain ⟨⟨c0,c1⟩,_,_⟩:=qgy hd hx.il
 have hp:idx ((places b.Ab).map toSp) (j:Int)=some (toSp (gt (places b.Ab) j)):=by
  refine qau ?_
  rw [List.getElem?_map,jf hx.jl,qeT hx.jl];rfl
 have hll:=qlo h hx.nl
 have hlo:=(qbi h hx.nl).lo
 have h1:(toSp (gt (places b.Ab) j)).instance_=(i:Int):=hx.inst
 have h2:(toSp (gt (places b.Ab) j)).net=(net:Int):=hx.net_
 have h3:idx (gt b.Av.Aq (gt b.Ab.Aa i).Bs.toNat).Ar (a:Int)=some (gt (cellAt b (i:Int)).Ar a):=qB hx.al
 unfold qi7
 refine Ev.bind (qhl hs) ?_
 simp only [hx.half,hp,ja,h1,h2,qB hx.il,qdt c0 c1,hx.ix,h3]
 refine Ev.bind (qoN h hx.nl) ?_
 rw [show idx (loadsL b net) (0:Int)=some (load0 b net) from qB (j:=0) (by omega)]
 exact .done
theorem qri {b:qf} (h:blockB b=true) {x:qq} {j net k:Nat} (hx:WLk b x j net k):Ev (fun n=>qjc n b x) (net:Int):=by
 have hs:=qai (qaE h)
 have hp:idx ((places b.Ab).map toSp) (j:Int)=some (toSp (gt (places b.Ab) j)):=by
  refine qau ?_
  rw [List.getElem?_map,jf hx.jl,qeT hx.jl];rfl
 have h2:(toSp (gt (places b.Ab) j)).net=(net:Int):=hx.net_
 unfold qjc
 refine Ev.bind (qhl hs) ?_
 simp only [hx.half,hp,ja,h2]
 exact .done
theorem qpx {b:qf} {c:qu} (h:blockB b=true) (hc:cornerB c=true) {k:Nat} (hk:k<(linksL b).length) {sl mode:Int} (s0:0≤sl) (s1:sl≤1000000) (hm:mode=0∨mode=1) :
  (∃ D:Int,Ev (fun n=>qdK n b c (gt (linksL b) k) sl mode) D∧Ev (fun n=>qcI n (some (viewV b)) c (k:Int) sl mode) D) ∧
  ∃ S:Int,0≤S∧S≤1000000∧Ev (fun n=>qet n b (gt (linksL b) k) sl mode) S∧Ev (fun n=>qda n (some (viewV b)) (k:Int) sl mode) S:=by
 have hv:idx (viewV b).links (k:Int)=some (gt (linksL b) k):=qB hk
 obtain ⟨hx,_⟩:=qkf h (qnk hk)
 generalize gt (linksL b) k=x at hx hv
 rcases hx with ⟨i,j,m,net,a,hx⟩|⟨j,net,q,hx⟩
 ·have hnet:=qvW hx.jl hx.net_ hx.half
  have harc:=qu7 h hx
  have hld:idx (viewV b).loads (net:Int)=some (load0 b net):=qig (f:=load0 b) hx.nl
  obtain ⟨f,f0,f1,sF,iF⟩:=qrf hc (kind:=x.Be) (mode:=mode)
  have dl:m<(gt (cellAt b (i:Int)).Ar a).Bq.length:=by rw [hx.d2];exact hx.ml
  have sL:m<(gt (cellAt b (i:Int)).Ar a).Bc.length:=by rw [hx.s2];exact hx.ml
  obtain ⟨r,r0,r1,rs,ri⟩:=qsx (hx.dt _ (qnk dl)) sl (load0 b net) mode
  obtain ⟨u,u0,u1,us,ui⟩:=qsx (hx.st _ (qnk sL)) sl (load0 b net) mode
  obtain ⟨c1,c2⟩:=qsJ (mode:=mode) r0 (by omega) (show 0≤f by omega) f1
  have hk1:(x.Be==1)=true:=by rw [hx.kind];rfl
  refine ⟨⟨divI (r*f) 1000 mode,?_,?_⟩,⟨u,u0,u1,?_,?_⟩⟩
  ·unfold qdK
   refine Ev.tt hk1 (Ev.bind (qqW h hx) ?_)
   simp only [hx.mod,qB dl,ja,sF]
   exact Ev.bind rs (Ev.bind ⟨0,fun n _=>c1 n⟩ .done)
  ·unfold qcI
   simp only [ja,hv,hnet,hld,harc,hx.mod,qB dl,iF]
   exact Ev.tt hk1 (Ev.bind ri (Ev.bind ⟨0,fun n _=>c2 n⟩ .done))
  ·unfold qet
   refine Ev.tt hk1 (Ev.bind (qqW h hx) ?_)
   simp only [hx.mod,qB sL,ja]
   exact Ev.bind us .done
  ·unfold qda
   simp only [ja,hv,hnet,hld,harc,hx.mod,qB sL]
   refine Ev.tt hk1 (Ev.bind ui (Ev.now ?_))
   rw [if_neg (by omega)]
 ·have hnet:=qvW hx.jl hx.net_ hx.half
  have hde:idx (viewV b).delays (net:Int)=some (exactL b net):=qig (f:=exactL b) hx.nl
  have hel:(exactL b net).length=(gt b.Ac net).Bl.length:=by unfold exactL;rw [jv]
  have hq:q<(exactL b net).length:=by rw [hel];exact hx.kl
  obtain ⟨x0,x1⟩:=qpV h hx.nl hx.kl
  obtain ⟨f,f0,f1,sF,iF⟩:=qrf hc (kind:=x.Be) (mode:=mode)
  have dd:=fun n=>qjV (n:=n) (a:=gt (exactL b net) q) (b:=1000) (mode:=mode) (by omega) (by omega) (by omega)
  obtain ⟨p0,p1⟩:=qrO (a:=gt (exactL b net) q) (b:=1000) (mode:=mode) (M:=344000) (by omega) x0 (by omega)
  obtain ⟨c1,c2⟩:=qsJ (mode:=mode) p0 (by omega) (show 0≤f by omega) f1
  have hk1:(x.Be==1)=false:=by rw [hx.kind];rfl
  have hi:idx ((exactL b net).map fun x=>divI x 1000 mode) (q:Int)=some (divI (gt (exactL b net) q) 1000 mode):=by
   rw [qB (by rw [jv];exact hq),qoz hq]
  obtain ⟨u,u0,us,ui⟩:=quM s0 s1 x0 x1 hm
  refine ⟨⟨divI (divI (gt (exactL b net) q) 1000 mode*f) 1000 mode,?_,?_⟩,⟨if u<1000000 then u else 1000000,by split<;>omega,by split<;>omega,?_,?_⟩⟩
  ·unfold qdK
   refine Ev.ff hk1 (Ev.bind (qri h hx) (Ev.bind (qol h hx.nl) ?_))
   simp only [hx.ix,hi,ja,sF]
   exact Ev.bind ⟨0,fun n _=>c1 n⟩ .done
  ·unfold qcI
   simp only [ja,hv,hnet,hde,hx.ix,qB hq,iF]
   refine Ev.ff hk1 (Ev.bind (b:=divI (gt (exactL b net) q) 1000 mode) ⟨0,fun n _=>(qrL (m:=0)).trans (dd 0)⟩ (Ev.bind ⟨0,fun n _=>c2 n⟩ .done))
  ·have hw:=qbi h hx.nl
   have hsn:=hw.sin q hx.kl
   have hdl:=qmB h hx.nl
   have eg:gt (exactL b net) q=gt (delaysL b net) (at0 (gt b.Ac net).Bl q).toNat:=by
    unfold exactL
    rw [qeT (by rw [jv];exact hx.kl),List.getElem_map,qkb hx.kl]
   unfold qet qly
   refine Ev.ff hk1 (Ev.bind (qri h hx) ?_)
   simp only [hx.ix,qB hx.nl,ja,qae hx.kl]
   refine Ev.bind (b:=u) (Ev.bind (qny h hx.nl) ?_) .done
   rw [qdt hsn.1 (show at0 (gt b.Ac net).Bl q<((delaysL b net).length:Int) by omega)]
   simp only [ja]
   rw [←eg]
   exact us
  ·unfold qda
   simp only [ja,hv,hnet,hde,hx.ix,qB hq]
   refine Ev.ff hk1 (Ev.bind ui (Ev.now ?_))
   congr 1
   split<;>split<;>omega
end Go.Fw


namespace Go.Fw
open Go
set_option maxRecDepth 100000
def slR (s:qh):Prop:=(0≤s.Ap∧s.Ap≤1000000)∧(0≤s.Bf∧s.Bf≤1000000)
def SpansOk (b:qf) (c:qu) (f:Nat→qh→qh × qh):Prop :=
 ∀ k s,k<(linksL b).length→slR s→slR (f k s).2∧Ev (fun n=>qg6 n b c (gt (linksL b) k) s) (f k s)∧Ev (fun n=>qfJ n (some (viewV b)) c (k:Int) s) (f k s)
theorem qwf {b:qf} {c:qu} (h:blockB b=true) (hc:cornerB c=true):∃ f,SpansOk b c f:=by
 have main:∀ x:Nat × qh,∃ r:qh × qh,x.1<(linksL b).length→slR x.2→slR r.2∧Ev (fun n=>qg6 n b c (gt (linksL b) x.1) x.2) r∧Ev (fun n=>qfJ n (some (viewV b)) c (x.1:Int) x.2) r:=by
  rintro ⟨k,s⟩
  by_cases hk:k<(linksL b).length∧slR s
  ·obtain ⟨hk,⟨e0,e1⟩,⟨l0,l1⟩⟩:=hk
   obtain ⟨⟨d1,p1,q1⟩,⟨u1,a1,b1,v1,w1⟩⟩:=qpx h hc hk e0 e1 (mode:=0) (.inl rfl)
   obtain ⟨⟨d2,p2,q2⟩,⟨u2,a2,b2,v2,w2⟩⟩:=qpx h hc hk e0 e1 (mode:=1) (.inr rfl)
   obtain ⟨⟨d3,p3,q3⟩,⟨u3,a3,b3,v3,w3⟩⟩:=qpx h hc hk l0 l1 (mode:=0) (.inl rfl)
   obtain ⟨⟨d4,p4,q4⟩,⟨u4,a4,b4,v4,w4⟩⟩:=qpx h hc hk l0 l1 (mode:=1) (.inr rfl)
   refine ⟨(⟨if d3<d1 then d3 else d1,if d4 > d2 then d4 else d2⟩,⟨if u3<u1 then u3 else u1,if u4 > u2 then u4 else u2⟩),fun _ _=>⟨⟨?_,?_⟩,?_,?_⟩⟩
   ·show 0≤(if u3<u1 then u3 else u1)∧(if u3<u1 then u3 else u1)≤1000000
    split<;>omega
   ·show 0≤(if u4 > u2 then u4 else u2)∧(if u4 > u2 then u4 else u2)≤1000000
    split<;>omega
   ·unfold qg6
    exact Ev.bind p1 (Ev.bind p2 (Ev.bind v1 (Ev.bind v2 (Ev.bind p3 (Ev.bind p4 (Ev.bind v3 (Ev.bind v4 .done)))))))
   ·unfold qfJ
    refine Ev.bind q1 (Ev.bind q3 (Ev.bind q2 (Ev.bind q4 ?_)))
    have hv:idx (viewV b).links (k:Int)=some (gt (linksL b) k):=qB hk
    simp only [ja,hv]
    refine Ev.bind (b:=false) (Ev.now rfl) (Ev.bind (b:=(if d3<d1 then d3 else d1,if d4 > d2 then d4 else d2)) (Ev.now rfl) ?_)
    exact Ev.bind w1 (Ev.bind w3 (Ev.bind w2 (Ev.bind w4 .done)))
  ·exact ⟨(s,s),fun h1 h2=>absurd ⟨h1,h2⟩ hk⟩
 obtain ⟨f,hf⟩:=Classical.axiomOfChoice main
 exact ⟨fun k s=>f (k,s),fun k s h1 h2=>hf (k,s) h1 h2⟩
def zSp:qh:=⟨0,0⟩
def zSrc:qe:=⟨0,zSp,zSp⟩
def hullS (s t:qh):qh:=⟨if t.Ap<s.Ap then t.Ap else s.Ap,if t.Bf > s.Bf then t.Bf else s.Bf⟩
theorem qq1 {s t:qh}:(⟨if s.Ap<t.Ap then s.Ap else t.Ap,if s.Bf > t.Bf then s.Bf else t.Bf⟩:qh)=hullS s t:=by
 unfold hullS
 congr 1
 ·split<;>split<;>omega
 ·split<;>split<;>omega
def plusS (s t:qh):qh:=⟨W64 (s.Ap+t.Ap),W64 (s.Bf+t.Bf)⟩
def joinS (node:Int) (s:Bool × qe) (ar sl:qh):Bool × qe:=bif s.1 then (true,⟨node,hullS s.2.Ah ar,hullS s.2.Bc sl⟩) else (true,⟨node,ar,sl⟩)
def frN (ls:List qq) (k:Nat):Nat:=(gt ls k).Bk.toNat
def stepS (f:Nat→qh→qh × qh) (ls:List qq) (t:qw) (node:Int) (s:Bool × qe) (k:Nat):Bool × qe :=
 bif gt t.Bg (frN ls k) then joinS node s (plusS (gt t.Ah (frN ls k)) (f k (gt t.Bc (frN ls k))).1) (f k (gt t.Bc (frN ls k))).2 else s
def toQ (ls:List qq) (lv:List Bool) (node:Int) (k:Nat):Bool:=lvL lv k&&(toL ls k==node)
def srcO (xs:List qe) (node:Int):Option qe:=xs.find? fun s=>s.Bo==node
def srcV (o:Option qe):Bool × qe:=match o with|some y=>(true,y)|none=>(false,zSrc)
def ndS (f:Nat→qh→qh × qh) (ls:List qq) (lv:List Bool) (t:qw) (node:Int) (s0:Bool × qe):Nat→Bool × qe
 | 0=>s0
 | k+1=>bif toQ ls lv node k then stepS f ls t node (ndS f ls lv t node s0 k) k else ndS f ls lv t node s0 k
theorem qvu {f:Nat→qh→qh × qh} {ls:List qq} {lv:List Bool} {t:qw} {node:Int} {s0:Bool × qe} {j:Nat}:(selN (toQ ls lv node) j).foldl (stepS f ls t node) s0=ndS f ls lv t node s0 j:=by
 induction j with
 | zero=>rfl
 | succ j ih =>
  rw [qmR,List.foldl_append,ih]
  show _=bif toQ ls lv node j then stepS f ls t node (ndS f ls lv t node s0 j) j else ndS f ls lv t node s0 j
  cases toQ ls lv node j<;>rfl
structure TmOk (t:qw) (M:Nat):Prop where
 r:t.Bg.length=M
 a:t.Ah.length=M
 s:t.Bc.length=M
 sl:∀ k,k<M→slR (gt t.Bc k)
structure SrcOk (xs:List qe):Prop where
 len:xs.length≤1048576
 inc:∀ j i,i<j→j<xs.length→(gt xs i).Bo<(gt xs j).Bo
 sl:∀ x,x ∈ xs→slR x.Bc
theorem qsm {xs:List qe} {node:Int} (hl:xs.length≤1048576):Ev (fun n=>qfT n xs node) ((srcV (srcO xs node)).2,(srcV (srcO xs node)).1):=by
 have h1:Ev (fun n=>qaz n xs node) (ixL (fun s=>s.Bo==node) xs) :=
  qe6 (fin:=(xs.length:Int)) (Lf:=qK xs node) (xs:=xs) (pf:=fun n x=>qjj n x node) (fun _ _=>.done)
   (fun n=>by simp only [qK,qk (jb _),cond_false])
   (fun n j x hx=>by
    have hj:=(List.getElem?_eq_some_iff.1 hx).1
    simp only [qK,qj hj,cond_true,qau hx,ja,wS j])
   (fun n=>by unfold qaz;congr 1;funext o;cases o<;>rfl)
 unfold qfT
 refine Ev.bind h1 ?_
 unfold ixL srcO
 cases hf:xs.findIdx? (fun s=>s.Bo==node) with
 | none =>
  have:xs.find? (fun s=>s.Bo==node)=none:=by
   rw [List.find?_eq_none]
   intro x hx
   have:=List.findIdx?_eq_none_iff.1 hf x hx
   simpa using this
  rw [this]
  exact Ev.ff rfl .done
 | some j =>
  obtain ⟨hj,hp,hn⟩:=List.findIdx?_eq_some_iff_getElem.1 hf
  have:xs.find? (fun s=>s.Bo==node)=some xs[j]:=by
   rw [List.find?_eq_some_iff_getElem]
   exact ⟨hp,j,hj,rfl,fun i hi=>by have:=hn i hi;simpa using this⟩
  rw [this]
  refine Ev.tt (show decide ((j:Int) ≥ 0)=true from decide_eq_true (by omega)) ?_
  show Ev (fun n=>(idx xs (j:Int)).bind _) _
  rw [qhF hj]
  exact .done
theorem qmQ {xs:List qe} {node:Int} {y:qe} (h:srcO xs node=some y):y.Bo=node∧y ∈ xs:=by
 have h1:=List.find?_some h
 exact ⟨by simpa using h1,List.mem_of_find?_eq_some h⟩
theorem qw9 {xs:List qe} {node:Int} (h:SrcOk xs) :
  Ev (fun n=>qcH xs node n 0 0 0 0 0 false 0) ((srcV (srcO xs node)).2.Bo,(srcV (srcO xs node)).2.Ah.Ap,(srcV (srcO xs node)).2.Ah.Bf,(srcV (srcO xs node)).2.Bc.Ap,(srcV (srcO xs node)).2.Bc.Bf,(srcV (srcO xs node)).1,(xs.length:Int)):=by
 have hl:=h.len
 have:=loopF (τ:=Bool × qe) (Lf:=fun n s j=>qcH xs node n s.2.Bo s.2.Ah.Ap s.2.Ah.Bf s.2.Bc.Ap s.2.Bc.Bf s.1 j) (S:=fun j=>srcV (srcO (xs.take j) node)) (len:=xs.length)
  (fin:=((srcV (srcO xs node)).2.Bo,(srcV (srcO xs node)).2.Ah.Ap,(srcV (srcO xs node)).2.Ah.Bf,(srcV (srcO xs node)).2.Bc.Ap,(srcV (srcO xs node)).2.Bc.Bf,(srcV (srcO xs node)).1,(xs.length:Int)))
  (fun n=>by simp only [qcH,qk (jb _),cond_false,jB])
  (fun j hj X hX=>by
   simp only [qcH,qj hj,cond_true,qB hj,ja,wS j]
   have e:srcO (xs.take (j+1)) node=(srcO (xs.take j) node).or (bif (gt xs j).Bo==node then some (gt xs j) else none):=by
    unfold srcO
    rw [ju hj,List.find?_append,←qeT hj]
    congr 1
   cases hq:(gt xs j).Bo==node
   ·rw [hq] at e
    have e:srcO (xs.take (j+1)) node=srcO (xs.take j) node:=by rw [e];cases srcO (xs.take j) node<;>rfl
    rw [e] at hX
    exact hX
   ·rw [hq] at e
    have hn:srcO (xs.take j) node=none:=by
     unfold srcO
     rw [List.find?_eq_none]
     intro x hx hxn
     obtain ⟨i,hi,rfl⟩:=List.mem_iff_getElem.1 hx
     rw [jS] at hi
     rw [List.getElem_take,←qeT (by omega)] at hxn
     have:=h.inc j i (by omega) hj
     simp only [beq_iff_eq] at hq hxn
     omega
    have e:srcO (xs.take (j+1)) node=some (gt xs j):=by rw [e,hn];rfl
    rw [e] at hX
    exact hX)
 exact this
theorem qte {ls:List qq} {M:Nat} (h:LkOk ls M) {k:Nat} (hk:k<ls.length):(gt ls k).Bk=(frN ls k:Int)∧frN ls k<M:=by
 have h0:=h.fr0 k hk
 have h1:=h.fr1 k hk
 unfold frN
 omega
section
variable {b:qf} {c:qu} {f:Nat→qh→qh × qh} {lv:List Bool} {t:qw} {xs:List qe} {node:Int}
theorem qu4 (h:blockB b=true) (hf:SpansOk b c f) (hl:lv.length=(linksL b).length) (ht:TmOk t (2*(places b.Ab).length)) (hx:SrcOk xs) :
  Ev (fun n=>qhK n b c (linksL b) lv xs t node) (ndS f (linksL b) lv t node (srcV (srcO xs node)) (linksL b).length):=by
 have hk:=qmV h
 have hkl:=hk.len
 have hL:=loopF (τ:=Bool × qe) (Lf:=fun n s j=>qcD b c (linksL b) lv t node n s.2.Bo s.2.Ah.Ap s.2.Ah.Bf s.2.Bc.Ap s.2.Bc.Bf s.1 j) (S:=fun j=>ndS f (linksL b) lv t node (srcV (srcO xs node)) j) (len:=(linksL b).length)
  (fin:=(fun s:Bool × qe=>(s.2.Bo,s.2.Ah.Ap,s.2.Ah.Bf,s.2.Bc.Ap,s.2.Bc.Bf,s.1,((linksL b).length:Int))) (ndS f (linksL b) lv t node (srcV (srcO xs node)) (linksL b).length))
  (fun n=>by simp only [qcD,qk (jb _),cond_false])
  (fun j hj X hX=>by
   obtain ⟨e1,e2⟩:=qte hk hj
   have eN:ndS f (linksL b) lv t node (srcV (srcO xs node)) (j+1)=bif toQ (linksL b) lv node j then stepS f (linksL b) t node (ndS f (linksL b) lv t node (srcV (srcO xs node)) j) j else ndS f (linksL b) lv t node (srcV (srcO xs node)) j:=rfl
   rw [eN] at hX
   generalize ndS f (linksL b) lv t node (srcV (srcO xs node)) j=s at hX ⊢
   simp only [qcD,qj hj,cond_true,qB hj,qB (show j<lv.length by omega),ja,e1,qB (show frN (linksL b) j<t.Bg.length by rw [ht.r];exact e2),qB (show frN (linksL b) j<t.Ah.length by rw [ht.a];exact e2),qB (show frN (linksL b) j<t.Bc.length by rw [ht.s];exact e2),wS j]
   unfold toQ lvL toL at hX
   cases h1:gt lv j
   ·rw [h1] at hX;exact hX
   rw [h1,jw] at hX
   cases h2:(gt (linksL b) j).To==node
   ·rw [h2] at hX
    simp only [bne,h2]
    exact hX
   rw [h2] at hX
   simp only [bne,h2]
   unfold stepS at hX
   cases h3:gt t.Bg (frN (linksL b) j)
   ·rw [h3] at hX;exact hX
   rw [h3] at hX
   simp only [cond_true] at hX
   obtain ⟨_,s1,_⟩:=hf j _ hj (ht.sl _ e2)
   refine Ev.bind (b:=false) (Ev.now rfl) (Ev.ff rfl (Ev.bind s1 ?_))
   generalize f j (gt t.Bc (frN (linksL b) j))=q at hX ⊢
   unfold joinS at hX
   cases h4:s.1
   ·rw [h4] at hX;exact hX
   ·rw [h4] at hX
    simp only [qjC,ja,cond_true]
    have a1:=qq1 (s:=s.2.Ah) (t:=plusS (gt t.Ah (frN (linksL b) j)) q.1)
    have a2:=qq1 (s:=s.2.Bc) (t:=q.2)
    simp only [cond_true] at hX
    rw [←a1,←a2] at hX
    exact hX)
 unfold qhK
 exact Ev.bind (qw9 hx) (Ev.bind hL .done)
theorem qx6 {ls:List qq} {M:Nat} {ps:List Tplace} {lo:List Int} {de:List (List Int)} {ex:List Int} (h:LkOk ls M) (hl:lv.length=ls.length):Ev (fun n=>qiN n (grV ls lv ps b lo de ex) node) (ints (selN (toQ ls lv node) ls.length)):=by
 have hll:=h.len
 have hL:Ev (fun n=>qF node ⟨some ⟨b,ps,ls,lo,de,ex⟩,lv⟩ ⟨b,ps,ls,lo,de,ex⟩ n ([]:List Int) 0) (ints (selN (toQ ls lv node) ls.length),(ls.length:Int)):=by
  refine qof (q:=toQ ls lv node) (Lf:=qF node ⟨some ⟨b,ps,ls,lo,de,ex⟩,lv⟩ ⟨b,ps,ls,lo,de,ex⟩) (len:=ls.length) (by omega) (Ev.succ ?_) (fun j hj t ht X h1 h2=>?_)
  ·simp only [qF,qk (jb _),cond_false];exact .done
  ·simp only [qF,qj hj,cond_true,qB hj,qB (show j<lv.length by omega),ja,qjk,ht,wS j]
   unfold toQ lvL toL at h1 h2
   cases hq:gt lv j
   ·simp only [cond_false];exact h2 (by rw [hq];rfl)
   ·simp only [cond_true]
    cases hw:(gt ls j).To==node
    ·simp only [cond_false];exact h2 (by rw [hq,hw];rfl)
    ·simp only [cond_true];exact h1 (by rw [hq,hw];rfl)
 unfold qiN qck grV
 simp only [ja]
 exact Ev.bind (Ev.bind hL .done) .done
def fixS (node:Int) (s:Bool × qe):Bool × qe:=bif s.1 then s else (false,⟨node,zSp,zSp⟩)
theorem qvE (h:blockB b=true) (hf:SpansOk b c f) (hl:lv.length=(linksL b).length) (ht:TmOk t (2*(places b.Ab).length)) (hx:xs.length≤1048576) :
  Ev (fun n=>qc8 n (some ⟨some (viewV b),lv⟩) c xs t node) (ndS f (linksL b) lv t node (srcV (srcO xs node)) (linksL b).length):=by
 have hk:=qmV h
 have hkl:=hk.len
 have hsel:=qnu (q:=toQ (linksL b) lv node) (j:=(linksL b).length)
 have hnd:∀ j,(ndS f (linksL b) lv t node (srcV (srcO xs node)) j).1=true→(ndS f (linksL b) lv t node (srcV (srcO xs node)) j).2.Bo=node:=by
  intro j
  induction j with
  | zero =>
   show (srcV (srcO xs node)).1=true→(srcV (srcO xs node)).2.Bo=node
   cases hs:srcO xs node with
   | none=>intro e;cases e
   | some y=>exact fun _=>(qmQ hs).1
  | succ j ih =>
   unfold ndS
   cases toQ (linksL b) lv node j
   ·exact ih
   ·simp only [cond_true]
    unfold stepS
    cases gt t.Bg (frN (linksL b) j)
    ·exact ih
    ·simp only [cond_true]
     unfold joinS
     cases (ndS f (linksL b) lv t node (srcV (srcO xs node)) j).1<;>exact fun _=>rfl
 have hz:∀ j,(ndS f (linksL b) lv t node (srcV (srcO xs node)) j).1=false→(ndS f (linksL b) lv t node (srcV (srcO xs node)) j).2=zSrc:=by
  intro j
  induction j with
  | zero =>
   show (srcV (srcO xs node)).1=false→(srcV (srcO xs node)).2=zSrc
   cases srcO xs node with
   | none=>exact fun _=>rfl
   | some y=>intro e;cases e
  | succ j ih =>
   unfold ndS
   cases toQ (linksL b) lv node j
   ·exact ih
   ·simp only [cond_true]
    unfold stepS
    cases gt t.Bg (frN (linksL b) j)
    ·exact ih
    ·simp only [cond_true]
     unfold joinS
     cases (ndS f (linksL b) lv t node (srcV (srcO xs node)) j).1<;>(intro e;cases e)
 have fl:∀ (l:List Nat) (s:Bool × qe),(∀ k,k ∈ l→toQ (linksL b) lv node k=true)→l.foldl (fun s k=>fixS node (stepS f (linksL b) t node s k)) (fixS node s)=fixS node (l.foldl (stepS f (linksL b) t node) s):=by
  intro l
  induction l with
  | nil=>intro s _;rfl
  | cons k l ih =>
   intro s hq
   have e:fixS node (stepS f (linksL b) t node (fixS node s) k)=fixS node (stepS f (linksL b) t node s k):=by
    unfold stepS
    obtain ⟨s1,s2⟩:=s
    cases gt t.Bg (frN (linksL b) k)<;>cases s1<;>rfl
   rw [List.foldl_cons,List.foldl_cons,e]
   exact ih _ fun k' hk'=>hq k' (jo _ hk')
 have hL:=(quH (τ:=Bool × qe) (xs:=selN (toQ (linksL b) lv node) (linksL b).length) (Lf:=fun n s j=>qa6 (some ⟨some (viewV b),lv⟩) c t (ints (selN (toQ (linksL b) lv node) (linksL b).length)) n s.1 s.2.Bo s.2.Ah.Ap s.2.Ah.Bf s.2.Bc.Ap s.2.Bc.Bf j)
  (step:=fun s k=>fixS node (stepS f (linksL b) t node s k)) (fin:=fun s=>(s.1,s.2.Bo,s.2.Ah.Ap,s.2.Ah.Bf,s.2.Bc.Ap,s.2.Bc.Bf,((ints (selN (toQ (linksL b) lv node) (linksL b).length)).length:Int))) (fixS node (srcV (srcO xs node))) (fun _ s=>s=fixS node s∧s.2.Bo=node) (by
   constructor
   ·unfold fixS
    cases hs:(srcV (srcO xs node)).1
    ·rfl
    ·simp only [hs,cond_true]
   ·unfold fixS
    cases hs:srcO xs node with
    | none=>rfl
    | some y=>exact (qmQ hs).1)
  (fun j s hj hs=>by
   obtain ⟨h1,h2⟩:=hs
   have key:(stepS f (linksL b) t node s (selN (toQ (linksL b) lv node) (linksL b).length)[j]).2.Bo=node:=by
    unfold stepS
    cases gt t.Bg (frN (linksL b) (selN (toQ (linksL b) lv node) (linksL b).length)[j])
    ·exact h2
    ·unfold joinS
     cases s.1<;>rfl
   constructor
   ·unfold fixS
    cases hs:(stepS f (linksL b) t node s (selN (toQ (linksL b) lv node) (linksL b).length)[j]).1
    ·rfl
    ·simp only [hs,cond_true]
   ·unfold fixS
    cases hs:(stepS f (linksL b) t node s (selN (toQ (linksL b) lv node) (linksL b).length)[j]).1
    ·rfl
    ·exact key)
  (fun n s=>by simp only [qa6,qdy,qk (jb _),cond_false])
  (fun j s hj hs X hX=>by
   obtain ⟨hfx,hsn⟩:=hs
   have hi:=qpv hj
   have hm:(selN (toQ (linksL b) lv node) (linksL b).length)[j]<(linksL b).length:=(qn7.1 (jp hj)).1
   generalize (selN (toQ (linksL b) lv node) (linksL b).length)[j]=k at hi hm hX
   obtain ⟨e1,e2⟩:=qte hk hm
   have hv:idx (viewV b).links (k:Int)=some (gt (linksL b) k):=qB hm
   simp only [qa6,qdy,qj hj,cond_true,hi,hv,ja,e1,qB (show frN (linksL b) k<t.Bg.length by rw [ht.r];exact e2),qB (show frN (linksL b) k<t.Ah.length by rw [ht.a];exact e2),qB (show frN (linksL b) k<t.Bc.length by rw [ht.s];exact e2),wS j]
   unfold stepS at hX
   cases h3:gt t.Bg (frN (linksL b) k)
   ·rw [h3] at hX
    simp only [cond_false] at hX
    rw [←hfx] at hX
    exact hX
   rw [h3] at hX
   simp only [cond_true] at hX ⊢
   obtain ⟨_,_,s1⟩:=hf k _ hm (ht.sl _ e2)
   refine Ev.bind s1 ?_
   generalize f k (gt t.Bc (frN (linksL b) k))=q at hX ⊢
   simp only [qj1,ja]
   unfold joinS at hX
   unfold qfh
   cases h4:s.1
   ·rw [h4] at hX
    simp only [Bool.not_false,cond_true,ja]
    unfold fixS at hX
    simp only [cond_false,cond_true] at hX
    rw [hsn]
    exact hX
   ·rw [h4] at hX
    simp only [jW,cond_false,qih,ja]
    unfold fixS at hX
    simp only [cond_true] at hX
    rw [hsn]
    exact hX)).1
 rw [fl _ _ (fun k hk'=>(qn7.1 hk').2),qvu] at hL
 unfold qc8
 refine Ev.bind (qsm hx) ?_
 have e0:(bif (srcV (srcO xs node)).1 then (qfh 0 ⟨node,⟨0,0⟩,⟨0,0⟩⟩ false ⟨(srcV (srcO xs node)).2.Ah.Ap,(srcV (srcO xs node)).2.Ah.Bf⟩ ⟨(srcV (srcO xs node)).2.Bc.Ap,(srcV (srcO xs node)).2.Bc.Bf⟩).bind (fun o=>match o with|(x9,x10)=>some (x10,x9.Bo,x9.Ah.Ap,x9.Ah.Bf,x9.Bc.Ap,x9.Bc.Bf)) else some (false,node,(0:Int),(0:Int),(0:Int),(0:Int))) =
   some ((fixS node (srcV (srcO xs node))).1,(fixS node (srcV (srcO xs node))).2.Bo,(fixS node (srcV (srcO xs node))).2.Ah.Ap,(fixS node (srcV (srcO xs node))).2.Ah.Bf,(fixS node (srcV (srcO xs node))).2.Bc.Ap,(fixS node (srcV (srcO xs node))).2.Bc.Bf):=by
  cases hs:srcO xs node with
  | none=>rfl
  | some y =>
   have:=(qmQ hs).1
   unfold fixS srcV
   simp only [cond_true,this]
   rfl
 refine Ev.bindN e0 (Ev.bind (qx6 (ps:=places b.Ab) (lo:=pre (load0 b) b.Ac.length) (de:=pre (exactL b) b.Ac.length) (ex:=[]) hk hl) (Ev.bind hL ?_))
 have z:=hz (linksL b).length
 generalize ndS f (linksL b) lv t node (srcV (srcO xs node)) (linksL b).length=s at z ⊢
 unfold fixS
 obtain ⟨s1,s2⟩:=s
 cases s1
 ·have:=z rfl
  simp only at this
  subst this
  exact .done
 ·exact .done
end
end Go.Fw


namespace Go.Fw
open Go
set_option maxRecDepth 100000
theorem qmi {b:qf} (h:blockB b=true):Ev (fun n=>qfR n b) ((2*(places b.Ab).length:Nat):Int):=by
 have hs:=qai (qaE h)
 have hl:=qbI hs
 unfold qfR
 refine Ev.bind (b:=(places b.Ab).map toSp) (qhl hs) (Ev.now ?_)
 rw [jv,qav (by omega) (by omega)]
 rfl
theorem qp0 {v:Tview} (hl:v.places.length≤78) (n:Nat):qb6 n (some v)=some ((2*v.places.length:Nat):Int):=by
 unfold qb6 qdD
 simp only [ja]
 rw [qav (by omega) (by omega)]
 rfl
def stepN (xs:List qe) (j:Nat):Bool:=decide (j=0) || decide ((gt xs (j-1)).Bo<(gt xs j).Bo)
def srcB (xs:List qe) (M:Nat):Bool:=allN (fun j=>inI (gt xs j).Bo 0 ((M:Int)-1)&&(stepN xs j&&(spanB (gt xs j).Ah&&slewB (gt xs j).Bc))) xs.length
theorem qpN {xs:List qe} {j:Nat} (h:j ≠ 0):stepN xs j=decide ((gt xs (j-1)).Bo<(gt xs j).Bo):=by unfold stepN;rw [decide_eq_false h,Bool.false_or]
theorem qqA {b:qf} {xs:List qe} (h:blockB b=true) (hl:xs.length≤1048576):Ev (fun n=>qfL n b xs) (srcB xs (2*(places b.Ab).length)):=by
 have hpl:=qbI (qai (qaE h))
 have e:=qmi h
 obtain ⟨M,eM⟩:∃ M,M=2*(places b.Ab).length:=⟨_,rfl⟩
 rw [←eM] at e ⊢
 have hM:M≤156:=by omega
 have hL:Ev (fun n=>qbJ xs (M:Int) n 0) (bif srcB xs M then .nxt (xs.length:Int) else .ret false):=by
  refine qd1 (Lf:=qbJ xs (M:Int)) (len:=xs.length) (Ev.succ (by simp only [qbJ,qk (jb _),cond_false];exact .done)) (fun j hj X hX=>Ev.succ ?_)
  simp only [qbJ,qj hj,cond_true,qB hj,ja,qcp,qqf,qsy,wS j,wO ((M:Int)-1)]
  cases inI (gt xs j).Bo 0 ((M:Int)-1)
  ·exact .done
  refine Ev.ff rfl ?_
  by_cases h0:j=0
  ·subst h0
   refine Ev.ff rfl ?_
   show Ev _ (bif (stepN xs 0&&_) then X else _)
   rw [show stepN xs 0=true from rfl]
   show Ev (fun n=>bif !spanB (gt xs 0).Ah then _ else bif !slewB (gt xs 0).Bc then _ else _) _
   cases spanB (gt xs 0).Ah
   ·exact .done
   ·cases slewB (gt xs 0).Bc
    ·exact .done
    ·exact hX
  ·refine Ev.tt (decide_eq_true (by omega)) ?_
   rw [show (j:Int)-1=((j-1:Nat):Int) by omega,qav (by omega) (by omega),qB (show j-1<xs.length by omega),qpN h0]
   simp only [ja]
   by_cases hlt:(gt xs (j-1)).Bo<(gt xs j).Bo
   ·rw [decide_eq_true hlt]
    refine Ev.ff (decide_eq_false (by omega)) ?_
    show Ev (fun n=>bif !spanB (gt xs j).Ah then _ else bif !slewB (gt xs j).Bc then _ else _) _
    cases spanB (gt xs j).Ah
    ·exact .done
    ·cases slewB (gt xs j).Bc
     ·exact .done
     ·exact hX
   ·rw [decide_eq_false hlt]
    exact Ev.tt (decide_eq_true (by omega)) .done
 unfold qfL
 refine Ev.bind e (Ev.bind hL ?_)
 cases srcB xs M<;>exact .done
theorem qqz {v:Tview} {xs:List qe} (hp:v.places.length≤78) (hl:xs.length≤1048576):Ev (fun n=>qc5 n (some v) xs) (srcB xs (2*v.places.length)):=by
 have e:=qp0 hp
 obtain ⟨M,eM⟩:∃ M,M=2*v.places.length:=⟨_,rfl⟩
 rw [←eM] at e ⊢
 have hM:M≤156:=by omega
 have hL:Ev (fun n=>qaL (some v) xs n 0) (bif srcB xs M then .nxt (xs.length:Int) else .ret false):=by
  refine qd1 (Lf:=qaL (some v) xs) (len:=xs.length) (Ev.succ (by simp only [qaL,qk (jb _),cond_false];exact .done)) (fun j hj X hX=>Ev.succ ?_)
  simp only [qaL,qj hj,cond_true,qB hj,ja,qip,e,qc0,qou,qsQ,wS j,wO ((M:Int)-1)]
  cases inI (gt xs j).Bo 0 ((M:Int)-1)
  ·exact .done
  refine Ev.ff rfl ?_
  show Ev (fun n=>bif !spanB (gt xs j).Ah then _ else bif !slewB (gt xs j).Bc then _ else _) _
  rw [jw,Bool.and_comm]
  cases spanB (gt xs j).Ah
  ·exact .done
  ·cases slewB (gt xs j).Bc
   ·exact .done
   ·refine Ev.ff rfl (Ev.ff rfl ?_)
    rw [jw,jw]
    by_cases h0:j=0
    ·subst h0
     exact Ev.ff rfl hX
    ·refine Ev.tt (decide_eq_true (by omega)) ?_
     rw [show (j:Int)-1=((j-1:Nat):Int) by omega,qav (by omega) (by omega),qB (show j-1<xs.length by omega),qpN h0]
     simp only [ja]
     by_cases hlt:(gt xs (j-1)).Bo<(gt xs j).Bo
     ·rw [decide_eq_true hlt]
      exact Ev.ff (decide_eq_false (by omega)) hX
     ·rw [decide_eq_false hlt]
      exact Ev.tt (decide_eq_true (by omega)) .done
 unfold qc5
 refine Ev.bind hL ?_
 cases srcB xs M<;>exact .done
theorem qwA {xs:List qe} {M:Nat} (hl:xs.length≤1048576) (h:srcB xs M=true):SrcOk xs:=by
 unfold srcB at h
 rw [qah] at h
 refine ⟨hl,fun j=>?_,fun x hx=>?_⟩
 ·induction j with
  | zero=>intro i hi _;omega
  | succ j ih =>
   intro i hi hj
   have hs:=h (j+1) hj
   rw [qpN (by omega)] at hs
   simp only [jc,decide_eq_true_eq,Nat.add_sub_cancel] at hs
   have hs':=hs.2.1
   by_cases hij:i=j
   ·rw [hij];exact hs'
   ·have:=ih i (by omega) (by omega);omega
 ·obtain ⟨i,hi,rfl⟩:=List.mem_iff_getElem.1 hx
  have hs:=h i hi
  rw [←qeT hi]
  simp only [jc] at hs
  have:=hs.2.2.2
  unfold slewB at this
  simp only [jc,decide_eq_true_eq] at this
  exact ⟨⟨this.1,by omega⟩,by omega,this.2.2⟩
section
variable {L:Nat} {fr to:Nat→Int} {lv:Nat→Bool} {n:Nat}
def OrdOk (L:Nat) (fr to:Nat→Int) (lv:Nat→Bool) (n:Nat) (R:List Nat):Prop:=∀ l1 k l2,R=l1++k::l2→k<n∧k ∉ l1∧inN L fr to lv l1 k=0
theorem OrdOk.snoc {R:List Nat} {k:Nat} (h:OrdOk L fr to lv n R) (hk:nxtN L fr to lv n R=some k):OrdOk L fr to lv n (R++[k]):=by
 intro l1 k' l2 e
 rcases List.eq_nil_or_concat l2 with rfl|⟨l2',z,rfl⟩
 ·obtain ⟨rfl,e2⟩:=List.append_inj' e rfl
  obtain rfl:k=k':=by simpa using e2
  exact qot hk
 ·have e':R++[k]=(l1++k'::l2')++[z]:=by rw [e];simp
  obtain ⟨e1,_⟩:=List.append_inj' e' rfl
  exact h l1 k' l2' e1
theorem qwS:∀ m R R',OrdOk L fr to lv n R→ordN L fr to lv n m R=some R'→OrdOk L fr to lv n R':=by
 intro m
 induction m with
 | zero=>intro R R' h e;obtain rfl:=Option.some.inj e;exact h
 | succ m ih =>
  intro R R' h e
  unfold ordN at e
  cases hn:nxtN L fr to lv n R with
  | none=>rw [hn] at e;cases e
  | some k =>
   rw [hn] at e
   exact ih _ _ (h.snoc hn) e
theorem OrdOk.at {R:List Nat} (h:OrdOk L fr to lv n R) {j:Nat} (hj:j<R.length):R[j]<n∧R[j] ∉ R.take j∧inN L fr to lv (R.take j) R[j]=0:=by
 refine h (R.take j) R[j] (R.drop (j+1)) ?_
 rw [←jM hj,List.take_append_drop]
end
theorem qov {α:Type} [Inhabited α] {xs:List α} {k:Nat} {v:α} (hk:k<xs.length) (h:gt xs k=v):setS xs (k:Int) v=xs:=by
 unfold setS
 rw [jn,←h,qeT hk]
 exact List.set_getElem_self hk
theorem qpr {α:Type} [Inhabited α] {xs:List α} {a k:Nat} {y:α} (ha:a<xs.length):gt (setS xs (a:Int) y) k=if k=a then y else gt xs k:=by
 unfold setS
 rw [jn]
 by_cases h:k=a
 ·subst h;rw [if_pos rfl,qoV ha]
 ·rw [if_neg h,qq4 h]
def setT (t:qw) (k:Nat) (s:Bool × qe):qw:=⟨setS t.Bg (k:Int) s.1,setS t.Ah (k:Int) s.2.Ah,setS t.Bc (k:Int) s.2.Bc⟩
theorem qwQ {t:qw} {M k:Nat} {s:Bool × qe} (h:TmOk t M) (hk:k<M) (hs:slR s.2.Bc):TmOk (setT t k s) M where
 r:=by show (setS _ _ _).length=_;rw [qgh];exact h.r
 a:=by show (setS _ _ _).length=_;rw [qgh];exact h.a
 s:=by show (setS _ _ _).length=_;rw [qgh];exact h.s
 sl:=fun j hj=>by
  show slR (gt (setS _ _ _) j)
  rw [qpr (by rw [h.s];exact hk)]
  split
  ·exact hs
  ·exact h.sl j hj
def Bare (t:qw) (M:Nat) (l:List Nat):Prop:=∀ k,k<M→k ∉ l→gt t.Bg k=false∧gt t.Ah k=zSp∧gt t.Bc k=zSp
def zT:qw:=⟨[],[],[]⟩
theorem qvx:slR zSp:=by unfold slR zSp;exact ⟨⟨jV _,by show (0:Int)≤_;omega⟩,jV _,by show (0:Int)≤_;omega⟩
theorem qwD {s t:qh} (hs:slR s) (ht:slR t):slR (hullS s t):=by
 obtain ⟨⟨a1,a2⟩,a3,a4⟩:=hs
 obtain ⟨⟨b1,b2⟩,b3,b4⟩:=ht
 refine ⟨⟨?_,?_⟩,?_,?_⟩
 ·show (0:Int)≤(if t.Ap<s.Ap then t.Ap else s.Ap);split<;>assumption
 ·show (if t.Ap<s.Ap then t.Ap else s.Ap)≤1000000;split<;>assumption
 ·show (0:Int)≤(if t.Bf > s.Bf then t.Bf else s.Bf);split<;>assumption
 ·show (if t.Bf > s.Bf then t.Bf else s.Bf)≤1000000;split<;>assumption
section
variable {b:qf} {c:qu} {f:Nat→qh→qh × qh} {lv:List Bool} {t:qw} {xs:List qe} {node:Int}
theorem qvI (h:blockB b=true) (hf:SpansOk b c f) (ht:TmOk t (2*(places b.Ab).length)) (hx:SrcOk xs):∀ j,j≤(linksL b).length→slR (ndS f (linksL b) lv t node (srcV (srcO xs node)) j).2.Bc:=by
 intro j
 induction j with
 | zero =>
  intro _
  show slR (srcV (srcO xs node)).2.Bc
  cases hs:srcO xs node with
  | none=>exact qvx
  | some y=>exact hx.sl y (qmQ hs).2
 | succ j ih =>
  intro hj
  have ih:=ih (by omega)
  obtain ⟨_,e2⟩:=qte (qmV h) (show j<(linksL b).length by omega)
  have h2:=(hf j _ (show j<(linksL b).length by omega) (ht.sl _ e2)).1
  show slR (bif toQ (linksL b) lv node j then stepS f (linksL b) t node (ndS f (linksL b) lv t node (srcV (srcO xs node)) j) j else ndS f (linksL b) lv t node (srcV (srcO xs node)) j).2.Bc
  cases toQ (linksL b) lv node j
  ·exact ih
  ·simp only [cond_true]
   unfold stepS
   cases gt t.Bg (frN (linksL b) j)
   ·exact ih
   ·simp only [cond_true]
    unfold joinS
    cases (ndS f (linksL b) lv t node (srcV (srcO xs node)) j).1
    ·exact h2
    ·exact qwD ih h2
theorem qw8:∀ j,(ndS f (linksL b) lv t node (srcV (srcO xs node)) j).1=false→(ndS f (linksL b) lv t node (srcV (srcO xs node)) j).2=zSrc:=by
 intro j
 induction j with
 | zero =>
  show (srcV (srcO xs node)).1=false→(srcV (srcO xs node)).2=zSrc
  cases srcO xs node with
  | none=>exact fun _=>rfl
  | some y=>intro e;cases e
 | succ j ih =>
  unfold ndS
  cases toQ (linksL b) lv node j
  ·exact ih
  ·simp only [cond_true]
   unfold stepS
   cases gt t.Bg (frN (linksL b) j)
   ·exact ih
   ·simp only [cond_true]
    unfold joinS
    cases (ndS f (linksL b) lv t node (srcV (srcO xs node)) j).1<;>(intro e;cases e)
def runR (o:Option qw):qw × Bool:=match o with|some t=>(t,true)|none=>(zT,false)
theorem qxJ (h:blockB b=true) (hf:SpansOk b c f) (hl:lv.length=(linksL b).length) (hx:SrcOk xs) {R:List Nat} (hR:∀ j,∀ hj:j<R.length,R[j]<2*(places b.Ab).length∧R[j] ∉ R.take j) (hRl:R.length≤1000) :
  ∃ o:Option qw,(∀ t,o=some t→TmOk t (2*(places b.Ab).length))∧Ev (fun n=>qkM n b c (linksL b) lv xs (ints R)) (runR o)∧Ev (fun n=>qev n (some ⟨some (viewV b),lv⟩) c xs (ints R)) (runR o):=by
 have hpl:=qbI (qai (qaE h))
 have hcn:=qmi h
 have hnd:=qp0 (v:=viewV b) hpl
 have epl:(viewV b).places.length=(places b.Ab).length:=rfl
 rw [epl] at hnd
 obtain ⟨M,eM⟩:∃ M,M=2*(places b.Ab).length:=⟨_,rfl⟩
 have hM:M≤156:=by omega
 have main:∀ d j t,j+d=R.length→TmOk t M→Bare t M (R.take j)→∃ o:Option qw,(∀ t,o=some t→TmOk t M) ∧
   Ev (fun n=>qb5 b c (linksL b) lv xs (ints R) n t.Bc t.Ah t.Bg (j:Int)) (match o with|some t'=>.nxt (t'.Bc,t'.Ah,t'.Bg,(R.length:Int))|none=>.ret (zT,false)) ∧
   Ev (fun n=>qaM (some ⟨some (viewV b),lv⟩) c xs (ints R) n t.Bc t.Ah t.Bg (j:Int)) (match o with|some t'=>.nxt (t'.Bc,t'.Ah,t'.Bg,(R.length:Int))|none=>.ret (zT,false)):=by
  intro d
  induction d with
  | zero =>
   intro j t hj ht _
   obtain rfl:j=R.length:=by omega
   refine ⟨some t,fun t' e=>by obtain rfl:=Option.some.inj e;exact ht,Ev.succ ?_,Ev.succ ?_⟩
   ·simp only [qb5,qdy,qk (jb _),cond_false];exact .done
   ·simp only [qaM,qdy,qk (jb _),cond_false];exact .done
  | succ d ih =>
   intro j t hj ht hb
   have hjl:j<R.length:=by omega
   obtain ⟨k1,k2⟩:=hR j hjl
   have hi:=qpv hjl
   have htk:R.take (j+1)=R.take j++[R[j]]:=ju hjl
   generalize R[j]=k at k1 k2 hi htk
   rw [←eM] at k1
   have hs:=qu4 (node:=(k:Int)) h hf hl (by rw [←eM];exact ht) hx
   have hp:=qvE (node:=(k:Int)) h hf hl (by rw [←eM];exact ht) hx.len
   have hsl:=qvI (node:=(k:Int)) (lv:=lv) h hf (by rw [←eM];exact ht) hx (linksL b).length (jb _)
   have hz:=qw8 (f:=f) (b:=b) (lv:=lv) (t:=t) (xs:=xs) (node:=(k:Int)) (linksL b).length
   obtain ⟨b1,b2,b3⟩:=hb k k1 k2
   have ir:idx t.Bg (k:Int)=some (gt t.Bg k):=qB (by rw [ht.r];exact k1)
   have ia:idx t.Ah (k:Int)=some (gt t.Ah k):=qB (by rw [ht.a];exact k1)
   have is:idx t.Bc (k:Int)=some (gt t.Bc k):=qB (by rw [ht.s];exact k1)
   have stp:∀ n,qb5 b c (linksL b) lv xs (ints R) (n+1) t.Bc t.Ah t.Bg (j:Int)=(qhK n b c (linksL b) lv xs t (k:Int)).bind fun o=>match o with
    | (r4,r5)=>bif (!r4) then qb5 b c (linksL b) lv xs (ints R) n t.Bc t.Ah t.Bg ((j+1:Nat):Int) else bif (!spanB r5.Ah) then some (.ret (zT,false)) else
     qb5 b c (linksL b) lv xs (ints R) n (setS t.Bc (k:Int) r5.Bc) (setS t.Ah (k:Int) r5.Ah) (setS t.Bg (k:Int) true) ((j+1:Nat):Int):=fun n=>by
    simp only [qb5,qdy,qj hjl,cond_true,hi,ja,qqf,ir,ia,is,wS j]
    rfl
   have ptp:∀ n,qaM (some ⟨some (viewV b),lv⟩) c xs (ints R) (n+1) t.Bc t.Ah t.Bg (j:Int)=(qc8 n (some ⟨some (viewV b),lv⟩) c xs t (k:Int)).bind fun o=>match o with
    | (r3,r4)=>(bif r3 then some (!spanB r4.Ah) else some false).bind fun b3=>bif b3 then some (.ret (zT,false)) else
     qaM (some ⟨some (viewV b),lv⟩) c xs (ints R) n (setS t.Bc (k:Int) r4.Bc) (setS t.Ah (k:Int) r4.Ah) (setS t.Bg (k:Int) r3) ((j+1:Nat):Int):=fun n=>by
    simp only [qaM,qdy,qj hjl,cond_true,hi,ja,qou,ir,ia,is,wS j]
    rfl
   generalize ndS f (linksL b) lv t (k:Int) (srcV (srcO xs (k:Int))) (linksL b).length=s at hs hp hsl hz
   obtain ⟨s1,s2⟩:=s
   cases s1
   ·have:=hz rfl
    simp only at this
    subst this
    have e1:setS t.Bc (k:Int) zSrc.Bc=t.Bc:=qov (by rw [ht.s];exact k1) b3
    have e2:setS t.Ah (k:Int) zSrc.Ah=t.Ah:=qov (by rw [ht.a];exact k1) b2
    have e3:setS t.Bg (k:Int) false=t.Bg:=qov (by rw [ht.r];exact k1) b1
    obtain ⟨o,o1,o2,o3⟩:=ih (j+1) t (by omega) ht (fun i hi hni=>hb i hi (fun hm=>hni (by rw [htk];exact List.mem_append_left _ hm)))
    refine ⟨o,o1,Ev.step stp (Ev.bind hs o2),Ev.step ptp (Ev.bind hp ?_)⟩
    simp only [cond_false,ja,e1,e2,e3]
    exact o3
   ·cases hsp:spanB s2.Ah
    ·refine ⟨none,fun t e=>(by cases e),Ev.step stp (Ev.bind hs ?_),Ev.step ptp (Ev.bind hp ?_)⟩
     ·simp only [hsp];exact .done
     ·simp only [hsp];exact .done
    ·obtain ⟨o,o1,o2,o3⟩:=ih (j+1) (setT t k (true,s2)) (by omega) (qwQ ht k1 hsl) (fun i hi hni=>by
      rw [htk] at hni
      have hne:i ≠ k:=fun e=>hni (List.mem_append_right _ (List.mem_singleton.2 e))
      have:=hb i hi (fun hm=>hni (List.mem_append_left _ hm))
      refine ⟨?_,?_,?_⟩
      ·show gt (setS _ _ _) i=_;rw [qpr (by rw [ht.r];exact k1),if_neg hne];exact this.1
      ·show gt (setS _ _ _) i=_;rw [qpr (by rw [ht.a];exact k1),if_neg hne];exact this.2.1
      ·show gt (setS _ _ _) i=_;rw [qpr (by rw [ht.s];exact k1),if_neg hne];exact this.2.2)
     refine ⟨o,o1,Ev.step stp (Ev.bind hs ?_),Ev.step ptp (Ev.bind hp ?_)⟩
     ·simp only [hsp];exact o2
     ·simp only [hsp];exact o3
 have hm1:mkS (M:Int) false=some (List.replicate M false):=qpz (by omega)
 have hm2:mkS (M:Int) (⟨0,0⟩:qh)=some (List.replicate M zSp):=qpz (by omega)
 have gr:∀ {α:Type} [Inhabited α] (v:α) (k:Nat),k<M→gt (List.replicate M v) k=v:=fun v k hk=>by rw [qeT (by rw [jG];exact hk)];simp
 obtain ⟨o,o1,o2,o3⟩:=main R.length 0 ⟨List.replicate M false,List.replicate M zSp,List.replicate M zSp⟩ (by omega) ⟨jG,jG,jG,fun k hk=>by
   show slR (gt (List.replicate M zSp) k)
   rw [gr zSp k hk];exact qvx⟩ (fun k hk _=>⟨gr false k hk,gr zSp k hk,gr zSp k hk⟩)
 rw [←eM] at hcn hnd
 refine ⟨o,by rw [←eM];exact o1,?_,?_⟩
 ·unfold qkM qkU
  refine Ev.bind hcn ?_
  simp only [hm1,hm2,ja]
  refine Ev.bind o2 ?_
  cases o<;>exact .done
 ·unfold qev qgR
  simp only [ja,hnd,hm1,hm2]
  refine Ev.bind o3 ?_
  cases o<;>exact .done
end
end Go.Fw


namespace Go.Fw
open Go Go.Proofs
open Go.RowKit (Below)
set_option maxRecDepth 100000
set_option maxHeartbeats 1600000
variable {n:Nat} {w:World} {cs1 cs2 cs3 cs4 cs5 cs6 cs7 cs8 cs9:List Value}
def qfl (n:Nat) (j:qbp):Option ((Option Tl20Work) × Int) :=
 (qc7 n (⟨(⟨j.Af.Av.Aq⟩:qp),(⟨j.Af.Ab.Aa,j.Af.Ab.Am,j.Af.Ab.Aj⟩:qd),j.Af.Ac⟩:qf) (⟨j.Ai.Bb,j.Ai.Au,j.Ai.Ay,j.Ai.As,j.Ai.Az⟩:qu) j.Bi j.Ba).bind fun o=>match o with
  | (r2,r3) =>
   bif (r3 != 0) then some (none,r3) else
   (qeO n (⟨(⟨j.Af.Av.Aq⟩:qp),(⟨j.Af.Ab.Aa,j.Af.Ab.Am,j.Af.Ab.Aj⟩:qd),j.Af.Ac⟩:qf)).bind fun r4 =>
   (qgw n r4 j.Bi).bind fun r5 =>
   some ((some (⟨(⟨(⟨(⟨j.Af.Av.Aq⟩:qp),(⟨j.Af.Ab.Aa,j.Af.Ab.Am,j.Af.Ab.Aj⟩:qd),j.Af.Ac⟩:qf),(⟨j.Ai.Bb,j.Ai.Au,j.Ai.Ay,j.Ai.As,j.Ai.Az⟩:qu),j.Bi,j.Ba⟩:qbp),r4,r5,r2⟩:Tl20Work)),0)
theorem qo5 {A:Nat→Prop} (hA:∀ b,A b→old w b) {j:qbp} (ha1:GoT.R w A j cs1) {r:((Option Tl20Work) × Int)} (hF:qfl n j=some r):RetG Tryz.prog 32 [GoT.v qbp cs1] w A r:=by
 obtain ⟨p1,k1,p2,k2,p3,k3,p4,k4,p5,k5,p6,k6,p7,k7,rfl,s1,s2,s3,s4,s5,s6,s7⟩:=qdl ha1
 have hg:=Rg.start hA
 refine qew Tryz.func32 rfl (m:=34) rfl rfl (fun h=>?_)
 refine zSR (qt h rfl rfl fun w1 bb1 h=>X4 13 0 0 0 0 h rfl ?_)
 obtain ⟨r1,hr1,hF⟩:=qc hF
 obtain ⟨r2,r3⟩:=r1
 refine qbv (r2,r3) h (cB 24 rfl) (qk7 (qhs _ (h.oldS (s1.mono hg.old)) (h.oldS (s2.mono hg.old)) (h.oldS (s3.mono hg.old)) (h.oldS (s4.mono hg.old)) (h.oldS (s5.mono hg.old))) (qeH _) ⟨_,_,rfl,(h.oldS (s6.mono hg.old))⟩ ⟨_,_,rfl,(h.oldS (s7.mono hg.old))⟩ hr1) rfl rfl rfl rfl fun w2 S1 us1 hv1 hr2=>?_
 obtain ⟨S2,S3,cs2,us2,rfl,hv2,hr3⟩:=hv1.cons hr2
 obtain ⟨p8,k8,p9,k9,p10,k10,rfl,-,-,-⟩:=qcq (hv2.sh.own 0 rfl)
 obtain ⟨rfl,h⟩:=hv2.lastI hr3
 refine zp3 rfl (qm qa h rfl rfl rfl fun w3 bb2 h=>zs 0 h rfl fun w4 h=>X0 8 rfl (qg rfl hF ?_ ?_))<;>intro hF
 ·refine X0 6 rfl ?_
  obtain rfl:=qb hF
  have hv4:GoRs.Rs (ρ:=((Option Tl20Work) × Int)) h.wc (reg A w h.wc) (none,r3) [GoT.v (Option Tl20Work) [.pointer none],GoT.v Int [.int .i64 r3]]:=⟨_,_,rfl,rfl,⟨_,rfl,rfl⟩⟩
  exact qeN qa (ρ:=((Option Tl20Work) × Int)) (r:=(none,r3)) [GoT.v (Option Tl20Work) [.pointer none],GoT.v Int [.int .i64 r3]] h ⟨rfl,rfl,trivial⟩ hv4
 refine X1 5 2 h rfl (zcL h hF (qgC (qhs _ (h.oldS (s1.mono hg.old)) (h.oldS (s2.mono hg.old)) (h.oldS (s3.mono hg.old)) (h.oldS (s4.mono hg.old)) (h.oldS (s5.mono hg.old)))) rfl fun r4 w5 S5 p11 k11 h hF=>X0 3 rfl (rA [] [1,3] h rfl fun w6 h=>M3 95 [0,1,2,3,4,6] 1 1 0 (h.pick [1,3] rfl) rfl (Ao 5 127 rfl (zcL h hF (qhg (h.own 0 rfl) ⟨_,_,rfl,(h.oldS (s6.mono hg.old))⟩) rfl fun r5 w7 S6 p12 k12 h hF=>Ag (h.pick [2,4] rfl) (Aw 7 255 (fun w' hw=>qV qa [0,1,2,3] [.tmp 25,.tmp 26,.tmp 30,.tmp 31] rfl rfl rfl rfl rfl rfl rfl rfl) (h.pick [2,4] rfl) rfl ?_)))))
 refine Ao 8 511 rfl (qt h rfl rfl fun w8 bb3 h=>G0 2047 [9,10] (h.pick [3,5] rfl) rfl (Ad ?_))
 obtain rfl:=qb hF
 have hv5:GoRs.Rs (ρ:=((Option Tl20Work) × Int)) h.wc (reg A w h.wc) ((some (⟨(⟨(⟨(⟨j.Af.Av.Aq⟩:qp),(⟨j.Af.Ab.Aa,j.Af.Ab.Am,j.Af.Ab.Aj⟩:qd),j.Af.Ac⟩:qf),(⟨j.Ai.Bb,j.Ai.Au,j.Ai.Ay,j.Ai.As,j.Ai.Az⟩:qu),j.Bi,j.Ba⟩:qbp),r4,r5,r2⟩:Tl20Work)),0) [GoT.v (Option Tl20Work) [.pointer (some ⟨bb3,0,none⟩)],GoT.v Int [.int .i64 0]]:=⟨_,_,rfl,(hg.outR h (Rg.boxR (x:=(⟨(⟨(⟨(⟨j.Af.Av.Aq⟩:qp),(⟨j.Af.Ab.Aa,j.Af.Ab.Am,j.Af.Ab.Aj⟩:qd),j.Af.Ac⟩:qf),(⟨j.Ai.Bb,j.Ai.Au,j.Ai.Ay,j.Ai.As,j.Ai.Az⟩:qu),j.Bi,j.Ba⟩:qbp),r4,r5,r2⟩:Tl20Work)) 0 h rfl (⟨[.slice p1 j.Af.Av.Aq.length k1,.slice p2 j.Af.Ab.Aa.length k2,.slice p3 j.Af.Ab.Am.length k3,.slice p4 j.Af.Ab.Aj.length k4,.slice p5 j.Af.Ac.length k5,.string j.Ai.Bb,.int .i64 j.Ai.Au,.int .i64 j.Ai.Ay,.int .i64 j.Ai.As,.int .i64 j.Ai.Az,.slice p6 j.Bi.length k6,.slice p7 j.Ba.length k7],[.slice p11 r4.length k11,.slice p12 r5.length k12,.slice p8 r2.Bg.length k8,.slice p9 r2.Ah.length k9,.slice p10 r2.Bc.length k10],rfl,⟨[.slice p1 j.Af.Av.Aq.length k1,.slice p2 j.Af.Ab.Aa.length k2,.slice p3 j.Af.Ab.Am.length k3,.slice p4 j.Af.Ab.Aj.length k4,.slice p5 j.Af.Ac.length k5],[.string j.Ai.Bb,.int .i64 j.Ai.Au,.int .i64 j.Ai.Ay,.int .i64 j.Ai.As,.int .i64 j.Ai.Az,.slice p6 j.Bi.length k6,.slice p7 j.Ba.length k7],rfl,⟨[.slice p1 j.Af.Av.Aq.length k1],[.slice p2 j.Af.Ab.Aa.length k2,.slice p3 j.Af.Ab.Am.length k3,.slice p4 j.Af.Ab.Aj.length k4,.slice p5 j.Af.Ac.length k5],rfl,⟨_,_,rfl,(hg.inS h s1)⟩,⟨[.slice p2 j.Af.Ab.Aa.length k2,.slice p3 j.Af.Ab.Am.length k3,.slice p4 j.Af.Ab.Aj.length k4],[.slice p5 j.Af.Ac.length k5],rfl,⟨[.slice p2 j.Af.Ab.Aa.length k2],[.slice p3 j.Af.Ab.Am.length k3,.slice p4 j.Af.Ab.Aj.length k4],rfl,⟨_,_,rfl,(hg.inS h s2)⟩,⟨[.slice p3 j.Af.Ab.Am.length k3],[.slice p4 j.Af.Ab.Aj.length k4],rfl,⟨_,_,rfl,(hg.inS h s3)⟩,⟨_,_,rfl,(hg.inS h s4)⟩⟩⟩,⟨_,_,rfl,(hg.inS h s5)⟩⟩⟩,⟨[.string j.Ai.Bb,.int .i64 j.Ai.Au,.int .i64 j.Ai.Ay,.int .i64 j.Ai.As,.int .i64 j.Ai.Az],[.slice p6 j.Bi.length k6,.slice p7 j.Ba.length k7],rfl,⟨[.string j.Ai.Bb],[.int .i64 j.Ai.Au,.int .i64 j.Ai.Ay,.int .i64 j.Ai.As,.int .i64 j.Ai.Az],rfl,rfl,⟨[.int .i64 j.Ai.Au],[.int .i64 j.Ai.Ay,.int .i64 j.Ai.As,.int .i64 j.Ai.Az],rfl,rfl,⟨[.int .i64 j.Ai.Ay],[.int .i64 j.Ai.As,.int .i64 j.Ai.Az],rfl,rfl,⟨[.int .i64 j.Ai.As],[.int .i64 j.Ai.Az],rfl,rfl,rfl⟩⟩⟩⟩,⟨[.slice p6 j.Bi.length k6],[.slice p7 j.Ba.length k7],rfl,⟨_,_,rfl,(hg.inS h s6)⟩,⟨_,_,rfl,(hg.inS h s7)⟩⟩⟩⟩,⟨[.slice p11 r4.length k11],[.slice p12 r5.length k12,.slice p8 r2.Bg.length k8,.slice p9 r2.Ah.length k9,.slice p10 r2.Bc.length k10],rfl,(Rg.ownR 2 h rfl),⟨[.slice p12 r5.length k12],[.slice p8 r2.Bg.length k8,.slice p9 r2.Ah.length k9,.slice p10 r2.Bc.length k10],rfl,(Rg.ownR 1 h rfl),(Rg.ownR 4 h rfl)⟩⟩⟩))),⟨_,rfl,rfl⟩⟩
 exact qeN qa (ρ:=((Option Tl20Work) × Int)) (r:=((some (⟨(⟨(⟨(⟨j.Af.Av.Aq⟩:qp),(⟨j.Af.Ab.Aa,j.Af.Ab.Am,j.Af.Ab.Aj⟩:qd),j.Af.Ac⟩:qf),(⟨j.Ai.Bb,j.Ai.Au,j.Ai.Ay,j.Ai.As,j.Ai.Az⟩:qu),j.Bi,j.Ba⟩:qbp),r4,r5,r2⟩:Tl20Work)),0)) [GoT.v (Option Tl20Work) [.pointer (some ⟨bb3,0,none⟩)],GoT.v Int [.int .i64 0]] h ⟨rfl,rfl,trivial⟩ hv5
def qcy (a_w:(Option Tl20Work)) (node:Int):Nat→Int→Option (Flow (qe × Bool) Int)
 | 0,_=>none
 | n+1,i1 =>
  (a_w).bind fun y1 =>
  bif decide (i1<(y1.j.Ba.length:Int)) then
   (idx y1.j.Ba i1).bind fun y2 =>
   bif (y2.Bo==node) then
    (idx y1.j.Ba i1).bind fun y3 =>
    some (.ret (y3,true))
   else
    qcy a_w node n (W64 (i1+1))
  else
   some (.nxt i1)
def qhX (n:Nat) (a_w:(Option Tl20Work)) (node:Int):Option (qe × Bool) :=
 (qcy a_w node n 0).bind fun o=>match o with
 | .ret r=>some r
 | .nxt _ =>
  some ((⟨0,(⟨0,0⟩:qh),(⟨0,0⟩:qh)⟩:qe),false)
theorem qn6 {a_w:(Option Tl20Work)} {node:Int} (ha1:GoT.R w (old w) a_w cs1) {r:(qe × Bool)} (hF:qhX n a_w node=some r):RetV Tryz.prog 57 [GoT.v (Option Tl20Work) cs1,.int .i64 node] w r:=by
 obtain ⟨p1,rfl,s1⟩:=qao ha1
 refine zV 37 Tryz.func57 rfl fun h=>zSR (qm qa h rfl rfl rfl fun w1 bb1 h=>X0 7 rfl ?_)
 obtain ⟨o1,hF,hK1⟩:=qc hF
 refine ql (rL (fun m e w'=>∃ (i1:Int),qcy a_w node m i1=some o1∧e=[(0,.pointer p1),(1,.int .i64 node),(4,.pointer (some ⟨bb1,0,none⟩)),(6,.int .i64 i1)]∧SH w w' [Ch.box bb1 [.int .i64 0,.int .i64 0,.int .i64 0,.int .i64 0,.int .i64 0] 112]) n ⟨_,hF,rfl,h⟩ rfl ?_)
 rintro m1 e1 w2 ⟨i1,hF,rfl,h⟩
 rcases m1 with _|m1
 ·cases hF
 refine X0 5 rfl ?_
 obtain ⟨y1,hy1,hF⟩:=qc hF
 obtain ⟨b1,o_1,cs2,rfl,-,hr1,hc1⟩:=PtR.get s1 hy1
 obtain ⟨p2,k1,p3,k2,p4,k3,p5,k4,p6,k5,p7,k6,p8,k7,p9,k8,p10,k9,p11,k10,p12,k11,p13,k12,rfl,s2,s3,s4,s5,s6,s7,s8,s9,s10,s11,s12,s13⟩:=qkW hr1
 refine zp3 rfl (zc 11 (hc1.below h.below) rfl (X0 3 rfl (qg rfl hF ?_ ?_)))<;>intro hF
 ·refine X0 9 rfl (zc 11 (hc1.below h.below) rfl (zp1 rfl ?_))
  obtain ⟨y2,hy2,hF,he1,b2,_,q1,cs3,hp1,hq1,hr2,hc3⟩:=s8.ix hF
  obtain rfl:=qU hr2
  refine zxe hp1 hq1 he1 rfl (zp1 rfl (zc 0 (hc3.below h.below) rfl (X0 3 rfl (qg rfl hF ?_ ?_))))<;>intro hF
  ·refine X0 6 rfl (zc 11 (hc1.below h.below) rfl (zp1 rfl ?_))
   obtain ⟨y3,hy3,hF,he2,b3,_,q2,cs4,hp2,hq2,hr3,hc5⟩:=s8.ix hF
   obtain rfl:=qU hr3
   refine zxe hp2 hq2 he2 rfl (zc 0 (hc5.below h.below) rfl (zs 0 h rfl fun w3 h=>X0 2 rfl ?_))
   obtain rfl:=qb hF;replace hF:=hK1
   obtain rfl:=qb hF
   exact qZ qa (ρ:=(qe × Bool)) [GoT.v qe (qe9 y3),GoT.v Bool [.bool true]] h ⟨⟨_,_,_,rfl,rfl,h.box 0 rfl,rfl⟩,rfl,trivial⟩ (PV.done h (qak h (qy (S:=fun _=>False) (qbY y3)) (qad (qy (S:=fun _=>False) rfl)) (by rfl)))
  exact X0 7 rfl (rK ⟨_,hF,rfl,h⟩ rfl)
 refine qr rfl ?_
 obtain rfl:=qb hF;replace hF:=hK1
 refine zSR (r_v (qV qa [] [] rfl rfl rfl rfl rfl rfl rfl rfl) rfl (zs 0 h rfl fun w4 h=>X0 2 rfl ?_))
 obtain rfl:=qb hF
 exact qZ qa (ρ:=(qe × Bool)) [GoT.v qe [.int .i64 0,.int .i64 0,.int .i64 0,.int .i64 0,.int .i64 0],GoT.v Bool [.bool false]] h ⟨⟨_,_,_,rfl,rfl,h.box 0 rfl,rfl⟩,rfl,trivial⟩ (PV.done h (qak h (qy (S:=fun _=>False) (qbY (⟨0,(⟨0,0⟩:qh),(⟨0,0⟩:qh)⟩:qe))) (qad (qy (S:=fun _=>False) rfl)) (by rfl)))
def qd0 (a_0:(Option Tl20Work)) (a_2:(List Int)) (r3:Bool):Nat→Int→Int→Option (Flow (Int × Bool) (Int × Int))
 | 0,_,_=>none
 | n+1,i1,i2 =>
  (
   bif decide (i2<(a_2.length:Int)) then some r3 else
   some false).bind fun b1 =>
  bif b1 then
   (idx a_2 i2).bind fun y1 =>
   (
    (a_0).bind fun y4 =>
    (qap n y1 0 (W64 ((y4.links.length:Int)-1))).bind fun r4 =>
    bif (!r4) then some true else
    (idx y4.live y1).bind fun y5 =>
    bif (!y5) then some true else
    (idx y4.links y1).bind fun y6 =>
    some (y6.Bk != i1)).bind fun b3 =>
   bif b3 then some (.ret (0,false)) else
   (a_0).bind fun y2 =>
   (idx y2.links y1).bind fun y3 =>
   qd0 a_0 a_2 r3 n y3.To (W64 (i2+1))
  else
   some (.nxt (i1,i2))
def qky (n:Nat) (a_0:(Option Tl20Work)) (a_1:Int) (a_2:(List Int)):Option (Int × Bool) :=
 (qhX n a_0 a_1).bind fun o=>match o with
  | (_,r3) =>
   (qd0 a_0 a_2 r3 n a_1 0).bind fun o=>match o with
   | .ret r=>some r
   | .nxt (i1,_) =>
    some (i1,r3)
theorem qpK {a_0:(Option Tl20Work)} {a_1:Int} {a_2:(List Int)} (ha1:GoT.R w (old w) a_0 cs1) (ha2:GoT.R w (old w) a_2 cs2) {r:(Int × Bool)} (hF:qky n a_0 a_1 a_2=some r):RetV Tryz.prog 33 [GoT.v (Option Tl20Work) cs1,.int .i64 a_1,GoT.v (List Int) cs2] w r:=by
 obtain ⟨p1,rfl,s1⟩:=qao ha1
 obtain ⟨p2,k1,rfl,s2⟩:=ha2
 refine zV 74 Tryz.func33 rfl fun h=>X0 9 rfl ?_
 obtain ⟨r1,hr1,hF⟩:=qc hF
 obtain ⟨r2,r3⟩:=r1
 refine qbv (r2,r3) h (cB 57 rfl) (qn6 (h.old s1) hr1) rfl rfl rfl rfl fun w1 S1 us1 hv1 hr2=>?_
 obtain ⟨S2,S3,cs3,us2,rfl,hv2,hr3⟩:=hv1.cons hr2
 obtain rfl:=qU (hv2.sh.own 0 rfl)
 obtain ⟨rfl,h⟩:=hv2.lastB hr3
 refine zp3 rfl (qm qa h rfl rfl rfl fun w2 bb1 h=>zs 0 h rfl fun w3 h=>X0 12 rfl ?_)
 obtain ⟨o1,hF,hK1⟩:=qc hF
 refine ql ?_
 replace h:=h.pick [] rfl
 refine rL (fun m e w'=>∃ (i1:Int) (i2:Int),qd0 a_0 a_2 r3 m i1 i2=some o1∧e=[(0,.pointer p1),(2,.slice p2 a_2.length k1),(9,.bool r3),(10,.int .i64 i1),(11,.int .i64 i2)]∧SH w w' []) n ⟨_,_,hF,rfl,h⟩ rfl ?_
 rintro m1 e1 w4 ⟨i1,i2,hF,rfl,h⟩
 rcases m1 with _|m1
 ·cases hF
 refine zSS ?_
 obtain ⟨KF2,hKF2,o3,hF,hK3⟩:=bindE hF
 refine qbk (fun e w'=>∃ (b1:Bool),KF2 b1=some o1∧e=[(0,.pointer p1),(2,.slice p2 a_2.length k1),(9,.bool r3),(10,.int .i64 i1),(11,.int .i64 i2),(26,.bool b1)]∧SH w w' []) ?_ ?_
 ·refine X0 6 rfl (qi (t:=24) hF rfl ?_ ?_)<;>intro hF
  ·refine X0 4 rfl ?_
   obtain rfl:=qb hF
   exact rG ⟨_,hK3,rfl,h⟩ rfl
  refine X0 3 rfl ?_
  obtain rfl:=qb hF
  exact rG ⟨_,hK3,rfl,h⟩ rfl
 rintro e3 w7 ⟨b1,hF,rfl,h⟩
 subst hKF2
 refine qg rfl hF ?_ ?_<;>intro hF
 ·refine X0 7 rfl ?_
  obtain ⟨y1,hy1,hF,he1,b2,_,q1,cs4,hp1,hq1,rfl,hc2⟩:=s2.ix hF
  refine zxe hp1 hq1 he1 rfl (zc 0 (hc2.below h.below) rfl (X0 4 rfl ?_))
  obtain ⟨KF1,hKF1,o2,hF,hK2⟩:=bindE hF
  refine qbk (fun e w'=>∃ (b3:Bool),KF1 b3=some o1∧e=[(0,.pointer p1),(2,.slice p2 a_2.length k1),(9,.bool r3),(11,.int .i64 i2),(12,.int .i64 y1),(63,.bool b3)]∧SH w w' []) ?_ ?_
  ·refine X0 3 rfl ?_
   obtain ⟨y4,hy4,hF⟩:=qc hF
   obtain ⟨b6,o_4,cs7,rfl,-,hr8,hc6⟩:=PtR.get s1 hy4
   obtain ⟨p15,k14,p16,k15,p17,k16,p18,k17,p19,k18,p20,k19,p21,k20,p22,k21,p23,k22,p24,k23,p25,k24,p26,k25,rfl,s15,s16,s17,s18,s19,s20,s21,s22,s23,s24,s25,s26⟩:=qkW hr8
   refine zp2 rfl (zc 12 (hc6.below h.below) rfl (zp2 rfl (zcB h hF qab rfl fun r4 w5 h hF=>zp2 rfl (qi (t:=42) hF rfl ?_ ?_))))<;>intro hF
   ·refine X0 22 rfl ?_
    obtain rfl:=qb hF
    exact rG ⟨_,hK2,rfl,h⟩ rfl
   refine X0 7 rfl (zc 13 (hc6.below h.below) rfl (X0 3 rfl ?_))
   obtain ⟨y5,hy5,hF,he3,b7,_,q3,cs8,hp3,hq3,rfl,hc7⟩:=s23.ix hF
   refine zxe hp3 hq3 he3 rfl (X0 1 rfl (zc 0 (hc7.below h.below) rfl (X0 4 rfl (qi (t:=52) hF rfl ?_ ?_))))<;>intro hF
   ·refine X0 12 rfl ?_
    obtain rfl:=qb hF
    exact rG ⟨_,hK2,rfl,h⟩ rfl
   refine X0 7 rfl (zc 12 (hc6.below h.below) rfl (X0 3 rfl ?_))
   obtain ⟨y6,hy6,hF,he4,b8,_,q4,cs9,hp4,hq4,hr11,hc8⟩:=s22.ix hF
   obtain rfl:=qaw hr11
   refine zxe hp4 hq4 he4 rfl (X0 3 rfl (zc 0 (hc8.below h.below) rfl (X0 6 rfl ?_)))
   obtain rfl:=qb hF
   exact rG ⟨_,hK2,rfl,h⟩ rfl
  rintro e2 w6 ⟨b3,hF,rfl,h⟩
  subst hKF1
  refine qg rfl hF ?_ ?_<;>intro hF
  ·refine X0 5 rfl ?_
   obtain rfl:=qb hF;replace hF:=hK1
   obtain rfl:=qb hF
   exact qZ qa (ρ:=(Int × Bool)) [GoT.v Int [.int .i64 0],GoT.v Bool [.bool false]] h ⟨rfl,rfl,trivial⟩ (PV.done h (qak h (qy (S:=fun _=>False) rfl) (qad (qy (S:=fun _=>False) rfl)) (by rfl)))
  refine X0 3 rfl ?_
  obtain ⟨y2,hy2,hF⟩:=qc hF
  obtain ⟨b4,o_2,cs5,rfl,-,hr6,hc4⟩:=PtR.get s1 hy2
  obtain ⟨p3,k2,p4,k3,p5,k4,p6,k5,p7,k6,p8,k7,p9,k8,p10,k9,p11,k10,p12,k11,p13,k12,p14,k13,rfl,s3,s4,s5,s6,s7,s8,s9,s10,s11,s12,s13,s14⟩:=qkW hr6
  refine zp2 rfl (zc 12 (hc4.below h.below) rfl (zp1 rfl ?_))
  obtain ⟨y3,hy3,hF,he2,b5,_,q2,cs6,hp2,hq2,hr7,hc5⟩:=s10.ix hF
  obtain rfl:=qaw hr7
  exact zxe hp2 hq2 he2 rfl (zp1 rfl (zc 1 (hc5.below h.below) rfl (X0 8 rfl (rK ⟨_,_,hF,rfl,h⟩ rfl))))
 refine qr rfl ?_
 obtain rfl:=qb hF;replace hF:=hK1
 refine X0 7 rfl ?_
 obtain rfl:=qb hF
 exact qZ qa (ρ:=(Int × Bool)) [GoT.v Int [.int .i64 i1],GoT.v Bool [.bool r3]] h ⟨rfl,rfl,trivial⟩ (PV.done h (qak h (qy (S:=fun _=>False) rfl) (qad (qy (S:=fun _=>False) rfl)) (by rfl)))
def qia (n:Nat) (j:qbp) (start:Int) (links:(List Int)):Option Bool :=
 (qfl n j).bind fun o=>match o with
  | (r2,r3) =>
   bif (r3 != 0) then some false else
   (qky n r2 start links).bind fun o=>match o with
    | (_,r6) =>
     some r6
theorem qn0 {j:qbp} {start:Int} {links:(List Int)} (ha1:GoT.R w (old w) j cs1) (ha2:GoT.R w (old w) links cs2) {r:Bool} (hF:qia n j start links=some r):RetV Tryz.prog 12 [GoT.v qbp cs1,.int .i64 start,GoT.v (List Int) cs2] w r:=by
 obtain ⟨p1,k1,p2,k2,p3,k3,p4,k4,p5,k5,p6,k6,p7,k7,rfl,s1,s2,s3,s4,s5,s6,s7⟩:=qdl ha1
 obtain ⟨p8,k8,rfl,s8⟩:=ha2
 refine zV 26 Tryz.func12 rfl fun h=>zSR (qt h rfl rfl fun w1 bb1 h=>X1 5 0 h rfl ?_)
 have hg1:Rg (old w) w (old w) w:=.start (fun _ h=>h)
 obtain ⟨r1,hr1,hF⟩:=qc hF
 obtain ⟨r2,r3⟩:=r1
 refine qhP (r2,r3) hg1 h (cB 32 rfl) (qo5 (hg1.regOld h) (hg1.inR h ha1) hr1) rfl rfl rfl rfl fun w2 us1 B1 hg2 hu1 hz1 hv1=>?_
 have hL1:=h.ext hu1.below
 have s9:=Up.S hg1 h hu1 s8
 have hb1:=h.below.trans (hu1.below.mono h.below.size)
 replace h:=hz1
 obtain ⟨cs3,us2,rfl,hr2,hv2⟩:=qkE hv1
 obtain ⟨p9,rfl,s10⟩:=qao hr2
 obtain ⟨cs4,rfl,hr3⟩:=qjY hv2
 obtain rfl:=hr3
 refine X0 12 rfl (qg rfl hF ?_ ?_)<;>intro hF
 ·refine X0 4 rfl ?_
  replace h:=h.unbase hg2.below (show NoD [] from trivial)
  exact rb h hF rfl
 refine X0 6 rfl ?_
 obtain ⟨r4,hr4,hF⟩:=qc hF
 obtain ⟨r5,r6⟩:=r4
 refine qbv (r5,r6) h (cB 33 rfl) (qpK (h.old (GoT.mono s10 hg2.old)) ⟨_,_,rfl,(h.oldS (s9.mono hg2.old))⟩ hr4) rfl rfl rfl rfl fun w3 S1 us3 hv3 hr5=>?_
 obtain ⟨S2,us4,rfl,hv4,hr6⟩:=hv3.consI hr5
 obtain ⟨rfl,h⟩:=hv4.lastB hr6
 refine X0 11 rfl ?_
 replace h:=h.unbase hg2.below (show NoD [] from trivial)
 exact rb h hF rfl
def qiu (n:Nat) (v:(Option Tview)) (link:Int):Option Bool :=
 (v).bind fun y1 =>
 (qcQ n y1.links).bind fun r1 =>
 (qaF n link 0 (W64 (r1-1))).bind fun r2 =>
 some r2
theorem qm2 {v:(Option Tview)} {link:Int} (ha1:GoT.R w (old w) v cs1) {r:Bool} (hF:qiu n v link=some r):RetV Tryz.prog 159 [GoT.v (Option Tview) cs1,.int .i64 link] w r:=by
 obtain ⟨p1,rfl,s1⟩:=qao ha1
 refine zV 13 Tryz.func159 rfl fun h=>X0 8 rfl ?_
 obtain ⟨y1,hy1,hF⟩:=qc hF
 obtain ⟨b1,o_1,cs2,rfl,-,hr1,hc1⟩:=PtR.get s1 hy1
 obtain ⟨p2,k1,p3,k2,p4,k3,p5,k4,p6,k5,p7,k6,p8,k7,p9,k8,p10,k9,p11,k10,rfl,s2,s3,s4,s5,s6,s7,s8,s9,s10,s11⟩:=qbE hr1
 exact zp2 rfl (zc 6 (hc1.below h.below) rfl (zcI h hF (qg5 ⟨_,_,rfl,(h.oldS s8)⟩) rfl fun r1 w1 h hF=>zp1 rfl (zcB h hF qat rfl fun r2 w2 h hF=>X0 2 rfl (rb h hF rfl))))
def qbT (v:(Option Tview)) (links:(List Int)):Nat→Int→Option (Flow Bool Int)
 | 0,_=>none
 | n+1,i1 =>
  bif decide (i1<(links.length:Int)) then
   (idx links i1).bind fun y1 =>
   (qiu n v y1).bind fun r1 =>
   bif (!r1) then some (.ret false) else
   bif decide (i1 > 0) then
    (v).bind fun y2 =>
    (idx links (W64 (i1-1))).bind fun y3 =>
    (idx y2.links y3).bind fun y4 =>
    (idx y2.links y1).bind fun y5 =>
    bif (y4.To != y5.Bk) then some (.ret false) else
    qbT v links n (W64 (i1+1))
   else
    qbT v links n (W64 (i1+1))
  else
   some (.nxt i1)
def qgO (n:Nat) (v:(Option Tview)) (links:(List Int)):Option Bool :=
 (qbT v links n 0).bind fun o=>match o with
 | .ret r=>some r
 | .nxt _ =>
  some true
theorem qm4 {v:(Option Tview)} {links:(List Int)} (ha1:GoT.R w (old w) v cs1) (ha2:GoT.R w (old w) links cs2) {r:Bool} (hF:qgO n v links=some r):RetV Tryz.prog 110 [GoT.v (Option Tview) cs1,GoT.v (List Int) cs2] w r:=by
 obtain ⟨p1,rfl,s1⟩:=qao ha1
 obtain ⟨p2,k1,rfl,s2⟩:=ha2
 refine zV 46 Tryz.func110 rfl fun h=>X0 11 rfl ?_
 obtain ⟨o1,hF,hK1⟩:=qc hF
 refine ql (rL (fun m e w'=>∃ (i1:Int),qbT v links m i1=some o1∧e=[(0,.pointer p1),(1,.slice p2 links.length k1),(7,.slice p2 links.length k1),(8,.int .i64 (links.length:Int)),(9,.int .i64 i1)]∧SH w w' []) n ⟨_,hF,rfl,h⟩ rfl ?_)
 rintro m1 e1 w1 ⟨i1,hF,rfl,h⟩
 rcases m1 with _|m1
 ·cases hF
 refine X0 5 rfl (qg rfl hF ?_ ?_)<;>intro hF
 ·refine X0 6 rfl ?_
  obtain ⟨y1,hy1,hF,he1,b1,_,q1,cs3,hp1,hq1,rfl,hc2⟩:=s2.ix hF
  refine zxe hp1 hq1 he1 rfl (zc 0 (hc2.below h.below) rfl (X0 4 rfl (rD (zd2 rfl ?_))))
  obtain ⟨r1,hr2,hF⟩:=qc hF
  refine qa3 r1 (vsB _) (cB 159 rfl) (fun _ hb=>qm2 ((h.ext hb).old s1) hr2) rfl rfl rfl rfl (zd2 rfl (qaI (t:=18) hF rfl ?_ ?_))<;>intro hF
  ·refine Y0 26 rfl (dN h fun w2 h=>qbS rfl rfl (X0 4 rfl ?_))
   obtain rfl:=qb hF;replace hF:=hK1
   exact rb h hF rfl
  refine Y0 6 rfl (qaI (t:=21) hF rfl ?_ ?_)<;>intro hF
  ·refine Y0 3 rfl ?_
   obtain ⟨y2,hy2,hF⟩:=qc hF
   obtain ⟨b2,o_2,cs4,rfl,-,hr3,hc3⟩:=PtR.get s1 hy2
   obtain ⟨p3,k2,p4,k3,p5,k4,p6,k5,p7,k6,p8,k7,p9,k8,p10,k9,p11,k10,p12,k11,rfl,s3,s4,s5,s6,s7,s8,s9,s10,s11,s12⟩:=qbE hr3
   refine Y0 4 rfl (zdc 6 (hc3.below h.below) rfl (Y0 7 rfl ?_))
   obtain ⟨y3,hy3,hF,he2,b3,_,q2,cs5,hp2,hq2,rfl,hc4⟩:=s2.ix hF
   refine zdxe hp2 hq2 he2 rfl (Y0 1 rfl (zdc 0 (hc4.below h.below) rfl (Y0 1 rfl ?_)))
   obtain ⟨y4,hy4,hF,he3,b4,_,q3,cs6,hp3,hq3,hr5,hc5⟩:=s9.ix hF
   obtain rfl:=qaw hr5
   refine zdxe hp3 hq3 he3 rfl (Y0 3 rfl (zdc 1 (hc5.below h.below) rfl (Y0 7 rfl (zdc 6 (hc3.below h.below) rfl (Y0 3 rfl ?_)))))
   obtain ⟨y5,hy5,hF,he4,b5,_,q4,cs7,hp4,hq4,hr6,hc6⟩:=s9.ix hF
   obtain rfl:=qaw hr6
   refine zdxe hp4 hq4 he4 rfl (Y0 3 rfl (zdc 0 (hc6.below h.below) rfl (Y0 5 rfl (dN h fun w3 h=>qg rfl hF ?_ ?_))))<;>intro hF
   ·refine X0 4 rfl ?_
    obtain rfl:=qb hF;replace hF:=hK1
    exact rb h hF rfl
   exact X0 6 rfl (rK ⟨_,hF,rfl,h⟩ rfl)
  exact Y0 24 rfl (dN h fun w4 h=>qbR rfl rfl (X0 6 rfl (rK ⟨_,hF,rfl,h⟩ rfl)))
 refine qr rfl ?_
 obtain rfl:=qb hF;replace hF:=hK1
 exact X0 4 rfl (rb h hF rfl)
def qeA (_:Nat) (link:Int) (v0:(Option Twork)):Option Bool :=
 (v0).bind fun y1 =>
 (y1.graph).bind fun y2 =>
 (idx y2.live link).bind fun y3 =>
 some (!y3)
theorem qk1 {link:Int} {v0:(Option Twork)} {p1:Option Addr} (ha1:GoT.R w (old w) (some v0) [.pointer p1]) {r:Bool} (hF:qeA n link v0=some r):RetV Tryz.prog 112 [.int .i64 link,.pointer p1] w r:=by
 obtain ⟨b1,o_1,cs1,rfl,-,hr1,hc1⟩:=PtR.get ha1 rfl
 obtain ⟨p2,rfl,s1⟩:=qao hr1
 refine zV 15 Tryz.func112 rfl fun h=>X0 6 rfl (zc 0 (hc1.below h.below) rfl ?_)
 obtain ⟨y1,hy1,hF⟩:=qc hF
 obtain ⟨b2,o_2,cs2,rfl,-,hr2,hc2⟩:=PtR.get s1 hy1
 obtain ⟨p3,p4,k1,p5,k2,p6,k3,p7,k4,p8,k5,p9,k6,p10,k7,p11,k8,p12,k9,p13,k10,p14,k11,rfl,s2,s3,s4,s5,s6,s7,s8,s9,s10,s11,s12,s13⟩:=qnf hr2
 refine zp2 rfl (zc 0 (hc2.below h.below) rfl ?_)
 obtain ⟨y2,hy2,hF⟩:=qc hF
 obtain ⟨b3,o_3,cs3,rfl,-,hr3,hc3⟩:=PtR.get s2 hy2
 obtain ⟨p15,p16,k12,rfl,s14,s15⟩:=qdM hr3
 refine zp2 rfl (zc 1 (hc3.below h.below) rfl (zp1 rfl ?_))
 obtain ⟨y3,hy3,hF,he1,b4,_,q1,cs4,hp1,hq1,rfl,hc4⟩:=s15.ix hF
 exact zxe hp1 hq1 he1 rfl (zc 0 (hc4.below h.below) rfl (X0 3 rfl (rb h hF rfl)))
def qR (s:(List Int)) (f_0:(Option Twork)):Nat→Int→Option (Flow Int Int)
 | 0,_=>none
 | n+1,i1 =>
  bif decide (i1<(s.length:Int)) then
   (idx s i1).bind fun y1 =>
   (qeA n y1 f_0).bind fun r1 =>
   bif r1 then some (.ret i1) else
   qR s f_0 n (W64 (i1+1))
  else
   some (.nxt i1)
def qaD (n:Nat) (s:(List Int)) (f_0:(Option Twork)):Option Int :=
 (qR s f_0 n 0).bind fun o=>match o with
 | .ret r=>some r
 | .nxt _ =>
  some (-1)
theorem qeM {s:(List Int)} {f_0:(Option Twork)} (ha1:GoT.R w (old w) s cs1) {p2:Option Addr} (ha2:GoT.R w (old w) (some f_0) [.pointer p2]) {r:Int} (hF:qaD n s f_0=some r):RetV Tryz.prog 160 [GoT.v (List Int) cs1,.func (.func 112) #[] #[.pointer p2]] w r:=by
 obtain ⟨p1,k1,rfl,s1⟩:=ha1
 obtain ⟨b1,o_1,cs2,rfl,-,hr1,hc1⟩:=PtR.get ha2 rfl
 obtain ⟨p3,rfl,s2⟩:=qao hr1
 refine zV 19 Tryz.func160 rfl fun h=>X0 11 rfl ?_
 obtain ⟨o1,hF,hK1⟩:=qc hF
 refine ql (rL (fun m e w'=>∃ (i1:Int),qR s f_0 m i1=some o1∧e=[(0,.slice p1 s.length k1),(1,.func (.func 112) #[] #[.pointer (some ⟨b1,o_1,none⟩)]),(7,.int .i64 (s.length:Int)),(8,.int .i64 i1)]∧SH w w' []) n ⟨_,hF,rfl,h⟩ rfl ?_)
 rintro m1 e1 w1 ⟨i1,hF,rfl,h⟩
 rcases m1 with _|m1
 ·cases hF
 refine X0 5 rfl (qg rfl hF ?_ ?_)<;>intro hF
 ·refine X0 13 rfl ?_
  obtain ⟨y1,hy1,hF,he1,b2,_,q1,cs3,hp1,hq1,rfl,hc3⟩:=s1.ix hF
  refine zxe hp1 hq1 he1 rfl (zc 0 (hc3.below h.below) rfl (zcB h hF (qk1 (h.old ha2)) rfl fun r1 w2 h hF=>qcr (qg rfl hF ?_ ?_)))<;>intro hF
  ·refine X0 5 rfl ?_
   obtain rfl:=qb hF;replace hF:=hK1
   exact ri h hF rfl
  exact X0 6 rfl (rK ⟨_,hF,rfl,h⟩ rfl)
 refine qr rfl ?_
 obtain rfl:=qb hF;replace hF:=hK1
 exact X0 4 rfl (ri h hF rfl)
def qP (n:Nat) (s:(List Int)) (f_0:(Option Twork)):Option Bool :=
 (qaD n s f_0).bind fun r1 =>
 some (decide (r1 ≥ 0))
theorem qbL {s:(List Int)} {f_0:(Option Twork)} (ha1:GoT.R w (old w) s cs1) {p2:Option Addr} (ha2:GoT.R w (old w) (some f_0) [.pointer p2]) {r:Bool} (hF:qP n s f_0=some r):RetV Tryz.prog 111 [GoT.v (List Int) cs1,.func (.func 112) #[] #[.pointer p2]] w r:=by
 obtain ⟨p1,k1,rfl,s1⟩:=ha1
 obtain ⟨b1,o_1,cs2,rfl,-,hr1,hc1⟩:=PtR.get ha2 rfl
 obtain ⟨p3,rfl,s2⟩:=qao hr1
 exact zV 9 Tryz.func111 rfl fun h=>X0 8 rfl (zcI h hF (qeM ⟨_,_,rfl,(h.oldS s1)⟩ (h.old ha2)) rfl fun r1 w1 h hF=>X0 3 rfl (rb h hF rfl))
def qfu (n:Nat) (a_w:(Option Twork)) (start:Int) (links:(List Int)):Option Bool :=
 (a_w).bind fun y1 =>
 (qfT n y1.job.Ba start).bind fun o=>match o with
  | (_,r3) =>
   (
    bif (!r3) then some true else
    (y1.graph).bind fun y6 =>
    (qgO n y6.view links).bind fun r6 =>
    some (!r6)).bind fun b2 =>
   bif b2 then some false else
   bif decide ((links.length:Int) > 0) then
    (y1.graph).bind fun y2 =>
    (y2.view).bind fun y3 =>
    (idx links 0).bind fun y4 =>
    (idx y3.links y4).bind fun y5 =>
    bif (y5.Bk != start) then some false else
    (qP n links a_w).bind fun r4 =>
    some (!r4)
   else
    (qP n links a_w).bind fun r5 =>
    some (!r5)
theorem ql3 {a_w:(Option Twork)} {start:Int} {links:(List Int)} (ha1:GoT.R w (old w) a_w cs1) (ha2:GoT.R w (old w) links cs2) {r:Bool} (hF:qfu n a_w start links=some r):RetV Tryz.prog 59 [GoT.v (Option Twork) cs1,.int .i64 start,GoT.v (List Int) cs2] w r:=by
 obtain ⟨p1,rfl,s1⟩:=qao ha1
 obtain ⟨p2,k1,rfl,s2⟩:=ha2
 refine zV 60 Tryz.func59 rfl fun h=>zSR (qt h rfl rfl fun w1 bb1 h=>X1 6 0 h rfl ?_)
 obtain ⟨y1,hy1,hF⟩:=qc hF
 obtain ⟨b1,o_1,cs3,rfl,-,hr1,hc1⟩:=PtR.get s1 hy1
 obtain ⟨p3,p4,k2,p5,k3,p6,k4,p7,k5,p8,k6,p9,k7,p10,k8,p11,k9,p12,k10,p13,k11,p14,k12,rfl,s3,s4,s5,s6,s7,s8,s9,s10,s11,s12,s13,s14⟩:=qnf hr1
 refine zp3 rfl (zc 12 (hc1.below h.below) rfl (zp1 rfl ?_))
 obtain ⟨r1,hr2,hF⟩:=qc hF
 obtain ⟨r2,r3⟩:=r1
 refine qbv (r2,r3) h (cB 65 rfl) (qlb ⟨_,_,rfl,(h.oldS s10)⟩ hr2) rfl rfl rfl rfl fun w2 S1 us1 hv1 hr3=>?_
 obtain ⟨S2,S3,cs4,us2,rfl,hv2,hr4⟩:=hv1.cons hr3
 obtain rfl:=qU (hv2.sh.own 0 rfl)
 obtain ⟨rfl,h⟩:=hv2.lastB hr4
 refine zp3 rfl (qm qa h rfl rfl rfl fun w3 bb2 h=>zs 0 h rfl fun w4 h=>X0 3 rfl ?_)
 obtain ⟨KF1,hKF1,o1,hF,hK1⟩:=bindE hF
 refine qbk (fun e w'=>∃ (b2:Bool),KF1 b2=some r∧e=[(1,.int .i64 start),(2,.slice p2 links.length k1),(3,.pointer (some ⟨bb1,0,none⟩)),(32,.bool b2)]∧SH w w' [Ch.box bb1 [.pointer (some ⟨b1,o_1,none⟩)] 79]) ?_ ?_
 ·refine X0 4 rfl (qi (t:=21) hF rfl ?_ ?_)<;>intro hF
  ·refine X0 12 rfl ?_
   replace h:=h.pick [2] rfl
   obtain rfl:=qb hF
   exact rG ⟨_,hK1,rfl,h⟩ rfl
  refine X1 7 2 h rfl (zc 0 (hc1.below h.below) rfl (X0 1 rfl ?_))
  obtain ⟨y6,hy6,hF⟩:=qc hF
  obtain ⟨b7,o_6,cs9,rfl,-,hr12,hc8⟩:=PtR.get s3 hy6
  obtain ⟨p27,p28,k24,rfl,s27,s28⟩:=qdM hr12
  refine X0 4 rfl (zc 0 (hc8.below h.below) rfl (X0 3 rfl (zcB h hF (qm4 (h.old s27) ⟨_,_,rfl,(h.oldS s2)⟩) rfl fun r6 w9 h hF=>X0 4 rfl ?_)))
  replace h:=h.pick [2] rfl
  obtain rfl:=qb hF
  exact rG ⟨_,hK1,rfl,h⟩ rfl
 rintro e1 w10 ⟨b2,hF,rfl,h⟩
 subst hKF1
 refine qg rfl hF ?_ ?_<;>intro hF
 ·exact X0 4 rfl (rb h hF rfl)
 refine zKSS (rD (zd4 rfl (qaI (t:=36) hF rfl ?_ ?_)))<;>intro hF
 ·refine Y1 2 0 h rfl ?_
  refine Y0 5 rfl (zdc 0 (hc1.below h.below) rfl (Y0 1 rfl ?_))
  obtain ⟨y2,hy2,hF⟩:=qc hF
  obtain ⟨b3,o_2,cs5,rfl,-,hr6,hc3⟩:=PtR.get s3 hy2
  obtain ⟨p15,p16,k13,rfl,s15,s16⟩:=qdM hr6
  refine Y0 4 rfl (zdc 0 (hc3.below h.below) rfl (Y0 1 rfl ?_))
  obtain ⟨y3,hy3,hF⟩:=qc hF
  obtain ⟨b4,o_3,cs6,rfl,-,hr7,hc4⟩:=PtR.get s15 hy3
  obtain ⟨p17,k14,p18,k15,p19,k16,p20,k17,p21,k18,p22,k19,p23,k20,p24,k21,p25,k22,p26,k23,rfl,s17,s18,s19,s20,s21,s22,s23,s24,s25,s26⟩:=qbE hr7
  refine Y0 4 rfl (zdc 6 (hc4.below h.below) rfl (Y0 3 rfl ?_))
  obtain ⟨y4,hy4,hF,he1,b5,_,q1,cs7,hp1,hq1,rfl,hc5⟩:=s2.ix hF
  refine zdxe hp1 hq1 he1 rfl (Y0 1 rfl (zdc 0 (hc5.below h.below) rfl (Y0 1 rfl ?_)))
  obtain ⟨y5,hy5,hF,he2,b6,_,q2,cs8,hp2,hq2,hr9,hc6⟩:=s23.ix hF
  obtain rfl:=qaw hr9
  refine zdxe hp2 hq2 he2 rfl (Y0 3 rfl (zdc 0 (hc6.below h.below) rfl (Y0 5 rfl (dN h fun w5 h=>qg rfl hF ?_ ?_))))<;>intro hF
  ·exact X0 4 rfl (rb h hF rfl)
  exact X0 5 rfl (zcB h hF (qbL ⟨_,_,rfl,(h.oldS s2)⟩ (qgo (x:=a_w) 0 h rfl (h.old s1))) rfl fun r4 w6 h hF=>X0 3 rfl (rb h hF rfl))
 exact Y0 19 rfl (dN h fun w7 h=>qbR rfl rfl (X0 5 rfl (zcB h hF (qbL ⟨_,_,rfl,(h.oldS s2)⟩ (qgo (x:=a_w) 0 h rfl (h.old s1))) rfl fun r5 w8 h hF=>X0 3 rfl (rb h hF rfl))))
def qgX (n:Nat) (j:qbp) (mode:Int) (start:Int) (links:(List Int)):Option ((Option Twork) × Int) :=
 (qhN n j mode []).bind fun o=>match o with
  | (r2,r3) =>
   bif (r3==0) then
    (qfu n r2 start links).bind fun r4 =>
    bif (!r4) then some (none,5) else
    some (r2,r3)
   else
    some (r2,r3)
theorem qoJ {A:Nat→Prop} (hA:∀ b,A b→old w b) {j:qbp} {mode:Int} {start:Int} {links:(List Int)} (ha1:GoT.R w A j cs1) (ha2:GoT.R w A links cs2) {r:((Option Twork) × Int)} (hF:qgX n j mode start links=some r):RetG Tryz.prog 34 [GoT.v qbp cs1,.int .i64 mode,.int .i64 start,GoT.v (List Int) cs2] w A r:=by
 obtain ⟨p1,k1,p2,k2,p3,k3,p4,k4,p5,k5,p6,k6,p7,k7,rfl,s1,s2,s3,s4,s5,s6,s7⟩:=qdl ha1
 obtain ⟨p8,k8,rfl,s8⟩:=ha2
 have hg:=Rg.start hA
 refine qew Tryz.func34 rfl (m:=29) rfl rfl (fun h=>?_)
 refine zSR (qt h rfl rfl fun w1 bb1 h=>X1 7 0 h rfl ?_)
 obtain ⟨r1,hr1,hF⟩:=qc hF
 obtain ⟨r2,r3⟩:=r1
 refine qhP (r2,r3) hg h (cB 37 rfl) (qpp (hg.regOld h) (hg.inR h ha1) ⟨_,_,rfl,qmI⟩ hr1) rfl rfl rfl rfl fun w2 us1 B1 hg1 hu1 hz1 hv1=>?_
 have hL1:=h.ext hu1.below
 have s9:=Up.S hg h hu1 s8
 have hb1:=h.below.trans (hu1.below.mono h.below.size)
 replace h:=hz1
 obtain ⟨cs3,us2,rfl,hr2,hv2⟩:=qkE hv1
 obtain ⟨p9,rfl,s10⟩:=qao hr2
 obtain ⟨cs4,rfl,hr3⟩:=qjY hv2
 obtain rfl:=hr3
 refine X0 12 rfl (qi (t:=20) hF rfl ?_ ?_)<;>intro hF
 ·refine X0 7 rfl (zcB h hF (ql3 (h.old (GoT.mono s10 hg1.old)) ⟨_,_,rfl,(h.oldS (s9.mono hg1.old))⟩) rfl fun r4 w3 h hF=>X0 4 rfl (qg rfl hF ?_ ?_))<;>intro hF
  ·refine X0 5 rfl ?_
   obtain rfl:=qb hF
   have hv3:GoRs.Rs (ρ:=((Option Twork) × Int)) h.wc (reg A w h.wc) (none,5) [GoT.v (Option Twork) [.pointer none],GoT.v Int [.int .i64 5]]:=⟨_,_,rfl,rfl,⟨_,rfl,rfl⟩⟩
   exact qeN qa (ρ:=((Option Twork) × Int)) (r:=(none,5)) [GoT.v (Option Twork) [.pointer none],GoT.v Int [.int .i64 5]] (h.unbase hg1.below (show NoD [] from trivial)) ⟨rfl,rfl,trivial⟩ hv3
  refine X0 8 rfl ?_
  obtain rfl:=qb hF
  have hv4:GoRs.Rs (ρ:=((Option Twork) × Int)) h.wc (reg A w h.wc) (r2,r3) [GoT.v (Option Twork) [.pointer p9],GoT.v Int [.int .i64 r3]]:=⟨_,_,rfl,(hg1.outR h (hg1.inR h s10)),⟨_,rfl,rfl⟩⟩
  exact qeN qa (ρ:=((Option Twork) × Int)) (r:=(r2,r3)) [GoT.v (Option Twork) [.pointer p9],GoT.v Int [.int .i64 r3]] (h.unbase hg1.below (show NoD [] from trivial)) ⟨rfl,rfl,trivial⟩ hv4
 refine X0 7 rfl (qbR rfl rfl (X0 8 rfl ?_))
 obtain rfl:=qb hF
 have hv5:GoRs.Rs (ρ:=((Option Twork) × Int)) h.wc (reg A w h.wc) (r2,r3) [GoT.v (Option Twork) [.pointer p9],GoT.v Int [.int .i64 r3]]:=⟨_,_,rfl,(hg1.outR h (hg1.inR h s10)),⟨_,rfl,rfl⟩⟩
 exact qeN qa (ρ:=((Option Twork) × Int)) (r:=(r2,r3)) [GoT.v (Option Twork) [.pointer p9],GoT.v Int [.int .i64 r3]] (h.unbase hg1.below (show NoD [] from trivial)) ⟨rfl,rfl,trivial⟩ hv5
def qhY (n:Nat) (j:qbp) (start:Int) (links:(List Int)):Option Bool :=
 (qgX n j 0 start links).bind fun o=>match o with
  | (_,r3) =>
   some (r3==0)
theorem qnU {j:qbp} {start:Int} {links:(List Int)} (ha1:GoT.R w (old w) j cs1) (ha2:GoT.R w (old w) links cs2) {r:Bool} (hF:qhY n j start links=some r):RetV Tryz.prog 14 [GoT.v qbp cs1,.int .i64 start,GoT.v (List Int) cs2] w r:=by
 obtain ⟨p1,k1,p2,k2,p3,k3,p4,k4,p5,k5,p6,k6,p7,k7,rfl,s1,s2,s3,s4,s5,s6,s7⟩:=qdl ha1
 obtain ⟨p8,k8,rfl,s8⟩:=ha2
 refine zV 18 Tryz.func14 rfl fun h=>zSR (qt h rfl rfl fun w1 bb1 h=>X1 7 0 h rfl ?_)
 have hg1:Rg (old w) w (old w) w:=.start (fun _ h=>h)
 obtain ⟨r1,hr1,hF⟩:=qc hF
 obtain ⟨r2,r3⟩:=r1
 refine qhP (r2,r3) hg1 h (cB 34 rfl) (qoJ (hg1.regOld h) (hg1.inR h ha1) ⟨_,_,rfl,(hg1.inS h s8)⟩ hr1) rfl rfl rfl rfl fun w2 us1 B1 hg2 hu1 hz1 hv1=>?_
 have hL1:=h.ext hu1.below
 have hb1:=h.below.trans (hu1.below.mono h.below.size)
 replace h:=hz1
 obtain ⟨cs3,us2,rfl,hr2,hv2⟩:=qkE hv1
 obtain ⟨p9,rfl,s9⟩:=qao hr2
 obtain ⟨cs4,rfl,hr3⟩:=qjY hv2
 obtain rfl:=hr3
 refine X0 12 rfl ?_
 replace h:=h.unbase hg2.below (show NoD [] from trivial)
 exact rb h hF rfl
def qlx (n:Nat) (a:qbp) (left:Int):Option Int :=
 (qjA n (⟨(⟨a.Af.Av.Aq⟩:qp),(⟨a.Af.Ab.Aa,a.Af.Ab.Am,a.Af.Ab.Aj⟩:qd),a.Af.Ac⟩:qf) left).bind fun r1 =>
 bif decide (r1<0) then some (-1) else
 (qiD n (⟨a.Ai.Bb,a.Ai.Au,a.Ai.Ay,a.Ai.As,a.Ai.Az⟩:qu) r1).bind fun r2 =>
 bif decide (r2<0) then some (-1) else
 (qbK n a.Bi r2).bind fun r3 =>
 bif decide (r3<0) then some (-1) else
 (qkd n a.Ba r3).bind fun r4 =>
 bif decide (r4<0) then some (-1) else
 some r4
theorem qqD {a:qbp} {left:Int} (ha1:GoT.R w (old w) a cs1) {r:Int} (hF:qlx n a left=some r):RetV Tryz.prog 7 [GoT.v qbp cs1,.int .i64 left] w r:=by
 obtain ⟨p1,k1,p2,k2,p3,k3,p4,k4,p5,k5,p6,k6,p7,k7,rfl,s1,s2,s3,s4,s5,s6,s7⟩:=qdl ha1
 refine zV 30 Tryz.func7 rfl fun h=>zSR (qt h rfl rfl fun w1 bb1 h=>X1 7 0 h rfl (zcI h hF (qpc (qhs _ (h.oldS s1) (h.oldS s2) (h.oldS s3) (h.oldS s4) (h.oldS s5))) rfl fun r1 w2 h hF=>X0 8 rfl (qg rfl hF ?_ ?_)))<;>intro hF
 ·exact X0 4 rfl (ri h hF rfl)
 refine X1 6 0 h rfl (zcI h hF (qoh (qeH _)) rfl fun r2 w3 h hF=>X0 8 rfl (qg rfl hF ?_ ?_))<;>intro hF
 ·exact X0 4 rfl (ri h hF rfl)
 refine X1 6 0 h rfl (zcI h hF (qbs ⟨_,_,rfl,(h.oldS s6)⟩) rfl fun r3 w4 h hF=>X0 8 rfl (qg rfl hF ?_ ?_))<;>intro hF
 ·exact X0 4 rfl (ri h hF rfl)
 refine X1 6 0 h rfl (zcI h hF (qnI ⟨_,_,rfl,(h.oldS s7)⟩) rfl fun r4 w5 h hF=>X0 8 rfl (qg rfl hF ?_ ?_))<;>intro hF
 ·exact X0 4 rfl (ri h hF rfl)
 exact X0 6 rfl (ri h hF rfl)
def qiv (n:Nat) (a:qbp):Option qbp :=
 (qjp n (⟨(⟨a.Af.Av.Aq⟩:qp),(⟨a.Af.Ab.Aa,a.Af.Ab.Am,a.Af.Ab.Aj⟩:qd),a.Af.Ac⟩:qf)).bind fun r1 =>
 (qiH n (⟨a.Ai.Bb,a.Ai.Au,a.Ai.Ay,a.Ai.As,a.Ai.Az⟩:qu)).bind fun r2 =>
 (qaN n a.Bi).bind fun r3 =>
 (qhV n a.Ba).bind fun r4 =>
 some (⟨r1,(⟨r2.Bb,r2.Au,r2.Ay,r2.As,r2.Az⟩:qu),r3,r4⟩:qbp)
theorem qkS {a:qbp} (ha1:GoT.R w (old w) a cs1) {r:qbp} (hF:qiv n a=some r):RetV Tryz.prog 9 [GoT.v qbp cs1] w r:=by
 obtain ⟨p1,k1,p2,k2,p3,k3,p4,k4,p5,k5,p6,k6,p7,k7,rfl,s1,s2,s3,s4,s5,s6,s7⟩:=qdl ha1
 refine zV 21 Tryz.func9 rfl fun h=>zSR (qt h rfl rfl fun w1 bb1 h=>qm qa h rfl rfl rfl fun w2 bb2 h=>zNSR (qm qa h rfl rfl rfl fun w3 bb3 h=>X1 5 2 h rfl (zcO h hF (qoW (qhs _ (h.oldS s1) (h.oldS s2) (h.oldS s3) (h.oldS s4) (h.oldS s5))) rfl fun r1 w4 S1 cs2 h hF=>?_)))
 obtain ⟨p8,k8,p9,k9,p10,k10,p11,k11,p12,k12,rfl,-,-,-,-,-⟩:=qX (h.own 0 rfl)
 refine zp1 rfl (zs 1 h rfl fun w5 h=>X1 5 3 h rfl (zcO h hF (qoL (qeH _)) rfl fun r2 w6 S2 cs3 h hF=>?_))
 obtain rfl:=qaA (h.own 0 rfl)
 refine zp1 rfl (zs 2 h rfl fun w7 h=>X1 5 4 h rfl (zcL h hF (qaH ⟨_,_,rfl,(h.oldS s6)⟩) rfl fun r3 w8 S3 p13 k13 h hF=>zp1 rfl (zs 3 h rfl fun w9 h=>X1 5 5 h rfl (zcL h hF (qnJ ⟨_,_,rfl,(h.oldS s7)⟩) rfl fun r4 w10 S4 p14 k14 h hF=>zp1 rfl (zs 4 h rfl fun w11 h=>X1 4 4 h rfl (zs 5 h rfl fun w12 h=>qcr ?_))))))
 obtain rfl:=qb hF
 exact qZ qa (ρ:=qbp) [GoT.v qbp [.slice p8 r1.Av.Aq.length k8,.slice p9 r1.Ab.Aa.length k9,.slice p10 r1.Ab.Am.length k10,.slice p11 r1.Ab.Aj.length k11,.slice p12 r1.Ac.length k12,.string r2.Bb,.int .i64 r2.Au,.int .i64 r2.Ay,.int .i64 r2.As,.int .i64 r2.Az,.slice p13 r3.length k13,.slice p14 r4.length k14]] h ⟨⟨_,_,_,rfl,rfl,h.box 5 rfl,rfl⟩,trivial⟩ (PV.done h (qad (qwk (⟨r1,(⟨r2.Bb,r2.Au,r2.Ay,r2.As,r2.Az⟩:qu),r3,r4⟩:qbp) h (qay 3 h rfl) (qy (S:=fun _=>False) (qeH (⟨r2.Bb,r2.Au,r2.Ay,r2.As,r2.Az⟩:qu))) (qay 1 h rfl) (qay 0 h rfl) (by rfl) (by rfl) (by rfl))))
def qlJ (n:Nat) (a:qbp) (b:qbp):Option Bool :=
 (qjt n (⟨(⟨a.Af.Av.Aq⟩:qp),(⟨a.Af.Ab.Aa,a.Af.Ab.Am,a.Af.Ab.Aj⟩:qd),a.Af.Ac⟩:qf) (⟨(⟨b.Af.Av.Aq⟩:qp),(⟨b.Af.Ab.Aa,b.Af.Ab.Am,b.Af.Ab.Aj⟩:qd),b.Af.Ac⟩:qf)).bind fun r1 =>
 bif (!r1) then some false else
 (qiB n (⟨a.Ai.Bb,a.Ai.Au,a.Ai.Ay,a.Ai.As,a.Ai.Az⟩:qu) (⟨b.Ai.Bb,b.Ai.Au,b.Ai.Ay,b.Ai.As,b.Ai.Az⟩:qu)).bind fun r2 =>
 bif (!r2) then some false else
 (qbf n a.Bi b.Bi).bind fun r3 =>
 bif (!r3) then some false else
 (qhE n a.Ba b.Ba).bind fun r4 =>
 bif (!r4) then some false else
 some true
theorem qqC {a:qbp} {b:qbp} (ha1:GoT.R w (old w) a cs1) (ha2:GoT.R w (old w) b cs2) {r:Bool} (hF:qlJ n a b=some r):RetV Tryz.prog 11 [GoT.v qbp cs1,GoT.v qbp cs2] w r:=by
 obtain ⟨p1,k1,p2,k2,p3,k3,p4,k4,p5,k5,p6,k6,p7,k7,rfl,s1,s2,s3,s4,s5,s6,s7⟩:=qdl ha1
 obtain ⟨p8,k8,p9,k9,p10,k10,p11,k11,p12,k12,p13,k13,p14,k14,rfl,s8,s9,s10,s11,s12,s13,s14⟩:=qdl ha2
 refine zV 29 Tryz.func11 rfl fun h=>zSR (qt h rfl rfl fun w1 bb1 h=>qt h rfl rfl fun w2 bb2 h=>X2 9 1 0 h rfl (zcB h hF (qoZ (qhs _ (h.oldS s1) (h.oldS s2) (h.oldS s3) (h.oldS s4) (h.oldS s5)) (qhs _ (h.oldS s8) (h.oldS s9) (h.oldS s10) (h.oldS s11) (h.oldS s12))) rfl fun r1 w3 h hF=>X0 2 rfl (qg rfl hF ?_ ?_)))<;>intro hF
 ·exact X0 4 rfl (rb h hF rfl)
 refine X2 8 1 0 h rfl (zcB h hF (qoH (qeH _) (qeH _)) rfl fun r2 w4 h hF=>X0 2 rfl (qg rfl hF ?_ ?_))<;>intro hF
 ·exact X0 4 rfl (rb h hF rfl)
 refine X2 8 1 0 h rfl (zcB h hF (qbb ⟨_,_,rfl,(h.oldS s6)⟩ ⟨_,_,rfl,(h.oldS s13)⟩) rfl fun r3 w5 h hF=>X0 2 rfl (qg rfl hF ?_ ?_))<;>intro hF
 ·exact X0 4 rfl (rb h hF rfl)
 refine X2 8 1 0 h rfl (zcB h hF (qnM ⟨_,_,rfl,(h.oldS s7)⟩ ⟨_,_,rfl,(h.oldS s14)⟩) rfl fun r4 w6 h hF=>X0 2 rfl (qg rfl hF ?_ ?_))<;>intro hF
 ·exact X0 4 rfl (rb h hF rfl)
 exact X0 5 rfl (rb h hF rfl)
end Go.Fw


namespace Go.Fw
open Go
def qlH (x:qu):Prop:=rngS x.Bb∧rngI x.Au∧rngI x.Ay∧rngI x.As∧rngI x.Az
def qjP (x:qu):Nat:=x.Bb.size
structure qqV (x:qu):Prop where
 Bb:okS x.Bb
 Au:okI x.Au
 Ay:okI x.Ay
 As:okI x.As
 Az:okI x.Az
theorem qse {x:qu} (h:qlH x) (w:qjP x≤1048576):qqV x:=⟨(by unfold okS;simp only [qjP] at w;omega),h.2.1,h.2.2.1,h.2.2.2.1,h.2.2.2.2⟩
theorem quZ {a:qu} (_:qjP a≤1048576):Ev (fun n=>qiB n a a) true:=by
 unfold qiB
 exact Ev.ff qid (Ev.ff qaW (Ev.ff qaW (Ev.ff qaW (Ev.ff qaW (.done)))))
def qnw (x:qh):Prop:=rngI x.Ap∧rngI x.Bf
structure qrC (x:qh):Prop where
 Ap:okI x.Ap
 Bf:okI x.Bf
theorem qrj {x:qh} (h:qnw x):qrC x:=⟨h.1,h.2⟩
def qir (x:qe):Prop:=rngI x.Bo∧qnw x.Ah∧qnw x.Bc
structure qoG (x:qe):Prop where
 Bo:okI x.Bo
 Ah:qrC x.Ah
 Bc:qrC x.Bc
theorem qsg {x:qe} (h:qir x):qoG x:=⟨h.1,qrj (h.2.1),qrj (h.2.2)⟩
def qhz (a:(List qe)):Nat:=a.length
theorem qrI {a:(List qe)} (h:(rngL qir) a) (w:qhz a≤1048576):(okL qoG) a :=
 ⟨by simp only [qhz] at w;omega,fun x hx=>qsg (h.2 x hx)⟩
def qpt (x:qbp):Prop:=qmO x.Af∧qlH x.Ai∧(rngL rngI) x.Bi∧(rngL qir) x.Ba
def qlX (x:qbp):Nat:=qhU x.Af+qjP x.Ai+qcn x.Bi+qhz x.Ba
structure qpZ (x:qbp):Prop where
 Af:qll x.Af
 Ai:qqV x.Ai
 Bi:(okL okI) x.Bi
 Ba:(okL qoG) x.Ba
theorem qvc {x:qbp} (h:qpt x) (w:qlX x≤1048576):qpZ x:=⟨qtu (h.1) (by simp only [qlX] at w;omega),qse (h.2.1) (by simp only [qlX] at w;omega),qdb (h.2.2.1) (by simp only [qlX] at w;omega),qrI (h.2.2.2) (by simp only [qlX] at w;omega)⟩
theorem qtU {a:qh}:Ev (fun n=>qi2 n a a) true:=by
 unfold qi2
 exact Ev.ff qaW (Ev.ff qaW (.done))
theorem quL {a:qe}:Ev (fun n=>qg4 n a a) true:=by
 unfold qg4
 exact Ev.ff qaW (Ev.bind (qtU (a:=a.Ah)) (Ev.ff rfl (Ev.bind (qtU (a:=a.Bc)) (Ev.ff rfl (.done)))))
theorem qtw {a:(List qe)} (h:qhz a≤1048576):Ev (fun n=>qhE n a a) true:=by
 have hl:a.length≤1048576:=by simp only [qhz] at h;omega
 unfold qhE
 exact Ev.ff (by simp) (Ev.bind (b:=.nxt (a.length:Int)) (qiE (eqf:=qg4) (fun x hx=>quL)
  (fun n=>by simp only [qeG,qk (jb _),cond_false])
  (fun n j x hx=>by
   have hj:=(List.getElem?_eq_some_iff.1 hx).1
   simp only [qeG,qj hj,cond_true,qau hx,ja,wS j])) .done)
theorem qxC {a:qbp} (h:qlX a≤1048576):Ev (fun n=>qlJ n a a) true:=by
 unfold qlJ
 simp only [qlX] at h
 exact Ev.bind (qv2 (a:=a.Af) (by omega)) (Ev.ff rfl (Ev.bind (quZ (a:=a.Ai) (by omega)) (Ev.ff rfl (Ev.bind (qfa (a:=a.Bi) (by omega)) (Ev.ff rfl (Ev.bind (qtw (a:=a.Ba) (by omega)) (Ev.ff rfl (.done))))))))
theorem quu {a:qu} {left:Int} (h:qlH a) (h0:0≤left) (h1:left≤1048576):Sz (fun n=>qiD n a left) (fun r=>r=left-(qjP a:Int)):=by
 unfold qiD
 obtain ⟨h_0,h_1,h_2,h_3,h_4⟩:=h
 exact Sz.strStep h_0 (by omega) (by omega) fun p0 q0=>Sz.done p0 (by simp only [qjP];omega)
theorem qti {a:(List qe)} {left:Int} (h:(rngL qir) a) (h0:0≤left) (h1:left≤1048576):Sz (fun n=>qkd n a left) (fun r=>r=left-(qhz a:Int)) :=
 Sz.less h0 h1 (by omega) (by have:=h.1;omega) (fun _=>rfl)
theorem qxE {a:qbp} {left:Int} (h:qpt a) (h0:0≤left) (h1:left≤1048576):Sz (fun n=>qlx n a left) (fun r=>r=left-(qlX a:Int)):=by
 unfold qlx
 obtain ⟨h_0,h_1,h_2,h_3⟩:=h
 exact Sz.step (qvV (a:=a.Af) h_0 (by omega) (by omega)) fun r0 p0 q0=>Sz.step (quu (a:=a.Ai) h_1 (by omega) (by omega)) fun r1 p1 q1=>Sz.step (qfV (a:=a.Bi) h_2 (by omega) (by omega)) fun r2 p2 q2=>Sz.step (qti (a:=a.Ba) h_3 (by omega) (by omega)) fun r3 p3 q3=>Sz.done p3 (by simp only [qlX];omega)
theorem quJ {a:qu} (_:qjP a≤1048576):Ev (fun n=>qiH n a) a:=by
 unfold qiH
 exact .done
theorem qtS {a:qh}:Ev (fun n=>qje n a) a:=by
 unfold qje
 exact .done
theorem qum {a:qe}:Ev (fun n=>qgY n a) a:=by
 unfold qgY
 exact Ev.bind (qtS (a:=a.Ah)) (Ev.bind (qtS (a:=a.Bc)) (.done))
theorem qtH {a:(List qe)} (h:qhz a≤1048576):Ev (fun n=>qhV n a) a:=by
 have hl:a.length≤1048576:=by simp only [qhz] at h;omega
 unfold qhV
 exact Ev.bindN (qib (by omega)) (Ev.bind (b:=(a,(a.length:Int))) (qiF (cp:=qgY) (fun x hx=>qum)
  (fun acc n=>by simp only [qeC,qk (jb _),cond_false])
  (fun acc n j x y hx hy=>by
   have hj:=(List.getElem?_eq_some_iff.1 hx).1
   simp only [qeC,qj hj,cond_true,qau hx,qau hy,ja,wS j])) .done)
theorem qtq {a:qbp} (h:qlX a≤1048576):Ev (fun n=>qiv n a) a:=by
 unfold qiv
 simp only [qlX] at h
 exact Ev.bind (qvC (a:=a.Af) (by omega)) (Ev.bind (quJ (a:=a.Ai) (by omega)) (Ev.bind (qdS (a:=a.Bi) (by omega)) (Ev.bind (qtH (a:=a.Ba) (by omega)) (.done))))
end Go.Fw


namespace Go.Fw
open Go
set_option maxRecDepth 100000
abbrev lkB (b:qf):Nat:=(linksL b).length
abbrev ndB (b:qf):Nat:=2*(places b.Ab).length
abbrev lvJ (b:qf) (br:List Int):List Bool:=lvB br (lkB b)
def grB (b:qf) (br:List Int):Option Tgraph:=some ⟨some (viewV b),lvJ b br⟩
structure TgOk (b:qf) (c:qu) (br:List Int) (xs:List qe) (R:List Nat):Prop where
 bl:blockB b=true
 co:cornerB c=true
 br_:brB br (lkB b)=true
 sr:srcB xs (ndB b)=true
 or_:ordL (linksL b) (lvJ b br) (ndB b) (ndB b) []=some R
theorem TgOk.ord {b:qf} {c:qu} {br:List Int} {xs:List qe} {R:List Nat} (h:TgOk b c br xs R):OrdOk (lkB b) (frL (linksL b)) (toL (linksL b)) (lvL (lvJ b br)) (ndB b) R :=
 qwS (ndB b) [] R (fun l1 k l2 e=>by cases l1<;>cases e) h.or_
theorem TgOk.len {b:qf} {c:qu} {br:List Int} {xs:List qe} {R:List Nat} (h:TgOk b c br xs R):R.length=ndB b:=by
 have:=qvj (ndB b) [] R h.or_
 simpa using this
theorem qn2 {x:Int} (h:x ≠ 0):(x != 0)=true:=by simpa using h
theorem qx1 {b:qf} {c:qu} {br:List Int} {xs:List qe} (hb:qll b) (hc:okS c.Bb) (hbl:br.length≤1048576) (hxl:xs.length≤1048576) :
  (∃ code:Int,code ≠ 0∧Ev (fun n=>qh6 n b c br xs) ([],code)∧Ev (fun n=>qe2 n b c br xs none) (none,[],code)) ∨
  ∃ R,TgOk b c br xs R∧Ev (fun n=>qh6 n b c br xs) (ints R,0)∧Ev (fun n=>qe2 n b c br xs none) (grB b br,ints R,0):=by
 have s1:=qoO hb
 have i1:=qs4 hb
 have s2:=qrA (c:=c) hc
 have i2:=qr8 (c:=c) hc
 unfold qh6 qe2
 cases h1:blockB b
 ·rw [h1] at s1 i1
  exact .inl ⟨1,by omega,Ev.bind (b:=true) (Ev.bind s1 (Ev.tt rfl .done)) (Ev.tt rfl .done),Ev.bind (b:=true) (Ev.bind i1 (Ev.tt rfl .done)) (Ev.tt rfl .done)⟩
 cases h2:cornerB c
 ·rw [h1] at s1 i1
  rw [h2] at s2 i2
  exact .inl ⟨1,by omega,Ev.bind (b:=true) (Ev.bind s1 (Ev.ff rfl (Ev.bind s2 .done))) (Ev.tt rfl .done),Ev.bind (b:=true) (Ev.bind i1 (Ev.ff rfl (Ev.bind i2 .done))) (Ev.tt rfl .done)⟩
 have hpl:=qbI (qai (qaE h1))
 have hll:=qht h1
 have hk:=qmV h1
 have s3:=qth (br:=br) hb h1 hbl
 have i3:=qsq (v:=viewV b) (br:=br) hbl hll
 have s4:=qqA (xs:=xs) h1 hxl
 have i4:=qqz (v:=viewV b) (xs:=xs) hpl hxl
 have ev:(viewV b).links=linksL b:=rfl
 have ep:(viewV b).places=places b.Ab:=rfl
 rw [ev] at i3
 rw [ep] at i4
 rw [h1] at s1 i1
 rw [h2] at s2 i2
 have sA:Ev (fun n=>(qgE n b).bind fun r6=>bif (!r6) then some true else (qg9 n c).bind fun r7=>some (!r7)) false:=Ev.bind s1 (Ev.ff rfl (Ev.bind s2 .done))
 have iA:Ev (fun n=>(qhI n b).bind fun r6=>bif (!r6) then some true else (qhb n c).bind fun r7=>some (!r7)) false:=Ev.bind i1 (Ev.ff rfl (Ev.bind i2 .done))
 have nv:=qsW h1
 cases h3:brB br (lkB b)
 ·rw [h3] at s3 i3
  exact .inl ⟨2,by omega,Ev.bind sA (Ev.ff rfl (Ev.bind (b:=true) (Ev.bind s3 (Ev.tt rfl .done)) (Ev.tt rfl .done))),
   Ev.bind iA (Ev.ff rfl (Ev.bind nv (Ev.bind (b:=false) (Ev.ff rfl .done) (Ev.ff rfl (Ev.bind (b:=true) (Ev.bind i3 (Ev.tt rfl .done)) (Ev.tt rfl .done))))))⟩
 cases h4:srcB xs (ndB b)
 ·rw [h3] at s3 i3
  rw [h4] at s4 i4
  exact .inl ⟨2,by omega,Ev.bind sA (Ev.ff rfl (Ev.bind (b:=true) (Ev.bind s3 (Ev.ff rfl (Ev.bind s4 .done))) (Ev.tt rfl .done))),
   Ev.bind iA (Ev.ff rfl (Ev.bind nv (Ev.bind (b:=false) (Ev.ff rfl .done) (Ev.ff rfl (Ev.bind (b:=true) (Ev.bind i3 (Ev.ff rfl (Ev.bind i4 .done))) (Ev.tt rfl .done))))))⟩
 have i5:=qtm (v:=viewV b) (br:=br) hll h3
 rw [ev] at i5
 have s5:=qns (ls:=linksL b) (br:=br) hll hbl
 have hlv:(lvJ b br).length=lkB b:=qpC
 have s6:=qud (lv:=lvJ b br) hk hlv
 have i6:=quf (b:=b) (ps:=places b.Ab) (lo:=pre (load0 b) b.Ac.length) (de:=pre (exactL b) b.Ac.length) (ex:=[]) (lv:=lvJ b br) hk hlv rfl
 rw [h3] at s3 i3
 rw [h4] at s4 i4
 have sB:Ev (fun n=>(qgz n b br).bind fun r4=>bif (r4 != 0) then some true else (qfL n b xs).bind fun r5=>some (!r5)) false:=Ev.bind s3 (Ev.ff rfl (Ev.bind s4 .done))
 have iB:Ev (fun n=>(qd2 n (some (viewV b)) br).bind fun r6=>bif (!r6) then some true else (qc5 n (some (viewV b)) xs).bind fun r7=>some (!r7)) false:=Ev.bind i3 (Ev.ff rfl (Ev.bind i4 .done))
 have sT:∀ r:List Int × Int,Ev (fun n=>(qhc n (ndB b:Int) (linksL b) (lvJ b br)).bind fun o=>match o with|(r6,r7)=>bif (!r7) then some (([]:List Int),(7:Int)) else some (r6,0)) r→Ev (fun n=>qeb n b br) r:=fun r hr=>by
  unfold qeb
  exact Ev.bind s3 (Ev.ff rfl (Ev.bind (qiR h1) (Ev.bind (qmi h1) (Ev.bind s5 hr))))
 cases ho:ordL (linksL b) (lvJ b br) (ndB b) (ndB b) [] with
 | none =>
  have e:ordR (linksL b) (lvJ b br) (ndB b)=([],false):=by unfold ordR;rw [ho]
  rw [e] at s6 i6
  exact .inl ⟨7,by omega,Ev.bind sA (Ev.ff rfl (Ev.bind sB (Ev.ff rfl (Ev.bind (sT ([],7) (Ev.bind s6 (Ev.tt rfl .done))) .done)))),
   Ev.bind iA (Ev.ff rfl (Ev.bind nv (Ev.bind (b:=false) (Ev.ff rfl .done) (Ev.ff rfl (Ev.bind iB (Ev.ff rfl (Ev.bind i5 (Ev.bind i6 (Ev.tt rfl .done)))))))))⟩
 | some R =>
  have e:ordR (linksL b) (lvJ b br) (ndB b)=(ints R,true):=by unfold ordR;rw [ho]
  rw [e] at s6 i6
  exact .inr ⟨R,⟨h1,h2,h3,h4,ho⟩,Ev.bind sA (Ev.ff rfl (Ev.bind sB (Ev.ff rfl (Ev.bind (sT (ints R,0) (Ev.bind s6 (Ev.ff rfl .done))) .done)))),
   Ev.bind iA (Ev.ff rfl (Ev.bind nv (Ev.bind (b:=false) (Ev.ff rfl .done) (Ev.ff rfl (Ev.bind iB (Ev.ff rfl (Ev.bind i5 (Ev.bind i6 (Ev.ff rfl .done)))))))))⟩
structure WkOk (j:qbp) (t:qw) (R:List Nat):Prop where
 tg:TgOk j.Af j.Ai j.Bi j.Ba R
 tm:TmOk t (ndB j.Af)
def wkV (j:qbp) (t:qw) (R:List Nat):Option Twork:=some ⟨grB j.Af j.Bi,j,t,ints R⟩
theorem qwp {j:qbp} (h:qpZ j) :
  (∃ code:Int,code ≠ 0∧Ev (fun n=>qc7 n j.Af j.Ai j.Bi j.Ba) (zT,code)∧Ev (fun n=>qjg n j) (none,code)) ∨
  ∃ t R,WkOk j t R∧Ev (fun n=>qc7 n j.Af j.Ai j.Bi j.Ba) (t,0)∧Ev (fun n=>qjg n j) (wkV j t R,0):=by
 have hbl:=h.Bi.len
 have hxl:=h.Ba.len
 unfold qc7 qjg
 rcases qx1 h.Af h.Ai.Bb hbl hxl with ⟨code,hne,hs,hi⟩|⟨R,hg,hs,hi⟩
 ·exact .inl ⟨code,hne,Ev.bind hs (Ev.tt (qn2 hne) .done),Ev.bind hi (Ev.tt (qn2 hne) .done)⟩
 ·have h1:=hg.bl
  have hll:=qht h1
  have s5:=qns (ls:=linksL j.Af) (br:=j.Bi) hll hbl
  obtain ⟨f,hf⟩:=qwf h1 hg.co
  have hpl:=qbI (qai (qaE h1))
  have hRl:=hg.len
  obtain ⟨o,o1,o2,o3⟩:=qxJ (lv:=lvJ j.Af j.Bi) (R:=R) h1 hf qpC (qwA hxl hg.sr) (fun i hi=>⟨(hg.ord.at hi).1,(hg.ord.at hi).2.1⟩) (by show R.length≤1000;rw [hRl];show 2*(places j.Af.Ab).length≤1000;omega)
  cases o with
  | none=>exact .inl ⟨3,by omega,Ev.bind hs (Ev.ff rfl (Ev.bind (qiR h1) (Ev.bind s5 (Ev.bind o2 (Ev.tt rfl .done))))),Ev.bind hi (Ev.ff rfl (Ev.bind o3 (Ev.tt rfl .done)))⟩
  | some t=>exact .inr ⟨t,R,⟨hg,o1 t rfl⟩,Ev.bind hs (Ev.ff rfl (Ev.bind (qiR h1) (Ev.bind s5 (Ev.bind o2 (Ev.ff rfl .done))))),Ev.bind hi (Ev.ff rfl (Ev.bind o3 (Ev.ff rfl .done)))⟩
end Go.Fw


namespace Go.Fw
open Go
set_option maxRecDepth 100000
def swV (j:qbp) (t:qw):Option Tl20Work:=some ⟨j,linksL j.Af,lvJ j.Af j.Bi,t⟩
theorem qwW {j:qbp} (h:qpZ j) :
  (∃ code:Int,code ≠ 0∧Ev (fun n=>qfl n j) (none,code)∧∀ mode nodes,Ev (fun n=>qhN n j mode nodes) (none,code)) ∨
  ∃ t R,WkOk j t R∧Ev (fun n=>qfl n j) (swV j t,0)∧∀ mode nodes,nodes.length≤1048576→(mode=0∨mode=1) →
   Ev (fun n=>qhN n j mode nodes) (bif nodes.all (fun x=>inI x 0 ((ndB j.Af:Int)-1)) then (wkV j t R,0) else (none,4)):=by
 have hbl:=h.Bi.len
 unfold qfl qhN
 rcases qwp h with ⟨code,hne,hs,hi⟩|⟨t,R,hw,hs,hi⟩
 ·exact .inl ⟨code,hne,Ev.bind hs (Ev.tt (qn2 hne) .done),fun mode nodes=>Ev.bind hi (Ev.tt (qn2 hne) .done)⟩
 ·have h1:=hw.tg.bl
  have hll:=qht h1
  have hpl:=qbI (qai (qaE h1))
  have s5:=qns (ls:=linksL j.Af) (br:=j.Bi) hll hbl
  refine .inr ⟨t,R,hw,Ev.bind hs (Ev.ff rfl (Ev.bind (qiR h1) (Ev.bind s5 .done))),fun mode nodes hn hm=>Ev.bind hi (Ev.ff rfl ?_)⟩
  have hnd:=qp0 (v:=viewV j.Af) hpl
  have e1:W64 (((2*(viewV j.Af).places.length:Nat):Int)-1)=(ndB j.Af:Int)-1:=by
   show W64 (((2*(places j.Af.Ab).length:Nat):Int)-1)=_
   rw [qav (by omega) (by omega)]
  unfold wkV grB
  simp only [ja,hnd,e1]
  refine Ev.bind (qeF hn) ?_
  cases nodes.all fun x=>inI x 0 ((ndB j.Af:Int)-1)
  ·exact Ev.tt rfl .done
  ·refine Ev.ff rfl ?_
   rcases hm with rfl|rfl<;>exact Ev.bind (b:=true) (Ev.now rfl) (Ev.ff rfl .done)
theorem qrB {j:qbp} {t:qw} {node:Int} (hl:j.Ba.length≤1048576):Ev (fun n=>qhX n (swV j t) node) ((srcV (srcO j.Ba node)).2,(srcV (srcO j.Ba node)).1):=by
 have h1:Ev (fun n=>qcy (swV j t) node n 0) (match srcO j.Ba node with|some y=>.ret (y,true)|none=>.nxt (j.Ba.length:Int)):=by
  have main:∀ d i,i+d=j.Ba.length→(j.Ba.take i).find? (fun s=>s.Bo==node)=none→Ev (fun n=>qcy (swV j t) node n (i:Int)) (match srcO j.Ba node with|some y=>.ret (y,true)|none=>.nxt (j.Ba.length:Int)):=by
   intro d
   induction d with
   | zero =>
    intro i hi hn
    obtain rfl:i=j.Ba.length:=by omega
    rw [jB] at hn
    unfold srcO
    rw [hn]
    refine Ev.succ ?_
    simp only [qcy,swV,ja,qk (jb _),cond_false]
    exact .done
   | succ d ih =>
    intro i hi hn
    have hil:i<j.Ba.length:=by omega
    refine Ev.succ ?_
    simp only [qcy,swV,ja,qj hil,cond_true,qB hil,wS i]
    cases hq:(gt j.Ba i).Bo==node
    ·refine ih (i+1) (by omega) ?_
     rw [ju hil,List.find?_append,hn,←qeT hil,List.find?_cons_of_neg (by simp [hq])]
     rfl
    ·have hd:j.Ba.drop i=gt j.Ba i::j.Ba.drop (i+1):=by rw [qeT hil];exact jM hil
     have:srcO j.Ba node=some (gt j.Ba i):=by
      generalize gt j.Ba i=y at hq hd
      unfold srcO
      rw [←List.take_append_drop i j.Ba,List.find?_append,hn,hd,List.find?_cons_of_pos (by simpa using hq)]
      rfl
     rw [this]
     exact .done
  exact main j.Ba.length 0 (by omega) rfl
 unfold qhX
 refine Ev.bind h1 ?_
 cases srcO j.Ba node<;>exact .done
def atP (ls:List qq) (start:Int) (path:List Int):Nat→Int
 | 0=>start
 | j+1=>(gt ls (at0 path j).toNat).To
def okP (ls:List qq) (lv:List Bool) (start:Int) (path:List Int) (j:Nat):Bool :=
 inI (at0 path j) 0 ((ls.length:Int)-1)&&(gt lv (at0 path j).toNat&&((gt ls (at0 path j).toNat).Bk==atP ls start path j))
def pathB (j:qbp) (start:Int) (path:List Int):Bool:=(srcV (srcO j.Ba start)).1&&allN (okP (linksL j.Af) (lvJ j.Af j.Bi) start path) path.length
def endB (j:qbp) (start:Int) (path:List Int):Int:=atP (linksL j.Af) start path path.length
theorem inRange {x:Int} {m:Nat} (h:inI x 0 ((m:Int)-1)=true):0≤x∧x<(m:Int)∧x.toNat<m:=by rw [qa1] at h;omega
theorem qug {j:qbp} {t:qw} {start:Int} {path:List Int} (h1:blockB j.Af=true) (hl:j.Ba.length≤1048576) (hp:path.length≤1048576):∃ e:Int,Ev (fun n=>qky n (swV j t) start path) (e,pathB j start path)∧(pathB j start path=true→e=endB j start path):=by
 have hll:=qht h1
 have hlv:(lvJ j.Af j.Bi).length=lkB j.Af:=qpC
 have hS:=qrB (j:=j) (t:=t) (node:=start) hl
 unfold qky pathB
 cases hs:(srcV (srcO j.Ba start)).1
 ·rw [hs] at hS
  refine ⟨start,Ev.bind hS (Ev.bind (b:=.nxt (start,0)) (Ev.succ ?_) .done),fun e=>by cases e⟩
  unfold qd0
  cases decide ((0:Int)<(path.length:Int))<;>exact .done
 ·rw [hs] at hS
  have hL:=loopN (Lf:=fun n i x=>qd0 (swV j t) path true n i x) (S:=atP (linksL j.Af) start path) (p:=okP (linksL j.Af) (lvJ j.Af j.Bi) start path) (len:=path.length) (bad:=((0:Int),false)) (fin:=(endB j start path,(path.length:Int)))
   (fun n=>by simp only [qd0,qk (jb _),cond_false,ja];rfl)
   (fun i hi _ X hX=>by
    have eW:W64 (((linksL j.Af).length:Int)-1)=((linksL j.Af).length:Int)-1:=qav (by omega) (by omega)
    simp only [qd0,qj hi,cond_true,ja,qae hi,swV,qcp,eW,wS i]
    unfold okP at hX ⊢
    cases hr:inI (at0 path i) 0 (((linksL j.Af).length:Int)-1)
    ·exact Ev.bind (b:=true) (Ev.tt rfl .done) (Ev.tt rfl .done)
    ·obtain ⟨r0,r1,r2⟩:=inRange hr
     rw [hr] at hX
     simp only [qdt r0 r1,qdt r0 (show at0 path i<((lvJ j.Af j.Bi).length:Int) by rw [hlv];exact r1),ja]
     cases hv:gt (lvJ j.Af j.Bi) (at0 path i).toNat
     ·exact Ev.bind (b:=true) (Ev.ff rfl (Ev.tt rfl .done)) (Ev.tt rfl .done)
     ·rw [hv] at hX
      cases hf:(gt (linksL j.Af) (at0 path i).toNat).Bk==atP (linksL j.Af) start path i
      ·exact Ev.bind (b:=true) (Ev.ff rfl (Ev.ff rfl (Ev.now (by simp only [bne,hf];rfl)))) (Ev.tt rfl .done)
      ·rw [hf] at hX
       exact Ev.bind (b:=false) (Ev.ff rfl (Ev.ff rfl (Ev.now (by simp only [bne,hf];rfl)))) (Ev.ff rfl (hX rfl)))
  cases hb:allN (okP (linksL j.Af) (lvJ j.Af j.Bi) start path) path.length
  ·rw [hb] at hL
   exact ⟨0,Ev.bind hS (Ev.bind hL .done),fun e=>by cases e⟩
  ·rw [hb] at hL
   exact ⟨endB j start path,Ev.bind hS (Ev.bind hL .done),fun _=>rfl⟩
def linkB (ls:List qq) (path:List Int) (j:Nat):Bool:=inI (at0 path j) 0 ((ls.length:Int)-1)&&(decide (j=0) || (gt ls (at0 path (j-1)).toNat).To==(gt ls (at0 path j).toNat).Bk)
theorem quq {v:Tview} {path:List Int} (hll:v.links.length≤10000) (hp:path.length≤1048576):Ev (fun n=>qgO n (some v) path) (allN (linkB v.links path) path.length):=by
 have hL:=loopN (τ:=Unit) (Lf:=fun n _ x=>qbT (some v) path n x) (S:=fun _=>()) (p:=linkB v.links path) (len:=path.length) (bad:=false) (fin:=(path.length:Int))
  (fun n=>by simp only [qbT,qk (jb _),cond_false])
  (fun i hi hpr X hX=>by
   have eW:W64 ((v.links.length:Int)-1)=(v.links.length:Int)-1:=qav (by omega) (by omega)
   simp only [qbT,qj hi,cond_true,ja,qae hi,qiu,qcQ,qc0,eW,wS i]
   unfold linkB at hX ⊢
   cases hr:inI (at0 path i) 0 ((v.links.length:Int)-1)
   ·exact .done
   ·obtain ⟨r0,r1,r2⟩:=inRange hr
    rw [hr] at hX
    refine Ev.ff rfl ?_
    by_cases h0:i=0
    ·subst h0
     exact Ev.ff rfl (hX rfl)
    ·refine Ev.tt (decide_eq_true (by omega)) ?_
     have hq:=hpr (i-1) (by omega)
     unfold linkB at hq
     rw [jc] at hq
     obtain ⟨q0,q1,_⟩:=inRange hq.1
     rw [show (i:Int)-1=((i-1:Nat):Int) by omega,qav (by omega) (by omega)]
     simp only [qae (show i-1<path.length by omega),ja,qdt q0 q1,qdt r0 r1,bne]
     rw [decide_eq_false h0] at hX ⊢
     cases he:(gt v.links (at0 path (i-1)).toNat).To==(gt v.links (at0 path i).toNat).Bk
     ·exact .done
     ·rw [he] at hX
      exact hX rfl)
 unfold qgO
 refine Ev.bind hL ?_
 cases allN (linkB v.links path) path.length<;>exact .done
theorem qtD {j:qbp} {t:qw} {R:List Nat} {path:List Int} (hp:path.length≤1048576) (hr:∀ x,x ∈ path→0≤x∧x<(lkB j.Af:Int)):Ev (fun n=>qP n path (wkV j t R)) (!path.all fun x=>gt (lvJ j.Af j.Bi) x.toNat):=by
 have hlv:(lvJ j.Af j.Bi).length=lkB j.Af:=qpC
 have h1:Ev (fun n=>qaD n path (wkV j t R)) (ixL (fun x=>!gt (lvJ j.Af j.Bi) x.toNat) path) :=
  qe6 (fin:=(path.length:Int)) (Lf:=qR path (wkV j t R)) (xs:=path) (pf:=fun n x=>qeA n x (wkV j t R)) (fun x hx=>by
    obtain ⟨x0,x1⟩:=hr x hx
    unfold qeA wkV grB
    simp only [ja,qdt x0 (show x<((lvJ j.Af j.Bi).length:Int) by rw [hlv];exact x1)]
    exact .done)
   (fun n=>by simp only [qR,qk (jb _),cond_false])
   (fun n i x hx=>by
    have hi:=(List.getElem?_eq_some_iff.1 hx).1
    simp only [qR,qj hi,cond_true,qau hx,ja,wS i])
   (fun n=>by unfold qaD;congr 1;funext o;cases o<;>rfl)
 unfold qP
 refine Ev.bind h1 (Ev.now ?_)
 rw [qmH,←qn4,Bool.not_not]
theorem qsv {j:qbp} {t:qw} {R:List Nat} {start:Int} {path:List Int} (h1:blockB j.Af=true) (hl:j.Ba.length≤1048576) (hp:path.length≤1048576):Ev (fun n=>qfu n (wkV j t R) start path) (pathB j start path):=by
 have hll:=qht h1
 have hS:=qsm (xs:=j.Ba) (node:=start) hl
 have hP:=quq (v:=viewV j.Af) (path:=path) hll hp
 have ev:(viewV j.Af).links=linksL j.Af:=rfl
 rw [ev] at hP
 have fr:path.length ≠ 0→allN (linkB (linksL j.Af) path) path.length=true→∃ k:Nat,k<lkB j.Af∧at0 path 0=(k:Int):=fun h0 hb=>by
  rw [qah] at hb
  have:=hb 0 (by omega)
  unfold linkB at this
  rw [jc] at this
  obtain ⟨q0,q1,q2⟩:=inRange this.1
  exact ⟨(at0 path 0).toNat,q2,qfY q0⟩
 have hrg:allN (linkB (linksL j.Af) path) path.length=true→∀ x,x ∈ path→0≤x∧x<(lkB j.Af:Int):=fun hb x hx=>by
  obtain ⟨i,hi,rfl⟩:=List.mem_iff_getElem.1 hx
  rw [qah] at hb
  have:=hb i hi
  unfold linkB at this
  rw [jc] at this
  obtain ⟨q0,q1,_⟩:=inRange this.1
  rw [qkb hi] at q0 q1
  exact ⟨q0,q1⟩
 have key:allN (okP (linksL j.Af) (lvJ j.Af j.Bi) start path) path.length=(allN (linkB (linksL j.Af) path) path.length&&(bif decide (path.length=0) then true else ((gt (linksL j.Af) (at0 path 0).toNat).Bk==start)&&path.all fun x=>gt (lvJ j.Af j.Bi) x.toNat)):=by
  rw [jh,jc,qah,qah]
  unfold okP linkB
  simp only [jc,Bool.or_eq_true,decide_eq_true_eq,beq_iff_eq]
  constructor
  ·intro hh
   refine ⟨fun i hi=>⟨(hh i hi).1,?_⟩,?_⟩
   ·cases i with
    | zero=>exact .inl rfl
    | succ i=>exact .inr (hh (i+1) hi).2.2.symm
   ·by_cases h0:path.length=0
    ·rw [decide_eq_true h0];rfl
    ·rw [decide_eq_false h0]
     simp only [cond_false,jc,beq_iff_eq,jL]
     refine ⟨(hh 0 (by omega)).2.2,fun x hx=>?_⟩
     obtain ⟨i,hi,rfl⟩:=List.mem_iff_getElem.1 hx
     rw [←qkb hi]
     exact (hh i hi).2.1
  ·rintro ⟨ha,hb⟩ i hi
   rw [decide_eq_false (by omega)] at hb
   simp only [cond_false,jc,beq_iff_eq,jL] at hb
   refine ⟨(ha i hi).1,by rw [qkb hi];exact hb.2 _ (jp hi),?_⟩
   cases i with
   | zero=>exact hb.1
   | succ i =>
    rcases (ha (i+1) hi).2 with e|e
    ·omega
    ·exact e.symm
 unfold qfu pathB
 rw [key]
 show Ev (fun n=>(qfT n j.Ba start).bind _) _
 refine Ev.bind hS ?_
 cases hs:(srcV (srcO j.Ba start)).1
 ·exact Ev.bind (b:=true) (Ev.tt rfl .done) (Ev.tt rfl .done)
 ·cases hb:allN (linkB (linksL j.Af) path) path.length
  ·rw [hb] at hP
   exact Ev.bind (b:=true) (Ev.ff rfl (Ev.bindN rfl (Ev.bind hP .done))) (Ev.tt rfl .done)
  ·have hA:=qtD (j:=j) (t:=t) (R:=R) hp (hrg hb)
   have hfr:=fr
   rw [hb] at hP
   refine Ev.bind (b:=false) (Ev.ff rfl (Ev.bindN rfl (Ev.bind hP .done))) (Ev.ff rfl ?_)
   by_cases h0:path.length=0
   ·rw [decide_eq_true h0]
    refine Ev.ff (decide_eq_false (by omega)) (Ev.bind hA (Ev.now ?_))
    rw [List.length_eq_zero_iff.1 h0]
    rfl
   ·rw [decide_eq_false h0]
    obtain ⟨k,hk,ek⟩:=hfr h0 hb
    refine Ev.tt (decide_eq_true (by omega)) ?_
    show Ev (fun n=>(idx path 0).bind fun y4=>(idx (linksL j.Af) y4).bind fun y5=>bif (y5.Bk != start) then some false else (qP n path (wkV j t R)).bind fun r4=>some (!r4)) _
    rw [show idx path (0:Int)=some (k:Int) by rw [show (0:Int)=((0:Nat):Int) from rfl,qae (by omega),ek]]
    simp only [ja,qB hk,bne]
    rw [ek,jn]
    cases (gt (linksL j.Af) k).Bk==start
    ·exact .done
    ·refine Ev.ff rfl (Ev.bind hA (Ev.now ?_))
     rw [Bool.not_not]
     rfl
theorem qsF {j:qbp} {start:Int} {path:List Int} (h:qpZ j) (hp:path.length≤1048576) {mode:Int} (hm:mode=0∨mode=1) :
  (∃ code:Int,code ≠ 0∧Ev (fun n=>qfl n j) (none,code)∧Ev (fun n=>qgX n j mode start path) (none,code)) ∨
  ∃ t R,WkOk j t R∧Ev (fun n=>qfl n j) (swV j t,0)∧Ev (fun n=>qgX n j mode start path) (bif pathB j start path then (wkV j t R,0) else (none,5)):=by
 unfold qgX
 rcases qwW h with ⟨code,hne,hs,hi⟩|⟨t,R,hw,hs,hi⟩
 ·exact .inl ⟨code,hne,hs,Ev.bind (hi mode []) (Ev.ff (by simpa using hne) .done)⟩
 ·have hP:=qsv (t:=t) (R:=R) (start:=start) hw.tg.bl h.Ba.len hp
  refine .inr ⟨t,R,hw,hs,Ev.bind (hi mode [] (Nat.zero_le _) hm) (Ev.tt rfl (Ev.bind hP ?_))⟩
  cases pathB j start path<;>exact .done
theorem qrx {j:qbp} {start:Int} {path:List Int} (h:qpZ j) (hl:okL okI path):∃ R:Bool,Ev (fun n=>qia n j start path) R∧Ev (fun n=>qhY n j start path) R:=by
 have hp:=hl.len
 unfold qia qhY
 rcases qsF (start:=start) h hp (mode:=0) (.inl rfl) with ⟨code,hne,hs,hi⟩|⟨t,R,hw,hs,hi⟩
 ·exact ⟨false,Ev.bind hs (Ev.tt (qn2 hne) .done),Ev.bind hi (Ev.now (by simpa using hne))⟩
 ·obtain ⟨e,he,_⟩:=qug (j:=j) (t:=t) (start:=start) hw.tg.bl h.Ba.len hp
  refine ⟨pathB j start path,Ev.bind hs (Ev.ff rfl (Ev.bind he .done)),Ev.bind hi ?_⟩
  cases pathB j start path<;>exact .done
end Go.Fw


namespace Go.Fw
open Go Go.Proofs
open Go.RowKit (Below)
set_option maxRecDepth 100000
set_option maxHeartbeats 1600000
variable {n:Nat} {w:World} {cs1 cs2 cs3 cs4 cs5 cs6 cs7 cs8 cs9:List Value}
def qfZ (n:Nat) (aJ:qbp) (aStart:Int) (aLinks:(List Int)):Option Bool :=
 bif decide ((aLinks.length:Int) > 1048576) then some true else
 (qlx n aJ 1048576).bind fun r1 =>
 bif decide (r1<0) then some true else
 (qiv n aJ).bind fun r2 =>
 (qaN n aLinks).bind fun r3 =>
 (qia n r2 aStart r3).bind fun r4 =>
 (qiv n aJ).bind fun r5 =>
 (qaN n aLinks).bind fun r6 =>
 (qhY n r5 aStart r6).bind fun r7 =>
 bif (!(r7==r4)) then some false else
 (qiv n aJ).bind fun r8 =>
 (qlJ n r5 r8).bind fun r9 =>
 bif (!r9) then some false else
 (qaN n aLinks).bind fun r10 =>
 (qbf n r6 r10).bind fun r11 =>
 bif (!r11) then some false else
 some true
theorem qkQ {aJ:qbp} {aStart:Int} {aLinks:(List Int)} (ha1:GoT.R w (old w) aJ cs1) (ha2:GoT.R w (old w) aLinks cs2) {r:Bool} (hF:qfZ n aJ aStart aLinks=some r):RetV Tryz.prog 4 [GoT.v qbp cs1,.int .i64 aStart,GoT.v (List Int) cs2] w r:=by
 obtain ⟨p1,k1,p2,k2,p3,k3,p4,k4,p5,k5,p6,k6,p7,k7,rfl,s1,s2,s3,s4,s5,s6,s7⟩:=qdl ha1
 obtain ⟨p8,k8,rfl,s8⟩:=ha2
 refine zV 47 Tryz.func4 rfl fun h=>zSR (qt h rfl rfl fun w1 bb1 h=>X0 9 rfl (qg rfl hF ?_ ?_))<;>intro hF
 ·exact X0 4 rfl (rb h hF rfl)
 refine X1 9 0 h rfl (zcI h hF (qqD (h.old ha1)) rfl fun r1 w2 h hF=>X0 8 rfl (qg rfl hF ?_ ?_))<;>intro hF
 ·exact X0 4 rfl (rb h hF rfl)
 refine X1 4 0 h rfl (zcO h hF (qkS (h.old ha1)) rfl fun r2 w3 S1 cs3 h hF=>?_)
 obtain ⟨p9,k9,p10,k10,p11,k11,p12,k12,p13,k13,p14,k14,p15,k15,rfl,-,-,-,-,-,-,-⟩:=qdl (h.own 0 rfl)
 refine zp2 rfl (zcL h hF (qaH ⟨_,_,rfl,(h.oldS s8)⟩) rfl fun r3 w4 S2 p16 k16 h hF=>zcB h hF (qn0 (h.own 1 rfl) (h.own 0 rfl)) rfl fun r4 w5 h hF=>X1 5 2 h rfl (zcO h hF (qkS (h.old ha1)) rfl fun r5 w6 S3 cs4 h hF=>?_))
 obtain ⟨p17,k17,p18,k18,p19,k19,p20,k20,p21,k21,p22,k22,p23,k23,rfl,-,-,-,-,-,-,-⟩:=qdl (h.own 0 rfl)
 refine qm qa h rfl rfl rfl fun w7 bb2 h=>zs 0 h rfl fun w8 h=>X0 4 rfl (zcL h hF (qaH ⟨_,_,rfl,(h.oldS s8)⟩) rfl fun r6 w9 S4 p24 k24 h hF=>X1 7 1 h rfl (zcB h hF (qnU (h.own 2 rfl) (h.own 0 rfl)) rfl fun r7 w10 h hF=>X0 9 rfl (qg rfl hF ?_ ?_)))<;>intro hF
 ·exact X0 4 rfl (rb h hF rfl)
 refine zKSS (rA [] [1,5] h rfl fun w11 h=>M2 3 [0,1] 0 1 (h.pick [1,5] rfl) rfl (Ao 2 7 rfl (zcO h hF (qkS (h.old ha1)) rfl fun r8 w12 S5 cs5 h hF=>?_)))
 obtain ⟨p25,k25,p26,k26,p27,k27,p28,k28,p29,k29,p30,k30,p31,k31,rfl,-,-,-,-,-,-,-⟩:=qdl (h.own 0 rfl)
 refine Ag (h.pick [2,6] rfl) (Ao 3 15 rfl (zcB h hF (qqC (h.own 3 rfl) (h.own 0 rfl)) rfl fun r9 w13 h hF=>G0 31 [4] (h.pick [2,6] rfl) rfl (Ad (qg rfl hF ?_ ?_))))<;>intro hF
 ·exact X0 4 rfl (rb h hF rfl)
 refine X0 6 rfl (zcL h hF (qaH ⟨_,_,rfl,(h.oldS s8)⟩) rfl fun r10 w14 S6 p32 k32 h hF=>zcB h hF (qbb (h.own 2 rfl) (h.own 0 rfl)) rfl fun r11 w15 h hF=>X0 2 rfl (qg rfl hF ?_ ?_))<;>intro hF
 ·exact X0 4 rfl (rb h hF rfl)
 exact X0 5 rfl (rb h hF rfl)
end Go.Fw


namespace Go.Fw
open Go
end Go.Fw


namespace Go.Fw
open Go
set_option maxRecDepth 100000
theorem qmG {j:qbp} {start:Int} {path:(List Int)} (h0:qpt j) (h1:rngI start) (h2:(rngL rngI) path):Ev (fun n=>qfZ n j start path) true:=by
 unfold qfZ
 refine Ev.bif (fun _=>.done) (fun hl=>?_)
 have hl2:path.length≤1048576:=by have:=of_decide_eq_false hl;omega
 obtain ⟨r1,e1,q1⟩:=qxE (a:=j) (left:=1048576) h0 (by omega) (by omega)
 refine Ev.bind e1 ?_
 rcases q1 with q1|⟨p1,q1⟩
 ·exact Ev.tt (by simpa using q1) .done
 refine Ev.ff (by simp;omega) ?_
 have w0:qlX j≤1048576:=by omega
 have k0:=qvc h0 w0
 have w2:qcn path≤1048576:=by unfold qcn;omega
 have k2:=qdb h2 w2
 obtain ⟨R0,hs,hi⟩:=qrx (j:=j) (start:=start) (path:=path) k0 k2
 refine Ev.bind (qtq w0) ?_
 refine Ev.bind (qdS w2) ?_
 refine Ev.bind hs ?_
 refine Ev.bind (qtq w0) ?_
 refine Ev.bind (qdS w2) ?_
 refine Ev.bind hi ?_
 refine Ev.ff (by simp) ?_
 refine Ev.bind (qtq w0) ?_
 refine Ev.bind (qxC w0) (Ev.ff rfl ?_)
 refine Ev.bind (qdS w2) ?_
 refine Ev.bind (qfa w2) (Ev.ff rfl ?_)
 exact .done
end Go.Fw
