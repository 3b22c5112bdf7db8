/- Plain laws: the delay and the slew of a link. -/
import Derived.Test.YtflinekphmgbeaaGreatDoorW8
import Derived.Test.YtflinekphmgbeaaGreatDoorB9
import Derived.Test.YtflinekphmgbeaaGreatDoorFw30
open Option renaming bind_some → jd
open Nat renaming le_refl → je, mul_le_mul_right → jr, le_of_ble_eq_true → jt, lt_of_lt_of_le → jx, succ_mul → jK, zero_add → jZ, add_zero → Ja
open Bool renaming and_eq_true → jf, eq_iff_iff → jm, true_and → jA, not_eq_true' → jJ, not_true → Jb
open Go.Result renaming andThen_ok → jg
open List renaming length_append → jh, getElem?_eq_getElem → ji, mem_cons_of_mem → jo, getElem_mem → jp, append_assoc → jq, length_singleton → js, getElem?_append_left → ju, take_succ_eq_append_getElem → jv, getD_eq_getElem?_getD → jw, mem_cons_self → jy, length_map → jz, getElem?_take → jB, getElem?_append_right → jC, take_length → jD, getElem?_toArray → jE, drop_eq_getElem_cons → jF, eq_nil_of_length_eq_zero → jH, length_take → jI, map_append → jL, all_eq_true → jM, not_mem_nil → jO, getElem_of_mem → jP, length_replicate → jQ, size_toArray → jR, mem_cons → jU, append_nil → jX, ext_getElem → jY
open Go.Sem renaming run_bind → jj, run_pure → jk
open Int renaming toNat_natCast → jn, tdiv_eq_ediv_of_nonneg → jG, mul_nonneg → jS, mul_assoc → jT, mul_le_mul → jV, le_refl → jW
open Array renaming getElem?_append_left → jN

namespace Go.Fw
open Go
set_option maxRecDepth 100000
theorem qtx {α:Type} {f:Nat→List α} {n:Nat} {x:α} (h:x ∈ fm f n):∃ j,j<n∧x ∈ f j:=by
 unfold fm at h
 obtain ⟨j,h1,h2⟩:=List.mem_flatMap.1 h
 exact ⟨j,List.mem_range.1 h1,h2⟩
theorem qvW {x:Int} {j:Nat} {t:Int} (ht:b01 t) (hj:j≤100000) (e:x=2*(j:Int)+t):W64 (x.tdiv 2)=(j:Int)∧x.tmod 2=t:=by
 have ht':0≤t∧t≤1:=by rcases ht with e|e<;>omega
 have hx:0≤x:=by omega
 rw [jG hx,Int.tmod_eq_emod_of_nonneg hx,qN (by omega) (by omega)]
 omega
structure CLk (b:qg) (x:qu) (i j m net a:Nat):Prop where
 kind:x.Bf=1
 il:i<b.Ab.Aa.length
 jl:j<(places b.Ab).length
 inst:(gt (places b.Ab) j).instance_=(i:Int)
 net_:(gt (places b.Ab) j).net=(net:Int)
 nl:net<b.Ac.length
 half:W64 (x.To.tdiv 2)=(j:Int)
 mod:x.To.tmod 2=(m:Int)
 ml:m<2
 ix:x.Bz=(a:Int)
 al:a<(cellAt b (i:Int)).Au.length
 d2:(gt (cellAt b (i:Int)).Au a).Bn.length=2
 s2:(gt (cellAt b (i:Int)).Au a).Bc.length=2
 dt:∀ t,t ∈ (gt (cellAt b (i:Int)).Au a).Bn→TbOk t∧∀ k,0≤at0 t.Bh k
 st:∀ t,t ∈ (gt (cellAt b (i:Int)).Au a).Bc→TbOk t∧∀ k,0≤at0 t.Bh k
structure WLk (b:qg) (x:qu) (j net k:Nat):Prop where
 kind:x.Bf=2
 jl:j<(places b.Ab).length
 net_:(gt (places b.Ab) j).net=(net:Int)
 nl:net<b.Ac.length
 half:W64 (x.To.tdiv 2)=(j:Int)
 ix:x.Bz=(k:Int)
 kl:k<(gt b.Ac net).Bl.length
theorem qzE {xs:List Int} (h:0≤mnL xs) (k:Nat):0≤at0 xs k:=by
 have fold:∀ (ys:List Int) (a:Int),(ys.foldl (fun (m y:Int)=>if y<m then y else m) a≤a)∧∀ y,y ∈ ys→ys.foldl (fun (m y:Int)=>if y<m then y else m) a≤y:=by
  intro ys
  induction ys with
  | nil=>intro a;exact ⟨jW _,fun y hy=>by cases hy⟩
  | cons z ys ih =>
   intro a
   rw [List.foldl_cons]
   obtain ⟨h1,h2⟩:=ih (if z<a then z else a)
   refine ⟨?_,fun y hy=>?_⟩
   ·split at h1<;>split<;>omega
   ·rcases List.mem_cons.1 hy with e|e
    ·subst e;split at h1<;>split<;>omega
    ·exact h2 y e
 by_cases hk:k<xs.length
 ·have hm:xs[k] ∈ xs.drop 1∨k=0:=by
   by_cases h0:k=0
   ·exact .inr h0
   ·refine .inl ?_
    have:xs[k]=(xs.drop 1)[k-1]'(by rw [List.length_drop];omega):=by
     rw [List.getElem_drop]
     congr 1;omega
    rw [this]
    exact jp _
  rw [qkL hk]
  unfold mnL at h
  rcases hm with hm|h0
  ·exact Int.le_trans h ((fold _ _).2 _ hm)
  ·subst h0
   have:=(fold (xs.drop 1) (at0 xs 0)).1
   rw [←qkL hk]
   exact Int.le_trans h this
 ·rw [qvS hk];exact jW _
theorem qq4 {ts:List qr} (h:tablesB ts true=true):ts.length=2∧∀ t,t ∈ ts→TbOk t∧∀ k,0≤at0 t.Bh k:=by
 unfold tablesB at h
 rw [jf,decide_eq_true_eq,jM] at h
 refine ⟨h.1,fun t ht=>?_⟩
 have:=h.2 t ht
 unfold tabB at this
 simp only [Jb,Bool.false_or,jf,decide_eq_true_eq] at this
 exact ⟨qwL this.1,qzE this.2⟩
theorem qvg {ps:List qaj} {a:qG} (h:arcS ps a=true) (h3:a.Bf≤3) (h1:1≤a.Bf):a.To=(ps.length:Int)-1∧tablesB a.Bn true=true∧tablesB a.Bc true=true:=by
 unfold arcS at h
 rcases (by omega:a.Bf=1∨a.Bf=2∨a.Bf=3) with e|e|e
 ·rw [e] at h
  simp only [beq_self_eq_true,cond_true,jf,beq_iff_eq] at h
  exact ⟨h.2.2.1,h.2.2.2.2⟩
 ·rw [e] at h
  simp only [show ((2:Int)==1)=false from rfl,cond_false,beq_self_eq_true,Bool.true_or,cond_true,jf,beq_iff_eq] at h
  exact ⟨h.2.2.1,h.2.2.2.2⟩
 ·rw [e] at h
  simp only [show ((3:Int)==1)=false from rfl,cond_false,beq_self_eq_true,Bool.or_true,cond_true,jf,beq_iff_eq] at h
  exact ⟨h.2.2.1,h.2.2.2.2⟩
theorem qt0 {a:qG} {t:qO} (h:t ∈ transL a):1≤a.Bf∧a.Bf≤3:=by
 refine ⟨?_,?_⟩<;>refine Int.le_of_not_gt fun hg=>?_
 ·have:arcLs 0 0 a=[]:=by
   unfold arcLs transL
   rw [show (a.Bf==2)=false from beq_eq_false_iff_ne.2 (by omega),show (a.Bf==3)=false from beq_eq_false_iff_ne.2 (by omega),show (a.Bf != 1)=true from bne_iff_ne.2 (by omega)]
   rfl
  unfold arcLs at this
  rw [List.map_eq_nil_iff] at this
  rw [this] at h;cases h
 ·have:arcLs 0 0 a=[]:=qqa hg
  unfold arcLs at this
  rw [List.map_eq_nil_iff] at this
  rw [this] at h;cases h
theorem qig {b:qg} (h:blockB b=true) {x:qu} (hx:x ∈ linksL b):((∃ i j m net a,CLk b x i j m net a)∨∃ j net k,WLk b x j net k)∧(0≤x.Bk∧x.Bk<2*((places b.Ab).length:Int))∧(0≤x.To∧x.To<2*((places b.Ab).length:Int)):=by
 have hd:=qat h
 have hs:=qY hd
 have hl:=qbb hs
 have hwl:=qmu h
 unfold linksL at hx
 rcases List.mem_append.1 hx with hx|hx
 ·obtain ⟨i,hi,hx⟩:=qtx hx
  obtain ⟨a,ha,hx⟩:=qtx hx
  unfold arcLs at hx
  obtain ⟨t,ht,rfl⟩:=List.mem_map.1 hx
  obtain ⟨⟨c0,c1⟩,hnl,hcb⟩:=qhk hd hi
  have hcA:cellAt b (i:Int)=gt b.Av.As (gt b.Ab.Aa i).Bt.toNat:=rfl
  rw [←hcA] at hnl hcb
  obtain ⟨⟨k1,k5⟩,hf,hto,hA⟩:=qnE hcb ha
  obtain ⟨g1,g3⟩:=qt0 ht
  obtain ⟨t0,t1⟩:=qsu ht
  obtain ⟨eT,tD,tS⟩:=qvg hA g3 g1
  obtain ⟨d2,dt⟩:=qq4 tD
  obtain ⟨s2,st⟩:=qq4 tS
  have hpb:=(qhb (qja hcb)).1
  have hk:(cellAt b (i:Int)).Bd.length-1<(gt b.Ab.Aa i).Ak.length:=by omega
  obtain ⟨hj,ej⟩:=qkI hi hk
  obtain ⟨n0,n1⟩:=qmH hd hj
  have e1:(al1 (off b.Ab i:Int) a (gt (cellAt b (i:Int)).Au a) t).To=2*((off b.Ab i+((cellAt b (i:Int)).Bd.length-1):Nat):Int)+t.e1:=by
   show 2*((off b.Ab i:Int)+(gt (cellAt b (i:Int)).Au a).To)+t.e1=_
   rw [eT];omega
  obtain ⟨hh,hm⟩:=qvW t1 (by omega) e1
  obtain ⟨m,em⟩:∃ m:Nat,t.e1=(m:Int):=⟨t.e1.toNat,by rcases t1 with e|e<;>omega⟩
  have hfr:off b.Ab i+(gt (cellAt b (i:Int)).Au a).Bk.toNat<(places b.Ab).length:=(qkI hi (k:=(gt (cellAt b (i:Int)).Au a).Bk.toNat) (by omega)).1
  have e2:(al1 (off b.Ab i:Int) a (gt (cellAt b (i:Int)).Au a) t).Bk=2*((off b.Ab i:Int)+(gt (cellAt b (i:Int)).Au a).Bk)+t.e0:=rfl
  refine ⟨.inl ⟨i,_,m,(gt (places b.Ab) (off b.Ab i+((cellAt b (i:Int)).Bd.length-1))).net.toNat,a,⟨rfl,hi,hj,by rw [ej];rfl,qeD n0,by omega,hh,by rw [hm,em],by rcases t1 with e|e<;>omega,rfl,ha,d2,s2,dt,st⟩⟩,?_,?_⟩
  ·rw [e2]
   rcases t0 with e|e<;>rw [e]<;>omega
  ·rw [e1]
   rcases t1 with e|e<;>rw [e]<;>omega
 ·obtain ⟨i,hi,hx⟩:=qtx hx
  obtain ⟨k,hk,hx⟩:=qtx hx
  obtain ⟨y,hy,ey,hq⟩:=qpw hk
  have hdv:=(qjW hd (k:=i) (by omega)).1
  have hw:=qbu h hi
  have hq':(gt (places b.Ab) y).net=(i:Int):=by
   unfold snkQ at hq
   simp only [jf,beq_iff_eq] at hq
   exact hq.1
  have main:∀ t:Int,b01 t→x=⟨2*(dvN b.Ab i:Int)+t,2*at0 (skL b i) k+t,2,(k:Int)⟩→((∃ i j m net a,CLk b x i j m net a)∨∃ j net k,WLk b x j net k)∧(0≤x.Bk∧x.Bk<2*((places b.Ab).length:Int))∧(0≤x.To∧x.To<2*((places b.Ab).length:Int)):=by
   intro t ht e
   have e1:x.To=2*(y:Int)+t:=by rw [e,ey]
   have e2:x.Bk=2*(dvN b.Ab i:Int)+t:=by rw [e]
   obtain ⟨hh,hm⟩:=qvW ht (by omega) e1
   refine ⟨.inr ⟨y,i,k,⟨by rw [e],hy,hq',hi,hh,by rw [e],by rw [hw.snk];exact hk⟩⟩,?_,?_⟩
   ·rw [e2]
    rcases ht with e|e<;>rw [e]<;>omega
   ·rw [e1]
    rcases ht with e|e<;>rw [e]<;>omega
  unfold wl1 at hx
  simp only [jU,jO,or_false] at hx
  rcases hx with hx|hx
  ·exact main 0 (.inl rfl) (by rw [hx,Int.add_zero,Int.add_zero])
  ·exact main 1 (.inr rfl) hx
theorem qmm {α:Type} [Inhabited α] {xs:List α} {k:Nat} (h:k<xs.length):gt xs k ∈ xs:=by rw [qfx h];exact jp h
theorem qlU {b:qg} (h:blockB b=true):LkOk (linksL b) (2*(places b.Ab).length) where
 len:=qgX h
 nodes:=by have:=qbb (qY (qat h));omega
 fr0:=fun x hx=>(qig h (qmm hx)).2.1.1
 fr1:=fun x hx=>by have:=(qig h (qmm hx)).2.1.2;omega
 to0:=fun x hx=>(qig h (qmm hx)).2.2.1
 to1:=fun x hx=>by have:=(qig h (qmm hx)).2.2.2;omega
theorem qsU {c:qt} (h:cornerB c=true) {kind mode:Int}:∃ f:Int,100≤f∧f≤5000∧(∀ n,qg2 n c kind mode=some f)∧∀ n,qeL n c kind mode=some f:=by
 unfold cornerB at h
 simp only [jf,qbh,decide_eq_true_eq] at h
 obtain ⟨⟨h1,h2,h3,h4⟩,_⟩:=h
 unfold qg2 qeL
 cases kind==1
 ·cases mode==0
  ·exact ⟨_,h4.1,h4.2,fun _=>rfl,fun _=>rfl⟩
  ·exact ⟨_,h3.1,h3.2,fun _=>rfl,fun _=>rfl⟩
 ·cases mode==0
  ·exact ⟨_,h2.1,h2.2,fun _=>rfl,fun _=>rfl⟩
  ·exact ⟨_,h1.1,h1.2,fun _=>rfl,fun _=>rfl⟩
theorem que {p f mode:Int} (p0:0≤p) (p1:p≤400000000000) (f0:0≤f) (f1:f≤5000):(∀ n,qcx n (W64 (p*f)) 1000 mode=some (divI (p*f) 1000 mode))∧∀ n,qla n p f mode=some (divI (p*f) 1000 mode):=by
 have h0:=jS p0 f0
 have h1:p*f≤400000000000*5000:=jV p1 f1 f0 (by omega)
 have e:W64 (p*f)=p*f:=qN (by omega) (by omega)
 have hd:=fun n=>qkZ (n:=n) (a:=p*f) (b:=1000) (mode:=mode) (by omega) (by omega) (by omega)
 refine ⟨fun n=>by rw [e];exact hd n,fun n=>?_⟩
 unfold qla
 rw [e,qtE (m:=0),hd 0]
 rfl
theorem qxa {l h H:Int} (h0:0≤l) (h1:l<h) (h2:h≤H) (hH:H≤3000000000):W64 (W64 (W64 (l+h)+1) |>.tdiv 2)=(l+h+1) / 2∧W64 ((l+h+1) / 2*((l+h+1) / 2))=(l+h+1) / 2*((l+h+1) / 2)∧W64 ((l+h+1) / 2-1)=(l+h+1) / 2-1:=by
 have hm:0≤(l+h+1) / 2∧(l+h+1) / 2≤3000000000:=by omega
 have hq:(l+h+1) / 2*((l+h+1) / 2)≤3000000000*3000000000:=jV hm.2 hm.2 hm.1 (by omega)
 have hq0:=jS hm.1 hm.1
 rw [wO (l+h),wO (l+h+1),jG (by omega),wO ((l+h+1) / 2),wO ((l+h+1) / 2-1)]
 exact ⟨rfl,qN (by omega) (by omega),rfl⟩
theorem qxO {y mode:Int} (h0:0≤y) (h1:y≤4000000000000000000):∃ v,IsRoot y v∧v≤2000000000∧Ev (fun n=>qis n y mode) (if mode=1∧v*v<y then v+1 else v):=by
 obtain ⟨v,r1,r2,r3⟩:=qsr (Lf:=fun n l h=>qdZ y n l h) (fin:=fun l=>(l,l)) (x:=y) (H:=2000000000) h0 (by omega) (by omega)
  (fun n l _ _=>by simp only [qdZ,show decide (l<l)=false from decide_eq_false (Int.lt_irrefl l),cond_false])
  (fun n l h hl hlt hh=>by
   obtain ⟨e1,e2,e3⟩:=qxa hl hlt hh (by omega)
   simp only [qdZ,decide_eq_true hlt,cond_true,e1,e2,e3])
 refine ⟨v,r1,r2,?_⟩
 unfold qis
 refine Ev.bind r3 ?_
 have hv:=r1.pos
 have hq:v*v≤2000000000*2000000000:=jV r2 r2 hv (by omega)
 have hq0:=jS hv hv
 simp only [wO (v*v),wO (v+1)]
 by_cases hm:mode=1
 ·refine Ev.tt (by simpa using hm) ?_
  by_cases hl:v*v<y
  ·rw [if_pos ⟨hm,hl⟩];exact Ev.tt (decide_eq_true hl) .done
  ·rw [if_neg fun h=>hl h.2];exact Ev.ff (decide_eq_false hl) .done
 ·rw [if_neg fun h=>hm h.1]
  exact Ev.ff (by simpa using hm) .done
theorem qx6 {y:Int} (h0:0≤y) (h1:y≤4000000000000000000):∃ v,IsRoot y v∧v≤3000000000∧Ev (fun n=>qnS n y) v:=by
 obtain ⟨v,r1,r2,r3⟩:=qsr (Lf:=fun n l h=>qga y n l h) (fin:=fun l=>(l,l)) (x:=y) (H:=3000000000) h0 (by omega) (by omega)
  (fun n l _ _=>by simp only [qga,show decide (l<l)=false from decide_eq_false (Int.lt_irrefl l),cond_false])
  (fun n l h hl hlt hh=>by
   obtain ⟨e1,e2,e3⟩:=qxa hl hlt hh (by omega)
   simp only [qga,decide_eq_true hlt,cond_true,e1,e2,e3])
 refine ⟨v,r1,r2,?_⟩
 unfold qnS
 exact Ev.bind r3 .done
theorem qwA {sl d mode:Int} (s0:0≤sl) (s1:sl≤1000000) (d0:0≤d) (d1:d≤344000000) (hm:mode=0∨mode=1):∃ r:Int,0≤r ∧
  Ev (fun n=>(qis n (W64 (W64 (W64 (1000000*sl)*sl)+W64 (W64 (4*d)*d))) mode).bind fun r2=>(qcx n r2 1000 mode).bind fun r3=>some r3) r∧Ev (fun n=>qjw n sl d mode) r:=by
 have q1:=jS s0 s0
 have q2:sl*sl≤1000000*1000000:=jV s1 s1 s0 (by omega)
 have q3:=jS d0 d0
 have q4:d*d≤344000000*344000000:=jV d1 d1 d0 (by omega)
 have e1:W64 (W64 (W64 (1000000*sl)*sl)+W64 (W64 (4*d)*d))=4*(250000*(sl*sl)+d*d):=by
  rw [wO (1000000*sl),wO (4*d),jT 1000000,jT 4,wO (1000000*(sl*sl)),wO (4*(d*d)),qN (by omega) (by omega)]
  omega
 have e2:W64 (W64 (W64 (W64 (500*sl)*500)*sl)+W64 (d*d))=250000*(sl*sl)+d*d:=by
  rw [wO (500*sl),wO (500*sl*500),show 500*sl*500*sl=250000*(sl*sl) by rw [←jT];congr 1;omega,wO (250000*(sl*sl)),wO (d*d),qN (by omega) (by omega)]
 obtain ⟨v,v1,v2,v3⟩:=qxO (mode:=mode) (y:=4*(250000*(sl*sl)+d*d)) (by omega) (by omega)
 obtain ⟨w,w1,w2,w3⟩:=qx6 (y:=250000*(sl*sl)+d*d) (by omega) (by omega)
 have hr:=qvk w1 v1 hm
 have hv:=v1.pos
 have hw:=w1.pos
 have hv1:0≤(if mode=1∧v*v<4*(250000*(sl*sl)+d*d) then v+1 else v)∧(if mode=1∧v*v<4*(250000*(sl*sl)+d*d) then v+1 else v)≤1000*3000000:=by split<;>omega
 refine ⟨_,(qtz (b:=1000) (mode:=mode) (M:=3000000) (by omega) hv1.1 hv1.2).1,?_,?_⟩
 ·rw [e1]
  exact Ev.bind v3 (Ev.bind ⟨0,fun n _=>qkZ (by omega) (by omega) (by omega)⟩ .done)
 ·rw [hr]
  unfold qjw
  rw [e2]
  refine Ev.bind w3 ?_
  have hq:w*w≤3000000000*3000000000:=jV w2 w2 hw (by omega)
  have hq0:=jS hw hw
  have ed:(fun n=>qfa n w 500 mode)=fun _=>some (divI w 500 mode):=by
   funext n
   rw [qtE (m:=0),qkZ (by omega) (by omega) (by omega)]
  have hdv:=congrFun ed
  simp only [wO (w*w),jG hw,wO (w / 500),wO (w / 500+1),hdv,jd]
  rcases hm with rfl|rfl
  ·rw [if_neg (by omega)]
   exact .done
  ·by_cases hl:w*w<250000*(sl*sl)+d*d
   ·rw [if_pos ⟨rfl,hl⟩,decide_eq_true hl];exact .done
   ·rw [if_neg fun h=>hl h.2,decide_eq_false hl];exact .done
theorem qtN {t:qr} (h:TbOk t∧∀ k,0≤at0 t.Bh k) (sl ld mode:Int):∃ r:Int,0≤r∧r≤1000000∧Ev (fun n=>qhh n t sl ld mode) r∧Ev (fun n=>qdJ n t sl ld mode) r:=by
 obtain ⟨S,D,D0,S1,_,_,_,S0,hev⟩:=qyO h.1 sl ld
 obtain ⟨r0,r1⟩:=qtz (mode:=mode) D0 (S0 h.2) S1
 exact ⟨_,r0,r1,hev mode⟩
theorem qu1 {b:qg} {ex:List Int} {x:qu} {j net:Nat} (jl:j<(places b.Ab).length) (hn:(gt (places b.Ab) j).net=(net:Int)) (hh:W64 (x.To.tdiv 2)=(j:Int)) (n:Nat):qeZ n (some (viewE b ex)) x=some (net:Int):=by
 unfold qeZ
 show (idx (places b.Ab) (W64 (x.To.tdiv 2))).bind _=_
 rw [hh,qB jl]
 exact congrArg some hn
theorem qxL {b:qg} {ex:List Int} (h:blockB b=true) {x:qu} {i j m net a:Nat} (hx:CLk b x i j m net a) (n:Nat):qgs n (some (viewE b ex)) x=some (gt (cellAt b (i:Int)).Au a):=by
 obtain ⟨⟨c0,c1⟩,_,_⟩:=qhk (qat h) hx.il
 unfold qgs
 show (idx (places b.Ab) (W64 (x.To.tdiv 2))).bind (fun y2=>(idx b.Ab.Aa y2.instance_).bind fun y3=>(idx b.Av.As y3.Bt).bind fun y4=>(idx y4.Au x.Bz).bind fun y5=>some y5)=_
 rw [hx.half,qB hx.jl,jd,hx.inst,qB hx.il,jd,qdY c0 c1,jd,hx.ix]
 show (idx (cellAt b (i:Int)).Au (a:Int)).bind _=_
 rw [qB hx.al];rfl
theorem qsI {b:qg} (h:blockB b=true) {x:qu} {i j m net a:Nat} (hx:CLk b x i j m net a):Ev (fun n=>qjG n b x) (gt (cellAt b (i:Int)).Au a,load0 b net):=by
 have hd:=qat h
 have hs:=qY hd
 obtain ⟨⟨c0,c1⟩,_,_⟩:=qhk hd hx.il
 have hp:idx ((places b.Ab).map toSp) (j:Int)=some (toSp (gt (places b.Ab) j)):=by
  refine qan ?_
  rw [List.getElem?_map,ji hx.jl,qfx hx.jl];rfl
 have hll:=qml h hx.nl
 have hlo:=(qbu h hx.nl).lo
 have h1:(toSp (gt (places b.Ab) j)).instance_=(i:Int):=hx.inst
 have h2:(toSp (gt (places b.Ab) j)).net=(net:Int):=hx.net_
 have h3:idx (gt b.Av.As (gt b.Ab.Aa i).Bt.toNat).Au (a:Int)=some (gt (cellAt b (i:Int)).Au a):=qB hx.al
 unfold qjG
 refine Ev.bind (qie hs) ?_
 simp only [hx.half,hp,jd,h1,h2,qB hx.il,qdY c0 c1,hx.ix,h3]
 refine Ev.bind (qqg h hx.nl) ?_
 rw [show idx (loadsL b net) (0:Int)=some (load0 b net) from qB (j:=0) (by omega)]
 exact .done
theorem qsO {b:qg} (h:blockB b=true) {x:qu} {j net k:Nat} (hx:WLk b x j net k):Ev (fun n=>qjV n b x) (net:Int):=by
 have hs:=qY (qat h)
 have hp:idx ((places b.Ab).map toSp) (j:Int)=some (toSp (gt (places b.Ab) j)):=by
  refine qan ?_
  rw [List.getElem?_map,ji hx.jl,qfx hx.jl];rfl
 have h2:(toSp (gt (places b.Ab) j)).net=(net:Int):=hx.net_
 unfold qjV
 refine Ev.bind (qie hs) ?_
 simp only [hx.half,hp,jd,h2]
 exact .done
theorem qqQ {b:qg} {c:qt} (ex:List Int) (h:blockB b=true) (hc:cornerB c=true) {k:Nat} (hk:k<(linksL b).length) {sl mode:Int} (s0:0≤sl) (s1:sl≤1000000) (hm:mode=0∨mode=1) :
  (∃ D:Int,Ev (fun n=>qbT n b c (gt (linksL b) k) sl mode) D∧Ev (fun n=>qbi n (some (viewE b ex)) c (k:Int) sl mode) D) ∧
  ∃ S:Int,0≤S∧S≤1000000∧Ev (fun n=>qcm n b (gt (linksL b) k) sl mode) S∧Ev (fun n=>qaL n (some (viewE b ex)) (k:Int) sl mode) S:=by
 have hv:idx (viewE b ex).links (k:Int)=some (gt (linksL b) k):=qB hk
 obtain ⟨hx,_⟩:=qig h (qmm hk)
 generalize gt (linksL b) k=x at hx hv
 rcases hx with ⟨i,j,m,net,a,hx⟩|⟨j,net,q,hx⟩
 ·have hnet:=qu1 (ex:=ex) hx.jl hx.net_ hx.half
  have harc:=qxL (ex:=ex) h hx
  have hld:idx (viewE b ex).loads (net:Int)=some (load0 b net):=qiz (f:=load0 b) hx.nl
  obtain ⟨f,f0,f1,sF,iF⟩:=qsU hc (kind:=x.Bf) (mode:=mode)
  have dl:m<(gt (cellAt b (i:Int)).Au a).Bn.length:=by rw [hx.d2];exact hx.ml
  have sL:m<(gt (cellAt b (i:Int)).Au a).Bc.length:=by rw [hx.s2];exact hx.ml
  obtain ⟨r,r0,r1,rs,ri⟩:=qtN (hx.dt _ (qmm dl)) sl (load0 b net) mode
  obtain ⟨u,u0,u1,us,ui⟩:=qtN (hx.st _ (qmm sL)) sl (load0 b net) mode
  obtain ⟨c1,c2⟩:=que (mode:=mode) r0 (by omega) (show 0≤f by omega) f1
  have hk1:(x.Bf==1)=true:=by rw [hx.kind];rfl
  refine ⟨⟨divI (r*f) 1000 mode,?_,?_⟩,⟨u,u0,u1,?_,?_⟩⟩
  ·unfold qbT
   refine Ev.tt hk1 (Ev.bind (qsI h hx) ?_)
   simp only [hx.mod,qB dl,jd,sF]
   exact Ev.bind rs (Ev.bind ⟨0,fun n _=>c1 n⟩ .done)
  ·unfold qbi
   simp only [jd,hv,hnet,hld,harc,hx.mod,qB dl,iF]
   exact Ev.tt hk1 (Ev.bind ri (Ev.bind ⟨0,fun n _=>c2 n⟩ .done))
  ·unfold qcm
   refine Ev.tt hk1 (Ev.bind (qsI h hx) ?_)
   simp only [hx.mod,qB sL,jd]
   exact Ev.bind us .done
  ·unfold qaL
   simp only [jd,hv,hnet,hld,harc,hx.mod,qB sL]
   refine Ev.tt hk1 (Ev.bind ui (Ev.now ?_))
   rw [if_neg (by omega)]
 ·have hnet:=qu1 (ex:=ex) hx.jl hx.net_ hx.half
  have hde:idx (viewE b ex).delays (net:Int)=some (exactL b net):=qiz (f:=exactL b) hx.nl
  have hel:(exactL b net).length=(gt b.Ac net).Bl.length:=by unfold exactL;rw [jz]
  have hq:q<(exactL b net).length:=by rw [hel];exact hx.kl
  obtain ⟨x0,x1⟩:=qrS h hx.nl hx.kl
  obtain ⟨f,f0,f1,sF,iF⟩:=qsU hc (kind:=x.Bf) (mode:=mode)
  have dd:=fun n=>qkZ (n:=n) (a:=gt (exactL b net) q) (b:=1000) (mode:=mode) (by omega) (by omega) (by omega)
  obtain ⟨p0,p1⟩:=qtz (a:=gt (exactL b net) q) (b:=1000) (mode:=mode) (M:=344000) (by omega) x0 (by omega)
  obtain ⟨c1,c2⟩:=que (mode:=mode) p0 (by omega) (show 0≤f by omega) f1
  have hk1:(x.Bf==1)=false:=by rw [hx.kind];rfl
  have hi:idx ((exactL b net).map fun x=>divI x 1000 mode) (q:Int)=some (divI (gt (exactL b net) q) 1000 mode):=by
   rw [qB (by rw [jz];exact hq),qpo hq]
  obtain ⟨u,u0,us,ui⟩:=qwA s0 s1 x0 x1 hm
  refine ⟨⟨divI (divI (gt (exactL b net) q) 1000 mode*f) 1000 mode,?_,?_⟩,⟨if u<1000000 then u else 1000000,by split<;>omega,by split<;>omega,?_,?_⟩⟩
  ·unfold qbT
   refine Ev.ff hk1 (Ev.bind (qsO h hx) (Ev.bind (qpz h hx.nl) ?_))
   simp only [hx.ix,hi,jd,sF]
   exact Ev.bind ⟨0,fun n _=>c1 n⟩ .done
  ·unfold qbi
   simp only [jd,hv,hnet,hde,hx.ix,qB hq,iF]
   refine Ev.ff hk1 (Ev.bind (b:=divI (gt (exactL b net) q) 1000 mode) ⟨0,fun n _=>(qtE (m:=0)).trans (dd 0)⟩ (Ev.bind ⟨0,fun n _=>c2 n⟩ .done))
  ·have hw:=qbu h hx.nl
   have hsn:=hw.sin q hx.kl
   have hdl:=qny h hx.nl
   have eg:gt (exactL b net) q=gt (delaysL b net) (at0 (gt b.Ac net).Bl q).toNat:=by
    unfold exactL
    rw [qfx (by rw [jz];exact hx.kl),List.getElem_map,qkL hx.kl]
   unfold qcm qmQ
   refine Ev.ff hk1 (Ev.bind (qsO h hx) ?_)
   simp only [hx.ix,qB hx.nl,jd,qah hx.kl]
   refine Ev.bind (b:=u) (Ev.bind (qoK h hx.nl) ?_) .done
   rw [qdY hsn.1 (show at0 (gt b.Ac net).Bl q<((delaysL b net).length:Int) by omega)]
   simp only [jd]
   rw [←eg]
   exact us
  ·unfold qaL
   simp only [jd,hv,hnet,hde,hx.ix,qB hq]
   refine Ev.ff hk1 (Ev.bind ui (Ev.now ?_))
   congr 1
   split<;>split<;>omega
theorem qqU {b:qg} {c:qt} (h:blockB b=true) (hc:cornerB c=true) {k:Nat} (hk:k<(linksL b).length) {sl mode:Int} (s0:0≤sl) (s1:sl≤1000000) (hm:mode=0∨mode=1) :
  (∃ D:Int,Ev (fun n=>qbT n b c (gt (linksL b) k) sl mode) D∧∀ ex,Ev (fun n=>qbi n (some (viewE b ex)) c (k:Int) sl mode) D) ∧
  ∃ S:Int,0≤S∧S≤1000000∧Ev (fun n=>qcm n b (gt (linksL b) k) sl mode) S∧∀ ex,Ev (fun n=>qaL n (some (viewE b ex)) (k:Int) sl mode) S:=by
 obtain ⟨⟨D,d1,_⟩,⟨S,a,c',s1',_⟩⟩:=qqQ [] h hc hk s0 s1 hm
 refine ⟨⟨D,d1,fun ex=>?_⟩,⟨S,a,c',s1',fun ex=>?_⟩⟩
 ·obtain ⟨⟨D',e1,e2⟩,_⟩:=qqQ ex h hc hk s0 s1 hm
  rw [d1.uniq e1];exact e2
 ·obtain ⟨_,⟨S',_,_,e1,e2⟩⟩:=qqQ ex h hc hk s0 s1 hm
  rw [s1'.uniq e1];exact e2
end Go.Fw


namespace Go.Fw
open Go
set_option maxRecDepth 100000
def slR (s:qf):Prop:=(0≤s.Ap∧s.Ap≤1000000)∧(0≤s.Be∧s.Be≤1000000)
def SpansS (b:qg) (c:qt) (f:Nat→qf→qf × qf):Prop:=∀ k s,k<(linksL b).length→slR s→slR (f k s).2∧Ev (fun n=>qhN n b c (gt (linksL b) k) s) (f k s)
def SpansI (b:qg) (c:qt) (ex:List Int) (f:Nat→qf→qf × qf):Prop:=∀ k s,k<(linksL b).length→slR s→slR (f k s).2∧Ev (fun n=>qgv n (some (viewE b ex)) c (k:Int) s) (f k s)
def exK (b:qg) (ex:List Int) (k:Nat):Int:=bif (gt (linksL b) k).Bf==2 then gt ex (gt (places b.Ab) ((gt (linksL b) k).To / 2).toNat).net.toNat else 0
def wideS (e:Int) (s:qf):qf:=⟨W64 (s.Ap-e),W64 (s.Be+e)⟩
def wideF (b:qg) (ex:List Int) (f:Nat→qf→qf × qf) (k:Nat) (s:qf):qf × qf:=bif decide (0<ex.length)&&((gt (linksL b) k).Bf==2) then (wideS (exK b ex k) (f k s).1,(f k s).2) else f k s
theorem qx4 {b:qg} {c:qt} (h:blockB b=true) (hc:cornerB c=true):∃ f,SpansS b c f∧∀ ex:List Int,ex.length=0∨ex.length=b.Ac.length→SpansI b c ex (wideF b ex f):=by
 have main:∀ x:Nat × qf,∃ r:qf × qf,x.1<(linksL b).length→slR x.2→slR r.2∧Ev (fun n=>qhN n b c (gt (linksL b) x.1) x.2) r∧∀ ex:List Int,ex.length=0∨ex.length=b.Ac.length→Ev (fun n=>qgv n (some (viewE b ex)) c (x.1:Int) x.2) (wideF b ex (fun _ _=>r) x.1 x.2):=by
  rintro ⟨k,s⟩
  by_cases hk:k<(linksL b).length∧slR s
  ·obtain ⟨hk,⟨e0,e1⟩,⟨l0,l1⟩⟩:=hk
   obtain ⟨⟨d1,p1,q1⟩,⟨u1,a1,b1,v1,w1⟩⟩:=qqU h hc hk e0 e1 (mode:=0) (.inl rfl)
   obtain ⟨⟨d2,p2,q2⟩,⟨u2,a2,b2,v2,w2⟩⟩:=qqU h hc hk e0 e1 (mode:=1) (.inr rfl)
   obtain ⟨⟨d3,p3,q3⟩,⟨u3,a3,b3,v3,w3⟩⟩:=qqU h hc hk l0 l1 (mode:=0) (.inl rfl)
   obtain ⟨⟨d4,p4,q4⟩,⟨u4,a4,b4,v4,w4⟩⟩:=qqU h hc hk l0 l1 (mode:=1) (.inr rfl)
   refine ⟨(⟨if d3<d1 then d3 else d1,if d4 > d2 then d4 else d2⟩,⟨if u3<u1 then u3 else u1,if u4 > u2 then u4 else u2⟩),fun _ _=>⟨⟨?_,?_⟩,?_,fun ex hex=>?_⟩⟩
   ·show 0≤(if u3<u1 then u3 else u1)∧(if u3<u1 then u3 else u1)≤1000000
    split<;>omega
   ·show 0≤(if u4 > u2 then u4 else u2)∧(if u4 > u2 then u4 else u2)≤1000000
    split<;>omega
   ·unfold qhN
    exact Ev.bind p1 (Ev.bind p2 (Ev.bind v1 (Ev.bind v2 (Ev.bind p3 (Ev.bind p4 (Ev.bind v3 (Ev.bind v4 .done)))))))
   ·unfold qgv
    refine Ev.bind (q1 ex) (Ev.bind (q3 ex) (Ev.bind (q2 ex) (Ev.bind (q4 ex) ?_)))
    have hv:idx (viewE b ex).links (k:Int)=some (gt (linksL b) k):=qB hk
    have hx:(viewE b ex).extras=ex:=rfl
    simp only [jd,hv,hx]
    unfold wideF
    have fin:∀ r:Int × Int,Ev (fun n=>(qaL n (some (viewE b ex)) (k:Int) s.Ap 0).bind fun r5=>(qaL n (some (viewE b ex)) (k:Int) s.Be 0).bind fun r6=>(qaL n (some (viewE b ex)) (k:Int) s.Ap 1).bind fun r7=>(qaL n (some (viewE b ex)) (k:Int) s.Be 1).bind fun r8 =>
      some ((⟨r.1,r.2⟩:qf),(⟨if r6<r5 then r6 else r5,if r8 > r7 then r8 else r7⟩:qf))) ((⟨r.1,r.2⟩:qf),(⟨if u3<u1 then u3 else u1,if u4 > u2 then u4 else u2⟩:qf)):=fun r=>Ev.bind (w1 ex) (Ev.bind (w3 ex) (Ev.bind (w2 ex) (Ev.bind (w4 ex) .done)))
    rw [show decide ((ex.length:Int) > 0)=decide (0<ex.length) by rw [decide_eq_decide];omega]
    cases hl:decide (0<ex.length)
    ·exact Ev.bind (b:=false) (Ev.now rfl) (Ev.bind (b:=(if d3<d1 then d3 else d1,if d4 > d2 then d4 else d2)) (Ev.now rfl) (fin _))
    ·cases hkd:(gt (linksL b) k).Bf==2
     ·exact Ev.bind (b:=false) (Ev.now rfl) (Ev.bind (b:=(if d3<d1 then d3 else d1,if d4 > d2 then d4 else d2)) (Ev.now rfl) (fin _))
     ·obtain ⟨hcs,_⟩:=qig h (qmm hk)
      rcases hcs with ⟨i,j,m,net,a,hx⟩|⟨j,net,q,hx⟩
      ·rw [hx.kind] at hkd;cases hkd
      ·have hn:=qu1 (ex:=ex) hx.jl hx.net_ hx.half
       have hlt:net<ex.length:=by
        have:=of_decide_eq_true hl
        have:=hx.nl
        omega
       have hT:=(qig h (qmm hk)).2.2
       have hpl:=qbb (qY (qat h))
       have ej:((gt (linksL b) k).To / 2).toNat=j:=by
        have:=hx.half
        rw [jG hT.1,qN (by omega) (by omega)] at this
        omega
       have eK:exK b ex k=gt ex net:=by
        unfold exK
        rw [hkd,ej,hx.net_,jn]
        rfl
       refine Ev.bind (b:=true) (Ev.now rfl) (Ev.bind (b:=(W64 ((if d3<d1 then d3 else d1)-gt ex net),W64 ((if d4 > d2 then d4 else d2)+gt ex net))) ?_ ?_)
       ·simp only [hn,jd,qB hlt]
        exact .done
       ·rw [eK]
        exact fin _
  ·exact ⟨(s,s),fun h1 h2=>absurd ⟨h1,h2⟩ hk⟩
 obtain ⟨f,hf⟩:=Classical.axiomOfChoice main
 exact ⟨fun k s=>f (k,s),fun k s h1 h2=>⟨(hf (k,s) h1 h2).1,(hf (k,s) h1 h2).2.1⟩,fun ex hex k s h1 h2=>⟨by
  have:=(hf (k,s) h1 h2).1
  unfold wideF
  cases decide (0<ex.length)&&((gt (linksL b) k).Bf==2)<;>exact this,(hf (k,s) h1 h2).2.2 ex hex⟩⟩
theorem qwD {b:qg} {f:Nat→qf→qf × qf}:wideF b [] f=f:=rfl
def zSp:qf:=⟨0,0⟩
def zSrc:qe:=⟨0,zSp,zSp⟩
def hullS (s t:qf):qf:=⟨if t.Ap<s.Ap then t.Ap else s.Ap,if t.Be > s.Be then t.Be else s.Be⟩
theorem qsE {s t:qf}:(⟨if s.Ap<t.Ap then s.Ap else t.Ap,if s.Be > t.Be then s.Be else t.Be⟩:qf)=hullS s t:=by
 unfold hullS
 congr 1
 ·split<;>split<;>omega
 ·split<;>split<;>omega
def plusS (s t:qf):qf:=⟨W64 (s.Ap+t.Ap),W64 (s.Be+t.Be)⟩
def joinS (node:Int) (s:Bool × qe) (ar sl:qf):Bool × qe:=bif s.1 then (true,⟨node,hullS s.2.Ai ar,hullS s.2.Bc sl⟩) else (true,⟨node,ar,sl⟩)
def frN (ls:List qu) (k:Nat):Nat:=(gt ls k).Bk.toNat
def stepS (f:Nat→qf→qf × qf) (ls:List qu) (t:qy) (node:Int) (s:Bool × qe) (k:Nat):Bool × qe :=
 bif gt t.Bg (frN ls k) then joinS node s (plusS (gt t.Ai (frN ls k)) (f k (gt t.Bc (frN ls k))).1) (f k (gt t.Bc (frN ls k))).2 else s
def toQ (ls:List qu) (lv:List Bool) (node:Int) (k:Nat):Bool:=lvL lv k&&(toL ls k==node)
def srcO (xs:List qe) (node:Int):Option qe:=xs.find? fun s=>s.Bq==node
def srcV (o:Option qe):Bool × qe:=match o with|some y=>(true,y)|none=>(false,zSrc)
def ndS (f:Nat→qf→qf × qf) (ls:List qu) (lv:List Bool) (t:qy) (node:Int) (s0:Bool × qe):Nat→Bool × qe
 | 0=>s0
 | k+1=>bif toQ ls lv node k then stepS f ls t node (ndS f ls lv t node s0 k) k else ndS f ls lv t node s0 k
theorem qxR {f:Nat→qf→qf × qf} {ls:List qu} {lv:List Bool} {t:qy} {node:Int} {s0:Bool × qe} {j:Nat}:(selN (toQ ls lv node) j).foldl (stepS f ls t node) s0=ndS f ls lv t node s0 j:=by
 induction j with
 | zero=>rfl
 | succ j ih =>
  rw [qnY,List.foldl_append,ih]
  show _=bif toQ ls lv node j then stepS f ls t node (ndS f ls lv t node s0 j) j else ndS f ls lv t node s0 j
  cases toQ ls lv node j<;>rfl
structure TmOk (t:qy) (M:Nat):Prop where
 r:t.Bg.length=M
 a:t.Ai.length=M
 s:t.Bc.length=M
 sl:∀ k,k<M→slR (gt t.Bc k)
structure SrcOk (xs:List qe):Prop where
 len:xs.length≤1048576
 inc:∀ j i,i<j→j<xs.length→(gt xs i).Bq<(gt xs j).Bq
 sl:∀ x,x ∈ xs→slR x.Bc
theorem qrM {xs:List qe} {node:Int} (hl:xs.length≤1048576):Ev (fun n=>qeh n xs node) ((srcV (srcO xs node)).2,(srcV (srcO xs node)).1):=by
 have h1:Ev (fun n=>qaI n xs node) (ixL (fun s=>s.Bq==node) xs) :=
  qfX (fin:=(xs.length:Int)) (Lf:=qS xs node) (xs:=xs) (pf:=fun n x=>qj9 n x node) (fun _ _=>.done)
   (fun n=>by simp only [qS,ql (je _),cond_false])
   (fun n j x hx=>by
    have hj:=(List.getElem?_eq_some_iff.1 hx).1
    simp only [qS,qk hj,cond_true,qan hx,jd,wS j])
   (fun n=>by unfold qaI;congr 1;funext o;cases o<;>rfl)
 unfold qeh
 refine Ev.bind h1 ?_
 unfold ixL srcO
 cases hf:xs.findIdx? (fun s=>s.Bq==node) with
 | none =>
  have:xs.find? (fun s=>s.Bq==node)=none:=by
   rw [List.find?_eq_none]
   intro x hx
   have:=List.findIdx?_eq_none_iff.1 hf x hx
   simpa using this
  rw [this]
  exact Ev.ff rfl .done
 | some j =>
  obtain ⟨hj,hp,hn⟩:=List.findIdx?_eq_some_iff_getElem.1 hf
  have:xs.find? (fun s=>s.Bq==node)=some xs[j]:=by
   rw [List.find?_eq_some_iff_getElem]
   exact ⟨hp,j,hj,rfl,fun i hi=>by have:=hn i hi;simpa using this⟩
  rw [this]
  refine Ev.tt (show decide ((j:Int) ≥ 0)=true from decide_eq_true (by omega)) ?_
  show Ev (fun n=>(idx xs (j:Int)).bind _) _
  rw [qgR hj]
  exact .done
theorem qmc {xs:List qe} {node:Int} {y:qe} (h:srcO xs node=some y):y.Bq=node∧y ∈ xs:=by
 have h1:=List.find?_some h
 exact ⟨by simpa using h1,List.mem_of_find?_eq_some h⟩
theorem qyS {xs:List qe} {node:Int} (h:SrcOk xs) :
  Ev (fun n=>qc2 xs node n 0 0 0 0 0 false 0) ((srcV (srcO xs node)).2.Bq,(srcV (srcO xs node)).2.Ai.Ap,(srcV (srcO xs node)).2.Ai.Be,(srcV (srcO xs node)).2.Bc.Ap,(srcV (srcO xs node)).2.Bc.Be,(srcV (srcO xs node)).1,(xs.length:Int)):=by
 have hl:=h.len
 have:=loopF (τ:=Bool × qe) (Lf:=fun n s j=>qc2 xs node n s.2.Bq s.2.Ai.Ap s.2.Ai.Be s.2.Bc.Ap s.2.Bc.Be s.1 j) (S:=fun j=>srcV (srcO (xs.take j) node)) (len:=xs.length)
  (fin:=((srcV (srcO xs node)).2.Bq,(srcV (srcO xs node)).2.Ai.Ap,(srcV (srcO xs node)).2.Ai.Be,(srcV (srcO xs node)).2.Bc.Ap,(srcV (srcO xs node)).2.Bc.Be,(srcV (srcO xs node)).1,(xs.length:Int)))
  (fun n=>by simp only [qc2,ql (je _),cond_false,jD])
  (fun j hj X hX=>by
   simp only [qc2,qk hj,cond_true,qB hj,jd,wS j]
   have e:srcO (xs.take (j+1)) node=(srcO (xs.take j) node).or (bif (gt xs j).Bq==node then some (gt xs j) else none):=by
    unfold srcO
    rw [jv hj,List.find?_append,←qfx hj]
    congr 1
   cases hq:(gt xs j).Bq==node
   ·rw [hq] at e
    have e:srcO (xs.take (j+1)) node=srcO (xs.take j) node:=by rw [e];cases srcO (xs.take j) node<;>rfl
    rw [e] at hX
    exact hX
   ·rw [hq] at e
    have hn:srcO (xs.take j) node=none:=by
     unfold srcO
     rw [List.find?_eq_none]
     intro x hx hxn
     obtain ⟨i,hi,rfl⟩:=List.mem_iff_getElem.1 hx
     rw [jI] at hi
     rw [List.getElem_take,←qfx (by omega)] at hxn
     have:=h.inc j i (by omega) hj
     simp only [beq_iff_eq] at hq hxn
     omega
    have e:srcO (xs.take (j+1)) node=some (gt xs j):=by rw [e,hn];rfl
    rw [e] at hX
    exact hX)
 exact this
theorem qu6 {ls:List qu} {M:Nat} (h:LkOk ls M) {k:Nat} (hk:k<ls.length):(gt ls k).Bk=(frN ls k:Int)∧frN ls k<M:=by
 have h0:=h.fr0 k hk
 have h1:=h.fr1 k hk
 unfold frN
 omega
section
variable {b:qg} {c:qt} {ex:List Int} {f:Nat→qf→qf × qf} {lv:List Bool} {t:qy} {xs:List qe} {node:Int}
theorem qyk (h:blockB b=true) (hf:SpansS b c f) (hl:lv.length=(linksL b).length) (ht:TmOk t (2*(places b.Ab).length)) (hx:SrcOk xs) :
  Ev (fun n=>qiO n b c (linksL b) lv xs t node) (ndS f (linksL b) lv t node (srcV (srcO xs node)) (linksL b).length):=by
 have hk:=qlU h
 have hkl:=hk.len
 have hL:=loopF (τ:=Bool × qe) (Lf:=fun n s j=>qc8 b c (linksL b) lv t node n s.2.Bq s.2.Ai.Ap s.2.Ai.Be s.2.Bc.Ap s.2.Bc.Be s.1 j) (S:=fun j=>ndS f (linksL b) lv t node (srcV (srcO xs node)) j) (len:=(linksL b).length)
  (fin:=(fun s:Bool × qe=>(s.2.Bq,s.2.Ai.Ap,s.2.Ai.Be,s.2.Bc.Ap,s.2.Bc.Be,s.1,((linksL b).length:Int))) (ndS f (linksL b) lv t node (srcV (srcO xs node)) (linksL b).length))
  (fun n=>by simp only [qc8,ql (je _),cond_false])
  (fun j hj X hX=>by
   obtain ⟨e1,e2⟩:=qu6 hk hj
   have eN:ndS f (linksL b) lv t node (srcV (srcO xs node)) (j+1)=bif toQ (linksL b) lv node j then stepS f (linksL b) t node (ndS f (linksL b) lv t node (srcV (srcO xs node)) j) j else ndS f (linksL b) lv t node (srcV (srcO xs node)) j:=rfl
   rw [eN] at hX
   generalize ndS f (linksL b) lv t node (srcV (srcO xs node)) j=s at hX ⊢
   simp only [qc8,qk hj,cond_true,qB hj,qB (show j<lv.length by omega),jd,e1,qB (show frN (linksL b) j<t.Bg.length by rw [ht.r];exact e2),qB (show frN (linksL b) j<t.Ai.length by rw [ht.a];exact e2),qB (show frN (linksL b) j<t.Bc.length by rw [ht.s];exact e2),wS j]
   unfold toQ lvL toL at hX
   cases h1:gt lv j
   ·rw [h1] at hX;exact hX
   rw [h1,jA] at hX
   cases h2:(gt (linksL b) j).To==node
   ·rw [h2] at hX
    simp only [bne,h2]
    exact hX
   rw [h2] at hX
   simp only [bne,h2]
   unfold stepS at hX
   cases h3:gt t.Bg (frN (linksL b) j)
   ·rw [h3] at hX;exact hX
   rw [h3] at hX
   simp only [cond_true] at hX
   obtain ⟨_,s1⟩:=hf j _ hj (ht.sl _ e2)
   refine Ev.bind (b:=false) (Ev.now rfl) (Ev.ff rfl (Ev.bind s1 ?_))
   generalize f j (gt t.Bc (frN (linksL b) j))=q at hX ⊢
   unfold joinS at hX
   cases h4:s.1
   ·rw [h4] at hX;exact hX
   ·rw [h4] at hX
    simp only [qkA,jd,cond_true]
    have a1:=qsE (s:=s.2.Ai) (t:=plusS (gt t.Ai (frN (linksL b) j)) q.1)
    have a2:=qsE (s:=s.2.Bc) (t:=q.2)
    simp only [cond_true] at hX
    rw [←a1,←a2] at hX
    exact hX)
 unfold qiO
 exact Ev.bind (qyS hx) (Ev.bind hL .done)
theorem qAb {ls:List qu} {M:Nat} {ps:List Tplace} {lo:List Int} {de:List (List Int)} {ex:List Int} (h:LkOk ls M) (hl:lv.length=ls.length):Ev (fun n=>qjs n (grV ls lv ps b lo de ex) node) (ints (selN (toQ ls lv node) ls.length)):=by
 have hll:=h.len
 have hL:Ev (fun n=>qJ node ⟨some ⟨b,ps,ls,lo,de,ex⟩,lv⟩ ⟨b,ps,ls,lo,de,ex⟩ n ([]:List Int) 0) (ints (selN (toQ ls lv node) ls.length),(ls.length:Int)):=by
  refine qpI (q:=toQ ls lv node) (Lf:=qJ node ⟨some ⟨b,ps,ls,lo,de,ex⟩,lv⟩ ⟨b,ps,ls,lo,de,ex⟩) (len:=ls.length) (by omega) (Ev.succ ?_) (fun j hj t ht X h1 h2=>?_)
  ·simp only [qJ,ql (je _),cond_false];exact .done
  ·simp only [qJ,qk hj,cond_true,qB hj,qB (show j<lv.length by omega),jd,qj7,ht,wS j]
   unfold toQ lvL toL at h1 h2
   cases hq:gt lv j
   ·simp only [cond_false];exact h2 (by rw [hq];rfl)
   ·simp only [cond_true]
    cases hw:(gt ls j).To==node
    ·simp only [cond_false];exact h2 (by rw [hq,hw];rfl)
    ·simp only [cond_true];exact h1 (by rw [hq,hw];rfl)
 unfold qjs qcD grV
 simp only [jd]
 exact Ev.bind (Ev.bind hL .done) .done
def fixS (node:Int) (s:Bool × qe):Bool × qe:=bif s.1 then s else (false,⟨node,zSp,zSp⟩)
theorem qyg (h:blockB b=true) (hf:SpansI b c ex f) (hl:lv.length=(linksL b).length) (ht:TmOk t (2*(places b.Ab).length)) (hx:xs.length≤1048576) :
  Ev (fun n=>qdC n (some ⟨some (viewE b ex),lv⟩) c xs t node) (ndS f (linksL b) lv t node (srcV (srcO xs node)) (linksL b).length):=by
 have hk:=qlU h
 have hkl:=hk.len
 have hsel:=qoR (q:=toQ (linksL b) lv node) (j:=(linksL b).length)
 have hnd:∀ j,(ndS f (linksL b) lv t node (srcV (srcO xs node)) j).1=true→(ndS f (linksL b) lv t node (srcV (srcO xs node)) j).2.Bq=node:=by
  intro j
  induction j with
  | zero =>
   show (srcV (srcO xs node)).1=true→(srcV (srcO xs node)).2.Bq=node
   cases hs:srcO xs node with
   | none=>intro e;cases e
   | some y=>exact fun _=>(qmc hs).1
  | succ j ih =>
   unfold ndS
   cases toQ (linksL b) lv node j
   ·exact ih
   ·simp only [cond_true]
    unfold stepS
    cases gt t.Bg (frN (linksL b) j)
    ·exact ih
    ·simp only [cond_true]
     unfold joinS
     cases (ndS f (linksL b) lv t node (srcV (srcO xs node)) j).1<;>exact fun _=>rfl
 have hz:∀ j,(ndS f (linksL b) lv t node (srcV (srcO xs node)) j).1=false→(ndS f (linksL b) lv t node (srcV (srcO xs node)) j).2=zSrc:=by
  intro j
  induction j with
  | zero =>
   show (srcV (srcO xs node)).1=false→(srcV (srcO xs node)).2=zSrc
   cases srcO xs node with
   | none=>exact fun _=>rfl
   | some y=>intro e;cases e
  | succ j ih =>
   unfold ndS
   cases toQ (linksL b) lv node j
   ·exact ih
   ·simp only [cond_true]
    unfold stepS
    cases gt t.Bg (frN (linksL b) j)
    ·exact ih
    ·simp only [cond_true]
     unfold joinS
     cases (ndS f (linksL b) lv t node (srcV (srcO xs node)) j).1<;>(intro e;cases e)
 have fl:∀ (l:List Nat) (s:Bool × qe),(∀ k,k ∈ l→toQ (linksL b) lv node k=true)→l.foldl (fun s k=>fixS node (stepS f (linksL b) t node s k)) (fixS node s)=fixS node (l.foldl (stepS f (linksL b) t node) s):=by
  intro l
  induction l with
  | nil=>intro s _;rfl
  | cons k l ih =>
   intro s hq
   have e:fixS node (stepS f (linksL b) t node (fixS node s) k)=fixS node (stepS f (linksL b) t node s k):=by
    unfold stepS
    obtain ⟨s1,s2⟩:=s
    cases gt t.Bg (frN (linksL b) k)<;>cases s1<;>rfl
   rw [List.foldl_cons,List.foldl_cons,e]
   exact ih _ fun k' hk'=>hq k' (jo _ hk')
 have hL:=(qwI (τ:=Bool × qe) (xs:=selN (toQ (linksL b) lv node) (linksL b).length) (Lf:=fun n s j=>qbn (some ⟨some (viewE b ex),lv⟩) c t (ints (selN (toQ (linksL b) lv node) (linksL b).length)) n s.1 s.2.Bq s.2.Ai.Ap s.2.Ai.Be s.2.Bc.Ap s.2.Bc.Be j)
  (step:=fun s k=>fixS node (stepS f (linksL b) t node s k)) (fin:=fun s=>(s.1,s.2.Bq,s.2.Ai.Ap,s.2.Ai.Be,s.2.Bc.Ap,s.2.Bc.Be,((ints (selN (toQ (linksL b) lv node) (linksL b).length)).length:Int))) (fixS node (srcV (srcO xs node))) (fun _ s=>s=fixS node s∧s.2.Bq=node) (by
   constructor
   ·unfold fixS
    cases hs:(srcV (srcO xs node)).1
    ·rfl
    ·simp only [hs,cond_true]
   ·unfold fixS
    cases hs:srcO xs node with
    | none=>rfl
    | some y=>exact (qmc hs).1)
  (fun j s hj hs=>by
   obtain ⟨h1,h2⟩:=hs
   have key:(stepS f (linksL b) t node s (selN (toQ (linksL b) lv node) (linksL b).length)[j]).2.Bq=node:=by
    unfold stepS
    cases gt t.Bg (frN (linksL b) (selN (toQ (linksL b) lv node) (linksL b).length)[j])
    ·exact h2
    ·unfold joinS
     cases s.1<;>rfl
   constructor
   ·unfold fixS
    cases hs:(stepS f (linksL b) t node s (selN (toQ (linksL b) lv node) (linksL b).length)[j]).1
    ·rfl
    ·simp only [hs,cond_true]
   ·unfold fixS
    cases hs:(stepS f (linksL b) t node s (selN (toQ (linksL b) lv node) (linksL b).length)[j]).1
    ·rfl
    ·exact key)
  (fun n s=>by simp only [qbn,qd3,ql (je _),cond_false])
  (fun j s hj hs X hX=>by
   obtain ⟨hfx,hsn⟩:=hs
   have hi:=qpi hj
   have hm:(selN (toQ (linksL b) lv node) (linksL b).length)[j]<(linksL b).length:=(qo5.1 (jp hj)).1
   generalize (selN (toQ (linksL b) lv node) (linksL b).length)[j]=k at hi hm hX
   obtain ⟨e1,e2⟩:=qu6 hk hm
   have hv:idx (viewE b ex).links (k:Int)=some (gt (linksL b) k):=qB hm
   simp only [qbn,qd3,qk hj,cond_true,hi,hv,jd,e1,qB (show frN (linksL b) k<t.Bg.length by rw [ht.r];exact e2),qB (show frN (linksL b) k<t.Ai.length by rw [ht.a];exact e2),qB (show frN (linksL b) k<t.Bc.length by rw [ht.s];exact e2),wS j]
   unfold stepS at hX
   cases h3:gt t.Bg (frN (linksL b) k)
   ·rw [h3] at hX
    simp only [cond_false] at hX
    rw [←hfx] at hX
    exact hX
   rw [h3] at hX
   simp only [cond_true] at hX ⊢
   obtain ⟨_,s1⟩:=hf k _ hm (ht.sl _ e2)
   refine Ev.bind s1 ?_
   generalize f k (gt t.Bc (frN (linksL b) k))=q at hX ⊢
   simp only [qld,jd]
   unfold joinS at hX
   unfold qf0
   cases h4:s.1
   ·rw [h4] at hX
    simp only [Bool.not_false,cond_true,jd]
    unfold fixS at hX
    simp only [cond_false,cond_true] at hX
    rw [hsn]
    exact hX
   ·rw [h4] at hX
    simp only [Jb,cond_false,qi1,jd]
    unfold fixS at hX
    simp only [cond_true] at hX
    rw [hsn]
    exact hX)).1
 rw [fl _ _ (fun k hk'=>(qo5.1 hk').2),qxR] at hL
 unfold qdC
 refine Ev.bind (qrM hx) ?_
 have e0:(bif (srcV (srcO xs node)).1 then (qf0 0 ⟨node,⟨0,0⟩,⟨0,0⟩⟩ false ⟨(srcV (srcO xs node)).2.Ai.Ap,(srcV (srcO xs node)).2.Ai.Be⟩ ⟨(srcV (srcO xs node)).2.Bc.Ap,(srcV (srcO xs node)).2.Bc.Be⟩).bind (fun o=>match o with|(x9,x10)=>some (x10,x9.Bq,x9.Ai.Ap,x9.Ai.Be,x9.Bc.Ap,x9.Bc.Be)) else some (false,node,(0:Int),(0:Int),(0:Int),(0:Int))) =
   some ((fixS node (srcV (srcO xs node))).1,(fixS node (srcV (srcO xs node))).2.Bq,(fixS node (srcV (srcO xs node))).2.Ai.Ap,(fixS node (srcV (srcO xs node))).2.Ai.Be,(fixS node (srcV (srcO xs node))).2.Bc.Ap,(fixS node (srcV (srcO xs node))).2.Bc.Be):=by
  cases hs:srcO xs node with
  | none=>rfl
  | some y =>
   have:=(qmc hs).1
   unfold fixS srcV
   simp only [cond_true,this]
   rfl
 refine Ev.bindN e0 (Ev.bind (qAb (ps:=places b.Ab) (lo:=pre (load0 b) b.Ac.length) (de:=pre (exactL b) b.Ac.length) (ex:=ex) hk hl) (Ev.bind hL ?_))
 have z:=hz (linksL b).length
 generalize ndS f (linksL b) lv t node (srcV (srcO xs node)) (linksL b).length=s at z ⊢
 unfold fixS
 obtain ⟨s1,s2⟩:=s
 cases s1
 ·have:=z rfl
  simp only at this
  subst this
  exact .done
 ·exact .done
end
end Go.Fw


namespace Go.Fw
open Go
set_option maxRecDepth 100000
theorem qnc {b:qg} (h:blockB b=true):Ev (fun n=>qgE n b) ((2*(places b.Ab).length:Nat):Int):=by
 have hs:=qY (qat h)
 have hl:=qbb hs
 unfold qgE
 refine Ev.bind (b:=(places b.Ab).map toSp) (qie hs) (Ev.now ?_)
 rw [jz,qN (by omega) (by omega)]
 rfl
theorem qo3 {v:Tview} (hl:v.places.length≤78) (n:Nat):qck n (some v)=some ((2*v.places.length:Nat):Int):=by
 unfold qck qef
 simp only [jd]
 rw [qN (by omega) (by omega)]
 rfl
def stepN (xs:List qe) (j:Nat):Bool:=decide (j=0) || decide ((gt xs (j-1)).Bq<(gt xs j).Bq)
def srcB (xs:List qe) (M:Nat):Bool:=allN (fun j=>inI (gt xs j).Bq 0 ((M:Int)-1)&&(stepN xs j&&(spanB (gt xs j).Ai&&slewB (gt xs j).Bc))) xs.length
theorem qrG {xs:List qe} {j:Nat} (h:j ≠ 0):stepN xs j=decide ((gt xs (j-1)).Bq<(gt xs j).Bq):=by unfold stepN;rw [decide_eq_false h,Bool.false_or]
theorem qr7 {b:qg} {xs:List qe} (h:blockB b=true) (hl:xs.length≤1048576):Ev (fun n=>qgn n b xs) (srcB xs (2*(places b.Ab).length)):=by
 have hpl:=qbb (qY (qat h))
 have e:=qnc h
 obtain ⟨M,eM⟩:∃ M,M=2*(places b.Ab).length:=⟨_,rfl⟩
 rw [←eM] at e ⊢
 have hM:M≤156:=by omega
 have hL:Ev (fun n=>qbQ xs (M:Int) n 0) (bif srcB xs M then .nxt (xs.length:Int) else .ret false):=by
  refine qeJ (Lf:=qbQ xs (M:Int)) (len:=xs.length) (Ev.succ (by simp only [qbQ,ql (je _),cond_false];exact .done)) (fun j hj X hX=>Ev.succ ?_)
  simp only [qbQ,qk hj,cond_true,qB hj,jd,qcS,qrh,quP,wS j,wO ((M:Int)-1)]
  cases inI (gt xs j).Bq 0 ((M:Int)-1)
  ·exact .done
  refine Ev.ff rfl ?_
  by_cases h0:j=0
  ·subst h0
   refine Ev.ff rfl ?_
   show Ev _ (bif (stepN xs 0&&_) then X else _)
   rw [show stepN xs 0=true from rfl]
   show Ev (fun n=>bif !spanB (gt xs 0).Ai then _ else bif !slewB (gt xs 0).Bc then _ else _) _
   cases spanB (gt xs 0).Ai
   ·exact .done
   ·cases slewB (gt xs 0).Bc
    ·exact .done
    ·exact hX
  ·refine Ev.tt (decide_eq_true (by omega)) ?_
   rw [show (j:Int)-1=((j-1:Nat):Int) by omega,qN (by omega) (by omega),qB (show j-1<xs.length by omega),qrG h0]
   simp only [jd]
   by_cases hlt:(gt xs (j-1)).Bq<(gt xs j).Bq
   ·rw [decide_eq_true hlt]
    refine Ev.ff (decide_eq_false (by omega)) ?_
    show Ev (fun n=>bif !spanB (gt xs j).Ai then _ else bif !slewB (gt xs j).Bc then _ else _) _
    cases spanB (gt xs j).Ai
    ·exact .done
    ·cases slewB (gt xs j).Bc
     ·exact .done
     ·exact hX
   ·rw [decide_eq_false hlt]
    exact Ev.tt (decide_eq_true (by omega)) .done
 unfold qgn
 refine Ev.bind e (Ev.bind hL ?_)
 cases srcB xs M<;>exact .done
theorem qrY {v:Tview} {xs:List qe} (hp:v.places.length≤78) (hl:xs.length≤1048576):Ev (fun n=>qdy n (some v) xs) (srcB xs (2*v.places.length)):=by
 have e:=qo3 hp
 obtain ⟨M,eM⟩:∃ M,M=2*v.places.length:=⟨_,rfl⟩
 rw [←eM] at e ⊢
 have hM:M≤156:=by omega
 have hL:Ev (fun n=>qaX (some v) xs n 0) (bif srcB xs M then .nxt (xs.length:Int) else .ret false):=by
  refine qeJ (Lf:=qaX (some v) xs) (len:=xs.length) (Ev.succ (by simp only [qaX,ql (je _),cond_false];exact .done)) (fun j hj X hX=>Ev.succ ?_)
  simp only [qaX,qk hj,cond_true,qB hj,jd,qjm,e,qdn,qp1,qup,wS j,wO ((M:Int)-1)]
  cases inI (gt xs j).Bq 0 ((M:Int)-1)
  ·exact .done
  refine Ev.ff rfl ?_
  show Ev (fun n=>bif !spanB (gt xs j).Ai then _ else bif !slewB (gt xs j).Bc then _ else _) _
  rw [jA,Bool.and_comm]
  cases spanB (gt xs j).Ai
  ·exact .done
  ·cases slewB (gt xs j).Bc
   ·exact .done
   ·refine Ev.ff rfl (Ev.ff rfl ?_)
    rw [jA,jA]
    by_cases h0:j=0
    ·subst h0
     exact Ev.ff rfl hX
    ·refine Ev.tt (decide_eq_true (by omega)) ?_
     rw [show (j:Int)-1=((j-1:Nat):Int) by omega,qN (by omega) (by omega),qB (show j-1<xs.length by omega),qrG h0]
     simp only [jd]
     by_cases hlt:(gt xs (j-1)).Bq<(gt xs j).Bq
     ·rw [decide_eq_true hlt]
      exact Ev.ff (decide_eq_false (by omega)) hX
     ·rw [decide_eq_false hlt]
      exact Ev.tt (decide_eq_true (by omega)) .done
 unfold qdy
 refine Ev.bind hL ?_
 cases srcB xs M<;>exact .done
theorem qpb {xs:List qe} {M:Nat} (hl:xs.length≤1048576) (h:srcB xs M=true):SrcOk xs:=by
 unfold srcB at h
 rw [qal] at h
 refine ⟨hl,fun j=>?_,fun x hx=>?_⟩
 ·induction j with
  | zero=>intro i hi _;omega
  | succ j ih =>
   intro i hi hj
   have hs:=h (j+1) hj
   rw [qrG (by omega)] at hs
   simp only [jf,decide_eq_true_eq,Nat.add_sub_cancel] at hs
   have hs':=hs.2.1
   by_cases hij:i=j
   ·rw [hij];exact hs'
   ·have:=ih i (by omega) (by omega);omega
 ·obtain ⟨i,hi,rfl⟩:=List.mem_iff_getElem.1 hx
  have hs:=h i hi
  rw [←qfx hi]
  simp only [jf] at hs
  have:=hs.2.2.2
  unfold slewB at this
  simp only [jf,decide_eq_true_eq] at this
  exact ⟨⟨this.1,by omega⟩,by omega,this.2.2⟩
section
variable {L:Nat} {fr to:Nat→Int} {lv:Nat→Bool} {n:Nat}
def OrdOk (L:Nat) (fr to:Nat→Int) (lv:Nat→Bool) (n:Nat) (R:List Nat):Prop:=∀ l1 k l2,R=l1++k::l2→k<n∧k ∉ l1∧inN L fr to lv l1 k=0
theorem OrdOk.snoc {R:List Nat} {k:Nat} (h:OrdOk L fr to lv n R) (hk:nxtN L fr to lv n R=some k):OrdOk L fr to lv n (R++[k]):=by
 intro l1 k' l2 e
 rcases List.eq_nil_or_concat l2 with rfl|⟨l2',z,rfl⟩
 ·obtain ⟨rfl,e2⟩:=List.append_inj' e rfl
  obtain rfl:k=k':=by simpa using e2
  exact qpF hk
 ·have e':R++[k]=(l1++k'::l2')++[z]:=by rw [e];simp
  obtain ⟨e1,_⟩:=List.append_inj' e' rfl
  exact h l1 k' l2' e1
theorem qzg:∀ m R R',OrdOk L fr to lv n R→ordN L fr to lv n m R=some R'→OrdOk L fr to lv n R':=by
 intro m
 induction m with
 | zero=>intro R R' h e;obtain rfl:=Option.some.inj e;exact h
 | succ m ih =>
  intro R R' h e
  unfold ordN at e
  cases hn:nxtN L fr to lv n R with
  | none=>rw [hn] at e;cases e
  | some k =>
   rw [hn] at e
   exact ih _ _ (h.snoc hn) e
theorem OrdOk.at {R:List Nat} (h:OrdOk L fr to lv n R) {j:Nat} (hj:j<R.length):R[j]<n∧R[j] ∉ R.take j∧inN L fr to lv (R.take j) R[j]=0:=by
 refine h (R.take j) R[j] (R.drop (j+1)) ?_
 rw [←jF hj,List.take_append_drop]
end
theorem qpv {α:Type} [Inhabited α] {xs:List α} {k:Nat} {v:α} (hk:k<xs.length) (h:gt xs k=v):setS xs (k:Int) v=xs:=by
 unfold setS
 rw [jn,←h,qfx hk]
 exact List.set_getElem_self hk
theorem qqR {α:Type} [Inhabited α] {xs:List α} {a k:Nat} {y:α} (ha:a<xs.length):gt (setS xs (a:Int) y) k=if k=a then y else gt xs k:=by
 unfold setS
 rw [jn]
 by_cases h:k=a
 ·subst h;rw [if_pos rfl,qp7 ha]
 ·rw [if_neg h,qsK h]
def setT (t:qy) (k:Nat) (s:Bool × qe):qy:=⟨setS t.Bg (k:Int) s.1,setS t.Ai (k:Int) s.2.Ai,setS t.Bc (k:Int) s.2.Bc⟩
theorem qtj {t:qy} {M k:Nat} {s:Bool × qe} (h:TmOk t M) (hk:k<M) (hs:slR s.2.Bc):TmOk (setT t k s) M where
 r:=by show (setS _ _ _).length=_;rw [qe7];exact h.r
 a:=by show (setS _ _ _).length=_;rw [qe7];exact h.a
 s:=by show (setS _ _ _).length=_;rw [qe7];exact h.s
 sl:=fun j hj=>by
  show slR (gt (setS _ _ _) j)
  rw [qqR (by rw [h.s];exact hk)]
  split
  ·exact hs
  ·exact h.sl j hj
def Bare (t:qy) (M:Nat) (l:List Nat):Prop:=∀ k,k<M→k ∉ l→gt t.Bg k=false∧gt t.Ai k=zSp∧gt t.Bc k=zSp
def zT:qy:=⟨[],[],[]⟩
theorem qxl:slR zSp:=by unfold slR zSp;exact ⟨⟨jW _,by show (0:Int)≤_;omega⟩,jW _,by show (0:Int)≤_;omega⟩
theorem qy2 {s t:qf} (hs:slR s) (ht:slR t):slR (hullS s t):=by
 obtain ⟨⟨a1,a2⟩,a3,a4⟩:=hs
 obtain ⟨⟨b1,b2⟩,b3,b4⟩:=ht
 refine ⟨⟨?_,?_⟩,?_,?_⟩
 ·show (0:Int)≤(if t.Ap<s.Ap then t.Ap else s.Ap);split<;>assumption
 ·show (if t.Ap<s.Ap then t.Ap else s.Ap)≤1000000;split<;>assumption
 ·show (0:Int)≤(if t.Be > s.Be then t.Be else s.Be);split<;>assumption
 ·show (if t.Be > s.Be then t.Be else s.Be)≤1000000;split<;>assumption
section
variable {b:qg} {c:qt} {ex:List Int} {f g:Nat→qf→qf × qf} {lv:List Bool} {t:qy} {xs:List qe} {node:Int}
theorem qsz (h:blockB b=true) (hg:SpansS b c g) (hgf:∀ k s,(f k s).2=(g k s).2) (ht:TmOk t (2*(places b.Ab).length)) (hx:SrcOk xs):∀ j,j≤(linksL b).length→slR (ndS f (linksL b) lv t node (srcV (srcO xs node)) j).2.Bc:=by
 intro j
 induction j with
 | zero =>
  intro _
  show slR (srcV (srcO xs node)).2.Bc
  cases hs:srcO xs node with
  | none=>exact qxl
  | some y=>exact hx.sl y (qmc hs).2
 | succ j ih =>
  intro hj
  have ih:=ih (by omega)
  obtain ⟨_,e2⟩:=qu6 (qlU h) (show j<(linksL b).length by omega)
  have h2:=(hg j _ (show j<(linksL b).length by omega) (ht.sl _ e2)).1
  rw [←hgf] at h2
  show slR (bif toQ (linksL b) lv node j then stepS f (linksL b) t node (ndS f (linksL b) lv t node (srcV (srcO xs node)) j) j else ndS f (linksL b) lv t node (srcV (srcO xs node)) j).2.Bc
  cases toQ (linksL b) lv node j
  ·exact ih
  ·simp only [cond_true]
   unfold stepS
   cases gt t.Bg (frN (linksL b) j)
   ·exact ih
   ·simp only [cond_true]
    unfold joinS
    cases (ndS f (linksL b) lv t node (srcV (srcO xs node)) j).1
    ·exact h2
    ·exact qy2 ih h2
theorem quF (h:blockB b=true) (hf:SpansS b c f) (ht:TmOk t (2*(places b.Ab).length)) (hx:SrcOk xs):∀ j,j≤(linksL b).length→slR (ndS f (linksL b) lv t node (srcV (srcO xs node)) j).2.Bc:=qsz h hf (fun _ _=>rfl) ht hx
theorem qyQ:∀ j,(ndS f (linksL b) lv t node (srcV (srcO xs node)) j).1=false→(ndS f (linksL b) lv t node (srcV (srcO xs node)) j).2=zSrc:=by
 intro j
 induction j with
 | zero =>
  show (srcV (srcO xs node)).1=false→(srcV (srcO xs node)).2=zSrc
  cases srcO xs node with
  | none=>exact fun _=>rfl
  | some y=>intro e;cases e
 | succ j ih =>
  unfold ndS
  cases toQ (linksL b) lv node j
  ·exact ih
  ·simp only [cond_true]
   unfold stepS
   cases gt t.Bg (frN (linksL b) j)
   ·exact ih
   ·simp only [cond_true]
    unfold joinS
    cases (ndS f (linksL b) lv t node (srcV (srcO xs node)) j).1<;>(intro e;cases e)
def runR (o:Option qy):qy × Bool:=match o with|some t=>(t,true)|none=>(zT,false)
def rnO (f:Nat→qf→qf × qf) (ls:List qu) (lv:List Bool) (xs:List qe):List Nat→qy→Option qy
 | [],t=>some t
 | k::R,t=>bif (ndS f ls lv t (k:Int) (srcV (srcO xs (k:Int))) ls.length).1 then bif spanB (ndS f ls lv t (k:Int) (srcV (srcO xs (k:Int))) ls.length).2.Ai then rnO f ls lv xs R (setT t k (ndS f ls lv t (k:Int) (srcV (srcO xs (k:Int))) ls.length)) else none else rnO f ls lv xs R t
def zTm (M:Nat):qy:=⟨List.replicate M false,List.replicate M zSp,List.replicate M zSp⟩
theorem qtr {α:Type} [Inhabited α] {v:α} {M k:Nat} (hk:k<M):gt (List.replicate M v) k=v:=by rw [qfx (by rw [jQ];exact hk)];simp
theorem qvf {M:Nat}:TmOk (zTm M) M:=⟨jQ,jQ,jQ,fun k hk=>by
 show slR (gt (List.replicate M zSp) k)
 rw [qtr hk];exact qxl⟩
theorem qyj {M:Nat} {l:List Nat}:Bare (zTm M) M l:=fun k hk _=>⟨qtr hk,qtr hk,qtr hk⟩
theorem qzP (h:blockB b=true) (hf:SpansS b c f) (hx:SrcOk xs):∀ (R:List Nat) (t t':qy),(∀ k,k ∈ R→k<2*(places b.Ab).length)→TmOk t (2*(places b.Ab).length)→rnO f (linksL b) lv xs R t=some t'→TmOk t' (2*(places b.Ab).length):=by
 intro R
 induction R with
 | nil=>intro t t' _ ht e;obtain rfl:=Option.some.inj e;exact ht
 | cons k R ih =>
  intro t t' hR ht e
  have hsl:=quF (node:=(k:Int)) (lv:=lv) h hf ht hx (linksL b).length (je _)
  unfold rnO at e
  cases h1:(ndS f (linksL b) lv t (k:Int) (srcV (srcO xs (k:Int))) (linksL b).length).1
  ·rw [h1] at e
   exact ih _ _ (fun i hi=>hR i (jo _ hi)) ht e
  ·rw [h1] at e
   cases h2:spanB (ndS f (linksL b) lv t (k:Int) (srcV (srcO xs (k:Int))) (linksL b).length).2.Ai
   ·rw [h2] at e;cases e
   ·rw [h2] at e
    exact ih _ _ (fun i hi=>hR i (jo _ hi)) (qtj ht (hR k (jy ..)) hsl) e
def runL (o:Option qy) (m:Nat):Flow (qy × Bool) (List qf × List qf × List Bool × Int):=match o with|some t'=>.nxt (t'.Bc,t'.Ai,t'.Bg,(m:Int))|none=>.ret (zT,false)
theorem qy3 (h:blockB b=true) (hf:SpansS b c f) (hl:lv.length=(linksL b).length) (hx:SrcOk xs) {R:List Nat} (hR:∀ k,k ∈ R→k<2*(places b.Ab).length) (hRl:R.length≤1000) :
  Ev (fun n=>qlq n b c (linksL b) lv xs (ints R)) (runR (rnO f (linksL b) lv xs R (zTm (2*(places b.Ab).length)))):=by
 have hpl:=qbb (qY (qat h))
 have hcn:=qnc h
 obtain ⟨M,eM⟩:∃ M,M=2*(places b.Ab).length:=⟨_,rfl⟩
 have hM:M≤156:=by omega
 have main:∀ d j t,j+d=R.length→TmOk t M→Ev (fun n=>qch b c (linksL b) lv xs (ints R) n t.Bc t.Ai t.Bg (j:Int)) (runL (rnO f (linksL b) lv xs (R.drop j) t) R.length):=by
  intro d
  induction d with
  | zero =>
   intro j t hj ht
   obtain rfl:j=R.length:=by omega
   rw [List.drop_length]
   refine Ev.succ ?_
   simp only [qch,qd3,ql (je _),cond_false]
   exact .done
  | succ d ih =>
   intro j t hj ht
   have hjl:j<R.length:=by omega
   have k1:=hR _ (jp hjl)
   have hi:=qpi hjl
   have hd:R.drop j=R[j]::R.drop (j+1):=jF hjl
   generalize R[j]=k at k1 hi hd
   rw [←eM] at k1
   have hs:=qyk (node:=(k:Int)) h hf hl (by rw [←eM];exact ht) hx
   have hsl:=quF (node:=(k:Int)) (lv:=lv) h hf (by rw [←eM];exact ht) hx (linksL b).length (je _)
   have ir:idx t.Bg (k:Int)=some (gt t.Bg k):=qB (by rw [ht.r];exact k1)
   have ia:idx t.Ai (k:Int)=some (gt t.Ai k):=qB (by rw [ht.a];exact k1)
   have is:idx t.Bc (k:Int)=some (gt t.Bc k):=qB (by rw [ht.s];exact k1)
   have stp:∀ n,qch b c (linksL b) lv xs (ints R) (n+1) t.Bc t.Ai t.Bg (j:Int)=(qiO n b c (linksL b) lv xs t (k:Int)).bind fun o=>match o with
    | (r4,r5)=>bif (!r4) then qch b c (linksL b) lv xs (ints R) n t.Bc t.Ai t.Bg ((j+1:Nat):Int) else bif (!spanB r5.Ai) then some (.ret (zT,false)) else
     qch b c (linksL b) lv xs (ints R) n (setS t.Bc (k:Int) r5.Bc) (setS t.Ai (k:Int) r5.Ai) (setS t.Bg (k:Int) true) ((j+1:Nat):Int):=fun n=>by
    simp only [qch,qd3,qk hjl,cond_true,hi,jd,qrh,ir,ia,is,wS j]
    rfl
   rw [hd]
   unfold rnO
   generalize ndS f (linksL b) lv t (k:Int) (srcV (srcO xs (k:Int))) (linksL b).length=s at hs hsl ⊢
   obtain ⟨s1,s2⟩:=s
   cases s1
   ·exact Ev.step stp (Ev.bind hs (ih (j+1) t (by omega) ht))
   ·cases hsp:spanB s2.Ai
    ·refine Ev.step stp (Ev.bind hs ?_)
     simp only [hsp];exact .done
    ·refine Ev.step stp (Ev.bind hs ?_)
     simp only [hsp]
     exact ih (j+1) (setT t k (true,s2)) (by omega) (qtj ht k1 hsl)
 have hm1:mkS (M:Int) false=some (List.replicate M false):=qnT (by omega)
 have hm2:mkS (M:Int) (⟨0,0⟩:qf)=some (List.replicate M zSp):=qnT (by omega)
 have o2:=main R.length 0 (zTm M) (by omega) qvf
 rw [List.drop_zero] at o2
 rw [←eM] at hcn ⊢
 unfold qlq qlS
 refine Ev.bind hcn ?_
 simp only [hm1,hm2,jd]
 refine Ev.bind o2 ?_
 cases rnO f (linksL b) lv xs R (zTm M)<;>exact .done
theorem qyB (h:blockB b=true) (hg:SpansS b c g) (hgf:∀ k s,(f k s).2=(g k s).2) (hf:SpansI b c ex f) (hl:lv.length=(linksL b).length) (hx:SrcOk xs) {R:List Nat} (hR:∀ j,∀ hj:j<R.length,R[j]<2*(places b.Ab).length∧R[j] ∉ R.take j) (hRl:R.length≤1000) :
  Ev (fun n=>qe6 n (some ⟨some (viewE b ex),lv⟩) c xs (ints R)) (runR (rnO f (linksL b) lv xs R (zTm (2*(places b.Ab).length)))):=by
 have hpl:=qbb (qY (qat h))
 have hnd:=qo3 (v:=viewE b ex) hpl
 have epl:(viewE b ex).places.length=(places b.Ab).length:=rfl
 rw [epl] at hnd
 obtain ⟨M,eM⟩:∃ M,M=2*(places b.Ab).length:=⟨_,rfl⟩
 have hM:M≤156:=by omega
 have main:∀ d j t,j+d=R.length→TmOk t M→Bare t M (R.take j)→Ev (fun n=>qaY (some ⟨some (viewE b ex),lv⟩) c xs (ints R) n t.Bc t.Ai t.Bg (j:Int)) (runL (rnO f (linksL b) lv xs (R.drop j) t) R.length):=by
  intro d
  induction d with
  | zero =>
   intro j t hj ht _
   obtain rfl:j=R.length:=by omega
   rw [List.drop_length]
   refine Ev.succ ?_
   simp only [qaY,qd3,ql (je _),cond_false]
   exact .done
  | succ d ih =>
   intro j t hj ht hb
   have hjl:j<R.length:=by omega
   obtain ⟨k1,k2⟩:=hR j hjl
   have hi:=qpi hjl
   have htk:R.take (j+1)=R.take j++[R[j]]:=jv hjl
   have hd:R.drop j=R[j]::R.drop (j+1):=jF hjl
   generalize R[j]=k at k1 k2 hi htk hd
   rw [←eM] at k1
   have hp:=qyg (node:=(k:Int)) h hf hl (by rw [←eM];exact ht) hx.len
   have hsl:=qsz (node:=(k:Int)) (lv:=lv) h hg hgf (by rw [←eM];exact ht) hx (linksL b).length (je _)
   have hz:=qyQ (f:=f) (b:=b) (lv:=lv) (t:=t) (xs:=xs) (node:=(k:Int)) (linksL b).length
   obtain ⟨b1,b2,b3⟩:=hb k k1 k2
   have ir:idx t.Bg (k:Int)=some (gt t.Bg k):=qB (by rw [ht.r];exact k1)
   have ia:idx t.Ai (k:Int)=some (gt t.Ai k):=qB (by rw [ht.a];exact k1)
   have is:idx t.Bc (k:Int)=some (gt t.Bc k):=qB (by rw [ht.s];exact k1)
   have ptp:∀ n,qaY (some ⟨some (viewE b ex),lv⟩) c xs (ints R) (n+1) t.Bc t.Ai t.Bg (j:Int)=(qdC n (some ⟨some (viewE b ex),lv⟩) c xs t (k:Int)).bind fun o=>match o with
    | (r3,r4)=>(bif r3 then some (!spanB r4.Ai) else some false).bind fun b3=>bif b3 then some (.ret (zT,false)) else
     qaY (some ⟨some (viewE b ex),lv⟩) c xs (ints R) n (setS t.Bc (k:Int) r4.Bc) (setS t.Ai (k:Int) r4.Ai) (setS t.Bg (k:Int) r3) ((j+1:Nat):Int):=fun n=>by
    simp only [qaY,qd3,qk hjl,cond_true,hi,jd,qp1,ir,ia,is,wS j]
    rfl
   rw [hd]
   unfold rnO
   generalize ndS f (linksL b) lv t (k:Int) (srcV (srcO xs (k:Int))) (linksL b).length=s at hp hsl hz ⊢
   obtain ⟨s1,s2⟩:=s
   cases s1
   ·have:=hz rfl
    simp only at this
    subst this
    have e1:setS t.Bc (k:Int) zSrc.Bc=t.Bc:=qpv (by rw [ht.s];exact k1) b3
    have e2:setS t.Ai (k:Int) zSrc.Ai=t.Ai:=qpv (by rw [ht.a];exact k1) b2
    have e3:setS t.Bg (k:Int) false=t.Bg:=qpv (by rw [ht.r];exact k1) b1
    refine Ev.step ptp (Ev.bind hp ?_)
    simp only [cond_false,jd,e1,e2,e3]
    exact ih (j+1) t (by omega) ht (fun i hi hni=>hb i hi (fun hm=>hni (by rw [htk];exact List.mem_append_left _ hm)))
   ·cases hsp:spanB s2.Ai
    ·refine Ev.step ptp (Ev.bind hp ?_)
     simp only [hsp];exact .done
    ·refine Ev.step ptp (Ev.bind hp ?_)
     simp only [hsp]
     refine ih (j+1) (setT t k (true,s2)) (by omega) (qtj ht k1 hsl) (fun i hi hni=>?_)
     rw [htk] at hni
     have hne:i ≠ k:=fun e=>hni (List.mem_append_right _ (List.mem_singleton.2 e))
     have:=hb i hi (fun hm=>hni (List.mem_append_left _ hm))
     refine ⟨?_,?_,?_⟩
     ·show gt (setS _ _ _) i=_;rw [qqR (by rw [ht.r];exact k1),if_neg hne];exact this.1
     ·show gt (setS _ _ _) i=_;rw [qqR (by rw [ht.a];exact k1),if_neg hne];exact this.2.1
     ·show gt (setS _ _ _) i=_;rw [qqR (by rw [ht.s];exact k1),if_neg hne];exact this.2.2
 have hm1:mkS (M:Int) false=some (List.replicate M false):=qnT (by omega)
 have hm2:mkS (M:Int) (⟨0,0⟩:qf)=some (List.replicate M zSp):=qnT (by omega)
 have o3:=main R.length 0 (zTm M) (by omega) qvf qyj
 rw [List.drop_zero] at o3
 rw [←eM] at hnd ⊢
 unfold qe6 qhC
 simp only [jd,hnd,hm1,hm2]
 refine Ev.bind o3 ?_
 cases rnO f (linksL b) lv xs R (zTm M)<;>exact .done
end
end Go.Fw


namespace Go.Fw
open Go Go.Proofs
open Go.RowKit (Below)
set_option maxRecDepth 100000
set_option maxHeartbeats 1600000
variable {n:Nat} {w:World} {cs1 cs2 cs3 cs4 cs5 cs6 cs7 cs8 cs9:List Value}
def qdu (n:Nat) (j:qaW):Option ((Option Tl20Work) × Int) :=
 (qdA n (⟨(⟨j.Af.Av.As⟩:qn),(⟨j.Af.Ab.Aa,j.Af.Ab.Ak,j.Af.Ab.Aj⟩:qd),j.Af.Ac⟩:qg) (⟨j.Ah.Bb,j.Ah.Ar,j.Ah.Az,j.Ah.Aq,j.Ah.Ba⟩:qt) j.Bi j.Ay).bind fun o=>match o with
  | (r2,r3) =>
   bif (r3 != 0) then some (none,r3) else
   (qfq n (⟨(⟨j.Af.Av.As⟩:qn),(⟨j.Af.Ab.Aa,j.Af.Ab.Ak,j.Af.Ab.Aj⟩:qd),j.Af.Ac⟩:qg)).bind fun r4 =>
   (qhu n r4 j.Bi).bind fun r5 =>
   some ((some (⟨(⟨(⟨(⟨j.Af.Av.As⟩:qn),(⟨j.Af.Ab.Aa,j.Af.Ab.Ak,j.Af.Ab.Aj⟩:qd),j.Af.Ac⟩:qg),(⟨j.Ah.Bb,j.Ah.Ar,j.Ah.Az,j.Ah.Aq,j.Ah.Ba⟩:qt),j.Bi,j.Ay⟩:qaW),r4,r5,r2⟩:Tl20Work)),0)
theorem qqs {A:Nat→Prop} (hA:∀ b,A b→old w b) {j:qaW} (ha1:GoT.R w A j cs1) {r:((Option Tl20Work) × Int)} (hF:qdu n j=some r):RetG Tryz.prog 33 [GoT.v qaW cs1] w A r:=by
 obtain ⟨p1,k1,p2,k2,p3,k3,p4,k4,p5,k5,p6,k6,p7,k7,rfl,s1,s2,s3,s4,s5,s6,s7⟩:=qcX ha1
 have hg:=Rg.start hA
 refine qek Tryz.func33 rfl (m:=34) rfl rfl (fun h=>?_)
 refine zSR (qv h rfl rfl fun w1 bb1 h=>X4 13 0 0 0 0 h rfl ?_)
 obtain ⟨r1,hr1,hF⟩:=qc hF
 obtain ⟨r2,r3⟩:=r1
 refine qa5 (r2,r3) h (cB 59 rfl) (qmg (qfu _ (h.oldS (s1.mono hg.old)) (h.oldS (s2.mono hg.old)) (h.oldS (s3.mono hg.old)) (h.oldS (s4.mono hg.old)) (h.oldS (s5.mono hg.old))) (qc6 _) ⟨_,_,rfl,(h.oldS (s6.mono hg.old))⟩ ⟨_,_,rfl,(h.oldS (s7.mono hg.old))⟩ hr1) rfl rfl rfl rfl fun w2 S1 us1 hv1 hr2=>?_
 obtain ⟨S2,S3,cs2,us2,rfl,hv2,hr3⟩:=hv1.cons hr2
 obtain ⟨p8,k8,p9,k9,p10,k10,rfl,-,-,-⟩:=qcN (hv2.sh.own 0 rfl)
 obtain ⟨rfl,h⟩:=hv2.lastI hr3
 refine zp3 rfl (qp qa h rfl rfl rfl fun w3 bb2 h=>zs 0 h rfl fun w4 h=>X0 8 rfl (qh rfl hF ?_ ?_))<;>intro hF
 ·refine X0 6 rfl ?_
  obtain rfl:=qb hF
  have hv4:GoRs.Rs (ρ:=((Option Tl20Work) × Int)) h.wc (reg A w h.wc) (none,r3) [GoT.v (Option Tl20Work) [.pointer none],GoT.v Int [.int .i64 r3]]:=⟨_,_,rfl,rfl,⟨_,rfl,rfl⟩⟩
  exact qdS qa (ρ:=((Option Tl20Work) × Int)) (r:=(none,r3)) [GoT.v (Option Tl20Work) [.pointer none],GoT.v Int [.int .i64 r3]] h ⟨rfl,rfl,trivial⟩ hv4
 refine X1 5 2 h rfl (zcL h hF (qhj (qfu _ (h.oldS (s1.mono hg.old)) (h.oldS (s2.mono hg.old)) (h.oldS (s3.mono hg.old)) (h.oldS (s4.mono hg.old)) (h.oldS (s5.mono hg.old)))) rfl fun r4 w5 S5 p11 k11 h hF=>X0 3 rfl (rA [] [1,3] h rfl fun w6 h=>M3 95 [0,1,2,3,4,6] 1 1 0 (h.pick [1,3] rfl) rfl (Ao 5 127 rfl (zcL h hF (qhZ (h.own 0 rfl) ⟨_,_,rfl,(h.oldS (s6.mono hg.old))⟩) rfl fun r5 w7 S6 p12 k12 h hF=>Ag (h.pick [2,4] rfl) (Aw 7 255 (fun w' hw=>qaa qa [0,1,2,3] [.tmp 25,.tmp 26,.tmp 30,.tmp 31] rfl rfl rfl rfl rfl rfl rfl rfl) (h.pick [2,4] rfl) rfl ?_)))))
 refine Ao 8 511 rfl (qv h rfl rfl fun w8 bb3 h=>G0 2047 [9,10] (h.pick [3,5] rfl) rfl (Ad ?_))
 obtain rfl:=qb hF
 have hv5:GoRs.Rs (ρ:=((Option Tl20Work) × Int)) h.wc (reg A w h.wc) ((some (⟨(⟨(⟨(⟨j.Af.Av.As⟩:qn),(⟨j.Af.Ab.Aa,j.Af.Ab.Ak,j.Af.Ab.Aj⟩:qd),j.Af.Ac⟩:qg),(⟨j.Ah.Bb,j.Ah.Ar,j.Ah.Az,j.Ah.Aq,j.Ah.Ba⟩:qt),j.Bi,j.Ay⟩:qaW),r4,r5,r2⟩:Tl20Work)),0) [GoT.v (Option Tl20Work) [.pointer (some ⟨bb3,0,none⟩)],GoT.v Int [.int .i64 0]]:=⟨_,_,rfl,(hg.outR h (Rg.boxR (x:=(⟨(⟨(⟨(⟨j.Af.Av.As⟩:qn),(⟨j.Af.Ab.Aa,j.Af.Ab.Ak,j.Af.Ab.Aj⟩:qd),j.Af.Ac⟩:qg),(⟨j.Ah.Bb,j.Ah.Ar,j.Ah.Az,j.Ah.Aq,j.Ah.Ba⟩:qt),j.Bi,j.Ay⟩:qaW),r4,r5,r2⟩:Tl20Work)) 0 h rfl (⟨[.slice p1 j.Af.Av.As.length k1,.slice p2 j.Af.Ab.Aa.length k2,.slice p3 j.Af.Ab.Ak.length k3,.slice p4 j.Af.Ab.Aj.length k4,.slice p5 j.Af.Ac.length k5,.string j.Ah.Bb,.int .i64 j.Ah.Ar,.int .i64 j.Ah.Az,.int .i64 j.Ah.Aq,.int .i64 j.Ah.Ba,.slice p6 j.Bi.length k6,.slice p7 j.Ay.length k7],[.slice p11 r4.length k11,.slice p12 r5.length k12,.slice p8 r2.Bg.length k8,.slice p9 r2.Ai.length k9,.slice p10 r2.Bc.length k10],rfl,⟨[.slice p1 j.Af.Av.As.length k1,.slice p2 j.Af.Ab.Aa.length k2,.slice p3 j.Af.Ab.Ak.length k3,.slice p4 j.Af.Ab.Aj.length k4,.slice p5 j.Af.Ac.length k5],[.string j.Ah.Bb,.int .i64 j.Ah.Ar,.int .i64 j.Ah.Az,.int .i64 j.Ah.Aq,.int .i64 j.Ah.Ba,.slice p6 j.Bi.length k6,.slice p7 j.Ay.length k7],rfl,⟨[.slice p1 j.Af.Av.As.length k1],[.slice p2 j.Af.Ab.Aa.length k2,.slice p3 j.Af.Ab.Ak.length k3,.slice p4 j.Af.Ab.Aj.length k4,.slice p5 j.Af.Ac.length k5],rfl,⟨_,_,rfl,(hg.inS h s1)⟩,⟨[.slice p2 j.Af.Ab.Aa.length k2,.slice p3 j.Af.Ab.Ak.length k3,.slice p4 j.Af.Ab.Aj.length k4],[.slice p5 j.Af.Ac.length k5],rfl,⟨[.slice p2 j.Af.Ab.Aa.length k2],[.slice p3 j.Af.Ab.Ak.length k3,.slice p4 j.Af.Ab.Aj.length k4],rfl,⟨_,_,rfl,(hg.inS h s2)⟩,⟨[.slice p3 j.Af.Ab.Ak.length k3],[.slice p4 j.Af.Ab.Aj.length k4],rfl,⟨_,_,rfl,(hg.inS h s3)⟩,⟨_,_,rfl,(hg.inS h s4)⟩⟩⟩,⟨_,_,rfl,(hg.inS h s5)⟩⟩⟩,⟨[.string j.Ah.Bb,.int .i64 j.Ah.Ar,.int .i64 j.Ah.Az,.int .i64 j.Ah.Aq,.int .i64 j.Ah.Ba],[.slice p6 j.Bi.length k6,.slice p7 j.Ay.length k7],rfl,⟨[.string j.Ah.Bb],[.int .i64 j.Ah.Ar,.int .i64 j.Ah.Az,.int .i64 j.Ah.Aq,.int .i64 j.Ah.Ba],rfl,rfl,⟨[.int .i64 j.Ah.Ar],[.int .i64 j.Ah.Az,.int .i64 j.Ah.Aq,.int .i64 j.Ah.Ba],rfl,rfl,⟨[.int .i64 j.Ah.Az],[.int .i64 j.Ah.Aq,.int .i64 j.Ah.Ba],rfl,rfl,⟨[.int .i64 j.Ah.Aq],[.int .i64 j.Ah.Ba],rfl,rfl,rfl⟩⟩⟩⟩,⟨[.slice p6 j.Bi.length k6],[.slice p7 j.Ay.length k7],rfl,⟨_,_,rfl,(hg.inS h s6)⟩,⟨_,_,rfl,(hg.inS h s7)⟩⟩⟩⟩,⟨[.slice p11 r4.length k11],[.slice p12 r5.length k12,.slice p8 r2.Bg.length k8,.slice p9 r2.Ai.length k9,.slice p10 r2.Bc.length k10],rfl,(Rg.ownR 2 h rfl),⟨[.slice p12 r5.length k12],[.slice p8 r2.Bg.length k8,.slice p9 r2.Ai.length k9,.slice p10 r2.Bc.length k10],rfl,(Rg.ownR 1 h rfl),(Rg.ownR 4 h rfl)⟩⟩⟩))),⟨_,rfl,rfl⟩⟩
 exact qdS qa (ρ:=((Option Tl20Work) × Int)) (r:=((some (⟨(⟨(⟨(⟨j.Af.Av.As⟩:qn),(⟨j.Af.Ab.Aa,j.Af.Ab.Ak,j.Af.Ab.Aj⟩:qd),j.Af.Ac⟩:qg),(⟨j.Ah.Bb,j.Ah.Ar,j.Ah.Az,j.Ah.Aq,j.Ah.Ba⟩:qt),j.Bi,j.Ay⟩:qaW),r4,r5,r2⟩:Tl20Work)),0)) [GoT.v (Option Tl20Work) [.pointer (some ⟨bb3,0,none⟩)],GoT.v Int [.int .i64 0]] h ⟨rfl,rfl,trivial⟩ hv5
def qkv (_:Nat) (mode:Int):Option Bool :=
 bif (mode==0) then some true else
 some (mode==1)
theorem qqq {mode:Int}  {r:Bool} (hF:qkv n mode=some r):RetV Tryz.prog 34 [.int .i64 mode] w r:=by
 refine zV 9 Tryz.func34 rfl fun h=>X0 9 rfl (qj (t:=5) hF rfl ?_ ?_)<;>intro hF
 ·exact X0 5 rfl (rb h hF rfl)
 exact X0 7 rfl (rb h hF rfl)
def qcR (a_w:(Option Tl20Work)) (node:Int):Nat→Int→Option (Flow (qe × Bool) Int)
 | 0,_=>none
 | n+1,i1 =>
  (a_w).bind fun y1 =>
  bif decide (i1<(y1.j.Ay.length:Int)) then
   (idx y1.j.Ay i1).bind fun y2 =>
   bif (y2.Bq==node) then
    (idx y1.j.Ay i1).bind fun y3 =>
    some (.ret (y3,true))
   else
    qcR a_w node n (W64 (i1+1))
  else
   some (.nxt i1)
def qhc (n:Nat) (a_w:(Option Tl20Work)) (node:Int):Option (qe × Bool) :=
 (qcR a_w node n 0).bind fun o=>match o with
 | .ret r=>some r
 | .nxt _ =>
  some ((⟨0,(⟨0,0⟩:qf),(⟨0,0⟩:qf)⟩:qe),false)
theorem qlo {a_w:(Option Tl20Work)} {node:Int} (ha1:Ro w a_w cs1) {r:(qe × Bool)} (hF:qhc n a_w node=some r):RetV Tryz.prog 62 [GoT.v (Option Tl20Work) cs1,.int .i64 node] w r:=by
 obtain ⟨p1,rfl,s1⟩:=qaq ha1
 refine zV 37 Tryz.func62 rfl fun h=>zSR (qp qa h rfl rfl rfl fun w1 bb1 h=>X0 7 rfl ?_)
 obtain ⟨o1,hF,hK1⟩:=qc hF
 refine qm (rL (fun m e w'=>∃ (i1:Int),qcR a_w node m i1=some o1∧e=[(0,.pointer p1),(1,.int .i64 node),(4,.pointer (some ⟨bb1,0,none⟩)),(6,.int .i64 i1)]∧SH w w' [Ch.box bb1 [.int .i64 0,.int .i64 0,.int .i64 0,.int .i64 0,.int .i64 0] 116]) n ⟨_,hF,rfl,h⟩ rfl ?_)
 rintro m1 e1 w2 ⟨i1,hF,rfl,h⟩
 rcases m1 with _|m1
 ·cases hF
 refine X0 5 rfl ?_
 obtain ⟨y1,hy1,hF⟩:=qc hF
 obtain ⟨b1,o_1,cs2,rfl,-,hr1,hc1⟩:=PtR.get s1 hy1
 obtain ⟨p2,k1,p3,k2,p4,k3,p5,k4,p6,k5,p7,k6,p8,k7,p9,k8,p10,k9,p11,k10,p12,k11,p13,k12,rfl,s2,s3,s4,s5,s6,s7,s8,s9,s10,s11,s12,s13⟩:=qju hr1
 refine zp3 rfl (zc 11 (hc1.below h.below) rfl (X0 3 rfl (qh rfl hF ?_ ?_)))<;>intro hF
 ·refine X0 9 rfl (zc 11 (hc1.below h.below) rfl (zp1 rfl ?_))
  obtain ⟨y2,hy2,hF,he1,b2,_,q1,cs3,hp1,hq1,hr2,hc3⟩:=s8.ix hF
  obtain rfl:=qE hr2
  refine zxe hp1 hq1 he1 rfl (zp1 rfl (zc 0 (hc3.below h.below) rfl (X0 3 rfl (qh rfl hF ?_ ?_))))<;>intro hF
  ·refine X0 6 rfl (zc 11 (hc1.below h.below) rfl (zp1 rfl ?_))
   obtain ⟨y3,hy3,hF,he2,b3,_,q2,cs4,hp2,hq2,hr3,hc5⟩:=s8.ix hF
   obtain rfl:=qE hr3
   refine zxe hp2 hq2 he2 rfl (zc 0 (hc5.below h.below) rfl (zs 0 h rfl fun w3 h=>X0 2 rfl ?_))
   obtain rfl:=qb hF;replace hF:=hK1
   obtain rfl:=qb hF
   exact qT qa (ρ:=(qe × Bool)) [GoT.v qe (qfG y3),GoT.v Bool [.bool true]] h ⟨⟨_,_,_,rfl,rfl,h.box 0 rfl,rfl⟩,rfl,trivial⟩ (PV.done h (qak h (qx (S:=fun _=>False) (qaB y3)) (qZ (qx (S:=fun _=>False) rfl)) (by rfl)))
  exact X0 7 rfl (rK ⟨_,hF,rfl,h⟩ rfl)
 refine qq rfl ?_
 obtain rfl:=qb hF;replace hF:=hK1
 refine zSR (r_v (qaa qa [] [] rfl rfl rfl rfl rfl rfl rfl rfl) rfl (zs 0 h rfl fun w4 h=>X0 2 rfl ?_))
 obtain rfl:=qb hF
 exact qT qa (ρ:=(qe × Bool)) [GoT.v qe [.int .i64 0,.int .i64 0,.int .i64 0,.int .i64 0,.int .i64 0],GoT.v Bool [.bool false]] h ⟨⟨_,_,_,rfl,rfl,h.box 0 rfl,rfl⟩,rfl,trivial⟩ (PV.done h (qak h (qx (S:=fun _=>False) (qaB (⟨0,(⟨0,0⟩:qf),(⟨0,0⟩:qf)⟩:qe))) (qZ (qx (S:=fun _=>False) rfl)) (by rfl)))
def qeF (a_0:(Option Tl20Work)) (a_2:(List Int)) (r3:Bool):Nat→Int→Int→Option (Flow (Int × Bool) (Int × Int))
 | 0,_,_=>none
 | n+1,i1,i2 =>
  (
   bif decide (i2<(a_2.length:Int)) then some r3 else
   some false).bind fun b1 =>
  bif b1 then
   (idx a_2 i2).bind fun y1 =>
   (
    (a_0).bind fun y4 =>
    (qau n y1 0 (W64 ((y4.links.length:Int)-1))).bind fun r4 =>
    bif (!r4) then some true else
    (idx y4.live y1).bind fun y5 =>
    bif (!y5) then some true else
    (idx y4.links y1).bind fun y6 =>
    some (y6.Bk != i1)).bind fun b3 =>
   bif b3 then some (.ret (0,false)) else
   (a_0).bind fun y2 =>
   (idx y2.links y1).bind fun y3 =>
   qeF a_0 a_2 r3 n y3.To (W64 (i2+1))
  else
   some (.nxt (i1,i2))
def qlH (n:Nat) (a_0:(Option Tl20Work)) (a_1:Int) (a_2:(List Int)):Option (Int × Bool) :=
 (qhc n a_0 a_1).bind fun o=>match o with
  | (_,r3) =>
   (qeF a_0 a_2 r3 n a_1 0).bind fun o=>match o with
   | .ret r=>some r
   | .nxt (i1,_) =>
    some (i1,r3)
theorem qrm {a_0:(Option Tl20Work)} {a_1:Int} {a_2:(List Int)} (ha1:Ro w a_0 cs1) (ha2:Ro w a_2 cs2) {r:(Int × Bool)} (hF:qlH n a_0 a_1 a_2=some r):RetV Tryz.prog 35 [GoT.v (Option Tl20Work) cs1,.int .i64 a_1,GoT.v (List Int) cs2] w r:=by
 obtain ⟨p1,rfl,s1⟩:=qaq ha1
 obtain ⟨p2,k1,rfl,s2⟩:=ha2
 refine zV 74 Tryz.func35 rfl fun h=>X0 9 rfl ?_
 obtain ⟨r1,hr1,hF⟩:=qc hF
 obtain ⟨r2,r3⟩:=r1
 refine qa5 (r2,r3) h (cB 62 rfl) (qlo (h.old s1) hr1) rfl rfl rfl rfl fun w1 S1 us1 hv1 hr2=>?_
 obtain ⟨S2,S3,cs3,us2,rfl,hv2,hr3⟩:=hv1.cons hr2
 obtain rfl:=qE (hv2.sh.own 0 rfl)
 obtain ⟨rfl,h⟩:=hv2.lastB hr3
 refine zp3 rfl (qp qa h rfl rfl rfl fun w2 bb1 h=>zs 0 h rfl fun w3 h=>X0 12 rfl ?_)
 obtain ⟨o1,hF,hK1⟩:=qc hF
 refine qm ?_
 replace h:=h.pick [] rfl
 refine rL (fun m e w'=>∃ (i1:Int) (i2:Int),qeF a_0 a_2 r3 m i1 i2=some o1∧e=[(0,.pointer p1),(2,.slice p2 a_2.length k1),(9,.bool r3),(10,.int .i64 i1),(11,.int .i64 i2)]∧SH w w' []) n ⟨_,_,hF,rfl,h⟩ rfl ?_
 rintro m1 e1 w4 ⟨i1,i2,hF,rfl,h⟩
 rcases m1 with _|m1
 ·cases hF
 refine zSS ?_
 obtain ⟨KF2,hKF2,o3,hF,hK3⟩:=bindE hF
 refine qbe (fun e w'=>∃ (b1:Bool),KF2 b1=some o1∧e=[(0,.pointer p1),(2,.slice p2 a_2.length k1),(9,.bool r3),(10,.int .i64 i1),(11,.int .i64 i2),(26,.bool b1)]∧SH w w' []) ?_ ?_
 ·refine X0 6 rfl (qj (t:=24) hF rfl ?_ ?_)<;>intro hF
  ·refine X0 4 rfl ?_
   obtain rfl:=qb hF
   exact rG ⟨_,hK3,rfl,h⟩ rfl
  refine X0 3 rfl ?_
  obtain rfl:=qb hF
  exact rG ⟨_,hK3,rfl,h⟩ rfl
 rintro e3 w7 ⟨b1,hF,rfl,h⟩
 subst hKF2
 refine qh rfl hF ?_ ?_<;>intro hF
 ·refine X0 7 rfl ?_
  obtain ⟨y1,hy1,hF,he1,b2,_,q1,cs4,hp1,hq1,rfl,hc2⟩:=s2.ix hF
  refine zxe hp1 hq1 he1 rfl (zc 0 (hc2.below h.below) rfl (X0 4 rfl ?_))
  obtain ⟨KF1,hKF1,o2,hF,hK2⟩:=bindE hF
  refine qbe (fun e w'=>∃ (b3:Bool),KF1 b3=some o1∧e=[(0,.pointer p1),(2,.slice p2 a_2.length k1),(9,.bool r3),(11,.int .i64 i2),(12,.int .i64 y1),(63,.bool b3)]∧SH w w' []) ?_ ?_
  ·refine X0 3 rfl ?_
   obtain ⟨y4,hy4,hF⟩:=qc hF
   obtain ⟨b6,o_4,cs7,rfl,-,hr8,hc6⟩:=PtR.get s1 hy4
   obtain ⟨p15,k14,p16,k15,p17,k16,p18,k17,p19,k18,p20,k19,p21,k20,p22,k21,p23,k22,p24,k23,p25,k24,p26,k25,rfl,s15,s16,s17,s18,s19,s20,s21,s22,s23,s24,s25,s26⟩:=qju hr8
   refine zp2 rfl (zc 12 (hc6.below h.below) rfl (zp2 rfl (zcB h hF qai rfl fun r4 w5 h hF=>zp2 rfl (qj (t:=42) hF rfl ?_ ?_))))<;>intro hF
   ·refine X0 22 rfl ?_
    obtain rfl:=qb hF
    exact rG ⟨_,hK2,rfl,h⟩ rfl
   refine X0 7 rfl (zc 13 (hc6.below h.below) rfl (X0 3 rfl ?_))
   obtain ⟨y5,hy5,hF,he3,b7,_,q3,cs8,hp3,hq3,rfl,hc7⟩:=s23.ix hF
   refine zxe hp3 hq3 he3 rfl (X0 1 rfl (zc 0 (hc7.below h.below) rfl (X0 4 rfl (qj (t:=52) hF rfl ?_ ?_))))<;>intro hF
   ·refine X0 12 rfl ?_
    obtain rfl:=qb hF
    exact rG ⟨_,hK2,rfl,h⟩ rfl
   refine X0 7 rfl (zc 12 (hc6.below h.below) rfl (X0 3 rfl ?_))
   obtain ⟨y6,hy6,hF,he4,b8,_,q4,cs9,hp4,hq4,hr11,hc8⟩:=s22.ix hF
   obtain rfl:=qav hr11
   refine zxe hp4 hq4 he4 rfl (X0 3 rfl (zc 0 (hc8.below h.below) rfl (X0 6 rfl ?_)))
   obtain rfl:=qb hF
   exact rG ⟨_,hK2,rfl,h⟩ rfl
  rintro e2 w6 ⟨b3,hF,rfl,h⟩
  subst hKF1
  refine qh rfl hF ?_ ?_<;>intro hF
  ·refine X0 5 rfl ?_
   obtain rfl:=qb hF;replace hF:=hK1
   obtain rfl:=qb hF
   exact qT qa (ρ:=(Int × Bool)) [GoT.v Int [.int .i64 0],GoT.v Bool [.bool false]] h ⟨rfl,rfl,trivial⟩ (PV.done h (qak h (qx (S:=fun _=>False) rfl) (qZ (qx (S:=fun _=>False) rfl)) (by rfl)))
  refine X0 3 rfl ?_
  obtain ⟨y2,hy2,hF⟩:=qc hF
  obtain ⟨b4,o_2,cs5,rfl,-,hr6,hc4⟩:=PtR.get s1 hy2
  obtain ⟨p3,k2,p4,k3,p5,k4,p6,k5,p7,k6,p8,k7,p9,k8,p10,k9,p11,k10,p12,k11,p13,k12,p14,k13,rfl,s3,s4,s5,s6,s7,s8,s9,s10,s11,s12,s13,s14⟩:=qju hr6
  refine zp2 rfl (zc 12 (hc4.below h.below) rfl (zp1 rfl ?_))
  obtain ⟨y3,hy3,hF,he2,b5,_,q2,cs6,hp2,hq2,hr7,hc5⟩:=s10.ix hF
  obtain rfl:=qav hr7
  exact zxe hp2 hq2 he2 rfl (zp1 rfl (zc 1 (hc5.below h.below) rfl (X0 8 rfl (rK ⟨_,_,hF,rfl,h⟩ rfl))))
 refine qq rfl ?_
 obtain rfl:=qb hF;replace hF:=hK1
 refine X0 7 rfl ?_
 obtain rfl:=qb hF
 exact qT qa (ρ:=(Int × Bool)) [GoT.v Int [.int .i64 i1],GoT.v Bool [.bool r3]] h ⟨rfl,rfl,trivial⟩ (PV.done h (qak h (qx (S:=fun _=>False) rfl) (qZ (qx (S:=fun _=>False) rfl)) (by rfl)))
def qiu (_:Nat) (s:qf) (mode:Int):Option Int :=
 bif (mode==1) then some s.Be else
 some s.Ap
theorem qmZ {s:qf} {mode:Int} (ha1:Ro w s cs1) {r:Int} (hF:qiu n s mode=some r):RetV Tryz.prog 64 [GoT.v qf cs1,.int .i64 mode] w r:=by
 obtain rfl:=qz ha1
 refine zV 11 Tryz.func64 rfl fun h=>zSR (qv h rfl rfl fun w1 bb1 h=>X0 8 rfl (qh rfl hF ?_ ?_))<;>intro hF
 ·exact X1 6 0 h rfl (ri h hF rfl)
 exact X1 7 0 h rfl (ri h hF rfl)
def qiJ (n:Nat) (j:qaW) (start:Int) (links:(List Int)) (mode:Int):Option ((Option Tl20Work) × Int) :=
 (qdu n j).bind fun o=>match o with
  | (r2,r3) =>
   bif (r3 != 0) then some (none,r3) else
   (qkv n mode).bind fun r4 =>
   bif (!r4) then some (none,2) else
   (qlH n r2 start links).bind fun o=>match o with
    | (_,r7) =>
     bif (!r7) then some (none,5) else
     some (r2,0)
theorem qqG {A:Nat→Prop} (hA:∀ b,A b→old w b) {j:qaW} {start:Int} {links:(List Int)} {mode:Int} (ha1:GoT.R w A j cs1) (ha2:GoT.R w A links cs2) {r:((Option Tl20Work) × Int)} (hF:qiJ n j start links mode=some r):RetG Tryz.prog 46 [GoT.v qaW cs1,.int .i64 start,GoT.v (List Int) cs2,.int .i64 mode] w A r:=by
 obtain ⟨p1,k1,p2,k2,p3,k3,p4,k4,p5,k5,p6,k6,p7,k7,rfl,s1,s2,s3,s4,s5,s6,s7⟩:=qcX ha1
 obtain ⟨p8,k8,rfl,s8⟩:=ha2
 have hg:=Rg.start hA
 refine qek Tryz.func46 rfl (m:=35) rfl rfl (fun h=>?_)
 refine zSR (qv h rfl rfl fun w1 bb1 h=>X1 6 0 h rfl ?_)
 obtain ⟨r1,hr1,hF⟩:=qc hF
 obtain ⟨r2,r3⟩:=r1
 refine qh0 (r2,r3) hg h (cB 33 rfl) (qqs (hg.regOld h) (hg.inR h ha1) hr1) rfl rfl rfl rfl fun w2 us1 B1 hg1 hu1 hz1 hv1=>?_
 have hL1:=h.ext hu1.below
 have s9:=Up.S hg h hu1 s8
 have hb1:=h.below.trans (hu1.below.mono h.below.size)
 replace h:=hz1
 obtain ⟨cs3,us2,rfl,hr2,hv2⟩:=qkp hv1
 obtain ⟨p9,rfl,s10⟩:=qaq hr2
 obtain ⟨cs4,rfl,hr3⟩:=qj8 hv2
 obtain rfl:=hr3
 refine X0 12 rfl (qh rfl hF ?_ ?_)<;>intro hF
 ·refine X0 6 rfl ?_
  obtain rfl:=qb hF
  have hv3:GoRs.Rs (ρ:=((Option Tl20Work) × Int)) h.wc (reg A w h.wc) (none,r3) [GoT.v (Option Tl20Work) [.pointer none],GoT.v Int [.int .i64 r3]]:=⟨_,_,rfl,rfl,⟨_,rfl,rfl⟩⟩
  exact qdS qa (ρ:=((Option Tl20Work) × Int)) (r:=(none,r3)) [GoT.v (Option Tl20Work) [.pointer none],GoT.v Int [.int .i64 r3]] (h.unbase hg1.below (show NoD [] from trivial)) ⟨rfl,rfl,trivial⟩ hv3
 refine X0 5 rfl (zcB h hF qqq rfl fun r4 w3 h hF=>X0 2 rfl (qh rfl hF ?_ ?_))<;>intro hF
 ·refine X0 5 rfl ?_
  obtain rfl:=qb hF
  have hv4:GoRs.Rs (ρ:=((Option Tl20Work) × Int)) h.wc (reg A w h.wc) (none,2) [GoT.v (Option Tl20Work) [.pointer none],GoT.v Int [.int .i64 2]]:=⟨_,_,rfl,rfl,⟨_,rfl,rfl⟩⟩
  exact qdS qa (ρ:=((Option Tl20Work) × Int)) (r:=(none,2)) [GoT.v (Option Tl20Work) [.pointer none],GoT.v Int [.int .i64 2]] (h.unbase hg1.below (show NoD [] from trivial)) ⟨rfl,rfl,trivial⟩ hv4
 refine X0 6 rfl ?_
 obtain ⟨r5,hr5,hF⟩:=qc hF
 obtain ⟨r6,r7⟩:=r5
 refine qa5 (r6,r7) h (cB 35 rfl) (qrm (h.old (GoT.mono s10 hg1.old)) ⟨_,_,rfl,(h.oldS (s9.mono hg1.old))⟩ hr5) rfl rfl rfl rfl fun w4 S1 us3 hv5 hr6=>?_
 obtain ⟨S2,us4,rfl,hv6,hr7⟩:=hv5.consI hr6
 obtain ⟨rfl,h⟩:=hv6.lastB hr7
 refine X0 12 rfl (qh rfl hF ?_ ?_)<;>intro hF
 ·refine X0 5 rfl ?_
  obtain rfl:=qb hF
  have hv8:GoRs.Rs (ρ:=((Option Tl20Work) × Int)) h.wc (reg A w h.wc) (none,5) [GoT.v (Option Tl20Work) [.pointer none],GoT.v Int [.int .i64 5]]:=⟨_,_,rfl,rfl,⟨_,rfl,rfl⟩⟩
  exact qdS qa (ρ:=((Option Tl20Work) × Int)) (r:=(none,5)) [GoT.v (Option Tl20Work) [.pointer none],GoT.v Int [.int .i64 5]] (h.unbase hg1.below (show NoD [] from trivial)) ⟨rfl,rfl,trivial⟩ hv8
 refine X0 7 rfl ?_
 obtain rfl:=qb hF
 have hv9:GoRs.Rs (ρ:=((Option Tl20Work) × Int)) h.wc (reg A w h.wc) (r2,0) [GoT.v (Option Tl20Work) [.pointer p9],GoT.v Int [.int .i64 0]]:=⟨_,_,rfl,(hg1.outR h (hg1.inR h s10)),⟨_,rfl,rfl⟩⟩
 exact qdS qa (ρ:=((Option Tl20Work) × Int)) (r:=(r2,0)) [GoT.v (Option Tl20Work) [.pointer p9],GoT.v Int [.int .i64 0]] (h.unbase hg1.below (show NoD [] from trivial)) ⟨rfl,rfl,trivial⟩ hv9
def qfU (a_0:(Option Tl20Work)) (a_2:(List Int)) (a_3:Int):Nat→Int→Int→Int→Option (Int × Int × Int)
 | 0,_,_,_=>none
 | n+1,i1,i2,i3 =>
  bif decide (i3<(a_2.length:Int)) then
   (a_0).bind fun y1 =>
   (idx a_2 i3).bind fun y2 =>
   (idx y1.links y2).bind fun y3 =>
   (qbT n (⟨(⟨y1.j.Af.Av.As⟩:qn),(⟨y1.j.Af.Ab.Aa,y1.j.Af.Ab.Ak,y1.j.Af.Ab.Aj⟩:qd),y1.j.Af.Ac⟩:qg) (⟨y1.j.Ah.Bb,y1.j.Ah.Ar,y1.j.Ah.Az,y1.j.Ah.Aq,y1.j.Ah.Ba⟩:qt) y3 i2 a_3).bind fun r6 =>
   (qcm n (⟨(⟨y1.j.Af.Av.As⟩:qn),(⟨y1.j.Af.Ab.Aa,y1.j.Af.Ab.Ak,y1.j.Af.Ab.Aj⟩:qd),y1.j.Af.Ac⟩:qg) y3 i2 a_3).bind fun r7 =>
   qfU a_0 a_2 a_3 n (W64 (i1+r6)) r7 (W64 (i3+1))
  else
   some (i1,i2,i3)
def qlA (n:Nat) (a_0:(Option Tl20Work)) (a_1:Int) (a_2:(List Int)) (a_3:Int):Option (Int × Int) :=
 (qhc n a_0 a_1).bind fun o=>match o with
  | (r2,_) =>
   (qiu n (⟨r2.Ai.Ap,r2.Ai.Be⟩:qf) a_3).bind fun r4 =>
   (qiu n (⟨r2.Bc.Ap,r2.Bc.Be⟩:qf) a_3).bind fun r5 =>
   (qfU a_0 a_2 a_3 n r4 r5 0).bind fun o=>match o with
   | (i1,i2,_) =>
    some (i1,i2)
theorem qrd {a_0:(Option Tl20Work)} {a_1:Int} {a_2:(List Int)} {a_3:Int} (ha1:Ro w a_0 cs1) (ha2:Ro w a_2 cs2) {r:(Int × Int)} (hF:qlA n a_0 a_1 a_2 a_3=some r):RetV Tryz.prog 47 [GoT.v (Option Tl20Work) cs1,.int .i64 a_1,GoT.v (List Int) cs2,.int .i64 a_3] w r:=by
 obtain ⟨p1,rfl,s1⟩:=qaq ha1
 obtain ⟨p2,k1,rfl,s2⟩:=ha2
 refine zV 73 Tryz.func47 rfl fun h=>X0 9 rfl ?_
 obtain ⟨r1,hr1,hF⟩:=qc hF
 obtain ⟨r2,r3⟩:=r1
 refine qa5 (r2,r3) h (cB 62 rfl) (qlo (h.old s1) hr1) rfl rfl rfl rfl fun w1 S1 us1 hv1 hr2=>?_
 obtain ⟨S2,S3,cs3,us2,rfl,hv2,hr3⟩:=hv1.cons hr2
 obtain rfl:=qE (hv2.sh.own 0 rfl)
 obtain ⟨rfl,h⟩:=hv2.lastB hr3
 refine zp3 rfl (qp qa h rfl rfl rfl fun w2 bb1 h=>zs 0 h rfl fun w3 h=>X1 7 0 h rfl (zcI h hF (qmZ (qA _)) rfl fun r4 w4 h hF=>X1 7 0 h rfl (zcI h hF (qmZ (qA _)) rfl fun r5 w5 h hF=>X0 7 rfl ?_)))
 obtain ⟨o1,hF,hK1⟩:=qc hF
 refine qm ?_
 replace h:=h.pick [] rfl
 refine rL (fun m e w'=>∃ (i1:Int) (i2:Int) (i3:Int),qfU a_0 a_2 a_3 m i1 i2 i3=some o1∧e=[(0,.pointer p1),(2,.slice p2 a_2.length k1),(3,.int .i64 a_3),(12,.int .i64 i1),(13,.int .i64 i2),(14,.int .i64 i3)]∧SH w w' []) n ⟨_,_,_,hF,rfl,h⟩ rfl ?_
 rintro m1 e1 w6 ⟨i1,i2,i3,hF,rfl,h⟩
 rcases m1 with _|m1
 ·cases hF
 refine X0 8 rfl (qh rfl hF ?_ ?_)<;>intro hF
 ·refine X0 4 rfl (rA [] [] h rfl fun w7 h=>M0 1 [0] (h.pick [] rfl) rfl ?_)
  obtain ⟨y1,hy1,hF⟩:=qc hF
  obtain ⟨b1,o_1,cs4,rfl,-,hr7,hc2⟩:=PtR.get s1 hy1
  obtain ⟨p3,k2,p4,k3,p5,k4,p6,k5,p7,k6,p8,k7,p9,k8,p10,k9,p11,k10,p12,k11,p13,k12,p14,k13,rfl,s3,s4,s5,s6,s7,s8,s9,s10,s11,s12,s13,s14⟩:=qju hr7
  refine M0 7 [1,2] (h.pick [] rfl) rfl (Al 3 15 12 hc2 (h.pick [] rfl) rfl (M0 63 [4,5] (h.pick [] rfl) rfl ?_))
  obtain ⟨y2,hy2,hF,he1,b2,_,q1,cs5,hp1,hq1,rfl,hc3⟩:=s2.ix hF
  refine Ae 6 127 hp1 hq1 he1 (h.pick [] rfl) rfl (Al 7 255 0 hc3 (h.pick [] rfl) rfl ?_)
  obtain ⟨y3,hy3,hF,he2,b3,_,q2,cs6,hp2,hq2,hr9,hc4⟩:=s10.ix hF
  obtain rfl:=qav hr9
  refine Ae 8 511 hp2 hq2 he2 (h.pick [] rfl) rfl (Al 9 1023 0 hc4 (h.pick [] rfl) rfl (Ao 10 2047 rfl (qp qa h rfl rfl rfl fun w8 bb2 h=>Ag (h.pick [] rfl) (Ao 11 4095 rfl (zs 0 h rfl fun w9 h=>Ag (h.pick [] rfl) (Ad (qcP (rD (zd5 rfl (zdc 0 (hc2.below h.below) rfl (zd4 rfl (zdc 5 (hc2.below h.below) rfl (Y1 1 0 h rfl ?_)))))))))))))
  refine zd2 rfl ?_
  obtain ⟨r6,hr10,hF⟩:=qc hF
  refine qa0 r6 (vsI _) (cB 77 rfl) (fun _ hb=>qcw (qfu _ ((h.ext hb).oldS s3) ((h.ext hb).oldS s4) ((h.ext hb).oldS s5) ((h.ext hb).oldS s6) ((h.ext hb).oldS s7)) (qc6 _) (qbZ y3) hr10) rfl rfl rfl rfl (zd2 rfl (dN h fun w10 h=>rD (zd4 rfl (zdc 0 (hc2.below h.below) rfl (Y1 1 0 h rfl ?_)))))
  refine zd2 rfl ?_
  obtain ⟨r7,hr11,hF⟩:=qc hF
  refine qa0 r7 (vsI _) (cB 78 rfl) (fun _ hb=>qc5 (qfu _ ((h.ext hb).oldS s3) ((h.ext hb).oldS s4) ((h.ext hb).oldS s5) ((h.ext hb).oldS s6) ((h.ext hb).oldS s7)) (qbZ y3) hr11) rfl rfl rfl rfl (zd1 rfl (dN h fun w11 h=>X0 6 rfl ?_))
  replace h:=h.pick [] rfl
  exact rK ⟨_,_,_,hF,rfl,h⟩ rfl
 refine qq rfl ?_
 obtain rfl:=qb hF;replace hF:=hK1
 refine X0 7 rfl ?_
 obtain rfl:=qb hF
 exact qT qa (ρ:=(Int × Int)) [GoT.v Int [.int .i64 i1],GoT.v Int [.int .i64 i2]] h ⟨rfl,rfl,trivial⟩ (PV.done h (qak h (qx (S:=fun _=>False) rfl) (qZ (qx (S:=fun _=>False) rfl)) (by rfl)))
def qb1 (start:Int) (links:(List Int)) (mode:Int) (r2:(Option Tl20Work)):Nat→(List Int)→Int→Option ((List Int) × Int)
 | 0,_,_=>none
 | n+1,x1,i1 =>
  bif decide (i1≤(links.length:Int)) then
   (subS links 0 i1).bind fun x2 =>
   (qlA n r2 start x2 mode).bind fun o=>match o with
    | (r5,_) =>
     (appS x1 ([r5]:List Int)).bind fun x3 =>
     qb1 start links mode r2 n x3 (W64 (i1+1))
  else
   some (x1,i1)
def qfB (n:Nat) (j:qaW) (start:Int) (links:(List Int)) (mode:Int):Option ((List Int) × Int) :=
 (qiJ n j start links mode).bind fun o=>match o with
  | (r2,r3) =>
   bif (r3 != 0) then some ([],r3) else
   (qb1 start links mode r2 n ([]:List Int) 0).bind fun o=>match o with
   | (x1,_) =>
    some (x1,0)
theorem qmR {j:qaW} {start:Int} {links:(List Int)} {mode:Int} (ha1:Ro w j cs1) (ha2:Ro w links cs2) {r:((List Int) × Int)} (hF:qfB n j start links mode=some r):RetV Tryz.prog 27 [GoT.v qaW cs1,.int .i64 start,GoT.v (List Int) cs2,.int .i64 mode] w r:=by
 obtain ⟨p1,k1,p2,k2,p3,k3,p4,k4,p5,k5,p6,k6,p7,k7,rfl,s1,s2,s3,s4,s5,s6,s7⟩:=qcX ha1
 obtain ⟨p8,k8,rfl,s8⟩:=ha2
 refine zV 49 Tryz.func27 rfl fun h=>zSR (qv h rfl rfl fun w1 bb1 h=>X1 9 0 h rfl ?_)
 have hg1:Rg (old w) w (old w) w:=.start (fun _ h=>h)
 obtain ⟨r1,hr1,hF⟩:=qc hF
 obtain ⟨r2,r3⟩:=r1
 refine qh0 (r2,r3) hg1 h (cB 46 rfl) (qqG (hg1.regOld h) (hg1.inR h ha1) ⟨_,_,rfl,(hg1.inS h s8)⟩ hr1) rfl rfl rfl rfl fun w2 us1 B1 hg2 hu1 hz1 hv1=>?_
 have hL1:=h.ext hu1.below
 have s9:=Up.S hg1 h hu1 s8
 have hb1:=h.below.trans (hu1.below.mono h.below.size)
 replace h:=hz1
 obtain ⟨cs3,us2,rfl,hr2,hv2⟩:=qkp hv1
 obtain ⟨p9,rfl,s10⟩:=qaq hr2
 obtain ⟨cs4,rfl,hr3⟩:=qj8 hv2
 obtain rfl:=hr3
 refine X0 12 rfl (qh rfl hF ?_ ?_)<;>intro hF
 ·refine X0 6 rfl ?_
  replace h:=h.unbase hg2.below (show NoD [] from trivial)
  obtain rfl:=qb hF
  exact qT qa (ρ:=((List Int) × Int)) [GoT.v (List Int) [.slice none 0 0],GoT.v Int [.int .i64 r3]] h ⟨rfl,rfl,trivial⟩ (PV.done h (qak h qg0 (qZ (qx (S:=fun _=>False) rfl)) (by rfl)))
 refine zKSR (qL qa [] _ ([]:List Int) h rfl rfl rfl rfl rfl rfl rfl rfl rfl trivial rfl fun w3 p10 S1 h=>X0 7 rfl ?_)
 obtain ⟨o1,hF,hK1⟩:=qc hF
 refine qm (rL (fun m e w'=>∃ (S2:Nat→Prop) (p11:Option Addr) (ln1:Nat) (k9:Nat) (x1:(List Int)) (i1:Int),qb1 start links mode r2 m x1 i1=some o1∧e=[(1,.int .i64 start),(2,.slice p8 links.length k8),(3,.int .i64 mode),(10,.pointer p9),(12,.slice p11 ln1 k9),(13,.int .i64 i1)]∧SH w2 w' [Ch.own S2 (x1:List Int) [.slice p11 ln1 k9]]) n ⟨_,_,_,_,_,_,hF,rfl,h⟩ rfl ?_)
 rintro m1 e1 w4 ⟨S2,p11,ln1,k9,x1,i1,hF,rfl,h⟩
 obtain rfl:=(h.sl 0 rfl).2
 rcases m1 with _|m1
 ·cases hF
 refine X0 8 rfl (qh rfl hF ?_ ?_)<;>intro hF
 ·refine X0 9 rfl ?_
  obtain ⟨x2,hx1,hF⟩:=qc hF
  obtain ⟨p12,k10,hp1,hk1,hl1,g1⟩:=quR (h.oldS (s9.mono hg2.old)) hx1
  refine r_v (qrs qa rfl rfl rfl (quZ g1 rfl) hp1 hk1 hl1 rfl rfl rfl rfl) rfl ?_
  have s11:=qvz s9 hx1 hp1 hk1
  refine zp1 rfl ?_
  obtain ⟨r4,hr4,hF⟩:=qc hF
  obtain ⟨r5,r6⟩:=r4
  refine qa5 (r5,r6) h (cB 47 rfl) (qrd (h.old (GoT.mono s10 hg2.old)) ⟨_,_,rfl,(h.oldS (s11.mono hg2.old))⟩ hr4) rfl rfl rfl rfl fun w5 S3 us3 hv3 hr5=>?_
  obtain ⟨S4,us4,rfl,hv4,hr6⟩:=hv3.consI hr5
  obtain ⟨rfl,h⟩:=hv4.lastI hr6
  refine X0 9 rfl (qL qa [.tmp 45] _ ([r5]:List Int) h rfl rfl rfl rfl rfl rfl rfl rfl rfl ⟨rfl,trivial⟩ rfl fun w6 p13 S6 h=>?_)
  obtain ⟨x3,hx2,hF⟩:=qc hF
  obtain ⟨g2,hx2⟩:=qaw hx2
  refine qcC qa 1 h rfl (h.sl 0 rfl).1 (h.sl 0 rfl).2 rfl rfl rfl rfl rfl rfl rfl rfl rfl g2 hx2 rfl fun w7 p14 k11 S7 h=>X0 8 rfl ?_
  replace h:=h.pick [1] rfl
  exact rK ⟨_,_,_,_,_,_,hF,rfl,h⟩ rfl
 refine qq rfl ?_
 obtain rfl:=qb hF;replace hF:=hK1
 refine X0 6 rfl ?_
 replace h:=h.unbase hg2.below ⟨fun _ h=>h,trivial⟩
 obtain rfl:=qb hF
 exact qT qa (ρ:=((List Int) × Int)) [GoT.v (List Int) [.slice p11 x1.length k9],GoT.v Int [.int .i64 0]] h ⟨rfl,rfl,trivial⟩ (PV.done h (qak h (qag 0 h rfl) (qZ (qx (S:=fun _=>False) rfl)) (by rfl)))
def qjd (n:Nat) (v:(Option Tview)) (link:Int):Option Bool :=
 (v).bind fun y1 =>
 (qdd n y1.links).bind fun r1 =>
 (qaR n link 0 (W64 (r1-1))).bind fun r2 =>
 some r2
theorem qoe {v:(Option Tview)} {link:Int} (ha1:Ro w v cs1) {r:Bool} (hF:qjd n v link=some r):RetV Tryz.prog 161 [GoT.v (Option Tview) cs1,.int .i64 link] w r:=by
 obtain ⟨p1,rfl,s1⟩:=qaq ha1
 refine zV 13 Tryz.func161 rfl fun h=>X0 8 rfl ?_
 obtain ⟨y1,hy1,hF⟩:=qc hF
 obtain ⟨b1,o_1,cs2,rfl,-,hr1,hc1⟩:=PtR.get s1 hy1
 obtain ⟨p2,k1,p3,k2,p4,k3,p5,k4,p6,k5,p7,k6,p8,k7,p9,k8,p10,k9,p11,k10,rfl,s2,s3,s4,s5,s6,s7,s8,s9,s10,s11⟩:=qbP hr1
 exact zp2 rfl (zc 6 (hc1.below h.below) rfl (zcI h hF (qhW ⟨_,_,rfl,(h.oldS s8)⟩) rfl fun r1 w1 h hF=>zp1 rfl (zcB h hF qaz rfl fun r2 w2 h hF=>X0 2 rfl (rb h hF rfl))))
def qb8 (v:(Option Tview)) (links:(List Int)):Nat→Int→Option (Flow Bool Int)
 | 0,_=>none
 | n+1,i1 =>
  bif decide (i1<(links.length:Int)) then
   (idx links i1).bind fun y1 =>
   (qjd n v y1).bind fun r1 =>
   bif (!r1) then some (.ret false) else
   bif decide (i1 > 0) then
    (v).bind fun y2 =>
    (idx links (W64 (i1-1))).bind fun y3 =>
    (idx y2.links y3).bind fun y4 =>
    (idx y2.links y1).bind fun y5 =>
    bif (y4.To != y5.Bk) then some (.ret false) else
    qb8 v links n (W64 (i1+1))
   else
    qb8 v links n (W64 (i1+1))
  else
   some (.nxt i1)
def qhp (n:Nat) (v:(Option Tview)) (links:(List Int)):Option Bool :=
 (qb8 v links n 0).bind fun o=>match o with
 | .ret r=>some r
 | .nxt _ =>
  some true
theorem qoi {v:(Option Tview)} {links:(List Int)} (ha1:Ro w v cs1) (ha2:Ro w links cs2) {r:Bool} (hF:qhp n v links=some r):RetV Tryz.prog 109 [GoT.v (Option Tview) cs1,GoT.v (List Int) cs2] w r:=by
 obtain ⟨p1,rfl,s1⟩:=qaq ha1
 obtain ⟨p2,k1,rfl,s2⟩:=ha2
 refine zV 46 Tryz.func109 rfl fun h=>X0 11 rfl ?_
 obtain ⟨o1,hF,hK1⟩:=qc hF
 refine qm (rL (fun m e w'=>∃ (i1:Int),qb8 v links m i1=some o1∧e=[(0,.pointer p1),(1,.slice p2 links.length k1),(7,.slice p2 links.length k1),(8,.int .i64 (links.length:Int)),(9,.int .i64 i1)]∧SH w w' []) n ⟨_,hF,rfl,h⟩ rfl ?_)
 rintro m1 e1 w1 ⟨i1,hF,rfl,h⟩
 rcases m1 with _|m1
 ·cases hF
 refine X0 5 rfl (qh rfl hF ?_ ?_)<;>intro hF
 ·refine X0 6 rfl ?_
  obtain ⟨y1,hy1,hF,he1,b1,_,q1,cs3,hp1,hq1,rfl,hc2⟩:=s2.ix hF
  refine zxe hp1 hq1 he1 rfl (zc 0 (hc2.below h.below) rfl (X0 4 rfl (rD (zd2 rfl ?_))))
  obtain ⟨r1,hr2,hF⟩:=qc hF
  refine qa0 r1 (vsB _) (cB 161 rfl) (fun _ hb=>qoe ((h.ext hb).old s1) hr2) rfl rfl rfl rfl (zd2 rfl (qaT (t:=18) hF rfl ?_ ?_))<;>intro hF
  ·refine Y0 26 rfl (dN h fun w2 h=>qb0 rfl rfl (X0 4 rfl ?_))
   obtain rfl:=qb hF;replace hF:=hK1
   exact rb h hF rfl
  refine Y0 6 rfl (qaT (t:=21) hF rfl ?_ ?_)<;>intro hF
  ·refine Y0 3 rfl ?_
   obtain ⟨y2,hy2,hF⟩:=qc hF
   obtain ⟨b2,o_2,cs4,rfl,-,hr3,hc3⟩:=PtR.get s1 hy2
   obtain ⟨p3,k2,p4,k3,p5,k4,p6,k5,p7,k6,p8,k7,p9,k8,p10,k9,p11,k10,p12,k11,rfl,s3,s4,s5,s6,s7,s8,s9,s10,s11,s12⟩:=qbP hr3
   refine Y0 4 rfl (zdc 6 (hc3.below h.below) rfl (Y0 7 rfl ?_))
   obtain ⟨y3,hy3,hF,he2,b3,_,q2,cs5,hp2,hq2,rfl,hc4⟩:=s2.ix hF
   refine zdxe hp2 hq2 he2 rfl (Y0 1 rfl (zdc 0 (hc4.below h.below) rfl (Y0 1 rfl ?_)))
   obtain ⟨y4,hy4,hF,he3,b4,_,q3,cs6,hp3,hq3,hr5,hc5⟩:=s9.ix hF
   obtain rfl:=qav hr5
   refine zdxe hp3 hq3 he3 rfl (Y0 3 rfl (zdc 1 (hc5.below h.below) rfl (Y0 7 rfl (zdc 6 (hc3.below h.below) rfl (Y0 3 rfl ?_)))))
   obtain ⟨y5,hy5,hF,he4,b5,_,q4,cs7,hp4,hq4,hr6,hc6⟩:=s9.ix hF
   obtain rfl:=qav hr6
   refine zdxe hp4 hq4 he4 rfl (Y0 3 rfl (zdc 0 (hc6.below h.below) rfl (Y0 5 rfl (dN h fun w3 h=>qh rfl hF ?_ ?_))))<;>intro hF
   ·refine X0 4 rfl ?_
    obtain rfl:=qb hF;replace hF:=hK1
    exact rb h hF rfl
   exact X0 6 rfl (rK ⟨_,hF,rfl,h⟩ rfl)
  exact Y0 24 rfl (dN h fun w4 h=>qbW rfl rfl (X0 6 rfl (rK ⟨_,hF,rfl,h⟩ rfl)))
 refine qq rfl ?_
 obtain rfl:=qb hF;replace hF:=hK1
 exact X0 4 rfl (rb h hF rfl)
def qfk (_:Nat) (link:Int) (v0:(Option Twork)):Option Bool :=
 (v0).bind fun y1 =>
 (y1.graph).bind fun y2 =>
 (idx y2.live link).bind fun y3 =>
 some (!y3)
theorem qmd {link:Int} {v0:(Option Twork)} {p1:Option Addr} (ha1:Ro w (some v0) [.pointer p1]) {r:Bool} (hF:qfk n link v0=some r):RetV Tryz.prog 111 [.int .i64 link,.pointer p1] w r:=by
 obtain ⟨b1,o_1,cs1,rfl,-,hr1,hc1⟩:=PtR.get ha1 rfl
 obtain ⟨p2,rfl,s1⟩:=qaq hr1
 refine zV 15 Tryz.func111 rfl fun h=>X0 6 rfl (zc 0 (hc1.below h.below) rfl ?_)
 obtain ⟨y1,hy1,hF⟩:=qc hF
 obtain ⟨b2,o_2,cs2,rfl,-,hr2,hc2⟩:=PtR.get s1 hy1
 obtain ⟨p3,p4,k1,p5,k2,p6,k3,p7,k4,p8,k5,p9,k6,p10,k7,p11,k8,p12,k9,p13,k10,p14,k11,rfl,s2,s3,s4,s5,s6,s7,s8,s9,s10,s11,s12,s13⟩:=qmw hr2
 refine zp2 rfl (zc 0 (hc2.below h.below) rfl ?_)
 obtain ⟨y2,hy2,hF⟩:=qc hF
 obtain ⟨b3,o_3,cs3,rfl,-,hr3,hc3⟩:=PtR.get s2 hy2
 obtain ⟨p15,p16,k12,rfl,s14,s15⟩:=qdw hr3
 refine zp2 rfl (zc 1 (hc3.below h.below) rfl (zp1 rfl ?_))
 obtain ⟨y3,hy3,hF,he1,b4,_,q1,cs4,hp1,hq1,rfl,hc4⟩:=s15.ix hF
 exact zxe hp1 hq1 he1 rfl (zc 0 (hc4.below h.below) rfl (X0 3 rfl (rb h hF rfl)))
def qV (s:(List Int)) (f_0:(Option Twork)):Nat→Int→Option (Flow Int Int)
 | 0,_=>none
 | n+1,i1 =>
  bif decide (i1<(s.length:Int)) then
   (idx s i1).bind fun y1 =>
   (qfk n y1 f_0).bind fun r1 =>
   bif r1 then some (.ret i1) else
   qV s f_0 n (W64 (i1+1))
  else
   some (.nxt i1)
def qaK (n:Nat) (s:(List Int)) (f_0:(Option Twork)):Option Int :=
 (qV s f_0 n 0).bind fun o=>match o with
 | .ret r=>some r
 | .nxt _ =>
  some (-1)
theorem qft {s:(List Int)} {f_0:(Option Twork)} (ha1:Ro w s cs1) {p2:Option Addr} (ha2:Ro w (some f_0) [.pointer p2]) {r:Int} (hF:qaK n s f_0=some r):RetV Tryz.prog 162 [GoT.v (List Int) cs1,.func (.func 111) #[] #[.pointer p2]] w r:=by
 obtain ⟨p1,k1,rfl,s1⟩:=ha1
 obtain ⟨b1,o_1,cs2,rfl,-,hr1,hc1⟩:=PtR.get ha2 rfl
 obtain ⟨p3,rfl,s2⟩:=qaq hr1
 refine zV 19 Tryz.func162 rfl fun h=>X0 11 rfl ?_
 obtain ⟨o1,hF,hK1⟩:=qc hF
 refine qm (rL (fun m e w'=>∃ (i1:Int),qV s f_0 m i1=some o1∧e=[(0,.slice p1 s.length k1),(1,.func (.func 111) #[] #[.pointer (some ⟨b1,o_1,none⟩)]),(7,.int .i64 (s.length:Int)),(8,.int .i64 i1)]∧SH w w' []) n ⟨_,hF,rfl,h⟩ rfl ?_)
 rintro m1 e1 w1 ⟨i1,hF,rfl,h⟩
 rcases m1 with _|m1
 ·cases hF
 refine X0 5 rfl (qh rfl hF ?_ ?_)<;>intro hF
 ·refine X0 13 rfl ?_
  obtain ⟨y1,hy1,hF,he1,b2,_,q1,cs3,hp1,hq1,rfl,hc3⟩:=s1.ix hF
  refine zxe hp1 hq1 he1 rfl (zc 0 (hc3.below h.below) rfl (zcB h hF (qmd (h.old ha2)) rfl fun r1 w2 h hF=>qcH (qh rfl hF ?_ ?_)))<;>intro hF
  ·refine X0 5 rfl ?_
   obtain rfl:=qb hF;replace hF:=hK1
   exact ri h hF rfl
  exact X0 6 rfl (rK ⟨_,hF,rfl,h⟩ rfl)
 refine qq rfl ?_
 obtain rfl:=qb hF;replace hF:=hK1
 exact X0 4 rfl (ri h hF rfl)
def qX (n:Nat) (s:(List Int)) (f_0:(Option Twork)):Option Bool :=
 (qaK n s f_0).bind fun r1 =>
 some (decide (r1 ≥ 0))
theorem qbU {s:(List Int)} {f_0:(Option Twork)} (ha1:Ro w s cs1) {p2:Option Addr} (ha2:Ro w (some f_0) [.pointer p2]) {r:Bool} (hF:qX n s f_0=some r):RetV Tryz.prog 110 [GoT.v (List Int) cs1,.func (.func 111) #[] #[.pointer p2]] w r:=by
 obtain ⟨p1,k1,rfl,s1⟩:=ha1
 obtain ⟨b1,o_1,cs2,rfl,-,hr1,hc1⟩:=PtR.get ha2 rfl
 obtain ⟨p3,rfl,s2⟩:=qaq hr1
 exact zV 9 Tryz.func110 rfl fun h=>X0 8 rfl (zcI h hF (qft ⟨_,_,rfl,(h.oldS s1)⟩ (h.old ha2)) rfl fun r1 w1 h hF=>X0 3 rfl (rb h hF rfl))
def qf8 (n:Nat) (a_w:(Option Twork)) (start:Int) (links:(List Int)):Option Bool :=
 (a_w).bind fun y1 =>
 (qeh n y1.job.Ay start).bind fun o=>match o with
  | (_,r3) =>
   (
    bif (!r3) then some true else
    (y1.graph).bind fun y6 =>
    (qhp n y6.view links).bind fun r6 =>
    some (!r6)).bind fun b2 =>
   bif b2 then some false else
   bif decide ((links.length:Int) > 0) then
    (y1.graph).bind fun y2 =>
    (y2.view).bind fun y3 =>
    (idx links 0).bind fun y4 =>
    (idx y3.links y4).bind fun y5 =>
    bif (y5.Bk != start) then some false else
    (qX n links a_w).bind fun r4 =>
    some (!r4)
   else
    (qX n links a_w).bind fun r5 =>
    some (!r5)
theorem qm8 {a_w:(Option Twork)} {start:Int} {links:(List Int)} (ha1:Ro w a_w cs1) (ha2:Ro w links cs2) {r:Bool} (hF:qf8 n a_w start links=some r):RetV Tryz.prog 71 [GoT.v (Option Twork) cs1,.int .i64 start,GoT.v (List Int) cs2] w r:=by
 obtain ⟨p1,rfl,s1⟩:=qaq ha1
 obtain ⟨p2,k1,rfl,s2⟩:=ha2
 refine zV 60 Tryz.func71 rfl fun h=>zSR (qv h rfl rfl fun w1 bb1 h=>X1 6 0 h rfl ?_)
 obtain ⟨y1,hy1,hF⟩:=qc hF
 obtain ⟨b1,o_1,cs3,rfl,-,hr1,hc1⟩:=PtR.get s1 hy1
 obtain ⟨p3,p4,k2,p5,k3,p6,k4,p7,k5,p8,k6,p9,k7,p10,k8,p11,k9,p12,k10,p13,k11,p14,k12,rfl,s3,s4,s5,s6,s7,s8,s9,s10,s11,s12,s13,s14⟩:=qmw hr1
 refine zp3 rfl (zc 12 (hc1.below h.below) rfl (zp1 rfl ?_))
 obtain ⟨r1,hr2,hF⟩:=qc hF
 obtain ⟨r2,r3⟩:=r1
 refine qa5 (r2,r3) h (cB 79 rfl) (qjl ⟨_,_,rfl,(h.oldS s10)⟩ hr2) rfl rfl rfl rfl fun w2 S1 us1 hv1 hr3=>?_
 obtain ⟨S2,S3,cs4,us2,rfl,hv2,hr4⟩:=hv1.cons hr3
 obtain rfl:=qE (hv2.sh.own 0 rfl)
 obtain ⟨rfl,h⟩:=hv2.lastB hr4
 refine zp3 rfl (qp qa h rfl rfl rfl fun w3 bb2 h=>zs 0 h rfl fun w4 h=>X0 3 rfl ?_)
 obtain ⟨KF1,hKF1,o1,hF,hK1⟩:=bindE hF
 refine qbe (fun e w'=>∃ (b2:Bool),KF1 b2=some r∧e=[(1,.int .i64 start),(2,.slice p2 links.length k1),(3,.pointer (some ⟨bb1,0,none⟩)),(32,.bool b2)]∧SH w w' [Ch.box bb1 [.pointer (some ⟨b1,o_1,none⟩)] 82]) ?_ ?_
 ·refine X0 4 rfl (qj (t:=21) hF rfl ?_ ?_)<;>intro hF
  ·refine X0 12 rfl ?_
   replace h:=h.pick [2] rfl
   obtain rfl:=qb hF
   exact rG ⟨_,hK1,rfl,h⟩ rfl
  refine X1 7 2 h rfl (zc 0 (hc1.below h.below) rfl (X0 1 rfl ?_))
  obtain ⟨y6,hy6,hF⟩:=qc hF
  obtain ⟨b7,o_6,cs9,rfl,-,hr12,hc8⟩:=PtR.get s3 hy6
  obtain ⟨p27,p28,k24,rfl,s27,s28⟩:=qdw hr12
  refine X0 4 rfl (zc 0 (hc8.below h.below) rfl (X0 3 rfl (zcB h hF (qoi (h.old s27) ⟨_,_,rfl,(h.oldS s2)⟩) rfl fun r6 w9 h hF=>X0 4 rfl ?_)))
  replace h:=h.pick [2] rfl
  obtain rfl:=qb hF
  exact rG ⟨_,hK1,rfl,h⟩ rfl
 rintro e1 w10 ⟨b2,hF,rfl,h⟩
 subst hKF1
 refine qh rfl hF ?_ ?_<;>intro hF
 ·exact X0 4 rfl (rb h hF rfl)
 refine zKSS (rD (zd4 rfl (qaT (t:=36) hF rfl ?_ ?_)))<;>intro hF
 ·refine Y1 2 0 h rfl ?_
  refine Y0 5 rfl (zdc 0 (hc1.below h.below) rfl (Y0 1 rfl ?_))
  obtain ⟨y2,hy2,hF⟩:=qc hF
  obtain ⟨b3,o_2,cs5,rfl,-,hr6,hc3⟩:=PtR.get s3 hy2
  obtain ⟨p15,p16,k13,rfl,s15,s16⟩:=qdw hr6
  refine Y0 4 rfl (zdc 0 (hc3.below h.below) rfl (Y0 1 rfl ?_))
  obtain ⟨y3,hy3,hF⟩:=qc hF
  obtain ⟨b4,o_3,cs6,rfl,-,hr7,hc4⟩:=PtR.get s15 hy3
  obtain ⟨p17,k14,p18,k15,p19,k16,p20,k17,p21,k18,p22,k19,p23,k20,p24,k21,p25,k22,p26,k23,rfl,s17,s18,s19,s20,s21,s22,s23,s24,s25,s26⟩:=qbP hr7
  refine Y0 4 rfl (zdc 6 (hc4.below h.below) rfl (Y0 3 rfl ?_))
  obtain ⟨y4,hy4,hF,he1,b5,_,q1,cs7,hp1,hq1,rfl,hc5⟩:=s2.ix hF
  refine zdxe hp1 hq1 he1 rfl (Y0 1 rfl (zdc 0 (hc5.below h.below) rfl (Y0 1 rfl ?_)))
  obtain ⟨y5,hy5,hF,he2,b6,_,q2,cs8,hp2,hq2,hr9,hc6⟩:=s23.ix hF
  obtain rfl:=qav hr9
  refine zdxe hp2 hq2 he2 rfl (Y0 3 rfl (zdc 0 (hc6.below h.below) rfl (Y0 5 rfl (dN h fun w5 h=>qh rfl hF ?_ ?_))))<;>intro hF
  ·exact X0 4 rfl (rb h hF rfl)
  exact X0 5 rfl (zcB h hF (qbU ⟨_,_,rfl,(h.oldS s2)⟩ (qgS (x:=a_w) 0 h rfl (h.old s1))) rfl fun r4 w6 h hF=>X0 3 rfl (rb h hF rfl))
 exact Y0 19 rfl (dN h fun w7 h=>qbW rfl rfl (X0 5 rfl (zcB h hF (qbU ⟨_,_,rfl,(h.oldS s2)⟩ (qgS (x:=a_w) 0 h rfl (h.old s1))) rfl fun r5 w8 h hF=>X0 3 rfl (rb h hF rfl))))
def qcE (n:Nat) (j:qaW) (mode:Int) (start:Int) (links:(List Int)):Option ((Option Twork) × Int) :=
 (qht n j mode []).bind fun o=>match o with
  | (r2,r3) =>
   bif (r3==0) then
    (qf8 n r2 start links).bind fun r4 =>
    bif (!r4) then some (none,5) else
    some (r2,r3)
   else
    some (r2,r3)
theorem qpS {A:Nat→Prop} (hA:∀ b,A b→old w b) {j:qaW} {mode:Int} {start:Int} {links:(List Int)} (ha1:GoT.R w A j cs1) (ha2:GoT.R w A links cs2) {r:((Option Twork) × Int)} (hF:qcE n j mode start links=some r):RetG Tryz.prog 40 [GoT.v qaW cs1,.int .i64 mode,.int .i64 start,GoT.v (List Int) cs2] w A r:=by
 obtain ⟨p1,k1,p2,k2,p3,k3,p4,k4,p5,k5,p6,k6,p7,k7,rfl,s1,s2,s3,s4,s5,s6,s7⟩:=qcX ha1
 obtain ⟨p8,k8,rfl,s8⟩:=ha2
 have hg:=Rg.start hA
 refine qek Tryz.func40 rfl (m:=29) rfl rfl (fun h=>?_)
 refine zSR (qv h rfl rfl fun w1 bb1 h=>X1 7 0 h rfl ?_)
 obtain ⟨r1,hr1,hF⟩:=qc hF
 obtain ⟨r2,r3⟩:=r1
 refine qh0 (r2,r3) hg h (cB 70 rfl) (qqE (hg.regOld h) (hg.inR h ha1) ⟨_,_,rfl,qnQ⟩ hr1) rfl rfl rfl rfl fun w2 us1 B1 hg1 hu1 hz1 hv1=>?_
 have hL1:=h.ext hu1.below
 have s9:=Up.S hg h hu1 s8
 have hb1:=h.below.trans (hu1.below.mono h.below.size)
 replace h:=hz1
 obtain ⟨cs3,us2,rfl,hr2,hv2⟩:=qkp hv1
 obtain ⟨p9,rfl,s10⟩:=qaq hr2
 obtain ⟨cs4,rfl,hr3⟩:=qj8 hv2
 obtain rfl:=hr3
 refine X0 12 rfl (qj (t:=20) hF rfl ?_ ?_)<;>intro hF
 ·refine X0 7 rfl (zcB h hF (qm8 (h.old (GoT.mono s10 hg1.old)) ⟨_,_,rfl,(h.oldS (s9.mono hg1.old))⟩) rfl fun r4 w3 h hF=>X0 4 rfl (qh rfl hF ?_ ?_))<;>intro hF
  ·refine X0 5 rfl ?_
   obtain rfl:=qb hF
   have hv3:GoRs.Rs (ρ:=((Option Twork) × Int)) h.wc (reg A w h.wc) (none,5) [GoT.v (Option Twork) [.pointer none],GoT.v Int [.int .i64 5]]:=⟨_,_,rfl,rfl,⟨_,rfl,rfl⟩⟩
   exact qdS qa (ρ:=((Option Twork) × Int)) (r:=(none,5)) [GoT.v (Option Twork) [.pointer none],GoT.v Int [.int .i64 5]] (h.unbase hg1.below (show NoD [] from trivial)) ⟨rfl,rfl,trivial⟩ hv3
  refine X0 8 rfl ?_
  obtain rfl:=qb hF
  have hv4:GoRs.Rs (ρ:=((Option Twork) × Int)) h.wc (reg A w h.wc) (r2,r3) [GoT.v (Option Twork) [.pointer p9],GoT.v Int [.int .i64 r3]]:=⟨_,_,rfl,(hg1.outR h (hg1.inR h s10)),⟨_,rfl,rfl⟩⟩
  exact qdS qa (ρ:=((Option Twork) × Int)) (r:=(r2,r3)) [GoT.v (Option Twork) [.pointer p9],GoT.v Int [.int .i64 r3]] (h.unbase hg1.below (show NoD [] from trivial)) ⟨rfl,rfl,trivial⟩ hv4
 refine X0 7 rfl (qbW rfl rfl (X0 8 rfl ?_))
 obtain rfl:=qb hF
 have hv5:GoRs.Rs (ρ:=((Option Twork) × Int)) h.wc (reg A w h.wc) (r2,r3) [GoT.v (Option Twork) [.pointer p9],GoT.v Int [.int .i64 r3]]:=⟨_,_,rfl,(hg1.outR h (hg1.inR h s10)),⟨_,rfl,rfl⟩⟩
 exact qdS qa (ρ:=((Option Twork) × Int)) (r:=(r2,r3)) [GoT.v (Option Twork) [.pointer p9],GoT.v Int [.int .i64 r3]] (h.unbase hg1.below (show NoD [] from trivial)) ⟨rfl,rfl,trivial⟩ hv5
def qke (_:Nat) (s:qf) (mode:Int):Option Int :=
 bif (mode==0) then some s.Ap else
 some s.Be
theorem qmV {s:qf} {mode:Int} (ha1:Ro w s cs1) {r:Int} (hF:qke n s mode=some r):RetV Tryz.prog 42 [GoT.v qf cs1,.int .i64 mode] w r:=by
 obtain rfl:=qz ha1
 refine zV 11 Tryz.func42 rfl fun h=>zSR (qv h rfl rfl fun w1 bb1 h=>X0 8 rfl (qh rfl hF ?_ ?_))<;>intro hF
 ·exact X1 6 0 h rfl (ri h hF rfl)
 exact X1 7 0 h rfl (ri h hF rfl)
def qcs (a_2:(List Int)) (a_3:Int) (y1:Twork):Nat→(List Int)→Int→Int→Int→Option ((List Int) × Int × Int × Int)
 | 0,_,_,_,_=>none
 | n+1,x1,i1,i2,i3 =>
  bif decide (i3<(a_2.length:Int)) then
   (idx a_2 i3).bind fun y2 =>
   (y1.graph).bind fun y3 =>
   (qbi n y3.view (⟨y1.job.Ah.Bb,y1.job.Ah.Ar,y1.job.Ah.Az,y1.job.Ah.Aq,y1.job.Ah.Ba⟩:qt) y2 i2 a_3).bind fun r6 =>
   (qaL n y3.view y2 i2 a_3).bind fun r7 =>
   (appS x1 ([W64 (i1+r6)]:List Int)).bind fun x2 =>
   qcs a_2 a_3 y1 n x2 (W64 (i1+r6)) r7 (W64 (i3+1))
  else
   some (x1,i1,i2,i3)
def qgK (n:Nat) (a_0:(Option Twork)) (a_1:Int) (a_2:(List Int)) (a_3:Int):Option ((List Int) × Int) :=
 (a_0).bind fun y1 =>
 (qeh n y1.job.Ay a_1).bind fun o=>match o with
  | (r2,_) =>
   (qke n (⟨r2.Ai.Ap,r2.Ai.Be⟩:qf) a_3).bind fun r4 =>
   (qke n (⟨r2.Bc.Ap,r2.Bc.Be⟩:qf) a_3).bind fun r5 =>
   (qcs a_2 a_3 y1 n ([r4]:List Int) r4 r5 0).bind fun o=>match o with
   | (x1,_,i2,_) =>
    some (x1,i2)
theorem qnJ {a_0:(Option Twork)} {a_1:Int} {a_2:(List Int)} {a_3:Int} (ha1:Ro w a_0 cs1) (ha2:Ro w a_2 cs2) {r:((List Int) × Int)} (hF:qgK n a_0 a_1 a_2 a_3=some r):RetV Tryz.prog 48 [GoT.v (Option Twork) cs1,.int .i64 a_1,GoT.v (List Int) cs2,.int .i64 a_3] w r:=by
 obtain ⟨p1,rfl,s1⟩:=qaq ha1
 obtain ⟨p2,k1,rfl,s2⟩:=ha2
 refine zV 79 Tryz.func48 rfl fun h=>X0 8 rfl ?_
 obtain ⟨y1,hy1,hF⟩:=qc hF
 obtain ⟨b1,o_1,cs3,rfl,-,hr1,hc1⟩:=PtR.get s1 hy1
 obtain ⟨p3,p4,k2,p5,k3,p6,k4,p7,k5,p8,k6,p9,k7,p10,k8,p11,k9,p12,k10,p13,k11,p14,k12,rfl,s3,s4,s5,s6,s7,s8,s9,s10,s11,s12,s13,s14⟩:=qmw hr1
 refine zp3 rfl (zc 12 (hc1.below h.below) rfl (zp1 rfl ?_))
 obtain ⟨r1,hr2,hF⟩:=qc hF
 obtain ⟨r2,r3⟩:=r1
 refine qa5 (r2,r3) h (cB 79 rfl) (qjl ⟨_,_,rfl,(h.oldS s10)⟩ hr2) rfl rfl rfl rfl fun w1 S1 us1 hv1 hr3=>?_
 obtain ⟨S2,S3,cs4,us2,rfl,hv2,hr4⟩:=hv1.cons hr3
 obtain rfl:=qE (hv2.sh.own 0 rfl)
 obtain ⟨rfl,h⟩:=hv2.lastB hr4
 refine zp3 rfl (qp qa h rfl rfl rfl fun w2 bb1 h=>zs 0 h rfl fun w3 h=>X0 3 rfl (rD (Y1 2 0 h rfl ?_)))
 refine zd1 rfl ?_
 obtain ⟨r4,hr6,hF⟩:=qc hF
 refine qa0 r4 (vsI _) (cB 42 rfl) (fun _ hb=>qmV (qA _) hr6) rfl rfl rfl rfl (Y1 2 0 h rfl ?_)
 refine zd1 rfl ?_
 obtain ⟨r5,hr7,hF⟩:=qc hF
 refine qa0 r5 (vsI _) (cB 42 rfl) (fun _ hb=>qmV (qA _) hr7) rfl rfl rfl rfl (zd2 rfl (dN h fun w4 h=>X0 3 rfl (qL qa [.tmp 35] _ ([r4]:List Int) h rfl rfl rfl rfl rfl rfl rfl rfl rfl ⟨rfl,trivial⟩ rfl fun w5 p15 S5 h=>X0 9 rfl ?_)))
 obtain ⟨o1,hF,hK1⟩:=qc hF
 refine qm ?_
 replace h:=h.pick [0] rfl
 refine rL (fun m e w'=>∃ (S6:Nat→Prop) (p16:Option Addr) (ln1:Nat) (k13:Nat) (x1:(List Int)) (i1:Int) (i2:Int) (i3:Int),qcs a_2 a_3 y1 m x1 i1 i2 i3=some o1∧e=[(0,.pointer (some ⟨b1,o_1,none⟩)),(3,.int .i64 a_3),(12,.int .i64 i1),(13,.int .i64 i2),(14,.slice p16 ln1 k13),(37,.slice p2 a_2.length k1),(38,.int .i64 (a_2.length:Int)),(39,.int .i64 i3)]∧SH w w' [Ch.own S6 (x1:List Int) [.slice p16 ln1 k13]]) n ⟨_,_,_,_,_,_,_,_,hF,rfl,h⟩ rfl ?_
 rintro m1 e1 w6 ⟨S6,p16,ln1,k13,x1,i1,i2,i3,hF,rfl,h⟩
 obtain rfl:=(h.sl 0 rfl).2
 rcases m1 with _|m1
 ·cases hF
 refine X0 5 rfl (qh rfl hF ?_ ?_)<;>intro hF
 ·refine zKSBSR ?_
  obtain ⟨y2,hy2,hF,he1,b2,_,q1,cs5,hp1,hq1,rfl,hc3⟩:=s2.ix hF
  refine zxe hp1 hq1 he1 rfl (zc 0 (hc3.below h.below) rfl (X0 3 rfl (rD (zd4 rfl (zdc 0 (hc1.below h.below) rfl ?_)))))
  obtain ⟨y3,hy3,hF⟩:=qc hF
  obtain ⟨b3,o_3,cs6,rfl,-,hr9,hc4⟩:=PtR.get s3 hy3
  obtain ⟨p17,p18,k14,rfl,s15,s16⟩:=qdw hr9
  refine zd2 rfl (zdc 0 (hc4.below h.below) rfl (zd4 rfl (zdc 6 (hc1.below h.below) rfl (zd3 rfl ?_))))
  obtain ⟨r6,hr10,hF⟩:=qc hF
  refine qa0 r6 (vsI _) (cB 80 rfl) (fun _ hb=>qap ((h.ext hb).old s15) (qc6 _) hr10) rfl rfl rfl rfl (zd2 rfl (dN h fun w7 h=>X0 5 rfl (zc 0 (hc1.below h.below) rfl (zp2 rfl (zc 0 (hc4.below h.below) rfl (zp3 rfl (zcI h hF (qfg (h.old s15)) rfl fun r7 w8 h hF=>X0 5 rfl (qL qa [.tmp 73] _ ([W64 (i1+r6)]:List Int) h rfl rfl rfl rfl rfl rfl rfl rfl rfl ⟨rfl,trivial⟩ rfl fun w9 p19 S7 h=>?_))))))))
  obtain ⟨x2,hx1,hF⟩:=qc hF
  obtain ⟨g1,hx1⟩:=qaw hx1
  refine qcC qa 1 h rfl (h.sl 0 rfl).1 (h.sl 0 rfl).2 rfl rfl rfl rfl rfl rfl rfl rfl rfl g1 hx1 rfl fun w10 p20 k15 S8 h=>X0 7 rfl ?_
  replace h:=h.pick [1] rfl
  exact rK ⟨_,_,_,_,_,_,_,_,hF,rfl,h⟩ rfl
 refine qq rfl ?_
 obtain rfl:=qb hF;replace hF:=hK1
 refine X0 7 rfl ?_
 obtain rfl:=qb hF
 exact qT qa (ρ:=((List Int) × Int)) [GoT.v (List Int) [.slice p16 x1.length k13],GoT.v Int [.int .i64 i2]] h ⟨rfl,rfl,trivial⟩ (PV.done h (qak h (qag 0 h rfl) (qZ (qx (S:=fun _=>False) rfl)) (by rfl)))
end Go.Fw


namespace Go.Fw
open Go Go.Proofs
open Go.RowKit (Below)
set_option maxRecDepth 100000
set_option maxHeartbeats 1600000
variable {n:Nat} {w:World} {cs1 cs2 cs3 cs4 cs5 cs6 cs7 cs8 cs9:List Value}
def qd5 (n:Nat) (j:qaW) (start:Int) (links:(List Int)) (mode:Int):Option ((List Int) × Int) :=
 (qcE n j mode start links).bind fun o=>match o with
  | (r2,r3) =>
   bif (r3 != 0) then some ([],r3) else
   (qgK n r2 start links mode).bind fun o=>match o with
    | (r5,_) =>
     some (r5,0)
theorem qit {j:qaW} {start:Int} {links:(List Int)} {mode:Int} (ha1:Ro w j cs1) (ha2:Ro w links cs2) {r:((List Int) × Int)} (hF:qd5 n j start links mode=some r):RetV Tryz.prog 28 [GoT.v qaW cs1,.int .i64 start,GoT.v (List Int) cs2,.int .i64 mode] w r:=by
 obtain ⟨p1,k1,p2,k2,p3,k3,p4,k4,p5,k5,p6,k6,p7,k7,rfl,s1,s2,s3,s4,s5,s6,s7⟩:=qcX ha1
 obtain ⟨p8,k8,rfl,s8⟩:=ha2
 refine zV 34 Tryz.func28 rfl fun h=>zSR (qv h rfl rfl fun w1 bb1 h=>X1 9 0 h rfl ?_)
 have hg1:Rg (old w) w (old w) w:=.start (fun _ h=>h)
 obtain ⟨r1,hr1,hF⟩:=qc hF
 obtain ⟨r2,r3⟩:=r1
 refine qh0 (r2,r3) hg1 h (cB 40 rfl) (qpS (hg1.regOld h) (hg1.inR h ha1) ⟨_,_,rfl,(hg1.inS h s8)⟩ hr1) rfl rfl rfl rfl fun w2 us1 B1 hg2 hu1 hz1 hv1=>?_
 have hL1:=h.ext hu1.below
 have s9:=Up.S hg1 h hu1 s8
 have hb1:=h.below.trans (hu1.below.mono h.below.size)
 replace h:=hz1
 obtain ⟨cs3,us2,rfl,hr2,hv2⟩:=qkp hv1
 obtain ⟨p9,rfl,s10⟩:=qaq hr2
 obtain ⟨cs4,rfl,hr3⟩:=qj8 hv2
 obtain rfl:=hr3
 refine X0 12 rfl (qh rfl hF ?_ ?_)<;>intro hF
 ·refine X0 6 rfl ?_
  replace h:=h.unbase hg2.below (show NoD [] from trivial)
  obtain rfl:=qb hF
  exact qT qa (ρ:=((List Int) × Int)) [GoT.v (List Int) [.slice none 0 0],GoT.v Int [.int .i64 r3]] h ⟨rfl,rfl,trivial⟩ (PV.done h (qak h qg0 (qZ (qx (S:=fun _=>False) rfl)) (by rfl)))
 refine X0 7 rfl ?_
 obtain ⟨r4,hr4,hF⟩:=qc hF
 obtain ⟨r5,r6⟩:=r4
 refine qa5 (r5,r6) h (cB 48 rfl) (qnJ (h.old (GoT.mono s10 hg2.old)) ⟨_,_,rfl,(h.oldS (s9.mono hg2.old))⟩ hr4) rfl rfl rfl rfl fun w3 S1 us3 hv3 hr5=>?_
 obtain ⟨S2,S3,p10,k9,us4,rfl,hv4,hr6⟩:=hv3.consL hr5
 obtain ⟨rfl,h⟩:=hv4.lastI hr6
 refine X0 12 rfl ?_
 replace h:=h.unbase hg2.below ⟨fun _ h=>h,trivial⟩
 obtain rfl:=qb hF
 exact qT qa (ρ:=((List Int) × Int)) [GoT.v (List Int) [.slice p10 r5.length k9],GoT.v Int [.int .i64 0]] h ⟨rfl,rfl,trivial⟩ (PV.done h (qak h (qag 0 h rfl) (qZ (qx (S:=fun _=>False) rfl)) (by rfl)))
def qmM (n:Nat) (a:qaW) (left:Int):Option Int :=
 (qkg n (⟨(⟨a.Af.Av.As⟩:qn),(⟨a.Af.Ab.Aa,a.Af.Ab.Ak,a.Af.Ab.Aj⟩:qd),a.Af.Ac⟩:qg) left).bind fun r1 =>
 bif decide (r1<0) then some (-1) else
 (qjo n (⟨a.Ah.Bb,a.Ah.Ar,a.Ah.Az,a.Ah.Aq,a.Ah.Ba⟩:qt) r1).bind fun r2 =>
 bif decide (r2<0) then some (-1) else
 (qbS n a.Bi r2).bind fun r3 =>
 bif decide (r3<0) then some (-1) else
 (qk8 n a.Ay r3).bind fun r4 =>
 bif decide (r4<0) then some (-1) else
 some r4
theorem qsk {a:qaW} {left:Int} (ha1:Ro w a cs1) {r:Int} (hF:qmM n a left=some r):RetV Tryz.prog 9 [GoT.v qaW cs1,.int .i64 left] w r:=by
 obtain ⟨p1,k1,p2,k2,p3,k3,p4,k4,p5,k5,p6,k6,p7,k7,rfl,s1,s2,s3,s4,s5,s6,s7⟩:=qcX ha1
 refine zV 30 Tryz.func9 rfl fun h=>zSR (qv h rfl rfl fun w1 bb1 h=>X1 7 0 h rfl (zcI h hF (qqx (qfu _ (h.oldS s1) (h.oldS s2) (h.oldS s3) (h.oldS s4) (h.oldS s5))) rfl fun r1 w2 h hF=>X0 8 rfl (qh rfl hF ?_ ?_)))<;>intro hF
 ·exact X0 4 rfl (ri h hF rfl)
 refine X1 6 0 h rfl (zcI h hF (qpW (qc6 _)) rfl fun r2 w3 h hF=>X0 8 rfl (qh rfl hF ?_ ?_))<;>intro hF
 ·exact X0 4 rfl (ri h hF rfl)
 refine X1 6 0 h rfl (zcI h hF (qbB ⟨_,_,rfl,(h.oldS s6)⟩) rfl fun r3 w4 h hF=>X0 8 rfl (qh rfl hF ?_ ?_))<;>intro hF
 ·exact X0 4 rfl (ri h hF rfl)
 refine X1 6 0 h rfl (zcI h hF (qoO ⟨_,_,rfl,(h.oldS s7)⟩) rfl fun r4 w5 h hF=>X0 8 rfl (qh rfl hF ?_ ?_))<;>intro hF
 ·exact X0 4 rfl (ri h hF rfl)
 exact X0 6 rfl (ri h hF rfl)
def qid (n:Nat) (a:qaW):Option qaW :=
 (qkn n (⟨(⟨a.Af.Av.As⟩:qn),(⟨a.Af.Ab.Aa,a.Af.Ab.Ak,a.Af.Ab.Aj⟩:qd),a.Af.Ac⟩:qg)).bind fun r1 =>
 (qjA n (⟨a.Ah.Bb,a.Ah.Ar,a.Ah.Az,a.Ah.Aq,a.Ah.Ba⟩:qt)).bind fun r2 =>
 (qaQ n a.Bi).bind fun r3 =>
 (qiw n a.Ay).bind fun r4 =>
 some (⟨r1,(⟨r2.Bb,r2.Ar,r2.Az,r2.Aq,r2.Ba⟩:qt),r3,r4⟩:qaW)
theorem qjB {a:qaW} (ha1:Ro w a cs1) {r:qaW} (hF:qid n a=some r):RetV Tryz.prog 11 [GoT.v qaW cs1] w r:=by
 obtain ⟨p1,k1,p2,k2,p3,k3,p4,k4,p5,k5,p6,k6,p7,k7,rfl,s1,s2,s3,s4,s5,s6,s7⟩:=qcX ha1
 refine zV 21 Tryz.func11 rfl fun h=>zSR (qv h rfl rfl fun w1 bb1 h=>qp qa h rfl rfl rfl fun w2 bb2 h=>zNSR (qp qa h rfl rfl rfl fun w3 bb3 h=>X1 5 2 h rfl (zcO h hF (qqH (qfu _ (h.oldS s1) (h.oldS s2) (h.oldS s3) (h.oldS s4) (h.oldS s5))) rfl fun r1 w4 S1 cs2 h hF=>?_)))
 obtain ⟨p8,k8,p9,k9,p10,k10,p11,k11,p12,k12,rfl,-,-,-,-,-⟩:=qac (h.own 0 rfl)
 refine zp1 rfl (zs 1 h rfl fun w5 h=>X1 5 3 h rfl (zcO h hF (qpp (qc6 _)) rfl fun r2 w6 S2 cs3 h hF=>?_))
 obtain rfl:=qaJ (h.own 0 rfl)
 refine zp1 rfl (zs 2 h rfl fun w7 h=>X1 5 4 h rfl (zcL h hF (qaH ⟨_,_,rfl,(h.oldS s6)⟩) rfl fun r3 w8 S3 p13 k13 h hF=>zp1 rfl (zs 3 h rfl fun w9 h=>X1 5 5 h rfl (zcL h hF (qoG ⟨_,_,rfl,(h.oldS s7)⟩) rfl fun r4 w10 S4 p14 k14 h hF=>zp1 rfl (zs 4 h rfl fun w11 h=>X1 4 4 h rfl (zs 5 h rfl fun w12 h=>qcH ?_))))))
 obtain rfl:=qb hF
 exact qT qa (ρ:=qaW) [GoT.v qaW [.slice p8 r1.Av.As.length k8,.slice p9 r1.Ab.Aa.length k9,.slice p10 r1.Ab.Ak.length k10,.slice p11 r1.Ab.Aj.length k11,.slice p12 r1.Ac.length k12,.string r2.Bb,.int .i64 r2.Ar,.int .i64 r2.Az,.int .i64 r2.Aq,.int .i64 r2.Ba,.slice p13 r3.length k13,.slice p14 r4.length k14]] h ⟨⟨_,_,_,rfl,rfl,h.box 5 rfl,rfl⟩,trivial⟩ (PV.done h (qZ (qzb (⟨r1,(⟨r2.Bb,r2.Ar,r2.Az,r2.Aq,r2.Ba⟩:qt),r3,r4⟩:qaW) h (qag 3 h rfl) (qx (S:=fun _=>False) (qc6 (⟨r2.Bb,r2.Ar,r2.Az,r2.Aq,r2.Ba⟩:qt))) (qag 1 h rfl) (qag 0 h rfl) (by rfl) (by rfl) (by rfl))))
def qmx (n:Nat) (a:qaW) (b:qaW):Option Bool :=
 (qko n (⟨(⟨a.Af.Av.As⟩:qn),(⟨a.Af.Ab.Aa,a.Af.Ab.Ak,a.Af.Ab.Aj⟩:qd),a.Af.Ac⟩:qg) (⟨(⟨b.Af.Av.As⟩:qn),(⟨b.Af.Ab.Aa,b.Af.Ab.Ak,b.Af.Ab.Aj⟩:qd),b.Af.Ac⟩:qg)).bind fun r1 =>
 bif (!r1) then some false else
 (qjv n (⟨a.Ah.Bb,a.Ah.Ar,a.Ah.Az,a.Ah.Aq,a.Ah.Ba⟩:qt) (⟨b.Ah.Bb,b.Ah.Ar,b.Ah.Az,b.Ah.Aq,b.Ah.Ba⟩:qt)).bind fun r2 =>
 bif (!r2) then some false else
 (qaO n a.Bi b.Bi).bind fun r3 =>
 bif (!r3) then some false else
 (qiL n a.Ay b.Ay).bind fun r4 =>
 bif (!r4) then some false else
 some true
theorem qr5 {a:qaW} {b:qaW} (ha1:Ro w a cs1) (ha2:Ro w b cs2) {r:Bool} (hF:qmx n a b=some r):RetV Tryz.prog 14 [GoT.v qaW cs1,GoT.v qaW cs2] w r:=by
 obtain ⟨p1,k1,p2,k2,p3,k3,p4,k4,p5,k5,p6,k6,p7,k7,rfl,s1,s2,s3,s4,s5,s6,s7⟩:=qcX ha1
 obtain ⟨p8,k8,p9,k9,p10,k10,p11,k11,p12,k12,p13,k13,p14,k14,rfl,s8,s9,s10,s11,s12,s13,s14⟩:=qcX ha2
 refine zV 29 Tryz.func14 rfl fun h=>zSR (qv h rfl rfl fun w1 bb1 h=>qv h rfl rfl fun w2 bb2 h=>X2 9 1 0 h rfl (zcB h hF (qqy (qfu _ (h.oldS s1) (h.oldS s2) (h.oldS s3) (h.oldS s4) (h.oldS s5)) (qfu _ (h.oldS s8) (h.oldS s9) (h.oldS s10) (h.oldS s11) (h.oldS s12))) rfl fun r1 w3 h hF=>X0 2 rfl (qh rfl hF ?_ ?_)))<;>intro hF
 ·exact X0 4 rfl (rb h hF rfl)
 refine X2 8 1 0 h rfl (zcB h hF (qpN (qc6 _) (qc6 _)) rfl fun r2 w4 h hF=>X0 2 rfl (qh rfl hF ?_ ?_))<;>intro hF
 ·exact X0 4 rfl (rb h hF rfl)
 refine X2 8 1 0 h rfl (zcB h hF (qaF ⟨_,_,rfl,(h.oldS s6)⟩ ⟨_,_,rfl,(h.oldS s13)⟩) rfl fun r3 w5 h hF=>X0 2 rfl (qh rfl hF ?_ ?_))<;>intro hF
 ·exact X0 4 rfl (rb h hF rfl)
 refine X2 8 1 0 h rfl (zcB h hF (qo8 ⟨_,_,rfl,(h.oldS s7)⟩ ⟨_,_,rfl,(h.oldS s14)⟩) rfl fun r4 w6 h hF=>X0 2 rfl (qh rfl hF ?_ ?_))<;>intro hF
 ·exact X0 4 rfl (rb h hF rfl)
 exact X0 5 rfl (rb h hF rfl)
def qco (a:(List Int)):Nat→(List Int)→Int→Int→Option ((List Int) × Int × Int)
 | 0,_,_,_=>none
 | n+1,x1,i1,i2 =>
  bif decide (i2<(a.length:Int)) then
   (idx x1 i2).bind fun _ =>
   qco a n (setS x1 i2 i1) (W64 (i1+1)) (W64 (i2+1))
  else
   some (x1,i1,i2)
def qaC (n:Nat) (a:(List Int)) (k:Int):Option (Int × (List Int)) :=
 (qco a n a k 0).bind fun o=>match o with
 | (x1,i1,_) =>
  some (i1,x1)
theorem qaD {n:Nat} {w0 w:World} {F:List Ch} {a:(List Int)} {k:Int} {S1:Nat→Prop} {p1:Option Addr} {ln1 k1:Nat} (h:SH w0 w (Ch.own S1 (a:List Int) [.slice p1 ln1 k1]::F)) {r:(Int × (List Int))} (hF:qaC n a k=some r):RetN Tryz.prog 23 [.slice p1 ln1 k1,.int .i64 k] w (fun w'=>∃ Z0:Nat→Prop,SH w0 w' (Ch.own Z0 (r.2:List Int) [.slice p1 ln1 k1]::F)) r.1:=by
 refine qb9 Tryz.func23 rfl (m:=19) rfl rfl ?_
 obtain rfl:=(h.sl 0 rfl).2
 refine X0 9 rfl ?_
 obtain ⟨o1,hF,hK1⟩:=qc hF
 refine qm (rL (fun m e w'=>∃ (x1:(List Int)) (i1:Int) (i2:Int),qco a m x1 i1 i2=some o1∧e=[(0,.slice p1 a.length k1),(1,.int .i64 i1),(5,.int .i64 i2)]∧SH w0 w' (Ch.own S1 (x1:List Int) [.slice p1 a.length k1]::F)) n ⟨_,_,_,hF,rfl,h⟩ rfl ?_)
 rintro m1 e1 w1 ⟨x1,i1,i2,hF,rfl,h⟩
 rcases m1 with _|m1
 ·cases hF
 refine X0 8 rfl (qh rfl hF ?_ ?_)<;>intro hF
 ·refine X0 8 rfl ?_
  obtain ⟨y1,hy1,hF,he1,b1,_,q1,cs1,hp1,hq1,rfl,hc2⟩:=(h.sl 0 rfl).1.ix hF
  exact zx hp1 hq1 ⟨he1.1,qC he1.2.1 (h.sl 0 rfl).2⟩ rfl (qaA qa 0 0 i1 h rfl hy1 hp1 hq1 rfl hc2 rfl rfl rfl rfl rfl rfl rfl fun w2 h=>X0 12 rfl (rK ⟨_,_,_,hF,rfl,h⟩ rfl))
 refine qq rfl ?_
 obtain rfl:=qb hF;replace hF:=hK1
 refine X0 5 rfl ?_
 obtain rfl:=qb hF
 exact qiM qa ⟨_,h⟩ ⟨rfl,trivial⟩
def qfO:Nat→Int→ByteArray→Option (Int × ByteArray)
 | 0,_,_=>none
 | n+1,i1,z1 =>
  bif decide (i1 > 0) then
   (catB (strOf ([(⟨IntKind.wrap .u8 (W64 (48+(i1.tmod 10)))⟩:IntK .u8)]:List (IntK .u8))) z1).bind fun z2 =>
   qfO n (W64 (i1.tdiv 10)) z2
  else
   some (i1,z1)
def qeg (n:Nat) (k:Int):Option ByteArray :=
 bif decide (k≤0) then some (⟨#[109,48]⟩:ByteArray) else
 (qfO n k (⟨#[]⟩:ByteArray)).bind fun o=>match o with
 | (_,z1) =>
  (catB (⟨#[109]⟩:ByteArray) z1).bind fun z3 =>
  some z3
theorem qf1 {k:Int}  {r:ByteArray} (hF:qeg n k=some r):RetV Tryz.prog 172 [.int .i64 k] w r:=by
 refine zV 20 Tryz.func172 rfl fun h=>X0 10 rfl (qh rfl hF ?_ ?_)<;>intro hF
 ·refine X0 4 rfl ?_
  obtain rfl:=qb hF
  exact qT qa (ρ:=ByteArray) [_] h ⟨rfl,trivial⟩ (qu9 _ _)
 refine X0 6 rfl ?_
 obtain ⟨o1,hF,hK1⟩:=qc hF
 refine qm (rL (fun m e w'=>∃ (i1:Int) (z1:ByteArray),qfO m i1 z1=some o1∧e=[(0,.int .i64 i1),(3,.string z1)]∧SH w w' []) n ⟨_,_,hF,rfl,h⟩ rfl ?_)
 rintro m1 e1 w1 ⟨i1,z1,hF,rfl,h⟩
 rcases m1 with _|m1
 ·cases hF
 refine X0 6 rfl (qh rfl hF ?_ ?_)<;>intro hF
 ·refine X0 8 rfl (qL qa [.tmp 11] _ ([(⟨IntKind.wrap .u8 (W64 (48+(i1.tmod 10)))⟩:IntK .u8)]:List (IntK .u8)) h rfl rfl rfl rfl rfl rfl rfl rfl rfl ⟨rfl,trivial⟩ rfl fun w2 p1 S1 h=>r_v (qy0 qa (h.sl 0 rfl).1 (h.sl 0 rfl).2 rfl ⟨rfl,rfl⟩ ⟨rfl,rfl⟩ rfl rfl) rfl (zp1 rfl ?_))
  obtain ⟨z2,hx1,hF⟩:=qc hF
  obtain ⟨g1,hx1⟩:=qsQ hx1
  refine r_v (qzj g1 rfl rfl) rfl ?_
  rw [hx1]
  refine X0 8 rfl ?_
  replace h:=h.pick [] rfl
  exact rK ⟨_,_,hF,rfl,h⟩ rfl
 refine qq rfl ?_
 obtain rfl:=qb hF;replace hF:=hK1
 refine X0 3 rfl ?_
 obtain ⟨z3,hx2,hF⟩:=qc hF
 obtain ⟨g2,hx2⟩:=qsQ hx2
 refine r_v (qzj g2 rfl rfl) rfl ?_
 rw [hx2]
 refine X0 2 rfl ?_
 obtain rfl:=qb hF
 exact qT qa (ρ:=ByteArray) [_] h ⟨rfl,trivial⟩ (qu9 _ _)
def qeC (a:(List qaj)):Nat→(List qaj)→Int→Int→Option ((List qaj) × Int × Int)
 | 0,_,_,_=>none
 | n+1,x1,i1,i2 =>
  bif decide (i2<(a.length:Int)) then
   (qeg n i1).bind fun r1 =>
   (idx x1 i2).bind fun y1 =>
   (idx (setS x1 i2 ({ y1 with Bb:=r1 })) i2).bind fun y2 =>
   (idx (setS (setS x1 i2 ({ y1 with Bb:=r1 })) i2 ({ y2 with Bv:=W64 (i1+1) })) i2).bind fun y3 =>
   (idx (setS (setS (setS x1 i2 ({ y1 with Bb:=r1 })) i2 ({ y2 with Bv:=W64 (i1+1) })) i2 ({ y3 with Bs:=W64 ((W64 (i1+1))+1) })) i2).bind fun y4 =>
   qeC a n (setS (setS (setS (setS x1 i2 ({ y1 with Bb:=r1 })) i2 ({ y2 with Bv:=W64 (i1+1) })) i2 ({ y3 with Bs:=W64 ((W64 (i1+1))+1) })) i2 ({ y4 with Br:=(((W64 ((W64 ((W64 (i1+1))+1))+1)).tmod 3)==0) })) (W64 ((W64 ((W64 ((W64 (i1+1))+1))+1))+1)) (W64 (i2+1))
  else
   some (x1,i1,i2)
def qlO (n:Nat) (a:(List qaj)) (k:Int):Option (Int × (List qaj)) :=
 (qeC a n a k 0).bind fun o=>match o with
 | (x1,i1,_) =>
  some (i1,x1)
theorem qoX {n:Nat} {w0 w:World} {F:List Ch} {a:(List qaj)} {k:Int} {S1:Nat→Prop} {p1:Option Addr} {ln1 k1:Nat} (h:SH w0 w (Ch.own S1 (a:List qaj) [.slice p1 ln1 k1]::F)) {r:(Int × (List qaj))} (hF:qlO n a k=some r):RetN Tryz.prog 173 [.slice p1 ln1 k1,.int .i64 k] w (fun w'=>∃ Z0:Nat→Prop,SH w0 w' (Ch.own Z0 (r.2:List qaj) [.slice p1 ln1 k1]::F)) r.1:=by
 refine qb9 Tryz.func173 rfl (m:=44) rfl rfl ?_
 obtain rfl:=(h.sl 0 rfl).2
 refine X0 9 rfl ?_
 obtain ⟨o1,hF,hK1⟩:=qc hF
 refine qm (rL (fun m e w'=>∃ (x1:(List qaj)) (i1:Int) (i2:Int),qeC a m x1 i1 i2=some o1∧e=[(0,.slice p1 a.length k1),(1,.int .i64 i1),(5,.int .i64 i2)]∧SH w0 w' (Ch.own S1 (x1:List qaj) [.slice p1 a.length k1]::F)) n ⟨_,_,_,hF,rfl,h⟩ rfl ?_)
 rintro m1 e1 w1 ⟨x1,i1,i2,hF,rfl,h⟩
 rcases m1 with _|m1
 ·cases hF
 refine X0 8 rfl (qh rfl hF ?_ ?_)<;>intro hF
 ·refine X0 8 rfl (zcS h hF qf1 rfl fun r1 w2 h hF=>?_)
  obtain ⟨y1,hy1,hF,he1,b1,_,q1,cs1,hp1,hq1,hr2,hc2⟩:=(h.sl 0 rfl).1.ix hF
  obtain rfl:=qaZ hr2
  refine zx hp1 hq1 ⟨he1.1,qC he1.2.1 (h.sl 0 rfl).2⟩ rfl (zp1 rfl (qaA qa 0 0 ({ y1 with Bb:=r1 }:qaj) h rfl hy1 hp1 hq1 (qd1 y1) hc2 rfl rfl rfl (qd1 ({ y1 with Bb:=r1 })) rfl rfl rfl fun w3 h=>X0 12 rfl ?_))
  obtain ⟨y2,hy2,hF,he2,b2,_,q2,cs2,hp2,hq2,hr3,hc3⟩:=(h.sl 0 rfl).1.ix hF
  obtain rfl:=qaZ hr3
  refine zx hp2 hq2 ⟨he2.1,qC he2.2.1 (h.sl 0 rfl).2⟩ rfl (zp1 rfl (qaA qa 0 1 ({ y2 with Bv:=W64 (i1+1) }:qaj) h rfl hy2 hp2 hq2 (qd1 y2) hc3 rfl rfl rfl (qd1 ({ y2 with Bv:=W64 (i1+1) })) rfl rfl rfl fun w4 h=>X0 12 rfl ?_))
  obtain ⟨y3,hy3,hF,he3,b3,_,q3,cs3,hp3,hq3,hr4,hc4⟩:=(h.sl 0 rfl).1.ix hF
  obtain rfl:=qaZ hr4
  refine zx hp3 hq3 ⟨he3.1,qC he3.2.1 (h.sl 0 rfl).2⟩ rfl (zp1 rfl (qaA qa 0 2 ({ y3 with Bs:=W64 ((W64 (i1+1))+1) }:qaj) h rfl hy3 hp3 hq3 (qd1 y3) hc4 rfl rfl rfl (qd1 ({ y3 with Bs:=W64 ((W64 (i1+1))+1) })) rfl rfl rfl fun w5 h=>X0 14 rfl ?_))
  obtain ⟨y4,hy4,hF,he4,b4,_,q4,cs4,hp4,hq4,hr5,hc5⟩:=(h.sl 0 rfl).1.ix hF
  obtain rfl:=qaZ hr5
  exact zx hp4 hq4 ⟨he4.1,qC he4.2.1 (h.sl 0 rfl).2⟩ rfl (zp1 rfl (qaA qa 0 3 ({ y4 with Br:=(((W64 ((W64 ((W64 (i1+1))+1))+1)).tmod 3)==0) }:qaj) h rfl hy4 hp4 hq4 (qd1 y4) hc5 rfl rfl rfl (qd1 ({ y4 with Br:=(((W64 ((W64 ((W64 (i1+1))+1))+1)).tmod 3)==0) })) rfl rfl rfl fun w6 h=>X0 12 rfl (rK ⟨_,_,_,hF,rfl,h⟩ rfl)))
 refine qq rfl ?_
 obtain rfl:=qb hF;replace hF:=hK1
 refine X0 5 rfl ?_
 obtain rfl:=qb hF
 exact qiM qa ⟨_,h⟩ ⟨rfl,trivial⟩
def qdo (a:(List qr)):Nat→(List qr)→Int→Int→Option ((List qr) × Int × Int)
 | 0,_,_,_=>none
 | n+1,x1,i1,i2 =>
  bif decide (i2<(a.length:Int)) then
   (idx x1 i2).bind fun y1 =>
   (qaC n y1.Bm i1).bind fun o=>match o with
    | (r1,x2) =>
     (qaC n y1.Bj r1).bind fun o=>match o with
      | (r2,x3) =>
       (qaC n y1.Bh r2).bind fun o=>match o with
        | (r3,x4) =>
         qdo a n (setS x1 i2 (⟨x2,x3,x4⟩:qr)) r3 (W64 (i2+1))
  else
   some (x1,i1,i2)
def qh6 (n:Nat) (a:(List qr)) (k:Int):Option (Int × (List qr)) :=
 (qdo a n a k 0).bind fun o=>match o with
 | (x1,i1,_) =>
  some (i1,x1)
theorem qkc {n:Nat} {w0 w:World} {F:List Ch} {a:(List qr)} {k:Int} {S1:Nat→Prop} {p1:Option Addr} {ln1 k1:Nat} (h:SH w0 w (Ch.own S1 (a:List qr) [.slice p1 ln1 k1]::F)) {r:(Int × (List qr))} (hF:qh6 n a k=some r):RetN Tryz.prog 203 [.slice p1 ln1 k1,.int .i64 k] w (fun w'=>∃ Z0:Nat→Prop,SH w0 w' (Ch.own Z0 (r.2:List qr) [.slice p1 ln1 k1]::F)) r.1:=by
 refine qb9 Tryz.func203 rfl (m:=34) rfl rfl ?_
 obtain rfl:=(h.sl 0 rfl).2
 refine X0 9 rfl ?_
 obtain ⟨o1,hF,hK1⟩:=qc hF
 refine qm (rL (fun m e w'=>∃ (S2:Nat→Prop) (x1:(List qr)) (i1:Int) (i2:Int),qdo a m x1 i1 i2=some o1∧e=[(0,.slice p1 a.length k1),(1,.int .i64 i1),(5,.int .i64 i2)]∧SH w0 w' (Ch.own S2 (x1:List qr) [.slice p1 a.length k1]::F)) n ⟨_,_,_,_,hF,rfl,h⟩ rfl ?_)
 rintro m1 e1 w1 ⟨S2,x1,i1,i2,hF,rfl,h⟩
 rcases m1 with _|m1
 ·cases hF
 refine X0 8 rfl (qh rfl hF ?_ ?_)<;>intro hF
 ·refine X0 7 rfl ?_
  obtain ⟨y1,hy1,hF⟩:=qc hF
  have he1:=qcG hy1
  obtain ⟨S3,S4,cs1,h⟩:=h.take hy1
  obtain ⟨p2,k2,p3,k3,p4,k4,rfl,-,-,-⟩:=qaE (h.own 0 rfl)
  obtain ⟨S5,S6,S7,h⟩:=qs5 h
  obtain ⟨b1,hp1,-,-,hl2⟩:=h.holeAt 3 rfl
  obtain ⟨q1,hq1⟩:∃ q,q=0+(i2).toNat*GoT.k qr:=⟨_,rfl⟩
  refine zx hp1 hq1 ⟨he1.1,qC he1.2.1 hl2⟩ rfl (zp1 rfl (zc 0 (qcM h 3 rfl hp1 hq1) rfl (zp1 rfl ?_)))
  replace h:=h.pickT 4 [2,0,1,3] rfl
  obtain ⟨o2,hr1,hF⟩:=qc hF
  obtain ⟨r1,x2⟩:=o2
  refine qca r1 (cB 23 rfl) (qaD h hr1) rfl rfl rfl rfl ?_
  rintro w2 ⟨S8,h⟩
  refine X0 6 rfl ?_
  obtain ⟨b2,hp2,-,-,hl4⟩:=h.holeAt 3 rfl
  obtain ⟨q2,hq2⟩:∃ q,q=0+(i2).toNat*GoT.k qr:=⟨_,rfl⟩
  refine zx hp2 hq2 ⟨he1.1,qC he1.2.1 hl4⟩ rfl (zp1 rfl (zc 1 (qcM h 3 rfl hp2 hq2) rfl (zp1 rfl ?_)))
  replace h:=h.pickT 4 [2,0,1,3] rfl
  obtain ⟨o3,hr2,hF⟩:=qc hF
  obtain ⟨r2,x3⟩:=o3
  refine qca r2 (cB 23 rfl) (qaD h hr2) rfl rfl rfl rfl ?_
  rintro w3 ⟨S9,h⟩
  refine X0 5 rfl ?_
  obtain ⟨b3,hp3,-,-,hl6⟩:=h.holeAt 3 rfl
  obtain ⟨q3,hq3⟩:∃ q,q=0+(i2).toNat*GoT.k qr:=⟨_,rfl⟩
  refine zx hp3 hq3 ⟨he1.1,qC he1.2.1 hl6⟩ rfl (zp1 rfl (zc 2 (qcM h 3 rfl hp3 hq3) rfl (zp1 rfl ?_)))
  replace h:=h.pickT 4 [2,0,1,3] rfl
  obtain ⟨o4,hr3,hF⟩:=qc hF
  obtain ⟨r3,x4⟩:=o4
  refine qca r3 (cB 23 rfl) (qaD h hr3) rfl rfl rfl rfl ?_
  rintro w4 ⟨S10,h⟩
  refine X0 8 rfl ?_
  obtain ⟨S11,h⟩:=h.gatherT 4 [3] (qsy (⟨x2,x3,x4⟩:qr) h (qag 2 h rfl) (qag 1 h rfl) (qag 0 h rfl) (by rfl) (by rfl)) rfl
  replace h:=h.put
  obtain ⟨S12,h⟩:=qpZ (S:=_) h
  exact rK ⟨_,_,_,_,hF,rfl,h⟩ rfl
 refine qq rfl ?_
 obtain rfl:=qb hF;replace hF:=hK1
 refine X0 5 rfl ?_
 obtain rfl:=qb hF
 exact qiM qa ⟨_,h⟩ ⟨rfl,trivial⟩
def qel (a:(List qG)):Nat→(List qG)→Int→Int→Option ((List qG) × Int × Int)
 | 0,_,_,_=>none
 | n+1,x1,i1,i2 =>
  bif decide (i2<(a.length:Int)) then
   (idx x1 i2).bind fun y1 =>
   (qh6 n y1.Bn (W64 ((W64 ((W64 ((W64 (i1+1))+1))+1))+1))).bind fun o=>match o with
    | (r1,x2) =>
     (qh6 n y1.Bc r1).bind fun o=>match o with
      | (r2,x3) =>
       qel a n (setS x1 i2 (⟨i1,W64 (i1+1),W64 ((W64 (i1+1))+1),W64 ((W64 ((W64 (i1+1))+1))+1),x2,x3⟩:qG)) r2 (W64 (i2+1))
  else
   some (x1,i1,i2)
def qlN (n:Nat) (a:(List qG)) (k:Int):Option (Int × (List qG)) :=
 (qel a n a k 0).bind fun o=>match o with
 | (x1,i1,_) =>
  some (i1,x1)
theorem qoI {n:Nat} {w0 w:World} {F:List Ch} {a:(List qG)} {k:Int} {S1:Nat→Prop} {p1:Option Addr} {ln1 k1:Nat} (h:SH w0 w (Ch.own S1 (a:List qG) [.slice p1 ln1 k1]::F)) {r:(Int × (List qG))} (hF:qlN n a k=some r):RetN Tryz.prog 174 [.slice p1 ln1 k1,.int .i64 k] w (fun w'=>∃ Z0:Nat→Prop,SH w0 w' (Ch.own Z0 (r.2:List qG) [.slice p1 ln1 k1]::F)) r.1:=by
 refine qb9 Tryz.func174 rfl (m:=55) rfl rfl ?_
 obtain rfl:=(h.sl 0 rfl).2
 refine X0 9 rfl ?_
 obtain ⟨o1,hF,hK1⟩:=qc hF
 refine qm (rL (fun m e w'=>∃ (S2:Nat→Prop) (x1:(List qG)) (i1:Int) (i2:Int),qel a m x1 i1 i2=some o1∧e=[(0,.slice p1 a.length k1),(1,.int .i64 i1),(5,.int .i64 i2)]∧SH w0 w' (Ch.own S2 (x1:List qG) [.slice p1 a.length k1]::F)) n ⟨_,_,_,_,hF,rfl,h⟩ rfl ?_)
 rintro m1 e1 w1 ⟨S2,x1,i1,i2,hF,rfl,h⟩
 rcases m1 with _|m1
 ·cases hF
 refine X0 8 rfl (qh rfl hF ?_ ?_)<;>intro hF
 ·refine X0 8 rfl ?_
  obtain ⟨y1,hy1,hF⟩:=qc hF
  have he1:=qcG hy1
  obtain ⟨S3,S4,cs1,h⟩:=h.take hy1
  obtain ⟨p2,k2,p3,k3,rfl,-,-⟩:=qae (h.own 0 rfl)
  obtain ⟨S5,S6,h⟩:=qvv h
  obtain ⟨b1,hp1,-,-,hl2⟩:=h.holeAt 2 rfl
  obtain ⟨q1,hq1⟩:∃ q,q=0+(i2).toNat*GoT.k qG:=⟨_,rfl⟩
  refine zx hp1 hq1 ⟨he1.1,qC he1.2.1 hl2⟩ rfl (zp1 rfl (qhd qa 2 0 h rfl hp1 hq1 rfl rfl rfl rfl rfl rfl fun w2 h=>?_))
  replace h:SH _ _ (Ch.own S6 (y1.Bc:List qr) [.slice p3 y1.Bc.length k3]::Ch.own S5 (y1.Bn:List qr) [.slice p2 y1.Bn.length k2]::Ch.hole S4 (x1:List qG) p1 a.length k1 (i2).toNat [.int .i64 i1,.int .i64 y1.Bk,.int .i64 y1.To,.int .i64 y1.Bp,.slice p2 y1.Bn.length k2,.slice p3 y1.Bc.length k3]::F):=h
  refine X0 12 rfl ?_
  obtain ⟨b2,hp2,-,-,hl4⟩:=h.holeAt 2 rfl
  obtain ⟨q2,hq2⟩:∃ q,q=0+(i2).toNat*GoT.k qG:=⟨_,rfl⟩
  refine zx hp2 hq2 ⟨he1.1,qC he1.2.1 hl4⟩ rfl (zp1 rfl (qhd qa 2 1 h rfl hp2 hq2 rfl rfl rfl rfl rfl rfl fun w3 h=>X0 12 rfl ?_))
  obtain ⟨b3,hp3,-,-,hl6⟩:=h.holeAt 2 rfl
  obtain ⟨q3,hq3⟩:∃ q,q=0+(i2).toNat*GoT.k qG:=⟨_,rfl⟩
  refine zx hp3 hq3 ⟨he1.1,qC he1.2.1 hl6⟩ rfl (zp1 rfl (qhd qa 2 2 h rfl hp3 hq3 rfl rfl rfl rfl rfl rfl fun w4 h=>X0 12 rfl ?_))
  obtain ⟨b4,hp4,-,-,hl8⟩:=h.holeAt 2 rfl
  obtain ⟨q4,hq4⟩:∃ q,q=0+(i2).toNat*GoT.k qG:=⟨_,rfl⟩
  refine zx hp4 hq4 ⟨he1.1,qC he1.2.1 hl8⟩ rfl (zp1 rfl (qhd qa 2 3 h rfl hp4 hq4 rfl rfl rfl rfl rfl rfl fun w5 h=>?_))
  replace h:SH _ _ (Ch.own S6 (y1.Bc:List qr) [.slice p3 y1.Bc.length k3]::Ch.own S5 (y1.Bn:List qr) [.slice p2 y1.Bn.length k2]::Ch.hole S4 (x1:List qG) p1 a.length k1 (i2).toNat [.int .i64 i1,.int .i64 (W64 (i1+1)),.int .i64 (W64 ((W64 (i1+1))+1)),.int .i64 (W64 ((W64 ((W64 (i1+1))+1))+1)),.slice p2 y1.Bn.length k2,.slice p3 y1.Bc.length k3]::F):=h
  refine X0 11 rfl ?_
  obtain ⟨b5,hp5,-,-,hl10⟩:=h.holeAt 2 rfl
  obtain ⟨q5,hq5⟩:∃ q,q=0+(i2).toNat*GoT.k qG:=⟨_,rfl⟩
  refine zx hp5 hq5 ⟨he1.1,qC he1.2.1 hl10⟩ rfl (zp1 rfl (zc 4 (qcM h 2 rfl hp5 hq5) rfl (zp1 rfl ?_)))
  replace h:=h.pickT 3 [1,0,2] rfl
  obtain ⟨o2,hr1,hF⟩:=qc hF
  obtain ⟨r1,x2⟩:=o2
  refine qca r1 (cB 203 rfl) (qkc h hr1) rfl rfl rfl rfl ?_
  rintro w6 ⟨S7,h⟩
  refine X0 5 rfl ?_
  obtain ⟨b6,hp6,-,-,hl12⟩:=h.holeAt 2 rfl
  obtain ⟨q6,hq6⟩:∃ q,q=0+(i2).toNat*GoT.k qG:=⟨_,rfl⟩
  refine zx hp6 hq6 ⟨he1.1,qC he1.2.1 hl12⟩ rfl (zp1 rfl (zc 5 (qcM h 2 rfl hp6 hq6) rfl (zp1 rfl ?_)))
  replace h:=h.pickT 3 [1,0,2] rfl
  obtain ⟨o3,hr2,hF⟩:=qc hF
  obtain ⟨r2,x3⟩:=o3
  refine qca r2 (cB 203 rfl) (qkc h hr2) rfl rfl rfl rfl ?_
  rintro w7 ⟨S8,h⟩
  refine X0 8 rfl ?_
  obtain ⟨S9,h⟩:=h.gatherT 3 [2] (qv4 (⟨i1,W64 (i1+1),W64 ((W64 (i1+1))+1),W64 ((W64 ((W64 (i1+1))+1))+1),x2,x3⟩:qG) h (qx (S:=fun _=>False) rfl) (qx (S:=fun _=>False) rfl) (qx (S:=fun _=>False) rfl) (qx (S:=fun _=>False) rfl) (qag 1 h rfl) (qag 0 h rfl) (by rfl) (by rfl) (by rfl) (by rfl) (by rfl)) rfl
  replace h:=h.put
  obtain ⟨S10,h⟩:=qpZ (S:=_) h
  exact rK ⟨_,_,_,_,hF,rfl,h⟩ rfl
 refine qq rfl ?_
 obtain rfl:=qb hF;replace hF:=hK1
 refine X0 5 rfl ?_
 obtain rfl:=qb hF
 exact qiM qa ⟨_,h⟩ ⟨rfl,trivial⟩
def qdL (a:(List qw)):Nat→(List qw)→Int→Int→Option ((List qw) × Int × Int)
 | 0,_,_,_=>none
 | n+1,x1,i1,i2 =>
  bif decide (i2<(a.length:Int)) then
   (qeg n i1).bind fun r1 =>
   (idx x1 i2).bind fun y1 =>
   (qlO n y1.Bd (W64 ((W64 (i1+1))+1))).bind fun o=>match o with
    | (r2,x2) =>
     (qlN n y1.Au r2).bind fun o=>match o with
      | (r3,x3) =>
       (qaC n y1.Bo r3).bind fun o=>match o with
        | (r4,x4) =>
         qdL a n (setS x1 i2 (⟨r1,W64 (i1+1),x2,x3,x4,r4,W64 (r4+1)⟩:qw)) (W64 ((W64 (r4+1))+1)) (W64 (i2+1))
  else
   some (x1,i1,i2)
def qk0 (n:Nat) (a:(List qw)) (k:Int):Option (Int × (List qw)) :=
 (qdL a n a k 0).bind fun o=>match o with
 | (x1,i1,_) =>
  some (i1,x1)
theorem qol {n:Nat} {w0 w:World} {F:List Ch} {a:(List qw)} {k:Int} {S1:Nat→Prop} {p1:Option Addr} {ln1 k1:Nat} (h:SH w0 w (Ch.own S1 (a:List qw) [.slice p1 ln1 k1]::F)) {r:(Int × (List qw))} (hF:qk0 n a k=some r):RetN Tryz.prog 136 [.slice p1 ln1 k1,.int .i64 k] w (fun w'=>∃ Z0:Nat→Prop,SH w0 w' (Ch.own Z0 (r.2:List qw) [.slice p1 ln1 k1]::F)) r.1:=by
 refine qb9 Tryz.func136 rfl (m:=63) rfl rfl ?_
 obtain rfl:=(h.sl 0 rfl).2
 refine X0 9 rfl ?_
 obtain ⟨o1,hF,hK1⟩:=qc hF
 refine qm (rL (fun m e w'=>∃ (S2:Nat→Prop) (x1:(List qw)) (i1:Int) (i2:Int),qdL a m x1 i1 i2=some o1∧e=[(0,.slice p1 a.length k1),(1,.int .i64 i1),(5,.int .i64 i2)]∧SH w0 w' (Ch.own S2 (x1:List qw) [.slice p1 a.length k1]::F)) n ⟨_,_,_,_,hF,rfl,h⟩ rfl ?_)
 rintro m1 e1 w1 ⟨S2,x1,i1,i2,hF,rfl,h⟩
 rcases m1 with _|m1
 ·cases hF
 refine X0 8 rfl (qh rfl hF ?_ ?_)<;>intro hF
 ·refine X0 8 rfl (zcS h hF qf1 rfl fun r1 w2 h hF=>?_)
  obtain ⟨y1,hy1,hF⟩:=qc hF
  have he1:=qcG hy1
  obtain ⟨S3,S4,cs1,h⟩:=h.take hy1
  obtain ⟨p2,k2,p3,k3,p4,k4,rfl,-,-,-⟩:=qad (h.own 0 rfl)
  obtain ⟨S5,S6,S7,h⟩:=qua h
  obtain ⟨b1,hp1,-,-,hl2⟩:=h.holeAt 3 rfl
  obtain ⟨q1,hq1⟩:∃ q,q=0+(i2).toNat*GoT.k qw:=⟨_,rfl⟩
  refine zx hp1 hq1 ⟨he1.1,qC he1.2.1 hl2⟩ rfl (zp1 rfl (qhd qa 3 0 h rfl hp1 hq1 rfl rfl rfl rfl rfl rfl fun w3 h=>?_))
  replace h:SH _ _ (Ch.own S7 (y1.Bo:List Int) [.slice p4 y1.Bo.length k4]::Ch.own S6 (y1.Au:List qG) [.slice p3 y1.Au.length k3]::Ch.own S5 (y1.Bd:List qaj) [.slice p2 y1.Bd.length k2]::Ch.hole S4 (x1:List qw) p1 a.length k1 (i2).toNat [.string r1,.int .i64 y1.Bf,.slice p2 y1.Bd.length k2,.slice p3 y1.Au.length k3,.slice p4 y1.Bo.length k4,.int .i64 y1.Ca,.int .i64 y1.Bu]::F):=h
  refine X0 12 rfl ?_
  obtain ⟨b2,hp2,-,-,hl4⟩:=h.holeAt 3 rfl
  obtain ⟨q2,hq2⟩:∃ q,q=0+(i2).toNat*GoT.k qw:=⟨_,rfl⟩
  refine zx hp2 hq2 ⟨he1.1,qC he1.2.1 hl4⟩ rfl (zp1 rfl (qhd qa 3 1 h rfl hp2 hq2 rfl rfl rfl rfl rfl rfl fun w4 h=>X0 11 rfl ?_))
  obtain ⟨b3,hp3,-,-,hl6⟩:=h.holeAt 3 rfl
  obtain ⟨q3,hq3⟩:∃ q,q=0+(i2).toNat*GoT.k qw:=⟨_,rfl⟩
  refine zx hp3 hq3 ⟨he1.1,qC he1.2.1 hl6⟩ rfl (zp1 rfl (zc 2 (qcM h 3 rfl hp3 hq3) rfl (zp1 rfl ?_)))
  replace h:=h.pickT 4 [2,0,1,3] rfl
  obtain ⟨o2,hr2,hF⟩:=qc hF
  obtain ⟨r2,x2⟩:=o2
  refine qca r2 (cB 173 rfl) (qoX h hr2) rfl rfl rfl rfl ?_
  rintro w5 ⟨S8,h⟩
  refine X0 6 rfl ?_
  obtain ⟨b4,hp4,-,-,hl8⟩:=h.holeAt 3 rfl
  obtain ⟨q4,hq4⟩:∃ q,q=0+(i2).toNat*GoT.k qw:=⟨_,rfl⟩
  refine zx hp4 hq4 ⟨he1.1,qC he1.2.1 hl8⟩ rfl (zp1 rfl (zc 3 (qcM h 3 rfl hp4 hq4) rfl (zp1 rfl ?_)))
  replace h:=h.pickT 4 [2,0,1,3] rfl
  obtain ⟨o3,hr3,hF⟩:=qc hF
  obtain ⟨r3,x3⟩:=o3
  refine qca r3 (cB 174 rfl) (qoI h hr3) rfl rfl rfl rfl ?_
  rintro w6 ⟨S9,h⟩
  refine X0 6 rfl ?_
  obtain ⟨b5,hp5,-,-,hl10⟩:=h.holeAt 3 rfl
  obtain ⟨q5,hq5⟩:∃ q,q=0+(i2).toNat*GoT.k qw:=⟨_,rfl⟩
  refine zx hp5 hq5 ⟨he1.1,qC he1.2.1 hl10⟩ rfl (zp1 rfl (zc 4 (qcM h 3 rfl hp5 hq5) rfl (zp1 rfl ?_)))
  replace h:=h.pickT 4 [2,0,1,3] rfl
  obtain ⟨o4,hr4,hF⟩:=qc hF
  obtain ⟨r4,x4⟩:=o4
  refine qca r4 (cB 23 rfl) (qaD h hr4) rfl rfl rfl rfl ?_
  rintro w7 ⟨S10,h⟩
  refine X0 7 rfl ?_
  obtain ⟨b6,hp6,-,-,hl12⟩:=h.holeAt 3 rfl
  obtain ⟨q6,hq6⟩:∃ q,q=0+(i2).toNat*GoT.k qw:=⟨_,rfl⟩
  refine zx hp6 hq6 ⟨he1.1,qC he1.2.1 hl12⟩ rfl (zp1 rfl (qhd qa 3 5 h rfl hp6 hq6 rfl rfl rfl rfl rfl rfl fun w8 h=>X0 12 rfl ?_))
  obtain ⟨b7,hp7,-,-,hl14⟩:=h.holeAt 3 rfl
  obtain ⟨q7,hq7⟩:∃ q,q=0+(i2).toNat*GoT.k qw:=⟨_,rfl⟩
  refine zx hp7 hq7 ⟨he1.1,qC he1.2.1 hl14⟩ rfl (zp1 rfl (qhd qa 3 6 h rfl hp7 hq7 rfl rfl rfl rfl rfl rfl fun w9 h=>?_))
  replace h:SH _ _ (Ch.own S10 (x4:List Int) [.slice p4 y1.Bo.length k4]::Ch.own S9 (x3:List qG) [.slice p3 y1.Au.length k3]::Ch.own S8 (x2:List qaj) [.slice p2 y1.Bd.length k2]::Ch.hole S4 (x1:List qw) p1 a.length k1 (i2).toNat [.string r1,.int .i64 (W64 (i1+1)),.slice p2 y1.Bd.length k2,.slice p3 y1.Au.length k3,.slice p4 y1.Bo.length k4,.int .i64 r4,.int .i64 (W64 (r4+1))]::F):=h
  refine X0 12 rfl ?_
  obtain ⟨S11,h⟩:=h.gatherT 4 [3] (quj (⟨r1,W64 (i1+1),x2,x3,x4,r4,W64 (r4+1)⟩:qw) h (qx (S:=fun _=>False) rfl) (qx (S:=fun _=>False) rfl) (qag 2 h rfl) (qag 1 h rfl) (qag 0 h rfl) (qx (S:=fun _=>False) rfl) (qx (S:=fun _=>False) rfl) (by rfl) (by rfl) (by rfl) (by rfl) (by rfl) (by rfl)) rfl
  replace h:=h.put
  obtain ⟨S12,h⟩:=qpZ (S:=_) h
  exact rK ⟨_,_,_,_,hF,rfl,h⟩ rfl
 refine qq rfl ?_
 obtain rfl:=qb hF;replace hF:=hK1
 refine X0 5 rfl ?_
 obtain rfl:=qb hF
 exact qiM qa ⟨_,h⟩ ⟨rfl,trivial⟩
def qhw (n:Nat) (a:qn) (k:Int):Option (Int × (List qw)) :=
 (qk0 n a.As k).bind fun o=>match o with
  | (r1,x1) =>
   some (r1,x1)
theorem qnB {n:Nat} {w0 w:World} {F:List Ch} {a:qn} {k:Int} {S1:Nat→Prop} {p1:Option Addr} {ln1 k1:Nat} (h:SH w0 w (Ch.own S1 (a.As:List qw) [.slice p1 ln1 k1]::F)) {r:(Int × (List qw))} (hF:qhw n a k=some r):RetN Tryz.prog 82 [.agg #[.slice p1 ln1 k1],.int .i64 k] w (fun w'=>∃ Z0:Nat→Prop,SH w0 w' (Ch.own Z0 (r.2:List qw) [.slice p1 ln1 k1]::F)) r.1:=by
 refine qb9 Tryz.func82 rfl (m:=10) rfl rfl ?_
 obtain rfl:=(h.sl 0 rfl).2
 refine zSR (qv h rfl rfl fun w1 bb1 h=>X1 7 0 h rfl ?_)
 replace h:=h.pickT 2 [1,0] rfl
 obtain ⟨o1,hr1,hF⟩:=qc hF
 obtain ⟨r1,x1⟩:=o1
 refine qca r1 (cB 136 rfl) (qol h hr1) rfl rfl rfl rfl ?_
 rintro w2 ⟨S2,h⟩
 refine X0 7 rfl ?_
 obtain rfl:=qb hF
 replace h:=h.pickT 2 [0] rfl
 exact qiM qa ⟨_,h⟩ ⟨rfl,trivial⟩
def qce (a:(List qi)):Nat→(List qi)→Int→Int→Option ((List qi) × Int × Int)
 | 0,_,_,_=>none
 | n+1,x1,i1,i2 =>
  bif decide (i2<(a.length:Int)) then
   (qeg n i1).bind fun r1 =>
   (idx x1 i2).bind fun y1 =>
   (qaC n y1.Ak (W64 ((W64 (i1+1))+1))).bind fun o=>match o with
    | (r2,x2) =>
     qce a n (setS x1 i2 (⟨r1,W64 (i1+1),x2⟩:qi)) r2 (W64 (i2+1))
  else
   some (x1,i1,i2)
def qif (n:Nat) (a:(List qi)) (k:Int):Option (Int × (List qi)) :=
 (qce a n a k 0).bind fun o=>match o with
 | (x1,i1,_) =>
  some (i1,x1)
theorem qmL {n:Nat} {w0 w:World} {F:List Ch} {a:(List qi)} {k:Int} {S1:Nat→Prop} {p1:Option Addr} {ln1 k1:Nat} (h:SH w0 w (Ch.own S1 (a:List qi) [.slice p1 ln1 k1]::F)) {r:(Int × (List qi))} (hF:qif n a k=some r):RetN Tryz.prog 137 [.slice p1 ln1 k1,.int .i64 k] w (fun w'=>∃ Z0:Nat→Prop,SH w0 w' (Ch.own Z0 (r.2:List qi) [.slice p1 ln1 k1]::F)) r.1:=by
 refine qb9 Tryz.func137 rfl (m:=35) rfl rfl ?_
 obtain rfl:=(h.sl 0 rfl).2
 refine X0 9 rfl ?_
 obtain ⟨o1,hF,hK1⟩:=qc hF
 refine qm (rL (fun m e w'=>∃ (S2:Nat→Prop) (x1:(List qi)) (i1:Int) (i2:Int),qce a m x1 i1 i2=some o1∧e=[(0,.slice p1 a.length k1),(1,.int .i64 i1),(5,.int .i64 i2)]∧SH w0 w' (Ch.own S2 (x1:List qi) [.slice p1 a.length k1]::F)) n ⟨_,_,_,_,hF,rfl,h⟩ rfl ?_)
 rintro m1 e1 w1 ⟨S2,x1,i1,i2,hF,rfl,h⟩
 rcases m1 with _|m1
 ·cases hF
 refine X0 8 rfl (qh rfl hF ?_ ?_)<;>intro hF
 ·refine X0 8 rfl (zcS h hF qf1 rfl fun r1 w2 h hF=>?_)
  obtain ⟨y1,hy1,hF⟩:=qc hF
  have he1:=qcG hy1
  obtain ⟨S3,S4,cs1,h⟩:=h.take hy1
  obtain ⟨p2,k2,rfl,-⟩:=qP (h.own 0 rfl)
  obtain ⟨S5,h⟩:=qqh h
  obtain ⟨b1,hp1,-,-,hl2⟩:=h.holeAt 1 rfl
  obtain ⟨q1,hq1⟩:∃ q,q=0+(i2).toNat*GoT.k qi:=⟨_,rfl⟩
  refine zx hp1 hq1 ⟨he1.1,qC he1.2.1 hl2⟩ rfl (zp1 rfl (qhd qa 1 0 h rfl hp1 hq1 rfl rfl rfl rfl rfl rfl fun w3 h=>X0 12 rfl ?_))
  obtain ⟨b2,hp2,-,-,hl4⟩:=h.holeAt 1 rfl
  obtain ⟨q2,hq2⟩:∃ q,q=0+(i2).toNat*GoT.k qi:=⟨_,rfl⟩
  refine zx hp2 hq2 ⟨he1.1,qC he1.2.1 hl4⟩ rfl (zp1 rfl (qhd qa 1 1 h rfl hp2 hq2 rfl rfl rfl rfl rfl rfl fun w4 h=>?_))
  replace h:SH _ _ (Ch.own S5 (y1.Ak:List Int) [.slice p2 y1.Ak.length k2]::Ch.hole S4 (x1:List qi) p1 a.length k1 (i2).toNat [.string r1,.int .i64 (W64 (i1+1)),.slice p2 y1.Ak.length k2]::F):=h
  refine X0 10 rfl ?_
  obtain ⟨b3,hp3,-,-,hl6⟩:=h.holeAt 1 rfl
  obtain ⟨q3,hq3⟩:∃ q,q=0+(i2).toNat*GoT.k qi:=⟨_,rfl⟩
  refine zx hp3 hq3 ⟨he1.1,qC he1.2.1 hl6⟩ rfl (zp1 rfl (zc 2 (qcM h 1 rfl hp3 hq3) rfl (zp1 rfl ?_)))
  obtain ⟨o2,hr2,hF⟩:=qc hF
  obtain ⟨r2,x2⟩:=o2
  refine qca r2 (cB 23 rfl) (qaD h hr2) rfl rfl rfl rfl ?_
  rintro w5 ⟨S6,h⟩
  refine X0 8 rfl ?_
  obtain ⟨S7,h⟩:=h.gatherT 2 [1] (qpj (⟨r1,W64 (i1+1),x2⟩:qi) h (qx (S:=fun _=>False) rfl) (qx (S:=fun _=>False) rfl) (qag 0 h rfl) (by rfl) (by rfl)) rfl
  replace h:=h.put
  obtain ⟨S8,h⟩:=qpZ (S:=_) h
  exact rK ⟨_,_,_,_,hF,rfl,h⟩ rfl
 refine qq rfl ?_
 obtain rfl:=qb hF;replace hF:=hK1
 refine X0 5 rfl ?_
 obtain rfl:=qb hF
 exact qiM qa ⟨_,h⟩ ⟨rfl,trivial⟩
def qc0 (a:(List ByteArray)):Nat→(List ByteArray)→Int→Int→Option ((List ByteArray) × Int × Int)
 | 0,_,_,_=>none
 | n+1,x1,i1,i2 =>
  bif decide (i2<(a.length:Int)) then
   (qeg n i1).bind fun r1 =>
   (idx x1 i2).bind fun _ =>
   qc0 a n (setS x1 i2 r1) (W64 (i1+1)) (W64 (i2+1))
  else
   some (x1,i1,i2)
def qjj (n:Nat) (a:(List ByteArray)) (k:Int):Option (Int × (List ByteArray)) :=
 (qc0 a n a k 0).bind fun o=>match o with
 | (x1,i1,_) =>
  some (i1,x1)
theorem qnA {n:Nat} {w0 w:World} {F:List Ch} {a:(List ByteArray)} {k:Int} {S1:Nat→Prop} {p1:Option Addr} {ln1 k1:Nat} (h:SH w0 w (Ch.own S1 (a:List ByteArray) [.slice p1 ln1 k1]::F)) {r:(Int × (List ByteArray))} (hF:qjj n a k=some r):RetN Tryz.prog 138 [.slice p1 ln1 k1,.int .i64 k] w (fun w'=>∃ Z0:Nat→Prop,SH w0 w' (Ch.own Z0 (r.2:List ByteArray) [.slice p1 ln1 k1]::F)) r.1:=by
 refine qb9 Tryz.func138 rfl (m:=20) rfl rfl ?_
 obtain rfl:=(h.sl 0 rfl).2
 refine X0 9 rfl ?_
 obtain ⟨o1,hF,hK1⟩:=qc hF
 refine qm (rL (fun m e w'=>∃ (x1:(List ByteArray)) (i1:Int) (i2:Int),qc0 a m x1 i1 i2=some o1∧e=[(0,.slice p1 a.length k1),(1,.int .i64 i1),(5,.int .i64 i2)]∧SH w0 w' (Ch.own S1 (x1:List ByteArray) [.slice p1 a.length k1]::F)) n ⟨_,_,_,hF,rfl,h⟩ rfl ?_)
 rintro m1 e1 w1 ⟨x1,i1,i2,hF,rfl,h⟩
 rcases m1 with _|m1
 ·cases hF
 refine X0 8 rfl (qh rfl hF ?_ ?_)<;>intro hF
 ·refine X0 8 rfl (zcS h hF qf1 rfl fun r1 w2 h hF=>?_)
  obtain ⟨y1,hy1,hF,he1,b1,_,q1,cs1,hp1,hq1,rfl,hc2⟩:=(h.sl 0 rfl).1.ix hF
  exact zx hp1 hq1 ⟨he1.1,qC he1.2.1 (h.sl 0 rfl).2⟩ rfl (qaA qa 0 0 r1 h rfl hy1 hp1 hq1 rfl hc2 rfl rfl rfl rfl rfl rfl rfl fun w3 h=>X0 12 rfl (rK ⟨_,_,_,hF,rfl,h⟩ rfl))
 refine qq rfl ?_
 obtain rfl:=qb hF;replace hF:=hK1
 refine X0 5 rfl ?_
 obtain rfl:=qb hF
 exact qiM qa ⟨_,h⟩ ⟨rfl,trivial⟩
def qdF (a:(List qK)):Nat→(List qK)→Int→Int→Option ((List qK) × Int × Int)
 | 0,_,_,_=>none
 | n+1,x1,i1,i2 =>
  bif decide (i2<(a.length:Int)) then
   (qeg n i1).bind fun r1 =>
   (idx x1 i2).bind fun y1 =>
   (idx (setS x1 i2 ({ y1 with Bb:=r1 })) i2).bind fun y2 =>
   (idx (setS (setS x1 i2 ({ y1 with Bb:=r1 })) i2 ({ y2 with Bv:=W64 (i1+1) })) i2).bind fun y3 =>
   qdF a n (setS (setS (setS x1 i2 ({ y1 with Bb:=r1 })) i2 ({ y2 with Bv:=W64 (i1+1) })) i2 ({ y3 with Bx:=W64 ((W64 (i1+1))+1) })) (W64 ((W64 ((W64 (i1+1))+1))+1)) (W64 (i2+1))
  else
   some (x1,i1,i2)
def qkU (n:Nat) (a:(List qK)) (k:Int):Option (Int × (List qK)) :=
 (qdF a n a k 0).bind fun o=>match o with
 | (x1,i1,_) =>
  some (i1,x1)
theorem qot {n:Nat} {w0 w:World} {F:List Ch} {a:(List qK)} {k:Int} {S1:Nat→Prop} {p1:Option Addr} {ln1 k1:Nat} (h:SH w0 w (Ch.own S1 (a:List qK) [.slice p1 ln1 k1]::F)) {r:(Int × (List qK))} (hF:qkU n a k=some r):RetN Tryz.prog 139 [.slice p1 ln1 k1,.int .i64 k] w (fun w'=>∃ Z0:Nat→Prop,SH w0 w' (Ch.own Z0 (r.2:List qK) [.slice p1 ln1 k1]::F)) r.1:=by
 refine qb9 Tryz.func139 rfl (m:=35) rfl rfl ?_
 obtain rfl:=(h.sl 0 rfl).2
 refine X0 9 rfl ?_
 obtain ⟨o1,hF,hK1⟩:=qc hF
 refine qm (rL (fun m e w'=>∃ (x1:(List qK)) (i1:Int) (i2:Int),qdF a m x1 i1 i2=some o1∧e=[(0,.slice p1 a.length k1),(1,.int .i64 i1),(5,.int .i64 i2)]∧SH w0 w' (Ch.own S1 (x1:List qK) [.slice p1 a.length k1]::F)) n ⟨_,_,_,hF,rfl,h⟩ rfl ?_)
 rintro m1 e1 w1 ⟨x1,i1,i2,hF,rfl,h⟩
 rcases m1 with _|m1
 ·cases hF
 refine X0 8 rfl (qh rfl hF ?_ ?_)<;>intro hF
 ·refine X0 8 rfl (zcS h hF qf1 rfl fun r1 w2 h hF=>?_)
  obtain ⟨y1,hy1,hF,he1,b1,_,q1,cs1,hp1,hq1,hr2,hc2⟩:=(h.sl 0 rfl).1.ix hF
  obtain rfl:=qaV hr2
  refine zx hp1 hq1 ⟨he1.1,qC he1.2.1 (h.sl 0 rfl).2⟩ rfl (zp1 rfl (qaA qa 0 0 ({ y1 with Bb:=r1 }:qK) h rfl hy1 hp1 hq1 (qes y1) hc2 rfl rfl rfl (qes ({ y1 with Bb:=r1 })) rfl rfl rfl fun w3 h=>X0 12 rfl ?_))
  obtain ⟨y2,hy2,hF,he2,b2,_,q2,cs2,hp2,hq2,hr3,hc3⟩:=(h.sl 0 rfl).1.ix hF
  obtain rfl:=qaV hr3
  refine zx hp2 hq2 ⟨he2.1,qC he2.2.1 (h.sl 0 rfl).2⟩ rfl (zp1 rfl (qaA qa 0 1 ({ y2 with Bv:=W64 (i1+1) }:qK) h rfl hy2 hp2 hq2 (qes y2) hc3 rfl rfl rfl (qes ({ y2 with Bv:=W64 (i1+1) })) rfl rfl rfl fun w4 h=>X0 12 rfl ?_))
  obtain ⟨y3,hy3,hF,he3,b3,_,q3,cs3,hp3,hq3,hr4,hc4⟩:=(h.sl 0 rfl).1.ix hF
  obtain rfl:=qaV hr4
  exact zx hp3 hq3 ⟨he3.1,qC he3.2.1 (h.sl 0 rfl).2⟩ rfl (zp1 rfl (qaA qa 0 2 ({ y3 with Bx:=W64 ((W64 (i1+1))+1) }:qK) h rfl hy3 hp3 hq3 (qes y3) hc4 rfl rfl rfl (qes ({ y3 with Bx:=W64 ((W64 (i1+1))+1) })) rfl rfl rfl fun w5 h=>X0 12 rfl (rK ⟨_,_,_,hF,rfl,h⟩ rfl)))
 refine qq rfl ?_
 obtain rfl:=qb hF;replace hF:=hK1
 refine X0 5 rfl ?_
 obtain rfl:=qb hF
 exact qiM qa ⟨_,h⟩ ⟨rfl,trivial⟩
def qh2 (n:Nat) (a:qd) (k:Int):Option (Int × (List qi) × (List ByteArray) × (List qK)) :=
 (qif n a.Aa k).bind fun o=>match o with
  | (r1,x1) =>
   (qjj n a.Ak r1).bind fun o=>match o with
    | (r2,x2) =>
     (qkU n a.Aj r2).bind fun o=>match o with
      | (r3,x3) =>
       some (r3,x1,x2,x3)
theorem qn5 {n:Nat} {w0 w:World} {F:List Ch} {a:qd} {k:Int} {S1:Nat→Prop} {p1:Option Addr} {ln1 k1:Nat} {S2:Nat→Prop} {p2:Option Addr} {ln2 k2:Nat} {S3:Nat→Prop} {p3:Option Addr} {ln3 k3:Nat} (h:SH w0 w (Ch.own S3 (a.Aj:List qK) [.slice p3 ln3 k3]::Ch.own S2 (a.Ak:List ByteArray) [.slice p2 ln2 k2]::Ch.own S1 (a.Aa:List qi) [.slice p1 ln1 k1]::F)) {r:(Int × (List qi) × (List ByteArray) × (List qK))} (hF:qh2 n a k=some r):RetN Tryz.prog 83 [.agg #[.slice p1 ln1 k1,.slice p2 ln2 k2,.slice p3 ln3 k3],.int .i64 k] w (fun w'=>∃ Z0 Z1 Z2:Nat→Prop,SH w0 w' (Ch.own Z2 (r.2.2.2:List qK) [.slice p3 ln3 k3]::Ch.own Z1 (r.2.2.1:List ByteArray) [.slice p2 ln2 k2]::Ch.own Z0 (r.2.1:List qi) [.slice p1 ln1 k1]::F)) r.1:=by
 refine qb9 Tryz.func83 rfl (m:=18) rfl rfl ?_
 obtain rfl:=(h.sl 0 rfl).2
 obtain rfl:=(h.sl 1 rfl).2
 obtain rfl:=(h.sl 2 rfl).2
 refine zSR (qv h rfl rfl fun w1 bb1 h=>X1 7 0 h rfl ?_)
 replace h:=h.pickT 4 [3,0,1,2] rfl
 obtain ⟨o1,hr1,hF⟩:=qc hF
 obtain ⟨r1,x1⟩:=o1
 refine qca r1 (cB 137 rfl) (qmL h hr1) rfl rfl rfl rfl ?_
 rintro w2 ⟨S4,h⟩
 refine X1 7 1 h rfl ?_
 replace h:=h.pickT 4 [3,0,1,2] rfl
 obtain ⟨o2,hr2,hF⟩:=qc hF
 obtain ⟨r2,x2⟩:=o2
 refine qca r2 (cB 138 rfl) (qnA h hr2) rfl rfl rfl rfl ?_
 rintro w3 ⟨S5,h⟩
 refine X1 7 2 h rfl ?_
 replace h:=h.pickT 4 [3,0,1,2] rfl
 obtain ⟨o3,hr3,hF⟩:=qc hF
 obtain ⟨r3,x3⟩:=o3
 refine qca r3 (cB 139 rfl) (qot h hr3) rfl rfl rfl rfl ?_
 rintro w4 ⟨S6,h⟩
 refine X0 7 rfl ?_
 obtain rfl:=qb hF
 replace h:=h.pickT 4 [0,1,2] rfl
 exact qiM qa ⟨_,_,_,h⟩ ⟨rfl,trivial⟩
def qdM (a:(List qD)):Nat→(List qD)→Int→Int→Option ((List qD) × Int × Int)
 | 0,_,_,_=>none
 | n+1,x1,i1,i2 =>
  bif decide (i2<(a.length:Int)) then
   (idx x1 i2).bind fun y1 =>
   (qaC n y1.Am i1).bind fun o=>match o with
    | (r1,x2) =>
     (qaC n y1.Bw r1).bind fun o=>match o with
      | (r2,x3) =>
       (qaC n y1.Bs r2).bind fun o=>match o with
        | (r3,x4) =>
         (qaC n y1.Bl r3).bind fun o=>match o with
          | (r4,x5) =>
           qdM a n (setS x1 i2 (⟨x2,x3,x4,x5⟩:qD)) r4 (W64 (i2+1))
  else
   some (x1,i1,i2)
def qlf (n:Nat) (a:(List qD)) (k:Int):Option (Int × (List qD)) :=
 (qdM a n a k 0).bind fun o=>match o with
 | (x1,i1,_) =>
  some (i1,x1)
theorem qoy {n:Nat} {w0 w:World} {F:List Ch} {a:(List qD)} {k:Int} {S1:Nat→Prop} {p1:Option Addr} {ln1 k1:Nat} (h:SH w0 w (Ch.own S1 (a:List qD) [.slice p1 ln1 k1]::F)) {r:(Int × (List qD))} (hF:qlf n a k=some r):RetN Tryz.prog 84 [.slice p1 ln1 k1,.int .i64 k] w (fun w'=>∃ Z0:Nat→Prop,SH w0 w' (Ch.own Z0 (r.2:List qD) [.slice p1 ln1 k1]::F)) r.1:=by
 refine qb9 Tryz.func84 rfl (m:=41) rfl rfl ?_
 obtain rfl:=(h.sl 0 rfl).2
 refine X0 9 rfl ?_
 obtain ⟨o1,hF,hK1⟩:=qc hF
 refine qm (rL (fun m e w'=>∃ (S2:Nat→Prop) (x1:(List qD)) (i1:Int) (i2:Int),qdM a m x1 i1 i2=some o1∧e=[(0,.slice p1 a.length k1),(1,.int .i64 i1),(5,.int .i64 i2)]∧SH w0 w' (Ch.own S2 (x1:List qD) [.slice p1 a.length k1]::F)) n ⟨_,_,_,_,hF,rfl,h⟩ rfl ?_)
 rintro m1 e1 w1 ⟨S2,x1,i1,i2,hF,rfl,h⟩
 rcases m1 with _|m1
 ·cases hF
 refine X0 8 rfl (qh rfl hF ?_ ?_)<;>intro hF
 ·refine X0 7 rfl ?_
  obtain ⟨y1,hy1,hF⟩:=qc hF
  have he1:=qcG hy1
  obtain ⟨S3,S4,cs1,h⟩:=h.take hy1
  obtain ⟨p2,k2,p3,k3,p4,k4,p5,k5,rfl,-,-,-,-⟩:=qaN (h.own 0 rfl)
  obtain ⟨S5,S6,S7,S8,h⟩:=quH h
  obtain ⟨b1,hp1,-,-,hl2⟩:=h.holeAt 4 rfl
  obtain ⟨q1,hq1⟩:∃ q,q=0+(i2).toNat*GoT.k qD:=⟨_,rfl⟩
  refine zx hp1 hq1 ⟨he1.1,qC he1.2.1 hl2⟩ rfl (zp1 rfl (zc 0 (qcM h 4 rfl hp1 hq1) rfl (zp1 rfl ?_)))
  replace h:=h.pickT 5 [3,0,1,2,4] rfl
  obtain ⟨o2,hr1,hF⟩:=qc hF
  obtain ⟨r1,x2⟩:=o2
  refine qca r1 (cB 23 rfl) (qaD h hr1) rfl rfl rfl rfl ?_
  rintro w2 ⟨S9,h⟩
  refine X0 6 rfl ?_
  obtain ⟨b2,hp2,-,-,hl4⟩:=h.holeAt 4 rfl
  obtain ⟨q2,hq2⟩:∃ q,q=0+(i2).toNat*GoT.k qD:=⟨_,rfl⟩
  refine zx hp2 hq2 ⟨he1.1,qC he1.2.1 hl4⟩ rfl (zp1 rfl (zc 1 (qcM h 4 rfl hp2 hq2) rfl (zp1 rfl ?_)))
  replace h:=h.pickT 5 [3,0,1,2,4] rfl
  obtain ⟨o3,hr2,hF⟩:=qc hF
  obtain ⟨r2,x3⟩:=o3
  refine qca r2 (cB 23 rfl) (qaD h hr2) rfl rfl rfl rfl ?_
  rintro w3 ⟨S10,h⟩
  refine X0 6 rfl ?_
  obtain ⟨b3,hp3,-,-,hl6⟩:=h.holeAt 4 rfl
  obtain ⟨q3,hq3⟩:∃ q,q=0+(i2).toNat*GoT.k qD:=⟨_,rfl⟩
  refine zx hp3 hq3 ⟨he1.1,qC he1.2.1 hl6⟩ rfl (zp1 rfl (zc 2 (qcM h 4 rfl hp3 hq3) rfl (zp1 rfl ?_)))
  replace h:=h.pickT 5 [3,0,1,2,4] rfl
  obtain ⟨o4,hr3,hF⟩:=qc hF
  obtain ⟨r3,x4⟩:=o4
  refine qca r3 (cB 23 rfl) (qaD h hr3) rfl rfl rfl rfl ?_
  rintro w4 ⟨S11,h⟩
  refine X0 5 rfl ?_
  obtain ⟨b4,hp4,-,-,hl8⟩:=h.holeAt 4 rfl
  obtain ⟨q4,hq4⟩:∃ q,q=0+(i2).toNat*GoT.k qD:=⟨_,rfl⟩
  refine zx hp4 hq4 ⟨he1.1,qC he1.2.1 hl8⟩ rfl (zp1 rfl (zc 3 (qcM h 4 rfl hp4 hq4) rfl (zp1 rfl ?_)))
  replace h:=h.pickT 5 [3,0,1,2,4] rfl
  obtain ⟨o5,hr4,hF⟩:=qc hF
  obtain ⟨r4,x5⟩:=o5
  refine qca r4 (cB 23 rfl) (qaD h hr4) rfl rfl rfl rfl ?_
  rintro w5 ⟨S12,h⟩
  refine X0 8 rfl ?_
  obtain ⟨S13,h⟩:=h.gatherT 5 [4] (qtM (⟨x2,x3,x4,x5⟩:qD) h (qag 3 h rfl) (qag 2 h rfl) (qag 1 h rfl) (qag 0 h rfl) (by rfl) (by rfl) (by rfl)) rfl
  replace h:=h.put
  obtain ⟨S14,h⟩:=qpZ (S:=_) h
  exact rK ⟨_,_,_,_,hF,rfl,h⟩ rfl
 refine qq rfl ?_
 obtain rfl:=qb hF;replace hF:=hK1
 refine X0 5 rfl ?_
 obtain rfl:=qb hF
 exact qiM qa ⟨_,h⟩ ⟨rfl,trivial⟩
def qiX (n:Nat) (a:qg) (k:Int):Option (Int × (List qw) × (List qi) × (List ByteArray) × (List qK) × (List qD)) :=
 (qhw n (⟨a.Av.As⟩:qn) k).bind fun o=>match o with
  | (r1,x1) =>
   (qh2 n (⟨a.Ab.Aa,a.Ab.Ak,a.Ab.Aj⟩:qd) r1).bind fun o=>match o with
    | (r2,x2,x3,x4) =>
     (qlf n a.Ac r2).bind fun o=>match o with
      | (r3,x5) =>
       some (r3,x1,x2,x3,x4,x5)
theorem qoC {n:Nat} {w0 w:World} {F:List Ch} {a:qg} {k:Int} {S1:Nat→Prop} {p1:Option Addr} {ln1 k1:Nat} {S2:Nat→Prop} {p2:Option Addr} {ln2 k2:Nat} {S3:Nat→Prop} {p3:Option Addr} {ln3 k3:Nat} {S4:Nat→Prop} {p4:Option Addr} {ln4 k4:Nat} {S5:Nat→Prop} {p5:Option Addr} {ln5 k5:Nat} (h:SH w0 w (Ch.own S5 (a.Ac:List qD) [.slice p5 ln5 k5]::Ch.own S4 (a.Ab.Aj:List qK) [.slice p4 ln4 k4]::Ch.own S3 (a.Ab.Ak:List ByteArray) [.slice p3 ln3 k3]::Ch.own S2 (a.Ab.Aa:List qi) [.slice p2 ln2 k2]::Ch.own S1 (a.Av.As:List qw) [.slice p1 ln1 k1]::F)) {r:(Int × (List qw) × (List qi) × (List ByteArray) × (List qK) × (List qD))} (hF:qiX n a k=some r):RetN Tryz.prog 54 [.agg #[.slice p1 ln1 k1,.slice p2 ln2 k2,.slice p3 ln3 k3,.slice p4 ln4 k4,.slice p5 ln5 k5],.int .i64 k] w (fun w'=>∃ Z0 Z1 Z2 Z3 Z4:Nat→Prop,SH w0 w' (Ch.own Z4 (r.2.2.2.2.2:List qD) [.slice p5 ln5 k5]::Ch.own Z3 (r.2.2.2.2.1:List qK) [.slice p4 ln4 k4]::Ch.own Z2 (r.2.2.2.1:List ByteArray) [.slice p3 ln3 k3]::Ch.own Z1 (r.2.2.1:List qi) [.slice p2 ln2 k2]::Ch.own Z0 (r.2.1:List qw) [.slice p1 ln1 k1]::F)) r.1:=by
 refine qb9 Tryz.func54 rfl (m:=18) rfl rfl ?_
 obtain rfl:=(h.sl 0 rfl).2
 obtain rfl:=(h.sl 1 rfl).2
 obtain rfl:=(h.sl 2 rfl).2
 obtain rfl:=(h.sl 3 rfl).2
 obtain rfl:=(h.sl 4 rfl).2
 refine zSR (qv h rfl rfl fun w1 bb1 h=>X1 7 0 h rfl ?_)
 replace h:=h.pickT 6 [5,0,1,2,3,4] rfl
 obtain ⟨o1,hr1,hF⟩:=qc hF
 obtain ⟨r1,x1⟩:=o1
 refine qca r1 (cB 82 rfl) (qnB h hr1) rfl rfl rfl rfl ?_
 rintro w2 ⟨S6,h⟩
 refine X1 7 1 h rfl ?_
 replace h:=h.pickT 6 [3,4,5,0,1,2] rfl
 obtain ⟨o2,hr2,hF⟩:=qc hF
 obtain ⟨r2,x2,x3,x4⟩:=o2
 refine qca r2 (cB 83 rfl) (qn5 h hr2) rfl rfl rfl rfl ?_
 rintro w3 ⟨S7,S8,S9,h⟩
 refine X1 7 4 h rfl ?_
 replace h:=h.pickT 6 [5,0,1,2,3,4] rfl
 obtain ⟨o3,hr3,hF⟩:=qc hF
 obtain ⟨r3,x5⟩:=o3
 refine qca r3 (cB 84 rfl) (qoy h hr3) rfl rfl rfl rfl ?_
 rintro w4 ⟨S10,h⟩
 refine X0 7 rfl ?_
 obtain rfl:=qb hF
 replace h:=h.pickT 6 [0,1,2,3,4] rfl
 exact qiM qa ⟨_,_,_,_,_,h⟩ ⟨rfl,trivial⟩
def qcU (a:(List qe)):Nat→(List qe)→Int→Int→Option ((List qe) × Int × Int)
 | 0,_,_,_=>none
 | n+1,x1,i1,i2 =>
  bif decide (i2<(a.length:Int)) then
   (idx x1 i2).bind fun y1 =>
   (idx (setS x1 i2 ({ y1 with Bq:=i1 })) i2).bind fun y2 =>
   (idx (setS (setS x1 i2 ({ y1 with Bq:=i1 })) i2 ({ y2 with Ai:={ y2.Ai with Ap:=W64 (i1+1) } })) i2).bind fun y3 =>
   (idx (setS (setS (setS x1 i2 ({ y1 with Bq:=i1 })) i2 ({ y2 with Ai:={ y2.Ai with Ap:=W64 (i1+1) } })) i2 ({ y3 with Ai:={ y3.Ai with Be:=W64 ((W64 (i1+1))+1) } })) i2).bind fun y4 =>
   (idx (setS (setS (setS (setS x1 i2 ({ y1 with Bq:=i1 })) i2 ({ y2 with Ai:={ y2.Ai with Ap:=W64 (i1+1) } })) i2 ({ y3 with Ai:={ y3.Ai with Be:=W64 ((W64 (i1+1))+1) } })) i2 ({ y4 with Bc:={ y4.Bc with Ap:=W64 ((W64 ((W64 (i1+1))+1))+1) } })) i2).bind fun y5 =>
   qcU a n (setS (setS (setS (setS (setS x1 i2 ({ y1 with Bq:=i1 })) i2 ({ y2 with Ai:={ y2.Ai with Ap:=W64 (i1+1) } })) i2 ({ y3 with Ai:={ y3.Ai with Be:=W64 ((W64 (i1+1))+1) } })) i2 ({ y4 with Bc:={ y4.Bc with Ap:=W64 ((W64 ((W64 (i1+1))+1))+1) } })) i2 ({ y5 with Bc:={ y5.Bc with Be:=W64 ((W64 ((W64 ((W64 (i1+1))+1))+1))+1) } })) (W64 ((W64 ((W64 ((W64 ((W64 (i1+1))+1))+1))+1))+1)) (W64 (i2+1))
  else
   some (x1,i1,i2)
def qje (n:Nat) (a:(List qe)) (k:Int):Option (Int × (List qe)) :=
 (qcU a n a k 0).bind fun o=>match o with
 | (x1,i1,_) =>
  some (i1,x1)
theorem qnm {n:Nat} {w0 w:World} {F:List Ch} {a:(List qe)} {k:Int} {S1:Nat→Prop} {p1:Option Addr} {ln1 k1:Nat} (h:SH w0 w (Ch.own S1 (a:List qe) [.slice p1 ln1 k1]::F)) {r:(Int × (List qe))} (hF:qje n a k=some r):RetN Tryz.prog 55 [.slice p1 ln1 k1,.int .i64 k] w (fun w'=>∃ Z0:Nat→Prop,SH w0 w' (Ch.own Z0 (r.2:List qe) [.slice p1 ln1 k1]::F)) r.1:=by
 refine qb9 Tryz.func55 rfl (m:=52) rfl rfl ?_
 obtain rfl:=(h.sl 0 rfl).2
 refine X0 9 rfl ?_
 obtain ⟨o1,hF,hK1⟩:=qc hF
 refine qm (rL (fun m e w'=>∃ (x1:(List qe)) (i1:Int) (i2:Int),qcU a m x1 i1 i2=some o1∧e=[(0,.slice p1 a.length k1),(1,.int .i64 i1),(5,.int .i64 i2)]∧SH w0 w' (Ch.own S1 (x1:List qe) [.slice p1 a.length k1]::F)) n ⟨_,_,_,hF,rfl,h⟩ rfl ?_)
 rintro m1 e1 w1 ⟨x1,i1,i2,hF,rfl,h⟩
 rcases m1 with _|m1
 ·cases hF
 refine X0 8 rfl (qh rfl hF ?_ ?_)<;>intro hF
 ·refine X0 8 rfl ?_
  obtain ⟨y1,hy1,hF,he1,b1,_,q1,cs1,hp1,hq1,hr1,hc2⟩:=(h.sl 0 rfl).1.ix hF
  obtain rfl:=qE hr1
  refine zx hp1 hq1 ⟨he1.1,qC he1.2.1 (h.sl 0 rfl).2⟩ rfl (zp1 rfl (qaA qa 0 0 ({ y1 with Bq:=i1 }:qe) h rfl hy1 hp1 hq1 (qaB y1) hc2 rfl rfl rfl (qaB ({ y1 with Bq:=i1 })) rfl rfl rfl fun w2 h=>X0 12 rfl ?_))
  obtain ⟨y2,hy2,hF,he2,b2,_,q2,cs2,hp2,hq2,hr2,hc3⟩:=(h.sl 0 rfl).1.ix hF
  obtain rfl:=qE hr2
  refine zx hp2 hq2 ⟨he2.1,qC he2.2.1 (h.sl 0 rfl).2⟩ rfl (zp2 rfl (qaA qa 0 1 ({ y2 with Ai:={ y2.Ai with Ap:=W64 (i1+1) } }:qe) h rfl hy2 hp2 hq2 (qaB y2) hc3 rfl rfl rfl (qaB ({ y2 with Ai:={ y2.Ai with Ap:=W64 (i1+1) } })) rfl rfl rfl fun w3 h=>X0 12 rfl ?_))
  obtain ⟨y3,hy3,hF,he3,b3,_,q3,cs3,hp3,hq3,hr3,hc4⟩:=(h.sl 0 rfl).1.ix hF
  obtain rfl:=qE hr3
  refine zx hp3 hq3 ⟨he3.1,qC he3.2.1 (h.sl 0 rfl).2⟩ rfl (zp2 rfl (qaA qa 0 2 ({ y3 with Ai:={ y3.Ai with Be:=W64 ((W64 (i1+1))+1) } }:qe) h rfl hy3 hp3 hq3 (qaB y3) hc4 rfl rfl rfl (qaB ({ y3 with Ai:={ y3.Ai with Be:=W64 ((W64 (i1+1))+1) } })) rfl rfl rfl fun w4 h=>X0 12 rfl ?_))
  obtain ⟨y4,hy4,hF,he4,b4,_,q4,cs4,hp4,hq4,hr4,hc5⟩:=(h.sl 0 rfl).1.ix hF
  obtain rfl:=qE hr4
  refine zx hp4 hq4 ⟨he4.1,qC he4.2.1 (h.sl 0 rfl).2⟩ rfl (zp2 rfl (qaA qa 0 3 ({ y4 with Bc:={ y4.Bc with Ap:=W64 ((W64 ((W64 (i1+1))+1))+1) } }:qe) h rfl hy4 hp4 hq4 (qaB y4) hc5 rfl rfl rfl (qaB ({ y4 with Bc:={ y4.Bc with Ap:=W64 ((W64 ((W64 (i1+1))+1))+1) } })) rfl rfl rfl fun w5 h=>X0 12 rfl ?_))
  obtain ⟨y5,hy5,hF,he5,b5,_,q5,cs5,hp5,hq5,hr5,hc6⟩:=(h.sl 0 rfl).1.ix hF
  obtain rfl:=qE hr5
  exact zx hp5 hq5 ⟨he5.1,qC he5.2.1 (h.sl 0 rfl).2⟩ rfl (zp2 rfl (qaA qa 0 4 ({ y5 with Bc:={ y5.Bc with Be:=W64 ((W64 ((W64 ((W64 (i1+1))+1))+1))+1) } }:qe) h rfl hy5 hp5 hq5 (qaB y5) hc6 rfl rfl rfl (qaB ({ y5 with Bc:={ y5.Bc with Be:=W64 ((W64 ((W64 ((W64 (i1+1))+1))+1))+1) } })) rfl rfl rfl fun w6 h=>X0 12 rfl (rK ⟨_,_,_,hF,rfl,h⟩ rfl)))
 refine qq rfl ?_
 obtain rfl:=qb hF;replace hF:=hK1
 refine X0 5 rfl ?_
 obtain rfl:=qb hF
 exact qiM qa ⟨_,h⟩ ⟨rfl,trivial⟩
def qkr (n:Nat) (a:qaW) (k:Int):Option (Int × (List qw) × (List qi) × (List ByteArray) × (List qK) × (List qD) × (List Int) × (List qe)) :=
 (qiX n (⟨(⟨a.Af.Av.As⟩:qn),(⟨a.Af.Ab.Aa,a.Af.Ab.Ak,a.Af.Ab.Aj⟩:qd),a.Af.Ac⟩:qg) k).bind fun o=>match o with
  | (r1,x1,x2,x3,x4,x5) =>
   (qaC n a.Bi r1).bind fun o=>match o with
    | (r2,x6) =>
     (qje n a.Ay r2).bind fun o=>match o with
      | (r3,x7) =>
       some (r3,x1,x2,x3,x4,x5,x6,x7)
theorem qpR {n:Nat} {w0 w:World} {F:List Ch} {a:qaW} {k:Int} {S1:Nat→Prop} {p1:Option Addr} {ln1 k1:Nat} {S2:Nat→Prop} {p2:Option Addr} {ln2 k2:Nat} {S3:Nat→Prop} {p3:Option Addr} {ln3 k3:Nat} {S4:Nat→Prop} {p4:Option Addr} {ln4 k4:Nat} {S5:Nat→Prop} {p5:Option Addr} {ln5 k5:Nat} {S6:Nat→Prop} {p6:Option Addr} {ln6 k6:Nat} {S7:Nat→Prop} {p7:Option Addr} {ln7 k7:Nat} (h:SH w0 w (Ch.own S7 (a.Ay:List qe) [.slice p7 ln7 k7]::Ch.own S6 (a.Bi:List Int) [.slice p6 ln6 k6]::Ch.own S5 (a.Af.Ac:List qD) [.slice p5 ln5 k5]::Ch.own S4 (a.Af.Ab.Aj:List qK) [.slice p4 ln4 k4]::Ch.own S3 (a.Af.Ab.Ak:List ByteArray) [.slice p3 ln3 k3]::Ch.own S2 (a.Af.Ab.Aa:List qi) [.slice p2 ln2 k2]::Ch.own S1 (a.Af.Av.As:List qw) [.slice p1 ln1 k1]::F)) {r:(Int × (List qw) × (List qi) × (List ByteArray) × (List qK) × (List qD) × (List Int) × (List qe))} (hF:qkr n a k=some r):RetN Tryz.prog 22 [.agg #[.slice p1 ln1 k1,.slice p2 ln2 k2,.slice p3 ln3 k3,.slice p4 ln4 k4,.slice p5 ln5 k5,.string a.Ah.Bb,.int .i64 a.Ah.Ar,.int .i64 a.Ah.Az,.int .i64 a.Ah.Aq,.int .i64 a.Ah.Ba,.slice p6 ln6 k6,.slice p7 ln7 k7],.int .i64 k] w (fun w'=>∃ Z0 Z1 Z2 Z3 Z4 Z5 Z6:Nat→Prop,SH w0 w' (Ch.own Z6 (r.2.2.2.2.2.2.2:List qe) [.slice p7 ln7 k7]::Ch.own Z5 (r.2.2.2.2.2.2.1:List Int) [.slice p6 ln6 k6]::Ch.own Z4 (r.2.2.2.2.2.1:List qD) [.slice p5 ln5 k5]::Ch.own Z3 (r.2.2.2.2.1:List qK) [.slice p4 ln4 k4]::Ch.own Z2 (r.2.2.2.1:List ByteArray) [.slice p3 ln3 k3]::Ch.own Z1 (r.2.2.1:List qi) [.slice p2 ln2 k2]::Ch.own Z0 (r.2.1:List qw) [.slice p1 ln1 k1]::F)) r.1:=by
 refine qb9 Tryz.func22 rfl (m:=18) rfl rfl ?_
 obtain rfl:=(h.sl 0 rfl).2
 obtain rfl:=(h.sl 1 rfl).2
 obtain rfl:=(h.sl 2 rfl).2
 obtain rfl:=(h.sl 3 rfl).2
 obtain rfl:=(h.sl 4 rfl).2
 obtain rfl:=(h.sl 5 rfl).2
 obtain rfl:=(h.sl 6 rfl).2
 refine zSR (qv h rfl rfl fun w1 bb1 h=>X1 7 0 h rfl ?_)
 replace h:=h.pickT 8 [3,4,5,6,7,0,1,2] rfl
 obtain ⟨o1,hr1,hF⟩:=qc hF
 obtain ⟨r1,x1,x2,x3,x4,x5⟩:=o1
 refine qca r1 (cB 54 rfl) (qoC h hr1) rfl rfl rfl rfl ?_
 rintro w2 ⟨S8,S9,S10,S11,S12,h⟩
 refine X1 7 5 h rfl ?_
 replace h:=h.pickT 8 [7,0,1,2,3,4,5,6] rfl
 obtain ⟨o2,hr2,hF⟩:=qc hF
 obtain ⟨r2,x6⟩:=o2
 refine qca r2 (cB 23 rfl) (qaD h hr2) rfl rfl rfl rfl ?_
 rintro w3 ⟨S13,h⟩
 refine X1 7 6 h rfl ?_
 replace h:=h.pickT 8 [7,0,1,2,3,4,5,6] rfl
 obtain ⟨o3,hr3,hF⟩:=qc hF
 obtain ⟨r3,x7⟩:=o3
 refine qca r3 (cB 55 rfl) (qnm h hr3) rfl rfl rfl rfl ?_
 rintro w4 ⟨S14,h⟩
 refine X0 7 rfl ?_
 obtain rfl:=qb hF
 replace h:=h.pickT 8 [0,1,2,3,4,5,6] rfl
 exact qiM qa ⟨_,_,_,_,_,_,_,h⟩ ⟨rfl,trivial⟩
def qcn (a:(List Int)):Nat→Int→Int→Option (Flow Int (Int × Int))
 | 0,_,_=>none
 | n+1,i1,i2 =>
  bif decide (i2<(a.length:Int)) then
   (idx a i2).bind fun y1 =>
   bif (y1 != i1) then some (.ret (-1)) else
   qcn a n (W64 (i1+1)) (W64 (i2+1))
  else
   some (.nxt (i1,i2))
def qgt (n:Nat) (a:(List Int)) (k:Int):Option Int :=
 (qcn a n k 0).bind fun o=>match o with
 | .ret r=>some r
 | .nxt (i1,_) =>
  some i1
theorem qkN {a:(List Int)} {k:Int} (ha1:Ro w a cs1) {r:Int} (hF:qgt n a k=some r):RetV Tryz.prog 24 [GoT.v (List Int) cs1,.int .i64 k] w r:=by
 obtain ⟨p1,k1,rfl,s1⟩:=ha1
 refine zV 21 Tryz.func24 rfl fun h=>X0 9 rfl ?_
 obtain ⟨o1,hF,hK1⟩:=qc hF
 refine qm (rL (fun m e w'=>∃ (i1:Int) (i2:Int),qcn a m i1 i2=some o1∧e=[(0,.slice p1 a.length k1),(1,.int .i64 i1),(5,.int .i64 i2)]∧SH w w' []) n ⟨_,_,hF,rfl,h⟩ rfl ?_)
 rintro m1 e1 w1 ⟨i1,i2,hF,rfl,h⟩
 rcases m1 with _|m1
 ·cases hF
 refine X0 8 rfl (qh rfl hF ?_ ?_)<;>intro hF
 ·refine X0 8 rfl ?_
  obtain ⟨y1,hy1,hF,he1,b1,_,q1,cs2,hp1,hq1,rfl,hc2⟩:=s1.ix hF
  refine zxe hp1 hq1 he1 rfl (zc 0 (hc2.below h.below) rfl (X0 3 rfl (qh rfl hF ?_ ?_)))<;>intro hF
  ·refine X0 4 rfl ?_
   obtain rfl:=qb hF;replace hF:=hK1
   exact ri h hF rfl
  exact X0 12 rfl (rK ⟨_,_,hF,rfl,h⟩ rfl)
 refine qq rfl ?_
 obtain rfl:=qb hF;replace hF:=hK1
 exact X0 5 rfl (ri h hF rfl)
end Go.Fw


namespace Go.Fw
open Go
def qmt (x:qt):Prop:=rngS x.Bb∧rngI x.Ar∧rngI x.Az∧rngI x.Aq∧rngI x.Ba
def qkY (x:qt):Nat:=x.Bb.size
structure qsC (x:qt):Prop where
 Bb:okS x.Bb
 Ar:okI x.Ar
 Az:okI x.Az
 Aq:okI x.Aq
 Ba:okI x.Ba
theorem qtX {x:qt} (h:qmt x) (w:qkY x≤1048576):qsC x:=⟨(by unfold okS;simp only [qkY] at w;omega),h.2.1,h.2.2.1,h.2.2.2.1,h.2.2.2.2⟩
theorem qwi {a:qt} (_:qkY a≤1048576):Ev (fun n=>qjv n a a) true:=by
 unfold qjv
 exact Ev.ff qiF (Ev.ff qaP (Ev.ff qaP (Ev.ff qaP (Ev.ff qaP (.done)))))
def qoP (x:qf):Prop:=rngI x.Ap∧rngI x.Be
structure qtc (x:qf):Prop where
 Ap:okI x.Ap
 Be:okI x.Be
theorem qsA {x:qf} (h:qoP x):qtc x:=⟨h.1,h.2⟩
def qjb (x:qe):Prop:=rngI x.Bq∧qoP x.Ai∧qoP x.Bc
structure qpK (x:qe):Prop where
 Bq:okI x.Bq
 Ai:qtc x.Ai
 Bc:qtc x.Bc
theorem qtP {x:qe} (h:qjb x):qpK x:=⟨h.1,qsA (h.2.1),qsA (h.2.2)⟩
def qer (a:(List qe)):Nat:=a.length
theorem qs6 {a:(List qe)} (h:(rngL qjb) a) (w:qer a≤1048576):(okL qpK) a :=
 ⟨by simp only [qer] at w;omega,fun x hx=>qtP (h.2 x hx)⟩
def qqX (x:qaW):Prop:=qnU x.Af∧qmt x.Ah∧(rngL rngI) x.Bi∧(rngL qjb) x.Ay
def qkd (x:qaW):Nat:=qf3 x.Af+qkY x.Ah+qaM x.Bi+qer x.Ay
structure qmv (x:qaW):Prop where
 Af:ql0 x.Af
 Ah:qsC x.Ah
 Bi:(okL okI) x.Bi
 Ay:(okL qpK) x.Ay
theorem qw6 {x:qaW} (h:qqX x) (w:qkd x≤1048576):qmv x:=⟨qvB (h.1) (by simp only [qkd] at w;omega),qtX (h.2.1) (by simp only [qkd] at w;omega),qdx (h.2.2.1) (by simp only [qkd] at w;omega),qs6 (h.2.2.2) (by simp only [qkd] at w;omega)⟩
theorem qvU {a:qf}:Ev (fun n=>qj0 n a a) true:=by
 unfold qj0
 exact Ev.ff qaP (Ev.ff qaP (.done))
theorem qwb {a:qe}:Ev (fun n=>qhU n a a) true:=by
 unfold qhU
 exact Ev.ff qaP (Ev.bind (qvU (a:=a.Ai)) (Ev.ff rfl (Ev.bind (qvU (a:=a.Bc)) (Ev.ff rfl (.done)))))
theorem quT {a:(List qe)} (h:qer a≤1048576):Ev (fun n=>qiL n a a) true:=by
 have hl:a.length≤1048576:=by simp only [qer] at h;omega
 unfold qiL
 exact Ev.ff (by simp) (Ev.bind (b:=.nxt (a.length:Int)) (qjx (eqf:=qhU) (fun x hx=>qwb)
  (fun n=>by simp only [qfd,ql (je _),cond_false])
  (fun n j x hx=>by
   have hj:=(List.getElem?_eq_some_iff.1 hx).1
   simp only [qfd,qk hj,cond_true,qan hx,jd,wS j])) .done)
theorem qzF {a:qaW} (h:qkd a≤1048576):Ev (fun n=>qmx n a a) true:=by
 unfold qmx
 simp only [qkd] at h
 exact Ev.bind (qxW (a:=a.Af) (by omega)) (Ev.ff rfl (Ev.bind (qwi (a:=a.Ah) (by omega)) (Ev.ff rfl (Ev.bind (qdN (a:=a.Bi) (by omega)) (Ev.ff rfl (Ev.bind (quT (a:=a.Ay) (by omega)) (Ev.ff rfl (.done))))))))
theorem qwO {a:qt} {left:Int} (h:qmt a) (h0:0≤left) (h1:left≤1048576):Sz (fun n=>qjo n a left) (fun r=>r=left-(qkY a:Int)):=by
 unfold qjo
 obtain ⟨h_0,h_1,h_2,h_3,h_4⟩:=h
 exact Sz.strStep h_0 (by omega) (by omega) fun p0 q0=>Sz.done p0 (by simp only [qkY];omega)
theorem qu7 {a:(List qe)} {left:Int} (h:(rngL qjb) a) (h0:0≤left) (h1:left≤1048576):Sz (fun n=>qk8 n a left) (fun r=>r=left-(qer a:Int)) :=
 Sz.less h0 h1 (by omega) (by have:=h.1;omega) (fun _=>rfl)
theorem qz0 {a:qaW} {left:Int} (h:qqX a) (h0:0≤left) (h1:left≤1048576):Sz (fun n=>qmM n a left) (fun r=>r=left-(qkd a:Int)):=by
 unfold qmM
 obtain ⟨h_0,h_1,h_2,h_3⟩:=h
 exact Sz.step (qxS (a:=a.Af) h_0 (by omega) (by omega)) fun r0 p0 q0=>Sz.step (qwO (a:=a.Ah) h_1 (by omega) (by omega)) fun r1 p1 q1=>Sz.step (qgA (a:=a.Bi) h_2 (by omega) (by omega)) fun r2 p2 q2=>Sz.step (qu7 (a:=a.Ay) h_3 (by omega) (by omega)) fun r3 p3 q3=>Sz.done p3 (by simp only [qkd];omega)
theorem qwc {a:qt} (_:qkY a≤1048576):Ev (fun n=>qjA n a) a:=by
 unfold qjA
 exact .done
theorem qvP {a:qf}:Ev (fun n=>qjY n a) a:=by
 unfold qjY
 exact .done
theorem qwZ {a:qe}:Ev (fun n=>qhR n a) a:=by
 unfold qhR
 exact Ev.bind (qvP (a:=a.Ai)) (Ev.bind (qvP (a:=a.Bc)) (.done))
theorem quV {a:(List qe)} (h:qer a≤1048576):Ev (fun n=>qiw n a) a:=by
 have hl:a.length≤1048576:=by simp only [qer] at h;omega
 unfold qiw
 exact Ev.bindN (qiU (by omega)) (Ev.bind (b:=(a,(a.length:Int))) (qjC (cp:=qhR) (fun x hx=>qwZ)
  (fun acc n=>by simp only [qfo,ql (je _),cond_false])
  (fun acc n j x y hx hy=>by
   have hj:=(List.getElem?_eq_some_iff.1 hx).1
   simp only [qfo,qk hj,cond_true,qan hx,qan hy,jd,wS j])) .done)
theorem qs3 {a:qaW} (h:qkd a≤1048576):Ev (fun n=>qid n a) a:=by
 unfold qid
 simp only [qkd] at h
 exact Ev.bind (qxz (a:=a.Af) (by omega)) (Ev.bind (qwc (a:=a.Ah) (by omega)) (Ev.bind (qdO (a:=a.Bi) (by omega)) (Ev.bind (quV (a:=a.Ay) (by omega)) (.done))))
end Go.Fw


namespace Go.Fw
open Go
set_option maxRecDepth 100000
abbrev lkB (b:qg):Nat:=(linksL b).length
abbrev ndB (b:qg):Nat:=2*(places b.Ab).length
abbrev lvJ (b:qg) (br:List Int):List Bool:=lvB br (lkB b)
def grB (b:qg) (br:List Int):Option Tgraph:=some ⟨some (viewV b),lvJ b br⟩
structure TgOk (b:qg) (c:qt) (br:List Int) (xs:List qe) (R:List Nat):Prop where
 bl:blockB b=true
 co:cornerB c=true
 br_:brB br (lkB b)=true
 sr:srcB xs (ndB b)=true
 or_:ordL (linksL b) (lvJ b br) (ndB b) (ndB b) []=some R
theorem TgOk.ord {b:qg} {c:qt} {br:List Int} {xs:List qe} {R:List Nat} (h:TgOk b c br xs R):OrdOk (lkB b) (frL (linksL b)) (toL (linksL b)) (lvL (lvJ b br)) (ndB b) R :=
 qzg (ndB b) [] R (fun l1 k l2 e=>by cases l1<;>cases e) h.or_
theorem TgOk.len {b:qg} {c:qt} {br:List Int} {xs:List qe} {R:List Nat} (h:TgOk b c br xs R):R.length=ndB b:=by
 have:=qxD (ndB b) [] R h.or_
 simpa using this
theorem qkx {x:Int} (h:x ≠ 0):(x != 0)=true:=by simpa using h
theorem qz5 {b:qg} {c:qt} {br:List Int} {xs:List qe} (hb:ql0 b) (hc:okS c.Bb) (hbl:br.length≤1048576) (hxl:xs.length≤1048576) :
  (∃ code:Int,code ≠ 0∧Ev (fun n=>qiB n b c br xs) ([],code)∧Ev (fun n=>qfS n b c br xs none) (none,[],code)) ∨
  ∃ R,TgOk b c br xs R∧Ev (fun n=>qiB n b c br xs) (ints R,0)∧Ev (fun n=>qfS n b c br xs none) (grB b br,ints R,0):=by
 have s1:=qqd hb
 have i1:=qvD hb
 have s2:=qtk (c:=c) hc
 have i2:=qtU (c:=c) hc
 unfold qiB qfS
 cases h1:blockB b
 ·rw [h1] at s1 i1
  exact .inl ⟨1,by omega,Ev.bind (b:=true) (Ev.bind s1 (Ev.tt rfl .done)) (Ev.tt rfl .done),Ev.bind (b:=true) (Ev.bind i1 (Ev.tt rfl .done)) (Ev.tt rfl .done)⟩
 cases h2:cornerB c
 ·rw [h1] at s1 i1
  rw [h2] at s2 i2
  exact .inl ⟨1,by omega,Ev.bind (b:=true) (Ev.bind s1 (Ev.ff rfl (Ev.bind s2 .done))) (Ev.tt rfl .done),Ev.bind (b:=true) (Ev.bind i1 (Ev.ff rfl (Ev.bind i2 .done))) (Ev.tt rfl .done)⟩
 have hpl:=qbb (qY (qat h1))
 have hll:=qgX h1
 have hk:=qlU h1
 have s3:=qu5 (br:=br) hb h1 hbl
 have i3:=quh (v:=viewV b) (br:=br) hbl hll
 have s4:=qr7 (xs:=xs) h1 hxl
 have i4:=qrY (v:=viewV b) (xs:=xs) hpl hxl
 have ev:(viewV b).links=linksL b:=rfl
 have ep:(viewV b).places=places b.Ab:=rfl
 rw [ev] at i3
 rw [ep] at i4
 rw [h1] at s1 i1
 rw [h2] at s2 i2
 have sA:Ev (fun n=>(qhx n b).bind fun r6=>bif (!r6) then some true else (qhO n c).bind fun r7=>some (!r7)) false:=Ev.bind s1 (Ev.ff rfl (Ev.bind s2 .done))
 have iA:Ev (fun n=>(qiA n b).bind fun r6=>bif (!r6) then some true else (qhI n c).bind fun r7=>some (!r7)) false:=Ev.bind i1 (Ev.ff rfl (Ev.bind i2 .done))
 have nv:=qva h1
 cases h3:brB br (lkB b)
 ·rw [h3] at s3 i3
  exact .inl ⟨2,by omega,Ev.bind sA (Ev.ff rfl (Ev.bind (b:=true) (Ev.bind s3 (Ev.tt rfl .done)) (Ev.tt rfl .done))),
   Ev.bind iA (Ev.ff rfl (Ev.bind nv (Ev.bind (b:=false) (Ev.ff rfl .done) (Ev.ff rfl (Ev.bind (b:=true) (Ev.bind i3 (Ev.tt rfl .done)) (Ev.tt rfl .done))))))⟩
 cases h4:srcB xs (ndB b)
 ·rw [h3] at s3 i3
  rw [h4] at s4 i4
  exact .inl ⟨2,by omega,Ev.bind sA (Ev.ff rfl (Ev.bind (b:=true) (Ev.bind s3 (Ev.ff rfl (Ev.bind s4 .done))) (Ev.tt rfl .done))),
   Ev.bind iA (Ev.ff rfl (Ev.bind nv (Ev.bind (b:=false) (Ev.ff rfl .done) (Ev.ff rfl (Ev.bind (b:=true) (Ev.bind i3 (Ev.ff rfl (Ev.bind i4 .done))) (Ev.tt rfl .done))))))⟩
 have i5:=quW (v:=viewV b) (br:=br) hll h3
 rw [ev] at i5
 have s5:=qmp (ls:=linksL b) (br:=br) hll hbl
 have hlv:(lvJ b br).length=lkB b:=qoV
 have s6:=qwv (lv:=lvJ b br) hk hlv
 have i6:=qwe (b:=b) (ps:=places b.Ab) (lo:=pre (load0 b) b.Ac.length) (de:=pre (exactL b) b.Ac.length) (ex:=[]) (lv:=lvJ b br) hk hlv rfl
 rw [h3] at s3 i3
 rw [h4] at s4 i4
 have sB:Ev (fun n=>(qhe n b br).bind fun r4=>bif (r4 != 0) then some true else (qgn n b xs).bind fun r5=>some (!r5)) false:=Ev.bind s3 (Ev.ff rfl (Ev.bind s4 .done))
 have iB:Ev (fun n=>(qeO n (some (viewV b)) br).bind fun r6=>bif (!r6) then some true else (qdy n (some (viewV b)) xs).bind fun r7=>some (!r7)) false:=Ev.bind i3 (Ev.ff rfl (Ev.bind i4 .done))
 have sT:∀ r:List Int × Int,Ev (fun n=>(qhK n (ndB b:Int) (linksL b) (lvJ b br)).bind fun o=>match o with|(r6,r7)=>bif (!r7) then some (([]:List Int),(7:Int)) else some (r6,0)) r→Ev (fun n=>qeR n b br) r:=fun r hr=>by
  unfold qeR
  exact Ev.bind s3 (Ev.ff rfl (Ev.bind (qim h1) (Ev.bind (qnc h1) (Ev.bind s5 hr))))
 cases ho:ordL (linksL b) (lvJ b br) (ndB b) (ndB b) [] with
 | none =>
  have e:ordR (linksL b) (lvJ b br) (ndB b)=([],false):=by unfold ordR;rw [ho]
  rw [e] at s6 i6
  exact .inl ⟨7,by omega,Ev.bind sA (Ev.ff rfl (Ev.bind sB (Ev.ff rfl (Ev.bind (sT ([],7) (Ev.bind s6 (Ev.tt rfl .done))) .done)))),
   Ev.bind iA (Ev.ff rfl (Ev.bind nv (Ev.bind (b:=false) (Ev.ff rfl .done) (Ev.ff rfl (Ev.bind iB (Ev.ff rfl (Ev.bind i5 (Ev.bind i6 (Ev.tt rfl .done)))))))))⟩
 | some R =>
  have e:ordR (linksL b) (lvJ b br) (ndB b)=(ints R,true):=by unfold ordR;rw [ho]
  rw [e] at s6 i6
  exact .inr ⟨R,⟨h1,h2,h3,h4,ho⟩,Ev.bind sA (Ev.ff rfl (Ev.bind sB (Ev.ff rfl (Ev.bind (sT (ints R,0) (Ev.bind s6 (Ev.ff rfl .done))) .done)))),
   Ev.bind iA (Ev.ff rfl (Ev.bind nv (Ev.bind (b:=false) (Ev.ff rfl .done) (Ev.ff rfl (Ev.bind iB (Ev.ff rfl (Ev.bind i5 (Ev.bind i6 (Ev.ff rfl .done)))))))))⟩
structure WkOk (j:qaW) (t:qy) (R:List Nat):Prop where
 tg:TgOk j.Af j.Ah j.Bi j.Ay R
 tm:TmOk t (ndB j.Af)
def wkV (j:qaW) (t:qy) (R:List Nat):Option Twork:=some ⟨grB j.Af j.Bi,j,t,ints R⟩
theorem qv5 {j:qaW} (h:qmv j) :
  (∃ code:Int,code ≠ 0∧Ev (fun n=>qdA n j.Af j.Ah j.Bi j.Ay) (zT,code)∧Ev (fun n=>qjP n j) (none,code)) ∨
  ∃ t R,WkOk j t R∧Ev (fun n=>qdA n j.Af j.Ah j.Bi j.Ay) (t,0)∧Ev (fun n=>qjP n j) (wkV j t R,0):=by
 have hbl:=h.Bi.len
 have hxl:=h.Ay.len
 unfold qdA qjP
 rcases qz5 h.Af h.Ah.Bb hbl hxl with ⟨code,hne,hs,hi⟩|⟨R,hg,hs,hi⟩
 ·exact .inl ⟨code,hne,Ev.bind hs (Ev.tt (qkx hne) .done),Ev.bind hi (Ev.tt (qkx hne) .done)⟩
 ·have h1:=hg.bl
  have hll:=qgX h1
  have s5:=qmp (ls:=linksL j.Af) (br:=j.Bi) hll hbl
  obtain ⟨f,hf,hfi⟩:=qx4 h1 hg.co
  have hi0:=hfi [] (.inl rfl)
  rw [qwD] at hi0
  have hpl:=qbb (qY (qat h1))
  have hRl:=hg.len
  have hR1:R.length≤1000:=by rw [hRl];show 2*(places j.Af.Ab).length≤1000;omega
  have hRb:∀ k,k ∈ R→k<2*(places j.Af.Ab).length:=fun k hk=>by
   obtain ⟨i,hi,rfl⟩:=List.mem_iff_getElem.1 hk
   exact (hg.ord.at hi).1
  have o2:=qy3 (lv:=lvJ j.Af j.Bi) (R:=R) h1 hf qoV (qpb hxl hg.sr) hRb hR1
  have o3:=qyB (lv:=lvJ j.Af j.Bi) (R:=R) h1 hf (fun _ _=>rfl) hi0 qoV (qpb hxl hg.sr) (fun i hi=>⟨(hg.ord.at hi).1,(hg.ord.at hi).2.1⟩) hR1
  have o1:=qzP (lv:=lvJ j.Af j.Bi) h1 hf (qpb hxl hg.sr) R (zTm (2*(places j.Af.Ab).length))
  generalize rnO f (linksL j.Af) (lvJ j.Af j.Bi) j.Ay R (zTm (2*(places j.Af.Ab).length))=o at o1 o2 o3
  cases o with
  | none=>exact .inl ⟨3,by omega,Ev.bind hs (Ev.ff rfl (Ev.bind (qim h1) (Ev.bind s5 (Ev.bind o2 (Ev.tt rfl .done))))),Ev.bind hi (Ev.ff rfl (Ev.bind o3 (Ev.tt rfl .done)))⟩
  | some t=>exact .inr ⟨t,R,⟨hg,o1 t hRb qvf rfl⟩,Ev.bind hs (Ev.ff rfl (Ev.bind (qim h1) (Ev.bind s5 (Ev.bind o2 (Ev.ff rfl .done))))),Ev.bind hi (Ev.ff rfl (Ev.bind o3 (Ev.ff rfl .done)))⟩
end Go.Fw


namespace Go.Fw
open Go
set_option maxRecDepth 100000
def swV (j:qaW) (t:qy):Option Tl20Work:=some ⟨j,linksL j.Af,lvJ j.Af j.Bi,t⟩
theorem qzf {j:qaW} (h:qmv j) :
  (∃ code:Int,code ≠ 0∧Ev (fun n=>qdu n j) (none,code)∧∀ mode nodes,Ev (fun n=>qht n j mode nodes) (none,code)) ∨
  ∃ t R,WkOk j t R∧Ev (fun n=>qdu n j) (swV j t,0)∧∀ mode nodes,nodes.length≤1048576→(mode=0∨mode=1) →
   Ev (fun n=>qht n j mode nodes) (bif nodes.all (fun x=>inI x 0 ((ndB j.Af:Int)-1)) then (wkV j t R,0) else (none,4)):=by
 have hbl:=h.Bi.len
 unfold qdu qht
 rcases qv5 h with ⟨code,hne,hs,hi⟩|⟨t,R,hw,hs,hi⟩
 ·exact .inl ⟨code,hne,Ev.bind hs (Ev.tt (qkx hne) .done),fun mode nodes=>Ev.bind hi (Ev.tt (qkx hne) .done)⟩
 ·have h1:=hw.tg.bl
  have hll:=qgX h1
  have hpl:=qbb (qY (qat h1))
  have s5:=qmp (ls:=linksL j.Af) (br:=j.Bi) hll hbl
  refine .inr ⟨t,R,hw,Ev.bind hs (Ev.ff rfl (Ev.bind (qim h1) (Ev.bind s5 .done))),fun mode nodes hn hm=>Ev.bind hi (Ev.ff rfl ?_)⟩
  have hnd:=qo3 (v:=viewV j.Af) hpl
  have e1:W64 (((2*(viewV j.Af).places.length:Nat):Int)-1)=(ndB j.Af:Int)-1:=by
   show W64 (((2*(places j.Af.Ab).length:Nat):Int)-1)=_
   rw [qN (by omega) (by omega)]
  unfold wkV grB
  simp only [jd,hnd,e1]
  refine Ev.bind (qed hn) ?_
  cases nodes.all fun x=>inI x 0 ((ndB j.Af:Int)-1)
  ·exact Ev.tt rfl .done
  ·refine Ev.ff rfl ?_
   rcases hm with rfl|rfl<;>exact Ev.bind (b:=true) (Ev.now rfl) (Ev.ff rfl .done)
theorem qoQ {j:qaW} {t:qy} {node:Int} (hl:j.Ay.length≤1048576):Ev (fun n=>qhc n (swV j t) node) ((srcV (srcO j.Ay node)).2,(srcV (srcO j.Ay node)).1):=by
 have h1:Ev (fun n=>qcR (swV j t) node n 0) (match srcO j.Ay node with|some y=>.ret (y,true)|none=>.nxt (j.Ay.length:Int)):=by
  have main:∀ d i,i+d=j.Ay.length→(j.Ay.take i).find? (fun s=>s.Bq==node)=none→Ev (fun n=>qcR (swV j t) node n (i:Int)) (match srcO j.Ay node with|some y=>.ret (y,true)|none=>.nxt (j.Ay.length:Int)):=by
   intro d
   induction d with
   | zero =>
    intro i hi hn
    obtain rfl:i=j.Ay.length:=by omega
    rw [jD] at hn
    unfold srcO
    rw [hn]
    refine Ev.succ ?_
    simp only [qcR,swV,jd,ql (je _),cond_false]
    exact .done
   | succ d ih =>
    intro i hi hn
    have hil:i<j.Ay.length:=by omega
    refine Ev.succ ?_
    simp only [qcR,swV,jd,qk hil,cond_true,qB hil,wS i]
    cases hq:(gt j.Ay i).Bq==node
    ·refine ih (i+1) (by omega) ?_
     rw [jv hil,List.find?_append,hn,←qfx hil,List.find?_cons_of_neg (by simp [hq])]
     rfl
    ·have hd:j.Ay.drop i=gt j.Ay i::j.Ay.drop (i+1):=by rw [qfx hil];exact jF hil
     have:srcO j.Ay node=some (gt j.Ay i):=by
      generalize gt j.Ay i=y at hq hd
      unfold srcO
      rw [←List.take_append_drop i j.Ay,List.find?_append,hn,hd,List.find?_cons_of_pos (by simpa using hq)]
      rfl
     rw [this]
     exact .done
  exact main j.Ay.length 0 (by omega) rfl
 unfold qhc
 refine Ev.bind h1 ?_
 cases srcO j.Ay node<;>exact .done
def atP (ls:List qu) (start:Int) (path:List Int):Nat→Int
 | 0=>start
 | j+1=>(gt ls (at0 path j).toNat).To
def okP (ls:List qu) (lv:List Bool) (start:Int) (path:List Int) (j:Nat):Bool :=
 inI (at0 path j) 0 ((ls.length:Int)-1)&&(gt lv (at0 path j).toNat&&((gt ls (at0 path j).toNat).Bk==atP ls start path j))
def pathB (j:qaW) (start:Int) (path:List Int):Bool:=(srcV (srcO j.Ay start)).1&&allN (okP (linksL j.Af) (lvJ j.Af j.Bi) start path) path.length
def endB (j:qaW) (start:Int) (path:List Int):Int:=atP (linksL j.Af) start path path.length
theorem inRange {x:Int} {m:Nat} (h:inI x 0 ((m:Int)-1)=true):0≤x∧x<(m:Int)∧x.toNat<m:=by rw [qbh] at h;omega
theorem qw4 {j:qaW} {t:qy} {start:Int} {path:List Int} (h1:blockB j.Af=true) (hl:j.Ay.length≤1048576) (hp:path.length≤1048576):∃ e:Int,Ev (fun n=>qlH n (swV j t) start path) (e,pathB j start path)∧(pathB j start path=true→e=endB j start path):=by
 have hll:=qgX h1
 have hlv:(lvJ j.Af j.Bi).length=lkB j.Af:=qoV
 have hS:=qoQ (j:=j) (t:=t) (node:=start) hl
 unfold qlH pathB
 cases hs:(srcV (srcO j.Ay start)).1
 ·rw [hs] at hS
  refine ⟨start,Ev.bind hS (Ev.bind (b:=.nxt (start,0)) (Ev.succ ?_) .done),fun e=>by cases e⟩
  unfold qeF
  cases decide ((0:Int)<(path.length:Int))<;>exact .done
 ·rw [hs] at hS
  have hL:=loopN (Lf:=fun n i x=>qeF (swV j t) path true n i x) (S:=atP (linksL j.Af) start path) (p:=okP (linksL j.Af) (lvJ j.Af j.Bi) start path) (len:=path.length) (bad:=((0:Int),false)) (fin:=(endB j start path,(path.length:Int)))
   (fun n=>by simp only [qeF,ql (je _),cond_false,jd];rfl)
   (fun i hi _ X hX=>by
    have eW:W64 (((linksL j.Af).length:Int)-1)=((linksL j.Af).length:Int)-1:=qN (by omega) (by omega)
    simp only [qeF,qk hi,cond_true,jd,qah hi,swV,qcS,eW,wS i]
    unfold okP at hX ⊢
    cases hr:inI (at0 path i) 0 (((linksL j.Af).length:Int)-1)
    ·exact Ev.bind (b:=true) (Ev.tt rfl .done) (Ev.tt rfl .done)
    ·obtain ⟨r0,r1,r2⟩:=inRange hr
     rw [hr] at hX
     simp only [qdY r0 r1,qdY r0 (show at0 path i<((lvJ j.Af j.Bi).length:Int) by rw [hlv];exact r1),jd]
     cases hv:gt (lvJ j.Af j.Bi) (at0 path i).toNat
     ·exact Ev.bind (b:=true) (Ev.ff rfl (Ev.tt rfl .done)) (Ev.tt rfl .done)
     ·rw [hv] at hX
      cases hf:(gt (linksL j.Af) (at0 path i).toNat).Bk==atP (linksL j.Af) start path i
      ·exact Ev.bind (b:=true) (Ev.ff rfl (Ev.ff rfl (Ev.now (by simp only [bne,hf];rfl)))) (Ev.tt rfl .done)
      ·rw [hf] at hX
       exact Ev.bind (b:=false) (Ev.ff rfl (Ev.ff rfl (Ev.now (by simp only [bne,hf];rfl)))) (Ev.ff rfl (hX rfl)))
  cases hb:allN (okP (linksL j.Af) (lvJ j.Af j.Bi) start path) path.length
  ·rw [hb] at hL
   exact ⟨0,Ev.bind hS (Ev.bind hL .done),fun e=>by cases e⟩
  ·rw [hb] at hL
   exact ⟨endB j start path,Ev.bind hS (Ev.bind hL .done),fun _=>rfl⟩
def linkB (ls:List qu) (path:List Int) (j:Nat):Bool:=inI (at0 path j) 0 ((ls.length:Int)-1)&&(decide (j=0) || (gt ls (at0 path (j-1)).toNat).To==(gt ls (at0 path j).toNat).Bk)
theorem qwK {v:Tview} {path:List Int} (hll:v.links.length≤10000) (hp:path.length≤1048576):Ev (fun n=>qhp n (some v) path) (allN (linkB v.links path) path.length):=by
 have hL:=loopN (τ:=Unit) (Lf:=fun n _ x=>qb8 (some v) path n x) (S:=fun _=>()) (p:=linkB v.links path) (len:=path.length) (bad:=false) (fin:=(path.length:Int))
  (fun n=>by simp only [qb8,ql (je _),cond_false])
  (fun i hi hpr X hX=>by
   have eW:W64 ((v.links.length:Int)-1)=(v.links.length:Int)-1:=qN (by omega) (by omega)
   simp only [qb8,qk hi,cond_true,jd,qah hi,qjd,qdd,qdn,eW,wS i]
   unfold linkB at hX ⊢
   cases hr:inI (at0 path i) 0 ((v.links.length:Int)-1)
   ·exact .done
   ·obtain ⟨r0,r1,r2⟩:=inRange hr
    rw [hr] at hX
    refine Ev.ff rfl ?_
    by_cases h0:i=0
    ·subst h0
     exact Ev.ff rfl (hX rfl)
    ·refine Ev.tt (decide_eq_true (by omega)) ?_
     have hq:=hpr (i-1) (by omega)
     unfold linkB at hq
     rw [jf] at hq
     obtain ⟨q0,q1,_⟩:=inRange hq.1
     rw [show (i:Int)-1=((i-1:Nat):Int) by omega,qN (by omega) (by omega)]
     simp only [qah (show i-1<path.length by omega),jd,qdY q0 q1,qdY r0 r1,bne]
     rw [decide_eq_false h0] at hX ⊢
     cases he:(gt v.links (at0 path (i-1)).toNat).To==(gt v.links (at0 path i).toNat).Bk
     ·exact .done
     ·rw [he] at hX
      exact hX rfl)
 unfold qhp
 refine Ev.bind hL ?_
 cases allN (linkB v.links path) path.length<;>exact .done
theorem qvN {j:qaW} {t:qy} {R:List Nat} {path:List Int} (hp:path.length≤1048576) (hr:∀ x,x ∈ path→0≤x∧x<(lkB j.Af:Int)):Ev (fun n=>qX n path (wkV j t R)) (!path.all fun x=>gt (lvJ j.Af j.Bi) x.toNat):=by
 have hlv:(lvJ j.Af j.Bi).length=lkB j.Af:=qoV
 have h1:Ev (fun n=>qaK n path (wkV j t R)) (ixL (fun x=>!gt (lvJ j.Af j.Bi) x.toNat) path) :=
  qfX (fin:=(path.length:Int)) (Lf:=qV path (wkV j t R)) (xs:=path) (pf:=fun n x=>qfk n x (wkV j t R)) (fun x hx=>by
    obtain ⟨x0,x1⟩:=hr x hx
    unfold qfk wkV grB
    simp only [jd,qdY x0 (show x<((lvJ j.Af j.Bi).length:Int) by rw [hlv];exact x1)]
    exact .done)
   (fun n=>by simp only [qV,ql (je _),cond_false])
   (fun n i x hx=>by
    have hi:=(List.getElem?_eq_some_iff.1 hx).1
    simp only [qV,qk hi,cond_true,qan hx,jd,wS i])
   (fun n=>by unfold qaK;congr 1;funext o;cases o<;>rfl)
 unfold qX
 refine Ev.bind h1 (Ev.now ?_)
 rw [qnr,←qoJ,Bool.not_not]
theorem quL {j:qaW} {t:qy} {R:List Nat} {start:Int} {path:List Int} (h1:blockB j.Af=true) (hl:j.Ay.length≤1048576) (hp:path.length≤1048576):Ev (fun n=>qf8 n (wkV j t R) start path) (pathB j start path):=by
 have hll:=qgX h1
 have hS:=qrM (xs:=j.Ay) (node:=start) hl
 have hP:=qwK (v:=viewV j.Af) (path:=path) hll hp
 have ev:(viewV j.Af).links=linksL j.Af:=rfl
 rw [ev] at hP
 have fr:path.length ≠ 0→allN (linkB (linksL j.Af) path) path.length=true→∃ k:Nat,k<lkB j.Af∧at0 path 0=(k:Int):=fun h0 hb=>by
  rw [qal] at hb
  have:=hb 0 (by omega)
  unfold linkB at this
  rw [jf] at this
  obtain ⟨q0,q1,q2⟩:=inRange this.1
  exact ⟨(at0 path 0).toNat,q2,qeD q0⟩
 have hrg:allN (linkB (linksL j.Af) path) path.length=true→∀ x,x ∈ path→0≤x∧x<(lkB j.Af:Int):=fun hb x hx=>by
  obtain ⟨i,hi,rfl⟩:=List.mem_iff_getElem.1 hx
  rw [qal] at hb
  have:=hb i hi
  unfold linkB at this
  rw [jf] at this
  obtain ⟨q0,q1,_⟩:=inRange this.1
  rw [qkL hi] at q0 q1
  exact ⟨q0,q1⟩
 have key:allN (okP (linksL j.Af) (lvJ j.Af j.Bi) start path) path.length=(allN (linkB (linksL j.Af) path) path.length&&(bif decide (path.length=0) then true else ((gt (linksL j.Af) (at0 path 0).toNat).Bk==start)&&path.all fun x=>gt (lvJ j.Af j.Bi) x.toNat)):=by
  rw [jm,jf,qal,qal]
  unfold okP linkB
  simp only [jf,Bool.or_eq_true,decide_eq_true_eq,beq_iff_eq]
  constructor
  ·intro hh
   refine ⟨fun i hi=>⟨(hh i hi).1,?_⟩,?_⟩
   ·cases i with
    | zero=>exact .inl rfl
    | succ i=>exact .inr (hh (i+1) hi).2.2.symm
   ·by_cases h0:path.length=0
    ·rw [decide_eq_true h0];rfl
    ·rw [decide_eq_false h0]
     simp only [cond_false,jf,beq_iff_eq,jM]
     refine ⟨(hh 0 (by omega)).2.2,fun x hx=>?_⟩
     obtain ⟨i,hi,rfl⟩:=List.mem_iff_getElem.1 hx
     rw [←qkL hi]
     exact (hh i hi).2.1
  ·rintro ⟨ha,hb⟩ i hi
   rw [decide_eq_false (by omega)] at hb
   simp only [cond_false,jf,beq_iff_eq,jM] at hb
   refine ⟨(ha i hi).1,by rw [qkL hi];exact hb.2 _ (jp hi),?_⟩
   cases i with
   | zero=>exact hb.1
   | succ i =>
    rcases (ha (i+1) hi).2 with e|e
    ·omega
    ·exact e.symm
 unfold qf8 pathB
 rw [key]
 show Ev (fun n=>(qeh n j.Ay start).bind _) _
 refine Ev.bind hS ?_
 cases hs:(srcV (srcO j.Ay start)).1
 ·exact Ev.bind (b:=true) (Ev.tt rfl .done) (Ev.tt rfl .done)
 ·cases hb:allN (linkB (linksL j.Af) path) path.length
  ·rw [hb] at hP
   exact Ev.bind (b:=true) (Ev.ff rfl (Ev.bindN rfl (Ev.bind hP .done))) (Ev.tt rfl .done)
  ·have hA:=qvN (j:=j) (t:=t) (R:=R) hp (hrg hb)
   have hfr:=fr
   rw [hb] at hP
   refine Ev.bind (b:=false) (Ev.ff rfl (Ev.bindN rfl (Ev.bind hP .done))) (Ev.ff rfl ?_)
   by_cases h0:path.length=0
   ·rw [decide_eq_true h0]
    refine Ev.ff (decide_eq_false (by omega)) (Ev.bind hA (Ev.now ?_))
    rw [List.length_eq_zero_iff.1 h0]
    rfl
   ·rw [decide_eq_false h0]
    obtain ⟨k,hk,ek⟩:=hfr h0 hb
    refine Ev.tt (decide_eq_true (by omega)) ?_
    show Ev (fun n=>(idx path 0).bind fun y4=>(idx (linksL j.Af) y4).bind fun y5=>bif (y5.Bk != start) then some false else (qX n path (wkV j t R)).bind fun r4=>some (!r4)) _
    rw [show idx path (0:Int)=some (k:Int) by rw [show (0:Int)=((0:Nat):Int) from rfl,qah (by omega),ek]]
    simp only [jd,qB hk,bne]
    rw [ek,jn]
    cases (gt (linksL j.Af) k).Bk==start
    ·exact .done
    ·refine Ev.ff rfl (Ev.bind hA (Ev.now ?_))
     rw [Bool.not_not]
     rfl
theorem quK {j:qaW} {start:Int} {path:List Int} (h:qmv j) (hp:path.length≤1048576) {mode:Int} (hm:mode=0∨mode=1) :
  (∃ code:Int,code ≠ 0∧Ev (fun n=>qdu n j) (none,code)∧Ev (fun n=>qcE n j mode start path) (none,code)) ∨
  ∃ t R,WkOk j t R∧Ev (fun n=>qdu n j) (swV j t,0)∧Ev (fun n=>qcE n j mode start path) (bif pathB j start path then (wkV j t R,0) else (none,5)):=by
 unfold qcE
 rcases qzf h with ⟨code,hne,hs,hi⟩|⟨t,R,hw,hs,hi⟩
 ·exact .inl ⟨code,hne,hs,Ev.bind (hi mode []) (Ev.ff (by simpa using hne) .done)⟩
 ·have hP:=quL (t:=t) (R:=R) (start:=start) hw.tg.bl h.Ay.len hp
  refine .inr ⟨t,R,hw,hs,Ev.bind (hi mode [] (Nat.zero_le _) hm) (Ev.tt rfl (Ev.bind hP ?_))⟩
  cases pathB j start path<;>exact .done
end Go.Fw


namespace Go.Fw
open Go
set_option maxRecDepth 100000
section
variable {L:Nat} {fr to:Nat→Int} {lv:Nat→Bool} {n:Nat} {R:List Nat}
theorem OrdOk.ne (h:OrdOk L fr to lv n R) {i j:Nat} (hij:i<j) (hj:j<R.length):R[i]'(by omega) ≠ R[j]:=fun e =>
 (h.at hj).2.1 (by rw [←e,List.mem_iff_getElem];exact ⟨i,by rw [jI];omega,by rw [List.getElem_take]⟩)
theorem OrdOk.nodup (h:OrdOk L fr to lv n R):R.Nodup:=by
 unfold List.Nodup
 rw [List.pairwise_iff_getElem]
 exact fun i j _ hj hij=>h.ne hij hj
theorem OrdOk.full (h:OrdOk L fr to lv n R) (hl:R.length=n) {k:Nat} (hk:k<n):∃ i,∃ hi:i<R.length,R[i]=k:=by
 refine Classical.byContradiction fun hc=>?_
 have hn:k ∉ R:=fun hm=>hc (List.mem_iff_getElem.1 hm)
 have:=qrP (l:=k::R) (l':=List.range n) (List.nodup_cons.2 ⟨hn,h.nodup⟩) (fun x hx=>by
  rw [List.mem_range]
  rcases List.mem_cons.1 hx with rfl|hx
  ·exact hk
  ·obtain ⟨i,hi,rfl⟩:=List.mem_iff_getElem.1 hx
   exact (h.at hi).1)
 rw [List.length_cons,List.length_range] at this
 omega
theorem OrdOk.later (h:OrdOk L fr to lv n R) (hl:R.length=n) {x a c:Nat} (hx:x<L) (hv:lv x=true) (ha:fr x=(a:Int)) (hc:to x=(c:Int)) (hcn:c<n) {i:Nat} (hi:i<R.length) (hia:R[i]=a):∃ j,∃ hj:j<R.length,i<j∧R[j]=c:=by
 obtain ⟨j,hj,e⟩:=h.full hl hcn
 have h0:=(h.at hj).2.2
 rw [e] at h0
 have:=qq2.1 h0 x hx hv hc
 rw [ha,qlT,List.mem_iff_getElem] at this
 obtain ⟨i',hi',e'⟩:=this
 rw [jI] at hi'
 rw [List.getElem_take] at e'
 refine ⟨j,hj,?_,e⟩
 rcases Nat.lt_trichotomy i i' with hh|hh|hh
 ·exact absurd (hia.trans e'.symm) (h.ne hh (by omega))
 ·omega
 ·exact absurd (e'.trans hia.symm) (h.ne hh hi)
end
theorem qxh {j:qaW} {t:qy} {R:List Nat} {start:Int} {path:List Int} (hw:WkOk j t R) (hb:pathB j start path=true):path.length≤156:=by
 have h1:=hw.tg.bl
 have hk:=qlU h1
 have ho:=hw.tg.ord
 have hl:=hw.tg.len
 have hpl:=qbb (qY (qat h1))
 have hM:ndB j.Af≤156:=by show 2*(places j.Af.Ab).length≤156;omega
 by_cases h0:path.length=0
 ·omega
 unfold pathB at hb
 rw [jf,qal] at hb
 have step:∀ i,i<path.length→∃ x a c:Nat,x<lkB j.Af∧lvL (lvJ j.Af j.Bi) x=true∧frL (linksL j.Af) x=(a:Int)∧toL (linksL j.Af) x=(c:Int)∧a<ndB j.Af∧c<ndB j.Af∧atP (linksL j.Af) start path i=(a:Int)∧atP (linksL j.Af) start path (i+1)=(c:Int):=by
  intro i hi
  have:=hb.2 i hi
  unfold okP at this
  simp only [jf,beq_iff_eq] at this
  obtain ⟨hr,hv,hf⟩:=this
  obtain ⟨r0,r1,r2⟩:=inRange hr
  have f0:=hk.fr0 _ r2
  have f1:=hk.fr1 _ r2
  have t0:=hk.to0 _ r2
  have t1:=hk.to1 _ r2
  refine ⟨(at0 path i).toNat,(gt (linksL j.Af) (at0 path i).toNat).Bk.toNat,(gt (linksL j.Af) (at0 path i).toNat).To.toNat,r2,hv,qeD f0,qeD t0,?_,?_,?_,qeD t0⟩
  ·show _<2*(places j.Af.Ab).length;omega
  ·show _<2*(places j.Af.Ab).length;omega
  ·rw [←hf];exact qeD f0
 have main:∀ i,i≤path.length→∃ p,∃ hp:p<R.length,i≤p∧(R[p]:Int)=atP (linksL j.Af) start path i:=by
  intro i
  induction i with
  | zero =>
   intro _
   obtain ⟨x,a,c,_,_,_,_,ha,_,e,_⟩:=step 0 (by omega)
   obtain ⟨p,hp,ep⟩:=ho.full hl ha
   exact ⟨p,hp,Nat.zero_le _,by rw [ep,e]⟩
  | succ i ih =>
   intro hi
   obtain ⟨p,hp,hle,ep⟩:=ih (by omega)
   obtain ⟨x,a,c,hx,hv,hf,ht,ha,hc,e1,e2⟩:=step i (by omega)
   obtain ⟨q,hq,hlt,eq⟩:=ho.later hl hx hv hf ht hc hp (by rw [e1] at ep;omega)
   exact ⟨q,hq,by omega,by rw [eq,e2]⟩
 obtain ⟨p,hp,hle,_⟩:=main path.length (je _)
 omega
end Go.Fw


namespace Go.Fw
open Go
set_option maxRecDepth 100000
def modeB (m:Int):Bool:=(m==0) || (m==1)
theorem qrw {m:Int} (h:modeB m=true):m=0∨m=1:=by unfold modeB at h;simpa using h
theorem qyf {m:Int} (h:modeB m=false):(m==0)=false∧(m==1)=false:=by unfold modeB at h;simpa using h
theorem qwB {n:Nat} {m:Int}:qlp n m=some (modeB m):=by
 unfold qlp modeB
 cases m==0<;>rfl
theorem qow {n:Nat} {m:Int}:qkv n m=some (modeB m):=by
 unfold qkv modeB
 cases m==0<;>rfl
theorem quk {j:qaW} {start:Int} {path:List Int} (h:qmv j) (hp:path.length≤1048576) (mode:Int) :
  (∃ code:Int,code ≠ 0∧Ev (fun n=>qdu n j) (none,code)∧Ev (fun n=>qcE n j mode start path) (none,code)) ∨
  ∃ t R,WkOk j t R∧Ev (fun n=>qdu n j) (swV j t,0)∧Ev (fun n=>qcE n j mode start path) (bif modeB mode then bif pathB j start path then (wkV j t R,0) else (none,5) else (none,2)):=by
 cases hm:modeB mode
 ·obtain ⟨m0,m1⟩:=qyf hm
  have hbl:=h.Bi.len
  unfold qdu qcE qht
  rcases qv5 h with ⟨code,hne,hs,hi⟩|⟨t,R,hw,hs,hi⟩
  ·exact .inl ⟨code,hne,Ev.bind hs (Ev.tt (qkx hne) .done),Ev.bind (b:=(none,code)) (Ev.bind hi (Ev.tt (qkx hne) .done)) (Ev.ff (by simpa using hne) .done)⟩
  ·have h1:=hw.tg.bl
   have hll:=qgX h1
   have hpl:=qbb (qY (qat h1))
   have s5:=qmp (ls:=linksL j.Af) (br:=j.Bi) hll hbl
   refine .inr ⟨t,R,hw,Ev.bind hs (Ev.ff rfl (Ev.bind (qim h1) (Ev.bind s5 .done))),Ev.bind (b:=(none,2)) (Ev.bind hi (Ev.ff rfl ?_)) .done⟩
   have hnd:=qo3 (v:=viewV j.Af) hpl
   unfold wkV grB
   simp only [jd,hnd]
   refine Ev.bind (qed (Nat.zero_le _)) (Ev.ff rfl ?_)
   simp only [qwB,hm]
   exact .done
 ·exact quK h hp (qrw hm)
theorem qxy {j:qaW} {start:Int} {path:List Int} (hb:pathB j start path=true) {i:Nat} (hi:i<path.length):∃ k:Nat,k<lkB j.Af∧at0 path i=(k:Int):=by
 unfold pathB at hb
 rw [jf,qal] at hb
 have:=hb.2 i hi
 unfold okP at this
 rw [jf] at this
 obtain ⟨r0,_,r2⟩:=inRange this.1
 exact ⟨(at0 path i).toNat,r2,qeD r0⟩
def ofS (m:Int) (s:qf):Int:=bif m==1 then s.Be else s.Ap
theorem qvr {n:Nat} {m:Int} {s:qf}:qiu n s m=some (ofS m s):=by
 unfold qiu ofS
 cases m==1<;>rfl
theorem qz7 {n:Nat} {m:Int} {s:qf} (h:modeB m=true):qke n s m=some (ofS m s):=by
 rcases qrw h with rfl|rfl<;>rfl
section
variable {j:qaW} {t:qy} {R:List Nat} {start:Int} {path:List Int} {f:Nat→qf→qf × qf}
end
def OwnOk (b:qg) (c:qt) (mode:Int) (d:Nat→Int→Int × Int):Prop:=∀ k sl,k<(linksL b).length→0≤sl→sl≤1000000 →
 (0≤(d k sl).2∧(d k sl).2≤1000000)∧Ev (fun n=>qbT n b c (gt (linksL b) k) sl mode) (d k sl).1∧Ev (fun n=>qbi n (some (viewV b)) c (k:Int) sl mode) (d k sl).1 ∧
 Ev (fun n=>qcm n b (gt (linksL b) k) sl mode) (d k sl).2∧Ev (fun n=>qaL n (some (viewV b)) (k:Int) sl mode) (d k sl).2
theorem qzM {b:qg} {c:qt} (h:blockB b=true) (hc:cornerB c=true) {mode:Int} (hm:modeB mode=true):∃ d,OwnOk b c mode d:=by
 have main:∀ x:Nat × Int,∃ r:Int × Int,x.1<(linksL b).length→0≤x.2→x.2≤1000000 →
   (0≤r.2∧r.2≤1000000)∧Ev (fun n=>qbT n b c (gt (linksL b) x.1) x.2 mode) r.1∧Ev (fun n=>qbi n (some (viewV b)) c (x.1:Int) x.2 mode) r.1 ∧
   Ev (fun n=>qcm n b (gt (linksL b) x.1) x.2 mode) r.2∧Ev (fun n=>qaL n (some (viewV b)) (x.1:Int) x.2 mode) r.2:=by
  rintro ⟨k,s⟩
  by_cases hk:k<(linksL b).length∧0≤s∧s≤1000000
  ·obtain ⟨hk,h0,h1⟩:=hk
   obtain ⟨⟨d,p1,p2⟩,⟨u,u0,u1,v1,v2⟩⟩:=qqQ (c:=c) [] h hc hk h0 h1 (qrw hm)
   exact ⟨(d,u),fun _ _ _=>⟨⟨u0,u1⟩,p1,p2,v1,v2⟩⟩
  ·exact ⟨(0,0),fun h1 h2 h3=>absurd ⟨h1,h2,h3⟩ hk⟩
 obtain ⟨d,hd⟩:=Classical.axiomOfChoice main
 exact ⟨fun k s=>d (k,s),fun k s h1 h2 h3=>hd (k,s) h1 h2 h3⟩
def prS (d:Nat→Int→Int × Int) (s0:Int × Int) (path:List Int):Nat→Int × Int
 | 0=>s0
 | i+1=>(W64 ((prS d s0 path i).1+(d (at0 path i).toNat (prS d s0 path i).2).1),(d (at0 path i).toNat (prS d s0 path i).2).2)
theorem quC {xs:List Int} {k i:Nat} (h:i<k):at0 (xs.take k) i=at0 xs i:=by
 unfold at0
 rw [jw,jw,List.getElem?_take_of_lt h]
theorem qxg {d:Nat→Int→Int × Int} {s0:Int × Int} {path:List Int} {k:Nat}:∀ i,i≤k→prS d s0 (path.take k) i=prS d s0 path i:=by
 intro i
 induction i with
 | zero=>intro _;rfl
 | succ i ih =>
  intro hi
  have e:at0 (path.take k) i=at0 path i:=quC (by omega)
  show (W64 _,_)=(W64 _,_)
  rw [e,ih (by omega)]
section
variable {j:qaW} {t:qy} {R:List Nat} {start mode:Int} {path:List Int} {d:Nat→Int→Int × Int}
theorem quO {xs:List qe} (hx:SrcOk xs) (hm:modeB mode=true):0≤ofS mode (srcV (srcO xs start)).2.Bc∧ofS mode (srcV (srcO xs start)).2.Bc≤1000000:=by
 cases hs:srcO xs start with
 | none=>unfold ofS srcV zSrc zSp;cases mode==1<;>(simp only [cond_true,cond_false];omega)
 | some y =>
  obtain ⟨⟨a,b⟩,⟨c,e⟩⟩:=hx.sl y (qmc hs).2
  unfold ofS srcV
  cases mode==1<;>(simp only [cond_true,cond_false];omega)
theorem qus (hd:OwnOk j.Af j.Ah mode d) {s0:Int × Int} (h0:0≤s0.2∧s0.2≤1000000) (hr:∀ i,i<path.length→∃ k:Nat,k<lkB j.Af∧at0 path i=(k:Int)):∀ i,i≤path.length→0≤(prS d s0 path i).2∧(prS d s0 path i).2≤1000000:=by
 intro i
 induction i with
 | zero=>exact fun _=>h0
 | succ i ih =>
  intro hi
  obtain ⟨k,hk,ek⟩:=hr i (by omega)
  obtain ⟨a,b⟩:=ih (by omega)
  have:=(hd k _ hk a b).1
  show 0≤(d (at0 path i).toNat (prS d s0 path i).2).2∧(d (at0 path i).toNat (prS d s0 path i).2).2≤1000000
  rw [ek,jn]
  exact this
def own0 (j:qaW) (start mode:Int):Int × Int:=(ofS mode (srcV (srcO j.Ay start)).2.Ai,ofS mode (srcV (srcO j.Ay start)).2.Bc)
theorem qyt (h:qmv j) (hw:WkOk j t R) (hm:modeB mode=true) (hd:OwnOk j.Af j.Ah mode d) (hp:path.length≤1048576) (hr:∀ i,i<path.length→∃ k:Nat,k<lkB j.Af∧at0 path i=(k:Int)) :
  Ev (fun n=>qlA n (swV j t) start path mode) (prS d (own0 j start mode) path path.length):=by
 have h0:=quO (start:=start) (qpb h.Ay.len hw.tg.sr) hm
 have hsl:=qus (s0:=own0 j start mode) hd h0 hr
 have hL:=loopF (Lf:=fun n (s:Int × Int) i=>qfU (swV j t) path mode n s.1 s.2 i) (S:=fun i=>prS d (own0 j start mode) path i) (len:=path.length) (fin:=((prS d (own0 j start mode) path path.length).1,(prS d (own0 j start mode) path path.length).2,(path.length:Int)))
  (fun n=>by simp only [qfU,ql (je _),cond_false])
  (fun i hi X hX=>by
   obtain ⟨k,hk,ek⟩:=hr i hi
   obtain ⟨s0,s1⟩:=hsl i (by omega)
   obtain ⟨_,q1,_,q2,_⟩:=hd k _ hk s0 s1
   have e3:prS d (own0 j start mode) path (i+1)=(W64 ((prS d (own0 j start mode) path i).1+(d k (prS d (own0 j start mode) path i).2).1),(d k (prS d (own0 j start mode) path i).2).2):=by
    show (W64 _,_)=_
    rw [ek,jn]
   rw [e3] at hX
   simp only [qfU,qk hi,cond_true,qah hi,jd,ek,swV,qB hk,wS i]
   exact Ev.bind q1 (Ev.bind q2 hX))
 unfold qlA
 refine Ev.bind (qoQ h.Ay.len) ?_
 simp only [qvr,jd]
 exact Ev.bind hL .done
theorem qvd (h:qmv j) (hw:WkOk j t R) (hm:modeB mode=true) (hd:OwnOk j.Af j.Ah mode d) (hp:path.length≤1048575) (hr:∀ i,i<path.length→∃ k:Nat,k<lkB j.Af∧at0 path i=(k:Int)) :
  Ev (fun n=>qgK n (wkV j t R) start path mode) (pre (fun i=>(prS d (own0 j start mode) path i).1) (path.length+1),(prS d (own0 j start mode) path path.length).2):=by
 have h0:=quO (start:=start) (qpb h.Ay.len hw.tg.sr) hm
 have hsl:=qus (s0:=own0 j start mode) hd h0 hr
 have hL:=loopF (Lf:=fun n (s:List Int × Int × Int) i=>qcs path mode ⟨grB j.Af j.Bi,j,t,ints R⟩ n s.1 s.2.1 s.2.2 i) (S:=fun i=>(pre (fun i=>(prS d (own0 j start mode) path i).1) (i+1),prS d (own0 j start mode) path i)) (len:=path.length) (fin:=(pre (fun i=>(prS d (own0 j start mode) path i).1) (path.length+1),(prS d (own0 j start mode) path path.length).1,(prS d (own0 j start mode) path path.length).2,(path.length:Int)))
  (fun n=>by simp only [qcs,ql (je _),cond_false])
  (fun i hi X hX=>by
   obtain ⟨k,hk,ek⟩:=hr i hi
   obtain ⟨s0,s1⟩:=hsl i (by omega)
   obtain ⟨_,_,q1,_,q2⟩:=hd k _ hk s0 s1
   have e3:prS d (own0 j start mode) path (i+1)=(W64 ((prS d (own0 j start mode) path i).1+(d k (prS d (own0 j start mode) path i).2).1),(d k (prS d (own0 j start mode) path i).2).2):=by
    show (W64 _,_)=_
    rw [ek,jn]
   have ea:appS (pre (fun i=>(prS d (own0 j start mode) path i).1) (i+1)) [(prS d (own0 j start mode) path (i+1)).1]=some (pre (fun i=>(prS d (own0 j start mode) path i).1) (i+1+1)):=qo1 (f:=fun i=>(prS d (own0 j start mode) path i).1) (by omega)
   rw [e3] at hX ea
   simp only [qcs,qk hi,cond_true,qah hi,jd,ek,wkV,grB,wS i]
   refine Ev.bind q1 (Ev.bind q2 ?_)
   rw [ea]
   exact hX)
 unfold qgK
 show Ev (fun n=>(qeh n j.Ay start).bind _) _
 refine Ev.bind (qrM h.Ay.len) ?_
 simp only [qz7 hm,jd]
 exact Ev.bind hL .done
end
theorem qvo {j:qaW} {start mode:Int} {path:List Int} (h:qmv j) (hp:path.length≤1048576) :
  (∃ code:Int,code ≠ 0∧Ev (fun n=>qiJ n j start path mode) (none,code)∧Ev (fun n=>qcE n j mode start path) (none,code)) ∨
  ∃ t R,WkOk j t R∧modeB mode=true∧pathB j start path=true∧Ev (fun n=>qiJ n j start path mode) (swV j t,0)∧Ev (fun n=>qcE n j mode start path) (wkV j t R,0):=by
 unfold qiJ
 rcases quk (start:=start) h hp mode with ⟨code,hne,hs,hi⟩|⟨t,R,hw,hs,hi⟩
 ·exact .inl ⟨code,hne,Ev.bind hs (Ev.tt (qkx hne) .done),hi⟩
 ·cases hm:modeB mode
  ·rw [hm] at hi
   refine .inl ⟨2,by omega,Ev.bind hs (Ev.ff rfl ?_),hi⟩
   simp only [qow,hm]
   exact .done
  ·rw [hm] at hi
   obtain ⟨e,he,_⟩:=qw4 (j:=j) (t:=t) (start:=start) hw.tg.bl h.Ay.len hp
   cases hb:pathB j start path
   ·rw [hb] at hi he
    refine .inl ⟨5,by omega,Ev.bind hs (Ev.ff rfl ?_),hi⟩
    simp only [qow,hm,jd]
    exact Ev.ff rfl (Ev.bind he .done)
   ·rw [hb] at hi he
    refine .inr ⟨t,R,hw,rfl,rfl,Ev.bind hs (Ev.ff rfl ?_),hi⟩
    simp only [qow,hm,jd]
    exact Ev.ff rfl (Ev.bind he .done)
theorem qpm {j:qaW} {start mode:Int} {path:List Int} (h:qmv j) (hl:okL okI path):∃ R:List Int × Int,Ev (fun n=>qfB n j start path mode) R∧Ev (fun n=>qd5 n j start path mode) R∧qaM R.1≤1048576:=by
 have hp:=hl.len
 unfold qfB qd5
 rcases qvo (start:=start) (mode:=mode) h hp with ⟨code,hne,hs,hi⟩|⟨t,R,hw,hm,hb,hs,hi⟩
 ·exact ⟨([],code),Ev.bind hs (Ev.tt (qkx hne) .done),Ev.bind hi (Ev.tt (qkx hne) .done),Nat.zero_le _⟩
 ·have hpl:=qxh hw hb
  obtain ⟨d,hd⟩:=qzM hw.tg.bl hw.tg.co hm
  have hr:=fun i hi=>qxy (i:=i) hb hi
  have hL:=loopF (Lf:=fun n s i=>qb1 start path mode (swV j t) n s i) (S:=fun i=>pre (fun i=>(prS d (own0 j start mode) path i).1) i) (len:=path.length+1) (fin:=(pre (fun i=>(prS d (own0 j start mode) path i).1) (path.length+1),((path.length+1:Nat):Int)))
   (fun n=>by
    simp only [qb1,show decide (((path.length+1:Nat):Int)≤(path.length:Int))=false from decide_eq_false (by omega),cond_false])
   (fun i hi X hX=>by
    have hS:=qyt (start:=start) (path:=path.take i) h hw hm hd (by rw [jI];omega) (fun k hk=>by
     rw [jI] at hk
     obtain ⟨x,x1,x2⟩:=hr k (by omega)
     exact ⟨x,x1,(quC (by omega)).trans x2⟩)
    rw [jI,show min i path.length=i by omega,qxg i (je _)] at hS
    have eS:subS path 0 (i:Int)=some (path.take i):=by
     unfold subS
     rw [if_pos (by omega)]
     rfl
    have ea:appS (pre (fun i=>(prS d (own0 j start mode) path i).1) i) [(prS d (own0 j start mode) path i).1]=some (pre (fun i=>(prS d (own0 j start mode) path i).1) (i+1)):=qo1 (f:=fun i=>(prS d (own0 j start mode) path i).1) (by omega)
    simp only [qb1,show decide ((i:Int)≤(path.length:Int))=true from decide_eq_true (by omega),cond_true,eS,jd,wS i]
    refine Ev.bind hS ?_
    rw [ea]
    exact hX)
  refine ⟨(pre (fun i=>(prS d (own0 j start mode) path i).1) (path.length+1),0),Ev.bind hs (Ev.ff rfl (Ev.bind hL .done)),Ev.bind hi (Ev.ff rfl (Ev.bind (qvd h hw hm hd (by omega) hr) .done)),by show (pre _ _).length≤_;rw [qn0];omega⟩
end Go.Fw


namespace Go.Fw
open Go
set_option maxRecDepth 100000
def Mk {σ:Type} (F:Nat→Option (Int × σ)) (k:Int) (w:Nat):Prop:=∃ k' x,Ev F (k',x)∧k≤k'∧k'≤k+16*(w:Int)
theorem qrU {α:Type} {t:List α} {j:Nat} {y:α} (h:j<t.length):idx (setS t (j:Int) y) (j:Int)=some y:=by
 rw [qgR (by rw [qe7];exact h),qwE h]
theorem qpr {α:Type} {t:List α} {i:Int} {y z:α}:setS (setS t i y) i z=setS t i z:=by
 unfold setS;rw [List.set_set]
theorem qsg {α:Type} {a:List α} {wt:α→Nat} {j:Nat} (h:j<a.length):((a.take (j+1)).map wt).sum=((a.take j).map wt).sum+wt a[j]:=by
 rw [jv h,jL,List.sum_append];simp
theorem qt1 {α:Type} {a:List α} {wt:α→Nat} {j:Nat}:((a.take j).map wt).sum≤(a.map wt).sum:=by
 conv=>rhs;rw [←List.take_append_drop j a]
 rw [jL,List.sum_append]
 exact Nat.le_add_right _ _
theorem qhn {α:Type} {a:List α} {wt:α→Nat} {Lf:Nat→List α→Int→Int→Option (List α × Int × Int)} {F:Nat→Option (Int × List α)} {k:Int} (hk0:0≤k) (hk1:k+16*((a.length+(a.map wt).sum:Nat):Int)≤1000000000000)
  (hend:∀ n t k,Lf (n+1) t k (a.length:Int)=some (t,k,(a.length:Int)))
  (hstep:∀ x,x ∈ a→∀ k:Int,0≤k→k+16*((1+wt x:Nat):Int)≤1000000000000→∃ y k',k≤k'∧k'≤k+16*((1+wt x:Nat):Int) ∧
   ∀ (t:List α) (j:Nat),j<9223372036854775807→j<a.length→j<t.length→t[j]?=some x→∀ X,Ev (fun n=>Lf n (setS t (j:Int) y) k' ((j+1:Nat):Int)) X→Ev (fun n=>Lf (n+1) t k (j:Int)) X)
  (hl:a.length≤1048576)
  (hF:∀ n,F n=(Lf n a k 0).bind fun o=>match o with|(x1,i1,_)=>some (i1,x1)):Mk F k (a.length+(a.map wt).sum):=by
 obtain ⟨⟨t,k'⟩,⟨_,_,h3,h4⟩,e⟩:=loopE (τ:=List α × Int) (Lf:=fun n t j=>Lf n t.1 t.2 j) (fin:=fun t=>(t.1,t.2,(a.length:Int)))
  (fun j t=>t.1.length=a.length∧(∀ i,j≤i→t.1[i]?=a[i]?)∧k≤t.2∧t.2≤k+16*((j+((a.take j).map wt).sum:Nat):Int)) (len:=a.length)
  (fun n t=>hend n t.1 t.2)
  (fun j t hj ht=>by
   obtain ⟨h1,h2,h3,h4⟩:=ht
   have hs:=qsg (wt:=wt) hj
   have hs2:=qt1 (a:=a) (wt:=wt) (j:=j+1)
   obtain ⟨y,k',q1,q2,q3⟩:=hstep a[j] (jp hj) t.2 (by omega) (by omega)
   refine ⟨(setS t.1 (j:Int) y,k'),⟨by rw [qe7];exact h1,fun i hi=>?_,by show k≤k';omega,?_⟩,fun X hX=>?_⟩
   ·show (t.1.set _ _)[i]?=_
    rw [List.getElem?_set_ne (by rw [jn];omega)]
    exact h2 i (by omega)
   ·show k'≤k+_
    rw [hs]
    omega
   ·exact q3 t.1 j (by omega) hj (by omega) (by rw [h2 j (je _),ji hj]) X hX) 0 (Nat.zero_le _) (a,k) ⟨rfl,fun _ _=>rfl,jW _,by show k≤k+_;omega⟩
 rw [jD] at h4
 exact ⟨k',t,Ev.congr hF (Ev.bind e .done),h3,h4⟩
theorem qxp {α:Type} {pre a:List α} {j:Nat} {y:α} (hp:pre.length=j) (hj:j<a.length):setS (pre++a.drop j) (j:Int) y=(pre++[y])++a.drop (j+1):=by
 show (pre++a.drop j).set j y=_
 rw [List.set_append,if_neg (by omega),hp,Nat.sub_self,jF hj,List.set_cons_zero,jq]
 rfl
def marked (k:Int) (m:Nat):List Int:=(List.range m).map fun (i:Nat)=>k+(i:Int)
theorem qrT {a:List Int} {k:Int} (h0:0≤k) (h1:k≤1000000000000) (hl:a.length≤1048576):Ev (fun n=>qaC n a k) (k+(a.length:Int),marked k a.length):=by
 have hL:Ev (fun n=>qco a n a k 0) (marked k a.length,k+(a.length:Int),(a.length:Int)):=by
  have:=loopF (τ:=List Int × Int) (Lf:=fun n t j=>qco a n t.1 t.2 j) (S:=fun j=>(marked k j++a.drop j,k+(j:Int))) (len:=a.length) (fin:=(marked k a.length,k+(a.length:Int),(a.length:Int))) (fun n=>by
    simp only [qco,ql (je _),cond_false,List.drop_length,jX])
   (fun j hj X hX=>by
    have hp:(marked k j).length=j:=by simp [marked]
    have hlt:j<(marked k j++a.drop j).length:=by rw [jh,hp,List.length_drop];omega
    have hm:marked k (j+1)=marked k j++[k+(j:Int)]:=by unfold marked;rw [List.range_succ,jL];rfl
    simp only [qco,qk hj,cond_true,qgR hlt,jd,qxp hp hj,wS j,qN (show -9223372036854775808≤k+(j:Int)+1 by omega) (by omega)]
    rw [←hm]
    rw [show k+(j:Int)+1=k+((j+1:Nat):Int) by omega]
    exact hX)
  simpa [marked] using this
 unfold qaC
 exact Ev.bind hL .done
theorem qeN {a:List Int} {k:Int} (h0:0≤k) (h1:k≤1000000000000) (hl:qaM a≤1048576):∃ k' x,Ev (fun n=>qaC n a k) (k',x)∧k≤k'∧k'≤k+16*(qaM a:Int) :=
 ⟨_,_,qrT h0 h1 hl,by omega,by unfold qaM;omega⟩
theorem qyR {k:Int} {m:Nat} (h0:0≤k) (h1:k≤1000000000000) (hl:m≤1048576):Ev (fun n=>qgt n (marked k m) k) (k+(m:Int)):=by
 have hlen:(marked k m).length=m:=by simp [marked]
 have hL:Ev (fun n=>qcn (marked k m) n k 0) (.nxt (k+(m:Int),(m:Int))):=by
  have:=loopF (Lf:=qcn (marked k m)) (S:=fun j=>k+(j:Int)) (len:=m) (fin:=.nxt (k+(m:Int),(m:Int))) (fun n=>by
    simp only [qcn,hlen,ql (je _),cond_false])
   (fun j hj X hX=>by
    have e:idx (marked k m) (j:Int)=some (k+(j:Int)):=by
     rw [qgR (by rw [hlen];exact hj)];simp [marked]
    simp only [qcn,hlen,qk hj,cond_true,e,jd,bne_self_eq_false,cond_false,wS j,qN (show -9223372036854775808≤k+(j:Int)+1 by omega) (by omega)]
    rw [show k+(j:Int)+1=k+((j+1:Nat):Int) by omega]
    exact hX)
  simpa using this
 unfold qgt
 exact Ev.bind hL .done
theorem qvX {a b:ByteArray} (h:a.size+b.size≤1000000):catB a b=some (a++b):=by
 unfold catB
 rw [if_pos]
 show ((a.size+b.size:Nat):Int)≤9223372036854775807
 omega
theorem qsS {x:IntK .u8}:(strOf [x]).size=1:=rfl
theorem qjZ {k:Int} (hk:k≤1000000000001000):∃ s,Ev (fun n=>qeg n k) s:=by
 have main:∀ m:Nat,∀ i1:Int,∀ z:ByteArray,0≤i1→i1≤9000000000000000000→i1<10 ^ m→z.size+m≤1000→∃ o:Int × ByteArray,o.2.size≤1000∧Ev (fun n=>qfO n i1 z) o:=by
  intro m
  induction m with
  | zero =>
   intro i1 z h0 hb h1 hz
   have:i1=0:=by have:(10:Int) ^ 0=1:=rfl;omega
   subst this
   exact ⟨(0,z),by show z.size≤1000;omega,Ev.succ (Ev.ff (by decide) .done)⟩
  | succ m ih =>
   intro i1 z h0 hb h1 hz
   by_cases hp:i1=0
   ·subst hp
    exact ⟨(0,z),by show z.size≤1000;omega,Ev.succ (Ev.ff (by decide) .done)⟩
   ·have hd:i1.tdiv 10=i1 / 10:=jG h0
    have h10:(10:Int) ^ (m+1)=10 ^ m*10:=Int.pow_succ _ _
    have hc:catB (strOf ([(⟨IntKind.wrap .u8 (W64 (48+(i1.tmod 10)))⟩:IntK .u8)])) z=some (strOf ([(⟨IntKind.wrap .u8 (W64 (48+(i1.tmod 10)))⟩:IntK .u8)])++z):=qvX (by rw [qsS];omega)
    obtain ⟨o,ho,e⟩:=ih (i1 / 10) (strOf ([(⟨IntKind.wrap .u8 (W64 (48+(i1.tmod 10)))⟩:IntK .u8)])++z) (by omega) (by omega) (by omega) (by rw [ByteArray.size_append,qsS];omega)
    refine ⟨o,ho,Ev.succ ?_⟩
    simp only [qfO,show decide (i1 > 0)=true by simp;omega,cond_true,hc,jd,hd,qN (show -9223372036854775808≤i1 / 10 by omega) (by omega)]
    exact e
 unfold qeg
 by_cases h0:k≤0
 ·exact ⟨_,Ev.tt (by simpa using h0) .done⟩
 ·obtain ⟨⟨o1,o2⟩,ho,e⟩:=main 16 k ⟨#[]⟩ (by omega) (by omega) (by have:(10:Int) ^ 16=10000000000000000:=rfl;omega) (by decide)
  refine ⟨(⟨#[109]⟩:ByteArray)++o2,Ev.ff (by simp;omega) (Ev.bind e ?_)⟩
  have ho:o2.size≤1000:=ho
  show Ev (fun n=>(catB ⟨#[109]⟩ o2).bind fun z3=>some z3) _
  rw [qvX (show (⟨#[109]⟩:ByteArray).size+o2.size≤1000000 by have:(⟨#[109]⟩:ByteArray).size=1:=rfl;omega)]
  exact .done
theorem qw8 {α:Type} {a:List α}:(a.map (fun _=>0)).sum=0:=by induction a<;>simp_all
theorem qok {a:(List qr)} {k:Int} (h0:0≤k) (h1:k+16*(qdc a:Int)≤1000000000000) (hw:qdc a≤1048576):Mk (fun n=>qh6 n a k) k (qdc a):=by
 refine qhn (a:=a) (wt:=(fun x:qr=>qd7 x)) h0 h1 (Lf:=qdo a) (fun n t k=>by simp only [qdo,ql (je _),cond_false]) (fun x hx k h0 h1=>?_) (by simp only [qdc] at hw;omega) (fun _=>rfl)
 have hs:=qcB (wt:=(fun x:qr=>qd7 x)) hx
 have ew:qd7 x=qaM x.Bm+qaM x.Bj+qaM x.Bh:=rfl
 have hw:a.length+(a.map (fun x:qr=>qd7 x)).sum≤1048576:=hw
 simp only [ew] at hs h1 ⊢
 obtain ⟨k1,x1,q1,l1,u1⟩:=qeN (a:=x.Bm) (k:=k) (by omega) (by omega) (by omega)
 obtain ⟨k2,x2,q2,l2,u2⟩:=qeN (a:=x.Bj) (k:=k1) (by omega) (by omega) (by omega)
 obtain ⟨k3,x3,q3,l3,u3⟩:=qeN (a:=x.Bh) (k:=k2) (by omega) (by omega) (by omega)
 refine ⟨⟨x1,x2,x3⟩,k3,by omega,by omega,fun t j hb hj ht hx X hX=>?_⟩
 simp only [qdo,qk hj,cond_true,qde hb]
 try simp only [qan hx,jd]
 refine Ev.bind q1 ?_
 refine Ev.bind q2 ?_
 refine Ev.bind q3 ?_
 exact hX
theorem qux {a:(List qG)} {k:Int} (h0:0≤k) (h1:k+16*(qhF a:Int)≤1000000000000) (hw:qhF a≤1048576):Mk (fun n=>qlN n a k) k (qhF a):=by
 refine qhn (a:=a) (wt:=(fun x:qG=>qi6 x)) h0 h1 (Lf:=qel a) (fun n t k=>by simp only [qel,ql (je _),cond_false]) (fun x hx k h0 h1=>?_) (by simp only [qhF] at hw;omega) (fun _=>rfl)
 have hs:=qcB (wt:=(fun x:qG=>qi6 x)) hx
 have ew:qi6 x=qdc x.Bn+qdc x.Bc:=rfl
 have hw:a.length+(a.map (fun x:qG=>qi6 x)).sum≤1048576:=hw
 simp only [ew] at hs h1 ⊢
 have e1:W64 (k+1)=k+1:=qN (by omega) (by omega)
 have e2:W64 (k+1+1)=k+1+1:=qN (by omega) (by omega)
 have e3:W64 (k+1+1+1)=k+1+1+1:=qN (by omega) (by omega)
 have e4:W64 (k+1+1+1+1)=k+1+1+1+1:=qN (by omega) (by omega)
 obtain ⟨k1,x1,q1,l1,u1⟩:=qok (a:=x.Bn) (k:=k+1+1+1+1) (by omega) (by omega) (by omega)
 obtain ⟨k2,x2,q2,l2,u2⟩:=qok (a:=x.Bc) (k:=k1) (by omega) (by omega) (by omega)
 refine ⟨⟨k,k+1,k+1+1,k+1+1+1,x1,x2⟩,k2,by omega,by omega,fun t j hb hj ht hx X hX=>?_⟩
 simp only [qel,qk hj,cond_true,qde hb]
 try simp only [qan hx,jd,e1,e2,e3,e4]
 refine Ev.bind q1 ?_
 refine Ev.bind q2 ?_
 exact hX
theorem quI {a:(List qaj)} {k:Int} (h0:0≤k) (h1:k+16*(qhG a:Int)≤1000000000000) (hw:qhG a≤1048576):Mk (fun n=>qlO n a k) k (qhG a):=by
 refine qhn (a:=a) (wt:=(fun x:qaj=>qkR x)) h0 h1 (Lf:=qeC a) (fun n t k=>by simp only [qeC,ql (je _),cond_false]) (fun x hx k h0 h1=>?_) (by simp only [qhG] at hw;omega) (fun _=>rfl)
 have hs:=qcB (wt:=(fun x:qaj=>qkR x)) hx
 have ew:qkR x=x.Bb.size:=rfl
 have hw:a.length+(a.map (fun x:qaj=>qkR x)).sum≤1048576:=hw
 simp only [ew] at hs h1 ⊢
 obtain ⟨s1,es1⟩:=qjZ (k:=k) (by omega)
 have e1:W64 (k+1)=k+1:=qN (by omega) (by omega)
 have e2:W64 (k+1+1)=k+1+1:=qN (by omega) (by omega)
 have e3:W64 (k+1+1+1)=k+1+1+1:=qN (by omega) (by omega)
 have e4:W64 (k+1+1+1+1)=k+1+1+1+1:=qN (by omega) (by omega)
 refine ⟨⟨s1,k+1,k+1+1,((k+1+1+1).tmod 3)==0⟩,k+1+1+1+1,by omega,by omega,fun t j hb hj ht hx X hX=>?_⟩
 simp only [qeC,qk hj,cond_true,qde hb]
 try simp only [qan hx,qrU ht,jd,qpr]
 refine Ev.bind es1 ?_
 try simp only [e1,e2,e3,e4]
 exact hX
theorem qth {a:(List qw)} {k:Int} (h0:0≤k) (h1:k+16*(qgc a:Int)≤1000000000000) (hw:qgc a≤1048576):Mk (fun n=>qk0 n a k) k (qgc a):=by
 refine qhn (a:=a) (wt:=(fun x:qw=>qfN x)) h0 h1 (Lf:=qdL a) (fun n t k=>by simp only [qdL,ql (je _),cond_false]) (fun x hx k h0 h1=>?_) (by simp only [qgc] at hw;omega) (fun _=>rfl)
 have hs:=qcB (wt:=(fun x:qw=>qfN x)) hx
 have ew:qfN x=x.Bb.size+qhG x.Bd+qhF x.Au+qaM x.Bo:=rfl
 have hw:a.length+(a.map (fun x:qw=>qfN x)).sum≤1048576:=hw
 simp only [ew] at hs h1 ⊢
 obtain ⟨s1,es1⟩:=qjZ (k:=k) (by omega)
 have e1:W64 (k+1)=k+1:=qN (by omega) (by omega)
 have e2:W64 (k+1+1)=k+1+1:=qN (by omega) (by omega)
 obtain ⟨k2,x2,q2,l2,u2⟩:=quI (a:=x.Bd) (k:=k+1+1) (by omega) (by omega) (by omega)
 obtain ⟨k3,x3,q3,l3,u3⟩:=qux (a:=x.Au) (k:=k2) (by omega) (by omega) (by omega)
 obtain ⟨k4,x4,q4,l4,u4⟩:=qeN (a:=x.Bo) (k:=k3) (by omega) (by omega) (by omega)
 have e3:W64 (k4+1)=k4+1:=qN (by omega) (by omega)
 have e4:W64 (k4+1+1)=k4+1+1:=qN (by omega) (by omega)
 refine ⟨⟨s1,k+1,x2,x3,x4,k4,k4+1⟩,k4+1+1,by omega,by omega,fun t j hb hj ht hx X hX=>?_⟩
 simp only [qdL,qk hj,cond_true,qde hb]
 try simp only [qan hx,jd]
 refine Ev.bind es1 ?_
 try simp only [e1,e2]
 refine Ev.bind q2 ?_
 refine Ev.bind q3 ?_
 refine Ev.bind q4 ?_
 try simp only [e3,e4]
 exact hX
theorem qrp {a:qn} {k:Int} (h0:0≤k) (h1:k+16*(qeB a:Int)≤1000000000000) (hw:qeB a≤1048576):Mk (fun n=>qhw n a k) k (qeB a):=by
 simp only [qeB] at h1 hw ⊢
 obtain ⟨k1,x1,q1,l1,u1⟩:=qth (a:=a.As) (k:=k) (by omega) (by omega) (by omega)
 refine ⟨k1,x1,?_,by omega,by omega⟩
 unfold qhw
 exact Ev.bind q1 (.done)
theorem qpq {a:(List qi)} {k:Int} (h0:0≤k) (h1:k+16*(qbN a:Int)≤1000000000000) (hw:qbN a≤1048576):Mk (fun n=>qif n a k) k (qbN a):=by
 refine qhn (a:=a) (wt:=(fun x:qi=>qbC x)) h0 h1 (Lf:=qce a) (fun n t k=>by simp only [qce,ql (je _),cond_false]) (fun x hx k h0 h1=>?_) (by simp only [qbN] at hw;omega) (fun _=>rfl)
 have hs:=qcB (wt:=(fun x:qi=>qbC x)) hx
 have ew:qbC x=x.Bb.size+qaM x.Ak:=rfl
 have hw:a.length+(a.map (fun x:qi=>qbC x)).sum≤1048576:=hw
 simp only [ew] at hs h1 ⊢
 obtain ⟨s1,es1⟩:=qjZ (k:=k) (by omega)
 have e1:W64 (k+1)=k+1:=qN (by omega) (by omega)
 have e2:W64 (k+1+1)=k+1+1:=qN (by omega) (by omega)
 obtain ⟨k2,x2,q2,l2,u2⟩:=qeN (a:=x.Ak) (k:=k+1+1) (by omega) (by omega) (by omega)
 refine ⟨⟨s1,k+1,x2⟩,k2,by omega,by omega,fun t j hb hj ht hx X hX=>?_⟩
 simp only [qce,qk hj,cond_true,qde hb]
 try simp only [qan hx,jd]
 refine Ev.bind es1 ?_
 try simp only [e1,e2]
 refine Ev.bind q2 ?_
 exact hX
theorem qru {a:(List ByteArray)} {k:Int} (h0:0≤k) (h1:k+16*(qez a:Int)≤1000000000000) (hw:qez a≤1048576):Mk (fun n=>qjj n a k) k (qez a):=by
 refine qhn (a:=a) (wt:=(fun x:ByteArray=>x.size)) h0 h1 (Lf:=qc0 a) (fun n t k=>by simp only [qc0,ql (je _),cond_false]) (fun x hx k h0 h1=>?_) (by simp only [qez] at hw;omega) (fun _=>rfl)
 obtain ⟨s,es⟩:=qjZ (k:=k) (by omega)
 have e1:W64 (k+1)=k+1:=qN (by omega) (by omega)
 refine ⟨s,k+1,by omega,by omega,fun t j hb hj ht hx X hX=>?_⟩
 simp only [qc0,qk hj,cond_true,e1,qde hb]
 refine Ev.bind es ?_
 try simp only [qan hx,jd]
 exact hX
theorem qtn {a:(List qK)} {k:Int} (h0:0≤k) (h1:k+16*(qgg a:Int)≤1000000000000) (hw:qgg a≤1048576):Mk (fun n=>qkU n a k) k (qgg a):=by
 refine qhn (a:=a) (wt:=(fun x:qK=>qh8 x)) h0 h1 (Lf:=qdF a) (fun n t k=>by simp only [qdF,ql (je _),cond_false]) (fun x hx k h0 h1=>?_) (by simp only [qgg] at hw;omega) (fun _=>rfl)
 have hs:=qcB (wt:=(fun x:qK=>qh8 x)) hx
 have ew:qh8 x=x.Bb.size:=rfl
 have hw:a.length+(a.map (fun x:qK=>qh8 x)).sum≤1048576:=hw
 simp only [ew] at hs h1 ⊢
 obtain ⟨s1,es1⟩:=qjZ (k:=k) (by omega)
 have e1:W64 (k+1)=k+1:=qN (by omega) (by omega)
 have e2:W64 (k+1+1)=k+1+1:=qN (by omega) (by omega)
 have e3:W64 (k+1+1+1)=k+1+1+1:=qN (by omega) (by omega)
 refine ⟨⟨s1,k+1,k+1+1⟩,k+1+1+1,by omega,by omega,fun t j hb hj ht hx X hX=>?_⟩
 simp only [qdF,qk hj,cond_true,qde hb]
 try simp only [qan hx,qrU ht,jd,qpr]
 refine Ev.bind es1 ?_
 try simp only [e1,e2,e3]
 exact hX
theorem qsh {a:qd} {k:Int} (h0:0≤k) (h1:k+16*(qeM a:Int)≤1000000000000) (hw:qeM a≤1048576):Mk (fun n=>qh2 n a k) k (qeM a):=by
 simp only [qeM] at h1 hw ⊢
 obtain ⟨k1,x1,q1,l1,u1⟩:=qpq (a:=a.Aa) (k:=k) (by omega) (by omega) (by omega)
 obtain ⟨k2,x2,q2,l2,u2⟩:=qru (a:=a.Ak) (k:=k1) (by omega) (by omega) (by omega)
 obtain ⟨k3,x3,q3,l3,u3⟩:=qtn (a:=a.Aj) (k:=k2) (by omega) (by omega) (by omega)
 refine ⟨k3,(x1,x2,x3),?_,by omega,by omega⟩
 unfold qh2
 exact Ev.bind q1 (Ev.bind q2 (Ev.bind q3 (.done)))
theorem qtm {a:(List qD)} {k:Int} (h0:0≤k) (h1:k+16*(qgh a:Int)≤1000000000000) (hw:qgh a≤1048576):Mk (fun n=>qlf n a k) k (qgh a):=by
 refine qhn (a:=a) (wt:=(fun x:qD=>qfI x)) h0 h1 (Lf:=qdM a) (fun n t k=>by simp only [qdM,ql (je _),cond_false]) (fun x hx k h0 h1=>?_) (by simp only [qgh] at hw;omega) (fun _=>rfl)
 have hs:=qcB (wt:=(fun x:qD=>qfI x)) hx
 have ew:qfI x=qaM x.Am+qaM x.Bw+qaM x.Bs+qaM x.Bl:=rfl
 have hw:a.length+(a.map (fun x:qD=>qfI x)).sum≤1048576:=hw
 simp only [ew] at hs h1 ⊢
 obtain ⟨k1,x1,q1,l1,u1⟩:=qeN (a:=x.Am) (k:=k) (by omega) (by omega) (by omega)
 obtain ⟨k2,x2,q2,l2,u2⟩:=qeN (a:=x.Bw) (k:=k1) (by omega) (by omega) (by omega)
 obtain ⟨k3,x3,q3,l3,u3⟩:=qeN (a:=x.Bs) (k:=k2) (by omega) (by omega) (by omega)
 obtain ⟨k4,x4,q4,l4,u4⟩:=qeN (a:=x.Bl) (k:=k3) (by omega) (by omega) (by omega)
 refine ⟨⟨x1,x2,x3,x4⟩,k4,by omega,by omega,fun t j hb hj ht hx X hX=>?_⟩
 simp only [qdM,qk hj,cond_true,qde hb]
 try simp only [qan hx,jd]
 refine Ev.bind q1 ?_
 refine Ev.bind q2 ?_
 refine Ev.bind q3 ?_
 refine Ev.bind q4 ?_
 exact hX
theorem qtI {a:qg} {k:Int} (h0:0≤k) (h1:k+16*(qf3 a:Int)≤1000000000000) (hw:qf3 a≤1048576):Mk (fun n=>qiX n a k) k (qf3 a):=by
 simp only [qf3] at h1 hw ⊢
 obtain ⟨k1,x1,q1,l1,u1⟩:=qrp (a:=a.Av) (k:=k) (by omega) (by omega) (by omega)
 obtain ⟨k2,⟨x2_0,x2_1,x2_2⟩,q2,l2,u2⟩:=qsh (a:=a.Ab) (k:=k1) (by omega) (by omega) (by omega)
 obtain ⟨k3,x3,q3,l3,u3⟩:=qtm (a:=a.Ac) (k:=k2) (by omega) (by omega) (by omega)
 refine ⟨k3,(x1,x2_0,x2_1,x2_2,x3),?_,by omega,by omega⟩
 unfold qiX
 exact Ev.bind q1 (Ev.bind q2 (Ev.bind q3 (.done)))
theorem qq8 {a:(List qe)} {k:Int} (h0:0≤k) (h1:k+16*(qer a:Int)≤1000000000000) (hw:qer a≤1048576):Mk (fun n=>qje n a k) k (qer a):=by
 rw [show qer a=a.length+(a.map (fun _:qe=>0)).sum by unfold qer;rw [qw8,Ja]] at *
 refine qhn (a:=a) (wt:=(fun _:qe=>0)) h0 h1 (Lf:=qcU a) (fun n t k=>by simp only [qcU,ql (je _),cond_false]) (fun x hx k h0 h1=>?_) (by omega) (fun _=>rfl)
 have hs:=qcB (wt:=(fun _:qe=>0)) hx
 have e1:W64 (k+1)=k+1:=qN (by omega) (by omega)
 have e2:W64 (k+1+1)=k+1+1:=qN (by omega) (by omega)
 have e3:W64 (k+1+1+1)=k+1+1+1:=qN (by omega) (by omega)
 have e4:W64 (k+1+1+1+1)=k+1+1+1+1:=qN (by omega) (by omega)
 have e5:W64 (k+1+1+1+1+1)=k+1+1+1+1+1:=qN (by omega) (by omega)
 refine ⟨⟨k,⟨k+1,k+1+1⟩,⟨k+1+1+1,k+1+1+1+1⟩⟩,k+1+1+1+1+1,by omega,by omega,fun t j hb hj ht hx X hX=>?_⟩
 simp only [qcU,qk hj,cond_true,qde hb]
 try simp only [qan hx,qrU ht,jd,qpr,e1,e2,e3,e4,e5]
 exact hX
theorem qvL {a:qaW} {k:Int} (h0:0≤k) (h1:k+16*(qkd a:Int)≤1000000000000) (hw:qkd a≤1048576):Mk (fun n=>qkr n a k) k (qkd a):=by
 simp only [qkd] at h1 hw ⊢
 obtain ⟨k1,⟨x1_0,x1_1,x1_2,x1_3,x1_4⟩,q1,l1,u1⟩:=qtI (a:=a.Af) (k:=k) (by omega) (by omega) (by omega)
 obtain ⟨k2,x2,q2,l2,u2⟩:=qeN (a:=a.Bi) (k:=k1) (by omega) (by omega) (by omega)
 obtain ⟨k3,x3,q3,l3,u3⟩:=qq8 (a:=a.Ay) (k:=k2) (by omega) (by omega) (by omega)
 refine ⟨k3,(x1_0,x1_1,x1_2,x1_3,x1_4,x2,x3),?_,by omega,by omega⟩
 unfold qkr
 exact Ev.bind q1 (Ev.bind q2 (Ev.bind q3 (.done)))
end Go.Fw


namespace Go.Fw
open Go Go.Proofs
open Go.RowKit (Below)
set_option maxRecDepth 100000
set_option maxHeartbeats 1600000
variable {n:Nat} {w:World} {cs1 cs2 cs3 cs4 cs5 cs6 cs7 cs8 cs9:List Value}
def qeG (n:Nat) (a_0:qaW) (a_1:Int) (a_2:(List Int)) (a_3:Int):Option Bool :=
 bif decide ((a_2.length:Int) > 1048576) then some true else
 (qmM n a_0 1048576).bind fun r1 =>
 bif decide (r1<0) then some true else
 (qid n a_0).bind fun r2 =>
 (qaQ n a_2).bind fun r3 =>
 (qfB n r2 a_1 r3 a_3).bind fun o=>match o with
  | (r5,r6) =>
   (qid n a_0).bind fun r7 =>
   (qaQ n a_2).bind fun r8 =>
   (qd5 n r7 a_1 r8 a_3).bind fun o=>match o with
    | (r10,r11) =>
     (
      (qaO n r10 r5).bind fun r28 =>
      bif (!r28) then some true else
      some (r11 != r6)).bind fun b1 =>
     bif b1 then some false else
     (qid n a_0).bind fun r12 =>
     (qmx n r7 r12).bind fun r13 =>
     bif (!r13) then some false else
     (qaQ n a_2).bind fun r14 =>
     (qaO n r8 r14).bind fun r15 =>
     bif (!r15) then some false else
     (qkr n (⟨(⟨(⟨r7.Af.Av.As⟩:qn),(⟨r7.Af.Ab.Aa,r7.Af.Ab.Ak,r7.Af.Ab.Aj⟩:qd),r7.Af.Ac⟩:qg),(⟨r7.Ah.Bb,r7.Ah.Ar,r7.Ah.Az,r7.Ah.Aq,r7.Ah.Ba⟩:qt),r7.Bi,r7.Ay⟩:qaW) 1).bind fun o=>match o with
      | (r16,_,_,_,_,_,_,_) =>
       (qaC n r8 r16).bind fun o=>match o with
        | (r17,_) =>
         (
          bif decide (r17<0) then some true else
          (qaO n r10 r5).bind fun r27 =>
          bif (!r27) then some true else
          some (r11 != r6)).bind fun b2 =>
         bif b2 then some false else
         (qaC n r10 1).bind fun o=>match o with
          | (r18,x9) =>
           (qgt n x9 1).bind fun r19 =>
           bif decide (r19<0) then some false else
           bif (r19 != r18) then some false else
           (qid n (⟨(⟨(⟨a_0.Af.Av.As⟩:qn),(⟨a_0.Af.Ab.Aa,a_0.Af.Ab.Ak,a_0.Af.Ab.Aj⟩:qd),a_0.Af.Ac⟩:qg),(⟨a_0.Ah.Bb,a_0.Ah.Ar,a_0.Ah.Az,a_0.Ah.Aq,a_0.Ah.Ba⟩:qt),a_0.Bi,a_0.Ay⟩:qaW)).bind fun r20 =>
           (qaQ n a_2).bind fun r21 =>
           (qd5 n r20 a_1 r21 a_3).bind fun o=>match o with
            | (r23,r24) =>
             (
              (qaO n r23 r5).bind fun r26 =>
              bif (!r26) then some true else
              some (r24 != r6)).bind fun b3 =>
             bif b3 then some false else
             (qgt n x9 1).bind fun r25 =>
             bif decide (r25<0) then some false else
             bif (r25 != r18) then some false else
             some true
theorem qjH {a_0:qaW} {a_1:Int} {a_2:(List Int)} {a_3:Int} (ha1:Ro w a_0 cs1) (ha2:Ro w a_2 cs2) {r:Bool} (hF:qeG n a_0 a_1 a_2 a_3=some r):RetV Tryz.prog 8 [GoT.v qaW cs1,.int .i64 a_1,GoT.v (List Int) cs2,.int .i64 a_3] w r:=by
 obtain ⟨p1,k1,p2,k2,p3,k3,p4,k4,p5,k5,p6,k6,p7,k7,rfl,s1,s2,s3,s4,s5,s6,s7⟩:=qcX ha1
 obtain ⟨p8,k8,rfl,s8⟩:=ha2
 refine zV 127 Tryz.func8 rfl fun h=>zSR (qv h rfl rfl fun w1 bb1 h=>X0 9 rfl (qh rfl hF ?_ ?_))<;>intro hF
 ·exact X0 4 rfl (rb h hF rfl)
 refine X1 9 0 h rfl (zcI h hF (qsk (h.old ha1)) rfl fun r1 w2 h hF=>X0 8 rfl (qh rfl hF ?_ ?_))<;>intro hF
 ·exact X0 4 rfl (rb h hF rfl)
 refine X1 4 0 h rfl (zcO h hF (qjB (h.old ha1)) rfl fun r2 w3 S1 cs3 h hF=>?_)
 obtain ⟨p9,k9,p10,k10,p11,k11,p12,k12,p13,k13,p14,k14,p15,k15,rfl,-,-,-,-,-,-,-⟩:=qcX (h.own 0 rfl)
 refine zp2 rfl (zcL h hF (qaH ⟨_,_,rfl,(h.oldS s8)⟩) rfl fun r3 w4 S2 p16 k16 h hF=>zp1 rfl ?_)
 obtain ⟨r4,hr4,hF⟩:=qc hF
 obtain ⟨r5,r6⟩:=r4
 refine qa5 (r5,r6) h (cB 27 rfl) (qmR (h.own 1 rfl) (h.own 0 rfl) hr4) rfl rfl rfl rfl fun w5 S3 us1 hv1 hr5=>?_
 obtain ⟨S4,S5,p17,k17,us2,rfl,hv2,hr6⟩:=hv1.consL hr5
 obtain ⟨rfl,h⟩:=hv2.lastI hr6
 refine X1 9 3 h rfl (zcO h hF (qjB (h.old ha1)) rfl fun r7 w6 S7 cs4 h hF=>?_)
 obtain ⟨p18,k18,p19,k19,p20,k20,p21,k21,p22,k22,p23,k23,p24,k24,rfl,-,-,-,-,-,-,-⟩:=qcX (h.own 0 rfl)
 refine qp qa h rfl rfl rfl fun w7 bb2 h=>zs 0 h rfl fun w8 h=>X0 4 rfl (zcL h hF (qaH ⟨_,_,rfl,(h.oldS s8)⟩) rfl fun r8 w9 S8 p25 k25 h hF=>X1 8 1 h rfl ?_)
 obtain ⟨r9,hr10,hF⟩:=qc hF
 obtain ⟨r10,r11⟩:=r9
 refine qa5 (r10,r11) h (cB 28 rfl) (qit (h.own 2 rfl) (h.own 0 rfl) hr10) rfl rfl rfl rfl fun w10 S9 us3 hv4 hr11=>?_
 obtain ⟨S10,S11,p26,k26,us4,rfl,hv5,hr12⟩:=hv4.consL hr11
 obtain ⟨rfl,h⟩:=hv5.lastI hr12
 refine X0 8 rfl ?_
 obtain ⟨KF3,hKF3,o6,hF,hK3⟩:=bindE hF
 refine qbe (fun e w'=>∃ (b1:Bool),KF3 b1=some r∧e=[(1,.int .i64 a_1),(2,.slice p8 a_2.length k8),(3,.int .i64 a_3),(4,.pointer (some ⟨bb1,0,none⟩)),(10,.slice p17 r5.length k17),(11,.int .i64 r6),(12,.pointer (some ⟨bb2,0,none⟩)),(13,.slice p25 r8.length k25),(14,.slice p26 r10.length k26),(15,.int .i64 r11),(59,.bool b1)]∧SH w w' [Ch.own S10 (r10:List Int) [.slice p26 r10.length k26],Ch.own S8 (r8:List Int) [.slice p25 r8.length k25],Ch.box bb2 (qmC r7 p18 p19 p20 p21 p22 p23 p24 k18 k19 k20 k21 k22 k23 k24) 55,Ch.own S7 (r7:qaW) (qmC r7 p18 p19 p20 p21 p22 p23 p24 k18 k19 k20 k21 k22 k23 k24),Ch.own S4 (r5:List Int) [.slice p17 r5.length k17],Ch.box bb1 (qmC a_0 p1 p2 p3 p4 p5 p6 p7 k1 k2 k3 k4 k5 k6 k7) 38]) ?_ ?_
 ·refine X0 3 rfl (zcB h hF (qaF (h.own 0 rfl) (h.own 4 rfl)) rfl fun r28 w28 h hF=>zp2 rfl (qj (t:=55) hF rfl ?_ ?_))<;>intro hF
  ·refine X0 5 rfl ?_
   replace h:=h.pick [0,1,2,3,4,7] rfl
   obtain rfl:=qb hF
   exact rG ⟨_,hK3,rfl,h⟩ rfl
  refine X0 8 rfl ?_
  replace h:=h.pick [0,1,2,3,4,7] rfl
  obtain rfl:=qb hF
  exact rG ⟨_,hK3,rfl,h⟩ rfl
 rintro e3 w29 ⟨b1,hF,rfl,h⟩
 subst hKF3
 refine qh rfl hF ?_ ?_<;>intro hF
 ·exact X0 4 rfl (rb h hF rfl)
 refine zKSS (rA [] [2,5] h rfl fun w11 h=>M2 3 [0,1] 0 1 (h.pick [2,5] rfl) rfl (Ao 2 7 rfl (zcO h hF (qjB (h.old ha1)) rfl fun r12 w12 S13 cs5 h hF=>?_)))
 obtain ⟨p27,k27,p28,k28,p29,k29,p30,k30,p31,k31,p32,k32,p33,k33,rfl,-,-,-,-,-,-,-⟩:=qcX (h.own 0 rfl)
 refine Ag (h.pick [3,6] rfl) (Ao 3 15 rfl (zcB h hF (qr5 (h.own 4 rfl) (h.own 0 rfl)) rfl fun r13 w13 h hF=>G0 31 [4] (h.pick [3,6] rfl) rfl (Ad (qh rfl hF ?_ ?_))))<;>intro hF
 ·exact X0 4 rfl (rb h hF rfl)
 refine X0 6 rfl (zcL h hF (qaH ⟨_,_,rfl,(h.oldS s8)⟩) rfl fun r14 w14 S14 p34 k34 h hF=>zcB h hF (qaF (h.own 3 rfl) (h.own 0 rfl)) rfl fun r15 w15 h hF=>X0 2 rfl (qh rfl hF ?_ ?_))<;>intro hF
 ·exact X0 4 rfl (rb h hF rfl)
 refine X1 9 4 h rfl ?_
 replace h:=h.pick [5,0,1,2,3,4,6,7] rfl
 obtain ⟨S15,S16,S17,h⟩:=quJ h
 replace h:=h.pick [2,0,1,3,4,5,6,7,8,9] rfl
 obtain ⟨S18,S19,S20,h⟩:=qsa h
 replace h:=h.pick [2,0,1,3,4,5,6,7,8,9,10,11] rfl
 obtain ⟨S21,h⟩:=qrx h
 replace h:=h.pick [2,0,1,3,4,5,6,7,8,9,10,11] rfl
 obtain ⟨S22,S23,S24,h⟩:=qsf h
 replace h:=h.pick [5,6,4,0,1,2,3,9,10,12,13] rfl
 obtain ⟨o1,hr18,hF⟩:=qc hF
 obtain ⟨r16,x1,x2,x3,x4,x5,x6,x7⟩:=o1
 refine qca r16 (cB 22 rfl) (qpR h hr18) rfl rfl rfl rfl ?_
 rintro w16 ⟨S25,S26,S27,S28,S29,S30,S31,h⟩
 replace h:SH _ _ [Ch.own S31 (x7:List qe) [.slice p24 r7.Ay.length k24],Ch.own S30 (x6:List Int) [.slice p23 r7.Bi.length k23],Ch.own S29 (x5:List qD) [.slice p22 r7.Af.Ac.length k22],Ch.own S28 (x4:List qK) [.slice p21 r7.Af.Ab.Aj.length k21],Ch.own S27 (x3:List ByteArray) [.slice p20 r7.Af.Ab.Ak.length k20],Ch.own S26 (x2:List qi) [.slice p19 r7.Af.Ab.Aa.length k19],Ch.own S25 (x1:List qw) [.slice p18 r7.Af.Av.As.length k18],Ch.own S10 (r10:List Int) [.slice p26 r10.length k26],Ch.own S8 (r8:List Int) [.slice p25 r8.length k25],Ch.own S4 (r5:List Int) [.slice p17 r5.length k17],Ch.box bb1 (qmC a_0 p1 p2 p3 p4 p5 p6 p7 k1 k2 k3 k4 k5 k6 k7) 38]:=h
 refine X0 6 rfl ?_
 replace h:=h.pick [8,7,9,10] rfl
 obtain ⟨o2,hr19,hF⟩:=qc hF
 obtain ⟨r17,x8⟩:=o2
 refine qca r17 (cB 23 rfl) (qaD h hr19) rfl rfl rfl rfl ?_
 rintro w17 ⟨S32,h⟩
 replace h:SH _ _ [Ch.own S32 (x8:List Int) [.slice p25 r8.length k25],Ch.own S10 (r10:List Int) [.slice p26 r10.length k26],Ch.own S4 (r5:List Int) [.slice p17 r5.length k17],Ch.box bb1 (qmC a_0 p1 p2 p3 p4 p5 p6 p7 k1 k2 k3 k4 k5 k6 k7) 38]:=h
 refine X0 4 rfl ?_
 obtain ⟨KF2,hKF2,o5,hF,hK2⟩:=bindE hF
 refine qbe (fun e w'=>∃ (b2:Bool),KF2 b2=some r∧e=[(1,.int .i64 a_1),(2,.slice p8 a_2.length k8),(3,.int .i64 a_3),(4,.pointer (some ⟨bb1,0,none⟩)),(10,.slice p17 r5.length k17),(11,.int .i64 r6),(14,.slice p26 r10.length k26),(88,.bool b2)]∧SH w w' [Ch.own S10 (r10:List Int) [.slice p26 r10.length k26],Ch.own S4 (r5:List Int) [.slice p17 r5.length k17],Ch.box bb1 (qmC a_0 p1 p2 p3 p4 p5 p6 p7 k1 k2 k3 k4 k5 k6 k7) 38]) ?_ ?_
 ·refine X0 4 rfl (qj (t:=78) hF rfl ?_ ?_)<;>intro hF
  ·refine X0 11 rfl ?_
   replace h:=h.pick [1,2,3] rfl
   obtain rfl:=qb hF
   exact rG ⟨_,hK2,rfl,h⟩ rfl
  refine X0 5 rfl (zcB h hF (qaF (h.own 1 rfl) (h.own 2 rfl)) rfl fun r27 w26 h hF=>X0 4 rfl (qj (t:=84) hF rfl ?_ ?_))<;>intro hF
  ·refine X0 5 rfl ?_
   replace h:=h.pick [1,2,3] rfl
   obtain rfl:=qb hF
   exact rG ⟨_,hK2,rfl,h⟩ rfl
  refine X0 8 rfl ?_
  replace h:=h.pick [1,2,3] rfl
  obtain rfl:=qb hF
  exact rG ⟨_,hK2,rfl,h⟩ rfl
 rintro e2 w27 ⟨b2,hF,rfl,h⟩
 subst hKF2
 refine qh rfl hF ?_ ?_<;>intro hF
 ·exact X0 4 rfl (rb h hF rfl)
 refine X0 9 rfl ?_
 obtain ⟨o3,hr20,hF⟩:=qc hF
 obtain ⟨r18,x9⟩:=o3
 refine qca r18 (cB 23 rfl) (qaD h hr20) rfl rfl rfl rfl ?_
 rintro w18 ⟨S33,h⟩
 replace h:SH _ _ [Ch.own S33 (x9:List Int) [.slice p26 r10.length k26],Ch.own S4 (r5:List Int) [.slice p17 r5.length k17],Ch.box bb1 (qmC a_0 p1 p2 p3 p4 p5 p6 p7 k1 k2 k3 k4 k5 k6 k7) 38]:=h
 refine X0 10 rfl (zcI h hF (qkN (h.own 0 rfl)) rfl fun r19 w19 h hF=>X0 8 rfl (qh rfl hF ?_ ?_))<;>intro hF
 ·exact X0 4 rfl (rb h hF rfl)
 refine X0 8 rfl (qh rfl hF ?_ ?_)<;>intro hF
 ·exact X0 4 rfl (rb h hF rfl)
 refine X1 4 2 h rfl (zcO h hF (qjB (qyd _ (h.oldS s1) (h.oldS s2) (h.oldS s3) (h.oldS s4) (h.oldS s5) (h.oldS s6) (h.oldS s7))) rfl fun r20 w20 S34 cs6 h hF=>?_)
 obtain ⟨p35,k35,p36,k36,p37,k37,p38,k38,p39,k39,p40,k40,p41,k41,rfl,-,-,-,-,-,-,-⟩:=qcX (h.own 0 rfl)
 refine zp2 rfl (zcL h hF (qaH ⟨_,_,rfl,(h.oldS s8)⟩) rfl fun r21 w21 S35 p42 k42 h hF=>zp1 rfl ?_)
 obtain ⟨r22,hr24,hF⟩:=qc hF
 obtain ⟨r23,r24⟩:=r22
 refine qa5 (r23,r24) h (cB 28 rfl) (qit (h.own 1 rfl) (h.own 0 rfl) hr24) rfl rfl rfl rfl fun w22 S36 us5 hv7 hr25=>?_
 obtain ⟨S37,S38,p43,k43,us6,rfl,hv8,hr26⟩:=hv7.consL hr25
 obtain ⟨rfl,h⟩:=hv8.lastI hr26
 refine X0 8 rfl ?_
 obtain ⟨KF1,hKF1,o4,hF,hK1⟩:=bindE hF
 refine qbe (fun e w'=>∃ (b3:Bool),KF1 b3=some r∧e=[(14,.slice p26 r10.length k26),(17,.int .i64 r18),(118,.bool b3)]∧SH w w' [Ch.own S33 (x9:List Int) [.slice p26 r10.length k26]]) ?_ ?_
 ·refine X0 3 rfl (zcB h hF (qaF (h.own 0 rfl) (h.own 4 rfl)) rfl fun r26 w24 h hF=>zp2 rfl (qj (t:=114) hF rfl ?_ ?_))<;>intro hF
  ·refine X0 5 rfl ?_
   replace h:=h.pick [3] rfl
   obtain rfl:=qb hF
   exact rG ⟨_,hK1,rfl,h⟩ rfl
  refine X0 8 rfl ?_
  replace h:=h.pick [3] rfl
  obtain rfl:=qb hF
  exact rG ⟨_,hK1,rfl,h⟩ rfl
 rintro e1 w25 ⟨b3,hF,rfl,h⟩
 subst hKF1
 refine qh rfl hF ?_ ?_<;>intro hF
 ·exact X0 4 rfl (rb h hF rfl)
 refine X0 9 rfl (zcI h hF (qkN (h.own 0 rfl)) rfl fun r25 w23 h hF=>X0 8 rfl (qh rfl hF ?_ ?_))<;>intro hF
 ·exact X0 4 rfl (rb h hF rfl)
 refine X0 8 rfl (qh rfl hF ?_ ?_)<;>intro hF
 ·exact X0 4 rfl (rb h hF rfl)
 exact X0 5 rfl (rb h hF rfl)
end Go.Fw


namespace Go.Fw
open Go
end Go.Fw


namespace Go.Fw
open Go
set_option maxRecDepth 100000
theorem qlk {j:qaW} {start:Int} {path:(List Int)} {mode:Int} (h0:qqX j) (_h1:rngI start) (h2:(rngL rngI) path) (_h3:rngI mode):Ev (fun n=>qeG n j start path mode) true:=by
 unfold qeG
 refine Ev.bif (fun _=>.done) (fun hl=>?_)
 have hl2:path.length≤1048576:=by have:=of_decide_eq_false hl;omega
 obtain ⟨r1,e1,q1⟩:=qz0 (a:=j) (left:=1048576) h0 (by omega) (by omega)
 refine Ev.bind e1 ?_
 rcases q1 with q1|⟨p1,q1⟩
 ·exact Ev.tt (by simpa using q1) .done
 refine Ev.ff (by simp;omega) ?_
 have w0:qkd j≤1048576:=by omega
 have k0:=qw6 h0 w0
 have w2:qaM path≤1048576:=by unfold qaM;omega
 have k2:=qdx h2 w2
 obtain ⟨⟨R0,R1⟩,hs,hi,v0⟩:=qpm (j:=j) (start:=start) (path:=path) (mode:=mode) k0 k2
 have v0:qaM R0≤1048576:=v0
 refine Ev.bind (qs3 w0) ?_
 refine Ev.bind (qdO w2) ?_
 refine Ev.bind hs ?_
 refine Ev.bind (qs3 w0) ?_
 refine Ev.bind (qdO w2) ?_
 refine Ev.bind hi ?_
 refine Ev.bind (b:=false) (Ev.bind (qdN v0) (Ev.ff rfl (Ev.now (by simp)))) (Ev.ff rfl ?_)
 refine Ev.bind (qs3 w0) ?_
 refine Ev.bind (qzF w0) (Ev.ff rfl ?_)
 refine Ev.bind (qdO w2) ?_
 refine Ev.bind (qdN w2) (Ev.ff rfl ?_)
 obtain ⟨m1,⟨x1_0,x1_1,x1_2,x1_3,x1_4,x1_5,x1_6⟩,mk1,ml1,mu1⟩:=qvL (a:=j) (k:=1) (by omega) (by omega) w0
 refine Ev.bind mk1 ?_
 obtain ⟨m2,x2_0,mk2,ml2,mu2⟩:=qeN (a:=path) (k:=m1) (by omega) (by omega) w2
 refine Ev.bind mk2 ?_
 refine Ev.bind (b:=false) (Ev.ff (by simp;omega) (Ev.bind (qdN v0) (Ev.ff rfl (Ev.now (by simp))))) (Ev.ff rfl ?_)
 have hh1:=qyR (k:=1) (m:=R0.length) (by omega) (by omega) v0
 refine Ev.bind (qrT (by omega) (by omega) v0) ?_
 refine Ev.bind hh1 (Ev.ff (by simp;omega) (Ev.ff qaP ?_))
 refine Ev.bind (qs3 w0) ?_
 refine Ev.bind (qdO w2) ?_
 refine Ev.bind hi ?_
 refine Ev.bind (b:=false) (Ev.bind (qdN v0) (Ev.ff rfl (Ev.now (by simp)))) (Ev.ff rfl ?_)
 refine Ev.bind hh1 (Ev.ff (by simp;omega) (Ev.ff qaP ?_))
 exact .done
end Go.Fw
