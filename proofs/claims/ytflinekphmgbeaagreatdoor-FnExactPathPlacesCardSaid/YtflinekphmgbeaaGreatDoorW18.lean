/- Plain laws: the delay and the slew of a link. -/
import Derived.Test.YtflinekphmgbeaaGreatDoorW8
import Derived.Test.YtflinekphmgbeaaGreatDoorB9
import Derived.Test.YtflinekphmgbeaaGreatDoorFw38
open Option renaming bind_some → jd
open Nat renaming le_refl → je, mul_le_mul_right → js, le_of_ble_eq_true → ju, lt_of_lt_of_le → jx, succ_mul → jJ, zero_add → Ja, add_zero → Jb
open Bool renaming and_eq_true → jf, eq_iff_iff → jm, true_and → jA, not_eq_true' → jI, not_true → Jc
open Go.Result renaming andThen_ok → jg
open List renaming length_append → jh, getElem?_eq_getElem → ji, mem_cons_of_mem → jo, getElem_mem → jp, append_assoc → jq, getElem?_append_left → jr, length_singleton → jt, take_succ_eq_append_getElem → jv, getElem?_append_right → jw, mem_cons_self → jy, length_map → jz, getElem?_take → jB, getD_eq_getElem?_getD → jC, take_length → jD, getElem?_toArray → jE, drop_eq_getElem_cons → jF, eq_nil_of_length_eq_zero → jH, map_append → jK, all_eq_true → jL, not_mem_nil → jN, getElem_of_mem → jO, length_replicate → jP, size_toArray → jQ, length_take → jS, mem_cons → jU, getElem?_map → jV, append_nil → jY, ext_getElem → jZ
open Go.Sem renaming run_bind → jj, run_pure → jk
open Int renaming toNat_natCast → jn, tdiv_eq_ediv_of_nonneg → jG, mul_nonneg → jR, mul_assoc → jT, mul_le_mul → jW, le_refl → jX
open Array renaming getElem?_append_left → jM

namespace Go.Fw
open Go
set_option maxRecDepth 100000
theorem qs4 {α:Type} {f:Nat→List α} {n:Nat} {x:α} (h:x ∈ fm f n):∃ j,j<n∧x ∈ f j:=by
 unfold fm at h
 obtain ⟨j,h1,h2⟩:=List.mem_flatMap.1 h
 exact ⟨j,List.mem_range.1 h1,h2⟩
theorem qvP {x:Int} {j:Nat} {t:Int} (ht:b01 t) (hj:j≤100000) (e:x=2*(j:Int)+t):W64 (x.tdiv 2)=(j:Int)∧x.tmod 2=t:=by
 have ht':0≤t∧t≤1:=by rcases ht with e|e<;>omega
 have hx:0≤x:=by omega
 rw [jG hx,Int.tmod_eq_emod_of_nonneg hx,qN (by omega) (by omega)]
 omega
structure CLk (b:qg) (x:qt) (i j m net a:Nat):Prop where
 kind:x.Be=1
 il:i<b.Ab.Aa.length
 jl:j<(places b.Ab).length
 inst:(gt (places b.Ab) j).instance_=(i:Int)
 net_:(gt (places b.Ab) j).net=(net:Int)
 nl:net<b.Ac.length
 half:W64 (x.To.tdiv 2)=(j:Int)
 mod:x.To.tmod 2=(m:Int)
 ml:m<2
 ix:x.Bz=(a:Int)
 al:a<(cellAt b (i:Int)).Au.length
 d2:(gt (cellAt b (i:Int)).Au a).Bn.length=2
 s2:(gt (cellAt b (i:Int)).Au a).Bc.length=2
 dt:∀ t,t ∈ (gt (cellAt b (i:Int)).Au a).Bn→TbOk t∧∀ k,0≤at0 t.Bh k
 st:∀ t,t ∈ (gt (cellAt b (i:Int)).Au a).Bc→TbOk t∧∀ k,0≤at0 t.Bh k
structure WLk (b:qg) (x:qt) (j net k:Nat):Prop where
 kind:x.Be=2
 jl:j<(places b.Ab).length
 net_:(gt (places b.Ab) j).net=(net:Int)
 nl:net<b.Ac.length
 half:W64 (x.To.tdiv 2)=(j:Int)
 ix:x.Bz=(k:Int)
 kl:k<(gt b.Ac net).Bl.length
theorem qzv {xs:List Int} (h:0≤mnL xs) (k:Nat):0≤at0 xs k:=by
 have fold:∀ (ys:List Int) (a:Int),(ys.foldl (fun (m y:Int)=>if y<m then y else m) a≤a)∧∀ y,y ∈ ys→ys.foldl (fun (m y:Int)=>if y<m then y else m) a≤y:=by
  intro ys
  induction ys with
  | nil=>intro a;exact ⟨jX _,fun y hy=>by cases hy⟩
  | cons z ys ih =>
   intro a
   rw [List.foldl_cons]
   obtain ⟨h1,h2⟩:=ih (if z<a then z else a)
   refine ⟨?_,fun y hy=>?_⟩
   ·split at h1<;>split<;>omega
   ·rcases List.mem_cons.1 hy with e|e
    ·subst e;split at h1<;>split<;>omega
    ·exact h2 y e
 by_cases hk:k<xs.length
 ·have hm:xs[k] ∈ xs.drop 1∨k=0:=by
   by_cases h0:k=0
   ·exact .inr h0
   ·refine .inl ?_
    have:xs[k]=(xs.drop 1)[k-1]'(by rw [List.length_drop];omega):=by
     rw [List.getElem_drop]
     congr 1;omega
    rw [this]
    exact jp _
  rw [qk8 hk]
  unfold mnL at h
  rcases hm with hm|h0
  ·exact Int.le_trans h ((fold _ _).2 _ hm)
  ·subst h0
   have:=(fold (xs.drop 1) (at0 xs 0)).1
   rw [←qk8 hk]
   exact Int.le_trans h this
 ·rw [qvF hk];exact jX _
theorem qrp {ts:List qr} (h:tablesB ts true=true):ts.length=2∧∀ t,t ∈ ts→TbOk t∧∀ k,0≤at0 t.Bh k:=by
 unfold tablesB at h
 rw [jf,decide_eq_true_eq,jL] at h
 refine ⟨h.1,fun t ht=>?_⟩
 have:=h.2 t ht
 unfold tabB at this
 simp only [Jc,Bool.false_or,jf,decide_eq_true_eq] at this
 exact ⟨qwv this.1,qzv this.2⟩
theorem qva {ps:List qal} {a:qF} (h:arcS ps a=true) (h3:a.Be≤3) (h1:1≤a.Be):a.To=(ps.length:Int)-1∧tablesB a.Bn true=true∧tablesB a.Bc true=true:=by
 unfold arcS at h
 rcases (by omega:a.Be=1∨a.Be=2∨a.Be=3) with e|e|e
 ·rw [e] at h
  simp only [beq_self_eq_true,cond_true,jf,beq_iff_eq] at h
  exact ⟨h.2.2.1,h.2.2.2.2⟩
 ·rw [e] at h
  simp only [show ((2:Int)==1)=false from rfl,cond_false,beq_self_eq_true,Bool.true_or,cond_true,jf,beq_iff_eq] at h
  exact ⟨h.2.2.1,h.2.2.2.2⟩
 ·rw [e] at h
  simp only [show ((3:Int)==1)=false from rfl,cond_false,beq_self_eq_true,Bool.or_true,cond_true,jf,beq_iff_eq] at h
  exact ⟨h.2.2.1,h.2.2.2.2⟩
theorem quk {a:qF} {t:qO} (h:t ∈ transL a):1≤a.Be∧a.Be≤3:=by
 refine ⟨?_,?_⟩<;>refine Int.le_of_not_gt fun hg=>?_
 ·have:arcLs 0 0 a=[]:=by
   unfold arcLs transL
   rw [show (a.Be==2)=false from beq_eq_false_iff_ne.2 (by omega),show (a.Be==3)=false from beq_eq_false_iff_ne.2 (by omega),show (a.Be != 1)=true from bne_iff_ne.2 (by omega)]
   rfl
  unfold arcLs at this
  rw [List.map_eq_nil_iff] at this
  rw [this] at h;cases h
 ·have:arcLs 0 0 a=[]:=qp8 hg
  unfold arcLs at this
  rw [List.map_eq_nil_iff] at this
  rw [this] at h;cases h
theorem qic {b:qg} (h:blockB b=true) {x:qt} (hx:x ∈ linksL b):((∃ i j m net a,CLk b x i j m net a)∨∃ j net k,WLk b x j net k)∧(0≤x.Bk∧x.Bk<2*((places b.Ab).length:Int))∧(0≤x.To∧x.To<2*((places b.Ab).length:Int)):=by
 have hd:=qaB h
 have hs:=qad hd
 have hl:=qbg hs
 have hwl:=qmp h
 unfold linksL at hx
 rcases List.mem_append.1 hx with hx|hx
 ·obtain ⟨i,hi,hx⟩:=qs4 hx
  obtain ⟨a,ha,hx⟩:=qs4 hx
  unfold arcLs at hx
  obtain ⟨t,ht,rfl⟩:=List.mem_map.1 hx
  obtain ⟨⟨c0,c1⟩,hnl,hcb⟩:=qhk hd hi
  have hcA:cellAt b (i:Int)=gt b.Av.Ar (gt b.Ab.Aa i).Bt.toNat:=rfl
  rw [←hcA] at hnl hcb
  obtain ⟨⟨k1,k5⟩,hf,hto,hA⟩:=qnp hcb ha
  obtain ⟨g1,g3⟩:=quk ht
  obtain ⟨t0,t1⟩:=qsF ht
  obtain ⟨eT,tD,tS⟩:=qva hA g3 g1
  obtain ⟨d2,dt⟩:=qrp tD
  obtain ⟨s2,st⟩:=qrp tS
  have hpb:=(qg5 (qi7 hcb)).1
  have hk:(cellAt b (i:Int)).Bd.length-1<(gt b.Ab.Aa i).Ak.length:=by omega
  obtain ⟨hj,ej⟩:=qkw hi hk
  obtain ⟨n0,n1⟩:=qmB hd hj
  have e1:(al1 (off b.Ab i:Int) a (gt (cellAt b (i:Int)).Au a) t).To=2*((off b.Ab i+((cellAt b (i:Int)).Bd.length-1):Nat):Int)+t.e1:=by
   show 2*((off b.Ab i:Int)+(gt (cellAt b (i:Int)).Au a).To)+t.e1=_
   rw [eT];omega
  obtain ⟨hh,hm⟩:=qvP t1 (by omega) e1
  obtain ⟨m,em⟩:∃ m:Nat,t.e1=(m:Int):=⟨t.e1.toNat,by rcases t1 with e|e<;>omega⟩
  have hfr:off b.Ab i+(gt (cellAt b (i:Int)).Au a).Bk.toNat<(places b.Ab).length:=(qkw hi (k:=(gt (cellAt b (i:Int)).Au a).Bk.toNat) (by omega)).1
  have e2:(al1 (off b.Ab i:Int) a (gt (cellAt b (i:Int)).Au a) t).Bk=2*((off b.Ab i:Int)+(gt (cellAt b (i:Int)).Au a).Bk)+t.e0:=rfl
  refine ⟨.inl ⟨i,_,m,(gt (places b.Ab) (off b.Ab i+((cellAt b (i:Int)).Bd.length-1))).net.toNat,a,⟨rfl,hi,hj,by rw [ej];rfl,qeH n0,by omega,hh,by rw [hm,em],by rcases t1 with e|e<;>omega,rfl,ha,d2,s2,dt,st⟩⟩,?_,?_⟩
  ·rw [e2]
   rcases t0 with e|e<;>rw [e]<;>omega
  ·rw [e1]
   rcases t1 with e|e<;>rw [e]<;>omega
 ·obtain ⟨i,hi,hx⟩:=qs4 hx
  obtain ⟨k,hk,hx⟩:=qs4 hx
  obtain ⟨y,hy,ey,hq⟩:=qpl hk
  have hdv:=(qjR hd (k:=i) (by omega)).1
  have hw:=qbu h hi
  have hq':(gt (places b.Ab) y).net=(i:Int):=by
   unfold snkQ at hq
   simp only [jf,beq_iff_eq] at hq
   exact hq.1
  have main:∀ t:Int,b01 t→x=⟨2*(dvN b.Ab i:Int)+t,2*at0 (skL b i) k+t,2,(k:Int)⟩→((∃ i j m net a,CLk b x i j m net a)∨∃ j net k,WLk b x j net k)∧(0≤x.Bk∧x.Bk<2*((places b.Ab).length:Int))∧(0≤x.To∧x.To<2*((places b.Ab).length:Int)):=by
   intro t ht e
   have e1:x.To=2*(y:Int)+t:=by rw [e,ey]
   have e2:x.Bk=2*(dvN b.Ab i:Int)+t:=by rw [e]
   obtain ⟨hh,hm⟩:=qvP ht (by omega) e1
   refine ⟨.inr ⟨y,i,k,⟨by rw [e],hy,hq',hi,hh,by rw [e],by rw [hw.snk];exact hk⟩⟩,?_,?_⟩
   ·rw [e2]
    rcases ht with e|e<;>rw [e]<;>omega
   ·rw [e1]
    rcases ht with e|e<;>rw [e]<;>omega
  unfold wl1 at hx
  simp only [jU,jN,or_false] at hx
  rcases hx with hx|hx
  ·exact main 0 (.inl rfl) (by rw [hx,Int.add_zero,Int.add_zero])
  ·exact main 1 (.inr rfl) hx
theorem qmy {α:Type} [Inhabited α] {xs:List α} {k:Nat} (h:k<xs.length):gt xs k ∈ xs:=by rw [qe3 h];exact jp h
theorem ql0 {b:qg} (h:blockB b=true):LkOk (linksL b) (2*(places b.Ab).length) where
 len:=qia h
 nodes:=by have:=qbg (qad (qaB h));omega
 fr0:=fun x hx=>(qic h (qmy hx)).2.1.1
 fr1:=fun x hx=>by have:=(qic h (qmy hx)).2.1.2;omega
 to0:=fun x hx=>(qic h (qmy hx)).2.2.1
 to1:=fun x hx=>by have:=(qic h (qmy hx)).2.2.2;omega
theorem qsj {c:qu} (h:cornerB c=true) {kind mode:Int}:∃ f:Int,100≤f∧f≤5000∧(∀ n,qgR n c kind mode=some f)∧∀ n,qeB n c kind mode=some f:=by
 unfold cornerB at h
 simp only [jf,qbd,decide_eq_true_eq] at h
 obtain ⟨⟨h1,h2,h3,h4⟩,_⟩:=h
 unfold qgR qeB
 cases kind==1
 ·cases mode==0
  ·exact ⟨_,h4.1,h4.2,fun _=>rfl,fun _=>rfl⟩
  ·exact ⟨_,h3.1,h3.2,fun _=>rfl,fun _=>rfl⟩
 ·cases mode==0
  ·exact ⟨_,h2.1,h2.2,fun _=>rfl,fun _=>rfl⟩
  ·exact ⟨_,h1.1,h1.2,fun _=>rfl,fun _=>rfl⟩
theorem qtT {p f mode:Int} (p0:0≤p) (p1:p≤400000000000) (f0:0≤f) (f1:f≤5000):(∀ n,qct n (W64 (p*f)) 1000 mode=some (divI (p*f) 1000 mode))∧∀ n,qkY n p f mode=some (divI (p*f) 1000 mode):=by
 have h0:=jR p0 f0
 have h1:p*f≤400000000000*5000:=jW p1 f1 f0 (by omega)
 have e:W64 (p*f)=p*f:=qN (by omega) (by omega)
 have hd:=fun n=>qk2 (n:=n) (a:=p*f) (b:=1000) (mode:=mode) (by omega) (by omega) (by omega)
 refine ⟨fun n=>by rw [e];exact hd n,fun n=>?_⟩
 unfold qkY
 rw [e,qsU (m:=0),hd 0]
 rfl
theorem qxV {l h H:Int} (h0:0≤l) (h1:l<h) (h2:h≤H) (hH:H≤3000000000):W64 (W64 (W64 (l+h)+1) |>.tdiv 2)=(l+h+1) / 2∧W64 ((l+h+1) / 2*((l+h+1) / 2))=(l+h+1) / 2*((l+h+1) / 2)∧W64 ((l+h+1) / 2-1)=(l+h+1) / 2-1:=by
 have hm:0≤(l+h+1) / 2∧(l+h+1) / 2≤3000000000:=by omega
 have hq:(l+h+1) / 2*((l+h+1) / 2)≤3000000000*3000000000:=jW hm.2 hm.2 hm.1 (by omega)
 have hq0:=jR hm.1 hm.1
 rw [wO (l+h),wO (l+h+1),jG (by omega),wO ((l+h+1) / 2),wO ((l+h+1) / 2-1)]
 exact ⟨rfl,qN (by omega) (by omega),rfl⟩
theorem qxT {y mode:Int} (h0:0≤y) (h1:y≤4000000000000000000):∃ v,IsRoot y v∧v≤2000000000∧Ev (fun n=>qir n y mode) (if mode=1∧v*v<y then v+1 else v):=by
 obtain ⟨v,r1,r2,r3⟩:=qsr (Lf:=fun n l h=>qdN y n l h) (fin:=fun l=>(l,l)) (x:=y) (H:=2000000000) h0 (by omega) (by omega)
  (fun n l _ _=>by simp only [qdN,show decide (l<l)=false from decide_eq_false (Int.lt_irrefl l),cond_false])
  (fun n l h hl hlt hh=>by
   obtain ⟨e1,e2,e3⟩:=qxV hl hlt hh (by omega)
   simp only [qdN,decide_eq_true hlt,cond_true,e1,e2,e3])
 refine ⟨v,r1,r2,?_⟩
 unfold qir
 refine Ev.bind r3 ?_
 have hv:=r1.pos
 have hq:v*v≤2000000000*2000000000:=jW r2 r2 hv (by omega)
 have hq0:=jR hv hv
 simp only [wO (v*v),wO (v+1)]
 by_cases hm:mode=1
 ·refine Ev.tt (by simpa using hm) ?_
  by_cases hl:v*v<y
  ·rw [if_pos ⟨hm,hl⟩];exact Ev.tt (decide_eq_true hl) .done
  ·rw [if_neg fun h=>hl h.2];exact Ev.ff (decide_eq_false hl) .done
 ·rw [if_neg fun h=>hm h.1]
  exact Ev.ff (by simpa using hm) .done
theorem qxE {y:Int} (h0:0≤y) (h1:y≤4000000000000000000):∃ v,IsRoot y v∧v≤3000000000∧Ev (fun n=>qnT n y) v:=by
 obtain ⟨v,r1,r2,r3⟩:=qsr (Lf:=fun n l h=>qgd y n l h) (fin:=fun l=>(l,l)) (x:=y) (H:=3000000000) h0 (by omega) (by omega)
  (fun n l _ _=>by simp only [qgd,show decide (l<l)=false from decide_eq_false (Int.lt_irrefl l),cond_false])
  (fun n l h hl hlt hh=>by
   obtain ⟨e1,e2,e3⟩:=qxV hl hlt hh (by omega)
   simp only [qgd,decide_eq_true hlt,cond_true,e1,e2,e3])
 refine ⟨v,r1,r2,?_⟩
 unfold qnT
 exact Ev.bind r3 .done
theorem qvU {sl d mode:Int} (s0:0≤sl) (s1:sl≤1000000) (d0:0≤d) (d1:d≤344000000) (hm:mode=0∨mode=1):∃ r:Int,0≤r ∧
  Ev (fun n=>(qir n (W64 (W64 (W64 (1000000*sl)*sl)+W64 (W64 (4*d)*d))) mode).bind fun r2=>(qct n r2 1000 mode).bind fun r3=>some r3) r∧Ev (fun n=>qjt n sl d mode) r:=by
 have q1:=jR s0 s0
 have q2:sl*sl≤1000000*1000000:=jW s1 s1 s0 (by omega)
 have q3:=jR d0 d0
 have q4:d*d≤344000000*344000000:=jW d1 d1 d0 (by omega)
 have e1:W64 (W64 (W64 (1000000*sl)*sl)+W64 (W64 (4*d)*d))=4*(250000*(sl*sl)+d*d):=by
  rw [wO (1000000*sl),wO (4*d),jT 1000000,jT 4,wO (1000000*(sl*sl)),wO (4*(d*d)),qN (by omega) (by omega)]
  omega
 have e2:W64 (W64 (W64 (W64 (500*sl)*500)*sl)+W64 (d*d))=250000*(sl*sl)+d*d:=by
  rw [wO (500*sl),wO (500*sl*500),show 500*sl*500*sl=250000*(sl*sl) by rw [←jT];congr 1;omega,wO (250000*(sl*sl)),wO (d*d),qN (by omega) (by omega)]
 obtain ⟨v,v1,v2,v3⟩:=qxT (mode:=mode) (y:=4*(250000*(sl*sl)+d*d)) (by omega) (by omega)
 obtain ⟨w,w1,w2,w3⟩:=qxE (y:=250000*(sl*sl)+d*d) (by omega) (by omega)
 have hr:=quT w1 v1 hm
 have hv:=v1.pos
 have hw:=w1.pos
 have hv1:0≤(if mode=1∧v*v<4*(250000*(sl*sl)+d*d) then v+1 else v)∧(if mode=1∧v*v<4*(250000*(sl*sl)+d*d) then v+1 else v)≤1000*3000000:=by split<;>omega
 refine ⟨_,(qs6 (b:=1000) (mode:=mode) (M:=3000000) (by omega) hv1.1 hv1.2).1,?_,?_⟩
 ·rw [e1]
  exact Ev.bind v3 (Ev.bind ⟨0,fun n _=>qk2 (by omega) (by omega) (by omega)⟩ .done)
 ·rw [hr]
  unfold qjt
  rw [e2]
  refine Ev.bind w3 ?_
  have hq:w*w≤3000000000*3000000000:=jW w2 w2 hw (by omega)
  have hq0:=jR hw hw
  have ed:(fun n=>qfg n w 500 mode)=fun _=>some (divI w 500 mode):=by
   funext n
   rw [qsU (m:=0),qk2 (by omega) (by omega) (by omega)]
  have hdv:=congrFun ed
  simp only [wO (w*w),jG hw,wO (w / 500),wO (w / 500+1),hdv,jd]
  rcases hm with rfl|rfl
  ·rw [if_neg (by omega)]
   exact .done
  ·by_cases hl:w*w<250000*(sl*sl)+d*d
   ·rw [if_pos ⟨rfl,hl⟩,decide_eq_true hl];exact .done
   ·rw [if_neg fun h=>hl h.2,decide_eq_false hl];exact .done
theorem qub {t:qr} (h:TbOk t∧∀ k,0≤at0 t.Bh k) (sl ld mode:Int):∃ r:Int,0≤r∧r≤1000000∧Ev (fun n=>qhi n t sl ld mode) r∧Ev (fun n=>qdJ n t sl ld mode) r:=by
 obtain ⟨S,D,D0,S1,_,_,_,S0,hev⟩:=qyN h.1 sl ld
 obtain ⟨r0,r1⟩:=qs6 (mode:=mode) D0 (S0 h.2) S1
 exact ⟨_,r0,r1,hev mode⟩
theorem qu9 {b:qg} {ex:List Int} {x:qt} {j net:Nat} (jl:j<(places b.Ab).length) (hn:(gt (places b.Ab) j).net=(net:Int)) (hh:W64 (x.To.tdiv 2)=(j:Int)) (n:Nat):qeZ n (some (viewE b ex)) x=some (net:Int):=by
 unfold qeZ
 show (idx (places b.Ab) (W64 (x.To.tdiv 2))).bind _=_
 rw [hh,qA jl]
 exact congrArg some hn
theorem qxd {b:qg} {ex:List Int} (h:blockB b=true) {x:qt} {i j m net a:Nat} (hx:CLk b x i j m net a) (n:Nat):qgs n (some (viewE b ex)) x=some (gt (cellAt b (i:Int)).Au a):=by
 obtain ⟨⟨c0,c1⟩,_,_⟩:=qhk (qaB h) hx.il
 unfold qgs
 show (idx (places b.Ab) (W64 (x.To.tdiv 2))).bind (fun y2=>(idx b.Ab.Aa y2.instance_).bind fun y3=>(idx b.Av.Ar y3.Bt).bind fun y4=>(idx y4.Au x.Bz).bind fun y5=>some y5)=_
 rw [hx.half,qA hx.jl,jd,hx.inst,qA hx.il,jd,qdu c0 c1,jd,hx.ix]
 show (idx (cellAt b (i:Int)).Au (a:Int)).bind _=_
 rw [qA hx.al];rfl
theorem qss {b:qg} (h:blockB b=true) {x:qt} {i j m net a:Nat} (hx:CLk b x i j m net a):Ev (fun n=>qjG n b x) (gt (cellAt b (i:Int)).Au a,load0 b net):=by
 have hd:=qaB h
 have hs:=qad hd
 obtain ⟨⟨c0,c1⟩,_,_⟩:=qhk hd hx.il
 have hp:idx ((places b.Ab).map toSp) (j:Int)=some (toSp (gt (places b.Ab) j)):=by
  refine qan ?_
  rw [jV,ji hx.jl,qe3 hx.jl];rfl
 have hll:=qmu h hx.nl
 have hlo:=(qbu h hx.nl).lo
 have h1:(toSp (gt (places b.Ab) j)).instance_=(i:Int):=hx.inst
 have h2:(toSp (gt (places b.Ab) j)).net=(net:Int):=hx.net_
 have h3:idx (gt b.Av.Ar (gt b.Ab.Aa i).Bt.toNat).Au (a:Int)=some (gt (cellAt b (i:Int)).Au a):=qA hx.al
 unfold qjG
 refine Ev.bind (qib hs) ?_
 simp only [hx.half,hp,jd,h1,h2,qA hx.il,qdu c0 c1,hx.ix,h3]
 refine Ev.bind (qp5 h hx.nl) ?_
 rw [show idx (loadsL b net) (0:Int)=some (load0 b net) from qA (j:=0) (by omega)]
 exact .done
theorem qsR {b:qg} (h:blockB b=true) {x:qt} {j net k:Nat} (hx:WLk b x j net k):Ev (fun n=>qjF n b x) (net:Int):=by
 have hs:=qad (qaB h)
 have hp:idx ((places b.Ab).map toSp) (j:Int)=some (toSp (gt (places b.Ab) j)):=by
  refine qan ?_
  rw [jV,ji hx.jl,qe3 hx.jl];rfl
 have h2:(toSp (gt (places b.Ab) j)).net=(net:Int):=hx.net_
 unfold qjF
 refine Ev.bind (qib hs) ?_
 simp only [hx.half,hp,jd,h2]
 exact .done
theorem qtu {b:qg} {c:qu} (ex:List Int) (h:blockB b=true) (hc:cornerB c=true) {k:Nat} (hk:k<(linksL b).length) {sl mode:Int} (s0:0≤sl) (s1:sl≤1000000) (hm:mode=0∨mode=1) :
  (∃ D:Int,Ev (fun n=>qdp n b c (gt (linksL b) k) sl mode) D∧Ev (fun n=>qcj n (some (viewE b ex)) c (k:Int) sl mode) D) ∧
  ∃ S:Int,0≤S∧S≤1000000∧Ev (fun n=>qd7 n b (gt (linksL b) k) sl mode) S∧Ev (fun n=>qbh n (some (viewE b ex)) (k:Int) sl mode) S:=by
 have hv:idx (viewE b ex).links (k:Int)=some (gt (linksL b) k):=qA hk
 obtain ⟨hx,_⟩:=qic h (qmy hk)
 generalize gt (linksL b) k=x at hx hv
 rcases hx with ⟨i,j,m,net,a,hx⟩|⟨j,net,q,hx⟩
 ·have hnet:=qu9 (ex:=ex) hx.jl hx.net_ hx.half
  have harc:=qxd (ex:=ex) h hx
  have hld:idx (viewE b ex).loads (net:Int)=some (load0 b net):=qiU (f:=load0 b) hx.nl
  obtain ⟨f,f0,f1,sF,iF⟩:=qsj hc (kind:=x.Be) (mode:=mode)
  have dl:m<(gt (cellAt b (i:Int)).Au a).Bn.length:=by rw [hx.d2];exact hx.ml
  have sL:m<(gt (cellAt b (i:Int)).Au a).Bc.length:=by rw [hx.s2];exact hx.ml
  obtain ⟨r,r0,r1,rs,ri⟩:=qub (hx.dt _ (qmy dl)) sl (load0 b net) mode
  obtain ⟨u,u0,u1,us,ui⟩:=qub (hx.st _ (qmy sL)) sl (load0 b net) mode
  obtain ⟨c1,c2⟩:=qtT (mode:=mode) r0 (by omega) (show 0≤f by omega) f1
  have hk1:(x.Be==1)=true:=by rw [hx.kind];rfl
  refine ⟨⟨divI (r*f) 1000 mode,?_,?_⟩,⟨u,u0,u1,?_,?_⟩⟩
  ·unfold qdp
   refine Ev.tt hk1 (Ev.bind (qss h hx) ?_)
   simp only [hx.mod,qA dl,jd,sF]
   exact Ev.bind rs (Ev.bind ⟨0,fun n _=>c1 n⟩ .done)
  ·unfold qcj
   simp only [jd,hv,hnet,hld,harc,hx.mod,qA dl,iF]
   exact Ev.tt hk1 (Ev.bind ri (Ev.bind ⟨0,fun n _=>c2 n⟩ .done))
  ·unfold qd7
   refine Ev.tt hk1 (Ev.bind (qss h hx) ?_)
   simp only [hx.mod,qA sL,jd]
   exact Ev.bind us .done
  ·unfold qbh
   simp only [jd,hv,hnet,hld,harc,hx.mod,qA sL]
   refine Ev.tt hk1 (Ev.bind ui (Ev.now ?_))
   rw [if_neg (by omega)]
 ·have hnet:=qu9 (ex:=ex) hx.jl hx.net_ hx.half
  have hde:idx (viewE b ex).delays (net:Int)=some (exactL b net):=qiU (f:=exactL b) hx.nl
  have hel:(exactL b net).length=(gt b.Ac net).Bl.length:=by unfold exactL;rw [jz]
  have hq:q<(exactL b net).length:=by rw [hel];exact hx.kl
  obtain ⟨x0,x1⟩:=qrC h hx.nl hx.kl
  obtain ⟨f,f0,f1,sF,iF⟩:=qsj hc (kind:=x.Be) (mode:=mode)
  have dd:=fun n=>qk2 (n:=n) (a:=gt (exactL b net) q) (b:=1000) (mode:=mode) (by omega) (by omega) (by omega)
  obtain ⟨p0,p1⟩:=qs6 (a:=gt (exactL b net) q) (b:=1000) (mode:=mode) (M:=344000) (by omega) x0 (by omega)
  obtain ⟨c1,c2⟩:=qtT (mode:=mode) p0 (by omega) (show 0≤f by omega) f1
  have hk1:(x.Be==1)=false:=by rw [hx.kind];rfl
  have hi:idx ((exactL b net).map fun x=>divI x 1000 mode) (q:Int)=some (divI (gt (exactL b net) q) 1000 mode):=by
   rw [qA (by rw [jz];exact hq),qpR hq]
  obtain ⟨u,u0,us,ui⟩:=qvU s0 s1 x0 x1 hm
  refine ⟨⟨divI (divI (gt (exactL b net) q) 1000 mode*f) 1000 mode,?_,?_⟩,⟨if u<1000000 then u else 1000000,by split<;>omega,by split<;>omega,?_,?_⟩⟩
  ·unfold qdp
   refine Ev.ff hk1 (Ev.bind (qsR h hx) (Ev.bind (qpu h hx.nl) ?_))
   simp only [hx.ix,hi,jd,sF]
   exact Ev.bind ⟨0,fun n _=>c1 n⟩ .done
  ·unfold qcj
   simp only [jd,hv,hnet,hde,hx.ix,qA hq,iF]
   refine Ev.ff hk1 (Ev.bind (b:=divI (gt (exactL b net) q) 1000 mode) ⟨0,fun n _=>(qsU (m:=0)).trans (dd 0)⟩ (Ev.bind ⟨0,fun n _=>c2 n⟩ .done))
  ·have hw:=qbu h hx.nl
   have hsn:=hw.sin q hx.kl
   have hdl:=qnj h hx.nl
   have eg:gt (exactL b net) q=gt (delaysL b net) (at0 (gt b.Ac net).Bl q).toNat:=by
    unfold exactL
    rw [qe3 (by rw [jz];exact hx.kl),List.getElem_map,qk8 hx.kl]
   unfold qd7 qml
   refine Ev.ff hk1 (Ev.bind (qsR h hx) ?_)
   simp only [hx.ix,qA hx.nl,jd,qak hx.kl]
   refine Ev.bind (b:=u) (Ev.bind (qpb h hx.nl) ?_) .done
   rw [qdu hsn.1 (show at0 (gt b.Ac net).Bl q<((delaysL b net).length:Int) by omega)]
   simp only [jd]
   rw [←eg]
   exact us
  ·unfold qbh
   simp only [jd,hv,hnet,hde,hx.ix,qA hq]
   refine Ev.ff hk1 (Ev.bind ui (Ev.now ?_))
   congr 1
   split<;>split<;>omega
theorem qqM {b:qg} {c:qu} (h:blockB b=true) (hc:cornerB c=true) {k:Nat} (hk:k<(linksL b).length) {sl mode:Int} (s0:0≤sl) (s1:sl≤1000000) (hm:mode=0∨mode=1) :
  (∃ D:Int,Ev (fun n=>qdp n b c (gt (linksL b) k) sl mode) D∧∀ ex,Ev (fun n=>qcj n (some (viewE b ex)) c (k:Int) sl mode) D) ∧
  ∃ S:Int,0≤S∧S≤1000000∧Ev (fun n=>qd7 n b (gt (linksL b) k) sl mode) S∧∀ ex,Ev (fun n=>qbh n (some (viewE b ex)) (k:Int) sl mode) S:=by
 obtain ⟨⟨D,d1,_⟩,⟨S,a,c',s1',_⟩⟩:=qtu [] h hc hk s0 s1 hm
 refine ⟨⟨D,d1,fun ex=>?_⟩,⟨S,a,c',s1',fun ex=>?_⟩⟩
 ·obtain ⟨⟨D',e1,e2⟩,_⟩:=qtu ex h hc hk s0 s1 hm
  rw [d1.uniq e1];exact e2
 ·obtain ⟨_,⟨S',_,_,e1,e2⟩⟩:=qtu ex h hc hk s0 s1 hm
  rw [s1'.uniq e1];exact e2
end Go.Fw


namespace Go.Fw
open Go
set_option maxRecDepth 100000
def slR (s:qf):Prop:=(0≤s.Aq∧s.Aq≤1000000)∧(0≤s.Bf∧s.Bf≤1000000)
def SpansS (b:qg) (c:qu) (f:Nat→qf→qf × qf):Prop:=∀ k s,k<(linksL b).length→slR s→slR (f k s).2∧Ev (fun n=>qhT n b c (gt (linksL b) k) s) (f k s)
def SpansI (b:qg) (c:qu) (ex:List Int) (f:Nat→qf→qf × qf):Prop:=∀ k s,k<(linksL b).length→slR s→slR (f k s).2∧Ev (fun n=>qgm n (some (viewE b ex)) c (k:Int) s) (f k s)
def exK (b:qg) (ex:List Int) (k:Nat):Int:=bif (gt (linksL b) k).Be==2 then gt ex (gt (places b.Ab) ((gt (linksL b) k).To / 2).toNat).net.toNat else 0
def wideS (e:Int) (s:qf):qf:=⟨W64 (s.Aq-e),W64 (s.Bf+e)⟩
def wideF (b:qg) (ex:List Int) (f:Nat→qf→qf × qf) (k:Nat) (s:qf):qf × qf:=bif decide (0<ex.length)&&((gt (linksL b) k).Be==2) then (wideS (exK b ex k) (f k s).1,(f k s).2) else f k s
theorem qxM {b:qg} {c:qu} (h:blockB b=true) (hc:cornerB c=true):∃ f,SpansS b c f∧∀ ex:List Int,ex.length=0∨ex.length=b.Ac.length→SpansI b c ex (wideF b ex f):=by
 have main:∀ x:Nat × qf,∃ r:qf × qf,x.1<(linksL b).length→slR x.2→slR r.2∧Ev (fun n=>qhT n b c (gt (linksL b) x.1) x.2) r∧∀ ex:List Int,ex.length=0∨ex.length=b.Ac.length→Ev (fun n=>qgm n (some (viewE b ex)) c (x.1:Int) x.2) (wideF b ex (fun _ _=>r) x.1 x.2):=by
  rintro ⟨k,s⟩
  by_cases hk:k<(linksL b).length∧slR s
  ·obtain ⟨hk,⟨e0,e1⟩,⟨l0,l1⟩⟩:=hk
   obtain ⟨⟨d1,p1,q1⟩,⟨u1,a1,b1,v1,w1⟩⟩:=qqM h hc hk e0 e1 (mode:=0) (.inl rfl)
   obtain ⟨⟨d2,p2,q2⟩,⟨u2,a2,b2,v2,w2⟩⟩:=qqM h hc hk e0 e1 (mode:=1) (.inr rfl)
   obtain ⟨⟨d3,p3,q3⟩,⟨u3,a3,b3,v3,w3⟩⟩:=qqM h hc hk l0 l1 (mode:=0) (.inl rfl)
   obtain ⟨⟨d4,p4,q4⟩,⟨u4,a4,b4,v4,w4⟩⟩:=qqM h hc hk l0 l1 (mode:=1) (.inr rfl)
   refine ⟨(⟨if d3<d1 then d3 else d1,if d4 > d2 then d4 else d2⟩,⟨if u3<u1 then u3 else u1,if u4 > u2 then u4 else u2⟩),fun _ _=>⟨⟨?_,?_⟩,?_,fun ex hex=>?_⟩⟩
   ·show 0≤(if u3<u1 then u3 else u1)∧(if u3<u1 then u3 else u1)≤1000000
    split<;>omega
   ·show 0≤(if u4 > u2 then u4 else u2)∧(if u4 > u2 then u4 else u2)≤1000000
    split<;>omega
   ·unfold qhT
    exact Ev.bind p1 (Ev.bind p2 (Ev.bind v1 (Ev.bind v2 (Ev.bind p3 (Ev.bind p4 (Ev.bind v3 (Ev.bind v4 .done)))))))
   ·unfold qgm
    refine Ev.bind (q1 ex) (Ev.bind (q3 ex) (Ev.bind (q2 ex) (Ev.bind (q4 ex) ?_)))
    have hv:idx (viewE b ex).links (k:Int)=some (gt (linksL b) k):=qA hk
    have hx:(viewE b ex).extras=ex:=rfl
    simp only [jd,hv,hx]
    unfold wideF
    have fin:∀ r:Int × Int,Ev (fun n=>(qbh n (some (viewE b ex)) (k:Int) s.Aq 0).bind fun r5=>(qbh n (some (viewE b ex)) (k:Int) s.Bf 0).bind fun r6=>(qbh n (some (viewE b ex)) (k:Int) s.Aq 1).bind fun r7=>(qbh n (some (viewE b ex)) (k:Int) s.Bf 1).bind fun r8 =>
      some ((⟨r.1,r.2⟩:qf),(⟨if r6<r5 then r6 else r5,if r8 > r7 then r8 else r7⟩:qf))) ((⟨r.1,r.2⟩:qf),(⟨if u3<u1 then u3 else u1,if u4 > u2 then u4 else u2⟩:qf)):=fun r=>Ev.bind (w1 ex) (Ev.bind (w3 ex) (Ev.bind (w2 ex) (Ev.bind (w4 ex) .done)))
    rw [show decide ((ex.length:Int) > 0)=decide (0<ex.length) by rw [decide_eq_decide];omega]
    cases hl:decide (0<ex.length)
    ·exact Ev.bind (b:=false) (Ev.now rfl) (Ev.bind (b:=(if d3<d1 then d3 else d1,if d4 > d2 then d4 else d2)) (Ev.now rfl) (fin _))
    ·cases hkd:(gt (linksL b) k).Be==2
     ·exact Ev.bind (b:=false) (Ev.now rfl) (Ev.bind (b:=(if d3<d1 then d3 else d1,if d4 > d2 then d4 else d2)) (Ev.now rfl) (fin _))
     ·obtain ⟨hcs,_⟩:=qic h (qmy hk)
      rcases hcs with ⟨i,j,m,net,a,hx⟩|⟨j,net,q,hx⟩
      ·rw [hx.kind] at hkd;cases hkd
      ·have hn:=qu9 (ex:=ex) hx.jl hx.net_ hx.half
       have hlt:net<ex.length:=by
        have:=of_decide_eq_true hl
        have:=hx.nl
        omega
       have hT:=(qic h (qmy hk)).2.2
       have hpl:=qbg (qad (qaB h))
       have ej:((gt (linksL b) k).To / 2).toNat=j:=by
        have:=hx.half
        rw [jG hT.1,qN (by omega) (by omega)] at this
        omega
       have eK:exK b ex k=gt ex net:=by
        unfold exK
        rw [hkd,ej,hx.net_,jn]
        rfl
       refine Ev.bind (b:=true) (Ev.now rfl) (Ev.bind (b:=(W64 ((if d3<d1 then d3 else d1)-gt ex net),W64 ((if d4 > d2 then d4 else d2)+gt ex net))) ?_ ?_)
       ·simp only [hn,jd,qA hlt]
        exact .done
       ·rw [eK]
        exact fin _
  ·exact ⟨(s,s),fun h1 h2=>absurd ⟨h1,h2⟩ hk⟩
 obtain ⟨f,hf⟩:=Classical.axiomOfChoice main
 exact ⟨fun k s=>f (k,s),fun k s h1 h2=>⟨(hf (k,s) h1 h2).1,(hf (k,s) h1 h2).2.1⟩,fun ex hex k s h1 h2=>⟨by
  have:=(hf (k,s) h1 h2).1
  unfold wideF
  cases decide (0<ex.length)&&((gt (linksL b) k).Be==2)<;>exact this,(hf (k,s) h1 h2).2.2 ex hex⟩⟩
theorem qwL {b:qg} {f:Nat→qf→qf × qf}:wideF b [] f=f:=rfl
def zSp:qf:=⟨0,0⟩
def zSrc:qe:=⟨0,zSp,zSp⟩
def hullS (s t:qf):qf:=⟨if t.Aq<s.Aq then t.Aq else s.Aq,if t.Bf > s.Bf then t.Bf else s.Bf⟩
theorem qsD {s t:qf}:(⟨if s.Aq<t.Aq then s.Aq else t.Aq,if s.Bf > t.Bf then s.Bf else t.Bf⟩:qf)=hullS s t:=by
 unfold hullS
 congr 1
 ·split<;>split<;>omega
 ·split<;>split<;>omega
def plusS (s t:qf):qf:=⟨W64 (s.Aq+t.Aq),W64 (s.Bf+t.Bf)⟩
def joinS (node:Int) (s:Bool × qe) (ar sl:qf):Bool × qe:=bif s.1 then (true,⟨node,hullS s.2.Ai ar,hullS s.2.Bc sl⟩) else (true,⟨node,ar,sl⟩)
def frN (ls:List qt) (k:Nat):Nat:=(gt ls k).Bk.toNat
def stepS (f:Nat→qf→qf × qf) (ls:List qt) (t:qy) (node:Int) (s:Bool × qe) (k:Nat):Bool × qe :=
 bif gt t.Bg (frN ls k) then joinS node s (plusS (gt t.Ai (frN ls k)) (f k (gt t.Bc (frN ls k))).1) (f k (gt t.Bc (frN ls k))).2 else s
def toQ (ls:List qt) (lv:List Bool) (node:Int) (k:Nat):Bool:=lvL lv k&&(toL ls k==node)
def srcO (xs:List qe) (node:Int):Option qe:=xs.find? fun s=>s.Bq==node
def srcV (o:Option qe):Bool × qe:=match o with|some y=>(true,y)|none=>(false,zSrc)
def ndS (f:Nat→qf→qf × qf) (ls:List qt) (lv:List Bool) (t:qy) (node:Int) (s0:Bool × qe):Nat→Bool × qe
 | 0=>s0
 | k+1=>bif toQ ls lv node k then stepS f ls t node (ndS f ls lv t node s0 k) k else ndS f ls lv t node s0 k
theorem qxU {f:Nat→qf→qf × qf} {ls:List qt} {lv:List Bool} {t:qy} {node:Int} {s0:Bool × qe} {j:Nat}:(selN (toQ ls lv node) j).foldl (stepS f ls t node) s0=ndS f ls lv t node s0 j:=by
 induction j with
 | zero=>rfl
 | succ j ih =>
  rw [qnR,List.foldl_append,ih]
  show _=bif toQ ls lv node j then stepS f ls t node (ndS f ls lv t node s0 j) j else ndS f ls lv t node s0 j
  cases toQ ls lv node j<;>rfl
structure TmOk (t:qy) (M:Nat):Prop where
 r:t.Bg.length=M
 a:t.Ai.length=M
 s:t.Bc.length=M
 sl:∀ k,k<M→slR (gt t.Bc k)
structure SrcOk (xs:List qe):Prop where
 len:xs.length≤1048576
 inc:∀ j i,i<j→j<xs.length→(gt xs i).Bq<(gt xs j).Bq
 sl:∀ x,x ∈ xs→slR x.Bc
theorem qtL {xs:List qe} {node:Int} (hl:xs.length≤1048576):Ev (fun n=>qgy n xs node) ((srcV (srcO xs node)).2,(srcV (srcO xs node)).1):=by
 have h1:Ev (fun n=>qaJ n xs node) (ixL (fun s=>s.Bq==node) xs) :=
  qfO (fin:=(xs.length:Int)) (Lf:=qT xs node) (xs:=xs) (pf:=fun n x=>qj6 n x node) (fun _ _=>.done)
   (fun n=>by simp only [qT,ql (je _),cond_false])
   (fun n j x hx=>by
    have hj:=(List.getElem?_eq_some_iff.1 hx).1
    simp only [qT,qj hj,cond_true,qan hx,jd,wS j])
   (fun n=>by unfold qaJ;congr 1;funext o;cases o<;>rfl)
 unfold qgy
 refine Ev.bind h1 ?_
 unfold ixL srcO
 cases hf:xs.findIdx? (fun s=>s.Bq==node) with
 | none =>
  have:xs.find? (fun s=>s.Bq==node)=none:=by
   rw [List.find?_eq_none]
   intro x hx
   have:=List.findIdx?_eq_none_iff.1 hf x hx
   simpa using this
  rw [this]
  exact Ev.ff rfl .done
 | some j =>
  obtain ⟨hj,hp,hn⟩:=List.findIdx?_eq_some_iff_getElem.1 hf
  have:xs.find? (fun s=>s.Bq==node)=some xs[j]:=by
   rw [List.find?_eq_some_iff_getElem]
   exact ⟨hp,j,hj,rfl,fun i hi=>by have:=hn i hi;simpa using this⟩
  rw [this]
  refine Ev.tt (show decide ((j:Int) ≥ 0)=true from decide_eq_true (by omega)) ?_
  show Ev (fun n=>(idx xs (j:Int)).bind _) _
  rw [qgS hj]
  exact .done
theorem qnG {xs:List qe} {node:Int} {y:qe} (h:srcO xs node=some y):y.Bq=node∧y ∈ xs:=by
 have h1:=List.find?_some h
 exact ⟨by simpa using h1,List.mem_of_find?_eq_some h⟩
theorem qy1 {xs:List qe} {node:Int} (h:SrcOk xs) :
  Ev (fun n=>qc4 xs node n 0 0 0 0 0 false 0) ((srcV (srcO xs node)).2.Bq,(srcV (srcO xs node)).2.Ai.Aq,(srcV (srcO xs node)).2.Ai.Bf,(srcV (srcO xs node)).2.Bc.Aq,(srcV (srcO xs node)).2.Bc.Bf,(srcV (srcO xs node)).1,(xs.length:Int)):=by
 have hl:=h.len
 have:=loopF (τ:=Bool × qe) (Lf:=fun n s j=>qc4 xs node n s.2.Bq s.2.Ai.Aq s.2.Ai.Bf s.2.Bc.Aq s.2.Bc.Bf s.1 j) (S:=fun j=>srcV (srcO (xs.take j) node)) (len:=xs.length)
  (fin:=((srcV (srcO xs node)).2.Bq,(srcV (srcO xs node)).2.Ai.Aq,(srcV (srcO xs node)).2.Ai.Bf,(srcV (srcO xs node)).2.Bc.Aq,(srcV (srcO xs node)).2.Bc.Bf,(srcV (srcO xs node)).1,(xs.length:Int)))
  (fun n=>by simp only [qc4,ql (je _),cond_false,jD])
  (fun j hj X hX=>by
   simp only [qc4,qj hj,cond_true,qA hj,jd,wS j]
   have e:srcO (xs.take (j+1)) node=(srcO (xs.take j) node).or (bif (gt xs j).Bq==node then some (gt xs j) else none):=by
    unfold srcO
    rw [jv hj,List.find?_append,←qe3 hj]
    congr 1
   cases hq:(gt xs j).Bq==node
   ·rw [hq] at e
    have e:srcO (xs.take (j+1)) node=srcO (xs.take j) node:=by rw [e];cases srcO (xs.take j) node<;>rfl
    rw [e] at hX
    exact hX
   ·rw [hq] at e
    have hn:srcO (xs.take j) node=none:=by
     unfold srcO
     rw [List.find?_eq_none]
     intro x hx hxn
     obtain ⟨i,hi,rfl⟩:=List.mem_iff_getElem.1 hx
     rw [jS] at hi
     rw [List.getElem_take,←qe3 (by omega)] at hxn
     have:=h.inc j i (by omega) hj
     simp only [beq_iff_eq] at hq hxn
     omega
    have e:srcO (xs.take (j+1)) node=some (gt xs j):=by rw [e,hn];rfl
    rw [e] at hX
    exact hX)
 exact this
theorem quS {ls:List qt} {M:Nat} (h:LkOk ls M) {k:Nat} (hk:k<ls.length):(gt ls k).Bk=(frN ls k:Int)∧frN ls k<M:=by
 have h0:=h.fr0 k hk
 have h1:=h.fr1 k hk
 unfold frN
 omega
section
variable {b:qg} {c:qu} {ex:List Int} {f:Nat→qf→qf × qf} {lv:List Bool} {t:qy} {xs:List qe} {node:Int}
theorem qxm (h:blockB b=true) (hf:SpansS b c f) (hl:lv.length=(linksL b).length) (ht:TmOk t (2*(places b.Ab).length)) (hx:SrcOk xs) :
  Ev (fun n=>qiv n b c (linksL b) lv xs t node) (ndS f (linksL b) lv t node (srcV (srcO xs node)) (linksL b).length):=by
 have hk:=ql0 h
 have hkl:=hk.len
 have hL:=loopF (τ:=Bool × qe) (Lf:=fun n s j=>qcY b c (linksL b) lv t node n s.2.Bq s.2.Ai.Aq s.2.Ai.Bf s.2.Bc.Aq s.2.Bc.Bf s.1 j) (S:=fun j=>ndS f (linksL b) lv t node (srcV (srcO xs node)) j) (len:=(linksL b).length)
  (fin:=(fun s:Bool × qe=>(s.2.Bq,s.2.Ai.Aq,s.2.Ai.Bf,s.2.Bc.Aq,s.2.Bc.Bf,s.1,((linksL b).length:Int))) (ndS f (linksL b) lv t node (srcV (srcO xs node)) (linksL b).length))
  (fun n=>by simp only [qcY,ql (je _),cond_false])
  (fun j hj X hX=>by
   obtain ⟨e1,e2⟩:=quS hk hj
   have eN:ndS f (linksL b) lv t node (srcV (srcO xs node)) (j+1)=bif toQ (linksL b) lv node j then stepS f (linksL b) t node (ndS f (linksL b) lv t node (srcV (srcO xs node)) j) j else ndS f (linksL b) lv t node (srcV (srcO xs node)) j:=rfl
   rw [eN] at hX
   generalize ndS f (linksL b) lv t node (srcV (srcO xs node)) j=s at hX ⊢
   simp only [qcY,qj hj,cond_true,qA hj,qA (show j<lv.length by omega),jd,e1,qA (show frN (linksL b) j<t.Bg.length by rw [ht.r];exact e2),qA (show frN (linksL b) j<t.Ai.length by rw [ht.a];exact e2),qA (show frN (linksL b) j<t.Bc.length by rw [ht.s];exact e2),wS j]
   unfold toQ lvL toL at hX
   cases h1:gt lv j
   ·rw [h1] at hX;exact hX
   rw [h1,jA] at hX
   cases h2:(gt (linksL b) j).To==node
   ·rw [h2] at hX
    simp only [bne,h2]
    exact hX
   rw [h2] at hX
   simp only [bne,h2]
   unfold stepS at hX
   cases h3:gt t.Bg (frN (linksL b) j)
   ·rw [h3] at hX;exact hX
   rw [h3] at hX
   simp only [cond_true] at hX
   obtain ⟨_,s1⟩:=hf j _ hj (ht.sl _ e2)
   refine Ev.bind (b:=false) (Ev.now rfl) (Ev.ff rfl (Ev.bind s1 ?_))
   generalize f j (gt t.Bc (frN (linksL b) j))=q at hX ⊢
   unfold joinS at hX
   cases h4:s.1
   ·rw [h4] at hX;exact hX
   ·rw [h4] at hX
    simp only [qkl,jd,cond_true]
    have a1:=qsD (s:=s.2.Ai) (t:=plusS (gt t.Ai (frN (linksL b) j)) q.1)
    have a2:=qsD (s:=s.2.Bc) (t:=q.2)
    simp only [cond_true] at hX
    rw [←a1,←a2] at hX
    exact hX)
 unfold qiv
 exact Ev.bind (qy1 hx) (Ev.bind hL .done)
theorem qzZ {ls:List qt} {M:Nat} {ps:List Tplace} {lo:List Int} {de:List (List Int)} {ex:List Int} (h:LkOk ls M) (hl:lv.length=ls.length):Ev (fun n=>qjB n (grV ls lv ps b lo de ex) node) (ints (selN (toQ ls lv node) ls.length)):=by
 have hll:=h.len
 have hL:Ev (fun n=>qK node ⟨some ⟨b,ps,ls,lo,de,ex⟩,lv⟩ ⟨b,ps,ls,lo,de,ex⟩ n ([]:List Int) 0) (ints (selN (toQ ls lv node) ls.length),(ls.length:Int)):=by
  refine qpS (q:=toQ ls lv node) (Lf:=qK node ⟨some ⟨b,ps,ls,lo,de,ex⟩,lv⟩ ⟨b,ps,ls,lo,de,ex⟩) (len:=ls.length) (by omega) (Ev.succ ?_) (fun j hj t ht X h1 h2=>?_)
  ·simp only [qK,ql (je _),cond_false];exact .done
  ·simp only [qK,qj hj,cond_true,qA hj,qA (show j<lv.length by omega),jd,qj4,ht,wS j]
   unfold toQ lvL toL at h1 h2
   cases hq:gt lv j
   ·simp only [cond_false];exact h2 (by rw [hq];rfl)
   ·simp only [cond_true]
    cases hw:(gt ls j).To==node
    ·simp only [cond_false];exact h2 (by rw [hq,hw];rfl)
    ·simp only [cond_true];exact h1 (by rw [hq,hw];rfl)
 unfold qjB qcB grV
 simp only [jd]
 exact Ev.bind (Ev.bind hL .done) .done
def fixS (node:Int) (s:Bool × qe):Bool × qe:=bif s.1 then s else (false,⟨node,zSp,zSp⟩)
theorem qxA (h:blockB b=true) (hf:SpansI b c ex f) (hl:lv.length=(linksL b).length) (ht:TmOk t (2*(places b.Ab).length)) (hx:xs.length≤1048576) :
  Ev (fun n=>qdz n (some ⟨some (viewE b ex),lv⟩) c xs t node) (ndS f (linksL b) lv t node (srcV (srcO xs node)) (linksL b).length):=by
 have hk:=ql0 h
 have hkl:=hk.len
 have hsel:=qoB (q:=toQ (linksL b) lv node) (j:=(linksL b).length)
 have hnd:∀ j,(ndS f (linksL b) lv t node (srcV (srcO xs node)) j).1=true→(ndS f (linksL b) lv t node (srcV (srcO xs node)) j).2.Bq=node:=by
  intro j
  induction j with
  | zero =>
   show (srcV (srcO xs node)).1=true→(srcV (srcO xs node)).2.Bq=node
   cases hs:srcO xs node with
   | none=>intro e;cases e
   | some y=>exact fun _=>(qnG hs).1
  | succ j ih =>
   unfold ndS
   cases toQ (linksL b) lv node j
   ·exact ih
   ·simp only [cond_true]
    unfold stepS
    cases gt t.Bg (frN (linksL b) j)
    ·exact ih
    ·simp only [cond_true]
     unfold joinS
     cases (ndS f (linksL b) lv t node (srcV (srcO xs node)) j).1<;>exact fun _=>rfl
 have hz:∀ j,(ndS f (linksL b) lv t node (srcV (srcO xs node)) j).1=false→(ndS f (linksL b) lv t node (srcV (srcO xs node)) j).2=zSrc:=by
  intro j
  induction j with
  | zero =>
   show (srcV (srcO xs node)).1=false→(srcV (srcO xs node)).2=zSrc
   cases srcO xs node with
   | none=>exact fun _=>rfl
   | some y=>intro e;cases e
  | succ j ih =>
   unfold ndS
   cases toQ (linksL b) lv node j
   ·exact ih
   ·simp only [cond_true]
    unfold stepS
    cases gt t.Bg (frN (linksL b) j)
    ·exact ih
    ·simp only [cond_true]
     unfold joinS
     cases (ndS f (linksL b) lv t node (srcV (srcO xs node)) j).1<;>(intro e;cases e)
 have fl:∀ (l:List Nat) (s:Bool × qe),(∀ k,k ∈ l→toQ (linksL b) lv node k=true)→l.foldl (fun s k=>fixS node (stepS f (linksL b) t node s k)) (fixS node s)=fixS node (l.foldl (stepS f (linksL b) t node) s):=by
  intro l
  induction l with
  | nil=>intro s _;rfl
  | cons k l ih =>
   intro s hq
   have e:fixS node (stepS f (linksL b) t node (fixS node s) k)=fixS node (stepS f (linksL b) t node s k):=by
    unfold stepS
    obtain ⟨s1,s2⟩:=s
    cases gt t.Bg (frN (linksL b) k)<;>cases s1<;>rfl
   rw [List.foldl_cons,List.foldl_cons,e]
   exact ih _ fun k' hk'=>hq k' (jo _ hk')
 have hL:=(qwy (τ:=Bool × qe) (xs:=selN (toQ (linksL b) lv node) (linksL b).length) (Lf:=fun n s j=>qbq (some ⟨some (viewE b ex),lv⟩) c t (ints (selN (toQ (linksL b) lv node) (linksL b).length)) n s.1 s.2.Bq s.2.Ai.Aq s.2.Ai.Bf s.2.Bc.Aq s.2.Bc.Bf j)
  (step:=fun s k=>fixS node (stepS f (linksL b) t node s k)) (fin:=fun s=>(s.1,s.2.Bq,s.2.Ai.Aq,s.2.Ai.Bf,s.2.Bc.Aq,s.2.Bc.Bf,((ints (selN (toQ (linksL b) lv node) (linksL b).length)).length:Int))) (fixS node (srcV (srcO xs node))) (fun _ s=>s=fixS node s∧s.2.Bq=node) (by
   constructor
   ·unfold fixS
    cases hs:(srcV (srcO xs node)).1
    ·rfl
    ·simp only [hs,cond_true]
   ·unfold fixS
    cases hs:srcO xs node with
    | none=>rfl
    | some y=>exact (qnG hs).1)
  (fun j s hj hs=>by
   obtain ⟨h1,h2⟩:=hs
   have key:(stepS f (linksL b) t node s (selN (toQ (linksL b) lv node) (linksL b).length)[j]).2.Bq=node:=by
    unfold stepS
    cases gt t.Bg (frN (linksL b) (selN (toQ (linksL b) lv node) (linksL b).length)[j])
    ·exact h2
    ·unfold joinS
     cases s.1<;>rfl
   constructor
   ·unfold fixS
    cases hs:(stepS f (linksL b) t node s (selN (toQ (linksL b) lv node) (linksL b).length)[j]).1
    ·rfl
    ·simp only [hs,cond_true]
   ·unfold fixS
    cases hs:(stepS f (linksL b) t node s (selN (toQ (linksL b) lv node) (linksL b).length)[j]).1
    ·rfl
    ·exact key)
  (fun n s=>by simp only [qbq,qdX,ql (je _),cond_false])
  (fun j s hj hs X hX=>by
   obtain ⟨hfx,hsn⟩:=hs
   have hi:=qpa hj
   have hm:(selN (toQ (linksL b) lv node) (linksL b).length)[j]<(linksL b).length:=(qo1.1 (jp hj)).1
   generalize (selN (toQ (linksL b) lv node) (linksL b).length)[j]=k at hi hm hX
   obtain ⟨e1,e2⟩:=quS hk hm
   have hv:idx (viewE b ex).links (k:Int)=some (gt (linksL b) k):=qA hm
   simp only [qbq,qdX,qj hj,cond_true,hi,hv,jd,e1,qA (show frN (linksL b) k<t.Bg.length by rw [ht.r];exact e2),qA (show frN (linksL b) k<t.Ai.length by rw [ht.a];exact e2),qA (show frN (linksL b) k<t.Bc.length by rw [ht.s];exact e2),wS j]
   unfold stepS at hX
   cases h3:gt t.Bg (frN (linksL b) k)
   ·rw [h3] at hX
    simp only [cond_false] at hX
    rw [←hfx] at hX
    exact hX
   rw [h3] at hX
   simp only [cond_true] at hX ⊢
   obtain ⟨_,s1⟩:=hf k _ hm (ht.sl _ e2)
   refine Ev.bind s1 ?_
   generalize f k (gt t.Bc (frN (linksL b) k))=q at hX ⊢
   simp only [qk1,jd]
   unfold joinS at hX
   unfold qfA
   cases h4:s.1
   ·rw [h4] at hX
    simp only [Bool.not_false,cond_true,jd]
    unfold fixS at hX
    simp only [cond_false,cond_true] at hX
    rw [hsn]
    exact hX
   ·rw [h4] at hX
    simp only [Jc,cond_false,qiP,jd]
    unfold fixS at hX
    simp only [cond_true] at hX
    rw [hsn]
    exact hX)).1
 rw [fl _ _ (fun k hk'=>(qo1.1 hk').2),qxU] at hL
 unfold qdz
 refine Ev.bind (qtL hx) ?_
 have e0:(bif (srcV (srcO xs node)).1 then (qfA 0 ⟨node,⟨0,0⟩,⟨0,0⟩⟩ false ⟨(srcV (srcO xs node)).2.Ai.Aq,(srcV (srcO xs node)).2.Ai.Bf⟩ ⟨(srcV (srcO xs node)).2.Bc.Aq,(srcV (srcO xs node)).2.Bc.Bf⟩).bind (fun o=>match o with|(x9,x10)=>some (x10,x9.Bq,x9.Ai.Aq,x9.Ai.Bf,x9.Bc.Aq,x9.Bc.Bf)) else some (false,node,(0:Int),(0:Int),(0:Int),(0:Int))) =
   some ((fixS node (srcV (srcO xs node))).1,(fixS node (srcV (srcO xs node))).2.Bq,(fixS node (srcV (srcO xs node))).2.Ai.Aq,(fixS node (srcV (srcO xs node))).2.Ai.Bf,(fixS node (srcV (srcO xs node))).2.Bc.Aq,(fixS node (srcV (srcO xs node))).2.Bc.Bf):=by
  cases hs:srcO xs node with
  | none=>rfl
  | some y =>
   have:=(qnG hs).1
   unfold fixS srcV
   simp only [cond_true,this]
   rfl
 refine Ev.bindN e0 (Ev.bind (qzZ (ps:=places b.Ab) (lo:=pre (load0 b) b.Ac.length) (de:=pre (exactL b) b.Ac.length) (ex:=ex) hk hl) (Ev.bind hL ?_))
 have z:=hz (linksL b).length
 generalize ndS f (linksL b) lv t node (srcV (srcO xs node)) (linksL b).length=s at z ⊢
 unfold fixS
 obtain ⟨s1,s2⟩:=s
 cases s1
 ·have:=z rfl
  simp only at this
  subst this
  exact .done
 ·exact .done
end
end Go.Fw


namespace Go.Fw
open Go
set_option maxRecDepth 100000
theorem qne {b:qg} (h:blockB b=true):Ev (fun n=>qgC n b) ((2*(places b.Ab).length:Nat):Int):=by
 have hs:=qad (qaB h)
 have hl:=qbg hs
 unfold qgC
 refine Ev.bind (b:=(places b.Ab).map toSp) (qib hs) (Ev.now ?_)
 rw [jz,qN (by omega) (by omega)]
 rfl
theorem qqZ {v:Tview} (hl:v.places.length≤78) (n:Nat):qch n (some v)=some ((2*v.places.length:Nat):Int):=by
 unfold qch qd2
 simp only [jd]
 rw [qN (by omega) (by omega)]
 rfl
def stepN (xs:List qe) (j:Nat):Bool:=decide (j=0) || decide ((gt xs (j-1)).Bq<(gt xs j).Bq)
def srcB (xs:List qe) (M:Nat):Bool:=allN (fun j=>inI (gt xs j).Bq 0 ((M:Int)-1)&&(stepN xs j&&(spanB (gt xs j).Ai&&slewB (gt xs j).Bc))) xs.length
theorem qrx {xs:List qe} {j:Nat} (h:j ≠ 0):stepN xs j=decide ((gt xs (j-1)).Bq<(gt xs j).Bq):=by unfold stepN;rw [decide_eq_false h,Bool.false_or]
theorem qr8 {b:qg} {xs:List qe} (h:blockB b=true) (hl:xs.length≤1048576):Ev (fun n=>qgn n b xs) (srcB xs (2*(places b.Ab).length)):=by
 have hpl:=qbg (qad (qaB h))
 have e:=qne h
 obtain ⟨M,eM⟩:∃ M,M=2*(places b.Ab).length:=⟨_,rfl⟩
 rw [←eM] at e ⊢
 have hM:M≤156:=by omega
 have hL:Ev (fun n=>qbM xs (M:Int) n 0) (bif srcB xs M then .nxt (xs.length:Int) else .ret false):=by
  refine qeK (Lf:=qbM xs (M:Int)) (len:=xs.length) (Ev.succ (by simp only [qbM,ql (je _),cond_false];exact .done)) (fun j hj X hX=>Ev.succ ?_)
  simp only [qbM,qj hj,cond_true,qA hj,jd,qcK,qrL,quF,wS j,wO ((M:Int)-1)]
  cases inI (gt xs j).Bq 0 ((M:Int)-1)
  ·exact .done
  refine Ev.ff rfl ?_
  by_cases h0:j=0
  ·subst h0
   refine Ev.ff rfl ?_
   show Ev _ (bif (stepN xs 0&&_) then X else _)
   rw [show stepN xs 0=true from rfl]
   show Ev (fun n=>bif !spanB (gt xs 0).Ai then _ else bif !slewB (gt xs 0).Bc then _ else _) _
   cases spanB (gt xs 0).Ai
   ·exact .done
   ·cases slewB (gt xs 0).Bc
    ·exact .done
    ·exact hX
  ·refine Ev.tt (decide_eq_true (by omega)) ?_
   rw [show (j:Int)-1=((j-1:Nat):Int) by omega,qN (by omega) (by omega),qA (show j-1<xs.length by omega),qrx h0]
   simp only [jd]
   by_cases hlt:(gt xs (j-1)).Bq<(gt xs j).Bq
   ·rw [decide_eq_true hlt]
    refine Ev.ff (decide_eq_false (by omega)) ?_
    show Ev (fun n=>bif !spanB (gt xs j).Ai then _ else bif !slewB (gt xs j).Bc then _ else _) _
    cases spanB (gt xs j).Ai
    ·exact .done
    ·cases slewB (gt xs j).Bc
     ·exact .done
     ·exact hX
   ·rw [decide_eq_false hlt]
    exact Ev.tt (decide_eq_true (by omega)) .done
 unfold qgn
 refine Ev.bind e (Ev.bind hL ?_)
 cases srcB xs M<;>exact .done
theorem qr1 {v:Tview} {xs:List qe} (hp:v.places.length≤78) (hl:xs.length≤1048576):Ev (fun n=>qdx n (some v) xs) (srcB xs (2*v.places.length)):=by
 have e:=qqZ hp
 obtain ⟨M,eM⟩:∃ M,M=2*v.places.length:=⟨_,rfl⟩
 rw [←eM] at e ⊢
 have hM:M≤156:=by omega
 have hL:Ev (fun n=>qaW (some v) xs n 0) (bif srcB xs M then .nxt (xs.length:Int) else .ret false):=by
  refine qeK (Lf:=qaW (some v) xs) (len:=xs.length) (Ev.succ (by simp only [qaW,ql (je _),cond_false];exact .done)) (fun j hj X hX=>Ev.succ ?_)
  simp only [qaW,qj hj,cond_true,qA hj,jd,qjh,e,qdi,qpP,qtW,wS j,wO ((M:Int)-1)]
  cases inI (gt xs j).Bq 0 ((M:Int)-1)
  ·exact .done
  refine Ev.ff rfl ?_
  show Ev (fun n=>bif !spanB (gt xs j).Ai then _ else bif !slewB (gt xs j).Bc then _ else _) _
  rw [jA,Bool.and_comm]
  cases spanB (gt xs j).Ai
  ·exact .done
  ·cases slewB (gt xs j).Bc
   ·exact .done
   ·refine Ev.ff rfl (Ev.ff rfl ?_)
    rw [jA,jA]
    by_cases h0:j=0
    ·subst h0
     exact Ev.ff rfl hX
    ·refine Ev.tt (decide_eq_true (by omega)) ?_
     rw [show (j:Int)-1=((j-1:Nat):Int) by omega,qN (by omega) (by omega),qA (show j-1<xs.length by omega),qrx h0]
     simp only [jd]
     by_cases hlt:(gt xs (j-1)).Bq<(gt xs j).Bq
     ·rw [decide_eq_true hlt]
      exact Ev.ff (decide_eq_false (by omega)) hX
     ·rw [decide_eq_false hlt]
      exact Ev.tt (decide_eq_true (by omega)) .done
 unfold qdx
 refine Ev.bind hL ?_
 cases srcB xs M<;>exact .done
theorem qsX {xs:List qe} {M:Nat} (hl:xs.length≤1048576) (h:srcB xs M=true):SrcOk xs:=by
 unfold srcB at h
 rw [qai] at h
 refine ⟨hl,fun j=>?_,fun x hx=>?_⟩
 ·induction j with
  | zero=>intro i hi _;omega
  | succ j ih =>
   intro i hi hj
   have hs:=h (j+1) hj
   rw [qrx (by omega)] at hs
   simp only [jf,decide_eq_true_eq,Nat.add_sub_cancel] at hs
   have hs':=hs.2.1
   by_cases hij:i=j
   ·rw [hij];exact hs'
   ·have:=ih i (by omega) (by omega);omega
 ·obtain ⟨i,hi,rfl⟩:=List.mem_iff_getElem.1 hx
  have hs:=h i hi
  rw [←qe3 hi]
  simp only [jf] at hs
  have:=hs.2.2.2
  unfold slewB at this
  simp only [jf,decide_eq_true_eq] at this
  exact ⟨⟨this.1,by omega⟩,by omega,this.2.2⟩
section
variable {L:Nat} {fr to:Nat→Int} {lv:Nat→Bool} {n:Nat}
def OrdOk (L:Nat) (fr to:Nat→Int) (lv:Nat→Bool) (n:Nat) (R:List Nat):Prop:=∀ l1 k l2,R=l1++k::l2→k<n∧k ∉ l1∧inN L fr to lv l1 k=0
theorem OrdOk.snoc {R:List Nat} {k:Nat} (h:OrdOk L fr to lv n R) (hk:nxtN L fr to lv n R=some k):OrdOk L fr to lv n (R++[k]):=by
 intro l1 k' l2 e
 rcases List.eq_nil_or_concat l2 with rfl|⟨l2',z,rfl⟩
 ·obtain ⟨rfl,e2⟩:=List.append_inj' e rfl
  obtain rfl:k=k':=by simpa using e2
  exact qpV hk
 ·have e':R++[k]=(l1++k'::l2')++[z]:=by rw [e];simp
  obtain ⟨e1,_⟩:=List.append_inj' e' rfl
  exact h l1 k' l2' e1
theorem qyu:∀ m R R',OrdOk L fr to lv n R→ordN L fr to lv n m R=some R'→OrdOk L fr to lv n R':=by
 intro m
 induction m with
 | zero=>intro R R' h e;obtain rfl:=Option.some.inj e;exact h
 | succ m ih =>
  intro R R' h e
  unfold ordN at e
  cases hn:nxtN L fr to lv n R with
  | none=>rw [hn] at e;cases e
  | some k =>
   rw [hn] at e
   exact ih _ _ (h.snoc hn) e
theorem OrdOk.at {R:List Nat} (h:OrdOk L fr to lv n R) {j:Nat} (hj:j<R.length):R[j]<n∧R[j] ∉ R.take j∧inN L fr to lv (R.take j) R[j]=0:=by
 refine h (R.take j) R[j] (R.drop (j+1)) ?_
 rw [←jF hj,List.take_append_drop]
end
theorem qpA {α:Type} [Inhabited α] {xs:List α} {k:Nat} {v:α} (hk:k<xs.length) (h:gt xs k=v):setS xs (k:Int) v=xs:=by
 unfold setS
 rw [jn,←h,qe3 hk]
 exact List.set_getElem_self hk
theorem qqN {α:Type} [Inhabited α] {xs:List α} {a k:Nat} {y:α} (ha:a<xs.length):gt (setS xs (a:Int) y) k=if k=a then y else gt xs k:=by
 unfold setS
 rw [jn]
 by_cases h:k=a
 ·subst h;rw [if_pos rfl,qqa ha]
 ·rw [if_neg h,qsA h]
def setT (t:qy) (k:Nat) (s:Bool × qe):qy:=⟨setS t.Bg (k:Int) s.1,setS t.Ai (k:Int) s.2.Ai,setS t.Bc (k:Int) s.2.Bc⟩
theorem qtm {t:qy} {M k:Nat} {s:Bool × qe} (h:TmOk t M) (hk:k<M) (hs:slR s.2.Bc):TmOk (setT t k s) M where
 r:=by show (setS _ _ _).length=_;rw [qe6];exact h.r
 a:=by show (setS _ _ _).length=_;rw [qe6];exact h.a
 s:=by show (setS _ _ _).length=_;rw [qe6];exact h.s
 sl:=fun j hj=>by
  show slR (gt (setS _ _ _) j)
  rw [qqN (by rw [h.s];exact hk)]
  split
  ·exact hs
  ·exact h.sl j hj
def Bare (t:qy) (M:Nat) (l:List Nat):Prop:=∀ k,k<M→k ∉ l→gt t.Bg k=false∧gt t.Ai k=zSp∧gt t.Bc k=zSp
def zT:qy:=⟨[],[],[]⟩
theorem qxW:slR zSp:=by unfold slR zSp;exact ⟨⟨jX _,by show (0:Int)≤_;omega⟩,jX _,by show (0:Int)≤_;omega⟩
theorem qy9 {s t:qf} (hs:slR s) (ht:slR t):slR (hullS s t):=by
 obtain ⟨⟨a1,a2⟩,a3,a4⟩:=hs
 obtain ⟨⟨b1,b2⟩,b3,b4⟩:=ht
 refine ⟨⟨?_,?_⟩,?_,?_⟩
 ·show (0:Int)≤(if t.Aq<s.Aq then t.Aq else s.Aq);split<;>assumption
 ·show (if t.Aq<s.Aq then t.Aq else s.Aq)≤1000000;split<;>assumption
 ·show (0:Int)≤(if t.Bf > s.Bf then t.Bf else s.Bf);split<;>assumption
 ·show (if t.Bf > s.Bf then t.Bf else s.Bf)≤1000000;split<;>assumption
section
variable {b:qg} {c:qu} {ex:List Int} {f g:Nat→qf→qf × qf} {lv:List Bool} {t:qy} {xs:List qe} {node:Int}
theorem qso (h:blockB b=true) (hg:SpansS b c g) (hgf:∀ k s,(f k s).2=(g k s).2) (ht:TmOk t (2*(places b.Ab).length)) (hx:SrcOk xs):∀ j,j≤(linksL b).length→slR (ndS f (linksL b) lv t node (srcV (srcO xs node)) j).2.Bc:=by
 intro j
 induction j with
 | zero =>
  intro _
  show slR (srcV (srcO xs node)).2.Bc
  cases hs:srcO xs node with
  | none=>exact qxW
  | some y=>exact hx.sl y (qnG hs).2
 | succ j ih =>
  intro hj
  have ih:=ih (by omega)
  obtain ⟨_,e2⟩:=quS (ql0 h) (show j<(linksL b).length by omega)
  have h2:=(hg j _ (show j<(linksL b).length by omega) (ht.sl _ e2)).1
  rw [←hgf] at h2
  show slR (bif toQ (linksL b) lv node j then stepS f (linksL b) t node (ndS f (linksL b) lv t node (srcV (srcO xs node)) j) j else ndS f (linksL b) lv t node (srcV (srcO xs node)) j).2.Bc
  cases toQ (linksL b) lv node j
  ·exact ih
  ·simp only [cond_true]
   unfold stepS
   cases gt t.Bg (frN (linksL b) j)
   ·exact ih
   ·simp only [cond_true]
    unfold joinS
    cases (ndS f (linksL b) lv t node (srcV (srcO xs node)) j).1
    ·exact h2
    ·exact qy9 ih h2
theorem qt7 (h:blockB b=true) (hf:SpansS b c f) (ht:TmOk t (2*(places b.Ab).length)) (hx:SrcOk xs):∀ j,j≤(linksL b).length→slR (ndS f (linksL b) lv t node (srcV (srcO xs node)) j).2.Bc:=qso h hf (fun _ _=>rfl) ht hx
theorem qyH:∀ j,(ndS f (linksL b) lv t node (srcV (srcO xs node)) j).1=false→(ndS f (linksL b) lv t node (srcV (srcO xs node)) j).2=zSrc:=by
 intro j
 induction j with
 | zero =>
  show (srcV (srcO xs node)).1=false→(srcV (srcO xs node)).2=zSrc
  cases srcO xs node with
  | none=>exact fun _=>rfl
  | some y=>intro e;cases e
 | succ j ih =>
  unfold ndS
  cases toQ (linksL b) lv node j
  ·exact ih
  ·simp only [cond_true]
   unfold stepS
   cases gt t.Bg (frN (linksL b) j)
   ·exact ih
   ·simp only [cond_true]
    unfold joinS
    cases (ndS f (linksL b) lv t node (srcV (srcO xs node)) j).1<;>(intro e;cases e)
def runR (o:Option qy):qy × Bool:=match o with|some t=>(t,true)|none=>(zT,false)
def rnO (f:Nat→qf→qf × qf) (ls:List qt) (lv:List Bool) (xs:List qe):List Nat→qy→Option qy
 | [],t=>some t
 | k::R,t=>bif (ndS f ls lv t (k:Int) (srcV (srcO xs (k:Int))) ls.length).1 then bif spanB (ndS f ls lv t (k:Int) (srcV (srcO xs (k:Int))) ls.length).2.Ai then rnO f ls lv xs R (setT t k (ndS f ls lv t (k:Int) (srcV (srcO xs (k:Int))) ls.length)) else none else rnO f ls lv xs R t
def zTm (M:Nat):qy:=⟨List.replicate M false,List.replicate M zSp,List.replicate M zSp⟩
theorem qsZ {α:Type} [Inhabited α] {v:α} {M k:Nat} (hk:k<M):gt (List.replicate M v) k=v:=by rw [qe3 (by rw [jP];exact hk)];simp
theorem quO {M:Nat}:TmOk (zTm M) M:=⟨jP,jP,jP,fun k hk=>by
 show slR (gt (List.replicate M zSp) k)
 rw [qsZ hk];exact qxW⟩
theorem qxN {M:Nat} {l:List Nat}:Bare (zTm M) M l:=fun k hk _=>⟨qsZ hk,qsZ hk,qsZ hk⟩
theorem qzp (h:blockB b=true) (hf:SpansS b c f) (hx:SrcOk xs):∀ (R:List Nat) (t t':qy),(∀ k,k ∈ R→k<2*(places b.Ab).length)→TmOk t (2*(places b.Ab).length)→rnO f (linksL b) lv xs R t=some t'→TmOk t' (2*(places b.Ab).length):=by
 intro R
 induction R with
 | nil=>intro t t' _ ht e;obtain rfl:=Option.some.inj e;exact ht
 | cons k R ih =>
  intro t t' hR ht e
  have hsl:=qt7 (node:=(k:Int)) (lv:=lv) h hf ht hx (linksL b).length (je _)
  unfold rnO at e
  cases h1:(ndS f (linksL b) lv t (k:Int) (srcV (srcO xs (k:Int))) (linksL b).length).1
  ·rw [h1] at e
   exact ih _ _ (fun i hi=>hR i (jo _ hi)) ht e
  ·rw [h1] at e
   cases h2:spanB (ndS f (linksL b) lv t (k:Int) (srcV (srcO xs (k:Int))) (linksL b).length).2.Ai
   ·rw [h2] at e;cases e
   ·rw [h2] at e
    exact ih _ _ (fun i hi=>hR i (jo _ hi)) (qtm ht (hR k (jy ..)) hsl) e
def runL (o:Option qy) (m:Nat):Flow (qy × Bool) (List qf × List qf × List Bool × Int):=match o with|some t'=>.nxt (t'.Bc,t'.Ai,t'.Bg,(m:Int))|none=>.ret (zT,false)
theorem qyd (h:blockB b=true) (hf:SpansS b c f) (hl:lv.length=(linksL b).length) (hx:SrcOk xs) {R:List Nat} (hR:∀ k,k ∈ R→k<2*(places b.Ab).length) (hRl:R.length≤1000) :
  Ev (fun n=>qlm n b c (linksL b) lv xs (ints R)) (runR (rnO f (linksL b) lv xs R (zTm (2*(places b.Ab).length)))):=by
 have hpl:=qbg (qad (qaB h))
 have hcn:=qne h
 obtain ⟨M,eM⟩:∃ M,M=2*(places b.Ab).length:=⟨_,rfl⟩
 have hM:M≤156:=by omega
 have main:∀ d j t,j+d=R.length→TmOk t M→Ev (fun n=>qcf b c (linksL b) lv xs (ints R) n t.Bc t.Ai t.Bg (j:Int)) (runL (rnO f (linksL b) lv xs (R.drop j) t) R.length):=by
  intro d
  induction d with
  | zero =>
   intro j t hj ht
   obtain rfl:j=R.length:=by omega
   rw [List.drop_length]
   refine Ev.succ ?_
   simp only [qcf,qdX,ql (je _),cond_false]
   exact .done
  | succ d ih =>
   intro j t hj ht
   have hjl:j<R.length:=by omega
   have k1:=hR _ (jp hjl)
   have hi:=qpa hjl
   have hd:R.drop j=R[j]::R.drop (j+1):=jF hjl
   generalize R[j]=k at k1 hi hd
   rw [←eM] at k1
   have hs:=qxm (node:=(k:Int)) h hf hl (by rw [←eM];exact ht) hx
   have hsl:=qt7 (node:=(k:Int)) (lv:=lv) h hf (by rw [←eM];exact ht) hx (linksL b).length (je _)
   have ir:idx t.Bg (k:Int)=some (gt t.Bg k):=qA (by rw [ht.r];exact k1)
   have ia:idx t.Ai (k:Int)=some (gt t.Ai k):=qA (by rw [ht.a];exact k1)
   have is:idx t.Bc (k:Int)=some (gt t.Bc k):=qA (by rw [ht.s];exact k1)
   have stp:∀ n,qcf b c (linksL b) lv xs (ints R) (n+1) t.Bc t.Ai t.Bg (j:Int)=(qiv n b c (linksL b) lv xs t (k:Int)).bind fun o=>match o with
    | (r4,r5)=>bif (!r4) then qcf b c (linksL b) lv xs (ints R) n t.Bc t.Ai t.Bg ((j+1:Nat):Int) else bif (!spanB r5.Ai) then some (.ret (zT,false)) else
     qcf b c (linksL b) lv xs (ints R) n (setS t.Bc (k:Int) r5.Bc) (setS t.Ai (k:Int) r5.Ai) (setS t.Bg (k:Int) true) ((j+1:Nat):Int):=fun n=>by
    simp only [qcf,qdX,qj hjl,cond_true,hi,jd,qrL,ir,ia,is,wS j]
    rfl
   rw [hd]
   unfold rnO
   generalize ndS f (linksL b) lv t (k:Int) (srcV (srcO xs (k:Int))) (linksL b).length=s at hs hsl ⊢
   obtain ⟨s1,s2⟩:=s
   cases s1
   ·exact Ev.step stp (Ev.bind hs (ih (j+1) t (by omega) ht))
   ·cases hsp:spanB s2.Ai
    ·refine Ev.step stp (Ev.bind hs ?_)
     simp only [hsp];exact .done
    ·refine Ev.step stp (Ev.bind hs ?_)
     simp only [hsp]
     exact ih (j+1) (setT t k (true,s2)) (by omega) (qtm ht k1 hsl)
 have hm1:mkS (M:Int) false=some (List.replicate M false):=qnJ (by omega)
 have hm2:mkS (M:Int) (⟨0,0⟩:qf)=some (List.replicate M zSp):=qnJ (by omega)
 have o2:=main R.length 0 (zTm M) (by omega) quO
 rw [List.drop_zero] at o2
 rw [←eM] at hcn ⊢
 unfold qlm qlL
 refine Ev.bind hcn ?_
 simp only [hm1,hm2,jd]
 refine Ev.bind o2 ?_
 cases rnO f (linksL b) lv xs R (zTm M)<;>exact .done
theorem qys (h:blockB b=true) (hg:SpansS b c g) (hgf:∀ k s,(f k s).2=(g k s).2) (hf:SpansI b c ex f) (hl:lv.length=(linksL b).length) (hx:SrcOk xs) {R:List Nat} (hR:∀ j,∀ hj:j<R.length,R[j]<2*(places b.Ab).length∧R[j] ∉ R.take j) (hRl:R.length≤1000) :
  Ev (fun n=>qfj n (some ⟨some (viewE b ex),lv⟩) c xs (ints R)) (runR (rnO f (linksL b) lv xs R (zTm (2*(places b.Ab).length)))):=by
 have hpl:=qbg (qad (qaB h))
 have hnd:=qqZ (v:=viewE b ex) hpl
 have epl:(viewE b ex).places.length=(places b.Ab).length:=rfl
 rw [epl] at hnd
 obtain ⟨M,eM⟩:∃ M,M=2*(places b.Ab).length:=⟨_,rfl⟩
 have hM:M≤156:=by omega
 have main:∀ d j t,j+d=R.length→TmOk t M→Bare t M (R.take j)→Ev (fun n=>qaY (some ⟨some (viewE b ex),lv⟩) c xs (ints R) n t.Bc t.Ai t.Bg (j:Int)) (runL (rnO f (linksL b) lv xs (R.drop j) t) R.length):=by
  intro d
  induction d with
  | zero =>
   intro j t hj ht _
   obtain rfl:j=R.length:=by omega
   rw [List.drop_length]
   refine Ev.succ ?_
   simp only [qaY,qdX,ql (je _),cond_false]
   exact .done
  | succ d ih =>
   intro j t hj ht hb
   have hjl:j<R.length:=by omega
   obtain ⟨k1,k2⟩:=hR j hjl
   have hi:=qpa hjl
   have htk:R.take (j+1)=R.take j++[R[j]]:=jv hjl
   have hd:R.drop j=R[j]::R.drop (j+1):=jF hjl
   generalize R[j]=k at k1 k2 hi htk hd
   rw [←eM] at k1
   have hp:=qxA (node:=(k:Int)) h hf hl (by rw [←eM];exact ht) hx.len
   have hsl:=qso (node:=(k:Int)) (lv:=lv) h hg hgf (by rw [←eM];exact ht) hx (linksL b).length (je _)
   have hz:=qyH (f:=f) (b:=b) (lv:=lv) (t:=t) (xs:=xs) (node:=(k:Int)) (linksL b).length
   obtain ⟨b1,b2,b3⟩:=hb k k1 k2
   have ir:idx t.Bg (k:Int)=some (gt t.Bg k):=qA (by rw [ht.r];exact k1)
   have ia:idx t.Ai (k:Int)=some (gt t.Ai k):=qA (by rw [ht.a];exact k1)
   have is:idx t.Bc (k:Int)=some (gt t.Bc k):=qA (by rw [ht.s];exact k1)
   have ptp:∀ n,qaY (some ⟨some (viewE b ex),lv⟩) c xs (ints R) (n+1) t.Bc t.Ai t.Bg (j:Int)=(qdz n (some ⟨some (viewE b ex),lv⟩) c xs t (k:Int)).bind fun o=>match o with
    | (r3,r4)=>(bif r3 then some (!spanB r4.Ai) else some false).bind fun b3=>bif b3 then some (.ret (zT,false)) else
     qaY (some ⟨some (viewE b ex),lv⟩) c xs (ints R) n (setS t.Bc (k:Int) r4.Bc) (setS t.Ai (k:Int) r4.Ai) (setS t.Bg (k:Int) r3) ((j+1:Nat):Int):=fun n=>by
    simp only [qaY,qdX,qj hjl,cond_true,hi,jd,qpP,ir,ia,is,wS j]
    rfl
   rw [hd]
   unfold rnO
   generalize ndS f (linksL b) lv t (k:Int) (srcV (srcO xs (k:Int))) (linksL b).length=s at hp hsl hz ⊢
   obtain ⟨s1,s2⟩:=s
   cases s1
   ·have:=hz rfl
    simp only at this
    subst this
    have e1:setS t.Bc (k:Int) zSrc.Bc=t.Bc:=qpA (by rw [ht.s];exact k1) b3
    have e2:setS t.Ai (k:Int) zSrc.Ai=t.Ai:=qpA (by rw [ht.a];exact k1) b2
    have e3:setS t.Bg (k:Int) false=t.Bg:=qpA (by rw [ht.r];exact k1) b1
    refine Ev.step ptp (Ev.bind hp ?_)
    simp only [cond_false,jd,e1,e2,e3]
    exact ih (j+1) t (by omega) ht (fun i hi hni=>hb i hi (fun hm=>hni (by rw [htk];exact List.mem_append_left _ hm)))
   ·cases hsp:spanB s2.Ai
    ·refine Ev.step ptp (Ev.bind hp ?_)
     simp only [hsp];exact .done
    ·refine Ev.step ptp (Ev.bind hp ?_)
     simp only [hsp]
     refine ih (j+1) (setT t k (true,s2)) (by omega) (qtm ht k1 hsl) (fun i hi hni=>?_)
     rw [htk] at hni
     have hne:i ≠ k:=fun e=>hni (List.mem_append_right _ (List.mem_singleton.2 e))
     have:=hb i hi (fun hm=>hni (List.mem_append_left _ hm))
     refine ⟨?_,?_,?_⟩
     ·show gt (setS _ _ _) i=_;rw [qqN (by rw [ht.r];exact k1),if_neg hne];exact this.1
     ·show gt (setS _ _ _) i=_;rw [qqN (by rw [ht.a];exact k1),if_neg hne];exact this.2.1
     ·show gt (setS _ _ _) i=_;rw [qqN (by rw [ht.s];exact k1),if_neg hne];exact this.2.2
 have hm1:mkS (M:Int) false=some (List.replicate M false):=qnJ (by omega)
 have hm2:mkS (M:Int) (⟨0,0⟩:qf)=some (List.replicate M zSp):=qnJ (by omega)
 have o3:=main R.length 0 (zTm M) (by omega) quO qxN
 rw [List.drop_zero] at o3
 rw [←eM] at hnd ⊢
 unfold qfj qhz
 simp only [jd,hnd,hm1,hm2]
 refine Ev.bind o3 ?_
 cases rnO f (linksL b) lv xs R (zTm M)<;>exact .done
end
end Go.Fw


namespace Go.Fw
open Go Go.Proofs
open Go.RowKit (Below)
set_option maxRecDepth 100000
set_option maxHeartbeats 1600000
variable {n:Nat} {w:World} {cs1 cs2 cs3 cs4 cs5 cs6 cs7 cs8 cs9:List Value}
def qf1 (n:Nat) (j:qaQ):Option ((Option Tl20Work) × Int) :=
 (qdy n (⟨(⟨j.Af.Av.Ar⟩:qn),(⟨j.Af.Ab.Aa,j.Af.Ab.Ak,j.Af.Ab.Aj⟩:qd),j.Af.Ac⟩:qg) (⟨j.Ah.Bb,j.Ah.As,j.Ah.Ay,j.Ah.Ap,j.Ah.Az⟩:qu) j.Bi j.Ba).bind fun o=>match o with
  | (r2,r3) =>
   bif (r3 != 0) then some (none,r3) else
   (qfr n (⟨(⟨j.Af.Av.Ar⟩:qn),(⟨j.Af.Ab.Aa,j.Af.Ab.Ak,j.Af.Ab.Aj⟩:qd),j.Af.Ac⟩:qg)).bind fun r4 =>
   (qht n r4 j.Bi).bind fun r5 =>
   some ((some (⟨(⟨(⟨(⟨j.Af.Av.Ar⟩:qn),(⟨j.Af.Ab.Aa,j.Af.Ab.Ak,j.Af.Ab.Aj⟩:qd),j.Af.Ac⟩:qg),(⟨j.Ah.Bb,j.Ah.As,j.Ah.Ay,j.Ah.Ap,j.Ah.Az⟩:qu),j.Bi,j.Ba⟩:qaQ),r4,r5,r2⟩:Tl20Work)),0)
theorem qqc {A:Nat→Prop} (hA:∀ b,A b→old w b) {j:qaQ} (ha1:GoT.R w A j cs1) {r:((Option Tl20Work) × Int)} (hF:qf1 n j=some r):RetG Tryz.prog 33 [GoT.v qaQ cs1] w A r:=by
 obtain ⟨p1,k1,p2,k2,p3,k3,p4,k4,p5,k5,p6,k6,p7,k7,rfl,s1,s2,s3,s4,s5,s6,s7⟩:=qcr ha1
 have hg:=Rg.start hA
 refine qfa Tryz.func33 rfl (m:=34) rfl rfl (fun h=>?_)
 refine zSR (qv h rfl rfl fun w1 bb1 h=>X4 13 0 0 0 0 h rfl ?_)
 obtain ⟨r1,hr1,hF⟩:=qc hF
 obtain ⟨r2,r3⟩:=r1
 refine qa8 (r2,r3) h (cB 59 rfl) (ql6 (qg6 _ (h.oldS (s1.mono hg.old)) (h.oldS (s2.mono hg.old)) (h.oldS (s3.mono hg.old)) (h.oldS (s4.mono hg.old)) (h.oldS (s5.mono hg.old))) (qed _) ⟨_,_,rfl,(h.oldS (s6.mono hg.old))⟩ ⟨_,_,rfl,(h.oldS (s7.mono hg.old))⟩ hr1) rfl rfl rfl rfl fun w2 S1 us1 hv1 hr2=>?_
 obtain ⟨S2,S3,cs2,us2,rfl,hv2,hr3⟩:=hv1.cons hr2
 obtain ⟨p8,k8,p9,k9,p10,k10,rfl,-,-,-⟩:=qcM (hv2.sh.own 0 rfl)
 obtain ⟨rfl,h⟩:=hv2.lastI hr3
 refine zp3 rfl (qp qa h rfl rfl rfl fun w3 bb2 h=>zs 0 h rfl fun w4 h=>X0 8 rfl (qh rfl hF ?_ ?_))<;>intro hF
 ·refine X0 6 rfl ?_
  obtain rfl:=qb hF
  have hv4:GoRs.Rs (ρ:=((Option Tl20Work) × Int)) h.wc (reg A w h.wc) (none,r3) [GoT.v (Option Tl20Work) [.pointer none],GoT.v Int [.int .i64 r3]]:=⟨_,_,rfl,rfl,⟨_,rfl,rfl⟩⟩
  exact qfp qa (ρ:=((Option Tl20Work) × Int)) (r:=(none,r3)) [GoT.v (Option Tl20Work) [.pointer none],GoT.v Int [.int .i64 r3]] h ⟨rfl,rfl,trivial⟩ hv4
 refine X1 5 2 h rfl (zcL h hF (qhc (qg6 _ (h.oldS (s1.mono hg.old)) (h.oldS (s2.mono hg.old)) (h.oldS (s3.mono hg.old)) (h.oldS (s4.mono hg.old)) (h.oldS (s5.mono hg.old)))) rfl fun r4 w5 S5 p11 k11 h hF=>X0 3 rfl (rA [] [1,3] h rfl fun w6 h=>M3 95 [0,1,2,3,4,6] 1 1 0 (h.pick [1,3] rfl) rfl (Ao 5 127 rfl (zcL h hF (qh2 (h.own 0 rfl) ⟨_,_,rfl,(h.oldS (s6.mono hg.old))⟩) rfl fun r5 w7 S6 p12 k12 h hF=>Ag (h.pick [2,4] rfl) (Aw 7 255 (fun w' hw=>qZ qa [0,1,2,3] [.tmp 25,.tmp 26,.tmp 30,.tmp 31] rfl rfl rfl rfl rfl rfl rfl rfl) (h.pick [2,4] rfl) rfl ?_)))))
 refine Ao 8 511 rfl (qv h rfl rfl fun w8 bb3 h=>G0 2047 [9,10] (h.pick [3,5] rfl) rfl (Ad ?_))
 obtain rfl:=qb hF
 have hv5:GoRs.Rs (ρ:=((Option Tl20Work) × Int)) h.wc (reg A w h.wc) ((some (⟨(⟨(⟨(⟨j.Af.Av.Ar⟩:qn),(⟨j.Af.Ab.Aa,j.Af.Ab.Ak,j.Af.Ab.Aj⟩:qd),j.Af.Ac⟩:qg),(⟨j.Ah.Bb,j.Ah.As,j.Ah.Ay,j.Ah.Ap,j.Ah.Az⟩:qu),j.Bi,j.Ba⟩:qaQ),r4,r5,r2⟩:Tl20Work)),0) [GoT.v (Option Tl20Work) [.pointer (some ⟨bb3,0,none⟩)],GoT.v Int [.int .i64 0]]:=⟨_,_,rfl,(hg.outR h (Rg.boxR (x:=(⟨(⟨(⟨(⟨j.Af.Av.Ar⟩:qn),(⟨j.Af.Ab.Aa,j.Af.Ab.Ak,j.Af.Ab.Aj⟩:qd),j.Af.Ac⟩:qg),(⟨j.Ah.Bb,j.Ah.As,j.Ah.Ay,j.Ah.Ap,j.Ah.Az⟩:qu),j.Bi,j.Ba⟩:qaQ),r4,r5,r2⟩:Tl20Work)) 0 h rfl (⟨[.slice p1 j.Af.Av.Ar.length k1,.slice p2 j.Af.Ab.Aa.length k2,.slice p3 j.Af.Ab.Ak.length k3,.slice p4 j.Af.Ab.Aj.length k4,.slice p5 j.Af.Ac.length k5,.string j.Ah.Bb,.int .i64 j.Ah.As,.int .i64 j.Ah.Ay,.int .i64 j.Ah.Ap,.int .i64 j.Ah.Az,.slice p6 j.Bi.length k6,.slice p7 j.Ba.length k7],[.slice p11 r4.length k11,.slice p12 r5.length k12,.slice p8 r2.Bg.length k8,.slice p9 r2.Ai.length k9,.slice p10 r2.Bc.length k10],rfl,⟨[.slice p1 j.Af.Av.Ar.length k1,.slice p2 j.Af.Ab.Aa.length k2,.slice p3 j.Af.Ab.Ak.length k3,.slice p4 j.Af.Ab.Aj.length k4,.slice p5 j.Af.Ac.length k5],[.string j.Ah.Bb,.int .i64 j.Ah.As,.int .i64 j.Ah.Ay,.int .i64 j.Ah.Ap,.int .i64 j.Ah.Az,.slice p6 j.Bi.length k6,.slice p7 j.Ba.length k7],rfl,⟨[.slice p1 j.Af.Av.Ar.length k1],[.slice p2 j.Af.Ab.Aa.length k2,.slice p3 j.Af.Ab.Ak.length k3,.slice p4 j.Af.Ab.Aj.length k4,.slice p5 j.Af.Ac.length k5],rfl,⟨_,_,rfl,(hg.inS h s1)⟩,⟨[.slice p2 j.Af.Ab.Aa.length k2,.slice p3 j.Af.Ab.Ak.length k3,.slice p4 j.Af.Ab.Aj.length k4],[.slice p5 j.Af.Ac.length k5],rfl,⟨[.slice p2 j.Af.Ab.Aa.length k2],[.slice p3 j.Af.Ab.Ak.length k3,.slice p4 j.Af.Ab.Aj.length k4],rfl,⟨_,_,rfl,(hg.inS h s2)⟩,⟨[.slice p3 j.Af.Ab.Ak.length k3],[.slice p4 j.Af.Ab.Aj.length k4],rfl,⟨_,_,rfl,(hg.inS h s3)⟩,⟨_,_,rfl,(hg.inS h s4)⟩⟩⟩,⟨_,_,rfl,(hg.inS h s5)⟩⟩⟩,⟨[.string j.Ah.Bb,.int .i64 j.Ah.As,.int .i64 j.Ah.Ay,.int .i64 j.Ah.Ap,.int .i64 j.Ah.Az],[.slice p6 j.Bi.length k6,.slice p7 j.Ba.length k7],rfl,⟨[.string j.Ah.Bb],[.int .i64 j.Ah.As,.int .i64 j.Ah.Ay,.int .i64 j.Ah.Ap,.int .i64 j.Ah.Az],rfl,rfl,⟨[.int .i64 j.Ah.As],[.int .i64 j.Ah.Ay,.int .i64 j.Ah.Ap,.int .i64 j.Ah.Az],rfl,rfl,⟨[.int .i64 j.Ah.Ay],[.int .i64 j.Ah.Ap,.int .i64 j.Ah.Az],rfl,rfl,⟨[.int .i64 j.Ah.Ap],[.int .i64 j.Ah.Az],rfl,rfl,rfl⟩⟩⟩⟩,⟨[.slice p6 j.Bi.length k6],[.slice p7 j.Ba.length k7],rfl,⟨_,_,rfl,(hg.inS h s6)⟩,⟨_,_,rfl,(hg.inS h s7)⟩⟩⟩⟩,⟨[.slice p11 r4.length k11],[.slice p12 r5.length k12,.slice p8 r2.Bg.length k8,.slice p9 r2.Ai.length k9,.slice p10 r2.Bc.length k10],rfl,(Rg.ownR 2 h rfl),⟨[.slice p12 r5.length k12],[.slice p8 r2.Bg.length k8,.slice p9 r2.Ai.length k9,.slice p10 r2.Bc.length k10],rfl,(Rg.ownR 1 h rfl),(Rg.ownR 4 h rfl)⟩⟩⟩))),⟨_,rfl,rfl⟩⟩
 exact qfp qa (ρ:=((Option Tl20Work) × Int)) (r:=((some (⟨(⟨(⟨(⟨j.Af.Av.Ar⟩:qn),(⟨j.Af.Ab.Aa,j.Af.Ab.Ak,j.Af.Ab.Aj⟩:qd),j.Af.Ac⟩:qg),(⟨j.Ah.Bb,j.Ah.As,j.Ah.Ay,j.Ah.Ap,j.Ah.Az⟩:qu),j.Bi,j.Ba⟩:qaQ),r4,r5,r2⟩:Tl20Work)),0)) [GoT.v (Option Tl20Work) [.pointer (some ⟨bb3,0,none⟩)],GoT.v Int [.int .i64 0]] h ⟨rfl,rfl,trivial⟩ hv5
def qcI (a_w:(Option Tl20Work)) (node:Int):Nat→Int→Option (Flow (qe × Bool) Int)
 | 0,_=>none
 | n+1,i1 =>
  (a_w).bind fun y1 =>
  bif decide (i1<(y1.j.Ba.length:Int)) then
   (idx y1.j.Ba i1).bind fun y2 =>
   bif (y2.Bq==node) then
    (idx y1.j.Ba i1).bind fun y3 =>
    some (.ret (y3,true))
   else
    qcI a_w node n (W64 (i1+1))
  else
   some (.nxt i1)
def qiS (n:Nat) (a_w:(Option Tl20Work)) (node:Int):Option (qe × Bool) :=
 (qcI a_w node n 0).bind fun o=>match o with
 | .ret r=>some r
 | .nxt _ =>
  some ((⟨0,(⟨0,0⟩:qf),(⟨0,0⟩:qf)⟩:qe),false)
theorem qoN {a_w:(Option Tl20Work)} {node:Int} (ha1:GoT.R w (old w) a_w cs1) {r:(qe × Bool)} (hF:qiS n a_w node=some r):RetV Tryz.prog 62 [GoT.v (Option Tl20Work) cs1,.int .i64 node] w r:=by
 obtain ⟨p1,rfl,s1⟩:=qap ha1
 refine zV 37 Tryz.func62 rfl fun h=>zSR (qp qa h rfl rfl rfl fun w1 bb1 h=>X0 7 rfl ?_)
 obtain ⟨o1,hF,hK1⟩:=qc hF
 refine qm (rL (fun m e w'=>∃ (i1:Int),qcI a_w node m i1=some o1∧e=[(0,.pointer p1),(1,.int .i64 node),(4,.pointer (some ⟨bb1,0,none⟩)),(6,.int .i64 i1)]∧SH w w' [Ch.box bb1 [.int .i64 0,.int .i64 0,.int .i64 0,.int .i64 0,.int .i64 0] 116]) n ⟨_,hF,rfl,h⟩ rfl ?_)
 rintro m1 e1 w2 ⟨i1,hF,rfl,h⟩
 rcases m1 with _|m1
 ·cases hF
 refine X0 5 rfl ?_
 obtain ⟨y1,hy1,hF⟩:=qc hF
 obtain ⟨b1,o_1,cs2,rfl,-,hr1,hc1⟩:=PtR.get s1 hy1
 obtain ⟨p2,k1,p3,k2,p4,k3,p5,k4,p6,k5,p7,k6,p8,k7,p9,k8,p10,k9,p11,k10,p12,k11,p13,k12,rfl,s2,s3,s4,s5,s6,s7,s8,s9,s10,s11,s12,s13⟩:=qjz hr1
 refine zp3 rfl (zc 11 (hc1.below h.below) rfl (X0 3 rfl (qh rfl hF ?_ ?_)))<;>intro hF
 ·refine X0 9 rfl (zc 11 (hc1.below h.below) rfl (zp1 rfl ?_))
  obtain ⟨y2,hy2,hF,he1,b2,_,q1,cs3,hp1,hq1,hr2,hc3⟩:=s8.ix hF
  obtain rfl:=qH hr2
  refine zxe hp1 hq1 he1 rfl (zp1 rfl (zc 0 (hc3.below h.below) rfl (X0 3 rfl (qh rfl hF ?_ ?_))))<;>intro hF
  ·refine X0 6 rfl (zc 11 (hc1.below h.below) rfl (zp1 rfl ?_))
   obtain ⟨y3,hy3,hF,he2,b3,_,q2,cs4,hp2,hq2,hr3,hc5⟩:=s8.ix hF
   obtain rfl:=qH hr3
   refine zxe hp2 hq2 he2 rfl (zc 0 (hc5.below h.below) rfl (zs 0 h rfl fun w3 h=>X0 2 rfl ?_))
   obtain rfl:=qb hF;replace hF:=hK1
   obtain rfl:=qb hF
   exact qR qa (ρ:=(qe × Bool)) [GoT.v qe (qfy y3),GoT.v Bool [.bool true]] h ⟨⟨_,_,_,rfl,rfl,h.box 0 rfl,rfl⟩,rfl,trivial⟩ (PV.done h (qaf h (qx (S:=fun _=>False) (qaA y3)) (qY (qx (S:=fun _=>False) rfl)) (by rfl)))
  exact X0 7 rfl (rK ⟨_,hF,rfl,h⟩ rfl)
 refine qq rfl ?_
 obtain rfl:=qb hF;replace hF:=hK1
 refine zSR (r_v (qZ qa [] [] rfl rfl rfl rfl rfl rfl rfl rfl) rfl (zs 0 h rfl fun w4 h=>X0 2 rfl ?_))
 obtain rfl:=qb hF
 exact qR qa (ρ:=(qe × Bool)) [GoT.v qe [.int .i64 0,.int .i64 0,.int .i64 0,.int .i64 0,.int .i64 0],GoT.v Bool [.bool false]] h ⟨⟨_,_,_,rfl,rfl,h.box 0 rfl,rfl⟩,rfl,trivial⟩ (PV.done h (qaf h (qx (S:=fun _=>False) (qaA (⟨0,(⟨0,0⟩:qf),(⟨0,0⟩:qf)⟩:qe))) (qY (qx (S:=fun _=>False) rfl)) (by rfl)))
def qeD (a_0:(Option Tl20Work)) (a_2:(List Int)) (r3:Bool):Nat→Int→Int→Option (Flow (Int × Bool) (Int × Int))
 | 0,_,_=>none
 | n+1,i1,i2 =>
  (
   bif decide (i2<(a_2.length:Int)) then some r3 else
   some false).bind fun b1 =>
  bif b1 then
   (idx a_2 i2).bind fun y1 =>
   (
    (a_0).bind fun y4 =>
    (qav n y1 0 (W64 ((y4.links.length:Int)-1))).bind fun r4 =>
    bif (!r4) then some true else
    (idx y4.live y1).bind fun y5 =>
    bif (!y5) then some true else
    (idx y4.links y1).bind fun y6 =>
    some (y6.Bk != i1)).bind fun b3 =>
   bif b3 then some (.ret (0,false)) else
   (a_0).bind fun y2 =>
   (idx y2.links y1).bind fun y3 =>
   qeD a_0 a_2 r3 n y3.To (W64 (i2+1))
  else
   some (.nxt (i1,i2))
def qll (n:Nat) (a_0:(Option Tl20Work)) (a_1:Int) (a_2:(List Int)):Option (Int × Bool) :=
 (qiS n a_0 a_1).bind fun o=>match o with
  | (_,r3) =>
   (qeD a_0 a_2 r3 n a_1 0).bind fun o=>match o with
   | .ret r=>some r
   | .nxt (i1,_) =>
    some (i1,r3)
theorem qrt {a_0:(Option Tl20Work)} {a_1:Int} {a_2:(List Int)} (ha1:GoT.R w (old w) a_0 cs1) (ha2:GoT.R w (old w) a_2 cs2) {r:(Int × Bool)} (hF:qll n a_0 a_1 a_2=some r):RetV Tryz.prog 35 [GoT.v (Option Tl20Work) cs1,.int .i64 a_1,GoT.v (List Int) cs2] w r:=by
 obtain ⟨p1,rfl,s1⟩:=qap ha1
 obtain ⟨p2,k1,rfl,s2⟩:=ha2
 refine zV 74 Tryz.func35 rfl fun h=>X0 9 rfl ?_
 obtain ⟨r1,hr1,hF⟩:=qc hF
 obtain ⟨r2,r3⟩:=r1
 refine qa8 (r2,r3) h (cB 62 rfl) (qoN (h.old s1) hr1) rfl rfl rfl rfl fun w1 S1 us1 hv1 hr2=>?_
 obtain ⟨S2,S3,cs3,us2,rfl,hv2,hr3⟩:=hv1.cons hr2
 obtain rfl:=qH (hv2.sh.own 0 rfl)
 obtain ⟨rfl,h⟩:=hv2.lastB hr3
 refine zp3 rfl (qp qa h rfl rfl rfl fun w2 bb1 h=>zs 0 h rfl fun w3 h=>X0 12 rfl ?_)
 obtain ⟨o1,hF,hK1⟩:=qc hF
 refine qm ?_
 replace h:=h.pick [] rfl
 refine rL (fun m e w'=>∃ (i1:Int) (i2:Int),qeD a_0 a_2 r3 m i1 i2=some o1∧e=[(0,.pointer p1),(2,.slice p2 a_2.length k1),(9,.bool r3),(10,.int .i64 i1),(11,.int .i64 i2)]∧SH w w' []) n ⟨_,_,hF,rfl,h⟩ rfl ?_
 rintro m1 e1 w4 ⟨i1,i2,hF,rfl,h⟩
 rcases m1 with _|m1
 ·cases hF
 refine zSS ?_
 obtain ⟨KF2,hKF2,o3,hF,hK3⟩:=bindE hF
 refine qba (fun e w'=>∃ (b1:Bool),KF2 b1=some o1∧e=[(0,.pointer p1),(2,.slice p2 a_2.length k1),(9,.bool r3),(10,.int .i64 i1),(11,.int .i64 i2),(26,.bool b1)]∧SH w w' []) ?_ ?_
 ·refine X0 6 rfl (qk (t:=24) hF rfl ?_ ?_)<;>intro hF
  ·refine X0 4 rfl ?_
   obtain rfl:=qb hF
   exact rG ⟨_,hK3,rfl,h⟩ rfl
  refine X0 3 rfl ?_
  obtain rfl:=qb hF
  exact rG ⟨_,hK3,rfl,h⟩ rfl
 rintro e3 w7 ⟨b1,hF,rfl,h⟩
 subst hKF2
 refine qh rfl hF ?_ ?_<;>intro hF
 ·refine X0 7 rfl ?_
  obtain ⟨y1,hy1,hF,he1,b2,_,q1,cs4,hp1,hq1,rfl,hc2⟩:=s2.ix hF
  refine zxe hp1 hq1 he1 rfl (zc 0 (hc2.below h.below) rfl (X0 4 rfl ?_))
  obtain ⟨KF1,hKF1,o2,hF,hK2⟩:=bindE hF
  refine qba (fun e w'=>∃ (b3:Bool),KF1 b3=some o1∧e=[(0,.pointer p1),(2,.slice p2 a_2.length k1),(9,.bool r3),(11,.int .i64 i2),(12,.int .i64 y1),(63,.bool b3)]∧SH w w' []) ?_ ?_
  ·refine X0 3 rfl ?_
   obtain ⟨y4,hy4,hF⟩:=qc hF
   obtain ⟨b6,o_4,cs7,rfl,-,hr8,hc6⟩:=PtR.get s1 hy4
   obtain ⟨p15,k14,p16,k15,p17,k16,p18,k17,p19,k18,p20,k19,p21,k20,p22,k21,p23,k22,p24,k23,p25,k24,p26,k25,rfl,s15,s16,s17,s18,s19,s20,s21,s22,s23,s24,s25,s26⟩:=qjz hr8
   refine zp2 rfl (zc 12 (hc6.below h.below) rfl (zp2 rfl (zcB h hF qaj rfl fun r4 w5 h hF=>zp2 rfl (qk (t:=42) hF rfl ?_ ?_))))<;>intro hF
   ·refine X0 22 rfl ?_
    obtain rfl:=qb hF
    exact rG ⟨_,hK2,rfl,h⟩ rfl
   refine X0 7 rfl (zc 13 (hc6.below h.below) rfl (X0 3 rfl ?_))
   obtain ⟨y5,hy5,hF,he3,b7,_,q3,cs8,hp3,hq3,rfl,hc7⟩:=s23.ix hF
   refine zxe hp3 hq3 he3 rfl (X0 1 rfl (zc 0 (hc7.below h.below) rfl (X0 4 rfl (qk (t:=52) hF rfl ?_ ?_))))<;>intro hF
   ·refine X0 12 rfl ?_
    obtain rfl:=qb hF
    exact rG ⟨_,hK2,rfl,h⟩ rfl
   refine X0 7 rfl (zc 12 (hc6.below h.below) rfl (X0 3 rfl ?_))
   obtain ⟨y6,hy6,hF,he4,b8,_,q4,cs9,hp4,hq4,hr11,hc8⟩:=s22.ix hF
   obtain rfl:=qar hr11
   refine zxe hp4 hq4 he4 rfl (X0 3 rfl (zc 0 (hc8.below h.below) rfl (X0 6 rfl ?_)))
   obtain rfl:=qb hF
   exact rG ⟨_,hK2,rfl,h⟩ rfl
  rintro e2 w6 ⟨b3,hF,rfl,h⟩
  subst hKF1
  refine qh rfl hF ?_ ?_<;>intro hF
  ·refine X0 5 rfl ?_
   obtain rfl:=qb hF;replace hF:=hK1
   obtain rfl:=qb hF
   exact qR qa (ρ:=(Int × Bool)) [GoT.v Int [.int .i64 0],GoT.v Bool [.bool false]] h ⟨rfl,rfl,trivial⟩ (PV.done h (qaf h (qx (S:=fun _=>False) rfl) (qY (qx (S:=fun _=>False) rfl)) (by rfl)))
  refine X0 3 rfl ?_
  obtain ⟨y2,hy2,hF⟩:=qc hF
  obtain ⟨b4,o_2,cs5,rfl,-,hr6,hc4⟩:=PtR.get s1 hy2
  obtain ⟨p3,k2,p4,k3,p5,k4,p6,k5,p7,k6,p8,k7,p9,k8,p10,k9,p11,k10,p12,k11,p13,k12,p14,k13,rfl,s3,s4,s5,s6,s7,s8,s9,s10,s11,s12,s13,s14⟩:=qjz hr6
  refine zp2 rfl (zc 12 (hc4.below h.below) rfl (zp1 rfl ?_))
  obtain ⟨y3,hy3,hF,he2,b5,_,q2,cs6,hp2,hq2,hr7,hc5⟩:=s10.ix hF
  obtain rfl:=qar hr7
  exact zxe hp2 hq2 he2 rfl (zp1 rfl (zc 1 (hc5.below h.below) rfl (X0 8 rfl (rK ⟨_,_,hF,rfl,h⟩ rfl))))
 refine qq rfl ?_
 obtain rfl:=qb hF;replace hF:=hK1
 refine X0 7 rfl ?_
 obtain rfl:=qb hF
 exact qR qa (ρ:=(Int × Bool)) [GoT.v Int [.int .i64 i1],GoT.v Bool [.bool r3]] h ⟨rfl,rfl,trivial⟩ (PV.done h (qaf h (qx (S:=fun _=>False) rfl) (qY (qx (S:=fun _=>False) rfl)) (by rfl)))
def qep (a_w:(Option Tl20Work)) (list:(List Int)):Nat→(List Int)→Int→Option ((List Int) × Int)
 | 0,_,_=>none
 | n+1,x1,i1 =>
  bif decide (i1<(list.length:Int)) then
   (a_w).bind fun y1 =>
   (idx list i1).bind fun y2 =>
   (idx y1.links y2).bind fun y3 =>
   (appS x1 ([y3.To]:List Int)).bind fun x2 =>
   qep a_w list n x2 (W64 (i1+1))
  else
   some (x1,i1)
def qjp (n:Nat) (a_w:(Option Tl20Work)) (start:Int) (list:(List Int)):Option (List Int) :=
 (qep a_w list n ([start]:List Int) 0).bind fun o=>match o with
 | (x1,_) =>
  some x1
theorem qpL {a_w:(Option Tl20Work)} {start:Int} {list:(List Int)} (ha1:GoT.R w (old w) a_w cs1) (ha2:GoT.R w (old w) list cs2) {r:(List Int)} (hF:qjp n a_w start list=some r):RetV Tryz.prog 52 [GoT.v (Option Tl20Work) cs1,.int .i64 start,GoT.v (List Int) cs2] w r:=by
 obtain ⟨p1,rfl,s1⟩:=qap ha1
 obtain ⟨p2,k1,rfl,s2⟩:=ha2
 refine zV 32 Tryz.func52 rfl fun h=>X0 7 rfl (qI qa [.tmp 9] _ ([start]:List Int) h rfl rfl rfl rfl rfl rfl rfl rfl rfl ⟨rfl,trivial⟩ rfl fun w1 p3 S1 h=>X0 7 rfl ?_)
 obtain ⟨o1,hF,hK1⟩:=qc hF
 refine qm (rL (fun m e w'=>∃ (S2:Nat→Prop) (p4:Option Addr) (ln1:Nat) (k2:Nat) (x1:(List Int)) (i1:Int),qep a_w list m x1 i1=some o1∧e=[(0,.pointer p1),(2,.slice p2 list.length k1),(7,.slice p4 ln1 k2),(8,.int .i64 i1)]∧SH w w' [Ch.own S2 (x1:List Int) [.slice p4 ln1 k2]]) n ⟨_,_,_,_,_,_,hF,rfl,h⟩ rfl ?_)
 rintro m1 e1 w2 ⟨S2,p4,ln1,k2,x1,i1,hF,rfl,h⟩
 obtain rfl:=(h.sl 0 rfl).2
 rcases m1 with _|m1
 ·cases hF
 refine X0 8 rfl (qh rfl hF ?_ ?_)<;>intro hF
 ·refine zKSB (rA [] [] h rfl fun w3 h=>M0 3 [0,1] (h.pick [] rfl) rfl ?_)
  obtain ⟨y1,hy1,hF⟩:=qc hF
  obtain ⟨b1,o_1,cs3,rfl,-,hr1,hc2⟩:=PtR.get s1 hy1
  obtain ⟨p5,k3,p6,k4,p7,k5,p8,k6,p9,k7,p10,k8,p11,k9,p12,k10,p13,k11,p14,k12,p15,k13,p16,k14,rfl,s3,s4,s5,s6,s7,s8,s9,s10,s11,s12,s13,s14⟩:=qjz hr1
  refine M0 15 [2,3] (h.pick [] rfl) rfl (Al 4 31 12 hc2 (h.pick [] rfl) rfl (M0 127 [5,6] (h.pick [] rfl) rfl ?_))
  obtain ⟨y2,hy2,hF,he1,b2,_,q1,cs4,hp1,hq1,rfl,hc3⟩:=s2.ix hF
  refine Ae 7 255 hp1 hq1 he1 (h.pick [] rfl) rfl (Al 8 511 0 hc3 (h.pick [] rfl) rfl ?_)
  obtain ⟨y3,hy3,hF,he2,b3,_,q2,cs5,hp2,hq2,hr3,hc4⟩:=s10.ix hF
  obtain rfl:=qar hr3
  refine Ae 9 1023 hp2 hq2 he2 (h.pick [] rfl) rfl (M0 2047 [10] (h.pick [] rfl) rfl (Al 11 4095 1 hc4 (h.pick [] rfl) rfl (Ao 12 8191 rfl (qI qa [.tmp 28] _ ([y3.To]:List Int) h rfl rfl rfl rfl rfl rfl rfl rfl rfl ⟨rfl,trivial⟩ rfl fun w4 p17 S3 h=>Ag (h.pick [] rfl) (Ao 13 16383 rfl ?_)))))
  obtain ⟨x2,hx1,hF⟩:=qc hF
  obtain ⟨g1,hx1⟩:=qas hx1
  refine qck qa 1 h rfl (h.sl 0 rfl).1 (h.sl 0 rfl).2 rfl rfl rfl rfl rfl rfl rfl rfl rfl g1 hx1 rfl fun w5 p18 k15 S4 h=>G0 32767 [14] (h.pick [] rfl) rfl (Ad (X0 6 rfl ?_))
  replace h:=h.pick [1] rfl
  exact rK ⟨_,_,_,_,_,_,hF,rfl,h⟩ rfl
 refine qq rfl ?_
 obtain rfl:=qb hF;replace hF:=hK1
 refine X0 5 rfl ?_
 obtain rfl:=qb hF
 exact rO 0 h rfl ⟨rfl,trivial⟩
def qio (n:Nat) (j:qaQ) (start:Int) (links:(List Int)):Option ((List Int) × Int) :=
 (qf1 n j).bind fun o=>match o with
  | (r2,r3) =>
   bif (r3 != 0) then some ([],r3) else
   (qll n r2 start links).bind fun o=>match o with
    | (_,r6) =>
     bif (!r6) then some ([],5) else
     (qjp n r2 start links).bind fun r7 =>
     some (r7,0)
theorem qoV {j:qaQ} {start:Int} {links:(List Int)} (ha1:GoT.R w (old w) j cs1) (ha2:GoT.R w (old w) links cs2) {r:((List Int) × Int)} (hF:qio n j start links=some r):RetV Tryz.prog 20 [GoT.v qaQ cs1,.int .i64 start,GoT.v (List Int) cs2] w r:=by
 obtain ⟨p1,k1,p2,k2,p3,k3,p4,k4,p5,k5,p6,k6,p7,k7,rfl,s1,s2,s3,s4,s5,s6,s7⟩:=qcr ha1
 obtain ⟨p8,k8,rfl,s8⟩:=ha2
 refine zV 33 Tryz.func20 rfl fun h=>zSR (qv h rfl rfl fun w1 bb1 h=>X1 6 0 h rfl ?_)
 have hg1:Rg (old w) w (old w) w:=.start (fun _ h=>h)
 obtain ⟨r1,hr1,hF⟩:=qc hF
 obtain ⟨r2,r3⟩:=r1
 refine qiz (r2,r3) hg1 h (cB 33 rfl) (qqc (hg1.regOld h) (hg1.inR h ha1) hr1) rfl rfl rfl rfl fun w2 us1 B1 hg2 hu1 hz1 hv1=>?_
 have hL1:=h.ext hu1.below
 have s9:=Up.S hg1 h hu1 s8
 have hb1:=h.below.trans (hu1.below.mono h.below.size)
 replace h:=hz1
 obtain ⟨cs3,us2,rfl,hr2,hv2⟩:=qlw hv1
 obtain ⟨p9,rfl,s10⟩:=qap hr2
 obtain ⟨cs4,rfl,hr3⟩:=qkU hv2
 obtain rfl:=hr3
 refine X0 12 rfl (qh rfl hF ?_ ?_)<;>intro hF
 ·refine X0 6 rfl ?_
  replace h:=h.unbase hg2.below (show NoD [] from trivial)
  obtain rfl:=qb hF
  exact qR qa (ρ:=((List Int) × Int)) [GoT.v (List Int) [.slice none 0 0],GoT.v Int [.int .i64 r3]] h ⟨rfl,rfl,trivial⟩ (PV.done h (qaf h qfZ (qY (qx (S:=fun _=>False) rfl)) (by rfl)))
 refine X0 6 rfl ?_
 obtain ⟨r4,hr4,hF⟩:=qc hF
 obtain ⟨r5,r6⟩:=r4
 refine qa8 (r5,r6) h (cB 35 rfl) (qrt (h.old (GoT.mono s10 hg2.old)) ⟨_,_,rfl,(h.oldS (s9.mono hg2.old))⟩ hr4) rfl rfl rfl rfl fun w3 S1 us3 hv3 hr5=>?_
 obtain ⟨S2,us4,rfl,hv4,hr6⟩:=hv3.consI hr5
 obtain ⟨rfl,h⟩:=hv4.lastB hr6
 refine X0 12 rfl (qh rfl hF ?_ ?_)<;>intro hF
 ·refine X0 5 rfl ?_
  replace h:=h.unbase hg2.below (show NoD [] from trivial)
  obtain rfl:=qb hF
  exact qR qa (ρ:=((List Int) × Int)) [GoT.v (List Int) [.slice none 0 0],GoT.v Int [.int .i64 5]] h ⟨rfl,rfl,trivial⟩ (PV.done h (qaf h qfZ (qY (qx (S:=fun _=>False) rfl)) (by rfl)))
 refine X0 6 rfl (zcL h hF (qpL (h.old (GoT.mono s10 hg2.old)) ⟨_,_,rfl,(h.oldS (s9.mono hg2.old))⟩) rfl fun r7 w4 S4 p10 k9 h hF=>X0 3 rfl ?_)
 replace h:=h.unbase hg2.below ⟨fun _ h=>h,trivial⟩
 obtain rfl:=qb hF
 exact qR qa (ρ:=((List Int) × Int)) [GoT.v (List Int) [.slice p10 r7.length k9],GoT.v Int [.int .i64 0]] h ⟨rfl,rfl,trivial⟩ (PV.done h (qaf h (qae 0 h rfl) (qY (qx (S:=fun _=>False) rfl)) (by rfl)))
def qcl (r2:(List Int)):Nat→(List Int)→Int→Option ((List Int) × Int)
 | 0,_,_=>none
 | n+1,x1,i1 =>
  bif decide (i1<(r2.length:Int)) then
   (idx r2 i1).bind fun y1 =>
   (appS x1 ([W64 (y1.tdiv 2)]:List Int)).bind fun x2 =>
   qcl r2 n x2 (W64 (i1+1))
  else
   some (x1,i1)
def qh4 (n:Nat) (j:qaQ) (start:Int) (links:(List Int)):Option ((List Int) × Int) :=
 (qio n j start links).bind fun o=>match o with
  | (r2,r3) =>
   bif (r3 != 0) then some ([],r3) else
   (qcl r2 n ([]:List Int) 0).bind fun o=>match o with
   | (x1,_) =>
    some (x1,0)
theorem qou {j:qaQ} {start:Int} {links:(List Int)} (ha1:GoT.R w (old w) j cs1) (ha2:GoT.R w (old w) links cs2) {r:((List Int) × Int)} (hF:qh4 n j start links=some r):RetV Tryz.prog 25 [GoT.v qaQ cs1,.int .i64 start,GoT.v (List Int) cs2] w r:=by
 obtain ⟨p1,k1,p2,k2,p3,k3,p4,k4,p5,k5,p6,k6,p7,k7,rfl,s1,s2,s3,s4,s5,s6,s7⟩:=qcr ha1
 obtain ⟨p8,k8,rfl,s8⟩:=ha2
 refine zV 38 Tryz.func25 rfl fun h=>zSR (qv h rfl rfl fun w1 bb1 h=>X1 8 0 h rfl ?_)
 obtain ⟨r1,hr1,hF⟩:=qc hF
 obtain ⟨r2,r3⟩:=r1
 refine qa8 (r2,r3) h (cB 20 rfl) (qoV (h.old ha1) ⟨_,_,rfl,(h.oldS s8)⟩ hr1) rfl rfl rfl rfl fun w2 S1 us1 hv1 hr2=>?_
 obtain ⟨S2,S3,p9,k9,us2,rfl,hv2,hr3⟩:=hv1.consL hr2
 obtain ⟨rfl,h⟩:=hv2.lastI hr3
 refine X0 12 rfl (qh rfl hF ?_ ?_)<;>intro hF
 ·refine X0 6 rfl ?_
  obtain rfl:=qb hF
  exact qR qa (ρ:=((List Int) × Int)) [GoT.v (List Int) [.slice none 0 0],GoT.v Int [.int .i64 r3]] h ⟨rfl,rfl,trivial⟩ (PV.done h (qaf h qfZ (qY (qx (S:=fun _=>False) rfl)) (by rfl)))
 refine zKSR (qI qa [] _ ([]:List Int) h rfl rfl rfl rfl rfl rfl rfl rfl rfl trivial rfl fun w3 p10 S5 h=>X0 7 rfl ?_)
 obtain ⟨o1,hF,hK1⟩:=qc hF
 refine qm ?_
 replace h:=h.pick [0,1] rfl
 refine rL (fun m e w'=>∃ (S6:Nat→Prop) (p11:Option Addr) (ln1:Nat) (k10:Nat) (x1:(List Int)) (i1:Int),qcl r2 m x1 i1=some o1∧e=[(8,.slice p9 r2.length k9),(10,.slice p11 ln1 k10),(11,.int .i64 i1)]∧SH w w' [Ch.own S6 (x1:List Int) [.slice p11 ln1 k10],Ch.own S2 (r2:List Int) [.slice p9 r2.length k9]]) n ⟨_,_,_,_,_,_,hF,rfl,h⟩ rfl ?_
 rintro m1 e1 w4 ⟨S6,p11,ln1,k10,x1,i1,hF,rfl,h⟩
 obtain rfl:=(h.sl 0 rfl).2
 rcases m1 with _|m1
 ·cases hF
 refine X0 8 rfl (qh rfl hF ?_ ?_)<;>intro hF
 ·refine X0 7 rfl ?_
  obtain ⟨y1,hy1,hF,he1,b1,_,q1,cs3,hp1,hq1,rfl,hc3⟩:=(h.sl 1 rfl).1.ix hF
  refine zx hp1 hq1 ⟨he1.1,qC he1.2.1 (h.sl 1 rfl).2⟩ rfl (zc 0 hc3 rfl (zp1 rfl (qI qa [.tmp 34] _ ([W64 (y1.tdiv 2)]:List Int) h rfl rfl rfl rfl rfl rfl rfl rfl rfl ⟨rfl,trivial⟩ rfl fun w5 p12 S7 h=>?_)))
  obtain ⟨x2,hx1,hF⟩:=qc hF
  obtain ⟨g1,hx1⟩:=qas hx1
  refine qck qa 1 h rfl (h.sl 0 rfl).1 (h.sl 0 rfl).2 rfl rfl rfl rfl rfl rfl rfl rfl rfl g1 hx1 rfl fun w6 p13 k11 S8 h=>X0 8 rfl ?_
  replace h:=h.pick [1,2] rfl
  exact rK ⟨_,_,_,_,_,_,hF,rfl,h⟩ rfl
 refine qq rfl ?_
 obtain rfl:=qb hF;replace hF:=hK1
 refine X0 6 rfl ?_
 obtain rfl:=qb hF
 exact qR qa (ρ:=((List Int) × Int)) [GoT.v (List Int) [.slice p11 x1.length k10],GoT.v Int [.int .i64 0]] h ⟨rfl,rfl,trivial⟩ (PV.done h (qaf h (qae 0 h rfl) (qY (qx (S:=fun _=>False) rfl)) (by rfl)))
def qi9 (n:Nat) (v:(Option Tview)) (link:Int):Option Bool :=
 (v).bind fun y1 =>
 (qc9 n y1.links).bind fun r1 =>
 (qaN n link 0 (W64 (r1-1))).bind fun r2 =>
 some r2
theorem qn3 {v:(Option Tview)} {link:Int} (ha1:GoT.R w (old w) v cs1) {r:Bool} (hF:qi9 n v link=some r):RetV Tryz.prog 161 [GoT.v (Option Tview) cs1,.int .i64 link] w r:=by
 obtain ⟨p1,rfl,s1⟩:=qap ha1
 refine zV 13 Tryz.func161 rfl fun h=>X0 8 rfl ?_
 obtain ⟨y1,hy1,hF⟩:=qc hF
 obtain ⟨b1,o_1,cs2,rfl,-,hr1,hc1⟩:=PtR.get s1 hy1
 obtain ⟨p2,k1,p3,k2,p4,k3,p5,k4,p6,k5,p7,k6,p8,k7,p9,k8,p10,k9,p11,k10,rfl,s2,s3,s4,s5,s6,s7,s8,s9,s10,s11⟩:=qbE hr1
 exact zp2 rfl (zc 6 (hc1.below h.below) rfl (zcI h hF (qhH ⟨_,_,rfl,(h.oldS s8)⟩) rfl fun r1 w1 h hF=>zp1 rfl (zcB h hF qaz rfl fun r2 w2 h hF=>X0 2 rfl (rb h hF rfl))))
def qb5 (v:(Option Tview)) (links:(List Int)):Nat→Int→Option (Flow Bool Int)
 | 0,_=>none
 | n+1,i1 =>
  bif decide (i1<(links.length:Int)) then
   (idx links i1).bind fun y1 =>
   (qi9 n v y1).bind fun r1 =>
   bif (!r1) then some (.ret false) else
   bif decide (i1 > 0) then
    (v).bind fun y2 =>
    (idx links (W64 (i1-1))).bind fun y3 =>
    (idx y2.links y3).bind fun y4 =>
    (idx y2.links y1).bind fun y5 =>
    bif (y4.To != y5.Bk) then some (.ret false) else
    qb5 v links n (W64 (i1+1))
   else
    qb5 v links n (W64 (i1+1))
  else
   some (.nxt i1)
def qhu (n:Nat) (v:(Option Tview)) (links:(List Int)):Option Bool :=
 (qb5 v links n 0).bind fun o=>match o with
 | .ret r=>some r
 | .nxt _ =>
  some true
theorem qnW {v:(Option Tview)} {links:(List Int)} (ha1:GoT.R w (old w) v cs1) (ha2:GoT.R w (old w) links cs2) {r:Bool} (hF:qhu n v links=some r):RetV Tryz.prog 109 [GoT.v (Option Tview) cs1,GoT.v (List Int) cs2] w r:=by
 obtain ⟨p1,rfl,s1⟩:=qap ha1
 obtain ⟨p2,k1,rfl,s2⟩:=ha2
 refine zV 46 Tryz.func109 rfl fun h=>X0 11 rfl ?_
 obtain ⟨o1,hF,hK1⟩:=qc hF
 refine qm (rL (fun m e w'=>∃ (i1:Int),qb5 v links m i1=some o1∧e=[(0,.pointer p1),(1,.slice p2 links.length k1),(7,.slice p2 links.length k1),(8,.int .i64 (links.length:Int)),(9,.int .i64 i1)]∧SH w w' []) n ⟨_,hF,rfl,h⟩ rfl ?_)
 rintro m1 e1 w1 ⟨i1,hF,rfl,h⟩
 rcases m1 with _|m1
 ·cases hF
 refine X0 5 rfl (qh rfl hF ?_ ?_)<;>intro hF
 ·refine X0 6 rfl ?_
  obtain ⟨y1,hy1,hF,he1,b1,_,q1,cs3,hp1,hq1,rfl,hc2⟩:=s2.ix hF
  refine zxe hp1 hq1 he1 rfl (zc 0 (hc2.below h.below) rfl (X0 4 rfl (rD (zd2 rfl ?_))))
  obtain ⟨r1,hr2,hF⟩:=qc hF
  refine qbo r1 (vsB _) (cB 161 rfl) (fun _ hb=>qn3 ((h.ext hb).old s1) hr2) rfl rfl rfl rfl (zd2 rfl (qaT (t:=18) hF rfl ?_ ?_))<;>intro hF
  ·refine Y0 26 rfl (dN h fun w2 h=>qbU rfl rfl (X0 4 rfl ?_))
   obtain rfl:=qb hF;replace hF:=hK1
   exact rb h hF rfl
  refine Y0 6 rfl (qaT (t:=21) hF rfl ?_ ?_)<;>intro hF
  ·refine Y0 3 rfl ?_
   obtain ⟨y2,hy2,hF⟩:=qc hF
   obtain ⟨b2,o_2,cs4,rfl,-,hr3,hc3⟩:=PtR.get s1 hy2
   obtain ⟨p3,k2,p4,k3,p5,k4,p6,k5,p7,k6,p8,k7,p9,k8,p10,k9,p11,k10,p12,k11,rfl,s3,s4,s5,s6,s7,s8,s9,s10,s11,s12⟩:=qbE hr3
   refine Y0 4 rfl (zdc 6 (hc3.below h.below) rfl (Y0 7 rfl ?_))
   obtain ⟨y3,hy3,hF,he2,b3,_,q2,cs5,hp2,hq2,rfl,hc4⟩:=s2.ix hF
   refine zdxe hp2 hq2 he2 rfl (Y0 1 rfl (zdc 0 (hc4.below h.below) rfl (Y0 1 rfl ?_)))
   obtain ⟨y4,hy4,hF,he3,b4,_,q3,cs6,hp3,hq3,hr5,hc5⟩:=s9.ix hF
   obtain rfl:=qar hr5
   refine zdxe hp3 hq3 he3 rfl (Y0 3 rfl (zdc 1 (hc5.below h.below) rfl (Y0 7 rfl (zdc 6 (hc3.below h.below) rfl (Y0 3 rfl ?_)))))
   obtain ⟨y5,hy5,hF,he4,b5,_,q4,cs7,hp4,hq4,hr6,hc6⟩:=s9.ix hF
   obtain rfl:=qar hr6
   refine zdxe hp4 hq4 he4 rfl (Y0 3 rfl (zdc 0 (hc6.below h.below) rfl (Y0 5 rfl (dN h fun w3 h=>qh rfl hF ?_ ?_))))<;>intro hF
   ·refine X0 4 rfl ?_
    obtain rfl:=qb hF;replace hF:=hK1
    exact rb h hF rfl
   exact X0 6 rfl (rK ⟨_,hF,rfl,h⟩ rfl)
  exact Y0 24 rfl (dN h fun w4 h=>qbV rfl rfl (X0 6 rfl (rK ⟨_,hF,rfl,h⟩ rfl)))
 refine qq rfl ?_
 obtain rfl:=qb hF;replace hF:=hK1
 exact X0 4 rfl (rb h hF rfl)
def qfh (_:Nat) (link:Int) (v0:(Option Twork)):Option Bool :=
 (v0).bind fun y1 =>
 (y1.graph).bind fun y2 =>
 (idx y2.live link).bind fun y3 =>
 some (!y3)
theorem qlO {link:Int} {v0:(Option Twork)} {p1:Option Addr} (ha1:GoT.R w (old w) (some v0) [.pointer p1]) {r:Bool} (hF:qfh n link v0=some r):RetV Tryz.prog 111 [.int .i64 link,.pointer p1] w r:=by
 obtain ⟨b1,o_1,cs1,rfl,-,hr1,hc1⟩:=PtR.get ha1 rfl
 obtain ⟨p2,rfl,s1⟩:=qap hr1
 refine zV 15 Tryz.func111 rfl fun h=>X0 6 rfl (zc 0 (hc1.below h.below) rfl ?_)
 obtain ⟨y1,hy1,hF⟩:=qc hF
 obtain ⟨b2,o_2,cs2,rfl,-,hr2,hc2⟩:=PtR.get s1 hy1
 obtain ⟨p3,p4,k1,p5,k2,p6,k3,p7,k4,p8,k5,p9,k6,p10,k7,p11,k8,p12,k9,p13,k10,p14,k11,rfl,s2,s3,s4,s5,s6,s7,s8,s9,s10,s11,s12,s13⟩:=qmr hr2
 refine zp2 rfl (zc 0 (hc2.below h.below) rfl ?_)
 obtain ⟨y2,hy2,hF⟩:=qc hF
 obtain ⟨b3,o_3,cs3,rfl,-,hr3,hc3⟩:=PtR.get s2 hy2
 obtain ⟨p15,p16,k12,rfl,s14,s15⟩:=qdr hr3
 refine zp2 rfl (zc 1 (hc3.below h.below) rfl (zp1 rfl ?_))
 obtain ⟨y3,hy3,hF,he1,b4,_,q1,cs4,hp1,hq1,rfl,hc4⟩:=s15.ix hF
 exact zxe hp1 hq1 he1 rfl (zc 0 (hc4.below h.below) rfl (X0 3 rfl (rb h hF rfl)))
def qW (s:(List Int)) (f_0:(Option Twork)):Nat→Int→Option (Flow Int Int)
 | 0,_=>none
 | n+1,i1 =>
  bif decide (i1<(s.length:Int)) then
   (idx s i1).bind fun y1 =>
   (qfh n y1 f_0).bind fun r1 =>
   bif r1 then some (.ret i1) else
   qW s f_0 n (W64 (i1+1))
  else
   some (.nxt i1)
def qaK (n:Nat) (s:(List Int)) (f_0:(Option Twork)):Option Int :=
 (qW s f_0 n 0).bind fun o=>match o with
 | .ret r=>some r
 | .nxt _ =>
  some (-1)
theorem qfn {s:(List Int)} {f_0:(Option Twork)} (ha1:GoT.R w (old w) s cs1) {p2:Option Addr} (ha2:GoT.R w (old w) (some f_0) [.pointer p2]) {r:Int} (hF:qaK n s f_0=some r):RetV Tryz.prog 162 [GoT.v (List Int) cs1,.func (.func 111) #[] #[.pointer p2]] w r:=by
 obtain ⟨p1,k1,rfl,s1⟩:=ha1
 obtain ⟨b1,o_1,cs2,rfl,-,hr1,hc1⟩:=PtR.get ha2 rfl
 obtain ⟨p3,rfl,s2⟩:=qap hr1
 refine zV 19 Tryz.func162 rfl fun h=>X0 11 rfl ?_
 obtain ⟨o1,hF,hK1⟩:=qc hF
 refine qm (rL (fun m e w'=>∃ (i1:Int),qW s f_0 m i1=some o1∧e=[(0,.slice p1 s.length k1),(1,.func (.func 111) #[] #[.pointer (some ⟨b1,o_1,none⟩)]),(7,.int .i64 (s.length:Int)),(8,.int .i64 i1)]∧SH w w' []) n ⟨_,hF,rfl,h⟩ rfl ?_)
 rintro m1 e1 w1 ⟨i1,hF,rfl,h⟩
 rcases m1 with _|m1
 ·cases hF
 refine X0 5 rfl (qh rfl hF ?_ ?_)<;>intro hF
 ·refine X0 13 rfl ?_
  obtain ⟨y1,hy1,hF,he1,b2,_,q1,cs3,hp1,hq1,rfl,hc3⟩:=s1.ix hF
  refine zxe hp1 hq1 he1 rfl (zc 0 (hc3.below h.below) rfl (zcB h hF (qlO (h.old ha2)) rfl fun r1 w2 h hF=>qcP (qh rfl hF ?_ ?_)))<;>intro hF
  ·refine X0 5 rfl ?_
   obtain rfl:=qb hF;replace hF:=hK1
   exact ri h hF rfl
  exact X0 6 rfl (rK ⟨_,hF,rfl,h⟩ rfl)
 refine qq rfl ?_
 obtain rfl:=qb hF;replace hF:=hK1
 exact X0 4 rfl (ri h hF rfl)
def qX (n:Nat) (s:(List Int)) (f_0:(Option Twork)):Option Bool :=
 (qaK n s f_0).bind fun r1 =>
 some (decide (r1 ≥ 0))
theorem qbS {s:(List Int)} {f_0:(Option Twork)} (ha1:GoT.R w (old w) s cs1) {p2:Option Addr} (ha2:GoT.R w (old w) (some f_0) [.pointer p2]) {r:Bool} (hF:qX n s f_0=some r):RetV Tryz.prog 110 [GoT.v (List Int) cs1,.func (.func 111) #[] #[.pointer p2]] w r:=by
 obtain ⟨p1,k1,rfl,s1⟩:=ha1
 obtain ⟨b1,o_1,cs2,rfl,-,hr1,hc1⟩:=PtR.get ha2 rfl
 obtain ⟨p3,rfl,s2⟩:=qap hr1
 exact zV 9 Tryz.func110 rfl fun h=>X0 8 rfl (zcI h hF (qfn ⟨_,_,rfl,(h.oldS s1)⟩ (h.old ha2)) rfl fun r1 w1 h hF=>X0 3 rfl (rb h hF rfl))
def qf8 (n:Nat) (a_w:(Option Twork)) (start:Int) (links:(List Int)):Option Bool :=
 (a_w).bind fun y1 =>
 (qgy n y1.job.Ba start).bind fun o=>match o with
  | (_,r3) =>
   (
    bif (!r3) then some true else
    (y1.graph).bind fun y6 =>
    (qhu n y6.view links).bind fun r6 =>
    some (!r6)).bind fun b2 =>
   bif b2 then some false else
   bif decide ((links.length:Int) > 0) then
    (y1.graph).bind fun y2 =>
    (y2.view).bind fun y3 =>
    (idx links 0).bind fun y4 =>
    (idx y3.links y4).bind fun y5 =>
    bif (y5.Bk != start) then some false else
    (qX n links a_w).bind fun r4 =>
    some (!r4)
   else
    (qX n links a_w).bind fun r5 =>
    some (!r5)
theorem qmY {a_w:(Option Twork)} {start:Int} {links:(List Int)} (ha1:GoT.R w (old w) a_w cs1) (ha2:GoT.R w (old w) links cs2) {r:Bool} (hF:qf8 n a_w start links=some r):RetV Tryz.prog 71 [GoT.v (Option Twork) cs1,.int .i64 start,GoT.v (List Int) cs2] w r:=by
 obtain ⟨p1,rfl,s1⟩:=qap ha1
 obtain ⟨p2,k1,rfl,s2⟩:=ha2
 refine zV 60 Tryz.func71 rfl fun h=>zSR (qv h rfl rfl fun w1 bb1 h=>X1 6 0 h rfl ?_)
 obtain ⟨y1,hy1,hF⟩:=qc hF
 obtain ⟨b1,o_1,cs3,rfl,-,hr1,hc1⟩:=PtR.get s1 hy1
 obtain ⟨p3,p4,k2,p5,k3,p6,k4,p7,k5,p8,k6,p9,k7,p10,k8,p11,k9,p12,k10,p13,k11,p14,k12,rfl,s3,s4,s5,s6,s7,s8,s9,s10,s11,s12,s13,s14⟩:=qmr hr1
 refine zp3 rfl (zc 12 (hc1.below h.below) rfl (zp1 rfl ?_))
 obtain ⟨r1,hr2,hF⟩:=qc hF
 obtain ⟨r2,r3⟩:=r1
 refine qa8 (r2,r3) h (cB 79 rfl) (qlU ⟨_,_,rfl,(h.oldS s10)⟩ hr2) rfl rfl rfl rfl fun w2 S1 us1 hv1 hr3=>?_
 obtain ⟨S2,S3,cs4,us2,rfl,hv2,hr4⟩:=hv1.cons hr3
 obtain rfl:=qH (hv2.sh.own 0 rfl)
 obtain ⟨rfl,h⟩:=hv2.lastB hr4
 refine zp3 rfl (qp qa h rfl rfl rfl fun w3 bb2 h=>zs 0 h rfl fun w4 h=>X0 3 rfl ?_)
 obtain ⟨KF1,hKF1,o1,hF,hK1⟩:=bindE hF
 refine qba (fun e w'=>∃ (b2:Bool),KF1 b2=some r∧e=[(1,.int .i64 start),(2,.slice p2 links.length k1),(3,.pointer (some ⟨bb1,0,none⟩)),(32,.bool b2)]∧SH w w' [Ch.box bb1 [.pointer (some ⟨b1,o_1,none⟩)] 82]) ?_ ?_
 ·refine X0 4 rfl (qk (t:=21) hF rfl ?_ ?_)<;>intro hF
  ·refine X0 12 rfl ?_
   replace h:=h.pick [2] rfl
   obtain rfl:=qb hF
   exact rG ⟨_,hK1,rfl,h⟩ rfl
  refine X1 7 2 h rfl (zc 0 (hc1.below h.below) rfl (X0 1 rfl ?_))
  obtain ⟨y6,hy6,hF⟩:=qc hF
  obtain ⟨b7,o_6,cs9,rfl,-,hr12,hc8⟩:=PtR.get s3 hy6
  obtain ⟨p27,p28,k24,rfl,s27,s28⟩:=qdr hr12
  refine X0 4 rfl (zc 0 (hc8.below h.below) rfl (X0 3 rfl (zcB h hF (qnW (h.old s27) ⟨_,_,rfl,(h.oldS s2)⟩) rfl fun r6 w9 h hF=>X0 4 rfl ?_)))
  replace h:=h.pick [2] rfl
  obtain rfl:=qb hF
  exact rG ⟨_,hK1,rfl,h⟩ rfl
 rintro e1 w10 ⟨b2,hF,rfl,h⟩
 subst hKF1
 refine qh rfl hF ?_ ?_<;>intro hF
 ·exact X0 4 rfl (rb h hF rfl)
 refine zKSS (rD (zd4 rfl (qaT (t:=36) hF rfl ?_ ?_)))<;>intro hF
 ·refine Y1 2 0 h rfl ?_
  refine Y0 5 rfl (zdc 0 (hc1.below h.below) rfl (Y0 1 rfl ?_))
  obtain ⟨y2,hy2,hF⟩:=qc hF
  obtain ⟨b3,o_2,cs5,rfl,-,hr6,hc3⟩:=PtR.get s3 hy2
  obtain ⟨p15,p16,k13,rfl,s15,s16⟩:=qdr hr6
  refine Y0 4 rfl (zdc 0 (hc3.below h.below) rfl (Y0 1 rfl ?_))
  obtain ⟨y3,hy3,hF⟩:=qc hF
  obtain ⟨b4,o_3,cs6,rfl,-,hr7,hc4⟩:=PtR.get s15 hy3
  obtain ⟨p17,k14,p18,k15,p19,k16,p20,k17,p21,k18,p22,k19,p23,k20,p24,k21,p25,k22,p26,k23,rfl,s17,s18,s19,s20,s21,s22,s23,s24,s25,s26⟩:=qbE hr7
  refine Y0 4 rfl (zdc 6 (hc4.below h.below) rfl (Y0 3 rfl ?_))
  obtain ⟨y4,hy4,hF,he1,b5,_,q1,cs7,hp1,hq1,rfl,hc5⟩:=s2.ix hF
  refine zdxe hp1 hq1 he1 rfl (Y0 1 rfl (zdc 0 (hc5.below h.below) rfl (Y0 1 rfl ?_)))
  obtain ⟨y5,hy5,hF,he2,b6,_,q2,cs8,hp2,hq2,hr9,hc6⟩:=s23.ix hF
  obtain rfl:=qar hr9
  refine zdxe hp2 hq2 he2 rfl (Y0 3 rfl (zdc 0 (hc6.below h.below) rfl (Y0 5 rfl (dN h fun w5 h=>qh rfl hF ?_ ?_))))<;>intro hF
  ·exact X0 4 rfl (rb h hF rfl)
  exact X0 5 rfl (zcB h hF (qbS ⟨_,_,rfl,(h.oldS s2)⟩ (qha (x:=a_w) 0 h rfl (h.old s1))) rfl fun r4 w6 h hF=>X0 3 rfl (rb h hF rfl))
 exact Y0 19 rfl (dN h fun w7 h=>qbV rfl rfl (X0 5 rfl (zcB h hF (qbS ⟨_,_,rfl,(h.oldS s2)⟩ (qha (x:=a_w) 0 h rfl (h.old s1))) rfl fun r5 w8 h hF=>X0 3 rfl (rb h hF rfl))))
def qhF (n:Nat) (j:qaQ) (mode:Int) (start:Int) (links:(List Int)):Option ((Option Twork) × Int) :=
 (qix n j mode []).bind fun o=>match o with
  | (r2,r3) =>
   bif (r3==0) then
    (qf8 n r2 start links).bind fun r4 =>
    bif (!r4) then some (none,5) else
    some (r2,r3)
   else
    some (r2,r3)
theorem qpj {A:Nat→Prop} (hA:∀ b,A b→old w b) {j:qaQ} {mode:Int} {start:Int} {links:(List Int)} (ha1:GoT.R w A j cs1) (ha2:GoT.R w A links cs2) {r:((Option Twork) × Int)} (hF:qhF n j mode start links=some r):RetG Tryz.prog 40 [GoT.v qaQ cs1,.int .i64 mode,.int .i64 start,GoT.v (List Int) cs2] w A r:=by
 obtain ⟨p1,k1,p2,k2,p3,k3,p4,k4,p5,k5,p6,k6,p7,k7,rfl,s1,s2,s3,s4,s5,s6,s7⟩:=qcr ha1
 obtain ⟨p8,k8,rfl,s8⟩:=ha2
 have hg:=Rg.start hA
 refine qfa Tryz.func40 rfl (m:=29) rfl rfl (fun h=>?_)
 refine zSR (qv h rfl rfl fun w1 bb1 h=>X1 7 0 h rfl ?_)
 obtain ⟨r1,hr1,hF⟩:=qc hF
 obtain ⟨r2,r3⟩:=r1
 refine qiz (r2,r3) hg h (cB 70 rfl) (qqG (hg.regOld h) (hg.inR h ha1) ⟨_,_,rfl,qnQ⟩ hr1) rfl rfl rfl rfl fun w2 us1 B1 hg1 hu1 hz1 hv1=>?_
 have hL1:=h.ext hu1.below
 have s9:=Up.S hg h hu1 s8
 have hb1:=h.below.trans (hu1.below.mono h.below.size)
 replace h:=hz1
 obtain ⟨cs3,us2,rfl,hr2,hv2⟩:=qlw hv1
 obtain ⟨p9,rfl,s10⟩:=qap hr2
 obtain ⟨cs4,rfl,hr3⟩:=qkU hv2
 obtain rfl:=hr3
 refine X0 12 rfl (qk (t:=20) hF rfl ?_ ?_)<;>intro hF
 ·refine X0 7 rfl (zcB h hF (qmY (h.old (GoT.mono s10 hg1.old)) ⟨_,_,rfl,(h.oldS (s9.mono hg1.old))⟩) rfl fun r4 w3 h hF=>X0 4 rfl (qh rfl hF ?_ ?_))<;>intro hF
  ·refine X0 5 rfl ?_
   obtain rfl:=qb hF
   have hv3:GoRs.Rs (ρ:=((Option Twork) × Int)) h.wc (reg A w h.wc) (none,5) [GoT.v (Option Twork) [.pointer none],GoT.v Int [.int .i64 5]]:=⟨_,_,rfl,rfl,⟨_,rfl,rfl⟩⟩
   exact qfp qa (ρ:=((Option Twork) × Int)) (r:=(none,5)) [GoT.v (Option Twork) [.pointer none],GoT.v Int [.int .i64 5]] (h.unbase hg1.below (show NoD [] from trivial)) ⟨rfl,rfl,trivial⟩ hv3
  refine X0 8 rfl ?_
  obtain rfl:=qb hF
  have hv4:GoRs.Rs (ρ:=((Option Twork) × Int)) h.wc (reg A w h.wc) (r2,r3) [GoT.v (Option Twork) [.pointer p9],GoT.v Int [.int .i64 r3]]:=⟨_,_,rfl,(hg1.outR h (hg1.inR h s10)),⟨_,rfl,rfl⟩⟩
  exact qfp qa (ρ:=((Option Twork) × Int)) (r:=(r2,r3)) [GoT.v (Option Twork) [.pointer p9],GoT.v Int [.int .i64 r3]] (h.unbase hg1.below (show NoD [] from trivial)) ⟨rfl,rfl,trivial⟩ hv4
 refine X0 7 rfl (qbV rfl rfl (X0 8 rfl ?_))
 obtain rfl:=qb hF
 have hv5:GoRs.Rs (ρ:=((Option Twork) × Int)) h.wc (reg A w h.wc) (r2,r3) [GoT.v (Option Twork) [.pointer p9],GoT.v Int [.int .i64 r3]]:=⟨_,_,rfl,(hg1.outR h (hg1.inR h s10)),⟨_,rfl,rfl⟩⟩
 exact qfp qa (ρ:=((Option Twork) × Int)) (r:=(r2,r3)) [GoT.v (Option Twork) [.pointer p9],GoT.v Int [.int .i64 r3]] (h.unbase hg1.below (show NoD [] from trivial)) ⟨rfl,rfl,trivial⟩ hv5
end Go.Fw


namespace Go.Fw
open Go Go.Proofs
open Go.RowKit (Below)
set_option maxRecDepth 100000
set_option maxHeartbeats 1600000
variable {n:Nat} {w:World} {cs1 cs2 cs3 cs4 cs5 cs6 cs7 cs8 cs9:List Value}
def qb0 (a_w:(Option Twork)) (links:(List Int)):Nat→(List Int)→Int→Option ((List Int) × Int)
 | 0,_,_=>none
 | n+1,x1,i1 =>
  bif decide (i1<(links.length:Int)) then
   (idx links i1).bind fun y1 =>
   (a_w).bind fun y2 =>
   (y2.graph).bind fun y3 =>
   (y3.view).bind fun y4 =>
   (idx y4.links y1).bind fun y5 =>
   (appS x1 ([y5.To]:List Int)).bind fun x2 =>
   qb0 a_w links n x2 (W64 (i1+1))
  else
   some (x1,i1)
def qfv (n:Nat) (a_w:(Option Twork)) (start:Int) (links:(List Int)):Option (List Int) :=
 (qb0 a_w links n ([start]:List Int) 0).bind fun o=>match o with
 | (x1,_) =>
  some x1
theorem qmK {a_w:(Option Twork)} {start:Int} {links:(List Int)} (ha1:GoT.R w (old w) a_w cs1) (ha2:GoT.R w (old w) links cs2) {r:(List Int)} (hF:qfv n a_w start links=some r):RetV Tryz.prog 53 [GoT.v (Option Twork) cs1,.int .i64 start,GoT.v (List Int) cs2] w r:=by
 obtain ⟨p1,rfl,s1⟩:=qap ha1
 obtain ⟨p2,k1,rfl,s2⟩:=ha2
 refine zV 37 Tryz.func53 rfl fun h=>X0 7 rfl (qI qa [.tmp 10] _ ([start]:List Int) h rfl rfl rfl rfl rfl rfl rfl rfl rfl ⟨rfl,trivial⟩ rfl fun w1 p3 S1 h=>X0 9 rfl ?_)
 obtain ⟨o1,hF,hK1⟩:=qc hF
 refine qm (rL (fun m e w'=>∃ (S2:Nat→Prop) (p4:Option Addr) (ln1:Nat) (k2:Nat) (x1:(List Int)) (i1:Int),qb0 a_w links m x1 i1=some o1∧e=[(0,.pointer p1),(7,.slice p4 ln1 k2),(12,.slice p2 links.length k1),(13,.int .i64 (links.length:Int)),(14,.int .i64 i1)]∧SH w w' [Ch.own S2 (x1:List Int) [.slice p4 ln1 k2]]) n ⟨_,_,_,_,_,_,hF,rfl,h⟩ rfl ?_)
 rintro m1 e1 w2 ⟨S2,p4,ln1,k2,x1,i1,hF,rfl,h⟩
 obtain rfl:=(h.sl 0 rfl).2
 rcases m1 with _|m1
 ·cases hF
 refine X0 5 rfl (qh rfl hF ?_ ?_)<;>intro hF
 ·refine zKSBSR ?_
  obtain ⟨y1,hy1,hF,he1,b1,_,q1,cs3,hp1,hq1,rfl,hc2⟩:=s2.ix hF
  refine zxe hp1 hq1 he1 rfl (zc 0 (hc2.below h.below) rfl (X0 5 rfl ?_))
  obtain ⟨y2,hy2,hF⟩:=qc hF
  obtain ⟨b2,o_2,cs4,rfl,-,hr2,hc3⟩:=PtR.get s1 hy2
  obtain ⟨p5,p6,k3,p7,k4,p8,k5,p9,k6,p10,k7,p11,k8,p12,k9,p13,k10,p14,k11,p15,k12,p16,k13,rfl,s3,s4,s5,s6,s7,s8,s9,s10,s11,s12,s13,s14⟩:=qmr hr2
  refine zp2 rfl (zc 0 (hc3.below h.below) rfl ?_)
  obtain ⟨y3,hy3,hF⟩:=qc hF
  obtain ⟨b3,o_3,cs5,rfl,-,hr3,hc4⟩:=PtR.get s3 hy3
  obtain ⟨p17,p18,k14,rfl,s15,s16⟩:=qdr hr3
  refine zp2 rfl (zc 0 (hc4.below h.below) rfl ?_)
  obtain ⟨y4,hy4,hF⟩:=qc hF
  obtain ⟨b4,o_4,cs6,rfl,-,hr4,hc5⟩:=PtR.get s15 hy4
  obtain ⟨p19,k15,p20,k16,p21,k17,p22,k18,p23,k19,p24,k20,p25,k21,p26,k22,p27,k23,p28,k24,rfl,s17,s18,s19,s20,s21,s22,s23,s24,s25,s26⟩:=qbE hr4
  refine zp2 rfl (zc 6 (hc5.below h.below) rfl (zp1 rfl ?_))
  obtain ⟨y5,hy5,hF,he2,b5,_,q2,cs7,hp2,hq2,hr5,hc6⟩:=s23.ix hF
  obtain rfl:=qar hr5
  refine zxe hp2 hq2 he2 rfl (zp1 rfl (zc 1 (hc6.below h.below) rfl (qI qa [.tmp 32] _ ([y5.To]:List Int) h rfl rfl rfl rfl rfl rfl rfl rfl rfl ⟨rfl,trivial⟩ rfl fun w3 p29 S3 h=>?_)))
  obtain ⟨x2,hx1,hF⟩:=qc hF
  obtain ⟨g1,hx1⟩:=qas hx1
  refine qck qa 1 h rfl (h.sl 0 rfl).1 (h.sl 0 rfl).2 rfl rfl rfl rfl rfl rfl rfl rfl rfl g1 hx1 rfl fun w4 p30 k25 S4 h=>X0 7 rfl ?_
  replace h:=h.pick [1] rfl
  exact rK ⟨_,_,_,_,_,_,hF,rfl,h⟩ rfl
 refine qq rfl ?_
 obtain rfl:=qb hF;replace hF:=hK1
 refine X0 5 rfl ?_
 obtain rfl:=qb hF
 exact rO 0 h rfl ⟨rfl,trivial⟩
def qiT (n:Nat) (j:qaQ) (start:Int) (links:(List Int)):Option ((List Int) × Int) :=
 (qhF n j 0 start links).bind fun o=>match o with
  | (r2,r3) =>
   bif (r3 != 0) then some ([],r3) else
   (qfv n r2 start links).bind fun r4 =>
   some (r4,0)
theorem qoA {j:qaQ} {start:Int} {links:(List Int)} (ha1:GoT.R w (old w) j cs1) (ha2:GoT.R w (old w) links cs2) {r:((List Int) × Int)} (hF:qiT n j start links=some r):RetV Tryz.prog 21 [GoT.v qaQ cs1,.int .i64 start,GoT.v (List Int) cs2] w r:=by
 obtain ⟨p1,k1,p2,k2,p3,k3,p4,k4,p5,k5,p6,k6,p7,k7,rfl,s1,s2,s3,s4,s5,s6,s7⟩:=qcr ha1
 obtain ⟨p8,k8,rfl,s8⟩:=ha2
 refine zV 24 Tryz.func21 rfl fun h=>zSR (qv h rfl rfl fun w1 bb1 h=>X1 8 0 h rfl ?_)
 have hg1:Rg (old w) w (old w) w:=.start (fun _ h=>h)
 obtain ⟨r1,hr1,hF⟩:=qc hF
 obtain ⟨r2,r3⟩:=r1
 refine qiz (r2,r3) hg1 h (cB 40 rfl) (qpj (hg1.regOld h) (hg1.inR h ha1) ⟨_,_,rfl,(hg1.inS h s8)⟩ hr1) rfl rfl rfl rfl fun w2 us1 B1 hg2 hu1 hz1 hv1=>?_
 have hL1:=h.ext hu1.below
 have s9:=Up.S hg1 h hu1 s8
 have hb1:=h.below.trans (hu1.below.mono h.below.size)
 replace h:=hz1
 obtain ⟨cs3,us2,rfl,hr2,hv2⟩:=qlw hv1
 obtain ⟨p9,rfl,s10⟩:=qap hr2
 obtain ⟨cs4,rfl,hr3⟩:=qkU hv2
 obtain rfl:=hr3
 refine X0 12 rfl (qh rfl hF ?_ ?_)<;>intro hF
 ·refine X0 6 rfl ?_
  replace h:=h.unbase hg2.below (show NoD [] from trivial)
  obtain rfl:=qb hF
  exact qR qa (ρ:=((List Int) × Int)) [GoT.v (List Int) [.slice none 0 0],GoT.v Int [.int .i64 r3]] h ⟨rfl,rfl,trivial⟩ (PV.done h (qaf h qfZ (qY (qx (S:=fun _=>False) rfl)) (by rfl)))
 refine X0 6 rfl (zcL h hF (qmK (h.old (GoT.mono s10 hg2.old)) ⟨_,_,rfl,(h.oldS (s9.mono hg2.old))⟩) rfl fun r4 w3 S1 p10 k9 h hF=>X0 3 rfl ?_)
 replace h:=h.unbase hg2.below ⟨fun _ h=>h,trivial⟩
 obtain rfl:=qb hF
 exact qR qa (ρ:=((List Int) × Int)) [GoT.v (List Int) [.slice p10 r4.length k9],GoT.v Int [.int .i64 0]] h ⟨rfl,rfl,trivial⟩ (PV.done h (qaf h (qae 0 h rfl) (qY (qx (S:=fun _=>False) rfl)) (by rfl)))
def qcn (r2:(List Int)):Nat→(List Int)→Int→Option ((List Int) × Int)
 | 0,_,_=>none
 | n+1,x1,i1 =>
  bif decide (i1<(r2.length:Int)) then
   (idx x1 i1).bind fun y1 =>
   (idx x1 i1).bind fun _ =>
   qcn r2 n (setS x1 i1 (W64 (y1.tdiv 2))) (W64 (i1+1))
  else
   some (x1,i1)
def qgo (n:Nat) (j:qaQ) (start:Int) (links:(List Int)):Option ((List Int) × Int) :=
 (qiT n j start links).bind fun o=>match o with
  | (r2,r3) =>
   (qcn r2 n r2 0).bind fun o=>match o with
   | (x1,_) =>
    some (x1,r3)
theorem qkH {j:qaQ} {start:Int} {links:(List Int)} (ha1:GoT.R w (old w) j cs1) (ha2:GoT.R w (old w) links cs2) {r:((List Int) × Int)} (hF:qgo n j start links=some r):RetV Tryz.prog 26 [GoT.v qaQ cs1,.int .i64 start,GoT.v (List Int) cs2] w r:=by
 obtain ⟨p1,k1,p2,k2,p3,k3,p4,k4,p5,k5,p6,k6,p7,k7,rfl,s1,s2,s3,s4,s5,s6,s7⟩:=qcr ha1
 obtain ⟨p8,k8,rfl,s8⟩:=ha2
 refine zV 32 Tryz.func26 rfl fun h=>zSR (qv h rfl rfl fun w1 bb1 h=>X1 8 0 h rfl ?_)
 obtain ⟨r1,hr1,hF⟩:=qc hF
 obtain ⟨r2,r3⟩:=r1
 refine qa8 (r2,r3) h (cB 21 rfl) (qoA (h.old ha1) ⟨_,_,rfl,(h.oldS s8)⟩ hr1) rfl rfl rfl rfl fun w2 S1 us1 hv1 hr2=>?_
 obtain ⟨S2,S3,p9,k9,us2,rfl,hv2,hr3⟩:=hv1.consL hr2
 obtain ⟨rfl,h⟩:=hv2.lastI hr3
 refine X0 13 rfl ?_
 obtain ⟨o1,hF,hK1⟩:=qc hF
 refine qm ?_
 replace h:=h.pick [0] rfl
 refine rL (fun m e w'=>∃ (x1:(List Int)) (i1:Int),qcn r2 m x1 i1=some o1∧e=[(8,.slice p9 r2.length k9),(9,.int .i64 r3),(19,.int .i64 (r2.length:Int)),(20,.int .i64 i1)]∧SH w w' [Ch.own S2 (x1:List Int) [.slice p9 r2.length k9]]) n ⟨_,_,hF,rfl,h⟩ rfl ?_
 rintro m1 e1 w3 ⟨x1,i1,hF,rfl,h⟩
 rcases m1 with _|m1
 ·cases hF
 refine X0 5 rfl (qh rfl hF ?_ ?_)<;>intro hF
 ·refine X0 11 rfl ?_
  obtain ⟨y1,hy1,hF,he1,b1,_,q1,cs3,hp1,hq1,rfl,hc2⟩:=(h.sl 0 rfl).1.ix hF
  refine zx hp1 hq1 ⟨he1.1,qC he1.2.1 (h.sl 0 rfl).2⟩ rfl (zc 0 hc2 rfl (zp1 rfl ?_))
  obtain ⟨y2,hy2,hF,he2,b2,_,q2,cs4,hp2,hq2,rfl,hc3⟩:=(h.sl 0 rfl).1.ix hF
  exact zx hp2 hq2 ⟨he2.1,qC he2.2.1 (h.sl 0 rfl).2⟩ rfl (qay qa 0 0 (W64 (y1.tdiv 2)) h rfl hy2 hp2 hq2 rfl hc3 rfl rfl rfl rfl rfl rfl rfl fun w4 h=>X0 6 rfl (rK ⟨_,_,hF,rfl,h⟩ rfl))
 refine qq rfl ?_
 obtain rfl:=qb hF;replace hF:=hK1
 refine X0 7 rfl ?_
 obtain rfl:=qb hF
 exact qR qa (ρ:=((List Int) × Int)) [GoT.v (List Int) [.slice p9 r2.length k9],GoT.v Int [.int .i64 r3]] h ⟨rfl,rfl,trivial⟩ (PV.done h (qaf h (qae 0 h rfl) (qY (qx (S:=fun _=>False) rfl)) (by rfl)))
def qmt (n:Nat) (a:qaQ) (left:Int):Option Int :=
 (qkk n (⟨(⟨a.Af.Av.Ar⟩:qn),(⟨a.Af.Ab.Aa,a.Af.Ab.Ak,a.Af.Ab.Aj⟩:qd),a.Af.Ac⟩:qg) left).bind fun r1 =>
 bif decide (r1<0) then some (-1) else
 (qju n (⟨a.Ah.Bb,a.Ah.As,a.Ah.Ay,a.Ah.Ap,a.Ah.Az⟩:qu) r1).bind fun r2 =>
 bif decide (r2<0) then some (-1) else
 (qbR n a.Bi r2).bind fun r3 =>
 bif decide (r3<0) then some (-1) else
 (qkM n a.Ba r3).bind fun r4 =>
 bif decide (r4<0) then some (-1) else
 some r4
theorem qsc {a:qaQ} {left:Int} (ha1:GoT.R w (old w) a cs1) {r:Int} (hF:qmt n a left=some r):RetV Tryz.prog 9 [GoT.v qaQ cs1,.int .i64 left] w r:=by
 obtain ⟨p1,k1,p2,k2,p3,k3,p4,k4,p5,k5,p6,k6,p7,k7,rfl,s1,s2,s3,s4,s5,s6,s7⟩:=qcr ha1
 refine zV 30 Tryz.func9 rfl fun h=>zSR (qv h rfl rfl fun w1 bb1 h=>X1 7 0 h rfl (zcI h hF (qqd (qg6 _ (h.oldS s1) (h.oldS s2) (h.oldS s3) (h.oldS s4) (h.oldS s5))) rfl fun r1 w2 h hF=>X0 8 rfl (qh rfl hF ?_ ?_)))<;>intro hF
 ·exact X0 4 rfl (ri h hF rfl)
 refine X1 6 0 h rfl (zcI h hF (qpk (qed _)) rfl fun r2 w3 h hF=>X0 8 rfl (qh rfl hF ?_ ?_))<;>intro hF
 ·exact X0 4 rfl (ri h hF rfl)
 refine X1 6 0 h rfl (zcI h hF (qby ⟨_,_,rfl,(h.oldS s6)⟩) rfl fun r3 w4 h hF=>X0 8 rfl (qh rfl hF ?_ ?_))<;>intro hF
 ·exact X0 4 rfl (ri h hF rfl)
 refine X1 6 0 h rfl (zcI h hF (qoz ⟨_,_,rfl,(h.oldS s7)⟩) rfl fun r4 w5 h hF=>X0 8 rfl (qh rfl hF ?_ ?_))<;>intro hF
 ·exact X0 4 rfl (ri h hF rfl)
 exact X0 6 rfl (ri h hF rfl)
def qie (n:Nat) (a:qaQ):Option qaQ :=
 (qku n (⟨(⟨a.Af.Av.Ar⟩:qn),(⟨a.Af.Ab.Aa,a.Af.Ab.Ak,a.Af.Ab.Aj⟩:qd),a.Af.Ac⟩:qg)).bind fun r1 =>
 (qjw n (⟨a.Ah.Bb,a.Ah.As,a.Ah.Ay,a.Ah.Ap,a.Ah.Az⟩:qu)).bind fun r2 =>
 (qaO n a.Bi).bind fun r3 =>
 (qiw n a.Ba).bind fun r4 =>
 some (⟨r1,(⟨r2.Bb,r2.As,r2.Ay,r2.Ap,r2.Az⟩:qu),r3,r4⟩:qaQ)
theorem qjq {a:qaQ} (ha1:GoT.R w (old w) a cs1) {r:qaQ} (hF:qie n a=some r):RetV Tryz.prog 11 [GoT.v qaQ cs1] w r:=by
 obtain ⟨p1,k1,p2,k2,p3,k3,p4,k4,p5,k5,p6,k6,p7,k7,rfl,s1,s2,s3,s4,s5,s6,s7⟩:=qcr ha1
 refine zV 21 Tryz.func11 rfl fun h=>zSR (qv h rfl rfl fun w1 bb1 h=>qp qa h rfl rfl rfl fun w2 bb2 h=>zNSR (qp qa h rfl rfl rfl fun w3 bb3 h=>X1 5 2 h rfl (zcO h hF (qqp (qg6 _ (h.oldS s1) (h.oldS s2) (h.oldS s3) (h.oldS s4) (h.oldS s5))) rfl fun r1 w4 S1 cs2 h hF=>?_)))
 obtain ⟨p8,k8,p9,k9,p10,k10,p11,k11,p12,k12,rfl,-,-,-,-,-⟩:=qab (h.own 0 rfl)
 refine zp1 rfl (zs 1 h rfl fun w5 h=>X1 5 3 h rfl (zcO h hF (qpy (qed _)) rfl fun r2 w6 S2 cs3 h hF=>?_))
 obtain rfl:=qaI (h.own 0 rfl)
 refine zp1 rfl (zs 2 h rfl fun w7 h=>X1 5 4 h rfl (zcL h hF (qaH ⟨_,_,rfl,(h.oldS s6)⟩) rfl fun r3 w8 S3 p13 k13 h hF=>zp1 rfl (zs 3 h rfl fun w9 h=>X1 5 5 h rfl (zcL h hF (qoQ ⟨_,_,rfl,(h.oldS s7)⟩) rfl fun r4 w10 S4 p14 k14 h hF=>zp1 rfl (zs 4 h rfl fun w11 h=>X1 4 4 h rfl (zs 5 h rfl fun w12 h=>qcP ?_))))))
 obtain rfl:=qb hF
 exact qR qa (ρ:=qaQ) [GoT.v qaQ [.slice p8 r1.Av.Ar.length k8,.slice p9 r1.Ab.Aa.length k9,.slice p10 r1.Ab.Ak.length k10,.slice p11 r1.Ab.Aj.length k11,.slice p12 r1.Ac.length k12,.string r2.Bb,.int .i64 r2.As,.int .i64 r2.Ay,.int .i64 r2.Ap,.int .i64 r2.Az,.slice p13 r3.length k13,.slice p14 r4.length k14]] h ⟨⟨_,_,_,rfl,rfl,h.box 5 rfl,rfl⟩,trivial⟩ (PV.done h (qY (qyQ (⟨r1,(⟨r2.Bb,r2.As,r2.Ay,r2.Ap,r2.Az⟩:qu),r3,r4⟩:qaQ) h (qae 3 h rfl) (qx (S:=fun _=>False) (qed (⟨r2.Bb,r2.As,r2.Ay,r2.Ap,r2.Az⟩:qu))) (qae 1 h rfl) (qae 0 h rfl) (by rfl) (by rfl) (by rfl))))
def qmo (n:Nat) (a:qaQ) (b:qaQ):Option Bool :=
 (qke n (⟨(⟨a.Af.Av.Ar⟩:qn),(⟨a.Af.Ab.Aa,a.Af.Ab.Ak,a.Af.Ab.Aj⟩:qd),a.Af.Ac⟩:qg) (⟨(⟨b.Af.Av.Ar⟩:qn),(⟨b.Af.Ab.Aa,b.Af.Ab.Ak,b.Af.Ab.Aj⟩:qd),b.Af.Ac⟩:qg)).bind fun r1 =>
 bif (!r1) then some false else
 (qjv n (⟨a.Ah.Bb,a.Ah.As,a.Ah.Ay,a.Ah.Ap,a.Ah.Az⟩:qu) (⟨b.Ah.Bb,b.Ah.As,b.Ah.Ay,b.Ah.Ap,b.Ah.Az⟩:qu)).bind fun r2 =>
 bif (!r2) then some false else
 (qaP n a.Bi b.Bi).bind fun r3 =>
 bif (!r3) then some false else
 (qiM n a.Ba b.Ba).bind fun r4 =>
 bif (!r4) then some false else
 some true
theorem qr7 {a:qaQ} {b:qaQ} (ha1:GoT.R w (old w) a cs1) (ha2:GoT.R w (old w) b cs2) {r:Bool} (hF:qmo n a b=some r):RetV Tryz.prog 14 [GoT.v qaQ cs1,GoT.v qaQ cs2] w r:=by
 obtain ⟨p1,k1,p2,k2,p3,k3,p4,k4,p5,k5,p6,k6,p7,k7,rfl,s1,s2,s3,s4,s5,s6,s7⟩:=qcr ha1
 obtain ⟨p8,k8,p9,k9,p10,k10,p11,k11,p12,k12,p13,k13,p14,k14,rfl,s8,s9,s10,s11,s12,s13,s14⟩:=qcr ha2
 refine zV 29 Tryz.func14 rfl fun h=>zSR (qv h rfl rfl fun w1 bb1 h=>qv h rfl rfl fun w2 bb2 h=>X2 9 1 0 h rfl (zcB h hF (qqf (qg6 _ (h.oldS s1) (h.oldS s2) (h.oldS s3) (h.oldS s4) (h.oldS s5)) (qg6 _ (h.oldS s8) (h.oldS s9) (h.oldS s10) (h.oldS s11) (h.oldS s12))) rfl fun r1 w3 h hF=>X0 2 rfl (qh rfl hF ?_ ?_)))<;>intro hF
 ·exact X0 4 rfl (rb h hF rfl)
 refine X2 8 1 0 h rfl (zcB h hF (qpU (qed _) (qed _)) rfl fun r2 w4 h hF=>X0 2 rfl (qh rfl hF ?_ ?_))<;>intro hF
 ·exact X0 4 rfl (rb h hF rfl)
 refine X2 8 1 0 h rfl (zcB h hF (qaF ⟨_,_,rfl,(h.oldS s6)⟩ ⟨_,_,rfl,(h.oldS s13)⟩) rfl fun r3 w5 h hF=>X0 2 rfl (qh rfl hF ?_ ?_))<;>intro hF
 ·exact X0 4 rfl (rb h hF rfl)
 refine X2 8 1 0 h rfl (zcB h hF (qoP ⟨_,_,rfl,(h.oldS s7)⟩ ⟨_,_,rfl,(h.oldS s14)⟩) rfl fun r4 w6 h hF=>X0 2 rfl (qh rfl hF ?_ ?_))<;>intro hF
 ·exact X0 4 rfl (rb h hF rfl)
 exact X0 5 rfl (rb h hF rfl)
def qco (a:(List Int)):Nat→(List Int)→Int→Int→Option ((List Int) × Int × Int)
 | 0,_,_,_=>none
 | n+1,x1,i1,i2 =>
  bif decide (i2<(a.length:Int)) then
   (idx x1 i2).bind fun _ =>
   qco a n (setS x1 i2 i1) (W64 (i1+1)) (W64 (i2+1))
  else
   some (x1,i1,i2)
def qaD (n:Nat) (a:(List Int)) (k:Int):Option (Int × (List Int)) :=
 (qco a n a k 0).bind fun o=>match o with
 | (x1,i1,_) =>
  some (i1,x1)
theorem qaC {n:Nat} {w0 w:World} {F:List Ch} {a:(List Int)} {k:Int} {S1:Nat→Prop} {p1:Option Addr} {ln1 k1:Nat} (h:SH w0 w (Ch.own S1 (a:List Int) [.slice p1 ln1 k1]::F)) {r:(Int × (List Int))} (hF:qaD n a k=some r):RetN Tryz.prog 23 [.slice p1 ln1 k1,.int .i64 k] w (fun w'=>∃ Z0:Nat→Prop,SH w0 w' (Ch.own Z0 (r.2:List Int) [.slice p1 ln1 k1]::F)) r.1:=by
 refine qb9 Tryz.func23 rfl (m:=19) rfl rfl ?_
 obtain rfl:=(h.sl 0 rfl).2
 refine X0 9 rfl ?_
 obtain ⟨o1,hF,hK1⟩:=qc hF
 refine qm (rL (fun m e w'=>∃ (x1:(List Int)) (i1:Int) (i2:Int),qco a m x1 i1 i2=some o1∧e=[(0,.slice p1 a.length k1),(1,.int .i64 i1),(5,.int .i64 i2)]∧SH w0 w' (Ch.own S1 (x1:List Int) [.slice p1 a.length k1]::F)) n ⟨_,_,_,hF,rfl,h⟩ rfl ?_)
 rintro m1 e1 w1 ⟨x1,i1,i2,hF,rfl,h⟩
 rcases m1 with _|m1
 ·cases hF
 refine X0 8 rfl (qh rfl hF ?_ ?_)<;>intro hF
 ·refine X0 8 rfl ?_
  obtain ⟨y1,hy1,hF,he1,b1,_,q1,cs1,hp1,hq1,rfl,hc2⟩:=(h.sl 0 rfl).1.ix hF
  exact zx hp1 hq1 ⟨he1.1,qC he1.2.1 (h.sl 0 rfl).2⟩ rfl (qay qa 0 0 i1 h rfl hy1 hp1 hq1 rfl hc2 rfl rfl rfl rfl rfl rfl rfl fun w2 h=>X0 12 rfl (rK ⟨_,_,_,hF,rfl,h⟩ rfl))
 refine qq rfl ?_
 obtain rfl:=qb hF;replace hF:=hK1
 refine X0 5 rfl ?_
 obtain rfl:=qb hF
 exact qit qa ⟨_,h⟩ ⟨rfl,trivial⟩
def qfW:Nat→Int→ByteArray→Option (Int × ByteArray)
 | 0,_,_=>none
 | n+1,i1,z1 =>
  bif decide (i1 > 0) then
   (catB (strOf ([(⟨IntKind.wrap .u8 (W64 (48+(i1.tmod 10)))⟩:IntK .u8)]:List (IntK .u8))) z1).bind fun z2 =>
   qfW n (W64 (i1.tdiv 10)) z2
  else
   some (i1,z1)
def qeb (n:Nat) (k:Int):Option ByteArray :=
 bif decide (k≤0) then some (⟨#[109,48]⟩:ByteArray) else
 (qfW n k (⟨#[]⟩:ByteArray)).bind fun o=>match o with
 | (_,z1) =>
  (catB (⟨#[109]⟩:ByteArray) z1).bind fun z3 =>
  some z3
theorem qfN {k:Int}  {r:ByteArray} (hF:qeb n k=some r):RetV Tryz.prog 172 [.int .i64 k] w r:=by
 refine zV 20 Tryz.func172 rfl fun h=>X0 10 rfl (qh rfl hF ?_ ?_)<;>intro hF
 ·refine X0 4 rfl ?_
  obtain rfl:=qb hF
  exact qR qa (ρ:=ByteArray) [_] h ⟨rfl,trivial⟩ (qvu _ _)
 refine X0 6 rfl ?_
 obtain ⟨o1,hF,hK1⟩:=qc hF
 refine qm (rL (fun m e w'=>∃ (i1:Int) (z1:ByteArray),qfW m i1 z1=some o1∧e=[(0,.int .i64 i1),(3,.string z1)]∧SH w w' []) n ⟨_,_,hF,rfl,h⟩ rfl ?_)
 rintro m1 e1 w1 ⟨i1,z1,hF,rfl,h⟩
 rcases m1 with _|m1
 ·cases hF
 refine X0 6 rfl (qh rfl hF ?_ ?_)<;>intro hF
 ·refine X0 8 rfl (qI qa [.tmp 11] _ ([(⟨IntKind.wrap .u8 (W64 (48+(i1.tmod 10)))⟩:IntK .u8)]:List (IntK .u8)) h rfl rfl rfl rfl rfl rfl rfl rfl rfl ⟨rfl,trivial⟩ rfl fun w2 p1 S1 h=>r_v (qyg qa (h.sl 0 rfl).1 (h.sl 0 rfl).2 rfl ⟨rfl,rfl⟩ ⟨rfl,rfl⟩ rfl rfl) rfl (zp1 rfl ?_))
  obtain ⟨z2,hx1,hF⟩:=qc hF
  obtain ⟨g1,hx1⟩:=qsO hx1
  refine r_v (qzi g1 rfl rfl) rfl ?_
  rw [hx1]
  refine X0 8 rfl ?_
  replace h:=h.pick [] rfl
  exact rK ⟨_,_,hF,rfl,h⟩ rfl
 refine qq rfl ?_
 obtain rfl:=qb hF;replace hF:=hK1
 refine X0 3 rfl ?_
 obtain ⟨z3,hx2,hF⟩:=qc hF
 obtain ⟨g2,hx2⟩:=qsO hx2
 refine r_v (qzi g2 rfl rfl) rfl ?_
 rw [hx2]
 refine X0 2 rfl ?_
 obtain rfl:=qb hF
 exact qR qa (ρ:=ByteArray) [_] h ⟨rfl,trivial⟩ (qvu _ _)
def qej (a:(List qal)):Nat→(List qal)→Int→Int→Option ((List qal) × Int × Int)
 | 0,_,_,_=>none
 | n+1,x1,i1,i2 =>
  bif decide (i2<(a.length:Int)) then
   (qeb n i1).bind fun r1 =>
   (idx x1 i2).bind fun y1 =>
   (idx (setS x1 i2 ({ y1 with Bb:=r1 })) i2).bind fun y2 =>
   (idx (setS (setS x1 i2 ({ y1 with Bb:=r1 })) i2 ({ y2 with Bv:=W64 (i1+1) })) i2).bind fun y3 =>
   (idx (setS (setS (setS x1 i2 ({ y1 with Bb:=r1 })) i2 ({ y2 with Bv:=W64 (i1+1) })) i2 ({ y3 with Bs:=W64 ((W64 (i1+1))+1) })) i2).bind fun y4 =>
   qej a n (setS (setS (setS (setS x1 i2 ({ y1 with Bb:=r1 })) i2 ({ y2 with Bv:=W64 (i1+1) })) i2 ({ y3 with Bs:=W64 ((W64 (i1+1))+1) })) i2 ({ y4 with Br:=(((W64 ((W64 ((W64 (i1+1))+1))+1)).tmod 3)==0) })) (W64 ((W64 ((W64 ((W64 (i1+1))+1))+1))+1)) (W64 (i2+1))
  else
   some (x1,i1,i2)
def qlM (n:Nat) (a:(List qal)) (k:Int):Option (Int × (List qal)) :=
 (qej a n a k 0).bind fun o=>match o with
 | (x1,i1,_) =>
  some (i1,x1)
theorem qoK {n:Nat} {w0 w:World} {F:List Ch} {a:(List qal)} {k:Int} {S1:Nat→Prop} {p1:Option Addr} {ln1 k1:Nat} (h:SH w0 w (Ch.own S1 (a:List qal) [.slice p1 ln1 k1]::F)) {r:(Int × (List qal))} (hF:qlM n a k=some r):RetN Tryz.prog 173 [.slice p1 ln1 k1,.int .i64 k] w (fun w'=>∃ Z0:Nat→Prop,SH w0 w' (Ch.own Z0 (r.2:List qal) [.slice p1 ln1 k1]::F)) r.1:=by
 refine qb9 Tryz.func173 rfl (m:=44) rfl rfl ?_
 obtain rfl:=(h.sl 0 rfl).2
 refine X0 9 rfl ?_
 obtain ⟨o1,hF,hK1⟩:=qc hF
 refine qm (rL (fun m e w'=>∃ (x1:(List qal)) (i1:Int) (i2:Int),qej a m x1 i1 i2=some o1∧e=[(0,.slice p1 a.length k1),(1,.int .i64 i1),(5,.int .i64 i2)]∧SH w0 w' (Ch.own S1 (x1:List qal) [.slice p1 a.length k1]::F)) n ⟨_,_,_,hF,rfl,h⟩ rfl ?_)
 rintro m1 e1 w1 ⟨x1,i1,i2,hF,rfl,h⟩
 rcases m1 with _|m1
 ·cases hF
 refine X0 8 rfl (qh rfl hF ?_ ?_)<;>intro hF
 ·refine X0 8 rfl (zcS h hF qfN rfl fun r1 w2 h hF=>?_)
  obtain ⟨y1,hy1,hF,he1,b1,_,q1,cs1,hp1,hq1,hr2,hc2⟩:=(h.sl 0 rfl).1.ix hF
  obtain rfl:=qaX hr2
  refine zx hp1 hq1 ⟨he1.1,qC he1.2.1 (h.sl 0 rfl).2⟩ rfl (zp1 rfl (qay qa 0 0 ({ y1 with Bb:=r1 }:qal) h rfl hy1 hp1 hq1 (qd0 y1) hc2 rfl rfl rfl (qd0 ({ y1 with Bb:=r1 })) rfl rfl rfl fun w3 h=>X0 12 rfl ?_))
  obtain ⟨y2,hy2,hF,he2,b2,_,q2,cs2,hp2,hq2,hr3,hc3⟩:=(h.sl 0 rfl).1.ix hF
  obtain rfl:=qaX hr3
  refine zx hp2 hq2 ⟨he2.1,qC he2.2.1 (h.sl 0 rfl).2⟩ rfl (zp1 rfl (qay qa 0 1 ({ y2 with Bv:=W64 (i1+1) }:qal) h rfl hy2 hp2 hq2 (qd0 y2) hc3 rfl rfl rfl (qd0 ({ y2 with Bv:=W64 (i1+1) })) rfl rfl rfl fun w4 h=>X0 12 rfl ?_))
  obtain ⟨y3,hy3,hF,he3,b3,_,q3,cs3,hp3,hq3,hr4,hc4⟩:=(h.sl 0 rfl).1.ix hF
  obtain rfl:=qaX hr4
  refine zx hp3 hq3 ⟨he3.1,qC he3.2.1 (h.sl 0 rfl).2⟩ rfl (zp1 rfl (qay qa 0 2 ({ y3 with Bs:=W64 ((W64 (i1+1))+1) }:qal) h rfl hy3 hp3 hq3 (qd0 y3) hc4 rfl rfl rfl (qd0 ({ y3 with Bs:=W64 ((W64 (i1+1))+1) })) rfl rfl rfl fun w5 h=>X0 14 rfl ?_))
  obtain ⟨y4,hy4,hF,he4,b4,_,q4,cs4,hp4,hq4,hr5,hc5⟩:=(h.sl 0 rfl).1.ix hF
  obtain rfl:=qaX hr5
  exact zx hp4 hq4 ⟨he4.1,qC he4.2.1 (h.sl 0 rfl).2⟩ rfl (zp1 rfl (qay qa 0 3 ({ y4 with Br:=(((W64 ((W64 ((W64 (i1+1))+1))+1)).tmod 3)==0) }:qal) h rfl hy4 hp4 hq4 (qd0 y4) hc5 rfl rfl rfl (qd0 ({ y4 with Br:=(((W64 ((W64 ((W64 (i1+1))+1))+1)).tmod 3)==0) })) rfl rfl rfl fun w6 h=>X0 12 rfl (rK ⟨_,_,_,hF,rfl,h⟩ rfl)))
 refine qq rfl ?_
 obtain rfl:=qb hF;replace hF:=hK1
 refine X0 5 rfl ?_
 obtain rfl:=qb hF
 exact qit qa ⟨_,h⟩ ⟨rfl,trivial⟩
def qdd (a:(List qr)):Nat→(List qr)→Int→Int→Option ((List qr) × Int × Int)
 | 0,_,_,_=>none
 | n+1,x1,i1,i2 =>
  bif decide (i2<(a.length:Int)) then
   (idx x1 i2).bind fun y1 =>
   (qaD n y1.Bm i1).bind fun o=>match o with
    | (r1,x2) =>
     (qaD n y1.Bj r1).bind fun o=>match o with
      | (r2,x3) =>
       (qaD n y1.Bh r2).bind fun o=>match o with
        | (r3,x4) =>
         qdd a n (setS x1 i2 (⟨x2,x3,x4⟩:qr)) r3 (W64 (i2+1))
  else
   some (x1,i1,i2)
def qhZ (n:Nat) (a:(List qr)) (k:Int):Option (Int × (List qr)) :=
 (qdd a n a k 0).bind fun o=>match o with
 | (x1,i1,_) =>
  some (i1,x1)
theorem qka {n:Nat} {w0 w:World} {F:List Ch} {a:(List qr)} {k:Int} {S1:Nat→Prop} {p1:Option Addr} {ln1 k1:Nat} (h:SH w0 w (Ch.own S1 (a:List qr) [.slice p1 ln1 k1]::F)) {r:(Int × (List qr))} (hF:qhZ n a k=some r):RetN Tryz.prog 203 [.slice p1 ln1 k1,.int .i64 k] w (fun w'=>∃ Z0:Nat→Prop,SH w0 w' (Ch.own Z0 (r.2:List qr) [.slice p1 ln1 k1]::F)) r.1:=by
 refine qb9 Tryz.func203 rfl (m:=34) rfl rfl ?_
 obtain rfl:=(h.sl 0 rfl).2
 refine X0 9 rfl ?_
 obtain ⟨o1,hF,hK1⟩:=qc hF
 refine qm (rL (fun m e w'=>∃ (S2:Nat→Prop) (x1:(List qr)) (i1:Int) (i2:Int),qdd a m x1 i1 i2=some o1∧e=[(0,.slice p1 a.length k1),(1,.int .i64 i1),(5,.int .i64 i2)]∧SH w0 w' (Ch.own S2 (x1:List qr) [.slice p1 a.length k1]::F)) n ⟨_,_,_,_,hF,rfl,h⟩ rfl ?_)
 rintro m1 e1 w1 ⟨S2,x1,i1,i2,hF,rfl,h⟩
 rcases m1 with _|m1
 ·cases hF
 refine X0 8 rfl (qh rfl hF ?_ ?_)<;>intro hF
 ·refine X0 7 rfl ?_
  obtain ⟨y1,hy1,hF⟩:=qc hF
  have he1:=qcG hy1
  obtain ⟨S3,S4,cs1,h⟩:=h.take hy1
  obtain ⟨p2,k2,p3,k3,p4,k4,rfl,-,-,-⟩:=qaE (h.own 0 rfl)
  obtain ⟨S5,S6,S7,h⟩:=qtp h
  obtain ⟨b1,hp1,-,-,hl2⟩:=h.holeAt 3 rfl
  obtain ⟨q1,hq1⟩:∃ q,q=0+(i2).toNat*GoT.k qr:=⟨_,rfl⟩
  refine zx hp1 hq1 ⟨he1.1,qC he1.2.1 hl2⟩ rfl (zp1 rfl (zc 0 (qcF h 3 rfl hp1 hq1) rfl (zp1 rfl ?_)))
  replace h:=h.pickT 4 [2,0,1,3] rfl
  obtain ⟨o2,hr1,hF⟩:=qc hF
  obtain ⟨r1,x2⟩:=o2
  refine qb7 r1 (cB 23 rfl) (qaC h hr1) rfl rfl rfl rfl ?_
  rintro w2 ⟨S8,h⟩
  refine X0 6 rfl ?_
  obtain ⟨b2,hp2,-,-,hl4⟩:=h.holeAt 3 rfl
  obtain ⟨q2,hq2⟩:∃ q,q=0+(i2).toNat*GoT.k qr:=⟨_,rfl⟩
  refine zx hp2 hq2 ⟨he1.1,qC he1.2.1 hl4⟩ rfl (zp1 rfl (zc 1 (qcF h 3 rfl hp2 hq2) rfl (zp1 rfl ?_)))
  replace h:=h.pickT 4 [2,0,1,3] rfl
  obtain ⟨o3,hr2,hF⟩:=qc hF
  obtain ⟨r2,x3⟩:=o3
  refine qb7 r2 (cB 23 rfl) (qaC h hr2) rfl rfl rfl rfl ?_
  rintro w3 ⟨S9,h⟩
  refine X0 5 rfl ?_
  obtain ⟨b3,hp3,-,-,hl6⟩:=h.holeAt 3 rfl
  obtain ⟨q3,hq3⟩:∃ q,q=0+(i2).toNat*GoT.k qr:=⟨_,rfl⟩
  refine zx hp3 hq3 ⟨he1.1,qC he1.2.1 hl6⟩ rfl (zp1 rfl (zc 2 (qcF h 3 rfl hp3 hq3) rfl (zp1 rfl ?_)))
  replace h:=h.pickT 4 [2,0,1,3] rfl
  obtain ⟨o4,hr3,hF⟩:=qc hF
  obtain ⟨r3,x4⟩:=o4
  refine qb7 r3 (cB 23 rfl) (qaC h hr3) rfl rfl rfl rfl ?_
  rintro w4 ⟨S10,h⟩
  refine X0 8 rfl ?_
  obtain ⟨S11,h⟩:=h.gatherT 4 [3] (qst (⟨x2,x3,x4⟩:qr) h (qae 2 h rfl) (qae 1 h rfl) (qae 0 h rfl) (by rfl) (by rfl)) rfl
  replace h:=h.put
  obtain ⟨S12,h⟩:=qpz (S:=_) h
  exact rK ⟨_,_,_,_,hF,rfl,h⟩ rfl
 refine qq rfl ?_
 obtain rfl:=qb hF;replace hF:=hK1
 refine X0 5 rfl ?_
 obtain rfl:=qb hF
 exact qit qa ⟨_,h⟩ ⟨rfl,trivial⟩
def qex (a:(List qF)):Nat→(List qF)→Int→Int→Option ((List qF) × Int × Int)
 | 0,_,_,_=>none
 | n+1,x1,i1,i2 =>
  bif decide (i2<(a.length:Int)) then
   (idx x1 i2).bind fun y1 =>
   (qhZ n y1.Bn (W64 ((W64 ((W64 ((W64 (i1+1))+1))+1))+1))).bind fun o=>match o with
    | (r1,x2) =>
     (qhZ n y1.Bc r1).bind fun o=>match o with
      | (r2,x3) =>
       qex a n (setS x1 i2 (⟨i1,W64 (i1+1),W64 ((W64 (i1+1))+1),W64 ((W64 ((W64 (i1+1))+1))+1),x2,x3⟩:qF)) r2 (W64 (i2+1))
  else
   some (x1,i1,i2)
def qlK (n:Nat) (a:(List qF)) (k:Int):Option (Int × (List qF)) :=
 (qex a n a k 0).bind fun o=>match o with
 | (x1,i1,_) =>
  some (i1,x1)
theorem qoD {n:Nat} {w0 w:World} {F:List Ch} {a:(List qF)} {k:Int} {S1:Nat→Prop} {p1:Option Addr} {ln1 k1:Nat} (h:SH w0 w (Ch.own S1 (a:List qF) [.slice p1 ln1 k1]::F)) {r:(Int × (List qF))} (hF:qlK n a k=some r):RetN Tryz.prog 174 [.slice p1 ln1 k1,.int .i64 k] w (fun w'=>∃ Z0:Nat→Prop,SH w0 w' (Ch.own Z0 (r.2:List qF) [.slice p1 ln1 k1]::F)) r.1:=by
 refine qb9 Tryz.func174 rfl (m:=55) rfl rfl ?_
 obtain rfl:=(h.sl 0 rfl).2
 refine X0 9 rfl ?_
 obtain ⟨o1,hF,hK1⟩:=qc hF
 refine qm (rL (fun m e w'=>∃ (S2:Nat→Prop) (x1:(List qF)) (i1:Int) (i2:Int),qex a m x1 i1 i2=some o1∧e=[(0,.slice p1 a.length k1),(1,.int .i64 i1),(5,.int .i64 i2)]∧SH w0 w' (Ch.own S2 (x1:List qF) [.slice p1 a.length k1]::F)) n ⟨_,_,_,_,hF,rfl,h⟩ rfl ?_)
 rintro m1 e1 w1 ⟨S2,x1,i1,i2,hF,rfl,h⟩
 rcases m1 with _|m1
 ·cases hF
 refine X0 8 rfl (qh rfl hF ?_ ?_)<;>intro hF
 ·refine X0 8 rfl ?_
  obtain ⟨y1,hy1,hF⟩:=qc hF
  have he1:=qcG hy1
  obtain ⟨S3,S4,cs1,h⟩:=h.take hy1
  obtain ⟨p2,k2,p3,k3,rfl,-,-⟩:=qag (h.own 0 rfl)
  obtain ⟨S5,S6,h⟩:=quX h
  obtain ⟨b1,hp1,-,-,hl2⟩:=h.holeAt 2 rfl
  obtain ⟨q1,hq1⟩:∃ q,q=0+(i2).toNat*GoT.k qF:=⟨_,rfl⟩
  refine zx hp1 hq1 ⟨he1.1,qC he1.2.1 hl2⟩ rfl (zp1 rfl (qgW qa 2 0 h rfl hp1 hq1 rfl rfl rfl rfl rfl rfl fun w2 h=>?_))
  replace h:SH _ _ (Ch.own S6 (y1.Bc:List qr) [.slice p3 y1.Bc.length k3]::Ch.own S5 (y1.Bn:List qr) [.slice p2 y1.Bn.length k2]::Ch.hole S4 (x1:List qF) p1 a.length k1 (i2).toNat [.int .i64 i1,.int .i64 y1.Bk,.int .i64 y1.To,.int .i64 y1.Bp,.slice p2 y1.Bn.length k2,.slice p3 y1.Bc.length k3]::F):=h
  refine X0 12 rfl ?_
  obtain ⟨b2,hp2,-,-,hl4⟩:=h.holeAt 2 rfl
  obtain ⟨q2,hq2⟩:∃ q,q=0+(i2).toNat*GoT.k qF:=⟨_,rfl⟩
  refine zx hp2 hq2 ⟨he1.1,qC he1.2.1 hl4⟩ rfl (zp1 rfl (qgW qa 2 1 h rfl hp2 hq2 rfl rfl rfl rfl rfl rfl fun w3 h=>X0 12 rfl ?_))
  obtain ⟨b3,hp3,-,-,hl6⟩:=h.holeAt 2 rfl
  obtain ⟨q3,hq3⟩:∃ q,q=0+(i2).toNat*GoT.k qF:=⟨_,rfl⟩
  refine zx hp3 hq3 ⟨he1.1,qC he1.2.1 hl6⟩ rfl (zp1 rfl (qgW qa 2 2 h rfl hp3 hq3 rfl rfl rfl rfl rfl rfl fun w4 h=>X0 12 rfl ?_))
  obtain ⟨b4,hp4,-,-,hl8⟩:=h.holeAt 2 rfl
  obtain ⟨q4,hq4⟩:∃ q,q=0+(i2).toNat*GoT.k qF:=⟨_,rfl⟩
  refine zx hp4 hq4 ⟨he1.1,qC he1.2.1 hl8⟩ rfl (zp1 rfl (qgW qa 2 3 h rfl hp4 hq4 rfl rfl rfl rfl rfl rfl fun w5 h=>?_))
  replace h:SH _ _ (Ch.own S6 (y1.Bc:List qr) [.slice p3 y1.Bc.length k3]::Ch.own S5 (y1.Bn:List qr) [.slice p2 y1.Bn.length k2]::Ch.hole S4 (x1:List qF) p1 a.length k1 (i2).toNat [.int .i64 i1,.int .i64 (W64 (i1+1)),.int .i64 (W64 ((W64 (i1+1))+1)),.int .i64 (W64 ((W64 ((W64 (i1+1))+1))+1)),.slice p2 y1.Bn.length k2,.slice p3 y1.Bc.length k3]::F):=h
  refine X0 11 rfl ?_
  obtain ⟨b5,hp5,-,-,hl10⟩:=h.holeAt 2 rfl
  obtain ⟨q5,hq5⟩:∃ q,q=0+(i2).toNat*GoT.k qF:=⟨_,rfl⟩
  refine zx hp5 hq5 ⟨he1.1,qC he1.2.1 hl10⟩ rfl (zp1 rfl (zc 4 (qcF h 2 rfl hp5 hq5) rfl (zp1 rfl ?_)))
  replace h:=h.pickT 3 [1,0,2] rfl
  obtain ⟨o2,hr1,hF⟩:=qc hF
  obtain ⟨r1,x2⟩:=o2
  refine qb7 r1 (cB 203 rfl) (qka h hr1) rfl rfl rfl rfl ?_
  rintro w6 ⟨S7,h⟩
  refine X0 5 rfl ?_
  obtain ⟨b6,hp6,-,-,hl12⟩:=h.holeAt 2 rfl
  obtain ⟨q6,hq6⟩:∃ q,q=0+(i2).toNat*GoT.k qF:=⟨_,rfl⟩
  refine zx hp6 hq6 ⟨he1.1,qC he1.2.1 hl12⟩ rfl (zp1 rfl (zc 5 (qcF h 2 rfl hp6 hq6) rfl (zp1 rfl ?_)))
  replace h:=h.pickT 3 [1,0,2] rfl
  obtain ⟨o3,hr2,hF⟩:=qc hF
  obtain ⟨r2,x3⟩:=o3
  refine qb7 r2 (cB 203 rfl) (qka h hr2) rfl rfl rfl rfl ?_
  rintro w7 ⟨S8,h⟩
  refine X0 8 rfl ?_
  obtain ⟨S9,h⟩:=h.gatherT 3 [2] (qvD (⟨i1,W64 (i1+1),W64 ((W64 (i1+1))+1),W64 ((W64 ((W64 (i1+1))+1))+1),x2,x3⟩:qF) h (qx (S:=fun _=>False) rfl) (qx (S:=fun _=>False) rfl) (qx (S:=fun _=>False) rfl) (qx (S:=fun _=>False) rfl) (qae 1 h rfl) (qae 0 h rfl) (by rfl) (by rfl) (by rfl) (by rfl) (by rfl)) rfl
  replace h:=h.put
  obtain ⟨S10,h⟩:=qpz (S:=_) h
  exact rK ⟨_,_,_,_,hF,rfl,h⟩ rfl
 refine qq rfl ?_
 obtain rfl:=qb hF;replace hF:=hK1
 refine X0 5 rfl ?_
 obtain rfl:=qb hF
 exact qit qa ⟨_,h⟩ ⟨rfl,trivial⟩
def qdB (a:(List qw)):Nat→(List qw)→Int→Int→Option ((List qw) × Int × Int)
 | 0,_,_,_=>none
 | n+1,x1,i1,i2 =>
  bif decide (i2<(a.length:Int)) then
   (qeb n i1).bind fun r1 =>
   (idx x1 i2).bind fun y1 =>
   (qlM n y1.Bd (W64 ((W64 (i1+1))+1))).bind fun o=>match o with
    | (r2,x2) =>
     (qlK n y1.Au r2).bind fun o=>match o with
      | (r3,x3) =>
       (qaD n y1.Bo r3).bind fun o=>match o with
        | (r4,x4) =>
         qdB a n (setS x1 i2 (⟨r1,W64 (i1+1),x2,x3,x4,r4,W64 (r4+1)⟩:qw)) (W64 ((W64 (r4+1))+1)) (W64 (i2+1))
  else
   some (x1,i1,i2)
def qkN (n:Nat) (a:(List qw)) (k:Int):Option (Int × (List qw)) :=
 (qdB a n a k 0).bind fun o=>match o with
 | (x1,i1,_) =>
  some (i1,x1)
theorem qok {n:Nat} {w0 w:World} {F:List Ch} {a:(List qw)} {k:Int} {S1:Nat→Prop} {p1:Option Addr} {ln1 k1:Nat} (h:SH w0 w (Ch.own S1 (a:List qw) [.slice p1 ln1 k1]::F)) {r:(Int × (List qw))} (hF:qkN n a k=some r):RetN Tryz.prog 136 [.slice p1 ln1 k1,.int .i64 k] w (fun w'=>∃ Z0:Nat→Prop,SH w0 w' (Ch.own Z0 (r.2:List qw) [.slice p1 ln1 k1]::F)) r.1:=by
 refine qb9 Tryz.func136 rfl (m:=63) rfl rfl ?_
 obtain rfl:=(h.sl 0 rfl).2
 refine X0 9 rfl ?_
 obtain ⟨o1,hF,hK1⟩:=qc hF
 refine qm (rL (fun m e w'=>∃ (S2:Nat→Prop) (x1:(List qw)) (i1:Int) (i2:Int),qdB a m x1 i1 i2=some o1∧e=[(0,.slice p1 a.length k1),(1,.int .i64 i1),(5,.int .i64 i2)]∧SH w0 w' (Ch.own S2 (x1:List qw) [.slice p1 a.length k1]::F)) n ⟨_,_,_,_,hF,rfl,h⟩ rfl ?_)
 rintro m1 e1 w1 ⟨S2,x1,i1,i2,hF,rfl,h⟩
 rcases m1 with _|m1
 ·cases hF
 refine X0 8 rfl (qh rfl hF ?_ ?_)<;>intro hF
 ·refine X0 8 rfl (zcS h hF qfN rfl fun r1 w2 h hF=>?_)
  obtain ⟨y1,hy1,hF⟩:=qc hF
  have he1:=qcG hy1
  obtain ⟨S3,S4,cs1,h⟩:=h.take hy1
  obtain ⟨p2,k2,p3,k3,p4,k4,rfl,-,-,-⟩:=qac (h.own 0 rfl)
  obtain ⟨S5,S6,S7,h⟩:=quj h
  obtain ⟨b1,hp1,-,-,hl2⟩:=h.holeAt 3 rfl
  obtain ⟨q1,hq1⟩:∃ q,q=0+(i2).toNat*GoT.k qw:=⟨_,rfl⟩
  refine zx hp1 hq1 ⟨he1.1,qC he1.2.1 hl2⟩ rfl (zp1 rfl (qgW qa 3 0 h rfl hp1 hq1 rfl rfl rfl rfl rfl rfl fun w3 h=>?_))
  replace h:SH _ _ (Ch.own S7 (y1.Bo:List Int) [.slice p4 y1.Bo.length k4]::Ch.own S6 (y1.Au:List qF) [.slice p3 y1.Au.length k3]::Ch.own S5 (y1.Bd:List qal) [.slice p2 y1.Bd.length k2]::Ch.hole S4 (x1:List qw) p1 a.length k1 (i2).toNat [.string r1,.int .i64 y1.Be,.slice p2 y1.Bd.length k2,.slice p3 y1.Au.length k3,.slice p4 y1.Bo.length k4,.int .i64 y1.Ca,.int .i64 y1.Bu]::F):=h
  refine X0 12 rfl ?_
  obtain ⟨b2,hp2,-,-,hl4⟩:=h.holeAt 3 rfl
  obtain ⟨q2,hq2⟩:∃ q,q=0+(i2).toNat*GoT.k qw:=⟨_,rfl⟩
  refine zx hp2 hq2 ⟨he1.1,qC he1.2.1 hl4⟩ rfl (zp1 rfl (qgW qa 3 1 h rfl hp2 hq2 rfl rfl rfl rfl rfl rfl fun w4 h=>X0 11 rfl ?_))
  obtain ⟨b3,hp3,-,-,hl6⟩:=h.holeAt 3 rfl
  obtain ⟨q3,hq3⟩:∃ q,q=0+(i2).toNat*GoT.k qw:=⟨_,rfl⟩
  refine zx hp3 hq3 ⟨he1.1,qC he1.2.1 hl6⟩ rfl (zp1 rfl (zc 2 (qcF h 3 rfl hp3 hq3) rfl (zp1 rfl ?_)))
  replace h:=h.pickT 4 [2,0,1,3] rfl
  obtain ⟨o2,hr2,hF⟩:=qc hF
  obtain ⟨r2,x2⟩:=o2
  refine qb7 r2 (cB 173 rfl) (qoK h hr2) rfl rfl rfl rfl ?_
  rintro w5 ⟨S8,h⟩
  refine X0 6 rfl ?_
  obtain ⟨b4,hp4,-,-,hl8⟩:=h.holeAt 3 rfl
  obtain ⟨q4,hq4⟩:∃ q,q=0+(i2).toNat*GoT.k qw:=⟨_,rfl⟩
  refine zx hp4 hq4 ⟨he1.1,qC he1.2.1 hl8⟩ rfl (zp1 rfl (zc 3 (qcF h 3 rfl hp4 hq4) rfl (zp1 rfl ?_)))
  replace h:=h.pickT 4 [2,0,1,3] rfl
  obtain ⟨o3,hr3,hF⟩:=qc hF
  obtain ⟨r3,x3⟩:=o3
  refine qb7 r3 (cB 174 rfl) (qoD h hr3) rfl rfl rfl rfl ?_
  rintro w6 ⟨S9,h⟩
  refine X0 6 rfl ?_
  obtain ⟨b5,hp5,-,-,hl10⟩:=h.holeAt 3 rfl
  obtain ⟨q5,hq5⟩:∃ q,q=0+(i2).toNat*GoT.k qw:=⟨_,rfl⟩
  refine zx hp5 hq5 ⟨he1.1,qC he1.2.1 hl10⟩ rfl (zp1 rfl (zc 4 (qcF h 3 rfl hp5 hq5) rfl (zp1 rfl ?_)))
  replace h:=h.pickT 4 [2,0,1,3] rfl
  obtain ⟨o4,hr4,hF⟩:=qc hF
  obtain ⟨r4,x4⟩:=o4
  refine qb7 r4 (cB 23 rfl) (qaC h hr4) rfl rfl rfl rfl ?_
  rintro w7 ⟨S10,h⟩
  refine X0 7 rfl ?_
  obtain ⟨b6,hp6,-,-,hl12⟩:=h.holeAt 3 rfl
  obtain ⟨q6,hq6⟩:∃ q,q=0+(i2).toNat*GoT.k qw:=⟨_,rfl⟩
  refine zx hp6 hq6 ⟨he1.1,qC he1.2.1 hl12⟩ rfl (zp1 rfl (qgW qa 3 5 h rfl hp6 hq6 rfl rfl rfl rfl rfl rfl fun w8 h=>X0 12 rfl ?_))
  obtain ⟨b7,hp7,-,-,hl14⟩:=h.holeAt 3 rfl
  obtain ⟨q7,hq7⟩:∃ q,q=0+(i2).toNat*GoT.k qw:=⟨_,rfl⟩
  refine zx hp7 hq7 ⟨he1.1,qC he1.2.1 hl14⟩ rfl (zp1 rfl (qgW qa 3 6 h rfl hp7 hq7 rfl rfl rfl rfl rfl rfl fun w9 h=>?_))
  replace h:SH _ _ (Ch.own S10 (x4:List Int) [.slice p4 y1.Bo.length k4]::Ch.own S9 (x3:List qF) [.slice p3 y1.Au.length k3]::Ch.own S8 (x2:List qal) [.slice p2 y1.Bd.length k2]::Ch.hole S4 (x1:List qw) p1 a.length k1 (i2).toNat [.string r1,.int .i64 (W64 (i1+1)),.slice p2 y1.Bd.length k2,.slice p3 y1.Au.length k3,.slice p4 y1.Bo.length k4,.int .i64 r4,.int .i64 (W64 (r4+1))]::F):=h
  refine X0 12 rfl ?_
  obtain ⟨S11,h⟩:=h.gatherT 4 [3] (qtY (⟨r1,W64 (i1+1),x2,x3,x4,r4,W64 (r4+1)⟩:qw) h (qx (S:=fun _=>False) rfl) (qx (S:=fun _=>False) rfl) (qae 2 h rfl) (qae 1 h rfl) (qae 0 h rfl) (qx (S:=fun _=>False) rfl) (qx (S:=fun _=>False) rfl) (by rfl) (by rfl) (by rfl) (by rfl) (by rfl) (by rfl)) rfl
  replace h:=h.put
  obtain ⟨S12,h⟩:=qpz (S:=_) h
  exact rK ⟨_,_,_,_,hF,rfl,h⟩ rfl
 refine qq rfl ?_
 obtain rfl:=qb hF;replace hF:=hK1
 refine X0 5 rfl ?_
 obtain rfl:=qb hF
 exact qit qa ⟨_,h⟩ ⟨rfl,trivial⟩
def qhg (n:Nat) (a:qn) (k:Int):Option (Int × (List qw)) :=
 (qkN n a.Ar k).bind fun o=>match o with
  | (r1,x1) =>
   some (r1,x1)
theorem qnA {n:Nat} {w0 w:World} {F:List Ch} {a:qn} {k:Int} {S1:Nat→Prop} {p1:Option Addr} {ln1 k1:Nat} (h:SH w0 w (Ch.own S1 (a.Ar:List qw) [.slice p1 ln1 k1]::F)) {r:(Int × (List qw))} (hF:qhg n a k=some r):RetN Tryz.prog 82 [.agg #[.slice p1 ln1 k1],.int .i64 k] w (fun w'=>∃ Z0:Nat→Prop,SH w0 w' (Ch.own Z0 (r.2:List qw) [.slice p1 ln1 k1]::F)) r.1:=by
 refine qb9 Tryz.func82 rfl (m:=10) rfl rfl ?_
 obtain rfl:=(h.sl 0 rfl).2
 refine zSR (qv h rfl rfl fun w1 bb1 h=>X1 7 0 h rfl ?_)
 replace h:=h.pickT 2 [1,0] rfl
 obtain ⟨o1,hr1,hF⟩:=qc hF
 obtain ⟨r1,x1⟩:=o1
 refine qb7 r1 (cB 136 rfl) (qok h hr1) rfl rfl rfl rfl ?_
 rintro w2 ⟨S2,h⟩
 refine X0 7 rfl ?_
 obtain rfl:=qb hF
 replace h:=h.pickT 2 [0] rfl
 exact qit qa ⟨_,h⟩ ⟨rfl,trivial⟩
def qcb (a:(List qi)):Nat→(List qi)→Int→Int→Option ((List qi) × Int × Int)
 | 0,_,_,_=>none
 | n+1,x1,i1,i2 =>
  bif decide (i2<(a.length:Int)) then
   (qeb n i1).bind fun r1 =>
   (idx x1 i2).bind fun y1 =>
   (qaD n y1.Ak (W64 ((W64 (i1+1))+1))).bind fun o=>match o with
    | (r2,x2) =>
     qcb a n (setS x1 i2 (⟨r1,W64 (i1+1),x2⟩:qi)) r2 (W64 (i2+1))
  else
   some (x1,i1,i2)
def qif (n:Nat) (a:(List qi)) (k:Int):Option (Int × (List qi)) :=
 (qcb a n a k 0).bind fun o=>match o with
 | (x1,i1,_) =>
  some (i1,x1)
theorem qmz {n:Nat} {w0 w:World} {F:List Ch} {a:(List qi)} {k:Int} {S1:Nat→Prop} {p1:Option Addr} {ln1 k1:Nat} (h:SH w0 w (Ch.own S1 (a:List qi) [.slice p1 ln1 k1]::F)) {r:(Int × (List qi))} (hF:qif n a k=some r):RetN Tryz.prog 137 [.slice p1 ln1 k1,.int .i64 k] w (fun w'=>∃ Z0:Nat→Prop,SH w0 w' (Ch.own Z0 (r.2:List qi) [.slice p1 ln1 k1]::F)) r.1:=by
 refine qb9 Tryz.func137 rfl (m:=35) rfl rfl ?_
 obtain rfl:=(h.sl 0 rfl).2
 refine X0 9 rfl ?_
 obtain ⟨o1,hF,hK1⟩:=qc hF
 refine qm (rL (fun m e w'=>∃ (S2:Nat→Prop) (x1:(List qi)) (i1:Int) (i2:Int),qcb a m x1 i1 i2=some o1∧e=[(0,.slice p1 a.length k1),(1,.int .i64 i1),(5,.int .i64 i2)]∧SH w0 w' (Ch.own S2 (x1:List qi) [.slice p1 a.length k1]::F)) n ⟨_,_,_,_,hF,rfl,h⟩ rfl ?_)
 rintro m1 e1 w1 ⟨S2,x1,i1,i2,hF,rfl,h⟩
 rcases m1 with _|m1
 ·cases hF
 refine X0 8 rfl (qh rfl hF ?_ ?_)<;>intro hF
 ·refine X0 8 rfl (zcS h hF qfN rfl fun r1 w2 h hF=>?_)
  obtain ⟨y1,hy1,hF⟩:=qc hF
  have he1:=qcG hy1
  obtain ⟨S3,S4,cs1,h⟩:=h.take hy1
  obtain ⟨p2,k2,rfl,-⟩:=qP (h.own 0 rfl)
  obtain ⟨S5,h⟩:=qqn h
  obtain ⟨b1,hp1,-,-,hl2⟩:=h.holeAt 1 rfl
  obtain ⟨q1,hq1⟩:∃ q,q=0+(i2).toNat*GoT.k qi:=⟨_,rfl⟩
  refine zx hp1 hq1 ⟨he1.1,qC he1.2.1 hl2⟩ rfl (zp1 rfl (qgW qa 1 0 h rfl hp1 hq1 rfl rfl rfl rfl rfl rfl fun w3 h=>X0 12 rfl ?_))
  obtain ⟨b2,hp2,-,-,hl4⟩:=h.holeAt 1 rfl
  obtain ⟨q2,hq2⟩:∃ q,q=0+(i2).toNat*GoT.k qi:=⟨_,rfl⟩
  refine zx hp2 hq2 ⟨he1.1,qC he1.2.1 hl4⟩ rfl (zp1 rfl (qgW qa 1 1 h rfl hp2 hq2 rfl rfl rfl rfl rfl rfl fun w4 h=>?_))
  replace h:SH _ _ (Ch.own S5 (y1.Ak:List Int) [.slice p2 y1.Ak.length k2]::Ch.hole S4 (x1:List qi) p1 a.length k1 (i2).toNat [.string r1,.int .i64 (W64 (i1+1)),.slice p2 y1.Ak.length k2]::F):=h
  refine X0 10 rfl ?_
  obtain ⟨b3,hp3,-,-,hl6⟩:=h.holeAt 1 rfl
  obtain ⟨q3,hq3⟩:∃ q,q=0+(i2).toNat*GoT.k qi:=⟨_,rfl⟩
  refine zx hp3 hq3 ⟨he1.1,qC he1.2.1 hl6⟩ rfl (zp1 rfl (zc 2 (qcF h 1 rfl hp3 hq3) rfl (zp1 rfl ?_)))
  obtain ⟨o2,hr2,hF⟩:=qc hF
  obtain ⟨r2,x2⟩:=o2
  refine qb7 r2 (cB 23 rfl) (qaC h hr2) rfl rfl rfl rfl ?_
  rintro w5 ⟨S6,h⟩
  refine X0 8 rfl ?_
  obtain ⟨S7,h⟩:=h.gatherT 2 [1] (qpd (⟨r1,W64 (i1+1),x2⟩:qi) h (qx (S:=fun _=>False) rfl) (qx (S:=fun _=>False) rfl) (qae 0 h rfl) (by rfl) (by rfl)) rfl
  replace h:=h.put
  obtain ⟨S8,h⟩:=qpz (S:=_) h
  exact rK ⟨_,_,_,_,hF,rfl,h⟩ rfl
 refine qq rfl ?_
 obtain rfl:=qb hF;replace hF:=hK1
 refine X0 5 rfl ?_
 obtain rfl:=qb hF
 exact qit qa ⟨_,h⟩ ⟨rfl,trivial⟩
def qcV (a:(List ByteArray)):Nat→(List ByteArray)→Int→Int→Option ((List ByteArray) × Int × Int)
 | 0,_,_,_=>none
 | n+1,x1,i1,i2 =>
  bif decide (i2<(a.length:Int)) then
   (qeb n i1).bind fun r1 =>
   (idx x1 i2).bind fun _ =>
   qcV a n (setS x1 i2 r1) (W64 (i1+1)) (W64 (i2+1))
  else
   some (x1,i1,i2)
def qjc (n:Nat) (a:(List ByteArray)) (k:Int):Option (Int × (List ByteArray)) :=
 (qcV a n a k 0).bind fun o=>match o with
 | (x1,i1,_) =>
  some (i1,x1)
theorem qnw {n:Nat} {w0 w:World} {F:List Ch} {a:(List ByteArray)} {k:Int} {S1:Nat→Prop} {p1:Option Addr} {ln1 k1:Nat} (h:SH w0 w (Ch.own S1 (a:List ByteArray) [.slice p1 ln1 k1]::F)) {r:(Int × (List ByteArray))} (hF:qjc n a k=some r):RetN Tryz.prog 138 [.slice p1 ln1 k1,.int .i64 k] w (fun w'=>∃ Z0:Nat→Prop,SH w0 w' (Ch.own Z0 (r.2:List ByteArray) [.slice p1 ln1 k1]::F)) r.1:=by
 refine qb9 Tryz.func138 rfl (m:=20) rfl rfl ?_
 obtain rfl:=(h.sl 0 rfl).2
 refine X0 9 rfl ?_
 obtain ⟨o1,hF,hK1⟩:=qc hF
 refine qm (rL (fun m e w'=>∃ (x1:(List ByteArray)) (i1:Int) (i2:Int),qcV a m x1 i1 i2=some o1∧e=[(0,.slice p1 a.length k1),(1,.int .i64 i1),(5,.int .i64 i2)]∧SH w0 w' (Ch.own S1 (x1:List ByteArray) [.slice p1 a.length k1]::F)) n ⟨_,_,_,hF,rfl,h⟩ rfl ?_)
 rintro m1 e1 w1 ⟨x1,i1,i2,hF,rfl,h⟩
 rcases m1 with _|m1
 ·cases hF
 refine X0 8 rfl (qh rfl hF ?_ ?_)<;>intro hF
 ·refine X0 8 rfl (zcS h hF qfN rfl fun r1 w2 h hF=>?_)
  obtain ⟨y1,hy1,hF,he1,b1,_,q1,cs1,hp1,hq1,rfl,hc2⟩:=(h.sl 0 rfl).1.ix hF
  exact zx hp1 hq1 ⟨he1.1,qC he1.2.1 (h.sl 0 rfl).2⟩ rfl (qay qa 0 0 r1 h rfl hy1 hp1 hq1 rfl hc2 rfl rfl rfl rfl rfl rfl rfl fun w3 h=>X0 12 rfl (rK ⟨_,_,_,hF,rfl,h⟩ rfl))
 refine qq rfl ?_
 obtain rfl:=qb hF;replace hF:=hK1
 refine X0 5 rfl ?_
 obtain rfl:=qb hF
 exact qit qa ⟨_,h⟩ ⟨rfl,trivial⟩
def qdK (a:(List qL)):Nat→(List qL)→Int→Int→Option ((List qL) × Int × Int)
 | 0,_,_,_=>none
 | n+1,x1,i1,i2 =>
  bif decide (i2<(a.length:Int)) then
   (qeb n i1).bind fun r1 =>
   (idx x1 i2).bind fun y1 =>
   (idx (setS x1 i2 ({ y1 with Bb:=r1 })) i2).bind fun y2 =>
   (idx (setS (setS x1 i2 ({ y1 with Bb:=r1 })) i2 ({ y2 with Bv:=W64 (i1+1) })) i2).bind fun y3 =>
   qdK a n (setS (setS (setS x1 i2 ({ y1 with Bb:=r1 })) i2 ({ y2 with Bv:=W64 (i1+1) })) i2 ({ y3 with Bx:=W64 ((W64 (i1+1))+1) })) (W64 ((W64 ((W64 (i1+1))+1))+1)) (W64 (i2+1))
  else
   some (x1,i1,i2)
def qk4 (n:Nat) (a:(List qL)) (k:Int):Option (Int × (List qL)) :=
 (qdK a n a k 0).bind fun o=>match o with
 | (x1,i1,_) =>
  some (i1,x1)
theorem qot {n:Nat} {w0 w:World} {F:List Ch} {a:(List qL)} {k:Int} {S1:Nat→Prop} {p1:Option Addr} {ln1 k1:Nat} (h:SH w0 w (Ch.own S1 (a:List qL) [.slice p1 ln1 k1]::F)) {r:(Int × (List qL))} (hF:qk4 n a k=some r):RetN Tryz.prog 139 [.slice p1 ln1 k1,.int .i64 k] w (fun w'=>∃ Z0:Nat→Prop,SH w0 w' (Ch.own Z0 (r.2:List qL) [.slice p1 ln1 k1]::F)) r.1:=by
 refine qb9 Tryz.func139 rfl (m:=35) rfl rfl ?_
 obtain rfl:=(h.sl 0 rfl).2
 refine X0 9 rfl ?_
 obtain ⟨o1,hF,hK1⟩:=qc hF
 refine qm (rL (fun m e w'=>∃ (x1:(List qL)) (i1:Int) (i2:Int),qdK a m x1 i1 i2=some o1∧e=[(0,.slice p1 a.length k1),(1,.int .i64 i1),(5,.int .i64 i2)]∧SH w0 w' (Ch.own S1 (x1:List qL) [.slice p1 a.length k1]::F)) n ⟨_,_,_,hF,rfl,h⟩ rfl ?_)
 rintro m1 e1 w1 ⟨x1,i1,i2,hF,rfl,h⟩
 rcases m1 with _|m1
 ·cases hF
 refine X0 8 rfl (qh rfl hF ?_ ?_)<;>intro hF
 ·refine X0 8 rfl (zcS h hF qfN rfl fun r1 w2 h hF=>?_)
  obtain ⟨y1,hy1,hF,he1,b1,_,q1,cs1,hp1,hq1,hr2,hc2⟩:=(h.sl 0 rfl).1.ix hF
  obtain rfl:=qaV hr2
  refine zx hp1 hq1 ⟨he1.1,qC he1.2.1 (h.sl 0 rfl).2⟩ rfl (zp1 rfl (qay qa 0 0 ({ y1 with Bb:=r1 }:qL) h rfl hy1 hp1 hq1 (qev y1) hc2 rfl rfl rfl (qev ({ y1 with Bb:=r1 })) rfl rfl rfl fun w3 h=>X0 12 rfl ?_))
  obtain ⟨y2,hy2,hF,he2,b2,_,q2,cs2,hp2,hq2,hr3,hc3⟩:=(h.sl 0 rfl).1.ix hF
  obtain rfl:=qaV hr3
  refine zx hp2 hq2 ⟨he2.1,qC he2.2.1 (h.sl 0 rfl).2⟩ rfl (zp1 rfl (qay qa 0 1 ({ y2 with Bv:=W64 (i1+1) }:qL) h rfl hy2 hp2 hq2 (qev y2) hc3 rfl rfl rfl (qev ({ y2 with Bv:=W64 (i1+1) })) rfl rfl rfl fun w4 h=>X0 12 rfl ?_))
  obtain ⟨y3,hy3,hF,he3,b3,_,q3,cs3,hp3,hq3,hr4,hc4⟩:=(h.sl 0 rfl).1.ix hF
  obtain rfl:=qaV hr4
  exact zx hp3 hq3 ⟨he3.1,qC he3.2.1 (h.sl 0 rfl).2⟩ rfl (zp1 rfl (qay qa 0 2 ({ y3 with Bx:=W64 ((W64 (i1+1))+1) }:qL) h rfl hy3 hp3 hq3 (qev y3) hc4 rfl rfl rfl (qev ({ y3 with Bx:=W64 ((W64 (i1+1))+1) })) rfl rfl rfl fun w5 h=>X0 12 rfl (rK ⟨_,_,_,hF,rfl,h⟩ rfl)))
 refine qq rfl ?_
 obtain rfl:=qb hF;replace hF:=hK1
 refine X0 5 rfl ?_
 obtain rfl:=qb hF
 exact qit qa ⟨_,h⟩ ⟨rfl,trivial⟩
def qh3 (n:Nat) (a:qd) (k:Int):Option (Int × (List qi) × (List ByteArray) × (List qL)) :=
 (qif n a.Aa k).bind fun o=>match o with
  | (r1,x1) =>
   (qjc n a.Ak r1).bind fun o=>match o with
    | (r2,x2) =>
     (qk4 n a.Aj r2).bind fun o=>match o with
      | (r3,x3) =>
       some (r3,x1,x2,x3)
theorem qnX {n:Nat} {w0 w:World} {F:List Ch} {a:qd} {k:Int} {S1:Nat→Prop} {p1:Option Addr} {ln1 k1:Nat} {S2:Nat→Prop} {p2:Option Addr} {ln2 k2:Nat} {S3:Nat→Prop} {p3:Option Addr} {ln3 k3:Nat} (h:SH w0 w (Ch.own S3 (a.Aj:List qL) [.slice p3 ln3 k3]::Ch.own S2 (a.Ak:List ByteArray) [.slice p2 ln2 k2]::Ch.own S1 (a.Aa:List qi) [.slice p1 ln1 k1]::F)) {r:(Int × (List qi) × (List ByteArray) × (List qL))} (hF:qh3 n a k=some r):RetN Tryz.prog 83 [.agg #[.slice p1 ln1 k1,.slice p2 ln2 k2,.slice p3 ln3 k3],.int .i64 k] w (fun w'=>∃ Z0 Z1 Z2:Nat→Prop,SH w0 w' (Ch.own Z2 (r.2.2.2:List qL) [.slice p3 ln3 k3]::Ch.own Z1 (r.2.2.1:List ByteArray) [.slice p2 ln2 k2]::Ch.own Z0 (r.2.1:List qi) [.slice p1 ln1 k1]::F)) r.1:=by
 refine qb9 Tryz.func83 rfl (m:=18) rfl rfl ?_
 obtain rfl:=(h.sl 0 rfl).2
 obtain rfl:=(h.sl 1 rfl).2
 obtain rfl:=(h.sl 2 rfl).2
 refine zSR (qv h rfl rfl fun w1 bb1 h=>X1 7 0 h rfl ?_)
 replace h:=h.pickT 4 [3,0,1,2] rfl
 obtain ⟨o1,hr1,hF⟩:=qc hF
 obtain ⟨r1,x1⟩:=o1
 refine qb7 r1 (cB 137 rfl) (qmz h hr1) rfl rfl rfl rfl ?_
 rintro w2 ⟨S4,h⟩
 refine X1 7 1 h rfl ?_
 replace h:=h.pickT 4 [3,0,1,2] rfl
 obtain ⟨o2,hr2,hF⟩:=qc hF
 obtain ⟨r2,x2⟩:=o2
 refine qb7 r2 (cB 138 rfl) (qnw h hr2) rfl rfl rfl rfl ?_
 rintro w3 ⟨S5,h⟩
 refine X1 7 2 h rfl ?_
 replace h:=h.pickT 4 [3,0,1,2] rfl
 obtain ⟨o3,hr3,hF⟩:=qc hF
 obtain ⟨r3,x3⟩:=o3
 refine qb7 r3 (cB 139 rfl) (qot h hr3) rfl rfl rfl rfl ?_
 rintro w4 ⟨S6,h⟩
 refine X0 7 rfl ?_
 obtain rfl:=qb hF
 replace h:=h.pickT 4 [0,1,2] rfl
 exact qit qa ⟨_,_,_,h⟩ ⟨rfl,trivial⟩
def qdD (a:(List qD)):Nat→(List qD)→Int→Int→Option ((List qD) × Int × Int)
 | 0,_,_,_=>none
 | n+1,x1,i1,i2 =>
  bif decide (i2<(a.length:Int)) then
   (idx x1 i2).bind fun y1 =>
   (qaD n y1.Am i1).bind fun o=>match o with
    | (r1,x2) =>
     (qaD n y1.Bw r1).bind fun o=>match o with
      | (r2,x3) =>
       (qaD n y1.Bs r2).bind fun o=>match o with
        | (r3,x4) =>
         (qaD n y1.Bl r3).bind fun o=>match o with
          | (r4,x5) =>
           qdD a n (setS x1 i2 (⟨x2,x3,x4,x5⟩:qD)) r4 (W64 (i2+1))
  else
   some (x1,i1,i2)
def qkW (n:Nat) (a:(List qD)) (k:Int):Option (Int × (List qD)) :=
 (qdD a n a k 0).bind fun o=>match o with
 | (x1,i1,_) =>
  some (i1,x1)
theorem qor {n:Nat} {w0 w:World} {F:List Ch} {a:(List qD)} {k:Int} {S1:Nat→Prop} {p1:Option Addr} {ln1 k1:Nat} (h:SH w0 w (Ch.own S1 (a:List qD) [.slice p1 ln1 k1]::F)) {r:(Int × (List qD))} (hF:qkW n a k=some r):RetN Tryz.prog 84 [.slice p1 ln1 k1,.int .i64 k] w (fun w'=>∃ Z0:Nat→Prop,SH w0 w' (Ch.own Z0 (r.2:List qD) [.slice p1 ln1 k1]::F)) r.1:=by
 refine qb9 Tryz.func84 rfl (m:=41) rfl rfl ?_
 obtain rfl:=(h.sl 0 rfl).2
 refine X0 9 rfl ?_
 obtain ⟨o1,hF,hK1⟩:=qc hF
 refine qm (rL (fun m e w'=>∃ (S2:Nat→Prop) (x1:(List qD)) (i1:Int) (i2:Int),qdD a m x1 i1 i2=some o1∧e=[(0,.slice p1 a.length k1),(1,.int .i64 i1),(5,.int .i64 i2)]∧SH w0 w' (Ch.own S2 (x1:List qD) [.slice p1 a.length k1]::F)) n ⟨_,_,_,_,hF,rfl,h⟩ rfl ?_)
 rintro m1 e1 w1 ⟨S2,x1,i1,i2,hF,rfl,h⟩
 rcases m1 with _|m1
 ·cases hF
 refine X0 8 rfl (qh rfl hF ?_ ?_)<;>intro hF
 ·refine X0 7 rfl ?_
  obtain ⟨y1,hy1,hF⟩:=qc hF
  have he1:=qcG hy1
  obtain ⟨S3,S4,cs1,h⟩:=h.take hy1
  obtain ⟨p2,k2,p3,k3,p4,k4,p5,k5,rfl,-,-,-,-⟩:=qaM (h.own 0 rfl)
  obtain ⟨S5,S6,S7,S8,h⟩:=qtZ h
  obtain ⟨b1,hp1,-,-,hl2⟩:=h.holeAt 4 rfl
  obtain ⟨q1,hq1⟩:∃ q,q=0+(i2).toNat*GoT.k qD:=⟨_,rfl⟩
  refine zx hp1 hq1 ⟨he1.1,qC he1.2.1 hl2⟩ rfl (zp1 rfl (zc 0 (qcF h 4 rfl hp1 hq1) rfl (zp1 rfl ?_)))
  replace h:=h.pickT 5 [3,0,1,2,4] rfl
  obtain ⟨o2,hr1,hF⟩:=qc hF
  obtain ⟨r1,x2⟩:=o2
  refine qb7 r1 (cB 23 rfl) (qaC h hr1) rfl rfl rfl rfl ?_
  rintro w2 ⟨S9,h⟩
  refine X0 6 rfl ?_
  obtain ⟨b2,hp2,-,-,hl4⟩:=h.holeAt 4 rfl
  obtain ⟨q2,hq2⟩:∃ q,q=0+(i2).toNat*GoT.k qD:=⟨_,rfl⟩
  refine zx hp2 hq2 ⟨he1.1,qC he1.2.1 hl4⟩ rfl (zp1 rfl (zc 1 (qcF h 4 rfl hp2 hq2) rfl (zp1 rfl ?_)))
  replace h:=h.pickT 5 [3,0,1,2,4] rfl
  obtain ⟨o3,hr2,hF⟩:=qc hF
  obtain ⟨r2,x3⟩:=o3
  refine qb7 r2 (cB 23 rfl) (qaC h hr2) rfl rfl rfl rfl ?_
  rintro w3 ⟨S10,h⟩
  refine X0 6 rfl ?_
  obtain ⟨b3,hp3,-,-,hl6⟩:=h.holeAt 4 rfl
  obtain ⟨q3,hq3⟩:∃ q,q=0+(i2).toNat*GoT.k qD:=⟨_,rfl⟩
  refine zx hp3 hq3 ⟨he1.1,qC he1.2.1 hl6⟩ rfl (zp1 rfl (zc 2 (qcF h 4 rfl hp3 hq3) rfl (zp1 rfl ?_)))
  replace h:=h.pickT 5 [3,0,1,2,4] rfl
  obtain ⟨o4,hr3,hF⟩:=qc hF
  obtain ⟨r3,x4⟩:=o4
  refine qb7 r3 (cB 23 rfl) (qaC h hr3) rfl rfl rfl rfl ?_
  rintro w4 ⟨S11,h⟩
  refine X0 5 rfl ?_
  obtain ⟨b4,hp4,-,-,hl8⟩:=h.holeAt 4 rfl
  obtain ⟨q4,hq4⟩:∃ q,q=0+(i2).toNat*GoT.k qD:=⟨_,rfl⟩
  refine zx hp4 hq4 ⟨he1.1,qC he1.2.1 hl8⟩ rfl (zp1 rfl (zc 3 (qcF h 4 rfl hp4 hq4) rfl (zp1 rfl ?_)))
  replace h:=h.pickT 5 [3,0,1,2,4] rfl
  obtain ⟨o5,hr4,hF⟩:=qc hF
  obtain ⟨r4,x5⟩:=o5
  refine qb7 r4 (cB 23 rfl) (qaC h hr4) rfl rfl rfl rfl ?_
  rintro w5 ⟨S12,h⟩
  refine X0 8 rfl ?_
  obtain ⟨S13,h⟩:=h.gatherT 5 [4] (quI (⟨x2,x3,x4,x5⟩:qD) h (qae 3 h rfl) (qae 2 h rfl) (qae 1 h rfl) (qae 0 h rfl) (by rfl) (by rfl) (by rfl)) rfl
  replace h:=h.put
  obtain ⟨S14,h⟩:=qpz (S:=_) h
  exact rK ⟨_,_,_,_,hF,rfl,h⟩ rfl
 refine qq rfl ?_
 obtain rfl:=qb hF;replace hF:=hK1
 refine X0 5 rfl ?_
 obtain rfl:=qb hF
 exact qit qa ⟨_,h⟩ ⟨rfl,trivial⟩
def qiC (n:Nat) (a:qg) (k:Int):Option (Int × (List qw) × (List qi) × (List ByteArray) × (List qL) × (List qD)) :=
 (qhg n (⟨a.Av.Ar⟩:qn) k).bind fun o=>match o with
  | (r1,x1) =>
   (qh3 n (⟨a.Ab.Aa,a.Ab.Ak,a.Ab.Aj⟩:qd) r1).bind fun o=>match o with
    | (r2,x2,x3,x4) =>
     (qkW n a.Ac r2).bind fun o=>match o with
      | (r3,x5) =>
       some (r3,x1,x2,x3,x4,x5)
theorem qoe {n:Nat} {w0 w:World} {F:List Ch} {a:qg} {k:Int} {S1:Nat→Prop} {p1:Option Addr} {ln1 k1:Nat} {S2:Nat→Prop} {p2:Option Addr} {ln2 k2:Nat} {S3:Nat→Prop} {p3:Option Addr} {ln3 k3:Nat} {S4:Nat→Prop} {p4:Option Addr} {ln4 k4:Nat} {S5:Nat→Prop} {p5:Option Addr} {ln5 k5:Nat} (h:SH w0 w (Ch.own S5 (a.Ac:List qD) [.slice p5 ln5 k5]::Ch.own S4 (a.Ab.Aj:List qL) [.slice p4 ln4 k4]::Ch.own S3 (a.Ab.Ak:List ByteArray) [.slice p3 ln3 k3]::Ch.own S2 (a.Ab.Aa:List qi) [.slice p2 ln2 k2]::Ch.own S1 (a.Av.Ar:List qw) [.slice p1 ln1 k1]::F)) {r:(Int × (List qw) × (List qi) × (List ByteArray) × (List qL) × (List qD))} (hF:qiC n a k=some r):RetN Tryz.prog 54 [.agg #[.slice p1 ln1 k1,.slice p2 ln2 k2,.slice p3 ln3 k3,.slice p4 ln4 k4,.slice p5 ln5 k5],.int .i64 k] w (fun w'=>∃ Z0 Z1 Z2 Z3 Z4:Nat→Prop,SH w0 w' (Ch.own Z4 (r.2.2.2.2.2:List qD) [.slice p5 ln5 k5]::Ch.own Z3 (r.2.2.2.2.1:List qL) [.slice p4 ln4 k4]::Ch.own Z2 (r.2.2.2.1:List ByteArray) [.slice p3 ln3 k3]::Ch.own Z1 (r.2.2.1:List qi) [.slice p2 ln2 k2]::Ch.own Z0 (r.2.1:List qw) [.slice p1 ln1 k1]::F)) r.1:=by
 refine qb9 Tryz.func54 rfl (m:=18) rfl rfl ?_
 obtain rfl:=(h.sl 0 rfl).2
 obtain rfl:=(h.sl 1 rfl).2
 obtain rfl:=(h.sl 2 rfl).2
 obtain rfl:=(h.sl 3 rfl).2
 obtain rfl:=(h.sl 4 rfl).2
 refine zSR (qv h rfl rfl fun w1 bb1 h=>X1 7 0 h rfl ?_)
 replace h:=h.pickT 6 [5,0,1,2,3,4] rfl
 obtain ⟨o1,hr1,hF⟩:=qc hF
 obtain ⟨r1,x1⟩:=o1
 refine qb7 r1 (cB 82 rfl) (qnA h hr1) rfl rfl rfl rfl ?_
 rintro w2 ⟨S6,h⟩
 refine X1 7 1 h rfl ?_
 replace h:=h.pickT 6 [3,4,5,0,1,2] rfl
 obtain ⟨o2,hr2,hF⟩:=qc hF
 obtain ⟨r2,x2,x3,x4⟩:=o2
 refine qb7 r2 (cB 83 rfl) (qnX h hr2) rfl rfl rfl rfl ?_
 rintro w3 ⟨S7,S8,S9,h⟩
 refine X1 7 4 h rfl ?_
 replace h:=h.pickT 6 [5,0,1,2,3,4] rfl
 obtain ⟨o3,hr3,hF⟩:=qc hF
 obtain ⟨r3,x5⟩:=o3
 refine qb7 r3 (cB 84 rfl) (qor h hr3) rfl rfl rfl rfl ?_
 rintro w4 ⟨S10,h⟩
 refine X0 7 rfl ?_
 obtain rfl:=qb hF
 replace h:=h.pickT 6 [0,1,2,3,4] rfl
 exact qit qa ⟨_,_,_,_,_,h⟩ ⟨rfl,trivial⟩
def qcW (a:(List qe)):Nat→(List qe)→Int→Int→Option ((List qe) × Int × Int)
 | 0,_,_,_=>none
 | n+1,x1,i1,i2 =>
  bif decide (i2<(a.length:Int)) then
   (idx x1 i2).bind fun y1 =>
   (idx (setS x1 i2 ({ y1 with Bq:=i1 })) i2).bind fun y2 =>
   (idx (setS (setS x1 i2 ({ y1 with Bq:=i1 })) i2 ({ y2 with Ai:={ y2.Ai with Aq:=W64 (i1+1) } })) i2).bind fun y3 =>
   (idx (setS (setS (setS x1 i2 ({ y1 with Bq:=i1 })) i2 ({ y2 with Ai:={ y2.Ai with Aq:=W64 (i1+1) } })) i2 ({ y3 with Ai:={ y3.Ai with Bf:=W64 ((W64 (i1+1))+1) } })) i2).bind fun y4 =>
   (idx (setS (setS (setS (setS x1 i2 ({ y1 with Bq:=i1 })) i2 ({ y2 with Ai:={ y2.Ai with Aq:=W64 (i1+1) } })) i2 ({ y3 with Ai:={ y3.Ai with Bf:=W64 ((W64 (i1+1))+1) } })) i2 ({ y4 with Bc:={ y4.Bc with Aq:=W64 ((W64 ((W64 (i1+1))+1))+1) } })) i2).bind fun y5 =>
   qcW a n (setS (setS (setS (setS (setS x1 i2 ({ y1 with Bq:=i1 })) i2 ({ y2 with Ai:={ y2.Ai with Aq:=W64 (i1+1) } })) i2 ({ y3 with Ai:={ y3.Ai with Bf:=W64 ((W64 (i1+1))+1) } })) i2 ({ y4 with Bc:={ y4.Bc with Aq:=W64 ((W64 ((W64 (i1+1))+1))+1) } })) i2 ({ y5 with Bc:={ y5.Bc with Bf:=W64 ((W64 ((W64 ((W64 (i1+1))+1))+1))+1) } })) (W64 ((W64 ((W64 ((W64 ((W64 (i1+1))+1))+1))+1))+1)) (W64 (i2+1))
  else
   some (x1,i1,i2)
def qjd (n:Nat) (a:(List qe)) (k:Int):Option (Int × (List qe)) :=
 (qcW a n a k 0).bind fun o=>match o with
 | (x1,i1,_) =>
  some (i1,x1)
theorem qna {n:Nat} {w0 w:World} {F:List Ch} {a:(List qe)} {k:Int} {S1:Nat→Prop} {p1:Option Addr} {ln1 k1:Nat} (h:SH w0 w (Ch.own S1 (a:List qe) [.slice p1 ln1 k1]::F)) {r:(Int × (List qe))} (hF:qjd n a k=some r):RetN Tryz.prog 55 [.slice p1 ln1 k1,.int .i64 k] w (fun w'=>∃ Z0:Nat→Prop,SH w0 w' (Ch.own Z0 (r.2:List qe) [.slice p1 ln1 k1]::F)) r.1:=by
 refine qb9 Tryz.func55 rfl (m:=52) rfl rfl ?_
 obtain rfl:=(h.sl 0 rfl).2
 refine X0 9 rfl ?_
 obtain ⟨o1,hF,hK1⟩:=qc hF
 refine qm (rL (fun m e w'=>∃ (x1:(List qe)) (i1:Int) (i2:Int),qcW a m x1 i1 i2=some o1∧e=[(0,.slice p1 a.length k1),(1,.int .i64 i1),(5,.int .i64 i2)]∧SH w0 w' (Ch.own S1 (x1:List qe) [.slice p1 a.length k1]::F)) n ⟨_,_,_,hF,rfl,h⟩ rfl ?_)
 rintro m1 e1 w1 ⟨x1,i1,i2,hF,rfl,h⟩
 rcases m1 with _|m1
 ·cases hF
 refine X0 8 rfl (qh rfl hF ?_ ?_)<;>intro hF
 ·refine X0 8 rfl ?_
  obtain ⟨y1,hy1,hF,he1,b1,_,q1,cs1,hp1,hq1,hr1,hc2⟩:=(h.sl 0 rfl).1.ix hF
  obtain rfl:=qH hr1
  refine zx hp1 hq1 ⟨he1.1,qC he1.2.1 (h.sl 0 rfl).2⟩ rfl (zp1 rfl (qay qa 0 0 ({ y1 with Bq:=i1 }:qe) h rfl hy1 hp1 hq1 (qaA y1) hc2 rfl rfl rfl (qaA ({ y1 with Bq:=i1 })) rfl rfl rfl fun w2 h=>X0 12 rfl ?_))
  obtain ⟨y2,hy2,hF,he2,b2,_,q2,cs2,hp2,hq2,hr2,hc3⟩:=(h.sl 0 rfl).1.ix hF
  obtain rfl:=qH hr2
  refine zx hp2 hq2 ⟨he2.1,qC he2.2.1 (h.sl 0 rfl).2⟩ rfl (zp2 rfl (qay qa 0 1 ({ y2 with Ai:={ y2.Ai with Aq:=W64 (i1+1) } }:qe) h rfl hy2 hp2 hq2 (qaA y2) hc3 rfl rfl rfl (qaA ({ y2 with Ai:={ y2.Ai with Aq:=W64 (i1+1) } })) rfl rfl rfl fun w3 h=>X0 12 rfl ?_))
  obtain ⟨y3,hy3,hF,he3,b3,_,q3,cs3,hp3,hq3,hr3,hc4⟩:=(h.sl 0 rfl).1.ix hF
  obtain rfl:=qH hr3
  refine zx hp3 hq3 ⟨he3.1,qC he3.2.1 (h.sl 0 rfl).2⟩ rfl (zp2 rfl (qay qa 0 2 ({ y3 with Ai:={ y3.Ai with Bf:=W64 ((W64 (i1+1))+1) } }:qe) h rfl hy3 hp3 hq3 (qaA y3) hc4 rfl rfl rfl (qaA ({ y3 with Ai:={ y3.Ai with Bf:=W64 ((W64 (i1+1))+1) } })) rfl rfl rfl fun w4 h=>X0 12 rfl ?_))
  obtain ⟨y4,hy4,hF,he4,b4,_,q4,cs4,hp4,hq4,hr4,hc5⟩:=(h.sl 0 rfl).1.ix hF
  obtain rfl:=qH hr4
  refine zx hp4 hq4 ⟨he4.1,qC he4.2.1 (h.sl 0 rfl).2⟩ rfl (zp2 rfl (qay qa 0 3 ({ y4 with Bc:={ y4.Bc with Aq:=W64 ((W64 ((W64 (i1+1))+1))+1) } }:qe) h rfl hy4 hp4 hq4 (qaA y4) hc5 rfl rfl rfl (qaA ({ y4 with Bc:={ y4.Bc with Aq:=W64 ((W64 ((W64 (i1+1))+1))+1) } })) rfl rfl rfl fun w5 h=>X0 12 rfl ?_))
  obtain ⟨y5,hy5,hF,he5,b5,_,q5,cs5,hp5,hq5,hr5,hc6⟩:=(h.sl 0 rfl).1.ix hF
  obtain rfl:=qH hr5
  exact zx hp5 hq5 ⟨he5.1,qC he5.2.1 (h.sl 0 rfl).2⟩ rfl (zp2 rfl (qay qa 0 4 ({ y5 with Bc:={ y5.Bc with Bf:=W64 ((W64 ((W64 ((W64 (i1+1))+1))+1))+1) } }:qe) h rfl hy5 hp5 hq5 (qaA y5) hc6 rfl rfl rfl (qaA ({ y5 with Bc:={ y5.Bc with Bf:=W64 ((W64 ((W64 ((W64 (i1+1))+1))+1))+1) } })) rfl rfl rfl fun w6 h=>X0 12 rfl (rK ⟨_,_,_,hF,rfl,h⟩ rfl)))
 refine qq rfl ?_
 obtain rfl:=qb hF;replace hF:=hK1
 refine X0 5 rfl ?_
 obtain rfl:=qb hF
 exact qit qa ⟨_,h⟩ ⟨rfl,trivial⟩
def qko (n:Nat) (a:qaQ) (k:Int):Option (Int × (List qw) × (List qi) × (List ByteArray) × (List qL) × (List qD) × (List Int) × (List qe)) :=
 (qiC n (⟨(⟨a.Af.Av.Ar⟩:qn),(⟨a.Af.Ab.Aa,a.Af.Ab.Ak,a.Af.Ab.Aj⟩:qd),a.Af.Ac⟩:qg) k).bind fun o=>match o with
  | (r1,x1,x2,x3,x4,x5) =>
   (qaD n a.Bi r1).bind fun o=>match o with
    | (r2,x6) =>
     (qjd n a.Ba r2).bind fun o=>match o with
      | (r3,x7) =>
       some (r3,x1,x2,x3,x4,x5,x6,x7)
theorem qpB {n:Nat} {w0 w:World} {F:List Ch} {a:qaQ} {k:Int} {S1:Nat→Prop} {p1:Option Addr} {ln1 k1:Nat} {S2:Nat→Prop} {p2:Option Addr} {ln2 k2:Nat} {S3:Nat→Prop} {p3:Option Addr} {ln3 k3:Nat} {S4:Nat→Prop} {p4:Option Addr} {ln4 k4:Nat} {S5:Nat→Prop} {p5:Option Addr} {ln5 k5:Nat} {S6:Nat→Prop} {p6:Option Addr} {ln6 k6:Nat} {S7:Nat→Prop} {p7:Option Addr} {ln7 k7:Nat} (h:SH w0 w (Ch.own S7 (a.Ba:List qe) [.slice p7 ln7 k7]::Ch.own S6 (a.Bi:List Int) [.slice p6 ln6 k6]::Ch.own S5 (a.Af.Ac:List qD) [.slice p5 ln5 k5]::Ch.own S4 (a.Af.Ab.Aj:List qL) [.slice p4 ln4 k4]::Ch.own S3 (a.Af.Ab.Ak:List ByteArray) [.slice p3 ln3 k3]::Ch.own S2 (a.Af.Ab.Aa:List qi) [.slice p2 ln2 k2]::Ch.own S1 (a.Af.Av.Ar:List qw) [.slice p1 ln1 k1]::F)) {r:(Int × (List qw) × (List qi) × (List ByteArray) × (List qL) × (List qD) × (List Int) × (List qe))} (hF:qko n a k=some r):RetN Tryz.prog 22 [.agg #[.slice p1 ln1 k1,.slice p2 ln2 k2,.slice p3 ln3 k3,.slice p4 ln4 k4,.slice p5 ln5 k5,.string a.Ah.Bb,.int .i64 a.Ah.As,.int .i64 a.Ah.Ay,.int .i64 a.Ah.Ap,.int .i64 a.Ah.Az,.slice p6 ln6 k6,.slice p7 ln7 k7],.int .i64 k] w (fun w'=>∃ Z0 Z1 Z2 Z3 Z4 Z5 Z6:Nat→Prop,SH w0 w' (Ch.own Z6 (r.2.2.2.2.2.2.2:List qe) [.slice p7 ln7 k7]::Ch.own Z5 (r.2.2.2.2.2.2.1:List Int) [.slice p6 ln6 k6]::Ch.own Z4 (r.2.2.2.2.2.1:List qD) [.slice p5 ln5 k5]::Ch.own Z3 (r.2.2.2.2.1:List qL) [.slice p4 ln4 k4]::Ch.own Z2 (r.2.2.2.1:List ByteArray) [.slice p3 ln3 k3]::Ch.own Z1 (r.2.2.1:List qi) [.slice p2 ln2 k2]::Ch.own Z0 (r.2.1:List qw) [.slice p1 ln1 k1]::F)) r.1:=by
 refine qb9 Tryz.func22 rfl (m:=18) rfl rfl ?_
 obtain rfl:=(h.sl 0 rfl).2
 obtain rfl:=(h.sl 1 rfl).2
 obtain rfl:=(h.sl 2 rfl).2
 obtain rfl:=(h.sl 3 rfl).2
 obtain rfl:=(h.sl 4 rfl).2
 obtain rfl:=(h.sl 5 rfl).2
 obtain rfl:=(h.sl 6 rfl).2
 refine zSR (qv h rfl rfl fun w1 bb1 h=>X1 7 0 h rfl ?_)
 replace h:=h.pickT 8 [3,4,5,6,7,0,1,2] rfl
 obtain ⟨o1,hr1,hF⟩:=qc hF
 obtain ⟨r1,x1,x2,x3,x4,x5⟩:=o1
 refine qb7 r1 (cB 54 rfl) (qoe h hr1) rfl rfl rfl rfl ?_
 rintro w2 ⟨S8,S9,S10,S11,S12,h⟩
 refine X1 7 5 h rfl ?_
 replace h:=h.pickT 8 [7,0,1,2,3,4,5,6] rfl
 obtain ⟨o2,hr2,hF⟩:=qc hF
 obtain ⟨r2,x6⟩:=o2
 refine qb7 r2 (cB 23 rfl) (qaC h hr2) rfl rfl rfl rfl ?_
 rintro w3 ⟨S13,h⟩
 refine X1 7 6 h rfl ?_
 replace h:=h.pickT 8 [7,0,1,2,3,4,5,6] rfl
 obtain ⟨o3,hr3,hF⟩:=qc hF
 obtain ⟨r3,x7⟩:=o3
 refine qb7 r3 (cB 55 rfl) (qna h hr3) rfl rfl rfl rfl ?_
 rintro w4 ⟨S14,h⟩
 refine X0 7 rfl ?_
 obtain rfl:=qb hF
 replace h:=h.pickT 8 [0,1,2,3,4,5,6] rfl
 exact qit qa ⟨_,_,_,_,_,_,_,h⟩ ⟨rfl,trivial⟩
def qcp (a:(List Int)):Nat→Int→Int→Option (Flow Int (Int × Int))
 | 0,_,_=>none
 | n+1,i1,i2 =>
  bif decide (i2<(a.length:Int)) then
   (idx a i2).bind fun y1 =>
   bif (y1 != i1) then some (.ret (-1)) else
   qcp a n (W64 (i1+1)) (W64 (i2+1))
  else
   some (.nxt (i1,i2))
def qgk (n:Nat) (a:(List Int)) (k:Int):Option Int :=
 (qcp a n k 0).bind fun o=>match o with
 | .ret r=>some r
 | .nxt (i1,_) =>
  some i1
theorem qk9 {a:(List Int)} {k:Int} (ha1:GoT.R w (old w) a cs1) {r:Int} (hF:qgk n a k=some r):RetV Tryz.prog 24 [GoT.v (List Int) cs1,.int .i64 k] w r:=by
 obtain ⟨p1,k1,rfl,s1⟩:=ha1
 refine zV 21 Tryz.func24 rfl fun h=>X0 9 rfl ?_
 obtain ⟨o1,hF,hK1⟩:=qc hF
 refine qm (rL (fun m e w'=>∃ (i1:Int) (i2:Int),qcp a m i1 i2=some o1∧e=[(0,.slice p1 a.length k1),(1,.int .i64 i1),(5,.int .i64 i2)]∧SH w w' []) n ⟨_,_,hF,rfl,h⟩ rfl ?_)
 rintro m1 e1 w1 ⟨i1,i2,hF,rfl,h⟩
 rcases m1 with _|m1
 ·cases hF
 refine X0 8 rfl (qh rfl hF ?_ ?_)<;>intro hF
 ·refine X0 8 rfl ?_
  obtain ⟨y1,hy1,hF,he1,b1,_,q1,cs2,hp1,hq1,rfl,hc2⟩:=s1.ix hF
  refine zxe hp1 hq1 he1 rfl (zc 0 (hc2.below h.below) rfl (X0 3 rfl (qh rfl hF ?_ ?_)))<;>intro hF
  ·refine X0 4 rfl ?_
   obtain rfl:=qb hF;replace hF:=hK1
   exact ri h hF rfl
  exact X0 12 rfl (rK ⟨_,_,hF,rfl,h⟩ rfl)
 refine qq rfl ?_
 obtain rfl:=qb hF;replace hF:=hK1
 exact X0 5 rfl (ri h hF rfl)
end Go.Fw


namespace Go.Fw
open Go
def qmx (x:qu):Prop:=rngS x.Bb∧rngI x.As∧rngI x.Ay∧rngI x.Ap∧rngI x.Az
def qkR (x:qu):Nat:=x.Bb.size
structure qsp (x:qu):Prop where
 Bb:okS x.Bb
 As:okI x.As
 Ay:okI x.Ay
 Ap:okI x.Ap
 Az:okI x.Az
theorem qux {x:qu} (h:qmx x) (w:qkR x≤1048576):qsp x:=⟨(by unfold okS;simp only [qkR] at w;omega),h.2.1,h.2.2.1,h.2.2.2.1,h.2.2.2.2⟩
theorem qwo {a:qu} (_:qkR a≤1048576):Ev (fun n=>qjv n a a) true:=by
 unfold qjv
 exact Ev.ff qiI (Ev.ff qaR (Ev.ff qaR (Ev.ff qaR (Ev.ff qaR (.done)))))
def qoU (x:qf):Prop:=rngI x.Aq∧rngI x.Bf
structure qsV (x:qf):Prop where
 Aq:okI x.Aq
 Bf:okI x.Bf
theorem qsy {x:qf} (h:qoU x):qsV x:=⟨h.1,h.2⟩
def qjj (x:qe):Prop:=rngI x.Bq∧qoU x.Ai∧qoU x.Bc
structure qpG (x:qe):Prop where
 Bq:okI x.Bq
 Ai:qsV x.Ai
 Bc:qsV x.Bc
theorem qtX {x:qe} (h:qjj x):qpG x:=⟨h.1,qsy (h.2.1),qsy (h.2.2)⟩
def qeq (a:(List qe)):Nat:=a.length
theorem qs5 {a:(List qe)} (h:(rngL qjj) a) (w:qeq a≤1048576):(okL qpG) a :=
 ⟨by simp only [qeq] at w;omega,fun x hx=>qtX (h.2 x hx)⟩
def qqJ (x:qaQ):Prop:=qnK x.Af∧qmx x.Ah∧(rngL rngI) x.Bi∧(rngL qjj) x.Ba
def qkb (x:qaQ):Nat:=qf2 x.Af+qkR x.Ah+qaL x.Bi+qeq x.Ba
structure qpr (x:qaQ):Prop where
 Af:qmc x.Af
 Ah:qsp x.Ah
 Bi:(okL okI) x.Bi
 Ba:(okL qpG) x.Ba
theorem qxS {x:qaQ} (h:qqJ x) (w:qkb x≤1048576):qpr x:=⟨quY (h.1) (by simp only [qkb] at w;omega),qux (h.2.1) (by simp only [qkb] at w;omega),qdv (h.2.2.1) (by simp only [qkb] at w;omega),qs5 (h.2.2.2) (by simp only [qkb] at w;omega)⟩
theorem qvE {a:qf}:Ev (fun n=>qjP n a a) true:=by
 unfold qjP
 exact Ev.ff qaR (Ev.ff qaR (.done))
theorem qwD {a:qe}:Ev (fun n=>qhR n a a) true:=by
 unfold qhR
 exact Ev.ff qaR (Ev.bind (qvE (a:=a.Ai)) (Ev.ff rfl (Ev.bind (qvE (a:=a.Bc)) (Ev.ff rfl (.done)))))
theorem quZ {a:(List qe)} (h:qeq a≤1048576):Ev (fun n=>qiM n a a) true:=by
 have hl:a.length≤1048576:=by simp only [qeq] at h;omega
 unfold qiM
 exact Ev.ff (by simp) (Ev.bind (b:=.nxt (a.length:Int)) (qjl (eqf:=qhR) (fun x hx=>qwD)
  (fun n=>by simp only [qfc,ql (je _),cond_false])
  (fun n j x hx=>by
   have hj:=(List.getElem?_eq_some_iff.1 hx).1
   simp only [qfc,qj hj,cond_true,qan hx,jd,wS j])) .done)
theorem qzJ {a:qaQ} (h:qkb a≤1048576):Ev (fun n=>qmo n a a) true:=by
 unfold qmo
 simp only [qkb] at h
 exact Ev.bind (qx3 (a:=a.Af) (by omega)) (Ev.ff rfl (Ev.bind (qwo (a:=a.Ah) (by omega)) (Ev.ff rfl (Ev.bind (qdC (a:=a.Bi) (by omega)) (Ev.ff rfl (Ev.bind (quZ (a:=a.Ba) (by omega)) (Ev.ff rfl (.done))))))))
theorem qwa {a:qu} {left:Int} (h:qmx a) (h0:0≤left) (h1:left≤1048576):Sz (fun n=>qju n a left) (fun r=>r=left-(qkR a:Int)):=by
 unfold qju
 obtain ⟨h_0,h_1,h_2,h_3,h_4⟩:=h
 exact Sz.strStep h_0 (by omega) (by omega) fun p0 q0=>Sz.done p0 (by simp only [qkR];omega)
theorem quU {a:(List qe)} {left:Int} (h:(rngL qjj) a) (h0:0≤left) (h1:left≤1048576):Sz (fun n=>qkM n a left) (fun r=>r=left-(qeq a:Int)) :=
 Sz.less h0 h1 (by omega) (by have:=h.1;omega) (fun _=>rfl)
theorem qzr {a:qaQ} {left:Int} (h:qqJ a) (h0:0≤left) (h1:left≤1048576):Sz (fun n=>qmt n a left) (fun r=>r=left-(qkb a:Int)):=by
 unfold qmt
 obtain ⟨h_0,h_1,h_2,h_3⟩:=h
 exact Sz.step (qxh (a:=a.Af) h_0 (by omega) (by omega)) fun r0 p0 q0=>Sz.step (qwa (a:=a.Ah) h_1 (by omega) (by omega)) fun r1 p1 q1=>Sz.step (qgA (a:=a.Bi) h_2 (by omega) (by omega)) fun r2 p2 q2=>Sz.step (quU (a:=a.Ba) h_3 (by omega) (by omega)) fun r3 p3 q3=>Sz.done p3 (by simp only [qkb];omega)
theorem qv8 {a:qu} (_:qkR a≤1048576):Ev (fun n=>qjw n a) a:=by
 unfold qjw
 exact .done
theorem qvK {a:qf}:Ev (fun n=>qjH n a) a:=by
 unfold qjH
 exact .done
theorem qv1 {a:qe}:Ev (fun n=>qhU n a) a:=by
 unfold qhU
 exact Ev.bind (qvK (a:=a.Ai)) (Ev.bind (qvK (a:=a.Bc)) (.done))
theorem quN {a:(List qe)} (h:qeq a≤1048576):Ev (fun n=>qiw n a) a:=by
 have hl:a.length≤1048576:=by simp only [qeq] at h;omega
 unfold qiw
 exact Ev.bindN (qiA (by omega)) (Ev.bind (b:=(a,(a.length:Int))) (qjy (cp:=qhU) (fun x hx=>qv1)
  (fun acc n=>by simp only [qfd,ql (je _),cond_false])
  (fun acc n j x y hx hy=>by
   have hj:=(List.getElem?_eq_some_iff.1 hx).1
   simp only [qfd,qj hj,cond_true,qan hx,qan hy,jd,wS j])) .done)
theorem qs7 {a:qaQ} (h:qkb a≤1048576):Ev (fun n=>qie n a) a:=by
 unfold qie
 simp only [qkb] at h
 exact Ev.bind (qyb (a:=a.Af) (by omega)) (Ev.bind (qv8 (a:=a.Ah) (by omega)) (Ev.bind (qdG (a:=a.Bi) (by omega)) (Ev.bind (quN (a:=a.Ba) (by omega)) (.done))))
end Go.Fw


namespace Go.Fw
open Go
set_option maxRecDepth 100000
abbrev lkB (b:qg):Nat:=(linksL b).length
abbrev ndB (b:qg):Nat:=2*(places b.Ab).length
abbrev lvJ (b:qg) (br:List Int):List Bool:=lvB br (lkB b)
def grB (b:qg) (br:List Int):Option Tgraph:=some ⟨some (viewV b),lvJ b br⟩
structure TgOk (b:qg) (c:qu) (br:List Int) (xs:List qe) (R:List Nat):Prop where
 bl:blockB b=true
 co:cornerB c=true
 br_:brB br (lkB b)=true
 sr:srcB xs (ndB b)=true
 or_:ordL (linksL b) (lvJ b br) (ndB b) (ndB b) []=some R
theorem TgOk.ord {b:qg} {c:qu} {br:List Int} {xs:List qe} {R:List Nat} (h:TgOk b c br xs R):OrdOk (lkB b) (frL (linksL b)) (toL (linksL b)) (lvL (lvJ b br)) (ndB b) R :=
 qyu (ndB b) [] R (fun l1 k l2 e=>by cases l1<;>cases e) h.or_
theorem TgOk.len {b:qg} {c:qu} {br:List Int} {xs:List qe} {R:List Nat} (h:TgOk b c br xs R):R.length=ndB b:=by
 have:=qxY (ndB b) [] R h.or_
 simpa using this
theorem qmD {x:Int} (h:x ≠ 0):(x != 0)=true:=by simpa using h
theorem qzV {b:qg} {c:qu} {br:List Int} {xs:List qe} (hb:qmc b) (hc:okS c.Bb) (hbl:br.length≤1048576) (hxl:xs.length≤1048576) :
  (∃ code:Int,code ≠ 0∧Ev (fun n=>qiV n b c br xs) ([],code)∧Ev (fun n=>qfP n b c br xs none) (none,[],code)) ∨
  ∃ R,TgOk b c br xs R∧Ev (fun n=>qiV n b c br xs) (ints R,0)∧Ev (fun n=>qfP n b c br xs none) (grB b br,ints R,0):=by
 have s1:=qp2 hb
 have i1:=qvz hb
 have s2:=qtl (c:=c) hc
 have i2:=qt9 (c:=c) hc
 unfold qiV qfP
 cases h1:blockB b
 ·rw [h1] at s1 i1
  exact .inl ⟨1,by omega,Ev.bind (b:=true) (Ev.bind s1 (Ev.tt rfl .done)) (Ev.tt rfl .done),Ev.bind (b:=true) (Ev.bind i1 (Ev.tt rfl .done)) (Ev.tt rfl .done)⟩
 cases h2:cornerB c
 ·rw [h1] at s1 i1
  rw [h2] at s2 i2
  exact .inl ⟨1,by omega,Ev.bind (b:=true) (Ev.bind s1 (Ev.ff rfl (Ev.bind s2 .done))) (Ev.tt rfl .done),Ev.bind (b:=true) (Ev.bind i1 (Ev.ff rfl (Ev.bind i2 .done))) (Ev.tt rfl .done)⟩
 have hpl:=qbg (qad (qaB h1))
 have hll:=qia h1
 have hk:=ql0 h1
 have s3:=qvr (br:=br) hb h1 hbl
 have i3:=qul (v:=viewV b) (br:=br) hbl hll
 have s4:=qr8 (xs:=xs) h1 hxl
 have i4:=qr1 (v:=viewV b) (xs:=xs) hpl hxl
 have ev:(viewV b).links=linksL b:=rfl
 have ep:(viewV b).places=places b.Ab:=rfl
 rw [ev] at i3
 rw [ep] at i4
 rw [h1] at s1 i1
 rw [h2] at s2 i2
 have sA:Ev (fun n=>(qhj n b).bind fun r6=>bif (!r6) then some true else (qhJ n c).bind fun r7=>some (!r7)) false:=Ev.bind s1 (Ev.ff rfl (Ev.bind s2 .done))
 have iA:Ev (fun n=>(qiN n b).bind fun r6=>bif (!r6) then some true else (qhQ n c).bind fun r7=>some (!r7)) false:=Ev.bind i1 (Ev.ff rfl (Ev.bind i2 .done))
 have nv:=quP h1
 cases h3:brB br (lkB b)
 ·rw [h3] at s3 i3
  exact .inl ⟨2,by omega,Ev.bind sA (Ev.ff rfl (Ev.bind (b:=true) (Ev.bind s3 (Ev.tt rfl .done)) (Ev.tt rfl .done))),
   Ev.bind iA (Ev.ff rfl (Ev.bind nv (Ev.bind (b:=false) (Ev.ff rfl .done) (Ev.ff rfl (Ev.bind (b:=true) (Ev.bind i3 (Ev.tt rfl .done)) (Ev.tt rfl .done))))))⟩
 cases h4:srcB xs (ndB b)
 ·rw [h3] at s3 i3
  rw [h4] at s4 i4
  exact .inl ⟨2,by omega,Ev.bind sA (Ev.ff rfl (Ev.bind (b:=true) (Ev.bind s3 (Ev.ff rfl (Ev.bind s4 .done))) (Ev.tt rfl .done))),
   Ev.bind iA (Ev.ff rfl (Ev.bind nv (Ev.bind (b:=false) (Ev.ff rfl .done) (Ev.ff rfl (Ev.bind (b:=true) (Ev.bind i3 (Ev.ff rfl (Ev.bind i4 .done))) (Ev.tt rfl .done))))))⟩
 have i5:=qu5 (v:=viewV b) (br:=br) hll h3
 rw [ev] at i5
 have s5:=qof (ls:=linksL b) (br:=br) hll hbl
 have hlv:(lvJ b br).length=lkB b:=qo2
 have s6:=qv6 (lv:=lvJ b br) hk hlv
 have i6:=qvW (b:=b) (ps:=places b.Ab) (lo:=pre (load0 b) b.Ac.length) (de:=pre (exactL b) b.Ac.length) (ex:=[]) (lv:=lvJ b br) hk hlv rfl
 rw [h3] at s3 i3
 rw [h4] at s4 i4
 have sB:Ev (fun n=>(qhx n b br).bind fun r4=>bif (r4 != 0) then some true else (qgn n b xs).bind fun r5=>some (!r5)) false:=Ev.bind s3 (Ev.ff rfl (Ev.bind s4 .done))
 have iB:Ev (fun n=>(qeI n (some (viewV b)) br).bind fun r6=>bif (!r6) then some true else (qdx n (some (viewV b)) xs).bind fun r7=>some (!r7)) false:=Ev.bind i3 (Ev.ff rfl (Ev.bind i4 .done))
 have sT:∀ r:List Int × Int,Ev (fun n=>(qhI n (ndB b:Int) (linksL b) (lvJ b br)).bind fun o=>match o with|(r6,r7)=>bif (!r7) then some (([]:List Int),(7:Int)) else some (r6,0)) r→Ev (fun n=>qeN n b br) r:=fun r hr=>by
  unfold qeN
  exact Ev.bind s3 (Ev.ff rfl (Ev.bind (qjO h1) (Ev.bind (qne h1) (Ev.bind s5 hr))))
 cases ho:ordL (linksL b) (lvJ b br) (ndB b) (ndB b) [] with
 | none =>
  have e:ordR (linksL b) (lvJ b br) (ndB b)=([],false):=by unfold ordR;rw [ho]
  rw [e] at s6 i6
  exact .inl ⟨7,by omega,Ev.bind sA (Ev.ff rfl (Ev.bind sB (Ev.ff rfl (Ev.bind (sT ([],7) (Ev.bind s6 (Ev.tt rfl .done))) .done)))),
   Ev.bind iA (Ev.ff rfl (Ev.bind nv (Ev.bind (b:=false) (Ev.ff rfl .done) (Ev.ff rfl (Ev.bind iB (Ev.ff rfl (Ev.bind i5 (Ev.bind i6 (Ev.tt rfl .done)))))))))⟩
 | some R =>
  have e:ordR (linksL b) (lvJ b br) (ndB b)=(ints R,true):=by unfold ordR;rw [ho]
  rw [e] at s6 i6
  exact .inr ⟨R,⟨h1,h2,h3,h4,ho⟩,Ev.bind sA (Ev.ff rfl (Ev.bind sB (Ev.ff rfl (Ev.bind (sT (ints R,0) (Ev.bind s6 (Ev.ff rfl .done))) .done)))),
   Ev.bind iA (Ev.ff rfl (Ev.bind nv (Ev.bind (b:=false) (Ev.ff rfl .done) (Ev.ff rfl (Ev.bind iB (Ev.ff rfl (Ev.bind i5 (Ev.bind i6 (Ev.ff rfl .done)))))))))⟩
structure WkOk (j:qaQ) (t:qy) (R:List Nat):Prop where
 tg:TgOk j.Af j.Ah j.Bi j.Ba R
 tm:TmOk t (ndB j.Af)
def wkV (j:qaQ) (t:qy) (R:List Nat):Option Twork:=some ⟨grB j.Af j.Bi,j,t,ints R⟩
theorem qyK {j:qaQ} (h:qpr j) :
  (∃ code:Int,code ≠ 0∧Ev (fun n=>qdy n j.Af j.Ah j.Bi j.Ba) (zT,code)∧Ev (fun n=>qj3 n j) (none,code)) ∨
  ∃ t R,WkOk j t R∧Ev (fun n=>qdy n j.Af j.Ah j.Bi j.Ba) (t,0)∧Ev (fun n=>qj3 n j) (wkV j t R,0):=by
 have hbl:=h.Bi.len
 have hxl:=h.Ba.len
 unfold qdy qj3
 rcases qzV h.Af h.Ah.Bb hbl hxl with ⟨code,hne,hs,hi⟩|⟨R,hg,hs,hi⟩
 ·exact .inl ⟨code,hne,Ev.bind hs (Ev.tt (qmD hne) .done),Ev.bind hi (Ev.tt (qmD hne) .done)⟩
 ·have h1:=hg.bl
  have hll:=qia h1
  have s5:=qof (ls:=linksL j.Af) (br:=j.Bi) hll hbl
  obtain ⟨f,hf,hfi⟩:=qxM h1 hg.co
  have hi0:=hfi [] (.inl rfl)
  rw [qwL] at hi0
  have hpl:=qbg (qad (qaB h1))
  have hRl:=hg.len
  have hR1:R.length≤1000:=by rw [hRl];show 2*(places j.Af.Ab).length≤1000;omega
  have hRb:∀ k,k ∈ R→k<2*(places j.Af.Ab).length:=fun k hk=>by
   obtain ⟨i,hi,rfl⟩:=List.mem_iff_getElem.1 hk
   exact (hg.ord.at hi).1
  have o2:=qyd (lv:=lvJ j.Af j.Bi) (R:=R) h1 hf qo2 (qsX hxl hg.sr) hRb hR1
  have o3:=qys (lv:=lvJ j.Af j.Bi) (R:=R) h1 hf (fun _ _=>rfl) hi0 qo2 (qsX hxl hg.sr) (fun i hi=>⟨(hg.ord.at hi).1,(hg.ord.at hi).2.1⟩) hR1
  have o1:=qzp (lv:=lvJ j.Af j.Bi) h1 hf (qsX hxl hg.sr) R (zTm (2*(places j.Af.Ab).length))
  generalize rnO f (linksL j.Af) (lvJ j.Af j.Bi) j.Ba R (zTm (2*(places j.Af.Ab).length))=o at o1 o2 o3
  cases o with
  | none=>exact .inl ⟨3,by omega,Ev.bind hs (Ev.ff rfl (Ev.bind (qjO h1) (Ev.bind s5 (Ev.bind o2 (Ev.tt rfl .done))))),Ev.bind hi (Ev.ff rfl (Ev.bind o3 (Ev.tt rfl .done)))⟩
  | some t=>exact .inr ⟨t,R,⟨hg,o1 t hRb quO rfl⟩,Ev.bind hs (Ev.ff rfl (Ev.bind (qjO h1) (Ev.bind s5 (Ev.bind o2 (Ev.ff rfl .done))))),Ev.bind hi (Ev.ff rfl (Ev.bind o3 (Ev.ff rfl .done)))⟩
end Go.Fw


namespace Go.Fw
open Go
set_option maxRecDepth 100000
def swV (j:qaQ) (t:qy):Option Tl20Work:=some ⟨j,linksL j.Af,lvJ j.Af j.Bi,t⟩
theorem qyl {j:qaQ} (h:qpr j) :
  (∃ code:Int,code ≠ 0∧Ev (fun n=>qf1 n j) (none,code)∧∀ mode nodes,Ev (fun n=>qix n j mode nodes) (none,code)) ∨
  ∃ t R,WkOk j t R∧Ev (fun n=>qf1 n j) (swV j t,0)∧∀ mode nodes,nodes.length≤1048576→(mode=0∨mode=1) →
   Ev (fun n=>qix n j mode nodes) (bif nodes.all (fun x=>inI x 0 ((ndB j.Af:Int)-1)) then (wkV j t R,0) else (none,4)):=by
 have hbl:=h.Bi.len
 unfold qf1 qix
 rcases qyK h with ⟨code,hne,hs,hi⟩|⟨t,R,hw,hs,hi⟩
 ·exact .inl ⟨code,hne,Ev.bind hs (Ev.tt (qmD hne) .done),fun mode nodes=>Ev.bind hi (Ev.tt (qmD hne) .done)⟩
 ·have h1:=hw.tg.bl
  have hll:=qia h1
  have hpl:=qbg (qad (qaB h1))
  have s5:=qof (ls:=linksL j.Af) (br:=j.Bi) hll hbl
  refine .inr ⟨t,R,hw,Ev.bind hs (Ev.ff rfl (Ev.bind (qjO h1) (Ev.bind s5 .done))),fun mode nodes hn hm=>Ev.bind hi (Ev.ff rfl ?_)⟩
  have hnd:=qqZ (v:=viewV j.Af) hpl
  have e1:W64 (((2*(viewV j.Af).places.length:Nat):Int)-1)=(ndB j.Af:Int)-1:=by
   show W64 (((2*(places j.Af.Ab).length:Nat):Int)-1)=_
   rw [qN (by omega) (by omega)]
  unfold wkV grB
  simp only [jd,hnd,e1]
  refine Ev.bind (qfb hn) ?_
  cases nodes.all fun x=>inI x 0 ((ndB j.Af:Int)-1)
  ·exact Ev.tt rfl .done
  ·refine Ev.ff rfl ?_
   rcases hm with rfl|rfl<;>exact Ev.bind (b:=true) (Ev.now rfl) (Ev.ff rfl .done)
theorem qtC {j:qaQ} {t:qy} {node:Int} (hl:j.Ba.length≤1048576):Ev (fun n=>qiS n (swV j t) node) ((srcV (srcO j.Ba node)).2,(srcV (srcO j.Ba node)).1):=by
 have h1:Ev (fun n=>qcI (swV j t) node n 0) (match srcO j.Ba node with|some y=>.ret (y,true)|none=>.nxt (j.Ba.length:Int)):=by
  have main:∀ d i,i+d=j.Ba.length→(j.Ba.take i).find? (fun s=>s.Bq==node)=none→Ev (fun n=>qcI (swV j t) node n (i:Int)) (match srcO j.Ba node with|some y=>.ret (y,true)|none=>.nxt (j.Ba.length:Int)):=by
   intro d
   induction d with
   | zero =>
    intro i hi hn
    obtain rfl:i=j.Ba.length:=by omega
    rw [jD] at hn
    unfold srcO
    rw [hn]
    refine Ev.succ ?_
    simp only [qcI,swV,jd,ql (je _),cond_false]
    exact .done
   | succ d ih =>
    intro i hi hn
    have hil:i<j.Ba.length:=by omega
    refine Ev.succ ?_
    simp only [qcI,swV,jd,qj hil,cond_true,qA hil,wS i]
    cases hq:(gt j.Ba i).Bq==node
    ·refine ih (i+1) (by omega) ?_
     rw [jv hil,List.find?_append,hn,←qe3 hil,List.find?_cons_of_neg (by simp [hq])]
     rfl
    ·have hd:j.Ba.drop i=gt j.Ba i::j.Ba.drop (i+1):=by rw [qe3 hil];exact jF hil
     have:srcO j.Ba node=some (gt j.Ba i):=by
      generalize gt j.Ba i=y at hq hd
      unfold srcO
      rw [←List.take_append_drop i j.Ba,List.find?_append,hn,hd,List.find?_cons_of_pos (by simpa using hq)]
      rfl
     rw [this]
     exact .done
  exact main j.Ba.length 0 (by omega) rfl
 unfold qiS
 refine Ev.bind h1 ?_
 cases srcO j.Ba node<;>exact .done
def atP (ls:List qt) (start:Int) (path:List Int):Nat→Int
 | 0=>start
 | j+1=>(gt ls (at0 path j).toNat).To
def okP (ls:List qt) (lv:List Bool) (start:Int) (path:List Int) (j:Nat):Bool :=
 inI (at0 path j) 0 ((ls.length:Int)-1)&&(gt lv (at0 path j).toNat&&((gt ls (at0 path j).toNat).Bk==atP ls start path j))
def pathB (j:qaQ) (start:Int) (path:List Int):Bool:=(srcV (srcO j.Ba start)).1&&allN (okP (linksL j.Af) (lvJ j.Af j.Bi) start path) path.length
def endB (j:qaQ) (start:Int) (path:List Int):Int:=atP (linksL j.Af) start path path.length
theorem inRange {x:Int} {m:Nat} (h:inI x 0 ((m:Int)-1)=true):0≤x∧x<(m:Int)∧x.toNat<m:=by rw [qbd] at h;omega
theorem qvT {j:qaQ} {t:qy} {start:Int} {path:List Int} (h1:blockB j.Af=true) (hl:j.Ba.length≤1048576) (hp:path.length≤1048576):∃ e:Int,Ev (fun n=>qll n (swV j t) start path) (e,pathB j start path)∧(pathB j start path=true→e=endB j start path):=by
 have hll:=qia h1
 have hlv:(lvJ j.Af j.Bi).length=lkB j.Af:=qo2
 have hS:=qtC (j:=j) (t:=t) (node:=start) hl
 unfold qll pathB
 cases hs:(srcV (srcO j.Ba start)).1
 ·rw [hs] at hS
  refine ⟨start,Ev.bind hS (Ev.bind (b:=.nxt (start,0)) (Ev.succ ?_) .done),fun e=>by cases e⟩
  unfold qeD
  cases decide ((0:Int)<(path.length:Int))<;>exact .done
 ·rw [hs] at hS
  have hL:=loopN (Lf:=fun n i x=>qeD (swV j t) path true n i x) (S:=atP (linksL j.Af) start path) (p:=okP (linksL j.Af) (lvJ j.Af j.Bi) start path) (len:=path.length) (bad:=((0:Int),false)) (fin:=(endB j start path,(path.length:Int)))
   (fun n=>by simp only [qeD,ql (je _),cond_false,jd];rfl)
   (fun i hi _ X hX=>by
    have eW:W64 (((linksL j.Af).length:Int)-1)=((linksL j.Af).length:Int)-1:=qN (by omega) (by omega)
    simp only [qeD,qj hi,cond_true,jd,qak hi,swV,qcK,eW,wS i]
    unfold okP at hX ⊢
    cases hr:inI (at0 path i) 0 (((linksL j.Af).length:Int)-1)
    ·exact Ev.bind (b:=true) (Ev.tt rfl .done) (Ev.tt rfl .done)
    ·obtain ⟨r0,r1,r2⟩:=inRange hr
     rw [hr] at hX
     simp only [qdu r0 r1,qdu r0 (show at0 path i<((lvJ j.Af j.Bi).length:Int) by rw [hlv];exact r1),jd]
     cases hv:gt (lvJ j.Af j.Bi) (at0 path i).toNat
     ·exact Ev.bind (b:=true) (Ev.ff rfl (Ev.tt rfl .done)) (Ev.tt rfl .done)
     ·rw [hv] at hX
      cases hf:(gt (linksL j.Af) (at0 path i).toNat).Bk==atP (linksL j.Af) start path i
      ·exact Ev.bind (b:=true) (Ev.ff rfl (Ev.ff rfl (Ev.now (by simp only [bne,hf];rfl)))) (Ev.tt rfl .done)
      ·rw [hf] at hX
       exact Ev.bind (b:=false) (Ev.ff rfl (Ev.ff rfl (Ev.now (by simp only [bne,hf];rfl)))) (Ev.ff rfl (hX rfl)))
  cases hb:allN (okP (linksL j.Af) (lvJ j.Af j.Bi) start path) path.length
  ·rw [hb] at hL
   exact ⟨0,Ev.bind hS (Ev.bind hL .done),fun e=>by cases e⟩
  ·rw [hb] at hL
   exact ⟨endB j start path,Ev.bind hS (Ev.bind hL .done),fun _=>rfl⟩
def linkB (ls:List qt) (path:List Int) (j:Nat):Bool:=inI (at0 path j) 0 ((ls.length:Int)-1)&&(decide (j=0) || (gt ls (at0 path (j-1)).toNat).To==(gt ls (at0 path j).toNat).Bk)
theorem qwM {v:Tview} {path:List Int} (hll:v.links.length≤10000) (hp:path.length≤1048576):Ev (fun n=>qhu n (some v) path) (allN (linkB v.links path) path.length):=by
 have hL:=loopN (τ:=Unit) (Lf:=fun n _ x=>qb5 (some v) path n x) (S:=fun _=>()) (p:=linkB v.links path) (len:=path.length) (bad:=false) (fin:=(path.length:Int))
  (fun n=>by simp only [qb5,ql (je _),cond_false])
  (fun i hi hpr X hX=>by
   have eW:W64 ((v.links.length:Int)-1)=(v.links.length:Int)-1:=qN (by omega) (by omega)
   simp only [qb5,qj hi,cond_true,jd,qak hi,qi9,qc9,qdi,eW,wS i]
   unfold linkB at hX ⊢
   cases hr:inI (at0 path i) 0 ((v.links.length:Int)-1)
   ·exact .done
   ·obtain ⟨r0,r1,r2⟩:=inRange hr
    rw [hr] at hX
    refine Ev.ff rfl ?_
    by_cases h0:i=0
    ·subst h0
     exact Ev.ff rfl (hX rfl)
    ·refine Ev.tt (decide_eq_true (by omega)) ?_
     have hq:=hpr (i-1) (by omega)
     unfold linkB at hq
     rw [jf] at hq
     obtain ⟨q0,q1,_⟩:=inRange hq.1
     rw [show (i:Int)-1=((i-1:Nat):Int) by omega,qN (by omega) (by omega)]
     simp only [qak (show i-1<path.length by omega),jd,qdu q0 q1,qdu r0 r1,bne]
     rw [decide_eq_false h0] at hX ⊢
     cases he:(gt v.links (at0 path (i-1)).toNat).To==(gt v.links (at0 path i).toNat).Bk
     ·exact .done
     ·rw [he] at hX
      exact hX rfl)
 unfold qhu
 refine Ev.bind hL ?_
 cases allN (linkB v.links path) path.length<;>exact .done
theorem quL {j:qaQ} {t:qy} {R:List Nat} {path:List Int} (hp:path.length≤1048576) (hr:∀ x,x ∈ path→0≤x∧x<(lkB j.Af:Int)):Ev (fun n=>qX n path (wkV j t R)) (!path.all fun x=>gt (lvJ j.Af j.Bi) x.toNat):=by
 have hlv:(lvJ j.Af j.Bi).length=lkB j.Af:=qo2
 have h1:Ev (fun n=>qaK n path (wkV j t R)) (ixL (fun x=>!gt (lvJ j.Af j.Bi) x.toNat) path) :=
  qfO (fin:=(path.length:Int)) (Lf:=qW path (wkV j t R)) (xs:=path) (pf:=fun n x=>qfh n x (wkV j t R)) (fun x hx=>by
    obtain ⟨x0,x1⟩:=hr x hx
    unfold qfh wkV grB
    simp only [jd,qdu x0 (show x<((lvJ j.Af j.Bi).length:Int) by rw [hlv];exact x1)]
    exact .done)
   (fun n=>by simp only [qW,ql (je _),cond_false])
   (fun n i x hx=>by
    have hi:=(List.getElem?_eq_some_iff.1 hx).1
    simp only [qW,qj hi,cond_true,qan hx,jd,wS i])
   (fun n=>by unfold qaK;congr 1;funext o;cases o<;>rfl)
 unfold qX
 refine Ev.bind h1 (Ev.now ?_)
 rw [qm5,←qoS,Bool.not_not]
theorem qt6 {j:qaQ} {t:qy} {R:List Nat} {start:Int} {path:List Int} (h1:blockB j.Af=true) (hl:j.Ba.length≤1048576) (hp:path.length≤1048576):Ev (fun n=>qf8 n (wkV j t R) start path) (pathB j start path):=by
 have hll:=qia h1
 have hS:=qtL (xs:=j.Ba) (node:=start) hl
 have hP:=qwM (v:=viewV j.Af) (path:=path) hll hp
 have ev:(viewV j.Af).links=linksL j.Af:=rfl
 rw [ev] at hP
 have fr:path.length ≠ 0→allN (linkB (linksL j.Af) path) path.length=true→∃ k:Nat,k<lkB j.Af∧at0 path 0=(k:Int):=fun h0 hb=>by
  rw [qai] at hb
  have:=hb 0 (by omega)
  unfold linkB at this
  rw [jf] at this
  obtain ⟨q0,q1,q2⟩:=inRange this.1
  exact ⟨(at0 path 0).toNat,q2,qeH q0⟩
 have hrg:allN (linkB (linksL j.Af) path) path.length=true→∀ x,x ∈ path→0≤x∧x<(lkB j.Af:Int):=fun hb x hx=>by
  obtain ⟨i,hi,rfl⟩:=List.mem_iff_getElem.1 hx
  rw [qai] at hb
  have:=hb i hi
  unfold linkB at this
  rw [jf] at this
  obtain ⟨q0,q1,_⟩:=inRange this.1
  rw [qk8 hi] at q0 q1
  exact ⟨q0,q1⟩
 have key:allN (okP (linksL j.Af) (lvJ j.Af j.Bi) start path) path.length=(allN (linkB (linksL j.Af) path) path.length&&(bif decide (path.length=0) then true else ((gt (linksL j.Af) (at0 path 0).toNat).Bk==start)&&path.all fun x=>gt (lvJ j.Af j.Bi) x.toNat)):=by
  rw [jm,jf,qai,qai]
  unfold okP linkB
  simp only [jf,Bool.or_eq_true,decide_eq_true_eq,beq_iff_eq]
  constructor
  ·intro hh
   refine ⟨fun i hi=>⟨(hh i hi).1,?_⟩,?_⟩
   ·cases i with
    | zero=>exact .inl rfl
    | succ i=>exact .inr (hh (i+1) hi).2.2.symm
   ·by_cases h0:path.length=0
    ·rw [decide_eq_true h0];rfl
    ·rw [decide_eq_false h0]
     simp only [cond_false,jf,beq_iff_eq,jL]
     refine ⟨(hh 0 (by omega)).2.2,fun x hx=>?_⟩
     obtain ⟨i,hi,rfl⟩:=List.mem_iff_getElem.1 hx
     rw [←qk8 hi]
     exact (hh i hi).2.1
  ·rintro ⟨ha,hb⟩ i hi
   rw [decide_eq_false (by omega)] at hb
   simp only [cond_false,jf,beq_iff_eq,jL] at hb
   refine ⟨(ha i hi).1,by rw [qk8 hi];exact hb.2 _ (jp hi),?_⟩
   cases i with
   | zero=>exact hb.1
   | succ i =>
    rcases (ha (i+1) hi).2 with e|e
    ·omega
    ·exact e.symm
 unfold qf8 pathB
 rw [key]
 show Ev (fun n=>(qgy n j.Ba start).bind _) _
 refine Ev.bind hS ?_
 cases hs:(srcV (srcO j.Ba start)).1
 ·exact Ev.bind (b:=true) (Ev.tt rfl .done) (Ev.tt rfl .done)
 ·cases hb:allN (linkB (linksL j.Af) path) path.length
  ·rw [hb] at hP
   exact Ev.bind (b:=true) (Ev.ff rfl (Ev.bindN rfl (Ev.bind hP .done))) (Ev.tt rfl .done)
  ·have hA:=quL (j:=j) (t:=t) (R:=R) hp (hrg hb)
   have hfr:=fr
   rw [hb] at hP
   refine Ev.bind (b:=false) (Ev.ff rfl (Ev.bindN rfl (Ev.bind hP .done))) (Ev.ff rfl ?_)
   by_cases h0:path.length=0
   ·rw [decide_eq_true h0]
    refine Ev.ff (decide_eq_false (by omega)) (Ev.bind hA (Ev.now ?_))
    rw [List.length_eq_zero_iff.1 h0]
    rfl
   ·rw [decide_eq_false h0]
    obtain ⟨k,hk,ek⟩:=hfr h0 hb
    refine Ev.tt (decide_eq_true (by omega)) ?_
    show Ev (fun n=>(idx path 0).bind fun y4=>(idx (linksL j.Af) y4).bind fun y5=>bif (y5.Bk != start) then some false else (qX n path (wkV j t R)).bind fun r4=>some (!r4)) _
    rw [show idx path (0:Int)=some (k:Int) by rw [show (0:Int)=((0:Nat):Int) from rfl,qak (by omega),ek]]
    simp only [jd,qA hk,bne]
    rw [ek,jn]
    cases (gt (linksL j.Af) k).Bk==start
    ·exact .done
    ·refine Ev.ff rfl (Ev.bind hA (Ev.now ?_))
     rw [Bool.not_not]
     rfl
theorem qt2 {j:qaQ} {start:Int} {path:List Int} (h:qpr j) (hp:path.length≤1048576) {mode:Int} (hm:mode=0∨mode=1) :
  (∃ code:Int,code ≠ 0∧Ev (fun n=>qf1 n j) (none,code)∧Ev (fun n=>qhF n j mode start path) (none,code)) ∨
  ∃ t R,WkOk j t R∧Ev (fun n=>qf1 n j) (swV j t,0)∧Ev (fun n=>qhF n j mode start path) (bif pathB j start path then (wkV j t R,0) else (none,5)):=by
 unfold qhF
 rcases qyl h with ⟨code,hne,hs,hi⟩|⟨t,R,hw,hs,hi⟩
 ·exact .inl ⟨code,hne,hs,Ev.bind (hi mode []) (Ev.ff (by simpa using hne) .done)⟩
 ·have hP:=qt6 (t:=t) (R:=R) (start:=start) hw.tg.bl h.Ba.len hp
  refine .inr ⟨t,R,hw,hs,Ev.bind (hi mode [] (Nat.zero_le _) hm) (Ev.tt rfl (Ev.bind hP ?_))⟩
  cases pathB j start path<;>exact .done
theorem qth {j:qaQ} {t:qy} {R:List Nat} {start:Int} {path:List Int} (hp:path.length≤1048576) (hb:pathB j start path=true):Ev (fun n=>qfv n (wkV j t R) start path) (pre (atP (linksL j.Af) start path) (path.length+1)):=by
 unfold pathB at hb
 rw [jf,qai] at hb
 have hL:=loopF (Lf:=fun n s i=>qb0 (wkV j t R) path n s i) (S:=fun i=>pre (atP (linksL j.Af) start path) (i+1)) (len:=path.length) (fin:=(pre (atP (linksL j.Af) start path) (path.length+1),(path.length:Int)))
  (fun n=>by simp only [qb0,ql (je _),cond_false])
  (fun i hi X hX=>by
   have:=hb.2 i hi
   unfold okP at this
   rw [jf] at this
   obtain ⟨r0,r1,_⟩:=inRange this.1
   have ev:(viewV j.Af).links=linksL j.Af:=rfl
   simp only [qb0,qj hi,cond_true,qak hi,jd,wkV,grB,ev,qdu r0 r1,wS i]
   have ea:appS (pre (atP (linksL j.Af) start path) (i+1)) [(gt (linksL j.Af) (at0 path i).toNat).To]=some (pre (atP (linksL j.Af) start path) (i+1+1)):=qnU (f:=atP (linksL j.Af) start path) (j:=i+1) (by omega)
   rw [ea]
   exact hX)
 unfold qfv
 exact Ev.bind hL .done
end Go.Fw


namespace Go.Fw
open Go
set_option maxRecDepth 100000
section
variable {L:Nat} {fr to:Nat→Int} {lv:Nat→Bool} {n:Nat} {R:List Nat}
theorem OrdOk.ne (h:OrdOk L fr to lv n R) {i j:Nat} (hij:i<j) (hj:j<R.length):R[i]'(by omega) ≠ R[j]:=fun e =>
 (h.at hj).2.1 (by rw [←e,List.mem_iff_getElem];exact ⟨i,by rw [jS];omega,by rw [List.getElem_take]⟩)
theorem OrdOk.nodup (h:OrdOk L fr to lv n R):R.Nodup:=by
 unfold List.Nodup
 rw [List.pairwise_iff_getElem]
 exact fun i j _ hj hij=>h.ne hij hj
theorem OrdOk.full (h:OrdOk L fr to lv n R) (hl:R.length=n) {k:Nat} (hk:k<n):∃ i,∃ hi:i<R.length,R[i]=k:=by
 refine Classical.byContradiction fun hc=>?_
 have hn:k ∉ R:=fun hm=>hc (List.mem_iff_getElem.1 hm)
 have:=qrs (l:=k::R) (l':=List.range n) (List.nodup_cons.2 ⟨hn,h.nodup⟩) (fun x hx=>by
  rw [List.mem_range]
  rcases List.mem_cons.1 hx with rfl|hx
  ·exact hk
  ·obtain ⟨i,hi,rfl⟩:=List.mem_iff_getElem.1 hx
   exact (h.at hi).1)
 rw [List.length_cons,List.length_range] at this
 omega
theorem OrdOk.later (h:OrdOk L fr to lv n R) (hl:R.length=n) {x a c:Nat} (hx:x<L) (hv:lv x=true) (ha:fr x=(a:Int)) (hc:to x=(c:Int)) (hcn:c<n) {i:Nat} (hi:i<R.length) (hia:R[i]=a):∃ j,∃ hj:j<R.length,i<j∧R[j]=c:=by
 obtain ⟨j,hj,e⟩:=h.full hl hcn
 have h0:=(h.at hj).2.2
 rw [e] at h0
 have:=qq8.1 h0 x hx hv hc
 rw [ha,qlS,List.mem_iff_getElem] at this
 obtain ⟨i',hi',e'⟩:=this
 rw [jS] at hi'
 rw [List.getElem_take] at e'
 refine ⟨j,hj,?_,e⟩
 rcases Nat.lt_trichotomy i i' with hh|hh|hh
 ·exact absurd (hia.trans e'.symm) (h.ne hh (by omega))
 ·omega
 ·exact absurd (e'.trans hia.symm) (h.ne hh hi)
end
theorem qya {j:qaQ} {t:qy} {R:List Nat} {start:Int} {path:List Int} (hw:WkOk j t R) (hb:pathB j start path=true):path.length≤156:=by
 have h1:=hw.tg.bl
 have hk:=ql0 h1
 have ho:=hw.tg.ord
 have hl:=hw.tg.len
 have hpl:=qbg (qad (qaB h1))
 have hM:ndB j.Af≤156:=by show 2*(places j.Af.Ab).length≤156;omega
 by_cases h0:path.length=0
 ·omega
 unfold pathB at hb
 rw [jf,qai] at hb
 have step:∀ i,i<path.length→∃ x a c:Nat,x<lkB j.Af∧lvL (lvJ j.Af j.Bi) x=true∧frL (linksL j.Af) x=(a:Int)∧toL (linksL j.Af) x=(c:Int)∧a<ndB j.Af∧c<ndB j.Af∧atP (linksL j.Af) start path i=(a:Int)∧atP (linksL j.Af) start path (i+1)=(c:Int):=by
  intro i hi
  have:=hb.2 i hi
  unfold okP at this
  simp only [jf,beq_iff_eq] at this
  obtain ⟨hr,hv,hf⟩:=this
  obtain ⟨r0,r1,r2⟩:=inRange hr
  have f0:=hk.fr0 _ r2
  have f1:=hk.fr1 _ r2
  have t0:=hk.to0 _ r2
  have t1:=hk.to1 _ r2
  refine ⟨(at0 path i).toNat,(gt (linksL j.Af) (at0 path i).toNat).Bk.toNat,(gt (linksL j.Af) (at0 path i).toNat).To.toNat,r2,hv,qeH f0,qeH t0,?_,?_,?_,qeH t0⟩
  ·show _<2*(places j.Af.Ab).length;omega
  ·show _<2*(places j.Af.Ab).length;omega
  ·rw [←hf];exact qeH f0
 have main:∀ i,i≤path.length→∃ p,∃ hp:p<R.length,i≤p∧(R[p]:Int)=atP (linksL j.Af) start path i:=by
  intro i
  induction i with
  | zero =>
   intro _
   obtain ⟨x,a,c,_,_,_,_,ha,_,e,_⟩:=step 0 (by omega)
   obtain ⟨p,hp,ep⟩:=ho.full hl ha
   exact ⟨p,hp,Nat.zero_le _,by rw [ep,e]⟩
  | succ i ih =>
   intro hi
   obtain ⟨p,hp,hle,ep⟩:=ih (by omega)
   obtain ⟨x,a,c,hx,hv,hf,ht,ha,hc,e1,e2⟩:=step i (by omega)
   obtain ⟨q,hq,hlt,eq⟩:=ho.later hl hx hv hf ht hc hp (by rw [e1] at ep;omega)
   exact ⟨q,hq,by omega,by rw [eq,e2]⟩
 obtain ⟨p,hp,hle,_⟩:=main path.length (je _)
 omega
end Go.Fw


namespace Go.Fw
open Go
set_option maxRecDepth 100000
theorem qwX {j:qaQ} {start:Int} {path:List Int} (hb:pathB j start path=true) {i:Nat} (hi:i<path.length):∃ k:Nat,k<lkB j.Af∧at0 path i=(k:Int):=by
 unfold pathB at hb
 rw [jf,qai] at hb
 have:=hb.2 i hi
 unfold okP at this
 rw [jf] at this
 obtain ⟨r0,_,r2⟩:=inRange this.1
 exact ⟨(at0 path i).toNat,r2,qeH r0⟩
section
variable {j:qaQ} {t:qy} {R:List Nat} {start:Int} {path:List Int} {f:Nat→qf→qf × qf}
end
section
variable {j:qaQ} {t:qy} {R:List Nat} {start mode:Int} {path:List Int} {d:Nat→Int→Int × Int}
end
theorem qtO {j:qaQ} {t:qy} {start:Int} {path:List Int} (hp:path.length≤1048575) (hb:pathB j start path=true):Ev (fun n=>qjp n (swV j t) start path) (pre (atP (linksL j.Af) start path) (path.length+1)):=by
 have hL:=loopF (Lf:=fun n s i=>qep (swV j t) path n s i) (S:=fun i=>pre (atP (linksL j.Af) start path) (i+1)) (len:=path.length) (fin:=(pre (atP (linksL j.Af) start path) (path.length+1),(path.length:Int)))
  (fun n=>by simp only [qep,ql (je _),cond_false])
  (fun i hi X hX=>by
   obtain ⟨k,hk,ek⟩:=qwX hb hi
   have ea:appS (pre (atP (linksL j.Af) start path) (i+1)) [(gt (linksL j.Af) k).To]=some (pre (atP (linksL j.Af) start path) (i+1+1)):=by
    have:atP (linksL j.Af) start path (i+1)=(gt (linksL j.Af) k).To:=by
     show (gt (linksL j.Af) (at0 path i).toNat).To=_
     rw [ek,jn]
    rw [←this]
    exact qnU (by omega)
   simp only [qep,qj hi,cond_true,qak hi,jd,ek,swV,qA hk,wS i]
   rw [ea]
   exact hX)
 unfold qjp
 exact Ev.bind hL .done
theorem qrV {j:qaQ} {start:Int} {path:List Int} (h:qpr j) (hl:okL okI path):∃ R:List Int × Int,R.1.length≤157∧(R.2 ≠ 0→R.1=[])∧Ev (fun n=>qio n j start path) R∧Ev (fun n=>qiT n j start path) R:=by
 have hp:=hl.len
 unfold qio qiT
 rcases qt2 (start:=start) h hp (mode:=0) (.inl rfl) with ⟨code,hne,hs,hi⟩|⟨t,R,hw,hs,hi⟩
 ·exact ⟨([],code),Nat.zero_le _,fun _=>rfl,Ev.bind hs (Ev.tt (qmD hne) .done),Ev.bind hi (Ev.tt (qmD hne) .done)⟩
 ·obtain ⟨e,he,_⟩:=qvT (j:=j) (t:=t) (start:=start) hw.tg.bl h.Ba.len hp
  cases hb:pathB j start path
  ·rw [hb] at he hi
   exact ⟨([],5),Nat.zero_le _,fun _=>rfl,Ev.bind hs (Ev.ff rfl (Ev.bind he (Ev.tt rfl .done))),Ev.bind hi (Ev.tt rfl .done)⟩
  ·have hpl:=qya hw hb
   have hn:=qth (t:=t) (R:=R) hp hb
   rw [hb] at he hi
   exact ⟨(pre (atP (linksL j.Af) start path) (path.length+1),0),by rw [qmI];omega,fun e=>absurd rfl e,Ev.bind hs (Ev.ff rfl (Ev.bind he (Ev.ff rfl (Ev.bind (qtO (by omega) hb) .done)))),Ev.bind hi (Ev.ff rfl (Ev.bind hn .done))⟩
def hlvL (xs:List Int):List Int:=pre (fun i=>W64 ((gt xs i).tdiv 2)) xs.length
theorem qr3 {j:qaQ} {start:Int} {path:List Int} (h:qpr j) (hl:okL okI path):∃ R:List Int × Int,Ev (fun n=>qh4 n j start path) R∧Ev (fun n=>qgo n j start path) R∧qaL R.1≤1048576:=by
 obtain ⟨⟨xs,code⟩,hlen,hz,hs,hi⟩:=qrV (start:=start) h hl
 have hlen:xs.length≤157:=hlen
 have hS:Ev (fun n=>qcl xs n [] 0) (hlvL xs,(xs.length:Int)):=loopF (Lf:=fun n s i=>qcl xs n s i) (S:=fun i=>pre (fun i=>W64 ((gt xs i).tdiv 2)) i) (len:=xs.length) (fin:=(hlvL xs,(xs.length:Int)))
  (fun n=>by simp only [qcl,ql (je _),cond_false];rfl)
  (fun i hi X hX=>by
   have ea:appS (pre (fun i=>W64 ((gt xs i).tdiv 2)) i) [W64 ((gt xs i).tdiv 2)]=some (pre (fun i=>W64 ((gt xs i).tdiv 2)) (i+1)):=qnU (f:=fun i=>W64 ((gt xs i).tdiv 2)) (by omega)
   simp only [qcl,qj hi,cond_true,qA hi,jd,ea,wS i]
   exact hX)
 have hI:Ev (fun n=>qcn xs n xs 0) (hlvL xs,(xs.length:Int)):=by
  have:=loopF (Lf:=fun n s i=>qcn xs n s i) (S:=mixS (fun i=>W64 ((gt xs i).tdiv 2)) xs) (len:=xs.length) (fin:=(hlvL xs,(xs.length:Int)))
   (fun n=>by
    have e:(mixS (fun i=>W64 ((gt xs i).tdiv 2)) xs xs.length).length=xs.length:=qrh (je _)
    simp only [qcn,e,ql (je _),cond_false]
    rw [qwz];rfl)
   (fun i hi X hX=>by
    have e:(mixS (fun i=>W64 ((gt xs i).tdiv 2)) xs i).length=xs.length:=qrh (by omega)
    simp only [qcn,e,qj hi,cond_true,qyM hi,jd,wS i]
    rw [←qe3 hi,qw9 (f:=fun i=>W64 ((gt xs i).tdiv 2)) hi]
    exact hX)
  rwa [qwR] at this
 unfold qh4 qgo
 by_cases hc:code=0
 ·subst hc
  exact ⟨(hlvL xs,0),Ev.bind hs (Ev.ff rfl (Ev.bind hS .done)),Ev.bind hi (Ev.bind hI .done),by show (pre _ _).length≤_;rw [qmI];omega⟩
 ·have e:xs=[]:=hz hc
  subst e
  exact ⟨([],code),Ev.bind hs (Ev.tt (qmD hc) .done),Ev.bind hi (Ev.bind hI .done),Nat.zero_le _⟩
end Go.Fw


namespace Go.Fw
open Go
set_option maxRecDepth 100000
def Mk {σ:Type} (F:Nat→Option (Int × σ)) (k:Int) (w:Nat):Prop:=∃ k' x,Ev F (k',x)∧k≤k'∧k'≤k+16*(w:Int)
theorem qrk {α:Type} {t:List α} {j:Nat} {y:α} (h:j<t.length):idx (setS t (j:Int) y) (j:Int)=some y:=by
 rw [qgS (by rw [qe6];exact h),qwp h]
theorem qpg {α:Type} {t:List α} {i:Int} {y z:α}:setS (setS t i y) i z=setS t i z:=by
 unfold setS;rw [List.set_set]
theorem qrM {α:Type} {a:List α} {wt:α→Nat} {j:Nat} (h:j<a.length):((a.take (j+1)).map wt).sum=((a.take j).map wt).sum+wt a[j]:=by
 rw [jv h,jK,List.sum_append];simp
theorem quA {α:Type} {a:List α} {wt:α→Nat} {j:Nat}:((a.take j).map wt).sum≤(a.map wt).sum:=by
 conv=>rhs;rw [←List.take_append_drop j a]
 rw [jK,List.sum_append]
 exact Nat.le_add_right _ _
theorem qhq {α:Type} {a:List α} {wt:α→Nat} {Lf:Nat→List α→Int→Int→Option (List α × Int × Int)} {F:Nat→Option (Int × List α)} {k:Int} (hk0:0≤k) (hk1:k+16*((a.length+(a.map wt).sum:Nat):Int)≤1000000000000)
  (hend:∀ n t k,Lf (n+1) t k (a.length:Int)=some (t,k,(a.length:Int)))
  (hstep:∀ x,x ∈ a→∀ k:Int,0≤k→k+16*((1+wt x:Nat):Int)≤1000000000000→∃ y k',k≤k'∧k'≤k+16*((1+wt x:Nat):Int) ∧
   ∀ (t:List α) (j:Nat),j<9223372036854775807→j<a.length→j<t.length→t[j]?=some x→∀ X,Ev (fun n=>Lf n (setS t (j:Int) y) k' ((j+1:Nat):Int)) X→Ev (fun n=>Lf (n+1) t k (j:Int)) X)
  (hl:a.length≤1048576)
  (hF:∀ n,F n=(Lf n a k 0).bind fun o=>match o with|(x1,i1,_)=>some (i1,x1)):Mk F k (a.length+(a.map wt).sum):=by
 obtain ⟨⟨t,k'⟩,⟨_,_,h3,h4⟩,e⟩:=loopE (τ:=List α × Int) (Lf:=fun n t j=>Lf n t.1 t.2 j) (fin:=fun t=>(t.1,t.2,(a.length:Int)))
  (fun j t=>t.1.length=a.length∧(∀ i,j≤i→t.1[i]?=a[i]?)∧k≤t.2∧t.2≤k+16*((j+((a.take j).map wt).sum:Nat):Int)) (len:=a.length)
  (fun n t=>hend n t.1 t.2)
  (fun j t hj ht=>by
   obtain ⟨h1,h2,h3,h4⟩:=ht
   have hs:=qrM (wt:=wt) hj
   have hs2:=quA (a:=a) (wt:=wt) (j:=j+1)
   obtain ⟨y,k',q1,q2,q3⟩:=hstep a[j] (jp hj) t.2 (by omega) (by omega)
   refine ⟨(setS t.1 (j:Int) y,k'),⟨by rw [qe6];exact h1,fun i hi=>?_,by show k≤k';omega,?_⟩,fun X hX=>?_⟩
   ·show (t.1.set _ _)[i]?=_
    rw [List.getElem?_set_ne (by rw [jn];omega)]
    exact h2 i (by omega)
   ·show k'≤k+_
    rw [hs]
    omega
   ·exact q3 t.1 j (by omega) hj (by omega) (by rw [h2 j (je _),ji hj]) X hX) 0 (Nat.zero_le _) (a,k) ⟨rfl,fun _ _=>rfl,jX _,by show k≤k+_;omega⟩
 rw [jD] at h4
 exact ⟨k',t,Ev.congr hF (Ev.bind e .done),h3,h4⟩
theorem qx8 {α:Type} {pre a:List α} {j:Nat} {y:α} (hp:pre.length=j) (hj:j<a.length):setS (pre++a.drop j) (j:Int) y=(pre++[y])++a.drop (j+1):=by
 show (pre++a.drop j).set j y=_
 rw [List.set_append,if_neg (by omega),hp,Nat.sub_self,jF hj,List.set_cons_zero,jq]
 rfl
def marked (k:Int) (m:Nat):List Int:=(List.range m).map fun (i:Nat)=>k+(i:Int)
theorem qqV {a:List Int} {k:Int} (h0:0≤k) (h1:k≤1000000000000) (hl:a.length≤1048576):Ev (fun n=>qaD n a k) (k+(a.length:Int),marked k a.length):=by
 have hL:Ev (fun n=>qco a n a k 0) (marked k a.length,k+(a.length:Int),(a.length:Int)):=by
  have:=loopF (τ:=List Int × Int) (Lf:=fun n t j=>qco a n t.1 t.2 j) (S:=fun j=>(marked k j++a.drop j,k+(j:Int))) (len:=a.length) (fin:=(marked k a.length,k+(a.length:Int),(a.length:Int))) (fun n=>by
    simp only [qco,ql (je _),cond_false,List.drop_length,jY])
   (fun j hj X hX=>by
    have hp:(marked k j).length=j:=by simp [marked]
    have hlt:j<(marked k j++a.drop j).length:=by rw [jh,hp,List.length_drop];omega
    have hm:marked k (j+1)=marked k j++[k+(j:Int)]:=by unfold marked;rw [List.range_succ,jK];rfl
    simp only [qco,qj hj,cond_true,qgS hlt,jd,qx8 hp hj,wS j,qN (show -9223372036854775808≤k+(j:Int)+1 by omega) (by omega)]
    rw [←hm]
    rw [show k+(j:Int)+1=k+((j+1:Nat):Int) by omega]
    exact hX)
  simpa [marked] using this
 unfold qaD
 exact Ev.bind hL .done
theorem qeC {a:List Int} {k:Int} (h0:0≤k) (h1:k≤1000000000000) (hl:qaL a≤1048576):∃ k' x,Ev (fun n=>qaD n a k) (k',x)∧k≤k'∧k'≤k+16*(qaL a:Int) :=
 ⟨_,_,qqV h0 h1 hl,by omega,by unfold qaL;omega⟩
theorem qyG {k:Int} {m:Nat} (h0:0≤k) (h1:k≤1000000000000) (hl:m≤1048576):Ev (fun n=>qgk n (marked k m) k) (k+(m:Int)):=by
 have hlen:(marked k m).length=m:=by simp [marked]
 have hL:Ev (fun n=>qcp (marked k m) n k 0) (.nxt (k+(m:Int),(m:Int))):=by
  have:=loopF (Lf:=qcp (marked k m)) (S:=fun j=>k+(j:Int)) (len:=m) (fin:=.nxt (k+(m:Int),(m:Int))) (fun n=>by
    simp only [qcp,hlen,ql (je _),cond_false])
   (fun j hj X hX=>by
    have e:idx (marked k m) (j:Int)=some (k+(j:Int)):=by
     rw [qgS (by rw [hlen];exact hj)];simp [marked]
    simp only [qcp,hlen,qj hj,cond_true,e,jd,bne_self_eq_false,cond_false,wS j,qN (show -9223372036854775808≤k+(j:Int)+1 by omega) (by omega)]
    rw [show k+(j:Int)+1=k+((j+1:Nat):Int) by omega]
    exact hX)
  simpa using this
 unfold qgk
 exact Ev.bind hL .done
theorem qvM {a b:ByteArray} (h:a.size+b.size≤1000000):catB a b=some (a++b):=by
 unfold catB
 rw [if_pos]
 show ((a.size+b.size:Nat):Int)≤9223372036854775807
 omega
theorem qsz {x:IntK .u8}:(strOf [x]).size=1:=rfl
theorem qjL {k:Int} (hk:k≤1000000000001000):∃ s,Ev (fun n=>qeb n k) s:=by
 have main:∀ m:Nat,∀ i1:Int,∀ z:ByteArray,0≤i1→i1≤9000000000000000000→i1<10 ^ m→z.size+m≤1000→∃ o:Int × ByteArray,o.2.size≤1000∧Ev (fun n=>qfW n i1 z) o:=by
  intro m
  induction m with
  | zero =>
   intro i1 z h0 hb h1 hz
   have:i1=0:=by have:(10:Int) ^ 0=1:=rfl;omega
   subst this
   exact ⟨(0,z),by show z.size≤1000;omega,Ev.succ (Ev.ff (by decide) .done)⟩
  | succ m ih =>
   intro i1 z h0 hb h1 hz
   by_cases hp:i1=0
   ·subst hp
    exact ⟨(0,z),by show z.size≤1000;omega,Ev.succ (Ev.ff (by decide) .done)⟩
   ·have hd:i1.tdiv 10=i1 / 10:=jG h0
    have h10:(10:Int) ^ (m+1)=10 ^ m*10:=Int.pow_succ _ _
    have hc:catB (strOf ([(⟨IntKind.wrap .u8 (W64 (48+(i1.tmod 10)))⟩:IntK .u8)])) z=some (strOf ([(⟨IntKind.wrap .u8 (W64 (48+(i1.tmod 10)))⟩:IntK .u8)])++z):=qvM (by rw [qsz];omega)
    obtain ⟨o,ho,e⟩:=ih (i1 / 10) (strOf ([(⟨IntKind.wrap .u8 (W64 (48+(i1.tmod 10)))⟩:IntK .u8)])++z) (by omega) (by omega) (by omega) (by rw [ByteArray.size_append,qsz];omega)
    refine ⟨o,ho,Ev.succ ?_⟩
    simp only [qfW,show decide (i1 > 0)=true by simp;omega,cond_true,hc,jd,hd,qN (show -9223372036854775808≤i1 / 10 by omega) (by omega)]
    exact e
 unfold qeb
 by_cases h0:k≤0
 ·exact ⟨_,Ev.tt (by simpa using h0) .done⟩
 ·obtain ⟨⟨o1,o2⟩,ho,e⟩:=main 16 k ⟨#[]⟩ (by omega) (by omega) (by have:(10:Int) ^ 16=10000000000000000:=rfl;omega) (by decide)
  refine ⟨(⟨#[109]⟩:ByteArray)++o2,Ev.ff (by simp;omega) (Ev.bind e ?_)⟩
  have ho:o2.size≤1000:=ho
  show Ev (fun n=>(catB ⟨#[109]⟩ o2).bind fun z3=>some z3) _
  rw [qvM (show (⟨#[109]⟩:ByteArray).size+o2.size≤1000000 by have:(⟨#[109]⟩:ByteArray).size=1:=rfl;omega)]
  exact .done
theorem qyc {α:Type} {a:List α}:(a.map (fun _=>0)).sum=0:=by induction a<;>simp_all
theorem qoc {a:(List qr)} {k:Int} (h0:0≤k) (h1:k+16*(qda a:Int)≤1000000000000) (hw:qda a≤1048576):Mk (fun n=>qhZ n a k) k (qda a):=by
 refine qhq (a:=a) (wt:=(fun x:qr=>qd8 x)) h0 h1 (Lf:=qdd a) (fun n t k=>by simp only [qdd,ql (je _),cond_false]) (fun x hx k h0 h1=>?_) (by simp only [qda] at hw;omega) (fun _=>rfl)
 have hs:=qcC (wt:=(fun x:qr=>qd8 x)) hx
 have ew:qd8 x=qaL x.Bm+qaL x.Bj+qaL x.Bh:=rfl
 have hw:a.length+(a.map (fun x:qr=>qd8 x)).sum≤1048576:=hw
 simp only [ew] at hs h1 ⊢
 obtain ⟨k1,x1,q1,l1,u1⟩:=qeC (a:=x.Bm) (k:=k) (by omega) (by omega) (by omega)
 obtain ⟨k2,x2,q2,l2,u2⟩:=qeC (a:=x.Bj) (k:=k1) (by omega) (by omega) (by omega)
 obtain ⟨k3,x3,q3,l3,u3⟩:=qeC (a:=x.Bh) (k:=k2) (by omega) (by omega) (by omega)
 refine ⟨⟨x1,x2,x3⟩,k3,by omega,by omega,fun t j hb hj ht hx X hX=>?_⟩
 simp only [qdd,qj hj,cond_true,qc7 hb]
 try simp only [qan hx,jd]
 refine Ev.bind q1 ?_
 refine Ev.bind q2 ?_
 refine Ev.bind q3 ?_
 exact hX
theorem quf {a:(List qF)} {k:Int} (h0:0≤k) (h1:k+16*(qhB a:Int)≤1000000000000) (hw:qhB a≤1048576):Mk (fun n=>qlK n a k) k (qhB a):=by
 refine qhq (a:=a) (wt:=(fun x:qF=>qi4 x)) h0 h1 (Lf:=qex a) (fun n t k=>by simp only [qex,ql (je _),cond_false]) (fun x hx k h0 h1=>?_) (by simp only [qhB] at hw;omega) (fun _=>rfl)
 have hs:=qcC (wt:=(fun x:qF=>qi4 x)) hx
 have ew:qi4 x=qda x.Bn+qda x.Bc:=rfl
 have hw:a.length+(a.map (fun x:qF=>qi4 x)).sum≤1048576:=hw
 simp only [ew] at hs h1 ⊢
 have e1:W64 (k+1)=k+1:=qN (by omega) (by omega)
 have e2:W64 (k+1+1)=k+1+1:=qN (by omega) (by omega)
 have e3:W64 (k+1+1+1)=k+1+1+1:=qN (by omega) (by omega)
 have e4:W64 (k+1+1+1+1)=k+1+1+1+1:=qN (by omega) (by omega)
 obtain ⟨k1,x1,q1,l1,u1⟩:=qoc (a:=x.Bn) (k:=k+1+1+1+1) (by omega) (by omega) (by omega)
 obtain ⟨k2,x2,q2,l2,u2⟩:=qoc (a:=x.Bc) (k:=k1) (by omega) (by omega) (by omega)
 refine ⟨⟨k,k+1,k+1+1,k+1+1+1,x1,x2⟩,k2,by omega,by omega,fun t j hb hj ht hx X hX=>?_⟩
 simp only [qex,qj hj,cond_true,qc7 hb]
 try simp only [qan hx,jd,e1,e2,e3,e4]
 refine Ev.bind q1 ?_
 refine Ev.bind q2 ?_
 exact hX
theorem quJ {a:(List qal)} {k:Int} (h0:0≤k) (h1:k+16*(qhC a:Int)≤1000000000000) (hw:qhC a≤1048576):Mk (fun n=>qlM n a k) k (qhC a):=by
 refine qhq (a:=a) (wt:=(fun x:qal=>qk0 x)) h0 h1 (Lf:=qej a) (fun n t k=>by simp only [qej,ql (je _),cond_false]) (fun x hx k h0 h1=>?_) (by simp only [qhC] at hw;omega) (fun _=>rfl)
 have hs:=qcC (wt:=(fun x:qal=>qk0 x)) hx
 have ew:qk0 x=x.Bb.size:=rfl
 have hw:a.length+(a.map (fun x:qal=>qk0 x)).sum≤1048576:=hw
 simp only [ew] at hs h1 ⊢
 obtain ⟨s1,es1⟩:=qjL (k:=k) (by omega)
 have e1:W64 (k+1)=k+1:=qN (by omega) (by omega)
 have e2:W64 (k+1+1)=k+1+1:=qN (by omega) (by omega)
 have e3:W64 (k+1+1+1)=k+1+1+1:=qN (by omega) (by omega)
 have e4:W64 (k+1+1+1+1)=k+1+1+1+1:=qN (by omega) (by omega)
 refine ⟨⟨s1,k+1,k+1+1,((k+1+1+1).tmod 3)==0⟩,k+1+1+1+1,by omega,by omega,fun t j hb hj ht hx X hX=>?_⟩
 simp only [qej,qj hj,cond_true,qc7 hb]
 try simp only [qan hx,qrk ht,jd,qpg]
 refine Ev.bind es1 ?_
 try simp only [e1,e2,e3,e4]
 exact hX
theorem qtq {a:(List qw)} {k:Int} (h0:0≤k) (h1:k+16*(qgf a:Int)≤1000000000000) (hw:qgf a≤1048576):Mk (fun n=>qkN n a k) k (qgf a):=by
 refine qhq (a:=a) (wt:=(fun x:qw=>qfH x)) h0 h1 (Lf:=qdB a) (fun n t k=>by simp only [qdB,ql (je _),cond_false]) (fun x hx k h0 h1=>?_) (by simp only [qgf] at hw;omega) (fun _=>rfl)
 have hs:=qcC (wt:=(fun x:qw=>qfH x)) hx
 have ew:qfH x=x.Bb.size+qhC x.Bd+qhB x.Au+qaL x.Bo:=rfl
 have hw:a.length+(a.map (fun x:qw=>qfH x)).sum≤1048576:=hw
 simp only [ew] at hs h1 ⊢
 obtain ⟨s1,es1⟩:=qjL (k:=k) (by omega)
 have e1:W64 (k+1)=k+1:=qN (by omega) (by omega)
 have e2:W64 (k+1+1)=k+1+1:=qN (by omega) (by omega)
 obtain ⟨k2,x2,q2,l2,u2⟩:=quJ (a:=x.Bd) (k:=k+1+1) (by omega) (by omega) (by omega)
 obtain ⟨k3,x3,q3,l3,u3⟩:=quf (a:=x.Au) (k:=k2) (by omega) (by omega) (by omega)
 obtain ⟨k4,x4,q4,l4,u4⟩:=qeC (a:=x.Bo) (k:=k3) (by omega) (by omega) (by omega)
 have e3:W64 (k4+1)=k4+1:=qN (by omega) (by omega)
 have e4:W64 (k4+1+1)=k4+1+1:=qN (by omega) (by omega)
 refine ⟨⟨s1,k+1,x2,x3,x4,k4,k4+1⟩,k4+1+1,by omega,by omega,fun t j hb hj ht hx X hX=>?_⟩
 simp only [qdB,qj hj,cond_true,qc7 hb]
 try simp only [qan hx,jd]
 refine Ev.bind es1 ?_
 try simp only [e1,e2]
 refine Ev.bind q2 ?_
 refine Ev.bind q3 ?_
 refine Ev.bind q4 ?_
 try simp only [e3,e4]
 exact hX
theorem qra {a:qn} {k:Int} (h0:0≤k) (h1:k+16*(qet a:Int)≤1000000000000) (hw:qet a≤1048576):Mk (fun n=>qhg n a k) k (qet a):=by
 simp only [qet] at h1 hw ⊢
 obtain ⟨k1,x1,q1,l1,u1⟩:=qtq (a:=a.Ar) (k:=k) (by omega) (by omega) (by omega)
 refine ⟨k1,x1,?_,by omega,by omega⟩
 unfold qhg
 exact Ev.bind q1 (.done)
theorem qpm {a:(List qi)} {k:Int} (h0:0≤k) (h1:k+16*(qbN a:Int)≤1000000000000) (hw:qbN a≤1048576):Mk (fun n=>qif n a k) k (qbN a):=by
 refine qhq (a:=a) (wt:=(fun x:qi=>qbF x)) h0 h1 (Lf:=qcb a) (fun n t k=>by simp only [qcb,ql (je _),cond_false]) (fun x hx k h0 h1=>?_) (by simp only [qbN] at hw;omega) (fun _=>rfl)
 have hs:=qcC (wt:=(fun x:qi=>qbF x)) hx
 have ew:qbF x=x.Bb.size+qaL x.Ak:=rfl
 have hw:a.length+(a.map (fun x:qi=>qbF x)).sum≤1048576:=hw
 simp only [ew] at hs h1 ⊢
 obtain ⟨s1,es1⟩:=qjL (k:=k) (by omega)
 have e1:W64 (k+1)=k+1:=qN (by omega) (by omega)
 have e2:W64 (k+1+1)=k+1+1:=qN (by omega) (by omega)
 obtain ⟨k2,x2,q2,l2,u2⟩:=qeC (a:=x.Ak) (k:=k+1+1) (by omega) (by omega) (by omega)
 refine ⟨⟨s1,k+1,x2⟩,k2,by omega,by omega,fun t j hb hj ht hx X hX=>?_⟩
 simp only [qcb,qj hj,cond_true,qc7 hb]
 try simp only [qan hx,jd]
 refine Ev.bind es1 ?_
 try simp only [e1,e2]
 refine Ev.bind q2 ?_
 exact hX
theorem qrc {a:(List ByteArray)} {k:Int} (h0:0≤k) (h1:k+16*(qem a:Int)≤1000000000000) (hw:qem a≤1048576):Mk (fun n=>qjc n a k) k (qem a):=by
 refine qhq (a:=a) (wt:=(fun x:ByteArray=>x.size)) h0 h1 (Lf:=qcV a) (fun n t k=>by simp only [qcV,ql (je _),cond_false]) (fun x hx k h0 h1=>?_) (by simp only [qem] at hw;omega) (fun _=>rfl)
 obtain ⟨s,es⟩:=qjL (k:=k) (by omega)
 have e1:W64 (k+1)=k+1:=qN (by omega) (by omega)
 refine ⟨s,k+1,by omega,by omega,fun t j hb hj ht hx X hX=>?_⟩
 simp only [qcV,qj hj,cond_true,e1,qc7 hb]
 refine Ev.bind es ?_
 try simp only [qan hx,jd]
 exact hX
theorem qtB {a:(List qL)} {k:Int} (h0:0≤k) (h1:k+16*(qf7 a:Int)≤1000000000000) (hw:qf7 a≤1048576):Mk (fun n=>qk4 n a k) k (qf7 a):=by
 refine qhq (a:=a) (wt:=(fun x:qL=>qh6 x)) h0 h1 (Lf:=qdK a) (fun n t k=>by simp only [qdK,ql (je _),cond_false]) (fun x hx k h0 h1=>?_) (by simp only [qf7] at hw;omega) (fun _=>rfl)
 have hs:=qcC (wt:=(fun x:qL=>qh6 x)) hx
 have ew:qh6 x=x.Bb.size:=rfl
 have hw:a.length+(a.map (fun x:qL=>qh6 x)).sum≤1048576:=hw
 simp only [ew] at hs h1 ⊢
 obtain ⟨s1,es1⟩:=qjL (k:=k) (by omega)
 have e1:W64 (k+1)=k+1:=qN (by omega) (by omega)
 have e2:W64 (k+1+1)=k+1+1:=qN (by omega) (by omega)
 have e3:W64 (k+1+1+1)=k+1+1+1:=qN (by omega) (by omega)
 refine ⟨⟨s1,k+1,k+1+1⟩,k+1+1+1,by omega,by omega,fun t j hb hj ht hx X hX=>?_⟩
 simp only [qdK,qj hj,cond_true,qc7 hb]
 try simp only [qan hx,qrk ht,jd,qpg]
 refine Ev.bind es1 ?_
 try simp only [e1,e2,e3]
 exact hX
theorem qrR {a:qd} {k:Int} (h0:0≤k) (h1:k+16*(qeJ a:Int)≤1000000000000) (hw:qeJ a≤1048576):Mk (fun n=>qh3 n a k) k (qeJ a):=by
 simp only [qeJ] at h1 hw ⊢
 obtain ⟨k1,x1,q1,l1,u1⟩:=qpm (a:=a.Aa) (k:=k) (by omega) (by omega) (by omega)
 obtain ⟨k2,x2,q2,l2,u2⟩:=qrc (a:=a.Ak) (k:=k1) (by omega) (by omega) (by omega)
 obtain ⟨k3,x3,q3,l3,u3⟩:=qtB (a:=a.Aj) (k:=k2) (by omega) (by omega) (by omega)
 refine ⟨k3,(x1,x2,x3),?_,by omega,by omega⟩
 unfold qh3
 exact Ev.bind q1 (Ev.bind q2 (Ev.bind q3 (.done)))
theorem qs2 {a:(List qD)} {k:Int} (h0:0≤k) (h1:k+16*(qfX a:Int)≤1000000000000) (hw:qfX a≤1048576):Mk (fun n=>qkW n a k) k (qfX a):=by
 refine qhq (a:=a) (wt:=(fun x:qD=>qfR x)) h0 h1 (Lf:=qdD a) (fun n t k=>by simp only [qdD,ql (je _),cond_false]) (fun x hx k h0 h1=>?_) (by simp only [qfX] at hw;omega) (fun _=>rfl)
 have hs:=qcC (wt:=(fun x:qD=>qfR x)) hx
 have ew:qfR x=qaL x.Am+qaL x.Bw+qaL x.Bs+qaL x.Bl:=rfl
 have hw:a.length+(a.map (fun x:qD=>qfR x)).sum≤1048576:=hw
 simp only [ew] at hs h1 ⊢
 obtain ⟨k1,x1,q1,l1,u1⟩:=qeC (a:=x.Am) (k:=k) (by omega) (by omega) (by omega)
 obtain ⟨k2,x2,q2,l2,u2⟩:=qeC (a:=x.Bw) (k:=k1) (by omega) (by omega) (by omega)
 obtain ⟨k3,x3,q3,l3,u3⟩:=qeC (a:=x.Bs) (k:=k2) (by omega) (by omega) (by omega)
 obtain ⟨k4,x4,q4,l4,u4⟩:=qeC (a:=x.Bl) (k:=k3) (by omega) (by omega) (by omega)
 refine ⟨⟨x1,x2,x3,x4⟩,k4,by omega,by omega,fun t j hb hj ht hx X hX=>?_⟩
 simp only [qdD,qj hj,cond_true,qc7 hb]
 try simp only [qan hx,jd]
 refine Ev.bind q1 ?_
 refine Ev.bind q2 ?_
 refine Ev.bind q3 ?_
 refine Ev.bind q4 ?_
 exact hX
theorem qs8 {a:qg} {k:Int} (h0:0≤k) (h1:k+16*(qf2 a:Int)≤1000000000000) (hw:qf2 a≤1048576):Mk (fun n=>qiC n a k) k (qf2 a):=by
 simp only [qf2] at h1 hw ⊢
 obtain ⟨k1,x1,q1,l1,u1⟩:=qra (a:=a.Av) (k:=k) (by omega) (by omega) (by omega)
 obtain ⟨k2,⟨x2_0,x2_1,x2_2⟩,q2,l2,u2⟩:=qrR (a:=a.Ab) (k:=k1) (by omega) (by omega) (by omega)
 obtain ⟨k3,x3,q3,l3,u3⟩:=qs2 (a:=a.Ac) (k:=k2) (by omega) (by omega) (by omega)
 refine ⟨k3,(x1,x2_0,x2_1,x2_2,x3),?_,by omega,by omega⟩
 unfold qiC
 exact Ev.bind q1 (Ev.bind q2 (Ev.bind q3 (.done)))
theorem qri {a:(List qe)} {k:Int} (h0:0≤k) (h1:k+16*(qeq a:Int)≤1000000000000) (hw:qeq a≤1048576):Mk (fun n=>qjd n a k) k (qeq a):=by
 rw [show qeq a=a.length+(a.map (fun _:qe=>0)).sum by unfold qeq;rw [qyc,Jb]] at *
 refine qhq (a:=a) (wt:=(fun _:qe=>0)) h0 h1 (Lf:=qcW a) (fun n t k=>by simp only [qcW,ql (je _),cond_false]) (fun x hx k h0 h1=>?_) (by omega) (fun _=>rfl)
 have hs:=qcC (wt:=(fun _:qe=>0)) hx
 have e1:W64 (k+1)=k+1:=qN (by omega) (by omega)
 have e2:W64 (k+1+1)=k+1+1:=qN (by omega) (by omega)
 have e3:W64 (k+1+1+1)=k+1+1+1:=qN (by omega) (by omega)
 have e4:W64 (k+1+1+1+1)=k+1+1+1+1:=qN (by omega) (by omega)
 have e5:W64 (k+1+1+1+1+1)=k+1+1+1+1+1:=qN (by omega) (by omega)
 refine ⟨⟨k,⟨k+1,k+1+1⟩,⟨k+1+1+1,k+1+1+1+1⟩⟩,k+1+1+1+1+1,by omega,by omega,fun t j hb hj ht hx X hX=>?_⟩
 simp only [qcW,qj hj,cond_true,qc7 hb]
 try simp only [qan hx,qrk ht,jd,qpg,e1,e2,e3,e4,e5]
 exact hX
theorem qvp {a:qaQ} {k:Int} (h0:0≤k) (h1:k+16*(qkb a:Int)≤1000000000000) (hw:qkb a≤1048576):Mk (fun n=>qko n a k) k (qkb a):=by
 simp only [qkb] at h1 hw ⊢
 obtain ⟨k1,⟨x1_0,x1_1,x1_2,x1_3,x1_4⟩,q1,l1,u1⟩:=qs8 (a:=a.Af) (k:=k) (by omega) (by omega) (by omega)
 obtain ⟨k2,x2,q2,l2,u2⟩:=qeC (a:=a.Bi) (k:=k1) (by omega) (by omega) (by omega)
 obtain ⟨k3,x3,q3,l3,u3⟩:=qri (a:=a.Ba) (k:=k2) (by omega) (by omega) (by omega)
 refine ⟨k3,(x1_0,x1_1,x1_2,x1_3,x1_4,x2,x3),?_,by omega,by omega⟩
 unfold qko
 exact Ev.bind q1 (Ev.bind q2 (Ev.bind q3 (.done)))
end Go.Fw


namespace Go.Fw
open Go Go.Proofs
open Go.RowKit (Below)
set_option maxRecDepth 100000
set_option maxHeartbeats 1600000
variable {n:Nat} {w:World} {cs1 cs2 cs3 cs4 cs5 cs6 cs7 cs8 cs9:List Value}
def qf0 (n:Nat) (a_0:qaQ) (a_1:Int) (a_2:(List Int)):Option Bool :=
 bif decide ((a_2.length:Int) > 1048576) then some true else
 (qmt n a_0 1048576).bind fun r1 =>
 bif decide (r1<0) then some true else
 (qie n a_0).bind fun r2 =>
 (qaO n a_2).bind fun r3 =>
 (qh4 n r2 a_1 r3).bind fun o=>match o with
  | (r5,r6) =>
   (qie n a_0).bind fun r7 =>
   (qaO n a_2).bind fun r8 =>
   (qgo n r7 a_1 r8).bind fun o=>match o with
    | (r10,r11) =>
     (
      (qaP n r10 r5).bind fun r28 =>
      bif (!r28) then some true else
      some (r11 != r6)).bind fun b1 =>
     bif b1 then some false else
     (qie n a_0).bind fun r12 =>
     (qmo n r7 r12).bind fun r13 =>
     bif (!r13) then some false else
     (qaO n a_2).bind fun r14 =>
     (qaP n r8 r14).bind fun r15 =>
     bif (!r15) then some false else
     (qko n (⟨(⟨(⟨r7.Af.Av.Ar⟩:qn),(⟨r7.Af.Ab.Aa,r7.Af.Ab.Ak,r7.Af.Ab.Aj⟩:qd),r7.Af.Ac⟩:qg),(⟨r7.Ah.Bb,r7.Ah.As,r7.Ah.Ay,r7.Ah.Ap,r7.Ah.Az⟩:qu),r7.Bi,r7.Ba⟩:qaQ) 1).bind fun o=>match o with
      | (r16,_,_,_,_,_,_,_) =>
       (qaD n r8 r16).bind fun o=>match o with
        | (r17,_) =>
         (
          bif decide (r17<0) then some true else
          (qaP n r10 r5).bind fun r27 =>
          bif (!r27) then some true else
          some (r11 != r6)).bind fun b2 =>
         bif b2 then some false else
         (qaD n r10 1).bind fun o=>match o with
          | (r18,x9) =>
           (qgk n x9 1).bind fun r19 =>
           bif decide (r19<0) then some false else
           bif (r19 != r18) then some false else
           (qie n (⟨(⟨(⟨a_0.Af.Av.Ar⟩:qn),(⟨a_0.Af.Ab.Aa,a_0.Af.Ab.Ak,a_0.Af.Ab.Aj⟩:qd),a_0.Af.Ac⟩:qg),(⟨a_0.Ah.Bb,a_0.Ah.As,a_0.Ah.Ay,a_0.Ah.Ap,a_0.Ah.Az⟩:qu),a_0.Bi,a_0.Ba⟩:qaQ)).bind fun r20 =>
           (qaO n a_2).bind fun r21 =>
           (qgo n r20 a_1 r21).bind fun o=>match o with
            | (r23,r24) =>
             (
              (qaP n r23 r5).bind fun r26 =>
              bif (!r26) then some true else
              some (r24 != r6)).bind fun b3 =>
             bif b3 then some false else
             (qgk n x9 1).bind fun r25 =>
             bif decide (r25<0) then some false else
             bif (r25 != r18) then some false else
             some true
theorem qlg {a_0:qaQ} {a_1:Int} {a_2:(List Int)} (ha1:GoT.R w (old w) a_0 cs1) (ha2:GoT.R w (old w) a_2 cs2) {r:Bool} (hF:qf0 n a_0 a_1 a_2=some r):RetV Tryz.prog 7 [GoT.v qaQ cs1,.int .i64 a_1,GoT.v (List Int) cs2] w r:=by
 obtain ⟨p1,k1,p2,k2,p3,k3,p4,k4,p5,k5,p6,k6,p7,k7,rfl,s1,s2,s3,s4,s5,s6,s7⟩:=qcr ha1
 obtain ⟨p8,k8,rfl,s8⟩:=ha2
 refine zV 122 Tryz.func7 rfl fun h=>zSR (qv h rfl rfl fun w1 bb1 h=>X0 9 rfl (qh rfl hF ?_ ?_))<;>intro hF
 ·exact X0 4 rfl (rb h hF rfl)
 refine X1 9 0 h rfl (zcI h hF (qsc (h.old ha1)) rfl fun r1 w2 h hF=>X0 8 rfl (qh rfl hF ?_ ?_))<;>intro hF
 ·exact X0 4 rfl (rb h hF rfl)
 refine X1 4 0 h rfl (zcO h hF (qjq (h.old ha1)) rfl fun r2 w3 S1 cs3 h hF=>?_)
 obtain ⟨p9,k9,p10,k10,p11,k11,p12,k12,p13,k13,p14,k14,p15,k15,rfl,-,-,-,-,-,-,-⟩:=qcr (h.own 0 rfl)
 refine zp2 rfl (zcL h hF (qaH ⟨_,_,rfl,(h.oldS s8)⟩) rfl fun r3 w4 S2 p16 k16 h hF=>?_)
 obtain ⟨r4,hr4,hF⟩:=qc hF
 obtain ⟨r5,r6⟩:=r4
 refine qa8 (r5,r6) h (cB 25 rfl) (qou (h.own 1 rfl) (h.own 0 rfl) hr4) rfl rfl rfl rfl fun w5 S3 us1 hv1 hr5=>?_
 obtain ⟨S4,S5,p17,k17,us2,rfl,hv2,hr6⟩:=hv1.consL hr5
 obtain ⟨rfl,h⟩:=hv2.lastI hr6
 refine X1 9 3 h rfl (zcO h hF (qjq (h.old ha1)) rfl fun r7 w6 S7 cs4 h hF=>?_)
 obtain ⟨p18,k18,p19,k19,p20,k20,p21,k21,p22,k22,p23,k23,p24,k24,rfl,-,-,-,-,-,-,-⟩:=qcr (h.own 0 rfl)
 refine qp qa h rfl rfl rfl fun w7 bb2 h=>zs 0 h rfl fun w8 h=>X0 4 rfl (zcL h hF (qaH ⟨_,_,rfl,(h.oldS s8)⟩) rfl fun r8 w9 S8 p25 k25 h hF=>X1 7 1 h rfl ?_)
 obtain ⟨r9,hr10,hF⟩:=qc hF
 obtain ⟨r10,r11⟩:=r9
 refine qa8 (r10,r11) h (cB 26 rfl) (qkH (h.own 2 rfl) (h.own 0 rfl) hr10) rfl rfl rfl rfl fun w10 S9 us3 hv4 hr11=>?_
 obtain ⟨S10,S11,p26,k26,us4,rfl,hv5,hr12⟩:=hv4.consL hr11
 obtain ⟨rfl,h⟩:=hv5.lastI hr12
 refine X0 8 rfl ?_
 obtain ⟨KF3,hKF3,o6,hF,hK3⟩:=bindE hF
 refine qba (fun e w'=>∃ (b1:Bool),KF3 b1=some r∧e=[(1,.int .i64 a_1),(2,.slice p8 a_2.length k8),(3,.pointer (some ⟨bb1,0,none⟩)),(8,.slice p17 r5.length k17),(9,.int .i64 r6),(10,.pointer (some ⟨bb2,0,none⟩)),(11,.slice p25 r8.length k25),(12,.slice p26 r10.length k26),(13,.int .i64 r11),(55,.bool b1)]∧SH w w' [Ch.own S10 (r10:List Int) [.slice p26 r10.length k26],Ch.own S8 (r8:List Int) [.slice p25 r8.length k25],Ch.box bb2 (qmJ r7 p18 p19 p20 p21 p22 p23 p24 k18 k19 k20 k21 k22 k23 k24) 55,Ch.own S7 (r7:qaQ) (qmJ r7 p18 p19 p20 p21 p22 p23 p24 k18 k19 k20 k21 k22 k23 k24),Ch.own S4 (r5:List Int) [.slice p17 r5.length k17],Ch.box bb1 (qmJ a_0 p1 p2 p3 p4 p5 p6 p7 k1 k2 k3 k4 k5 k6 k7) 38]) ?_ ?_
 ·refine X0 3 rfl (zcB h hF (qaF (h.own 0 rfl) (h.own 4 rfl)) rfl fun r28 w28 h hF=>zp2 rfl (qk (t:=51) hF rfl ?_ ?_))<;>intro hF
  ·refine X0 5 rfl ?_
   replace h:=h.pick [0,1,2,3,4,7] rfl
   obtain rfl:=qb hF
   exact rG ⟨_,hK3,rfl,h⟩ rfl
  refine X0 8 rfl ?_
  replace h:=h.pick [0,1,2,3,4,7] rfl
  obtain rfl:=qb hF
  exact rG ⟨_,hK3,rfl,h⟩ rfl
 rintro e3 w29 ⟨b1,hF,rfl,h⟩
 subst hKF3
 refine qh rfl hF ?_ ?_<;>intro hF
 ·exact X0 4 rfl (rb h hF rfl)
 refine zKSS (rA [] [2,5] h rfl fun w11 h=>M2 3 [0,1] 0 1 (h.pick [2,5] rfl) rfl (Ao 2 7 rfl (zcO h hF (qjq (h.old ha1)) rfl fun r12 w12 S13 cs5 h hF=>?_)))
 obtain ⟨p27,k27,p28,k28,p29,k29,p30,k30,p31,k31,p32,k32,p33,k33,rfl,-,-,-,-,-,-,-⟩:=qcr (h.own 0 rfl)
 refine Ag (h.pick [3,6] rfl) (Ao 3 15 rfl (zcB h hF (qr7 (h.own 4 rfl) (h.own 0 rfl)) rfl fun r13 w13 h hF=>G0 31 [4] (h.pick [3,6] rfl) rfl (Ad (qh rfl hF ?_ ?_))))<;>intro hF
 ·exact X0 4 rfl (rb h hF rfl)
 refine X0 6 rfl (zcL h hF (qaH ⟨_,_,rfl,(h.oldS s8)⟩) rfl fun r14 w14 S14 p34 k34 h hF=>zcB h hF (qaF (h.own 3 rfl) (h.own 0 rfl)) rfl fun r15 w15 h hF=>X0 2 rfl (qh rfl hF ?_ ?_))<;>intro hF
 ·exact X0 4 rfl (rb h hF rfl)
 refine X1 9 4 h rfl ?_
 replace h:=h.pick [5,0,1,2,3,4,6,7] rfl
 obtain ⟨S15,S16,S17,h⟩:=qtQ h
 replace h:=h.pick [2,0,1,3,4,5,6,7,8,9] rfl
 obtain ⟨S18,S19,S20,h⟩:=qr6 h
 replace h:=h.pick [2,0,1,3,4,5,6,7,8,9,10,11] rfl
 obtain ⟨S21,h⟩:=qq5 h
 replace h:=h.pick [2,0,1,3,4,5,6,7,8,9,10,11] rfl
 obtain ⟨S22,S23,S24,h⟩:=qsb h
 replace h:=h.pick [5,6,4,0,1,2,3,9,10,12,13] rfl
 obtain ⟨o1,hr18,hF⟩:=qc hF
 obtain ⟨r16,x1,x2,x3,x4,x5,x6,x7⟩:=o1
 refine qb7 r16 (cB 22 rfl) (qpB h hr18) rfl rfl rfl rfl ?_
 rintro w16 ⟨S25,S26,S27,S28,S29,S30,S31,h⟩
 replace h:SH _ _ [Ch.own S31 (x7:List qe) [.slice p24 r7.Ba.length k24],Ch.own S30 (x6:List Int) [.slice p23 r7.Bi.length k23],Ch.own S29 (x5:List qD) [.slice p22 r7.Af.Ac.length k22],Ch.own S28 (x4:List qL) [.slice p21 r7.Af.Ab.Aj.length k21],Ch.own S27 (x3:List ByteArray) [.slice p20 r7.Af.Ab.Ak.length k20],Ch.own S26 (x2:List qi) [.slice p19 r7.Af.Ab.Aa.length k19],Ch.own S25 (x1:List qw) [.slice p18 r7.Af.Av.Ar.length k18],Ch.own S10 (r10:List Int) [.slice p26 r10.length k26],Ch.own S8 (r8:List Int) [.slice p25 r8.length k25],Ch.own S4 (r5:List Int) [.slice p17 r5.length k17],Ch.box bb1 (qmJ a_0 p1 p2 p3 p4 p5 p6 p7 k1 k2 k3 k4 k5 k6 k7) 38]:=h
 refine X0 6 rfl ?_
 replace h:=h.pick [8,7,9,10] rfl
 obtain ⟨o2,hr19,hF⟩:=qc hF
 obtain ⟨r17,x8⟩:=o2
 refine qb7 r17 (cB 23 rfl) (qaC h hr19) rfl rfl rfl rfl ?_
 rintro w17 ⟨S32,h⟩
 replace h:SH _ _ [Ch.own S32 (x8:List Int) [.slice p25 r8.length k25],Ch.own S10 (r10:List Int) [.slice p26 r10.length k26],Ch.own S4 (r5:List Int) [.slice p17 r5.length k17],Ch.box bb1 (qmJ a_0 p1 p2 p3 p4 p5 p6 p7 k1 k2 k3 k4 k5 k6 k7) 38]:=h
 refine X0 4 rfl ?_
 obtain ⟨KF2,hKF2,o5,hF,hK2⟩:=bindE hF
 refine qba (fun e w'=>∃ (b2:Bool),KF2 b2=some r∧e=[(1,.int .i64 a_1),(2,.slice p8 a_2.length k8),(3,.pointer (some ⟨bb1,0,none⟩)),(8,.slice p17 r5.length k17),(9,.int .i64 r6),(12,.slice p26 r10.length k26),(84,.bool b2)]∧SH w w' [Ch.own S10 (r10:List Int) [.slice p26 r10.length k26],Ch.own S4 (r5:List Int) [.slice p17 r5.length k17],Ch.box bb1 (qmJ a_0 p1 p2 p3 p4 p5 p6 p7 k1 k2 k3 k4 k5 k6 k7) 38]) ?_ ?_
 ·refine X0 4 rfl (qk (t:=74) hF rfl ?_ ?_)<;>intro hF
  ·refine X0 11 rfl ?_
   replace h:=h.pick [1,2,3] rfl
   obtain rfl:=qb hF
   exact rG ⟨_,hK2,rfl,h⟩ rfl
  refine X0 5 rfl (zcB h hF (qaF (h.own 1 rfl) (h.own 2 rfl)) rfl fun r27 w26 h hF=>X0 4 rfl (qk (t:=80) hF rfl ?_ ?_))<;>intro hF
  ·refine X0 5 rfl ?_
   replace h:=h.pick [1,2,3] rfl
   obtain rfl:=qb hF
   exact rG ⟨_,hK2,rfl,h⟩ rfl
  refine X0 8 rfl ?_
  replace h:=h.pick [1,2,3] rfl
  obtain rfl:=qb hF
  exact rG ⟨_,hK2,rfl,h⟩ rfl
 rintro e2 w27 ⟨b2,hF,rfl,h⟩
 subst hKF2
 refine qh rfl hF ?_ ?_<;>intro hF
 ·exact X0 4 rfl (rb h hF rfl)
 refine X0 9 rfl ?_
 obtain ⟨o3,hr20,hF⟩:=qc hF
 obtain ⟨r18,x9⟩:=o3
 refine qb7 r18 (cB 23 rfl) (qaC h hr20) rfl rfl rfl rfl ?_
 rintro w18 ⟨S33,h⟩
 replace h:SH _ _ [Ch.own S33 (x9:List Int) [.slice p26 r10.length k26],Ch.own S4 (r5:List Int) [.slice p17 r5.length k17],Ch.box bb1 (qmJ a_0 p1 p2 p3 p4 p5 p6 p7 k1 k2 k3 k4 k5 k6 k7) 38]:=h
 refine X0 10 rfl (zcI h hF (qk9 (h.own 0 rfl)) rfl fun r19 w19 h hF=>X0 8 rfl (qh rfl hF ?_ ?_))<;>intro hF
 ·exact X0 4 rfl (rb h hF rfl)
 refine X0 8 rfl (qh rfl hF ?_ ?_)<;>intro hF
 ·exact X0 4 rfl (rb h hF rfl)
 refine X1 4 2 h rfl (zcO h hF (qjq (qw8 _ (h.oldS s1) (h.oldS s2) (h.oldS s3) (h.oldS s4) (h.oldS s5) (h.oldS s6) (h.oldS s7))) rfl fun r20 w20 S34 cs6 h hF=>?_)
 obtain ⟨p35,k35,p36,k36,p37,k37,p38,k38,p39,k39,p40,k40,p41,k41,rfl,-,-,-,-,-,-,-⟩:=qcr (h.own 0 rfl)
 refine zp2 rfl (zcL h hF (qaH ⟨_,_,rfl,(h.oldS s8)⟩) rfl fun r21 w21 S35 p42 k42 h hF=>?_)
 obtain ⟨r22,hr24,hF⟩:=qc hF
 obtain ⟨r23,r24⟩:=r22
 refine qa8 (r23,r24) h (cB 26 rfl) (qkH (h.own 1 rfl) (h.own 0 rfl) hr24) rfl rfl rfl rfl fun w22 S36 us5 hv7 hr25=>?_
 obtain ⟨S37,S38,p43,k43,us6,rfl,hv8,hr26⟩:=hv7.consL hr25
 obtain ⟨rfl,h⟩:=hv8.lastI hr26
 refine X0 8 rfl ?_
 obtain ⟨KF1,hKF1,o4,hF,hK1⟩:=bindE hF
 refine qba (fun e w'=>∃ (b3:Bool),KF1 b3=some r∧e=[(12,.slice p26 r10.length k26),(15,.int .i64 r18),(113,.bool b3)]∧SH w w' [Ch.own S33 (x9:List Int) [.slice p26 r10.length k26]]) ?_ ?_
 ·refine X0 3 rfl (zcB h hF (qaF (h.own 0 rfl) (h.own 4 rfl)) rfl fun r26 w24 h hF=>zp2 rfl (qk (t:=109) hF rfl ?_ ?_))<;>intro hF
  ·refine X0 5 rfl ?_
   replace h:=h.pick [3] rfl
   obtain rfl:=qb hF
   exact rG ⟨_,hK1,rfl,h⟩ rfl
  refine X0 8 rfl ?_
  replace h:=h.pick [3] rfl
  obtain rfl:=qb hF
  exact rG ⟨_,hK1,rfl,h⟩ rfl
 rintro e1 w25 ⟨b3,hF,rfl,h⟩
 subst hKF1
 refine qh rfl hF ?_ ?_<;>intro hF
 ·exact X0 4 rfl (rb h hF rfl)
 refine X0 9 rfl (zcI h hF (qk9 (h.own 0 rfl)) rfl fun r25 w23 h hF=>X0 8 rfl (qh rfl hF ?_ ?_))<;>intro hF
 ·exact X0 4 rfl (rb h hF rfl)
 refine X0 8 rfl (qh rfl hF ?_ ?_)<;>intro hF
 ·exact X0 4 rfl (rb h hF rfl)
 exact X0 5 rfl (rb h hF rfl)
end Go.Fw


namespace Go.Fw
open Go
end Go.Fw


namespace Go.Fw
open Go
set_option maxRecDepth 100000
theorem qm1 {j:qaQ} {start:Int} {path:(List Int)} (h0:qqJ j) (_h1:rngI start) (h2:(rngL rngI) path):Ev (fun n=>qf0 n j start path) true:=by
 unfold qf0
 refine Ev.bif (fun _=>.done) (fun hl=>?_)
 have hl2:path.length≤1048576:=by have:=of_decide_eq_false hl;omega
 obtain ⟨r1,e1,q1⟩:=qzr (a:=j) (left:=1048576) h0 (by omega) (by omega)
 refine Ev.bind e1 ?_
 rcases q1 with q1|⟨p1,q1⟩
 ·exact Ev.tt (by simpa using q1) .done
 refine Ev.ff (by simp;omega) ?_
 have w0:qkb j≤1048576:=by omega
 have k0:=qxS h0 w0
 have w2:qaL path≤1048576:=by unfold qaL;omega
 have k2:=qdv h2 w2
 obtain ⟨⟨R0,R1⟩,hs,hi,v0⟩:=qr3 (j:=j) (start:=start) (path:=path) k0 k2
 have v0:qaL R0≤1048576:=v0
 refine Ev.bind (qs7 w0) ?_
 refine Ev.bind (qdG w2) ?_
 refine Ev.bind hs ?_
 refine Ev.bind (qs7 w0) ?_
 refine Ev.bind (qdG w2) ?_
 refine Ev.bind hi ?_
 refine Ev.bind (b:=false) (Ev.bind (qdC v0) (Ev.ff rfl (Ev.now (by simp)))) (Ev.ff rfl ?_)
 refine Ev.bind (qs7 w0) ?_
 refine Ev.bind (qzJ w0) (Ev.ff rfl ?_)
 refine Ev.bind (qdG w2) ?_
 refine Ev.bind (qdC w2) (Ev.ff rfl ?_)
 obtain ⟨m1,⟨x1_0,x1_1,x1_2,x1_3,x1_4,x1_5,x1_6⟩,mk1,ml1,mu1⟩:=qvp (a:=j) (k:=1) (by omega) (by omega) w0
 refine Ev.bind mk1 ?_
 obtain ⟨m2,x2_0,mk2,ml2,mu2⟩:=qeC (a:=path) (k:=m1) (by omega) (by omega) w2
 refine Ev.bind mk2 ?_
 refine Ev.bind (b:=false) (Ev.ff (by simp;omega) (Ev.bind (qdC v0) (Ev.ff rfl (Ev.now (by simp))))) (Ev.ff rfl ?_)
 have hh1:=qyG (k:=1) (m:=R0.length) (by omega) (by omega) v0
 refine Ev.bind (qqV (by omega) (by omega) v0) ?_
 refine Ev.bind hh1 (Ev.ff (by simp;omega) (Ev.ff qaR ?_))
 refine Ev.bind (qs7 w0) ?_
 refine Ev.bind (qdG w2) ?_
 refine Ev.bind hi ?_
 refine Ev.bind (b:=false) (Ev.bind (qdC v0) (Ev.ff rfl (Ev.now (by simp)))) (Ev.ff rfl ?_)
 refine Ev.bind hh1 (Ev.ff (by simp;omega) (Ev.ff qaR ?_))
 exact .done
end Go.Fw
