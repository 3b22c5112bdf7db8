/- Plain laws: the delay and the slew of a link. -/
import Derived.Test.YteofoidaapgdkaaGreatDoorW8
import Derived.Test.YteofoidaapgdkaaGreatDoorB9
import Derived.Test.YteofoidaapgdkaaGreatDoorW3
import Derived.Test.YteofoidaapgdkaaGreatDoorFw30
import Derived.Test.YteofoidaapgdkaaGreatDoorA2
open Option renaming bind_some → jd
open Nat renaming le_refl → je, mul_le_mul_right → jq, le_of_ble_eq_true → jt, lt_of_lt_of_le → jw, succ_mul → jI, zero_add → jZ, le_trans → Jc
open Bool renaming and_eq_true → jf, eq_iff_iff → jj, true_and → jx, not_eq_true' → jC, not_true → Ja
open Go.Result renaming andThen_ok → jg
open List renaming length_append → jh, getElem?_eq_getElem → ji, mem_cons_of_mem → jo, getElem_mem → jp, length_singleton → jr, append_assoc → js, getElem?_append_left → ju, length_map → jv, mem_cons_self → jy, getElem?_take → jz, getElem?_append_right → jA, getD_eq_getElem?_getD → jB, take_succ_eq_append_getElem → jD, getElem?_toArray → jE, eq_nil_of_length_eq_zero → jG, take_length → jH, length_replicate → jJ, all_eq_true → jK, drop_eq_getElem_cons → jM, not_mem_nil → jN, size_toArray → jO, mem_append_left → jP, getElem_of_mem → jR, map_append → jS, mem_of_getElem? → jT, mem_cons → jV, length_take → jX, ext_getElem → jY
open Go.Sem renaming run_bind → jk, run_pure → jm
open Int renaming toNat_natCast → jn, tdiv_eq_ediv_of_nonneg → jF, mul_nonneg → jQ, mul_assoc → jU, mul_le_mul → jW, le_refl → Jb, add_zero → Jd
open Array renaming getElem?_append_left → jL

namespace Go.Fw
open Go
set_option maxRecDepth 100000
theorem qsR {α:Type} {f:Nat→List α} {n:Nat} {x:α} (h:x ∈ fm f n):∃ j,j<n∧x ∈ f j:=by
 unfold fm at h
 obtain ⟨j,h1,h2⟩:=List.mem_flatMap.1 h
 exact ⟨j,List.mem_range.1 h1,h2⟩
theorem qu8 {x:Int} {j:Nat} {t:Int} (ht:b01 t) (hj:j≤100000) (e:x=2*(j:Int)+t):W64 (x.tdiv 2)=(j:Int)∧x.tmod 2=t:=by
 have ht':0≤t∧t≤1:=by rcases ht with e|e<;>omega
 have hx:0≤x:=by omega
 rw [jF hx,Int.tmod_eq_emod_of_nonneg hx,qau (by omega) (by omega)]
 omega
structure CLk (b:qe) (x:qq) (i j m net a:Nat):Prop where
 kind:x.As=1
 il:i<b.Aa.Ab.length
 jl:j<(places b.Aa).length
 inst:(gt (places b.Aa) j).instance_=(i:Int)
 net_:(gt (places b.Aa) j).net=(net:Int)
 nl:net<b.Ac.length
 half:W64 (x.To.tdiv 2)=(j:Int)
 mod:x.To.tmod 2=(m:Int)
 ml:m<2
 ix:x.Bw=(a:Int)
 al:a<(cellAt b (i:Int)).Am.length
 d2:(gt (cellAt b (i:Int)).Am a).Bl.length=2
 s2:(gt (cellAt b (i:Int)).Am a).Av.length=2
 dt:∀ t,t ∈ (gt (cellAt b (i:Int)).Am a).Bl→TbOk t∧∀ k,0≤at0 t.Ba k
 st:∀ t,t ∈ (gt (cellAt b (i:Int)).Am a).Av→TbOk t∧∀ k,0≤at0 t.Ba k
structure WLk (b:qe) (x:qq) (j net k:Nat):Prop where
 kind:x.As=2
 jl:j<(places b.Aa).length
 net_:(gt (places b.Aa) j).net=(net:Int)
 nl:net<b.Ac.length
 half:W64 (x.To.tdiv 2)=(j:Int)
 ix:x.Bw=(k:Int)
 kl:k<(gt b.Ac net).Bh.length
theorem qyw {xs:List Int} (h:0≤mnL xs) (k:Nat):0≤at0 xs k:=by
 have fold:∀ (ys:List Int) (a:Int),(ys.foldl (fun (m y:Int)=>if y<m then y else m) a≤a)∧∀ y,y ∈ ys→ys.foldl (fun (m y:Int)=>if y<m then y else m) a≤y:=by
  intro ys
  induction ys with
  | nil=>intro a;exact ⟨Jb _,fun y hy=>by cases hy⟩
  | cons z ys ih =>
   intro a
   rw [List.foldl_cons]
   obtain ⟨h1,h2⟩:=ih (if z<a then z else a)
   refine ⟨?_,fun y hy=>?_⟩
   ·split at h1<;>split<;>omega
   ·rcases List.mem_cons.1 hy with e|e
    ·subst e;split at h1<;>split<;>omega
    ·exact h2 y e
 by_cases hk:k<xs.length
 ·have hm:xs[k] ∈ xs.drop 1∨k=0:=by
   by_cases h0:k=0
   ·exact .inr h0
   ·refine .inl ?_
    have:xs[k]=(xs.drop 1)[k-1]'(by rw [List.length_drop];omega):=by
     rw [List.getElem_drop]
     congr 1;omega
    rw [this]
    exact jp _
  rw [qjQ hk]
  unfold mnL at h
  rcases hm with hm|h0
  ·exact Int.le_trans h ((fold _ _).2 _ hm)
  ·subst h0
   have:=(fold (xs.drop 1) (at0 xs 0)).1
   rw [←qjQ hk]
   exact Int.le_trans h this
 ·rw [qu5 hk];exact Jb _
theorem qq7 {ts:List qw} (h:tablesB ts true=true):ts.length=2∧∀ t,t ∈ ts→TbOk t∧∀ k,0≤at0 t.Ba k:=by
 unfold tablesB at h
 rw [jf,decide_eq_true_eq,jK] at h
 refine ⟨h.1,fun t ht=>?_⟩
 have:=h.2 t ht
 unfold tabB at this
 simp only [Ja,Bool.false_or,jf,decide_eq_true_eq] at this
 exact ⟨qvm this.1,qyw this.2⟩
theorem quC {ps:List qax} {a:qS} (h:arcS ps a=true) (h3:a.As≤3) (h1:1≤a.As):a.To=(ps.length:Int)-1∧tablesB a.Bl true=true∧tablesB a.Av true=true:=by
 unfold arcS at h
 rcases (by omega:a.As=1∨a.As=2∨a.As=3) with e|e|e
 ·rw [e] at h
  simp only [beq_self_eq_true,cond_true,jf,beq_iff_eq] at h
  exact ⟨h.2.2.1,h.2.2.2.2⟩
 ·rw [e] at h
  simp only [show ((2:Int)==1)=false from rfl,cond_false,beq_self_eq_true,Bool.true_or,cond_true,jf,beq_iff_eq] at h
  exact ⟨h.2.2.1,h.2.2.2.2⟩
 ·rw [e] at h
  simp only [show ((3:Int)==1)=false from rfl,cond_false,beq_self_eq_true,Bool.or_true,cond_true,jf,beq_iff_eq] at h
  exact ⟨h.2.2.1,h.2.2.2.2⟩
theorem qtG {a:qS} {t:qN} (h:t ∈ transL a):1≤a.As∧a.As≤3:=by
 refine ⟨?_,?_⟩<;>refine Int.le_of_not_gt fun hg=>?_
 ·have:arcLs 0 0 a=[]:=by
   unfold arcLs transL
   rw [show (a.As==2)=false from beq_eq_false_iff_ne.2 (by omega),show (a.As==3)=false from beq_eq_false_iff_ne.2 (by omega),show (a.As != 1)=true from bne_iff_ne.2 (by omega)]
   rfl
  unfold arcLs at this
  rw [List.map_eq_nil_iff] at this
  rw [this] at h;cases h
 ·have:arcLs 0 0 a=[]:=qpO hg
  unfold arcLs at this
  rw [List.map_eq_nil_iff] at this
  rw [this] at h;cases h
theorem qgI {b:qe} (h:blockB b=true) {x:qq} (hx:x ∈ linksL b):((∃ i j m net a,CLk b x i j m net a)∨∃ j net k,WLk b x j net k)∧(0≤x.Be∧x.Be<2*((places b.Aa).length:Int))∧(0≤x.To∧x.To<2*((places b.Aa).length:Int)):=by
 have hd:=qat h
 have hs:=qab hd
 have hl:=qbi hs
 have hwl:=qiW h
 unfold linksL at hx
 rcases List.mem_append.1 hx with hx|hx
 ·obtain ⟨i,hi,hx⟩:=qsR hx
  obtain ⟨a,ha,hx⟩:=qsR hx
  unfold arcLs at hx
  obtain ⟨t,ht,rfl⟩:=List.mem_map.1 hx
  obtain ⟨⟨c0,c1⟩,hnl,hcb⟩:=qhg hd hi
  have hcA:cellAt b (i:Int)=gt b.Aq.Ap (gt b.Aa.Ab i).Bp.toNat:=rfl
  rw [←hcA] at hnl hcb
  obtain ⟨⟨k1,k5⟩,hf,hto,hA⟩:=qnm hcb ha
  obtain ⟨g1,g3⟩:=qtG ht
  obtain ⟨t0,t1⟩:=qsf ht
  obtain ⟨eT,tD,tS⟩:=quC hA g3 g1
  obtain ⟨d2,dt⟩:=qq7 tD
  obtain ⟨s2,st⟩:=qq7 tS
  have hpb:=(qgV (qi9 hcb)).1
  have hk:(cellAt b (i:Int)).Ay.length-1<(gt b.Aa.Ab i).Ai.length:=by omega
  obtain ⟨hj,ej⟩:=qkp hi hk
  obtain ⟨n0,n1⟩:=qmj hd hj
  have e1:(al1 (off b.Aa i:Int) a (gt (cellAt b (i:Int)).Am a) t).To=2*((off b.Aa i+((cellAt b (i:Int)).Ay.length-1):Nat):Int)+t.e1:=by
   show 2*((off b.Aa i:Int)+(gt (cellAt b (i:Int)).Am a).To)+t.e1=_
   rw [eT];omega
  obtain ⟨hh,hm⟩:=qu8 t1 (by omega) e1
  obtain ⟨m,em⟩:∃ m:Nat,t.e1=(m:Int):=⟨t.e1.toNat,by rcases t1 with e|e<;>omega⟩
  have hfr:off b.Aa i+(gt (cellAt b (i:Int)).Am a).Be.toNat<(places b.Aa).length:=(qkp hi (k:=(gt (cellAt b (i:Int)).Am a).Be.toNat) (by omega)).1
  have e2:(al1 (off b.Aa i:Int) a (gt (cellAt b (i:Int)).Am a) t).Be=2*((off b.Aa i:Int)+(gt (cellAt b (i:Int)).Am a).Be)+t.e0:=rfl
  refine ⟨.inl ⟨i,_,m,(gt (places b.Aa) (off b.Aa i+((cellAt b (i:Int)).Ay.length-1))).net.toNat,a,⟨rfl,hi,hj,by rw [ej];rfl,qew n0,by omega,hh,by rw [hm,em],by rcases t1 with e|e<;>omega,rfl,ha,d2,s2,dt,st⟩⟩,?_,?_⟩
  ·rw [e2]
   rcases t0 with e|e<;>rw [e]<;>omega
  ·rw [e1]
   rcases t1 with e|e<;>rw [e]<;>omega
 ·obtain ⟨i,hi,hx⟩:=qsR hx
  obtain ⟨k,hk,hx⟩:=qsR hx
  obtain ⟨y,hy,ey,hq⟩:=qpa hk
  have hdv:=(qie hd (k:=i) (by omega)).1
  have hw:=qbw h hi
  have hq':(gt (places b.Aa) y).net=(i:Int):=by
   unfold snkQ at hq
   simp only [jf,beq_iff_eq] at hq
   exact hq.1
  have main:∀ t:Int,b01 t→x=⟨2*(dvN b.Aa i:Int)+t,2*at0 (skL b i) k+t,2,(k:Int)⟩→((∃ i j m net a,CLk b x i j m net a)∨∃ j net k,WLk b x j net k)∧(0≤x.Be∧x.Be<2*((places b.Aa).length:Int))∧(0≤x.To∧x.To<2*((places b.Aa).length:Int)):=by
   intro t ht e
   have e1:x.To=2*(y:Int)+t:=by rw [e,ey]
   have e2:x.Be=2*(dvN b.Aa i:Int)+t:=by rw [e]
   obtain ⟨hh,hm⟩:=qu8 ht (by omega) e1
   refine ⟨.inr ⟨y,i,k,⟨by rw [e],hy,hq',hi,hh,by rw [e],by rw [hw.snk];exact hk⟩⟩,?_,?_⟩
   ·rw [e2]
    rcases ht with e|e<;>rw [e]<;>omega
   ·rw [e1]
    rcases ht with e|e<;>rw [e]<;>omega
  unfold wl1 at hx
  simp only [jV,jN,or_false] at hx
  rcases hx with hx|hx
  ·exact main 0 (.inl rfl) (by rw [hx,Jd,Jd])
  ·exact main 1 (.inr rfl) hx
theorem qlJ {α:Type} [Inhabited α] {xs:List α} {k:Nat} (h:k<xs.length):gt xs k ∈ xs:=by rw [qfH h];exact jp h
theorem qnG {b:qe} (h:blockB b=true):LkOk (linksL b) (2*(places b.Aa).length) where
 len:=qmc h
 nodes:=by have:=qbi (qab (qat h));omega
 fr0:=fun x hx=>(qgI h (qlJ hx)).2.1.1
 fr1:=fun x hx=>by have:=(qgI h (qlJ hx)).2.1.2;omega
 to0:=fun x hx=>(qgI h (qlJ hx)).2.2.1
 to1:=fun x hx=>by have:=(qgI h (qlJ hx)).2.2.2;omega
theorem qrU {c:qy} (h:cornerB c=true) {kind mode:Int}:∃ f:Int,100≤f∧f≤5000∧(∀ n,qgU n c kind mode=some f)∧∀ n,qep n c kind mode=some f:=by
 unfold cornerB at h
 simp only [jf,qaX,decide_eq_true_eq] at h
 obtain ⟨⟨h1,h2,h3,h4⟩,_⟩:=h
 unfold qgU qep
 cases kind==1
 ·cases mode==0
  ·exact ⟨_,h4.1,h4.2,fun _=>rfl,fun _=>rfl⟩
  ·exact ⟨_,h3.1,h3.2,fun _=>rfl,fun _=>rfl⟩
 ·cases mode==0
  ·exact ⟨_,h2.1,h2.2,fun _=>rfl,fun _=>rfl⟩
  ·exact ⟨_,h1.1,h1.2,fun _=>rfl,fun _=>rfl⟩
theorem qtg {p f mode:Int} (p0:0≤p) (p1:p≤400000000000) (f0:0≤f) (f1:f≤5000):(∀ n,qcx n (W64 (p*f)) 1000 mode=some (divI (p*f) 1000 mode))∧∀ n,qkO n p f mode=some (divI (p*f) 1000 mode):=by
 have h0:=jQ p0 f0
 have h1:p*f≤400000000000*5000:=jW p1 f1 f0 (by omega)
 have e:W64 (p*f)=p*f:=qau (by omega) (by omega)
 have hd:=fun n=>qkW (n:=n) (a:=p*f) (b:=1000) (mode:=mode) (by omega) (by omega) (by omega)
 refine ⟨fun n=>by rw [e];exact hd n,fun n=>?_⟩
 unfold qkO
 rw [e,qsW (m:=0),hd 0]
 rfl
theorem qwi {l h H:Int} (h0:0≤l) (h1:l<h) (h2:h≤H) (hH:H≤3000000000):W64 (W64 (W64 (l+h)+1) |>.tdiv 2)=(l+h+1) / 2∧W64 ((l+h+1) / 2*((l+h+1) / 2))=(l+h+1) / 2*((l+h+1) / 2)∧W64 ((l+h+1) / 2-1)=(l+h+1) / 2-1:=by
 have hm:0≤(l+h+1) / 2∧(l+h+1) / 2≤3000000000:=by omega
 have hq:(l+h+1) / 2*((l+h+1) / 2)≤3000000000*3000000000:=jW hm.2 hm.2 hm.1 (by omega)
 have hq0:=jQ hm.1 hm.1
 rw [wO (l+h),wO (l+h+1),jF (by omega),wO ((l+h+1) / 2),wO ((l+h+1) / 2-1)]
 exact ⟨rfl,qau (by omega) (by omega),rfl⟩
theorem qxb {y mode:Int} (h0:0≤y) (h1:y≤4000000000000000000):∃ v,IsRoot y v∧v≤2000000000∧Ev (fun n=>qis n y mode) (if mode=1∧v*v<y then v+1 else v):=by
 obtain ⟨v,r1,r2,r3⟩:=qrJ (Lf:=fun n l h=>qdO y n l h) (fin:=fun l=>(l,l)) (x:=y) (H:=2000000000) h0 (by omega) (by omega)
  (fun n l _ _=>by simp only [qdO,show decide (l<l)=false from decide_eq_false (Int.lt_irrefl l),cond_false])
  (fun n l h hl hlt hh=>by
   obtain ⟨e1,e2,e3⟩:=qwi hl hlt hh (by omega)
   simp only [qdO,decide_eq_true hlt,cond_true,e1,e2,e3])
 refine ⟨v,r1,r2,?_⟩
 unfold qis
 refine Ev.bind r3 ?_
 have hv:=r1.pos
 have hq:v*v≤2000000000*2000000000:=jW r2 r2 hv (by omega)
 have hq0:=jQ hv hv
 simp only [wO (v*v),wO (v+1)]
 by_cases hm:mode=1
 ·refine Ev.tt (by simpa using hm) ?_
  by_cases hl:v*v<y
  ·rw [if_pos ⟨hm,hl⟩];exact Ev.tt (decide_eq_true hl) .done
  ·rw [if_neg fun h=>hl h.2];exact Ev.ff (decide_eq_false hl) .done
 ·rw [if_neg fun h=>hm h.1]
  exact Ev.ff (by simpa using hm) .done
theorem qv9 {y:Int} (h0:0≤y) (h1:y≤4000000000000000000):∃ v,IsRoot y v∧v≤3000000000∧Ev (fun n=>qnB n y) v:=by
 obtain ⟨v,r1,r2,r3⟩:=qrJ (Lf:=fun n l h=>qfY y n l h) (fin:=fun l=>(l,l)) (x:=y) (H:=3000000000) h0 (by omega) (by omega)
  (fun n l _ _=>by simp only [qfY,show decide (l<l)=false from decide_eq_false (Int.lt_irrefl l),cond_false])
  (fun n l h hl hlt hh=>by
   obtain ⟨e1,e2,e3⟩:=qwi hl hlt hh (by omega)
   simp only [qfY,decide_eq_true hlt,cond_true,e1,e2,e3])
 refine ⟨v,r1,r2,?_⟩
 unfold qnB
 exact Ev.bind r3 .done
theorem qvA {sl d mode:Int} (s0:0≤sl) (s1:sl≤1000000) (d0:0≤d) (d1:d≤344000000) (hm:mode=0∨mode=1):∃ r:Int,0≤r ∧
  Ev (fun n=>(qis n (W64 (W64 (W64 (1000000*sl)*sl)+W64 (W64 (4*d)*d))) mode).bind fun r2=>(qcx n r2 1000 mode).bind fun r3=>some r3) r∧Ev (fun n=>qjc n sl d mode) r:=by
 have q1:=jQ s0 s0
 have q2:sl*sl≤1000000*1000000:=jW s1 s1 s0 (by omega)
 have q3:=jQ d0 d0
 have q4:d*d≤344000000*344000000:=jW d1 d1 d0 (by omega)
 have e1:W64 (W64 (W64 (1000000*sl)*sl)+W64 (W64 (4*d)*d))=4*(250000*(sl*sl)+d*d):=by
  rw [wO (1000000*sl),wO (4*d),jU 1000000,jU 4,wO (1000000*(sl*sl)),wO (4*(d*d)),qau (by omega) (by omega)]
  omega
 have e2:W64 (W64 (W64 (W64 (500*sl)*500)*sl)+W64 (d*d))=250000*(sl*sl)+d*d:=by
  rw [wO (500*sl),wO (500*sl*500),show 500*sl*500*sl=250000*(sl*sl) by rw [←jU];congr 1;omega,wO (250000*(sl*sl)),wO (d*d),qau (by omega) (by omega)]
 obtain ⟨v,v1,v2,v3⟩:=qxb (mode:=mode) (y:=4*(250000*(sl*sl)+d*d)) (by omega) (by omega)
 obtain ⟨w,w1,w2,w3⟩:=qv9 (y:=250000*(sl*sl)+d*d) (by omega) (by omega)
 have hr:=quc w1 v1 hm
 have hv:=v1.pos
 have hw:=w1.pos
 have hv1:0≤(if mode=1∧v*v<4*(250000*(sl*sl)+d*d) then v+1 else v)∧(if mode=1∧v*v<4*(250000*(sl*sl)+d*d) then v+1 else v)≤1000*3000000:=by split<;>omega
 refine ⟨_,(qsp (b:=1000) (mode:=mode) (M:=3000000) (by omega) hv1.1 hv1.2).1,?_,?_⟩
 ·rw [e1]
  exact Ev.bind v3 (Ev.bind ⟨0,fun n _=>qkW (by omega) (by omega) (by omega)⟩ .done)
 ·rw [hr]
  unfold qjc
  rw [e2]
  refine Ev.bind w3 ?_
  have hq:w*w≤3000000000*3000000000:=jW w2 w2 hw (by omega)
  have hq0:=jQ hw hw
  have ed:(fun n=>qeQ n w 500 mode)=fun _=>some (divI w 500 mode):=by
   funext n
   rw [qsW (m:=0),qkW (by omega) (by omega) (by omega)]
  have hdv:=congrFun ed
  simp only [wO (w*w),jF hw,wO (w / 500),wO (w / 500+1),hdv,jd]
  rcases hm with rfl|rfl
  ·rw [if_neg (by omega)]
   exact .done
  ·by_cases hl:w*w<250000*(sl*sl)+d*d
   ·rw [if_pos ⟨rfl,hl⟩,decide_eq_true hl];exact .done
   ·rw [if_neg fun h=>hl h.2,decide_eq_false hl];exact .done
theorem qto {t:qw} (h:TbOk t∧∀ k,0≤at0 t.Ba k) (sl ld mode:Int):∃ r:Int,0≤r∧r≤1000000∧Ev (fun n=>qg9 n t sl ld mode) r∧Ev (fun n=>qdv n t sl ld mode) r:=by
 obtain ⟨S,D,D0,S1,_,_,_,S0,hev⟩:=qxB h.1 sl ld
 obtain ⟨r0,r1⟩:=qsp (mode:=mode) D0 (S0 h.2) S1
 exact ⟨_,r0,r1,hev mode⟩
theorem quN {b:qe} {ex:List Int} {x:qq} {j net:Nat} (jl:j<(places b.Aa).length) (hn:(gt (places b.Aa) j).net=(net:Int)) (hh:W64 (x.To.tdiv 2)=(j:Int)) (n:Nat):qeF n (some (viewE b ex)) x=some (net:Int):=by
 unfold qeF
 show (idx (places b.Aa) (W64 (x.To.tdiv 2))).bind _=_
 rw [hh,qA jl]
 exact congrArg some hn
theorem qxh {b:qe} {ex:List Int} (h:blockB b=true) {x:qq} {i j m net a:Nat} (hx:CLk b x i j m net a) (n:Nat):qf6 n (some (viewE b ex)) x=some (gt (cellAt b (i:Int)).Am a):=by
 obtain ⟨⟨c0,c1⟩,_,_⟩:=qhg (qat h) hx.il
 unfold qf6
 show (idx (places b.Aa) (W64 (x.To.tdiv 2))).bind (fun y2=>(idx b.Aa.Ab y2.instance_).bind fun y3=>(idx b.Aq.Ap y3.Bp).bind fun y4=>(idx y4.Am x.Bw).bind fun y5=>some y5)=_
 rw [hx.half,qA hx.jl,jd,hx.inst,qA hx.il,jd,qfd c0 c1,jd,hx.ix]
 show (idx (cellAt b (i:Int)).Am (a:Int)).bind _=_
 rw [qA hx.al];rfl
theorem qrI {b:qe} (h:blockB b=true) {x:qq} {i j m net a:Nat} (hx:CLk b x i j m net a):Ev (fun n=>qjs n b x) (gt (cellAt b (i:Int)).Am a,load0 b net):=by
 have hd:=qat h
 have hs:=qab hd
 obtain ⟨⟨c0,c1⟩,_,_⟩:=qhg hd hx.il
 have hp:idx ((places b.Aa).map toSp) (j:Int)=some (toSp (gt (places b.Aa) j)):=by
  refine qaq ?_
  rw [List.getElem?_map,ji hx.jl,qfH hx.jl];rfl
 have hll:=qmD h hx.nl
 have hlo:=(qbw h hx.nl).lo
 have h1:(toSp (gt (places b.Aa) j)).instance_=(i:Int):=hx.inst
 have h2:(toSp (gt (places b.Aa) j)).net=(net:Int):=hx.net_
 have h3:idx (gt b.Aq.Ap (gt b.Aa.Ab i).Bp.toNat).Am (a:Int)=some (gt (cellAt b (i:Int)).Am a):=qA hx.al
 unfold qjs
 refine Ev.bind (qh1 hs) ?_
 simp only [hx.half,hp,jd,h1,h2,qA hx.il,qfd c0 c1,hx.ix,h3]
 refine Ev.bind (qpP h hx.nl) ?_
 rw [show idx (loadsL b net) (0:Int)=some (load0 b net) from qA (j:=0) (by omega)]
 exact .done
theorem qpj {b:qe} (h:blockB b=true) {x:qq} {j net k:Nat} (hx:WLk b x j net k):Ev (fun n=>qgP n b x) (net:Int):=by
 have hs:=qab (qat h)
 have hp:idx ((places b.Aa).map toSp) (j:Int)=some (toSp (gt (places b.Aa) j)):=by
  refine qaq ?_
  rw [List.getElem?_map,ji hx.jl,qfH hx.jl];rfl
 have h2:(toSp (gt (places b.Aa) j)).net=(net:Int):=hx.net_
 unfold qgP
 refine Ev.bind (qh1 hs) ?_
 simp only [hx.half,hp,jd,h2]
 exact .done
theorem qsj {b:qe} {c:qy} (ex:List Int) (h:blockB b=true) (hc:cornerB c=true) {k:Nat} (hk:k<(linksL b).length) {sl mode:Int} (s0:0≤sl) (s1:sl≤1000000) (hm:mode=0∨mode=1) :
  (∃ D:Int,Ev (fun n=>qdh n b c (gt (linksL b) k) sl mode) D∧Ev (fun n=>qch n (some (viewE b ex)) c (k:Int) sl mode) D) ∧
  ∃ S:Int,0≤S∧S≤1000000∧Ev (fun n=>qdY n b (gt (linksL b) k) sl mode) S∧Ev (fun n=>qbn n (some (viewE b ex)) (k:Int) sl mode) S:=by
 have hv:idx (viewE b ex).links (k:Int)=some (gt (linksL b) k):=qA hk
 obtain ⟨hx,_⟩:=qgI h (qlJ hk)
 generalize gt (linksL b) k=x at hx hv
 rcases hx with ⟨i,j,m,net,a,hx⟩|⟨j,net,q,hx⟩
 ·have hnet:=quN (ex:=ex) hx.jl hx.net_ hx.half
  have harc:=qxh (ex:=ex) h hx
  have hld:idx (viewE b ex).loads (net:Int)=some (load0 b net):=qix (f:=load0 b) hx.nl
  obtain ⟨f,f0,f1,sF,iF⟩:=qrU hc (kind:=x.As) (mode:=mode)
  have dl:m<(gt (cellAt b (i:Int)).Am a).Bl.length:=by rw [hx.d2];exact hx.ml
  have sL:m<(gt (cellAt b (i:Int)).Am a).Av.length:=by rw [hx.s2];exact hx.ml
  obtain ⟨r,r0,r1,rs,ri⟩:=qto (hx.dt _ (qlJ dl)) sl (load0 b net) mode
  obtain ⟨u,u0,u1,us,ui⟩:=qto (hx.st _ (qlJ sL)) sl (load0 b net) mode
  obtain ⟨c1,c2⟩:=qtg (mode:=mode) r0 (by omega) (show 0≤f by omega) f1
  have hk1:(x.As==1)=true:=by rw [hx.kind];rfl
  refine ⟨⟨divI (r*f) 1000 mode,?_,?_⟩,⟨u,u0,u1,?_,?_⟩⟩
  ·unfold qdh
   refine Ev.tt hk1 (Ev.bind (qrI h hx) ?_)
   simp only [hx.mod,qA dl,jd,sF]
   exact Ev.bind rs (Ev.bind ⟨0,fun n _=>c1 n⟩ .done)
  ·unfold qch
   simp only [jd,hv,hnet,hld,harc,hx.mod,qA dl,iF]
   exact Ev.tt hk1 (Ev.bind ri (Ev.bind ⟨0,fun n _=>c2 n⟩ .done))
  ·unfold qdY
   refine Ev.tt hk1 (Ev.bind (qrI h hx) ?_)
   simp only [hx.mod,qA sL,jd]
   exact Ev.bind us .done
  ·unfold qbn
   simp only [jd,hv,hnet,hld,harc,hx.mod,qA sL]
   refine Ev.tt hk1 (Ev.bind ui (Ev.now ?_))
   rw [if_neg (by omega)]
 ·have hnet:=quN (ex:=ex) hx.jl hx.net_ hx.half
  have hde:idx (viewE b ex).delays (net:Int)=some (exactL b net):=qix (f:=exactL b) hx.nl
  have hel:(exactL b net).length=(gt b.Ac net).Bh.length:=by unfold exactL;rw [jv]
  have hq:q<(exactL b net).length:=by rw [hel];exact hx.kl
  obtain ⟨x0,x1⟩:=qqV h hx.nl hx.kl
  obtain ⟨f,f0,f1,sF,iF⟩:=qrU hc (kind:=x.As) (mode:=mode)
  have dd:=fun n=>qkW (n:=n) (a:=gt (exactL b net) q) (b:=1000) (mode:=mode) (by omega) (by omega) (by omega)
  obtain ⟨p0,p1⟩:=qsp (a:=gt (exactL b net) q) (b:=1000) (mode:=mode) (M:=344000) (by omega) x0 (by omega)
  obtain ⟨c1,c2⟩:=qtg (mode:=mode) p0 (by omega) (show 0≤f by omega) f1
  have hk1:(x.As==1)=false:=by rw [hx.kind];rfl
  have hi:idx ((exactL b net).map fun x=>divI x 1000 mode) (q:Int)=some (divI (gt (exactL b net) q) 1000 mode):=by
   rw [qA (by rw [jv];exact hq),qpz hq]
  obtain ⟨u,u0,us,ui⟩:=qvA s0 s1 x0 x1 hm
  refine ⟨⟨divI (divI (gt (exactL b net) q) 1000 mode*f) 1000 mode,?_,?_⟩,⟨if u<1000000 then u else 1000000,by split<;>omega,by split<;>omega,?_,?_⟩⟩
  ·unfold qdh
   refine Ev.ff hk1 (Ev.bind (qpj h hx) (Ev.bind (qpi h hx.nl) ?_))
   simp only [hx.ix,hi,jd,sF]
   exact Ev.bind ⟨0,fun n _=>c1 n⟩ .done
  ·unfold qch
   simp only [jd,hv,hnet,hde,hx.ix,qA hq,iF]
   refine Ev.ff hk1 (Ev.bind (b:=divI (gt (exactL b net) q) 1000 mode) ⟨0,fun n _=>(qsW (m:=0)).trans (dd 0)⟩ (Ev.bind ⟨0,fun n _=>c2 n⟩ .done))
  ·have hw:=qbw h hx.nl
   have hsn:=hw.sin q hx.kl
   have hdl:=qm0 h hx.nl
   have eg:gt (exactL b net) q=gt (delaysL b net) (at0 (gt b.Ac net).Bh q).toNat:=by
    unfold exactL
    rw [qfH (by rw [jv];exact hx.kl),List.getElem_map,qjQ hx.kl]
   unfold qdY qms
   refine Ev.ff hk1 (Ev.bind (qpj h hx) ?_)
   simp only [hx.ix,qA hx.nl,jd,qam hx.kl]
   refine Ev.bind (b:=u) (Ev.bind (qoU h hx.nl) ?_) .done
   rw [qfd hsn.1 (show at0 (gt b.Ac net).Bh q<((delaysL b net).length:Int) by omega)]
   simp only [jd]
   rw [←eg]
   exact us
  ·unfold qbn
   simp only [jd,hv,hnet,hde,hx.ix,qA hq]
   refine Ev.ff hk1 (Ev.bind ui (Ev.now ?_))
   congr 1
   split<;>split<;>omega
theorem qqn {b:qe} {c:qy} (h:blockB b=true) (hc:cornerB c=true) {k:Nat} (hk:k<(linksL b).length) {sl mode:Int} (s0:0≤sl) (s1:sl≤1000000) (hm:mode=0∨mode=1) :
  (∃ D:Int,Ev (fun n=>qdh n b c (gt (linksL b) k) sl mode) D∧∀ ex,Ev (fun n=>qch n (some (viewE b ex)) c (k:Int) sl mode) D) ∧
  ∃ S:Int,0≤S∧S≤1000000∧Ev (fun n=>qdY n b (gt (linksL b) k) sl mode) S∧∀ ex,Ev (fun n=>qbn n (some (viewE b ex)) (k:Int) sl mode) S:=by
 obtain ⟨⟨D,d1,_⟩,⟨S,a,c',s1',_⟩⟩:=qsj [] h hc hk s0 s1 hm
 refine ⟨⟨D,d1,fun ex=>?_⟩,⟨S,a,c',s1',fun ex=>?_⟩⟩
 ·obtain ⟨⟨D',e1,e2⟩,_⟩:=qsj ex h hc hk s0 s1 hm
  rw [d1.uniq e1];exact e2
 ·obtain ⟨_,⟨S',_,_,e1,e2⟩⟩:=qsj ex h hc hk s0 s1 hm
  rw [s1'.uniq e1];exact e2
end Go.Fw


namespace Go.Fw
open Go
set_option maxRecDepth 100000
def slR (s:qd):Prop:=(0≤s.Aj∧s.Aj≤1000000)∧(0≤s.Ar∧s.Ar≤1000000)
def SpansS (b:qe) (c:qy) (f:Nat→qd→qd × qd):Prop:=∀ k s,k<(linksL b).length→slR s→slR (f k s).2∧Ev (fun n=>qhE n b c (gt (linksL b) k) s) (f k s)
def SpansI (b:qe) (c:qy) (ex:List Int) (f:Nat→qd→qd × qd):Prop:=∀ k s,k<(linksL b).length→slR s→slR (f k s).2∧Ev (fun n=>qf2 n (some (viewE b ex)) c (k:Int) s) (f k s)
def exK (b:qe) (ex:List Int) (k:Nat):Int:=bif (gt (linksL b) k).As==2 then gt ex (gt (places b.Aa) ((gt (linksL b) k).To / 2).toNat).net.toNat else 0
def wideS (e:Int) (s:qd):qd:=⟨W64 (s.Aj-e),W64 (s.Ar+e)⟩
def wideF (b:qe) (ex:List Int) (f:Nat→qd→qd × qd) (k:Nat) (s:qd):qd × qd:=bif decide (0<ex.length)&&((gt (linksL b) k).As==2) then (wideS (exK b ex k) (f k s).1,(f k s).2) else f k s
theorem qwt {b:qe} {c:qy} (h:blockB b=true) (hc:cornerB c=true):∃ f,SpansS b c f∧∀ ex:List Int,ex.length=0∨ex.length=b.Ac.length→SpansI b c ex (wideF b ex f):=by
 have main:∀ x:Nat × qd,∃ r:qd × qd,x.1<(linksL b).length→slR x.2→slR r.2∧Ev (fun n=>qhE n b c (gt (linksL b) x.1) x.2) r∧∀ ex:List Int,ex.length=0∨ex.length=b.Ac.length→Ev (fun n=>qf2 n (some (viewE b ex)) c (x.1:Int) x.2) (wideF b ex (fun _ _=>r) x.1 x.2):=by
  rintro ⟨k,s⟩
  by_cases hk:k<(linksL b).length∧slR s
  ·obtain ⟨hk,⟨e0,e1⟩,⟨l0,l1⟩⟩:=hk
   obtain ⟨⟨d1,p1,q1⟩,⟨u1,a1,b1,v1,w1⟩⟩:=qqn h hc hk e0 e1 (mode:=0) (.inl rfl)
   obtain ⟨⟨d2,p2,q2⟩,⟨u2,a2,b2,v2,w2⟩⟩:=qqn h hc hk e0 e1 (mode:=1) (.inr rfl)
   obtain ⟨⟨d3,p3,q3⟩,⟨u3,a3,b3,v3,w3⟩⟩:=qqn h hc hk l0 l1 (mode:=0) (.inl rfl)
   obtain ⟨⟨d4,p4,q4⟩,⟨u4,a4,b4,v4,w4⟩⟩:=qqn h hc hk l0 l1 (mode:=1) (.inr rfl)
   refine ⟨(⟨if d3<d1 then d3 else d1,if d4 > d2 then d4 else d2⟩,⟨if u3<u1 then u3 else u1,if u4 > u2 then u4 else u2⟩),fun _ _=>⟨⟨?_,?_⟩,?_,fun ex hex=>?_⟩⟩
   ·show 0≤(if u3<u1 then u3 else u1)∧(if u3<u1 then u3 else u1)≤1000000
    split<;>omega
   ·show 0≤(if u4 > u2 then u4 else u2)∧(if u4 > u2 then u4 else u2)≤1000000
    split<;>omega
   ·unfold qhE
    exact Ev.bind p1 (Ev.bind p2 (Ev.bind v1 (Ev.bind v2 (Ev.bind p3 (Ev.bind p4 (Ev.bind v3 (Ev.bind v4 .done)))))))
   ·unfold qf2
    refine Ev.bind (q1 ex) (Ev.bind (q3 ex) (Ev.bind (q2 ex) (Ev.bind (q4 ex) ?_)))
    have hv:idx (viewE b ex).links (k:Int)=some (gt (linksL b) k):=qA hk
    have hx:(viewE b ex).extras=ex:=rfl
    simp only [jd,hv,hx]
    unfold wideF
    have fin:∀ r:Int × Int,Ev (fun n=>(qbn n (some (viewE b ex)) (k:Int) s.Aj 0).bind fun r5=>(qbn n (some (viewE b ex)) (k:Int) s.Ar 0).bind fun r6=>(qbn n (some (viewE b ex)) (k:Int) s.Aj 1).bind fun r7=>(qbn n (some (viewE b ex)) (k:Int) s.Ar 1).bind fun r8 =>
      some ((⟨r.1,r.2⟩:qd),(⟨if r6<r5 then r6 else r5,if r8 > r7 then r8 else r7⟩:qd))) ((⟨r.1,r.2⟩:qd),(⟨if u3<u1 then u3 else u1,if u4 > u2 then u4 else u2⟩:qd)):=fun r=>Ev.bind (w1 ex) (Ev.bind (w3 ex) (Ev.bind (w2 ex) (Ev.bind (w4 ex) .done)))
    rw [show decide ((ex.length:Int) > 0)=decide (0<ex.length) by rw [decide_eq_decide];omega]
    cases hl:decide (0<ex.length)
    ·exact Ev.bind (b:=false) (Ev.now rfl) (Ev.bind (b:=(if d3<d1 then d3 else d1,if d4 > d2 then d4 else d2)) (Ev.now rfl) (fin _))
    ·cases hkd:(gt (linksL b) k).As==2
     ·exact Ev.bind (b:=false) (Ev.now rfl) (Ev.bind (b:=(if d3<d1 then d3 else d1,if d4 > d2 then d4 else d2)) (Ev.now rfl) (fin _))
     ·obtain ⟨hcs,_⟩:=qgI h (qlJ hk)
      rcases hcs with ⟨i,j,m,net,a,hx⟩|⟨j,net,q,hx⟩
      ·rw [hx.kind] at hkd;cases hkd
      ·have hn:=quN (ex:=ex) hx.jl hx.net_ hx.half
       have hlt:net<ex.length:=by
        have:=of_decide_eq_true hl
        have:=hx.nl
        omega
       have hT:=(qgI h (qlJ hk)).2.2
       have hpl:=qbi (qab (qat h))
       have ej:((gt (linksL b) k).To / 2).toNat=j:=by
        have:=hx.half
        rw [jF hT.1,qau (by omega) (by omega)] at this
        omega
       have eK:exK b ex k=gt ex net:=by
        unfold exK
        rw [hkd,ej,hx.net_,jn]
        rfl
       refine Ev.bind (b:=true) (Ev.now rfl) (Ev.bind (b:=(W64 ((if d3<d1 then d3 else d1)-gt ex net),W64 ((if d4 > d2 then d4 else d2)+gt ex net))) ?_ ?_)
       ·simp only [hn,jd,qA hlt]
        exact .done
       ·rw [eK]
        exact fin _
  ·exact ⟨(s,s),fun h1 h2=>absurd ⟨h1,h2⟩ hk⟩
 obtain ⟨f,hf⟩:=Classical.axiomOfChoice main
 exact ⟨fun k s=>f (k,s),fun k s h1 h2=>⟨(hf (k,s) h1 h2).1,(hf (k,s) h1 h2).2.1⟩,fun ex hex k s h1 h2=>⟨by
  have:=(hf (k,s) h1 h2).1
  unfold wideF
  cases decide (0<ex.length)&&((gt (linksL b) k).As==2)<;>exact this,(hf (k,s) h1 h2).2.2 ex hex⟩⟩
def zSp:qd:=⟨0,0⟩
def zSrc:qg:=⟨0,zSp,zSp⟩
def hullS (s t:qd):qd:=⟨if t.Aj<s.Aj then t.Aj else s.Aj,if t.Ar > s.Ar then t.Ar else s.Ar⟩
theorem qrK {s t:qd}:(⟨if s.Aj<t.Aj then s.Aj else t.Aj,if s.Ar > t.Ar then s.Ar else t.Ar⟩:qd)=hullS s t:=by
 unfold hullS
 congr 1
 ·split<;>split<;>omega
 ·split<;>split<;>omega
def plusS (s t:qd):qd:=⟨W64 (s.Aj+t.Aj),W64 (s.Ar+t.Ar)⟩
def joinS (node:Int) (s:Bool × qg) (ar sl:qd):Bool × qg:=bif s.1 then (true,⟨node,hullS s.2.Af ar,hullS s.2.Av sl⟩) else (true,⟨node,ar,sl⟩)
def frN (ls:List qq) (k:Nat):Nat:=(gt ls k).Be.toNat
def stepS (f:Nat→qd→qd × qd) (ls:List qq) (t:qz) (node:Int) (s:Bool × qg) (k:Nat):Bool × qg :=
 bif gt t.Au (frN ls k) then joinS node s (plusS (gt t.Af (frN ls k)) (f k (gt t.Av (frN ls k))).1) (f k (gt t.Av (frN ls k))).2 else s
def toQ (ls:List qq) (lv:List Bool) (node:Int) (k:Nat):Bool:=lvL lv k&&(toL ls k==node)
def srcO (xs:List qg) (node:Int):Option qg:=xs.find? fun s=>s.Bk==node
def srcV (o:Option qg):Bool × qg:=match o with|some y=>(true,y)|none=>(false,zSrc)
def ndS (f:Nat→qd→qd × qd) (ls:List qq) (lv:List Bool) (t:qz) (node:Int) (s0:Bool × qg):Nat→Bool × qg
 | 0=>s0
 | k+1=>bif toQ ls lv node k then stepS f ls t node (ndS f ls lv t node s0 k) k else ndS f ls lv t node s0 k
theorem qwE {f:Nat→qd→qd × qd} {ls:List qq} {lv:List Bool} {t:qz} {node:Int} {s0:Bool × qg} {j:Nat}:(selN (toQ ls lv node) j).foldl (stepS f ls t node) s0=ndS f ls lv t node s0 j:=by
 induction j with
 | zero=>rfl
 | succ j ih =>
  rw [qnC,List.foldl_append,ih]
  show _=bif toQ ls lv node j then stepS f ls t node (ndS f ls lv t node s0 j) j else ndS f ls lv t node s0 j
  cases toQ ls lv node j<;>rfl
structure TmOk (t:qz) (M:Nat):Prop where
 r:t.Au.length=M
 a:t.Af.length=M
 s:t.Av.length=M
 sl:∀ k,k<M→slR (gt t.Av k)
structure SrcOk (xs:List qg):Prop where
 len:xs.length≤1048576
 inc:∀ j i,i<j→j<xs.length→(gt xs i).Bk<(gt xs j).Bk
 sl:∀ x,x ∈ xs→slR x.Av
theorem qxe {xs:List qg} {node:Int} (hl:xs.length≤1048576):Ev (fun n=>qjp n xs node) ((srcV (srcO xs node)).2,(srcV (srcO xs node)).1):=by
 have h1:Ev (fun n=>qaE n xs node) (ixL (fun s=>s.Bk==node) xs) :=
  qeo (fin:=(xs.length:Int)) (Lf:=qP xs node) (xs:=xs) (pf:=fun n x=>qjY n x node) (fun _ _=>.done)
   (fun n=>by simp only [qP,qk (je _),cond_false])
   (fun n j x hx=>by
    have hj:=(List.getElem?_eq_some_iff.1 hx).1
    simp only [qP,qj hj,cond_true,qaq hx,jd,wS j])
   (fun n=>by unfold qaE;congr 1;funext o;cases o<;>rfl)
 unfold qjp
 refine Ev.bind h1 ?_
 unfold ixL srcO
 cases hf:xs.findIdx? (fun s=>s.Bk==node) with
 | none =>
  have:xs.find? (fun s=>s.Bk==node)=none:=by
   rw [List.find?_eq_none]
   intro x hx
   have:=List.findIdx?_eq_none_iff.1 hf x hx
   simpa using this
  rw [this]
  exact Ev.ff rfl .done
 | some j =>
  obtain ⟨hj,hp,hn⟩:=List.findIdx?_eq_some_iff_getElem.1 hf
  have:xs.find? (fun s=>s.Bk==node)=some xs[j]:=by
   rw [List.find?_eq_some_iff_getElem]
   exact ⟨hp,j,hj,rfl,fun i hi=>by have:=hn i hi;simpa using this⟩
  rw [this]
  refine Ev.tt (show decide ((j:Int) ≥ 0)=true from decide_eq_true (by omega)) ?_
  show Ev (fun n=>(idx xs (j:Int)).bind _) _
  rw [qik hj]
  exact .done
theorem qnM {xs:List qg} {node:Int} {y:qg} (h:srcO xs node=some y):y.Bk=node∧y ∈ xs:=by
 have h1:=List.find?_some h
 exact ⟨by simpa using h1,List.mem_of_find?_eq_some h⟩
theorem qxy {xs:List qg} {node:Int} (h:SrcOk xs) :
  Ev (fun n=>qcT xs node n 0 0 0 0 0 false 0) ((srcV (srcO xs node)).2.Bk,(srcV (srcO xs node)).2.Af.Aj,(srcV (srcO xs node)).2.Af.Ar,(srcV (srcO xs node)).2.Av.Aj,(srcV (srcO xs node)).2.Av.Ar,(srcV (srcO xs node)).1,(xs.length:Int)):=by
 have hl:=h.len
 have:=loopF (τ:=Bool × qg) (Lf:=fun n s j=>qcT xs node n s.2.Bk s.2.Af.Aj s.2.Af.Ar s.2.Av.Aj s.2.Av.Ar s.1 j) (S:=fun j=>srcV (srcO (xs.take j) node)) (len:=xs.length)
  (fin:=((srcV (srcO xs node)).2.Bk,(srcV (srcO xs node)).2.Af.Aj,(srcV (srcO xs node)).2.Af.Ar,(srcV (srcO xs node)).2.Av.Aj,(srcV (srcO xs node)).2.Av.Ar,(srcV (srcO xs node)).1,(xs.length:Int)))
  (fun n=>by simp only [qcT,qk (je _),cond_false,jH])
  (fun j hj X hX=>by
   simp only [qcT,qj hj,cond_true,qA hj,jd,wS j]
   have e:srcO (xs.take (j+1)) node=(srcO (xs.take j) node).or (bif (gt xs j).Bk==node then some (gt xs j) else none):=by
    unfold srcO
    rw [jD hj,List.find?_append,←qfH hj]
    congr 1
   cases hq:(gt xs j).Bk==node
   ·rw [hq] at e
    have e:srcO (xs.take (j+1)) node=srcO (xs.take j) node:=by rw [e];cases srcO (xs.take j) node<;>rfl
    rw [e] at hX
    exact hX
   ·rw [hq] at e
    have hn:srcO (xs.take j) node=none:=by
     unfold srcO
     rw [List.find?_eq_none]
     intro x hx hxn
     obtain ⟨i,hi,rfl⟩:=List.mem_iff_getElem.1 hx
     rw [jX] at hi
     rw [List.getElem_take,←qfH (by omega)] at hxn
     have:=h.inc j i (by omega) hj
     simp only [beq_iff_eq] at hq hxn
     omega
    have e:srcO (xs.take (j+1)) node=some (gt xs j):=by rw [e,hn];rfl
    rw [e] at hX
    exact hX)
 exact this
theorem qux {ls:List qq} {M:Nat} (h:LkOk ls M) {k:Nat} (hk:k<ls.length):(gt ls k).Be=(frN ls k:Int)∧frN ls k<M:=by
 have h0:=h.fr0 k hk
 have h1:=h.fr1 k hk
 unfold frN
 omega
section
variable {b:qe} {c:qy} {ex:List Int} {f:Nat→qd→qd × qd} {lv:List Bool} {t:qz} {xs:List qg} {node:Int}
theorem qzc {ls:List qq} {M:Nat} {ps:List Tplace} {lo:List Int} {de:List (List Int)} {ex:List Int} (h:LkOk ls M) (hl:lv.length=ls.length):Ev (fun n=>qje n (grV ls lv ps b lo de ex) node) (ints (selN (toQ ls lv node) ls.length)):=by
 have hll:=h.len
 have hL:Ev (fun n=>qH node ⟨some ⟨b,ps,ls,lo,de,ex⟩,lv⟩ ⟨b,ps,ls,lo,de,ex⟩ n ([]:List Int) 0) (ints (selN (toQ ls lv node) ls.length),(ls.length:Int)):=by
  refine qko (q:=toQ ls lv node) (Lf:=qH node ⟨some ⟨b,ps,ls,lo,de,ex⟩,lv⟩ ⟨b,ps,ls,lo,de,ex⟩) (len:=ls.length) (by omega) (Ev.succ ?_) (fun j hj t ht X h1 h2=>?_)
  ·simp only [qH,qk (je _),cond_false];exact .done
  ·simp only [qH,qj hj,cond_true,qA hj,qA (show j<lv.length by omega),jd,qjZ,ht,wS j]
   unfold toQ lvL toL at h1 h2
   cases hq:gt lv j
   ·simp only [cond_false];exact h2 (by rw [hq];rfl)
   ·simp only [cond_true]
    cases hw:(gt ls j).To==node
    ·simp only [cond_false];exact h2 (by rw [hq,hw];rfl)
    ·simp only [cond_true];exact h1 (by rw [hq,hw];rfl)
 unfold qje qcB grV
 simp only [jd]
 exact Ev.bind (Ev.bind hL .done) .done
def fixS (node:Int) (s:Bool × qg):Bool × qg:=bif s.1 then s else (false,⟨node,zSp,zSp⟩)
theorem qxj (h:blockB b=true) (hf:SpansI b c ex f) (hl:lv.length=(linksL b).length) (ht:TmOk t (2*(places b.Aa).length)) (hx:xs.length≤1048576) :
  Ev (fun n=>qdm n (some ⟨some (viewE b ex),lv⟩) c xs t node) (ndS f (linksL b) lv t node (srcV (srcO xs node)) (linksL b).length):=by
 have hk:=qnG h
 have hkl:=hk.len
 have hsel:=qne (q:=toQ (linksL b) lv node) (j:=(linksL b).length)
 have hnd:∀ j,(ndS f (linksL b) lv t node (srcV (srcO xs node)) j).1=true→(ndS f (linksL b) lv t node (srcV (srcO xs node)) j).2.Bk=node:=by
  intro j
  induction j with
  | zero =>
   show (srcV (srcO xs node)).1=true→(srcV (srcO xs node)).2.Bk=node
   cases hs:srcO xs node with
   | none=>intro e;cases e
   | some y=>exact fun _=>(qnM hs).1
  | succ j ih =>
   unfold ndS
   cases toQ (linksL b) lv node j
   ·exact ih
   ·simp only [cond_true]
    unfold stepS
    cases gt t.Au (frN (linksL b) j)
    ·exact ih
    ·simp only [cond_true]
     unfold joinS
     cases (ndS f (linksL b) lv t node (srcV (srcO xs node)) j).1<;>exact fun _=>rfl
 have hz:∀ j,(ndS f (linksL b) lv t node (srcV (srcO xs node)) j).1=false→(ndS f (linksL b) lv t node (srcV (srcO xs node)) j).2=zSrc:=by
  intro j
  induction j with
  | zero =>
   show (srcV (srcO xs node)).1=false→(srcV (srcO xs node)).2=zSrc
   cases srcO xs node with
   | none=>exact fun _=>rfl
   | some y=>intro e;cases e
  | succ j ih =>
   unfold ndS
   cases toQ (linksL b) lv node j
   ·exact ih
   ·simp only [cond_true]
    unfold stepS
    cases gt t.Au (frN (linksL b) j)
    ·exact ih
    ·simp only [cond_true]
     unfold joinS
     cases (ndS f (linksL b) lv t node (srcV (srcO xs node)) j).1<;>(intro e;cases e)
 have fl:∀ (l:List Nat) (s:Bool × qg),(∀ k,k ∈ l→toQ (linksL b) lv node k=true)→l.foldl (fun s k=>fixS node (stepS f (linksL b) t node s k)) (fixS node s)=fixS node (l.foldl (stepS f (linksL b) t node) s):=by
  intro l
  induction l with
  | nil=>intro s _;rfl
  | cons k l ih =>
   intro s hq
   have e:fixS node (stepS f (linksL b) t node (fixS node s) k)=fixS node (stepS f (linksL b) t node s k):=by
    unfold stepS
    obtain ⟨s1,s2⟩:=s
    cases gt t.Au (frN (linksL b) k)<;>cases s1<;>rfl
   rw [List.foldl_cons,List.foldl_cons,e]
   exact ih _ fun k' hk'=>hq k' (jo _ hk')
 have hL:=(qvL (τ:=Bool × qg) (xs:=selN (toQ (linksL b) lv node) (linksL b).length) (Lf:=fun n s j=>qbm (some ⟨some (viewE b ex),lv⟩) c t (ints (selN (toQ (linksL b) lv node) (linksL b).length)) n s.1 s.2.Bk s.2.Af.Aj s.2.Af.Ar s.2.Av.Aj s.2.Av.Ar j)
  (step:=fun s k=>fixS node (stepS f (linksL b) t node s k)) (fin:=fun s=>(s.1,s.2.Bk,s.2.Af.Aj,s.2.Af.Ar,s.2.Av.Aj,s.2.Av.Ar,((ints (selN (toQ (linksL b) lv node) (linksL b).length)).length:Int))) (fixS node (srcV (srcO xs node))) (fun _ s=>s=fixS node s∧s.2.Bk=node) (by
   constructor
   ·unfold fixS
    cases hs:(srcV (srcO xs node)).1
    ·rfl
    ·simp only [hs,cond_true]
   ·unfold fixS
    cases hs:srcO xs node with
    | none=>rfl
    | some y=>exact (qnM hs).1)
  (fun j s hj hs=>by
   obtain ⟨h1,h2⟩:=hs
   have key:(stepS f (linksL b) t node s (selN (toQ (linksL b) lv node) (linksL b).length)[j]).2.Bk=node:=by
    unfold stepS
    cases gt t.Au (frN (linksL b) (selN (toQ (linksL b) lv node) (linksL b).length)[j])
    ·exact h2
    ·unfold joinS
     cases s.1<;>rfl
   constructor
   ·unfold fixS
    cases hs:(stepS f (linksL b) t node s (selN (toQ (linksL b) lv node) (linksL b).length)[j]).1
    ·rfl
    ·simp only [hs,cond_true]
   ·unfold fixS
    cases hs:(stepS f (linksL b) t node s (selN (toQ (linksL b) lv node) (linksL b).length)[j]).1
    ·rfl
    ·exact key)
  (fun n s=>by simp only [qbm,qc1,qk (je _),cond_false])
  (fun j s hj hs X hX=>by
   obtain ⟨hfx,hsn⟩:=hs
   have hi:=qoL hj
   have hm:(selN (toQ (linksL b) lv node) (linksL b).length)[j]<(linksL b).length:=(qgF.1 (jp hj)).1
   generalize (selN (toQ (linksL b) lv node) (linksL b).length)[j]=k at hi hm hX
   obtain ⟨e1,e2⟩:=qux hk hm
   have hv:idx (viewE b ex).links (k:Int)=some (gt (linksL b) k):=qA hm
   simp only [qbm,qc1,qj hj,cond_true,hi,hv,jd,e1,qA (show frN (linksL b) k<t.Au.length by rw [ht.r];exact e2),qA (show frN (linksL b) k<t.Af.length by rw [ht.a];exact e2),qA (show frN (linksL b) k<t.Av.length by rw [ht.s];exact e2),wS j]
   unfold stepS at hX
   cases h3:gt t.Au (frN (linksL b) k)
   ·rw [h3] at hX
    simp only [cond_false] at hX
    rw [←hfx] at hX
    exact hX
   rw [h3] at hX
   simp only [cond_true] at hX ⊢
   obtain ⟨_,s1⟩:=hf k _ hm (ht.sl _ e2)
   refine Ev.bind s1 ?_
   generalize f k (gt t.Av (frN (linksL b) k))=q at hX ⊢
   simp only [qk0,jd]
   unfold joinS at hX
   unfold qdf
   cases h4:s.1
   ·rw [h4] at hX
    simp only [Bool.not_false,cond_true,jd]
    unfold fixS at hX
    simp only [cond_false,cond_true] at hX
    rw [hsn]
    exact hX
   ·rw [h4] at hX
    simp only [Ja,cond_false,qgW,jd]
    unfold fixS at hX
    simp only [cond_true] at hX
    rw [hsn]
    exact hX)).1
 rw [fl _ _ (fun k hk'=>(qgF.1 hk').2),qwE] at hL
 unfold qdm
 refine Ev.bind (qxe hx) ?_
 have e0:(bif (srcV (srcO xs node)).1 then (qdf 0 ⟨node,⟨0,0⟩,⟨0,0⟩⟩ false ⟨(srcV (srcO xs node)).2.Af.Aj,(srcV (srcO xs node)).2.Af.Ar⟩ ⟨(srcV (srcO xs node)).2.Av.Aj,(srcV (srcO xs node)).2.Av.Ar⟩).bind (fun o=>match o with|(x9,x10)=>some (x10,x9.Bk,x9.Af.Aj,x9.Af.Ar,x9.Av.Aj,x9.Av.Ar)) else some (false,node,(0:Int),(0:Int),(0:Int),(0:Int))) =
   some ((fixS node (srcV (srcO xs node))).1,(fixS node (srcV (srcO xs node))).2.Bk,(fixS node (srcV (srcO xs node))).2.Af.Aj,(fixS node (srcV (srcO xs node))).2.Af.Ar,(fixS node (srcV (srcO xs node))).2.Av.Aj,(fixS node (srcV (srcO xs node))).2.Av.Ar):=by
  cases hs:srcO xs node with
  | none=>rfl
  | some y =>
   have:=(qnM hs).1
   unfold fixS srcV
   simp only [cond_true,this]
   rfl
 refine Ev.bindN e0 (Ev.bind (qzc (ps:=places b.Aa) (lo:=pre (load0 b) b.Ac.length) (de:=pre (exactL b) b.Ac.length) (ex:=ex) hk hl) (Ev.bind hL ?_))
 have z:=hz (linksL b).length
 generalize ndS f (linksL b) lv t node (srcV (srcO xs node)) (linksL b).length=s at z ⊢
 unfold fixS
 obtain ⟨s1,s2⟩:=s
 cases s1
 ·have:=z rfl
  simp only at this
  subst this
  exact .done
 ·exact .done
end
end Go.Fw


namespace Go.Fw
open Go
set_option maxRecDepth 100000
theorem qnz {b:qe} (h:blockB b=true):Ev (fun n=>qgn n b) ((2*(places b.Aa).length:Nat):Int):=by
 have hs:=qab (qat h)
 have hl:=qbi hs
 unfold qgn
 refine Ev.bind (b:=(places b.Aa).map toSp) (qh1 hs) (Ev.now ?_)
 rw [jv,qau (by omega) (by omega)]
 rfl
theorem qtS {v:Tview} (hl:v.places.length≤78) (n:Nat):qcX n (some v)=some ((2*v.places.length:Nat):Int):=by
 unfold qcX qd0
 simp only [jd]
 rw [qau (by omega) (by omega)]
 rfl
def stepN (xs:List qg) (j:Nat):Bool:=decide (j=0) || decide ((gt xs (j-1)).Bk<(gt xs j).Bk)
def srcB (xs:List qg) (M:Nat):Bool:=allN (fun j=>inI (gt xs j).Bk 0 ((M:Int)-1)&&(stepN xs j&&(spanB (gt xs j).Af&&slewB (gt xs j).Av))) xs.length
theorem qqU {xs:List qg} {j:Nat} (h:j ≠ 0):stepN xs j=decide ((gt xs (j-1)).Bk<(gt xs j).Bk):=by unfold stepN;rw [decide_eq_false h,Bool.false_or]
theorem qru {b:qe} {xs:List qg} (h:blockB b=true) (hl:xs.length≤1048576):Ev (fun n=>qf3 n b xs) (srcB xs (2*(places b.Aa).length)):=by
 have hpl:=qbi (qab (qat h))
 have e:=qnz h
 obtain ⟨M,eM⟩:∃ M,M=2*(places b.Aa).length:=⟨_,rfl⟩
 rw [←eM] at e ⊢
 have hM:M≤156:=by omega
 have hL:Ev (fun n=>qbO xs (M:Int) n 0) (bif srcB xs M then .nxt (xs.length:Int) else .ret false):=by
  refine qdL (Lf:=qbO xs (M:Int)) (len:=xs.length) (Ev.succ (by simp only [qbO,qk (je _),cond_false];exact .done)) (fun j hj X hX=>Ev.succ ?_)
  simp only [qbO,qj hj,cond_true,qA hj,jd,qcF,qq2,qtC,wS j,wO ((M:Int)-1)]
  cases inI (gt xs j).Bk 0 ((M:Int)-1)
  ·exact .done
  refine Ev.ff rfl ?_
  by_cases h0:j=0
  ·subst h0
   refine Ev.ff rfl ?_
   show Ev _ (bif (stepN xs 0&&_) then X else _)
   rw [show stepN xs 0=true from rfl]
   show Ev (fun n=>bif !spanB (gt xs 0).Af then _ else bif !slewB (gt xs 0).Av then _ else _) _
   cases spanB (gt xs 0).Af
   ·exact .done
   ·cases slewB (gt xs 0).Av
    ·exact .done
    ·exact hX
  ·refine Ev.tt (decide_eq_true (by omega)) ?_
   rw [show (j:Int)-1=((j-1:Nat):Int) by omega,qau (by omega) (by omega),qA (show j-1<xs.length by omega),qqU h0]
   simp only [jd]
   by_cases hlt:(gt xs (j-1)).Bk<(gt xs j).Bk
   ·rw [decide_eq_true hlt]
    refine Ev.ff (decide_eq_false (by omega)) ?_
    show Ev (fun n=>bif !spanB (gt xs j).Af then _ else bif !slewB (gt xs j).Av then _ else _) _
    cases spanB (gt xs j).Af
    ·exact .done
    ·cases slewB (gt xs j).Av
     ·exact .done
     ·exact hX
   ·rw [decide_eq_false hlt]
    exact Ev.tt (decide_eq_true (by omega)) .done
 unfold qf3
 refine Ev.bind e (Ev.bind hL ?_)
 cases srcB xs M<;>exact .done
theorem qrp {v:Tview} {xs:List qg} (hp:v.places.length≤78) (hl:xs.length≤1048576):Ev (fun n=>qdn n (some v) xs) (srcB xs (2*v.places.length)):=by
 have e:=qtS hp
 obtain ⟨M,eM⟩:∃ M,M=2*v.places.length:=⟨_,rfl⟩
 rw [←eM] at e ⊢
 have hM:M≤156:=by omega
 have hL:Ev (fun n=>qaT (some v) xs n 0) (bif srcB xs M then .nxt (xs.length:Int) else .ret false):=by
  refine qdL (Lf:=qaT (some v) xs) (len:=xs.length) (Ev.succ (by simp only [qaT,qk (je _),cond_false];exact .done)) (fun j hj X hX=>Ev.succ ?_)
  simp only [qaT,qj hj,cond_true,qA hj,jd,qi8,e,qde,qpF,qs8,wS j,wO ((M:Int)-1)]
  cases inI (gt xs j).Bk 0 ((M:Int)-1)
  ·exact .done
  refine Ev.ff rfl ?_
  show Ev (fun n=>bif !spanB (gt xs j).Af then _ else bif !slewB (gt xs j).Av then _ else _) _
  rw [jx,Bool.and_comm]
  cases spanB (gt xs j).Af
  ·exact .done
  ·cases slewB (gt xs j).Av
   ·exact .done
   ·refine Ev.ff rfl (Ev.ff rfl ?_)
    rw [jx,jx]
    by_cases h0:j=0
    ·subst h0
     exact Ev.ff rfl hX
    ·refine Ev.tt (decide_eq_true (by omega)) ?_
     rw [show (j:Int)-1=((j-1:Nat):Int) by omega,qau (by omega) (by omega),qA (show j-1<xs.length by omega),qqU h0]
     simp only [jd]
     by_cases hlt:(gt xs (j-1)).Bk<(gt xs j).Bk
     ·rw [decide_eq_true hlt]
      exact Ev.ff (decide_eq_false (by omega)) hX
     ·rw [decide_eq_false hlt]
      exact Ev.tt (decide_eq_true (by omega)) .done
 unfold qdn
 refine Ev.bind hL ?_
 cases srcB xs M<;>exact .done
theorem qxF {xs:List qg} {M:Nat} (hl:xs.length≤1048576) (h:srcB xs M=true):SrcOk xs:=by
 unfold srcB at h
 rw [qap] at h
 refine ⟨hl,fun j=>?_,fun x hx=>?_⟩
 ·induction j with
  | zero=>intro i hi _;omega
  | succ j ih =>
   intro i hi hj
   have hs:=h (j+1) hj
   rw [qqU (by omega)] at hs
   simp only [jf,decide_eq_true_eq,Nat.add_sub_cancel] at hs
   have hs':=hs.2.1
   by_cases hij:i=j
   ·rw [hij];exact hs'
   ·have:=ih i (by omega) (by omega);omega
 ·obtain ⟨i,hi,rfl⟩:=List.mem_iff_getElem.1 hx
  have hs:=h i hi
  rw [←qfH hi]
  simp only [jf] at hs
  have:=hs.2.2.2
  unfold slewB at this
  simp only [jf,decide_eq_true_eq] at this
  exact ⟨⟨this.1,by omega⟩,by omega,this.2.2⟩
section
variable {L:Nat} {fr to:Nat→Int} {lv:Nat→Bool} {n:Nat}
def OrdOk (L:Nat) (fr to:Nat→Int) (lv:Nat→Bool) (n:Nat) (R:List Nat):Prop:=∀ l1 k l2,R=l1++k::l2→k<n∧k ∉ l1∧inN L fr to lv l1 k=0
theorem OrdOk.snoc {R:List Nat} {k:Nat} (h:OrdOk L fr to lv n R) (hk:nxtN L fr to lv n R=some k):OrdOk L fr to lv n (R++[k]):=by
 intro l1 k' l2 e
 rcases List.eq_nil_or_concat l2 with rfl|⟨l2',z,rfl⟩
 ·obtain ⟨rfl,e2⟩:=List.append_inj' e rfl
  obtain rfl:k=k':=by simpa using e2
  exact qpb hk
 ·have e':R++[k]=(l1++k'::l2')++[z]:=by rw [e];simp
  obtain ⟨e1,_⟩:=List.append_inj' e' rfl
  exact h l1 k' l2' e1
theorem qxt:∀ m R R',OrdOk L fr to lv n R→ordN L fr to lv n m R=some R'→OrdOk L fr to lv n R':=by
 intro m
 induction m with
 | zero=>intro R R' h e;obtain rfl:=Option.some.inj e;exact h
 | succ m ih =>
  intro R R' h e
  unfold ordN at e
  cases hn:nxtN L fr to lv n R with
  | none=>rw [hn] at e;cases e
  | some k =>
   rw [hn] at e
   exact ih _ _ (h.snoc hn) e
theorem OrdOk.at {R:List Nat} (h:OrdOk L fr to lv n R) {j:Nat} (hj:j<R.length):R[j]<n∧R[j] ∉ R.take j∧inN L fr to lv (R.take j) R[j]=0:=by
 refine h (R.take j) R[j] (R.drop (j+1)) ?_
 rw [←jM hj,List.take_append_drop]
end
theorem qpf {α:Type} [Inhabited α] {xs:List α} {k:Nat} {v:α} (hk:k<xs.length) (h:gt xs k=v):setS xs (k:Int) v=xs:=by
 unfold setS
 rw [jn,←h,qfH hk]
 exact List.set_getElem_self hk
theorem qoS {α:Type} [Inhabited α] {xs:List α} {a k:Nat} {y:α} (ha:a<xs.length):gt (setS xs (a:Int) y) k=if k=a then y else gt xs k:=by
 unfold setS
 rw [jn]
 by_cases h:k=a
 ·subst h;rw [if_pos rfl,qpR ha]
 ·rw [if_neg h,qrM h]
def setT (t:qz) (k:Nat) (s:Bool × qg):qz:=⟨setS t.Au (k:Int) s.1,setS t.Af (k:Int) s.2.Af,setS t.Av (k:Int) s.2.Av⟩
theorem qso {t:qz} {M k:Nat} {s:Bool × qg} (h:TmOk t M) (hk:k<M) (hs:slR s.2.Av):TmOk (setT t k s) M where
 r:=by show (setS _ _ _).length=_;rw [qeY];exact h.r
 a:=by show (setS _ _ _).length=_;rw [qeY];exact h.a
 s:=by show (setS _ _ _).length=_;rw [qeY];exact h.s
 sl:=fun j hj=>by
  show slR (gt (setS _ _ _) j)
  rw [qoS (by rw [h.s];exact hk)]
  split
  ·exact hs
  ·exact h.sl j hj
def Bare (t:qz) (M:Nat) (l:List Nat):Prop:=∀ k,k<M→k ∉ l→gt t.Au k=false∧gt t.Af k=zSp∧gt t.Av k=zSp
def zT:qz:=⟨[],[],[]⟩
theorem qwg:slR zSp:=by unfold slR zSp;exact ⟨⟨Jb _,by show (0:Int)≤_;omega⟩,Jb _,by show (0:Int)≤_;omega⟩
theorem qyl {s t:qd} (hs:slR s) (ht:slR t):slR (hullS s t):=by
 obtain ⟨⟨a1,a2⟩,a3,a4⟩:=hs
 obtain ⟨⟨b1,b2⟩,b3,b4⟩:=ht
 refine ⟨⟨?_,?_⟩,?_,?_⟩
 ·show (0:Int)≤(if t.Aj<s.Aj then t.Aj else s.Aj);split<;>assumption
 ·show (if t.Aj<s.Aj then t.Aj else s.Aj)≤1000000;split<;>assumption
 ·show (0:Int)≤(if t.Ar > s.Ar then t.Ar else s.Ar);split<;>assumption
 ·show (if t.Ar > s.Ar then t.Ar else s.Ar)≤1000000;split<;>assumption
section
variable {b:qe} {c:qy} {ex:List Int} {f g:Nat→qd→qd × qd} {lv:List Bool} {t:qz} {xs:List qg} {node:Int}
theorem qo2 (h:blockB b=true) (hg:SpansS b c g) (hgf:∀ k s,(f k s).2=(g k s).2) (ht:TmOk t (2*(places b.Aa).length)) (hx:SrcOk xs):∀ j,j≤(linksL b).length→slR (ndS f (linksL b) lv t node (srcV (srcO xs node)) j).2.Av:=by
 intro j
 induction j with
 | zero =>
  intro _
  show slR (srcV (srcO xs node)).2.Av
  cases hs:srcO xs node with
  | none=>exact qwg
  | some y=>exact hx.sl y (qnM hs).2
 | succ j ih =>
  intro hj
  have ih:=ih (by omega)
  obtain ⟨_,e2⟩:=qux (qnG h) (show j<(linksL b).length by omega)
  have h2:=(hg j _ (show j<(linksL b).length by omega) (ht.sl _ e2)).1
  rw [←hgf] at h2
  show slR (bif toQ (linksL b) lv node j then stepS f (linksL b) t node (ndS f (linksL b) lv t node (srcV (srcO xs node)) j) j else ndS f (linksL b) lv t node (srcV (srcO xs node)) j).2.Av
  cases toQ (linksL b) lv node j
  ·exact ih
  ·simp only [cond_true]
   unfold stepS
   cases gt t.Au (frN (linksL b) j)
   ·exact ih
   ·simp only [cond_true]
    unfold joinS
    cases (ndS f (linksL b) lv t node (srcV (srcO xs node)) j).1
    ·exact h2
    ·exact qyl ih h2
theorem qxq:∀ j,(ndS f (linksL b) lv t node (srcV (srcO xs node)) j).1=false→(ndS f (linksL b) lv t node (srcV (srcO xs node)) j).2=zSrc:=by
 intro j
 induction j with
 | zero =>
  show (srcV (srcO xs node)).1=false→(srcV (srcO xs node)).2=zSrc
  cases srcO xs node with
  | none=>exact fun _=>rfl
  | some y=>intro e;cases e
 | succ j ih =>
  unfold ndS
  cases toQ (linksL b) lv node j
  ·exact ih
  ·simp only [cond_true]
   unfold stepS
   cases gt t.Au (frN (linksL b) j)
   ·exact ih
   ·simp only [cond_true]
    unfold joinS
    cases (ndS f (linksL b) lv t node (srcV (srcO xs node)) j).1<;>(intro e;cases e)
def runR (o:Option qz):qz × Bool:=match o with|some t=>(t,true)|none=>(zT,false)
def rnO (f:Nat→qd→qd × qd) (ls:List qq) (lv:List Bool) (xs:List qg):List Nat→qz→Option qz
 | [],t=>some t
 | k::R,t=>bif (ndS f ls lv t (k:Int) (srcV (srcO xs (k:Int))) ls.length).1 then bif spanB (ndS f ls lv t (k:Int) (srcV (srcO xs (k:Int))) ls.length).2.Af then rnO f ls lv xs R (setT t k (ndS f ls lv t (k:Int) (srcV (srcO xs (k:Int))) ls.length)) else none else rnO f ls lv xs R t
def zTm (M:Nat):qz:=⟨List.replicate M false,List.replicate M zSp,List.replicate M zSp⟩
theorem qsJ {α:Type} [Inhabited α] {v:α} {M k:Nat} (hk:k<M):gt (List.replicate M v) k=v:=by rw [qfH (by rw [jJ];exact hk)];simp
theorem qut {M:Nat}:TmOk (zTm M) M:=⟨jJ,jJ,jJ,fun k hk=>by
 show slR (gt (List.replicate M zSp) k)
 rw [qsJ hk];exact qwg⟩
theorem qwF {M:Nat} {l:List Nat}:Bare (zTm M) M l:=fun k hk _=>⟨qsJ hk,qsJ hk,qsJ hk⟩
def runL (o:Option qz) (m:Nat):Flow (qz × Bool) (List qd × List qd × List Bool × Int):=match o with|some t'=>.nxt (t'.Av,t'.Af,t'.Au,(m:Int))|none=>.ret (zT,false)
theorem qx9 (h:blockB b=true) (hg:SpansS b c g) (hgf:∀ k s,(f k s).2=(g k s).2) (hf:SpansI b c ex f) (hl:lv.length=(linksL b).length) (hx:SrcOk xs) {R:List Nat} (hR:∀ j,∀ hj:j<R.length,R[j]<2*(places b.Aa).length∧R[j] ∉ R.take j) (hRl:R.length≤1000) :
  Ev (fun n=>qdr n (some ⟨some (viewE b ex),lv⟩) c xs (ints R)) (runR (rnO f (linksL b) lv xs R (zTm (2*(places b.Aa).length)))):=by
 have hpl:=qbi (qab (qat h))
 have hnd:=qtS (v:=viewE b ex) hpl
 have epl:(viewE b ex).places.length=(places b.Aa).length:=rfl
 rw [epl] at hnd
 obtain ⟨M,eM⟩:∃ M,M=2*(places b.Aa).length:=⟨_,rfl⟩
 have hM:M≤156:=by omega
 have main:∀ d j t,j+d=R.length→TmOk t M→Bare t M (R.take j)→Ev (fun n=>qaS (some ⟨some (viewE b ex),lv⟩) c xs (ints R) n t.Av t.Af t.Au (j:Int)) (runL (rnO f (linksL b) lv xs (R.drop j) t) R.length):=by
  intro d
  induction d with
  | zero =>
   intro j t hj ht _
   obtain rfl:j=R.length:=by omega
   rw [List.drop_length]
   refine Ev.succ ?_
   simp only [qaS,qc1,qk (je _),cond_false]
   exact .done
  | succ d ih =>
   intro j t hj ht hb
   have hjl:j<R.length:=by omega
   obtain ⟨k1,k2⟩:=hR j hjl
   have hi:=qoL hjl
   have htk:R.take (j+1)=R.take j++[R[j]]:=jD hjl
   have hd:R.drop j=R[j]::R.drop (j+1):=jM hjl
   generalize R[j]=k at k1 k2 hi htk hd
   rw [←eM] at k1
   have hp:=qxj (node:=(k:Int)) h hf hl (by rw [←eM];exact ht) hx.len
   have hsl:=qo2 (node:=(k:Int)) (lv:=lv) h hg hgf (by rw [←eM];exact ht) hx (linksL b).length (je _)
   have hz:=qxq (f:=f) (b:=b) (lv:=lv) (t:=t) (xs:=xs) (node:=(k:Int)) (linksL b).length
   obtain ⟨b1,b2,b3⟩:=hb k k1 k2
   have ir:idx t.Au (k:Int)=some (gt t.Au k):=qA (by rw [ht.r];exact k1)
   have ia:idx t.Af (k:Int)=some (gt t.Af k):=qA (by rw [ht.a];exact k1)
   have is:idx t.Av (k:Int)=some (gt t.Av k):=qA (by rw [ht.s];exact k1)
   have ptp:∀ n,qaS (some ⟨some (viewE b ex),lv⟩) c xs (ints R) (n+1) t.Av t.Af t.Au (j:Int)=(qdm n (some ⟨some (viewE b ex),lv⟩) c xs t (k:Int)).bind fun o=>match o with
    | (r3,r4)=>(bif r3 then some (!spanB r4.Af) else some false).bind fun b3=>bif b3 then some (.ret (zT,false)) else
     qaS (some ⟨some (viewE b ex),lv⟩) c xs (ints R) n (setS t.Av (k:Int) r4.Av) (setS t.Af (k:Int) r4.Af) (setS t.Au (k:Int) r3) ((j+1:Nat):Int):=fun n=>by
    simp only [qaS,qc1,qj hjl,cond_true,hi,jd,qpF,ir,ia,is,wS j]
    rfl
   rw [hd]
   unfold rnO
   generalize ndS f (linksL b) lv t (k:Int) (srcV (srcO xs (k:Int))) (linksL b).length=s at hp hsl hz ⊢
   obtain ⟨s1,s2⟩:=s
   cases s1
   ·have:=hz rfl
    simp only at this
    subst this
    have e1:setS t.Av (k:Int) zSrc.Av=t.Av:=qpf (by rw [ht.s];exact k1) b3
    have e2:setS t.Af (k:Int) zSrc.Af=t.Af:=qpf (by rw [ht.a];exact k1) b2
    have e3:setS t.Au (k:Int) false=t.Au:=qpf (by rw [ht.r];exact k1) b1
    refine Ev.step ptp (Ev.bind hp ?_)
    simp only [cond_false,jd,e1,e2,e3]
    exact ih (j+1) t (by omega) ht (fun i hi hni=>hb i hi (fun hm=>hni (by rw [htk];exact jP _ hm)))
   ·cases hsp:spanB s2.Af
    ·refine Ev.step ptp (Ev.bind hp ?_)
     simp only [hsp];exact .done
    ·refine Ev.step ptp (Ev.bind hp ?_)
     simp only [hsp]
     refine ih (j+1) (setT t k (true,s2)) (by omega) (qso ht k1 hsl) (fun i hi hni=>?_)
     rw [htk] at hni
     have hne:i ≠ k:=fun e=>hni (List.mem_append_right _ (List.mem_singleton.2 e))
     have:=hb i hi (fun hm=>hni (jP _ hm))
     refine ⟨?_,?_,?_⟩
     ·show gt (setS _ _ _) i=_;rw [qoS (by rw [ht.r];exact k1),if_neg hne];exact this.1
     ·show gt (setS _ _ _) i=_;rw [qoS (by rw [ht.a];exact k1),if_neg hne];exact this.2.1
     ·show gt (setS _ _ _) i=_;rw [qoS (by rw [ht.s];exact k1),if_neg hne];exact this.2.2
 have hm1:mkS (M:Int) false=some (List.replicate M false):=qly (by omega)
 have hm2:mkS (M:Int) (⟨0,0⟩:qd)=some (List.replicate M zSp):=qly (by omega)
 have o3:=main R.length 0 (zTm M) (by omega) qut qwF
 rw [List.drop_zero] at o3
 rw [←eM] at hnd ⊢
 unfold qdr qhw
 simp only [jd,hnd,hm1,hm2]
 refine Ev.bind o3 ?_
 cases rnO f (linksL b) lv xs R (zTm M)<;>exact .done
end
end Go.Fw


namespace Go.Fw
open Go Go.Proofs
open Go.RowKit (Below)
set_option maxRecDepth 100000
set_option maxHeartbeats 1600000
variable {n:Nat} {w:World} {cs1 cs2 cs3 cs4 cs5 cs6 cs7 cs8 cs9:List Value}
def qdC (list:(List ql)) (used:(List Int)):Nat→(List Int)→Int→Option ((List Int) × Int)
 | 0,_,_=>none
 | n+1,x2,i1 =>
  bif decide (i1<(used.length:Int)) then
   (idx used i1).bind fun y1 =>
   (idx list y1).bind fun y2 =>
   (idx x2 y2.A).bind fun y3 =>
   (idx x2 y2.A).bind fun _ =>
   (idx (setS x2 y2.A (W64 (y3+y2.Bo))) y2.B).bind fun y5 =>
   (idx (setS x2 y2.A (W64 (y3+y2.Bo))) y2.B).bind fun _ =>
   qdC list used n (setS (setS x2 y2.A (W64 (y3+y2.Bo))) y2.B (W64 (y5+y2.Bo))) (W64 (i1+1))
  else
   some (x2,i1)
def qiO (n:Nat) (b:qe) (list:(List ql)) (used:(List Int)):Option (List Int) :=
 (mkS (b.Aa.Ai.length:Int) (0:Int)).bind fun x1 =>
 (qdC list used n x1 0).bind fun o=>match o with
 | (x2,_) =>
  some x2
theorem qk8 {b:qe} {list:(List ql)} {used:(List Int)} (ha1:GoT.R w (old w) b cs1) (ha2:GoT.R w (old w) list cs2) (ha3:GoT.R w (old w) used cs3) {r:(List Int)} (hF:qiO n b list used=some r):RetV Tryz.prog 74 [GoT.v qe cs1,GoT.v (List ql) cs2,GoT.v (List Int) cs3] w r:=by
 obtain ⟨p1,k1,p2,k2,p3,k3,p4,k4,p5,k5,rfl,s1,s2,s3,s4,s5⟩:=qD ha1
 obtain ⟨p6,k6,rfl,s6⟩:=ha2
 obtain ⟨p7,k7,rfl,s7⟩:=ha3
 refine zV 53 Tryz.func74 rfl fun h=>zSR (qt h rfl rfl fun w1 bb1 h=>X1 8 0 h rfl ?_)
 obtain ⟨x1,hx1,hF⟩:=qc hF
 obtain ⟨g1,g2,hx1⟩:=qL hx1
 refine qah qa Int h rfl rfl rfl rfl rfl rfl rfl rfl rfl g1 g2 hx1 rfl fun w2 S1 p8 h=>X0 7 rfl ?_
 obtain ⟨o1,hF,hK1⟩:=qc hF
 refine qm ?_
 replace h:=h.pick [0] rfl
 refine rL (fun m e w'=>∃ (x2:(List Int)) (i1:Int),qdC list used m x2 i1=some o1∧e=[(1,.slice p6 list.length k6),(2,.slice p7 used.length k7),(7,.slice p8 x1.length x1.length),(8,.int .i64 i1)]∧SH w w' [Ch.own S1 (x2:List Int) [.slice p8 x1.length x1.length]]) n ⟨_,_,hF,rfl,h⟩ rfl ?_
 rintro m1 e1 w3 ⟨x2,i1,hF,rfl,h⟩
 rcases m1 with _|m1
 ·cases hF
 refine X0 8 rfl (qi rfl hF ?_ ?_)<;>intro hF
 ·refine X0 8 rfl ?_
  obtain ⟨y1,hy1,hF,he1,b1,_,q1,cs4,hp1,hq1,rfl,hc2⟩:=s7.ix hF
  refine zxe hp1 hq1 he1 rfl (zc 0 (hc2.below h.below) rfl ?_)
  obtain ⟨y2,hy2,hF,he2,b2,_,q2,cs5,hp2,hq2,hr2,hc3⟩:=s6.ix hF
  obtain rfl:=qaa hr2
  refine zxe hp2 hq2 he2 rfl (zc 0 (hc3.below h.below) rfl (qn qa h rfl rfl rfl fun w4 bb2 h=>zs 0 h rfl fun w5 h=>zNS (rA [12] [0,1] h rfl fun w6 h=>M2 63 [0,1,2,3,4,5] 0 0 (h.pick [0,1] rfl) rfl ?_)))
  obtain ⟨y3,hy3,hF,he3,b3,_,q3,cs6,hp3,hq3,rfl,hc4⟩:=(h.sl 1 rfl).1.ix hF
  refine Ax 6 127 hp3 hq3 ⟨he3.1,qK he3.2.1 (h.sl 1 rfl).2⟩ (h.pick [0,1] rfl) rfl (Aw 7 255 (fun w' hw=>qhq qa (qbz (w1:=w) (S1:=fun _=>False) hw 1 rfl hy3 hp3 hq3 rfl) (j:=0) rfl rfl rfl) (h.pick [0,1] rfl) rfl ?_)
  refine M1 2047 [8,9,10] 0 (h.pick [0,1] rfl) rfl ?_
  obtain ⟨y4,hy4,hF,he4,b4,_,q4,cs7,hp4,hq4,rfl,hc5⟩:=(h.sl 1 rfl).1.ix hF
  refine Ax 11 4095 hp4 hq4 ⟨he4.1,qK he4.2.1 (h.sl 1 rfl).2⟩ (h.pick [0,1] rfl) rfl (Ao 12 8191 rfl (qa7 qa 1 0 (W64 (y3+y2.Bo)) h rfl hy4 hp4 hq4 rfl hc5 rfl rfl rfl rfl rfl rfl rfl fun w7 h=>qbg (fun hs=>absurd (hs 12 (by decide)) (by decide)) (Ad (rA [12] [0,1] h rfl fun w8 h=>M2 63 [0,1,2,3,4,5] 0 0 (h.pick [0,1] rfl) rfl ?_))))
  obtain ⟨y5,hy5,hF,he5,b5,_,q5,cs8,hp5,hq5,rfl,hc6⟩:=(h.sl 1 rfl).1.ix hF
  refine Ax 6 127 hp5 hq5 ⟨he5.1,qK he5.2.1 (h.sl 1 rfl).2⟩ (h.pick [0,1] rfl) rfl (Aw 7 255 (fun w' hw=>qhq qa (qbz (w1:=w) (S1:=fun _=>False) hw 1 rfl hy5 hp5 hq5 rfl) (j:=0) rfl rfl rfl) (h.pick [0,1] rfl) rfl ?_)
  refine M1 2047 [8,9,10] 0 (h.pick [0,1] rfl) rfl ?_
  obtain ⟨y6,hy6,hF,he6,b6,_,q6,cs9,hp6,hq6,rfl,hc7⟩:=(h.sl 1 rfl).1.ix hF
  refine Ax 11 4095 hp6 hq6 ⟨he6.1,qK he6.2.1 (h.sl 1 rfl).2⟩ (h.pick [0,1] rfl) rfl (Ao 12 8191 rfl (qa7 qa 1 0 (W64 (y5+y2.Bo)) h rfl hy6 hp6 hq6 rfl hc7 rfl rfl rfl rfl rfl rfl rfl fun w9 h=>qbg (fun hs=>absurd (hs 12 (by decide)) (by decide)) (Ad (X0 6 rfl ?_))))
  replace h:=h.pick [1] rfl
  exact rK ⟨_,_,hF,rfl,h⟩ rfl
 refine qr rfl ?_
 obtain rfl:=qb hF;replace hF:=hK1
 refine X0 5 rfl ?_
 obtain rfl:=qb hF
 exact rO 0 h rfl ⟨rfl,trivial⟩
def qcq (a_n:Int) (a:(List Int)) (b:(List Int)):Nat→(List Int)→Int→Option ((List Int) × Int)
 | 0,_,_=>none
 | n+1,x1,i1 =>
  bif decide (i1<a_n) then
   (
    (qh8 n a i1).bind fun r1 =>
    bif r1 then some true else
    (qh8 n b i1).bind fun r2 =>
    some r2).bind fun b1 =>
   bif b1 then
    (appS x1 ([i1]:List Int)).bind fun x2 =>
    qcq a_n a b n x2 (W64 (i1+1))
   else
    qcq a_n a b n x1 (W64 (i1+1))
  else
   some (x1,i1)
def qjl (n:Nat) (a_n:Int) (a:(List Int)) (b:(List Int)):Option (List Int) :=
 (qcq a_n a b n ([]:List Int) 0).bind fun o=>match o with
 | (x1,_) =>
  some x1
theorem qpd {a_n:Int} {a:(List Int)} {b:(List Int)} (ha1:GoT.R w (old w) a cs1) (ha2:GoT.R w (old w) b cs2) {r:(List Int)} (hF:qjl n a_n a b=some r):RetV Tryz.prog 75 [.int .i64 a_n,GoT.v (List Int) cs1,GoT.v (List Int) cs2] w r:=by
 obtain ⟨p1,k1,rfl,s1⟩:=ha1
 obtain ⟨p2,k2,rfl,s2⟩:=ha2
 refine zV 28 Tryz.func75 rfl fun h=>X0 6 rfl (qG qa [] _ ([]:List Int) h rfl rfl rfl rfl rfl rfl rfl rfl rfl trivial rfl fun w1 p3 S1 h=>X0 7 rfl ?_)
 obtain ⟨o1,hF,hK1⟩:=qc hF
 refine qm (rL (fun m e w'=>∃ (S2:Nat→Prop) (p4:Option Addr) (ln1:Nat) (k3:Nat) (x1:(List Int)) (i1:Int),qcq a_n a b m x1 i1=some o1∧e=[(0,.int .i64 a_n),(1,.slice p1 a.length k1),(2,.slice p2 b.length k2),(7,.slice p4 ln1 k3),(8,.int .i64 i1)]∧SH w w' [Ch.own S2 (x1:List Int) [.slice p4 ln1 k3]]) n ⟨_,_,_,_,_,_,hF,rfl,h⟩ rfl ?_)
 rintro m1 e1 w2 ⟨S2,p4,ln1,k3,x1,i1,hF,rfl,h⟩
 obtain rfl:=(h.sl 0 rfl).2
 rcases m1 with _|m1
 ·cases hF
 refine X0 7 rfl (qi rfl hF ?_ ?_)<;>intro hF
 ·refine X0 4 rfl ?_
  obtain ⟨KF1,hKF1,o2,hF,hK2⟩:=bindE hF
  refine qa0 (fun e w'=>∃ (b1:Bool),KF1 b1=some o1∧e=[(0,.int .i64 a_n),(1,.slice p1 a.length k1),(2,.slice p2 b.length k2),(7,.slice p4 x1.length k3),(8,.int .i64 i1),(22,.bool b1)]∧SH w w' [Ch.own S2 (x1:List Int) [.slice p4 x1.length k3]]) ?_ ?_
  ·refine X0 3 rfl (zcB h hF (qkS ⟨_,_,rfl,(h.oldS s1)⟩) rfl fun r1 w5 h hF=>zp1 rfl (qh (t:=18) hF rfl ?_ ?_))<;>intro hF
   ·refine X0 5 rfl ?_
    obtain rfl:=qb hF
    exact rG ⟨_,hK2,rfl,h⟩ rfl
   refine X0 5 rfl (zcB h hF (qkS ⟨_,_,rfl,(h.oldS s2)⟩) rfl fun r2 w6 h hF=>X0 2 rfl ?_)
   obtain rfl:=qb hF
   exact rG ⟨_,hK2,rfl,h⟩ rfl
  rintro e2 w7 ⟨b1,hF,rfl,h⟩
  subst hKF1
  refine qi rfl hF ?_ ?_<;>intro hF
  ·refine X0 3 rfl (qG qa [.tmp 24] _ ([i1]:List Int) h rfl rfl rfl rfl rfl rfl rfl rfl rfl ⟨rfl,trivial⟩ rfl fun w3 p5 S3 h=>?_)
   obtain ⟨x2,hx1,hF⟩:=qc hF
   obtain ⟨g1,hx1⟩:=qav hx1
   refine qcl qa 1 h rfl (h.sl 0 rfl).1 (h.sl 0 rfl).2 rfl rfl rfl rfl rfl rfl rfl rfl rfl g1 hx1 rfl fun w4 p6 k4 S4 h=>X0 8 rfl ?_
   replace h:=h.pick [1] rfl
   exact rK ⟨_,_,_,_,_,_,hF,rfl,h⟩ rfl
  exact X0 7 rfl (rK ⟨_,_,_,_,_,_,hF,rfl,h⟩ rfl)
 refine qr rfl ?_
 obtain rfl:=qb hF;replace hF:=hK1
 refine X0 5 rfl ?_
 obtain rfl:=qb hF
 exact rO 0 h rfl ⟨rfl,trivial⟩
def qio (n:Nat) (a_0:qe) (a_1:qy) (a_2:(List Int)) (a_3:(List qg)) (a_4:(List ql)) (a_5:(List Int)):Option (Bool × Int) :=
 (
  (qeT n a_0).bind fun r12 =>
  bif (!r12) then some true else
  (qfa n a_1).bind fun r13 =>
  some (!r13)).bind fun b1 =>
 bif b1 then some (false,1) else
 (
  (qe1 n a_0 a_4).bind fun r10 =>
  bif (!r10) then some true else
  (qfw n a_5 (a_4.length:Int)).bind fun r11 =>
  some (!r11)).bind fun b2 =>
 bif b2 then some (false,2) else
 (qfR n a_0 a_1 a_2 a_3).bind fun o=>match o with
  | (r2,r3) =>
   bif (r3 != 0) then some (false,r3) else
   (qiO n a_0 a_4 a_5).bind fun r4 =>
   (qjw n a_0 a_1 a_2 a_3 r4 r2).bind fun o=>match o with
    | (r6,r7) =>
     bif (!r7) then some (false,3) else
     (qin n a_0 (⟨r6.Au,r6.Af,r6.Av⟩:qz) a_4).bind fun r8 =>
     (qjl n (a_4.length:Int) a_5 r8).bind fun r9 =>
     some (((r9.length:Int)==(a_5.length:Int)),0)
theorem qoC {a_0:qe} {a_1:qy} {a_2:(List Int)} {a_3:(List qg)} {a_4:(List ql)} {a_5:(List Int)} (ha1:GoT.R w (old w) a_0 cs1) (ha2:GoT.R w (old w) a_1 cs2) (ha3:GoT.R w (old w) a_2 cs3) (ha4:GoT.R w (old w) a_3 cs4) (ha5:GoT.R w (old w) a_4 cs5) (ha6:GoT.R w (old w) a_5 cs6) {r:(Bool × Int)} (hF:qio n a_0 a_1 a_2 a_3 a_4 a_5=some r):RetV Tryz.prog 26 [GoT.v qe cs1,GoT.v qy cs2,GoT.v (List Int) cs3,GoT.v (List qg) cs4,GoT.v (List ql) cs5,GoT.v (List Int) cs6] w r:=by
 obtain ⟨p1,k1,p2,k2,p3,k3,p4,k4,p5,k5,rfl,s1,s2,s3,s4,s5⟩:=qD ha1
 obtain rfl:=qaz ha2
 obtain ⟨p6,k6,rfl,s6⟩:=ha3
 obtain ⟨p7,k7,rfl,s7⟩:=ha4
 obtain ⟨p8,k8,rfl,s8⟩:=ha5
 obtain ⟨p9,k9,rfl,s9⟩:=ha6
 refine zV 75 Tryz.func26 rfl fun h=>zSR (qt h rfl rfl fun w1 bb1 h=>qt h rfl rfl fun w2 bb2 h=>X0 5 rfl ?_)
 obtain ⟨KF2,hKF2,o2,hF,hK2⟩:=bindE hF
 refine qa0 (fun e w'=>∃ (b1:Bool),KF2 b1=some r∧e=[(2,.slice p6 a_2.length k6),(3,.slice p7 a_3.length k7),(4,.slice p8 a_4.length k8),(5,.slice p9 a_5.length k9),(6,.pointer (some ⟨bb1,0,none⟩)),(7,.pointer (some ⟨bb2,0,none⟩)),(25,.bool b1)]∧SH w w' [Ch.box bb2 (qaL a_1) 77,Ch.box bb1 (qZ a_0 p1 p2 p3 p4 p5 k1 k2 k3 k4 k5) 53]) ?_ ?_
 ·refine X1 2 1 h rfl (zcB h hF (qjU (h.old ha1)) rfl fun r12 w37 h hF=>zp2 rfl (qh (t:=21) hF rfl ?_ ?_))<;>intro hF
  ·refine X0 5 rfl ?_
   obtain rfl:=qb hF
   exact rG ⟨_,hK2,rfl,h⟩ rfl
  refine X1 3 0 h rfl (zcB h hF (qlZ (h.old ha2)) rfl fun r13 w38 h hF=>X0 4 rfl ?_)
  obtain rfl:=qb hF
  exact rG ⟨_,hK2,rfl,h⟩ rfl
 rintro e3 w39 ⟨b1,hF,rfl,h⟩
 subst hKF2
 refine qi rfl hF ?_ ?_<;>intro hF
 ·refine X0 5 rfl ?_
  obtain rfl:=qb hF
  exact qU qa (ρ:=(Bool × Int)) [GoT.v Bool [.bool false],GoT.v Int [.int .i64 1]] h ⟨rfl,rfl,trivial⟩ (PV.done h (qag h (qx (S:=fun _=>False) rfl) (qW (qx (S:=fun _=>False) rfl)) (by rfl)))
 refine zKSS ?_
 obtain ⟨KF1,hKF1,o1,hF,hK1⟩:=bindE hF
 refine qa0 (fun e w'=>∃ (b2:Bool),KF1 b2=some r∧e=[(2,.slice p6 a_2.length k6),(3,.slice p7 a_3.length k7),(4,.slice p8 a_4.length k8),(5,.slice p9 a_5.length k9),(6,.pointer (some ⟨bb1,0,none⟩)),(7,.pointer (some ⟨bb2,0,none⟩)),(36,.bool b2)]∧SH w w' [Ch.box bb2 (qaL a_1) 77,Ch.box bb1 (qZ a_0 p1 p2 p3 p4 p5 k1 k2 k3 k4 k5) 53]) ?_ ?_
 ·refine X1 3 1 h rfl (zcB h hF (qnl (h.old ha1) ⟨_,_,rfl,(h.oldS s8)⟩) rfl fun r10 w34 h hF=>zp2 rfl (qh (t:=30) hF rfl ?_ ?_))<;>intro hF
  ·refine X0 7 rfl ?_
   obtain rfl:=qb hF
   exact rG ⟨_,hK1,rfl,h⟩ rfl
  refine X0 7 rfl (zcB h hF (qlu ⟨_,_,rfl,(h.oldS s9)⟩) rfl fun r11 w35 h hF=>X0 4 rfl ?_)
  obtain rfl:=qb hF
  exact rG ⟨_,hK1,rfl,h⟩ rfl
 rintro e2 w36 ⟨b2,hF,rfl,h⟩
 subst hKF1
 refine qi rfl hF ?_ ?_<;>intro hF
 ·refine X0 5 rfl ?_
  obtain rfl:=qb hF
  exact qU qa (ρ:=(Bool × Int)) [GoT.v Bool [.bool false],GoT.v Int [.int .i64 2]] h ⟨rfl,rfl,trivial⟩ (PV.done h (qag h (qx (S:=fun _=>False) rfl) (qW (qx (S:=fun _=>False) rfl)) (by rfl)))
 refine X2 7 1 0 h rfl ?_
 obtain ⟨r1,hr1,hF⟩:=qc hF
 obtain ⟨r2,r3⟩:=r1
 refine qa8 (r2,r3) h (cB 72 rfl) (qp4 (h.old ha1) (h.old ha2) ⟨_,_,rfl,(h.oldS s6)⟩ ⟨_,_,rfl,(h.oldS s7)⟩ hr1) rfl rfl rfl rfl fun w3 S1 us1 hv1 hr2=>?_
 obtain ⟨S2,S3,p10,k10,us2,rfl,hv2,hr3⟩:=hv1.consL hr2
 obtain ⟨rfl,h⟩:=hv2.lastI hr3
 refine X0 12 rfl (qi rfl hF ?_ ?_)<;>intro hF
 ·refine X0 6 rfl ?_
  obtain rfl:=qb hF
  exact qU qa (ρ:=(Bool × Int)) [GoT.v Bool [.bool false],GoT.v Int [.int .i64 r3]] h ⟨rfl,rfl,trivial⟩ (PV.done h (qag h (qx (S:=fun _=>False) rfl) (qW (qx (S:=fun _=>False) rfl)) (by rfl)))
 refine zKS ?_
 obtain ⟨r4,hr5,hF⟩:=qc hF
 obtain ⟨r5,hr6,hF⟩:=qc hF
 obtain ⟨r6,r7⟩:=r5
 refine qa0 (fun e w'=>∃ (bb7:Nat) (S36:Nat→Prop) (p26:Option Addr) (k26:Nat) (S37:Nat→Prop) (p27:Option Addr) (k27:Nat) (S38:Nat→Prop) (p28:Option Addr) (k28:Nat),e=[(4,.slice p8 a_4.length k8),(5,.slice p9 a_5.length k9),(6,.pointer (some ⟨bb1,0,none⟩)),(16,.pointer (some ⟨bb7,0,none⟩)),(17,.bool r7)]∧SH w w' [Ch.box bb7 (qaI r6 p28 p27 p26 k28 k27 k26) 57,Ch.own S36 (r6.Av:List qd) [.slice p26 r6.Av.length k26],Ch.own S37 (r6.Af:List qd) [.slice p27 r6.Af.length k27],Ch.own S38 (r6.Au:List Bool) [.slice p28 r6.Au.length k28],Ch.box bb1 (qZ a_0 p1 p2 p3 p4 p5 k1 k2 k3 k4 k5) 53]) ?_ ?_
 ·refine rA [] [1,2] h rfl fun w8 h=>M3 383 [0,1,2,3,4,5,6,8] 1 0 1 (h.pick [1,2] rfl) rfl (At 7 13 511 8575 rfl ?_ ?_)
  ·refine qmq r4 h (cB 74 rfl) (qk8 (h.old ha1) ⟨_,_,rfl,(h.oldS s8)⟩ ⟨_,_,rfl,(h.oldS s9)⟩ hr5) rfl rfl rfl rfl fun w20 S39 p29 k29 h=>Ag (h.pick [2,3] rfl) (At 9 13 1023 8703 rfl ?_ ?_)
   ·refine qa8 (r6,r7) h (cB 73 rfl) (qkw (h.old ha1) (h.old ha2) ⟨_,_,rfl,(h.oldS s6)⟩ ⟨_,_,rfl,(h.oldS s7)⟩ (h.own 0 rfl) (h.own 1 rfl) hr6) rfl rfl rfl rfl fun w21 S40 us11 hv16 hr19=>?_
    obtain ⟨S41,S42,cs11,us12,rfl,hv17,hr20⟩:=hv16.cons hr19
    obtain ⟨p30,k30,p31,k31,p32,k32,rfl,-,-,-⟩:=qbC (hv17.sh.own 0 rfl)
    obtain ⟨rfl,h⟩:=hv17.lastB hr20
    obtain ⟨S44,S45,S46,h⟩:=qhO h
    refine G0 8191 [10,11,12] (h.pick [5,6] rfl) rfl (Ao 13 16383 rfl (qn qa h rfl rfl rfl fun w22 bb8 h=>Ag (h.pick [6,7] rfl) (Ao 14 32767 rfl (zs 0 h rfl fun w23 h=>G0 65535 [15] (h.pick [6,7] rfl) rfl (Ad ?_)))))
    replace h:=h.pick [0,1,2,3,7] rfl
    exact rG ⟨_,_,_,_,_,_,_,_,_,_,rfl,h⟩ rfl
   refine qn qa h rfl rfl rfl fun w24 bb9 h=>Ag (h.pick [3,4] rfl) (Ao 9 9215 rfl (qa8 (r6,r7) h (cB 73 rfl) (qkw (h.old ha1) (h.old ha2) ⟨_,_,rfl,(h.oldS s6)⟩ ⟨_,_,rfl,(h.oldS s7)⟩ (h.own 1 rfl) (h.own 2 rfl) hr6) rfl rfl rfl rfl fun w25 S47 us13 hv19 hr22=>?_))
   obtain ⟨S48,S49,cs12,us14,rfl,hv20,hr23⟩:=hv19.cons hr22
   obtain ⟨p33,k33,p34,k34,p35,k35,rfl,-,-,-⟩:=qbC (hv20.sh.own 0 rfl)
   obtain ⟨rfl,h⟩:=hv20.lastB hr23
   obtain ⟨S51,S52,S53,h⟩:=qhO h
   refine G0 16383 [10,11,12] (h.pick [6,7] rfl) rfl (Ao 14 32767 rfl (zs 3 h rfl fun w26 h=>G0 65535 [15] (h.pick [6,7] rfl) rfl (Ad ?_)))
   replace h:=h.pick [3,0,1,2,7] rfl
   exact rG ⟨_,_,_,_,_,_,_,_,_,_,rfl,h⟩ rfl
  refine qn qa h rfl rfl rfl fun w27 bb10 h=>Ag (h.pick [2,3] rfl) (Ao 7 8703 rfl (qmq r4 h (cB 74 rfl) (qk8 (h.old ha1) ⟨_,_,rfl,(h.oldS s8)⟩ ⟨_,_,rfl,(h.oldS s9)⟩ hr5) rfl rfl rfl rfl fun w28 S54 p36 k36 h=>Ag (h.pick [3,4] rfl) (Ao 9 9215 rfl (qa8 (r6,r7) h (cB 73 rfl) (qkw (h.old ha1) (h.old ha2) ⟨_,_,rfl,(h.oldS s6)⟩ ⟨_,_,rfl,(h.oldS s7)⟩ (h.own 0 rfl) (h.own 2 rfl) hr6) rfl rfl rfl rfl fun w29 S55 us15 hv22 hr25=>?_))))
  obtain ⟨S56,S57,cs13,us16,rfl,hv23,hr26⟩:=hv22.cons hr25
  obtain ⟨p37,k37,p38,k38,p39,k39,rfl,-,-,-⟩:=qbC (hv23.sh.own 0 rfl)
  obtain ⟨rfl,h⟩:=hv23.lastB hr26
  obtain ⟨S59,S60,S61,h⟩:=qhO h
  refine G0 16383 [10,11,12] (h.pick [6,7] rfl) rfl (Ao 14 32767 rfl (zs 4 h rfl fun w30 h=>G0 65535 [15] (h.pick [6,7] rfl) rfl (Ad ?_)))
  replace h:=h.pick [4,0,1,2,7] rfl
  exact rG ⟨_,_,_,_,_,_,_,_,_,_,rfl,h⟩ rfl
 rintro e1 w31 ⟨bb7,S36,p26,k26,S37,p27,k27,S38,p28,k28,rfl,h⟩
 refine X0 6 rfl (qi rfl hF ?_ ?_)<;>intro hF
 ·refine X0 5 rfl ?_
  obtain rfl:=qb hF
  exact qU qa (ρ:=(Bool × Int)) [GoT.v Bool [.bool false],GoT.v Int [.int .i64 3]] h ⟨rfl,rfl,trivial⟩ (PV.done h (qag h (qx (S:=fun _=>False) rfl) (qW (qx (S:=fun _=>False) rfl)) (by rfl)))
 refine X2 9 4 0 h rfl (zcL h hF (qoX (h.old ha1) ⟨[.slice p28 r6.Au.length k28],[.slice p27 r6.Af.length k27,.slice p26 r6.Av.length k26],rfl,(h.own 3 rfl),⟨[.slice p27 r6.Af.length k27],[.slice p26 r6.Av.length k26],rfl,(h.own 2 rfl),(h.own 1 rfl)⟩⟩ ⟨_,_,rfl,(h.oldS s8)⟩) rfl fun r8 w32 S62 p40 k40 h hF=>zcL h hF (qpd ⟨_,_,rfl,(h.oldS s9)⟩ (h.own 0 rfl)) rfl fun r9 w33 S63 p41 k41 h hF=>X0 7 rfl ?_)
 obtain rfl:=qb hF
 exact qU qa (ρ:=(Bool × Int)) [GoT.v Bool [.bool ((r9.length:Int)==(a_5.length:Int))],GoT.v Int [.int .i64 0]] h ⟨rfl,rfl,trivial⟩ (PV.done h (qag h (qx (S:=fun _=>False) rfl) (qW (qx (S:=fun _=>False) rfl)) (by rfl)))
def qey (_:Nat) (list:(List ql)):Option Int :=
 some (list.length:Int)
theorem qjW {list:(List ql)} (ha1:GoT.R w (old w) list cs1) {r:Int} (hF:qey n list=some r):RetV Tryz.prog 220 [GoT.v (List ql) cs1] w r:=by
 obtain ⟨p1,k1,rfl,s1⟩:=ha1
 exact zV 5 Tryz.func220 rfl fun h=>X0 10 rfl (ri h hF rfl)
def qjy (n:Nat) (list:(List ql)) (used:(List Int)):Option Bool :=
 (qey n list).bind fun r1 =>
 (qbT n used 0 (W64 (r1-1))).bind fun r2 =>
 bif r2 then
  (qdA n used).bind fun r3 =>
  some r3
 else
  some false
theorem qq9 {list:(List ql)} {used:(List Int)} (ha1:GoT.R w (old w) list cs1) (ha2:GoT.R w (old w) used cs2) {r:Bool} (hF:qjy n list used=some r):RetV Tryz.prog 155 [GoT.v (List ql) cs1,GoT.v (List Int) cs2] w r:=by
 obtain ⟨p1,k1,rfl,s1⟩:=ha1
 obtain ⟨p2,k2,rfl,s2⟩:=ha2
 refine zV 14 Tryz.func155 rfl fun h=>X0 8 rfl (zcI h hF (qjW ⟨_,_,rfl,(h.oldS s1)⟩) rfl fun r1 w1 h hF=>zp1 rfl (zcB h hF (qb4 ⟨_,_,rfl,(h.oldS s2)⟩) rfl fun r2 w2 h hF=>zp1 rfl (qh (t:=10) hF rfl ?_ ?_)))<;>intro hF
 ·exact X0 3 rfl (zcB h hF (qg1 ⟨_,_,rfl,(h.oldS s2)⟩) rfl fun r3 w3 h hF=>X0 3 rfl (rb h hF rfl))
 exact X0 5 rfl (rb h hF rfl)
def qhY (n:Nat) (b:qe) (c:qy) (broken:(List Int)) (sources:(List qg)) (list:(List ql)) (used:(List Int)):Option ((Option Tgraph) × (List Int) × Int) :=
 (
  (qfQ n b).bind fun r5 =>
  bif r5 then
   (qe9 n c).bind fun r6 =>
   bif r6 then
    (qco n b list).bind fun r7 =>
    bif (!r7) then some true else
    (qjy n list used).bind fun r8 =>
    some (!r8)
   else
    some false
  else
   some false).bind fun b1 =>
 bif b1 then some (none,[],2) else
 (qfx n b c broken sources none).bind fun o=>match o with
  | (r2,r3,r4) =>
   some (r2,r3,r4)
theorem qmg {n:Nat} {w:World} {b:qe} {c:qy} {broken:(List Int)} {sources:(List qg)} {list:(List ql)} {used:(List Int)} {cs1:List Value} (ha1:GoT.R w (old w) b cs1) {cs2:List Value} (ha2:GoT.R w (old w) c cs2) {cs3:List Value} (ha3:GoT.R w (old w) broken cs3) {cs4:List Value} (ha4:GoT.R w (old w) sources cs4) {cs5:List Value} (ha5:GoT.R w (old w) list cs5) {cs6:List Value} (ha6:GoT.R w (old w) used cs6) {r:((Option Tgraph) × (List Int) × Int)} (hF:qhY n b c broken sources list used=some r):RetZ Tryz.prog 77 [GoT.v qe cs1,GoT.v qy cs2,GoT.v (List Int) cs3,GoT.v (List qg) cs4,GoT.v (List ql) cs5,GoT.v (List Int) cs6] w (fun us L=>(∃ (ui1:Int),r=(none,[],ui1)∧us=[GoT.v (Option Tgraph) [.pointer none],GoT.v (List Int) [.slice none 0 0],GoT.v Int [.int .i64 ui1]]∧L=[])∨(∃ (uS1:Nat→Prop) (up2:Option Addr) (uln3:Nat) (uk4:Nat) (ux5:List Int) (ubb6:Nat) (uS7:Nat→Prop) (up8:Option Addr) (uln9:Nat) (uk10:Nat) (ux11:List Bool) (uS12:Nat→Prop) (up13:Option Addr) (uln14:Nat) (uk15:Nat) (ux16:List (List Int)) (uS17:Nat→Prop) (up18:Option Addr) (uln19:Nat) (uk20:Nat) (ux21:List Int) (uS22:Nat→Prop) (up23:Option Addr) (uln24:Nat) (uk25:Nat) (ux26:List qq) (ubb27:Nat) (uS28:Nat→Prop) (up29:Option Addr) (uln30:Nat) (uk31:Nat) (ux32:List Tplace),r=((some (⟨(some (⟨b,ux32,ux26,ux21,ux16,[]⟩:Tview)),ux11⟩:Tgraph)),ux5,0)∧us=[GoT.v (Option Tgraph) [.pointer (some ⟨ubb6,0,none⟩)],GoT.v (List Int) [.slice up2 uln3 uk4],GoT.v Int [.int .i64 0]]∧L=[Ch.own uS1 (ux5:List Int) [.slice up2 uln3 uk4],Ch.box ubb6 [.pointer (some ⟨ubb27,0,none⟩),.slice up8 uln9 uk10] 150,Ch.own uS7 (ux11:List Bool) [.slice up8 uln9 uk10],Ch.own uS12 (ux16:List (List Int)) [.slice up13 uln14 uk15],Ch.own uS17 (ux21:List Int) [.slice up18 uln19 uk20],Ch.own uS22 (ux26:List qq) [.slice up23 uln24 uk25],Ch.box ubb27 (cs1++[.slice up29 uln30 uk31,.slice up23 uln24 uk25,.slice up18 uln19 uk20,.slice up13 uln14 uk15,.slice none 0 0]) 155,Ch.own uS28 (ux32:List Tplace) [.slice up29 uln30 uk31]])):=by
 obtain ⟨p1,k1,p2,k2,p3,k3,p4,k4,p5,k5,rfl,s1,s2,s3,s4,s5⟩:=qD ha1
 obtain rfl:=qaz ha2
 obtain ⟨p6,k6,rfl,s6⟩:=ha3
 obtain ⟨p7,k7,rfl,s7⟩:=ha4
 obtain ⟨p8,k8,rfl,s8⟩:=ha5
 obtain ⟨p9,k9,rfl,s9⟩:=ha6
 refine qlz Tryz.func77 rfl (m:=41) rfl rfl (fun h=>?_)
 refine zSR (qt h rfl rfl fun w1 bb1 h=>qt h rfl rfl fun w2 bb2 h=>X0 6 rfl ?_)
 obtain ⟨KF1,hKF1,o1,hF,hK1⟩:=bindE hF
 refine qa0 (fun e w'=>∃ (b1:Bool),KF1 b1=some r∧e=[(2,.slice p6 broken.length k6),(3,.slice p7 sources.length k7),(6,.pointer (some ⟨bb1,0,none⟩)),(7,.pointer (some ⟨bb2,0,none⟩)),(32,.bool b1)]∧SH w w' [Ch.box bb2 (qaL c) 77,Ch.box bb1 (qZ b p1 p2 p3 p4 p5 k1 k2 k3 k4 k5) 53]) ?_ ?_
 ·refine X1 2 1 h rfl (zcB h hF (qmH (h.old ha1)) rfl fun r2 w4 h hF=>zp1 rfl (qh (t:=17) hF rfl ?_ ?_))<;>intro hF
  ·refine X1 3 0 h rfl (zcB h hF (qlV (h.old ha2)) rfl fun r3 w5 h hF=>zp2 rfl (qh (t:=21) hF rfl ?_ ?_))<;>intro hF
   ·refine X1 5 1 h rfl (zcB h hF (qkY (h.old ha1) ⟨_,_,rfl,(h.oldS s8)⟩) rfl fun r4 w6 h hF=>X0 4 rfl (qh (t:=26) hF rfl ?_ ?_))<;>intro hF
    ·refine X0 8 rfl ?_
     obtain rfl:=qb hF
     exact rG ⟨_,hK1,rfl,h⟩ rfl
    refine X0 5 rfl (zcB h hF (qq9 ⟨_,_,rfl,(h.oldS s8)⟩ ⟨_,_,rfl,(h.oldS s9)⟩) rfl fun r5 w7 h hF=>X0 6 rfl ?_)
    obtain rfl:=qb hF
    exact rG ⟨_,hK1,rfl,h⟩ rfl
   refine X0 12 rfl ?_
   obtain rfl:=qb hF
   exact rG ⟨_,hK1,rfl,h⟩ rfl
  refine X0 16 rfl ?_
  obtain rfl:=qb hF
  exact rG ⟨_,hK1,rfl,h⟩ rfl
 rintro e1 w8 ⟨b1,hF,rfl,h⟩
 subst hKF1
 refine qi rfl hF ?_ ?_<;>intro hF
 ·refine X0 6 rfl ?_
  obtain rfl:=qb hF
  replace h:=h.pick [] rfl
  exact qlG qa [GoT.v (Option Tgraph) [.pointer none],GoT.v (List Int) [.slice none 0 0],GoT.v Int [.int .i64 2]] h ⟨rfl,rfl,rfl,trivial⟩ (.inl ⟨2,rfl,rfl,rfl⟩)
 refine X2 7 1 0 h rfl ?_
 obtain ⟨r1,hr1,hF⟩:=qc hF
 refine qql (cB 88 rfl) (qns (h.old ha1) (h.old ha2) ⟨_,_,rfl,(h.oldS s6)⟩ ⟨_,_,rfl,(h.oldS s7)⟩ rfl hr1) rfl rfl rfl rfl ?_
 rintro w3 us1 L1 hs1 (⟨i1,rfl,rfl,rfl⟩|⟨S1,p10,ln1,k10,x1,bb3,S2,p11,ln2,k11,x2,S3,p12,ln3,k12,x3,S4,p13,ln4,k13,x4,S5,p14,ln5,k14,x5,bb4,S6,p15,ln6,k15,x6,rfl,rfl,rfl⟩)
 ·replace h:SH _ _ [Ch.box bb2 (qaL c) 77,Ch.box bb1 (qZ b p1 p2 p3 p4 p5 k1 k2 k3 k4 k5) 53]:=SH.appendN h hs1 (show NoD [] from trivial)
  refine X0 7 rfl ?_
  obtain rfl:=qb hF
  replace h:=h.pick [] rfl
  exact qlG qa [GoT.v (Option Tgraph) [.pointer none],GoT.v (List Int) [.slice none 0 0],GoT.v Int [.int .i64 i1]] h ⟨rfl,rfl,rfl,trivial⟩ (.inl ⟨i1,rfl,rfl,rfl⟩)
 replace h:SH _ _ [Ch.own S1 (x1:List Int) [.slice p10 ln1 k10],Ch.box bb3 [.pointer (some ⟨bb4,0,none⟩),.slice p11 ln2 k11] 150,Ch.own S2 (x2:List Bool) [.slice p11 ln2 k11],Ch.own S3 (x3:List (List Int)) [.slice p12 ln3 k12],Ch.own S4 (x4:List Int) [.slice p13 ln4 k13],Ch.own S5 (x5:List qq) [.slice p14 ln5 k14],Ch.box bb4 [.slice p1 b.Aq.Ap.length k1,.slice p2 b.Aa.Ab.length k2,.slice p3 b.Aa.Ai.length k3,.slice p4 b.Aa.Ah.length k4,.slice p5 b.Ac.length k5,.slice p15 ln6 k15,.slice p14 ln5 k14,.slice p13 ln4 k13,.slice p12 ln3 k12,.slice none 0 0] 155,Ch.own S6 (x6:List Tplace) [.slice p15 ln6 k15],Ch.box bb2 (qaL c) 77,Ch.box bb1 (qZ b p1 p2 p3 p4 p5 k1 k2 k3 k4 k5) 53]:=SH.appendN h hs1 ⟨fun _ h=>h,⟨fun _ h=>h,⟨fun _ h=>h,⟨fun _ h=>h,⟨fun _ h=>h,⟨fun _ h=>h,⟨fun _ h=>h,⟨fun _ h=>h,trivial⟩⟩⟩⟩⟩⟩⟩⟩
 obtain rfl:=(h.sl 0 rfl).2
 obtain rfl:=(h.sl 2 rfl).2
 obtain rfl:=(h.sl 3 rfl).2
 obtain rfl:=(h.sl 4 rfl).2
 obtain rfl:=(h.sl 5 rfl).2
 obtain rfl:=(h.sl 7 rfl).2
 refine X0 7 rfl ?_
 obtain rfl:=qb hF
 replace h:=h.pick [0,1,2,3,4,5,6,7] rfl
 exact qlG qa [GoT.v (Option Tgraph) [.pointer (some ⟨bb3,0,none⟩)],GoT.v (List Int) [.slice p10 x1.length k10],GoT.v Int [.int .i64 0]] h ⟨rfl,rfl,rfl,trivial⟩ (.inr ⟨S1,p10,x1.length,k10,x1,bb3,S2,p11,x2.length,k11,x2,S3,p12,x3.length,k12,x3,S4,p13,x4.length,k13,x4,S5,p14,x5.length,k14,x5,bb4,S6,p15,x6.length,k15,x6,rfl,rfl,rfl⟩)
def qbX (list:(List ql)) (used:(List Int)):Nat→(List Int)→Int→Option ((List Int) × Int)
 | 0,_,_=>none
 | n+1,x2,i1 =>
  bif decide (i1<(used.length:Int)) then
   (idx used i1).bind fun y1 =>
   (idx list y1).bind fun y2 =>
   (idx x2 y2.A).bind fun y3 =>
   (idx list y1).bind fun y4 =>
   (idx x2 y2.A).bind fun _ =>
   (idx list y1).bind fun y6 =>
   (idx (setS x2 y2.A (W64 (y3+y4.Bo))) y6.B).bind fun y7 =>
   (idx list y1).bind fun y8 =>
   (idx (setS x2 y2.A (W64 (y3+y4.Bo))) y6.B).bind fun _ =>
   qbX list used n (setS (setS x2 y2.A (W64 (y3+y4.Bo))) y6.B (W64 (y7+y8.Bo))) (W64 (i1+1))
  else
   some (x2,i1)
def qfh (n:Nat) (b:qe) (list:(List ql)) (used:(List Int)):Option (List Int) :=
 (mkS (b.Ac.length:Int) (0:Int)).bind fun x1 =>
 (qbX list used n x1 0).bind fun o=>match o with
 | (x2,_) =>
  some x2
theorem qmo {b:qe} {list:(List ql)} {used:(List Int)} (ha1:GoT.R w (old w) b cs1) (ha2:GoT.R w (old w) list cs2) (ha3:GoT.R w (old w) used cs3) {r:(List Int)} (hF:qfh n b list used=some r):RetV Tryz.prog 78 [GoT.v qe cs1,GoT.v (List ql) cs2,GoT.v (List Int) cs3] w r:=by
 obtain ⟨p1,k1,p2,k2,p3,k3,p4,k4,p5,k5,rfl,s1,s2,s3,s4,s5⟩:=qD ha1
 obtain ⟨p6,k6,rfl,s6⟩:=ha2
 obtain ⟨p7,k7,rfl,s7⟩:=ha3
 refine zV 52 Tryz.func78 rfl fun h=>zSR (qt h rfl rfl fun w1 bb1 h=>X1 7 0 h rfl ?_)
 obtain ⟨x1,hx1,hF⟩:=qc hF
 obtain ⟨g1,g2,hx1⟩:=qL hx1
 refine qah qa Int h rfl rfl rfl rfl rfl rfl rfl rfl rfl g1 g2 hx1 rfl fun w2 S1 p8 h=>X0 9 rfl ?_
 obtain ⟨o1,hF,hK1⟩:=qc hF
 refine qm ?_
 replace h:=h.pick [0] rfl
 refine rL (fun m e w'=>∃ (x2:(List Int)) (i1:Int),qbX list used m x2 i1=some o1∧e=[(1,.slice p6 list.length k6),(7,.slice p8 x1.length x1.length),(14,.slice p7 used.length k7),(15,.int .i64 (used.length:Int)),(16,.int .i64 i1)]∧SH w w' [Ch.own S1 (x2:List Int) [.slice p8 x1.length x1.length]]) n ⟨_,_,hF,rfl,h⟩ rfl ?_
 rintro m1 e1 w3 ⟨x2,i1,hF,rfl,h⟩
 rcases m1 with _|m1
 ·cases hF
 refine X0 5 rfl (qi rfl hF ?_ ?_)<;>intro hF
 ·refine zKSBSR ?_
  obtain ⟨y1,hy1,hF,he1,b1,_,q1,cs4,hp1,hq1,rfl,hc2⟩:=s7.ix hF
  refine zxe hp1 hq1 he1 rfl (zc 0 (hc2.below h.below) rfl (X0 3 rfl (rA [15] [0] h rfl fun w4 h=>M0 7 [0,1,2] (h.pick [0] rfl) rfl ?_)))
  obtain ⟨y2,hy2,hF,he2,b2,_,q2,cs5,hp2,hq2,hr2,hc3⟩:=s6.ix hF
  obtain rfl:=qaa hr2
  refine Ae 3 15 hp2 hq2 he2 (h.pick [0] rfl) rfl (M0 31 [4] (h.pick [0] rfl) rfl (Al 5 63 0 hc3 (h.pick [0] rfl) rfl ?_))
  obtain ⟨y3,hy3,hF,he3,b3,_,q3,cs6,hp3,hq3,rfl,hc4⟩:=(h.sl 0 rfl).1.ix hF
  refine Ax 6 127 hp3 hq3 ⟨he3.1,qK he3.2.1 (h.sl 0 rfl).2⟩ (h.pick [0] rfl) rfl (Aw 7 255 (fun w' hw=>qhq qa (qbz (w1:=w) (S1:=fun _=>False) hw 0 rfl hy3 hp3 hq3 rfl) (j:=0) rfl rfl rfl) (h.pick [0] rfl) rfl ?_)
  refine M0 1023 [8,9] (h.pick [0] rfl) rfl ?_
  obtain ⟨y4,hy4,hF,he4,b4,_,q4,cs7,hp4,hq4,hr4,hc5⟩:=s6.ix hF
  obtain rfl:=qaa hr4
  refine Ae 10 2047 hp4 hq4 he4 (h.pick [0] rfl) rfl (M0 4095 [11] (h.pick [0] rfl) rfl (Al 12 8191 2 hc5 (h.pick [0] rfl) rfl (M0 16383 [13] (h.pick [0] rfl) rfl ?_)))
  obtain ⟨y5,hy5,hF,he5,b5,_,q5,cs8,hp5,hq5,rfl,hc6⟩:=(h.sl 0 rfl).1.ix hF
  refine Ax 14 32767 hp5 hq5 ⟨he5.1,qK he5.2.1 (h.sl 0 rfl).2⟩ (h.pick [0] rfl) rfl (Ao 15 65535 rfl (qa7 qa 0 0 (W64 (y3+y4.Bo)) h rfl hy5 hp5 hq5 rfl hc6 rfl rfl rfl rfl rfl rfl rfl fun w5 h=>qbg (fun hs=>absurd (hs 15 (by decide)) (by decide)) (Ad (rA [15] [0] h rfl fun w6 h=>M0 7 [0,1,2] (h.pick [0] rfl) rfl ?_))))
  obtain ⟨y6,hy6,hF,he6,b6,_,q6,cs9,hp6,hq6,hr6,hc7⟩:=s6.ix hF
  obtain rfl:=qaa hr6
  refine Ae 3 15 hp6 hq6 he6 (h.pick [0] rfl) rfl (M0 31 [4] (h.pick [0] rfl) rfl (Al 5 63 1 hc7 (h.pick [0] rfl) rfl ?_))
  obtain ⟨y7,hy7,hF,he7,b7,_,q7,cs10,hp7,hq7,rfl,hc8⟩:=(h.sl 0 rfl).1.ix hF
  refine Ax 6 127 hp7 hq7 ⟨he7.1,qK he7.2.1 (h.sl 0 rfl).2⟩ (h.pick [0] rfl) rfl (Aw 7 255 (fun w' hw=>qhq qa (qbz (w1:=w) (S1:=fun _=>False) hw 0 rfl hy7 hp7 hq7 rfl) (j:=0) rfl rfl rfl) (h.pick [0] rfl) rfl ?_)
  refine M0 1023 [8,9] (h.pick [0] rfl) rfl ?_
  obtain ⟨y8,hy8,hF,he8,b8,_,q8,cs11,hp8,hq8,hr8,hc9⟩:=s6.ix hF
  obtain rfl:=qaa hr8
  refine Ae 10 2047 hp8 hq8 he8 (h.pick [0] rfl) rfl (M0 4095 [11] (h.pick [0] rfl) rfl (Al 12 8191 2 hc9 (h.pick [0] rfl) rfl (M0 16383 [13] (h.pick [0] rfl) rfl ?_)))
  obtain ⟨y9,hy9,hF,he9,b9,_,q9,cs12,hp9,hq9,rfl,hc10⟩:=(h.sl 0 rfl).1.ix hF
  exact Ax 14 32767 hp9 hq9 ⟨he9.1,qK he9.2.1 (h.sl 0 rfl).2⟩ (h.pick [0] rfl) rfl (Ao 15 65535 rfl (qa7 qa 0 0 (W64 (y7+y8.Bo)) h rfl hy9 hp9 hq9 rfl hc10 rfl rfl rfl rfl rfl rfl rfl fun w7 h=>qbg (fun hs=>absurd (hs 15 (by decide)) (by decide)) (Ad (X0 5 rfl (rK ⟨_,_,hF,rfl,h⟩ rfl)))))
 refine qr rfl ?_
 obtain rfl:=qb hF;replace hF:=hK1
 refine X0 5 rfl ?_
 obtain rfl:=qb hF
 exact rO 0 h rfl ⟨rfl,trivial⟩
def qca (s:(List Int)) (v:Int):Nat→Int→Option (Flow Int Int)
 | 0,_=>none
 | n+1,i1 =>
  bif decide (i1<(s.length:Int)) then
   (idx s i1).bind fun y1 =>
   bif (v==y1) then some (.ret i1) else
   qca s v n (W64 (i1+1))
  else
   some (.nxt i1)
def qh2 (n:Nat) (s:(List Int)) (v:Int):Option Int :=
 (qca s v n 0).bind fun o=>match o with
 | .ret r=>some r
 | .nxt _ =>
  some (-1)
theorem qmT {s:(List Int)} {v:Int} (ha1:GoT.R w (old w) s cs1) {r:Int} (hF:qh2 n s v=some r):RetV Tryz.prog 160 [GoT.v (List Int) cs1,.int .i64 v] w r:=by
 obtain ⟨p1,k1,rfl,s1⟩:=ha1
 refine zV 19 Tryz.func160 rfl fun h=>X0 11 rfl ?_
 obtain ⟨o1,hF,hK1⟩:=qc hF
 refine qm (rL (fun m e w'=>∃ (i1:Int),qca s v m i1=some o1∧e=[(0,.slice p1 s.length k1),(1,.int .i64 v),(7,.int .i64 (s.length:Int)),(8,.int .i64 i1)]∧SH w w' []) n ⟨_,hF,rfl,h⟩ rfl ?_)
 rintro m1 e1 w1 ⟨i1,hF,rfl,h⟩
 rcases m1 with _|m1
 ·cases hF
 refine X0 5 rfl (qi rfl hF ?_ ?_)<;>intro hF
 ·refine X0 13 rfl ?_
  obtain ⟨y1,hy1,hF,he1,b1,_,q1,cs2,hp1,hq1,rfl,hc2⟩:=s1.ix hF
  refine zxe hp1 hq1 he1 rfl (zc 0 (hc2.below h.below) rfl (X0 2 rfl (qi rfl hF ?_ ?_)))<;>intro hF
  ·refine X0 5 rfl ?_
   obtain rfl:=qb hF;replace hF:=hK1
   exact ri h hF rfl
  exact X0 6 rfl (rK ⟨_,hF,rfl,h⟩ rfl)
 refine qr rfl ?_
 obtain rfl:=qb hF;replace hF:=hK1
 exact X0 4 rfl (ri h hF rfl)
def qeu (n:Nat) (s:(List Int)) (v:Int):Option Bool :=
 (qh2 n s v).bind fun r1 =>
 some (decide (r1 ≥ 0))
theorem qlD {s:(List Int)} {v:Int} (ha1:GoT.R w (old w) s cs1) {r:Bool} (hF:qeu n s v=some r):RetV Tryz.prog 82 [GoT.v (List Int) cs1,.int .i64 v] w r:=by
 obtain ⟨p1,k1,rfl,s1⟩:=ha1
 exact zV 9 Tryz.func82 rfl fun h=>X0 8 rfl (zcI h hF (qmT ⟨_,_,rfl,(h.oldS s1)⟩) rfl fun r1 w1 h hF=>X0 3 rfl (rb h hF rfl))
def qhm (n:Nat) (i:Int) (v0:(List Int)):Option Bool :=
 (qeu n v0 i).bind fun r1 =>
 some (!r1)
theorem qnR {i:Int} {v0:(List Int)} {p1:Option Addr} (ha1:GoT.R w (old w) (some v0) [.pointer p1]) {r:Bool} (hF:qhm n i v0=some r):RetV Tryz.prog 81 [.int .i64 i,.pointer p1] w r:=by
 obtain ⟨b1,o_1,cs1,rfl,-,hr1,hc1⟩:=PtR.get ha1 rfl
 obtain ⟨p2,k1,rfl,s1⟩:=hr1
 exact zV 8 Tryz.func81 rfl fun h=>X0 6 rfl (zc 0 (hc1.below h.below) rfl (zp1 rfl (zcB h hF (qlD ⟨_,_,rfl,(h.oldS s1)⟩) rfl fun r1 w1 h hF=>X0 3 rfl (rb h hF rfl))))
def qad (s:(List Int)) (f_0:(List Int)):Nat→Int→Option (Flow Int Int)
 | 0,_=>none
 | n+1,i1 =>
  bif decide (i1<(s.length:Int)) then
   (idx s i1).bind fun y1 =>
   (qhm n y1 f_0).bind fun r1 =>
   bif r1 then some (.ret i1) else
   qad s f_0 n (W64 (i1+1))
  else
   some (.nxt i1)
def qaV (n:Nat) (s:(List Int)) (f_0:(List Int)):Option Int :=
 (qad s f_0 n 0).bind fun o=>match o with
 | .ret r=>some r
 | .nxt _ =>
  some (-1)
theorem qfM {s:(List Int)} {f_0:(List Int)} (ha1:GoT.R w (old w) s cs1) {p2:Option Addr} (ha2:GoT.R w (old w) (some f_0) [.pointer p2]) {r:Int} (hF:qaV n s f_0=some r):RetV Tryz.prog 159 [GoT.v (List Int) cs1,.func (.func 81) #[] #[.pointer p2]] w r:=by
 obtain ⟨p1,k1,rfl,s1⟩:=ha1
 obtain ⟨b1,o_1,cs2,rfl,-,hr1,hc1⟩:=PtR.get ha2 rfl
 obtain ⟨p3,k2,rfl,s2⟩:=hr1
 refine zV 19 Tryz.func159 rfl fun h=>X0 11 rfl ?_
 obtain ⟨o1,hF,hK1⟩:=qc hF
 refine qm (rL (fun m e w'=>∃ (i1:Int),qad s f_0 m i1=some o1∧e=[(0,.slice p1 s.length k1),(1,.func (.func 81) #[] #[.pointer (some ⟨b1,o_1,none⟩)]),(7,.int .i64 (s.length:Int)),(8,.int .i64 i1)]∧SH w w' []) n ⟨_,hF,rfl,h⟩ rfl ?_)
 rintro m1 e1 w1 ⟨i1,hF,rfl,h⟩
 rcases m1 with _|m1
 ·cases hF
 refine X0 5 rfl (qi rfl hF ?_ ?_)<;>intro hF
 ·refine X0 13 rfl ?_
  obtain ⟨y1,hy1,hF,he1,b2,_,q1,cs3,hp1,hq1,rfl,hc3⟩:=s1.ix hF
  refine zxe hp1 hq1 he1 rfl (zc 0 (hc3.below h.below) rfl (zcB h hF (qnR (h.old ha2)) rfl fun r1 w2 h hF=>qcr (qi rfl hF ?_ ?_)))<;>intro hF
  ·refine X0 5 rfl ?_
   obtain rfl:=qb hF;replace hF:=hK1
   exact ri h hF rfl
  exact X0 6 rfl (rK ⟨_,hF,rfl,h⟩ rfl)
 refine qr rfl ?_
 obtain rfl:=qb hF;replace hF:=hK1
 exact X0 4 rfl (ri h hF rfl)
def qaJ (n:Nat) (s:(List Int)) (f_0:(List Int)):Option Bool :=
 (qaV n s f_0).bind fun r1 =>
 some (decide (r1 ≥ 0))
theorem qff {s:(List Int)} {f_0:(List Int)} (ha1:GoT.R w (old w) s cs1) {p2:Option Addr} (ha2:GoT.R w (old w) (some f_0) [.pointer p2]) {r:Bool} (hF:qaJ n s f_0=some r):RetV Tryz.prog 80 [GoT.v (List Int) cs1,.func (.func 81) #[] #[.pointer p2]] w r:=by
 obtain ⟨p1,k1,rfl,s1⟩:=ha1
 obtain ⟨b1,o_1,cs2,rfl,-,hr1,hc1⟩:=PtR.get ha2 rfl
 obtain ⟨p3,k2,rfl,s2⟩:=hr1
 exact zV 9 Tryz.func80 rfl fun h=>X0 8 rfl (zcI h hF (qfM ⟨_,_,rfl,(h.oldS s1)⟩ (h.old ha2)) rfl fun r1 w1 h hF=>X0 3 rfl (rb h hF rfl))
def qiz (n:Nat) (b:qe) (c:qy) (broken:(List Int)) (sources:(List qg)) (list:(List ql)) (used:(List Int)):Option (Bool × Int) :=
 (qhY n b c broken sources list used).bind fun o=>match o with
  | (none,_,i1) =>
   (bif (i1 != 0) then
    some (false,i1)
   else
    none)
  | (some (⟨some (⟨_,x6,x5,x4,x3,_⟩),x2⟩),x1,_) =>
   ((qfh n b list used).bind fun r2 =>
   (qdr n (some (⟨(some (⟨(⟨(⟨b.Aq.Ap⟩:qv),(⟨b.Aa.Ab,b.Aa.Ai,b.Aa.Ah⟩:qf),b.Ac⟩:qe),x6,x5,x4,x3,r2⟩:Tview)),x2⟩:Tgraph)) c sources x1).bind fun o=>match o with
    | (r4,r5) =>
     bif (!r5) then some (false,3) else
     (qhn n (some (⟨(⟨(⟨b.Aq.Ap⟩:qv),(⟨b.Aa.Ab,b.Aa.Ai,b.Aa.Ah⟩:qf),b.Ac⟩:qe),x6,x5,x4,x3,r2⟩:Tview)) r4 list).bind fun r6 =>
     (qaJ n r6 used).bind fun r7 =>
     some ((!r7),0))
  | _=>none
theorem qoN {b:qe} {c:qy} {broken:(List Int)} {sources:(List qg)} {list:(List ql)} {used:(List Int)} (ha1:GoT.R w (old w) b cs1) (ha2:GoT.R w (old w) c cs2) (ha3:GoT.R w (old w) broken cs3) (ha4:GoT.R w (old w) sources cs4) (ha5:GoT.R w (old w) list cs5) (ha6:GoT.R w (old w) used cs6) {r:(Bool × Int)} (hF:qiz n b c broken sources list used=some r):RetV Tryz.prog 30 [GoT.v qe cs1,GoT.v qy cs2,GoT.v (List Int) cs3,GoT.v (List qg) cs4,GoT.v (List ql) cs5,GoT.v (List Int) cs6] w r:=by
 obtain ⟨p1,k1,p2,k2,p3,k3,p4,k4,p5,k5,rfl,s1,s2,s3,s4,s5⟩:=qD ha1
 obtain rfl:=qaz ha2
 obtain ⟨p6,k6,rfl,s6⟩:=ha3
 obtain ⟨p7,k7,rfl,s7⟩:=ha4
 obtain ⟨p8,k8,rfl,s8⟩:=ha5
 obtain ⟨p9,k9,rfl,s9⟩:=ha6
 refine zV 63 Tryz.func30 rfl fun h=>zSR (qt h rfl rfl fun w1 bb1 h=>qt h rfl rfl fun w2 bb2 h=>qt h rfl rfl fun w3 bb3 h=>X3 11 2 1 0 h rfl ?_)
 obtain ⟨r1,hr1,hF⟩:=qc hF
 refine qql (cB 77 rfl) (qmg (h.old ha1) (h.old ha2) ⟨_,_,rfl,(h.oldS s6)⟩ ⟨_,_,rfl,(h.oldS s7)⟩ ⟨_,_,rfl,(h.oldS s8)⟩ ⟨_,_,rfl,(h.oldS s9)⟩ hr1) rfl rfl rfl rfl ?_
 rintro w4 us1 L1 hs1 (⟨i1,rfl,rfl,rfl⟩|⟨S1,p10,ln1,k10,x1,bb4,S2,p11,ln2,k11,x2,S3,p12,ln3,k12,x3,S4,p13,ln4,k13,x4,S5,p14,ln5,k14,x5,bb5,S6,p15,ln6,k15,x6,rfl,rfl,rfl⟩)
 ·replace h:SH _ _ [Ch.box bb3 [.slice p9 used.length k9] 41,Ch.box bb2 (qaL c) 77,Ch.box bb1 (qZ b p1 p2 p3 p4 p5 k1 k2 k3 k4 k5) 53]:=SH.appendN h hs1 (show NoD [] from trivial)
  refine X0 14 rfl (qi rfl hF ?_ ?_)<;>intro hF
  ·refine X0 6 rfl ?_
   obtain rfl:=qb hF
   exact qU qa (ρ:=(Bool × Int)) [GoT.v Bool [.bool false],GoT.v Int [.int .i64 i1]] h ⟨rfl,rfl,trivial⟩ (PV.done h (qag h (qx (S:=fun _=>False) rfl) (qW (qx (S:=fun _=>False) rfl)) (by rfl)))
  refine zKS (rA [] [] h rfl fun w5 h=>M0 1 [0] (h.pick [] rfl) rfl ?_)
  cases hF
 replace h:SH _ _ [Ch.own S1 (x1:List Int) [.slice p10 ln1 k10],Ch.box bb4 [.pointer (some ⟨bb5,0,none⟩),.slice p11 ln2 k11] 150,Ch.own S2 (x2:List Bool) [.slice p11 ln2 k11],Ch.own S3 (x3:List (List Int)) [.slice p12 ln3 k12],Ch.own S4 (x4:List Int) [.slice p13 ln4 k13],Ch.own S5 (x5:List qq) [.slice p14 ln5 k14],Ch.box bb5 [.slice p1 b.Aq.Ap.length k1,.slice p2 b.Aa.Ab.length k2,.slice p3 b.Aa.Ai.length k3,.slice p4 b.Aa.Ah.length k4,.slice p5 b.Ac.length k5,.slice p15 ln6 k15,.slice p14 ln5 k14,.slice p13 ln4 k13,.slice p12 ln3 k12,.slice none 0 0] 155,Ch.own S6 (x6:List Tplace) [.slice p15 ln6 k15],Ch.box bb3 [.slice p9 used.length k9] 41,Ch.box bb2 (qaL c) 77,Ch.box bb1 (qZ b p1 p2 p3 p4 p5 k1 k2 k3 k4 k5) 53]:=SH.appendN h hs1 ⟨fun _ h=>h,⟨fun _ h=>h,⟨fun _ h=>h,⟨fun _ h=>h,⟨fun _ h=>h,⟨fun _ h=>h,⟨fun _ h=>h,⟨fun _ h=>h,trivial⟩⟩⟩⟩⟩⟩⟩⟩
 obtain rfl:=(h.sl 0 rfl).2
 obtain rfl:=(h.sl 2 rfl).2
 obtain rfl:=(h.sl 3 rfl).2
 obtain rfl:=(h.sl 4 rfl).2
 obtain rfl:=(h.sl 5 rfl).2
 obtain rfl:=(h.sl 7 rfl).2
 refine X0 14 rfl (qbE rfl rfl (zKS (rA [] [1,8,10] h rfl fun w6 h=>M3 127 [0,1,2,3,4,5,6] 0 2 1 (h.pick [1,8,10] rfl) rfl (Ao 7 255 rfl (zcL h hF (qmo (h.old ha1) ⟨_,_,rfl,(h.oldS s8)⟩ ⟨_,_,rfl,(h.oldS s9)⟩) rfl fun r2 w7 S7 p16 k16 h hF=>G0 1023 [8,9] (h.pick [2,9,11] rfl) rfl (Ao 10 2047 rfl (zs 7 h rfl fun w8 h=>Ag (h.pick [2,9,11] rfl) (Ad (X1 6 10 h rfl ?_)))))))))
 obtain ⟨r3,hr3,hF⟩:=qc hF
 obtain ⟨r4,r5⟩:=r3
 refine qa8 (r4,r5) h (cB 79 rfl) (ql6 (qcp (x:=(⟨(some (⟨(⟨(⟨b.Aq.Ap⟩:qv),(⟨b.Aa.Ab,b.Aa.Ai,b.Aa.Ah⟩:qf),b.Ac⟩:qe),x6,x5,x4,x3,r2⟩:Tview)),x2⟩:Tgraph)) 2 h rfl (⟨[.pointer (some ⟨bb5,0,none⟩)],[.slice p11 x2.length k11],rfl,(qcp (x:=(⟨(⟨(⟨b.Aq.Ap⟩:qv),(⟨b.Aa.Ab,b.Aa.Ai,b.Aa.Ah⟩:qf),b.Ac⟩:qe),x6,x5,x4,x3,r2⟩:Tview)) 7 h rfl (⟨[.slice p1 b.Aq.Ap.length k1,.slice p2 b.Aa.Ab.length k2,.slice p3 b.Aa.Ai.length k3,.slice p4 b.Aa.Ah.length k4,.slice p5 b.Ac.length k5],[.slice p15 x6.length k15,.slice p14 x5.length k14,.slice p13 x4.length k13,.slice p12 x3.length k12,.slice p16 r2.length k16],rfl,⟨[.slice p1 b.Aq.Ap.length k1],[.slice p2 b.Aa.Ab.length k2,.slice p3 b.Aa.Ai.length k3,.slice p4 b.Aa.Ah.length k4,.slice p5 b.Ac.length k5],rfl,⟨_,_,rfl,(h.oldS s1)⟩,⟨[.slice p2 b.Aa.Ab.length k2,.slice p3 b.Aa.Ai.length k3,.slice p4 b.Aa.Ah.length k4],[.slice p5 b.Ac.length k5],rfl,⟨[.slice p2 b.Aa.Ab.length k2],[.slice p3 b.Aa.Ai.length k3,.slice p4 b.Aa.Ah.length k4],rfl,⟨_,_,rfl,(h.oldS s2)⟩,⟨[.slice p3 b.Aa.Ai.length k3],[.slice p4 b.Aa.Ah.length k4],rfl,⟨_,_,rfl,(h.oldS s3)⟩,⟨_,_,rfl,(h.oldS s4)⟩⟩⟩,⟨_,_,rfl,(h.oldS s5)⟩⟩⟩,⟨[.slice p15 x6.length k15],[.slice p14 x5.length k14,.slice p13 x4.length k13,.slice p12 x3.length k12,.slice p16 r2.length k16],rfl,(h.own 8 rfl),⟨[.slice p14 x5.length k14],[.slice p13 x4.length k13,.slice p12 x3.length k12,.slice p16 r2.length k16],rfl,(h.own 6 rfl),⟨[.slice p13 x4.length k13],[.slice p12 x3.length k12,.slice p16 r2.length k16],rfl,(h.own 5 rfl),⟨[.slice p12 x3.length k12],[.slice p16 r2.length k16],rfl,(h.own 4 rfl),(h.own 0 rfl)⟩⟩⟩⟩⟩)),(h.own 3 rfl)⟩)) (h.old ha2) ⟨_,_,rfl,(h.oldS s7)⟩ (h.own 1 rfl) hr3) rfl rfl rfl rfl fun w9 S8 us2 hv1 hr4=>?_
 obtain ⟨S9,S10,cs7,us3,rfl,hv2,hr5⟩:=hv1.cons hr4
 obtain ⟨p17,k17,p18,k18,p19,k19,rfl,-,-,-⟩:=qbC (hv2.sh.own 0 rfl)
 obtain ⟨rfl,h⟩:=hv2.lastB hr5
 refine zp3 rfl (qn qa h rfl rfl rfl fun w10 bb6 h=>zs 0 h rfl fun w11 h=>X0 8 rfl (qi rfl hF ?_ ?_))<;>intro hF
 ·refine X0 5 rfl ?_
  obtain rfl:=qb hF
  exact qU qa (ρ:=(Bool × Int)) [GoT.v Bool [.bool false],GoT.v Int [.int .i64 3]] h ⟨rfl,rfl,trivial⟩ (PV.done h (qag h (qx (S:=fun _=>False) rfl) (qW (qx (S:=fun _=>False) rfl)) (by rfl)))
 refine zKS (rA [] [0,4] h rfl fun w12 h=>M2 191 [0,1,2,3,4,5,7] 1 0 (h.pick [0,4] rfl) rfl (Ao 6 255 rfl (zcL h hF (qnV (qcp (x:=(⟨(⟨(⟨b.Aq.Ap⟩:qv),(⟨b.Aa.Ab,b.Aa.Ai,b.Aa.Ah⟩:qf),b.Ac⟩:qe),x6,x5,x4,x3,r2⟩:Tview)) 9 h rfl (⟨[.slice p1 b.Aq.Ap.length k1,.slice p2 b.Aa.Ab.length k2,.slice p3 b.Aa.Ai.length k3,.slice p4 b.Aa.Ah.length k4,.slice p5 b.Ac.length k5],[.slice p15 x6.length k15,.slice p14 x5.length k14,.slice p13 x4.length k13,.slice p12 x3.length k12,.slice p16 r2.length k16],rfl,⟨[.slice p1 b.Aq.Ap.length k1],[.slice p2 b.Aa.Ab.length k2,.slice p3 b.Aa.Ai.length k3,.slice p4 b.Aa.Ah.length k4,.slice p5 b.Ac.length k5],rfl,⟨_,_,rfl,(h.oldS s1)⟩,⟨[.slice p2 b.Aa.Ab.length k2,.slice p3 b.Aa.Ai.length k3,.slice p4 b.Aa.Ah.length k4],[.slice p5 b.Ac.length k5],rfl,⟨[.slice p2 b.Aa.Ab.length k2],[.slice p3 b.Aa.Ai.length k3,.slice p4 b.Aa.Ah.length k4],rfl,⟨_,_,rfl,(h.oldS s2)⟩,⟨[.slice p3 b.Aa.Ai.length k3],[.slice p4 b.Aa.Ah.length k4],rfl,⟨_,_,rfl,(h.oldS s3)⟩,⟨_,_,rfl,(h.oldS s4)⟩⟩⟩,⟨_,_,rfl,(h.oldS s5)⟩⟩⟩,⟨[.slice p15 x6.length k15],[.slice p14 x5.length k14,.slice p13 x4.length k13,.slice p12 x3.length k12,.slice p16 r2.length k16],rfl,(h.own 10 rfl),⟨[.slice p14 x5.length k14],[.slice p13 x4.length k13,.slice p12 x3.length k12,.slice p16 r2.length k16],rfl,(h.own 8 rfl),⟨[.slice p13 x4.length k13],[.slice p12 x3.length k12,.slice p16 r2.length k16],rfl,(h.own 7 rfl),⟨[.slice p12 x3.length k12],[.slice p16 r2.length k16],rfl,(h.own 6 rfl),(h.own 2 rfl)⟩⟩⟩⟩⟩)) (h.own 1 rfl) ⟨_,_,rfl,(h.oldS s8)⟩) rfl fun r6 w13 S12 p20 k20 h hF=>Ag (h.pick [1,5] rfl) (Ao 8 511 rfl (zcB h hF (qff (h.own 0 rfl) (qcp (x:=used) 12 h rfl (⟨_,_,rfl,(h.oldS s9)⟩))) rfl fun r7 w14 h hF=>G0 4095 [9,10,11] (h.pick [1,5] rfl) rfl (Ad ?_))))))
 obtain rfl:=qb hF
 exact qU qa (ρ:=(Bool × Int)) [GoT.v Bool [.bool (!r7)],GoT.v Int [.int .i64 0]] h ⟨rfl,rfl,trivial⟩ (PV.done h (qag h (qx (S:=fun _=>False) rfl) (qW (qx (S:=fun _=>False) rfl)) (by rfl)))
end Go.Fw


namespace Go.Fw
open Go Go.Proofs
open Go.RowKit (Below)
set_option maxRecDepth 100000
set_option maxHeartbeats 1600000
variable {n:Nat} {w:World} {cs1 cs2 cs3 cs4 cs5 cs6 cs7 cs8 cs9:List Value}
end Go.Fw


namespace Go.Fw
open Go Go.Proofs
open Go.RowKit (Below)
set_option maxRecDepth 100000
set_option maxHeartbeats 1600000
variable {n:Nat} {w:World} {cs1 cs2 cs3 cs4 cs5 cs6 cs7 cs8 cs9:List Value}
def qjb (_:Nat) (a:(List ql)) (left:Int):Option Int :=
 bif decide ((W64 (left-(a.length:Int)))<0) then some (-1) else
 some (W64 (left-(a.length:Int)))
theorem qn0 {a:(List ql)} {left:Int} (ha1:GoT.R w (old w) a cs1) {r:Int} (hF:qjb n a left=some r):RetV Tryz.prog 9 [GoT.v (List ql) cs1,.int .i64 left] w r:=by
 obtain ⟨p1,k1,rfl,s1⟩:=ha1
 refine zV 12 Tryz.func9 rfl fun h=>X0 18 rfl (qi rfl hF ?_ ?_)<;>intro hF
 ·exact X0 4 rfl (ri h hF rfl)
 exact X0 6 rfl (ri h hF rfl)
def qgd (_:Nat) (a:ql):Option ql :=
 some (⟨a.A,a.B,a.Bo⟩:ql)
theorem qn9 {a:ql} (ha1:GoT.R w (old w) a cs1) {r:ql} (hF:qgd n a=some r):RetV Tryz.prog 54 [GoT.v ql cs1] w r:=by
 obtain rfl:=qaa ha1
 refine zV 14 Tryz.func54 rfl fun h=>zSR (qt h rfl rfl fun w1 bb1 h=>qn qa h rfl rfl rfl fun w2 bb2 h=>zNSR (qn qa h rfl rfl rfl fun w3 bb3 h=>X1 6 2 h rfl (zs 0 h rfl fun w4 h=>X1 6 2 h rfl (zs 0 h rfl fun w5 h=>X1 6 2 h rfl (zs 0 h rfl fun w6 h=>X1 4 0 h rfl (zs 1 h rfl fun w7 h=>qcr ?_))))))
 obtain rfl:=qb hF
 exact qU qa (ρ:=ql) [GoT.v ql (qjJ a)] h ⟨⟨_,_,_,rfl,rfl,h.box 1 rfl,rfl⟩,trivial⟩ (PV.done h (qW (qx (S:=fun _=>False) (qgk (⟨a.A,a.B,a.Bo⟩:ql)))))
def qdS (a:(List ql)):Nat→(List ql)→Int→Option ((List ql) × Int)
 | 0,_,_=>none
 | n+1,x2,i1 =>
  bif decide (i1<(a.length:Int)) then
   (idx a i1).bind fun y1 =>
   (qgd n y1).bind fun r1 =>
   (idx x2 i1).bind fun _ =>
   qdS a n (setS x2 i1 r1) (W64 (i1+1))
  else
   some (x2,i1)
def qeh (n:Nat) (a:(List ql)):Option (List ql) :=
 (mkS (a.length:Int) ((⟨0,0,0⟩:ql):ql)).bind fun x1 =>
 (qdS a n x1 0).bind fun o=>match o with
 | (x2,_) =>
  some x2
theorem qhz {a:(List ql)} (ha1:GoT.R w (old w) a cs1) {r:(List ql)} (hF:qeh n a=some r):RetV Tryz.prog 13 [GoT.v (List ql) cs1] w r:=by
 obtain ⟨p1,k1,rfl,s1⟩:=ha1
 refine zV 23 Tryz.func13 rfl fun h=>X0 8 rfl ?_
 obtain ⟨x1,hx1,hF⟩:=qc hF
 obtain ⟨g1,g2,hx1⟩:=qL hx1
 refine qah qa ql h rfl rfl rfl rfl rfl rfl rfl rfl rfl g1 g2 hx1 rfl fun w1 S1 p2 h=>X0 7 rfl ?_
 obtain ⟨o1,hF,hK1⟩:=qc hF
 refine qm (rL (fun m e w'=>∃ (x2:(List ql)) (i1:Int),qdS a m x2 i1=some o1∧e=[(0,.slice p1 a.length k1),(3,.slice p2 x1.length x1.length),(4,.int .i64 i1)]∧SH w w' [Ch.own S1 (x2:List ql) [.slice p2 x1.length x1.length]]) n ⟨_,_,hF,rfl,h⟩ rfl ?_)
 rintro m1 e1 w2 ⟨x2,i1,hF,rfl,h⟩
 rcases m1 with _|m1
 ·cases hF
 refine X0 8 rfl (qi rfl hF ?_ ?_)<;>intro hF
 ·refine X0 8 rfl ?_
  obtain ⟨y1,hy1,hF,he1,b1,_,q1,cs2,hp1,hq1,hr1,hc2⟩:=s1.ix hF
  obtain rfl:=qaa hr1
  refine zxe hp1 hq1 he1 rfl (zc 0 (hc2.below h.below) rfl (zcO h hF (qn9 (qgk y1)) rfl fun r1 w3 S2 cs3 h hF=>?_))
  obtain rfl:=qaa (h.own 0 rfl)
  obtain ⟨y2,hy2,hF,he2,b2,_,q2,cs4,hp2,hq2,hr3,hc3⟩:=(h.sl 1 rfl).1.ix hF
  obtain rfl:=qaa hr3
  refine zx hp2 hq2 ⟨he2.1,qK he2.2.1 (h.sl 1 rfl).2⟩ rfl (qa7 qa 1 0 r1 h rfl hy2 hp2 hq2 (qgk y2) hc3 rfl rfl rfl (qgk r1) rfl rfl rfl fun w4 h=>X0 7 rfl ?_)
  replace h:=h.pick [1] rfl
  exact rK ⟨_,_,hF,rfl,h⟩ rfl
 refine qr rfl ?_
 obtain rfl:=qb hF;replace hF:=hK1
 refine X0 5 rfl ?_
 obtain rfl:=qb hF
 exact rO 0 h rfl ⟨rfl,trivial⟩
def qf9 (_:Nat) (a:ql) (b:ql):Option Bool :=
 bif (a.A != b.A) then some false else
 bif (a.B != b.B) then some false else
 bif (a.Bo != b.Bo) then some false else
 some true
theorem qoh {a:ql} {b:ql} (ha1:GoT.R w (old w) a cs1) (ha2:GoT.R w (old w) b cs2) {r:Bool} (hF:qf9 n a b=some r):RetV Tryz.prog 63 [GoT.v ql cs1,GoT.v ql cs2] w r:=by
 obtain rfl:=qaa ha1
 obtain rfl:=qaa ha2
 refine zV 20 Tryz.func63 rfl fun h=>zSR (qt h rfl rfl fun w1 bb1 h=>qt h rfl rfl fun w2 bb2 h=>X2 11 1 0 h rfl (qi rfl hF ?_ ?_))<;>intro hF
 ·exact X0 4 rfl (rb h hF rfl)
 refine X2 10 1 0 h rfl (qi rfl hF ?_ ?_)<;>intro hF
 ·exact X0 4 rfl (rb h hF rfl)
 refine X2 10 1 0 h rfl (qi rfl hF ?_ ?_)<;>intro hF
 ·exact X0 4 rfl (rb h hF rfl)
 exact X0 5 rfl (rb h hF rfl)
def qdV (a:(List ql)) (b:(List ql)):Nat→Int→Option (Flow Bool Int)
 | 0,_=>none
 | n+1,i1 =>
  bif decide (i1<(a.length:Int)) then
   (idx a i1).bind fun y1 =>
   (idx b i1).bind fun y2 =>
   (qf9 n y1 y2).bind fun r1 =>
   bif (!r1) then some (.ret false) else
   qdV a b n (W64 (i1+1))
  else
   some (.nxt i1)
def qho (n:Nat) (a:(List ql)) (b:(List ql)):Option Bool :=
 bif ((a.length:Int) != (b.length:Int)) then some false else
 (qdV a b n 0).bind fun o=>match o with
 | .ret r=>some r
 | .nxt _ =>
  some true
theorem qn1 {a:(List ql)} {b:(List ql)} (ha1:GoT.R w (old w) a cs1) (ha2:GoT.R w (old w) b cs2) {r:Bool} (hF:qho n a b=some r):RetV Tryz.prog 18 [GoT.v (List ql) cs1,GoT.v (List ql) cs2] w r:=by
 obtain ⟨p1,k1,rfl,s1⟩:=ha1
 obtain ⟨p2,k2,rfl,s2⟩:=ha2
 refine zV 27 Tryz.func18 rfl fun h=>X0 13 rfl (qi rfl hF ?_ ?_)<;>intro hF
 ·exact X0 4 rfl (rb h hF rfl)
 refine X0 6 rfl ?_
 obtain ⟨o1,hF,hK1⟩:=qc hF
 refine qm (rL (fun m e w'=>∃ (i1:Int),qdV a b m i1=some o1∧e=[(0,.slice p1 a.length k1),(1,.slice p2 b.length k2),(5,.int .i64 i1)]∧SH w w' []) n ⟨_,hF,rfl,h⟩ rfl ?_)
 rintro m1 e1 w1 ⟨i1,hF,rfl,h⟩
 rcases m1 with _|m1
 ·cases hF
 refine X0 8 rfl (qi rfl hF ?_ ?_)<;>intro hF
 ·refine X0 4 rfl (rD (zd2 rfl ?_))
  obtain ⟨y1,hy1,hF,he1,b1,_,q1,cs3,hp1,hq1,hr1,hc3⟩:=s1.ix hF
  obtain rfl:=qaa hr1
  refine zdxe hp1 hq1 he1 rfl (zdc 0 (hc3.below h.below) rfl (zd2 rfl ?_))
  obtain ⟨y2,hy2,hF,he2,b2,_,q2,cs4,hp2,hq2,hr2,hc4⟩:=s2.ix hF
  obtain rfl:=qaa hr2
  refine zdxe hp2 hq2 he2 rfl (zdc 0 (hc4.below h.below) rfl ?_)
  obtain ⟨r1,hr3,hF⟩:=qc hF
  refine qbj r1 (vsB _) (cB 63 rfl) (fun _ hb=>qoh (qgk y1) (qgk y2) hr3) rfl rfl rfl rfl (zd1 rfl (dN h fun w2 h=>qi rfl hF ?_ ?_))<;>intro hF
  ·refine X0 4 rfl ?_
   obtain rfl:=qb hF;replace hF:=hK1
   exact rb h hF rfl
  exact X0 7 rfl (rK ⟨_,hF,rfl,h⟩ rfl)
 refine qr rfl ?_
 obtain rfl:=qb hF;replace hF:=hK1
 exact X0 4 rfl (rb h hF rfl)
end Go.Fw


namespace Go.Fw
open Go
def qhe (x:ql):Prop:=rngI x.A∧rngI x.B∧rngI x.Bo
structure qpI (x:ql):Prop where
 A:okI x.A
 B:okI x.B
 Bo:okI x.Bo
theorem qrC {x:ql} (h:qhe x):qpI x:=⟨h.1,h.2.1,h.2.2⟩
theorem qtH {a:ql}:Ev (fun n=>qf9 n a a) true:=by
 unfold qf9
 exact Ev.ff qbb (Ev.ff qbb (Ev.ff qbb (.done)))
def qfI (a:(List ql)):Nat:=a.length
theorem qqH {a:(List ql)} (h:(rngL qhe) a) (w:qfI a≤1048576):(okL qpI) a :=
 ⟨by simp only [qfI] at w;omega,fun x hx=>qrC (h.2 x hx)⟩
theorem qsz {a:(List ql)} (h:qfI a≤1048576):Ev (fun n=>qho n a a) true:=by
 have hl:a.length≤1048576:=by simp only [qfI] at h;omega
 unfold qho
 exact Ev.ff (by simp) (Ev.bind (b:=.nxt (a.length:Int)) (qiE (eqf:=qf9) (fun x hx=>qtH)
  (fun n=>by simp only [qdV,qk (je _),cond_false])
  (fun n j x hx=>by
   have hj:=(List.getElem?_eq_some_iff.1 hx).1
   simp only [qdV,qj hj,cond_true,qaq hx,jd,wS j])) .done)
structure qwL (x:qo5):Prop where
 Cc:okI x.Cc
 Cb:okI x.Cb
structure qs0 (x:qiX):Prop where
 Be:okI x.Be
 To:okI x.To
 Bl:okI x.Bl
 Ca:okI x.Ca
structure qwc (x:qov):Prop where
 Bz:(okL qwL) x.Bz
 Cd:(okL qs0) x.Cd
def qox (x:qd):Prop:=rngI x.Aj∧rngI x.Ar
structure qon (x:qd):Prop where
 Aj:okI x.Aj
 Ar:okI x.Ar
theorem qr5 {x:qd} (h:qox x):qon x:=⟨h.1,h.2⟩
def qi4 (x:qg):Prop:=rngI x.Bk∧qox x.Af∧qox x.Av
structure qr1 (x:qg):Prop where
 Bk:okI x.Bk
 Af:qon x.Af
 Av:qon x.Av
theorem qtO {x:qg} (h:qi4 x):qr1 x:=⟨h.1,qr5 (h.2.1),qr5 (h.2.2)⟩
theorem quT {a:qd}:Ev (fun n=>qjr n a a) true:=by
 unfold qjr
 exact Ev.ff qbb (Ev.ff qbb (.done))
theorem qvT {a:qg}:Ev (fun n=>qhD n a a) true:=by
 unfold qhD
 exact Ev.ff qbb (Ev.bind (quT (a:=a.Af)) (Ev.ff rfl (Ev.bind (quT (a:=a.Av)) (Ev.ff rfl (.done)))))
def qh5 (a:(List qg)):Nat:=a.length
theorem qsL {a:(List qg)} (h:(rngL qi4) a) (w:qh5 a≤1048576):(okL qr1) a :=
 ⟨by simp only [qh5] at w;omega,fun x hx=>qtO (h.2 x hx)⟩
theorem qum {a:(List qg)} (h:qh5 a≤1048576):Ev (fun n=>qiH n a a) true:=by
 have hl:a.length≤1048576:=by simp only [qh5] at h;omega
 unfold qiH
 exact Ev.ff (by simp) (Ev.bind (b:=.nxt (a.length:Int)) (qiE (eqf:=qhD) (fun x hx=>qvT)
  (fun n=>by simp only [qeM,qk (je _),cond_false])
  (fun n j x hx=>by
   have hj:=(List.getElem?_eq_some_iff.1 hx).1
   simp only [qeM,qj hj,cond_true,qaq hx,jd,wS j])) .done)
structure qy8 (x:qz):Prop where
 Au:(okL okT) x.Au
 Af:(okL qon) x.Af
 Av:(okL qon) x.Av
def qmr (x:qy):Prop:=rngS x.Az∧rngI x.Bb∧rngI x.Bf∧rngI x.Bd∧rngI x.Bg
def qlR (x:qy):Nat:=x.Az.size
structure qvq (x:qy):Prop where
 Az:okS x.Az
 Bb:okI x.Bb
 Bf:okI x.Bf
 Bd:okI x.Bd
 Bg:okI x.Bg
theorem qtr {x:qy} (h:qmr x) (w:qlR x≤1048576):qvq x:=⟨(by unfold okS;simp only [qlR] at w;omega),h.2.1,h.2.2.1,h.2.2.2.1,h.2.2.2.2⟩
theorem qvx {a:qy} {left:Int} (h:qmr a) (h0:0≤left) (h1:left≤1048576):Sz (fun n=>qjj n a left) (fun r=>r=left-(qlR a:Int)):=by
 unfold qjj
 obtain ⟨h_0,h_1,h_2,h_3,h_4⟩:=h
 exact Sz.strStep h_0 (by omega) (by omega) fun p0 q0=>Sz.done p0 (by simp only [qlR];omega)
theorem qsq {a:(List ql)} {left:Int} (h:(rngL qhe) a) (h0:0≤left) (h1:left≤1048576):Sz (fun n=>qjb n a left) (fun r=>r=left-(qfI a:Int)) :=
 Sz.less h0 h1 (by omega) (by have:=h.1;omega) (fun _=>rfl)
theorem quw {a:(List qg)} {left:Int} (h:(rngL qi4) a) (h0:0≤left) (h1:left≤1048576):Sz (fun n=>qkG n a left) (fun r=>r=left-(qh5 a:Int)) :=
 Sz.less h0 h1 (by omega) (by have:=h.1;omega) (fun _=>rfl)
theorem qrX {a:qy} (_:qlR a≤1048576):Ev (fun n=>qhC n a) a:=by
 unfold qhC
 exact .done
theorem qs5 {a:ql}:Ev (fun n=>qgd n a) a:=by
 unfold qgd
 exact .done
theorem qmu {a:(List ql)} (h:qfI a≤1048576):Ev (fun n=>qeh n a) a:=by
 have hl:a.length≤1048576:=by simp only [qfI] at h;omega
 unfold qeh
 exact Ev.bindN (qhR (by omega)) (Ev.bind (b:=(a,(a.length:Int))) (qii (cp:=qgd) (fun x hx=>qs5)
  (fun acc n=>by simp only [qdS,qk (je _),cond_false])
  (fun acc n j x y hx hy=>by
   have hj:=(List.getElem?_eq_some_iff.1 hx).1
   simp only [qdS,qj hj,cond_true,qaq hx,qaq hy,jd,wS j])) .done)
theorem qu4 {a:qd}:Ev (fun n=>qjG n a) a:=by
 unfold qjG
 exact .done
theorem qvN {a:qg}:Ev (fun n=>qhH n a) a:=by
 unfold qhH
 exact Ev.bind (qu4 (a:=a.Af)) (Ev.bind (qu4 (a:=a.Av)) (.done))
theorem qoi {a:(List qg)} (h:qh5 a≤1048576):Ev (fun n=>qfE n a) a:=by
 have hl:a.length≤1048576:=by simp only [qh5] at h;omega
 unfold qfE
 exact Ev.bindN (qhR (by omega)) (Ev.bind (b:=(a,(a.length:Int))) (qii (cp:=qhH) (fun x hx=>qvN)
  (fun acc n=>by simp only [qeN,qk (je _),cond_false])
  (fun acc n j x y hx hy=>by
   have hj:=(List.getElem?_eq_some_iff.1 hx).1
   simp only [qeN,qj hj,cond_true,qaq hx,qaq hy,jd,wS j])) .done)
end Go.Fw


namespace Go.Fw
open Go
set_option maxRecDepth 100000
abbrev lkB (b:qe):Nat:=(linksL b).length
abbrev ndB (b:qe):Nat:=2*(places b.Aa).length
abbrev lvJ (b:qe) (br:List Int):List Bool:=lvB br (lkB b)
def grB (b:qe) (br:List Int):Option Tgraph:=some ⟨some (viewV b),lvJ b br⟩
structure TgOk (b:qe) (c:qy) (br:List Int) (xs:List qg) (R:List Nat):Prop where
 bl:blockB b=true
 co:cornerB c=true
 br_:brB br (lkB b)=true
 sr:srcB xs (ndB b)=true
 or_:ordL (linksL b) (lvJ b br) (ndB b) (ndB b) []=some R
theorem TgOk.ord {b:qe} {c:qy} {br:List Int} {xs:List qg} {R:List Nat} (h:TgOk b c br xs R):OrdOk (lkB b) (frL (linksL b)) (toL (linksL b)) (lvL (lvJ b br)) (ndB b) R :=
 qxt (ndB b) [] R (fun l1 k l2 e=>by cases l1<;>cases e) h.or_
theorem TgOk.len {b:qe} {c:qy} {br:List Int} {xs:List qg} {R:List Nat} (h:TgOk b c br xs R):R.length=ndB b:=by
 have:=qwS (ndB b) [] R h.or_
 simpa using this
theorem quV {x:Int} (h:x ≠ 0):(x != 0)=true:=by simpa using h
theorem qzf {b:qe} {c:qy} {br:List Int} {xs:List qg} (hb:qkT b) (hc:okS c.Az) (hbl:br.length≤1048576) (hxl:xs.length≤1048576) :
  (∃ code:Int,code ≠ 0∧Ev (fun n=>qfR n b c br xs) ([],code)∧Ev (fun n=>qfx n b c br xs none) (none,[],code)) ∨
  ∃ R,TgOk b c br xs R∧Ev (fun n=>qfR n b c br xs) (ints R,0)∧Ev (fun n=>qfx n b c br xs none) (grB b br,ints R,0):=by
 have s1:=qls hb
 have i1:=qrj hb
 have s2:=qmh (c:=c) hc
 have i2:=qpQ (c:=c) hc
 unfold qfR qfx
 cases h1:blockB b
 ·rw [h1] at s1 i1
  exact .inl ⟨1,by omega,Ev.bind (b:=true) (Ev.bind s1 (Ev.tt rfl .done)) (Ev.tt rfl .done),Ev.bind (b:=true) (Ev.bind i1 (Ev.tt rfl .done)) (Ev.tt rfl .done)⟩
 cases h2:cornerB c
 ·rw [h1] at s1 i1
  rw [h2] at s2 i2
  exact .inl ⟨1,by omega,Ev.bind (b:=true) (Ev.bind s1 (Ev.ff rfl (Ev.bind s2 .done))) (Ev.tt rfl .done),Ev.bind (b:=true) (Ev.bind i1 (Ev.ff rfl (Ev.bind i2 .done))) (Ev.tt rfl .done)⟩
 have hpl:=qbi (qab (qat h1))
 have hll:=qmc h1
 have hk:=qnG h1
 have s3:=quq (br:=br) hb h1 hbl
 have i3:=qtY (v:=viewV b) (br:=br) hbl hll
 have s4:=qru (xs:=xs) h1 hxl
 have i4:=qrp (v:=viewV b) (xs:=xs) hpl hxl
 have ev:(viewV b).links=linksL b:=rfl
 have ep:(viewV b).places=places b.Aa:=rfl
 rw [ev] at i3
 rw [ep] at i4
 rw [h1] at s1 i1
 rw [h2] at s2 i2
 have sA:Ev (fun n=>(qeT n b).bind fun r6=>bif (!r6) then some true else (qfa n c).bind fun r7=>some (!r7)) false:=Ev.bind s1 (Ev.ff rfl (Ev.bind s2 .done))
 have iA:Ev (fun n=>(qfQ n b).bind fun r6=>bif (!r6) then some true else (qe9 n c).bind fun r7=>some (!r7)) false:=Ev.bind i1 (Ev.ff rfl (Ev.bind i2 .done))
 have nv:=quF h1
 cases h3:brB br (lkB b)
 ·rw [h3] at s3 i3
  exact .inl ⟨2,by omega,Ev.bind sA (Ev.ff rfl (Ev.bind (b:=true) (Ev.bind s3 (Ev.tt rfl .done)) (Ev.tt rfl .done))),
   Ev.bind iA (Ev.ff rfl (Ev.bind nv (Ev.bind (b:=false) (Ev.ff rfl .done) (Ev.ff rfl (Ev.bind (b:=true) (Ev.bind i3 (Ev.tt rfl .done)) (Ev.tt rfl .done))))))⟩
 cases h4:srcB xs (ndB b)
 ·rw [h3] at s3 i3
  rw [h4] at s4 i4
  exact .inl ⟨2,by omega,Ev.bind sA (Ev.ff rfl (Ev.bind (b:=true) (Ev.bind s3 (Ev.ff rfl (Ev.bind s4 .done))) (Ev.tt rfl .done))),
   Ev.bind iA (Ev.ff rfl (Ev.bind nv (Ev.bind (b:=false) (Ev.ff rfl .done) (Ev.ff rfl (Ev.bind (b:=true) (Ev.bind i3 (Ev.ff rfl (Ev.bind i4 .done))) (Ev.tt rfl .done))))))⟩
 have i5:=quz (v:=viewV b) (br:=br) hll h3
 rw [ev] at i5
 have s5:=qqK (ls:=linksL b) (br:=br) hll hbl
 have hlv:(lvJ b br).length=lkB b:=qsF
 have s6:=qvY (lv:=lvJ b br) hk hlv
 have i6:=qvO (b:=b) (ps:=places b.Aa) (lo:=pre (load0 b) b.Ac.length) (de:=pre (exactL b) b.Ac.length) (ex:=[]) (lv:=lvJ b br) hk hlv rfl
 rw [h3] at s3 i3
 rw [h4] at s4 i4
 have sB:Ev (fun n=>(qhd n b br).bind fun r4=>bif (r4 != 0) then some true else (qf3 n b xs).bind fun r5=>some (!r5)) false:=Ev.bind s3 (Ev.ff rfl (Ev.bind s4 .done))
 have iB:Ev (fun n=>(qej n (some (viewV b)) br).bind fun r6=>bif (!r6) then some true else (qdn n (some (viewV b)) xs).bind fun r7=>some (!r7)) false:=Ev.bind i3 (Ev.ff rfl (Ev.bind i4 .done))
 have sT:∀ r:List Int × Int,Ev (fun n=>(qhA n (ndB b:Int) (linksL b) (lvJ b br)).bind fun o=>match o with|(r6,r7)=>bif (!r7) then some (([]:List Int),(7:Int)) else some (r6,0)) r→Ev (fun n=>qet n b br) r:=fun r hr=>by
  unfold qet
  exact Ev.bind s3 (Ev.ff rfl (Ev.bind (qnq h1) (Ev.bind (qnz h1) (Ev.bind s5 hr))))
 cases ho:ordL (linksL b) (lvJ b br) (ndB b) (ndB b) [] with
 | none =>
  have e:ordR (linksL b) (lvJ b br) (ndB b)=([],false):=by unfold ordR;rw [ho]
  rw [e] at s6 i6
  exact .inl ⟨7,by omega,Ev.bind sA (Ev.ff rfl (Ev.bind sB (Ev.ff rfl (Ev.bind (sT ([],7) (Ev.bind s6 (Ev.tt rfl .done))) .done)))),
   Ev.bind iA (Ev.ff rfl (Ev.bind nv (Ev.bind (b:=false) (Ev.ff rfl .done) (Ev.ff rfl (Ev.bind iB (Ev.ff rfl (Ev.bind i5 (Ev.bind i6 (Ev.tt rfl .done)))))))))⟩
 | some R =>
  have e:ordR (linksL b) (lvJ b br) (ndB b)=(ints R,true):=by unfold ordR;rw [ho]
  rw [e] at s6 i6
  exact .inr ⟨R,⟨h1,h2,h3,h4,ho⟩,Ev.bind sA (Ev.ff rfl (Ev.bind sB (Ev.ff rfl (Ev.bind (sT (ints R,0) (Ev.bind s6 (Ev.ff rfl .done))) .done)))),
   Ev.bind iA (Ev.ff rfl (Ev.bind nv (Ev.bind (b:=false) (Ev.ff rfl .done) (Ev.ff rfl (Ev.bind iB (Ev.ff rfl (Ev.bind i5 (Ev.bind i6 (Ev.ff rfl .done)))))))))⟩
end Go.Fw


namespace Go.Fw
open Go
set_option maxRecDepth 100000
theorem qt4 (x:Int):W64 x=(x+9223372036854775808) % 18446744073709551616-9223372036854775808:=by
 unfold W64
 rw [Go.IntWalk.i64_left]
 unfold RowKit.wrap64
 rfl
theorem quQ {a d e:Int}:W64 (W64 (a+d)-e)=W64 (a+W64 (d-e)):=by
 simp only [qt4];omega
theorem qvr {a d e:Int}:W64 (W64 (a+d)+e)=W64 (a+W64 (d+e)):=by
 simp only [qt4];omega
theorem qrY {x:Int}:W64 (W64 x)=W64 x:=by
 simp only [qt4];omega
section
variable {b:qe} {c:qy} {ex:List Int} {f:Nat→qd→qd × qd} {lv:List Bool} {t:qz} {xs:List qg} {node:Int}
theorem qx5 {xs:List qg} {node:Int} (h:SrcOk xs) :
  Ev (fun n=>qdI xs node n 0 0 0 0 0 false 0) ((srcV (srcO xs node)).2.Bk,(srcV (srcO xs node)).2.Af.Aj,(srcV (srcO xs node)).2.Af.Ar,(srcV (srcO xs node)).2.Av.Aj,(srcV (srcO xs node)).2.Av.Ar,(srcV (srcO xs node)).1,(xs.length:Int)):=by
 have e:∀ n i1 i2 i3 i4 i5 b1 i6,qdI xs node n i1 i2 i3 i4 i5 b1 i6=qcT xs node n i1 i2 i3 i4 i5 b1 i6:=by
  intro n
  induction n with
  | zero=>intros;rfl
  | succ n ih=>intros;simp only [qdI,qcT,ih]
 simp only [e]
 exact qxy h
theorem qwo (h:blockB b=true) (hex:ex.length=b.Ac.length) {k:Nat} (hk:k<(linksL b).length) {q:qd × qd} (hq:q=f k (gt t.Av (frN (linksL b) k))) (a:qd) :
  ∃ e:Int,Ev (fun n=>bif ((gt (linksL b) k).As==2) then (qgP n b (gt (linksL b) k)).bind fun r4=>(idx ex r4).bind fun y18=>some y18 else some 0) e ∧
   (⟨W64 (W64 (a.Aj+q.1.Aj)-e),W64 (W64 (a.Ar+q.1.Ar)+e)⟩:qd)=plusS a (wideF b ex f k (gt t.Av (frN (linksL b) k))).1∧q.2=(wideF b ex f k (gt t.Av (frN (linksL b) k))).2:=by
 subst hq
 obtain ⟨hcs,_,hT⟩:=qgI h (qlJ hk)
 unfold wideF exK
 rcases hcs with ⟨i,j,m,net,y,hx⟩|⟨j,net,y,hx⟩
 ·have hkd:((gt (linksL b) k).As==2)=false:=by rw [hx.kind];rfl
  rw [hkd,Bool.and_false]
  refine ⟨0,.done,?_,rfl⟩
  unfold plusS
  simp only [Int.sub_zero,Jd,cond_false]
  rw [qrY,qrY]
 ·have hkd:((gt (linksL b) k).As==2)=true:=by rw [hx.kind];rfl
  have hlt:net<ex.length:=by have:=hx.nl;omega
  have hpl:=qbi (qab (qat h))
  have ej:((gt (linksL b) k).To / 2).toNat=j:=by
   have:=hx.half
   rw [jF hT.1,qau (by omega) (by omega)] at this
   omega
  rw [hkd,decide_eq_true (show 0<ex.length by omega),Bool.and_true,ej,hx.net_,jn]
  refine ⟨gt ex net,Ev.bind (qpj h hx) ?_,?_,rfl⟩
  ·rw [qA hlt];exact .done
  ·simp only [cond_true]
   unfold plusS wideS
   rw [quQ,qvr]
theorem qwN (h:blockB b=true) (hf:SpansS b c f) (hex:ex.length=b.Ac.length) (hl:lv.length=(linksL b).length) (ht:TmOk t (2*(places b.Aa).length)) (hx:SrcOk xs) :
  Ev (fun n=>qiB n b c (linksL b) lv xs ex t node) (ndS (wideF b ex f) (linksL b) lv t node (srcV (srcO xs node)) (linksL b).length):=by
 have hk:=qnG h
 have hkl:=hk.len
 obtain ⟨g,hg⟩:∃ g,g=wideF b ex f:=⟨_,rfl⟩
 have hL:=loopF (τ:=Bool × qg) (Lf:=fun n s j=>qcW b c (linksL b) lv ex t node n s.2.Bk s.2.Af.Aj s.2.Af.Ar s.2.Av.Aj s.2.Av.Ar s.1 j) (S:=fun j=>ndS g (linksL b) lv t node (srcV (srcO xs node)) j) (len:=(linksL b).length)
  (fin:=(fun s:Bool × qg=>(s.2.Bk,s.2.Af.Aj,s.2.Af.Ar,s.2.Av.Aj,s.2.Av.Ar,s.1,((linksL b).length:Int))) (ndS g (linksL b) lv t node (srcV (srcO xs node)) (linksL b).length))
  (fun n=>by simp only [qcW,qk (je _),cond_false])
  (fun j hj X hX=>by
   obtain ⟨e1,e2⟩:=qux hk hj
   have eN:ndS g (linksL b) lv t node (srcV (srcO xs node)) (j+1)=bif toQ (linksL b) lv node j then stepS g (linksL b) t node (ndS g (linksL b) lv t node (srcV (srcO xs node)) j) j else ndS g (linksL b) lv t node (srcV (srcO xs node)) j:=rfl
   rw [eN] at hX
   generalize ndS g (linksL b) lv t node (srcV (srcO xs node)) j=s at hX ⊢
   simp only [qcW,qj hj,cond_true,qA hj,qA (show j<lv.length by omega),jd,e1,qA (show frN (linksL b) j<t.Au.length by rw [ht.r];exact e2),qA (show frN (linksL b) j<t.Af.length by rw [ht.a];exact e2),qA (show frN (linksL b) j<t.Av.length by rw [ht.s];exact e2),wS j]
   unfold toQ lvL toL at hX
   cases h1:gt lv j
   ·rw [h1] at hX;exact hX
   rw [h1,jx] at hX
   cases h2:(gt (linksL b) j).To==node
   ·rw [h2] at hX
    simp only [bne,h2]
    exact hX
   rw [h2] at hX
   simp only [bne,h2]
   unfold stepS at hX
   cases h3:gt t.Au (frN (linksL b) j)
   ·rw [h3] at hX;exact hX
   rw [h3] at hX
   simp only [cond_true] at hX
   obtain ⟨_,s1⟩:=hf j _ hj (ht.sl _ e2)
   obtain ⟨q,hq⟩:∃ q,q=f j (gt t.Av (frN (linksL b) j)):=⟨_,rfl⟩
   obtain ⟨e,x1,x2,x3⟩:=qwo h hex hj hq (gt t.Af (frN (linksL b) j))
   rw [←hq] at s1
   rw [←hg] at x2 x3
   rw [←x2,←x3] at hX
   refine Ev.bind (b:=false) (Ev.now rfl) (Ev.ff rfl (Ev.bind s1 (Ev.bind x1 ?_)))
   unfold joinS at hX
   cases h4:s.1
   ·rw [h4] at hX;exact hX
   ·rw [h4] at hX
    simp only [qim,jd,cond_true]
    have a1:=qrK (s:=s.2.Af) (t:=(⟨W64 (W64 ((gt t.Af (frN (linksL b) j)).Aj+q.1.Aj)-e),W64 (W64 ((gt t.Af (frN (linksL b) j)).Ar+q.1.Ar)+e)⟩:qd))
    have a2:=qrK (s:=s.2.Av) (t:=q.2)
    simp only [cond_true] at hX
    rw [←a1,←a2] at hX
    exact hX)
 rw [←hg]
 unfold qiB
 exact Ev.bind (qx5 hx) (Ev.bind hL .done)
theorem qxA {br:List Int} (h:blockB b=true) (hf:SpansS b c f) (hex:ex.length=b.Ac.length) (hbl:br.length≤1048576) (hx:SrcOk xs) {R:List Nat} (hR:∀ k,k ∈ R→k<2*(places b.Aa).length) (hRl:R.length≤1000) :
  Ev (fun n=>qjw n b c br xs ex (ints R)) (runR (rnO (wideF b ex f) (linksL b) (lvJ b br) xs R (zTm (2*(places b.Aa).length)))):=by
 have hpl:=qbi (qab (qat h))
 have hcn:=qnz h
 have hll:=qmc h
 have s5:=qqK (ls:=linksL b) (br:=br) hll hbl
 have hl:(lvJ b br).length=(linksL b).length:=qsF
 have hwf:∀ k s,(wideF b ex f k s).2=(f k s).2:=fun k s=>by
  unfold wideF
  cases decide (0<ex.length)&&((gt (linksL b) k).As==2)<;>rfl
 obtain ⟨M,eM⟩:∃ M,M=2*(places b.Aa).length:=⟨_,rfl⟩
 have hM:M≤156:=by omega
 have main:∀ d j t,j+d=R.length→TmOk t M→Ev (fun n=>qcc b c xs ex (ints R) (linksL b) (lvJ b br) n t.Av t.Af t.Au (j:Int)) (runL (rnO (wideF b ex f) (linksL b) (lvJ b br) xs (R.drop j) t) R.length):=by
  intro d
  induction d with
  | zero =>
   intro j t hj ht
   obtain rfl:j=R.length:=by omega
   rw [List.drop_length]
   refine Ev.succ ?_
   simp only [qcc,qc1,qk (je _),cond_false]
   exact .done
  | succ d ih =>
   intro j t hj ht
   have hjl:j<R.length:=by omega
   have k1:=hR _ (jp hjl)
   have hi:=qoL hjl
   have hd:R.drop j=R[j]::R.drop (j+1):=jM hjl
   generalize R[j]=k at k1 hi hd
   rw [←eM] at k1
   have hs:=qwN (node:=(k:Int)) h hf hex hl (by rw [←eM];exact ht) hx
   have hsl:=qo2 (node:=(k:Int)) (lv:=lvJ b br) h hf hwf (by rw [←eM];exact ht) hx (linksL b).length (je _)
   have ir:idx t.Au (k:Int)=some (gt t.Au k):=qA (by rw [ht.r];exact k1)
   have ia:idx t.Af (k:Int)=some (gt t.Af k):=qA (by rw [ht.a];exact k1)
   have is:idx t.Av (k:Int)=some (gt t.Av k):=qA (by rw [ht.s];exact k1)
   have stp:∀ n,qcc b c xs ex (ints R) (linksL b) (lvJ b br) (n+1) t.Av t.Af t.Au (j:Int)=(qiB n b c (linksL b) (lvJ b br) xs ex t (k:Int)).bind fun o=>match o with
    | (r4,r5)=>bif (!r4) then qcc b c xs ex (ints R) (linksL b) (lvJ b br) n t.Av t.Af t.Au ((j+1:Nat):Int) else bif (!spanB r5.Af) then some (.ret (zT,false)) else
     qcc b c xs ex (ints R) (linksL b) (lvJ b br) n (setS t.Av (k:Int) r5.Av) (setS t.Af (k:Int) r5.Af) (setS t.Au (k:Int) true) ((j+1:Nat):Int):=fun n=>by
    simp only [qcc,qc1,qj hjl,cond_true,hi,jd,qq2,ir,ia,is,wS j]
    rfl
   rw [hd]
   unfold rnO
   generalize ndS (wideF b ex f) (linksL b) (lvJ b br) t (k:Int) (srcV (srcO xs (k:Int))) (linksL b).length=s at hs hsl ⊢
   obtain ⟨s1,s2⟩:=s
   cases s1
   ·exact Ev.step stp (Ev.bind hs (ih (j+1) t (by omega) ht))
   ·cases hsp:spanB s2.Af
    ·refine Ev.step stp (Ev.bind hs ?_)
     simp only [hsp];exact .done
    ·refine Ev.step stp (Ev.bind hs ?_)
     simp only [hsp]
     exact ih (j+1) (setT t k (true,s2)) (by omega) (qso ht k1 hsl)
 have hm1:mkS (M:Int) false=some (List.replicate M false):=qly (by omega)
 have hm2:mkS (M:Int) (⟨0,0⟩:qd)=some (List.replicate M zSp):=qly (by omega)
 have o2:=main R.length 0 (zTm M) (by omega) qut
 rw [List.drop_zero] at o2
 rw [←eM] at hcn ⊢
 unfold qjw qlF
 refine Ev.bind (qnq h) (Ev.bind s5 (Ev.bind hcn ?_))
 simp only [hm1,hm2,jd]
 refine Ev.bind o2 ?_
 cases rnO (wideF b ex f) (linksL b) (lvJ b br) xs R (zTm M)<;>exact .done
end
end Go.Fw


namespace Go.Fw
open Go
set_option maxRecDepth 100000
instance:Inhabited ql:=⟨⟨0,0,0⟩⟩
def cplB (b:qe) (y:ql):Bool:=netB b.Aa y.A&&(netB b.Aa y.B&&(decide (y.A<y.B)&&inI y.Bo 1 10000))
def ltC (x y:ql):Bool:=decide (x.A<y.A) || ((x.A==y.A)&&decide (x.B<y.B))
def cplsB (b:qe) (ks:List ql):Bool:=allN (fun j=>cplB b (gt ks j)&&(decide (j=0) || ltC (gt ks (j-1)) (gt ks j))) ks.length&&decide (ks.length≤20)
def cmp3 (x y:Int):Int:=if x<y then -1 else if x > y then 1 else 0
theorem qyL {n:Nat} {x y:Int}:qeW n x y=some (cmp3 x y):=by
 simp only [qeW,qdD,bne_self_eq_false,jd,cond_false]
 unfold cmp3
 by_cases h1:x<y
 ·simp [h1]
 ·by_cases h2:x > y
  ·simp [h1,h2]
  ·simp [h1,h2]
theorem or3 {x y:Int} {n:Nat}:qhB [x,y] (n+3) 0=bif x != 0 then some (.ret x) else bif y != 0 then some (.ret y) else some (.nxt 2):=rfl
theorem qzb {x y:Int}:Ev (fun n=>qmv n [x,y]) (if x=0 then y else x):=by
 unfold qmv
 refine Ev.bind (b:=bif x != 0 then .ret x else bif y != 0 then .ret y else .nxt 2) (Ev.succ (Ev.succ (Ev.succ ?_))) ?_
 ·refine ⟨0,fun n _=>?_⟩
  show qhB [x,y] (n+3) 0=_
  rw [or3]
  cases (x != 0)<;>cases (y != 0)<;>rfl
 ·by_cases h1:x=0
  ·subst h1
   by_cases h2:y=0
   ·subst h2;exact .done
   ·have:(y != 0)=true:=by simpa using h2
    rw [this];exact .done
  ·have:(x != 0)=true:=by simpa using h1
   rw [this,if_neg h1];exact .done
theorem qyQ {x y:ql}:decide ((if cmp3 x.A y.A=0 then cmp3 x.B y.B else cmp3 x.A y.A) ≥ 0) = !ltC x y:=by
 unfold cmp3 ltC
 by_cases h1:x.A<y.A
 ·simp [h1]
 ·by_cases h2:x.A > y.A
  ·have:¬ x.A=y.A:=by omega
   simp [h1,h2,this]
  ·have:x.A=y.A:=by omega
   rw [this]
   by_cases h3:x.B<y.B
   ·simp [h3]
   ·by_cases h4:x.B > y.B
    ·simp [h3,h4]
    ·simp [h3,h4]
theorem qpV {b:qe} {ks:List ql} (hn:b.Aa.Ai.length≤1048576) (hl:ks.length≤1048576):Ev (fun n=>qco n b ks) (cplsB b ks):=by
 have hL:Ev (fun n=>qaR b ks n 0) (bif allN (fun j=>cplB b (gt ks j)&&(decide (j=0) || ltC (gt ks (j-1)) (gt ks j))) ks.length then .nxt (ks.length:Int) else .ret false):=by
  refine qdL ?_ (fun j hj X hX=>Ev.succ ?_)
  ·exact Ev.succ (by simp only [qaR,qk (je _),cond_false];exact .done)
  ·simp only [qaR,qj hj,cond_true,qA hj,jd,wS j,qrd (d:=⟨b.Aa.Ab,b.Aa.Ai,b.Aa.Ah⟩) hn,qde,qyL,qbS]
   refine Ev.chkT ?_ fun _=>?_
   ·unfold cplB
    refine Ev.orBP fun _=>Ev.orBP fun _=>?_
    rw [show decide ((gt ks j).A ≥ (gt ks j).B) = !decide ((gt ks j).A<(gt ks j).B) by rw [jj];simp,qbS]
    exact Ev.orBP fun _=>.done
   ·by_cases h0:j=0
    ·subst h0
     exact Ev.ff (by decide) hX
    ·have e2:decide (j=0)=false:=by simp;omega
     have e3:decide ((j:Int) > 0)=true:=by simp;omega
     rw [e2,e3,qdl (show j≤9223372036854775807 by omega),show (j:Int)-1=((j-1:Nat):Int) by omega,qA (show j-1<ks.length by omega)]
     simp only [cond_true,jd,Bool.false_or]
     refine Ev.bind qzb ?_
     rw [qyQ]
     simp only [qbS]
     exact Ev.okP1 fun _=>hX
 unfold qco cplsB
 refine Ev.bind hL ?_
 cases allN (fun j=>cplB b (gt ks j)&&(decide (j=0) || ltC (gt ks (j-1)) (gt ks j))) ks.length
 ·exact .done
 ·refine Ev.now ?_
  show some (decide ((ks.length:Int)≤((20:Nat):Int)))=some (true&&decide (ks.length≤20))
  rw [qld,jx]
theorem qqg {b:qe} {ks:List ql} (hn:b.Aa.Ai.length≤1048576) (hl:ks.length≤1048576):Ev (fun n=>qe1 n b ks) (cplsB b ks):=by
 have hL:Ev (fun n=>qbx b ks n 0) (bif allN (fun j=>cplB b (gt ks j)&&(decide (j=0) || ltC (gt ks (j-1)) (gt ks j))) ks.length then .nxt (ks.length:Int) else .ret false):=by
  refine qdL ?_ (fun j hj X hX=>Ev.succ ?_)
  ·exact Ev.succ (by simp only [qbx,qk (je _),cond_false];exact .done)
  ·simp only [qbx,qj hj,cond_true,qA hj,jd,wS j,qpB hn,qcF,qdl (show b.Aa.Ai.length≤9223372036854775807 by omega)]
   rw [show inI (gt ks j).A 0 ((b.Aa.Ai.length:Int)-1)=netB b.Aa (gt ks j).A from rfl]
   refine Ev.chkT ?_ fun _=>?_
   ·unfold cplB
    simp only [qbS]
    refine Ev.orBP fun hA=>?_
    have hA':0≤(gt ks j).A∧(gt ks j).A≤(b.Aa.Ai.length:Int)-1:=qaX.1 hA
    rw [qau (show -9223372036854775808≤(gt ks j).A+1 by omega) (by omega)]
    rw [←Bool.and_assoc]
    have e:inI (gt ks j).B ((gt ks j).A+1) ((b.Aa.Ai.length:Int)-1)=(netB b.Aa (gt ks j).B&&decide ((gt ks j).A<(gt ks j).B)):=by
     unfold netB inI
     rw [jj];simp;omega
    rw [e]
    exact Ev.orBP fun _=>.done
   ·by_cases h0:j=0
    ·subst h0
     exact Ev.ff (by decide) hX
    ·have e2:decide (j=0)=false:=by simp;omega
     have e3:decide ((j:Int) > 0)=true:=by simp;omega
     rw [e2,e3,qdl (show j≤9223372036854775807 by omega),show (j:Int)-1=((j-1:Nat):Int) by omega,qA (show j-1<ks.length by omega)]
     simp only [cond_true,jd,Bool.false_or]
     unfold ltC
     by_cases h1:(gt ks (j-1)).A > (gt ks j).A
     ·have h2:¬ (gt ks (j-1)).A<(gt ks j).A:=by omega
      have h3:¬ (gt ks (j-1)).A=(gt ks j).A:=by omega
      simp only [h1,h2,h3,decide_true,decide_false,cond_true,Bool.false_or,beq_eq_false_iff_ne.2 h3,Bool.false_and,cond_false]
      exact .done
     ·by_cases h3:(gt ks (j-1)).A=(gt ks j).A
      ·have h2:¬ (gt ks (j-1)).A<(gt ks j).A:=by omega
       simp only [h1,h2,decide_false,cond_false,Bool.false_or,beq_iff_eq.2 h3,cond_true,jx]
       rw [show decide ((gt ks (j-1)).B ≥ (gt ks j).B) = !decide ((gt ks (j-1)).B<(gt ks j).B) by rw [jj];simp]
       simp only [qbS]
       exact Ev.okP1 fun _=>hX
      ·have h2:(gt ks (j-1)).A<(gt ks j).A:=by omega
       simp only [h1,h2,decide_false,decide_true,cond_false,beq_eq_false_iff_ne.2 h3,Bool.true_or,cond_true]
       exact hX
 unfold qe1 cplsB
 refine Ev.bind hL ?_
 cases allN (fun j=>cplB b (gt ks j)&&(decide (j=0) || ltC (gt ks (j-1)) (gt ks j))) ks.length
 ·exact .done
 ·refine Ev.now ?_
  show some (decide ((ks.length:Int)≤((20:Nat):Int)))=some (true&&decide (ks.length≤20))
  rw [qld,jx]
end Go.Fw


namespace Go.Fw
open Go
set_option maxRecDepth 100000
def TmL (t:qz) (M:Nat):Prop:=t.Au.length=M∧t.Af.length=M
def winO (t:qz) (m:Nat):qd × Bool :=
 bif gt t.Au m then bif gt t.Au (m+1) then (hullS (gt t.Af m) (gt t.Af (m+1)),true) else (gt t.Af m,true) else bif gt t.Au (m+1) then (gt t.Af (m+1),true) else (zSp,false)
def winB (b:qe) (t:qz) (net:Int):qd × Bool:=winO t (2*dvN b.Aa net.toNat)
section
variable {b:qe} {t:qz} {net:Int}
theorem qxg (h:blockB b=true) (hn:netB b.Aa net=true):∃ k:Nat,net=(k:Int)∧k<b.Aa.Ai.length∧dvN b.Aa k<(places b.Aa).length∧(places b.Aa).length≤78∧(gt (places b.Aa) (dvN b.Aa k)).net=net∧(gt (places b.Aa) (dvN b.Aa k)).drives=true:=by
 unfold netB at hn
 rw [qaX] at hn
 have hk:net.toNat<b.Aa.Ai.length:=by omega
 obtain ⟨h1,h2⟩:=qie (qat h) hk
 obtain ⟨h3,h4⟩:=qng.1 h2
 exact ⟨net.toNat,qew hn.1,hk,h1,qbi (qab (qat h)),by rw [h3];exact (qew hn.1).symm,h4⟩
theorem qq8 (h:blockB b=true) (ht:TmL t (ndB b)) (hn:netB b.Aa net=true):Ev (fun n=>qgY n b t net) (winB b t net):=by
 obtain ⟨k,rfl,hk,h1,hpl,h3,h4⟩:=qxg h hn
 obtain ⟨t1,t2⟩:=ht
 have eM:ndB b=2*(places b.Aa).length:=rfl
 unfold qgY winB
 rw [jn]
 refine Ev.bind (qoJ h h1 h3 h4) ?_
 generalize dvN b.Aa k=m at h1
 have e1:W64 (2*(m:Int))=((2*m:Nat):Int):=by rw [qau (by omega) (by omega)];omega
 have e2:W64 (((2*m:Nat):Int)+1)=((2*m+1:Nat):Int):=by rw [qau (by omega) (by omega)];omega
 simp only [e1,e2,qA (show 2*m<t.Au.length by omega),qA (show 2*m+1<t.Au.length by omega),qA (show 2*m<t.Af.length by omega),qA (show 2*m+1<t.Af.length by omega),jd]
 unfold winO
 cases gt t.Au (2*m)<;>cases gt t.Au (2*m+1)<;>exact .done
theorem qva {m:Nat} (h1:m+1<t.Au.length) (h2:m+1<t.Af.length):Ev (fun n=>qli n t [(m:Int),((m+1:Nat):Int)]) (winO t m):=by
 have d:decide ((0:Int)<(([(m:Int),((m+1:Nat):Int)]:List Int).length:Int))=true:=rfl
 have d2:decide ((1:Int)<(([(m:Int),((m+1:Nat):Int)]:List Int).length:Int))=true:=rfl
 have d3:decide ((2:Int)<(([(m:Int),((m+1:Nat):Int)]:List Int).length:Int))=false:=rfl
 have x1:idx [(m:Int),((m+1:Nat):Int)] 0=some (m:Int):=rfl
 have x2:idx [(m:Int),((m+1:Nat):Int)] 1=some ((m+1:Nat):Int):=rfl
 have w1:W64 (0+1)=1:=rfl
 have w2:W64 (1+1)=2:=rfl
 unfold qli winO
 cases r1:gt t.Au m<;>cases r2:gt t.Au (m+1)<;>refine ⟨3,fun n hn=>?_⟩<;>obtain ⟨n,rfl⟩:∃ k,n=k+3:=⟨n-3,by omega⟩ <;>
  simp only [qgO,d,d2,d3,x1,x2,w1,w2,cond_true,cond_false,jd,qA (show m<t.Au.length by omega),qA h1,qA (show m<t.Af.length by omega),qA h2,r1,r2,qdf,qgW,Ja,Bool.not_false]<;>rfl
theorem qr0 (ex:List Int) (h:blockB b=true) (ht:TmL t (ndB b)) (hn:netB b.Aa net=true):Ev (fun n=>qfs n (some (viewE b ex)) t net) (winB b t net):=by
 obtain ⟨k,rfl,hk,h1,hpl,h3,h4⟩:=qxg h hn
 obtain ⟨t1,t2⟩:=ht
 have eM:ndB b=2*(places b.Aa).length:=rfl
 have e:ixL (fun q:Tplace=>(q.net==(k:Int))&&q.drives) (places b.Aa)=(dvN b.Aa k:Int):=by
  refine quR h1 (by rw [h3,h4];simp) (fun i hi hq=>?_)
  simp only [jf,beq_iff_eq] at hq
  exact (qs7 (qat h) hk hi hq.1 hq.2).symm
 have hI:Ev (fun n=>qaj n (places b.Aa) (k:Int)) (dvN b.Aa k:Int):=by
  rw [←e]
  exact qeo (fin:=((places b.Aa).length:Int)) (Lf:=qM (places b.Aa) (k:Int)) (xs:=places b.Aa) (pf:=fun n x=>qfV n x (k:Int)) (fun x _=>by
    unfold qfV
    cases x.net==(k:Int)<;>exact .done)
   (fun n=>by simp only [qM,qk (je _),cond_false])
   (fun n j x hx=>by
    have hj:=(List.getElem?_eq_some_iff.1 hx).1
    simp only [qM,qj hj,cond_true,qaq hx,jd,wS j])
   (fun n=>by unfold qaj;congr 1;funext o;cases o<;>rfl)
 unfold qfs winB
 rw [jn]
 show Ev (fun n=>(qaj n (places b.Aa) (k:Int)).bind _) _
 refine Ev.bind hI ?_
 generalize dvN b.Aa k=m at h1
 have e1:W64 (2*(m:Int))=((2*m:Nat):Int):=by rw [qau (by omega) (by omega)];omega
 have e2:W64 (((2*m:Nat):Int)+1)=((2*m+1:Nat):Int):=by rw [qau (by omega) (by omega)];omega
 simp only [e1,e2]
 exact Ev.bind (qva (t:=t) (m:=2*m) (by omega) (by omega)) .done
end
def actQ (b:qe) (t:qz) (ks:List ql) (k:Nat):Bool :=
 (winB b t (gt ks k).A).2&&((winB b t (gt ks k).B).2&&(decide ((winB b t (gt ks k).A).1.Aj≤(winB b t (gt ks k).B).1.Ar)&&decide ((winB b t (gt ks k).B).1.Aj≤(winB b t (gt ks k).A).1.Ar)))
theorem qqp {b:qe} {ks:List ql} (h:cplsB b ks=true):ks.length≤20∧∀ k,k<ks.length→netB b.Aa (gt ks k).A=true∧netB b.Aa (gt ks k).B=true∧(gt ks k).A<(gt ks k).B:=by
 unfold cplsB at h
 rw [jf,qap,decide_eq_true_eq] at h
 refine ⟨h.2,fun k hk=>?_⟩
 have:=h.1 k hk
 unfold cplB at this
 simp only [jf,decide_eq_true_eq] at this
 exact ⟨this.1.1,this.1.2.1,this.1.2.2.1⟩
section
variable {b:qe} {t:qz} {ks:List ql}
theorem qtZ (h:blockB b=true) (ht:TmL t (ndB b)) (hc:cplsB b ks=true):Ev (fun n=>qin n b t ks) (ints (selN (actQ b t ks) ks.length)):=by
 obtain ⟨hl,hn⟩:=qqp hc
 have hL:Ev (fun n=>qb7 b t ks n ([]:List Int) 0) (ints (selN (actQ b t ks) ks.length),(ks.length:Int)):=by
  refine qko (q:=actQ b t ks) (Lf:=qb7 b t ks) (len:=ks.length) (by omega) (Ev.succ ?_) (fun j hj s hs X h1 h2=>?_)
  ·simp only [qb7,qk (je _),cond_false];exact .done
  ·obtain ⟨nA,nB,_⟩:=hn j hj
   simp only [qb7,qj hj,cond_true,qA hj,jd,hs,wS j]
   refine Ev.bind (qq8 h ht nA) (Ev.bind (qq8 h ht nB) ?_)
   unfold actQ at h1 h2
   generalize winB b t (gt ks j).A=u at h1 h2 ⊢
   generalize winB b t (gt ks j).B=v at h1 h2 ⊢
   cases q1:u.2
   ·exact Ev.bind (b:=false) (Ev.now rfl) (Ev.ff rfl (h2 (by rw [q1];rfl)))
   cases q2:v.2
   ·exact Ev.bind (b:=false) (Ev.now rfl) (Ev.ff rfl (h2 (by rw [q1,q2];rfl)))
   cases q3:decide (u.1.Aj≤v.1.Ar)
   ·exact Ev.bind (b:=false) (Ev.now rfl) (Ev.ff rfl (h2 (by rw [q1,q2,q3];rfl)))
   cases q4:decide (v.1.Aj≤u.1.Ar)
   ·exact Ev.bind (b:=false) (Ev.now rfl) (Ev.ff rfl (h2 (by rw [q1,q2,q3,q4];rfl)))
   ·exact Ev.bind (b:=true) (Ev.now rfl) (Ev.tt rfl (h1 (by rw [q1,q2,q3,q4];rfl)))
 unfold qin
 exact Ev.bind hL .done
theorem qvj (ex:List Int) (h:blockB b=true) (ht:TmL t (ndB b)) (hc:cplsB b ks=true):Ev (fun n=>qhn n (some (viewE b ex)) t ks) (ints (selN (actQ b t ks) ks.length)):=by
 obtain ⟨hl,hn⟩:=qqp hc
 have hL:Ev (fun n=>qaU (some (viewE b ex)) t ks n ([]:List Int) 0) (ints (selN (actQ b t ks) ks.length),(ks.length:Int)):=by
  refine qko (q:=actQ b t ks) (Lf:=qaU (some (viewE b ex)) t ks) (len:=ks.length) (by omega) (Ev.succ ?_) (fun j hj s hs X h1 h2=>?_)
  ·simp only [qaU,qk (je _),cond_false];exact .done
  ·obtain ⟨nA,nB,_⟩:=hn j hj
   simp only [qaU,qj hj,cond_true,qA hj,jd,hs,wS j]
   refine Ev.bind (qr0 ex h ht nA) (Ev.bind (qr0 ex h ht nB) ?_)
   unfold actQ at h1 h2
   generalize winB b t (gt ks j).A=u at h1 h2 ⊢
   generalize winB b t (gt ks j).B=v at h1 h2 ⊢
   unfold qhW
   cases q1:u.2
   ·exact Ev.ff rfl (h2 (by rw [q1];rfl))
   cases q2:v.2
   ·exact Ev.tt rfl (Ev.ff rfl (h2 (by rw [q1,q2];rfl)))
   cases q3:decide (u.1.Aj≤v.1.Ar)
   ·exact Ev.tt rfl (Ev.tt rfl (Ev.bind (b:=false) (Ev.now rfl) (Ev.ff rfl (h2 (by rw [q1,q2,q3];rfl)))))
   cases q4:decide (v.1.Aj≤u.1.Ar)
   ·exact Ev.tt rfl (Ev.tt rfl (Ev.bind (b:=false) (Ev.now rfl) (Ev.ff rfl (h2 (by rw [q1,q2,q3,q4];rfl)))))
   ·exact Ev.tt rfl (Ev.tt rfl (Ev.bind (b:=true) (Ev.now rfl) (Ev.tt rfl (h1 (by rw [q1,q2,q3,q4];rfl)))))
 unfold qhn
 exact Ev.bind hL .done
end
def addE (s:List Int) (x:ql):List Int:=setS (setS s x.A (W64 (gt s x.A.toNat+x.Bo))) x.B (W64 (gt s x.B.toNat+x.Bo))
def exS (ks:List ql) (m:Nat) (used:List Int):Nat→List Int
 | 0=>List.replicate m 0
 | j+1=>addE (exS ks m used j) (gt ks (at0 used j).toNat)
theorem qsN {ks:List ql} {m:Nat} {used:List Int} {j:Nat}:(exS ks m used j).length=m:=by
 induction j with
 | zero=>exact jJ
 | succ j ih=>show (setS (setS _ _ _) _ _).length=m;rw [qeY,qeY];exact ih
theorem inRange0 {x:Int} {m:Nat} (h:inI x 0 ((m:Int)-1)=true):0≤x∧x<(m:Int)∧x.toNat<m:=by rw [qaX] at h;omega
theorem qsw {br:List Int} {m:Nat} (h:brB br m=true) {i:Nat} (hi:i<br.length):∃ k:Nat,k<m∧at0 br i=(k:Int):=by
 unfold brB at h
 rw [jf,jK] at h
 have:=h.1 _ (jp hi)
 obtain ⟨r0,r1,r2⟩:=inRange0 this
 exact ⟨br[i].toNat,r2,by rw [qjQ hi];exact qew r0⟩
section
variable {b:qe} {ks:List ql} {used:List Int}
theorem qu0 (hc:cplsB b ks=true) (hu:brB used ks.length=true) {i:Nat} (hi:i<used.length) {s:List Int} (hs:s.length=b.Aa.Ai.length):∃ k:Nat,k<ks.length∧at0 used i=(k:Int)∧idx s (gt ks k).A=some (gt s (gt ks k).A.toNat) ∧
  ∀ v,idx (setS s (gt ks k).A v) (gt ks k).B=some (gt s (gt ks k).B.toNat):=by
 obtain ⟨k,hk,ek⟩:=qsw hu hi
 obtain ⟨nA,nB,hlt⟩:=(qqp hc).2 k hk
 unfold netB at nA nB
 rw [qaX] at nA nB
 refine ⟨k,hk,ek,qfd nA.1 (by omega),fun v=>?_⟩
 have eA:=qew nA.1
 have eB:=qew nB.1
 rw [eA,eB,qA (by rw [qeY];omega),qoS (by omega),if_neg (by omega),jn]
theorem qt3 (hc:cplsB b ks=true) (hnl:b.Aa.Ai.length≤1048576) (hul:used.length≤1048576) (hu:brB used ks.length=true):Ev (fun n=>qiO n b ks used) (exS ks b.Aa.Ai.length used used.length):=by
 have hL:=loopF (Lf:=fun n s i=>qdC ks used n s i) (S:=exS ks b.Aa.Ai.length used) (len:=used.length) (fin:=(exS ks b.Aa.Ai.length used used.length,(used.length:Int)))
  (fun n=>by simp only [qdC,qk (je _),cond_false])
  (fun i hi X hX=>by
   obtain ⟨k,hk,ek,e1,e2⟩:=qu0 hc hu hi (qsN (ks:=ks) (used:=used) (j:=i))
   have eN:exS ks b.Aa.Ai.length used (i+1)=addE (exS ks b.Aa.Ai.length used i) (gt ks k):=by
    show addE _ _=_
    rw [ek,jn]
   rw [eN] at hX
   generalize exS ks b.Aa.Ai.length used i=s at e1 e2 hX ⊢
   simp only [qdC,qj hi,cond_true,qam hi,jd,ek,qA hk,e1,e2,wS i]
   exact hX)
 unfold qiO
 simp only [qly (show b.Aa.Ai.length≤2147483648 by omega),jd]
 exact Ev.bind hL .done
theorem qtu (h:blockB b=true) (hc:cplsB b ks=true) (hnl:b.Aa.Ai.length≤1048576) (hul:used.length≤1048576) (hu:brB used ks.length=true):Ev (fun n=>qfh n b ks used) (exS ks b.Aa.Ai.length used used.length):=by
 have hL:=loopF (Lf:=fun n s i=>qbX ks used n s i) (S:=exS ks b.Aa.Ai.length used) (len:=used.length) (fin:=(exS ks b.Aa.Ai.length used used.length,(used.length:Int)))
  (fun n=>by simp only [qbX,qk (je _),cond_false])
  (fun i hi X hX=>by
   obtain ⟨k,hk,ek,e1,e2⟩:=qu0 hc hu hi (qsN (ks:=ks) (used:=used) (j:=i))
   have eN:exS ks b.Aa.Ai.length used (i+1)=addE (exS ks b.Aa.Ai.length used i) (gt ks k):=by
    show addE _ _=_
    rw [ek,jn]
   rw [eN] at hX
   generalize exS ks b.Aa.Ai.length used i=s at e1 e2 hX ⊢
   simp only [qbX,qj hi,cond_true,qam hi,jd,ek,qA hk,e1,e2,wS i]
   exact hX)
 have hwl:=qiW h
 unfold qfh
 rw [show b.Ac.length=b.Aa.Ai.length by omega]
 simp only [qly (show b.Aa.Ai.length≤2147483648 by omega),jd]
 exact Ev.bind hL .done
theorem qvl (hk:ks.length≤20) (hul:used.length≤1048576):Ev (fun n=>qjy n ks used) (brB used ks.length):=by
 unfold qjy brB
 have e1:W64 ((ks.length:Int)-1)=(ks.length:Int)-1:=qau (by omega) (by omega)
 simp only [qey,jd,e1]
 refine Ev.bind (qe3 hul) ?_
 cases used.all fun x=>inI x 0 ((ks.length:Int)-1)
 ·exact Ev.ff rfl .done
 ·exact Ev.tt rfl (Ev.bind (qj0 hul) .done)
end
end Go.Fw


namespace Go.Fw
open Go
set_option maxRecDepth 100000
def hasI (xs:List Int) (y:Int):Bool:=xs.any fun x=>x==y
theorem qtJ {xs:List Int} {y:Int} (hl:xs.length≤1048576):Ev (fun n=>qeu n xs y) (hasI xs y):=by
 unfold qeu
 refine Ev.bind (b:=ixL (fun x=>y==x) xs) (qeo (fin:=(xs.length:Int)) (Lf:=qca xs y) (pf:=fun _ x=>some (y==x)) (fun _ _=>.done)
  (fun n=>by simp only [qca,qk (je _),cond_false])
  (fun n j x hx=>by
   have hj:=(List.getElem?_eq_some_iff.1 hx).1
   simp only [qca,qj hj,cond_true,qaq hx,jd,wS j])
  (fun n=>by unfold qh2;congr 1;funext o;cases o<;>rfl)) (Ev.now ?_)
 rw [qmw]
 unfold hasI
 congr 2
 funext x
 rw [jj,beq_iff_eq,beq_iff_eq]
 exact eq_comm
theorem qyy {b:qe} {c:qy} {br:List Int} {xs:List qg} (hb:qkT b) (hc:okS c.Az) (h:(blockB b&&cornerB c)=false):Ev (fun n=>qfR n b c br xs) ([],1):=by
 have s1:=qls hb
 have s2:=qmh (c:=c) hc
 unfold qfR
 cases h1:blockB b
 ·rw [h1] at s1
  exact Ev.bind (b:=true) (Ev.bind s1 (Ev.tt rfl .done)) (Ev.tt rfl .done)
 ·rw [h1] at s1 h
  have h2:cornerB c=false:=h
  rw [h2] at s2
  exact Ev.bind (b:=true) (Ev.bind s1 (Ev.ff rfl (Ev.bind s2 .done))) (Ev.tt rfl .done)
theorem qxp {b:qe} {c:qy} {f g:Nat→qd→qd × qd} {lv:List Bool} {xs:List qg} (h:blockB b=true) (hg:SpansS b c g) (hgf:∀ k s,(f k s).2=(g k s).2) (hx:SrcOk xs):∀ (R:List Nat) (t t':qz),(∀ k,k ∈ R→k<2*(places b.Aa).length)→TmOk t (2*(places b.Aa).length)→rnO f (linksL b) lv xs R t=some t'→TmOk t' (2*(places b.Aa).length):=by
 intro R
 induction R with
 | nil=>intro t t' _ ht e;obtain rfl:=Option.some.inj e;exact ht
 | cons k R ih =>
  intro t t' hR ht e
  have hsl:=qo2 (node:=(k:Int)) (lv:=lv) h hg hgf ht hx (linksL b).length (je _)
  unfold rnO at e
  cases h1:(ndS f (linksL b) lv t (k:Int) (srcV (srcO xs (k:Int))) (linksL b).length).1
  ·rw [h1] at e
   exact ih _ _ (fun i hi=>hR i (jo _ hi)) ht e
  ·rw [h1] at e
   cases h2:spanB (ndS f (linksL b) lv t (k:Int) (srcV (srcO xs (k:Int))) (linksL b).length).2.Af
   ·rw [h2] at e;cases e
   ·rw [h2] at e
    exact ih _ _ (fun i hi=>hR i (jo _ hi)) (qso ht (hR k (jy ..)) hsl) e
section
variable {b:qe} {c:qy} {br:List Int} {xs:List qg} {ex:List Int}
theorem qx0 {R:List Nat} (hg:TgOk b c br xs R) (hbl:br.length≤1048576) (hxl:xs.length≤1048576) (hex:ex.length=b.Ac.length) :
  ∃ o:Option qz,(∀ t,o=some t→TmOk t (ndB b))∧Ev (fun n=>qjw n b c br xs ex (ints R)) (runR o)∧Ev (fun n=>qdr n (some ⟨some (viewE b ex),lvJ b br⟩) c xs (ints R)) (runR o):=by
 have h1:=hg.bl
 obtain ⟨f,hf,hfi⟩:=qwt h1 hg.co
 have hpl:=qbi (qab (qat h1))
 have hRl:=hg.len
 have hR1:R.length≤1000:=by rw [hRl];show 2*(places b.Aa).length≤1000;omega
 have hRb:∀ k,k ∈ R→k<2*(places b.Aa).length:=fun k hk=>by
  obtain ⟨i,hi,rfl⟩:=List.mem_iff_getElem.1 hk
  exact (hg.ord.at hi).1
 have hwf:∀ k s,(wideF b ex f k s).2=(f k s).2:=fun k s=>by
  unfold wideF
  cases decide (0<ex.length)&&((gt (linksL b) k).As==2)<;>rfl
 have hsx:=qxF hxl hg.sr
 have o2:=qxA (R:=R) h1 hf hex hbl hsx hRb hR1
 have o3:=qx9 (lv:=lvJ b br) (R:=R) h1 hf hwf (hfi ex (.inr hex)) qsF hsx (fun i hi=>⟨(hg.ord.at hi).1,(hg.ord.at hi).2.1⟩) hR1
 refine ⟨_,fun t ht=>?_,o2,o3⟩
 exact qxp h1 hf hwf hsx R (zTm (2*(places b.Aa).length)) t hRb qut ht
end
theorem qxf {m:Nat} {a d:List Int} (hm:m≤1048576) (ha:a.length≤1048576) (hd:d.length≤1048576):Ev (fun n=>qjl n (m:Int) a d) (ints (selN (fun k=>hasI a (k:Int) || hasI d (k:Int)) m)):=by
 have hL:Ev (fun n=>qcq (m:Int) a d n ([]:List Int) 0) (ints (selN (fun k=>hasI a (k:Int) || hasI d (k:Int)) m),(m:Int)):=by
  refine qko (q:=fun k=>hasI a (k:Int) || hasI d (k:Int)) (Lf:=qcq (m:Int) a d) (len:=m) hm (Ev.succ ?_) (fun j hj s hs X h1 h2=>?_)
  ·simp only [qcq,qk (je _),cond_false];exact .done
  ·simp only [qcq,qj hj,cond_true,jd,hs,wS j]
   have e1:=qph (x:=(j:Int)) ha
   have e2:=qph (x:=(j:Int)) hd
   unfold hasI at h1 h2
   cases q1:a.any fun y=>y==(j:Int)
   ·rw [q1] at e1
    cases q2:d.any fun y=>y==(j:Int)
    ·rw [q2] at e2
     exact Ev.bind (b:=false) (Ev.bind e1 (Ev.ff rfl (Ev.bind e2 .done))) (Ev.ff rfl (h2 (by rw [q1,q2];rfl)))
    ·rw [q2] at e2
     exact Ev.bind (b:=true) (Ev.bind e1 (Ev.ff rfl (Ev.bind e2 .done))) (Ev.tt rfl (h1 (by rw [q1,q2];rfl)))
   ·rw [q1] at e1
    exact Ev.bind (b:=true) (Ev.bind e1 (Ev.tt rfl .done)) (Ev.tt rfl (h1 (by rw [q1];rfl)))
 unfold qjl
 exact Ev.bind hL .done
theorem qrh {q:Nat→Bool} {m:Nat}:(selN q m).Nodup:=by
 unfold selN
 exact (List.nodup_range).filter _
theorem qx4 {xs:List Int} (h:incB xs=true) {i j:Nat} (hij:i<j) (hj:j<xs.length):at0 xs i<at0 xs j:=by
 unfold incB at h
 rw [qap] at h
 induction j with
 | zero=>omega
 | succ j ih =>
  have hs:at0 xs j<at0 xs (j+1):=by
   have:=h (j+1) hj
   unfold stepB at this
   simpa using this
  rcases Nat.lt_or_ge i j with hl|hg
  ·have:=ih hl (by omega);omega
  ·obtain rfl:i=j:=by omega
   exact hs
theorem qwk {used:List Int} {m:Nat} (h:brB used m=true):used.length=(selN (fun k=>hasI used (k:Int)) m).length:=by
 have hb:=h
 unfold brB at hb
 rw [jf] at hb
 have hn:(used.map Int.toNat).Nodup:=by
  unfold List.Nodup
  rw [List.pairwise_iff_getElem]
  intro i j hi hj hij
  rw [jv] at hi hj
  obtain ⟨a,_,ea⟩:=qsw h hi
  obtain ⟨c,_,ec⟩:=qsw h hj
  have:=qx4 hb.2 hij hj
  rw [ea,ec] at this
  rw [qjQ hi] at ea
  rw [qjQ hj] at ec
  rw [List.getElem_map,List.getElem_map,ea,ec]
  omega
 refine Nat.le_antisymm ?_ ?_
 ·have:=qoy hn (l':=selN (fun k=>hasI used (k:Int)) m) (fun k hk=>by
   obtain ⟨x,hx,rfl⟩:=List.mem_map.1 hk
   obtain ⟨i,hi,rfl⟩:=List.mem_iff_getElem.1 hx
   obtain ⟨a,ha,ea⟩:=qsw h hi
   rw [qjQ hi] at ea
   refine qgF.2 ⟨by rw [ea];exact ha,?_⟩
   unfold hasI
   rw [List.any_eq_true]
   exact ⟨_,jp hi,by rw [ea];simp⟩)
  rwa [jv] at this
 ·have:=qoy (qrh (q:=fun k=>hasI used (k:Int)) (m:=m)) (l':=used.map Int.toNat) (fun k hk=>by
   obtain ⟨_,hq⟩:=qgF.1 hk
   unfold hasI at hq
   rw [List.any_eq_true] at hq
   obtain ⟨x,hx,e⟩:=hq
   rw [beq_iff_eq] at e
   exact List.mem_map.2 ⟨x,hx,by rw [e];rfl⟩)
  rwa [jv] at this
theorem qv3 {used:List Int} {m:Nat} {q:Nat→Bool} (h:brB used m=true):(((ints (selN (fun k=>hasI used (k:Int) || hasI (ints (selN q m)) (k:Int)) m)).length:Int)==(used.length:Int))=(ints (selN q m)).all fun x=>hasI used x:=by
 rw [qc1,qwk h,jj,beq_iff_eq,jK]
 constructor
 ·intro e x hx
  refine Classical.byContradiction fun hc=>?_
  obtain ⟨k,hk,rfl⟩:∃ k:Nat,k ∈ selN q m∧x=(k:Int):=by
   unfold ints at hx
   obtain ⟨k,hk,e⟩:=List.mem_map.1 hx
   exact ⟨k,hk,e.symm⟩
  have hkm:=(qgF.1 hk).1
  have hf:hasI used (k:Int)=false:=by simpa using hc
  have:=qoy (l:=k::selN (fun k=>hasI used (k:Int)) m) (l':=selN (fun k=>hasI used (k:Int) || hasI (ints (selN q m)) (k:Int)) m) (List.nodup_cons.2 ⟨fun hm=>(by rw [(qgF.1 hm).2] at hf;cases hf),qrh⟩) (fun i hi=>by
   rcases List.mem_cons.1 hi with rfl|hi
   ·refine qgF.2 ⟨hkm,?_⟩
    unfold hasI
    rw [Bool.or_eq_true]
    refine .inr (List.any_eq_true.2 ⟨_,hx,by simp⟩)
   ·obtain ⟨i1,i2⟩:=qgF.1 hi
    exact qgF.2 ⟨i1,by rw [i2];rfl⟩)
  rw [List.length_cons] at this
  omega
 ·intro ha
  have:∀ k,k<m→(hasI used (k:Int) || hasI (ints (selN q m)) (k:Int))=hasI used (k:Int):=fun k _=>by
   cases h1:hasI used (k:Int)
   ·cases h2:hasI (ints (selN q m)) (k:Int)
    ·rfl
    ·unfold hasI at h2
     rw [List.any_eq_true] at h2
     obtain ⟨x,hx,e⟩:=h2
     rw [beq_iff_eq] at e
     subst e
     rw [ha _ hx] at h1
     cases h1
   ·rfl
  have:selN (fun k=>hasI used (k:Int) || hasI (ints (selN q m)) (k:Int)) m=selN (fun k=>hasI used (k:Int)) m:=by
   unfold selN
   exact List.filter_congr fun k hk=>this k (List.mem_range.1 hk)
  rw [this]
theorem quO {xs used:List Int} (hx:xs.length≤1048576) (hu:used.length≤1048576):Ev (fun n=>qaJ n xs used) (!xs.all fun x=>hasI used x):=by
 have h1:Ev (fun n=>qaV n xs used) (ixL (fun x=>!hasI used x) xs) :=
  qeo (fin:=(xs.length:Int)) (Lf:=qad xs used) (xs:=xs) (pf:=fun n x=>qhm n x used) (fun x _=>by
    unfold qhm
    exact Ev.bind (qtJ hu) .done)
   (fun n=>by simp only [qad,qk (je _),cond_false])
   (fun n i x hx=>by
    have hi:=(List.getElem?_eq_some_iff.1 hx).1
    simp only [qad,qj hi,cond_true,qaq hx,jd,wS i])
   (fun n=>by unfold qaV;congr 1;funext o;cases o<;>rfl)
 unfold qaJ
 refine Ev.bind h1 (Ev.now ?_)
 rw [qmw,←qor,Bool.not_not]
theorem qsn {b:qe} {c:qy} {br:List Int} {xs:List qg} {ks:List ql} {used:List Int} (hb:qkT b) (hc:okS c.Az) (hbl:br.length≤1048576) (hxl:xs.length≤1048576) (hk:ks.length≤1048576) (hul:used.length≤1048576) :
  ∃ R:Bool × Int,Ev (fun n=>qio n b c br xs ks used) R∧Ev (fun n=>qiz n b c br xs ks used) R:=by
 have hnl:b.Aa.Ai.length≤1048576:=hb.Aa.Ai.len
 have s1:=qls hb
 have i1:=qrj hb
 have s2:=qmh (c:=c) hc
 have i2:=qpQ (c:=c) hc
 have s3:=qqg (b:=b) hnl hk
 have i3:=qpV (b:=b) hnl hk
 have tg:=qzf (br:=br) (xs:=xs) hb hc hbl hxl
 unfold qio qiz qhY
 cases h0:blockB b&&cornerB c
 ·have hbad:=qyy (br:=br) (xs:=xs) hb hc h0
  rcases tg with ⟨code,hne,hs,hi⟩|⟨R,hg,_⟩
  ·have e:code=1:=congrArg Prod.snd (hs.uniq hbad)
   subst e
   refine ⟨(false,1),Ev.bind (b:=true) ?_ (Ev.tt rfl .done),Ev.bind (b:=(none,[],1)) (Ev.bind (b:=false) ?_ (Ev.ff rfl (Ev.bind hi .done))) (Ev.tt rfl .done)⟩
   ·cases h1:blockB b
    ·rw [h1] at s1;exact Ev.bind s1 (Ev.tt rfl .done)
    ·rw [h1] at s1 h0
     have h2:cornerB c=false:=h0
     rw [h2] at s2
     exact Ev.bind s1 (Ev.ff rfl (Ev.bind s2 .done))
   ·cases h1:blockB b
    ·rw [h1] at i1;exact Ev.bind i1 (Ev.ff rfl .done)
    ·rw [h1] at i1 h0
     have h2:cornerB c=false:=h0
     rw [h2] at i2
     exact Ev.bind i1 (Ev.tt rfl (Ev.bind i2 (Ev.ff rfl .done)))
  ·rw [hg.bl,hg.co] at h0;cases h0
 ·rw [jf] at h0
  obtain ⟨h1,h2⟩:=h0
  rw [h1] at s1 i1
  rw [h2] at s2 i2
  have hwl:=qiW h1
  have sA:Ev (fun n=>(qeT n b).bind fun r1=>bif (!r1) then some true else (qfa n c).bind fun r2=>some (!r2)) false:=Ev.bind s1 (Ev.ff rfl (Ev.bind s2 .done))
  cases h3:cplsB b ks
  ·rw [h3] at s3 i3
   exact ⟨(false,2),Ev.bind sA (Ev.ff rfl (Ev.bind (b:=true) (Ev.bind s3 (Ev.tt rfl .done)) (Ev.tt rfl .done))),Ev.bind (b:=(none,[],2)) (Ev.bind (b:=true) (Ev.bind i1 (Ev.tt rfl (Ev.bind i2 (Ev.tt rfl (Ev.bind i3 (Ev.tt rfl .done)))))) (Ev.tt rfl .done)) (Ev.tt rfl .done)⟩
  rw [h3] at s3 i3
  have hkl:=(qqp h3).1
  have s4:=qsa (br:=used) (m:=ks.length) hul (by omega)
  have i4:=qvl (ks:=ks) hkl hul
  cases hu:brB used ks.length
  ·rw [hu] at s4 i4
   exact ⟨(false,2),Ev.bind sA (Ev.ff rfl (Ev.bind (b:=true) (Ev.bind s3 (Ev.ff rfl (Ev.bind s4 .done))) (Ev.tt rfl .done))),Ev.bind (b:=(none,[],2)) (Ev.bind (b:=true) (Ev.bind i1 (Ev.tt rfl (Ev.bind i2 (Ev.tt rfl (Ev.bind i3 (Ev.ff rfl (Ev.bind i4 .done))))))) (Ev.tt rfl .done)) (Ev.tt rfl .done)⟩
  rw [hu] at s4 i4
  have sB:Ev (fun n=>(qe1 n b ks).bind fun r3=>bif (!r3) then some true else (qfw n used (ks.length:Int)).bind fun r4=>some (!r4)) false:=Ev.bind s3 (Ev.ff rfl (Ev.bind s4 .done))
  have iA:Ev (fun n=>(qfQ n b).bind fun r1=>bif r1 then (qe9 n c).bind fun r2=>bif r2 then (qco n b ks).bind fun r3=>bif (!r3) then some true else (qjy n ks used).bind fun r4=>some (!r4) else some false else some false) false :=
   Ev.bind i1 (Ev.tt rfl (Ev.bind i2 (Ev.tt rfl (Ev.bind i3 (Ev.ff rfl (Ev.bind i4 .done))))))
  rcases tg with ⟨code,hne,hs,hi⟩|⟨R,hg,hs,hi⟩
  ·exact ⟨(false,code),Ev.bind sA (Ev.ff rfl (Ev.bind sB (Ev.ff rfl (Ev.bind hs (Ev.tt (quV hne) .done))))),Ev.bind (b:=(none,[],code)) (Ev.bind iA (Ev.ff rfl (Ev.bind hi .done))) (Ev.tt (quV hne) .done)⟩
  ·have sE:=qt3 h3 hnl hul hu
   have iE:=qtu h1 h3 hnl hul hu
   have hexl:(exS ks b.Aa.Ai.length used used.length).length=b.Ac.length:=by rw [qsN];omega
   generalize exS ks b.Aa.Ai.length used used.length=ex at sE iE hexl
   obtain ⟨o,o1,o2,o3⟩:=qx0 (ex:=ex) hg hbl hxl hexl
   cases o with
   | none =>
    refine ⟨(false,3),Ev.bind sA (Ev.ff rfl (Ev.bind sB (Ev.ff rfl (Ev.bind hs (Ev.ff rfl (Ev.bind sE (Ev.bind o2 (Ev.tt rfl .done)))))))),Ev.bind (b:=(grB b br,ints R,0)) (Ev.bind iA (Ev.ff rfl (Ev.bind hi .done))) ?_⟩
    unfold grB viewV viewE
    dsimp only
    exact Ev.bind iE (Ev.bind o3 (Ev.tt rfl .done))
   | some t =>
    have ht:=o1 t rfl
    have hal:(ints (selN (actQ b t ks) ks.length)).length≤1048576:=by rw [qc1];exact Jc qne hk
    have sM:=qxf (m:=ks.length) (a:=used) (d:=ints (selN (actQ b t ks) ks.length)) hk hul hal
    have iS:=quO (xs:=ints (selN (actQ b t ks) ks.length)) (used:=used) hal hul
    refine ⟨((ints (selN (actQ b t ks) ks.length)).all fun x=>hasI used x,0),Ev.bind sA (Ev.ff rfl (Ev.bind sB (Ev.ff rfl (Ev.bind hs (Ev.ff rfl (Ev.bind sE (Ev.bind o2 (Ev.ff rfl (Ev.bind (qtZ h1 ⟨ht.r,ht.a⟩ h3) (Ev.bind sM (Ev.now ?_))))))))))),Ev.bind (b:=(grB b br,ints R,0)) (Ev.bind iA (Ev.ff rfl (Ev.bind hi .done))) ?_⟩
    ·rw [qv3 hu]
    ·unfold grB viewV viewE
     dsimp only
     refine Ev.bind iE (Ev.bind o3 (Ev.ff rfl (Ev.bind (qvj ex h1 ⟨ht.r,ht.a⟩ h3) (Ev.bind iS (Ev.now ?_)))))
     rw [Bool.not_not]
end Go.Fw


namespace Go.Fw
open Go Go.Proofs
open Go.RowKit (Below)
set_option maxRecDepth 100000
set_option maxHeartbeats 1600000
variable {n:Nat} {w:World} {cs1 cs2 cs3 cs4 cs5 cs6 cs7 cs8 cs9:List Value}
end Go.Fw


namespace Go.Fw
open Go Go.Proofs
open Go.RowKit (Below)
set_option maxRecDepth 100000
set_option maxHeartbeats 1600000
variable {n:Nat} {w:World} {cs1 cs2 cs3 cs4 cs5 cs6 cs7 cs8 cs9:List Value}
def qgs (n:Nat) (a_0:qe) (a_1:qy) (a_2:(List Int)) (a_3:(List qg)) (a_4:(List ql)) (a_5:(List Int)):Option Bool :=
 bif decide ((a_2.length:Int) > 1048576) then some true else
 bif decide ((a_5.length:Int) > 1048576) then some true else
 (qkb n a_0 1048576).bind fun r1 =>
 bif decide (r1<0) then some true else
 (qjj n a_1 r1).bind fun r2 =>
 bif decide (r2<0) then some true else
 (qkG n a_3 r2).bind fun r3 =>
 bif decide (r3<0) then some true else
 (qjb n a_4 r3).bind fun r4 =>
 bif decide (r4<0) then some true else
 (qhc n a_0).bind fun r5 =>
 (qhC n a_1).bind fun r6 =>
 (qaG n a_2).bind fun r7 =>
 (qfE n a_3).bind fun r8 =>
 (qeh n a_4).bind fun r9 =>
 (qaG n a_5).bind fun r10 =>
 (qio n r5 r6 r7 r8 r9 r10).bind fun o=>match o with
  | (r12,r13) =>
   (qhc n a_0).bind fun r14 =>
   (qaG n a_2).bind fun r15 =>
   (qfE n a_3).bind fun r16 =>
   (qeh n a_4).bind fun r17 =>
   (qaG n a_5).bind fun r18 =>
   (qhC n a_1).bind fun r19 =>
   (qiz n r14 r19 r15 r16 r17 r18).bind fun o=>match o with
    | (r21,r22) =>
     (
      bif (!(r21==r12)) then some true else
      some (r22 != r13)).bind fun b1 =>
     bif b1 then some false else
     (qhc n a_0).bind fun r23 =>
     (qj9 n r14 r23).bind fun r24 =>
     bif (!r24) then some false else
     (qaG n a_2).bind fun r25 =>
     (qbt n r15 r25).bind fun r26 =>
     bif (!r26) then some false else
     (qfE n a_3).bind fun r27 =>
     (qiH n r16 r27).bind fun r28 =>
     bif (!r28) then some false else
     (qeh n a_4).bind fun r29 =>
     (qho n r17 r29).bind fun r30 =>
     bif (!r30) then some false else
     (qaG n a_5).bind fun r31 =>
     (qbt n r18 r31).bind fun r32 =>
     bif (!r32) then some false else
     some true
theorem qlB {a_0:qe} {a_1:qy} {a_2:(List Int)} {a_3:(List qg)} {a_4:(List ql)} {a_5:(List Int)} (ha1:GoT.R w (old w) a_0 cs1) (ha2:GoT.R w (old w) a_1 cs2) (ha3:GoT.R w (old w) a_2 cs3) (ha4:GoT.R w (old w) a_3 cs4) (ha5:GoT.R w (old w) a_4 cs5) (ha6:GoT.R w (old w) a_5 cs6) {r:Bool} (hF:qgs n a_0 a_1 a_2 a_3 a_4 a_5=some r):RetV Tryz.prog 4 [GoT.v qe cs1,GoT.v qy cs2,GoT.v (List Int) cs3,GoT.v (List qg) cs4,GoT.v (List ql) cs5,GoT.v (List Int) cs6] w r:=by
 obtain ⟨p1,k1,p2,k2,p3,k3,p4,k4,p5,k5,rfl,s1,s2,s3,s4,s5⟩:=qD ha1
 obtain rfl:=qaz ha2
 obtain ⟨p6,k6,rfl,s6⟩:=ha3
 obtain ⟨p7,k7,rfl,s7⟩:=ha4
 obtain ⟨p8,k8,rfl,s8⟩:=ha5
 obtain ⟨p9,k9,rfl,s9⟩:=ha6
 refine zV 119 Tryz.func4 rfl fun h=>zSR (qt h rfl rfl fun w1 bb1 h=>qt h rfl rfl fun w2 bb2 h=>X0 9 rfl (qi rfl hF ?_ ?_))<;>intro hF
 ·exact X0 4 rfl (rb h hF rfl)
 refine X0 8 rfl (qi rfl hF ?_ ?_)<;>intro hF
 ·exact X0 4 rfl (rb h hF rfl)
 refine X1 9 1 h rfl (zcI h hF (qqi (h.old ha1)) rfl fun r1 w3 h hF=>X0 8 rfl (qi rfl hF ?_ ?_))<;>intro hF
 ·exact X0 4 rfl (rb h hF rfl)
 refine X1 5 0 h rfl (zcI h hF (qo9 (h.old ha2)) rfl fun r2 w4 h hF=>X0 8 rfl (qi rfl hF ?_ ?_))<;>intro hF
 ·exact X0 4 rfl (rb h hF rfl)
 refine X0 5 rfl (zcI h hF (qop ⟨_,_,rfl,(h.oldS s7)⟩) rfl fun r3 w5 h hF=>X0 8 rfl (qi rfl hF ?_ ?_))<;>intro hF
 ·exact X0 4 rfl (rb h hF rfl)
 refine X0 5 rfl (zcI h hF (qn0 ⟨_,_,rfl,(h.oldS s8)⟩) rfl fun r4 w6 h hF=>X0 8 rfl (qi rfl hF ?_ ?_))<;>intro hF
 ·exact X0 4 rfl (rb h hF rfl)
 refine zKS (rA [] [0,1] h rfl fun w7 h=>M2 1365 [0,2,4,6,8,10] 1 0 (h.pick [0,1] rfl) rfl (Ao 1 1367 rfl (zcO h hF (qjS (h.old ha1)) rfl fun r5 w8 S1 cs7 h hF=>?_)))
 obtain ⟨p10,k10,p11,k11,p12,k12,p13,k13,p14,k14,rfl,-,-,-,-,-⟩:=qD (h.own 0 rfl)
 refine Ag (h.pick [1,2] rfl) (Ao 3 1375 rfl (zcO h hF (ql0 (h.old ha2)) rfl fun r6 w9 S2 cs8 h hF=>?_))
 obtain rfl:=qaz (h.own 0 rfl)
 refine Ag (h.pick [2,3] rfl) (Ao 5 1407 rfl (zcL h hF (qaD ⟨_,_,rfl,(h.oldS s6)⟩) rfl fun r7 w10 S3 p15 k15 h hF=>Ag (h.pick [3,4] rfl) (Ao 7 1535 rfl (zcL h hF (qiw ⟨_,_,rfl,(h.oldS s7)⟩) rfl fun r8 w11 S4 p16 k16 h hF=>Ag (h.pick [4,5] rfl) (Ao 9 2047 rfl (zcL h hF (qhz ⟨_,_,rfl,(h.oldS s8)⟩) rfl fun r9 w12 S5 p17 k17 h hF=>Ag (h.pick [5,6] rfl) (Ao 11 4095 rfl (zcL h hF (qaD ⟨_,_,rfl,(h.oldS s9)⟩) rfl fun r10 w13 S6 p18 k18 h hF=>Ag (h.pick [6,7] rfl) (Ao 12 8191 rfl ?_)))))))))
 obtain ⟨r11,hr11,hF⟩:=qc hF
 obtain ⟨r12,r13⟩:=r11
 refine qa8 (r12,r13) h (cB 26 rfl) (qoC (h.own 5 rfl) (h.own 4 rfl) (h.own 3 rfl) (h.own 2 rfl) (h.own 1 rfl) (h.own 0 rfl) hr11) rfl rfl rfl rfl fun w14 S7 us1 hv1 hr12=>?_
 obtain ⟨S8,us2,rfl,hv2,hr13⟩:=hv1.consB hr12
 obtain ⟨rfl,h⟩:=hv2.lastI hr13
 refine G0 262143 [13,14,15,16,17] (h.pick [6,7] rfl) rfl (Ad (X1 3 7 h rfl (zcO h hF (qjS (h.old ha1)) rfl fun r14 w15 S10 cs9 h hF=>?_)))
 obtain ⟨p19,k19,p20,k20,p21,k21,p22,k22,p23,k23,rfl,-,-,-,-,-⟩:=qD (h.own 0 rfl)
 refine qn qa h rfl rfl rfl fun w16 bb3 h=>zs 0 h rfl fun w17 h=>X0 4 rfl (zcL h hF (qaD ⟨_,_,rfl,(h.oldS s6)⟩) rfl fun r15 w18 S11 p24 k24 h hF=>X0 5 rfl (zcL h hF (qiw ⟨_,_,rfl,(h.oldS s7)⟩) rfl fun r16 w19 S12 p25 k25 h hF=>X0 5 rfl (zcL h hF (qhz ⟨_,_,rfl,(h.oldS s8)⟩) rfl fun r17 w20 S13 p26 k26 h hF=>X0 5 rfl (zcL h hF (qaD ⟨_,_,rfl,(h.oldS s9)⟩) rfl fun r18 w21 S14 p27 k27 h hF=>X0 3 rfl (rA [] [4,12] h rfl fun w22 h=>M2 123 [0,1,3,4,5,6] 0 1 (h.pick [4,12] rfl) rfl (Ao 2 127 rfl (zcO h hF (ql0 (h.old ha2)) rfl fun r19 w23 S15 cs10 h hF=>?_)))))))
 obtain rfl:=qaz (h.own 0 rfl)
 refine Ag (h.pick [5,13] rfl) (Ao 7 255 rfl ?_)
 obtain ⟨r20,hr21,hF⟩:=qc hF
 obtain ⟨r21,r22⟩:=r20
 refine qa8 (r21,r22) h (cB 30 rfl) (qoN (h.own 6 rfl) (h.own 0 rfl) (h.own 4 rfl) (h.own 3 rfl) (h.own 2 rfl) (h.own 1 rfl) hr21) rfl rfl rfl rfl fun w24 S16 us3 hv4 hr22=>?_
 obtain ⟨S17,us4,rfl,hv5,hr23⟩:=hv4.consB hr22
 obtain ⟨rfl,h⟩:=hv5.lastI hr23
 refine G0 8191 [8,9,10,11,12] (h.pick [5,13] rfl) rfl (Ad (zSS ?_))
 obtain ⟨KF1,hKF1,o1,hF,hK1⟩:=bindE hF
 refine qa0 (fun e w'=>∃ (b1:Bool),KF1 b1=some r∧e=[(2,.slice p6 a_2.length k6),(3,.slice p7 a_3.length k7),(4,.slice p8 a_4.length k8),(5,.slice p9 a_5.length k9),(6,.pointer (some ⟨bb1,0,none⟩)),(16,.pointer (some ⟨bb3,0,none⟩)),(17,.slice p24 r15.length k24),(18,.slice p25 r16.length k25),(19,.slice p26 r17.length k26),(20,.slice p27 r18.length k27),(93,.bool b1)]∧SH w w' [Ch.own S14 (r18:List Int) [.slice p27 r18.length k27],Ch.own S13 (r17:List ql) [.slice p26 r17.length k26],Ch.own S12 (r16:List qg) [.slice p25 r16.length k25],Ch.own S11 (r15:List Int) [.slice p24 r15.length k24],Ch.box bb3 (qZ r14 p19 p20 p21 p22 p23 k19 k20 k21 k22 k23) 53,Ch.own S10 (r14:qe) (qZ r14 p19 p20 p21 p22 p23 k19 k20 k21 k22 k23),Ch.box bb1 (qZ a_0 p1 p2 p3 p4 p5 k1 k2 k3 k4 k5) 32]) ?_ ?_
 ·refine X0 5 rfl (qh (t:=89) hF rfl ?_ ?_)<;>intro hF
  ·refine X0 5 rfl ?_
   replace h:=h.pick [1,2,3,4,5,6,14] rfl
   obtain rfl:=qb hF
   exact rG ⟨_,hK1,rfl,h⟩ rfl
  refine X0 8 rfl ?_
  replace h:=h.pick [1,2,3,4,5,6,14] rfl
  obtain rfl:=qb hF
  exact rG ⟨_,hK1,rfl,h⟩ rfl
 rintro e1 w36 ⟨b1,hF,rfl,h⟩
 subst hKF1
 refine qi rfl hF ?_ ?_<;>intro hF
 ·exact X0 4 rfl (rb h hF rfl)
 refine zKSS (rA [] [4,6] h rfl fun w25 h=>M2 3 [0,1] 0 1 (h.pick [4,6] rfl) rfl (Ao 2 7 rfl (zcO h hF (qjS (h.old ha1)) rfl fun r23 w26 S19 cs11 h hF=>?_)))
 obtain ⟨p28,k28,p29,k29,p30,k30,p31,k31,p32,k32,rfl,-,-,-,-,-⟩:=qD (h.own 0 rfl)
 refine Ag (h.pick [5,7] rfl) (Ao 3 15 rfl (zcB h hF (qpY (h.own 6 rfl) (h.own 0 rfl)) rfl fun r24 w27 h hF=>G0 31 [4] (h.pick [5,7] rfl) rfl (Ad (qi rfl hF ?_ ?_))))<;>intro hF
 ·exact X0 4 rfl (rb h hF rfl)
 refine X0 6 rfl (zcL h hF (qaD ⟨_,_,rfl,(h.oldS s6)⟩) rfl fun r25 w28 S20 p33 k33 h hF=>zcB h hF (qbk (h.own 5 rfl) (h.own 0 rfl)) rfl fun r26 w29 h hF=>X0 2 rfl (qi rfl hF ?_ ?_))<;>intro hF
 ·exact X0 4 rfl (rb h hF rfl)
 refine X0 6 rfl (zcL h hF (qiw ⟨_,_,rfl,(h.oldS s7)⟩) rfl fun r27 w30 S21 p34 k34 h hF=>zcB h hF (qoY (h.own 5 rfl) (h.own 0 rfl)) rfl fun r28 w31 h hF=>X0 2 rfl (qi rfl hF ?_ ?_))<;>intro hF
 ·exact X0 4 rfl (rb h hF rfl)
 refine X0 6 rfl (zcL h hF (qhz ⟨_,_,rfl,(h.oldS s8)⟩) rfl fun r29 w32 S22 p35 k35 h hF=>zcB h hF (qn1 (h.own 5 rfl) (h.own 0 rfl)) rfl fun r30 w33 h hF=>X0 2 rfl (qi rfl hF ?_ ?_))<;>intro hF
 ·exact X0 4 rfl (rb h hF rfl)
 refine X0 6 rfl (zcL h hF (qaD ⟨_,_,rfl,(h.oldS s9)⟩) rfl fun r31 w34 S23 p36 k36 h hF=>zcB h hF (qbk (h.own 5 rfl) (h.own 0 rfl)) rfl fun r32 w35 h hF=>X0 2 rfl (qi rfl hF ?_ ?_))<;>intro hF
 ·exact X0 4 rfl (rb h hF rfl)
 exact X0 5 rfl (rb h hF rfl)
end Go.Fw


namespace Go.Fw
open Go Go.Proofs
open Go.RowKit (Below)
set_option maxRecDepth 100000
set_option maxHeartbeats 1600000
variable {n:Nat} {w:World} {cs1 cs2 cs3 cs4 cs5 cs6 cs7 cs8 cs9:List Value}
end Go.Fw


namespace Go.Fw
open Go
end Go.Fw


namespace Go.Fw
open Go
set_option maxRecDepth 100000
end Go.Fw


namespace Go.Fw
open Go
set_option maxRecDepth 100000
end Go.Fw


namespace Go.Fw
open Go
set_option maxRecDepth 100000
theorem qm4 {b:qe} {c:qy} {br:(List Int)} {xs:(List qg)} {ks:(List ql)} {used:(List Int)} (h0:qnD b) (h1:qmr c) (h2:(rngL rngI) br) (h3:(rngL qi4) xs) (h4:(rngL qhe) ks) (h5:(rngL rngI) used):Ev (fun n=>qgs n b c br xs ks used) true:=by
 unfold qgs
 refine Ev.bif (fun _=>.done) (fun hl=>?_)
 have hl2:br.length≤1048576:=by have:=of_decide_eq_false hl;omega
 refine Ev.bif (fun _=>.done) (fun hl=>?_)
 have hl5:used.length≤1048576:=by have:=of_decide_eq_false hl;omega
 obtain ⟨r1,e1,q1⟩:=qwy (a:=b) (left:=1048576) h0 (by omega) (by omega)
 refine Ev.bind e1 ?_
 rcases q1 with q1|⟨p1,q1⟩
 ·exact Ev.tt (by simpa using q1) .done
 refine Ev.ff (by simp;omega) ?_
 obtain ⟨r2,e2,q2⟩:=qvx (a:=c) (left:=r1) h1 p1 (by omega)
 refine Ev.bind e2 ?_
 rcases q2 with q2|⟨p2,q2⟩
 ·exact Ev.tt (by simpa using q2) .done
 refine Ev.ff (by simp;omega) ?_
 obtain ⟨r3,e3,q3⟩:=quw (a:=xs) (left:=r2) h3 p2 (by omega)
 refine Ev.bind e3 ?_
 rcases q3 with q3|⟨p3,q3⟩
 ·exact Ev.tt (by simpa using q3) .done
 refine Ev.ff (by simp;omega) ?_
 obtain ⟨r4,e4,q4⟩:=qsq (a:=ks) (left:=r3) h4 p3 (by omega)
 refine Ev.bind e4 ?_
 rcases q4 with q4|⟨p4,q4⟩
 ·exact Ev.tt (by simpa using q4) .done
 refine Ev.ff (by simp;omega) ?_
 have w0:qiy b≤1048576:=by omega
 have k0:=quB h0 w0
 have w1:qlR c≤1048576:=by omega
 have k1:=qtr h1 w1
 have w2:qcu br≤1048576:=by unfold qcu;omega
 have k2:=qdq h2 w2
 have w3:qh5 xs≤1048576:=by omega
 have k3:=qsL h3 w3
 have w4:qfI ks≤1048576:=by omega
 have k4:=qqH h4 w4
 have w5:qcu used≤1048576:=by unfold qcu;omega
 have k5:=qdq h5 w5
 obtain ⟨⟨R0,R1⟩,hs,hi⟩:=qsn (b:=b) (c:=c) (br:=br) (xs:=xs) (ks:=ks) (used:=used) k0 k1.Az k2.len k3.len k4.len k5.len
 refine Ev.bind (qqC w0) ?_
 refine Ev.bind (qrX w1) ?_
 refine Ev.bind (qc8 w2) ?_
 refine Ev.bind (qoi w3) ?_
 refine Ev.bind (qmu w4) ?_
 refine Ev.bind (qc8 w5) ?_
 refine Ev.bind hs ?_
 refine Ev.bind (qqC w0) ?_
 refine Ev.bind (qc8 w2) ?_
 refine Ev.bind (qoi w3) ?_
 refine Ev.bind (qmu w4) ?_
 refine Ev.bind (qc8 w5) ?_
 refine Ev.bind (qrX w1) ?_
 refine Ev.bind hi ?_
 refine Ev.bind (b:=false) (Ev.ff (by simp) (Ev.now (by simp))) (Ev.ff rfl ?_)
 refine Ev.bind (qqC w0) ?_
 refine Ev.bind (qwf w0) (Ev.ff rfl ?_)
 refine Ev.bind (qc8 w2) ?_
 refine Ev.bind (qfA w2) (Ev.ff rfl ?_)
 refine Ev.bind (qoi w3) ?_
 refine Ev.bind (qum w3) (Ev.ff rfl ?_)
 refine Ev.bind (qmu w4) ?_
 refine Ev.bind (qsz w4) (Ev.ff rfl ?_)
 refine Ev.bind (qc8 w5) ?_
 refine Ev.bind (qfA w5) (Ev.ff rfl ?_)
 exact .done
end Go.Fw


namespace Go.Fw
open Go
end Go.Fw


namespace Go.Fw
open Go
open Go.RowKit (Below)
structure Same where
 w:World
 K:Nat→Prop
instance instSame:GoT Same where
 k:=1
 agg:=false
 zero:=⟨default,fun _=>False⟩
 zc:=[.bool true]
 R w S x cs:=cs=[.bool true]∧∀ b,x.K b→S b∧w.heap[b]?=x.w.heap[b]?
 O w S x cs:=cs=[.bool true]∧∀ b,x.K b→S b∧w.heap[b]?=x.w.heap[b]?
 kpos:=by decide
 noagg _:=rfl
 len h:=by obtain ⟨rfl,_⟩:=h;rfl
 one h:=by obtain ⟨rfl,_⟩:=h;simp [Value.oneCell']
 loc h hs:=⟨h.1,fun b hb=>⟨(h.2 b hb).1,(hs b (h.2 b hb).1).trans (h.2 b hb).2⟩⟩
 mono h hs:=⟨h.1,fun b hb=>⟨hs b (h.2 b hb).1,(h.2 b hb).2⟩⟩
 toR h:=h
 locO h hs:=⟨h.1,fun b hb=>⟨(h.2 b hb).1,(hs b (h.2 b hb).1).trans (h.2 b hb).2⟩⟩
 monoO h hs:=⟨h.1,fun b hb=>⟨hs b (h.2 b hb).1,(h.2 b hb).2⟩⟩
 zO _ _:=⟨rfl,fun _ h=>h.elim⟩
def FS (F:List Ch) (b:Nat):Prop:=∃ d,d ∈ F∧d.S b
abbrev Fr (w0:World) (F:List Ch) (b:Nat):Prop:=FS F b∨old w0 b
abbrev same (w0 w:World) (F:List Ch):Fct:=fct (⟨w,Fr w0 F⟩:Same) [.bool true]
section
variable {P:Program} {T:Tab} {n:Nat} {Q:Exit→Act→World→Prop} {k:List It} {e:Env} {w0 w w':World} {L L' F:List Ch}
theorem SH.frame (L:List Ch) (h:SH w0 w (L++F)):SH w0 w (L++[Ch.grp (Fw.old w0) (FS F) [same w0 w F]]):=by
 have hp:=List.pairwise_append.1 h.apart
 refine ⟨h.below,fun c hc=>?_,fun c hc=>?_,List.pairwise_append.2 ⟨hp.1,List.pairwise_singleton ..,fun c hc d hd b hb=>?_⟩⟩
 ·rcases List.mem_append.1 hc with hc|hc
  ·exact h.holds c (jP _ hc)
  ·obtain rfl:=List.mem_singleton.1 hc
   refine ⟨fun f hf=>?_,fun b hb=>?_⟩
   ·obtain rfl:=List.mem_singleton.1 hf
    exact ⟨rfl,fun b hb=>⟨hb,rfl⟩⟩
   ·obtain ⟨d,hd,hb⟩:=hb
    exact (h.holds d (List.mem_append_right _ hd)).2 b hb
 ·rcases List.mem_append.1 hc with hc|hc
  ·exact h.elder c (jP _ hc)
  ·obtain rfl:=List.mem_singleton.1 hc
   exact fun b hb=>hb
 ·obtain rfl:=List.mem_singleton.1 hd
  rintro ⟨d,hd,hdb⟩
  exact hp.2.2 c hc d hd b hb hdb
variable {α:Type} [GoT α] {x:α} {cs:List Value} {S D:Nat→Prop} {fs:List Fct}
end
section
open Go.ChangeShapes Go.RowKit
variable {H:Type} {enc:TypeId × Value→H} {P:Program} {w:World} {base:Nat} {spare:Nat→Bool} {held:Bool}
theorem qtT {t0 t1 t2 t3 t4 t5:TypeId} {args:Array Value} {ds:List (DataW H)} {ps:List MemPlace} (h:DataW.TrodAll enc P w base spare held [t0,t1,t2,t3,t4,t5] args.toList ds ps) :
  ∃ v0 v1 v2 v3 v4 v5 d0 d1 d2 d3 d4 d5 p0 p1 p2 p3 p4 p5,args=#[v0,v1,v2,v3,v4,v5]∧ds=[d0,d1,d2,d3,d4,d5]∧ps=p0++p1++p2++p3++p4++p5∧DataW.Trod enc P w base spare held t0 v0 d0 p0∧DataW.Trod enc P w base spare held t1 v1 d1 p1∧DataW.Trod enc P w base spare held t2 v2 d2 p2∧DataW.Trod enc P w base spare held t3 v3 d3 p3∧DataW.Trod enc P w base spare held t4 v4 d4 p4∧DataW.Trod enc P w base spare held t5 v5 d5 p5:=by
 obtain ⟨v0,vs0,d0,ds0,p0,q0,hargs,rfl,rfl,g0,k0⟩:=trodAll_cons h
 obtain ⟨v1,vs1,d1,ds1,p1,q1,rfl,rfl,rfl,g1,k1⟩:=trodAll_cons k0
 obtain ⟨v2,vs2,d2,ds2,p2,q2,rfl,rfl,rfl,g2,k2⟩:=trodAll_cons k1
 obtain ⟨v3,vs3,d3,ds3,p3,q3,rfl,rfl,rfl,g3,k3⟩:=trodAll_cons k2
 obtain ⟨v4,vs4,d4,ds4,p4,q4,rfl,rfl,rfl,g4,k4⟩:=trodAll_cons k3
 obtain ⟨v5,vs5,d5,ds5,p5,q5,rfl,rfl,rfl,g5,k5⟩:=trodAll_cons k4
 obtain ⟨rfl,rfl,rfl⟩:=trodAll_nil k5
 exact ⟨v0,v1,v2,v3,v4,v5,d0,d1,d2,d3,d4,d5,p0,p1,p2,p3,p4,p5,by cases args;simp_all,rfl,by simp,g0,g1,g2,g3,g4,g5⟩
end
end Go.Fw
