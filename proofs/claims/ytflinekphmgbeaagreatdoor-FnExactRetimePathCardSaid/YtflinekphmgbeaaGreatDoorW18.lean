/- Plain laws: the delay and the slew of a link. -/
import Derived.Test.YtflinekphmgbeaaGreatDoorW8
import Derived.Test.YtflinekphmgbeaaGreatDoorB9
import Derived.Test.YtflinekphmgbeaaGreatDoorFw32
open Option renaming bind_some → ja
open Nat renaming le_refl → jb, mul_le_mul_right → jm, le_of_ble_eq_true → jq, lt_of_lt_of_le → js, succ_mul → jF, zero_add → jU
open Bool renaming and_eq_true → jc, eq_iff_iff → jh, true_and → jw, not_eq_true' → jE, not_true → jW
open Go.Result renaming andThen_ok → jd
open List renaming length_append → je, getElem?_eq_getElem → jf, mem_cons_of_mem → jk, length_singleton → jn, getElem_mem → jo, append_assoc → jp, getElem?_append_left → jr, mem_cons_self → jt, take_succ_eq_append_getElem → ju, length_map → jv, getElem?_take → jx, getElem?_append_right → jy, getD_eq_getElem?_getD → jz, getElem?_toArray → jA, take_length → jB, eq_nil_of_length_eq_zero → jC, drop_eq_getElem_cons → jD, not_mem_nil → jH, length_replicate → jI, size_toArray → jJ, all_eq_true → jM, length_take → jN, getElem_of_mem → jO, map_append → jP, mem_cons → jR, ext_getElem → jT
open Go.Sem renaming run_bind → jg, run_pure → ji
open Int renaming toNat_natCast → jj, tdiv_eq_ediv_of_nonneg → jG, mul_nonneg → jL, mul_assoc → jQ, mul_le_mul → jS, le_refl → jV
open Array renaming getElem?_append_left → jK

namespace Go.Fw
open Go
set_option maxRecDepth 100000
theorem qsp {α:Type} {f:Nat→List α} {n:Nat} {x:α} (h:x ∈ fm f n):∃ j,j<n∧x ∈ f j:=by
 unfold fm at h
 obtain ⟨j,h1,h2⟩:=List.mem_flatMap.1 h
 exact ⟨j,List.mem_range.1 h1,h2⟩
theorem qui {x:Int} {j:Nat} {t:Int} (ht:b01 t) (hj:j≤100000) (e:x=2*(j:Int)+t):W64 (x.tdiv 2)=(j:Int)∧x.tmod 2=t:=by
 have ht':0≤t∧t≤1:=by rcases ht with e|e<;>omega
 have hx:0≤x:=by omega
 rw [jG hx,Int.tmod_eq_emod_of_nonneg hx,qaw (by omega) (by omega)]
 omega
structure CLk (b:qf) (x:qq) (i j m net a:Nat):Prop where
 kind:x.Bf=1
 il:i<b.Ab.Aa.length
 jl:j<(places b.Ab).length
 inst:(gt (places b.Ab) j).instance_=(i:Int)
 net_:(gt (places b.Ab) j).net=(net:Int)
 nl:net<b.Ac.length
 half:W64 (x.To.tdiv 2)=(j:Int)
 mod:x.To.tmod 2=(m:Int)
 ml:m<2
 ix:x.Bz=(a:Int)
 al:a<(cellAt b (i:Int)).Au.length
 d2:(gt (cellAt b (i:Int)).Au a).Bp.length=2
 s2:(gt (cellAt b (i:Int)).Au a).Bc.length=2
 dt:∀ t,t ∈ (gt (cellAt b (i:Int)).Au a).Bp→TbOk t∧∀ k,0≤at0 t.Bh k
 st:∀ t,t ∈ (gt (cellAt b (i:Int)).Au a).Bc→TbOk t∧∀ k,0≤at0 t.Bh k
structure WLk (b:qf) (x:qq) (j net k:Nat):Prop where
 kind:x.Bf=2
 jl:j<(places b.Ab).length
 net_:(gt (places b.Ab) j).net=(net:Int)
 nl:net<b.Ac.length
 half:W64 (x.To.tdiv 2)=(j:Int)
 ix:x.Bz=(k:Int)
 kl:k<(gt b.Ac net).Bl.length
theorem qyv {xs:List Int} (h:0≤mnL xs) (k:Nat):0≤at0 xs k:=by
 have fold:∀ (ys:List Int) (a:Int),(ys.foldl (fun (m y:Int)=>if y<m then y else m) a≤a)∧∀ y,y ∈ ys→ys.foldl (fun (m y:Int)=>if y<m then y else m) a≤y:=by
  intro ys
  induction ys with
  | nil=>intro a;exact ⟨jV _,fun y hy=>by cases hy⟩
  | cons z ys ih =>
   intro a
   rw [List.foldl_cons]
   obtain ⟨h1,h2⟩:=ih (if z<a then z else a)
   refine ⟨?_,fun y hy=>?_⟩
   ·split at h1<;>split<;>omega
   ·rcases List.mem_cons.1 hy with e|e
    ·subst e;split at h1<;>split<;>omega
    ·exact h2 y e
 by_cases hk:k<xs.length
 ·have hm:xs[k] ∈ xs.drop 1∨k=0:=by
   by_cases h0:k=0
   ·exact .inr h0
   ·refine .inl ?_
    have:xs[k]=(xs.drop 1)[k-1]'(by rw [List.length_drop];omega):=by
     rw [List.getElem_drop]
     congr 1;omega
    rw [this]
    exact jo _
  rw [qkc hk]
  unfold mnL at h
  rcases hm with hm|h0
  ·exact Int.le_trans h ((fold _ _).2 _ hm)
  ·subst h0
   have:=(fold (xs.drop 1) (at0 xs 0)).1
   rw [←qkc hk]
   exact Int.le_trans h this
 ·rw [qus hk];exact jV _
theorem qqI {ts:List qv} (h:tablesB ts true=true):ts.length=2∧∀ t,t ∈ ts→TbOk t∧∀ k,0≤at0 t.Bh k:=by
 unfold tablesB at h
 rw [jc,decide_eq_true_eq,jM] at h
 refine ⟨h.1,fun t ht=>?_⟩
 have:=h.2 t ht
 unfold tabB at this
 simp only [jW,Bool.false_or,jc,decide_eq_true_eq] at this
 exact ⟨quV this.1,qyv this.2⟩
theorem qtr {ps:List qaq} {a:qP} (h:arcS ps a=true) (h3:a.Bf≤3) (h1:1≤a.Bf):a.To=(ps.length:Int)-1∧tablesB a.Bp true=true∧tablesB a.Bc true=true:=by
 unfold arcS at h
 rcases (by omega:a.Bf=1∨a.Bf=2∨a.Bf=3) with e|e|e
 ·rw [e] at h
  simp only [beq_self_eq_true,cond_true,jc,beq_iff_eq] at h
  exact ⟨h.2.2.1,h.2.2.2.2⟩
 ·rw [e] at h
  simp only [show ((2:Int)==1)=false from rfl,cond_false,beq_self_eq_true,Bool.true_or,cond_true,jc,beq_iff_eq] at h
  exact ⟨h.2.2.1,h.2.2.2.2⟩
 ·rw [e] at h
  simp only [show ((3:Int)==1)=false from rfl,cond_false,beq_self_eq_true,Bool.or_true,cond_true,jc,beq_iff_eq] at h
  exact ⟨h.2.2.1,h.2.2.2.2⟩
theorem qti {a:qP} {t:qH} (h:t ∈ transL a):1≤a.Bf∧a.Bf≤3:=by
 refine ⟨?_,?_⟩<;>refine Int.le_of_not_gt fun hg=>?_
 ·have:arcLs 0 0 a=[]:=by
   unfold arcLs transL
   rw [show (a.Bf==2)=false from beq_eq_false_iff_ne.2 (by omega),show (a.Bf==3)=false from beq_eq_false_iff_ne.2 (by omega),show (a.Bf != 1)=true from bne_iff_ne.2 (by omega)]
   rfl
  unfold arcLs at this
  rw [List.map_eq_nil_iff] at this
  rw [this] at h;cases h
 ·have:arcLs 0 0 a=[]:=qo8 hg
  unfold arcLs at this
  rw [List.map_eq_nil_iff] at this
  rw [this] at h;cases h
theorem qhz {b:qf} (h:blockB b=true) {x:qq} (hx:x ∈ linksL b):((∃ i j m net a,CLk b x i j m net a)∨∃ j net k,WLk b x j net k)∧(0≤x.Bk∧x.Bk<2*((places b.Ab).length:Int))∧(0≤x.To∧x.To<2*((places b.Ab).length:Int)):=by
 have hd:=qar h
 have hs:=qW hd
 have hl:=qa1 hs
 have hwl:=qlM h
 unfold linksL at hx
 rcases List.mem_append.1 hx with hx|hx
 ·obtain ⟨i,hi,hx⟩:=qsp hx
  obtain ⟨a,ha,hx⟩:=qsp hx
  unfold arcLs at hx
  obtain ⟨t,ht,rfl⟩:=List.mem_map.1 hx
  obtain ⟨⟨c0,c1⟩,hnl,hcb⟩:=qgQ hd hi
  have hcA:cellAt b (i:Int)=gt b.Av.Aq (gt b.Ab.Aa i).Bs.toNat:=rfl
  rw [←hcA] at hnl hcb
  obtain ⟨⟨k1,k5⟩,hf,hto,hA⟩:=qmU hcb ha
  obtain ⟨g1,g3⟩:=qti ht
  obtain ⟨t0,t1⟩:=qrh ht
  obtain ⟨eT,tD,tS⟩:=qtr hA g3 g1
  obtain ⟨d2,dt⟩:=qqI tD
  obtain ⟨s2,st⟩:=qqI tS
  have hpb:=(qgi (qiz hcb)).1
  have hk:(cellAt b (i:Int)).Be.length-1<(gt b.Ab.Aa i).Am.length:=by omega
  obtain ⟨hj,ej⟩:=qjX hi hk
  obtain ⟨n0,n1⟩:=qlF hd hj
  have e1:(al1 (off b.Ab i:Int) a (gt (cellAt b (i:Int)).Au a) t).To=2*((off b.Ab i+((cellAt b (i:Int)).Be.length-1):Nat):Int)+t.e1:=by
   show 2*((off b.Ab i:Int)+(gt (cellAt b (i:Int)).Au a).To)+t.e1=_
   rw [eT];omega
  obtain ⟨hh,hm⟩:=qui t1 (by omega) e1
  obtain ⟨m,em⟩:∃ m:Nat,t.e1=(m:Int):=⟨t.e1.toNat,by rcases t1 with e|e<;>omega⟩
  have hfr:off b.Ab i+(gt (cellAt b (i:Int)).Au a).Bk.toNat<(places b.Ab).length:=(qjX hi (k:=(gt (cellAt b (i:Int)).Au a).Bk.toNat) (by omega)).1
  have e2:(al1 (off b.Ab i:Int) a (gt (cellAt b (i:Int)).Au a) t).Bk=2*((off b.Ab i:Int)+(gt (cellAt b (i:Int)).Au a).Bk)+t.e0:=rfl
  refine ⟨.inl ⟨i,_,m,(gt (places b.Ab) (off b.Ab i+((cellAt b (i:Int)).Be.length-1))).net.toNat,a,⟨rfl,hi,hj,by rw [ej];rfl,qea n0,by omega,hh,by rw [hm,em],by rcases t1 with e|e<;>omega,rfl,ha,d2,s2,dt,st⟩⟩,?_,?_⟩
  ·rw [e2]
   rcases t0 with e|e<;>rw [e]<;>omega
  ·rw [e1]
   rcases t1 with e|e<;>rw [e]<;>omega
 ·obtain ⟨i,hi,hx⟩:=qsp hx
  obtain ⟨k,hk,hx⟩:=qsp hx
  obtain ⟨y,hy,ey,hq⟩:=qoU hk
  have hdv:=(qjd hd (k:=i) (by omega)).1
  have hw:=qbo h hi
  have hq':(gt (places b.Ab) y).net=(i:Int):=by
   unfold snkQ at hq
   simp only [jc,beq_iff_eq] at hq
   exact hq.1
  have main:∀ t:Int,b01 t→x=⟨2*(dvN b.Ab i:Int)+t,2*at0 (skL b i) k+t,2,(k:Int)⟩→((∃ i j m net a,CLk b x i j m net a)∨∃ j net k,WLk b x j net k)∧(0≤x.Bk∧x.Bk<2*((places b.Ab).length:Int))∧(0≤x.To∧x.To<2*((places b.Ab).length:Int)):=by
   intro t ht e
   have e1:x.To=2*(y:Int)+t:=by rw [e,ey]
   have e2:x.Bk=2*(dvN b.Ab i:Int)+t:=by rw [e]
   obtain ⟨hh,hm⟩:=qui ht (by omega) e1
   refine ⟨.inr ⟨y,i,k,⟨by rw [e],hy,hq',hi,hh,by rw [e],by rw [hw.snk];exact hk⟩⟩,?_,?_⟩
   ·rw [e2]
    rcases ht with e|e<;>rw [e]<;>omega
   ·rw [e1]
    rcases ht with e|e<;>rw [e]<;>omega
  unfold wl1 at hx
  simp only [jR,jH,or_false] at hx
  rcases hx with hx|hx
  ·exact main 0 (.inl rfl) (by rw [hx,Int.add_zero,Int.add_zero])
  ·exact main 1 (.inr rfl) hx
theorem qlJ {α:Type} [Inhabited α] {xs:List α} {k:Nat} (h:k<xs.length):gt xs k ∈ xs:=by rw [qeZ h];exact jo h
theorem qlk {b:qf} (h:blockB b=true):LkOk (linksL b) (2*(places b.Ab).length) where
 len:=qgr h
 nodes:=by have:=qa1 (qW (qar h));omega
 fr0:=fun x hx=>(qhz h (qlJ hx)).2.1.1
 fr1:=fun x hx=>by have:=(qhz h (qlJ hx)).2.1.2;omega
 to0:=fun x hx=>(qhz h (qlJ hx)).2.2.1
 to1:=fun x hx=>by have:=(qhz h (qlJ hx)).2.2.2;omega
theorem qrv {c:qr} (h:cornerB c=true) {kind mode:Int}:∃ f:Int,100≤f∧f≤5000∧(∀ n,qgq n c kind mode=some f)∧∀ n,qeh n c kind mode=some f:=by
 unfold cornerB at h
 simp only [jc,qa7,decide_eq_true_eq] at h
 obtain ⟨⟨h1,h2,h3,h4⟩,_⟩:=h
 unfold qgq qeh
 cases kind==1
 ·cases mode==0
  ·exact ⟨_,h4.1,h4.2,fun _=>rfl,fun _=>rfl⟩
  ·exact ⟨_,h3.1,h3.2,fun _=>rfl,fun _=>rfl⟩
 ·cases mode==0
  ·exact ⟨_,h2.1,h2.2,fun _=>rfl,fun _=>rfl⟩
  ·exact ⟨_,h1.1,h1.2,fun _=>rfl,fun _=>rfl⟩
theorem qta {p f mode:Int} (p0:0≤p) (p1:p≤400000000000) (f0:0≤f) (f1:f≤5000):(∀ n,qcp n (W64 (p*f)) 1000 mode=some (divI (p*f) 1000 mode))∧∀ n,qkj n p f mode=some (divI (p*f) 1000 mode):=by
 have h0:=jL p0 f0
 have h1:p*f≤400000000000*5000:=jS p1 f1 f0 (by omega)
 have e:W64 (p*f)=p*f:=qaw (by omega) (by omega)
 have hd:=fun n=>qj5 (n:=n) (a:=p*f) (b:=1000) (mode:=mode) (by omega) (by omega) (by omega)
 refine ⟨fun n=>by rw [e];exact hd n,fun n=>?_⟩
 unfold qkj
 rw [e,qsn (m:=0),hd 0]
 rfl
theorem qv8 {l h H:Int} (h0:0≤l) (h1:l<h) (h2:h≤H) (hH:H≤3000000000):W64 (W64 (W64 (l+h)+1) |>.tdiv 2)=(l+h+1) / 2∧W64 ((l+h+1) / 2*((l+h+1) / 2))=(l+h+1) / 2*((l+h+1) / 2)∧W64 ((l+h+1) / 2-1)=(l+h+1) / 2-1:=by
 have hm:0≤(l+h+1) / 2∧(l+h+1) / 2≤3000000000:=by omega
 have hq:(l+h+1) / 2*((l+h+1) / 2)≤3000000000*3000000000:=jS hm.2 hm.2 hm.1 (by omega)
 have hq0:=jL hm.1 hm.1
 rw [wO (l+h),wO (l+h+1),jG (by omega),wO ((l+h+1) / 2),wO ((l+h+1) / 2-1)]
 exact ⟨rfl,qaw (by omega) (by omega),rfl⟩
theorem qvJ {y mode:Int} (h0:0≤y) (h1:y≤4000000000000000000):∃ v,IsRoot y v∧v≤2000000000∧Ev (fun n=>qil n y mode) (if mode=1∧v*v<y then v+1 else v):=by
 obtain ⟨v,r1,r2,r3⟩:=qrF (Lf:=fun n l h=>qdu y n l h) (fin:=fun l=>(l,l)) (x:=y) (H:=2000000000) h0 (by omega) (by omega)
  (fun n l _ _=>by simp only [qdu,show decide (l<l)=false from decide_eq_false (Int.lt_irrefl l),cond_false])
  (fun n l h hl hlt hh=>by
   obtain ⟨e1,e2,e3⟩:=qv8 hl hlt hh (by omega)
   simp only [qdu,decide_eq_true hlt,cond_true,e1,e2,e3])
 refine ⟨v,r1,r2,?_⟩
 unfold qil
 refine Ev.bind r3 ?_
 have hv:=r1.pos
 have hq:v*v≤2000000000*2000000000:=jS r2 r2 hv (by omega)
 have hq0:=jL hv hv
 simp only [wO (v*v),wO (v+1)]
 by_cases hm:mode=1
 ·refine Ev.tt (by simpa using hm) ?_
  by_cases hl:v*v<y
  ·rw [if_pos ⟨hm,hl⟩];exact Ev.tt (decide_eq_true hl) .done
  ·rw [if_neg fun h=>hl h.2];exact Ev.ff (decide_eq_false hl) .done
 ·rw [if_neg fun h=>hm h.1]
  exact Ev.ff (by simpa using hm) .done
theorem qvX {y:Int} (h0:0≤y) (h1:y≤4000000000000000000):∃ v,IsRoot y v∧v≤3000000000∧Ev (fun n=>qnc n y) v:=by
 obtain ⟨v,r1,r2,r3⟩:=qrF (Lf:=fun n l h=>qfu y n l h) (fin:=fun l=>(l,l)) (x:=y) (H:=3000000000) h0 (by omega) (by omega)
  (fun n l _ _=>by simp only [qfu,show decide (l<l)=false from decide_eq_false (Int.lt_irrefl l),cond_false])
  (fun n l h hl hlt hh=>by
   obtain ⟨e1,e2,e3⟩:=qv8 hl hlt hh (by omega)
   simp only [qfu,decide_eq_true hlt,cond_true,e1,e2,e3])
 refine ⟨v,r1,r2,?_⟩
 unfold qnc
 exact Ev.bind r3 .done
theorem quM {sl d mode:Int} (s0:0≤sl) (s1:sl≤1000000) (d0:0≤d) (d1:d≤344000000) (hm:mode=0∨mode=1):∃ r:Int,0≤r ∧
  Ev (fun n=>(qil n (W64 (W64 (W64 (1000000*sl)*sl)+W64 (W64 (4*d)*d))) mode).bind fun r2=>(qcp n r2 1000 mode).bind fun r3=>some r3) r∧Ev (fun n=>qiN n sl d mode) r:=by
 have q1:=jL s0 s0
 have q2:sl*sl≤1000000*1000000:=jS s1 s1 s0 (by omega)
 have q3:=jL d0 d0
 have q4:d*d≤344000000*344000000:=jS d1 d1 d0 (by omega)
 have e1:W64 (W64 (W64 (1000000*sl)*sl)+W64 (W64 (4*d)*d))=4*(250000*(sl*sl)+d*d):=by
  rw [wO (1000000*sl),wO (4*d),jQ 1000000,jQ 4,wO (1000000*(sl*sl)),wO (4*(d*d)),qaw (by omega) (by omega)]
  omega
 have e2:W64 (W64 (W64 (W64 (500*sl)*500)*sl)+W64 (d*d))=250000*(sl*sl)+d*d:=by
  rw [wO (500*sl),wO (500*sl*500),show 500*sl*500*sl=250000*(sl*sl) by rw [←jQ];congr 1;omega,wO (250000*(sl*sl)),wO (d*d),qaw (by omega) (by omega)]
 obtain ⟨v,v1,v2,v3⟩:=qvJ (mode:=mode) (y:=4*(250000*(sl*sl)+d*d)) (by omega) (by omega)
 obtain ⟨w,w1,w2,w3⟩:=qvX (y:=250000*(sl*sl)+d*d) (by omega) (by omega)
 have hr:=qtu w1 v1 hm
 have hv:=v1.pos
 have hw:=w1.pos
 have hv1:0≤(if mode=1∧v*v<4*(250000*(sl*sl)+d*d) then v+1 else v)∧(if mode=1∧v*v<4*(250000*(sl*sl)+d*d) then v+1 else v)≤1000*3000000:=by split<;>omega
 refine ⟨_,(qsi (b:=1000) (mode:=mode) (M:=3000000) (by omega) hv1.1 hv1.2).1,?_,?_⟩
 ·rw [e1]
  exact Ev.bind v3 (Ev.bind ⟨0,fun n _=>qj5 (by omega) (by omega) (by omega)⟩ .done)
 ·rw [hr]
  unfold qiN
  rw [e2]
  refine Ev.bind w3 ?_
  have hq:w*w≤3000000000*3000000000:=jS w2 w2 hw (by omega)
  have hq0:=jL hw hw
  have ed:(fun n=>qeJ n w 500 mode)=fun _=>some (divI w 500 mode):=by
   funext n
   rw [qsn (m:=0),qj5 (by omega) (by omega) (by omega)]
  have hdv:=congrFun ed
  simp only [wO (w*w),jG hw,wO (w / 500),wO (w / 500+1),hdv,ja]
  rcases hm with rfl|rfl
  ·rw [if_neg (by omega)]
   exact .done
  ·by_cases hl:w*w<250000*(sl*sl)+d*d
   ·rw [if_pos ⟨rfl,hl⟩,decide_eq_true hl];exact .done
   ·rw [if_neg fun h=>hl h.2,decide_eq_false hl];exact .done
theorem qsF {t:qv} (h:TbOk t∧∀ k,0≤at0 t.Bh k) (sl ld mode:Int):∃ r:Int,0≤r∧r≤1000000∧Ev (fun n=>qgE n t sl ld mode) r∧Ev (fun n=>qdn n t sl ld mode) r:=by
 obtain ⟨S,D,D0,S1,_,_,_,S0,hev⟩:=qw9 h.1 sl ld
 obtain ⟨r0,r1⟩:=qsi (mode:=mode) D0 (S0 h.2) S1
 exact ⟨_,r0,r1,hev mode⟩
theorem qtB {b:qf} {ex:List Int} {x:qq} {j net:Nat} (jl:j<(places b.Ab).length) (hn:(gt (places b.Ab) j).net=(net:Int)) (hh:W64 (x.To.tdiv 2)=(j:Int)) (n:Nat):qex n (some (viewE b ex)) x=some (net:Int):=by
 unfold qex
 show (idx (places b.Ab) (W64 (x.To.tdiv 2))).bind _=_
 rw [hh,qA jl]
 exact congrArg some hn
theorem qvM {b:qf} {ex:List Int} (h:blockB b=true) {x:qq} {i j m net a:Nat} (hx:CLk b x i j m net a) (n:Nat):qfR n (some (viewE b ex)) x=some (gt (cellAt b (i:Int)).Au a):=by
 obtain ⟨⟨c0,c1⟩,_,_⟩:=qgQ (qar h) hx.il
 unfold qfR
 show (idx (places b.Ab) (W64 (x.To.tdiv 2))).bind (fun y2=>(idx b.Ab.Aa y2.instance_).bind fun y3=>(idx b.Av.Aq y3.Bs).bind fun y4=>(idx y4.Au x.Bz).bind fun y5=>some y5)=_
 rw [hx.half,qA hx.jl,ja,hx.inst,qA hx.il,ja,qdy c0 c1,ja,hx.ix]
 show (idx (cellAt b (i:Int)).Au (a:Int)).bind _=_
 rw [qA hx.al];rfl
theorem qrH {b:qf} (h:blockB b=true) {x:qq} {i j m net a:Nat} (hx:CLk b x i j m net a):Ev (fun n=>qje n b x) (gt (cellAt b (i:Int)).Au a,load0 b net):=by
 have hd:=qar h
 have hs:=qW hd
 obtain ⟨⟨c0,c1⟩,_,_⟩:=qgQ hd hx.il
 have hp:idx ((places b.Ab).map toSp) (j:Int)=some (toSp (gt (places b.Ab) j)):=by
  refine qax ?_
  rw [List.getElem?_map,jf hx.jl,qeZ hx.jl];rfl
 have hll:=qlZ h hx.nl
 have hlo:=(qbo h hx.nl).lo
 have h1:(toSp (gt (places b.Ab) j)).instance_=(i:Int):=hx.inst
 have h2:(toSp (gt (places b.Ab) j)).net=(net:Int):=hx.net_
 have h3:idx (gt b.Av.Aq (gt b.Ab.Aa i).Bs.toNat).Au (a:Int)=some (gt (cellAt b (i:Int)).Au a):=qA hx.al
 unfold qje
 refine Ev.bind (qhD hs) ?_
 simp only [hx.half,hp,ja,h1,h2,qA hx.il,qdy c0 c1,hx.ix,h3]
 refine Ev.bind (qpc h hx.nl) ?_
 rw [show idx (loadsL b net) (0:Int)=some (load0 b net) from qA (j:=0) (by omega)]
 exact .done
theorem qrA {b:qf} (h:blockB b=true) {x:qq} {j net k:Nat} (hx:WLk b x j net k):Ev (fun n=>qjo n b x) (net:Int):=by
 have hs:=qW (qar h)
 have hp:idx ((places b.Ab).map toSp) (j:Int)=some (toSp (gt (places b.Ab) j)):=by
  refine qax ?_
  rw [List.getElem?_map,jf hx.jl,qeZ hx.jl];rfl
 have h2:(toSp (gt (places b.Ab) j)).net=(net:Int):=hx.net_
 unfold qjo
 refine Ev.bind (qhD hs) ?_
 simp only [hx.half,hp,ja,h2]
 exact .done
theorem qpS {b:qf} {c:qr} (ex:List Int) (h:blockB b=true) (hc:cornerB c=true) {k:Nat} (hk:k<(linksL b).length) {sl mode:Int} (s0:0≤sl) (s1:sl≤1000000) (hm:mode=0∨mode=1) :
  (∃ D:Int,Ev (fun n=>qbN n b c (gt (linksL b) k) sl mode) D∧Ev (fun n=>qa8 n (some (viewE b ex)) c (k:Int) sl mode) D) ∧
  ∃ S:Int,0≤S∧S≤1000000∧Ev (fun n=>qcb n b (gt (linksL b) k) sl mode) S∧Ev (fun n=>qaF n (some (viewE b ex)) (k:Int) sl mode) S:=by
 have hv:idx (viewE b ex).links (k:Int)=some (gt (linksL b) k):=qA hk
 obtain ⟨hx,_⟩:=qhz h (qlJ hk)
 generalize gt (linksL b) k=x at hx hv
 rcases hx with ⟨i,j,m,net,a,hx⟩|⟨j,net,q,hx⟩
 ·have hnet:=qtB (ex:=ex) hx.jl hx.net_ hx.half
  have harc:=qvM (ex:=ex) h hx
  have hld:idx (viewE b ex).loads (net:Int)=some (load0 b net):=qhu (f:=load0 b) hx.nl
  obtain ⟨f,f0,f1,sF,iF⟩:=qrv hc (kind:=x.Bf) (mode:=mode)
  have dl:m<(gt (cellAt b (i:Int)).Au a).Bp.length:=by rw [hx.d2];exact hx.ml
  have sL:m<(gt (cellAt b (i:Int)).Au a).Bc.length:=by rw [hx.s2];exact hx.ml
  obtain ⟨r,r0,r1,rs,ri⟩:=qsF (hx.dt _ (qlJ dl)) sl (load0 b net) mode
  obtain ⟨u,u0,u1,us,ui⟩:=qsF (hx.st _ (qlJ sL)) sl (load0 b net) mode
  obtain ⟨c1,c2⟩:=qta (mode:=mode) r0 (by omega) (show 0≤f by omega) f1
  have hk1:(x.Bf==1)=true:=by rw [hx.kind];rfl
  refine ⟨⟨divI (r*f) 1000 mode,?_,?_⟩,⟨u,u0,u1,?_,?_⟩⟩
  ·unfold qbN
   refine Ev.tt hk1 (Ev.bind (qrH h hx) ?_)
   simp only [hx.mod,qA dl,ja,sF]
   exact Ev.bind rs (Ev.bind ⟨0,fun n _=>c1 n⟩ .done)
  ·unfold qa8
   simp only [ja,hv,hnet,hld,harc,hx.mod,qA dl,iF]
   exact Ev.tt hk1 (Ev.bind ri (Ev.bind ⟨0,fun n _=>c2 n⟩ .done))
  ·unfold qcb
   refine Ev.tt hk1 (Ev.bind (qrH h hx) ?_)
   simp only [hx.mod,qA sL,ja]
   exact Ev.bind us .done
  ·unfold qaF
   simp only [ja,hv,hnet,hld,harc,hx.mod,qA sL]
   refine Ev.tt hk1 (Ev.bind ui (Ev.now ?_))
   rw [if_neg (by omega)]
 ·have hnet:=qtB (ex:=ex) hx.jl hx.net_ hx.half
  have hde:idx (viewE b ex).delays (net:Int)=some (exactL b net):=qhu (f:=exactL b) hx.nl
  have hel:(exactL b net).length=(gt b.Ac net).Bl.length:=by unfold exactL;rw [jv]
  have hq:q<(exactL b net).length:=by rw [hel];exact hx.kl
  obtain ⟨x0,x1⟩:=qqd h hx.nl hx.kl
  obtain ⟨f,f0,f1,sF,iF⟩:=qrv hc (kind:=x.Bf) (mode:=mode)
  have dd:=fun n=>qj5 (n:=n) (a:=gt (exactL b net) q) (b:=1000) (mode:=mode) (by omega) (by omega) (by omega)
  obtain ⟨p0,p1⟩:=qsi (a:=gt (exactL b net) q) (b:=1000) (mode:=mode) (M:=344000) (by omega) x0 (by omega)
  obtain ⟨c1,c2⟩:=qta (mode:=mode) p0 (by omega) (show 0≤f by omega) f1
  have hk1:(x.Bf==1)=false:=by rw [hx.kind];rfl
  have hi:idx ((exactL b net).map fun x=>divI x 1000 mode) (q:Int)=some (divI (gt (exactL b net) q) 1000 mode):=by
   rw [qA (by rw [jv];exact hq),qoX hq]
  obtain ⟨u,u0,us,ui⟩:=quM s0 s1 x0 x1 hm
  refine ⟨⟨divI (divI (gt (exactL b net) q) 1000 mode*f) 1000 mode,?_,?_⟩,⟨if u<1000000 then u else 1000000,by split<;>omega,by split<;>omega,?_,?_⟩⟩
  ·unfold qbN
   refine Ev.ff hk1 (Ev.bind (qrA h hx) (Ev.bind (qo3 h hx.nl) ?_))
   simp only [hx.ix,hi,ja,sF]
   exact Ev.bind ⟨0,fun n _=>c1 n⟩ .done
  ·unfold qa8
   simp only [ja,hv,hnet,hde,hx.ix,qA hq,iF]
   refine Ev.ff hk1 (Ev.bind (b:=divI (gt (exactL b net) q) 1000 mode) ⟨0,fun n _=>(qsn (m:=0)).trans (dd 0)⟩ (Ev.bind ⟨0,fun n _=>c2 n⟩ .done))
  ·have hw:=qbo h hx.nl
   have hsn:=hw.sin q hx.kl
   have hdl:=qmW h hx.nl
   have eg:gt (exactL b net) q=gt (delaysL b net) (at0 (gt b.Ac net).Bl q).toNat:=by
    unfold exactL
    rw [qeZ (by rw [jv];exact hx.kl),List.getElem_map,qkc hx.kl]
   unfold qcb qlV
   refine Ev.ff hk1 (Ev.bind (qrA h hx) ?_)
   simp only [hx.ix,qA hx.nl,ja,qaf hx.kl]
   refine Ev.bind (b:=u) (Ev.bind (qnP h hx.nl) ?_) .done
   rw [qdy hsn.1 (show at0 (gt b.Ac net).Bl q<((delaysL b net).length:Int) by omega)]
   simp only [ja]
   rw [←eg]
   exact us
  ·unfold qaF
   simp only [ja,hv,hnet,hde,hx.ix,qA hq]
   refine Ev.ff hk1 (Ev.bind ui (Ev.now ?_))
   congr 1
   split<;>split<;>omega
theorem qpU {b:qf} {c:qr} (h:blockB b=true) (hc:cornerB c=true) {k:Nat} (hk:k<(linksL b).length) {sl mode:Int} (s0:0≤sl) (s1:sl≤1000000) (hm:mode=0∨mode=1) :
  (∃ D:Int,Ev (fun n=>qbN n b c (gt (linksL b) k) sl mode) D∧∀ ex,Ev (fun n=>qa8 n (some (viewE b ex)) c (k:Int) sl mode) D) ∧
  ∃ S:Int,0≤S∧S≤1000000∧Ev (fun n=>qcb n b (gt (linksL b) k) sl mode) S∧∀ ex,Ev (fun n=>qaF n (some (viewE b ex)) (k:Int) sl mode) S:=by
 obtain ⟨⟨D,d1,_⟩,⟨S,a,c',s1',_⟩⟩:=qpS [] h hc hk s0 s1 hm
 refine ⟨⟨D,d1,fun ex=>?_⟩,⟨S,a,c',s1',fun ex=>?_⟩⟩
 ·obtain ⟨⟨D',e1,e2⟩,_⟩:=qpS ex h hc hk s0 s1 hm
  rw [d1.uniq e1];exact e2
 ·obtain ⟨_,⟨S',_,_,e1,e2⟩⟩:=qpS ex h hc hk s0 s1 hm
  rw [s1'.uniq e1];exact e2
end Go.Fw


namespace Go.Fw
open Go
set_option maxRecDepth 100000
def slR (s:qe):Prop:=(0≤s.Ap∧s.Ap≤1000000)∧(0≤s.Bd∧s.Bd≤1000000)
def SpansS (b:qf) (c:qr) (f:Nat→qe→qe × qe):Prop:=∀ k s,k<(linksL b).length→slR s→slR (f k s).2∧Ev (fun n=>qg4 n b c (gt (linksL b) k) s) (f k s)
def SpansI (b:qf) (c:qr) (ex:List Int) (f:Nat→qe→qe × qe):Prop:=∀ k s,k<(linksL b).length→slR s→slR (f k s).2∧Ev (fun n=>qfI n (some (viewE b ex)) c (k:Int) s) (f k s)
def exK (b:qf) (ex:List Int) (k:Nat):Int:=bif (gt (linksL b) k).Bf==2 then gt ex (gt (places b.Ab) ((gt (linksL b) k).To / 2).toNat).net.toNat else 0
def wideS (e:Int) (s:qe):qe:=⟨W64 (s.Ap-e),W64 (s.Bd+e)⟩
def wideF (b:qf) (ex:List Int) (f:Nat→qe→qe × qe) (k:Nat) (s:qe):qe × qe:=bif decide (0<ex.length)&&((gt (linksL b) k).Bf==2) then (wideS (exK b ex k) (f k s).1,(f k s).2) else f k s
theorem qwb {b:qf} {c:qr} (h:blockB b=true) (hc:cornerB c=true):∃ f,SpansS b c f∧∀ ex:List Int,ex.length=0∨ex.length=b.Ac.length→SpansI b c ex (wideF b ex f):=by
 have main:∀ x:Nat × qe,∃ r:qe × qe,x.1<(linksL b).length→slR x.2→slR r.2∧Ev (fun n=>qg4 n b c (gt (linksL b) x.1) x.2) r∧∀ ex:List Int,ex.length=0∨ex.length=b.Ac.length→Ev (fun n=>qfI n (some (viewE b ex)) c (x.1:Int) x.2) (wideF b ex (fun _ _=>r) x.1 x.2):=by
  rintro ⟨k,s⟩
  by_cases hk:k<(linksL b).length∧slR s
  ·obtain ⟨hk,⟨e0,e1⟩,⟨l0,l1⟩⟩:=hk
   obtain ⟨⟨d1,p1,q1⟩,⟨u1,a1,b1,v1,w1⟩⟩:=qpU h hc hk e0 e1 (mode:=0) (.inl rfl)
   obtain ⟨⟨d2,p2,q2⟩,⟨u2,a2,b2,v2,w2⟩⟩:=qpU h hc hk e0 e1 (mode:=1) (.inr rfl)
   obtain ⟨⟨d3,p3,q3⟩,⟨u3,a3,b3,v3,w3⟩⟩:=qpU h hc hk l0 l1 (mode:=0) (.inl rfl)
   obtain ⟨⟨d4,p4,q4⟩,⟨u4,a4,b4,v4,w4⟩⟩:=qpU h hc hk l0 l1 (mode:=1) (.inr rfl)
   refine ⟨(⟨if d3<d1 then d3 else d1,if d4 > d2 then d4 else d2⟩,⟨if u3<u1 then u3 else u1,if u4 > u2 then u4 else u2⟩),fun _ _=>⟨⟨?_,?_⟩,?_,fun ex hex=>?_⟩⟩
   ·show 0≤(if u3<u1 then u3 else u1)∧(if u3<u1 then u3 else u1)≤1000000
    split<;>omega
   ·show 0≤(if u4 > u2 then u4 else u2)∧(if u4 > u2 then u4 else u2)≤1000000
    split<;>omega
   ·unfold qg4
    exact Ev.bind p1 (Ev.bind p2 (Ev.bind v1 (Ev.bind v2 (Ev.bind p3 (Ev.bind p4 (Ev.bind v3 (Ev.bind v4 .done)))))))
   ·unfold qfI
    refine Ev.bind (q1 ex) (Ev.bind (q3 ex) (Ev.bind (q2 ex) (Ev.bind (q4 ex) ?_)))
    have hv:idx (viewE b ex).links (k:Int)=some (gt (linksL b) k):=qA hk
    have hx:(viewE b ex).extras=ex:=rfl
    simp only [ja,hv,hx]
    unfold wideF
    have fin:∀ r:Int × Int,Ev (fun n=>(qaF n (some (viewE b ex)) (k:Int) s.Ap 0).bind fun r5=>(qaF n (some (viewE b ex)) (k:Int) s.Bd 0).bind fun r6=>(qaF n (some (viewE b ex)) (k:Int) s.Ap 1).bind fun r7=>(qaF n (some (viewE b ex)) (k:Int) s.Bd 1).bind fun r8 =>
      some ((⟨r.1,r.2⟩:qe),(⟨if r6<r5 then r6 else r5,if r8 > r7 then r8 else r7⟩:qe))) ((⟨r.1,r.2⟩:qe),(⟨if u3<u1 then u3 else u1,if u4 > u2 then u4 else u2⟩:qe)):=fun r=>Ev.bind (w1 ex) (Ev.bind (w3 ex) (Ev.bind (w2 ex) (Ev.bind (w4 ex) .done)))
    rw [show decide ((ex.length:Int) > 0)=decide (0<ex.length) by rw [decide_eq_decide];omega]
    cases hl:decide (0<ex.length)
    ·exact Ev.bind (b:=false) (Ev.now rfl) (Ev.bind (b:=(if d3<d1 then d3 else d1,if d4 > d2 then d4 else d2)) (Ev.now rfl) (fin _))
    ·cases hkd:(gt (linksL b) k).Bf==2
     ·exact Ev.bind (b:=false) (Ev.now rfl) (Ev.bind (b:=(if d3<d1 then d3 else d1,if d4 > d2 then d4 else d2)) (Ev.now rfl) (fin _))
     ·obtain ⟨hcs,_⟩:=qhz h (qlJ hk)
      rcases hcs with ⟨i,j,m,net,a,hx⟩|⟨j,net,q,hx⟩
      ·rw [hx.kind] at hkd;cases hkd
      ·have hn:=qtB (ex:=ex) hx.jl hx.net_ hx.half
       have hlt:net<ex.length:=by
        have:=of_decide_eq_true hl
        have:=hx.nl
        omega
       have hT:=(qhz h (qlJ hk)).2.2
       have hpl:=qa1 (qW (qar h))
       have ej:((gt (linksL b) k).To / 2).toNat=j:=by
        have:=hx.half
        rw [jG hT.1,qaw (by omega) (by omega)] at this
        omega
       have eK:exK b ex k=gt ex net:=by
        unfold exK
        rw [hkd,ej,hx.net_,jj]
        rfl
       refine Ev.bind (b:=true) (Ev.now rfl) (Ev.bind (b:=(W64 ((if d3<d1 then d3 else d1)-gt ex net),W64 ((if d4 > d2 then d4 else d2)+gt ex net))) ?_ ?_)
       ·simp only [hn,ja,qA hlt]
        exact .done
       ·rw [eK]
        exact fin _
  ·exact ⟨(s,s),fun h1 h2=>absurd ⟨h1,h2⟩ hk⟩
 obtain ⟨f,hf⟩:=Classical.axiomOfChoice main
 exact ⟨fun k s=>f (k,s),fun k s h1 h2=>⟨(hf (k,s) h1 h2).1,(hf (k,s) h1 h2).2.1⟩,fun ex hex k s h1 h2=>⟨by
  have:=(hf (k,s) h1 h2).1
  unfold wideF
  cases decide (0<ex.length)&&((gt (linksL b) k).Bf==2)<;>exact this,(hf (k,s) h1 h2).2.2 ex hex⟩⟩
theorem qu1 {b:qf} {f:Nat→qe→qe × qe}:wideF b [] f=f:=rfl
def zSp:qe:=⟨0,0⟩
def zSrc:qg:=⟨0,zSp,zSp⟩
def hullS (s t:qe):qe:=⟨if t.Ap<s.Ap then t.Ap else s.Ap,if t.Bd > s.Bd then t.Bd else s.Bd⟩
theorem qre {s t:qe}:(⟨if s.Ap<t.Ap then s.Ap else t.Ap,if s.Bd > t.Bd then s.Bd else t.Bd⟩:qe)=hullS s t:=by
 unfold hullS
 congr 1
 ·split<;>split<;>omega
 ·split<;>split<;>omega
def plusS (s t:qe):qe:=⟨W64 (s.Ap+t.Ap),W64 (s.Bd+t.Bd)⟩
def joinS (node:Int) (s:Bool × qg) (ar sl:qe):Bool × qg:=bif s.1 then (true,⟨node,hullS s.2.Ah ar,hullS s.2.Bc sl⟩) else (true,⟨node,ar,sl⟩)
def frN (ls:List qq) (k:Nat):Nat:=(gt ls k).Bk.toNat
def stepS (f:Nat→qe→qe × qe) (ls:List qq) (t:qx) (node:Int) (s:Bool × qg) (k:Nat):Bool × qg :=
 bif gt t.Bg (frN ls k) then joinS node s (plusS (gt t.Ah (frN ls k)) (f k (gt t.Bc (frN ls k))).1) (f k (gt t.Bc (frN ls k))).2 else s
def toQ (ls:List qq) (lv:List Bool) (node:Int) (k:Nat):Bool:=lvL lv k&&(toL ls k==node)
def srcO (xs:List qg) (node:Int):Option qg:=xs.find? fun s=>s.Bo==node
def srcV (o:Option qg):Bool × qg:=match o with|some y=>(true,y)|none=>(false,zSrc)
def ndS (f:Nat→qe→qe × qe) (ls:List qq) (lv:List Bool) (t:qx) (node:Int) (s0:Bool × qg):Nat→Bool × qg
 | 0=>s0
 | k+1=>bif toQ ls lv node k then stepS f ls t node (ndS f ls lv t node s0 k) k else ndS f ls lv t node s0 k
theorem qwB {f:Nat→qe→qe × qe} {ls:List qq} {lv:List Bool} {t:qx} {node:Int} {s0:Bool × qg} {j:Nat}:(selN (toQ ls lv node) j).foldl (stepS f ls t node) s0=ndS f ls lv t node s0 j:=by
 induction j with
 | zero=>rfl
 | succ j ih =>
  rw [qnb,List.foldl_append,ih]
  show _=bif toQ ls lv node j then stepS f ls t node (ndS f ls lv t node s0 j) j else ndS f ls lv t node s0 j
  cases toQ ls lv node j<;>rfl
structure TmOk (t:qx) (M:Nat):Prop where
 r:t.Bg.length=M
 a:t.Ah.length=M
 s:t.Bc.length=M
 sl:∀ k,k<M→slR (gt t.Bc k)
structure SrcOk (xs:List qg):Prop where
 len:xs.length≤1048576
 inc:∀ j i,i<j→j<xs.length→(gt xs i).Bo<(gt xs j).Bo
 sl:∀ x,x ∈ xs→slR x.Bc
theorem qqf {xs:List qg} {node:Int} (hl:xs.length≤1048576):Ev (fun n=>qdS n xs node) ((srcV (srcO xs node)).2,(srcV (srcO xs node)).1):=by
 have h1:Ev (fun n=>qaA n xs node) (ixL (fun s=>s.Bo==node) xs) :=
  qfh (fin:=(xs.length:Int)) (Lf:=qL xs node) (xs:=xs) (pf:=fun n x=>qjs n x node) (fun _ _=>.done)
   (fun n=>by simp only [qL,qk (jb _),cond_false])
   (fun n j x hx=>by
    have hj:=(List.getElem?_eq_some_iff.1 hx).1
    simp only [qL,qj hj,cond_true,qax hx,ja,wS j])
   (fun n=>by unfold qaA;congr 1;funext o;cases o<;>rfl)
 unfold qdS
 refine Ev.bind h1 ?_
 unfold ixL srcO
 cases hf:xs.findIdx? (fun s=>s.Bo==node) with
 | none =>
  have:xs.find? (fun s=>s.Bo==node)=none:=by
   rw [List.find?_eq_none]
   intro x hx
   have:=List.findIdx?_eq_none_iff.1 hf x hx
   simpa using this
  rw [this]
  exact Ev.ff rfl .done
 | some j =>
  obtain ⟨hj,hp,hn⟩:=List.findIdx?_eq_some_iff_getElem.1 hf
  have:xs.find? (fun s=>s.Bo==node)=some xs[j]:=by
   rw [List.find?_eq_some_iff_getElem]
   exact ⟨hp,j,hj,rfl,fun i hi=>by have:=hn i hi;simpa using this⟩
  rw [this]
  refine Ev.tt (show decide ((j:Int) ≥ 0)=true from decide_eq_true (by omega)) ?_
  show Ev (fun n=>(idx xs (j:Int)).bind _) _
  rw [qh2 hj]
  exact .done
theorem qlg {xs:List qg} {node:Int} {y:qg} (h:srcO xs node=some y):y.Bo=node∧y ∈ xs:=by
 have h1:=List.find?_some h
 exact ⟨by simpa using h1,List.mem_of_find?_eq_some h⟩
theorem qxA {xs:List qg} {node:Int} (h:SrcOk xs) :
  Ev (fun n=>qcT xs node n 0 0 0 0 0 false 0) ((srcV (srcO xs node)).2.Bo,(srcV (srcO xs node)).2.Ah.Ap,(srcV (srcO xs node)).2.Ah.Bd,(srcV (srcO xs node)).2.Bc.Ap,(srcV (srcO xs node)).2.Bc.Bd,(srcV (srcO xs node)).1,(xs.length:Int)):=by
 have hl:=h.len
 have:=loopF (τ:=Bool × qg) (Lf:=fun n s j=>qcT xs node n s.2.Bo s.2.Ah.Ap s.2.Ah.Bd s.2.Bc.Ap s.2.Bc.Bd s.1 j) (S:=fun j=>srcV (srcO (xs.take j) node)) (len:=xs.length)
  (fin:=((srcV (srcO xs node)).2.Bo,(srcV (srcO xs node)).2.Ah.Ap,(srcV (srcO xs node)).2.Ah.Bd,(srcV (srcO xs node)).2.Bc.Ap,(srcV (srcO xs node)).2.Bc.Bd,(srcV (srcO xs node)).1,(xs.length:Int)))
  (fun n=>by simp only [qcT,qk (jb _),cond_false,jB])
  (fun j hj X hX=>by
   simp only [qcT,qj hj,cond_true,qA hj,ja,wS j]
   have e:srcO (xs.take (j+1)) node=(srcO (xs.take j) node).or (bif (gt xs j).Bo==node then some (gt xs j) else none):=by
    unfold srcO
    rw [ju hj,List.find?_append,←qeZ hj]
    congr 1
   cases hq:(gt xs j).Bo==node
   ·rw [hq] at e
    have e:srcO (xs.take (j+1)) node=srcO (xs.take j) node:=by rw [e];cases srcO (xs.take j) node<;>rfl
    rw [e] at hX
    exact hX
   ·rw [hq] at e
    have hn:srcO (xs.take j) node=none:=by
     unfold srcO
     rw [List.find?_eq_none]
     intro x hx hxn
     obtain ⟨i,hi,rfl⟩:=List.mem_iff_getElem.1 hx
     rw [jN] at hi
     rw [List.getElem_take,←qeZ (by omega)] at hxn
     have:=h.inc j i (by omega) hj
     simp only [beq_iff_eq] at hq hxn
     omega
    have e:srcO (xs.take (j+1)) node=some (gt xs j):=by rw [e,hn];rfl
    rw [e] at hX
    exact hX)
 exact this
theorem qua {ls:List qq} {M:Nat} (h:LkOk ls M) {k:Nat} (hk:k<ls.length):(gt ls k).Bk=(frN ls k:Int)∧frN ls k<M:=by
 have h0:=h.fr0 k hk
 have h1:=h.fr1 k hk
 unfold frN
 omega
section
variable {b:qf} {c:qr} {ex:List Int} {f:Nat→qe→qe × qe} {lv:List Bool} {t:qx} {xs:List qg} {node:Int}
theorem qwm (h:blockB b=true) (hf:SpansS b c f) (hl:lv.length=(linksL b).length) (ht:TmOk t (2*(places b.Ab).length)) (hx:SrcOk xs) :
  Ev (fun n=>qh3 n b c (linksL b) lv xs t node) (ndS f (linksL b) lv t node (srcV (srcO xs node)) (linksL b).length):=by
 have hk:=qlk h
 have hkl:=hk.len
 have hL:=loopF (τ:=Bool × qg) (Lf:=fun n s j=>qcQ b c (linksL b) lv t node n s.2.Bo s.2.Ah.Ap s.2.Ah.Bd s.2.Bc.Ap s.2.Bc.Bd s.1 j) (S:=fun j=>ndS f (linksL b) lv t node (srcV (srcO xs node)) j) (len:=(linksL b).length)
  (fin:=(fun s:Bool × qg=>(s.2.Bo,s.2.Ah.Ap,s.2.Ah.Bd,s.2.Bc.Ap,s.2.Bc.Bd,s.1,((linksL b).length:Int))) (ndS f (linksL b) lv t node (srcV (srcO xs node)) (linksL b).length))
  (fun n=>by simp only [qcQ,qk (jb _),cond_false])
  (fun j hj X hX=>by
   obtain ⟨e1,e2⟩:=qua hk hj
   have eN:ndS f (linksL b) lv t node (srcV (srcO xs node)) (j+1)=bif toQ (linksL b) lv node j then stepS f (linksL b) t node (ndS f (linksL b) lv t node (srcV (srcO xs node)) j) j else ndS f (linksL b) lv t node (srcV (srcO xs node)) j:=rfl
   rw [eN] at hX
   generalize ndS f (linksL b) lv t node (srcV (srcO xs node)) j=s at hX ⊢
   simp only [qcQ,qj hj,cond_true,qA hj,qA (show j<lv.length by omega),ja,e1,qA (show frN (linksL b) j<t.Bg.length by rw [ht.r];exact e2),qA (show frN (linksL b) j<t.Ah.length by rw [ht.a];exact e2),qA (show frN (linksL b) j<t.Bc.length by rw [ht.s];exact e2),wS j]
   unfold toQ lvL toL at hX
   cases h1:gt lv j
   ·rw [h1] at hX;exact hX
   rw [h1,jw] at hX
   cases h2:(gt (linksL b) j).To==node
   ·rw [h2] at hX
    simp only [bne,h2]
    exact hX
   rw [h2] at hX
   simp only [bne,h2]
   unfold stepS at hX
   cases h3:gt t.Bg (frN (linksL b) j)
   ·rw [h3] at hX;exact hX
   rw [h3] at hX
   simp only [cond_true] at hX
   obtain ⟨_,s1⟩:=hf j _ hj (ht.sl _ e2)
   refine Ev.bind (b:=false) (Ev.now rfl) (Ev.ff rfl (Ev.bind s1 ?_))
   generalize f j (gt t.Bc (frN (linksL b) j))=q at hX ⊢
   unfold joinS at hX
   cases h4:s.1
   ·rw [h4] at hX;exact hX
   ·rw [h4] at hX
    simp only [qjI,ja,cond_true]
    have a1:=qre (s:=s.2.Ah) (t:=plusS (gt t.Ah (frN (linksL b) j)) q.1)
    have a2:=qre (s:=s.2.Bc) (t:=q.2)
    simp only [cond_true] at hX
    rw [←a1,←a2] at hX
    exact hX)
 unfold qh3
 exact Ev.bind (qxA hx) (Ev.bind hL .done)
theorem qyI {ls:List qq} {M:Nat} {ps:List Tplace} {lo:List Int} {de:List (List Int)} {ex:List Int} (h:LkOk ls M) (hl:lv.length=ls.length):Ev (fun n=>qiY n (grV ls lv ps b lo de ex) node) (ints (selN (toQ ls lv node) ls.length)):=by
 have hll:=h.len
 have hL:Ev (fun n=>qF node ⟨some ⟨b,ps,ls,lo,de,ex⟩,lv⟩ ⟨b,ps,ls,lo,de,ex⟩ n ([]:List Int) 0) (ints (selN (toQ ls lv node) ls.length),(ls.length:Int)):=by
  refine qoV (q:=toQ ls lv node) (Lf:=qF node ⟨some ⟨b,ps,ls,lo,de,ex⟩,lv⟩ ⟨b,ps,ls,lo,de,ex⟩) (len:=ls.length) (by omega) (Ev.succ ?_) (fun j hj t ht X h1 h2=>?_)
  ·simp only [qF,qk (jb _),cond_false];exact .done
  ·simp only [qF,qj hj,cond_true,qA hj,qA (show j<lv.length by omega),ja,qjq,ht,wS j]
   unfold toQ lvL toL at h1 h2
   cases hq:gt lv j
   ·simp only [cond_false];exact h2 (by rw [hq];rfl)
   ·simp only [cond_true]
    cases hw:(gt ls j).To==node
    ·simp only [cond_false];exact h2 (by rw [hq,hw];rfl)
    ·simp only [cond_true];exact h1 (by rw [hq,hw];rfl)
 unfold qiY qcq grV
 simp only [ja]
 exact Ev.bind (Ev.bind hL .done) .done
def fixS (node:Int) (s:Bool × qg):Bool × qg:=bif s.1 then s else (false,⟨node,zSp,zSp⟩)
theorem qv9 (h:blockB b=true) (hf:SpansI b c ex f) (hl:lv.length=(linksL b).length) (ht:TmOk t (2*(places b.Ab).length)) (hx:xs.length≤1048576) :
  Ev (fun n=>qdh n (some ⟨some (viewE b ex),lv⟩) c xs t node) (ndS f (linksL b) lv t node (srcV (srcO xs node)) (linksL b).length):=by
 have hk:=qlk h
 have hkl:=hk.len
 have hsel:=qnQ (q:=toQ (linksL b) lv node) (j:=(linksL b).length)
 have hnd:∀ j,(ndS f (linksL b) lv t node (srcV (srcO xs node)) j).1=true→(ndS f (linksL b) lv t node (srcV (srcO xs node)) j).2.Bo=node:=by
  intro j
  induction j with
  | zero =>
   show (srcV (srcO xs node)).1=true→(srcV (srcO xs node)).2.Bo=node
   cases hs:srcO xs node with
   | none=>intro e;cases e
   | some y=>exact fun _=>(qlg hs).1
  | succ j ih =>
   unfold ndS
   cases toQ (linksL b) lv node j
   ·exact ih
   ·simp only [cond_true]
    unfold stepS
    cases gt t.Bg (frN (linksL b) j)
    ·exact ih
    ·simp only [cond_true]
     unfold joinS
     cases (ndS f (linksL b) lv t node (srcV (srcO xs node)) j).1<;>exact fun _=>rfl
 have hz:∀ j,(ndS f (linksL b) lv t node (srcV (srcO xs node)) j).1=false→(ndS f (linksL b) lv t node (srcV (srcO xs node)) j).2=zSrc:=by
  intro j
  induction j with
  | zero =>
   show (srcV (srcO xs node)).1=false→(srcV (srcO xs node)).2=zSrc
   cases srcO xs node with
   | none=>exact fun _=>rfl
   | some y=>intro e;cases e
  | succ j ih =>
   unfold ndS
   cases toQ (linksL b) lv node j
   ·exact ih
   ·simp only [cond_true]
    unfold stepS
    cases gt t.Bg (frN (linksL b) j)
    ·exact ih
    ·simp only [cond_true]
     unfold joinS
     cases (ndS f (linksL b) lv t node (srcV (srcO xs node)) j).1<;>(intro e;cases e)
 have fl:∀ (l:List Nat) (s:Bool × qg),(∀ k,k ∈ l→toQ (linksL b) lv node k=true)→l.foldl (fun s k=>fixS node (stepS f (linksL b) t node s k)) (fixS node s)=fixS node (l.foldl (stepS f (linksL b) t node) s):=by
  intro l
  induction l with
  | nil=>intro s _;rfl
  | cons k l ih =>
   intro s hq
   have e:fixS node (stepS f (linksL b) t node (fixS node s) k)=fixS node (stepS f (linksL b) t node s k):=by
    unfold stepS
    obtain ⟨s1,s2⟩:=s
    cases gt t.Bg (frN (linksL b) k)<;>cases s1<;>rfl
   rw [List.foldl_cons,List.foldl_cons,e]
   exact ih _ fun k' hk'=>hq k' (jk _ hk')
 have hL:=(qvv (τ:=Bool × qg) (xs:=selN (toQ (linksL b) lv node) (linksL b).length) (Lf:=fun n s j=>qba (some ⟨some (viewE b ex),lv⟩) c t (ints (selN (toQ (linksL b) lv node) (linksL b).length)) n s.1 s.2.Bo s.2.Ah.Ap s.2.Ah.Bd s.2.Bc.Ap s.2.Bc.Bd j)
  (step:=fun s k=>fixS node (stepS f (linksL b) t node s k)) (fin:=fun s=>(s.1,s.2.Bo,s.2.Ah.Ap,s.2.Ah.Bd,s.2.Bc.Ap,s.2.Bc.Bd,((ints (selN (toQ (linksL b) lv node) (linksL b).length)).length:Int))) (fixS node (srcV (srcO xs node))) (fun _ s=>s=fixS node s∧s.2.Bo=node) (by
   constructor
   ·unfold fixS
    cases hs:(srcV (srcO xs node)).1
    ·rfl
    ·simp only [hs,cond_true]
   ·unfold fixS
    cases hs:srcO xs node with
    | none=>rfl
    | some y=>exact (qlg hs).1)
  (fun j s hj hs=>by
   obtain ⟨h1,h2⟩:=hs
   have key:(stepS f (linksL b) t node s (selN (toQ (linksL b) lv node) (linksL b).length)[j]).2.Bo=node:=by
    unfold stepS
    cases gt t.Bg (frN (linksL b) (selN (toQ (linksL b) lv node) (linksL b).length)[j])
    ·exact h2
    ·unfold joinS
     cases s.1<;>rfl
   constructor
   ·unfold fixS
    cases hs:(stepS f (linksL b) t node s (selN (toQ (linksL b) lv node) (linksL b).length)[j]).1
    ·rfl
    ·simp only [hs,cond_true]
   ·unfold fixS
    cases hs:(stepS f (linksL b) t node s (selN (toQ (linksL b) lv node) (linksL b).length)[j]).1
    ·rfl
    ·exact key)
  (fun n s=>by simp only [qba,qdG,qk (jb _),cond_false])
  (fun j s hj hs X hX=>by
   obtain ⟨hfx,hsn⟩:=hs
   have hi:=qoe hj
   have hm:(selN (toQ (linksL b) lv node) (linksL b).length)[j]<(linksL b).length:=(qoh.1 (jo hj)).1
   generalize (selN (toQ (linksL b) lv node) (linksL b).length)[j]=k at hi hm hX
   obtain ⟨e1,e2⟩:=qua hk hm
   have hv:idx (viewE b ex).links (k:Int)=some (gt (linksL b) k):=qA hm
   simp only [qba,qdG,qj hj,cond_true,hi,hv,ja,e1,qA (show frN (linksL b) k<t.Bg.length by rw [ht.r];exact e2),qA (show frN (linksL b) k<t.Ah.length by rw [ht.a];exact e2),qA (show frN (linksL b) k<t.Bc.length by rw [ht.s];exact e2),wS j]
   unfold stepS at hX
   cases h3:gt t.Bg (frN (linksL b) k)
   ·rw [h3] at hX
    simp only [cond_false] at hX
    rw [←hfx] at hX
    exact hX
   rw [h3] at hX
   simp only [cond_true] at hX ⊢
   obtain ⟨_,s1⟩:=hf k _ hm (ht.sl _ e2)
   refine Ev.bind s1 ?_
   generalize f k (gt t.Bc (frN (linksL b) k))=q at hX ⊢
   simp only [qkf,ja]
   unfold joinS at hX
   unfold qfm
   cases h4:s.1
   ·rw [h4] at hX
    simp only [Bool.not_false,cond_true,ja]
    unfold fixS at hX
    simp only [cond_false,cond_true] at hX
    rw [hsn]
    exact hX
   ·rw [h4] at hX
    simp only [jW,cond_false,qip,ja]
    unfold fixS at hX
    simp only [cond_true] at hX
    rw [hsn]
    exact hX)).1
 rw [fl _ _ (fun k hk'=>(qoh.1 hk').2),qwB] at hL
 unfold qdh
 refine Ev.bind (qqf hx) ?_
 have e0:(bif (srcV (srcO xs node)).1 then (qfm 0 ⟨node,⟨0,0⟩,⟨0,0⟩⟩ false ⟨(srcV (srcO xs node)).2.Ah.Ap,(srcV (srcO xs node)).2.Ah.Bd⟩ ⟨(srcV (srcO xs node)).2.Bc.Ap,(srcV (srcO xs node)).2.Bc.Bd⟩).bind (fun o=>match o with|(x9,x10)=>some (x10,x9.Bo,x9.Ah.Ap,x9.Ah.Bd,x9.Bc.Ap,x9.Bc.Bd)) else some (false,node,(0:Int),(0:Int),(0:Int),(0:Int))) =
   some ((fixS node (srcV (srcO xs node))).1,(fixS node (srcV (srcO xs node))).2.Bo,(fixS node (srcV (srcO xs node))).2.Ah.Ap,(fixS node (srcV (srcO xs node))).2.Ah.Bd,(fixS node (srcV (srcO xs node))).2.Bc.Ap,(fixS node (srcV (srcO xs node))).2.Bc.Bd):=by
  cases hs:srcO xs node with
  | none=>rfl
  | some y =>
   have:=(qlg hs).1
   unfold fixS srcV
   simp only [cond_true,this]
   rfl
 refine Ev.bindN e0 (Ev.bind (qyI (ps:=places b.Ab) (lo:=pre (load0 b) b.Ac.length) (de:=pre (exactL b) b.Ac.length) (ex:=ex) hk hl) (Ev.bind hL ?_))
 have z:=hz (linksL b).length
 generalize ndS f (linksL b) lv t node (srcV (srcO xs node)) (linksL b).length=s at z ⊢
 unfold fixS
 obtain ⟨s1,s2⟩:=s
 cases s1
 ·have:=z rfl
  simp only at this
  subst this
  exact .done
 ·exact .done
end
end Go.Fw


namespace Go.Fw
open Go
set_option maxRecDepth 100000
theorem qmz {b:qf} (h:blockB b=true):Ev (fun n=>qfW n b) ((2*(places b.Ab).length:Nat):Int):=by
 have hs:=qW (qar h)
 have hl:=qa1 hs
 unfold qfW
 refine Ev.bind (b:=(places b.Ab).map toSp) (qhD hs) (Ev.now ?_)
 rw [jv,qaw (by omega) (by omega)]
 rfl
theorem qok {v:Tview} (hl:v.places.length≤78) (n:Nat):qcc n (some v)=some ((2*v.places.length:Nat):Int):=by
 unfold qcc qdP
 simp only [ja]
 rw [qaw (by omega) (by omega)]
 rfl
def stepN (xs:List qg) (j:Nat):Bool:=decide (j=0) || decide ((gt xs (j-1)).Bo<(gt xs j).Bo)
def srcB (xs:List qg) (M:Nat):Bool:=allN (fun j=>inI (gt xs j).Bo 0 ((M:Int)-1)&&(stepN xs j&&(spanB (gt xs j).Ah&&slewB (gt xs j).Bc))) xs.length
theorem qp2 {xs:List qg} {j:Nat} (h:j ≠ 0):stepN xs j=decide ((gt xs (j-1)).Bo<(gt xs j).Bo):=by unfold stepN;rw [decide_eq_false h,Bool.false_or]
theorem qq5 {b:qf} {xs:List qg} (h:blockB b=true) (hl:xs.length≤1048576):Ev (fun n=>qfS n b xs) (srcB xs (2*(places b.Ab).length)):=by
 have hpl:=qa1 (qW (qar h))
 have e:=qmz h
 obtain ⟨M,eM⟩:∃ M,M=2*(places b.Ab).length:=⟨_,rfl⟩
 rw [←eM] at e ⊢
 have hM:M≤156:=by omega
 have hL:Ev (fun n=>qbL xs (M:Int) n 0) (bif srcB xs M then .nxt (xs.length:Int) else .ret false):=by
  refine qeb (Lf:=qbL xs (M:Int)) (len:=xs.length) (Ev.succ (by simp only [qbL,qk (jb _),cond_false];exact .done)) (fun j hj X hX=>Ev.succ ?_)
  simp only [qbL,qj hj,cond_true,qA hj,ja,qcF,qpZ,qsX,wS j,wO ((M:Int)-1)]
  cases inI (gt xs j).Bo 0 ((M:Int)-1)
  ·exact .done
  refine Ev.ff rfl ?_
  by_cases h0:j=0
  ·subst h0
   refine Ev.ff rfl ?_
   show Ev _ (bif (stepN xs 0&&_) then X else _)
   rw [show stepN xs 0=true from rfl]
   show Ev (fun n=>bif !spanB (gt xs 0).Ah then _ else bif !slewB (gt xs 0).Bc then _ else _) _
   cases spanB (gt xs 0).Ah
   ·exact .done
   ·cases slewB (gt xs 0).Bc
    ·exact .done
    ·exact hX
  ·refine Ev.tt (decide_eq_true (by omega)) ?_
   rw [show (j:Int)-1=((j-1:Nat):Int) by omega,qaw (by omega) (by omega),qA (show j-1<xs.length by omega),qp2 h0]
   simp only [ja]
   by_cases hlt:(gt xs (j-1)).Bo<(gt xs j).Bo
   ·rw [decide_eq_true hlt]
    refine Ev.ff (decide_eq_false (by omega)) ?_
    show Ev (fun n=>bif !spanB (gt xs j).Ah then _ else bif !slewB (gt xs j).Bc then _ else _) _
    cases spanB (gt xs j).Ah
    ·exact .done
    ·cases slewB (gt xs j).Bc
     ·exact .done
     ·exact hX
   ·rw [decide_eq_false hlt]
    exact Ev.tt (decide_eq_true (by omega)) .done
 unfold qfS
 refine Ev.bind e (Ev.bind hL ?_)
 cases srcB xs M<;>exact .done
theorem qq6 {v:Tview} {xs:List qg} (hp:v.places.length≤78) (hl:xs.length≤1048576):Ev (fun n=>qdd n (some v) xs) (srcB xs (2*v.places.length)):=by
 have e:=qok hp
 obtain ⟨M,eM⟩:∃ M,M=2*v.places.length:=⟨_,rfl⟩
 rw [←eM] at e ⊢
 have hM:M≤156:=by omega
 have hL:Ev (fun n=>qaN (some v) xs n 0) (bif srcB xs M then .nxt (xs.length:Int) else .ret false):=by
  refine qeb (Lf:=qaN (some v) xs) (len:=xs.length) (Ev.succ (by simp only [qaN,qk (jb _),cond_false];exact .done)) (fun j hj X hX=>Ev.succ ?_)
  simp only [qaN,qj hj,cond_true,qA hj,ja,qiH,e,qcY,qoF,qsO,wS j,wO ((M:Int)-1)]
  cases inI (gt xs j).Bo 0 ((M:Int)-1)
  ·exact .done
  refine Ev.ff rfl ?_
  show Ev (fun n=>bif !spanB (gt xs j).Ah then _ else bif !slewB (gt xs j).Bc then _ else _) _
  rw [jw,Bool.and_comm]
  cases spanB (gt xs j).Ah
  ·exact .done
  ·cases slewB (gt xs j).Bc
   ·exact .done
   ·refine Ev.ff rfl (Ev.ff rfl ?_)
    rw [jw,jw]
    by_cases h0:j=0
    ·subst h0
     exact Ev.ff rfl hX
    ·refine Ev.tt (decide_eq_true (by omega)) ?_
     rw [show (j:Int)-1=((j-1:Nat):Int) by omega,qaw (by omega) (by omega),qA (show j-1<xs.length by omega),qp2 h0]
     simp only [ja]
     by_cases hlt:(gt xs (j-1)).Bo<(gt xs j).Bo
     ·rw [decide_eq_true hlt]
      exact Ev.ff (decide_eq_false (by omega)) hX
     ·rw [decide_eq_false hlt]
      exact Ev.tt (decide_eq_true (by omega)) .done
 unfold qdd
 refine Ev.bind hL ?_
 cases srcB xs M<;>exact .done
theorem qoi {xs:List qg} {M:Nat} (hl:xs.length≤1048576) (h:srcB xs M=true):SrcOk xs:=by
 unfold srcB at h
 rw [qah] at h
 refine ⟨hl,fun j=>?_,fun x hx=>?_⟩
 ·induction j with
  | zero=>intro i hi _;omega
  | succ j ih =>
   intro i hi hj
   have hs:=h (j+1) hj
   rw [qp2 (by omega)] at hs
   simp only [jc,decide_eq_true_eq,Nat.add_sub_cancel] at hs
   have hs':=hs.2.1
   by_cases hij:i=j
   ·rw [hij];exact hs'
   ·have:=ih i (by omega) (by omega);omega
 ·obtain ⟨i,hi,rfl⟩:=List.mem_iff_getElem.1 hx
  have hs:=h i hi
  rw [←qeZ hi]
  simp only [jc] at hs
  have:=hs.2.2.2
  unfold slewB at this
  simp only [jc,decide_eq_true_eq] at this
  exact ⟨⟨this.1,by omega⟩,by omega,this.2.2⟩
section
variable {L:Nat} {fr to:Nat→Int} {lv:Nat→Bool} {n:Nat}
def OrdOk (L:Nat) (fr to:Nat→Int) (lv:Nat→Bool) (n:Nat) (R:List Nat):Prop:=∀ l1 k l2,R=l1++k::l2→k<n∧k ∉ l1∧inN L fr to lv l1 k=0
theorem OrdOk.snoc {R:List Nat} {k:Nat} (h:OrdOk L fr to lv n R) (hk:nxtN L fr to lv n R=some k):OrdOk L fr to lv n (R++[k]):=by
 intro l1 k' l2 e
 rcases List.eq_nil_or_concat l2 with rfl|⟨l2',z,rfl⟩
 ·obtain ⟨rfl,e2⟩:=List.append_inj' e rfl
  obtain rfl:k=k':=by simpa using e2
  exact qoM hk
 ·have e':R++[k]=(l1++k'::l2')++[z]:=by rw [e];simp
  obtain ⟨e1,_⟩:=List.append_inj' e' rfl
  exact h l1 k' l2' e1
theorem qxL:∀ m R R',OrdOk L fr to lv n R→ordN L fr to lv n m R=some R'→OrdOk L fr to lv n R':=by
 intro m
 induction m with
 | zero=>intro R R' h e;obtain rfl:=Option.some.inj e;exact h
 | succ m ih =>
  intro R R' h e
  unfold ordN at e
  cases hn:nxtN L fr to lv n R with
  | none=>rw [hn] at e;cases e
  | some k =>
   rw [hn] at e
   exact ih _ _ (h.snoc hn) e
theorem OrdOk.at {R:List Nat} (h:OrdOk L fr to lv n R) {j:Nat} (hj:j<R.length):R[j]<n∧R[j] ∉ R.take j∧inN L fr to lv (R.take j) R[j]=0:=by
 refine h (R.take j) R[j] (R.drop (j+1)) ?_
 rw [←jD hj,List.take_append_drop]
end
theorem qos {α:Type} [Inhabited α] {xs:List α} {k:Nat} {v:α} (hk:k<xs.length) (h:gt xs k=v):setS xs (k:Int) v=xs:=by
 unfold setS
 rw [jj,←h,qeZ hk]
 exact List.set_getElem_self hk
theorem qpP {α:Type} [Inhabited α] {xs:List α} {a k:Nat} {y:α} (ha:a<xs.length):gt (setS xs (a:Int) y) k=if k=a then y else gt xs k:=by
 unfold setS
 rw [jj]
 by_cases h:k=a
 ·subst h;rw [if_pos rfl,qo6 ha]
 ·rw [if_neg h,qro h]
def setT (t:qx) (k:Nat) (s:Bool × qg):qx:=⟨setS t.Bg (k:Int) s.1,setS t.Ah (k:Int) s.2.Ah,setS t.Bc (k:Int) s.2.Bc⟩
theorem qr8 {t:qx} {M k:Nat} {s:Bool × qg} (h:TmOk t M) (hk:k<M) (hs:slR s.2.Bc):TmOk (setT t k s) M where
 r:=by show (setS _ _ _).length=_;rw [qgl];exact h.r
 a:=by show (setS _ _ _).length=_;rw [qgl];exact h.a
 s:=by show (setS _ _ _).length=_;rw [qgl];exact h.s
 sl:=fun j hj=>by
  show slR (gt (setS _ _ _) j)
  rw [qpP (by rw [h.s];exact hk)]
  split
  ·exact hs
  ·exact h.sl j hj
def Bare (t:qx) (M:Nat) (l:List Nat):Prop:=∀ k,k<M→k ∉ l→gt t.Bg k=false∧gt t.Ah k=zSp∧gt t.Bc k=zSp
def zT:qx:=⟨[],[],[]⟩
theorem qvW:slR zSp:=by unfold slR zSp;exact ⟨⟨jV _,by show (0:Int)≤_;omega⟩,jV _,by show (0:Int)≤_;omega⟩
theorem qxJ {s t:qe} (hs:slR s) (ht:slR t):slR (hullS s t):=by
 obtain ⟨⟨a1,a2⟩,a3,a4⟩:=hs
 obtain ⟨⟨b1,b2⟩,b3,b4⟩:=ht
 refine ⟨⟨?_,?_⟩,?_,?_⟩
 ·show (0:Int)≤(if t.Ap<s.Ap then t.Ap else s.Ap);split<;>assumption
 ·show (if t.Ap<s.Ap then t.Ap else s.Ap)≤1000000;split<;>assumption
 ·show (0:Int)≤(if t.Bd > s.Bd then t.Bd else s.Bd);split<;>assumption
 ·show (if t.Bd > s.Bd then t.Bd else s.Bd)≤1000000;split<;>assumption
section
variable {b:qf} {c:qr} {ex:List Int} {f g:Nat→qe→qe × qe} {lv:List Bool} {t:qx} {xs:List qg} {node:Int}
theorem qrD (h:blockB b=true) (hg:SpansS b c g) (hgf:∀ k s,(f k s).2=(g k s).2) (ht:TmOk t (2*(places b.Ab).length)) (hx:SrcOk xs):∀ j,j≤(linksL b).length→slR (ndS f (linksL b) lv t node (srcV (srcO xs node)) j).2.Bc:=by
 intro j
 induction j with
 | zero =>
  intro _
  show slR (srcV (srcO xs node)).2.Bc
  cases hs:srcO xs node with
  | none=>exact qvW
  | some y=>exact hx.sl y (qlg hs).2
 | succ j ih =>
  intro hj
  have ih:=ih (by omega)
  obtain ⟨_,e2⟩:=qua (qlk h) (show j<(linksL b).length by omega)
  have h2:=(hg j _ (show j<(linksL b).length by omega) (ht.sl _ e2)).1
  rw [←hgf] at h2
  show slR (bif toQ (linksL b) lv node j then stepS f (linksL b) t node (ndS f (linksL b) lv t node (srcV (srcO xs node)) j) j else ndS f (linksL b) lv t node (srcV (srcO xs node)) j).2.Bc
  cases toQ (linksL b) lv node j
  ·exact ih
  ·simp only [cond_true]
   unfold stepS
   cases gt t.Bg (frN (linksL b) j)
   ·exact ih
   ·simp only [cond_true]
    unfold joinS
    cases (ndS f (linksL b) lv t node (srcV (srcO xs node)) j).1
    ·exact h2
    ·exact qxJ ih h2
theorem qsu (h:blockB b=true) (hf:SpansS b c f) (ht:TmOk t (2*(places b.Ab).length)) (hx:SrcOk xs):∀ j,j≤(linksL b).length→slR (ndS f (linksL b) lv t node (srcV (srcO xs node)) j).2.Bc:=qrD h hf (fun _ _=>rfl) ht hx
theorem qwW:∀ j,(ndS f (linksL b) lv t node (srcV (srcO xs node)) j).1=false→(ndS f (linksL b) lv t node (srcV (srcO xs node)) j).2=zSrc:=by
 intro j
 induction j with
 | zero =>
  show (srcV (srcO xs node)).1=false→(srcV (srcO xs node)).2=zSrc
  cases srcO xs node with
  | none=>exact fun _=>rfl
  | some y=>intro e;cases e
 | succ j ih =>
  unfold ndS
  cases toQ (linksL b) lv node j
  ·exact ih
  ·simp only [cond_true]
   unfold stepS
   cases gt t.Bg (frN (linksL b) j)
   ·exact ih
   ·simp only [cond_true]
    unfold joinS
    cases (ndS f (linksL b) lv t node (srcV (srcO xs node)) j).1<;>(intro e;cases e)
def runR (o:Option qx):qx × Bool:=match o with|some t=>(t,true)|none=>(zT,false)
def rnO (f:Nat→qe→qe × qe) (ls:List qq) (lv:List Bool) (xs:List qg):List Nat→qx→Option qx
 | [],t=>some t
 | k::R,t=>bif (ndS f ls lv t (k:Int) (srcV (srcO xs (k:Int))) ls.length).1 then bif spanB (ndS f ls lv t (k:Int) (srcV (srcO xs (k:Int))) ls.length).2.Ah then rnO f ls lv xs R (setT t k (ndS f ls lv t (k:Int) (srcV (srcO xs (k:Int))) ls.length)) else none else rnO f ls lv xs R t
def zTm (M:Nat):qx:=⟨List.replicate M false,List.replicate M zSp,List.replicate M zSp⟩
theorem qsf {α:Type} [Inhabited α] {v:α} {M k:Nat} (hk:k<M):gt (List.replicate M v) k=v:=by rw [qeZ (by rw [jI];exact hk)];simp
theorem qt2 {M:Nat}:TmOk (zTm M) M:=⟨jI,jI,jI,fun k hk=>by
 show slR (gt (List.replicate M zSp) k)
 rw [qsf hk];exact qvW⟩
theorem qwD {M:Nat} {l:List Nat}:Bare (zTm M) M l:=fun k hk _=>⟨qsf hk,qsf hk,qsf hk⟩
theorem qx8 (h:blockB b=true) (hf:SpansS b c f) (hx:SrcOk xs):∀ (R:List Nat) (t t':qx),(∀ k,k ∈ R→k<2*(places b.Ab).length)→TmOk t (2*(places b.Ab).length)→rnO f (linksL b) lv xs R t=some t'→TmOk t' (2*(places b.Ab).length):=by
 intro R
 induction R with
 | nil=>intro t t' _ ht e;obtain rfl:=Option.some.inj e;exact ht
 | cons k R ih =>
  intro t t' hR ht e
  have hsl:=qsu (node:=(k:Int)) (lv:=lv) h hf ht hx (linksL b).length (jb _)
  unfold rnO at e
  cases h1:(ndS f (linksL b) lv t (k:Int) (srcV (srcO xs (k:Int))) (linksL b).length).1
  ·rw [h1] at e
   exact ih _ _ (fun i hi=>hR i (jk _ hi)) ht e
  ·rw [h1] at e
   cases h2:spanB (ndS f (linksL b) lv t (k:Int) (srcV (srcO xs (k:Int))) (linksL b).length).2.Ah
   ·rw [h2] at e;cases e
   ·rw [h2] at e
    exact ih _ _ (fun i hi=>hR i (jk _ hi)) (qr8 ht (hR k (jt ..)) hsl) e
def runL (o:Option qx) (m:Nat):Flow (qx × Bool) (List qe × List qe × List Bool × Int):=match o with|some t'=>.nxt (t'.Bc,t'.Ah,t'.Bg,(m:Int))|none=>.ret (zT,false)
theorem qw0 (h:blockB b=true) (hf:SpansS b c f) (hl:lv.length=(linksL b).length) (hx:SrcOk xs) {R:List Nat} (hR:∀ k,k ∈ R→k<2*(places b.Ab).length) (hRl:R.length≤1000) :
  Ev (fun n=>qkU n b c (linksL b) lv xs (ints R)) (runR (rnO f (linksL b) lv xs R (zTm (2*(places b.Ab).length)))):=by
 have hpl:=qa1 (qW (qar h))
 have hcn:=qmz h
 obtain ⟨M,eM⟩:∃ M,M=2*(places b.Ab).length:=⟨_,rfl⟩
 have hM:M≤156:=by omega
 have main:∀ d j t,j+d=R.length→TmOk t M→Ev (fun n=>qb9 b c (linksL b) lv xs (ints R) n t.Bc t.Ah t.Bg (j:Int)) (runL (rnO f (linksL b) lv xs (R.drop j) t) R.length):=by
  intro d
  induction d with
  | zero =>
   intro j t hj ht
   obtain rfl:j=R.length:=by omega
   rw [List.drop_length]
   refine Ev.succ ?_
   simp only [qb9,qdG,qk (jb _),cond_false]
   exact .done
  | succ d ih =>
   intro j t hj ht
   have hjl:j<R.length:=by omega
   have k1:=hR _ (jo hjl)
   have hi:=qoe hjl
   have hd:R.drop j=R[j]::R.drop (j+1):=jD hjl
   generalize R[j]=k at k1 hi hd
   rw [←eM] at k1
   have hs:=qwm (node:=(k:Int)) h hf hl (by rw [←eM];exact ht) hx
   have hsl:=qsu (node:=(k:Int)) (lv:=lv) h hf (by rw [←eM];exact ht) hx (linksL b).length (jb _)
   have ir:idx t.Bg (k:Int)=some (gt t.Bg k):=qA (by rw [ht.r];exact k1)
   have ia:idx t.Ah (k:Int)=some (gt t.Ah k):=qA (by rw [ht.a];exact k1)
   have is:idx t.Bc (k:Int)=some (gt t.Bc k):=qA (by rw [ht.s];exact k1)
   have stp:∀ n,qb9 b c (linksL b) lv xs (ints R) (n+1) t.Bc t.Ah t.Bg (j:Int)=(qh3 n b c (linksL b) lv xs t (k:Int)).bind fun o=>match o with
    | (r4,r5)=>bif (!r4) then qb9 b c (linksL b) lv xs (ints R) n t.Bc t.Ah t.Bg ((j+1:Nat):Int) else bif (!spanB r5.Ah) then some (.ret (zT,false)) else
     qb9 b c (linksL b) lv xs (ints R) n (setS t.Bc (k:Int) r5.Bc) (setS t.Ah (k:Int) r5.Ah) (setS t.Bg (k:Int) true) ((j+1:Nat):Int):=fun n=>by
    simp only [qb9,qdG,qj hjl,cond_true,hi,ja,qpZ,ir,ia,is,wS j]
    rfl
   rw [hd]
   unfold rnO
   generalize ndS f (linksL b) lv t (k:Int) (srcV (srcO xs (k:Int))) (linksL b).length=s at hs hsl ⊢
   obtain ⟨s1,s2⟩:=s
   cases s1
   ·exact Ev.step stp (Ev.bind hs (ih (j+1) t (by omega) ht))
   ·cases hsp:spanB s2.Ah
    ·refine Ev.step stp (Ev.bind hs ?_)
     simp only [hsp];exact .done
    ·refine Ev.step stp (Ev.bind hs ?_)
     simp only [hsp]
     exact ih (j+1) (setT t k (true,s2)) (by omega) (qr8 ht k1 hsl)
 have hm1:mkS (M:Int) false=some (List.replicate M false):=qm9 (by omega)
 have hm2:mkS (M:Int) (⟨0,0⟩:qe)=some (List.replicate M zSp):=qm9 (by omega)
 have o2:=main R.length 0 (zTm M) (by omega) qt2
 rw [List.drop_zero] at o2
 rw [←eM] at hcn ⊢
 unfold qkU qk5
 refine Ev.bind hcn ?_
 simp only [hm1,hm2,ja]
 refine Ev.bind o2 ?_
 cases rnO f (linksL b) lv xs R (zTm M)<;>exact .done
theorem qxG (h:blockB b=true) (hg:SpansS b c g) (hgf:∀ k s,(f k s).2=(g k s).2) (hf:SpansI b c ex f) (hl:lv.length=(linksL b).length) (hx:SrcOk xs) {R:List Nat} (hR:∀ j,∀ hj:j<R.length,R[j]<2*(places b.Ab).length∧R[j] ∉ R.take j) (hRl:R.length≤1000) :
  Ev (fun n=>qeC n (some ⟨some (viewE b ex),lv⟩) c xs (ints R)) (runR (rnO f (linksL b) lv xs R (zTm (2*(places b.Ab).length)))):=by
 have hpl:=qa1 (qW (qar h))
 have hnd:=qok (v:=viewE b ex) hpl
 have epl:(viewE b ex).places.length=(places b.Ab).length:=rfl
 rw [epl] at hnd
 obtain ⟨M,eM⟩:∃ M,M=2*(places b.Ab).length:=⟨_,rfl⟩
 have hM:M≤156:=by omega
 have main:∀ d j t,j+d=R.length→TmOk t M→Bare t M (R.take j)→Ev (fun n=>qaM (some ⟨some (viewE b ex),lv⟩) c xs (ints R) n t.Bc t.Ah t.Bg (j:Int)) (runL (rnO f (linksL b) lv xs (R.drop j) t) R.length):=by
  intro d
  induction d with
  | zero =>
   intro j t hj ht _
   obtain rfl:j=R.length:=by omega
   rw [List.drop_length]
   refine Ev.succ ?_
   simp only [qaM,qdG,qk (jb _),cond_false]
   exact .done
  | succ d ih =>
   intro j t hj ht hb
   have hjl:j<R.length:=by omega
   obtain ⟨k1,k2⟩:=hR j hjl
   have hi:=qoe hjl
   have htk:R.take (j+1)=R.take j++[R[j]]:=ju hjl
   have hd:R.drop j=R[j]::R.drop (j+1):=jD hjl
   generalize R[j]=k at k1 k2 hi htk hd
   rw [←eM] at k1
   have hp:=qv9 (node:=(k:Int)) h hf hl (by rw [←eM];exact ht) hx.len
   have hsl:=qrD (node:=(k:Int)) (lv:=lv) h hg hgf (by rw [←eM];exact ht) hx (linksL b).length (jb _)
   have hz:=qwW (f:=f) (b:=b) (lv:=lv) (t:=t) (xs:=xs) (node:=(k:Int)) (linksL b).length
   obtain ⟨b1,b2,b3⟩:=hb k k1 k2
   have ir:idx t.Bg (k:Int)=some (gt t.Bg k):=qA (by rw [ht.r];exact k1)
   have ia:idx t.Ah (k:Int)=some (gt t.Ah k):=qA (by rw [ht.a];exact k1)
   have is:idx t.Bc (k:Int)=some (gt t.Bc k):=qA (by rw [ht.s];exact k1)
   have ptp:∀ n,qaM (some ⟨some (viewE b ex),lv⟩) c xs (ints R) (n+1) t.Bc t.Ah t.Bg (j:Int)=(qdh n (some ⟨some (viewE b ex),lv⟩) c xs t (k:Int)).bind fun o=>match o with
    | (r3,r4)=>(bif r3 then some (!spanB r4.Ah) else some false).bind fun b3=>bif b3 then some (.ret (zT,false)) else
     qaM (some ⟨some (viewE b ex),lv⟩) c xs (ints R) n (setS t.Bc (k:Int) r4.Bc) (setS t.Ah (k:Int) r4.Ah) (setS t.Bg (k:Int) r3) ((j+1:Nat):Int):=fun n=>by
    simp only [qaM,qdG,qj hjl,cond_true,hi,ja,qoF,ir,ia,is,wS j]
    rfl
   rw [hd]
   unfold rnO
   generalize ndS f (linksL b) lv t (k:Int) (srcV (srcO xs (k:Int))) (linksL b).length=s at hp hsl hz ⊢
   obtain ⟨s1,s2⟩:=s
   cases s1
   ·have:=hz rfl
    simp only at this
    subst this
    have e1:setS t.Bc (k:Int) zSrc.Bc=t.Bc:=qos (by rw [ht.s];exact k1) b3
    have e2:setS t.Ah (k:Int) zSrc.Ah=t.Ah:=qos (by rw [ht.a];exact k1) b2
    have e3:setS t.Bg (k:Int) false=t.Bg:=qos (by rw [ht.r];exact k1) b1
    refine Ev.step ptp (Ev.bind hp ?_)
    simp only [cond_false,ja,e1,e2,e3]
    exact ih (j+1) t (by omega) ht (fun i hi hni=>hb i hi (fun hm=>hni (by rw [htk];exact List.mem_append_left _ hm)))
   ·cases hsp:spanB s2.Ah
    ·refine Ev.step ptp (Ev.bind hp ?_)
     simp only [hsp];exact .done
    ·refine Ev.step ptp (Ev.bind hp ?_)
     simp only [hsp]
     refine ih (j+1) (setT t k (true,s2)) (by omega) (qr8 ht k1 hsl) (fun i hi hni=>?_)
     rw [htk] at hni
     have hne:i ≠ k:=fun e=>hni (List.mem_append_right _ (List.mem_singleton.2 e))
     have:=hb i hi (fun hm=>hni (List.mem_append_left _ hm))
     refine ⟨?_,?_,?_⟩
     ·show gt (setS _ _ _) i=_;rw [qpP (by rw [ht.r];exact k1),if_neg hne];exact this.1
     ·show gt (setS _ _ _) i=_;rw [qpP (by rw [ht.a];exact k1),if_neg hne];exact this.2.1
     ·show gt (setS _ _ _) i=_;rw [qpP (by rw [ht.s];exact k1),if_neg hne];exact this.2.2
 have hm1:mkS (M:Int) false=some (List.replicate M false):=qm9 (by omega)
 have hm2:mkS (M:Int) (⟨0,0⟩:qe)=some (List.replicate M zSp):=qm9 (by omega)
 have o3:=main R.length 0 (zTm M) (by omega) qt2 qwD
 rw [List.drop_zero] at o3
 rw [←eM] at hnd ⊢
 unfold qeC qg1
 simp only [ja,hnd,hm1,hm2]
 refine Ev.bind o3 ?_
 cases rnO f (linksL b) lv xs R (zTm M)<;>exact .done
end
end Go.Fw


namespace Go.Fw
open Go Go.Proofs
open Go.RowKit (Below)
set_option maxRecDepth 100000
set_option maxHeartbeats 1600000
variable {n:Nat} {w:World} {cs1 cs2 cs3 cs4 cs5 cs6 cs7 cs8 cs9:List Value}
def qdc (n:Nat) (j:qa0):Option ((Option Tl20Work) × Int) :=
 (qdk n (⟨(⟨j.Af.Av.Aq⟩:qp),(⟨j.Af.Ab.Aa,j.Af.Ab.Am,j.Af.Ab.Aj⟩:qd),j.Af.Ac⟩:qf) (⟨j.Ai.Bb,j.Ai.As,j.Ai.Az,j.Ai.Ar,j.Ai.Ba⟩:qr) j.Bi j.Ay).bind fun o=>match o with
  | (r2,r3) =>
   bif (r3 != 0) then some (none,r3) else
   (qeW n (⟨(⟨j.Af.Av.Aq⟩:qp),(⟨j.Af.Ab.Aa,j.Af.Ab.Am,j.Af.Ab.Aj⟩:qd),j.Af.Ac⟩:qf)).bind fun r4 =>
   (qgG n r4 j.Bi).bind fun r5 =>
   some ((some (⟨(⟨(⟨(⟨j.Af.Av.Aq⟩:qp),(⟨j.Af.Ab.Aa,j.Af.Ab.Am,j.Af.Ab.Aj⟩:qd),j.Af.Ac⟩:qf),(⟨j.Ai.Bb,j.Ai.As,j.Ai.Az,j.Ai.Ar,j.Ai.Ba⟩:qr),j.Bi,j.Ay⟩:qa0),r4,r5,r2⟩:Tl20Work)),0)
theorem qpl {A:Nat→Prop} (hA:∀ b,A b→old w b) {j:qa0} (ha1:GoT.R w A j cs1) {r:((Option Tl20Work) × Int)} (hF:qdc n j=some r):RetG Tryz.prog 33 [GoT.v qa0 cs1] w A r:=by
 obtain ⟨p1,k1,p2,k2,p3,k3,p4,k4,p5,k5,p6,k6,p7,k7,rfl,s1,s2,s3,s4,s5,s6,s7⟩:=qc4 ha1
 have hg:=Rg.start hA
 refine qdT Tryz.func33 rfl (m:=34) rfl rfl (fun h=>?_)
 refine zSR (qt h rfl rfl fun w1 bb1 h=>X4 13 0 0 0 0 h rfl ?_)
 obtain ⟨r1,hr1,hF⟩:=qc hF
 obtain ⟨r2,r3⟩:=r1
 refine qa2 (r2,r3) h (cB 59 rfl) (qlm (qfD _ (h.oldS (s1.mono hg.old)) (h.oldS (s2.mono hg.old)) (h.oldS (s3.mono hg.old)) (h.oldS (s4.mono hg.old)) (h.oldS (s5.mono hg.old))) (qdl _) ⟨_,_,rfl,(h.oldS (s6.mono hg.old))⟩ ⟨_,_,rfl,(h.oldS (s7.mono hg.old))⟩ hr1) rfl rfl rfl rfl fun w2 S1 us1 hv1 hr2=>?_
 obtain ⟨S2,S3,cs2,us2,rfl,hv2,hr3⟩:=hv1.cons hr2
 obtain ⟨p8,k8,p9,k9,p10,k10,rfl,-,-,-⟩:=qcG (hv2.sh.own 0 rfl)
 obtain ⟨rfl,h⟩:=hv2.lastI hr3
 refine zp3 rfl (qm qa h rfl rfl rfl fun w3 bb2 h=>zs 0 h rfl fun w4 h=>X0 8 rfl (qh rfl hF ?_ ?_))<;>intro hF
 ·refine X0 6 rfl ?_
  obtain rfl:=qb hF
  have hv4:GoRs.Rs (ρ:=((Option Tl20Work) × Int)) h.wc (reg A w h.wc) (none,r3) [GoT.v (Option Tl20Work) [.pointer none],GoT.v Int [.int .i64 r3]]:=⟨_,_,rfl,rfl,⟨_,rfl,rfl⟩⟩
  exact qdB qa (ρ:=((Option Tl20Work) × Int)) (r:=(none,r3)) [GoT.v (Option Tl20Work) [.pointer none],GoT.v Int [.int .i64 r3]] h ⟨rfl,rfl,trivial⟩ hv4
 refine X1 5 2 h rfl (zcL h hF (qgU (qfD _ (h.oldS (s1.mono hg.old)) (h.oldS (s2.mono hg.old)) (h.oldS (s3.mono hg.old)) (h.oldS (s4.mono hg.old)) (h.oldS (s5.mono hg.old)))) rfl fun r4 w5 S5 p11 k11 h hF=>X0 3 rfl (rA [] [1,3] h rfl fun w6 h=>M3 95 [0,1,2,3,4,6] 1 1 0 (h.pick [1,3] rfl) rfl (Ao 5 127 rfl (zcL h hF (qhr (h.own 0 rfl) ⟨_,_,rfl,(h.oldS (s6.mono hg.old))⟩) rfl fun r5 w7 S6 p12 k12 h hF=>Ag (h.pick [2,4] rfl) (Aw 7 255 (fun w' hw=>qY qa [0,1,2,3] [.tmp 25,.tmp 26,.tmp 30,.tmp 31] rfl rfl rfl rfl rfl rfl rfl rfl) (h.pick [2,4] rfl) rfl ?_)))))
 refine Ao 8 511 rfl (qt h rfl rfl fun w8 bb3 h=>G0 2047 [9,10] (h.pick [3,5] rfl) rfl (Ad ?_))
 obtain rfl:=qb hF
 have hv5:GoRs.Rs (ρ:=((Option Tl20Work) × Int)) h.wc (reg A w h.wc) ((some (⟨(⟨(⟨(⟨j.Af.Av.Aq⟩:qp),(⟨j.Af.Ab.Aa,j.Af.Ab.Am,j.Af.Ab.Aj⟩:qd),j.Af.Ac⟩:qf),(⟨j.Ai.Bb,j.Ai.As,j.Ai.Az,j.Ai.Ar,j.Ai.Ba⟩:qr),j.Bi,j.Ay⟩:qa0),r4,r5,r2⟩:Tl20Work)),0) [GoT.v (Option Tl20Work) [.pointer (some ⟨bb3,0,none⟩)],GoT.v Int [.int .i64 0]]:=⟨_,_,rfl,(hg.outR h (Rg.boxR (x:=(⟨(⟨(⟨(⟨j.Af.Av.Aq⟩:qp),(⟨j.Af.Ab.Aa,j.Af.Ab.Am,j.Af.Ab.Aj⟩:qd),j.Af.Ac⟩:qf),(⟨j.Ai.Bb,j.Ai.As,j.Ai.Az,j.Ai.Ar,j.Ai.Ba⟩:qr),j.Bi,j.Ay⟩:qa0),r4,r5,r2⟩:Tl20Work)) 0 h rfl (⟨[.slice p1 j.Af.Av.Aq.length k1,.slice p2 j.Af.Ab.Aa.length k2,.slice p3 j.Af.Ab.Am.length k3,.slice p4 j.Af.Ab.Aj.length k4,.slice p5 j.Af.Ac.length k5,.string j.Ai.Bb,.int .i64 j.Ai.As,.int .i64 j.Ai.Az,.int .i64 j.Ai.Ar,.int .i64 j.Ai.Ba,.slice p6 j.Bi.length k6,.slice p7 j.Ay.length k7],[.slice p11 r4.length k11,.slice p12 r5.length k12,.slice p8 r2.Bg.length k8,.slice p9 r2.Ah.length k9,.slice p10 r2.Bc.length k10],rfl,⟨[.slice p1 j.Af.Av.Aq.length k1,.slice p2 j.Af.Ab.Aa.length k2,.slice p3 j.Af.Ab.Am.length k3,.slice p4 j.Af.Ab.Aj.length k4,.slice p5 j.Af.Ac.length k5],[.string j.Ai.Bb,.int .i64 j.Ai.As,.int .i64 j.Ai.Az,.int .i64 j.Ai.Ar,.int .i64 j.Ai.Ba,.slice p6 j.Bi.length k6,.slice p7 j.Ay.length k7],rfl,⟨[.slice p1 j.Af.Av.Aq.length k1],[.slice p2 j.Af.Ab.Aa.length k2,.slice p3 j.Af.Ab.Am.length k3,.slice p4 j.Af.Ab.Aj.length k4,.slice p5 j.Af.Ac.length k5],rfl,⟨_,_,rfl,(hg.inS h s1)⟩,⟨[.slice p2 j.Af.Ab.Aa.length k2,.slice p3 j.Af.Ab.Am.length k3,.slice p4 j.Af.Ab.Aj.length k4],[.slice p5 j.Af.Ac.length k5],rfl,⟨[.slice p2 j.Af.Ab.Aa.length k2],[.slice p3 j.Af.Ab.Am.length k3,.slice p4 j.Af.Ab.Aj.length k4],rfl,⟨_,_,rfl,(hg.inS h s2)⟩,⟨[.slice p3 j.Af.Ab.Am.length k3],[.slice p4 j.Af.Ab.Aj.length k4],rfl,⟨_,_,rfl,(hg.inS h s3)⟩,⟨_,_,rfl,(hg.inS h s4)⟩⟩⟩,⟨_,_,rfl,(hg.inS h s5)⟩⟩⟩,⟨[.string j.Ai.Bb,.int .i64 j.Ai.As,.int .i64 j.Ai.Az,.int .i64 j.Ai.Ar,.int .i64 j.Ai.Ba],[.slice p6 j.Bi.length k6,.slice p7 j.Ay.length k7],rfl,⟨[.string j.Ai.Bb],[.int .i64 j.Ai.As,.int .i64 j.Ai.Az,.int .i64 j.Ai.Ar,.int .i64 j.Ai.Ba],rfl,rfl,⟨[.int .i64 j.Ai.As],[.int .i64 j.Ai.Az,.int .i64 j.Ai.Ar,.int .i64 j.Ai.Ba],rfl,rfl,⟨[.int .i64 j.Ai.Az],[.int .i64 j.Ai.Ar,.int .i64 j.Ai.Ba],rfl,rfl,⟨[.int .i64 j.Ai.Ar],[.int .i64 j.Ai.Ba],rfl,rfl,rfl⟩⟩⟩⟩,⟨[.slice p6 j.Bi.length k6],[.slice p7 j.Ay.length k7],rfl,⟨_,_,rfl,(hg.inS h s6)⟩,⟨_,_,rfl,(hg.inS h s7)⟩⟩⟩⟩,⟨[.slice p11 r4.length k11],[.slice p12 r5.length k12,.slice p8 r2.Bg.length k8,.slice p9 r2.Ah.length k9,.slice p10 r2.Bc.length k10],rfl,(Rg.ownR 2 h rfl),⟨[.slice p12 r5.length k12],[.slice p8 r2.Bg.length k8,.slice p9 r2.Ah.length k9,.slice p10 r2.Bc.length k10],rfl,(Rg.ownR 1 h rfl),(Rg.ownR 4 h rfl)⟩⟩⟩))),⟨_,rfl,rfl⟩⟩
 exact qdB qa (ρ:=((Option Tl20Work) × Int)) (r:=((some (⟨(⟨(⟨(⟨j.Af.Av.Aq⟩:qp),(⟨j.Af.Ab.Aa,j.Af.Ab.Am,j.Af.Ab.Aj⟩:qd),j.Af.Ac⟩:qf),(⟨j.Ai.Bb,j.Ai.As,j.Ai.Az,j.Ai.Ar,j.Ai.Ba⟩:qr),j.Bi,j.Ay⟩:qa0),r4,r5,r2⟩:Tl20Work)),0)) [GoT.v (Option Tl20Work) [.pointer (some ⟨bb3,0,none⟩)],GoT.v Int [.int .i64 0]] h ⟨rfl,rfl,trivial⟩ hv5
def qjG (_:Nat) (mode:Int):Option Bool :=
 bif (mode==0) then some true else
 some (mode==1)
theorem qpG {mode:Int}  {r:Bool} (hF:qjG n mode=some r):RetV Tryz.prog 34 [.int .i64 mode] w r:=by
 refine zV 9 Tryz.func34 rfl fun h=>X0 9 rfl (qi (t:=5) hF rfl ?_ ?_)<;>intro hF
 ·exact X0 5 rfl (rb h hF rfl)
 exact X0 7 rfl (rb h hF rfl)
def qcA (a_w:(Option Tl20Work)) (node:Int):Nat→Int→Option (Flow (qg × Bool) Int)
 | 0,_=>none
 | n+1,i1 =>
  (a_w).bind fun y1 =>
  bif decide (i1<(y1.j.Ay.length:Int)) then
   (idx y1.j.Ay i1).bind fun y2 =>
   bif (y2.Bo==node) then
    (idx y1.j.Ay i1).bind fun y3 =>
    some (.ret (y3,true))
   else
    qcA a_w node n (W64 (i1+1))
  else
   some (.nxt i1)
def qgt (n:Nat) (a_w:(Option Tl20Work)) (node:Int):Option (qg × Bool) :=
 (qcA a_w node n 0).bind fun o=>match o with
 | .ret r=>some r
 | .nxt _ =>
  some ((⟨0,(⟨0,0⟩:qe),(⟨0,0⟩:qe)⟩:qg),false)
theorem qkW {a_w:(Option Tl20Work)} {node:Int} (ha1:GoT.R w (old w) a_w cs1) {r:(qg × Bool)} (hF:qgt n a_w node=some r):RetV Tryz.prog 62 [GoT.v (Option Tl20Work) cs1,.int .i64 node] w r:=by
 obtain ⟨p1,rfl,s1⟩:=qal ha1
 refine zV 37 Tryz.func62 rfl fun h=>zSR (qm qa h rfl rfl rfl fun w1 bb1 h=>X0 7 rfl ?_)
 obtain ⟨o1,hF,hK1⟩:=qc hF
 refine ql (rL (fun m e w'=>∃ (i1:Int),qcA a_w node m i1=some o1∧e=[(0,.pointer p1),(1,.int .i64 node),(4,.pointer (some ⟨bb1,0,none⟩)),(6,.int .i64 i1)]∧SH w w' [Ch.box bb1 [.int .i64 0,.int .i64 0,.int .i64 0,.int .i64 0,.int .i64 0] 116]) n ⟨_,hF,rfl,h⟩ rfl ?_)
 rintro m1 e1 w2 ⟨i1,hF,rfl,h⟩
 rcases m1 with _|m1
 ·cases hF
 refine X0 5 rfl ?_
 obtain ⟨y1,hy1,hF⟩:=qc hF
 obtain ⟨b1,o_1,cs2,rfl,-,hr1,hc1⟩:=PtR.get s1 hy1
 obtain ⟨p2,k1,p3,k2,p4,k3,p5,k4,p6,k5,p7,k6,p8,k7,p9,k8,p10,k9,p11,k10,p12,k11,p13,k12,rfl,s2,s3,s4,s5,s6,s7,s8,s9,s10,s11,s12,s13⟩:=qiV hr1
 refine zp3 rfl (zc 11 (hc1.below h.below) rfl (X0 3 rfl (qh rfl hF ?_ ?_)))<;>intro hF
 ·refine X0 9 rfl (zc 11 (hc1.below h.below) rfl (zp1 rfl ?_))
  obtain ⟨y2,hy2,hF,he1,b2,_,q1,cs3,hp1,hq1,hr2,hc3⟩:=s8.ix hF
  obtain rfl:=qJ hr2
  refine zxe hp1 hq1 he1 rfl (zp1 rfl (zc 0 (hc3.below h.below) rfl (X0 3 rfl (qh rfl hF ?_ ?_))))<;>intro hF
  ·refine X0 6 rfl (zc 11 (hc1.below h.below) rfl (zp1 rfl ?_))
   obtain ⟨y3,hy3,hF,he2,b3,_,q2,cs4,hp2,hq2,hr3,hc5⟩:=s8.ix hF
   obtain rfl:=qJ hr3
   refine zxe hp2 hq2 he2 rfl (zc 0 (hc5.below h.below) rfl (zs 0 h rfl fun w3 h=>X0 2 rfl ?_))
   obtain rfl:=qb hF;replace hF:=hK1
   obtain rfl:=qb hF
   exact qV qa (ρ:=(qg × Bool)) [GoT.v qg (qe9 y3),GoT.v Bool [.bool true]] h ⟨⟨_,_,_,rfl,rfl,h.box 0 rfl,rfl⟩,rfl,trivial⟩ (PV.done h (qaa h (qw (S:=fun _=>False) (qb5 y3)) (qX (qw (S:=fun _=>False) rfl)) (by rfl)))
  exact X0 7 rfl (rK ⟨_,hF,rfl,h⟩ rfl)
 refine qu rfl ?_
 obtain rfl:=qb hF;replace hF:=hK1
 refine zSR (r_v (qY qa [] [] rfl rfl rfl rfl rfl rfl rfl rfl) rfl (zs 0 h rfl fun w4 h=>X0 2 rfl ?_))
 obtain rfl:=qb hF
 exact qV qa (ρ:=(qg × Bool)) [GoT.v qg [.int .i64 0,.int .i64 0,.int .i64 0,.int .i64 0,.int .i64 0],GoT.v Bool [.bool false]] h ⟨⟨_,_,_,rfl,rfl,h.box 0 rfl,rfl⟩,rfl,trivial⟩ (PV.done h (qaa h (qw (S:=fun _=>False) (qb5 (⟨0,(⟨0,0⟩:qe),(⟨0,0⟩:qe)⟩:qg))) (qX (qw (S:=fun _=>False) rfl)) (by rfl)))
def qej (a_0:(Option Tl20Work)) (a_2:(List Int)) (r3:Bool):Nat→Int→Int→Option (Flow (Int × Bool) (Int × Int))
 | 0,_,_=>none
 | n+1,i1,i2 =>
  (
   bif decide (i2<(a_2.length:Int)) then some r3 else
   some false).bind fun b1 =>
  bif b1 then
   (idx a_2 i2).bind fun y1 =>
   (
    (a_0).bind fun y4 =>
    (qap n y1 0 (W64 ((y4.links.length:Int)-1))).bind fun r4 =>
    bif (!r4) then some true else
    (idx y4.live y1).bind fun y5 =>
    bif (!y5) then some true else
    (idx y4.links y1).bind fun y6 =>
    some (y6.Bk != i1)).bind fun b3 =>
   bif b3 then some (.ret (0,false)) else
   (a_0).bind fun y2 =>
   (idx y2.links y1).bind fun y3 =>
   qej a_0 a_2 r3 n y3.To (W64 (i2+1))
  else
   some (.nxt (i1,i2))
def qkM (n:Nat) (a_0:(Option Tl20Work)) (a_1:Int) (a_2:(List Int)):Option (Int × Bool) :=
 (qgt n a_0 a_1).bind fun o=>match o with
  | (_,r3) =>
   (qej a_0 a_2 r3 n a_1 0).bind fun o=>match o with
   | .ret r=>some r
   | .nxt (i1,_) =>
    some (i1,r3)
theorem qp5 {a_0:(Option Tl20Work)} {a_1:Int} {a_2:(List Int)} (ha1:GoT.R w (old w) a_0 cs1) (ha2:GoT.R w (old w) a_2 cs2) {r:(Int × Bool)} (hF:qkM n a_0 a_1 a_2=some r):RetV Tryz.prog 35 [GoT.v (Option Tl20Work) cs1,.int .i64 a_1,GoT.v (List Int) cs2] w r:=by
 obtain ⟨p1,rfl,s1⟩:=qal ha1
 obtain ⟨p2,k1,rfl,s2⟩:=ha2
 refine zV 74 Tryz.func35 rfl fun h=>X0 9 rfl ?_
 obtain ⟨r1,hr1,hF⟩:=qc hF
 obtain ⟨r2,r3⟩:=r1
 refine qa2 (r2,r3) h (cB 62 rfl) (qkW (h.old s1) hr1) rfl rfl rfl rfl fun w1 S1 us1 hv1 hr2=>?_
 obtain ⟨S2,S3,cs3,us2,rfl,hv2,hr3⟩:=hv1.cons hr2
 obtain rfl:=qJ (hv2.sh.own 0 rfl)
 obtain ⟨rfl,h⟩:=hv2.lastB hr3
 refine zp3 rfl (qm qa h rfl rfl rfl fun w2 bb1 h=>zs 0 h rfl fun w3 h=>X0 12 rfl ?_)
 obtain ⟨o1,hF,hK1⟩:=qc hF
 refine ql ?_
 replace h:=h.pick [] rfl
 refine rL (fun m e w'=>∃ (i1:Int) (i2:Int),qej a_0 a_2 r3 m i1 i2=some o1∧e=[(0,.pointer p1),(2,.slice p2 a_2.length k1),(9,.bool r3),(10,.int .i64 i1),(11,.int .i64 i2)]∧SH w w' []) n ⟨_,_,hF,rfl,h⟩ rfl ?_
 rintro m1 e1 w4 ⟨i1,i2,hF,rfl,h⟩
 rcases m1 with _|m1
 ·cases hF
 refine zSS ?_
 obtain ⟨KF2,hKF2,o3,hF,hK3⟩:=bindE hF
 refine qbm (fun e w'=>∃ (b1:Bool),KF2 b1=some o1∧e=[(0,.pointer p1),(2,.slice p2 a_2.length k1),(9,.bool r3),(10,.int .i64 i1),(11,.int .i64 i2),(26,.bool b1)]∧SH w w' []) ?_ ?_
 ·refine X0 6 rfl (qi (t:=24) hF rfl ?_ ?_)<;>intro hF
  ·refine X0 4 rfl ?_
   obtain rfl:=qb hF
   exact rG ⟨_,hK3,rfl,h⟩ rfl
  refine X0 3 rfl ?_
  obtain rfl:=qb hF
  exact rG ⟨_,hK3,rfl,h⟩ rfl
 rintro e3 w7 ⟨b1,hF,rfl,h⟩
 subst hKF2
 refine qh rfl hF ?_ ?_<;>intro hF
 ·refine X0 7 rfl ?_
  obtain ⟨y1,hy1,hF,he1,b2,_,q1,cs4,hp1,hq1,rfl,hc2⟩:=s2.ix hF
  refine zxe hp1 hq1 he1 rfl (zc 0 (hc2.below h.below) rfl (X0 4 rfl ?_))
  obtain ⟨KF1,hKF1,o2,hF,hK2⟩:=bindE hF
  refine qbm (fun e w'=>∃ (b3:Bool),KF1 b3=some o1∧e=[(0,.pointer p1),(2,.slice p2 a_2.length k1),(9,.bool r3),(11,.int .i64 i2),(12,.int .i64 y1),(63,.bool b3)]∧SH w w' []) ?_ ?_
  ·refine X0 3 rfl ?_
   obtain ⟨y4,hy4,hF⟩:=qc hF
   obtain ⟨b6,o_4,cs7,rfl,-,hr8,hc6⟩:=PtR.get s1 hy4
   obtain ⟨p15,k14,p16,k15,p17,k16,p18,k17,p19,k18,p20,k19,p21,k20,p22,k21,p23,k22,p24,k23,p25,k24,p26,k25,rfl,s15,s16,s17,s18,s19,s20,s21,s22,s23,s24,s25,s26⟩:=qiV hr8
   refine zp2 rfl (zc 12 (hc6.below h.below) rfl (zp2 rfl (zcB h hF qae rfl fun r4 w5 h hF=>zp2 rfl (qi (t:=42) hF rfl ?_ ?_))))<;>intro hF
   ·refine X0 22 rfl ?_
    obtain rfl:=qb hF
    exact rG ⟨_,hK2,rfl,h⟩ rfl
   refine X0 7 rfl (zc 13 (hc6.below h.below) rfl (X0 3 rfl ?_))
   obtain ⟨y5,hy5,hF,he3,b7,_,q3,cs8,hp3,hq3,rfl,hc7⟩:=s23.ix hF
   refine zxe hp3 hq3 he3 rfl (X0 1 rfl (zc 0 (hc7.below h.below) rfl (X0 4 rfl (qi (t:=52) hF rfl ?_ ?_))))<;>intro hF
   ·refine X0 12 rfl ?_
    obtain rfl:=qb hF
    exact rG ⟨_,hK2,rfl,h⟩ rfl
   refine X0 7 rfl (zc 12 (hc6.below h.below) rfl (X0 3 rfl ?_))
   obtain ⟨y6,hy6,hF,he4,b8,_,q4,cs9,hp4,hq4,hr11,hc8⟩:=s22.ix hF
   obtain rfl:=qas hr11
   refine zxe hp4 hq4 he4 rfl (X0 3 rfl (zc 0 (hc8.below h.below) rfl (X0 6 rfl ?_)))
   obtain rfl:=qb hF
   exact rG ⟨_,hK2,rfl,h⟩ rfl
  rintro e2 w6 ⟨b3,hF,rfl,h⟩
  subst hKF1
  refine qh rfl hF ?_ ?_<;>intro hF
  ·refine X0 5 rfl ?_
   obtain rfl:=qb hF;replace hF:=hK1
   obtain rfl:=qb hF
   exact qV qa (ρ:=(Int × Bool)) [GoT.v Int [.int .i64 0],GoT.v Bool [.bool false]] h ⟨rfl,rfl,trivial⟩ (PV.done h (qaa h (qw (S:=fun _=>False) rfl) (qX (qw (S:=fun _=>False) rfl)) (by rfl)))
  refine X0 3 rfl ?_
  obtain ⟨y2,hy2,hF⟩:=qc hF
  obtain ⟨b4,o_2,cs5,rfl,-,hr6,hc4⟩:=PtR.get s1 hy2
  obtain ⟨p3,k2,p4,k3,p5,k4,p6,k5,p7,k6,p8,k7,p9,k8,p10,k9,p11,k10,p12,k11,p13,k12,p14,k13,rfl,s3,s4,s5,s6,s7,s8,s9,s10,s11,s12,s13,s14⟩:=qiV hr6
  refine zp2 rfl (zc 12 (hc4.below h.below) rfl (zp1 rfl ?_))
  obtain ⟨y3,hy3,hF,he2,b5,_,q2,cs6,hp2,hq2,hr7,hc5⟩:=s10.ix hF
  obtain rfl:=qas hr7
  exact zxe hp2 hq2 he2 rfl (zp1 rfl (zc 1 (hc5.below h.below) rfl (X0 8 rfl (rK ⟨_,_,hF,rfl,h⟩ rfl))))
 refine qu rfl ?_
 obtain rfl:=qb hF;replace hF:=hK1
 refine X0 7 rfl ?_
 obtain rfl:=qb hF
 exact qV qa (ρ:=(Int × Bool)) [GoT.v Int [.int .i64 i1],GoT.v Bool [.bool r3]] h ⟨rfl,rfl,trivial⟩ (PV.done h (qaa h (qw (S:=fun _=>False) rfl) (qX (qw (S:=fun _=>False) rfl)) (by rfl)))
def qh7 (_:Nat) (s:qe) (mode:Int):Option Int :=
 bif (mode==1) then some s.Bd else
 some s.Ap
theorem qme {s:qe} {mode:Int} (ha1:GoT.R w (old w) s cs1) {r:Int} (hF:qh7 n s mode=some r):RetV Tryz.prog 64 [GoT.v qe cs1,.int .i64 mode] w r:=by
 obtain rfl:=qy ha1
 refine zV 11 Tryz.func64 rfl fun h=>zSR (qt h rfl rfl fun w1 bb1 h=>X0 8 rfl (qh rfl hF ?_ ?_))<;>intro hF
 ·exact X1 6 0 h rfl (ri h hF rfl)
 exact X1 7 0 h rfl (ri h hF rfl)
def qij (n:Nat) (j:qa0) (start:Int) (links:(List Int)) (mode:Int):Option ((Option Tl20Work) × Int) :=
 (qdc n j).bind fun o=>match o with
  | (r2,r3) =>
   bif (r3 != 0) then some (none,r3) else
   (qjG n mode).bind fun r4 =>
   bif (!r4) then some (none,2) else
   (qkM n r2 start links).bind fun o=>match o with
    | (_,r7) =>
     bif (!r7) then some (none,5) else
     some (r2,0)
theorem qpu {A:Nat→Prop} (hA:∀ b,A b→old w b) {j:qa0} {start:Int} {links:(List Int)} {mode:Int} (ha1:GoT.R w A j cs1) (ha2:GoT.R w A links cs2) {r:((Option Tl20Work) × Int)} (hF:qij n j start links mode=some r):RetG Tryz.prog 46 [GoT.v qa0 cs1,.int .i64 start,GoT.v (List Int) cs2,.int .i64 mode] w A r:=by
 obtain ⟨p1,k1,p2,k2,p3,k3,p4,k4,p5,k5,p6,k6,p7,k7,rfl,s1,s2,s3,s4,s5,s6,s7⟩:=qc4 ha1
 obtain ⟨p8,k8,rfl,s8⟩:=ha2
 have hg:=Rg.start hA
 refine qdT Tryz.func46 rfl (m:=35) rfl rfl (fun h=>?_)
 refine zSR (qt h rfl rfl fun w1 bb1 h=>X1 6 0 h rfl ?_)
 obtain ⟨r1,hr1,hF⟩:=qc hF
 obtain ⟨r2,r3⟩:=r1
 refine qhm (r2,r3) hg h (cB 33 rfl) (qpl (hg.regOld h) (hg.inR h ha1) hr1) rfl rfl rfl rfl fun w2 us1 B1 hg1 hu1 hz1 hv1=>?_
 have hL1:=h.ext hu1.below
 have s9:=Up.S hg h hu1 s8
 have hb1:=h.below.trans (hu1.below.mono h.below.size)
 replace h:=hz1
 obtain ⟨cs3,us2,rfl,hr2,hv2⟩:=qjS hv1
 obtain ⟨p9,rfl,s10⟩:=qal hr2
 obtain ⟨cs4,rfl,hr3⟩:=qju hv2
 obtain rfl:=hr3
 refine X0 12 rfl (qh rfl hF ?_ ?_)<;>intro hF
 ·refine X0 6 rfl ?_
  obtain rfl:=qb hF
  have hv3:GoRs.Rs (ρ:=((Option Tl20Work) × Int)) h.wc (reg A w h.wc) (none,r3) [GoT.v (Option Tl20Work) [.pointer none],GoT.v Int [.int .i64 r3]]:=⟨_,_,rfl,rfl,⟨_,rfl,rfl⟩⟩
  exact qdB qa (ρ:=((Option Tl20Work) × Int)) (r:=(none,r3)) [GoT.v (Option Tl20Work) [.pointer none],GoT.v Int [.int .i64 r3]] (h.unbase hg1.below (show NoD [] from trivial)) ⟨rfl,rfl,trivial⟩ hv3
 refine X0 5 rfl (zcB h hF qpG rfl fun r4 w3 h hF=>X0 2 rfl (qh rfl hF ?_ ?_))<;>intro hF
 ·refine X0 5 rfl ?_
  obtain rfl:=qb hF
  have hv4:GoRs.Rs (ρ:=((Option Tl20Work) × Int)) h.wc (reg A w h.wc) (none,2) [GoT.v (Option Tl20Work) [.pointer none],GoT.v Int [.int .i64 2]]:=⟨_,_,rfl,rfl,⟨_,rfl,rfl⟩⟩
  exact qdB qa (ρ:=((Option Tl20Work) × Int)) (r:=(none,2)) [GoT.v (Option Tl20Work) [.pointer none],GoT.v Int [.int .i64 2]] (h.unbase hg1.below (show NoD [] from trivial)) ⟨rfl,rfl,trivial⟩ hv4
 refine X0 6 rfl ?_
 obtain ⟨r5,hr5,hF⟩:=qc hF
 obtain ⟨r6,r7⟩:=r5
 refine qa2 (r6,r7) h (cB 35 rfl) (qp5 (h.old (GoT.mono s10 hg1.old)) ⟨_,_,rfl,(h.oldS (s9.mono hg1.old))⟩ hr5) rfl rfl rfl rfl fun w4 S1 us3 hv5 hr6=>?_
 obtain ⟨S2,us4,rfl,hv6,hr7⟩:=hv5.consI hr6
 obtain ⟨rfl,h⟩:=hv6.lastB hr7
 refine X0 12 rfl (qh rfl hF ?_ ?_)<;>intro hF
 ·refine X0 5 rfl ?_
  obtain rfl:=qb hF
  have hv8:GoRs.Rs (ρ:=((Option Tl20Work) × Int)) h.wc (reg A w h.wc) (none,5) [GoT.v (Option Tl20Work) [.pointer none],GoT.v Int [.int .i64 5]]:=⟨_,_,rfl,rfl,⟨_,rfl,rfl⟩⟩
  exact qdB qa (ρ:=((Option Tl20Work) × Int)) (r:=(none,5)) [GoT.v (Option Tl20Work) [.pointer none],GoT.v Int [.int .i64 5]] (h.unbase hg1.below (show NoD [] from trivial)) ⟨rfl,rfl,trivial⟩ hv8
 refine X0 7 rfl ?_
 obtain rfl:=qb hF
 have hv9:GoRs.Rs (ρ:=((Option Tl20Work) × Int)) h.wc (reg A w h.wc) (r2,0) [GoT.v (Option Tl20Work) [.pointer p9],GoT.v Int [.int .i64 0]]:=⟨_,_,rfl,(hg1.outR h (hg1.inR h s10)),⟨_,rfl,rfl⟩⟩
 exact qdB qa (ρ:=((Option Tl20Work) × Int)) (r:=(r2,0)) [GoT.v (Option Tl20Work) [.pointer p9],GoT.v Int [.int .i64 0]] (h.unbase hg1.below (show NoD [] from trivial)) ⟨rfl,rfl,trivial⟩ hv9
def qe6 (a_0:(Option Tl20Work)) (a_2:(List Int)) (a_3:Int):Nat→Int→Int→Int→Option (Int × Int × Int)
 | 0,_,_,_=>none
 | n+1,i1,i2,i3 =>
  bif decide (i3<(a_2.length:Int)) then
   (a_0).bind fun y1 =>
   (idx a_2 i3).bind fun y2 =>
   (idx y1.links y2).bind fun y3 =>
   (qbN n (⟨(⟨y1.j.Af.Av.Aq⟩:qp),(⟨y1.j.Af.Ab.Aa,y1.j.Af.Ab.Am,y1.j.Af.Ab.Aj⟩:qd),y1.j.Af.Ac⟩:qf) (⟨y1.j.Ai.Bb,y1.j.Ai.As,y1.j.Ai.Az,y1.j.Ai.Ar,y1.j.Ai.Ba⟩:qr) y3 i2 a_3).bind fun r6 =>
   (qcb n (⟨(⟨y1.j.Af.Av.Aq⟩:qp),(⟨y1.j.Af.Ab.Aa,y1.j.Af.Ab.Am,y1.j.Af.Ab.Aj⟩:qd),y1.j.Af.Ac⟩:qf) y3 i2 a_3).bind fun r7 =>
   qe6 a_0 a_2 a_3 n (W64 (i1+r6)) r7 (W64 (i3+1))
  else
   some (i1,i2,i3)
def qkN (n:Nat) (a_0:(Option Tl20Work)) (a_1:Int) (a_2:(List Int)) (a_3:Int):Option (Int × Int) :=
 (qgt n a_0 a_1).bind fun o=>match o with
  | (r2,_) =>
   (qh7 n (⟨r2.Ah.Ap,r2.Ah.Bd⟩:qe) a_3).bind fun r4 =>
   (qh7 n (⟨r2.Bc.Ap,r2.Bc.Bd⟩:qe) a_3).bind fun r5 =>
   (qe6 a_0 a_2 a_3 n r4 r5 0).bind fun o=>match o with
   | (i1,i2,_) =>
    some (i1,i2)
theorem qqp {a_0:(Option Tl20Work)} {a_1:Int} {a_2:(List Int)} {a_3:Int} (ha1:GoT.R w (old w) a_0 cs1) (ha2:GoT.R w (old w) a_2 cs2) {r:(Int × Int)} (hF:qkN n a_0 a_1 a_2 a_3=some r):RetV Tryz.prog 47 [GoT.v (Option Tl20Work) cs1,.int .i64 a_1,GoT.v (List Int) cs2,.int .i64 a_3] w r:=by
 obtain ⟨p1,rfl,s1⟩:=qal ha1
 obtain ⟨p2,k1,rfl,s2⟩:=ha2
 refine zV 73 Tryz.func47 rfl fun h=>X0 9 rfl ?_
 obtain ⟨r1,hr1,hF⟩:=qc hF
 obtain ⟨r2,r3⟩:=r1
 refine qa2 (r2,r3) h (cB 62 rfl) (qkW (h.old s1) hr1) rfl rfl rfl rfl fun w1 S1 us1 hv1 hr2=>?_
 obtain ⟨S2,S3,cs3,us2,rfl,hv2,hr3⟩:=hv1.cons hr2
 obtain rfl:=qJ (hv2.sh.own 0 rfl)
 obtain ⟨rfl,h⟩:=hv2.lastB hr3
 refine zp3 rfl (qm qa h rfl rfl rfl fun w2 bb1 h=>zs 0 h rfl fun w3 h=>X1 7 0 h rfl (zcI h hF (qme (qz _)) rfl fun r4 w4 h hF=>X1 7 0 h rfl (zcI h hF (qme (qz _)) rfl fun r5 w5 h hF=>X0 7 rfl ?_)))
 obtain ⟨o1,hF,hK1⟩:=qc hF
 refine ql ?_
 replace h:=h.pick [] rfl
 refine rL (fun m e w'=>∃ (i1:Int) (i2:Int) (i3:Int),qe6 a_0 a_2 a_3 m i1 i2 i3=some o1∧e=[(0,.pointer p1),(2,.slice p2 a_2.length k1),(3,.int .i64 a_3),(12,.int .i64 i1),(13,.int .i64 i2),(14,.int .i64 i3)]∧SH w w' []) n ⟨_,_,_,hF,rfl,h⟩ rfl ?_
 rintro m1 e1 w6 ⟨i1,i2,i3,hF,rfl,h⟩
 rcases m1 with _|m1
 ·cases hF
 refine X0 8 rfl (qh rfl hF ?_ ?_)<;>intro hF
 ·refine X0 4 rfl (rA [] [] h rfl fun w7 h=>M0 1 [0] (h.pick [] rfl) rfl ?_)
  obtain ⟨y1,hy1,hF⟩:=qc hF
  obtain ⟨b1,o_1,cs4,rfl,-,hr7,hc2⟩:=PtR.get s1 hy1
  obtain ⟨p3,k2,p4,k3,p5,k4,p6,k5,p7,k6,p8,k7,p9,k8,p10,k9,p11,k10,p12,k11,p13,k12,p14,k13,rfl,s3,s4,s5,s6,s7,s8,s9,s10,s11,s12,s13,s14⟩:=qiV hr7
  refine M0 7 [1,2] (h.pick [] rfl) rfl (Al 3 15 12 hc2 (h.pick [] rfl) rfl (M0 63 [4,5] (h.pick [] rfl) rfl ?_))
  obtain ⟨y2,hy2,hF,he1,b2,_,q1,cs5,hp1,hq1,rfl,hc3⟩:=s2.ix hF
  refine Ae 6 127 hp1 hq1 he1 (h.pick [] rfl) rfl (Al 7 255 0 hc3 (h.pick [] rfl) rfl ?_)
  obtain ⟨y3,hy3,hF,he2,b3,_,q2,cs6,hp2,hq2,hr9,hc4⟩:=s10.ix hF
  obtain rfl:=qas hr9
  refine Ae 8 511 hp2 hq2 he2 (h.pick [] rfl) rfl (Al 9 1023 0 hc4 (h.pick [] rfl) rfl (Ao 10 2047 rfl (qm qa h rfl rfl rfl fun w8 bb2 h=>Ag (h.pick [] rfl) (Ao 11 4095 rfl (zs 0 h rfl fun w9 h=>Ag (h.pick [] rfl) (Ad (qcv (rD (zd5 rfl (zdc 0 (hc2.below h.below) rfl (zd4 rfl (zdc 5 (hc2.below h.below) rfl (Y1 1 0 h rfl ?_)))))))))))))
  refine zd2 rfl ?_
  obtain ⟨r6,hr10,hF⟩:=qc hF
  refine qaO r6 (vsI _) (cB 77 rfl) (fun _ hb=>qci (qfD _ ((h.ext hb).oldS s3) ((h.ext hb).oldS s4) ((h.ext hb).oldS s5) ((h.ext hb).oldS s6) ((h.ext hb).oldS s7)) (qdl _) (qbP y3) hr10) rfl rfl rfl rfl (zd2 rfl (dN h fun w10 h=>rD (zd4 rfl (zdc 0 (hc2.below h.below) rfl (Y1 1 0 h rfl ?_)))))
  refine zd2 rfl ?_
  obtain ⟨r7,hr11,hF⟩:=qc hF
  refine qaO r7 (vsI _) (cB 78 rfl) (fun _ hb=>qcM (qfD _ ((h.ext hb).oldS s3) ((h.ext hb).oldS s4) ((h.ext hb).oldS s5) ((h.ext hb).oldS s6) ((h.ext hb).oldS s7)) (qbP y3) hr11) rfl rfl rfl rfl (zd1 rfl (dN h fun w11 h=>X0 6 rfl ?_))
  replace h:=h.pick [] rfl
  exact rK ⟨_,_,_,hF,rfl,h⟩ rfl
 refine qu rfl ?_
 obtain rfl:=qb hF;replace hF:=hK1
 refine X0 7 rfl ?_
 obtain rfl:=qb hF
 exact qV qa (ρ:=(Int × Int)) [GoT.v Int [.int .i64 i1],GoT.v Int [.int .i64 i2]] h ⟨rfl,rfl,trivial⟩ (PV.done h (qaa h (qw (S:=fun _=>False) rfl) (qX (qw (S:=fun _=>False) rfl)) (by rfl)))
def qhq (n:Nat) (j:qa0) (start:Int) (links:(List Int)) (mode:Int):Option (Int × Int × Int) :=
 (qij n j start links mode).bind fun o=>match o with
  | (r2,r3) =>
   bif (r3 != 0) then some (0,0,r3) else
   (qkN n r2 start links mode).bind fun o=>match o with
    | (r5,r6) =>
     some (r5,r6,0)
theorem qnK {j:qa0} {start:Int} {links:(List Int)} {mode:Int} (ha1:GoT.R w (old w) j cs1) (ha2:GoT.R w (old w) links cs2) {r:(Int × Int × Int)} (hF:qhq n j start links mode=some r):RetV Tryz.prog 16 [GoT.v qa0 cs1,.int .i64 start,GoT.v (List Int) cs2,.int .i64 mode] w r:=by
 obtain ⟨p1,k1,p2,k2,p3,k3,p4,k4,p5,k5,p6,k6,p7,k7,rfl,s1,s2,s3,s4,s5,s6,s7⟩:=qc4 ha1
 obtain ⟨p8,k8,rfl,s8⟩:=ha2
 refine zV 36 Tryz.func16 rfl fun h=>zSR (qt h rfl rfl fun w1 bb1 h=>X1 10 0 h rfl ?_)
 have hg1:Rg (old w) w (old w) w:=.start (fun _ h=>h)
 obtain ⟨r1,hr1,hF⟩:=qc hF
 obtain ⟨r2,r3⟩:=r1
 refine qhm (r2,r3) hg1 h (cB 46 rfl) (qpu (hg1.regOld h) (hg1.inR h ha1) ⟨_,_,rfl,(hg1.inS h s8)⟩ hr1) rfl rfl rfl rfl fun w2 us1 B1 hg2 hu1 hz1 hv1=>?_
 have hL1:=h.ext hu1.below
 have s9:=Up.S hg1 h hu1 s8
 have hb1:=h.below.trans (hu1.below.mono h.below.size)
 replace h:=hz1
 obtain ⟨cs3,us2,rfl,hr2,hv2⟩:=qjS hv1
 obtain ⟨p9,rfl,s10⟩:=qal hr2
 obtain ⟨cs4,rfl,hr3⟩:=qju hv2
 obtain rfl:=hr3
 refine X0 12 rfl (qh rfl hF ?_ ?_)<;>intro hF
 ·refine X0 7 rfl ?_
  replace h:=h.unbase hg2.below (show NoD [] from trivial)
  obtain rfl:=qb hF
  exact qV qa (ρ:=(Int × Int × Int)) [GoT.v Int [.int .i64 0],GoT.v Int [.int .i64 0],GoT.v Int [.int .i64 r3]] h ⟨rfl,rfl,rfl,trivial⟩ (PV.done h (qaa h (qw (S:=fun _=>False) rfl) (qaa h (qw (S:=fun _=>False) rfl) (qX (qw (S:=fun _=>False) rfl)) (by rfl)) (by rfl)))
 refine X0 7 rfl ?_
 obtain ⟨r4,hr4,hF⟩:=qc hF
 obtain ⟨r5,r6⟩:=r4
 refine qa2 (r5,r6) h (cB 47 rfl) (qqp (h.old (GoT.mono s10 hg2.old)) ⟨_,_,rfl,(h.oldS (s9.mono hg2.old))⟩ hr4) rfl rfl rfl rfl fun w3 S1 us3 hv3 hr5=>?_
 obtain ⟨S2,us4,rfl,hv4,hr6⟩:=hv3.consI hr5
 obtain ⟨rfl,h⟩:=hv4.lastI hr6
 refine X0 14 rfl ?_
 replace h:=h.unbase hg2.below (show NoD [] from trivial)
 obtain rfl:=qb hF
 exact qV qa (ρ:=(Int × Int × Int)) [GoT.v Int [.int .i64 r5],GoT.v Int [.int .i64 r6],GoT.v Int [.int .i64 0]] h ⟨rfl,rfl,rfl,trivial⟩ (PV.done h (qaa h (qw (S:=fun _=>False) rfl) (qaa h (qw (S:=fun _=>False) rfl) (qX (qw (S:=fun _=>False) rfl)) (by rfl)) (by rfl)))
def qiy (n:Nat) (v:(Option Tview)) (link:Int):Option Bool :=
 (v).bind fun y1 =>
 (qcW n y1.links).bind fun r1 =>
 (qaG n link 0 (W64 (r1-1))).bind fun r2 =>
 some r2
theorem qno {v:(Option Tview)} {link:Int} (ha1:GoT.R w (old w) v cs1) {r:Bool} (hF:qiy n v link=some r):RetV Tryz.prog 161 [GoT.v (Option Tview) cs1,.int .i64 link] w r:=by
 obtain ⟨p1,rfl,s1⟩:=qal ha1
 refine zV 13 Tryz.func161 rfl fun h=>X0 8 rfl ?_
 obtain ⟨y1,hy1,hF⟩:=qc hF
 obtain ⟨b1,o_1,cs2,rfl,-,hr1,hc1⟩:=PtR.get s1 hy1
 obtain ⟨p2,k1,p3,k2,p4,k3,p5,k4,p6,k5,p7,k6,p8,k7,p9,k8,p10,k9,p11,k10,rfl,s2,s3,s4,s5,s6,s7,s8,s9,s10,s11⟩:=qbG hr1
 exact zp2 rfl (zc 6 (hc1.below h.below) rfl (zcI h hF (qg7 ⟨_,_,rfl,(h.oldS s8)⟩) rfl fun r1 w1 h hF=>zp1 rfl (zcB h hF qav rfl fun r2 w2 h hF=>X0 2 rfl (rb h hF rfl))))
def qb0 (v:(Option Tview)) (links:(List Int)):Nat→Int→Option (Flow Bool Int)
 | 0,_=>none
 | n+1,i1 =>
  bif decide (i1<(links.length:Int)) then
   (idx links i1).bind fun y1 =>
   (qiy n v y1).bind fun r1 =>
   bif (!r1) then some (.ret false) else
   bif decide (i1 > 0) then
    (v).bind fun y2 =>
    (idx links (W64 (i1-1))).bind fun y3 =>
    (idx y2.links y3).bind fun y4 =>
    (idx y2.links y1).bind fun y5 =>
    bif (y4.To != y5.Bk) then some (.ret false) else
    qb0 v links n (W64 (i1+1))
   else
    qb0 v links n (W64 (i1+1))
  else
   some (.nxt i1)
def qgM (n:Nat) (v:(Option Tview)) (links:(List Int)):Option Bool :=
 (qb0 v links n 0).bind fun o=>match o with
 | .ret r=>some r
 | .nxt _ =>
  some true
theorem qng {v:(Option Tview)} {links:(List Int)} (ha1:GoT.R w (old w) v cs1) (ha2:GoT.R w (old w) links cs2) {r:Bool} (hF:qgM n v links=some r):RetV Tryz.prog 109 [GoT.v (Option Tview) cs1,GoT.v (List Int) cs2] w r:=by
 obtain ⟨p1,rfl,s1⟩:=qal ha1
 obtain ⟨p2,k1,rfl,s2⟩:=ha2
 refine zV 46 Tryz.func109 rfl fun h=>X0 11 rfl ?_
 obtain ⟨o1,hF,hK1⟩:=qc hF
 refine ql (rL (fun m e w'=>∃ (i1:Int),qb0 v links m i1=some o1∧e=[(0,.pointer p1),(1,.slice p2 links.length k1),(7,.slice p2 links.length k1),(8,.int .i64 (links.length:Int)),(9,.int .i64 i1)]∧SH w w' []) n ⟨_,hF,rfl,h⟩ rfl ?_)
 rintro m1 e1 w1 ⟨i1,hF,rfl,h⟩
 rcases m1 with _|m1
 ·cases hF
 refine X0 5 rfl (qh rfl hF ?_ ?_)<;>intro hF
 ·refine X0 6 rfl ?_
  obtain ⟨y1,hy1,hF,he1,b1,_,q1,cs3,hp1,hq1,rfl,hc2⟩:=s2.ix hF
  refine zxe hp1 hq1 he1 rfl (zc 0 (hc2.below h.below) rfl (X0 4 rfl (rD (zd2 rfl ?_))))
  obtain ⟨r1,hr2,hF⟩:=qc hF
  refine qaO r1 (vsB _) (cB 161 rfl) (fun _ hb=>qno ((h.ext hb).old s1) hr2) rfl rfl rfl rfl (zd2 rfl (qaJ (t:=18) hF rfl ?_ ?_))<;>intro hF
  ·refine Y0 26 rfl (dN h fun w2 h=>qbW rfl rfl (X0 4 rfl ?_))
   obtain rfl:=qb hF;replace hF:=hK1
   exact rb h hF rfl
  refine Y0 6 rfl (qaJ (t:=21) hF rfl ?_ ?_)<;>intro hF
  ·refine Y0 3 rfl ?_
   obtain ⟨y2,hy2,hF⟩:=qc hF
   obtain ⟨b2,o_2,cs4,rfl,-,hr3,hc3⟩:=PtR.get s1 hy2
   obtain ⟨p3,k2,p4,k3,p5,k4,p6,k5,p7,k6,p8,k7,p9,k8,p10,k9,p11,k10,p12,k11,rfl,s3,s4,s5,s6,s7,s8,s9,s10,s11,s12⟩:=qbG hr3
   refine Y0 4 rfl (zdc 6 (hc3.below h.below) rfl (Y0 7 rfl ?_))
   obtain ⟨y3,hy3,hF,he2,b3,_,q2,cs5,hp2,hq2,rfl,hc4⟩:=s2.ix hF
   refine zdxe hp2 hq2 he2 rfl (Y0 1 rfl (zdc 0 (hc4.below h.below) rfl (Y0 1 rfl ?_)))
   obtain ⟨y4,hy4,hF,he3,b4,_,q3,cs6,hp3,hq3,hr5,hc5⟩:=s9.ix hF
   obtain rfl:=qas hr5
   refine zdxe hp3 hq3 he3 rfl (Y0 3 rfl (zdc 1 (hc5.below h.below) rfl (Y0 7 rfl (zdc 6 (hc3.below h.below) rfl (Y0 3 rfl ?_)))))
   obtain ⟨y5,hy5,hF,he4,b5,_,q4,cs7,hp4,hq4,hr6,hc6⟩:=s9.ix hF
   obtain rfl:=qas hr6
   refine zdxe hp4 hq4 he4 rfl (Y0 3 rfl (zdc 0 (hc6.below h.below) rfl (Y0 5 rfl (dN h fun w3 h=>qh rfl hF ?_ ?_))))<;>intro hF
   ·refine X0 4 rfl ?_
    obtain rfl:=qb hF;replace hF:=hK1
    exact rb h hF rfl
   exact X0 6 rfl (rK ⟨_,hF,rfl,h⟩ rfl)
  exact Y0 24 rfl (dN h fun w4 h=>qbS rfl rfl (X0 6 rfl (rK ⟨_,hF,rfl,h⟩ rfl)))
 refine qu rfl ?_
 obtain rfl:=qb hF;replace hF:=hK1
 exact X0 4 rfl (rb h hF rfl)
def qeI (_:Nat) (link:Int) (v0:(Option Twork)):Option Bool :=
 (v0).bind fun y1 =>
 (y1.graph).bind fun y2 =>
 (idx y2.live link).bind fun y3 =>
 some (!y3)
theorem qle {link:Int} {v0:(Option Twork)} {p1:Option Addr} (ha1:GoT.R w (old w) (some v0) [.pointer p1]) {r:Bool} (hF:qeI n link v0=some r):RetV Tryz.prog 111 [.int .i64 link,.pointer p1] w r:=by
 obtain ⟨b1,o_1,cs1,rfl,-,hr1,hc1⟩:=PtR.get ha1 rfl
 obtain ⟨p2,rfl,s1⟩:=qal hr1
 refine zV 15 Tryz.func111 rfl fun h=>X0 6 rfl (zc 0 (hc1.below h.below) rfl ?_)
 obtain ⟨y1,hy1,hF⟩:=qc hF
 obtain ⟨b2,o_2,cs2,rfl,-,hr2,hc2⟩:=PtR.get s1 hy1
 obtain ⟨p3,p4,k1,p5,k2,p6,k3,p7,k4,p8,k5,p9,k6,p10,k7,p11,k8,p12,k9,p13,k10,p14,k11,rfl,s2,s3,s4,s5,s6,s7,s8,s9,s10,s11,s12,s13⟩:=qlG hr2
 refine zp2 rfl (zc 0 (hc2.below h.below) rfl ?_)
 obtain ⟨y2,hy2,hF⟩:=qc hF
 obtain ⟨b3,o_3,cs3,rfl,-,hr3,hc3⟩:=PtR.get s2 hy2
 obtain ⟨p15,p16,k12,rfl,s14,s15⟩:=qdj hr3
 refine zp2 rfl (zc 1 (hc3.below h.below) rfl (zp1 rfl ?_))
 obtain ⟨y3,hy3,hF,he1,b4,_,q1,cs4,hp1,hq1,rfl,hc4⟩:=s15.ix hF
 exact zxe hp1 hq1 he1 rfl (zc 0 (hc4.below h.below) rfl (X0 3 rfl (rb h hF rfl)))
def qS (s:(List Int)) (f_0:(Option Twork)):Nat→Int→Option (Flow Int Int)
 | 0,_=>none
 | n+1,i1 =>
  bif decide (i1<(s.length:Int)) then
   (idx s i1).bind fun y1 =>
   (qeI n y1 f_0).bind fun r1 =>
   bif r1 then some (.ret i1) else
   qS s f_0 n (W64 (i1+1))
  else
   some (.nxt i1)
def qaE (n:Nat) (s:(List Int)) (f_0:(Option Twork)):Option Int :=
 (qS s f_0 n 0).bind fun o=>match o with
 | .ret r=>some r
 | .nxt _ =>
  some (-1)
theorem qeV {s:(List Int)} {f_0:(Option Twork)} (ha1:GoT.R w (old w) s cs1) {p2:Option Addr} (ha2:GoT.R w (old w) (some f_0) [.pointer p2]) {r:Int} (hF:qaE n s f_0=some r):RetV Tryz.prog 162 [GoT.v (List Int) cs1,.func (.func 111) #[] #[.pointer p2]] w r:=by
 obtain ⟨p1,k1,rfl,s1⟩:=ha1
 obtain ⟨b1,o_1,cs2,rfl,-,hr1,hc1⟩:=PtR.get ha2 rfl
 obtain ⟨p3,rfl,s2⟩:=qal hr1
 refine zV 19 Tryz.func162 rfl fun h=>X0 11 rfl ?_
 obtain ⟨o1,hF,hK1⟩:=qc hF
 refine ql (rL (fun m e w'=>∃ (i1:Int),qS s f_0 m i1=some o1∧e=[(0,.slice p1 s.length k1),(1,.func (.func 111) #[] #[.pointer (some ⟨b1,o_1,none⟩)]),(7,.int .i64 (s.length:Int)),(8,.int .i64 i1)]∧SH w w' []) n ⟨_,hF,rfl,h⟩ rfl ?_)
 rintro m1 e1 w1 ⟨i1,hF,rfl,h⟩
 rcases m1 with _|m1
 ·cases hF
 refine X0 5 rfl (qh rfl hF ?_ ?_)<;>intro hF
 ·refine X0 13 rfl ?_
  obtain ⟨y1,hy1,hF,he1,b2,_,q1,cs3,hp1,hq1,rfl,hc3⟩:=s1.ix hF
  refine zxe hp1 hq1 he1 rfl (zc 0 (hc3.below h.below) rfl (zcB h hF (qle (h.old ha2)) rfl fun r1 w2 h hF=>qcw (qh rfl hF ?_ ?_)))<;>intro hF
  ·refine X0 5 rfl ?_
   obtain rfl:=qb hF;replace hF:=hK1
   exact ri h hF rfl
  exact X0 6 rfl (rK ⟨_,hF,rfl,h⟩ rfl)
 refine qu rfl ?_
 obtain rfl:=qb hF;replace hF:=hK1
 exact X0 4 rfl (ri h hF rfl)
def qT (n:Nat) (s:(List Int)) (f_0:(Option Twork)):Option Bool :=
 (qaE n s f_0).bind fun r1 =>
 some (decide (r1 ≥ 0))
theorem qbO {s:(List Int)} {f_0:(Option Twork)} (ha1:GoT.R w (old w) s cs1) {p2:Option Addr} (ha2:GoT.R w (old w) (some f_0) [.pointer p2]) {r:Bool} (hF:qT n s f_0=some r):RetV Tryz.prog 110 [GoT.v (List Int) cs1,.func (.func 111) #[] #[.pointer p2]] w r:=by
 obtain ⟨p1,k1,rfl,s1⟩:=ha1
 obtain ⟨b1,o_1,cs2,rfl,-,hr1,hc1⟩:=PtR.get ha2 rfl
 obtain ⟨p3,rfl,s2⟩:=qal hr1
 exact zV 9 Tryz.func110 rfl fun h=>X0 8 rfl (zcI h hF (qeV ⟨_,_,rfl,(h.oldS s1)⟩ (h.old ha2)) rfl fun r1 w1 h hF=>X0 3 rfl (rb h hF rfl))
def qfB (n:Nat) (a_w:(Option Twork)) (start:Int) (links:(List Int)):Option Bool :=
 (a_w).bind fun y1 =>
 (qdS n y1.job.Ay start).bind fun o=>match o with
  | (_,r3) =>
   (
    bif (!r3) then some true else
    (y1.graph).bind fun y6 =>
    (qgM n y6.view links).bind fun r6 =>
    some (!r6)).bind fun b2 =>
   bif b2 then some false else
   bif decide ((links.length:Int) > 0) then
    (y1.graph).bind fun y2 =>
    (y2.view).bind fun y3 =>
    (idx links 0).bind fun y4 =>
    (idx y3.links y4).bind fun y5 =>
    bif (y5.Bk != start) then some false else
    (qT n links a_w).bind fun r4 =>
    some (!r4)
   else
    (qT n links a_w).bind fun r5 =>
    some (!r5)
theorem qmq {a_w:(Option Twork)} {start:Int} {links:(List Int)} (ha1:GoT.R w (old w) a_w cs1) (ha2:GoT.R w (old w) links cs2) {r:Bool} (hF:qfB n a_w start links=some r):RetV Tryz.prog 71 [GoT.v (Option Twork) cs1,.int .i64 start,GoT.v (List Int) cs2] w r:=by
 obtain ⟨p1,rfl,s1⟩:=qal ha1
 obtain ⟨p2,k1,rfl,s2⟩:=ha2
 refine zV 60 Tryz.func71 rfl fun h=>zSR (qt h rfl rfl fun w1 bb1 h=>X1 6 0 h rfl ?_)
 obtain ⟨y1,hy1,hF⟩:=qc hF
 obtain ⟨b1,o_1,cs3,rfl,-,hr1,hc1⟩:=PtR.get s1 hy1
 obtain ⟨p3,p4,k2,p5,k3,p6,k4,p7,k5,p8,k6,p9,k7,p10,k8,p11,k9,p12,k10,p13,k11,p14,k12,rfl,s3,s4,s5,s6,s7,s8,s9,s10,s11,s12,s13,s14⟩:=qlG hr1
 refine zp3 rfl (zc 12 (hc1.below h.below) rfl (zp1 rfl ?_))
 obtain ⟨r1,hr2,hF⟩:=qc hF
 obtain ⟨r2,r3⟩:=r1
 refine qa2 (r2,r3) h (cB 79 rfl) (qiA ⟨_,_,rfl,(h.oldS s10)⟩ hr2) rfl rfl rfl rfl fun w2 S1 us1 hv1 hr3=>?_
 obtain ⟨S2,S3,cs4,us2,rfl,hv2,hr4⟩:=hv1.cons hr3
 obtain rfl:=qJ (hv2.sh.own 0 rfl)
 obtain ⟨rfl,h⟩:=hv2.lastB hr4
 refine zp3 rfl (qm qa h rfl rfl rfl fun w3 bb2 h=>zs 0 h rfl fun w4 h=>X0 3 rfl ?_)
 obtain ⟨KF1,hKF1,o1,hF,hK1⟩:=bindE hF
 refine qbm (fun e w'=>∃ (b2:Bool),KF1 b2=some r∧e=[(1,.int .i64 start),(2,.slice p2 links.length k1),(3,.pointer (some ⟨bb1,0,none⟩)),(32,.bool b2)]∧SH w w' [Ch.box bb1 [.pointer (some ⟨b1,o_1,none⟩)] 82]) ?_ ?_
 ·refine X0 4 rfl (qi (t:=21) hF rfl ?_ ?_)<;>intro hF
  ·refine X0 12 rfl ?_
   replace h:=h.pick [2] rfl
   obtain rfl:=qb hF
   exact rG ⟨_,hK1,rfl,h⟩ rfl
  refine X1 7 2 h rfl (zc 0 (hc1.below h.below) rfl (X0 1 rfl ?_))
  obtain ⟨y6,hy6,hF⟩:=qc hF
  obtain ⟨b7,o_6,cs9,rfl,-,hr12,hc8⟩:=PtR.get s3 hy6
  obtain ⟨p27,p28,k24,rfl,s27,s28⟩:=qdj hr12
  refine X0 4 rfl (zc 0 (hc8.below h.below) rfl (X0 3 rfl (zcB h hF (qng (h.old s27) ⟨_,_,rfl,(h.oldS s2)⟩) rfl fun r6 w9 h hF=>X0 4 rfl ?_)))
  replace h:=h.pick [2] rfl
  obtain rfl:=qb hF
  exact rG ⟨_,hK1,rfl,h⟩ rfl
 rintro e1 w10 ⟨b2,hF,rfl,h⟩
 subst hKF1
 refine qh rfl hF ?_ ?_<;>intro hF
 ·exact X0 4 rfl (rb h hF rfl)
 refine zKSS (rD (zd4 rfl (qaJ (t:=36) hF rfl ?_ ?_)))<;>intro hF
 ·refine Y1 2 0 h rfl ?_
  refine Y0 5 rfl (zdc 0 (hc1.below h.below) rfl (Y0 1 rfl ?_))
  obtain ⟨y2,hy2,hF⟩:=qc hF
  obtain ⟨b3,o_2,cs5,rfl,-,hr6,hc3⟩:=PtR.get s3 hy2
  obtain ⟨p15,p16,k13,rfl,s15,s16⟩:=qdj hr6
  refine Y0 4 rfl (zdc 0 (hc3.below h.below) rfl (Y0 1 rfl ?_))
  obtain ⟨y3,hy3,hF⟩:=qc hF
  obtain ⟨b4,o_3,cs6,rfl,-,hr7,hc4⟩:=PtR.get s15 hy3
  obtain ⟨p17,k14,p18,k15,p19,k16,p20,k17,p21,k18,p22,k19,p23,k20,p24,k21,p25,k22,p26,k23,rfl,s17,s18,s19,s20,s21,s22,s23,s24,s25,s26⟩:=qbG hr7
  refine Y0 4 rfl (zdc 6 (hc4.below h.below) rfl (Y0 3 rfl ?_))
  obtain ⟨y4,hy4,hF,he1,b5,_,q1,cs7,hp1,hq1,rfl,hc5⟩:=s2.ix hF
  refine zdxe hp1 hq1 he1 rfl (Y0 1 rfl (zdc 0 (hc5.below h.below) rfl (Y0 1 rfl ?_)))
  obtain ⟨y5,hy5,hF,he2,b6,_,q2,cs8,hp2,hq2,hr9,hc6⟩:=s23.ix hF
  obtain rfl:=qas hr9
  refine zdxe hp2 hq2 he2 rfl (Y0 3 rfl (zdc 0 (hc6.below h.below) rfl (Y0 5 rfl (dN h fun w5 h=>qh rfl hF ?_ ?_))))<;>intro hF
  ·exact X0 4 rfl (rb h hF rfl)
  exact X0 5 rfl (zcB h hF (qbO ⟨_,_,rfl,(h.oldS s2)⟩ (qgn (x:=a_w) 0 h rfl (h.old s1))) rfl fun r4 w6 h hF=>X0 3 rfl (rb h hF rfl))
 exact Y0 19 rfl (dN h fun w7 h=>qbS rfl rfl (X0 5 rfl (zcB h hF (qbO ⟨_,_,rfl,(h.oldS s2)⟩ (qgn (x:=a_w) 0 h rfl (h.old s1))) rfl fun r5 w8 h hF=>X0 3 rfl (rb h hF rfl))))
def qcr (n:Nat) (j:qa0) (mode:Int) (start:Int) (links:(List Int)):Option ((Option Twork) × Int) :=
 (qgD n j mode []).bind fun o=>match o with
  | (r2,r3) =>
   bif (r3==0) then
    (qfB n r2 start links).bind fun r4 =>
    bif (!r4) then some (none,5) else
    some (r2,r3)
   else
    some (r2,r3)
theorem qoO {A:Nat→Prop} (hA:∀ b,A b→old w b) {j:qa0} {mode:Int} {start:Int} {links:(List Int)} (ha1:GoT.R w A j cs1) (ha2:GoT.R w A links cs2) {r:((Option Twork) × Int)} (hF:qcr n j mode start links=some r):RetG Tryz.prog 40 [GoT.v qa0 cs1,.int .i64 mode,.int .i64 start,GoT.v (List Int) cs2] w A r:=by
 obtain ⟨p1,k1,p2,k2,p3,k3,p4,k4,p5,k5,p6,k6,p7,k7,rfl,s1,s2,s3,s4,s5,s6,s7⟩:=qc4 ha1
 obtain ⟨p8,k8,rfl,s8⟩:=ha2
 have hg:=Rg.start hA
 refine qdT Tryz.func40 rfl (m:=29) rfl rfl (fun h=>?_)
 refine zSR (qt h rfl rfl fun w1 bb1 h=>X1 7 0 h rfl ?_)
 obtain ⟨r1,hr1,hF⟩:=qc hF
 obtain ⟨r2,r3⟩:=r1
 refine qhm (r2,r3) hg h (cB 70 rfl) (qph (hg.regOld h) (hg.inR h ha1) ⟨_,_,rfl,qm3⟩ hr1) rfl rfl rfl rfl fun w2 us1 B1 hg1 hu1 hz1 hv1=>?_
 have hL1:=h.ext hu1.below
 have s9:=Up.S hg h hu1 s8
 have hb1:=h.below.trans (hu1.below.mono h.below.size)
 replace h:=hz1
 obtain ⟨cs3,us2,rfl,hr2,hv2⟩:=qjS hv1
 obtain ⟨p9,rfl,s10⟩:=qal hr2
 obtain ⟨cs4,rfl,hr3⟩:=qju hv2
 obtain rfl:=hr3
 refine X0 12 rfl (qi (t:=20) hF rfl ?_ ?_)<;>intro hF
 ·refine X0 7 rfl (zcB h hF (qmq (h.old (GoT.mono s10 hg1.old)) ⟨_,_,rfl,(h.oldS (s9.mono hg1.old))⟩) rfl fun r4 w3 h hF=>X0 4 rfl (qh rfl hF ?_ ?_))<;>intro hF
  ·refine X0 5 rfl ?_
   obtain rfl:=qb hF
   have hv3:GoRs.Rs (ρ:=((Option Twork) × Int)) h.wc (reg A w h.wc) (none,5) [GoT.v (Option Twork) [.pointer none],GoT.v Int [.int .i64 5]]:=⟨_,_,rfl,rfl,⟨_,rfl,rfl⟩⟩
   exact qdB qa (ρ:=((Option Twork) × Int)) (r:=(none,5)) [GoT.v (Option Twork) [.pointer none],GoT.v Int [.int .i64 5]] (h.unbase hg1.below (show NoD [] from trivial)) ⟨rfl,rfl,trivial⟩ hv3
  refine X0 8 rfl ?_
  obtain rfl:=qb hF
  have hv4:GoRs.Rs (ρ:=((Option Twork) × Int)) h.wc (reg A w h.wc) (r2,r3) [GoT.v (Option Twork) [.pointer p9],GoT.v Int [.int .i64 r3]]:=⟨_,_,rfl,(hg1.outR h (hg1.inR h s10)),⟨_,rfl,rfl⟩⟩
  exact qdB qa (ρ:=((Option Twork) × Int)) (r:=(r2,r3)) [GoT.v (Option Twork) [.pointer p9],GoT.v Int [.int .i64 r3]] (h.unbase hg1.below (show NoD [] from trivial)) ⟨rfl,rfl,trivial⟩ hv4
 refine X0 7 rfl (qbS rfl rfl (X0 8 rfl ?_))
 obtain rfl:=qb hF
 have hv5:GoRs.Rs (ρ:=((Option Twork) × Int)) h.wc (reg A w h.wc) (r2,r3) [GoT.v (Option Twork) [.pointer p9],GoT.v Int [.int .i64 r3]]:=⟨_,_,rfl,(hg1.outR h (hg1.inR h s10)),⟨_,rfl,rfl⟩⟩
 exact qdB qa (ρ:=((Option Twork) × Int)) (r:=(r2,r3)) [GoT.v (Option Twork) [.pointer p9],GoT.v Int [.int .i64 r3]] (h.unbase hg1.below (show NoD [] from trivial)) ⟨rfl,rfl,trivial⟩ hv5
def qjL (_:Nat) (s:qe) (mode:Int):Option Int :=
 bif (mode==0) then some s.Ap else
 some s.Bd
theorem ql7 {s:qe} {mode:Int} (ha1:GoT.R w (old w) s cs1) {r:Int} (hF:qjL n s mode=some r):RetV Tryz.prog 42 [GoT.v qe cs1,.int .i64 mode] w r:=by
 obtain rfl:=qy ha1
 refine zV 11 Tryz.func42 rfl fun h=>zSR (qt h rfl rfl fun w1 bb1 h=>X0 8 rfl (qh rfl hF ?_ ?_))<;>intro hF
 ·exact X1 6 0 h rfl (ri h hF rfl)
 exact X1 7 0 h rfl (ri h hF rfl)
def qcf (a_2:(List Int)) (a_3:Int) (y1:Twork):Nat→(List Int)→Int→Int→Int→Option ((List Int) × Int × Int × Int)
 | 0,_,_,_,_=>none
 | n+1,x1,i1,i2,i3 =>
  bif decide (i3<(a_2.length:Int)) then
   (idx a_2 i3).bind fun y2 =>
   (y1.graph).bind fun y3 =>
   (qa8 n y3.view (⟨y1.job.Ai.Bb,y1.job.Ai.As,y1.job.Ai.Az,y1.job.Ai.Ar,y1.job.Ai.Ba⟩:qr) y2 i2 a_3).bind fun r6 =>
   (qaF n y3.view y2 i2 a_3).bind fun r7 =>
   (appS x1 ([W64 (i1+r6)]:List Int)).bind fun x2 =>
   qcf a_2 a_3 y1 n x2 (W64 (i1+r6)) r7 (W64 (i3+1))
  else
   some (x1,i1,i2,i3)
def qf6 (n:Nat) (a_0:(Option Twork)) (a_1:Int) (a_2:(List Int)) (a_3:Int):Option ((List Int) × Int) :=
 (a_0).bind fun y1 =>
 (qdS n y1.job.Ay a_1).bind fun o=>match o with
  | (r2,_) =>
   (qjL n (⟨r2.Ah.Ap,r2.Ah.Bd⟩:qe) a_3).bind fun r4 =>
   (qjL n (⟨r2.Bc.Ap,r2.Bc.Bd⟩:qe) a_3).bind fun r5 =>
   (qcf a_2 a_3 y1 n ([r4]:List Int) r4 r5 0).bind fun o=>match o with
   | (x1,_,i2,_) =>
    some (x1,i2)
theorem qmX {a_0:(Option Twork)} {a_1:Int} {a_2:(List Int)} {a_3:Int} (ha1:GoT.R w (old w) a_0 cs1) (ha2:GoT.R w (old w) a_2 cs2) {r:((List Int) × Int)} (hF:qf6 n a_0 a_1 a_2 a_3=some r):RetV Tryz.prog 48 [GoT.v (Option Twork) cs1,.int .i64 a_1,GoT.v (List Int) cs2,.int .i64 a_3] w r:=by
 obtain ⟨p1,rfl,s1⟩:=qal ha1
 obtain ⟨p2,k1,rfl,s2⟩:=ha2
 refine zV 79 Tryz.func48 rfl fun h=>X0 8 rfl ?_
 obtain ⟨y1,hy1,hF⟩:=qc hF
 obtain ⟨b1,o_1,cs3,rfl,-,hr1,hc1⟩:=PtR.get s1 hy1
 obtain ⟨p3,p4,k2,p5,k3,p6,k4,p7,k5,p8,k6,p9,k7,p10,k8,p11,k9,p12,k10,p13,k11,p14,k12,rfl,s3,s4,s5,s6,s7,s8,s9,s10,s11,s12,s13,s14⟩:=qlG hr1
 refine zp3 rfl (zc 12 (hc1.below h.below) rfl (zp1 rfl ?_))
 obtain ⟨r1,hr2,hF⟩:=qc hF
 obtain ⟨r2,r3⟩:=r1
 refine qa2 (r2,r3) h (cB 79 rfl) (qiA ⟨_,_,rfl,(h.oldS s10)⟩ hr2) rfl rfl rfl rfl fun w1 S1 us1 hv1 hr3=>?_
 obtain ⟨S2,S3,cs4,us2,rfl,hv2,hr4⟩:=hv1.cons hr3
 obtain rfl:=qJ (hv2.sh.own 0 rfl)
 obtain ⟨rfl,h⟩:=hv2.lastB hr4
 refine zp3 rfl (qm qa h rfl rfl rfl fun w2 bb1 h=>zs 0 h rfl fun w3 h=>X0 3 rfl (rD (Y1 2 0 h rfl ?_)))
 refine zd1 rfl ?_
 obtain ⟨r4,hr6,hF⟩:=qc hF
 refine qaO r4 (vsI _) (cB 42 rfl) (fun _ hb=>ql7 (qz _) hr6) rfl rfl rfl rfl (Y1 2 0 h rfl ?_)
 refine zd1 rfl ?_
 obtain ⟨r5,hr7,hF⟩:=qc hF
 refine qaO r5 (vsI _) (cB 42 rfl) (fun _ hb=>ql7 (qz _) hr7) rfl rfl rfl rfl (zd2 rfl (dN h fun w4 h=>X0 3 rfl (qK qa [.tmp 35] _ ([r4]:List Int) h rfl rfl rfl rfl rfl rfl rfl rfl rfl ⟨rfl,trivial⟩ rfl fun w5 p15 S5 h=>X0 9 rfl ?_)))
 obtain ⟨o1,hF,hK1⟩:=qc hF
 refine ql ?_
 replace h:=h.pick [0] rfl
 refine rL (fun m e w'=>∃ (S6:Nat→Prop) (p16:Option Addr) (ln1:Nat) (k13:Nat) (x1:(List Int)) (i1:Int) (i2:Int) (i3:Int),qcf a_2 a_3 y1 m x1 i1 i2 i3=some o1∧e=[(0,.pointer (some ⟨b1,o_1,none⟩)),(3,.int .i64 a_3),(12,.int .i64 i1),(13,.int .i64 i2),(14,.slice p16 ln1 k13),(37,.slice p2 a_2.length k1),(38,.int .i64 (a_2.length:Int)),(39,.int .i64 i3)]∧SH w w' [Ch.own S6 (x1:List Int) [.slice p16 ln1 k13]]) n ⟨_,_,_,_,_,_,_,_,hF,rfl,h⟩ rfl ?_
 rintro m1 e1 w6 ⟨S6,p16,ln1,k13,x1,i1,i2,i3,hF,rfl,h⟩
 obtain rfl:=(h.sl 0 rfl).2
 rcases m1 with _|m1
 ·cases hF
 refine X0 5 rfl (qh rfl hF ?_ ?_)<;>intro hF
 ·refine zKSBSR ?_
  obtain ⟨y2,hy2,hF,he1,b2,_,q1,cs5,hp1,hq1,rfl,hc3⟩:=s2.ix hF
  refine zxe hp1 hq1 he1 rfl (zc 0 (hc3.below h.below) rfl (X0 3 rfl (rD (zd4 rfl (zdc 0 (hc1.below h.below) rfl ?_)))))
  obtain ⟨y3,hy3,hF⟩:=qc hF
  obtain ⟨b3,o_3,cs6,rfl,-,hr9,hc4⟩:=PtR.get s3 hy3
  obtain ⟨p17,p18,k14,rfl,s15,s16⟩:=qdj hr9
  refine zd2 rfl (zdc 0 (hc4.below h.below) rfl (zd4 rfl (zdc 6 (hc1.below h.below) rfl (zd3 rfl ?_))))
  obtain ⟨r6,hr10,hF⟩:=qc hF
  refine qaO r6 (vsI _) (cB 80 rfl) (fun _ hb=>qak ((h.ext hb).old s15) (qdl _) hr10) rfl rfl rfl rfl (zd2 rfl (dN h fun w7 h=>X0 5 rfl (zc 0 (hc1.below h.below) rfl (zp2 rfl (zc 0 (hc4.below h.below) rfl (zp3 rfl (zcI h hF (qeS (h.old s15)) rfl fun r7 w8 h hF=>X0 5 rfl (qK qa [.tmp 73] _ ([W64 (i1+r6)]:List Int) h rfl rfl rfl rfl rfl rfl rfl rfl rfl ⟨rfl,trivial⟩ rfl fun w9 p19 S7 h=>?_))))))))
  obtain ⟨x2,hx1,hF⟩:=qc hF
  obtain ⟨g1,hx1⟩:=qay hx1
  refine qcE qa 1 h rfl (h.sl 0 rfl).1 (h.sl 0 rfl).2 rfl rfl rfl rfl rfl rfl rfl rfl rfl g1 hx1 rfl fun w10 p20 k15 S8 h=>X0 7 rfl ?_
  replace h:=h.pick [1] rfl
  exact rK ⟨_,_,_,_,_,_,_,_,hF,rfl,h⟩ rfl
 refine qu rfl ?_
 obtain rfl:=qb hF;replace hF:=hK1
 refine X0 7 rfl ?_
 obtain rfl:=qb hF
 exact qV qa (ρ:=((List Int) × Int)) [GoT.v (List Int) [.slice p16 x1.length k13],GoT.v Int [.int .i64 i2]] h ⟨rfl,rfl,trivial⟩ (PV.done h (qaa h (qaz 0 h rfl) (qX (qw (S:=fun _=>False) rfl)) (by rfl)))
end Go.Fw


namespace Go.Fw
open Go Go.Proofs
open Go.RowKit (Below)
set_option maxRecDepth 100000
set_option maxHeartbeats 1600000
variable {n:Nat} {w:World} {cs1 cs2 cs3 cs4 cs5 cs6 cs7 cs8 cs9:List Value}
def qho (n:Nat) (j:qa0) (start:Int) (links:(List Int)) (mode:Int):Option (Int × Int × Int) :=
 (qcr n j mode start links).bind fun o=>match o with
  | (r2,r3) =>
   bif (r3 != 0) then some (0,0,r3) else
   (qf6 n r2 start links mode).bind fun o=>match o with
    | (r5,r6) =>
     (idx r5 (links.length:Int)).bind fun y1 =>
     some (y1,r6,0)
theorem qnA {j:qa0} {start:Int} {links:(List Int)} {mode:Int} (ha1:GoT.R w (old w) j cs1) (ha2:GoT.R w (old w) links cs2) {r:(Int × Int × Int)} (hF:qho n j start links mode=some r):RetV Tryz.prog 17 [GoT.v qa0 cs1,.int .i64 start,GoT.v (List Int) cs2,.int .i64 mode] w r:=by
 obtain ⟨p1,k1,p2,k2,p3,k3,p4,k4,p5,k5,p6,k6,p7,k7,rfl,s1,s2,s3,s4,s5,s6,s7⟩:=qc4 ha1
 obtain ⟨p8,k8,rfl,s8⟩:=ha2
 refine zV 40 Tryz.func17 rfl fun h=>zSR (qt h rfl rfl fun w1 bb1 h=>X1 10 0 h rfl ?_)
 have hg1:Rg (old w) w (old w) w:=.start (fun _ h=>h)
 obtain ⟨r1,hr1,hF⟩:=qc hF
 obtain ⟨r2,r3⟩:=r1
 refine qhm (r2,r3) hg1 h (cB 40 rfl) (qoO (hg1.regOld h) (hg1.inR h ha1) ⟨_,_,rfl,(hg1.inS h s8)⟩ hr1) rfl rfl rfl rfl fun w2 us1 B1 hg2 hu1 hz1 hv1=>?_
 have hL1:=h.ext hu1.below
 have s9:=Up.S hg1 h hu1 s8
 have hb1:=h.below.trans (hu1.below.mono h.below.size)
 replace h:=hz1
 obtain ⟨cs3,us2,rfl,hr2,hv2⟩:=qjS hv1
 obtain ⟨p9,rfl,s10⟩:=qal hr2
 obtain ⟨cs4,rfl,hr3⟩:=qju hv2
 obtain rfl:=hr3
 refine X0 12 rfl (qh rfl hF ?_ ?_)<;>intro hF
 ·refine X0 7 rfl ?_
  replace h:=h.unbase hg2.below (show NoD [] from trivial)
  obtain rfl:=qb hF
  exact qV qa (ρ:=(Int × Int × Int)) [GoT.v Int [.int .i64 0],GoT.v Int [.int .i64 0],GoT.v Int [.int .i64 r3]] h ⟨rfl,rfl,rfl,trivial⟩ (PV.done h (qaa h (qw (S:=fun _=>False) rfl) (qaa h (qw (S:=fun _=>False) rfl) (qX (qw (S:=fun _=>False) rfl)) (by rfl)) (by rfl)))
 refine X0 7 rfl ?_
 obtain ⟨r4,hr4,hF⟩:=qc hF
 obtain ⟨r5,r6⟩:=r4
 refine qa2 (r5,r6) h (cB 48 rfl) (qmX (h.old (GoT.mono s10 hg2.old)) ⟨_,_,rfl,(h.oldS (s9.mono hg2.old))⟩ hr4) rfl rfl rfl rfl fun w3 S1 us3 hv3 hr5=>?_
 obtain ⟨S2,S3,p10,k9,us4,rfl,hv4,hr6⟩:=hv3.consL hr5
 obtain ⟨rfl,h⟩:=hv4.lastI hr6
 refine X0 11 rfl ?_
 obtain ⟨y1,hy1,hF,he1,b1,_,q1,cs5,hp1,hq1,rfl,hc2⟩:=(h.sl 0 rfl).1.ix hF
 refine zx hp1 hq1 ⟨he1.1,qU he1.2.1 (h.sl 0 rfl).2⟩ rfl (zc 0 hc2 rfl (X0 5 rfl ?_))
 replace h:=h.unbase hg2.below ⟨fun _ h=>h,trivial⟩
 obtain rfl:=qb hF
 exact qV qa (ρ:=(Int × Int × Int)) [GoT.v Int [.int .i64 y1],GoT.v Int [.int .i64 r6],GoT.v Int [.int .i64 0]] h ⟨rfl,rfl,rfl,trivial⟩ (PV.done h (qaa h (qw (S:=fun _=>False) rfl) (qaa h (qw (S:=fun _=>False) rfl) (qX (qw (S:=fun _=>False) rfl)) (by rfl)) (by rfl)))
def ql1 (n:Nat) (a:qa0) (left:Int):Option Int :=
 (qjC n (⟨(⟨a.Af.Av.Aq⟩:qp),(⟨a.Af.Ab.Aa,a.Af.Ab.Am,a.Af.Ab.Aj⟩:qd),a.Af.Ac⟩:qf) left).bind fun r1 =>
 bif decide (r1<0) then some (-1) else
 (qiU n (⟨a.Ai.Bb,a.Ai.As,a.Ai.Az,a.Ai.Ar,a.Ai.Ba⟩:qr) r1).bind fun r2 =>
 bif decide (r2<0) then some (-1) else
 (qbM n a.Bi r2).bind fun r3 =>
 bif decide (r3<0) then some (-1) else
 (qki n a.Ay r3).bind fun r4 =>
 bif decide (r4<0) then some (-1) else
 some r4
theorem qqW {a:qa0} {left:Int} (ha1:GoT.R w (old w) a cs1) {r:Int} (hF:ql1 n a left=some r):RetV Tryz.prog 9 [GoT.v qa0 cs1,.int .i64 left] w r:=by
 obtain ⟨p1,k1,p2,k2,p3,k3,p4,k4,p5,k5,p6,k6,p7,k7,rfl,s1,s2,s3,s4,s5,s6,s7⟩:=qc4 ha1
 refine zV 30 Tryz.func9 rfl fun h=>zSR (qt h rfl rfl fun w1 bb1 h=>X1 7 0 h rfl (zcI h hF (qpJ (qfD _ (h.oldS s1) (h.oldS s2) (h.oldS s3) (h.oldS s4) (h.oldS s5))) rfl fun r1 w2 h hF=>X0 8 rfl (qh rfl hF ?_ ?_)))<;>intro hF
 ·exact X0 4 rfl (ri h hF rfl)
 refine X1 6 0 h rfl (zcI h hF (qo1 (qdl _)) rfl fun r2 w3 h hF=>X0 8 rfl (qh rfl hF ?_ ?_))<;>intro hF
 ·exact X0 4 rfl (ri h hF rfl)
 refine X1 6 0 h rfl (zcI h hF (qbv ⟨_,_,rfl,(h.oldS s6)⟩) rfl fun r3 w4 h hF=>X0 8 rfl (qh rfl hF ?_ ?_))<;>intro hF
 ·exact X0 4 rfl (ri h hF rfl)
 refine X1 6 0 h rfl (zcI h hF (qnX ⟨_,_,rfl,(h.oldS s7)⟩) rfl fun r4 w5 h hF=>X0 8 rfl (qh rfl hF ?_ ?_))<;>intro hF
 ·exact X0 4 rfl (ri h hF rfl)
 exact X0 6 rfl (ri h hF rfl)
def qiE (n:Nat) (a:qa0):Option qa0 :=
 (qjH n (⟨(⟨a.Af.Av.Aq⟩:qp),(⟨a.Af.Ab.Aa,a.Af.Ab.Am,a.Af.Ab.Aj⟩:qd),a.Af.Ac⟩:qf)).bind fun r1 =>
 (qiI n (⟨a.Ai.Bb,a.Ai.As,a.Ai.Az,a.Ai.Ar,a.Ai.Ba⟩:qr)).bind fun r2 =>
 (qaP n a.Bi).bind fun r3 =>
 (qib n a.Ay).bind fun r4 =>
 some (⟨r1,(⟨r2.Bb,r2.As,r2.Az,r2.Ar,r2.Ba⟩:qr),r3,r4⟩:qa0)
theorem qk8 {a:qa0} (ha1:GoT.R w (old w) a cs1) {r:qa0} (hF:qiE n a=some r):RetV Tryz.prog 11 [GoT.v qa0 cs1] w r:=by
 obtain ⟨p1,k1,p2,k2,p3,k3,p4,k4,p5,k5,p6,k6,p7,k7,rfl,s1,s2,s3,s4,s5,s6,s7⟩:=qc4 ha1
 refine zV 21 Tryz.func11 rfl fun h=>zSR (qt h rfl rfl fun w1 bb1 h=>qm qa h rfl rfl rfl fun w2 bb2 h=>zNSR (qm qa h rfl rfl rfl fun w3 bb3 h=>X1 5 2 h rfl (zcO h hF (qpL (qfD _ (h.oldS s1) (h.oldS s2) (h.oldS s3) (h.oldS s4) (h.oldS s5))) rfl fun r1 w4 S1 cs2 h hF=>?_)))
 obtain ⟨p8,k8,p9,k9,p10,k10,p11,k11,p12,k12,rfl,-,-,-,-,-⟩:=qab (h.own 0 rfl)
 refine zp1 rfl (zs 1 h rfl fun w5 h=>X1 5 3 h rfl (zcO h hF (qo4 (qdl _)) rfl fun r2 w6 S2 cs3 h hF=>?_))
 obtain rfl:=qaB (h.own 0 rfl)
 refine zp1 rfl (zs 2 h rfl fun w7 h=>X1 5 4 h rfl (zcL h hF (qaI ⟨_,_,rfl,(h.oldS s6)⟩) rfl fun r3 w8 S3 p13 k13 h hF=>zp1 rfl (zs 3 h rfl fun w9 h=>X1 5 5 h rfl (zcL h hF (qnW ⟨_,_,rfl,(h.oldS s7)⟩) rfl fun r4 w10 S4 p14 k14 h hF=>zp1 rfl (zs 4 h rfl fun w11 h=>X1 4 4 h rfl (zs 5 h rfl fun w12 h=>qcw ?_))))))
 obtain rfl:=qb hF
 exact qV qa (ρ:=qa0) [GoT.v qa0 [.slice p8 r1.Av.Aq.length k8,.slice p9 r1.Ab.Aa.length k9,.slice p10 r1.Ab.Am.length k10,.slice p11 r1.Ab.Aj.length k11,.slice p12 r1.Ac.length k12,.string r2.Bb,.int .i64 r2.As,.int .i64 r2.Az,.int .i64 r2.Ar,.int .i64 r2.Ba,.slice p13 r3.length k13,.slice p14 r4.length k14]] h ⟨⟨_,_,_,rfl,rfl,h.box 5 rfl,rfl⟩,trivial⟩ (PV.done h (qX (qw7 (⟨r1,(⟨r2.Bb,r2.As,r2.Az,r2.Ar,r2.Ba⟩:qr),r3,r4⟩:qa0) h (qaz 3 h rfl) (qw (S:=fun _=>False) (qdl (⟨r2.Bb,r2.As,r2.Az,r2.Ar,r2.Ba⟩:qr))) (qaz 1 h rfl) (qaz 0 h rfl) (by rfl) (by rfl) (by rfl))))
def qlR (n:Nat) (a:qa0) (b:qa0):Option Bool :=
 (qjR n (⟨(⟨a.Af.Av.Aq⟩:qp),(⟨a.Af.Ab.Aa,a.Af.Ab.Am,a.Af.Ab.Aj⟩:qd),a.Af.Ac⟩:qf) (⟨(⟨b.Af.Av.Aq⟩:qp),(⟨b.Af.Ab.Aa,b.Af.Ab.Am,b.Af.Ab.Aj⟩:qd),b.Af.Ac⟩:qf)).bind fun r1 =>
 bif (!r1) then some false else
 (qiX n (⟨a.Ai.Bb,a.Ai.As,a.Ai.Az,a.Ai.Ar,a.Ai.Ba⟩:qr) (⟨b.Ai.Bb,b.Ai.As,b.Ai.Az,b.Ai.Ar,b.Ai.Ba⟩:qr)).bind fun r2 =>
 bif (!r2) then some false else
 (qbk n a.Bi b.Bi).bind fun r3 =>
 bif (!r3) then some false else
 (qhR n a.Ay b.Ay).bind fun r4 =>
 bif (!r4) then some false else
 some true
theorem qqO {a:qa0} {b:qa0} (ha1:GoT.R w (old w) a cs1) (ha2:GoT.R w (old w) b cs2) {r:Bool} (hF:qlR n a b=some r):RetV Tryz.prog 14 [GoT.v qa0 cs1,GoT.v qa0 cs2] w r:=by
 obtain ⟨p1,k1,p2,k2,p3,k3,p4,k4,p5,k5,p6,k6,p7,k7,rfl,s1,s2,s3,s4,s5,s6,s7⟩:=qc4 ha1
 obtain ⟨p8,k8,p9,k9,p10,k10,p11,k11,p12,k12,p13,k13,p14,k14,rfl,s8,s9,s10,s11,s12,s13,s14⟩:=qc4 ha2
 refine zV 29 Tryz.func14 rfl fun h=>zSR (qt h rfl rfl fun w1 bb1 h=>qt h rfl rfl fun w2 bb2 h=>X2 9 1 0 h rfl (zcB h hF (qpC (qfD _ (h.oldS s1) (h.oldS s2) (h.oldS s3) (h.oldS s4) (h.oldS s5)) (qfD _ (h.oldS s8) (h.oldS s9) (h.oldS s10) (h.oldS s11) (h.oldS s12))) rfl fun r1 w3 h hF=>X0 2 rfl (qh rfl hF ?_ ?_)))<;>intro hF
 ·exact X0 4 rfl (rb h hF rfl)
 refine X2 8 1 0 h rfl (zcB h hF (qoz (qdl _) (qdl _)) rfl fun r2 w4 h hF=>X0 2 rfl (qh rfl hF ?_ ?_))<;>intro hF
 ·exact X0 4 rfl (rb h hF rfl)
 refine X2 8 1 0 h rfl (zcB h hF (qbh ⟨_,_,rfl,(h.oldS s6)⟩ ⟨_,_,rfl,(h.oldS s13)⟩) rfl fun r3 w5 h hF=>X0 2 rfl (qh rfl hF ?_ ?_))<;>intro hF
 ·exact X0 4 rfl (rb h hF rfl)
 refine X2 8 1 0 h rfl (zcB h hF (qoo ⟨_,_,rfl,(h.oldS s7)⟩ ⟨_,_,rfl,(h.oldS s14)⟩) rfl fun r4 w6 h hF=>X0 2 rfl (qh rfl hF ?_ ?_))<;>intro hF
 ·exact X0 4 rfl (rb h hF rfl)
 exact X0 5 rfl (rb h hF rfl)
end Go.Fw


namespace Go.Fw
open Go
def ql4 (x:qr):Prop:=rngS x.Bb∧rngI x.As∧rngI x.Az∧rngI x.Ar∧rngI x.Ba
def qka (x:qr):Nat:=x.Bb.size
structure qrC (x:qr):Prop where
 Bb:okS x.Bb
 As:okI x.As
 Az:okI x.Az
 Ar:okI x.Ar
 Ba:okI x.Ba
theorem qtc {x:qr} (h:ql4 x) (w:qka x≤1048576):qrC x:=⟨(by unfold okS;simp only [qka] at w;omega),h.2.1,h.2.2.1,h.2.2.2.1,h.2.2.2.2⟩
theorem qu9 {a:qr} (_:qka a≤1048576):Ev (fun n=>qiX n a a) true:=by
 unfold qiX
 exact Ev.ff qhY (Ev.ff qaV (Ev.ff qaV (Ev.ff qaV (Ev.ff qaV (.done)))))
def qom (x:qe):Prop:=rngI x.Ap∧rngI x.Bd
structure qr5 (x:qe):Prop where
 Ap:okI x.Ap
 Bd:okI x.Bd
theorem qrB {x:qe} (h:qom x):qr5 x:=⟨h.1,h.2⟩
def qiF (x:qg):Prop:=rngI x.Bo∧qom x.Ah∧qom x.Bc
structure qo0 (x:qg):Prop where
 Bo:okI x.Bo
 Ah:qr5 x.Ah
 Bc:qr5 x.Bc
theorem qs4 {x:qg} (h:qiF x):qo0 x:=⟨h.1,qrB (h.2.1),qrB (h.2.2)⟩
def qhL (a:(List qg)):Nat:=a.length
theorem qr6 {a:(List qg)} (h:(rngL qiF) a) (w:qhL a≤1048576):(okL qo0) a :=
 ⟨by simp only [qhL] at w;omega,fun x hx=>qs4 (h.2 x hx)⟩
def qpT (x:qa0):Prop:=qnf x.Af∧ql4 x.Ai∧(rngL rngI) x.Bi∧(rngL qiF) x.Ay
def qmh (x:qa0):Nat:=qia x.Af+qka x.Ai+qcy x.Bi+qhL x.Ay
structure qlU (x:qa0):Prop where
 Af:qlB x.Af
 Ai:qrC x.Ai
 Bi:(okL okI) x.Bi
 Ay:(okL qo0) x.Ay
theorem qwR {x:qa0} (h:qpT x) (w:qmh x≤1048576):qlU x:=⟨qub (h.1) (by simp only [qmh] at w;omega),qtc (h.2.1) (by simp only [qmh] at w;omega),qde (h.2.2.1) (by simp only [qmh] at w;omega),qr6 (h.2.2.2) (by simp only [qmh] at w;omega)⟩
theorem qup {a:qe}:Ev (fun n=>qjn n a a) true:=by
 unfold qjn
 exact Ev.ff qaV (Ev.ff qaV (.done))
theorem quD {a:qg}:Ev (fun n=>qg8 n a a) true:=by
 unfold qg8
 exact Ev.ff qaV (Ev.bind (qup (a:=a.Ah)) (Ev.ff rfl (Ev.bind (qup (a:=a.Bc)) (Ev.ff rfl (.done)))))
theorem qt7 {a:(List qg)} (h:qhL a≤1048576):Ev (fun n=>qhR n a a) true:=by
 have hl:a.length≤1048576:=by simp only [qhL] at h;omega
 unfold qhR
 exact Ev.ff (by simp) (Ev.bind (b:=.nxt (a.length:Int)) (qiL (eqf:=qg8) (fun x hx=>quD)
  (fun n=>by simp only [qeF,qk (jb _),cond_false])
  (fun n j x hx=>by
   have hj:=(List.getElem?_eq_some_iff.1 hx).1
   simp only [qeF,qj hj,cond_true,qax hx,ja,wS j])) .done)
theorem qyo {a:qa0} (h:qmh a≤1048576):Ev (fun n=>qlR n a a) true:=by
 unfold qlR
 simp only [qmh] at h
 exact Ev.bind (qwC (a:=a.Af) (by omega)) (Ev.ff rfl (Ev.bind (qu9 (a:=a.Ai) (by omega)) (Ev.ff rfl (Ev.bind (qfg (a:=a.Bi) (by omega)) (Ev.ff rfl (Ev.bind (qt7 (a:=a.Ay) (by omega)) (Ev.ff rfl (.done))))))))
theorem qvk {a:qr} {left:Int} (h:ql4 a) (h0:0≤left) (h1:left≤1048576):Sz (fun n=>qiU n a left) (fun r=>r=left-(qka a:Int)):=by
 unfold qiU
 obtain ⟨h_0,h_1,h_2,h_3,h_4⟩:=h
 exact Sz.strStep h_0 (by omega) (by omega) fun p0 q0=>Sz.done p0 (by simp only [qka];omega)
theorem qtV {a:(List qg)} {left:Int} (h:(rngL qiF) a) (h0:0≤left) (h1:left≤1048576):Sz (fun n=>qki n a left) (fun r=>r=left-(qhL a:Int)) :=
 Sz.less h0 h1 (by omega) (by have:=h.1;omega) (fun _=>rfl)
theorem qyk {a:qa0} {left:Int} (h:qpT a) (h0:0≤left) (h1:left≤1048576):Sz (fun n=>ql1 n a left) (fun r=>r=left-(qmh a:Int)):=by
 unfold ql1
 obtain ⟨h_0,h_1,h_2,h_3⟩:=h
 exact Sz.step (qv4 (a:=a.Af) h_0 (by omega) (by omega)) fun r0 p0 q0=>Sz.step (qvk (a:=a.Ai) h_1 (by omega) (by omega)) fun r1 p1 q1=>Sz.step (qfX (a:=a.Bi) h_2 (by omega) (by omega)) fun r2 p2 q2=>Sz.step (qtV (a:=a.Ay) h_3 (by omega) (by omega)) fun r3 p3 q3=>Sz.done p3 (by simp only [qmh];omega)
theorem quC {a:qr} (_:qka a≤1048576):Ev (fun n=>qiI n a) a:=by
 unfold qiI
 exact .done
theorem quz {a:qe}:Ev (fun n=>qjl n a) a:=by
 unfold qjl
 exact .done
theorem qvi {a:qg}:Ev (fun n=>qhj n a) a:=by
 unfold qhj
 exact Ev.bind (quz (a:=a.Ah)) (Ev.bind (quz (a:=a.Bc)) (.done))
theorem qtQ {a:(List qg)} (h:qhL a≤1048576):Ev (fun n=>qib n a) a:=by
 have hl:a.length≤1048576:=by simp only [qhL] at h;omega
 unfold qib
 exact Ev.bindN (qhT (by omega)) (Ev.bind (b:=(a,(a.length:Int))) (qiS (cp:=qhj) (fun x hx=>qvi)
  (fun acc n=>by simp only [qeO,qk (jb _),cond_false])
  (fun acc n j x y hx hy=>by
   have hj:=(List.getElem?_eq_some_iff.1 hx).1
   simp only [qeO,qj hj,cond_true,qax hx,qax hy,ja,wS j])) .done)
theorem qtw {a:qa0} (h:qmh a≤1048576):Ev (fun n=>qiE n a) a:=by
 unfold qiE
 simp only [qmh] at h
 exact Ev.bind (qwi (a:=a.Af) (by omega)) (Ev.bind (quC (a:=a.Ai) (by omega)) (Ev.bind (qdZ (a:=a.Bi) (by omega)) (Ev.bind (qtQ (a:=a.Ay) (by omega)) (.done))))
end Go.Fw


namespace Go.Fw
open Go
set_option maxRecDepth 100000
abbrev lkB (b:qf):Nat:=(linksL b).length
abbrev ndB (b:qf):Nat:=2*(places b.Ab).length
abbrev lvJ (b:qf) (br:List Int):List Bool:=lvB br (lkB b)
def grB (b:qf) (br:List Int):Option Tgraph:=some ⟨some (viewV b),lvJ b br⟩
structure TgOk (b:qf) (c:qr) (br:List Int) (xs:List qg) (R:List Nat):Prop where
 bl:blockB b=true
 co:cornerB c=true
 br_:brB br (lkB b)=true
 sr:srcB xs (ndB b)=true
 or_:ordL (linksL b) (lvJ b br) (ndB b) (ndB b) []=some R
theorem TgOk.ord {b:qf} {c:qr} {br:List Int} {xs:List qg} {R:List Nat} (h:TgOk b c br xs R):OrdOk (lkB b) (frL (linksL b)) (toL (linksL b)) (lvL (lvJ b br)) (ndB b) R :=
 qxL (ndB b) [] R (fun l1 k l2 e=>by cases l1<;>cases e) h.or_
theorem TgOk.len {b:qf} {c:qr} {br:List Int} {xs:List qg} {R:List Nat} (h:TgOk b c br xs R):R.length=ndB b:=by
 have:=qvS (ndB b) [] R h.or_
 simpa using this
theorem qjN {x:Int} (h:x ≠ 0):(x != 0)=true:=by simpa using h
theorem qyF {b:qf} {c:qr} {br:List Int} {xs:List qg} (hb:qlB b) (hc:okS c.Bb) (hbl:br.length≤1048576) (hxl:xs.length≤1048576) :
  (∃ code:Int,code ≠ 0∧Ev (fun n=>qii n b c br xs) ([],code)∧Ev (fun n=>qfe n b c br xs none) (none,[],code)) ∨
  ∃ R,TgOk b c br xs R∧Ev (fun n=>qii n b c br xs) (ints R,0)∧Ev (fun n=>qfe n b c br xs none) (grB b br,ints R,0):=by
 have s1:=qpd hb
 have i1:=qtE hb
 have s2:=qr3 (c:=c) hc
 have i2:=qsU (c:=c) hc
 unfold qii qfe
 cases h1:blockB b
 ·rw [h1] at s1 i1
  exact .inl ⟨1,by omega,Ev.bind (b:=true) (Ev.bind s1 (Ev.tt rfl .done)) (Ev.tt rfl .done),Ev.bind (b:=true) (Ev.bind i1 (Ev.tt rfl .done)) (Ev.tt rfl .done)⟩
 cases h2:cornerB c
 ·rw [h1] at s1 i1
  rw [h2] at s2 i2
  exact .inl ⟨1,by omega,Ev.bind (b:=true) (Ev.bind s1 (Ev.ff rfl (Ev.bind s2 .done))) (Ev.tt rfl .done),Ev.bind (b:=true) (Ev.bind i1 (Ev.ff rfl (Ev.bind i2 .done))) (Ev.tt rfl .done)⟩
 have hpl:=qa1 (qW (qar h1))
 have hll:=qgr h1
 have hk:=qlk h1
 have s3:=qt6 (br:=br) hb h1 hbl
 have i3:=qs5 (v:=viewV b) (br:=br) hbl hll
 have s4:=qq5 (xs:=xs) h1 hxl
 have i4:=qq6 (v:=viewV b) (xs:=xs) hpl hxl
 have ev:(viewV b).links=linksL b:=rfl
 have ep:(viewV b).places=places b.Ab:=rfl
 rw [ev] at i3
 rw [ep] at i4
 rw [h1] at s1 i1
 rw [h2] at s2 i2
 have sA:Ev (fun n=>(qgK n b).bind fun r6=>bif (!r6) then some true else (qhf n c).bind fun r7=>some (!r7)) false:=Ev.bind s1 (Ev.ff rfl (Ev.bind s2 .done))
 have iA:Ev (fun n=>(qhQ n b).bind fun r6=>bif (!r6) then some true else (qhe n c).bind fun r7=>some (!r7)) false:=Ev.bind i1 (Ev.ff rfl (Ev.bind i2 .done))
 have nv:=qtX h1
 cases h3:brB br (lkB b)
 ·rw [h3] at s3 i3
  exact .inl ⟨2,by omega,Ev.bind sA (Ev.ff rfl (Ev.bind (b:=true) (Ev.bind s3 (Ev.tt rfl .done)) (Ev.tt rfl .done))),
   Ev.bind iA (Ev.ff rfl (Ev.bind nv (Ev.bind (b:=false) (Ev.ff rfl .done) (Ev.ff rfl (Ev.bind (b:=true) (Ev.bind i3 (Ev.tt rfl .done)) (Ev.tt rfl .done))))))⟩
 cases h4:srcB xs (ndB b)
 ·rw [h3] at s3 i3
  rw [h4] at s4 i4
  exact .inl ⟨2,by omega,Ev.bind sA (Ev.ff rfl (Ev.bind (b:=true) (Ev.bind s3 (Ev.ff rfl (Ev.bind s4 .done))) (Ev.tt rfl .done))),
   Ev.bind iA (Ev.ff rfl (Ev.bind nv (Ev.bind (b:=false) (Ev.ff rfl .done) (Ev.ff rfl (Ev.bind (b:=true) (Ev.bind i3 (Ev.ff rfl (Ev.bind i4 .done))) (Ev.tt rfl .done))))))⟩
 have i5:=quh (v:=viewV b) (br:=br) hll h3
 rw [ev] at i5
 have s5:=ql5 (ls:=linksL b) (br:=br) hll hbl
 have hlv:(lvJ b br).length=lkB b:=qnU
 have s6:=qvt (lv:=lvJ b br) hk hlv
 have i6:=quH (b:=b) (ps:=places b.Ab) (lo:=pre (load0 b) b.Ac.length) (de:=pre (exactL b) b.Ac.length) (ex:=[]) (lv:=lvJ b br) hk hlv rfl
 rw [h3] at s3 i3
 rw [h4] at s4 i4
 have sB:Ev (fun n=>(qgF n b br).bind fun r4=>bif (r4 != 0) then some true else (qfS n b xs).bind fun r5=>some (!r5)) false:=Ev.bind s3 (Ev.ff rfl (Ev.bind s4 .done))
 have iB:Ev (fun n=>(qef n (some (viewV b)) br).bind fun r6=>bif (!r6) then some true else (qdd n (some (viewV b)) xs).bind fun r7=>some (!r7)) false:=Ev.bind i3 (Ev.ff rfl (Ev.bind i4 .done))
 have sT:∀ r:List Int × Int,Ev (fun n=>(qg9 n (ndB b:Int) (linksL b) (lvJ b br)).bind fun o=>match o with|(r6,r7)=>bif (!r7) then some (([]:List Int),(7:Int)) else some (r6,0)) r→Ev (fun n=>qem n b br) r:=fun r hr=>by
  unfold qem
  exact Ev.bind s3 (Ev.ff rfl (Ev.bind (qhH h1) (Ev.bind (qmz h1) (Ev.bind s5 hr))))
 cases ho:ordL (linksL b) (lvJ b br) (ndB b) (ndB b) [] with
 | none =>
  have e:ordR (linksL b) (lvJ b br) (ndB b)=([],false):=by unfold ordR;rw [ho]
  rw [e] at s6 i6
  exact .inl ⟨7,by omega,Ev.bind sA (Ev.ff rfl (Ev.bind sB (Ev.ff rfl (Ev.bind (sT ([],7) (Ev.bind s6 (Ev.tt rfl .done))) .done)))),
   Ev.bind iA (Ev.ff rfl (Ev.bind nv (Ev.bind (b:=false) (Ev.ff rfl .done) (Ev.ff rfl (Ev.bind iB (Ev.ff rfl (Ev.bind i5 (Ev.bind i6 (Ev.tt rfl .done)))))))))⟩
 | some R =>
  have e:ordR (linksL b) (lvJ b br) (ndB b)=(ints R,true):=by unfold ordR;rw [ho]
  rw [e] at s6 i6
  exact .inr ⟨R,⟨h1,h2,h3,h4,ho⟩,Ev.bind sA (Ev.ff rfl (Ev.bind sB (Ev.ff rfl (Ev.bind (sT (ints R,0) (Ev.bind s6 (Ev.ff rfl .done))) .done)))),
   Ev.bind iA (Ev.ff rfl (Ev.bind nv (Ev.bind (b:=false) (Ev.ff rfl .done) (Ev.ff rfl (Ev.bind iB (Ev.ff rfl (Ev.bind i5 (Ev.bind i6 (Ev.ff rfl .done)))))))))⟩
structure WkOk (j:qa0) (t:qx) (R:List Nat):Prop where
 tg:TgOk j.Af j.Ai j.Bi j.Ay R
 tm:TmOk t (ndB j.Af)
def wkV (j:qa0) (t:qx) (R:List Nat):Option Twork:=some ⟨grB j.Af j.Bi,j,t,ints R⟩
theorem quq {j:qa0} (h:qlU j) :
  (∃ code:Int,code ≠ 0∧Ev (fun n=>qdk n j.Af j.Ai j.Bi j.Ay) (zT,code)∧Ev (fun n=>qjk n j) (none,code)) ∨
  ∃ t R,WkOk j t R∧Ev (fun n=>qdk n j.Af j.Ai j.Bi j.Ay) (t,0)∧Ev (fun n=>qjk n j) (wkV j t R,0):=by
 have hbl:=h.Bi.len
 have hxl:=h.Ay.len
 unfold qdk qjk
 rcases qyF h.Af h.Ai.Bb hbl hxl with ⟨code,hne,hs,hi⟩|⟨R,hg,hs,hi⟩
 ·exact .inl ⟨code,hne,Ev.bind hs (Ev.tt (qjN hne) .done),Ev.bind hi (Ev.tt (qjN hne) .done)⟩
 ·have h1:=hg.bl
  have hll:=qgr h1
  have s5:=ql5 (ls:=linksL j.Af) (br:=j.Bi) hll hbl
  obtain ⟨f,hf,hfi⟩:=qwb h1 hg.co
  have hi0:=hfi [] (.inl rfl)
  rw [qu1] at hi0
  have hpl:=qa1 (qW (qar h1))
  have hRl:=hg.len
  have hR1:R.length≤1000:=by rw [hRl];show 2*(places j.Af.Ab).length≤1000;omega
  have hRb:∀ k,k ∈ R→k<2*(places j.Af.Ab).length:=fun k hk=>by
   obtain ⟨i,hi,rfl⟩:=List.mem_iff_getElem.1 hk
   exact (hg.ord.at hi).1
  have o2:=qw0 (lv:=lvJ j.Af j.Bi) (R:=R) h1 hf qnU (qoi hxl hg.sr) hRb hR1
  have o3:=qxG (lv:=lvJ j.Af j.Bi) (R:=R) h1 hf (fun _ _=>rfl) hi0 qnU (qoi hxl hg.sr) (fun i hi=>⟨(hg.ord.at hi).1,(hg.ord.at hi).2.1⟩) hR1
  have o1:=qx8 (lv:=lvJ j.Af j.Bi) h1 hf (qoi hxl hg.sr) R (zTm (2*(places j.Af.Ab).length))
  generalize rnO f (linksL j.Af) (lvJ j.Af j.Bi) j.Ay R (zTm (2*(places j.Af.Ab).length))=o at o1 o2 o3
  cases o with
  | none=>exact .inl ⟨3,by omega,Ev.bind hs (Ev.ff rfl (Ev.bind (qhH h1) (Ev.bind s5 (Ev.bind o2 (Ev.tt rfl .done))))),Ev.bind hi (Ev.ff rfl (Ev.bind o3 (Ev.tt rfl .done)))⟩
  | some t=>exact .inr ⟨t,R,⟨hg,o1 t hRb qt2 rfl⟩,Ev.bind hs (Ev.ff rfl (Ev.bind (qhH h1) (Ev.bind s5 (Ev.bind o2 (Ev.ff rfl .done))))),Ev.bind hi (Ev.ff rfl (Ev.bind o3 (Ev.ff rfl .done)))⟩
end Go.Fw


namespace Go.Fw
open Go
set_option maxRecDepth 100000
def swV (j:qa0) (t:qx):Option Tl20Work:=some ⟨j,linksL j.Af,lvJ j.Af j.Bi,t⟩
theorem qxy {j:qa0} (h:qlU j) :
  (∃ code:Int,code ≠ 0∧Ev (fun n=>qdc n j) (none,code)∧∀ mode nodes,Ev (fun n=>qgD n j mode nodes) (none,code)) ∨
  ∃ t R,WkOk j t R∧Ev (fun n=>qdc n j) (swV j t,0)∧∀ mode nodes,nodes.length≤1048576→(mode=0∨mode=1) →
   Ev (fun n=>qgD n j mode nodes) (bif nodes.all (fun x=>inI x 0 ((ndB j.Af:Int)-1)) then (wkV j t R,0) else (none,4)):=by
 have hbl:=h.Bi.len
 unfold qdc qgD
 rcases quq h with ⟨code,hne,hs,hi⟩|⟨t,R,hw,hs,hi⟩
 ·exact .inl ⟨code,hne,Ev.bind hs (Ev.tt (qjN hne) .done),fun mode nodes=>Ev.bind hi (Ev.tt (qjN hne) .done)⟩
 ·have h1:=hw.tg.bl
  have hll:=qgr h1
  have hpl:=qa1 (qW (qar h1))
  have s5:=ql5 (ls:=linksL j.Af) (br:=j.Bi) hll hbl
  refine .inr ⟨t,R,hw,Ev.bind hs (Ev.ff rfl (Ev.bind (qhH h1) (Ev.bind s5 .done))),fun mode nodes hn hm=>Ev.bind hi (Ev.ff rfl ?_)⟩
  have hnd:=qok (v:=viewV j.Af) hpl
  have e1:W64 (((2*(viewV j.Af).places.length:Nat):Int)-1)=(ndB j.Af:Int)-1:=by
   show W64 (((2*(places j.Af.Ab).length:Nat):Int)-1)=_
   rw [qaw (by omega) (by omega)]
  unfold wkV grB
  simp only [ja,hnd,e1]
  refine Ev.bind (qdM hn) ?_
  cases nodes.all fun x=>inI x 0 ((ndB j.Af:Int)-1)
  ·exact Ev.tt rfl .done
  ·refine Ev.ff rfl ?_
   rcases hm with rfl|rfl<;>exact Ev.bind (b:=true) (Ev.now rfl) (Ev.ff rfl .done)
theorem qnY {j:qa0} {t:qx} {node:Int} (hl:j.Ay.length≤1048576):Ev (fun n=>qgt n (swV j t) node) ((srcV (srcO j.Ay node)).2,(srcV (srcO j.Ay node)).1):=by
 have h1:Ev (fun n=>qcA (swV j t) node n 0) (match srcO j.Ay node with|some y=>.ret (y,true)|none=>.nxt (j.Ay.length:Int)):=by
  have main:∀ d i,i+d=j.Ay.length→(j.Ay.take i).find? (fun s=>s.Bo==node)=none→Ev (fun n=>qcA (swV j t) node n (i:Int)) (match srcO j.Ay node with|some y=>.ret (y,true)|none=>.nxt (j.Ay.length:Int)):=by
   intro d
   induction d with
   | zero =>
    intro i hi hn
    obtain rfl:i=j.Ay.length:=by omega
    rw [jB] at hn
    unfold srcO
    rw [hn]
    refine Ev.succ ?_
    simp only [qcA,swV,ja,qk (jb _),cond_false]
    exact .done
   | succ d ih =>
    intro i hi hn
    have hil:i<j.Ay.length:=by omega
    refine Ev.succ ?_
    simp only [qcA,swV,ja,qj hil,cond_true,qA hil,wS i]
    cases hq:(gt j.Ay i).Bo==node
    ·refine ih (i+1) (by omega) ?_
     rw [ju hil,List.find?_append,hn,←qeZ hil,List.find?_cons_of_neg (by simp [hq])]
     rfl
    ·have hd:j.Ay.drop i=gt j.Ay i::j.Ay.drop (i+1):=by rw [qeZ hil];exact jD hil
     have:srcO j.Ay node=some (gt j.Ay i):=by
      generalize gt j.Ay i=y at hq hd
      unfold srcO
      rw [←List.take_append_drop i j.Ay,List.find?_append,hn,hd,List.find?_cons_of_pos (by simpa using hq)]
      rfl
     rw [this]
     exact .done
  exact main j.Ay.length 0 (by omega) rfl
 unfold qgt
 refine Ev.bind h1 ?_
 cases srcO j.Ay node<;>exact .done
def atP (ls:List qq) (start:Int) (path:List Int):Nat→Int
 | 0=>start
 | j+1=>(gt ls (at0 path j).toNat).To
def okP (ls:List qq) (lv:List Bool) (start:Int) (path:List Int) (j:Nat):Bool :=
 inI (at0 path j) 0 ((ls.length:Int)-1)&&(gt lv (at0 path j).toNat&&((gt ls (at0 path j).toNat).Bk==atP ls start path j))
def pathB (j:qa0) (start:Int) (path:List Int):Bool:=(srcV (srcO j.Ay start)).1&&allN (okP (linksL j.Af) (lvJ j.Af j.Bi) start path) path.length
def endB (j:qa0) (start:Int) (path:List Int):Int:=atP (linksL j.Af) start path path.length
theorem inRange {x:Int} {m:Nat} (h:inI x 0 ((m:Int)-1)=true):0≤x∧x<(m:Int)∧x.toNat<m:=by rw [qa7] at h;omega
theorem qvb {j:qa0} {t:qx} {start:Int} {path:List Int} (h1:blockB j.Af=true) (hl:j.Ay.length≤1048576) (hp:path.length≤1048576):∃ e:Int,Ev (fun n=>qkM n (swV j t) start path) (e,pathB j start path)∧(pathB j start path=true→e=endB j start path):=by
 have hll:=qgr h1
 have hlv:(lvJ j.Af j.Bi).length=lkB j.Af:=qnU
 have hS:=qnY (j:=j) (t:=t) (node:=start) hl
 unfold qkM pathB
 cases hs:(srcV (srcO j.Ay start)).1
 ·rw [hs] at hS
  refine ⟨start,Ev.bind hS (Ev.bind (b:=.nxt (start,0)) (Ev.succ ?_) .done),fun e=>by cases e⟩
  unfold qej
  cases decide ((0:Int)<(path.length:Int))<;>exact .done
 ·rw [hs] at hS
  have hL:=loopN (Lf:=fun n i x=>qej (swV j t) path true n i x) (S:=atP (linksL j.Af) start path) (p:=okP (linksL j.Af) (lvJ j.Af j.Bi) start path) (len:=path.length) (bad:=((0:Int),false)) (fin:=(endB j start path,(path.length:Int)))
   (fun n=>by simp only [qej,qk (jb _),cond_false,ja];rfl)
   (fun i hi _ X hX=>by
    have eW:W64 (((linksL j.Af).length:Int)-1)=((linksL j.Af).length:Int)-1:=qaw (by omega) (by omega)
    simp only [qej,qj hi,cond_true,ja,qaf hi,swV,qcF,eW,wS i]
    unfold okP at hX ⊢
    cases hr:inI (at0 path i) 0 (((linksL j.Af).length:Int)-1)
    ·exact Ev.bind (b:=true) (Ev.tt rfl .done) (Ev.tt rfl .done)
    ·obtain ⟨r0,r1,r2⟩:=inRange hr
     rw [hr] at hX
     simp only [qdy r0 r1,qdy r0 (show at0 path i<((lvJ j.Af j.Bi).length:Int) by rw [hlv];exact r1),ja]
     cases hv:gt (lvJ j.Af j.Bi) (at0 path i).toNat
     ·exact Ev.bind (b:=true) (Ev.ff rfl (Ev.tt rfl .done)) (Ev.tt rfl .done)
     ·rw [hv] at hX
      cases hf:(gt (linksL j.Af) (at0 path i).toNat).Bk==atP (linksL j.Af) start path i
      ·exact Ev.bind (b:=true) (Ev.ff rfl (Ev.ff rfl (Ev.now (by simp only [bne,hf];rfl)))) (Ev.tt rfl .done)
      ·rw [hf] at hX
       exact Ev.bind (b:=false) (Ev.ff rfl (Ev.ff rfl (Ev.now (by simp only [bne,hf];rfl)))) (Ev.ff rfl (hX rfl)))
  cases hb:allN (okP (linksL j.Af) (lvJ j.Af j.Bi) start path) path.length
  ·rw [hb] at hL
   exact ⟨0,Ev.bind hS (Ev.bind hL .done),fun e=>by cases e⟩
  ·rw [hb] at hL
   exact ⟨endB j start path,Ev.bind hS (Ev.bind hL .done),fun _=>rfl⟩
def linkB (ls:List qq) (path:List Int) (j:Nat):Bool:=inI (at0 path j) 0 ((ls.length:Int)-1)&&(decide (j=0) || (gt ls (at0 path (j-1)).toNat).To==(gt ls (at0 path j).toNat).Bk)
theorem qvj {v:Tview} {path:List Int} (hll:v.links.length≤10000) (hp:path.length≤1048576):Ev (fun n=>qgM n (some v) path) (allN (linkB v.links path) path.length):=by
 have hL:=loopN (τ:=Unit) (Lf:=fun n _ x=>qb0 (some v) path n x) (S:=fun _=>()) (p:=linkB v.links path) (len:=path.length) (bad:=false) (fin:=(path.length:Int))
  (fun n=>by simp only [qb0,qk (jb _),cond_false])
  (fun i hi hpr X hX=>by
   have eW:W64 ((v.links.length:Int)-1)=(v.links.length:Int)-1:=qaw (by omega) (by omega)
   simp only [qb0,qj hi,cond_true,ja,qaf hi,qiy,qcW,qcY,eW,wS i]
   unfold linkB at hX ⊢
   cases hr:inI (at0 path i) 0 ((v.links.length:Int)-1)
   ·exact .done
   ·obtain ⟨r0,r1,r2⟩:=inRange hr
    rw [hr] at hX
    refine Ev.ff rfl ?_
    by_cases h0:i=0
    ·subst h0
     exact Ev.ff rfl (hX rfl)
    ·refine Ev.tt (decide_eq_true (by omega)) ?_
     have hq:=hpr (i-1) (by omega)
     unfold linkB at hq
     rw [jc] at hq
     obtain ⟨q0,q1,_⟩:=inRange hq.1
     rw [show (i:Int)-1=((i-1:Nat):Int) by omega,qaw (by omega) (by omega)]
     simp only [qaf (show i-1<path.length by omega),ja,qdy q0 q1,qdy r0 r1,bne]
     rw [decide_eq_false h0] at hX ⊢
     cases he:(gt v.links (at0 path (i-1)).toNat).To==(gt v.links (at0 path i).toNat).Bk
     ·exact .done
     ·rw [he] at hX
      exact hX rfl)
 unfold qgM
 refine Ev.bind hL ?_
 cases allN (linkB v.links path) path.length<;>exact .done
theorem qtv {j:qa0} {t:qx} {R:List Nat} {path:List Int} (hp:path.length≤1048576) (hr:∀ x,x ∈ path→0≤x∧x<(lkB j.Af:Int)):Ev (fun n=>qT n path (wkV j t R)) (!path.all fun x=>gt (lvJ j.Af j.Bi) x.toNat):=by
 have hlv:(lvJ j.Af j.Bi).length=lkB j.Af:=qnU
 have h1:Ev (fun n=>qaE n path (wkV j t R)) (ixL (fun x=>!gt (lvJ j.Af j.Bi) x.toNat) path) :=
  qfh (fin:=(path.length:Int)) (Lf:=qS path (wkV j t R)) (xs:=path) (pf:=fun n x=>qeI n x (wkV j t R)) (fun x hx=>by
    obtain ⟨x0,x1⟩:=hr x hx
    unfold qeI wkV grB
    simp only [ja,qdy x0 (show x<((lvJ j.Af j.Bi).length:Int) by rw [hlv];exact x1)]
    exact .done)
   (fun n=>by simp only [qS,qk (jb _),cond_false])
   (fun n i x hx=>by
    have hi:=(List.getElem?_eq_some_iff.1 hx).1
    simp only [qS,qj hi,cond_true,qax hx,ja,wS i])
   (fun n=>by unfold qaE;congr 1;funext o;cases o<;>rfl)
 unfold qT
 refine Ev.bind h1 (Ev.now ?_)
 rw [qmZ,←qoc,Bool.not_not]
theorem qtb {j:qa0} {t:qx} {R:List Nat} {start:Int} {path:List Int} (h1:blockB j.Af=true) (hl:j.Ay.length≤1048576) (hp:path.length≤1048576):Ev (fun n=>qfB n (wkV j t R) start path) (pathB j start path):=by
 have hll:=qgr h1
 have hS:=qqf (xs:=j.Ay) (node:=start) hl
 have hP:=qvj (v:=viewV j.Af) (path:=path) hll hp
 have ev:(viewV j.Af).links=linksL j.Af:=rfl
 rw [ev] at hP
 have fr:path.length ≠ 0→allN (linkB (linksL j.Af) path) path.length=true→∃ k:Nat,k<lkB j.Af∧at0 path 0=(k:Int):=fun h0 hb=>by
  rw [qah] at hb
  have:=hb 0 (by omega)
  unfold linkB at this
  rw [jc] at this
  obtain ⟨q0,q1,q2⟩:=inRange this.1
  exact ⟨(at0 path 0).toNat,q2,qea q0⟩
 have hrg:allN (linkB (linksL j.Af) path) path.length=true→∀ x,x ∈ path→0≤x∧x<(lkB j.Af:Int):=fun hb x hx=>by
  obtain ⟨i,hi,rfl⟩:=List.mem_iff_getElem.1 hx
  rw [qah] at hb
  have:=hb i hi
  unfold linkB at this
  rw [jc] at this
  obtain ⟨q0,q1,_⟩:=inRange this.1
  rw [qkc hi] at q0 q1
  exact ⟨q0,q1⟩
 have key:allN (okP (linksL j.Af) (lvJ j.Af j.Bi) start path) path.length=(allN (linkB (linksL j.Af) path) path.length&&(bif decide (path.length=0) then true else ((gt (linksL j.Af) (at0 path 0).toNat).Bk==start)&&path.all fun x=>gt (lvJ j.Af j.Bi) x.toNat)):=by
  rw [jh,jc,qah,qah]
  unfold okP linkB
  simp only [jc,Bool.or_eq_true,decide_eq_true_eq,beq_iff_eq]
  constructor
  ·intro hh
   refine ⟨fun i hi=>⟨(hh i hi).1,?_⟩,?_⟩
   ·cases i with
    | zero=>exact .inl rfl
    | succ i=>exact .inr (hh (i+1) hi).2.2.symm
   ·by_cases h0:path.length=0
    ·rw [decide_eq_true h0];rfl
    ·rw [decide_eq_false h0]
     simp only [cond_false,jc,beq_iff_eq,jM]
     refine ⟨(hh 0 (by omega)).2.2,fun x hx=>?_⟩
     obtain ⟨i,hi,rfl⟩:=List.mem_iff_getElem.1 hx
     rw [←qkc hi]
     exact (hh i hi).2.1
  ·rintro ⟨ha,hb⟩ i hi
   rw [decide_eq_false (by omega)] at hb
   simp only [cond_false,jc,beq_iff_eq,jM] at hb
   refine ⟨(ha i hi).1,by rw [qkc hi];exact hb.2 _ (jo hi),?_⟩
   cases i with
   | zero=>exact hb.1
   | succ i =>
    rcases (ha (i+1) hi).2 with e|e
    ·omega
    ·exact e.symm
 unfold qfB pathB
 rw [key]
 show Ev (fun n=>(qdS n j.Ay start).bind _) _
 refine Ev.bind hS ?_
 cases hs:(srcV (srcO j.Ay start)).1
 ·exact Ev.bind (b:=true) (Ev.tt rfl .done) (Ev.tt rfl .done)
 ·cases hb:allN (linkB (linksL j.Af) path) path.length
  ·rw [hb] at hP
   exact Ev.bind (b:=true) (Ev.ff rfl (Ev.bindN rfl (Ev.bind hP .done))) (Ev.tt rfl .done)
  ·have hA:=qtv (j:=j) (t:=t) (R:=R) hp (hrg hb)
   have hfr:=fr
   rw [hb] at hP
   refine Ev.bind (b:=false) (Ev.ff rfl (Ev.bindN rfl (Ev.bind hP .done))) (Ev.ff rfl ?_)
   by_cases h0:path.length=0
   ·rw [decide_eq_true h0]
    refine Ev.ff (decide_eq_false (by omega)) (Ev.bind hA (Ev.now ?_))
    rw [List.length_eq_zero_iff.1 h0]
    rfl
   ·rw [decide_eq_false h0]
    obtain ⟨k,hk,ek⟩:=hfr h0 hb
    refine Ev.tt (decide_eq_true (by omega)) ?_
    show Ev (fun n=>(idx path 0).bind fun y4=>(idx (linksL j.Af) y4).bind fun y5=>bif (y5.Bk != start) then some false else (qT n path (wkV j t R)).bind fun r4=>some (!r4)) _
    rw [show idx path (0:Int)=some (k:Int) by rw [show (0:Int)=((0:Nat):Int) from rfl,qaf (by omega),ek]]
    simp only [ja,qA hk,bne]
    rw [ek,jj]
    cases (gt (linksL j.Af) k).Bk==start
    ·exact .done
    ·refine Ev.ff rfl (Ev.bind hA (Ev.now ?_))
     rw [Bool.not_not]
     rfl
theorem qsz {j:qa0} {start:Int} {path:List Int} (h:qlU j) (hp:path.length≤1048576) {mode:Int} (hm:mode=0∨mode=1) :
  (∃ code:Int,code ≠ 0∧Ev (fun n=>qdc n j) (none,code)∧Ev (fun n=>qcr n j mode start path) (none,code)) ∨
  ∃ t R,WkOk j t R∧Ev (fun n=>qdc n j) (swV j t,0)∧Ev (fun n=>qcr n j mode start path) (bif pathB j start path then (wkV j t R,0) else (none,5)):=by
 unfold qcr
 rcases qxy h with ⟨code,hne,hs,hi⟩|⟨t,R,hw,hs,hi⟩
 ·exact .inl ⟨code,hne,hs,Ev.bind (hi mode []) (Ev.ff (by simpa using hne) .done)⟩
 ·have hP:=qtb (t:=t) (R:=R) (start:=start) hw.tg.bl h.Ay.len hp
  refine .inr ⟨t,R,hw,hs,Ev.bind (hi mode [] (Nat.zero_le _) hm) (Ev.tt rfl (Ev.bind hP ?_))⟩
  cases pathB j start path<;>exact .done
end Go.Fw


namespace Go.Fw
open Go
set_option maxRecDepth 100000
section
variable {L:Nat} {fr to:Nat→Int} {lv:Nat→Bool} {n:Nat} {R:List Nat}
theorem OrdOk.ne (h:OrdOk L fr to lv n R) {i j:Nat} (hij:i<j) (hj:j<R.length):R[i]'(by omega) ≠ R[j]:=fun e =>
 (h.at hj).2.1 (by rw [←e,List.mem_iff_getElem];exact ⟨i,by rw [jN];omega,by rw [List.getElem_take]⟩)
theorem OrdOk.nodup (h:OrdOk L fr to lv n R):R.Nodup:=by
 unfold List.Nodup
 rw [List.pairwise_iff_getElem]
 exact fun i j _ hj hij=>h.ne hij hj
theorem OrdOk.full (h:OrdOk L fr to lv n R) (hl:R.length=n) {k:Nat} (hk:k<n):∃ i,∃ hi:i<R.length,R[i]=k:=by
 refine Classical.byContradiction fun hc=>?_
 have hn:k ∉ R:=fun hm=>hc (List.mem_iff_getElem.1 hm)
 have:=qqK (l:=k::R) (l':=List.range n) (List.nodup_cons.2 ⟨hn,h.nodup⟩) (fun x hx=>by
  rw [List.mem_range]
  rcases List.mem_cons.1 hx with rfl|hx
  ·exact hk
  ·obtain ⟨i,hi,rfl⟩:=List.mem_iff_getElem.1 hx
   exact (h.at hi).1)
 rw [List.length_cons,List.length_range] at this
 omega
theorem OrdOk.later (h:OrdOk L fr to lv n R) (hl:R.length=n) {x a c:Nat} (hx:x<L) (hv:lv x=true) (ha:fr x=(a:Int)) (hc:to x=(c:Int)) (hcn:c<n) {i:Nat} (hi:i<R.length) (hia:R[i]=a):∃ j,∃ hj:j<R.length,i<j∧R[j]=c:=by
 obtain ⟨j,hj,e⟩:=h.full hl hcn
 have h0:=(h.at hj).2.2
 rw [e] at h0
 have:=qqa.1 h0 x hx hv hc
 rw [ha,qlb,List.mem_iff_getElem] at this
 obtain ⟨i',hi',e'⟩:=this
 rw [jN] at hi'
 rw [List.getElem_take] at e'
 refine ⟨j,hj,?_,e⟩
 rcases Nat.lt_trichotomy i i' with hh|hh|hh
 ·exact absurd (hia.trans e'.symm) (h.ne hh (by omega))
 ·omega
 ·exact absurd (e'.trans hia.symm) (h.ne hh hi)
end
theorem qwy {j:qa0} {t:qx} {R:List Nat} {start:Int} {path:List Int} (hw:WkOk j t R) (hb:pathB j start path=true):path.length≤156:=by
 have h1:=hw.tg.bl
 have hk:=qlk h1
 have ho:=hw.tg.ord
 have hl:=hw.tg.len
 have hpl:=qa1 (qW (qar h1))
 have hM:ndB j.Af≤156:=by show 2*(places j.Af.Ab).length≤156;omega
 by_cases h0:path.length=0
 ·omega
 unfold pathB at hb
 rw [jc,qah] at hb
 have step:∀ i,i<path.length→∃ x a c:Nat,x<lkB j.Af∧lvL (lvJ j.Af j.Bi) x=true∧frL (linksL j.Af) x=(a:Int)∧toL (linksL j.Af) x=(c:Int)∧a<ndB j.Af∧c<ndB j.Af∧atP (linksL j.Af) start path i=(a:Int)∧atP (linksL j.Af) start path (i+1)=(c:Int):=by
  intro i hi
  have:=hb.2 i hi
  unfold okP at this
  simp only [jc,beq_iff_eq] at this
  obtain ⟨hr,hv,hf⟩:=this
  obtain ⟨r0,r1,r2⟩:=inRange hr
  have f0:=hk.fr0 _ r2
  have f1:=hk.fr1 _ r2
  have t0:=hk.to0 _ r2
  have t1:=hk.to1 _ r2
  refine ⟨(at0 path i).toNat,(gt (linksL j.Af) (at0 path i).toNat).Bk.toNat,(gt (linksL j.Af) (at0 path i).toNat).To.toNat,r2,hv,qea f0,qea t0,?_,?_,?_,qea t0⟩
  ·show _<2*(places j.Af.Ab).length;omega
  ·show _<2*(places j.Af.Ab).length;omega
  ·rw [←hf];exact qea f0
 have main:∀ i,i≤path.length→∃ p,∃ hp:p<R.length,i≤p∧(R[p]:Int)=atP (linksL j.Af) start path i:=by
  intro i
  induction i with
  | zero =>
   intro _
   obtain ⟨x,a,c,_,_,_,_,ha,_,e,_⟩:=step 0 (by omega)
   obtain ⟨p,hp,ep⟩:=ho.full hl ha
   exact ⟨p,hp,Nat.zero_le _,by rw [ep,e]⟩
  | succ i ih =>
   intro hi
   obtain ⟨p,hp,hle,ep⟩:=ih (by omega)
   obtain ⟨x,a,c,hx,hv,hf,ht,ha,hc,e1,e2⟩:=step i (by omega)
   obtain ⟨q,hq,hlt,eq⟩:=ho.later hl hx hv hf ht hc hp (by rw [e1] at ep;omega)
   exact ⟨q,hq,by omega,by rw [eq,e2]⟩
 obtain ⟨p,hp,hle,_⟩:=main path.length (jb _)
 omega
end Go.Fw


namespace Go.Fw
open Go
set_option maxRecDepth 100000
def modeB (m:Int):Bool:=(m==0) || (m==1)
theorem qp0 {m:Int} (h:modeB m=true):m=0∨m=1:=by unfold modeB at h;simpa using h
theorem qvU {m:Int} (h:modeB m=false):(m==0)=false∧(m==1)=false:=by unfold modeB at h;simpa using h
theorem qvl {n:Nat} {m:Int}:qkT n m=some (modeB m):=by
 unfold qkT modeB
 cases m==0<;>rfl
theorem qnH {n:Nat} {m:Int}:qjG n m=some (modeB m):=by
 unfold qjG modeB
 cases m==0<;>rfl
theorem qsJ {j:qa0} {start:Int} {path:List Int} (h:qlU j) (hp:path.length≤1048576) (mode:Int) :
  (∃ code:Int,code ≠ 0∧Ev (fun n=>qdc n j) (none,code)∧Ev (fun n=>qcr n j mode start path) (none,code)) ∨
  ∃ t R,WkOk j t R∧Ev (fun n=>qdc n j) (swV j t,0)∧Ev (fun n=>qcr n j mode start path) (bif modeB mode then bif pathB j start path then (wkV j t R,0) else (none,5) else (none,2)):=by
 cases hm:modeB mode
 ·obtain ⟨m0,m1⟩:=qvU hm
  have hbl:=h.Bi.len
  unfold qdc qcr qgD
  rcases quq h with ⟨code,hne,hs,hi⟩|⟨t,R,hw,hs,hi⟩
  ·exact .inl ⟨code,hne,Ev.bind hs (Ev.tt (qjN hne) .done),Ev.bind (b:=(none,code)) (Ev.bind hi (Ev.tt (qjN hne) .done)) (Ev.ff (by simpa using hne) .done)⟩
  ·have h1:=hw.tg.bl
   have hll:=qgr h1
   have hpl:=qa1 (qW (qar h1))
   have s5:=ql5 (ls:=linksL j.Af) (br:=j.Bi) hll hbl
   refine .inr ⟨t,R,hw,Ev.bind hs (Ev.ff rfl (Ev.bind (qhH h1) (Ev.bind s5 .done))),Ev.bind (b:=(none,2)) (Ev.bind hi (Ev.ff rfl ?_)) .done⟩
   have hnd:=qok (v:=viewV j.Af) hpl
   unfold wkV grB
   simp only [ja,hnd]
   refine Ev.bind (qdM (Nat.zero_le _)) (Ev.ff rfl ?_)
   simp only [qvl,hm]
   exact .done
 ·exact qsz h hp (qp0 hm)
theorem qv7 {j:qa0} {start:Int} {path:List Int} (hb:pathB j start path=true) {i:Nat} (hi:i<path.length):∃ k:Nat,k<lkB j.Af∧at0 path i=(k:Int):=by
 unfold pathB at hb
 rw [jc,qah] at hb
 have:=hb.2 i hi
 unfold okP at this
 rw [jc] at this
 obtain ⟨r0,_,r2⟩:=inRange this.1
 exact ⟨(at0 path i).toNat,r2,qea r0⟩
def ofS (m:Int) (s:qe):Int:=bif m==1 then s.Bd else s.Ap
theorem qtT {n:Nat} {m:Int} {s:qe}:qh7 n s m=some (ofS m s):=by
 unfold qh7 ofS
 cases m==1<;>rfl
theorem qyE {n:Nat} {m:Int} {s:qe} (h:modeB m=true):qjL n s m=some (ofS m s):=by
 rcases qp0 h with rfl|rfl<;>rfl
section
variable {j:qa0} {t:qx} {R:List Nat} {start:Int} {path:List Int} {f:Nat→qe→qe × qe}
end
def OwnOk (b:qf) (c:qr) (mode:Int) (d:Nat→Int→Int × Int):Prop:=∀ k sl,k<(linksL b).length→0≤sl→sl≤1000000 →
 (0≤(d k sl).2∧(d k sl).2≤1000000)∧Ev (fun n=>qbN n b c (gt (linksL b) k) sl mode) (d k sl).1∧Ev (fun n=>qa8 n (some (viewV b)) c (k:Int) sl mode) (d k sl).1 ∧
 Ev (fun n=>qcb n b (gt (linksL b) k) sl mode) (d k sl).2∧Ev (fun n=>qaF n (some (viewV b)) (k:Int) sl mode) (d k sl).2
theorem qye {b:qf} {c:qr} (h:blockB b=true) (hc:cornerB c=true) {mode:Int} (hm:modeB mode=true):∃ d,OwnOk b c mode d:=by
 have main:∀ x:Nat × Int,∃ r:Int × Int,x.1<(linksL b).length→0≤x.2→x.2≤1000000 →
   (0≤r.2∧r.2≤1000000)∧Ev (fun n=>qbN n b c (gt (linksL b) x.1) x.2 mode) r.1∧Ev (fun n=>qa8 n (some (viewV b)) c (x.1:Int) x.2 mode) r.1 ∧
   Ev (fun n=>qcb n b (gt (linksL b) x.1) x.2 mode) r.2∧Ev (fun n=>qaF n (some (viewV b)) (x.1:Int) x.2 mode) r.2:=by
  rintro ⟨k,s⟩
  by_cases hk:k<(linksL b).length∧0≤s∧s≤1000000
  ·obtain ⟨hk,h0,h1⟩:=hk
   obtain ⟨⟨d,p1,p2⟩,⟨u,u0,u1,v1,v2⟩⟩:=qpS (c:=c) [] h hc hk h0 h1 (qp0 hm)
   exact ⟨(d,u),fun _ _ _=>⟨⟨u0,u1⟩,p1,p2,v1,v2⟩⟩
  ·exact ⟨(0,0),fun h1 h2 h3=>absurd ⟨h1,h2,h3⟩ hk⟩
 obtain ⟨d,hd⟩:=Classical.axiomOfChoice main
 exact ⟨fun k s=>d (k,s),fun k s h1 h2 h3=>hd (k,s) h1 h2 h3⟩
def prS (d:Nat→Int→Int × Int) (s0:Int × Int) (path:List Int):Nat→Int × Int
 | 0=>s0
 | i+1=>(W64 ((prS d s0 path i).1+(d (at0 path i).toNat (prS d s0 path i).2).1),(d (at0 path i).toNat (prS d s0 path i).2).2)
section
variable {j:qa0} {t:qx} {R:List Nat} {start mode:Int} {path:List Int} {d:Nat→Int→Int × Int}
theorem qsx {xs:List qg} (hx:SrcOk xs) (hm:modeB mode=true):0≤ofS mode (srcV (srcO xs start)).2.Bc∧ofS mode (srcV (srcO xs start)).2.Bc≤1000000:=by
 cases hs:srcO xs start with
 | none=>unfold ofS srcV zSrc zSp;cases mode==1<;>(simp only [cond_true,cond_false];omega)
 | some y =>
  obtain ⟨⟨a,b⟩,⟨c,e⟩⟩:=hx.sl y (qlg hs).2
  unfold ofS srcV
  cases mode==1<;>(simp only [cond_true,cond_false];omega)
theorem qss (hd:OwnOk j.Af j.Ai mode d) {s0:Int × Int} (h0:0≤s0.2∧s0.2≤1000000) (hr:∀ i,i<path.length→∃ k:Nat,k<lkB j.Af∧at0 path i=(k:Int)):∀ i,i≤path.length→0≤(prS d s0 path i).2∧(prS d s0 path i).2≤1000000:=by
 intro i
 induction i with
 | zero=>exact fun _=>h0
 | succ i ih =>
  intro hi
  obtain ⟨k,hk,ek⟩:=hr i (by omega)
  obtain ⟨a,b⟩:=ih (by omega)
  have:=(hd k _ hk a b).1
  show 0≤(d (at0 path i).toNat (prS d s0 path i).2).2∧(d (at0 path i).toNat (prS d s0 path i).2).2≤1000000
  rw [ek,jj]
  exact this
def own0 (j:qa0) (start mode:Int):Int × Int:=(ofS mode (srcV (srcO j.Ay start)).2.Ah,ofS mode (srcV (srcO j.Ay start)).2.Bc)
theorem qxK (h:qlU j) (hw:WkOk j t R) (hm:modeB mode=true) (hd:OwnOk j.Af j.Ai mode d) (hp:path.length≤1048576) (hr:∀ i,i<path.length→∃ k:Nat,k<lkB j.Af∧at0 path i=(k:Int)) :
  Ev (fun n=>qkN n (swV j t) start path mode) (prS d (own0 j start mode) path path.length):=by
 have h0:=qsx (start:=start) (qoi h.Ay.len hw.tg.sr) hm
 have hsl:=qss (s0:=own0 j start mode) hd h0 hr
 have hL:=loopF (Lf:=fun n (s:Int × Int) i=>qe6 (swV j t) path mode n s.1 s.2 i) (S:=fun i=>prS d (own0 j start mode) path i) (len:=path.length) (fin:=((prS d (own0 j start mode) path path.length).1,(prS d (own0 j start mode) path path.length).2,(path.length:Int)))
  (fun n=>by simp only [qe6,qk (jb _),cond_false])
  (fun i hi X hX=>by
   obtain ⟨k,hk,ek⟩:=hr i hi
   obtain ⟨s0,s1⟩:=hsl i (by omega)
   obtain ⟨_,q1,_,q2,_⟩:=hd k _ hk s0 s1
   have e3:prS d (own0 j start mode) path (i+1)=(W64 ((prS d (own0 j start mode) path i).1+(d k (prS d (own0 j start mode) path i).2).1),(d k (prS d (own0 j start mode) path i).2).2):=by
    show (W64 _,_)=_
    rw [ek,jj]
   rw [e3] at hX
   simp only [qe6,qj hi,cond_true,qaf hi,ja,ek,swV,qA hk,wS i]
   exact Ev.bind q1 (Ev.bind q2 hX))
 unfold qkN
 refine Ev.bind (qnY h.Ay.len) ?_
 simp only [qtT,ja]
 exact Ev.bind hL .done
theorem qt8 (h:qlU j) (hw:WkOk j t R) (hm:modeB mode=true) (hd:OwnOk j.Af j.Ai mode d) (hp:path.length≤1048575) (hr:∀ i,i<path.length→∃ k:Nat,k<lkB j.Af∧at0 path i=(k:Int)) :
  Ev (fun n=>qf6 n (wkV j t R) start path mode) (pre (fun i=>(prS d (own0 j start mode) path i).1) (path.length+1),(prS d (own0 j start mode) path path.length).2):=by
 have h0:=qsx (start:=start) (qoi h.Ay.len hw.tg.sr) hm
 have hsl:=qss (s0:=own0 j start mode) hd h0 hr
 have hL:=loopF (Lf:=fun n (s:List Int × Int × Int) i=>qcf path mode ⟨grB j.Af j.Bi,j,t,ints R⟩ n s.1 s.2.1 s.2.2 i) (S:=fun i=>(pre (fun i=>(prS d (own0 j start mode) path i).1) (i+1),prS d (own0 j start mode) path i)) (len:=path.length) (fin:=(pre (fun i=>(prS d (own0 j start mode) path i).1) (path.length+1),(prS d (own0 j start mode) path path.length).1,(prS d (own0 j start mode) path path.length).2,(path.length:Int)))
  (fun n=>by simp only [qcf,qk (jb _),cond_false])
  (fun i hi X hX=>by
   obtain ⟨k,hk,ek⟩:=hr i hi
   obtain ⟨s0,s1⟩:=hsl i (by omega)
   obtain ⟨_,_,q1,_,q2⟩:=hd k _ hk s0 s1
   have e3:prS d (own0 j start mode) path (i+1)=(W64 ((prS d (own0 j start mode) path i).1+(d k (prS d (own0 j start mode) path i).2).1),(d k (prS d (own0 j start mode) path i).2).2):=by
    show (W64 _,_)=_
    rw [ek,jj]
   have ea:appS (pre (fun i=>(prS d (own0 j start mode) path i).1) (i+1)) [(prS d (own0 j start mode) path (i+1)).1]=some (pre (fun i=>(prS d (own0 j start mode) path i).1) (i+1+1)):=qpO (f:=fun i=>(prS d (own0 j start mode) path i).1) (by omega)
   rw [e3] at hX ea
   simp only [qcf,qj hi,cond_true,qaf hi,ja,ek,wkV,grB,wS i]
   refine Ev.bind q1 (Ev.bind q2 ?_)
   rw [ea]
   exact hX)
 unfold qf6
 show Ev (fun n=>(qdS n j.Ay start).bind _) _
 refine Ev.bind (qqf h.Ay.len) ?_
 simp only [qyE hm,ja]
 exact Ev.bind hL .done
end
theorem qtR {j:qa0} {start mode:Int} {path:List Int} (h:qlU j) (hp:path.length≤1048576) :
  (∃ code:Int,code ≠ 0∧Ev (fun n=>qij n j start path mode) (none,code)∧Ev (fun n=>qcr n j mode start path) (none,code)) ∨
  ∃ t R,WkOk j t R∧modeB mode=true∧pathB j start path=true∧Ev (fun n=>qij n j start path mode) (swV j t,0)∧Ev (fun n=>qcr n j mode start path) (wkV j t R,0):=by
 unfold qij
 rcases qsJ (start:=start) h hp mode with ⟨code,hne,hs,hi⟩|⟨t,R,hw,hs,hi⟩
 ·exact .inl ⟨code,hne,Ev.bind hs (Ev.tt (qjN hne) .done),hi⟩
 ·cases hm:modeB mode
  ·rw [hm] at hi
   refine .inl ⟨2,by omega,Ev.bind hs (Ev.ff rfl ?_),hi⟩
   simp only [qnH,hm]
   exact .done
  ·rw [hm] at hi
   obtain ⟨e,he,_⟩:=qvb (j:=j) (t:=t) (start:=start) hw.tg.bl h.Ay.len hp
   cases hb:pathB j start path
   ·rw [hb] at hi he
    refine .inl ⟨5,by omega,Ev.bind hs (Ev.ff rfl ?_),hi⟩
    simp only [qnH,hm,ja]
    exact Ev.ff rfl (Ev.bind he .done)
   ·rw [hb] at hi he
    refine .inr ⟨t,R,hw,rfl,rfl,Ev.bind hs (Ev.ff rfl ?_),hi⟩
    simp only [qnH,hm,ja]
    exact Ev.ff rfl (Ev.bind he .done)
theorem qqP {j:qa0} {start mode:Int} {path:List Int} (h:qlU j) (hl:okL okI path):∃ R:Int × Int × Int,Ev (fun n=>qhq n j start path mode) R∧Ev (fun n=>qho n j start path mode) R:=by
 have hp:=hl.len
 unfold qhq qho
 rcases qtR (start:=start) (mode:=mode) h hp with ⟨code,hne,hs,hi⟩|⟨t,R,hw,hm,hb,hs,hi⟩
 ·exact ⟨(0,0,code),Ev.bind hs (Ev.tt (qjN hne) .done),Ev.bind hi (Ev.tt (qjN hne) .done)⟩
 ·have hpl:=qwy hw hb
  obtain ⟨d,hd⟩:=qye hw.tg.bl hw.tg.co hm
  have hr:=fun i hi=>qv7 (i:=i) hb hi
  refine ⟨((prS d (own0 j start mode) path path.length).1,(prS d (own0 j start mode) path path.length).2,0),Ev.bind hs (Ev.ff rfl (Ev.bind (qxK h hw hm hd hp hr) .done)),Ev.bind hi (Ev.ff rfl (Ev.bind (qt8 h hw hm hd (by omega) hr) ?_))⟩
  simp only [qhu (f:=fun i=>(prS d (own0 j start mode) path i).1) (show path.length<path.length+1 by omega)]
  exact .done
end Go.Fw


namespace Go.Fw
open Go
set_option maxRecDepth 100000
end Go.Fw


namespace Go.Fw
open Go Go.Proofs
open Go.RowKit (Below)
set_option maxRecDepth 100000
set_option maxHeartbeats 1600000
variable {n:Nat} {w:World} {cs1 cs2 cs3 cs4 cs5 cs6 cs7 cs8 cs9:List Value}
def qfx (n:Nat) (a_0:qa0) (a_1:Int) (a_2:(List Int)) (a_3:Int):Option Bool :=
 bif decide ((a_2.length:Int) > 1048576) then some true else
 (ql1 n a_0 1048576).bind fun r1 =>
 bif decide (r1<0) then some true else
 (qiE n a_0).bind fun r2 =>
 (qaP n a_2).bind fun r3 =>
 (qhq n r2 a_1 r3 a_3).bind fun o=>match o with
  | (r5,r6,r7) =>
   (qiE n a_0).bind fun r8 =>
   (qaP n a_2).bind fun r9 =>
   (qho n r8 a_1 r9 a_3).bind fun o=>match o with
    | (r11,r12,r13) =>
     (
      bif (r11 != r5) then some true else
      bif (r12 != r6) then some true else
      some (r13 != r7)).bind fun b1 =>
     bif b1 then some false else
     (qiE n a_0).bind fun r14 =>
     (qlR n r8 r14).bind fun r15 =>
     bif (!r15) then some false else
     (qaP n a_2).bind fun r16 =>
     (qbk n r9 r16).bind fun r17 =>
     bif (!r17) then some false else
     some true
theorem qkB {a_0:qa0} {a_1:Int} {a_2:(List Int)} {a_3:Int} (ha1:GoT.R w (old w) a_0 cs1) (ha2:GoT.R w (old w) a_2 cs2) {r:Bool} (hF:qfx n a_0 a_1 a_2 a_3=some r):RetV Tryz.prog 4 [GoT.v qa0 cs1,.int .i64 a_1,GoT.v (List Int) cs2,.int .i64 a_3] w r:=by
 obtain ⟨p1,k1,p2,k2,p3,k3,p4,k4,p5,k5,p6,k6,p7,k7,rfl,s1,s2,s3,s4,s5,s6,s7⟩:=qc4 ha1
 obtain ⟨p8,k8,rfl,s8⟩:=ha2
 refine zV 73 Tryz.func4 rfl fun h=>zSR (qt h rfl rfl fun w1 bb1 h=>X0 9 rfl (qh rfl hF ?_ ?_))<;>intro hF
 ·exact X0 4 rfl (rb h hF rfl)
 refine X1 9 0 h rfl (zcI h hF (qqW (h.old ha1)) rfl fun r1 w2 h hF=>X0 8 rfl (qh rfl hF ?_ ?_))<;>intro hF
 ·exact X0 4 rfl (rb h hF rfl)
 refine X1 4 0 h rfl (zcO h hF (qk8 (h.old ha1)) rfl fun r2 w3 S1 cs3 h hF=>?_)
 obtain ⟨p9,k9,p10,k10,p11,k11,p12,k12,p13,k13,p14,k14,p15,k15,rfl,-,-,-,-,-,-,-⟩:=qc4 (h.own 0 rfl)
 refine zp2 rfl (zcL h hF (qaI ⟨_,_,rfl,(h.oldS s8)⟩) rfl fun r3 w4 S2 p16 k16 h hF=>zp1 rfl ?_)
 obtain ⟨r4,hr4,hF⟩:=qc hF
 obtain ⟨r5,r6,r7⟩:=r4
 refine qa2 (r5,r6,r7) h (cB 16 rfl) (qnK (h.own 1 rfl) (h.own 0 rfl) hr4) rfl rfl rfl rfl fun w5 S3 us1 hv1 hr5=>?_
 obtain ⟨S4,us2,rfl,hv2,hr6⟩:=hv1.consI hr5
 obtain ⟨S5,us3,rfl,hv3,hr7⟩:=hv2.consI hr6
 obtain ⟨rfl,h⟩:=hv3.lastI hr7
 refine X1 11 2 h rfl (zcO h hF (qk8 (h.old ha1)) rfl fun r8 w6 S7 cs4 h hF=>?_)
 obtain ⟨p17,k17,p18,k18,p19,k19,p20,k20,p21,k21,p22,k22,p23,k23,rfl,-,-,-,-,-,-,-⟩:=qc4 (h.own 0 rfl)
 refine qm qa h rfl rfl rfl fun w7 bb2 h=>zs 0 h rfl fun w8 h=>X0 4 rfl (zcL h hF (qaI ⟨_,_,rfl,(h.oldS s8)⟩) rfl fun r9 w9 S8 p24 k24 h hF=>X1 8 1 h rfl ?_)
 obtain ⟨r10,hr11,hF⟩:=qc hF
 obtain ⟨r11,r12,r13⟩:=r10
 refine qa2 (r11,r12,r13) h (cB 17 rfl) (qnA (h.own 2 rfl) (h.own 0 rfl) hr11) rfl rfl rfl rfl fun w10 S9 us4 hv5 hr12=>?_
 obtain ⟨S10,us5,rfl,hv6,hr13⟩:=hv5.consI hr12
 obtain ⟨S11,us6,rfl,hv7,hr14⟩:=hv6.consI hr13
 obtain ⟨rfl,h⟩:=hv7.lastI hr14
 refine X0 10 rfl ?_
 obtain ⟨KF1,hKF1,o1,hF,hK1⟩:=bindE hF
 refine qbm (fun e w'=>∃ (b1:Bool),KF1 b1=some r∧e=[(2,.slice p8 a_2.length k8),(4,.pointer (some ⟨bb1,0,none⟩)),(13,.pointer (some ⟨bb2,0,none⟩)),(14,.slice p24 r9.length k24),(62,.bool b1)]∧SH w w' [Ch.own S8 (r9:List Int) [.slice p24 r9.length k24],Ch.box bb2 (qsr r8 p17 p18 p19 p20 p21 p22 p23 k17 k18 k19 k20 k21 k22 k23) 55,Ch.own S7 (r8:qa0) (qsr r8 p17 p18 p19 p20 p21 p22 p23 k17 k18 k19 k20 k21 k22 k23),Ch.box bb1 (qsr a_0 p1 p2 p3 p4 p5 p6 p7 k1 k2 k3 k4 k5 k6 k7) 38]) ?_ ?_
 ·refine X0 5 rfl (qi (t:=53) hF rfl ?_ ?_)<;>intro hF
  ·refine X0 10 rfl ?_
   replace h:=h.pick [0,1,2,5] rfl
   obtain rfl:=qb hF
   exact rG ⟨_,hK1,rfl,h⟩ rfl
  refine X0 8 rfl (qi (t:=58) hF rfl ?_ ?_)<;>intro hF
  ·refine X0 5 rfl ?_
   replace h:=h.pick [0,1,2,5] rfl
   obtain rfl:=qb hF
   exact rG ⟨_,hK1,rfl,h⟩ rfl
  refine X0 8 rfl ?_
  replace h:=h.pick [0,1,2,5] rfl
  obtain rfl:=qb hF
  exact rG ⟨_,hK1,rfl,h⟩ rfl
 rintro e1 w16 ⟨b1,hF,rfl,h⟩
 subst hKF1
 refine qh rfl hF ?_ ?_<;>intro hF
 ·exact X0 4 rfl (rb h hF rfl)
 refine zKSS (rA [] [1,3] h rfl fun w11 h=>M2 3 [0,1] 0 1 (h.pick [1,3] rfl) rfl (Ao 2 7 rfl (zcO h hF (qk8 (h.old ha1)) rfl fun r14 w12 S13 cs5 h hF=>?_)))
 obtain ⟨p25,k25,p26,k26,p27,k27,p28,k28,p29,k29,p30,k30,p31,k31,rfl,-,-,-,-,-,-,-⟩:=qc4 (h.own 0 rfl)
 refine Ag (h.pick [2,4] rfl) (Ao 3 15 rfl (zcB h hF (qqO (h.own 3 rfl) (h.own 0 rfl)) rfl fun r15 w13 h hF=>G0 31 [4] (h.pick [2,4] rfl) rfl (Ad (qh rfl hF ?_ ?_))))<;>intro hF
 ·exact X0 4 rfl (rb h hF rfl)
 refine X0 6 rfl (zcL h hF (qaI ⟨_,_,rfl,(h.oldS s8)⟩) rfl fun r16 w14 S14 p32 k32 h hF=>zcB h hF (qbh (h.own 2 rfl) (h.own 0 rfl)) rfl fun r17 w15 h hF=>X0 2 rfl (qh rfl hF ?_ ?_))<;>intro hF
 ·exact X0 4 rfl (rb h hF rfl)
 exact X0 5 rfl (rb h hF rfl)
end Go.Fw


namespace Go.Fw
open Go
end Go.Fw


namespace Go.Fw
open Go
set_option maxRecDepth 100000
theorem qmj {j:qa0} {start:Int} {path:(List Int)} {mode:Int} (h0:qpT j) (_h1:rngI start) (h2:(rngL rngI) path) (_h3:rngI mode):Ev (fun n=>qfx n j start path mode) true:=by
 unfold qfx
 refine Ev.bif (fun _=>.done) (fun hl=>?_)
 have hl2:path.length≤1048576:=by have:=of_decide_eq_false hl;omega
 obtain ⟨r1,e1,q1⟩:=qyk (a:=j) (left:=1048576) h0 (by omega) (by omega)
 refine Ev.bind e1 ?_
 rcases q1 with q1|⟨p1,q1⟩
 ·exact Ev.tt (by simpa using q1) .done
 refine Ev.ff (by simp;omega) ?_
 have w0:qmh j≤1048576:=by omega
 have k0:=qwR h0 w0
 have w2:qcy path≤1048576:=by unfold qcy;omega
 have k2:=qde h2 w2
 obtain ⟨⟨R0,R1,R2⟩,hs,hi⟩:=qqP (j:=j) (start:=start) (path:=path) (mode:=mode) k0 k2
 refine Ev.bind (qtw w0) ?_
 refine Ev.bind (qdZ w2) ?_
 refine Ev.bind hs ?_
 refine Ev.bind (qtw w0) ?_
 refine Ev.bind (qdZ w2) ?_
 refine Ev.bind hi ?_
 refine Ev.bind (b:=false) (Ev.ff (by simp) (Ev.ff (by simp) (Ev.now (by simp)))) (Ev.ff rfl ?_)
 refine Ev.bind (qtw w0) ?_
 refine Ev.bind (qyo w0) (Ev.ff rfl ?_)
 refine Ev.bind (qdZ w2) ?_
 refine Ev.bind (qfg w2) (Ev.ff rfl ?_)
 exact .done
end Go.Fw
