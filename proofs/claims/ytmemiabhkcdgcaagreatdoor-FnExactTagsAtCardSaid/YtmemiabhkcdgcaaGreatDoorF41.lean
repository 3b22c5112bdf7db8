/- Plain laws: the places of a design, one by one. -/
import Derived.Test.YtmemiabhkcdgcaaGreatDoorB7
import Derived.Test.YtmemiabhkcdgcaaGreatDoorFw38
import Derived.Test.YtmemiabhkcdgcaaGreatDoorD1
open Option renaming bind_some → je, map_some → jT
open Nat renaming le_refl → jf, le_of_ble_eq_true → js, mul_le_mul_right → jt, lt_of_lt_of_le → jy, zero_le → jE, succ_mul → jM, le_trans → jS, add_zero → jX, zero_add → Jf
open List renaming getElem?_eq_getElem → jg, mem_cons_self → jm, mem_cons_of_mem → jn, length_append → jo, getElem?_append_left → jp, getElem_mem → jq, take_succ_eq_append_getElem → jr, getElem?_take → ju, length_singleton → jv, getElem?_append_right → jx, mem_of_getElem? → jz, getElem?_drop → jA, take_length → jB, drop_eq_getElem_cons → jC, getElem?_toArray → jD, getElem_of_mem → jF, eq_nil_of_length_eq_zero → jG, getD_eq_getElem?_getD → jH, map_append → jJ, getElem?_cons_succ → jK, size_toArray → jN, mem_append_left → jO, append_nil → jP, length_map → jQ, range_succ → jR, all_eq_true → jU, map_cons → jV, length_cons → jY, drop_eq_nil_of_le → jZ, ext_getElem → Ja, append_assoc → Jb, length_take → Jc, not_mem_nil → Jd, mem_cons → Je
open Go.Result renaming andThen_ok → jh
open Bool renaming and_eq_true → ji, eq_iff_iff → jj, true_and → jI, not_eq_true' → jL, not_true → Jg
open Go.Sem renaming run_bind → jk, run_pure → jl
open Int renaming toNat_natCast → jw
open Array renaming getElem?_append_left → jW

namespace Go.Fw
open Go
set_option maxRecDepth 100000
def off (d:qe) (i:Nat):Nat:=(plI d i).length
def place1 (d:qe) (i k:Nat):Tplace:=⟨(i:Int),(k:Int),at0 (gt d.Aa i).Af k,decide (k+1=(gt d.Aa i).Af.length)⟩
def place2 (d:qe) (i:Nat):Tplace:=⟨-1,(i:Int),(gt d.Ac i).Bo,(gt d.Ac i).Bl==1⟩
theorem qmV {d:qe} {i:Nat}:off d (i+1)=off d i+(gt d.Aa i).Af.length:=by
 unfold off;rw [qlp,jo,qoc]
theorem qjO {d:qe}:(places d).length=off d d.Aa.length+d.Ac.length:=by
 unfold places off;rw [jo,qn9]
theorem qv9 {d:qe} {n i k:Nat} (hi:i<n) (hk:k<(gt d.Aa i).Af.length):off d i+k<off d n∧gt (plI d n) (off d i+k)=place1 d i k:=by
 induction n with
 | zero=>omega
 | succ n ih =>
  rw [qlp,qns]
  rcases Nat.lt_succ_iff_lt_or_eq.1 hi with h|rfl
  ·obtain ⟨h1,h2⟩:=ih h
   refine ⟨by rw [qmV];omega,?_⟩
   rw [if_pos (show off d i+k<(plI d n).length from h1),h2]
  ·refine ⟨by rw [qmV];omega,?_⟩
   rw [if_neg (by unfold off;omega),show off d i+k-(plI d i).length=k by unfold off;omega]
   exact qqG hk
theorem qke {d:qe} {i k:Nat} (hi:i<d.Aa.length) (hk:k<(gt d.Aa i).Af.length):off d i+k<(places d).length∧gt (places d) (off d i+k)=place1 d i k:=by
 obtain ⟨h1,h2⟩:=qv9 hi hk
 refine ⟨by rw [qjO];omega,?_⟩
 unfold places
 rw [qns,if_pos (show off d i+k<(plI d d.Aa.length).length from h1),h2]
theorem qpu {d:qe} {i:Nat} (hi:i<d.Ac.length):off d d.Aa.length+i<(places d).length∧gt (places d) (off d d.Aa.length+i)=place2 d i:=by
 refine ⟨by rw [qjO];omega,?_⟩
 unfold places
 rw [qns,if_neg (by unfold off;omega),show off d d.Aa.length+i-(plI d d.Aa.length).length=i by unfold off;omega]
 exact qqG hi
theorem qta {d:qe} {n j:Nat} (hj:j<off d n):∃ i k,i<n∧k<(gt d.Aa i).Af.length∧j=off d i+k:=by
 induction n with
 | zero=>exact absurd hj (Nat.not_lt_zero _)
 | succ n ih =>
  by_cases h:j<off d n
  ·obtain ⟨i,k,h1,h2,h3⟩:=ih h
   exact ⟨i,k,by omega,h2,h3⟩
  ·rw [qmV] at hj
   exact ⟨n,j-off d n,by omega,by omega,by omega⟩
theorem qfq {d:qe} {j:Nat} (hj:j<(places d).length) :
  (∃ i k,i<d.Aa.length∧k<(gt d.Aa i).Af.length∧j=off d i+k∧gt (places d) j=place1 d i k) ∨
  (∃ i,i<d.Ac.length∧j=off d d.Aa.length+i∧gt (places d) j=place2 d i):=by
 rw [qjO] at hj
 by_cases h:j<off d d.Aa.length
 ·obtain ⟨i,k,h1,h2,rfl⟩:=qta h
  exact .inl ⟨i,k,h1,h2,rfl,(qke h1 h2).2⟩
 ·refine .inr ⟨j-off d d.Aa.length,by omega,by omega,?_⟩
  have:=(qpu (d:=d) (i:=j-off d d.Aa.length) (by omega)).2
  rwa [show off d d.Aa.length+(j-off d d.Aa.length)=j by omega] at this
def drvQ (d:qe) (k:Int) (j:Nat):Bool:=((gt (places d) j).net==k)&&(gt (places d) j).drives
theorem qqZ {q:Nat→Bool} {m n:Nat}:cntP q (m+n)=cntP q m+cntP (fun j=>q (m+j)) n:=by
 induction n with
 | zero=>rfl
 | succ n ih =>
  show cntP q (m+n)+(bif q (m+n) then 1 else 0)=cntP q m+(cntP (fun j=>q (m+j)) n+(bif q (m+n) then 1 else 0))
  rw [ih];omega
theorem qtP {q:Nat→Bool} {n:Nat} {b:Bool} (h:1≤n) (h1:∀ j,j+1<n→q j=false) (h2:q (n-1)=b):cntP q n=bif b then 1 else 0:=by
 obtain ⟨m,rfl⟩:∃ m,n=m+1:=⟨n-1,by omega⟩
 show cntP q m+(bif q m then 1 else 0)=_
 rw [qlI.2 (fun j hj=>h1 j (by omega)),show m=m+1-1 by omega,h2,Jf]
theorem qsu {d:qe} {k:Nat} (hs:smallD d):cntP (drvQ d (k:Int)) (places d).length=drvI d k d.Aa.length+drvP d k d.Ac.length:=by
 rw [qjO,qqZ]
 congr 1
 ·have:∀ n,n≤d.Aa.length→cntP (drvQ d (k:Int)) (off d n)=drvI d k n:=by
   intro n
   induction n with
   | zero=>intro _;rfl
   | succ n ih =>
    intro hn
    rw [qmV,qqZ,ih (by omega),qnr]
    congr 1
    have h2:=(hs.nx n (by omega)).1
    refine qtP (by omega) (fun j hj=>?_) ?_
    ·show drvQ d _ (off d n+j)=false
     unfold drvQ
     rw [(qke (by omega) (by omega)).2]
     unfold place1
     simp;omega
    ·show drvQ d _ (off d n+_)=_
     unfold drvQ
     rw [(qke (by omega) (by omega)).2]
     unfold place1 lastN
     simp;omega
  exact this _ (jf _)
 ·refine qsp (fun j hj=>?_)
  show drvQ d _ (off d _+j)=_
  unfold drvQ
  rw [(qpu hj).2]
  unfold place2
  exact Bool.and_comm _ _
theorem qsY {l:qm} {d:qe} (h:designB l d=true) {k:Nat} (hk:k<d.Af.length):cntP (drvQ d (k:Int)) (places d).length=1:=by
 rw [qsu (qu h)]
 unfold designB drvB at h
 simp only [ji] at h
 have:=qaF.1 h.2.2.2 k hk
 rw [beq_iff_eq] at this
 omega
theorem qru {l:qm} {d:qe} (h:designB l d=true) {i j:Nat} (hi:i<(places d).length) (hj:j<(places d).length) (he:(gt (places d) i).net=(gt (places d) j).net) (h1:(gt (places d) i).drives=true) (h2:(gt (places d) j).drives=true):i=j:=by
 obtain ⟨n0,n1⟩:=qkt h hi
 have e:=qoy n0
 have:=qsY h (k:=(gt (places d) i).net.toNat) (by omega)
 refine qqM (Nat.le_of_eq this) hi hj ?_ ?_
 ·unfold drvQ;rw [←e,h1];simp
 ·unfold drvQ;rw [←e,h2,he];simp
theorem qwc {l:qm} {d:qe} (h:designB l d=true) {k:Int} (h0:0≤k) (h1:k<d.Af.length):∃ j,j<(places d).length∧(gt (places d) j).net=k∧(gt (places d) j).drives=true:=by
 have e:=qoy h0
 have:=qsY h (k:=k.toNat) (by omega)
 have hp:decide (0<cntP (drvQ d ((k.toNat:Nat):Int)) (places d).length)=true:=by rw [this];rfl
 rw [qq7,jL,qkD] at hp
 obtain ⟨j,hj,hq⟩:=hp
 rw [Bool.not_eq_false',←e] at hq
 unfold drvQ at hq
 simp only [ji,beq_iff_eq] at hq
 exact ⟨j,hj,hq.1,hq.2⟩
def cellAt (b:qi) (i:Int):qp:=gt b.Ai.Ah (gt b.Ab.Aa i.toNat).Ba.toNat
theorem qhX {l:qm} {d:qe} (h:designB l d=true) {i:Nat} (hi:i<d.Aa.length) :
  (0≤(gt d.Aa i).Ba∧(gt d.Aa i).Ba<l.Ah.length)∧(gt d.Aa i).Af.length=(gt l.Ah (gt d.Aa i).Ba.toNat).Am.length∧cellB (gt l.Ah (gt d.Aa i).Ba.toNat)=true:=by
 unfold designB libB at h
 simp only [ji] at h
 obtain ⟨⟨⟨hc,_⟩,_⟩,hI,_⟩:=h
 rw [qhN,qaF] at hI hc
 have:=hI i hi
 unfold instB at this
 simp only [ji,qcK,beq_iff_eq] at this
 exact ⟨⟨this.1.1,by omega⟩,by omega,hc _ (by omega)⟩
theorem qrG {c:qp} (h:cellB c=true) {j:Nat} (hj:j<c.Ap.length):(1≤(gt c.Ap j).Aq∧(gt c.Ap j).Aq≤5)∧(0≤(gt c.Ap j).Av∧(gt c.Ap j).Av<(c.Am.length:Int)-1)∧(0≤(gt c.Ap j).To∧(gt c.Ap j).To≤(c.Am.length:Int)-1)∧arcS c.Am (gt c.Ap j)=true:=by
 unfold cellB at h
 simp only [ji] at h
 obtain ⟨_,hp,⟨ha,_⟩,_,_,hk⟩:=h
 have:=qaF.1 ha j hj
 rw [ji,qua hp (qp5 hk)] at this
 have h1:=this.1
 refine ⟨qpI h1,?_⟩
 have h2:=h1
 unfold arcS at h2
 simp only [ji,qcK] at h2
 refine ⟨⟨h2.1.1.1,by omega⟩,h2.1.2,h1⟩
theorem qmv {c:qp} (h:cellB c=true):c.Ap.length≤8:=by
 unfold cellB at h
 simp only [ji,decide_eq_true_eq] at h
 exact h.2.2.1.2
theorem qM {b:qi} (h:blockB b=true):designB b.Ai b.Ab=true:=by
 unfold blockB at h;simp only [ji] at h;exact h.1.1
end Go.Fw


namespace Go.Fw
open Go
set_option maxRecDepth 100000
theorem qpJ {d:qe} {k:Int} {n i:Nat} (hi:i<(sinksL d k n).length):∃ y:Nat,y<n∧idx (sinksL d k n) (i:Int)=some (y:Int)∧snkQ d k y=true:=by
 rw [qaU hi]
 have hm:(sinksL d k n)[i] ∈ sinksL d k n:=jq hi
 generalize (sinksL d k n)[i]=z at hm
 unfold sinksL at hm
 obtain ⟨y,hy,rfl⟩:=List.mem_map.1 hm
 obtain ⟨h1,h2⟩:=List.mem_filter.1 hy
 exact ⟨y,List.mem_range.1 h1,rfl,h2⟩
theorem qpn {d:qe} {k:Int} (h:smallD d):Ev (fun n=>qfX n d k) (sinksL d k (places d).length):=by
 have hl:=qX h
 have hL:Ev (fun n=>qaL k (places d) n ([]:List Int) 0) (sinksL d k (places d).length,((places d).length:Int)):=by
  refine loopF (Lf:=qaL k (places d)) (S:=fun j=>sinksL d k j) (len:=(places d).length) (fun n=>?_) (fun j hj X hX=>?_)
  ·simp only [qaL,qh (jf _),cond_false]
  ·have hc:(sinksL d k j).length+[(j:Int)].length≤2147483648:=by
    rw [qfC]
    have:cntP (snkQ d k) j≤j:=qeC
    simp;omega
   simp only [qaL,qf hj,cond_true,qS hj,je,wS j]
   rw [qjS] at hX
   unfold snkQ at hX
   cases h1:((gt (places d) j).net==k)
   ·rw [h1] at hX
    simp only [Bool.false_and,cond_false,jP] at hX ⊢
    exact hX
   ·cases h2:(gt (places d) j).drives
    ·rw [h1,h2] at hX
     simp only [Bool.not_false,Bool.and_self,cond_true,qcg hc,je] at hX ⊢
     exact hX
    ·rw [h1,h2] at hX
     simp only [Jg,Bool.and_false,cond_false,jP,cond_true] at hX ⊢
     exact hX
 unfold qfX
 exact Ev.bind (qlH h) (Ev.bind hL .done)
structure wireOk (b:qi) (i:Nat):Prop where
 lo:1≤(gt b.Aj i).Ak.length
 hi:(gt b.Aj i).Ak.length≤8
 res:(gt b.Aj i).Bm.length=(gt b.Aj i).Ak.length
 cap:(gt b.Aj i).Bj.length=(gt b.Aj i).Ak.length
 par:∀ j,0<j→j<(gt b.Aj i).Ak.length→0≤at0 (gt b.Aj i).Ak j∧at0 (gt b.Aj i).Ak j<j
 snk:(gt b.Aj i).Be.length=(sinksL b.Ab (i:Int) (places b.Ab).length).length
 sin:∀ j,j<(gt b.Aj i).Be.length→0≤at0 (gt b.Aj i).Be j∧at0 (gt b.Aj i).Be j<(gt b.Aj i).Ak.length
theorem qk2 {b:qi} (h:blockB b=true) {i:Nat} (hi:i<b.Aj.length):wireOk b i:=by
 unfold blockB at h
 rw [ji,qaF] at h
 have:=h.2 i hi
 unfold wireB lenB at this
 simp only [ji,decide_eq_true_eq,beq_iff_eq] at this
 obtain ⟨⟨h1,h2⟩,h3,h4,h5,_,_,h6,h7⟩:=this
 refine ⟨h1,h2,by omega,by omega,fun j hj0 hj=>?_,?_,fun j hj=>?_⟩
 ·have:=qaF.1 h5 j hj
  unfold treeB at this
  rw [show decide (j=0)=false by simp;omega] at this
  simp only [cond_false,qcK] at this
  omega
 ·rw [qfC]
  unfold snkN at h6
  omega
 ·rw [qhb (d:=0),qaF] at h7
  have:=h7 j hj
  rw [qcK] at this
  unfold at0
  omega
theorem qr8 {b:qi} (h:blockB b=true):b.Aj.length=b.Ab.Af.length:=by
 unfold blockB at h
 simp only [ji,beq_iff_eq] at h
 omega
theorem qus {b:qi} (h:blockB b=true) {j:Nat} (hj:j<(places b.Ab).length):∃ c,∀ n,qf2 n b.Ab b.Ai (gt (places b.Ab) j)=some c:=by
 have hd:=qM h
 rcases qfq hj with ⟨i,k,hi,hk,_,e⟩|⟨i,hi,_,e⟩
 ·rw [e]
  obtain ⟨⟨c0,c1⟩,hn,_⟩:=qhX hd hi
  refine ⟨(gt (gt b.Ai.Ah (gt b.Ab.Aa i).Ba.toNat).Am k).Bj,fun n=>?_⟩
  unfold place1
  simp only [qf2,show decide ((i:Int)<0)=false by simp,cond_false,qS hi,je,qf8 c0 c1,qS (show k<(gt b.Ai.Ah (gt b.Ab.Aa i).Ba.toNat).Am.length by omega)]
 ·rw [e]
  exact ⟨0,fun n=>rfl⟩
theorem qmD {b:qi} (h:blockB b=true) {i:Nat} (hi:i<b.Aj.length):∃ r:List Int,r.length=(gt b.Aj i).Ak.length∧Ev (fun n=>qc3 n b (i:Int)) r:=by
 have hw:=qk2 h hi
 have hs:=qu (qM h)
 have hlo:=hw.lo
 have hhi:=hw.hi
 have hcap:=hw.cap
 have hl:=qX hs
 obtain ⟨x1,i1,e1⟩:=loopE (Lf:=qbs b (gt b.Aj i) (places b.Ab) (sinksL b.Ab (i:Int) (places b.Ab).length)) (fin:=fun t=>(t,((sinksL b.Ab (i:Int) (places b.Ab).length).length:Int))) (fun _ t=>t.length=(gt b.Aj i).Ak.length) (len:=(sinksL b.Ab (i:Int) (places b.Ab).length).length)
  (fun n t=>by simp only [qbs,qh (jf _),cond_false])
  (fun j t hj ht=>by
   obtain ⟨y,hy,ey,_⟩:=qpJ hj
   obtain ⟨c,hc⟩:=qus h hy
   have hjs:j<(gt b.Aj i).Be.length:=by rw [hw.snk];exact hj
   have hsn:=hw.sin j hjs
   have hb:j<9223372036854775807:=by
    rw [qfC] at hj
    have:cntP (snkQ b.Ab (i:Int)) (places b.Ab).length≤(places b.Ab).length:=qeC
    omega
   refine ⟨setS t (at0 (gt b.Aj i).Be j) (W64 (gt t (at0 (gt b.Aj i).Be j).toNat+c)),by rw [qiw];exact ht,fun X hX=>?_⟩
   simp only [qbs,qf hj,cond_true,ey,je,qbu hjs,qf8 hsn.1 (show at0 (gt b.Aj i).Be j<(t.length:Int) by omega),qS hy,qd1 hb]
   exact Ev.bind ⟨0,fun n _=>hc n⟩ hX) 0 (jE _) (gt b.Aj i).Bj hcap
 obtain ⟨x2,i2,e2⟩:=loopDn (Lf:=qbt (gt b.Aj i)) (fin:=fun t=>(t,(0:Int))) (fun t=>t.length=(gt b.Aj i).Ak.length) ((gt b.Aj i).Ak.length-1)
  (fun n t=>by simp only [qbt,show decide ((0:Int) > 0)=false from rfl,cond_false])
  (fun j t h0 hj ht=>by
   have hp:=hw.par j h0 (by omega)
   refine ⟨setS t (at0 (gt b.Aj i).Ak j) (W64 (gt t (at0 (gt b.Aj i).Ak j).toNat+gt t j)),by rw [qiw];exact ht,fun X hX=>?_⟩
   simp only [qbt,show decide ((j:Int) > 0)=true by simp;omega,cond_true,qbu (show j<(gt b.Aj i).Ak.length by omega),je,qf8 hp.1 (show at0 (gt b.Aj i).Ak j<(t.length:Int) by omega),qS (show j<t.length by omega),show (j:Int)-1=((j-1:Nat):Int) by omega,qao (show -9223372036854775808≤((j-1:Nat):Int) by omega) (by omega)]
   exact hX) x1 i1
 refine ⟨x2,i2,?_⟩
 unfold qc3 qcM
 rw [qS hi]
 simp only [je,qcg (show ([]:List Int).length+(gt b.Aj i).Bj.length≤2147483648 by simp;omega),List.nil_append]
 refine Ev.bind (qlH hs) (Ev.bind (qpn hs) (Ev.bind e1 ?_))
 rw [qbV (show (gt b.Aj i).Bj.length≤9223372036854775807 by omega),show ((gt b.Aj i).Bj.length:Int)-1=(((gt b.Aj i).Ak.length-1:Nat):Int) by omega]
 exact Ev.bind e2 .done
theorem qoN {b:qi} (h:blockB b=true) {i:Nat} (hi:i<b.Aj.length):∃ r:List Int,r.length=(gt b.Aj i).Be.length∧Ev (fun n=>qdC n b (i:Int)) r:=by
 have hw:=qk2 h hi
 have hs:=qu (qM h)
 have hlo:=hw.lo
 have hhi:=hw.hi
 have hres:=hw.res
 have hl:=qX hs
 have hsl:(gt b.Aj i).Be.length≤78:=by
  rw [hw.snk,qfC]
  have:cntP (snkQ b.Ab (i:Int)) (places b.Ab).length≤(places b.Ab).length:=qeC
  omega
 obtain ⟨r1,l1,e1⟩:=qmD h hi
 have hmk:mkS (r1.length:Int) (0:Int)=some (List.replicate r1.length 0):=qhu (by omega)
 obtain ⟨x2,i2,e2⟩:=loopE (Lf:=qbf (gt b.Aj i) r1 (List.replicate r1.length 0)) (fin:=fun t=>(t,(r1.length:Int))) (fun j t=>1≤j∧t.length=(gt b.Aj i).Ak.length) (len:=r1.length)
  (fun n t=>by simp only [qbf,List.length_replicate,qh (jf _),cond_false])
  (fun j t hj ht=>by
   obtain ⟨h1,ht⟩:=ht
   have hp:=hw.par j (by omega) (by omega)
   refine ⟨setS t (j:Int) (W64 (gt t (at0 (gt b.Aj i).Ak j).toNat+W64 (at0 (gt b.Aj i).Bm j*gt r1 j))),⟨by omega,by rw [qiw];exact ht⟩,fun X hX=>?_⟩
   simp only [qbf,List.length_replicate,qf hj,cond_true,qbu (show j<(gt b.Aj i).Ak.length by omega),je,qf8 hp.1 (show at0 (gt b.Aj i).Ak j<(t.length:Int) by omega),qbu (show j<(gt b.Aj i).Bm.length by omega),qS hj,qS (show j<t.length by omega),wS j]
   exact hX) 1 (by omega) (List.replicate r1.length 0) ⟨jf _,by rw [List.length_replicate];exact l1⟩
 obtain ⟨x3,i3,e3⟩:=loopE (Lf:=qa6 x2 (gt b.Aj i)) (fin:=fun t=>(t,((gt b.Aj i).Be.length:Int))) (fun j t=>t.length=j) (len:=(gt b.Aj i).Be.length)
  (fun n t=>by simp only [qa6,qh (jf _),cond_false])
  (fun j t hj ht=>by
   have hsn:=hw.sin j hj
   have hx2:=i2.2
   refine ⟨t++[gt x2 (at0 (gt b.Aj i).Be j).toNat],by simp [ht],fun X hX=>?_⟩
   simp only [qa6,qf hj,cond_true,qbu hj,je,qf8 hsn.1 (show at0 (gt b.Aj i).Be j<(x2.length:Int) by omega),qcg (show t.length+[gt x2 (at0 (gt b.Aj i).Be j).toNat].length≤2147483648 by simp;omega),wS j]
   exact hX) 0 (jE _) [] rfl
 refine ⟨x3,i3,?_⟩
 unfold qdC qfU
 rw [qS hi]
 simp only [je]
 refine Ev.bind (b:=x2) (Ev.bind e1 ?_) (Ev.bind e3 .done)
 rw [hmk]
 simp only [je]
 exact Ev.bind e2 .done
end Go.Fw


namespace Go.Fw
open Go
set_option maxRecDepth 100000
instance:Inhabited qa0:=⟨⟨0,0,0,0⟩⟩
instance:Inhabited qL:=⟨⟨0,0⟩⟩
theorem qs2 {α:Type} {m:Nat} {z:α} (h:m≤2147483648):mkS (m:Int) z=some (List.replicate m z):=by
 unfold mkS big
 rw [if_pos ⟨by omega,by omega⟩,jw]
theorem qtR {α:Type} [Inhabited α] {xs:List α} {a k:Nat} {y:α} (h:k ≠ a):gt (xs.set a y) k=gt xs k:=by
 unfold gt
 rw [jH,List.getElem?_set_ne (by omega),←jH]
theorem qrE {α:Type} [Inhabited α] {xs:List α} {a:Nat} {y:α} (h:a<xs.length):gt (xs.set a y) a=y:=by
 rw [qjF (by rw [List.length_set];exact h),List.getElem_set_self]
theorem quF {a:qC}:∃ r:List qL,r.length≤4∧∀ n,qeG n a=some r:=by
 unfold qeG
 simp only [bne,qbn]
 cases (a.Aq==2)
 ·cases (a.Aq==3)
  ·cases (a.Aq==1)
   ·exact ⟨_,by decide,fun _=>rfl⟩
   ·cases (a.Bg==1)
    ·cases (a.Bg==2)
     ·exact ⟨[⟨0,0⟩,⟨0,1⟩,⟨1,0⟩,⟨1,1⟩],by decide,fun _=>rfl⟩
     ·exact ⟨[⟨0,1⟩,⟨1,0⟩],by decide,fun _=>rfl⟩
    ·exact ⟨[⟨0,0⟩,⟨1,1⟩],by decide,fun _=>rfl⟩
  ·exact ⟨[⟨1,0⟩,⟨1,1⟩],by decide,fun _=>rfl⟩
 ·exact ⟨[⟨0,0⟩,⟨0,1⟩],by decide,fun _=>rfl⟩
theorem qp8 {b:qi} {first:Int} (h:blockB b=true) {i:Nat} (hi:i<b.Ab.Aa.length):∃ r:List qa0,r.length≤32∧Ev (fun n=>qew n b (gt b.Ab.Aa i) first) r:=by
 obtain ⟨⟨c0,c1⟩,_,hcb⟩:=qhX (qM h) hi
 have ha:=qmv hcb
 obtain ⟨x1,i1,e1⟩:=loopE (Lf:=qbr first (gt b.Ai.Ah (gt b.Ab.Aa i).Ba.toNat)) (fin:=fun t=>(t,((gt b.Ai.Ah (gt b.Ab.Aa i).Ba.toNat).Ap.length:Int))) (fun j t=>t.length≤4*j) (len:=(gt b.Ai.Ah (gt b.Ab.Aa i).Ba.toNat).Ap.length)
  (fun n t=>by simp only [qbr,qh (jf _),cond_false])
  (fun j t hj ht=>by
   obtain ⟨r,hr,er⟩:=quF (a:=gt (gt b.Ai.Ah (gt b.Ab.Aa i).Ba.toNat).Ap j)
   obtain ⟨x2,i2,e2⟩:=loopE (Lf:=qbq first (j:Int) (gt (gt b.Ai.Ah (gt b.Ab.Aa i).Ba.toNat).Ap j) r) (fin:=fun t=>(t,(r.length:Int))) (fun k t'=>t'.length=t.length+k) (len:=r.length)
    (fun n t=>by simp only [qbq,qh (jf _),cond_false])
    (fun k t' hk ht'=>⟨t'++[_],by rw [jo,ht',jv];omega,fun X hX=>by
     simp only [qbq,qf hk,cond_true,qS hk,je,wS k]
     rw [qcg (by rw [jv];omega)]
     exact hX⟩) 0 (jE _) t rfl
   refine ⟨x2,by omega,fun X hX=>?_⟩
   simp only [qbr,qf hj,cond_true,qS hj,je,er,wS j]
   exact Ev.bind e2 hX) 0 (jE _) [] (jf _)
 refine ⟨x1,by omega,?_⟩
 unfold qew
 rw [qf8 c0 c1]
 simp only [je]
 exact Ev.bind e1 .done
theorem qr9 {b:qi} (h:blockB b=true):∃ ls lo de,Ev (fun n=>qiL n b) (some ⟨b,places b.Ab,ls,lo,de,[]⟩):=by
 have hd:=qM h
 have hs:=qu hd
 have hl:=qX hs
 have hni:=hs.ni
 have hnn:=hs.nn
 have hwl:=qr8 h
 obtain ⟨⟨x1,z1⟩,i1,e1⟩:=loopE (τ:=List qa0 × Int) (Lf:=fun n t j=>qeo b n t.1 t.2 j) (fin:=fun t=>(t.1,t.2,(b.Ab.Aa.length:Int))) (fun j t=>t.1.length≤32*j) (len:=b.Ab.Aa.length)
  (fun n t=>by simp only [qeo,qh (jf _),cond_false])
  (fun j t hj ht=>by
   obtain ⟨r,hr,er⟩:=qp8 (first:=t.2) h hj
   refine ⟨(t.1++r,W64 (t.2+((gt b.Ab.Aa j).Af.length:Int))),by rw [jo];omega,fun X hX=>?_⟩
   simp only [qeo,qf hj,cond_true,qS hj,je,qaB,wS j]
   have ht':t.1.length≤32*j:=ht
   refine Ev.bind er ?_
   rw [qcg (show t.1.length+r.length≤2147483648 by omega)]
   exact hX) 0 (jE _) ([],0) (jf _)
 have hm1:mkS (b.Aj.length:Int) (0:Int)=some (List.replicate b.Aj.length 0):=qs2 (by omega)
 have hm2:mkS (b.Aj.length:Int) ([]:List Int)=some (List.replicate b.Aj.length []):=qs2 (by omega)
 obtain ⟨⟨x5,x6⟩,⟨i5,i6,i56⟩,e2⟩:=loopE (τ:=List (List Int) × List Int) (Lf:=fun n t j=>qcD (places b.Ab) n t.1 t.2 j) (fin:=fun t=>(t.1,t.2,((places b.Ab).length:Int))) (fun j t=>t.1.length=b.Aj.length∧t.2.length=b.Aj.length∧∀ k,(gt t.1 k).length≤j) (len:=(places b.Ab).length)
  (fun n t=>by simp only [qcD,qh (jf _),cond_false])
  (fun j t hj ht=>by
   obtain ⟨h1,h2,h3⟩:=ht
   obtain ⟨n0,n1⟩:=qkt hd hj
   cases hdr:(gt (places b.Ab) j).drives
   ·refine ⟨(setS t.1 (gt (places b.Ab) j).net (gt t.1 (gt (places b.Ab) j).net.toNat++[(j:Int)]),t.2),⟨by rw [qiw];exact h1,h2,fun k=>?_⟩,fun X hX=>?_⟩
    ·show (gt (t.1.set _ _) k).length≤j+1
     by_cases hk:k=(gt (places b.Ab) j).net.toNat
     ·subst hk
      rw [qrE (by omega),jo,jv]
      have:=h3 (gt (places b.Ab) j).net.toNat
      omega
     ·rw [qtR hk]
      have:=h3 k
      omega
    ·have:=h3 (gt (places b.Ab) j).net.toNat
     simp only [qcD,qf hj,cond_true,qS hj,je,hdr,cond_false,qf8 n0 (show (gt (places b.Ab) j).net<(t.1.length:Int) by omega),wS j]
     rw [qcg (by rw [jv];omega)]
     exact hX
   ·refine ⟨(t.1,setS t.2 (gt (places b.Ab) j).net (j:Int)),⟨h1,by rw [qiw];exact h2,fun k=>Nat.le_succ_of_le (h3 k)⟩,fun X hX=>?_⟩
    simp only [qcD,qf hj,cond_true,qS hj,je,hdr,qf8 n0 (show (gt (places b.Ab) j).net<(t.2.length:Int) by omega),wS j]
    exact hX) 0 (jE _) (List.replicate b.Aj.length [],List.replicate b.Aj.length 0) ⟨by simp,by simp,fun k=>by
   have:gt (List.replicate b.Aj.length ([]:List Int)) k=[]:=by
    unfold gt
    rw [jH,List.getElem?_replicate]
    by_cases hk:k<b.Aj.length<;>simp [hk]<;>rfl
   rw [this];exact jf _⟩
 have i5:x5.length=b.Aj.length:=i5
 have i6:x6.length=b.Aj.length:=i6
 have i56:∀ k,(gt x5 k).length≤(places b.Ab).length:=i56
 have hL5:∀ (i4 i5 y7:Int) (y8:Int) (t:List qa0),idx x6 i4=some y8→t.length≤1000000→∃ t',t'.length=t.length+2∧Ev (fun n=>qdk x6 i4 i5 y7 n t 0) (t',2):=by
  intro i4 i5 y7 y8 t hy ht
  obtain ⟨t',h1,h2⟩:=loopE (Lf:=qdk x6 i4 i5 y7) (fin:=fun t=>(t,(2:Int))) (fun k t'=>t'.length=t.length+k) (len:=2)
   (fun n t=>by simp only [qdk];rfl)
   (fun k t' hk ht'=>⟨t'++[_],by rw [jo,ht',jv];omega,fun X hX=>by
    simp only [qdk,show decide ((k:Int)<2)=true by simp;omega,cond_true,hy,je,wS k]
    rw [qcg (by rw [jv];omega)]
    exact hX⟩) 0 (jE _) t rfl
  exact ⟨t',h1,h2⟩
 have hL4:∀ (i4 y8:Int) (y6:List Int) (t:List qa0),idx x6 i4=some y8→y6.length≤78→t.length≤900000→∃ t',t'.length=t.length+2*y6.length∧Ev (fun n=>qdq x6 i4 y6 n t 0) (t',(y6.length:Int)):=by
  intro i4 y8 y6 t hy hy6 ht
  obtain ⟨t',h1,h2⟩:=loopE (Lf:=qdq x6 i4 y6) (fin:=fun t=>(t,(y6.length:Int))) (fun k t'=>t'.length=t.length+2*k) (len:=y6.length)
   (fun n t=>by simp only [qdq,qh (jf _),cond_false])
   (fun k t' hk ht'=>by
    obtain ⟨t2,q1,q2⟩:=hL5 i4 (k:Int) (gt y6 k) y8 t' hy (by omega)
    refine ⟨t2,by omega,fun X hX=>?_⟩
    simp only [qdq,qf hk,cond_true,qS hk,je,wS k]
    exact Ev.bind q2 hX) 0 (jE _) t rfl
  exact ⟨t',h1,h2⟩
 obtain ⟨⟨x8,x9,x10⟩,_,e3⟩:=loopE (τ:=List (List Int) × List Int × List qa0) (Lf:=fun n t j=>qej b x5 x6 n t.1 t.2.1 t.2.2 j) (fin:=fun t=>(t.1,t.2.1,t.2.2,(b.Aj.length:Int))) (fun j t=>t.1.length=j∧t.2.1.length=j∧t.2.2.length≤448+156*j) (len:=b.Aj.length)
  (fun n t=>by simp only [qej,qh (jf _),cond_false])
  (fun j t hj ht=>by
   obtain ⟨h1,h2,h3⟩:=ht
   have h1:t.1.length=j:=h1
   have h2:t.2.1.length=j:=h2
   have h3:t.2.2.length≤448+156*j:=h3
   have hw:=qk2 h hj
   have hlo:=hw.lo
   obtain ⟨r4,l4,e4⟩:=qmD h hj
   obtain ⟨r5,l5,e5⟩:=qoN h hj
   have h6:=i56 j
   have hy8:idx x6 (j:Int)=some (gt x6 j):=qS (by omega)
   obtain ⟨t',q1,q2⟩:=hL4 (j:Int) (gt x6 j) (gt x5 j) t.2.2 hy8 (by omega) (by omega)
   refine ⟨(t.1++[r5],t.2.1++[gt r4 0],t'),⟨by simp [h1],by simp [h2],?_⟩,fun X hX=>?_⟩
   ·show t'.length≤_
    omega
   ·simp only [qej,qf hj,cond_true,wS j]
    refine Ev.bind e4 ?_
    rw [show idx r4 (0:Int)=some (gt r4 0) from qS (j:=0) (by omega)]
    simp only [je]
    rw [qcg (by rw [jv];omega)]
    simp only [je]
    refine Ev.bind e5 ?_
    rw [qcg (by rw [jv];omega),qS (show j<x5.length by omega)]
    simp only [je]
    exact Ev.bind q2 hX) 0 (jE _) ([],[],x1) ⟨rfl,rfl,by show x1.length≤_;have:x1.length≤32*b.Ab.Aa.length:=i1;omega⟩
 refine ⟨x10,x9,x8,?_⟩
 unfold qiL
 refine Ev.bind (qlH hs) (Ev.bind e1 ?_)
 rw [hm1,hm2]
 simp only [je]
 exact Ev.bind e2 (Ev.bind e3 .done)
end Go.Fw


namespace Go.Fw
open Go
set_option maxRecDepth 100000
def clkB (b:qi) (p:Tplace):Bool:=bif decide (p.instance_ ≥ 0) then clkAt (cellAt b p.instance_).Am p.pin else false
theorem ql6 {b:qi} {V:Tview} {n j:Nat} (h:blockB b=true) (hV:V.Bi=b) (hj:j<(places b.Ab).length):qb7 n (some V) (gt (places b.Ab) j)=some (clkB b (gt (places b.Ab) j)):=by
 rcases qfq hj with ⟨i,k,hi,hk,_,e⟩|⟨i,hi,_,e⟩
 ·obtain ⟨⟨c0,c1⟩,hn,_⟩:=qhX (qM h) hi
  rw [e]
  unfold place1 clkB clkAt cellAt
  simp only [qb7,show decide ((i:Int) ≥ 0)=true by simp,cond_true,je,hV,qS hi,qf8 c0 c1,qS (show k<(gt b.Ai.Ah (gt b.Ab.Aa i).Ba.toNat).Am.length by omega),jw]
 ·rw [e];rfl
theorem qmQ {b:qi} {j:Nat} (hok:qcu b) (h:blockB b=true) (hj:j<(places b.Ab).length):Ev (fun n=>qgR n b.Ai b.Ab (j:Int)) (toSp (gt (places b.Ab) j),true):=by
 have hd:=qM h
 have hs:=qu hd
 have hl:=qX hs
 unfold qgR
 refine Ev.bind (qmJ hok.Ai hok.Ab) (Ev.ff (by rw [hd];rfl) (Ev.bind (qgP hs) ?_))
 simp only [qd8,je,jQ,qbV (show (places b.Ab).length≤9223372036854775807 by omega)]
 rw [show inI (j:Int) 0 (((places b.Ab).length:Int)-1)=true from qcK.2 ⟨by omega,by omega⟩]
 simp only [Jg,cond_false]
 rw [qS (show j<((places b.Ab).map toSp).length by simpa using hj),qnj hj]
 exact .done
theorem qlh {b:qi} {j:Nat} (hok:qcu b) (h:blockB b=true) (hj:j<(places b.Ab).length):Ev (fun n=>qfP n b (j:Int)) (clkB b (gt (places b.Ab) j)):=by
 unfold qfP
 refine Ev.bind (qmQ hok h hj) ?_
 rcases qfq hj with ⟨i,k,hi,hk,_,e⟩|⟨i,hi,_,e⟩
 ·obtain ⟨⟨c0,c1⟩,hn,_⟩:=qhX (qM h) hi
  rw [e]
  unfold place1 clkB clkAt cellAt toSp
  simp only [qgi,show decide ((i:Int) ≥ 0)=true by simp,cond_true,je,qS hi,qf8 c0 c1,qS (show k<(gt b.Ai.Ah (gt b.Ab.Aa i).Ba.toNat).Am.length by omega),jw]
  exact .done
 ·rw [e];exact .done
theorem qpd {b:qi} {j:Nat} (hok:qcu b) (h:blockB b=true) (hj:j<(places b.Ab).length):Ev (fun n=>qgL n b.Ai b.Ab (j:Int)) (gt (places b.Ab) j).net:=by
 unfold qgL
 exact Ev.bind (qmQ hok h hj) .done
theorem qqE {b:qi} {k:Int} (h:blockB b=true) {j:Nat} (hj:j<(places b.Ab).length) (hk:(gt (places b.Ab) j).net=k) (hdr:(gt (places b.Ab) j).drives=true):Ev (fun n=>qhw n b.Ab k) (j:Int):=by
 have hd:=qM h
 have hs:=qu hd
 have hl:=qX hs
 have e:ixL (fun q:Tl05Place=>(q.net==k)&&q.drives) ((places b.Ab).map toSp)=(j:Int):=by
  refine qur (by simpa using hj) ?_ (fun i hi hq=>?_)
  ·rw [qnj hj]
   show (((gt (places b.Ab) j).net==k)&&(gt (places b.Ab) j).drives)=true
   rw [hk,hdr];simp
  ·have hi':i<(places b.Ab).length:=by simpa using hi
   rw [qnj hi'] at hq
   have hq':(((gt (places b.Ab) i).net==k)&&(gt (places b.Ab) i).drives)=true:=hq
   simp only [ji,beq_iff_eq] at hq'
   exact qru hd hi' hj (by rw [hq'.1,hk]) hq'.2 hdr
 unfold qhw
 refine Ev.bind (qgP hs) ?_
 rw [←e]
 exact qd5 (fin:=(((places b.Ab).map toSp).length:Int)) (Lf:=qcn k ((places b.Ab).map toSp)) (pf:=fun _ q=>some ((q.net==k)&&q.drives)) (fun _ _=>.done)
  (fun n=>by simp only [qcn,qh (jf _),cond_false])
  (fun n j x hx=>by
   have hj:=(List.getElem?_eq_some_iff.1 hx).1
   have hj':j<(places b.Ab).length:=by simpa using hj
   simp only [qcn,qf hj,cond_true,qW hx,je,wS j]
   cases (x.net==k)<;>cases x.drives<;>rfl)
  (fun n=>by congr 1;funext o;cases o<;>rfl)
theorem qsi {b:qi} {i k:Nat} (h:blockB b=true) (hi:i<b.Ab.Aa.length) (hk:k<(gt b.Ab.Aa i).Af.length):Ev (fun n=>qhr n b.Ab (i:Int) (k:Int)) ((off b.Ab i+k:Nat):Int):=by
 have hd:=qM h
 have hs:=qu hd
 have hl:=qX hs
 obtain ⟨hj,ej⟩:=qke hi hk
 have e:ixL (fun q:Tl05Place=>(q.instance_==(i:Int))&&(q.pin==(k:Int))) ((places b.Ab).map toSp)=((off b.Ab i+k:Nat):Int):=by
  refine qur (by simpa using hj) ?_ (fun m hm hq=>?_)
  ·rw [qnj hj,ej]
   unfold place1 toSp
   simp
  ·have hm':m<(places b.Ab).length:=by simpa using hm
   rw [qnj hm'] at hq
   rcases qfq hm' with ⟨i',k',hi',hk',em,e'⟩|⟨i',hi',em,e'⟩
   ·rw [e'] at hq
    unfold place1 toSp at hq
    simp only [ji,beq_iff_eq] at hq
    obtain rfl:i'=i:=by omega
    obtain rfl:k'=k:=by omega
    exact em
   ·rw [e'] at hq
    unfold place2 toSp at hq
    simp only [ji,beq_iff_eq] at hq
    omega
 unfold qhr
 refine Ev.bind (qgP hs) ?_
 rw [←e]
 exact qd5 (fin:=(((places b.Ab).map toSp).length:Int)) (Lf:=qdl (i:Int) (k:Int) ((places b.Ab).map toSp)) (pf:=fun _ q=>some ((q.instance_==(i:Int))&&(q.pin==(k:Int)))) (fun _ _=>.done)
  (fun n=>by simp only [qdl,qh (jf _),cond_false])
  (fun n j x hx=>by
   have hj:=(List.getElem?_eq_some_iff.1 hx).1
   have hj':j<(places b.Ab).length:=by simpa using hj
   simp only [qdl,qf hj,cond_true,qW hx,je,wS j]
   cases (x.instance_==(i:Int))<;>cases (x.pin==(k:Int))<;>rfl)
  (fun n=>by congr 1;funext o;cases o<;>rfl)
def freeB (b:qi) (y:Int):Bool:=!clkB b (gt (places b.Ab) y.toNat)
def dataB (c:qp) (pin:Int):Bool:=c.Ap.any fun a=>(a.Av==pin)&&decide (a.Aq≤3)
def succL (b:qi) (j:Nat):List Int :=
 bif (gt (places b.Ab) j).drives then (sinksL b.Ab (gt (places b.Ab) j).net (places b.Ab).length).filter (freeB b)
 else bif decide ((gt (places b.Ab) j).instance_<0) then []
 else bif dataB (cellAt b (gt (places b.Ab) j).instance_) (gt (places b.Ab) j).pin then [(j:Int)-(gt (places b.Ab) j).pin+(((cellAt b (gt (places b.Ab) j).instance_).Am.length:Int)-1)] else []
theorem qrZ {c:qp} {p:Tplace} (hc:cellB c=true):Ev (fun n=>qab n c.Ap p) (dataB c p.pin):=by
 have ha:=qmv hc
 unfold qab
 refine Ev.bind (b:=ixL (fun a:qC=>(a.Av==p.pin)&&decide (a.Aq≤3)) c.Ap) (qd5 (fin:=(c.Ap.length:Int)) (Lf:=qz c.Ap p) (pf:=fun n x=>qdA n x p) (fun x hx=>?_)
  (fun n=>by simp only [qz,qh (jf _),cond_false])
  (fun n j x hx=>by
   have hj:=(List.getElem?_eq_some_iff.1 hx).1
   simp only [qz,qf hj,cond_true,qW hx,je,wS j])
  (fun n=>by unfold qaH;congr 1;funext o;cases o<;>rfl)) (Ev.now (by rw [qi9];rfl))
 obtain ⟨j,hj,rfl⟩:=jF hx
 have hk:=(qrG hc hj).1
 rw [qjF hj] at hk
 refine ⟨0,fun n _=>?_⟩
 have e:decide (c.Ap[j].Aq≤3)=((c.Ap[j].Aq==1) || ((c.Ap[j].Aq==2) || (c.Ap[j].Aq==3))):=by
  rw [jj];simp;omega
 rw [e]
 unfold qdA qi8
 cases (c.Ap[j].Aq==1)<;>cases (c.Ap[j].Aq==2)<;>cases (c.Ap[j].Aq==3)<;>simp
theorem qjX {b:qi} {V:Tview} {j:Nat} (h:blockB b=true) (hV:V.Bi=b) (hP:V.places=places b.Ab) (hj:j<(places b.Ab).length):Ev (fun n=>qbA n (some V) (j:Int)) (succL b j):=by
 have hd:=qM h
 have hs:=qu hd
 have hl:=qX hs
 unfold qbA succL
 simp only [je,hP,qS hj]
 refine Ev.iff (fun _=>?_) (fun _=>Ev.iff (fun _=>.done) (fun h0=>?_))
 ·have hL:Ev (fun n=>qak (some V) V (gt (places b.Ab) j) n ([]:List Int) 0) ((sinksL b.Ab (gt (places b.Ab) j).net (places b.Ab).length).filter (freeB b),((places b.Ab).length:Int)):=by
   refine loopF (Lf:=qak (some V) V (gt (places b.Ab) j)) (S:=fun m=>(sinksL b.Ab (gt (places b.Ab) j).net m).filter (freeB b)) (len:=(places b.Ab).length) (fun n=>?_) (fun m hm X hX=>?_)
   ·simp only [qak,hP,qh (jf _),cond_false]
   ·have hc:((sinksL b.Ab (gt (places b.Ab) j).net m).filter (freeB b)).length+[(m:Int)].length≤2147483648:=by
     have h1:=List.length_filter_le (freeB b) (sinksL b.Ab (gt (places b.Ab) j).net m)
     rw [qfC] at h1
     have:cntP (snkQ b.Ab (gt (places b.Ab) j).net) m≤m:=qeC
     rw [jv];omega
    simp only [qak,hP,qf hm,cond_true,qS hm,je,ql6 h hV hm,wS m]
    rw [qjS] at hX
    unfold snkQ at hX
    cases h1:((gt (places b.Ab) m).net==(gt (places b.Ab) j).net)
    ·rw [h1] at hX
     simp only [Bool.false_and,cond_false,jP] at hX ⊢
     exact hX
    ·cases h2:(gt (places b.Ab) m).drives
     ·rw [h1,h2] at hX
      simp only [Bool.not_false,Bool.and_self,cond_true,List.filter_append] at hX ⊢
      have hf:freeB b (m:Int) = !clkB b (gt (places b.Ab) m):=by unfold freeB;rw [jw]
      cases h3:clkB b (gt (places b.Ab) m)
      ·rw [h3] at hf
       rw [List.filter_cons_of_pos (by rw [hf];rfl),List.filter_nil] at hX
       simp only [Bool.not_false,cond_true,qcg hc,je]
       exact hX
      ·rw [h3] at hf
       rw [List.filter_cons_of_neg (by rw [hf];decide),List.filter_nil,jP] at hX
       exact hX
     ·rw [h1,h2] at hX
      simp only [Jg,Bool.and_false,cond_false,jP,cond_true] at hX ⊢
      exact hX
  exact Ev.bind hL .done
 ·rcases qfq hj with ⟨i,k,hi,hk,ej,e⟩|⟨i,hi,_,e⟩
  ·obtain ⟨⟨c0,c1⟩,hn,hcb⟩:=qhX hd hi
   have hxs:=hs.nx i hi
   rw [e]
   have ec:cellAt b (place1 b.Ab i k).instance_=gt b.Ai.Ah (gt b.Ab.Aa i).Ba.toNat:=by
    unfold cellAt place1;rw [jw]
   rw [ec]
   have e1:∀ n,qf1 n V.Bi (place1 b.Ab i k).instance_=some (gt b.Ai.Ah (gt b.Ab.Aa i).Ba.toNat):=by
    intro n
    rw [hV]
    unfold place1
    simp only [qf1,qS hi,qf8 c0 c1,je]
   refine Ev.bind ⟨0,fun n _=>e1 n⟩ (Ev.bind (qrZ hcb) (Ev.iff (fun _=>?_) (fun _=>.done)))
   simp only [qb9,qbv,je]
   refine Ev.now ?_
   have ep:(place1 b.Ab i k).pin=(k:Int):=rfl
   rw [ep,qbV (by omega),qao (show -9223372036854775808≤(j:Int)-(k:Int) by omega) (by omega),qao (by omega) (by omega)]
  ·rw [e] at h0
   exact absurd h0 (by show ¬ decide ((-1:Int)<0)=false;decide)
theorem qk7 {b:qi} {j:Nat} (hok:qcu b) (h:blockB b=true) (hj:j<(places b.Ab).length):Ev (fun n=>qfS n b (j:Int)) (succL b j):=by
 have hd:=qM h
 have hs:=qu hd
 have hl:=qX hs
 obtain ⟨n0,n1⟩:=qkt hd hj
 obtain ⟨jd,hjd,nd,dd⟩:=qwc hd n0 n1
 have hsl:(sinksL b.Ab (gt (places b.Ab) j).net (places b.Ab).length).length≤78:=by
  rw [qfC]
  have:cntP (snkQ b.Ab (gt (places b.Ab) j).net) (places b.Ab).length≤(places b.Ab).length:=qeC
  omega
 unfold qfS
 refine Ev.bind (qmQ hok h hj) (Ev.bind (qpd hok h hj) (Ev.bind (qqE h hjd nd dd) ?_))
 have e0:((jd:Int)==(j:Int))=(gt (places b.Ab) j).drives:=by
  rw [jj,beq_iff_eq]
  constructor
  ·intro e
   obtain rfl:jd=j:=by omega
   exact dd
  ·intro hdj
   have:=qru hd hjd hj nd dd hdj
   omega
 rw [e0]
 unfold succL
 refine Ev.iff (fun _=>?_) (fun _=>Ev.iff (fun _=>.done) (fun h0=>?_))
 ·refine Ev.bind (qny hs) ?_
  have hL:Ev (fun n=>qb3 b (sinksL b.Ab (gt (places b.Ab) j).net (places b.Ab).length) n ([]:List Int) 0) ((sinksL b.Ab (gt (places b.Ab) j).net (places b.Ab).length).filter (freeB b),((sinksL b.Ab (gt (places b.Ab) j).net (places b.Ab).length).length:Int)):=by
   refine loopF (Lf:=qb3 b (sinksL b.Ab (gt (places b.Ab) j).net (places b.Ab).length)) (S:=fun m=>((sinksL b.Ab (gt (places b.Ab) j).net (places b.Ab).length).take m).filter (freeB b)) (len:=(sinksL b.Ab (gt (places b.Ab) j).net (places b.Ab).length).length) (fun n=>?_) (fun m hm X hX=>?_)
   ·simp only [qb3,qh (jf _),cond_false,jB]
   ·obtain ⟨y,hy,ey,_⟩:=qpJ hm
    have hc:(((sinksL b.Ab (gt (places b.Ab) j).net (places b.Ab).length).take m).filter (freeB b)).length+[(y:Int)].length≤2147483648:=by
     have h1:=List.length_filter_le (freeB b) ((sinksL b.Ab (gt (places b.Ab) j).net (places b.Ab).length).take m)
     rw [Jc] at h1
     rw [jv];omega
    have eg:(sinksL b.Ab (gt (places b.Ab) j).net (places b.Ab).length)[m]=(y:Int):=by
     rw [qaU hm] at ey;exact Option.some.inj ey
    rw [jr hm,List.filter_append,eg] at hX
    simp only [qb3,qf hm,cond_true,ey,je,wS m]
    refine Ev.bind (qlh hok h hy) ?_
    have hf:freeB b (y:Int) = !clkB b (gt (places b.Ab) y):=by unfold freeB;rw [jw]
    cases h3:clkB b (gt (places b.Ab) y)
    ·rw [h3] at hf
     rw [List.filter_cons_of_pos (by rw [hf];rfl),List.filter_nil] at hX
     simp only [Bool.not_false,cond_true,qcg hc,je]
     exact hX
    ·rw [h3] at hf
     rw [List.filter_cons_of_neg (by rw [hf];decide),List.filter_nil,jP] at hX
     exact hX
  exact Ev.bind hL .done
 ·rcases qfq hj with ⟨i,k,hi,hk,ej,e⟩|⟨i,hi,_,e⟩
  ·obtain ⟨⟨c0,c1⟩,hn,hcb⟩:=qhX hd hi
   have hxs:=hs.nx i hi
   rw [e]
   have ec:cellAt b (place1 b.Ab i k).instance_=gt b.Ai.Ah (gt b.Ab.Aa i).Ba.toNat:=by
    unfold cellAt place1;rw [jw]
   rw [ec]
   have hA:=qmv hcb
   have e1:∀ n,qgi n b (toSp (place1 b.Ab i k)).instance_=some (gt b.Ai.Ah (gt b.Ab.Aa i).Ba.toNat):=by
    intro n
    unfold place1 toSp
    simp only [qgi,qS hi,qf8 c0 c1,je]
   have e2:Ev (fun n=>qhr n b.Ab (toSp (place1 b.Ab i k)).instance_ (W64 (((gt b.Ai.Ah (gt b.Ab.Aa i).Ba.toNat).Am.length:Int)-1))) ((j:Int)-(k:Int)+(((gt b.Ai.Ah (gt b.Ab.Aa i).Ba.toNat).Am.length:Int)-1)):=by
    have:=qsi h hi (k:=(gt b.Ai.Ah (gt b.Ab.Aa i).Ba.toNat).Am.length-1) (by omega)
    rw [qbV (by omega),show ((gt b.Ai.Ah (gt b.Ab.Aa i).Ba.toNat).Am.length:Int)-1=(((gt b.Ai.Ah (gt b.Ab.Aa i).Ba.toNat).Am.length-1:Nat):Int) by omega]
    refine this.cast ?_
    omega
   have hL2:Ev (fun n=>qdM b (toSp (place1 b.Ab i k)) (gt b.Ai.Ah (gt b.Ab.Aa i).Ba.toNat) n 0) (bif ((gt b.Ai.Ah (gt b.Ab.Aa i).Ba.toNat).Ap.all fun a=>!((a.Av==(k:Int))&&decide (a.Aq≤3))) then .nxt ((gt b.Ai.Ah (gt b.Ab.Aa i).Ba.toNat).Ap.length:Int) else .ret [(j:Int)-(k:Int)+(((gt b.Ai.Ah (gt b.Ab.Aa i).Ba.toNat).Am.length:Int)-1)]) :=
    qlf (fun n=>by simp only [qdM,qh (jf _),cond_false]) (fun m hm X hX=>by
     simp only [qdM,qf hm,cond_true,qaU hm,je,wS m]
     rw [show (toSp (place1 b.Ab i k)).pin=(k:Int) from rfl]
     refine Ev.bind (b:=((gt b.Ai.Ah (gt b.Ab.Aa i).Ba.toNat).Ap[m].Av==(k:Int))&&decide ((gt b.Ai.Ah (gt b.Ab.Aa i).Ba.toNat).Ap[m].Aq≤3)) (Ev.andP fun _=>.done) ?_
     cases (((gt b.Ai.Ah (gt b.Ab.Aa i).Ba.toNat).Ap[m].Av==(k:Int))&&decide ((gt b.Ai.Ah (gt b.Ab.Aa i).Ba.toNat).Ap[m].Aq≤3))
     ·exact hX
     ·exact Ev.bind e2 .done)
   refine Ev.bind ⟨0,fun n _=>e1 n⟩ (Ev.bind hL2 ?_)
   have e3:dataB (gt b.Ai.Ah (gt b.Ab.Aa i).Ba.toNat) (place1 b.Ab i k).pin = !((gt b.Ai.Ah (gt b.Ab.Aa i).Ba.toNat).Ap.all fun a=>!((a.Av==(k:Int))&&decide (a.Aq≤3))):=by
    unfold dataB
    rw [show (place1 b.Ab i k).pin=(k:Int) from rfl,jj]
    simp
   rw [e3,show (place1 b.Ab i k).pin=(k:Int) from rfl]
   cases ((gt b.Ai.Ah (gt b.Ab.Aa i).Ba.toNat).Ap.all fun a=>!((a.Av==(k:Int))&&decide (a.Aq≤3)))<;>exact .done
  ·rw [e] at h0
   exact absurd h0 (by show ¬ decide ((-1:Int)<0)=false;decide)
theorem qgZ {b:qi} (h:blockB b=true) {j:Nat}:(succL b j).length≤78:=by
 have hs:=qu (qM h)
 have hl:=qX hs
 unfold succL
 cases (gt (places b.Ab) j).drives
 ·cases decide ((gt (places b.Ab) j).instance_<0)
  ·cases dataB (cellAt b (gt (places b.Ab) j).instance_) (gt (places b.Ab) j).pin
   ·exact jE _
   ·show 1≤78;omega
  ·exact jE _
 ·have h1:=List.length_filter_le (freeB b) (sinksL b.Ab (gt (places b.Ab) j).net (places b.Ab).length)
  rw [qfC] at h1
  have:cntP (snkQ b.Ab (gt (places b.Ab) j).net) (places b.Ab).length≤(places b.Ab).length:=qeC
  simp only [cond_true]
  omega
def inPl (b:qi) (x:Int):Bool:=inI x 0 (((places b.Ab).length:Int)-1)
end Go.Fw


namespace Go.Fw
open Go
def qeJ (x:qa):Prop:=rngI x.Aq∧rngI x.Bk∧(rngL rngI) x.Av∧(rngL rngI) x.As∧(rngL rngI) x.To
def qaM (x:qa):Nat:=qZ x.Av+qZ x.As+qZ x.To
structure qaa (x:qa):Prop where
 Aq:okI x.Aq
 Bk:okI x.Bk
 Av:(okL okI) x.Av
 As:(okL okI) x.As
 To:(okL okI) x.To
theorem qox {x:qa} (h:qeJ x) (w:qaM x≤1048576):qaa x:=⟨h.1,h.2.1,qcH (h.2.2.1) (by simp only [qaM] at w;omega),qcH (h.2.2.2.1) (by simp only [qaM] at w;omega),qcH (h.2.2.2.2) (by simp only [qaM] at w;omega)⟩
theorem qqe {a:qa} (h:qaM a≤1048576):Ev (fun n=>qfd n a a) true:=by
 unfold qfd
 simp only [qaM] at h
 exact Ev.ff qbi (Ev.ff qbi (Ev.bind (qdY (a:=a.Av) (by omega)) (Ev.ff rfl (Ev.bind (qdY (a:=a.As) (by omega)) (Ev.ff rfl (Ev.bind (qdY (a:=a.To) (by omega)) (Ev.ff rfl (.done))))))))
def qa8 (a:(List qa)):Nat:=a.length+(a.map fun x=>qaM x).sum
theorem qnY {a:(List qa)} (h:(rngL qeJ) a) (w:qa8 a≤1048576):(okL qaa) a :=
 ⟨by simp only [qa8] at w;omega,fun x hx=>qox (h.2 x hx) (by have:=qbE (wt:=fun x:qa=>qaM x) hx;simp only [qa8] at w;omega)⟩
theorem qpi {a:(List qa)} (h:qa8 a≤1048576):Ev (fun n=>qf0 n a a) true:=by
 have hl:a.length≤1048576:=by simp only [qa8] at h;omega
 unfold qf0
 exact Ev.ff (by simp) (Ev.bind (b:=.nxt (a.length:Int)) (qht (eqf:=qfd) (fun x hx=>qqe (by have:=qbE (wt:=fun x:qa=>qaM x) hx;simp only [qa8] at h;omega))
  (fun n=>by simp only [qc6,qh (jf _),cond_false])
  (fun n j x hx=>by
   have hj:=(List.getElem?_eq_some_iff.1 hx).1
   simp only [qc6,qf hj,cond_true,qW hx,je,wS j])) .done)
def qer (a:(List (List Int))):Nat:=a.length+(a.map fun x=>qZ x).sum
theorem qmh {a:(List (List Int))} (h:qer a≤1048576):Ev (fun n=>qe1 n a a) true:=by
 have hl:a.length≤1048576:=by simp only [qer] at h;omega
 unfold qe1
 exact Ev.ff (by simp) (Ev.bind (b:=.nxt (a.length:Int)) (qht (eqf:=qau) (fun x hx=>qdY (by have:=qbE (wt:=fun x:(List Int)=>qZ x) hx;simp only [qer] at h;omega))
  (fun n=>by simp only [qeF,qh (jf _),cond_false])
  (fun n j x hx=>by
   have hj:=(List.getElem?_eq_some_iff.1 hx).1
   simp only [qeF,qf hj,cond_true,qW hx,je,wS j])) .done)
theorem qqD {a:qa} {left:Int} (h:qeJ a) (h0:0≤left) (h1:left≤1048576):Sz (fun n=>qeV n a left) (fun r=>r=left-(qaM a:Int)):=by
 unfold qeV
 obtain ⟨h_0,h_1,h_2,h_3,h_4⟩:=h
 exact Sz.step (qen (a:=a.Av) h_2 (by omega) (by omega)) fun r0 p0 q0=>Sz.step (qen (a:=a.As) h_3 (by omega) (by omega)) fun r1 p1 q1=>Sz.step (qen (a:=a.To) h_4 (by omega) (by omega)) fun r2 p2 q2=>Sz.done p2 (by simp only [qaM];omega)
theorem qpl {a:(List qa)} {left:Int} (h:(rngL qeJ) a) (h0:0≤left) (h1:left≤1048576):Sz (fun n=>qhs n a left) (fun r=>r=left-(qa8 a:Int)) :=
 Sz.list (Lf:=qb6 a) (wt:=fun x:qa=>qaM x) (el:=qeV) h0 h1 h.1 (fun x hx left p q=>qqD (h.2 x hx) p q)
  (fun acc n=>by simp only [qb6,qh (jf _),cond_false])
  (fun acc n j x hx=>by
   have hj:=(List.getElem?_eq_some_iff.1 hx).1
   have hl:=h.1
   simp only [qb6,qf hj,cond_true,qW hx,je,wS j])
  (fun _=>rfl)
theorem qqv {a:qa} (h:qaM a≤1048576):Ev (fun n=>qe9 n a) a:=by
 unfold qe9
 simp only [qaM] at h
 exact Ev.bind (qeg (a:=a.Av) (by omega)) (Ev.bind (qeg (a:=a.As) (by omega)) (Ev.bind (qeg (a:=a.To) (by omega)) (.done)))
theorem qhY {a:(List qa)} (h:qa8 a≤1048576):Ev (fun n=>qck n a) a:=by
 have hl:a.length≤1048576:=by simp only [qa8] at h;omega
 unfold qck
 exact Ev.bindN (qhu (by omega)) (Ev.bind (b:=(a,(a.length:Int))) (qh9 (cp:=qe9) (fun x hx=>qqv (by have:=qbE (wt:=fun x:qa=>qaM x) hx;simp only [qa8] at h;omega))
  (fun acc n=>by simp only [qc7,qh (jf _),cond_false])
  (fun acc n j x y hx hy=>by
   have hj:=(List.getElem?_eq_some_iff.1 hx).1
   simp only [qc7,qf hj,cond_true,qW hx,qW hy,je,wS j])) .done)
end Go.Fw


namespace Go.Fw
open Go
set_option maxRecDepth 100000
theorem qqA {b:qi} (h:blockB b=true):Ev (fun n=>qbC n b) ((places b.Ab).length:Int):=by
 unfold qbC
 exact Ev.bind (qgP (qu (qM h))) (Ev.now (by rw [jQ]))
def plsB (b:qi) (xs:List Int):Bool:=decide (xs.length≤4)&&allN (fun j=>inPl b (at0 xs j)) xs.length
def valB (k v:Int):Bool:=bif k==1 then v==0 else bif k==2 then inI v 1 10 else bif (k==3) || (k==4) then inI v 0 1000000000 else false
def excB (b:qi) (e:qa):Bool:=(plsB b e.Av&&(plsB b e.As&&plsB b e.To))&&(valB e.Aq e.Bk&&(incB e.Av&&incB e.To))
theorem qkG {b:qi} {xs:List Int} {sorted:Bool} (h:blockB b=true) (hl:xs.length≤1048576):Ev (fun n=>qfp n b xs sorted) (plsB b xs&&(!sorted || incB xs)):=by
 have hpl:=qX (qu (qM h))
 have hL:Ev (fun n=>qbO b xs sorted n 0) (bif allN (fun j=>inPl b (at0 xs j)&&(!sorted || stepB xs j)) xs.length then .nxt (xs.length:Int) else .ret false):=by
  refine qeL ?_ (fun j hj X hX=>Ev.succ ?_)
  ·exact Ev.succ (by simp only [qbO,qh (jf _),cond_false];exact .done)
  ·simp only [qbO,qf hj,cond_true,qbu hj,je,qd8,wS j]
   refine Ev.bind (qqA h) ?_
   rw [qbV (show (places b.Ab).length≤9223372036854775807 by omega)]
   simp only [qbn]
   refine Ev.okP (a:=inPl b (at0 xs j)) fun _=>?_
   cases sorted
   ·exact hX
   ·refine Ev.tt rfl ?_
    unfold stepB
    by_cases h0:j=0
    ·subst h0
     exact Ev.ff (by decide) hX
    ·refine Ev.tt (by simp;omega) ?_
     simp only [show (j:Int)-1=((j-1:Nat):Int) by omega,qao (show -9223372036854775808≤((j-1:Nat):Int) by omega) (by omega),qbu (show j-1<xs.length by omega),je]
     rw [show decide (at0 xs (j-1) ≥ at0 xs j) = !decide (at0 xs (j-1)<at0 xs j) by rw [jj];simp,show decide (j=0)=false by simp;omega]
     simp only [qbn,Jg,Bool.false_or]
     exact Ev.okP1 fun _=>hX
 unfold qfp
 have e:(plsB b xs&&(!sorted || incB xs))=(allN (fun j=>inPl b (at0 xs j)&&(!sorted || stepB xs j)) xs.length&&decide (xs.length≤4)):=by
  unfold plsB incB
  rw [qj5]
  cases sorted
  ·simp only [Bool.not_false,Bool.true_or,Bool.and_true]
   rw [show allN (fun _=>true) xs.length=true from qaF.2 (fun _ _=>rfl),Bool.and_true,Bool.and_comm]
  ·simp only [Jg,Bool.false_or]
   rw [Bool.and_assoc,Bool.and_comm]
 rw [e]
 refine Ev.bind hL ?_
 cases allN (fun j=>inPl b (at0 xs j)&&(!sorted || stepB xs j)) xs.length
 ·exact .done
 ·refine Ev.now ?_
  show some (decide ((xs.length:Int)≤((4:Nat):Int)))=some (true&&decide (xs.length≤4))
  rw [qkw,jI]
theorem qr2 {n:Nat} {k v:Int}:qiJ n k v=some (valB k v):=by
 simp only [qiJ,qdK,je]
 unfold valB
 cases (k==1)<;>cases (k==2)<;>cases (k==3)<;>cases (k==4)<;>rfl
theorem qoD {b:qi} {V:Tview} {e:qa} (h:blockB b=true) (hP:V.places=places b.Ab) (he:qaa e):Ev (fun n=>qeb n (some V) e) (excB b e):=by
 have hpl:=qX (qu (qM h))
 have one:∀ xs:List Int,xs.length≤1048576→∀ {F:Nat→Option (Flow Bool Int)} {X:Flow Bool Int},Ev F X →
   Ev (fun n=>bif decide ((xs.length:Int) > 4) then some (.ret false) else (qbB n xs 0 (((places b.Ab).length:Int)-1)).bind fun r2=>bif (!r2) then some (.ret false) else F n) (bif plsB b xs then X else .ret false):=by
  intro xs hx F X hX
  unfold plsB
  rw [show decide ((xs.length:Int) > 4) = !decide (xs.length≤4) from qlL (k:=4)]
  simp only [qbn]
  refine Ev.okP fun _=>Ev.ok1 ((qfw hx).cast (by rw [qhb (d:=0)];rfl)) fun _=>hX
 have hL:Ev (fun n=>qad (some V) e n 0) (bif plsB b e.Av then (bif plsB b e.As then (bif plsB b e.To then .nxt 3 else .ret false) else .ret false) else .ret false):=by
  refine Ev.succ ?_
  simp only [qad,je,qbd,hP,qbV (show (places b.Ab).length≤9223372036854775807 by omega)]
  refine one e.Av he.Av.len (F:=fun n=>qad (some V) e n 1) (Ev.succ ?_)
  simp only [qad,je,qbd,hP,qbV (show (places b.Ab).length≤9223372036854775807 by omega)]
  refine one e.As he.As.len (F:=fun n=>qad (some V) e n 2) (Ev.succ ?_)
  simp only [qad,je,qbd,hP,qbV (show (places b.Ab).length≤9223372036854775807 by omega)]
  refine one e.To he.To.len (F:=fun n=>qad (some V) e n 3) (Ev.succ ?_)
  exact .done
 unfold qeb excB
 refine Ev.bind hL ?_
 cases plsB b e.Av
 ·exact .done
 ·cases plsB b e.As
  ·exact .done
  ·cases plsB b e.To
   ·exact .done
   ·simp only [cond_true,qr2,je,Bool.and_self,jI]
    exact Ev.andP fun _=>Ev.and (qiz he.Av.len) fun _=>Ev.last (qiz he.To.len)
theorem qnS {b:qi} {e:qa} (hok:qcu b) (he:qaa e):Ev (fun n=>qgn n b e) (blockB b&&excB b e):=by
 have eq:(blockB b&&excB b e)=((blockB b&&((plsB b e.Av&&(!true || incB e.Av))&&((plsB b e.As&&(!false || incB e.As))&&(plsB b e.To&&(!true || incB e.To)))))&&valB e.Aq e.Bk):=by
  unfold excB
  generalize blockB b=a1
  generalize plsB b e.Av=a2
  generalize plsB b e.As=a3
  generalize plsB b e.To=a4
  generalize valB e.Aq e.Bk=a5
  generalize incB e.Av=a6
  generalize incB e.To=a7
  cases a1<;>cases a2<;>cases a3<;>cases a4<;>cases a5<;>cases a6<;>cases a7<;>rfl
 rw [eq]
 unfold qgn
 refine Ev.guardB (Ev.or (qnA hok) fun h=>Ev.or (qkG h he.Av.len) fun _=>Ev.or (qkG h he.As.len) fun _=>Ev.neg (qkG h he.To.len)) fun _=>?_
 simp only [qd8,je]
 unfold valB
 cases (e.Aq==1)<;>cases (e.Aq==2)<;>cases (e.Aq==3)<;>cases (e.Aq==4)<;>exact .done
end Go.Fw


namespace Go.Fw
open Go
set_option maxRecDepth 100000
def hasI (xs:List Int) (y:Int):Bool:=xs.any fun x=>x==y
theorem qtt {xs:List Int} {y:Int} (hl:xs.length≤1048576):Ev (fun n=>qjD n xs y) (ixL (fun x=>x==y) xs) :=
 qd5 (fin:=(xs.length:Int)) (Lf:=qeW xs y) (pf:=fun _ x=>some (x==y)) (fun _ _=>.done)
  (fun n=>by simp only [qeW,qh (jf _),cond_false])
  (fun n j x hx=>by
   have hj:=(List.getElem?_eq_some_iff.1 hx).1
   simp only [qeW,qf hj,cond_true,qW hx,je,wS j])
  (fun n=>by unfold qjD;congr 1;funext o;cases o<;>rfl)
theorem qqV {xs:List Int} {y:Int} (hl:xs.length≤1048576):Ev (fun n=>qd9 n xs y) (hasI xs y):=by
 unfold qd9
 refine Ev.bind (b:=ixL (fun x=>y==x) xs) (qd5 (fin:=(xs.length:Int)) (Lf:=qbR xs y) (pf:=fun _ x=>some (y==x)) (fun _ _=>.done)
  (fun n=>by simp only [qbR,qh (jf _),cond_false])
  (fun n j x hx=>by
   have hj:=(List.getElem?_eq_some_iff.1 hx).1
   simp only [qbR,qf hj,cond_true,qW hx,je,wS j])
  (fun n=>by unfold qgY;congr 1;funext o;cases o<;>rfl)) (Ev.now ?_)
 rw [qi9]
 unfold hasI
 congr 2
 funext x
 rw [jj,beq_iff_eq,beq_iff_eq]
 exact eq_comm
theorem qwf {p:Int→Bool} {xs:List Int}:decide (ixL p xs<0) = !xs.any p:=by
 rw [←qi9,jj];simp
instance:Inhabited qa:=⟨⟨0,0,[],[],[]⟩⟩
def stepT (e:qa) (found place:Int):Int:=bif decide (found ≥ 0)&&(decide (found<(e.As.length:Int))&&(at0 e.As found.toNat==place)) then found+1 else found
def fromB (e:qa) (p:Int):Bool:=decide (e.Av.length=0) || hasI e.Av p
def beginT (e:qa) (p:Int):Int:=bif fromB e p then stepT e 0 p else -1
def runT (e:qa) (path:List Int):Int:=(path.drop 1).foldl (stepT e) (beginT e (at0 path 0))
theorem qtS {e:qa} {p:Int}:stepT e (-1) p=-1:=rfl
theorem qqB {e:qa} {found p:Int} (hl:e.As.length≤1048576):Ev (fun n=>qbK n e found p) (stepT e found p):=by
 unfold qbK stepT
 simp only [qaB,je]
 cases h1:decide (found ≥ 0)
 ·exact .done
 ·cases h2:decide (found<(e.As.length:Int))
  ·exact .done
  ·have h1:=of_decide_eq_true h1
   have h2:=of_decide_eq_true h2
   simp only [cond_true,jI]
   obtain ⟨k,rfl⟩:∃ k:Nat,found=(k:Int):=⟨found.toNat,by omega⟩
   rw [qbu (show k<e.As.length by omega),jw]
   simp only [je]
   cases (at0 e.As k==p)
   ·exact .done
   ·exact Ev.now (by rw [qao (by omega) (by omega)];rfl)
theorem qu3 {e:qa} {p:Int} (he:qaa e):Ev (fun n=>qet n e p) (beginT e p):=by
 unfold qet beginT fromB
 have hs:=qqB (found:=0) (p:=p) he.As.len
 by_cases h0:e.Av.length=0
 ·exact Ev.ff (by simp [h0]) (by rw [decide_eq_true h0];exact Ev.bind hs .done)
 ·refine Ev.tt (by simp;omega) ?_
  rw [decide_eq_false h0,Bool.false_or]
  refine Ev.bind (qqV he.Av.len) ?_
  cases hasI e.Av p
  ·exact .done
  ·exact Ev.ff rfl (Ev.bind hs .done)
theorem qtY {α:Type} {xs:List α} (h:1≤xs.length):subS xs 1 (xs.length:Int)=some (xs.drop 1):=by
 unfold subS
 rw [if_pos ⟨by omega,by omega,by omega⟩]
 simp
theorem qtG {e:qa} {xs:List Int} {i0:Int} {j:Nat} (h:j<xs.length):stepT e ((xs.take j).foldl (stepT e) i0) (at0 xs j)=(xs.take (j+1)).foldl (stepT e) i0:=by
 rw [jr h,List.foldl_append]
 simp [at0,h]
theorem qrV {e:qa} {xs:List Int} {i0:Int} (he:qaa e) (hl:xs.length≤1048576):Ev (fun n=>qeO e xs n i0 0) (xs.foldl (stepT e) i0,(xs.length:Int)):=by
 have:=loopF (Lf:=qeO e xs) (S:=fun j=>(xs.take j).foldl (stepT e) i0) (len:=xs.length) (fin:=(xs.foldl (stepT e) i0,(xs.length:Int)))
  (fun n=>by simp only [qeO,qh (jf _),cond_false,jB])
  (fun j hj X hX=>by
   simp only [qeO,qf hj,cond_true,qbu hj,je,wS j]
   refine Ev.bind (qqB he.As.len) ?_
   rw [qtG hj]
   exact hX)
 simpa using this
theorem qum {es:List qa} {path:List Int} (he:okL qaa es) (h1:1≤path.length) (hl:path.length≤1048576):Ev (fun n=>qhS n es path) (es.map fun e=>runT e path):=by
 have hes:=he.len
 have hL:Ev (fun n=>qeK es path n ([]:List Int) 0) (es.map (fun e=>runT e path),(es.length:Int)):=by
  refine loopF (Lf:=qeK es path) (S:=fun j=>(es.take j).map fun e=>runT e path) (len:=es.length) (fun n=>?_) (fun j hj X hX=>?_)
  ·simp only [qeK,qh (jf _),cond_false,jB]
  ·have ha:appS ((es.take j).map fun e=>runT e path) [runT (gt es j) path]=some ((es.take (j+1)).map fun e=>runT e path):=by
    rw [qcg (by rw [jQ,Jc,jv];omega),qfB hj]
   have hd:(path.drop 1).length≤1048576:=by rw [List.length_drop];omega
   simp only [qeK,qf hj,cond_true,qS hj,je,wS j,qtY h1,show idx path 0=some (at0 path 0) from qbu (j:=0) (by omega)]
   refine Ev.bind (qu3 (qiv he hj)) (Ev.bind (qrV (qiv he hj) hd) ?_)
   exact Ev.bindN ha hX
 unfold qhS
 exact Ev.bind hL .done
end Go.Fw


namespace Go.Fw
open Go
set_option maxRecDepth 100000
def Mk {σ:Type} (F:Nat→Option (Int × σ)) (k:Int) (w:Nat):Prop:=∃ k' x,Ev F (k',x)∧k≤k'∧k'≤k+16*(w:Int)
theorem qqJ {α:Type} {t:List α} {j:Nat} {y:α} (h:j<t.length):idx (setS t (j:Int) y) (j:Int)=some y:=by
 rw [qaU (by rw [qiw];exact h),qtQ h]
theorem qpz {α:Type} {t:List α} {i:Int} {y z:α}:setS (setS t i y) i z=setS t i z:=by
 unfold setS;rw [List.set_set]
theorem qpp {α:Type} {a:List α} {wt:α→Nat} {j:Nat} (h:j<a.length):((a.take (j+1)).map wt).sum=((a.take j).map wt).sum+wt a[j]:=by
 rw [jr h,jJ,List.sum_append];simp
theorem qqQ {α:Type} {a:List α} {wt:α→Nat} {j:Nat}:((a.take j).map wt).sum≤(a.map wt).sum:=by
 conv=>rhs;rw [←List.take_append_drop j a]
 rw [jJ,List.sum_append]
 exact Nat.le_add_right _ _
theorem qgk {α:Type} {a:List α} {wt:α→Nat} {Lf:Nat→List α→Int→Int→Option (List α × Int × Int)} {F:Nat→Option (Int × List α)} {k:Int} (hk0:0≤k) (hk1:k+16*((a.length+(a.map wt).sum:Nat):Int)≤1000000000000)
  (hend:∀ n t k,Lf (n+1) t k (a.length:Int)=some (t,k,(a.length:Int)))
  (hstep:∀ x,x ∈ a→∀ k:Int,0≤k→k+16*((1+wt x:Nat):Int)≤1000000000000→∃ y k',k≤k'∧k'≤k+16*((1+wt x:Nat):Int) ∧
   ∀ (t:List α) (j:Nat),j<9223372036854775807→j<a.length→j<t.length→t[j]?=some x→∀ X,Ev (fun n=>Lf n (setS t (j:Int) y) k' ((j+1:Nat):Int)) X→Ev (fun n=>Lf (n+1) t k (j:Int)) X)
  (hl:a.length≤1048576)
  (hF:∀ n,F n=(Lf n a k 0).bind fun o=>match o with|(x1,i1,_)=>some (i1,x1)):Mk F k (a.length+(a.map wt).sum):=by
 obtain ⟨⟨t,k'⟩,⟨_,_,h3,h4⟩,e⟩:=loopE (τ:=List α × Int) (Lf:=fun n t j=>Lf n t.1 t.2 j) (fin:=fun t=>(t.1,t.2,(a.length:Int)))
  (fun j t=>t.1.length=a.length∧(∀ i,j≤i→t.1[i]?=a[i]?)∧k≤t.2∧t.2≤k+16*((j+((a.take j).map wt).sum:Nat):Int)) (len:=a.length)
  (fun n t=>hend n t.1 t.2)
  (fun j t hj ht=>by
   obtain ⟨h1,h2,h3,h4⟩:=ht
   have hs:=qpp (wt:=wt) hj
   have hs2:=qqQ (a:=a) (wt:=wt) (j:=j+1)
   obtain ⟨y,k',q1,q2,q3⟩:=hstep a[j] (jq hj) t.2 (by omega) (by omega)
   refine ⟨(setS t.1 (j:Int) y,k'),⟨by rw [qiw];exact h1,fun i hi=>?_,by show k≤k';omega,?_⟩,fun X hX=>?_⟩
   ·show (t.1.set _ _)[i]?=_
    rw [List.getElem?_set_ne (by rw [jw];omega)]
    exact h2 i (by omega)
   ·show k'≤k+_
    rw [hs]
    omega
   ·exact q3 t.1 j (by omega) hj (by omega) (by rw [h2 j (jf _),jg hj]) X hX) 0 (jE _) (a,k) ⟨rfl,fun _ _=>rfl,Int.le_refl _,by show k≤k+_;omega⟩
 rw [jB] at h4
 exact ⟨k',t,Ev.congr hF (Ev.bind e .done),h3,h4⟩
theorem qut {α:Type} {pre a:List α} {j:Nat} {y:α} (hp:pre.length=j) (hj:j<a.length):setS (pre++a.drop j) (j:Int) y=(pre++[y])++a.drop (j+1):=by
 show (pre++a.drop j).set j y=_
 rw [List.set_append,if_neg (by omega),hp,Nat.sub_self,jC hj,List.set_cons_zero,Jb]
 rfl
def marked (k:Int) (m:Nat):List Int:=(List.range m).map fun (i:Nat)=>k+(i:Int)
theorem qoU {a:List Int} {k:Int} (h0:0≤k) (h1:k≤1000000000000) (hl:a.length≤1048576):Ev (fun n=>qai n a k) (k+(a.length:Int),marked k a.length):=by
 have hL:Ev (fun n=>qb2 a n a k 0) (marked k a.length,k+(a.length:Int),(a.length:Int)):=by
  have:=loopF (τ:=List Int × Int) (Lf:=fun n t j=>qb2 a n t.1 t.2 j) (S:=fun j=>(marked k j++a.drop j,k+(j:Int))) (len:=a.length) (fin:=(marked k a.length,k+(a.length:Int),(a.length:Int))) (fun n=>by
    simp only [qb2,qh (jf _),cond_false,List.drop_length,jP])
   (fun j hj X hX=>by
    have hp:(marked k j).length=j:=by simp [marked]
    have hlt:j<(marked k j++a.drop j).length:=by rw [jo,hp,List.length_drop];omega
    have hm:marked k (j+1)=marked k j++[k+(j:Int)]:=by unfold marked;rw [jR,jJ];rfl
    simp only [qb2,qf hj,cond_true,qaU hlt,je,qut hp hj,wS j,qao (show -9223372036854775808≤k+(j:Int)+1 by omega) (by omega)]
    rw [←hm]
    rw [show k+(j:Int)+1=k+((j+1:Nat):Int) by omega]
    exact hX)
  simpa [marked] using this
 unfold qai
 exact Ev.bind hL .done
theorem qdi {a:List Int} {k:Int} (h0:0≤k) (h1:k≤1000000000000) (hl:qZ a≤1048576):∃ k' x,Ev (fun n=>qai n a k) (k',x)∧k≤k'∧k'≤k+16*(qZ a:Int) :=
 ⟨_,_,qoU h0 h1 hl,by omega,by unfold qZ;omega⟩
theorem qva {k:Int} {m:Nat} (h0:0≤k) (h1:k≤1000000000000) (hl:m≤1048576):Ev (fun n=>qgN n (marked k m) k) (k+(m:Int)):=by
 have hlen:(marked k m).length=m:=by simp [marked]
 have hL:Ev (fun n=>qb0 (marked k m) n k 0) (.nxt (k+(m:Int),(m:Int))):=by
  have:=loopF (Lf:=qb0 (marked k m)) (S:=fun j=>k+(j:Int)) (len:=m) (fin:=.nxt (k+(m:Int),(m:Int))) (fun n=>by
    simp only [qb0,hlen,qh (jf _),cond_false])
   (fun j hj X hX=>by
    have e:idx (marked k m) (j:Int)=some (k+(j:Int)):=by
     rw [qaU (by rw [hlen];exact hj)];simp [marked]
    simp only [qb0,hlen,qf hj,cond_true,e,je,bne_self_eq_false,cond_false,wS j,qao (show -9223372036854775808≤k+(j:Int)+1 by omega) (by omega)]
    rw [show k+(j:Int)+1=k+((j+1:Nat):Int) by omega]
    exact hX)
  simpa using this
 unfold qgN
 exact Ev.bind hL .done
theorem qsT {a b:ByteArray} (h:a.size+b.size≤1000000):catB a b=some (a++b):=by
 unfold catB
 rw [if_pos]
 show ((a.size+b.size:Nat):Int)≤9223372036854775807
 omega
theorem qpG {x:IntK .u8}:(strOf [x]).size=1:=rfl
theorem qir {k:Int} (hk:k≤1000000000001000):∃ s,Ev (fun n=>qdF n k) s:=by
 have main:∀ m:Nat,∀ i1:Int,∀ z:ByteArray,0≤i1→i1≤9000000000000000000→i1<10 ^ m→z.size+m≤1000→∃ o:Int × ByteArray,o.2.size≤1000∧Ev (fun n=>qfj n i1 z) o:=by
  intro m
  induction m with
  | zero =>
   intro i1 z h0 hb h1 hz
   have:i1=0:=by have:(10:Int) ^ 0=1:=rfl;omega
   subst this
   exact ⟨(0,z),by show z.size≤1000;omega,Ev.succ (Ev.ff (by decide) .done)⟩
  | succ m ih =>
   intro i1 z h0 hb h1 hz
   by_cases hp:i1=0
   ·subst hp
    exact ⟨(0,z),by show z.size≤1000;omega,Ev.succ (Ev.ff (by decide) .done)⟩
   ·have hd:i1.tdiv 10=i1 / 10:=Int.tdiv_eq_ediv_of_nonneg h0
    have h10:(10:Int) ^ (m+1)=10 ^ m*10:=Int.pow_succ _ _
    have hc:catB (strOf ([(⟨IntKind.wrap .u8 (W64 (48+(i1.tmod 10)))⟩:IntK .u8)])) z=some (strOf ([(⟨IntKind.wrap .u8 (W64 (48+(i1.tmod 10)))⟩:IntK .u8)])++z):=qsT (by rw [qpG];omega)
    obtain ⟨o,ho,e⟩:=ih (i1 / 10) (strOf ([(⟨IntKind.wrap .u8 (W64 (48+(i1.tmod 10)))⟩:IntK .u8)])++z) (by omega) (by omega) (by omega) (by rw [ByteArray.size_append,qpG];omega)
    refine ⟨o,ho,Ev.succ ?_⟩
    simp only [qfj,show decide (i1 > 0)=true by simp;omega,cond_true,hc,je,hd,qao (show -9223372036854775808≤i1 / 10 by omega) (by omega)]
    exact e
 unfold qdF
 by_cases h0:k≤0
 ·exact ⟨_,Ev.tt (by simpa using h0) .done⟩
 ·obtain ⟨⟨o1,o2⟩,ho,e⟩:=main 16 k ⟨#[]⟩ (by omega) (by omega) (by have:(10:Int) ^ 16=10000000000000000:=rfl;omega) (by decide)
  refine ⟨(⟨#[109]⟩:ByteArray)++o2,Ev.ff (by simp;omega) (Ev.bind e ?_)⟩
  have ho:o2.size≤1000:=ho
  show Ev (fun n=>(catB ⟨#[109]⟩ o2).bind fun z3=>some z3) _
  rw [qsT (show (⟨#[109]⟩:ByteArray).size+o2.size≤1000000 by have:(⟨#[109]⟩:ByteArray).size=1:=rfl;omega)]
  exact .done
theorem ql2 {a:(List qq)} {k:Int} (h0:0≤k) (h1:k+16*(qcL a:Int)≤1000000000000) (hw:qcL a≤1048576):Mk (fun n=>qgJ n a k) k (qcL a):=by
 refine qgk (a:=a) (wt:=(fun x:qq=>qdy x)) h0 h1 (Lf:=qcT a) (fun n t k=>by simp only [qcT,qh (jf _),cond_false]) (fun x hx k h0 h1=>?_) (by simp only [qcL] at hw;omega) (fun _=>rfl)
 have hs:=qbE (wt:=(fun x:qq=>qdy x)) hx
 have ew:qdy x=qZ x.Bc+qZ x.Bb+qZ x.Au:=rfl
 have hw:a.length+(a.map (fun x:qq=>qdy x)).sum≤1048576:=hw
 simp only [ew] at hs h1 ⊢
 obtain ⟨k1,x1,q1,l1,u1⟩:=qdi (a:=x.Bc) (k:=k) (by omega) (by omega) (by omega)
 obtain ⟨k2,x2,q2,l2,u2⟩:=qdi (a:=x.Bb) (k:=k1) (by omega) (by omega) (by omega)
 obtain ⟨k3,x3,q3,l3,u3⟩:=qdi (a:=x.Au) (k:=k2) (by omega) (by omega) (by omega)
 refine ⟨⟨x1,x2,x3⟩,k3,by omega,by omega,fun t j hb hj ht hx X hX=>?_⟩
 simp only [qcT,qf hj,cond_true,qd1 hb]
 try simp only [qW hx,je]
 refine Ev.bind q1 ?_
 refine Ev.bind q2 ?_
 refine Ev.bind q3 ?_
 exact hX
theorem qqK {a:(List qC)} {k:Int} (h0:0≤k) (h1:k+16*(qgy a:Int)≤1000000000000) (hw:qgy a≤1048576):Mk (fun n=>qjV n a k) k (qgy a):=by
 refine qgk (a:=a) (wt:=(fun x:qC=>qhF x)) h0 h1 (Lf:=qdR a) (fun n t k=>by simp only [qdR,qh (jf _),cond_false]) (fun x hx k h0 h1=>?_) (by simp only [qgy] at hw;omega) (fun _=>rfl)
 have hs:=qbE (wt:=(fun x:qC=>qhF x)) hx
 have ew:qhF x=qcL x.Az+qcL x.Bh:=rfl
 have hw:a.length+(a.map (fun x:qC=>qhF x)).sum≤1048576:=hw
 simp only [ew] at hs h1 ⊢
 have e1:W64 (k+1)=k+1:=qao (by omega) (by omega)
 have e2:W64 (k+1+1)=k+1+1:=qao (by omega) (by omega)
 have e3:W64 (k+1+1+1)=k+1+1+1:=qao (by omega) (by omega)
 have e4:W64 (k+1+1+1+1)=k+1+1+1+1:=qao (by omega) (by omega)
 obtain ⟨k1,x1,q1,l1,u1⟩:=ql2 (a:=x.Az) (k:=k+1+1+1+1) (by omega) (by omega) (by omega)
 obtain ⟨k2,x2,q2,l2,u2⟩:=ql2 (a:=x.Bh) (k:=k1) (by omega) (by omega) (by omega)
 refine ⟨⟨k,k+1,k+1+1,k+1+1+1,x1,x2⟩,k2,by omega,by omega,fun t j hb hj ht hx X hX=>?_⟩
 simp only [qdR,qf hj,cond_true,qd1 hb]
 try simp only [qW hx,je,e1,e2,e3,e4]
 refine Ev.bind q1 ?_
 refine Ev.bind q2 ?_
 exact hX
theorem qq8 {a:(List qU)} {k:Int} (h0:0≤k) (h1:k+16*(qgz a:Int)≤1000000000000) (hw:qgz a≤1048576):Mk (fun n=>qjY n a k) k (qgz a):=by
 refine qgk (a:=a) (wt:=(fun x:qU=>qjq x)) h0 h1 (Lf:=qdO a) (fun n t k=>by simp only [qdO,qh (jf _),cond_false]) (fun x hx k h0 h1=>?_) (by simp only [qgz] at hw;omega) (fun _=>rfl)
 have hs:=qbE (wt:=(fun x:qU=>qjq x)) hx
 have ew:qjq x=x.Ar.size:=rfl
 have hw:a.length+(a.map (fun x:qU=>qjq x)).sum≤1048576:=hw
 simp only [ew] at hs h1 ⊢
 obtain ⟨s1,es1⟩:=qir (k:=k) (by omega)
 have e1:W64 (k+1)=k+1:=qao (by omega) (by omega)
 have e2:W64 (k+1+1)=k+1+1:=qao (by omega) (by omega)
 have e3:W64 (k+1+1+1)=k+1+1+1:=qao (by omega) (by omega)
 have e4:W64 (k+1+1+1+1)=k+1+1+1+1:=qao (by omega) (by omega)
 refine ⟨⟨s1,k+1,k+1+1,((k+1+1+1).tmod 3)==0⟩,k+1+1+1+1,by omega,by omega,fun t j hb hj ht hx X hX=>?_⟩
 simp only [qdO,qf hj,cond_true,qd1 hb]
 try simp only [qW hx,qqJ ht,je,qpz]
 refine Ev.bind es1 ?_
 try simp only [e1,e2,e3,e4]
 exact hX
theorem qqr {a:(List qp)} {k:Int} (h0:0≤k) (h1:k+16*(qfD a:Int)≤1000000000000) (hw:qfD a≤1048576):Mk (fun n=>qjs n a k) k (qfD a):=by
 refine qgk (a:=a) (wt:=(fun x:qp=>qfb x)) h0 h1 (Lf:=qdb a) (fun n t k=>by simp only [qdb,qh (jf _),cond_false]) (fun x hx k h0 h1=>?_) (by simp only [qfD] at hw;omega) (fun _=>rfl)
 have hs:=qbE (wt:=(fun x:qp=>qfb x)) hx
 have ew:qfb x=x.Ar.size+qgz x.Am+qgy x.Ap+qZ x.Ay:=rfl
 have hw:a.length+(a.map (fun x:qp=>qfb x)).sum≤1048576:=hw
 simp only [ew] at hs h1 ⊢
 obtain ⟨s1,es1⟩:=qir (k:=k) (by omega)
 have e1:W64 (k+1)=k+1:=qao (by omega) (by omega)
 have e2:W64 (k+1+1)=k+1+1:=qao (by omega) (by omega)
 obtain ⟨k2,x2,q2,l2,u2⟩:=qq8 (a:=x.Am) (k:=k+1+1) (by omega) (by omega) (by omega)
 obtain ⟨k3,x3,q3,l3,u3⟩:=qqK (a:=x.Ap) (k:=k2) (by omega) (by omega) (by omega)
 obtain ⟨k4,x4,q4,l4,u4⟩:=qdi (a:=x.Ay) (k:=k3) (by omega) (by omega) (by omega)
 have e3:W64 (k4+1)=k4+1:=qao (by omega) (by omega)
 have e4:W64 (k4+1+1)=k4+1+1:=qao (by omega) (by omega)
 refine ⟨⟨s1,k+1,x2,x3,x4,k4,k4+1⟩,k4+1+1,by omega,by omega,fun t j hb hj ht hx X hX=>?_⟩
 simp only [qdb,qf hj,cond_true,qd1 hb]
 try simp only [qW hx,je]
 refine Ev.bind es1 ?_
 try simp only [e1,e2]
 refine Ev.bind q2 ?_
 refine Ev.bind q3 ?_
 refine Ev.bind q4 ?_
 try simp only [e3,e4]
 exact hX
theorem qoP {a:qm} {k:Int} (h0:0≤k) (h1:k+16*(qdN a:Int)≤1000000000000) (hw:qdN a≤1048576):Mk (fun n=>qgj n a k) k (qdN a):=by
 simp only [qdN] at h1 hw ⊢
 obtain ⟨k1,x1,q1,l1,u1⟩:=qqr (a:=a.Ah) (k:=k) (by omega) (by omega) (by omega)
 refine ⟨k1,x1,?_,by omega,by omega⟩
 unfold qgj
 exact Ev.bind q1 (.done)
theorem qnq {a:(List qg)} {k:Int} (h0:0≤k) (h1:k+16*(qbx a:Int)≤1000000000000) (hw:qbx a≤1048576):Mk (fun n=>qgQ n a k) k (qbx a):=by
 refine qgk (a:=a) (wt:=(fun x:qg=>qbk x)) h0 h1 (Lf:=qbS a) (fun n t k=>by simp only [qbS,qh (jf _),cond_false]) (fun x hx k h0 h1=>?_) (by simp only [qbx] at hw;omega) (fun _=>rfl)
 have hs:=qbE (wt:=(fun x:qg=>qbk x)) hx
 have ew:qbk x=x.Ar.size+qZ x.Af:=rfl
 have hw:a.length+(a.map (fun x:qg=>qbk x)).sum≤1048576:=hw
 simp only [ew] at hs h1 ⊢
 obtain ⟨s1,es1⟩:=qir (k:=k) (by omega)
 have e1:W64 (k+1)=k+1:=qao (by omega) (by omega)
 have e2:W64 (k+1+1)=k+1+1:=qao (by omega) (by omega)
 obtain ⟨k2,x2,q2,l2,u2⟩:=qdi (a:=x.Af) (k:=k+1+1) (by omega) (by omega) (by omega)
 refine ⟨⟨s1,k+1,x2⟩,k2,by omega,by omega,fun t j hb hj ht hx X hX=>?_⟩
 simp only [qbS,qf hj,cond_true,qd1 hb]
 try simp only [qW hx,je]
 refine Ev.bind es1 ?_
 try simp only [e1,e2]
 refine Ev.bind q2 ?_
 exact hX
theorem qoO {a:(List ByteArray)} {k:Int} (h0:0≤k) (h1:k+16*(qdJ a:Int)≤1000000000000) (hw:qdJ a≤1048576):Mk (fun n=>qhQ n a k) k (qdJ a):=by
 refine qgk (a:=a) (wt:=(fun x:ByteArray=>x.size)) h0 h1 (Lf:=qcy a) (fun n t k=>by simp only [qcy,qh (jf _),cond_false]) (fun x hx k h0 h1=>?_) (by simp only [qdJ] at hw;omega) (fun _=>rfl)
 obtain ⟨s,es⟩:=qir (k:=k) (by omega)
 have e1:W64 (k+1)=k+1:=qao (by omega) (by omega)
 refine ⟨s,k+1,by omega,by omega,fun t j hb hj ht hx X hX=>?_⟩
 simp only [qcy,qf hj,cond_true,e1,qd1 hb]
 refine Ev.bind es ?_
 try simp only [qW hx,je]
 exact hX
theorem qqq {a:(List qF)} {k:Int} (h0:0≤k) (h1:k+16*(qfr a:Int)≤1000000000000) (hw:qfr a≤1048576):Mk (fun n=>qjb n a k) k (qfr a):=by
 refine qgk (a:=a) (wt:=(fun x:qF=>qgX x)) h0 h1 (Lf:=qc9 a) (fun n t k=>by simp only [qc9,qh (jf _),cond_false]) (fun x hx k h0 h1=>?_) (by simp only [qfr] at hw;omega) (fun _=>rfl)
 have hs:=qbE (wt:=(fun x:qF=>qgX x)) hx
 have ew:qgX x=x.Ar.size:=rfl
 have hw:a.length+(a.map (fun x:qF=>qgX x)).sum≤1048576:=hw
 simp only [ew] at hs h1 ⊢
 obtain ⟨s1,es1⟩:=qir (k:=k) (by omega)
 have e1:W64 (k+1)=k+1:=qao (by omega) (by omega)
 have e2:W64 (k+1+1)=k+1+1:=qao (by omega) (by omega)
 have e3:W64 (k+1+1+1)=k+1+1+1:=qao (by omega) (by omega)
 refine ⟨⟨s1,k+1,k+1+1⟩,k+1+1+1,by omega,by omega,fun t j hb hj ht hx X hX=>?_⟩
 simp only [qc9,qf hj,cond_true,qd1 hb]
 try simp only [qW hx,qqJ ht,je,qpz]
 refine Ev.bind es1 ?_
 try simp only [e1,e2,e3]
 exact hX
theorem qph {a:qe} {k:Int} (h0:0≤k) (h1:k+16*(qd6 a:Int)≤1000000000000) (hw:qd6 a≤1048576):Mk (fun n=>qgI n a k) k (qd6 a):=by
 simp only [qd6] at h1 hw ⊢
 obtain ⟨k1,x1,q1,l1,u1⟩:=qnq (a:=a.Aa) (k:=k) (by omega) (by omega) (by omega)
 obtain ⟨k2,x2,q2,l2,u2⟩:=qoO (a:=a.Af) (k:=k1) (by omega) (by omega) (by omega)
 obtain ⟨k3,x3,q3,l3,u3⟩:=qqq (a:=a.Ac) (k:=k2) (by omega) (by omega) (by omega)
 refine ⟨k3,(x1,x2,x3),?_,by omega,by omega⟩
 unfold qgI
 exact Ev.bind q1 (Ev.bind q2 (Ev.bind q3 (.done)))
theorem qqy {a:(List qy)} {k:Int} (h0:0≤k) (h1:k+16*(qfv a:Int)≤1000000000000) (hw:qfv a≤1048576):Mk (fun n=>qjt n a k) k (qfv a):=by
 refine qgk (a:=a) (wt:=(fun x:qy=>qfc x)) h0 h1 (Lf:=qdc a) (fun n t k=>by simp only [qdc,qh (jf _),cond_false]) (fun x hx k h0 h1=>?_) (by simp only [qfv] at hw;omega) (fun _=>rfl)
 have hs:=qbE (wt:=(fun x:qy=>qfc x)) hx
 have ew:qfc x=qZ x.Ak+qZ x.Bm+qZ x.Bj+qZ x.Be:=rfl
 have hw:a.length+(a.map (fun x:qy=>qfc x)).sum≤1048576:=hw
 simp only [ew] at hs h1 ⊢
 obtain ⟨k1,x1,q1,l1,u1⟩:=qdi (a:=x.Ak) (k:=k) (by omega) (by omega) (by omega)
 obtain ⟨k2,x2,q2,l2,u2⟩:=qdi (a:=x.Bm) (k:=k1) (by omega) (by omega) (by omega)
 obtain ⟨k3,x3,q3,l3,u3⟩:=qdi (a:=x.Bj) (k:=k2) (by omega) (by omega) (by omega)
 obtain ⟨k4,x4,q4,l4,u4⟩:=qdi (a:=x.Be) (k:=k3) (by omega) (by omega) (by omega)
 refine ⟨⟨x1,x2,x3,x4⟩,k4,by omega,by omega,fun t j hb hj ht hx X hX=>?_⟩
 simp only [qdc,qf hj,cond_true,qd1 hb]
 try simp only [qW hx,je]
 refine Ev.bind q1 ?_
 refine Ev.bind q2 ?_
 refine Ev.bind q3 ?_
 refine Ev.bind q4 ?_
 exact hX
theorem qqa {a:qi} {k:Int} (h0:0≤k) (h1:k+16*(qfA a:Int)≤1000000000000) (hw:qfA a≤1048576):Mk (fun n=>qhz n a k) k (qfA a):=by
 simp only [qfA] at h1 hw ⊢
 obtain ⟨k1,x1,q1,l1,u1⟩:=qoP (a:=a.Ai) (k:=k) (by omega) (by omega) (by omega)
 obtain ⟨k2,⟨x2_0,x2_1,x2_2⟩,q2,l2,u2⟩:=qph (a:=a.Ab) (k:=k1) (by omega) (by omega) (by omega)
 obtain ⟨k3,x3,q3,l3,u3⟩:=qqy (a:=a.Aj) (k:=k2) (by omega) (by omega) (by omega)
 refine ⟨k3,(x1,x2_0,x2_1,x2_2,x3),?_,by omega,by omega⟩
 unfold qhz
 exact Ev.bind q1 (Ev.bind q2 (Ev.bind q3 (.done)))
theorem qmG {a:(List qa)} {k:Int} (h0:0≤k) (h1:k+16*(qa8 a:Int)≤1000000000000) (hw:qa8 a≤1048576):Mk (fun n=>qgx n a k) k (qa8 a):=by
 refine qgk (a:=a) (wt:=(fun x:qa=>qaM x)) h0 h1 (Lf:=qbG a) (fun n t k=>by simp only [qbG,qh (jf _),cond_false]) (fun x hx k h0 h1=>?_) (by simp only [qa8] at hw;omega) (fun _=>rfl)
 have hs:=qbE (wt:=(fun x:qa=>qaM x)) hx
 have ew:qaM x=qZ x.Av+qZ x.As+qZ x.To:=rfl
 have hw:a.length+(a.map (fun x:qa=>qaM x)).sum≤1048576:=hw
 simp only [ew] at hs h1 ⊢
 have e1:W64 (k+1)=k+1:=qao (by omega) (by omega)
 have e2:W64 (k+1+1)=k+1+1:=qao (by omega) (by omega)
 obtain ⟨k1,x1,q1,l1,u1⟩:=qdi (a:=x.Av) (k:=k+1+1) (by omega) (by omega) (by omega)
 obtain ⟨k2,x2,q2,l2,u2⟩:=qdi (a:=x.As) (k:=k1) (by omega) (by omega) (by omega)
 obtain ⟨k3,x3,q3,l3,u3⟩:=qdi (a:=x.To) (k:=k2) (by omega) (by omega) (by omega)
 refine ⟨⟨k,k+1,x1,x2,x3⟩,k3,by omega,by omega,fun t j hb hj ht hx X hX=>?_⟩
 simp only [qbG,qf hj,cond_true,qd1 hb]
 try simp only [qW hx,je,e1,e2]
 refine Ev.bind q1 ?_
 refine Ev.bind q2 ?_
 refine Ev.bind q3 ?_
 exact hX
end Go.Fw


namespace Go.Fw
open Go
set_option maxRecDepth 100000
def codeX (b:qi) (es:List qa):Int:=bif blockB b then (bif decide (es.length≤6) then (bif es.all (excB b) then 0 else 5) else 3) else 1
def codeP (b:qi) (es:List qa) (p:Int):Int:=bif codeX b es==0 then (bif inPl b p then codeX b es else 2) else codeX b es
theorem qmd {b:qi} {es:List qa} (h:codeX b es=0):blockB b=true∧es.length≤6∧es.all (excB b)=true:=by
 unfold codeX at h
 cases h1:blockB b
 ·rw [h1] at h;cases h
 ·rw [h1] at h
  cases h2:decide (es.length≤6)
  ·rw [h2] at h;cases h
  ·rw [h2] at h
   cases h3:es.all (excB b)
   ·rw [h3] at h;cases h
   ·exact ⟨rfl,of_decide_eq_true h2,rfl⟩
theorem qoA {b:qi} {es:List qa} {p:Int} (h:codeP b es p=0):codeX b es=0:=by
 unfold codeP at h
 by_cases h0:codeX b es=0
 ·exact h0
 ·rw [show (codeX b es==0)=false by simpa using h0] at h
  exact h
theorem qsq {b:qi} {es:List qa} (hok:qcu b) (hes:okL qaa es):Ev (fun n=>qiV n b es) (codeX b es):=by
 have hlen:=hes.len
 unfold qiV codeX
 refine Ev.chk1 (qnA hok) fun h=>?_
 rw [show decide ((es.length:Int) > 6) = !decide (es.length≤6) from qlL (k:=6)]
 simp only [qbn]
 refine Ev.okP1 fun _=>?_
 have hL:Ev (fun n=>qep b es n 0) (bif es.all (excB b) then .nxt (es.length:Int) else .ret 5):=by
  rw [qhN]
  refine qeL (Ev.succ ?_) (fun j hj X hX=>Ev.succ ?_)
  ·simp only [qep,qh (jf _),cond_false];exact .done
  ·simp only [qep,qf hj,cond_true,qS hj,je,wS j]
   have:=qnS hok (qiv hes hj)
   rw [h,jI] at this
   exact Ev.chk1 this fun _=>hX
 refine Ev.bind hL ?_
 cases es.all (excB b)<;>exact .done
theorem quT {b:qi} {es:List qa} (hok:qcu b) (hes:okL qaa es) :
  ∃ o,Ev (fun n=>qfx n b es) (o,codeX b es)∧(codeX b es=0→∃ ls lo de,o=some ⟨b,places b.Ab,ls,lo,de,[]⟩):=by
 have hlen:=hes.len
 unfold qfx codeX
 cases h:blockB b
 ·exact ⟨none,Ev.bind (qov hok) (Ev.tt (by rw [h];rfl) .done),fun h=>by cases h⟩
 ·have hb:=qov hok
  rw [h] at hb
  obtain ⟨ls,lo,de,ev⟩:=qr9 h
  cases h6:decide (es.length≤6)
  ·exact ⟨none,Ev.bind hb (Ev.ff rfl (Ev.tt (by rw [show decide ((es.length:Int) > 6) = !decide (es.length≤6) from qlL (k:=6),h6];rfl) .done)),fun h=>by cases h⟩
  ·have hc:Ev (fun n=>qV n es (some ⟨b,places b.Ab,ls,lo,de,[]⟩)) (!es.all (excB b)):=by
    unfold qV
    refine Ev.bind (b:=ixL (fun e=>!excB b e) es) (qd5 (fin:=(es.length:Int)) (Lf:=qx es (some ⟨b,places b.Ab,ls,lo,de,[]⟩))
     (pf:=fun n x=>qeA n x (some ⟨b,places b.Ab,ls,lo,de,[]⟩)) (fun x hx=>?_)
     (fun n=>by simp only [qx,qh (jf _),cond_false])
     (fun n j x hx=>by
      have hj:=(List.getElem?_eq_some_iff.1 hx).1
      simp only [qx,qf hj,cond_true,qW hx,je,wS j])
     (fun n=>by unfold qar;congr 1;funext o;cases o<;>rfl)) (Ev.now ?_)
    ·unfold qeA
     exact Ev.neg (qoD h rfl (hes.2 x hx))
    ·rw [qi9,←qmP,Bool.not_not]
   cases h3:es.all (excB b)
   ·rw [h3] at hc
    exact ⟨none,Ev.bind hb (Ev.ff rfl (Ev.ff (by rw [show decide ((es.length:Int) > 6) = !decide (es.length≤6) from qlL (k:=6),h6];rfl) (Ev.bind ev (Ev.bind hc .done)))),fun h=>by cases h⟩
   ·rw [h3] at hc
    exact ⟨_,Ev.bind hb (Ev.ff rfl (Ev.ff (by rw [show decide ((es.length:Int) > 6) = !decide (es.length≤6) from qlL (k:=6),h6];rfl) (Ev.bind ev (Ev.bind hc .done)))),fun _=>⟨ls,lo,de,rfl⟩⟩
theorem qp7 {b:qi} (h:blockB b=true):Ev (fun n=>qbC n b) ((places b.Ab).length:Int):=by
 unfold qbC
 exact Ev.bind (qgP (qu (qM h))) (Ev.now (by rw [jQ]))
theorem qrW {b:qi} {es:List qa} {p:Int} (hok:qcu b) (hes:okL qaa es):Ev (fun n=>qiM n b es p) (codeP b es p):=by
 unfold qiM codeP
 refine Ev.bind (qsq hok hes) ?_
 refine Ev.iff (fun h0=>?_) fun _=>.done
 have h0:codeX b es=0:=by simpa using h0
 have h:=(qmd h0).1
 have hpl:=qX (qu (qM h))
 refine Ev.bind (qp7 h) ?_
 rw [qbV (by omega)]
 simp only [qd8,je,qbn]
 exact Ev.iff (fun _=>.done) fun _=>.done
theorem qrA {b:qi} {V:Tview} {p:Int} (h:blockB b=true) (hP:V.places=places b.Ab):Ev (fun n=>qfY n (some V) p) (inPl b p):=by
 have hpl:=qX (qu (qM h))
 refine Ev.now (x:=some (inPl b p)) rfl |>.congr fun n=>?_
 unfold qfY
 simp only [je,qbd,hP,qdK]
 rw [qbV (by omega)]
 rfl
theorem quI {b:qi} {es:List qa} {p:Int} (hok:qcu b) (hes:okL qaa es) :
  ∃ o,Ev (fun n=>qiP n b es p) (o,codeP b es p)∧(codeP b es p=0→∃ ls lo de,o=some ⟨b,places b.Ab,ls,lo,de,[]⟩):=by
 obtain ⟨o,e,hv⟩:=quT hok hes
 unfold qiP codeP
 by_cases h0:codeX b es=0
 ·obtain ⟨ls,lo,de,rfl⟩:=hv h0
  rw [h0] at e ⊢
  have hi:=qrA (V:=⟨b,places b.Ab,ls,lo,de,[]⟩) (p:=p) (qmd h0).1 rfl
  cases hp:inPl b p
  ·rw [hp] at hi
   exact ⟨none,Ev.bind e (Ev.tt rfl (Ev.bind hi .done)),fun h=>by cases h⟩
  ·rw [hp] at hi
   exact ⟨_,Ev.bind e (Ev.tt rfl (Ev.bind hi .done)),fun _=>⟨ls,lo,de,rfl⟩⟩
 ·have hc:(codeX b es==0)=false:=by simpa using h0
  rw [hc]
  exact ⟨o,Ev.bind e (Ev.ff hc .done),fun h=>absurd h h0⟩
def stepTs (es:List qa) (tag:List Int) (p:Int):List Int:=(List.range es.length).map fun i=>stepT (gt es i) (at0 tag i) p
def startTs (es:List qa) (p:Int):List Int:=es.map fun e=>beginT e p
theorem qkJ {es:List qa} {tag:List Int} {p:Int}:(stepTs es tag p).length=es.length:=by simp [stepTs]
def pre {α:Type} (f:Nat→α) (j:Nat):List α:=(List.range j).map f
theorem qs0 {α:Type} {f:Nat→α} {j:Nat}:(pre f j).length=j:=by simp [pre]
theorem quO {α:Type} {f:Nat→α} {j:Nat}:pre f j++[f j]=pre f (j+1):=by unfold pre;rw [jR,jJ];rfl
theorem qsQ {α:Type} {f:Nat→α} {j:Nat} (h:j≤1048576):appS (pre f j) [f j]=some (pre f (j+1)):=by
 rw [qcg (by rw [qs0,jv];omega),quO]
theorem qvf {α β:Type} [Inhabited α] {xs:List α} {f:α→β}:pre (fun i=>f (gt xs i)) xs.length=xs.map f:=by
 refine Ja (by simp [pre]) fun i h1 h2=>?_
 have hi:i<xs.length:=by simpa [pre] using h1
 simp [pre,qjF hi]
theorem qrl {es:List qa} {tag:List Int} {p:Int} (hes:okL qaa es) (ht:tag.length=es.length):Ev (fun n=>qhg n es tag p) (stepTs es tag p):=by
 have hl:=hes.len
 have hL:Ev (fun n=>qcF es tag p n ([]:List Int) 0) (stepTs es tag p,(es.length:Int)):=by
  refine loopF (Lf:=qcF es tag p) (S:=pre fun i=>stepT (gt es i) (at0 tag i) p) (len:=es.length) (fun n=>?_) (fun j hj X hX=>?_)
  ·simp only [qcF,qh (jf _),cond_false];rfl
  ·have hT:=(qiv hes hj).As.len
   have hap:=qsQ (f:=fun i=>stepT (gt es i) (at0 tag i) p) (show j≤1048576 by omega)
   have hst:stepT (gt es j) (at0 tag j) p=bif decide (at0 tag j ≥ 0)&&(decide (at0 tag j<((gt es j).As.length:Int))&&(at0 (gt es j).As (at0 tag j).toNat==p)) then at0 tag j+1 else at0 tag j:=rfl
   simp only [qcF,qf hj,cond_true,qS hj,qbu (show j<tag.length by omega),je,wS j]
   rw [hst] at hap
   cases h1:decide (at0 tag j ≥ 0)
   ·rw [h1] at hap
    exact Ev.bindN rfl (Ev.ff rfl (Ev.bindN hap hX))
   ·cases h2:decide (at0 tag j<((gt es j).As.length:Int))
    ·rw [h1,h2] at hap
     exact Ev.bindN rfl (Ev.ff rfl (Ev.bindN hap hX))
    ·have h1':=of_decide_eq_true h1
     have h2':=of_decide_eq_true h2
     obtain ⟨k,hk⟩:∃ k:Nat,at0 tag j=(k:Int):=⟨(at0 tag j).toNat,by omega⟩
     rw [h1,h2,hk,jw] at hap
     rw [hk] at h2'
     rw [hk]
     simp only [cond_true,qbu (show k<(gt es j).As.length by omega),je]
     cases h3:(at0 (gt es j).As k==p)
     ·rw [h3] at hap
      exact Ev.ff rfl (Ev.bindN hap hX)
     ·rw [h3] at hap
      rw [qao (show -9223372036854775808≤(k:Int)+1 by omega) (by omega)]
      exact Ev.tt rfl (Ev.bindN hap hX)
 unfold qhg
 exact Ev.bind hL .done
theorem qq1 {es:List qa} {tag:List Int} {p:Int} (hes:okL qaa es) (ht:tag.length=es.length):Ev (fun n=>qiK n es tag p) (stepTs es tag p):=by
 have hl:=hes.len
 have hcl:qcM 0 tag=some tag:=by
  show appS [] tag=some tag
  rw [qcg (by simp;omega)];rfl
 have hL:Ev (fun n=>qdj es tag p n tag 0) (stepTs es tag p,(es.length:Int)):=by
  have:=loopF (Lf:=qdj es tag p) (S:=mixS (fun i=>stepT (gt es i) (at0 tag i) p) tag) (len:=es.length) (fin:=(stepTs es tag p,(es.length:Int))) (fun n=>by
    simp only [qdj,qh (jf _),cond_false]
    rw [←ht,qs7,ht];rfl)
   (fun j hj X hX=>by
    have hjt:j<tag.length:=by omega
    simp only [qdj,qf hj,cond_true,qS hj,qbu hjt,je,wS j,qvq hjt]
    refine Ev.bind (qqB (qiv hes hj).As.len) ?_
    rw [quM hjt]
    exact hX)
  rwa [qtX] at this
 unfold qiK
 exact Ev.bind (f:=fun _=>qcM 0 tag) (Ev.now hcl) (Ev.bind hL .done)
theorem qrx {es:List qa} {p:Int}:(startTs es p).length=es.length:=by simp [startTs]
theorem qtk {es:List qa} {p:Int} (hes:okL qaa es):Ev (fun n=>qh5 n es p) (startTs es p):=by
 have hl:=hes.len
 have hL:Ev (fun n=>qca es p n ([]:List Int) 0) (pre (fun i=>bif fromB (gt es i) p then 0 else -1) es.length,(es.length:Int)):=by
  refine loopF (Lf:=qca es p) (S:=pre fun i=>bif fromB (gt es i) p then 0 else -1) (len:=es.length) (fun n=>?_) (fun j hj X hX=>?_)
  ·simp only [qca,qh (jf _),cond_false]
  ·have hap:=qsQ (f:=fun i=>(bif fromB (gt es i) p then 0 else -1:Int)) (show j≤1048576 by omega)
   simp only [qca,qf hj,cond_true,qS hj,je,wS j]
   refine Ev.bind (b:=!fromB (gt es j) p) ?_ ?_
   ·unfold fromB
    by_cases h0:(gt es j).Av.length=0
    ·exact Ev.ff (by simp [h0]) (Ev.now (by rw [decide_eq_true h0];rfl))
    ·refine Ev.tt (by simp;omega) ?_
     rw [decide_eq_false h0,Bool.false_or]
     exact Ev.bind (qtt (qiv hes hj).Av.len) (Ev.now (by rw [qwf];rfl))
   ·cases h3:fromB (gt es j) p
    ·simp only [h3,cond_false] at hap
     exact Ev.tt rfl (Ev.bindN hap hX)
    ·simp only [h3,cond_true] at hap
     exact Ev.ff rfl (Ev.bindN hap hX)
 unfold qh5
 refine Ev.bind hL (Ev.bind (qrl hes (by rw [qs0])) (Ev.now ?_))
 congr 1
 unfold startTs
 rw [←qvf]
 unfold stepTs
 refine List.map_congr_left fun i hi=>?_
 have hi:=List.mem_range.1 hi
 rw [show at0 (pre (fun i=>(bif fromB (gt es i) p then 0 else -1:Int)) es.length) i=bif fromB (gt es i) p then 0 else -1 by simp [at0,pre,hi]]
 unfold beginT
 cases fromB (gt es i) p
 ·exact qtS
 ·rfl
end Go.Fw


namespace Go.Fw
open Go
set_option maxRecDepth 100000
theorem qpS {n:Nat} {x y:Int}:qfV n x y=some (ordI x y):=by
 unfold qfV qgK ordI
 simp only [bne_self_eq_false,je,cond_false]
 by_cases h1:x<y
 ·simp [h1]
 ·by_cases h2:y<x<;>simp [h1,h2]
theorem qrv {xs ys:List Int} (hx:xs.length≤1000000):Ev (fun n=>qc5 n xs ys) (cmpLk xs ys):=by
 have main:∀ d i,i+d=xs.length→i≤ys.length→∃ o,Ev (fun n=>qaD xs ys n (i:Int)) o ∧
   match o with|.ret r=>r=cmpLk (xs.drop i) (ys.drop i)|.nxt _=>cmpLk (xs.drop i) (ys.drop i)=if xs.length<ys.length then -1 else 0:=by
  intro d
  induction d with
  | zero =>
   intro i hi hy
   obtain rfl:i=xs.length:=by omega
   refine ⟨.nxt (xs.length:Int),Ev.succ ?_,?_⟩
   ·simp only [qaD,qh (jf _),cond_false];exact .done
   ·simp only [List.drop_length]
    have hl:(ys.drop xs.length).length=ys.length-xs.length:=List.length_drop
    cases h:ys.drop xs.length with
    | nil=>rw [h] at hl;simp at hl;rw [if_neg (by omega)];rfl
    | cons a l=>rw [h] at hl;simp at hl;rw [if_pos (by omega)];rfl
  | succ d ih =>
   intro i hi hy
   have hil:i<xs.length:=by omega
   have ex:xs.drop i=xs[i]::xs.drop (i+1):=jC hil
   by_cases hj:i<ys.length
   ·have ey:ys.drop i=ys[i]::ys.drop (i+1):=jC hj
    by_cases h0:ordI xs[i] ys[i]=0
    ·obtain ⟨o,ho,hm⟩:=ih (i+1) (by omega) (by omega)
     refine ⟨o,Ev.succ ?_,?_⟩
     ·simp only [qaD,qf hil,cond_true,qaU hil,je,wS i]
      refine Ev.ff (decide_eq_false (by omega)) (Ev.bindN (qaU hj) (Ev.bind (.now (qpS (n:=0))) (Ev.ff (by rw [h0];rfl) ho)))
     ·rw [ex,ey]
      simp only [cmpLk,h0,if_true]
      exact hm
    ·refine ⟨.ret (ordI xs[i] ys[i]),Ev.succ ?_,?_⟩
     ·simp only [qaD,qf hil,cond_true,qaU hil,je]
      exact Ev.ff (decide_eq_false (by omega)) (Ev.bindN (qaU hj) (Ev.bind (.now (qpS (n:=0))) (Ev.tt (by simpa using h0) .done)))
     ·rw [ex,ey]
      simp only [cmpLk,h0,if_false]
   ·refine ⟨.ret 1,Ev.succ ?_,?_⟩
    ·simp only [qaD,qf hil,cond_true,qaU hil,je]
     exact Ev.tt (decide_eq_true (by omega)) .done
    ·rw [ex,show ys.drop i=[] from List.drop_of_length_le (by omega)]
     rfl
 obtain ⟨o,ho,hm⟩:=main xs.length 0 (by omega) (jE _)
 unfold qc5
 refine Ev.bind ho ?_
 cases o with
 | ret r=>simp only [List.drop_zero] at hm;subst hm;exact .done
 | nxt i =>
  simp only [List.drop_zero] at hm
  rw [hm]
  by_cases hl:xs.length<ys.length
  ·rw [if_pos hl];exact Ev.tt (decide_eq_true (by omega)) .done
  ·rw [if_neg hl];exact Ev.ff (decide_eq_false (by omega)) .done
theorem qup {m:Nat} (h:m≤4000000):shrS .u64 (IntKind.wrap .u64 (W64 (m:Int))) 1=some ((m / 2:Nat):Int):=by
 have e1:IntKind.wrap .u64 (m:Int)=(m:Int):=by
  show ((m:Int) % (2 ^ 64:Int))=m
  exact Int.emod_eq_of_lt (by omega) (by omega)
 rw [qao (by omega) (by omega),e1]
 unfold shrS
 rw [if_pos (by decide)]
 congr 1
 show (m:Int).fdiv 2=_
 rw [Int.fdiv_eq_ediv_of_nonneg _ (by decide)]
 omega
theorem qwm {xs:List (List Int)} {t:List Int} (hs:Srt xs) (hl:xs.length≤1000000) (hx:∀ x,x ∈ xs→x.length≤1000000) :
  Ev (fun n=>qac n xs t) ((rankT xs t:Int),decide ((xs[rankT xs t]?).map (fun x=>cmpLk x t)=some 0)):=by
 obtain ⟨r1,r2⟩:=qsW (t:=t) hs
 have hr:=qrq (xs:=xs) (t:=t)
 generalize hp:rankT xs t=p at *
 have main:∀ d i j,j-i≤d→i≤p→p≤j→j≤xs.length→Ev (fun n=>qr xs t n (i:Int) (j:Int)) ((p:Int),(p:Int)):=by
  intro d
  induction d with
  | zero =>
   intro i j hd hi hj hl
   refine Ev.succ ?_
   simp only [qr,qh (show j≤i by omega),cond_false]
   rw [show i=p by omega,show j=p by omega]
   exact .done
  | succ d ih =>
   intro i j hd hi hj hjl
   refine Ev.succ ?_
   by_cases hij:i<j
   ·have hm:(i+j) / 2<xs.length:=by omega
    simp only [qr,qf hij,cond_true,←Int.natCast_add,qup (show i+j≤4000000 by omega),je,qao (x:=(((i+j) / 2:Nat):Int)) (by omega) (by omega),qaU hm,qd1 (show (i+j) / 2<9223372036854775807 by omega)]
    refine Ev.bind (qrv (hx _ (jq hm))) ?_
    by_cases hc:cmpLk xs[(i+j) / 2] t<0
    ·refine Ev.tt (by simpa using hc) (ih _ _ (by omega) ?_ hj hjl)
     refine Nat.lt_of_not_le fun hg=>?_
     have:=r2 _ _ hg (jg hm)
     omega
    ·refine Ev.ff (by simpa using hc) (ih _ _ (by omega) hi ?_ (by omega))
     refine Nat.le_of_not_lt fun hg=>hc (r1 _ _ hg (jg hm))
   ·simp only [qr,qh (show j≤i by omega),cond_false]
    rw [show i=p by omega,show j=p by omega]
    exact .done
 unfold qac
 refine Ev.bind (main xs.length 0 xs.length (by omega) (by omega) (by omega) (jf _)) ?_
 by_cases hpl:p<xs.length
 ·simp only [qf hpl,cond_true,qaU hpl,je,jg hpl,jT,Option.some.injEq]
  refine Ev.bind (qrv (hx _ (jq hpl))) (Ev.now ?_)
  congr 2
 ·simp only [qh (show xs.length≤p by omega),cond_false,List.getElem?_eq_none (show xs.length≤p by omega),Option.map_none]
  exact .done
theorem qsE {xs:List (List Int)} {t:List Int} {k:Nat} (hk:k≤xs.length) (hl:xs.length≤1000000):insS xs (k:Int) t=some (xs.take k++t::xs.drop k):=by
 unfold insS
 rw [if_pos ⟨by omega,by omega,hl⟩,jw]
theorem qpC {xs:List (List Int)} {t:List Int} (hs:Srt xs) (hl:xs.length≤1000000) (hx:∀ x,x ∈ xs→x.length≤1000000):Ev (fun n=>qg1 n xs t) (insT xs t):=by
 unfold qg1
 refine Ev.bind (qwm hs hl hx) ?_
 rw [qre hs]
 by_cases hc:(xs[rankT xs t]?).map (fun x=>cmpLk x t)=some 0
 ·rw [if_pos hc]
  exact Ev.tt (decide_eq_true hc) .done
 ·rw [if_neg hc]
  exact Ev.ff (decide_eq_false hc) (Ev.now (qsE qrq hl))
theorem qsG {xs ys:List Int} (hx:xs.length≤1000000) (hxy:xs.length=ys.length):Ev (fun n=>qfK n xs ys) (cmpLk xs ys):=by
 have main:∀ d i,i+d=xs.length→∃ o,Ev (fun n=>qbw xs ys n (i:Int)) o ∧
   match o with|.ret r=>r=cmpLk (xs.drop i) (ys.drop i)|.nxt _=>cmpLk (xs.drop i) (ys.drop i)=0:=by
  intro d
  induction d with
  | zero =>
   intro i hi
   obtain rfl:i=xs.length:=by omega
   refine ⟨.nxt (xs.length:Int),Ev.succ ?_,?_⟩
   ·simp only [qbw,qh (jf _),cond_false];exact .done
   ·rw [List.drop_length,show ys.drop xs.length=[] from List.drop_of_length_le (by omega)];rfl
  | succ d ih =>
   intro i hi
   have hil:i<xs.length:=by omega
   have hj:i<ys.length:=by omega
   have ex:xs.drop i=xs[i]::xs.drop (i+1):=jC hil
   have ey:ys.drop i=ys[i]::ys.drop (i+1):=jC hj
   by_cases h1:xs[i]<ys[i]
   ·refine ⟨.ret (-1),Ev.succ ?_,?_⟩
    ·simp only [qbw,qf hil,cond_true,qaU hil,qaU hj,je]
     exact Ev.tt (decide_eq_true h1) .done
    ·rw [ex,ey];simp [cmpLk,ordI,h1]
   ·by_cases h2:ys[i]<xs[i]
    ·refine ⟨.ret 1,Ev.succ ?_,?_⟩
     ·simp only [qbw,qf hil,cond_true,qaU hil,qaU hj,je]
      exact Ev.ff (decide_eq_false h1) (Ev.tt (decide_eq_true h2) .done)
     ·rw [ex,ey];simp [cmpLk,ordI,h1,h2]
    ·obtain ⟨o,ho,hm⟩:=ih (i+1) (by omega)
     refine ⟨o,Ev.succ ?_,?_⟩
     ·simp only [qbw,qf hil,cond_true,qaU hil,qaU hj,je,wS i]
      exact Ev.ff (decide_eq_false h1) (Ev.ff (decide_eq_false h2) ho)
     ·rw [ex,ey]
      simp only [cmpLk,ordI,h1,h2,if_false,if_true]
      exact hm
 obtain ⟨o,ho,hm⟩:=main xs.length 0 (by omega)
 unfold qfK
 refine Ev.bind ho ?_
 cases o with
 | ret r=>simp only [List.drop_zero] at hm;subst hm;exact .done
 | nxt i=>simp only [List.drop_zero] at hm;rw [hm];exact .done
theorem qwi {xs:List (List Int)} {t:List Int} {m:Nat} (hs:Srt xs) (hl:xs.length≤1000000) (hm:m≤1000000) (hx:∀ x,x ∈ xs→x.length=m) (ht:t.length=m):Ev (fun n=>qjL n xs t) (insT xs t):=by
 have hL1:∀ d i,i+d=xs.length→(∀ x,x ∈ xs.take i→x ≠ t)→∃ o,Ev (fun n=>qdZ xs t n (i:Int)) o∧match o with|.ret r=>r=xs∧t ∈ xs|.nxt _=>t ∉ xs:=by
  intro d
  induction d with
  | zero =>
   intro i hi hn
   obtain rfl:i=xs.length:=by omega
   refine ⟨.nxt (xs.length:Int),Ev.succ ?_,?_⟩
   ·simp only [qdZ,qh (jf _),cond_false];exact .done
   ·rw [jB] at hn
    exact fun hm=>hn t hm rfl
  | succ d ih =>
   intro i hi hn
   have hil:i<xs.length:=by omega
   have hc:=qsG (xs:=xs[i]) (ys:=t) (by rw [hx _ (jq hil)];exact hm) (by rw [hx _ (jq hil),ht])
   by_cases h0:cmpLk xs[i] t=0
   ·refine ⟨.ret xs,Ev.succ ?_,rfl,(qod _ _ h0) ▸ jq hil⟩
    simp only [qdZ,qf hil,cond_true,qaU hil,je]
    exact Ev.bind hc (Ev.tt (by rw [h0];rfl) .done)
   ·obtain ⟨o,ho,hq⟩:=ih (i+1) (by omega) fun x hx'=>by
     rw [jr hil] at hx'
     rcases List.mem_append.1 hx' with hx'|hx'
     ·exact hn x hx'
     ·rw [List.mem_singleton.1 hx']
      intro e
      rw [e,qmt] at h0
      exact h0 rfl
    refine ⟨o,Ev.succ ?_,hq⟩
    simp only [qdZ,qf hil,cond_true,qaU hil,je,wS i]
    exact Ev.bind hc (Ev.ff (by simpa using h0) ho)
 obtain ⟨o,ho,hq⟩:=hL1 xs.length 0 (by omega) (by simp)
 unfold qjL
 refine Ev.bind ho ?_
 cases o with
 | ret r =>
  obtain ⟨rfl,hmem⟩:=hq
  rw [qvW hs hmem]
  exact .done
 | nxt i =>
  have hL2:∀ a,a≤xs.length→(∀ j x,a≤j→xs[j]?=some x→0<cmpLk x t)→∃ k,k≤xs.length∧Ev (fun n=>qd4 xs t n (a:Int)) (k:Int)∧(∀ j x,k≤j→xs[j]?=some x→0<cmpLk x t)∧(∀ j x,j<k→xs[j]?=some x→cmpLk x t<0):=by
   intro a
   induction a with
   | zero =>
    intro _ hg
    refine ⟨0,jE _,Ev.succ ?_,hg,fun j x hj=>by omega⟩
    simp only [qd4]
    exact Ev.ff (by simp) .done
   | succ a ih =>
    intro ha hg
    have hal:a<xs.length:=by omega
    have hc:=qsG (xs:=t) (ys:=xs[a]) (by omega) (by rw [hx _ (jq hal),ht])
    have hW:W64 (((a+1:Nat):Int)-1)=(a:Int):=by rw [qao (by omega) (by omega)];omega
    have hne:cmpLk xs[a] t ≠ 0:=fun e=>hq ((qod _ _ e) ▸ jq hal)
    have han:=qhU xs[a] t
    by_cases h0:cmpLk t xs[a]<0
    ·obtain ⟨k,hk,he,g1,g2⟩:=ih (by omega) fun j x hj hx'=>by
      rcases Nat.eq_or_lt_of_le hj with e|e
      ·subst e
       rw [jg hal] at hx'
       obtain rfl:=Option.some.inj hx'
       omega
      ·exact hg j x e hx'
     refine ⟨k,hk,Ev.succ ?_,g1,g2⟩
     simp only [qd4,hW,qaU hal,je]
     exact Ev.tt (decide_eq_true (by omega)) (Ev.bind hc (Ev.tt (decide_eq_true h0) he))
    ·refine ⟨a+1,ha,Ev.succ ?_,hg,fun j x hj hx'=>?_⟩
     ·simp only [qd4,hW,qaU hal,je]
      exact Ev.tt (decide_eq_true (by omega)) (Ev.bind hc (Ev.ff (decide_eq_false h0) .done))
     ·rcases Nat.eq_or_lt_of_le (Nat.le_of_lt_succ hj) with e|e
      ·subst e
       rw [jg hal] at hx'
       obtain rfl:=Option.some.inj hx'
       omega
      ·have hjl:j<xs.length:=by omega
       rw [jg hjl] at hx'
       obtain rfl:=Option.some.inj hx'
       exact qkm _ _ _ (List.pairwise_iff_getElem.1 hs j a hjl hal e) (by omega)
  obtain ⟨k,hk,he,g1,g2⟩:=hL2 xs.length (jf _) fun j x hj hx'=>by
   have:=(List.getElem?_eq_some_iff.1 hx').1;omega
  rw [qwg hs hq g2 g1]
  exact Ev.bind he (Ev.now (qsE hk hl))
end Go.Fw


namespace Go.Fw
open Go
set_option maxRecDepth 100000
theorem qiQ {b:qi} (h:blockB b=true):Ev (fun n=>qbC n b) ((places b.Ab).length:Int):=by
 unfold qbC
 exact Ev.bind (qgP (qu (qM h))) (Ev.now (by rw [jQ]))
theorem qqi {d:qe} {k:Int} {n:Nat}:qmq (sinksL d k n) n:=by
 intro y hy
 unfold sinksL at hy
 obtain ⟨i,hi,rfl⟩:=List.mem_map.1 hy
 exact ⟨i,List.mem_range.1 (List.mem_filter.1 hi).1,rfl⟩
theorem qg3 {b:qi} (h:blockB b=true) {j:Nat} (hj:j<(places b.Ab).length):qmq (succL b j) (places b.Ab).length:=by
 have hd:=qM h
 unfold succL
 cases (gt (places b.Ab) j).drives
 ·cases h0:decide ((gt (places b.Ab) j).instance_<0)
  ·cases dataB (cellAt b (gt (places b.Ab) j).instance_) (gt (places b.Ab) j).pin
   ·intro y hy;cases hy
   ·intro y hy
    rcases qfq hj with ⟨i,k,hi,hk,ej,e⟩|⟨i,hi,_,e⟩
    ·obtain ⟨⟨c0,c1⟩,hn,hcb⟩:=qhX hd hi
     rw [e] at hy
     have ec:cellAt b (place1 b.Ab i k).instance_=gt b.Ai.Ah (gt b.Ab.Aa i).Ba.toNat:=by
      unfold cellAt place1;rw [jw]
     rw [ec,show (place1 b.Ab i k).pin=(k:Int) from rfl] at hy
     have hy:y=(j:Int)-(k:Int)+(((gt b.Ai.Ah (gt b.Ab.Aa i).Ba.toNat).Am.length:Int)-1):=by simpa using hy
     obtain ⟨hp,_⟩:=qke (k:=(gt b.Ab.Aa i).Af.length-1) hi (by omega)
     exact ⟨off b.Ab i+((gt b.Ab.Aa i).Af.length-1),hp,by omega⟩
    ·rw [e] at h0
     exact absurd h0 (by show ¬ decide ((-1:Int)<0)=false;decide)
  ·intro y hy;cases hy
 ·intro y hy
  exact qqi y ((List.mem_filter.1 hy).1)
abbrev npl (b:qi):Nat:=(places b.Ab).length
theorem inCsmall {b:qi} (h:blockB b=true) {R:List Nat} {k:Nat}:inC (succL b) (npl b) R k≤78*78:=by
 have hl:npl b≤78:=qX (qu (qM h))
 have:∀ m,((List.range m).map fun u=>if u ∈ R then 0 else (succL b u).count (k:Int)).sum≤m*78:=by
  intro m
  induction m with
  | zero=>simp
  | succ m ih =>
   rw [jR,jJ,List.sum_append]
   simp only [jV,List.map_nil,List.sum_cons,List.sum_nil,jX]
   have h1:(succL b m).count (k:Int)≤78:=jS List.count_le_length (qgZ h)
   split<;>omega
 have:=this (npl b)
 unfold inC
 have h3:npl b*78≤78*78:=jt _ hl
 omega
def cnt0 (b:qi) (j:Nat) (k:Nat):Nat:=((List.range j).map fun u=>(succL b u).count (k:Int)).sum
theorem qsP {b:qi} (h:blockB b=true) {j k:Nat} (hj:j≤npl b):cnt0 b j k≤78*78:=by
 have hl:npl b≤78:=qX (qu (qM h))
 have:∀ m,((List.range m).map fun u=>(succL b u).count (k:Int)).sum≤m*78:=by
  intro m
  induction m with
  | zero=>simp
  | succ m ih =>
   rw [qmU]
   have h1:(succL b m).count (k:Int)≤78:=jS List.count_le_length (qgZ h)
   omega
 have:=this j
 unfold cnt0
 have h3:j*78≤78*78:=jt _ (by omega)
 omega
theorem qqt {f:Nat→Int} {m k:Nat} {xs:List Int} {j:Nat} {d v:Int} (hx:xs[j]?=some (k:Int)) (hv:v=f k+d*((xs.take j).count (k:Int):Int)+d) :
  setS (vecI (fun i=>f i+d*((xs.take j).count (i:Int):Int)) m) (k:Int) v=vecI (fun i=>f i+d*((xs.take (j+1)).count (i:Int):Int)) m:=by
 rw [qoz]
 refine qhT (fun i _=>?_)
 rw [qr3 hx]
 by_cases h:i=k
 ·subst h
  rw [if_pos rfl,if_pos rfl,hv,Int.natCast_add,Int.mul_add]
  show _=f i+(d*_+d*1)
  omega
 ·rw [if_neg h,if_neg h,jX]
theorem quu {xs:List Int} {m:Nat} {f:Nat→Int} (hx:qmq xs m) (hl:xs.length≤1000) (hf:∀ k,k<m→0≤f k∧f k≤10000) :
  Ev (fun n=>qcS xs n (vecI f m) 0) (vecI (fun k=>f k+1*(xs.count (k:Int):Int)) m,(xs.length:Int)):=by
 have:=loopF (Lf:=qcS xs) (S:=fun j=>vecI (fun i=>f i+1*((xs.take j).count (i:Int):Int)) m) (len:=xs.length) (fin:=(vecI (fun k=>f k+1*(xs.count (k:Int):Int)) m,(xs.length:Int)))
  (fun n=>by simp only [qcS,qh (jf _),cond_false,jB])
  (fun j hj X hX=>by
   obtain ⟨k,hk,e1,e2⟩:=hx.at hj
   have hc:(xs.take j).count (k:Int)≤xs.length:=jS List.count_le_length (by rw [Jc];omega)
   have h1:=hf k hk
   simp only [qcS,qf hj,cond_true,e1,je,qjw hk,wS j]
   rw [qao (by omega) (by omega),qqt e2 rfl]
   exact hX)
 simpa using this
theorem qun {xs:List Int} {m:Nat} {f:Nat→Int} (hx:qmq xs m) (hl:xs.length≤1000) (hf:∀ k,k<m→0≤f k∧f k≤10000) :
  Ev (fun n=>qa9 xs n (vecI f m) 0) (vecI (fun k=>f k+1*(xs.count (k:Int):Int)) m,(xs.length:Int)):=by
 have:=loopF (Lf:=qa9 xs) (S:=fun j=>vecI (fun i=>f i+1*((xs.take j).count (i:Int):Int)) m) (len:=xs.length) (fin:=(vecI (fun k=>f k+1*(xs.count (k:Int):Int)) m,(xs.length:Int)))
  (fun n=>by simp only [qa9,qh (jf _),cond_false,jB])
  (fun j hj X hX=>by
   obtain ⟨k,hk,e1,e2⟩:=hx.at hj
   have hc:(xs.take j).count (k:Int)≤xs.length:=jS List.count_le_length (by rw [Jc];omega)
   have h1:=hf k hk
   simp only [qa9,qf hj,cond_true,e1,je,qjw hk,wS j]
   rw [qao (by omega) (by omega),qqt e2 rfl]
   exact hX)
 simpa using this
theorem quf {xs:List Int} {m:Nat} {f:Nat→Int} (hx:qmq xs m) (hl:xs.length≤1000) (hf:∀ k,k<m→-1≤f k∧f k≤10000) :
  Ev (fun n=>qbb xs n (vecI f m) 0) (vecI (fun k=>f k+(-1)*(xs.count (k:Int):Int)) m,(xs.length:Int)):=by
 have:=loopF (Lf:=qbb xs) (S:=fun j=>vecI (fun i=>f i+(-1)*((xs.take j).count (i:Int):Int)) m) (len:=xs.length) (fin:=(vecI (fun k=>f k+(-1)*(xs.count (k:Int):Int)) m,(xs.length:Int)))
  (fun n=>by simp only [qbb,qh (jf _),cond_false,jB])
  (fun j hj X hX=>by
   obtain ⟨k,hk,e1,e2⟩:=hx.at hj
   have hc:(xs.take j).count (k:Int)≤xs.length:=jS List.count_le_length (by rw [Jc];omega)
   have h1:=hf k hk
   simp only [qbb,qf hj,cond_true,e1,je,qjw hk,wS j]
   rw [qao (by omega) (by omega),qqt e2 (by omega)]
   exact hX)
 simpa using this
theorem qpN {b:qi} {j:Nat}:(fun k=>(cnt0 b j k:Int)+1*((succL b j).count (k:Int):Int))=fun k=>(cnt0 b (j+1) k:Int):=by
 funext k
 unfold cnt0
 rw [qmU]
 omega
theorem qto {b:qi} (hok:qcu b) (h:blockB b=true):Ev (fun n=>qcV b (npl b:Int) n (vecI (fun k=>(cnt0 b 0 k:Int)) (npl b)) 0) (vecI (fun k=>(inC (succL b) (npl b) [] k:Int)) (npl b),(npl b:Int)):=by
 have hl:npl b≤78:=qX (qu (qM h))
 refine loopF (Lf:=qcV b (npl b:Int)) (S:=fun j=>vecI (fun k=>(cnt0 b j k:Int)) (npl b)) (len:=npl b) (fun n=>?_) (fun j hj X hX=>?_)
 ·simp only [qcV,qh (jf _),cond_false]
  congr 2
 ·simp only [qcV,qf hj,cond_true,wS j]
  refine Ev.bind (qk7 hok h hj) (Ev.bind (quu (qg3 h hj) (by have:=qgZ h (j:=j);omega) (fun k hk=>by have:=qsP h (k:=k) (Nat.le_of_lt hj);omega)) ?_)
  rw [qpN]
  exact hX
theorem qtV {b:qi} {V:Tview} (h:blockB b=true) (hV:V.Bi=b) (hP:V.places=places b.Ab):Ev (fun n=>qbc (some V) V n (vecI (fun k=>(cnt0 b 0 k:Int)) (npl b)) 0) (vecI (fun k=>(inC (succL b) (npl b) [] k:Int)) (npl b),(npl b:Int)):=by
 have hl:npl b≤78:=qX (qu (qM h))
 refine loopF (Lf:=qbc (some V) V) (S:=fun j=>vecI (fun k=>(cnt0 b j k:Int)) (npl b)) (len:=npl b) (fun n=>?_) (fun j hj X hX=>?_)
 ·simp only [qbc,hP,qh (jf _),cond_false]
  congr 2
 ·simp only [qbc,hP,qf hj,cond_true,wS j]
  refine Ev.bind (qjX h hV hP hj) (Ev.bind (qun (qg3 h hj) (by have:=qgZ h (j:=j);omega) (fun k hk=>by have:=qsP h (k:=k) (Nat.le_of_lt hj);omega)) ?_)
  rw [qpN]
  exact hX
def zerosL (b:qi) (j:Nat):List Nat:=(List.range j).filter fun k=>decide (inC (succL b) (npl b) [] k=0)
theorem qrj {b:qi} {j:Nat}:zerosL b (j+1)=zerosL b j++(if inC (succL b) (npl b) [] j=0 then [j] else []):=by
 unfold zerosL
 rw [jR,List.filter_append]
 by_cases h:inC (succL b) (npl b) [] j=0
 ·rw [List.filter_cons_of_pos (by simpa using h),List.filter_nil,if_pos h]
 ·rw [List.filter_cons_of_neg (by simpa using h),List.filter_nil,if_neg h]
theorem qtg {b:qi} (h:blockB b=true):Ev (fun n=>qcb (npl b:Int) (vecI (fun k=>(inC (succL b) (npl b) [] k:Int)) (npl b)) n ([]:List Int) 0) (ints (zerosL b (npl b)),(npl b:Int)):=by
 have hl:npl b≤78:=qX (qu (qM h))
 refine loopF (Lf:=qcb (npl b:Int) (vecI (fun k=>(inC (succL b) (npl b) [] k:Int)) (npl b))) (S:=fun j=>ints (zerosL b j)) (len:=npl b) (fun n=>?_) (fun j hj X hX=>?_)
 ·simp only [qcb,qh (jf _),cond_false]
 ·simp only [qcb,qf hj,cond_true,qjw hj,je,wS j]
  rw [qrj] at hX
  by_cases hc:inC (succL b) (npl b) [] j=0
  ·rw [if_pos hc,qj4] at hX
   refine Ev.tt (by rw [hc];rfl) ?_
   have:(zerosL b j).length≤j:=by have:=List.length_filter_le (fun k=>decide (inC (succL b) (npl b) [] k=0)) (List.range j);simpa [zerosL] using this
   rw [qcg (by rw [qd0,jv];omega)]
   exact hX
  ·rw [if_neg hc,jP] at hX
   exact Ev.ff (by rw [Bool.eq_false_iff,Ne,beq_iff_eq];omega) hX
structure Mid (b:qi) (k i:Nat) (c:Nat) (out:List Nat):Prop where
 topo:Topo (succL b) (npl b) out
 klt:k<out.length
 cur:out[k]?=some c
 zero:∀ j,j<npl b→(j ∈ out↔inC (succL b) (npl b) (out.take (k+1)) j+((succL b c).drop i).count (j:Int)=0)
def midC (b:qi) (k i c:Nat) (out:List Nat) (j:Nat):Int:=((inC (succL b) (npl b) (out.take (k+1)) j+((succL b c).drop i).count (j:Int):Nat):Int)
theorem qsd {xs:List Int} {j k i:Nat} (hj:xs[j]?=some (k:Int)):(xs.drop j).count (i:Int)=(xs.drop (j+1)).count (i:Int)+(if i=k then 1 else 0):=by
 obtain ⟨h1,h2⟩:=List.getElem?_eq_some_iff.1 hj
 rw [jC h1,h2,List.count_cons]
 congr 1
 by_cases h:i=k
 ·subst h;simp
 ·have:¬ (k:Int)=(i:Int):=by omega
  simp [h,this]
theorem qtc {b:qi} (h:blockB b=true) {k c:Nat} {out:List Nat} (h0:Mid b k 0 c out):∃ out',Mid b k (succL b c).length c out' ∧
  Ev (fun n=>qbI (succL b c) n (ints out) (vecI (midC b k 0 c out) (npl b)) 0) (ints out',vecI (midC b k (succL b c).length c out') (npl b),((succL b c).length:Int)):=by
 have hl:npl b≤78:=qX (qu (qM h))
 have hcm:c<npl b:=h0.topo.lt c (jz h0.cur)
 have hS:=qgZ h (j:=c)
 obtain ⟨t,⟨out',hm,rfl⟩,he⟩:=loopE (Lf:=fun n (t:List Int × List Int) i=>qbI (succL b c) n t.1 t.2 i) (fin:=fun t=>(t.1,t.2,((succL b c).length:Int))) (len:=(succL b c).length)
  (fun i t=>∃ out,Mid b k i c out∧t=(ints out,vecI (midC b k i c out) (npl b)))
  (fun n t=>by simp only [qbI,qh (jf _),cond_false])
  (fun i t hi ⟨out,hm,ht⟩=>by
   subst ht
   obtain ⟨to,hto,e1,e2⟩:=(qg3 h hcm).at hi
   have hdc:=fun j=>qsd (i:=j) e2
   have hb1:=inCsmall h (R:=out.take (k+1)) (k:=to)
   have hb2:((succL b c).drop i).count (to:Int)≤78:=jS List.count_le_length (by rw [List.length_drop];omega)
   have hpos:midC b k i c out to=((inC (succL b) (npl b) (out.take (k+1)) to+((succL b c).drop (i+1)).count (to:Int):Nat):Int)+1:=by
    unfold midC;rw [hdc,if_pos rfl];omega
   have hset:setS (vecI (midC b k i c out) (npl b)) (to:Int) (midC b k i c out to-1)=vecI (midC b k (i+1) c out) (npl b):=by
    rw [qoz]
    refine qhT (fun j _=>?_)
    by_cases hj:j=to
    ·subst hj
     rw [if_pos rfl,hpos]
     show _=((inC (succL b) (npl b) (out.take (k+1)) j+((succL b c).drop (i+1)).count (j:Int):Nat):Int)
     omega
    ·rw [if_neg hj]
     unfold midC
     simp only [hdc,if_neg hj,jX]
   have hnot:to ∉ out:=fun hin=>by
    have:=(hm.zero to hto).1 hin
    rw [hdc,if_pos rfl] at this
    omega
   have hw:W64 (midC b k i c out to-1)=midC b k i c out to-1:=qao (by omega) (by unfold midC;omega)
   by_cases hz:inC (succL b) (npl b) (out.take (k+1)) to+((succL b c).drop (i+1)).count (to:Int)=0
   ·have htk:(out++[to]).take (k+1)=out.take (k+1):=List.take_append_of_le_length hm.klt
    have hm':Mid b k (i+1) c (out++[to]):=by
     refine ⟨.snoc hm.topo hto hnot (fun u hu he=>?_),by have:=hm.klt;rw [jo];omega,by rw [jp hm.klt];exact hm.cur,fun j hj=>?_⟩
     ·exact List.mem_of_mem_take (qkk.1 (show inC (succL b) (npl b) (out.take (k+1)) to=0 by omega) u hu he)
     ·rw [htk]
      by_cases hjt:j=to
      ·subst hjt;exact ⟨fun _=>hz,fun _=>by simp⟩
      ·have:=hm.zero j hj
       simp only [hdc,if_neg hjt,jX] at this
       rw [←this]
       simp [hjt]
    refine ⟨(ints (out++[to]),vecI (midC b k (i+1) c (out++[to])) (npl b)),⟨_,hm',rfl⟩,fun X hX=>?_⟩
    simp only [qbI,qf hi,cond_true,e1,je,qjw hto,wS i,hw,hset]
    refine Ev.tt (by rw [beq_iff_eq];unfold midC;omega) ?_
    have hlen:=hm.topo.len
    rw [qcg (by rw [qd0,jv];omega)]
    have:midC b k (i+1) c out=midC b k (i+1) c (out++[to]):=by funext j;unfold midC;rw [htk]
    rw [this]
    rw [qj4] at hX
    exact hX
   ·have hm':Mid b k (i+1) c out:=by
     refine ⟨hm.topo,hm.klt,hm.cur,fun j hj=>?_⟩
     by_cases hjt:j=to
     ·subst hjt;exact ⟨fun hin=>absurd hin hnot,fun h0=>absurd h0 hz⟩
     ·have:=hm.zero j hj
      simp only [hdc,if_neg hjt,jX] at this
      exact this
    refine ⟨(ints out,vecI (midC b k (i+1) c out) (npl b)),⟨_,hm',rfl⟩,fun X hX=>?_⟩
    simp only [qbI,qf hi,cond_true,e1,je,qjw hto,wS i,hw,hset]
    exact Ev.ff (by rw [Bool.eq_false_iff,Ne,beq_iff_eq];unfold midC;omega) hX)
  0 (jE _) _ ⟨out,h0,rfl⟩
 exact ⟨out',hm,he⟩
theorem qtJ {b:qi} (hok:qcu b) (h:blockB b=true):∀ d k out,Topo (succL b) (npl b) out→k≤out.length→npl b-k=d→(∀ j,j<npl b→(j ∈ out↔inC (succL b) (npl b) (out.take k) j=0)) →
  ∃ out' v i,Topo (succL b) (npl b) out'∧Stuck (succL b) (npl b) out'∧Ev (fun n=>qcW b n (ints out) (vecI (fun j=>(inC (succL b) (npl b) (out.take k) j:Int)) (npl b)) (k:Int)) (ints out',v,i):=by
 have hl:npl b≤78:=qX (qu (qM h))
 intro d
 induction d with
 | zero =>
  intro k out ht hk hd hz
  have h1:=ht.len
  obtain rfl:k=out.length:=by omega
  refine ⟨out,vecI (fun j=>(inC (succL b) (npl b) (out.take out.length) j:Int)) (npl b),(out.length:Int),ht,ht.stuck_full (ht.full (by omega)),Ev.succ ?_⟩
  simp only [qcW,qd0,qh (jf _),cond_false]
  exact .done
 | succ d ih =>
  intro k out ht hk hd hz
  by_cases hlt:k<out.length
  ·have hc:=jg hlt
   have hcm:out[k]<npl b:=ht.lt _ (jq hlt)
   have hnk:out[k] ∉ out.take k:=by
    have hsp:out=out.take k++out[k]::out.drop (k+1):=by rw [←jC hlt,List.take_append_drop]
    have ht':=ht
    rw [hsp] at ht'
    have:=ht'.at.2.1
    simpa using this
   have hin:∀ j,inC (succL b) (npl b) (out.take k) j=inC (succL b) (npl b) (out.take (k+1)) j+(succL b out[k]).count (j:Int):=fun j=>by
    rw [qqN hcm hnk,jr hlt]
   obtain ⟨out',hm,he⟩:=qtc h (k:=k) (c:=out[k]) (out:=out) ⟨ht,hlt,hc,fun j hj=>by rw [hz j hj,hin,List.drop_zero]⟩
   have hz':∀ j,j<npl b→(j ∈ out'↔inC (succL b) (npl b) (out'.take (k+1)) j=0):=fun j hj=>by
    have:=hm.zero j hj
    rwa [jZ (jf _),List.count_nil,jX] at this
   obtain ⟨o2,v,i,h1,h2,h3⟩:=ih (k+1) out' hm.topo hm.klt (by omega) hz'
   refine ⟨o2,v,i,h1,h2,Ev.succ ?_⟩
   have hlen:=ht.len
   simp only [qcW,qd0,qf hlt,cond_true,qoj hlt,je,wS k]
   refine Ev.bind (qk7 hok h hcm) ?_
   have e0:vecI (fun j=>(inC (succL b) (npl b) (out.take k) j:Int)) (npl b)=vecI (midC b k 0 out[k] out) (npl b):=qhT (fun j _=>by rw [hin];unfold midC;rw [List.drop_zero])
   rw [e0]
   refine Ev.bind he ?_
   have e1:vecI (midC b k (succL b out[k]).length out[k] out') (npl b)=vecI (fun j=>(inC (succL b) (npl b) (out'.take (k+1)) j:Int)) (npl b):=qhT (fun j _=>by unfold midC;rw [jZ (jf _),List.count_nil,jX])
   rw [e1]
   exact h3
  ·obtain rfl:k=out.length:=by omega
   refine ⟨out,vecI (fun j=>(inC (succL b) (npl b) (out.take out.length) j:Int)) (npl b),(out.length:Int),ht,fun j hj hn=>?_,Ev.succ ?_⟩
   ·have:=(not_congr (hz j hj)).1 hn
    rw [jB,qkk] at this
    by_cases hex:∃ u,u<npl b∧(j:Int) ∈ succL b u∧u ∉ out
    ·exact hex
    ·exact absurd (fun u hu he=>Classical.byContradiction fun hc=>hex ⟨u,hu,he,hc⟩) this
   ·simp only [qcW,qd0,qh (jf _),cond_false]
    exact .done
theorem qtO {b:qi} (hok:qcu b) (h:blockB b=true):∃ out,Topo (succL b) (npl b) out∧Stuck (succL b) (npl b) out∧Ev (fun n=>qh3 n b) (ints out,decide (out.length=npl b)):=by
 have hl:npl b≤78:=qX (qu (qM h))
 obtain ⟨out,v,i,h1,h2,h3⟩:=qtJ hok h (npl b) 0 (zerosL b (npl b)) (Topo.zeros (jf _)) (jE _) rfl (fun j hj=>by
  unfold zerosL
  rw [List.take_zero,List.mem_filter]
  simp [hj])
 refine ⟨out,h1,h2,?_⟩
 unfold qh3
 refine Ev.bind (qiQ h) (Ev.bindN (qpW (show npl b≤2147483648 by omega)) ?_)
 refine Ev.bind ((qto hok h).cast rfl) (Ev.bind (qtg h) (Ev.bind h3 ?_))
 refine Ev.now ?_
 show some (ints out,((ints out).length:Int)==(npl b:Int))=_
 rw [qd0,show ((out.length:Int)==(npl b:Int))=decide (out.length=npl b) by rw [jj];simp;omega]
theorem qmZ {xs:List Int} (hl:xs.length≤1000000):Ev (fun n=>qgh n xs 0) (ixL (fun y=>(0:Int)==y) xs) :=
 qd5 (fin:=(xs.length:Int)) (Lf:=qcA xs 0) (pf:=fun _ y=>some ((0:Int)==y)) (fun _ _=>.done)
  (fun n=>by simp only [qcA,qh (jf _),cond_false])
  (fun n j x hx=>by
   have hj:=(List.getElem?_eq_some_iff.1 hx).1
   simp only [qcA,qf hj,cond_true,qW hx,je,wS j])
  (fun n=>by unfold qgh;congr 1;funext o;cases o<;>rfl)
def openC (b:qi) (R:List Nat) (k:Nat):Int:=if k ∈ R then -1 else (inC (succL b) (npl b) R k:Int)
theorem qt5 {α:Type} {p:α→Bool} {xs:List α} (h:¬ ixL p xs<0):∃ j,∃ hj:j<xs.length,ixL p xs=(j:Int)∧p xs[j]=true:=by
 unfold ixL at h ⊢
 cases hf:xs.findIdx? p with
 | none=>rw [hf] at h;exact absurd (by decide:(-1:Int)<0) h
 | some j =>
  obtain ⟨hj,hp,_⟩:=List.findIdx?_eq_some_iff_getElem.1 hf
  exact ⟨j,hj,rfl,hp⟩
theorem qu2 {α:Type} {p:α→Bool} {xs:List α} (h:ixL p xs<0):∀ x,x ∈ xs→p x=false:=by
 unfold ixL at h
 cases hf:xs.findIdx? p with
 | none=>intro x hx;have:=List.findIdx?_eq_none_iff.1 hf x hx;simpa using this
 | some j=>rw [hf] at h;exact absurd h (by show ¬ (j:Int)<0;omega)
theorem qtz {b:qi} {V:Tview} (h:blockB b=true) (hV:V.Bi=b) (hP:V.places=places b.Ab) :
  EvQ (fun n=>qdw n (some V)) fun r=>∃ R,Topo (succL b) (npl b) R∧((r=(ints R,true)∧R.length=npl b)∨(r=([],false)∧R.length<npl b∧Stuck (succL b) (npl b) R)):=by
 have hl:npl b≤78:=qX (qu (qM h))
 have hL:EvQ (fun n=>qas (some V) (vecI (fun _=>0) (npl b)) n ([]:List Int) (vecI (fun k=>(inC (succL b) (npl b) [] k:Int)) (npl b)) 0)
   fun r=>∃ R,Topo (succL b) (npl b) R∧((∃ v i,r=.nxt (ints R,v,i)∧R.length=npl b)∨(r=.ret ([],false)∧R.length<npl b∧Stuck (succL b) (npl b) R)):=by
  refine loopR (Lf:=fun n (t:List Int × List Int) i=>qas (some V) (vecI (fun _=>0) (npl b)) n t.1 t.2 i) (len:=npl b)
   (fun j t=>∃ R,Topo (succL b) (npl b) R∧R.length=j∧t=(ints R,vecI (openC b R) (npl b))) _ (fun t ⟨R,h1,h2,ht⟩=>?_) (fun j t hj ⟨R,h1,h2,ht⟩=>?_) 0 (jE _) (([]:List Int),vecI (fun k=>(inC (succL b) (npl b) [] k:Int)) (npl b)) ⟨[],.nil,rfl,?_⟩
  ·subst ht
   simp only [qas,qjd,qh (jf _),cond_false]
   exact EvQ.done ⟨R,h1,.inl ⟨_,_,rfl,h2⟩⟩
  ·subst ht
   by_cases hneg:ixL (fun y=>(0:Int)==y) (vecI (openC b R) (npl b))<0
   ·refine .inl (EvQ.succ ?_)
    simp only [qas,qjd,qf hj,cond_true]
    refine EvQ.bindE (qmZ (by rw [qjd];omega)) (EvQ.tt (by simpa using hneg) (EvQ.done ⟨R,h1,.inr ⟨rfl,by omega,fun k hk hn=>?_⟩⟩))
    have:=qu2 hneg (openC b R k) (by unfold vecI;exact List.mem_map.2 ⟨k,List.mem_range.2 hk,rfl⟩)
    unfold openC at this
    rw [if_neg hn] at this
    have hne:inC (succL b) (npl b) R k ≠ 0:=by
     intro e;rw [e] at this;exact absurd this (by decide)
    rw [Ne,qkk] at hne
    by_cases hex:∃ u,u<npl b∧(k:Int) ∈ succL b u∧u ∉ R
    ·exact hex
    ·exact absurd (fun u hu he=>Classical.byContradiction fun hc=>hex ⟨u,hu,he,hc⟩) hne
   ·obtain ⟨k,hk,e,hp⟩:=qt5 hneg
    rw [qjd] at hk
    have hp:openC b R k=0:=by
     have:(0:Int)==openC b R k:=by simpa [vecI] using hp
     exact (beq_iff_eq.1 this).symm
    have hn:k ∉ R:=fun hin=>by unfold openC at hp;rw [if_pos hin] at hp;exact absurd hp (by decide)
    have hz:inC (succL b) (npl b) R k=0:=by unfold openC at hp;rw [if_neg hn] at hp;omega
    have ht:Topo (succL b) (npl b) (R++[k]):=.snoc h1 hk hn (qkk.1 hz)
    refine .inr ⟨(ints (R++[k]),vecI (openC b (R++[k])) (npl b)),⟨_,ht,by rw [jo,jv,h2],rfl⟩,fun X hX=>?_⟩
    have hX:Ev (fun n=>qas (some V) (vecI (fun _=>0) (npl b)) n (ints (R++[k])) (vecI (openC b (R++[k])) (npl b)) ((j+1:Nat):Int)) X:=hX
    simp only [qas,qjd,qf hj,cond_true,wS j]
    refine Ev.bind (qmZ (by rw [qjd];omega)) (Ev.ff (by simpa using hneg) ?_)
    rw [e]
    have happ:appS (ints R) [(k:Int)]=some (ints R++[(k:Int)]):=qcg (by rw [qd0,jv];omega)
    simp only [qjw hk,je,happ]
    refine Ev.bind (qjX h hV hP hk) ?_
    rw [qoz]
    refine Ev.bind (quf (qg3 h hk) (by have:=qgZ h (j:=k);omega) (fun i hi=>?_)) ?_
    ·by_cases hik:i=k
     ·rw [if_pos hik];omega
     ·rw [if_neg hik]
      unfold openC
      have:=inCsmall h (R:=R) (k:=i)
      split<;>omega
    ·have e2:vecI (fun i=>(if i=k then -1 else openC b R i)+(-1)*((succL b k).count (i:Int):Int)) (npl b)=vecI (openC b (R++[k])) (npl b):=by
      refine qhT (fun i _=>?_)
      unfold openC
      by_cases hik:i=k
      ·subst hik
       have h0:(succL b i).count (i:Int)=0:=List.count_eq_zero.2 (fun he=>hn (qkk.1 hz i hk he))
       rw [if_pos rfl,if_pos (by simp),h0];rfl
      ·rw [if_neg hik]
       by_cases hiR:i ∈ R
       ·have h0:=h1.no_back hk hn hiR
        rw [if_pos hiR,if_pos (jO _ hiR),h0];rfl
       ·rw [if_neg hiR,if_neg (by simp [hiR,hik]),qqN hk hn]
        omega
     rw [e2,←qj4]
     exact hX
  ·exact congrArg (fun v=>(([]:List Int),v)) (qhT (fun k _=>by unfold openC;simp))
 unfold qdw
 refine EvQ.bindN rfl ?_
 rw [hP]
 refine EvQ.bindN (qpW (show npl b≤2147483648 by omega)) (EvQ.bindE ((qtV h hV hP).cast rfl) (EvQ.bind hL fun r hr=>?_))
 obtain ⟨R,h1,hr⟩:=hr
 rcases hr with ⟨v,i,rfl,h2⟩|⟨rfl,h2,h3⟩
 ·exact EvQ.done ⟨R,h1,.inl ⟨rfl,h2⟩⟩
 ·exact EvQ.done ⟨R,h1,.inr ⟨rfl,h2,h3⟩⟩
theorem qtE {b:qi} {R out:List Nat} (h1:Topo (succL b) (npl b) R) (h2:Topo (succL b) (npl b) out) (hs:Stuck (succL b) (npl b) out) :
  (R.length=npl b→out.length=npl b)∧(R.length<npl b→Stuck (succL b) (npl b) R→out.length<npl b):=by
 refine ⟨fun h=>?_,fun h hR=>?_⟩
 ·have:=qmx h1.nodup (h1.sub hs)
  have:=h2.len
  omega
 ·have:=qmx h2.nodup (h2.sub hR)
  omega
end Go.Fw


namespace Go.Fw
open Go
set_option maxRecDepth 100000
def startB (b:qi) (p:Tplace):Bool:=bif decide (p.instance_<0) then p.drives || clkB b p else clkB b p
def startN (b:qi) (j:Nat):List Nat:=selN (fun i=>startB b (gt (places b.Ab) i)) j
theorem qsh {b:qi} (hok:qcu b) (h:blockB b=true):Ev (fun n=>qhd n b) (ints (startN b (npl b))):=by
 have hl:npl b≤78:=qX (qu (qM h))
 have hL:Ev (fun n=>qbM b n ([]:List Int) 0) (ints (startN b (npl b)),(npl b:Int)):=by
  refine qtr (Lf:=qbM b) (q:=fun i=>startB b (gt (places b.Ab) i)) (len:=npl b) (by omega) (Ev.succ ?_) (fun j hj t ht X h1 h2=>?_)
  ·simp only [qbM]
   exact Ev.bind (qiQ h) (Ev.ff (qh (jf _)) .done)
  ·simp only [qbM,wS j,ht,je]
   refine Ev.bind (qiQ h) (Ev.tt (qf hj) (Ev.bind (qmQ hok h hj) ?_))
   refine Ev.bind (b:=startB b (gt (places b.Ab) j)) ?_ ?_
   ·unfold startB
    refine Ev.iff (fun h0=>?_) (fun _=>Ev.last (qlh hok h hj))
    rcases qfq hj with ⟨i,k,hi,hk,ej,e⟩|⟨i,hi,_,e⟩
    ·rw [e] at h0
     exact absurd h0 (by show ¬ decide ((i:Int)<0)=true;simp)
    ·have hc:=qlh hok h hj
     rw [e] at hc ⊢
     rw [show (toSp (place2 b.Ab i)).pin=(i:Int) from rfl,qS hi]
     simp only [je]
     rw [show (place2 b.Ab i).drives=((gt b.Ab.Ac i).Bl==1) from rfl]
     cases ((gt b.Ab.Ac i).Bl==1)
     ·exact Ev.last hc
     ·exact .done
   ·cases hq:startB b (gt (places b.Ab) j)
    ·exact h2 hq
    ·exact h1 hq
 unfold qhd
 exact Ev.bind hL .done
theorem qse {b:qi} {V:Tview} {j:Nat} (h:blockB b=true) (hV:V.Bi=b) (hj:j<npl b):Ev (fun n=>qeI n (some V) (gt (places b.Ab) j)) (startB b (gt (places b.Ab) j)):=by
 refine ⟨0,fun n _=>?_⟩
 show qeI n (some V) _=some _
 unfold qeI startB
 rw [ql6 (V:=V) h hV hj]
 cases decide ((gt (places b.Ab) j).instance_<0)<;>cases (gt (places b.Ab) j).drives<;>rfl
theorem qpY {b:qi} {out:List Nat} {i:Nat} (h:Topo (succL b) (npl b) out) (hi:i<out.length):out[i]<npl b∧out[i] ∉ out.take i∧(∀ u,u<npl b→(out[i]:Int) ∈ succL b u→u ∈ out.take i)∧(succL b out[i]).count (out[i]:Int)=0∧Topo (succL b) (npl b) (out.take i):=by
 have hsp:out=out.take i++out[i]::out.drop (i+1):=by rw [←jC hi,List.take_append_drop]
 have ht:=h
 rw [hsp] at ht
 obtain ⟨h1,h2,h3⟩:=ht.at
 exact ⟨h1,h2,h3,List.count_eq_zero.2 (fun he=>h2 (h3 _ h1 he)),ht.pre⟩
end Go.Fw


namespace Go.Fw
open Go
open Go.RowKit (Below)
section
variable {P:Program} {T:Tab} {n:Nat} {Q:Exit→Act→World→Prop} {k:List It} {e:Env} {w0 w w':World} {L:List Ch}
variable {β:Type} [GoT β] {Sr Se S1 S2:Nat→Prop} {X:List (List β)} {rs:List (Raw (List β))} {p:Option Addr} {ln c:Nat} {iv:Int} {y:List β}
def hdr (p:Option Addr) (ln c:Nat):Raw (List β):=⟨[.slice p ln c]⟩
theorem qiE {S:Nat→Prop} {p1:Option Addr} {l1 k1:Nat}:GoT.R w S (hdr p1 l1 k1:Raw (List β)) [.slice p1 l1 k1]:=⟨rfl,rfl,fun v hv=>by rw [List.mem_singleton.1 hv];rfl⟩
theorem SH.matAt (i j:Nat) (h:SH w0 w L) (hi:L[i]?=some (Ch.own Sr rs [.slice p ln c])) (hj:L[j]?=some (Ch.els Se X rs)) (hy:idx X iv=some y) :
  ∃ b o q p1 k1,p=some ⟨b,o,none⟩∧q=o+iv.toNat*GoT.k (Raw (List β))∧(0≤iv∧iv<(ln:Int))∧idx rs iv=some (hdr p1 y.length k1)∧CellsAt w b q [.slice p1 y.length k1]∧SlR w (Fw.old w) y p1 k1:=by
 obtain ⟨h0,hlt,hx⟩:=qav hy
 have hlen:=h.elsLen j hj
 have hil:iv.toNat<rs.length:=by have:=(List.getElem?_eq_some_iff.1 hx).1;omega
 have hr:rs[iv.toNat]?=some rs[iv.toNat]:=jg hil
 obtain ⟨p1,k1,e1,s1⟩:=h.elsR j hj hx hr
 have hidx:idx rs iv=some (hdr p1 y.length k1):=by
  unfold idx
  rw [if_pos h0,hr]
  unfold hdr
  rw [←e1]
 obtain ⟨hs,hl⟩:=h.sl i hi
 obtain ⟨b,o,q,cs,hp,hq,_,hr2,hc⟩:=hs.at hidx
 obtain ⟨rfl,_,_⟩:=hr2
 exact ⟨b,o,q,p1,k1,hp,hq,⟨h0,by omega⟩,hidx,hc,s1⟩
theorem SH.matTake {p1:Option Addr} {k1:Nat} (h:SH w0 w (Ch.own Sr rs [.slice p ln c]::Ch.els Se X rs::L)) (hy:idx X iv=some y) (hr:idx rs iv=some (hdr p1 y.length k1)) :
  ∃ S1 S2,SH w0 w (Ch.own S1 y [.slice p1 y.length k1]::Ch.elsB S2 iv.toNat X rs::Ch.own Sr rs [.slice p ln c]::L):=by
 replace h:=h.pickT 2 [1,0] rfl
 exact h.elsTake (qav hy).2.2 (qav hr).2.2
theorem SH.matPut {y2:List β} {p2:Option Addr} {k2:Nat} (h:SH w0 w (Ch.own S1 y2 [.slice p2 y2.length k2]::Ch.elsB S2 iv.toNat X rs::Ch.own Sr (rs.set iv.toNat (hdr p2 y2.length k2)) [.slice p ln c]::L)) :
  ∃ S3,SH w0 w (Ch.own Sr (rs.set iv.toNat (hdr p2 y2.length k2)) [.slice p ln c]::Ch.els S3 (setS X iv y2) (rs.set iv.toNat (hdr p2 y2.length k2))::L):=by
 replace h:=h.elsPutN
 exact ⟨_,h.pickT 2 [1,0] rfl⟩
theorem rAB {id:Nat} {ops:List Oper} (st is:List Nat) {m:Nat} {L':List Ch} (h:SH w0 w L) (hh:(pickN L is,ops.length,P.follows .mixedOrders)=(some L',m,true))
  (hk:∀ w',Below w.heap.size w w'→SH w0 w' L→RunA P n Q k ops.toArray st (fun w'=>SH w0 w' L') m (bits m 0) e w'):Run P n Q (.code (.region id ops.toArray true)::k) e w:=by
 simp only [Prod.mk.injEq] at hh
 exact qv0 st _ hh.2.2 m (by simpa using hh.2.1) _ qpB fun w' hb=>hk w' hb (h.ext hb)
theorem SlR.later {α:Type} [GoT α] {xs:List α} {p1:Option Addr} {c1:Nat} (h:SlR w (Fw.old w) xs p1 c1) (hb:Below w.heap.size w w'):SlR w' (Fw.old w') xs p1 c1 :=
 (h.loc fun b hS=>hb.block b hS).mono fun b hS=>jy hS hb.size
end
end Go.Fw


namespace Go.Fw
open Go Go.Proofs
open Go.RowKit (Below)
set_option maxRecDepth 100000
set_option maxHeartbeats 6400000
variable {n:Nat} {w:World} {cs1 cs2 cs3:List Value}
def qbh (list:List qa) (at_ next:Int) (y:List (List Int)):Nat→List (List (List Int))→Int→Option (List (List (List Int)) × Int)
 | 0,_,_=>none
 | n+1,X,s =>
  bif decide (s<(y.length:Int)) then
   (idx y s).bind fun t =>
   (qiK n list t next).bind fun t2 =>
   (idx X next).bind fun z =>
   (qg1 n z t2).bind fun z2 =>
   bif decide (at_.toNat=next.toNat) then none else
   qbh list at_ next y n (setS X next z2) (W64 (s+1))
  else some (X,s)
def qbg (list:List qa) (at_:Int) (succ:List Int):Nat→List (List (List Int))→Int→Option (List (List (List Int)) × Int)
 | 0,_,_=>none
 | n+1,X,j =>
  bif decide (j<(succ.length:Int)) then
   (idx succ j).bind fun next =>
   (idx X at_).bind fun y =>
   (qbh list at_ next y n X 0).bind fun o=>match o with
   | (X2,_)=>qbg list at_ succ n X2 (W64 (j+1))
  else some (X,j)
def qaE (v:Option Tview) (V:Tview) (list:List qa) (order:List Int):Nat→List (List (List Int))→Int→Option (Flow (List (List (List Int)) × Int) (List (List (List Int)) × Int))
 | 0,_,_=>none
 | n+1,X,i =>
  bif decide (i<(order.length:Int)) then
   (idx order i).bind fun at_ =>
   (idx V.places at_).bind fun pl =>
   (qeI n v pl).bind fun b =>
   (bif b then (qhS n list [at_]).bind fun t=>(idx X at_).bind fun y=>(qg1 n y t).bind fun y2=>some (setS X at_ y2) else some X).bind fun X1 =>
   (idx X1 at_).bind fun y =>
   bif decide ((y.length:Int) > 64) then some (.ret ([],3)) else
   (qbA n v at_).bind fun succ =>
   (qbg list at_ succ n X1 0).bind fun o=>match o with
   | (X2,_)=>qaE v V list order n X2 (W64 (i+1))
  else some (.nxt (X,i))
def qff (n:Nat) (v:Option Tview) (list:List qa):Option (List (List (List Int)) × Int) :=
 (qdw n v).bind fun o=>match o with
 | (order,ok) =>
  bif (!ok) then some ([],7) else
  v.bind fun V =>
  (mkS (V.places.length:Int) ([]:List (List Int))).bind fun X =>
  (qaE v V list order n X 0).bind fun o=>match o with
  | .ret r=>some r
  | .nxt (X2,_)=>some (X2,0)
theorem qqI {α:Type} {xs:List α} {iv:Int} {k:Nat} {v:α} (h:¬ iv.toNat=k):idx (xs.set k v) iv=idx xs iv:=by
 unfold idx
 rw [List.getElem?_set_ne (fun e=>h e.symm)]
theorem qlY {v:Option Tview} {list:List qa} (ha1:GoT.R w (old w) v cs1) (ha2:GoT.R w (old w) list cs2) {r:List (List (List Int)) × Int} (hF:qff n v list=some r):RetV Tryz.prog 43 [GoT.v (Option Tview) cs1,GoT.v (List qa) cs2] w r:=by
 obtain ⟨pv,rfl,sv⟩:=qfe ha1
 obtain ⟨pl,kl,rfl,sl⟩:=ha2
 refine zV 94 Tryz.func43 rfl fun h=>?_
 refine X0 8 rfl ?_
 obtain ⟨⟨order,ok⟩,ho,hF⟩:=qd hF
 refine qee (order,ok) h (cB 100 rfl) (qkM (h.old sv) ho) rfl rfl rfl rfl fun w1 S1 us hv hr=>?_
 obtain ⟨S2,S3,po,ko,us2,rfl,hv2,hr2⟩:=hv.consL hr
 obtain ⟨rfl,h⟩:=hv2.lastB hr2
 refine X0 12 rfl (qj rfl hF ?_ ?_)<;>intro hF
 ·refine X0 5 rfl ?_
  obtain rfl:=qb hF
  exact qaA qc (ρ:=(List (List (List Int)) × Int)) [GoT.v (List (List (List Int))) [.slice none 0 0],GoT.v Int [.int .i64 7]] h ⟨rfl,rfl,trivial⟩ (PV.done h (qbH h qhO (qaN (qB (S:=fun _=>False) rfl)) (by rfl)))
 refine X0 4 rfl ?_
 obtain ⟨V,hV,hF⟩:=qd hF
 obtain ⟨b1,o_1,cs4,rfl,-,hr1,hc1⟩:=PtR.get sv hV
 obtain ⟨p2,k1,p3,k2,p4,k3,p5,k4,p6,k5,p7,k6,p8,k7,p9,k8,p10,k9,p11,k10,rfl,s2,s3,s4,s5,s6,s7,s8,s9,s10,s11⟩:=qhV hr1
 refine X0 2 rfl ?_
 refine zc 5 (hc1.below h.below) rfl (zp1 rfl ?_)
 obtain ⟨X0_,hx1,hF⟩:=qd hF
 obtain ⟨g1,g2,hx1⟩:=qbT hx1
 refine qcY qc (List (List Int)) h rfl rfl rfl rfl rfl rfl rfl rfl rfl g1 g2 hx1 rfl fun w2 S4 p12 h=>?_
 obtain ⟨Sr,Se,rs,hrs,h⟩:=h.splitL
 obtain ⟨o1,hF,hK1⟩:=qd hF
 refine X0 9 rfl ?_
 refine qk (rL (fun m e w'=>∃ (X:List (List (List Int))) (i:Int) (rs:List (Raw (List (List Int)))) (Se:Nat→Prop),qaE v V list order m X i=some o1∧e=[(0,.pointer (some ⟨b1,o_1,none⟩)),(1,.slice pl list.length kl),(8,.slice p12 X0_.length X0_.length),(28,.slice po order.length ko),(29,.int .i64 order.length),(30,.int .i64 i)]∧SH w w' [Ch.own Sr rs [.slice p12 X0_.length X0_.length],Ch.els Se X rs,Ch.own S2 order [.slice po order.length ko]]) n ⟨_,_,_,_,hF,rfl,h⟩ rfl ?_)
 rintro m1 e1 w3 ⟨X,i,rs,Se,hF,rfl,h⟩
 rcases m1 with _|m1
 ·cases hF
 refine X0 5 rfl (qj rfl hF ?_ ?_)<;>intro hF
 ·refine X0 5 rfl ?_
  obtain ⟨at_,hy1,hF,he1,b2,_,q1,cs5,hp1,hq1,rfl,hc2⟩:=(h.sl 2 rfl).1.ix hF
  refine zx hp1 hq1 ⟨he1.1,qw he1.2.1 (h.sl 2 rfl).2⟩ rfl (zc 0 hc2 rfl ?_)
  refine X0 9 rfl ?_
  refine zc 5 (hc1.below h.below) rfl ?_
  refine X0 1 rfl ?_
  obtain ⟨pc,hy2,hF,he2,b3,_,q2,cs6,hp2,hq2,hr2,hc3⟩:=s7.ix hF
  obtain rfl:=qce hr2
  refine zxe hp2 hq2 he2 rfl (zc 0 (hc3.below h.below) rfl ?_)
  refine zcB h hF (qkX (h.old sv) (h.old (qgV pc))) rfl fun bs w4 h hF=>?_
  refine X0 1 rfl ?_
  obtain ⟨G,hG,X1,hF,hK2⟩:=bindE hF
  refine qdh (fun e w'=>∃ (X1:List (List (List Int))) (rs1:List (Raw (List (List Int)))) (Se1:Nat→Prop),G X1=some o1∧e=[(0,.pointer (some ⟨b1,o_1,none⟩)),(1,.slice pl list.length kl),(8,.slice p12 X0_.length X0_.length),(10,.int .i64 at_),(28,.slice po order.length ko),(29,.int .i64 order.length),(30,.int .i64 i)]∧SH w w' [Ch.own Sr rs1 [.slice p12 X0_.length X0_.length],Ch.els Se1 X1 rs1,Ch.own S2 order [.slice po order.length ko]]) ?_ ?_
  ·refine qj rfl hF ?_ ?_<;>intro hF
   ·obtain ⟨t,ht,hF⟩:=qd hF
    obtain ⟨y,hy,hF⟩:=qd hF
    obtain ⟨y2,hy2,hF⟩:=qd hF
    obtain rfl:=qb hF
    obtain ⟨bb,oo,q3,p13,k13,hp3,hq3,hlt3,hidx,hcl,hs⟩:=h.matAt 0 1 rfl rfl hy
    refine rA [12] [0] h rfl fun w5 h=>M0 207 [0,1,2,3,6,7] (h.pick [0] rfl) rfl ?_
    refine Aw 4 223 (fun w' _=>qnL (x:=.tmp 45) (i:=.tmp 46) (t:=88) qc hp3 hq3 hlt3 rfl rfl rfl rfl rfl rfl) (h.pick [0] rfl) rfl ?_
    refine Aw 5 255 (fun w' hw=>qjg (x:=.tmp 47) (t:=47) (j:=0) qc (qcz hw 0 rfl hidx hp3 hq3 (qiE (S:=fun _=>False) (w:=w'))) rfl rfl rfl) (h.pick [0] rfl) rfl ?_
    refine Ao 8 511 rfl (qN qc [.tmp 50] _ ([at_]:List Int) h rfl rfl rfl rfl rfl rfl rfl rfl rfl ⟨rfl,trivial⟩ rfl fun w6 p14 S5 h=>?_)
    refine Ag (h.pick [1] rfl) (Ao 9 1023 rfl ?_)
    refine qee t h (cB 33 rfl) (qo8 ⟨_,_,rfl,(h.oldS sl)⟩ (h.own 0 rfl) ht) rfl rfl rfl rfl fun w7 S6 us hv hr=>?_
    obtain ⟨p15,k15,rfl,h⟩:=hv.lastL hr
    replace h:=h.pick [2,3,0,4] rfl
    obtain ⟨S7,S8,h⟩:=h.matTake hy hidx
    replace h:=h.pick [3,0,1,2,4] rfl
    refine Ag (h.pick [3] rfl) (Ao 10 2047 rfl ?_)
    refine qoa (cB 102 rfl) (ql8 h hy2) rfl rfl rfl rfl fun w8 S9 p16 k16 h=>?_
    refine Ag (h.pick [2] rfl) ?_
    refine Aw 11 4095 (fun w' _=>qnL (x:=.tmp 43) (i:=.tmp 44) (t:=88) qc hp3 hq3 hlt3 rfl rfl rfl rfl rfl rfl) (h.pick [2] rfl) rfl ?_
    refine Ao 12 8191 rfl ?_
    refine qaS qc 2 0 (hdr p16 y2.length k16) h rfl hidx hp3 hq3 qiE (qcz h 2 rfl hidx hp3 hq3 (qiE (S:=fun _=>False) (w:=w8))) rfl rfl rfl qiE rfl rfl rfl fun w9 h=>?_
    obtain ⟨S10,h⟩:=SH.matPut h
    refine qhB (fun hs=>absurd (hs 12 (by decide)) (by decide)) (Ad ?_)
    exact rG ⟨_,_,_,hK2,rfl,h⟩ rfl
   refine qhW ?_
   obtain rfl:=qb hF
   exact rG ⟨_,_,_,hK2,rfl,h⟩ rfl
  rintro _ w5 ⟨X1,rs1,Se1,hF,rfl,h⟩
  subst hG
  refine X0 5 rfl ?_
  obtain ⟨y,hy,hF⟩:=qd hF
  obtain ⟨bb,oo,q3,p13,k13,hp3,hq3,hlt3,hidx,hcl,hs⟩:=h.matAt 0 1 rfl rfl hy
  refine zx hp3 hq3 hlt3 rfl (zc 0 hcl rfl ?_)
  refine X0 3 rfl (qj rfl hF ?_ ?_)<;>intro hF
  ·refine X0 5 rfl ?_
   obtain rfl:=qb hF;replace hF:=hK1
   obtain rfl:=qb hF
   exact qaA qc (ρ:=(List (List (List Int)) × Int)) [GoT.v (List (List (List Int))) [.slice none 0 0],GoT.v Int [.int .i64 3]] h ⟨rfl,rfl,trivial⟩ (PV.done h (qbH h qhO (qaN (qB (S:=fun _=>False) rfl)) (by rfl)))
  refine X0 5 rfl (zcL h hF (qe0 (h.old sv)) rfl fun succ w6 S5 p14 k14 h hF=>?_)
  replace h:=h.pick [1,2,0,3] rfl
  obtain ⟨o2,hF,hK2⟩:=qd hF
  refine X0 3 rfl ?_
  refine qk (rL (fun m e w'=>∃ (X:List (List (List Int))) (j:Int) (rs:List (Raw (List (List Int)))) (Se:Nat→Prop),qbg list at_ succ m X j=some o2∧e=[(0,.pointer (some ⟨b1,o_1,none⟩)),(1,.slice pl list.length kl),(8,.slice p12 X0_.length X0_.length),(10,.int .i64 at_),(28,.slice po order.length ko),(29,.int .i64 order.length),(30,.int .i64 i),(63,.slice p14 succ.length k14),(64,.int .i64 succ.length),(65,.int .i64 j)]∧SH w w' [Ch.own Sr rs [.slice p12 X0_.length X0_.length],Ch.els Se X rs,Ch.own S5 succ [.slice p14 succ.length k14],Ch.own S2 order [.slice po order.length ko]]) m1 ⟨_,_,_,_,hF,rfl,h⟩ rfl ?_)
  rintro m2 e2 w7 ⟨X2,j,rs2,Se2,hF,rfl,h⟩
  rcases m2 with _|m2
  ·cases hF
  refine X0 5 rfl (qj rfl hF ?_ ?_)<;>intro hF
  ·refine X0 5 rfl ?_
   obtain ⟨next,hy5,hF,he5,b5,_,q5,cs7,hp5,hq5,rfl,hc5⟩:=(h.sl 2 rfl).1.ix hF
   refine zx hp5 hq5 ⟨he5.1,qw he5.2.1 (h.sl 2 rfl).2⟩ rfl (zc 0 hc5 rfl ?_)
   refine X0 6 rfl ?_
   obtain ⟨yr,hyr,hF⟩:=qd hF
   obtain ⟨b6,o6,q6,pr,kr,hp6,hq6,hlt6,hidr,hc6,hs6⟩:=h.matAt 0 1 rfl rfl hyr
   refine zx hp6 hq6 hlt6 rfl (zc 0 hc6 rfl ?_)
   obtain ⟨o3,hF,hK3⟩:=qd hF
   refine X0 3 rfl ?_
   refine qk (rL (fun m e w'=>∃ (X:List (List (List Int))) (s:Int) (rs:List (Raw (List (List Int)))) (Se:Nat→Prop),qbh list at_ next yr m X s=some o3∧idx X at_=some yr∧idx rs at_=some (hdr pr yr.length kr)∧e=[(0,.pointer (some ⟨b1,o_1,none⟩)),(1,.slice pl list.length kl),(8,.slice p12 X0_.length X0_.length),(10,.int .i64 at_),(12,.int .i64 next),(28,.slice po order.length ko),(29,.int .i64 order.length),(30,.int .i64 i),(63,.slice p14 succ.length k14),(64,.int .i64 succ.length),(65,.int .i64 j),(72,.slice pr yr.length kr),(73,.int .i64 yr.length),(74,.int .i64 s)]∧SH w w' [Ch.own Sr rs [.slice p12 X0_.length X0_.length],Ch.els Se X rs,Ch.own S5 succ [.slice p14 succ.length k14],Ch.own S2 order [.slice po order.length ko]]) m2 ⟨_,_,_,_,hF,hyr,hidr,rfl,h⟩ rfl ?_)
   rintro m3 e3 w8 ⟨X3,s,rs3,Se3,hF,hX3,hR3,rfl,h⟩
   rcases m3 with _|m3
   ·cases hF
   refine X0 5 rfl (qj rfl hF ?_ ?_)<;>intro hF
   ·refine X0 5 rfl ?_
    have hrow:=(qhH (h.elsR 1 rfl (qav hX3).2.2 (qav hR3).2.2)).1
    obtain ⟨tg,hy7,hF,he7,b7,_,q7,cs8,hp7,hq7,hr7,hc7⟩:=hrow.ix hF
    obtain ⟨pt,kt,rfl,st⟩:=hr7
    refine zxe hp7 hq7 he7 rfl (zc 0 hc7 rfl ?_)
    refine X0 2 rfl ?_
    obtain ⟨t2,ht2,hF⟩:=qd hF
    obtain ⟨z,hz,hF⟩:=qd hF
    obtain ⟨z2,hz2,hF⟩:=qd hF
    have hne:¬ at_.toNat=next.toNat:=fun e=>by rw [decide_eq_true e] at hF;cases hF
    rw [decide_eq_false hne,cond_false] at hF
    obtain ⟨b8,o8,q8,p15,k15,hp8,hq8,hlt8,hid8,hc8,hs8⟩:=h.matAt 0 1 rfl rfl hz
    refine rAB [12] [0] h rfl fun w9 hB9 h=>M0 463 [0,1,2,3,6,7,8] (h.pick [0] rfl) rfl ?_
    refine Aw 4 479 (fun w' _=>qnL (x:=.tmp 80) (i:=.tmp 81) (t:=88) qc hp8 hq8 hlt8 rfl rfl rfl rfl rfl rfl) (h.pick [0] rfl) rfl ?_
    refine Aw 5 511 (fun w' hw=>qjg (x:=.tmp 82) (t:=47) (j:=0) qc (qcz hw 0 rfl hid8 hp8 hq8 (qiE (S:=fun _=>False) (w:=w'))) rfl rfl rfl) (h.pick [0] rfl) rfl ?_
    refine Ao 9 1023 rfl ?_
    refine qee t2 h (cB 103 rfl) (qn8 ⟨_,_,rfl,(h.oldS sl)⟩ ⟨_,_,rfl,st.later hB9⟩ ht2) rfl rfl rfl rfl fun w10 S6 us hv hr=>?_
    obtain ⟨p16,k16,rfl,h⟩:=hv.lastL hr
    replace h:=h.pick [1,2,0,3,4] rfl
    obtain ⟨S7,S8,h⟩:=h.matTake hz hid8
    replace h:=h.pick [3,0,1,2,4,5] rfl
    refine Ag (h.pick [3] rfl) (Ao 10 2047 rfl ?_)
    refine qoa (cB 102 rfl) (ql8 h hz2) rfl rfl rfl rfl fun w11 S9 p17 k17 h=>?_
    refine Ag (h.pick [2] rfl) ?_
    refine Aw 11 4095 (fun w' _=>qnL (x:=.tmp 78) (i:=.tmp 79) (t:=88) qc hp8 hq8 hlt8 rfl rfl rfl rfl rfl rfl) (h.pick [2] rfl) rfl ?_
    refine Ao 12 8191 rfl ?_
    refine qaS qc 2 0 (hdr p17 z2.length k17) h rfl hid8 hp8 hq8 qiE (qcz h 2 rfl hid8 hp8 hq8 (qiE (S:=fun _=>False) (w:=w11))) rfl rfl rfl qiE rfl rfl rfl fun w12 h=>?_
    obtain ⟨S10,h⟩:=SH.matPut h
    refine qhB (fun hs=>absurd (hs 12 (by decide)) (by decide)) (Ad ?_)
    refine X0 5 rfl ?_
    exact rK ⟨_,_,_,_,hF,(qqI hne).trans hX3,(qqI hne).trans hR3,rfl,h⟩ rfl
   refine qn rfl ?_
   obtain rfl:=qb hF;replace hF:=hK3
   refine X0 5 rfl ?_
   exact rK ⟨_,_,_,_,hF,rfl,h⟩ rfl
  refine qn rfl ?_
  obtain rfl:=qb hF;replace hF:=hK2
  refine X0 5 rfl ?_
  replace h:=h.pick [0,1,3] rfl
  exact rK ⟨_,_,_,_,hF,rfl,h⟩ rfl
 refine qn rfl ?_
 obtain rfl:=qb hF;replace hF:=hK1
 refine X0 6 rfl ?_
 obtain rfl:=qb hF
 replace h:=h.joinL
 exact qaA qc (ρ:=(List (List (List Int)) × Int)) [GoT.v (List (List (List Int))) [.slice p12 X0_.length X0_.length],GoT.v Int [.int .i64 0]] h ⟨rfl,rfl,trivial⟩ (PV.done h (qbH h (qay 0 h rfl) (qaN (qB (S:=fun _=>False) rfl)) (by rfl)))
end Go.Fw


namespace Go.Fw
open Go Go.Proofs
open Go.RowKit (Below)
set_option maxRecDepth 100000
set_option maxHeartbeats 6400000
variable {n:Nat} {w:World} {cs1 cs2 cs3:List Value}
def qdo (list:List qa) (starts:List Int):Nat→List (List (List Int))→Int→Option (List (List (List Int)) × Int)
 | 0,_,_=>none
 | n+1,X,i =>
  bif decide (i<(starts.length:Int)) then
   (idx starts i).bind fun place =>
   (qh5 n list place).bind fun t =>
   (idx X place).bind fun _ =>
   qdo list starts n (setS X place [t]) (W64 (i+1))
  else some (X,i)
def qbW (list:List qa) (place to:Int):Nat→List (List (List Int))→Int→Option (List (List (List Int)) × Int)
 | 0,_,_=>none
 | n+1,X,t =>
  (idx X place).bind fun y =>
  bif decide (t<(y.length:Int)) then
   (idx X to).bind fun z =>
   (idx y t).bind fun tg =>
   (qhg n list tg to).bind fun t2 =>
   (qjL n z t2).bind fun z2 =>
   qbW list place to n (setS X to z2) (W64 (t+1))
  else some (X,t)
def qbZ (list:List qa) (place:Int) (next:List Int):Nat→List (List (List Int))→Int→Option (Flow (List (List (List Int)) × Bool) (List (List (List Int)) × Int))
 | 0,_,_=>none
 | n+1,X,i =>
  bif decide (i<(next.length:Int)) then
   (idx next i).bind fun to =>
   (qbW list place to n X 0).bind fun o=>match o with
   | (X2,_) =>
    (idx X2 to).bind fun z =>
    bif decide ((z.length:Int) > 64) then some (.ret ([],false)) else
    qbZ list place next n X2 (W64 (i+1))
  else some (.nxt (X,i))
def qbX (b:qi) (list:List qa) (order:List Int):Nat→List (List (List Int))→Int→Option (Flow (List (List (List Int)) × Bool) (List (List (List Int)) × Int))
 | 0,_,_=>none
 | n+1,X,k =>
  bif decide (k<(order.length:Int)) then
   (idx order k).bind fun place =>
   (qfS n b place).bind fun next =>
   (qbZ list place next n X 0).bind fun o=>match o with
   | .ret r=>some (.ret r)
   | .nxt (X2,_)=>qbX b list order n X2 (W64 (k+1))
  else some (.nxt (X,k))
def qgg (n:Nat) (b:qi) (list:List qa) (order:List Int):Option (List (List (List Int)) × Bool) :=
 (qbC n b).bind fun m =>
 (mkS m ([]:List (List Int))).bind fun X =>
 (qhd n b).bind fun starts =>
 (qdo list starts n X 0).bind fun o=>match o with
 | (X1,_) =>
  (qbX b list order n X1 0).bind fun o=>match o with
  | .ret r=>some r
  | .nxt (X2,_)=>some (X2,true)
theorem qnV {b:qi} {list:List qa} {order:List Int} (ha1:GoT.R w (old w) b cs1) (ha2:GoT.R w (old w) list cs2) (ha3:GoT.R w (old w) order cs3) {r:List (List (List Int)) × Bool} (hF:qgg n b list order=some r):RetV Tryz.prog 46 [GoT.v qi cs1,GoT.v (List qa) cs2,GoT.v (List Int) cs3] w r:=by
 obtain ⟨p1,k1,p2,k2,p3,k3,p4,k4,p5,k5,rfl,s1,s2,s3,s4,s5⟩:=qO ha1
 obtain ⟨pl,kl,rfl,sl⟩:=ha2
 obtain ⟨po,ko,rfl,so⟩:=ha3
 refine zV 97 Tryz.func46 rfl fun h=>zSR (qt h rfl rfl fun w1 bb1 h=>?_)
 have h:SH w w1 [Ch.box bb1 (qah b p1 p2 p3 p4 p5 k1 k2 k3 k4 k5) 34]:=h
 refine X1 6 0 h rfl ?_
 refine zcI h hF (qeX (h.old ha1)) rfl fun m w2 h hF=>?_
 obtain ⟨X0_,hx1,hF⟩:=qd hF
 obtain ⟨g1,g2,hx1⟩:=qbT hx1
 refine qcY qc (List (List Int)) h rfl rfl rfl rfl rfl rfl rfl rfl rfl g1 g2 hx1 rfl fun w3 S4 p12 h=>?_
 obtain ⟨Sr,Se,rs,hrs,h⟩:=h.splitL
 refine X1 5 2 h rfl ?_
 refine zcL h hF (qm0 (h.old ha1)) rfl fun starts w4 S5 p14 k14 h hF=>?_
 replace h:=h.pick [1,2,0,3] rfl
 obtain ⟨o1,hF,hK1⟩:=qd hF
 refine X0 7 rfl ?_
 refine qk (rL (fun m e w'=>∃ (X:List (List (List Int))) (i:Int) (rs:List (Raw (List (List Int)))) (Se:Nat→Prop),qdo list starts m X i=some o1∧e=[(1,.slice pl list.length kl),(2,.slice po order.length ko),(3,.pointer (some ⟨bb1,0,none⟩)),(8,.slice p12 X0_.length X0_.length),(9,.slice p14 starts.length k14),(10,.int .i64 i)]∧SH w w' [Ch.own Sr rs [.slice p12 X0_.length X0_.length],Ch.els Se X rs,Ch.own S5 starts [.slice p14 starts.length k14],Ch.box bb1 (qah b p1 p2 p3 p4 p5 k1 k2 k3 k4 k5) 34]) n ⟨_,_,_,_,hF,rfl,h⟩ rfl ?_)
 rintro m1 e1 w5 ⟨X,i,rs,Se,hF,rfl,h⟩
 rcases m1 with _|m1
 ·cases hF
 refine X0 8 rfl (qj rfl hF ?_ ?_)<;>intro hF
 ·refine X0 7 rfl ?_
  obtain ⟨place,hy1,hF,he1,b2,_,q1,cs5,hp1,hq1,rfl,hc2⟩:=(h.sl 2 rfl).1.ix hF
  refine zx hp1 hq1 ⟨he1.1,qw he1.2.1 (h.sl 2 rfl).2⟩ rfl (zc 0 hc2 rfl ?_)
  refine X0 7 rfl (zcL h hF (qnf ⟨_,_,rfl,(h.oldS sl)⟩) rfl fun t w6 S6 p15 k15 h hF=>?_)
  obtain ⟨y0,hy0,hF⟩:=qd hF
  refine quA qc h rfl rfl rfl rfl rfl rfl rfl rfl rfl fun w7 p16 S7 h=>?_
  obtain ⟨b3,o3,q3,p17,k17,hp3,hq3,hlt3,hid3,hc3,hs3⟩:=h.matAt 1 2 rfl rfl hy0
  replace h:=h.pick [1,2,0,3,4] rfl
  obtain ⟨S8,S9,h⟩:=h.matTake hy0 hid3
  replace h:=h.pick [3,1,2,4,5] rfl
  refine zx hp3 hq3 hlt3 rfl ?_
  refine qaS qc 2 0 (hdr p16 [t].length 1) h rfl hid3 hp3 hq3 qiE (qcz h 2 rfl hid3 hp3 hq3 (qiE (S:=fun _=>False) (w:=w7))) rfl rfl rfl qiE rfl rfl rfl fun w8 h=>?_
  obtain ⟨S10,h⟩:=SH.matPut (y2:=[t]) h
  refine X0 7 rfl ?_
  exact rK ⟨_,_,_,_,hF,rfl,h⟩ rfl
 refine qn rfl ?_
 obtain rfl:=qb hF;replace hF:=hK1
 replace h:=h.pick [0,1,3] rfl
 obtain ⟨o2,hF,hK2⟩:=qd hF
 refine X0 5 rfl ?_
 refine qk (rL (fun m e w'=>∃ (X:List (List (List Int))) (k:Int) (rs:List (Raw (List (List Int)))) (Se:Nat→Prop),qbX b list order m X k=some o2∧e=[(1,.slice pl list.length kl),(2,.slice po order.length ko),(3,.pointer (some ⟨bb1,0,none⟩)),(8,.slice p12 X0_.length X0_.length),(12,.int .i64 k)]∧SH w w' [Ch.own Sr rs [.slice p12 X0_.length X0_.length],Ch.els Se X rs,Ch.box bb1 (qah b p1 p2 p3 p4 p5 k1 k2 k3 k4 k5) 34]) n ⟨_,_,_,_,hF,rfl,h⟩ rfl ?_)
 rintro m2 e2 w9 ⟨X2,k,rs2,Se2,hF,rfl,h⟩
 rcases m2 with _|m2
 ·cases hF
 refine X0 8 rfl (qj rfl hF ?_ ?_)<;>intro hF
 ·refine X0 7 rfl ?_
  obtain ⟨place,hy1,hF,he1,b2,_,q1,cs5,hp1,hq1,rfl,hc2⟩:=so.ix hF
  refine zxe hp1 hq1 he1 rfl (zc 0 (hc2.below h.below) rfl ?_)
  refine X1 6 2 h rfl ?_
  refine zcL h hF (qhK (h.old ha1)) rfl fun next w10 S11 p18 k18 h hF=>?_
  replace h:=h.pick [1,2,0,3] rfl
  obtain ⟨o3,hF,hK3⟩:=qd hF
  refine X0 6 rfl ?_
  refine qk (rL (fun m e w'=>∃ (X:List (List (List Int))) (i:Int) (rs:List (Raw (List (List Int)))) (Se:Nat→Prop),qbZ list place next m X i=some o3∧e=[(1,.slice pl list.length kl),(2,.slice po order.length ko),(3,.pointer (some ⟨bb1,0,none⟩)),(8,.slice p12 X0_.length X0_.length),(12,.int .i64 k),(13,.int .i64 place),(14,.slice p18 next.length k18),(15,.int .i64 i)]∧SH w w' [Ch.own Sr rs [.slice p12 X0_.length X0_.length],Ch.els Se X rs,Ch.own S11 next [.slice p18 next.length k18],Ch.box bb1 (qah b p1 p2 p3 p4 p5 k1 k2 k3 k4 k5) 34]) m2 ⟨_,_,_,_,hF,rfl,h⟩ rfl ?_)
  rintro m3 e3 w11 ⟨X3,i3,rs3,Se3,hF,rfl,h⟩
  rcases m3 with _|m3
  ·cases hF
  refine X0 8 rfl (qj rfl hF ?_ ?_)<;>intro hF
  ·refine X0 7 rfl ?_
   obtain ⟨to,hy5,hF,he5,b5,_,q5,cs7,hp5,hq5,rfl,hc5⟩:=(h.sl 2 rfl).1.ix hF
   refine zx hp5 hq5 ⟨he5.1,qw he5.2.1 (h.sl 2 rfl).2⟩ rfl (zc 0 hc5 rfl ?_)
   obtain ⟨o4,hF,hK4⟩:=qd hF
   refine X0 7 rfl ?_
   refine qk (rL (fun m e w'=>∃ (X:List (List (List Int))) (t:Int) (rs:List (Raw (List (List Int)))) (Se:Nat→Prop),qbW list place to m X t=some o4∧e=[(1,.slice pl list.length kl),(2,.slice po order.length ko),(3,.pointer (some ⟨bb1,0,none⟩)),(8,.slice p12 X0_.length X0_.length),(12,.int .i64 k),(13,.int .i64 place),(14,.slice p18 next.length k18),(15,.int .i64 i3),(16,.int .i64 to),(17,.int .i64 t)]∧SH w w' [Ch.own Sr rs [.slice p12 X0_.length X0_.length],Ch.els Se X rs,Ch.own S11 next [.slice p18 next.length k18],Ch.box bb1 (qah b p1 p2 p3 p4 p5 k1 k2 k3 k4 k5) 34]) m3 ⟨_,_,_,_,hF,rfl,h⟩ rfl ?_)
   rintro m4 e4 w12 ⟨X4,t4,rs4,Se4,hF,rfl,h⟩
   rcases m4 with _|m4
   ·cases hF
   refine X0 6 rfl ?_
   obtain ⟨y,hy,hF⟩:=qd hF
   obtain ⟨b6,o6,q6,py,ky,hp6,hq6,hlt6,hid6,hc6,hs6⟩:=h.matAt 0 1 rfl rfl hy
   refine zx hp6 hq6 hlt6 rfl (zc 0 hc6 rfl ?_)
   refine X0 3 rfl (qj rfl hF ?_ ?_)<;>intro hF
   ·refine X0 3 rfl ?_
    obtain ⟨z,hz,hF⟩:=qd hF
    obtain ⟨tg,htg,hF⟩:=qd hF
    obtain ⟨t2,ht2,hF⟩:=qd hF
    obtain ⟨z2,hz2,hF⟩:=qd hF
    obtain ⟨b8,o8,q8,p15,k15,hp8,hq8,hlt8,hid8,hc8,hs8⟩:=h.matAt 0 1 rfl rfl hz
    refine rA [18] [0] h rfl fun w13 h=>?_
    have hrow:=(qhH (h.elsR 1 rfl (qav hy).2.2 (qav hid6).2.2)).1
    obtain ⟨b9,o9,q9,cs8,hp9,hq9,_,hr9,hc9⟩:=hrow.at htg
    have he9:=qav htg
    obtain ⟨pt,kt,rfl,st⟩:=hr9
    refine M0 18895 [0,1,2,3,6,7,8,11,14] (h.pick [0] rfl) rfl ?_
    refine Aw 4 18911 (fun w' _=>qnL (x:=.tmp 74) (i:=.tmp 75) (t:=88) qc hp8 hq8 hlt8 rfl rfl rfl rfl rfl rfl) (h.pick [0] rfl) rfl ?_
    refine Aw 5 18943 (fun w' hw=>qjg (x:=.tmp 76) (t:=47) (j:=0) qc (qcz hw 0 rfl hid8 hp8 hq8 (qiE (S:=fun _=>False) (w:=w'))) rfl rfl rfl) (h.pick [0] rfl) rfl ?_
    refine Aw 9 19455 (fun w' _=>qnL (x:=.tmp 79) (i:=.tmp 80) (t:=88) qc hp6 hq6 hlt6 rfl rfl rfl rfl rfl rfl) (h.pick [0] rfl) rfl ?_
    refine Aw 10 20479 (fun w' hw=>qjg (x:=.tmp 81) (t:=47) (j:=0) qc (qcz hw 0 rfl hid6 hp6 hq6 (qiE (S:=fun _=>False) (w:=w'))) rfl rfl rfl) (h.pick [0] rfl) rfl ?_
    refine Aw 12 24575 (fun w' _=>qnL (x:=.tmp 82) (i:=.tmp 83) (t:=47) qc hp9 hq9 ⟨he9.1,he9.2.1⟩ rfl rfl rfl rfl rfl rfl) (h.pick [0] rfl) rfl ?_
    refine Ao 13 32767 rfl (zc 0 hc9 rfl ?_)
    refine Ag (h.pick [0] rfl) (Ao 15 65535 rfl ?_)
    refine qee t2 h (cB 37 rfl) (qkP ⟨_,_,rfl,(h.oldS sl)⟩ ⟨_,_,rfl,st⟩ ht2) rfl rfl rfl rfl fun w14 S12 us hv hr=>?_
    obtain ⟨p16,k16,rfl,h⟩:=hv.lastL hr
    replace h:=h.pick [1,2,0,3,4] rfl
    obtain ⟨S13,S14,h⟩:=h.matTake hz hid8
    replace h:=h.pick [3,0,1,2,4,5] rfl
    refine Ag (h.pick [3] rfl) (Ao 16 131071 rfl ?_)
    refine qoa (cB 104 rfl) (qpf h hz2) rfl rfl rfl rfl fun w15 S15 p17 k17 h=>?_
    refine Ag (h.pick [2] rfl) ?_
    refine Aw 17 262143 (fun w' _=>qnL (x:=.tmp 72) (i:=.tmp 73) (t:=88) qc hp8 hq8 hlt8 rfl rfl rfl rfl rfl rfl) (h.pick [2] rfl) rfl ?_
    refine Ao 18 524287 rfl ?_
    refine qaS qc 2 0 (hdr p17 z2.length k17) h rfl hid8 hp8 hq8 qiE (qcz h 2 rfl hid8 hp8 hq8 (qiE (S:=fun _=>False) (w:=w15))) rfl rfl rfl qiE rfl rfl rfl fun w16 h=>?_
    obtain ⟨S16,h⟩:=SH.matPut h
    refine qhB (fun hs=>absurd (hs 18 (by decide)) (by decide)) (Ad ?_)
    refine X0 6 rfl ?_
    exact rK ⟨_,_,_,_,hF,rfl,h⟩ rfl
   refine qn rfl ?_
   obtain rfl:=qb hF;replace hF:=hK4
   refine X0 4 rfl ?_
   obtain ⟨z,hz,hF⟩:=qd hF
   obtain ⟨b7,o7,q7,pz,kz,hp7,hq7,hlt7,hid7,hc7,hs7⟩:=h.matAt 0 1 rfl rfl hz
   refine zx hp7 hq7 hlt7 rfl (zc 0 hc7 rfl ?_)
   refine X0 3 rfl (qj rfl hF ?_ ?_)<;>intro hF
   ·refine X0 5 rfl ?_
    obtain rfl:=qb hF;replace hF:=hK3
    obtain rfl:=qb hF;replace hF:=hK2
    obtain rfl:=qb hF
    exact qaA qc (ρ:=(List (List (List Int)) × Bool)) [GoT.v (List (List (List Int))) [.slice none 0 0],GoT.v Bool [.bool false]] h ⟨rfl,rfl,trivial⟩ (PV.done h (qbH h qhO (qaN (qB (S:=fun _=>False) rfl)) (by rfl)))
   refine X0 7 rfl ?_
   exact rK ⟨_,_,_,_,hF,rfl,h⟩ rfl
  refine qn rfl ?_
  obtain rfl:=qb hF;replace hF:=hK3
  refine X0 6 rfl ?_
  replace h:=h.pick [0,1,3] rfl
  exact rK ⟨_,_,_,_,hF,rfl,h⟩ rfl
 refine qn rfl ?_
 obtain rfl:=qb hF;replace hF:=hK2
 refine X0 6 rfl ?_
 obtain rfl:=qb hF
 replace h:=h.joinL
 exact qaA qc (ρ:=(List (List (List Int)) × Bool)) [GoT.v (List (List (List Int))) [.slice p12 X0_.length X0_.length],GoT.v Bool [.bool true]] h ⟨rfl,rfl,trivial⟩ (PV.done h (qbH h (qay 0 h rfl) (qaN (qB (S:=fun _=>False) rfl)) (by rfl)))
end Go.Fw


namespace Go.Fw
open Go
set_option maxRecDepth 100000
def vecT (f:Nat→List (List Int)) (m:Nat):List (List (List Int)):=(List.range m).map f
theorem qt6 {f:Nat→List (List Int)} {m:Nat}:(vecT f m).length=m:=by simp [vecT]
theorem qfo {f:Nat→List (List Int)} {m k:Nat} (h:k<m):idx (vecT f m) (k:Int)=some (f k):=by
 rw [qaU (by rw [qt6];exact h)]
 simp [vecT]
theorem qkB {f g:Nat→List (List Int)} {m:Nat} (h:∀ k,k<m→f k=g k):vecT f m=vecT g m:=by
 unfold vecT
 exact List.map_congr_left (fun k hk=>h k (List.mem_range.1 hk))
theorem qpR {m:Nat} (h:m≤2147483648):mkS (m:Int) ([]:List (List Int))=some (vecT (fun _=>[]) m):=by
 unfold mkS big
 rw [if_pos ⟨by omega,by omega⟩]
 congr 1
 refine Ja (by simp [vecT]) (fun k h1 h2=>?_)
 simp [vecT]
theorem qoJ {f:Nat→List (List Int)} {m k:Nat} {v:List (List Int)}:setS (vecT f m) (k:Int) v=vecT (fun i=>if i=k then v else f i) m:=by
 unfold setS
 refine Ja (by simp [vecT]) (fun i h1 h2=>?_)
 rw [List.getElem_set]
 simp only [vecT,List.getElem_map,List.getElem_range,jw]
 by_cases e:k=i
 ·rw [if_pos e,if_pos e.symm]
 ·rw [if_neg e,if_neg (fun h=>e h.symm)]
def bgT (es:List qa) (j:Nat):List Int:=startTs es (j:Int)
def spT (es:List qa) (t:List Int) (j:Nat):List Int:=stepTs es t (j:Int)
def stT (b:qi) (j:Nat):Bool:=startB b (gt (places b.Ab) j)
abbrev TgA (b:qi) (es:List qa):Nat→List Int→Prop:=TagA (succL b) (npl b) (stT b) (bgT es) (spT es)
abbrev TgR (b:qi) (es:List qa):List Nat→List Nat→Nat→List Int→Prop:=TagR (succL b) (npl b) (stT b) (bgT es) (spT es)
abbrev TgE (b:qi) (es:List qa):Option (Nat→List (List Int))→Prop:=TagEnd (succL b) (npl b) (stT b) (bgT es) (spT es)
theorem qlG {b:qi} {es:List qa} {j:Nat} {t:List Int} (h:TgA b es j t):t.length=es.length:=by
 cases h with
 | start _=>exact qrx
 | step _ _ _=>exact qkJ
def foldT (es:List qa) (v:Nat) (l acc:List (List Int)):List (List Int):=l.foldl (fun acc t=>insT acc (spT es t v)) acc
theorem qmH {es:List qa} {v:Nat}:∀ {l acc:List (List Int)},Srt acc→Srt (foldT es v l acc)
 | [],_,h=>h
 | t::l,acc,h=>qmH (l:=l) (acc:=insT acc (spT es t v)) (qlj h)
theorem qm2 {es:List qa} {v:Nat}:∀ {l acc:List (List Int)} {y:List Int},y ∈ foldT es v l acc↔y ∈ acc∨∃ t,t ∈ l∧y=spT es t v
 | [],acc,y=>by simp [foldT]
 | t::l,acc,y=>by
  show y ∈ foldT es v l (insT acc (spT es t v))↔_
  rw [qm2,qkc]
  constructor
  ·rintro ((h|h)|⟨t',h,e⟩)
   ·exact .inr ⟨t,jm ..,h⟩
   ·exact .inl h
   ·exact .inr ⟨t',jn _ h,e⟩
  ·rintro (h|⟨t',h,e⟩)
   ·exact .inl (.inr h)
   ·rcases List.mem_cons.1 h with rfl|h
    ·exact .inl (.inl e)
    ·exact .inr ⟨t',h,e⟩
theorem qmY {es:List qa} {v:Nat}:∀ {l acc:List (List Int)},(foldT es v l acc).length≤acc.length+l.length
 | [],acc=>jf _
 | t::l,acc=>by
  have h1:=qmY (es:=es) (v:=v) (l:=l) (acc:=insT acc (spT es t v))
  have h2:=qqS (xs:=acc) (t:=spT es t v)
  show (foldT es v l (insT acc (spT es t v))).length≤_
  simp only [jY]
  omega
theorem qtD {es:List qa} {v:Nat} {l acc:List (List Int)} {s:Nat} (hs:s<l.length):insT (foldT es v (l.take s) acc) (spT es l[s] v)=foldT es v (l.take (s+1)) acc:=by
 rw [jr hs]
 unfold foldT
 rw [List.foldl_append]
 rfl
def inF (es:List qa) (f:Nat→List (List Int)) (v:Nat) (l:List (List Int)):Nat→List (List Int):=fun j=>if j=v then foldT es v l (f v) else f j
theorem qly {es:List qa} {f:Nat→List (List Int)} {v:Nat} {l:List (List Int)}:inF es f v l v=foldT es v l (f v):=if_pos rfl
theorem qlB {es:List qa} {f:Nat→List (List Int)} {v j:Nat} {l:List (List Int)} (h:j ≠ v):inF es f v l j=f j:=if_neg h
theorem qsZ {es:List qa} {f:Nat→List (List Int)} {Q:Nat→List Int→Prop} (h:TagL f Q) (v:Nat) (l:List (List Int)):TagL (inF es f v l) (fun j y=>Q j y∨(j=v∧∃ t,t ∈ l∧y=spT es t v)) where
 srt j:=by
  by_cases e:j=v
  ·subst e;rw [qly];exact qmH (h.srt j)
  ·rw [qlB e];exact h.srt j
 mem j y:=by
  by_cases e:j=v
  ·subst e
   rw [qly,qm2,h.mem]
   exact ⟨fun x=>x.imp id fun x=>⟨rfl,x⟩,fun x=>x.imp id fun x=>x.2⟩
  ·rw [qlB e,h.mem]
   exact ⟨.inl,fun x=>x.elim id fun x=>absurd x.1 e⟩
theorem qrf {es:List qa} {f:Nat→List (List Int)} {v m:Nat} {l:List (List Int)}:vecT (inF es f v (l.take 0)) m=vecT f m:=by
 refine qkB fun k _=>?_
 unfold inF
 rw [List.take_zero]
 by_cases e:k=v
 ·rw [if_pos e,e];rfl
 ·rw [if_neg e]
theorem qs1 {es:List qa} {f:Nat→List (List Int)} {v m s:Nat} {l:List (List Int)} (hs:s<l.length):setS (vecT (inF es f v (l.take s)) m) (v:Int) (insT (foldT es v (l.take s) (f v)) (spT es l[s] v))=vecT (inF es f v (l.take (s+1))) m:=by
 rw [qoJ,qtD hs]
 refine qkB fun k _=>?_
 unfold inF
 by_cases e:k=v
 ·rw [if_pos e,if_pos e]
 ·rw [if_neg e,if_neg e,if_neg e]
theorem qtd {es:List qa} {f:Nat→List (List Int)} {u v m:Nat} (hes:okL qaa es) (hel:es.length≤6) (hv:v<m) (hne:u ≠ v) (hs:Srt (f v)) (hu:∀ t,t ∈ f u→t.length=es.length) (hvl:∀ t,t ∈ f v→t.length=es.length) (hl:(f v).length+(f u).length≤1000000) :
  Ev (fun n=>qbh es (u:Int) (v:Int) (f u) n (vecT f m) 0) (vecT (inF es f v (f u)) m,((f u).length:Int)):=by
 have:=loopF (Lf:=qbh es (u:Int) (v:Int) (f u)) (S:=fun s=>vecT (inF es f v ((f u).take s)) m) (len:=(f u).length) (fin:=(vecT (inF es f v (f u)) m,((f u).length:Int))) (fun n=>?_) (fun s hs' X hX=>?_)
 ·rwa [qrf] at this
 ·simp only [qbh,qh (jf _),cond_false,jB]
 ·have hlen:=qmY (es:=es) (v:=v) (l:=(f u).take s) (acc:=f v)
  simp only [Jc] at hlen
  simp only [qbh,qf hs',cond_true,qaU hs',je,wS s]
  refine Ev.bind (qq1 hes (hu _ (jq hs'))) (Ev.bindN (qfo hv) ?_)
  show Ev _ X
  rw [qly]
  refine Ev.bind (qpC (qmH hs) (by omega) fun x hx=>?_) (Ev.ff (decide_eq_false (by simpa using hne)) ?_)
  ·rcases qm2.1 hx with hx|⟨t',_,rfl⟩
   ·have:=hvl x hx;omega
   ·have:(spT es t' v).length=es.length:=qkJ;omega
  ·have e:=qs1 (es:=es) (f:=f) (v:=v) (m:=m) hs'
   show Ev (fun n=>qbh es (u:Int) (v:Int) (f u) n (setS (vecT (inF es f v ((f u).take s)) m) (v:Int) (insT (foldT es v ((f u).take s) (f v)) (spT es (f u)[s] v))) ((s+1:Nat):Int)) X
   rw [e]
   exact hX
theorem qrR {es:List qa} {f:Nat→List (List Int)} {u v m:Nat} (hes:okL qaa es) (hel:es.length≤6) (hum:u<m) (hv:v<m) (hne:u ≠ v) (hs:Srt (f v)) (hu:∀ t,t ∈ f u→t.length=es.length) (hvl:∀ t,t ∈ f v→t.length=es.length) (hl:(f v).length+(f u).length≤1000000) :
  Ev (fun n=>qbW es (u:Int) (v:Int) n (vecT f m) 0) (vecT (inF es f v (f u)) m,((f u).length:Int)):=by
 have:=loopF (Lf:=qbW es (u:Int) (v:Int)) (S:=fun s=>vecT (inF es f v ((f u).take s)) m) (len:=(f u).length) (fin:=(vecT (inF es f v (f u)) m,((f u).length:Int))) (fun n=>?_) (fun s hs' X hX=>?_)
 ·rwa [qrf] at this
 ·simp only [qbW,qfo hum,je,qlB hne,qh (jf _),cond_false,jB]
 ·have hlen:=qmY (es:=es) (v:=v) (l:=(f u).take s) (acc:=f v)
  simp only [Jc] at hlen
  simp only [qbW,qfo hum,qfo hv,je,qlB hne,qf hs',cond_true,qaU hs',wS s]
  refine Ev.bind (qrl hes (hu _ (jq hs'))) ?_
  rw [qly]
  refine Ev.bind (qwi (m:=es.length) (qmH hs) (by omega) (by omega) (fun x hx=>?_) qkJ) ?_
  ·rcases qm2.1 hx with hx|⟨t',_,rfl⟩
   ·exact hvl x hx
   ·exact qkJ
  ·have e:=qs1 (es:=es) (f:=f) (v:=v) (m:=m) hs'
   show Ev (fun n=>qbW es (u:Int) (v:Int) n (setS (vecT (inF es f v ((f u).take s)) m) (v:Int) (insT (foldT es v ((f u).take s) (f v)) (spT es (f u)[s] v))) ((s+1:Nat):Int)) X
   rw [e]
   exact hX
def QK (b:qi) (es:List qa) (S R:List Nat) (u k:Nat) (j:Nat) (t:List Int):Prop:=TgR b es S R j t∨∃ i,i<k∧(succL b u)[i]?=some (j:Int)∧∃ t',TgA b es u t'∧t=spT es t' j
theorem QK.zero {b:qi} {es:List qa} {S R:List Nat} {u j:Nat} {t:List Int}:TgR b es S R j t↔QK b es S R u 0 j t:=⟨.inl,fun h=>h.elim id fun ⟨i,hi,_⟩=>by omega⟩
theorem QK.succ {b:qi} {es:List qa} {S R:List Nat} {u k v j:Nat} {t:List Int} {l:List (List Int)} (hv:(succL b u)[k]?=some (v:Int)) (hl:∀ t,t ∈ l↔TgA b es u t) :
  (QK b es S R u k j t∨(j=v∧∃ t',t' ∈ l∧t=spT es t' v))↔QK b es S R u (k+1) j t:=by
 constructor
 ·rintro ((h|⟨i,hi,h1,h2⟩)|⟨rfl,t',h1,h2⟩)
  ·exact .inl h
  ·exact .inr ⟨i,by omega,h1,h2⟩
  ·exact .inr ⟨k,by omega,hv,t',(hl t').1 h1,h2⟩
 ·rintro (h|⟨i,hi,h1,t',h2,h3⟩)
  ·exact .inl (.inl h)
  ·by_cases e:i=k
   ·subst e
    rw [hv] at h1
    have e2:v=j:=by have:=Option.some.inj h1;omega
    subst e2
    exact .inr ⟨rfl,t',(hl t').2 h2,h3⟩
   ·exact .inl (.inr ⟨i,by omega,h1,t',h2,h3⟩)
theorem QK.full {b:qi} {es:List qa} {S R:List Nat} {u j:Nat} {t:List Int} (hu:u<npl b):QK b es S R u (succL b u).length j t↔TgR b es S (R++[u]) j t:=by
 constructor
 ·rintro ((h|⟨x,h1,h2,h3,h4⟩)|⟨i,_,h1,t',h2,h3⟩)
  ·exact .inl h
  ·exact .inr ⟨x,jO _ h1,h2,h3,h4⟩
  ·exact .inr ⟨u,List.mem_append_right _ (List.mem_singleton.2 rfl),hu,jz h1,t',h2,h3⟩
 ·rintro (h|⟨x,h1,h2,h3,t',h4,h5⟩)
  ·exact .inl (.inl h)
  ·rcases List.mem_append.1 h1 with h1|h1
   ·exact .inl (.inr ⟨x,h1,h2,h3,t',h4,h5⟩)
   ·rw [List.mem_singleton.1 h1] at h3 h4
    obtain ⟨i,hi⟩:=List.mem_iff_getElem?.1 h3
    exact .inr ⟨i,(List.getElem?_eq_some_iff.1 hi).1,hi,t',h4,h5⟩
theorem QK.sub {b:qi} {es:List qa} {S R:List Nat} {u k j:Nat} {t:List Int} (hu:u<npl b) (h:QK b es S R u k j t):TgA b es j t:=by
 rcases h with h|⟨i,_,h1,t',h2,rfl⟩
 ·exact h.sub
 ·exact .step hu (jz h1) h2
theorem qvj {b:qi} {es:List qa} {f:Nat→List (List Int)} {S R:List Nat} {u c:Nat} (h:blockB b=true) (hes:okL qaa es) (hel:es.length≤6) (hu:u<npl b) (hn:(succL b u).count (u:Int)=0)
  (hf:TagL f (TgR b es S R)) (hfu:∀ t,t ∈ f u↔TgA b es u t) (h64:(f u).length≤64) (hc:∀ j,(f j).length≤c) (hcb:c≤900000) :
  ∃ g,TagL g (TgR b es S (R++[u]))∧(∀ j,(g j).length≤c+6000)∧Ev (fun n=>qbg es (u:Int) (succL b u) n (vecT f (npl b)) 0) (vecT g (npl b),((succL b u).length:Int)):=by
 have hS:=qgZ h (j:=u)
 have hun:(u:Int) ∉ succL b u:=List.count_eq_zero.1 hn
 obtain ⟨t,⟨g,rfl,g1,g2,g3⟩,he⟩:=loopE (Lf:=qbg es (u:Int) (succL b u)) (fin:=fun t=>(t,((succL b u).length:Int))) (len:=(succL b u).length)
  (fun k t=>∃ g,t=vecT g (npl b)∧TagL g (QK b es S R u k)∧g u=f u∧∀ j,(g j).length≤c+64*k)
  (fun n t=>by simp only [qbg,qh (jf _),cond_false])
  (fun k t hk ⟨g,e,g1,g2,g3⟩=>by
   subst e
   obtain ⟨v,hv,e1,e2⟩:=(qg3 h hu).at hk
   have hne:u ≠ v:=fun e=>hun (by have:=jz e2;rwa [←e] at this)
   have hq:=qsZ (es:=es) g1 v (g u)
   rw [g2] at hq
   refine ⟨vecT (inF es g v (g u)) (npl b),⟨inF es g v (g u),rfl,?_,?_,fun j=>?_⟩,fun X hX=>?_⟩
   ·rw [g2];exact hq.congr fun j t=>QK.succ e2 hfu
   ·rw [qlB hne,g2]
   ·by_cases e:j=v
    ·subst e
     rw [qly]
     have:=qmY (es:=es) (v:=j) (l:=g u) (acc:=g j)
     have:=g3 j
     rw [g2] at *
     omega
    ·rw [qlB e];have:=g3 j;omega
   ·simp only [qbg,qf hk,cond_true,e1,je,qfo hu,wS k]
    refine Ev.bind (qtd hes hel hv hne (g1.srt v) (fun t ht=>?_) (fun t ht=>?_) ?_) hX
    ·rw [g2] at ht;exact qlG ((hfu t).1 ht)
    ·exact qlG (((g1.mem v t).1 ht).sub hu)
    ·have:=g3 v;rw [g2];omega)
  0 (jE _) (vecT f (npl b)) ⟨f,rfl,hf.congr fun j t=>QK.zero,rfl,fun j=>by have:=hc j;omega⟩
 exact ⟨g,g1.congr fun j t=>QK.full hu,fun j=>by have:=g3 j;omega,he⟩
theorem quK {b:qi} {V:Tview} {es:List qa} (h:blockB b=true) (hV:V.Bi=b) (hP:V.places=places b.Ab) (hes:okL qaa es) (hel:es.length≤6) {out:List Nat} (ht:Topo (succL b) (npl b) out) (hfull:∀ j,j<npl b→j ∈ out) :
  EvQ (fun n=>qaE (some V) V es (ints out) n (vecT (fun _=>[]) (npl b)) 0) fun r=>(∃ g i,r=.nxt (vecT g (npl b),i)∧TgE b es (some g))∨(r=.ret ([],3)∧TgE b es none):=by
 have hl:npl b≤78:=qX (qu (qM h))
 have hlen:=ht.len
 refine loopR (Lf:=qaE (some V) V es (ints out)) (len:=out.length)
  (fun i t=>∃ f,t=vecT f (npl b)∧TagL f (TgR b es (out.take i) (out.take i))∧(∀ j,(f j).length≤i*6001)∧∀ j,j ∈ out.take i→∃ xs,Srt xs∧xs.length≤64∧∀ t,t ∈ xs↔TgA b es j t) _
  (fun t ⟨f,e,f1,f2,f3⟩=>?_) (fun i t hi ⟨f,e,f1,f2,f3⟩=>?_) 0 (jE _) _ ⟨fun _=>[],rfl,⟨fun _=>qsS,fun j t=>?_⟩,fun _=>jE _,fun j hj=>by simp at hj⟩
 ·subst e
  simp only [qaE,qd0,qh (jf _),cond_false]
  refine EvQ.done (.inl ⟨f,_,rfl,fun j hj=>?_⟩)
  rw [jB] at f1 f3
  have hm:∀ t,t ∈ f j↔TgA b es j t:=fun t=>(f1.mem j t).trans ⟨TagR.sub,TagR.all (hfull j hj) (fun u hu _=>hfull u hu)⟩
  obtain ⟨xs,x1,x2,x3⟩:=f3 j (hfull j hj)
  exact ⟨f1.srt j,by rw [qoB (f1.srt j) x1 fun t=>(hm t).trans (x3 t).symm];exact x2,hm⟩
 ·subst e
  obtain ⟨h1,h2,h3,h4,h5⟩:=qpY ht hi
  have hiB:i<78:=by omega
  have hst:=qse (V:=V) h hV h1
  have htag:Ev (fun n=>qhS n es [(out[i]:Int)]) (bgT es out[i]):=qum hes (by simp) (by simp)
  generalize hu:out[i]=u at h1 h2 h3 h4 hst htag
  obtain ⟨f',hf',e1,e2,e3⟩:∃ f',TagL f' (TgR b es (out.take i++[u]) (out.take i))∧(∀ j,(f' j).length≤i*6001+1)∧(∀ j,j ≠ u→f' j=f j) ∧
    ∀ n,n+1=n+1→Ev (fun n=>bif stT b u then (qhS n es [(u:Int)]).bind fun t=>(idx (vecT f (npl b)) (u:Int)).bind fun y=>(qg1 n y t).bind fun y2=>some (setS (vecT f (npl b)) (u:Int) y2) else some (vecT f (npl b))) (vecT f' (npl b)):=by
   have hsplit:∀ j t,TgR b es (out.take i++[u]) (out.take i) j t↔TgR b es (out.take i) (out.take i) j t∨(j=u∧stT b u=true∧t=bgT es u):=fun j t=>by
    constructor
    ·rintro (⟨q1,q2,q3⟩|q)
     ·rcases List.mem_append.1 q1 with q1|q1
      ·exact .inl (.inl ⟨q1,q2,q3⟩)
      ·obtain rfl:=List.mem_singleton.1 q1
       exact .inr ⟨rfl,q2,q3⟩
     ·exact .inl (.inr q)
    ·rintro ((⟨q1,q2,q3⟩|q)|⟨rfl,q2,q3⟩)
     ·exact .inl ⟨jO _ q1,q2,q3⟩
     ·exact .inr q
     ·exact .inl ⟨List.mem_append_right _ (List.mem_singleton.2 rfl),q2,q3⟩
   cases hb:stT b u with
   | false =>
    refine ⟨f,f1.congr fun j t=>?_,fun j=>by have:=f2 j;omega,fun _ _=>rfl,fun _ _=>Ev.ff rfl .done⟩
    rw [hsplit,hb]
    exact ⟨.inl,fun q=>q.elim id fun q=>by cases q.2.1⟩
   | true =>
    refine ⟨putF f u (bgT es u),(f1.put u _).congr fun j t=>?_,fun j=>?_,fun j hj=>if_neg hj,fun _ _=>Ev.tt rfl (Ev.bind htag (Ev.bindN (qfo h1) (Ev.bind (qpC (f1.srt u) ?_ fun x hx=>?_) (Ev.now ?_))))⟩
    ·rw [hsplit,hb]
     exact ⟨fun q=>q.imp id fun q=>⟨q.1,rfl,q.2⟩,fun q=>q.imp id fun q=>⟨q.1,q.2.2⟩⟩
    ·unfold putF
     have:=f2 j
     split
     ·rename_i e
      subst e
      have:=qqS (xs:=f j) (t:=bgT es j)
      omega
     ·omega
    ·have:=f2 u;omega
    ·have:=qlG ((f1.mem u x).1 hx).sub;omega
    ·rw [qoJ]
     rfl
  have hmem:∀ t,t ∈ f' u↔TgA b es u t:=fun t=>(hf'.mem u t).trans ⟨TagR.sub,TagR.all (List.mem_append_right _ (List.mem_singleton.2 rfl)) h3⟩
  have hcode:∀ {X},Ev (fun n=>(idx (vecT f' (npl b)) (u:Int)).bind fun y=>bif decide ((y.length:Int) > 64) then some (.ret ([],3)) else (qbA n (some V) (u:Int)).bind fun succ=>(qbg es (u:Int) succ n (vecT f' (npl b)) 0).bind fun o=>match o with|(X2,_)=>qaE (some V) V es (ints out) n X2 ((i+1:Nat):Int)) X→Ev (fun n=>qaE (some V) V es (ints out) (n+1) (vecT f (npl b)) (i:Int)) X:=fun {X} hX=>by
   have hpl:idx V.places ((u:Nat):Int)=some (gt (places b.Ab) u):=by rw [hP];exact qS h1
   simp only [qaE,qd0,qf hi,cond_true,qoj hi,hu,je,hpl,wS i]
   exact Ev.bind hst (Ev.bind (e3 0 rfl) hX)
  by_cases h64:(f' u).length≤64
  ·right
   obtain ⟨g,g1,g2,g3⟩:=qvj h hes hel h1 h4 hf' hmem h64 e1 (by omega)
   refine ⟨vecT g (npl b),⟨g,rfl,?_,fun j=>by have:=g2 j;omega,fun j hj=>?_⟩,fun X hX=>?_⟩
   ·rw [jr hi,hu];exact g1
   ·rw [jr hi,hu] at hj
    rcases List.mem_append.1 hj with hj|hj
    ·exact f3 j hj
    ·obtain rfl:=List.mem_singleton.1 hj
     exact ⟨f' j,hf'.srt j,h64,hmem⟩
   ·refine hcode (Ev.bindN (qfo h1) (Ev.ff (decide_eq_false (by omega)) (Ev.bind (qjX h hV hP h1) (Ev.bind g3 hX))))
  ·left
   refine EvQ.of (Ev.succ (hcode (Ev.bindN (qfo h1) (Ev.tt (decide_eq_true (by omega)) .done)))) (.inr ⟨rfl,u,h1,f' u,hf'.srt u,by omega,fun t ht=>(hmem t).1 ht⟩)
 ·simp only [List.take_zero,Jd,false_iff]
  rintro (⟨q,_⟩|⟨u,q,_⟩)<;>simp at q
end Go.Fw


namespace Go.Fw
open Go Go.Proofs
open Go.RowKit (Below)
set_option maxRecDepth 100000
set_option maxHeartbeats 6400000
variable {n:Nat} {w:World} {cs1 cs2 cs3 cs4 cs5 cs6 cs7 cs8 cs9:List Value}
def qih (n:Nat) (b:qi) (list:(List qa)) (place:Int):Option ((List (List Int)) × Int) :=
 (qiP n b list place).bind fun o=>match o with
  | (r2,r3) =>
   bif (r3 != 0) then some ([],r3) else
   (qff n r2 list).bind fun o=>match o with
    | (r5,r6) =>
     bif (r6 != 0) then some ([],r6) else
     (idx r5 place).bind fun y1 =>
     some (y1,0)
theorem qk1 {b:qi} {list:(List qa)} {place:Int} (ha1:GoT.R w (old w) b cs1) (ha2:GoT.R w (old w) list cs2) {r:((List (List Int)) × Int)} (hF:qih n b list place=some r):RetV Tryz.prog 13 [GoT.v qi cs1,GoT.v (List qa) cs2,.int .i64 place] w r:=by
 obtain ⟨p1,k1,p2,k2,p3,k3,p4,k4,p5,k5,rfl,s1,s2,s3,s4,s5⟩:=qO ha1
 obtain ⟨p6,k6,rfl,s6⟩:=ha2
 refine zV 34 Tryz.func13 rfl fun h=>zSR (qt h rfl rfl fun w1 bb1 h=>X1 8 0 h rfl ?_)
 have hg1:Rg (old w) w (old w) w:=.start (fun _ h=>h)
 obtain ⟨r1,hr1,hF⟩:=qd hF
 obtain ⟨r2,r3⟩:=r1
 refine qqn (r2,r3) hg1 h (cB 38 rfl) (qnQ (hg1.regOld h) (hg1.inR h ha1) ⟨_,_,rfl,(hg1.inS h s6)⟩ hr1) rfl rfl rfl rfl fun w2 us1 B1 hg2 hu1 hz1 hv1=>?_
 have hL1:=h.ext hu1.below
 have s7:=Up.S hg1 h hu1 s6
 have hb1:=h.below.trans (hu1.below.mono h.below.size)
 replace h:=hz1
 obtain ⟨cs3,us2,rfl,hr2,hv2⟩:=qsC hv1
 obtain ⟨p7,rfl,s8⟩:=qfe hr2
 obtain ⟨cs4,rfl,hr3⟩:=qmj hv2
 obtain rfl:=hr3
 refine X0 12 rfl (qj rfl hF ?_ ?_)<;>intro hF
 ·refine X0 6 rfl ?_
  replace h:=h.unbase hg2.below (show NoD [] from trivial)
  obtain rfl:=qb hF
  exact qaA qc (ρ:=((List (List Int)) × Int)) [GoT.v (List (List Int)) [.slice none 0 0],GoT.v Int [.int .i64 r3]] h ⟨rfl,rfl,trivial⟩ (PV.done h (qbH h qhO (qaN (qB (S:=fun _=>False) rfl)) (by rfl)))
 refine X0 5 rfl ?_
 obtain ⟨r4,hr4,hF⟩:=qd hF
 obtain ⟨r5,r6⟩:=r4
 refine qee (r5,r6) h (cB 43 rfl) (qlY (h.old (GoT.mono s8 hg2.old)) ⟨_,_,rfl,(h.oldS (s7.mono hg2.old))⟩ hr4) rfl rfl rfl rfl fun w3 S1 us3 hv3 hr5=>?_
 obtain ⟨S2,S3,p8,k7,us4,rfl,hv4,hr6⟩:=hv3.consL hr5
 obtain ⟨rfl,h⟩:=hv4.lastI hr6
 refine X0 12 rfl (qj rfl hF ?_ ?_)<;>intro hF
 ·refine X0 6 rfl ?_
  replace h:=h.unbase hg2.below ⟨fun _ h=>h,trivial⟩
  obtain rfl:=qb hF
  exact qaA qc (ρ:=((List (List Int)) × Int)) [GoT.v (List (List Int)) [.slice none 0 0],GoT.v Int [.int .i64 r6]] h ⟨rfl,rfl,trivial⟩ (PV.done h (qbH h qhO (qaN (qB (S:=fun _=>False) rfl)) (by rfl)))
 refine X0 5 rfl ?_
 obtain ⟨y1,hy1,hF⟩:=qd hF
 have he1:=qav hy1
 obtain ⟨S5,S6,cs5,h⟩:=h.take hy1
 obtain ⟨p9,k8,rfl,-⟩:=h.own 0 rfl
 obtain ⟨b1,hp1,-,-,hl2⟩:=h.holeAt 1 rfl
 obtain ⟨q1,hq1⟩:∃ q,q=0+(place).toNat*GoT.k (List (List Int)):=⟨_,rfl⟩
 refine zx hp1 hq1 ⟨he1.1,qw he1.2.1 hl2⟩ rfl (zc 0 (qaZ h 1 rfl hp1 hq1) rfl (X0 3 rfl ?_))
 replace h:=h.pick [0] rfl
 replace h:=h.unbase hg2.below ⟨fun _ h=>h,trivial⟩
 obtain rfl:=qb hF
 exact qaA qc (ρ:=((List (List Int)) × Int)) [GoT.v (List (List Int)) [.slice p9 y1.length k8],GoT.v Int [.int .i64 0]] h ⟨rfl,rfl,trivial⟩ (PV.done h (qbH h (qay 0 h rfl) (qaN (qB (S:=fun _=>False) rfl)) (by rfl)))
def qjI (n:Nat) (b:qi) (list:(List qa)) (place:Int):Option ((List (List Int)) × Int) :=
 (qiM n b list place).bind fun r1 =>
 bif (r1 != 0) then some ([],r1) else
 (qh3 n b).bind fun o=>match o with
  | (r3,r4) =>
   bif (!r4) then some ([],7) else
   (qgg n b list r3).bind fun o=>match o with
    | (r6,r7) =>
     bif (!r7) then some ([],3) else
     (idx r6 place).bind fun y1 =>
     some (y1,0)
theorem qoR {b:qi} {list:(List qa)} {place:Int} (ha1:GoT.R w (old w) b cs1) (ha2:GoT.R w (old w) list cs2) {r:((List (List Int)) × Int)} (hF:qjI n b list place=some r):RetV Tryz.prog 14 [GoT.v qi cs1,GoT.v (List qa) cs2,.int .i64 place] w r:=by
 obtain ⟨p1,k1,p2,k2,p3,k3,p4,k4,p5,k5,rfl,s1,s2,s3,s4,s5⟩:=qO ha1
 obtain ⟨p6,k6,rfl,s6⟩:=ha2
 refine zV 40 Tryz.func14 rfl fun h=>zSR (qt h rfl rfl fun w1 bb1 h=>X1 8 0 h rfl (zcI h hF (qnZ (h.old ha1) ⟨_,_,rfl,(h.oldS s6)⟩) rfl fun r1 w2 h hF=>X0 8 rfl (qj rfl hF ?_ ?_)))<;>intro hF
 ·refine X0 6 rfl ?_
  obtain rfl:=qb hF
  exact qaA qc (ρ:=((List (List Int)) × Int)) [GoT.v (List (List Int)) [.slice none 0 0],GoT.v Int [.int .i64 r1]] h ⟨rfl,rfl,trivial⟩ (PV.done h (qbH h qhO (qaN (qB (S:=fun _=>False) rfl)) (by rfl)))
 refine X1 4 0 h rfl ?_
 obtain ⟨r2,hr2,hF⟩:=qd hF
 obtain ⟨r3,r4⟩:=r2
 refine qee (r3,r4) h (cB 45 rfl) (qnt (h.old ha1) hr2) rfl rfl rfl rfl fun w3 S1 us1 hv1 hr3=>?_
 obtain ⟨S2,S3,p7,k7,us2,rfl,hv2,hr4⟩:=hv1.consL hr3
 obtain ⟨rfl,h⟩:=hv2.lastB hr4
 refine X0 12 rfl (qj rfl hF ?_ ?_)<;>intro hF
 ·refine X0 5 rfl ?_
  obtain rfl:=qb hF
  exact qaA qc (ρ:=((List (List Int)) × Int)) [GoT.v (List (List Int)) [.slice none 0 0],GoT.v Int [.int .i64 7]] h ⟨rfl,rfl,trivial⟩ (PV.done h (qbH h qhO (qaN (qB (S:=fun _=>False) rfl)) (by rfl)))
 refine X1 6 1 h rfl ?_
 obtain ⟨r5,hr6,hF⟩:=qd hF
 obtain ⟨r6,r7⟩:=r5
 refine qee (r6,r7) h (cB 46 rfl) (qnV (h.old ha1) ⟨_,_,rfl,(h.oldS s6)⟩ (h.own 0 rfl) hr6) rfl rfl rfl rfl fun w4 S5 us3 hv4 hr7=>?_
 obtain ⟨S6,S7,p8,k8,us4,rfl,hv5,hr8⟩:=hv4.consL hr7
 obtain ⟨rfl,h⟩:=hv5.lastB hr8
 refine X0 12 rfl (qj rfl hF ?_ ?_)<;>intro hF
 ·refine X0 5 rfl ?_
  obtain rfl:=qb hF
  exact qaA qc (ρ:=((List (List Int)) × Int)) [GoT.v (List (List Int)) [.slice none 0 0],GoT.v Int [.int .i64 3]] h ⟨rfl,rfl,trivial⟩ (PV.done h (qbH h qhO (qaN (qB (S:=fun _=>False) rfl)) (by rfl)))
 refine X0 5 rfl ?_
 obtain ⟨y1,hy1,hF⟩:=qd hF
 have he1:=qav hy1
 obtain ⟨S9,S10,cs3,h⟩:=h.take hy1
 obtain ⟨p9,k9,rfl,-⟩:=h.own 0 rfl
 obtain ⟨b1,hp1,-,-,hl2⟩:=h.holeAt 1 rfl
 obtain ⟨q1,hq1⟩:∃ q,q=0+(place).toNat*GoT.k (List (List Int)):=⟨_,rfl⟩
 refine zx hp1 hq1 ⟨he1.1,qw he1.2.1 hl2⟩ rfl (zc 0 (qaZ h 1 rfl hp1 hq1) rfl (X0 3 rfl ?_))
 replace h:=h.pick [0,2,3] rfl
 obtain rfl:=qb hF
 exact qaA qc (ρ:=((List (List Int)) × Int)) [GoT.v (List (List Int)) [.slice p9 y1.length k9],GoT.v Int [.int .i64 0]] h ⟨rfl,rfl,trivial⟩ (PV.done h (qbH h (qay 0 h rfl) (qaN (qB (S:=fun _=>False) rfl)) (by rfl)))
end Go.Fw


namespace Go.Fw
open Go
set_option maxRecDepth 100000
def f0T (b:qi) (es:List qa) (S:List Nat) (j:Nat):List (List Int):=if j ∈ S∧stT b j=true then [bgT es j] else []
theorem qwr {b:qi} {es:List qa} {S:List Nat}:TagL (f0T b es S) (TgR b es S []) where
 srt j:=by unfold f0T;split;exact qsV;exact qsS
 mem j t:=by
  unfold f0T
  split
  ·rename_i hh
   rw [List.mem_singleton]
   constructor
   ·intro e;exact .inl ⟨hh.1,hh.2,e⟩
   ·rintro (⟨_,_,e⟩|⟨u,q,_⟩)
    ·exact e
    ·cases q
  ·rename_i hh
   constructor
   ·intro e;cases e
   ·rintro (⟨q1,q2,_⟩|⟨u,q,_⟩)
    ·exact absurd ⟨q1,q2⟩ hh
    ·cases q
theorem qr6 {b:qi} {es:List qa} (h:blockB b=true) (hes:okL qaa es):Ev (fun n=>qdo es (ints (startN b (npl b))) n (vecT (fun _=>[]) (npl b)) 0) (vecT (f0T b es (List.range (npl b))) (npl b),((startN b (npl b)).length:Int)):=by
 have hl:npl b≤78:=qX (qu (qM h))
 have hs:(startN b (npl b)).length≤npl b:=qrd
 have hm:∀ k,k ∈ startN b (npl b)↔k<npl b∧stT b k=true:=fun k=>by unfold startN;rw [quy];rfl
 have:=loopF (Lf:=qdo es (ints (startN b (npl b)))) (S:=fun t=>vecT (fun j=>if j ∈ (startN b (npl b)).take t then [bgT es j] else []) (npl b)) (len:=(startN b (npl b)).length) (fin:=(vecT (f0T b es (List.range (npl b))) (npl b),((startN b (npl b)).length:Int))) (fun n=>?_) (fun t ht X hX=>?_)
 ·simpa using this
 ·simp only [qdo,qd0,qh (jf _),cond_false,jB]
  congr 2
  refine qkB (fun j hj=>?_)
  unfold f0T
  by_cases hq:stT b j=true
  ·rw [if_pos ((hm j).2 ⟨hj,hq⟩),if_pos ⟨List.mem_range.2 hj,hq⟩]
  ·rw [if_neg (fun x=>hq ((hm j).1 x).2),if_neg (fun x=>hq x.2)]
 ·have hk:(startN b (npl b))[t]<npl b:=((hm _).1 (jq ht)).1
  simp only [qdo,qd0,qf ht,cond_true,qoj ht,je,qfo hk,wS t]
  refine Ev.bind (qtk hes) ?_
  rw [qoJ]
  have e:vecT (fun i=>if i=(startN b (npl b))[t] then [startTs es ((startN b (npl b))[t]:Int)] else if i ∈ (startN b (npl b)).take t then [bgT es i] else []) (npl b)=vecT (fun j=>if j ∈ (startN b (npl b)).take (t+1) then [bgT es j] else []) (npl b):=by
   refine qkB (fun j _=>?_)
   rw [jr ht]
   by_cases h1:j=(startN b (npl b))[t]
   ·rw [if_pos h1,if_pos (List.mem_append_right _ (List.mem_singleton.2 h1)),h1]
    rfl
   ·rw [if_neg h1]
    by_cases h2:j ∈ (startN b (npl b)).take t
    ·rw [if_pos h2,if_pos (jO _ h2)]
    ·rw [if_neg h2,if_neg (fun hh=>(List.mem_append.1 hh).elim h2 (fun h3=>h1 (List.mem_singleton.1 h3)))]
  rw [e]
  exact hX
theorem qvL {b:qi} {es:List qa} {f:Nat→List (List Int)} {S R:List Nat} {u:Nat} (h:blockB b=true) (hes:okL qaa es) (hel:es.length≤6) (hu:u<npl b) (hn:(succL b u).count (u:Int)=0)
  (hf:TagL f (TgR b es S R)) (hfu:∀ t,t ∈ f u↔TgA b es u t) (h64:∀ j,(f j).length≤64) :
  EvQ (fun n=>qbZ es (u:Int) (succL b u) n (vecT f (npl b)) 0) fun r=>(∃ g i,r=.nxt (vecT g (npl b),i)∧TagL g (TgR b es S (R++[u]))∧∀ j,(g j).length≤64)∨(r=.ret ([],false)∧TgE b es none):=by
 have hS:=qgZ h (j:=u)
 have hun:(u:Int) ∉ succL b u:=List.count_eq_zero.1 hn
 refine loopR (Lf:=qbZ es (u:Int) (succL b u)) (len:=(succL b u).length)
  (fun k t=>∃ g,t=vecT g (npl b)∧TagL g (QK b es S R u k)∧g u=f u∧∀ j,(g j).length≤64) _
  (fun t ⟨g,e,g1,g2,g3⟩=>?_) (fun k t hk ⟨g,e,g1,g2,g3⟩=>?_) 0 (jE _) _ ⟨f,rfl,hf.congr fun j t=>QK.zero,rfl,h64⟩
 ·subst e
  simp only [qbZ,qh (jf _),cond_false]
  exact EvQ.done (.inl ⟨g,_,rfl,g1.congr fun j t=>QK.full hu,g3⟩)
 ·subst e
  obtain ⟨v,hv,e1,e2⟩:=(qg3 h hu).at hk
  have hne:u ≠ v:=fun e=>hun (by have:=jz e2;rwa [←e] at this)
  have hq:=qsZ (es:=es) g1 v (g u)
  rw [g2] at hq
  have hq2:TagL (inF es g v (f u)) (QK b es S R u (k+1)):=hq.congr fun j t=>QK.succ e2 hfu
  have hin:Ev (fun n=>qbW es (u:Int) (v:Int) n (vecT g (npl b)) 0) (vecT (inF es g v (g u)) (npl b),((g u).length:Int)) :=
   qrR hes hel hu hv hne (g1.srt v) (fun t ht=>by rw [g2] at ht;exact qlG ((hfu t).1 ht)) (fun t ht=>qlG (((g1.mem v t).1 ht).sub hu)) (by have:=g3 v;have:=g3 u;omega)
  rw [g2] at hin
  have hcode:∀ {X},Ev (fun n=>(idx (vecT (inF es g v (f u)) (npl b)) (v:Int)).bind fun z=>bif decide ((z.length:Int) > 64) then some (.ret ([],false)) else qbZ es (u:Int) (succL b u) n (vecT (inF es g v (f u)) (npl b)) ((k+1:Nat):Int)) X→Ev (fun n=>qbZ es (u:Int) (succL b u) (n+1) (vecT g (npl b)) (k:Int)) X:=fun {X} hX=>by
   simp only [qbZ,qf hk,cond_true,e1,je,wS k]
   exact Ev.bind hin hX
  by_cases hlen:(inF es g v (f u) v).length≤64
  ·right
   refine ⟨vecT (inF es g v (f u)) (npl b),⟨_,rfl,hq2,by rw [qlB hne,g2],fun j=>?_⟩,fun X hX=>hcode (Ev.bindN (qfo hv) (Ev.ff (decide_eq_false (by omega)) hX))⟩
   by_cases e:j=v
   ·subst e;exact hlen
   ·rw [qlB e];exact g3 j
  ·left
   exact EvQ.of (Ev.succ (hcode (Ev.bindN (qfo hv) (Ev.tt (decide_eq_true (by omega)) .done)))) (.inr ⟨rfl,v,hv,_,hq2.srt v,by omega,fun t ht=>((hq2.mem v t).1 ht).sub hu⟩)
theorem qtf {b:qi} {es:List qa} (hok:qcu b) (h:blockB b=true) (hes:okL qaa es) (hel:es.length≤6) {out:List Nat} (ht:Topo (succL b) (npl b) out) (hfull:∀ j,j<npl b→j ∈ out) :
  EvQ (fun n=>qbX b es (ints out) n (vecT (f0T b es (List.range (npl b))) (npl b)) 0) fun r=>(∃ g i,r=.nxt (vecT g (npl b),i)∧TgE b es (some g))∨(r=.ret ([],false)∧TgE b es none):=by
 have hl:npl b≤78:=qX (qu (qM h))
 have hlen:=ht.len
 refine loopR (Lf:=qbX b es (ints out)) (len:=out.length)
  (fun i t=>∃ f,t=vecT f (npl b)∧TagL f (TgR b es (List.range (npl b)) (out.take i))∧∀ j,(f j).length≤64) _
  (fun t ⟨f,e,f1,f2⟩=>?_) (fun i t hi ⟨f,e,f1,f2⟩=>?_) 0 (jE _) _ ⟨_,rfl,by rw [List.take_zero];exact qwr,fun j=>by unfold f0T;split<;>simp⟩
 ·subst e
  simp only [qbX,qd0,qh (jf _),cond_false]
  refine EvQ.done (.inl ⟨f,_,rfl,fun j hj=>⟨f1.srt j,f2 j,fun t=>(f1.mem j t).trans ⟨TagR.sub,TagR.all (List.mem_range.2 hj) fun u hu _=>?_⟩⟩⟩)
  rw [jB];exact hfull u hu
 ·subst e
  obtain ⟨h1,h2,h3,h4,h5⟩:=qpY ht hi
  have hmem:∀ t,t ∈ f out[i]↔TgA b es out[i] t:=fun t=>(f1.mem _ t).trans ⟨TagR.sub,TagR.all (List.mem_range.2 h1) h3⟩
  obtain ⟨r,he,hr⟩:=qvL h hes hel h1 h4 f1 hmem f2
  have hcode:∀ {X},Ev (fun n=>match r with|.ret r=>some (.ret r)|.nxt (X2,_)=>qbX b es (ints out) n X2 ((i+1:Nat):Int)) X→Ev (fun n=>qbX b es (ints out) (n+1) (vecT f (npl b)) (i:Int)) X:=fun {X} hX=>by
   simp only [qbX,qd0,qf hi,cond_true,qoj hi,je,wS i]
   exact Ev.bind (qk7 hok h h1) (Ev.bind he hX)
  rcases hr with ⟨g,k,rfl,g1,g2⟩|⟨rfl,g1⟩
  ·right
   exact ⟨vecT g (npl b),⟨g,rfl,by rw [jr hi];exact g1,g2⟩,fun X hX=>hcode hX⟩
  ·left
   exact EvQ.of (Ev.succ (hcode .done)) (.inr ⟨rfl,g1⟩)
end Go.Fw


namespace Go.Fw
open Go Go.Proofs
open Go.RowKit (Below)
set_option maxRecDepth 100000
set_option maxHeartbeats 6400000
variable {n:Nat} {w:World} {cs1 cs2 cs3 cs4 cs5 cs6 cs7 cs8 cs9:List Value}
def qgS (n:Nat) (a_0:qi) (a_1:(List qa)) (a_2:Int):Option Bool :=
 (qi1 n a_0 1048576).bind fun r1 =>
 bif decide (r1<0) then some true else
 (qhs n a_1 r1).bind fun r2 =>
 bif decide (r2<0) then some true else
 (qft n a_0).bind fun r3 =>
 (qck n a_1).bind fun r4 =>
 (qjI n r3 r4 a_2).bind fun o=>match o with
  | (r6,r7) =>
   (qft n a_0).bind fun r8 =>
   (qck n a_1).bind fun r9 =>
   (qih n r8 r9 a_2).bind fun o=>match o with
    | (r11,r12) =>
     (
      (qe1 n r11 r6).bind fun r29 =>
      bif (!r29) then some true else
      some (r12 != r7)).bind fun b1 =>
     bif b1 then some false else
     (qft n a_0).bind fun r13 =>
     (qiU n r8 r13).bind fun r14 =>
     bif (!r14) then some false else
     (qck n a_1).bind fun r15 =>
     (qf0 n r9 r15).bind fun r16 =>
     bif (!r16) then some false else
     (qhz n (⟨(⟨r8.Ai.Ah⟩:qm),(⟨r8.Ab.Aa,r8.Ab.Af,r8.Ab.Ac⟩:qe),r8.Aj⟩:qi) 1).bind fun o=>match o with
      | (r17,_,_,_,_,_) =>
       (qgx n r9 r17).bind fun o=>match o with
        | (r18,_) =>
         (
          bif decide (r18<0) then some true else
          (qe1 n r11 r6).bind fun r28 =>
          bif (!r28) then some true else
          some (r12 != r7)).bind fun b2 =>
         bif b2 then some false else
         (qgl n r11 1).bind fun o=>match o with
          | (r19,x7) =>
           (qe3 n x7 1).bind fun r20 =>
           bif decide (r20<0) then some false else
           bif (r20 != r19) then some false else
           (qft n (⟨(⟨a_0.Ai.Ah⟩:qm),(⟨a_0.Ab.Aa,a_0.Ab.Af,a_0.Ab.Ac⟩:qe),a_0.Aj⟩:qi)).bind fun r21 =>
           (qck n a_1).bind fun r22 =>
           (qih n r21 r22 a_2).bind fun o=>match o with
            | (r24,r25) =>
             (
              (qe1 n r24 r6).bind fun r27 =>
              bif (!r27) then some true else
              some (r25 != r7)).bind fun b3 =>
             bif b3 then some false else
             (qe3 n x7 1).bind fun r26 =>
             bif decide (r26<0) then some false else
             bif (r26 != r19) then some false else
             some true
theorem qkR {a_0:qi} {a_1:(List qa)} {a_2:Int} (ha1:GoT.R w (old w) a_0 cs1) (ha2:GoT.R w (old w) a_1 cs2) {r:Bool} (hF:qgS n a_0 a_1 a_2=some r):RetV Tryz.prog 4 [GoT.v qi cs1,GoT.v (List qa) cs2,.int .i64 a_2] w r:=by
 obtain ⟨p1,k1,p2,k2,p3,k3,p4,k4,p5,k5,rfl,s1,s2,s3,s4,s5⟩:=qO ha1
 obtain ⟨p6,k6,rfl,s6⟩:=ha2
 refine zV 124 Tryz.func4 rfl fun h=>zSR (qt h rfl rfl fun w1 bb1 h=>X1 10 0 h rfl (zcI h hF (qnX (h.old ha1)) rfl fun r1 w2 h hF=>X0 8 rfl (qj rfl hF ?_ ?_)))<;>intro hF
 ·exact X0 4 rfl (rb h hF rfl)
 refine X0 5 rfl (zcI h hF (qlk ⟨_,_,rfl,(h.oldS s6)⟩) rfl fun r2 w3 h hF=>X0 8 rfl (qj rfl hF ?_ ?_))<;>intro hF
 ·exact X0 4 rfl (rb h hF rfl)
 refine X1 4 0 h rfl (zcO h hF (qgH (h.old ha1)) rfl fun r3 w4 S1 cs3 h hF=>?_)
 obtain ⟨p7,k7,p8,k8,p9,k9,p10,k10,p11,k11,rfl,-,-,-,-,-⟩:=qO (h.own 0 rfl)
 refine zp1 rfl (zcL h hF (qeD ⟨_,_,rfl,(h.oldS s6)⟩) rfl fun r4 w5 S2 p12 k12 h hF=>zp1 rfl ?_)
 obtain ⟨r5,hr5,hF⟩:=qd hF
 obtain ⟨r6,r7⟩:=r5
 refine qee (r6,r7) h (cB 14 rfl) (qoR (h.own 1 rfl) (h.own 0 rfl) hr5) rfl rfl rfl rfl fun w6 S3 us1 hv1 hr6=>?_
 obtain ⟨S4,S5,p13,k13,us2,rfl,hv2,hr7⟩:=hv1.consL hr6
 obtain ⟨rfl,h⟩:=hv2.lastI hr7
 refine X1 9 3 h rfl (zcO h hF (qgH (h.old ha1)) rfl fun r8 w7 S7 cs4 h hF=>?_)
 obtain ⟨p14,k14,p15,k15,p16,k16,p17,k17,p18,k18,rfl,-,-,-,-,-⟩:=qO (h.own 0 rfl)
 refine qE qc h rfl rfl rfl fun w8 bb2 h=>zs 0 h rfl fun w9 h=>X0 4 rfl (zcL h hF (qeD ⟨_,_,rfl,(h.oldS s6)⟩) rfl fun r9 w10 S8 p19 k19 h hF=>X1 7 1 h rfl ?_)
 obtain ⟨r10,hr11,hF⟩:=qd hF
 obtain ⟨r11,r12⟩:=r10
 refine qee (r11,r12) h (cB 13 rfl) (qk1 (h.own 2 rfl) (h.own 0 rfl) hr11) rfl rfl rfl rfl fun w11 S9 us3 hv4 hr12=>?_
 obtain ⟨S10,S11,p20,k20,us4,rfl,hv5,hr13⟩:=hv4.consL hr12
 obtain ⟨rfl,h⟩:=hv5.lastI hr13
 refine X0 8 rfl ?_
 obtain ⟨KF3,hKF3,o6,hF,hK3⟩:=bindE hF
 refine qdh (fun e w'=>∃ (b1:Bool),KF3 b1=some r∧e=[(1,.slice p6 a_1.length k6),(2,.int .i64 a_2),(3,.pointer (some ⟨bb1,0,none⟩)),(8,.slice p13 r6.length k13),(9,.int .i64 r7),(10,.pointer (some ⟨bb2,0,none⟩)),(11,.slice p19 r9.length k19),(12,.slice p20 r11.length k20),(13,.int .i64 r12),(57,.bool b1)]∧SH w w' [Ch.own S10 (r11:List (List Int)) [.slice p20 r11.length k20],Ch.own S8 (r9:List qa) [.slice p19 r9.length k19],Ch.box bb2 (qah r8 p14 p15 p16 p17 p18 k14 k15 k16 k17 k18) 34,Ch.own S7 (r8:qi) (qah r8 p14 p15 p16 p17 p18 k14 k15 k16 k17 k18),Ch.own S4 (r6:List (List Int)) [.slice p13 r6.length k13],Ch.box bb1 (qah a_0 p1 p2 p3 p4 p5 k1 k2 k3 k4 k5) 61]) ?_ ?_
 ·refine X0 3 rfl (zcB h hF (qhi (h.own 0 rfl) (h.own 4 rfl)) rfl fun r29 w29 h hF=>zp2 rfl (ql (t:=53) hF rfl ?_ ?_))<;>intro hF
  ·refine X0 5 rfl ?_
   replace h:=h.pick [0,1,2,3,4,7] rfl
   obtain rfl:=qb hF
   exact rG ⟨_,hK3,rfl,h⟩ rfl
  refine X0 8 rfl ?_
  replace h:=h.pick [0,1,2,3,4,7] rfl
  obtain rfl:=qb hF
  exact rG ⟨_,hK3,rfl,h⟩ rfl
 rintro e3 w30 ⟨b1,hF,rfl,h⟩
 subst hKF3
 refine qj rfl hF ?_ ?_<;>intro hF
 ·exact X0 4 rfl (rb h hF rfl)
 refine zKSS (rA [] [2,5] h rfl fun w12 h=>M2 3 [0,1] 0 1 (h.pick [2,5] rfl) rfl (Ao 2 7 rfl (zcO h hF (qgH (h.old ha1)) rfl fun r13 w13 S13 cs5 h hF=>?_)))
 obtain ⟨p21,k21,p22,k22,p23,k23,p24,k24,p25,k25,rfl,-,-,-,-,-⟩:=qO (h.own 0 rfl)
 refine Ag (h.pick [3,6] rfl) (Ao 3 15 rfl (zcB h hF (qnW (h.own 4 rfl) (h.own 0 rfl)) rfl fun r14 w14 h hF=>G0 31 [4] (h.pick [3,6] rfl) rfl (Ad (qj rfl hF ?_ ?_))))<;>intro hF
 ·exact X0 4 rfl (rb h hF rfl)
 refine X0 6 rfl (zcL h hF (qeD ⟨_,_,rfl,(h.oldS s6)⟩) rfl fun r15 w15 S14 p26 k26 h hF=>zcB h hF (qlA (h.own 3 rfl) (h.own 0 rfl)) rfl fun r16 w16 h hF=>X0 2 rfl (qj rfl hF ?_ ?_))<;>intro hF
 ·exact X0 4 rfl (rb h hF rfl)
 refine X1 9 4 h rfl ?_
 replace h:=h.pick [5,0,1,2,3,4,6,7] rfl
 obtain ⟨S15,S16,S17,h⟩:=qo5 h
 replace h:=h.pick [2,0,1,3,4,5,6,7,8,9] rfl
 obtain ⟨S18,h⟩:=qoo h
 replace h:=h.pick [2,0,1,3,4,5,6,7,8,9] rfl
 obtain ⟨S19,S20,S21,h⟩:=qpg h
 replace h:=h.pick [4,0,1,2,3,7,8,10,11] rfl
 obtain ⟨o1,hr19,hF⟩:=qd hF
 obtain ⟨r17,x1,x2,x3,x4,x5⟩:=o1
 refine qbF r17 (cB 25 rfl) (qma h hr19) rfl rfl rfl rfl ?_
 rintro w17 ⟨S22,S23,S24,S25,S26,h⟩
 replace h:SH _ _ [Ch.own S26 (x5:List qy) [.slice p18 r8.Aj.length k18],Ch.own S25 (x4:List qF) [.slice p17 r8.Ab.Ac.length k17],Ch.own S24 (x3:List ByteArray) [.slice p16 r8.Ab.Af.length k16],Ch.own S23 (x2:List qg) [.slice p15 r8.Ab.Aa.length k15],Ch.own S22 (x1:List qp) [.slice p14 r8.Ai.Ah.length k14],Ch.own S10 (r11:List (List Int)) [.slice p20 r11.length k20],Ch.own S8 (r9:List qa) [.slice p19 r9.length k19],Ch.own S4 (r6:List (List Int)) [.slice p13 r6.length k13],Ch.box bb1 (qah a_0 p1 p2 p3 p4 p5 k1 k2 k3 k4 k5) 61]:=h
 refine X0 6 rfl ?_
 replace h:=h.pick [6,5,7,8] rfl
 obtain ⟨o2,hr20,hF⟩:=qd hF
 obtain ⟨r18,x6⟩:=o2
 refine qbF r18 (cB 26 rfl) (qkh h hr20) rfl rfl rfl rfl ?_
 rintro w18 ⟨S27,h⟩
 replace h:SH _ _ [Ch.own S27 (x6:List qa) [.slice p19 r9.length k19],Ch.own S10 (r11:List (List Int)) [.slice p20 r11.length k20],Ch.own S4 (r6:List (List Int)) [.slice p13 r6.length k13],Ch.box bb1 (qah a_0 p1 p2 p3 p4 p5 k1 k2 k3 k4 k5) 61]:=h
 refine X0 4 rfl ?_
 obtain ⟨KF2,hKF2,o5,hF,hK2⟩:=bindE hF
 refine qdh (fun e w'=>∃ (b2:Bool),KF2 b2=some r∧e=[(1,.slice p6 a_1.length k6),(2,.int .i64 a_2),(3,.pointer (some ⟨bb1,0,none⟩)),(8,.slice p13 r6.length k13),(9,.int .i64 r7),(12,.slice p20 r11.length k20),(86,.bool b2)]∧SH w w' [Ch.own S10 (r11:List (List Int)) [.slice p20 r11.length k20],Ch.own S4 (r6:List (List Int)) [.slice p13 r6.length k13],Ch.box bb1 (qah a_0 p1 p2 p3 p4 p5 k1 k2 k3 k4 k5) 61]) ?_ ?_
 ·refine X0 4 rfl (ql (t:=76) hF rfl ?_ ?_)<;>intro hF
  ·refine X0 11 rfl ?_
   replace h:=h.pick [1,2,3] rfl
   obtain rfl:=qb hF
   exact rG ⟨_,hK2,rfl,h⟩ rfl
  refine X0 5 rfl (zcB h hF (qhi (h.own 1 rfl) (h.own 2 rfl)) rfl fun r28 w27 h hF=>X0 4 rfl (ql (t:=82) hF rfl ?_ ?_))<;>intro hF
  ·refine X0 5 rfl ?_
   replace h:=h.pick [1,2,3] rfl
   obtain rfl:=qb hF
   exact rG ⟨_,hK2,rfl,h⟩ rfl
  refine X0 8 rfl ?_
  replace h:=h.pick [1,2,3] rfl
  obtain rfl:=qb hF
  exact rG ⟨_,hK2,rfl,h⟩ rfl
 rintro e2 w28 ⟨b2,hF,rfl,h⟩
 subst hKF2
 refine qj rfl hF ?_ ?_<;>intro hF
 ·exact X0 4 rfl (rb h hF rfl)
 refine X0 9 rfl ?_
 obtain ⟨o3,hr21,hF⟩:=qd hF
 obtain ⟨r19,x7⟩:=o3
 refine qbF r19 (cB 27 rfl) (qk3 h hr21) rfl rfl rfl rfl ?_
 rintro w19 ⟨S28,h⟩
 replace h:SH _ _ [Ch.own S28 (x7:List (List Int)) [.slice p20 r11.length k20],Ch.own S4 (r6:List (List Int)) [.slice p13 r6.length k13],Ch.box bb1 (qah a_0 p1 p2 p3 p4 p5 k1 k2 k3 k4 k5) 61]:=h
 refine X0 10 rfl (zcI h hF (qiD (h.own 0 rfl)) rfl fun r20 w20 h hF=>X0 8 rfl (qj rfl hF ?_ ?_))<;>intro hF
 ·exact X0 4 rfl (rb h hF rfl)
 refine X0 8 rfl (qj rfl hF ?_ ?_)<;>intro hF
 ·exact X0 4 rfl (rb h hF rfl)
 refine X1 4 2 h rfl (zcO h hF (qgH (qms _ (h.oldS s1) (h.oldS s2) (h.oldS s3) (h.oldS s4) (h.oldS s5))) rfl fun r21 w21 S29 cs6 h hF=>?_)
 obtain ⟨p27,k27,p28,k28,p29,k29,p30,k30,p31,k31,rfl,-,-,-,-,-⟩:=qO (h.own 0 rfl)
 refine zp1 rfl (zcL h hF (qeD ⟨_,_,rfl,(h.oldS s6)⟩) rfl fun r22 w22 S30 p32 k32 h hF=>zp1 rfl ?_)
 obtain ⟨r23,hr25,hF⟩:=qd hF
 obtain ⟨r24,r25⟩:=r23
 refine qee (r24,r25) h (cB 13 rfl) (qk1 (h.own 1 rfl) (h.own 0 rfl) hr25) rfl rfl rfl rfl fun w23 S31 us5 hv7 hr26=>?_
 obtain ⟨S32,S33,p33,k33,us6,rfl,hv8,hr27⟩:=hv7.consL hr26
 obtain ⟨rfl,h⟩:=hv8.lastI hr27
 refine X0 8 rfl ?_
 obtain ⟨KF1,hKF1,o4,hF,hK1⟩:=bindE hF
 refine qdh (fun e w'=>∃ (b3:Bool),KF1 b3=some r∧e=[(12,.slice p20 r11.length k20),(15,.int .i64 r19),(115,.bool b3)]∧SH w w' [Ch.own S28 (x7:List (List Int)) [.slice p20 r11.length k20]]) ?_ ?_
 ·refine X0 3 rfl (zcB h hF (qhi (h.own 0 rfl) (h.own 4 rfl)) rfl fun r27 w25 h hF=>zp2 rfl (ql (t:=111) hF rfl ?_ ?_))<;>intro hF
  ·refine X0 5 rfl ?_
   replace h:=h.pick [3] rfl
   obtain rfl:=qb hF
   exact rG ⟨_,hK1,rfl,h⟩ rfl
  refine X0 8 rfl ?_
  replace h:=h.pick [3] rfl
  obtain rfl:=qb hF
  exact rG ⟨_,hK1,rfl,h⟩ rfl
 rintro e1 w26 ⟨b3,hF,rfl,h⟩
 subst hKF1
 refine qj rfl hF ?_ ?_<;>intro hF
 ·exact X0 4 rfl (rb h hF rfl)
 refine X0 9 rfl (zcI h hF (qiD (h.own 0 rfl)) rfl fun r26 w24 h hF=>X0 8 rfl (qj rfl hF ?_ ?_))<;>intro hF
 ·exact X0 4 rfl (rb h hF rfl)
 refine X0 8 rfl (qj rfl hF ?_ ?_)<;>intro hF
 ·exact X0 4 rfl (rb h hF rfl)
 exact X0 5 rfl (rb h hF rfl)
end Go.Fw


namespace Go.Fw
open Go
end Go.Fw


namespace Go.Fw
open Go
set_option maxRecDepth 100000
theorem qsl {m l:Nat} {xs:List (List Int)} (h:xs.length≤m) (ht:∀ t,t ∈ xs→qZ t≤l):qer xs≤m+m*l:=by
 have:∀ {ys:List (List Int)},(∀ t,t ∈ ys→qZ t≤l)→(ys.map fun x=>qZ x).sum≤ys.length*l:=by
  intro ys
  induction ys with
  | nil=>intro _;simp
  | cons y ys ih =>
   intro h
   have h1:=h y (jm ..)
   have h2:=ih fun t ht=>h t (jn _ ht)
   simp only [jV,List.sum_cons,jY,Nat.add_mul]
   omega
 have h1:=this ht
 have h2:=jt l h
 unfold qer
 omega
theorem qu1 {b:qi} {es:List qa} (hok:qcu b) (h:blockB b=true) (hes:okL qaa es) (hel:es.length≤6) {out:List Nat} (ht:Topo (succL b) (npl b) out) (hfull:∀ j,j<npl b→j ∈ out) :
  EvQ (fun n=>qgg n b es (ints out)) fun r=>(∃ g,r=(vecT g (npl b),true)∧TgE b es (some g))∨(r=([],false)∧TgE b es none):=by
 have hl:npl b≤78:=qX (qu (qM h))
 obtain ⟨r,he,hr⟩:=qtf hok h hes hel ht hfull
 have hcode:∀ {X},Ev (fun n=>match r with|.ret r=>some r|.nxt (X2,_)=>some (X2,true)) X→Ev (fun n=>qgg n b es (ints out)) X:=fun {X} hX=>by
  unfold qgg
  exact Ev.bind (qiQ h) (Ev.bindN (qpR (show npl b≤2147483648 by omega)) (Ev.bind (qsh hok h) (Ev.bind (qr6 h hes) (Ev.bind he hX))))
 rcases hr with ⟨g,i,rfl,hg⟩|⟨rfl,hg⟩
 ·exact EvQ.of (hcode .done) (.inl ⟨g,rfl,hg⟩)
 ·exact EvQ.of (hcode .done) (.inr ⟨rfl,hg⟩)
theorem qrs {b:qi} {V:Tview} {es:List qa} (h:blockB b=true) (hV:V.Bi=b) (hP:V.places=places b.Ab) (hes:okL qaa es) (hel:es.length≤6) :
  EvQ (fun n=>qff n (some V) es) fun r=>∃ R,Topo (succL b) (npl b) R∧((R.length=npl b∧((∃ g,r=(vecT g (npl b),0)∧TgE b es (some g))∨(r=([],3)∧TgE b es none)))∨(r=([],7)∧R.length<npl b∧Stuck (succL b) (npl b) R)):=by
 have hl:npl b≤78:=qX (qu (qM h))
 obtain ⟨r,h4,R,h5,h6⟩:=qtz (V:=V) h hV hP
 unfold qff
 rcases h6 with ⟨rfl,h7⟩|⟨rfl,h7,h8⟩
 ·obtain ⟨r,he,hr⟩:=quK h hV hP hes hel h5 (h5.full h7)
  have hn:V.places.length=npl b:=by rw [hP]
  have hcode:∀ {X},Ev (fun n=>match r with|.ret r=>some r|.nxt (X2,_)=>some (X2,0)) X→Ev (fun n=>(qdw n (some V)).bind fun o=>match o with
   | (order,ok) =>
    bif (!ok) then some ([],7) else
    (some V).bind fun V' =>
    (mkS (V'.places.length:Int) ([]:List (List Int))).bind fun X =>
    (qaE (some V) V' es order n X 0).bind fun o=>match o with
    | .ret r=>some r
    | .nxt (X2,_)=>some (X2,0)) X:=fun {X} hX=>by
   refine Ev.bind h4 (Ev.ff rfl (Ev.bindN rfl ?_))
   rw [hn]
   exact Ev.bindN (qpR (by omega)) (Ev.bind he hX)
  rcases hr with ⟨g,i,rfl,hg⟩|⟨rfl,hg⟩
  ·exact EvQ.of (hcode .done) ⟨R,h5,.inl ⟨h7,.inl ⟨g,rfl,hg⟩⟩⟩
  ·exact EvQ.of (hcode .done) ⟨R,h5,.inl ⟨h7,.inr ⟨rfl,hg⟩⟩⟩
 ·exact EvQ.of (Ev.bind h4 (Ev.tt rfl .done)) ⟨R,h5,.inr ⟨rfl,h7,h8⟩⟩
theorem qkZ:qer []≤1048576:=by simp [qer]
theorem qtA {b:qi} {es:List qa} {p:Int} (hok:qcu b) (hes:okL qaa es) :
  ∃ R:List (List Int) × Int,Ev (fun n=>qjI n b es p) R∧Ev (fun n=>qih n b es p) R∧qer R.1≤1048576:=by
 obtain ⟨o,hv,hv0⟩:=quI (p:=p) hok hes
 have hs:=qrW (p:=p) hok hes
 unfold qjI qih
 by_cases h0:codeP b es p=0
 ·obtain ⟨ls,lo,de,rfl⟩:=hv0 h0
  obtain ⟨h,hel,_⟩:=qmd (qoA h0)
  have hl:npl b≤78:=qX (qu (qM h))
  obtain ⟨k,hk,rfl⟩:∃ k:Nat,k<npl b∧p=(k:Int):=by
   have hx:=qoA h0
   have hp:inPl b p=true:=by
    cases hp:inPl b p with
    | true=>rfl
    | false=>unfold codeP at h0;rw [hx,hp] at h0;cases h0
   unfold inPl at hp
   rw [qcK] at hp
   have:((places b.Ab).length:Int)=(npl b:Int):=rfl
   exact ⟨p.toNat,by omega,by omega⟩
  rw [h0] at hv hs
  obtain ⟨out,h1,h2,h3⟩:=qtO hok h
  obtain ⟨r,hi,R,h5,h6⟩:=qrs (V:=⟨b,places b.Ab,ls,lo,de,[]⟩) h rfl rfl hes hel
  obtain ⟨k1,k2⟩:=qtE h5 h1 h2
  rcases h6 with ⟨h7,h8⟩|⟨rfl,h7,h8⟩
  ·have hout:=k1 h7
   obtain ⟨q,hq,hq2⟩:=qu1 hok h hes hel h1 (h1.full hout)
   have hd:(!decide (out.length=npl b))=false:=by simp [hout]
   rcases h8 with ⟨g,rfl,hg⟩|⟨rfl,hg⟩<;>rcases hq2 with ⟨f,rfl,hf⟩|⟨rfl,hf⟩
   ·obtain ⟨q1,_⟩|⟨f',g',e1,e2,e3⟩:=qnv hf hg
    ·cases q1
    ·cases e1;cases e2
     obtain ⟨_,s2,s3⟩:=hf k hk
     refine ⟨(f k,0),Ev.bind hs (Ev.ff rfl (Ev.bind h3 (Ev.ff hd (Ev.bind hq (Ev.ff rfl (Ev.bindN (qfo hk) .done)))))),Ev.bind hv (Ev.ff rfl (Ev.bind hi (Ev.ff rfl (Ev.bindN (qfo hk) (Ev.now (by rw [e3 k hk])))))),?_⟩
     refine jS (qsl s2 (l:=100) fun t ht=>?_) (by omega)
     have:=qlG ((s3 t).1 ht)
     simp only [qZ];omega
   ·obtain ⟨q1,q2⟩|⟨f',g',e1,e2,e3⟩:=qnv hf hg
    ·cases q2
    ·cases e1
   ·obtain ⟨q1,q2⟩|⟨f',g',e1,e2,e3⟩:=qnv hf hg
    ·cases q1
    ·cases e2
   ·exact ⟨([],3),Ev.bind hs (Ev.ff rfl (Ev.bind h3 (Ev.ff hd (Ev.bind hq (Ev.tt rfl .done))))),Ev.bind hv (Ev.ff rfl (Ev.bind hi (Ev.tt rfl .done))),qkZ⟩
  ·have hout:=k2 h7 h8
   exact ⟨([],7),Ev.bind hs (Ev.ff rfl (Ev.bind h3 (Ev.tt (by rw [decide_eq_false (by omega)];rfl) .done))),Ev.bind hv (Ev.ff rfl (Ev.bind hi (Ev.tt rfl .done))),qkZ⟩
 ·have hc:(codeP b es p != 0)=true:=by simpa using h0
  exact ⟨([],codeP b es p),Ev.bind hs (Ev.tt hc .done),Ev.bind hv (Ev.tt hc .done),qkZ⟩
def vecG {α:Type} (f:Nat→α) (m:Nat):List α:=(List.range m).map f
theorem qrb {α:Type} {f:Nat→α} {m:Nat}:(vecG f m).length=m:=by simp [vecG]
theorem qrc {α:Type} {f:Nat→α} {m k:Nat} (h:k<m):idx (vecG f m) (k:Int)=some (f k):=by
 rw [qaU (by rw [qrb];exact h)]
 simp [vecG]
theorem qr4 {α:Type} {f g:Nat→α} {m:Nat} (h:∀ k,k<m→f k=g k):vecG f m=vecG g m:=by
 unfold vecG
 exact List.map_congr_left (fun k hk=>h k (List.mem_range.1 hk))
theorem qu4 {α:Type} {f:Nat→α} {m k:Nat} {v:α}:setS (vecG f m) (k:Int) v=vecG (fun i=>if i=k then v else f i) m:=by
 unfold setS
 refine Ja (by simp [vecG]) (fun i h1 h2=>?_)
 rw [List.getElem_set]
 simp only [vecG,List.getElem_map,List.getElem_range,jw]
 by_cases e:k=i
 ·rw [if_pos e,if_pos e.symm]
 ·rw [if_neg e,if_neg (fun h=>e h.symm)]
def offL (a:List (List Int)) (s:Nat):Nat:=((a.take s).map List.length).sum
theorem qnc {a:List (List Int)} {s:Nat} (h:s<a.length):offL a (s+1)=offL a s+(gt a s).length:=by
 have e:gt a s=a[s]:=by have:=qS h;rw [qaU h] at this;exact (Option.some.inj this).symm
 unfold offL
 rw [jr h,jJ,List.sum_append,e]
 simp
theorem qoh {a:List (List Int)} {s:Nat}:offL a s+a.length≤qer a:=by
 have e:(a.map fun x=>qZ x).sum=offL a s+((a.drop s).map List.length).sum:=by
  unfold offL
  rw [←List.sum_append,←jJ,List.take_append_drop]
  rfl
 unfold qer
 omega
theorem qtU {a:List (List Int)}:vecG (fun i=>gt a i) a.length=a:=by
 refine Ja (by simp [vecG]) (fun i h1 h2=>?_)
 have:=qS h2
 rw [qaU h2] at this
 simp only [vecG,List.getElem_map,List.getElem_range]
 exact (Option.some.inj this).symm
def markS (a:List (List Int)) (k:Int) (s:Nat):List (List Int):=vecG (fun i=>if i<s then marked (k+(offL a i:Int)) (gt a i).length else gt a i) a.length
theorem qsm {a:List (List Int)} {k:Int} (h0:0≤k) (h1:k≤900000000000) (hw:qer a≤1048576):∃ z y,Ev (fun n=>qgl n a k) (z,y)∧Ev (fun n=>qe3 n y k) z∧(k≤z∧z≤k+16777216):=by
 have hl:=qoh (a:=a) (s:=a.length)
 have hlen:∀ s,s<a.length→(gt a s).length≤1048576:=fun s hs=>by
  have h2:=qoh (a:=a) (s:=s+1)
  rw [qnc hs] at h2
  omega
 refine ⟨k+(offL a a.length:Int),markS a k a.length,?_,?_,by omega,by omega⟩
 ·have:=loopF (Lf:=fun n (t:List (List Int) × Int) i=>qcB a n t.1 t.2 i) (S:=fun s=>(markS a k s,k+(offL a s:Int))) (len:=a.length) (fin:=(markS a k a.length,k+(offL a a.length:Int),(a.length:Int))) (fun n=>?_) (fun s hs X hX=>?_)
  ·unfold qgl
   have e0:markS a k 0=a:=by unfold markS;simp only [Nat.not_lt_zero,if_false];exact qtU
   have e1:k+(offL a 0:Int)=k:=by simp [offL]
   simp only [e0,e1] at this
   exact Ev.bind this .done
  ·simp only [qcB,qh (jf _),cond_false]
  ·have h2:=qoh (a:=a) (s:=s)
   have ei:idx (markS a k s) (s:Int)=some (gt a s):=by
    unfold markS
    rw [qrc hs,if_neg (Nat.lt_irrefl _)]
   simp only [qcB,qf hs,cond_true,ei,je,wS s]
   refine Ev.bind (qoU (by omega) (by omega) (hlen s hs)) ?_
   have es:setS (markS a k s) (s:Int) (marked (k+(offL a s:Int)) (gt a s).length)=markS a k (s+1):=by
    unfold markS
    rw [qu4]
    refine qr4 fun i _=>?_
    by_cases e:i=s
    ·subst e;rw [if_pos rfl,if_pos (by omega)]
    ·rw [if_neg e]
     by_cases e2:i<s
     ·rw [if_pos e2,if_pos (by omega)]
     ·rw [if_neg e2,if_neg (by omega)]
   have eo:k+(offL a s:Int)+((gt a s).length:Int)=k+(offL a (s+1):Int):=by rw [qnc hs];omega
   rw [eo,es]
   exact hX
 ·have hm:(markS a k a.length).length=a.length:=qrb
  have:=loopF (Lf:=fun n (t:Int) i=>qcx (markS a k a.length) n t i) (S:=fun s=>k+(offL a s:Int)) (len:=a.length) (fin:=.nxt (k+(offL a a.length:Int),(a.length:Int))) (fun n=>?_) (fun s hs X hX=>?_)
  ·unfold qe3
   have e1:k+(offL a 0:Int)=k:=by simp [offL]
   simp only [e1] at this
   exact Ev.bind this .done
  ·simp only [qcx,hm,qh (jf _),cond_false]
  ·have h2:=qoh (a:=a) (s:=s)
   have ei:idx (markS a k a.length) (s:Int)=some (marked (k+(offL a s:Int)) (gt a s).length):=by
    unfold markS
    rw [qrc hs,if_pos hs]
   have eo:k+(offL a s:Int)+((gt a s).length:Int)=k+(offL a (s+1):Int):=by rw [qnc hs];omega
   simp only [qcx,hm,qf hs,cond_true,ei,je,wS s]
   refine Ev.bind (qva (by omega) (by omega) (hlen s hs)) (Ev.ff (decide_eq_false (by omega)) ?_)
   rw [eo]
   exact hX
theorem qmy {b:qi} {es:(List qa)} {p:Int} (h0:qlM b) (h1:(rngL qeJ) es) (h2:rngI p):Ev (fun n=>qgS n b es p) true:=by
 unfold qgS
 obtain ⟨r1,e1,q1⟩:=quw (a:=b) (left:=1048576) h0 (by omega) (by omega)
 refine Ev.bind e1 ?_
 rcases q1 with q1|⟨p1,q1⟩
 ·exact Ev.tt (by simpa using q1) .done
 refine Ev.ff (by simp;omega) ?_
 obtain ⟨r2,e2,q2⟩:=qpl (a:=es) (left:=r1) h1 p1 (by omega)
 refine Ev.bind e2 ?_
 rcases q2 with q2|⟨p2,q2⟩
 ·exact Ev.tt (by simpa using q2) .done
 refine Ev.ff (by simp;omega) ?_
 have w0:qfA b≤1048576:=by omega
 have k0:=qrX h0 w0
 have w1:qa8 es≤1048576:=by omega
 have k1:=qnY h1 w1
 obtain ⟨⟨R0,R1⟩,hs,hi,v0⟩:=qtA (b:=b) (es:=es) (p:=p) k0 k1
 have v0:qer R0≤1048576:=v0
 refine Ev.bind (qmE w0) ?_
 refine Ev.bind (qhY w1) ?_
 refine Ev.bind hs ?_
 refine Ev.bind (qmE w0) ?_
 refine Ev.bind (qhY w1) ?_
 refine Ev.bind hi ?_
 refine Ev.bind (b:=false) (Ev.bind (qmh v0) (Ev.ff rfl (Ev.now (by simp)))) (Ev.ff rfl ?_)
 refine Ev.bind (qmE w0) ?_
 refine Ev.bind (qui w0) (Ev.ff rfl ?_)
 refine Ev.bind (qhY w1) ?_
 refine Ev.bind (qpi w1) (Ev.ff rfl ?_)
 obtain ⟨m1,⟨x1_0,x1_1,x1_2,x1_3,x1_4⟩,mk1,ml1,mu1⟩:=qqa (a:=b) (k:=1) (by omega) (by omega) w0
 refine Ev.bind mk1 ?_
 obtain ⟨m2,x2_0,mk2,ml2,mu2⟩:=qmG (a:=es) (k:=m1) (by omega) (by omega) w1
 refine Ev.bind mk2 ?_
 refine Ev.bind (b:=false) (Ev.ff (by simp;omega) (Ev.bind (qmh v0) (Ev.ff rfl (Ev.now (by simp))))) (Ev.ff rfl ?_)
 obtain ⟨z1,y1_0,hm1,hh1,zl1⟩:=qsm (a:=R0) (k:=1) (by omega) (by omega) v0
 refine Ev.bind hm1 ?_
 refine Ev.bind hh1 (Ev.ff (by simp;omega) (Ev.ff qbi ?_))
 refine Ev.bind (qmE w0) ?_
 refine Ev.bind (qhY w1) ?_
 refine Ev.bind hi ?_
 refine Ev.bind (b:=false) (Ev.bind (qmh v0) (Ev.ff rfl (Ev.now (by simp)))) (Ev.ff rfl ?_)
 refine Ev.bind hh1 (Ev.ff (by simp;omega) (Ev.ff qbi ?_))
 exact .done
end Go.Fw
