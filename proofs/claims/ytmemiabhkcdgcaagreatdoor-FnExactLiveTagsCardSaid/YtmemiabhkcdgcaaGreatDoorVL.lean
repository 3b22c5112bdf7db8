/- Plain laws: designs. -/
import Derived.Test.YtmemiabhkcdgcaaGreatDoorB5
import Derived.Test.YtmemiabhkcdgcaaGreatDoorFw38
import Derived.Test.YtmemiabhkcdgcaaGreatDoorD1
import Derived.Test.YtmemiabhkcdgcaaGreatDoorA2
import Derived.Lib.SliceRun
open Option renaming bind_some → je, map_some → jV
open Nat renaming le_refl → jf, le_of_ble_eq_true → jt, mul_le_mul_right → ju, lt_of_lt_of_le → jz, zero_le → jG, succ_mul → jP, le_trans → jS, add_zero → jY, zero_add → Ji
open List renaming getElem?_eq_getElem → jg, mem_cons_of_mem → jm, mem_cons_self → jn, length_append → jo, getElem_mem → jp, getElem?_append_left → jq, getElem?_take → jr, take_succ_eq_append_getElem → js, length_singleton → jw, getElem?_append_right → jy, mem_of_getElem? → jA, getElem?_drop → jB, take_length → jC, drop_eq_getElem_cons → jD, eq_nil_of_length_eq_zero → jE, getElem?_toArray → jF, map_append → jH, getElem_of_mem → jI, getD_eq_getElem?_getD → jK, getElem?_cons_succ → jL, append_nil → jM, length_map → jN, size_toArray → jQ, mem_append_left → jR, range_succ → jT, map_cons → jU, all_eq_true → jW, length_cons → jZ, drop_eq_nil_of_le → Ja, length_take → Jb, ext_getElem → Jc, append_assoc → Jd, length_filter_le → Je, getElem?_set_ne → Jf, not_mem_nil → Jg, mem_cons → Jh
open Go.Result renaming andThen_ok → jh
open Bool renaming and_eq_true → ji, eq_iff_iff → jk, true_and → jJ, not_eq_true' → jO, not_true → Jj, false_or → Jk
open Go.Sem renaming run_bind → jj, run_pure → jl
open Int renaming toNat_natCast → jx
open Array renaming getElem?_append_left → jX

namespace Go.Fw
open Go
set_option maxRecDepth 100000
theorem qtd {c:qp} (h:cellB c=true):nameB c.As=true:=by
 unfold cellB at h;rw [ji] at h;exact h.1
theorem qo5 {c:qp} (h:cellB c=true):pinsB c.Am=true:=by
 unfold cellB at h;simp only [ji] at h;exact h.2.1
theorem qp7 {l:qn} (h:qhj l):Ev (fun n=>qhD n l) (libB l):=by
 have hl:=h.Ah.len
 have hL2:∀ j,j<l.Ah.length→Ev (fun n=>qds l (j:Int) n 0) (bif allN (neB (l.Ah.map qp.As) j) j then .nxt (j:Int) else .ret false):=by
  intro j hj
  refine qeZ ?_ (fun i hi X hX=>Ev.succ ?_)
  ·exact Ev.succ (by simp only [qds,qh (jf _),cond_false];exact .done)
  ·simp only [qds,qe hi,cond_true,qS (show i<l.Ah.length by omega),qS hj,je,qgY,wS i]
   unfold neB
   rw [qjD (g:=qp.As) (show i<l.Ah.length by omega),qjD (g:=qp.As) hj]
   exact Ev.chkP1 (fun _=>hX)
 have hL1:Ev (fun n=>qdm l n 0) (bif allN (fun j=>cellB (gt l.Ah j)&&allN (neB (l.Ah.map qp.As) j) j) l.Ah.length then .nxt (l.Ah.length:Int) else .ret false):=by
  refine qeZ ?_ (fun j hj X hX=>Ev.succ ?_)
  ·exact Ev.succ (by simp only [qdm,qh (jf _),cond_false];exact .done)
  ·simp only [qdm,qe hj,cond_true,qS hj,je,wS j]
   refine Ev.chk (qs8 (qh4 h.Ah hj)) fun _=>Ev.bind (hL2 j hj) ?_
   cases allN (neB (l.Ah.map qp.As) j) j
   ·exact .done
   ·exact hX
 have e:libB l=(allN (fun j=>cellB (gt l.Ah j)&&allN (neB (l.Ah.map qp.As) j) j) l.Ah.length&&decide (l.Ah.length≤8)):=by
  unfold libB namesB
  rw [qii,jN,Bool.and_comm (decide (l.Ah.length≤8)),←Bool.and_assoc,←qkD]
  congr 1
  refine qhm (fun j hj=>?_)
  rw [qjD (g:=qp.As) hj]
  cases hc:cellB (gt l.Ah j)
  ·rfl
  ·rw [qtd hc];rfl
 rw [e]
 unfold qhD
 refine Ev.bind hL1 ?_
 cases allN (fun j=>cellB (gt l.Ah j)&&allN (neB (l.Ah.map qp.As) j) j) l.Ah.length
 ·exact .done
 ·refine Ev.now ?_
  show some (decide ((l.Ah.length:Int)≤((8:Nat):Int)))=some (true&&decide (l.Ah.length≤8))
  rw [qk6,jJ]
theorem qkJ {c c':Nat→Nat} {m:Nat} {x:Int} (h0:0≤x) (h1:x<m) (hc:c x.toNat<9223372036854775807) (he:∀ k,k<m→c' k=c k+(bif x==(k:Int) then 1 else 0)) :
  idx (vecC c m) x=some (c x.toNat:Int)∧setS (vecC c m) x (W64 ((c x.toNat:Int)+1))=vecC c' m:=by
 have ex:x=(x.toNat:Int):=qpk h0
 have e1:=qjY (c:=c) (m:=m) (k:=x.toNat) (by omega)
 have e2:=qqH (c:=c) (m:=m) (k:=x.toNat) hc
 rw [←ex] at e1 e2
 refine ⟨e1,e2.trans (qjG (fun k hk=>?_))⟩
 rw [he k hk]
 congr 2
 rw [jk];simp;omega
def netB (d:qf) (x:Int):Bool:=inI x 0 ((d.Af.length:Int)-1)
theorem qsf {n:Nat} {d:qf} {x:Int} (hl:d.Af.length≤1048576):qdp n d x=some (netB d x):=by
 simp only [qdp,qhi,je,qd1,qb5 (show d.Af.length≤9223372036854775807 by omega)];rfl
theorem qqF {n:Nat} {d:qf} {x:Int} (hl:d.Af.length≤1048576):qan n x 0 (W64 ((d.Af.length:Int)-1))=some (netB d x):=by
 rw [qer,qb5 (show d.Af.length≤9223372036854775807 by omega)];rfl
def hasNamesB (d:qf):Bool:=(decide (d.Aa.length≤14)&&(decide (d.Af.length≤30)&&decide (d.Ac.length≤8)))&&(namesB (d.Aa.map qj.As)&&(namesB d.Af&&namesB (d.Ac.map qH.As)))
theorem qrG {d:qf} (h:qjC d):Ev (fun n=>qeM n d) (hasNamesB d):=by
 have hli:=h.Aa.len
 have hlp:=h.Ac.len
 have hL1:Ev (fun n=>qa2 d n ([]:List ByteArray) 0) (d.Aa.map qj.As,(d.Aa.length:Int)):=by
  refine loopF (Lf:=qa2 d) (S:=fun j=>(d.Aa.take j).map qj.As) (len:=d.Aa.length) (fun n=>?_) (fun j hj X hX=>?_)
  ·simp only [qa2,qh (jf _),cond_false,jC]
  ·simpa only [qa2,qe hj,cond_true,qS hj,je,qkS hj hli,qfS (g:=qj.As) hj,wS j] using hX
 have hL2:Ev (fun n=>qa4 d n ([]:List ByteArray) 0) (d.Ac.map qH.As,(d.Ac.length:Int)):=by
  refine loopF (Lf:=qa4 d) (S:=fun j=>(d.Ac.take j).map qH.As) (len:=d.Ac.length) (fun n=>?_) (fun j hj X hX=>?_)
  ·simp only [qa4,qh (jf _),cond_false,jC]
  ·simpa only [qa4,qe hj,cond_true,qS hj,je,qkS hj hlp,qfS (g:=qH.As) hj,wS j] using hX
 unfold qeM hasNamesB
 refine Ev.bind hL1 (Ev.bind hL2 ?_)
 simp only [jN]
 rw [show decide ((d.Aa.length:Int)≤14)=decide (d.Aa.length≤14) from qk6 (k:=14),show decide ((d.Af.length:Int)≤30)=decide (d.Af.length≤30) from qk6 (k:=30),show decide ((d.Ac.length:Int)≤8)=decide (d.Ac.length≤8) from qk6 (k:=8)]
 rw [Bool.and_assoc,Bool.and_assoc]
 exact Ev.andP fun _=>Ev.andP fun _=>Ev.andP fun _=>Ev.and (qiW (qmf h.Aa (fun x hx=>hx.As))) fun _=>Ev.and (qiW h.Af) fun _=>Ev.last (qiW (qmf h.Ac (fun x hx=>hx.As)))
def instB (l:qn) (d:qf) (x:qj):Bool:=inI x.Ba 0 ((l.Ah.length:Int)-1)&&(((x.Af.length:Int)==((gt l.Ah x.Ba.toNat).Am.length:Int))&&x.Af.all (netB d))
theorem qpX {d:qf} {l:qn} {x:qj} (hn:d.Af.length≤1048576) (hc:l.Ah.length≤1048576) (hx:x.Af.length≤1048576):Ev (fun n=>qdM n d l x) (instB l d x):=by
 simp only [qdM,qgb,je,qd1,qb5 (show l.Ah.length≤9223372036854775807 by omega)]
 unfold instB
 refine Ev.andP fun hI=>?_
 rw [qcU] at hI
 rw [qgr hI.1 (by omega)]
 simp only [je]
 refine Ev.andP fun _=>Ev.bind (b:=x.Af.any fun y=>!netB d y) ?_ (Ev.now (by rw [qns]))
 unfold qaH
 exact Ev.bind (b:=ixL (fun y=>!netB d y) x.Af) (qdF (fin:=(x.Af.length:Int)) (Lf:=qD x.Af d) (pf:=fun n y=>qda n y d) (fun y _=>⟨0,fun n _=>by simp only [qda,qsf hn,je]⟩)
   (fun n=>by simp only [qD,qh (jf _),cond_false])
   (fun n j y hx=>by
    have hj:=(List.getElem?_eq_some_iff.1 hx).1
    simp only [qD,qe hj,cond_true,qW hx,je,wS j])
   (fun n=>by unfold qaP;congr 1;funext o;cases o<;>rfl)) (Ev.now (by rw [qig]))
def portB (d:qf) (p:qH):Bool:=inI p.Bl 1 2&&netB d p.Bp
theorem qxu {x:Int}:inI x 1 2=((x==1) || (x==2)):=by
 unfold inI;rw [jk];simp;omega
def lastN (x:qj):Int:=at0 x.Af (x.Af.length-1)
theorem qsj {x:qj} (h1:1≤x.Af.length) (h2:x.Af.length≤1048576):idx x.Af (W64 ((x.Af.length:Int)-1))=some (lastN x):=by
 rw [qb5 (by omega),show ((x.Af.length:Int)-1)=((x.Af.length-1:Nat):Int) by omega,qbm (by omega)];rfl
theorem qun {d:qf} {x:qj} (h1:1≤x.Af.length) (h:x.Af.all (netB d)=true):0≤lastN x∧lastN x<d.Af.length:=by
 rw [qhC (d:=0),qaK] at h
 have:=h (x.Af.length-1) (by omega)
 unfold netB at this
 rw [qcU] at this
 unfold lastN at0
 omega
theorem qpP {l:qn} {d:qf} {x:qj} (hl:libB l=true) (h:instB l d x=true):1≤x.Af.length∧0≤lastN x∧lastN x<d.Af.length:=by
 unfold instB at h
 simp only [ji,qcU,beq_iff_eq] at h
 obtain ⟨h1,h2,h3⟩:=h
 unfold libB at hl
 simp only [ji] at hl
 have hc:=hl.1
 rw [qii,qaK] at hc
 have:=qjN (qo5 (hc x.Ba.toNat (by omega)))
 have h4:1≤x.Af.length:=by omega
 exact ⟨h4,qun h4 h3⟩
def drvI (d:qf) (k j:Nat):Nat:=cntP (fun i=>lastN (gt d.Aa i)==(k:Int)) j
def drvP (d:qf) (k j:Nat):Nat:=cntP (fun i=>((gt d.Ac i).Bl==1)&&((gt d.Ac i).Bp==(k:Int))) j
def drvB (d:qf):Bool:=allN (fun k=>((drvI d k d.Aa.length+drvP d k d.Ac.length:Nat):Int)==1) d.Af.length
def designB (l:qn) (d:qf):Bool:=(libB l&&hasNamesB d)&&(d.Aa.all (instB l d)&&(d.Ac.all (portB d)&&drvB d))
theorem qob {d:qf} {k j:Nat}:drvI d k (j+1)=drvI d k j+(bif lastN (gt d.Aa j)==(k:Int) then 1 else 0):=rfl
theorem qmg {d:qf} {k j:Nat}:drvP d k (j+1)=drvP d k j+(bif ((gt d.Ac j).Bl==1)&&((gt d.Ac j).Bp==(k:Int)) then 1 else 0):=rfl
theorem qrB {l:qn} {d:qf} (h:qhj l) (hd:qjC d):Ev (fun n=>qiC n l d) (designB l d):=by
 have hli:=hd.Aa.len
 have hlp:=hd.Ac.len
 have hln:=hd.Af.len
 have hlc:=h.Ah.len
 unfold qiC designB
 refine Ev.guardB (Ev.or (qrh h) fun _=>Ev.neg (qrG hd)) fun hb=>?_
 rw [ji] at hb
 rw [qmk (m:=d.Af.length) (by omega)]
 simp only [je]
 have hL1:Ev (fun n=>qcY l d n (vecC (fun _=>0) d.Af.length) 0) (bif allN (fun j=>instB l d (gt d.Aa j)) d.Aa.length then .nxt (vecC (fun k=>drvI d k d.Aa.length) d.Af.length,(d.Aa.length:Int)) else .ret false):=by
  refine loopN (Lf:=qcY l d) (S:=fun j=>vecC (fun k=>drvI d k j) d.Af.length) (fun j=>instB l d (gt d.Aa j)) (fun n=>?_) (fun j hj hp X hX=>?_)
  ·simp only [qcY,qh (jf _),cond_false]
  ·simp only [qcY,qe hj,cond_true,qS hj,je,wS j]
   have hxl:=(qh4 hd.Aa hj).Af.len
   refine Ev.chk1 (qpX hln hlc hxl) fun hi=>?_
   obtain ⟨h1,h2,h3⟩:=qpP hb.1 hi
   have hc:drvI d (lastN (gt d.Aa j)).toNat j≤j:=qeR
   obtain ⟨e1,e2⟩:=qkJ (c:=fun k=>drvI d k j) (c':=fun k=>drvI d k (j+1)) h2 h3 (by show drvI _ _ _<_;omega) (fun k _=>qob)
   simp only [qsj h1 hxl,je,e1,e2]
   exact hX hi
 have hL2:Ev (fun n=>qcp d n (vecC (fun k=>drvI d k d.Aa.length) d.Af.length) 0) (bif allN (fun j=>portB d (gt d.Ac j)) d.Ac.length then .nxt (vecC (fun k=>drvI d k d.Aa.length+drvP d k d.Ac.length) d.Af.length,(d.Ac.length:Int)) else .ret false):=by
  refine loopN (Lf:=qcp d) (S:=fun j=>vecC (fun k=>drvI d k d.Aa.length+drvP d k j) d.Af.length) (fun j=>portB d (gt d.Ac j)) (fun n=>?_) (fun j hj hp X hX=>?_)
  ·simp only [qcp,qh (jf _),cond_false]
  ·simp only [qcp,qe hj,cond_true,qS hj,je,qsf hln,bne,wS j]
   refine Ev.chkT1 ?_ fun hi=>?_
   ·unfold portB
    rw [qxu]
    cases ((gt d.Ac j).Bl==1)<;>cases ((gt d.Ac j).Bl==2)<;>exact .done
   ·have hX:=hX hi
    unfold portB netB at hi
    simp only [ji,qcU] at hi
    have hc1:drvI d (gt d.Ac j).Bp.toNat d.Aa.length≤d.Aa.length:=qeR
    have hc2:drvP d (gt d.Ac j).Bp.toNat j≤j:=qeR
    cases h1:((gt d.Ac j).Bl==1)
    ·have:vecC (fun k=>drvI d k d.Aa.length+drvP d k (j+1)) d.Af.length=vecC (fun k=>drvI d k d.Aa.length+drvP d k j) d.Af.length:=by
      refine qjG (fun k _=>?_)
      rw [qmg,h1];rfl
     rw [this] at hX
     exact hX
    ·obtain ⟨e1,e2⟩:=qkJ (c:=fun k=>drvI d k d.Aa.length+drvP d k j) (c':=fun k=>drvI d k d.Aa.length+drvP d k (j+1)) (x:=(gt d.Ac j).Bp) (m:=d.Af.length) hi.2.1 (by omega) (by show drvI _ _ _+drvP _ _ _<_;omega) (fun k _=>by rw [qmg,h1,jJ];omega)
     simp only [cond_true,je,e1,e2]
     exact hX
 rw [qii,qii]
 refine Ev.bind hL1 ?_
 cases allN (fun j=>instB l d (gt d.Aa j)) d.Aa.length
 ·exact .done
 ·refine Ev.bind hL2 ?_
  cases allN (fun j=>portB d (gt d.Ac j)) d.Ac.length
  ·exact .done
  ·simp only [cond_true,jJ]
   unfold qby
   refine Ev.bind (b:=(vecC (fun k=>drvI d k d.Aa.length+drvP d k d.Ac.length) d.Af.length).any fun x=>!(x==1)) (Ev.bind (b:=ixL (fun x=>!(x==1)) (vecC (fun k=>drvI d k d.Aa.length+drvP d k d.Ac.length) d.Af.length)) (qdF (fin:=(((vecC (fun k=>drvI d k d.Aa.length+drvP d k d.Ac.length) d.Af.length).length:Nat):Int)) (Lf:=qaa (vecC (fun k=>drvI d k d.Aa.length+drvP d k d.Ac.length) d.Af.length)) (pf:=fun n y=>qi6 n y) (fun y _=>.done)
    (fun n=>by simp only [qaa,qh (jf _),cond_false])
    (fun n j y hx=>by
     have hj:=(List.getElem?_eq_some_iff.1 hx).1
     have:j<d.Af.length:=by rw [ql1] at hj;exact hj
     simp only [qaa,qe hj,cond_true,qW hx,je,wS j])
    (fun n=>by unfold qbT;congr 1;funext o;cases o<;>rfl)) (Ev.now (by rw [qig]))) (Ev.now ?_)
   rw [qns,qhC (d:=0),ql1]
   unfold drvB
   congr 1
   exact qhm (fun k hk=>by
    have:=qrL (c:=fun k=>drvI d k d.Aa.length+drvP d k d.Ac.length) hk
    unfold at0 at this
    rw [this])
theorem qr9 {l:qn} {d:qf} (h:qhj l) (hd:qjC d):Ev (fun n=>qiz n l d) (d.Aa.all (instB l d)&&d.Ac.all (portB d)):=by
 have hli:=hd.Aa.len
 have hlp:=hd.Ac.len
 have hln:=hd.Af.len
 have hlc:=h.Ah.len
 have hL2:∀ x:qj,x.Af.length≤1048576→Ev (fun n=>qee d x n 0) (bif x.Af.all (netB d) then .nxt (x.Af.length:Int) else .ret false):=fun x hx =>
  qlS (fun n=>by simp only [qee,qh (jf _),cond_false]) (fun j hj X hX=>by
   simp only [qee,qe hj,cond_true,qaW hj,je,qqF hln,wS j,qbw]
   exact Ev.okP1 fun _=>hX)
 have hL1:Ev (fun n=>qdY l d n 0) (bif allN (fun j=>instB l d (gt d.Aa j)) d.Aa.length then .nxt (d.Aa.length:Int) else .ret false):=by
  refine qeZ ?_ (fun j hj X hX=>Ev.succ ?_)
  ·exact Ev.succ (by simp only [qdY,qh (jf _),cond_false];exact .done)
  ·simp only [qdY,qe hj,cond_true,qS hj,je,qer,qb5 (show l.Ah.length≤9223372036854775807 by omega),wS j,bne]
   have hxl:=(qh4 hd.Aa hj).Af.len
   unfold instB
   rw [←Bool.and_assoc]
   refine Ev.chkT ?_ fun _=>Ev.bind (hL2 _ hxl) ?_
   ·simp only [qbw]
    refine Ev.orBP fun hI=>?_
    rw [qcU] at hI
    rw [qgr hI.1 (by omega)]
    exact .done
   ·cases (gt d.Aa j).Af.all (netB d)
    ·exact .done
    ·exact hX
 have hL3:Ev (fun n=>qd7 d n 0) (bif allN (fun j=>portB d (gt d.Ac j)) d.Ac.length then .nxt (d.Ac.length:Int) else .ret false):=by
  refine qeZ ?_ (fun j hj X hX=>Ev.succ ?_)
  ·exact Ev.succ (by simp only [qd7,qh (jf _),cond_false];exact .done)
  ·simp only [qd7,qe hj,cond_true,qS hj,je,qqF hln,wS j]
   simp only [qer,je,qbw]
   unfold portB
   exact Ev.okP fun _=>Ev.okP1 fun _=>hX
 unfold qiz
 rw [qii,qii]
 refine Ev.bind hL1 ?_
 cases allN (fun j=>instB l d (gt d.Aa j)) d.Aa.length
 ·exact .done
 ·refine Ev.bind hL3 ?_
  cases allN (fun j=>portB d (gt d.Ac j)) d.Ac.length<;>exact .done
theorem qnl {l:qn} {d:qf} (h:qhj l) (hd:qjC d):Ev (fun n=>qg3 n l d) (designB l d):=by
 have hli:=hd.Aa.len
 have hlp:=hd.Ac.len
 have hln:=hd.Af.len
 have hlc:=h.Ah.len
 have e:designB l d=((libB l&&(decide (d.Aa.length≤14)&&(decide (d.Af.length≤30)&&(decide (d.Ac.length≤8)&&(d.Aa.all (instB l d)&&d.Ac.all (portB d))))))&&((namesB (d.Aa.map qj.As)&&(namesB (d.Ac.map qH.As)&&namesB d.Af))&&drvB d)):=by
  unfold designB hasNamesB
  generalize libB l=a1
  generalize decide (d.Aa.length≤14)=a2
  generalize decide (d.Af.length≤30)=a3
  generalize decide (d.Ac.length≤8)=a4
  generalize d.Aa.all (instB l d)=a5
  generalize d.Ac.all (portB d)=a6
  generalize namesB (d.Aa.map qj.As)=a7
  generalize namesB (d.Ac.map qH.As)=a8
  generalize namesB d.Af=a9
  generalize drvB d=a10
  rw [jk]
  simp only [ji]
  constructor
  ·rintro ⟨⟨h1,⟨h2,h3,h4⟩,h7,h9,h8⟩,h5,h6,h10⟩
   exact ⟨⟨h1,h2,h3,h4,h5,h6⟩,⟨h7,h8,h9⟩,h10⟩
  ·rintro ⟨⟨h1,h2,h3,h4,h5,h6⟩,⟨h7,h8,h9⟩,h10⟩
   exact ⟨⟨h1,⟨h2,h3,h4⟩,h7,h9,h8⟩,h5,h6,h10⟩
 rw [e]
 unfold qg3
 refine Ev.guardB ?_ fun hb=>?_
 ·refine Ev.or (qp7 h) fun _=>?_
  rw [show decide ((d.Aa.length:Int) > 14) = !decide (d.Aa.length≤14) by rw [jk];simp;omega,show decide ((d.Af.length:Int) > 30) = !decide (d.Af.length≤30) by rw [jk];simp;omega,show decide ((d.Ac.length:Int) > 8) = !decide (d.Ac.length≤8) by rw [jk];simp;omega]
  simp only [qbw]
  exact Ev.orBP fun _=>Ev.orBP fun _=>Ev.orBP fun _=>Ev.neg (qr9 h hd)
 ·simp only [ji] at hb
  obtain ⟨hlib,_,_,_,hI,hP⟩:=hb
  rw [qii,qaK] at hI hP
  have hL1:Ev (fun n=>qc1 d n ([]:List ByteArray) 0) (d.Aa.map qj.As,(d.Aa.length:Int)):=by
   refine loopF (Lf:=qc1 d) (S:=fun j=>(d.Aa.take j).map qj.As) (len:=d.Aa.length) (fun n=>?_) (fun j hj X hX=>?_)
   ·simp only [qc1,qh (jf _),cond_false,jC]
   ·simpa only [qc1,qe hj,cond_true,qS hj,je,qkS hj hli,qfS (g:=qj.As) hj,wS j] using hX
  have hL2:Ev (fun n=>qc5 d n ([]:List ByteArray) 0) (d.Ac.map qH.As,(d.Ac.length:Int)):=by
   refine loopF (Lf:=qc5 d) (S:=fun j=>(d.Ac.take j).map qH.As) (len:=d.Ac.length) (fun n=>?_) (fun j hj X hX=>?_)
   ·simp only [qc5,qh (jf _),cond_false,jC]
   ·simpa only [qc5,qe hj,cond_true,qS hj,je,qkS hj hlp,qfS (g:=qH.As) hj,wS j] using hX
  have hL3:Ev (fun n=>qc0 d n (vecC (fun _=>0) d.Af.length) 0) (vecC (fun k=>drvI d k d.Aa.length) d.Af.length,(d.Aa.length:Int)):=by
   refine loopF (Lf:=qc0 d) (S:=fun j=>vecC (fun k=>drvI d k j) d.Af.length) (len:=d.Aa.length) (fun n=>?_) (fun j hj X hX=>?_)
   ·simp only [qc0,qh (jf _),cond_false]
   ·have hxl:=(qh4 hd.Aa hj).Af.len
    obtain ⟨h1,h2,h3⟩:=qpP hlib (hI j hj)
    have hc:drvI d (lastN (gt d.Aa j)).toNat j≤j:=qeR
    obtain ⟨e1,e2⟩:=qkJ (c:=fun k=>drvI d k j) (c':=fun k=>drvI d k (j+1)) h2 h3 (by show drvI _ _ _<_;omega) (fun k _=>qob)
    simpa only [qc0,qe hj,cond_true,qS hj,je,wS j,qsj h1 hxl,e1,e2] using hX
  have hL4:Ev (fun n=>qci d n (vecC (fun k=>drvI d k d.Aa.length) d.Af.length) 0) (vecC (fun k=>drvI d k d.Aa.length+drvP d k d.Ac.length) d.Af.length,(d.Ac.length:Int)):=by
   refine loopF (Lf:=qci d) (S:=fun j=>vecC (fun k=>drvI d k d.Aa.length+drvP d k j) d.Af.length) (len:=d.Ac.length) (fun n=>?_) (fun j hj X hX=>?_)
   ·simp only [qci,qh (jf _),cond_false]
   ·have hi:=hP j hj
    unfold portB netB at hi
    simp only [ji,qcU] at hi
    have hc1:drvI d (gt d.Ac j).Bp.toNat d.Aa.length≤d.Aa.length:=qeR
    have hc2:drvP d (gt d.Ac j).Bp.toNat j≤j:=qeR
    simp only [qci,qe hj,cond_true,qS hj,je,wS j]
    cases h1:((gt d.Ac j).Bl==1)
    ·have:vecC (fun k=>drvI d k d.Aa.length+drvP d k (j+1)) d.Af.length=vecC (fun k=>drvI d k d.Aa.length+drvP d k j) d.Af.length:=by
      refine qjG (fun k _=>?_)
      rw [qmg,h1];rfl
     rw [this] at hX
     exact hX
    ·obtain ⟨e1,e2⟩:=qkJ (c:=fun k=>drvI d k d.Aa.length+drvP d k j) (c':=fun k=>drvI d k d.Aa.length+drvP d k (j+1)) (x:=(gt d.Ac j).Bp) (m:=d.Af.length) hi.2.1 (by omega) (by show drvI _ _ _+drvP _ _ _<_;omega) (fun k _=>by rw [qmg,h1,jJ];omega)
     simp only [cond_true,je,e1,e2]
     exact hX
  have hL5:Ev (fun n=>qdZ (vecC (fun _=>0) d.Af.length) (vecC (fun k=>drvI d k d.Aa.length+drvP d k d.Ac.length) d.Af.length) n 0) (bif drvB d then .nxt (d.Af.length:Int) else .ret false):=by
   refine qeZ ?_ (fun j hj X hX=>Ev.succ ?_)
   ·exact Ev.succ (by simp only [qdZ,ql1,qh (jf _),cond_false];exact .done)
   ·simp only [qdZ,ql1,qe hj,cond_true,qjY hj,je,bne,qbw,wS j]
    exact Ev.okP1 fun _=>hX
  refine Ev.bind hL1 (Ev.bind hL2 ?_)
  refine Ev.guardB (Ev.or (qlZ (qmf hd.Aa (fun x hx=>hx.As))) fun _=>Ev.or (qlZ (qmf hd.Ac (fun x hx=>hx.As))) fun _=>Ev.neg (qlZ hd.Af)) fun _=>?_
  rw [qmk (m:=d.Af.length) (by omega)]
  simp only [je]
  refine Ev.bind hL3 (Ev.bind hL4 (Ev.bind hL5 ?_))
  cases drvB d<;>exact .done
end Go.Fw


namespace Go.Fw
open Go
set_option maxRecDepth 100000
theorem qwC {m k:Nat}:decide ((m:Int)<(k:Int)) = !decide (k≤m):=by rw [jk];simp
theorem qmm {m k:Nat}:decide ((m:Int) > (k:Int)) = !decide (m≤k):=by rw [jk];simp
def treeB (w:qB) (j:Nat):Bool:=bif decide (j=0) then (at0 w.Ak j==-1)&&(at0 w.Bn j==0) else inI (at0 w.Ak j) 0 ((j:Int)-1)
def wireB (w:qB) (s:Int):Bool :=
 lenB w.Ak 1 8&&(((w.Bn.length:Int)==(w.Ak.length:Int))&&(((w.Bk.length:Int)==(w.Ak.length:Int))&&(allN (treeB w) w.Ak.length &&
  ((w.Bn.all fun x=>inI x 0 1000)&&((w.Bk.all fun x=>inI x 0 500)&&(((w.Bf.length:Int)==s)&&(w.Bf.all fun x=>inI x 0 ((w.Ak.length:Int)-1))))))))
theorem qub {w:qB} (hl:w.Ak.length≤1048576) (hr:((w.Bn.length:Int)==(w.Ak.length:Int))=true):Ev (fun n=>qgN n w) (allN (treeB w) w.Ak.length):=by
 rw [beq_iff_eq] at hr
 have hL:Ev (fun n=>qa0 w n 0) (bif allN (treeB w) w.Ak.length then .nxt (w.Ak.length:Int) else .ret false):=by
  refine qeZ ?_ (fun j hj X hX=>Ev.succ ?_)
  ·exact Ev.succ (by simp only [qa0,qh (jf _),cond_false];exact .done)
  ·simp only [qa0,qe hj,cond_true,qbm hj,je,qd1,wS j,bne,qbw]
   unfold treeB
   by_cases h0:j=0
   ·subst h0
    rw [show idx w.Bn (0:Int)=some (at0 w.Bn 0) from qbm (j:=0) (by omega)]
    simp only [je]
    refine Ev.tt (by simp) (Ev.okP fun _=>Ev.okP1 fun _=>Ev.ff (by simp) hX)
   ·have e1:decide (j=0)=false:=by simp;omega
    have e2:((j:Int)==0)=false:=by simp;omega
    have e3:decide ((j:Int) > 0)=true:=by simp;omega
    rw [e1,e2,e3,qb5 (show j≤9223372036854775807 by omega)]
    simp only [cond_false,cond_true]
    exact Ev.okP1 fun _=>hX
 unfold qgN
 refine Ev.bind hL ?_
 cases allN (treeB w) w.Ak.length<;>exact .done
theorem qt5 {w:qB} {s:Int} (h:qnF w):Ev (fun n=>qkj n w s) (wireB w s):=by
 have hl:=h.Ak.len
 simp only [qkj,qas,je,qd1,qb5 (show w.Ak.length≤9223372036854775807 by omega)]
 unfold wireB
 rw [show inI (w.Ak.length:Int) 1 8=lenB w.Ak 1 8 from qq4 (lo:=1) (hi:=8)]
 exact Ev.andP fun _=>Ev.andP fun hr=>Ev.andP fun _=>Ev.and (qub hl hr) fun _=>Ev.and (qfN h.Bn.len) fun _=>Ev.and (qfN h.Bk.len) fun _=>Ev.andP fun _=>Ev.last (qfN h.Bf.len)
theorem qtc {w:qB} {s:Int} (h:qnF w):Ev (fun n=>qki n w s) (wireB w s):=by
 have hl:=h.Ak.len
 have hsl:=h.Bf.len
 have e:wireB w s=((decide (1≤w.Ak.length)&&(decide (w.Ak.length≤8)&&(((w.Bn.length:Int)==(w.Ak.length:Int))&&(((w.Bk.length:Int)==(w.Ak.length:Int))&&((w.Bf.length:Int)==s)))))&&(allN (fun j=>(inI (at0 w.Bk j) 0 500&&inI (at0 w.Bn j) 0 1000)&&treeB w j) w.Ak.length&&(w.Bf.all fun x=>inI x 0 ((w.Ak.length:Int)-1)))):=by
  unfold wireB lenB
  cases h1:((w.Bn.length:Int)==(w.Ak.length:Int))
  ·simp
  ·cases h2:((w.Bk.length:Int)==(w.Ak.length:Int))
   ·simp
   ·rw [beq_iff_eq] at h1 h2
    rw [qkD,qkD]
    rw [qhC (p:=fun x=>inI x 0 1000) (d:=0),qhC (p:=fun x=>inI x 0 500) (d:=0),show w.Bn.length=w.Ak.length by omega,show w.Bk.length=w.Ak.length by omega]
    show _=(_&&((allN (fun j=>inI (w.Bk.getD j 0) 0 500) _&&allN (fun j=>inI (w.Bn.getD j 0) 0 1000) _&&_)&&_))
    generalize allN (fun j=>inI (w.Bk.getD j 0) 0 500) w.Ak.length=a1
    generalize allN (fun j=>inI (w.Bn.getD j 0) 0 1000) w.Ak.length=a2
    generalize allN (fun j=>treeB w j) w.Ak.length=a3
    generalize ((w.Bf.length:Int)==s)=a4
    generalize decide (1≤w.Ak.length)=a5
    generalize decide (w.Ak.length≤8)=a6
    generalize (w.Bf.all fun x=>inI x 0 ((w.Ak.length:Int)-1))=a7
    cases a1<;>cases a2<;>cases a3<;>cases a4<;>cases a5<;>cases a6<;>rfl
 rw [e]
 unfold qki
 refine Ev.guardB ?_ fun hb=>?_
 ·rw [show decide ((w.Ak.length:Int)<1) = !decide (1≤w.Ak.length) from qwC (k:=1),show decide ((w.Ak.length:Int) > 8) = !decide (w.Ak.length≤8) from qmm (k:=8)]
  simp only [bne,qbw]
  exact Ev.orBP fun _=>Ev.orBP fun _=>Ev.orBP fun _=>Ev.orBP fun _=>.done
 ·simp only [ji,beq_iff_eq] at hb
  have hL1:Ev (fun n=>qcx w n 0) (bif allN (fun j=>(inI (at0 w.Bk j) 0 500&&inI (at0 w.Bn j) 0 1000)&&treeB w j) w.Ak.length then .nxt (w.Ak.length:Int) else .ret false):=by
   refine qeZ ?_ (fun j hj X hX=>Ev.succ ?_)
   ·exact Ev.succ (by simp only [qcx,qh (jf _),cond_false];exact .done)
   ·simp only [qcx,qe hj,cond_true,qbm hj,qbm (show j<w.Bk.length by omega),qbm (show j<w.Bn.length by omega),je,qer,wS j,bne,qbw]
    refine Ev.chkT (Ev.orBP fun _=>.done) fun _=>?_
    unfold treeB
    by_cases h0:j=0
    ·subst h0
     refine Ev.tt (by simp) (Ev.okP fun _=>Ev.okP1 fun _=>Ev.ff (by simp) hX)
    ·have e1:decide (j=0)=false:=by simp;omega
     have e2:((j:Int)==0)=false:=by simp;omega
     have e3:decide ((j:Int) > 0)=true:=by simp;omega
     rw [e1,e2,e3,qb5 (show j≤9223372036854775807 by omega)]
     simp only [cond_false,cond_true]
     exact Ev.okP1 fun _=>hX
  have hL2:Ev (fun n=>qfv w n 0) (bif (w.Bf.all fun x=>inI x 0 ((w.Ak.length:Int)-1)) then .nxt (w.Bf.length:Int) else .ret false) :=
   qlS (fun n=>by simp only [qfv,qh (jf _),cond_false]) (fun j hj X hX=>by
    simp only [qfv,qe hj,cond_true,qaW hj,je,qer,qb5 (show w.Ak.length≤9223372036854775807 by omega),wS j,qbw]
    exact Ev.okP1 fun _=>hX)
  refine Ev.bind hL1 ?_
  cases allN (fun j=>(inI (at0 w.Bk j) 0 500&&inI (at0 w.Bn j) 0 1000)&&treeB w j) w.Ak.length
  ·exact .done
  ·refine Ev.bind hL2 ?_
   cases (w.Bf.all fun x=>inI x 0 ((w.Ak.length:Int)-1))<;>exact .done
instance:Inhabited Tplace:=⟨⟨0,0,0,false⟩⟩
instance:Inhabited Tl05Place:=⟨⟨0,0,0,false⟩⟩
def toSp (p:Tplace):Tl05Place:=⟨p.instance_,p.pin,p.net,p.drives⟩
def plX (i:Nat) (x:qj) (j:Nat):List Tplace:=(List.range j).map fun (k:Nat)=>⟨(i:Int),(k:Int),at0 x.Af k,decide (k+1=x.Af.length)⟩
def plI (d:qf) (j:Nat):List Tplace:=(List.range j).flatMap fun (i:Nat)=>plX i (gt d.Aa i) (gt d.Aa i).Af.length
def plP (d:qf) (j:Nat):List Tplace:=(List.range j).map fun (i:Nat)=>⟨-1,(i:Int),(gt d.Ac i).Bp,(gt d.Ac i).Bl==1⟩
def places (d:qf):List Tplace:=plI d d.Aa.length++plP d d.Ac.length
theorem qrV {i:Nat} {x:qj} {j:Nat}:plX i x (j+1)=plX i x j++[⟨(i:Int),(j:Int),at0 x.Af j,decide (j+1=x.Af.length)⟩]:=by
 unfold plX;rw [jT,jH];rfl
theorem ql2 {d:qf} {j:Nat}:plI d (j+1)=plI d j++plX j (gt d.Aa j) (gt d.Aa j).Af.length:=by
 unfold plI;rw [jT,List.flatMap_append];simp
theorem qrU {d:qf} {j:Nat}:plP d (j+1)=plP d j++[⟨-1,(j:Int),(gt d.Ac j).Bp,(gt d.Ac j).Bl==1⟩]:=by
 unfold plP;rw [jT,jH];rfl
theorem qoX {i:Nat} {x:qj} {j:Nat}:(plX i x j).length=j:=by simp [plX]
theorem qoV {d:qf} {j:Nat}:(plP d j).length=j:=by simp [plP]
structure smallD (d:qf):Prop where
 ni:d.Aa.length≤14
 nn:d.Af.length≤30
 np:d.Ac.length≤8
 nx:∀ i,i<d.Aa.length→2≤(gt d.Aa i).Af.length∧(gt d.Aa i).Af.length≤5
theorem qw {l:qn} {d:qf} (h:designB l d=true):smallD d:=by
 unfold designB hasNamesB libB at h
 simp only [ji,decide_eq_true_eq] at h
 obtain ⟨⟨⟨hc,_⟩,⟨h1,h2,h3⟩,_⟩,hI,_⟩:=h
 refine ⟨h1,h2,h3,fun i hi=>?_⟩
 rw [qii,qaK] at hI hc
 have:=hI i hi
 unfold instB at this
 simp only [ji,qcU,beq_iff_eq] at this
 have h5:=qjN (qo5 (hc (gt d.Aa i).Ba.toNat (by omega)))
 omega
theorem qnq {d:qf} (h:smallD d) {j:Nat} (hj:j≤d.Aa.length):(plI d j).length≤5*j:=by
 induction j with
 | zero=>exact jf _
 | succ j ih =>
  rw [ql2,jo,qoX]
  have:=ih (by omega)
  have:=h.nx j (by omega)
  omega
theorem qZ {d:qf} (h:smallD d):(places d).length≤78:=by
 unfold places
 rw [jo,qoV]
 have:=qnq h (jf _)
 have:=h.ni
 have:=h.np
 omega
theorem qmi {d:qf} (h:smallD d):Ev (fun n=>qce n d) (places d):=by
 have h1:=h.ni
 have h2:=h.np
 have hL2:∀ i,i<d.Aa.length→∀ pre:List Tplace,pre.length≤100→Ev (fun n=>qbv (i:Int) (gt d.Aa i) n pre 0) (pre++plX i (gt d.Aa i) (gt d.Aa i).Af.length,((gt d.Aa i).Af.length:Int)):=by
  intro i hi pre hp
  have h5:=h.nx i hi
  have:=loopF (Lf:=qbv (i:Int) (gt d.Aa i)) (S:=fun j=>pre++plX i (gt d.Aa i) j) (len:=(gt d.Aa i).Af.length) (fin:=(pre++plX i (gt d.Aa i) (gt d.Aa i).Af.length,((gt d.Aa i).Af.length:Int))) (fun n=>by
    simp only [qbv,qh (jf _),cond_false])
   (fun j hj X hX=>by
    have hc:(pre++plX i (gt d.Aa i) j).length+[(⟨(i:Int),(j:Int),at0 (gt d.Aa i).Af j,decide (j+1=(gt d.Aa i).Af.length)⟩:Tplace)].length≤2147483648:=by
     rw [jo,qoX];simp;omega
    simp only [qbv,qe hj,cond_true,qbm hj,je,lastE hj (show (gt d.Aa i).Af.length≤1048576 by omega),qcc hc,Jd,←qrV,wS j]
    exact hX)
  simpa [plX] using this
 have hL1:Ev (fun n=>qbs d n ([]:List Tplace) 0) (plI d d.Aa.length,(d.Aa.length:Int)):=by
  refine loopF (Lf:=qbs d) (S:=fun j=>plI d j) (len:=d.Aa.length) (fun n=>?_) (fun j hj X hX=>?_)
  ·simp only [qbs,qh (jf _),cond_false]
  ·simp only [qbs,qe hj,cond_true,qS hj,je,wS j]
   refine Ev.bind (hL2 j hj _ (by have:=qnq h (Nat.le_of_lt hj);omega)) ?_
   rw [←ql2]
   exact hX
 have hL3:Ev (fun n=>qbu d n (plI d d.Aa.length) 0) (places d,(d.Ac.length:Int)):=by
  have:=loopF (Lf:=qbu d) (S:=fun j=>plI d d.Aa.length++plP d j) (len:=d.Ac.length) (fin:=(places d,(d.Ac.length:Int))) (fun n=>by
    simp only [qbu,qh (jf _),cond_false];rfl)
   (fun j hj X hX=>by
    have hc:(plI d d.Aa.length++plP d j).length+[(⟨-1,(j:Int),(gt d.Ac j).Bp,(gt d.Ac j).Bl==1⟩:Tplace)].length≤2147483648:=by
     rw [jo,qoV];have:=qnq h (jf _);simp;omega
    simp only [qbu,qe hj,cond_true,qS hj,je,qcc hc,Jd,←qrU,wS j]
    exact hX)
  simpa [plP] using this
 unfold qce
 exact Ev.bind hL1 (Ev.bind hL3 .done)
theorem qhf {d:qf} (h:smallD d):Ev (fun n=>qdd n d) ((places d).map toSp):=by
 have h1:=h.ni
 have h2:=h.np
 have hL2:∀ i,i<d.Aa.length→∀ pre:List Tplace,pre.length≤100→Ev (fun n=>qcE (i:Int) (gt d.Aa i) n (pre.map toSp) 0) ((pre++plX i (gt d.Aa i) (gt d.Aa i).Af.length).map toSp,((gt d.Aa i).Af.length:Int)):=by
  intro i hi pre hp
  have h5:=h.nx i hi
  have:=loopF (Lf:=qcE (i:Int) (gt d.Aa i)) (S:=fun j=>(pre++plX i (gt d.Aa i) j).map toSp) (len:=(gt d.Aa i).Af.length) (fin:=((pre++plX i (gt d.Aa i) (gt d.Aa i).Af.length).map toSp,((gt d.Aa i).Af.length:Int))) (fun n=>by
    simp only [qcE,qh (jf _),cond_false])
   (fun j hj X hX=>by
    have hc:((pre++plX i (gt d.Aa i) j).map toSp).length+[(⟨(i:Int),(j:Int),at0 (gt d.Aa i).Af j,decide (j+1=(gt d.Aa i).Af.length)⟩:Tl05Place)].length≤2147483648:=by
     rw [jN,jo,qoX];simp;omega
    simp only [qcE,qe hj,cond_true,qbm hj,je,lastE hj (show (gt d.Aa i).Af.length≤1048576 by omega),qcc hc,wS j]
    rw [qrV,←Jd,jH] at hX
    exact hX)
  simpa [plX] using this
 have hL1:Ev (fun n=>qcA d n ([]:List Tl05Place) 0) ((plI d d.Aa.length).map toSp,(d.Aa.length:Int)):=by
  refine loopF (Lf:=qcA d) (S:=fun j=>(plI d j).map toSp) (len:=d.Aa.length) (fun n=>?_) (fun j hj X hX=>?_)
  ·simp only [qcA,qh (jf _),cond_false]
  ·simp only [qcA,qe hj,cond_true,qS hj,je,wS j]
   refine Ev.bind (hL2 j hj _ (by have:=qnq h (Nat.le_of_lt hj);omega)) ?_
   rw [←ql2]
   exact hX
 have hL3:Ev (fun n=>qcu d n ((plI d d.Aa.length).map toSp) 0) ((places d).map toSp,(d.Ac.length:Int)):=by
  have:=loopF (Lf:=qcu d) (S:=fun j=>(plI d d.Aa.length++plP d j).map toSp) (len:=d.Ac.length) (fin:=((places d).map toSp,(d.Ac.length:Int))) (fun n=>by
    simp only [qcu,qh (jf _),cond_false];rfl)
   (fun j hj X hX=>by
    have hc:((plI d d.Aa.length++plP d j).map toSp).length+[(⟨-1,(j:Int),(gt d.Ac j).Bp,(gt d.Ac j).Bl==1⟩:Tl05Place)].length≤2147483648:=by
     rw [jN,jo,qoV];have:=qnq h (jf _);simp;omega
    simp only [qcu,qe hj,cond_true,qS hj,je,qcc hc,wS j]
    rw [qrU,←Jd,jH] at hX
    exact hX)
  simpa [plP] using this
 unfold qdd
 exact Ev.bind hL1 (Ev.bind hL3 .done)
def snkQ (d:qf) (k:Int) (i:Nat):Bool:=((gt (places d) i).net==k)&&!(gt (places d) i).drives
def sinksL (d:qf) (k:Int) (j:Nat):List Int:=((List.range j).filter (snkQ d k)).map fun (i:Nat)=>(i:Int)
def snkN (d:qf) (k:Int):Nat:=cntP (snkQ d k) (places d).length
theorem qkp {d:qf} {k:Int} {j:Nat}:sinksL d k (j+1)=sinksL d k j++(bif snkQ d k j then [(j:Int)] else []):=by
 unfold sinksL
 rw [jT,List.filter_append,jH]
 congr 1
 cases h:snkQ d k j<;>simp [h]
theorem qfT {d:qf} {k:Int} {j:Nat}:(sinksL d k j).length=cntP (snkQ d k) j:=by
 induction j with
 | zero=>rfl
 | succ j ih =>
  rw [qkp,jo,ih]
  show _=cntP (snkQ d k) j+_
  congr 1
  cases snkQ d k j<;>rfl
theorem qnY {α β:Type} [Inhabited α] [Inhabited β] {xs:List α} {g:α→β} {j:Nat} (h:j<xs.length):gt (xs.map g) j=g (gt xs j):=by
 rw [qjJ (by simpa using h),qjJ h];simp
theorem qol {d:qf} {k:Int} (h:smallD d):Ev (fun n=>qg1 n d k) (sinksL d k (places d).length):=by
 have hl:=qZ h
 have hL:Ev (fun n=>qcl k ((places d).map toSp) n ([]:List Int) 0) (sinksL d k (places d).length,((places d).length:Int)):=by
  refine loopF (Lf:=qcl k ((places d).map toSp)) (S:=fun j=>sinksL d k j) (len:=(places d).length) (fun n=>?_) (fun j hj X hX=>?_)
  ·simp only [qcl,jN,qh (jf _),cond_false]
  ·have hj':j<((places d).map toSp).length:=by simpa using hj
   have hc:(sinksL d k j).length+[(j:Int)].length≤2147483648:=by
    rw [qfT]
    have:cntP (snkQ d k) j≤j:=qeR
    simp;omega
   simp only [qcl,qe hj',cond_true,qS hj',qnY hj,je,wS j]
   rw [show ∀ p:Tplace,(toSp p).net=p.net from fun _=>rfl,show ∀ p:Tplace,(toSp p).drives=p.drives from fun _=>rfl]
   refine Ev.bind (b:=snkQ d k j) (Ev.andP fun _=>.done) ?_
   rw [qkp] at hX
   cases hq:snkQ d k j
   ·rw [hq] at hX
    simp only [cond_false,jM] at hX ⊢
    exact hX
   ·rw [hq] at hX
    simp only [cond_true,qcc hc,je] at hX ⊢
    exact hX
 unfold qg1
 exact Ev.bind (qhf h) (Ev.bind hL .done)
theorem qk3 {l:qn} {d:qf} (h:designB l d=true) {i:Nat} (hi:i<(places d).length):0≤(gt (places d) i).net∧(gt (places d) i).net<d.Af.length:=by
 unfold designB at h
 simp only [ji] at h
 obtain ⟨_,hI,hP,_⟩:=h
 rw [qii,qaK] at hI hP
 have hm:gt (places d) i ∈ places d:=by rw [qjJ hi];exact jp hi
 generalize gt (places d) i=p at hm
 unfold places at hm
 rcases List.mem_append.1 hm with hm|hm
 ·unfold plI at hm
  obtain ⟨i,hi,hm⟩:=List.mem_flatMap.1 hm
  unfold plX at hm
  obtain ⟨k,hk,rfl⟩:=List.mem_map.1 hm
  have:=hI i (List.mem_range.1 hi)
  unfold instB at this
  simp only [ji] at this
  have h3:=this.2.2
  rw [qhC (d:=0),qaK] at h3
  have h4:=h3 k (List.mem_range.1 hk)
  unfold netB at h4
  rw [qcU] at h4
  show 0≤at0 _ _∧at0 _ _<_
  unfold at0
  omega
 ·unfold plP at hm
  obtain ⟨i,hi,rfl⟩:=List.mem_map.1 hm
  have:=hP i (List.mem_range.1 hi)
  unfold portB netB at this
  simp only [ji,qcU] at this
  show 0≤(gt d.Ac i).Bp∧(gt d.Ac i).Bp<_
  omega
def blockB (b:qg):Bool:=(designB b.Ai b.Ab&&((b.Aj.length:Int)==(b.Ab.Af.length:Int)))&&allN (fun j=>wireB (gt b.Aj j) (snkN b.Ab (j:Int))) b.Aj.length
theorem qpg {b:qg} (h:qb6 b):Ev (fun n=>qjv n b) (blockB b):=by
 have hwl:=h.Aj.len
 unfold qjv blockB
 refine Ev.guardB (Ev.or (qrB h.Ai h.Ab) fun _=>.done) fun hb=>?_
 rw [ji,beq_iff_eq] at hb
 obtain ⟨hd,hw⟩:=hb
 have hs:=qw hd
 have hl:=qZ hs
 have hn:=hs.nn
 rw [qmk (m:=b.Aj.length) (by omega)]
 simp only [je]
 have hL1:Ev (fun n=>qcT (places b.Ab) n (vecC (fun _=>0) b.Aj.length) 0) (vecC (fun k=>snkN b.Ab (k:Int)) b.Aj.length,((places b.Ab).length:Int)):=by
  refine loopF (Lf:=qcT (places b.Ab)) (S:=fun j=>vecC (fun k=>cntP (snkQ b.Ab (k:Int)) j) b.Aj.length) (len:=(places b.Ab).length) (fun n=>?_) (fun j hj X hX=>?_)
  ·simp only [qcT,qh (jf _),cond_false];rfl
  ·simp only [qcT,qe hj,cond_true,qS hj,je,wS j]
   obtain ⟨n0,n1⟩:=qk3 hd hj
   cases h1:(gt (places b.Ab) j).drives
   ·have hc:cntP (snkQ b.Ab (((gt (places b.Ab) j).net.toNat:Nat):Int)) j≤j:=qeR
    obtain ⟨e1,e2⟩:=qkJ (c:=fun k=>cntP (snkQ b.Ab (k:Int)) j) (c':=fun k=>cntP (snkQ b.Ab (k:Int)) (j+1)) (x:=(gt (places b.Ab) j).net) (m:=b.Aj.length) n0 (by omega) (by show cntP _ _<_;omega) (fun k _=>by
     show cntP _ j+(bif snkQ b.Ab (k:Int) j then 1 else 0)=_
     unfold snkQ
     rw [h1,Bool.not_false,Bool.and_true])
    simp only [Bool.not_false,cond_true,je,e1,e2]
    exact hX
   ·have:vecC (fun k=>cntP (snkQ b.Ab (k:Int)) (j+1)) b.Aj.length=vecC (fun k=>cntP (snkQ b.Ab (k:Int)) j) b.Aj.length:=by
     refine qjG (fun k _=>?_)
     show cntP _ j+(bif snkQ b.Ab (k:Int) j then 1 else 0)=_
     unfold snkQ
     rw [h1,Jj,Bool.and_false];rfl
    rw [this] at hX
    exact hX
 have hL2:Ev (fun n=>qeH b (vecC (fun k=>snkN b.Ab (k:Int)) b.Aj.length) n 0) (bif allN (fun j=>wireB (gt b.Aj j) (snkN b.Ab (j:Int))) b.Aj.length then .nxt (b.Aj.length:Int) else .ret false):=by
  refine qeZ ?_ (fun j hj X hX=>Ev.succ ?_)
  ·exact Ev.succ (by simp only [qeH,qh (jf _),cond_false];exact .done)
  ·simp only [qeH,qe hj,cond_true,qS hj,qjY hj,je,wS j]
   exact Ev.chk1 (qt5 (qh4 h.Aj hj)) fun _=>hX
 refine Ev.bind (qmi hs) (Ev.bind hL1 (Ev.bind hL2 ?_))
 cases allN (fun j=>wireB (gt b.Aj j) (snkN b.Ab (j:Int))) b.Aj.length<;>exact .done
theorem qon {b:qg} (h:qb6 b):Ev (fun n=>qhz n b) (blockB b):=by
 have hwl:=h.Aj.len
 unfold qhz blockB
 refine Ev.guardB (Ev.or (qnl h.Ai h.Ab) fun _=>.done) fun hb=>?_
 rw [ji] at hb
 have hs:=qw hb.1
 have hL:Ev (fun n=>qeD b n 0) (bif allN (fun j=>wireB (gt b.Aj j) (snkN b.Ab (j:Int))) b.Aj.length then .nxt (b.Aj.length:Int) else .ret false):=by
  refine qeZ ?_ (fun j hj X hX=>Ev.succ ?_)
  ·exact Ev.succ (by simp only [qeD,qh (jf _),cond_false];exact .done)
  ·simp only [qeD,qe hj,cond_true,qS hj,je,wS j]
   refine Ev.bind (qol hs) ?_
   rw [qfT]
   exact Ev.chk1 (qtc (qh4 h.Aj hj)) fun _=>hX
 refine Ev.bind hL ?_
 cases allN (fun j=>wireB (gt b.Aj j) (snkN b.Ab (j:Int))) b.Aj.length<;>exact .done
end Go.Fw


namespace Go.Fw
open Go
set_option maxRecDepth 100000
def off (d:qf) (i:Nat):Nat:=(plI d i).length
def place1 (d:qf) (i k:Nat):Tplace:=⟨(i:Int),(k:Int),at0 (gt d.Aa i).Af k,decide (k+1=(gt d.Aa i).Af.length)⟩
def place2 (d:qf) (i:Nat):Tplace:=⟨-1,(i:Int),(gt d.Ac i).Bp,(gt d.Ac i).Bl==1⟩
theorem qnx {d:qf} {i:Nat}:off d (i+1)=off d i+(gt d.Aa i).Af.length:=by
 unfold off;rw [ql2,jo,qoX]
theorem qkk {d:qf}:(places d).length=off d d.Aa.length+d.Ac.length:=by
 unfold places off;rw [jo,qoV]
theorem qxe {d:qf} {n i k:Nat} (hi:i<n) (hk:k<(gt d.Aa i).Af.length):off d i+k<off d n∧gt (plI d n) (off d i+k)=place1 d i k:=by
 induction n with
 | zero=>omega
 | succ n ih =>
  rw [ql2,qoc]
  rcases Nat.lt_succ_iff_lt_or_eq.1 hi with h|rfl
  ·obtain ⟨h1,h2⟩:=ih h
   refine ⟨by rw [qnx];omega,?_⟩
   rw [if_pos (show off d i+k<(plI d n).length from h1),h2]
  ·refine ⟨by rw [qnx];omega,?_⟩
   rw [if_neg (by unfold off;omega),show off d i+k-(plI d i).length=k by unfold off;omega]
   exact qrv hk
theorem qkN {d:qf} {i k:Nat} (hi:i<d.Aa.length) (hk:k<(gt d.Aa i).Af.length):off d i+k<(places d).length∧gt (places d) (off d i+k)=place1 d i k:=by
 obtain ⟨h1,h2⟩:=qxe hi hk
 refine ⟨by rw [qkk];omega,?_⟩
 unfold places
 rw [qoc,if_pos (show off d i+k<(plI d d.Aa.length).length from h1),h2]
theorem qqi {d:qf} {i:Nat} (hi:i<d.Ac.length):off d d.Aa.length+i<(places d).length∧gt (places d) (off d d.Aa.length+i)=place2 d i:=by
 refine ⟨by rw [qkk];omega,?_⟩
 unfold places
 rw [qoc,if_neg (by unfold off;omega),show off d d.Aa.length+i-(plI d d.Aa.length).length=i by unfold off;omega]
 exact qrv hi
theorem qua {d:qf} {n j:Nat} (hj:j<off d n):∃ i k,i<n∧k<(gt d.Aa i).Af.length∧j=off d i+k:=by
 induction n with
 | zero=>exact absurd hj (Nat.not_lt_zero _)
 | succ n ih =>
  by_cases h:j<off d n
  ·obtain ⟨i,k,h1,h2,h3⟩:=ih h
   exact ⟨i,k,by omega,h2,h3⟩
  ·rw [qnx] at hj
   exact ⟨n,j-off d n,by omega,by omega,by omega⟩
theorem qfG {d:qf} {j:Nat} (hj:j<(places d).length) :
  (∃ i k,i<d.Aa.length∧k<(gt d.Aa i).Af.length∧j=off d i+k∧gt (places d) j=place1 d i k) ∨
  (∃ i,i<d.Ac.length∧j=off d d.Aa.length+i∧gt (places d) j=place2 d i):=by
 rw [qkk] at hj
 by_cases h:j<off d d.Aa.length
 ·obtain ⟨i,k,h1,h2,rfl⟩:=qua h
  exact .inl ⟨i,k,h1,h2,rfl,(qkN h1 h2).2⟩
 ·refine .inr ⟨j-off d d.Aa.length,by omega,by omega,?_⟩
  have:=(qqi (d:=d) (i:=j-off d d.Aa.length) (by omega)).2
  rwa [show off d d.Aa.length+(j-off d d.Aa.length)=j by omega] at this
def drvQ (d:qf) (k:Int) (j:Nat):Bool:=((gt (places d) j).net==k)&&(gt (places d) j).drives
theorem qrQ {q:Nat→Bool} {m n:Nat}:cntP q (m+n)=cntP q m+cntP (fun j=>q (m+j)) n:=by
 induction n with
 | zero=>rfl
 | succ n ih =>
  show cntP q (m+n)+(bif q (m+n) then 1 else 0)=cntP q m+(cntP (fun j=>q (m+j)) n+(bif q (m+n) then 1 else 0))
  rw [ih];omega
theorem quO {q:Nat→Bool} {n:Nat} {b:Bool} (h:1≤n) (h1:∀ j,j+1<n→q j=false) (h2:q (n-1)=b):cntP q n=bif b then 1 else 0:=by
 obtain ⟨m,rfl⟩:∃ m,n=m+1:=⟨n-1,by omega⟩
 show cntP q m+(bif q m then 1 else 0)=_
 rw [qmj.2 (fun j hj=>h1 j (by omega)),show m=m+1-1 by omega,h2,Ji]
theorem qtu {d:qf} {k:Nat} (hs:smallD d):cntP (drvQ d (k:Int)) (places d).length=drvI d k d.Aa.length+drvP d k d.Ac.length:=by
 rw [qkk,qrQ]
 congr 1
 ·have:∀ n,n≤d.Aa.length→cntP (drvQ d (k:Int)) (off d n)=drvI d k n:=by
   intro n
   induction n with
   | zero=>intro _;rfl
   | succ n ih =>
    intro hn
    rw [qnx,qrQ,ih (by omega),qob]
    congr 1
    have h2:=(hs.nx n (by omega)).1
    refine quO (by omega) (fun j hj=>?_) ?_
    ·show drvQ d _ (off d n+j)=false
     unfold drvQ
     rw [(qkN (by omega) (by omega)).2]
     unfold place1
     simp;omega
    ·show drvQ d _ (off d n+_)=_
     unfold drvQ
     rw [(qkN (by omega) (by omega)).2]
     unfold place1 lastN
     simp;omega
  exact this _ (jf _)
 ·refine qtn (fun j hj=>?_)
  show drvQ d _ (off d _+j)=_
  unfold drvQ
  rw [(qqi hj).2]
  unfold place2
  exact Bool.and_comm _ _
theorem qtZ {l:qn} {d:qf} (h:designB l d=true) {k:Nat} (hk:k<d.Af.length):cntP (drvQ d (k:Int)) (places d).length=1:=by
 rw [qtu (qw h)]
 unfold designB drvB at h
 simp only [ji] at h
 have:=qaK.1 h.2.2.2 k hk
 rw [beq_iff_eq] at this
 omega
theorem qsm {l:qn} {d:qf} (h:designB l d=true) {i j:Nat} (hi:i<(places d).length) (hj:j<(places d).length) (he:(gt (places d) i).net=(gt (places d) j).net) (h1:(gt (places d) i).drives=true) (h2:(gt (places d) j).drives=true):i=j:=by
 obtain ⟨n0,n1⟩:=qk3 h hi
 have e:=qpk n0
 have:=qtZ h (k:=(gt (places d) i).net.toNat) (by omega)
 refine qrC (Nat.le_of_eq this) hi hj ?_ ?_
 ·unfold drvQ;rw [←e,h1];simp
 ·unfold drvQ;rw [←e,h2,he];simp
theorem qxh {l:qn} {d:qf} (h:designB l d=true) {k:Int} (h0:0≤k) (h1:k<d.Af.length):∃ j,j<(places d).length∧(gt (places d) j).net=k∧(gt (places d) j).drives=true:=by
 have e:=qpk h0
 have:=qtZ h (k:=k.toNat) (by omega)
 have hp:decide (0<cntP (drvQ d ((k.toNat:Nat):Int)) (places d).length)=true:=by rw [this];rfl
 rw [qrZ,jO,qlh] at hp
 obtain ⟨j,hj,hq⟩:=hp
 rw [Bool.not_eq_false',←e] at hq
 unfold drvQ at hq
 simp only [ji,beq_iff_eq] at hq
 exact ⟨j,hj,hq.1,hq.2⟩
def cellAt (b:qg) (i:Int):qp:=gt b.Ai.Ah (gt b.Ab.Aa i.toNat).Ba.toNat
theorem qis {l:qn} {d:qf} (h:designB l d=true) {i:Nat} (hi:i<d.Aa.length) :
  (0≤(gt d.Aa i).Ba∧(gt d.Aa i).Ba<l.Ah.length)∧(gt d.Aa i).Af.length=(gt l.Ah (gt d.Aa i).Ba.toNat).Am.length∧cellB (gt l.Ah (gt d.Aa i).Ba.toNat)=true:=by
 unfold designB libB at h
 simp only [ji] at h
 obtain ⟨⟨⟨hc,_⟩,_⟩,hI,_⟩:=h
 rw [qii,qaK] at hI hc
 have:=hI i hi
 unfold instB at this
 simp only [ji,qcU,beq_iff_eq] at this
 exact ⟨⟨this.1.1,by omega⟩,by omega,hc _ (by omega)⟩
theorem qsy {c:qp} (h:cellB c=true) {j:Nat} (hj:j<c.Ap.length):(1≤(gt c.Ap j).Ar∧(gt c.Ap j).Ar≤5)∧(0≤(gt c.Ap j).Au∧(gt c.Ap j).Au<(c.Am.length:Int)-1)∧(0≤(gt c.Ap j).To∧(gt c.Ap j).To≤(c.Am.length:Int)-1)∧arcS c.Am (gt c.Ap j)=true:=by
 unfold cellB at h
 simp only [ji] at h
 obtain ⟨_,hp,⟨ha,_⟩,_,_,hk⟩:=h
 have:=qaK.1 ha j hj
 rw [ji,qve hp (qqQ hk)] at this
 have h1:=this.1
 refine ⟨qqv h1,?_⟩
 have h2:=h1
 unfold arcS at h2
 simp only [ji,qcU] at h2
 refine ⟨⟨h2.1.1.1,by omega⟩,h2.1.2,h1⟩
theorem qm3 {c:qp} (h:cellB c=true):c.Ap.length≤8:=by
 unfold cellB at h
 simp only [ji,decide_eq_true_eq] at h
 exact h.2.2.1.2
theorem qP {b:qg} (h:blockB b=true):designB b.Ai b.Ab=true:=by
 unfold blockB at h;simp only [ji] at h;exact h.1.1
end Go.Fw


namespace Go.Fw
open Go
set_option maxRecDepth 100000
theorem qqw {d:qf} {k:Int} {n i:Nat} (hi:i<(sinksL d k n).length):∃ y:Nat,y<n∧idx (sinksL d k n) (i:Int)=some (y:Int)∧snkQ d k y=true:=by
 rw [qaW hi]
 have hm:(sinksL d k n)[i] ∈ sinksL d k n:=jp hi
 generalize (sinksL d k n)[i]=z at hm
 unfold sinksL at hm
 obtain ⟨y,hy,rfl⟩:=List.mem_map.1 hm
 obtain ⟨h1,h2⟩:=List.mem_filter.1 hy
 exact ⟨y,List.mem_range.1 h1,rfl,h2⟩
theorem qqa {d:qf} {k:Int} (h:smallD d):Ev (fun n=>qgf n d k) (sinksL d k (places d).length):=by
 have hl:=qZ h
 have hL:Ev (fun n=>qaQ k (places d) n ([]:List Int) 0) (sinksL d k (places d).length,((places d).length:Int)):=by
  refine loopF (Lf:=qaQ k (places d)) (S:=fun j=>sinksL d k j) (len:=(places d).length) (fun n=>?_) (fun j hj X hX=>?_)
  ·simp only [qaQ,qh (jf _),cond_false]
  ·have hc:(sinksL d k j).length+[(j:Int)].length≤2147483648:=by
    rw [qfT]
    have:cntP (snkQ d k) j≤j:=qeR
    simp;omega
   simp only [qaQ,qe hj,cond_true,qS hj,je,wS j]
   rw [qkp] at hX
   unfold snkQ at hX
   cases h1:((gt (places d) j).net==k)
   ·rw [h1] at hX
    simp only [Bool.false_and,cond_false,jM] at hX ⊢
    exact hX
   ·cases h2:(gt (places d) j).drives
    ·rw [h1,h2] at hX
     simp only [Bool.not_false,Bool.and_self,cond_true,qcc hc,je] at hX ⊢
     exact hX
    ·rw [h1,h2] at hX
     simp only [Jj,Bool.and_false,cond_false,jM,cond_true] at hX ⊢
     exact hX
 unfold qgf
 exact Ev.bind (qmi h) (Ev.bind hL .done)
structure wireOk (b:qg) (i:Nat):Prop where
 lo:1≤(gt b.Aj i).Ak.length
 hi:(gt b.Aj i).Ak.length≤8
 res:(gt b.Aj i).Bn.length=(gt b.Aj i).Ak.length
 cap:(gt b.Aj i).Bk.length=(gt b.Aj i).Ak.length
 par:∀ j,0<j→j<(gt b.Aj i).Ak.length→0≤at0 (gt b.Aj i).Ak j∧at0 (gt b.Aj i).Ak j<j
 snk:(gt b.Aj i).Bf.length=(sinksL b.Ab (i:Int) (places b.Ab).length).length
 sin:∀ j,j<(gt b.Aj i).Bf.length→0≤at0 (gt b.Aj i).Bf j∧at0 (gt b.Aj i).Bf j<(gt b.Aj i).Ak.length
theorem qlF {b:qg} (h:blockB b=true) {i:Nat} (hi:i<b.Aj.length):wireOk b i:=by
 unfold blockB at h
 rw [ji,qaK] at h
 have:=h.2 i hi
 unfold wireB lenB at this
 simp only [ji,decide_eq_true_eq,beq_iff_eq] at this
 obtain ⟨⟨h1,h2⟩,h3,h4,h5,_,_,h6,h7⟩:=this
 refine ⟨h1,h2,by omega,by omega,fun j hj0 hj=>?_,?_,fun j hj=>?_⟩
 ·have:=qaK.1 h5 j hj
  unfold treeB at this
  rw [show decide (j=0)=false by simp;omega] at this
  simp only [cond_false,qcU] at this
  omega
 ·rw [qfT]
  unfold snkN at h6
  omega
 ·rw [qhC (d:=0),qaK] at h7
  have:=h7 j hj
  rw [qcU] at this
  unfold at0
  omega
theorem qs3 {b:qg} (h:blockB b=true):b.Aj.length=b.Ab.Af.length:=by
 unfold blockB at h
 simp only [ji,beq_iff_eq] at h
 omega
theorem qvy {b:qg} (h:blockB b=true) {j:Nat} (hj:j<(places b.Ab).length):∃ c,∀ n,qgk n b.Ab b.Ai (gt (places b.Ab) j)=some c:=by
 have hd:=qP h
 rcases qfG hj with ⟨i,k,hi,hk,_,e⟩|⟨i,hi,_,e⟩
 ·rw [e]
  obtain ⟨⟨c0,c1⟩,hn,_⟩:=qis hd hi
  refine ⟨(gt (gt b.Ai.Ah (gt b.Ab.Aa i).Ba.toNat).Am k).Bk,fun n=>?_⟩
  unfold place1
  simp only [qgk,show decide ((i:Int)<0)=false by simp,cond_false,qS hi,je,qgr c0 c1,qS (show k<(gt b.Ai.Ah (gt b.Ab.Aa i).Ba.toNat).Am.length by omega)]
 ·rw [e]
  exact ⟨0,fun n=>rfl⟩
theorem qne {b:qg} (h:blockB b=true) {i:Nat} (hi:i<b.Aj.length):∃ r:List Int,r.length=(gt b.Aj i).Ak.length∧Ev (fun n=>qde n b (i:Int)) r:=by
 have hw:=qlF h hi
 have hs:=qw (qP h)
 have hlo:=hw.lo
 have hhi:=hw.hi
 have hcap:=hw.cap
 have hl:=qZ hs
 obtain ⟨x1,i1,e1⟩:=loopE (Lf:=qbB b (gt b.Aj i) (places b.Ab) (sinksL b.Ab (i:Int) (places b.Ab).length)) (fin:=fun t=>(t,((sinksL b.Ab (i:Int) (places b.Ab).length).length:Int))) (fun _ t=>t.length=(gt b.Aj i).Ak.length) (len:=(sinksL b.Ab (i:Int) (places b.Ab).length).length)
  (fun n t=>by simp only [qbB,qh (jf _),cond_false])
  (fun j t hj ht=>by
   obtain ⟨y,hy,ey,_⟩:=qqw hj
   obtain ⟨c,hc⟩:=qvy h hy
   have hjs:j<(gt b.Aj i).Bf.length:=by rw [hw.snk];exact hj
   have hsn:=hw.sin j hjs
   have hb:j<9223372036854775807:=by
    rw [qfT] at hj
    have:cntP (snkQ b.Ab (i:Int)) (places b.Ab).length≤(places b.Ab).length:=qeR
    omega
   refine ⟨setS t (at0 (gt b.Aj i).Bf j) (W64 (gt t (at0 (gt b.Aj i).Bf j).toNat+c)),by rw [qi3];exact ht,fun X hX=>?_⟩
   simp only [qbB,qe hj,cond_true,ey,je,qbm hjs,qgr hsn.1 (show at0 (gt b.Aj i).Bf j<(t.length:Int) by omega),qS hy,qej hb]
   exact Ev.bind ⟨0,fun n _=>hc n⟩ hX) 0 (jG _) (gt b.Aj i).Bk hcap
 obtain ⟨x2,i2,e2⟩:=loopDn (Lf:=qbC (gt b.Aj i)) (fin:=fun t=>(t,(0:Int))) (fun t=>t.length=(gt b.Aj i).Ak.length) ((gt b.Aj i).Ak.length-1)
  (fun n t=>by simp only [qbC,show decide ((0:Int) > 0)=false from rfl,cond_false])
  (fun j t h0 hj ht=>by
   have hp:=hw.par j h0 (by omega)
   refine ⟨setS t (at0 (gt b.Aj i).Ak j) (W64 (gt t (at0 (gt b.Aj i).Ak j).toNat+gt t j)),by rw [qi3];exact ht,fun X hX=>?_⟩
   simp only [qbC,show decide ((j:Int) > 0)=true by simp;omega,cond_true,qbm (show j<(gt b.Aj i).Ak.length by omega),je,qgr hp.1 (show at0 (gt b.Aj i).Ak j<(t.length:Int) by omega),qS (show j<t.length by omega),show (j:Int)-1=((j-1:Nat):Int) by omega,qau (show -9223372036854775808≤((j-1:Nat):Int) by omega) (by omega)]
   exact hX) x1 i1
 refine ⟨x2,i2,?_⟩
 unfold qde qcX
 rw [qS hi]
 simp only [je,qcc (show ([]:List Int).length+(gt b.Aj i).Bk.length≤2147483648 by simp;omega),List.nil_append]
 refine Ev.bind (qmi hs) (Ev.bind (qqa hs) (Ev.bind e1 ?_))
 rw [qb5 (show (gt b.Aj i).Bk.length≤9223372036854775807 by omega),show ((gt b.Aj i).Bk.length:Int)-1=(((gt b.Aj i).Ak.length-1:Nat):Int) by omega]
 exact Ev.bind e2 .done
theorem qpz {b:qg} (h:blockB b=true) {i:Nat} (hi:i<b.Aj.length):∃ r:List Int,r.length=(gt b.Aj i).Bf.length∧Ev (fun n=>qdS n b (i:Int)) r:=by
 have hw:=qlF h hi
 have hs:=qw (qP h)
 have hlo:=hw.lo
 have hhi:=hw.hi
 have hres:=hw.res
 have hl:=qZ hs
 have hsl:(gt b.Aj i).Bf.length≤78:=by
  rw [hw.snk,qfT]
  have:cntP (snkQ b.Ab (i:Int)) (places b.Ab).length≤(places b.Ab).length:=qeR
  omega
 obtain ⟨r1,l1,e1⟩:=qne h hi
 have hmk:mkS (r1.length:Int) (0:Int)=some (List.replicate r1.length 0):=qhV (by omega)
 obtain ⟨x2,i2,e2⟩:=loopE (Lf:=qbo (gt b.Aj i) r1 (List.replicate r1.length 0)) (fin:=fun t=>(t,(r1.length:Int))) (fun j t=>1≤j∧t.length=(gt b.Aj i).Ak.length) (len:=r1.length)
  (fun n t=>by simp only [qbo,List.length_replicate,qh (jf _),cond_false])
  (fun j t hj ht=>by
   obtain ⟨h1,ht⟩:=ht
   have hp:=hw.par j (by omega) (by omega)
   refine ⟨setS t (j:Int) (W64 (gt t (at0 (gt b.Aj i).Ak j).toNat+W64 (at0 (gt b.Aj i).Bn j*gt r1 j))),⟨by omega,by rw [qi3];exact ht⟩,fun X hX=>?_⟩
   simp only [qbo,List.length_replicate,qe hj,cond_true,qbm (show j<(gt b.Aj i).Ak.length by omega),je,qgr hp.1 (show at0 (gt b.Aj i).Ak j<(t.length:Int) by omega),qbm (show j<(gt b.Aj i).Bn.length by omega),qS hj,qS (show j<t.length by omega),wS j]
   exact hX) 1 (by omega) (List.replicate r1.length 0) ⟨jf _,by rw [List.length_replicate];exact l1⟩
 obtain ⟨x3,i3,e3⟩:=loopE (Lf:=qbd x2 (gt b.Aj i)) (fin:=fun t=>(t,((gt b.Aj i).Bf.length:Int))) (fun j t=>t.length=j) (len:=(gt b.Aj i).Bf.length)
  (fun n t=>by simp only [qbd,qh (jf _),cond_false])
  (fun j t hj ht=>by
   have hsn:=hw.sin j hj
   have hx2:=i2.2
   refine ⟨t++[gt x2 (at0 (gt b.Aj i).Bf j).toNat],by simp [ht],fun X hX=>?_⟩
   simp only [qbd,qe hj,cond_true,qbm hj,je,qgr hsn.1 (show at0 (gt b.Aj i).Bf j<(x2.length:Int) by omega),qcc (show t.length+[gt x2 (at0 (gt b.Aj i).Bf j).toNat].length≤2147483648 by simp;omega),wS j]
   exact hX) 0 (jG _) [] rfl
 refine ⟨x3,i3,?_⟩
 unfold qdS qgc
 rw [qS hi]
 simp only [je]
 refine Ev.bind (b:=x2) (Ev.bind e1 ?_) (Ev.bind e3 .done)
 rw [hmk]
 simp only [je]
 exact Ev.bind e2 .done
end Go.Fw


namespace Go.Fw
open Go
set_option maxRecDepth 100000
instance:Inhabited qa6:=⟨⟨0,0,0,0⟩⟩
instance:Inhabited qO:=⟨⟨0,0⟩⟩
theorem qt2 {α:Type} {m:Nat} {z:α} (h:m≤2147483648):mkS (m:Int) z=some (List.replicate m z):=by
 unfold mkS big
 rw [if_pos ⟨by omega,by omega⟩,jx]
theorem quQ {α:Type} [Inhabited α] {xs:List α} {a k:Nat} {y:α} (h:k ≠ a):gt (xs.set a y) k=gt xs k:=by
 unfold gt
 rw [jK,Jf (by omega),←jK]
theorem qsw {α:Type} [Inhabited α] {xs:List α} {a:Nat} {y:α} (h:a<xs.length):gt (xs.set a y) a=y:=by
 rw [qjJ (by rw [List.length_set];exact h),List.getElem_set_self]
theorem qvL {a:qF}:∃ r:List qO,r.length≤4∧∀ n,qeV n a=some r:=by
 unfold qeV
 simp only [bne,qbw]
 cases (a.Ar==2)
 ·cases (a.Ar==3)
  ·cases (a.Ar==1)
   ·exact ⟨_,by decide,fun _=>rfl⟩
   ·cases (a.Bh==1)
    ·cases (a.Bh==2)
     ·exact ⟨[⟨0,0⟩,⟨0,1⟩,⟨1,0⟩,⟨1,1⟩],by decide,fun _=>rfl⟩
     ·exact ⟨[⟨0,1⟩,⟨1,0⟩],by decide,fun _=>rfl⟩
    ·exact ⟨[⟨0,0⟩,⟨1,1⟩],by decide,fun _=>rfl⟩
  ·exact ⟨[⟨1,0⟩,⟨1,1⟩],by decide,fun _=>rfl⟩
 ·exact ⟨[⟨0,0⟩,⟨0,1⟩],by decide,fun _=>rfl⟩
theorem qqU {b:qg} {first:Int} (h:blockB b=true) {i:Nat} (hi:i<b.Ab.Aa.length):∃ r:List qa6,r.length≤32∧Ev (fun n=>qeL n b (gt b.Ab.Aa i) first) r:=by
 obtain ⟨⟨c0,c1⟩,_,hcb⟩:=qis (qP h) hi
 have ha:=qm3 hcb
 obtain ⟨x1,i1,e1⟩:=loopE (Lf:=qbA first (gt b.Ai.Ah (gt b.Ab.Aa i).Ba.toNat)) (fin:=fun t=>(t,((gt b.Ai.Ah (gt b.Ab.Aa i).Ba.toNat).Ap.length:Int))) (fun j t=>t.length≤4*j) (len:=(gt b.Ai.Ah (gt b.Ab.Aa i).Ba.toNat).Ap.length)
  (fun n t=>by simp only [qbA,qh (jf _),cond_false])
  (fun j t hj ht=>by
   obtain ⟨r,hr,er⟩:=qvL (a:=gt (gt b.Ai.Ah (gt b.Ab.Aa i).Ba.toNat).Ap j)
   obtain ⟨x2,i2,e2⟩:=loopE (Lf:=qbz first (j:Int) (gt (gt b.Ai.Ah (gt b.Ab.Aa i).Ba.toNat).Ap j) r) (fin:=fun t=>(t,(r.length:Int))) (fun k t'=>t'.length=t.length+k) (len:=r.length)
    (fun n t=>by simp only [qbz,qh (jf _),cond_false])
    (fun k t' hk ht'=>⟨t'++[_],by rw [jo,ht',jw];omega,fun X hX=>by
     simp only [qbz,qe hk,cond_true,qS hk,je,wS k]
     rw [qcc (by rw [jw];omega)]
     exact hX⟩) 0 (jG _) t rfl
   refine ⟨x2,by omega,fun X hX=>?_⟩
   simp only [qbA,qe hj,cond_true,qS hj,je,er,wS j]
   exact Ev.bind e2 hX) 0 (jG _) [] (jf _)
 refine ⟨x1,by omega,?_⟩
 unfold qeL
 rw [qgr c0 c1]
 simp only [je]
 exact Ev.bind e1 .done
theorem qs4 {b:qg} (h:blockB b=true):∃ ls lo de,Ev (fun n=>qji n b) (some ⟨b,places b.Ab,ls,lo,de,[]⟩):=by
 have hd:=qP h
 have hs:=qw hd
 have hl:=qZ hs
 have hni:=hs.ni
 have hnn:=hs.nn
 have hwl:=qs3 h
 obtain ⟨⟨x1,z1⟩,i1,e1⟩:=loopE (τ:=List qa6 × Int) (Lf:=fun n t j=>qeF b n t.1 t.2 j) (fin:=fun t=>(t.1,t.2,(b.Ab.Aa.length:Int))) (fun j t=>t.1.length≤32*j) (len:=b.Ab.Aa.length)
  (fun n t=>by simp only [qeF,qh (jf _),cond_false])
  (fun j t hj ht=>by
   obtain ⟨r,hr,er⟩:=qqU (first:=t.2) h hj
   refine ⟨(t.1++r,W64 (t.2+((gt b.Ab.Aa j).Af.length:Int))),by rw [jo];omega,fun X hX=>?_⟩
   simp only [qeF,qe hj,cond_true,qS hj,je,qas,wS j]
   have ht':t.1.length≤32*j:=ht
   refine Ev.bind er ?_
   rw [qcc (show t.1.length+r.length≤2147483648 by omega)]
   exact hX) 0 (jG _) ([],0) (jf _)
 have hm1:mkS (b.Aj.length:Int) (0:Int)=some (List.replicate b.Aj.length 0):=qt2 (by omega)
 have hm2:mkS (b.Aj.length:Int) ([]:List Int)=some (List.replicate b.Aj.length []):=qt2 (by omega)
 obtain ⟨⟨x5,x6⟩,⟨i5,i6,i56⟩,e2⟩:=loopE (τ:=List (List Int) × List Int) (Lf:=fun n t j=>qcN (places b.Ab) n t.1 t.2 j) (fin:=fun t=>(t.1,t.2,((places b.Ab).length:Int))) (fun j t=>t.1.length=b.Aj.length∧t.2.length=b.Aj.length∧∀ k,(gt t.1 k).length≤j) (len:=(places b.Ab).length)
  (fun n t=>by simp only [qcN,qh (jf _),cond_false])
  (fun j t hj ht=>by
   obtain ⟨h1,h2,h3⟩:=ht
   obtain ⟨n0,n1⟩:=qk3 hd hj
   cases hdr:(gt (places b.Ab) j).drives
   ·refine ⟨(setS t.1 (gt (places b.Ab) j).net (gt t.1 (gt (places b.Ab) j).net.toNat++[(j:Int)]),t.2),⟨by rw [qi3];exact h1,h2,fun k=>?_⟩,fun X hX=>?_⟩
    ·show (gt (t.1.set _ _) k).length≤j+1
     by_cases hk:k=(gt (places b.Ab) j).net.toNat
     ·subst hk
      rw [qsw (by omega),jo,jw]
      have:=h3 (gt (places b.Ab) j).net.toNat
      omega
     ·rw [quQ hk]
      have:=h3 k
      omega
    ·have:=h3 (gt (places b.Ab) j).net.toNat
     simp only [qcN,qe hj,cond_true,qS hj,je,hdr,cond_false,qgr n0 (show (gt (places b.Ab) j).net<(t.1.length:Int) by omega),wS j]
     rw [qcc (by rw [jw];omega)]
     exact hX
   ·refine ⟨(t.1,setS t.2 (gt (places b.Ab) j).net (j:Int)),⟨h1,by rw [qi3];exact h2,fun k=>Nat.le_succ_of_le (h3 k)⟩,fun X hX=>?_⟩
    simp only [qcN,qe hj,cond_true,qS hj,je,hdr,qgr n0 (show (gt (places b.Ab) j).net<(t.2.length:Int) by omega),wS j]
    exact hX) 0 (jG _) (List.replicate b.Aj.length [],List.replicate b.Aj.length 0) ⟨by simp,by simp,fun k=>by
   have:gt (List.replicate b.Aj.length ([]:List Int)) k=[]:=by
    unfold gt
    rw [jK,List.getElem?_replicate]
    by_cases hk:k<b.Aj.length<;>simp [hk]<;>rfl
   rw [this];exact jf _⟩
 have i5:x5.length=b.Aj.length:=i5
 have i6:x6.length=b.Aj.length:=i6
 have i56:∀ k,(gt x5 k).length≤(places b.Ab).length:=i56
 have hL5:∀ (i4 i5 y7:Int) (y8:Int) (t:List qa6),idx x6 i4=some y8→t.length≤1000000→∃ t',t'.length=t.length+2∧Ev (fun n=>qdv x6 i4 i5 y7 n t 0) (t',2):=by
  intro i4 i5 y7 y8 t hy ht
  obtain ⟨t',h1,h2⟩:=loopE (Lf:=qdv x6 i4 i5 y7) (fin:=fun t=>(t,(2:Int))) (fun k t'=>t'.length=t.length+k) (len:=2)
   (fun n t=>by simp only [qdv];rfl)
   (fun k t' hk ht'=>⟨t'++[_],by rw [jo,ht',jw];omega,fun X hX=>by
    simp only [qdv,show decide ((k:Int)<2)=true by simp;omega,cond_true,hy,je,wS k]
    rw [qcc (by rw [jw];omega)]
    exact hX⟩) 0 (jG _) t rfl
  exact ⟨t',h1,h2⟩
 have hL4:∀ (i4 y8:Int) (y6:List Int) (t:List qa6),idx x6 i4=some y8→y6.length≤78→t.length≤900000→∃ t',t'.length=t.length+2*y6.length∧Ev (fun n=>qdB x6 i4 y6 n t 0) (t',(y6.length:Int)):=by
  intro i4 y8 y6 t hy hy6 ht
  obtain ⟨t',h1,h2⟩:=loopE (Lf:=qdB x6 i4 y6) (fin:=fun t=>(t,(y6.length:Int))) (fun k t'=>t'.length=t.length+2*k) (len:=y6.length)
   (fun n t=>by simp only [qdB,qh (jf _),cond_false])
   (fun k t' hk ht'=>by
    obtain ⟨t2,q1,q2⟩:=hL5 i4 (k:Int) (gt y6 k) y8 t' hy (by omega)
    refine ⟨t2,by omega,fun X hX=>?_⟩
    simp only [qdB,qe hk,cond_true,qS hk,je,wS k]
    exact Ev.bind q2 hX) 0 (jG _) t rfl
  exact ⟨t',h1,h2⟩
 obtain ⟨⟨x8,x9,x10⟩,_,e3⟩:=loopE (τ:=List (List Int) × List Int × List qa6) (Lf:=fun n t j=>qeA b x5 x6 n t.1 t.2.1 t.2.2 j) (fin:=fun t=>(t.1,t.2.1,t.2.2,(b.Aj.length:Int))) (fun j t=>t.1.length=j∧t.2.1.length=j∧t.2.2.length≤448+156*j) (len:=b.Aj.length)
  (fun n t=>by simp only [qeA,qh (jf _),cond_false])
  (fun j t hj ht=>by
   obtain ⟨h1,h2,h3⟩:=ht
   have h1:t.1.length=j:=h1
   have h2:t.2.1.length=j:=h2
   have h3:t.2.2.length≤448+156*j:=h3
   have hw:=qlF h hj
   have hlo:=hw.lo
   obtain ⟨r4,l4,e4⟩:=qne h hj
   obtain ⟨r5,l5,e5⟩:=qpz h hj
   have h6:=i56 j
   have hy8:idx x6 (j:Int)=some (gt x6 j):=qS (by omega)
   obtain ⟨t',q1,q2⟩:=hL4 (j:Int) (gt x6 j) (gt x5 j) t.2.2 hy8 (by omega) (by omega)
   refine ⟨(t.1++[r5],t.2.1++[gt r4 0],t'),⟨by simp [h1],by simp [h2],?_⟩,fun X hX=>?_⟩
   ·show t'.length≤_
    omega
   ·simp only [qeA,qe hj,cond_true,wS j]
    refine Ev.bind e4 ?_
    rw [show idx r4 (0:Int)=some (gt r4 0) from qS (j:=0) (by omega)]
    simp only [je]
    rw [qcc (by rw [jw];omega)]
    simp only [je]
    refine Ev.bind e5 ?_
    rw [qcc (by rw [jw];omega),qS (show j<x5.length by omega)]
    simp only [je]
    exact Ev.bind q2 hX) 0 (jG _) ([],[],x1) ⟨rfl,rfl,by show x1.length≤_;have:x1.length≤32*b.Ab.Aa.length:=i1;omega⟩
 refine ⟨x10,x9,x8,?_⟩
 unfold qji
 refine Ev.bind (qmi hs) (Ev.bind e1 ?_)
 rw [hm1,hm2]
 simp only [je]
 exact Ev.bind e2 (Ev.bind e3 .done)
end Go.Fw


namespace Go.Fw
open Go
set_option maxRecDepth 100000
def clkB (b:qg) (p:Tplace):Bool:=bif decide (p.instance_ ≥ 0) then clkAt (cellAt b p.instance_).Am p.pin else false
theorem qmG {b:qg} {V:Tview} {n j:Nat} (h:blockB b=true) (hV:V.Bj=b) (hj:j<(places b.Ab).length):qck n (some V) (gt (places b.Ab) j)=some (clkB b (gt (places b.Ab) j)):=by
 rcases qfG hj with ⟨i,k,hi,hk,_,e⟩|⟨i,hi,_,e⟩
 ·obtain ⟨⟨c0,c1⟩,hn,_⟩:=qis (qP h) hi
  rw [e]
  unfold place1 clkB clkAt cellAt
  simp only [qck,show decide ((i:Int) ≥ 0)=true by simp,cond_true,je,hV,qS hi,qgr c0 c1,qS (show k<(gt b.Ai.Ah (gt b.Ab.Aa i).Ba.toNat).Am.length by omega),jx]
 ·rw [e];rfl
theorem qnt {b:qg} {j:Nat} (hok:qb6 b) (h:blockB b=true) (hj:j<(places b.Ab).length):Ev (fun n=>qhh n b.Ai b.Ab (j:Int)) (toSp (gt (places b.Ab) j),true):=by
 have hd:=qP h
 have hs:=qw hd
 have hl:=qZ hs
 unfold qhh
 refine Ev.bind (qnl hok.Ai hok.Ab) (Ev.ff (by rw [hd];rfl) (Ev.bind (qhf hs) ?_))
 simp only [qer,je,jN,qb5 (show (places b.Ab).length≤9223372036854775807 by omega)]
 rw [show inI (j:Int) 0 (((places b.Ab).length:Int)-1)=true from qcU.2 ⟨by omega,by omega⟩]
 simp only [Jj,cond_false]
 rw [qS (show j<((places b.Ab).map toSp).length by simpa using hj),qnY hj]
 exact .done
theorem qlU {b:qg} {j:Nat} (hok:qb6 b) (h:blockB b=true) (hj:j<(places b.Ab).length):Ev (fun n=>qf6 n b (j:Int)) (clkB b (gt (places b.Ab) j)):=by
 unfold qf6
 refine Ev.bind (qnt hok h hj) ?_
 rcases qfG hj with ⟨i,k,hi,hk,_,e⟩|⟨i,hi,_,e⟩
 ·obtain ⟨⟨c0,c1⟩,hn,_⟩:=qis (qP h) hi
  rw [e]
  unfold place1 clkB clkAt cellAt toSp
  simp only [qgD,show decide ((i:Int) ≥ 0)=true by simp,cond_true,je,qS hi,qgr c0 c1,qS (show k<(gt b.Ai.Ah (gt b.Ab.Aa i).Ba.toNat).Am.length by omega),jx]
  exact .done
 ·rw [e];exact .done
theorem qp0 {b:qg} {j:Nat} (hok:qb6 b) (h:blockB b=true) (hj:j<(places b.Ab).length):Ev (fun n=>qhb n b.Ai b.Ab (j:Int)) (gt (places b.Ab) j).net:=by
 unfold qhb
 exact Ev.bind (qnt hok h hj) .done
theorem qrs {b:qg} {k:Int} (h:blockB b=true) {j:Nat} (hj:j<(places b.Ab).length) (hk:(gt (places b.Ab) j).net=k) (hdr:(gt (places b.Ab) j).drives=true):Ev (fun n=>qhX n b.Ab k) (j:Int):=by
 have hd:=qP h
 have hs:=qw hd
 have hl:=qZ hs
 have e:ixL (fun q:Tl05Place=>(q.net==k)&&q.drives) ((places b.Ab).map toSp)=(j:Int):=by
  refine qvw (by simpa using hj) ?_ (fun i hi hq=>?_)
  ·rw [qnY hj]
   show (((gt (places b.Ab) j).net==k)&&(gt (places b.Ab) j).drives)=true
   rw [hk,hdr];simp
  ·have hi':i<(places b.Ab).length:=by simpa using hi
   rw [qnY hi'] at hq
   have hq':(((gt (places b.Ab) i).net==k)&&(gt (places b.Ab) i).drives)=true:=hq
   simp only [ji,beq_iff_eq] at hq'
   exact qsm hd hi' hj (by rw [hq'.1,hk]) hq'.2 hdr
 unfold qhX
 refine Ev.bind (qhf hs) ?_
 rw [←e]
 exact qdF (fin:=(((places b.Ab).map toSp).length:Int)) (Lf:=qcz k ((places b.Ab).map toSp)) (pf:=fun _ q=>some ((q.net==k)&&q.drives)) (fun _ _=>.done)
  (fun n=>by simp only [qcz,qh (jf _),cond_false])
  (fun n j x hx=>by
   have hj:=(List.getElem?_eq_some_iff.1 hx).1
   have hj':j<(places b.Ab).length:=by simpa using hj
   simp only [qcz,qe hj,cond_true,qW hx,je,wS j]
   cases (x.net==k)<;>cases x.drives<;>rfl)
  (fun n=>by congr 1;funext o;cases o<;>rfl)
theorem qtf {b:qg} {i k:Nat} (h:blockB b=true) (hi:i<b.Ab.Aa.length) (hk:k<(gt b.Ab.Aa i).Af.length):Ev (fun n=>qhR n b.Ab (i:Int) (k:Int)) ((off b.Ab i+k:Nat):Int):=by
 have hd:=qP h
 have hs:=qw hd
 have hl:=qZ hs
 obtain ⟨hj,ej⟩:=qkN hi hk
 have e:ixL (fun q:Tl05Place=>(q.instance_==(i:Int))&&(q.pin==(k:Int))) ((places b.Ab).map toSp)=((off b.Ab i+k:Nat):Int):=by
  refine qvw (by simpa using hj) ?_ (fun m hm hq=>?_)
  ·rw [qnY hj,ej]
   unfold place1 toSp
   simp
  ·have hm':m<(places b.Ab).length:=by simpa using hm
   rw [qnY hm'] at hq
   rcases qfG hm' with ⟨i',k',hi',hk',em,e'⟩|⟨i',hi',em,e'⟩
   ·rw [e'] at hq
    unfold place1 toSp at hq
    simp only [ji,beq_iff_eq] at hq
    obtain rfl:i'=i:=by omega
    obtain rfl:k'=k:=by omega
    exact em
   ·rw [e'] at hq
    unfold place2 toSp at hq
    simp only [ji,beq_iff_eq] at hq
    omega
 unfold qhR
 refine Ev.bind (qhf hs) ?_
 rw [←e]
 exact qdF (fin:=(((places b.Ab).map toSp).length:Int)) (Lf:=qdw (i:Int) (k:Int) ((places b.Ab).map toSp)) (pf:=fun _ q=>some ((q.instance_==(i:Int))&&(q.pin==(k:Int)))) (fun _ _=>.done)
  (fun n=>by simp only [qdw,qh (jf _),cond_false])
  (fun n j x hx=>by
   have hj:=(List.getElem?_eq_some_iff.1 hx).1
   have hj':j<(places b.Ab).length:=by simpa using hj
   simp only [qdw,qe hj,cond_true,qW hx,je,wS j]
   cases (x.instance_==(i:Int))<;>cases (x.pin==(k:Int))<;>rfl)
  (fun n=>by congr 1;funext o;cases o<;>rfl)
def freeB (b:qg) (y:Int):Bool:=!clkB b (gt (places b.Ab) y.toNat)
def dataB (c:qp) (pin:Int):Bool:=c.Ap.any fun a=>(a.Au==pin)&&decide (a.Ar≤3)
def succL (b:qg) (j:Nat):List Int :=
 bif (gt (places b.Ab) j).drives then (sinksL b.Ab (gt (places b.Ab) j).net (places b.Ab).length).filter (freeB b)
 else bif decide ((gt (places b.Ab) j).instance_<0) then []
 else bif dataB (cellAt b (gt (places b.Ab) j).instance_) (gt (places b.Ab) j).pin then [(j:Int)-(gt (places b.Ab) j).pin+(((cellAt b (gt (places b.Ab) j).instance_).Am.length:Int)-1)] else []
theorem qsR {c:qp} {p:Tplace} (hc:cellB c=true):Ev (fun n=>qac n c.Ap p) (dataB c p.pin):=by
 have ha:=qm3 hc
 unfold qac
 refine Ev.bind (b:=ixL (fun a:qF=>(a.Au==p.pin)&&decide (a.Ar≤3)) c.Ap) (qdF (fin:=(c.Ap.length:Int)) (Lf:=qC c.Ap p) (pf:=fun n x=>qdP n x p) (fun x hx=>?_)
  (fun n=>by simp only [qC,qh (jf _),cond_false])
  (fun n j x hx=>by
   have hj:=(List.getElem?_eq_some_iff.1 hx).1
   simp only [qC,qe hj,cond_true,qW hx,je,wS j])
  (fun n=>by unfold qaM;congr 1;funext o;cases o<;>rfl)) (Ev.now (by rw [qig];rfl))
 obtain ⟨j,hj,rfl⟩:=jI hx
 have hk:=(qsy hc hj).1
 rw [qjJ hj] at hk
 refine ⟨0,fun n _=>?_⟩
 have e:decide (c.Ap[j].Ar≤3)=((c.Ap[j].Ar==1) || ((c.Ap[j].Ar==2) || (c.Ap[j].Ar==3))):=by
  rw [jk];simp;omega
 rw [e]
 unfold qdP qjF
 cases (c.Ap[j].Ar==1)<;>cases (c.Ap[j].Ar==2)<;>cases (c.Ap[j].Ar==3)<;>simp
theorem qkt {b:qg} {V:Tview} {j:Nat} (h:blockB b=true) (hV:V.Bj=b) (hP:V.places=places b.Ab) (hj:j<(places b.Ab).length):Ev (fun n=>qbH n (some V) (j:Int)) (succL b j):=by
 have hd:=qP h
 have hs:=qw hd
 have hl:=qZ hs
 unfold qbH succL
 simp only [je,hP,qS hj]
 refine Ev.iff (fun _=>?_) (fun _=>Ev.iff (fun _=>.done) (fun h0=>?_))
 ·have hL:Ev (fun n=>qao (some V) V (gt (places b.Ab) j) n ([]:List Int) 0) ((sinksL b.Ab (gt (places b.Ab) j).net (places b.Ab).length).filter (freeB b),((places b.Ab).length:Int)):=by
   refine loopF (Lf:=qao (some V) V (gt (places b.Ab) j)) (S:=fun m=>(sinksL b.Ab (gt (places b.Ab) j).net m).filter (freeB b)) (len:=(places b.Ab).length) (fun n=>?_) (fun m hm X hX=>?_)
   ·simp only [qao,hP,qh (jf _),cond_false]
   ·have hc:((sinksL b.Ab (gt (places b.Ab) j).net m).filter (freeB b)).length+[(m:Int)].length≤2147483648:=by
     have h1:=Je (freeB b) (sinksL b.Ab (gt (places b.Ab) j).net m)
     rw [qfT] at h1
     have:cntP (snkQ b.Ab (gt (places b.Ab) j).net) m≤m:=qeR
     rw [jw];omega
    simp only [qao,hP,qe hm,cond_true,qS hm,je,qmG h hV hm,wS m]
    rw [qkp] at hX
    unfold snkQ at hX
    cases h1:((gt (places b.Ab) m).net==(gt (places b.Ab) j).net)
    ·rw [h1] at hX
     simp only [Bool.false_and,cond_false,jM] at hX ⊢
     exact hX
    ·cases h2:(gt (places b.Ab) m).drives
     ·rw [h1,h2] at hX
      simp only [Bool.not_false,Bool.and_self,cond_true,List.filter_append] at hX ⊢
      have hf:freeB b (m:Int) = !clkB b (gt (places b.Ab) m):=by unfold freeB;rw [jx]
      cases h3:clkB b (gt (places b.Ab) m)
      ·rw [h3] at hf
       rw [List.filter_cons_of_pos (by rw [hf];rfl),List.filter_nil] at hX
       simp only [Bool.not_false,cond_true,qcc hc,je]
       exact hX
      ·rw [h3] at hf
       rw [List.filter_cons_of_neg (by rw [hf];decide),List.filter_nil,jM] at hX
       exact hX
     ·rw [h1,h2] at hX
      simp only [Jj,Bool.and_false,cond_false,jM,cond_true] at hX ⊢
      exact hX
  exact Ev.bind hL .done
 ·rcases qfG hj with ⟨i,k,hi,hk,ej,e⟩|⟨i,hi,_,e⟩
  ·obtain ⟨⟨c0,c1⟩,hn,hcb⟩:=qis hd hi
   have hxs:=hs.nx i hi
   rw [e]
   have ec:cellAt b (place1 b.Ab i k).instance_=gt b.Ai.Ah (gt b.Ab.Aa i).Ba.toNat:=by
    unfold cellAt place1;rw [jx]
   rw [ec]
   have e1:∀ n,qgj n V.Bj (place1 b.Ab i k).instance_=some (gt b.Ai.Ah (gt b.Ab.Aa i).Ba.toNat):=by
    intro n
    rw [hV]
    unfold place1
    simp only [qgj,qS hi,qgr c0 c1,je]
   refine Ev.bind ⟨0,fun n _=>e1 n⟩ (Ev.bind (qsR hcb) (Ev.iff (fun _=>?_) (fun _=>.done)))
   simp only [qcm,qbD,je]
   refine Ev.now ?_
   have ep:(place1 b.Ab i k).pin=(k:Int):=rfl
   rw [ep,qb5 (by omega),qau (show -9223372036854775808≤(j:Int)-(k:Int) by omega) (by omega),qau (by omega) (by omega)]
  ·rw [e] at h0
   exact absurd h0 (by show ¬ decide ((-1:Int)<0)=false;decide)
theorem qlK {b:qg} {j:Nat} (hok:qb6 b) (h:blockB b=true) (hj:j<(places b.Ab).length):Ev (fun n=>qga n b (j:Int)) (succL b j):=by
 have hd:=qP h
 have hs:=qw hd
 have hl:=qZ hs
 obtain ⟨n0,n1⟩:=qk3 hd hj
 obtain ⟨jd,hjd,nd,dd⟩:=qxh hd n0 n1
 have hsl:(sinksL b.Ab (gt (places b.Ab) j).net (places b.Ab).length).length≤78:=by
  rw [qfT]
  have:cntP (snkQ b.Ab (gt (places b.Ab) j).net) (places b.Ab).length≤(places b.Ab).length:=qeR
  omega
 unfold qga
 refine Ev.bind (qnt hok h hj) (Ev.bind (qp0 hok h hj) (Ev.bind (qrs h hjd nd dd) ?_))
 have e0:((jd:Int)==(j:Int))=(gt (places b.Ab) j).drives:=by
  rw [jk,beq_iff_eq]
  constructor
  ·intro e
   obtain rfl:jd=j:=by omega
   exact dd
  ·intro hdj
   have:=qsm hd hjd hj nd dd hdj
   omega
 rw [e0]
 unfold succL
 refine Ev.iff (fun _=>?_) (fun _=>Ev.iff (fun _=>.done) (fun h0=>?_))
 ·refine Ev.bind (qol hs) ?_
  have hL:Ev (fun n=>qch b (sinksL b.Ab (gt (places b.Ab) j).net (places b.Ab).length) n ([]:List Int) 0) ((sinksL b.Ab (gt (places b.Ab) j).net (places b.Ab).length).filter (freeB b),((sinksL b.Ab (gt (places b.Ab) j).net (places b.Ab).length).length:Int)):=by
   refine loopF (Lf:=qch b (sinksL b.Ab (gt (places b.Ab) j).net (places b.Ab).length)) (S:=fun m=>((sinksL b.Ab (gt (places b.Ab) j).net (places b.Ab).length).take m).filter (freeB b)) (len:=(sinksL b.Ab (gt (places b.Ab) j).net (places b.Ab).length).length) (fun n=>?_) (fun m hm X hX=>?_)
   ·simp only [qch,qh (jf _),cond_false,jC]
   ·obtain ⟨y,hy,ey,_⟩:=qqw hm
    have hc:(((sinksL b.Ab (gt (places b.Ab) j).net (places b.Ab).length).take m).filter (freeB b)).length+[(y:Int)].length≤2147483648:=by
     have h1:=Je (freeB b) ((sinksL b.Ab (gt (places b.Ab) j).net (places b.Ab).length).take m)
     rw [Jb] at h1
     rw [jw];omega
    have eg:(sinksL b.Ab (gt (places b.Ab) j).net (places b.Ab).length)[m]=(y:Int):=by
     rw [qaW hm] at ey;exact Option.some.inj ey
    rw [js hm,List.filter_append,eg] at hX
    simp only [qch,qe hm,cond_true,ey,je,wS m]
    refine Ev.bind (qlU hok h hy) ?_
    have hf:freeB b (y:Int) = !clkB b (gt (places b.Ab) y):=by unfold freeB;rw [jx]
    cases h3:clkB b (gt (places b.Ab) y)
    ·rw [h3] at hf
     rw [List.filter_cons_of_pos (by rw [hf];rfl),List.filter_nil] at hX
     simp only [Bool.not_false,cond_true,qcc hc,je]
     exact hX
    ·rw [h3] at hf
     rw [List.filter_cons_of_neg (by rw [hf];decide),List.filter_nil,jM] at hX
     exact hX
  exact Ev.bind hL .done
 ·rcases qfG hj with ⟨i,k,hi,hk,ej,e⟩|⟨i,hi,_,e⟩
  ·obtain ⟨⟨c0,c1⟩,hn,hcb⟩:=qis hd hi
   have hxs:=hs.nx i hi
   rw [e]
   have ec:cellAt b (place1 b.Ab i k).instance_=gt b.Ai.Ah (gt b.Ab.Aa i).Ba.toNat:=by
    unfold cellAt place1;rw [jx]
   rw [ec]
   have hA:=qm3 hcb
   have e1:∀ n,qgD n b (toSp (place1 b.Ab i k)).instance_=some (gt b.Ai.Ah (gt b.Ab.Aa i).Ba.toNat):=by
    intro n
    unfold place1 toSp
    simp only [qgD,qS hi,qgr c0 c1,je]
   have e2:Ev (fun n=>qhR n b.Ab (toSp (place1 b.Ab i k)).instance_ (W64 (((gt b.Ai.Ah (gt b.Ab.Aa i).Ba.toNat).Am.length:Int)-1))) ((j:Int)-(k:Int)+(((gt b.Ai.Ah (gt b.Ab.Aa i).Ba.toNat).Am.length:Int)-1)):=by
    have:=qtf h hi (k:=(gt b.Ai.Ah (gt b.Ab.Aa i).Ba.toNat).Am.length-1) (by omega)
    rw [qb5 (by omega),show ((gt b.Ai.Ah (gt b.Ab.Aa i).Ba.toNat).Am.length:Int)-1=(((gt b.Ai.Ah (gt b.Ab.Aa i).Ba.toNat).Am.length-1:Nat):Int) by omega]
    refine this.cast ?_
    omega
   have hL2:Ev (fun n=>qd3 b (toSp (place1 b.Ab i k)) (gt b.Ai.Ah (gt b.Ab.Aa i).Ba.toNat) n 0) (bif ((gt b.Ai.Ah (gt b.Ab.Aa i).Ba.toNat).Ap.all fun a=>!((a.Au==(k:Int))&&decide (a.Ar≤3))) then .nxt ((gt b.Ai.Ah (gt b.Ab.Aa i).Ba.toNat).Ap.length:Int) else .ret [(j:Int)-(k:Int)+(((gt b.Ai.Ah (gt b.Ab.Aa i).Ba.toNat).Am.length:Int)-1)]) :=
    qlS (fun n=>by simp only [qd3,qh (jf _),cond_false]) (fun m hm X hX=>by
     simp only [qd3,qe hm,cond_true,qaW hm,je,wS m]
     rw [show (toSp (place1 b.Ab i k)).pin=(k:Int) from rfl]
     refine Ev.bind (b:=((gt b.Ai.Ah (gt b.Ab.Aa i).Ba.toNat).Ap[m].Au==(k:Int))&&decide ((gt b.Ai.Ah (gt b.Ab.Aa i).Ba.toNat).Ap[m].Ar≤3)) (Ev.andP fun _=>.done) ?_
     cases (((gt b.Ai.Ah (gt b.Ab.Aa i).Ba.toNat).Ap[m].Au==(k:Int))&&decide ((gt b.Ai.Ah (gt b.Ab.Aa i).Ba.toNat).Ap[m].Ar≤3))
     ·exact hX
     ·exact Ev.bind e2 .done)
   refine Ev.bind ⟨0,fun n _=>e1 n⟩ (Ev.bind hL2 ?_)
   have e3:dataB (gt b.Ai.Ah (gt b.Ab.Aa i).Ba.toNat) (place1 b.Ab i k).pin = !((gt b.Ai.Ah (gt b.Ab.Aa i).Ba.toNat).Ap.all fun a=>!((a.Au==(k:Int))&&decide (a.Ar≤3))):=by
    unfold dataB
    rw [show (place1 b.Ab i k).pin=(k:Int) from rfl,jk]
    simp
   rw [e3,show (place1 b.Ab i k).pin=(k:Int) from rfl]
   cases ((gt b.Ai.Ah (gt b.Ab.Aa i).Ba.toNat).Ap.all fun a=>!((a.Au==(k:Int))&&decide (a.Ar≤3)))<;>exact .done
  ·rw [e] at h0
   exact absurd h0 (by show ¬ decide ((-1:Int)<0)=false;decide)
theorem qhp {b:qg} (h:blockB b=true) {j:Nat}:(succL b j).length≤78:=by
 have hs:=qw (qP h)
 have hl:=qZ hs
 unfold succL
 cases (gt (places b.Ab) j).drives
 ·cases decide ((gt (places b.Ab) j).instance_<0)
  ·cases dataB (cellAt b (gt (places b.Ab) j).instance_) (gt (places b.Ab) j).pin
   ·exact jG _
   ·show 1≤78;omega
  ·exact jG _
 ·have h1:=Je (freeB b) (sinksL b.Ab (gt (places b.Ab) j).net (places b.Ab).length)
  rw [qfT] at h1
  have:cntP (snkQ b.Ab (gt (places b.Ab) j).net) (places b.Ab).length≤(places b.Ab).length:=qeR
  simp only [cond_true]
  omega
def inPl (b:qg) (x:Int):Bool:=inI x 0 (((places b.Ab).length:Int)-1)
end Go.Fw


namespace Go.Fw
open Go
def qeX (x:qa):Prop:=rngI x.Ar∧rngI x.Bb∧(rngL rngI) x.Au∧(rngL rngI) x.Aq∧(rngL rngI) x.To
def qaR (x:qa):Nat:=qab x.Au+qab x.Aq+qab x.To
structure qQ (x:qa):Prop where
 Ar:okI x.Ar
 Bb:okI x.Bb
 Au:(okL okI) x.Au
 Aq:(okL okI) x.Aq
 To:(okL okI) x.To
theorem qpj {x:qa} (h:qeX x) (w:qaR x≤1048576):qQ x:=⟨h.1,h.2.1,qcR (h.2.2.1) (by simp only [qaR] at w;omega),qcR (h.2.2.2.1) (by simp only [qaR] at w;omega),qcR (h.2.2.2.2) (by simp only [qaR] at w;omega)⟩
theorem qq1 {a:qa} (h:qaR a≤1048576):Ev (fun n=>qfr n a a) true:=by
 unfold qfr
 simp only [qaR] at h
 exact Ev.ff qbr (Ev.ff qbr (Ev.bind (qef (a:=a.Au) (by omega)) (Ev.ff rfl (Ev.bind (qef (a:=a.Aq) (by omega)) (Ev.ff rfl (Ev.bind (qef (a:=a.To) (by omega)) (Ev.ff rfl (.done))))))))
def qbf (a:(List qa)):Nat:=a.length+(a.map fun x=>qaR x).sum
theorem qoK {a:(List qa)} (h:(rngL qeX) a) (w:qbf a≤1048576):(okL qQ) a :=
 ⟨by simp only [qbf] at w;omega,fun x hx=>qpj (h.2 x hx) (by have:=qbM (wt:=fun x:qa=>qaR x) hx;simp only [qbf] at w;omega)⟩
theorem qp5 {a:(List qa)} (h:qbf a≤1048576):Ev (fun n=>qgi n a a) true:=by
 have hl:a.length≤1048576:=by simp only [qbf] at h;omega
 unfold qgi
 exact Ev.ff (by simp) (Ev.bind (b:=.nxt (a.length:Int)) (qhU (eqf:=qfr) (fun x hx=>qq1 (by have:=qbM (wt:=fun x:qa=>qaR x) hx;simp only [qbf] at h;omega))
  (fun n=>by simp only [qdh,qh (jf _),cond_false])
  (fun n j x hx=>by
   have hj:=(List.getElem?_eq_some_iff.1 hx).1
   simp only [qdh,qe hj,cond_true,qW hx,je,wS j])) .done)
def qeg (a:(List (List Int))):Nat:=a.length+(a.map fun x=>qab x).sum
theorem qmO {a:(List (List Int))} (h:qeg a≤1048576):Ev (fun n=>qff n a a) true:=by
 have hl:a.length≤1048576:=by simp only [qeg] at h;omega
 unfold qff
 exact Ev.ff (by simp) (Ev.bind (b:=.nxt (a.length:Int)) (qhU (eqf:=qaD) (fun x hx=>qef (by have:=qbM (wt:=fun x:(List Int)=>qab x) hx;simp only [qeg] at h;omega))
  (fun n=>by simp only [qeU,qh (jf _),cond_false])
  (fun n j x hx=>by
   have hj:=(List.getElem?_eq_some_iff.1 hx).1
   simp only [qeU,qe hj,cond_true,qW hx,je,wS j])) .done)
theorem qrr {a:qa} {left:Int} (h:qeX a) (h0:0≤left) (h1:left≤1048576):Sz (fun n=>qe9 n a left) (fun r=>r=left-(qaR a:Int)):=by
 unfold qe9
 obtain ⟨h_0,h_1,h_2,h_3,h_4⟩:=h
 exact Sz.step (qeE (a:=a.Au) h_2 (by omega) (by omega)) fun r0 p0 q0=>Sz.step (qeE (a:=a.Aq) h_3 (by omega) (by omega)) fun r1 p1 q1=>Sz.step (qeE (a:=a.To) h_4 (by omega) (by omega)) fun r2 p2 q2=>Sz.done p2 (by simp only [qaR];omega)
theorem qp8 {a:(List qa)} {left:Int} (h:(rngL qeX) a) (h0:0≤left) (h1:left≤1048576):Sz (fun n=>qhT n a left) (fun r=>r=left-(qbf a:Int)) :=
 Sz.list (Lf:=qcj a) (wt:=fun x:qa=>qaR x) (el:=qe9) h0 h1 h.1 (fun x hx left p q=>qrr (h.2 x hx) p q)
  (fun acc n=>by simp only [qcj,qh (jf _),cond_false])
  (fun acc n j x hx=>by
   have hj:=(List.getElem?_eq_some_iff.1 hx).1
   have hl:=h.1
   simp only [qcj,qe hj,cond_true,qW hx,je,wS j])
  (fun _=>rfl)
theorem qri {a:qa} (h:qaR a≤1048576):Ev (fun n=>qfn n a) a:=by
 unfold qfn
 simp only [qaR] at h
 exact Ev.bind (qex (a:=a.Au) (by omega)) (Ev.bind (qex (a:=a.Aq) (by omega)) (Ev.bind (qex (a:=a.To) (by omega)) (.done)))
theorem qit {a:(List qa)} (h:qbf a≤1048576):Ev (fun n=>qcv n a) a:=by
 have hl:a.length≤1048576:=by simp only [qbf] at h;omega
 unfold qcv
 exact Ev.bindN (qhV (by omega)) (Ev.bind (b:=(a,(a.length:Int))) (qiE (cp:=qfn) (fun x hx=>qri (by have:=qbM (wt:=fun x:qa=>qaR x) hx;simp only [qbf] at h;omega))
  (fun acc n=>by simp only [qdi,qh (jf _),cond_false])
  (fun acc n j x y hx hy=>by
   have hj:=(List.getElem?_eq_some_iff.1 hx).1
   simp only [qdi,qe hj,cond_true,qW hx,qW hy,je,wS j])) .done)
end Go.Fw


namespace Go.Fw
open Go
set_option maxRecDepth 100000
theorem qrn {b:qg} (h:blockB b=true):Ev (fun n=>qbJ n b) ((places b.Ab).length:Int):=by
 unfold qbJ
 exact Ev.bind (qhf (qw (qP h))) (Ev.now (by rw [jN]))
def plsB (b:qg) (xs:List Int):Bool:=decide (xs.length≤4)&&allN (fun j=>inPl b (at0 xs j)) xs.length
def valB (k v:Int):Bool:=bif k==1 then v==0 else bif k==2 then inI v 1 10 else bif (k==3) || (k==4) then inI v 0 1000000000 else false
def excB (b:qg) (e:qa):Bool:=(plsB b e.Au&&(plsB b e.Aq&&plsB b e.To))&&(valB e.Ar e.Bb&&(incB e.Au&&incB e.To))
theorem qlk {b:qg} {xs:List Int} {sorted:Bool} (h:blockB b=true) (hl:xs.length≤1048576):Ev (fun n=>qfE n b xs sorted) (plsB b xs&&(!sorted || incB xs)):=by
 have hpl:=qZ (qw (qP h))
 have hL:Ev (fun n=>qbX b xs sorted n 0) (bif allN (fun j=>inPl b (at0 xs j)&&(!sorted || stepB xs j)) xs.length then .nxt (xs.length:Int) else .ret false):=by
  refine qeZ ?_ (fun j hj X hX=>Ev.succ ?_)
  ·exact Ev.succ (by simp only [qbX,qh (jf _),cond_false];exact .done)
  ·simp only [qbX,qe hj,cond_true,qbm hj,je,qer,wS j]
   refine Ev.bind (qrn h) ?_
   rw [qb5 (show (places b.Ab).length≤9223372036854775807 by omega)]
   simp only [qbw]
   refine Ev.okP (a:=inPl b (at0 xs j)) fun _=>?_
   cases sorted
   ·exact hX
   ·refine Ev.tt rfl ?_
    unfold stepB
    by_cases h0:j=0
    ·subst h0
     exact Ev.ff (by decide) hX
    ·refine Ev.tt (by simp;omega) ?_
     simp only [show (j:Int)-1=((j-1:Nat):Int) by omega,qau (show -9223372036854775808≤((j-1:Nat):Int) by omega) (by omega),qbm (show j-1<xs.length by omega),je]
     rw [show decide (at0 xs (j-1) ≥ at0 xs j) = !decide (at0 xs (j-1)<at0 xs j) by rw [jk];simp,show decide (j=0)=false by simp;omega]
     simp only [qbw,Jj,Jk]
     exact Ev.okP1 fun _=>hX
 unfold qfE
 have e:(plsB b xs&&(!sorted || incB xs))=(allN (fun j=>inPl b (at0 xs j)&&(!sorted || stepB xs j)) xs.length&&decide (xs.length≤4)):=by
  unfold plsB incB
  rw [qkD]
  cases sorted
  ·simp only [Bool.not_false,Bool.true_or,Bool.and_true]
   rw [show allN (fun _=>true) xs.length=true from qaK.2 (fun _ _=>rfl),Bool.and_true,Bool.and_comm]
  ·simp only [Jj,Jk]
   rw [Bool.and_assoc,Bool.and_comm]
 rw [e]
 refine Ev.bind hL ?_
 cases allN (fun j=>inPl b (at0 xs j)&&(!sorted || stepB xs j)) xs.length
 ·exact .done
 ·refine Ev.now ?_
  show some (decide ((xs.length:Int)≤((4:Nat):Int)))=some (true&&decide (xs.length≤4))
  rw [qk6,jJ]
theorem qsV {n:Nat} {k v:Int}:qjg n k v=some (valB k v):=by
 simp only [qjg,qd1,je]
 unfold valB
 cases (k==1)<;>cases (k==2)<;>cases (k==3)<;>cases (k==4)<;>rfl
theorem qpo {b:qg} {V:Tview} {e:qa} (h:blockB b=true) (hP:V.places=places b.Ab) (he:qQ e):Ev (fun n=>qeu n (some V) e) (excB b e):=by
 have hpl:=qZ (qw (qP h))
 have one:∀ xs:List Int,xs.length≤1048576→∀ {F:Nat→Option (Flow Bool Int)} {X:Flow Bool Int},Ev F X →
   Ev (fun n=>bif decide ((xs.length:Int) > 4) then some (.ret false) else (qbI n xs 0 (((places b.Ab).length:Int)-1)).bind fun r2=>bif (!r2) then some (.ret false) else F n) (bif plsB b xs then X else .ret false):=by
  intro xs hx F X hX
  unfold plsB
  rw [show decide ((xs.length:Int) > 4) = !decide (xs.length≤4) from qmm (k:=4)]
  simp only [qbw]
  refine Ev.okP fun _=>Ev.ok1 ((qfN hx).cast (by rw [qhC (d:=0)];rfl)) fun _=>hX
 have hL:Ev (fun n=>qaf (some V) e n 0) (bif plsB b e.Au then (bif plsB b e.Aq then (bif plsB b e.To then .nxt 3 else .ret false) else .ret false) else .ret false):=by
  refine Ev.succ ?_
  simp only [qaf,je,qbk,hP,qb5 (show (places b.Ab).length≤9223372036854775807 by omega)]
  refine one e.Au he.Au.len (F:=fun n=>qaf (some V) e n 1) (Ev.succ ?_)
  simp only [qaf,je,qbk,hP,qb5 (show (places b.Ab).length≤9223372036854775807 by omega)]
  refine one e.Aq he.Aq.len (F:=fun n=>qaf (some V) e n 2) (Ev.succ ?_)
  simp only [qaf,je,qbk,hP,qb5 (show (places b.Ab).length≤9223372036854775807 by omega)]
  refine one e.To he.To.len (F:=fun n=>qaf (some V) e n 3) (Ev.succ ?_)
  exact .done
 unfold qeu excB
 refine Ev.bind hL ?_
 cases plsB b e.Au
 ·exact .done
 ·cases plsB b e.Aq
  ·exact .done
  ·cases plsB b e.To
   ·exact .done
   ·simp only [cond_true,qsV,je,Bool.and_self,jJ]
    exact Ev.andP fun _=>Ev.and (qi7 he.Au.len) fun _=>Ev.last (qi7 he.To.len)
theorem qoE {b:qg} {e:qa} (hok:qb6 b) (he:qQ e):Ev (fun n=>qgK n b e) (blockB b&&excB b e):=by
 have eq:(blockB b&&excB b e)=((blockB b&&((plsB b e.Au&&(!true || incB e.Au))&&((plsB b e.Aq&&(!false || incB e.Aq))&&(plsB b e.To&&(!true || incB e.To)))))&&valB e.Ar e.Bb):=by
  unfold excB
  generalize blockB b=a1
  generalize plsB b e.Au=a2
  generalize plsB b e.Aq=a3
  generalize plsB b e.To=a4
  generalize valB e.Ar e.Bb=a5
  generalize incB e.Au=a6
  generalize incB e.To=a7
  cases a1<;>cases a2<;>cases a3<;>cases a4<;>cases a5<;>cases a6<;>cases a7<;>rfl
 rw [eq]
 unfold qgK
 refine Ev.guardB (Ev.or (qon hok) fun h=>Ev.or (qlk h he.Au.len) fun _=>Ev.or (qlk h he.Aq.len) fun _=>Ev.neg (qlk h he.To.len)) fun _=>?_
 simp only [qer,je]
 unfold valB
 cases (e.Ar==1)<;>cases (e.Ar==2)<;>cases (e.Ar==3)<;>cases (e.Ar==4)<;>exact .done
end Go.Fw


namespace Go.Fw
open Go
set_option maxRecDepth 100000
def hasI (xs:List Int) (y:Int):Bool:=xs.any fun x=>x==y
theorem qqB {xs:List Int} {y:Int} (hl:xs.length≤1048576):Ev (fun n=>qiH n xs y) (ixL (fun x=>x==y) xs) :=
 qdF (fin:=(xs.length:Int)) (Lf:=qfa xs y) (pf:=fun _ x=>some (x==y)) (fun _ _=>.done)
  (fun n=>by simp only [qfa,qh (jf _),cond_false])
  (fun n j x hx=>by
   have hj:=(List.getElem?_eq_some_iff.1 hx).1
   simp only [qfa,qe hj,cond_true,qW hx,je,wS j])
  (fun n=>by unfold qiH;congr 1;funext o;cases o<;>rfl)
theorem qoi {xs:List Int} {y:Int} (hl:xs.length≤1048576):Ev (fun n=>qcV n xs y) (hasI xs y):=by
 unfold qcV
 refine Ev.bind (b:=ixL (fun x=>y==x) xs) (qdF (fin:=(xs.length:Int)) (Lf:=qb1 xs y) (pf:=fun _ x=>some (y==x)) (fun _ _=>.done)
  (fun n=>by simp only [qb1,qh (jf _),cond_false])
  (fun n j x hx=>by
   have hj:=(List.getElem?_eq_some_iff.1 hx).1
   simp only [qb1,qe hj,cond_true,qW hx,je,wS j])
  (fun n=>by unfold qho;congr 1;funext o;cases o<;>rfl)) (Ev.now ?_)
 rw [qig]
 unfold hasI
 congr 2
 funext x
 rw [jk,beq_iff_eq,beq_iff_eq]
 exact eq_comm
theorem qxk {p:Int→Bool} {xs:List Int}:decide (ixL p xs<0) = !xs.any p:=by
 rw [←qig,jk];simp
instance:Inhabited qa:=⟨⟨0,0,[],[],[]⟩⟩
def stepT (e:qa) (found place:Int):Int:=bif decide (found ≥ 0)&&(decide (found<(e.Aq.length:Int))&&(at0 e.Aq found.toNat==place)) then found+1 else found
def fromB (e:qa) (p:Int):Bool:=decide (e.Au.length=0) || hasI e.Au p
def toB (e:qa) (p:Int):Bool:=decide (e.To.length=0) || hasI e.To p
def beginT (e:qa) (p:Int):Int:=bif fromB e p then stepT e 0 p else -1
def runT (e:qa) (path:List Int):Int:=(path.drop 1).foldl (stepT e) (beginT e (at0 path 0))
def matT (e:qa) (found p:Int):Bool:=(found==(e.Aq.length:Int))&&toB e p
theorem quR {e:qa} {p:Int}:stepT e (-1) p=-1:=rfl
theorem qro {e:qa} {found p:Int} (hl:e.Aq.length≤1048576):Ev (fun n=>qbS n e found p) (stepT e found p):=by
 unfold qbS stepT
 simp only [qas,je]
 cases h1:decide (found ≥ 0)
 ·exact .done
 ·cases h2:decide (found<(e.Aq.length:Int))
  ·exact .done
  ·have h1:=of_decide_eq_true h1
   have h2:=of_decide_eq_true h2
   simp only [cond_true,jJ]
   obtain ⟨k,rfl⟩:∃ k:Nat,found=(k:Int):=⟨found.toNat,by omega⟩
   rw [qbm (show k<e.Aq.length by omega),jx]
   simp only [je]
   cases (at0 e.Aq k==p)
   ·exact .done
   ·exact Ev.now (by rw [qau (by omega) (by omega)];rfl)
theorem qwb {e:qa} {p:Int} (he:qQ e):Ev (fun n=>qeI n e p) (beginT e p):=by
 unfold qeI beginT fromB
 have hs:=qro (found:=0) (p:=p) he.Aq.len
 by_cases h0:e.Au.length=0
 ·exact Ev.ff (by simp [h0]) (by rw [decide_eq_true h0];exact Ev.bind hs .done)
 ·refine Ev.tt (by simp;omega) ?_
  rw [decide_eq_false h0,Jk]
  refine Ev.bind (qoi he.Au.len) ?_
  cases hasI e.Au p
  ·exact .done
  ·exact Ev.ff rfl (Ev.bind hs .done)
theorem qs2 {e:qa} {found p:Int} (he:qQ e):Ev (fun n=>qdL n e found p) (matT e found p):=by
 unfold qdL matT toB
 simp only [qas,je]
 refine Ev.andP fun _=>?_
 by_cases h0:e.To.length=0
 ·exact Ev.tt (by simp [h0]) (by rw [decide_eq_true h0];exact .done)
 ·refine Ev.ff (by rw [Bool.eq_false_iff,Ne,beq_iff_eq];omega) ?_
  rw [decide_eq_false h0,Jk]
  exact Ev.last (qoi he.To.len)
theorem quY {α:Type} {xs:List α} (h:1≤xs.length):subS xs 1 (xs.length:Int)=some (xs.drop 1):=by
 unfold subS
 rw [if_pos ⟨by omega,by omega,by omega⟩]
 simp
theorem quG {e:qa} {xs:List Int} {i0:Int} {j:Nat} (h:j<xs.length):stepT e ((xs.take j).foldl (stepT e) i0) (at0 xs j)=(xs.take (j+1)).foldl (stepT e) i0:=by
 rw [js h,List.foldl_append]
 simp [at0,h]
theorem qsN {e:qa} {xs:List Int} {i0:Int} (he:qQ e) (hl:xs.length≤1048576):Ev (fun n=>qe1 e xs n i0 0) (xs.foldl (stepT e) i0,(xs.length:Int)):=by
 have:=loopF (Lf:=qe1 e xs) (S:=fun j=>(xs.take j).foldl (stepT e) i0) (len:=xs.length) (fin:=(xs.foldl (stepT e) i0,(xs.length:Int)))
  (fun n=>by simp only [qe1,qh (jf _),cond_false,jC])
  (fun j hj X hX=>by
   simp only [qe1,qe hj,cond_true,qbm hj,je,wS j]
   refine Ev.bind (qro he.Aq.len) ?_
   rw [quG hj]
   exact hX)
 simpa using this
theorem qvs {es:List qa} {path:List Int} (he:okL qQ es) (h1:1≤path.length) (hl:path.length≤1048576):Ev (fun n=>qio n es path) (es.map fun e=>runT e path):=by
 have hes:=he.len
 have hL:Ev (fun n=>qeY es path n ([]:List Int) 0) (es.map (fun e=>runT e path),(es.length:Int)):=by
  refine loopF (Lf:=qeY es path) (S:=fun j=>(es.take j).map fun e=>runT e path) (len:=es.length) (fun n=>?_) (fun j hj X hX=>?_)
  ·simp only [qeY,qh (jf _),cond_false,jC]
  ·have ha:appS ((es.take j).map fun e=>runT e path) [runT (gt es j) path]=some ((es.take (j+1)).map fun e=>runT e path):=by
    rw [qcc (by rw [jN,Jb,jw];omega),qfS hj]
   have hd:(path.drop 1).length≤1048576:=by rw [List.length_drop];omega
   simp only [qeY,qe hj,cond_true,qS hj,je,wS j,quY h1,show idx path 0=some (at0 path 0) from qbm (j:=0) (by omega)]
   refine Ev.bind (qwb (qh4 he hj)) (Ev.bind (qsN (qh4 he hj) hd) ?_)
   exact Ev.bindN ha hX
 unfold qio
 exact Ev.bind hL .done
end Go.Fw


namespace Go.Fw
open Go
set_option maxRecDepth 100000
def Mk {σ:Type} (F:Nat→Option (Int × σ)) (k:Int) (w:Nat):Prop:=∃ k' x,Ev F (k',x)∧k≤k'∧k'≤k+16*(w:Int)
theorem qry {α:Type} {t:List α} {j:Nat} {y:α} (h:j<t.length):idx (setS t (j:Int) y) (j:Int)=some y:=by
 rw [qaW (by rw [qi3];exact h),quP h]
theorem qqn {α:Type} {t:List α} {i:Int} {y z:α}:setS (setS t i y) i z=setS t i z:=by
 unfold setS;rw [List.set_set]
theorem qqc {α:Type} {a:List α} {wt:α→Nat} {j:Nat} (h:j<a.length):((a.take (j+1)).map wt).sum=((a.take j).map wt).sum+wt a[j]:=by
 rw [js h,jH,List.sum_append];simp
theorem qrI {α:Type} {a:List α} {wt:α→Nat} {j:Nat}:((a.take j).map wt).sum≤(a.map wt).sum:=by
 conv=>rhs;rw [←List.take_append_drop j a]
 rw [jH,List.sum_append]
 exact Nat.le_add_right _ _
theorem qgF {α:Type} {a:List α} {wt:α→Nat} {Lf:Nat→List α→Int→Int→Option (List α × Int × Int)} {F:Nat→Option (Int × List α)} {k:Int} (hk0:0≤k) (hk1:k+16*((a.length+(a.map wt).sum:Nat):Int)≤1000000000000)
  (hend:∀ n t k,Lf (n+1) t k (a.length:Int)=some (t,k,(a.length:Int)))
  (hstep:∀ x,x ∈ a→∀ k:Int,0≤k→k+16*((1+wt x:Nat):Int)≤1000000000000→∃ y k',k≤k'∧k'≤k+16*((1+wt x:Nat):Int) ∧
   ∀ (t:List α) (j:Nat),j<9223372036854775807→j<a.length→j<t.length→t[j]?=some x→∀ X,Ev (fun n=>Lf n (setS t (j:Int) y) k' ((j+1:Nat):Int)) X→Ev (fun n=>Lf (n+1) t k (j:Int)) X)
  (hl:a.length≤1048576)
  (hF:∀ n,F n=(Lf n a k 0).bind fun o=>match o with|(x1,i1,_)=>some (i1,x1)):Mk F k (a.length+(a.map wt).sum):=by
 obtain ⟨⟨t,k'⟩,⟨_,_,h3,h4⟩,e⟩:=loopE (τ:=List α × Int) (Lf:=fun n t j=>Lf n t.1 t.2 j) (fin:=fun t=>(t.1,t.2,(a.length:Int)))
  (fun j t=>t.1.length=a.length∧(∀ i,j≤i→t.1[i]?=a[i]?)∧k≤t.2∧t.2≤k+16*((j+((a.take j).map wt).sum:Nat):Int)) (len:=a.length)
  (fun n t=>hend n t.1 t.2)
  (fun j t hj ht=>by
   obtain ⟨h1,h2,h3,h4⟩:=ht
   have hs:=qqc (wt:=wt) hj
   have hs2:=qrI (a:=a) (wt:=wt) (j:=j+1)
   obtain ⟨y,k',q1,q2,q3⟩:=hstep a[j] (jp hj) t.2 (by omega) (by omega)
   refine ⟨(setS t.1 (j:Int) y,k'),⟨by rw [qi3];exact h1,fun i hi=>?_,by show k≤k';omega,?_⟩,fun X hX=>?_⟩
   ·show (t.1.set _ _)[i]?=_
    rw [Jf (by rw [jx];omega)]
    exact h2 i (by omega)
   ·show k'≤k+_
    rw [hs]
    omega
   ·exact q3 t.1 j (by omega) hj (by omega) (by rw [h2 j (jf _),jg hj]) X hX) 0 (jG _) (a,k) ⟨rfl,fun _ _=>rfl,Int.le_refl _,by show k≤k+_;omega⟩
 rw [jC] at h4
 exact ⟨k',t,Ev.congr hF (Ev.bind e .done),h3,h4⟩
theorem qvz {α:Type} {pre a:List α} {j:Nat} {y:α} (hp:pre.length=j) (hj:j<a.length):setS (pre++a.drop j) (j:Int) y=(pre++[y])++a.drop (j+1):=by
 show (pre++a.drop j).set j y=_
 rw [List.set_append,if_neg (by omega),hp,Nat.sub_self,jD hj,List.set_cons_zero,Jd]
 rfl
def marked (k:Int) (m:Nat):List Int:=(List.range m).map fun (i:Nat)=>k+(i:Int)
theorem qpG {a:List Int} {k:Int} (h0:0≤k) (h1:k≤1000000000000) (hl:a.length≤1048576):Ev (fun n=>qam n a k) (k+(a.length:Int),marked k a.length):=by
 have hL:Ev (fun n=>qcf a n a k 0) (marked k a.length,k+(a.length:Int),(a.length:Int)):=by
  have:=loopF (τ:=List Int × Int) (Lf:=fun n t j=>qcf a n t.1 t.2 j) (S:=fun j=>(marked k j++a.drop j,k+(j:Int))) (len:=a.length) (fin:=(marked k a.length,k+(a.length:Int),(a.length:Int))) (fun n=>by
    simp only [qcf,qh (jf _),cond_false,List.drop_length,jM])
   (fun j hj X hX=>by
    have hp:(marked k j).length=j:=by simp [marked]
    have hlt:j<(marked k j++a.drop j).length:=by rw [jo,hp,List.length_drop];omega
    have hm:marked k (j+1)=marked k j++[k+(j:Int)]:=by unfold marked;rw [jT,jH];rfl
    simp only [qcf,qe hj,cond_true,qaW hlt,je,qvz hp hj,wS j,qau (show -9223372036854775808≤k+(j:Int)+1 by omega) (by omega)]
    rw [←hm]
    rw [show k+(j:Int)+1=k+((j+1:Nat):Int) by omega]
    exact hX)
  simpa [marked] using this
 unfold qam
 exact Ev.bind hL .done
theorem qdt {a:List Int} {k:Int} (h0:0≤k) (h1:k≤1000000000000) (hl:qab a≤1048576):∃ k' x,Ev (fun n=>qam n a k) (k',x)∧k≤k'∧k'≤k+16*(qab a:Int) :=
 ⟨_,_,qpG h0 h1 hl,by omega,by unfold qab;omega⟩
theorem qwi {k:Int} {m:Nat} (h0:0≤k) (h1:k≤1000000000000) (hl:m≤1048576):Ev (fun n=>qhd n (marked k m) k) (k+(m:Int)):=by
 have hlen:(marked k m).length=m:=by simp [marked]
 have hL:Ev (fun n=>qcd (marked k m) n k 0) (.nxt (k+(m:Int),(m:Int))):=by
  have:=loopF (Lf:=qcd (marked k m)) (S:=fun j=>k+(j:Int)) (len:=m) (fin:=.nxt (k+(m:Int),(m:Int))) (fun n=>by
    simp only [qcd,hlen,qh (jf _),cond_false])
   (fun j hj X hX=>by
    have e:idx (marked k m) (j:Int)=some (k+(j:Int)):=by
     rw [qaW (by rw [hlen];exact hj)];simp [marked]
    simp only [qcd,hlen,qe hj,cond_true,e,je,bne_self_eq_false,cond_false,wS j,qau (show -9223372036854775808≤k+(j:Int)+1 by omega) (by omega)]
    rw [show k+(j:Int)+1=k+((j+1:Nat):Int) by omega]
    exact hX)
  simpa using this
 unfold qhd
 exact Ev.bind hL .done
theorem qtS {a b:ByteArray} (h:a.size+b.size≤1000000):catB a b=some (a++b):=by
 unfold catB
 rw [if_pos]
 show ((a.size+b.size:Nat):Int)≤9223372036854775807
 omega
theorem qqt {x:IntK .u8}:(strOf [x]).size=1:=rfl
theorem qiY {k:Int} (hk:k≤1000000000001000):∃ s,Ev (fun n=>qdW n k) s:=by
 have main:∀ m:Nat,∀ i1:Int,∀ z:ByteArray,0≤i1→i1≤9000000000000000000→i1<10 ^ m→z.size+m≤1000→∃ o:Int × ByteArray,o.2.size≤1000∧Ev (fun n=>qfy n i1 z) o:=by
  intro m
  induction m with
  | zero =>
   intro i1 z h0 hb h1 hz
   have:i1=0:=by have:(10:Int) ^ 0=1:=rfl;omega
   subst this
   exact ⟨(0,z),by show z.size≤1000;omega,Ev.succ (Ev.ff (by decide) .done)⟩
  | succ m ih =>
   intro i1 z h0 hb h1 hz
   by_cases hp:i1=0
   ·subst hp
    exact ⟨(0,z),by show z.size≤1000;omega,Ev.succ (Ev.ff (by decide) .done)⟩
   ·have hd:i1.tdiv 10=i1 / 10:=Int.tdiv_eq_ediv_of_nonneg h0
    have h10:(10:Int) ^ (m+1)=10 ^ m*10:=Int.pow_succ _ _
    have hc:catB (strOf ([(⟨IntKind.wrap .u8 (W64 (48+(i1.tmod 10)))⟩:IntK .u8)])) z=some (strOf ([(⟨IntKind.wrap .u8 (W64 (48+(i1.tmod 10)))⟩:IntK .u8)])++z):=qtS (by rw [qqt];omega)
    obtain ⟨o,ho,e⟩:=ih (i1 / 10) (strOf ([(⟨IntKind.wrap .u8 (W64 (48+(i1.tmod 10)))⟩:IntK .u8)])++z) (by omega) (by omega) (by omega) (by rw [ByteArray.size_append,qqt];omega)
    refine ⟨o,ho,Ev.succ ?_⟩
    simp only [qfy,show decide (i1 > 0)=true by simp;omega,cond_true,hc,je,hd,qau (show -9223372036854775808≤i1 / 10 by omega) (by omega)]
    exact e
 unfold qdW
 by_cases h0:k≤0
 ·exact ⟨_,Ev.tt (by simpa using h0) .done⟩
 ·obtain ⟨⟨o1,o2⟩,ho,e⟩:=main 16 k ⟨#[]⟩ (by omega) (by omega) (by have:(10:Int) ^ 16=10000000000000000:=rfl;omega) (by decide)
  refine ⟨(⟨#[109]⟩:ByteArray)++o2,Ev.ff (by simp;omega) (Ev.bind e ?_)⟩
  have ho:o2.size≤1000:=ho
  show Ev (fun n=>(catB ⟨#[109]⟩ o2).bind fun z3=>some z3) _
  rw [qtS (show (⟨#[109]⟩:ByteArray).size+o2.size≤1000000 by have:(⟨#[109]⟩:ByteArray).size=1:=rfl;omega)]
  exact .done
theorem qmE {a:(List qr)} {k:Int} (h0:0≤k) (h1:k+16*(qcW a:Int)≤1000000000000) (hw:qcW a≤1048576):Mk (fun n=>qg8 n a k) k (qcW a):=by
 refine qgF (a:=a) (wt:=(fun x:qr=>qdN x)) h0 h1 (Lf:=qc4 a) (fun n t k=>by simp only [qc4,qh (jf _),cond_false]) (fun x hx k h0 h1=>?_) (by simp only [qcW] at hw;omega) (fun _=>rfl)
 have hs:=qbM (wt:=(fun x:qr=>qdN x)) hx
 have ew:qdN x=qab x.Bd+qab x.Bc+qab x.Av:=rfl
 have hw:a.length+(a.map (fun x:qr=>qdN x)).sum≤1048576:=hw
 simp only [ew] at hs h1 ⊢
 obtain ⟨k1,x1,q1,l1,u1⟩:=qdt (a:=x.Bd) (k:=k) (by omega) (by omega) (by omega)
 obtain ⟨k2,x2,q2,l2,u2⟩:=qdt (a:=x.Bc) (k:=k1) (by omega) (by omega) (by omega)
 obtain ⟨k3,x3,q3,l3,u3⟩:=qdt (a:=x.Av) (k:=k2) (by omega) (by omega) (by omega)
 refine ⟨⟨x1,x2,x3⟩,k3,by omega,by omega,fun t j hb hj ht hx X hX=>?_⟩
 simp only [qc4,qe hj,cond_true,qej hb]
 try simp only [qW hx,je]
 refine Ev.bind q1 ?_
 refine Ev.bind q2 ?_
 refine Ev.bind q3 ?_
 exact hX
theorem qrA {a:(List qF)} {k:Int} (h0:0≤k) (h1:k+16*(qgV a:Int)≤1000000000000) (hw:qgV a≤1048576):Mk (fun n=>qkr n a k) k (qgV a):=by
 refine qgF (a:=a) (wt:=(fun x:qF=>qh9 x)) h0 h1 (Lf:=qd8 a) (fun n t k=>by simp only [qd8,qh (jf _),cond_false]) (fun x hx k h0 h1=>?_) (by simp only [qgV] at hw;omega) (fun _=>rfl)
 have hs:=qbM (wt:=(fun x:qF=>qh9 x)) hx
 have ew:qh9 x=qcW x.Az+qcW x.Bi:=rfl
 have hw:a.length+(a.map (fun x:qF=>qh9 x)).sum≤1048576:=hw
 simp only [ew] at hs h1 ⊢
 have e1:W64 (k+1)=k+1:=qau (by omega) (by omega)
 have e2:W64 (k+1+1)=k+1+1:=qau (by omega) (by omega)
 have e3:W64 (k+1+1+1)=k+1+1+1:=qau (by omega) (by omega)
 have e4:W64 (k+1+1+1+1)=k+1+1+1+1:=qau (by omega) (by omega)
 obtain ⟨k1,x1,q1,l1,u1⟩:=qmE (a:=x.Az) (k:=k+1+1+1+1) (by omega) (by omega) (by omega)
 obtain ⟨k2,x2,q2,l2,u2⟩:=qmE (a:=x.Bi) (k:=k1) (by omega) (by omega) (by omega)
 refine ⟨⟨k,k+1,k+1+1,k+1+1+1,x1,x2⟩,k2,by omega,by omega,fun t j hb hj ht hx X hX=>?_⟩
 simp only [qd8,qe hj,cond_true,qej hb]
 try simp only [qW hx,je,e1,e2,e3,e4]
 refine Ev.bind q1 ?_
 refine Ev.bind q2 ?_
 exact hX
theorem qr0 {a:(List qX)} {k:Int} (h0:0≤k) (h1:k+16*(qgW a:Int)≤1000000000000) (hw:qgW a≤1048576):Mk (fun n=>qkv n a k) k (qgW a):=by
 refine qgF (a:=a) (wt:=(fun x:qX=>qjX x)) h0 h1 (Lf:=qd5 a) (fun n t k=>by simp only [qd5,qh (jf _),cond_false]) (fun x hx k h0 h1=>?_) (by simp only [qgW] at hw;omega) (fun _=>rfl)
 have hs:=qbM (wt:=(fun x:qX=>qjX x)) hx
 have ew:qjX x=x.As.size:=rfl
 have hw:a.length+(a.map (fun x:qX=>qjX x)).sum≤1048576:=hw
 simp only [ew] at hs h1 ⊢
 obtain ⟨s1,es1⟩:=qiY (k:=k) (by omega)
 have e1:W64 (k+1)=k+1:=qau (by omega) (by omega)
 have e2:W64 (k+1+1)=k+1+1:=qau (by omega) (by omega)
 have e3:W64 (k+1+1+1)=k+1+1+1:=qau (by omega) (by omega)
 have e4:W64 (k+1+1+1+1)=k+1+1+1+1:=qau (by omega) (by omega)
 refine ⟨⟨s1,k+1,k+1+1,((k+1+1+1).tmod 3)==0⟩,k+1+1+1+1,by omega,by omega,fun t j hb hj ht hx X hX=>?_⟩
 simp only [qd5,qe hj,cond_true,qej hb]
 try simp only [qW hx,qry ht,je,qqn]
 refine Ev.bind es1 ?_
 try simp only [e1,e2,e3,e4]
 exact hX
theorem qre {a:(List qp)} {k:Int} (h0:0≤k) (h1:k+16*(qfU a:Int)≤1000000000000) (hw:qfU a≤1048576):Mk (fun n=>qjZ n a k) k (qfU a):=by
 refine qgF (a:=a) (wt:=(fun x:qp=>qfp x)) h0 h1 (Lf:=qdn a) (fun n t k=>by simp only [qdn,qh (jf _),cond_false]) (fun x hx k h0 h1=>?_) (by simp only [qfU] at hw;omega) (fun _=>rfl)
 have hs:=qbM (wt:=(fun x:qp=>qfp x)) hx
 have ew:qfp x=x.As.size+qgW x.Am+qgV x.Ap+qab x.Ay:=rfl
 have hw:a.length+(a.map (fun x:qp=>qfp x)).sum≤1048576:=hw
 simp only [ew] at hs h1 ⊢
 obtain ⟨s1,es1⟩:=qiY (k:=k) (by omega)
 have e1:W64 (k+1)=k+1:=qau (by omega) (by omega)
 have e2:W64 (k+1+1)=k+1+1:=qau (by omega) (by omega)
 obtain ⟨k2,x2,q2,l2,u2⟩:=qr0 (a:=x.Am) (k:=k+1+1) (by omega) (by omega) (by omega)
 obtain ⟨k3,x3,q3,l3,u3⟩:=qrA (a:=x.Ap) (k:=k2) (by omega) (by omega) (by omega)
 obtain ⟨k4,x4,q4,l4,u4⟩:=qdt (a:=x.Ay) (k:=k3) (by omega) (by omega) (by omega)
 have e3:W64 (k4+1)=k4+1:=qau (by omega) (by omega)
 have e4:W64 (k4+1+1)=k4+1+1:=qau (by omega) (by omega)
 refine ⟨⟨s1,k+1,x2,x3,x4,k4,k4+1⟩,k4+1+1,by omega,by omega,fun t j hb hj ht hx X hX=>?_⟩
 simp only [qdn,qe hj,cond_true,qej hb]
 try simp only [qW hx,je]
 refine Ev.bind es1 ?_
 try simp only [e1,e2]
 refine Ev.bind q2 ?_
 refine Ev.bind q3 ?_
 refine Ev.bind q4 ?_
 try simp only [e3,e4]
 exact hX
theorem qpB {a:qn} {k:Int} (h0:0≤k) (h1:k+16*(qd4 a:Int)≤1000000000000) (hw:qd4 a≤1048576):Mk (fun n=>qgE n a k) k (qd4 a):=by
 simp only [qd4] at h1 hw ⊢
 obtain ⟨k1,x1,q1,l1,u1⟩:=qre (a:=a.Ah) (k:=k) (by omega) (by omega) (by omega)
 refine ⟨k1,x1,?_,by omega,by omega⟩
 unfold qgE
 exact Ev.bind q1 (.done)
theorem qoa {a:(List qj)} {k:Int} (h0:0≤k) (h1:k+16*(qbF a:Int)≤1000000000000) (hw:qbF a≤1048576):Mk (fun n=>qhg n a k) k (qbF a):=by
 refine qgF (a:=a) (wt:=(fun x:qj=>qbt x)) h0 h1 (Lf:=qb2 a) (fun n t k=>by simp only [qb2,qh (jf _),cond_false]) (fun x hx k h0 h1=>?_) (by simp only [qbF] at hw;omega) (fun _=>rfl)
 have hs:=qbM (wt:=(fun x:qj=>qbt x)) hx
 have ew:qbt x=x.As.size+qab x.Af:=rfl
 have hw:a.length+(a.map (fun x:qj=>qbt x)).sum≤1048576:=hw
 simp only [ew] at hs h1 ⊢
 obtain ⟨s1,es1⟩:=qiY (k:=k) (by omega)
 have e1:W64 (k+1)=k+1:=qau (by omega) (by omega)
 have e2:W64 (k+1+1)=k+1+1:=qau (by omega) (by omega)
 obtain ⟨k2,x2,q2,l2,u2⟩:=qdt (a:=x.Af) (k:=k+1+1) (by omega) (by omega) (by omega)
 refine ⟨⟨s1,k+1,x2⟩,k2,by omega,by omega,fun t j hb hj ht hx X hX=>?_⟩
 simp only [qb2,qe hj,cond_true,qej hb]
 try simp only [qW hx,je]
 refine Ev.bind es1 ?_
 try simp only [e1,e2]
 refine Ev.bind q2 ?_
 exact hX
theorem qpA {a:(List ByteArray)} {k:Int} (h0:0≤k) (h1:k+16*(qd0 a:Int)≤1000000000000) (hw:qd0 a≤1048576):Mk (fun n=>qil n a k) k (qd0 a):=by
 refine qgF (a:=a) (wt:=(fun x:ByteArray=>x.size)) h0 h1 (Lf:=qcI a) (fun n t k=>by simp only [qcI,qh (jf _),cond_false]) (fun x hx k h0 h1=>?_) (by simp only [qd0] at hw;omega) (fun _=>rfl)
 obtain ⟨s,es⟩:=qiY (k:=k) (by omega)
 have e1:W64 (k+1)=k+1:=qau (by omega) (by omega)
 refine ⟨s,k+1,by omega,by omega,fun t j hb hj ht hx X hX=>?_⟩
 simp only [qcI,qe hj,cond_true,e1,qej hb]
 refine Ev.bind es ?_
 try simp only [qW hx,je]
 exact hX
theorem qrd {a:(List qH)} {k:Int} (h0:0≤k) (h1:k+16*(qfH a:Int)≤1000000000000) (hw:qfH a≤1048576):Mk (fun n=>qjH n a k) k (qfH a):=by
 refine qgF (a:=a) (wt:=(fun x:qH=>qhn x)) h0 h1 (Lf:=qdl a) (fun n t k=>by simp only [qdl,qh (jf _),cond_false]) (fun x hx k h0 h1=>?_) (by simp only [qfH] at hw;omega) (fun _=>rfl)
 have hs:=qbM (wt:=(fun x:qH=>qhn x)) hx
 have ew:qhn x=x.As.size:=rfl
 have hw:a.length+(a.map (fun x:qH=>qhn x)).sum≤1048576:=hw
 simp only [ew] at hs h1 ⊢
 obtain ⟨s1,es1⟩:=qiY (k:=k) (by omega)
 have e1:W64 (k+1)=k+1:=qau (by omega) (by omega)
 have e2:W64 (k+1+1)=k+1+1:=qau (by omega) (by omega)
 have e3:W64 (k+1+1+1)=k+1+1+1:=qau (by omega) (by omega)
 refine ⟨⟨s1,k+1,k+1+1⟩,k+1+1+1,by omega,by omega,fun t j hb hj ht hx X hX=>?_⟩
 simp only [qdl,qe hj,cond_true,qej hb]
 try simp only [qW hx,qry ht,je,qqn]
 refine Ev.bind es1 ?_
 try simp only [e1,e2,e3]
 exact hX
theorem qp4 {a:qf} {k:Int} (h0:0≤k) (h1:k+16*(qep a:Int)≤1000000000000) (hw:qep a≤1048576):Mk (fun n=>qg7 n a k) k (qep a):=by
 simp only [qep] at h1 hw ⊢
 obtain ⟨k1,x1,q1,l1,u1⟩:=qoa (a:=a.Aa) (k:=k) (by omega) (by omega) (by omega)
 obtain ⟨k2,x2,q2,l2,u2⟩:=qpA (a:=a.Af) (k:=k1) (by omega) (by omega) (by omega)
 obtain ⟨k3,x3,q3,l3,u3⟩:=qrd (a:=a.Ac) (k:=k2) (by omega) (by omega) (by omega)
 refine ⟨k3,(x1,x2,x3),?_,by omega,by omega⟩
 unfold qg7
 exact Ev.bind q1 (Ev.bind q2 (Ev.bind q3 (.done)))
theorem qrl {a:(List qB)} {k:Int} (h0:0≤k) (h1:k+16*(qfM a:Int)≤1000000000000) (hw:qfM a≤1048576):Mk (fun n=>qj0 n a k) k (qfM a):=by
 refine qgF (a:=a) (wt:=(fun x:qB=>qfq x)) h0 h1 (Lf:=qdo a) (fun n t k=>by simp only [qdo,qh (jf _),cond_false]) (fun x hx k h0 h1=>?_) (by simp only [qfM] at hw;omega) (fun _=>rfl)
 have hs:=qbM (wt:=(fun x:qB=>qfq x)) hx
 have ew:qfq x=qab x.Ak+qab x.Bn+qab x.Bk+qab x.Bf:=rfl
 have hw:a.length+(a.map (fun x:qB=>qfq x)).sum≤1048576:=hw
 simp only [ew] at hs h1 ⊢
 obtain ⟨k1,x1,q1,l1,u1⟩:=qdt (a:=x.Ak) (k:=k) (by omega) (by omega) (by omega)
 obtain ⟨k2,x2,q2,l2,u2⟩:=qdt (a:=x.Bn) (k:=k1) (by omega) (by omega) (by omega)
 obtain ⟨k3,x3,q3,l3,u3⟩:=qdt (a:=x.Bk) (k:=k2) (by omega) (by omega) (by omega)
 obtain ⟨k4,x4,q4,l4,u4⟩:=qdt (a:=x.Bf) (k:=k3) (by omega) (by omega) (by omega)
 refine ⟨⟨x1,x2,x3,x4⟩,k4,by omega,by omega,fun t j hb hj ht hx X hX=>?_⟩
 simp only [qdo,qe hj,cond_true,qej hb]
 try simp only [qW hx,je]
 refine Ev.bind q1 ?_
 refine Ev.bind q2 ?_
 refine Ev.bind q3 ?_
 refine Ev.bind q4 ?_
 exact hX
theorem qqX {a:qg} {k:Int} (h0:0≤k) (h1:k+16*(qfR a:Int)≤1000000000000) (hw:qfR a≤1048576):Mk (fun n=>qh1 n a k) k (qfR a):=by
 simp only [qfR] at h1 hw ⊢
 obtain ⟨k1,x1,q1,l1,u1⟩:=qpB (a:=a.Ai) (k:=k) (by omega) (by omega) (by omega)
 obtain ⟨k2,⟨x2_0,x2_1,x2_2⟩,q2,l2,u2⟩:=qp4 (a:=a.Ab) (k:=k1) (by omega) (by omega) (by omega)
 obtain ⟨k3,x3,q3,l3,u3⟩:=qrl (a:=a.Aj) (k:=k2) (by omega) (by omega) (by omega)
 refine ⟨k3,(x1,x2_0,x2_1,x2_2,x3),?_,by omega,by omega⟩
 unfold qh1
 exact Ev.bind q1 (Ev.bind q2 (Ev.bind q3 (.done)))
theorem qni {a:(List qa)} {k:Int} (h0:0≤k) (h1:k+16*(qbf a:Int)≤1000000000000) (hw:qbf a≤1048576):Mk (fun n=>qgU n a k) k (qbf a):=by
 refine qgF (a:=a) (wt:=(fun x:qa=>qaR x)) h0 h1 (Lf:=qbO a) (fun n t k=>by simp only [qbO,qh (jf _),cond_false]) (fun x hx k h0 h1=>?_) (by simp only [qbf] at hw;omega) (fun _=>rfl)
 have hs:=qbM (wt:=(fun x:qa=>qaR x)) hx
 have ew:qaR x=qab x.Au+qab x.Aq+qab x.To:=rfl
 have hw:a.length+(a.map (fun x:qa=>qaR x)).sum≤1048576:=hw
 simp only [ew] at hs h1 ⊢
 have e1:W64 (k+1)=k+1:=qau (by omega) (by omega)
 have e2:W64 (k+1+1)=k+1+1:=qau (by omega) (by omega)
 obtain ⟨k1,x1,q1,l1,u1⟩:=qdt (a:=x.Au) (k:=k+1+1) (by omega) (by omega) (by omega)
 obtain ⟨k2,x2,q2,l2,u2⟩:=qdt (a:=x.Aq) (k:=k1) (by omega) (by omega) (by omega)
 obtain ⟨k3,x3,q3,l3,u3⟩:=qdt (a:=x.To) (k:=k2) (by omega) (by omega) (by omega)
 refine ⟨⟨k,k+1,x1,x2,x3⟩,k3,by omega,by omega,fun t j hb hj ht hx X hX=>?_⟩
 simp only [qbO,qe hj,cond_true,qej hb]
 try simp only [qW hx,je,e1,e2]
 refine Ev.bind q1 ?_
 refine Ev.bind q2 ?_
 refine Ev.bind q3 ?_
 exact hX
end Go.Fw


namespace Go.Fw
open Go
set_option maxRecDepth 100000
def codeX (b:qg) (es:List qa):Int:=bif blockB b then (bif decide (es.length≤6) then (bif es.all (excB b) then 0 else 5) else 3) else 1
def codeP (b:qg) (es:List qa) (p:Int):Int:=bif codeX b es==0 then (bif inPl b p then codeX b es else 2) else codeX b es
theorem qij {b:qg} {es:List qa} (h:codeX b es=0):blockB b=true∧es.length≤6∧es.all (excB b)=true:=by
 unfold codeX at h
 cases h1:blockB b
 ·rw [h1] at h;cases h
 ·rw [h1] at h
  cases h2:decide (es.length≤6)
  ·rw [h2] at h;cases h
  ·rw [h2] at h
   cases h3:es.all (excB b)
   ·rw [h3] at h;cases h
   ·exact ⟨rfl,of_decide_eq_true h2,rfl⟩
theorem qjK {b:qg} {es:List qa} {p:Int} (h:codeP b es p=0):codeX b es=0:=by
 unfold codeP at h
 by_cases h0:codeX b es=0
 ·exact h0
 ·rw [show (codeX b es==0)=false by simpa using h0] at h
  exact h
theorem qto {b:qg} {es:List qa} (hok:qb6 b) (hes:okL qQ es):Ev (fun n=>qjs n b es) (codeX b es):=by
 have hlen:=hes.len
 unfold qjs codeX
 refine Ev.chk1 (qon hok) fun h=>?_
 rw [show decide ((es.length:Int) > 6) = !decide (es.length≤6) from qmm (k:=6)]
 simp only [qbw]
 refine Ev.okP1 fun _=>?_
 have hL:Ev (fun n=>qeG b es n 0) (bif es.all (excB b) then .nxt (es.length:Int) else .ret 5):=by
  rw [qii]
  refine qeZ (Ev.succ ?_) (fun j hj X hX=>Ev.succ ?_)
  ·simp only [qeG,qh (jf _),cond_false];exact .done
  ·simp only [qeG,qe hj,cond_true,qS hj,je,wS j]
   have:=qoE hok (qh4 hes hj)
   rw [h,jJ] at this
   exact Ev.chk1 this fun _=>hX
 refine Ev.bind hL ?_
 cases es.all (excB b)<;>exact .done
theorem qv0 {b:qg} {es:List qa} (hok:qb6 b) (hes:okL qQ es) :
  ∃ o,Ev (fun n=>qfO n b es) (o,codeX b es)∧(codeX b es=0→∃ ls lo de,o=some ⟨b,places b.Ab,ls,lo,de,[]⟩):=by
 have hlen:=hes.len
 unfold qfO codeX
 cases h:blockB b
 ·exact ⟨none,Ev.bind (qpg hok) (Ev.tt (by rw [h];rfl) .done),fun h=>by cases h⟩
 ·have hb:=qpg hok
  rw [h] at hb
  obtain ⟨ls,lo,de,ev⟩:=qs4 h
  cases h6:decide (es.length≤6)
  ·exact ⟨none,Ev.bind hb (Ev.ff rfl (Ev.tt (by rw [show decide ((es.length:Int) > 6) = !decide (es.length≤6) from qmm (k:=6),h6];rfl) .done)),fun h=>by cases h⟩
  ·have hc:Ev (fun n=>qY n es (some ⟨b,places b.Ab,ls,lo,de,[]⟩)) (!es.all (excB b)):=by
    unfold qY
    refine Ev.bind (b:=ixL (fun e=>!excB b e) es) (qdF (fin:=(es.length:Int)) (Lf:=qz es (some ⟨b,places b.Ab,ls,lo,de,[]⟩))
     (pf:=fun n x=>qeP n x (some ⟨b,places b.Ab,ls,lo,de,[]⟩)) (fun x hx=>?_)
     (fun n=>by simp only [qz,qh (jf _),cond_false])
     (fun n j x hx=>by
      have hj:=(List.getElem?_eq_some_iff.1 hx).1
      simp only [qz,qe hj,cond_true,qW hx,je,wS j])
     (fun n=>by unfold qaA;congr 1;funext o;cases o<;>rfl)) (Ev.now ?_)
    ·unfold qeP
     exact Ev.neg (qpo h rfl (hes.2 x hx))
    ·rw [qig,←qns,Bool.not_not]
   cases h3:es.all (excB b)
   ·rw [h3] at hc
    exact ⟨none,Ev.bind hb (Ev.ff rfl (Ev.ff (by rw [show decide ((es.length:Int) > 6) = !decide (es.length≤6) from qmm (k:=6),h6];rfl) (Ev.bind ev (Ev.bind hc .done)))),fun h=>by cases h⟩
   ·rw [h3] at hc
    exact ⟨_,Ev.bind hb (Ev.ff rfl (Ev.ff (by rw [show decide ((es.length:Int) > 6) = !decide (es.length≤6) from qmm (k:=6),h6];rfl) (Ev.bind ev (Ev.bind hc .done)))),fun _=>⟨ls,lo,de,rfl⟩⟩
theorem qqT {b:qg} (h:blockB b=true):Ev (fun n=>qbJ n b) ((places b.Ab).length:Int):=by
 unfold qbJ
 exact Ev.bind (qhf (qw (qP h))) (Ev.now (by rw [jN]))
theorem qsO {b:qg} {es:List qa} {p:Int} (hok:qb6 b) (hes:okL qQ es):Ev (fun n=>qjj n b es p) (codeP b es p):=by
 unfold qjj codeP
 refine Ev.bind (qto hok hes) ?_
 refine Ev.iff (fun h0=>?_) fun _=>.done
 have h0:codeX b es=0:=by simpa using h0
 have h:=(qij h0).1
 have hpl:=qZ (qw (qP h))
 refine Ev.bind (qqT h) ?_
 rw [qb5 (by omega)]
 simp only [qer,je,qbw]
 exact Ev.iff (fun _=>.done) fun _=>.done
theorem qss {b:qg} {V:Tview} {p:Int} (h:blockB b=true) (hP:V.places=places b.Ab):Ev (fun n=>qgg n (some V) p) (inPl b p):=by
 have hpl:=qZ (qw (qP h))
 refine Ev.now (x:=some (inPl b p)) rfl |>.congr fun n=>?_
 unfold qgg
 simp only [je,qbk,hP,qd1]
 rw [qb5 (by omega)]
 rfl
theorem qvO {b:qg} {es:List qa} {p:Int} (hok:qb6 b) (hes:okL qQ es) :
  ∃ o,Ev (fun n=>qjm n b es p) (o,codeP b es p)∧(codeP b es p=0→∃ ls lo de,o=some ⟨b,places b.Ab,ls,lo,de,[]⟩):=by
 obtain ⟨o,e,hv⟩:=qv0 hok hes
 unfold qjm codeP
 by_cases h0:codeX b es=0
 ·obtain ⟨ls,lo,de,rfl⟩:=hv h0
  rw [h0] at e ⊢
  have hi:=qss (V:=⟨b,places b.Ab,ls,lo,de,[]⟩) (p:=p) (qij h0).1 rfl
  cases hp:inPl b p
  ·rw [hp] at hi
   exact ⟨none,Ev.bind e (Ev.tt rfl (Ev.bind hi .done)),fun h=>by cases h⟩
  ·rw [hp] at hi
   exact ⟨_,Ev.bind e (Ev.tt rfl (Ev.bind hi .done)),fun _=>⟨ls,lo,de,rfl⟩⟩
 ·have hc:(codeX b es==0)=false:=by simpa using h0
  rw [hc]
  exact ⟨o,Ev.bind e (Ev.ff hc .done),fun h=>absurd h h0⟩
def stepTs (es:List qa) (tag:List Int) (p:Int):List Int:=(List.range es.length).map fun i=>stepT (gt es i) (at0 tag i) p
def startTs (es:List qa) (p:Int):List Int:=es.map fun e=>beginT e p
theorem qlo {es:List qa} {tag:List Int} {p:Int}:(stepTs es tag p).length=es.length:=by simp [stepTs]
def pre {α:Type} (f:Nat→α) (j:Nat):List α:=(List.range j).map f
theorem qrp {α:Type} {f:Nat→α} {j:Nat}:(pre f j).length=j:=by simp [pre]
theorem qvU {α:Type} {f:Nat→α} {j:Nat}:pre f j++[f j]=pre f (j+1):=by unfold pre;rw [jT,jH];rfl
theorem qq9 {α:Type} {f:Nat→α} {j:Nat} (h:j≤1048576):appS (pre f j) [f j]=some (pre f (j+1)):=by
 rw [qcc (by rw [qrp,jw];omega),qvU]
theorem qwn {α β:Type} [Inhabited α] {xs:List α} {f:α→β}:pre (fun i=>f (gt xs i)) xs.length=xs.map f:=by
 refine Jc (by simp [pre]) fun i h1 h2=>?_
 have hi:i<xs.length:=by simpa [pre] using h1
 simp [pre,qjJ hi]
theorem qsd {es:List qa} {tag:List Int} {p:Int} (hes:okL qQ es) (ht:tag.length=es.length):Ev (fun n=>qhG n es tag p) (stepTs es tag p):=by
 have hl:=hes.len
 have hL:Ev (fun n=>qcP es tag p n ([]:List Int) 0) (stepTs es tag p,(es.length:Int)):=by
  refine loopF (Lf:=qcP es tag p) (S:=pre fun i=>stepT (gt es i) (at0 tag i) p) (len:=es.length) (fun n=>?_) (fun j hj X hX=>?_)
  ·simp only [qcP,qh (jf _),cond_false];rfl
  ·have hT:=(qh4 hes hj).Aq.len
   have hap:=qq9 (f:=fun i=>stepT (gt es i) (at0 tag i) p) (show j≤1048576 by omega)
   have hst:stepT (gt es j) (at0 tag j) p=bif decide (at0 tag j ≥ 0)&&(decide (at0 tag j<((gt es j).Aq.length:Int))&&(at0 (gt es j).Aq (at0 tag j).toNat==p)) then at0 tag j+1 else at0 tag j:=rfl
   simp only [qcP,qe hj,cond_true,qS hj,qbm (show j<tag.length by omega),je,wS j]
   rw [hst] at hap
   cases h1:decide (at0 tag j ≥ 0)
   ·rw [h1] at hap
    exact Ev.bindN rfl (Ev.ff rfl (Ev.bindN hap hX))
   ·cases h2:decide (at0 tag j<((gt es j).Aq.length:Int))
    ·rw [h1,h2] at hap
     exact Ev.bindN rfl (Ev.ff rfl (Ev.bindN hap hX))
    ·have h1':=of_decide_eq_true h1
     have h2':=of_decide_eq_true h2
     obtain ⟨k,hk⟩:∃ k:Nat,at0 tag j=(k:Int):=⟨(at0 tag j).toNat,by omega⟩
     rw [h1,h2,hk,jx] at hap
     rw [hk] at h2'
     rw [hk]
     simp only [cond_true,qbm (show k<(gt es j).Aq.length by omega),je]
     cases h3:(at0 (gt es j).Aq k==p)
     ·rw [h3] at hap
      exact Ev.ff rfl (Ev.bindN hap hX)
     ·rw [h3] at hap
      rw [qau (show -9223372036854775808≤(k:Int)+1 by omega) (by omega)]
      exact Ev.tt rfl (Ev.bindN hap hX)
 unfold qhG
 exact Ev.bind hL .done
theorem qrS {es:List qa} {tag:List Int} {p:Int} (hes:okL qQ es) (ht:tag.length=es.length):Ev (fun n=>qjh n es tag p) (stepTs es tag p):=by
 have hl:=hes.len
 have hcl:qcX 0 tag=some tag:=by
  show appS [] tag=some tag
  rw [qcc (by simp;omega)];rfl
 have hL:Ev (fun n=>qdu es tag p n tag 0) (stepTs es tag p,(es.length:Int)):=by
  have:=loopF (Lf:=qdu es tag p) (S:=mixS (fun i=>stepT (gt es i) (at0 tag i) p) tag) (len:=es.length) (fin:=(stepTs es tag p,(es.length:Int))) (fun n=>by
    simp only [qdu,qh (jf _),cond_false]
    rw [←ht,qt7,ht];rfl)
   (fun j hj X hX=>by
    have hjt:j<tag.length:=by omega
    simp only [qdu,qe hj,cond_true,qS hj,qbm hjt,je,wS j,qwy hjt]
    refine Ev.bind (qro (qh4 hes hj).Aq.len) ?_
    rw [qvS hjt]
    exact hX)
  rwa [quX] at this
 unfold qjh
 exact Ev.bind (f:=fun _=>qcX 0 tag) (Ev.now hcl) (Ev.bind hL .done)
theorem qsp {es:List qa} {p:Int}:(startTs es p).length=es.length:=by simp [startTs]
theorem quk {es:List qa} {p:Int} (hes:okL qQ es):Ev (fun n=>qiA n es p) (startTs es p):=by
 have hl:=hes.len
 have hL:Ev (fun n=>qcn es p n ([]:List Int) 0) (pre (fun i=>bif fromB (gt es i) p then 0 else -1) es.length,(es.length:Int)):=by
  refine loopF (Lf:=qcn es p) (S:=pre fun i=>bif fromB (gt es i) p then 0 else -1) (len:=es.length) (fun n=>?_) (fun j hj X hX=>?_)
  ·simp only [qcn,qh (jf _),cond_false]
  ·have hap:=qq9 (f:=fun i=>(bif fromB (gt es i) p then 0 else -1:Int)) (show j≤1048576 by omega)
   simp only [qcn,qe hj,cond_true,qS hj,je,wS j]
   refine Ev.bind (b:=!fromB (gt es j) p) ?_ ?_
   ·unfold fromB
    by_cases h0:(gt es j).Au.length=0
    ·exact Ev.ff (by simp [h0]) (Ev.now (by rw [decide_eq_true h0];rfl))
    ·refine Ev.tt (by simp;omega) ?_
     rw [decide_eq_false h0,Jk]
     exact Ev.bind (qqB (qh4 hes hj).Au.len) (Ev.now (by rw [qxk];rfl))
   ·cases h3:fromB (gt es j) p
    ·simp only [h3,cond_false] at hap
     exact Ev.tt rfl (Ev.bindN hap hX)
    ·simp only [h3,cond_true] at hap
     exact Ev.ff rfl (Ev.bindN hap hX)
 unfold qiA
 refine Ev.bind hL (Ev.bind (qsd hes (by rw [qrp])) (Ev.now ?_))
 congr 1
 unfold startTs
 rw [←qwn]
 unfold stepTs
 refine List.map_congr_left fun i hi=>?_
 have hi:=List.mem_range.1 hi
 rw [show at0 (pre (fun i=>(bif fromB (gt es i) p then 0 else -1:Int)) es.length) i=bif fromB (gt es i) p then 0 else -1 by simp [at0,pre,hi]]
 unfold beginT
 cases fromB (gt es i) p
 ·exact quR
 ·rfl
def rankE (e:qa):Int:=(bif decide (e.Au.length=0) then 0 else 4)+(bif decide (e.To.length=0) then 0 else 2)+(bif decide (e.Aq.length=0) then 0 else 1)
theorem qvF {e:qa}:0≤rankE e:=by
 unfold rankE
 cases decide (e.Au.length=0)<;>cases decide (e.To.length=0)<;>cases decide (e.Aq.length=0)<;>decide
theorem posL {xs:List Int}:decide ((xs.length:Int) > 0) = !decide (xs.length=0):=by cases xs<;>simp
theorem qvr {e:qa}:Ev (fun n=>qfF n e) (rankE e):=by
 unfold qfF rankE
 simp only [posL]
 cases decide (e.Au.length=0)<;>cases decide (e.To.length=0)<;>cases decide (e.Aq.length=0)<;>exact .now (by decide)
theorem qv7 {n:Nat} {e:qa}:qfF n e=some (rankE e):=by
 obtain ⟨N,h⟩:=qvr (e:=e)
 exact h (max N n) (by omega)
theorem qu4 {e:qa}:Ev (fun n=>qkb n e) (rankE e):=by
 unfold qkb rankE
 refine ⟨4,fun n hn=>?_⟩
 obtain ⟨m,rfl⟩:∃ m,n=m+4:=⟨n-4,by omega⟩
 simp only [qgy]
 have i0:idx ([e.Aq,e.To,e.Au]:List (List Int)) 0=some e.Aq:=rfl
 have i1:idx ([e.Aq,e.To,e.Au]:List (List Int)) (W64 (0+1))=some e.To:=rfl
 have i2:idx ([e.Aq,e.To,e.Au]:List (List Int)) (W64 (W64 (0+1)+1))=some e.Au:=rfl
 simp only [i0,i1,i2,posL,je]
 cases decide (e.Au.length=0)<;>cases decide (e.To.length=0)<;>cases decide (e.Aq.length=0)<;>rfl
def pickS (k:Int) (g:Bool) (t:Int × Int) (e:qa):Int × Int :=
 bif e.Ar != k then t else bif decide (rankE e > t.1) || ((rankE e==t.1)&&(decide (e.Bb > t.2)==g)) then (rankE e,e.Bb) else t
def chooseL (k:Int) (g:Bool) (ms:List qa):Int × Int:=ms.foldl (pickS k g) (-1,-1)
theorem qlb {ms:List qa} {k:Int} {g:Bool} (hl:ms.length≤1048576):Ev (fun n=>qfw n ms k g) (chooseL k g ms).2:=by
 have hL:Ev (fun n=>qaU ms k g n (-1) (-1) 0) ((chooseL k g ms).1,(chooseL k g ms).2,(ms.length:Int)):=by
  refine (quT (xs:=ms) (τ:=Int × Int) (Lf:=fun n t j=>qaU ms k g n t.1 t.2 j) (step:=pickS k g) (fin:=fun t=>(t.1,t.2,(ms.length:Int))) (-1,-1) (fun _ _=>True) trivial (fun _ _ _ _=>trivial) (fun n t=>?_) (fun j t hj _ X hX=>?_)).1
  ·simp only [qaU,qh (jf _),cond_false]
  ·simp only [qaU,qe hj,cond_true,qaW hj,je,wS j]
   unfold pickS at hX
   refine Ev.bif (fun h1=>?_) (fun h1=>?_)
   ·rw [h1] at hX;exact hX
   ·rw [h1] at hX
    refine Ev.bind qu4 (Ev.bif (fun h2=>?_) (fun h2=>?_))
    ·rw [h2] at hX;exact hX
    ·rw [h2] at hX
     refine Ev.bif (fun h3=>?_) (fun h3=>?_)
     ·rw [h3] at hX
      refine Ev.bif (fun h4=>?_) (fun h4=>?_)
      ·rw [h4] at hX;exact hX
      ·rw [h4] at hX;exact hX
     ·rw [h3] at hX;exact hX
 unfold qfw
 exact Ev.bind hL .done
def selE (es:List qa) (m:Nat→Bool) (j:Nat):List qa:=(selN m j).map (gt es)
theorem qqh {es:List qa} {m:Nat→Bool} {j:Nat}:selE es m (j+1)=selE es m j++(bif m j then [gt es j] else []):=by
 unfold selE
 rw [qnR,jH]
 cases m j<;>rfl
theorem qrD {es:List qa} {m:Nat→Bool} {j:Nat}:(selE es m j).length≤j:=by unfold selE;rw [jN];exact qpw
theorem qu3 {es:List qa} {m:Nat→Bool} {j:Nat} {e:qa} (h:e ∈ selE es m j) (hj:j≤es.length):e ∈ es:=by
 unfold selE at h
 obtain ⟨i,hi,rfl⟩:=List.mem_map.1 h
 have:=(qrY.1 hi).1
 rw [qjJ (show i<es.length by omega)]
 exact jp _
theorem qnc {es:List qa} {m:Nat→Bool} {k:Int} (hl:es.length≤1048576):Ev (fun n=>qfI n es (pre m es.length) k) (chooseL k (k==4) (selE es m es.length)).2:=by
 have hL:Ev (fun n=>qcb es (pre m es.length) k n (-1) (-1) 0) ((chooseL k (k==4) (selE es m es.length)).1,(chooseL k (k==4) (selE es m es.length)).2,(es.length:Int)):=by
  refine loopF (τ:=Int × Int) (Lf:=fun n t j=>qcb es (pre m es.length) k n t.1 t.2 j) (S:=fun j=>chooseL k (k==4) (selE es m j)) (len:=es.length) (fun n=>?_) (fun j hj X hX=>?_)
  ·simp only [qcb,qh (jf _),cond_false]
  ·have hm:idx (pre m es.length) (j:Int)=some (m j):=by rw [qaW (by rw [qrp];exact hj)];simp [pre]
   have hs:chooseL k (k==4) (selE es m (j+1))=bif m j then pickS k (k==4) (chooseL k (k==4) (selE es m j)) (gt es j) else chooseL k (k==4) (selE es m j):=by
    unfold chooseL
    rw [qqh,List.foldl_append]
    cases m j<;>rfl
   simp only [qcb,qe hj,cond_true,qS hj,hm,je,qv7,wS j]
   simp only [hs] at hX
   generalize chooseL k (k==4) (selE es m j)=t at hX ⊢
   cases h1:m j
   ·rw [h1] at hX
    exact Ev.bindN rfl (Ev.tt rfl hX)
   ·rw [h1] at hX
    unfold pickS at hX
    cases h2:(gt es j).Ar != k
    ·rw [h2] at hX
     by_cases h3:rankE (gt es j)<t.1
     ·have e1:decide (rankE (gt es j) > t.1)=false:=by simp;omega
      have e2:(rankE (gt es j)==t.1)=false:=by rw [Bool.eq_false_iff,Ne,beq_iff_eq];omega
      rw [e1,e2] at hX
      exact Ev.bindN (b:=true) (by show some (decide _)=_;rw [decide_eq_true h3]) (Ev.tt rfl hX)
     ·refine Ev.bindN (b:=false) (by show some (decide _)=_;rw [decide_eq_false h3]) (Ev.ff rfl ?_)
      refine Ev.bindN (b:=bif k==4 then decide ((gt es j).Bb > t.2) else decide ((gt es j).Bb<t.2)) (by cases (k==4)<;>rfl) ?_
      refine Ev.bindN (b:=decide (rankE (gt es j) > t.1) || (bif k==4 then decide ((gt es j).Bb > t.2) else decide ((gt es j).Bb<t.2))) (by cases decide (rankE (gt es j) > t.1)<;>rfl) ?_
      cases h4:decide (rankE (gt es j) > t.1)
      ·rw [h4] at hX
       have h4:=of_decide_eq_false h4
       have e3:rankE (gt es j)=t.1:=by omega
       rw [show (rankE (gt es j)==t.1)=true by simpa using e3] at hX
       simp only [Jk,jJ] at hX ⊢
       cases h7:k==4
       ·rw [h7] at hX
        simp only [cond_false] at hX ⊢
        cases h5:decide ((gt es j).Bb<t.2)
        ·cases h6:decide ((gt es j).Bb > t.2)
         ·rw [h6] at hX
          have h5:=of_decide_eq_false h5
          have h6:=of_decide_eq_false h6
          rw [show t.2=(gt es j).Bb by omega]
          exact hX
         ·rw [h6] at hX
          rw [e3]
          exact hX
        ·have h5':=of_decide_eq_true h5
         rw [show decide ((gt es j).Bb > t.2)=false by simp;omega] at hX
         exact hX
       ·rw [h7] at hX
        simp only [cond_true] at hX ⊢
        cases h6:decide ((gt es j).Bb > t.2)
        ·rw [h6] at hX
         rw [e3]
         exact hX
        ·rw [h6] at hX
         exact hX
      ·rw [h4] at hX
       exact hX
    ·rw [h2] at hX
     exact Ev.bindN rfl (Ev.tt rfl hX)
 unfold qfI
 exact Ev.bind hL .done
def effE (ms:List qa):qap:=⟨ms.any fun e=>e.Ar==1,bif decide ((chooseL 2 false ms).2 > 0)&&((chooseL 3 false ms).2==-1) then (chooseL 2 false ms).2 else 1,(chooseL 3 false ms).2,(chooseL 4 true ms).2⟩
theorem qtt {ms:List qa} (h:∀ e,e ∈ ms→e.Ar=1→e.Bb=0):((chooseL 1 false ms).2==0)=ms.any fun e=>e.Ar==1:=by
 have main:∀ (ms:List qa) (t:Int × Int),(∀ e,e ∈ ms→e.Ar=1→e.Bb=0)→(t=(-1,-1)∨(0≤t.1∧t.2=0))→((ms.foldl (pickS 1 false) t).2==0)=((t.2==0) || ms.any fun e=>e.Ar==1):=by
  intro ms
  induction ms with
  | nil=>intro t _ _;simp
  | cons e ms ih =>
   intro t h ht
   rw [List.foldl_cons,List.any_cons]
   have h':=fun x hx=>h x (jm _ hx)
   by_cases hk:e.Ar=1
   ·have hv:=h e (jn ..) hk
    have hr:=qvF (e:=e)
    have hp:pickS 1 false t e=(rankE e,0)∨(pickS 1 false t e=t∧0≤t.1∧t.2=0):=by
     unfold pickS
     rw [hv,show (e.Ar != 1)=false by simp [hk]]
     rcases ht with rfl|ht
     ·left
      show (bif decide (rankE e > -1) || _ then _ else _)=_
      rw [decide_eq_true (show rankE e > -1 by omega)];rfl
     ·cases (decide (rankE e > t.1) || ((rankE e==t.1)&&(decide ((0:Int) > t.2)==false)))
      ·exact .inr ⟨rfl,ht⟩
      ·exact .inl rfl
    rw [show (e.Ar==1)=true by simp [hk],Bool.true_or,Bool.or_true]
    rcases hp with hp|⟨hp,ht⟩
    ·rw [hp,ih _ h' (.inr ⟨hr,rfl⟩)];rfl
    ·rw [hp,ih _ h' (.inr ht),ht.2];rfl
   ·rw [show pickS 1 false t e=t by unfold pickS;rw [show (e.Ar != 1)=true by simpa using hk];rfl,ih t h' ht,show (e.Ar==1)=false by simpa using hk,Jk]
 exact main ms (-1,-1) h (.inl rfl)
theorem qtj {b:qg} {e:qa} (h:excB b e=true) (hk:e.Ar=1):e.Bb=0:=by
 unfold excB valB at h
 rw [hk] at h
 simp only [ji] at h
 have h:=h.2.1
 exact eq_of_beq h
theorem qtq {b:qg} {es:List qa} {m:Nat→Bool} (hl:es.length≤1048576) (hx:es.all (excB b)=true):Ev (fun n=>qhS n es (pre m es.length)) (effE (selE es m es.length)):=by
 have hf:=qtt (ms:=selE es m es.length) (fun e he hk=>qtj (b:=b) (List.all_eq_true.1 hx e (qu3 he (jf _))) hk)
 unfold qhS effE
 refine Ev.bind (qnc (k:=3) hl) (Ev.bind (qnc (k:=4) hl) (Ev.bind (qnc (k:=1) hl) (Ev.bind (qnc (k:=2) hl) ?_)))
 rw [←hf]
 show Ev (fun _=>bif (chooseL 3 false (selE es m es.length)).2==-1 then (bif decide ((chooseL 2 false (selE es m es.length)).2 > 0) then _ else _) else _) _
 cases (chooseL 3 false (selE es m es.length)).2==-1<;>cases decide ((chooseL 2 false (selE es m es.length)).2 > 0)<;>exact .done
theorem qs6 {es:List qa} {tag:List Int} {p:Int} (hes:okL qQ es) (ht:tag.length=es.length):Ev (fun n=>qdU n es tag p) (effE (selE es (fun i=>matT (gt es i) (at0 tag i) p) es.length)):=by
 have hl:=hes.len
 have hL:Ev (fun n=>qcq es tag p n ([]:List qa) 0) (selE es (fun i=>matT (gt es i) (at0 tag i) p) es.length,(es.length:Int)):=by
  refine loopF (Lf:=qcq es tag p) (S:=selE es (fun i=>matT (gt es i) (at0 tag i) p)) (len:=es.length) (fun n=>?_) (fun j hj X hX=>?_)
  ·simp only [qcq,qh (jf _),cond_false]
  ·have hsl:=qrD (es:=es) (m:=fun i=>matT (gt es i) (at0 tag i) p) (j:=j)
   simp only [qcq,qe hj,cond_true,qS hj,qbm (show j<tag.length by omega),je,wS j]
   refine Ev.bind (qs2 (qh4 hes hj)) ?_
   rw [qqh] at hX
   cases h1:matT (gt es j) (at0 tag j) p
   ·simp only [h1,cond_false,jM] at hX
    exact Ev.ff rfl hX
   ·simp only [h1,cond_true] at hX
    exact Ev.tt rfl (Ev.bindN (qcc (by rw [jw];omega)) hX)
 have hsl:=qrD (es:=es) (m:=fun i=>matT (gt es i) (at0 tag i) p) (j:=es.length)
 unfold qdU
 refine Ev.bind hL ?_
 generalize selE es (fun i=>matT (gt es i) (at0 tag i) p) es.length=ms at hsl ⊢
 have hms:ms.length≤1048576:=by omega
 have hc:Ev (fun n=>qah n ms) (ms.any fun e=>e.Ar==1):=by
  unfold qah
  refine Ev.bind (b:=ixL (fun e:qa=>e.Ar==1) ms) (qdF (fin:=(ms.length:Int)) (Lf:=qE ms) (pf:=fun n x=>qi5 n x) (fun x hx=>.done)
   (fun n=>by simp only [qE,qh (jf _),cond_false])
   (fun n j x hx=>by
    have hj:=(List.getElem?_eq_some_iff.1 hx).1
    simp only [qE,qe hj,cond_true,qW hx,je,wS j])
   (fun n=>by unfold qaS;congr 1;funext o;cases o<;>rfl)) (Ev.now ?_)
  rw [qig]
 refine Ev.bind (qlb hms) (Ev.bind (qlb hms) (Ev.bind hc (Ev.bind (qlb hms) ?_)))
 unfold effE
 cases decide ((chooseL 2 false ms).2 > 0)<;>cases (chooseL 3 false ms).2==-1<;>exact .done
end Go.Fw


namespace Go.Fw
open Go
set_option maxRecDepth 100000
theorem qqE {n:Nat} {x y:Int}:qgd n x y=some (ordI x y):=by
 unfold qgd qha ordI
 simp only [bne_self_eq_false,je,cond_false]
 by_cases h1:x<y
 ·simp [h1]
 ·by_cases h2:y<x<;>simp [h1,h2]
theorem qsn {xs ys:List Int} (hx:xs.length≤1000000):Ev (fun n=>qdg n xs ys) (cmpLk xs ys):=by
 have main:∀ d i,i+d=xs.length→i≤ys.length→∃ o,Ev (fun n=>qaI xs ys n (i:Int)) o ∧
   match o with|.ret r=>r=cmpLk (xs.drop i) (ys.drop i)|.nxt _=>cmpLk (xs.drop i) (ys.drop i)=if xs.length<ys.length then -1 else 0:=by
  intro d
  induction d with
  | zero =>
   intro i hi hy
   obtain rfl:i=xs.length:=by omega
   refine ⟨.nxt (xs.length:Int),Ev.succ ?_,?_⟩
   ·simp only [qaI,qh (jf _),cond_false];exact .done
   ·simp only [List.drop_length]
    have hl:(ys.drop xs.length).length=ys.length-xs.length:=List.length_drop
    cases h:ys.drop xs.length with
    | nil=>rw [h] at hl;simp at hl;rw [if_neg (by omega)];rfl
    | cons a l=>rw [h] at hl;simp at hl;rw [if_pos (by omega)];rfl
  | succ d ih =>
   intro i hi hy
   have hil:i<xs.length:=by omega
   have ex:xs.drop i=xs[i]::xs.drop (i+1):=jD hil
   by_cases hj:i<ys.length
   ·have ey:ys.drop i=ys[i]::ys.drop (i+1):=jD hj
    by_cases h0:ordI xs[i] ys[i]=0
    ·obtain ⟨o,ho,hm⟩:=ih (i+1) (by omega) (by omega)
     refine ⟨o,Ev.succ ?_,?_⟩
     ·simp only [qaI,qe hil,cond_true,qaW hil,je,wS i]
      refine Ev.ff (decide_eq_false (by omega)) (Ev.bindN (qaW hj) (Ev.bind (.now (qqE (n:=0))) (Ev.ff (by rw [h0];rfl) ho)))
     ·rw [ex,ey]
      simp only [cmpLk,h0,if_true]
      exact hm
    ·refine ⟨.ret (ordI xs[i] ys[i]),Ev.succ ?_,?_⟩
     ·simp only [qaI,qe hil,cond_true,qaW hil,je]
      exact Ev.ff (decide_eq_false (by omega)) (Ev.bindN (qaW hj) (Ev.bind (.now (qqE (n:=0))) (Ev.tt (by simpa using h0) .done)))
     ·rw [ex,ey]
      simp only [cmpLk,h0,if_false]
   ·refine ⟨.ret 1,Ev.succ ?_,?_⟩
    ·simp only [qaI,qe hil,cond_true,qaW hil,je]
     exact Ev.tt (decide_eq_true (by omega)) .done
    ·rw [ex,show ys.drop i=[] from List.drop_of_length_le (by omega)]
     rfl
 obtain ⟨o,ho,hm⟩:=main xs.length 0 (by omega) (jG _)
 unfold qdg
 refine Ev.bind ho ?_
 cases o with
 | ret r=>simp only [List.drop_zero] at hm;subst hm;exact .done
 | nxt i =>
  simp only [List.drop_zero] at hm
  rw [hm]
  by_cases hl:xs.length<ys.length
  ·rw [if_pos hl];exact Ev.tt (decide_eq_true (by omega)) .done
  ·rw [if_neg hl];exact Ev.ff (decide_eq_false (by omega)) .done
theorem qvu {m:Nat} (h:m≤4000000):shrS .u64 (IntKind.wrap .u64 (W64 (m:Int))) 1=some ((m / 2:Nat):Int):=by
 have e1:IntKind.wrap .u64 (m:Int)=(m:Int):=by
  show ((m:Int) % (2 ^ 64:Int))=m
  exact Int.emod_eq_of_lt (by omega) (by omega)
 rw [qau (by omega) (by omega),e1]
 unfold shrS
 rw [if_pos (by decide)]
 congr 1
 show (m:Int).fdiv 2=_
 rw [Int.fdiv_eq_ediv_of_nonneg _ (by decide)]
 omega
theorem qxr {xs:List (List Int)} {t:List Int} (hs:Srt xs) (hl:xs.length≤1000000) (hx:∀ x,x ∈ xs→x.length≤1000000) :
  Ev (fun n=>qad n xs t) ((rankT xs t:Int),decide ((xs[rankT xs t]?).map (fun x=>cmpLk x t)=some 0)):=by
 obtain ⟨r1,r2⟩:=qtW (t:=t) hs
 have hr:=qsi (xs:=xs) (t:=t)
 generalize hp:rankT xs t=p at *
 have main:∀ d i j,j-i≤d→i≤p→p≤j→j≤xs.length→Ev (fun n=>qt xs t n (i:Int) (j:Int)) ((p:Int),(p:Int)):=by
  intro d
  induction d with
  | zero =>
   intro i j hd hi hj hl
   refine Ev.succ ?_
   simp only [qt,qh (show j≤i by omega),cond_false]
   rw [show i=p by omega,show j=p by omega]
   exact .done
  | succ d ih =>
   intro i j hd hi hj hjl
   refine Ev.succ ?_
   by_cases hij:i<j
   ·have hm:(i+j) / 2<xs.length:=by omega
    simp only [qt,qe hij,cond_true,←Int.natCast_add,qvu (show i+j≤4000000 by omega),je,qau (x:=(((i+j) / 2:Nat):Int)) (by omega) (by omega),qaW hm,qej (show (i+j) / 2<9223372036854775807 by omega)]
    refine Ev.bind (qsn (hx _ (jp hm))) ?_
    by_cases hc:cmpLk xs[(i+j) / 2] t<0
    ·refine Ev.tt (by simpa using hc) (ih _ _ (by omega) ?_ hj hjl)
     refine Nat.lt_of_not_le fun hg=>?_
     have:=r2 _ _ hg (jg hm)
     omega
    ·refine Ev.ff (by simpa using hc) (ih _ _ (by omega) hi ?_ (by omega))
     refine Nat.le_of_not_lt fun hg=>hc (r1 _ _ hg (jg hm))
   ·simp only [qt,qh (show j≤i by omega),cond_false]
    rw [show i=p by omega,show j=p by omega]
    exact .done
 unfold qad
 refine Ev.bind (main xs.length 0 xs.length (by omega) (by omega) (by omega) (jf _)) ?_
 by_cases hpl:p<xs.length
 ·simp only [qe hpl,cond_true,qaW hpl,je,jg hpl,jV,Option.some.injEq]
  refine Ev.bind (qsn (hx _ (jp hpl))) (Ev.now ?_)
  congr 2
 ·simp only [qh (show xs.length≤p by omega),cond_false,List.getElem?_eq_none (show xs.length≤p by omega),Option.map_none]
  exact .done
theorem qtD {xs:List (List Int)} {t:List Int} {k:Nat} (hk:k≤xs.length) (hl:xs.length≤1000000):insS xs (k:Int) t=some (xs.take k++t::xs.drop k):=by
 unfold insS
 rw [if_pos ⟨by omega,by omega,hl⟩,jx]
theorem qqp {xs:List (List Int)} {t:List Int} (hs:Srt xs) (hl:xs.length≤1000000) (hx:∀ x,x ∈ xs→x.length≤1000000):Ev (fun n=>qhr n xs t) (insT xs t):=by
 unfold qhr
 refine Ev.bind (qxr hs hl hx) ?_
 rw [qr6 hs]
 by_cases hc:(xs[rankT xs t]?).map (fun x=>cmpLk x t)=some 0
 ·rw [if_pos hc]
  exact Ev.tt (decide_eq_true hc) .done
 ·rw [if_neg hc]
  exact Ev.ff (decide_eq_false hc) (Ev.now (qtD qsi hl))
theorem qtF {xs ys:List Int} (hx:xs.length≤1000000) (hxy:xs.length=ys.length):Ev (fun n=>qf1 n xs ys) (cmpLk xs ys):=by
 have main:∀ d i,i+d=xs.length→∃ o,Ev (fun n=>qbE xs ys n (i:Int)) o ∧
   match o with|.ret r=>r=cmpLk (xs.drop i) (ys.drop i)|.nxt _=>cmpLk (xs.drop i) (ys.drop i)=0:=by
  intro d
  induction d with
  | zero =>
   intro i hi
   obtain rfl:i=xs.length:=by omega
   refine ⟨.nxt (xs.length:Int),Ev.succ ?_,?_⟩
   ·simp only [qbE,qh (jf _),cond_false];exact .done
   ·rw [List.drop_length,show ys.drop xs.length=[] from List.drop_of_length_le (by omega)];rfl
  | succ d ih =>
   intro i hi
   have hil:i<xs.length:=by omega
   have hj:i<ys.length:=by omega
   have ex:xs.drop i=xs[i]::xs.drop (i+1):=jD hil
   have ey:ys.drop i=ys[i]::ys.drop (i+1):=jD hj
   by_cases h1:xs[i]<ys[i]
   ·refine ⟨.ret (-1),Ev.succ ?_,?_⟩
    ·simp only [qbE,qe hil,cond_true,qaW hil,qaW hj,je]
     exact Ev.tt (decide_eq_true h1) .done
    ·rw [ex,ey];simp [cmpLk,ordI,h1]
   ·by_cases h2:ys[i]<xs[i]
    ·refine ⟨.ret 1,Ev.succ ?_,?_⟩
     ·simp only [qbE,qe hil,cond_true,qaW hil,qaW hj,je]
      exact Ev.ff (decide_eq_false h1) (Ev.tt (decide_eq_true h2) .done)
     ·rw [ex,ey];simp [cmpLk,ordI,h1,h2]
    ·obtain ⟨o,ho,hm⟩:=ih (i+1) (by omega)
     refine ⟨o,Ev.succ ?_,?_⟩
     ·simp only [qbE,qe hil,cond_true,qaW hil,qaW hj,je,wS i]
      exact Ev.ff (decide_eq_false h1) (Ev.ff (decide_eq_false h2) ho)
     ·rw [ex,ey]
      simp only [cmpLk,ordI,h1,h2,if_false,if_true]
      exact hm
 obtain ⟨o,ho,hm⟩:=main xs.length 0 (by omega)
 unfold qf1
 refine Ev.bind ho ?_
 cases o with
 | ret r=>simp only [List.drop_zero] at hm;subst hm;exact .done
 | nxt i=>simp only [List.drop_zero] at hm;rw [hm];exact .done
theorem qxn {xs:List (List Int)} {t:List Int} {m:Nat} (hs:Srt xs) (hl:xs.length≤1000000) (hm:m≤1000000) (hx:∀ x,x ∈ xs→x.length=m) (ht:t.length=m):Ev (fun n=>qkh n xs t) (insT xs t):=by
 have hL1:∀ d i,i+d=xs.length→(∀ x,x ∈ xs.take i→x ≠ t)→∃ o,Ev (fun n=>qeh xs t n (i:Int)) o∧match o with|.ret r=>r=xs∧t ∈ xs|.nxt _=>t ∉ xs:=by
  intro d
  induction d with
  | zero =>
   intro i hi hn
   obtain rfl:i=xs.length:=by omega
   refine ⟨.nxt (xs.length:Int),Ev.succ ?_,?_⟩
   ·simp only [qeh,qh (jf _),cond_false];exact .done
   ·rw [jC] at hn
    exact fun hm=>hn t hm rfl
  | succ d ih =>
   intro i hi hn
   have hil:i<xs.length:=by omega
   have hc:=qtF (xs:=xs[i]) (ys:=t) (by rw [hx _ (jp hil)];exact hm) (by rw [hx _ (jp hil),ht])
   by_cases h0:cmpLk xs[i] t=0
   ·refine ⟨.ret xs,Ev.succ ?_,rfl,(qoY _ _ h0) ▸ jp hil⟩
    simp only [qeh,qe hil,cond_true,qaW hil,je]
    exact Ev.bind hc (Ev.tt (by rw [h0];rfl) .done)
   ·obtain ⟨o,ho,hq⟩:=ih (i+1) (by omega) fun x hx'=>by
     rw [js hil] at hx'
     rcases List.mem_append.1 hx' with hx'|hx'
     ·exact hn x hx'
     ·rw [List.mem_singleton.1 hx']
      intro e
      rw [e,qm1] at h0
      exact h0 rfl
    refine ⟨o,Ev.succ ?_,hq⟩
    simp only [qeh,qe hil,cond_true,qaW hil,je,wS i]
    exact Ev.bind hc (Ev.ff (by simpa using h0) ho)
 obtain ⟨o,ho,hq⟩:=hL1 xs.length 0 (by omega) (by simp)
 unfold qkh
 refine Ev.bind ho ?_
 cases o with
 | ret r =>
  obtain ⟨rfl,hmem⟩:=hq
  rw [qw1 hs hmem]
  exact .done
 | nxt i =>
  have hL2:∀ a,a≤xs.length→(∀ j x,a≤j→xs[j]?=some x→0<cmpLk x t)→∃ k,k≤xs.length∧Ev (fun n=>qen xs t n (a:Int)) (k:Int)∧(∀ j x,k≤j→xs[j]?=some x→0<cmpLk x t)∧(∀ j x,j<k→xs[j]?=some x→cmpLk x t<0):=by
   intro a
   induction a with
   | zero =>
    intro _ hg
    refine ⟨0,jG _,Ev.succ ?_,hg,fun j x hj=>by omega⟩
    simp only [qen]
    exact Ev.ff (by simp) .done
   | succ a ih =>
    intro ha hg
    have hal:a<xs.length:=by omega
    have hc:=qtF (xs:=t) (ys:=xs[a]) (by omega) (by rw [hx _ (jp hal),ht])
    have hW:W64 (((a+1:Nat):Int)-1)=(a:Int):=by rw [qau (by omega) (by omega)];omega
    have hne:cmpLk xs[a] t ≠ 0:=fun e=>hq ((qoY _ _ e) ▸ jp hal)
    have han:=qiq xs[a] t
    by_cases h0:cmpLk t xs[a]<0
    ·obtain ⟨k,hk,he,g1,g2⟩:=ih (by omega) fun j x hj hx'=>by
      rcases Nat.eq_or_lt_of_le hj with e|e
      ·subst e
       rw [jg hal] at hx'
       obtain rfl:=Option.some.inj hx'
       omega
      ·exact hg j x e hx'
     refine ⟨k,hk,Ev.succ ?_,g1,g2⟩
     simp only [qen,hW,qaW hal,je]
     exact Ev.tt (decide_eq_true (by omega)) (Ev.bind hc (Ev.tt (decide_eq_true h0) he))
    ·refine ⟨a+1,ha,Ev.succ ?_,hg,fun j x hj hx'=>?_⟩
     ·simp only [qen,hW,qaW hal,je]
      exact Ev.tt (decide_eq_true (by omega)) (Ev.bind hc (Ev.ff (decide_eq_false h0) .done))
     ·rcases Nat.eq_or_lt_of_le (Nat.le_of_lt_succ hj) with e|e
      ·subst e
       rw [jg hal] at hx'
       obtain rfl:=Option.some.inj hx'
       omega
      ·have hjl:j<xs.length:=by omega
       rw [jg hjl] at hx'
       obtain rfl:=Option.some.inj hx'
       exact qkW _ _ _ (List.pairwise_iff_getElem.1 hs j a hjl hal e) (by omega)
  obtain ⟨k,hk,he,g1,g2⟩:=hL2 xs.length (jf _) fun j x hj hx'=>by
   have:=(List.getElem?_eq_some_iff.1 hx').1;omega
  rw [qxl hs hq g2 g1]
  exact Ev.bind he (Ev.now (qtD hk hl))
end Go.Fw


namespace Go.Fw
open Go
set_option maxRecDepth 100000
theorem qjn {b:qg} (h:blockB b=true):Ev (fun n=>qbJ n b) ((places b.Ab).length:Int):=by
 unfold qbJ
 exact Ev.bind (qhf (qw (qP h))) (Ev.now (by rw [jN]))
theorem qq5 {d:qf} {k:Int} {n:Nat}:qmY (sinksL d k n) n:=by
 intro y hy
 unfold sinksL at hy
 obtain ⟨i,hi,rfl⟩:=List.mem_map.1 hy
 exact ⟨i,List.mem_range.1 (List.mem_filter.1 hi).1,rfl⟩
theorem qht {b:qg} (h:blockB b=true) {j:Nat} (hj:j<(places b.Ab).length):qmY (succL b j) (places b.Ab).length:=by
 have hd:=qP h
 unfold succL
 cases (gt (places b.Ab) j).drives
 ·cases h0:decide ((gt (places b.Ab) j).instance_<0)
  ·cases dataB (cellAt b (gt (places b.Ab) j).instance_) (gt (places b.Ab) j).pin
   ·intro y hy;cases hy
   ·intro y hy
    rcases qfG hj with ⟨i,k,hi,hk,ej,e⟩|⟨i,hi,_,e⟩
    ·obtain ⟨⟨c0,c1⟩,hn,hcb⟩:=qis hd hi
     rw [e] at hy
     have ec:cellAt b (place1 b.Ab i k).instance_=gt b.Ai.Ah (gt b.Ab.Aa i).Ba.toNat:=by
      unfold cellAt place1;rw [jx]
     rw [ec,show (place1 b.Ab i k).pin=(k:Int) from rfl] at hy
     have hy:y=(j:Int)-(k:Int)+(((gt b.Ai.Ah (gt b.Ab.Aa i).Ba.toNat).Am.length:Int)-1):=by simpa using hy
     obtain ⟨hp,_⟩:=qkN (k:=(gt b.Ab.Aa i).Af.length-1) hi (by omega)
     exact ⟨off b.Ab i+((gt b.Ab.Aa i).Af.length-1),hp,by omega⟩
    ·rw [e] at h0
     exact absurd h0 (by show ¬ decide ((-1:Int)<0)=false;decide)
  ·intro y hy;cases hy
 ·intro y hy
  exact qq5 y ((List.mem_filter.1 hy).1)
abbrev npl (b:qg):Nat:=(places b.Ab).length
theorem inCsmall {b:qg} (h:blockB b=true) {R:List Nat} {k:Nat}:inC (succL b) (npl b) R k≤78*78:=by
 have hl:npl b≤78:=qZ (qw (qP h))
 have:∀ m,((List.range m).map fun u=>if u ∈ R then 0 else (succL b u).count (k:Int)).sum≤m*78:=by
  intro m
  induction m with
  | zero=>simp
  | succ m ih =>
   rw [jT,jH,List.sum_append]
   simp only [jU,List.map_nil,List.sum_cons,List.sum_nil,jY]
   have h1:(succL b m).count (k:Int)≤78:=jS List.count_le_length (qhp h)
   split<;>omega
 have:=this (npl b)
 unfold inC
 have h3:npl b*78≤78*78:=ju _ hl
 omega
def cnt0 (b:qg) (j:Nat) (k:Nat):Nat:=((List.range j).map fun u=>(succL b u).count (k:Int)).sum
theorem qtO {b:qg} (h:blockB b=true) {j k:Nat} (hj:j≤npl b):cnt0 b j k≤78*78:=by
 have hl:npl b≤78:=qZ (qw (qP h))
 have:∀ m,((List.range m).map fun u=>(succL b u).count (k:Int)).sum≤m*78:=by
  intro m
  induction m with
  | zero=>simp
  | succ m ih =>
   rw [qnw]
   have h1:(succL b m).count (k:Int)≤78:=jS List.count_le_length (qhp h)
   omega
 have:=this j
 unfold cnt0
 have h3:j*78≤78*78:=ju _ (by omega)
 omega
theorem qrg {f:Nat→Int} {m k:Nat} {xs:List Int} {j:Nat} {d v:Int} (hx:xs[j]?=some (k:Int)) (hv:v=f k+d*((xs.take j).count (k:Int):Int)+d) :
  setS (vecI (fun i=>f i+d*((xs.take j).count (i:Int):Int)) m) (k:Int) v=vecI (fun i=>f i+d*((xs.take (j+1)).count (i:Int):Int)) m:=by
 rw [qpl]
 refine qip (fun i _=>?_)
 rw [qsW hx]
 by_cases h:i=k
 ·subst h
  rw [if_pos rfl,if_pos rfl,hv,Int.natCast_add,Int.mul_add]
  show _=f i+(d*_+d*1)
  omega
 ·rw [if_neg h,if_neg h,jY]
theorem qvA {xs:List Int} {m:Nat} {f:Nat→Int} (hx:qmY xs m) (hl:xs.length≤1000) (hf:∀ k,k<m→0≤f k∧f k≤10000) :
  Ev (fun n=>qc3 xs n (vecI f m) 0) (vecI (fun k=>f k+1*(xs.count (k:Int):Int)) m,(xs.length:Int)):=by
 have:=loopF (Lf:=qc3 xs) (S:=fun j=>vecI (fun i=>f i+1*((xs.take j).count (i:Int):Int)) m) (len:=xs.length) (fin:=(vecI (fun k=>f k+1*(xs.count (k:Int):Int)) m,(xs.length:Int)))
  (fun n=>by simp only [qc3,qh (jf _),cond_false,jC])
  (fun j hj X hX=>by
   obtain ⟨k,hk,e1,e2⟩:=hx.at hj
   have hc:(xs.take j).count (k:Int)≤xs.length:=jS List.count_le_length (by rw [Jb];omega)
   have h1:=hf k hk
   simp only [qc3,qe hj,cond_true,e1,je,qj3 hk,wS j]
   rw [qau (by omega) (by omega),qrg e2 rfl]
   exact hX)
 simpa using this
theorem qvt {xs:List Int} {m:Nat} {f:Nat→Int} (hx:qmY xs m) (hl:xs.length≤1000) (hf:∀ k,k<m→0≤f k∧f k≤10000) :
  Ev (fun n=>qbg xs n (vecI f m) 0) (vecI (fun k=>f k+1*(xs.count (k:Int):Int)) m,(xs.length:Int)):=by
 have:=loopF (Lf:=qbg xs) (S:=fun j=>vecI (fun i=>f i+1*((xs.take j).count (i:Int):Int)) m) (len:=xs.length) (fin:=(vecI (fun k=>f k+1*(xs.count (k:Int):Int)) m,(xs.length:Int)))
  (fun n=>by simp only [qbg,qh (jf _),cond_false,jC])
  (fun j hj X hX=>by
   obtain ⟨k,hk,e1,e2⟩:=hx.at hj
   have hc:(xs.take j).count (k:Int)≤xs.length:=jS List.count_le_length (by rw [Jb];omega)
   have h1:=hf k hk
   simp only [qbg,qe hj,cond_true,e1,je,qj3 hk,wS j]
   rw [qau (by omega) (by omega),qrg e2 rfl]
   exact hX)
 simpa using this
theorem qvk {xs:List Int} {m:Nat} {f:Nat→Int} (hx:qmY xs m) (hl:xs.length≤1000) (hf:∀ k,k<m→-1≤f k∧f k≤10000) :
  Ev (fun n=>qbi xs n (vecI f m) 0) (vecI (fun k=>f k+(-1)*(xs.count (k:Int):Int)) m,(xs.length:Int)):=by
 have:=loopF (Lf:=qbi xs) (S:=fun j=>vecI (fun i=>f i+(-1)*((xs.take j).count (i:Int):Int)) m) (len:=xs.length) (fin:=(vecI (fun k=>f k+(-1)*(xs.count (k:Int):Int)) m,(xs.length:Int)))
  (fun n=>by simp only [qbi,qh (jf _),cond_false,jC])
  (fun j hj X hX=>by
   obtain ⟨k,hk,e1,e2⟩:=hx.at hj
   have hc:(xs.take j).count (k:Int)≤xs.length:=jS List.count_le_length (by rw [Jb];omega)
   have h1:=hf k hk
   simp only [qbi,qe hj,cond_true,e1,je,qj3 hk,wS j]
   rw [qau (by omega) (by omega),qrg e2 (by omega)]
   exact hX)
 simpa using this
theorem qqz {b:qg} {j:Nat}:(fun k=>(cnt0 b j k:Int)+1*((succL b j).count (k:Int):Int))=fun k=>(cnt0 b (j+1) k:Int):=by
 funext k
 unfold cnt0
 rw [qnw]
 omega
theorem qup {b:qg} (hok:qb6 b) (h:blockB b=true):Ev (fun n=>qc6 b (npl b:Int) n (vecI (fun k=>(cnt0 b 0 k:Int)) (npl b)) 0) (vecI (fun k=>(inC (succL b) (npl b) [] k:Int)) (npl b),(npl b:Int)):=by
 have hl:npl b≤78:=qZ (qw (qP h))
 refine loopF (Lf:=qc6 b (npl b:Int)) (S:=fun j=>vecI (fun k=>(cnt0 b j k:Int)) (npl b)) (len:=npl b) (fun n=>?_) (fun j hj X hX=>?_)
 ·simp only [qc6,qh (jf _),cond_false]
  congr 2
 ·simp only [qc6,qe hj,cond_true,wS j]
  refine Ev.bind (qlK hok h hj) (Ev.bind (qvA (qht h hj) (by have:=qhp h (j:=j);omega) (fun k hk=>by have:=qtO h (k:=k) (Nat.le_of_lt hj);omega)) ?_)
  rw [qqz]
  exact hX
theorem quV {b:qg} {V:Tview} (h:blockB b=true) (hV:V.Bj=b) (hP:V.places=places b.Ab):Ev (fun n=>qbj (some V) V n (vecI (fun k=>(cnt0 b 0 k:Int)) (npl b)) 0) (vecI (fun k=>(inC (succL b) (npl b) [] k:Int)) (npl b),(npl b:Int)):=by
 have hl:npl b≤78:=qZ (qw (qP h))
 refine loopF (Lf:=qbj (some V) V) (S:=fun j=>vecI (fun k=>(cnt0 b j k:Int)) (npl b)) (len:=npl b) (fun n=>?_) (fun j hj X hX=>?_)
 ·simp only [qbj,hP,qh (jf _),cond_false]
  congr 2
 ·simp only [qbj,hP,qe hj,cond_true,wS j]
  refine Ev.bind (qkt h hV hP hj) (Ev.bind (qvt (qht h hj) (by have:=qhp h (j:=j);omega) (fun k hk=>by have:=qtO h (k:=k) (Nat.le_of_lt hj);omega)) ?_)
  rw [qqz]
  exact hX
def zerosL (b:qg) (j:Nat):List Nat:=(List.range j).filter fun k=>decide (inC (succL b) (npl b) [] k=0)
theorem qsb {b:qg} {j:Nat}:zerosL b (j+1)=zerosL b j++(if inC (succL b) (npl b) [] j=0 then [j] else []):=by
 unfold zerosL
 rw [jT,List.filter_append]
 by_cases h:inC (succL b) (npl b) [] j=0
 ·rw [List.filter_cons_of_pos (by simpa using h),List.filter_nil,if_pos h]
 ·rw [List.filter_cons_of_neg (by simpa using h),List.filter_nil,if_neg h]
theorem qug {b:qg} (h:blockB b=true):Ev (fun n=>qco (npl b:Int) (vecI (fun k=>(inC (succL b) (npl b) [] k:Int)) (npl b)) n ([]:List Int) 0) (ints (zerosL b (npl b)),(npl b:Int)):=by
 have hl:npl b≤78:=qZ (qw (qP h))
 refine loopF (Lf:=qco (npl b:Int) (vecI (fun k=>(inC (succL b) (npl b) [] k:Int)) (npl b))) (S:=fun j=>ints (zerosL b j)) (len:=npl b) (fun n=>?_) (fun j hj X hX=>?_)
 ·simp only [qco,qh (jf _),cond_false]
 ·simp only [qco,qe hj,cond_true,qj3 hj,je,wS j]
  rw [qsb] at hX
  by_cases hc:inC (succL b) (npl b) [] j=0
  ·rw [if_pos hc,qkC] at hX
   refine Ev.tt (by rw [hc];rfl) ?_
   have:(zerosL b j).length≤j:=by have:=Je (fun k=>decide (inC (succL b) (npl b) [] k=0)) (List.range j);simpa [zerosL] using this
   rw [qcc (by rw [qei,jw];omega)]
   exact hX
  ·rw [if_neg hc,jM] at hX
   exact Ev.ff (by rw [Bool.eq_false_iff,Ne,beq_iff_eq];omega) hX
structure Mid (b:qg) (k i:Nat) (c:Nat) (out:List Nat):Prop where
 topo:Topo (succL b) (npl b) out
 klt:k<out.length
 cur:out[k]?=some c
 zero:∀ j,j<npl b→(j ∈ out↔inC (succL b) (npl b) (out.take (k+1)) j+((succL b c).drop i).count (j:Int)=0)
def midC (b:qg) (k i c:Nat) (out:List Nat) (j:Nat):Int:=((inC (succL b) (npl b) (out.take (k+1)) j+((succL b c).drop i).count (j:Int):Nat):Int)
theorem qta {xs:List Int} {j k i:Nat} (hj:xs[j]?=some (k:Int)):(xs.drop j).count (i:Int)=(xs.drop (j+1)).count (i:Int)+(if i=k then 1 else 0):=by
 obtain ⟨h1,h2⟩:=List.getElem?_eq_some_iff.1 hj
 rw [jD h1,h2,List.count_cons]
 congr 1
 by_cases h:i=k
 ·subst h;simp
 ·have:¬ (k:Int)=(i:Int):=by omega
  simp [h,this]
theorem quc {b:qg} (h:blockB b=true) {k c:Nat} {out:List Nat} (h0:Mid b k 0 c out):∃ out',Mid b k (succL b c).length c out' ∧
  Ev (fun n=>qbP (succL b c) n (ints out) (vecI (midC b k 0 c out) (npl b)) 0) (ints out',vecI (midC b k (succL b c).length c out') (npl b),((succL b c).length:Int)):=by
 have hl:npl b≤78:=qZ (qw (qP h))
 have hcm:c<npl b:=h0.topo.lt c (jA h0.cur)
 have hS:=qhp h (j:=c)
 obtain ⟨t,⟨out',hm,rfl⟩,he⟩:=loopE (Lf:=fun n (t:List Int × List Int) i=>qbP (succL b c) n t.1 t.2 i) (fin:=fun t=>(t.1,t.2,((succL b c).length:Int))) (len:=(succL b c).length)
  (fun i t=>∃ out,Mid b k i c out∧t=(ints out,vecI (midC b k i c out) (npl b)))
  (fun n t=>by simp only [qbP,qh (jf _),cond_false])
  (fun i t hi ⟨out,hm,ht⟩=>by
   subst ht
   obtain ⟨to,hto,e1,e2⟩:=(qht h hcm).at hi
   have hdc:=fun j=>qta (i:=j) e2
   have hb1:=inCsmall h (R:=out.take (k+1)) (k:=to)
   have hb2:((succL b c).drop i).count (to:Int)≤78:=jS List.count_le_length (by rw [List.length_drop];omega)
   have hpos:midC b k i c out to=((inC (succL b) (npl b) (out.take (k+1)) to+((succL b c).drop (i+1)).count (to:Int):Nat):Int)+1:=by
    unfold midC;rw [hdc,if_pos rfl];omega
   have hset:setS (vecI (midC b k i c out) (npl b)) (to:Int) (midC b k i c out to-1)=vecI (midC b k (i+1) c out) (npl b):=by
    rw [qpl]
    refine qip (fun j _=>?_)
    by_cases hj:j=to
    ·subst hj
     rw [if_pos rfl,hpos]
     show _=((inC (succL b) (npl b) (out.take (k+1)) j+((succL b c).drop (i+1)).count (j:Int):Nat):Int)
     omega
    ·rw [if_neg hj]
     unfold midC
     simp only [hdc,if_neg hj,jY]
   have hnot:to ∉ out:=fun hin=>by
    have:=(hm.zero to hto).1 hin
    rw [hdc,if_pos rfl] at this
    omega
   have hw:W64 (midC b k i c out to-1)=midC b k i c out to-1:=qau (by omega) (by unfold midC;omega)
   by_cases hz:inC (succL b) (npl b) (out.take (k+1)) to+((succL b c).drop (i+1)).count (to:Int)=0
   ·have htk:(out++[to]).take (k+1)=out.take (k+1):=List.take_append_of_le_length hm.klt
    have hm':Mid b k (i+1) c (out++[to]):=by
     refine ⟨.snoc hm.topo hto hnot (fun u hu he=>?_),by have:=hm.klt;rw [jo];omega,by rw [jq hm.klt];exact hm.cur,fun j hj=>?_⟩
     ·exact List.mem_of_mem_take (qkT.1 (show inC (succL b) (npl b) (out.take (k+1)) to=0 by omega) u hu he)
     ·rw [htk]
      by_cases hjt:j=to
      ·subst hjt;exact ⟨fun _=>hz,fun _=>by simp⟩
      ·have:=hm.zero j hj
       simp only [hdc,if_neg hjt,jY] at this
       rw [←this]
       simp [hjt]
    refine ⟨(ints (out++[to]),vecI (midC b k (i+1) c (out++[to])) (npl b)),⟨_,hm',rfl⟩,fun X hX=>?_⟩
    simp only [qbP,qe hi,cond_true,e1,je,qj3 hto,wS i,hw,hset]
    refine Ev.tt (by rw [beq_iff_eq];unfold midC;omega) ?_
    have hlen:=hm.topo.len
    rw [qcc (by rw [qei,jw];omega)]
    have:midC b k (i+1) c out=midC b k (i+1) c (out++[to]):=by funext j;unfold midC;rw [htk]
    rw [this]
    rw [qkC] at hX
    exact hX
   ·have hm':Mid b k (i+1) c out:=by
     refine ⟨hm.topo,hm.klt,hm.cur,fun j hj=>?_⟩
     by_cases hjt:j=to
     ·subst hjt;exact ⟨fun hin=>absurd hin hnot,fun h0=>absurd h0 hz⟩
     ·have:=hm.zero j hj
      simp only [hdc,if_neg hjt,jY] at this
      exact this
    refine ⟨(ints out,vecI (midC b k (i+1) c out) (npl b)),⟨_,hm',rfl⟩,fun X hX=>?_⟩
    simp only [qbP,qe hi,cond_true,e1,je,qj3 hto,wS i,hw,hset]
    exact Ev.ff (by rw [Bool.eq_false_iff,Ne,beq_iff_eq];unfold midC;omega) hX)
  0 (jG _) _ ⟨out,h0,rfl⟩
 exact ⟨out',hm,he⟩
theorem quI {b:qg} (hok:qb6 b) (h:blockB b=true):∀ d k out,Topo (succL b) (npl b) out→k≤out.length→npl b-k=d→(∀ j,j<npl b→(j ∈ out↔inC (succL b) (npl b) (out.take k) j=0)) →
  ∃ out' v i,Topo (succL b) (npl b) out'∧Stuck (succL b) (npl b) out'∧Ev (fun n=>qc7 b n (ints out) (vecI (fun j=>(inC (succL b) (npl b) (out.take k) j:Int)) (npl b)) (k:Int)) (ints out',v,i):=by
 have hl:npl b≤78:=qZ (qw (qP h))
 intro d
 induction d with
 | zero =>
  intro k out ht hk hd hz
  have h1:=ht.len
  obtain rfl:k=out.length:=by omega
  refine ⟨out,vecI (fun j=>(inC (succL b) (npl b) (out.take out.length) j:Int)) (npl b),(out.length:Int),ht,ht.stuck_full (ht.full (by omega)),Ev.succ ?_⟩
  simp only [qc7,qei,qh (jf _),cond_false]
  exact .done
 | succ d ih =>
  intro k out ht hk hd hz
  by_cases hlt:k<out.length
  ·have hc:=jg hlt
   have hcm:out[k]<npl b:=ht.lt _ (jp hlt)
   have hnk:out[k] ∉ out.take k:=by
    have hsp:out=out.take k++out[k]::out.drop (k+1):=by rw [←jD hlt,List.take_append_drop]
    have ht':=ht
    rw [hsp] at ht'
    have:=ht'.at.2.1
    simpa using this
   have hin:∀ j,inC (succL b) (npl b) (out.take k) j=inC (succL b) (npl b) (out.take (k+1)) j+(succL b out[k]).count (j:Int):=fun j=>by
    rw [qrF hcm hnk,js hlt]
   obtain ⟨out',hm,he⟩:=quc h (k:=k) (c:=out[k]) (out:=out) ⟨ht,hlt,hc,fun j hj=>by rw [hz j hj,hin,List.drop_zero]⟩
   have hz':∀ j,j<npl b→(j ∈ out'↔inC (succL b) (npl b) (out'.take (k+1)) j=0):=fun j hj=>by
    have:=hm.zero j hj
    rwa [Ja (jf _),List.count_nil,jY] at this
   obtain ⟨o2,v,i,h1,h2,h3⟩:=ih (k+1) out' hm.topo hm.klt (by omega) hz'
   refine ⟨o2,v,i,h1,h2,Ev.succ ?_⟩
   have hlen:=ht.len
   simp only [qc7,qei,qe hlt,cond_true,qo4 hlt,je,wS k]
   refine Ev.bind (qlK hok h hcm) ?_
   have e0:vecI (fun j=>(inC (succL b) (npl b) (out.take k) j:Int)) (npl b)=vecI (midC b k 0 out[k] out) (npl b):=qip (fun j _=>by rw [hin];unfold midC;rw [List.drop_zero])
   rw [e0]
   refine Ev.bind he ?_
   have e1:vecI (midC b k (succL b out[k]).length out[k] out') (npl b)=vecI (fun j=>(inC (succL b) (npl b) (out'.take (k+1)) j:Int)) (npl b):=qip (fun j _=>by unfold midC;rw [Ja (jf _),List.count_nil,jY])
   rw [e1]
   exact h3
  ·obtain rfl:k=out.length:=by omega
   refine ⟨out,vecI (fun j=>(inC (succL b) (npl b) (out.take out.length) j:Int)) (npl b),(out.length:Int),ht,fun j hj hn=>?_,Ev.succ ?_⟩
   ·have:=(not_congr (hz j hj)).1 hn
    rw [jC,qkT] at this
    by_cases hex:∃ u,u<npl b∧(j:Int) ∈ succL b u∧u ∉ out
    ·exact hex
    ·exact absurd (fun u hu he=>Classical.byContradiction fun hc=>hex ⟨u,hu,he,hc⟩) this
   ·simp only [qc7,qei,qh (jf _),cond_false]
    exact .done
theorem quN {b:qg} (hok:qb6 b) (h:blockB b=true):∃ out,Topo (succL b) (npl b) out∧Stuck (succL b) (npl b) out∧Ev (fun n=>qiy n b) (ints out,decide (out.length=npl b)):=by
 have hl:npl b≤78:=qZ (qw (qP h))
 obtain ⟨out,v,i,h1,h2,h3⟩:=quI hok h (npl b) 0 (zerosL b (npl b)) (Topo.zeros (jf _)) (jG _) rfl (fun j hj=>by
  unfold zerosL
  rw [List.take_zero,List.mem_filter]
  simp [hj])
 refine ⟨out,h1,h2,?_⟩
 unfold qiy
 refine Ev.bind (qjn h) (Ev.bindN (qqI (show npl b≤2147483648 by omega)) ?_)
 refine Ev.bind ((qup hok h).cast rfl) (Ev.bind (qug h) (Ev.bind h3 ?_))
 refine Ev.now ?_
 show some (ints out,((ints out).length:Int)==(npl b:Int))=_
 rw [qei,show ((out.length:Int)==(npl b:Int))=decide (out.length=npl b) by rw [jk];simp;omega]
theorem qnB {xs:List Int} (hl:xs.length≤1000000):Ev (fun n=>qgC n xs 0) (ixL (fun y=>(0:Int)==y) xs) :=
 qdF (fin:=(xs.length:Int)) (Lf:=qcK xs 0) (pf:=fun _ y=>some ((0:Int)==y)) (fun _ _=>.done)
  (fun n=>by simp only [qcK,qh (jf _),cond_false])
  (fun n j x hx=>by
   have hj:=(List.getElem?_eq_some_iff.1 hx).1
   simp only [qcK,qe hj,cond_true,qW hx,je,wS j])
  (fun n=>by unfold qgC;congr 1;funext o;cases o<;>rfl)
def openC (b:qg) (R:List Nat) (k:Nat):Int:=if k ∈ R then -1 else (inC (succL b) (npl b) R k:Int)
theorem qu8 {α:Type} {p:α→Bool} {xs:List α} (h:¬ ixL p xs<0):∃ j,∃ hj:j<xs.length,ixL p xs=(j:Int)∧p xs[j]=true:=by
 unfold ixL at h ⊢
 cases hf:xs.findIdx? p with
 | none=>rw [hf] at h;exact absurd (by decide:(-1:Int)<0) h
 | some j =>
  obtain ⟨hj,hp,_⟩:=List.findIdx?_eq_some_iff_getElem.1 hf
  exact ⟨j,hj,rfl,hp⟩
theorem qwa {α:Type} {p:α→Bool} {xs:List α} (h:ixL p xs<0):∀ x,x ∈ xs→p x=false:=by
 unfold ixL at h
 cases hf:xs.findIdx? p with
 | none=>intro x hx;have:=List.findIdx?_eq_none_iff.1 hf x hx;simpa using this
 | some j=>rw [hf] at h;exact absurd h (by show ¬ (j:Int)<0;omega)
theorem quA {b:qg} {V:Tview} (h:blockB b=true) (hV:V.Bj=b) (hP:V.places=places b.Ab) :
  EvQ (fun n=>qdK n (some V)) fun r=>∃ R,Topo (succL b) (npl b) R∧((r=(ints R,true)∧R.length=npl b)∨(r=([],false)∧R.length<npl b∧Stuck (succL b) (npl b) R)):=by
 have hl:npl b≤78:=qZ (qw (qP h))
 have hL:EvQ (fun n=>qaB (some V) (vecI (fun _=>0) (npl b)) n ([]:List Int) (vecI (fun k=>(inC (succL b) (npl b) [] k:Int)) (npl b)) 0)
   fun r=>∃ R,Topo (succL b) (npl b) R∧((∃ v i,r=.nxt (ints R,v,i)∧R.length=npl b)∨(r=.ret ([],false)∧R.length<npl b∧Stuck (succL b) (npl b) R)):=by
  refine loopR (Lf:=fun n (t:List Int × List Int) i=>qaB (some V) (vecI (fun _=>0) (npl b)) n t.1 t.2 i) (len:=npl b)
   (fun j t=>∃ R,Topo (succL b) (npl b) R∧R.length=j∧t=(ints R,vecI (openC b R) (npl b))) _ (fun t ⟨R,h1,h2,ht⟩=>?_) (fun j t hj ⟨R,h1,h2,ht⟩=>?_) 0 (jG _) (([]:List Int),vecI (fun k=>(inC (succL b) (npl b) [] k:Int)) (npl b)) ⟨[],.nil,rfl,?_⟩
  ·subst ht
   simp only [qaB,qjL,qh (jf _),cond_false]
   exact EvQ.done ⟨R,h1,.inl ⟨_,_,rfl,h2⟩⟩
  ·subst ht
   by_cases hneg:ixL (fun y=>(0:Int)==y) (vecI (openC b R) (npl b))<0
   ·refine .inl (EvQ.succ ?_)
    simp only [qaB,qjL,qe hj,cond_true]
    refine EvQ.bindE (qnB (by rw [qjL];omega)) (EvQ.tt (by simpa using hneg) (EvQ.done ⟨R,h1,.inr ⟨rfl,by omega,fun k hk hn=>?_⟩⟩))
    have:=qwa hneg (openC b R k) (by unfold vecI;exact List.mem_map.2 ⟨k,List.mem_range.2 hk,rfl⟩)
    unfold openC at this
    rw [if_neg hn] at this
    have hne:inC (succL b) (npl b) R k ≠ 0:=by
     intro e;rw [e] at this;exact absurd this (by decide)
    rw [Ne,qkT] at hne
    by_cases hex:∃ u,u<npl b∧(k:Int) ∈ succL b u∧u ∉ R
    ·exact hex
    ·exact absurd (fun u hu he=>Classical.byContradiction fun hc=>hex ⟨u,hu,he,hc⟩) hne
   ·obtain ⟨k,hk,e,hp⟩:=qu8 hneg
    rw [qjL] at hk
    have hp:openC b R k=0:=by
     have:(0:Int)==openC b R k:=by simpa [vecI] using hp
     exact (beq_iff_eq.1 this).symm
    have hn:k ∉ R:=fun hin=>by unfold openC at hp;rw [if_pos hin] at hp;exact absurd hp (by decide)
    have hz:inC (succL b) (npl b) R k=0:=by unfold openC at hp;rw [if_neg hn] at hp;omega
    have ht:Topo (succL b) (npl b) (R++[k]):=.snoc h1 hk hn (qkT.1 hz)
    refine .inr ⟨(ints (R++[k]),vecI (openC b (R++[k])) (npl b)),⟨_,ht,by rw [jo,jw,h2],rfl⟩,fun X hX=>?_⟩
    have hX:Ev (fun n=>qaB (some V) (vecI (fun _=>0) (npl b)) n (ints (R++[k])) (vecI (openC b (R++[k])) (npl b)) ((j+1:Nat):Int)) X:=hX
    simp only [qaB,qjL,qe hj,cond_true,wS j]
    refine Ev.bind (qnB (by rw [qjL];omega)) (Ev.ff (by simpa using hneg) ?_)
    rw [e]
    have happ:appS (ints R) [(k:Int)]=some (ints R++[(k:Int)]):=qcc (by rw [qei,jw];omega)
    simp only [qj3 hk,je,happ]
    refine Ev.bind (qkt h hV hP hk) ?_
    rw [qpl]
    refine Ev.bind (qvk (qht h hk) (by have:=qhp h (j:=k);omega) (fun i hi=>?_)) ?_
    ·by_cases hik:i=k
     ·rw [if_pos hik];omega
     ·rw [if_neg hik]
      unfold openC
      have:=inCsmall h (R:=R) (k:=i)
      split<;>omega
    ·have e2:vecI (fun i=>(if i=k then -1 else openC b R i)+(-1)*((succL b k).count (i:Int):Int)) (npl b)=vecI (openC b (R++[k])) (npl b):=by
      refine qip (fun i _=>?_)
      unfold openC
      by_cases hik:i=k
      ·subst hik
       have h0:(succL b i).count (i:Int)=0:=List.count_eq_zero.2 (fun he=>hn (qkT.1 hz i hk he))
       rw [if_pos rfl,if_pos (by simp),h0];rfl
      ·rw [if_neg hik]
       by_cases hiR:i ∈ R
       ·have h0:=h1.no_back hk hn hiR
        rw [if_pos hiR,if_pos (jR _ hiR),h0];rfl
       ·rw [if_neg hiR,if_neg (by simp [hiR,hik]),qrF hk hn]
        omega
     rw [e2,←qkC]
     exact hX
  ·exact congrArg (fun v=>(([]:List Int),v)) (qip (fun k _=>by unfold openC;simp))
 unfold qdK
 refine EvQ.bindN rfl ?_
 rw [hP]
 refine EvQ.bindN (qqI (show npl b≤2147483648 by omega)) (EvQ.bindE ((quV h hV hP).cast rfl) (EvQ.bind hL fun r hr=>?_))
 obtain ⟨R,h1,hr⟩:=hr
 rcases hr with ⟨v,i,rfl,h2⟩|⟨rfl,h2,h3⟩
 ·exact EvQ.done ⟨R,h1,.inl ⟨rfl,h2⟩⟩
 ·exact EvQ.done ⟨R,h1,.inr ⟨rfl,h2,h3⟩⟩
theorem quE {b:qg} {R out:List Nat} (h1:Topo (succL b) (npl b) R) (h2:Topo (succL b) (npl b) out) (hs:Stuck (succL b) (npl b) out) :
  (R.length=npl b→out.length=npl b)∧(R.length<npl b→Stuck (succL b) (npl b) R→out.length<npl b):=by
 refine ⟨fun h=>?_,fun h hR=>?_⟩
 ·have:=qm6 h1.nodup (h1.sub hs)
  have:=h2.len
  omega
 ·have:=qm6 h2.nodup (h2.sub hR)
  omega
end Go.Fw


namespace Go.Fw
open Go
set_option maxRecDepth 100000
def startB (b:qg) (p:Tplace):Bool:=bif decide (p.instance_<0) then p.drives || clkB b p else clkB b p
def startN (b:qg) (j:Nat):List Nat:=selN (fun i=>startB b (gt (places b.Ab) i)) j
theorem qte {b:qg} (hok:qb6 b) (h:blockB b=true):Ev (fun n=>qhE n b) (ints (startN b (npl b))):=by
 have hl:npl b≤78:=qZ (qw (qP h))
 have hL:Ev (fun n=>qbU b n ([]:List Int) 0) (ints (startN b (npl b)),(npl b:Int)):=by
  refine qus (Lf:=qbU b) (q:=fun i=>startB b (gt (places b.Ab) i)) (len:=npl b) (by omega) (Ev.succ ?_) (fun j hj t ht X h1 h2=>?_)
  ·simp only [qbU]
   exact Ev.bind (qjn h) (Ev.ff (qh (jf _)) .done)
  ·simp only [qbU,wS j,ht,je]
   refine Ev.bind (qjn h) (Ev.tt (qe hj) (Ev.bind (qnt hok h hj) ?_))
   refine Ev.bind (b:=startB b (gt (places b.Ab) j)) ?_ ?_
   ·unfold startB
    refine Ev.iff (fun h0=>?_) (fun _=>Ev.last (qlU hok h hj))
    rcases qfG hj with ⟨i,k,hi,hk,ej,e⟩|⟨i,hi,_,e⟩
    ·rw [e] at h0
     exact absurd h0 (by show ¬ decide ((i:Int)<0)=true;simp)
    ·have hc:=qlU hok h hj
     rw [e] at hc ⊢
     rw [show (toSp (place2 b.Ab i)).pin=(i:Int) from rfl,qS hi]
     simp only [je]
     rw [show (place2 b.Ab i).drives=((gt b.Ab.Ac i).Bl==1) from rfl]
     cases ((gt b.Ab.Ac i).Bl==1)
     ·exact Ev.last hc
     ·exact .done
   ·cases hq:startB b (gt (places b.Ab) j)
    ·exact h2 hq
    ·exact h1 hq
 unfold qhE
 exact Ev.bind hL .done
theorem qtb {b:qg} {V:Tview} {j:Nat} (h:blockB b=true) (hV:V.Bj=b) (hj:j<npl b):Ev (fun n=>qeW n (some V) (gt (places b.Ab) j)) (startB b (gt (places b.Ab) j)):=by
 refine ⟨0,fun n _=>?_⟩
 show qeW n (some V) _=some _
 unfold qeW startB
 rw [qmG (V:=V) h hV hj]
 cases decide ((gt (places b.Ab) j).instance_<0)<;>cases (gt (places b.Ab) j).drives<;>rfl
theorem qqK {b:qg} {out:List Nat} {i:Nat} (h:Topo (succL b) (npl b) out) (hi:i<out.length):out[i]<npl b∧out[i] ∉ out.take i∧(∀ u,u<npl b→(out[i]:Int) ∈ succL b u→u ∈ out.take i)∧(succL b out[i]).count (out[i]:Int)=0∧Topo (succL b) (npl b) (out.take i):=by
 have hsp:out=out.take i++out[i]::out.drop (i+1):=by rw [←jD hi,List.take_append_drop]
 have ht:=h
 rw [hsp] at ht
 obtain ⟨h1,h2,h3⟩:=ht.at
 exact ⟨h1,h2,h3,List.count_eq_zero.2 (fun he=>h2 (h3 _ h1 he)),ht.pre⟩
end Go.Fw


namespace Go.Fw
open Go
open Go.RowKit (Below)
section
variable {P:Program} {T:Tab} {n:Nat} {Q:Exit→Act→World→Prop} {k:List It} {e:Env} {w0 w w':World} {L:List Ch}
variable {β:Type} [GoT β] {Sr Se S1 S2:Nat→Prop} {X:List (List β)} {rs:List (Raw (List β))} {p:Option Addr} {ln c:Nat} {iv:Int} {y:List β}
def hdr (p:Option Addr) (ln c:Nat):Raw (List β):=⟨[.slice p ln c]⟩
theorem qi1 {S:Nat→Prop} {p1:Option Addr} {l1 k1:Nat}:GoT.R w S (hdr p1 l1 k1:Raw (List β)) [.slice p1 l1 k1]:=⟨rfl,rfl,fun v hv=>by rw [List.mem_singleton.1 hv];rfl⟩
theorem SH.matAt (i j:Nat) (h:SH w0 w L) (hi:L[i]?=some (Ch.own Sr rs [.slice p ln c])) (hj:L[j]?=some (Ch.els Se X rs)) (hy:idx X iv=some y) :
  ∃ b o q p1 k1,p=some ⟨b,o,none⟩∧q=o+iv.toNat*GoT.k (Raw (List β))∧(0≤iv∧iv<(ln:Int))∧idx rs iv=some (hdr p1 y.length k1)∧CellsAt w b q [.slice p1 y.length k1]∧SlR w (Fw.old w) y p1 k1:=by
 obtain ⟨h0,hlt,hx⟩:=qax hy
 have hlen:=h.elsLen j hj
 have hil:iv.toNat<rs.length:=by have:=(List.getElem?_eq_some_iff.1 hx).1;omega
 have hr:rs[iv.toNat]?=some rs[iv.toNat]:=jg hil
 obtain ⟨p1,k1,e1,s1⟩:=h.elsR j hj hx hr
 have hidx:idx rs iv=some (hdr p1 y.length k1):=by
  unfold idx
  rw [if_pos h0,hr]
  unfold hdr
  rw [←e1]
 obtain ⟨hs,hl⟩:=h.sl i hi
 obtain ⟨b,o,q,cs,hp,hq,_,hr2,hc⟩:=hs.at hidx
 obtain ⟨rfl,_,_⟩:=hr2
 exact ⟨b,o,q,p1,k1,hp,hq,⟨h0,by omega⟩,hidx,hc,s1⟩
theorem SH.matTake {p1:Option Addr} {k1:Nat} (h:SH w0 w (Ch.own Sr rs [.slice p ln c]::Ch.els Se X rs::L)) (hy:idx X iv=some y) (hr:idx rs iv=some (hdr p1 y.length k1)) :
  ∃ S1 S2,SH w0 w (Ch.own S1 y [.slice p1 y.length k1]::Ch.elsB S2 iv.toNat X rs::Ch.own Sr rs [.slice p ln c]::L):=by
 replace h:=h.pickT 2 [1,0] rfl
 exact h.elsTake (qax hy).2.2 (qax hr).2.2
theorem SH.matPut {y2:List β} {p2:Option Addr} {k2:Nat} (h:SH w0 w (Ch.own S1 y2 [.slice p2 y2.length k2]::Ch.elsB S2 iv.toNat X rs::Ch.own Sr (rs.set iv.toNat (hdr p2 y2.length k2)) [.slice p ln c]::L)) :
  ∃ S3,SH w0 w (Ch.own Sr (rs.set iv.toNat (hdr p2 y2.length k2)) [.slice p ln c]::Ch.els S3 (setS X iv y2) (rs.set iv.toNat (hdr p2 y2.length k2))::L):=by
 replace h:=h.elsPutN
 exact ⟨_,h.pickT 2 [1,0] rfl⟩
theorem rAB {id:Nat} {ops:List Oper} (st is:List Nat) {m:Nat} {L':List Ch} (h:SH w0 w L) (hh:(pickN L is,ops.length,P.follows .mixedOrders)=(some L',m,true))
  (hk:∀ w',Below w.heap.size w w'→SH w0 w' L→RunA P n Q k ops.toArray st (fun w'=>SH w0 w' L') m (bits m 0) e w'):Run P n Q (.code (.region id ops.toArray true)::k) e w:=by
 simp only [Prod.mk.injEq] at hh
 exact qw5 st _ hh.2.2 m (by simpa using hh.2.1) _ qqo fun w' hb=>hk w' hb (h.ext hb)
theorem SlR.later {α:Type} [GoT α] {xs:List α} {p1:Option Addr} {c1:Nat} (h:SlR w (Fw.old w) xs p1 c1) (hb:Below w.heap.size w w'):SlR w' (Fw.old w') xs p1 c1 :=
 (h.loc fun b hS=>hb.block b hS).mono fun b hS=>jz hS hb.size
end
end Go.Fw


namespace Go.Fw
open Go Go.Proofs
open Go.RowKit (Below)
set_option maxRecDepth 100000
set_option maxHeartbeats 6400000
variable {n:Nat} {w:World} {cs1 cs2 cs3:List Value}
def qbq (list:List qa) (at_ next:Int) (y:List (List Int)):Nat→List (List (List Int))→Int→Option (List (List (List Int)) × Int)
 | 0,_,_=>none
 | n+1,X,s =>
  bif decide (s<(y.length:Int)) then
   (idx y s).bind fun t =>
   (qjh n list t next).bind fun t2 =>
   (idx X next).bind fun z =>
   (qhr n z t2).bind fun z2 =>
   bif decide (at_.toNat=next.toNat) then none else
   qbq list at_ next y n (setS X next z2) (W64 (s+1))
  else some (X,s)
def qbp (list:List qa) (at_:Int) (succ:List Int):Nat→List (List (List Int))→Int→Option (List (List (List Int)) × Int)
 | 0,_,_=>none
 | n+1,X,j =>
  bif decide (j<(succ.length:Int)) then
   (idx succ j).bind fun next =>
   (idx X at_).bind fun y =>
   (qbq list at_ next y n X 0).bind fun o=>match o with
   | (X2,_)=>qbp list at_ succ n X2 (W64 (j+1))
  else some (X,j)
def qaJ (v:Option Tview) (V:Tview) (list:List qa) (order:List Int):Nat→List (List (List Int))→Int→Option (Flow (List (List (List Int)) × Int) (List (List (List Int)) × Int))
 | 0,_,_=>none
 | n+1,X,i =>
  bif decide (i<(order.length:Int)) then
   (idx order i).bind fun at_ =>
   (idx V.places at_).bind fun pl =>
   (qeW n v pl).bind fun b =>
   (bif b then (qio n list [at_]).bind fun t=>(idx X at_).bind fun y=>(qhr n y t).bind fun y2=>some (setS X at_ y2) else some X).bind fun X1 =>
   (idx X1 at_).bind fun y =>
   bif decide ((y.length:Int) > 64) then some (.ret ([],3)) else
   (qbH n v at_).bind fun succ =>
   (qbp list at_ succ n X1 0).bind fun o=>match o with
   | (X2,_)=>qaJ v V list order n X2 (W64 (i+1))
  else some (.nxt (X,i))
def qft (n:Nat) (v:Option Tview) (list:List qa):Option (List (List (List Int)) × Int) :=
 (qdK n v).bind fun o=>match o with
 | (order,ok) =>
  bif (!ok) then some ([],7) else
  v.bind fun V =>
  (mkS (V.places.length:Int) ([]:List (List Int))).bind fun X =>
  (qaJ v V list order n X 0).bind fun o=>match o with
  | .ret r=>some r
  | .nxt (X2,_)=>some (X2,0)
theorem qrx {α:Type} {xs:List α} {iv:Int} {k:Nat} {v:α} (h:¬ iv.toNat=k):idx (xs.set k v) iv=idx xs iv:=by
 unfold idx
 rw [Jf (fun e=>h e.symm)]
theorem qmA {v:Option Tview} {list:List qa} (ha1:GoT.R w (old w) v cs1) (ha2:GoT.R w (old w) list cs2) {r:List (List (List Int)) × Int} (hF:qft n v list=some r):RetV Tryz.prog 43 [GoT.v (Option Tview) cs1,GoT.v (List qa) cs2] w r:=by
 obtain ⟨pv,rfl,sv⟩:=qfs ha1
 obtain ⟨pl,kl,rfl,sl⟩:=ha2
 refine zV 94 Tryz.func43 rfl fun h=>?_
 refine X0 8 rfl ?_
 obtain ⟨⟨order,ok⟩,ho,hF⟩:=qd hF
 refine qdj (order,ok) h (cB 100 rfl) (qlr (h.old sv) ho) rfl rfl rfl rfl fun w1 S1 us hv hr=>?_
 obtain ⟨S2,S3,po,ko,us2,rfl,hv2,hr2⟩:=hv.consL hr
 obtain ⟨rfl,h⟩:=hv2.lastB hr2
 refine X0 12 rfl (qi rfl hF ?_ ?_)<;>intro hF
 ·refine X0 5 rfl ?_
  obtain rfl:=qb hF
  exact qak qc (ρ:=(List (List (List Int)) × Int)) [GoT.v (List (List (List Int))) [.slice none 0 0],GoT.v Int [.int .i64 7]] h ⟨rfl,rfl,trivial⟩ (PV.done h (qbn h qhH (qat (qy (S:=fun _=>False) rfl)) (by rfl)))
 refine X0 4 rfl ?_
 obtain ⟨V,hV,hF⟩:=qd hF
 obtain ⟨b1,o_1,cs4,rfl,-,hr1,hc1⟩:=PtR.get sv hV
 obtain ⟨p2,k1,p3,k2,p4,k3,p5,k4,p6,k5,p7,k6,p8,k7,p9,k8,p10,k9,p11,k10,rfl,s2,s3,s4,s5,s6,s7,s8,s9,s10,s11⟩:=qir hr1
 refine X0 2 rfl ?_
 refine zc 5 (hc1.below h.below) rfl (zp1 rfl ?_)
 obtain ⟨X0_,hx1,hF⟩:=qd hF
 obtain ⟨g1,g2,hx1⟩:=qb3 hx1
 refine qc9 qc (List (List Int)) h rfl rfl rfl rfl rfl rfl rfl rfl rfl g1 g2 hx1 rfl fun w2 S4 p12 h=>?_
 obtain ⟨Sr,Se,rs,hrs,h⟩:=h.splitL
 obtain ⟨o1,hF,hK1⟩:=qd hF
 refine X0 9 rfl ?_
 refine qk (rL (fun m e w'=>∃ (X:List (List (List Int))) (i:Int) (rs:List (Raw (List (List Int)))) (Se:Nat→Prop),qaJ v V list order m X i=some o1∧e=[(0,.pointer (some ⟨b1,o_1,none⟩)),(1,.slice pl list.length kl),(8,.slice p12 X0_.length X0_.length),(28,.slice po order.length ko),(29,.int .i64 order.length),(30,.int .i64 i)]∧SH w w' [Ch.own Sr rs [.slice p12 X0_.length X0_.length],Ch.els Se X rs,Ch.own S2 order [.slice po order.length ko]]) n ⟨_,_,_,_,hF,rfl,h⟩ rfl ?_)
 rintro m1 e1 w3 ⟨X,i,rs,Se,hF,rfl,h⟩
 rcases m1 with _|m1
 ·cases hF
 refine X0 5 rfl (qi rfl hF ?_ ?_)<;>intro hF
 ·refine X0 5 rfl ?_
  obtain ⟨at_,hy1,hF,he1,b2,_,q1,cs5,hp1,hq1,rfl,hc2⟩:=(h.sl 2 rfl).1.ix hF
  refine zx hp1 hq1 ⟨he1.1,qx he1.2.1 (h.sl 2 rfl).2⟩ rfl (zc 0 hc2 rfl ?_)
  refine X0 9 rfl ?_
  refine zc 5 (hc1.below h.below) rfl ?_
  refine X0 1 rfl ?_
  obtain ⟨pc,hy2,hF,he2,b3,_,q2,cs6,hp2,hq2,hr2,hc3⟩:=s7.ix hF
  obtain rfl:=qcs hr2
  refine zxe hp2 hq2 he2 rfl (zc 0 (hc3.below h.below) rfl ?_)
  refine zcB h hF (qlB (h.old sv) (h.old (qhl pc))) rfl fun bs w4 h hF=>?_
  refine X0 1 rfl ?_
  obtain ⟨G,hG,X1,hF,hK2⟩:=bindE hF
  refine qcB (fun e w'=>∃ (X1:List (List (List Int))) (rs1:List (Raw (List (List Int)))) (Se1:Nat→Prop),G X1=some o1∧e=[(0,.pointer (some ⟨b1,o_1,none⟩)),(1,.slice pl list.length kl),(8,.slice p12 X0_.length X0_.length),(10,.int .i64 at_),(28,.slice po order.length ko),(29,.int .i64 order.length),(30,.int .i64 i)]∧SH w w' [Ch.own Sr rs1 [.slice p12 X0_.length X0_.length],Ch.els Se1 X1 rs1,Ch.own S2 order [.slice po order.length ko]]) ?_ ?_
  ·refine qi rfl hF ?_ ?_<;>intro hF
   ·obtain ⟨t,ht,hF⟩:=qd hF
    obtain ⟨y,hy,hF⟩:=qd hF
    obtain ⟨y2,hy2,hF⟩:=qd hF
    obtain rfl:=qb hF
    obtain ⟨bb,oo,q3,p13,k13,hp3,hq3,hlt3,hidx,hcl,hs⟩:=h.matAt 0 1 rfl rfl hy
    refine rA [12] [0] h rfl fun w5 h=>M0 207 [0,1,2,3,6,7] (h.pick [0] rfl) rfl ?_
    refine Aw 4 223 (fun w' _=>qng (x:=.tmp 45) (i:=.tmp 46) (t:=88) qc hp3 hq3 hlt3 rfl rfl rfl rfl rfl rfl) (h.pick [0] rfl) rfl ?_
    refine Aw 5 255 (fun w' hw=>qim (x:=.tmp 47) (t:=47) (j:=0) qc (qcJ hw 0 rfl hidx hp3 hq3 (qi1 (S:=fun _=>False) (w:=w'))) rfl rfl rfl) (h.pick [0] rfl) rfl ?_
    refine Ao 8 511 rfl (qG qc [.tmp 50] _ ([at_]:List Int) h rfl rfl rfl rfl rfl rfl rfl rfl rfl ⟨rfl,trivial⟩ rfl fun w6 p14 S5 h=>?_)
    refine Ag (h.pick [1] rfl) (Ao 9 1023 rfl ?_)
    refine qdj t h (cB 33 rfl) (qpV ⟨_,_,rfl,(h.oldS sl)⟩ (h.own 0 rfl) ht) rfl rfl rfl rfl fun w7 S6 us hv hr=>?_
    obtain ⟨p15,k15,rfl,h⟩:=hv.lastL hr
    replace h:=h.pick [2,3,0,4] rfl
    obtain ⟨S7,S8,h⟩:=h.matTake hy hidx
    replace h:=h.pick [3,0,1,2,4] rfl
    refine Ag (h.pick [3] rfl) (Ao 10 2047 rfl ?_)
    refine qnb (cB 102 rfl) (qmH h hy2) rfl rfl rfl rfl fun w8 S9 p16 k16 h=>?_
    refine Ag (h.pick [2] rfl) ?_
    refine Aw 11 4095 (fun w' _=>qng (x:=.tmp 43) (i:=.tmp 44) (t:=88) qc hp3 hq3 hlt3 rfl rfl rfl rfl rfl rfl) (h.pick [2] rfl) rfl ?_
    refine Ao 12 8191 rfl ?_
    refine qaX qc 2 0 (hdr p16 y2.length k16) h rfl hidx hp3 hq3 qi1 (qcJ h 2 rfl hidx hp3 hq3 (qi1 (S:=fun _=>False) (w:=w8))) rfl rfl rfl qi1 rfl rfl rfl fun w9 h=>?_
    obtain ⟨S10,h⟩:=SH.matPut h
    refine qh3 (fun hs=>absurd (hs 12 (by decide)) (by decide)) (Ad ?_)
    exact rG ⟨_,_,_,hK2,rfl,h⟩ rfl
   refine qhk ?_
   obtain rfl:=qb hF
   exact rG ⟨_,_,_,hK2,rfl,h⟩ rfl
  rintro _ w5 ⟨X1,rs1,Se1,hF,rfl,h⟩
  subst hG
  refine X0 5 rfl ?_
  obtain ⟨y,hy,hF⟩:=qd hF
  obtain ⟨bb,oo,q3,p13,k13,hp3,hq3,hlt3,hidx,hcl,hs⟩:=h.matAt 0 1 rfl rfl hy
  refine zx hp3 hq3 hlt3 rfl (zc 0 hcl rfl ?_)
  refine X0 3 rfl (qi rfl hF ?_ ?_)<;>intro hF
  ·refine X0 5 rfl ?_
   obtain rfl:=qb hF;replace hF:=hK1
   obtain rfl:=qb hF
   exact qak qc (ρ:=(List (List (List Int)) × Int)) [GoT.v (List (List (List Int))) [.slice none 0 0],GoT.v Int [.int .i64 3]] h ⟨rfl,rfl,trivial⟩ (PV.done h (qbn h qhH (qat (qy (S:=fun _=>False) rfl)) (by rfl)))
  refine X0 5 rfl (zcL h hF (qfe (h.old sv)) rfl fun succ w6 S5 p14 k14 h hF=>?_)
  replace h:=h.pick [1,2,0,3] rfl
  obtain ⟨o2,hF,hK2⟩:=qd hF
  refine X0 3 rfl ?_
  refine qk (rL (fun m e w'=>∃ (X:List (List (List Int))) (j:Int) (rs:List (Raw (List (List Int)))) (Se:Nat→Prop),qbp list at_ succ m X j=some o2∧e=[(0,.pointer (some ⟨b1,o_1,none⟩)),(1,.slice pl list.length kl),(8,.slice p12 X0_.length X0_.length),(10,.int .i64 at_),(28,.slice po order.length ko),(29,.int .i64 order.length),(30,.int .i64 i),(63,.slice p14 succ.length k14),(64,.int .i64 succ.length),(65,.int .i64 j)]∧SH w w' [Ch.own Sr rs [.slice p12 X0_.length X0_.length],Ch.els Se X rs,Ch.own S5 succ [.slice p14 succ.length k14],Ch.own S2 order [.slice po order.length ko]]) m1 ⟨_,_,_,_,hF,rfl,h⟩ rfl ?_)
  rintro m2 e2 w7 ⟨X2,j,rs2,Se2,hF,rfl,h⟩
  rcases m2 with _|m2
  ·cases hF
  refine X0 5 rfl (qi rfl hF ?_ ?_)<;>intro hF
  ·refine X0 5 rfl ?_
   obtain ⟨next,hy5,hF,he5,b5,_,q5,cs7,hp5,hq5,rfl,hc5⟩:=(h.sl 2 rfl).1.ix hF
   refine zx hp5 hq5 ⟨he5.1,qx he5.2.1 (h.sl 2 rfl).2⟩ rfl (zc 0 hc5 rfl ?_)
   refine X0 6 rfl ?_
   obtain ⟨yr,hyr,hF⟩:=qd hF
   obtain ⟨b6,o6,q6,pr,kr,hp6,hq6,hlt6,hidr,hc6,hs6⟩:=h.matAt 0 1 rfl rfl hyr
   refine zx hp6 hq6 hlt6 rfl (zc 0 hc6 rfl ?_)
   obtain ⟨o3,hF,hK3⟩:=qd hF
   refine X0 3 rfl ?_
   refine qk (rL (fun m e w'=>∃ (X:List (List (List Int))) (s:Int) (rs:List (Raw (List (List Int)))) (Se:Nat→Prop),qbq list at_ next yr m X s=some o3∧idx X at_=some yr∧idx rs at_=some (hdr pr yr.length kr)∧e=[(0,.pointer (some ⟨b1,o_1,none⟩)),(1,.slice pl list.length kl),(8,.slice p12 X0_.length X0_.length),(10,.int .i64 at_),(12,.int .i64 next),(28,.slice po order.length ko),(29,.int .i64 order.length),(30,.int .i64 i),(63,.slice p14 succ.length k14),(64,.int .i64 succ.length),(65,.int .i64 j),(72,.slice pr yr.length kr),(73,.int .i64 yr.length),(74,.int .i64 s)]∧SH w w' [Ch.own Sr rs [.slice p12 X0_.length X0_.length],Ch.els Se X rs,Ch.own S5 succ [.slice p14 succ.length k14],Ch.own S2 order [.slice po order.length ko]]) m2 ⟨_,_,_,_,hF,hyr,hidr,rfl,h⟩ rfl ?_)
   rintro m3 e3 w8 ⟨X3,s,rs3,Se3,hF,hX3,hR3,rfl,h⟩
   rcases m3 with _|m3
   ·cases hF
   refine X0 5 rfl (qi rfl hF ?_ ?_)<;>intro hF
   ·refine X0 5 rfl ?_
    have hrow:=(qib (h.elsR 1 rfl (qax hX3).2.2 (qax hR3).2.2)).1
    obtain ⟨tg,hy7,hF,he7,b7,_,q7,cs8,hp7,hq7,hr7,hc7⟩:=hrow.ix hF
    obtain ⟨pt,kt,rfl,st⟩:=hr7
    refine zxe hp7 hq7 he7 rfl (zc 0 hc7 rfl ?_)
    refine X0 2 rfl ?_
    obtain ⟨t2,ht2,hF⟩:=qd hF
    obtain ⟨z,hz,hF⟩:=qd hF
    obtain ⟨z2,hz2,hF⟩:=qd hF
    have hne:¬ at_.toNat=next.toNat:=fun e=>by rw [decide_eq_true e] at hF;cases hF
    rw [decide_eq_false hne,cond_false] at hF
    obtain ⟨b8,o8,q8,p15,k15,hp8,hq8,hlt8,hid8,hc8,hs8⟩:=h.matAt 0 1 rfl rfl hz
    refine rAB [12] [0] h rfl fun w9 hB9 h=>M0 463 [0,1,2,3,6,7,8] (h.pick [0] rfl) rfl ?_
    refine Aw 4 479 (fun w' _=>qng (x:=.tmp 80) (i:=.tmp 81) (t:=88) qc hp8 hq8 hlt8 rfl rfl rfl rfl rfl rfl) (h.pick [0] rfl) rfl ?_
    refine Aw 5 511 (fun w' hw=>qim (x:=.tmp 82) (t:=47) (j:=0) qc (qcJ hw 0 rfl hid8 hp8 hq8 (qi1 (S:=fun _=>False) (w:=w'))) rfl rfl rfl) (h.pick [0] rfl) rfl ?_
    refine Ao 9 1023 rfl ?_
    refine qdj t2 h (cB 103 rfl) (qoU ⟨_,_,rfl,(h.oldS sl)⟩ ⟨_,_,rfl,st.later hB9⟩ ht2) rfl rfl rfl rfl fun w10 S6 us hv hr=>?_
    obtain ⟨p16,k16,rfl,h⟩:=hv.lastL hr
    replace h:=h.pick [1,2,0,3,4] rfl
    obtain ⟨S7,S8,h⟩:=h.matTake hz hid8
    replace h:=h.pick [3,0,1,2,4,5] rfl
    refine Ag (h.pick [3] rfl) (Ao 10 2047 rfl ?_)
    refine qnb (cB 102 rfl) (qmH h hz2) rfl rfl rfl rfl fun w11 S9 p17 k17 h=>?_
    refine Ag (h.pick [2] rfl) ?_
    refine Aw 11 4095 (fun w' _=>qng (x:=.tmp 78) (i:=.tmp 79) (t:=88) qc hp8 hq8 hlt8 rfl rfl rfl rfl rfl rfl) (h.pick [2] rfl) rfl ?_
    refine Ao 12 8191 rfl ?_
    refine qaX qc 2 0 (hdr p17 z2.length k17) h rfl hid8 hp8 hq8 qi1 (qcJ h 2 rfl hid8 hp8 hq8 (qi1 (S:=fun _=>False) (w:=w11))) rfl rfl rfl qi1 rfl rfl rfl fun w12 h=>?_
    obtain ⟨S10,h⟩:=SH.matPut h
    refine qh3 (fun hs=>absurd (hs 12 (by decide)) (by decide)) (Ad ?_)
    refine X0 5 rfl ?_
    exact rK ⟨_,_,_,_,hF,(qrx hne).trans hX3,(qrx hne).trans hR3,rfl,h⟩ rfl
   refine qm rfl ?_
   obtain rfl:=qb hF;replace hF:=hK3
   refine X0 5 rfl ?_
   exact rK ⟨_,_,_,_,hF,rfl,h⟩ rfl
  refine qm rfl ?_
  obtain rfl:=qb hF;replace hF:=hK2
  refine X0 5 rfl ?_
  replace h:=h.pick [0,1,3] rfl
  exact rK ⟨_,_,_,_,hF,rfl,h⟩ rfl
 refine qm rfl ?_
 obtain rfl:=qb hF;replace hF:=hK1
 refine X0 6 rfl ?_
 obtain rfl:=qb hF
 replace h:=h.joinL
 exact qak qc (ρ:=(List (List (List Int)) × Int)) [GoT.v (List (List (List Int))) [.slice p12 X0_.length X0_.length],GoT.v Int [.int .i64 0]] h ⟨rfl,rfl,trivial⟩ (PV.done h (qbn h (qay 0 h rfl) (qat (qy (S:=fun _=>False) rfl)) (by rfl)))
end Go.Fw


namespace Go.Fw
open Go Go.Proofs
open Go.RowKit (Below)
set_option maxRecDepth 100000
set_option maxHeartbeats 6400000
variable {n:Nat} {w:World} {cs1 cs2 cs3:List Value}
def qdz (list:List qa) (starts:List Int):Nat→List (List (List Int))→Int→Option (List (List (List Int)) × Int)
 | 0,_,_=>none
 | n+1,X,i =>
  bif decide (i<(starts.length:Int)) then
   (idx starts i).bind fun place =>
   (qiA n list place).bind fun t =>
   (idx X place).bind fun _ =>
   qdz list starts n (setS X place [t]) (W64 (i+1))
  else some (X,i)
def qb7 (list:List qa) (place to:Int):Nat→List (List (List Int))→Int→Option (List (List (List Int)) × Int)
 | 0,_,_=>none
 | n+1,X,t =>
  (idx X place).bind fun y =>
  bif decide (t<(y.length:Int)) then
   (idx X to).bind fun z =>
   (idx y t).bind fun tg =>
   (qhG n list tg to).bind fun t2 =>
   (qkh n z t2).bind fun z2 =>
   qb7 list place to n (setS X to z2) (W64 (t+1))
  else some (X,t)
def qca (list:List qa) (place:Int) (next:List Int):Nat→List (List (List Int))→Int→Option (Flow (List (List (List Int)) × Bool) (List (List (List Int)) × Int))
 | 0,_,_=>none
 | n+1,X,i =>
  bif decide (i<(next.length:Int)) then
   (idx next i).bind fun to =>
   (qb7 list place to n X 0).bind fun o=>match o with
   | (X2,_) =>
    (idx X2 to).bind fun z =>
    bif decide ((z.length:Int) > 64) then some (.ret ([],false)) else
    qca list place next n X2 (W64 (i+1))
  else some (.nxt (X,i))
def qb8 (b:qg) (list:List qa) (order:List Int):Nat→List (List (List Int))→Int→Option (Flow (List (List (List Int)) × Bool) (List (List (List Int)) × Int))
 | 0,_,_=>none
 | n+1,X,k =>
  bif decide (k<(order.length:Int)) then
   (idx order k).bind fun place =>
   (qga n b place).bind fun next =>
   (qca list place next n X 0).bind fun o=>match o with
   | .ret r=>some (.ret r)
   | .nxt (X2,_)=>qb8 b list order n X2 (W64 (k+1))
  else some (.nxt (X,k))
def qgB (n:Nat) (b:qg) (list:List qa) (order:List Int):Option (List (List (List Int)) × Bool) :=
 (qbJ n b).bind fun m =>
 (mkS m ([]:List (List Int))).bind fun X =>
 (qhE n b).bind fun starts =>
 (qdz list starts n X 0).bind fun o=>match o with
 | (X1,_) =>
  (qb8 b list order n X1 0).bind fun o=>match o with
  | .ret r=>some r
  | .nxt (X2,_)=>some (X2,true)
theorem qoH {b:qg} {list:List qa} {order:List Int} (ha1:GoT.R w (old w) b cs1) (ha2:GoT.R w (old w) list cs2) (ha3:GoT.R w (old w) order cs3) {r:List (List (List Int)) × Bool} (hF:qgB n b list order=some r):RetV Tryz.prog 46 [GoT.v qg cs1,GoT.v (List qa) cs2,GoT.v (List Int) cs3] w r:=by
 obtain ⟨p1,k1,p2,k2,p3,k3,p4,k4,p5,k5,rfl,s1,s2,s3,s4,s5⟩:=qK ha1
 obtain ⟨pl,kl,rfl,sl⟩:=ha2
 obtain ⟨po,ko,rfl,so⟩:=ha3
 refine zV 97 Tryz.func46 rfl fun h=>zSR (qu h rfl rfl fun w1 bb1 h=>?_)
 have h:SH w w1 [Ch.box bb1 (qal b p1 p2 p3 p4 p5 k1 k2 k3 k4 k5) 34]:=h
 refine X1 6 0 h rfl ?_
 refine zcI h hF (qfb (h.old ha1)) rfl fun m w2 h hF=>?_
 obtain ⟨X0_,hx1,hF⟩:=qd hF
 obtain ⟨g1,g2,hx1⟩:=qb3 hx1
 refine qc9 qc (List (List Int)) h rfl rfl rfl rfl rfl rfl rfl rfl rfl g1 g2 hx1 rfl fun w3 S4 p12 h=>?_
 obtain ⟨Sr,Se,rs,hrs,h⟩:=h.splitL
 refine X1 5 2 h rfl ?_
 refine zcL h hF (qnC (h.old ha1)) rfl fun starts w4 S5 p14 k14 h hF=>?_
 replace h:=h.pick [1,2,0,3] rfl
 obtain ⟨o1,hF,hK1⟩:=qd hF
 refine X0 7 rfl ?_
 refine qk (rL (fun m e w'=>∃ (X:List (List (List Int))) (i:Int) (rs:List (Raw (List (List Int)))) (Se:Nat→Prop),qdz list starts m X i=some o1∧e=[(1,.slice pl list.length kl),(2,.slice po order.length ko),(3,.pointer (some ⟨bb1,0,none⟩)),(8,.slice p12 X0_.length X0_.length),(9,.slice p14 starts.length k14),(10,.int .i64 i)]∧SH w w' [Ch.own Sr rs [.slice p12 X0_.length X0_.length],Ch.els Se X rs,Ch.own S5 starts [.slice p14 starts.length k14],Ch.box bb1 (qal b p1 p2 p3 p4 p5 k1 k2 k3 k4 k5) 34]) n ⟨_,_,_,_,hF,rfl,h⟩ rfl ?_)
 rintro m1 e1 w5 ⟨X,i,rs,Se,hF,rfl,h⟩
 rcases m1 with _|m1
 ·cases hF
 refine X0 8 rfl (qi rfl hF ?_ ?_)<;>intro hF
 ·refine X0 7 rfl ?_
  obtain ⟨place,hy1,hF,he1,b2,_,q1,cs5,hp1,hq1,rfl,hc2⟩:=(h.sl 2 rfl).1.ix hF
  refine zx hp1 hq1 ⟨he1.1,qx he1.2.1 (h.sl 2 rfl).2⟩ rfl (zc 0 hc2 rfl ?_)
  refine X0 7 rfl (zcL h hF (qnU ⟨_,_,rfl,(h.oldS sl)⟩) rfl fun t w6 S6 p15 k15 h hF=>?_)
  obtain ⟨y0,hy0,hF⟩:=qd hF
  refine qvG qc h rfl rfl rfl rfl rfl rfl rfl rfl rfl fun w7 p16 S7 h=>?_
  obtain ⟨b3,o3,q3,p17,k17,hp3,hq3,hlt3,hid3,hc3,hs3⟩:=h.matAt 1 2 rfl rfl hy0
  replace h:=h.pick [1,2,0,3,4] rfl
  obtain ⟨S8,S9,h⟩:=h.matTake hy0 hid3
  replace h:=h.pick [3,1,2,4,5] rfl
  refine zx hp3 hq3 hlt3 rfl ?_
  refine qaX qc 2 0 (hdr p16 [t].length 1) h rfl hid3 hp3 hq3 qi1 (qcJ h 2 rfl hid3 hp3 hq3 (qi1 (S:=fun _=>False) (w:=w7))) rfl rfl rfl qi1 rfl rfl rfl fun w8 h=>?_
  obtain ⟨S10,h⟩:=SH.matPut (y2:=[t]) h
  refine X0 7 rfl ?_
  exact rK ⟨_,_,_,_,hF,rfl,h⟩ rfl
 refine qm rfl ?_
 obtain rfl:=qb hF;replace hF:=hK1
 replace h:=h.pick [0,1,3] rfl
 obtain ⟨o2,hF,hK2⟩:=qd hF
 refine X0 5 rfl ?_
 refine qk (rL (fun m e w'=>∃ (X:List (List (List Int))) (k:Int) (rs:List (Raw (List (List Int)))) (Se:Nat→Prop),qb8 b list order m X k=some o2∧e=[(1,.slice pl list.length kl),(2,.slice po order.length ko),(3,.pointer (some ⟨bb1,0,none⟩)),(8,.slice p12 X0_.length X0_.length),(12,.int .i64 k)]∧SH w w' [Ch.own Sr rs [.slice p12 X0_.length X0_.length],Ch.els Se X rs,Ch.box bb1 (qal b p1 p2 p3 p4 p5 k1 k2 k3 k4 k5) 34]) n ⟨_,_,_,_,hF,rfl,h⟩ rfl ?_)
 rintro m2 e2 w9 ⟨X2,k,rs2,Se2,hF,rfl,h⟩
 rcases m2 with _|m2
 ·cases hF
 refine X0 8 rfl (qi rfl hF ?_ ?_)<;>intro hF
 ·refine X0 7 rfl ?_
  obtain ⟨place,hy1,hF,he1,b2,_,q1,cs5,hp1,hq1,rfl,hc2⟩:=so.ix hF
  refine zxe hp1 hq1 he1 rfl (zc 0 (hc2.below h.below) rfl ?_)
  refine X1 6 2 h rfl ?_
  refine zcL h hF (qie (h.old ha1)) rfl fun next w10 S11 p18 k18 h hF=>?_
  replace h:=h.pick [1,2,0,3] rfl
  obtain ⟨o3,hF,hK3⟩:=qd hF
  refine X0 6 rfl ?_
  refine qk (rL (fun m e w'=>∃ (X:List (List (List Int))) (i:Int) (rs:List (Raw (List (List Int)))) (Se:Nat→Prop),qca list place next m X i=some o3∧e=[(1,.slice pl list.length kl),(2,.slice po order.length ko),(3,.pointer (some ⟨bb1,0,none⟩)),(8,.slice p12 X0_.length X0_.length),(12,.int .i64 k),(13,.int .i64 place),(14,.slice p18 next.length k18),(15,.int .i64 i)]∧SH w w' [Ch.own Sr rs [.slice p12 X0_.length X0_.length],Ch.els Se X rs,Ch.own S11 next [.slice p18 next.length k18],Ch.box bb1 (qal b p1 p2 p3 p4 p5 k1 k2 k3 k4 k5) 34]) m2 ⟨_,_,_,_,hF,rfl,h⟩ rfl ?_)
  rintro m3 e3 w11 ⟨X3,i3,rs3,Se3,hF,rfl,h⟩
  rcases m3 with _|m3
  ·cases hF
  refine X0 8 rfl (qi rfl hF ?_ ?_)<;>intro hF
  ·refine X0 7 rfl ?_
   obtain ⟨to,hy5,hF,he5,b5,_,q5,cs7,hp5,hq5,rfl,hc5⟩:=(h.sl 2 rfl).1.ix hF
   refine zx hp5 hq5 ⟨he5.1,qx he5.2.1 (h.sl 2 rfl).2⟩ rfl (zc 0 hc5 rfl ?_)
   obtain ⟨o4,hF,hK4⟩:=qd hF
   refine X0 7 rfl ?_
   refine qk (rL (fun m e w'=>∃ (X:List (List (List Int))) (t:Int) (rs:List (Raw (List (List Int)))) (Se:Nat→Prop),qb7 list place to m X t=some o4∧e=[(1,.slice pl list.length kl),(2,.slice po order.length ko),(3,.pointer (some ⟨bb1,0,none⟩)),(8,.slice p12 X0_.length X0_.length),(12,.int .i64 k),(13,.int .i64 place),(14,.slice p18 next.length k18),(15,.int .i64 i3),(16,.int .i64 to),(17,.int .i64 t)]∧SH w w' [Ch.own Sr rs [.slice p12 X0_.length X0_.length],Ch.els Se X rs,Ch.own S11 next [.slice p18 next.length k18],Ch.box bb1 (qal b p1 p2 p3 p4 p5 k1 k2 k3 k4 k5) 34]) m3 ⟨_,_,_,_,hF,rfl,h⟩ rfl ?_)
   rintro m4 e4 w12 ⟨X4,t4,rs4,Se4,hF,rfl,h⟩
   rcases m4 with _|m4
   ·cases hF
   refine X0 6 rfl ?_
   obtain ⟨y,hy,hF⟩:=qd hF
   obtain ⟨b6,o6,q6,py,ky,hp6,hq6,hlt6,hid6,hc6,hs6⟩:=h.matAt 0 1 rfl rfl hy
   refine zx hp6 hq6 hlt6 rfl (zc 0 hc6 rfl ?_)
   refine X0 3 rfl (qi rfl hF ?_ ?_)<;>intro hF
   ·refine X0 3 rfl ?_
    obtain ⟨z,hz,hF⟩:=qd hF
    obtain ⟨tg,htg,hF⟩:=qd hF
    obtain ⟨t2,ht2,hF⟩:=qd hF
    obtain ⟨z2,hz2,hF⟩:=qd hF
    obtain ⟨b8,o8,q8,p15,k15,hp8,hq8,hlt8,hid8,hc8,hs8⟩:=h.matAt 0 1 rfl rfl hz
    refine rA [18] [0] h rfl fun w13 h=>?_
    have hrow:=(qib (h.elsR 1 rfl (qax hy).2.2 (qax hid6).2.2)).1
    obtain ⟨b9,o9,q9,cs8,hp9,hq9,_,hr9,hc9⟩:=hrow.at htg
    have he9:=qax htg
    obtain ⟨pt,kt,rfl,st⟩:=hr9
    refine M0 18895 [0,1,2,3,6,7,8,11,14] (h.pick [0] rfl) rfl ?_
    refine Aw 4 18911 (fun w' _=>qng (x:=.tmp 74) (i:=.tmp 75) (t:=88) qc hp8 hq8 hlt8 rfl rfl rfl rfl rfl rfl) (h.pick [0] rfl) rfl ?_
    refine Aw 5 18943 (fun w' hw=>qim (x:=.tmp 76) (t:=47) (j:=0) qc (qcJ hw 0 rfl hid8 hp8 hq8 (qi1 (S:=fun _=>False) (w:=w'))) rfl rfl rfl) (h.pick [0] rfl) rfl ?_
    refine Aw 9 19455 (fun w' _=>qng (x:=.tmp 79) (i:=.tmp 80) (t:=88) qc hp6 hq6 hlt6 rfl rfl rfl rfl rfl rfl) (h.pick [0] rfl) rfl ?_
    refine Aw 10 20479 (fun w' hw=>qim (x:=.tmp 81) (t:=47) (j:=0) qc (qcJ hw 0 rfl hid6 hp6 hq6 (qi1 (S:=fun _=>False) (w:=w'))) rfl rfl rfl) (h.pick [0] rfl) rfl ?_
    refine Aw 12 24575 (fun w' _=>qng (x:=.tmp 82) (i:=.tmp 83) (t:=47) qc hp9 hq9 ⟨he9.1,he9.2.1⟩ rfl rfl rfl rfl rfl rfl) (h.pick [0] rfl) rfl ?_
    refine Ao 13 32767 rfl (zc 0 hc9 rfl ?_)
    refine Ag (h.pick [0] rfl) (Ao 15 65535 rfl ?_)
    refine qdj t2 h (cB 37 rfl) (qlu ⟨_,_,rfl,(h.oldS sl)⟩ ⟨_,_,rfl,st⟩ ht2) rfl rfl rfl rfl fun w14 S12 us hv hr=>?_
    obtain ⟨p16,k16,rfl,h⟩:=hv.lastL hr
    replace h:=h.pick [1,2,0,3,4] rfl
    obtain ⟨S13,S14,h⟩:=h.matTake hz hid8
    replace h:=h.pick [3,0,1,2,4,5] rfl
    refine Ag (h.pick [3] rfl) (Ao 16 131071 rfl ?_)
    refine qnb (cB 104 rfl) (qp2 h hz2) rfl rfl rfl rfl fun w15 S15 p17 k17 h=>?_
    refine Ag (h.pick [2] rfl) ?_
    refine Aw 17 262143 (fun w' _=>qng (x:=.tmp 72) (i:=.tmp 73) (t:=88) qc hp8 hq8 hlt8 rfl rfl rfl rfl rfl rfl) (h.pick [2] rfl) rfl ?_
    refine Ao 18 524287 rfl ?_
    refine qaX qc 2 0 (hdr p17 z2.length k17) h rfl hid8 hp8 hq8 qi1 (qcJ h 2 rfl hid8 hp8 hq8 (qi1 (S:=fun _=>False) (w:=w15))) rfl rfl rfl qi1 rfl rfl rfl fun w16 h=>?_
    obtain ⟨S16,h⟩:=SH.matPut h
    refine qh3 (fun hs=>absurd (hs 18 (by decide)) (by decide)) (Ad ?_)
    refine X0 6 rfl ?_
    exact rK ⟨_,_,_,_,hF,rfl,h⟩ rfl
   refine qm rfl ?_
   obtain rfl:=qb hF;replace hF:=hK4
   refine X0 4 rfl ?_
   obtain ⟨z,hz,hF⟩:=qd hF
   obtain ⟨b7,o7,q7,pz,kz,hp7,hq7,hlt7,hid7,hc7,hs7⟩:=h.matAt 0 1 rfl rfl hz
   refine zx hp7 hq7 hlt7 rfl (zc 0 hc7 rfl ?_)
   refine X0 3 rfl (qi rfl hF ?_ ?_)<;>intro hF
   ·refine X0 5 rfl ?_
    obtain rfl:=qb hF;replace hF:=hK3
    obtain rfl:=qb hF;replace hF:=hK2
    obtain rfl:=qb hF
    exact qak qc (ρ:=(List (List (List Int)) × Bool)) [GoT.v (List (List (List Int))) [.slice none 0 0],GoT.v Bool [.bool false]] h ⟨rfl,rfl,trivial⟩ (PV.done h (qbn h qhH (qat (qy (S:=fun _=>False) rfl)) (by rfl)))
   refine X0 7 rfl ?_
   exact rK ⟨_,_,_,_,hF,rfl,h⟩ rfl
  refine qm rfl ?_
  obtain rfl:=qb hF;replace hF:=hK3
  refine X0 6 rfl ?_
  replace h:=h.pick [0,1,3] rfl
  exact rK ⟨_,_,_,_,hF,rfl,h⟩ rfl
 refine qm rfl ?_
 obtain rfl:=qb hF;replace hF:=hK2
 refine X0 6 rfl ?_
 obtain rfl:=qb hF
 replace h:=h.joinL
 exact qak qc (ρ:=(List (List (List Int)) × Bool)) [GoT.v (List (List (List Int))) [.slice p12 X0_.length X0_.length],GoT.v Bool [.bool true]] h ⟨rfl,rfl,trivial⟩ (PV.done h (qbn h (qay 0 h rfl) (qat (qy (S:=fun _=>False) rfl)) (by rfl)))
end Go.Fw


namespace Go.Fw
open Go
set_option maxRecDepth 100000
def vecT (f:Nat→List (List Int)) (m:Nat):List (List (List Int)):=(List.range m).map f
theorem qu9 {f:Nat→List (List Int)} {m:Nat}:(vecT f m).length=m:=by simp [vecT]
theorem qfD {f:Nat→List (List Int)} {m k:Nat} (h:k<m):idx (vecT f m) (k:Int)=some (f k):=by
 rw [qaW (by rw [qu9];exact h)]
 simp [vecT]
theorem qld {f g:Nat→List (List Int)} {m:Nat} (h:∀ k,k<m→f k=g k):vecT f m=vecT g m:=by
 unfold vecT
 exact List.map_congr_left (fun k hk=>h k (List.mem_range.1 hk))
theorem qqD {m:Nat} (h:m≤2147483648):mkS (m:Int) ([]:List (List Int))=some (vecT (fun _=>[]) m):=by
 unfold mkS big
 rw [if_pos ⟨by omega,by omega⟩]
 congr 1
 refine Jc (by simp [vecT]) (fun k h1 h2=>?_)
 simp [vecT]
theorem qpu {f:Nat→List (List Int)} {m k:Nat} {v:List (List Int)}:setS (vecT f m) (k:Int) v=vecT (fun i=>if i=k then v else f i) m:=by
 unfold setS
 refine Jc (by simp [vecT]) (fun i h1 h2=>?_)
 rw [List.getElem_set]
 simp only [vecT,List.getElem_map,List.getElem_range,jx]
 by_cases e:k=i
 ·rw [if_pos e,if_pos e.symm]
 ·rw [if_neg e,if_neg (fun h=>e h.symm)]
def bgT (es:List qa) (j:Nat):List Int:=startTs es (j:Int)
def spT (es:List qa) (t:List Int) (j:Nat):List Int:=stepTs es t (j:Int)
def stT (b:qg) (j:Nat):Bool:=startB b (gt (places b.Ab) j)
abbrev TgA (b:qg) (es:List qa):Nat→List Int→Prop:=TagA (succL b) (npl b) (stT b) (bgT es) (spT es)
abbrev TgR (b:qg) (es:List qa):List Nat→List Nat→Nat→List Int→Prop:=TagR (succL b) (npl b) (stT b) (bgT es) (spT es)
abbrev TgE (b:qg) (es:List qa):Option (Nat→List (List Int))→Prop:=TagEnd (succL b) (npl b) (stT b) (bgT es) (spT es)
theorem qlf {b:qg} {es:List qa} {j:Nat} {t:List Int} (h:TgA b es j t):t.length=es.length:=by
 cases h with
 | start _=>exact qsp
 | step _ _ _=>exact qlo
def foldT (es:List qa) (v:Nat) (l acc:List (List Int)):List (List Int):=l.foldl (fun acc t=>insT acc (spT es t v)) acc
theorem qnj {es:List qa} {v:Nat}:∀ {l acc:List (List Int)},Srt acc→Srt (foldT es v l acc)
 | [],_,h=>h
 | t::l,acc,h=>qnj (l:=l) (acc:=insT acc (spT es t v)) (qlW h)
theorem qnE {es:List qa} {v:Nat}:∀ {l acc:List (List Int)} {y:List Int},y ∈ foldT es v l acc↔y ∈ acc∨∃ t,t ∈ l∧y=spT es t v
 | [],acc,y=>by simp [foldT]
 | t::l,acc,y=>by
  show y ∈ foldT es v l (insT acc (spT es t v))↔_
  rw [qnE,qkL]
  constructor
  ·rintro ((h|h)|⟨t',h,e⟩)
   ·exact .inr ⟨t,jn ..,h⟩
   ·exact .inl h
   ·exact .inr ⟨t',jm _ h,e⟩
  ·rintro (h|⟨t',h,e⟩)
   ·exact .inl (.inr h)
   ·rcases List.mem_cons.1 h with rfl|h
    ·exact .inl (.inl e)
    ·exact .inr ⟨t',h,e⟩
theorem qnA {es:List qa} {v:Nat}:∀ {l acc:List (List Int)},(foldT es v l acc).length≤acc.length+l.length
 | [],acc=>jf _
 | t::l,acc=>by
  have h1:=qnA (es:=es) (v:=v) (l:=l) (acc:=insT acc (spT es t v))
  have h2:=qrK (xs:=acc) (t:=spT es t v)
  show (foldT es v l (insT acc (spT es t v))).length≤_
  simp only [jZ]
  omega
theorem quD {es:List qa} {v:Nat} {l acc:List (List Int)} {s:Nat} (hs:s<l.length):insT (foldT es v (l.take s) acc) (spT es l[s] v)=foldT es v (l.take (s+1)) acc:=by
 rw [js hs]
 unfold foldT
 rw [List.foldl_append]
 rfl
def inF (es:List qa) (f:Nat→List (List Int)) (v:Nat) (l:List (List Int)):Nat→List (List Int):=fun j=>if j=v then foldT es v l (f v) else f j
theorem qma {es:List qa} {f:Nat→List (List Int)} {v:Nat} {l:List (List Int)}:inF es f v l v=foldT es v l (f v):=if_pos rfl
theorem qmd {es:List qa} {f:Nat→List (List Int)} {v j:Nat} {l:List (List Int)} (h:j ≠ v):inF es f v l j=f j:=if_neg h
theorem qt0 {es:List qa} {f:Nat→List (List Int)} {Q:Nat→List Int→Prop} (h:TagL f Q) (v:Nat) (l:List (List Int)):TagL (inF es f v l) (fun j y=>Q j y∨(j=v∧∃ t,t ∈ l∧y=spT es t v)) where
 srt j:=by
  by_cases e:j=v
  ·subst e;rw [qma];exact qnj (h.srt j)
  ·rw [qmd e];exact h.srt j
 mem j y:=by
  by_cases e:j=v
  ·subst e
   rw [qma,qnE,h.mem]
   exact ⟨fun x=>x.imp id fun x=>⟨rfl,x⟩,fun x=>x.imp id fun x=>x.2⟩
  ·rw [qmd e,h.mem]
   exact ⟨.inl,fun x=>x.elim id fun x=>absurd x.1 e⟩
theorem qr7 {es:List qa} {f:Nat→List (List Int)} {v m:Nat} {l:List (List Int)}:vecT (inF es f v (l.take 0)) m=vecT f m:=by
 refine qld fun k _=>?_
 unfold inF
 rw [List.take_zero]
 by_cases e:k=v
 ·rw [if_pos e,e];rfl
 ·rw [if_neg e]
theorem qt1 {es:List qa} {f:Nat→List (List Int)} {v m s:Nat} {l:List (List Int)} (hs:s<l.length):setS (vecT (inF es f v (l.take s)) m) (v:Int) (insT (foldT es v (l.take s) (f v)) (spT es l[s] v))=vecT (inF es f v (l.take (s+1))) m:=by
 rw [qpu,quD hs]
 refine qld fun k _=>?_
 unfold inF
 by_cases e:k=v
 ·rw [if_pos e,if_pos e]
 ·rw [if_neg e,if_neg e,if_neg e]
theorem qud {es:List qa} {f:Nat→List (List Int)} {u v m:Nat} (hes:okL qQ es) (hel:es.length≤6) (hv:v<m) (hne:u ≠ v) (hs:Srt (f v)) (hu:∀ t,t ∈ f u→t.length=es.length) (hvl:∀ t,t ∈ f v→t.length=es.length) (hl:(f v).length+(f u).length≤1000000) :
  Ev (fun n=>qbq es (u:Int) (v:Int) (f u) n (vecT f m) 0) (vecT (inF es f v (f u)) m,((f u).length:Int)):=by
 have:=loopF (Lf:=qbq es (u:Int) (v:Int) (f u)) (S:=fun s=>vecT (inF es f v ((f u).take s)) m) (len:=(f u).length) (fin:=(vecT (inF es f v (f u)) m,((f u).length:Int))) (fun n=>?_) (fun s hs' X hX=>?_)
 ·rwa [qr7] at this
 ·simp only [qbq,qh (jf _),cond_false,jC]
 ·have hlen:=qnA (es:=es) (v:=v) (l:=(f u).take s) (acc:=f v)
  simp only [Jb] at hlen
  simp only [qbq,qe hs',cond_true,qaW hs',je,wS s]
  refine Ev.bind (qrS hes (hu _ (jp hs'))) (Ev.bindN (qfD hv) ?_)
  show Ev _ X
  rw [qma]
  refine Ev.bind (qqp (qnj hs) (by omega) fun x hx=>?_) (Ev.ff (decide_eq_false (by simpa using hne)) ?_)
  ·rcases qnE.1 hx with hx|⟨t',_,rfl⟩
   ·have:=hvl x hx;omega
   ·have:(spT es t' v).length=es.length:=qlo;omega
  ·have e:=qt1 (es:=es) (f:=f) (v:=v) (m:=m) hs'
   show Ev (fun n=>qbq es (u:Int) (v:Int) (f u) n (setS (vecT (inF es f v ((f u).take s)) m) (v:Int) (insT (foldT es v ((f u).take s) (f v)) (spT es (f u)[s] v))) ((s+1:Nat):Int)) X
   rw [e]
   exact hX
theorem qsJ {es:List qa} {f:Nat→List (List Int)} {u v m:Nat} (hes:okL qQ es) (hel:es.length≤6) (hum:u<m) (hv:v<m) (hne:u ≠ v) (hs:Srt (f v)) (hu:∀ t,t ∈ f u→t.length=es.length) (hvl:∀ t,t ∈ f v→t.length=es.length) (hl:(f v).length+(f u).length≤1000000) :
  Ev (fun n=>qb7 es (u:Int) (v:Int) n (vecT f m) 0) (vecT (inF es f v (f u)) m,((f u).length:Int)):=by
 have:=loopF (Lf:=qb7 es (u:Int) (v:Int)) (S:=fun s=>vecT (inF es f v ((f u).take s)) m) (len:=(f u).length) (fin:=(vecT (inF es f v (f u)) m,((f u).length:Int))) (fun n=>?_) (fun s hs' X hX=>?_)
 ·rwa [qr7] at this
 ·simp only [qb7,qfD hum,je,qmd hne,qh (jf _),cond_false,jC]
 ·have hlen:=qnA (es:=es) (v:=v) (l:=(f u).take s) (acc:=f v)
  simp only [Jb] at hlen
  simp only [qb7,qfD hum,qfD hv,je,qmd hne,qe hs',cond_true,qaW hs',wS s]
  refine Ev.bind (qsd hes (hu _ (jp hs'))) ?_
  rw [qma]
  refine Ev.bind (qxn (m:=es.length) (qnj hs) (by omega) (by omega) (fun x hx=>?_) qlo) ?_
  ·rcases qnE.1 hx with hx|⟨t',_,rfl⟩
   ·exact hvl x hx
   ·exact qlo
  ·have e:=qt1 (es:=es) (f:=f) (v:=v) (m:=m) hs'
   show Ev (fun n=>qb7 es (u:Int) (v:Int) n (setS (vecT (inF es f v ((f u).take s)) m) (v:Int) (insT (foldT es v ((f u).take s) (f v)) (spT es (f u)[s] v))) ((s+1:Nat):Int)) X
   rw [e]
   exact hX
def QK (b:qg) (es:List qa) (S R:List Nat) (u k:Nat) (j:Nat) (t:List Int):Prop:=TgR b es S R j t∨∃ i,i<k∧(succL b u)[i]?=some (j:Int)∧∃ t',TgA b es u t'∧t=spT es t' j
theorem QK.zero {b:qg} {es:List qa} {S R:List Nat} {u j:Nat} {t:List Int}:TgR b es S R j t↔QK b es S R u 0 j t:=⟨.inl,fun h=>h.elim id fun ⟨i,hi,_⟩=>by omega⟩
theorem QK.succ {b:qg} {es:List qa} {S R:List Nat} {u k v j:Nat} {t:List Int} {l:List (List Int)} (hv:(succL b u)[k]?=some (v:Int)) (hl:∀ t,t ∈ l↔TgA b es u t) :
  (QK b es S R u k j t∨(j=v∧∃ t',t' ∈ l∧t=spT es t' v))↔QK b es S R u (k+1) j t:=by
 constructor
 ·rintro ((h|⟨i,hi,h1,h2⟩)|⟨rfl,t',h1,h2⟩)
  ·exact .inl h
  ·exact .inr ⟨i,by omega,h1,h2⟩
  ·exact .inr ⟨k,by omega,hv,t',(hl t').1 h1,h2⟩
 ·rintro (h|⟨i,hi,h1,t',h2,h3⟩)
  ·exact .inl (.inl h)
  ·by_cases e:i=k
   ·subst e
    rw [hv] at h1
    have e2:v=j:=by have:=Option.some.inj h1;omega
    subst e2
    exact .inr ⟨rfl,t',(hl t').2 h2,h3⟩
   ·exact .inl (.inr ⟨i,by omega,h1,t',h2,h3⟩)
theorem QK.full {b:qg} {es:List qa} {S R:List Nat} {u j:Nat} {t:List Int} (hu:u<npl b):QK b es S R u (succL b u).length j t↔TgR b es S (R++[u]) j t:=by
 constructor
 ·rintro ((h|⟨x,h1,h2,h3,h4⟩)|⟨i,_,h1,t',h2,h3⟩)
  ·exact .inl h
  ·exact .inr ⟨x,jR _ h1,h2,h3,h4⟩
  ·exact .inr ⟨u,List.mem_append_right _ (List.mem_singleton.2 rfl),hu,jA h1,t',h2,h3⟩
 ·rintro (h|⟨x,h1,h2,h3,t',h4,h5⟩)
  ·exact .inl (.inl h)
  ·rcases List.mem_append.1 h1 with h1|h1
   ·exact .inl (.inr ⟨x,h1,h2,h3,t',h4,h5⟩)
   ·rw [List.mem_singleton.1 h1] at h3 h4
    obtain ⟨i,hi⟩:=List.mem_iff_getElem?.1 h3
    exact .inr ⟨i,(List.getElem?_eq_some_iff.1 hi).1,hi,t',h4,h5⟩
theorem QK.sub {b:qg} {es:List qa} {S R:List Nat} {u k j:Nat} {t:List Int} (hu:u<npl b) (h:QK b es S R u k j t):TgA b es j t:=by
 rcases h with h|⟨i,_,h1,t',h2,rfl⟩
 ·exact h.sub
 ·exact .step hu (jA h1) h2
theorem qwr {b:qg} {es:List qa} {f:Nat→List (List Int)} {S R:List Nat} {u c:Nat} (h:blockB b=true) (hes:okL qQ es) (hel:es.length≤6) (hu:u<npl b) (hn:(succL b u).count (u:Int)=0)
  (hf:TagL f (TgR b es S R)) (hfu:∀ t,t ∈ f u↔TgA b es u t) (h64:(f u).length≤64) (hc:∀ j,(f j).length≤c) (hcb:c≤900000) :
  ∃ g,TagL g (TgR b es S (R++[u]))∧(∀ j,(g j).length≤c+6000)∧Ev (fun n=>qbp es (u:Int) (succL b u) n (vecT f (npl b)) 0) (vecT g (npl b),((succL b u).length:Int)):=by
 have hS:=qhp h (j:=u)
 have hun:(u:Int) ∉ succL b u:=List.count_eq_zero.1 hn
 obtain ⟨t,⟨g,rfl,g1,g2,g3⟩,he⟩:=loopE (Lf:=qbp es (u:Int) (succL b u)) (fin:=fun t=>(t,((succL b u).length:Int))) (len:=(succL b u).length)
  (fun k t=>∃ g,t=vecT g (npl b)∧TagL g (QK b es S R u k)∧g u=f u∧∀ j,(g j).length≤c+64*k)
  (fun n t=>by simp only [qbp,qh (jf _),cond_false])
  (fun k t hk ⟨g,e,g1,g2,g3⟩=>by
   subst e
   obtain ⟨v,hv,e1,e2⟩:=(qht h hu).at hk
   have hne:u ≠ v:=fun e=>hun (by have:=jA e2;rwa [←e] at this)
   have hq:=qt0 (es:=es) g1 v (g u)
   rw [g2] at hq
   refine ⟨vecT (inF es g v (g u)) (npl b),⟨inF es g v (g u),rfl,?_,?_,fun j=>?_⟩,fun X hX=>?_⟩
   ·rw [g2];exact hq.congr fun j t=>QK.succ e2 hfu
   ·rw [qmd hne,g2]
   ·by_cases e:j=v
    ·subst e
     rw [qma]
     have:=qnA (es:=es) (v:=j) (l:=g u) (acc:=g j)
     have:=g3 j
     rw [g2] at *
     omega
    ·rw [qmd e];have:=g3 j;omega
   ·simp only [qbp,qe hk,cond_true,e1,je,qfD hu,wS k]
    refine Ev.bind (qud hes hel hv hne (g1.srt v) (fun t ht=>?_) (fun t ht=>?_) ?_) hX
    ·rw [g2] at ht;exact qlf ((hfu t).1 ht)
    ·exact qlf (((g1.mem v t).1 ht).sub hu)
    ·have:=g3 v;rw [g2];omega)
  0 (jG _) (vecT f (npl b)) ⟨f,rfl,hf.congr fun j t=>QK.zero,rfl,fun j=>by have:=hc j;omega⟩
 exact ⟨g,g1.congr fun j t=>QK.full hu,fun j=>by have:=g3 j;omega,he⟩
theorem qvQ {b:qg} {V:Tview} {es:List qa} (h:blockB b=true) (hV:V.Bj=b) (hP:V.places=places b.Ab) (hes:okL qQ es) (hel:es.length≤6) {out:List Nat} (ht:Topo (succL b) (npl b) out) (hfull:∀ j,j<npl b→j ∈ out) :
  EvQ (fun n=>qaJ (some V) V es (ints out) n (vecT (fun _=>[]) (npl b)) 0) fun r=>(∃ g i,r=.nxt (vecT g (npl b),i)∧TgE b es (some g))∨(r=.ret ([],3)∧TgE b es none):=by
 have hl:npl b≤78:=qZ (qw (qP h))
 have hlen:=ht.len
 refine loopR (Lf:=qaJ (some V) V es (ints out)) (len:=out.length)
  (fun i t=>∃ f,t=vecT f (npl b)∧TagL f (TgR b es (out.take i) (out.take i))∧(∀ j,(f j).length≤i*6001)∧∀ j,j ∈ out.take i→∃ xs,Srt xs∧xs.length≤64∧∀ t,t ∈ xs↔TgA b es j t) _
  (fun t ⟨f,e,f1,f2,f3⟩=>?_) (fun i t hi ⟨f,e,f1,f2,f3⟩=>?_) 0 (jG _) _ ⟨fun _=>[],rfl,⟨fun _=>qtR,fun j t=>?_⟩,fun _=>jG _,fun j hj=>by simp at hj⟩
 ·subst e
  simp only [qaJ,qei,qh (jf _),cond_false]
  refine EvQ.done (.inl ⟨f,_,rfl,fun j hj=>?_⟩)
  rw [jC] at f1 f3
  have hm:∀ t,t ∈ f j↔TgA b es j t:=fun t=>(f1.mem j t).trans ⟨TagR.sub,TagR.all (hfull j hj) (fun u hu _=>hfull u hu)⟩
  obtain ⟨xs,x1,x2,x3⟩:=f3 j (hfull j hj)
  exact ⟨f1.srt j,by rw [qpm (f1.srt j) x1 fun t=>(hm t).trans (x3 t).symm];exact x2,hm⟩
 ·subst e
  obtain ⟨h1,h2,h3,h4,h5⟩:=qqK ht hi
  have hiB:i<78:=by omega
  have hst:=qtb (V:=V) h hV h1
  have htag:Ev (fun n=>qio n es [(out[i]:Int)]) (bgT es out[i]):=qvs hes (by simp) (by simp)
  generalize hu:out[i]=u at h1 h2 h3 h4 hst htag
  obtain ⟨f',hf',e1,e2,e3⟩:∃ f',TagL f' (TgR b es (out.take i++[u]) (out.take i))∧(∀ j,(f' j).length≤i*6001+1)∧(∀ j,j ≠ u→f' j=f j) ∧
    ∀ n,n+1=n+1→Ev (fun n=>bif stT b u then (qio n es [(u:Int)]).bind fun t=>(idx (vecT f (npl b)) (u:Int)).bind fun y=>(qhr n y t).bind fun y2=>some (setS (vecT f (npl b)) (u:Int) y2) else some (vecT f (npl b))) (vecT f' (npl b)):=by
   have hsplit:∀ j t,TgR b es (out.take i++[u]) (out.take i) j t↔TgR b es (out.take i) (out.take i) j t∨(j=u∧stT b u=true∧t=bgT es u):=fun j t=>by
    constructor
    ·rintro (⟨q1,q2,q3⟩|q)
     ·rcases List.mem_append.1 q1 with q1|q1
      ·exact .inl (.inl ⟨q1,q2,q3⟩)
      ·obtain rfl:=List.mem_singleton.1 q1
       exact .inr ⟨rfl,q2,q3⟩
     ·exact .inl (.inr q)
    ·rintro ((⟨q1,q2,q3⟩|q)|⟨rfl,q2,q3⟩)
     ·exact .inl ⟨jR _ q1,q2,q3⟩
     ·exact .inr q
     ·exact .inl ⟨List.mem_append_right _ (List.mem_singleton.2 rfl),q2,q3⟩
   cases hb:stT b u with
   | false =>
    refine ⟨f,f1.congr fun j t=>?_,fun j=>by have:=f2 j;omega,fun _ _=>rfl,fun _ _=>Ev.ff rfl .done⟩
    rw [hsplit,hb]
    exact ⟨.inl,fun q=>q.elim id fun q=>by cases q.2.1⟩
   | true =>
    refine ⟨putF f u (bgT es u),(f1.put u _).congr fun j t=>?_,fun j=>?_,fun j hj=>if_neg hj,fun _ _=>Ev.tt rfl (Ev.bind htag (Ev.bindN (qfD h1) (Ev.bind (qqp (f1.srt u) ?_ fun x hx=>?_) (Ev.now ?_))))⟩
    ·rw [hsplit,hb]
     exact ⟨fun q=>q.imp id fun q=>⟨q.1,rfl,q.2⟩,fun q=>q.imp id fun q=>⟨q.1,q.2.2⟩⟩
    ·unfold putF
     have:=f2 j
     split
     ·rename_i e
      subst e
      have:=qrK (xs:=f j) (t:=bgT es j)
      omega
     ·omega
    ·have:=f2 u;omega
    ·have:=qlf ((f1.mem u x).1 hx).sub;omega
    ·rw [qpu]
     rfl
  have hmem:∀ t,t ∈ f' u↔TgA b es u t:=fun t=>(hf'.mem u t).trans ⟨TagR.sub,TagR.all (List.mem_append_right _ (List.mem_singleton.2 rfl)) h3⟩
  have hcode:∀ {X},Ev (fun n=>(idx (vecT f' (npl b)) (u:Int)).bind fun y=>bif decide ((y.length:Int) > 64) then some (.ret ([],3)) else (qbH n (some V) (u:Int)).bind fun succ=>(qbp es (u:Int) succ n (vecT f' (npl b)) 0).bind fun o=>match o with|(X2,_)=>qaJ (some V) V es (ints out) n X2 ((i+1:Nat):Int)) X→Ev (fun n=>qaJ (some V) V es (ints out) (n+1) (vecT f (npl b)) (i:Int)) X:=fun {X} hX=>by
   have hpl:idx V.places ((u:Nat):Int)=some (gt (places b.Ab) u):=by rw [hP];exact qS h1
   simp only [qaJ,qei,qe hi,cond_true,qo4 hi,hu,je,hpl,wS i]
   exact Ev.bind hst (Ev.bind (e3 0 rfl) hX)
  by_cases h64:(f' u).length≤64
  ·right
   obtain ⟨g,g1,g2,g3⟩:=qwr h hes hel h1 h4 hf' hmem h64 e1 (by omega)
   refine ⟨vecT g (npl b),⟨g,rfl,?_,fun j=>by have:=g2 j;omega,fun j hj=>?_⟩,fun X hX=>?_⟩
   ·rw [js hi,hu];exact g1
   ·rw [js hi,hu] at hj
    rcases List.mem_append.1 hj with hj|hj
    ·exact f3 j hj
    ·obtain rfl:=List.mem_singleton.1 hj
     exact ⟨f' j,hf'.srt j,h64,hmem⟩
   ·refine hcode (Ev.bindN (qfD h1) (Ev.ff (decide_eq_false (by omega)) (Ev.bind (qkt h hV hP h1) (Ev.bind g3 hX))))
  ·left
   refine EvQ.of (Ev.succ (hcode (Ev.bindN (qfD h1) (Ev.tt (decide_eq_true (by omega)) .done)))) (.inr ⟨rfl,u,h1,f' u,hf'.srt u,by omega,fun t ht=>(hmem t).1 ht⟩)
 ·simp only [List.take_zero,Jg,false_iff]
  rintro (⟨q,_⟩|⟨u,q,_⟩)<;>simp at q
end Go.Fw


namespace Go.Fw
open Go Go.Proofs
open Go.RowKit (Below)
set_option maxRecDepth 100000
set_option maxHeartbeats 6400000
variable {n:Nat} {w:World} {cs1 cs2 cs3 cs4 cs5 cs6 cs7 cs8 cs9:List Value}
def qiN (n:Nat) (b:qg) (list:(List qa)) (place:Int):Option ((List (List Int)) × Int) :=
 (qjm n b list place).bind fun o=>match o with
  | (r2,r3) =>
   bif (r3 != 0) then some ([],r3) else
   (qft n r2 list).bind fun o=>match o with
    | (r5,r6) =>
     bif (r6 != 0) then some ([],r6) else
     (idx r5 place).bind fun y1 =>
     some (y1,0)
theorem qo9 {b:qg} {list:(List qa)} {place:Int} (ha1:GoT.R w (old w) b cs1) (ha2:GoT.R w (old w) list cs2) {r:((List (List Int)) × Int)} (hF:qiN n b list place=some r):RetV Tryz.prog 13 [GoT.v qg cs1,GoT.v (List qa) cs2,.int .i64 place] w r:=by
 obtain ⟨p1,k1,p2,k2,p3,k3,p4,k4,p5,k5,rfl,s1,s2,s3,s4,s5⟩:=qK ha1
 obtain ⟨p6,k6,rfl,s6⟩:=ha2
 refine zV 34 Tryz.func13 rfl fun h=>zSR (qu h rfl rfl fun w1 bb1 h=>X1 8 0 h rfl ?_)
 have hg1:Rg (old w) w (old w) w:=.start (fun _ h=>h)
 obtain ⟨r1,hr1,hF⟩:=qd hF
 obtain ⟨r2,r3⟩:=r1
 refine qra (r2,r3) hg1 h (cB 38 rfl) (qoC (hg1.regOld h) (hg1.inR h ha1) ⟨_,_,rfl,(hg1.inS h s6)⟩ hr1) rfl rfl rfl rfl fun w2 us1 B1 hg2 hu1 hz1 hv1=>?_
 have hL1:=h.ext hu1.below
 have s7:=Up.S hg1 h hu1 s6
 have hb1:=h.below.trans (hu1.below.mono h.below.size)
 replace h:=hz1
 obtain ⟨cs3,us2,rfl,hr2,hv2⟩:=qtB hv1
 obtain ⟨p7,rfl,s8⟩:=qfs hr2
 obtain ⟨cs4,rfl,hr3⟩:=qmQ hv2
 obtain rfl:=hr3
 refine X0 12 rfl (qi rfl hF ?_ ?_)<;>intro hF
 ·refine X0 6 rfl ?_
  replace h:=h.unbase hg2.below (show NoD [] from trivial)
  obtain rfl:=qb hF
  exact qak qc (ρ:=((List (List Int)) × Int)) [GoT.v (List (List Int)) [.slice none 0 0],GoT.v Int [.int .i64 r3]] h ⟨rfl,rfl,trivial⟩ (PV.done h (qbn h qhH (qat (qy (S:=fun _=>False) rfl)) (by rfl)))
 refine X0 5 rfl ?_
 obtain ⟨r4,hr4,hF⟩:=qd hF
 obtain ⟨r5,r6⟩:=r4
 refine qdj (r5,r6) h (cB 43 rfl) (qmA (h.old (GoT.mono s8 hg2.old)) ⟨_,_,rfl,(h.oldS (s7.mono hg2.old))⟩ hr4) rfl rfl rfl rfl fun w3 S1 us3 hv3 hr5=>?_
 obtain ⟨S2,S3,p8,k7,us4,rfl,hv4,hr6⟩:=hv3.consL hr5
 obtain ⟨rfl,h⟩:=hv4.lastI hr6
 refine X0 12 rfl (qi rfl hF ?_ ?_)<;>intro hF
 ·refine X0 6 rfl ?_
  replace h:=h.unbase hg2.below ⟨fun _ h=>h,trivial⟩
  obtain rfl:=qb hF
  exact qak qc (ρ:=((List (List Int)) × Int)) [GoT.v (List (List Int)) [.slice none 0 0],GoT.v Int [.int .i64 r6]] h ⟨rfl,rfl,trivial⟩ (PV.done h (qbn h qhH (qat (qy (S:=fun _=>False) rfl)) (by rfl)))
 refine X0 5 rfl ?_
 obtain ⟨y1,hy1,hF⟩:=qd hF
 have he1:=qax hy1
 obtain ⟨S5,S6,cs5,h⟩:=h.take hy1
 obtain ⟨p9,k8,rfl,-⟩:=h.own 0 rfl
 obtain ⟨b1,hp1,-,-,hl2⟩:=h.holeAt 1 rfl
 obtain ⟨q1,hq1⟩:∃ q,q=0+(place).toNat*GoT.k (List (List Int)):=⟨_,rfl⟩
 refine zx hp1 hq1 ⟨he1.1,qx he1.2.1 hl2⟩ rfl (zc 0 (qa5 h 1 rfl hp1 hq1) rfl (X0 3 rfl ?_))
 replace h:=h.pick [0] rfl
 replace h:=h.unbase hg2.below ⟨fun _ h=>h,trivial⟩
 obtain rfl:=qb hF
 exact qak qc (ρ:=((List (List Int)) × Int)) [GoT.v (List (List Int)) [.slice p9 y1.length k8],GoT.v Int [.int .i64 0]] h ⟨rfl,rfl,trivial⟩ (PV.done h (qbn h (qay 0 h rfl) (qat (qy (S:=fun _=>False) rfl)) (by rfl)))
def qiT (n:Nat) (b:qg) (list:(List qa)) (place:Int):Option ((List (List Int)) × Int) :=
 (qjj n b list place).bind fun r1 =>
 bif (r1 != 0) then some ([],r1) else
 (qiy n b).bind fun o=>match o with
  | (r3,r4) =>
   bif (!r4) then some ([],7) else
   (qgB n b list r3).bind fun o=>match o with
    | (r6,r7) =>
     bif (!r7) then some ([],3) else
     (idx r6 place).bind fun y1 =>
     some (y1,0)
theorem qpD {b:qg} {list:(List qa)} {place:Int} (ha1:GoT.R w (old w) b cs1) (ha2:GoT.R w (old w) list cs2) {r:((List (List Int)) × Int)} (hF:qiT n b list place=some r):RetV Tryz.prog 14 [GoT.v qg cs1,GoT.v (List qa) cs2,.int .i64 place] w r:=by
 obtain ⟨p1,k1,p2,k2,p3,k3,p4,k4,p5,k5,rfl,s1,s2,s3,s4,s5⟩:=qK ha1
 obtain ⟨p6,k6,rfl,s6⟩:=ha2
 refine zV 40 Tryz.func14 rfl fun h=>zSR (qu h rfl rfl fun w1 bb1 h=>X1 8 0 h rfl (zcI h hF (qoL (h.old ha1) ⟨_,_,rfl,(h.oldS s6)⟩) rfl fun r1 w2 h hF=>X0 8 rfl (qi rfl hF ?_ ?_)))<;>intro hF
 ·refine X0 6 rfl ?_
  obtain rfl:=qb hF
  exact qak qc (ρ:=((List (List Int)) × Int)) [GoT.v (List (List Int)) [.slice none 0 0],GoT.v Int [.int .i64 r1]] h ⟨rfl,rfl,trivial⟩ (PV.done h (qbn h qhH (qat (qy (S:=fun _=>False) rfl)) (by rfl)))
 refine X1 4 0 h rfl ?_
 obtain ⟨r2,hr2,hF⟩:=qd hF
 obtain ⟨r3,r4⟩:=r2
 refine qdj (r3,r4) h (cB 45 rfl) (qoe (h.old ha1) hr2) rfl rfl rfl rfl fun w3 S1 us1 hv1 hr3=>?_
 obtain ⟨S2,S3,p7,k7,us2,rfl,hv2,hr4⟩:=hv1.consL hr3
 obtain ⟨rfl,h⟩:=hv2.lastB hr4
 refine X0 12 rfl (qi rfl hF ?_ ?_)<;>intro hF
 ·refine X0 5 rfl ?_
  obtain rfl:=qb hF
  exact qak qc (ρ:=((List (List Int)) × Int)) [GoT.v (List (List Int)) [.slice none 0 0],GoT.v Int [.int .i64 7]] h ⟨rfl,rfl,trivial⟩ (PV.done h (qbn h qhH (qat (qy (S:=fun _=>False) rfl)) (by rfl)))
 refine X1 6 1 h rfl ?_
 obtain ⟨r5,hr6,hF⟩:=qd hF
 obtain ⟨r6,r7⟩:=r5
 refine qdj (r6,r7) h (cB 46 rfl) (qoH (h.old ha1) ⟨_,_,rfl,(h.oldS s6)⟩ (h.own 0 rfl) hr6) rfl rfl rfl rfl fun w4 S5 us3 hv4 hr7=>?_
 obtain ⟨S6,S7,p8,k8,us4,rfl,hv5,hr8⟩:=hv4.consL hr7
 obtain ⟨rfl,h⟩:=hv5.lastB hr8
 refine X0 12 rfl (qi rfl hF ?_ ?_)<;>intro hF
 ·refine X0 5 rfl ?_
  obtain rfl:=qb hF
  exact qak qc (ρ:=((List (List Int)) × Int)) [GoT.v (List (List Int)) [.slice none 0 0],GoT.v Int [.int .i64 3]] h ⟨rfl,rfl,trivial⟩ (PV.done h (qbn h qhH (qat (qy (S:=fun _=>False) rfl)) (by rfl)))
 refine X0 5 rfl ?_
 obtain ⟨y1,hy1,hF⟩:=qd hF
 have he1:=qax hy1
 obtain ⟨S9,S10,cs3,h⟩:=h.take hy1
 obtain ⟨p9,k9,rfl,-⟩:=h.own 0 rfl
 obtain ⟨b1,hp1,-,-,hl2⟩:=h.holeAt 1 rfl
 obtain ⟨q1,hq1⟩:∃ q,q=0+(place).toNat*GoT.k (List (List Int)):=⟨_,rfl⟩
 refine zx hp1 hq1 ⟨he1.1,qx he1.2.1 hl2⟩ rfl (zc 0 (qa5 h 1 rfl hp1 hq1) rfl (X0 3 rfl ?_))
 replace h:=h.pick [0,2,3] rfl
 obtain rfl:=qb hF
 exact qak qc (ρ:=((List (List Int)) × Int)) [GoT.v (List (List Int)) [.slice p9 y1.length k9],GoT.v Int [.int .i64 0]] h ⟨rfl,rfl,trivial⟩ (PV.done h (qbn h (qay 0 h rfl) (qat (qy (S:=fun _=>False) rfl)) (by rfl)))
end Go.Fw


namespace Go.Fw
open Go
set_option maxRecDepth 100000
def f0T (b:qg) (es:List qa) (S:List Nat) (j:Nat):List (List Int):=if j ∈ S∧stT b j=true then [bgT es j] else []
theorem qxx {b:qg} {es:List qa} {S:List Nat}:TagL (f0T b es S) (TgR b es S []) where
 srt j:=by unfold f0T;split;exact qtV;exact qtR
 mem j t:=by
  unfold f0T
  split
  ·rename_i hh
   rw [List.mem_singleton]
   constructor
   ·intro e;exact .inl ⟨hh.1,hh.2,e⟩
   ·rintro (⟨_,_,e⟩|⟨u,q,_⟩)
    ·exact e
    ·cases q
  ·rename_i hh
   constructor
   ·intro e;cases e
   ·rintro (⟨q1,q2,_⟩|⟨u,q,_⟩)
    ·exact absurd ⟨q1,q2⟩ hh
    ·cases q
theorem qsZ {b:qg} {es:List qa} (h:blockB b=true) (hes:okL qQ es):Ev (fun n=>qdz es (ints (startN b (npl b))) n (vecT (fun _=>[]) (npl b)) 0) (vecT (f0T b es (List.range (npl b))) (npl b),((startN b (npl b)).length:Int)):=by
 have hl:npl b≤78:=qZ (qw (qP h))
 have hs:(startN b (npl b)).length≤npl b:=qpw
 have hm:∀ k,k ∈ startN b (npl b)↔k<npl b∧stT b k=true:=fun k=>by unfold startN;rw [qrY];rfl
 have:=loopF (Lf:=qdz es (ints (startN b (npl b)))) (S:=fun t=>vecT (fun j=>if j ∈ (startN b (npl b)).take t then [bgT es j] else []) (npl b)) (len:=(startN b (npl b)).length) (fin:=(vecT (f0T b es (List.range (npl b))) (npl b),((startN b (npl b)).length:Int))) (fun n=>?_) (fun t ht X hX=>?_)
 ·simpa using this
 ·simp only [qdz,qei,qh (jf _),cond_false,jC]
  congr 2
  refine qld (fun j hj=>?_)
  unfold f0T
  by_cases hq:stT b j=true
  ·rw [if_pos ((hm j).2 ⟨hj,hq⟩),if_pos ⟨List.mem_range.2 hj,hq⟩]
  ·rw [if_neg (fun x=>hq ((hm j).1 x).2),if_neg (fun x=>hq x.2)]
 ·have hk:(startN b (npl b))[t]<npl b:=((hm _).1 (jp ht)).1
  simp only [qdz,qei,qe ht,cond_true,qo4 ht,je,qfD hk,wS t]
  refine Ev.bind (quk hes) ?_
  rw [qpu]
  have e:vecT (fun i=>if i=(startN b (npl b))[t] then [startTs es ((startN b (npl b))[t]:Int)] else if i ∈ (startN b (npl b)).take t then [bgT es i] else []) (npl b)=vecT (fun j=>if j ∈ (startN b (npl b)).take (t+1) then [bgT es j] else []) (npl b):=by
   refine qld (fun j _=>?_)
   rw [js ht]
   by_cases h1:j=(startN b (npl b))[t]
   ·rw [if_pos h1,if_pos (List.mem_append_right _ (List.mem_singleton.2 h1)),h1]
    rfl
   ·rw [if_neg h1]
    by_cases h2:j ∈ (startN b (npl b)).take t
    ·rw [if_pos h2,if_pos (jR _ h2)]
    ·rw [if_neg h2,if_neg (fun hh=>(List.mem_append.1 hh).elim h2 (fun h3=>h1 (List.mem_singleton.1 h3)))]
  rw [e]
  exact hX
theorem qwQ {b:qg} {es:List qa} {f:Nat→List (List Int)} {S R:List Nat} {u:Nat} (h:blockB b=true) (hes:okL qQ es) (hel:es.length≤6) (hu:u<npl b) (hn:(succL b u).count (u:Int)=0)
  (hf:TagL f (TgR b es S R)) (hfu:∀ t,t ∈ f u↔TgA b es u t) (h64:∀ j,(f j).length≤64) :
  EvQ (fun n=>qca es (u:Int) (succL b u) n (vecT f (npl b)) 0) fun r=>(∃ g i,r=.nxt (vecT g (npl b),i)∧TagL g (TgR b es S (R++[u]))∧∀ j,(g j).length≤64)∨(r=.ret ([],false)∧TgE b es none):=by
 have hS:=qhp h (j:=u)
 have hun:(u:Int) ∉ succL b u:=List.count_eq_zero.1 hn
 refine loopR (Lf:=qca es (u:Int) (succL b u)) (len:=(succL b u).length)
  (fun k t=>∃ g,t=vecT g (npl b)∧TagL g (QK b es S R u k)∧g u=f u∧∀ j,(g j).length≤64) _
  (fun t ⟨g,e,g1,g2,g3⟩=>?_) (fun k t hk ⟨g,e,g1,g2,g3⟩=>?_) 0 (jG _) _ ⟨f,rfl,hf.congr fun j t=>QK.zero,rfl,h64⟩
 ·subst e
  simp only [qca,qh (jf _),cond_false]
  exact EvQ.done (.inl ⟨g,_,rfl,g1.congr fun j t=>QK.full hu,g3⟩)
 ·subst e
  obtain ⟨v,hv,e1,e2⟩:=(qht h hu).at hk
  have hne:u ≠ v:=fun e=>hun (by have:=jA e2;rwa [←e] at this)
  have hq:=qt0 (es:=es) g1 v (g u)
  rw [g2] at hq
  have hq2:TagL (inF es g v (f u)) (QK b es S R u (k+1)):=hq.congr fun j t=>QK.succ e2 hfu
  have hin:Ev (fun n=>qb7 es (u:Int) (v:Int) n (vecT g (npl b)) 0) (vecT (inF es g v (g u)) (npl b),((g u).length:Int)) :=
   qsJ hes hel hu hv hne (g1.srt v) (fun t ht=>by rw [g2] at ht;exact qlf ((hfu t).1 ht)) (fun t ht=>qlf (((g1.mem v t).1 ht).sub hu)) (by have:=g3 v;have:=g3 u;omega)
  rw [g2] at hin
  have hcode:∀ {X},Ev (fun n=>(idx (vecT (inF es g v (f u)) (npl b)) (v:Int)).bind fun z=>bif decide ((z.length:Int) > 64) then some (.ret ([],false)) else qca es (u:Int) (succL b u) n (vecT (inF es g v (f u)) (npl b)) ((k+1:Nat):Int)) X→Ev (fun n=>qca es (u:Int) (succL b u) (n+1) (vecT g (npl b)) (k:Int)) X:=fun {X} hX=>by
   simp only [qca,qe hk,cond_true,e1,je,wS k]
   exact Ev.bind hin hX
  by_cases hlen:(inF es g v (f u) v).length≤64
  ·right
   refine ⟨vecT (inF es g v (f u)) (npl b),⟨_,rfl,hq2,by rw [qmd hne,g2],fun j=>?_⟩,fun X hX=>hcode (Ev.bindN (qfD hv) (Ev.ff (decide_eq_false (by omega)) hX))⟩
   by_cases e:j=v
   ·subst e;exact hlen
   ·rw [qmd e];exact g3 j
  ·left
   exact EvQ.of (Ev.succ (hcode (Ev.bindN (qfD hv) (Ev.tt (decide_eq_true (by omega)) .done)))) (.inr ⟨rfl,v,hv,_,hq2.srt v,by omega,fun t ht=>((hq2.mem v t).1 ht).sub hu⟩)
theorem quf {b:qg} {es:List qa} (hok:qb6 b) (h:blockB b=true) (hes:okL qQ es) (hel:es.length≤6) {out:List Nat} (ht:Topo (succL b) (npl b) out) (hfull:∀ j,j<npl b→j ∈ out) :
  EvQ (fun n=>qb8 b es (ints out) n (vecT (f0T b es (List.range (npl b))) (npl b)) 0) fun r=>(∃ g i,r=.nxt (vecT g (npl b),i)∧TgE b es (some g))∨(r=.ret ([],false)∧TgE b es none):=by
 have hl:npl b≤78:=qZ (qw (qP h))
 have hlen:=ht.len
 refine loopR (Lf:=qb8 b es (ints out)) (len:=out.length)
  (fun i t=>∃ f,t=vecT f (npl b)∧TagL f (TgR b es (List.range (npl b)) (out.take i))∧∀ j,(f j).length≤64) _
  (fun t ⟨f,e,f1,f2⟩=>?_) (fun i t hi ⟨f,e,f1,f2⟩=>?_) 0 (jG _) _ ⟨_,rfl,by rw [List.take_zero];exact qxx,fun j=>by unfold f0T;split<;>simp⟩
 ·subst e
  simp only [qb8,qei,qh (jf _),cond_false]
  refine EvQ.done (.inl ⟨f,_,rfl,fun j hj=>⟨f1.srt j,f2 j,fun t=>(f1.mem j t).trans ⟨TagR.sub,TagR.all (List.mem_range.2 hj) fun u hu _=>?_⟩⟩⟩)
  rw [jC];exact hfull u hu
 ·subst e
  obtain ⟨h1,h2,h3,h4,h5⟩:=qqK ht hi
  have hmem:∀ t,t ∈ f out[i]↔TgA b es out[i] t:=fun t=>(f1.mem _ t).trans ⟨TagR.sub,TagR.all (List.mem_range.2 h1) h3⟩
  obtain ⟨r,he,hr⟩:=qwQ h hes hel h1 h4 f1 hmem f2
  have hcode:∀ {X},Ev (fun n=>match r with|.ret r=>some (.ret r)|.nxt (X2,_)=>qb8 b es (ints out) n X2 ((i+1:Nat):Int)) X→Ev (fun n=>qb8 b es (ints out) (n+1) (vecT f (npl b)) (i:Int)) X:=fun {X} hX=>by
   simp only [qb8,qei,qe hi,cond_true,qo4 hi,je,wS i]
   exact Ev.bind (qlK hok h h1) (Ev.bind he hX)
  rcases hr with ⟨g,k,rfl,g1,g2⟩|⟨rfl,g1⟩
  ·right
   exact ⟨vecT g (npl b),⟨g,rfl,by rw [js hi];exact g1,g2⟩,fun X hX=>hcode hX⟩
  ·left
   exact EvQ.of (Ev.succ (hcode .done)) (.inr ⟨rfl,g1⟩)
end Go.Fw


namespace Go.Fw
open Go
set_option maxRecDepth 100000
theorem qv9 {b:qg} {es:List qa} (hok:qb6 b) (h:blockB b=true) (hes:okL qQ es) (hel:es.length≤6) {out:List Nat} (ht:Topo (succL b) (npl b) out) (hfull:∀ j,j<npl b→j ∈ out) :
  EvQ (fun n=>qgB n b es (ints out)) fun r=>(∃ g,r=(vecT g (npl b),true)∧TgE b es (some g))∨(r=([],false)∧TgE b es none):=by
 have hl:npl b≤78:=qZ (qw (qP h))
 obtain ⟨r,he,hr⟩:=quf hok h hes hel ht hfull
 have hcode:∀ {X},Ev (fun n=>match r with|.ret r=>some r|.nxt (X2,_)=>some (X2,true)) X→Ev (fun n=>qgB n b es (ints out)) X:=fun {X} hX=>by
  unfold qgB
  exact Ev.bind (qjn h) (Ev.bindN (qqD (show npl b≤2147483648 by omega)) (Ev.bind (qte hok h) (Ev.bind (qsZ h hes) (Ev.bind he hX))))
 rcases hr with ⟨g,i,rfl,hg⟩|⟨rfl,hg⟩
 ·exact EvQ.of (hcode .done) (.inl ⟨g,rfl,hg⟩)
 ·exact EvQ.of (hcode .done) (.inr ⟨rfl,hg⟩)
theorem qsk {b:qg} {V:Tview} {es:List qa} (h:blockB b=true) (hV:V.Bj=b) (hP:V.places=places b.Ab) (hes:okL qQ es) (hel:es.length≤6) :
  EvQ (fun n=>qft n (some V) es) fun r=>∃ R,Topo (succL b) (npl b) R∧((R.length=npl b∧((∃ g,r=(vecT g (npl b),0)∧TgE b es (some g))∨(r=([],3)∧TgE b es none)))∨(r=([],7)∧R.length<npl b∧Stuck (succL b) (npl b) R)):=by
 have hl:npl b≤78:=qZ (qw (qP h))
 obtain ⟨r,h4,R,h5,h6⟩:=quA (V:=V) h hV hP
 unfold qft
 rcases h6 with ⟨rfl,h7⟩|⟨rfl,h7,h8⟩
 ·obtain ⟨r,he,hr⟩:=qvQ h hV hP hes hel h5 (h5.full h7)
  have hn:V.places.length=npl b:=by rw [hP]
  have hcode:∀ {X},Ev (fun n=>match r with|.ret r=>some r|.nxt (X2,_)=>some (X2,0)) X→Ev (fun n=>(qdK n (some V)).bind fun o=>match o with
   | (order,ok) =>
    bif (!ok) then some ([],7) else
    (some V).bind fun V' =>
    (mkS (V'.places.length:Int) ([]:List (List Int))).bind fun X =>
    (qaJ (some V) V' es order n X 0).bind fun o=>match o with
    | .ret r=>some r
    | .nxt (X2,_)=>some (X2,0)) X:=fun {X} hX=>by
   refine Ev.bind h4 (Ev.ff rfl (Ev.bindN rfl ?_))
   rw [hn]
   exact Ev.bindN (qqD (by omega)) (Ev.bind he hX)
  rcases hr with ⟨g,i,rfl,hg⟩|⟨rfl,hg⟩
  ·exact EvQ.of (hcode .done) ⟨R,h5,.inl ⟨h7,.inl ⟨g,rfl,hg⟩⟩⟩
  ·exact EvQ.of (hcode .done) ⟨R,h5,.inl ⟨h7,.inr ⟨rfl,hg⟩⟩⟩
 ·exact EvQ.of (Ev.bind h4 (Ev.tt rfl .done)) ⟨R,h5,.inr ⟨rfl,h7,h8⟩⟩
theorem qs0 {b:qg} {es:List qa} {p:Int} (hok:qb6 b) (hes:okL qQ es) :
  ∃ R:List (List Int) × Int,Ev (fun n=>qiT n b es p) R∧Ev (fun n=>qiN n b es p) R∧((codeP b es p=0∧R.2=0∧R.1.length≤64∧∀ t,t ∈ R.1↔TgA b es p.toNat t)∨(R.1=[]∧R.2 ≠ 0)):=by
 obtain ⟨o,hv,hv0⟩:=qvO (p:=p) hok hes
 have hs:=qsO (p:=p) hok hes
 unfold qiT qiN
 by_cases h0:codeP b es p=0
 ·obtain ⟨ls,lo,de,rfl⟩:=hv0 h0
  obtain ⟨h,hel,_⟩:=qij (qjK h0)
  have hl:npl b≤78:=qZ (qw (qP h))
  obtain ⟨k,hk,rfl⟩:∃ k:Nat,k<npl b∧p=(k:Int):=by
   have hx:=qjK h0
   have hp:inPl b p=true:=by
    cases hp:inPl b p with
    | true=>rfl
    | false=>unfold codeP at h0;rw [hx,hp] at h0;cases h0
   unfold inPl at hp
   rw [qcU] at hp
   have:((places b.Ab).length:Int)=(npl b:Int):=rfl
   exact ⟨p.toNat,by omega,by omega⟩
  rw [h0] at hv hs
  obtain ⟨out,h1,h2,h3⟩:=quN hok h
  obtain ⟨r,hi,R,h5,h6⟩:=qsk (V:=⟨b,places b.Ab,ls,lo,de,[]⟩) h rfl rfl hes hel
  obtain ⟨k1,k2⟩:=quE h5 h1 h2
  rcases h6 with ⟨h7,h8⟩|⟨rfl,h7,h8⟩
  ·have hout:=k1 h7
   obtain ⟨q,hq,hq2⟩:=qv9 hok h hes hel h1 (h1.full hout)
   have hd:(!decide (out.length=npl b))=false:=by simp [hout]
   rcases h8 with ⟨g,rfl,hg⟩|⟨rfl,hg⟩<;>rcases hq2 with ⟨f,rfl,hf⟩|⟨rfl,hf⟩
   ·obtain ⟨q1,_⟩|⟨f',g',e1,e2,e3⟩:=qog hf hg
    ·cases q1
    ·cases e1;cases e2
     obtain ⟨_,s2,s3⟩:=hf k hk
     refine ⟨(f k,0),Ev.bind hs (Ev.ff rfl (Ev.bind h3 (Ev.ff hd (Ev.bind hq (Ev.ff rfl (Ev.bindN (qfD hk) .done)))))),Ev.bind hv (Ev.ff rfl (Ev.bind hi (Ev.ff rfl (Ev.bindN (qfD hk) (Ev.now (by rw [e3 k hk])))))),.inl ⟨h0,rfl,s2,s3⟩⟩
   ·obtain ⟨q1,q2⟩|⟨f',g',e1,e2,e3⟩:=qog hf hg
    ·cases q2
    ·cases e1
   ·obtain ⟨q1,q2⟩|⟨f',g',e1,e2,e3⟩:=qog hf hg
    ·cases q1
    ·cases e2
   ·exact ⟨([],3),Ev.bind hs (Ev.ff rfl (Ev.bind h3 (Ev.ff hd (Ev.bind hq (Ev.tt rfl .done))))),Ev.bind hv (Ev.ff rfl (Ev.bind hi (Ev.tt rfl .done))),(.inr ⟨rfl,by simp⟩)⟩
  ·have hout:=k2 h7 h8
   exact ⟨([],7),Ev.bind hs (Ev.ff rfl (Ev.bind h3 (Ev.tt (by rw [decide_eq_false (by omega)];rfl) .done))),Ev.bind hv (Ev.ff rfl (Ev.bind hi (Ev.tt rfl .done))),(.inr ⟨rfl,by simp⟩)⟩
 ·have hc:(codeP b es p != 0)=true:=by simpa using h0
  exact ⟨([],codeP b es p),Ev.bind hs (Ev.tt hc .done),Ev.bind hv (Ev.tt hc .done),(.inr ⟨rfl,h0⟩)⟩
end Go.Fw


namespace Go.Fw
open Go
open Go.RowKit (Below)
section
variable {w0 w:World} {L:List Ch} {α:Type} [GoT α] {S Sr Se D:Nat→Prop} {xs ys:List α} {p p':Option Addr} {c c':Nat} {fs:List Fct}
end
end Go.Fw


namespace Go.Fw
open Go
open Go.RowKit (Below)
section
variable {P:Program} {T:Tab} {n:Nat} {Q:Exit→Act→World→Prop} {k:List It} {e:Env} {w0 w w':World} {L:List Ch}
theorem qxF {all:Array Oper} {o:Oper} {l:List Oper} {v:Value} (hg:o.guard=none) (hd:o.dst=none)
  (h:∀ a,Agree n e a→(execOp a.eval o).run P w=.ok (.value v) w') (hk:Run P n Q (.ops all l::k) e w'):Run P n Q (.ops all (o::l)::k) e w:=by
 intro a ha
 show wpList P all (post P Q k) (o::l) a w
 have hw:Region.wanted o (yielded all a.tmps)=true:=by simp [Region.wanted,hg]
 rw [wpList,if_pos hw]
 refine .inl ?_
 unfold Oper.wp
 rw [h a ha,Oper.upon_value,hd]
 exact hk _ ha
theorem qu5 (hT:TabOk P T) {all:Array Oper} {l:List Oper} {tt ty el b o ld cd tb:Nat} {ps:String} {af:Array Edge} {x:Operand} {te te':TE} {cs:List Value} {zv:Value} (m:Nat)
  (h:SH w0 w L) (hi:L[m]?=some (Ch.box b cs tb)) (hx:opv e x=some (.slice (some ⟨b,o,none⟩) ld cd))
  (hte:T.get tt=some te) (hk:te.kind=.slice el) (hel:T.get el=some te') (hz:te'.zero=some zv) (hzc:zv.cells=#[zv]) (hz1:zv.oneCell'=true) (hpos:0<ld) (hfit:o+ld≤cs.length)
  (hkk:∀ w',SH w0 w' (L.set m (Ch.box b (splice cs o (List.replicate ld zv)) tb))→Run P n Q (.ops all l::k) e w') :
  Run P n Q (.ops all (⟨none,.call ⟨.builtin .clear,#[x],#[tt]⟩,ty,ps,af,none⟩::l)::k) e w:=by
 obtain ⟨inf,hinf,hs1,_,hzi⟩:=qeo (hT _ _ hel)
 have hu:=qbW (hT _ _ hte) hk
 have hg:w.heap[b]?=some (.cells cs.toArray tb (0,0)):=(h.mem hi).1
 have hcell:∀ j,j<ld→(w.cell? ⟨b,o+j,none⟩).isSome=true:=fun j hj=>by
  simp only [World.cell?,hg,Option.isSome_none,Bool.false_eq_true,if_false]
  rw [jF,jg (by omega)]
  rfl
 have hfz:∀ j,j<ld→w.frozen? ⟨b,o+j,none⟩=false:=fun j _=>by
  simp only [World.frozen?,hg]
  simp
 have hzz:∀ w,(zeroValue el).run P w=.ok zv w:=fun w=>by
  simp only [zeroValue,jj,typeInfo,run_program]
  simp [hinf,hzi,hz]
 have hr:=Lib.run_clear_slice (P:=P) w tt el ty zv hu hzz hzc hz1 b o ld cd hpos hcell hfz
 have hln:(List.replicate ld zv).length=ld:=by simp
 obtain ⟨r1,r2,r3,r4⟩:=qky b (List.replicate ld zv) o w
 have hup:=hkk _ (h.upd hi r1 r2 r3 (by rw [r4];exact jf _) (fun a _ ha=>qku (fun hab=>ha hab) _ o w) (qll b tb (0,0) (List.replicate ld zv) o w cs hg (by rw [hln];exact hfit)) (fun a ha=>.inl ha) (fun _ hd=>hd.elim))
 refine qxF (v:=.tuple #[]) (w':=w.setCells b o (List.replicate ld zv)) rfl rfl (fun a ha=>?_) hup
 simp only [execOp,resolve,invoke,builtin,jj,jl,jh,List.map_toArray,jU,List.map_nil,ha.eval hx,hr]
section
variable {α:Type} [GoT α] {S:Nat→Prop}
theorem qwg {w:World}:∀ {ys xs:List (α × Raw α)},ys.Sublist xs→∀ {S:Nat→Prop},(∃ F:Nat→Nat→Prop,(∀ i a,F i a→S a)∧(∀ i j a,i ≠ j→F i a→¬ F j a)∧∀ i z,xs[i]?=some z→GoT.O w (F i) z.1 z.2.cs) →
  ∃ F:Nat→Nat→Prop,(∀ i a,F i a→S a)∧(∀ i j a,i ≠ j→F i a→¬ F j a)∧∀ i z,ys[i]?=some z→GoT.O w (F i) z.1 z.2.cs:=by
 intro ys xs hs
 induction hs with
 | slnil=>exact fun h=>h
 | cons z _ ih =>
  rintro S ⟨F,f1,f2,f3⟩
  exact ih ⟨fun i=>F (i+1),fun i a ha=>f1 _ a ha,fun i j a hne ha hb=>f2 _ _ a (by omega) ha hb,fun i z hz=>f3 (i+1) z (by simpa using hz)⟩
 | cons_cons z _ ih =>
  rintro S ⟨F,f1,f2,f3⟩
  obtain ⟨G,g1,g2,g3⟩:=ih (S:=fun a=>∃ i,F (i+1) a) ⟨fun i=>F (i+1),fun i a ha=>⟨i,ha⟩,fun i j a hne ha hb=>f2 _ _ a (by omega) ha hb,fun i z hz=>f3 (i+1) z (by simpa using hz)⟩
  refine ⟨fun i=>match i with|0=>F 0|i+1=>G i,fun i a ha=>?_,fun i j a hne ha hb=>?_,fun i y hy=>?_⟩
  ·cases i with
   | zero=>exact f1 0 a ha
   | succ i=>obtain ⟨m,hm⟩:=g1 i a ha;exact f1 _ a hm
  ·cases i with
   | zero =>
    cases j with
    | zero=>exact hne rfl
    | succ j=>obtain ⟨m,hm⟩:=g1 j a hb;exact f2 0 (m+1) a (by omega) ha hm
   | succ i =>
    cases j with
    | zero=>obtain ⟨m,hm⟩:=g1 i a ha;exact f2 (m+1) 0 a (by omega) hm hb
    | succ j=>exact g2 i j a (by omega) ha hb
  ·cases i with
   | zero =>
    obtain rfl:z=y:=by simpa using hy
    exact f3 0 z rfl
   | succ i=>exact g3 i y (by simpa using hy)
theorem SH.elsSub {xs:List α} {rs:List (Raw α)} {K:List (α × Raw α)} (hs:K.Sublist (xs.zip rs)) (h:SH w0 w (Ch.els S xs rs::L)):SH w0 w (Ch.els S (K.map (·.1)) (K.map (·.2))::L):=by
 refine h.say (i:=0) (c':=Ch.els S (K.map (·.1)) (K.map (·.2))) rfl (fun hp=>?_) (fun a ha=>ha) (fun _ hd=>hd.elim)
 obtain ⟨hl,F,f1,f2,f3⟩:=hp
 obtain ⟨G,g1,g2,g3⟩:=qwg hs (S:=S) ⟨F,f1,f2,fun i z hz=>by
  rw [List.getElem?_zip_eq_some] at hz
  exact f3 i z.1 z.2 hz.1 hz.2⟩
 refine ⟨by simp,G,g1,g2,fun i x r hx hr=>?_⟩
 rw [List.getElem?_map] at hx hr
 cases hK:K[i]? with
 | none=>rw [hK] at hx;cases hx
 | some z =>
  rw [hK] at hx hr
  obtain rfl:=Option.some.inj hx
  obtain rfl:=Option.some.inj hr
  exact g3 i z hK
end
def kept {α β:Type} (q:α→Bool) (xs:List α) (rs:List β) (j:Nat):List (α × β):=((xs.zip rs).take j).filter fun z=>q z.1
theorem qrE {α β:Type} (q:α→Bool) (xs:List α) (rs:List β) (j:Nat):(kept q xs rs j).Sublist (xs.zip rs):=(List.filter_sublist ..).trans (List.take_sublist ..)
theorem qn0 {α β:Type} {q:α→Bool} {xs:List α} {rs:List β} {j:Nat} {x:α} {r:β} (hx:xs[j]?=some x) (hr:rs[j]?=some r):kept q xs rs (j+1)=kept q xs rs j++bif q x then [(x,r)] else []:=by
 have hz:(xs.zip rs)[j]?=some (x,r):=by rw [List.getElem?_zip_eq_some];exact ⟨hx,hr⟩
 unfold kept
 rw [List.take_add_one,hz,List.filter_append]
 cases hq:q x<;>simp [hq]
theorem qph {α β:Type} {q:α→Bool} {xs:List α} {rs:List β} (hl:xs.length=rs.length):(kept q xs rs xs.length).map (·.1)=xs.filter q:=by
 unfold kept
 rw [List.take_of_length_le (by simp [List.length_zip];omega)]
 have h1:(xs.zip rs).map (·.1)=xs:=List.map_fst_zip (by omega)
 have h2:=List.filter_map (p:=q) (f:=fun z:α × β=>z.1) (l:=xs.zip rs)
 rw [h1] at h2
 exact h2.symm
theorem qvx {α β:Type} (q:α→Bool) (xs:List α) (rs:List β) (j:Nat):(kept q xs rs j).length≤j:=by
 unfold kept
 exact jS (Je ..) (by simp;omega)
theorem qs7 {α β:Type} {q:α→Bool} {xs:List α} {rs:List β} {j:Nat} (hl:xs.length=rs.length) (hj:j≤xs.length) (h:∀ i x,i<j→xs[i]?=some x→q x=true):kept q xs rs j=(xs.zip rs).take j:=by
 unfold kept
 refine List.filter_eq_self.2 fun z hz=>?_
 obtain ⟨i,hi⟩:=List.mem_iff_getElem?.1 hz
 rw [jr] at hi
 split at hi
 ·rw [List.getElem?_zip_eq_some] at hi
  exact h i z.1 (by assumption) hi.1
 ·cases hi
end
end Go.Fw


namespace Go.Fw
open Go Go.Proofs
open Go.RowKit (Below)
set_option maxRecDepth 100000
set_option maxHeartbeats 6400000
def fltP (f:List Int→Option qap) (t:List Int):Bool:=((f t).map (·.Bm)).getD false
def fltF (f:List Int→Option qap):List (List Int)→Option (List (List Int))
 | []=>some []
 | t::r=>(f t).bind fun e=>(fltF f r).bind fun q=>some (bif e.Bm then q else t::q)
theorem qn1 {f:List Int→Option qap}:∀ {xs r:List (List Int)},fltF f xs=some r→(∀ t ∈ xs,∃ e,f t=some e∧e.Bm=fltP f t)∧xs.filter (fun t=>!fltP f t)=r
 | [],r,h=>⟨fun _ ht=>by (cases ht),Option.some.inj h⟩
 | t::xs,r,h=>by
  obtain ⟨e,he,h⟩:=qd h
  obtain ⟨q,hq,h⟩:=qd h
  obtain ⟨h1,h2⟩:=qn1 hq
  have hE:e.Bm=fltP f t:=by unfold fltP;rw [he];rfl
  refine ⟨fun u hu=>?_,?_⟩
  ·rcases List.mem_cons.1 hu with rfl|hu
   ·exact ⟨e,he,hE⟩
   ·exact h1 u hu
  ·rw [hE] at h
   obtain rfl:=Option.some.inj h
   rw [List.filter_cons,h2]
   cases fltP f t<;>rfl
theorem idxN {α:Type} {xs:List α} {i:Nat} (h:i<xs.length):idx xs (i:Int)=some xs[i]:=by
 unfold idx
 rw [if_pos (by omega)]
 exact jg h
theorem w64N (i:Nat) (h:i≤1000000):W64 ((i:Int)+1)=((i+1:Nat):Int):=by
 rw [qau (by omega) (by omega)];omega
theorem qm4 {n:Nat} {w:World} {list:List qa} {t:List Int} {place:Int} {bl bp:Nat} {cs1 cs2:List Value} (ha1:GoT.R w (old w) list cs1) (ha2:GoT.R w (old w) t cs2)
  (hl:CellsAt w bl 0 cs1) (hp:CellsAt w bp 0 [.int .i64 place]) {r:qap} (hF:qdU n list t place=some r) {b:Bool} (hb:r.Bm=b) :
  RetV Tryz.prog 48 (GoT.v (List Int) cs2::[.pointer (some ⟨bl,0,none⟩),.pointer (some ⟨bp,0,none⟩)]) w b:=by
 subst hb
 obtain ⟨p1,k1,rfl,s1⟩:=ha1
 obtain ⟨p2,k2,rfl,s2⟩:=ha2
 refine zV 10 Tryz.func48 rfl fun h=>X0 6 rfl ?_
 refine r_v (qim (j:=0) qc hl rfl rfl rfl) rfl ?_
 refine X0 1 rfl ?_
 refine r_v (qim (j:=0) qc hp rfl rfl rfl) rfl ?_
 refine qdj r h (cB 40 rfl) (qn6 ⟨_,_,rfl,s1⟩ ⟨_,_,rfl,s2⟩ hF) rfl rfl rfl rfl fun w1 S1 us1 hv1 hr1=>?_
 obtain ⟨cs,rfl,h⟩:=hv1.last hr1
 obtain rfl:=qle (h.own 0 rfl)
 refine X0 3 rfl ?_
 exact rb h rfl rfl
def ixN (q:List Int→Bool) (xs:List (List Int)):Int:=bif decide (xs.findIdx q<xs.length) then (xs.findIdx q:Int) else -1
theorem qxv {n:Nat} {w:World} {list:List qa} {place:Int} {xs:List (List Int)} {q:List Int→Bool} {bl bp:Nat} {cs1 csl:List Value} (ha1:GoT.R w (old w) xs cs1) (ha2:GoT.R w (old w) list csl)
  (hbl:CellsAt w bl 0 csl) (hbp:CellsAt w bp 0 [.int .i64 place]) (hE:∀ t ∈ xs,∃ e,qdU n list t place=some e∧e.Bm=q t) (hbig:xs.length≤1000000) :
  RetV Tryz.prog 105 [GoT.v (List (List Int)) cs1,.func (.func 48) #[] #[.pointer (some ⟨bl,0,none⟩),.pointer (some ⟨bp,0,none⟩)]] w (ixN q xs):=by
 obtain ⟨p1,k1,rfl,s1⟩:=ha1
 refine zV 19 Tryz.func105 rfl fun h=>X0 11 rfl ?_
 refine qk (rL (fun m e w'=>∃ (i:Nat) (iv:Int),iv=(i:Int)∧m+i=xs.length+1∧i≤xs.length∧(∀ j (hj:j<xs.length),j<i→q xs[j]=false)∧e=[(0,.slice p1 xs.length k1),(1,.func (.func 48) #[] #[.pointer (some ⟨bl,0,none⟩),.pointer (some ⟨bp,0,none⟩)]),(7,.int .i64 (xs.length:Int)),(8,.int .i64 iv)]∧SH w w' []) (xs.length+1) ⟨0,0,rfl,rfl,jG _,fun _ _ h=>absurd h (Nat.not_lt_zero _),rfl,h⟩ rfl ?_)
 rintro m1 e1 w1 ⟨i,iv,rfl,hm,hi,hall,rfl,h⟩
 rcases m1 with _|m1
 ·omega
 refine X0 5 rfl (qkA rfl (fun ht=>?_) (fun hf=>?_))
 ·have hlt:i<xs.length:=by have:=of_decide_eq_true ht;omega
  refine X0 13 rfl ?_
  obtain ⟨b1,o1,q1,cs2,hp1,hq1,_,hr1,hc2⟩:=s1.at (idxN hlt)
  obtain ⟨p2,k2,rfl,s2⟩:=hr1
  obtain ⟨e,he,heq⟩:=hE _ (jp hlt)
  refine zx hp1 hq1 ⟨by omega,by omega⟩ rfl (zc 0 (hc2.below h.below) rfl ?_)
  refine qqR _ h (cB 48 rfl) (qm4 (h.old ha2) ⟨_,_,rfl,h.oldS s2⟩ (hbl.below h.below) (hbp.below h.below) he heq) rfl rfl rfl rfl fun w2 h=>qcw (qkA rfl (fun ht=>?_) (fun hf=>?_))
  ·refine X0 5 rfl ?_
   have hfi:xs.findIdx q=i:=by
    refine Nat.le_antisymm ?_ ?_
    ·exact Nat.le_of_not_lt fun hgt=>by
      have:=List.not_of_lt_findIdx hgt
      rw [ht] at this;cases this
    ·exact Nat.le_of_not_lt fun hgt=>by
      have h1:=hall _ (by omega) hgt
      have h2:=List.findIdx_getElem (xs:=xs) (p:=q) (w:=by omega)
      rw [h1] at h2;cases h2
   have hix:ixN q xs=(i:Int):=by unfold ixN;rw [hfi,decide_eq_true hlt];rfl
   rw [hix]
   exact ri h rfl rfl
  refine X0 6 rfl (rK ⟨i+1,_,?_,by omega,by omega,fun j hj hji=>?_,rfl,h⟩ rfl)
  ·exact w64N i (by omega)
  ·rcases Nat.lt_or_ge j i with h1|h1
   ·exact hall j hj h1
   ·obtain rfl:j=i:=by omega
    exact hf
 refine qm rfl ?_
 have hlt:¬ i<xs.length:=by have:=of_decide_eq_false hf;omega
 have hfi:¬ xs.findIdx q<xs.length:=fun hgt=>by
  have h1:=hall _ hgt (by omega)
  have h2:=List.findIdx_getElem (xs:=xs) (p:=q) (w:=hgt)
  rw [h1] at h2;cases h2
 have hix:ixN q xs=-1:=by unfold ixN;rw [decide_eq_false hfi];rfl
 rw [hix]
 exact X0 4 rfl (ri h rfl rfl)
theorem quz {n:Nat} {w0 w:World} {F:List Ch} {S:Nat→Prop} {list:List qa} {place:Int} {xs r:List (List Int)} {p:Option Addr} {ln c bl bp tl tp:Nat} {csl:List Value} (hl:GoT.R w0 (old w0) list csl)
  (h:SH w0 w (Ch.own S xs [.slice p ln c]::Ch.box bl csl tl::Ch.box bp [.int .i64 place] tp::F)) (hF:fltF (fun t=>qdU n list t place) xs=some r) (hbig:xs.length≤1000000) :
  RetT Tryz.prog 47 [.slice p ln c,.func (.func 48) #[] #[.pointer (some ⟨bl,0,none⟩),.pointer (some ⟨bp,0,none⟩)]] w w0 (Ch.box bl csl tl::Ch.box bp [.int .i64 place] tp::F) r:=by
 obtain ⟨hE,hr⟩:=qn1 hF
 obtain ⟨q,hq⟩:∃ q,q=fltP fun t=>qdU n list t place:=⟨_,rfl⟩
 rw [←hq] at hE hr
 obtain rfl:ln=xs.length:=(h.sl 0 rfl).2
 refine qkn Tryz.func47 rfl (m:=42) rfl rfl ?_
 refine X0 8 rfl ?_
 refine qtU (ixN q xs) h (cB 105 rfl) (qxv (h.own 0 rfl) (h.old hl) (h.box 1 rfl) (h.box 2 rfl) hE hbig) rfl rfl rfl rfl fun w1 h=>?_
 refine X0 8 rfl (qkA rfl (fun ht=>?_) (fun hf=>?_))
 ·have hno:¬ xs.findIdx q<xs.length:=fun hlt=>by
   have ht:(ixN q xs==-1)=true:=ht
   have h1:=eq_of_beq ht
   unfold ixN at h1
   rw [decide_eq_true hlt] at h1
   have h1:(xs.findIdx q:Int)=-1:=h1
   omega
  have hrx:xs.filter (fun t=>!q t)=xs:=List.filter_eq_self.2 fun t ht=>by
   obtain ⟨i,hi⟩:=List.mem_iff_getElem?.1 ht
   obtain ⟨hi1,hi2⟩:=List.getElem?_eq_some_iff.1 hi
   have:=List.not_of_lt_findIdx (p:=q) (xs:=xs) (i:=i) (by omega)
   rw [hi2] at this
   rw [this];rfl
  rw [hrx] at hr
  subst hr
  refine X0 5 rfl ?_
  exact qla qc h ⟨rfl,trivial⟩
 have hlt0:xs.findIdx q<xs.length:=Nat.lt_of_not_le fun hge=>by
  have hf:(ixN q xs==-1)=false:=hf
  unfold ixN at hf
  rw [decide_eq_false (by omega)] at hf
  cases hf
 have hix:ixN q xs=(xs.findIdx q:Int):=by unfold ixN;rw [decide_eq_true hlt0];rfl
 rw [hix]
 obtain ⟨Sr,Se,rs,hrs,h⟩:=h.splitL
 obtain ⟨k0,hk0⟩:∃ k0,k0=xs.findIdx q:=⟨_,rfl⟩
 rw [←hk0] at hlt0 ⊢
 have hq0:q xs[k0]=true:=by subst hk0;exact List.findIdx_getElem (w:=hlt0)
 have hK0:kept (fun t=>!q t) xs rs k0=(xs.zip rs).take k0:=qs7 (by omega) (by omega) fun i x hi hx=>by
  obtain ⟨hi1,hi2⟩:=List.getElem?_eq_some_iff.1 hx
  have:=List.not_of_lt_findIdx (p:=q) (xs:=xs) (i:=i) (by omega)
  rw [hi2] at this
  rw [this];rfl
 have hK1:kept (fun t=>!q t) xs rs (k0+1)=(xs.zip rs).take k0:=by
  rw [qn0 (jg hlt0) (jg (by omega:k0<rs.length)),hK0]
  simp [hq0]
 refine X0 7 rfl ?_
 refine qk (rL (fun m e w'=>∃ (i j:Nat) (iv jv:Int) (R:List (Raw (List Int))),iv=(i:Int)∧jv=(j:Int)∧m+j=xs.length+1∧j≤xs.length∧i<j∧(kept (fun t=>!q t) xs rs j).length=i∧R.length=xs.length∧R.take i=(kept (fun t=>!q t) xs rs j).map (·.2)∧(∀ m,j≤m→R[m]?=rs[m]?) ∧
   e=[(0,.slice p xs.length c),(1,.func (.func 48) #[] #[.pointer (some ⟨bl,0,none⟩),.pointer (some ⟨bp,0,none⟩)]),(5,.int .i64 iv),(6,.int .i64 jv)]∧SH w0 w' (Ch.own Sr R [.slice p xs.length c]::Ch.els Se xs rs::Ch.box bl csl tl::Ch.box bp [.int .i64 place] tp::F)) (xs.length-k0)
  ⟨k0,k0+1,_,_,rs,rfl,(by exact w64N k0 (by omega)),(by omega),(by omega),(by omega),(by rw [hK1];simp;omega),hrs,(by rw [hK1,List.map_take,List.map_snd_zip (by omega)]),fun _ _=>rfl,rfl,h⟩ rfl ?_)
 rintro m1 e1 w2 ⟨i,j,iv,jv,R,rfl,rfl,hm,hj,hij,hKl,hRl,hRt,hRd,rfl,h⟩
 rcases m1 with _|m1
 ·omega
 have hln:R.length=xs.length:=hRl
 refine X0 7 rfl (qkA rfl (fun ht=>?_) (fun hf=>?_))
 ·have hlt:j<xs.length:=by have:=of_decide_eq_true ht;omega
  have hx:xs[j]?=some xs[j]:=jg hlt
  have hrj:rs[j]?=some rs[j]:=jg (by omega)
  have hRj:idx R (j:Int)=some rs[j]:=by
   unfold idx
   rw [if_pos (by omega)]
   exact (hRd j (jf _)).trans hrj
  have hRi:idx R (i:Int)=some R[i]:=idxN (by omega)
  refine X0 7 rfl ?_
  obtain ⟨p2,k2,e2,s2⟩:=h.elsR 1 rfl hx hrj
  obtain ⟨b1,o1,q1,cs2,hp1,hq1,_,hr1,hc1⟩:=(h.sl 0 rfl).1.at hRj
  obtain ⟨rfl,hr2,hr3⟩:=hr1
  rw [e2] at hc1
  refine zx hp1 hq1 ⟨by omega,by omega⟩ rfl (zc 0 hc1 rfl ?_)
  obtain ⟨e,he,heq⟩:=hE _ (jp hlt)
  refine X0 6 rfl ?_
  refine qqR _ h (cB 48 rfl) (qm4 (h.old hl) ⟨_,_,rfl,s2⟩ (h.box 2 rfl) (h.box 3 rfl) he heq) rfl rfl rfl rfl fun w3 h=>?_
  have hks:=qn0 (q:=fun t=>!q t) hx hrj
  refine X0 2 rfl (qkA rfl (fun ht=>?_) (fun hf=>?_))
  ·have ht:(!q xs[j])=true:=ht
   rw [ht] at hks
   refine X0 5 rfl ?_
   obtain ⟨b4,o4,q4,cs4,hp4,hq4,_,hr4,hc4⟩:=(h.sl 0 rfl).1.at hRi
   refine zx hp4 hq4 ⟨by omega,by omega⟩ rfl ?_
   have hr5:=hr4
   obtain ⟨rfl,hr6,hr7⟩:=hr5
   obtain ⟨v4,hv4⟩:∃ v,R[i].cs=[v]:=by
    have:R[i].cs.length=1:=hr6
    match R[i].cs,this with
    | [v],_=>exact ⟨v,rfl⟩
   rw [hv4] at hr4 hc4
   refine qaX qc 0 0 (hdr p2 xs[j].length k2) h rfl hRi hp4 hq4 hr4 hc4 rfl rfl rfl qi1 rfl rfl rfl fun w4 h=>?_
   refine X0 12 rfl (rK ⟨i+1,j+1,_,_,R.set i (hdr p2 xs[j].length k2),?_,?_,by omega,by omega,by omega,by rw [hks];simp [hKl],by simpa using hRl,?_,fun m hm=>?_,rfl,h⟩ rfl)
   ·exact w64N i (by omega)
   ·exact w64N j (by omega)
   ·have hh:(hdr p2 xs[j].length k2:Raw (List Int))=rs[j]:=by
     unfold hdr
     rw [←e2]
    rw [hks,jH,←hRt,hh]
    refine List.ext_getElem? fun m=>?_
    rw [jr,List.getElem?_set,List.getElem?_append,Jb,jr]
    rcases Nat.lt_trichotomy m i with h1|h1|h1
    ·rw [if_pos (by omega),if_neg (by omega),if_pos (by omega),if_pos h1]
    ·subst h1
     rw [if_pos (by omega),if_pos rfl,if_pos (by omega),if_neg (by omega),show m-min m R.length=0 by omega]
     rfl
    ·rw [if_neg (by omega),if_neg (by omega),List.getElem?_eq_none]
     simp;omega
   ·rw [Jf (by omega)]
    exact hRd m (by omega)
  ·have hf:(!q xs[j])=false:=hf
   rw [hf] at hks
   have hks:kept (fun t=>!q t) xs rs (j+1)=kept (fun t=>!q t) xs rs j:=by rw [hks];simp
   refine X0 7 rfl (rK ⟨i,j+1,_,_,R,rfl,?_,by omega,by omega,by omega,by rw [hks,hKl],hRl,by rw [hks,hRt],fun m hm=>hRd m (by omega),rfl,h⟩ rfl)
   exact w64N j (by omega)
 refine qm rfl ?_
 obtain rfl:j=xs.length:=by have:=of_decide_eq_false hf;omega
 rcases (h.sl 0 rfl).1.2.2 with ⟨_,hnil⟩|⟨b,o,cur,T,fr,rfl,-⟩
 ·rw [hnil] at hRl;simp at hRl;omega
 obtain ⟨rfl,-,-,hc1,hc2,cs,tb,hcl,hcs,h⟩:=h.toBox rfl
 refine X0 4 rfl ?_
 refine r_v (qdI qc rfl rfl rfl ⟨by omega,by omega,by omega,by omega⟩ (subP1 (b:=b) (o:=0) (c:=c) (l:=i) (by omega)) rfl rfl rfl rfl rfl rfl) rfl ?_
 refine qu5 qc 0 h rfl rfl rfl rfl rfl rfl rfl rfl (by omega) (by omega) fun w5 h=>?_
 refine X0 5 rfl ?_
 refine r_v (qdI qc rfl rfl rfl ⟨by omega,by omega,by omega,by omega⟩ (subP1 (b:=b) (o:=0) (c:=c) (l:=0) (by omega)) rfl rfl rfl rfl rfl rfl) rfl ?_
 refine X0 2 rfl ?_
 have h2:=SH.ofBox (α:=List Int) rfl (rs:=(kept (fun t=>!q t) xs rs xs.length).map (·.2)) h (c:=c) (by rw [qb4 (by simp;omega),hcl]) (by simp;omega) hc2 fun m z hz=>?_
 ·replace h:=h2.pickT 2 [1,0] rfl
  replace h:=h.elsSub (qrE (fun t=>!q t) xs rs xs.length)
  replace h:=h.pickT 2 [1,0] rfl
  replace h:=h.joinL
  rw [qph (by omega),hr] at h
  have hll:((kept (fun t=>!q t) xs rs xs.length).map (·.2)).length=i-0:=by simp [hKl]
  rw [hll] at h
  exact qla qc h ⟨rfl,trivial⟩
 ·rw [←hRt,jr] at hz
  split at hz
  ·obtain ⟨v,e1,e2,e3⟩:=hcs m z hz
   exact ⟨v,e1,e2,by rw [getElem?_splice (by simp;omega),if_pos (by omega)];exact e3⟩
  ·cases hz
end Go.Fw


namespace Go.Fw
open Go Go.Proofs
open Go.RowKit (Below)
set_option maxRecDepth 100000
set_option maxHeartbeats 6400000
variable {n:Nat} {w:World} {cs1 cs2:List Value}
def qe2 (n:Nat) (b:qg) (list:List qa) (a_end:Int):Option (List (List Int) × Int) :=
 (qiN n b list a_end).bind fun o=>match o with
  | (r1,r2) =>
   bif decide (r1.length≤1000000) then
    (fltF (fun t=>qdU n list t a_end) r1).bind fun r3=>some (r3,r2)
   else none
theorem qkV {b:qg} {list:List qa} {a_end:Int} (ha1:GoT.R w (old w) b cs1) (ha2:GoT.R w (old w) list cs2) {r:List (List Int) × Int} (hF:qe2 n b list a_end=some r):RetV Tryz.prog 17 [GoT.v qg cs1,GoT.v (List qa) cs2,.int .i64 a_end] w r:=by
 obtain ⟨p1,k1,p2,k2,p3,k3,p4,k4,p5,k5,rfl,s1,s2,s3,s4,s5⟩:=qK ha1
 obtain ⟨p6,k6,rfl,s6⟩:=ha2
 refine zV 21 Tryz.func17 rfl fun h=>zSR (qu h rfl rfl fun w1 bb1 h=>qu h rfl rfl fun w2 bb2 h=>qu h rfl rfl fun w3 bb3 h=>?_)
 refine X3 8 2 1 0 h rfl ?_
 obtain ⟨⟨r1,r2⟩,hr,hF⟩:=qd hF
 refine qdj (r1,r2) h (cB 13 rfl) (qo9 (h.old ha1) ⟨_,_,rfl,h.oldS s6⟩ hr) rfl rfl rfl rfl fun w4 S1 us hv hr3=>?_
 obtain ⟨S2,S3,p7,k7,us2,rfl,hv2,hr4⟩:=hv.consL hr3
 obtain ⟨rfl,h⟩:=hv2.lastI hr4
 cases hd:decide (r1.length≤1000000) with
 | false=>simp only [hd,cond_false] at hF;cases hF
 | true =>
  simp only [hd,cond_true] at hF
  obtain ⟨r3,hr5,hF⟩:=qd hF
  replace h:=h.pick [0,2,1] rfl
  refine X0 10 rfl ?_
  refine qnb (cB 47 rfl) (quz (F:=[]) (n:=n) (list:=list) (place:=a_end) ⟨_,_,rfl,s6⟩ h hr5 (of_decide_eq_true hd)) rfl rfl rfl rfl fun w5 S5 p8 k8 h=>?_
  refine X0 4 rfl ?_
  obtain rfl:=qb hF
  exact qak qc (ρ:=(List (List Int)) × Int) [GoT.v (List (List Int)) [.slice p8 r3.length k8],GoT.v Int [.int .i64 r2]] h ⟨rfl,rfl,trivial⟩ (PV.done h (qbn h (qay 0 h rfl) (qat (qy (S:=fun _=>False) rfl)) (by rfl)))
def qf9 (n:Nat) (b:qg) (list:List qa) (a_end:Int):Option (List (List Int) × Int) :=
 (qiT n b list a_end).bind fun o=>match o with
  | (r1,r2) =>
   bif (r2 != 0) then some ([],r2) else
   bif decide (r1.length≤1000000) then
    (fltF (fun t=>qgw n list t a_end) r1).bind fun r3=>some (r3,0)
   else none
theorem qnQ {b:qg} {list:List qa} {a_end:Int} (ha1:GoT.R w (old w) b cs1) (ha2:GoT.R w (old w) list cs2) {r:List (List Int) × Int} (hF:qf9 n b list a_end=some r):RetV Tryz.prog 29 [GoT.v qg cs1,GoT.v (List qa) cs2,.int .i64 a_end] w r:=by
 obtain ⟨p1,k1,p2,k2,p3,k3,p4,k4,p5,k5,rfl,s1,s2,s3,s4,s5⟩:=qK ha1
 obtain ⟨p6,k6,rfl,s6⟩:=ha2
 refine zV 46 Tryz.func29 rfl fun h=>zSR (qu h rfl rfl fun w1 bb1 h=>?_)
 refine X1 8 0 h rfl ?_
 obtain ⟨⟨xs,r2⟩,hr,hF⟩:=qd hF
 refine qdj (xs,r2) h (cB 14 rfl) (qpD (h.old ha1) ⟨_,_,rfl,h.oldS s6⟩ hr) rfl rfl rfl rfl fun w2 S1 us hv hr3=>?_
 obtain ⟨S2,S3,p7,k7,us2,rfl,hv2,hr4⟩:=hv.consL hr3
 obtain ⟨rfl,h⟩:=hv2.lastI hr4
 refine X0 12 rfl (qi rfl hF ?_ ?_)<;>intro hF
 ·refine X0 6 rfl ?_
  obtain rfl:=qb hF
  exact qak qc (ρ:=(List (List Int)) × Int) [GoT.v (List (List Int)) [.slice none 0 0],GoT.v Int [.int .i64 r2]] h ⟨rfl,rfl,trivial⟩ (PV.done h (qbn h qhH (qat (qy (S:=fun _=>False) rfl)) (by rfl)))
 cases hd:decide (xs.length≤1000000) with
 | false=>simp only [hd,cond_false] at hF;cases hF
 | true =>
  simp only [hd,cond_true] at hF
  have hbig:xs.length≤1000000:=of_decide_eq_true hd
  obtain ⟨r3,hr5,hF⟩:=qd hF
  obtain ⟨hE,hr6⟩:=qn1 hr5
  obtain ⟨q,hq⟩:∃ q,q=fltP fun t=>qgw n list t a_end:=⟨_,rfl⟩
  rw [←hq] at hE hr6
  obtain ⟨Sr,Se,rs,hrs,h⟩:=h.splitL
  replace hrs:rs.length=xs.length:=hrs
  replace h:=h.pick [0,1] rfl
  refine X0 3 rfl ?_
  refine qG qc [] [] ([]:List (Raw (List Int))) h rfl rfl rfl rfl rfl rfl rfl rfl rfl trivial rfl fun w3 p2 S4 h=>?_
  refine X0 7 rfl ?_
  refine qk (rL (fun m e w'=>∃ (j ln:Nat) (jv:Int) (Sq:Nat→Prop) (pq:Option Addr) (cq:Nat) (Qs:List (Raw (List Int))),jv=(j:Int)∧m+j=xs.length+1∧j≤xs.length∧Qs=(kept (fun t=>!q t) xs rs j).map (·.2) ∧
    e=[(1,.slice p6 list.length k6),(2,.int .i64 a_end),(8,.slice p7 xs.length k7),(10,.slice pq ln cq),(11,.int .i64 jv)]∧SH w w' [Ch.own Sq Qs [.slice pq ln cq],Ch.own Sr rs [.slice p7 xs.length k7],Ch.els Se xs rs]) (xs.length+1)
   ⟨0,0,_,_,_,_,[],rfl,rfl,jG _,rfl,rfl,h⟩ rfl ?_)
  rintro m1 e1 w4 ⟨j,ln,jv,Sq,pq,cq,Qs,rfl,hm,hj,hQ,rfl,h⟩
  obtain rfl:ln=Qs.length:=(h.sl 0 rfl).2
  rcases m1 with _|m1
  ·omega
  refine X0 8 rfl (qkA rfl (fun ht=>?_) (fun hf=>?_))
  ·have hlt:j<xs.length:=by have:=of_decide_eq_true ht;omega
   have hx:xs[j]?=some xs[j]:=jg hlt
   have hrj:rs[j]?=some rs[j]:=jg (by omega)
   obtain ⟨b1,o1,q1,p8,k8,hp1,hq1,hlt1,hid1,hc1,hs1⟩:=h.matAt 1 2 rfl rfl (idxN hlt)
   refine X0 8 rfl ?_
   refine zx hp1 hq1 hlt1 rfl (zc 0 hc1 rfl ?_)
   obtain ⟨e,he,heq⟩:=hE _ (jp hlt)
   refine X0 1 rfl ?_
   refine qdj e h (cB 67 rfl) (qnn ⟨_,_,rfl,h.oldS s6⟩ ⟨_,_,rfl,hs1⟩ he) rfl rfl rfl rfl fun w5 S5 us hv hr=>?_
   obtain ⟨cs,rfl,h⟩:=hv.last hr
   obtain rfl:=qle (h.own 0 rfl)
   replace h:=h.pick [1,2,3] rfl
   have hks:=qn0 (q:=fun t=>!q t) hx hrj
   refine X0 3 rfl (qkA rfl (fun ht=>?_) (fun hf=>?_))
   ·have ht:(!e.Bm)=true:=ht
    rw [heq] at ht
    rw [ht] at hks
    refine X0 4 rfl ?_
    obtain ⟨b2,o2,q2,p9,k9,hp2,hq2,hlt2,hid2,hc2,hs2⟩:=h.matAt 1 2 rfl rfl (idxN hlt)
    obtain ⟨rfl,rfl⟩:p9=p8∧k9=k8:=by
     rw [hid1] at hid2
     have:=Option.some.inj hid2
     unfold hdr at this
     simp only [Raw.mk.injEq,List.cons.injEq,Value.slice.injEq,and_true,true_and] at this
     exact ⟨this.1.symm,this.2.symm⟩
    refine zx hp2 hq2 hlt2 rfl (zc 0 hc2 rfl ?_)
    refine qG qc [.tmp 42] _ ([⟨[.slice p9 xs[j].length k9]⟩]:List (Raw (List Int))) h rfl rfl rfl rfl rfl rfl rfl rfl rfl ⟨⟨rfl,rfl,fun v hv=>by rw [List.mem_singleton.1 hv];rfl⟩,trivial⟩ rfl fun w6 p4 S6 h=>?_
    refine qok qc (α:=Raw (List Int)) 1 h rfl (h.sl 0 rfl).1 rfl rfl rfl rfl rfl rfl rfl rfl rfl rfl (by have:=qvx (fun t=>!q t) xs rs j;rw [hQ];simp [big];omega) rfl fun w7 p5 c5 S7 h=>?_
    replace h:=h.pick [1,2,3] rfl
    refine X0 8 rfl (rK ⟨j+1,_,_,S7,p5,c5,_,w64N j (by omega),by omega,by omega,?_,rfl,h⟩ rfl)
    have hh:=(qax hid2).2.2
    rw [show ((j:Nat):Int).toNat=j from rfl,hrj] at hh
    rw [hks,jH,Option.some.inj hh,hQ]
    rfl
   ·have hf:(!e.Bm)=false:=hf
    rw [heq] at hf
    rw [hf] at hks
    have hks:kept (fun t=>!q t) xs rs (j+1)=kept (fun t=>!q t) xs rs j:=by rw [hks];simp
    refine X0 7 rfl (rK ⟨j+1,_,_,Sq,pq,cq,Qs,w64N j (by omega),by omega,by omega,by rw [hks,hQ],rfl,h⟩ rfl)
  refine qm rfl ?_
  obtain rfl:j=xs.length:=by have:=of_decide_eq_false hf;omega
  subst hQ
  refine X0 6 rfl ?_
  replace h:=h.pick [2,0] rfl
  replace h:=h.elsSub (qrE (fun t=>!q t) xs rs xs.length)
  replace h:=h.pick [1,0] rfl
  replace h:=h.joinL
  obtain rfl:=qb hF
  have hll:((kept (fun t=>!q t) xs rs xs.length).map (·.2)).length=r3.length:=by rw [←hr6,←qph (rs:=rs) (by omega)];simp
  rw [qph (by omega),hr6,hll] at h
  rw [hll]
  exact qak qc (ρ:=(List (List Int)) × Int) [GoT.v (List (List Int)) [.slice pq r3.length cq],GoT.v Int [.int .i64 0]] h ⟨rfl,rfl,trivial⟩ (PV.done h (qbn h (qay 0 h rfl) (qat (qy (S:=fun _=>False) rfl)) (by rfl)))
end Go.Fw


namespace Go.Fw
open Go Go.Proofs
open Go.RowKit (Below)
set_option maxRecDepth 100000
set_option maxHeartbeats 6400000
variable {n:Nat} {w:World} {cs1 cs2 cs3 cs4 cs5 cs6 cs7 cs8 cs9:List Value}
def qgq (n:Nat) (a_0:qg) (a_1:(List qa)) (a_2:Int):Option Bool :=
 (qjy n a_0 1048576).bind fun r1 =>
 bif decide (r1<0) then some true else
 (qhT n a_1 r1).bind fun r2 =>
 bif decide (r2<0) then some true else
 (qfK n a_0).bind fun r3 =>
 (qcv n a_1).bind fun r4 =>
 (qf9 n r3 r4 a_2).bind fun o=>match o with
  | (r6,r7) =>
   (qfK n a_0).bind fun r8 =>
   (qcv n a_1).bind fun r9 =>
   (qe2 n r8 r9 a_2).bind fun o=>match o with
    | (r11,r12) =>
     (
      (qff n r11 r6).bind fun r29 =>
      bif (!r29) then some true else
      some (r12 != r7)).bind fun b1 =>
     bif b1 then some false else
     (qfK n a_0).bind fun r13 =>
     (qjr n r8 r13).bind fun r14 =>
     bif (!r14) then some false else
     (qcv n a_1).bind fun r15 =>
     (qgi n r9 r15).bind fun r16 =>
     bif (!r16) then some false else
     (qh1 n (⟨(⟨r8.Ai.Ah⟩:qn),(⟨r8.Ab.Aa,r8.Ab.Af,r8.Ab.Ac⟩:qf),r8.Aj⟩:qg) 1).bind fun o=>match o with
      | (r17,_,_,_,_,_) =>
       (qgU n r9 r17).bind fun o=>match o with
        | (r18,_) =>
         (
          bif decide (r18<0) then some true else
          (qff n r11 r6).bind fun r28 =>
          bif (!r28) then some true else
          some (r12 != r7)).bind fun b2 =>
         bif b2 then some false else
         (qgG n r11 1).bind fun o=>match o with
          | (r19,x7) =>
           (qfh n x7 1).bind fun r20 =>
           bif decide (r20<0) then some false else
           bif (r20 != r19) then some false else
           (qfK n (⟨(⟨a_0.Ai.Ah⟩:qn),(⟨a_0.Ab.Aa,a_0.Ab.Af,a_0.Ab.Ac⟩:qf),a_0.Aj⟩:qg)).bind fun r21 =>
           (qcv n a_1).bind fun r22 =>
           (qe2 n r21 r22 a_2).bind fun o=>match o with
            | (r24,r25) =>
             (
              (qff n r24 r6).bind fun r27 =>
              bif (!r27) then some true else
              some (r25 != r7)).bind fun b3 =>
             bif b3 then some false else
             (qfh n x7 1).bind fun r26 =>
             bif decide (r26<0) then some false else
             bif (r26 != r19) then some false else
             some true
theorem qkI {a_0:qg} {a_1:(List qa)} {a_2:Int} (ha1:GoT.R w (old w) a_0 cs1) (ha2:GoT.R w (old w) a_1 cs2) {r:Bool} (hF:qgq n a_0 a_1 a_2=some r):RetV Tryz.prog 5 [GoT.v qg cs1,GoT.v (List qa) cs2,.int .i64 a_2] w r:=by
 obtain ⟨p1,k1,p2,k2,p3,k3,p4,k4,p5,k5,rfl,s1,s2,s3,s4,s5⟩:=qK ha1
 obtain ⟨p6,k6,rfl,s6⟩:=ha2
 refine zV 124 Tryz.func5 rfl fun h=>zSR (qu h rfl rfl fun w1 bb1 h=>X1 10 0 h rfl (zcI h hF (qoJ (h.old ha1)) rfl fun r1 w2 h hF=>X0 8 rfl (qi rfl hF ?_ ?_)))<;>intro hF
 ·exact X0 4 rfl (rb h hF rfl)
 refine X0 5 rfl (zcI h hF (qlX ⟨_,_,rfl,(h.oldS s6)⟩) rfl fun r2 w3 h hF=>X0 8 rfl (qi rfl hF ?_ ?_))<;>intro hF
 ·exact X0 4 rfl (rb h hF rfl)
 refine X1 4 0 h rfl (zcO h hF (qg6 (h.old ha1)) rfl fun r3 w4 S1 cs3 h hF=>?_)
 obtain ⟨p7,k7,p8,k8,p9,k9,p10,k10,p11,k11,rfl,-,-,-,-,-⟩:=qK (h.own 0 rfl)
 refine zp1 rfl (zcL h hF (qeS ⟨_,_,rfl,(h.oldS s6)⟩) rfl fun r4 w5 S2 p12 k12 h hF=>zp1 rfl ?_)
 obtain ⟨r5,hr5,hF⟩:=qd hF
 obtain ⟨r6,r7⟩:=r5
 refine qdj (r6,r7) h (cB 29 rfl) (qnQ (h.own 1 rfl) (h.own 0 rfl) hr5) rfl rfl rfl rfl fun w6 S3 us1 hv1 hr6=>?_
 obtain ⟨S4,S5,p13,k13,us2,rfl,hv2,hr7⟩:=hv1.consL hr6
 obtain ⟨rfl,h⟩:=hv2.lastI hr7
 refine X1 9 3 h rfl (zcO h hF (qg6 (h.old ha1)) rfl fun r8 w7 S7 cs4 h hF=>?_)
 obtain ⟨p14,k14,p15,k15,p16,k16,p17,k17,p18,k18,rfl,-,-,-,-,-⟩:=qK (h.own 0 rfl)
 refine qA qc h rfl rfl rfl fun w8 bb2 h=>zs 0 h rfl fun w9 h=>X0 4 rfl (zcL h hF (qeS ⟨_,_,rfl,(h.oldS s6)⟩) rfl fun r9 w10 S8 p19 k19 h hF=>X1 7 1 h rfl ?_)
 obtain ⟨r10,hr11,hF⟩:=qd hF
 obtain ⟨r11,r12⟩:=r10
 refine qdj (r11,r12) h (cB 17 rfl) (qkV (h.own 2 rfl) (h.own 0 rfl) hr11) rfl rfl rfl rfl fun w11 S9 us3 hv4 hr12=>?_
 obtain ⟨S10,S11,p20,k20,us4,rfl,hv5,hr13⟩:=hv4.consL hr12
 obtain ⟨rfl,h⟩:=hv5.lastI hr13
 refine X0 8 rfl ?_
 obtain ⟨KF3,hKF3,o6,hF,hK3⟩:=bindE hF
 refine qcB (fun e w'=>∃ (b1:Bool),KF3 b1=some r∧e=[(1,.slice p6 a_1.length k6),(2,.int .i64 a_2),(3,.pointer (some ⟨bb1,0,none⟩)),(8,.slice p13 r6.length k13),(9,.int .i64 r7),(10,.pointer (some ⟨bb2,0,none⟩)),(11,.slice p19 r9.length k19),(12,.slice p20 r11.length k20),(13,.int .i64 r12),(57,.bool b1)]∧SH w w' [Ch.own S10 (r11:List (List Int)) [.slice p20 r11.length k20],Ch.own S8 (r9:List qa) [.slice p19 r9.length k19],Ch.box bb2 (qal r8 p14 p15 p16 p17 p18 k14 k15 k16 k17 k18) 34,Ch.own S7 (r8:qg) (qal r8 p14 p15 p16 p17 p18 k14 k15 k16 k17 k18),Ch.own S4 (r6:List (List Int)) [.slice p13 r6.length k13],Ch.box bb1 (qal a_0 p1 p2 p3 p4 p5 k1 k2 k3 k4 k5) 61]) ?_ ?_
 ·refine X0 3 rfl (zcB h hF (qhJ (h.own 0 rfl) (h.own 4 rfl)) rfl fun r29 w29 h hF=>zp2 rfl (ql (t:=53) hF rfl ?_ ?_))<;>intro hF
  ·refine X0 5 rfl ?_
   replace h:=h.pick [0,1,2,3,4,7] rfl
   obtain rfl:=qb hF
   exact rG ⟨_,hK3,rfl,h⟩ rfl
  refine X0 8 rfl ?_
  replace h:=h.pick [0,1,2,3,4,7] rfl
  obtain rfl:=qb hF
  exact rG ⟨_,hK3,rfl,h⟩ rfl
 rintro e3 w30 ⟨b1,hF,rfl,h⟩
 subst hKF3
 refine qi rfl hF ?_ ?_<;>intro hF
 ·exact X0 4 rfl (rb h hF rfl)
 refine zKSS (rA [] [2,5] h rfl fun w12 h=>M2 3 [0,1] 0 1 (h.pick [2,5] rfl) rfl (Ao 2 7 rfl (zcO h hF (qg6 (h.old ha1)) rfl fun r13 w13 S13 cs5 h hF=>?_)))
 obtain ⟨p21,k21,p22,k22,p23,k23,p24,k24,p25,k25,rfl,-,-,-,-,-⟩:=qK (h.own 0 rfl)
 refine Ag (h.pick [3,6] rfl) (Ao 3 15 rfl (zcB h hF (qoI (h.own 4 rfl) (h.own 0 rfl)) rfl fun r14 w14 h hF=>G0 31 [4] (h.pick [3,6] rfl) rfl (Ad (qi rfl hF ?_ ?_))))<;>intro hF
 ·exact X0 4 rfl (rb h hF rfl)
 refine X0 6 rfl (zcL h hF (qeS ⟨_,_,rfl,(h.oldS s6)⟩) rfl fun r15 w15 S14 p26 k26 h hF=>zcB h hF (qmc (h.own 3 rfl) (h.own 0 rfl)) rfl fun r16 w16 h hF=>X0 2 rfl (qi rfl hF ?_ ?_))<;>intro hF
 ·exact X0 4 rfl (rb h hF rfl)
 refine X1 9 4 h rfl ?_
 replace h:=h.pick [5,0,1,2,3,4,6,7] rfl
 obtain ⟨S15,S16,S17,h⟩:=qpS h
 replace h:=h.pick [2,0,1,3,4,5,6,7,8,9] rfl
 obtain ⟨S18,h⟩:=qo8 h
 replace h:=h.pick [2,0,1,3,4,5,6,7,8,9] rfl
 obtain ⟨S19,S20,S21,h⟩:=qp3 h
 replace h:=h.pick [4,0,1,2,3,7,8,10,11] rfl
 obtain ⟨o1,hr19,hF⟩:=qd hF
 obtain ⟨r17,x1,x2,x3,x4,x5⟩:=o1
 refine qbN r17 (cB 25 rfl) (qmJ h hr19) rfl rfl rfl rfl ?_
 rintro w17 ⟨S22,S23,S24,S25,S26,h⟩
 replace h:SH _ _ [Ch.own S26 (x5:List qB) [.slice p18 r8.Aj.length k18],Ch.own S25 (x4:List qH) [.slice p17 r8.Ab.Ac.length k17],Ch.own S24 (x3:List ByteArray) [.slice p16 r8.Ab.Af.length k16],Ch.own S23 (x2:List qj) [.slice p15 r8.Ab.Aa.length k15],Ch.own S22 (x1:List qp) [.slice p14 r8.Ai.Ah.length k14],Ch.own S10 (r11:List (List Int)) [.slice p20 r11.length k20],Ch.own S8 (r9:List qa) [.slice p19 r9.length k19],Ch.own S4 (r6:List (List Int)) [.slice p13 r6.length k13],Ch.box bb1 (qal a_0 p1 p2 p3 p4 p5 k1 k2 k3 k4 k5) 61]:=h
 refine X0 6 rfl ?_
 replace h:=h.pick [6,5,7,8] rfl
 obtain ⟨o2,hr20,hF⟩:=qd hF
 obtain ⟨r18,x6⟩:=o2
 refine qbN r18 (cB 26 rfl) (qkQ h hr20) rfl rfl rfl rfl ?_
 rintro w18 ⟨S27,h⟩
 replace h:SH _ _ [Ch.own S27 (x6:List qa) [.slice p19 r9.length k19],Ch.own S10 (r11:List (List Int)) [.slice p20 r11.length k20],Ch.own S4 (r6:List (List Int)) [.slice p13 r6.length k13],Ch.box bb1 (qal a_0 p1 p2 p3 p4 p5 k1 k2 k3 k4 k5) 61]:=h
 refine X0 4 rfl ?_
 obtain ⟨KF2,hKF2,o5,hF,hK2⟩:=bindE hF
 refine qcB (fun e w'=>∃ (b2:Bool),KF2 b2=some r∧e=[(1,.slice p6 a_1.length k6),(2,.int .i64 a_2),(3,.pointer (some ⟨bb1,0,none⟩)),(8,.slice p13 r6.length k13),(9,.int .i64 r7),(12,.slice p20 r11.length k20),(86,.bool b2)]∧SH w w' [Ch.own S10 (r11:List (List Int)) [.slice p20 r11.length k20],Ch.own S4 (r6:List (List Int)) [.slice p13 r6.length k13],Ch.box bb1 (qal a_0 p1 p2 p3 p4 p5 k1 k2 k3 k4 k5) 61]) ?_ ?_
 ·refine X0 4 rfl (ql (t:=76) hF rfl ?_ ?_)<;>intro hF
  ·refine X0 11 rfl ?_
   replace h:=h.pick [1,2,3] rfl
   obtain rfl:=qb hF
   exact rG ⟨_,hK2,rfl,h⟩ rfl
  refine X0 5 rfl (zcB h hF (qhJ (h.own 1 rfl) (h.own 2 rfl)) rfl fun r28 w27 h hF=>X0 4 rfl (ql (t:=82) hF rfl ?_ ?_))<;>intro hF
  ·refine X0 5 rfl ?_
   replace h:=h.pick [1,2,3] rfl
   obtain rfl:=qb hF
   exact rG ⟨_,hK2,rfl,h⟩ rfl
  refine X0 8 rfl ?_
  replace h:=h.pick [1,2,3] rfl
  obtain rfl:=qb hF
  exact rG ⟨_,hK2,rfl,h⟩ rfl
 rintro e2 w28 ⟨b2,hF,rfl,h⟩
 subst hKF2
 refine qi rfl hF ?_ ?_<;>intro hF
 ·exact X0 4 rfl (rb h hF rfl)
 refine X0 9 rfl ?_
 obtain ⟨o3,hr21,hF⟩:=qd hF
 obtain ⟨r19,x7⟩:=o3
 refine qbN r19 (cB 27 rfl) (qlG h hr21) rfl rfl rfl rfl ?_
 rintro w19 ⟨S28,h⟩
 replace h:SH _ _ [Ch.own S28 (x7:List (List Int)) [.slice p20 r11.length k20],Ch.own S4 (r6:List (List Int)) [.slice p13 r6.length k13],Ch.box bb1 (qal a_0 p1 p2 p3 p4 p5 k1 k2 k3 k4 k5) 61]:=h
 refine X0 10 rfl (zcI h hF (qjb (h.own 0 rfl)) rfl fun r20 w20 h hF=>X0 8 rfl (qi rfl hF ?_ ?_))<;>intro hF
 ·exact X0 4 rfl (rb h hF rfl)
 refine X0 8 rfl (qi rfl hF ?_ ?_)<;>intro hF
 ·exact X0 4 rfl (rb h hF rfl)
 refine X1 4 2 h rfl (zcO h hF (qg6 (qm0 _ (h.oldS s1) (h.oldS s2) (h.oldS s3) (h.oldS s4) (h.oldS s5))) rfl fun r21 w21 S29 cs6 h hF=>?_)
 obtain ⟨p27,k27,p28,k28,p29,k29,p30,k30,p31,k31,rfl,-,-,-,-,-⟩:=qK (h.own 0 rfl)
 refine zp1 rfl (zcL h hF (qeS ⟨_,_,rfl,(h.oldS s6)⟩) rfl fun r22 w22 S30 p32 k32 h hF=>zp1 rfl ?_)
 obtain ⟨r23,hr25,hF⟩:=qd hF
 obtain ⟨r24,r25⟩:=r23
 refine qdj (r24,r25) h (cB 17 rfl) (qkV (h.own 1 rfl) (h.own 0 rfl) hr25) rfl rfl rfl rfl fun w23 S31 us5 hv7 hr26=>?_
 obtain ⟨S32,S33,p33,k33,us6,rfl,hv8,hr27⟩:=hv7.consL hr26
 obtain ⟨rfl,h⟩:=hv8.lastI hr27
 refine X0 8 rfl ?_
 obtain ⟨KF1,hKF1,o4,hF,hK1⟩:=bindE hF
 refine qcB (fun e w'=>∃ (b3:Bool),KF1 b3=some r∧e=[(12,.slice p20 r11.length k20),(15,.int .i64 r19),(115,.bool b3)]∧SH w w' [Ch.own S28 (x7:List (List Int)) [.slice p20 r11.length k20]]) ?_ ?_
 ·refine X0 3 rfl (zcB h hF (qhJ (h.own 0 rfl) (h.own 4 rfl)) rfl fun r27 w25 h hF=>zp2 rfl (ql (t:=111) hF rfl ?_ ?_))<;>intro hF
  ·refine X0 5 rfl ?_
   replace h:=h.pick [3] rfl
   obtain rfl:=qb hF
   exact rG ⟨_,hK1,rfl,h⟩ rfl
  refine X0 8 rfl ?_
  replace h:=h.pick [3] rfl
  obtain rfl:=qb hF
  exact rG ⟨_,hK1,rfl,h⟩ rfl
 rintro e1 w26 ⟨b3,hF,rfl,h⟩
 subst hKF1
 refine qi rfl hF ?_ ?_<;>intro hF
 ·exact X0 4 rfl (rb h hF rfl)
 refine X0 9 rfl (zcI h hF (qjb (h.own 0 rfl)) rfl fun r26 w24 h hF=>X0 8 rfl (qi rfl hF ?_ ?_))<;>intro hF
 ·exact X0 4 rfl (rb h hF rfl)
 refine X0 8 rfl (qi rfl hF ?_ ?_)<;>intro hF
 ·exact X0 4 rfl (rb h hF rfl)
 exact X0 5 rfl (rb h hF rfl)
end Go.Fw


namespace Go.Fw
open Go
end Go.Fw
