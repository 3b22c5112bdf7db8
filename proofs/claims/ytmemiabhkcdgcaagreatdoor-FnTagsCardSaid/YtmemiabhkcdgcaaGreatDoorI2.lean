/- Plain laws: arcs, cells, libraries. -/
import Derived.Test.YtmemiabhkcdgcaaGreatDoorB4
import Derived.Test.YtmemiabhkcdgcaaGreatDoorFw38
import Derived.Test.YtmemiabhkcdgcaaGreatDoorG1
open Option renaming bind_some → je, map_some → jW
open Nat renaming le_refl → jf, le_of_ble_eq_true → js, mul_le_mul_right → jx, lt_of_lt_of_le → jy, zero_le → jz, succ_mul → jQ, le_trans → jS, add_zero → Jc, zero_add → Jj
open Bool renaming and_eq_true → jg, eq_iff_iff → jm, true_and → jJ, not_eq_true' → jO, and_assoc → Ji, not_true → Jk, false_or → Jl
open Go.Result renaming andThen_ok → jh
open List renaming getElem?_eq_getElem → ji, length_append → jj, length_singleton → jk, mem_cons_of_mem → jo, getElem_mem → jp, mem_cons_self → jq, take_succ_eq_append_getElem → jr, getElem?_take → jt, getElem?_append_left → ju, mem_of_getElem? → jw, getElem?_drop → jA, take_length → jB, getElem?_append_right → jD, drop_eq_getElem_cons → jE, eq_nil_of_length_eq_zero → jF, not_mem_nil → jG, length_map → jH, getElem?_toArray → jI, getD_eq_getElem?_getD → jK, mem_append_left → jL, getElem_of_mem → jM, mem_cons → jN, getElem?_cons_succ → jP, mem_append_right → jR, append_nil → jT, size_toArray → jV, map_append → jX, range_succ → jY, length_take → jZ, length_filter_le → Ja, map_cons → Jb, drop_eq_nil_of_le → Jd, all_eq_true → Je, length_cons → Jf, append_assoc → Jg, ext_getElem → Jh
open Go.Sem renaming run_bind → jl, run_pure → jn
open Int renaming toNat_natCast → jC
open Array renaming getElem?_append_left → jU

namespace Go.Fw
open Go
set_option maxRecDepth 100000
theorem qfX {α:Type} [Inhabited α] {xs:List α} {x:Int} (h0:0≤x) (h1:x<xs.length):idx xs x=some (gt xs x.toNat):=by
  have:=qaa (xs:=xs) (j:=x.toNat) (by omega)
  rwa [←qlf h0] at this
theorem qn0 {q:Nat→Bool} {m n:Nat} (h:m≤n):cntP q m≤cntP q n:=by
  induction n with
  | zero =>
    obtain rfl:m=0:=by omega
    exact jf _
  | succ n ih =>
    rcases Nat.lt_or_eq_of_le h with h|rfl
    · exact jS (ih (by omega)) (Nat.le_add_right _ _)
    · exact jf _
theorem qjC {m k:Nat}:decide ((m:Int)≤(k:Int))=decide (m≤k):=by rw [jm];simp
theorem qpI {q:Nat→Bool} {n i j:Nat} (hi:i<j) (hj:j<n) (h1:q i=true) (h2:q j=true):2≤cntP q n:=by
  have e1:cntP q (i+1)=cntP q i+1:=by rw [cntP,h1];rfl
  have e2:cntP q (j+1)=cntP q j+1:=by rw [cntP,h2];rfl
  have m1:=qn0 (q:=q) (show i+1≤j by omega)
  have m2:=qn0 (q:=q) (show j+1≤n by omega)
  omega
theorem qo0 {q:Nat→Bool} {n i j:Nat} (hn:cntP q n≤1) (hi:i<n) (hj:j<n) (h1:q i=true) (h2:q j=true):i=j:=by
  rcases Nat.lt_trichotomy i j with h|h|h
  · have:=qpI h hj h1 h2;omega
  · exact h
  · have:=qpI h hi h2 h1;omega
def clkIx (ps:List qak):Int:=ixL (fun p=>p.Bb) ps
def clkAt (ps:List qak) (x:Int):Bool:=(gt ps x.toNat).Bb
theorem qso {c:qt} (hl:c.Ap.length≤1048576):Ev (fun n=>qgI n c) (clkIx c.Ap):=by
  unfold qgI
  refine Ev.bind (b:=clkIx c.Ap) ?_ .done
  exact qdA (fin:=(c.Ap.length:Int)) (Lf:=qQ c.Ap) (pf:=fun n x=>qg7 n x) (fun _ _=>.done)
    (fun n=>by simp only [qQ,qj (jf _),cond_false])
    (fun n j x hx=>by
      have hj:=(List.getElem?_eq_some_iff.1 hx).1
      simp only [qQ,qi hj,cond_true,qfY hx,je,wS j])
    (fun n=>by unfold qba;congr 1;funext o;cases o<;>rfl)
def arcI (ps:List qak) (a:qav):Bool :=
  bif (a.Ar==4) || (a.Ar==5) then
    (a.Bj==0)&&(((a.Bn.length:Int)==0)&&(tablesB a.Bi false&&((a.As==clkIx ps)&&(decide (a.As ≥ 0)&&(inI a.To 0 (ps.length-2)&&!(a.To==a.As))))))
  else
    (tablesB a.Bi true&&(tablesB a.Bn true&&((a.To==(ps.length:Int)-1)&&inI a.As 0 (ps.length-2)))) &&
      (bif a.Ar==1 then !clkAt ps a.As&&inI a.Bj 1 3 else (bif (a.Ar==2) || (a.Ar==3) then clkAt ps a.As&&(a.Bj==0) else false))
def arcS (ps:List qak) (a:qav):Bool :=
  (inI a.As 0 (ps.length-2)&&inI a.To 0 (ps.length-1)) &&
    (bif a.Ar==1 then !clkAt ps a.As&&((a.To==(ps.length:Int)-1)&&(inI a.Bj 1 3&&(tablesB a.Bi true&&tablesB a.Bn true)))
     else (bif (a.Ar==2) || (a.Ar==3) then clkAt ps a.As&&((a.To==(ps.length:Int)-1)&&((a.Bj==0)&&(tablesB a.Bi true&&tablesB a.Bn true)))
     else (bif (a.Ar==4) || (a.Ar==5) then clkAt ps a.As&&(decide (a.To<(ps.length:Int)-1)&&(!clkAt ps a.To&&((a.Bj==0)&&(tablesB a.Bi false&&((a.Bn.length:Int)==0))))) else false)))
theorem qmp {c d:Bool}:(bif c then some c else some d)=some (c || d):=by cases c<;>rfl
theorem qpK {c d:Bool}:(bif c then some true else some d)=some (c || d):=by cases c<;>rfl
theorem qpU {n:Nat} {k:Int}:qim n k=some ((k==4) || (k==5)):=by simp only [qim,qpK]
theorem qsl {c:qt} {a:qav} (h:okL qjF c.Ap) (ha:qjM a) (hm:2≤c.Ap.length):Ev (fun n=>qgF n c a) (arcI c.Ap a):=by
  have hl:=h.len
  have e1:W64 ((c.Ap.length:Int)-1)=(c.Ap.length:Int)-1:=qbc (by omega)
  have e2:W64 ((c.Ap.length:Int)-1-1)=(c.Ap.length:Int)-2:=by rw [qaz (by omega) (by omega)];omega
  simp only [qgF,qpU,je,qfM,qb8,qbF,e1,e2,qcN,qmp,bne]
  unfold arcI
  refine Ev.iff (fun _=>Ev.last ?_) (fun _=>Ev.guardB ?_ (fun hb=>?_))
  · exact Ev.andP fun _=>Ev.andP fun _=>Ev.and (qjU ha.Bi) fun _=>Ev.bind (qso hl) (Ev.andP fun _=>Ev.andP fun _=>Ev.andP fun _=>.done)
  · refine Ev.or (qjU ha.Bi) fun _=>Ev.or (qjU ha.Bn) fun _=>?_
    simp only [qaQ]
    exact Ev.orBP fun _=>.done
  · have hf:0≤a.As∧a.As≤(c.Ap.length:Int)-2:=by
      simp only [jg,qbT] at hb
      exact hb.2.2.2
    simp only [qfX hf.1 (show a.As<(c.Ap.length:Int) by omega),je]
    exact Ev.iff (fun _=>Ev.andP fun _=>.done) (fun _=>Ev.iff (fun _=>Ev.andP fun _=>.done) (fun _=>.done))
theorem qrq {c:qt} {a:qav} (h:okL qjF c.Ap) (ha:qjM a) (hm:2≤c.Ap.length):Ev (fun n=>qiY n c a) (arcS c.Ap a):=by
  have hl:=h.len
  have e1:W64 ((c.Ap.length:Int)-1)=(c.Ap.length:Int)-1:=qbc (by omega)
  have e2:W64 ((c.Ap.length:Int)-1-1)=(c.Ap.length:Int)-2:=by rw [qaz (by omega) (by omega)];omega
  simp only [qiY,je,e1,e2,qdE,qmp]
  unfold arcS
  refine Ev.guardB ?_ (fun hb=>?_)
  · simp only [qaQ]
    exact Ev.orBP fun _=>.done
  · have hf:(0≤a.As∧a.As≤(c.Ap.length:Int)-2)∧(0≤a.To∧a.To≤(c.Ap.length:Int)-1):=by
      simp only [jg,qbT] at hb
      exact hb
    simp only [qfX hf.1.1 (show a.As<(c.Ap.length:Int) by omega),qfX hf.2.1 (show a.To<(c.Ap.length:Int) by omega),je]
    refine Ev.iff (fun _=>?_) (fun _=>Ev.iff (fun _=>?_) (fun _=>Ev.iff (fun _=>?_) (fun _=>.done)))
    · exact Ev.andP fun _=>Ev.andP fun _=>Ev.andP fun _=>Ev.and (qgY ha.Bi) fun _=>Ev.last (qgY ha.Bn)
    · exact Ev.andP fun _=>Ev.andP fun _=>Ev.andP fun _=>Ev.and (qgY ha.Bi) fun _=>Ev.last (qgY ha.Bn)
    · exact Ev.andP fun _=>Ev.andP fun _=>Ev.andP fun _=>Ev.andP fun _=>Ev.and (qgY ha.Bi) fun _=>.done
theorem qmc {ps:List qak} (h1:clkN ps ps.length≤1) {x:Int} (hx:0≤x):clkIx ps=x↔x<ps.length∧clkAt ps x=true:=by
  unfold clkIx ixL
  cases hf:ps.findIdx? (fun p=>p.Bb) with
  | some j =>
    obtain ⟨hj,hp,_⟩:=List.findIdx?_eq_some_iff_getElem.1 hf
    have hpj:(gt ps j).Bb=true:=by rw [qhS hj];exact hp
    constructor
    · intro e
      have e:(j:Int)=x:=e
      subst e
      exact ⟨by omega,by unfold clkAt;rw [jC];exact hpj⟩
    · rintro ⟨hl,hc⟩
      have:=qo0 h1 hj (show x.toNat<ps.length by omega) hpj hc
      show (j:Int)=x
      omega
  | none =>
    have hn:=List.findIdx?_eq_none_iff.1 hf
    constructor
    · intro e
      have e:(-1:Int)=x:=e
      omega
    · rintro ⟨hl,hc⟩
      have hxl:x.toNat<ps.length:=by omega
      unfold clkAt at hc
      rw [qhS hxl] at hc
      have:=hn _ (jp hxl)
      rw [hc] at this
      exact absurd this (by decide)
theorem qiA {ps:List qak} (h:pinsB ps=true):(2≤ps.length∧ps.length≤5)∧clkAt ps ((ps.length:Int)-1)=false:=by
  unfold pinsB lenB at h
  simp only [jg,decide_eq_true_eq] at h
  refine ⟨h.2.1,?_⟩
  have h1:=qay.1 h.1 (ps.length-1) (by omega)
  unfold pinB at h1
  rw [show decide (ps.length-1+1=ps.length)=true by simp;omega] at h1
  simp only [cond_true,jg,jO] at h1
  unfold clkAt
  rw [show ((ps.length:Int)-1).toNat=ps.length-1 by omega]
  exact h1.2.2
theorem qrR {ps:List qak} {a:qav} (h:pinsB ps=true) (h1:clkN ps ps.length≤1):arcI ps a=arcS ps a:=by
  obtain ⟨⟨hm,hm5⟩,hlast⟩:=qiA h
  rw [jm]
  unfold arcI arcS
  cases h45:((a.Ar==4) || (a.Ar==5)) with
  | true =>
    have k1:(a.Ar==1)=false:=by simp at h45 ⊢;omega
    have k23:((a.Ar==2) || (a.Ar==3))=false:=by simp at h45 ⊢;omega
    rw [k1,k23]
    simp only [cond_true,cond_false,jg,qbT,decide_eq_true_eq,beq_iff_eq,jO,beq_eq_false_iff_ne,ne_eq]
    constructor
    · rintro ⟨hs,hsl,hd,hf,hf0,ht,hne⟩
      obtain ⟨hl,hc⟩:=(qmc h1 hf0).1 hf.symm
      have hfl:a.As ≠ (ps.length:Int)-1:=by intro e;rw [e,hlast] at hc;cases hc
      refine ⟨⟨⟨hf0,by omega⟩,⟨ht.1,by omega⟩⟩,hc,by omega,?_,hs,hd,hsl⟩
      cases hct:clkAt ps a.To with
      | false=>rfl
      | true =>
        have:=(qmc h1 ht.1).2 ⟨by omega,hct⟩
        omega
    · rintro ⟨⟨hf,ht⟩,hc,hlt,hct,hs,hd,hsl⟩
      have:=(qmc h1 hf.1).2 ⟨by omega,hc⟩
      refine ⟨hs,hsl,hd,this.symm,hf.1,⟨ht.1,by omega⟩,?_⟩
      intro e
      rw [e,hc] at hct
      cases hct
  | false =>
    simp only [cond_false,jg,qbT,beq_iff_eq]
    cases (a.Ar==1)
    · cases ((a.Ar==2) || (a.Ar==3))
      · simp
      · simp only [cond_true,cond_false,jg,beq_iff_eq]
        constructor
        · rintro ⟨⟨h1,h2,h3,h4⟩,h5,h6⟩
          exact ⟨⟨h4,by omega⟩,h5,h3,h6,h1,h2⟩
        · rintro ⟨⟨h4,h7⟩,h5,h3,h6,h1,h2⟩
          exact ⟨⟨h1,h2,h3,h4⟩,h5,h6⟩
    · simp only [cond_true,jg,qbT,jO,beq_iff_eq]
      constructor
      · rintro ⟨⟨h1,h2,h3,h4⟩,h5,h6⟩
        exact ⟨⟨h4,by omega⟩,h5,h3,h6,h1,h2⟩
      · rintro ⟨⟨h4,h7⟩,h5,h3,h6,h1,h2⟩
        exact ⟨⟨h1,h2,h3,h4⟩,h5,h6⟩
theorem qn3 {ps:List qak} {a:qav} (h:arcS ps a=true):1≤a.Ar∧a.Ar≤5:=by
  unfold arcS at h
  rw [jg] at h
  have h:=h.2
  cases h1:(a.Ar==1)
  · cases h2:((a.Ar==2) || (a.Ar==3))
    · cases h4:((a.Ar==4) || (a.Ar==5))
      · rw [h1,h2,h4] at h;cases h
      · simp at h4;omega
    · simp at h2;omega
  · simp at h1;omega
def sameArc (x y:qav):Bool:=(x.Ar==y.Ar)&&((x.As==y.As)&&(x.To==y.To))
def newArc (ar:List qav) (j:Nat):Bool:=allN (fun i=>!sameArc (gt ar i) (gt ar j)) j
theorem qqs {c:qt} (h:okL qjF c.Ap) (ha:okL qjM c.Aq) (hm:2≤c.Ap.length):Ev (fun n=>qfP n c) (allN (fun j=>arcI c.Ap (gt c.Aq j)&&newArc c.Aq j) c.Aq.length&&decide (c.Aq.length≤8)):=by
  have hl:=ha.len
  have h1:∀ (ar:List qav) (y:qav),ar.length≤1048576→Ev (fun n=>qau n ar y) (ar.any fun x=>sameArc x y):=by
    intro ar y hl
    unfold qau
    refine Ev.bind (b:=ixL (fun x=>sameArc x y) ar) (qdA (fin:=(ar.length:Int)) (Lf:=qN ar y) (pf:=fun n x=>qeU n x y) (fun x _=>?_)
      (fun n=>by simp only [qN,qj (jf _),cond_false])
      (fun n j x hx=>by
        have hj:=(List.getElem?_eq_some_iff.1 hx).1
        simp only [qN,qi hj,cond_true,qfY hx,je,wS j])
      (fun n=>by unfold qa0;congr 1;funext o;cases o<;>rfl)) (Ev.now (by rw [qh4]))
    unfold qeU sameArc
    exact Ev.andP fun _=>Ev.andP fun _=>.done
  have hL:Ev (fun n=>qce c n 0) (bif allN (fun j=>arcI c.Ap (gt c.Aq j)&&newArc c.Aq j) c.Aq.length then .nxt (c.Aq.length:Int) else .ret false):=by
    refine qee ?_ (fun j hj X hX=>Ev.succ ?_)
    · exact Ev.succ (by simp only [qce,qj (jf _),cond_false];exact .done)
    · simp only [qce,qi hj,cond_true,qaa hj,je,qq8 (Nat.le_of_lt hj),wS j]
      refine Ev.chk (qsl h (qhm ha hj) hm) fun _=>Ev.chkT1 ?_ (fun _=>hX)
      refine (h1 _ _ (by simp;omega)).cast ?_
      rw [qrG (Nat.le_of_lt hj)];rfl
  unfold qfP
  refine Ev.bind hL ?_
  cases allN (fun j=>arcI c.Ap (gt c.Aq j)&&newArc c.Aq j) c.Aq.length
  · exact .done
  · refine Ev.now ?_
    show some (decide ((c.Aq.length:Int)≤((8:Nat):Int)))=some (true&&decide (c.Aq.length≤8))
    rw [qjC,jJ]
def hasB (ar:List qav) (k:Int):Bool:=ar.any fun a=>a.Ar==k
theorem qma {c:qt} {k:Int} (hl:c.Aq.length≤1048576):Ev (fun n=>qcZ n c k) (hasB c.Aq k):=by
  unfold qcZ qa4
  exact Ev.last (Ev.bind (b:=ixL (fun x=>x.Ar==k) c.Aq) (qdA (fin:=(c.Aq.length:Int)) (Lf:=qT c.Aq k) (pf:=fun n x=>qh3 n x k) (fun x _=>.done)
      (fun n=>by simp only [qT,qj (jf _),cond_false])
      (fun n j x hx=>by
        have hj:=(List.getElem?_eq_some_iff.1 hx).1
        simp only [qT,qi hj,cond_true,qfY hx,je,wS j])
      (fun n=>by unfold qbk;congr 1;funext o;cases o<;>rfl)) (Ev.now (by rw [qh4];rfl)))
def kindN (ar:List qav) (k:Nat) (j:Nat):Nat:=cntP (fun i=>(gt ar i).Ar==(k:Int)) j
theorem qnT {ar:List qav} {k:Nat}:decide (((kindN ar k ar.length:Nat):Int) > 0)=hasB ar k:=by
  rw [show decide (((kindN ar k ar.length:Nat):Int) > 0)=decide (0<kindN ar k ar.length) by simp]
  unfold kindN hasB
  rw [qpk,qsq]
theorem qqm {ar:List qav} {k:Nat}:(((kindN ar k ar.length:Nat):Int)==0) = !hasB ar k:=by
  rw [←qnT,jm];simp
theorem qpG {c:qt} (ha:okL qjM c.Aq) (hk:∀ j,j<c.Aq.length→1≤(gt c.Aq j).Ar∧(gt c.Aq j).Ar≤5):Ev (fun n=>qhB n c) (vecC (fun k=>kindN c.Aq k c.Aq.length) 6):=by
  have hl:=ha.len
  have hL:Ev (fun n=>qcP c n (vecC (fun _=>0) 6) 0) (vecC (fun k=>kindN c.Aq k c.Aq.length) 6,(c.Aq.length:Int)):=by
    refine loopF (Lf:=qcP c) (S:=fun j=>vecC (fun k=>kindN c.Aq k j) 6) (len:=c.Aq.length) (fun n=>?_) (fun j hj X hX=>?_)
    · simp only [qcP,qj (jf _),cond_false]
    · obtain ⟨k1,k5⟩:=hk j hj
      have ek:(gt c.Aq j).Ar=(((gt c.Aq j).Ar.toNat:Nat):Int):=qlf (by omega)
      have hc:kindN c.Aq (gt c.Aq j).Ar.toNat j≤j:=qeG
      simp only [qcP,qi hj,cond_true,qaa hj,je,wS j]
      rw [ek,qiD (show (gt c.Aq j).Ar.toNat<6 by omega)]
      simp only [je]
      rw [qog (c:=fun k=>kindN c.Aq k j) (by show kindN c.Aq _ j<_;omega)]
      have:vecC (fun i=>kindN c.Aq i j+(bif decide ((gt c.Aq j).Ar.toNat=i) then 1 else 0)) 6=vecC (fun k=>kindN c.Aq k (j+1)) 6:=by
        refine qiy (fun k _=>?_)
        show _=kindN c.Aq k j+(bif (gt c.Aq j).Ar==(k:Int) then 1 else 0)
        congr 2
        rw [jm];simp;omega
      rw [this]
      exact hX
  unfold qhB
  rw [show mkS 6 (0:Int)=some (vecC (fun _=>0) 6) from qkT (m:=6) (by omega)]
  simp only [je]
  exact Ev.bind hL .done
def kindB (c:qt):Bool :=
  bif c.Ar==1 then (((clkN c.Ap c.Ap.length:Nat):Int)==0)&&(((c.Ba.length:Int)==((2 ^ (c.Ap.length-1):Nat):Int))&&(c.Ba.all fun x=>inI x 0 1))
  else bif c.Ar==2 then (((clkN c.Ap c.Ap.length:Nat):Int)==1)&&(((c.Ba.length:Int)==0)&&(!hasB c.Aq 1&&!(hasB c.Aq 2==hasB c.Aq 3)))
  else bif c.Ar==3 then (((clkN c.Ap c.Ap.length:Nat):Int)==1)&&(((c.Ba.length:Int)==0)&&(hasB c.Aq 1&&(hasB c.Aq 2&&!hasB c.Aq 3)))
  else false
theorem qom {c:qt} (h:kindB c=true):clkN c.Ap c.Ap.length≤1:=by
  unfold kindB at h
  cases h1:(c.Ar==1)
  · cases h2:(c.Ar==2)
    · cases h3:(c.Ar==3)
      · rw [h1,h2,h3] at h;cases h
      · rw [h1,h2,h3] at h
        simp only [cond_true,cond_false,jg,beq_iff_eq] at h
        omega
    · rw [h1,h2] at h
      simp only [cond_true,cond_false,jg,beq_iff_eq] at h
      omega
  · rw [h1] at h
    simp only [cond_true,jg,beq_iff_eq] at h
    omega
theorem qpL {m:Nat} (h1:2≤m) (h2:m≤5):shlS 1 (W64 ((m:Int)-1))=some ((2 ^ (m-1):Nat):Int)∧shlS 1 (IntKind.wrap .u64 (W64 ((m:Int)-1)))=some ((2 ^ (m-1):Nat):Int):=by
  have:m=2∨m=3∨m=4∨m=5:=by omega
  rcases this with rfl|rfl|rfl|rfl<;>exact ⟨by decide,by decide⟩
theorem qpy {c:qt} (hc:qkU c) (hm:2≤c.Ap.length) (hm5:c.Ap.length≤5):Ev (fun n=>qfs n c) (kindB c):=by
  have hl:=hc.Ap.len
  have hL:Ev (fun n=>qa1 c n 0 0) (((clkN c.Ap c.Ap.length:Nat):Int),(c.Ap.length:Int)):=by
    refine loopF (Lf:=qa1 c) (S:=fun j=>((clkN c.Ap j:Nat):Int)) (len:=c.Ap.length) (fun n=>?_) (fun j hj X hX=>?_)
    · simp only [qa1,qj (jf _),cond_false]
    · have hn:clkN c.Ap j≤j:=qeG
      simp only [qa1,qi hj,cond_true,qaa hj,je,wS j,qix (show clkN c.Ap j<9223372036854775807 by omega)]
      have hck:clkN c.Ap (j+1)=clkN c.Ap j+(bif (gt c.Ap j).Bb then 1 else 0):=rfl
      rw [hck] at hX
      cases hc:(gt c.Ap j).Bb
      · rw [hc] at hX;exact Ev.ff rfl hX
      · rw [hc] at hX;exact Ev.tt rfl hX
  unfold qfs kindB
  refine Ev.bind hL ?_
  simp only [qb8,qbF,je,(qpL hm hm5).1]
  have hal:=hc.Aq.len
  refine Ev.iff (fun _=>?_) (fun _=>Ev.iff (fun _=>?_) (fun _=>Ev.iff (fun _=>?_) (fun _=>.done)))
  · exact Ev.andP fun _=>Ev.andP fun _=>Ev.last (qeD hc.Ba.len)
  · exact Ev.andP fun _=>Ev.andP fun _=>Ev.bind (qma hal) (Ev.andP fun _=>Ev.bind (qma hal) (Ev.bind (qma hal) .done))
  · exact Ev.andP fun _=>Ev.andP fun _=>Ev.and (qma hal) fun _=>Ev.and (qma hal) fun _=>Ev.bind (qma hal) .done
def cellB (c:qt):Bool :=
  nameB c.Au&&(pinsB c.Ap&&((allN (fun j=>arcI c.Ap (gt c.Aq j)&&newArc c.Aq j) c.Aq.length&&decide (c.Aq.length≤8))&&(inI c.Br 0 100000&&(inI c.Bk 0 100000&&kindB c))))
theorem qqW {c:qt} (hc:qkU c):Ev (fun n=>qiP n c) (cellB c):=by
  simp only [qiP,qn2 hc.Au,qcN,je]
  unfold cellB
  refine Ev.andP fun _=>Ev.and (qpQ hc.Ap) fun hp=>?_
  obtain ⟨⟨hm,hm5⟩,_⟩:=qiA hp
  exact Ev.and (qqs hc.Ap hc.Aq hm) fun _=>Ev.andP fun _=>Ev.andP fun _=>Ev.last (qpy hc hm hm5)
theorem qqf {c:qt} (hc:qkU c):Ev (fun n=>qiX n c) (cellB c):=by
  have hal:=hc.Aq.len
  have htl:=hc.Ba.len
  have e:cellB c=((pinsB c.Ap&&(nameB c.Au&&(decide (c.Aq.length≤8)&&(inI c.Br 0 100000&&inI c.Bk 0 100000))))&&(allN (fun j=>arcS c.Ap (gt c.Aq j)&&newArc c.Aq j) c.Aq.length&&kindB c)):=by
    unfold cellB
    cases hk:kindB c
    · simp
    · cases hp:pinsB c.Ap
      · simp
      · rw [qgP (fun j _=>by rw [qrR hp (qom hk)])]
        cases nameB c.Au<;>cases allN (fun j=>arcS c.Ap (gt c.Aq j)&&newArc c.Aq j) c.Aq.length<;>cases decide (c.Aq.length≤8)<;>cases inI c.Br 0 100000<;>cases inI c.Bk 0 100000<;>rfl
  rw [e]
  unfold qiX
  refine Ev.bind (qpR hc.Ap) ?_
  cases hp:pinsB c.Ap
  · exact .done
  · obtain ⟨⟨hm,hm5⟩,_⟩:=qiA hp
    simp only [cond_true,jJ,Jk,cond_false]
    refine Ev.guardB ?_ (fun _=>?_)
    · simp only [qdE,je,qaQ]
      refine Ev.orB (qlg hc.Au) fun _=>?_
      rw [show decide ((c.Aq.length:Int) > 8) = !decide (c.Aq.length≤8) by rw [jm];simp;omega,qaQ]
      exact Ev.orBP fun _=>Ev.orBP fun _=>.done
    · have hL2:∀ j,j<c.Aq.length→Ev (fun n=>qc6 c (j:Int) (gt c.Aq j) n 0) (bif newArc c.Aq j then .nxt (j:Int) else .ret false):=by
        intro j hj
        refine qee ?_ (fun i hi X hX=>Ev.succ ?_)
        · exact Ev.succ (by simp only [qc6,qj (jf _),cond_false];exact .done)
        · simp only [qc6,qi hi,cond_true,qaa (show i<c.Aq.length by omega),je,wS i]
          unfold sameArc
          cases ((gt c.Aq i).Ar==(gt c.Aq j).Ar)
          · exact hX
          · cases ((gt c.Aq i).As==(gt c.Aq j).As)
            · exact hX
            · cases ((gt c.Aq i).To==(gt c.Aq j).To)
              · exact hX
              · exact .done
      have hL1:Ev (fun n=>qe6 c n 0) (bif allN (fun j=>arcS c.Ap (gt c.Aq j)&&newArc c.Aq j) c.Aq.length then .nxt (c.Aq.length:Int) else .ret false):=by
        refine qee ?_ (fun j hj X hX=>Ev.succ ?_)
        · exact Ev.succ (by simp only [qe6,qj (jf _),cond_false];exact .done)
        · simp only [qe6,qi hj,cond_true,qaa hj,je,wS j]
          refine Ev.chk (qrq hc.Ap (qhm hc.Aq hj) hm) fun _=>Ev.bind (hL2 j hj) ?_
          cases newArc c.Aq j
          · exact .done
          · exact hX
      have hL3:Ev (fun n=>qeY c n 0) (bif (c.Ba.all fun x=>inI x 0 1) then .nxt (c.Ba.length:Int) else .ret false) :=
        qjh (fun n=>by simp only [qeY,qj (jf _),cond_false]) (fun j hj X hX=>by
          simp only [qeY,qi hj,cond_true,qZ hj,je,qdE,wS j,qaQ]
          exact Ev.okP1 fun _=>hX)
      refine Ev.bind hL1 ?_
      cases hA:allN (fun j=>arcS c.Ap (gt c.Aq j)&&newArc c.Aq j) c.Aq.length
      · exact .done
      · have hk:∀ j,j<c.Aq.length→1≤(gt c.Aq j).Ar∧(gt c.Aq j).Ar≤5:=fun j hj=>by
          have:=qay.1 hA j hj
          rw [jg] at this
          exact qn3 this.1
        simp only [cond_true,jJ]
        refine Ev.bind (qpG hc.Aq hk) ?_
        simp only [(qpL hm hm5).2,je,
          show idx (vecC (fun k=>kindN c.Aq k c.Aq.length) 6) (1:Int)=some ((kindN c.Aq 1 c.Aq.length:Nat):Int) from qiD (k:=1) (by omega),
          show idx (vecC (fun k=>kindN c.Aq k c.Aq.length) 6) (2:Int)=some ((kindN c.Aq 2 c.Aq.length:Nat):Int) from qiD (k:=2) (by omega),
          show idx (vecC (fun k=>kindN c.Aq k c.Aq.length) 6) (3:Int)=some ((kindN c.Aq 3 c.Aq.length:Nat):Int) from qiD (k:=3) (by omega),qnT,qqm]
        unfold kindB
        refine Ev.iff (fun _=>?_) (fun _=>Ev.iff (fun _=>?_) (fun _=>Ev.iff (fun _=>?_) (fun _=>.done)))
        · refine Ev.bind hL3 ?_
          cases (c.Ba.all fun x=>inI x 0 1)
          · exact Ev.now (by simp)
          · exact (Ev.andP (fun _=>.done)).cast (by rw [Bool.and_true])
        · refine (Ev.andP fun _=>Ev.andP fun _=>Ev.andP fun _=>.done).cast ?_
          cases (((clkN c.Ap c.Ap.length:Nat):Int)==1)<;>cases ((c.Ba.length:Int)==0)<;>cases hasB c.Aq ((1:Nat):Int)<;>cases hasB c.Aq ((2:Nat):Int)<;>cases hasB c.Aq ((3:Nat):Int)<;>rfl
        · refine (Ev.andP fun _=>Ev.andP fun _=>Ev.andP fun _=>Ev.andP fun _=>.done).cast ?_
          cases (((clkN c.Ap c.Ap.length:Nat):Int)==1)<;>cases ((c.Ba.length:Int)==0)<;>cases hasB c.Aq ((1:Nat):Int)<;>cases hasB c.Aq ((2:Nat):Int)<;>cases hasB c.Aq ((3:Nat):Int)<;>rfl
def libB (l:qq):Bool:=l.Aj.all cellB&&(decide (l.Aj.length≤8)&&namesB (l.Aj.map qt.Au))
theorem qoI {l:qq} (h:qf4 l):Ev (fun n=>qhi n l) (libB l):=by
  have hl:=h.Aj.len
  have hL:Ev (fun n=>qcp l n ([]:List ByteArray) 0) (bif allN (fun j=>cellB (gt l.Aj j)) l.Aj.length then .nxt (l.Aj.map qt.Au,(l.Aj.length:Int)) else .ret false):=by
    refine loopN (Lf:=qcp l) (S:=fun j=>(l.Aj.take j).map qt.Au) (fun j=>cellB (gt l.Aj j)) (fun n=>?_) (fun j hj hp X hX=>?_)
    · simp only [qcp,qj (jf _),cond_false,jB]
    · simp only [qcp,qi hj,cond_true,qaa hj,je,qjq hj hl,qfu (g:=qt.Au) hj,wS j]
      exact Ev.chk1 (qqW (qhm h.Aj hj)) hX
  unfold qhi libB
  rw [qhr]
  refine Ev.bind hL ?_
  cases allN (fun j=>cellB (gt l.Aj j)) l.Aj.length
  · exact .done
  · simp only [cond_true,jJ,show decide ((l.Aj.length:Int)≤8)=decide (l.Aj.length≤8) from qjC (k:=8)]
    exact Ev.andP fun _=>Ev.last (qhW (qkI h.Aj (fun x hx=>hx.Au)))
end Go.Fw


namespace Go.Fw
open Go
set_option maxRecDepth 100000
theorem qqj {c:qt} (h:cellB c=true):nameB c.Au=true:=by
 unfold cellB at h;rw [jg] at h;exact h.1
theorem qmW {c:qt} (h:cellB c=true):pinsB c.Ap=true:=by
 unfold cellB at h;simp only [jg] at h;exact h.2.1
theorem qnM {l:qq} (h:qf4 l):Ev (fun n=>qgZ n l) (libB l):=by
 have hl:=h.Aj.len
 have hL2:∀ j,j<l.Aj.length→Ev (fun n=>qdk l (j:Int) n 0) (bif allN (neB (l.Aj.map qt.Au) j) j then .nxt (j:Int) else .ret false):=by
  intro j hj
  refine qee ?_ (fun i hi X hX=>Ev.succ ?_)
  ·exact Ev.succ (by simp only [qdk,qj (jf _),cond_false];exact .done)
  ·simp only [qdk,qi hi,cond_true,qaa (show i<l.Aj.length by omega),qaa hj,je,qgw,wS i]
   unfold neB
   rw [qiu (g:=qt.Au) (show i<l.Aj.length by omega),qiu (g:=qt.Au) hj]
   exact Ev.chkP1 (fun _=>hX)
 have hL1:Ev (fun n=>qdh l n 0) (bif allN (fun j=>cellB (gt l.Aj j)&&allN (neB (l.Aj.map qt.Au) j) j) l.Aj.length then .nxt (l.Aj.length:Int) else .ret false):=by
  refine qee ?_ (fun j hj X hX=>Ev.succ ?_)
  ·exact Ev.succ (by simp only [qdh,qj (jf _),cond_false];exact .done)
  ·simp only [qdh,qi hj,cond_true,qaa hj,je,wS j]
   refine Ev.chk (qqf (qhm h.Aj hj)) fun _=>Ev.bind (hL2 j hj) ?_
   cases allN (neB (l.Aj.map qt.Au) j) j
   ·exact .done
   ·exact hX
 have e:libB l=(allN (fun j=>cellB (gt l.Aj j)&&allN (neB (l.Aj.map qt.Au) j) j) l.Aj.length&&decide (l.Aj.length≤8)):=by
  unfold libB namesB
  rw [qhr,jH,Bool.and_comm (decide (l.Aj.length≤8)),←Ji,←qiw]
  congr 1
  refine qgP (fun j hj=>?_)
  rw [qiu (g:=qt.Au) hj]
  cases hc:cellB (gt l.Aj j)
  ·rfl
  ·rw [qqj hc];rfl
 rw [e]
 unfold qgZ
 refine Ev.bind hL1 ?_
 cases allN (fun j=>cellB (gt l.Aj j)&&allN (neB (l.Aj.map qt.Au) j) j) l.Aj.length
 ·exact .done
 ·refine Ev.now ?_
  show some (decide ((l.Aj.length:Int)≤((8:Nat):Int)))=some (true&&decide (l.Aj.length≤8))
  rw [qjC,jJ]
theorem qji {c c':Nat→Nat} {m:Nat} {x:Int} (h0:0≤x) (h1:x<m) (hc:c x.toNat<9223372036854775807) (he:∀ k,k<m→c' k=c k+(bif x==(k:Int) then 1 else 0)) :
  idx (vecC c m) x=some (c x.toNat:Int)∧setS (vecC c m) x (W64 ((c x.toNat:Int)+1))=vecC c' m:=by
 have ex:x=(x.toNat:Int):=qlf h0
 have e1:=qiD (c:=c) (m:=m) (k:=x.toNat) (by omega)
 have e2:=qog (c:=c) (m:=m) (k:=x.toNat) hc
 rw [←ex] at e1 e2
 refine ⟨e1,e2.trans (qiy (fun k hk=>?_))⟩
 rw [he k hk]
 congr 2
 rw [jm];simp;omega
def netB (d:qg) (x:Int):Bool:=inI x 0 ((d.Ai.length:Int)-1)
theorem qpx {n:Nat} {d:qg} {x:Int} (hl:d.Ai.length≤1048576):qdi n d x=some (netB d x):=by
 simp only [qdi,qgM,je,qcN,qbc (show d.Ai.length≤9223372036854775807 by omega)];rfl
theorem qoc {n:Nat} {d:qg} {x:Int} (hl:d.Ai.length≤1048576):qao n x 0 (W64 ((d.Ai.length:Int)-1))=some (netB d x):=by
 rw [qdE,qbc (show d.Ai.length≤9223372036854775807 by omega)];rfl
def hasNamesB (d:qg):Bool:=(decide (d.Ab.length≤14)&&(decide (d.Ai.length≤30)&&decide (d.Ac.length≤8)))&&(namesB (d.Ab.map qz.Au)&&(namesB d.Ai&&namesB (d.Ac.map qam.Au)))
theorem qo3 {d:qg} (h:qis d):Ev (fun n=>qez n d) (hasNamesB d):=by
 have hli:=h.Ab.len
 have hlp:=h.Ac.len
 have hL1:Ev (fun n=>qa6 d n ([]:List ByteArray) 0) (d.Ab.map qz.Au,(d.Ab.length:Int)):=by
  refine loopF (Lf:=qa6 d) (S:=fun j=>(d.Ab.take j).map qz.Au) (len:=d.Ab.length) (fun n=>?_) (fun j hj X hX=>?_)
  ·simp only [qa6,qj (jf _),cond_false,jB]
  ·simpa only [qa6,qi hj,cond_true,qaa hj,je,qjq hj hli,qfu (g:=qz.Au) hj,wS j] using hX
 have hL2:Ev (fun n=>qa7 d n ([]:List ByteArray) 0) (d.Ac.map qam.Au,(d.Ac.length:Int)):=by
  refine loopF (Lf:=qa7 d) (S:=fun j=>(d.Ac.take j).map qam.Au) (len:=d.Ac.length) (fun n=>?_) (fun j hj X hX=>?_)
  ·simp only [qa7,qj (jf _),cond_false,jB]
  ·simpa only [qa7,qi hj,cond_true,qaa hj,je,qjq hj hlp,qfu (g:=qam.Au) hj,wS j] using hX
 unfold qez hasNamesB
 refine Ev.bind hL1 (Ev.bind hL2 ?_)
 simp only [jH]
 rw [show decide ((d.Ab.length:Int)≤14)=decide (d.Ab.length≤14) from qjC (k:=14),show decide ((d.Ai.length:Int)≤30)=decide (d.Ai.length≤30) from qjC (k:=30),show decide ((d.Ac.length:Int)≤8)=decide (d.Ac.length≤8) from qjC (k:=8)]
 rw [Ji,Ji]
 exact Ev.andP fun _=>Ev.andP fun _=>Ev.andP fun _=>Ev.and (qhW (qkI h.Ab (fun x hx=>hx.Au))) fun _=>Ev.and (qhW h.Ai) fun _=>Ev.last (qhW (qkI h.Ac (fun x hx=>hx.Au)))
def instB (l:qq) (d:qg) (x:qz):Bool:=inI x.Az 0 ((l.Aj.length:Int)-1)&&(((x.Ai.length:Int)==((gt l.Aj x.Az.toNat).Ap.length:Int))&&x.Ai.all (netB d))
theorem qnF {d:qg} {l:qq} {x:qz} (hn:d.Ai.length≤1048576) (hc:l.Aj.length≤1048576) (hx:x.Ai.length≤1048576):Ev (fun n=>qdH n d l x) (instB l d x):=by
 simp only [qdH,qfF,je,qcN,qbc (show l.Aj.length≤9223372036854775807 by omega)]
 unfold instB
 refine Ev.andP fun hI=>?_
 rw [qbT] at hI
 rw [qfX hI.1 (by omega)]
 simp only [je]
 refine Ev.andP fun _=>Ev.bind (b:=x.Ai.any fun y=>!netB d y) ?_ (Ev.now (by rw [qlI]))
 unfold qaM
 exact Ev.bind (b:=ixL (fun y=>!netB d y) x.Ai) (qdA (fin:=(x.Ai.length:Int)) (Lf:=qK x.Ai d) (pf:=fun n y=>qc0 n y d) (fun y _=>⟨0,fun n _=>by simp only [qc0,qpx hn,je]⟩)
   (fun n=>by simp only [qK,qj (jf _),cond_false])
   (fun n j y hx=>by
    have hj:=(List.getElem?_eq_some_iff.1 hx).1
    simp only [qK,qi hj,cond_true,qfY hx,je,wS j])
   (fun n=>by unfold qaT;congr 1;funext o;cases o<;>rfl)) (Ev.now (by rw [qh4]))
def portB (d:qg) (p:qam):Bool:=inI p.Bl 1 2&&netB d p.Bo
theorem qtM {x:Int}:inI x 1 2=((x==1) || (x==2)):=by
 unfold inI;rw [jm];simp;omega
def lastN (x:qz):Int:=at0 x.Ai (x.Ai.length-1)
theorem qpB {x:qz} (h1:1≤x.Ai.length) (h2:x.Ai.length≤1048576):idx x.Ai (W64 ((x.Ai.length:Int)-1))=some (lastN x):=by
 rw [qbc (by omega),show ((x.Ai.length:Int)-1)=((x.Ai.length-1:Nat):Int) by omega,qaN (by omega)];rfl
theorem qrb {d:qg} {x:qz} (h1:1≤x.Ai.length) (h:x.Ai.all (netB d)=true):0≤lastN x∧lastN x<d.Ai.length:=by
 rw [qgx (d:=0),qay] at h
 have:=h (x.Ai.length-1) (by omega)
 unfold netB at this
 rw [qbT] at this
 unfold lastN at0
 omega
theorem qnA {l:qq} {d:qg} {x:qz} (hl:libB l=true) (h:instB l d x=true):1≤x.Ai.length∧0≤lastN x∧lastN x<d.Ai.length:=by
 unfold instB at h
 simp only [jg,qbT,beq_iff_eq] at h
 obtain ⟨h1,h2,h3⟩:=h
 unfold libB at hl
 simp only [jg] at hl
 have hc:=hl.1
 rw [qhr,qay] at hc
 have:=qiA (qmW (hc x.Az.toNat (by omega)))
 have h4:1≤x.Ai.length:=by omega
 exact ⟨h4,qrb h4 h3⟩
def drvI (d:qg) (k j:Nat):Nat:=cntP (fun i=>lastN (gt d.Ab i)==(k:Int)) j
def drvP (d:qg) (k j:Nat):Nat:=cntP (fun i=>((gt d.Ac i).Bl==1)&&((gt d.Ac i).Bo==(k:Int))) j
def drvB (d:qg):Bool:=allN (fun k=>((drvI d k d.Ab.length+drvP d k d.Ac.length:Nat):Int)==1) d.Ai.length
def designB (l:qq) (d:qg):Bool:=(libB l&&hasNamesB d)&&(d.Ab.all (instB l d)&&(d.Ac.all (portB d)&&drvB d))
theorem qmf {d:qg} {k j:Nat}:drvI d k (j+1)=drvI d k j+(bif lastN (gt d.Ab j)==(k:Int) then 1 else 0):=rfl
theorem qkJ {d:qg} {k j:Nat}:drvP d k (j+1)=drvP d k j+(bif ((gt d.Ac j).Bl==1)&&((gt d.Ac j).Bo==(k:Int)) then 1 else 0):=rfl
theorem qoX {l:qq} {d:qg} (h:qf4 l) (hd:qis d):Ev (fun n=>qhH n l d) (designB l d):=by
 have hli:=hd.Ab.len
 have hlp:=hd.Ac.len
 have hln:=hd.Ai.len
 have hlc:=h.Aj.len
 unfold qhH designB
 refine Ev.guardB (Ev.or (qoI h) fun _=>Ev.neg (qo3 hd)) fun hb=>?_
 rw [jg] at hb
 rw [qkT (m:=d.Ai.length) (by omega)]
 simp only [je]
 have hL1:Ev (fun n=>qcO l d n (vecC (fun _=>0) d.Ai.length) 0) (bif allN (fun j=>instB l d (gt d.Ab j)) d.Ab.length then .nxt (vecC (fun k=>drvI d k d.Ab.length) d.Ai.length,(d.Ab.length:Int)) else .ret false):=by
  refine loopN (Lf:=qcO l d) (S:=fun j=>vecC (fun k=>drvI d k j) d.Ai.length) (fun j=>instB l d (gt d.Ab j)) (fun n=>?_) (fun j hj hp X hX=>?_)
  ·simp only [qcO,qj (jf _),cond_false]
  ·simp only [qcO,qi hj,cond_true,qaa hj,je,wS j]
   have hxl:=(qhm hd.Ab hj).Ai.len
   refine Ev.chk1 (qnF hln hlc hxl) fun hi=>?_
   obtain ⟨h1,h2,h3⟩:=qnA hb.1 hi
   have hc:drvI d (lastN (gt d.Ab j)).toNat j≤j:=qeG
   obtain ⟨e1,e2⟩:=qji (c:=fun k=>drvI d k j) (c':=fun k=>drvI d k (j+1)) h2 h3 (by show drvI _ _ _<_;omega) (fun k _=>qmf)
   simp only [qpB h1 hxl,je,e1,e2]
   exact hX hi
 have hL2:Ev (fun n=>qcc d n (vecC (fun k=>drvI d k d.Ab.length) d.Ai.length) 0) (bif allN (fun j=>portB d (gt d.Ac j)) d.Ac.length then .nxt (vecC (fun k=>drvI d k d.Ab.length+drvP d k d.Ac.length) d.Ai.length,(d.Ac.length:Int)) else .ret false):=by
  refine loopN (Lf:=qcc d) (S:=fun j=>vecC (fun k=>drvI d k d.Ab.length+drvP d k j) d.Ai.length) (fun j=>portB d (gt d.Ac j)) (fun n=>?_) (fun j hj hp X hX=>?_)
  ·simp only [qcc,qj (jf _),cond_false]
  ·simp only [qcc,qi hj,cond_true,qaa hj,je,qpx hln,bne,wS j]
   refine Ev.chkT1 ?_ fun hi=>?_
   ·unfold portB
    rw [qtM]
    cases ((gt d.Ac j).Bl==1)<;>cases ((gt d.Ac j).Bl==2)<;>exact .done
   ·have hX:=hX hi
    unfold portB netB at hi
    simp only [jg,qbT] at hi
    have hc1:drvI d (gt d.Ac j).Bo.toNat d.Ab.length≤d.Ab.length:=qeG
    have hc2:drvP d (gt d.Ac j).Bo.toNat j≤j:=qeG
    cases h1:((gt d.Ac j).Bl==1)
    ·have:vecC (fun k=>drvI d k d.Ab.length+drvP d k (j+1)) d.Ai.length=vecC (fun k=>drvI d k d.Ab.length+drvP d k j) d.Ai.length:=by
      refine qiy (fun k _=>?_)
      rw [qkJ,h1];rfl
     rw [this] at hX
     exact hX
    ·obtain ⟨e1,e2⟩:=qji (c:=fun k=>drvI d k d.Ab.length+drvP d k j) (c':=fun k=>drvI d k d.Ab.length+drvP d k (j+1)) (x:=(gt d.Ac j).Bo) (m:=d.Ai.length) hi.2.1 (by omega) (by show drvI _ _ _+drvP _ _ _<_;omega) (fun k _=>by rw [qkJ,h1,jJ];omega)
     simp only [cond_true,je,e1,e2]
     exact hX
 rw [qhr,qhr]
 refine Ev.bind hL1 ?_
 cases allN (fun j=>instB l d (gt d.Ab j)) d.Ab.length
 ·exact .done
 ·refine Ev.bind hL2 ?_
  cases allN (fun j=>portB d (gt d.Ac j)) d.Ac.length
  ·exact .done
  ·simp only [cond_true,jJ]
   unfold qby
   refine Ev.bind (b:=(vecC (fun k=>drvI d k d.Ab.length+drvP d k d.Ac.length) d.Ai.length).any fun x=>!(x==1)) (Ev.bind (b:=ixL (fun x=>!(x==1)) (vecC (fun k=>drvI d k d.Ab.length+drvP d k d.Ac.length) d.Ai.length)) (qdA (fin:=(((vecC (fun k=>drvI d k d.Ab.length+drvP d k d.Ac.length) d.Ai.length).length:Nat):Int)) (Lf:=qag (vecC (fun k=>drvI d k d.Ab.length+drvP d k d.Ac.length) d.Ai.length)) (pf:=fun n y=>qh6 n y) (fun y _=>.done)
    (fun n=>by simp only [qag,qj (jf _),cond_false])
    (fun n j y hx=>by
     have hj:=(List.getElem?_eq_some_iff.1 hx).1
     have:j<d.Ai.length:=by rw [qkw] at hj;exact hj
     simp only [qag,qi hj,cond_true,qfY hx,je,wS j])
    (fun n=>by unfold qbP;congr 1;funext o;cases o<;>rfl)) (Ev.now (by rw [qh4]))) (Ev.now ?_)
   rw [qlI,qgx (d:=0),qkw]
   unfold drvB
   congr 1
   exact qgP (fun k hk=>by
    have:=qpa (c:=fun k=>drvI d k d.Ab.length+drvP d k d.Ac.length) hk
    unfold at0 at this
    rw [this])
theorem qpq {l:qq} {d:qg} (h:qf4 l) (hd:qis d):Ev (fun n=>qhG n l d) (d.Ab.all (instB l d)&&d.Ac.all (portB d)):=by
 have hli:=hd.Ab.len
 have hlp:=hd.Ac.len
 have hln:=hd.Ai.len
 have hlc:=h.Aj.len
 have hL2:∀ x:qz,x.Ai.length≤1048576→Ev (fun n=>qd0 d x n 0) (bif x.Ai.all (netB d) then .nxt (x.Ai.length:Int) else .ret false):=fun x hx =>
  qjh (fun n=>by simp only [qd0,qj (jf _),cond_false]) (fun j hj X hX=>by
   simp only [qd0,qi hj,cond_true,qZ hj,je,qoc hln,wS j,qaQ]
   exact Ev.okP1 fun _=>hX)
 have hL1:Ev (fun n=>qdP l d n 0) (bif allN (fun j=>instB l d (gt d.Ab j)) d.Ab.length then .nxt (d.Ab.length:Int) else .ret false):=by
  refine qee ?_ (fun j hj X hX=>Ev.succ ?_)
  ·exact Ev.succ (by simp only [qdP,qj (jf _),cond_false];exact .done)
  ·simp only [qdP,qi hj,cond_true,qaa hj,je,qdE,qbc (show l.Aj.length≤9223372036854775807 by omega),wS j,bne]
   have hxl:=(qhm hd.Ab hj).Ai.len
   unfold instB
   rw [←Ji]
   refine Ev.chkT ?_ fun _=>Ev.bind (hL2 _ hxl) ?_
   ·simp only [qaQ]
    refine Ev.orBP fun hI=>?_
    rw [qbT] at hI
    rw [qfX hI.1 (by omega)]
    exact .done
   ·cases (gt d.Ab j).Ai.all (netB d)
    ·exact .done
    ·exact hX
 have hL3:Ev (fun n=>qdW d n 0) (bif allN (fun j=>portB d (gt d.Ac j)) d.Ac.length then .nxt (d.Ac.length:Int) else .ret false):=by
  refine qee ?_ (fun j hj X hX=>Ev.succ ?_)
  ·exact Ev.succ (by simp only [qdW,qj (jf _),cond_false];exact .done)
  ·simp only [qdW,qi hj,cond_true,qaa hj,je,qoc hln,wS j]
   simp only [qdE,je,qaQ]
   unfold portB
   exact Ev.okP fun _=>Ev.okP1 fun _=>hX
 unfold qhG
 rw [qhr,qhr]
 refine Ev.bind hL1 ?_
 cases allN (fun j=>instB l d (gt d.Ab j)) d.Ab.length
 ·exact .done
 ·refine Ev.bind hL3 ?_
  cases allN (fun j=>portB d (gt d.Ac j)) d.Ac.length<;>exact .done
theorem qlC {l:qq} {d:qg} (h:qf4 l) (hd:qis d):Ev (fun n=>qgA n l d) (designB l d):=by
 have hli:=hd.Ab.len
 have hlp:=hd.Ac.len
 have hln:=hd.Ai.len
 have hlc:=h.Aj.len
 have e:designB l d=((libB l&&(decide (d.Ab.length≤14)&&(decide (d.Ai.length≤30)&&(decide (d.Ac.length≤8)&&(d.Ab.all (instB l d)&&d.Ac.all (portB d))))))&&((namesB (d.Ab.map qz.Au)&&(namesB (d.Ac.map qam.Au)&&namesB d.Ai))&&drvB d)):=by
  unfold designB hasNamesB
  generalize libB l=a1
  generalize decide (d.Ab.length≤14)=a2
  generalize decide (d.Ai.length≤30)=a3
  generalize decide (d.Ac.length≤8)=a4
  generalize d.Ab.all (instB l d)=a5
  generalize d.Ac.all (portB d)=a6
  generalize namesB (d.Ab.map qz.Au)=a7
  generalize namesB (d.Ac.map qam.Au)=a8
  generalize namesB d.Ai=a9
  generalize drvB d=a10
  rw [jm]
  simp only [jg]
  constructor
  ·rintro ⟨⟨h1,⟨h2,h3,h4⟩,h7,h9,h8⟩,h5,h6,h10⟩
   exact ⟨⟨h1,h2,h3,h4,h5,h6⟩,⟨h7,h8,h9⟩,h10⟩
  ·rintro ⟨⟨h1,h2,h3,h4,h5,h6⟩,⟨h7,h8,h9⟩,h10⟩
   exact ⟨⟨h1,⟨h2,h3,h4⟩,h7,h9,h8⟩,h5,h6,h10⟩
 rw [e]
 unfold qgA
 refine Ev.guardB ?_ fun hb=>?_
 ·refine Ev.or (qnM h) fun _=>?_
  rw [show decide ((d.Ab.length:Int) > 14) = !decide (d.Ab.length≤14) by rw [jm];simp;omega,show decide ((d.Ai.length:Int) > 30) = !decide (d.Ai.length≤30) by rw [jm];simp;omega,show decide ((d.Ac.length:Int) > 8) = !decide (d.Ac.length≤8) by rw [jm];simp;omega]
  simp only [qaQ]
  exact Ev.orBP fun _=>Ev.orBP fun _=>Ev.orBP fun _=>Ev.neg (qpq h hd)
 ·simp only [jg] at hb
  obtain ⟨hlib,_,_,_,hI,hP⟩:=hb
  rw [qhr,qay] at hI hP
  have hL1:Ev (fun n=>qcR d n ([]:List ByteArray) 0) (d.Ab.map qz.Au,(d.Ab.length:Int)):=by
   refine loopF (Lf:=qcR d) (S:=fun j=>(d.Ab.take j).map qz.Au) (len:=d.Ab.length) (fun n=>?_) (fun j hj X hX=>?_)
   ·simp only [qcR,qj (jf _),cond_false,jB]
   ·simpa only [qcR,qi hj,cond_true,qaa hj,je,qjq hj hli,qfu (g:=qz.Au) hj,wS j] using hX
  have hL2:Ev (fun n=>qcW d n ([]:List ByteArray) 0) (d.Ac.map qam.Au,(d.Ac.length:Int)):=by
   refine loopF (Lf:=qcW d) (S:=fun j=>(d.Ac.take j).map qam.Au) (len:=d.Ac.length) (fun n=>?_) (fun j hj X hX=>?_)
   ·simp only [qcW,qj (jf _),cond_false,jB]
   ·simpa only [qcW,qi hj,cond_true,qaa hj,je,qjq hj hlp,qfu (g:=qam.Au) hj,wS j] using hX
  have hL3:Ev (fun n=>qcQ d n (vecC (fun _=>0) d.Ai.length) 0) (vecC (fun k=>drvI d k d.Ab.length) d.Ai.length,(d.Ab.length:Int)):=by
   refine loopF (Lf:=qcQ d) (S:=fun j=>vecC (fun k=>drvI d k j) d.Ai.length) (len:=d.Ab.length) (fun n=>?_) (fun j hj X hX=>?_)
   ·simp only [qcQ,qj (jf _),cond_false]
   ·have hxl:=(qhm hd.Ab hj).Ai.len
    obtain ⟨h1,h2,h3⟩:=qnA hlib (hI j hj)
    have hc:drvI d (lastN (gt d.Ab j)).toNat j≤j:=qeG
    obtain ⟨e1,e2⟩:=qji (c:=fun k=>drvI d k j) (c':=fun k=>drvI d k (j+1)) h2 h3 (by show drvI _ _ _<_;omega) (fun k _=>qmf)
    simpa only [qcQ,qi hj,cond_true,qaa hj,je,wS j,qpB h1 hxl,e1,e2] using hX
  have hL4:Ev (fun n=>qb5 d n (vecC (fun k=>drvI d k d.Ab.length) d.Ai.length) 0) (vecC (fun k=>drvI d k d.Ab.length+drvP d k d.Ac.length) d.Ai.length,(d.Ac.length:Int)):=by
   refine loopF (Lf:=qb5 d) (S:=fun j=>vecC (fun k=>drvI d k d.Ab.length+drvP d k j) d.Ai.length) (len:=d.Ac.length) (fun n=>?_) (fun j hj X hX=>?_)
   ·simp only [qb5,qj (jf _),cond_false]
   ·have hi:=hP j hj
    unfold portB netB at hi
    simp only [jg,qbT] at hi
    have hc1:drvI d (gt d.Ac j).Bo.toNat d.Ab.length≤d.Ab.length:=qeG
    have hc2:drvP d (gt d.Ac j).Bo.toNat j≤j:=qeG
    simp only [qb5,qi hj,cond_true,qaa hj,je,wS j]
    cases h1:((gt d.Ac j).Bl==1)
    ·have:vecC (fun k=>drvI d k d.Ab.length+drvP d k (j+1)) d.Ai.length=vecC (fun k=>drvI d k d.Ab.length+drvP d k j) d.Ai.length:=by
      refine qiy (fun k _=>?_)
      rw [qkJ,h1];rfl
     rw [this] at hX
     exact hX
    ·obtain ⟨e1,e2⟩:=qji (c:=fun k=>drvI d k d.Ab.length+drvP d k j) (c':=fun k=>drvI d k d.Ab.length+drvP d k (j+1)) (x:=(gt d.Ac j).Bo) (m:=d.Ai.length) hi.2.1 (by omega) (by show drvI _ _ _+drvP _ _ _<_;omega) (fun k _=>by rw [qkJ,h1,jJ];omega)
     simp only [cond_true,je,e1,e2]
     exact hX
  have hL5:Ev (fun n=>qdQ (vecC (fun _=>0) d.Ai.length) (vecC (fun k=>drvI d k d.Ab.length+drvP d k d.Ac.length) d.Ai.length) n 0) (bif drvB d then .nxt (d.Ai.length:Int) else .ret false):=by
   refine qee ?_ (fun j hj X hX=>Ev.succ ?_)
   ·exact Ev.succ (by simp only [qdQ,qkw,qj (jf _),cond_false];exact .done)
   ·simp only [qdQ,qkw,qi hj,cond_true,qiD hj,je,bne,qaQ,wS j]
    exact Ev.okP1 fun _=>hX
  refine Ev.bind hL1 (Ev.bind hL2 ?_)
  refine Ev.guardB (Ev.or (qks (qkI hd.Ab (fun x hx=>hx.Au))) fun _=>Ev.or (qks (qkI hd.Ac (fun x hx=>hx.Au))) fun _=>Ev.neg (qks hd.Ai)) fun _=>?_
  rw [qkT (m:=d.Ai.length) (by omega)]
  simp only [je]
  refine Ev.bind hL3 (Ev.bind hL4 (Ev.bind hL5 ?_))
  cases drvB d<;>exact .done
end Go.Fw


namespace Go.Fw
open Go
set_option maxRecDepth 100000
theorem qqF {m k:Nat}:decide ((m:Int)<(k:Int)) = !decide (k≤m):=by rw [jm];simp
theorem qjQ {m k:Nat}:decide ((m:Int) > (k:Int)) = !decide (m≤k):=by rw [jm];simp
def treeB (w:qae) (j:Nat):Bool:=bif decide (j=0) then (at0 w.Ak j==-1)&&(at0 w.Bh j==0) else inI (at0 w.Ak j) 0 ((j:Int)-1)
def wireB (w:qae) (s:Int):Bool :=
 lenB w.Ak 1 8&&(((w.Bh.length:Int)==(w.Ak.length:Int))&&(((w.Bd.length:Int)==(w.Ak.length:Int))&&(allN (treeB w) w.Ak.length &&
  ((w.Bh.all fun x=>inI x 0 1000)&&((w.Bd.all fun x=>inI x 0 500)&&(((w.Ay.length:Int)==s)&&(w.Ay.all fun x=>inI x 0 ((w.Ak.length:Int)-1))))))))
theorem qq1 {w:qae} (hl:w.Ak.length≤1048576) (hr:((w.Bh.length:Int)==(w.Ak.length:Int))=true):Ev (fun n=>qgn n w) (allN (treeB w) w.Ak.length):=by
 rw [beq_iff_eq] at hr
 have hL:Ev (fun n=>qa3 w n 0) (bif allN (treeB w) w.Ak.length then .nxt (w.Ak.length:Int) else .ret false):=by
  refine qee ?_ (fun j hj X hX=>Ev.succ ?_)
  ·exact Ev.succ (by simp only [qa3,qj (jf _),cond_false];exact .done)
  ·simp only [qa3,qi hj,cond_true,qaN hj,je,qcN,wS j,bne,qaQ]
   unfold treeB
   by_cases h0:j=0
   ·subst h0
    rw [show idx w.Bh (0:Int)=some (at0 w.Bh 0) from qaN (j:=0) (by omega)]
    simp only [je]
    refine Ev.tt (by simp) (Ev.okP fun _=>Ev.okP1 fun _=>Ev.ff (by simp) hX)
   ·have e1:decide (j=0)=false:=by simp;omega
    have e2:((j:Int)==0)=false:=by simp;omega
    have e3:decide ((j:Int) > 0)=true:=by simp;omega
    rw [e1,e2,e3,qbc (show j≤9223372036854775807 by omega)]
    simp only [cond_false,cond_true]
    exact Ev.okP1 fun _=>hX
 unfold qgn
 refine Ev.bind hL ?_
 cases allN (treeB w) w.Ak.length<;>exact .done
theorem qqX {w:qae} {s:Int} (h:qlR w):Ev (fun n=>qiT n w s) (wireB w s):=by
 have hl:=h.Ak.len
 simp only [qiT,qV,je,qcN,qbc (show w.Ak.length≤9223372036854775807 by omega)]
 unfold wireB
 rw [show inI (w.Ak.length:Int) 1 8=lenB w.Ak 1 8 from qmN (lo:=1) (hi:=8)]
 exact Ev.andP fun _=>Ev.andP fun hr=>Ev.andP fun _=>Ev.and (qq1 hl hr) fun _=>Ev.and (qeD h.Bh.len) fun _=>Ev.and (qeD h.Bd.len) fun _=>Ev.andP fun _=>Ev.last (qeD h.Ay.len)
theorem qqi {w:qae} {s:Int} (h:qlR w):Ev (fun n=>qiS n w s) (wireB w s):=by
 have hl:=h.Ak.len
 have hsl:=h.Ay.len
 have e:wireB w s=((decide (1≤w.Ak.length)&&(decide (w.Ak.length≤8)&&(((w.Bh.length:Int)==(w.Ak.length:Int))&&(((w.Bd.length:Int)==(w.Ak.length:Int))&&((w.Ay.length:Int)==s)))))&&(allN (fun j=>(inI (at0 w.Bd j) 0 500&&inI (at0 w.Bh j) 0 1000)&&treeB w j) w.Ak.length&&(w.Ay.all fun x=>inI x 0 ((w.Ak.length:Int)-1)))):=by
  unfold wireB lenB
  cases h1:((w.Bh.length:Int)==(w.Ak.length:Int))
  ·simp
  ·cases h2:((w.Bd.length:Int)==(w.Ak.length:Int))
   ·simp
   ·rw [beq_iff_eq] at h1 h2
    rw [qiw,qiw]
    rw [qgx (p:=fun x=>inI x 0 1000) (d:=0),qgx (p:=fun x=>inI x 0 500) (d:=0),show w.Bh.length=w.Ak.length by omega,show w.Bd.length=w.Ak.length by omega]
    show _=(_&&((allN (fun j=>inI (w.Bd.getD j 0) 0 500) _&&allN (fun j=>inI (w.Bh.getD j 0) 0 1000) _&&_)&&_))
    generalize allN (fun j=>inI (w.Bd.getD j 0) 0 500) w.Ak.length=a1
    generalize allN (fun j=>inI (w.Bh.getD j 0) 0 1000) w.Ak.length=a2
    generalize allN (fun j=>treeB w j) w.Ak.length=a3
    generalize ((w.Ay.length:Int)==s)=a4
    generalize decide (1≤w.Ak.length)=a5
    generalize decide (w.Ak.length≤8)=a6
    generalize (w.Ay.all fun x=>inI x 0 ((w.Ak.length:Int)-1))=a7
    cases a1<;>cases a2<;>cases a3<;>cases a4<;>cases a5<;>cases a6<;>rfl
 rw [e]
 unfold qiS
 refine Ev.guardB ?_ fun hb=>?_
 ·rw [show decide ((w.Ak.length:Int)<1) = !decide (1≤w.Ak.length) from qqF (k:=1),show decide ((w.Ak.length:Int) > 8) = !decide (w.Ak.length≤8) from qjQ (k:=8)]
  simp only [bne,qaQ]
  exact Ev.orBP fun _=>Ev.orBP fun _=>Ev.orBP fun _=>Ev.orBP fun _=>.done
 ·simp only [jg,beq_iff_eq] at hb
  have hL1:Ev (fun n=>qco w n 0) (bif allN (fun j=>(inI (at0 w.Bd j) 0 500&&inI (at0 w.Bh j) 0 1000)&&treeB w j) w.Ak.length then .nxt (w.Ak.length:Int) else .ret false):=by
   refine qee ?_ (fun j hj X hX=>Ev.succ ?_)
   ·exact Ev.succ (by simp only [qco,qj (jf _),cond_false];exact .done)
   ·simp only [qco,qi hj,cond_true,qaN hj,qaN (show j<w.Bd.length by omega),qaN (show j<w.Bh.length by omega),je,qdE,wS j,bne,qaQ]
    refine Ev.chkT (Ev.orBP fun _=>.done) fun _=>?_
    unfold treeB
    by_cases h0:j=0
    ·subst h0
     refine Ev.tt (by simp) (Ev.okP fun _=>Ev.okP1 fun _=>Ev.ff (by simp) hX)
    ·have e1:decide (j=0)=false:=by simp;omega
     have e2:((j:Int)==0)=false:=by simp;omega
     have e3:decide ((j:Int) > 0)=true:=by simp;omega
     rw [e1,e2,e3,qbc (show j≤9223372036854775807 by omega)]
     simp only [cond_false,cond_true]
     exact Ev.okP1 fun _=>hX
  have hL2:Ev (fun n=>qfa w n 0) (bif (w.Ay.all fun x=>inI x 0 ((w.Ak.length:Int)-1)) then .nxt (w.Ay.length:Int) else .ret false) :=
   qjh (fun n=>by simp only [qfa,qj (jf _),cond_false]) (fun j hj X hX=>by
    simp only [qfa,qi hj,cond_true,qZ hj,je,qdE,qbc (show w.Ak.length≤9223372036854775807 by omega),wS j,qaQ]
    exact Ev.okP1 fun _=>hX)
  refine Ev.bind hL1 ?_
  cases allN (fun j=>(inI (at0 w.Bd j) 0 500&&inI (at0 w.Bh j) 0 1000)&&treeB w j) w.Ak.length
  ·exact .done
  ·refine Ev.bind hL2 ?_
   cases (w.Ay.all fun x=>inI x 0 ((w.Ak.length:Int)-1))<;>exact .done
instance:Inhabited Tplace:=⟨⟨0,0,0,false⟩⟩
instance:Inhabited Tl05Place:=⟨⟨0,0,0,false⟩⟩
def toSp (p:Tplace):Tl05Place:=⟨p.instance_,p.pin,p.net,p.drives⟩
def plX (i:Nat) (x:qz) (j:Nat):List Tplace:=(List.range j).map fun (k:Nat)=>⟨(i:Int),(k:Int),at0 x.Ai k,decide (k+1=x.Ai.length)⟩
def plI (d:qg) (j:Nat):List Tplace:=(List.range j).flatMap fun (i:Nat)=>plX i (gt d.Ab i) (gt d.Ab i).Ai.length
def plP (d:qg) (j:Nat):List Tplace:=(List.range j).map fun (i:Nat)=>⟨-1,(i:Int),(gt d.Ac i).Bo,(gt d.Ac i).Bl==1⟩
def places (d:qg):List Tplace:=plI d d.Ab.length++plP d d.Ac.length
theorem qpi {i:Nat} {x:qz} {j:Nat}:plX i x (j+1)=plX i x j++[⟨(i:Int),(j:Int),at0 x.Ai j,decide (j+1=x.Ai.length)⟩]:=by
 unfold plX;rw [jY,jX];rfl
theorem qkx {d:qg} {j:Nat}:plI d (j+1)=plI d j++plX j (gt d.Ab j) (gt d.Ab j).Ai.length:=by
 unfold plI;rw [jY,List.flatMap_append];simp
theorem qph {d:qg} {j:Nat}:plP d (j+1)=plP d j++[⟨-1,(j:Int),(gt d.Ac j).Bo,(gt d.Ac j).Bl==1⟩]:=by
 unfold plP;rw [jY,jX];rfl
theorem qmO {i:Nat} {x:qz} {j:Nat}:(plX i x j).length=j:=by simp [plX]
theorem qmJ {d:qg} {j:Nat}:(plP d j).length=j:=by simp [plP]
structure smallD (d:qg):Prop where
 ni:d.Ab.length≤14
 nn:d.Ai.length≤30
 np:d.Ac.length≤8
 nx:∀ i,i<d.Ab.length→2≤(gt d.Ab i).Ai.length∧(gt d.Ab i).Ai.length≤5
theorem qw {l:qq} {d:qg} (h:designB l d=true):smallD d:=by
 unfold designB hasNamesB libB at h
 simp only [jg,decide_eq_true_eq] at h
 obtain ⟨⟨⟨hc,_⟩,⟨h1,h2,h3⟩,_⟩,hI,_⟩:=h
 refine ⟨h1,h2,h3,fun i hi=>?_⟩
 rw [qhr,qay] at hI hc
 have:=hI i hi
 unfold instB at this
 simp only [jg,qbT,beq_iff_eq] at this
 have h5:=qiA (qmW (hc (gt d.Ab i).Az.toNat (by omega)))
 omega
theorem qlG {d:qg} (h:smallD d) {j:Nat} (hj:j≤d.Ab.length):(plI d j).length≤5*j:=by
 induction j with
 | zero=>exact jf _
 | succ j ih =>
  rw [qkx,jj,qmO]
  have:=ih (by omega)
  have:=h.nx j (by omega)
  omega
theorem qM {d:qg} (h:smallD d):(places d).length≤78:=by
 unfold places
 rw [jj,qmJ]
 have:=qlG h (jf _)
 have:=h.ni
 have:=h.np
 omega
theorem qkQ {d:qg} (h:smallD d):Ev (fun n=>qb3 n d) (places d):=by
 have h1:=h.ni
 have h2:=h.np
 have hL2:∀ i,i<d.Ab.length→∀ pre:List Tplace,pre.length≤100→Ev (fun n=>qbv (i:Int) (gt d.Ab i) n pre 0) (pre++plX i (gt d.Ab i) (gt d.Ab i).Ai.length,((gt d.Ab i).Ai.length:Int)):=by
  intro i hi pre hp
  have h5:=h.nx i hi
  have:=loopF (Lf:=qbv (i:Int) (gt d.Ab i)) (S:=fun j=>pre++plX i (gt d.Ab i) j) (len:=(gt d.Ab i).Ai.length) (fin:=(pre++plX i (gt d.Ab i) (gt d.Ab i).Ai.length,((gt d.Ab i).Ai.length:Int))) (fun n=>by
    simp only [qbv,qj (jf _),cond_false])
   (fun j hj X hX=>by
    have hc:(pre++plX i (gt d.Ab i) j).length+[(⟨(i:Int),(j:Int),at0 (gt d.Ab i).Ai j,decide (j+1=(gt d.Ab i).Ai.length)⟩:Tplace)].length≤2147483648:=by
     rw [jj,qmO];simp;omega
    simp only [qbv,qi hj,cond_true,qaN hj,je,lastE hj (show (gt d.Ab i).Ai.length≤1048576 by omega),qbL hc,Jg,←qpi,wS j]
    exact hX)
  simpa [plX] using this
 have hL1:Ev (fun n=>qbt d n ([]:List Tplace) 0) (plI d d.Ab.length,(d.Ab.length:Int)):=by
  refine loopF (Lf:=qbt d) (S:=fun j=>plI d j) (len:=d.Ab.length) (fun n=>?_) (fun j hj X hX=>?_)
  ·simp only [qbt,qj (jf _),cond_false]
  ·simp only [qbt,qi hj,cond_true,qaa hj,je,wS j]
   refine Ev.bind (hL2 j hj _ (by have:=qlG h (Nat.le_of_lt hj);omega)) ?_
   rw [←qkx]
   exact hX
 have hL3:Ev (fun n=>qbu d n (plI d d.Ab.length) 0) (places d,(d.Ac.length:Int)):=by
  have:=loopF (Lf:=qbu d) (S:=fun j=>plI d d.Ab.length++plP d j) (len:=d.Ac.length) (fin:=(places d,(d.Ac.length:Int))) (fun n=>by
    simp only [qbu,qj (jf _),cond_false];rfl)
   (fun j hj X hX=>by
    have hc:(plI d d.Ab.length++plP d j).length+[(⟨-1,(j:Int),(gt d.Ac j).Bo,(gt d.Ac j).Bl==1⟩:Tplace)].length≤2147483648:=by
     rw [jj,qmJ];have:=qlG h (jf _);simp;omega
    simp only [qbu,qi hj,cond_true,qaa hj,je,qbL hc,Jg,←qph,wS j]
    exact hX)
  simpa [plP] using this
 unfold qb3
 exact Ev.bind hL1 (Ev.bind hL3 .done)
theorem qfn {d:qg} (h:smallD d):Ev (fun n=>qc4 n d) ((places d).map toSp):=by
 have h1:=h.ni
 have h2:=h.np
 have hL2:∀ i,i<d.Ab.length→∀ pre:List Tplace,pre.length≤100→Ev (fun n=>qcu (i:Int) (gt d.Ab i) n (pre.map toSp) 0) ((pre++plX i (gt d.Ab i) (gt d.Ab i).Ai.length).map toSp,((gt d.Ab i).Ai.length:Int)):=by
  intro i hi pre hp
  have h5:=h.nx i hi
  have:=loopF (Lf:=qcu (i:Int) (gt d.Ab i)) (S:=fun j=>(pre++plX i (gt d.Ab i) j).map toSp) (len:=(gt d.Ab i).Ai.length) (fin:=((pre++plX i (gt d.Ab i) (gt d.Ab i).Ai.length).map toSp,((gt d.Ab i).Ai.length:Int))) (fun n=>by
    simp only [qcu,qj (jf _),cond_false])
   (fun j hj X hX=>by
    have hc:((pre++plX i (gt d.Ab i) j).map toSp).length+[(⟨(i:Int),(j:Int),at0 (gt d.Ab i).Ai j,decide (j+1=(gt d.Ab i).Ai.length)⟩:Tl05Place)].length≤2147483648:=by
     rw [jH,jj,qmO];simp;omega
    simp only [qcu,qi hj,cond_true,qaN hj,je,lastE hj (show (gt d.Ab i).Ai.length≤1048576 by omega),qbL hc,wS j]
    rw [qpi,←Jg,jX] at hX
    exact hX)
  simpa [plX] using this
 have hL1:Ev (fun n=>qcr d n ([]:List Tl05Place) 0) ((plI d d.Ab.length).map toSp,(d.Ab.length:Int)):=by
  refine loopF (Lf:=qcr d) (S:=fun j=>(plI d j).map toSp) (len:=d.Ab.length) (fun n=>?_) (fun j hj X hX=>?_)
  ·simp only [qcr,qj (jf _),cond_false]
  ·simp only [qcr,qi hj,cond_true,qaa hj,je,wS j]
   refine Ev.bind (hL2 j hj _ (by have:=qlG h (Nat.le_of_lt hj);omega)) ?_
   rw [←qkx]
   exact hX
 have hL3:Ev (fun n=>qcl d n ((plI d d.Ab.length).map toSp) 0) ((places d).map toSp,(d.Ac.length:Int)):=by
  have:=loopF (Lf:=qcl d) (S:=fun j=>(plI d d.Ab.length++plP d j).map toSp) (len:=d.Ac.length) (fin:=((places d).map toSp,(d.Ac.length:Int))) (fun n=>by
    simp only [qcl,qj (jf _),cond_false];rfl)
   (fun j hj X hX=>by
    have hc:((plI d d.Ab.length++plP d j).map toSp).length+[(⟨-1,(j:Int),(gt d.Ac j).Bo,(gt d.Ac j).Bl==1⟩:Tl05Place)].length≤2147483648:=by
     rw [jH,jj,qmJ];have:=qlG h (jf _);simp;omega
    simp only [qcl,qi hj,cond_true,qaa hj,je,qbL hc,wS j]
    rw [qph,←Jg,jX] at hX
    exact hX)
  simpa [plP] using this
 unfold qc4
 exact Ev.bind hL1 (Ev.bind hL3 .done)
def snkQ (d:qg) (k:Int) (i:Nat):Bool:=((gt (places d) i).net==k)&&!(gt (places d) i).drives
def sinksL (d:qg) (k:Int) (j:Nat):List Int:=((List.range j).filter (snkQ d k)).map fun (i:Nat)=>(i:Int)
def snkN (d:qg) (k:Int):Nat:=cntP (snkQ d k) (places d).length
theorem qi0 {d:qg} {k:Int} {j:Nat}:sinksL d k (j+1)=sinksL d k j++(bif snkQ d k j then [(j:Int)] else []):=by
 unfold sinksL
 rw [jY,List.filter_append,jX]
 congr 1
 cases h:snkQ d k j<;>simp [h]
theorem qfv {d:qg} {k:Int} {j:Nat}:(sinksL d k j).length=cntP (snkQ d k) j:=by
 induction j with
 | zero=>rfl
 | succ j ih =>
  rw [qi0,jj,ih]
  show _=cntP (snkQ d k) j+_
  congr 1
  cases snkQ d k j<;>rfl
theorem ql4 {α β:Type} [Inhabited α] [Inhabited β] {xs:List α} {g:α→β} {j:Nat} (h:j<xs.length):gt (xs.map g) j=g (gt xs j):=by
 rw [qhS (by simpa using h),qhS h];simp
theorem qko {d:qg} {k:Int} (h:smallD d):Ev (fun n=>qfD n d k) (sinksL d k (places d).length):=by
 have hl:=qM h
 have hL:Ev (fun n=>qb7 k ((places d).map toSp) n ([]:List Int) 0) (sinksL d k (places d).length,((places d).length:Int)):=by
  refine loopF (Lf:=qb7 k ((places d).map toSp)) (S:=fun j=>sinksL d k j) (len:=(places d).length) (fun n=>?_) (fun j hj X hX=>?_)
  ·simp only [qb7,jH,qj (jf _),cond_false]
  ·have hj':j<((places d).map toSp).length:=by simpa using hj
   have hc:(sinksL d k j).length+[(j:Int)].length≤2147483648:=by
    rw [qfv]
    have:cntP (snkQ d k) j≤j:=qeG
    simp;omega
   simp only [qb7,qi hj',cond_true,qaa hj',ql4 hj,je,wS j]
   rw [show ∀ p:Tplace,(toSp p).net=p.net from fun _=>rfl,show ∀ p:Tplace,(toSp p).drives=p.drives from fun _=>rfl]
   refine Ev.bind (b:=snkQ d k j) (Ev.andP fun _=>.done) ?_
   rw [qi0] at hX
   cases hq:snkQ d k j
   ·rw [hq] at hX
    simp only [cond_false,jT] at hX ⊢
    exact hX
   ·rw [hq] at hX
    simp only [cond_true,qbL hc,je] at hX ⊢
    exact hX
 unfold qfD
 exact Ev.bind (qfn h) (Ev.bind hL .done)
theorem qjz {l:qq} {d:qg} (h:designB l d=true) {i:Nat} (hi:i<(places d).length):0≤(gt (places d) i).net∧(gt (places d) i).net<d.Ai.length:=by
 unfold designB at h
 simp only [jg] at h
 obtain ⟨_,hI,hP,_⟩:=h
 rw [qhr,qay] at hI hP
 have hm:gt (places d) i ∈ places d:=by rw [qhS hi];exact jp hi
 generalize gt (places d) i=p at hm
 unfold places at hm
 rcases List.mem_append.1 hm with hm|hm
 ·unfold plI at hm
  obtain ⟨i,hi,hm⟩:=List.mem_flatMap.1 hm
  unfold plX at hm
  obtain ⟨k,hk,rfl⟩:=List.mem_map.1 hm
  have:=hI i (List.mem_range.1 hi)
  unfold instB at this
  simp only [jg] at this
  have h3:=this.2.2
  rw [qgx (d:=0),qay] at h3
  have h4:=h3 k (List.mem_range.1 hk)
  unfold netB at h4
  rw [qbT] at h4
  show 0≤at0 _ _∧at0 _ _<_
  unfold at0
  omega
 ·unfold plP at hm
  obtain ⟨i,hi,rfl⟩:=List.mem_map.1 hm
  have:=hP i (List.mem_range.1 hi)
  unfold portB netB at this
  simp only [jg,qbT] at this
  show 0≤(gt d.Ac i).Bo∧(gt d.Ac i).Bo<_
  omega
def blockB (b:qd):Bool:=(designB b.Af b.Aa&&((b.Ah.length:Int)==(b.Aa.Ai.length:Int)))&&allN (fun j=>wireB (gt b.Ah j) (snkN b.Aa (j:Int))) b.Ah.length
theorem qm6 {b:qd} (h:qbn b):Ev (fun n=>qiq n b) (blockB b):=by
 have hwl:=h.Ah.len
 unfold qiq blockB
 refine Ev.guardB (Ev.or (qoX h.Af h.Aa) fun _=>.done) fun hb=>?_
 rw [jg,beq_iff_eq] at hb
 obtain ⟨hd,hw⟩:=hb
 have hs:=qw hd
 have hl:=qM hs
 have hn:=hs.nn
 rw [qkT (m:=b.Ah.length) (by omega)]
 simp only [je]
 have hL1:Ev (fun n=>qcL (places b.Aa) n (vecC (fun _=>0) b.Ah.length) 0) (vecC (fun k=>snkN b.Aa (k:Int)) b.Ah.length,((places b.Aa).length:Int)):=by
  refine loopF (Lf:=qcL (places b.Aa)) (S:=fun j=>vecC (fun k=>cntP (snkQ b.Aa (k:Int)) j) b.Ah.length) (len:=(places b.Aa).length) (fun n=>?_) (fun j hj X hX=>?_)
  ·simp only [qcL,qj (jf _),cond_false];rfl
  ·simp only [qcL,qi hj,cond_true,qaa hj,je,wS j]
   obtain ⟨n0,n1⟩:=qjz hd hj
   cases h1:(gt (places b.Aa) j).drives
   ·have hc:cntP (snkQ b.Aa (((gt (places b.Aa) j).net.toNat:Nat):Int)) j≤j:=qeG
    obtain ⟨e1,e2⟩:=qji (c:=fun k=>cntP (snkQ b.Aa (k:Int)) j) (c':=fun k=>cntP (snkQ b.Aa (k:Int)) (j+1)) (x:=(gt (places b.Aa) j).net) (m:=b.Ah.length) n0 (by omega) (by show cntP _ _<_;omega) (fun k _=>by
     show cntP _ j+(bif snkQ b.Aa (k:Int) j then 1 else 0)=_
     unfold snkQ
     rw [h1,Bool.not_false,Bool.and_true])
    simp only [Bool.not_false,cond_true,je,e1,e2]
    exact hX
   ·have:vecC (fun k=>cntP (snkQ b.Aa (k:Int)) (j+1)) b.Ah.length=vecC (fun k=>cntP (snkQ b.Aa (k:Int)) j) b.Ah.length:=by
     refine qiy (fun k _=>?_)
     show cntP _ j+(bif snkQ b.Aa (k:Int) j then 1 else 0)=_
     unfold snkQ
     rw [h1,Jk,Bool.and_false];rfl
    rw [this] at hX
    exact hX
 have hL2:Ev (fun n=>qet b (vecC (fun k=>snkN b.Aa (k:Int)) b.Ah.length) n 0) (bif allN (fun j=>wireB (gt b.Ah j) (snkN b.Aa (j:Int))) b.Ah.length then .nxt (b.Ah.length:Int) else .ret false):=by
  refine qee ?_ (fun j hj X hX=>Ev.succ ?_)
  ·exact Ev.succ (by simp only [qet,qj (jf _),cond_false];exact .done)
  ·simp only [qet,qi hj,cond_true,qaa hj,qiD hj,je,wS j]
   exact Ev.chk1 (qqX (qhm h.Ah hj)) fun _=>hX
 refine Ev.bind (qkQ hs) (Ev.bind hL1 (Ev.bind hL2 ?_))
 cases allN (fun j=>wireB (gt b.Ah j) (snkN b.Aa (j:Int))) b.Ah.length<;>exact .done
theorem qh1 {b:qd} (h:qbn b):Ev (fun n=>qeu n b) (blockB b):=by
 have hwl:=h.Ah.len
 unfold qeu blockB
 refine Ev.guardB (Ev.or (qlC h.Af h.Aa) fun _=>.done) fun hb=>?_
 rw [jg] at hb
 have hs:=qw hb.1
 have hL:Ev (fun n=>qeq b n 0) (bif allN (fun j=>wireB (gt b.Ah j) (snkN b.Aa (j:Int))) b.Ah.length then .nxt (b.Ah.length:Int) else .ret false):=by
  refine qee ?_ (fun j hj X hX=>Ev.succ ?_)
  ·exact Ev.succ (by simp only [qeq,qj (jf _),cond_false];exact .done)
  ·simp only [qeq,qi hj,cond_true,qaa hj,je,wS j]
   refine Ev.bind (qko hs) ?_
   rw [qfv]
   exact Ev.chk1 (qqi (qhm h.Ah hj)) fun _=>hX
 refine Ev.bind hL ?_
 cases allN (fun j=>wireB (gt b.Ah j) (snkN b.Aa (j:Int))) b.Ah.length<;>exact .done
end Go.Fw


namespace Go.Fw
open Go
set_option maxRecDepth 100000
def off (d:qg) (i:Nat):Nat:=(plI d i).length
def place1 (d:qg) (i k:Nat):Tplace:=⟨(i:Int),(k:Int),at0 (gt d.Ab i).Ai k,decide (k+1=(gt d.Ab i).Ai.length)⟩
def place2 (d:qg) (i:Nat):Tplace:=⟨-1,(i:Int),(gt d.Ac i).Bo,(gt d.Ac i).Bl==1⟩
theorem qlM {d:qg} {i:Nat}:off d (i+1)=off d i+(gt d.Ab i).Ai.length:=by
 unfold off;rw [qkx,jj,qmO]
theorem qiV {d:qg}:(places d).length=off d d.Ab.length+d.Ac.length:=by
 unfold places off;rw [jj,qmJ]
theorem qtw {d:qg} {n i k:Nat} (hi:i<n) (hk:k<(gt d.Ab i).Ai.length):off d i+k<off d n∧gt (plI d n) (off d i+k)=place1 d i k:=by
 induction n with
 | zero=>omega
 | succ n ih =>
  rw [qkx,qmg]
  rcases Nat.lt_succ_iff_lt_or_eq.1 hi with h|rfl
  ·obtain ⟨h1,h2⟩:=ih h
   refine ⟨by rw [qlM];omega,?_⟩
   rw [if_pos (show off d i+k<(plI d n).length from h1),h2]
  ·refine ⟨by rw [qlM];omega,?_⟩
   rw [if_neg (by unfold off;omega),show off d i+k-(plI d i).length=k by unfold off;omega]
   exact qoU hk
theorem qjm {d:qg} {i k:Nat} (hi:i<d.Ab.length) (hk:k<(gt d.Ab i).Ai.length):off d i+k<(places d).length∧gt (places d) (off d i+k)=place1 d i k:=by
 obtain ⟨h1,h2⟩:=qtw hi hk
 refine ⟨by rw [qiV];omega,?_⟩
 unfold places
 rw [qmg,if_pos (show off d i+k<(plI d d.Ab.length).length from h1),h2]
theorem qnS {d:qg} {i:Nat} (hi:i<d.Ac.length):off d d.Ab.length+i<(places d).length∧gt (places d) (off d d.Ab.length+i)=place2 d i:=by
 refine ⟨by rw [qiV];omega,?_⟩
 unfold places
 rw [qmg,if_neg (by unfold off;omega),show off d d.Ab.length+i-(plI d d.Ab.length).length=i by unfold off;omega]
 exact qoU hi
theorem qq0 {d:qg} {n j:Nat} (hj:j<off d n):∃ i k,i<n∧k<(gt d.Ab i).Ai.length∧j=off d i+k:=by
 induction n with
 | zero=>exact absurd hj (Nat.not_lt_zero _)
 | succ n ih =>
  by_cases h:j<off d n
  ·obtain ⟨i,k,h1,h2,h3⟩:=ih h
   exact ⟨i,k,by omega,h2,h3⟩
  ·rw [qlM] at hj
   exact ⟨n,j-off d n,by omega,by omega,by omega⟩
theorem qfl {d:qg} {j:Nat} (hj:j<(places d).length) :
  (∃ i k,i<d.Ab.length∧k<(gt d.Ab i).Ai.length∧j=off d i+k∧gt (places d) j=place1 d i k) ∨
  (∃ i,i<d.Ac.length∧j=off d d.Ab.length+i∧gt (places d) j=place2 d i):=by
 rw [qiV] at hj
 by_cases h:j<off d d.Ab.length
 ·obtain ⟨i,k,h1,h2,rfl⟩:=qq0 h
  exact .inl ⟨i,k,h1,h2,rfl,(qjm h1 h2).2⟩
 ·refine .inr ⟨j-off d d.Ab.length,by omega,by omega,?_⟩
  have:=(qnS (d:=d) (i:=j-off d d.Ab.length) (by omega)).2
  rwa [show off d d.Ab.length+(j-off d d.Ab.length)=j by omega] at this
def drvQ (d:qg) (k:Int) (j:Nat):Bool:=((gt (places d) j).net==k)&&(gt (places d) j).drives
theorem qpe {q:Nat→Bool} {m n:Nat}:cntP q (m+n)=cntP q m+cntP (fun j=>q (m+j)) n:=by
 induction n with
 | zero=>rfl
 | succ n ih =>
  show cntP q (m+n)+(bif q (m+n) then 1 else 0)=cntP q m+(cntP (fun j=>q (m+j)) n+(bif q (m+n) then 1 else 0))
  rw [ih];omega
theorem qrw {q:Nat→Bool} {n:Nat} {b:Bool} (h:1≤n) (h1:∀ j,j+1<n→q j=false) (h2:q (n-1)=b):cntP q n=bif b then 1 else 0:=by
 obtain ⟨m,rfl⟩:∃ m,n=m+1:=⟨n-1,by omega⟩
 show cntP q m+(bif q m then 1 else 0)=_
 rw [qkR.2 (fun j hj=>h1 j (by omega)),show m=m+1-1 by omega,h2,Jj]
theorem qqp {d:qg} {k:Nat} (hs:smallD d):cntP (drvQ d (k:Int)) (places d).length=drvI d k d.Ab.length+drvP d k d.Ac.length:=by
 rw [qiV,qpe]
 congr 1
 ·have:∀ n,n≤d.Ab.length→cntP (drvQ d (k:Int)) (off d n)=drvI d k n:=by
   intro n
   induction n with
   | zero=>intro _;rfl
   | succ n ih =>
    intro hn
    rw [qlM,qpe,ih (by omega),qmf]
    congr 1
    have h2:=(hs.nx n (by omega)).1
    refine qrw (by omega) (fun j hj=>?_) ?_
    ·show drvQ d _ (off d n+j)=false
     unfold drvQ
     rw [(qjm (by omega) (by omega)).2]
     unfold place1
     simp;omega
    ·show drvQ d _ (off d n+_)=_
     unfold drvQ
     rw [(qjm (by omega) (by omega)).2]
     unfold place1 lastN
     simp;omega
  exact this _ (jf _)
 ·refine qqn (fun j hj=>?_)
  show drvQ d _ (off d _+j)=_
  unfold drvQ
  rw [(qnS hj).2]
  unfold place2
  exact Bool.and_comm _ _
theorem qqN {l:qq} {d:qg} (h:designB l d=true) {k:Nat} (hk:k<d.Ai.length):cntP (drvQ d (k:Int)) (places d).length=1:=by
 rw [qqp (qw h)]
 unfold designB drvB at h
 simp only [jg] at h
 have:=qay.1 h.2.2.2 k hk
 rw [beq_iff_eq] at this
 omega
theorem qpD {l:qq} {d:qg} (h:designB l d=true) {i j:Nat} (hi:i<(places d).length) (hj:j<(places d).length) (he:(gt (places d) i).net=(gt (places d) j).net) (h1:(gt (places d) i).drives=true) (h2:(gt (places d) j).drives=true):i=j:=by
 obtain ⟨n0,n1⟩:=qjz h hi
 have e:=qlf n0
 have:=qqN h (k:=(gt (places d) i).net.toNat) (by omega)
 refine qo0 (Nat.le_of_eq this) hi hj ?_ ?_
 ·unfold drvQ;rw [←e,h1];simp
 ·unfold drvQ;rw [←e,h2,he];simp
theorem qtz {l:qq} {d:qg} (h:designB l d=true) {k:Int} (h0:0≤k) (h1:k<d.Ai.length):∃ j,j<(places d).length∧(gt (places d) j).net=k∧(gt (places d) j).drives=true:=by
 have e:=qlf h0
 have:=qqN h (k:=k.toNat) (by omega)
 have hp:decide (0<cntP (drvQ d ((k.toNat:Nat):Int)) (places d).length)=true:=by rw [this];rfl
 rw [qpk,jO,qjN] at hp
 obtain ⟨j,hj,hq⟩:=hp
 rw [Bool.not_eq_false',←e] at hq
 unfold drvQ at hq
 simp only [jg,beq_iff_eq] at hq
 exact ⟨j,hj,hq.1,hq.2⟩
def cellAt (b:qd) (i:Int):qt:=gt b.Af.Aj (gt b.Aa.Ab i.toNat).Az.toNat
theorem qhA {l:qq} {d:qg} (h:designB l d=true) {i:Nat} (hi:i<d.Ab.length) :
  (0≤(gt d.Ab i).Az∧(gt d.Ab i).Az<l.Aj.length)∧(gt d.Ab i).Ai.length=(gt l.Aj (gt d.Ab i).Az.toNat).Ap.length∧cellB (gt l.Aj (gt d.Ab i).Az.toNat)=true:=by
 unfold designB libB at h
 simp only [jg] at h
 obtain ⟨⟨⟨hc,_⟩,_⟩,hI,_⟩:=h
 rw [qhr,qay] at hI hc
 have:=hI i hi
 unfold instB at this
 simp only [jg,qbT,beq_iff_eq] at this
 exact ⟨⟨this.1.1,by omega⟩,by omega,hc _ (by omega)⟩
theorem qpN {c:qt} (h:cellB c=true) {j:Nat} (hj:j<c.Aq.length):(1≤(gt c.Aq j).Ar∧(gt c.Aq j).Ar≤5)∧(0≤(gt c.Aq j).As∧(gt c.Aq j).As<(c.Ap.length:Int)-1)∧(0≤(gt c.Aq j).To∧(gt c.Aq j).To≤(c.Ap.length:Int)-1)∧arcS c.Ap (gt c.Aq j)=true:=by
 unfold cellB at h
 simp only [jg] at h
 obtain ⟨_,hp,⟨ha,_⟩,_,_,hk⟩:=h
 have:=qay.1 ha j hj
 rw [jg,qrR hp (qom hk)] at this
 have h1:=this.1
 refine ⟨qn3 h1,?_⟩
 have h2:=h1
 unfold arcS at h2
 simp only [jg,qbT] at h2
 refine ⟨⟨h2.1.1.1,by omega⟩,h2.1.2,h1⟩
theorem qlp {c:qt} (h:cellB c=true):c.Aq.length≤8:=by
 unfold cellB at h
 simp only [jg,decide_eq_true_eq] at h
 exact h.2.2.1.2
theorem qE {b:qd} (h:blockB b=true):designB b.Af b.Aa=true:=by
 unfold blockB at h;simp only [jg] at h;exact h.1.1
end Go.Fw


namespace Go.Fw
open Go
set_option maxRecDepth 100000
theorem qn4 {d:qg} {k:Int} {n i:Nat} (hi:i<(sinksL d k n).length):∃ y:Nat,y<n∧idx (sinksL d k n) (i:Int)=some (y:Int)∧snkQ d k y=true:=by
 rw [qZ hi]
 have hm:(sinksL d k n)[i] ∈ sinksL d k n:=jp hi
 generalize (sinksL d k n)[i]=z at hm
 unfold sinksL at hm
 obtain ⟨y,hy,rfl⟩:=List.mem_map.1 hm
 obtain ⟨h1,h2⟩:=List.mem_filter.1 hy
 exact ⟨y,List.mem_range.1 h1,rfl,h2⟩
theorem qnN {d:qg} {k:Int} (h:smallD d):Ev (fun n=>qfK n d k) (sinksL d k (places d).length):=by
 have hl:=qM h
 have hL:Ev (fun n=>qaU k (places d) n ([]:List Int) 0) (sinksL d k (places d).length,((places d).length:Int)):=by
  refine loopF (Lf:=qaU k (places d)) (S:=fun j=>sinksL d k j) (len:=(places d).length) (fun n=>?_) (fun j hj X hX=>?_)
  ·simp only [qaU,qj (jf _),cond_false]
  ·have hc:(sinksL d k j).length+[(j:Int)].length≤2147483648:=by
    rw [qfv]
    have:cntP (snkQ d k) j≤j:=qeG
    simp;omega
   simp only [qaU,qi hj,cond_true,qaa hj,je,wS j]
   rw [qi0] at hX
   unfold snkQ at hX
   cases h1:((gt (places d) j).net==k)
   ·rw [h1] at hX
    simp only [Bool.false_and,cond_false,jT] at hX ⊢
    exact hX
   ·cases h2:(gt (places d) j).drives
    ·rw [h1,h2] at hX
     simp only [Bool.not_false,Bool.and_self,cond_true,qbL hc,je] at hX ⊢
     exact hX
    ·rw [h1,h2] at hX
     simp only [Jk,Bool.and_false,cond_false,jT,cond_true] at hX ⊢
     exact hX
 unfold qfK
 exact Ev.bind (qkQ h) (Ev.bind hL .done)
structure wireOk (b:qd) (i:Nat):Prop where
 lo:1≤(gt b.Ah i).Ak.length
 hi:(gt b.Ah i).Ak.length≤8
 res:(gt b.Ah i).Bh.length=(gt b.Ah i).Ak.length
 cap:(gt b.Ah i).Bd.length=(gt b.Ah i).Ak.length
 par:∀ j,0<j→j<(gt b.Ah i).Ak.length→0≤at0 (gt b.Ah i).Ak j∧at0 (gt b.Ah i).Ak j<j
 snk:(gt b.Ah i).Ay.length=(sinksL b.Aa (i:Int) (places b.Aa).length).length
 sin:∀ j,j<(gt b.Ah i).Ay.length→0≤at0 (gt b.Ah i).Ay j∧at0 (gt b.Ah i).Ay j<(gt b.Ah i).Ak.length
theorem qkb {b:qd} (h:blockB b=true) {i:Nat} (hi:i<b.Ah.length):wireOk b i:=by
 unfold blockB at h
 rw [jg,qay] at h
 have:=h.2 i hi
 unfold wireB lenB at this
 simp only [jg,decide_eq_true_eq,beq_iff_eq] at this
 obtain ⟨⟨h1,h2⟩,h3,h4,h5,_,_,h6,h7⟩:=this
 refine ⟨h1,h2,by omega,by omega,fun j hj0 hj=>?_,?_,fun j hj=>?_⟩
 ·have:=qay.1 h5 j hj
  unfold treeB at this
  rw [show decide (j=0)=false by simp;omega] at this
  simp only [cond_false,qbT] at this
  omega
 ·rw [qfv]
  unfold snkN at h6
  omega
 ·rw [qgx (d:=0),qay] at h7
  have:=h7 j hj
  rw [qbT] at this
  unfold at0
  omega
theorem qqb {b:qd} (h:blockB b=true):b.Ah.length=b.Aa.Ai.length:=by
 unfold blockB at h
 simp only [jg,beq_iff_eq] at h
 omega
theorem qsb {b:qd} (h:blockB b=true) {j:Nat} (hj:j<(places b.Aa).length):∃ c,∀ n,qfO n b.Aa b.Af (gt (places b.Aa) j)=some c:=by
 have hd:=qE h
 rcases qfl hj with ⟨i,k,hi,hk,_,e⟩|⟨i,hi,_,e⟩
 ·rw [e]
  obtain ⟨⟨c0,c1⟩,hn,_⟩:=qhA hd hi
  refine ⟨(gt (gt b.Af.Aj (gt b.Aa.Ab i).Az.toNat).Ap k).Bd,fun n=>?_⟩
  unfold place1
  simp only [qfO,show decide ((i:Int)<0)=false by simp,cond_false,qaa hi,je,qfX c0 c1,qaa (show k<(gt b.Af.Aj (gt b.Aa.Ab i).Az.toNat).Ap.length by omega)]
 ·rw [e]
  exact ⟨0,fun n=>rfl⟩
theorem qlw {b:qd} (h:blockB b=true) {i:Nat} (hi:i<b.Ah.length):∃ r:List Int,r.length=(gt b.Ah i).Ak.length∧Ev (fun n=>qc5 n b (i:Int)) r:=by
 have hw:=qkb h hi
 have hs:=qw (qE h)
 have hlo:=hw.lo
 have hhi:=hw.hi
 have hcap:=hw.cap
 have hl:=qM hs
 obtain ⟨x1,i1,e1⟩:=loopE (Lf:=qbC b (gt b.Ah i) (places b.Aa) (sinksL b.Aa (i:Int) (places b.Aa).length)) (fin:=fun t=>(t,((sinksL b.Aa (i:Int) (places b.Aa).length).length:Int))) (fun _ t=>t.length=(gt b.Ah i).Ak.length) (len:=(sinksL b.Aa (i:Int) (places b.Aa).length).length)
  (fun n t=>by simp only [qbC,qj (jf _),cond_false])
  (fun j t hj ht=>by
   obtain ⟨y,hy,ey,_⟩:=qn4 hj
   obtain ⟨c,hc⟩:=qsb h hy
   have hjs:j<(gt b.Ah i).Ay.length:=by rw [hw.snk];exact hj
   have hsn:=hw.sin j hjs
   have hb:j<9223372036854775807:=by
    rw [qfv] at hj
    have:cntP (snkQ b.Aa (i:Int)) (places b.Aa).length≤(places b.Aa).length:=qeG
    omega
   refine ⟨setS t (at0 (gt b.Ah i).Ay j) (W64 (gt t (at0 (gt b.Ah i).Ay j).toNat+c)),by rw [qdd];exact ht,fun X hX=>?_⟩
   simp only [qbC,qi hj,cond_true,ey,je,qaN hjs,qfX hsn.1 (show at0 (gt b.Ah i).Ay j<(t.length:Int) by omega),qaa hy,qix hb]
   exact Ev.bind ⟨0,fun n _=>hc n⟩ hX) 0 (jz _) (gt b.Ah i).Bd hcap
 obtain ⟨x2,i2,e2⟩:=loopDn (Lf:=qbD (gt b.Ah i)) (fin:=fun t=>(t,(0:Int))) (fun t=>t.length=(gt b.Ah i).Ak.length) ((gt b.Ah i).Ak.length-1)
  (fun n t=>by simp only [qbD,show decide ((0:Int) > 0)=false from rfl,cond_false])
  (fun j t h0 hj ht=>by
   have hp:=hw.par j h0 (by omega)
   refine ⟨setS t (at0 (gt b.Ah i).Ak j) (W64 (gt t (at0 (gt b.Ah i).Ak j).toNat+gt t j)),by rw [qdd];exact ht,fun X hX=>?_⟩
   simp only [qbD,show decide ((j:Int) > 0)=true by simp;omega,cond_true,qaN (show j<(gt b.Ah i).Ak.length by omega),je,qfX hp.1 (show at0 (gt b.Ah i).Ak j<(t.length:Int) by omega),qaa (show j<t.length by omega),show (j:Int)-1=((j-1:Nat):Int) by omega,qaz (show -9223372036854775808≤((j-1:Nat):Int) by omega) (by omega)]
   exact hX) x1 i1
 refine ⟨x2,i2,?_⟩
 unfold qc5 qcM
 rw [qaa hi]
 simp only [je,qbL (show ([]:List Int).length+(gt b.Ah i).Bd.length≤2147483648 by simp;omega),List.nil_append]
 refine Ev.bind (qkQ hs) (Ev.bind (qnN hs) (Ev.bind e1 ?_))
 rw [qbc (show (gt b.Ah i).Bd.length≤9223372036854775807 by omega),show ((gt b.Ah i).Bd.length:Int)-1=(((gt b.Ah i).Ak.length-1:Nat):Int) by omega]
 exact Ev.bind e2 .done
theorem qno {b:qd} (h:blockB b=true) {i:Nat} (hi:i<b.Ah.length):∃ r:List Int,r.length=(gt b.Ah i).Ay.length∧Ev (fun n=>qdL n b (i:Int)) r:=by
 have hw:=qkb h hi
 have hs:=qw (qE h)
 have hlo:=hw.lo
 have hhi:=hw.hi
 have hres:=hw.res
 have hl:=qM hs
 have hsl:(gt b.Ah i).Ay.length≤78:=by
  rw [hw.snk,qfv]
  have:cntP (snkQ b.Aa (i:Int)) (places b.Aa).length≤(places b.Aa).length:=qeG
  omega
 obtain ⟨r1,l1,e1⟩:=qlw h hi
 have hmk:mkS (r1.length:Int) (0:Int)=some (List.replicate r1.length 0):=qs8 (by omega)
 obtain ⟨x2,i2,e2⟩:=loopE (Lf:=qbp (gt b.Ah i) r1 (List.replicate r1.length 0)) (fin:=fun t=>(t,(r1.length:Int))) (fun j t=>1≤j∧t.length=(gt b.Ah i).Ak.length) (len:=r1.length)
  (fun n t=>by simp only [qbp,List.length_replicate,qj (jf _),cond_false])
  (fun j t hj ht=>by
   obtain ⟨h1,ht⟩:=ht
   have hp:=hw.par j (by omega) (by omega)
   refine ⟨setS t (j:Int) (W64 (gt t (at0 (gt b.Ah i).Ak j).toNat+W64 (at0 (gt b.Ah i).Bh j*gt r1 j))),⟨by omega,by rw [qdd];exact ht⟩,fun X hX=>?_⟩
   simp only [qbp,List.length_replicate,qi hj,cond_true,qaN (show j<(gt b.Ah i).Ak.length by omega),je,qfX hp.1 (show at0 (gt b.Ah i).Ak j<(t.length:Int) by omega),qaN (show j<(gt b.Ah i).Bh.length by omega),qaa hj,qaa (show j<t.length by omega),wS j]
   exact hX) 1 (by omega) (List.replicate r1.length 0) ⟨jf _,by rw [List.length_replicate];exact l1⟩
 obtain ⟨x3,i3,e3⟩:=loopE (Lf:=qbe x2 (gt b.Ah i)) (fin:=fun t=>(t,((gt b.Ah i).Ay.length:Int))) (fun j t=>t.length=j) (len:=(gt b.Ah i).Ay.length)
  (fun n t=>by simp only [qbe,qj (jf _),cond_false])
  (fun j t hj ht=>by
   have hsn:=hw.sin j hj
   have hx2:=i2.2
   refine ⟨t++[gt x2 (at0 (gt b.Ah i).Ay j).toNat],by simp [ht],fun X hX=>?_⟩
   simp only [qbe,qi hj,cond_true,qaN hj,je,qfX hsn.1 (show at0 (gt b.Ah i).Ay j<(x2.length:Int) by omega),qbL (show t.length+[gt x2 (at0 (gt b.Ah i).Ay j).toNat].length≤2147483648 by simp;omega),wS j]
   exact hX) 0 (jz _) [] rfl
 refine ⟨x3,i3,?_⟩
 unfold qdL qfG
 rw [qaa hi]
 simp only [je]
 refine Ev.bind (b:=x2) (Ev.bind e1 ?_) (Ev.bind e3 .done)
 rw [hmk]
 simp only [je]
 exact Ev.bind e2 .done
end Go.Fw


namespace Go.Fw
open Go
set_option maxRecDepth 100000
instance:Inhabited qa9:=⟨⟨0,0,0,0⟩⟩
instance:Inhabited qR:=⟨⟨0,0⟩⟩
theorem qoQ {α:Type} {m:Nat} {z:α} (h:m≤2147483648):mkS (m:Int) z=some (List.replicate m z):=by
 unfold mkS big
 rw [if_pos ⟨by omega,by omega⟩,jC]
theorem qry {α:Type} [Inhabited α] {xs:List α} {a k:Nat} {y:α} (h:k ≠ a):gt (xs.set a y) k=gt xs k:=by
 unfold gt
 rw [jK,List.getElem?_set_ne (by omega),←jK]
theorem qpM {α:Type} [Inhabited α] {xs:List α} {a:Nat} {y:α} (h:a<xs.length):gt (xs.set a y) a=y:=by
 rw [qhS (by rw [List.length_set];exact h),List.getElem_set_self]
theorem qsm {a:qav}:∃ r:List qR,r.length≤4∧∀ n,qeK n a=some r:=by
 unfold qeK
 simp only [bne,qaQ]
 cases (a.Ar==2)
 ·cases (a.Ar==3)
  ·cases (a.Ar==1)
   ·exact ⟨_,by decide,fun _=>rfl⟩
   ·cases (a.Bj==1)
    ·cases (a.Bj==2)
     ·exact ⟨[⟨0,0⟩,⟨0,1⟩,⟨1,0⟩,⟨1,1⟩],by decide,fun _=>rfl⟩
     ·exact ⟨[⟨0,1⟩,⟨1,0⟩],by decide,fun _=>rfl⟩
    ·exact ⟨[⟨0,0⟩,⟨1,1⟩],by decide,fun _=>rfl⟩
  ·exact ⟨[⟨1,0⟩,⟨1,1⟩],by decide,fun _=>rfl⟩
 ·exact ⟨[⟨0,0⟩,⟨0,1⟩],by decide,fun _=>rfl⟩
theorem qor {b:qd} {first:Int} (h:blockB b=true) {i:Nat} (hi:i<b.Aa.Ab.length):∃ r:List qa9,r.length≤32∧Ev (fun n=>qey n b (gt b.Aa.Ab i) first) r:=by
 obtain ⟨⟨c0,c1⟩,_,hcb⟩:=qhA (qE h) hi
 have ha:=qlp hcb
 obtain ⟨x1,i1,e1⟩:=loopE (Lf:=qbB first (gt b.Af.Aj (gt b.Aa.Ab i).Az.toNat)) (fin:=fun t=>(t,((gt b.Af.Aj (gt b.Aa.Ab i).Az.toNat).Aq.length:Int))) (fun j t=>t.length≤4*j) (len:=(gt b.Af.Aj (gt b.Aa.Ab i).Az.toNat).Aq.length)
  (fun n t=>by simp only [qbB,qj (jf _),cond_false])
  (fun j t hj ht=>by
   obtain ⟨r,hr,er⟩:=qsm (a:=gt (gt b.Af.Aj (gt b.Aa.Ab i).Az.toNat).Aq j)
   obtain ⟨x2,i2,e2⟩:=loopE (Lf:=qbz first (j:Int) (gt (gt b.Af.Aj (gt b.Aa.Ab i).Az.toNat).Aq j) r) (fin:=fun t=>(t,(r.length:Int))) (fun k t'=>t'.length=t.length+k) (len:=r.length)
    (fun n t=>by simp only [qbz,qj (jf _),cond_false])
    (fun k t' hk ht'=>⟨t'++[_],by rw [jj,ht',jk];omega,fun X hX=>by
     simp only [qbz,qi hk,cond_true,qaa hk,je,wS k]
     rw [qbL (by rw [jk];omega)]
     exact hX⟩) 0 (jz _) t rfl
   refine ⟨x2,by omega,fun X hX=>?_⟩
   simp only [qbB,qi hj,cond_true,qaa hj,je,er,wS j]
   exact Ev.bind e2 hX) 0 (jz _) [] (jf _)
 refine ⟨x1,by omega,?_⟩
 unfold qey
 rw [qfX c0 c1]
 simp only [je]
 exact Ev.bind e1 .done
theorem qqc {b:qd} (h:blockB b=true):∃ ls lo de,Ev (fun n=>qij n b) (some ⟨b,places b.Aa,ls,lo,de,[]⟩):=by
 have hd:=qE h
 have hs:=qw hd
 have hl:=qM hs
 have hni:=hs.ni
 have hnn:=hs.nn
 have hwl:=qqb h
 obtain ⟨⟨x1,z1⟩,i1,e1⟩:=loopE (τ:=List qa9 × Int) (Lf:=fun n t j=>qer b n t.1 t.2 j) (fin:=fun t=>(t.1,t.2,(b.Aa.Ab.length:Int))) (fun j t=>t.1.length≤32*j) (len:=b.Aa.Ab.length)
  (fun n t=>by simp only [qer,qj (jf _),cond_false])
  (fun j t hj ht=>by
   obtain ⟨r,hr,er⟩:=qor (first:=t.2) h hj
   refine ⟨(t.1++r,W64 (t.2+((gt b.Aa.Ab j).Ai.length:Int))),by rw [jj];omega,fun X hX=>?_⟩
   simp only [qer,qi hj,cond_true,qaa hj,je,qV,wS j]
   have ht':t.1.length≤32*j:=ht
   refine Ev.bind er ?_
   rw [qbL (show t.1.length+r.length≤2147483648 by omega)]
   exact hX) 0 (jz _) ([],0) (jf _)
 have hm1:mkS (b.Ah.length:Int) (0:Int)=some (List.replicate b.Ah.length 0):=qoQ (by omega)
 have hm2:mkS (b.Ah.length:Int) ([]:List Int)=some (List.replicate b.Ah.length []):=qoQ (by omega)
 obtain ⟨⟨x5,x6⟩,⟨i5,i6,i56⟩,e2⟩:=loopE (τ:=List (List Int) × List Int) (Lf:=fun n t j=>qcE (places b.Aa) n t.1 t.2 j) (fin:=fun t=>(t.1,t.2,((places b.Aa).length:Int))) (fun j t=>t.1.length=b.Ah.length∧t.2.length=b.Ah.length∧∀ k,(gt t.1 k).length≤j) (len:=(places b.Aa).length)
  (fun n t=>by simp only [qcE,qj (jf _),cond_false])
  (fun j t hj ht=>by
   obtain ⟨h1,h2,h3⟩:=ht
   obtain ⟨n0,n1⟩:=qjz hd hj
   cases hdr:(gt (places b.Aa) j).drives
   ·refine ⟨(setS t.1 (gt (places b.Aa) j).net (gt t.1 (gt (places b.Aa) j).net.toNat++[(j:Int)]),t.2),⟨by rw [qdd];exact h1,h2,fun k=>?_⟩,fun X hX=>?_⟩
    ·show (gt (t.1.set _ _) k).length≤j+1
     by_cases hk:k=(gt (places b.Aa) j).net.toNat
     ·subst hk
      rw [qpM (by omega),jj,jk]
      have:=h3 (gt (places b.Aa) j).net.toNat
      omega
     ·rw [qry hk]
      have:=h3 k
      omega
    ·have:=h3 (gt (places b.Aa) j).net.toNat
     simp only [qcE,qi hj,cond_true,qaa hj,je,hdr,cond_false,qfX n0 (show (gt (places b.Aa) j).net<(t.1.length:Int) by omega),wS j]
     rw [qbL (by rw [jk];omega)]
     exact hX
   ·refine ⟨(t.1,setS t.2 (gt (places b.Aa) j).net (j:Int)),⟨h1,by rw [qdd];exact h2,fun k=>Nat.le_succ_of_le (h3 k)⟩,fun X hX=>?_⟩
    simp only [qcE,qi hj,cond_true,qaa hj,je,hdr,qfX n0 (show (gt (places b.Aa) j).net<(t.2.length:Int) by omega),wS j]
    exact hX) 0 (jz _) (List.replicate b.Ah.length [],List.replicate b.Ah.length 0) ⟨by simp,by simp,fun k=>by
   have:gt (List.replicate b.Ah.length ([]:List Int)) k=[]:=by
    unfold gt
    rw [jK,List.getElem?_replicate]
    by_cases hk:k<b.Ah.length<;>simp [hk]<;>rfl
   rw [this];exact jf _⟩
 have i5:x5.length=b.Ah.length:=i5
 have i6:x6.length=b.Ah.length:=i6
 have i56:∀ k,(gt x5 k).length≤(places b.Aa).length:=i56
 have hL5:∀ (i4 i5 y7:Int) (y8:Int) (t:List qa9),idx x6 i4=some y8→t.length≤1000000→∃ t',t'.length=t.length+2∧Ev (fun n=>qdn x6 i4 i5 y7 n t 0) (t',2):=by
  intro i4 i5 y7 y8 t hy ht
  obtain ⟨t',h1,h2⟩:=loopE (Lf:=qdn x6 i4 i5 y7) (fin:=fun t=>(t,(2:Int))) (fun k t'=>t'.length=t.length+k) (len:=2)
   (fun n t=>by simp only [qdn];rfl)
   (fun k t' hk ht'=>⟨t'++[_],by rw [jj,ht',jk];omega,fun X hX=>by
    simp only [qdn,show decide ((k:Int)<2)=true by simp;omega,cond_true,hy,je,wS k]
    rw [qbL (by rw [jk];omega)]
    exact hX⟩) 0 (jz _) t rfl
  exact ⟨t',h1,h2⟩
 have hL4:∀ (i4 y8:Int) (y6:List Int) (t:List qa9),idx x6 i4=some y8→y6.length≤78→t.length≤900000→∃ t',t'.length=t.length+2*y6.length∧Ev (fun n=>qdx x6 i4 y6 n t 0) (t',(y6.length:Int)):=by
  intro i4 y8 y6 t hy hy6 ht
  obtain ⟨t',h1,h2⟩:=loopE (Lf:=qdx x6 i4 y6) (fin:=fun t=>(t,(y6.length:Int))) (fun k t'=>t'.length=t.length+2*k) (len:=y6.length)
   (fun n t=>by simp only [qdx,qj (jf _),cond_false])
   (fun k t' hk ht'=>by
    obtain ⟨t2,q1,q2⟩:=hL5 i4 (k:Int) (gt y6 k) y8 t' hy (by omega)
    refine ⟨t2,by omega,fun X hX=>?_⟩
    simp only [qdx,qi hk,cond_true,qaa hk,je,wS k]
    exact Ev.bind q2 hX) 0 (jz _) t rfl
  exact ⟨t',h1,h2⟩
 obtain ⟨⟨x8,x9,x10⟩,_,e3⟩:=loopE (τ:=List (List Int) × List Int × List qa9) (Lf:=fun n t j=>qep b x5 x6 n t.1 t.2.1 t.2.2 j) (fin:=fun t=>(t.1,t.2.1,t.2.2,(b.Ah.length:Int))) (fun j t=>t.1.length=j∧t.2.1.length=j∧t.2.2.length≤448+156*j) (len:=b.Ah.length)
  (fun n t=>by simp only [qep,qj (jf _),cond_false])
  (fun j t hj ht=>by
   obtain ⟨h1,h2,h3⟩:=ht
   have h1:t.1.length=j:=h1
   have h2:t.2.1.length=j:=h2
   have h3:t.2.2.length≤448+156*j:=h3
   have hw:=qkb h hj
   have hlo:=hw.lo
   obtain ⟨r4,l4,e4⟩:=qlw h hj
   obtain ⟨r5,l5,e5⟩:=qno h hj
   have h6:=i56 j
   have hy8:idx x6 (j:Int)=some (gt x6 j):=qaa (by omega)
   obtain ⟨t',q1,q2⟩:=hL4 (j:Int) (gt x6 j) (gt x5 j) t.2.2 hy8 (by omega) (by omega)
   refine ⟨(t.1++[r5],t.2.1++[gt r4 0],t'),⟨by simp [h1],by simp [h2],?_⟩,fun X hX=>?_⟩
   ·show t'.length≤_
    omega
   ·simp only [qep,qi hj,cond_true,wS j]
    refine Ev.bind e4 ?_
    rw [show idx r4 (0:Int)=some (gt r4 0) from qaa (j:=0) (by omega)]
    simp only [je]
    rw [qbL (by rw [jk];omega)]
    simp only [je]
    refine Ev.bind e5 ?_
    rw [qbL (by rw [jk];omega),qaa (show j<x5.length by omega)]
    simp only [je]
    exact Ev.bind q2 hX) 0 (jz _) ([],[],x1) ⟨rfl,rfl,by show x1.length≤_;have:x1.length≤32*b.Aa.Ab.length:=i1;omega⟩
 refine ⟨x10,x9,x8,?_⟩
 unfold qij
 refine Ev.bind (qkQ hs) (Ev.bind e1 ?_)
 rw [hm1,hm2]
 simp only [je]
 exact Ev.bind e2 (Ev.bind e3 .done)
end Go.Fw


namespace Go.Fw
open Go
set_option maxRecDepth 100000
def clkB (b:qd) (p:Tplace):Bool:=bif decide (p.instance_ ≥ 0) then clkAt (cellAt b p.instance_).Ap p.pin else false
theorem qla {b:qd} {V:Tview} {n j:Nat} (h:blockB b=true) (hV:V.Be=b) (hj:j<(places b.Aa).length):qb6 n (some V) (gt (places b.Aa) j)=some (clkB b (gt (places b.Aa) j)):=by
 rcases qfl hj with ⟨i,k,hi,hk,_,e⟩|⟨i,hi,_,e⟩
 ·obtain ⟨⟨c0,c1⟩,hn,_⟩:=qhA (qE h) hi
  rw [e]
  unfold place1 clkB clkAt cellAt
  simp only [qb6,show decide ((i:Int) ≥ 0)=true by simp,cond_true,je,hV,qaa hi,qfX c0 c1,qaa (show k<(gt b.Af.Aj (gt b.Aa.Ab i).Az.toNat).Ap.length by omega),jC]
 ·rw [e];rfl
theorem qlJ {b:qd} {j:Nat} (hok:qbn b) (h:blockB b=true) (hj:j<(places b.Aa).length):Ev (fun n=>qgK n b.Af b.Aa (j:Int)) (toSp (gt (places b.Aa) j),true):=by
 have hd:=qE h
 have hs:=qw hd
 have hl:=qM hs
 unfold qgK
 refine Ev.bind (qlC hok.Af hok.Aa) (Ev.ff (by rw [hd];rfl) (Ev.bind (qfn hs) ?_))
 simp only [qdE,je,jH,qbc (show (places b.Aa).length≤9223372036854775807 by omega)]
 rw [show inI (j:Int) 0 (((places b.Aa).length:Int)-1)=true from qbT.2 ⟨by omega,by omega⟩]
 simp only [Jk,cond_false]
 rw [qaa (show j<((places b.Aa).map toSp).length by simpa using hj),ql4 hj]
 exact .done
theorem qkn {b:qd} {j:Nat} (hok:qbn b) (h:blockB b=true) (hj:j<(places b.Aa).length):Ev (fun n=>qfC n b (j:Int)) (clkB b (gt (places b.Aa) j)):=by
 unfold qfC
 refine Ev.bind (qlJ hok h hj) ?_
 rcases qfl hj with ⟨i,k,hi,hk,_,e⟩|⟨i,hi,_,e⟩
 ·obtain ⟨⟨c0,c1⟩,hn,_⟩:=qhA (qE h) hi
  rw [e]
  unfold place1 clkB clkAt cellAt toSp
  simp only [qga,show decide ((i:Int) ≥ 0)=true by simp,cond_true,je,qaa hi,qfX c0 c1,qaa (show k<(gt b.Af.Aj (gt b.Aa.Ab i).Az.toNat).Ap.length by omega),jC]
  exact .done
 ·rw [e];exact .done
theorem qnH {b:qd} {j:Nat} (hok:qbn b) (h:blockB b=true) (hj:j<(places b.Aa).length):Ev (fun n=>qgE n b.Af b.Aa (j:Int)) (gt (places b.Aa) j).net:=by
 unfold qgE
 exact Ev.bind (qlJ hok h hj) .done
theorem qoR {b:qd} {k:Int} (h:blockB b=true) {j:Nat} (hj:j<(places b.Aa).length) (hk:(gt (places b.Aa) j).net=k) (hdr:(gt (places b.Aa) j).drives=true):Ev (fun n=>qhd n b.Aa k) (j:Int):=by
 have hd:=qE h
 have hs:=qw hd
 have hl:=qM hs
 have e:ixL (fun q:Tl05Place=>(q.net==k)&&q.drives) ((places b.Aa).map toSp)=(j:Int):=by
  refine qsa (by simpa using hj) ?_ (fun i hi hq=>?_)
  ·rw [ql4 hj]
   show (((gt (places b.Aa) j).net==k)&&(gt (places b.Aa) j).drives)=true
   rw [hk,hdr];simp
  ·have hi':i<(places b.Aa).length:=by simpa using hi
   rw [ql4 hi'] at hq
   have hq':(((gt (places b.Aa) i).net==k)&&(gt (places b.Aa) i).drives)=true:=hq
   simp only [jg,beq_iff_eq] at hq'
   exact qpD hd hi' hj (by rw [hq'.1,hk]) hq'.2 hdr
 unfold qhd
 refine Ev.bind (qfn hs) ?_
 rw [←e]
 exact qdA (fin:=(((places b.Aa).map toSp).length:Int)) (Lf:=qcq k ((places b.Aa).map toSp)) (pf:=fun _ q=>some ((q.net==k)&&q.drives)) (fun _ _=>.done)
  (fun n=>by simp only [qcq,qj (jf _),cond_false])
  (fun n j x hx=>by
   have hj:=(List.getElem?_eq_some_iff.1 hx).1
   have hj':j<(places b.Aa).length:=by simpa using hj
   simp only [qcq,qi hj,cond_true,qfY hx,je,wS j]
   cases (x.net==k)<;>cases x.drives<;>rfl)
  (fun n=>by congr 1;funext o;cases o<;>rfl)
theorem qqk {b:qd} {i k:Nat} (h:blockB b=true) (hi:i<b.Aa.Ab.length) (hk:k<(gt b.Aa.Ab i).Ai.length):Ev (fun n=>qg9 n b.Aa (i:Int) (k:Int)) ((off b.Aa i+k:Nat):Int):=by
 have hd:=qE h
 have hs:=qw hd
 have hl:=qM hs
 obtain ⟨hj,ej⟩:=qjm hi hk
 have e:ixL (fun q:Tl05Place=>(q.instance_==(i:Int))&&(q.pin==(k:Int))) ((places b.Aa).map toSp)=((off b.Aa i+k:Nat):Int):=by
  refine qsa (by simpa using hj) ?_ (fun m hm hq=>?_)
  ·rw [ql4 hj,ej]
   unfold place1 toSp
   simp
  ·have hm':m<(places b.Aa).length:=by simpa using hm
   rw [ql4 hm'] at hq
   rcases qfl hm' with ⟨i',k',hi',hk',em,e'⟩|⟨i',hi',em,e'⟩
   ·rw [e'] at hq
    unfold place1 toSp at hq
    simp only [jg,beq_iff_eq] at hq
    obtain rfl:i'=i:=by omega
    obtain rfl:k'=k:=by omega
    exact em
   ·rw [e'] at hq
    unfold place2 toSp at hq
    simp only [jg,beq_iff_eq] at hq
    omega
 unfold qg9
 refine Ev.bind (qfn hs) ?_
 rw [←e]
 exact qdA (fin:=(((places b.Aa).map toSp).length:Int)) (Lf:=qdo (i:Int) (k:Int) ((places b.Aa).map toSp)) (pf:=fun _ q=>some ((q.instance_==(i:Int))&&(q.pin==(k:Int)))) (fun _ _=>.done)
  (fun n=>by simp only [qdo,qj (jf _),cond_false])
  (fun n j x hx=>by
   have hj:=(List.getElem?_eq_some_iff.1 hx).1
   have hj':j<(places b.Aa).length:=by simpa using hj
   simp only [qdo,qi hj,cond_true,qfY hx,je,wS j]
   cases (x.instance_==(i:Int))<;>cases (x.pin==(k:Int))<;>rfl)
  (fun n=>by congr 1;funext o;cases o<;>rfl)
def freeB (b:qd) (y:Int):Bool:=!clkB b (gt (places b.Aa) y.toNat)
def dataB (c:qt) (pin:Int):Bool:=c.Aq.any fun a=>(a.As==pin)&&decide (a.Ar≤3)
def succL (b:qd) (j:Nat):List Int :=
 bif (gt (places b.Aa) j).drives then (sinksL b.Aa (gt (places b.Aa) j).net (places b.Aa).length).filter (freeB b)
 else bif decide ((gt (places b.Aa) j).instance_<0) then []
 else bif dataB (cellAt b (gt (places b.Aa) j).instance_) (gt (places b.Aa) j).pin then [(j:Int)-(gt (places b.Aa) j).pin+(((cellAt b (gt (places b.Aa) j).instance_).Ap.length:Int)-1)] else []
theorem qp0 {c:qt} {p:Tplace} (hc:cellB c=true):Ev (fun n=>qai n c.Aq p) (dataB c p.pin):=by
 have ha:=qlp hc
 unfold qai
 refine Ev.bind (b:=ixL (fun a:qav=>(a.As==p.pin)&&decide (a.Ar≤3)) c.Aq) (qdA (fin:=(c.Aq.length:Int)) (Lf:=qH c.Aq p) (pf:=fun n x=>qdJ n x p) (fun x hx=>?_)
  (fun n=>by simp only [qH,qj (jf _),cond_false])
  (fun n j x hx=>by
   have hj:=(List.getElem?_eq_some_iff.1 hx).1
   simp only [qH,qi hj,cond_true,qfY hx,je,wS j])
  (fun n=>by unfold qaS;congr 1;funext o;cases o<;>rfl)) (Ev.now (by rw [qh4];rfl))
 obtain ⟨j,hj,rfl⟩:=jM hx
 have hk:=(qpN hc hj).1
 rw [qhS hj] at hk
 refine ⟨0,fun n _=>?_⟩
 have e:decide (c.Aq[j].Ar≤3)=((c.Aq[j].Ar==1) || ((c.Aq[j].Ar==2) || (c.Aq[j].Ar==3))):=by
  rw [jm];simp;omega
 rw [e]
 unfold qdJ qiv
 cases (c.Aq[j].Ar==1)<;>cases (c.Aq[j].Ar==2)<;>cases (c.Aq[j].Ar==3)<;>simp
theorem qhE {b:qd} {V:Tview} {j:Nat} (h:blockB b=true) (hV:V.Be=b) (hP:V.places=places b.Aa) (hj:j<(places b.Aa).length):Ev (fun n=>qbd n (some V) (j:Int)) (succL b j):=by
 have hd:=qE h
 have hs:=qw hd
 have hl:=qM hs
 unfold qbd succL
 simp only [je,hP,qaa hj]
 refine Ev.iff (fun _=>?_) (fun _=>Ev.iff (fun _=>.done) (fun h0=>?_))
 ·have hL:Ev (fun n=>qas (some V) V (gt (places b.Aa) j) n ([]:List Int) 0) ((sinksL b.Aa (gt (places b.Aa) j).net (places b.Aa).length).filter (freeB b),((places b.Aa).length:Int)):=by
   refine loopF (Lf:=qas (some V) V (gt (places b.Aa) j)) (S:=fun m=>(sinksL b.Aa (gt (places b.Aa) j).net m).filter (freeB b)) (len:=(places b.Aa).length) (fun n=>?_) (fun m hm X hX=>?_)
   ·simp only [qas,hP,qj (jf _),cond_false]
   ·have hc:((sinksL b.Aa (gt (places b.Aa) j).net m).filter (freeB b)).length+[(m:Int)].length≤2147483648:=by
     have h1:=Ja (freeB b) (sinksL b.Aa (gt (places b.Aa) j).net m)
     rw [qfv] at h1
     have:cntP (snkQ b.Aa (gt (places b.Aa) j).net) m≤m:=qeG
     rw [jk];omega
    simp only [qas,hP,qi hm,cond_true,qaa hm,je,qla h hV hm,wS m]
    rw [qi0] at hX
    unfold snkQ at hX
    cases h1:((gt (places b.Aa) m).net==(gt (places b.Aa) j).net)
    ·rw [h1] at hX
     simp only [Bool.false_and,cond_false,jT] at hX ⊢
     exact hX
    ·cases h2:(gt (places b.Aa) m).drives
     ·rw [h1,h2] at hX
      simp only [Bool.not_false,Bool.and_self,cond_true,List.filter_append] at hX ⊢
      have hf:freeB b (m:Int) = !clkB b (gt (places b.Aa) m):=by unfold freeB;rw [jC]
      cases h3:clkB b (gt (places b.Aa) m)
      ·rw [h3] at hf
       rw [List.filter_cons_of_pos (by rw [hf];rfl),List.filter_nil] at hX
       simp only [Bool.not_false,cond_true,qbL hc,je]
       exact hX
      ·rw [h3] at hf
       rw [List.filter_cons_of_neg (by rw [hf];decide),List.filter_nil,jT] at hX
       exact hX
     ·rw [h1,h2] at hX
      simp only [Jk,Bool.and_false,cond_false,jT,cond_true] at hX ⊢
      exact hX
  exact Ev.bind hL .done
 ·rcases qfl hj with ⟨i,k,hi,hk,ej,e⟩|⟨i,hi,_,e⟩
  ·obtain ⟨⟨c0,c1⟩,hn,hcb⟩:=qhA hd hi
   have hxs:=hs.nx i hi
   rw [e]
   have ec:cellAt b (place1 b.Aa i k).instance_=gt b.Af.Aj (gt b.Aa.Ab i).Az.toNat:=by
    unfold cellAt place1;rw [jC]
   rw [ec]
   have e1:∀ n,qfN n V.Be (place1 b.Aa i k).instance_=some (gt b.Af.Aj (gt b.Aa.Ab i).Az.toNat):=by
    intro n
    rw [hV]
    unfold place1
    simp only [qfN,qaa hi,qfX c0 c1,je]
   refine Ev.bind ⟨0,fun n _=>e1 n⟩ (Ev.bind (qp0 hcb) (Ev.iff (fun _=>?_) (fun _=>.done)))
   simp only [qb8,qbF,je]
   refine Ev.now ?_
   have ep:(place1 b.Aa i k).pin=(k:Int):=rfl
   rw [ep,qbc (by omega),qaz (show -9223372036854775808≤(j:Int)-(k:Int) by omega) (by omega),qaz (by omega) (by omega)]
  ·rw [e] at h0
   exact absurd h0 (by show ¬ decide ((-1:Int)<0)=false;decide)
theorem qhQ {b:qd} {j:Nat} (hok:qbn b) (h:blockB b=true) (hj:j<(places b.Aa).length):Ev (fun n=>qdN n b (j:Int)) (succL b j):=by
 have hd:=qE h
 have hs:=qw hd
 have hl:=qM hs
 obtain ⟨n0,n1⟩:=qjz hd hj
 obtain ⟨jd,hjd,nd,dd⟩:=qtz hd n0 n1
 have hsl:(sinksL b.Aa (gt (places b.Aa) j).net (places b.Aa).length).length≤78:=by
  rw [qfv]
  have:cntP (snkQ b.Aa (gt (places b.Aa) j).net) (places b.Aa).length≤(places b.Aa).length:=qeG
  omega
 unfold qdN
 refine Ev.bind (qlJ hok h hj) (Ev.bind (qnH hok h hj) (Ev.bind (qoR h hjd nd dd) ?_))
 have e0:((jd:Int)==(j:Int))=(gt (places b.Aa) j).drives:=by
  rw [jm,beq_iff_eq]
  constructor
  ·intro e
   obtain rfl:jd=j:=by omega
   exact dd
  ·intro hdj
   have:=qpD hd hjd hj nd dd hdj
   omega
 rw [e0]
 unfold succL
 refine Ev.iff (fun _=>?_) (fun _=>Ev.iff (fun _=>.done) (fun h0=>?_))
 ·refine Ev.bind (qko hs) ?_
  have hL:Ev (fun n=>qb4 b (sinksL b.Aa (gt (places b.Aa) j).net (places b.Aa).length) n ([]:List Int) 0) ((sinksL b.Aa (gt (places b.Aa) j).net (places b.Aa).length).filter (freeB b),((sinksL b.Aa (gt (places b.Aa) j).net (places b.Aa).length).length:Int)):=by
   refine loopF (Lf:=qb4 b (sinksL b.Aa (gt (places b.Aa) j).net (places b.Aa).length)) (S:=fun m=>((sinksL b.Aa (gt (places b.Aa) j).net (places b.Aa).length).take m).filter (freeB b)) (len:=(sinksL b.Aa (gt (places b.Aa) j).net (places b.Aa).length).length) (fun n=>?_) (fun m hm X hX=>?_)
   ·simp only [qb4,qj (jf _),cond_false,jB]
   ·obtain ⟨y,hy,ey,_⟩:=qn4 hm
    have hc:(((sinksL b.Aa (gt (places b.Aa) j).net (places b.Aa).length).take m).filter (freeB b)).length+[(y:Int)].length≤2147483648:=by
     have h1:=Ja (freeB b) ((sinksL b.Aa (gt (places b.Aa) j).net (places b.Aa).length).take m)
     rw [jZ] at h1
     rw [jk];omega
    have eg:(sinksL b.Aa (gt (places b.Aa) j).net (places b.Aa).length)[m]=(y:Int):=by
     rw [qZ hm] at ey;exact Option.some.inj ey
    rw [jr hm,List.filter_append,eg] at hX
    simp only [qb4,qi hm,cond_true,ey,je,wS m]
    refine Ev.bind (qkn hok h hy) ?_
    have hf:freeB b (y:Int) = !clkB b (gt (places b.Aa) y):=by unfold freeB;rw [jC]
    cases h3:clkB b (gt (places b.Aa) y)
    ·rw [h3] at hf
     rw [List.filter_cons_of_pos (by rw [hf];rfl),List.filter_nil] at hX
     simp only [Bool.not_false,cond_true,qbL hc,je]
     exact hX
    ·rw [h3] at hf
     rw [List.filter_cons_of_neg (by rw [hf];decide),List.filter_nil,jT] at hX
     exact hX
  exact Ev.bind hL .done
 ·rcases qfl hj with ⟨i,k,hi,hk,ej,e⟩|⟨i,hi,_,e⟩
  ·obtain ⟨⟨c0,c1⟩,hn,hcb⟩:=qhA hd hi
   have hxs:=hs.nx i hi
   rw [e]
   have ec:cellAt b (place1 b.Aa i k).instance_=gt b.Af.Aj (gt b.Aa.Ab i).Az.toNat:=by
    unfold cellAt place1;rw [jC]
   rw [ec]
   have hA:=qlp hcb
   have e1:∀ n,qga n b (toSp (place1 b.Aa i k)).instance_=some (gt b.Af.Aj (gt b.Aa.Ab i).Az.toNat):=by
    intro n
    unfold place1 toSp
    simp only [qga,qaa hi,qfX c0 c1,je]
   have e2:Ev (fun n=>qg9 n b.Aa (toSp (place1 b.Aa i k)).instance_ (W64 (((gt b.Af.Aj (gt b.Aa.Ab i).Az.toNat).Ap.length:Int)-1))) ((j:Int)-(k:Int)+(((gt b.Af.Aj (gt b.Aa.Ab i).Az.toNat).Ap.length:Int)-1)):=by
    have:=qqk h hi (k:=(gt b.Af.Aj (gt b.Aa.Ab i).Az.toNat).Ap.length-1) (by omega)
    rw [qbc (by omega),show ((gt b.Af.Aj (gt b.Aa.Ab i).Az.toNat).Ap.length:Int)-1=(((gt b.Af.Aj (gt b.Aa.Ab i).Az.toNat).Ap.length-1:Nat):Int) by omega]
    refine this.cast ?_
    omega
   have hL2:Ev (fun n=>qdT b (toSp (place1 b.Aa i k)) (gt b.Af.Aj (gt b.Aa.Ab i).Az.toNat) n 0) (bif ((gt b.Af.Aj (gt b.Aa.Ab i).Az.toNat).Aq.all fun a=>!((a.As==(k:Int))&&decide (a.Ar≤3))) then .nxt ((gt b.Af.Aj (gt b.Aa.Ab i).Az.toNat).Aq.length:Int) else .ret [(j:Int)-(k:Int)+(((gt b.Af.Aj (gt b.Aa.Ab i).Az.toNat).Ap.length:Int)-1)]) :=
    qjh (fun n=>by simp only [qdT,qj (jf _),cond_false]) (fun m hm X hX=>by
     simp only [qdT,qi hm,cond_true,qZ hm,je,wS m]
     rw [show (toSp (place1 b.Aa i k)).pin=(k:Int) from rfl]
     refine Ev.bind (b:=((gt b.Af.Aj (gt b.Aa.Ab i).Az.toNat).Aq[m].As==(k:Int))&&decide ((gt b.Af.Aj (gt b.Aa.Ab i).Az.toNat).Aq[m].Ar≤3)) (Ev.andP fun _=>.done) ?_
     cases (((gt b.Af.Aj (gt b.Aa.Ab i).Az.toNat).Aq[m].As==(k:Int))&&decide ((gt b.Af.Aj (gt b.Aa.Ab i).Az.toNat).Aq[m].Ar≤3))
     ·exact hX
     ·exact Ev.bind e2 .done)
   refine Ev.bind ⟨0,fun n _=>e1 n⟩ (Ev.bind hL2 ?_)
   have e3:dataB (gt b.Af.Aj (gt b.Aa.Ab i).Az.toNat) (place1 b.Aa i k).pin = !((gt b.Af.Aj (gt b.Aa.Ab i).Az.toNat).Aq.all fun a=>!((a.As==(k:Int))&&decide (a.Ar≤3))):=by
    unfold dataB
    rw [show (place1 b.Aa i k).pin=(k:Int) from rfl,jm]
    simp
   rw [e3,show (place1 b.Aa i k).pin=(k:Int) from rfl]
   cases ((gt b.Af.Aj (gt b.Aa.Ab i).Az.toNat).Aq.all fun a=>!((a.As==(k:Int))&&decide (a.Ar≤3)))<;>exact .done
  ·rw [e] at h0
   exact absurd h0 (by show ¬ decide ((-1:Int)<0)=false;decide)
theorem qeZ {b:qd} (h:blockB b=true) {j:Nat}:(succL b j).length≤78:=by
 have hs:=qw (qE h)
 have hl:=qM hs
 unfold succL
 cases (gt (places b.Aa) j).drives
 ·cases decide ((gt (places b.Aa) j).instance_<0)
  ·cases dataB (cellAt b (gt (places b.Aa) j).instance_) (gt (places b.Aa) j).pin
   ·exact jz _
   ·show 1≤78;omega
  ·exact jz _
 ·have h1:=Ja (freeB b) (sinksL b.Aa (gt (places b.Aa) j).net (places b.Aa).length)
  rw [qfv] at h1
  have:cntP (snkQ b.Aa (gt (places b.Aa) j).net) (places b.Aa).length≤(places b.Aa).length:=qeG
  simp only [cond_true]
  omega
def inPl (b:qd) (x:Int):Bool:=inI x 0 (((places b.Aa).length:Int)-1)
end Go.Fw


namespace Go.Fw
open Go
set_option maxRecDepth 100000
def CodeOk (code:List (IntK .u8)):Prop:=code.length≤1048576∧∀ x,x ∈ code→rng8 x
structure SrcI (code:List (IntK .u8)) (a s:Int):Prop where
 a0:0≤a
 a1:a≤(code.length:Int)
 s0:0≤s
 s1:s≤2147483646
theorem tm31 {x:Int} (h:0≤x):0≤x.tmod 2147483647∧x.tmod 2147483647≤2147483646:=by
 have h1:=Int.tmod_nonneg 2147483647 h
 have h2:=Int.tmod_lt_of_pos x (show (0:Int)<2147483647 by decide)
 omega
theorem qlB {x k:Int} (hk:0<k):remS x k=some (x.tmod k):=by unfold remS;rw [if_neg (by omega)]
theorem qdf (x:Int):okI (W64 x):=by
 unfold okI W64
 rw [Go.IntWalk.i64_left]
 unfold Go.RowKit.wrap64
 omega
theorem qac {x:Int} (h0:-4611686018427387904≤x) (h1:x≤4611686018427387904):okI x:=by unfold okI;omega
theorem qsO {code:List (IntK .u8)} (hc:CodeOk code):∃ s,Ev (fun n=>qjW n code) (some ⟨code,0,s⟩)∧SrcI code 0 s:=by
 have main:∀ k j i,j+k=code.length→0≤i→i≤2147483646→EvQ (fun n=>qek code n i (j:Int)) (fun o=>0≤o.1∧o.1≤2147483646):=by
  intro k
  induction k with
  | zero =>
   intro j i hj h0 h1
   refine EvQ.succ ?_
   simp only [qek,qj (show code.length≤j by omega),cond_false,je]
   exact EvQ.done ⟨h0,h1⟩
  | succ k ih =>
   intro j i hj h0 h1
   have hlt:j<code.length:=by omega
   have hl:=hc.1
   have hy:=hc.2 _ (jp hlt)
   unfold rng8 at hy
   refine EvQ.succ ?_
   simp only [qek,qi hlt,cond_true,je,qZ hlt,wS j]
   refine EvQ.bif (fun _=>?_) (fun _=>EvQ.done ⟨h0,h1⟩)
   have e1:W64 (i*31)=i*31:=qaz (by omega) (by omega)
   have e2:W64 code[j].val=code[j].val:=qaz (by omega) (by omega)
   have e3:W64 (i*31+code[j].val)=i*31+code[j].val:=qaz (by omega) (by omega)
   rw [e1,e2,e3]
   have h2:=tm31 (show 0≤i*31+code[j].val by omega)
   exact ih (j+1) _ (by omega) h2.1 h2.2
 obtain ⟨⟨s,j⟩,h1,h2,h3⟩:=main code.length 0 12345 (by omega) (by decide) (by decide)
 exact ⟨s,Ev.bind h1 .done,⟨Int.le_refl _,by omega,h2,h3⟩⟩
theorem qaq {code:List (IntK .u8)} {a s:Int} (k:Int) (hc:CodeOk code) (h:SrcI code a s) :
  EvQ (fun n=>qn n ⟨code,a,s⟩ k) (fun o=>((0≤o.1∧(1≤k→o.1<k))∧(k≤1→o.1=0))∧SrcI code o.2.1 o.2.2):=by
 obtain ⟨a0,a1,s0,s1⟩:=h
 have hl:=hc.1
 unfold qn
 refine EvQ.bif (fun h1=>EvQ.done ⟨⟨⟨Int.le_refl _,fun h=>by omega⟩,fun _=>rfl⟩,⟨a0,a1,s0,s1⟩⟩) (fun h1=>?_)
 have h1:1<k:=by have:=of_decide_eq_false h1;omega
 refine EvQ.bif (fun h2=>?_) (fun _=>?_)
 ·have h2:a<(code.length:Int):=of_decide_eq_true h2
  obtain ⟨j,rfl⟩:∃ j:Nat,a=(j:Int):=⟨a.toNat,by omega⟩
  have hlt:j<code.length:=by omega
  have hy:=hc.2 _ (jp hlt)
  unfold rng8 at hy
  have e2:W64 code[j].val=code[j].val:=qaz (by omega) (by omega)
  have ea:W64 ((j:Int)+1)=((j+1:Nat):Int):=qix (by omega)
  refine EvQ.bindN (qZ hlt) ?_
  rw [e2,ea]
  refine EvQ.bif (fun h3=>?_) (fun h3=>?_)
  ·refine EvQ.bindN (qlB (by omega)) (EvQ.done ⟨⟨⟨Int.tmod_nonneg _ hy.1,fun _=>Int.tmod_lt_of_pos _ (by omega)⟩,fun h=>by omega⟩,⟨by show (0:Int)≤((j+1:Nat):Int);omega,by show ((j+1:Nat):Int)≤_;omega,s0,s1⟩⟩)
  ·have e3:W64 (s*48271)=s*48271:=qaz (by omega) (by omega)
   have e4:W64 (s*48271+code[j].val)=s*48271+code[j].val:=qaz (by omega) (by omega)
   have e5:W64 (s*48271+code[j].val+1)=s*48271+code[j].val+1:=qaz (by omega) (by omega)
   rw [e3,e4,e5]
   have h4:=tm31 (show 0≤s*48271+code[j].val+1 by omega)
   exact EvQ.bindN (qlB (by omega)) (EvQ.done ⟨⟨⟨Int.tmod_nonneg _ h4.1,fun _=>Int.tmod_lt_of_pos _ (by omega)⟩,fun h=>by omega⟩,⟨by show (0:Int)≤((j+1:Nat):Int);omega,by show ((j+1:Nat):Int)≤_;omega,h4.1,h4.2⟩⟩)
 ·have e3:W64 (s*48271)=s*48271:=qaz (by omega) (by omega)
  have e4:W64 (s*48271+11)=s*48271+11:=qaz (by omega) (by omega)
  rw [e3,e4]
  have h4:=tm31 (show 0≤s*48271+11 by omega)
  have h5:0≤((s*48271+11).tmod 2147483647).tdiv 7:=Int.tdiv_nonneg h4.1 (by decide)
  have h6:((s*48271+11).tmod 2147483647).tdiv 7≤2147483646:=by
   rw [Int.tdiv_eq_ediv_of_nonneg h4.1];omega
  rw [qaz (x:=((s*48271+11).tmod 2147483647).tdiv 7) (by omega) (by omega)]
  exact EvQ.bindN (qlB (by omega)) (EvQ.done ⟨⟨⟨Int.tmod_nonneg _ h5,fun _=>Int.tmod_lt_of_pos _ (by omega)⟩,fun h=>by omega⟩,⟨a0,a1,h4.1,h4.2⟩⟩)
theorem qbw {α:Type} {ok:α→Prop} {xs:List α} {y:α} (h:∀ x,x ∈ xs→ok x) (hy:ok y):∀ x,x ∈ xs++[y]→ok x:=by
 intro x hx
 rcases List.mem_append.1 hx with hx|hx
 ·exact h x hx
 ·obtain rfl:=List.mem_singleton.1 hx;exact hy
theorem qcg {α:Type} {xs:List α} {y:α} (h:xs.length≤1048576):appS xs [y]=some (xs++[y]):=qbL (by simp;omega)
section
variable {code:List (IntK .u8)} {a s:Int}
theorem qsw {step:Int} (h0:1≤step) (h1:step≤1000) (hc:CodeOk code) (h:SrcI code a s) :
  EvQ (fun n=>qe9 n ⟨code,a,s⟩ step) (fun o=>(1≤o.1.length∧o.1.length≤3∧∀ x,x ∈ o.1→okI x)∧SrcI code o.2.1 o.2.2):=by
 have main:∀ (r:Nat) (x:List Int) (a' s' i9:Int),SrcI code a' s'→x.length+r≤3→(∀ y,y ∈ x→okI y)→okI i9 →
   EvQ (fun n=>qcB ⟨code,a,s⟩ step n x a' s' i9 (r:Int)) (fun o=>(o.1.length=x.length+r∧∀ y,y ∈ o.1→okI y)∧SrcI code o.2.1 o.2.2.1):=by
  intro r
  induction r with
  | zero =>
   intro x a' s' i9 hs hl hx hi
   refine EvQ.succ ?_
   simp only [qcB]
   exact EvQ.ff rfl (EvQ.done ⟨⟨rfl,hx⟩,hs⟩)
  | succ r ih =>
   intro x a' s' i9 hs hl hx hi
   refine EvQ.succ ?_
   simp only [qcB]
   refine EvQ.tt (by simp) (EvQ.bindN (qcg (by omega)) (EvQ.bind (qaq step hc hs) ?_))
   rintro ⟨i11,i12,i13⟩ ⟨_,hs'⟩
   have e:W64 (((r+1:Nat):Int)-1)=(r:Int):=by rw [qaz (by omega) (by omega)];omega
   dsimp only
   rw [e]
   exact (ih (x++[i9]) i12 i13 _ hs' (by rw [jj,jk];omega) (qbw hx hi) (qdf _)).mono (fun o ho=>⟨⟨by rw [ho.1.1,jj,jk];omega,ho.1.2⟩,ho.2⟩)
 unfold qe9
 refine EvQ.bind (qaq step hc h) ?_
 rintro ⟨i1,i2,i3⟩ ⟨⟨⟨p0,p1⟩,_⟩,hs⟩
 refine EvQ.bind (qaq 3 hc hs) ?_
 rintro ⟨i4,i5,i6⟩ ⟨⟨⟨q0,q1⟩,_⟩,hs⟩
 dsimp only at p0 p1 q0 q1 hs ⊢
 have q2:=q1 (by decide)
 have p2:=p1 h0
 obtain ⟨m,hm⟩:∃ m:Nat,1+i4=((m+1:Nat):Int):=⟨i4.toNat,by omega⟩
 rw [wO (1+i4),hm]
 refine EvQ.bind (main (m+1) [] i5 i6 i1 hs (by simp;omega) (fun _ h=>by cases h) (qac (by omega) (by omega))) ?_
 rintro ⟨x1,i7,i8,i9,i10⟩ ⟨⟨r1,r2⟩,hs⟩
 exact EvQ.done ⟨⟨by simp only at r1;simp at r1;dsimp only;omega,by simp only at r1;simp at r1;dsimp only;omega,r2⟩,hs⟩
theorem qr6 {c:Prop} [Decidable c] {x y:Int} (hx:okI x) (hy:okI y):okI (if c then x else y):=by split<;>assumption
theorem qqH {base:Int} (hc:CodeOk code) (h:SrcI code a s) :
  EvQ (fun n=>qg4 n ⟨code,a,s⟩ base) (fun o=>qhk o.1∧SrcI code o.2.1 o.2.2):=by
 unfold qg4
 refine EvQ.bind (qsw (by decide) (by decide) hc h) ?_
 rintro ⟨r1,i1,i2⟩ ⟨⟨l1,l2,l3⟩,hs⟩
 refine EvQ.bind (qsw (by decide) (by decide) hc hs) ?_
 rintro ⟨r2,i3,i4⟩ ⟨⟨m1,m2,m3⟩,hs⟩
 dsimp only at l1 l2 l3 m1 m2 m3 hs ⊢
 have hM:r1.length*r2.length≤3*3:=Nat.mul_le_mul l2 m2
 have main:∀ (d j:Nat) (x:List Int) (a' s':Int),SrcI code a' s'→j+d=r1.length*r2.length→x.length=j→(∀ y,y ∈ x→okI y) →
   EvQ (fun n=>qdt ⟨code,a,s⟩ base r1 r2 n x a' s' (j:Int)) (fun o=>(o.1.length≤9∧∀ y,y ∈ o.1→okI y)∧SrcI code o.2.1 o.2.2.1):=by
  intro d
  induction d with
  | zero =>
   intro j x a' s' hs hj hx hok
   refine EvQ.succ ?_
   simp only [qdt,qmL (show r1.length≤1048576 by omega) (show r2.length≤1048576 by omega)]
   have h9:x.length≤9:=by omega
   exact EvQ.ff (qj (by omega)) (EvQ.done ⟨⟨h9,hok⟩,hs⟩)
  | succ d ih =>
   intro j x a' s' hs hj hx hok
   refine EvQ.succ ?_
   simp only [qdt,qmL (show r1.length≤1048576 by omega) (show r2.length≤1048576 by omega)]
   refine EvQ.tt (qi (by omega)) (EvQ.bind (qaq 10 hc hs) ?_)
   rintro ⟨i8,i9,i10⟩ ⟨⟨⟨q0,q1⟩,_⟩,hs⟩
   dsimp only at q0 q1 hs ⊢
   refine EvQ.bindN (b:=((j % r2.length:Nat):Int)) (by rw [qlB (by omega),Int.ofNat_tmod]) ?_
   refine EvQ.bind (R:=fun o:Int × Int × Int=>SrcI code o.1 o.2.1∧okI o.2.2) ?_ ?_
   ·refine EvQ.bif (fun hc1=>?_) (fun _=>EvQ.done ⟨hs,qdf _⟩)
    have hj1:1≤j:=by
     rcases Nat.eq_zero_or_pos j with rfl|h2
     ·simp at hc1
     ·exact h2
    have e1:W64 ((j:Int)-1)=((j-1:Nat):Int):=by rw [qaz (by omega) (by omega)];omega
    rw [e1]
    refine EvQ.bindN (qZ (show j-1<x.length by omega)) (EvQ.bind (qaq 20 hc hs) ?_)
    rintro ⟨i17,i18,i19⟩ ⟨_,hs⟩
    exact EvQ.done ⟨hs,qr6 (qdf _) (qdf _)⟩
   ·rintro ⟨i11,i12,i13⟩ ⟨hs,hi⟩
    dsimp only at hs hi ⊢
    rw [wS j]
    refine EvQ.bif (fun hc1=>?_) (fun _=>?_)
    ·have hge:r2.length≤j:=by have:=of_decide_eq_true hc1;omega
     have e1:W64 ((j:Int)-(r2.length:Int))=((j-r2.length:Nat):Int):=by rw [qaz (by omega) (by omega)];omega
     rw [e1]
     refine EvQ.bindN (qZ (show j-r2.length<x.length by omega)) (EvQ.bind (qaq 20 hc hs) ?_)
     rintro ⟨i14,i15,i16⟩ ⟨_,hs⟩
     refine EvQ.bindN (qcg (by omega)) ?_
     exact ih (j+1) _ _ _ hs (by omega) (by rw [jj,jk];omega) (qbw hok (qr6 (qdf _) hi))
    ·refine EvQ.bindN (qcg (by omega)) ?_
     exact ih (j+1) _ _ _ hs (by omega) (by rw [jj,jk];omega) (qbw hok hi)
 refine EvQ.bind (main (r1.length*r2.length) 0 [] i3 i4 hs (by omega) rfl (fun _ h=>by cases h)) ?_
 rintro ⟨x1,i5,i6,i7⟩ ⟨⟨n1,n2⟩,hs⟩
 dsimp only at n1 n2 hs
 exact EvQ.done ⟨⟨⟨by dsimp only;omega,l3⟩,⟨by dsimp only;omega,m3⟩,⟨by dsimp only;omega,n2⟩⟩,hs⟩
theorem qnw {base:Int} (hc:CodeOk code) (h:SrcI code a s) :
  EvQ (fun n=>qcV n ⟨code,a,s⟩ base) (fun o=>okL qhk o.1∧SrcI code o.2.1 o.2.2):=by
 unfold qcV
 refine EvQ.bind (qqH hc h) ?_
 rintro ⟨r1,i1,i2⟩ ⟨h1,hs⟩
 refine EvQ.bind (qqH hc hs) ?_
 rintro ⟨r2,i3,i4⟩ ⟨h2,hs⟩
 refine EvQ.done ⟨⟨by simp,fun x hx=>?_⟩,hs⟩
 rcases List.mem_cons.1 hx with rfl|hx
 ·exact h1
 ·obtain rfl:=List.mem_singleton.1 hx;exact h2
theorem qoY {kind f t sense:Int} (hk:okI kind) (hf:okI f) (ht:okI t) (hse:okI sense) (hc:CodeOk code) (h:SrcI code a s) :
  EvQ (fun n=>qcK n ⟨code,a,s⟩ kind f t sense) (fun o=>qjM o.1∧SrcI code o.2.1 o.2.2):=by
 unfold qcK
 refine EvQ.bif (fun _=>?_) (fun _=>?_)
 ·refine EvQ.bind (qaq 10 hc h) ?_
  rintro ⟨i1,i2,i3⟩ ⟨_,hs⟩
  refine EvQ.bind (qnw hc hs) ?_
  rintro ⟨r1,i4,i5⟩ ⟨h1,hs⟩
  exact EvQ.done ⟨⟨hk,hf,ht,qac (x:=0) (by decide) (by decide),h1,⟨jz _,fun _ h=>by cases h⟩⟩,hs⟩
 ·refine EvQ.bind (qaq 20 hc h) ?_
  rintro ⟨i6,i7,i8⟩ ⟨_,hs⟩
  refine EvQ.bind (qnw hc hs) ?_
  rintro ⟨r2,i9,i10⟩ ⟨h2,hs⟩
  refine EvQ.bind (qnw hc hs) ?_
  rintro ⟨r3,i11,i12⟩ ⟨h3,hs⟩
  exact EvQ.done ⟨⟨hk,hf,ht,hse,h2,h3⟩,hs⟩
end
end Go.Fw


namespace Go.Fw
open Go
set_option maxRecDepth 100000
section
variable {code:List (IntK .u8)} {a s:Int}
theorem qs7 {q:Nat} (h:q≤8):W64 (2*(q:Int))=((q*2:Nat):Int):=by rw [qaz (by omega) (by omega)];omega
theorem Ev.add {α:Type} {f:Nat→Option α} {r:α} (k:Nat) (h:∀ m,f (m+k)=some r):Ev f r :=
 ⟨k,fun n hn=>by obtain ⟨m,rfl⟩:∃ m,n=m+k:=⟨n-k,by omega⟩;exact h m⟩
def SenseOk (k:Nat) (truth:List Int):Prop:=∀ (nm:ByteArray) (ps:List qak) (i j:Int) (p:Nat),p<k→EvQ (fun n=>qi4 n ⟨nm,1,ps,[],truth,i,j⟩ (p:Int)) okI
theorem qm2 {k:Nat} {nm:ByteArray} {truth:List Int} (hk:k≤3) (hl:truth.length=2 ^ k) (hs0:SenseOk k truth) (hnm:okS nm) (htr:∀ x,x ∈ truth→okI x) (hc:CodeOk code) (h:SrcI code a s) :
  EvQ (fun n=>qeI n ⟨code,a,s⟩ nm truth) (fun o=>qkU o.1∧SrcI code o.2.1 o.2.2):=by
 have hk8:(2:Nat) ^ k≤8:=by
  have:(2:Nat) ^ k≤2 ^ 3:=Nat.pow_le_pow_right (by decide) hk
  simpa using this
 have pins:∀ (d j:Nat) (x:List qak) (a' s':Int),SrcI code a' s'→j+d=k→x.length=j→(∀ y,y ∈ x→qjF y) →
   EvQ (fun n=>qem ⟨code,a,s⟩ truth n x a' s' ((2 ^ j:Nat):Int)) (fun o=>(o.1.length=k∧∀ y,y ∈ o.1→qjF y)∧SrcI code o.2.1 o.2.2.1):=by
  intro d
  induction d with
  | zero =>
   intro j x a' s' hs hj hx hok
   refine EvQ.succ ?_
   simp only [qem]
   have:j=k:=by omega
   subst this
   exact EvQ.ff (qj (by omega)) (EvQ.done ⟨⟨hx,hok⟩,hs⟩)
  | succ d ih =>
   intro j x a' s' hs hj hx hok
   refine EvQ.succ ?_
   simp only [qem]
   have hlt:(2:Nat) ^ j<2 ^ k:=Nat.pow_lt_pow_right (by decide) (by omega)
   refine EvQ.tt (qi (by omega)) ?_
   have hj4:j<4:=by omega
   refine EvQ.bindN (b:=([(⟨#[97]⟩:ByteArray),(⟨#[98]⟩:ByteArray),(⟨#[99]⟩:ByteArray),(⟨#[100]⟩:ByteArray)]:List ByteArray)[j]'(by simpa using hj4)) (by rw [hx];exact qZ (by simpa using hj4)) (EvQ.bind (qaq 9 hc hs) ?_)
   rintro ⟨i10,i11,i12⟩ ⟨_,hs⟩
   refine EvQ.bindN (qcg (by omega)) ?_
   have e:W64 (2*((2 ^ j:Nat):Int))=((2 ^ (j+1):Nat):Int):=by
    rw [Nat.pow_succ];exact qs7 (by omega)
   dsimp only
   rw [e]
   refine ih (j+1) _ _ _ hs (by omega) (by rw [jj,jk];omega) (qbw hok ⟨?_,qac (x:=1) (by decide) (by decide),qdf _,trivial⟩)
   rcases j with _|_|_|_|j
   ·show (1:Nat)≤1048576;decide
   ·show (1:Nat)≤1048576;decide
   ·show (1:Nat)≤1048576;decide
   ·show (1:Nat)≤1048576;decide
   ·omega
 unfold qeI
 refine EvQ.bind (qaq 50 hc h) ?_
 rintro ⟨i1,i2,i3⟩ ⟨⟨⟨p0,p1⟩,_⟩,hs⟩
 refine EvQ.bind (qaq 80 hc hs) ?_
 rintro ⟨i4,i5,i6⟩ ⟨⟨⟨q0,q1⟩,_⟩,hs⟩
 dsimp only at p0 p1 q0 q1
 have p2:=p1 (by decide)
 have q2:=q1 (by decide)
 refine EvQ.bind (pins k 0 [] i5 i6 hs (by omega) rfl (fun _ h=>by cases h)) ?_
 rintro ⟨x1,i7,i8,i9⟩ ⟨⟨hx1,hok1⟩,hs⟩
 dsimp only at hx1 hok1 hs ⊢
 refine EvQ.bindN (qcg (by omega)) ?_
 have arcs:∀ (d j:Nat) (x:List qav) (a' s':Int),SrcI code a' s'→j+d=k→x.length≤j→(∀ y,y ∈ x→qjM y) →
   EvQ (fun n=>qdl ⟨code,a,s⟩ nm truth i1 i4 x1 (x1++[(⟨(⟨#[121]⟩:ByteArray),2,0,false⟩:qak)]) n x a' s' (j:Int)) (fun o=>(o.1.length≤k∧∀ y,y ∈ o.1→qjM y)∧SrcI code o.2.1 o.2.2.1):=by
  intro d
  induction d with
  | zero =>
   intro j x a' s' hs hj hx hok
   refine EvQ.succ ?_
   simp only [qdl]
   have h9:x.length≤k:=by omega
   exact EvQ.ff (qj (by omega)) (EvQ.done ⟨⟨h9,hok⟩,hs⟩)
  | succ d ih =>
   intro j x a' s' hs hj hx hok
   refine EvQ.succ ?_
   simp only [qdl,wS j]
   refine EvQ.tt (qi (by omega)) (EvQ.bind (hs0 _ _ _ _ j (by omega)) (fun r1 hr1=>?_))
   refine EvQ.bif (fun _=>?_) (fun _=>ih (j+1) x a' s' hs (by omega) (by omega) hok)
   refine EvQ.bind (qoY (qac (by decide) (by decide)) (qac (by omega) (by omega)) (qac (by omega) (by omega)) hr1 hc hs) ?_
   rintro ⟨r2,i16,i17⟩ ⟨h2,hs⟩
   refine EvQ.bindN (qcg (by omega)) ?_
   exact ih (j+1) _ _ _ hs (by omega) (by rw [jj,jk];omega) (qbw hok h2)
 refine EvQ.bind (arcs k 0 [] i7 i8 hs (by omega) (jz _) (fun _ h=>by cases h)) ?_
 rintro ⟨x4,i13,i14,i15⟩ ⟨⟨hx4,hok4⟩,hs⟩
 dsimp only at hx4 hok4 hs
 refine EvQ.done ⟨⟨hnm,qac (x:=1) (by decide) (by decide),⟨?_,?_⟩,⟨?_,hok4⟩,⟨?_,htr⟩,qac (x:=i1) (by omega) (by omega),qac (x:=i4) (by omega) (by omega)⟩,hs⟩
 ·show (x1++_).length≤_
  rw [jj,jk];omega
 ·exact qbw hok1 ⟨by show (1:Nat)≤1048576;decide,qac (x:=2) (by decide) (by decide),qac (x:=0) (by decide) (by decide),trivial⟩
 ·show x4.length≤_;omega
 ·show truth.length≤_;omega
theorem qkl {xs:List Int} (h:xs.all (fun x=>decide (-1000≤x)&&decide (x≤1000))=true):∀ x,x ∈ xs→okI x:=by
 intro x hx
 have:=List.all_eq_true.1 h x hx
 simp only [jg,decide_eq_true_eq] at this
 exact qac (by omega) (by omega)
theorem qpT {nm:ByteArray} {kind edge:Int} (hnm:okS nm) (hk:okI kind) (he:okI edge) (hc:CodeOk code) (h:SrcI code a s) :
  EvQ (fun n=>qd1 n ⟨code,a,s⟩ nm kind edge) (fun o=>qkU o.1∧SrcI code o.2.1 o.2.2):=by
 have z:∀ x:Int,-1000≤x→x≤1000→okI x:=fun x h1 h2=>qac (by omega) (by omega)
 unfold qd1
 refine EvQ.bind (qaq 50 hc h) ?_
 rintro ⟨i1,i2,i3⟩ ⟨⟨⟨p0,p1⟩,_⟩,hs⟩
 refine EvQ.bind (qaq 80 hc hs) ?_
 rintro ⟨i4,i5,i6⟩ ⟨⟨⟨q0,q1⟩,_⟩,hs⟩
 dsimp only at p0 p1 q0 q1
 have p2:=p1 (by decide)
 have q2:=q1 (by decide)
 refine EvQ.bind (qaq 9 hc hs) ?_
 rintro ⟨i7,i8,i9⟩ ⟨_,hs⟩
 refine EvQ.bind (qaq 9 hc hs) ?_
 rintro ⟨i10,i11,i12⟩ ⟨_,hs⟩
 refine EvQ.bind (qoY he (z _ (by decide) (by decide)) (z _ (by decide) (by decide)) (z _ (by decide) (by decide)) hc hs) ?_
 rintro ⟨r1,i13,i14⟩ ⟨h1,hs⟩
 refine EvQ.bind (qoY (z _ (by decide) (by decide)) (z _ (by decide) (by decide)) (z _ (by decide) (by decide)) (z _ (by decide) (by decide)) hc hs) ?_
 rintro ⟨r2,i15,i16⟩ ⟨h2,hs⟩
 refine EvQ.bind (qoY (z _ (by decide) (by decide)) (z _ (by decide) (by decide)) (z _ (by decide) (by decide)) (z _ (by decide) (by decide)) hc hs) ?_
 rintro ⟨r3,i17,i18⟩ ⟨h3,hs⟩
 dsimp only at h1 h2 h3 hs ⊢
 have ha:∀ x,x ∈ [r1,r2,r3]→qjM x:=by
  intro x hx
  simp only [jN,jG,or_false] at hx
  rcases hx with rfl|rfl|rfl<;>assumption
 have hp:∀ x,x ∈ [(⟨(⟨#[100]⟩:ByteArray),1,W64 (1+i7),false⟩:qak),(⟨(⟨#[99,107]⟩:ByteArray),1,W64 (1+i10),true⟩:qak),(⟨(⟨#[113]⟩:ByteArray),2,0,false⟩:qak)]→qjF x:=by
  intro x hx
  simp only [jN,jG,or_false] at hx
  rcases hx with rfl|rfl|rfl
  ·exact ⟨by show (1:Nat)≤1048576;decide,z 1 (by decide) (by decide),qdf _,trivial⟩
  ·exact ⟨by show (2:Nat)≤1048576;decide,z 1 (by decide) (by decide),qdf _,trivial⟩
  ·exact ⟨by show (1:Nat)≤1048576;decide,z 2 (by decide) (by decide),z 0 (by decide) (by decide),trivial⟩
 refine EvQ.bif (fun _=>?_) (fun _=>?_)
 ·refine EvQ.bind (qoY (z _ (by decide) (by decide)) (z _ (by decide) (by decide)) (z _ (by decide) (by decide)) (z _ (by decide) (by decide)) hc hs) ?_
  rintro ⟨r4,i19,i20⟩ ⟨h4,hs⟩
  refine EvQ.bindN (qcg (by simp)) ?_
  exact EvQ.done ⟨⟨hnm,hk,⟨by simp,hp⟩,⟨by simp,qbw ha h4⟩,⟨jz _,fun _ h=>by cases h⟩,z i1 (by omega) (by omega),z i4 (by omega) (by omega)⟩,hs⟩
 ·exact EvQ.done ⟨⟨hnm,hk,⟨by simp,hp⟩,⟨by simp,ha⟩,⟨jz _,fun _ h=>by cases h⟩,z i1 (by omega) (by omega),z i4 (by omega) (by omega)⟩,hs⟩
theorem sense1a:SenseOk 1 [1,0]:=by
 intro nm ps i j p hp
 obtain rfl:p=0:=by omega
 exact ⟨_,Ev.add 4 (fun m=>rfl),qac (by decide) (by decide)⟩
theorem sense1b:SenseOk 1 [0,1]:=by
 intro nm ps i j p hp
 obtain rfl:p=0:=by omega
 exact ⟨_,Ev.add 4 (fun m=>rfl),qac (by decide) (by decide)⟩
theorem sense2a:SenseOk 2 [1,1,1,0]:=by
 intro nm ps i j p hp
 rcases p with _|_|p
 ·exact ⟨_,Ev.add 8 (fun m=>rfl),qac (by decide) (by decide)⟩
 ·exact ⟨_,Ev.add 8 (fun m=>rfl),qac (by decide) (by decide)⟩
 ·omega
theorem sense2b:SenseOk 2 [0,1,1,0]:=by
 intro nm ps i j p hp
 rcases p with _|_|p
 ·exact ⟨_,Ev.add 8 (fun m=>rfl),qac (by decide) (by decide)⟩
 ·exact ⟨_,Ev.add 8 (fun m=>rfl),qac (by decide) (by decide)⟩
 ·omega
theorem sense3:SenseOk 3 [0,1,0,1,0,0,1,1]:=by
 intro nm ps i j p hp
 rcases p with _|_|_|p
 ·exact ⟨_,Ev.add 12 (fun m=>rfl),qac (by decide) (by decide)⟩
 ·exact ⟨_,Ev.add 12 (fun m=>rfl),qac (by decide) (by decide)⟩
 ·exact ⟨_,Ev.add 12 (fun m=>rfl),qac (by decide) (by decide)⟩
 ·omega
theorem qt4 (hc:CodeOk code) (h:SrcI code a s):EvQ (fun n=>qip n ⟨code,a,s⟩) (fun o=>qf4 o.1∧SrcI code o.2.1 o.2.2):=by
 have z:∀ x:Int,-1000≤x→x≤1000→okI x:=fun x h1 h2=>qac (by omega) (by omega)
 unfold qip
 refine EvQ.bind (qm2 (k:=1) (by decide) rfl sense1a (by show (3:Nat)≤1048576;decide) (qkl rfl) hc h) ?_
 rintro ⟨r1,i1,i2⟩ ⟨h1,hs⟩
 refine EvQ.bind (qm2 (k:=1) (by decide) rfl sense1b (by show (3:Nat)≤1048576;decide) (qkl rfl) hc hs) ?_
 rintro ⟨r2,i3,i4⟩ ⟨h2,hs⟩
 refine EvQ.bind (qm2 (k:=2) (by decide) rfl sense2a (by show (4:Nat)≤1048576;decide) (qkl rfl) hc hs) ?_
 rintro ⟨r3,i5,i6⟩ ⟨h3,hs⟩
 refine EvQ.bind (qm2 (k:=2) (by decide) rfl sense2b (by show (3:Nat)≤1048576;decide) (qkl rfl) hc hs) ?_
 rintro ⟨r4,i7,i8⟩ ⟨h4,hs⟩
 refine EvQ.bind (qm2 (k:=3) (by decide) rfl sense3 (by show (3:Nat)≤1048576;decide) (qkl rfl) hc hs) ?_
 rintro ⟨r5,i9,i10⟩ ⟨h5,hs⟩
 refine EvQ.bind (qpT (by show (4:Nat)≤1048576;decide) (z _ (by decide) (by decide)) (z _ (by decide) (by decide)) hc hs) ?_
 rintro ⟨r6,i11,i12⟩ ⟨h6,hs⟩
 refine EvQ.bind (qpT (by show (5:Nat)≤1048576;decide) (z _ (by decide) (by decide)) (z _ (by decide) (by decide)) hc hs) ?_
 rintro ⟨r7,i13,i14⟩ ⟨h7,hs⟩
 refine EvQ.bind (qpT (by show (5:Nat)≤1048576;decide) (z _ (by decide) (by decide)) (z _ (by decide) (by decide)) hc hs) ?_
 rintro ⟨r8,i15,i16⟩ ⟨h8,hs⟩
 refine EvQ.done ⟨⟨⟨by simp,fun x hx=>?_⟩⟩,hs⟩
 simp only [jN,jG,or_false] at hx
 rcases hx with rfl|rfl|rfl|rfl|rfl|rfl|rfl|rfl<;>assumption
end
end Go.Fw


namespace Go.Fw
open Go
set_option maxRecDepth 100000
section
variable {code:List (IntK .u8)} {a s:Int}
theorem qkM (b:IntK .u8):(strOf [b]).size=1:=rfl
theorem qoF {x y:ByteArray} (h:x.size+y.size≤1048576):catB x y=some (x++y):=by
 unfold catB
 rw [if_pos]
 have:IntKind.i64.max=9223372036854775807:=rfl
 omega
theorem qsx:∀ (d:Nat) (k:Int),d≤15→0≤k→k<((10 ^ (d+1):Nat):Int)→EvQ (fun n=>qbl n k) (fun z=>z.size≤d+1):=by
 intro d
 induction d with
 | zero =>
  intro k hd h0 h1
  refine EvQ.succ ?_
  simp only [qbl]
  refine EvQ.ff (by simp;omega) (EvQ.tt (by simp;omega) (EvQ.done ?_))
  rw [qkM]
  exact jf _
 | succ d ih =>
  intro k hd h0 h1
  refine EvQ.succ ?_
  simp only [qbl]
  refine EvQ.ff (by simp;omega) (EvQ.bif (fun _=>EvQ.done (by rw [qkM];omega)) (fun h2=>?_))
  have hp:(10:Nat) ^ (d+1+1)≤10 ^ 17:=Nat.pow_le_pow_right (by decide) (by omega)
  have hk:k≤9223372036854775807:=by
   have:(10:Nat) ^ 17≤9223372036854775807:=by decide
   omega
  have e:k.tdiv 10=k / 10:=Int.tdiv_eq_ediv_of_nonneg h0
  have e1:W64 (k.tdiv 10)=k / 10:=by rw [e];exact qaz (by omega) (by omega)
  rw [e1]
  have hlt:k / 10<((10 ^ (d+1):Nat):Int):=by rw [Nat.pow_succ] at h1;omega
  refine EvQ.bind (ih (k / 10) (by omega) (by omega) hlt) (fun r2 hr2=>?_)
  refine EvQ.bindN (qoF (by rw [qkM];omega)) (EvQ.done ?_)
  rw [ByteArray.size_append,qkM]
  omega
theorem qqO {k:Nat} (h:k≤1000):EvQ (fun n=>qbl n (k:Int)) (fun z=>z.size≤4):=qsx 3 k (by decide) (by omega) (by omega)
theorem qs3 {y:Int} (h0:0≤y) (h1:y≤7):∃ p:Nat,idx ([2,2,3,3,4,3,3,3]:List Int) y=some (p:Int)∧2≤p∧p≤4:=by
 have:y=0∨y=1∨y=2∨y=3∨y=4∨y=5∨y=6∨y=7:=by omega
 rcases this with rfl|rfl|rfl|rfl|rfl|rfl|rfl|rfl
 ·exact ⟨2,rfl,by decide,by decide⟩
 ·exact ⟨2,rfl,by decide,by decide⟩
 ·exact ⟨3,rfl,by decide,by decide⟩
 ·exact ⟨3,rfl,by decide,by decide⟩
 ·exact ⟨4,rfl,by decide,by decide⟩
 ·exact ⟨3,rfl,by decide,by decide⟩
 ·exact ⟨3,rfl,by decide,by decide⟩
 ·exact ⟨3,rfl,by decide,by decide⟩
theorem qs1 {y:Int} (h0:0≤y) (h1:y<12):∃ p:Int,idx ([0,1,2,2,3,4,5,5,5,6,7,1]:List Int) y=some p∧0≤p∧p≤7:=by
 have:y=0∨y=1∨y=2∨y=3∨y=4∨y=5∨y=6∨y=7∨y=8∨y=9∨y=10∨y=11:=by omega
 rcases this with rfl|rfl|rfl|rfl|rfl|rfl|rfl|rfl|rfl|rfl|rfl|rfl<;>exact ⟨_,rfl,by decide,by decide⟩
theorem qiU {α:Type} {xs:List α} (h:xs.length≤1048576):appS ([]:List α) xs=some xs:=by
 have:=qbL (xs:=([]:List α)) (ys:=xs) (by simp;omega)
 rwa [List.nil_append] at this
theorem qtQ {x2:List ByteArray} {y1:Int} {p:Nat} (hp:idx ([2,2,3,3,4,3,3,3]:List Int) y1=some (p:Int)) (h2:2≤p) (h4:p≤4) (hx2:x2.length≤100) (hc:CodeOk code) :
  ∀ (d j:Nat) (x:List Int) (a' s':Int),SrcI code a' s'→j+d+1=p→x.length=j→(∀ y,y ∈ x→okI y) →
   EvQ (fun n=>qdr ⟨code,a,s⟩ x2 y1 n x a' s' (j:Int)) (fun o=>(o.1.length+1=p∧∀ y,y ∈ o.1→okI y)∧SrcI code o.2.1 o.2.2.1):=by
 have ep:W64 ((p:Int)-1)=((p-1:Nat):Int):=by rw [qaz (by omega) (by omega)];omega
 intro d
 induction d with
 | zero =>
  intro j x a' s' hs hj hx hok
  refine EvQ.succ ?_
  simp only [qdr]
  refine EvQ.bindN hp ?_
  rw [ep]
  exact EvQ.ff (qj (by omega)) (EvQ.done ⟨⟨by dsimp only;omega,hok⟩,hs⟩)
 | succ d ih =>
  intro j x a' s' hs hj hx hok
  refine EvQ.succ ?_
  simp only [qdr]
  refine EvQ.bindN hp ?_
  rw [ep]
  refine EvQ.tt (qi (by omega)) (EvQ.bind (qaq _ hc hs) ?_)
  rintro ⟨i13,i14,i15⟩ ⟨_,hs⟩
  refine EvQ.bind (qaq 3 hc hs) ?_
  rintro ⟨i16,i17,i18⟩ ⟨_,hs⟩
  refine EvQ.bind (R:=okI) (EvQ.bif (fun _=>EvQ.done (qdf _)) (fun _=>EvQ.done (qdf _))) (fun i19 hi=>?_)
  refine EvQ.bind (R:=fun _=>True) (EvQ.bif (fun _=>EvQ.done trivial) (fun _=>EvQ.done trivial)) (fun b3 _=>?_)
  rw [wS j]
  refine EvQ.bif (fun _=>?_) (fun _=>?_)
  ·exact EvQ.bindN (qiU (by omega)) (EvQ.bindN (qcg (by omega)) (ih (j+1) _ _ _ hs (by omega) (by rw [jj,jk];omega) (qbw hok (qac (by decide) (by decide)))))
  ·exact EvQ.bindN (qiU (by omega)) (EvQ.bindN (qcg (by omega)) (ih (j+1) _ _ _ hs (by omega) (by rw [jj,jk];omega) (qbw hok hi)))
structure InsI (x:qz):Prop where
 ok:qmq x
 l2:2≤x.Ai.length
 l5:x.Ai.length≤5
theorem qsQ (hc:CodeOk code):∀ (r:Nat) (x2:List ByteArray) (x3:List qz) (a' s':Int),SrcI code a' s'→x3.length+r≤14→x2.length=x3.length+3→(∀ y,y ∈ x2→okS y)→(∀ y,y ∈ x3→InsI y) →
  EvQ (fun n=>qej ⟨code,a,s⟩ n x2 x3 a' s' (r:Int)) (fun o=>(o.1.length=o.2.1.length+3∧o.2.1.length=x3.length+r∧(∀ y,y ∈ o.1→okS y)∧∀ y,y ∈ o.2.1→InsI y)∧SrcI code o.2.2.1 o.2.2.2.1):=by
 intro r
 induction r with
 | zero =>
  intro x2 x3 a' s' hs hl h23 h2 h3
  refine EvQ.succ ?_
  simp only [qej]
  exact EvQ.ff rfl (EvQ.done ⟨⟨h23,rfl,h2,h3⟩,hs⟩)
 | succ r ih =>
  intro x2 x3 a' s' hs hl h23 h2 h3
  refine EvQ.succ ?_
  simp only [qej]
  refine EvQ.tt (by simp) (EvQ.bind (qaq 12 hc hs) ?_)
  rintro ⟨i7,i8,i9⟩ ⟨⟨⟨q0,q1⟩,_⟩,hs⟩
  dsimp only at q0 q1 hs ⊢
  obtain ⟨y1,hy1,y10,y17⟩:=qs1 q0 (q1 (by decide))
  obtain ⟨p,hp,p2,p4⟩:=qs3 y10 y17
  refine EvQ.bindN hy1 (EvQ.bind (qqO (show x3.length≤1000 by omega)) (fun r1 hr1=>?_))
  have z1:(⟨#[117]⟩:ByteArray).size=1:=rfl
  have z2:(⟨#[110]⟩:ByteArray).size=1:=rfl
  refine EvQ.bindN (qoF (by rw [z1];omega)) (EvQ.bind (qtQ hp p2 p4 (by omega) hc (p-1) 0 [] i8 i9 hs (by omega) rfl (fun _ h=>by cases h)) ?_)
  rintro ⟨x4,i10,i11,i12⟩ ⟨⟨hx4,hok4⟩,hs⟩
  dsimp only at hx4 hok4 hs ⊢
  refine EvQ.bindN (qiU (by omega)) (EvQ.bindN (qcg (by omega)) (EvQ.bind (qqO (show x2.length≤1000 by omega)) (fun r2 hr2=>?_)))
  refine EvQ.bindN (qoF (by rw [z2];omega)) (EvQ.bindN (qcg (by omega)) (EvQ.bindN (qcg (by omega)) ?_))
  have e:W64 (((r+1:Nat):Int)-1)=(r:Int):=by rw [qaz (by omega) (by omega)];omega
  rw [e]
  refine (ih _ _ _ _ hs (by rw [jj,jk];omega) (by rw [jj,jj,jk,jk];omega) (qbw h2 (by show (_++_:ByteArray).size≤_;rw [ByteArray.size_append,z2];omega))
   (qbw h3 ⟨⟨by show (_++_:ByteArray).size≤_;rw [ByteArray.size_append,z1];omega,qac (x:=y1) (by omega) (by omega),⟨by show (_++_:List Int).length≤_;rw [jj,jk];omega,qbw hok4 (qac (by omega) (by omega))⟩⟩,by show _≤(_++_:List Int).length;rw [jj,jk];omega,by show (_++_:List Int).length≤_;rw [jj,jk];omega⟩)).mono (fun o ho=>⟨⟨ho.1.1,by rw [ho.1.2.1,jj,jk];omega,ho.1.2.2⟩,ho.2⟩)
theorem qhf {α:Type} {ok:α→Prop} {xs:List α} {j:Int} {y:α} (h:∀ x,x ∈ xs→ok x) (hy:ok y):∀ x,x ∈ setS xs j y→ok x:=by
 intro x hx
 unfold setS at hx
 rcases List.mem_or_eq_of_mem_set hx with hx|rfl
 ·exact h x hx
 ·exact hy
theorem qua {wild:Bool} {x2:List ByteArray} {x3:List qz} (hl:x3.length≤14) (hx2:x2.length≤100) (hc:CodeOk code):∀ (d j:Nat) (x:List qz) (a' s':Int),SrcI code a' s'→j+d=x3.length→x.length=x3.length→(∀ y,y ∈ x→InsI y) →
  EvQ (fun n=>qdq ⟨code,a,s⟩ wild x2 x3 n x a' s' (j:Int)) (fun o=>(o.1.length=x3.length∧∀ y,y ∈ o.1→InsI y)∧SrcI code o.2.1 o.2.2.1):=by
 intro d
 induction d with
 | zero =>
  intro j x a' s' hs hj hx hok
  refine EvQ.succ ?_
  simp only [qdq]
  exact EvQ.ff (qj (by omega)) (EvQ.done ⟨⟨hx,hok⟩,hs⟩)
 | succ d ih =>
  intro j x a' s' hs hj hx hok
  have hjx:j<x.length:=by omega
  refine EvQ.succ ?_
  simp only [qdq,wS j]
  refine EvQ.tt (qi (by omega)) (EvQ.bind (R:=fun o:Int × Int × Bool=>SrcI code o.1 o.2.1) (EvQ.bind (qaq 4 hc hs) ?_) ?_)
  ·rintro ⟨i28,i29,i30⟩ ⟨_,hs⟩
   refine EvQ.bif (fun _=>?_) (fun _=>EvQ.done hs)
   refine EvQ.bindN (qZ hjx) (EvQ.bif (fun _=>EvQ.done hs) (fun _=>EvQ.bindN (qZ hjx) (EvQ.bif (fun _=>EvQ.done hs) (fun _=>EvQ.done hs))))
  ·rintro ⟨i23,i24,b4⟩ hs
   dsimp only at hs ⊢
   refine EvQ.bif (fun _=>?_) (fun _=>ih (j+1) x _ _ hs (by omega) hx hok)
   refine EvQ.bindN (qZ hjx) (EvQ.bind (qaq _ hc hs) ?_)
   rintro ⟨i25,i26,i27⟩ ⟨_,hs⟩
   have hi:=hok _ (jp hjx)
   have h0:0<x[j].Ai.length:=by have:=hi.l2;omega
   refine EvQ.bindN (b:=x[j].Ai[0]) (qZ (j:=0) h0) ?_
   refine ih (j+1) _ _ _ hs (by omega) (by rw [qdd];exact hx) (qhf hok ⟨⟨hi.ok.Au,hi.ok.Az,⟨by show (setS _ _ _).length≤_;rw [qdd];exact hi.ok.Ai.1,qhf hi.ok.Ai.2 (qdf _)⟩⟩,by show _≤(setS _ _ _).length;rw [qdd];exact hi.l2,by show (setS _ _ _).length≤_;rw [qdd];exact hi.l5⟩)
structure DesI (d:qg):Prop where
 ok:qis d
 sm:smallD d
 n1:1≤d.Ai.length
 p1:1≤d.Ac.length
theorem qsn {most:Int} {wild:Bool} (h2:2≤most) (h14:most≤14) (hc:CodeOk code) (h:SrcI code a s) :
  EvQ (fun n=>qid n ⟨code,a,s⟩ most wild) (fun o=>DesI o.1∧SrcI code o.2.1 o.2.2):=by
 have z:∀ x:Int,-1000≤x→x≤1000→okI x:=fun x h1 h2=>qac (by omega) (by omega)
 unfold qid
 refine EvQ.bindN (qiU (by simp)) (EvQ.bind (qaq _ hc h) ?_)
 rintro ⟨i1,i2,i3⟩ ⟨⟨⟨q0,q1⟩,_⟩,hs⟩
 have em:W64 (most-1)=most-1:=qaz (by omega) (by omega)
 rw [em] at q1
 dsimp only at q0 q1 hs ⊢
 have q2:=q1 (by omega)
 obtain ⟨m,hm⟩:∃ m:Nat,2+i1=(m:Int):=⟨(2+i1).toNat,by omega⟩
 rw [wO (2+i1),hm]
 have hn0:∀ y,y ∈ [(⟨#[110,99,107]⟩:ByteArray),(⟨#[110,97]⟩:ByteArray),(⟨#[110,98]⟩:ByteArray)]→okS y:=by
  intro y hy
  simp only [jN,jG,or_false] at hy
  rcases hy with rfl|rfl|rfl
  ·show (3:Nat)≤1048576;decide
  ·show (2:Nat)≤1048576;decide
  ·show (2:Nat)≤1048576;decide
 refine EvQ.bind (qsQ hc m _ [] i2 i3 hs (by simp;omega) rfl hn0 (fun _ h=>by cases h)) ?_
 rintro ⟨x2,x3,i4,i5,i6⟩ ⟨⟨l23,l3,hn,hi⟩,hs⟩
 dsimp only at l23 l3 hn hi hs ⊢
 have l3:x3.length=m:=by simpa using l3
 refine EvQ.bind (qua (wild:=wild) (by omega) (by omega) hc x3.length 0 x3 i4 i5 hs (by omega) rfl hi) ?_
 rintro ⟨x13,i20,i21,i22⟩ ⟨⟨l13,h13⟩,hs⟩
 dsimp only at l13 h13 hs ⊢
 have hp:∀ y,y ∈ [(⟨(⟨#[99,107]⟩:ByteArray),1,0⟩:qam),(⟨(⟨#[97]⟩:ByteArray),1,1⟩:qam),(⟨(⟨#[98]⟩:ByteArray),1,2⟩:qam)]→qoS y:=by
  intro y hy
  simp only [jN,jG,or_false] at hy
  rcases hy with rfl|rfl|rfl
  ·exact ⟨by show (2:Nat)≤1048576;decide,z _ (by decide) (by decide),z _ (by decide) (by decide)⟩
  ·exact ⟨by show (1:Nat)≤1048576;decide,z _ (by decide) (by decide),z _ (by decide) (by decide)⟩
  ·exact ⟨by show (1:Nat)≤1048576;decide,z _ (by decide) (by decide),z _ (by decide) (by decide)⟩
 refine EvQ.bindN (qiU (by simp)) (EvQ.bindN (qcg (by simp)) (EvQ.bind (qaq 2 hc hs) ?_))
 have hp2:=qbw (y:=(⟨(⟨#[121]⟩:ByteArray),2,W64 ((x2.length:Int)-1)⟩:qam)) hp ⟨by show (1:Nat)≤1048576;decide,z 2 (by decide) (by decide),qdf _⟩
 have fin:∀ {ps:List qam},1≤ps.length→ps.length≤8→(∀ y,y ∈ ps→qoS y)→DesI ⟨x13,x2,ps⟩:=fun {ps} h1 h8 hps=>by
  refine ⟨⟨⟨by show x13.length≤_;omega,fun y hy=>(h13 y hy).ok⟩,⟨by show x2.length≤_;omega,hn⟩,⟨by show ps.length≤_;omega,hps⟩⟩,⟨by show x13.length≤_;omega,by show x2.length≤_;omega,h8,fun i hi=>?_⟩,by show 1≤x2.length;omega,h1⟩
  have hi':i<x13.length:=hi
  have:=h13 _ (jp hi')
  show 2≤(gt x13 i).Ai.length∧(gt x13 i).Ai.length≤5
  rw [qhS hi']
  exact ⟨this.l2,this.l5⟩
 rintro ⟨i31,i32,i33⟩ ⟨_,hs⟩
 refine EvQ.bif (fun _=>?_) (fun _=>EvQ.done ⟨fin (by simp) (by simp) hp2,hs⟩)
 refine EvQ.bind (qaq _ hc hs) ?_
 rintro ⟨i34,i35,i36⟩ ⟨_,hs⟩
 exact EvQ.bindN (qcg (by simp)) (EvQ.done ⟨fin (by simp) (by simp) (qbw hp2 ⟨by show (1:Nat)≤1048576;decide,z 2 (by decide) (by decide),qdf _⟩),hs⟩)
end
end Go.Fw


namespace Go.Fw
open Go
set_option maxRecDepth 100000
section
variable {code:List (IntK .u8)} {a s:Int}
structure WirI (x:qae):Prop where
 ok:qlR x
 p1:1≤x.Ak.length∧x.Ak.length≤100
 r1:1≤x.Bh.length
 c1:1≤x.Bd.length
 s1:x.Ay.length≤100
theorem qmS {xs:List Int} (h:xs.length≤1048576):Ev (fun n=>qfo n xs) xs:=by
 unfold qfo
 exact Ev.bindN (qiU h) .done
theorem qsV (hc:CodeOk code):∀ (r:Nat) (x1 x2 x3:List Int) (a' s':Int),SrcI code a' s'→r≤10→(1≤x1.length∧x1.length+r≤50)→(1≤x2.length∧x2.length+r≤50)→(1≤x3.length∧x3.length+r≤50) →
  (∀ y,y ∈ x1→okI y)→(∀ y,y ∈ x2→okI y)→(∀ y,y ∈ x3→okI y) →
  EvQ (fun n=>qcw ⟨code,a,s⟩ n x1 x2 x3 a' s' (r:Int)) (fun o=>(((1≤o.1.length∧o.1.length≤50)∧∀ y,y ∈ o.1→okI y)∧((1≤o.2.1.length∧o.2.1.length≤50)∧∀ y,y ∈ o.2.1→okI y)∧(1≤o.2.2.1.length∧o.2.2.1.length≤50)∧∀ y,y ∈ o.2.2.1→okI y)∧SrcI code o.2.2.2.1 o.2.2.2.2.1):=by
 intro r
 induction r with
 | zero =>
  intro x1 x2 x3 a' s' hs hr l1 l2 l3 h1 h2 h3
  refine EvQ.succ ?_
  simp only [qcw]
  exact EvQ.ff rfl (EvQ.done ⟨⟨⟨⟨l1.1,by dsimp only;omega⟩,h1⟩,⟨⟨l2.1,by dsimp only;omega⟩,h2⟩,⟨l3.1,by dsimp only;omega⟩,h3⟩,hs⟩)
 | succ r ih =>
  intro x1 x2 x3 a' s' hs hr l1 l2 l3 h1 h2 h3
  have e:W64 (((r+1:Nat):Int)-1)=(r:Int):=by rw [qaz (by omega) (by omega)];omega
  have ok_n:∀ {x:Int} {k:Int},0≤x→x<k→k≤1000→okI x:=fun h0 h1 h2=>qac (by omega) (by omega)
  refine EvQ.succ ?_
  simp only [qcw,e]
  refine EvQ.tt (by simp) (EvQ.bindE (qmS (by omega)) (EvQ.bind (qaq _ hc hs) ?_))
  rintro ⟨i10,i11,i12⟩ ⟨⟨⟨p0,p1⟩,_⟩,hs⟩
  refine EvQ.bindN (qcg (by omega)) (EvQ.bindE (qmS (by omega)) (EvQ.bind (qaq _ hc hs) ?_))
  rintro ⟨i13,i14,i15⟩ ⟨⟨⟨q0,q1⟩,_⟩,hs⟩
  refine EvQ.bindN (qcg (by omega)) (EvQ.bindE (qmS (by omega)) (EvQ.bind (qaq _ hc hs) ?_))
  rintro ⟨i16,i17,i18⟩ ⟨⟨⟨t0,t1⟩,_⟩,hs⟩
  dsimp only at p0 p1 q0 q1 t0 t1 hs
  refine EvQ.bindN (qcg (by omega)) ?_
  exact ih _ _ _ _ _ hs (by omega) (by rw [jj,jk];omega) (by rw [jj,jk];omega) (by rw [jj,jk];omega)
   (qbw h1 (ok_n t0 (t1 (by decide)) (by decide))) (qbw h2 (ok_n q0 (q1 (by decide)) (by decide))) (qbw h3 (ok_n p0 (p1 (by omega)) (by omega)))
theorem qtk {r1:qae} {x3:List Int} (hc:CodeOk code) (hl:r1.Ay.length≤100) (h3:1≤x3.length∧x3.length≤50):∀ (d j:Nat) (x:List Int) (a' s':Int),SrcI code a' s'→j+d=r1.Ay.length→x.length=r1.Ay.length→(∀ y,y ∈ x→okI y) →
  EvQ (fun n=>qcA ⟨code,a,s⟩ r1 x3 n x a' s' (j:Int)) (fun o=>(o.1.length=r1.Ay.length∧∀ y,y ∈ o.1→okI y)∧SrcI code o.2.1 o.2.2.1):=by
 intro d
 induction d with
 | zero =>
  intro j x a' s' hs hj hx hok
  refine EvQ.succ ?_
  simp only [qcA]
  exact EvQ.ff (qj (by omega)) (EvQ.done ⟨⟨hx,hok⟩,hs⟩)
 | succ d ih =>
  intro j x a' s' hs hj hx hok
  refine EvQ.succ ?_
  simp only [qcA,wS j]
  refine EvQ.tt (qi (by omega)) (EvQ.bind (qaq _ hc hs) ?_)
  rintro ⟨i22,i23,i24⟩ ⟨⟨⟨q0,q1⟩,_⟩,hs⟩
  dsimp only at q0 q1 hs ⊢
  have q2:=q1 (by omega)
  exact EvQ.bindN (qZ (show j<x.length by omega)) (ih (j+1) _ _ _ hs (by omega) (by rw [qdd];exact hx) (qhf hok (qac (by omega) (by omega))))
theorem qtD {m:Nat} (hm:m≤100) (hc:CodeOk code) (h:SrcI code a s):EvQ (fun n=>qgk n ⟨code,a,s⟩ (m:Int)) (fun o=>WirI o.1∧SrcI code o.2.1 o.2.2):=by
 have z:∀ x:Int,-1000≤x→x≤1000→okI x:=fun x h1 h2=>qac (by omega) (by omega)
 unfold qgk
 refine EvQ.bind (qaq 6 hc h) ?_
 rintro ⟨i1,i2,i3⟩ ⟨⟨⟨p0,p1⟩,_⟩,hs⟩
 dsimp only at p0 p1 hs ⊢
 have p2:=p1 (by decide)
 have hL:Ev (fun n=>qg8 n (m:Int) i1) (⟨[-1],[0],[i1],List.replicate m 0⟩:qae):=by
  unfold qg8
  exact Ev.bindN (qoQ (by omega)) .done
 refine EvQ.bindE hL (EvQ.bind (qaq 4 hc hs) ?_)
 rintro ⟨i4,i5,i6⟩ ⟨⟨⟨q0,q1⟩,_⟩,hs⟩
 dsimp only at q0 q1 hs ⊢
 have q2:=q1 (by decide)
 obtain ⟨r,rfl⟩:∃ r:Nat,i4=(r:Int):=⟨i4.toNat,by omega⟩
 have one:∀ {x:Int},okI x→∀ y,y ∈ [x]→okI y:=fun hx y hy=>by obtain rfl:=List.mem_singleton.1 hy;exact hx
 refine EvQ.bind (qsV hc r [i1] [0] [-1] i5 i6 hs (by omega) (by simp;omega) (by simp;omega) (by simp;omega) (one (z _ (by omega) (by omega))) (one (z _ (by decide) (by decide))) (one (z _ (by decide) (by decide)))) ?_
 rintro ⟨x1,x2,x3,i7,i8,i9⟩ ⟨⟨⟨l1,h1⟩,⟨l2,h2⟩,l3,h3⟩,hs⟩
 dsimp only at l1 h1 l2 h2 l3 h3 hs ⊢
 refine EvQ.bind (qtk (r1:=⟨[-1],[0],[i1],List.replicate m 0⟩) hc (by simp;omega) l3 m 0 (List.replicate m 0) i7 i8 hs (by simp) rfl (fun y hy=>by obtain ⟨_,rfl⟩:=List.mem_replicate.1 hy;exact z _ (by decide) (by decide))) ?_
 rintro ⟨x7,i19,i20,i21⟩ ⟨⟨l7,h7⟩,hs⟩
 have l7:x7.length=m:=by simpa using l7
 exact EvQ.done ⟨⟨⟨⟨by show x3.length≤_;omega,h3⟩,⟨by show x2.length≤_;omega,h2⟩,⟨by show x1.length≤_;omega,h1⟩,⟨by show x7.length≤_;omega,h7⟩⟩,⟨l3.1,by show x3.length≤_;omega⟩,l2.1,l1.1,by show x7.length≤_;omega⟩,hs⟩
structure BlkI (b:qd):Prop where
 lib:qf4 b.Af
 des:DesI b.Aa
 wl:b.Ah.length=b.Aa.Ai.length
 wi:∀ y,y ∈ b.Ah→WirI y
theorem BlkI.ok {b:qd} (h:BlkI b):qbn b:=⟨h.lib,h.des.ok,⟨by rw [h.wl];exact h.des.ok.Ai.1,fun y hy=>(h.wi y hy).ok⟩⟩
theorem qqR {most:Int} {wild:Bool} (h2:2≤most) (h14:most≤14) (hc:CodeOk code) (h:SrcI code a s) :
  EvQ (fun n=>qg3 n ⟨code,a,s⟩ most wild) (fun o=>BlkI o.1∧SrcI code o.2.1 o.2.2):=by
 unfold qg3
 refine EvQ.bind (qt4 hc h) ?_
 rintro ⟨r1,i1,i2⟩ ⟨hl,hs⟩
 refine EvQ.bind (qsn h2 h14 hc hs) ?_
 rintro ⟨r2,i3,i4⟩ ⟨hd,hs⟩
 dsimp only at hl hd hs ⊢
 have hnn:=hd.sm.nn
 have hpl:=qM hd.sm
 have main:∀ (d j:Nat) (x:List qae) (a' s':Int),SrcI code a' s'→j+d=r2.Ai.length→x.length=j→(∀ y,y ∈ x→WirI y) →
   EvQ (fun n=>qel ⟨code,a,s⟩ r2 n x a' s' (j:Int)) (fun o=>(o.1.length=r2.Ai.length∧∀ y,y ∈ o.1→WirI y)∧SrcI code o.2.1 o.2.2.1):=by
  intro d
  induction d with
  | zero =>
   intro j x a' s' hs hj hx hok
   refine EvQ.succ ?_
   simp only [qel]
   exact EvQ.ff (qj (by omega)) (EvQ.done ⟨⟨by dsimp only;omega,hok⟩,hs⟩)
  | succ d ih =>
   intro j x a' s' hs hj hx hok
   refine EvQ.succ ?_
   simp only [qel,wS j]
   have hsl:(sinksL r2 (j:Int) (places r2).length).length≤78:=by
    have:(sinksL r2 (j:Int) (places r2).length).length≤(places r2).length:=by
     unfold sinksL
     rw [jH]
     refine jS (Ja _ _) ?_
     rw [List.length_range];exact jf _
    omega
   refine EvQ.tt (qi (by omega)) (EvQ.bindE (qko hd.sm) (EvQ.bind (qtD (by omega) hc hs) ?_))
   rintro ⟨r4,i8,i9⟩ ⟨h4,hs⟩
   exact EvQ.bindN (qcg (by omega)) (ih (j+1) _ _ _ hs (by omega) (by rw [jj,jk];omega) (qbw hok h4))
 refine EvQ.bind (main r2.Ai.length 0 [] i3 i4 hs (by omega) rfl (fun _ h=>by cases h)) ?_
 rintro ⟨x1,i5,i6,i7⟩ ⟨⟨l1,h1⟩,hs⟩
 exact EvQ.done ⟨⟨hl,hd,l1,h1⟩,hs⟩
structure BlkO (b:qd):Prop where
 ok:qbn b
 sm:smallD b.Aa
theorem qp2 (hc:CodeOk code) (h:SrcI code a s):EvQ (fun n=>qgJ n ⟨code,a,s⟩) (fun o=>BlkO o.1∧SrcI code o.2.1 o.2.2):=by
 unfold qgJ
 refine EvQ.bind (qaq 3 hc h) ?_
 rintro ⟨i1,i2,i3⟩ ⟨_,hs⟩
 refine EvQ.bind (qqR (by decide) (by decide) hc hs) ?_
 rintro ⟨r1,i4,i5⟩ ⟨hb,hs⟩
 dsimp only at hb hs ⊢
 have hw1:1≤r1.Ah.length:=by rw [hb.wl];exact hb.des.n1
 have hw2:r1.Ah.length≤30:=by rw [hb.wl];exact hb.des.sm.nn
 refine EvQ.bind (qaq _ hc hs) ?_
 rintro ⟨i6,i7,i8⟩ ⟨⟨⟨q0,q1⟩,_⟩,hs⟩
 dsimp only at q0 q1 hs ⊢
 have q2:=q1 (by omega)
 obtain ⟨k,rfl⟩:∃ k:Nat,i6=(k:Int):=⟨i6.toNat,by omega⟩
 have hk:k<r1.Ah.length:=by omega
 have hy:=hb.wi _ (jp hk)
 have W:∀ {y:qae},qlR y→BlkO ⟨r1.Af,r1.Aa,setS r1.Ah (k:Int) y⟩:=fun {y} h=>⟨⟨hb.lib,hb.des.ok,⟨by show (setS _ _ _).length≤_;rw [qdd];omega,qhf (fun y hy=>(hb.wi y hy).ok) h⟩⟩,hb.des.sm⟩
 have z:∀ x:Int,-1000≤x→x≤1000→okI x:=fun x h1 h2=>qac (by omega) (by omega)
 have hp:=hy.p1
 have hr:=hy.r1
 have hcp:=hy.c1
 have hsk:=hy.s1
 refine EvQ.bind (qaq 20 hc hs) ?_
 rintro ⟨i9,i10,i11⟩ ⟨_,hs⟩
 dsimp only at hs ⊢
 refine EvQ.bif (fun _=>?_) (fun _=>EvQ.bif (fun _=>?_) (fun _=>EvQ.bif (fun _=>?_) (fun _=>EvQ.bif (fun _=>?_) (fun _=>EvQ.bif (fun _=>?_) (fun _=>EvQ.bif (fun _=>?_) (fun _=>EvQ.done ⟨⟨hb.ok,hb.des.sm⟩,hs⟩))))))
 ·have e:subS r1.Ah 1 (r1.Ah.length:Int)=some (r1.Ah.drop 1):=by
   unfold subS
   rw [if_pos (by omega)]
   simp
  refine EvQ.bindN e (EvQ.done ⟨⟨⟨hb.lib,hb.des.ok,⟨by show (r1.Ah.drop 1).length≤_;rw [List.length_drop];omega,fun y hy=>(hb.wi y (List.mem_of_mem_drop hy)).ok⟩⟩,hb.des.sm⟩,hs⟩)
 ·refine EvQ.bindN (qZ hk) (EvQ.bindE (qmS (by omega)) (EvQ.bindN (qcg (by omega)) (EvQ.done ⟨W ⟨hy.ok.Ak,hy.ok.Bh,hy.ok.Bd,⟨by show (_++_:List Int).length≤_;rw [jj,jk];omega,qbw hy.ok.Ay.2 (z _ (by decide) (by decide))⟩⟩,hs⟩)))
 ·refine EvQ.bindN (qZ hk) (EvQ.bindN (qZ (j:=0) (show 0<r1.Ah[k].Bh.length by omega)) (EvQ.done ⟨W ⟨hy.ok.Ak,⟨by show (setS _ _ _).length≤_;rw [qdd];exact hy.ok.Bh.1,qhf hy.ok.Bh.2 (z _ (by decide) (by decide))⟩,hy.ok.Bd,hy.ok.Ay⟩,hs⟩))
 ·refine EvQ.bindN (qZ hk) (EvQ.bind (qaq 3 hc hs) ?_)
  rintro ⟨i12,i13,i14⟩ ⟨⟨⟨t0,t1⟩,_⟩,hs⟩
  dsimp only at t0 t1 hs ⊢
  have t2:=t1 (by decide)
  have:i12=0∨i12=1∨i12=2:=by omega
  have hv:∃ v:Int,idx ([(-1),500,501]:List Int) i12=some v∧okI v:=by
   rcases this with rfl|rfl|rfl
   ·exact ⟨_,rfl,z _ (by decide) (by decide)⟩
   ·exact ⟨_,rfl,z _ (by decide) (by decide)⟩
   ·exact ⟨_,rfl,z _ (by decide) (by decide)⟩
  obtain ⟨v,hv1,hv2⟩:=hv
  exact EvQ.bindN hv1 (EvQ.bindN (qZ (j:=0) (show 0<r1.Ah[k].Bd.length by omega)) (EvQ.done ⟨W ⟨hy.ok.Ak,hy.ok.Bh,⟨by show (setS _ _ _).length≤_;rw [qdd];exact hy.ok.Bd.1,qhf hy.ok.Bd.2 hv2⟩,hy.ok.Ay⟩,hs⟩))
 ·refine EvQ.bindN (qZ hk) (EvQ.bind (qaq 5 hc hs) ?_)
  rintro ⟨i15,i16,i17⟩ ⟨_,hs⟩
  have e:W64 ((r1.Ah[k].Ak.length:Int)-1)=((r1.Ah[k].Ak.length-1:Nat):Int):=by rw [qaz (by omega) (by omega)];omega
  dsimp only
  rw [e]
  exact EvQ.bindN (qZ (show r1.Ah[k].Ak.length-1<r1.Ah[k].Ak.length by omega)) (EvQ.done ⟨W ⟨⟨by show (setS _ _ _).length≤_;rw [qdd];exact hy.ok.Ak.1,qhf hy.ok.Ak.2 (qdf _)⟩,hy.ok.Bh,hy.ok.Bd,hy.ok.Ay⟩,hs⟩)
 ·have hp1:=hb.des.p1
  refine EvQ.bindN (qZ (j:=0) (show 0<r1.Aa.Ac.length by omega)) (EvQ.done ⟨⟨⟨hb.lib,⟨hb.des.ok.Ab,hb.des.ok.Ai,⟨by show (setS _ _ _).length≤_;rw [qdd];exact hb.des.ok.Ac.1,qhf hb.des.ok.Ac.2 ⟨(hb.des.ok.Ac.2 _ (jp _)).Au,z 3 (by decide) (by decide),(hb.des.ok.Ac.2 _ (jp _)).Bo⟩⟩⟩,hb.ok.Ah⟩,⟨hb.des.sm.ni,hb.des.sm.nn,by show (setS _ _ _).length≤_;rw [qdd];exact hb.des.sm.np,hb.des.sm.nx⟩⟩,hs⟩)
theorem qtF (hc:CodeOk code) (h:SrcI code a s):EvQ (fun n=>qic n ⟨code,a,s⟩) (fun o=>BlkO o.1∧SrcI code o.2.1 o.2.2):=by
 unfold qic
 refine EvQ.bind (qaq 16 hc h) ?_
 rintro ⟨i1,i2,i3⟩ ⟨_,hs⟩
 refine EvQ.bif (fun _=>EvQ.bind (qp2 hc hs) ?_) (fun _=>EvQ.bind (qaq 7 hc hs) ?_)
 ·rintro ⟨r1,i4,i5⟩ h1
  exact EvQ.done h1
 rintro ⟨i6,i7,i8⟩ ⟨⟨⟨q0,q1⟩,_⟩,hs⟩
 dsimp only at q0 q1 hs ⊢
 have q2:=q1 (by decide)
 refine EvQ.bind (qaq 8 hc hs) ?_
 rintro ⟨i9,i10,i11⟩ ⟨_,hs⟩
 dsimp only at hs ⊢
 rw [wO (2+i6)]
 refine EvQ.bind (qqR (by omega) (by omega) hc hs) ?_
 rintro ⟨r2,i12,i13⟩ ⟨hb,hs⟩
 exact EvQ.done ⟨⟨hb.ok,hb.des.sm⟩,hs⟩
end
end Go.Fw


namespace Go.Fw
open Go
set_option maxRecDepth 100000
theorem qfU {b:qd} (h:blockB b=true):Ev (fun n=>qab n b) ((places b.Aa).length:Int):=by
 unfold qab
 exact Ev.bind (qfn (qw (qE h))) (Ev.now (by rw [jH]))
end Go.Fw


namespace Go.Fw
open Go Go.Proofs
open Go.RowKit (Below)
set_option maxRecDepth 100000
set_option maxHeartbeats 6400000
variable {n:Nat} {w:World} {cs1 cs2 cs3 cs4 cs5 cs6 cs7 cs8 cs9:List Value}
def qbS (b:qd) (list:(List Int)) (sorted:Bool):Nat→Int→Option (Flow Bool Int)
 | 0,_=>none
 | n+1,i1 =>
  bif decide (i1<(list.length:Int)) then
   (idx list i1).bind fun y1 =>
   (qab n b).bind fun r1 =>
   (qao n y1 0 (W64 (r1-1))).bind fun r2 =>
   bif (!r2) then some (.ret false) else
   bif sorted then
    bif decide (i1 > 0) then
     (idx list (W64 (i1-1))).bind fun y2 =>
     (idx list i1).bind fun y3 =>
     bif decide (y2 ≥ y3) then some (.ret false) else
     qbS b list sorted n (W64 (i1+1))
    else
     qbS b list sorted n (W64 (i1+1))
   else
    qbS b list sorted n (W64 (i1+1))
  else
   some (.nxt i1)
def qfj (n:Nat) (b:qd) (list:(List Int)) (sorted:Bool):Option Bool :=
 (qbS b list sorted n 0).bind fun o=>match o with
 | .ret r=>some r
 | .nxt _ =>
  some (decide ((list.length:Int)≤4))
theorem qg1 {b:qd} {list:(List Int)} {sorted:Bool} (ha1:GoT.R w (old w) b cs1) (ha2:GoT.R w (old w) list cs2) {r:Bool} (hF:qfj n b list sorted=some r):RetV Tryz.prog 150 [GoT.v qd cs1,GoT.v (List Int) cs2,.bool sorted] w r:=by
 obtain ⟨p1,k1,p2,k2,p3,k3,p4,k4,p5,k5,rfl,s1,s2,s3,s4,s5⟩:=qD ha1
 obtain ⟨p6,k6,rfl,s6⟩:=ha2
 refine zV 45 Tryz.func150 rfl fun h=>zSR (qO h rfl rfl fun w1 bb1 h=>X0 7 rfl ?_)
 obtain ⟨o1,hF,hK1⟩:=qe hF
 refine ql (rL (fun m e w'=>∃ (i1:Int),qbS b list sorted m i1=some o1∧e=[(1,.slice p6 list.length k6),(2,.bool sorted),(3,.pointer (some ⟨bb1,0,none⟩)),(7,.int .i64 i1)]∧SH w w' [Ch.box bb1 (qA b p1 p2 p3 p4 p5 k1 k2 k3 k4 k5) 34]) n ⟨_,hF,rfl,h⟩ rfl ?_)
 rintro m1 e1 w2 ⟨i1,hF,rfl,h⟩
 rcases m1 with _|m1
 ·cases hF
 refine X0 8 rfl (qk rfl hF ?_ ?_)<;>intro hF
 ·refine X0 4 rfl (rD (zd2 rfl ?_))
  obtain ⟨y1,hy1,hF,he1,b1,_,q1,cs3,hp1,hq1,rfl,hc2⟩:=s6.ix hF
  refine zdxe hp1 hq1 he1 rfl (zdc 0 (hc2.below h.below) rfl (Y1 1 0 h rfl ?_))
  obtain ⟨r1,hr2,hF⟩:=qe hF
  refine qc7 r1 (vsI _) (cB 70 rfl) (fun _ hb=>qaK ((h.ext hb).old ha1) hr2) rfl rfl rfl rfl (zd1 rfl ?_)
  obtain ⟨r2,hr3,hF⟩:=qe hF
  refine qc7 r2 (vsB _) (cB 88 rfl) (fun _ hb=>qU  hr3) rfl rfl rfl rfl (zd2 rfl (qbf (t:=23) hF rfl ?_ ?_))<;>intro hF
  ·refine Y0 18 rfl (dN h fun w3 h=>qdF rfl rfl (X0 4 rfl ?_))
   obtain rfl:=qc hF;replace hF:=hK1
   exact rb h hF rfl
  refine Y0 4 rfl (qbf (t:=25) hF rfl ?_ ?_)<;>intro hF
  ·refine Y0 8 rfl (qbf (t:=29) hF rfl ?_ ?_)<;>intro hF
   ·refine Y0 7 rfl ?_
    obtain ⟨y2,hy2,hF,he2,b2,_,q2,cs4,hp2,hq2,rfl,hc3⟩:=s6.ix hF
    refine zdxe hp2 hq2 he2 rfl (Y0 1 rfl (zdc 0 (hc3.below h.below) rfl (Y0 5 rfl ?_)))
    obtain ⟨y3,hy3,hF,he3,b3,_,q3,cs5,hp3,hq3,rfl,hc4⟩:=s6.ix hF
    refine zdxe hp3 hq3 he3 rfl (Y0 1 rfl (zdc 0 (hc4.below h.below) rfl (Y0 5 rfl (dN h fun w4 h=>qk rfl hF ?_ ?_))))<;>intro hF
    ·refine X0 4 rfl ?_
     obtain rfl:=qc hF;replace hF:=hK1
     exact rb h hF rfl
    exact X0 7 rfl (rK ⟨_,hF,rfl,h⟩ rfl)
   exact Y0 13 rfl (dN h fun w5 h=>qbJ rfl rfl (X0 7 rfl (rK ⟨_,hF,rfl,h⟩ rfl)))
  exact Y0 19 rfl (dN h fun w6 h=>qbJ rfl rfl (X0 7 rfl (rK ⟨_,hF,rfl,h⟩ rfl)))
 refine qp rfl ?_
 obtain rfl:=qc hF;replace hF:=hK1
 exact X0 7 rfl (rb h hF rfl)
def qgi (n:Nat) (b:qd) (a_e:qa):Option Bool :=
 (
  (qeu n b).bind fun r4 =>
  bif (!r4) then some true else
  (qfj n b a_e.As true).bind fun r5 =>
  bif (!r5) then some true else
  (qfj n b a_e.Am false).bind fun r6 =>
  bif (!r6) then some true else
  (qfj n b a_e.To true).bind fun r7 =>
  some (!r7)).bind fun b1 =>
 bif b1 then some false else
 bif (a_e.Ar==1) then some (a_e.Bc==0) else
 bif (a_e.Ar==2) then
  (qao n a_e.Bc 1 10).bind fun r1 =>
  some r1
 else
  bif (a_e.Ar==3) then
   bif (a_e.Ar==3) then
    (qao n a_e.Bc 0 1000000000).bind fun r2 =>
    some r2
   else
    some false
  else
   bif (a_e.Ar==4) then
    (qao n a_e.Bc 0 1000000000).bind fun r3 =>
    some r3
   else
    some false
theorem qk3 {b:qd} {a_e:qa} (ha1:GoT.R w (old w) b cs1) (ha2:GoT.R w (old w) a_e cs2) {r:Bool} (hF:qgi n b a_e=some r):RetV Tryz.prog 87 [GoT.v qd cs1,GoT.v qa cs2] w r:=by
 obtain ⟨p1,k1,p2,k2,p3,k3,p4,k4,p5,k5,rfl,s1,s2,s3,s4,s5⟩:=qD ha1
 obtain ⟨p6,k6,p7,k7,p8,k8,rfl,s6,s7,s8⟩:=qJ ha2
 refine zV 47 Tryz.func87 rfl fun h=>zSR (qO h rfl rfl fun w1 bb1 h=>qO h rfl rfl fun w2 bb2 h=>X0 4 rfl ?_)
 obtain ⟨KF1,hKF1,o1,hF,hK1⟩:=bindE hF
 refine qa8 (fun e w'=>∃ (b1:Bool),KF1 b1=some r∧e=[(3,.pointer (some ⟨bb2,0,none⟩)),(28,.bool b1)]∧SH w w' [Ch.box bb2 (qgh a_e p6 p7 p8 k6 k7 k8) 106]) ?_ ?_
 ·refine X1 2 1 h rfl (zcB h hF (qfy (h.old ha1)) rfl fun r4 w6 h hF=>zp2 rfl (qh (t:=8) hF rfl ?_ ?_))<;>intro hF
  ·refine X0 21 rfl ?_
   replace h:=h.pick [0] rfl
   obtain rfl:=qc hF
   exact rG ⟨_,hK1,rfl,h⟩ rfl
  refine X2 7 1 0 h rfl (zcB h hF (qg1 (h.old ha1) ⟨_,_,rfl,(h.oldS s6)⟩) rfl fun r5 w7 h hF=>X0 4 rfl (qh (t:=15) hF rfl ?_ ?_))<;>intro hF
  ·refine X0 14 rfl ?_
   replace h:=h.pick [0] rfl
   obtain rfl:=qc hF
   exact rG ⟨_,hK1,rfl,h⟩ rfl
  refine X2 7 1 0 h rfl (zcB h hF (qg1 (h.old ha1) ⟨_,_,rfl,(h.oldS s7)⟩) rfl fun r6 w8 h hF=>X0 4 rfl (qh (t:=22) hF rfl ?_ ?_))<;>intro hF
  ·refine X0 7 rfl ?_
   replace h:=h.pick [0] rfl
   obtain rfl:=qc hF
   exact rG ⟨_,hK1,rfl,h⟩ rfl
  refine X2 7 1 0 h rfl (zcB h hF (qg1 (h.old ha1) ⟨_,_,rfl,(h.oldS s8)⟩) rfl fun r7 w9 h hF=>X0 4 rfl ?_)
  replace h:=h.pick [0] rfl
  obtain rfl:=qc hF
  exact rG ⟨_,hK1,rfl,h⟩ rfl
 rintro e1 w10 ⟨b1,hF,rfl,h⟩
 subst hKF1
 refine qk rfl hF ?_ ?_<;>intro hF
 ·exact X0 4 rfl (rb h hF rfl)
 refine X1 13 0 h rfl (qk rfl hF ?_ ?_)<;>intro hF
 ·exact X1 7 0 h rfl (rb h hF rfl)
 refine X0 5 rfl (qk rfl hF ?_ ?_)<;>intro hF
 ·exact X1 4 0 h rfl (zcB h hF qU rfl fun r1 w3 h hF=>X0 2 rfl (rb h hF rfl))
 refine X0 6 rfl (qk rfl hF ?_ ?_)<;>intro hF
 ·refine qeg (qk rfl hF ?_ ?_)<;>intro hF
  ·exact X1 4 0 h rfl (zcB h hF qU rfl fun r2 w4 h hF=>X0 2 rfl (rb h hF rfl))
  exact X0 6 rfl (rb h hF rfl)
 refine X0 4 rfl (qk rfl hF ?_ ?_)<;>intro hF
 ·exact X1 4 0 h rfl (zcB h hF qU rfl fun r3 w5 h hF=>X0 2 rfl (rb h hF rfl))
 exact X0 6 rfl (rb h hF rfl)
def qih (n:Nat) (kind:Int) (value:Int):Option Bool :=
 bif (kind==1) then some (value==0) else
 bif (kind==2) then
  (qaA n value 1 10).bind fun r1 =>
  some r1
 else
  bif (kind==3) then
   bif (kind==3) then
    (qaA n value 0 1000000000).bind fun r2 =>
    some r2
   else
    some false
  else
   bif (kind==4) then
    (qaA n value 0 1000000000).bind fun r3 =>
    some r3
   else
    some false
theorem qmw {kind:Int} {value:Int}  {r:Bool} (hF:qih n kind value=some r):RetV Tryz.prog 139 [.int .i64 kind,.int .i64 value] w r:=by
 refine zV 19 Tryz.func139 rfl fun h=>X0 15 rfl (qk rfl hF ?_ ?_)<;>intro hF
 ·exact X0 6 rfl (rb h hF rfl)
 refine X0 5 rfl (qk rfl hF ?_ ?_)<;>intro hF
 ·exact X0 3 rfl (zcB h hF qah rfl fun r1 w1 h hF=>X0 2 rfl (rb h hF rfl))
 refine X0 6 rfl (qk rfl hF ?_ ?_)<;>intro hF
 ·refine qeg (qk rfl hF ?_ ?_)<;>intro hF
  ·exact X0 3 rfl (zcB h hF qah rfl fun r2 w2 h hF=>X0 2 rfl (rb h hF rfl))
  exact X0 6 rfl (rb h hF rfl)
 refine X0 4 rfl (qk rfl hF ?_ ?_)<;>intro hF
 ·exact X0 3 rfl (zcB h hF qah rfl fun r3 w3 h hF=>X0 2 rfl (rb h hF rfl))
 exact X0 6 rfl (rb h hF rfl)
def qal (v:(Option Tview)) (a_e:qa):Nat→Int→Option (Flow Bool Int)
 | 0,_=>none
 | n+1,i1 =>
  bif decide (i1<((3:Nat):Int)) then
   (idx ([a_e.As,a_e.Am,a_e.To]:List (List Int)) i1).bind fun y1 =>
   bif decide ((y1.length:Int) > 4) then some (.ret false) else
   (v).bind fun y2 =>
   (qaI n y2.places).bind fun r1 =>
   (qbm n y1 0 (W64 (r1-1))).bind fun r2 =>
   bif (!r2) then some (.ret false) else
   qal v a_e n (W64 (i1+1))
  else
   some (.nxt i1)
def qec (n:Nat) (v:(Option Tview)) (a_e:qa):Option Bool :=
 (qal v a_e n 0).bind fun o=>match o with
 | .ret r=>some r
 | .nxt _ =>
  (qih n a_e.Ar a_e.Bc).bind fun r3 =>
  bif r3 then
   (qdj n a_e.As).bind fun r4 =>
   bif r4 then
    (qdj n a_e.To).bind fun r5 =>
    some r5
   else
    some false
  else
   some false
theorem qi6 {v:(Option Tview)} {a_e:qa} (ha1:GoT.R w (old w) v cs1) (ha2:GoT.R w (old w) a_e cs2) {r:Bool} (hF:qec n v a_e=some r):RetV Tryz.prog 78 [GoT.v (Option Tview) cs1,GoT.v qa cs2] w r:=by
 obtain ⟨p1,rfl,s1⟩:=qda ha1
 obtain ⟨p2,k1,p3,k2,p4,k3,rfl,s2,s3,s4⟩:=qJ ha2
 refine zV 49 Tryz.func78 rfl fun h=>zSR (qO h rfl rfl fun w1 bb1 h=>X3 11 0 0 0 h rfl (qmb qb [.tmp 8,.tmp 10,.tmp 12] _ ([a_e.As,a_e.Am,a_e.To]:List (List Int)) h rfl rfl rfl rfl rfl rfl rfl rfl rfl ⟨⟨_,_,rfl,s2⟩,⟨_,_,rfl,s3⟩,⟨_,_,rfl,s4⟩,trivial⟩ rfl fun w2 p5 S1 h=>X0 3 rfl ?_))
 obtain ⟨o1,hF,hK1⟩:=qe hF
 refine ql (rL (fun m e w'=>∃ (i1:Int),qal v a_e m i1=some o1∧e=[(0,.pointer p1),(3,.pointer (some ⟨bb1,0,none⟩)),(13,.slice p5 3 3),(14,.int .i64 ((3:Nat):Int)),(15,.int .i64 i1)]∧SH w w' [Ch.rowD w S1 (([a_e.As,a_e.Am,a_e.To]:List (List Int)):List (List Int)) p5 3,Ch.box bb1 (qgh a_e p2 p3 p4 k1 k2 k3) 106]) n ⟨_,hF,rfl,h⟩ rfl ?_)
 rintro m1 e1 w3 ⟨i1,hF,rfl,h⟩
 rcases m1 with _|m1
 ·cases hF
 refine X0 5 rfl (qk rfl hF ?_ ?_)<;>intro hF
 ·refine zKSBSR ?_
  obtain ⟨y1,hy1,hF⟩:=qe hF
  have he1:=qax hy1
  obtain ⟨b1,o_1,q1,cs3,hp1,hq1,-,hr1,hc2⟩:=h.atD 0 rfl hy1
  obtain ⟨p6,k4,rfl,s5⟩:=hr1
  refine zxe hp1 hq1 he1 rfl (zc 0 hc2 rfl (X0 8 rfl (qh (t:=22) hF rfl ?_ ?_)))<;>intro hF
  ·refine X0 11 rfl (qdF rfl rfl (X0 4 rfl ?_))
   obtain rfl:=qc hF;replace hF:=hK1
   exact rb h hF rfl
  refine X0 5 rfl ?_
  obtain ⟨y2,hy2,hF⟩:=qe hF
  obtain ⟨b2,o_2,cs4,rfl,-,hr2,hc3⟩:=PtR.get s1 hy2
  obtain ⟨p7,k5,p8,k6,p9,k7,p10,k8,p11,k9,p12,k10,p13,k11,p14,k12,p15,k13,p16,k14,rfl,s6,s7,s8,s9,s10,s11,s12,s13,s14,s15⟩:=qgN hr2
  refine X0 4 rfl (zc 5 (hc3.below h.below) rfl (X0 1 rfl (zcI h hF (qef ⟨_,_,rfl,(h.oldS s11)⟩) rfl fun r1 w4 h hF=>X0 3 rfl (zcB h hF (qbU ⟨_,_,rfl,(h.oldS s5)⟩) rfl fun r2 w5 h hF=>X0 4 rfl (qk rfl hF ?_ ?_)))))<;>intro hF
  ·refine X0 4 rfl ?_
   obtain rfl:=qc hF;replace hF:=hK1
   exact rb h hF rfl
  exact X0 6 rfl (rK ⟨_,hF,rfl,h⟩ rfl)
 refine qp rfl ?_
 obtain rfl:=qc hF;replace hF:=hK1
 refine X2 6 1 1 h rfl (zcB h hF qmw rfl fun r3 w6 h hF=>zp1 rfl (qh (t:=39) hF rfl ?_ ?_))<;>intro hF
 ·refine X1 5 1 h rfl (zcB h hF (qfT ⟨_,_,rfl,(h.oldS s2)⟩) rfl fun r4 w7 h hF=>zp2 rfl (qh (t:=44) hF rfl ?_ ?_))<;>intro hF
  ·exact X1 5 1 h rfl (zcB h hF (qfT ⟨_,_,rfl,(h.oldS s4)⟩) rfl fun r5 w8 h hF=>X0 3 rfl (rb h hF rfl))
  exact X0 6 rfl (rb h hF rfl)
 exact X0 11 rfl (rb h hF rfl)
def qbO (n:Nat) (a_e:qa) (found:Int) (place:Int):Option Int :=
 bif decide (found ≥ 0) then
  (qV n a_e.Am).bind fun r1 =>
  bif decide (found<r1) then
   (idx a_e.Am found).bind fun y1 =>
   bif (y1==place) then some (W64 (found+1)) else
   some found
  else
   some found
 else
  some found
theorem qdK {a_e:qa} {found:Int} {place:Int} (ha1:GoT.R w (old w) a_e cs1) {r:Int} (hF:qbO n a_e found place=some r):RetV Tryz.prog 86 [GoT.v qa cs1,.int .i64 found,.int .i64 place] w r:=by
 obtain ⟨p1,k1,p2,k2,p3,k3,rfl,s1,s2,s3⟩:=qJ ha1
 refine zV 28 Tryz.func86 rfl fun h=>zSR (qO h rfl rfl fun w1 bb1 h=>X0 8 rfl (qh (t:=9) hF rfl ?_ ?_))<;>intro hF
 ·refine X1 7 0 h rfl (zcI h hF (qaJ ⟨_,_,rfl,(h.oldS s2)⟩) rfl fun r1 w2 h hF=>X0 4 rfl (qh (t:=16) hF rfl ?_ ?_))<;>intro hF
  ·refine X1 7 0 h rfl ?_
   obtain ⟨y1,hy1,hF,he1,b1,_,q1,cs2,hp1,hq1,rfl,hc1⟩:=s2.ix hF
   refine zxe hp1 hq1 he1 rfl (X0 1 rfl (zc 0 (hc1.below h.below) rfl (X0 6 rfl (qk rfl hF ?_ ?_))))<;>intro hF
   ·exact X0 6 rfl (ri h hF rfl)
   exact X0 6 rfl (ri h hF rfl)
  exact X0 9 rfl (qbJ rfl rfl (X0 6 rfl (ri h hF rfl)))
 exact X0 16 rfl (qbJ rfl rfl (X0 6 rfl (ri h hF rfl)))
def qew (n:Nat) (a_e:qa) (place:Int):Option Int :=
 bif decide ((a_e.As.length:Int) > 0) then
  (qbW n a_e.As place).bind fun r1 =>
  bif (!r1) then some (-1) else
  (qbO n a_e 0 place).bind fun r2 =>
  some r2
 else
  (qbO n a_e 0 place).bind fun r3 =>
  some r3
theorem qjj {a_e:qa} {place:Int} (ha1:GoT.R w (old w) a_e cs1) {r:Int} (hF:qew n a_e place=some r):RetV Tryz.prog 85 [GoT.v qa cs1,.int .i64 place] w r:=by
 obtain ⟨p1,k1,p2,k2,p3,k3,rfl,s1,s2,s3⟩:=qJ ha1
 refine zV 19 Tryz.func85 rfl fun h=>zSR (qO h rfl rfl fun w1 bb1 h=>X1 10 0 h rfl (qh (t:=9) hF rfl ?_ ?_))<;>intro hF
 ·refine X1 7 0 h rfl (zcB h hF (qeS ⟨_,_,rfl,(h.oldS s1)⟩) rfl fun r1 w2 h hF=>X0 4 rfl (qk rfl hF ?_ ?_))<;>intro hF
  ·exact X0 4 rfl (ri h hF rfl)
  exact X1 5 0 h rfl (zcI h hF (qdK (h.old ha1)) rfl fun r2 w3 h hF=>X0 2 rfl (ri h hF rfl))
 exact X0 7 rfl (qbJ rfl rfl (X1 5 0 h rfl (zcI h hF (qdK (h.old ha1)) rfl fun r3 w4 h hF=>X0 2 rfl (ri h hF rfl))))
def qeR (y1:qa) (x2:(List Int)):Nat→Int→Int→Option (Int × Int)
 | 0,_,_=>none
 | n+1,i2,i3 =>
  bif decide (i3<(x2.length:Int)) then
   (idx x2 i3).bind fun y3 =>
   (qbO n y1 i2 y3).bind fun r2 =>
   qeR y1 x2 n r2 (W64 (i3+1))
  else
   some (i2,i3)
def qeN (list:(List qa)) (path:(List Int)):Nat→(List Int)→Int→Option ((List Int) × Int)
 | 0,_,_=>none
 | n+1,x1,i1 =>
  bif decide (i1<(list.length:Int)) then
   (idx list i1).bind fun y1 =>
   (idx path 0).bind fun y2 =>
   (qew n y1 y2).bind fun r1 =>
   (subS path 1 (path.length:Int)).bind fun x2 =>
   (qeR y1 x2 n r1 0).bind fun o=>match o with
   | (i2,_) =>
    (appS x1 ([i2]:List Int)).bind fun x3 =>
    qeN list path n x3 (W64 (i1+1))
  else
   some (x1,i1)
def qf0 (n:Nat) (list:(List qa)) (path:(List Int)):Option (List Int) :=
 (qeN list path n ([]:List Int) 0).bind fun o=>match o with
 | (x1,_) =>
  some x1
theorem qi3 {list:(List qa)} {path:(List Int)} (ha1:GoT.R w (old w) list cs1) (ha2:GoT.R w (old w) path cs2) {r:(List Int)} (hF:qf0 n list path=some r):RetV Tryz.prog 33 [GoT.v (List qa) cs1,GoT.v (List Int) cs2] w r:=by
 obtain ⟨p1,k1,rfl,s1⟩:=ha1
 obtain ⟨p2,k2,rfl,s2⟩:=ha2
 refine zV 40 Tryz.func33 rfl fun h=>X0 15 rfl ?_
 replace h:=h.nil (α:=Int)
 obtain ⟨o1,hF,hK1⟩:=qe hF
 refine ql (rL (fun m e w'=>∃ (S1:Nat→Prop) (p3:Option Addr) (ln1:Nat) (k3:Nat) (x1:(List Int)) (i1:Int),qeN list path m x1 i1=some o1∧e=[(1,.slice p2 path.length k2),(5,.slice p3 ln1 k3),(11,.slice p1 list.length k1),(12,.int .i64 (list.length:Int)),(13,.int .i64 i1)]∧SH w w' [Ch.own S1 (x1:List Int) [.slice p3 ln1 k3]]) n ⟨_,_,_,_,_,_,hF,rfl,h⟩ rfl ?_)
 rintro m1 e1 w1 ⟨S1,p3,ln1,k3,x1,i1,hF,rfl,h⟩
 obtain rfl:=(h.sl 0 rfl).2
 rcases m1 with _|m1
 ·cases hF
 refine X0 5 rfl (qk rfl hF ?_ ?_)<;>intro hF
 ·refine zKSBSR ?_
  obtain ⟨y1,hy1,hF,he1,b1,_,q1,cs3,hp1,hq1,hr1,hc2⟩:=s1.ix hF
  obtain ⟨p4,k4,p5,k5,p6,k6,rfl,s3,s4,s5⟩:=qJ hr1
  refine zxe hp1 hq1 he1 rfl (zc 0 (hc2.below h.below) rfl (qB qb h rfl rfl rfl fun w2 bb1 h=>zs 0 h rfl fun w3 h=>zNS (rD (Y1 1 0 h rfl ?_))))
  refine zd1 rfl ?_
  obtain ⟨y2,hy2,hF,he2,b2,_,q2,cs4,hp2,hq2,rfl,hc3⟩:=s2.ix hF
  refine zdxe hp2 hq2 he2 rfl (zdc 0 (hc3.below h.below) rfl ?_)
  obtain ⟨r1,hr3,hF⟩:=qe hF
  refine qc7 r1 (vsI _) (cB 85 rfl) (fun _ hb=>qjj (qcs y1 ((h.ext hb).oldS s3) ((h.ext hb).oldS s4) ((h.ext hb).oldS s5)) hr3) rfl rfl rfl rfl (zd1 rfl (dN h fun w4 h=>X0 4 rfl ?_))
  obtain ⟨x2,hx1,hF⟩:=qe hF
  obtain ⟨p7,k7,hp3,hk1,hl1,g1⟩:=qos (h.oldS s2) hx1
  refine r_v (qdb qb rfl rfl rfl (qoy g1 rfl) hp3 hk1 hl1 rfl rfl rfl rfl) rfl ?_
  have s6:=qoH s2 hx1 hp3 hk1
  refine X0 3 rfl ?_
  obtain ⟨o2,hF,hK2⟩:=qe hF
  refine ql (rL (fun m e w'=>∃ (i2:Int) (i3:Int),qeR y1 x2 m i2 i3=some o2∧e=[(1,.slice p2 path.length k2),(5,.slice p3 x1.length k3),(7,.pointer (some ⟨bb1,0,none⟩)),(8,.int .i64 i2),(11,.slice p1 list.length k1),(12,.int .i64 (list.length:Int)),(13,.int .i64 i1),(23,.slice p7 x2.length k7),(24,.int .i64 (x2.length:Int)),(25,.int .i64 i3)]∧SH w w' [Ch.box bb1 (qgh y1 p4 p5 p6 k4 k5 k6) 106,Ch.own S1 (x1:List Int) [.slice p3 x1.length k3]]) m1 ⟨_,_,hF,rfl,h⟩ rfl ?_)
  rintro m2 e2 w5 ⟨i2,i3,hF,rfl,h⟩
  rcases m2 with _|m2
  ·cases hF
  refine X0 5 rfl (qk rfl hF ?_ ?_)<;>intro hF
  ·refine zKSBSR ?_
   obtain ⟨y3,hy3,hF,he3,b3,_,q3,cs5,hp4,hq3,rfl,hc5⟩:=s6.ix hF
   exact zxe hp4 hq3 he3 rfl (zc 0 (hc5.below h.below) rfl (X1 6 0 h rfl (zcI h hF (qdK (qcs y1 (h.oldS s3) (h.oldS s4) (h.oldS s5))) rfl fun r2 w6 h hF=>X0 7 rfl (rK ⟨_,_,hF,rfl,h⟩ rfl))))
  refine qp rfl ?_
  obtain rfl:=qc hF;replace hF:=hK2
  refine X0 3 rfl (qm qb [.tmp 35] _ ([i2]:List Int) h rfl rfl rfl rfl rfl rfl rfl rfl rfl ⟨rfl,trivial⟩ rfl fun w7 p8 S2 h=>?_)
  obtain ⟨x3,hx2,hF⟩:=qe hF
  obtain ⟨g2,hx2⟩:=qr hx2
  refine qaf qb 2 h rfl (h.sl 0 rfl).1 (h.sl 0 rfl).2 rfl rfl rfl rfl rfl rfl rfl rfl rfl g2 hx2 rfl fun w8 p9 k8 S3 h=>X0 7 rfl ?_
  replace h:=h.pick [2] rfl
  exact rK ⟨_,_,_,_,_,_,hF,rfl,h⟩ rfl
 refine qp rfl ?_
 obtain rfl:=qc hF;replace hF:=hK1
 refine X0 5 rfl ?_
 obtain rfl:=qc hF
 exact rO 0 h rfl ⟨rfl,trivial⟩
def qdG (n:Nat) (a_e:qa) (found:Int) (a_end:Int):Option Bool :=
 (qV n a_e.Am).bind fun r1 =>
 bif (found==r1) then
  bif ((a_e.To.length:Int)==0) then some true else
  (qbW n a_e.To a_end).bind fun r2 =>
  some r2
 else
  some false
theorem qiM {a_e:qa} {found:Int} {a_end:Int} (ha1:GoT.R w (old w) a_e cs1) {r:Bool} (hF:qdG n a_e found a_end=some r):RetV Tryz.prog 92 [GoT.v qa cs1,.int .i64 found,.int .i64 a_end] w r:=by
 obtain ⟨p1,k1,p2,k2,p3,k3,rfl,s1,s2,s3⟩:=qJ ha1
 refine zV 24 Tryz.func92 rfl fun h=>zSR (qO h rfl rfl fun w1 bb1 h=>X1 7 0 h rfl (zcI h hF (qaJ ⟨_,_,rfl,(h.oldS s2)⟩) rfl fun r1 w2 h hF=>zp2 rfl (qh (t:=12) hF rfl ?_ ?_)))<;>intro hF
 ·refine X1 10 0 h rfl (qh (t:=17) hF rfl ?_ ?_)<;>intro hF
  ·exact X0 9 rfl (rb h hF rfl)
  exact X1 7 0 h rfl (zcB h hF (qeS ⟨_,_,rfl,(h.oldS s3)⟩) rfl fun r2 w3 h hF=>X0 5 rfl (rb h hF rfl))
 exact X0 13 rfl (rb h hF rfl)
end Go.Fw


namespace Go.Fw
open Go Go.Proofs
open Go.RowKit (Below)
set_option maxRecDepth 100000
set_option maxHeartbeats 6400000
variable {n:Nat} {w:World} {cs1 cs2 cs3 cs4 cs5 cs6 cs7 cs8 cs9:List Value}
def qcU (r2:(List Int)):Nat→(List Int)→Int→Option ((List Int) × Int)
 | 0,_,_=>none
 | n+1,x3,i2 =>
  bif decide (i2<(r2.length:Int)) then
   (idx r2 i2).bind fun y1 =>
   (idx x3 y1).bind fun y2 =>
   (idx x3 y1).bind fun _ =>
   qcU r2 n (setS x3 y1 (W64 (y2+1))) (W64 (i2+1))
  else
   some (x3,i2)
def qbM (r3:(List Int)):Nat→(List Int)→(List Int)→Int→Option ((List Int) × (List Int) × Int)
 | 0,_,_,_=>none
 | n+1,x8,x9,i5 =>
  bif decide (i5<(r3.length:Int)) then
   (idx r3 i5).bind fun y6 =>
   (idx x9 y6).bind fun y7 =>
   (idx x9 y6).bind fun _ =>
   (idx (setS x9 y6 (W64 (y7-1))) y6).bind fun y9 =>
   bif (y9==0) then
    (appS x8 ([y6]:List Int)).bind fun x10 =>
    qbM r3 n x10 (setS x9 y6 (W64 (y7-1))) (W64 (i5+1))
   else
    qbM r3 n x8 (setS x9 y6 (W64 (y7-1))) (W64 (i5+1))
  else
   some (x8,x9,i5)
def qcY (a_0:qd):Nat→(List Int)→(List Int)→Int→Option ((List Int) × (List Int) × Int)
 | 0,_,_,_=>none
 | n+1,x6,x7,i4 =>
  bif decide (i4<(x6.length:Int)) then
   (idx x6 i4).bind fun y5 =>
   (qdN n a_0 y5).bind fun r3 =>
   (qbM r3 n x6 x7 0).bind fun o=>match o with
   | (x8,x9,_) =>
    qcY a_0 n x8 x9 (W64 (i4+1))
  else
   some (x6,x7,i4)
def qcb (r1:Int) (x2:(List Int)):Nat→(List Int)→Int→Option ((List Int) × Int)
 | 0,_,_=>none
 | n+1,x4,i3 =>
  bif decide (i3<r1) then
   (idx x2 i3).bind fun y4 =>
   bif (y4==0) then
    (appS x4 ([i3]:List Int)).bind fun x5 =>
    qcb r1 x2 n x5 (W64 (i3+1))
   else
    qcb r1 x2 n x4 (W64 (i3+1))
  else
   some (x4,i3)
def qcX (a_0:qd) (r1:Int):Nat→(List Int)→Int→Option ((List Int) × Int)
 | 0,_,_=>none
 | n+1,x2,i1 =>
  bif decide (i1<r1) then
   (qdN n a_0 i1).bind fun r2 =>
   (qcU r2 n x2 0).bind fun o=>match o with
   | (x3,_) =>
    qcX a_0 r1 n x3 (W64 (i1+1))
  else
   some (x2,i1)
def qhF (n:Nat) (a_0:qd):Option ((List Int) × Bool) :=
 (qab n a_0).bind fun r1 =>
 (mkS r1 (0:Int)).bind fun x1 =>
 (qcX a_0 r1 n x1 0).bind fun o=>match o with
 | (x2,_) =>
  (qcb r1 x2 n ([]:List Int) 0).bind fun o=>match o with
  | (x4,_) =>
   (qcY a_0 n x4 x2 0).bind fun o=>match o with
   | (x6,_,_) =>
    some (x6,((x6.length:Int)==r1))
theorem qmj {a_0:qd} (ha1:GoT.R w (old w) a_0 cs1) {r:((List Int) × Bool)} (hF:qhF n a_0=some r):RetV Tryz.prog 45 [GoT.v qd cs1] w r:=by
 obtain ⟨p1,k1,p2,k2,p3,k3,p4,k4,p5,k5,rfl,s1,s2,s3,s4,s5⟩:=qD ha1
 refine zV 101 Tryz.func45 rfl fun h=>zSR (qO h rfl rfl fun w1 bb1 h=>X1 6 0 h rfl (zcI h hF (qaK (h.old ha1)) rfl fun r1 w2 h hF=>X0 5 rfl ?_))
 obtain ⟨x1,hx1,hF⟩:=qe hF
 obtain ⟨g1,g2,hx1⟩:=qfx hx1
 refine qgC qb Int h rfl rfl rfl rfl rfl rfl rfl rfl rfl g1 g2 hx1 rfl fun w3 S1 p6 h=>X0 7 rfl ?_
 obtain ⟨o1,hF,hK1⟩:=qe hF
 refine ql (rL (fun m e w'=>∃ (x2:(List Int)) (i1:Int),qcX a_0 r1 m x2 i1=some o1∧e=[(1,.pointer (some ⟨bb1,0,none⟩)),(4,.int .i64 r1),(5,.slice p6 x1.length x1.length),(6,.int .i64 i1)]∧SH w w' [Ch.own S1 (x2:List Int) [.slice p6 x1.length x1.length],Ch.box bb1 (qA a_0 p1 p2 p3 p4 p5 k1 k2 k3 k4 k5) 34]) n ⟨_,_,hF,rfl,h⟩ rfl ?_)
 rintro m1 e1 w4 ⟨x2,i1,hF,rfl,h⟩
 rcases m1 with _|m1
 ·cases hF
 refine X0 7 rfl (qk rfl hF ?_ ?_)<;>intro hF
 ·refine X1 7 1 h rfl (zcL h hF (qe0 (h.old ha1)) rfl fun r2 w5 S2 p7 k6 h hF=>X0 6 rfl ?_)
  obtain ⟨o2,hF,hK2⟩:=qe hF
  refine ql (rL (fun m e w'=>∃ (x3:(List Int)) (i2:Int),qcU r2 m x3 i2=some o2∧e=[(1,.pointer (some ⟨bb1,0,none⟩)),(4,.int .i64 r1),(5,.slice p6 x1.length x1.length),(6,.int .i64 i1),(7,.slice p7 r2.length k6),(8,.int .i64 i2)]∧SH w w' [Ch.own S2 (r2:List Int) [.slice p7 r2.length k6],Ch.own S1 (x3:List Int) [.slice p6 x1.length x1.length],Ch.box bb1 (qA a_0 p1 p2 p3 p4 p5 k1 k2 k3 k4 k5) 34]) m1 ⟨_,_,hF,rfl,h⟩ rfl ?_)
  rintro m2 e2 w6 ⟨x3,i2,hF,rfl,h⟩
  rcases m2 with _|m2
  ·cases hF
  refine X0 8 rfl (qk rfl hF ?_ ?_)<;>intro hF
  ·refine X0 7 rfl ?_
   obtain ⟨y1,hy1,hF,he1,b1,_,q1,cs2,hp1,hq1,rfl,hc3⟩:=(h.sl 0 rfl).1.ix hF
   refine zx hp1 hq1 ⟨he1.1,qI he1.2.1 (h.sl 0 rfl).2⟩ rfl (zc 0 hc3 rfl (X0 5 rfl ?_))
   obtain ⟨y2,hy2,hF,he2,b2,_,q2,cs3,hp2,hq2,rfl,hc4⟩:=(h.sl 1 rfl).1.ix hF
   refine zx hp2 hq2 ⟨he2.1,qI he2.2.1 (h.sl 1 rfl).2⟩ rfl (zc 0 hc4 rfl (zp1 rfl ?_))
   obtain ⟨y3,hy3,hF,he3,b3,_,q3,cs4,hp3,hq3,rfl,hc5⟩:=(h.sl 1 rfl).1.ix hF
   exact zx hp3 hq3 ⟨he3.1,qI he3.2.1 (h.sl 1 rfl).2⟩ rfl (qbE qb 1 0 (W64 (y2+1)) h rfl hy3 hp3 hq3 rfl hc5 rfl rfl rfl rfl rfl rfl rfl fun w7 h=>X0 7 rfl (rK ⟨_,_,hF,rfl,h⟩ rfl))
  refine qp rfl ?_
  obtain rfl:=qc hF;replace hF:=hK2
  refine X0 6 rfl ?_
  replace h:=h.pick [1,2] rfl
  exact rK ⟨_,_,hF,rfl,h⟩ rfl
 refine qp rfl ?_
 obtain rfl:=qc hF;replace hF:=hK1
 refine zSR (qm qb [] _ ([]:List Int) h rfl rfl rfl rfl rfl rfl rfl rfl rfl trivial rfl fun w8 p8 S3 h=>X0 7 rfl ?_)
 obtain ⟨o3,hF,hK3⟩:=qe hF
 refine ql (rL (fun m e w'=>∃ (S4:Nat→Prop) (p9:Option Addr) (ln1:Nat) (k7:Nat) (x4:(List Int)) (i3:Int),qcb r1 x2 m x4 i3=some o3∧e=[(1,.pointer (some ⟨bb1,0,none⟩)),(4,.int .i64 r1),(5,.slice p6 x1.length x1.length),(10,.slice p9 ln1 k7),(11,.int .i64 i3)]∧SH w w' [Ch.own S4 (x4:List Int) [.slice p9 ln1 k7],Ch.own S1 (x2:List Int) [.slice p6 x1.length x1.length],Ch.box bb1 (qA a_0 p1 p2 p3 p4 p5 k1 k2 k3 k4 k5) 34]) n ⟨_,_,_,_,_,_,hF,rfl,h⟩ rfl ?_)
 rintro m3 e3 w9 ⟨S4,p9,ln1,k7,x4,i3,hF,rfl,h⟩
 obtain rfl:=(h.sl 0 rfl).2
 rcases m3 with _|m3
 ·cases hF
 refine X0 7 rfl (qk rfl hF ?_ ?_)<;>intro hF
 ·refine X0 7 rfl ?_
  obtain ⟨y4,hy4,hF,he4,b4,_,q4,cs5,hp4,hq4,rfl,hc7⟩:=(h.sl 1 rfl).1.ix hF
  refine zx hp4 hq4 ⟨he4.1,qI he4.2.1 (h.sl 1 rfl).2⟩ rfl (zc 0 hc7 rfl (X0 2 rfl (qk rfl hF ?_ ?_)))<;>intro hF
  ·refine X0 3 rfl (qm qb [.tmp 56] _ ([i3]:List Int) h rfl rfl rfl rfl rfl rfl rfl rfl rfl ⟨rfl,trivial⟩ rfl fun w10 p10 S5 h=>?_)
   obtain ⟨x5,hx2,hF⟩:=qe hF
   obtain ⟨g3,hx2⟩:=qr hx2
   refine qaf qb 1 h rfl (h.sl 0 rfl).1 (h.sl 0 rfl).2 rfl rfl rfl rfl rfl rfl rfl rfl rfl g3 hx2 rfl fun w11 p11 k8 S6 h=>X0 8 rfl ?_
   replace h:=h.pick [1,2,3] rfl
   exact rK ⟨_,_,_,_,_,_,hF,rfl,h⟩ rfl
  exact X0 7 rfl (rK ⟨_,_,_,_,_,_,hF,rfl,h⟩ rfl)
 refine qp rfl ?_
 obtain rfl:=qc hF;replace hF:=hK3
 refine X0 5 rfl ?_
 obtain ⟨o4,hF,hK4⟩:=qe hF
 refine ql (rL (fun m e w'=>∃ (S7:Nat→Prop) (p12:Option Addr) (ln2:Nat) (k9:Nat) (x6:(List Int)) (x7:(List Int)) (i4:Int),qcY a_0 m x6 x7 i4=some o4∧e=[(1,.pointer (some ⟨bb1,0,none⟩)),(4,.int .i64 r1),(5,.slice p6 x1.length x1.length),(10,.slice p12 ln2 k9),(12,.int .i64 i4)]∧SH w w' [Ch.own S7 (x6:List Int) [.slice p12 ln2 k9],Ch.own S1 (x7:List Int) [.slice p6 x1.length x1.length],Ch.box bb1 (qA a_0 p1 p2 p3 p4 p5 k1 k2 k3 k4 k5) 34]) n ⟨_,_,_,_,_,_,_,hF,rfl,h⟩ rfl ?_)
 rintro m4 e4 w12 ⟨S7,p12,ln2,k9,x6,x7,i4,hF,rfl,h⟩
 obtain rfl:=(h.sl 0 rfl).2
 rcases m4 with _|m4
 ·cases hF
 refine X0 8 rfl (qk rfl hF ?_ ?_)<;>intro hF
 ·refine X0 4 rfl (rA [] [0,2] h rfl fun w13 h=>M1 7 [0,1,2] 1 (h.pick [0,2] rfl) rfl ?_)
  obtain ⟨y5,hy5,hF,he5,b5,_,q5,cs6,hp5,hq5,rfl,hc10⟩:=(h.sl 0 rfl).1.ix hF
  refine Ax 3 15 hp5 hq5 ⟨he5.1,qI he5.2.1 (h.sl 0 rfl).2⟩ (h.pick [0,2] rfl) rfl (Aw 4 31 (fun w' hw=>qfk qb (qbo (w1:=w) (S1:=fun _=>False) hw 0 rfl hy5 hp5 hq5 rfl) (j:=0) rfl rfl rfl) (h.pick [0,2] rfl) rfl ?_)
  refine Ao 5 63 rfl (zcL h hF (qe0 (h.old ha1)) rfl fun r3 w14 S8 p13 k10 h hF=>G0 127 [6] (h.pick [1,3] rfl) rfl (Ad (X0 4 rfl ?_)))
  obtain ⟨o5,hF,hK5⟩:=qe hF
  refine ql (rL (fun m e w'=>∃ (S9:Nat→Prop) (p14:Option Addr) (ln3:Nat) (k11:Nat) (x8:(List Int)) (x9:(List Int)) (i5:Int),qbM r3 m x8 x9 i5=some o5∧e=[(1,.pointer (some ⟨bb1,0,none⟩)),(4,.int .i64 r1),(5,.slice p6 x1.length x1.length),(10,.slice p14 ln3 k11),(12,.int .i64 i4),(13,.slice p13 r3.length k10),(14,.int .i64 i5)]∧SH w w' [Ch.own S8 (r3:List Int) [.slice p13 r3.length k10],Ch.own S9 (x8:List Int) [.slice p14 ln3 k11],Ch.own S1 (x9:List Int) [.slice p6 x1.length x1.length],Ch.box bb1 (qA a_0 p1 p2 p3 p4 p5 k1 k2 k3 k4 k5) 34]) m4 ⟨_,_,_,_,_,_,_,hF,rfl,h⟩ rfl ?_)
  rintro m5 e5 w15 ⟨S9,p14,ln3,k11,x8,x9,i5,hF,rfl,h⟩
  obtain rfl:=(h.sl 1 rfl).2
  rcases m5 with _|m5
  ·cases hF
  refine X0 8 rfl (qk rfl hF ?_ ?_)<;>intro hF
  ·refine X0 7 rfl ?_
   obtain ⟨y6,hy6,hF,he6,b6,_,q6,cs7,hp6,hq6,rfl,hc12⟩:=(h.sl 0 rfl).1.ix hF
   refine zx hp6 hq6 ⟨he6.1,qI he6.2.1 (h.sl 0 rfl).2⟩ rfl (zc 0 hc12 rfl (X0 6 rfl ?_))
   obtain ⟨y7,hy7,hF,he7,b7,_,q7,cs8,hp7,hq7,rfl,hc13⟩:=(h.sl 2 rfl).1.ix hF
   refine zx hp7 hq7 ⟨he7.1,qI he7.2.1 (h.sl 2 rfl).2⟩ rfl (zc 0 hc13 rfl (zp1 rfl ?_))
   obtain ⟨y8,hy8,hF,he8,b8,_,q8,cs9,hp8,hq8,rfl,hc14⟩:=(h.sl 2 rfl).1.ix hF
   refine zx hp8 hq8 ⟨he8.1,qI he8.2.1 (h.sl 2 rfl).2⟩ rfl (qbE qb 2 0 (W64 (y7-1)) h rfl hy8 hp8 hq8 rfl hc14 rfl rfl rfl rfl rfl rfl rfl fun w16 h=>X0 5 rfl ?_)
   obtain ⟨y9,hy9,hF,he9,b9,_,q9,cs10,hp9,hq9,rfl,hc15⟩:=(h.sl 2 rfl).1.ix hF
   refine zx hp9 hq9 ⟨he9.1,qI he9.2.1 (h.sl 2 rfl).2⟩ rfl (zc 0 hc15 rfl (X0 2 rfl (qk rfl hF ?_ ?_)))<;>intro hF
   ·refine X0 3 rfl (qm qb [.tmp 93] _ ([y6]:List Int) h rfl rfl rfl rfl rfl rfl rfl rfl rfl ⟨rfl,trivial⟩ rfl fun w17 p15 S10 h=>?_)
    obtain ⟨x10,hx3,hF⟩:=qe hF
    obtain ⟨g4,hx3⟩:=qr hx3
    refine qaf qb 2 h rfl (h.sl 0 rfl).1 (h.sl 0 rfl).2 rfl rfl rfl rfl rfl rfl rfl rfl rfl g4 hx3 rfl fun w18 p16 k12 S11 h=>X0 8 rfl ?_
    replace h:=h.pick [1,2,3,4] rfl
    exact rK ⟨_,_,_,_,_,_,_,hF,rfl,h⟩ rfl
   exact X0 7 rfl (rK ⟨_,_,_,_,_,_,_,hF,rfl,h⟩ rfl)
  refine qp rfl ?_
  obtain rfl:=qc hF;replace hF:=hK5
  refine X0 6 rfl ?_
  replace h:=h.pick [1,2,3] rfl
  exact rK ⟨_,_,_,_,_,_,_,hF,rfl,h⟩ rfl
 refine qp rfl ?_
 obtain rfl:=qc hF;replace hF:=hK4
 refine X0 10 rfl ?_
 obtain rfl:=qc hF
 exact qar qb (ρ:=((List Int) × Bool)) [GoT.v (List Int) [.slice p12 x6.length k9],GoT.v Bool [.bool ((x6.length:Int)==r1)]] h ⟨rfl,rfl,trivial⟩ (PV.done h (qaC h (qC 0 h rfl) (qaD (qu (S:=fun _=>False) rfl)) (by rfl)))
def qcz (s:(List Int)) (v:Int):Nat→Int→Option (Flow Int Int)
 | 0,_=>none
 | n+1,i1 =>
  bif decide (i1<(s.length:Int)) then
   (idx s i1).bind fun y1 =>
   bif (v==y1) then some (.ret i1) else
   qcz s v n (W64 (i1+1))
  else
   some (.nxt i1)
def qf9 (n:Nat) (s:(List Int)) (v:Int):Option Int :=
 (qcz s v n 0).bind fun o=>match o with
 | .ret r=>some r
 | .nxt _ =>
  some (-1)
theorem qk4 {s:(List Int)} {v:Int} (ha1:GoT.R w (old w) s cs1) {r:Int} (hF:qf9 n s v=some r):RetV Tryz.prog 159 [GoT.v (List Int) cs1,.int .i64 v] w r:=by
 obtain ⟨p1,k1,rfl,s1⟩:=ha1
 refine zV 19 Tryz.func159 rfl fun h=>X0 11 rfl ?_
 obtain ⟨o1,hF,hK1⟩:=qe hF
 refine ql (rL (fun m e w'=>∃ (i1:Int),qcz s v m i1=some o1∧e=[(0,.slice p1 s.length k1),(1,.int .i64 v),(7,.int .i64 (s.length:Int)),(8,.int .i64 i1)]∧SH w w' []) n ⟨_,hF,rfl,h⟩ rfl ?_)
 rintro m1 e1 w1 ⟨i1,hF,rfl,h⟩
 rcases m1 with _|m1
 ·cases hF
 refine X0 5 rfl (qk rfl hF ?_ ?_)<;>intro hF
 ·refine X0 13 rfl ?_
  obtain ⟨y1,hy1,hF,he1,b1,_,q1,cs2,hp1,hq1,rfl,hc2⟩:=s1.ix hF
  refine zxe hp1 hq1 he1 rfl (zc 0 (hc2.below h.below) rfl (X0 2 rfl (qk rfl hF ?_ ?_)))<;>intro hF
  ·refine X0 5 rfl ?_
   obtain rfl:=qc hF;replace hF:=hK1
   exact ri h hF rfl
  exact X0 6 rfl (rK ⟨_,hF,rfl,h⟩ rfl)
 refine qp rfl ?_
 obtain rfl:=qc hF;replace hF:=hK1
 exact X0 4 rfl (ri h hF rfl)
def qbg (r1:(List Int)):Nat→(List Int)→Int→Option ((List Int) × Int)
 | 0,_,_=>none
 | n+1,x3,i2 =>
  bif decide (i2<(r1.length:Int)) then
   (idx r1 i2).bind fun y2 =>
   (idx x3 y2).bind fun y3 =>
   (idx x3 y2).bind fun _ =>
   qbg r1 n (setS x3 y2 (W64 (y3+1))) (W64 (i2+1))
  else
   some (x3,i2)
def qbi (r3:(List Int)):Nat→(List Int)→Int→Option ((List Int) × Int)
 | 0,_,_=>none
 | n+1,x7,i4 =>
  bif decide (i4<(r3.length:Int)) then
   (idx r3 i4).bind fun y6 =>
   (idx x7 y6).bind fun y7 =>
   (idx x7 y6).bind fun _ =>
   qbi r3 n (setS x7 y6 (W64 (y7-1))) (W64 (i4+1))
  else
   some (x7,i4)
def qaH (a_0:(Option Tview)) (x1:(List Int)):Nat→(List Int)→(List Int)→Int→Option (Flow ((List Int) × Bool) ((List Int) × (List Int) × Int))
 | 0,_,_,_=>none
 | n+1,x4,x5,i3 =>
  bif decide (i3<(x1.length:Int)) then
   (qf9 n x5 0).bind fun r2 =>
   bif decide (r2<0) then some (.ret ([],false)) else
   (idx x5 r2).bind fun _ =>
   (appS x4 ([r2]:List Int)).bind fun x6 =>
   (qbd n a_0 r2).bind fun r3 =>
   (qbi r3 n (setS x5 r2 (-1)) 0).bind fun o=>match o with
   | (x7,_) =>
    qaH a_0 x1 n x6 x7 (W64 (i3+1))
  else
   some (.nxt (x4,x5,i3))
def qbj (a_0:(Option Tview)) (y1:Tview):Nat→(List Int)→Int→Option ((List Int) × Int)
 | 0,_,_=>none
 | n+1,x2,i1 =>
  bif decide (i1<(y1.places.length:Int)) then
   (qbd n a_0 i1).bind fun r1 =>
   (qbg r1 n x2 0).bind fun o=>match o with
   | (x3,_) =>
    qbj a_0 y1 n x3 (W64 (i1+1))
  else
   some (x2,i1)
def qdC (n:Nat) (a_0:(Option Tview)):Option ((List Int) × Bool) :=
 (a_0).bind fun y1 =>
 (mkS (y1.places.length:Int) (0:Int)).bind fun x1 =>
 (qbj a_0 y1 n x1 0).bind fun o=>match o with
 | (x2,_) =>
  (qaH a_0 x1 n ([]:List Int) x2 0).bind fun o=>match o with
  | .ret r=>some r
  | .nxt (x4,_,_) =>
   some (x4,true)
theorem qjX {a_0:(Option Tview)} (ha1:GoT.R w (old w) a_0 cs1) {r:((List Int) × Bool)} (hF:qdC n a_0=some r):RetV Tryz.prog 100 [GoT.v (Option Tview) cs1] w r:=by
 obtain ⟨p1,rfl,s1⟩:=qda ha1
 refine zV 74 Tryz.func100 rfl fun h=>X0 8 rfl ?_
 obtain ⟨y1,hy1,hF⟩:=qe hF
 obtain ⟨b1,o_1,cs2,rfl,-,hr1,hc1⟩:=PtR.get s1 hy1
 obtain ⟨p2,k1,p3,k2,p4,k3,p5,k4,p6,k5,p7,k6,p8,k7,p9,k8,p10,k9,p11,k10,rfl,s2,s3,s4,s5,s6,s7,s8,s9,s10,s11⟩:=qgN hr1
 refine zp2 rfl (zc 5 (hc1.below h.below) rfl (zp1 rfl ?_))
 obtain ⟨x1,hx1,hF⟩:=qe hF
 obtain ⟨g1,g2,hx1⟩:=qfx hx1
 refine qgC qb Int h rfl rfl rfl rfl rfl rfl rfl rfl rfl g1 g2 hx1 rfl fun w1 S1 p12 h=>X0 8 rfl (zc 5 (hc1.below h.below) rfl (X0 3 rfl ?_))
 obtain ⟨o1,hF,hK1⟩:=qe hF
 refine ql (rL (fun m e w'=>∃ (x2:(List Int)) (i1:Int),qbj a_0 y1 m x2 i1=some o1∧e=[(0,.pointer (some ⟨b1,o_1,none⟩)),(4,.slice p12 x1.length x1.length),(22,.int .i64 (y1.places.length:Int)),(23,.int .i64 i1)]∧SH w w' [Ch.own S1 (x2:List Int) [.slice p12 x1.length x1.length]]) n ⟨_,_,hF,rfl,h⟩ rfl ?_)
 rintro m1 e1 w2 ⟨x2,i1,hF,rfl,h⟩
 rcases m1 with _|m1
 ·cases hF
 refine X0 5 rfl (qk rfl hF ?_ ?_)<;>intro hF
 ·refine X0 12 rfl (zcL h hF (qdg (h.old s1)) rfl fun r1 w3 S2 p13 k11 h hF=>X0 3 rfl ?_)
  obtain ⟨o2,hF,hK2⟩:=qe hF
  refine ql (rL (fun m e w'=>∃ (x3:(List Int)) (i2:Int),qbg r1 m x3 i2=some o2∧e=[(0,.pointer (some ⟨b1,o_1,none⟩)),(4,.slice p12 x1.length x1.length),(22,.int .i64 (y1.places.length:Int)),(23,.int .i64 i1),(28,.slice p13 r1.length k11),(29,.int .i64 (r1.length:Int)),(30,.int .i64 i2)]∧SH w w' [Ch.own S2 (r1:List Int) [.slice p13 r1.length k11],Ch.own S1 (x3:List Int) [.slice p12 x1.length x1.length]]) m1 ⟨_,_,hF,rfl,h⟩ rfl ?_)
  rintro m2 e2 w4 ⟨x3,i2,hF,rfl,h⟩
  rcases m2 with _|m2
  ·cases hF
  refine X0 5 rfl (qk rfl hF ?_ ?_)<;>intro hF
  ·refine zKSBSR ?_
   obtain ⟨y2,hy2,hF,he1,b2,_,q1,cs3,hp1,hq1,rfl,hc4⟩:=(h.sl 0 rfl).1.ix hF
   refine zx hp1 hq1 ⟨he1.1,qI he1.2.1 (h.sl 0 rfl).2⟩ rfl (zc 0 hc4 rfl (X0 5 rfl ?_))
   obtain ⟨y3,hy3,hF,he2,b3,_,q2,cs4,hp2,hq2,rfl,hc5⟩:=(h.sl 1 rfl).1.ix hF
   refine zx hp2 hq2 ⟨he2.1,qI he2.2.1 (h.sl 1 rfl).2⟩ rfl (zc 0 hc5 rfl (zp1 rfl ?_))
   obtain ⟨y4,hy4,hF,he3,b4,_,q3,cs5,hp3,hq3,rfl,hc6⟩:=(h.sl 1 rfl).1.ix hF
   exact zx hp3 hq3 ⟨he3.1,qI he3.2.1 (h.sl 1 rfl).2⟩ rfl (qbE qb 1 0 (W64 (y3+1)) h rfl hy4 hp3 hq3 rfl hc6 rfl rfl rfl rfl rfl rfl rfl fun w5 h=>X0 6 rfl (rK ⟨_,_,hF,rfl,h⟩ rfl))
  refine qp rfl ?_
  obtain rfl:=qc hF;replace hF:=hK2
  refine X0 5 rfl ?_
  replace h:=h.pick [1] rfl
  exact rK ⟨_,_,hF,rfl,h⟩ rfl
 refine qp rfl ?_
 obtain rfl:=qc hF;replace hF:=hK1
 refine X0 11 rfl ?_
 replace h:=h.nil (α:=Int)
 obtain ⟨o3,hF,hK3⟩:=qe hF
 refine ql (rL (fun m e w'=>∃ (S3:Nat→Prop) (p14:Option Addr) (ln1:Nat) (k12:Nat) (x4:(List Int)) (x5:(List Int)) (i3:Int),qaH a_0 x1 m x4 x5 i3=some o3∧e=[(0,.pointer (some ⟨b1,o_1,none⟩)),(4,.slice p12 x1.length x1.length),(8,.slice p14 ln1 k12),(43,.int .i64 (x1.length:Int)),(44,.int .i64 i3)]∧SH w w' [Ch.own S3 (x4:List Int) [.slice p14 ln1 k12],Ch.own S1 (x5:List Int) [.slice p12 x1.length x1.length]]) n ⟨_,_,_,_,_,_,_,hF,rfl,h⟩ rfl ?_)
 rintro m3 e3 w6 ⟨S3,p14,ln1,k12,x4,x5,i3,hF,rfl,h⟩
 obtain rfl:=(h.sl 0 rfl).2
 rcases m3 with _|m3
 ·cases hF
 refine X0 5 rfl (qk rfl hF ?_ ?_)<;>intro hF
 ·refine X0 6 rfl (zcI h hF (qk4 (h.own 1 rfl)) rfl fun r2 w7 h hF=>X0 8 rfl (qk rfl hF ?_ ?_))<;>intro hF
  ·refine X0 5 rfl ?_
   obtain rfl:=qc hF;replace hF:=hK3
   obtain rfl:=qc hF
   exact qar qb (ρ:=((List Int) × Bool)) [GoT.v (List Int) [.slice none 0 0],GoT.v Bool [.bool false]] h ⟨rfl,rfl,trivial⟩ (PV.done h (qaC h qeO (qaD (qu (S:=fun _=>False) rfl)) (by rfl)))
  refine X0 5 rfl ?_
  obtain ⟨y5,hy5,hF,he4,b5,_,q4,cs6,hp4,hq4,rfl,hc9⟩:=(h.sl 1 rfl).1.ix hF
  refine zx hp4 hq4 ⟨he4.1,qI he4.2.1 (h.sl 1 rfl).2⟩ rfl (qbE qb 1 0 (-1) h rfl hy5 hp4 hq4 rfl hc9 rfl rfl rfl rfl rfl rfl rfl fun w8 h=>X0 5 rfl (qm qb [.tmp 54] _ ([r2]:List Int) h rfl rfl rfl rfl rfl rfl rfl rfl rfl ⟨rfl,trivial⟩ rfl fun w9 p15 S4 h=>?_))
  obtain ⟨x6,hx2,hF⟩:=qe hF
  obtain ⟨g3,hx2⟩:=qr hx2
  refine qaf qb 1 h rfl (h.sl 0 rfl).1 (h.sl 0 rfl).2 rfl rfl rfl rfl rfl rfl rfl rfl rfl g3 hx2 rfl fun w10 p16 k13 S5 h=>X0 6 rfl (zcL h hF (qdg (h.old s1)) rfl fun r3 w11 S6 p17 k14 h hF=>X0 3 rfl ?_)
  obtain ⟨o4,hF,hK4⟩:=qe hF
  refine ql ?_
  replace h:=h.pick [0,2,3] rfl
  refine rL (fun m e w'=>∃ (x7:(List Int)) (i4:Int),qbi r3 m x7 i4=some o4∧e=[(0,.pointer (some ⟨b1,o_1,none⟩)),(4,.slice p12 x1.length x1.length),(8,.slice p16 x6.length k13),(43,.int .i64 (x1.length:Int)),(44,.int .i64 i3),(59,.slice p17 r3.length k14),(60,.int .i64 (r3.length:Int)),(61,.int .i64 i4)]∧SH w w' [Ch.own S6 (r3:List Int) [.slice p17 r3.length k14],Ch.own S5 (x6:List Int) [.slice p16 x6.length k13],Ch.own S1 (x7:List Int) [.slice p12 x1.length x1.length]]) m3 ⟨_,_,hF,rfl,h⟩ rfl ?_
  rintro m4 e4 w12 ⟨x7,i4,hF,rfl,h⟩
  rcases m4 with _|m4
  ·cases hF
  refine X0 5 rfl (qk rfl hF ?_ ?_)<;>intro hF
  ·refine zKSBSR ?_
   obtain ⟨y6,hy6,hF,he5,b6,_,q5,cs7,hp5,hq5,rfl,hc11⟩:=(h.sl 0 rfl).1.ix hF
   refine zx hp5 hq5 ⟨he5.1,qI he5.2.1 (h.sl 0 rfl).2⟩ rfl (zc 0 hc11 rfl (X0 5 rfl ?_))
   obtain ⟨y7,hy7,hF,he6,b7,_,q6,cs8,hp6,hq6,rfl,hc12⟩:=(h.sl 2 rfl).1.ix hF
   refine zx hp6 hq6 ⟨he6.1,qI he6.2.1 (h.sl 2 rfl).2⟩ rfl (zc 0 hc12 rfl (zp1 rfl ?_))
   obtain ⟨y8,hy8,hF,he7,b8,_,q7,cs9,hp7,hq7,rfl,hc13⟩:=(h.sl 2 rfl).1.ix hF
   exact zx hp7 hq7 ⟨he7.1,qI he7.2.1 (h.sl 2 rfl).2⟩ rfl (qbE qb 2 0 (W64 (y7-1)) h rfl hy8 hp7 hq7 rfl hc13 rfl rfl rfl rfl rfl rfl rfl fun w13 h=>X0 6 rfl (rK ⟨_,_,hF,rfl,h⟩ rfl))
  refine qp rfl ?_
  obtain rfl:=qc hF;replace hF:=hK4
  refine X0 5 rfl ?_
  replace h:=h.pick [1,2] rfl
  exact rK ⟨_,_,_,_,_,_,_,hF,rfl,h⟩ rfl
 refine qp rfl ?_
 obtain rfl:=qc hF;replace hF:=hK3
 refine X0 6 rfl ?_
 obtain rfl:=qc hF
 exact qar qb (ρ:=((List Int) × Bool)) [GoT.v (List Int) [.slice p14 x4.length k12],GoT.v Bool [.bool true]] h ⟨rfl,rfl,trivial⟩ (PV.done h (qaC h (qC 0 h rfl) (qaD (qu (S:=fun _=>False) rfl)) (by rfl)))
def qeM (n:Nat) (v:(Option Tview)) (p:Tplace):Option Bool :=
 bif decide (p.instance_<0) then
  bif p.drives then some true else
  (qb6 n v p).bind fun r1 =>
  some r1
 else
  (qb6 n v p).bind fun r2 =>
  some r2
theorem qj6 {v:(Option Tview)} {p:Tplace} (ha1:GoT.R w (old w) v cs1) (ha2:GoT.R w (old w) p cs2) {r:Bool} (hF:qeM n v p=some r):RetV Tryz.prog 101 [GoT.v (Option Tview) cs1,GoT.v Tplace cs2] w r:=by
 obtain ⟨p1,rfl,s1⟩:=qda ha1
 obtain rfl:=qcf ha2
 refine zV 17 Tryz.func101 rfl fun h=>zSR (qO h rfl rfl fun w1 bb1 h=>X1 8 0 h rfl (qh (t:=8) hF rfl ?_ ?_))<;>intro hF
 ·refine X1 6 0 h rfl (qh (t:=12) hF rfl ?_ ?_)<;>intro hF
  ·exact X0 6 rfl (rb h hF rfl)
  exact X1 5 0 h rfl (zcB h hF (qe5 (h.old s1) (h.old ha2)) rfl fun r1 w2 h hF=>X0 3 rfl (rb h hF rfl))
 exact X1 9 0 h rfl (zcB h hF (qe5 (h.old s1) (h.old ha2)) rfl fun r2 w3 h hF=>X0 3 rfl (rb h hF rfl))
end Go.Fw


namespace Go.Fw
open Go
set_option maxRecDepth 100000
theorem qin {b:qd} (h:blockB b=true):Ev (fun n=>qab n b) ((places b.Aa).length:Int):=by
 unfold qab
 exact Ev.bind (qfn (qw (qE h))) (Ev.now (by rw [jH]))
theorem qoB {d:qg} {k:Int} {n:Nat}:qln (sinksL d k n) n:=by
 intro y hy
 unfold sinksL at hy
 obtain ⟨i,hi,rfl⟩:=List.mem_map.1 hy
 exact ⟨i,List.mem_range.1 (List.mem_filter.1 hi).1,rfl⟩
theorem qfW {b:qd} (h:blockB b=true) {j:Nat} (hj:j<(places b.Aa).length):qln (succL b j) (places b.Aa).length:=by
 have hd:=qE h
 unfold succL
 cases (gt (places b.Aa) j).drives
 ·cases h0:decide ((gt (places b.Aa) j).instance_<0)
  ·cases dataB (cellAt b (gt (places b.Aa) j).instance_) (gt (places b.Aa) j).pin
   ·intro y hy;cases hy
   ·intro y hy
    rcases qfl hj with ⟨i,k,hi,hk,ej,e⟩|⟨i,hi,_,e⟩
    ·obtain ⟨⟨c0,c1⟩,hn,hcb⟩:=qhA hd hi
     rw [e] at hy
     have ec:cellAt b (place1 b.Aa i k).instance_=gt b.Af.Aj (gt b.Aa.Ab i).Az.toNat:=by
      unfold cellAt place1;rw [jC]
     rw [ec,show (place1 b.Aa i k).pin=(k:Int) from rfl] at hy
     have hy:y=(j:Int)-(k:Int)+(((gt b.Af.Aj (gt b.Aa.Ab i).Az.toNat).Ap.length:Int)-1):=by simpa using hy
     obtain ⟨hp,_⟩:=qjm (k:=(gt b.Aa.Ab i).Ai.length-1) hi (by omega)
     exact ⟨off b.Aa i+((gt b.Aa.Ab i).Ai.length-1),hp,by omega⟩
    ·rw [e] at h0
     exact absurd h0 (by show ¬ decide ((-1:Int)<0)=false;decide)
  ·intro y hy;cases hy
 ·intro y hy
  exact qoB y ((List.mem_filter.1 hy).1)
abbrev npl (b:qd):Nat:=(places b.Aa).length
theorem inCsmall {b:qd} (h:blockB b=true) {R:List Nat} {k:Nat}:inC (succL b) (npl b) R k≤78*78:=by
 have hl:npl b≤78:=qM (qw (qE h))
 have:∀ m,((List.range m).map fun u=>if u ∈ R then 0 else (succL b u).count (k:Int)).sum≤m*78:=by
  intro m
  induction m with
  | zero=>simp
  | succ m ih =>
   rw [jY,jX,List.sum_append]
   simp only [Jb,List.map_nil,List.sum_cons,List.sum_nil,Jc]
   have h1:(succL b m).count (k:Int)≤78:=jS List.count_le_length (qeZ h)
   split<;>omega
 have:=this (npl b)
 unfold inC
 have h3:npl b*78≤78*78:=jx _ hl
 omega
def cnt0 (b:qd) (j:Nat) (k:Nat):Nat:=((List.range j).map fun u=>(succL b u).count (k:Int)).sum
theorem qqB {b:qd} (h:blockB b=true) {j k:Nat} (hj:j≤npl b):cnt0 b j k≤78*78:=by
 have hl:npl b≤78:=qM (qw (qE h))
 have:∀ m,((List.range m).map fun u=>(succL b u).count (k:Int)).sum≤m*78:=by
  intro m
  induction m with
  | zero=>simp
  | succ m ih =>
   rw [qlL]
   have h1:(succL b m).count (k:Int)≤78:=jS List.count_le_length (qeZ h)
   omega
 have:=this j
 unfold cnt0
 have h3:j*78≤78*78:=jx _ (by omega)
 omega
theorem qoG {f:Nat→Int} {m k:Nat} {xs:List Int} {j:Nat} {d v:Int} (hx:xs[j]?=some (k:Int)) (hv:v=f k+d*((xs.take j).count (k:Int):Int)+d) :
  setS (vecI (fun i=>f i+d*((xs.take j).count (i:Int):Int)) m) (k:Int) v=vecI (fun i=>f i+d*((xs.take (j+1)).count (i:Int):Int)) m:=by
 rw [qm8]
 refine qhv (fun i _=>?_)
 rw [qp4 hx]
 by_cases h:i=k
 ·subst h
  rw [if_pos rfl,if_pos rfl,hv,Int.natCast_add,Int.mul_add]
  show _=f i+(d*_+d*1)
  omega
 ·rw [if_neg h,if_neg h,Jc]
theorem qsd {xs:List Int} {m:Nat} {f:Nat→Int} (hx:qln xs m) (hl:xs.length≤1000) (hf:∀ k,k<m→0≤f k∧f k≤10000) :
  Ev (fun n=>qcU xs n (vecI f m) 0) (vecI (fun k=>f k+1*(xs.count (k:Int):Int)) m,(xs.length:Int)):=by
 have:=loopF (Lf:=qcU xs) (S:=fun j=>vecI (fun i=>f i+1*((xs.take j).count (i:Int):Int)) m) (len:=xs.length) (fin:=(vecI (fun k=>f k+1*(xs.count (k:Int):Int)) m,(xs.length:Int)))
  (fun n=>by simp only [qcU,qj (jf _),cond_false,jB])
  (fun j hj X hX=>by
   obtain ⟨k,hk,e1,e2⟩:=hx.at hj
   have hc:(xs.take j).count (k:Int)≤xs.length:=jS List.count_le_length (by rw [jZ];omega)
   have h1:=hf k hk
   simp only [qcU,qi hj,cond_true,e1,je,qiG hk,wS j]
   rw [qaz (by omega) (by omega),qoG e2 rfl]
   exact hX)
 simpa using this
theorem qr7 {xs:List Int} {m:Nat} {f:Nat→Int} (hx:qln xs m) (hl:xs.length≤1000) (hf:∀ k,k<m→0≤f k∧f k≤10000) :
  Ev (fun n=>qbg xs n (vecI f m) 0) (vecI (fun k=>f k+1*(xs.count (k:Int):Int)) m,(xs.length:Int)):=by
 have:=loopF (Lf:=qbg xs) (S:=fun j=>vecI (fun i=>f i+1*((xs.take j).count (i:Int):Int)) m) (len:=xs.length) (fin:=(vecI (fun k=>f k+1*(xs.count (k:Int):Int)) m,(xs.length:Int)))
  (fun n=>by simp only [qbg,qj (jf _),cond_false,jB])
  (fun j hj X hX=>by
   obtain ⟨k,hk,e1,e2⟩:=hx.at hj
   have hc:(xs.take j).count (k:Int)≤xs.length:=jS List.count_le_length (by rw [jZ];omega)
   have h1:=hf k hk
   simp only [qbg,qi hj,cond_true,e1,je,qiG hk,wS j]
   rw [qaz (by omega) (by omega),qoG e2 rfl]
   exact hX)
 simpa using this
theorem qrX {xs:List Int} {m:Nat} {f:Nat→Int} (hx:qln xs m) (hl:xs.length≤1000) (hf:∀ k,k<m→-1≤f k∧f k≤10000) :
  Ev (fun n=>qbi xs n (vecI f m) 0) (vecI (fun k=>f k+(-1)*(xs.count (k:Int):Int)) m,(xs.length:Int)):=by
 have:=loopF (Lf:=qbi xs) (S:=fun j=>vecI (fun i=>f i+(-1)*((xs.take j).count (i:Int):Int)) m) (len:=xs.length) (fin:=(vecI (fun k=>f k+(-1)*(xs.count (k:Int):Int)) m,(xs.length:Int)))
  (fun n=>by simp only [qbi,qj (jf _),cond_false,jB])
  (fun j hj X hX=>by
   obtain ⟨k,hk,e1,e2⟩:=hx.at hj
   have hc:(xs.take j).count (k:Int)≤xs.length:=jS List.count_le_length (by rw [jZ];omega)
   have h1:=hf k hk
   simp only [qbi,qi hj,cond_true,e1,je,qiG hk,wS j]
   rw [qaz (by omega) (by omega),qoG e2 (by omega)]
   exact hX)
 simpa using this
theorem qn6 {b:qd} {j:Nat}:(fun k=>(cnt0 b j k:Int)+1*((succL b j).count (k:Int):Int))=fun k=>(cnt0 b (j+1) k:Int):=by
 funext k
 unfold cnt0
 rw [qlL]
 omega
theorem qrc {b:qd} (hok:qbn b) (h:blockB b=true):Ev (fun n=>qcX b (npl b:Int) n (vecI (fun k=>(cnt0 b 0 k:Int)) (npl b)) 0) (vecI (fun k=>(inC (succL b) (npl b) [] k:Int)) (npl b),(npl b:Int)):=by
 have hl:npl b≤78:=qM (qw (qE h))
 refine loopF (Lf:=qcX b (npl b:Int)) (S:=fun j=>vecI (fun k=>(cnt0 b j k:Int)) (npl b)) (len:=npl b) (fun n=>?_) (fun j hj X hX=>?_)
 ·simp only [qcX,qj (jf _),cond_false]
  congr 2
 ·simp only [qcX,qi hj,cond_true,wS j]
  refine Ev.bind (qhQ hok h hj) (Ev.bind (qsd (qfW h hj) (by have:=qeZ h (j:=j);omega) (fun k hk=>by have:=qqB h (k:=k) (Nat.le_of_lt hj);omega)) ?_)
  rw [qn6]
  exact hX
theorem qrB {b:qd} {V:Tview} (h:blockB b=true) (hV:V.Be=b) (hP:V.places=places b.Aa):Ev (fun n=>qbj (some V) V n (vecI (fun k=>(cnt0 b 0 k:Int)) (npl b)) 0) (vecI (fun k=>(inC (succL b) (npl b) [] k:Int)) (npl b),(npl b:Int)):=by
 have hl:npl b≤78:=qM (qw (qE h))
 refine loopF (Lf:=qbj (some V) V) (S:=fun j=>vecI (fun k=>(cnt0 b j k:Int)) (npl b)) (len:=npl b) (fun n=>?_) (fun j hj X hX=>?_)
 ·simp only [qbj,hP,qj (jf _),cond_false]
  congr 2
 ·simp only [qbj,hP,qi hj,cond_true,wS j]
  refine Ev.bind (qhE h hV hP hj) (Ev.bind (qr7 (qfW h hj) (by have:=qeZ h (j:=j);omega) (fun k hk=>by have:=qqB h (k:=k) (Nat.le_of_lt hj);omega)) ?_)
  rw [qn6]
  exact hX
def zerosL (b:qd) (j:Nat):List Nat:=(List.range j).filter fun k=>decide (inC (succL b) (npl b) [] k=0)
theorem qpt {b:qd} {j:Nat}:zerosL b (j+1)=zerosL b j++(if inC (succL b) (npl b) [] j=0 then [j] else []):=by
 unfold zerosL
 rw [jY,List.filter_append]
 by_cases h:inC (succL b) (npl b) [] j=0
 ·rw [List.filter_cons_of_pos (by simpa using h),List.filter_nil,if_pos h]
 ·rw [List.filter_cons_of_neg (by simpa using h),List.filter_nil,if_neg h]
theorem qq6 {b:qd} (h:blockB b=true):Ev (fun n=>qcb (npl b:Int) (vecI (fun k=>(inC (succL b) (npl b) [] k:Int)) (npl b)) n ([]:List Int) 0) (ints (zerosL b (npl b)),(npl b:Int)):=by
 have hl:npl b≤78:=qM (qw (qE h))
 refine loopF (Lf:=qcb (npl b:Int) (vecI (fun k=>(inC (succL b) (npl b) [] k:Int)) (npl b))) (S:=fun j=>ints (zerosL b j)) (len:=npl b) (fun n=>?_) (fun j hj X hX=>?_)
 ·simp only [qcb,qj (jf _),cond_false]
 ·simp only [qcb,qi hj,cond_true,qiG hj,je,wS j]
  rw [qpt] at hX
  by_cases hc:inC (succL b) (npl b) [] j=0
  ·rw [if_pos hc,qja] at hX
   refine Ev.tt (by rw [hc];rfl) ?_
   have:(zerosL b j).length≤j:=by have:=Ja (fun k=>decide (inC (succL b) (npl b) [] k=0)) (List.range j);simpa [zerosL] using this
   rw [qbL (by rw [qd3,jk];omega)]
   exact hX
  ·rw [if_neg hc,jT] at hX
   exact Ev.ff (by rw [Bool.eq_false_iff,Ne,beq_iff_eq];omega) hX
structure Mid (b:qd) (k i:Nat) (c:Nat) (out:List Nat):Prop where
 topo:Topo (succL b) (npl b) out
 klt:k<out.length
 cur:out[k]?=some c
 zero:∀ j,j<npl b→(j ∈ out↔inC (succL b) (npl b) (out.take (k+1)) j+((succL b c).drop i).count (j:Int)=0)
def midC (b:qd) (k i c:Nat) (out:List Nat) (j:Nat):Int:=((inC (succL b) (npl b) (out.take (k+1)) j+((succL b c).drop i).count (j:Int):Nat):Int)
theorem qqg {xs:List Int} {j k i:Nat} (hj:xs[j]?=some (k:Int)):(xs.drop j).count (i:Int)=(xs.drop (j+1)).count (i:Int)+(if i=k then 1 else 0):=by
 obtain ⟨h1,h2⟩:=List.getElem?_eq_some_iff.1 hj
 rw [jE h1,h2,List.count_cons]
 congr 1
 by_cases h:i=k
 ·subst h;simp
 ·have:¬ (k:Int)=(i:Int):=by omega
  simp [h,this]
theorem qq2 {b:qd} (h:blockB b=true) {k c:Nat} {out:List Nat} (h0:Mid b k 0 c out):∃ out',Mid b k (succL b c).length c out' ∧
  Ev (fun n=>qbM (succL b c) n (ints out) (vecI (midC b k 0 c out) (npl b)) 0) (ints out',vecI (midC b k (succL b c).length c out') (npl b),((succL b c).length:Int)):=by
 have hl:npl b≤78:=qM (qw (qE h))
 have hcm:c<npl b:=h0.topo.lt c (jw h0.cur)
 have hS:=qeZ h (j:=c)
 obtain ⟨t,⟨out',hm,rfl⟩,he⟩:=loopE (Lf:=fun n (t:List Int × List Int) i=>qbM (succL b c) n t.1 t.2 i) (fin:=fun t=>(t.1,t.2,((succL b c).length:Int))) (len:=(succL b c).length)
  (fun i t=>∃ out,Mid b k i c out∧t=(ints out,vecI (midC b k i c out) (npl b)))
  (fun n t=>by simp only [qbM,qj (jf _),cond_false])
  (fun i t hi ⟨out,hm,ht⟩=>by
   subst ht
   obtain ⟨to,hto,e1,e2⟩:=(qfW h hcm).at hi
   have hdc:=fun j=>qqg (i:=j) e2
   have hb1:=inCsmall h (R:=out.take (k+1)) (k:=to)
   have hb2:((succL b c).drop i).count (to:Int)≤78:=jS List.count_le_length (by rw [List.length_drop];omega)
   have hpos:midC b k i c out to=((inC (succL b) (npl b) (out.take (k+1)) to+((succL b c).drop (i+1)).count (to:Int):Nat):Int)+1:=by
    unfold midC;rw [hdc,if_pos rfl];omega
   have hset:setS (vecI (midC b k i c out) (npl b)) (to:Int) (midC b k i c out to-1)=vecI (midC b k (i+1) c out) (npl b):=by
    rw [qm8]
    refine qhv (fun j _=>?_)
    by_cases hj:j=to
    ·subst hj
     rw [if_pos rfl,hpos]
     show _=((inC (succL b) (npl b) (out.take (k+1)) j+((succL b c).drop (i+1)).count (j:Int):Nat):Int)
     omega
    ·rw [if_neg hj]
     unfold midC
     simp only [hdc,if_neg hj,Jc]
   have hnot:to ∉ out:=fun hin=>by
    have:=(hm.zero to hto).1 hin
    rw [hdc,if_pos rfl] at this
    omega
   have hw:W64 (midC b k i c out to-1)=midC b k i c out to-1:=qaz (by omega) (by unfold midC;omega)
   by_cases hz:inC (succL b) (npl b) (out.take (k+1)) to+((succL b c).drop (i+1)).count (to:Int)=0
   ·have htk:(out++[to]).take (k+1)=out.take (k+1):=List.take_append_of_le_length hm.klt
    have hm':Mid b k (i+1) c (out++[to]):=by
     refine ⟨.snoc hm.topo hto hnot (fun u hu he=>?_),by have:=hm.klt;rw [jj];omega,by rw [ju hm.klt];exact hm.cur,fun j hj=>?_⟩
     ·exact List.mem_of_mem_take (qjr.1 (show inC (succL b) (npl b) (out.take (k+1)) to=0 by omega) u hu he)
     ·rw [htk]
      by_cases hjt:j=to
      ·subst hjt;exact ⟨fun _=>hz,fun _=>by simp⟩
      ·have:=hm.zero j hj
       simp only [hdc,if_neg hjt,Jc] at this
       rw [←this]
       simp [hjt]
    refine ⟨(ints (out++[to]),vecI (midC b k (i+1) c (out++[to])) (npl b)),⟨_,hm',rfl⟩,fun X hX=>?_⟩
    simp only [qbM,qi hi,cond_true,e1,je,qiG hto,wS i,hw,hset]
    refine Ev.tt (by rw [beq_iff_eq];unfold midC;omega) ?_
    have hlen:=hm.topo.len
    rw [qbL (by rw [qd3,jk];omega)]
    have:midC b k (i+1) c out=midC b k (i+1) c (out++[to]):=by funext j;unfold midC;rw [htk]
    rw [this]
    rw [qja] at hX
    exact hX
   ·have hm':Mid b k (i+1) c out:=by
     refine ⟨hm.topo,hm.klt,hm.cur,fun j hj=>?_⟩
     by_cases hjt:j=to
     ·subst hjt;exact ⟨fun hin=>absurd hin hnot,fun h0=>absurd h0 hz⟩
     ·have:=hm.zero j hj
      simp only [hdc,if_neg hjt,Jc] at this
      exact this
    refine ⟨(ints out,vecI (midC b k (i+1) c out) (npl b)),⟨_,hm',rfl⟩,fun X hX=>?_⟩
    simp only [qbM,qi hi,cond_true,e1,je,qiG hto,wS i,hw,hset]
    exact Ev.ff (by rw [Bool.eq_false_iff,Ne,beq_iff_eq];unfold midC;omega) hX)
  0 (jz _) _ ⟨out,h0,rfl⟩
 exact ⟨out',hm,he⟩
theorem qrr {b:qd} (hok:qbn b) (h:blockB b=true):∀ d k out,Topo (succL b) (npl b) out→k≤out.length→npl b-k=d→(∀ j,j<npl b→(j ∈ out↔inC (succL b) (npl b) (out.take k) j=0)) →
  ∃ out' v i,Topo (succL b) (npl b) out'∧Stuck (succL b) (npl b) out'∧Ev (fun n=>qcY b n (ints out) (vecI (fun j=>(inC (succL b) (npl b) (out.take k) j:Int)) (npl b)) (k:Int)) (ints out',v,i):=by
 have hl:npl b≤78:=qM (qw (qE h))
 intro d
 induction d with
 | zero =>
  intro k out ht hk hd hz
  have h1:=ht.len
  obtain rfl:k=out.length:=by omega
  refine ⟨out,vecI (fun j=>(inC (succL b) (npl b) (out.take out.length) j:Int)) (npl b),(out.length:Int),ht,ht.stuck_full (ht.full (by omega)),Ev.succ ?_⟩
  simp only [qcY,qd3,qj (jf _),cond_false]
  exact .done
 | succ d ih =>
  intro k out ht hk hd hz
  by_cases hlt:k<out.length
  ·have hc:=ji hlt
   have hcm:out[k]<npl b:=ht.lt _ (jp hlt)
   have hnk:out[k] ∉ out.take k:=by
    have hsp:out=out.take k++out[k]::out.drop (k+1):=by rw [←jE hlt,List.take_append_drop]
    have ht':=ht
    rw [hsp] at ht'
    have:=ht'.at.2.1
    simpa using this
   have hin:∀ j,inC (succL b) (npl b) (out.take k) j=inC (succL b) (npl b) (out.take (k+1)) j+(succL b out[k]).count (j:Int):=fun j=>by
    rw [qo2 hcm hnk,jr hlt]
   obtain ⟨out',hm,he⟩:=qq2 h (k:=k) (c:=out[k]) (out:=out) ⟨ht,hlt,hc,fun j hj=>by rw [hz j hj,hin,List.drop_zero]⟩
   have hz':∀ j,j<npl b→(j ∈ out'↔inC (succL b) (npl b) (out'.take (k+1)) j=0):=fun j hj=>by
    have:=hm.zero j hj
    rwa [Jd (jf _),List.count_nil,Jc] at this
   obtain ⟨o2,v,i,h1,h2,h3⟩:=ih (k+1) out' hm.topo hm.klt (by omega) hz'
   refine ⟨o2,v,i,h1,h2,Ev.succ ?_⟩
   have hlen:=ht.len
   simp only [qcY,qd3,qi hlt,cond_true,qmV hlt,je,wS k]
   refine Ev.bind (qhQ hok h hcm) ?_
   have e0:vecI (fun j=>(inC (succL b) (npl b) (out.take k) j:Int)) (npl b)=vecI (midC b k 0 out[k] out) (npl b):=qhv (fun j _=>by rw [hin];unfold midC;rw [List.drop_zero])
   rw [e0]
   refine Ev.bind he ?_
   have e1:vecI (midC b k (succL b out[k]).length out[k] out') (npl b)=vecI (fun j=>(inC (succL b) (npl b) (out'.take (k+1)) j:Int)) (npl b):=qhv (fun j _=>by unfold midC;rw [Jd (jf _),List.count_nil,Jc])
   rw [e1]
   exact h3
  ·obtain rfl:k=out.length:=by omega
   refine ⟨out,vecI (fun j=>(inC (succL b) (npl b) (out.take out.length) j:Int)) (npl b),(out.length:Int),ht,fun j hj hn=>?_,Ev.succ ?_⟩
   ·have:=(not_congr (hz j hj)).1 hn
    rw [jB,qjr] at this
    by_cases hex:∃ u,u<npl b∧(j:Int) ∈ succL b u∧u ∉ out
    ·exact hex
    ·exact absurd (fun u hu he=>Classical.byContradiction fun hc=>hex ⟨u,hu,he,hc⟩) this
   ·simp only [qcY,qd3,qj (jf _),cond_false]
    exact .done
theorem qrv {b:qd} (hok:qbn b) (h:blockB b=true):∃ out,Topo (succL b) (npl b) out∧Stuck (succL b) (npl b) out∧Ev (fun n=>qhF n b) (ints out,decide (out.length=npl b)):=by
 have hl:npl b≤78:=qM (qw (qE h))
 obtain ⟨out,v,i,h1,h2,h3⟩:=qrr hok h (npl b) 0 (zerosL b (npl b)) (Topo.zeros (jf _)) (jz _) rfl (fun j hj=>by
  unfold zerosL
  rw [List.take_zero,List.mem_filter]
  simp [hj])
 refine ⟨out,h1,h2,?_⟩
 unfold qhF
 refine Ev.bind (qin h) (Ev.bindN (qoh (show npl b≤2147483648 by omega)) ?_)
 refine Ev.bind ((qrc hok h).cast rfl) (Ev.bind (qq6 h) (Ev.bind h3 ?_))
 refine Ev.now ?_
 show some (ints out,((ints out).length:Int)==(npl b:Int))=_
 rw [qd3,show ((out.length:Int)==(npl b:Int))=decide (out.length=npl b) by rw [jm];simp;omega]
theorem qlP {xs:List Int} (hl:xs.length≤1000000):Ev (fun n=>qf9 n xs 0) (ixL (fun y=>(0:Int)==y) xs) :=
 qdA (fin:=(xs.length:Int)) (Lf:=qcz xs 0) (pf:=fun _ y=>some ((0:Int)==y)) (fun _ _=>.done)
  (fun n=>by simp only [qcz,qj (jf _),cond_false])
  (fun n j x hx=>by
   have hj:=(List.getElem?_eq_some_iff.1 hx).1
   simp only [qcz,qi hj,cond_true,qfY hx,je,wS j])
  (fun n=>by unfold qf9;congr 1;funext o;cases o<;>rfl)
def openC (b:qd) (R:List Nat) (k:Nat):Int:=if k ∈ R then -1 else (inC (succL b) (npl b) R k:Int)
theorem qrM {α:Type} {p:α→Bool} {xs:List α} (h:¬ ixL p xs<0):∃ j,∃ hj:j<xs.length,ixL p xs=(j:Int)∧p xs[j]=true:=by
 unfold ixL at h ⊢
 cases hf:xs.findIdx? p with
 | none=>rw [hf] at h;exact absurd (by decide:(-1:Int)<0) h
 | some j =>
  obtain ⟨hj,hp,_⟩:=List.findIdx?_eq_some_iff_getElem.1 hf
  exact ⟨j,hj,rfl,hp⟩
theorem qsG {α:Type} {p:α→Bool} {xs:List α} (h:ixL p xs<0):∀ x,x ∈ xs→p x=false:=by
 unfold ixL at h
 cases hf:xs.findIdx? p with
 | none=>intro x hx;have:=List.findIdx?_eq_none_iff.1 hf x hx;simpa using this
 | some j=>rw [hf] at h;exact absurd h (by show ¬ (j:Int)<0;omega)
theorem qrj {b:qd} {V:Tview} (h:blockB b=true) (hV:V.Be=b) (hP:V.places=places b.Aa) :
  EvQ (fun n=>qdC n (some V)) fun r=>∃ R,Topo (succL b) (npl b) R∧((r=(ints R,true)∧R.length=npl b)∨(r=([],false)∧R.length<npl b∧Stuck (succL b) (npl b) R)):=by
 have hl:npl b≤78:=qM (qw (qE h))
 have hL:EvQ (fun n=>qaH (some V) (vecI (fun _=>0) (npl b)) n ([]:List Int) (vecI (fun k=>(inC (succL b) (npl b) [] k:Int)) (npl b)) 0)
   fun r=>∃ R,Topo (succL b) (npl b) R∧((∃ v i,r=.nxt (ints R,v,i)∧R.length=npl b)∨(r=.ret ([],false)∧R.length<npl b∧Stuck (succL b) (npl b) R)):=by
  refine loopR (Lf:=fun n (t:List Int × List Int) i=>qaH (some V) (vecI (fun _=>0) (npl b)) n t.1 t.2 i) (len:=npl b)
   (fun j t=>∃ R,Topo (succL b) (npl b) R∧R.length=j∧t=(ints R,vecI (openC b R) (npl b))) _ (fun t ⟨R,h1,h2,ht⟩=>?_) (fun j t hj ⟨R,h1,h2,ht⟩=>?_) 0 (jz _) (([]:List Int),vecI (fun k=>(inC (succL b) (npl b) [] k:Int)) (npl b)) ⟨[],.nil,rfl,?_⟩
  ·subst ht
   simp only [qaH,qiz,qj (jf _),cond_false]
   exact EvQ.done ⟨R,h1,.inl ⟨_,_,rfl,h2⟩⟩
  ·subst ht
   by_cases hneg:ixL (fun y=>(0:Int)==y) (vecI (openC b R) (npl b))<0
   ·refine .inl (EvQ.succ ?_)
    simp only [qaH,qiz,qi hj,cond_true]
    refine EvQ.bindE (qlP (by rw [qiz];omega)) (EvQ.tt (by simpa using hneg) (EvQ.done ⟨R,h1,.inr ⟨rfl,by omega,fun k hk hn=>?_⟩⟩))
    have:=qsG hneg (openC b R k) (by unfold vecI;exact List.mem_map.2 ⟨k,List.mem_range.2 hk,rfl⟩)
    unfold openC at this
    rw [if_neg hn] at this
    have hne:inC (succL b) (npl b) R k ≠ 0:=by
     intro e;rw [e] at this;exact absurd this (by decide)
    rw [Ne,qjr] at hne
    by_cases hex:∃ u,u<npl b∧(k:Int) ∈ succL b u∧u ∉ R
    ·exact hex
    ·exact absurd (fun u hu he=>Classical.byContradiction fun hc=>hex ⟨u,hu,he,hc⟩) hne
   ·obtain ⟨k,hk,e,hp⟩:=qrM hneg
    rw [qiz] at hk
    have hp:openC b R k=0:=by
     have:(0:Int)==openC b R k:=by simpa [vecI] using hp
     exact (beq_iff_eq.1 this).symm
    have hn:k ∉ R:=fun hin=>by unfold openC at hp;rw [if_pos hin] at hp;exact absurd hp (by decide)
    have hz:inC (succL b) (npl b) R k=0:=by unfold openC at hp;rw [if_neg hn] at hp;omega
    have ht:Topo (succL b) (npl b) (R++[k]):=.snoc h1 hk hn (qjr.1 hz)
    refine .inr ⟨(ints (R++[k]),vecI (openC b (R++[k])) (npl b)),⟨_,ht,by rw [jj,jk,h2],rfl⟩,fun X hX=>?_⟩
    have hX:Ev (fun n=>qaH (some V) (vecI (fun _=>0) (npl b)) n (ints (R++[k])) (vecI (openC b (R++[k])) (npl b)) ((j+1:Nat):Int)) X:=hX
    simp only [qaH,qiz,qi hj,cond_true,wS j]
    refine Ev.bind (qlP (by rw [qiz];omega)) (Ev.ff (by simpa using hneg) ?_)
    rw [e]
    have happ:appS (ints R) [(k:Int)]=some (ints R++[(k:Int)]):=qbL (by rw [qd3,jk];omega)
    simp only [qiG hk,je,happ]
    refine Ev.bind (qhE h hV hP hk) ?_
    rw [qm8]
    refine Ev.bind (qrX (qfW h hk) (by have:=qeZ h (j:=k);omega) (fun i hi=>?_)) ?_
    ·by_cases hik:i=k
     ·rw [if_pos hik];omega
     ·rw [if_neg hik]
      unfold openC
      have:=inCsmall h (R:=R) (k:=i)
      split<;>omega
    ·have e2:vecI (fun i=>(if i=k then -1 else openC b R i)+(-1)*((succL b k).count (i:Int):Int)) (npl b)=vecI (openC b (R++[k])) (npl b):=by
      refine qhv (fun i _=>?_)
      unfold openC
      by_cases hik:i=k
      ·subst hik
       have h0:(succL b i).count (i:Int)=0:=List.count_eq_zero.2 (fun he=>hn (qjr.1 hz i hk he))
       rw [if_pos rfl,if_pos (by simp),h0];rfl
      ·rw [if_neg hik]
       by_cases hiR:i ∈ R
       ·have h0:=h1.no_back hk hn hiR
        rw [if_pos hiR,if_pos (jL _ hiR),h0];rfl
       ·rw [if_neg hiR,if_neg (by simp [hiR,hik]),qo2 hk hn]
        omega
     rw [e2,←qja]
     exact hX
  ·exact congrArg (fun v=>(([]:List Int),v)) (qhv (fun k _=>by unfold openC;simp))
 unfold qdC
 refine EvQ.bindN rfl ?_
 rw [hP]
 refine EvQ.bindN (qoh (show npl b≤2147483648 by omega)) (EvQ.bindE ((qrB h hV hP).cast rfl) (EvQ.bind hL fun r hr=>?_))
 obtain ⟨R,h1,hr⟩:=hr
 rcases hr with ⟨v,i,rfl,h2⟩|⟨rfl,h2,h3⟩
 ·exact EvQ.done ⟨R,h1,.inl ⟨rfl,h2⟩⟩
 ·exact EvQ.done ⟨R,h1,.inr ⟨rfl,h2,h3⟩⟩
theorem qrm {b:qd} {R out:List Nat} (h1:Topo (succL b) (npl b) R) (h2:Topo (succL b) (npl b) out) (hs:Stuck (succL b) (npl b) out) :
  (R.length=npl b→out.length=npl b)∧(R.length<npl b→Stuck (succL b) (npl b) R→out.length<npl b):=by
 refine ⟨fun h=>?_,fun h hR=>?_⟩
 ·have:=qlr h1.nodup (h1.sub hs)
  have:=h2.len
  omega
 ·have:=qlr h2.nodup (h2.sub hR)
  omega
end Go.Fw


namespace Go.Fw
open Go
set_option maxRecDepth 100000
def startB (b:qd) (p:Tplace):Bool:=bif decide (p.instance_<0) then p.drives || clkB b p else clkB b p
def startN (b:qd) (j:Nat):List Nat:=selN (fun i=>startB b (gt (places b.Aa) i)) j
theorem qlj {b:qd} (hok:qbn b) (h:blockB b=true):Ev (fun n=>qe3 n b) (ints (startN b (npl b))):=by
 have hl:npl b≤78:=qM (qw (qE h))
 have hL:Ev (fun n=>qbQ b n ([]:List Int) 0) (ints (startN b (npl b)),(npl b:Int)):=by
  refine qre (Lf:=qbQ b) (q:=fun i=>startB b (gt (places b.Aa) i)) (len:=npl b) (by omega) (Ev.succ ?_) (fun j hj t ht X h1 h2=>?_)
  ·simp only [qbQ]
   exact Ev.bind (qin h) (Ev.ff (qj (jf _)) .done)
  ·simp only [qbQ,wS j,ht,je]
   refine Ev.bind (qin h) (Ev.tt (qi hj) (Ev.bind (qlJ hok h hj) ?_))
   refine Ev.bind (b:=startB b (gt (places b.Aa) j)) ?_ ?_
   ·unfold startB
    refine Ev.iff (fun h0=>?_) (fun _=>Ev.last (qkn hok h hj))
    rcases qfl hj with ⟨i,k,hi,hk,ej,e⟩|⟨i,hi,_,e⟩
    ·rw [e] at h0
     exact absurd h0 (by show ¬ decide ((i:Int)<0)=true;simp)
    ·have hc:=qkn hok h hj
     rw [e] at hc ⊢
     rw [show (toSp (place2 b.Aa i)).pin=(i:Int) from rfl,qaa hi]
     simp only [je]
     rw [show (place2 b.Aa i).drives=((gt b.Aa.Ac i).Bl==1) from rfl]
     cases ((gt b.Aa.Ac i).Bl==1)
     ·exact Ev.last hc
     ·exact .done
   ·cases hq:startB b (gt (places b.Aa) j)
    ·exact h2 hq
    ·exact h1 hq
 unfold qe3
 exact Ev.bind hL .done
theorem qqh {b:qd} {V:Tview} {j:Nat} (h:blockB b=true) (hV:V.Be=b) (hj:j<npl b):Ev (fun n=>qeM n (some V) (gt (places b.Aa) j)) (startB b (gt (places b.Aa) j)):=by
 refine ⟨0,fun n _=>?_⟩
 show qeM n (some V) _=some _
 unfold qeM startB
 rw [qla (V:=V) h hV hj]
 cases decide ((gt (places b.Aa) j).instance_<0)<;>cases (gt (places b.Aa) j).drives<;>rfl
theorem qoj {b:qd} {out:List Nat} {i:Nat} (h:Topo (succL b) (npl b) out) (hi:i<out.length):out[i]<npl b∧out[i] ∉ out.take i∧(∀ u,u<npl b→(out[i]:Int) ∈ succL b u→u ∈ out.take i)∧(succL b out[i]).count (out[i]:Int)=0∧Topo (succL b) (npl b) (out.take i):=by
 have hsp:out=out.take i++out[i]::out.drop (i+1):=by rw [←jE hi,List.take_append_drop]
 have ht:=h
 rw [hsp] at ht
 obtain ⟨h1,h2,h3⟩:=ht.at
 exact ⟨h1,h2,h3,List.count_eq_zero.2 (fun he=>h2 (h3 _ h1 he)),ht.pre⟩
end Go.Fw


namespace Go.Fw
open Go
set_option maxRecDepth 100000
section
variable {code:List (IntK .u8)} {a s:Int}
def PlI (b:qd) (p:Int):Prop:=0≤p∧p<((places b.Aa).length:Int)
theorem qsA {b:qd} (h:blockB b=true) {j:Nat} (hj:j<(places b.Aa).length):∀ y,y ∈ succL b j→PlI b y:=by
 intro y hy
 obtain ⟨k,hk,e⟩:=qfW h hj y hy
 unfold PlI;omega
theorem qss {b:qd} (hok:qbn b) (h:blockB b=true) (h0:1≤(places b.Aa).length) (hc:CodeOk code) (hs:SrcI code a s) :
  EvQ (fun n=>qfc n ⟨code,a,s⟩ b) (fun o=>((1≤o.1.length∧o.1.length≤20)∧∀ y,y ∈ o.1→PlI b y)∧SrcI code o.2.1 o.2.2):=by
 have hpl:=qM (qw (qE h))
 have main:∀ (r:Nat) (x:List Int) (a' s' p:Int),SrcI code a' s'→(1≤x.length∧x.length+r≤20)→(∀ y,y ∈ x→PlI b y)→PlI b p →
   EvQ (fun n=>qcv ⟨code,a,s⟩ b n x a' s' p (r:Int)) (fun o=>((1≤o.1.length∧o.1.length≤20)∧∀ y,y ∈ o.1→PlI b y)∧SrcI code o.2.1 o.2.2):=by
  intro r
  induction r with
  | zero =>
   intro x a' s' p hs hl hx hp
   refine EvQ.succ ?_
   simp only [qcv]
   exact EvQ.ff rfl (EvQ.done ⟨⟨⟨hl.1,by dsimp only;omega⟩,hx⟩,hs⟩)
  | succ r ih =>
   intro x a' s' p hs hl hx hp
   refine EvQ.succ ?_
   simp only [qcv]
   obtain ⟨j,rfl⟩:∃ j:Nat,p=(j:Int):=⟨p.toNat,by have:=hp.1;omega⟩
   have hj:j<(places b.Aa).length:=by have:=hp.2;omega
   have hsl:=qeZ h (j:=j)
   refine EvQ.tt (by simp) (EvQ.bindE (qhQ hok h hj) (EvQ.bif (fun _=>EvQ.done ⟨⟨⟨hl.1,by dsimp only;omega⟩,hx⟩,hs⟩) (fun h1=>?_)))
   have h1:1≤(succL b j).length:=by cases hq:succL b j with
    | nil=>rw [hq] at h1;simp at h1
    | cons y ys=>exact Nat.succ_le_succ (jz _)
   refine EvQ.bind (qaq _ hc hs) ?_
   rintro ⟨i22,i23,i24⟩ ⟨⟨⟨q0,q1⟩,_⟩,hs⟩
   dsimp only at q0 q1 hs ⊢
   have q2:=q1 (by omega)
   obtain ⟨k,rfl⟩:∃ k:Nat,i22=(k:Int):=⟨i22.toNat,by omega⟩
   have hk:k<(succL b j).length:=by omega
   have e:W64 (((r+1:Nat):Int)-1)=(r:Int):=by rw [qaz (by omega) (by omega)];omega
   have hpk:=qsA h hj _ (jp hk)
   rw [e]
   exact EvQ.bindN (qZ hk) (EvQ.bindN (qcg (by omega)) (ih _ _ _ _ hs ⟨by rw [jj,jk];omega,by rw [jj,jk];omega⟩ (qbw hx hpk) hpk))
 unfold qfc
 refine EvQ.bindE (qlj hok h) (EvQ.bindE (qfU h) (EvQ.bind (qaq _ hc hs) ?_))
 rintro ⟨i1,i2,i3⟩ ⟨⟨⟨q0,q1⟩,_⟩,hs⟩
 dsimp only at q0 q1 hs ⊢
 have p1:PlI b i1:=by
  refine ⟨q0,?_⟩
  by_cases h2:((places b.Aa).length:Int) > 1
  ·rw [if_pos h2] at q1
   exact q1 (by omega)
  ·rw [if_neg h2] at q1
   have:=q1 (by decide)
   omega
 have st:∀ y,y ∈ ints (startN b (npl b))→PlI b y:=by
  intro y hy
  unfold ints startN selN at hy
  obtain ⟨k,hk,rfl⟩:=List.mem_map.1 hy
  have:=List.mem_range.1 (List.mem_filter.1 hk).1
  unfold npl at this
  unfold PlI
  omega
 refine EvQ.bind (R:=fun o:Int × Int × Bool=>SrcI code o.1 o.2.1∧(o.2.2=true→1≤(ints (startN b (npl b))).length)) (EvQ.bif (fun h1=>EvQ.bind (qaq 6 hc hs) ?_) (fun _=>EvQ.done ⟨hs,fun h=>by cases h⟩)) ?_
 ·rintro ⟨i28,i29,i30⟩ ⟨_,hs⟩
  exact EvQ.done ⟨hs,fun _=>by have:=of_decide_eq_true h1;omega⟩
 rintro ⟨i4,i5,b1⟩ ⟨hs,hb1⟩
 dsimp only at hs hb1 ⊢
 refine EvQ.bind (R:=fun o:Int × Int × Int=>SrcI code o.1 o.2.1∧PlI b o.2.2) (EvQ.bif (fun h1=>EvQ.bind (qaq _ hc hs) ?_) (fun _=>EvQ.done ⟨hs,p1⟩)) ?_
 ·rintro ⟨i25,i26,i27⟩ ⟨⟨⟨t0,t1⟩,_⟩,hs⟩
  dsimp only at t0 t1 hs ⊢
  have hn:=hb1 h1
  have t2:=t1 (by omega)
  obtain ⟨k,rfl⟩:∃ k:Nat,i25=(k:Int):=⟨i25.toNat,by omega⟩
  have hk:k<(ints (startN b (npl b))).length:=by omega
  exact EvQ.bindN (qZ hk) (EvQ.done ⟨hs,st _ (jp hk)⟩)
 rintro ⟨i6,i7,i8⟩ ⟨hs,hp⟩
 dsimp only at hs hp ⊢
 refine EvQ.bind (qaq 10 hc hs) ?_
 rintro ⟨i9,i10,i11⟩ ⟨⟨⟨t0,t1⟩,_⟩,hs⟩
 dsimp only at t0 t1 hs ⊢
 have t2:=t1 (by decide)
 obtain ⟨m,hm⟩:∃ m:Nat,2+i9=(m:Int):=⟨(2+i9).toNat,by omega⟩
 rw [wO (2+i9),hm]
 refine EvQ.bind (main m [i8] i10 i11 i8 hs (by simp;omega) (fun y hy=>by obtain rfl:=List.mem_singleton.1 hy;exact hp) hp) ?_
 rintro ⟨x2,i16,i17⟩ h2
 exact EvQ.done h2
theorem PlI.ok {b:qd} (h:blockB b=true) {p:Int} (hp:PlI b p):okI p:=by
 have hpl:=qM (qw (qE h))
 unfold PlI at hp
 exact qac (by omega) (by omega)
theorem quc {b:qd} {path:List Int} (h:blockB b=true) (h0:1≤(places b.Aa).length) (hl:1≤path.length∧path.length≤20) (hp:∀ y,y ∈ path→PlI b y) (hc:CodeOk code) (hs:SrcI code a s) :
  EvQ (fun n=>qea n ⟨code,a,s⟩ b path) (fun o=>qG o.1∧SrcI code o.2.1 o.2.2):=by
 have hpl:=qM (qw (qE h))
 have one:∀ {x:Int},okI x→okL okI [x]:=fun hx=>⟨by simp,fun y hy=>by obtain rfl:=List.mem_singleton.1 hy;exact hx⟩
 have none_:okL okI ([]:List Int):=⟨jz _,fun _ h=>by cases h⟩
 have main:∀ (d j:Nat) (x:List Int) (a' s':Int),SrcI code a' s'→j+d=path.length→x.length≤j→(∀ y,y ∈ x→okI y) →
   EvQ (fun n=>qaZ ⟨code,a,s⟩ path n x a' s' (j:Int)) (fun o=>okL okI o.1∧SrcI code o.2.1 o.2.2.1):=by
  intro d
  induction d with
  | zero =>
   intro j x a' s' hs hj hx hok
   refine EvQ.succ ?_
   simp only [qaZ]
   exact EvQ.ff (qj (by omega)) (EvQ.done ⟨⟨by dsimp only;omega,hok⟩,hs⟩)
  | succ d ih =>
   intro j x a' s' hs hj hx hok
   have hjl:j<path.length:=by omega
   refine EvQ.succ ?_
   simp only [qaZ,wS j]
   refine EvQ.tt (qi hjl) (EvQ.bind (R:=fun o:Int × Int × Bool=>SrcI code o.1 o.2.1) (EvQ.bif (fun _=>EvQ.bind (qaq 5 hc hs) ?_) (fun _=>EvQ.done hs)) ?_)
   ·rintro ⟨i18,i19,i20⟩ ⟨_,hs⟩
    exact EvQ.done hs
   ·rintro ⟨i16,i17,b1⟩ hs
    dsimp only at hs ⊢
    refine EvQ.bif (fun _=>?_) (fun _=>ih (j+1) x _ _ hs (by omega) (by omega) hok)
    have hl1:(x++[path[j]]).length≤j+1:=by rw [jj,jk];omega
    exact EvQ.bindN (qZ hjl) (EvQ.bindN (qcg (by omega)) (EvQ.bindN (qiU (by omega)) (ih (j+1) _ _ _ hs (by omega) hl1 (qbw hok ((hp _ (jp hjl)).ok h)))))
 have cnt:∀ {a' s':Int},SrcI code a' s'→EvQ (fun n=>qn n ⟨code,a',s'⟩ ((places b.Aa).length:Int)) (fun o=>okI o.1∧SrcI code o.2.1 o.2.2):=fun {a' s'} hs=>(qaq _ hc hs).mono (fun o ho=>⟨by have h1:=ho.1.1.1;have h2:=ho.1.1.2 (by omega);exact qac (by omega) (by omega),ho.2⟩)
 unfold qea
 refine EvQ.bind (qaq 4 hc hs) ?_
 rintro ⟨i1,i2,i3⟩ ⟨_,hs⟩
 dsimp only at hs ⊢
 refine EvQ.bind (R:=fun o:Int × Int × Int=>SrcI code o.1 o.2.1∧okI o.2.2) ?_ ?_
 ·have z0:okI 0:=qac (by decide) (by decide)
  refine EvQ.bif (fun _=>EvQ.bind (qaq 4 hc hs) ?_) (fun _=>EvQ.bif (fun _=>EvQ.bif (fun _=>EvQ.bind (qaq 40 hc hs) ?_) (fun _=>EvQ.done ⟨hs,z0⟩)) (fun _=>EvQ.bif (fun _=>EvQ.bind (qaq 40 hc hs) ?_) (fun _=>EvQ.done ⟨hs,z0⟩)))
  all_goals
   rintro ⟨j1,j2,j3⟩ ⟨_,hs⟩
   exact EvQ.done ⟨hs,qdf _⟩
 rintro ⟨i4,i5,i6⟩ ⟨hs,hi6⟩
 dsimp only at hs hi6 ⊢
 refine EvQ.bind (qaq 2 hc hs) ?_
 rintro ⟨i7,i8,i9⟩ ⟨_,hs⟩
 dsimp only at hs ⊢
 refine EvQ.bind (R:=fun o:List Int=>okL okI o) (EvQ.bif (fun _=>EvQ.bindN (qZ (j:=0) (show 0<path.length by omega)) (EvQ.done (one ((hp _ (jp _)).ok h)))) (fun _=>EvQ.done none_)) (fun x1 hx1=>?_)
 refine EvQ.bind (qaq 2 hc hs) ?_
 rintro ⟨i10,i11,i12⟩ ⟨_,hs⟩
 dsimp only at hs ⊢
 have e:W64 ((path.length:Int)-1)=((path.length-1:Nat):Int):=by rw [qaz (by omega) (by omega)];omega
 rw [e]
 refine EvQ.bind (R:=fun o:List Int=>okL okI o) (EvQ.bif (fun _=>EvQ.bindN (qZ (show path.length-1<path.length by omega)) (EvQ.done (one ((hp _ (jp _)).ok h)))) (fun _=>EvQ.done none_)) (fun x2 hx2=>?_)
 refine EvQ.bind (main path.length 0 [] i11 i12 hs (by omega) (jz _) (fun _ h=>by cases h)) ?_
 rintro ⟨x3,i13,i14,i15⟩ ⟨hx3,hs⟩
 dsimp only at hx3 hs ⊢
 refine EvQ.bind (qaq 12 hc hs) ?_
 rintro ⟨i21,i22,i23⟩ ⟨_,hs⟩
 dsimp only at hs ⊢
 refine EvQ.bif (fun _=>EvQ.bindE (qfU h) (EvQ.bind (cnt hs) ?_)) (fun _=>EvQ.bif (fun _=>EvQ.bindE (qfU h) (EvQ.bind (cnt hs) ?_)) (fun _=>EvQ.bif (fun _=>EvQ.bindE (qfU h) (EvQ.bind (cnt hs) ?_)) (fun _=>EvQ.done ⟨⟨qdf _,hi6,hx1,hx3,hx2⟩,hs⟩)))
 ·rintro ⟨j1,j2,j3⟩ ⟨hj,hs⟩
  exact EvQ.done ⟨⟨qdf _,hi6,one hj,hx3,hx2⟩,hs⟩
 ·rintro ⟨j1,j2,j3⟩ ⟨hj,hs⟩
  exact EvQ.done ⟨⟨qdf _,hi6,hx1,hx3,one hj⟩,hs⟩
 ·rintro ⟨j1,j2,j3⟩ ⟨hj,hs⟩
  exact EvQ.done ⟨⟨qdf _,hi6,hx1,one hj,hx2⟩,hs⟩
theorem qtC {b:qd} {path:List Int} (h:blockB b=true) (h0:1≤(places b.Aa).length) (hl:1≤path.length∧path.length≤20) (hp:∀ y,y ∈ path→PlI b y) (hc:CodeOk code) (hs:SrcI code a s) :
  EvQ (fun n=>qgl n ⟨code,a,s⟩ b path) (fun o=>okL qG o.1∧SrcI code o.2.1 o.2.2):=by
 have hpl:=qM (qw (qE h))
 have main:∀ (r:Nat) (x:List qa) (a' s':Int),SrcI code a' s'→x.length+r≤10→(∀ y,y ∈ x→qG y) →
   EvQ (fun n=>qcy ⟨code,a,s⟩ b path n x a' s' (r:Int)) (fun o=>(o.1.length≤10∧∀ y,y ∈ o.1→qG y)∧SrcI code o.2.1 o.2.2.1):=by
  intro r
  induction r with
  | zero =>
   intro x a' s' hs hx hok
   refine EvQ.succ ?_
   simp only [qcy]
   exact EvQ.ff rfl (EvQ.done ⟨⟨by dsimp only;omega,hok⟩,hs⟩)
  | succ r ih =>
   intro x a' s' hs hx hok
   have e:W64 (((r+1:Nat):Int)-1)=(r:Int):=by rw [qaz (by omega) (by omega)];omega
   refine EvQ.succ ?_
   simp only [qcy,e]
   refine EvQ.tt (by simp) (EvQ.bind (quc h h0 hl hp hc hs) ?_)
   rintro ⟨r1,i7,i8⟩ ⟨h1,hs⟩
   exact EvQ.bindN (qcg (by omega)) (ih _ _ _ hs (by rw [jj,jk];omega) (qbw hok h1))
 have grow:∀ (d:Nat) (x:List qa),x.length+d=11→1≤x.length→(∀ y,y ∈ x→qG y)→EvQ (fun n=>qcD n x) (fun o=>o.length≤11∧∀ y,y ∈ o→qG y):=by
  intro d
  induction d with
  | zero =>
   intro x hx h1 hok
   refine EvQ.succ ?_
   simp only [qcD]
   exact EvQ.ff (by simp;omega) (EvQ.done ⟨by omega,hok⟩)
  | succ d ih =>
   intro x hx h1 hok
   refine EvQ.succ ?_
   simp only [qcD]
   refine EvQ.bif (fun _=>EvQ.bindN (qZ (j:=0) (show 0<x.length by omega)) (EvQ.bindN (qcg (by omega)) (ih _ (by rw [jj,jk];omega) (by rw [jj,jk];omega) (qbw hok (hok _ (jp _)))))) (fun _=>EvQ.done ⟨by omega,hok⟩)
 unfold qgl
 refine EvQ.bind (qaq 5 hc hs) ?_
 rintro ⟨i1,i2,i3⟩ ⟨⟨⟨q0,q1⟩,_⟩,hs⟩
 dsimp only at q0 q1 hs ⊢
 have q2:=q1 (by decide)
 obtain ⟨m,rfl⟩:∃ m:Nat,i1=(m:Int):=⟨i1.toNat,by omega⟩
 refine EvQ.bind (main m [] i2 i3 hs (by simp;omega) (fun _ h=>by cases h)) ?_
 rintro ⟨x1,i4,i5,i6⟩ ⟨⟨l1,h1⟩,hs⟩
 dsimp only at l1 h1 hs ⊢
 refine EvQ.bind (R:=fun o:Int × Int × Bool=>SrcI code o.1 o.2.1∧(o.2.2=true→1≤x1.length)) (EvQ.bif (fun hp=>EvQ.bind (qaq 16 hc hs) ?_) (fun _=>EvQ.done ⟨hs,fun h=>by cases h⟩)) ?_
 ·rintro ⟨j1,j2,j3⟩ ⟨_,hs⟩
  exact EvQ.done ⟨hs,fun _=>by have:=of_decide_eq_true hp;omega⟩
 rintro ⟨i9,i10,b1⟩ ⟨hs,hb⟩
 dsimp only at hs hb ⊢
 refine EvQ.bif (fun hb1=>?_) (fun _=>EvQ.done ⟨⟨by dsimp only;omega,h1⟩,hs⟩)
 have hn:=hb hb1
 have h00:0<x1.length:=by omega
 have hx0:=h1 _ (jp h00)
 have set0:∀ {y:qa},qG y→okL qG (setS x1 0 y):=fun {y} hy=>⟨by rw [qdd];omega,qhf h1 hy⟩
 refine EvQ.bind (qaq 4 hc hs) ?_
 rintro ⟨i11,i12,i13⟩ ⟨_,hs⟩
 dsimp only at hs ⊢
 refine EvQ.bif (fun _=>EvQ.bind (qaq 2 hc hs) ?_) (fun _=>EvQ.bif (fun _=>?_) (fun _=>EvQ.bif (fun _=>?_) (fun _=>?_)))
 ·rintro ⟨i14,i15,i16⟩ ⟨_,hs⟩
  exact EvQ.bindN (qZ (j:=0) h00) (EvQ.done ⟨set0 ⟨qdf _,hx0.Bc,hx0.As,hx0.Am,hx0.To⟩,hs⟩)
 ·exact EvQ.bindN (qZ (j:=0) h00) (EvQ.done ⟨set0 ⟨hx0.Ar,qac (x:=-1) (by decide) (by decide),hx0.As,hx0.Am,hx0.To⟩,hs⟩)
 ·exact EvQ.bindE (qfU h) (EvQ.bindN (qZ (j:=0) h00) (EvQ.done ⟨set0 ⟨hx0.Ar,hx0.Bc,hx0.As,hx0.Am,⟨by simp,fun y hy=>by obtain rfl:=List.mem_singleton.1 hy;exact qac (by omega) (by omega)⟩⟩,hs⟩))
 ·refine EvQ.bind (grow (11-x1.length) x1 (by omega) hn h1) (fun x3 hx3=>EvQ.done ⟨⟨by dsimp only;omega,hx3.2⟩,hs⟩)
structure CaseI (b:qd) (es:List qa) (path:List Int):Prop where
 blk:BlkO b
 es:okL qG es
 l1:1≤path.length
 l2:path.length≤30
 pk:∀ y,y ∈ path→okI y
theorem qtY (hc:CodeOk code):EvQ (fun n=>qgg n code) (fun o=>CaseI o.1 o.2.1 o.2.2):=by
 obtain ⟨s,h1,hs⟩:=qsO hc
 unfold qgg
 refine EvQ.bindE h1 (EvQ.bind (qtF hc hs) ?_)
 rintro ⟨b,i2,i3⟩ ⟨hb,hs⟩
 dsimp only at hb hs ⊢
 have bad:CaseI b [] [0]:=⟨hb,⟨jz _,fun _ h=>by cases h⟩,by simp,by simp,fun y hy=>by obtain rfl:=List.mem_singleton.1 hy;exact qac (by decide) (by decide)⟩
 refine EvQ.bind (R:=fun o:Bool=>o=true∨(blockB b=true∧1≤(places b.Aa).length)) ?_ ?_
 ·refine EvQ.bindE (qh1 hb.ok) ?_
  cases h:blockB b
  ·exact EvQ.tt rfl (EvQ.done (.inl rfl))
  ·refine EvQ.ff rfl (EvQ.bindE (qfU h) (EvQ.done ?_))
   rcases Nat.eq_zero_or_pos (places b.Aa).length with h0|h0
   ·exact .inl (by rw [h0];rfl)
   ·exact .inr ⟨rfl,h0⟩
 intro b1 hb1
 refine EvQ.bif (fun _=>EvQ.done bad) (fun hf=>?_)
 obtain ⟨h,h0⟩:blockB b=true∧1≤(places b.Aa).length:=by
  rcases hb1 with rfl|h
  ·cases hf
  ·exact h
 have hpl:=qM (qw (qE h))
 refine EvQ.bind (qss hb.ok h h0 hc hs) ?_
 rintro ⟨r3,i4,i5⟩ ⟨⟨l3,h3⟩,hs⟩
 refine EvQ.bind (qtC h h0 l3 h3 hc hs) ?_
 rintro ⟨r4,i6,i7⟩ ⟨h4,hs⟩
 refine EvQ.bind (qaq 3 hc hs) ?_
 rintro ⟨i8,i9,i10⟩ ⟨_,hs⟩
 dsimp only at l3 h3 h4 hs ⊢
 refine EvQ.bind (R:=fun o:List Int × Int × Int=>((1≤o.1.length∧o.1.length≤20)∧∀ y,y ∈ o.1→PlI b y)∧SrcI code o.2.1 o.2.2) (EvQ.bif (fun _=>EvQ.bind (qss hb.ok h h0 hc hs) ?_) (fun _=>EvQ.done ⟨⟨l3,h3⟩,hs⟩)) ?_
 ·rintro ⟨r6,i19,i20⟩ h6
  exact EvQ.done h6
 rintro ⟨x1,i11,i12⟩ ⟨⟨lx,hx⟩,hs⟩
 dsimp only at lx hx hs ⊢
 refine EvQ.bind (qaq 14 hc hs) ?_
 rintro ⟨i13,i14,i15⟩ ⟨_,hs⟩
 dsimp only at hs ⊢
 refine EvQ.bif (fun _=>EvQ.bindE (qfU h) (EvQ.bind (qaq _ hc hs) ?_)) (fun _=>EvQ.done ⟨hb,h4,lx.1,by dsimp only;omega,fun y hy=>(hx y hy).ok h⟩)
 rintro ⟨i16,i17,i18⟩ ⟨⟨⟨t0,t1⟩,_⟩,hs⟩
 dsimp only at t0 t1
 have t2:=t1 (by omega)
 exact EvQ.bindN (qcg (by omega)) (EvQ.done ⟨hb,h4,by show 1≤(_++_:List Int).length;rw [jj,jk];omega,by show (_++_:List Int).length≤_;rw [jj,jk];omega,qbw (fun y hy=>(hx y hy).ok h) (qac (by omega) (by omega))⟩)
theorem qsi (hc:CodeOk code):EvQ (fun n=>qc9 n code) (fun o=>CaseI o.1 o.2.1 o.2.2):=by
 unfold qc9
 refine EvQ.bind (qtY hc) ?_
 rintro ⟨b,es,p⟩ h
 exact EvQ.done h
end
end Go.Fw


namespace Go.Fw
open Go
set_option maxRecDepth 100000
theorem qoM {b:qd} (h:blockB b=true):Ev (fun n=>qab n b) ((places b.Aa).length:Int):=by
 unfold qab
 exact Ev.bind (qfn (qw (qE h))) (Ev.now (by rw [jH]))
def plsB (b:qd) (xs:List Int):Bool:=decide (xs.length≤4)&&allN (fun j=>inPl b (at0 xs j)) xs.length
def valB (k v:Int):Bool:=bif k==1 then v==0 else bif k==2 then inI v 1 10 else bif (k==3) || (k==4) then inI v 0 1000000000 else false
def excB (b:qd) (e:qa):Bool:=(plsB b e.As&&(plsB b e.Am&&plsB b e.To))&&(valB e.Ar e.Bc&&(incB e.As&&incB e.To))
theorem qjP {b:qd} {xs:List Int} {sorted:Bool} (h:blockB b=true) (hl:xs.length≤1048576):Ev (fun n=>qfj n b xs sorted) (plsB b xs&&(!sorted || incB xs)):=by
 have hpl:=qM (qw (qE h))
 have hL:Ev (fun n=>qbS b xs sorted n 0) (bif allN (fun j=>inPl b (at0 xs j)&&(!sorted || stepB xs j)) xs.length then .nxt (xs.length:Int) else .ret false):=by
  refine qee ?_ (fun j hj X hX=>Ev.succ ?_)
  ·exact Ev.succ (by simp only [qbS,qj (jf _),cond_false];exact .done)
  ·simp only [qbS,qi hj,cond_true,qaN hj,je,qdE,wS j]
   refine Ev.bind (qoM h) ?_
   rw [qbc (show (places b.Aa).length≤9223372036854775807 by omega)]
   simp only [qaQ]
   refine Ev.okP (a:=inPl b (at0 xs j)) fun _=>?_
   cases sorted
   ·exact hX
   ·refine Ev.tt rfl ?_
    unfold stepB
    by_cases h0:j=0
    ·subst h0
     exact Ev.ff (by decide) hX
    ·refine Ev.tt (by simp;omega) ?_
     simp only [show (j:Int)-1=((j-1:Nat):Int) by omega,qaz (show -9223372036854775808≤((j-1:Nat):Int) by omega) (by omega),qaN (show j-1<xs.length by omega),je]
     rw [show decide (at0 xs (j-1) ≥ at0 xs j) = !decide (at0 xs (j-1)<at0 xs j) by rw [jm];simp,show decide (j=0)=false by simp;omega]
     simp only [qaQ,Jk,Jl]
     exact Ev.okP1 fun _=>hX
 unfold qfj
 have e:(plsB b xs&&(!sorted || incB xs))=(allN (fun j=>inPl b (at0 xs j)&&(!sorted || stepB xs j)) xs.length&&decide (xs.length≤4)):=by
  unfold plsB incB
  rw [qiw]
  cases sorted
  ·simp only [Bool.not_false,Bool.true_or,Bool.and_true]
   rw [show allN (fun _=>true) xs.length=true from qay.2 (fun _ _=>rfl),Bool.and_true,Bool.and_comm]
  ·simp only [Jk,Jl]
   rw [Ji,Bool.and_comm]
 rw [e]
 refine Ev.bind hL ?_
 cases allN (fun j=>inPl b (at0 xs j)&&(!sorted || stepB xs j)) xs.length
 ·exact .done
 ·refine Ev.now ?_
  show some (decide ((xs.length:Int)≤((4:Nat):Int)))=some (true&&decide (xs.length≤4))
  rw [qjC,jJ]
theorem qp3 {n:Nat} {k v:Int}:qih n k v=some (valB k v):=by
 simp only [qih,qcN,je]
 unfold valB
 cases (k==1)<;>cases (k==2)<;>cases (k==3)<;>cases (k==4)<;>rfl
theorem qnd {b:qd} {V:Tview} {e:qa} (h:blockB b=true) (hP:V.places=places b.Aa) (he:qG e):Ev (fun n=>qec n (some V) e) (excB b e):=by
 have hpl:=qM (qw (qE h))
 have one:∀ xs:List Int,xs.length≤1048576→∀ {F:Nat→Option (Flow Bool Int)} {X:Flow Bool Int},Ev F X →
   Ev (fun n=>bif decide ((xs.length:Int) > 4) then some (.ret false) else (qbm n xs 0 (((places b.Aa).length:Int)-1)).bind fun r2=>bif (!r2) then some (.ret false) else F n) (bif plsB b xs then X else .ret false):=by
  intro xs hx F X hX
  unfold plsB
  rw [show decide ((xs.length:Int) > 4) = !decide (xs.length≤4) from qjQ (k:=4)]
  simp only [qaQ]
  refine Ev.okP fun _=>Ev.ok1 ((qeD hx).cast (by rw [qgx (d:=0)];rfl)) fun _=>hX
 have hL:Ev (fun n=>qal (some V) e n 0) (bif plsB b e.As then (bif plsB b e.Am then (bif plsB b e.To then .nxt 3 else .ret false) else .ret false) else .ret false):=by
  refine Ev.succ ?_
  simp only [qal,je,qaI,hP,qbc (show (places b.Aa).length≤9223372036854775807 by omega)]
  refine one e.As he.As.len (F:=fun n=>qal (some V) e n 1) (Ev.succ ?_)
  simp only [qal,je,qaI,hP,qbc (show (places b.Aa).length≤9223372036854775807 by omega)]
  refine one e.Am he.Am.len (F:=fun n=>qal (some V) e n 2) (Ev.succ ?_)
  simp only [qal,je,qaI,hP,qbc (show (places b.Aa).length≤9223372036854775807 by omega)]
  refine one e.To he.To.len (F:=fun n=>qal (some V) e n 3) (Ev.succ ?_)
  exact .done
 unfold qec excB
 refine Ev.bind hL ?_
 cases plsB b e.As
 ·exact .done
 ·cases plsB b e.Am
  ·exact .done
  ·cases plsB b e.To
   ·exact .done
   ·simp only [cond_true,qp3,je,Bool.and_self,jJ]
    exact Ev.andP fun _=>Ev.and (qh9 he.As.len) fun _=>Ev.last (qh9 he.To.len)
theorem qmC {b:qd} {e:qa} (hok:qbn b) (he:qG e):Ev (fun n=>qgi n b e) (blockB b&&excB b e):=by
 have eq:(blockB b&&excB b e)=((blockB b&&((plsB b e.As&&(!true || incB e.As))&&((plsB b e.Am&&(!false || incB e.Am))&&(plsB b e.To&&(!true || incB e.To)))))&&valB e.Ar e.Bc):=by
  unfold excB
  generalize blockB b=a1
  generalize plsB b e.As=a2
  generalize plsB b e.Am=a3
  generalize plsB b e.To=a4
  generalize valB e.Ar e.Bc=a5
  generalize incB e.As=a6
  generalize incB e.To=a7
  cases a1<;>cases a2<;>cases a3<;>cases a4<;>cases a5<;>cases a6<;>cases a7<;>rfl
 rw [eq]
 unfold qgi
 refine Ev.guardB (Ev.or (qh1 hok) fun h=>Ev.or (qjP h he.As.len) fun _=>Ev.or (qjP h he.Am.len) fun _=>Ev.neg (qjP h he.To.len)) fun _=>?_
 simp only [qdE,je]
 unfold valB
 cases (e.Ar==1)<;>cases (e.Ar==2)<;>cases (e.Ar==3)<;>cases (e.Ar==4)<;>exact .done
end Go.Fw


namespace Go.Fw
open Go
set_option maxRecDepth 100000
def hasI (xs:List Int) (y:Int):Bool:=xs.any fun x=>x==y
theorem qn8 {xs:List Int} {y:Int} (hl:xs.length≤1048576):Ev (fun n=>qhN n xs y) (ixL (fun x=>x==y) xs) :=
 qdA (fin:=(xs.length:Int)) (Lf:=qe1 xs y) (pf:=fun _ x=>some (x==y)) (fun _ _=>.done)
  (fun n=>by simp only [qe1,qj (jf _),cond_false])
  (fun n j x hx=>by
   have hj:=(List.getElem?_eq_some_iff.1 hx).1
   simp only [qe1,qi hj,cond_true,qfY hx,je,wS j])
  (fun n=>by unfold qhN;congr 1;funext o;cases o<;>rfl)
theorem qkm {xs:List Int} {y:Int} (hl:xs.length≤1048576):Ev (fun n=>qbW n xs y) (hasI xs y):=by
 unfold qbW
 refine Ev.bind (b:=ixL (fun x=>y==x) xs) (qdA (fin:=(xs.length:Int)) (Lf:=qbX xs y) (pf:=fun _ x=>some (y==x)) (fun _ _=>.done)
  (fun n=>by simp only [qbX,qj (jf _),cond_false])
  (fun n j x hx=>by
   have hj:=(List.getElem?_eq_some_iff.1 hx).1
   simp only [qbX,qi hj,cond_true,qfY hx,je,wS j])
  (fun n=>by unfold qgQ;congr 1;funext o;cases o<;>rfl)) (Ev.now ?_)
 rw [qh4]
 unfold hasI
 congr 2
 funext x
 rw [jm,beq_iff_eq,beq_iff_eq]
 exact eq_comm
theorem qr5 {p:Int→Bool} {xs:List Int}:decide (ixL p xs<0) = !xs.any p:=by
 rw [←qh4,jm];simp
def stepP (b:qd) (path:List Int) (j:Nat):Bool:=decide (j=0) || hasI (succL b (at0 path (j-1)).toNat) (at0 path j)
def dpathB (b:qd) (path:List Int):Bool:=lenB path 1 60&&(allN (fun j=>inPl b (at0 path j)) path.length&&allN (stepP b path) path.length)
theorem qnQ {b:qd} {V:Tview} {path:List Int} (h:blockB b=true) (hV:V.Be=b) (hP:V.places=places b.Aa) (hl:path.length≤1048576):Ev (fun n=>qc2 n (some V) path) (dpathB b path):=by
 have hs:=qw (qE h)
 have hpl:=qM hs
 unfold qc2 dpathB
 simp only [qV,qaI,qcN,je,hP,qbc (show (places b.Aa).length≤9223372036854775807 by omega),qaQ]
 rw [←Ji,show inI (path.length:Int) 1 60=lenB path 1 60 from qmN (lo:=1) (hi:=60)]
 refine Ev.guardB (Ev.orBP fun _=>Ev.neg ((qeD hl).cast (by rw [qgx (d:=0)];rfl))) fun hb=>?_
 rw [jg,qay] at hb
 obtain ⟨hlen,hin⟩:=hb
 have hlen':1≤path.length:=by unfold lenB at hlen;simp only [jg,decide_eq_true_eq] at hlen;exact hlen.1
 have hL:=qoA (Lf:=qbA (some V) path) (len:=path.length) (i0:=1) (f:=stepP b path) (bad:=false) (fin:=.nxt (path.length:Int)) hlen'
  (Ev.succ (by simp only [qbA,qj (jf _),cond_false];exact .done))
  (fun j h1 hj X hX=>Ev.succ (by
   have hp:inPl b (at0 path (j-1))=true:=hin (j-1) (by omega)
   unfold inPl at hp
   rw [qbT] at hp
   have ep:=qlf hp.1
   simp only [qbA,qi hj,cond_true,show (j:Int)-1=((j-1:Nat):Int) by omega,qaz (show -9223372036854775808≤((j-1:Nat):Int) by omega) (by omega),wS j,qaN (show j-1<path.length by omega),qaN hj,je]
   unfold stepP
   rw [show decide (j=0)=false by simp;omega,Jl]
   refine Ev.bind (b:=succL b (at0 path (j-1)).toNat) ?_ ?_
   ·have:=qhE h hV hP (j:=(at0 path (j-1)).toNat) (by omega)
    rw [←ep] at this
    exact this
   ·exact Ev.chk1 (qkm (by have:=qeZ h (j:=(at0 path (j-1)).toNat);omega)) fun _=>hX))
 have e:allN (fun j=>stepP b path (1+j)) (path.length-1)=allN (stepP b path) path.length:=by
  rw [jm,qay,qay]
  constructor
  ·intro h j hj
   cases j with
   | zero=>rfl
   | succ j=>have:=h j (by omega);rwa [Nat.add_comm] at this
  ·intro h j hj
   exact h (1+j) (by omega)
 rw [e] at hL
 refine Ev.bind hL ?_
 cases allN (stepP b path) path.length<;>exact .done
theorem qnu {b:qd} {path:List Int} (hok:qbn b) (hl:path.length≤1048576):Ev (fun n=>qgG n b path) (blockB b&&dpathB b path):=by
 unfold qgG dpathB
 rw [←Ji,←qiw]
 refine Ev.guardB ?_ fun hb=>?_
 ·unfold lenB
  rw [show decide ((path.length:Int)<1) = !decide (1≤path.length) from qqF (k:=1),show decide ((path.length:Int) > 60) = !decide (path.length≤60) from qjQ (k:=60)]
  refine Ev.or (qh1 hok) fun _=>?_
  simp only [qaQ]
  exact Ev.orBP fun _=>.done
 ·rw [jg] at hb
  have h:=hb.1
  have hs:=qw (qE h)
  have hpl:=qM hs
  have hL:Ev (fun n=>qbI b path n 0) (bif allN (fun j=>inPl b (at0 path j)&&stepP b path j) path.length then .nxt (path.length:Int) else .ret false):=by
   refine loopN (τ:=Unit) (Lf:=fun n _ j=>qbI b path n j) (S:=fun _=>()) (fun j=>inPl b (at0 path j)&&stepP b path j) (fun n=>?_) (fun j hj hp X hX=>?_)
   ·simp only [qbI,qj (jf _),cond_false]
   ·simp only [qbI,qi hj,cond_true,qaN hj,je,qdE,wS j]
    have e1:Ev (fun n=>qab n b) ((places b.Aa).length:Int):=by
     unfold qab
     exact Ev.bind (qfn hs) (Ev.now (by rw [jH]))
    refine Ev.bind e1 ?_
    rw [qbc (show (places b.Aa).length≤9223372036854775807 by omega)]
    simp only [qaQ]
    refine Ev.okP fun hin=>?_
    have hX:=fun hst=>hX (by rw [jg];exact ⟨hin,hst⟩)
    unfold stepP at hX ⊢
    by_cases h0:j=0
    ·subst h0
     refine Ev.ff (by decide) ?_
     exact hX rfl
    ·have hq:=hp (j-1) (by omega)
     rw [jg] at hq
     have hq:=hq.1
     unfold inPl at hq
     rw [qbT] at hq
     have ep:=qlf hq.1
     rw [show decide (j=0)=false by simp;omega,Jl] at hX ⊢
     refine Ev.tt (by simp;omega) ?_
     rw [qbc (show j≤9223372036854775807 by omega),show (j:Int)-1=((j-1:Nat):Int) by omega,qaN (show j-1<path.length by omega)]
     simp only [je]
     refine Ev.bind (b:=succL b (at0 path (j-1)).toNat) ?_ (Ev.bind (qn8 (by have:=qeZ h (j:=(at0 path (j-1)).toNat);omega)) ?_)
     ·have:=qhQ hok h (j:=(at0 path (j-1)).toNat) (by omega)
      rw [←ep] at this
      exact this
     ·rw [qr5]
      simp only [qaQ]
      exact Ev.okP1 hX
  refine Ev.bind hL ?_
  cases allN (fun j=>inPl b (at0 path j)&&stepP b path j) path.length<;>exact .done
instance:Inhabited qa:=⟨⟨0,0,[],[],[]⟩⟩
def stepT (e:qa) (found place:Int):Int:=bif decide (found ≥ 0)&&(decide (found<(e.Am.length:Int))&&(at0 e.Am found.toNat==place)) then found+1 else found
def fromB (e:qa) (p:Int):Bool:=decide (e.As.length=0) || hasI e.As p
def toB (e:qa) (p:Int):Bool:=decide (e.To.length=0) || hasI e.To p
def beginT (e:qa) (p:Int):Int:=bif fromB e p then stepT e 0 p else -1
def runT (e:qa) (path:List Int):Int:=(path.drop 1).foldl (stepT e) (beginT e (at0 path 0))
def matT (e:qa) (found p:Int):Bool:=(found==(e.Am.length:Int))&&toB e p
def lastP (path:List Int):Int:=at0 path (path.length-1)
theorem qrz {e:qa} {p:Int}:stepT e (-1) p=-1:=rfl
theorem qoN {e:qa} {found p:Int} (hl:e.Am.length≤1048576):Ev (fun n=>qbO n e found p) (stepT e found p):=by
 unfold qbO stepT
 simp only [qV,je]
 cases h1:decide (found ≥ 0)
 ·exact .done
 ·cases h2:decide (found<(e.Am.length:Int))
  ·exact .done
  ·have h1:=of_decide_eq_true h1
   have h2:=of_decide_eq_true h2
   simp only [cond_true,jJ]
   obtain ⟨k,rfl⟩:∃ k:Nat,found=(k:Int):=⟨found.toNat,by omega⟩
   rw [qaN (show k<e.Am.length by omega),jC]
   simp only [je]
   cases (at0 e.Am k==p)
   ·exact .done
   ·exact Ev.now (by rw [qaz (by omega) (by omega)];rfl)
theorem qsH {e:qa} {p:Int} (he:qG e):Ev (fun n=>qew n e p) (beginT e p):=by
 unfold qew beginT fromB
 have hs:=qoN (found:=0) (p:=p) he.Am.len
 by_cases h0:e.As.length=0
 ·exact Ev.ff (by simp [h0]) (by rw [decide_eq_true h0];exact Ev.bind hs .done)
 ·refine Ev.tt (by simp;omega) ?_
  rw [decide_eq_false h0,Jl]
  refine Ev.bind (qkm he.As.len) ?_
  cases hasI e.As p
  ·exact .done
  ·exact Ev.ff rfl (Ev.bind hs .done)
theorem qqa {e:qa} {found p:Int} (he:qG e):Ev (fun n=>qdG n e found p) (matT e found p):=by
 unfold qdG matT toB
 simp only [qV,je]
 refine Ev.andP fun _=>?_
 by_cases h0:e.To.length=0
 ·exact Ev.tt (by simp [h0]) (by rw [decide_eq_true h0];exact .done)
 ·refine Ev.ff (by rw [Bool.eq_false_iff,Ne,beq_iff_eq];omega) ?_
  rw [decide_eq_false h0,Jl]
  exact Ev.last (qkm he.To.len)
theorem qrD {α:Type} {xs:List α} (h:1≤xs.length):subS xs 1 (xs.length:Int)=some (xs.drop 1):=by
 unfold subS
 rw [if_pos ⟨by omega,by omega,by omega⟩]
 simp
theorem qrp {e:qa} {xs:List Int} {i0:Int} {j:Nat} (h:j<xs.length):stepT e ((xs.take j).foldl (stepT e) i0) (at0 xs j)=(xs.take (j+1)).foldl (stepT e) i0:=by
 rw [jr h,List.foldl_append]
 simp [at0,h]
theorem qpY {e:qa} {xs:List Int} {i0:Int} (he:qG e) (hl:xs.length≤1048576):Ev (fun n=>qeR e xs n i0 0) (xs.foldl (stepT e) i0,(xs.length:Int)):=by
 have:=loopF (Lf:=qeR e xs) (S:=fun j=>(xs.take j).foldl (stepT e) i0) (len:=xs.length) (fin:=(xs.foldl (stepT e) i0,(xs.length:Int)))
  (fun n=>by simp only [qeR,qj (jf _),cond_false,jB])
  (fun j hj X hX=>by
   simp only [qeR,qi hj,cond_true,qaN hj,je,wS j]
   refine Ev.bind (qoN he.Am.len) ?_
   rw [qrp hj]
   exact hX)
 simpa using this
theorem qnc {es:List qa} {path:List Int} (he:okL qG es) (h1:1≤path.length) (hl:path.length≤1048576):Ev (fun n=>qf0 n es path) (es.map fun e=>runT e path):=by
 have hes:=he.len
 have hL:Ev (fun n=>qeN es path n ([]:List Int) 0) (es.map (fun e=>runT e path),(es.length:Int)):=by
  refine loopF (Lf:=qeN es path) (S:=fun j=>(es.take j).map fun e=>runT e path) (len:=es.length) (fun n=>?_) (fun j hj X hX=>?_)
  ·simp only [qeN,qj (jf _),cond_false,jB]
  ·have ha:appS ((es.take j).map fun e=>runT e path) [runT (gt es j) path]=some ((es.take (j+1)).map fun e=>runT e path):=by
    rw [qbL (by rw [jH,jZ,jk];omega),qfu hj]
   have hd:(path.drop 1).length≤1048576:=by rw [List.length_drop];omega
   simp only [qeN,qi hj,cond_true,qaa hj,je,wS j,qrD h1,show idx path 0=some (at0 path 0) from qaN (j:=0) (by omega)]
   refine Ev.bind (qsH (qhm he hj)) (Ev.bind (qpY (qhm he hj) hd) ?_)
   exact Ev.bindN ha hX
 unfold qf0
 exact Ev.bind hL .done
theorem qm3 {b:qd} {path:List Int} (h:dpathB b path=true):1≤path.length∧path.length≤60:=by
 unfold dpathB lenB at h
 simp only [jg,decide_eq_true_eq] at h
 exact h.1
end Go.Fw
