/- Plain laws: the text of an exception. -/
import Derived.Test.YtmkldekhhkijdaaGreatDoorDR5
import Derived.Test.YtmkldekhhkijdaaGreatDoorP1
import Derived.Lib.IndexBytes
import Derived.Lib.ParseIntBTie
import Derived.Test.YtmkldekhhkijdaaGreatDoorA3
import Derived.Handed
open Option renaming bind_some → je
open Nat renaming le_refl → jf, le_of_ble_eq_true → js, mul_le_mul_right → jt, lt_of_lt_of_le → jw, zero_le → jB, succ_mul → jJ, le_trans → jV, zero_add → jW
open List renaming length_append → jg, length_singleton → ji, mem_cons_of_mem → jk, getElem?_eq_getElem → jm, mem_cons_self → jq, getElem_mem → jr, mem_of_getElem? → ju, length_cons → jv, getD_eq_getElem?_getD → jx, length_map → jy, not_mem_nil → jA, getElem?_append_left → jD, drop_eq_getElem_cons → jE, getElem?_take → jF, eq_nil_of_length_eq_zero → jG, append_assoc → jI, getElem?_toArray → jK, getElem?_append_right → jL, mem_cons → jM, size_toArray → jO, getElem_of_mem → jQ, append_nil → jR, all_eq_true → jS, take_length → jT
open Bool renaming and_eq_true → jh, eq_iff_iff → jp, true_and → jC, not_eq_true' → jH, not_true → jU
open Go.Result renaming andThen_ok → jj
open Go.Sem renaming run_bind → jl, run_pure → jo
open Int renaming toNat_natCast → jz
open Array renaming length_toList → jN, getElem?_append_left → jP

namespace Go.Fw
open Go
set_option maxRecDepth 100000
theorem qoU:∃ F:ByteArray→ByteArray→ByteArray,∀ a b,F a b=a++b:=⟨fun a b=>a++b,fun _ _=>rfl⟩
noncomputable def apB:ByteArray→ByteArray→ByteArray:=Classical.choose qoU
theorem qme (a b:ByteArray):apB a b=a++b:=Classical.choose_spec qoU a b
theorem qbD (a b:ByteArray):(apB a b).size=a.size+b.size:=by rw [qme,ByteArray.size_append]
theorem qj8 (a b c:ByteArray):apB (apB a b) c=apB a (apB b c):=by simp only [qme,ByteArray.append_assoc]
theorem qiQ (a b:ByteArray):(apB a b).data=a.data++b.data:=by rw [qme,ByteArray.data_append]
theorem qpU (a:ByteArray):apB a ⟨#[]⟩=a:=by
 refine ByteArray.ext ?_
 rw [qiQ]
 exact Array.append_empty
theorem catK {a b:ByteArray} (h:a.size+b.size≤1073741824):catB a b=some (apB a b):=by
 unfold catB
 rw [qme]
 exact if_pos (by show ((a.size+b.size:Nat):Int)≤9223372036854775807;omega)
theorem bN {α β:Type} {o:Option α} {a:α} {f:α→Option β} {r:Option β} (h:o=some a) (k:f a=r):o.bind f=r:=by rw [h];exact k
theorem cF {α:Type} {c:Bool} {a b r:α} (h:c=false) (k:b=r):(bif c then a else b)=r:=by rw [h];exact k
theorem cT {α:Type} {c:Bool} {a b r:α} (h:c=true) (k:a=r):(bif c then a else b)=r:=by rw [h];exact k
def decT (n:Int):ByteArray:=⟨(Lib.itoa n).toArray⟩
theorem qhw {n:Int} (h0:0≤n) (h1:n≤1000000000):(decT n).size≤21:=by
 have:=Lib.itoa_length_le n (by omega) (by omega)
 unfold decT
 show (Lib.itoa n).toArray.size≤21
 simpa using this
theorem qjY {u:Nat} (h:u<10):strOf ([(⟨IntKind.wrap .u8 (W64 (48+(u:Int)))⟩:IntK .u8)])=⟨#[UInt8.ofNat (48+u)]⟩:=by
 have:∀ v:Fin 10,strOf ([(⟨IntKind.wrap .u8 (W64 (48+((v.val:Nat):Int)))⟩:IntK .u8)])=⟨#[UInt8.ofNat (48+v.val)]⟩:=by decide
 exact this ⟨u,h⟩
theorem qlK:∀ (d u:Nat),u<10 ^ (d+1)→d≤15→Ev (fun n=>qS n (u:Int)) ⟨(Lib.decDigits u).toArray⟩:=by
 intro d
 induction d with
 | zero =>
  intro u hu _
  refine Ev.succ ?_
  simp only [qS]
  rw [Lib.decDigits,dif_pos (by omega)]
  exact Ev.ff (by simp) (Ev.tt (by simp;omega) (Ev.now (by rw [qjY (by omega)])))
 | succ d ih =>
  intro u hu hd
  have hp:(10:Nat) ^ (d+1+1)=10*10 ^ (d+1):=by rw [Nat.pow_succ,Nat.mul_comm]
  have hb:(10:Nat) ^ (d+1+1)≤10 ^ 17:=Nat.pow_le_pow_right (by decide) (by omega)
  refine Ev.succ ?_
  simp only [qS]
  refine Ev.ff (by simp) ?_
  by_cases h10:u<10
  ·rw [Lib.decDigits,dif_pos h10]
   exact Ev.tt (by simp;omega) (Ev.now (by rw [qjY h10]))
  ·rw [Lib.decDigits,dif_neg h10]
   refine Ev.ff (by simp;omega) ?_
   have hq:W64 ((u:Int).tdiv 10)=((u / 10:Nat):Int):=by
    rw [Int.tdiv_eq_ediv_of_nonneg (by omega),qaE (by omega) (by omega)];omega
   have hr:(u:Int).tmod 10=((u % 10:Nat):Int):=by rw [Int.tmod_eq_emod_of_nonneg (by omega)];omega
   simp only [hq,hr,qjY (show u % 10<10 by omega)]
   refine Ev.bind (ih (u / 10) (by omega) (by omega)) ?_
   have hl:(Lib.decDigits (u / 10)).length≤21:=by
    have:=Lib.itoa_length_le ((u / 10:Nat):Int) (by omega) (by omega)
    rwa [Lib.itoa_nonneg] at this
   have hsz:(⟨(Lib.decDigits (u / 10)).toArray⟩:ByteArray).size≤21:=by
    show (Lib.decDigits (u / 10)).toArray.size≤21
    simpa using hl
   refine Ev.bindN (catK (b:=⟨#[UInt8.ofNat (48+u % 10)]⟩) (by have:(⟨#[UInt8.ofNat (48+u % 10)]⟩:ByteArray).size=1:=rfl;omega)) (Ev.now ?_)
   refine congrArg some (ByteArray.ext ?_)
   rw [qiQ]
   simp
theorem qnW {v:Int} (h0:0≤v) (h1:v≤1000000000):Ev (fun n=>qS n v) (decT v):=by
 obtain ⟨u,rfl⟩:∃ u:Nat,v=(u:Int):=⟨v.toNat,by omega⟩
 unfold decT
 rw [Lib.itoa_nonneg]
 exact qlK 9 u (by omega) (by decide)
theorem qk7 {n:Nat} {v:Int} (h0:0≤v) (h1:v≤1000000000):qep n v=some (decT v):=by
 unfold qep qdI
 rw [if_pos ⟨rfl,by omega,by omega⟩]
 rfl
noncomputable def nmP (b:qc) (p:Tplace):ByteArray :=
 bif decide (p.instance_<0) then (gt b.Aa.Af p.pin.toNat).As else apB (apB (gt b.Aa.Ab p.instance_.toNat).As ⟨#[47]⟩) (gt (cellAt b p.instance_).Aq p.pin.toNat).As
theorem qmD {b:qc} (hok:qaI b) (hds:designB b.Ac b.Aa=true) {j n:Nat} (hj:j<(places b.Aa).length) :
  qbx n b.Aa b.Ac (gt (places b.Aa) j)=some (nmP b (gt (places b.Aa) j))∧qdQ n b.Ac b.Aa (toSp (gt (places b.Aa) j))=some (nmP b (gt (places b.Aa) j))∧(nmP b (gt (places b.Aa) j)).size≤2097153:=by
 rcases qc0 hj with ⟨i,k,hi,hk,_,e⟩|⟨i,hi,_,e⟩
 ·obtain ⟨⟨c0,c1⟩,hn,_⟩:=qfa hds hi
  have hc:(gt b.Aa.Ab i).Ba.toNat<b.Ac.Ai.length:=by omega
  have hk':k<(gt b.Ac.Ai (gt b.Aa.Ab i).Ba.toNat).Aq.length:=by omega
  have s1:(gt b.Aa.Ab i).As.size≤1048576:=(qg6 hok.Aa.Ab hi).As
  have s2:(gt (gt b.Ac.Ai (gt b.Aa.Ab i).Ba.toNat).Aq k).As.size≤1048576:=(qg6 (qg6 hok.Ac.Ai hc).Aq hk').As
  have s3:(⟨#[47]⟩:ByteArray).size=1:=rfl
  have hneg:∀ D:Decidable ((place1 b.Aa i k).instance_<0),@decide ((place1 b.Aa i k).instance_<0) D=false:=fun D=>by
   cases D with
   | isFalse=>rfl
   | isTrue hh=>exact absurd hh (by show ¬ ((i:Int)<0);omega)
  have g1:=catK (show (gt b.Aa.Ab i).As.size+(⟨#[47]⟩:ByteArray).size≤1073741824 by omega)
  have g2:=catK (show (apB (gt b.Aa.Ab i).As ⟨#[47]⟩).size+(gt (gt b.Ac.Ai (gt b.Aa.Ab i).Ba.toNat).Aq k).As.size≤1073741824 by rw [qbD];omega)
  have hi1:idx b.Aa.Ab (place1 b.Aa i k).instance_=some (gt b.Aa.Ab i):=qab hi
  have hk1:idx (gt b.Ac.Ai (gt b.Aa.Ab i).Ba.toNat).Aq (place1 b.Aa i k).pin=some (gt (gt b.Ac.Ai (gt b.Aa.Ab i).Ba.toNat).Aq k):=qab hk'
  have en:nmP b (place1 b.Aa i k)=apB (apB (gt b.Aa.Ab i).As ⟨#[47]⟩) (gt (gt b.Ac.Ai (gt b.Aa.Ab i).Ba.toNat).Aq k).As:=by
   unfold nmP cellAt
   rw [hneg]
   simp only [cond_false,place1,jz]
  rw [e,en]
  refine ⟨?_,?_,?_⟩
  ·unfold qbx
   exact cF (hneg _) (bN hi1 (bN g1 (bN (qeN c0 c1) (bN hk1 (bN g2 rfl)))))
  ·unfold qdQ toSp
   exact cF (hneg _) (bN hi1 (bN g1 (bN (qeN c0 c1) (bN hk1 (bN g2 rfl)))))
  ·rw [qbD,qbD]
   omega
 ·have s1:(gt b.Aa.Af i).As.size≤1048576:=(qg6 hok.Aa.Af hi).As
  have hneg:∀ D:Decidable ((place2 b.Aa i).instance_<0),@decide ((place2 b.Aa i).instance_<0) D=true:=fun D=>by
   cases D with
   | isTrue=>rfl
   | isFalse hh=>exact absurd (show (-1:Int)<0 by decide) hh
  have hi1:idx b.Aa.Af (place2 b.Aa i).pin=some (gt b.Aa.Af i):=qab hi
  have en:nmP b (place2 b.Aa i)=(gt b.Aa.Af i).As:=by
   unfold nmP
   rw [hneg]
   simp only [cond_true,place2,jz]
  rw [e,en]
  refine ⟨?_,?_,by omega⟩
  ·unfold qbx
   exact cT (hneg _) (bN hi1 rfl)
  ·unfold qdQ toSp
   exact cT (hneg _) (bN hi1 rfl)
theorem qjJ {b:qc} (hok:qaI b) (h:blockB b=true) {j n:Nat} (hj:j<(places b.Aa).length) :
  qbx n b.Aa b.Ac (gt (places b.Aa) j)=some (nmP b (gt (places b.Aa) j))∧qdQ n b.Ac b.Aa (toSp (gt (places b.Aa) j))=some (nmP b (gt (places b.Aa) j))∧(nmP b (gt (places b.Aa) j)).size≤2097153:=qmD hok (qae h) hj
theorem qmi {b:qc} (hok:qaI b) (h:blockB b=true) {j:Nat} (hj:j<(places b.Aa).length):Ev (fun n=>qg1 n b.Ac b.Aa (j:Int)) (nmP b (gt (places b.Aa) j)):=by
 unfold qg1
 refine Ev.bind (qit hok h hj) ?_
 exact Ev.bind (b:=nmP b (gt (places b.Aa) j)) (.now (qjJ (n:=0) hok h hj).2.1) .done
noncomputable def wds (b:qc) (word:ByteArray) (xs:List Int):Nat→ByteArray
 | 0=>⟨#[]⟩
 | j+1=>apB (wds b word xs j) (apB word (nmP b (gt (places b.Aa) (at0 xs j).toNat)))
theorem qjK {b:qc} {word:ByteArray} {xs:List Int} (hok:qaI b) (h:blockB b=true) (hw:word.size≤16) (hp:allN (fun j=>inPl b (at0 xs j)) xs.length=true):∀ j,j≤xs.length→(wds b word xs j).size≤j*2097169
 | 0,_=>by have:(⟨#[]⟩:ByteArray).size=0:=rfl;simp only [wds];omega
 | j+1,hj=>by
  have ih:=qjK hok h hw hp j (by omega)
  have hx:=qbv.1 (qai.1 hp j (by omega))
  have:=(qjJ (n:=0) hok h (show (at0 xs j).toNat<(places b.Aa).length by omega)).2.2
  simp only [wds,qbD]
  omega
theorem qk5 {b:qc} {word ww:ByteArray} {xs:List Int} (hok:qaI b) (h:blockB b=true) (hw:ww.size≤16) (he:apB (apB ⟨#[32]⟩ word) ⟨#[32]⟩=ww) (hp:plsB b xs=true):Ev (fun n=>qfo n b word xs) (wds b ww xs xs.length):=by
 unfold plsB at hp
 simp only [jh,decide_eq_true_eq] at hp
 obtain ⟨hl,hp⟩:=hp
 have hs:(⟨#[32]⟩:ByteArray).size=1:=rfl
 have hw':word.size+2≤16:=by rw [←he] at hw;simp only [qbD] at hw;omega
 have e0:wds b ww xs 0=⟨#[]⟩:=rfl
 have hL:Ev (fun n=>qc2 b word xs n (wds b ww xs 0) 0) (wds b ww xs xs.length,(xs.length:Int)):=by
  refine loopF (len:=xs.length) (Lf:=fun n z i=>qc2 b word xs n z i) (fun j=>wds b ww xs j) (fun n=>?_) (fun j hj X hX=>?_)
  ·simp only [qc2,qp (jf _),cond_false]
  ·have hz:=qjK hok h hw hp j (by omega)
   have hx:=qbv.1 (qai.1 hp j hj)
   have hjp:(at0 xs j).toNat<(places b.Aa).length:=by omega
   have hn:=(qjJ (n:=0) hok h hjp).2.2
   have hq:=qmi hok h hjp
   rw [←qh3 hx.1] at hq
   simp only [qc2]
   refine Ev.tt (qn hj) ?_
   refine Ev.bindN (catK (by omega)) (Ev.bindN (catK (by simp only [qbD];omega)) (Ev.bindN (catK (by simp only [qbD];omega)) (Ev.bindN (qbJ hj) (Ev.bind hq (Ev.bindN (catK (by simp only [qbD];omega)) ?_)))))
   rw [wS j]
   have e2:apB (apB (apB (apB (wds b ww xs j) ⟨#[32]⟩) word) ⟨#[32]⟩) (nmP b (gt (places b.Aa) (at0 xs j).toNat))=wds b ww xs (j+1):=by
    simp only [wds,←he,qj8]
   rw [e2]
   exact hX
 unfold qfo
 rw [e0] at hL
 exact Ev.bind hL .done
theorem qkj {b:qc} {V:Tview} {ww z:ByteArray} {i:Int} {xs:List Int} (hok:qaI b) (h:blockB b=true) (hV:V.Bd=b) (hP:V.places=places b.Aa) (hw:ww.size≤16) (hz:z.size≤100000000)
  (hi:idx ([(⟨#[32,102,114,111,109,32]⟩:ByteArray),(⟨#[32,116,104,114,111,117,103,104,32]⟩:ByteArray),(⟨#[32,116,111,32]⟩:ByteArray)]:List ByteArray) i=some ww) (hp:plsB b xs=true) :
  Ev (fun n=>qap (some V) i xs n z 0) (apB z (wds b ww xs xs.length),(xs.length:Int)):=by
 unfold plsB at hp
 simp only [jh,decide_eq_true_eq] at hp
 obtain ⟨hl,hp⟩:=hp
 have e0:apB z (wds b ww xs 0)=z:=qpU z
 have hL:Ev (fun n=>qap (some V) i xs n (apB z (wds b ww xs 0)) 0) (apB z (wds b ww xs xs.length),(xs.length:Int)):=by
  refine loopF (len:=xs.length) (Lf:=fun n z i1=>qap (some V) i xs n z i1) (fun j=>apB z (wds b ww xs j)) (fun n=>?_) (fun j hj X hX=>?_)
  ·simp only [qap,qp (jf _),cond_false]
  ·have hz:=qjK hok h hw hp j (by omega)
   have hx:=qbv.1 (qai.1 hp j hj)
   have hjp:(at0 xs j).toNat<(places b.Aa).length:=by omega
   have hn:=qjJ (n:=0) hok h hjp
   have hq:idx V.places (at0 xs j)=some (gt (places b.Aa) (at0 xs j).toNat):=by
    have hh:=qab hjp
    rw [←qh3 hx.1] at hh
    rw [hP,hh]
   subst hV
   simp only [qap,qn hj,cond_true,je]
   refine Ev.bindN (qbJ hj) (Ev.bindN hi (Ev.bindN hq (Ev.bind (.now hn.1) (Ev.bindN (catK (by omega)) (Ev.bindN (catK (by simp only [qbD];omega)) ?_)))))
   rw [wS j]
   have e2:apB (apB z (wds V.Bd ww xs j)) (apB ww (nmP V.Bd (gt (places V.Bd.Aa) (at0 xs j).toNat)))=apB z (wds V.Bd ww xs (j+1)):=by
    simp only [wds,qj8]
   rw [e2]
   exact hX
 rwa [e0] at hL
def wFrom:ByteArray:=⟨#[32,102,114,111,109,32]⟩
def wThr:ByteArray:=⟨#[32,116,104,114,111,117,103,104,32]⟩
def wTo:ByteArray:=⟨#[32,116,111,32]⟩
def kwE (k:Int):ByteArray:=gt exWords k.toNat
noncomputable def headE (e:qa):ByteArray:=bif e.Am != 1 then apB (kwE e.Am) (apB ⟨#[32]⟩ (decT e.Az)) else kwE e.Am
noncomputable def txtE (b:qc) (e:qa):ByteArray:=apB (apB (apB (headE e) (wds b wFrom e.Au e.Au.length)) (wds b wThr e.Ap e.Ap.length)) (wds b wTo e.To e.To.length)
theorem eWord {w ww:ByteArray} (h:#[(32:UInt8)]++w.data++#[(32:UInt8)]=ww.data):apB (apB ⟨#[32]⟩ w) ⟨#[32]⟩=ww:=by
 refine ByteArray.ext ?_
 rw [qiQ,qiQ]
 exact h
theorem ewFrom:apB (apB ⟨#[32]⟩ ⟨#[102,114,111,109]⟩) ⟨#[32]⟩=wFrom:=eWord (by decide)
theorem ewThr:apB (apB ⟨#[32]⟩ ⟨#[116,104,114,111,117,103,104]⟩) ⟨#[32]⟩=wThr:=eWord (by decide)
theorem ewTo:apB (apB ⟨#[32]⟩ ⟨#[116,111]⟩) ⟨#[32]⟩=wTo:=eWord (by decide)
theorem qc1 {k v:Int} (h:valB k v=true):(1≤k∧k≤4)∧0≤v∧v≤1000000000:=by
 unfold valB at h
 by_cases h1:k=1
 ·subst h1;simp at h;omega
 ·by_cases h2:k=2
  ·subst h2;simp [inI] at h;omega
  ·by_cases h3:k=3
   ·subst h3;simp [inI] at h;omega
   ·by_cases h4:k=4
    ·subst h4;simp [inI] at h;omega
    ·simp [h1,h2,h3,h4] at h
theorem qjE {k:Int} (h:1≤k∧k≤4):(kwE k).size≤6:=by
 obtain ⟨h1,h2⟩:=h
 obtain rfl|rfl|rfl|rfl:k=1∨k=2∨k=3∨k=4:=by omega
 all_goals decide
theorem qk3 {e:qa} (h:valB e.Am e.Az=true):(headE e).size≤28:=by
 obtain ⟨hk,h0,h1⟩:=qc1 h
 have a1:=qjE hk
 have a2:=qhw h0 h1
 have a3:(⟨#[32]⟩:ByteArray).size=1:=rfl
 unfold headE
 cases (e.Am != 1)
 ·simp only [cond_false];omega
 ·simp only [cond_true,qbD];omega
theorem qjF {b:qc} {ww:ByteArray} {xs:List Int} (hok:qaI b) (h:blockB b=true) (hw:ww.size≤16) (hp:plsB b xs=true):(wds b ww xs xs.length).size≤8388676:=by
 unfold plsB at hp
 simp only [jh,decide_eq_true_eq] at hp
 have:=qjK hok h hw hp.2 xs.length (jf _)
 have:xs.length*2097169≤4*2097169:=jt _ hp.1
 omega
theorem qeU {b:qc} {e:qa} (h:excB b e=true):plsB b e.Au=true∧plsB b e.Ap=true∧plsB b e.To=true∧valB e.Am e.Az=true:=by
 unfold excB at h
 simp only [jh] at h
 exact ⟨h.1.1,h.1.2.1,h.1.2.2,h.2.1⟩
theorem qf4 {b:qc} {V:Tview} {e:qa} (hok:qaI b) (h:blockB b=true) (hV:V.Bd=b) (hP:V.places=places b.Aa) (he:excB b e=true):Ev (fun n=>qaS n (some V) e) (txtE b e):=by
 obtain ⟨p1,p2,p3,hv⟩:=qeU he
 obtain ⟨hk,h0,h1⟩:=qc1 hv
 have hs:=qk3 hv
 have s1:=qjF (ww:=wFrom) hok h (by decide) p1
 have s2:=qjF (ww:=wThr) hok h (by decide) p2
 have hL:Ev (fun n=>qar (some V) e n (headE e) 0) (txtE b e,3):=by
  refine Ev.succ ?_
  simp only [qar]
  refine Ev.tt rfl (Ev.bindN (b:=e.Au) rfl (Ev.bind (qkj (ww:=wFrom) hok h hV hP (by decide) (by omega) rfl p1) (Ev.succ ?_)))
  simp only [qar]
  refine Ev.tt rfl (Ev.bindN (b:=e.Ap) rfl (Ev.bind (qkj (ww:=wThr) hok h hV hP (by decide) (by rw [qbD];omega) rfl p2) (Ev.succ ?_)))
  simp only [qar]
  refine Ev.tt rfl (Ev.bindN (b:=e.To) rfl (Ev.bind (qkj (ww:=wTo) hok h hV hP (by decide) (by rw [qbD,qbD];omega) rfl p3) (Ev.succ ?_)))
  simp only [qar]
  exact Ev.ff rfl .done
 unfold qaS
 have hkw:idx exWords e.Am=some (kwE e.Am):=by
  have hh:=qab (xs:=exWords) (j:=e.Am.toNat) (by show e.Am.toNat<5;omega)
  rw [←qh3 (show 0≤e.Am by omega)] at hh
  exact hh
 refine Ev.bindN hkw ?_
 refine Ev.bind (b:=headE e) ?_ (Ev.bind hL .done)
 have a1:=qjE hk
 have a2:=qhw h0 h1
 have a3:(⟨#[32]⟩:ByteArray).size=1:=rfl
 unfold headE
 cases (e.Am != 1)
 ·exact .done
 ·exact Ev.tt rfl (Ev.bind (.now (qk7 (n:=0) h0 h1)) (Ev.bindN (catK (by omega)) (Ev.bindN (catK (by rw [qbD];omega)) .done)))
theorem qk2 {b:qc} {e:qa} (hok:qaI b) (he:qan e):Ev (fun n=>qcn n b e) (bif blockB b&&excB b e then txtE b e else ByteArray.empty):=by
 unfold qcn
 refine Ev.bind (qih hok he) ?_
 cases hb:(blockB b&&excB b e)
 ·exact .done
 ·simp only [jh] at hb
  obtain ⟨h,hx⟩:=hb
  obtain ⟨p1,p2,p3,hv⟩:=qeU hx
  obtain ⟨hk,h0,h1⟩:=qc1 hv
  have hs:=qk3 hv
  have s1:=qjF (ww:=wFrom) hok h (by decide) p1
  have s2:=qjF (ww:=wThr) hok h (by decide) p2
  have s3:=qjF (ww:=wTo) hok h (by decide) p3
  refine Ev.ff rfl ?_
  have hkw:idx ([(⟨#[102,97,108,115,101]⟩:ByteArray),(⟨#[99,121,99,108,101,115]⟩:ByteArray),(⟨#[109,97,120]⟩:ByteArray),(⟨#[109,105,110]⟩:ByteArray)]:List ByteArray) (W64 (e.Am-1))=some (kwE e.Am):=by
   obtain hq|hq|hq|hq:e.Am=1∨e.Am=2∨e.Am=3∨e.Am=4:=by omega
   all_goals rw [hq];rfl
  refine Ev.bindN hkw ?_
  have a1:=qjE hk
  have a2:=qhw h0 h1
  have a3:(⟨#[32]⟩:ByteArray).size=1:=rfl
  refine Ev.bind (b:=headE e) ?_ ?_
  ·unfold headE
   cases (e.Am != 1)
   ·exact .done
   ·refine Ev.tt rfl ?_
    refine Ev.bindN (catK (by omega)) (Ev.bind (qnW h0 h1) (Ev.bindN (catK (by rw [qbD];omega)) (Ev.now ?_)))
    rw [qj8,cond_true]
  ·refine Ev.bind (qk5 (ww:=wFrom) hok h (by decide) ewFrom p1) (Ev.bindN (catK (by omega)) (Ev.bind (qk5 (ww:=wThr) hok h (by decide) ewThr p2) (Ev.bindN (catK (by rw [qbD];omega)) (Ev.bind (qk5 (ww:=wTo) hok h (by decide) ewTo p3) (Ev.bindN (catK (by rw [qbD,qbD];omega)) ?_)))))
   exact .done
theorem qoS {b:qc} {e:qa} (hok:qaI b) (he:qan e):Ev (fun n=>qej n b e) (bif blockB b&&excB b e then txtE b e else ByteArray.empty):=by
 unfold qej
 refine Ev.bind (qh8 hok) ?_
 cases h:blockB b
 ·exact .done
 ·simp only [jU,cond_false,jC]
  obtain ⟨ls,lo,de,ev⟩:=qjw h
  refine Ev.bind ev (Ev.bind (qg5 h rfl he) ?_)
  cases hx:excB b e
  ·exact .done
  ·simp only [jU,cond_false,cond_true]
   exact Ev.bind (qf4 hok h rfl rfl hx) .done
end Go.Fw


namespace Go.Fw
open Go
set_option maxRecDepth 100000
noncomputable def namedB (b:qc) (name:ByteArray):Int:=ixL (fun p=>(nmP b p).toList==name.toList) (places b.Aa)
theorem qmz {α:Type} {xs:List α} {j:Nat} {x:α} (h:xs[j]?=some x):j<xs.length∧idx xs (j:Int)=some x:=by
 obtain ⟨hj,e⟩:=List.getElem?_eq_some_iff.1 h
 exact ⟨hj,by rw [qaq hj,e]⟩
theorem qoF {b:qc} (hok:qaI b) (h:blockB b=true) {name:ByteArray}:Ev (fun n=>qa1 n b.Aa b.Ac name) (namedB b name):=by
 have hpl:=qaz (qI (qae h))
 unfold qa1
 refine Ev.bind (qhJ (qI (qae h))) (Ev.bind ?_ .done)
 refine qd5 (xs:=places b.Aa) (pf:=fun n x=>qcw n x b.Aa b.Ac name) (Lf:=qD (places b.Aa) b.Aa b.Ac name) (fin:=((places b.Aa).length:Int)) ?_ ?_ ?_ (fun n=>by
  unfold qav
  refine congrArg (Option.bind _) (funext fun o=>?_)
  cases o<;>rfl)
 ·intro x hx
  obtain ⟨j,hj,rfl⟩:=List.mem_iff_getElem.1 hx
  unfold qcw
  rw [←qgE hj]
  exact Ev.bind (.now (qjJ (n:=0) hok h hj).1) .done
 ·intro n
  simp only [qD,qp (jf _),cond_false]
 ·intro n j x hx
  obtain ⟨hj,hi⟩:=qmz hx
  simp only [qD,qn hj,cond_true,hi,je,wS j]
theorem qlN {b:qc} (hok:qaI b) (h:designB b.Ac b.Aa=true) {name:ByteArray}:Ev (fun n=>qcf n b.Ac b.Aa name) (namedB b name):=by
 have hpl:=qaz (qI h)
 have hlm:((places b.Aa).map toSp).length=(places b.Aa).length:=jy _
 unfold qcf
 refine Ev.bind (b:=true) ?_ (Ev.ff rfl (Ev.bind (qeR (qI h)) ?_))
 ·have:=qgP hok.Ac hok.Aa
  rw [h] at this
  exact this
 refine qd5 (xs:=places b.Aa) (p:=fun p=>(nmP b p).toList==name.toList) (pf:=fun n x=>(qdQ n b.Ac b.Aa (toSp x)).bind fun r3=>some (r3.toList==name.toList)) (Lf:=qdk b.Ac b.Aa name ((places b.Aa).map toSp)) (fin:=((places b.Aa).length:Int)) ?_ ?_ ?_ (fun n=>by
  refine congrArg (Option.bind _) (funext fun o=>?_)
  cases o<;>rfl)
 ·intro x hx
  obtain ⟨j,hj,rfl⟩:=List.mem_iff_getElem.1 hx
  rw [←qgE hj]
  exact Ev.bind (.now (qmD (n:=0) hok h hj).2.1) .done
 ·intro n
  simp only [qdk,hlm,qp (jf _),cond_false]
 ·intro n j x hx
  obtain ⟨hj,hi⟩:=qmz hx
  have hi':idx ((places b.Aa).map toSp) (j:Int)=some (toSp x):=(qmz (by rw [List.getElem?_map,hx];rfl)).2
  simp only [qdk,hlm,qn hj,cond_true,hi',je,wS j]
  cases qdQ n b.Ac b.Aa (toSp x)<;>rfl
theorem qoe {b:qc} (hok:qaI b) (h:designB b.Ac b.Aa=false) {name:ByteArray}:Ev (fun n=>qcf n b.Ac b.Aa name) (-1):=by
 unfold qcf
 have:=qgP hok.Ac hok.Aa
 rw [h] at this
 exact Ev.bind this (Ev.tt rfl .done)
structure Lst where
 f:List Int
 t:List Int
 o:List Int
def wF:ByteArray:=⟨#[102,114,111,109]⟩
def wT:ByteArray:=⟨#[116,104,114,111,117,103,104]⟩
def wO':ByteArray:=⟨#[116,111]⟩
def stepL (g:ByteArray→Int) (a:Lst) (w v:ByteArray):Lst :=
 bif w.toList==wF.toList then ⟨a.f++[g v],a.t,a.o⟩ else bif w.toList==wT.toList then ⟨a.f,a.t++[g v],a.o⟩ else bif w.toList==wO'.toList then ⟨a.f,a.t,a.o++[g v]⟩ else a
def lsts (g:ByteArray→Int):List ByteArray→Lst→Lst
 | w::v::r,a=>lsts g r (stepL g a w v)
 | _,a=>a
theorem qm1 {b:qc} {g:ByteArray→Int} (hg:∀ name,Ev (fun n=>qcf n b.Ac b.Aa name) (g name)) {ws:List ByteArray} (hw:ws.length≤2000000):∀ (d k:Nat) (a:Lst),k+d=ws.length→a.f.length+a.t.length+a.o.length≤k →
  ∃ e,Ev (fun n=>qM b ws n a.o a.t a.f (k:Int)) ((lsts g (ws.drop k) a).o,(lsts g (ws.drop k) a).t,(lsts g (ws.drop k) a).f,e):=by
 intro d
 induction d using Nat.strongRecOn with
 | ind d ih =>
  intro k a hk ha
  have e1:W64 ((k:Int)+1)=((k+1:Nat):Int):=qfk (by omega)
  have e2:W64 ((k:Int)+2)=((k+2:Nat):Int):=by rw [qaE (by omega) (by omega)];omega
  by_cases h2:k+1<ws.length
  ·have hk0:k<ws.length:=by omega
   have ed:ws.drop k=ws[k]::ws[k+1]::ws.drop (k+2):=by rw [jE hk0,jE h2]
   have hn:=hg ws[k+1]
   have key:∀ a',stepL g a ws[k] ws[k+1]=a'→a'.f.length+a'.t.length+a'.o.length≤k+2→∃ e,Ev (fun n=>qM b ws n a'.o a'.t a'.f ((k+2:Nat):Int)) ((lsts g (ws.drop k) a).o,(lsts g (ws.drop k) a).t,(lsts g (ws.drop k) a).f,e):=fun a' e hl=>by
    have:=ih (d-2) (by omega) (k+2) a' (by omega) hl
    rw [ed]
    simp only [lsts,e]
    exact this
   have ap:∀ l:List Int,l.length≤k→appS l [g ws[k+1]]=some (l++[g ws[k+1]]):=fun l hl=>qbN (by rw [ji];omega)
   have st:∀ {e r},Ev (fun n=>(qcf n b.Ac b.Aa ws[k+1]).bind fun r2=>(idx ws (k:Int)).bind fun y3 =>
     bif (y3.toList==wF.toList) then (appS a.f ([r2]:List Int)).bind fun x4=>qM b ws n a.o a.t x4 ((k+2:Nat):Int)
     else bif (y3.toList==wT.toList) then (appS a.t ([r2]:List Int)).bind fun x5=>qM b ws n a.o x5 a.f ((k+2:Nat):Int)
     else bif (y3.toList==wO'.toList) then (appS a.o ([r2]:List Int)).bind fun x6=>qM b ws n x6 a.t a.f ((k+2:Nat):Int)
     else qM b ws n a.o a.t a.f ((k+2:Nat):Int)) (r,e)→Ev (fun n=>qM b ws n a.o a.t a.f (k:Int)) (r,e):=fun hh=>by
    refine Ev.succ ?_
    simp only [qM,e1,e2]
    exact Ev.tt (qn h2) (Ev.bindN (qaq h2) hh)
   cases c1:ws[k].toList==wF.toList
   ·cases c2:ws[k].toList==wT.toList
    ·cases c3:ws[k].toList==wO'.toList
     ·obtain ⟨e,he⟩:=key a (by unfold stepL;rw [c1,c2,c3];rfl) (by omega)
      exact ⟨e,st (Ev.bind hn (Ev.bindN (qaq hk0) (Ev.ff c1 (Ev.ff c2 (Ev.ff c3 he)))))⟩
     ·obtain ⟨e,he⟩:=key ⟨a.f,a.t,a.o++[g ws[k+1]]⟩ (by unfold stepL;rw [c1,c2,c3];rfl) (by simp only [jg,ji];omega)
      exact ⟨e,st (Ev.bind hn (Ev.bindN (qaq hk0) (Ev.ff c1 (Ev.ff c2 (Ev.tt c3 (Ev.bindN (ap _ (by omega)) he))))))⟩
    ·obtain ⟨e,he⟩:=key ⟨a.f,a.t++[g ws[k+1]],a.o⟩ (by unfold stepL;rw [c1,c2];rfl) (by simp only [jg,ji];omega)
     exact ⟨e,st (Ev.bind hn (Ev.bindN (qaq hk0) (Ev.ff c1 (Ev.tt c2 (Ev.bindN (ap _ (by omega)) he)))))⟩
   ·obtain ⟨e,he⟩:=key ⟨a.f++[g ws[k+1]],a.t,a.o⟩ (by unfold stepL;rw [c1];rfl) (by simp only [jg,ji];omega)
    exact ⟨e,st (Ev.bind hn (Ev.bindN (qaq hk0) (Ev.tt c1 (Ev.bindN (ap _ (by omega)) he))))⟩
  ·refine ⟨(k:Int),Ev.succ ?_⟩
   have el:lsts g (ws.drop k) a=a:=by
    have hl:(ws.drop k).length=ws.length-k:=List.length_drop
    match hd:ws.drop k with
    | []=>rfl
    | [_]=>rfl
    | _::_::_=>rw [hd] at hl;simp at hl;omega
   rw [el]
   simp only [qM,e1]
   exact Ev.ff (qp (by omega)) .done
theorem qpt {b:qc} {g:ByteArray→Int} (hg:∀ name,Ev (fun n=>qa1 n b.Aa b.Ac name) (g name)) {V:Tview} (hV:V.Bd=b) {ws:List ByteArray} (hw:ws.length≤2000000):∀ (d k:Nat) (a:Lst),k+d=ws.length→a.f.length+a.t.length+a.o.length≤k →
  ∃ e,Ev (fun n=>qA (some V) ws n a.o a.t a.f (k:Int)) ((lsts g (ws.drop k) a).o,(lsts g (ws.drop k) a).t,(lsts g (ws.drop k) a).f,e):=by
 intro d
 induction d using Nat.strongRecOn with
 | ind d ih =>
  intro k a hk ha
  have e1:W64 ((k:Int)+1)=((k+1:Nat):Int):=qfk (by omega)
  have e2:W64 ((k:Int)+2)=((k+2:Nat):Int):=by rw [qaE (by omega) (by omega)];omega
  by_cases h2:k+1<ws.length
  ·have hk0:k<ws.length:=by omega
   have ed:ws.drop k=ws[k]::ws[k+1]::ws.drop (k+2):=by rw [jE hk0,jE h2]
   have hn:=hg ws[k+1]
   have key:∀ a',stepL g a ws[k] ws[k+1]=a'→a'.f.length+a'.t.length+a'.o.length≤k+2→∃ e,Ev (fun n=>qA (some V) ws n a'.o a'.t a'.f ((k+2:Nat):Int)) ((lsts g (ws.drop k) a).o,(lsts g (ws.drop k) a).t,(lsts g (ws.drop k) a).f,e):=fun a' e hl=>by
    have:=ih (d-2) (by omega) (k+2) a' (by omega) hl
    rw [ed]
    simp only [lsts,e]
    exact this
   have ap:∀ l:List Int,l.length≤k→appS l [g ws[k+1]]=some (l++[g ws[k+1]]):=fun l hl=>qbN (by rw [ji];omega)
   have st:∀ {e r},Ev (fun n=>(qa1 n b.Aa b.Ac ws[k+1]).bind fun r2=>(idx ws (k:Int)).bind fun y3 =>
     bif (y3.toList==wF.toList) then (appS a.f ([r2]:List Int)).bind fun x4=>qA (some V) ws n a.o a.t x4 ((k+2:Nat):Int)
     else bif (y3.toList==wT.toList) then (appS a.t ([r2]:List Int)).bind fun x5=>qA (some V) ws n a.o x5 a.f ((k+2:Nat):Int)
     else bif (y3.toList==wO'.toList) then (appS a.o ([r2]:List Int)).bind fun x6=>qA (some V) ws n x6 a.t a.f ((k+2:Nat):Int)
     else qA (some V) ws n a.o a.t a.f ((k+2:Nat):Int)) (r,e)→Ev (fun n=>qA (some V) ws n a.o a.t a.f (k:Int)) (r,e):=fun hh=>by
    refine Ev.succ ?_
    subst hV
    simp only [qA,e1,e2,je]
    exact Ev.tt (qn h2) (Ev.bindN (qaq h2) hh)
   cases c1:ws[k].toList==wF.toList
   ·cases c2:ws[k].toList==wT.toList
    ·cases c3:ws[k].toList==wO'.toList
     ·obtain ⟨e,he⟩:=key a (by unfold stepL;rw [c1,c2,c3];rfl) (by omega)
      exact ⟨e,st (Ev.bind hn (Ev.bindN (qaq hk0) (Ev.ff c1 (Ev.ff c2 (Ev.ff c3 he)))))⟩
     ·obtain ⟨e,he⟩:=key ⟨a.f,a.t,a.o++[g ws[k+1]]⟩ (by unfold stepL;rw [c1,c2,c3];rfl) (by simp only [jg,ji];omega)
      exact ⟨e,st (Ev.bind hn (Ev.bindN (qaq hk0) (Ev.ff c1 (Ev.ff c2 (Ev.tt c3 (Ev.bindN (ap _ (by omega)) he))))))⟩
    ·obtain ⟨e,he⟩:=key ⟨a.f,a.t++[g ws[k+1]],a.o⟩ (by unfold stepL;rw [c1,c2];rfl) (by simp only [jg,ji];omega)
     exact ⟨e,st (Ev.bind hn (Ev.bindN (qaq hk0) (Ev.ff c1 (Ev.tt c2 (Ev.bindN (ap _ (by omega)) he)))))⟩
   ·obtain ⟨e,he⟩:=key ⟨a.f++[g ws[k+1]],a.t,a.o⟩ (by unfold stepL;rw [c1];rfl) (by simp only [jg,ji];omega)
    exact ⟨e,st (Ev.bind hn (Ev.bindN (qaq hk0) (Ev.tt c1 (Ev.bindN (ap _ (by omega)) he))))⟩
  ·refine ⟨(k:Int),Ev.succ ?_⟩
   have el:lsts g (ws.drop k) a=a:=by
    have hl:(ws.drop k).length=ws.length-k:=List.length_drop
    match hd:ws.drop k with
    | []=>rfl
    | [_]=>rfl
    | _::_::_=>rw [hd] at hl;simp at hl;omega
   rw [el]
   simp only [qA,e1]
   exact Ev.ff (qp (by omega)) .done
end Go.Fw


namespace Go.Fw
open Go
set_option maxRecDepth 100000
def consH {α:Type} (b:α):List (List α)→List (List α)
 | []=>[[b]]
 | h::t=>(b::h)::t
def appH {α:Type} (cur:List α):List (List α)→List (List α)
 | []=>[cur]
 | h::t=>(cur++h)::t
def sp1 (c:UInt8):List UInt8→List (List UInt8)
 | []=>[[]]
 | b::l=>if b=c then []::sp1 c l else consH b (sp1 c l)
theorem qkY {c:UInt8}:∀ l,sp1 c l ≠ []
 | []=>by simp [sp1]
 | b::l=>by
  simp only [sp1]
  split
  ·simp
  ·cases sp1 c l<;>simp [consH]
theorem qmK {α:Type} {S:List (List α)} (h:S ≠ []):appH [] S=S:=by
 cases S with
 | nil=>exact absurd rfl h
 | cons a t=>rfl
theorem qob {α:Type} {S:List (List α)} {cur:List α} {b:α} (h:S ≠ []):appH cur (consH b S)=appH (cur++[b]) S:=by
 cases S with
 | nil=>exact absurd rfl h
 | cons a t=>simp [appH,consH]
theorem qlZ (c:UInt8):∀ l:List UInt8,Lib.splitK [c] 0 (l.count c) l=sp1 c l
 | []=>rfl
 | b::l=>by
  have ih:=qlZ c l
  by_cases h:b=c
  ·subst h
   rw [List.count_cons_self]
   have hix:Lib.index (b::l) [b]=0:=by simp [Lib.index,List.isPrefixOf]
   simp only [sp1,if_true]
   unfold Lib.splitK
   rw [hix]
   simp [ih]
  ·rw [List.count_cons_of_ne h]
   simp only [sp1,if_neg h]
   cases hk:l.count c with
   | zero =>
    rw [hk] at ih
    rw [←ih]
    rfl
   | succ k =>
    rw [hk] at ih
    have hp:([c]:List UInt8).isPrefixOf (b::l)=false:=by simp [List.isPrefixOf,Ne.symm h]
    have hm:Lib.index l [c] ≠ -1:=fun e=>by
     have:=Lib.count_miss e
     rw [Lib.count_one] at this
     omega
    have hge:=Lib.index_ge l [c]
    obtain ⟨j,hj⟩:∃ j:Nat,Lib.index l [c]=j:=⟨(Lib.index l [c]).toNat,by omega⟩
    have hix:Lib.index (b::l) [c]=((j+1:Nat):Int):=by
     rw [Lib.index,hp]
     simp only [Bool.false_eq_true,if_false]
     rw [if_neg (fun e=>hm (beq_iff_eq.1 e)),hj]
     omega
    rw [←ih]
    unfold Lib.splitK
    rw [hix,hj]
    rw [if_neg (by simp;omega),if_neg (by simp)]
    simp [consH]
def mkB (l:List UInt8):ByteArray:=⟨l.toArray⟩
theorem qm8 {s:ByteArray}:mkB s.data.toList=s:=rfl
theorem qpp {n:Nat} {s:ByteArray} (hs:s.size≤1048576):qfj n s (⟨#[32]⟩:ByteArray)=some ((sp1 32 s.data.toList).map mkB):=by
 unfold qfj
 rw [if_pos ⟨by omega,by decide⟩]
 refine congrArg some ?_
 have hd:=Lib.splitB_data (⟨#[32]⟩:ByteArray) 0 (Lib.countB s ⟨#[32]⟩) s
 have hc:Lib.countB s ⟨#[32]⟩=s.data.toList.count 32:=Lib.count_one 32 s.data.toList
 have e1:(⟨#[32]⟩:ByteArray).data.toList=[32]:=rfl
 rw [e1,hc] at hd
 rw [qlZ] at hd
 rw [hc,←hd,List.map_map]
 have:mkB ∘ (fun x:ByteArray=>x.data.toList)=id:=funext fun x=>rfl
 rw [this,List.map_id]
theorem qlJ {s:ByteArray} (hs:s.size≤1048576):Ev (fun n=>qhs n s (⟨32⟩:IntK .u8)) ((sp1 32 s.data.toList).map mkB):=by
 obtain ⟨L,hL⟩:∃ L,L=s.data.toList:=⟨_,rfl⟩
 have hsz:L.length=s.size:=by rw [hL];exact jN
 have sub:∀ a b:Nat,a≤b→b≤s.size→subB s (a:Int) (b:Int)=some (mkB ((L.take b).drop a)):=fun a b h1 h2=>by
  unfold subB
  rw [if_pos ⟨by omega,by omega,by omega⟩,jz,jz]
  refine congrArg some (ByteArray.ext (Array.toList_inj.1 ?_))
  rw [hL]
  simp [mkB,ByteArray.data_extract,List.drop_take]
 have main:∀ d i2 i1 x,i2+d=s.size→i1≤i2→x.length≤i2→∃ e,Ev (fun n=>qbH s (⟨32⟩:IntK .u8) n x (i1:Int) (i2:Int)) (x++(appH ((L.take i2).drop i1) (sp1 32 (L.drop i2))).map mkB,e):=by
  intro d
  induction d with
  | zero =>
   intro i2 i1 x hd h1 hx
   obtain rfl:i2=s.size:=by omega
   have ed:L.drop s.size=[]:=by rw [←hsz];exact List.drop_length
   rw [ed]
   refine ⟨(((s.size+1:Nat):Int),((s.size+1:Nat):Int)),Ev.succ ?_⟩
   simp only [qbH]
   refine Ev.tt (decide_eq_true (by omega)) (Ev.bind (b:=true) (Ev.tt (by simp) .done) (Ev.tt rfl (Ev.bindN (sub i1 s.size h1 (jf _)) (Ev.bindN (qbN (by rw [ji];omega)) (Ev.succ ?_)))))
   rw [qfk (show s.size<9223372036854775807 by omega)]
   simp only [qbH]
   refine Ev.ff (decide_eq_false (by omega)) ?_
   simp [sp1,appH]
   exact .done
  | succ d ih =>
   intro i2 i1 x hd h1 hx
   have hlt:i2<s.size:=by omega
   have hlL:i2<L.length:=by omega
   have ed:L.drop i2=L[i2]::L.drop (i2+1):=jE hlL
   have et:L.take (i2+1)=L.take i2++[L[i2]]:=List.take_succ_eq_append_getElem hlL
   have ea:atS s (i2:Int)=some (L[i2].toNat:Int):=by
    rw [qlf hlt]
    unfold bt
    rw [←hL,jx,jm hlL]
    rfl
   by_cases hb:L[i2]=32
   ·obtain ⟨e,he⟩:=ih (i2+1) (i2+1) (x++[mkB ((L.take i2).drop i1)]) (by omega) (jf _) (by rw [jg,ji];omega)
    refine ⟨e,Ev.succ ?_⟩
    simp only [qbH]
    refine Ev.tt (decide_eq_true (by omega)) (Ev.bind (b:=true) (Ev.ff (by simp;omega) (Ev.bindN ea (Ev.now (by rw [hb];rfl)))) (Ev.tt rfl (Ev.bindN (sub i1 i2 h1 (by omega)) (Ev.bindN (qbN (by rw [ji];omega)) ?_))))
    rw [wS i2]
    have er:(x++[mkB ((L.take i2).drop i1)])++(appH ((L.take (i2+1)).drop (i2+1)) (sp1 32 (L.drop (i2+1)))).map mkB=x++(appH ((L.take i2).drop i1) (sp1 32 (L.drop i2))).map mkB:=by
     have e0:(L.take (i2+1)).drop (i2+1)=[]:=List.drop_of_length_le (by rw [List.length_take];omega)
     rw [e0,qmK (qkY _),ed,hb]
     simp [sp1,appH]
    rw [←er]
    exact he
   ·obtain ⟨e,he⟩:=ih (i2+1) i1 x (by omega) (by omega) (by omega)
    refine ⟨e,Ev.succ ?_⟩
    simp only [qbH]
    refine Ev.tt (decide_eq_true (by omega)) (Ev.bind (b:=false) (Ev.ff (by simp;omega) (Ev.bindN ea (Ev.now ?_))) (Ev.ff rfl ?_))
    ·have:¬ (L[i2].toNat=32):=fun e=>hb (by apply UInt8.toNat_inj.1;exact e)
     simp
     omega
    rw [wS i2]
    have er:appH ((L.take (i2+1)).drop i1) (sp1 32 (L.drop (i2+1)))=appH ((L.take i2).drop i1) (sp1 32 (L.drop i2)):=by
     rw [ed,et,List.drop_append_of_le_length (by rw [List.length_take];omega)]
     simp only [sp1,if_neg hb]
     rw [qob (qkY _)]
    rw [←er]
    exact he
 obtain ⟨e,he⟩:=main s.size 0 0 [] (by omega) (jf _) (jf _)
 have e0:([]:List ByteArray)++(appH ((L.take 0).drop 0) (sp1 32 (L.drop 0))).map mkB=(sp1 32 L).map mkB:=by
  rw [List.take_zero,List.drop_zero,List.drop_zero,qmK (qkY _),List.nil_append]
 rw [e0] at he
 unfold qhs
 rw [←hL]
 exact Ev.bind he .done
end Go.Fw


namespace Go.Fw
open Go
set_option maxRecDepth 100000
def valD (acc:Nat) (l:List UInt8):Nat:=l.foldl (fun a c=>a*10+(c.toNat-48)) acc
def digC (c:UInt8):Prop:=48≤c.toNat∧c.toNat≤57
theorem qmj {k:Nat} (h:k<10):(UInt8.ofNat (48+k)).toNat=48+k:=by
 have:∀ v:Fin 10,(UInt8.ofNat (48+v.val)).toNat=48+v.val:=by decide
 exact this ⟨k,h⟩
theorem qnl:∀ u:Nat,(∀ c,c ∈ Lib.decDigits u→digC c)∧valD 0 (Lib.decDigits u)=u∧Lib.decDigits u ≠ []:=by
 intro u
 induction u using Nat.strongRecOn with
 | ind u ih =>
  by_cases h:u<10
  ·rw [Lib.decDigits,dif_pos h]
   refine ⟨fun c hc=>?_,?_,by simp⟩
   ·simp only [List.mem_singleton] at hc
    subst hc
    unfold digC
    rw [qmj h];omega
   ·show 0*10+((UInt8.ofNat (48+u)).toNat-48)=u
    rw [qmj h];omega
  ·obtain ⟨a,b,c⟩:=ih (u / 10) (by omega)
   rw [Lib.decDigits,dif_neg h]
   refine ⟨fun x hx=>?_,?_,by simp⟩
   ·rcases List.mem_append.1 hx with hx|hx
    ·exact a x hx
    ·simp only [List.mem_singleton] at hx
     subst hx
     unfold digC
     rw [qmj (by omega)];omega
   ·unfold valD at b ⊢
    rw [List.foldl_append,b]
    show u / 10*10+((UInt8.ofNat (48+u % 10)).toNat-48)=u
    rw [qmj (by omega)];omega
theorem qmu:∀ (d u:Nat),u<10 ^ (d+1)→(Lib.decDigits u).length≤d+1
 | 0,u,h=>by rw [Lib.decDigits,dif_pos (by omega)];simp
 | d+1,u,h=>by
  by_cases h1:u<10
  ·rw [Lib.decDigits,dif_pos h1];simp
  ·rw [Lib.decDigits,dif_neg h1]
   have:=qmu d (u / 10) (by rw [Nat.pow_succ] at h;omega)
   rw [jg,ji]
   omega
theorem qn6:∀ (l:List UInt8) (acc:Nat),acc≤valD acc l
 | [],_=>jf _
 | c::l,acc=>by
  have:=qn6 l (acc*10+(c.toNat-48))
  show acc≤valD (acc*10+(c.toNat-48)) l
  omega
theorem ql3 {M:Nat}:∀ (l:List UInt8) (acc:Nat),(∀ c,c ∈ l→digC c)→valD acc l≤M→valD acc l≤1000000000000→Lib.parseUintM M acc l=.ok (valD acc l)
 | [],_,_,_,_=>rfl
 | c::l,acc,hd,hm,hb=>by
  have hv:valD acc (c::l)=valD (acc*10+(c.toNat-48)) l:=rfl
  have hg:=qn6 l (acc*10+(c.toNat-48))
  rw [hv] at hm hb ⊢
  unfold Lib.parseUintM
  have hc:48≤c.toNat∧c.toNat≤57:=hd c (jq ..)
  rw [if_pos hc,if_neg (by omega),if_neg (by omega)]
  exact ql3 l _ (fun x hx=>hd x (jk _ hx)) hm hb
theorem qow {u:Nat} (hu:u≤1000000000):Lib.parseIntB 64 (Lib.decDigits u)=.ok (u:Int):=by
 obtain ⟨a,b,c⟩:=qnl u
 have hp:=ql3 (M:=2 ^ 64-1) (Lib.decDigits u) 0 a (by rw [b];omega) (by rw [b];omega)
 rw [b] at hp
 cases hl:Lib.decDigits u with
 | nil=>exact absurd hl c
 | cons x r =>
  rw [hl] at a hp
  have hx:=a x (jq ..)
  unfold digC at hx
  unfold Lib.parseIntB
  simp only
  rw [if_neg (by omega)]
  unfold Lib.parseUintB
  rw [if_neg (by simp),hp]
  simp only
  rw [if_neg (by omega),if_neg (by omega),if_neg (by omega)]
theorem qnw {s:ByteArray} (hs:s.size≤1048576):∃ y:Int × Bool,parseN s=some y∧-9223372036854775808≤y.1∧y.1≤9223372036854775807:=by
 unfold parseN
 rw [if_pos (by omega)]
 cases h:Lib.parseIntB 64 s.data.toList with
 | ok v =>
  have:=Lib.parseIntB_bounds h
  exact ⟨_,rfl,by simp only;omega,by simp only;omega⟩
 | range =>
  refine ⟨_,rfl,?_⟩
  simp only [Lib.intSat]
  split<;>omega
 | _ => exact ⟨_,rfl,by decide,by decide⟩
theorem qpa {s:ByteArray} (hs:s.size≤1048576):∃ v,Ev (fun n=>qcM n s) v∧okI v.1:=by
 obtain ⟨y,hy,hb⟩:=qnw hs
 unfold qcM
 cases h:y.2
 ·exact ⟨(y.1,false),Ev.bindN hy (Ev.ff h .done),hb⟩
 ·obtain ⟨h0,h1⟩:=hb
  have hd:qep 0 y.1=some (⟨(Lib.itoa y.1).toArray⟩:ByteArray):=by
   unfold qep qdI
   rw [if_pos ⟨rfl,by omega,by omega⟩]
   rfl
  exact ⟨(y.1,(⟨(Lib.itoa y.1).toArray⟩:ByteArray).toList==s.toList),Ev.bindN hy (Ev.tt h (Ev.bind (.now hd) .done)),⟨h0,h1⟩⟩
theorem qoZ {v:Int} (h0:0≤v) (h1:v≤1000000000):Ev (fun n=>qcM n (decT v)) (v,true):=by
 obtain ⟨u,rfl⟩:∃ u:Nat,v=(u:Int):=⟨v.toNat,by omega⟩
 have ed:(decT (u:Int)).data.toList=Lib.decDigits u:=by unfold decT;rw [Lib.itoa_nonneg]
 have hy:parseN (decT (u:Int))=some ((u:Int),true):=by
  unfold parseN
  rw [if_pos (by have:=qhw h0 h1;omega),ed,qow (by omega)]
 unfold qcM
 refine Ev.bindN hy (Ev.tt rfl (Ev.bind (.now (qk7 (n:=0) h0 h1)) ?_))
 simp only [beq_self_eq_true]
 exact .done
theorem qkp {v:Int} (h0:-1000000000000≤v) (h1:v≤1000000000000):∃ r,Ev (fun n=>qS n v) r:=by
 have pos:∀ u:Nat,u≤1000000000000→Ev (fun n=>qS n (u:Int)) ⟨(Lib.decDigits u).toArray⟩:=fun u hu=>qlK 12 u (by omega) (by decide)
 by_cases hn:v<0
 ·obtain ⟨u,hu⟩:∃ u:Nat,-v=(u:Int):=⟨(-v).toNat,by omega⟩
  have hp:=pos u (by omega)
  have e:W64 (0-v)=(u:Int):=by rw [qaE (by omega) (by omega)];omega
  have hl:=qmu 12 u (by omega)
  refine ⟨apB ⟨#[45]⟩ ⟨(Lib.decDigits u).toArray⟩,Ev.succ ?_⟩
  simp only [qS,e]
  exact Ev.tt (decide_eq_true hn) (Ev.bind hp (Ev.bindN (catK (by
   have:(⟨(Lib.decDigits u).toArray⟩:ByteArray).size=(Lib.decDigits u).length:=rfl
   have:(⟨#[45]⟩:ByteArray).size=1:=rfl
   omega)) .done))
 ·obtain ⟨u,rfl⟩:∃ u:Nat,v=(u:Int):=⟨v.toNat,by omega⟩
  exact ⟨_,pos u (by omega)⟩
end Go.Fw


namespace Go.Fw
open Go
set_option maxRecDepth 100000
theorem qmq:∀ (l:List UInt8) (acc:Nat),(∀ c,c ∈ l→digC c)→valD acc l+1≤(acc+1)*10 ^ l.length
 | [],acc,_=>by simp [valD]
 | c::l,acc,h=>by
  have hc:48≤c.toNat∧c.toNat≤57:=h c (jq ..)
  have ih:=qmq l (acc*10+(c.toNat-48)) fun x hx=>h x (jk _ hx)
  show valD (acc*10+(c.toNat-48)) l+1≤(acc+1)*10 ^ (l.length+1)
  have h1:(acc*10+(c.toNat-48)+1)*10 ^ l.length≤((acc+1)*10)*10 ^ l.length:=jt _ (by omega)
  have h2:(acc+1)*10 ^ (l.length+1)=((acc+1)*10)*10 ^ l.length:=by rw [Nat.pow_succ,Nat.mul_assoc,Nat.mul_comm 10]
  omega
theorem qqo {s:ByteArray} {L:List UInt8} (hL:L=s.data.toList) {i:Nat} (h:i<L.length):atS s (i:Int)=some (L[i].toNat:Int):=by
 have hsz:L.length=s.size:=by rw [hL];exact jN
 rw [qlf (by omega)]
 unfold bt
 rw [←hL,jx,jm h]
 rfl
theorem qoY {k:Nat} (h:k<10):W64 (IntKind.wrap .u8 (k:Int))=(k:Int):=by
 have:∀ v:Fin 10,W64 (IntKind.wrap .u8 ((v.val:Nat):Int))=((v.val:Nat):Int):=by decide
 exact this ⟨k,h⟩
theorem qpg {z:ByteArray} {L:List UInt8} (hL:L=z.data.toList) (hz:L.length≤12):∀ (d i:Nat),i+d=L.length→(∀ c,c ∈ L.take i→digC c) →
  ∃ o,Ev (fun n=>qbz z n (valD 0 (L.take i):Int) (i:Int)) o∧((∀ c,c ∈ L→digC c)→o=.nxt ((valD 0 L:Int),(L.length:Int)))∧((o=.ret (0,false))∨∃ (v:Nat) (e:Int),v≤1000000000000∧o=.nxt ((v:Int),e)):=by
 have hsz:L.length=z.size:=by rw [hL];exact jN
 intro d
 induction d with
 | zero =>
  intro i hi hd
  obtain rfl:i=L.length:=by omega
  rw [jT] at hd ⊢
  have hlt:=qmq L 0 hd
  have hp:(10:Nat) ^ L.length≤10 ^ 12:=Nat.pow_le_pow_right (by decide) hz
  refine ⟨.nxt ((valD 0 L:Int),(L.length:Int)),Ev.succ ?_,fun _=>rfl,.inr ⟨valD 0 L,_,by omega,rfl⟩⟩
  simp only [qbz]
  exact Ev.ff (decide_eq_false (by omega)) .done
 | succ d ih =>
  intro i hi hd
  have hil:i<L.length:=by omega
  have ea:=qqo hL hil
  have et:L.take (i+1)=L.take i++[L[i]]:=List.take_succ_eq_append_getElem hil
  by_cases hc:digC L[i]
  ·have hc':48≤L[i].toNat∧L[i].toNat≤57:=hc
   have hlt:=qmq (L.take i) 0 hd
   have hlen:(L.take i).length≤12:=by rw [List.length_take];omega
   have hp:(10:Nat) ^ (L.take i).length≤10 ^ 12:=Nat.pow_le_pow_right (by decide) hlen
   have hv:valD 0 (L.take (i+1))=valD 0 (L.take i)*10+(L[i].toNat-48):=by
    rw [et];unfold valD;rw [List.foldl_append];rfl
   obtain ⟨o,ho,h1,h2⟩:=ih (i+1) (by omega) (fun c hc0=>by
    rw [et] at hc0
    rcases List.mem_append.1 hc0 with hc0|hc0
    ·exact hd c hc0
    ·rw [List.mem_singleton] at hc0;subst hc0;exact hc)
   refine ⟨o,Ev.succ ?_,h1,h2⟩
   have e1:W64 (10*(valD 0 (L.take i):Int))=10*(valD 0 (L.take i):Int):=qaE (by omega) (by omega)
   have e2:((L[i].toNat:Int)-48)=((L[i].toNat-48:Nat):Int):=by omega
   have e3:=qoY (k:=L[i].toNat-48) (by omega)
   have e4:W64 (10*(valD 0 (L.take i):Int)+((L[i].toNat-48:Nat):Int))=(valD 0 (L.take (i+1)):Int):=by
    rw [qaE (by omega) (by omega),hv];omega
   simp only [qbz]
   refine Ev.tt (decide_eq_true (by omega)) (Ev.bind (b:=false) (Ev.bindN ea (Ev.ff (decide_eq_false (by omega)) (Ev.bindN ea (Ev.now ?_)))) (Ev.ff rfl (Ev.bindN ea ?_)))
   ·exact congrArg some (decide_eq_false (by omega))
   ·rw [e1,e2,e3,e4,wS i]
    exact ho
  ·have hc':¬ (48≤L[i].toNat∧L[i].toNat≤57):=hc
   refine ⟨.ret (0,false),Ev.succ ?_,fun h=>absurd (h _ (jr hil)) hc,.inl rfl⟩
   simp only [qbz]
   refine Ev.tt (decide_eq_true (by omega)) (Ev.bind (b:=true) (Ev.bindN ea ?_) (Ev.tt rfl .done))
   by_cases h48:L[i].toNat<48
   ·exact Ev.tt (decide_eq_true (by omega)) .done
   ·exact Ev.ff (decide_eq_false (by omega)) (Ev.bindN ea (Ev.now (congrArg some (decide_eq_true (by omega)))))
theorem qo9 {s:ByteArray}:∃ v,Ev (fun n=>qdV n s) v∧okI v.1:=by
 have z0:okI (0:Int):=⟨by decide,by decide⟩
 unfold qdV
 obtain ⟨b,hb,hb1⟩:∃ b,Ev (fun n=>bif decide ((s.size:Int) > 0) then (atS s 0).bind fun y4=>some (y4==45) else some false) b∧(b=true→0<s.size):=by
  by_cases h:0<s.size
  ·exact ⟨_,Ev.tt (decide_eq_true (by omega)) (Ev.bindN (qlf (j:=0) h) .done),fun _=>h⟩
  ·exact ⟨false,Ev.ff (decide_eq_false (by omega)) .done,fun e=>by cases e⟩
 obtain ⟨z,hz⟩:∃ z,Ev (fun _:Nat=>bif b then (subB s 1 (s.size:Int)).bind fun z2=>some z2 else some s) z:=by
  cases b with
  | false=>exact ⟨s,.done⟩
  | true =>
   refine ⟨_,Ev.tt rfl (Ev.bindN (b:=s.extract 1 s.size) ?_ .done)⟩
   unfold subB
   rw [if_pos ⟨by omega,by have:=hb1 rfl;omega,by omega⟩]
   rfl
 by_cases h1:z.size<1
 ·exact ⟨(0,false),Ev.bind hb (Ev.bind hz (Ev.bind (b:=true) (Ev.tt (decide_eq_true (by omega)) .done) (Ev.tt rfl .done))),z0⟩
 by_cases h2:z.size > 12
 ·exact ⟨(0,false),Ev.bind hb (Ev.bind hz (Ev.bind (b:=true) (Ev.ff (decide_eq_false (by omega)) (Ev.now (congrArg some (decide_eq_true (by omega))))) (Ev.tt rfl .done))),z0⟩
 have hsz:z.data.toList.length=z.size:=jN
 obtain ⟨o,ho,_,hr⟩:=qpg (z:=z) rfl (by omega) z.data.toList.length 0 (by omega) (fun c hc=>by cases hc)
 have ho':Ev (fun n=>qbz z n 0 0) o:=ho
 have hB:Ev (fun n:Nat=>bif decide ((z.size:Int)<1) then some true else some (decide ((z.size:Int) > 12))) false:=Ev.ff (decide_eq_false (by omega)) (Ev.now (congrArg some (decide_eq_false (by omega))))
 rcases hr with rfl|⟨v,e,hv,rfl⟩
 ·exact ⟨(0,false),Ev.bind hb (Ev.bind hz (Ev.bind hB (Ev.ff rfl (Ev.bind ho' .done)))),z0⟩
 ·by_cases hs:(z.size:Int)<(s.size:Int)
  ·have ew:W64 (0-(v:Int))=-(v:Int):=by rw [qaE (by omega) (by omega)];omega
   obtain ⟨r1,hr1⟩:=qkp (v:=-(v:Int)) (by omega) (by omega)
   refine ⟨(-(v:Int),r1.toList==s.toList),Ev.bind hb (Ev.bind hz (Ev.bind hB (Ev.ff rfl (Ev.bind ho' (Ev.tt (decide_eq_true hs) ?_))))),by constructor<;>simp only<;>omega⟩
   rw [ew]
   exact Ev.bind hr1 .done
  ·obtain ⟨r1,hr1⟩:=qkp (v:=(v:Int)) (by omega) (by omega)
   exact ⟨((v:Int),r1.toList==s.toList),Ev.bind hb (Ev.bind hz (Ev.bind hB (Ev.ff rfl (Ev.bind ho' (Ev.ff (decide_eq_false hs) (Ev.bind hr1 .done)))))),by constructor<;>simp only<;>omega⟩
theorem qnk {v:Int} (h0:0≤v) (h1:v≤1000000000):Ev (fun n=>qdV n (decT v)) (v,true):=by
 obtain ⟨u,rfl⟩:∃ u:Nat,v=(u:Int):=⟨v.toNat,by omega⟩
 have ed:(decT (u:Int)).data.toList=Lib.decDigits u:=by unfold decT;rw [Lib.itoa_nonneg]
 obtain ⟨a,b,c⟩:=qnl u
 have hl:=qmu 9 u (by omega)
 have hsz:(decT (u:Int)).data.toList.length=(decT (u:Int)).size:=jN
 have hpos:0<(Lib.decDigits u).length:=List.length_pos_iff.2 c
 rw [ed] at hsz
 have ha0:=qqo (s:=decT (u:Int)) ed.symm (i:=0) hpos
 have hd0:48≤(Lib.decDigits u)[0].toNat∧(Lib.decDigits u)[0].toNat≤57:=a _ (jr hpos)
 obtain ⟨o,ho,hall,_⟩:=qpg (z:=decT (u:Int)) ed.symm (by omega) (Lib.decDigits u).length 0 (by omega) (fun c hc=>by cases hc)
 have ho':Ev (fun n=>qbz (decT (u:Int)) n 0 0) o:=ho
 rw [hall a,b] at ho'
 have hn:=qnW (v:=(u:Int)) h0 h1
 unfold qdV
 refine Ev.bind (b:=false) (Ev.tt (decide_eq_true (by omega)) (Ev.bindN ha0 (Ev.now ?_))) (Ev.bind (b:=decT (u:Int)) .done (Ev.bind (b:=false) (Ev.ff (decide_eq_false (by omega)) (Ev.now (congrArg some (decide_eq_false (by omega))))) (Ev.ff rfl (Ev.bind ho' (Ev.ff (decide_eq_false (by omega)) (Ev.bind hn ?_))))))
 ·refine congrArg some ?_
  simp
  omega
 ·simp only [beq_self_eq_true]
  exact .done
end Go.Fw


namespace Go.Fw
open Go
set_option maxRecDepth 100000
theorem qn5 {c:UInt8}:∀ l:List UInt8,(sp1 c l).length≤l.length+1
 | []=>jf _
 | b::l=>by
  have:=qn5 (c:=c) l
  simp only [sp1]
  split
  ·simp only [jv];omega
  ·cases h:sp1 c l with
   | nil=>simp [consH]
   | cons a t=>rw [h] at this;simp only [consH,jv] at this ⊢;omega
theorem qi6 {c:UInt8}:∀ (a r:List UInt8),(∀ x,x ∈ a→x ≠ c)→sp1 c (a++c::r)=a::sp1 c r
 | [],r,_=>by simp [sp1]
 | b::a,r,h=>by
  have ih:=qi6 a r fun x hx=>h x (jk _ hx)
  show sp1 c (b::(a++c::r))=_
  simp only [sp1,if_neg (h b (jq ..)),ih,consH]
theorem qk6 {c:UInt8} {a r:List UInt8} (ha:∀ x,x ∈ a→x ≠ c) (hr:r=[]∨∃ t,r=c::t):∃ t,sp1 c (a++r)=a::t:=by
 rcases hr with rfl|⟨t,rfl⟩
 ·rw [jR]
  induction a with
  | nil=>exact ⟨[],rfl⟩
  | cons b a ih =>
   obtain ⟨t,ht⟩:=ih fun x hx=>ha x (jk _ hx)
   exact ⟨t,by simp only [sp1,if_neg (ha b (jq ..)),ht,consH]⟩
 ·exact ⟨_,qi6 a t ha⟩
theorem qhy (a b:ByteArray):(apB a b).data.toList=a.data.toList++b.data.toList:=by rw [qiQ];simp
def StS (l:List UInt8):Prop:=l=[]∨∃ t,l=32::t
theorem StS.app {a b:List UInt8} (ha:StS a) (hb:StS b):StS (a++b):=by
 rcases ha with rfl|⟨t,rfl⟩
 ·exact hb
 ·exact .inr ⟨t++b,rfl⟩
theorem qmg {b:qc} {ww:ByteArray} {xs:List Int} (hw:∃ t,ww.data.toList=32::t):∀ j,StS (wds b ww xs j).data.toList
 | 0=>.inl rfl
 | j+1=>by
  obtain ⟨t,ht⟩:=hw
  simp only [wds,qhy]
  refine (qmg ⟨t,ht⟩ j).app (.inr ⟨t++_,by rw [ht];rfl⟩)
theorem qqk {k:Int} (h:1≤k∧k≤4):∀ x,x ∈ (kwE k).data.toList→x ≠ 32:=by
 obtain ⟨h1,h2⟩:=h
 obtain rfl|rfl|rfl|rfl:k=1∨k=2∨k=3∨k=4:=by omega
 all_goals decide
theorem qpy {v:Int} (h0:0≤v):∀ x,x ∈ (decT v).data.toList→x ≠ 32:=by
 obtain ⟨u,rfl⟩:∃ u:Nat,v=(u:Int):=⟨v.toNat,by omega⟩
 intro x hx e
 have ed:(decT (u:Int)).data.toList=Lib.decDigits u:=by unfold decT;rw [Lib.itoa_nonneg]
 rw [ed] at hx
 have hd:48≤x.toNat∧x.toNat≤57:=(qnl u).1 x hx
 subst e
 have:(32:UInt8).toNat=32:=rfl
 omega
theorem qog {b:qc} {e:qa} (hv:valB e.Am e.Az=true) (hk:e.Am ≠ 1):∃ t,sp1 32 (txtE b e).data.toList=(kwE e.Am).data.toList::(decT e.Az).data.toList::t:=by
 obtain ⟨hk4,h0,h1⟩:=qc1 hv
 have hh:headE e=apB (kwE e.Am) (apB ⟨#[32]⟩ (decT e.Az)):=by
  unfold headE
  have:(e.Am != 1)=true:=by simpa using hk
  rw [this]
  rfl
 have r1:=qmg (b:=b) (ww:=wFrom) (xs:=e.Au) ⟨_,rfl⟩ e.Au.length
 have r2:=qmg (b:=b) (ww:=wThr) (xs:=e.Ap) ⟨_,rfl⟩ e.Ap.length
 have r3:=qmg (b:=b) (ww:=wTo) (xs:=e.To) ⟨_,rfl⟩ e.To.length
 obtain ⟨t,ht⟩:=qk6 (qpy h0) ((r1.app r2).app r3)
 refine ⟨t,?_⟩
 unfold txtE
 rw [hh]
 simp only [qhy,jI]
 rw [List.singleton_append,qi6 _ _ (qqk hk4)]
 rw [←ht]
 simp only [jI]
theorem qnd {b:qc} {e:qa} (hv:valB e.Am e.Az=true):txtE b e ≠ ⟨#[]⟩:=by
 intro h
 obtain ⟨hk4,h0,h1⟩:=qc1 hv
 have hs:(txtE b e).size=0:=by rw [h];rfl
 unfold txtE at hs
 simp only [qbD] at hs
 have hh:0<(headE e).size:=by
  have hkw:0<(kwE e.Am).size:=by
   obtain h|h|h|h:e.Am=1∨e.Am=2∨e.Am=3∨e.Am=4:=by omega
   all_goals rw [h];decide
  unfold headE
  cases (e.Am != 1)
  ·exact hkw
  ·simp only [cond_true,qbD];omega
 omega
def kindS (w:ByteArray):Int :=
 bif (w.toList==(⟨#[102,97,108,115,101]⟩:ByteArray).toList) then 1 else bif (w.toList==(⟨#[99,121,99,108,101,115]⟩:ByteArray).toList) then 2 else bif (w.toList==(⟨#[109,97,120]⟩:ByteArray).toList) then 3 else bif (w.toList==(⟨#[109,105,110]⟩:ByteArray).toList) then 4 else 0
theorem qpT {w:ByteArray}:∃ k:Int,Ev (fun n=>qa6 n exWords w) k∧((kindS w ≠ 0→k=kindS w)∧(kindS w=0→k=0∨k=-1))∧(0≤kindS w∧kindS w≤4):=by
 have hi:=qd5 (xs:=exWords) (p:=fun y=>w.toList==y.toList) (pf:=fun _ y=>some (w.toList==y.toList)) (Lf:=qaJ exWords w) (fin:=5) (fun _ _=>.done)
  (fun n=>rfl) (fun n j x hx=>by
   obtain ⟨hj,hi⟩:=qmz hx
   simp only [qaJ,qn hj,cond_true,hi,je,qfk (show j<9223372036854775807 by have:exWords.length=5:=rfl;omega)])
  (F:=fun n=>qa6 n exWords w) (fun n=>by
   unfold qa6
   refine congrArg (Option.bind _) (funext fun o=>?_)
   cases o<;>rfl)
 refine ⟨_,hi,?_⟩
 have key:∀ c1 c2 c3 c4 c0:Bool,(c0=true→c1=false∧c2=false∧c3=false∧c4=false)→∀ k:Int,k=(if c0 then 0 else if c1 then 1 else if c2 then 2 else if c3 then 3 else if c4 then 4 else -1)→∀ s:Int,s=(bif c1 then 1 else bif c2 then 2 else bif c3 then 3 else bif c4 then 4 else 0)→((s ≠ 0→k=s)∧(s=0→k=0∨k=-1))∧(0≤s∧s≤4):=by
  intro c1 c2 c3 c4 c0 h0 k hk s hs
  cases c0<;>cases c1<;>cases c2<;>cases c3<;>cases c4<;>simp at h0 hk hs<;>subst hk<;>subst hs<;>decide
 refine key (w.toList==(⟨#[102,97,108,115,101]⟩:ByteArray).toList) (w.toList==(⟨#[99,121,99,108,101,115]⟩:ByteArray).toList) (w.toList==(⟨#[109,97,120]⟩:ByteArray).toList) (w.toList==(⟨#[109,105,110]⟩:ByteArray).toList) (w.toList==(⟨#[]⟩:ByteArray).toList) ?_ _ ?_ _ rfl
 ·intro h
  rw [qV,decide_eq_true_eq] at h
  subst h
  simp only [qV]
  decide
 ·unfold ixL exWords
  simp only [List.findIdx?_cons,List.findIdx?_nil]
  cases w.toList==(⟨#[]⟩:ByteArray).toList<;>cases w.toList==(⟨#[102,97,108,115,101]⟩:ByteArray).toList<;>cases w.toList==(⟨#[99,121,99,108,101,115]⟩:ByteArray).toList<;>cases w.toList==(⟨#[109,97,120]⟩:ByteArray).toList<;>cases w.toList==(⟨#[109,105,110]⟩:ByteArray).toList<;>rfl
end Go.Fw


namespace Go.Fw
open Go
set_option maxRecDepth 100000
theorem qn1 {c:UInt8}:∀ (l a:List UInt8),a ∈ sp1 c l→a.length≤l.length
 | [],a,h=>by simp [sp1] at h;subst h;simp
 | b::l,a,h=>by
  have ih:=qn1 (c:=c) l
  simp only [sp1] at h
  split at h
  ·rcases List.mem_cons.1 h with rfl|h
   ·simp
   ·have:=ih a h;simp only [jv];omega
  ·cases hs:sp1 c l with
   | nil=>exact absurd hs (qkY l)
   | cons x t =>
    rw [hs] at h ih
    simp only [consH] at h
    rcases List.mem_cons.1 h with rfl|h
    ·have:=ih x (jq ..);simp only [jv];omega
    ·have:=ih a (jk _ h);simp only [jv];omega
theorem qkt {g:ByteArray→Int} {a:Lst} {w v:ByteArray}:stepL g a w v=⟨a.f++[g v],a.t,a.o⟩∨stepL g a w v=⟨a.f,a.t++[g v],a.o⟩∨stepL g a w v=⟨a.f,a.t,a.o++[g v]⟩∨stepL g a w v=a:=by
 unfold stepL
 cases w.toList==wF.toList
 ·cases w.toList==wT.toList
  ·cases w.toList==wO'.toList
   ·exact .inr (.inr (.inr rfl))
   ·exact .inr (.inr (.inl rfl))
  ·exact .inr (.inl rfl)
 ·exact .inl rfl
theorem qm0 {g:ByteArray→Int}:∀ (l:List ByteArray) (a:Lst),(lsts g l a).f.length+(lsts g l a).t.length+(lsts g l a).o.length≤a.f.length+a.t.length+a.o.length+l.length
 | [],a=>jf _
 | [_],a=>Nat.le_succ _
 | w::v::r,a=>by
  have ih:=qm0 (g:=g) r (stepL g a w v)
  have hs:(stepL g a w v).f.length+(stepL g a w v).t.length+(stepL g a w v).o.length≤a.f.length+a.t.length+a.o.length+1:=by
   rcases qkt (g:=g) (a:=a) (w:=w) (v:=v) with e|e|e|e<;>rw [e]<;>(try simp only [jg,ji])<;>omega
  show (lsts g r (stepL g a w v)).f.length+(lsts g r (stepL g a w v)).t.length+(lsts g r (stepL g a w v)).o.length≤_
  simp only [jv]
  omega
theorem qnR {g:ByteArray→Int} (hg:∀ x,okI (g x)):∀ (l:List ByteArray) (a:Lst),(∀ x,x ∈ a.f∨x ∈ a.t∨x ∈ a.o→okI x)→∀ x,x ∈ (lsts g l a).f∨x ∈ (lsts g l a).t∨x ∈ (lsts g l a).o→okI x
 | [],a,h=>h
 | [_],a,h=>h
 | w::v::r,a,h=>by
  refine qnR hg r (stepL g a w v) fun x hx=>?_
  rcases qkt (g:=g) (a:=a) (w:=w) (v:=v) with e|e|e|e<;>rw [e] at hx
  ·simp only [List.mem_append,List.mem_singleton] at hx
   rcases hx with (hx|rfl)|hx|hx
   ·exact h x (.inl hx)
   ·exact hg v
   ·exact h x (.inr (.inl hx))
   ·exact h x (.inr (.inr hx))
  ·simp only [List.mem_append,List.mem_singleton] at hx
   rcases hx with hx|(hx|rfl)|hx
   ·exact h x (.inl hx)
   ·exact h x (.inr (.inl hx))
   ·exact hg v
   ·exact h x (.inr (.inr hx))
  ·simp only [List.mem_append,List.mem_singleton] at hx
   rcases hx with hx|hx|(hx|rfl)
   ·exact h x (.inl hx)
   ·exact h x (.inr (.inl hx))
   ·exact h x (.inr (.inr hx))
   ·exact hg v
  ·exact h x hx
theorem qpw {b:qc} (h:designB b.Ac b.Aa=true) (x:ByteArray):okI (namedB b x):=by
 have hpl:=qaz (qI h)
 unfold namedB ixL
 split
 ·rename_i j hj
  obtain ⟨hlt,_⟩:=List.findIdx?_eq_some_iff_getElem.1 hj
  constructor<;>omega
 ·exact ⟨by decide,by decide⟩
def eL (k v:Int) (L:Lst):qa:=⟨k,v,L.f,L.t,L.o⟩
def zE:qa:=⟨0,0,[],[],[]⟩
theorem qqQ {b:qc} {s:ByteArray} {V:Tview} (hok:qaI b) (h:blockB b=true) (hV:V.Bd=b) (hP:V.places=places b.Aa) {kS kI vS vI:Int} {L:Lst} (oS:qan (eL kS vS L)) (oI:qan (eL kI vI L))
  (hk:(kS ≠ 0→kI=kS)∧(kS=0→kI=0∨kI=-1)) (hv:∀ v,valB kS v=true→txtE b (eL kS v L)=s→(v=vS∨v=vI)→vS=vI) :
  ∃ R:qa × Bool,Ev (fun n=>bif (s.toList==(⟨#[]⟩:ByteArray).toList) then some (zE,false) else (qcn n b (eL kS vS L)).bind fun r3=>bif (r3.toList != s.toList) then some (zE,false) else some (eL kS vS L,true)) R ∧
   Ev (fun n=>(qaO n (some V) (eL kI vI L)).bind fun r5=>bif (!r5) then some (zE,false) else (qaS n (some V) (eL kI vI L)).bind fun r6=>bif (r6.toList != s.toList) then some (zE,false) else some (eL kI vI L,true)) R∧qip R.1≤1048576:=by
 have hz:qip (zE,false).1≤1048576:=by decide
 have sT:=qk2 (b:=b) hok oS
 have iE:=qg5 (V:=V) h hP oI
 have ne:∀ {x y:ByteArray},x ≠ y→(x.toList != y.toList)=true:=fun hxy=>by rw [bne,qV,decide_eq_false hxy];rfl
 have eq:∀ {x y:ByteArray},x=y→(x.toList != y.toList)=false:=fun hxy=>by rw [bne,qV,decide_eq_true hxy];rfl
 have sF:¬ (excB b (eL kS vS L)=true∧txtE b (eL kS vS L)=s)→Ev (fun n=>bif (s.toList==(⟨#[]⟩:ByteArray).toList) then some (zE,false) else (qcn n b (eL kS vS L)).bind fun r3=>bif (r3.toList != s.toList) then some (zE,false) else some (eL kS vS L,true)) (zE,false):=fun hn=>by
  by_cases hs:s=⟨#[]⟩
  ·exact Ev.tt (by rw [qV];exact decide_eq_true hs) .done
  ·refine Ev.ff (by rw [qV];exact decide_eq_false hs) (Ev.bind sT (Ev.tt (ne ?_) .done))
   rw [h,jC]
   cases hx:excB b (eL kS vS L)
   ·exact fun e=>hs e.symm
   ·exact fun e=>hn ⟨hx,e⟩
 have iF:¬ (excB b (eL kI vI L)=true∧txtE b (eL kI vI L)=s)→Ev (fun n=>(qaO n (some V) (eL kI vI L)).bind fun r5=>bif (!r5) then some (zE,false) else (qaS n (some V) (eL kI vI L)).bind fun r6=>bif (r6.toList != s.toList) then some (zE,false) else some (eL kI vI L,true)) (zE,false):=fun hn=>by
  cases hx:excB b (eL kI vI L)
  ·rw [hx] at iE
   exact Ev.bind iE (Ev.tt rfl .done)
  ·rw [hx] at iE
   exact Ev.bind iE (Ev.ff rfl (Ev.bind (qf4 hok h hV hP hx) (Ev.tt (ne fun e=>hn ⟨hx,e⟩) .done)))
 by_cases hg:excB b (eL kI vI L)=true∧txtE b (eL kI vI L)=s
 ·obtain ⟨hx,ht⟩:=hg
  obtain ⟨p1,p2,p3,hvb⟩:=qeU hx
  obtain ⟨hk4,_,_⟩:=qc1 hvb
  have hk4':1≤kI∧kI≤4:=hk4
  have hkS:kS ≠ 0:=fun e=>by rcases hk.2 e with e|e<;>omega
  have e1:=hk.1 hkS
  subst e1
  have e2:=hv vI hvb ht (.inr rfl)
  subst e2
  have hne:s ≠ ⟨#[]⟩:=fun e=>qnd hvb (ht.trans e)
  rw [hx] at iE
  rw [h,hx] at sT
  refine ⟨(eL kI vS L,true),Ev.ff (by rw [qV];exact decide_eq_false hne) (Ev.bind sT (Ev.ff (eq ht) .done)),Ev.bind iE (Ev.ff rfl (Ev.bind (qf4 hok h hV hP hx) (Ev.ff (eq ht) .done))),?_⟩
  unfold plsB at p1 p2 p3
  simp only [jh,decide_eq_true_eq] at p1 p2 p3
  show qg4 L.f+qg4 L.t+qg4 L.o≤1048576
  have q1:L.f.length≤4:=p1.1
  have q2:L.t.length≤4:=p2.1
  have q3:L.o.length≤4:=p3.1
  unfold qg4
  omega
 ·refine ⟨(zE,false),sF fun hg'=>?_,iF hg,hz⟩
  obtain ⟨hx,ht⟩:=hg'
  obtain ⟨_,_,_,hvb⟩:=qeU hx
  obtain ⟨hk4,_,_⟩:=qc1 hvb
  have hk4':1≤kS∧kS≤4:=hk4
  have e1:=hk.1 (by omega)
  subst e1
  have e2:=hv vS hvb ht (.inl rfl)
  subst e2
  exact hg ⟨hx,ht⟩
end Go.Fw


namespace Go.Fw
open Go
set_option maxRecDepth 100000
theorem qkP {α:Type} {x:α} {xs:List α}:subS (x::xs) 1 ((x::xs).length:Int)=some xs:=by
 unfold subS
 rw [if_pos ⟨by decide,by simp only [jv];omega,by omega⟩]
 simp
theorem qj4 {b:qc} {s:ByteArray} (hok:qaI b) (hs:s.size≤1048576):∃ R:qa × Bool,Ev (fun n=>qdi n b s) R∧Ev (fun n=>qcs n b s) R∧qip R.1≤1048576:=by
 have hsz:s.data.toList.length=s.size:=jN
 have sS:=qlJ hs
 have iS:=fun n=>qpp (n:=n) hs
 have hlen:((sp1 32 s.data.toList).map mkB).length≤s.size+1:=by rw [jy];have:=qn5 (c:=32) s.data.toList;omega
 have hwd:∀ w,w ∈ (sp1 32 s.data.toList).map mkB→w.size≤1048576:=fun w hw=>by
  obtain ⟨l,hl,rfl⟩:=List.mem_map.1 hw
  have:=qn1 _ _ hl
  have e:(mkB l).size=l.length:=by show l.toArray.size=l.length;simp
  omega
 have hne:(sp1 32 s.data.toList).map mkB ≠ []:=by simp [qkY]
 have hcan:∀ (e:qa),valB e.Am e.Az=true→e.Am ≠ 1→txtE b e=s→∃ w0 r,(sp1 32 s.data.toList).map mkB=w0::decT e.Az::r:=fun e hv hk ht=>by
  obtain ⟨t,e1⟩:=qog (b:=b) hv hk
  rw [ht] at e1
  rw [e1]
  exact ⟨_,_,rfl⟩
 generalize (sp1 32 s.data.toList).map mkB=W at sS iS hlen hwd hne hcan
 cases W with
 | nil=>exact absurd rfl hne
 | cons w0 rest =>
 obtain ⟨kI,ki,hk,hkb⟩:=qpT (w:=w0)
 obtain ⟨g,hg,hgo⟩:∃ g:ByteArray→Int,(∀ name,Ev (fun n=>qcf n b.Ac b.Aa name) (g name))∧((∀ x,okI (g x))∧(blockB b=true→g=namedB b)):=by
  cases hd:designB b.Ac b.Aa
  ·refine ⟨fun _=>-1,fun name=>qoe hok hd,fun _=>(⟨by decide,by decide⟩:okI (-1)),fun h=>?_⟩
   rw [qae h] at hd
   cases hd
  ·exact ⟨namedB b,fun name=>qlN hok hd,qpw hd,fun _=>rfl⟩
 obtain ⟨hgk,hgb⟩:=hgo
 have hk0:okI (0:Int):=⟨by decide,by decide⟩
 have okE:∀ (k v:Int) (l:List ByteArray),okI k→okI v→l.length≤1048576→qan (eL k v (lsts g l ⟨[],[],[]⟩)):=fun k v l h1 h2 h3=>by
  have q:=qm0 (g:=g) l ⟨[],[],[]⟩
  have q2:=qnR hgk l ⟨[],[],[]⟩ (fun x hx=>by simp at hx)
  simp only [List.length_nil] at q
  exact ⟨h1,h2,⟨by show (lsts g l ⟨[],[],[]⟩).f.length≤_;omega,fun x hx=>q2 x (.inl hx)⟩,⟨by show (lsts g l ⟨[],[],[]⟩).t.length≤_;omega,fun x hx=>q2 x (.inr (.inl hx))⟩,⟨by show (lsts g l ⟨[],[],[]⟩).o.length≤_;omega,fun x hx=>q2 x (.inr (.inr hx))⟩⟩
 have hrl:rest.length≤1048576:=by rw [jv] at hlen;omega
 have okk:okI (kindS w0):=⟨by omega,by omega⟩
 have okki:okI kI:=by
  by_cases e:kindS w0=0
  ·rcases hk.2 e with e'|e'<;>rw [e']<;>exact ⟨by decide,by decide⟩
  ·rw [hk.1 e];exact okk
 have hk1:(kI=1)↔(kindS w0=1):=by
  by_cases e:kindS w0=0
  ·rcases hk.2 e with e'|e'<;>omega
  ·rw [hk.1 e]
 have sKind:Ev (fun _:Nat=>bif (w0.toList==(⟨#[102,97,108,115,101]⟩:ByteArray).toList) then some (1:Int) else bif (w0.toList==(⟨#[99,121,99,108,101,115]⟩:ByteArray).toList) then some 2 else bif (w0.toList==(⟨#[109,97,120]⟩:ByteArray).toList) then some 3 else bif (w0.toList==(⟨#[109,105,110]⟩:ByteArray).toList) then some 4 else some 0) (kindS w0):=by
  unfold kindS
  refine .now ?_
  cases w0.toList==(⟨#[102,97,108,115,101]⟩:ByteArray).toList<;>cases w0.toList==(⟨#[99,121,99,108,101,115]⟩:ByteArray).toList<;>cases w0.toList==(⟨#[109,97,120]⟩:ByteArray).toList<;>cases w0.toList==(⟨#[109,105,110]⟩:ByteArray).toList<;>rfl
 obtain ⟨vS,vI,l,i3,sV,iV,ovS,ovI,hll,hdr,hval⟩:∃ (vS vI:Int) (l:List ByteArray) (i3:Nat),
   Ev (fun n=>(bif (kindS w0 != 1) then some (decide (((w0::rest).length:Int) > 1)) else some false).bind fun b2=>(bif b2 then (idx (w0::rest) 1).bind fun y4=>(qdV n y4).bind fun o=>match o with|(r5,_)=>some (r5,(2:Int)) else some (0,1))) (vS,(i3:Int)) ∧
   Ev (fun n=>(bif (kI != 1) then some (decide ((rest.length:Int) > 0)) else some false).bind fun b2=>(bif b2 then (idx rest 0).bind fun y5=>(qcM n y5).bind fun o=>match o with|(r4,_)=>(subS rest 1 (rest.length:Int)).bind fun x9=>some (x9,r4) else some (rest,0))) (l,vI) ∧
   okI vS∧okI vI∧l.length≤rest.length∧(i3≤(w0::rest).length∧(w0::rest).drop i3=l) ∧
   (∀ (L:Lst) v,valB (kindS w0) v=true→txtE b (eL (kindS w0) v L)=s→(v=vS∨v=vI)→vS=vI):=by
  by_cases hp:kindS w0=1
  ·have e1:(kindS w0 != 1)=false:=by simp [hp]
   have e2:(kI != 1)=false:=by simp [hk1.2 hp]
   exact ⟨0,0,rest,1,Ev.bind (b:=false) (Ev.ff e1 .done) (Ev.ff rfl .done),Ev.bind (b:=false) (Ev.ff e2 .done) (Ev.ff rfl .done),hk0,hk0,jf _,⟨by simp,rfl⟩,fun _ _ _ _ _=>rfl⟩
  ·have e1:(kindS w0 != 1)=true:=by simpa using hp
   have e2:(kI != 1)=true:=by have:=fun e=>hp (hk1.1 e);simpa using this
   cases rest with
   | nil=>exact ⟨0,0,[],1,Ev.bind (b:=false) (Ev.tt e1 (.now rfl)) (Ev.ff rfl .done),Ev.bind (b:=false) (Ev.tt e2 (.now rfl)) (Ev.ff rfl .done),hk0,hk0,jf _,⟨by simp,rfl⟩,fun _ _ _ _ _=>rfl⟩
   | cons w1 r =>
    obtain ⟨uS,hS,oS⟩:=qo9 (s:=w1)
    obtain ⟨uI,hI,oI⟩:=qpa (s:=w1) (hwd w1 (by simp))
    have d1:decide (((w0::w1::r).length:Int) > 1)=true:=decide_eq_true (by simp only [jv];omega)
    have d2:decide (((w1::r).length:Int) > 0)=true:=decide_eq_true (by simp only [jv];omega)
    refine ⟨uS.1,uI.1,r,2,Ev.bind (b:=true) (Ev.tt e1 (.now (congrArg some d1))) (Ev.tt rfl (Ev.bindN (b:=w1) rfl (Ev.bind hS .done))),Ev.bind (b:=true) (Ev.tt e2 (.now (congrArg some d2))) (Ev.tt rfl (Ev.bindN (b:=w1) rfl (Ev.bind hI (Ev.bindN qkP .done)))),oS,oI,by simp,⟨by simp,rfl⟩,fun L v hv ht hor=>?_⟩
    obtain ⟨_,_,ew⟩:=hcan (eL (kindS w0) v L) hv hp ht
    injection ew with _ ew
    injection ew with ew _
    obtain ⟨_,v0,v1⟩:=qc1 hv
    have ew':w1=decT v:=ew
    subst ew'
    have a:=hS.uniq (qnk v0 v1)
    have c:=hI.uniq (qoZ v0 v1)
    rw [a,c]
 have hi3:i3≤(w0::rest).length:=hdr.1
 obtain ⟨eS,hLS⟩:=qm1 (b:=b) hg (ws:=w0::rest) (by omega) ((w0::rest).length-i3) i3 ⟨[],[],[]⟩ (by omega) (by simp)
 rw [hdr.2] at hLS
 have oE:=okE (kindS w0) vS l okk ovS (by omega)
 have oEI:=okE kI vI l okki ovI (by omega)
 have sHead:∀ {R:qa × Bool},Ev (fun n=>bif (s.toList==(⟨#[]⟩:ByteArray).toList) then some (zE,false) else (qcn n b (eL (kindS w0) vS (lsts g l ⟨[],[],[]⟩))).bind fun r3=>bif (r3.toList != s.toList) then some (zE,false) else some (eL (kindS w0) vS (lsts g l ⟨[],[],[]⟩),true)) R→Ev (fun n=>qdi n b s) R:=fun hR=>by
  unfold qdi
  refine Ev.bind sS (Ev.bindN (b:=w0) rfl (Ev.bind sKind ?_))
  exact Ev.congr (fun n=>(Option.bind_assoc _ _ _).symm) (Ev.bind sV (Ev.bind hLS hR))
 have iParse:blockB b=true→∀ V:Tview,V.Bd=b→Ev (fun n=>qcE n (some V) (w0::rest)) (eL kI vI (lsts g l ⟨[],[],[]⟩)):=fun h V hV=>by
  have hgi:∀ name,Ev (fun n=>qa1 n b.Aa b.Ac name) (g name):=fun name=>by rw [hgb h];exact qoF hok h
  obtain ⟨eI,hLI⟩:=qpt (b:=b) hgi (V:=V) hV (ws:=l) (by omega) l.length 0 ⟨[],[],[]⟩ (by omega) (jf _)
  rw [List.drop_zero] at hLI
  unfold qcE
  refine Ev.bindN (b:=w0) rfl (Ev.bind ki (Ev.bindN qkP ?_))
  exact Ev.congr (fun n=>(Option.bind_assoc _ _ _).symm) (Ev.bind iV (Ev.bind hLI .done))
 cases h:blockB b
 ·refine ⟨(zE,false),sHead ?_,?_,by decide⟩
  ·have sT:=qk2 (b:=b) hok oE
   rw [h] at sT
   by_cases hs0:s=⟨#[]⟩
   ·exact Ev.tt (by rw [qV];exact decide_eq_true hs0) .done
   ·refine Ev.ff (by rw [qV];exact decide_eq_false hs0) (Ev.bind sT (Ev.tt ?_ .done))
    rw [bne,qV,decide_eq_false (fun e=>hs0 e.symm)]
    rfl
  ·have i1:=qh8 hok
   rw [h] at i1
   unfold qcs
   exact Ev.bind i1 (Ev.tt rfl .done)
 ·obtain ⟨ls,lo,de,ev⟩:=qjw h
  obtain ⟨R,hRs,hRi,hw⟩:=qqQ (b:=b) (s:=s) (V:=⟨b,places b.Aa,ls,lo,de,[]⟩) hok h rfl rfl oE oEI hk (hval _)
  refine ⟨R,sHead hRs,?_,hw⟩
  have i1:=qh8 hok
  rw [h] at i1
  unfold qcs
  refine Ev.bind i1 (Ev.ff rfl (Ev.bind ev ?_))
  simp only [iS,je]
  exact Ev.bind (iParse h _ rfl) hRi
end Go.Fw


namespace Go.Fw
open Go
set_option maxRecDepth 100000
theorem qhV {s:ByteArray} (h:nameB s=true):(∀ x,x ∈ s.data.toList→letB x.toNat=true∨digB x.toNat=true)∧s.size≤8:=by
 unfold nameB at h
 simp only [jh,decide_eq_true_eq] at h
 refine ⟨fun x hx=>?_,h.1.2⟩
 obtain ⟨j,hj,rfl⟩:=List.mem_iff_getElem.1 hx
 have hs:s.data.toList.length=s.size:=jN
 have:=qai.1 h.2 j (by omega)
 unfold chB bt at this
 rw [jx,jm hj,Option.getD_some] at this
 simp only [Bool.or_eq_true,jh] at this
 exact this.imp id fun h=>h.1
theorem qhi {s:ByteArray} (h:nameB s=true) (c:UInt8) (hc:c.toNat=32∨c.toNat=47):∀ x,x ∈ s.data.toList→x ≠ c:=by
 rintro x hx rfl
 have:=(qhV h).1 x hx
 unfold letB digB at this
 simp only [jh,decide_eq_true_eq] at this
 omega
theorem qkh {xs:List ByteArray} (h:namesB xs=true) {i j:Nat} (hi:i<xs.length) (hj:j<xs.length) (e:strAt xs i=strAt xs j):i=j:=by
 unfold namesB at h
 have key:∀ a b,a<b→b<xs.length→strAt xs a ≠ strAt xs b:=fun a b hab hb e=>by
  have h1:=qai.1 h b hb
  rw [jh] at h1
  have h2:=qai.1 h1.2 a hab
  unfold neB at h2
  rw [decide_eq_true e] at h2
  cases h2
 rcases Nat.lt_trichotomy i j with h1|h1|h1
 ·exact absurd e (key i j h1 hj)
 ·exact h1
 ·exact absurd e.symm (key j i h1 hi)
theorem qfA {xs:List ByteArray} (h:namesB xs=true) {i:Nat} (hi:i<xs.length):nameB (strAt xs i)=true:=by
 unfold namesB at h
 have h1:=qai.1 h i hi
 rw [jh] at h1
 exact h1.1
theorem qcr {α:Type} [Inhabited α] {f:α→ByteArray} {xs:List α} {i:Nat} (hi:i<xs.length):strAt (xs.map f) i=f (gt xs i):=by
 rw [qiz (by simpa using hi),List.getElem_map,qgE hi]
theorem qlO {l:qj} {d:qg} (h:designB l d=true):namesB (d.Ab.map qu.As)=true∧namesB (d.Af.map qac.As)=true:=by
 unfold designB hasNamesB at h
 simp only [jh] at h
 exact ⟨h.1.2.2.1,h.1.2.2.2.2⟩
theorem qi2 {c:qr} (h:cellB c=true):namesB (c.Aq.map qaa.As)=true:=by
 unfold cellB pinsB at h
 simp only [jh] at h
 exact h.2.1.2.2
theorem nm1 {b:qc} {i k:Nat}:(nmP b (place1 b.Aa i k)).data.toList=(gt b.Aa.Ab i).As.data.toList++47::(gt (gt b.Ac.Ai (gt b.Aa.Ab i).Ba.toNat).Aq k).As.data.toList:=by
 have hneg:decide ((place1 b.Aa i k).instance_<0)=false:=decide_eq_false (by show ¬ ((i:Int)<0);omega)
 unfold nmP cellAt
 rw [hneg]
 simp only [cond_false,place1,jz,qhy,jI]
 rfl
theorem nm2 {b:qc} {i:Nat}:nmP b (place2 b.Aa i)=(gt b.Aa.Af i).As:=by
 have hneg:decide ((place2 b.Aa i).instance_<0)=true:=decide_eq_true (show (-1:Int)<0 by decide)
 unfold nmP
 rw [hneg]
 simp only [cond_true,place2,jz]
theorem qo1 {a b:ByteArray} (h:a.data.toList=b.data.toList):a=b:=ByteArray.ext (Array.toList_inj.1 h)
theorem qol {a r a' r':List UInt8} (ha:∀ x,x ∈ a→x ≠ 47) (ha':∀ x,x ∈ a'→x ≠ 47) (hr:∀ x,x ∈ r→x ≠ 47) (hr':∀ x,x ∈ r'→x ≠ 47) (e:a++47::r=a'++47::r'):a=a'∧r=r':=by
 have e2:=congrArg (sp1 47) e
 obtain ⟨t,ht⟩:=qk6 (r:=[]) hr (.inl rfl)
 obtain ⟨t',ht'⟩:=qk6 (r:=[]) hr' (.inl rfl)
 rw [jR] at ht ht'
 rw [qi6 _ _ ha,qi6 _ _ ha',ht,ht'] at e2
 injection e2 with e3 e4
 injection e4 with e4 _
 exact ⟨e3,e4⟩
theorem qq9 {b:qc} (h:designB b.Ac b.Aa=true) {j:Nat} (hj:j<(places b.Aa).length):(∀ x,x ∈ (nmP b (gt (places b.Aa) j)).data.toList→x ≠ 32)∧(nmP b (gt (places b.Aa) j)).size≤17:=by
 obtain ⟨hI,hP⟩:=qlO h
 rcases qc0 hj with ⟨i,k,hi,hk,_,e⟩|⟨i,hi,_,e⟩
 ·obtain ⟨_,hn,hc⟩:=qfa h hi
  have n1:=qfA hI (i:=i) (by simpa using hi)
  have n2:=qfA (qi2 hc) (i:=k) (by simpa using (by omega:k<(gt b.Ac.Ai (gt b.Aa.Ab i).Ba.toNat).Aq.length))
  rw [qcr hi] at n1
  rw [qcr (by omega)] at n2
  rw [e]
  have e1:=nm1 (b:=b) (i:=i) (k:=k)
  constructor
  ·rw [e1]
   intro x hx
   rcases List.mem_append.1 hx with hx|hx
   ·exact qhi n1 32 (.inl rfl) x hx
   ·rcases List.mem_cons.1 hx with rfl|hx
    ·decide
    ·exact qhi n2 32 (.inl rfl) x hx
  ·have q1:=(qhV n1).2
   have q2:=(qhV n2).2
   have l1:=congrArg List.length e1
   rw [jg,jv] at l1
   have a1:∀ s:ByteArray,s.data.toList.length=s.size:=fun s=>jN
   simp only [a1] at l1
   omega
 ·have n1:=qfA hP (i:=i) (by simpa using hi)
  rw [qcr hi] at n1
  rw [e,nm2]
  exact ⟨qhi n1 32 (.inl rfl),by have:=(qhV n1).2;omega⟩
theorem qqD {b:qc} (h:designB b.Ac b.Aa=true) {i j:Nat} (hi:i<(places b.Aa).length) (hj:j<(places b.Aa).length) (e:nmP b (gt (places b.Aa) i)=nmP b (gt (places b.Aa) j)):i=j:=by
 obtain ⟨hI,hP⟩:=qlO h
 have nI:∀ i,i<b.Aa.Ab.length→nameB (gt b.Aa.Ab i).As=true:=fun i hi=>by
  have:=qfA hI (i:=i) (by simpa using hi)
  rwa [qcr hi] at this
 have nP:∀ i,i<b.Aa.Af.length→nameB (gt b.Aa.Af i).As=true:=fun i hi=>by
  have:=qfA hP (i:=i) (by simpa using hi)
  rwa [qcr hi] at this
 have mix:∀ i k i',i'<b.Aa.Af.length→nmP b (place1 b.Aa i k) ≠ nmP b (place2 b.Aa i'):=fun i k i' hi' e=>by
  have e1:=congrArg (fun s:ByteArray=>s.data.toList) e
  simp only [nm1,nm2] at e1
  exact qhi (nP i' hi') 47 (.inr rfl) 47 (by rw [←e1];simp) rfl
 rcases qc0 hi with ⟨i1,k1,hi1,hk1,ej1,e1⟩|⟨i1,hi1,ej1,e1⟩<;>rcases qc0 hj with ⟨i2,k2,hi2,hk2,ej2,e2⟩|⟨i2,hi2,ej2,e2⟩
 ·rw [e1,e2] at e
  have e3:=congrArg (fun s:ByteArray=>s.data.toList) e
  simp only [nm1] at e3
  obtain ⟨_,hn1,hc1⟩:=qfa h hi1
  obtain ⟨_,hn2,hc2⟩:=qfa h hi2
  have p1:nameB (gt (gt b.Ac.Ai (gt b.Aa.Ab i1).Ba.toNat).Aq k1).As=true:=by
   have:=qfA (qi2 hc1) (i:=k1) (by rw [jy];omega)
   rwa [qcr (by omega)] at this
  have p2:nameB (gt (gt b.Ac.Ai (gt b.Aa.Ab i2).Ba.toNat).Aq k2).As=true:=by
   have:=qfA (qi2 hc2) (i:=k2) (by rw [jy];omega)
   rwa [qcr (by omega)] at this
  obtain ⟨a1,a2⟩:=qol (qhi (nI i1 hi1) 47 (.inr rfl)) (qhi (nI i2 hi2) 47 (.inr rfl)) (qhi p1 47 (.inr rfl)) (qhi p2 47 (.inr rfl)) e3
  have:i1=i2:=qkh hI (by simpa using hi1) (by simpa using hi2) (by rw [qcr hi1,qcr hi2];exact qo1 a1)
  subst this
  have:k1=k2:=qkh (qi2 hc1) (by rw [jy];omega) (by rw [jy];omega) (by rw [qcr (by omega),qcr (by omega)];exact qo1 a2)
  omega
 ·rw [e1,e2] at e
  exact absurd e (mix i1 k1 i2 hi2)
 ·rw [e1,e2] at e
  exact absurd e.symm (mix i2 k2 i1 hi1)
 ·rw [e1,e2,nm2,nm2] at e
  have:i1=i2:=qkh hP (by simpa using hi1) (by simpa using hi2) (by rw [qcr hi1,qcr hi2];exact e)
  omega
theorem qpu {b:qc} (h:designB b.Ac b.Aa=true) {j:Nat} (hj:j<(places b.Aa).length):namedB b (nmP b (gt (places b.Aa) j))=(j:Int):=by
 unfold namedB
 refine qnO hj (by simp) fun i hi e=>?_
 rw [qV,decide_eq_true_eq] at e
 exact qqD h hi hj e
def jn (ws:List (List UInt8)):List UInt8:=ws.flatMap fun w=>32::w
theorem qoR (a b:List (List UInt8)):jn (a++b)=jn a++jn b:=by unfold jn;rw [List.flatMap_append]
theorem qnT {c:UInt8}:∀ a:List UInt8,(∀ x,x ∈ a→x ≠ c)→sp1 c a=[a]
 | [],_=>rfl
 | b::a,h=>by
  have ih:=qnT a fun x hx=>h x (jk _ hx)
  simp only [sp1,if_neg (h b (jq ..)),ih,consH]
theorem qpf:∀ (ws:List (List UInt8)) (a:List UInt8),(∀ x,x ∈ a→x ≠ 32)→(∀ w,w ∈ ws→∀ x,x ∈ w→x ≠ 32)→sp1 32 (a++jn ws)=a::ws
 | [],a,h,_=>by
  have:a++jn []=a:=jR a
  rw [this,qnT a h]
 | w::ws,a,h,hw=>by
  have e:a++jn (w::ws)=a++32::(w++jn ws):=rfl
  rw [e,qi6 _ _ h,qpf ws w (hw w (jq ..)) fun v hv=>hw v (jk _ hv)]
theorem qoN:∀ (ws:List (List UInt8)),(∀ w,w ∈ ws→w.length≤32)→(jn ws).length≤ws.length*33
 | [],_=>jf _
 | w::ws,h=>by
  have e:jn (w::ws)=32::(w++jn ws):=rfl
  have ih:=qoN ws fun v hv=>h v (jk _ hv)
  have:=h w (jq ..)
  rw [e,jv,jg,jv]
  omega
noncomputable def wdL (b:qc) (w:ByteArray) (xs:List Int):Nat→List ByteArray
 | 0=>[]
 | j+1=>wdL b w xs j++[w,nmP b (gt (places b.Aa) (at0 xs j).toNat)]
def ll (xs:List ByteArray):List (List UInt8):=xs.map fun s=>s.data.toList
theorem qmA {b:qc} {w ww:ByteArray} {xs:List Int} (hw:ww.data.toList=32::w.data.toList++[32]):∀ j,(wds b ww xs j).data.toList=jn (ll (wdL b w xs j))
 | 0=>rfl
 | j+1=>by
  have e:jn (ll [w,nmP b (gt (places b.Aa) (at0 xs j).toNat)])=ww.data.toList++(nmP b (gt (places b.Aa) (at0 xs j).toNat)).data.toList:=by
   rw [hw]
   simp [jn,ll]
  have e2:ll (wdL b w xs (j+1))=ll (wdL b w xs j)++ll [w,nmP b (gt (places b.Aa) (at0 xs j).toNat)]:=List.map_append
  simp only [wds,qhy]
  rw [qmA hw j,e2,qoR,e]
theorem qh7 {b:qc} (h:designB b.Ac b.Aa=true) {w:ByteArray} {xs:List Int} (hp:allN (fun j=>inPl b (at0 xs j)) xs.length=true):∀ j,j≤xs.length→(wdL b w xs j).length=2*j∧∀ v,v ∈ wdL b w xs j→v=w∨(∀ x,x ∈ v.data.toList→x ≠ 32)∧v.size≤17
 | 0,_=>⟨rfl,fun v hv=>by cases hv⟩
 | j+1,hj=>by
  obtain ⟨hl,hm⟩:=qh7 h (w:=w) hp j (by omega)
  have hx:=qbv.1 (qai.1 hp j (by omega))
  refine ⟨?_,fun v hv=>?_⟩
  ·simp only [wdL,jg,hl,jv,List.length_nil];omega
  ·simp only [wdL] at hv
   rcases List.mem_append.1 hv with hv|hv
   ·exact hm v hv
   ·simp only [jM,jA,or_false] at hv
    rcases hv with rfl|rfl
    ·exact .inl rfl
    ·exact .inr (qq9 h (by omega))
theorem qjC {g:ByteArray→Int}:∀ (m:Nat) (l r:List ByteArray) (a:Lst),l.length=2*m→lsts g (l++r) a=lsts g r (lsts g l a)
 | 0,l,r,a,h=>by
  obtain rfl:l=[]:=List.length_eq_zero_iff.1 (by omega)
  rfl
 | m+1,l,r,a,h=>by
  match l,h with
  | w::v::l,h =>
   simp only [jv] at h
   have ih:=qjC (g:=g) m l r (stepL g a w v) (by omega)
   show lsts g (l++r) (stepL g a w v)=lsts g r (lsts g l (stepL g a w v))
   exact ih
theorem qkN {b:qc} (h:designB b.Ac b.Aa=true) {w:ByteArray} {xs:List Int} (hp:allN (fun j=>inPl b (at0 xs j)) xs.length=true) {st:Lst→List Int→Lst} (h0:∀ a,st a []=a) (h1:∀ a l v,stepL (namedB b) (st a l) w v=st a (l++[namedB b v])) (a:Lst) :
  ∀ j,j≤xs.length→lsts (namedB b) (wdL b w xs j) a=st a (xs.take j)
 | 0,_=>(h0 a).symm
 | j+1,hj=>by
  have ih:=qkN h hp h0 h1 a j (by omega)
  have hx:=qbv.1 (qai.1 hp j (by omega))
  have hl:=(qh7 h (w:=w) hp j (by omega)).1
  have hv:=qpu h (j:=(at0 xs j).toNat) (by omega)
  have ht:xs.take (j+1)=xs.take j++[at0 xs j]:=by rw [qo6 (by omega)];exact List.take_succ_eq_append_getElem (by omega)
  simp only [wdL]
  rw [qjC j _ _ _ hl,ih,ht]
  show stepL (namedB b) (st a (xs.take j)) w _=_
  rw [h1,hv,←qh3 hx.1]
theorem qqT {g:ByteArray→Int} {a:Lst} {v:ByteArray}:stepL g a wF v=⟨a.f++[g v],a.t,a.o⟩:=by
 unfold stepL
 have:(wF.toList==wF.toList)=true:=beq_self_eq_true _
 rw [this]
 rfl
theorem qqv {g:ByteArray→Int} {a:Lst} {v:ByteArray}:stepL g a wT v=⟨a.f,a.t++[g v],a.o⟩:=by
 unfold stepL
 have h1:(wT.toList==wF.toList)=false:=by rw [qV];decide
 have:(wT.toList==wT.toList)=true:=beq_self_eq_true _
 rw [h1,this]
 rfl
theorem qqF {g:ByteArray→Int} {a:Lst} {v:ByteArray}:stepL g a wO' v=⟨a.f,a.t,a.o++[g v]⟩:=by
 unfold stepL
 have h1:(wO'.toList==wF.toList)=false:=by rw [qV];decide
 have h2:(wO'.toList==wT.toList)=false:=by rw [qV];decide
 have:(wO'.toList==wO'.toList)=true:=beq_self_eq_true _
 rw [h1,h2,this]
 rfl
noncomputable def wdE (b:qc) (e:qa):List ByteArray:=wdL b wF e.Au e.Au.length++(wdL b wT e.Ap e.Ap.length++wdL b wO' e.To e.To.length)
theorem qpi {b:qc} {e:qa} (h:designB b.Ac b.Aa=true) (he:excB b e=true):lsts (namedB b) (wdE b e) ⟨[],[],[]⟩=⟨e.Au,e.Ap,e.To⟩:=by
 obtain ⟨p1,p2,p3,hv⟩:=qeU he
 unfold plsB at p1 p2 p3
 simp only [jh,decide_eq_true_eq] at p1 p2 p3
 have l1:=(qh7 h (w:=wF) p1.2 _ (jf _)).1
 have l2:=(qh7 h (w:=wT) p2.2 _ (jf _)).1
 unfold wdE
 rw [qjC _ _ _ _ l1,qjC _ _ _ _ l2]
 rw [qkN h p1.2 (st:=fun a l=>⟨a.f++l,a.t,a.o⟩) (fun a=>by simp) (fun a l v=>by rw [qqT];simp) _ _ (jf _)]
 rw [qkN h p2.2 (st:=fun a l=>⟨a.f,a.t++l,a.o⟩) (fun a=>by simp) (fun a l v=>by rw [qqv];simp) _ _ (jf _)]
 rw [qkN h p3.2 (st:=fun a l=>⟨a.f,a.t,a.o++l⟩) (fun a=>by simp) (fun a l v=>by rw [qqF];simp) _ _ (jf _)]
 simp
theorem qnY {b:qc} {e:qa} (h:designB b.Ac b.Aa=true) (he:excB b e=true):(wdE b e).length≤24∧∀ v,v ∈ wdE b e→(∀ x,x ∈ v.data.toList→x ≠ 32)∧v.size≤17:=by
 obtain ⟨p1,p2,p3,hv⟩:=qeU he
 unfold plsB at p1 p2 p3
 simp only [jh,decide_eq_true_eq] at p1 p2 p3
 obtain ⟨l1,m1⟩:=qh7 h (w:=wF) p1.2 _ (jf _)
 obtain ⟨l2,m2⟩:=qh7 h (w:=wT) p2.2 _ (jf _)
 obtain ⟨l3,m3⟩:=qh7 h (w:=wO') p3.2 _ (jf _)
 refine ⟨?_,fun v hv=>?_⟩
 ·unfold wdE;simp only [jg,l1,l2,l3];have:=p1.1;have:=p2.1;have:=p3.1;omega
 ·unfold wdE at hv
  rcases List.mem_append.1 hv with hv|hv
  ·rcases m1 v hv with rfl|hv
   ·exact ⟨by decide,by decide⟩
   ·exact hv
  ·rcases List.mem_append.1 hv with hv|hv
   ·rcases m2 v hv with rfl|hv
    ·exact ⟨by decide,by decide⟩
    ·exact hv
   ·rcases m3 v hv with rfl|hv
    ·exact ⟨by decide,by decide⟩
    ·exact hv
noncomputable def hdW (e:qa):List ByteArray:=bif e.Am != 1 then [decT e.Az] else []
theorem qmO {b:qc} {e:qa}:(txtE b e).data.toList=(kwE e.Am).data.toList++jn (ll (hdW e++wdE b e)):=by
 have hd:(headE e).data.toList=(kwE e.Am).data.toList++jn (ll (hdW e)):=by
  unfold headE hdW
  cases (e.Am != 1)
  ·simp [jn,ll]
  ·simp only [cond_true,qhy]
   simp [jn,ll]
 have ap:∀ x y:List ByteArray,ll (x++y)=ll x++ll y:=fun x y=>List.map_append
 unfold txtE
 simp only [qhy]
 rw [hd,qmA (w:=wF) rfl,qmA (w:=wT) rfl,qmA (w:=wO') rfl]
 unfold wdE
 simp only [ap,qoR,jI]
theorem qo5 {b:qc} {e:qa} (h:designB b.Ac b.Aa=true) (he:excB b e=true):(sp1 32 (txtE b e).data.toList).map mkB=kwE e.Am::(hdW e++wdE b e)∧(txtE b e).size≤2000:=by
 obtain ⟨_,_,_,hv⟩:=qeU he
 obtain ⟨hk,h0,h1⟩:=qc1 hv
 obtain ⟨hl,hm⟩:=qnY h he
 have hw:∀ v,v ∈ hdW e++wdE b e→(∀ x,x ∈ v.data.toList→x ≠ 32)∧v.size≤21:=fun v hv=>by
  rcases List.mem_append.1 hv with hv|hv
  ·unfold hdW at hv
   cases hc:(e.Am != 1)<;>rw [hc] at hv
   ·cases hv
   ·obtain rfl:=List.mem_singleton.1 hv
    exact ⟨qpy h0,qhw h0 h1⟩
  ·exact ⟨(hm v hv).1,by have:=(hm v hv).2;omega⟩
 have hlen:(hdW e++wdE b e).length≤25:=by
  rw [jg]
  have:(hdW e).length≤1:=by unfold hdW;cases (e.Am != 1)<;>simp
  omega
 have hs:∀ s:ByteArray,s.data.toList.length=s.size:=fun s=>jN
 constructor
 ·rw [qmO,qpf _ _ (qqk hk) (fun w hw'=>by
   obtain ⟨v,hv,rfl⟩:=List.mem_map.1 hw'
   exact (hw v hv).1)]
  unfold ll
  have:(mkB ∘ fun s:ByteArray=>s.data.toList)=id:=funext fun s=>qm8
  rw [List.map_cons,List.map_map,this,List.map_id,qm8]
 ·have e1:=congrArg List.length (qmO (b:=b) (e:=e))
  have e2:=qoN (ll (hdW e++wdE b e)) (fun w hw'=>by
   obtain ⟨v,hv,rfl⟩:=List.mem_map.1 hw'
   have:=(hw v hv).2
   rw [hs]
   omega)
  have e3:(ll (hdW e++wdE b e)).length=(hdW e++wdE b e).length:=jy _
  have e4:=qjE hk
  rw [jg,hs,hs] at e1
  omega
theorem qpJ {k:Int} (h:1≤k∧k≤4):kindS (kwE k)=k:=by
 obtain ⟨h1,h2⟩:=h
 unfold kindS
 simp only [qV]
 obtain rfl|rfl|rfl|rfl:k=1∨k=2∨k=3∨k=4:=by omega
 all_goals decide
theorem qoc {b:qc} {e:qa} (hok:qaI b) (ok:qan e) (h:blockB b=true) (he:excB b e=true):Ev (fun n=>qdi n b (txtE b e)) (e,true):=by
 have hd:=qae h
 obtain ⟨_,_,_,hv⟩:=qeU he
 obtain ⟨hk,h0,h1⟩:=qc1 hv
 obtain ⟨hsp,hsz⟩:=qo5 hd he
 obtain ⟨hl,_⟩:=qnY hd he
 have sS:=qlJ (s:=txtE b e) (by omega)
 rw [hsp] at sS
 have kk:=qpJ hk
 have sK:∀ w0:ByteArray,Ev (fun _:Nat=>bif (w0.toList==(⟨#[102,97,108,115,101]⟩:ByteArray).toList) then some (1:Int) else bif (w0.toList==(⟨#[99,121,99,108,101,115]⟩:ByteArray).toList) then some 2 else bif (w0.toList==(⟨#[109,97,120]⟩:ByteArray).toList) then some 3 else bif (w0.toList==(⟨#[109,105,110]⟩:ByteArray).toList) then some 4 else some 0) (kindS w0):=fun w0=>by
  unfold kindS
  refine .now ?_
  cases w0.toList==(⟨#[102,97,108,115,101]⟩:ByteArray).toList<;>cases w0.toList==(⟨#[99,121,99,108,101,115]⟩:ByteArray).toList<;>cases w0.toList==(⟨#[109,97,120]⟩:ByteArray).toList<;>cases w0.toList==(⟨#[109,105,110]⟩:ByteArray).toList<;>rfl
 have sKind:=sK (kwE e.Am)
 rw [kk] at sKind
 obtain ⟨i3,sV,hle,hdr⟩:∃ i3:Nat,Ev (fun n=>(bif (e.Am != 1) then some (decide (((kwE e.Am::(hdW e++wdE b e)).length:Int) > 1)) else some false).bind fun b2=>(bif b2 then (idx (kwE e.Am::(hdW e++wdE b e)) 1).bind fun y4=>(qdV n y4).bind fun o=>match o with|(r5,_)=>some (r5,(2:Int)) else some (0,1))) (e.Az,(i3:Int))∧i3≤(kwE e.Am::(hdW e++wdE b e)).length∧(kwE e.Am::(hdW e++wdE b e)).drop i3=wdE b e:=by
  cases hc:(e.Am != 1)
  ·have e1:e.Am=1:=by simpa using hc
   have e2:hdW e=[]:=by unfold hdW;rw [hc];rfl
   have e3:e.Az=0:=by
    unfold valB at hv
    rw [e1] at hv
    simpa using hv
   rw [e2,e3]
   exact ⟨1,Ev.bind (b:=false) (.now rfl) (Ev.ff rfl .done),by simp,rfl⟩
  ·have e2:hdW e=[decT e.Az]:=by unfold hdW;rw [hc];rfl
   rw [e2]
   refine ⟨2,Ev.bind (b:=true) (.now ?_) (Ev.tt rfl (Ev.bindN (b:=decT e.Az) rfl (Ev.bind (qnk h0 h1) .done))),by simp,rfl⟩
   exact congrArg some (decide_eq_true (by simp only [jv,jg];omega))
 have hlen:(kwE e.Am::(hdW e++wdE b e)).length≤2000000:=by
  have:(hdW e).length≤1:=by unfold hdW;cases (e.Am != 1)<;>simp
  simp only [jv,jg]
  omega
 obtain ⟨eS,hLS⟩:=qm1 (b:=b) (fun name=>qlN hok hd) (ws:=kwE e.Am::(hdW e++wdE b e)) hlen ((kwE e.Am::(hdW e++wdE b e)).length-i3) i3 ⟨[],[],[]⟩ (by omega) (by simp)
 rw [hdr,qpi hd he] at hLS
 have sT:=qk2 hok ok
 rw [h,he] at sT
 have hne:=qnd (b:=b) hv
 unfold qdi
 refine Ev.bind sS (Ev.bindN (b:=kwE e.Am) rfl (Ev.bind sKind ?_))
 refine Ev.congr (fun n=>(Option.bind_assoc _ _ _).symm) (Ev.bind sV (Ev.bind hLS ?_))
 refine Ev.ff (by rw [qV];exact decide_eq_false hne) (Ev.bind sT (Ev.ff ?_ .done))
 rw [bne,qV]
 simp
theorem qpl {b:qc} {e:qa} (hok:qaI b) (ok:qan e) (h:blockB b=true) (he:excB b e=true):Ev (fun n=>qcs n b (txtE b e)) (e,true)∧(txtE b e).size≤2000:=by
 obtain ⟨_,hsz⟩:=qo5 (qae h) he
 obtain ⟨R,h1,h2,_⟩:=qj4 (b:=b) (s:=txtE b e) hok (by omega)
 rw [h1.uniq (qoc hok ok h he)] at h2
 exact ⟨h2,hsz⟩
end Go.Fw


namespace Go.Fw
open Go Go.Proofs
open Go.RowKit (Below)
set_option maxRecDepth 100000
set_option maxHeartbeats 6400000
variable {n:Nat} {w:World} {cs1 cs2 cs3 cs4 cs5 cs6 cs7 cs8 cs9:List Value}
def qeL (a_e:qa):Nat→Int→Int→Option (Int × Int)
 | 0,_,_=>none
 | n+1,i1,i2 =>
  bif decide (i2<((3:Nat):Int)) then
   (idx ([a_e.Ap,a_e.To,a_e.Au]:List (List Int)) i2).bind fun y1 =>
   bif decide ((y1.length:Int) > 0) then
    (shlS 1 i2).bind fun y2 =>
    qeL a_e n (W64 (i1+y2)) (W64 (i2+1))
   else
    qeL a_e n i1 (W64 (i2+1))
  else
   some (i1,i2)
def qhj (n:Nat) (a_e:qa):Option Int :=
 (qeL a_e n 0 0).bind fun o=>match o with
 | (i1,_) =>
  some i1
theorem qlk {a_e:qa} (ha1:GoT.R w (old w) a_e cs1) {r:Int} (hF:qhj n a_e=some r):RetV Tryz.prog 20 [GoT.v qa cs1] w r:=by
 obtain ⟨p1,k1,p2,k2,p3,k3,rfl,s1,s2,s3⟩:=qX ha1
 refine zV 28 Tryz.func20 rfl fun h=>zSR (qO h rfl rfl fun w1 bb1 h=>X3 15 0 0 0 h rfl (qj6 qb [.tmp 7,.tmp 9,.tmp 11] _ ([a_e.Ap,a_e.To,a_e.Au]:List (List Int)) h rfl rfl rfl rfl rfl rfl rfl rfl rfl ⟨⟨_,_,rfl,s2⟩,⟨_,_,rfl,s3⟩,⟨_,_,rfl,s1⟩,trivial⟩ rfl fun w2 p4 S1 h=>X0 3 rfl ?_))
 obtain ⟨o1,hF,hK1⟩:=qe hF
 refine qq ?_
 replace h:=h.pick [0] rfl
 refine rL (fun m e w'=>∃ (i1:Int) (i2:Int),qeL a_e m i1 i2=some o1∧e=[(3,.int .i64 i1),(12,.slice p4 3 3),(13,.int .i64 ((3:Nat):Int)),(14,.int .i64 i2)]∧SH w w' [Ch.rowD w S1 (([a_e.Ap,a_e.To,a_e.Au]:List (List Int)):List (List Int)) p4 3]) n ⟨_,_,hF,rfl,h⟩ rfl ?_
 rintro m1 e1 w3 ⟨i1,i2,hF,rfl,h⟩
 rcases m1 with _|m1
 ·cases hF
 refine X0 5 rfl (qm rfl hF ?_ ?_)<;>intro hF
 ·refine X0 6 rfl ?_
  obtain ⟨y1,hy1,hF⟩:=qe hF
  have he1:=qax hy1
  obtain ⟨b1,o_1,q1,cs2,hp1,hq1,-,hr1,hc2⟩:=h.atD 0 rfl hy1
  obtain ⟨p5,k4,rfl,s4⟩:=hr1
  refine zxe hp1 hq1 he1 rfl (zc 0 hc2 rfl (X0 9 rfl (qm rfl hF ?_ ?_)))<;>intro hF
  ·refine X0 3 rfl ?_
   obtain ⟨y2,hx1,hF⟩:=qe hF
   obtain ⟨g1,hx1⟩:=qi4 hx1
   refine r_v (qn3 g1 rfl rfl) rfl ?_
   rw [hx1]
   exact X0 8 rfl (rK ⟨_,_,hF,rfl,h⟩ rfl)
  exact X0 6 rfl (rK ⟨_,_,hF,rfl,h⟩ rfl)
 refine qy rfl ?_
 obtain rfl:=qd hF;replace hF:=hK1
 exact X0 5 rfl (ri h hF rfl)
def qhp (_:Nat) (a_e:qa):Option Int :=
 (
  bif decide ((a_e.Au.length:Int) > 0) then some (W64 (0+4)) else
  some 0).bind fun i1 =>
 bif decide ((a_e.To.length:Int) > 0) then
  bif decide ((a_e.Ap.length:Int) > 0) then some (W64 ((W64 (i1+2))+1)) else
  some (W64 (i1+2))
 else
  bif decide ((a_e.Ap.length:Int) > 0) then some (W64 (i1+1)) else
  some i1
theorem qli {a_e:qa} (ha1:GoT.R w (old w) a_e cs1) {r:Int} (hF:qhp n a_e=some r):RetV Tryz.prog 21 [GoT.v qa cs1] w r:=by
 obtain ⟨p1,k1,p2,k2,p3,k3,rfl,s1,s2,s3⟩:=qX ha1
 refine zV 23 Tryz.func21 rfl fun h=>zSR (qO h rfl rfl fun w1 bb1 h=>X1 14 0 h rfl ?_)
 obtain ⟨KF1,hKF1,o1,hF,hK1⟩:=bindE hF
 refine qa2 (fun e w'=>∃ (i1:Int),KF1 i1=some r∧e=[(1,.pointer (some ⟨bb1,0,none⟩)),(3,.int .i64 i1)]∧SH w w' [Ch.box bb1 (qbo a_e p1 p2 p3 k1 k2 k3) 50]) ?_ ?_
 ·refine qm rfl hF ?_ ?_<;>intro hF
  ·refine X0 5 rfl ?_
   obtain rfl:=qd hF
   exact rG ⟨_,hK1,rfl,h⟩ rfl
  refine qcV ?_
  obtain rfl:=qd hF
  exact rG ⟨_,hK1,rfl,h⟩ rfl
 rintro e1 w2 ⟨i1,hF,rfl,h⟩
 subst hKF1
 refine X1 8 0 h rfl (qm rfl hF ?_ ?_)<;>intro hF
 ·refine X1 13 0 h rfl (qm rfl hF ?_ ?_)<;>intro hF
  ·exact X0 10 rfl (ri h hF rfl)
  exact X0 6 rfl (ri h hF rfl)
 refine X1 9 0 h rfl (qm rfl hF ?_ ?_)<;>intro hF
 ·exact X0 10 rfl (ri h hF rfl)
 exact X0 6 rfl (ri h hF rfl)
def qkT (_:Nat) (code:(List (IntK .u8))):Option Bool :=
 some (decide ((code.length:Int) > 4096))
theorem qni {code:(List (IntK .u8))} (ha1:GoT.R w (old w) code cs1) {r:Bool} (hF:qkT n code=some r):RetV Tryz.prog 14 [GoT.v (List (IntK .u8)) cs1] w r:=by
 obtain ⟨p1,k1,rfl,s1⟩:=ha1
 exact zV 6 Tryz.func14 rfl fun h=>X0 11 rfl (rb h hF rfl)
def qfd (n:Nat) (b:qc) (a_e:qa):Option Bool :=
 (qff n b).bind fun r1 =>
 bif r1 then
  (qfb n b).bind fun r2 =>
  (qaO n r2 a_e).bind fun r3 =>
  some r3
 else
  some false
theorem qjc {b:qc} {a_e:qa} (ha1:GoT.R w (old w) b cs1) (ha2:GoT.R w (old w) a_e cs2) {r:Bool} (hF:qfd n b a_e=some r):RetV Tryz.prog 17 [GoT.v qc cs1,GoT.v qa cs2] w r:=by
 obtain ⟨p1,k1,p2,k2,p3,k3,p4,k4,p5,k5,rfl,s1,s2,s3,s4,s5⟩:=qT ha1
 obtain ⟨p6,k6,p7,k7,p8,k8,rfl,s6,s7,s8⟩:=qX ha2
 refine zV 13 Tryz.func17 rfl fun h=>zSR (qO h rfl rfl fun w1 bb1 h=>qO h rfl rfl fun w2 bb2 h=>X0 3 rfl (rA [] [0,1] h rfl fun w3 h=>M1 1 [0] 1 (h.pick [0,1] rfl) rfl (Ao 1 3 rfl (zcB h hF (qgw (h.old ha1)) rfl fun r1 w4 h hF=>G0 7 [2] (h.pick [0,1] rfl) rfl (qn4 (t:=7) hF rfl ?_ ?_)))))<;>intro hF
 ·refine qgf 3 rfl (by kernel_rfl) (bits 9 15) (by kernel_rfl) (by kernel_rfl) (fun w' hw=>qeJ qb (hw.box 1 rfl) (j:=0) rfl rfl rfl) (h.pick [0,1] rfl) rfl (qgf 5 rfl (by kernel_rfl) (bits 9 47) (by kernel_rfl) (by kernel_rfl) (fun w' hw=>qeJ qb (hw.box 0 rfl) (j:=0) rfl rfl rfl) (h.pick [0,1] rfl) rfl (Ao 4 63 rfl (X0 1 rfl ?_)))
  have hg1:Rg (old w) w (old w) w:=.start (fun _ h=>h)
  obtain ⟨r2,hr2,hF⟩:=qe hF
  refine ql6 r2 hg1 h (cB 37 rfl) (qgx (hg1.regOld h) (hg1.inR h ha1) hr2) rfl rfl rfl rfl fun w5 us1 B1 hg2 hu1 hz1 hv1=>?_
  have hL1:=h.ext hu1.below
  have s9:=Up.S hg1 h hu1 s6
  have s10:=Up.S hg1 h hu1 s7
  have s11:=Up.S hg1 h hu1 s8
  have s12:=Up.R hg1 h hu1 ha2
  have hb1:=h.below.trans (hu1.below.mono h.below.size)
  have hC1:=((h.pick [0,1] rfl)).ext hu1.below
  replace h:=hz1
  obtain ⟨cs3,rfl,hr3⟩:=qh2 hv1
  obtain ⟨p9,rfl,s13⟩:=qhO hr3
  refine qdR (fun _=>(hC1.ext h.below)) (Ao 6 127 rfl (X0 1 rfl (zcB h hF (qdU (h.old (GoT.mono s13 hg2.old)) (h.old (GoT.mono s12 hg2.old))) rfl fun r3 w6 h hF=>qdR (fun _=>(hC1.ext h.below)) (qjm 7 rfl (bits 9 255) (by kernel_rfl) (by kernel_rfl) (fun w' hw=>v_p qb rfl w') (hC1.ext h.below) rfl (qjm 8 rfl (bits 9 511) (by kernel_rfl) (by kernel_rfl) (fun w' hw=>v_p qb rfl w') (hC1.ext h.below) rfl (Ad ?_))))))
  replace h:=h.unbase hg2.below (show NoD [] from trivial)
  exact rb h hF rfl
 exact qhm 3 rfl (by kernel_rfl) rfl (bits 9 15) (by kernel_rfl) (by kernel_rfl) (h.pick [0,1] rfl) rfl (qhm 4 rfl (by kernel_rfl) rfl (bits 9 31) (by kernel_rfl) (by kernel_rfl) (h.pick [0,1] rfl) rfl (qhm 5 rfl (by kernel_rfl) rfl (bits 9 63) (by kernel_rfl) (by kernel_rfl) (h.pick [0,1] rfl) rfl (qhm 6 rfl (by kernel_rfl) rfl (bits 9 127) (by kernel_rfl) (by kernel_rfl) (h.pick [0,1] rfl) rfl (M0 511 [7,8] (h.pick [0,1] rfl) rfl (Ad (rb h hF rfl))))))
def qdb (a:(List Int)) (b:(List Int)):Nat→Int→Option (Flow Bool Int)
 | 0,_=>none
 | n+1,i1 =>
  bif decide (i1<(a.length:Int)) then
   (idx a i1).bind fun y1 =>
   (idx b i1).bind fun y2 =>
   bif (y1 != y2) then some (.ret false) else
   qdb a b n (W64 (i1+1))
  else
   some (.nxt i1)
def qew (n:Nat) (a:(List Int)) (b:(List Int)):Option Bool :=
 bif ((a.length:Int) != (b.length:Int)) then some false else
 (qdb a b n 0).bind fun o=>match o with
 | .ret r=>some r
 | .nxt _ =>
  some true
theorem qf9 {a:(List Int)} {b:(List Int)} (ha1:GoT.R w (old w) a cs1) (ha2:GoT.R w (old w) b cs2) {r:Bool} (hF:qew n a b=some r):RetV Tryz.prog 19 [GoT.v (List Int) cs1,GoT.v (List Int) cs2] w r:=by
 obtain ⟨p1,k1,rfl,s1⟩:=ha1
 obtain ⟨p2,k2,rfl,s2⟩:=ha2
 refine zV 26 Tryz.func19 rfl fun h=>X0 13 rfl (qm rfl hF ?_ ?_)<;>intro hF
 ·exact X0 4 rfl (rb h hF rfl)
 refine X0 6 rfl ?_
 obtain ⟨o1,hF,hK1⟩:=qe hF
 refine qq (rL (fun m e w'=>∃ (i1:Int),qdb a b m i1=some o1∧e=[(0,.slice p1 a.length k1),(1,.slice p2 b.length k2),(5,.int .i64 i1)]∧SH w w' []) n ⟨_,hF,rfl,h⟩ rfl ?_)
 rintro m1 e1 w1 ⟨i1,hF,rfl,h⟩
 rcases m1 with _|m1
 ·cases hF
 refine X0 8 rfl (qm rfl hF ?_ ?_)<;>intro hF
 ·refine X0 4 rfl (rD (zd2 rfl ?_))
  obtain ⟨y1,hy1,hF,he1,b1,_,q1,cs3,hp1,hq1,rfl,hc3⟩:=s1.ix hF
  refine zdxe hp1 hq1 he1 rfl (zdc 0 (hc3.below h.below) rfl (zd2 rfl ?_))
  obtain ⟨y2,hy2,hF,he2,b2,_,q2,cs4,hp2,hq2,rfl,hc4⟩:=s2.ix hF
  refine zdxe hp2 hq2 he2 rfl (zdc 0 (hc4.below h.below) rfl (zd1 rfl (dN h fun w2 h=>qm rfl hF ?_ ?_)))<;>intro hF
  ·refine X0 4 rfl ?_
   obtain rfl:=qd hF;replace hF:=hK1
   exact rb h hF rfl
  exact X0 7 rfl (rK ⟨_,hF,rfl,h⟩ rfl)
 refine qy rfl ?_
 obtain rfl:=qd hF;replace hF:=hK1
 exact X0 4 rfl (rb h hF rfl)
def qeS (n:Nat) (a_0:(List (IntK .u8))):Option Bool :=
 (qkT n a_0).bind fun r1 =>
 bif r1 then some true else
 (qbW n a_0).bind fun o=>match o with
  | (r3,r4) =>
   (qej n r3 r4).bind fun r5 =>
   (qbW n a_0).bind fun o=>match o with
    | (r7,r8) =>
     (qea n r7 r8).bind fun r9 =>
     bif (!r9) then
      (
       bif (r5.toList==(⟨#[]⟩:ByteArray).toList) then
        (qfd n r7 r8).bind fun r10 =>
        some (!r10)
       else
        some false).bind fun b1 =>
      some b1
     else
      (qcs n r7 r5).bind fun o=>match o with
       | (r12,r13) =>
        bif r13 then
         bif (r12.Am==r8.Am) then
          bif (r12.Az==r8.Az) then
           (qew n r12.Au r8.Au).bind fun r14 =>
           bif r14 then
            (qew n r12.Ap r8.Ap).bind fun r15 =>
            bif r15 then
             (qew n r12.To r8.To).bind fun r16 =>
             bif r16 then
              (qhj n r12).bind fun r17 =>
              (qhp n r8).bind fun r18 =>
              some (r17==r18)
             else
              some false
            else
             some false
           else
            some false
          else
           some false
         else
          some false
        else
         some false
theorem qhR {a_0:(List (IntK .u8))} (ha1:GoT.R w (old w) a_0 cs1) (hgv0:GV 0 (exWords.map Value.string) w (old w)) (hgv1:GVE 1 isIntC w (old w)) (hgv2:GV 2 (Lib.pow10Tab.map (Value.int .u64)) w (old w)) (hgv3:GVE 3 isErrC w (old w)) (hgv4:GVE 4 isErrC w (old w)) {r:Bool} (hF:qeS n a_0=some r):RetV Tryz.prog 4 [GoT.v (List (IntK .u8)) cs1] w r:=by
 obtain ⟨p1,k1,rfl,s1⟩:=ha1
 refine zV 84 Tryz.func4 rfl fun h=>X0 8 rfl (zcB h hF (qni ⟨_,_,rfl,(h.oldS s1)⟩) rfl fun r1 w1 h hF=>qa5 (qm rfl hF ?_ ?_))<;>intro hF
 ·exact X0 4 rfl (rb h hF rfl)
 refine X0 4 rfl ?_
 have hg1:Rg (old w) w (old w) w:=.start (fun _ h=>h)
 obtain ⟨r2,hr2,hF⟩:=qe hF
 obtain ⟨r3,r4⟩:=r2
 refine qi3 (r3,r4) hg1 h (cB 15 rfl) (qfg (hg1.atB h) ⟨_,_,rfl,(hg1.inBS h s1)⟩ hr2) rfl rfl rfl rfl fun w2 us1 S1 h hv1=>?_
 obtain ⟨cs2,us2,rfl,hr3,hv2⟩:=qjQ hv1
 have hr4:=hr3
 obtain ⟨p2,k2,p3,k3,p4,k4,p5,k5,p6,k6,rfl,s2,s3,s4,s5,s6⟩:=qT hr3
 replace h:=h.grpAdd 0 rfl hr4
 obtain ⟨cs3,rfl,hr5⟩:=qh2 hv2
 have hr6:=hr5
 obtain ⟨p7,k7,p8,k8,p9,k9,rfl,s7,s8,s9⟩:=qX hr5
 replace h:=h.grpAdd 0 rfl hr6
 refine zp3 rfl (qx qb h rfl rfl rfl fun w3 bb1 h=>qx qb h rfl rfl rfl fun w4 bb2 h=>zs 1 h rfl fun w5 h=>zs 0 h rfl fun w6 h=>X2 5 1 0 h rfl (zcS h hF (qim (h.grp 2 1 rfl rfl) (h.grp 2 0 rfl rfl) (h.old (GoT.mono hgv0 hg1.old)) (h.old (GoT.mono hgv2 hg1.old))) rfl fun r5 w7 h hF=>X0 5 rfl ?_))
 obtain ⟨r6,hr8,hF⟩:=qe hF
 obtain ⟨r7,r8⟩:=r6
 refine qi3 (r7,r8) hg1 h (cB 15 rfl) (qfg (hg1.atB h) ⟨_,_,rfl,(hg1.inBS h s1)⟩ hr8) rfl rfl rfl rfl fun w8 us3 S2 h hv3=>?_
 obtain ⟨cs4,us4,rfl,hr9,hv4⟩:=qjQ hv3
 have hr10:=hr9
 obtain ⟨p10,k10,p11,k11,p12,k12,p13,k13,p14,k14,rfl,s10,s11,s12,s13,s14⟩:=qT hr9
 replace h:=h.grpAdd 0 rfl hr10
 obtain ⟨cs5,rfl,hr11⟩:=qh2 hv4
 have hr12:=hr11
 obtain ⟨p15,k15,p16,k16,p17,k17,rfl,s15,s16,s17⟩:=qX hr11
 replace h:=h.grpAdd 0 rfl hr12
 refine zp3 rfl (zs 2 h rfl fun w9 h=>zs 1 h rfl fun w10 h=>X2 6 2 1 h rfl (zcB h hF (qjd (h.grp 0 1 rfl rfl) (h.grp 0 0 rfl rfl)) rfl fun r9 w11 h hF=>X0 2 rfl (qm rfl hF ?_ ?_)))<;>intro hF
 ·refine qeK ?_
  obtain ⟨KF1,hKF1,o1,hF,hK1⟩:=bindE hF
  refine qa2 (fun e w'=>∃ (b1:Bool),KF1 b1=some r∧e=[(2,.bool b1)]∧SH w w' []) ?_ ?_
  ·refine X0 4 rfl (qi (t:=29) hF rfl ?_ ?_)<;>intro hF
   ·refine X2 5 2 1 h rfl (zcB h hF (qjc (h.grp 0 1 rfl rfl) (h.grp 0 0 rfl rfl)) rfl fun r10 w12 h hF=>X0 5 rfl ?_)
    replace h:=h.pick [0,1,2] rfl
    replace h:=h.pick [] rfl
    obtain rfl:=qd hF
    exact rG ⟨_,hK1,rfl,h⟩ rfl
   refine X0 7 rfl ?_
   replace h:=h.pick [0,1,2] rfl
   replace h:=h.pick [] rfl
   obtain rfl:=qd hF
   exact rG ⟨_,hK1,rfl,h⟩ rfl
  rintro e1 w13 ⟨b1,hF,rfl,h⟩
  subst hKF1
  exact rb h hF rfl
 refine X1 5 2 h rfl ?_
 obtain ⟨r11,hr15,hF⟩:=qe hF
 obtain ⟨r12,r13⟩:=r11
 refine qgb (r12,r13) h (cB 18 rfl) (qik (h.grp 0 1 rfl rfl) (h.old (GoT.mono hgv0 hg1.old)) (h.old (GoT.mono hgv1 hg1.old)) (h.old (GoT.mono hgv2 hg1.old)) (h.old (GoT.mono hgv3 hg1.old)) (h.old (GoT.mono hgv4 hg1.old)) hr15) rfl rfl rfl rfl fun w14 S3 us5 hv5 hr16=>?_
 obtain ⟨S4,S5,cs6,us6,rfl,hv6,hr17⟩:=hv5.cons hr16
 obtain ⟨p18,k18,p19,k19,p20,k20,rfl,-,-,-⟩:=qX (hv6.sh.own 0 rfl)
 obtain ⟨rfl,h⟩:=hv6.lastB hr17
 refine zp3 rfl (qx qb h rfl rfl rfl fun w15 bb3 h=>zs 0 h rfl fun w16 h=>X0 3 rfl (rD (zd2 rfl (qaD (t:=42) hF rfl ?_ ?_))))<;>intro hF
 ·refine Y1 4 0 h rfl ?_
  refine Y1 4 3 h rfl ?_
  refine Y0 4 rfl (qaD (t:=49) hF rfl ?_ ?_)<;>intro hF
  ·refine Y1 4 0 h rfl ?_
   refine Y1 4 3 h rfl ?_
   refine Y0 4 rfl (qaD (t:=56) hF rfl ?_ ?_)<;>intro hF
   ·refine Y1 4 0 h rfl ?_
    refine Y1 4 3 h rfl ?_
    refine Y0 1 rfl ?_
    obtain ⟨r14,hr19,hF⟩:=qe hF
    refine qcg r14 (vsB _) (cB 19 rfl) (fun _ hb=>qf9 ⟨_,_,rfl,(qbL ((h.ext hb).own 1 rfl)).1.1⟩ ⟨_,_,rfl,(qbL ((h.ext hb).grp 2 0 rfl rfl)).1.1⟩ hr19) rfl rfl rfl rfl (zd2 rfl (qaD (t:=63) hF rfl ?_ ?_))<;>intro hF
    ·refine Y1 4 0 h rfl ?_
     refine Y1 4 3 h rfl ?_
     refine Y0 1 rfl ?_
     obtain ⟨r15,hr20,hF⟩:=qe hF
     refine qcg r15 (vsB _) (cB 19 rfl) (fun _ hb=>qf9 ⟨_,_,rfl,(qbL ((h.ext hb).own 1 rfl)).2.1.1⟩ ⟨_,_,rfl,(qbL ((h.ext hb).grp 2 0 rfl rfl)).2.1.1⟩ hr20) rfl rfl rfl rfl (zd2 rfl (qaD (t:=70) hF rfl ?_ ?_))<;>intro hF
     ·refine Y1 4 0 h rfl ?_
      refine Y1 4 3 h rfl ?_
      refine Y0 1 rfl ?_
      obtain ⟨r16,hr21,hF⟩:=qe hF
      refine qcg r16 (vsB _) (cB 19 rfl) (fun _ hb=>qf9 ⟨_,_,rfl,(qbL ((h.ext hb).own 1 rfl)).2.2.1⟩ ⟨_,_,rfl,(qbL ((h.ext hb).grp 2 0 rfl rfl)).2.2.1⟩ hr21) rfl rfl rfl rfl (zd2 rfl (qaD (t:=77) hF rfl ?_ ?_))<;>intro hF
      ·refine Y1 2 0 h rfl ?_
       refine Y0 1 rfl ?_
       obtain ⟨r17,hr22,hF⟩:=qe hF
       refine qcg r17 (vsI _) (cB 20 rfl) (fun _ hb=>qlk ((h.ext hb).own 1 rfl) hr22) rfl rfl rfl rfl (Y1 2 3 h rfl ?_)
       refine Y0 1 rfl ?_
       obtain ⟨r18,hr23,hF⟩:=qe hF
       refine qcg r18 (vsI _) (cB 21 rfl) (fun _ hb=>qli ((h.ext hb).grp 2 0 rfl rfl) hr23) rfl rfl rfl rfl (Y0 4 rfl (dN h fun w17 h=>?_))
       replace h:=h.pick [0,1,3,4] rfl
       exact rb h hF rfl
      refine Y0 7 rfl (dN h fun w18 h=>?_)
      replace h:=h.pick [0,1,3,4] rfl
      exact rb h hF rfl
     refine Y0 14 rfl (dN h fun w19 h=>?_)
     replace h:=h.pick [0,1,3,4] rfl
     exact rb h hF rfl
    refine Y0 21 rfl (dN h fun w20 h=>?_)
    replace h:=h.pick [0,1,3,4] rfl
    exact rb h hF rfl
   refine Y0 28 rfl (dN h fun w21 h=>?_)
   replace h:=h.pick [0,1,3,4] rfl
   exact rb h hF rfl
  refine Y0 35 rfl (dN h fun w22 h=>?_)
  replace h:=h.pick [0,1,3,4] rfl
  exact rb h hF rfl
 refine Y0 42 rfl (dN h fun w23 h=>?_)
 replace h:=h.pick [0,1,3,4] rfl
 exact rb h hF rfl
end Go.Fw


namespace Go.Fw
open Go
set_option maxRecDepth 100000
theorem qk4 {b:qc} {e:qa} (hok:qaI b) (he:qan e):Ev (fun n=>qfd n b e) (blockB b&&excB b e):=by
 unfold qfd
 refine Ev.and (qh8 hok) fun h=>?_
 obtain ⟨ls,lo,de,ev⟩:=qjw h
 exact Ev.bind ev (Ev.last (qg5 h rfl he))
def rankE (e:qa):Int:=(bif decide (e.Au.length=0) then 0 else 4)+(bif decide (e.To.length=0) then 0 else 2)+(bif decide (e.Ap.length=0) then 0 else 1)
theorem posL {xs:List Int}:decide ((xs.length:Int) > 0) = !decide (xs.length=0):=by cases xs<;>simp
theorem qpe {e:qa}:Ev (fun n=>qhp n e) (rankE e):=by
 unfold qhp rankE
 simp only [posL]
 cases decide (e.Au.length=0)<;>cases decide (e.To.length=0)<;>cases decide (e.Ap.length=0)<;>exact .now (by decide)
theorem qpd {e:qa}:Ev (fun n=>qhj n e) (rankE e):=by
 unfold qhj rankE
 refine ⟨4,fun n hn=>?_⟩
 obtain ⟨m,rfl⟩:∃ m,n=m+4:=⟨n-4,by omega⟩
 simp only [qeL]
 have i0:idx ([e.Ap,e.To,e.Au]:List (List Int)) 0=some e.Ap:=rfl
 have i1:idx ([e.Ap,e.To,e.Au]:List (List Int)) (W64 (0+1))=some e.To:=rfl
 have i2:idx ([e.Ap,e.To,e.Au]:List (List Int)) (W64 (W64 (0+1)+1))=some e.Au:=rfl
 simp only [i0,i1,i2,posL,je]
 cases decide (e.Au.length=0)<;>cases decide (e.To.length=0)<;>cases decide (e.Ap.length=0)<;>rfl
theorem qms {a:List Int} (hl:a.length≤1048576):Ev (fun n=>qew n a a) true:=by
 unfold qew
 refine Ev.ff (by simp) (Ev.bind (b:=.nxt (a.length:Int)) ?_ .done)
 refine loopF (τ:=Unit) (Lf:=fun n _ i=>qdb a a n i) (S:=fun _=>()) (len:=a.length) (fun n=>by simp only [qdb,qp (jf _),cond_false]) (fun i hi X hX=>?_)
 simp only [qdb,qn hi,cond_true,qaq hi,je,wS i]
 exact Ev.ff (by simp) hX
section
variable {code:List (IntK .u8)}
theorem qqJ (hc:CodeOk code):EvQ (fun n=>qbW n code) (fun o=>BlkO o.1∧qan o.2):=by
 unfold qbW qeM
 refine EvQ.bind (R:=fun o=>BlkO o.1∧qan o.2) (EvQ.bind (qqq hc) ?_) ?_
 ·rintro ⟨b,es,p⟩ h
  dsimp only at h ⊢
  refine EvQ.bif (fun _=>EvQ.done ⟨h.blk,⟨qL (x:=0) (by decide) (by decide),qL (x:=0) (by decide) (by decide),⟨jB _,fun _ h=>by cases h⟩,⟨jB _,fun _ h=>by cases h⟩,⟨jB _,fun _ h=>by cases h⟩⟩⟩) (fun hz=>?_)
  have hl:0<es.length:=by
   have:¬ ((es.length:Int)=0):=by simpa using hz
   omega
  exact EvQ.bindN (qaq (j:=0) hl) (EvQ.done ⟨h.blk,h.es.2 _ (jr hl)⟩)
 ·rintro ⟨b,e⟩ h
  exact EvQ.done h
theorem qjb (hk:rngL rng8 code):Ev (fun n=>qeS n code) true:=by
 unfold qeS qkT
 refine Ev.bindN rfl (Ev.bif (fun _=>.done) (fun hl=>?_))
 have hl:code.length≤4096:=by have:=of_decide_eq_false hl;omega
 obtain ⟨⟨b,e⟩,hd,hb,he⟩:=qqJ (code:=code) ⟨by omega,hk.2⟩
 dsimp only at hb he
 have hok:=hb.ok
 have iT:=qoS hok he
 have sI:=qih hok he
 have iI:=qk4 hok he
 refine Ev.bind hd (Ev.bind iT (Ev.bind hd (Ev.bind sI ?_)))
 cases hB:blockB b&&excB b e
 ·rw [hB] at iI
  refine Ev.tt rfl (Ev.bind (b:=true) (Ev.tt ?_ (Ev.bind iI .done)) .done)
  rw [qV]
  exact decide_eq_true rfl
 ·simp only [jh] at hB
  obtain ⟨h1,h2⟩:=hB
  obtain ⟨hr,_⟩:=qpl hok he h1 h2
  have l1:=qms he.Au.len
  have l2:=qms he.Ap.len
  have l3:=qms he.To.len
  refine Ev.ff rfl (Ev.bind hr ?_)
  exact Ev.tt rfl (Ev.tt (by simp) (Ev.tt (by simp) (Ev.bind l1 (Ev.tt rfl (Ev.bind l2 (Ev.tt rfl (Ev.bind l3 (Ev.tt rfl (Ev.bind qpd (Ev.bind qpe (Ev.now (by simp))))))))))))
end
end Go.Fw


namespace Go.Fw
open Go
open Go.ChangeShapes Go.WideShapes Go.ChangeAt Go.RowKit
theorem qf8 {H:Type} {enc:TypeId × Value→H} {a:Assume} {C:Checked} {os:Os} {f:FuncId} {fn:Func} {s:ChangeSpec} {conds:List PathCond} {apart fresh handsOn again:Bool} {X:World→Array Value→Prop}
  (hX:∀ (w w':World) (args:Array Value),w.heap=w'.heap→X w args→X w' args)
  (own:ownKnob C.prog.godebug=none) (started:os.Started) (noInit:C.prog.inits.idxOf? f=none) (hfn:C.prog.funcs[f]?=some fn)
  (witness:∃ (w:World) (tape:Tape) (i:Input),w.os=os∧(w.forCall tape i).Shaped C.prog∧i.vars=[]∧Input.okWide C.prog (w.forCall tape i) .any w.heap.size f i ∧
   ((s.pre enc C.prog fn conds apart (w.forCall tape i).memory i.args∧X (w.forCall tape i).memory i.args)∧sizedMet enc C.prog fn (OpenSpec.ofChange s) apart (w.forCall tape i).memory i.args)∧a.holds C.prog (lone (Frame.enter C.prog f i.args .normal) [] (w.forCall tape i)))
  (contract:∀ (W:World) (base:Nat) (args:Array Value) (ds gs:List (DataW H)) (before:List MemPlace),
   (∀ (j:Nat) t v,fn.params[j]?=some t→args[j]?=some v→Value.okWide C.prog W .any base t v) →
   DataW.Whole enc C.prog fn.params.toList s.vars apart W args.toList ds gs before →
   X W args→W.ShapedOpen C.prog →
   Calls C.prog f args W fun e W'=>∃ v,e=.returned v∧s.post enc C.prog fn apart fresh handsOn again W args v W') :
  ReturnsInHanded a C os f .any (fun w args=>(s.pre enc C.prog fn conds apart w args∧X w args)∧sizedMet enc C.prog fn (OpenSpec.ofChange s) apart w args) (s.post enc C.prog fn apart fresh handsOn again):=by
 refine returnsInHanded_of_calls own started noInit witness ?_
 intro w tape i _ hsh _ hok hpre _
 obtain ⟨_,_,_,fn',hfn',_,_,_,_,hval⟩:=hok
 have e:fn'=fn:=Option.some.inj (hfn'.symm.trans hfn)
 subst e
 obtain ⟨⟨⟨ds,gs,before,hw,_⟩,hx⟩,_⟩:=hpre
 have hw':=DataW.Whole.of_heap (w':=w.forCall tape i) (by rfl) hw
 refine (contract (w.forCall tape i) w.heap.size i.args ds gs before hval hw' (hX _ _ _ (by rfl) hx) hsh).mono fun e W' ⟨v,he,hp⟩=>?_
 subst he
 exact ChangeSpec.post_blind hp
variable {P:Program} {W:World}
theorem GVE.of_shaped {g:Nat} {zero:Array Value} {t t':TypeId} (hw:W.ShapedOpen P) (hg:g<P.globals.size) (hz:((begin P (fun _ _=>0) default).world.heap[g]?).bind Obj.row?=some (zero,t)) (h1:zero.size=1) (hb:P.buildable t=true) (hc:P.cellTypes P.depth t=some [t']) (hu:P.underlying t'=some (.int .i64)):GVE g isIntC W (Fw.old W):=by
 obtain ⟨cs,e1,e2,h3⟩:=hw.1 g zero t hg hz
 obtain ⟨ts,e,_,hv⟩:=h3 hb
 rw [hc] at e
 obtain rfl:=Option.some.inj e
 have hs:cs.size=1:=by omega
 have h0:cs[0]?=some (cs[0]'(by omega)):=Array.getElem?_eq_getElem _
 obtain ⟨u,hu',hk⟩:=hv 0 _ h0
 have eu:u=t':=by simpa using hu'.symm
 subst eu
 have ec:cs=[cs[0]'(by omega)].toArray:=by
  refine Array.ext (by simp [hs]) fun i h1 h2=>?_
  obtain rfl:i=0:=by omega
  rfl
 refine ⟨rfl,(Array.getElem?_eq_some_iff.1 e1).1,[cs[0]'(by omega)],t,_,?_,by rw [←ec];exact e1⟩
 generalize cs[0]'(by omega)=v at hk
 unfold Cell.ok at hk
 rw [hu] at hk
 cases v with
 | int k n =>
  obtain ⟨rfl,_⟩:=hk
  rfl
 | _=>exact hk.elim
theorem qlV {H:Type} {enc:TypeId × Value→H} {base:Nat} {sp:Nat→Bool} {held:Bool} {fuel:Nat} {t:TypeId} {ms:Array (String × TypeId)} {cs:List Value} {d:DataW H} {p:List MemPlace} (ht:P.underlying t=some (.interface ms))
  (h:DataW.trod enc P W base sp held fuel t cs=some (d,p)):isErrC cs=true:=by
 cases fuel with
 | zero=>simp [DataW.trod] at h
 | succ fuel =>
  simp only [DataW.trod,ht] at h
  split at h<;>first|rfl|(exfalso;simp_all;done)
end Go.Fw
