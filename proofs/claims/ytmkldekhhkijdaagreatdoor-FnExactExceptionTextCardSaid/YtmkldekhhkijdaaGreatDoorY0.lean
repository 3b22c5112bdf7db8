/- Plain laws: the text of an exception. -/
import Derived.Test.YtmkldekhhkijdaaGreatDoorT1
open Option renaming bind_some->jd, some->U
open Nat renaming le_refl->je, mul_le_mul_right->jm
open Bool renaming and_eq_true->jg, true_and->jx, not_true->jI
open Int renaming toNat_natCast->jE

namespace Go.Fw
open Go
set_option maxRecDepth 100000
theorem qom:∃F:ByteArray->ByteArray->ByteArray,∀a b,F a b=a++b:=⟨fun a b=>a++b,fun _ _=>rfl⟩
noncomputable def apB:ByteArray->ByteArray->ByteArray:=Classical.choose qom
theorem qma(a b:ByteArray):apB a b=a++b:=Classical.choose_spec qom a b
theorem qbz(a b:ByteArray):(apB a b).size=a.size+b.size:=by rw[qma,ByteArray.size_append]
theorem qjs(a b c:ByteArray):apB (apB a b) c=apB a (apB b c):=by simp only[qma,ByteArray.append_assoc]
theorem qjh(a b:ByteArray):(apB a b).data=a.data++b.data:=by rw[qma,ByteArray.data_append]
theorem qpe(a:ByteArray):apB a ⟨#[]⟩=a:=by
 refine ByteArray.ext ?_;rw[qjh];exact Array.append_empty
theorem catK{a b:ByteArray}(h:a.size+b.size<=1073741824):catB a b=U (apB a b):=by
 unfold catB;rw[qma];exact if_pos (by show((a.size+b.size:Nat):Int)<=9223372036854775807;omega)
theorem bN{α β:Type}{o:Option α}{a:α}{f:α->Option β}{r:Option β}(h:o=U a)(k:f a=r):o.bind f=r:=by rw[h];exact k
theorem cF{α:Type}{c:Bool}{a b r:α}(h:c=false)(k:b=r):(bif c then a else b)=r:=by rw[h];exact k
theorem cT{α:Type}{c:Bool}{a b r:α}(h:c=true)(k:a=r):(bif c then a else b)=r:=by rw[h];exact k
def decT(n:Int):ByteArray:=⟨(Lib.itoa n).toArray⟩
theorem qjo{n:Int}(a:0<=n)(b:n<=1000000000):(decT n).size<=21:=by
 have:=Lib.itoa_length_le n (by omega) (by omega);unfold decT;show(Lib.itoa n).toArray.size<=21;simpa using this
theorem qjB{u:Nat}(h:u<10):strOf ([(⟨IntKind.wrap .u8 (W64 (48+(u:Int)))⟩:IntK .u8)])=⟨#[UInt8.ofNat (48+u)]⟩:=by
 have:∀v:Fin 10,strOf ([(⟨IntKind.wrap .u8 (W64 (48+((v.val:Nat):Int)))⟩:IntK .u8)])=⟨#[UInt8.ofNat (48+v.val)]⟩:=by decide
 exact this ⟨u,h⟩
theorem qnR:∀(d u:Nat),u<10 ^ (d+1)->d<=15->Ev (fun n=>qaV n (u:Int)) ⟨(Lib.decDigits u).toArray⟩:=by
 intro d
 induction d with
 |zero=>
  intro u i _;refine Ev.succ ?_;simp only[qaV];rw[Lib.decDigits,dif_pos (by omega)];exact Ev.ff (by simp) (Ev.tt (by simp;omega) (Ev.now (by rw[qjB (by omega)])))
 |succ d ih=>
  intro u i l;have m:(10:Nat) ^ (d+1+1)=10*10 ^ (d+1):=by rw[Nat.pow_succ,Nat.mul_comm]
  have k:(10:Nat) ^ (d+1+1)<=10 ^ 17:=Nat.pow_le_pow_right (by decide) (by omega);refine Ev.succ ?_;simp only[qaV];refine Ev.ff (by simp) ?_;by_cases a:u<10
  ·rw[Lib.decDigits,dif_pos a];exact Ev.tt (by simp;omega) (Ev.now (by rw[qjB a]))
  ·rw[Lib.decDigits,dif_neg a];refine Ev.ff (by simp;omega) ?_;have f:W64 ((u:Int).tdiv 10)=((u / 10:Nat):Int):=by
    rw[Int.tdiv_eq_ediv_of_nonneg (by omega),qez (by omega) (by omega)];omega
   have g:(u:Int).tmod 10=((u % 10:Nat):Int):=by rw[Int.tmod_eq_emod_of_nonneg (by omega)];omega
   simp only[f,g,qjB (show u % 10<10 by omega)];refine Ev.bind (ih (u / 10) (by omega) (by omega)) ?_;have c:(Lib.decDigits (u / 10)).length<=21:=by
    have:=Lib.itoa_length_le ((u / 10:Nat):Int) (by omega) (by omega);rwa [Lib.itoa_nonneg] at this
   have h:(⟨(Lib.decDigits (u / 10)).toArray⟩:ByteArray).size<=21:=by
    show(Lib.decDigits (u / 10)).toArray.size<=21;simpa using c
   refine Ev.bindN (catK (b:=⟨#[UInt8.ofNat (48+u % 10)]⟩) (by have:(⟨#[UInt8.ofNat (48+u % 10)]⟩:ByteArray).size=1:=rfl;omega)) (Ev.now ?_);refine congrArg U (ByteArray.ext ?_);rw[qjh];simp
theorem qpL{v:Int}(a:0<=v)(b:v<=1000000000):Ev (fun n=>qaV n v) (decT v):=by
 obtain⟨u,rfl⟩:∃u:Nat,v=(u:Int):=⟨v.toNat,by omega⟩;unfold decT;rw[Lib.itoa_nonneg];exact qnR 9 u (by omega) (by decide)
theorem qm8{n:Nat}{v:Int}(a:0<=v)(b:v<=1000000000):qgn n v=U (decT v):=by
 unfold qgn qdS;rw[if_pos ⟨rfl,by omega,by omega⟩]
 rfl
noncomputable def nmP (b:qm) (p:Tplace):ByteArray:=
 bif decide (p.instance_<0) then(gt b.Ab.Ac p.pin.toNat).Am else apB (apB (gt b.Ab.Aa p.instance_.toNat).Am ⟨#[47]⟩) (gt (cellAt b p.instance_).Ak p.pin.toNat).Am
theorem qkk{b:qm}(d:qb8 b)(h:blockB b=true){j n:Nat}(t:j<(places b.Ab).length) :
  qcu n b.Ab b.Aq (gt (places b.Ab) j)=U (nmP b (gt (places b.Ab) j))/\qeZ n b.Aq b.Ab (toSp (gt (places b.Ab) j))=U (nmP b (gt (places b.Ab) j))/\(nmP b (gt (places b.Ab) j)).size<=2097153:=by
 rcases qjI t with⟨i,k,hi,hk,_,e⟩|⟨i,hi,_,e⟩
 ·obtain⟨⟨m,o⟩,v,_⟩:=qjy (qcZ h) hi;have s:(gt b.Ab.Aa i).Bf.toNat<b.Aq.Aj.length:=by omega
  have f:k<(gt b.Aq.Aj (gt b.Ab.Aa i).Bf.toNat).Ak.length:=by omega
  have u:(gt b.Ab.Aa i).Am.size<=1048576:=(qgw d.Ab.Aa hi).Am;have x:(gt (gt b.Aq.Aj (gt b.Ab.Aa i).Bf.toNat).Ak k).Am.size<=1048576:=(qgw (qgw d.Aq.Aj s).Ak f).Am;have y:(⟨#[47]⟩:ByteArray).size=1:=rfl;have a:∀D:Decidable ((place1 b.Ab i k).instance_<0),@decide ((place1 b.Ab i k).instance_<0) D=false:=fun D=>by
   cases D with
   |isFalse=>rfl
   |isTrue hh=>exact absurd hh (by show ¬ ((i:Int)<0);omega)
  have p:=catK (show(gt b.Ab.Aa i).Am.size+(⟨#[47]⟩:ByteArray).size<=1073741824 by omega);have r:=catK (show(apB (gt b.Ab.Aa i).Am ⟨#[47]⟩).size+(gt (gt b.Aq.Aj (gt b.Ab.Aa i).Bf.toNat).Ak k).Am.size<=1073741824 by rw[qbz];omega);have c:idx b.Ab.Aa (place1 b.Ab i k).instance_=U (gt b.Ab.Aa i):=qM hi;have g:idx (gt b.Aq.Aj (gt b.Ab.Aa i).Bf.toNat).Ak (place1 b.Ab i k).pin=U (gt (gt b.Aq.Aj (gt b.Ab.Aa i).Bf.toNat).Ak k):=qM f;have l:nmP b (place1 b.Ab i k)=apB (apB (gt b.Ab.Aa i).Am ⟨#[47]⟩) (gt (gt b.Aq.Aj (gt b.Ab.Aa i).Bf.toNat).Ak k).Am:=by
   unfold nmP cellAt;rw[a];simp only[cond_false,place1,jE]
  rw[e,l];refine⟨?_,?_,?_⟩
  ·unfold qcu;exact cF (a _) (bN c (bN p (bN (qeJ m o) (bN g (bN r Z)))))
  ·unfold qeZ toSp;exact cF (a _) (bN c (bN p (bN (qeJ m o) (bN g (bN r Z)))))
  ·rw[qbz,qbz];omega
 ·have u:(gt b.Ab.Ac i).Am.size<=1048576:=(qgw d.Ab.Ac hi).Am;have a:∀D:Decidable ((place2 b.Ab i).instance_<0),@decide ((place2 b.Ab i).instance_<0) D=true:=fun D=>by
   cases D with
   |isTrue=>rfl
   |isFalse hh=>exact absurd (show(-1:Int)<0 by decide) hh
  have c:idx b.Ab.Ac (place2 b.Ab i).pin=U (gt b.Ab.Ac i):=qM hi;have l:nmP b (place2 b.Ab i)=(gt b.Ab.Ac i).Am:=by
   unfold nmP;rw[a];simp only[cond_true,place2,jE]
  rw[e,l];refine⟨?_,?_,by omega⟩
  ·unfold qcu;exact cT (a _) (bN c Z)
  ·unfold qeZ toSp;exact cT (a _) (bN c Z)
theorem qlN{b:qm}(a:qb8 b)(h:blockB b=true){j:Nat}(c:j<(places b.Ab).length):Ev (fun n=>qeX n b.Aq b.Ab (j:Int)) (nmP b (gt (places b.Ab) j)):=by
 unfold qeX;refine Ev.bind (qo1 a h c) ?_;exact Ev.bind (b:=nmP b (gt (places b.Ab) j)) (.now (qkk (n:=0) a h c).2.1) .done
noncomputable def wds (b:qm) (word:ByteArray) (xs:List Int):Nat->ByteArray
 |0=>⟨#[]⟩
 |j+1=>apB (wds b word xs j) (apB word (nmP b (gt (places b.Ab) (at0 xs j).toNat)))
theorem qiT{b:qm}{a:ByteArray}{xs:List Int}(c:qb8 b)(h:blockB b=true)(f:a.size<=16)(d:allN (fun j=>inPl b (at0 xs j)) xs.length=true):∀j,j<=xs.length->(wds b a xs j).size<=j*2097169
 |0,_=>by have:(⟨#[]⟩:ByteArray).size=0:=rfl;simp only[wds];omega
 |j+1,hj=>by
  have i:=qiT c h f d j (by omega);have g:=qbm.1 (qX.1 d j (by omega));have:=(qkk (n:=0) c h (show(at0 xs j).toNat<(places b.Ab).length by omega)).2.2;simp only[wds,qbz];omega
theorem qkr{b:qm}{a ww:ByteArray}{xs:List Int}(c:qb8 b)(h:blockB b=true)(k:ww.size<=16)(m:apB (apB ⟨#[32]⟩ a) ⟨#[32]⟩=ww)(d:plsB b xs=true):Ev (fun n=>qdM n b a xs) (wds b ww xs xs.length):=by
 unfold plsB at d;simp only[jg,decide_eq_true_eq] at d;obtain⟨t,d⟩:=d;have v:(⟨#[32]⟩:ByteArray).size=1:=rfl;have r:a.size+2<=16:=by rw[<-m] at k;simp only[qbz] at k;omega
 have e0:wds b ww xs 0=⟨#[]⟩:=rfl;have l:Ev (fun n=>qbG b a xs n (wds b ww xs 0) 0) (wds b ww xs xs.length,(xs.length:Int)):=by
  refine loopF (len:=xs.length) (Lf:=fun n z i=>qbG b a xs n z i) (fun j=>wds b ww xs j) (fun n=>?_) (fun j g X p=>?_)
  ·simp only[qbG,qj (je _),cond_false]
  ·have hz:=qiT c h k d j (by omega);have s:=qbm.1 (qX.1 d j g);have f:(at0 xs j).toNat<(places b.Ab).length:=by omega
   have u:=(qkk (n:=0) c h f).2.2;have o:=qlN c h f;rw[<-qjv s.1] at o;simp only[qbG];refine Ev.tt (qi g) ?_;refine Ev.bindN (catK (by omega)) (Ev.bindN (catK (by simp only[qbz];omega)) (Ev.bindN (catK (by simp only[qbz];omega)) (Ev.bindN (qbc g) (Ev.bind o (Ev.bindN (catK (by simp only[qbz];omega)) ?_)))));rw[wS j];have e2:apB (apB (apB (apB (wds b ww xs j) ⟨#[32]⟩) a) ⟨#[32]⟩) (nmP b (gt (places b.Ab) (at0 xs j).toNat))=wds b ww xs (j+1):=by
    simp only[wds,<-m,qjs]
   rw[e2];exact p
 unfold qdM;rw[e0] at l;exact Ev.bind l .done
theorem qjp{b:qm}{V:Tview}{ww z:ByteArray}{i:Int}{xs:List Int}(d:qb8 b)(h:blockB b=true)(m:V.Bi=b)(l:V.places=places b.Ab)(s:ww.size<=16)(hz:z.size<=100000000)
  (hi:idx ([(⟨#[32,102,114,111,109,32]⟩:ByteArray),(⟨#[32,116,104,114,111,117,103,104,32]⟩:ByteArray),(⟨#[32,116,111,32]⟩:ByteArray)]:List ByteArray) i=U ww) (a:plsB b xs=true) :
  Ev (fun n=>qP (U V) i xs n z 0) (apB z (wds b ww xs xs.length),(xs.length:Int)):=by
 unfold plsB at a;simp only[jg,decide_eq_true_eq] at a;obtain⟨v,a⟩:=a;have e0:apB z (wds b ww xs 0)=z:=qpe z;have k:Ev (fun n=>qP (U V) i xs n (apB z (wds b ww xs 0)) 0) (apB z (wds b ww xs xs.length),(xs.length:Int)):=by
  refine loopF (len:=xs.length) (Lf:=fun n z u=>qP (U V) i xs n z u) (fun j=>apB z (wds b ww xs j)) (fun n=>?_) (fun j f X o=>?_)
  ·simp only[qP,qj (je _),cond_false]
  ·have hz:=qiT d h s a j (by omega);have t:=qbm.1 (qX.1 a j f);have c:(at0 xs j).toNat<(places b.Ab).length:=by omega
   have p:=qkk (n:=0) d h c;have r:idx V.places (at0 xs j)=U (gt (places b.Ab) (at0 xs j).toNat):=by
    have g:=qM c;rw[<-qjv t.1] at g;rw[l,g]
   subst m;simp only[qP,qi f,cond_true,jd];refine Ev.bindN (qbc f) (Ev.bindN hi (Ev.bindN r (Ev.bind (.now p.1) (Ev.bindN (catK (by omega)) (Ev.bindN (catK (by simp only[qbz];omega)) ?_)))));rw[wS j];have e2:apB (apB z (wds V.Bi ww xs j)) (apB ww (nmP V.Bi (gt (places V.Bi.Ab) (at0 xs j).toNat)))=apB z (wds V.Bi ww xs (j+1)):=by
    simp only[wds,qjs]
   rw[e2];exact o
 rwa [e0] at k
def wFrom:ByteArray:=⟨#[32,102,114,111,109,32]⟩
def wThr:ByteArray:=⟨#[32,116,104,114,111,117,103,104,32]⟩
def wTo:ByteArray:=⟨#[32,116,111,32]⟩
def kwE(k:Int):ByteArray:=gt exWords k.toNat
noncomputable def headE (e:qk):ByteArray:=bif e.Ap != 1 then apB (kwE e.Ap) (apB ⟨#[32]⟩ (decT e.Bd)) else kwE e.Ap
noncomputable def txtE (b:qm) (e:qk):ByteArray:=apB (apB (apB (headE e) (wds b wFrom e.Av e.Av.length)) (wds b wThr e.Au e.Au.length)) (wds b wTo e.To e.To.length)
theorem eWord{w ww:ByteArray}(h:#[(32:UInt8)]++w.data++#[(32:UInt8)]=ww.data):apB (apB ⟨#[32]⟩ w) ⟨#[32]⟩=ww:=by
 refine ByteArray.ext ?_;rw[qjh,qjh];exact h
theorem ewFrom:apB (apB ⟨#[32]⟩ ⟨#[102,114,111,109]⟩) ⟨#[32]⟩=wFrom:=eWord (by decide)
theorem ewThr:apB (apB ⟨#[32]⟩ ⟨#[116,104,114,111,117,103,104]⟩) ⟨#[32]⟩=wThr:=eWord (by decide)
theorem ewTo:apB (apB ⟨#[32]⟩ ⟨#[116,111]⟩) ⟨#[32]⟩=wTo:=eWord (by decide)
theorem qhX{k v:Int}(h:valB k v=true):(1<=k/\k<=4)/\0<=v/\v<=1000000000:=by
 unfold valB at h;by_cases a:k=1
 ·subst a;simp at h;omega
 ·by_cases b:k=2
  ·subst b;simp[inI] at h;omega
  ·by_cases c:k=3
   ·subst c;simp[inI] at h;omega
   ·by_cases d:k=4
    ·subst d;simp[inI] at h;omega
    ·simp[a,b,c,d] at h
theorem qkJ{k:Int}(h:1<=k/\k<=4):(kwE k).size<=6:=by
 obtain⟨a,b⟩:=h;obtain rfl|rfl|rfl|rfl:k=1\/k=2\/k=3\/k=4:=by omega
 all_goals decide
theorem qkV{e:qk}(h:valB e.Ap e.Bd=true):(headE e).size<=28:=by
 obtain⟨c,a,b⟩:=qhX h;have d:=qkJ c;have f:=qjo a b;have g:(⟨#[32]⟩:ByteArray).size=1:=rfl;unfold headE;cases (e.Ap != 1)
 ·simp only[cond_false];omega
 ·simp only[cond_true,qbz];omega
theorem qje{b:qm}{ww:ByteArray}{xs:List Int}(c:qb8 b)(h:blockB b=true)(d:ww.size<=16)(a:plsB b xs=true):(wds b ww xs xs.length).size<=8388676:=by
 unfold plsB at a;simp only[jg,decide_eq_true_eq] at a;have:=qiT c h d a.2 xs.length (je _);have:xs.length*2097169<=4*2097169:=jm _ a.1;omega
theorem qkP{b:qm}{e:qk}(h:excB b e=true):plsB b e.Av=true/\plsB b e.Au=true/\plsB b e.To=true/\valB e.Ap e.Bd=true:=by
 unfold excB at h;simp only[jg] at h;exact⟨h.1.1,h.1.2.1,h.1.2.2,h.2.1⟩
theorem qjl{b:qm}{V:Tview}{e:qk}(a:qb8 b)(h:blockB b=true)(d:V.Bi=b)(c:V.places=places b.Ab)(r:excB b e=true):Ev (fun n=>qbX n (U V) e) (txtE b e):=by
 obtain⟨m,o,t,l⟩:=qkP r;obtain⟨s,g,i⟩:=qhX l;have y:=qkV l;have z:=qje (ww:=wFrom) a h (by decide) m;have A:=qje (ww:=wThr) a h (by decide) o;have p:Ev (fun n=>qR (U V) e n (headE e) 0) (txtE b e,3):=by
  refine Ev.succ ?_;simp only[qR];refine Ev.tt Z (Ev.bindN (b:=e.Av) Z (Ev.bind (qjp (ww:=wFrom) a h d c (by decide) (by omega) Z m) (Ev.succ ?_)));simp only[qR];refine Ev.tt Z (Ev.bindN (b:=e.Au) Z (Ev.bind (qjp (ww:=wThr) a h d c (by decide) (by rw[qbz];omega) Z o) (Ev.succ ?_)));simp only[qR];refine Ev.tt Z (Ev.bindN (b:=e.To) Z (Ev.bind (qjp (ww:=wTo) a h d c (by decide) (by rw[qbz,qbz];omega) Z t) (Ev.succ ?_)));simp only[qR];exact Ev.ff Z .done
 unfold qbX;have f:idx exWords e.Ap=U (kwE e.Ap):=by
  have k:=qM (xs:=exWords) (j:=e.Ap.toNat) (by show e.Ap.toNat<5;omega);rw[<-qjv (show 0<=e.Ap by omega)] at k;exact k
 refine Ev.bindN f ?_;refine Ev.bind (b:=headE e) ?_ (Ev.bind p .done);have u:=qkJ s;have v:=qjo g i;have x:(⟨#[32]⟩:ByteArray).size=1:=rfl;unfold headE;cases (e.Ap != 1)
 ·exact .done
 ·exact Ev.tt Z (Ev.bind (.now (qm8 (n:=0) g i)) (Ev.bindN (catK (by omega)) (Ev.bindN (catK (by rw[qbz];omega)) .done)))
theorem qox{b:qm}{e:qk}(a:qb8 b)(m:qdp e):Ev (fun n=>qbA n b e) (bif blockB b&&excB b e then txtE b e else ByteArray.empty):=by
 unfold qbA;refine Ev.bind (qjP a m) ?_;cases hb:(blockB b&&excB b e)
 ·exact .done
 ·simp only[jg] at hb;obtain⟨h,p⟩:=hb;obtain⟨i,k,l,g⟩:=qkP p;obtain⟨o,d,f⟩:=qhX g;have u:=qkV g;have v:=qje (ww:=wFrom) a h (by decide) i;have x:=qje (ww:=wThr) a h (by decide) k;have y:=qje (ww:=wTo) a h (by decide) l;refine Ev.ff Z ?_;have c:idx ([(⟨#[102,97,108,115,101]⟩:ByteArray),(⟨#[99,121,99,108,101,115]⟩:ByteArray),(⟨#[109,97,120]⟩:ByteArray),(⟨#[109,105,110]⟩:ByteArray)]:List ByteArray) (W64 (e.Ap-1))=U (kwE e.Ap):=by
   obtain hq|hq|hq|hq:e.Ap=1\/e.Ap=2\/e.Ap=3\/e.Ap=4:=by omega
   all_goals rw[hq];rfl
  refine Ev.bindN c ?_;have r:=qkJ o;have s:=qjo d f;have t:(⟨#[32]⟩:ByteArray).size=1:=rfl;refine Ev.bind (b:=headE e) ?_ ?_
  ·unfold headE;cases (e.Ap != 1)
   ·exact .done
   ·refine Ev.tt Z ?_;refine Ev.bindN (catK (by omega)) (Ev.bind (qpL d f) (Ev.bindN (catK (by rw[qbz];omega)) (Ev.now ?_)));rw[qjs,cond_true]
  ·refine Ev.bind (qkr (ww:=wFrom) a h (by decide) ewFrom i) (Ev.bindN (catK (by omega)) (Ev.bind (qkr (ww:=wThr) a h (by decide) ewThr k) (Ev.bindN (catK (by rw[qbz];omega)) (Ev.bind (qkr (ww:=wTo) a h (by decide) ewTo l) (Ev.bindN (catK (by rw[qbz,qbz];omega)) ?_)))));exact .done
theorem qoO{b:qm}{e:qk}(a:qb8 b)(d:qdp e):Ev (fun n=>qbB n b e) (bif blockB b&&excB b e then txtE b e else ByteArray.empty):=by
 unfold qbB;refine Ev.bind (qmP a) ?_;cases h:blockB b
 ·exact .done
 ·simp only[jI,cond_false,jx];obtain⟨g,lo,f,c⟩:=qm0 h;refine Ev.bind c (Ev.bind (qkG h Z d) ?_);cases hx:excB b e
  ·exact .done
  ·simp only[jI,cond_false,cond_true];exact Ev.bind (qjl a h Z Z hx) .done
theorem qjx{b:qm}{e:qk}(a:qb8 b)(c:qdp e):∃R:ByteArray,Ev (fun n=>qbA n b e) R/\Ev (fun n=>qbB n b e) R:=
 ⟨_,qox a c,qoO a c⟩
end Go.Fw


namespace Go.Fw
open Go Go.Proofs Go.Proofs.Tryz
open Go.RowKit (Below)
open Ch renaming own->oW,box->oX,grp->oG
open GoT renaming v->oV
open Go.Bd renaming slice->oS
set_option maxRecDepth 100000
set_option maxHeartbeats 6400000
variable{n:Nat}{w:World}{cs1 cs2 cs3 cs4 cs5 cs6 cs7 cs8 cs9:List Value}
def qcx(n:Nat)(p:qm)(r:qk):Option Bool:=(qgq n p 1048576).bind fun d=>bif decide (d<0) then U true else(qej n r d).bind fun h=>bif decide (h<0) then U true else(qer n p).bind fun i=>(qci n r).bind fun k=>(qbA n i k).bind fun l=>(qer n p).bind fun f=>(qci n r).bind fun g=>(qbB n f g).bind fun m=>bif (m.toList != l.toList) then U false else(qer n p).bind fun o=>(qgp n f o).bind fun a=>bif (!a) then U false else(qci n r).bind fun b=>(qef n g b).bind fun c=>bif (!c) then U false else U true
theorem qfY{f:qm}{g:qk}(a:Ro w f cs1)(b:Ro w g cs2)(c:GV 0 (exWords.map Value.string) w (old w))(d:GV 2 (Lib.pow10Tab.map (Value.int .u64)) w (old w)){r:Bool}(F:qcx n f g=U r):RetV prog 3 [oV qm cs1,oV qk cs2] w r:=by
 obtain⟨_,_,_,_,_,_,_,_,_,_,rfl,_,_,_,_,_⟩:=qU a;obtain⟨_,_,_,_,_,_,rfl,_,_,_⟩:=qae b;refine zV 45 func3 Z fun h=>zSR (qr h Z Z fun _ _ h=>qr h Z Z fun _ _ h=>X1 10 1 h Z (zcI h F (qjQ (h.old a)) Z fun _ _ h F=>X0 8 Z (qf Z F ?_ ?_)))<;>intro F
 ·exact X0 4 Z (rb h F Z)
 refine X1 5 0 h Z (zcI h F (qiy (h.old b)) Z fun _ _ h F=>X0 8 Z (qf Z F ?_ ?_))<;>intro F
 ·exact X0 4 Z (rb h F Z)
 refine zKS (rA [] [0,1] h Z fun _ h=>M2 5 [0,2] 1 0 (h.p [0,1] Z) Z (Ao 1 7 Z (zcO h F (qfX (h.old a)) Z fun _ _ _ _ h F=>?_)));obtain⟨_,_,_,_,_,_,_,_,_,_,rfl,-,-,-,-,-⟩:=qU (h.own 0 Z);refine Ag (h.p [1,2] Z) (Ao 3 15 Z (zcO h F (qex (h.old b)) Z fun _ _ _ _ h F=>?_));obtain⟨_,_,_,_,_,_,rfl,-,-,-⟩:=qae (h.own 0 Z);refine Ag (h.p [2,3] Z) (Ao 4 31 Z (zcS h F (qhO (h.own 1 Z) (h.own 0 Z)) Z fun _ _ h F=>G0 63 [5] (h.p [2,3] Z) Z (Ad (X1 3 3 h Z (zcO h F (qfX (h.old a)) Z fun _ _ _ _ h F=>?_)))));obtain⟨_,_,_,_,_,_,_,_,_,_,rfl,-,-,-,-,-⟩:=qU (h.own 0 Z);refine qC qc h Z Z Z fun _ _ h=>zs 0 h Z fun _ h=>X1 4 4 h Z (zcO h F (qex (h.old b)) Z fun _ _ _ _ h F=>?_);obtain⟨_,_,_,_,_,_,rfl,-,-,-⟩:=qae (h.own 0 Z);refine qC qc h Z Z Z fun _ _ h=>zs 0 h Z fun _ h=>X2 5 2 0 h Z (zcS h F (qhN (h.own 3 Z) (h.own 1 Z) (h.old c) (h.old d)) Z fun _ _ h F=>X0 9 Z (qf Z F ?_ ?_))<;>intro F
 ·exact X0 4 Z (rb h F Z)
 refine zKSS (rA [] [2,7] h Z fun _ h=>M2 3 [0,1] 0 1 (h.p [2,7] Z) Z (Ao 2 7 Z (zcO h F (qfX (h.old a)) Z fun _ _ _ _ h F=>?_)));obtain⟨_,_,_,_,_,_,_,_,_,_,rfl,-,-,-,-,-⟩:=qU (h.own 0 Z);refine Ag (h.p [3,8] Z) (Ao 3 15 Z (zcB h F (qj8 (h.own 4 Z) (h.own 0 Z)) Z fun _ _ h F=>G0 31 [4] (h.p [3,8] Z) Z (Ad (qf Z F ?_ ?_))))<;>intro F
 ·exact X0 4 Z (rb h F Z)
 refine zKSS (rA [] [1,7] h Z fun _ h=>M2 3 [0,1] 0 1 (h.p [1,7] Z) Z (Ao 2 7 Z (zcO h F (qex (h.old b)) Z fun _ _ _ _ h F=>?_)));obtain⟨_,_,_,_,_,_,rfl,-,-,-⟩:=qae (h.own 0 Z);refine Ag (h.p [2,8] Z) (Ao 3 15 Z (zcB h F (qiw (h.own 3 Z) (h.own 0 Z)) Z fun _ _ h F=>G0 31 [4] (h.p [2,8] Z) Z (Ad (qf Z F ?_ ?_))))<;>intro F
 ·exact X0 4 Z (rb h F Z)
 exact X0 5 Z (rb h F Z)
end Go.Fw


namespace Go.Fw
open Go
set_option maxRecDepth 100000
theorem qiW{b:qm}{x:qk}(a:qb8 b)(c:qdp x):∃R:ByteArray,Ev (fun n=>qbA n b x) R/\Ev (fun n=>qbB n b x) R:=qjx a c
theorem qhb{b:qm}{x:qk}(g:qin b)(h:qfv x):Ev (fun n=>qcx n b x) true:=by
 unfold qcx;obtain⟨m,e1,d⟩:=qoJ (a:=b) (left:=1048576) g (by omega) (by omega);refine Ev.bind e1 ?_;rcases d with d|⟨p1,d⟩
 ·exact Ev.tt (by simpa using d) .done
 refine Ev.ff (by simp;omega) ?_;obtain⟨o,e2,f⟩:=qlP (a:=x) (left:=m) h p1 (by omega);refine Ev.bind e2 ?_;rcases f with f|⟨p2,f⟩
 ·exact Ev.tt (by simpa using f) .done
 refine Ev.ff (by simp;omega) ?_;have c:qfh b<=1048576:=by omega
 have k:=qnc g c;have w1:qbQ x<=1048576:=by omega
 have l:=qkp h w1;obtain⟨R0,i,hi⟩:=qiW (b:=b) (x:=x) k l;refine Ev.bind (qkB c) ?_;refine Ev.bind (qhE w1) ?_;refine Ev.bind i ?_;refine Ev.bind (qkB c) ?_;refine Ev.bind (qhE w1) ?_;refine Ev.bind hi ?_;refine Ev.ff (by simp) ?_;refine Ev.bind (qkB c) ?_;refine Ev.bind (qo6 c) (Ev.ff Z ?_);refine Ev.bind (qhE w1) ?_;refine Ev.bind (ql5 w1) (Ev.ff Z ?_);exact .done
end Go.Fw
