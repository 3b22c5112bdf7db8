/- Plain laws: tables. -/
import Derived.Test.YtklmnhcgjnglhaaGreatDoorB2
import Derived.Test.YtklmnhcgjnglhaaGreatDoorFw37
open Option renaming bind_some->jd, some->V, none->U
open Bool renaming and_eq_true->je, eq_iff_iff->jn, not_eq_true'->jC, true_and->jL, not_true->Jm, true->An, false->Cd, cond_true->Ci, cond_false->Cj
open Nat renaming le_refl->jf, le_trans->jX, zero_add->Jd, not_lt_zero->Ji
open List renaming length_append->jg, length_singleton->jh, getElem_mem->jo, length_map->jq, append_assoc->jv, take_succ_eq_append_getElem->jw, length_take->jy, getD_eq_getElem?_getD->jz, take_length->jG, not_mem_nil->jH, length_replicate->jI, mem_append_left->jK, mem_cons->jN, mem_append_right->jS, map_append->jT, append_nil->jY, ext_getElem->Jk
open Int renaming toNat_natCast->jr, mul_nonneg->jU, le_refl->jV, mul_le_mul->Jb, add_zero->Jn
open Go.Fw.Ev renaming bind->Ck, succ->Cm, ff->Cp, tt->Cr, andP->Cu, now->Cx
open Go.Fw.PV renaming done->Cq
open Go.Fw.ms renaming get->Cs

namespace Go.Fw
open Go
set_option maxRecDepth 100000
theorem OQ{n:Nat}{x lo hi:Int}:pX n x lo hi=V (!gd x lo hi):=by simp only[pX,fx,jd]
theorem iJ{xs:List Int}{lo hi:Int}(d:xs.length<=1048576):Ev (fun n=>er n xs lo hi) (xs.all fun x=>gd x lo hi):=by
 have b:Ev (fun n=>cr n xs lo hi) (KZ (fun x=>!gd x lo hi) xs):=
  nF (fin:=(xs.length:Int)) (Lf:=aR xs lo hi) (pf:=fun _ x=>V (!gd x lo hi)) (fun _ _=>.done)
   (fun n=>by simp only[aR,qu (jf _),Cj])
   (fun n j x a=>by
    have c:=(List.getElem?_eq_some_iff.1 a).1;simp only[aR,qq c,Ci,pp a,jd,OQ,wS j])
   (fun n=>by unfold cr;congr 1;funext o;cases o<;>rfl)
 unfold er dB;refine Ck (Ck b (Cx Z)) (Cx ?_);rw[BP,GG]
def xO(xs:List Int)(j:Nat):Bool:=decide (j=0) || decide (bO xs (j-1)<bO xs j)
def HT(xs:List Int):Bool:=bE (xO xs) xs.length
theorem zP{xs:List Int}(m:xs.length<=1048576):Ev (fun n=>mA n xs) (HT xs):=by
 have g:Ev (fun n=>dr xs n 1) (bif HT xs then .nxt (max 1 xs.length:Int) else .ret Cd):=by
  by_cases b:xs.length=0
  .have k:HT xs=An:=by unfold HT;rw[b];rfl
   rw[k];refine Cm ?_;have:decide ((1:Int)<(xs.length:Int))=Cd:=by rw[b];decide
   simp only[dr,this,Cj];exact Cx (by rw[b];rfl)
  .have:=A7 (Lf:=dr xs) (len:=xs.length) (i0:=1) (f:=xO xs) (bad:=Cd) (fin:=.nxt (max 1 xs.length:Int)) (by omega)
    (Cm (by
     simp only[dr,qu (jf _),Cj];exact Cx (by congr 2;omega)))
    (fun j l a X i=>Cm (by
     simp only[dr,qq a,Ci,wS j,show(j:Int)-1=((j-1:Nat):Int) by omega,qY (show -9223372036854775808<=((j-1:Nat):Int) by omega) (by omega),aX (show j-1<xs.length by omega),aX a,jd];unfold xO;by_cases c:bO xs (j-1)<bO xs j
     .have e1:decide (bO xs (j-1)>=bO xs j)=Cd:=by simp;omega
      rw[e1];simp only[c,decide_true,Bool.or_true,Ci,Cj];exact i
     .have e1:decide (bO xs (j-1)>=bO xs j)=An:=by simp;omega
      have d:decide (j=0)=Cd:=by simp;omega
      rw[e1,d];simp only[c,decide_false,Bool.or_self,Ci,Cj];exact .done))
   have e:bE (fun j=>xO xs (1+j)) (xs.length-1)=HT xs:=by
    unfold HT;rw[jn,aG,aG];constructor
    .intro h j a;cases j with
     |zero=>rfl
     |succ j=>have:=h j (by omega);rwa [Nat.add_comm] at this
    .intro h j a;exact h (1+j) (by omega)
   rw[e] at this;exact this
 unfold mA;refine Ck g ?_;cases HT xs<;>exact .done
def zo{α:Type}(xs:List α)(lo hi:Nat):Bool:=decide (lo<=xs.length)&&decide (xs.length<=hi)
theorem SC{α:Type}{xs:List α}{lo hi:Nat}:gd (xs.length:Int) (lo:Int) (hi:Int)=zo xs lo hi:=by
 unfold gd zo;rw[jn];simp
def un(xs:List Int):Bool:=zo xs 1 4&&((xs.all fun x=>gd x 0 100000)&&HT xs)
theorem PZ{xs:List Int}(a:xs.length<=1048576):Ev (fun n=>ve n xs) (un xs):=by
 simp only[ve,di,jd,fx,show gd (xs.length:Int) 1 4=zo xs 1 4 from SC (lo:=1) (hi:=4)];unfold un;cases zo xs 1 4
 .exact .done
 .refine Cr Z (Ck (iJ a) ?_);cases (xs.all fun x=>gd x 0 100000)
  .exact .done
  .exact Cr Z (Ck (zP a) .done)
theorem ND{xs:List Int}(k:xs.length<=1048576):Ev (fun n=>tW n xs) (un xs):=by
 have i:Ev (fun n=>kv xs n 0) (bif bE (fun j=>gd (bO xs j) 0 100000&&xO xs j) xs.length then .nxt (xs.length:Int) else .ret Cd):=by
  refine lD ?_ (fun j c X a=>Cm ?_)
  .exact Cm (by simp only[kv,qu (jf _),Cj];exact .done)
  .simp only[kv,qq c,Ci,aX c,jd,fC,wS j];cases gd (bO xs j) 0 100000
   .exact .done
   .simp only[Jm,Cj,jL];unfold xO;by_cases h:j=0
    .subst h;exact Cp (by decide) a
    .simp only[show(j:Int)-1=((j-1:Nat):Int) by omega,qY (show -9223372036854775808<=((j-1:Nat):Int) by omega) (by omega),aX (show j-1<xs.length by omega),jd];have f:decide (j=0)=Cd:=by simp;omega
     have g:decide ((j:Int) > 0)=An:=by simp;omega
     rw[f,g];simp only[Ci,Bool.false_or];by_cases b:bO xs (j-1)<bO xs j
     .have e1:decide (bO xs (j-1)>=bO xs j)=Cd:=by simp;omega
      rw[e1];simp only[b,decide_true,Ci,Cj];exact a
     .have e1:decide (bO xs (j-1)>=bO xs j)=An:=by simp;omega
      rw[e1];simp only[b,decide_false,Ci,Cj];exact .done
 have e:un xs=(bE (fun j=>gd (bO xs j) 0 100000&&xO xs j) xs.length&&zo xs 1 4):=by
  unfold un HT;rw[yj,pn (d:=0),Bool.and_comm]
  rfl
 rw[e];unfold tW;refine Ck i ?_;cases bE (fun j=>gd (bO xs j) 0 100000&&xO xs j) xs.length
 .exact .done
 .simp only[Ci,AV,FP,jL];exact Cx (by congr 1;unfold zo;rw[jn];simp;omega)
def wU(t:aa):Bool:=un t.Bp&&(un t.Bm&&(decide (t.Bi.length=t.Bp.length*t.Bm.length)&&(t.Bi.all fun x=>gd x (-1000000) 1000000)))
theorem LV{a b:Nat}(c:a<=1048576)(d:b<=1048576):qj ((a:Int)*(b:Int))=((a*b:Nat):Int):=by
 have h:a*b<=1048576*1048576:=Nat.mul_le_mul c d;have e:(a:Int)*(b:Int)=((a*b:Nat):Int):=by simp
 rw[e];exact qY (by omega) (by omega)
theorem XK{t:aa}(h:tP t):Ev (fun n=>vQ n t) (wU t):=by
 unfold vQ wU;refine Ck (PZ h.Bp.len) ?_;cases un t.Bp
 .exact .done
 .refine Cr Z (Ck (PZ h.Bm.len) ?_);cases un t.Bm
  .exact .done
  .rw[LV h.Bp.len h.Bm.len];have e:(((t.Bi.length:Nat):Int)==((t.Bp.length*t.Bm.length:Nat):Int))=decide (t.Bi.length=t.Bp.length*t.Bm.length):=by rw[jn];simp;omega
   rw[e];cases decide (t.Bi.length=t.Bp.length*t.Bm.length)
   .exact .done
   .exact Cr Z (Cr Z (Ck (iJ h.Bi.len) .done))
theorem WJ{t:aa}(h:tP t):Ev (fun n=>vY n t) (wU t):=by
 have f:=h.Bi.len;have c:Ev (fun n=>mi t n 0) (bif (t.Bi.all fun x=>gd x (-1000000) 1000000) then .nxt (t.Bi.length:Int) else .ret Cd):=
  FO (fun n=>by simp only[mi,qu (jf _),Cj]) (fun j a X d=>by
   simp only[mi,qq a,Ci,cj a,jd,fC,wS j];cases gd t.Bi[j] (-1000000) 1000000
   .exact .done
   .exact d)
 unfold vY wU;refine Ck (b:=!(un t.Bp&&(un t.Bm&&decide (t.Bi.length=t.Bp.length*t.Bm.length)))) ?_ ?_
 .refine Ck (ND h.Bp.len) ?_;cases un t.Bp
  .exact .done
  .refine Cp Z (Ck (ND h.Bm.len) ?_);cases un t.Bm
   .exact .done
   .refine Cp Z (Cx ?_);rw[LV h.Bp.len h.Bm.len]
    congr 1
    rw[jn];simp;omega
 .cases un t.Bp
  .exact .done
  .cases un t.Bm
   .exact .done
   .cases decide (t.Bi.length=t.Bp.length*t.Bm.length)
    .exact .done
    .refine Cp Z (Ck c ?_);cases (t.Bi.all fun x=>gd x (-1000000) 1000000)<;>exact .done

instance:Inhabited bj:=⟨⟨ByteArray.empty,0,0,Cd⟩⟩
instance:Inhabited aa:=⟨⟨[],[],[]⟩⟩
instance:Inhabited bi:=⟨⟨0,0,0,0,[],[]⟩⟩
instance:Inhabited qR:=⟨⟨ByteArray.empty,0,[],[],[],0,0⟩⟩
instance:Inhabited qL:=⟨⟨ByteArray.empty,0,[]⟩⟩
instance:Inhabited bk:=⟨⟨ByteArray.empty,0,0⟩⟩
instance:Inhabited aJ:=⟨⟨[],[],[],[]⟩⟩
theorem C1{j m:Nat}(h:j<m)(a:m<=1048576):((j:Int)==qj ((m:Int)-1))=decide (j+1=m):=by
 rcases qaN h with h|h
 .exact h
 .omega
theorem wu{α:Type}[Inhabited α]{xs:List α}{g:α->ByteArray}{j:Nat}(h:j<xs.length):xP (xs.map g) j=g (gt xs j):=by
 rw[HB (by simpa using h),fh h];simp
theorem DD{α:Type}{xs:List α}{g:α->ByteArray}{ok:α->Prop}(h:vz ok xs)(a:∀x,ok x->LW (g x)):vz LW (xs.map g):=
 ⟨by rw[jq];exact h.1,fun y c=>by
  obtain⟨x,b,rfl⟩:=List.mem_map.1 c;exact a x (h.2 x b)⟩
theorem yk{α β:Type}{xs:List α}{g:α->β}{j:Nat}(h:j<xs.length)(a:xs.length<=1048576){y:β}:dj ((xs.take j).map g) [y]=V ((xs.take j).map g++[y]):=
 dU (by simp;omega)
def pinB(ps:List bj)(j:Nat):Bool:=
 bif decide (j+1=ps.length) then((gt ps j).Bx==2)&&(((gt ps j).Br==0)&&!(gt ps j).Bs) else((gt ps j).Bx==1)&&gd (gt ps j).Br 0 500
def xy(ps:List bj):Bool:=bE (pinB ps) ps.length&&(zo ps 2 5&&nH (ps.map bj.Bh))
def xT(ps:List bj)(j:Nat):Nat:=gf (fun i=>(gt ps i).Bs) j
theorem XS{ps:List bj}(h:vz zw ps):Ev (fun n=>vS n ps) (xy ps):=by
 have i:=h.len;have l:Ev (fun n=>gJ ps n ([]:List ByteArray) 0) (bif bE (pinB ps) ps.length then .nxt (ps.map bj.Bh,(ps.length:Int)) else .ret Cd):=by
  refine QF (Lf:=gJ ps) (S:=fun j=>(ps.take j).map bj.Bh) (pinB ps) (fun n=>?_) (fun j a o X f=>?_)
  .simp only[gJ,qu (jf _),Cj,jG]
  .simp only[gJ,qq a,Ci,qz a,jd,yk a i,ox (g:=bj.Bh) a,C1 a i,bne,gX,fx,wS j];generalize hc:pinB ps j=c at f⊢;unfold pinB at hc;cases hd:decide (j+1=ps.length)
   .rw[hd] at hc;simp only[Cj] at hc⊢;subst hc;exact Ev.okP (fun b=>Ev.okP1 (fun d=>f (by rw[b,d];rfl)))
   .rw[hd] at hc;simp only[Ci] at hc⊢;subst hc;refine Ev.okP (fun b=>Ev.okP (fun d=>Ev.chkP1 (fun k=>f (by rw[b,d,k];rfl))))
 unfold vS xy;refine Ck l ?_;cases bE (pinB ps) ps.length
 .exact .done
 .simp only[Ci,fR,fx,jd,show gd (ps.length:Int) 2 5=zo ps 2 5 from SC (lo:=2) (hi:=5),jL];exact Cu (fun _=>Ev.last (uW (DD h (fun x m=>m.Bh))))
def pinS(ps:List bj)(j:Nat):Bool:=bE (QJ (ps.map bj.Bh) j) j&&((sY (gt ps j).Bh&&gd (gt ps j).Br 0 500)&&(bif decide (j+1=ps.length) then((gt ps j).Bx==2)&&(((gt ps j).Br==0)&&!(gt ps j).Bs) else((gt ps j).Bx==1)))
theorem qa5{ps:List bj}:(zo ps 2 5&&bE (pinS ps) ps.length)=xy ps:=by
 have e:nH (ps.map bj.Bh)=bE (fun j=>sY (gt ps j).Bh&&bE (QJ (ps.map bj.Bh) j) j) ps.length:=by
  unfold nH;rw[jq];exact sC (fun j a=>by rw[wu a])
 unfold xy;rw[e,<-Bool.and_assoc,Bool.and_comm (bE (pinB ps) ps.length),Bool.and_assoc,<-yj]
 congr 1
 refine sC (fun j a=>?_);unfold pinS pinB;cases hd:decide (j+1=ps.length)
 .simp only[Cj];cases bE (QJ (ps.map bj.Bh) j) j<;>cases sY (gt ps j).Bh<;>cases gd (gt ps j).Br 0 500<;>cases ((gt ps j).Bx==1)<;>rfl
 .simp only[Ci];cases hcap:((gt ps j).Br==0)
  .simp
  .have:gd (gt ps j).Br 0 500=An:=by rw[beq_iff_eq] at hcap;rw[hcap];rfl
   rw[this];cases bE (QJ (ps.map bj.Bh) j) j<;>cases sY (gt ps j).Bh<;>cases ((gt ps j).Bx==2)<;>cases (gt ps j).Bs<;>rfl
theorem YL{c:qR}(h:vz zw c.Bg):Ev (fun n=>wd n c) (bif xy c.Bg then(((xT c.Bg c.Bg.length:Nat):Int),An) else(0,Cd)):=by
 have s:=h.len;have l:∀j,j<c.Bg.length->Ev (fun n=>mp c (j:Int) (gt c.Bg j) n 0) (bif bE (QJ (c.Bg.map bj.Bh) j) j then .nxt (j:Int) else .ret (0,Cd)):=by
  intro j b;refine lD ?_ (fun i hi X a=>Cm ?_)
  .exact Cm (by simp only[mp,qu (jf _),Cj];exact .done)
  .simp only[mp,qq hi,Ci,qz (show i<c.Bg.length by omega),jd,se,wS i];unfold QJ;rw[wu (g:=bj.Bh) (show i<c.Bg.length by omega),wu (g:=bj.Bh) b];exact Ev.chkP1 (fun _=>a)
 have k:Ev (fun n=>gQ c n 0 0) (bif bE (pinS c.Bg) c.Bg.length then .nxt (((xT c.Bg c.Bg.length:Nat):Int),(c.Bg.length:Int)) else .ret (0,Cd)):=by
  refine QF (Lf:=gQ c) (S:=fun j=>((xT c.Bg j:Nat):Int)) (pinS c.Bg) (fun n=>?_) (fun j b u X a=>?_)
  .simp only[gQ,qu (jf _),Cj]
  .have t:xT c.Bg j<=j:=nX;have d:((j:Int)==qj ((c.Bg.length:Int)-1))=decide (j+1=c.Bg.length):=C1 b s;have f:decide ((j:Int)<qj ((c.Bg.length:Int)-1)) = !decide (j+1=c.Bg.length):=by
    rw[qY (by omega) (by omega),jn];simp;omega
   simp only[gQ,qq b,Ci,qz b,jd,wS j,sf (show xT c.Bg j<9223372036854775807 by omega),d,f,fC];unfold pinS;refine Ck (l j b) ?_;cases ha:bE (QJ (c.Bg.map bj.Bh) j) j
   .exact .done
   .simp only[Ci,jL];refine Ev.chkT ?_ (fun o=>?_)
    .exact Ev.or (zn (BD h b).Bh) (fun _=>.done)
    .refine Ev.chkT1 ?_ (fun r=>?_)
     .cases decide (j+1=c.Bg.length)
      .exact .done
      .simp only[Ci,Jm,Cj,bne,gX];cases ((gt c.Bg j).Bx==2)<;>cases ((gt c.Bg j).Br==0)<;>cases (gt c.Bg j).Bs<;>exact .done
     .have a:=a (by unfold pinS;rw[ha,o,r];rfl);have m:xT c.Bg (j+1)=xT c.Bg j+(bif (gt c.Bg j).Bs then 1 else 0):=rfl;rw[m] at a;cases hc:(gt c.Bg j).Bs
      .rw[hc] at a;exact Cp Z a
      .rw[hc] at a;exact Cr Z a
 rw[<-qa5];unfold wd;refine Ev.guard ?_ (fun o=>?_)
 .unfold zo;have e1:decide ((c.Bg.length:Int)<2) = !decide (2<=c.Bg.length):=by rw[jn];simp;omega
  have p:decide ((c.Bg.length:Int) > 5) = !decide (c.Bg.length<=5):=by rw[jn];simp;omega
  rw[e1,p];cases decide (2<=c.Bg.length)<;>cases decide (c.Bg.length<=5)<;>exact .done
 .refine Ck k ?_;cases bE (pinS c.Bg) c.Bg.length<;>exact .done
def qcw(xs:List Int):Int:=(xs.drop 1).foldl (fun m y=>if y<m then y else m) (bO xs 0)
def qd4(xs:List Int):Int:=(xs.drop 1).foldl (fun m y=>if y > m then y else m) (bO xs 0)
theorem NY{t:aa}(h:wU t=An):1<=t.Bi.length:=by
 unfold wU un zo at h;simp only[je,decide_eq_true_eq] at h;obtain⟨⟨⟨a,_⟩,_⟩,⟨⟨b,_⟩,_⟩,c,_⟩:=h;rw[c];exact Nat.mul_pos a b
theorem qbh{xs:List Int}(b:1<=xs.length)(f:xs.length<=1048576):Ev (fun n=>rk n xs) (qcw xs):=by
 have c:=(HO (Lf:=fun n t j=>gD xs n t j) (xs:=xs) (step:=fun(m y:Int)=>if y<m then y else m) (fin:=fun t=>(t,(xs.length:Int))) 1 (bO xs 0) (fun _ _=>True) b trivial (fun _ _ _ _=>trivial)
  (fun n t=>by simp only[gD,qu (jf _),Cj])
  (fun j t a _ X d=>by simpa only[gD,qq a,Ci,cj a,jd,wS j] using d)).1
 unfold rk;rw[show decide ((xs.length:Int)<1)=Cd by simp;omega,show qF xs (0:Int)=V (bO xs 0) from aX (j:=0) (by omega)];simp only[Cj,jd];exact Ck c .done
theorem ZP{t:aa}(h:tP t):Ev (fun n=>rm n t) (bif wU t then(⟨qcw t.Bi,qd4 t.Bi⟩,0) else(⟨0,0⟩,1)):=by
 unfold rm;refine Ev.chk1 (WJ h) (fun k=>?_);have g:=NY k;have o:=h.Bi.len;have d:=(HO (Lf:=fun n (c:Int×Int) j=>gE t n c.1 c.2 j) (xs:=t.Bi) (step:=fun(m:Int×Int) y=>(if y<m.1 then y else m.1,if y > m.2 then y else m.2)) (fin:=fun c=>(c.1,c.2,(t.Bi.length:Int))) 1 (bO t.Bi 0,bO t.Bi 0) (fun _ _=>True) g trivial (fun _ _ _ _=>trivial)
  (fun n t=>by simp only[gE,qu (jf _),Cj])
  (fun j t f _ X i=>by simpa only[gE,qq f,Ci,cj f,jd,wS j] using i)).1
 have l:∀(ys:List Int) (a b:Int),ys.foldl (fun(m:Int×Int) y=>(if y<m.1 then y else m.1,if y > m.2 then y else m.2)) (a,b)=(ys.foldl (fun m y=>if y<m then y else m) a,ys.foldl (fun m y=>if y > m then y else m) b):=by
  intro ys
  induction ys with
  |nil=>intro a b;rfl
  |cons y ys ih=>intro a b;simp only[List.foldl_cons,ih]
 rw[l] at d;rw[show qF t.Bi (0:Int)=V (bO t.Bi 0) from aX (j:=0) (by omega)];simp only[jd];exact Ck d .done
def ZQ(pos:Bool)(t:aa):Bool:=wU t&&(!pos || decide (0<=qcw t.Bi))
def nj(a:List aa)(pos:Bool):Bool:=decide (a.length=2)&&a.all (ZQ pos)
theorem zd{a:List aa}{pos:Bool}(h:vz tP a):Ev (fun n=>nD n a pos) (nj a pos):=by
 have g:=h.len;have c:Ev (fun n=>bR n a pos) (KZ (fun x=>!ZQ pos x) a):=
  nF (fin:=(a.length:Int)) (Lf:=ay a pos) (pf:=fun n x=>pW n x pos) (fun x b=>by
    unfold pW ZQ;refine Ev.or (XK (h.2 x b)) (fun d=>?_);cases pos
    .exact .done
    .refine Cr Z (Ck (qbh (NY d) (h.2 x b).Bi.len) (Cx ?_))
     congr 1
     rw[jn];simp)
   (fun n=>by simp only[ay,qu (jf _),Cj])
   (fun n j x b=>by
    have f:=(List.getElem?_eq_some_iff.1 b).1;simp only[ay,qq f,Ci,pp b,jd,wS j])
   (fun n=>by unfold bR;congr 1;funext o;cases o<;>rfl)
 unfold nD cD nj;rw[show((a.length:Int)==2)=decide (a.length=2) by rw[jn];simp;omega];refine Cu (fun _=>Ck (Ck c (Cx Z)) (Cx ?_));rw[BP,GG]
theorem tL{a:List aa}{pos:Bool}(h:vz tP a):Ev (fun n=>iY n a pos) (nj a pos):=by
 unfold iY nj;rw[show((a.length:Int) != 2) = !decide (a.length=2) by rw[jn];simp;omega];simp only[gX];refine Cu (fun b=>?_);have b:a.length=2:=by simpa using b
 have f:Ev (fun n=>gr a pos n 0) (bif bE (fun j=>ZQ pos (gt a j)) a.length then .nxt (2:Int) else .ret Cd):=by
  refine lD (len:=a.length) ?_ (fun j d X c=>Cm ?_)
  .rw[b];exact Cm (by simp only[gr];exact .done)
  .simp only[gr,show decide ((j:Int)<2)=An by simp;omega,Ci,qz d,jd,wS j];refine Ck (ZP (BD h d)) ?_;unfold ZQ;cases wU (gt a j)
   .exact .done
   .simp only[Ci,jL];refine Cp Z ?_;cases pos
    .exact c
    .refine Cr Z ?_;rw[show decide (qcw (gt a j).Bi<0) = !decide (0<=qcw (gt a j).Bi) by rw[jn];simp];simp only[gX];exact Ev.okP1 (fun _=>c)
 rw[tn];refine Ck f ?_;cases bE (fun j=>ZQ pos (gt a j)) a.length<;>exact .done

theorem kO{α:Type}[Inhabited α]{xs:List α}{x:Int}(a:0<=x)(b:x<xs.length):qF xs x=V (gt xs x.toNat):=by
  have:=qz (xs:=xs) (j:=x.toNat) (by omega);rwa [<-fa a] at this
theorem PP{q:Nat->Bool}{m n:Nat}(h:m<=n):gf q m<=gf q n:=by
  induction n with
  |zero=>
    obtain rfl:m=0:=by omega
    exact jf _
  |succ n ih=>
    rcases Nat.lt_or_eq_of_le h with h|rfl
    · exact jX (ih (by omega)) (Nat.le_add_right _ _)
    · exact jf _
theorem DC{m k:Nat}:decide ((m:Int)<=(k:Int))=decide (m<=k):=by rw[jn];simp
theorem UN{q:Nat->Bool}{n i j:Nat}(hi:i<j)(d:j<n)(a:q i=An)(b:q j=An):2<=gf q n:=by
  have e1:gf q (i+1)=gf q i+1:=by rw[gf,a];rfl
  have c:gf q (j+1)=gf q j+1:=by rw[gf,b];rfl
  have f:=PP (q:=q) (show i+1<=j by omega);have g:=PP (q:=q) (show j+1<=n by omega);omega
theorem UL{q:Nat->Bool}{n i j:Nat}(d:gf q n<=1)(hi:i<n)(c:j<n)(a:q i=An)(b:q j=An):i=j:=by
  rcases Nat.lt_trichotomy i j with h|h|h
  · have:=UN h c a b;omega
  · exact h
  · have:=UN h hi b a;omega
def UI(ps:List bj):Int:=KZ (fun p=>p.Bs) ps
def zL(ps:List bj)(x:Int):Bool:=(gt ps x.toNat).Bs
theorem Q6{c:qR}(f:c.Bg.length<=1048576):Ev (fun n=>sn n c) (UI c.Bg):=by
  unfold sn;refine Ck (b:=UI c.Bg) ?_ .done;exact nF (fin:=(c.Bg.length:Int)) (Lf:=aD c.Bg) (pf:=fun n x=>tw n x) (fun _ _=>.done)
    (fun n=>by simp only[aD,qu (jf _),Cj])
    (fun n j x a=>by
      have d:=(List.getElem?_eq_some_iff.1 a).1;simp only[aD,qq d,Ci,pp a,jd,wS j])
    (fun n=>by unfold dm;congr 1;funext o;cases o<;>rfl)
def TZ(ps:List bj)(a:bi):Bool:=
  bif (a.Bf==4) || (a.Bf==5) then
    (a.Bq==0)&&(((a.Bb.length:Int)==0)&&(nj a.Bu Cd&&((a.Bk==UI ps)&&(decide (a.Bk>=0)&&(gd a.To 0 (ps.length-2)&&!(a.To==a.Bk))))))
  else
    (nj a.Bu An&&(nj a.Bb An&&((a.To==(ps.length:Int)-1)&&gd a.Bk 0 (ps.length-2)))) &&
      (bif a.Bf==1 then !zL ps a.Bk&&gd a.Bq 1 3 else(bif (a.Bf==2) || (a.Bf==3) then zL ps a.Bk&&(a.Bq==0) else Cd))
def AS(ps:List bj)(a:bi):Bool:=
  (gd a.Bk 0 (ps.length-2)&&gd a.To 0 (ps.length-1)) &&
    (bif a.Bf==1 then !zL ps a.Bk&&((a.To==(ps.length:Int)-1)&&(gd a.Bq 1 3&&(nj a.Bu An&&nj a.Bb An)))
     else(bif (a.Bf==2) || (a.Bf==3) then zL ps a.Bk&&((a.To==(ps.length:Int)-1)&&((a.Bq==0)&&(nj a.Bu An&&nj a.Bb An)))
     else(bif (a.Bf==4) || (a.Bf==5) then zL ps a.Bk&&(decide (a.To<(ps.length:Int)-1)&&(!zL ps a.To&&((a.Bq==0)&&(nj a.Bu Cd&&((a.Bb.length:Int)==0))))) else Cd)))
theorem KD{c d:Bool}:(bif c then V c else V d)=V (c || d):=by cases c<;>rfl
theorem UE{c d:Bool}:(bif c then V An else V d)=V (c || d):=by cases c<;>rfl
theorem YJ{n:Nat}{k:Int}:vT n k=V ((k==4) || (k==5)):=by simp only[vT,UE]
theorem T8{c:qR}{a:bi}(h:vz zw c.Bg)(b:zu a)(k:2<=c.Bg.length):Ev (fun n=>sq n c a) (TZ c.Bg a):=by
  have i:=h.len;have e1:qj ((c.Bg.length:Int)-1)=(c.Bg.length:Int)-1:=mM (by omega);have f:qj ((c.Bg.length:Int)-1-1)=(c.Bg.length:Int)-2:=by rw[qY (by omega) (by omega)];omega
  simp only[sq,YJ,jd,oU,lc,fR,e1,f,fx,KD,bne];unfold TZ;refine Ev.iff (fun _=>Ev.last ?_) (fun _=>Ev.guardB ?_ (fun d=>?_))
  · exact Cu fun _=>Cu fun _=>Ev.and (zd b.Bu) fun _=>Ck (Q6 i) (Cu fun _=>Cu fun _=>Cu fun _=>.done)
  · refine Ev.or (zd b.Bu) fun _=>Ev.or (zd b.Bb) fun _=>?_
    simp only[gX];exact Ev.orBP fun _=>.done
  · have g:0<=a.Bk/\a.Bk<=(c.Bg.length:Int)-2:=by
      simp only[je,bV] at d;exact d.2.2.2
    simp only[kO g.1 (show a.Bk<(c.Bg.length:Int) by omega),jd];exact Ev.iff (fun _=>Cu fun _=>.done) (fun _=>Ev.iff (fun _=>Cu fun _=>.done) (fun _=>.done))
theorem G8{c:qR}{a:bi}(h:vz zw c.Bg)(b:zu a)(k:2<=c.Bg.length):Ev (fun n=>xH n c a) (AS c.Bg a):=by
  have i:=h.len;have e1:qj ((c.Bg.length:Int)-1)=(c.Bg.length:Int)-1:=mM (by omega);have g:qj ((c.Bg.length:Int)-1-1)=(c.Bg.length:Int)-2:=by rw[qY (by omega) (by omega)];omega
  simp only[xH,jd,e1,g,fC,KD];unfold AS;refine Ev.guardB ?_ (fun d=>?_)
  · simp only[gX]
    exact Ev.orBP fun _=>.done
  · have f:(0<=a.Bk/\a.Bk<=(c.Bg.length:Int)-2)/\(0<=a.To/\a.To<=(c.Bg.length:Int)-1):=by
      simp only[je,bV] at d;exact d
    simp only[kO f.1.1 (show a.Bk<(c.Bg.length:Int) by omega),kO f.2.1 (show a.To<(c.Bg.length:Int) by omega),jd];refine Ev.iff (fun _=>?_) (fun _=>Ev.iff (fun _=>?_) (fun _=>Ev.iff (fun _=>?_) (fun _=>.done)))
    · exact Cu fun _=>Cu fun _=>Cu fun _=>Ev.and (tL b.Bu) fun _=>Ev.last (tL b.Bb)
    · exact Cu fun _=>Cu fun _=>Cu fun _=>Ev.and (tL b.Bu) fun _=>Ev.last (tL b.Bb)
    · exact Cu fun _=>Cu fun _=>Cu fun _=>Cu fun _=>Ev.and (tL b.Bu) fun _=>.done
theorem HK{ps:List bj}(f:xT ps ps.length<=1){x:Int}(k:0<=x):UI ps=x↔x<ps.length/\zL ps x=An:=by
  unfold UI KZ;cases hf:ps.findIdx? (fun p=>p.Bs) with
  |some j=>
    obtain⟨d,i,_⟩:=List.findIdx?_eq_some_iff_getElem.1 hf;have b:(gt ps j).Bs=An:=by rw[fh d];exact i
    constructor
    · intro e
      have e:(j:Int)=x:=e;subst e;exact⟨by omega,by unfold zL;rw[jr];exact b⟩
    · rintro⟨g,a⟩
      have:=UL f d (show x.toNat<ps.length by omega) b a;show(j:Int)=x;omega
  |none=>
    have h:=List.findIdx?_eq_none_iff.1 hf;constructor
    · intro e
      have e:(-1:Int)=x:=e;omega
    · rintro⟨g,a⟩
      have c:x.toNat<ps.length:=by omega
      unfold zL at a;rw[fh c] at a;have:=h _ (jo c);rw[a] at this;exact absurd this (by decide)
theorem pG{ps:List bj}(h:xy ps=An):(2<=ps.length/\ps.length<=5)/\zL ps ((ps.length:Int)-1)=Cd:=by
  unfold xy zo at h;simp only[je,decide_eq_true_eq] at h;refine⟨h.2.1,?_⟩;have a:=aG.1 h.1 (ps.length-1) (by omega);unfold pinB at a;rw[show decide (ps.length-1+1=ps.length)=An by simp;omega] at a;simp only[Ci,je,jC] at a;unfold zL;rw[show((ps.length:Int)-1).toNat=ps.length-1 by omega];exact a.2.2
theorem P3{ps:List bj}{a:bi}(h:xy ps=An)(b:xT ps ps.length<=1):TZ ps a=AS ps a:=by
  obtain⟨⟨D,z⟩,l⟩:=pG h;rw[jn];unfold TZ AS;cases h45:((a.Bf==4) || (a.Bf==5)) with
  |true=>
    have B:(a.Bf==1)=Cd:=by simp at h45⊢;omega
    have u:((a.Bf==2) || (a.Bf==3))=Cd:=by simp at h45⊢;omega
    rw[B,u];simp only[Ci,Cj,je,bV,decide_eq_true_eq,beq_iff_eq,jC,beq_eq_false_iff_ne,ne_eq];constructor
    · rintro⟨t,m,s,p,o,r,A⟩
      obtain⟨C,n⟩:=(HK b o).1 p.symm;have x:a.Bk≠(ps.length:Int)-1:=by intro e;rw[e,l] at n;cases n
      refine⟨⟨⟨o,by omega⟩,⟨r.1,by omega⟩⟩,n,by omega,?_,t,s,m⟩;cases c:zL ps a.To with
      |false=>rfl
      |true=>
        have:=(HK b r.1).2 ⟨by omega,c⟩;omega
    · rintro⟨⟨p,r⟩,n,y,c,t,s,m⟩
      have:=(HK b p.1).2 ⟨by omega,n⟩;refine⟨t,m,s,this.symm,p.1,⟨r.1,by omega⟩,?_⟩;intro e;rw[e,n] at c;cases c
  |false=>
    simp only[Cj,je,bV,beq_iff_eq];cases (a.Bf==1)
    · cases ((a.Bf==2) || (a.Bf==3))
      · simp
      · simp only[Ci,Cj,je,beq_iff_eq]
        constructor
        · rintro⟨⟨b,d,f,g⟩,i,k⟩
          exact⟨⟨g,by omega⟩,i,f,k,b,d⟩
        · rintro⟨⟨g,v⟩,i,f,k,b,d⟩
          exact⟨⟨b,d,f,g⟩,i,k⟩
    · simp only[Ci,je,bV,jC,beq_iff_eq]
      constructor
      · rintro⟨⟨b,d,f,g⟩,i,k⟩
        exact⟨⟨g,by omega⟩,i,f,k,b,d⟩
      · rintro⟨⟨g,v⟩,i,f,k,b,d⟩
        exact⟨⟨b,d,f,g⟩,i,k⟩
theorem PM{ps:List bj}{a:bi}(h:AS ps a=An):1<=a.Bf/\a.Bf<=5:=by
  unfold AS at h;rw[je] at h;have h:=h.2;cases h1:(a.Bf==1)
  · cases h2:((a.Bf==2) || (a.Bf==3))
    · cases h4:((a.Bf==4) || (a.Bf==5))
      · rw[h1,h2,h4] at h;cases h
      · simp at h4;omega
    · simp at h2;omega
  · simp at h1;omega
def GV(x y:bi):Bool:=(x.Bf==y.Bf)&&((x.Bk==y.Bk)&&(x.To==y.To))
def xZ(ar:List bi)(j:Nat):Bool:=bE (fun i=>!GV (gt ar i) (gt ar j)) j
theorem XR{c:qR}(h:vz zw c.Bg)(d:vz zu c.Az)(m:2<=c.Bg.length):Ev (fun n=>oT n c) (bE (fun j=>TZ c.Bg (gt c.Az j)&&xZ c.Az j) c.Az.length&&decide (c.Az.length<=8)):=by
  have l:=d.len;have g:∀(ar:List bi) (y:bi),ar.length<=1048576->Ev (fun n=>bB n ar y) (ar.any fun x=>GV x y):=by
    intro ar y l;unfold bB;refine Ck (b:=KZ (fun x=>GV x y) ar) (nF (fin:=(ar.length:Int)) (Lf:=am ar y) (pf:=fun n x=>nf n x y) (fun x _=>?_)
      (fun n=>by simp only[am,qu (jf _),Cj])
      (fun n j x f=>by
        have a:=(List.getElem?_eq_some_iff.1 f).1;simp only[am,qq a,Ci,pp f,jd,wS j])
      (fun n=>by unfold cM;congr 1;funext o;cases o<;>rfl)) (Cx (by rw[BP]))
    unfold nf GV;exact Cu fun _=>Cu fun _=>.done
  have i:Ev (fun n=>fO c n 0) (bif bE (fun j=>TZ c.Bg (gt c.Az j)&&xZ c.Az j) c.Az.length then .nxt (c.Az.length:Int) else .ret Cd):=by
    refine lD ?_ (fun j a X k=>Cm ?_)
    · exact Cm (by simp only[fO,qu (jf _),Cj];exact .done)
    · simp only[fO,qq a,Ci,qz a,jd,IY (Nat.le_of_lt a),wS j]
      refine Ev.chk (T8 h (BD d a) m) fun _=>Ev.chkT1 ?_ (fun _=>k);refine(g _ _ (by simp;omega)).cast ?_;rw[O9 (Nat.le_of_lt a)];rfl
  unfold oT;refine Ck i ?_;cases bE (fun j=>TZ c.Bg (gt c.Az j)&&xZ c.Az j) c.Az.length
  · exact .done
  · refine Cx ?_
    show V (decide ((c.Az.length:Int)<=((8:Nat):Int)))=V (An&&decide (c.Az.length<=8));rw[DC,jL]
def DN(ar:List bi)(k:Int):Bool:=ar.any fun a=>a.Bf==k
theorem HP{c:qR}{k:Int}(f:c.Az.length<=1048576):Ev (fun n=>iL n c k) (DN c.Az k):=by
  unfold iL dg;exact Ev.last (Ck (b:=KZ (fun x=>x.Bf==k) c.Az) (nF (fin:=(c.Az.length:Int)) (Lf:=aH c.Az k) (pf:=fun n x=>vu n x k) (fun x _=>.done)
      (fun n=>by simp only[aH,qu (jf _),Cj])
      (fun n j x a=>by
        have d:=(List.getElem?_eq_some_iff.1 a).1;simp only[aH,qq d,Ci,pp a,jd,wS j])
      (fun n=>by unfold dG;congr 1;funext o;cases o<;>rfl)) (Cx (by rw[BP];rfl)))
def sV(ar:List bi)(k:Nat)(j:Nat):Nat:=gf (fun i=>(gt ar i).Bf==(k:Int)) j
theorem QD{ar:List bi}{k:Nat}:decide (((sV ar k ar.length:Nat):Int) > 0)=DN ar k:=by
  rw[show decide (((sV ar k ar.length:Nat):Int) > 0)=decide (0<sV ar k ar.length) by simp];unfold sV DN;rw[UM,XP]
theorem YK{ar:List bi}{k:Nat}:(((sV ar k ar.length:Nat):Int)==0) = !DN ar k:=by
  rw[<-QD,jn];simp
theorem VH{c:qR}(g:vz zu c.Az)(h:∀j,j<c.Az.length->1<=(gt c.Az j).Bf/\(gt c.Az j).Bf<=5):Ev (fun n=>uR n c) (gU (fun k=>sV c.Az k c.Az.length) 6):=by
  have o:=g.len;have d:Ev (fun n=>io c n (gU (fun _=>0) 6) 0) (gU (fun k=>sV c.Az k c.Az.length) 6,(c.Az.length:Int)):=by
    refine fD (Lf:=io c) (S:=fun j=>gU (fun k=>sV c.Az k j) 6) (len:=c.Az.length) (fun n=>?_) (fun j a X f=>?_)
    · simp only[io,qu (jf _),Cj]
    · obtain⟨p,r⟩:=h j a
      have b:(gt c.Az j).Bf=(((gt c.Az j).Bf.toNat:Nat):Int):=fa (by omega);have l:sV c.Az (gt c.Az j).Bf.toNat j<=j:=nX;simp only[io,qq a,Ci,qz a,jd,wS j];rw[b,wW (show(gt c.Az j).Bf.toNat<6 by omega)];simp only[jd];rw[RA (c:=fun k=>sV c.Az k j) (by show sV c.Az _ j<_;omega)];have:gU (fun i=>sV c.Az i j+(bif decide ((gt c.Az j).Bf.toNat=i) then 1 else 0)) 6=gU (fun k=>sV c.Az k (j+1)) 6:=by
        refine wV (fun k _=>?_);show _=sV c.Az k j+(bif (gt c.Az j).Bf==(k:Int) then 1 else 0)
        congr 2
        rw[jn];simp;omega
      rw[this];exact f
  unfold uR;rw[show xY 6 (0:Int)=V (gU (fun _=>0) 6) from DL (m:=6) (by omega)];simp only[jd];exact Ck d .done
def KI(c:qR):Bool:=
  bif c.Bf==1 then(((xT c.Bg c.Bg.length:Nat):Int)==0)&&(((c.Bt.length:Int)==((2 ^ (c.Bg.length-1):Nat):Int))&&(c.Bt.all fun x=>gd x 0 1))
  else bif c.Bf==2 then(((xT c.Bg c.Bg.length:Nat):Int)==1)&&(((c.Bt.length:Int)==0)&&(!DN c.Az 1&&!(DN c.Az 2==DN c.Az 3)))
  else bif c.Bf==3 then(((xT c.Bg c.Bg.length:Nat):Int)==1)&&(((c.Bt.length:Int)==0)&&(DN c.Az 1&&(DN c.Az 2&&!DN c.Az 3)))
  else Cd
theorem QC{c:qR}(h:KI c=An):xT c.Bg c.Bg.length<=1:=by
  unfold KI at h;cases h1:(c.Bf==1)
  · cases h2:(c.Bf==2)
    · cases h3:(c.Bf==3)
      · rw[h1,h2,h3] at h;cases h
      · rw[h1,h2,h3] at h
        simp only[Ci,Cj,je,beq_iff_eq] at h;omega
    · rw[h1,h2] at h
      simp only[Ci,Cj,je,beq_iff_eq] at h;omega
  · rw[h1] at h
    simp only[Ci,je,beq_iff_eq] at h;omega
theorem WK{m:Nat}(a:2<=m)(b:m<=5):ZJ 1 (qj ((m:Int)-1))=V ((2 ^ (m-1):Nat):Int)/\ZJ 1 (IntKind.wrap .u64 (qj ((m:Int)-1)))=V ((2 ^ (m-1):Nat):Int):=by
  have:m=2\/m=3\/m=4\/m=5:=by omega
  rcases this with rfl|rfl|rfl|rfl<;>exact⟨by decide,by decide⟩
theorem VF{c:qR}(b:DE c)(k:2<=c.Bg.length)(g:c.Bg.length<=5):Ev (fun n=>nY n c) (KI c):=by
  have l:=b.Bg.len;have i:Ev (fun n=>cN c n 0 0) (((xT c.Bg c.Bg.length:Nat):Int),(c.Bg.length:Int)):=by
    refine fD (Lf:=cN c) (S:=fun j=>((xT c.Bg j:Nat):Int)) (len:=c.Bg.length) (fun n=>?_) (fun j h X d=>?_)
    · simp only[cN,qu (jf _),Cj]
    · have m:xT c.Bg j<=j:=nX
      simp only[cN,qq h,Ci,qz h,jd,wS j,sf (show xT c.Bg j<9223372036854775807 by omega)];have f:xT c.Bg (j+1)=xT c.Bg j+(bif (gt c.Bg j).Bs then 1 else 0):=rfl;rw[f] at d;cases b:(gt c.Bg j).Bs
      · rw[b] at d;exact Cp Z d
      · rw[b] at d;exact Cr Z d
  unfold nY KI;refine Ck i ?_;simp only[lc,fR,jd,(WK k g).1];have a:=b.Az.len;refine Ev.iff (fun _=>?_) (fun _=>Ev.iff (fun _=>?_) (fun _=>Ev.iff (fun _=>?_) (fun _=>.done)))
  · exact Cu fun _=>Cu fun _=>Ev.last (iJ b.Bt.len)
  · exact Cu fun _=>Cu fun _=>Ck (HP a) (Cu fun _=>Ck (HP a) (Ck (HP a) .done))
  · exact Cu fun _=>Cu fun _=>Ev.and (HP a) fun _=>Ev.and (HP a) fun _=>Ck (HP a) .done
def rC(c:qR):Bool:=
  sY c.Bh&&(xy c.Bg&&((bE (fun j=>TZ c.Bg (gt c.Az j)&&xZ c.Az j) c.Az.length&&decide (c.Az.length<=8))&&(gd c.Cc 0 100000&&(gd c.Bz 0 100000&&KI c))))
theorem E2{c:qR}(a:DE c):Ev (fun n=>xn n c) (rC c):=by
  simp only[xn,HU a.Bh,fx,jd];unfold rC;refine Cu fun _=>Ev.and (XS a.Bg) fun f=>?_;obtain⟨⟨d,b⟩,_⟩:=pG f;exact Ev.and (XR a.Bg a.Az d) fun _=>Cu fun _=>Cu fun _=>Ev.last (VF a d b)
theorem ZE{c:qR}(d:DE c):Ev (fun n=>xD n c) (rC c):=by
  have p:=d.Az.len;have r:=d.Bt.len;have e:rC c=((xy c.Bg&&(sY c.Bh&&(decide (c.Az.length<=8)&&(gd c.Cc 0 100000&&gd c.Bz 0 100000))))&&(bE (fun j=>AS c.Bg (gt c.Az j)&&xZ c.Az j) c.Az.length&&KI c)):=by
    unfold rC;cases l:KI c
    · simp
    · cases hp:xy c.Bg
      · simp
      · rw[sC (fun j _=>by rw[P3 hp (QC l)])]
        cases sY c.Bh<;>cases bE (fun j=>AS c.Bg (gt c.Az j)&&xZ c.Az j) c.Az.length<;>cases decide (c.Az.length<=8)<;>cases gd c.Cc 0 100000<;>cases gd c.Bz 0 100000<;>rfl
  rw[e];unfold xD;refine Ck (YL d.Bg) ?_;cases hp:xy c.Bg
  · exact .done
  · obtain⟨⟨o,m⟩,_⟩:=pG hp
    simp only[Ci,jL,Jm,Cj];refine Ev.guardB ?_ (fun _=>?_)
    · simp only[fC,jd,gX]
      refine Ev.orB (zn d.Bh) fun _=>?_;rw[show decide ((c.Az.length:Int) > 8) = !decide (c.Az.length<=8) by rw[jn];simp;omega,gX];exact Ev.orBP fun _=>Ev.orBP fun _=>.done
    · have g:∀j,j<c.Az.length->Ev (fun n=>iX c (j:Int) (gt c.Az j) n 0) (bif xZ c.Az j then .nxt (j:Int) else .ret Cd):=by
        intro j a;refine lD ?_ (fun i hi X b=>Cm ?_)
        · exact Cm (by simp only[iX,qu (jf _),Cj];exact .done)
        · simp only[iX,qq hi,Ci,qz (show i<c.Az.length by omega),jd,wS i]
          unfold GV;cases ((gt c.Az i).Bf==(gt c.Az j).Bf)
          · exact b
          · cases ((gt c.Az i).Bk==(gt c.Az j).Bk)
            · exact b
            · cases ((gt c.Az i).To==(gt c.Az j).To)
              · exact b
              · exact .done
      have f:Ev (fun n=>nJ c n 0) (bif bE (fun j=>AS c.Bg (gt c.Az j)&&xZ c.Az j) c.Az.length then .nxt (c.Az.length:Int) else .ret Cd):=by
        refine lD ?_ (fun j a X b=>Cm ?_)
        · exact Cm (by simp only[nJ,qu (jf _),Cj];exact .done)
        · simp only[nJ,qq a,Ci,qz a,jd,wS j]
          refine Ev.chk (G8 d.Bg (BD d.Az a) o) fun _=>Ck (g j a) ?_;cases xZ c.Az j
          · exact .done
          · exact b
      have h:Ev (fun n=>nK c n 0) (bif (c.Bt.all fun x=>gd x 0 1) then .nxt (c.Bt.length:Int) else .ret Cd):=
        FO (fun n=>by simp only[nK,qu (jf _),Cj]) (fun j a X b=>by
          simp only[nK,qq a,Ci,cj a,jd,fC,wS j,gX];exact Ev.okP1 fun _=>b)
      refine Ck f ?_;cases hA:bE (fun j=>AS c.Bg (gt c.Az j)&&xZ c.Az j) c.Az.length
      · exact .done
      · have l:∀j,j<c.Az.length->1<=(gt c.Az j).Bf/\(gt c.Az j).Bf<=5:=fun j a=>by
          have:=aG.1 hA j a;rw[je] at this;exact PM this.1
        simp only[Ci,jL];refine Ck (VH d.Az l) ?_;simp only[(WK o m).2,jd,
          show qF (gU (fun k=>sV c.Az k c.Az.length) 6) (1:Int)=V ((sV c.Az 1 c.Az.length:Nat):Int) from wW (k:=1) (by omega),
          show qF (gU (fun k=>sV c.Az k c.Az.length) 6) (2:Int)=V ((sV c.Az 2 c.Az.length:Nat):Int) from wW (k:=2) (by omega),
          show qF (gU (fun k=>sV c.Az k c.Az.length) 6) (3:Int)=V ((sV c.Az 3 c.Az.length:Nat):Int) from wW (k:=3) (by omega),QD,YK]
        unfold KI;refine Ev.iff (fun _=>?_) (fun _=>Ev.iff (fun _=>?_) (fun _=>Ev.iff (fun _=>?_) (fun _=>.done)))
        · refine Ck h ?_
          cases (c.Bt.all fun x=>gd x 0 1)
          · exact Cx (by simp)
          · exact(Cu (fun _=>.done)).cast (by rw[Bool.and_true])
        · refine(Cu fun _=>Cu fun _=>Cu fun _=>.done).cast ?_
          cases (((xT c.Bg c.Bg.length:Nat):Int)==1)<;>cases ((c.Bt.length:Int)==0)<;>cases DN c.Az ((1:Nat):Int)<;>cases DN c.Az ((2:Nat):Int)<;>cases DN c.Az ((3:Nat):Int)<;>rfl
        · refine(Cu fun _=>Cu fun _=>Cu fun _=>Cu fun _=>.done).cast ?_
          cases (((xT c.Bg c.Bg.length:Nat):Int)==1)<;>cases ((c.Bt.length:Int)==0)<;>cases DN c.Az ((1:Nat):Int)<;>cases DN c.Az ((2:Nat):Int)<;>cases DN c.Az ((3:Nat):Int)<;>rfl
def LD(l:qB):Bool:=l.Au.all rC&&(decide (l.Au.length<=8)&&nH (l.Au.map qR.Bh))
theorem RH{l:qB}(h:pE l):Ev (fun n=>tA n l) (LD l):=by
  have d:=h.Au.len;have b:Ev (fun n=>gm l n ([]:List ByteArray) 0) (bif bE (fun j=>rC (gt l.Au j)) l.Au.length then .nxt (l.Au.map qR.Bh,(l.Au.length:Int)) else .ret Cd):=by
    refine QF (Lf:=gm l) (S:=fun j=>(l.Au.take j).map qR.Bh) (fun j=>rC (gt l.Au j)) (fun n=>?_) (fun j a i X c=>?_)
    · simp only[gm,qu (jf _),Cj,jG]
    · simp only[gm,qq a,Ci,qz a,jd,yk a d,ox (g:=qR.Bh) a,wS j]
      exact Ev.chk1 (E2 (BD h.Au a)) c
  unfold tA LD;rw[tn];refine Ck b ?_;cases bE (fun j=>rC (gt l.Au j)) l.Au.length
  · exact .done
  · simp only[Ci,jL,show decide ((l.Au.length:Int)<=8)=decide (l.Au.length<=8) from DC (k:=8)]
    exact Cu fun _=>Ev.last (uW (DD h.Au (fun x f=>f.Bh)))

theorem XV{c:qR}(h:rC c=An):sY c.Bh=An:=by
 unfold rC at h;rw[je] at h;exact h.1
theorem uw{c:qR}(h:rC c=An):xy c.Bg=An:=by
 unfold rC at h;simp only[je] at h;exact h.2.1
theorem PF{l:qB}(h:pE l):Ev (fun n=>tV n l) (LD l):=by
 have f:=h.Au.len;have c:∀j,j<l.Au.length->Ev (fun n=>kj l (j:Int) n 0) (bif bE (QJ (l.Au.map qR.Bh) j) j then .nxt (j:Int) else .ret Cd):=by
  intro j a;refine lD ?_ (fun i hi X d=>Cm ?_)
  .exact Cm (by simp only[kj,qu (jf _),Cj];exact .done)
  .simp only[kj,qq hi,Ci,qz (show i<l.Au.length by omega),qz a,jd,se,wS i];unfold QJ;rw[wu (g:=qR.Bh) (show i<l.Au.length by omega),wu (g:=qR.Bh) a];exact Ev.chkP1 (fun _=>d)
 have b:Ev (fun n=>ki l n 0) (bif bE (fun j=>rC (gt l.Au j)&&bE (QJ (l.Au.map qR.Bh) j) j) l.Au.length then .nxt (l.Au.length:Int) else .ret Cd):=by
  refine lD ?_ (fun j a X d=>Cm ?_)
  .exact Cm (by simp only[ki,qu (jf _),Cj];exact .done)
  .simp only[ki,qq a,Ci,qz a,jd,wS j];refine Ev.chk (ZE (BD h.Au a)) fun _=>Ck (c j a) ?_;cases bE (QJ (l.Au.map qR.Bh) j) j
   .exact .done
   .exact d
 have e:LD l=(bE (fun j=>rC (gt l.Au j)&&bE (QJ (l.Au.map qR.Bh) j) j) l.Au.length&&decide (l.Au.length<=8)):=by
  unfold LD nH;rw[tn,jq,Bool.and_comm (decide (l.Au.length<=8)),<-Bool.and_assoc,<-yj]
  congr 1
  refine sC (fun j a=>?_);rw[wu (g:=qR.Bh) a];cases hc:rC (gt l.Au j)
  .rfl
  .rw[XV hc];rfl
 rw[e];unfold tV;refine Ck b ?_;cases bE (fun j=>rC (gt l.Au j)&&bE (QJ (l.Au.map qR.Bh) j) j) l.Au.length
 .exact .done
 .refine Cx ?_;show V (decide ((l.Au.length:Int)<=((8:Nat):Int)))=V (An&&decide (l.Au.length<=8));rw[DC,jL]
theorem yV{c c':Nat->Nat}{m:Nat}{x:Int}(b:0<=x)(h:x<m)(d:c x.toNat<9223372036854775807)(f:∀k,k<m->c' k=c k+(bif x==(k:Int) then 1 else 0)) :
  qF (gU c m) x=V (c x.toNat:Int)/\ak (gU c m) x (qj ((c x.toNat:Int)+1))=gU c' m:=by
 have ex:x=(x.toNat:Int):=fa b;have e1:=wW (c:=c) (m:=m) (k:=x.toNat) (by omega);have a:=RA (c:=c) (m:=m) (k:=x.toNat) d;rw[<-ex] at e1 a;refine⟨e1,a.trans (wV (fun k g=>?_))⟩;rw[f k g]
 congr 2
 rw[jn];simp;omega
def GD(d:qk)(x:Int):Bool:=gd x 0 ((d.Am.length:Int)-1)
theorem VE{n:Nat}{d:qk}{x:Int}(a:d.Am.length<=1048576):kb n d x=V (GD d x):=by
 simp only[kb,sI,jd,fx,mM (show d.Am.length<=9223372036854775807 by omega)];rfl
theorem QE{n:Nat}{d:qk}{x:Int}(a:d.Am.length<=1048576):aW n x 0 (qj ((d.Am.length:Int)-1))=V (GD d x):=by
 rw[fC,mM (show d.Am.length<=9223372036854775807 by omega)];rfl
def yo(d:qk):Bool:=(decide (d.Ab.length<=14)&&(decide (d.Am.length<=30)&&decide (d.Ai.length<=8)))&&(nH (d.Ab.map qL.Bh)&&(nH d.Am&&nH (d.Ai.map bk.Bh)))
theorem UZ{d:qk}(h:wn d):Ev (fun n=>mv n d) (yo d):=by
 have i:=h.Ab.len;have l:=h.Ai.len;have b:Ev (fun n=>cY d n ([]:List ByteArray) 0) (d.Ab.map qL.Bh,(d.Ab.length:Int)):=by
  refine fD (Lf:=cY d) (S:=fun j=>(d.Ab.take j).map qL.Bh) (len:=d.Ab.length) (fun n=>?_) (fun j a X f=>?_)
  .simp only[cY,qu (jf _),Cj,jG]
  .simpa only[cY,qq a,Ci,qz a,jd,yk a i,ox (g:=qL.Bh) a,wS j] using f
 have c:Ev (fun n=>cZ d n ([]:List ByteArray) 0) (d.Ai.map bk.Bh,(d.Ai.length:Int)):=by
  refine fD (Lf:=cZ d) (S:=fun j=>(d.Ai.take j).map bk.Bh) (len:=d.Ai.length) (fun n=>?_) (fun j a X f=>?_)
  .simp only[cZ,qu (jf _),Cj,jG]
  .simpa only[cZ,qq a,Ci,qz a,jd,yk a l,ox (g:=bk.Bh) a,wS j] using f
 unfold mv yo;refine Ck b (Ck c ?_);simp only[jq];rw[show decide ((d.Ab.length:Int)<=14)=decide (d.Ab.length<=14) from DC (k:=14),show decide ((d.Am.length:Int)<=30)=decide (d.Am.length<=30) from DC (k:=30),show decide ((d.Ai.length:Int)<=8)=decide (d.Ai.length<=8) from DC (k:=8)];rw[Bool.and_assoc,Bool.and_assoc];exact Cu fun _=>Cu fun _=>Cu fun _=>Ev.and (uW (DD h.Ab (fun x m=>m.Bh))) fun _=>Ev.and (uW h.Am) fun _=>Ev.last (uW (DD h.Ai (fun x m=>m.Bh)))
def vg(l:qB)(d:qk)(x:qL):Bool:=gd x.Bv 0 ((l.Au.length:Int)-1)&&(((x.Am.length:Int)==((gt l.Au x.Bv.toNat).Bg.length:Int))&&x.Am.all (GD d))
theorem OZ{d:qk}{l:qB}{x:qL}(g:d.Am.length<=1048576)(h:l.Au.length<=1048576)(a:x.Am.length<=1048576):Ev (fun n=>kQ n d l x) (vg l d x):=by
 simp only[kQ,oN,jd,fx,mM (show l.Au.length<=9223372036854775807 by omega)];unfold vg;refine Cu fun c=>?_;rw[bV] at c;rw[kO c.1 (by omega)];simp only[jd];refine Cu fun _=>Ck (b:=x.Am.any fun y=>!GD d y) ?_ (Cx (by rw[GG]));unfold ck;exact Ck (b:=KZ (fun y=>!GD d y) x.Am) (nF (fin:=(x.Am.length:Int)) (Lf:=ah x.Am d) (pf:=fun n y=>iM n y d) (fun y _=>⟨0,fun n _=>by simp only[iM,VE g,jd]⟩)
   (fun n=>by simp only[ah,qu (jf _),Cj])
   (fun n j y a=>by
    have f:=(List.getElem?_eq_some_iff.1 a).1;simp only[ah,qq f,Ci,pp a,jd,wS j])
   (fun n=>by unfold cE;congr 1;funext o;cases o<;>rfl)) (Cx (by rw[BP]))
def xA(d:qk)(p:bk):Bool:=gd p.Bx 1 2&&GD d p.Cb
theorem qce{x:Int}:gd x 1 2=((x==1) || (x==2)):=by
 unfold gd;rw[jn];simp;omega
def BR(x:qL):Int:=bO x.Am (x.Am.length-1)
theorem VA{x:qL}(a:1<=x.Am.length)(b:x.Am.length<=1048576):qF x.Am (qj ((x.Am.length:Int)-1))=V (BR x):=by
 rw[mM (by omega),show((x.Am.length:Int)-1)=((x.Am.length-1:Nat):Int) by omega,aX (by omega)];rfl
theorem H4{d:qk}{x:qL}(a:1<=x.Am.length)(h:x.Am.all (GD d)=An):0<=BR x/\BR x<d.Am.length:=by
 rw[pn (d:=0),aG] at h;have:=h (x.Am.length-1) (by omega);unfold GD at this;rw[bV] at this;unfold BR bO;omega
theorem NC{l:qB}{d:qk}{x:qL}(a:LD l=An)(h:vg l d x=An):1<=x.Am.length/\0<=BR x/\BR x<d.Am.length:=by
 unfold vg at h;simp only[je,bV,beq_iff_eq] at h;obtain⟨g,i,f⟩:=h;unfold LD at a;simp only[je] at a;have c:=a.1;rw[tn,aG] at c;have:=pG (uw (c x.Bv.toNat (by omega)));have b:1<=x.Am.length:=by omega
 exact⟨b,H4 b f⟩
def nt(d:qk)(k j:Nat):Nat:=gf (fun i=>BR (gt d.Ab i)==(k:Int)) j
def uZ(d:qk)(k j:Nat):Nat:=gf (fun i=>((gt d.Ai i).Bx==1)&&((gt d.Ai i).Cb==(k:Int))) j
def YA(d:qk):Bool:=bE (fun k=>((nt d k d.Ab.length+uZ d k d.Ai.length:Nat):Int)==1) d.Am.length
def kN(l:qB)(d:qk):Bool:=(LD l&&yo d)&&(d.Ab.all (vg l d)&&(d.Ai.all (xA d)&&YA d))
theorem HM{d:qk}{k j:Nat}:nt d k (j+1)=nt d k j+(bif BR (gt d.Ab j)==(k:Int) then 1 else 0):=rfl
theorem CY{d:qk}{k j:Nat}:uZ d k (j+1)=uZ d k j+(bif ((gt d.Ai j).Bx==1)&&((gt d.Ai j).Cb==(k:Int)) then 1 else 0):=rfl
theorem TU{l:qB}{d:qk}(h:pE l)(g:wn d):Ev (fun n=>uL n l d) (kN l d):=by
 have I:=g.Ab.len;have J:=g.Ai.len;have i:=g.Am.len;have v:=h.Au.len;unfold uL kN;refine Ev.guardB (Ev.or (RH h) fun _=>Ev.neg (UZ g)) fun z=>?_;rw[je] at z;rw[DL (m:=d.Am.length) (by omega)];simp only[jd];have t:Ev (fun n=>hK l d n (gU (fun _=>0) d.Am.length) 0) (bif bE (fun j=>vg l d (gt d.Ab j)) d.Ab.length then .nxt (gU (fun k=>nt d k d.Ab.length) d.Am.length,(d.Ab.length:Int)) else .ret Cd):=by
  refine QF (Lf:=hK l d) (S:=fun j=>gU (fun k=>nt d k j) d.Am.length) (fun j=>vg l d (gt d.Ab j)) (fun n=>?_) (fun j a K X f=>?_)
  .simp only[hK,qu (jf _),Cj]
  .simp only[hK,qq a,Ci,qz a,jd,wS j];have p:=(BD g.Ab a).Am.len;refine Ev.chk1 (OZ i v p) fun hi=>?_;obtain⟨r,B,C⟩:=NC z.1 hi;have L:nt d (BR (gt d.Ab j)).toNat j<=j:=nX;obtain⟨e1,s⟩:=yV (c:=fun k=>nt d k j) (c':=fun k=>nt d k (j+1)) B C (by show nt _ _ _<_;omega) (fun k _=>HM);simp only[VA r p,jd,e1,s];exact f hi
 have u:Ev (fun n=>fP d n (gU (fun k=>nt d k d.Ab.length) d.Am.length) 0) (bif bE (fun j=>xA d (gt d.Ai j)) d.Ai.length then .nxt (gU (fun k=>nt d k d.Ab.length+uZ d k d.Ai.length) d.Am.length,(d.Ai.length:Int)) else .ret Cd):=by
  refine QF (Lf:=fP d) (S:=fun j=>gU (fun k=>nt d k d.Ab.length+uZ d k j) d.Am.length) (fun j=>xA d (gt d.Ai j)) (fun n=>?_) (fun j a K X f=>?_)
  .simp only[fP,qu (jf _),Cj]
  .simp only[fP,qq a,Ci,qz a,jd,VE i,bne,wS j];refine Ev.chkT1 ?_ fun hi=>?_
   .unfold xA;rw[qce];cases ((gt d.Ai j).Bx==1)<;>cases ((gt d.Ai j).Bx==2)<;>exact .done
   .have f:=f hi;unfold xA GD at hi;simp only[je,bV] at hi;have D:nt d (gt d.Ai j).Cb.toNat d.Ab.length<=d.Ab.length:=nX;have F:uZ d (gt d.Ai j).Cb.toNat j<=j:=nX;cases r:((gt d.Ai j).Bx==1)
    .have:gU (fun k=>nt d k d.Ab.length+uZ d k (j+1)) d.Am.length=gU (fun k=>nt d k d.Ab.length+uZ d k j) d.Am.length:=by
      refine wV (fun k _=>?_);rw[CY,r];rfl
     rw[this] at f;exact f
    .obtain⟨e1,s⟩:=yV (c:=fun k=>nt d k d.Ab.length+uZ d k j) (c':=fun k=>nt d k d.Ab.length+uZ d k (j+1)) (x:=(gt d.Ai j).Cb) (m:=d.Am.length) hi.2.1 (by omega) (by show nt _ _ _+uZ _ _ _<_;omega) (fun k _=>by rw[CY,r,jL];omega);simp only[Ci,jd,e1,s];exact f
 rw[tn,tn];refine Ck t ?_;cases bE (fun j=>vg l d (gt d.Ab j)) d.Ab.length
 .exact .done
 .refine Ck u ?_;cases bE (fun j=>xA d (gt d.Ai j)) d.Ai.length
  .exact .done
  .simp only[Ci,jL];unfold dZ;refine Ck (b:=(gU (fun k=>nt d k d.Ab.length+uZ d k d.Ai.length) d.Am.length).any fun x=>!(x==1)) (Ck (b:=KZ (fun x=>!(x==1)) (gU (fun k=>nt d k d.Ab.length+uZ d k d.Ai.length) d.Am.length)) (nF (fin:=(((gU (fun k=>nt d k d.Ab.length+uZ d k d.Ai.length) d.Am.length).length:Nat):Int)) (Lf:=aZ (gU (fun k=>nt d k d.Ab.length+uZ d k d.Ai.length) d.Am.length)) (pf:=fun n y=>vv n y) (fun y _=>.done)
    (fun n=>by simp only[aZ,qu (jf _),Cj])
    (fun n j y A=>by
     have a:=(List.getElem?_eq_some_iff.1 A).1;have:j<d.Am.length:=by rw[CR] at a;exact a
     simp only[aZ,qq a,Ci,pp A,jd,wS j])
    (fun n=>by unfold fe;congr 1;funext o;cases o<;>rfl)) (Cx (by rw[BP]))) (Cx ?_)
   rw[GG,pn (d:=0),CR];unfold YA
   congr 1
   exact sC (fun k H=>by
    have:=WZ (c:=fun k=>nt d k d.Ab.length+uZ d k d.Ai.length) H;unfold bO at this;rw[this])
theorem VI{l:qB}{d:qk}(h:pE l)(f:wn d):Ev (fun n=>uS n l d) (d.Ab.all (vg l d)&&d.Ai.all (xA d)):=by
 have r:=f.Ab.len;have s:=f.Ai.len;have c:=f.Am.len;have p:=h.Au.len;have i:∀x:qL,x.Am.length<=1048576->Ev (fun n=>lq d x n 0) (bif x.Am.all (GD d) then .nxt (x.Am.length:Int) else .ret Cd):=fun x t=>
  FO (fun n=>by simp only[lq,qu (jf _),Cj]) (fun j a X b=>by
   simp only[lq,qq a,Ci,cj a,jd,QE c,wS j,gX];exact Ev.okP1 fun _=>b)
 have g:Ev (fun n=>lp l d n 0) (bif bE (fun j=>vg l d (gt d.Ab j)) d.Ab.length then .nxt (d.Ab.length:Int) else .ret Cd):=by
  refine lD ?_ (fun j a X b=>Cm ?_)
  .exact Cm (by simp only[lp,qu (jf _),Cj];exact .done)
  .simp only[lp,qq a,Ci,qz a,jd,fC,mM (show l.Au.length<=9223372036854775807 by omega),wS j,bne];have m:=(BD f.Ab a).Am.len;unfold vg;rw[<-Bool.and_assoc];refine Ev.chkT ?_ fun _=>Ck (i _ m) ?_
   .simp only[gX];refine Ev.orBP fun o=>?_;rw[bV] at o;rw[kO o.1 (by omega)];exact .done
   .cases (gt d.Ab j).Am.all (GD d)
    .exact .done
    .exact b
 have k:Ev (fun n=>lr d n 0) (bif bE (fun j=>xA d (gt d.Ai j)) d.Ai.length then .nxt (d.Ai.length:Int) else .ret Cd):=by
  refine lD ?_ (fun j a X b=>Cm ?_)
  .exact Cm (by simp only[lr,qu (jf _),Cj];exact .done)
  .simp only[lr,qq a,Ci,qz a,jd,QE c,wS j];simp only[fC,jd,gX];unfold xA;exact Ev.okP fun _=>Ev.okP1 fun _=>b
 unfold uS;rw[tn,tn];refine Ck g ?_;cases bE (fun j=>vg l d (gt d.Ab j)) d.Ab.length
 .exact .done
 .refine Ck k ?_;cases bE (fun j=>xA d (gt d.Ai j)) d.Ai.length<;>exact .done
theorem SY{l:qB}{d:qk}(h:pE l)(i:wn d):Ev (fun n=>uQ n l d) (kN l d):=by
 have J:=i.Ab.len;have K:=i.Ai.len;have W:=i.Am.len;have T:=h.Au.len;have e:kN l d=((LD l&&(decide (d.Ab.length<=14)&&(decide (d.Am.length<=30)&&(decide (d.Ai.length<=8)&&(d.Ab.all (vg l d)&&d.Ai.all (xA d))))))&&((nH (d.Ab.map qL.Bh)&&(nH (d.Ai.map bk.Bh)&&nH d.Am))&&YA d)):=by
  unfold kN yo;generalize LD l=a1;generalize decide (d.Ab.length<=14)=a2;generalize decide (d.Am.length<=30)=a3;generalize decide (d.Ai.length<=8)=a4;generalize d.Ab.all (vg l d)=a5;generalize d.Ai.all (xA d)=a6;generalize nH (d.Ab.map qL.Bh)=a7;generalize nH (d.Ai.map bk.Bh)=a8;generalize nH d.Am=a9;generalize YA d=a10;rw[jn];simp only[je];constructor
  .rintro⟨⟨f,⟨p,r,u⟩,z,B,A⟩,v,y,o⟩;exact⟨⟨f,p,r,u,v,y⟩,⟨z,A,B⟩,o⟩
  .rintro⟨⟨f,p,r,u,v,y⟩,⟨z,A,B⟩,o⟩;exact⟨⟨f,⟨p,r,u⟩,z,B,A⟩,v,y,o⟩
 rw[e];unfold uQ;refine Ev.guardB ?_ fun P=>?_
 .refine Ev.or (PF h) fun _=>?_;rw[show decide ((d.Ab.length:Int) > 14) = !decide (d.Ab.length<=14) by rw[jn];simp;omega,show decide ((d.Am.length:Int) > 30) = !decide (d.Am.length<=30) by rw[jn];simp;omega,show decide ((d.Ai.length:Int) > 8) = !decide (d.Ai.length<=8) by rw[jn];simp;omega];simp only[gX];exact Ev.orBP fun _=>Ev.orBP fun _=>Ev.orBP fun _=>Ev.neg (VI h i)
 .simp only[je] at P;obtain⟨s,_,_,_,N,O⟩:=P;rw[tn,aG] at N O;have C:Ev (fun n=>ii d n ([]:List ByteArray) 0) (d.Ab.map qL.Bh,(d.Ab.length:Int)):=by
   refine fD (Lf:=ii d) (S:=fun j=>(d.Ab.take j).map qL.Bh) (len:=d.Ab.length) (fun n=>?_) (fun j a X b=>?_)
   .simp only[ii,qu (jf _),Cj,jG]
   .simpa only[ii,qq a,Ci,qz a,jd,yk a J,ox (g:=qL.Bh) a,wS j] using b
  have D:Ev (fun n=>ij d n ([]:List ByteArray) 0) (d.Ai.map bk.Bh,(d.Ai.length:Int)):=by
   refine fD (Lf:=ij d) (S:=fun j=>(d.Ai.take j).map bk.Bh) (len:=d.Ai.length) (fun n=>?_) (fun j a X b=>?_)
   .simp only[ij,qu (jf _),Cj,jG]
   .simpa only[ij,qq a,Ci,qz a,jd,yk a K,ox (g:=bk.Bh) a,wS j] using b
  have F:Ev (fun n=>ik d n (gU (fun _=>0) d.Am.length) 0) (gU (fun k=>nt d k d.Ab.length) d.Am.length,(d.Ab.length:Int)):=by
   refine fD (Lf:=ik d) (S:=fun j=>gU (fun k=>nt d k j) d.Am.length) (len:=d.Ab.length) (fun n=>?_) (fun j a X b=>?_)
   .simp only[ik,qu (jf _),Cj]
   .have M:=(BD i.Ab a).Am.len;obtain⟨f,p,r⟩:=NC s (N j a);have Y:nt d (BR (gt d.Ab j)).toNat j<=j:=nX;obtain⟨e1,t⟩:=yV (c:=fun k=>nt d k j) (c':=fun k=>nt d k (j+1)) p r (by show nt _ _ _<_;omega) (fun k _=>HM);simpa only[ik,qq a,Ci,qz a,jd,wS j,VA f M,e1,t] using b
  have H:Ev (fun n=>fV d n (gU (fun k=>nt d k d.Ab.length) d.Am.length) 0) (gU (fun k=>nt d k d.Ab.length+uZ d k d.Ai.length) d.Am.length,(d.Ai.length:Int)):=by
   refine fD (Lf:=fV d) (S:=fun j=>gU (fun k=>nt d k d.Ab.length+uZ d k j) d.Am.length) (len:=d.Ai.length) (fun n=>?_) (fun j a X b=>?_)
   .simp only[fV,qu (jf _),Cj]
   .have hi:=O j a;unfold xA GD at hi;simp only[je,bV] at hi;have Q:nt d (gt d.Ai j).Cb.toNat d.Ab.length<=d.Ab.length:=nX;have R:uZ d (gt d.Ai j).Cb.toNat j<=j:=nX;simp only[fV,qq a,Ci,qz a,jd,wS j];cases f:((gt d.Ai j).Bx==1)
    .have:gU (fun k=>nt d k d.Ab.length+uZ d k (j+1)) d.Am.length=gU (fun k=>nt d k d.Ab.length+uZ d k j) d.Am.length:=by
      refine wV (fun k _=>?_);rw[CY,f];rfl
     rw[this] at b;exact b
    .obtain⟨e1,t⟩:=yV (c:=fun k=>nt d k d.Ab.length+uZ d k j) (c':=fun k=>nt d k d.Ab.length+uZ d k (j+1)) (x:=(gt d.Ai j).Cb) (m:=d.Am.length) hi.2.1 (by omega) (by show nt _ _ _+uZ _ _ _<_;omega) (fun k _=>by rw[CY,f,jL];omega);simp only[Ci,jd,e1,t];exact b
  have I:Ev (fun n=>li (gU (fun _=>0) d.Am.length) (gU (fun k=>nt d k d.Ab.length+uZ d k d.Ai.length) d.Am.length) n 0) (bif YA d then .nxt (d.Am.length:Int) else .ret Cd):=by
   refine lD ?_ (fun j a X b=>Cm ?_)
   .exact Cm (by simp only[li,CR,qu (jf _),Cj];exact .done)
   .simp only[li,CR,qq a,Ci,wW a,jd,bne,gX,wS j];exact Ev.okP1 fun _=>b
  refine Ck C (Ck D ?_);refine Ev.guardB (Ev.or (BQ (DD i.Ab (fun x L=>L.Bh))) fun _=>Ev.or (BQ (DD i.Ai (fun x L=>L.Bh))) fun _=>Ev.neg (BQ i.Am)) fun _=>?_;rw[DL (m:=d.Am.length) (by omega)];simp only[jd];refine Ck F (Ck H (Ck I ?_));cases YA d<;>exact .done

theorem qaW{m k:Nat}:decide ((m:Int)<(k:Int)) = !decide (k<=m):=by rw[jn];simp
theorem qaG{m k:Nat}:decide ((m:Int) > (k:Int)) = !decide (m<=k):=by rw[jn];simp
def CP(w:aJ)(j:Nat):Bool:=bif decide (j=0) then(bO w.Ak j==-1)&&(bO w.Bw j==0) else gd (bO w.Ak j) 0 ((j:Int)-1)
def AB(w:aJ)(s:Int):Bool:=
 zo w.Ak 1 8&&(((w.Bw.length:Int)==(w.Ak.length:Int))&&(((w.Br.length:Int)==(w.Ak.length:Int))&&(bE (CP w) w.Ak.length &&
  ((w.Bw.all fun x=>gd x 0 1000)&&((w.Br.all fun x=>gd x 0 500)&&(((w.Bj.length:Int)==s)&&(w.Bj.all fun x=>gd x 0 ((w.Ak.length:Int)-1))))))))
theorem G7{w:aJ}(i:w.Ak.length<=1048576)(h:((w.Bw.length:Int)==(w.Ak.length:Int))=An):Ev (fun n=>pV n w) (bE (CP w) w.Ak.length):=by
 rw[beq_iff_eq] at h;have g:Ev (fun n=>cO w n 0) (bif bE (CP w) w.Ak.length then .nxt (w.Ak.length:Int) else .ret Cd):=by
  refine lD ?_ (fun j b X a=>Cm ?_)
  .exact Cm (by simp only[cO,qu (jf _),Cj];exact .done)
  .simp only[cO,qq b,Ci,aX b,jd,fx,wS j,bne,gX];unfold CP;by_cases f:j=0
   .subst f;rw[show qF w.Bw (0:Int)=V (bO w.Bw 0) from aX (j:=0) (by omega)];simp only[jd];refine Cr (by simp) (Ev.okP fun _=>Ev.okP1 fun _=>Cp (by simp) a)
   .have e1:decide (j=0)=Cd:=by simp;omega
    have c:((j:Int)==0)=Cd:=by simp;omega
    have d:decide ((j:Int) > 0)=An:=by simp;omega
    rw[e1,c,d,mM (show j<=9223372036854775807 by omega)];simp only[Cj,Ci];exact Ev.okP1 fun _=>a
 unfold pV;refine Ck g ?_;cases bE (CP w) w.Ak.length<;>exact .done
theorem E3{w:aJ}{s:Int}(h:GH w):Ev (fun n=>xo n w s) (AB w s):=by
 have a:=h.Ak.len;simp only[xo,di,jd,fx,mM (show w.Ak.length<=9223372036854775807 by omega)];unfold AB;rw[show gd (w.Ak.length:Int) 1 8=zo w.Ak 1 8 from SC (lo:=1) (hi:=8)];exact Cu fun _=>Cu fun b=>Cu fun _=>Ev.and (G7 a b) fun _=>Ev.and (iJ h.Bw.len) fun _=>Ev.and (iJ h.Br.len) fun _=>Cu fun _=>Ev.last (iJ h.Bj.len)
theorem ZF{w:aJ}{s:Int}(h:GH w):Ev (fun n=>xE n w s) (AB w s):=by
 have r:=h.Ak.len;have o:=h.Bj.len;have e:AB w s=((decide (1<=w.Ak.length)&&(decide (w.Ak.length<=8)&&(((w.Bw.length:Int)==(w.Ak.length:Int))&&(((w.Br.length:Int)==(w.Ak.length:Int))&&((w.Bj.length:Int)==s)))))&&(bE (fun j=>(gd (bO w.Br j) 0 500&&gd (bO w.Bw j) 0 1000)&&CP w j) w.Ak.length&&(w.Bj.all fun x=>gd x 0 ((w.Ak.length:Int)-1)))):=by
  unfold AB zo;cases h1:((w.Bw.length:Int)==(w.Ak.length:Int))
  .simp
  .cases h2:((w.Br.length:Int)==(w.Ak.length:Int))
   .simp
   .rw[beq_iff_eq] at h1 h2;rw[yj,yj];rw[pn (p:=fun x=>gd x 0 1000) (d:=0),pn (p:=fun x=>gd x 0 500) (d:=0),show w.Bw.length=w.Ak.length by omega,show w.Br.length=w.Ak.length by omega];show _=(_&&((bE (fun j=>gd (w.Br.getD j 0) 0 500) _&&bE (fun j=>gd (w.Bw.getD j 0) 0 1000) _&&_)&&_));generalize bE (fun j=>gd (w.Br.getD j 0) 0 500) w.Ak.length=a1;generalize bE (fun j=>gd (w.Bw.getD j 0) 0 1000) w.Ak.length=a2;generalize bE (fun j=>CP w j) w.Ak.length=a3;generalize ((w.Bj.length:Int)==s)=a4;generalize decide (1<=w.Ak.length)=a5;generalize decide (w.Ak.length<=8)=a6;generalize (w.Bj.all fun x=>gd x 0 ((w.Ak.length:Int)-1))=a7;cases a1<;>cases a2<;>cases a3<;>cases a4<;>cases a5<;>cases a6<;>rfl
 rw[e];unfold xE;refine Ev.guardB ?_ fun m=>?_
 .rw[show decide ((w.Ak.length:Int)<1) = !decide (1<=w.Ak.length) from qaW (k:=1),show decide ((w.Ak.length:Int) > 8) = !decide (w.Ak.length<=8) from qaG (k:=8)];simp only[bne,gX];exact Ev.orBP fun _=>Ev.orBP fun _=>Ev.orBP fun _=>Ev.orBP fun _=>.done
 .simp only[je,beq_iff_eq] at m;have c:Ev (fun n=>gq w n 0) (bif bE (fun j=>(gd (bO w.Br j) 0 500&&gd (bO w.Bw j) 0 1000)&&CP w j) w.Ak.length then .nxt (w.Ak.length:Int) else .ret Cd):=by
   refine lD ?_ (fun j a X b=>Cm ?_)
   .exact Cm (by simp only[gq,qu (jf _),Cj];exact .done)
   .simp only[gq,qq a,Ci,aX a,aX (show j<w.Br.length by omega),aX (show j<w.Bw.length by omega),jd,fC,wS j,bne,gX];refine Ev.chkT (Ev.orBP fun _=>.done) fun _=>?_;unfold CP;by_cases l:j=0
    .subst l;refine Cr (by simp) (Ev.okP fun _=>Ev.okP1 fun _=>Cp (by simp) b)
    .have e1:decide (j=0)=Cd:=by simp;omega
     have g:((j:Int)==0)=Cd:=by simp;omega
     have i:decide ((j:Int) > 0)=An:=by simp;omega
     rw[e1,g,i,mM (show j<=9223372036854775807 by omega)];simp only[Cj,Ci];exact Ev.okP1 fun _=>b
  have f:Ev (fun n=>nL w n 0) (bif (w.Bj.all fun x=>gd x 0 ((w.Ak.length:Int)-1)) then .nxt (w.Bj.length:Int) else .ret Cd):=
   FO (fun n=>by simp only[nL,qu (jf _),Cj]) (fun j a X b=>by
    simp only[nL,qq a,Ci,cj a,jd,fC,mM (show w.Ak.length<=9223372036854775807 by omega),wS j,gX];exact Ev.okP1 fun _=>b)
  refine Ck c ?_;cases bE (fun j=>(gd (bO w.Br j) 0 500&&gd (bO w.Bw j) 0 1000)&&CP w j) w.Ak.length
  .exact .done
  .refine Ck f ?_;cases (w.Bj.all fun x=>gd x 0 ((w.Ak.length:Int)-1))<;>exact .done
instance:Inhabited aT:=⟨⟨0,0,0,Cd⟩⟩
instance:Inhabited qU:=⟨⟨0,0,0,Cd⟩⟩
def lX(p:aT):qU:=⟨p.instance_,p.pin,p.net,p.drives⟩
def TQ(i:Nat)(x:qL)(j:Nat):List aT:=(List.range j).map fun(k:Nat)=>⟨(i:Int),(k:Int),bO x.Am k,decide (k+1=x.Am.length)⟩
def OK(d:qk)(j:Nat):List aT:=(List.range j).flatMap fun(i:Nat)=>TQ i (gt d.Ab i) (gt d.Ab i).Am.length
def K8(d:qk)(j:Nat):List aT:=(List.range j).map fun(i:Nat)=>⟨-1,(i:Int),(gt d.Ai i).Cb,(gt d.Ai i).Bx==1⟩
def places(d:qk):List aT:=OK d d.Ab.length++K8 d d.Ai.length
theorem WB{i:Nat}{x:qL}{j:Nat}:TQ i x (j+1)=TQ i x j++[⟨(i:Int),(j:Int),bO x.Am j,decide (j+1=x.Am.length)⟩]:=by
 unfold TQ;rw[List.range_succ,jT];rfl
theorem CA{d:qk}{j:Nat}:OK d (j+1)=OK d j++TQ j (gt d.Ab j) (gt d.Ab j).Am.length:=by
 unfold OK;rw[List.range_succ,List.flatMap_append];simp
theorem WA{d:qk}{j:Nat}:K8 d (j+1)=K8 d j++[⟨-1,(j:Int),(gt d.Ai j).Cb,(gt d.Ai j).Bx==1⟩]:=by
 unfold K8;rw[List.range_succ,jT];rfl
theorem MA{i:Nat}{x:qL}{j:Nat}:(TQ i x j).length=j:=by simp[TQ]
theorem LZ{d:qk}{j:Nat}:(K8 d j).length=j:=by simp[K8]
structure vC(d:qk):Prop where
 ni:d.Ab.length<=14
 nn:d.Am.length<=30
 np:d.Ai.length<=8
 nx:∀i,i<d.Ab.length->2<=(gt d.Ab i).Am.length/\(gt d.Ab i).Am.length<=5
theorem qZ{l:qB}{d:qk}(h:kN l d=An):vC d:=by
 unfold kN yo LD at h;simp only[je,decide_eq_true_eq] at h;obtain⟨⟨⟨b,_⟩,⟨c,f,g⟩,_⟩,a,_⟩:=h;refine⟨c,f,g,fun i hi=>?_⟩;rw[tn,aG] at a b;have:=a i hi;unfold vg at this;simp only[je,bV,beq_iff_eq] at this;have k:=pG (uw (b (gt d.Ab i).Bv.toNat (by omega)));omega
theorem GL{d:qk}(h:vC d){j:Nat}(a:j<=d.Ab.length):(OK d j).length<=5*j:=by
 induction j with
 |zero=>exact jf _
 |succ j ih=>
  rw[CA,jg,MA];have:=ih (by omega);have:=h.nx j (by omega);omega
theorem bf{d:qk}(h:vC d):(places d).length<=78:=by
 unfold places;rw[jg,LZ];have:=GL h (jf _);have:=h.ni;have:=h.np;omega
theorem DF{d:qk}(h:vC d):Ev (fun n=>fM n d) (places d):=by
 have l:=h.ni;have m:=h.np;have f:∀i,i<d.Ab.length->∀pre:List aT,pre.length<=100->Ev (fun n=>dQ (i:Int) (gt d.Ab i) n pre 0) (pre++TQ i (gt d.Ab i) (gt d.Ab i).Am.length,((gt d.Ab i).Am.length:Int)):=by
  intro i hi pre p;have o:=h.nx i hi;have:=fD (Lf:=dQ (i:Int) (gt d.Ab i)) (S:=fun j=>pre++TQ i (gt d.Ab i) j) (len:=(gt d.Ab i).Am.length) (fin:=(pre++TQ i (gt d.Ab i) (gt d.Ab i).Am.length,((gt d.Ab i).Am.length:Int))) (fun n=>by
    simp only[dQ,qu (jf _),Cj])
   (fun j a X b=>by
    have k:(pre++TQ i (gt d.Ab i) j).length+[(⟨(i:Int),(j:Int),bO (gt d.Ab i).Am j,decide (j+1=(gt d.Ab i).Am.length)⟩:aT)].length<=2147483648:=by
     rw[jg,MA];simp;omega
    simp only[dQ,qq a,Ci,aX a,jd,C1 a (show(gt d.Ab i).Am.length<=1048576 by omega),dU k,jv,<-WB,wS j];exact b)
  simpa [TQ] using this
 have c:Ev (fun n=>dP d n ([]:List aT) 0) (OK d d.Ab.length,(d.Ab.length:Int)):=by
  refine fD (Lf:=dP d) (S:=fun j=>OK d j) (len:=d.Ab.length) (fun n=>?_) (fun j a X b=>?_)
  .simp only[dP,qu (jf _),Cj]
  .simp only[dP,qq a,Ci,qz a,jd,wS j];refine Ck (f j a _ (by have:=GL h (Nat.le_of_lt a);omega)) ?_;rw[<-CA];exact b
 have g:Ev (fun n=>dR d n (OK d d.Ab.length) 0) (places d,(d.Ai.length:Int)):=by
  have:=fD (Lf:=dR d) (S:=fun j=>OK d d.Ab.length++K8 d j) (len:=d.Ai.length) (fin:=(places d,(d.Ai.length:Int))) (fun n=>by
    simp only[dR,qu (jf _),Cj];rfl)
   (fun j a X b=>by
    have k:(OK d d.Ab.length++K8 d j).length+[(⟨-1,(j:Int),(gt d.Ai j).Cb,(gt d.Ai j).Bx==1⟩:aT)].length<=2147483648:=by
     rw[jg,LZ];have:=GL h (jf _);simp;omega
    simp only[dR,qq a,Ci,qz a,jd,dU k,jv,<-WA,wS j];exact b)
  simpa [K8] using this
 unfold fM;exact Ck c (Ck g .done)
theorem od{d:qk}(h:vC d):Ev (fun n=>eA n d) ((places d).map lX):=by
 have l:=h.ni;have m:=h.np;have f:∀i,i<d.Ab.length->∀pre:List aT,pre.length<=100->Ev (fun n=>gx (i:Int) (gt d.Ab i) n (pre.map lX) 0) ((pre++TQ i (gt d.Ab i) (gt d.Ab i).Am.length).map lX,((gt d.Ab i).Am.length:Int)):=by
  intro i hi pre p;have o:=h.nx i hi;have:=fD (Lf:=gx (i:Int) (gt d.Ab i)) (S:=fun j=>(pre++TQ i (gt d.Ab i) j).map lX) (len:=(gt d.Ab i).Am.length) (fin:=((pre++TQ i (gt d.Ab i) (gt d.Ab i).Am.length).map lX,((gt d.Ab i).Am.length:Int))) (fun n=>by
    simp only[gx,qu (jf _),Cj])
   (fun j a X b=>by
    have k:((pre++TQ i (gt d.Ab i) j).map lX).length+[(⟨(i:Int),(j:Int),bO (gt d.Ab i).Am j,decide (j+1=(gt d.Ab i).Am.length)⟩:qU)].length<=2147483648:=by
     rw[jq,jg,MA];simp;omega
    simp only[gx,qq a,Ci,aX a,jd,C1 a (show(gt d.Ab i).Am.length<=1048576 by omega),dU k,wS j];rw[WB,<-jv,jT] at b;exact b)
  simpa [TQ] using this
 have c:Ev (fun n=>gw d n ([]:List qU) 0) ((OK d d.Ab.length).map lX,(d.Ab.length:Int)):=by
  refine fD (Lf:=gw d) (S:=fun j=>(OK d j).map lX) (len:=d.Ab.length) (fun n=>?_) (fun j a X b=>?_)
  .simp only[gw,qu (jf _),Cj]
  .simp only[gw,qq a,Ci,qz a,jd,wS j];refine Ck (f j a _ (by have:=GL h (Nat.le_of_lt a);omega)) ?_;rw[<-CA];exact b
 have g:Ev (fun n=>gy d n ((OK d d.Ab.length).map lX) 0) ((places d).map lX,(d.Ai.length:Int)):=by
  have:=fD (Lf:=gy d) (S:=fun j=>(OK d d.Ab.length++K8 d j).map lX) (len:=d.Ai.length) (fin:=((places d).map lX,(d.Ai.length:Int))) (fun n=>by
    simp only[gy,qu (jf _),Cj];rfl)
   (fun j a X b=>by
    have k:((OK d d.Ab.length++K8 d j).map lX).length+[(⟨-1,(j:Int),(gt d.Ai j).Cb,(gt d.Ai j).Bx==1⟩:qU)].length<=2147483648:=by
     rw[jq,jg,LZ];have:=GL h (jf _);simp;omega
    simp only[gy,qq a,Ci,qz a,jd,dU k,wS j];rw[WA,<-jv,jT] at b;exact b)
  simpa [K8] using this
 unfold eA;exact Ck c (Ck g .done)
def tU(d:qk)(k:Int)(i:Nat):Bool:=((gt (places d) i).net==k)&&!(gt (places d) i).drives
def fd(d:qk)(k:Int)(j:Nat):List Int:=((List.range j).filter (tU d k)).map fun(i:Nat)=>(i:Int)
def WM(d:qk)(k:Int):Nat:=gf (tU d k) (places d).length
theorem vm{d:qk}{k:Int}{j:Nat}:fd d k (j+1)=fd d k j++(bif tU d k j then[(j:Int)] else[]):=by
 unfold fd;rw[List.range_succ,List.filter_append,jT]
 congr 1
 cases h:tU d k j<;>simp[h]
theorem uJ{d:qk}{k:Int}{j:Nat}:(fd d k j).length=gf (tU d k) j:=by
 induction j with
 |zero=>rfl
 |succ j ih=>
  rw[vm,jg,ih];show _=gf (tU d k) j+_
  congr 1
  cases tU d k j<;>rfl
theorem ET{α β:Type}[Inhabited α][Inhabited β]{xs:List α}{g:α->β}{j:Nat}(h:j<xs.length):gt (xs.map g) j=g (gt xs j):=by
 rw[fh (by simpa using h),fh h];simp
theorem xv{d:qk}{k:Int}(h:vC d):Ev (fun n=>mV n d k) (fd d k (places d).length):=by
 have l:=bf h;have g:Ev (fun n=>fX k ((places d).map lX) n ([]:List Int) 0) (fd d k (places d).length,((places d).length:Int)):=by
  refine fD (Lf:=fX k ((places d).map lX)) (S:=fun j=>fd d k j) (len:=(places d).length) (fun n=>?_) (fun j f X a=>?_)
  .simp only[fX,jq,qu (jf _),Cj]
  .have c:j<((places d).map lX).length:=by simpa using f
   have i:(fd d k j).length+[(j:Int)].length<=2147483648:=by
    rw[uJ];have:gf (tU d k) j<=j:=nX;simp;omega
   simp only[fX,qq c,Ci,qz c,ET f,jd,wS j];rw[show ∀p:aT,(lX p).net=p.net from fun _=>rfl,show ∀p:aT,(lX p).drives=p.drives from fun _=>rfl];refine Ck (b:=tU d k j) (Cu fun _=>.done) ?_;rw[vm] at a;cases hq:tU d k j
   .rw[hq] at a;simp only[Cj,jY] at a⊢;exact a
   .rw[hq] at a;simp only[Ci,dU i,jd] at a⊢;exact a
 unfold mV;exact Ck (od h) (Ck g .done)
theorem zy{l:qB}{d:qk}(h:kN l d=An){i:Nat}(hi:i<(places d).length):0<=(gt (places d) i).net/\(gt (places d) i).net<d.Am.length:=by
 unfold kN at h;simp only[je] at h;obtain⟨_,f,g,_⟩:=h;rw[tn,aG] at f g;have a:gt (places d) i∈places d:=by rw[fh hi];exact jo hi
 generalize gt (places d) i=p at a;unfold places at a;rcases List.mem_append.1 a with a|a
 .unfold OK at a;obtain⟨i,hi,a⟩:=List.mem_flatMap.1 a;unfold TQ at a;obtain⟨k,m,rfl⟩:=List.mem_map.1 a;have:=f i (List.mem_range.1 hi);unfold vg at this;simp only[je] at this;have b:=this.2.2;rw[pn (d:=0),aG] at b;have c:=b k (List.mem_range.1 m);unfold GD at c;rw[bV] at c;show 0<=bO _ _/\bO _ _<_;unfold bO;omega
 .unfold K8 at a;obtain⟨i,hi,rfl⟩:=List.mem_map.1 a;have:=g i (List.mem_range.1 hi);unfold xA GD at this;simp only[je,bV] at this;show 0<=(gt d.Ai i).Cb/\(gt d.Ai i).Cb<_;omega
def aU(b:qf):Bool:=(kN b.Ar b.Aa&&((b.Ah.length:Int)==(b.Aa.Am.length:Int)))&&bE (fun j=>AB (gt b.Ah j) (WM b.Aa (j:Int))) b.Ah.length
theorem XJ{b:qf}(h:wL b):Ev (fun n=>tz n b) (aU b):=by
 have r:=h.Ah.len;unfold tz aU;refine Ev.guardB (Ev.or (TU h.Ar h.Aa) fun _=>.done) fun l=>?_;rw[je,beq_iff_eq] at l;obtain⟨o,y⟩:=l;have i:=qZ o;have u:=bf i;have v:=i.nn;rw[DL (m:=b.Ah.length) (by omega)];simp only[jd];have f:Ev (fun n=>gI (places b.Aa) n (gU (fun _=>0) b.Ah.length) 0) (gU (fun k=>WM b.Aa (k:Int)) b.Ah.length,((places b.Aa).length:Int)):=by
  refine fD (Lf:=gI (places b.Aa)) (S:=fun j=>gU (fun k=>gf (tU b.Aa (k:Int)) j) b.Ah.length) (len:=(places b.Aa).length) (fun n=>?_) (fun j a X d=>?_)
  .simp only[gI,qu (jf _),Cj];rfl
  .simp only[gI,qq a,Ci,qz a,jd,wS j];obtain⟨s,n1⟩:=zy o a;cases h1:(gt (places b.Aa) j).drives
   .have t:gf (tU b.Aa (((gt (places b.Aa) j).net.toNat:Nat):Int)) j<=j:=nX;obtain⟨e1,p⟩:=yV (c:=fun k=>gf (tU b.Aa (k:Int)) j) (c':=fun k=>gf (tU b.Aa (k:Int)) (j+1)) (x:=(gt (places b.Aa) j).net) (m:=b.Ah.length) s (by omega) (by show gf _ _<_;omega) (fun k _=>by
     show gf _ j+(bif tU b.Aa (k:Int) j then 1 else 0)=_;unfold tU;rw[h1,Bool.not_false,Bool.and_true])
    simp only[Bool.not_false,Ci,jd,e1,p];exact d
   .have:gU (fun k=>gf (tU b.Aa (k:Int)) (j+1)) b.Ah.length=gU (fun k=>gf (tU b.Aa (k:Int)) j) b.Ah.length:=by
     refine wV (fun k _=>?_);show gf _ j+(bif tU b.Aa (k:Int) j then 1 else 0)=_;unfold tU;rw[h1,Jm,Bool.and_false];rfl
    rw[this] at d;exact d
 have g:Ev (fun n=>mc b (gU (fun k=>WM b.Aa (k:Int)) b.Ah.length) n 0) (bif bE (fun j=>AB (gt b.Ah j) (WM b.Aa (j:Int))) b.Ah.length then .nxt (b.Ah.length:Int) else .ret Cd):=by
  refine lD ?_ (fun j a X d=>Cm ?_)
  .exact Cm (by simp only[mc,qu (jf _),Cj];exact .done)
  .simp only[mc,qq a,Ci,qz a,wW a,jd,wS j];exact Ev.chk1 (E3 (BD h.Ah a)) fun _=>d
 refine Ck (DF i) (Ck f (Ck g ?_));cases bE (fun j=>AB (gt b.Ah j) (WM b.Aa (j:Int))) b.Ah.length<;>exact .done
theorem ta{b:qf}(h:wL b):Ev (fun n=>kT n b) (aU b):=by
 have i:=h.Ah.len;unfold kT aU;refine Ev.guardB (Ev.or (SY h.Ar h.Aa) fun _=>.done) fun c=>?_;rw[je] at c;have g:=qZ c.1;have d:Ev (fun n=>mh b n 0) (bif bE (fun j=>AB (gt b.Ah j) (WM b.Aa (j:Int))) b.Ah.length then .nxt (b.Ah.length:Int) else .ret Cd):=by
  refine lD ?_ (fun j a X f=>Cm ?_)
  .exact Cm (by simp only[mh,qu (jf _),Cj];exact .done)
  .simp only[mh,qq a,Ci,qz a,jd,wS j];refine Ck (xv g) ?_;rw[uJ];exact Ev.chk1 (ZF (BD h.Ah a)) fun _=>f
 refine Ck d ?_;cases bE (fun j=>AB (gt b.Ah j) (WM b.Aa (j:Int))) b.Ah.length<;>exact .done

def cG(d:qk)(i:Nat):Nat:=(OK d i).length
def yc(d:qk)(i k:Nat):aT:=⟨(i:Int),(k:Int),bO (gt d.Ab i).Am k,decide (k+1=(gt d.Ab i).Am.length)⟩
def SQ(d:qk)(i:Nat):aT:=⟨-1,(i:Int),(gt d.Ai i).Cb,(gt d.Ai i).Bx==1⟩
theorem wK{d:qk}{i:Nat}:cG d (i+1)=cG d i+(gt d.Ab i).Am.length:=by
 unfold cG;rw[CA,jg,MA]
theorem YT{d:qk}{i j:Nat}(h:i<=j):cG d i<=cG d j:=by
 induction j with
 |zero=>
  obtain rfl:i=0:=by omega
  exact jf _
 |succ j ih=>
  rcases Nat.lt_or_eq_of_le h with h|rfl
  .rw[wK];have:=ih (by omega);omega
  .exact jf _
theorem pH{d:qk}:(places d).length=cG d d.Ab.length+d.Ai.length:=by
 unfold places cG;rw[jg,LZ]
theorem qcF{d:qk}{n i k:Nat}(hi:i<n)(c:k<(gt d.Ab i).Am.length):cG d i+k<cG d n/\gt (OK d n) (cG d i+k)=yc d i k:=by
 induction n with
 |zero=>omega
 |succ n ih=>
  rw[CA,yn];rcases Nat.lt_succ_iff_lt_or_eq.1 hi with h|rfl
  .obtain⟨a,b⟩:=ih h;refine⟨by rw[wK];omega,?_⟩;rw[if_pos (show cG d i+k<(OK d n).length from a),b]
  .refine⟨by rw[wK];omega,?_⟩;rw[if_neg (by unfold cG;omega),show cG d i+k-(OK d i).length=k by unfold cG;omega];exact MU c
theorem wo{d:qk}{i k:Nat}(hi:i<d.Ab.length)(c:k<(gt d.Ab i).Am.length):cG d i+k<(places d).length/\gt (places d) (cG d i+k)=yc d i k:=by
 obtain⟨a,b⟩:=qcF hi c;refine⟨by rw[pH];omega,?_⟩;unfold places;rw[yn,if_pos (show cG d i+k<(OK d d.Ab.length).length from a),b]
theorem QL{d:qk}{i:Nat}(hi:i<d.Ai.length):cG d d.Ab.length+i<(places d).length/\gt (places d) (cG d d.Ab.length+i)=SQ d i:=by
 refine⟨by rw[pH];omega,?_⟩;unfold places;rw[yn,if_neg (by unfold cG;omega),show cG d d.Ab.length+i-(OK d d.Ab.length).length=i by unfold cG;omega];exact MU hi
theorem K7{d:qk}{n j:Nat}(a:j<cG d n):∃i k,i<n/\k<(gt d.Ab i).Am.length/\j=cG d i+k:=by
 induction n with
 |zero=>exact absurd a (Ji _)
 |succ n ih=>
  by_cases h:j<cG d n
  .obtain⟨i,k,f,b,c⟩:=ih h;exact⟨i,k,by omega,b,c⟩
  .rw[wK] at a;exact⟨n,j-cG d n,by omega,by omega,by omega⟩
theorem xz{d:qk}{j:Nat}(c:j<(places d).length) :
  (∃i k,i<d.Ab.length/\k<(gt d.Ab i).Am.length/\j=cG d i+k/\gt (places d) j=yc d i k) \/
  (∃i,i<d.Ai.length/\j=cG d d.Ab.length+i/\gt (places d) j=SQ d i):=by
 rw[pH] at c;by_cases h:j<cG d d.Ab.length
 .obtain⟨i,k,a,b,rfl⟩:=K7 h;exact .inl ⟨i,k,a,b,Z,(wo a b).2⟩
 .refine .inr ⟨j-cG d d.Ab.length,by omega,by omega,?_⟩;have:=(QL (d:=d) (i:=j-cG d d.Ab.length) (by omega)).2;rwa [show cG d d.Ab.length+(j-cG d d.Ab.length)=j by omega] at this
def zf(d:qk)(k:Int)(j:Nat):Bool:=((gt (places d) j).net==k)&&(gt (places d) j).drives
theorem UK{q:Nat->Bool}{m n:Nat}:gf q (m+n)=gf q m+gf (fun j=>q (m+j)) n:=by
 induction n with
 |zero=>rfl
 |succ n ih=>
  show gf q (m+n)+(bif q (m+n) then 1 else 0)=gf q m+(gf (fun j=>q (m+j)) n+(bif q (m+n) then 1 else 0));rw[ih];omega
theorem F0{q:Nat->Bool}{n:Nat}{b:Bool}(h:1<=n)(a:∀j,j+1<n->q j=Cd)(c:q (n-1)=b):gf q n=bif b then 1 else 0:=by
 obtain⟨m,rfl⟩:∃m,n=m+1:=⟨n-1,by omega⟩;show gf q m+(bif q m then 1 else 0)=_;rw[CX.2 (fun j d=>a j (by omega)),show m=m+1-1 by omega,c,Jd]
theorem YB{d:qk}{k:Nat}(b:vC d):gf (zf d (k:Int)) (places d).length=nt d k d.Ab.length+uZ d k d.Ai.length:=by
 rw[pH,UK]
 congr 1
 .have:∀n,n<=d.Ab.length->gf (zf d (k:Int)) (cG d n)=nt d k n:=by
   intro n
   induction n with
   |zero=>intro _;rfl
   |succ n ih=>
    intro f;rw[wK,UK,ih (by omega),HM]
    congr 1
    have c:=(b.nx n (by omega)).1;refine F0 (by omega) (fun j a=>?_) ?_
    .show zf d _ (cG d n+j)=Cd;unfold zf;rw[(wo (by omega) (by omega)).2];unfold yc;simp;omega
    .show zf d _ (cG d n+_)=_;unfold zf;rw[(wo (by omega) (by omega)).2];unfold yc BR;simp;omega
  exact this _ (jf _)
 .refine MN (fun j a=>?_);show zf d _ (cG d _+j)=_;unfold zf;rw[(QL a).2];unfold SQ;exact Bool.and_comm _ _
theorem A6{l:qB}{d:qk}(h:kN l d=An){k:Nat}(a:k<d.Am.length):gf (zf d (k:Int)) (places d).length=1:=by
 rw[YB (qZ h)];unfold kN YA at h;simp only[je] at h;have:=aG.1 h.2.2.2 k a;rw[beq_iff_eq] at this;omega
theorem UR{l:qB}{d:qk}(h:kN l d=An){i j:Nat}(hi:i<(places d).length)(f:j<(places d).length)(c:(gt (places d) i).net=(gt (places d) j).net)(a:(gt (places d) i).drives=An)(b:(gt (places d) j).drives=An):i=j:=by
 obtain⟨g,n1⟩:=zy h hi;have e:=fa g;have:=A6 h (k:=(gt (places d) i).net.toNat) (by omega);refine UL (Nat.le_of_eq this) hi f ?_ ?_
 .unfold zf;rw[<-e,a];simp
 .unfold zf;rw[<-e,b,c];simp
theorem qcg{l:qB}{d:qk}(h:kN l d=An){k:Int}(c:0<=k)(g:k<d.Am.length):∃j,j<(places d).length/\(gt (places d) j).net=k/\(gt (places d) j).drives=An:=by
 have e:=fa c;have:=A6 h (k:=k.toNat) (by omega);have b:decide (0<gf (zf d ((k.toNat:Nat):Int)) (places d).length)=An:=by rw[this];rfl
 rw[UM,jC,zb] at b;obtain⟨j,f,a⟩:=b;rw[Bool.not_eq_false',<-e] at a;unfold zf at a;simp only[je,beq_iff_eq] at a;exact⟨j,f,a.1,a.2⟩
def cH(b:qf)(i:Int):qR:=gt b.Ar.Au (gt b.Aa.Ab i.toNat).Bv.toNat
theorem ra{l:qB}{d:qk}(h:kN l d=An){i:Nat}(hi:i<d.Ab.length) :
  (0<=(gt d.Ab i).Bv/\(gt d.Ab i).Bv<l.Au.length)/\(gt d.Ab i).Am.length=(gt l.Au (gt d.Ab i).Bv.toNat).Bg.length/\rC (gt l.Au (gt d.Ab i).Bv.toNat)=An:=by
 unfold kN LD at h;simp only[je] at h;obtain⟨⟨⟨b,_⟩,_⟩,a,_⟩:=h;rw[tn,aG] at a b;have:=a i hi;unfold vg at this;simp only[je,bV,beq_iff_eq] at this;exact⟨⟨this.1.1,by omega⟩,by omega,b _ (by omega)⟩
theorem AY{c:qR}(h:rC c=An){j:Nat}(f:j<c.Az.length):(1<=(gt c.Az j).Bf/\(gt c.Az j).Bf<=5)/\(0<=(gt c.Az j).Bk/\(gt c.Az j).Bk<(c.Bg.length:Int)-1)/\(0<=(gt c.Az j).To/\(gt c.Az j).To<=(c.Bg.length:Int)-1)/\AS c.Bg (gt c.Az j)=An:=by
 unfold rC at h;simp only[je] at h;obtain⟨_,i,⟨d,_⟩,_,_,g⟩:=h;have:=aG.1 d j f;rw[je,P3 i (QC g)] at this;have b:=this.1;refine⟨PM b,?_⟩;have a:=b;unfold AS at a;simp only[je,bV] at a;refine⟨⟨a.1.1.1,by omega⟩,a.1.2,b⟩
theorem EQ{c:qR}(h:rC c=An):c.Az.length<=8:=by
 unfold rC at h;simp only[je,decide_eq_true_eq] at h;exact h.2.2.1.2
theorem aO{b:qf}(h:aU b=An):kN b.Ar b.Aa=An:=by
 unfold aU at h;simp only[je] at h;exact h.1.1
end Go.Fw


namespace Go.Fw
open Go Go.Proofs Go.Proofs.Tryz
open Go.RowKit (Below)
open Ch renaming own->oW,box->oX,grp->oG
open qm renaming v->oV
open Go.Value renaming slice->oS
set_option maxRecDepth 100000
set_option maxHeartbeats 6400000
variable{n:Nat}{w:World}{cs1 cs2 cs3 cs4 cs5 cs6 cs7 cs8 cs9:List Value}
def mL(_:Nat)(list:List qw)(a_from:Int)(a_to:Int)(a:Int)(b:Int)(kind:Int)(index:Int):Option (List qw):=(dj list ([(⟨qj ((qj (2*a_from))+a),qj ((qj (2*a_to))+b),kind,index⟩:qw)]:List qw)).bind fun x1=>V x1
theorem nP{n g w F}{list:List qw}{a_from a_to a b kind index S1 p1 d f}(h:SH g w (oW S1 (list:List qw) [oS p1 d f]::F))  {r:List qw}(k:mL n list a_from a_to a b kind index=V r):qam prog 170 [oS p1 d f,vi a_from,vi a_to,vi a,vi b,vi kind,vi index] w g F r:=by
 refine KN func170 Z (m:=29) Z Z ?_;obtain rfl:=(h.sl 0 Z).2;refine X0 17 Z (dK (qC qa [0,1,2,3] [.tmp 19,.tmp 23,.tmp 24,.tmp 25] z8) Z (qv qa [.tmp 26] _ ([(⟨qj ((qj (2*a_from))+a),qj ((qj (2*a_to))+b),kind,index⟩:qw)]:List qw) h z9 ⟨(fT (⟨qj ((qj (2*a_from))+a),qj ((qj (2*a_to))+b),kind,index⟩:qw)),G⟩ Z fun _ _ _ h=>?_));obtain⟨_,c,k⟩:=qc k;obtain⟨i,c⟩:=qH c;refine bo qa 1 h Z (h.sl 0 Z).1 (h.sl 0 Z).2 z9 i c Z fun _ _ _ _ h=>X0 2 Z ?_;obtain rfl:=qe k;have h:=h.pickT 2 [1] Z;exact W7 qa h ⟨Z,G⟩
def cF(g:bi)(a_from:Int)(a_to:Int)(index:Int)(a:Int):Nat->(List qw)->Int->Option ((List qw)×Int)|0,_,_=>U|n+1,c,b=>bif decide (b<=1) then bif (g.Bf==1) then(bif (g.Bq==3) then V An else V ((g.Bq==1)==(a==b))).bind fun b1=>bif b1 then(mL n c a_from a_to a b 1 index).bind fun r1=>cF g a_from a_to index a n r1 (qj (b+1)) else cF g a_from a_to index a n c (qj (b+1)) else bif (g.Bf==2) then bif (a==0) then(mL n c a_from a_to a b 1 index).bind fun d=>cF g a_from a_to index a n d (qj (b+1)) else cF g a_from a_to index a n c (qj (b+1)) else bif (g.Bf==3) then bif (a==1) then(mL n c a_from a_to a b 1 index).bind fun f=>cF g a_from a_to index a n f (qj (b+1)) else cF g a_from a_to index a n c (qj (b+1)) else cF g a_from a_to index a n c (qj (b+1)) else V (c,b)
def lL(c:bi)(a_from:Int)(a_to:Int)(index:Int):Nat->(List qw)->Int->Option ((List qw)×Int)|0,_,_=>U|n+1,x1,a=>bif decide (a<=1) then(cF c a_from a_to index a n x1 0).bind fun(b,_)=>lL c a_from a_to index n b (qj (a+1)) else V (x1,a)
def xK(n:Nat)(list:List qw)(a:bi)(a_from:Int)(a_to:Int)(index:Int):Option (List qw):=(lL a a_from a_to index n list 0).bind fun(x1,_)=>V x1
theorem LK{n d w F}{list:List qw}{P:bi}{a_from a_to index S1 p1 o M}(h:SH d w (oW S1 (list:List qw) [oS p1 o M]::F)){cs1}(z:qm.R d (old d) P cs1){r:List qw}(O:xK n list P a_from a_to index=V r):qam prog 167 [oS p1 o M,gv P cs1,vi a_from,vi a_to,vi index] w d F r:=by
 obtain⟨J,D,K,k3,rfl,_,_⟩:=bq z;refine KN func167 Z (m:=55) Z Z ?_;obtain rfl:=(h.sl 0 Z).2;refine dE (qJ h Z Z fun _ a h=>X0 7 Z ?_);obtain⟨o1,O,x⟩:=qc O;refine qr (rL (fun m e w'=>∃S2 L b H x1 f,lL P a_from a_to index m x1 f=V o1/\e=[(0,oS L b H),(2,vi a_from),(3,vi a_to),(4,vi index),(6,vp a),(11,vi f)]/\SH d w' (oX a (kq P J K D k3) 109::oW S2 (x1:List qw) [oS L b H]::F)) n ⟨_,_,_,_,_,_,O,Z,h⟩ Z ?_);rintro I _ _ ⟨S2,L,b,H,x1,f,O,rfl,h⟩;obtain rfl:=(h.sl 1 Z).2;rcases I with _|I
 .cases O
 refine X0 6 Z (qp Z O ?_ ?_)<;>intro O
 .refine X0 7 Z ?_;obtain⟨o2,O,y⟩:=qc O;refine qr (rL (fun m e w'=>∃v p c l g s,cF P a_from a_to index f m g s=V o2/\e=[(0,oS p c l),(2,vi a_from),(3,vi a_to),(4,vi index),(6,vp a),(11,vi f),(12,vi s)]/\SH d w' (oX a (kq P J K D k3) 109::oW v (g:List qw) [oS p c l]::F)) I ⟨_,_,_,_,_,_,O,Z,h⟩ Z ?_);rintro N _ _ ⟨v,p,c,l,g,s,O,rfl,h⟩;obtain rfl:=(h.sl 1 Z).2;rcases N with _|N
  .cases O
  refine X0 6 Z (qp Z O ?_ ?_)<;>intro O
  .refine X1 19 0 h Z (qp Z O ?_ ?_)<;>intro O
   .obtain⟨u,k,_,O,i⟩:=bindE O;refine bd (fun e w'=>∃b1,u b1=V o2/\e=[(0,oL p g l),(2,vi a_from),(3,vi a_to),(4,vi index),(6,vp a),(11,vi f),(12,vi s),(13,.bool b1)]/\SH d w' (oX a (kq P J K D k3) 109::oW v (g:List qw) [oL p g l]::F)) ?_ ?_
    .refine X1 5 0 h Z (qh (t:=29) O Z ?_ ?_)<;>intro O
     .refine X0 10 Z ?_;exact rH O i h Z
     refine X1 17 0 h Z ?_;exact rH O i h Z
    rintro _ _ ⟨b1,O,rfl,h⟩;subst k;refine X0 5 Z (qp Z O ?_ ?_)<;>intro O
    .refine X0 7 Z ?_;have h:=h.pickT 2 [1,0] Z;obtain⟨_,A,O⟩:=qc O;refine DG (cB 170 Z) (nP h A) Z Z Z Z fun _ _ _ _ h=>X0 8 Z ?_;exact rK ⟨_,_,_,_,_,_,O,Z,h.pickT 2 [1,0] Z⟩ Z
    exact X0 7 Z (rK ⟨_,_,_,_,_,_,O,Z,h⟩ Z)
   refine X0 5 Z (qp Z O ?_ ?_)<;>intro O
   .refine X0 10 Z (qp Z O ?_ ?_)<;>intro O
    .refine X0 7 Z ?_;have h:=h.pickT 2 [1,0] Z;obtain⟨_,B,O⟩:=qc O;refine DG (cB 170 Z) (nP h B) Z Z Z Z fun _ _ _ _ h=>X0 8 Z ?_;exact rK ⟨_,_,_,_,_,_,O,Z,h.pickT 2 [1,0] Z⟩ Z
    exact X0 7 Z (rK ⟨_,_,_,_,_,_,O,Z,h⟩ Z)
   refine X0 5 Z (qp Z O ?_ ?_)<;>intro O
   .refine X0 10 Z (qp Z O ?_ ?_)<;>intro O
    .refine X0 7 Z ?_;have h:=h.pickT 2 [1,0] Z;obtain⟨_,C,O⟩:=qc O;refine DG (cB 170 Z) (nP h C) Z Z Z Z fun _ _ _ _ h=>X0 8 Z ?_;exact rK ⟨_,_,_,_,_,_,O,Z,h.pickT 2 [1,0] Z⟩ Z
    exact X0 7 Z (rK ⟨_,_,_,_,_,_,O,Z,h⟩ Z)
   exact X0 6 Z (ch Z Z (X0 7 Z (rK ⟨_,_,_,_,_,_,O,Z,h⟩ Z)))
  refine qx Z ?_;cases qe O;exact X0 6 Z (rK ⟨_,_,_,_,_,_,y,Z,h⟩ Z)
 refine qx Z ?_;cases qe O;replace O:=x;refine X0 5 Z ?_;obtain rfl:=qe O;have h:=h.pickT 2 [1] Z;exact W7 qa h ⟨Z,G⟩
def kD(d:Int)(pin:Int)(r1:List qU):Nat->Int->Option (eE Int Int)|0,_=>U|n+1,a=>bif decide (a<(r1.length:Int)) then(qF r1 a).bind fun b=>bif (b.instance_==d) then(qF r1 a).bind fun c=>bif (c.pin==pin) then V (.ret a) else kD d pin r1 n (qj (a+1)) else kD d pin r1 n (qj (a+1)) else V (.nxt a)
def tZ(n:Nat)(d:qk)(a:Int)(pin:Int):Option Int:=(eA n d).bind fun r1=>(kD a pin r1 n 0).bind fun|.ret r=>V r|.nxt _=>V (-1)
theorem zY{d:qk}{a_instance pin}(b:Ro w d cs1){r:Int}(F:tZ n d a_instance pin=V r):qP prog 168 [gv d cs1,vi a_instance,vi pin] w r:=by
 obtain⟨_,_,_,_,_,_,rfl,_,_,_⟩:=ce b;refine zV 34 func168 Z fun h=>dE (qJ h Z Z fun _ _ h=>X1 5 0 h Z (uj h F (dY (h.old b)) Z fun r1 _ S1 z x h F=>X0 7 Z ?_));obtain⟨o1,F,a⟩:=qc F;refine qr ?_;have h:=h.p [0] Z;refine rL (fun m e w'=>∃v,kD a_instance pin r1 m v=V o1/\e=[(1,vi a_instance),(2,vi pin),(7,oL z r1 x),(8,vi v)]/\SH w w' [oW S1 (r1:List qU) [oL z r1 x]]) n ⟨_,F,Z,h⟩ Z ?_;rintro y _ _ ⟨v,F,rfl,h⟩;rcases y with _|y
 .cases F
 refine X0 8 Z (qp Z F ?_ ?_)<;>intro F
 .refine X0 7 Z ?_;obtain⟨_,_,F,c,_,_,_,_,k,o,s,g⟩:=(h.sl 0 Z).1.ix F;obtain rfl:=df s;refine zx k o ⟨c.1,qD c.2.1 (h.sl 0 Z).2⟩ Z (cq Z (zc 0 g Z (EK Z (qh (t:=24) F Z ?_ ?_))))<;>intro F
  .refine X0 5 Z ?_;obtain⟨_,_,F,f,_,_,_,_,l,p,u,i⟩:=(h.sl 0 Z).1.ix F;obtain rfl:=df u;refine zx l p ⟨f.1,qD f.2.1 (h.sl 0 Z).2⟩ Z (X0 3 Z (zc 1 i Z (X0 6 Z (qp Z F ?_ ?_))))<;>intro F
   .refine X0 5 Z ?_;cases qe F;exact ri h a Z
   exact X0 7 Z (rK ⟨_,F,Z,h⟩ Z)
  exact X0 9 Z (ch Z Z (X0 7 Z (rK ⟨_,F,Z,h⟩ Z)))
 refine qx Z ?_;cases qe F;exact X0 4 Z (ri h a Z)
def gu(net:Int)(r1:List qU):Nat->Int->Option (eE Int Int)|0,_=>U|n+1,a=>bif decide (a<(r1.length:Int)) then(qF r1 a).bind fun b=>bif (b.net==net) then(qF r1 a).bind fun c=>bif c.drives then V (.ret a) else gu net r1 n (qj (a+1)) else gu net r1 n (qj (a+1)) else V (.nxt a)
def tY(n:Nat)(d:qk)(net:Int):Option Int:=(eA n d).bind fun r1=>(gu net r1 n 0).bind fun|.ret r=>V r|.nxt _=>V (-1)
theorem GX{d:qk}{net}(b:Ro w d cs1){r:Int}(F:tY n d net=V r):qP prog 169 [gv d cs1,vi net] w r:=by
 obtain⟨_,_,_,_,_,_,rfl,_,_,_⟩:=ce b;refine zV 30 func169 Z fun h=>dE (qJ h Z Z fun _ _ h=>X1 5 0 h Z (uj h F (dY (h.old b)) Z fun r1 _ S1 z x h F=>X0 7 Z ?_));obtain⟨o1,F,a⟩:=qc F;refine qr ?_;have h:=h.p [0] Z;refine rL (fun m e w'=>∃v,gu net r1 m v=V o1/\e=[(1,vi net),(5,oL z r1 x),(6,vi v)]/\SH w w' [oW S1 (r1:List qU) [oL z r1 x]]) n ⟨_,F,Z,h⟩ Z ?_;rintro y _ _ ⟨v,F,rfl,h⟩;rcases y with _|y
 .cases F
 refine X0 8 Z (qp Z F ?_ ?_)<;>intro F
 .refine X0 7 Z ?_;obtain⟨_,_,F,c,_,_,_,_,k,o,s,g⟩:=(h.sl 0 Z).1.ix F;obtain rfl:=df s;refine zx k o ⟨c.1,qD c.2.1 (h.sl 0 Z).2⟩ Z (cq Z (zc 2 g Z (EK Z (qh (t:=22) F Z ?_ ?_))))<;>intro F
  .refine X0 5 Z ?_;obtain⟨_,_,F,f,_,_,_,_,l,p,u,i⟩:=(h.sl 0 Z).1.ix F;obtain rfl:=df u;refine zx l p ⟨f.1,qD f.2.1 (h.sl 0 Z).2⟩ Z (X0 3 Z (zc 3 i Z (X0 2 Z (qp Z F ?_ ?_))))<;>intro F
   .refine X0 5 Z ?_;cases qe F;exact ri h a Z
   exact X0 7 Z (rK ⟨_,F,Z,h⟩ Z)
  exact X0 7 Z (ch Z Z (X0 7 Z (rK ⟨_,F,Z,h⟩ Z)))
 refine qx Z ?_;cases qe F;exact X0 4 Z (ri h a Z)
def fY(Ce:qf)(c:Int)(b:qR):Nat->(List qw)->Int->Option ((List qw)×Int)|0,_,_=>U|n+1,d,a=>bif decide (a<(b.Az.length:Int)) then(qF b.Az a).bind fun h=>bif decide (h.Bf<=3) then(qF b.Az a).bind fun i=>(qF b.Az a).bind fun k=>(qF b.Az a).bind fun l=>(tZ n (⟨Ce.Aa.Ab,Ce.Aa.Am,Ce.Aa.Ai⟩:qk) c k.Bk).bind fun r1=>(tZ n (⟨Ce.Aa.Ab,Ce.Aa.Am,Ce.Aa.Ai⟩:qk) c l.To).bind fun f=>(xK n d i r1 f a).bind fun g=>fY Ce c b n g (qj (a+1)) else fY Ce c b n d (qj (a+1)) else V (d,a)
def iy(c:Int)(b:List Int):Nat->(List qw)->Int->Option ((List qw)×Int)|0,_,_=>U|n+1,d,a=>bif decide (a<(b.length:Int)) then(qF b a).bind fun h=>(mL n d c h 0 0 2 a).bind fun f=>(qF b a).bind fun i=>(mL n f c i 1 1 2 a).bind fun g=>iy c b n g (qj (a+1)) else V (d,a)
def iw(Ce:qf):Nat->(List qw)->Int->Option ((List qw)×Int)|0,_,_=>U|n+1,b,a=>bif decide (a<(Ce.Aa.Am.length:Int)) then(tY n (⟨Ce.Aa.Ab,Ce.Aa.Am,Ce.Aa.Ai⟩:qk) a).bind fun c=>(mV n (⟨Ce.Aa.Ab,Ce.Aa.Am,Ce.Aa.Ai⟩:qk) a).bind fun d=>(iy c d n b 0).bind fun(f,_)=>iw Ce n f (qj (a+1)) else V (b,a)
def iu(Ce:qf):Nat->(List qw)->Int->Option ((List qw)×Int)|0,_,_=>U|n+1,x1,a=>bif decide (a<(Ce.Aa.Ab.length:Int)) then(qF Ce.Aa.Ab a).bind fun c=>(qF Ce.Ar.Au c.Bv).bind fun d=>(fY Ce a d n x1 0).bind fun(b,_)=>iu Ce n b (qj (a+1)) else V (x1,a)
def iN(n:Nat)(Ce:qf):Option (List qw):=(iu Ce n ([]:List qw) 0).bind fun(x1,_)=>(iw Ce n x1 0).bind fun(a,_)=>V a
theorem lw{Ce:qf}(W:Ro w Ce cs1){r:List qw}(F:iN n Ce=V r):qP prog 106 [gv Ce cs1] w r:=by
 obtain⟨p1,k1,v,t,x,k3,y,u,p5,k5,rfl,s1,s2,N,O,_⟩:=qW W;refine zV 105 func106 Z fun h=>dE (qJ h Z Z fun _ b h=>X0 4 Z (qv qa [] _ ([]:List qw) h z9 trivial Z fun _ _ _ h=>X1 6 1 h Z (qi qa h Z Z Z fun _ a h=>zs 0 h Z fun _ h=>X0 6 Z ?_)));obtain⟨o1,F,Q⟩:=qc F;refine qr (rL (fun m e w'=>∃S2 p7 g k6 x1 I,iu Ce m x1 I=V o1/\e=[(1,vp b),(3,oS p7 g k6),(4,vp a),(5,vi I)]/\SH w w' [oX a (ba Ce.Aa v x y t k3 u) 31,oW S2 (x1:List qw) [oS p7 g k6],oX b (qN Ce p1 v x y p5 k1 t k3 u k5) 34]) n ⟨_,_,_,_,_,_,F,Z,h⟩ Z ?_);rintro m1 _ _ ⟨S2,p7,g,k6,x1,I,F,rfl,h⟩;obtain rfl:=(h.sl 1 Z).2;rcases m1 with _|m1
 .cases F
 refine X1 9 0 h Z (qp Z F ?_ ?_)<;>intro F
 .refine X0 4 Z (rD (Y1 3 2 h Z ?_));refine Y1 2 0 h Z ?_;refine vD Z ?_;obtain⟨_,_,F,a7,_,_,_,_,b7,c6,d5,X⟩:=s2.ix F;obtain⟨_,_,rfl,_⟩:=bD d5;refine hG b7 c6 a7 Z (vD Z (fF 1 X h Z ?_));obtain⟨y2,_,F,a8,_,_,_,_,b8,c7,d6,Y⟩:=s1.ix F;obtain⟨_,_,p10,k9,_,_,rfl,_,P,_⟩:=aV d6;refine hG b8 c7 a8 Z (vD Z (fF 3 Y h Z (vD Z (dN h fun _ h=>X0 4 Z ?_))));obtain⟨o2,F,R⟩:=qc F;refine qr (rL (fun m e w'=>∃S3 o i c x2 i2,fY Ce I y2 m x2 i2=V o2/\e=[(1,vp b),(3,oS o i c),(4,vp a),(5,vi I),(6,oL p10 y2.Az k9),(7,vi i2)]/\SH w w' [oX a (ba Ce.Aa v x y t k3 u) 31,oW S3 (x2:List qw) [oS o i c],oX b (qN Ce p1 v x y p5 k1 t k3 u k5) 34]) m1 ⟨_,_,_,_,_,_,F,Z,h⟩ Z ?_);rintro m2 _ _ ⟨S3,o,i,c,x2,i2,F,rfl,h⟩;obtain rfl:=(h.sl 1 Z).2;rcases m2 with _|m2
  .cases F
  refine X0 8 Z (qp Z F ?_ ?_)<;>intro F
  .refine X0 7 Z ?_;obtain⟨_,_,F,a9,_,_,_,_,b9,c8,d7,a3⟩:=P.ix F;obtain⟨_,_,_,_,rfl,_,_⟩:=bq d7;refine fG b9 c8 a9 Z (cq Z (bN 0 a3 h Z (X0 2 Z (qp Z F ?_ ?_))))<;>intro F
   .refine rA [] [0] h Z fun _ h=>M0 7 [0,1,2] (h.p [0] Z) Z ?_;obtain⟨y4,_,F,b4,_,_,_,_,c0,c9,d8,a4⟩:=P.ix F;obtain⟨_,_,_,_,rfl,s12,s13⟩:=bq d8;refine Ae 3 15 c0 c9 b4 (h.p [0] Z) Z (Al 4 31 0 a4 (h.p [0] Z) Z (M1 511 [5,6,7,8] 0 (h.p [0] Z) Z ?_));obtain⟨_,_,F,b5,_,_,_,_,c2,d0,d9,a5⟩:=P.ix F;obtain⟨_,_,_,_,rfl,_,_⟩:=bq d9;refine Ae 9 1023 c2 d0 b5 (h.p [0] Z) Z (M0 2047 [10] (h.p [0] Z) Z (Al 11 4095 1 a5 (h.p [0] Z) Z (M1 126975 [13,14,15,16] 0 (h.p [0] Z) Z ?_)));obtain⟨_,_,F,b6,_,_,_,_,c3,d1,e2,a6⟩:=P.ix F;obtain⟨_,_,_,_,rfl,_,_⟩:=bq e2;refine Ae 17 258047 c3 d1 b6 (h.p [0] Z) Z (M0 520191 [18] (h.p [0] Z) Z (Al 19 1044479 2 a6 (h.p [0] Z) Z (M0 3141631 [21] (h.p [0] Z) Z (Ao 12 3145727 Z (mN h F (zY (cg _ (h.oldS s2) (h.oldS N) (h.oldS O))) Z fun _ _ h F=>Ag (h.p [0] Z) (Ao 20 4194303 Z (mN h F (zY (cg _ (h.oldS s2) (h.oldS N) (h.oldS O))) Z fun _ _ h F=>Ag (h.p [0] Z) (Ao 22 8388607 Z ?_))))))));have h:=h.p [1,0,2] Z;obtain⟨_,e3,F⟩:=qc F;refine DG (cB 167 Z) (LK h (tN y4 s12 s13) e3) Z Z Z Z fun _ _ _ _ h=>G0 16777215 [23] (h.p [1] Z) Z (Ad (X0 6 Z ?_));exact rK ⟨_,_,_,_,_,_,F,Z,h.p [1,0,2] Z⟩ Z
   exact X0 7 Z (rK ⟨_,_,_,_,_,_,F,Z,h⟩ Z)
  refine qx Z ?_;cases qe F;exact X0 6 Z (rK ⟨_,_,_,_,_,_,R,Z,h⟩ Z)
 refine qx Z ?_;cases qe F;have F:=Q;refine X0 5 Z ?_;obtain⟨o3,F,S⟩:=qc F;refine qr ?_;have h:=h.p [0,1] Z;refine rL (fun m e w'=>∃S5 p k d x3 L,iw Ce m x3 L=V o3/\e=[(3,oS p k d),(4,vp a),(8,vi L)]/\SH w w' [oX a (ba Ce.Aa v x y t k3 u) 31,oW S5 (x3:List qw) [oS p k d]]) n ⟨_,_,_,_,_,_,F,Z,h⟩ Z ?_;rintro m3 _ _ ⟨S5,p,k,d,x3,L,F,rfl,h⟩;obtain rfl:=(h.sl 1 Z).2;rcases m3 with _|m3
 .cases F
 refine X1 9 0 h Z (qp Z F ?_ ?_)<;>intro F
 .refine X1 7 0 h Z (mN h F (GX (cg _ (h.oldS s2) (h.oldS N) (h.oldS O))) Z fun r4 _ h F=>X1 6 0 h Z (uj h F (ro (cg _ (h.oldS s2) (h.oldS N) (h.oldS O))) Z fun M _ S6 K J h F=>X0 6 Z ?_));obtain⟨o4,F,T⟩:=qc F;refine qr (rL (fun m e w'=>∃S7 s l f x4 i4,iy r4 M m x4 i4=V o4/\e=[(3,oS s l f),(4,vp a),(8,vi L),(9,vi r4),(10,oL K M J),(11,vi i4)]/\SH w w' [oW S6 (M:List Int) [oL K M J],oX a (ba Ce.Aa v x y t k3 u) 31,oW S7 (x4:List qw) [oS s l f]]) m3 ⟨_,_,_,_,_,_,F,Z,h⟩ Z ?_);rintro m4 _ _ ⟨S7,s,l,f,x4,i4,F,rfl,h⟩;obtain rfl:=(h.sl 2 Z).2;rcases m4 with _|m4
  .cases F
  refine X0 8 Z (qp Z F ?_ ?_)<;>intro F
  .refine X0 9 Z ?_;obtain⟨_,_,F,B,_,_,_,_,c4,d3,rfl,z⟩:=(h.sl 0 Z).1.ix F;refine zx c4 d3 ⟨B.1,qD B.2.1 (h.sl 0 Z).2⟩ Z (zc 0 z Z (cq Z ?_));have h:=h.p [2,0,1] Z;obtain⟨_,D,F⟩:=qc F;refine DG (cB 170 Z) (nP h D) Z Z Z Z fun _ _ _ _ h=>X0 7 Z ?_;obtain⟨_,_,F,C,_,_,_,_,c5,d4,rfl,A⟩:=(h.sl 1 Z).1.ix F;refine zx c5 d4 ⟨C.1,qD C.2.1 (h.sl 1 Z).2⟩ Z (zc 0 A Z (cq Z ?_));obtain⟨_,H,F⟩:=qc F;refine DG (cB 170 Z) (nP h H) Z Z Z Z fun _ _ _ _ h=>X0 8 Z ?_;exact rK ⟨_,_,_,_,_,_,F,Z,h.p [1,2,0] Z⟩ Z
  refine qx Z ?_;cases qe F;have F:=T;refine X0 6 Z ?_;exact rK ⟨_,_,_,_,_,_,F,Z,h.p [1,2] Z⟩ Z
 refine qx Z ?_;cases qe F;have F:=S;refine X0 5 Z ?_;cases qe F;exact rO 1 h Z ⟨Z,G⟩
def fq(list:List Int)(f:Int):Nat->Int->Option (eE Bool Int)|0,_=>U|n+1,a=>bif decide (a<(list.length:Int)) then(qF list a).bind fun b=>(aW n b 0 (qj (f-1))).bind fun r1=>bif (!r1) then V (.ret Cd) else bif decide (a > 0) then(qF list (qj (a-1))).bind fun c=>(qF list a).bind fun d=>bif decide (c>=d) then V (.ret Cd) else fq list f n (qj (a+1)) else fq list f n (qj (a+1)) else V (.nxt a)
def uc(n:Nat)(list:List Int)(a:Int):Option Bool:=(fq list a n 0).bind fun|.ret r=>V r|.nxt _=>V An
theorem GZ{list:List Int}{a_n}(b:Ro w list cs1){r:Bool}(F:uc n list a_n=V r):qP prog 250 [gv list cs1,vi a_n] w r:=by
 obtain⟨p1,A,rfl,s1⟩:=b;refine zV 36 func250 Z fun h=>X0 9 Z ?_;obtain⟨o1,F,a⟩:=qc F;refine qr (rL (fun m e w'=>∃y,fq list a_n m y=V o1/\e=[(0,oL p1 list A),(1,vi a_n),(5,vi y)]/\SH w w' []) n ⟨_,F,Z,h⟩ Z ?_);rintro z _ _ ⟨y,F,rfl,h⟩;rcases z with _|z
 .cases F
 refine X0 8 Z (qp Z F ?_ ?_)<;>intro F
 .refine X0 4 Z (rD (xQ Z ?_));obtain⟨_,_,F,g,_,_,_,_,l,s,rfl,c⟩:=s1.ix F;refine hG l s g Z (fF 0 c h Z (xQ Z ?_));obtain⟨r1,x,F⟩:=qc F;refine en r1 (KO _) (cB 32 Z) (fun _ B=>aF  x) Z Z Z Z (xQ Z (bJ (t:=20) F Z ?_ ?_))<;>intro F
  .refine Y0 15 Z (dN h fun _ h=>eI Z Z (X0 4 Z ?_));cases qe F;exact rb h a Z
  refine Y0 6 Z (bJ (t:=23) F Z ?_ ?_)<;>intro F
  .refine Y0 7 Z ?_;obtain⟨_,_,F,i,_,_,_,_,o,u,rfl,d⟩:=s1.ix F;refine hG o u i Z (Y0 1 Z (fF 0 d h Z (Y0 5 Z ?_)));obtain⟨_,_,F,k,_,_,_,_,p,v,rfl,f⟩:=s1.ix F;refine hG p v k Z (Y0 1 Z (fF 0 f h Z (Y0 5 Z (dN h fun _ h=>qp Z F ?_ ?_))))<;>intro F
   .refine X0 4 Z ?_;cases qe F;exact rb h a Z
   exact X0 7 Z (rK ⟨_,F,Z,h⟩ Z)
  exact Y0 13 Z (dN h fun _ h=>ch Z Z (X0 7 Z (rK ⟨_,F,Z,h⟩ Z)))
 refine qx Z ?_;cases qe F;exact X0 4 Z (rb h a Z)
def rt(n:Nat)(b:qf)(d:List Int):Option Int:=(kT n b).bind fun r1=>bif (!r1) then V 1 else(iN n b).bind fun a=>(uc n d (a.length:Int)).bind fun c=>bif (!c) then V 2 else V 0
theorem zZ{b:qf}{f:List Int}(a:Ro w b cs1)(c:Ro w f cs2){r:Int}(F:rt n b f=V r):qP prog 214 [gv b cs1,gv f cs2] w r:=by
 obtain⟨_,_,_,_,_,_,_,_,_,_,rfl,_,_,_,_,_⟩:=qW a;obtain⟨_,_,rfl,d⟩:=c;refine zV 14 func214 Z fun h=>dE (qJ h Z Z fun _ _ h=>X1 6 0 h Z (dF h F (oC (h.old a)) Z fun _ _ h F=>X0 2 Z (qp Z F ?_ ?_)))<;>intro F
 .exact X0 4 Z (ri h F Z)
 refine X1 6 0 h Z (uj h F (lw (h.old a)) Z fun _ _ _ _ _ h F=>cq Z (dF h F (GZ ⟨_,_,Z,(h.oldS d)⟩) Z fun _ _ h F=>X0 2 Z (qp Z F ?_ ?_)))<;>intro F
 .exact X0 4 Z (ri h F Z)
 exact X0 5 Z (ri h F Z)
def mt(_:Nat)(a:bi):Option (List aj):=bif (a.Bf==2) then V ([(⟨0,0⟩:aj),(⟨0,1⟩:aj)]:List aj) else bif (a.Bf==3) then V ([(⟨1,0⟩:aj),(⟨1,1⟩:aj)]:List aj) else bif (a.Bf != 1) then V [] else bif (a.Bq==1) then V ([(⟨0,0⟩:aj),(⟨1,1⟩:aj)]:List aj) else bif (a.Bq==2) then V ([(⟨0,1⟩:aj),(⟨1,0⟩:aj)]:List aj) else V ([(⟨0,0⟩:aj),(⟨0,1⟩:aj),(⟨1,0⟩:aj),(⟨1,1⟩:aj)]:List aj)
theorem yp{a:bi}(b:Ro w a cs1){r:List aj}(F:mt n a=V r):qP prog 183 [gv a cs1] w r:=by
 obtain⟨_,_,_,_,rfl,_,_⟩:=bq b;refine zV 44 func183 Z fun h=>dE (qJ h Z Z fun _ _ h=>X0 4 Z (dK (oF qa [0,1] [.const (vi (0)),.const (vi (0))] Z Z Z Z Z Z Z Z Z) Z (dK (oF qa [0,1] [.const (vi (1)),.const (vi (1))] Z Z Z Z Z Z Z Z Z) Z (qv qa [.tmp 5,.tmp 6] _ ([(⟨0,0⟩:aj),(⟨1,1⟩:aj)]:List aj) h z9 ⟨(gM (⟨0,0⟩:aj)),(gM (⟨1,1⟩:aj)),G⟩ Z fun _ _ _ h=>X0 4 Z (dK (oF qa [0,1] [.const (vi (0)),.const (vi (1))] Z Z Z Z Z Z Z Z Z) Z (dK (oF qa [0,1] [.const (vi (1)),.const (vi (0))] Z Z Z Z Z Z Z Z Z) Z (qv qa [.tmp 8,.tmp 9] _ ([(⟨0,1⟩:aj),(⟨1,0⟩:aj)]:List aj) h z9 ⟨(gM (⟨0,1⟩:aj)),(gM (⟨1,0⟩:aj)),G⟩ Z fun _ _ _ h=>X1 11 2 h Z (qp Z F ?_ ?_))))))))<;>intro F
 .refine dE (dK (oF qa [0,1] [.const (vi (0)),.const (vi (0))] Z Z Z Z Z Z Z Z Z) Z (dK (oF qa [0,1] [.const (vi (0)),.const (vi (1))] Z Z Z Z Z Z Z Z Z) Z (qv qa [.tmp 15,.tmp 16] _ ([(⟨0,0⟩:aj),(⟨0,1⟩:aj)]:List aj) h z9 ⟨(gM (⟨0,0⟩:aj)),(gM (⟨0,1⟩:aj)),G⟩ Z fun _ _ _ h=>X0 2 Z ?_)));cases qe F;exact rO 0 h Z ⟨Z,G⟩
 refine X1 7 2 h Z (qp Z F ?_ ?_)<;>intro F
 .refine dE (dK (oF qa [0,1] [.const (vi (1)),.const (vi (0))] Z Z Z Z Z Z Z Z Z) Z (dK (oF qa [0,1] [.const (vi (1)),.const (vi (1))] Z Z Z Z Z Z Z Z Z) Z (qv qa [.tmp 22,.tmp 23] _ ([(⟨1,0⟩:aj),(⟨1,1⟩:aj)]:List aj) h z9 ⟨(gM (⟨1,0⟩:aj)),(gM (⟨1,1⟩:aj)),G⟩ Z fun _ _ _ h=>X0 2 Z ?_)));cases qe F;exact rO 0 h Z ⟨Z,G⟩
 refine X1 7 2 h Z (qp Z F ?_ ?_)<;>intro F
 .refine X0 4 Z ?_;obtain rfl:=qe F;exact aq qa (ρ:=(List aj)) [oV (List aj) [oS U 0 0]] h ⟨Z,G⟩ (Cq h (pJ fc))
 refine X1 7 2 h Z (qp Z F ?_ ?_)<;>intro F
 .refine X0 5 Z ?_;cases qe F;exact rO 1 h Z ⟨Z,G⟩
 refine X1 7 2 h Z (qp Z F ?_ ?_)<;>intro F
 .refine X0 5 Z ?_;cases qe F;exact rO 0 h Z ⟨Z,G⟩
 refine X0 4 Z (dK (oF qa [0,1] [.const (vi (0)),.const (vi (0))] Z Z Z Z Z Z Z Z Z) Z (dK (oF qa [0,1] [.const (vi (0)),.const (vi (1))] Z Z Z Z Z Z Z Z Z) Z (dK (oF qa [0,1] [.const (vi (1)),.const (vi (0))] Z Z Z Z Z Z Z Z Z) Z (dK (oF qa [0,1] [.const (vi (1)),.const (vi (1))] Z Z Z Z Z Z Z Z Z) Z (qv qa [.tmp 39,.tmp 40,.tmp 41,.tmp 42] _ ([(⟨0,0⟩:aj),(⟨0,1⟩:aj),(⟨1,0⟩:aj),(⟨1,1⟩:aj)]:List aj) h z9 ⟨(gM (⟨0,0⟩:aj)),(gM (⟨0,1⟩:aj)),(gM (⟨1,0⟩:aj)),(gM (⟨1,1⟩:aj)),G⟩ Z fun _ _ _ h=>X0 2 Z ?_)))));cases qe F;exact rO 0 h Z ⟨Z,G⟩
def cV(first:Int)(c:Int)(b:bi)(r1:List aj):Nat->(List qw)->Int->Option ((List qw)×Int)|0,_,_=>U|n+1,d,a=>bif decide (a<(r1.length:Int)) then(qF r1 a).bind fun f=>(dj d ([(⟨qj ((qj (2*(qj (first+b.Bk))))+f.e0),qj ((qj (2*(qj (first+b.To))))+f.e1),1,c⟩:qw)]:List qw)).bind fun g=>cV first c b r1 n g (qj (a+1)) else V (d,a)
def cU(first:Int)(b:qR):Nat->(List qw)->Int->Option ((List qw)×Int)|0,_,_=>U|n+1,x1,a=>bif decide (a<(b.Az.length:Int)) then(qF b.Az a).bind fun c=>(mt n c).bind fun r1=>(cV first a c r1 n x1 0).bind fun(d,_)=>cU first b n d (qj (a+1)) else V (x1,a)
def mu(n:Nat)(b:qf)(x:qL)(first:Int):Option (List qw):=(qF b.Ar.Au x.Bv).bind fun a=>(cU first a n ([]:List qw) 0).bind fun(x1,_)=>V x1
theorem yq{b:qf}{x:qL}{first}(B:Ro w b cs1)(C:Ro w x cs2){r:List qw}(F:mu n b x first=V r):qP prog 117 [gv b cs1,gv x cs2,vi first] w r:=by
 obtain⟨_,_,_,_,_,_,_,_,_,_,rfl,s1,_,_,_,_⟩:=qW B;obtain⟨_,_,rfl,_⟩:=bD C;refine zV 57 func117 Z fun h=>dE (qJ h Z Z fun _ _ h=>qJ h Z Z fun _ _ h=>X2 14 1 0 h Z ?_);obtain⟨v,_,F,J,_,_,_,_,L,O,R,D⟩:=s1.ix F;obtain⟨_,_,p8,k8,_,_,rfl,_,s8,_⟩:=aV R;refine fG L O J Z (cq Z (bN 3 D h Z (X0 3 Z ?_)));have h:=h.nil (α:=qw);obtain⟨o1,F,z⟩:=qc F;refine qr ?_;have h:=h.p [0] Z;refine rL (fun m e w'=>∃S1 k g d x1 a,cU first v m x1 a=V o1/\e=[(2,vi first),(7,oS k g d),(19,oL p8 v.Az k8),(20,vi (v.Az.length:Int)),(21,vi a)]/\SH w w' [oW S1 (x1:List qw) [oS k g d]]) n ⟨_,_,_,_,_,_,F,Z,h⟩ Z ?_;rintro m1 _ _ ⟨S1,k,g,d,x1,a,F,rfl,h⟩;obtain rfl:=(h.sl 0 Z).2;rcases m1 with _|m1
 .cases F
 refine X0 5 Z (qp Z F ?_ ?_)<;>intro F
 .refine X0 6 Z ?_;obtain⟨o,_,F,K,_,_,_,_,M,P,S,H⟩:=s8.ix F;obtain⟨p11,X,p12,Y,rfl,s10,s11⟩:=bq S;refine fG M P K Z (bN 0 H h Z (qi qa h Z Z Z fun _ p h=>cq Z (zs 0 h Z fun _ h=>X1 4 0 h Z (uj h F (yp (tN o (h.oldS s10) (h.oldS s11))) Z fun r1 _ S2 u t h F=>X0 3 Z ?_))));obtain⟨o2,F,A⟩:=qc F;refine qr (rL (fun m e w'=>∃S3 l i f x2 W,cV first a o r1 m x2 W=V o2/\e=[(2,vi first),(7,oS l i f),(8,vi a),(9,vp p),(19,oL p8 v.Az k8),(20,vi (v.Az.length:Int)),(21,vi a),(27,oL u r1 t),(28,vi (r1.length:Int)),(29,vi W)]/\SH w w' [oW S2 (r1:List aj) [oL u r1 t],oX p (kq o p11 p12 X Y) 109,oW S3 (x2:List qw) [oS l i f]]) m1 ⟨_,_,_,_,_,_,F,Z,h⟩ Z ?_);rintro m2 _ _ ⟨S3,l,i,f,x2,W,F,rfl,h⟩;obtain rfl:=(h.sl 2 Z).2;rcases m2 with _|m2
  .cases F
  refine X0 5 Z (qp Z F ?_ ?_)<;>intro F
  .refine lN ?_;obtain⟨y,_,F,s,_,_,_,_,N,Q,T,I⟩:=(h.sl 0 Z).1.ix F;obtain rfl:=SL T;refine zx N Q ⟨s.1,qD s.2.1 (h.sl 0 Z).2⟩ Z (zc 0 I Z (qi qa h Z Z Z fun _ _ h=>zs 0 h Z fun _ h=>X1 8 2 h Z (dK (qbX (iv:=0) qa Z Z (by decide) ⟨Z,Z⟩ Z Z) Z (X2 7 0 2 h Z (dK (qbX (iv:=1) qa Z Z (by decide) ⟨Z,Z⟩ Z Z) Z (X1 3 0 h Z (dK (qC qa [0,1,2,3] [.tmp 41,.tmp 49,.const (vi (1)),.tmp 50] z8) Z (qv qa [.tmp 51] _ ([(⟨qj ((qj (2*(qj (first+o.Bk))))+y.e0),qj ((qj (2*(qj (first+o.To))))+y.e1),1,a⟩:qw)]:List qw) h z9 ⟨(fT (⟨qj ((qj (2*(qj (first+o.Bk))))+y.e0),qj ((qj (2*(qj (first+o.To))))+y.e1),1,a⟩:qw)),G⟩ Z fun _ _ _ h=>?_))))))));obtain⟨_,c,F⟩:=qc F;obtain⟨g1,c⟩:=qH c;refine bo qa 4 h Z (h.sl 0 Z).1 (h.sl 0 Z).2 z9 g1 c Z fun _ _ _ _ h=>X0 7 Z ?_;exact rK ⟨_,_,_,_,_,_,F,Z,h.p [2,3,4] Z⟩ Z
  refine qx Z ?_;cases qe F;have F:=A;refine X0 5 Z ?_;exact rK ⟨_,_,_,_,_,_,F,Z,h.p [2] Z⟩ Z
 refine qx Z ?_;cases qe F;have F:=z;refine X0 5 Z ?_;cases qe F;exact rO 0 h Z ⟨Z,G⟩
def ie(_:Nat)(s:List Int):Option (List Int):=dj ([]:List Int) s
theorem lU{s:List Int}(b:Ro w s cs1){r:List Int}(F:ie n s=V r):qP prog 55 [gv s cs1] w r:=by
 obtain⟨p,k,rfl,s1⟩:=b;obtain⟨c,g⟩:=qH (show dj ([]:List Int) s=V r from F);cases p with
 |none=>
  obtain rfl:=WL s1;obtain rfl:[]=r:=g;exact zV 8 func55 Z fun h=>X0 8 Z (dK (WW qa Z Z Z Z Z) Z (ac (eI Z Z (X0 4 Z (aq qa (ρ:=(List Int)) [oV (List Int) [oS U 0 0]] h ⟨Z,G⟩ (Cq h (pJ fc)))))))
 |some a=>
  refine zV 8 func55 Z fun h=>X0 8 Z (dK (WW qa Z Z Z Z Z) Z (ac (ch Z Z (qcX (qv qa [] _ ([]:List Int) h z9 trivial Z fun _ _ _ h=>cq Z (qbT qa 0 h Z (h.oldS s1) Z Z Z Z Z Z Z Z Z Z c Z fun _ f d _ h=>?_))))));rw[g] at h;exact X0 2 Z (aq qa (ρ:=(List Int)) [oV (List Int) [oS f (([]:List Int).length+s.length) d]] h ⟨Z,G⟩ (Cq h (pJ (qS 0 h Z))))
def cy(net:Int)(r1:List aT):Nat->(List Int)->Int->Option ((List Int)×Int)|0,_,_=>U|n+1,x1,a=>bif decide (a<(r1.length:Int)) then(qF r1 a).bind fun b=>bif (b.net==net) then bif (!b.drives) then(dj x1 ([a]:List Int)).bind fun c=>cy net r1 n c (qj (a+1)) else cy net r1 n x1 (qj (a+1)) else cy net r1 n x1 (qj (a+1)) else V (x1,a)
def oZ(n:Nat)(d:qk)(net:Int):Option (List Int):=(fM n d).bind fun r1=>(cy net r1 n ([]:List Int) 0).bind fun(x1,_)=>V x1
theorem BH{d:qk}{net}(c:Ro w d cs1){r:List Int}(F:oZ n d net=V r):qP prog 184 [gv d cs1,vi net] w r:=by
 obtain⟨_,_,_,_,_,_,rfl,_,_,_⟩:=ce c;refine zV 31 func184 Z fun h=>dE (qJ h Z Z fun _ _ h=>X1 10 0 h Z (uj h F (lR (h.old c)) Z fun r1 _ S1 y v h F=>X0 3 Z ?_));have h:=h.nil (α:=Int);obtain⟨o1,F,i⟩:=qc F;refine qr ?_;have h:=h.p [0,1] Z;refine rL (fun m e w'=>∃S2 u b s x1 g,cy net r1 m x1 g=V o1/\e=[(1,vi net),(5,oS u b s),(9,oL y r1 v),(10,vi (r1.length:Int)),(11,vi g)]/\SH w w' [oW S2 (x1:List Int) [oS u b s],oW S1 (r1:List aT) [oL y r1 v]]) n ⟨_,_,_,_,_,_,F,Z,h⟩ Z ?_;rintro x _ _ ⟨S2,u,b,s,x1,g,F,rfl,h⟩;obtain rfl:=(h.sl 0 Z).2;rcases x with _|x
 .cases F
 refine X0 5 Z (qp Z F ?_ ?_)<;>intro F
 .refine X0 6 Z ?_;obtain⟨_,_,F,f,_,_,_,_,l,o,p,k⟩:=(h.sl 1 Z).1.ix F;obtain rfl:=pF p;refine zx l o ⟨f.1,qD f.2.1 (h.sl 1 Z).2⟩ Z (zc 0 k Z (qi qa h Z Z Z fun _ _ h=>cq Z (zs 0 h Z fun _ h=>X1 8 0 h Z (qh (t:=20) F Z ?_ ?_))))<;>intro F
  .refine X1 8 0 h Z (qp Z F ?_ ?_)<;>intro F
   .refine X0 3 Z (qv qa [.tmp 26] _ ([g]:List Int) h z9 ⟨Z,G⟩ Z fun _ _ _ h=>?_);obtain⟨_,a,F⟩:=qc F;obtain⟨z,a⟩:=qH a;refine bo qa 2 h Z (h.sl 0 Z).1 (h.sl 0 Z).2 z9 z a Z fun _ _ _ _ h=>X0 7 Z ?_;exact rK ⟨_,_,_,_,_,_,F,Z,h.p [2,3] Z⟩ Z
   refine X0 6 Z ?_;exact rK ⟨_,_,_,_,_,_,F,Z,h.p [1,2] Z⟩ Z
  refine X0 5 Z (ch Z Z (X0 6 Z ?_));exact rK ⟨_,_,_,_,_,_,F,Z,h.p [1,2] Z⟩ Z
 refine qx Z ?_;cases qe F;have F:=i;refine X0 5 Z ?_;cases qe F;exact rO 0 h Z ⟨Z,G⟩
def oY(_:Nat)(d:qk)(l:qB)(p:aT):Option Int:=bif decide (p.instance_<0) then V 0 else(qF d.Ab p.instance_).bind fun a=>(qF l.Au a.Bv).bind fun b=>(qF b.Bg p.pin).bind fun c=>V c.Br
theorem BG{d:qk}{l:qB}{p:aT}(a:Ro w d cs1)(b:Ro w l cs2)(c:Ro w p cs3){r:Int}(F:oY n d l p=V r):qP prog 185 [gv d cs1,gv l cs2,gv p cs3] w r:=by
 obtain⟨_,_,_,_,_,_,rfl,s1,_,_⟩:=ce a;obtain⟨_,_,rfl,C⟩:=gi b;obtain rfl:=pF c;refine zV 27 func185 Z fun h=>dE (qJ h Z Z fun _ _ h=>qJ h Z Z fun _ _ h=>qJ h Z Z fun _ _ h=>X1 9 0 h Z (qp Z F ?_ ?_))<;>intro F
 .exact X0 4 Z (ri h F Z)
 refine E1 (rD (Y1 2 1 h Z ?_));refine Y1 2 2 h Z ?_;refine Y1 2 0 h Z ?_;obtain⟨_,_,F,k,_,_,_,_,s,v,z,f⟩:=s1.ix F;obtain⟨_,_,rfl,_⟩:=bD z;refine hG s v k Z (vD Z (fF 1 f h Z ?_));obtain⟨_,_,F,m,_,_,_,_,t,x,A,g⟩:=C.ix F;obtain⟨_,_,_,_,_,_,rfl,D,_,_⟩:=aV A;refine hG t x m Z (vD Z (fF 2 g h Z (Y1 2 0 h Z ?_)));obtain⟨_,_,F,o,_,_,_,_,u,y,B,i⟩:=D.ix F;obtain rfl:=mf B;exact hG u y o Z (vD Z (fF 2 i h Z (vD Z (dN h fun _ h=>ri h F Z))))
def cX(d:aJ):Nat->(List Int)->Int->Option ((List Int)×Int)|0,_,_=>U|n+1,b,a=>bif decide (a > 0) then(qF d.Ak a).bind fun c=>(qF b c).bind fun f=>(qF b a).bind fun g=>(qF b c).bind fun _=>cX d n (ak b c (qj (f+g))) (qj (a-1)) else V (b,a)
def cW(Ce:qf)(f:aJ)(d:List aT)(b:List Int):Nat->(List Int)->Int->Option ((List Int)×Int)|0,_,_=>U|n+1,x1,a=>bif decide (a<(b.length:Int)) then(qF b a).bind fun h=>(qF f.Bj a).bind fun c=>(qF x1 c).bind fun i=>(qF d h).bind fun k=>(oY n (⟨Ce.Aa.Ab,Ce.Aa.Am,Ce.Aa.Ai⟩:qk) (⟨Ce.Ar.Au⟩:qB) k).bind fun g=>(qF x1 c).bind fun _=>cW Ce f d b n (ak x1 c (qj (i+g))) (qj (a+1)) else V (x1,a)
def iO(n:Nat)(Ce:qf)(Cf:Int):Option (List Int):=(qF Ce.Ah Cf).bind fun a=>(ie n a.Br).bind fun r1=>(fM n (⟨Ce.Aa.Ab,Ce.Aa.Am,Ce.Aa.Ai⟩:qk)).bind fun b=>(oZ n (⟨Ce.Aa.Ab,Ce.Aa.Am,Ce.Aa.Ai⟩:qk) Cf).bind fun c=>(cW Ce a b c n r1 0).bind fun(x1,_)=>(cX a n x1 (qj ((r1.length:Int)-1))).bind fun(d,_)=>V d
theorem nw{Ce:qf}{Cf}(W:Ro w Ce cs1){r:List Int}(F:iO n Ce Cf=V r):qP prog 119 [gv Ce cs1,vi Cf] w r:=by
 obtain⟨p1,k1,p2,k2,p3,k3,p4,k4,p5,k5,rfl,s1,s2,s3,s4,s5⟩:=qW W;refine zV 74 func119 Z fun h=>dE (qJ h Z Z fun w1 i h=>X1 7 0 h Z ?_);obtain⟨Q,_,F,a6,_,_,_,_,a9,b7,c2,X⟩:=s5.ix F;obtain⟨p6,k6,p7,k7,p8,k8,p9,k9,rfl,s6,_,s8,s9⟩:=dz c2;refine fG a9 b7 a6 Z (bN 0 X h Z (qi qa h Z Z Z fun _ a h=>zs 0 h Z fun _ h=>X1 5 0 h Z (uj h F (lU ⟨_,_,Z,(h.oldS s8)⟩) Z fun r1 _ S1 c b h F=>X1 6 2 h Z (uj h F (lR (cg _ (h.oldS s2) (h.oldS s3) (h.oldS s4))) Z fun P _ S2 M K h F=>X1 8 3 h Z (uj h F (BH (cg _ (h.oldS s2) (h.oldS s3) (h.oldS s4))) Z fun O _ S3 N L h F=>X0 3 Z ?_)))));obtain⟨o1,F,R⟩:=qc F;refine qr (rL (fun m e w'=>∃x1 i1,cW Ce Q P O m x1 i1=V o1/\e=[(2,vp i),(5,vp a),(6,oL c r1 b),(7,oL M P K),(25,oL N O L),(26,vi (O.length:Int)),(27,vi i1)]/\SH w w' [oW S3 (O:List Int) [oL N O L],oW S2 (P:List aT) [oL M P K],oW S1 (x1:List Int) [oL c r1 b],oX a (nW Q p6 p7 p8 p9 k6 k7 k8 k9) 171,oX i (qN Ce p1 p2 p3 p4 p5 k1 k2 k3 k4 k5) 34]) n ⟨_,_,F,Z,h⟩ Z ?_);rintro m1 _ _ ⟨x1,i1,F,rfl,h⟩;rcases m1 with _|m1
 .cases F
 refine X0 5 Z (qp Z F ?_ ?_)<;>intro F
 .refine X0 6 Z ?_;obtain⟨_,_,F,l,_,_,_,_,b4,b8,rfl,Y⟩:=(h.sl 0 Z).1.ix F;refine zx b4 b8 ⟨l.1,qD l.2.1 (h.sl 0 Z).2⟩ Z (zc 0 Y Z (X0 3 Z (rA [19] [1,2,3,4] h Z fun _ h=>M1 15 [0,1,2,3] 2 (h.p [1,2,3,4] Z) Z ?_)));obtain⟨_,_,F,a7,_,_,_,_,b5,b9,rfl,a3⟩:=s9.ix F;refine Ae 4 31 b5 b9 a7 (h.p [1,2,3,4] Z) Z (Al 5 63 0 a3 (h.p [1,2,3,4] Z) Z ?_);obtain⟨y4,c4,F,o,_,_,_,_,v,B,rfl,_⟩:=(h.sl 2 Z).1.ix F;refine Ax 6 127 v B ⟨o.1,qD o.2.1 (h.sl 2 Z).2⟩ (h.p [1,2,3,4] Z) Z (Aw 7 255 (fun w' hw=>cR qa (qQ (w1:=w) (S1:=fun _=>False) hw 1 Z c4 v B Z) (j:=0) Z Z Z) (h.p [1,2,3,4] Z) Z ?_);refine M2 16383 [8,9,10,11,12,13] 3 3 (h.p [1,2,3,4] Z) Z ?_;obtain⟨y5,c5,F,p,_,_,_,_,x,C,c3,_⟩:=(h.sl 1 Z).1.ix F;obtain rfl:=pF c3;refine Ax 14 32767 x C ⟨p.1,qD p.2.1 (h.sl 1 Z).2⟩ (h.p [1,2,3,4] Z) Z (Aw 15 65535 (fun w' hw=>cR qa (qQ hw 0 Z c5 x C (zt (w:=w) (S:=fun _=>False) y5)) (j:=0) Z Z Z) (h.p [1,2,3,4] Z) Z ?_);refine Ao 16 131071 Z (mN h F (BG (cg _ (h.oldS s2) (h.oldS s3) (h.oldS s4)) (tO _ (h.oldS s1)) (zt y5)) Z fun r4 _ h F=>G0 262143 [17] (h.p [1,2,3,4] Z) Z ?_);obtain⟨_,c6,F,s,_,_,_,_,y,D,rfl,a4⟩:=(h.sl 2 Z).1.ix F;exact Ax 18 524287 y D ⟨s.1,qD s.2.1 (h.sl 2 Z).2⟩ (h.p [1,2,3,4] Z) Z (Ao 19 1048575 Z (bK qa 2 0 (qj (y4+r4)) h Z c6 y D Z a4 Z Z Z Z Z Z Z fun _ h=>bL (fun hs=>absurd (hs 19 (by decide)) (by decide)) (Ad (X0 5 Z (rK ⟨_,_,F,Z,h⟩ Z)))))
 refine qx Z ?_;cases qe F;have F:=R;refine X0 8 Z ?_;obtain⟨o2,F,T⟩:=qc F;refine qr ?_;have h:=h.p [2,3] Z;refine rL (fun m e w'=>∃x2 i2,cX Q m x2 i2=V o2/\e=[(5,vp a),(6,oL c r1 b),(10,vi i2)]/\SH w w' [oW S1 (x2:List Int) [oL c r1 b],oX a (nW Q p6 p7 p8 p9 k6 k7 k8 k9) 171]) n ⟨_,_,F,Z,h⟩ Z ?_;rintro m2 _ _ ⟨x2,i2,F,rfl,h⟩;rcases m2 with _|m2
 .cases F
 refine X0 6 Z (qp Z F ?_ ?_)<;>intro F
 .refine TN (rA [14] [0,1] h Z fun _ h=>M1 15 [0,1,2,3] 1 (h.p [0,1] Z) Z ?_);obtain⟨_,_,F,a8,_,_,_,_,b6,c0,rfl,a5⟩:=s6.ix F;refine Ae 4 31 b6 c0 a8 (h.p [0,1] Z) Z (Al 5 63 0 a5 (h.p [0,1] Z) Z ?_);obtain⟨y8,c7,F,t,_,_,_,_,z,H,rfl,_⟩:=(h.sl 0 Z).1.ix F;refine Ax 6 127 z H ⟨t.1,qD t.2.1 (h.sl 0 Z).2⟩ (h.p [0,1] Z) Z (Aw 7 255 (fun w' hw=>cR qa (qQ (w1:=w) (S1:=fun _=>False) hw 0 Z c7 z H Z) (j:=0) Z Z Z) (h.p [0,1] Z) Z ?_);refine M0 1023 [8,9] (h.p [0,1] Z) Z ?_;obtain⟨y9,c8,F,u,_,_,_,_,A,I,rfl,_⟩:=(h.sl 0 Z).1.ix F;refine Ax 10 2047 A I ⟨u.1,qD u.2.1 (h.sl 0 Z).2⟩ (h.p [0,1] Z) Z (Aw 11 4095 (fun w' hw=>cR qa (qQ (w1:=w) (S1:=fun _=>False) hw 0 Z c8 A I Z) (j:=0) Z Z Z) (h.p [0,1] Z) Z ?_);refine M0 8191 [12] (h.p [0,1] Z) Z ?_;obtain⟨_,J,F,d,_,_,_,_,f,g,rfl,k⟩:=(h.sl 0 Z).1.ix F;exact Ax 13 16383 f g ⟨d.1,qD d.2.1 (h.sl 0 Z).2⟩ (h.p [0,1] Z) Z (Ao 14 32767 Z (bK qa 0 0 (qj (y8+y9)) h Z J f g Z k Z Z Z Z Z Z Z fun _ h=>bL (fun hs=>absurd (hs 14 (by decide)) (by decide)) (Ad (X0 6 Z (rK ⟨_,_,F,Z,h⟩ Z)))))
 refine qx Z ?_;cases qe F;have F:=T;refine X0 5 Z ?_;cases qe F;exact rO 0 h Z ⟨Z,G⟩
def dI(c:aJ)(r1:List Int)(x1:List Int):Nat->(List Int)->Int->Option ((List Int)×Int)|0,_,_=>U|n+1,b,a=>bif decide (a<(x1.length:Int)) then(qF c.Ak a).bind fun d=>(qF b d).bind fun f=>(qF c.Bw a).bind fun g=>(qF r1 a).bind fun h=>(qF b a).bind fun _=>dI c r1 x1 n (ak b a (qj (f+(qj (g*h))))) (qj (a+1)) else V (b,a)
def lQ(n:Nat)(b:qf)(net:Int):Option (List Int):=(qF b.Ah net).bind fun c=>(iO n b net).bind fun r1=>(xY (r1.length:Int) (0:Int)).bind fun x1=>(dI c r1 x1 n x1 1).bind fun(a,_)=>V a
theorem xU{b:qf}{net}(f:Ro w b cs1){r:List Int}(F:lQ n b net=V r):qP prog 186 [gv b cs1,vi net] w r:=by
 obtain⟨p1,k1,p2,k2,p3,k3,p4,k4,p5,k5,rfl,_,_,_,_,s5⟩:=qW f;refine zV 49 func186 Z fun h=>dE (qJ h Z Z fun w1 A h=>X0 3 Z (rA [] [0] h Z fun _ h=>M1 7 [0,1,2] 0 (h.p [0] Z) Z ?_));obtain⟨y1,_,F,L,_,_,_,_,O,R,W,D⟩:=s5.ix F;obtain⟨p6,k6,p7,k7,p8,k8,p9,k9,rfl,s6,s7,_,_⟩:=dz W;refine Ae 3 15 O R L (h.p [0] Z) Z (Al 4 31 0 D (h.p [0] Z) Z (M1 127 [5,6] 0 (h.p [0] Z) Z ?_));obtain⟨r1,x,F⟩:=qc F;refine sg (fun e w'=>∃a z d c,e=[(5,vp a),(6,oL d r1 c)]/\SH w w' [oX a (nW y1 p6 p7 p8 p9 k6 k7 k8 k9) 171,oW z (r1:List Int) [oL d r1 c],oX A (qN b p1 p2 p3 p4 p5 k1 k2 k3 k4 k5) 34]) 0 (bits 11 2047) ?_ ?_
 .intro K;refine At 7 8 255 383 Z ?_ ?_
  .exact tR r1 h (cB 119 Z) (nw (h.old f) x) Z Z Z Z fun w10 S4 p13 k13 h=>Ag (h.p [1] Z) (Ao 8 511 Z (qi qa h Z Z Z fun w11 B h=>Ag (h.p [2] Z) (Ao 9 1023 Z (zs 0 h Z fun w12 h=>G0 2047 [10] (h.p [2] Z) Z (zK [(5,_),(6,_)] ⟨Z,Z,G⟩ (K _ _ ⟨_,_,_,_,Z,h⟩))))))
  refine qi qa h Z Z Z fun w10 B h=>Ag (h.p [1] Z) (Ao 7 511 Z (tR r1 h (cB 119 Z) (nw (h.old f) x) Z Z Z Z fun w11 S4 p13 k13 h=>Ag (h.p [2] Z) (Ao 9 1023 Z (zs 1 h Z fun w12 h=>G0 2047 [10] (h.p [2] Z) Z ?_))));have h:=h.p [1,0,2] Z;exact aK K ⟨_,_,_,_,Z,h⟩ Z
 rintro _ _ ⟨a,z,d,c,rfl,h⟩;refine Ad (X0 4 Z ?_);obtain⟨x1,g,F⟩:=qc F;obtain⟨g1,g2,g⟩:=aL g;refine bv qa Int h z9 g1 g2 g Z fun _ S6 y h=>X0 7 Z ?_;obtain⟨o1,F,C⟩:=qc F;refine qr ?_;have h:=h.p [0,1,2] Z;refine rL (fun m e w'=>∃x2 i1,dI y1 r1 x1 m x2 i1=V o1/\e=[(5,vp a),(6,oL d r1 c),(7,oS y x1.length x1.length),(8,vi i1)]/\SH w w' [oW S6 (x2:List Int) [oS y x1.length x1.length],oX a (nW y1 p6 p7 p8 p9 k6 k7 k8 k9) 171,oW z (r1:List Int) [oL d r1 c]]) n ⟨_,_,F,Z,h⟩ Z ?_;rintro m1 _ _ ⟨x2,i1,F,rfl,h⟩;rcases m1 with _|m1
 .cases F
 refine X0 8 Z (qp Z F ?_ ?_)<;>intro F
 .refine TN (rA [22] [0,1,2] h Z fun _ h=>M1 63 [0,1,2,3,4,5] 1 (h.p [0,1,2] Z) Z ?_);obtain⟨_,_,F,M,_,_,_,_,P,S,rfl,H⟩:=s6.ix F;refine Ae 6 127 P S M (h.p [0,1,2] Z) Z (Al 7 255 0 H (h.p [0,1,2] Z) Z ?_);obtain⟨y3,X,F,i,_,_,_,_,o,t,rfl,_⟩:=(h.sl 0 Z).1.ix F;refine Ax 8 511 o t ⟨i.1,qD i.2.1 (h.sl 0 Z).2⟩ (h.p [0,1,2] Z) Z (Aw 9 1023 (fun w' hw=>cR qa (qQ (w1:=w) (S1:=fun _=>False) hw 0 Z X o t Z) (j:=0) Z Z Z) (h.p [0,1,2] Z) Z ?_);refine M1 8191 [10,11,12] 1 (h.p [0,1,2] Z) Z ?_;obtain⟨y4,_,F,N,_,_,_,_,Q,T,rfl,I⟩:=s7.ix F;refine Ae 13 16383 Q T N (h.p [0,1,2] Z) Z (Al 14 32767 0 I (h.p [0,1,2] Z) Z (M0 131071 [15,16] (h.p [0,1,2] Z) Z ?_));obtain⟨y5,Y,F,k,_,_,_,_,p,u,rfl,_⟩:=(h.sl 2 Z).1.ix F;refine Ax 17 262143 p u ⟨k.1,qD k.2.1 (h.sl 2 Z).2⟩ (h.p [0,1,2] Z) Z (Aw 18 524287 (fun w' hw=>cR qa (qQ (w1:=w) (S1:=fun _=>False) hw 2 Z Y p u Z) (j:=0) Z Z Z) (h.p [0,1,2] Z) Z ?_);refine M0 2097151 [19,20] (h.p [0,1,2] Z) Z ?_;obtain⟨_,a3,F,l,_,_,_,_,s,v,rfl,J⟩:=(h.sl 0 Z).1.ix F;exact Ax 21 4194303 s v ⟨l.1,qD l.2.1 (h.sl 0 Z).2⟩ (h.p [0,1,2] Z) Z (Ao 22 8388607 Z (bK qa 0 0 (qj (y3+(qj (y4*y5)))) h Z a3 s v Z J Z Z Z Z Z Z Z fun _ h=>bL (fun hs=>absurd (hs 22 (by decide)) (by decide)) (Ad (X0 6 Z (rK ⟨_,_,F,Z,h⟩ Z)))))
 refine qx Z ?_;cases qe F;have F:=C;refine X0 5 Z ?_;cases qe F;exact rO 0 h Z ⟨Z,G⟩
def cu(r1:List Int)(b:aJ):Nat->(List Int)->Int->Option ((List Int)×Int)|0,_,_=>U|n+1,x1,a=>bif decide (a<(b.Bj.length:Int)) then(qF b.Bj a).bind fun d=>(qF r1 d).bind fun f=>(dj x1 ([f]:List Int)).bind fun c=>cu r1 b n c (qj (a+1)) else V (x1,a)
def kP(n:Nat)(b:qf)(net:Int):Option (List Int):=(lQ n b net).bind fun r1=>(qF b.Ah net).bind fun a=>(cu r1 a n ([]:List Int) 0).bind fun(x1,_)=>V x1
theorem wY{b:qf}{net}(g:Ro w b cs1){r:List Int}(F:kP n b net=V r):qP prog 120 [gv b cs1,vi net] w r:=by
 obtain⟨_,_,_,_,_,_,_,_,_,_,rfl,_,_,_,_,N⟩:=qW g;refine zV 32 func120 Z fun h=>dE (qJ h Z Z fun _ _ h=>X1 6 0 h Z (uj h F (xU (h.old g)) Z fun r1 _ S1 L J h F=>X1 12 1 h Z ?_));obtain⟨I,_,F,s,_,_,_,_,u,y,B,l⟩:=N.ix F;obtain⟨_,_,_,_,_,_,H,D,rfl,_,_,_,O⟩:=dz B;refine fG u y s Z (cq Z (bN 3 l h Z (X0 3 Z ?_)));have h:=h.nil (α:=Int);obtain⟨o1,F,k⟩:=qc F;refine qr ?_;have h:=h.p [0,1] Z;refine rL (fun m e w'=>∃S2 f d c x1 C,cu r1 I m x1 C=V o1/\e=[(5,oL L r1 J),(6,oS f d c),(17,oL H I.Bj D),(18,vi (I.Bj.length:Int)),(19,vi C)]/\SH w w' [oW S2 (x1:List Int) [oS f d c],oW S1 (r1:List Int) [oL L r1 J]]) n ⟨_,_,_,_,_,_,F,Z,h⟩ Z ?_;rintro K _ _ ⟨S2,f,d,c,x1,C,F,rfl,h⟩;obtain rfl:=(h.sl 0 Z).2;rcases K with _|K
 .cases F
 refine X0 5 Z (qp Z F ?_ ?_)<;>intro F
 .refine lN ?_;obtain⟨_,_,F,t,_,_,_,_,v,z,rfl,o⟩:=O.ix F;refine fG v z t Z (bN 0 o h Z (X0 6 Z ?_));obtain⟨P,_,F,i,_,_,_,_,x,A,rfl,p⟩:=(h.sl 1 Z).1.ix F;refine zx x A ⟨i.1,qD i.2.1 (h.sl 1 Z).2⟩ Z (zc 0 p Z (qv qa [.tmp 27] _ ([P]:List Int) h z9 ⟨Z,G⟩ Z fun _ _ _ h=>?_));obtain⟨_,a,F⟩:=qc F;obtain⟨M,a⟩:=qH a;refine bo qa 1 h Z (h.sl 0 Z).1 (h.sl 0 Z).2 z9 M a Z fun _ _ _ _ h=>X0 7 Z ?_;exact rK ⟨_,_,_,_,_,_,F,Z,h.p [1,2] Z⟩ Z
 refine qx Z ?_;cases qe F;have F:=k;refine X0 5 Z ?_;cases qe F;exact rO 0 h Z ⟨Z,G⟩

def ku(g:List Int)(d:Int)(f:Int)(h:Int):Nat->(List qw)->Int->Option ((List qw)×Int)|0,_,_=>U|n+1,b,a=>bif decide (a<2) then(qF g d).bind fun i=>(dj b ([(⟨qj ((qj (2*i))+a),qj ((qj (2*h))+a),2,f⟩:qw)]:List qw)).bind fun c=>ku g d f h n c (qj (a+1)) else V (b,a)
def kt(g:List Int)(f:Int)(d:List Int):Nat->(List qw)->Int->Option ((List qw)×Int)|0,_,_=>U|n+1,b,a=>bif decide (a<(d.length:Int)) then(qF d a).bind fun h=>(ku g f a h n b 0).bind fun(c,_)=>kt g f d n c (qj (a+1)) else V (b,a)
def ks(Ce:qf)(g:List (List Int))(h:List Int):Nat->(List (List Int))->(List Int)->(List qw)->Int->Option ((List (List Int))×(List Int)×(List qw)×Int)|0,_,_,_,_=>U|n+1,i,k,b,a=>bif decide (a<(Ce.Ah.length:Int)) then(iO n Ce a).bind fun l=>(qF l 0).bind fun p=>(dj k ([p]:List Int)).bind fun c=>(kP n Ce a).bind fun m=>(dj i ([m]:List (List Int))).bind fun d=>(qF g a).bind fun r=>(kt h a r n b 0).bind fun(f,_)=>ks Ce g h n d c f (qj (a+1)) else V (i,k,b,a)
def gK(r1:List aT):Nat->(List (List Int))->(List Int)->Int->Option ((List (List Int))×(List Int)×Int)|0,_,_,_=>U|n+1,c,d,a=>bif decide (a<(r1.length:Int)) then(qF r1 a).bind fun b=>bif b.drives then(qF d b.net).bind fun _=>gK r1 n c (ak d b.net a) (qj (a+1)) else(qF c b.net).bind fun g=>(dj g ([a]:List Int)).bind fun f=>gK r1 n (ak c b.net f) d (qj (a+1)) else V (c,d,a)
def kr(Ce:qf):Nat->(List qw)->Int->Int->Option ((List qw)×Int×Int)|0,_,_,_=>U|n+1,x1,b,a=>bif decide (a<(Ce.Aa.Ab.length:Int)) then(qF Ce.Aa.Ab a).bind fun c=>(mu n Ce c b).bind fun d=>(dj x1 d).bind fun g=>(di n c.Am).bind fun f=>kr Ce n g (qj (b+f)) (qj (a+1)) else V (x1,b,a)
def vU(n:Nat)(Ce:qf):Option (Option cL):=(fM n (⟨Ce.Aa.Ab,Ce.Aa.Am,Ce.Aa.Ai⟩:qk)).bind fun r1=>(kr Ce n ([]:List qw) 0 0).bind fun(x1,_,_)=>(xY (Ce.Ah.length:Int) (0:Int)).bind fun b=>(xY (Ce.Ah.length:Int) ([]:List Int)).bind fun c=>(gK r1 n c b 0).bind fun(d,f,_)=>(ks Ce d f n ([]:List (List Int)) ([]:List Int) x1 0).bind fun(g,h,a,_)=>V (V (⟨(⟨(⟨Ce.Ar.Au⟩:qB),(⟨Ce.Aa.Ab,Ce.Aa.Am,Ce.Aa.Ai⟩:qk),Ce.Ah⟩:qf),r1,a,h,g,[]⟩:cL))
theorem KY{A}(hA:∀b,A b->old w b){Ce:qf}(Q:qm.R w A Ce cs1){r:Option cL}(F:vU n Ce=V r):FM prog 72 [gv Ce cs1] w A r:=by
 obtain⟨p1,I,t,o,u,k3,v,p,D,z,rfl,s1,s2,s3,s4,s5⟩:=qW Q;have hg:=Rg.start hA;refine kY func72 Z (m:=156) Z Z (fun h=>?_);refine dE (qJ h Z Z fun w1 c h=>X0 3 Z (rA [] [0] h Z fun _ h=>M2 7 [0,1,2] 0 0 (h.p [0] Z) Z (Ao 3 15 Z (uj h F (lR (cg _ (h.oldS (s2.mono hg.old)) (h.oldS (s3.mono hg.old)) (h.oldS (s4.mono hg.old)))) Z fun r1 _ S1 H B h F=>Ag (h.p [1] Z) (Aw 4 31 (fun w' hw=>qC qa [0,1] [.tmp 15,.tmp 18] z8) (h.p [1] Z) Z ?_)))));refine Ao 5 63 Z (qJ h Z Z fun _ a h=>G0 127 [6] (h.p [2] Z) Z (Ad (X1 13 2 h Z ?_)));have h:=h.nil (α:=qw);obtain⟨o1,F,hK1⟩:=qc F;refine qr (rL (fun m e w'=>∃S2 p7 ln1 k7 x1 i1 i2,kr Ce m x1 i1 i2=V o1/\e=[(1,vp c),(3,vp a),(4,vi i1),(23,oL t Ce.Aa.Ab o),(24,vi (Ce.Aa.Ab.length:Int)),(25,vi i2)]/\SH w w' [oW S2 (x1:List qw) [oS p7 ln1 k7],oX a [oL p1 Ce.Ar.Au I,oL t Ce.Aa.Ab o,oL u Ce.Aa.Am k3,oL v Ce.Aa.Ai p,oL D Ce.Ah z,oL H r1 B,oS p7 ln1 k7,oS U 0 0,oS U 0 0,oS U 0 0] 132,oW S1 (r1:List aT) [oL H r1 B],oX c (qN Ce p1 t u v D I o k3 p z) 34]) n ⟨_,_,_,_,_,_,_,F,Z,h⟩ Z ?_);rintro m1 _ _ ⟨S2,p7,ln1,k7,x1,i1,i2,F,rfl,h⟩;obtain rfl:=(h.sl 0 Z).2;rcases m1 with _|m1
 .cases F
 refine X0 5 Z (qp Z F ?_ ?_)<;>intro F
 .refine lN ?_;obtain⟨y1,_,F,he1,_,_,_,_,hp1,hq1,hr2,hc2⟩:=s2.ix F;obtain⟨_,_,rfl,s6⟩:=bD hr2;refine fG hp1 hq1 he1 Z (bN 0 hc2 h Z (qi qa h Z Z Z fun _ _ h=>zs 0 h Z fun _ h=>O2 (rA [12] [0,2,4] h Z fun _ h=>M3 255 [0,1,2,3,4,5,6,7] 1 2 0 (h.p [0,2,4] Z) Z (Ao 8 511 Z (uj h F (yq (h.old (qm.mono Q hg.old)) (EH y1 (h.oldS (s6.mono hg.old)))) Z fun _ _ _ _ _ h F=>Ag (h.p [1,3,5] Z) (Ao 9 1023 Z ?_))))));obtain⟨_,hx1,F⟩:=qc F;obtain⟨g1,hx1⟩:=qH hx1;refine bo qa 2 h Z (h.sl 0 Z).1 (h.sl 0 Z).2 z9 g1 hx1 Z fun _ _ _ _ h=>Ag (h.p [1,3,5] Z) (Ao 10 2047 Z (cq Z (G0 4095 [11] (h.p [1,3,5] Z) Z (Ao 12 8191 Z (zs 3 h Z fun _ h=>bL (fun hs=>absurd (hs 12 (by decide)) (by decide)) (Ad (X1 4 1 h Z (mN h F (fS ⟨_,_,Z,(h.oldS (s6.mono hg.old))⟩) Z fun _ _ h F=>X0 8 Z ?_))))))));exact rK ⟨_,_,_,_,_,_,_,F,Z,h.p [2,3,4,5] Z⟩ Z
 refine qx Z ?_;cases qe F;have F:=hK1;refine X1 5 3 h Z ?_;obtain⟨i,hx2,F⟩:=qc F;obtain⟨g2,g3,hx2⟩:=aL hx2;refine bv qa Int h z9 g2 g3 hx2 Z fun _ S5 f h=>X1 7 4 h Z ?_;obtain⟨k,hx3,F⟩:=qc F;obtain⟨g4,g5,hx3⟩:=aL hx3;refine bv qa (List Int) h z9 g4 g5 hx3 Z fun _ _ g h=>X1 12 3 h Z ?_;obtain⟨o2,F,hK2⟩:=qc F;refine qr (rL (fun m e w'=>∃(S7:Nat->Prop) (x5:List (List Int)) (P:List Int) (i3:Int),gK r1 m x5 P i3=V o2/\e=[(1,vp c),(3,vp a),(7,oS f i.length i.length),(8,oS g k.length k.length),(58,oL H r1 B),(59,vi (r1.length:Int)),(60,vi i3)]/\SH w w' [oW S7 (x5:List (List Int)) [oS g k.length k.length],oW S5 (P:List Int) [oS f i.length i.length],oW S2 (x1:List qw) [oL p7 x1 k7],oX a [oL p1 Ce.Ar.Au I,oL t Ce.Aa.Ab o,oL u Ce.Aa.Am k3,oL v Ce.Aa.Ai p,oL D Ce.Ah z,oL H r1 B,oL p7 x1 k7,oS U 0 0,oS U 0 0,oS U 0 0] 132,oW S1 (r1:List aT) [oL H r1 B],oX c (qN Ce p1 t u v D I o k3 p z) 34]) n ⟨_,_,_,_,F,Z,h⟩ Z ?_);rintro m2 _ _ ⟨S7,x5,P,i3,F,rfl,h⟩;rcases m2 with _|m2
 .cases F
 refine X0 5 Z (qp Z F ?_ ?_)<;>intro F
 .refine X0 6 Z ?_;obtain⟨y2,_,F,he2,_,_,_,_,hp2,hq2,hr5,hc4⟩:=(h.sl 4 Z).1.ix F;obtain rfl:=pF hr5;refine zx hp2 hq2 ⟨he2.1,qD he2.2.1 (h.sl 4 Z).2⟩ Z (zc 0 hc4 Z (qi qa h Z Z Z fun _ bb4 h=>cq Z (zs 0 h Z fun _ h=>X1 6 0 h Z (qp Z F ?_ ?_))))<;>intro F
  .refine X1 5 0 h Z ?_;obtain⟨_,hy3,F,he3,_,_,_,_,hp3,hq3,rfl,hc6⟩:=(h.sl 2 Z).1.ix F;refine zx hp3 hq3 ⟨he3.1,qD he3.2.1 (h.sl 2 Z).2⟩ Z (bK qa 2 0 i3 h Z hy3 hp3 hq3 Z hc6 Z Z Z Z Z Z Z fun _ h=>X0 6 Z ?_);exact rK ⟨_,_,_,_,F,Z,h.p [1,2,3,4,5,6] Z⟩ Z
  obtain⟨_,hy4,F⟩:=qc F;have R:=bH hy4;have h:=h.p [1,0,2,3,4,5,6] Z;obtain⟨_,S9,_,h⟩:=h.take hy4;obtain⟨_,_,rfl,-⟩:=h.own 0 Z;refine rA [12] [1,2] h Z fun _ h=>M2 63 [0,1,2,3,4,5] 1 1 (h.p [1,2] Z) Z ?_;obtain⟨_,hp4,-,-,hl2⟩:=h.holeAt 1 Z;obtain⟨q4,hq4⟩:∃q,q=0+(y2.net).toNat*qm.k (List Int):=⟨_,Z⟩;refine Ax 6 127 hp4 hq4 ⟨R.1,qD R.2.1 hl2⟩ (h.p [1,2] Z) Z (Aw 7 255 (fun w' hw=>cR qa (sE hw 0 Z hp4 hq4) (j:=0) Z Z Z) (h.p [1,2] Z) Z ?_);refine M0 511 [8] (h.p [1,2] Z) Z (Ao 9 1023 Z (qv qa [.tmp 80] _ ([i3]:List Int) h z9 ⟨Z,G⟩ Z fun _ p14 S10 h=>Ag (h.p [2,3] Z) (Ao 10 2047 Z ?_)));obtain⟨x7,hx4,F⟩:=qc F;obtain⟨g6,hx4⟩:=qH hx4;refine bo qa 1 h Z (h.sl 0 Z).1 (h.sl 0 Z).2 z9 g6 hx4 Z fun _ p15 k12 S11 h=>Ag (h.p [2,3] Z) ?_;obtain⟨_,hp5,-,-,hl4⟩:=h.holeAt 2 Z;obtain⟨q5,hq5⟩:∃q,q=0+(y2.net).toNat*qm.k (List Int):=⟨_,Z⟩;refine Ax 11 4095 hp5 hq5 ⟨R.1,qD R.2.1 hl4⟩ (h.p [2,3] Z) Z (Ao 12 8191 Z (GR qa 2 0 h Z hp5 hq5 Z Z Z Z Z Z fun _ h=>?_));replace h:SH _ _ [oW S10 (([i3]:List Int):List Int) [oS p14 1 1],oW S11 (x7:List Int) [oL p15 x7 k12],Ch.hole S9 (x5:List (List Int)) g k.length k.length (y2.net).toNat [oL p15 x7 k12],oX bb4 (MK y2) 181,oW S5 (P:List Int) [oS f i.length i.length],oW S2 (x1:List qw) [oL p7 x1 k7],oX a [oL p1 Ce.Ar.Au I,oL t Ce.Aa.Ab o,oL u Ce.Aa.Am k3,oL v Ce.Aa.Ai p,oL D Ce.Ah z,oL H r1 B,oL p7 x1 k7,oS U 0 0,oS U 0 0,oS U 0 0] 132,oW S1 (r1:List aT) [oL H r1 B],oX c (qN Ce p1 t u v D I o k3 p z) 34]:=h;refine bL (fun hs=>absurd (hs 12 (by decide)) (by decide)) (Ad (X0 5 Z ?_));have h:=h.p [1,2,0,3,4,5,6,7,8] Z;have h:=h.put;obtain⟨_,h⟩:=FF (S:=_) h;exact rK ⟨_,_,_,_,F,Z,h.p [0,3,4,5,6,7] Z⟩ Z
 refine qx Z ?_;cases qe F;have F:=hK2;refine X1 8 5 h Z ?_;have h:=h.nil (α:=Int);have h:=h.nil (α:=(List Int));obtain⟨o3,F,hK3⟩:=qc F;refine qr (rL (fun m e w'=>∃(S13:Nat->Prop) (s:Option Addr) (ln2:Nat) (l:Nat) (N:List (List Int)) (S14:Nat->Prop) (C:Option Addr) (ln3:Nat) (y:Nat) (O:List Int) (S15:Nat->Prop) (K:Option Addr) (ln4:Nat) (J:Nat) (d:List qw) (T:Int),ks Ce x5 P m N O d T=V o3/\e=[(1,vp c),(3,vp a),(7,oS f i.length i.length),(8,oS g k.length k.length),(87,vi (Ce.Ah.length:Int)),(88,vi T)]/\SH w w' [oW S13 (N:List (List Int)) [oS s ln2 l],oW S14 (O:List Int) [oS C ln3 y],oW S7 (x5:List (List Int)) [oS g k.length k.length],oW S5 (P:List Int) [oS f i.length i.length],oW S15 (d:List qw) [oS K ln4 J],oX a [oL p1 Ce.Ar.Au I,oL t Ce.Aa.Ab o,oL u Ce.Aa.Am k3,oL v Ce.Aa.Ai p,oL D Ce.Ah z,oL H r1 B,oS K ln4 J,oS C ln3 y,oS s ln2 l,oS U 0 0] 132,oW S1 (r1:List aT) [oL H r1 B],oX c (qN Ce p1 t u v D I o k3 p z) 34]) n ⟨_,_,_,_,_,_,_,_,_,_,_,_,_,_,_,_,F,Z,h⟩ Z ?_);rintro m3 _ _ ⟨S13,s,ln2,l,N,S14,C,ln3,y,O,S15,K,ln4,J,d,T,F,rfl,h⟩;obtain rfl:=(h.sl 0 Z).2;obtain rfl:=(h.sl 1 Z).2;obtain rfl:=(h.sl 4 Z).2;rcases m3 with _|m3
 .cases F
 refine X0 5 Z (qp Z F ?_ ?_)<;>intro F
 .refine X0 9 Z (rA [14] [5,7] h Z fun _ h=>M2 127 [0,1,2,3,4,5,6] 0 1 (h.p [5,7] Z) Z (Ao 7 255 Z (uj h F (nw (h.old (qm.mono Q hg.old))) Z fun _ _ _ _ _ h F=>Ag (h.p [6,8] Z) ?_)));obtain⟨y5,_,F,he5,_,_,_,_,hp6,hq6,rfl,hc8⟩:=(h.sl 0 Z).1.ix F;refine Ax 8 511 hp6 hq6 ⟨he5.1,qD he5.2.1 (h.sl 0 Z).2⟩ (h.p [6,8] Z) Z (Ao 9 1023 Z (zc 0 hc8 Z (Ag (h.p [6,8] Z) (Ao 10 2047 Z (qv qa [.tmp 100] _ ([y5]:List Int) h z9 ⟨Z,G⟩ Z fun _ _ _ h=>Ag (h.p [7,9] Z) (Ao 11 4095 Z ?_))))));obtain⟨L,hx5,F⟩:=qc F;obtain⟨g7,hx5⟩:=qH hx5;refine bo qa 3 h Z (h.sl 0 Z).1 (h.sl 0 Z).2 z9 g7 hx5 Z fun _ a3 W S18 h=>Ag (h.p [7,9] Z) (Ao 12 8191 Z (cq Z (G0 16383 [13] (h.p [7,9] Z) Z (Ao 14 32767 Z (zs 7 h Z fun _ h=>bL (fun hs=>absurd (hs 14 (by decide)) (by decide)) (Ad (au (rA [12] [7,9] h Z fun _ h=>M2 127 [0,1,2,3,4,5,6] 0 1 (h.p [7,9] Z) Z (Ao 7 255 Z (uj h F (wY (h.old (qm.mono Q hg.old))) Z fun r5 _ _ _ _ h F=>Ag (h.p [8,10] Z) (Ao 8 511 Z (kh qa [.tmp 112] _ ([r5]:List (List Int)) [1,2,3,4,5,6,7,8,9,10] h Z Z Z Z Z Z Z Z Z (fU (qS 0 h Z) pe Z) Z Z fun _ _ _ h=>Ag (h.p [8,10] Z) (Ao 9 1023 Z ?_)))))))))))));obtain⟨M,hx6,F⟩:=qc F;obtain⟨g8,hx6⟩:=qH hx6;have h:=h.p [0,3,1,2,4,5,6,7,8,9,10] Z;refine zA qa h Z Z Z Z Z Z Z Z Z g8 hx6 Z fun _ a4 X S21 h=>Ag (h.p [7,9] Z) (Ao 10 2047 Z (cq Z (G0 4095 [11] (h.p [7,9] Z) Z (Ao 12 8191 Z (zs 7 h Z fun _ h=>bL (fun hs=>absurd (hs 12 (by decide)) (by decide)) (Ad (X0 4 Z ?_)))))));obtain⟨y6,hy6,F⟩:=qc F;have he6:=bH hy6;have h:=h.lrn0 4 Z;obtain⟨_,o_5,_,_,hp7,hq7,-,hr10,hc9⟩:=(kZ (h.lrnO 4 Z)).1.at hy6;have hr11:=hr10;obtain⟨a5,Y,rfl,_⟩:=hr10;have h:=h.lrnAdd 4 Z hr11;refine zx hp7 hq7 ⟨he6.1,qD he6.2.1 (kZ (h.lrnO 4 Z)).2⟩ Z (zc 0 hc9 Z (X0 3 Z ?_));obtain⟨o4,F,hK4⟩:=qc F;refine qr ?_;have h:=h.p [0,3,4,5,6,7,8,9] Z;refine rL (fun m e w'=>∃S22 p26 ln5 k21 x13 i5,kt P T y6 m x13 i5=V o4/\e=[(1,vp c),(3,vp a),(7,oS f i.length i.length),(8,oS g k.length k.length),(11,vi T),(87,vi (Ce.Ah.length:Int)),(88,vi T),(120,oL a5 y6 Y),(121,vi (y6.length:Int)),(122,vi i5)]/\SH w w' [oW S21 (M:List (List Int)) [oL a4 M X],oW S18 (L:List Int) [oL a3 L W],Ch.lrn S7 (x5:List (List Int)) [oS g k.length k.length] [ti (y6:List Int) [oL a5 y6 Y]],oW S5 (P:List Int) [oS f i.length i.length],oW S22 (x13:List qw) [oS p26 ln5 k21],oX a [oL p1 Ce.Ar.Au I,oL t Ce.Aa.Ab o,oL u Ce.Aa.Am k3,oL v Ce.Aa.Ai p,oL D Ce.Ah z,oL H r1 B,oS p26 ln5 k21,oL a3 L W,oL a4 M X,oS U 0 0] 132,oW S1 (r1:List aT) [oL H r1 B],oX c (qN Ce p1 t u v D I o k3 p z) 34]) m3 ⟨_,_,_,_,_,_,F,Z,h⟩ Z ?_;rintro m4 _ _ ⟨S22,p26,ln5,k21,x13,i5,F,rfl,h⟩;obtain rfl:=(h.sl 4 Z).2;rcases m4 with _|m4
  .cases F
  refine X0 5 Z (qp Z F ?_ ?_)<;>intro F
  .refine X0 6 Z ?_;obtain⟨y7,_,F,he7,_,_,_,_,hp8,hq8,rfl,hc11⟩:=(kZ (qm.mono (h.lrnS 2 0 Z Z) (h.lrnB 2 Z))).1.ix F;refine zx hp8 hq8 ⟨he7.1,qD he7.2.1 (kZ (qm.mono (h.lrnS 2 0 Z Z) (h.lrnB 2 Z))).2⟩ Z (zc 0 hc11 Z (X0 7 Z ?_));obtain⟨o5,F,hK5⟩:=qc F;refine qr (rL (fun m e w'=>∃S23 p27 ln6 k22 x14 i6,ku P T i5 y7 m x14 i6=V o5/\e=[(1,vp c),(3,vp a),(7,oS f i.length i.length),(8,oS g k.length k.length),(11,vi T),(12,vi i5),(13,vi y7),(87,vi (Ce.Ah.length:Int)),(88,vi T),(120,oL a5 y6 Y),(121,vi (y6.length:Int)),(122,vi i5),(127,vi i6)]/\SH w w' [oW S21 (M:List (List Int)) [oL a4 M X],oW S18 (L:List Int) [oL a3 L W],Ch.lrn S7 (x5:List (List Int)) [oS g k.length k.length] [ti (y6:List Int) [oL a5 y6 Y]],oW S5 (P:List Int) [oS f i.length i.length],oW S23 (x14:List qw) [oS p27 ln6 k22],oX a [oL p1 Ce.Ar.Au I,oL t Ce.Aa.Ab o,oL u Ce.Aa.Am k3,oL v Ce.Aa.Ai p,oL D Ce.Ah z,oL H r1 B,oS p27 ln6 k22,oL a3 L W,oL a4 M X,oS U 0 0] 132,oW S1 (r1:List aT) [oL H r1 B],oX c (qN Ce p1 t u v D I o k3 p z) 34]) m4 ⟨_,_,_,_,_,_,F,Z,h⟩ Z ?_);rintro m5 _ _ ⟨S23,p27,ln6,k22,x14,i6,F,rfl,h⟩;obtain rfl:=(h.sl 4 Z).2;rcases m5 with _|m5
   .cases F
   refine X0 5 Z (qp Z F ?_ ?_)<;>intro F
   .refine X0 8 Z (rA [22] [3,5] h Z fun _ h=>M1 127 [0,1,2,3,4,5,6] 1 (h.p [3,5] Z) Z ?_);obtain⟨y8,hy8,F,he8,_,_,_,_,hp9,hq9,rfl,_⟩:=(h.sl 3 Z).1.ix F;refine Ax 7 255 hp9 hq9 ⟨he8.1,qD he8.2.1 (h.sl 3 Z).2⟩ (h.p [3,5] Z) Z (Aw 8 511 (fun w' hw=>cR qa (qQ (w1:=w) (S1:=fun _=>False) hw 0 Z hy8 hp9 hq9 Z) (j:=0) Z Z Z) (h.p [3,5] Z) Z ?_);refine M0 131071 [9,10,11,12,13,14,15,16] (h.p [3,5] Z) Z (Aw 17 262143 (fun w' hw=>qC qa [0,1,2,3] [.tmp 141,.tmp 145,.const (vi (2)),.tmp 146] z8) (h.p [3,5] Z) Z ?_);refine Ao 18 524287 Z (qv qa [.tmp 147] _ ([(⟨qj ((qj (2*y8))+i6),qj ((qj (2*y7))+i6),2,i5⟩:qw)]:List qw) h z9 ⟨(fT (⟨qj ((qj (2*y8))+i6),qj ((qj (2*y7))+i6),2,i5⟩:qw)),G⟩ Z fun _ _ _ h=>Ag (h.p [4,6] Z) (Ao 19 1048575 Z ?_));obtain⟨_,hx7,F⟩:=qc F;obtain⟨g9,hx7⟩:=qH hx7;refine bo qa 5 h Z (h.sl 0 Z).1 (h.sl 0 Z).2 z9 g9 hx7 Z fun _ _ _ _ h=>Ag (h.p [4,6] Z) (Ao 20 2097151 Z (cq Z (G0 4194303 [21] (h.p [4,6] Z) Z (Ao 22 8388607 Z (zs 6 h Z fun _ h=>bL (fun hs=>absurd (hs 22 (by decide)) (by decide)) (Ad (X0 5 Z ?_)))))));exact rK ⟨_,_,_,_,_,_,F,Z,h.p [1,2,3,4,5,6,7,8] Z⟩ Z
   refine qx Z ?_;cases qe F;exact X0 5 Z (rK ⟨_,_,_,_,_,_,hK5,Z,h⟩ Z)
  refine qx Z ?_;cases qe F;have F:=hK4;refine X0 5 Z ?_;have h:=h.unlrn 2 Z;exact rK ⟨_,_,_,_,_,_,_,_,_,_,_,_,_,_,_,_,F,Z,h⟩ Z
 refine qx Z ?_;cases qe F;have F:=hK3;refine X0 5 Z ?_;obtain rfl:=qe F;have hv1:la.Rs (ρ:=(Option cL)) h.wc (xC A w h.wc) (V (⟨Ce,r1,d,O,N,[]⟩:cL)) [oV (Option cL) [vp a]]:=⟨_,Z,(hg.outR h (Rg.boxR (x:=(⟨Ce,r1,d,O,N,[]⟩:cL)) 5 h Z (show qm.R _ _ ((⟨Ce,r1,d,O,N,[]⟩:cL):cL) _ from⟨[oL p1 Ce.Ar.Au I,oL t Ce.Aa.Ab o,oL u Ce.Aa.Am k3,oL v Ce.Aa.Ai p,oL D Ce.Ah z],[oL H r1 B,oL K d J,oL C O y,oL s N l,oS U 0 0],Z,⟨[oL p1 Ce.Ar.Au I],[oL t Ce.Aa.Ab o,oL u Ce.Aa.Am k3,oL v Ce.Aa.Ai p,oL D Ce.Ah z],Z,⟨_,_,Z,(hg.inS h s1)⟩,⟨[oL t Ce.Aa.Ab o,oL u Ce.Aa.Am k3,oL v Ce.Aa.Ai p],[oL D Ce.Ah z],Z,⟨[oL t Ce.Aa.Ab o],[oL u Ce.Aa.Am k3,oL v Ce.Aa.Ai p],Z,⟨_,_,Z,(hg.inS h s2)⟩,⟨[oL u Ce.Aa.Am k3],[oL v Ce.Aa.Ai p],Z,⟨_,_,Z,(hg.inS h s3)⟩,⟨_,_,Z,(hg.inS h s4)⟩⟩⟩,⟨_,_,Z,(hg.inS h s5)⟩⟩⟩,⟨[oL H r1 B],[oL K d J,oL C O y,oL s N l,oS U 0 0],Z,(Rg.ownR 6 h Z),⟨[oL K d J],[oL C O y,oL s N l,oS U 0 0],Z,(Rg.ownR 4 h Z),⟨[oL C O y],[oL s N l,oS U 0 0],Z,(Rg.ownR 1 h Z),⟨[oL s N l],[oS U 0 0],Z,(Rg.ownR 0 h Z),⟨_,_,Z,uP⟩⟩⟩⟩⟩⟩)))⟩;exact mR qa (ρ:=(Option cL)) (r:=(V (⟨Ce,r1,d,O,N,[]⟩:cL))) [oV (Option cL) [vp a]] h ⟨Z,G⟩ hv1
def eO(c:qG):Nat->Int->Option (eE Bool Int)|0,_=>U|n+1,a=>bif decide (a<((4:Nat):Int)) then(qF ([c.Ba,c.Bd,c.Ay,c.Bc]:List Int) a).bind fun b=>(aW n b 100 5000).bind fun r1=>bif (!r1) then V (.ret Cd) else eO c n (qj (a+1)) else V (.nxt a)
def rY(n:Nat)(c:qG):Option Bool:=(eO c n 0).bind fun|.ret r=>V r|.nxt _=>(oq n c.Bh).bind fun a=>bif a then bif decide (c.Ba<=c.Bd) then V (decide (c.Ay<=c.Bc)) else V Cd else V Cd
theorem IL{c:qG}(f:Ro w c cs1){r:Bool}(F:rY n c=V r):qP prog 213 [gv c cs1] w r:=by
 obtain rfl:=cQ f;refine zV 43 func213 Z fun h=>dE (qJ h Z Z fun _ a h=>X4 12 0 0 0 0 h Z (qv qa [.tmp 6,.tmp 8,.tmp 10,.tmp 12] _ ([c.Ba,c.Bd,c.Ay,c.Bc]:List Int) h z9 ⟨Z,Z,Z,Z,G⟩ Z fun _ p1 S1 h=>X0 7 Z ?_));obtain⟨o1,F,b⟩:=qc F;refine qr (rL (fun m e w'=>∃l,eO c m l=V o1/\e=[(1,vp a),(3,oS p1 4 4),(4,vi l)]/\SH w w' [oW S1 (([c.Ba,c.Bd,c.Ay,c.Bc]:List Int):List Int) [oS p1 4 4],oX a (bZ c) 36]) n ⟨_,F,Z,h⟩ Z ?_);rintro o _ _ ⟨l,F,rfl,h⟩;rcases o with _|o
 .cases F
 refine X0 8 Z (qp Z F ?_ ?_)<;>intro F
 .refine X0 7 Z ?_;obtain⟨_,_,F,d,_,_,_,_,i,k,rfl,g⟩:=(h.sl 0 Z).1.ix F;refine zx i k ⟨d.1,qD d.2.1 (h.sl 0 Z).2⟩ Z (zc 0 g Z (dF h F aF Z fun _ _ h F=>X0 2 Z (qp Z F ?_ ?_)))<;>intro F
  .refine X0 4 Z ?_;cases qe F;exact rb h b Z
  exact X0 7 Z (rK ⟨_,F,Z,h⟩ Z)
 refine qx Z ?_;cases qe F;have F:=b;refine X1 4 1 h Z (dF h F sv Z fun _ _ h F=>cq Z (qh (t:=29) F Z ?_ ?_))<;>intro F
 .refine X2 12 1 1 h Z (qh (t:=36) F Z ?_ ?_)<;>intro F
  .exact X2 13 1 1 h Z (rb h F Z)
  exact X0 8 Z (rb h F Z)
 exact X0 15 Z (rb h F Z)
def oz(_:Nat)(a:Int)(b:Int):Option Bool:=bif decide (a>=100) then bif decide (a<=b) then V (decide (b<=5000)) else V Cd else V Cd
theorem wE{early late}  {r:Bool}(F:oz n early late=V r):qP prog 116 [vi early,vi late] w r:=by
 refine zV 16 func116 Z fun h=>X0 9 Z (qh (t:=7) F Z ?_ ?_)<;>intro F
 .refine X0 8 Z (qh (t:=12) F Z ?_ ?_)<;>intro F
  .exact X0 7 Z (rb h F Z)
  exact X0 5 Z (rb h F Z)
 exact X0 10 Z (rb h F Z)
def rR(n:Nat)(c:qG):Option Bool:=(sS n c.Bh).bind fun r1=>bif r1 then(oz n c.Ba c.Bd).bind fun a=>bif a then(oz n c.Ay c.Bc).bind fun b=>V b else V Cd else V Cd
theorem HQ{c:qG}(a:Ro w c cs1){r:Bool}(F:rR n c=V r):qP prog 71 [gv c cs1] w r:=by
 obtain rfl:=cQ a;refine zV 20 func71 Z fun h=>dE (qJ h Z Z fun _ _ h=>X1 6 0 h Z (dF h F wF Z fun _ _ h F=>cq Z (qh (t:=6) F Z ?_ ?_)))<;>intro F
 .refine X2 9 0 0 h Z (dF h F wE Z fun _ _ h F=>lY Z (qh (t:=13) F Z ?_ ?_))<;>intro F
  .exact X2 9 0 0 h Z (dF h F wE Z fun _ _ h F=>X0 3 Z (rb h F Z))
  exact X0 8 Z (rb h F Z)
 exact X0 15 Z (rb h F Z)
end Go.Fw


namespace Go.Fw
open Go
set_option maxRecDepth 100000
theorem M9{d:qk}{k:Int}{n i:Nat}(hi:i<(fd d k n).length):∃y:Nat,y<n/\qF (fd d k n) (i:Int)=V (y:Int)/\tU d k y=An:=by
 rw[cj hi];have a:(fd d k n)[i]∈fd d k n:=jo hi;generalize (fd d k n)[i]=z at a;unfold fd at a;obtain⟨y,f,rfl⟩:=List.mem_map.1 a;obtain⟨b,c⟩:=List.mem_filter.1 f;exact⟨y,List.mem_range.1 b,Z,c⟩
theorem OW{d:qk}{k:Int}(h:vC d):Ev (fun n=>oZ n d k) (fd d k (places d).length):=by
 have g:=bf h;have c:Ev (fun n=>cy k (places d) n ([]:List Int) 0) (fd d k (places d).length,((places d).length:Int)):=by
  refine fD (Lf:=cy k (places d)) (S:=fun j=>fd d k j) (len:=(places d).length) (fun n=>?_) (fun j b X a=>?_)
  .simp only[cy,qu (jf _),Cj]
  .have f:(fd d k j).length+[(j:Int)].length<=2147483648:=by
    rw[uJ];have:gf (tU d k) j<=j:=nX;simp;omega
   simp only[cy,qq b,Ci,qz b,jd,wS j];rw[vm] at a;unfold tU at a;cases h1:((gt (places d) j).net==k)
   .rw[h1] at a;simp only[Bool.false_and,Cj,jY] at a⊢;exact a
   .cases h2:(gt (places d) j).drives
    .rw[h1,h2] at a;simp only[Bool.not_false,Bool.and_self,Ci,dU f,jd] at a⊢;exact a
    .rw[h1,h2] at a;simp only[Jm,Bool.and_false,Cj,jY,Ci] at a⊢;exact a
 unfold oZ;exact Ck (DF h) (Ck c .done)
structure qcU(b:qf)(i:Nat):Prop where
 lo:1<=(gt b.Ah i).Ak.length
 hi:(gt b.Ah i).Ak.length<=8
 res:(gt b.Ah i).Bw.length=(gt b.Ah i).Ak.length
 cap:(gt b.Ah i).Br.length=(gt b.Ah i).Ak.length
 par:∀j,0<j->j<(gt b.Ah i).Ak.length->0<=bO (gt b.Ah i).Ak j/\bO (gt b.Ah i).Ak j<j
 snk:(gt b.Ah i).Bj.length=(fd b.Aa (i:Int) (places b.Aa).length).length
 sin:∀j,j<(gt b.Ah i).Bj.length->0<=bO (gt b.Ah i).Bj j/\bO (gt b.Ah i).Bj j<(gt b.Ah i).Ak.length
theorem dq{b:qf}(h:aU b=An){i:Nat}(hi:i<b.Ah.length):qcU b i:=by
 unfold aU at h;rw[je,aG] at h;have:=h.2 i hi;unfold AB zo at this;simp only[je,decide_eq_true_eq,beq_iff_eq] at this;obtain⟨⟨f,g⟩,n,o,k,_,_,l,c⟩:=this;refine⟨f,g,by omega,by omega,fun j m a=>?_,?_,fun j a=>?_⟩
 .have:=aG.1 k j a;unfold CP at this;rw[show decide (j=0)=Cd by simp;omega] at this;simp only[Cj,bV] at this;omega
 .rw[uJ];unfold WM at l;omega
 .rw[pn (d:=0),aG] at c;have:=c j a;rw[bV] at this;unfold bO;omega
theorem wy{b:qf}(h:aU b=An):b.Ah.length=b.Aa.Am.length:=by
 unfold aU at h;simp only[je,beq_iff_eq] at h;omega

instance:Inhabited qw:=⟨⟨0,0,0,0⟩⟩
instance:Inhabited aj:=⟨⟨0,0⟩⟩
theorem xx{α:Type}{m:Nat}{z:α}(h:m<=2147483648):xY (m:Int) z=V (List.replicate m z):=by
 unfold xY OI;rw[if_pos ⟨by omega,by omega⟩,jr]
theorem PX{α:Type}[Inhabited α]{xs:List α}{a k:Nat}{y:α}(h:k≠a):gt (xs.set a y) k=gt xs k:=by
 unfold gt;rw[jz,List.getElem?_set_ne (by omega),<-jz]
theorem KG{α:Type}[Inhabited α]{xs:List α}{a:Nat}{y:α}(h:a<xs.length):gt (xs.set a y) a=y:=by
 rw[fh (by rw[List.length_set];exact h),List.getElem_set_self]

def yU(f:Nat->Int):Nat->Int
 |0=>0
 |n+1=>yU f n+f n
theorem ZO{f g:Nat->Int}{n:Nat}(h:∀u,u<n->f u=g u):yU f n=yU g n:=by
 induction n with
 |zero=>rfl
 |succ n ih=>unfold yU;rw[ih (fun u a=>h u (by omega)),h n (by omega)]
theorem WU{f g:Nat->Int}{a n:Nat}(d:a<n)(h:∀u,u<n->u≠a->f u=g u):yU f n=yU g n+(f a-g a):=by
 induction n with
 |zero=>omega
 |succ n ih=>
  unfold yU;by_cases b:a=n
  .subst b;rw[ZO (fun u c=>h u (by omega) (by omega))];omega
  .rw[ih (by omega) (fun u c=>h u (by omega)),h n (by omega) (by omega)];omega
theorem qbu{f:Nat->Int}{n:Nat}(h:∀u,u<n->0<=f u):0<=yU f n:=by
 induction n with
 |zero=>exact jV _
 |succ n ih=>unfold yU;have:=ih (fun u a=>h u (by omega));have:=h n (by omega);omega
theorem TG{f:Nat->Int}{a n:Nat}(h:∀u,u<n->0<=f u)(d:a<n):f a<=yU f n:=by
 induction n with
 |zero=>omega
 |succ n ih=>
  unfold yU;by_cases b:a=n
  .subst b;have:=qbu (fun u (c:u<a)=>h u (by omega));omega
  .have:=ih (fun u c=>h u (by omega)) (by omega);have:=h n (by omega);omega
theorem qbt{f:Nat->Int}{n:Nat}{c:Int}(h:∀u,u<n->f u<=c):yU f n<=n*c:=by
 induction n with
 |zero=>simp[yU]
 |succ n ih=>
  unfold yU;have:=ih (fun u a=>h u (by omega));have:=h n (by omega);rw[Int.natCast_succ,Int.add_mul];omega
def SP(b:qf)(p:aT):Int:=bif decide (p.instance_<0) then 0 else(gt (cH b p.instance_).Bg p.pin.toNat).Br
def ML(b:qf)(j:Nat):Int:=SP b (gt (places b.Aa) j)
theorem Q4{b:qf}(h:aU b=An){j:Nat}(d:j<(places b.Aa).length){n:Nat}:oY n b.Aa b.Ar (gt (places b.Aa) j)=V (ML b j):=by
 have c:=aO h;unfold ML SP;rcases xz d with⟨i,k,hi,hk,_,e⟩|⟨i,hi,_,e⟩
 .rw[e];obtain⟨⟨a,c1⟩,f,_⟩:=ra c hi;unfold yc cH;simp only[oY,show decide ((i:Int)<0)=Cd by simp,Cj,qz hi,jd,kO a c1,jr,qz (show k<(gt b.Ar.Au (gt b.Aa.Ab i).Bv.toNat).Bg.length by omega)]
 .rw[e];rfl
theorem Q3{b:qf}(h:aU b=An){j:Nat}(f:j<(places b.Aa).length):0<=ML b j/\ML b j<=500:=by
 have d:=aO h;unfold ML SP;rcases xz f with⟨i,k,hi,hk,_,e⟩|⟨i,hi,_,e⟩
 .rw[e];obtain⟨⟨g,c1⟩,l,c⟩:=ra d hi;unfold yc cH;simp only[show decide ((i:Int)<0)=Cd by simp,Cj,jr];have a:=uw c;unfold xy at a;rw[je,aG] at a;have:=a.1 k (by omega);unfold pinB at this;cases hl:decide (k+1=(gt b.Ar.Au (gt b.Aa.Ab i).Bv.toNat).Bg.length)
  .rw[hl] at this;simp only[Cj,je,bV] at this;exact this.2
  .rw[hl] at this;simp only[Ci,je,beq_iff_eq] at this;omega
 .rw[e];exact⟨jV _,show(0:Int)<=500 by omega⟩
def pl(b:qf)(i:Nat):List Int:=fd b.Aa (i:Int) (places b.Aa).length
def xh(b:qf)(w:aJ)(sk:List Int)(t:List Int)(j:Nat):List Int:=ak t (bO w.Bj j) (qj (gt t (bO w.Bj j).toNat+ML b (bO sk j).toNat))
def OJ(b:qf)(w:aJ)(sk:List Int):Nat->List Int
 |0=>w.Br
 |j+1=>xh b w sk (OJ b w sk j) j
def ZX(w:aJ)(t:List Int)(j:Nat):List Int:=ak t (bO w.Ak j) (qj (gt t (bO w.Ak j).toNat+gt t j))
def qaO(w:aJ):Nat->List Int->List Int
 |0,t=>t
 |j+1,t=>qaO w j (ZX w t (j+1))
def dy(b:qf)(i:Nat):List Int:=qaO (gt b.Ah i) ((gt b.Ah i).Ak.length-1) (OJ b (gt b.Ah i) (pl b i) (pl b i).length)
theorem GC{b:qf}{w:aJ}{sk:List Int}{j:Nat}:(OJ b w sk j).length=w.Br.length:=by
 induction j with
 |zero=>rfl
 |succ j ih=>unfold OJ xh;rw[bY,ih]
theorem qaP{w:aJ}{j:Nat}{t:List Int}:(qaO w j t).length=t.length:=by
 induction j generalizing t with
 |zero=>rfl
 |succ j ih=>unfold qaO ZX;rw[ih,bY]
theorem zq{b:qf}(h:aU b=An){i:Nat}(hi:i<b.Ah.length):(dy b i).length=(gt b.Ah i).Ak.length:=by
 unfold dy;rw[qaP,GC,(dq h hi).cap]
theorem rh{b:qf}(h:aU b=An){i:Nat}:(pl b i).length<=78:=by
 have a:=bf (qZ (aO h));unfold pl;rw[uJ];have:gf (tU b.Aa (i:Int)) (places b.Aa).length<=(places b.Aa).length:=nX;omega
theorem FG{b:qf}{i j:Nat}(a:j<(pl b i).length):∃y:Nat,y<(places b.Aa).length/\bO (pl b i) j=(y:Int)/\tU b.Aa (i:Int) y=An:=by
 obtain⟨y,c,d,f⟩:=M9 a;exact⟨y,c,by have:=d;rw[show(fd b.Aa (i:Int) (places b.Aa).length)=pl b i from rfl,aX a] at this;exact Option.some.inj this,f⟩
theorem GE{b:qf}(h:aU b=An){i:Nat}(hi:i<b.Ah.length):Ev (fun n=>iO n b (i:Int)) (dy b i):=by
 have c:=dq h hi;have m:=qZ (aO h);have u:=c.lo;have r:=c.hi;have d:=c.cap;have x:=rh h (i:=i);have e1:Ev (fun n=>cW b (gt b.Ah i) (places b.Aa) (pl b i) n (gt b.Ah i).Br 0) (OJ b (gt b.Ah i) (pl b i) (pl b i).length,((pl b i).length:Int)):=by
  refine fD (Lf:=cW b (gt b.Ah i) (places b.Aa) (pl b i)) (S:=OJ b (gt b.Ah i) (pl b i)) (len:=(pl b i).length) (fun n=>?_) (fun j a X l=>?_)
  .simp only[cW,qu (jf _),Cj]
  .obtain⟨y,o,k,_⟩:=FG a;have f:j<(gt b.Ah i).Bj.length:=by rw[c.snk];exact a
   have g:=c.sin j f;have s:=GC (b:=b) (w:=gt b.Ah i) (sk:=pl b i) (j:=j);simp only[cW,qq a,Ci,aX a,k,jd,aX f,kO g.1 (show bO (gt b.Ah i).Bj j<((OJ b (gt b.Ah i) (pl b i) j).length:Int) by omega),qz o,Q4 h o,wS j];have:OJ b (gt b.Ah i) (pl b i) (j+1)=ak (OJ b (gt b.Ah i) (pl b i) j) (bO (gt b.Ah i).Bj j) (qj (gt (OJ b (gt b.Ah i) (pl b i) j) (bO (gt b.Ah i).Bj j).toNat+ML b y)):=by
    show xh _ _ _ _ _=_;unfold xh;rw[k,jr]
   rw[this] at l;exact l
 have p:∀j t,t.length=(gt b.Ah i).Ak.length->j<(gt b.Ah i).Ak.length->Ev (fun n=>cX (gt b.Ah i) n t (j:Int)) (qaO (gt b.Ah i) j t,0):=by
  intro j
  induction j with
  |zero=>
   intro t _ _;refine Cm ?_;show Ev (fun n=>cX (gt b.Ah i) (n+1) t 0) _;unfold cX;exact Cp Z .done
  |succ j ih=>
   intro t z a;have v:=c.par (j+1) (by omega) a;refine Cm ?_;simp only[cX,show decide (((j+1:Nat):Int) > 0)=An from decide_eq_true (by omega),Ci,aX a,jd,kO v.1 (show bO (gt b.Ah i).Ak (j+1)<(t.length:Int) by omega),qz (show j+1<t.length by omega),show((j+1:Nat):Int)-1=(j:Int) by omega,qY (show -9223372036854775808<=(j:Int) by omega) (by omega)];exact ih _ (by rw[bY];exact z) (by omega)
 unfold iO ie;rw[qz hi];simp only[jd,dU (show([]:List Int).length+(gt b.Ah i).Br.length<=2147483648 by simp;omega),List.nil_append];refine Ck (DF m) (Ck (OW m) (Ck e1 ?_));rw[mM (show(gt b.Ah i).Br.length<=9223372036854775807 by omega),show((gt b.Ah i).Br.length:Int)-1=(((gt b.Ah i).Ak.length-1:Nat):Int) by omega];exact Ck (p _ _ (by rw[GC];exact d) (by omega)) .done
structure qdG(t:List Int)(L:Nat)(S:Int):Prop where
 len:t.length=L
 nn:∀k,k<L->0<=gt t k
 sum:yU (gt t) L<=S
theorem zg{t:List Int}{a:Nat}{y:Int}{k:Nat}(b:a<t.length):gt (ak t (a:Int) y) k=if k=a then y else gt t k:=by
 unfold ak;rw[jr];by_cases h:k=a
 .subst h;rw[if_pos Z,KG b]
 .rw[if_neg h,PX h]
theorem qct{b:qf}(h:aU b=An){i:Nat}(hi:i<b.Ah.length)(m:∀k,k<(gt b.Ah i).Br.length->0<=gt (gt b.Ah i).Br k/\gt (gt b.Ah i).Br k<=500) :
  ∀j,j<=(pl b i).length->qdG (OJ b (gt b.Ah i) (pl b i) j) (gt b.Ah i).Ak.length (4000+500*j):=by
 have p:=dq h hi;have z:=p.hi;have l:=p.cap;have A:=rh h (i:=i);intro j
 induction j with
 |zero=>
  intro _;refine⟨l,fun k t=>(m k (by omega)).1,?_⟩;have:=qbt (f:=gt (gt b.Ah i).Br) (n:=(gt b.Ah i).Ak.length) (c:=500) (fun u H=>(m u (by omega)).2);show yU (gt (gt b.Ah i).Br) _<=_;omega
 |succ j ih=>
  intro D;obtain⟨l1,n1,s1⟩:=ih (by omega);obtain⟨y,B,v,_⟩:=FG (show j<(pl b i).length by omega);have C:=Q3 h B;have o:=p.sin j (by rw[p.snk];exact(show j<(pl b i).length by omega));obtain⟨a,s⟩:∃a:Nat,bO (gt b.Ah i).Bj j=(a:Int):=⟨_,fa o.1⟩;rw[s] at o;have d:a<(gt b.Ah i).Ak.length:=by omega
  have x:=TG n1 d;have F:=n1 a d;have e:OJ b (gt b.Ah i) (pl b i) (j+1)=ak (OJ b (gt b.Ah i) (pl b i) j) (a:Int) (gt (OJ b (gt b.Ah i) (pl b i) j) a+ML b y):=by
   show xh _ _ _ _ _=_;unfold xh;rw[v,s,jr,jr,qY (by omega) (by omega)]
  rw[e];refine⟨by rw[bY];exact l1,fun k t=>?_,?_⟩
  .rw[zg (by omega)];split
   .omega
   .exact n1 k t
  .rw[WU (g:=gt (OJ b (gt b.Ah i) (pl b i) j)) d (fun u _ r=>by rw[zg (by omega),if_neg r]),zg (by omega),if_pos Z];omega
theorem qcu{b:qf}(h:aU b=An){i:Nat}(hi:i<b.Ah.length){S:Int}(A:S<=1000000000):∀j t,j<(gt b.Ah i).Ak.length->t.length=(gt b.Ah i).Ak.length->(∀k,k<t.length->0<=gt t k/\gt t k<=S)->yU (gt t) (j+1)<=S ->
  ∀k,k<t.length->0<=gt (qaO (gt b.Ah i) j t) k/\gt (qaO (gt b.Ah i) j t) k<=S:=by
 have x:=dq h hi;intro j
 induction j with
 |zero=>intro t _ _ c _;exact c
 |succ j ih=>
  intro t s v c r;have p:=x.par (j+1) (by omega) s;obtain⟨a,o⟩:∃a:Nat,bO (gt b.Ah i).Ak (j+1)=(a:Int):=⟨_,fa p.1⟩;rw[o] at p;have y:=c a (by omega);have z:=c (j+1) (by omega);have e:ZX (gt b.Ah i) t (j+1)=ak t (a:Int) (gt t a+gt t (j+1)):=by
   unfold ZX;rw[o,jr,qY (by omega) (by omega)]
  have n:yU (gt (ak t (a:Int) (gt t a+gt t (j+1)))) (j+1)<=S:=by
   rw[WU (g:=gt t) (a:=a) (by omega) (fun u _ l=>by rw[zg (by omega),if_neg l]),zg (by omega),if_pos Z];have:yU (gt t) (j+1+1)=yU (gt t) (j+1)+gt t (j+1):=rfl;omega
  unfold qaO;rw[e];have:=ih (ak t (a:Int) (gt t a+gt t (j+1))) (by omega) (by rw[bY];exact v) (fun k f=>by
   rw[bY] at f;have m:∀u,u<j+1->0<=gt (ak t (a:Int) (gt t a+gt t (j+1))) u:=fun u B=>by
    rw[zg (by omega)];split
    .omega
    .exact(c u (by omega)).1
   have d:=TG m (show a<j+1 by omega);rw[zg (by omega)] at d⊢;rw[if_pos Z] at d;split
   .omega
   .exact c k f) n
  rw[bY] at this;exact this
theorem KE{b:qf}(h:aU b=An){i:Nat}(hi:i<b.Ah.length):(∀k,k<(gt b.Ah i).Br.length->0<=gt (gt b.Ah i).Br k/\gt (gt b.Ah i).Br k<=500)/\(∀k,k<(gt b.Ah i).Bw.length->0<=bO (gt b.Ah i).Bw k/\bO (gt b.Ah i).Bw k<=1000):=by
 unfold aU at h;rw[je,aG] at h;have:=h.2 i hi;unfold AB zo at this;simp only[je,decide_eq_true_eq,beq_iff_eq] at this;obtain⟨_,_,_,_,f,c,_⟩:=this;rw[pn (d:=0),aG] at f c;exact⟨fun k a=>by have:=c k a;rw[bV] at this;exact this,fun k a=>by have:=f k a;rw[bV] at this;exact this⟩
theorem YO{b:qf}(h:aU b=An){i:Nat}(hi:i<b.Ah.length){k:Nat}(c:k<(gt b.Ah i).Ak.length):0<=gt (dy b i) k/\gt (dy b i) k<=43000:=by
 have g:=dq h hi;have d:=g.lo;have f:=rh h (i:=i);obtain⟨l1,n1,s1⟩:=qct h hi (KE h hi).1 (pl b i).length (jf _);have:=qcu h hi (S:=43000) (by omega) ((gt b.Ah i).Ak.length-1) (OJ b (gt b.Ah i) (pl b i) (pl b i).length) (by omega) l1 (fun k c=>by
  have a:=n1 k (by omega);have l:=TG n1 (show k<(gt b.Ah i).Ak.length by omega);exact⟨a,by omega⟩) (by rw[show(gt b.Ah i).Ak.length-1+1=(gt b.Ah i).Ak.length by omega];omega) k (by omega)
 exact this
def MQ(w:aJ)(ld:List Int):Nat->List Int
 |0=>[0]
 |k+1=>MQ w ld k++[qj (gt (MQ w ld k) (bO w.Ak (k+1)).toNat+qj (bO w.Bw (k+1)*gt ld (k+1)))]
theorem FR{w:aJ}{ld:List Int}{k:Nat}:(MQ w ld k).length=k+1:=by
 induction k with
 |zero=>rfl
 |succ k ih=>unfold MQ;rw[jg,ih];rfl
def eh(b:qf)(i:Nat):List Int:=MQ (gt b.Ah i) (dy b i) ((gt b.Ah i).Ak.length-1)
def cS(b:qf)(i:Nat):List Int:=(gt b.Ah i).Bj.map fun s=>gt (eh b i) s.toNat
theorem BA{b:qf}(h:aU b=An){i:Nat}(hi:i<b.Ah.length):(eh b i).length=(gt b.Ah i).Ak.length:=by
 unfold eh;rw[FR];have:=(dq h hi).lo;omega
theorem qay{w:aJ}{ld:List Int}{k m:Nat}(b:k+1<m)(c:bO w.Ak (k+1)<((k+1:Nat):Int))(_:0<=bO w.Ak (k+1)) :
  ak (MQ w ld k++List.replicate (m-(k+1)) 0) ((k+1:Nat):Int) (qj (gt (MQ w ld k++List.replicate (m-(k+1)) 0) (bO w.Ak (k+1)).toNat+qj (bO w.Bw (k+1)*gt ld (k+1))))=MQ w ld (k+1)++List.replicate (m-(k+1+1)) 0:=by
 have a:=FR (w:=w) (ld:=ld) (k:=k);have e1:gt (MQ w ld k++List.replicate (m-(k+1)) 0) (bO w.Ak (k+1)).toNat=gt (MQ w ld k) (bO w.Ak (k+1)).toNat:=by
  rw[yn,if_pos (by omega)]
 rw[e1];unfold ak;rw[jr,List.set_append,if_neg (by omega),a,Nat.sub_self,show m-(k+1)=(m-(k+1+1))+1 by omega,List.replicate_succ,List.set_cons_zero];show _=(MQ w ld k++[_])++_;rw[jv]
 rfl
theorem PB{b:qf}(h:aU b=An){i:Nat}(hi:i<b.Ah.length):Ev (fun n=>lQ n b (i:Int)) (eh b i):=by
 have f:=dq h hi;have s:=f.lo;have p:=f.hi;have o:=f.res;have l1:=zq h hi;have l:xY ((dy b i).length:Int) (0:Int)=V (List.replicate (dy b i).length 0):=qaX (by omega);have c:∀d k,k+1+d=(gt b.Ah i).Ak.length->Ev (fun n=>dI (gt b.Ah i) (dy b i) (List.replicate (dy b i).length 0) n (MQ (gt b.Ah i) (dy b i) k++List.replicate ((gt b.Ah i).Ak.length-(k+1)) 0) ((k+1:Nat):Int)) (eh b i,((dy b i).length:Int)):=by
  intro d
  induction d with
  |zero=>
   intro k g;refine Cm ?_;simp only[dI,jI,qu (show(dy b i).length<=k+1 by omega),Cj];refine Cx ?_;rw[show(gt b.Ah i).Ak.length-(k+1)=0 by omega,List.replicate_zero,jY,l1,<-g];unfold eh;rw[<-g]
   rfl
  |succ d ih=>
   intro k g;have m:=f.par (k+1) (by omega) (by omega);have a:=FR (w:=gt b.Ah i) (ld:=dy b i) (k:=k);have r:(MQ (gt b.Ah i) (dy b i) k++List.replicate ((gt b.Ah i).Ak.length-(k+1)) 0).length=(gt b.Ah i).Ak.length:=by rw[jg,jI,a];omega
   refine Cm ?_;simp only[dI,jI,qq (show k+1<(dy b i).length by omega),Ci,aX (show k+1<(gt b.Ah i).Ak.length by omega),jd,kO m.1 (show bO (gt b.Ah i).Ak (k+1)<((MQ (gt b.Ah i) (dy b i) k++List.replicate ((gt b.Ah i).Ak.length-(k+1)) 0).length:Int) by omega),
    aX (show k+1<(gt b.Ah i).Bw.length by omega),qz (show k+1<(dy b i).length by omega),qz (show k+1<(MQ (gt b.Ah i) (dy b i) k++List.replicate ((gt b.Ah i).Ak.length-(k+1)) 0).length by omega),sf (show k+1<9223372036854775807 by omega)]
   rw[qay (by omega) m.2 m.1];exact ih (k+1) (by omega)
 unfold lQ;rw[qz hi];simp only[jd];refine Ck (GE h hi) ?_;rw[l];simp only[jd];have:=c ((gt b.Ah i).Ak.length-1) 0 (by omega);have e0:MQ (gt b.Ah i) (dy b i) 0++List.replicate ((gt b.Ah i).Ak.length-(0+1)) 0=List.replicate (dy b i).length 0:=by
  rw[l1];show[(0:Int)]++_=_;rw[show(gt b.Ah i).Ak.length=((gt b.Ah i).Ak.length-(0+1))+1 by omega,List.replicate_succ]
  rfl
 rw[e0] at this;exact Ck this .done
theorem MR{b:qf}(h:aU b=An){i:Nat}(hi:i<b.Ah.length):Ev (fun n=>kP n b (i:Int)) (cS b i):=by
 have d:=dq h hi;have l:(gt b.Ah i).Bj.length<=78:=by rw[d.snk];exact rh h
 have k:=BA h hi;have f:Ev (fun n=>cu (eh b i) (gt b.Ah i) n ([]:List Int) 0) (cS b i,((gt b.Ah i).Bj.length:Int)):=by
  refine fD (Lf:=cu (eh b i) (gt b.Ah i)) (S:=fun j=>((gt b.Ah i).Bj.take j).map fun s=>gt (eh b i) s.toNat) (len:=(gt b.Ah i).Bj.length) (fun n=>?_) (fun j a X g=>?_)
  .simp only[cu,qu (jf _),Cj,jG];rfl
  .have c:=d.sin j a;simp only[cu,qq a,Ci,aX a,jd,kO c.1 (show bO (gt b.Ah i).Bj j<((eh b i).length:Int) by omega),wS j];rw[dU (by rw[jq,jy,jh];omega)];have:((gt b.Ah i).Bj.take j).map (fun s=>gt (eh b i) s.toNat)++[gt (eh b i) (bO (gt b.Ah i).Bj j).toNat]=((gt b.Ah i).Bj.take (j+1)).map fun s=>gt (eh b i) s.toNat:=by
    rw[jw a,jT,wx a];rfl
   rw[this];exact g
 unfold kP;refine Ck (PB h hi) ?_;rw[qz hi];simp only[jd];exact Ck f .done
theorem UP{b:qf}(h:aU b=An){i:Nat}(hi:i<b.Ah.length):∀k,k<(gt b.Ah i).Ak.length->∀m,m<=k->0<=gt (MQ (gt b.Ah i) (dy b i) k) m/\gt (MQ (gt b.Ah i) (dy b i) k) m<=43000000*k:=by
 have l:=dq h hi;have t:=l.hi;have r:=l.res;intro k
 induction k with
 |zero=>
  intro _ m u;have f:m=0:=by omega
  subst f;exact⟨jV _,jV _⟩
 |succ k ih=>
  intro o m u;have c:=FR (w:=gt b.Ah i) (ld:=dy b i) (k:=k);unfold MQ;rw[yn];split
  .have:=ih (by omega) m (by omega);omega
  .have g:m=k+1:=by omega
   subst g;rw[c,Nat.sub_self];show 0<=qj _/\qj _<=_;have p:=l.par (k+1) (by omega) o;obtain⟨a,s⟩:∃a:Nat,bO (gt b.Ah i).Ak (k+1)=(a:Int):=⟨_,fa p.1⟩;rw[s] at p⊢;rw[jr];have v:=ih (by omega) a (by omega);have n:=(KE h hi).2 (k+1) (by omega);have d:=YO h hi o;have x:bO (gt b.Ah i).Bw (k+1)*gt (dy b i) (k+1)<=1000*43000:=Jb n.2 d.2 d.1 (by omega);have y:0<=bO (gt b.Ah i).Bw (k+1)*gt (dy b i) (k+1):=jU n.1 d.1;rw[wO (bO (gt b.Ah i).Bw (k+1)*gt (dy b i) (k+1)),qY (by omega) (by omega)];omega
theorem ES{b:qf}(h:aU b=An){i:Nat}(hi:i<b.Ah.length){j:Nat}(a:j<(gt b.Ah i).Bj.length):0<=gt (cS b i) j/\gt (cS b i) j<=344000000:=by
 have c:=dq h hi;have d:=c.hi;have f:=c.sin j a;have e:gt (cS b i) j=gt (eh b i) (bO (gt b.Ah i).Bj j).toNat:=by
  unfold cS;rw[fh (by rw[jq];exact a),List.getElem_map,wx a]
 rw[e];have:=UP h hi ((gt b.Ah i).Ak.length-1) (by omega) (bO (gt b.Ah i).Bj j).toNat (by omega);show 0<=gt (MQ _ _ _) _/\gt (MQ _ _ _) _<=_;omega

def pre{α:Type}(f:Nat->α)(j:Nat):List α:=(List.range j).map f
theorem vX{α:Type}{f:Nat->α}{j:Nat}:(pre f j).length=j:=by simp[pre]
theorem W4{α:Type}{f:Nat->α}{j:Nat}:pre f j++[f j]=pre f (j+1):=by unfold pre;rw[List.range_succ,jT];rfl
theorem GN{α:Type}{f:Nat->α}{j:Nat}(h:j<=1048576):dj (pre f j) [f j]=V (pre f (j+1)):=by
 rw[dU (by rw[vX,jh];omega),W4]
theorem W3{α:Type}[Inhabited α]{f:Nat->α}{n j:Nat}(h:j<n):gt (pre f n) j=f j:=MU h
theorem rg{α:Type}[Inhabited α]{f:Nat->α}{n j:Nat}(h:j<n):qF (pre f n) (j:Int)=V (f j):=by rw[qz (by rw[vX];exact h),W3 h]
theorem rf{α:Type}{f g:Nat->α}{n:Nat}(h:∀k,k<n->f k=g k):pre f n=pre g n:=List.map_congr_left fun k a=>h k (List.mem_range.1 a)
theorem GO{α:Type}{f:Nat->α}{n k:Nat}{v:α}:ak (pre f n) (k:Int) v=pre (fun i=>if i=k then v else f i) n:=by
 unfold ak pre;rw[jr];refine Jk (by simp) fun i a b=>?_;rw[List.getElem_set];by_cases h:k=i
 .subst h;simp
 .rw[if_neg h];simp[show ¬ i=k from fun e=>h e.symm]
def fm{α:Type}(f:Nat->List α)(j:Nat):List α:=(List.range j).flatMap f
theorem vO{α:Type}{f:Nat->List α}{j:Nat}:fm f (j+1)=fm f j++f j:=by unfold fm;rw[List.range_succ,List.flatMap_append];simp
theorem HN{α:Type}{f:Nat->List α}{j c:Nat}(h:∀i,i<j->(f i).length<=c):(fm f j).length<=c*j:=by
 induction j with
 |zero=>exact jf _
 |succ j ih=>rw[vO,jg];have:=ih (fun i hi=>h i (by omega));have:=h j (by omega);rw[Nat.mul_succ];omega
def gA(a:bi):List aj:=
 bif (a.Bf==2) then[⟨0,0⟩,⟨0,1⟩] else bif (a.Bf==3) then[⟨1,0⟩,⟨1,1⟩] else bif (a.Bf != 1) then[] else
 bif (a.Bq==1) then[⟨0,0⟩,⟨1,1⟩] else bif (a.Bq==2) then[⟨0,1⟩,⟨1,0⟩] else[⟨0,0⟩,⟨0,1⟩,⟨1,0⟩,⟨1,1⟩]
theorem N4{a:bi}{n:Nat}:mt n a=V (gA a):=by
 unfold mt gA;cases (a.Bf==2)
 .cases (a.Bf==3)
  .cases (a.Bf != 1)
   .cases (a.Bq==1)
    .cases (a.Bq==2)<;>rfl
    .rfl
   .rfl
  .rfl
 .rfl
theorem OB{a:bi}:(gA a).length<=4:=by
 unfold gA;cases (a.Bf==2)
 .cases (a.Bf==3)
  .cases (a.Bf != 1)
   .cases (a.Bq==1)
    .cases (a.Bq==2)<;>simp
    .simp
   .simp
  .simp
 .simp
def E7(x:Int):Prop:=x=0\/x=1
theorem QY{a:bi}{t:aj}(h:t∈gA a):E7 t.e0/\E7 t.e1:=by
 have b:∀t∈[(⟨0,0⟩:aj),⟨0,1⟩,⟨1,0⟩,⟨1,1⟩],E7 t.e0/\E7 t.e1:=by
  intro t c;simp only[jN,jH,or_false] at c;rcases c with rfl|rfl|rfl|rfl<;>simp[E7]
 refine b t ?_;unfold gA at h;revert h;cases (a.Bf==2)
 .cases (a.Bf==3)
  .cases (a.Bf != 1)
   .cases (a.Bq==1)
    .cases (a.Bq==2)
     .exact fun h=>h
     .intro h;simp at h;rcases h with rfl|rfl<;>simp
    .intro h;simp at h;rcases h with rfl|rfl<;>simp
   .intro h;simp at h
  .intro h;simp at h;rcases h with rfl|rfl<;>simp
 .intro h;simp at h;rcases h with rfl|rfl<;>simp
def qap(first:Int)(k:Nat)(a:bi)(t:aj):qw:=⟨2*(first+a.Bk)+t.e0,2*(first+a.To)+t.e1,1,(k:Int)⟩
def vF(first:Int)(k:Nat)(a:bi):List qw:=(gA a).map (qap first k a)
def nq(c:qR)(first:Int)(j:Nat):List qw:=fm (fun k=>vF first k (gt c.Az k)) j
def ob(b:qf)(j:Nat):List qw:=fm (fun i=>nq (cH b (i:Int)) (cG b.Aa i:Int) (cH b (i:Int)).Az.length) j
theorem HF{first:Int}{k:Nat}{a:bi}:(vF first k a).length<=4:=by unfold vF;rw[jq];exact OB
theorem RR{b:qf}(h:aU b=An){i:Nat}(hi:i<b.Aa.Ab.length):Ev (fun n=>mu n b (gt b.Aa.Ab i) (cG b.Aa i:Int)) (nq (cH b (i:Int)) (cG b.Aa i:Int) (cH b (i:Int)).Az.length):=by
 have u:=aO h;have D:=qZ u;obtain⟨⟨z,c1⟩,r,g⟩:=ra u hi;have B:=EQ g;have s:=(pG (uw g)).1;have v:cG b.Aa i<=78:=by
  have:=bf D;rw[pH] at this;have:=YT (d:=b.Aa) (show i<=b.Aa.Ab.length by omega);omega
 show Ev _ (nq (gt b.Ar.Au (gt b.Aa.Ab i).Bv.toNat) (cG b.Aa i:Int) (gt b.Ar.Au (gt b.Aa.Ab i).Bv.toNat).Az.length);generalize hc:gt b.Ar.Au (gt b.Aa.Ab i).Bv.toNat=c at r g B s⊢;have A:Ev (fun n=>cU (cG b.Aa i:Int) c n ([]:List qw) 0) (nq c (cG b.Aa i:Int) c.Az.length,(c.Az.length:Int)):=by
  refine fD (Lf:=cU (cG b.Aa i:Int) c) (S:=nq c (cG b.Aa i:Int)) (len:=c.Az.length) (fun n=>?_) (fun j p X o=>?_)
  .simp only[cU,qu (jf _),Cj]
  .have H:=AY g p;have C:(nq c (cG b.Aa i:Int) j).length<=4*j:=HN fun _ _=>HF;simp only[cU,qq p,Ci,qz p,jd,N4,wS j];have m:Ev (fun n=>cV (cG b.Aa i:Int) (j:Int) (gt c.Az j) (gA (gt c.Az j)) n (nq c (cG b.Aa i:Int) j) 0) (nq c (cG b.Aa i:Int) (j+1),((gA (gt c.Az j)).length:Int)):=by
    have F:=OB (a:=gt c.Az j);have:=fD (Lf:=cV (cG b.Aa i:Int) (j:Int) (gt c.Az j) (gA (gt c.Az j))) (S:=fun k=>nq c (cG b.Aa i:Int) j++((gA (gt c.Az j)).take k).map (qap (cG b.Aa i:Int) j (gt c.Az j))) (len:=(gA (gt c.Az j)).length) (fin:=(nq c (cG b.Aa i:Int) (j+1),((gA (gt c.Az j)).length:Int))) (fun n=>by
      simp only[cV,qu (jf _),Cj,jG];show V (nq c _ j++vF _ j _,_)=V (fm _ (j+1),_);rw[vO];rfl)
     (fun k f X o=>by
      have y:=QY (a:=gt c.Az j) (t:=gt (gA (gt c.Az j)) k) (by rw[fh f];exact jo f);have e0:qj (qj (2*qj ((cG b.Aa i:Int)+(gt c.Az j).Bk))+(gt (gA (gt c.Az j)) k).e0)=2*((cG b.Aa i:Int)+(gt c.Az j).Bk)+(gt (gA (gt c.Az j)) k).e0:=by
       rcases y.1 with e|e<;>rw[e,wO ((cG b.Aa i:Int)+(gt c.Az j).Bk),qY (x:=2*((cG b.Aa i:Int)+(gt c.Az j).Bk)) (by omega) (by omega),qY (by omega) (by omega)]
      have e1:qj (qj (2*qj ((cG b.Aa i:Int)+(gt c.Az j).To))+(gt (gA (gt c.Az j)) k).e1)=2*((cG b.Aa i:Int)+(gt c.Az j).To)+(gt (gA (gt c.Az j)) k).e1:=by
       rcases y.2 with e|e<;>rw[e,wO ((cG b.Aa i:Int)+(gt c.Az j).To),qY (x:=2*((cG b.Aa i:Int)+(gt c.Az j).To)) (by omega) (by omega),qY (by omega) (by omega)]
      simp only[cV,qq f,Ci,qz f,jd,e0,e1,wS k];rw[dU (by rw[jg,jq,jy,jh];omega),jv];have:((gA (gt c.Az j)).take k).map (qap (cG b.Aa i:Int) j (gt c.Az j))++[qap (cG b.Aa i:Int) j (gt c.Az j) (gt (gA (gt c.Az j)) k)]=((gA (gt c.Az j)).take (k+1)).map (qap (cG b.Aa i:Int) j (gt c.Az j)):=ox f;have l:((gA (gt c.Az j)).take k).map (qap (cG b.Aa i:Int) j (gt c.Az j))++[(⟨2*((cG b.Aa i:Int)+(gt c.Az j).Bk)+(gt (gA (gt c.Az j)) k).e0,2*((cG b.Aa i:Int)+(gt c.Az j).To)+(gt (gA (gt c.Az j)) k).e1,1,(j:Int)⟩:qw)]=((gA (gt c.Az j)).take (k+1)).map (qap (cG b.Aa i:Int) j (gt c.Az j)):=this;rw[l];exact o)
    simpa using this
   exact Ck m o
 unfold mu;rw[kO z c1,hc];simp only[jd];exact Ck A .done
def xl(d:qk)(k:Nat):Nat:=((List.range (places d).length).find? fun j=>zf d (k:Int) j).getD 0
theorem tq{l:qB}{d:qk}(h:kN l d=An){k:Nat}(f:k<d.Am.length):xl d k<(places d).length/\zf d (k:Int) (xl d k)=An:=by
 obtain⟨j,b,c,a⟩:=qcg h (k:=(k:Int)) (by omega) (by omega);unfold xl;cases hf:(List.range (places d).length).find? fun j=>zf d (k:Int) j with
 |none=>
  have:=List.find?_eq_none.1 hf j (List.mem_range.2 b);exact absurd (by unfold zf;rw[c,a];simp) this
 |some i=>exact⟨List.mem_range.1 (List.mem_of_find?_eq_some hf),by have:=List.find?_some hf;exact this⟩
theorem BB{d:qk}{k:Int}{j:Nat}:zf d k j=An↔(gt (places d) j).net=k/\(gt (places d) j).drives=An:=by unfold zf;simp
theorem R3{l:qB}{d:qk}(h:kN l d=An){k:Nat}(m:k<d.Am.length){j:Nat}(i:j<(places d).length)(n:(gt (places d) j).net=(k:Int))(g:(gt (places d) j).drives=An):xl d k=j:=by
 obtain⟨a,b⟩:=tq h m;obtain⟨c,f⟩:=BB.1 b;exact UR h a i (by rw[c,n]) f g
def qcW(a:Nat)(s:Int)(k:Nat):List qw:=[⟨2*(a:Int),2*s,2,(k:Int)⟩,⟨2*(a:Int)+1,2*s+1,2,(k:Int)⟩]
def TJ(b:qf)(i j:Nat):List qw:=fm (fun k=>qcW (xl b.Aa i) (bO (pl b i) k) k) j
def yh(b:qf)(j:Nat):List qw:=fm (fun i=>TJ b i (pl b i).length) j
def qd(b:qf):List qw:=ob b b.Aa.Ab.length++yh b b.Ah.length
def vI(b:qf)(i:Nat):Int:=gt (dy b i) 0
def na(b:qf)(ex:List Int):cL:=⟨b,places b.Aa,qd b,pre (vI b) b.Ah.length,pre (cS b) b.Ah.length,ex⟩
def nV(b:qf):cL:=na b []
theorem uC{b:qf}(h:aU b=An){j:Nat}(d:j<=b.Aa.Ab.length):(ob b j).length<=32*j:=by
 refine HN fun i hi=>?_;obtain⟨_,_,a⟩:=ra (aO h) (show i<b.Aa.Ab.length by omega);have c:=EQ a;have:(nq (cH b (i:Int)) (cG b.Aa i:Int) (cH b (i:Int)).Az.length).length<=4*(cH b (i:Int)).Az.length:=HN fun _ _=>HF;have e:(cH b (i:Int)).Az.length<=8:=c;omega
theorem TL{b:qf}{i j:Nat}:(TJ b i j).length<=2*j:=HN fun _ _=>jf _
theorem FJ{b:qf}(h:aU b=An){j:Nat}:(yh b j).length<=156*j:=by
 refine HN fun i _=>?_;have:=TL (b:=b) (i:=i) (j:=(pl b i).length);have:=rh h (i:=i);omega
theorem lG{b:qf}(h:aU b=An):(qd b).length<=10000:=by
 have a:=qZ (aO h);have c:=a.ni;have d:=a.nn;have f:=wy h;have g:=uC h (jf _);have i:=FJ h (j:=b.Ah.length);unfold qd;rw[jg];omega
theorem YR{b:qf}(h:aU b=An):Ev (fun n=>vU n b) (V (nV b)):=by
 have r:=aO h;have z:=qZ r;have R:=bf z;have Y:=z.ni;have a3:=z.nn;have hwl:=wy h;have e1:Ev (fun n=>kr b n ([]:List qw) 0 0) (ob b b.Aa.Ab.length,(cG b.Aa b.Aa.Ab.length:Int),(b.Aa.Ab.length:Int)):=by
  have:=fD (τ:=List qw×Int) (Lf:=fun n t j=>kr b n t.1 t.2 j) (S:=fun j=>(ob b j,(cG b.Aa j:Int))) (len:=b.Aa.Ab.length) (fin:=(ob b b.Aa.Ab.length,(cG b.Aa b.Aa.Ab.length:Int),(b.Aa.Ab.length:Int))) (fun n=>by simp only[kr,qu (jf _),Cj])
   (fun j a X m=>by
    have F:=uC h (show j<=b.Aa.Ab.length by omega);have M:=uC h (show j+1<=b.Aa.Ab.length by omega);have N:=wK (d:=b.Aa) (i:=j);have a4:cG b.Aa (j+1)<=78:=by
     rw[pH] at R;have:=YT (d:=b.Aa) (show j+1<=b.Aa.Ab.length by omega);omega
    simp only[kr,qq a,Ci,qz a,jd,di,wS j];refine Ck (RR h a) ?_;have e:ob b j++nq (cH b (j:Int)) (cG b.Aa j:Int) (cH b (j:Int)).Az.length=ob b (j+1):=vO.symm;rw[dU (by rw[<-jg,e];omega),e,qY (by omega) (by omega),show(cG b.Aa j:Int)+((gt b.Aa.Ab j).Am.length:Int)=((cG b.Aa (j+1):Nat):Int) by omega];exact m)
  exact this
 have I:xY (b.Ah.length:Int) (0:Int)=V (iH (fun _=>0) b.Ah.length):=RB (by omega);have J:xY (b.Ah.length:Int) ([]:List Int)=V (pre (fun _=>[]) b.Ah.length):=by
  rw[xx (by omega)]
  congr 1
  refine Jk (by simp[pre]) fun i u h2=>?_;simp[pre]
 have P:Ev (fun n=>gK (places b.Aa) n (pre (fun _=>[]) b.Ah.length) (iH (fun _=>0) b.Ah.length) 0) (pre (fun i=>pl b i) b.Ah.length,iH (fun k=>(xl b.Aa k:Int)) b.Ah.length,((places b.Aa).length:Int)):=by
  have v:∀k,k<b.Ah.length->xl b.Aa k<(places b.Aa).length:=fun k o=>(tq r (by omega)).1;have:=fD (τ:=List (List Int)×List Int) (Lf:=fun n t j=>gK (places b.Aa) n t.1 t.2 j) (S:=fun j=>(pre (fun i=>fd b.Aa (i:Int) j) b.Ah.length,iH (fun k=>if xl b.Aa k<j then(xl b.Aa k:Int) else 0) b.Ah.length)) (len:=(places b.Aa).length)
   (fin:=(pre (fun i=>pl b i) b.Ah.length,iH (fun k=>(xl b.Aa k:Int)) b.Ah.length,((places b.Aa).length:Int))) (fun n=>by
    simp only[gK,qu (jf _),Cj];rw[mX (g:=fun k=>(xl b.Aa k:Int)) (fun k o=>if_pos (v k o))]
    rfl)
   (fun j a X m=>by
    obtain⟨n0,n1⟩:=zy r a;obtain⟨l,p⟩:∃l:Nat,(gt (places b.Aa) j).net=(l:Int):=⟨_,fa n0⟩;have x:l<b.Ah.length:=by omega
    simp only[gK,qq a,Ci,qz a,jd,p,wS j,CS x,rg (f:=fun i=>fd b.Aa (i:Int) j) x];cases hdr:(gt (places b.Aa) j).drives
    .have A:pre (fun i=>fd b.Aa (i:Int) (j+1)) b.Ah.length=ak (pre (fun i=>fd b.Aa (i:Int) j) b.Ah.length) (l:Int) (fd b.Aa (l:Int) j++[(j:Int)]):=by
      rw[GO];refine rf fun k o=>?_;rw[vm];unfold tU;rw[p,hdr];by_cases c:k=l
      .subst c;rw[if_pos Z];simp
      .rw[if_neg c,show(((l:Int)==(k:Int))&&!Cd)=Cd by simp;omega];simp
     have B:iH (fun k=>if xl b.Aa k<j+1 then(xl b.Aa k:Int) else 0) b.Ah.length=iH (fun k=>if xl b.Aa k<j then(xl b.Aa k:Int) else 0) b.Ah.length:=by
      refine mX fun k o=>?_;have K:xl b.Aa k≠j:=fun e=>by
       have:=(BB.1 (tq r (k:=k) (by omega)).2).2;rw[e,hdr] at this;cases this
      by_cases u:xl b.Aa k<j
      .rw[if_pos u,if_pos (by omega)]
      .rw[if_neg u,if_neg (by omega)]
     rw[A,B] at m;simp only[Cj];have a7:(fd b.Aa (l:Int) j).length<=j:=by rw[uJ];exact nX
     rw[dU (by rw[jh];omega)];exact m
    .have A:pre (fun i=>fd b.Aa (i:Int) (j+1)) b.Ah.length=pre (fun i=>fd b.Aa (i:Int) j) b.Ah.length:=by
      refine rf fun k o=>?_;rw[vm];unfold tU;rw[hdr];simp
     have H:=R3 r (show l<b.Aa.Am.length by omega) a p hdr;have B:iH (fun k=>if xl b.Aa k<j+1 then(xl b.Aa k:Int) else 0) b.Ah.length=ak (iH (fun k=>if xl b.Aa k<j then(xl b.Aa k:Int) else 0) b.Ah.length) (l:Int) (j:Int):=by
      rw[OC];refine mX fun k o=>?_;by_cases c:k=l
      .subst c;rw[if_pos Z,H,if_pos (by omega)]
      .rw[if_neg c];have K:xl b.Aa k≠j:=fun e=>by
        have:=(BB.1 (tq r (k:=k) (by omega)).2).1;rw[e,p] at this;omega
       by_cases u:xl b.Aa k<j
       .rw[if_pos u,if_pos (by omega)]
       .rw[if_neg u,if_neg (by omega)]
     rw[A,B] at m;exact m)
  simpa [fd,pre,iH] using this
 have D:∀(i k:Nat) (s:Int) (t:List qw),i<b.Ah.length->0<=s->s<=78->t.length<=1000000->Ev (fun n=>ku (iH (fun k=>(xl b.Aa k:Int)) b.Ah.length) (i:Int) (k:Int) s n t 0) (t++qcW (xl b.Aa i) s k,2):=by
  intro i k s t hi a5 a6 ht;have v:=(tq r (k:=i) (by omega)).1;have L:qF (iH (fun k=>(xl b.Aa k:Int)) b.Ah.length) (i:Int)=V (xl b.Aa i:Int):=CS hi;refine Cm ?_;simp only[ku,L,jd];refine Cr Z ?_;rw[wO (2*(xl b.Aa i:Int)),wO (2*s),wO (2*(xl b.Aa i:Int)+0),wO (2*s+0),dU (by rw[jh];omega)];simp only[jd];refine Cm ?_;simp only[ku,L,jd];refine Cr Z ?_;rw[show qj (0+1)=1 from rfl,wO (2*(xl b.Aa i:Int)),wO (2*s),wO (2*(xl b.Aa i:Int)+1),wO (2*s+1),dU (by rw[jg,jh,jh];omega)];simp only[jd];refine Cm ?_;simp only[ku];refine Cp Z (Cx ?_);unfold qcW;rw[jv,Jn,Jn]
  rfl
 have C:∀(i:Nat) (t:List qw),i<b.Ah.length->t.length<=900000->Ev (fun n=>kt (iH (fun k=>(xl b.Aa k:Int)) b.Ah.length) (i:Int) (pl b i) n t 0) (t++TJ b i (pl b i).length,((pl b i).length:Int)):=by
  intro i t hi ht;have a8:=rh h (i:=i);have:=fD (Lf:=kt (iH (fun k=>(xl b.Aa k:Int)) b.Ah.length) (i:Int) (pl b i)) (S:=fun k=>t++TJ b i k) (len:=(pl b i).length) (fin:=(t++TJ b i (pl b i).length,((pl b i).length:Int))) (fun n=>by simp only[kt,qu (jf _),Cj])
   (fun k o X m=>by
    obtain⟨y,L,ey,_⟩:=FG o;have hwn:=TL (b:=b) (i:=i) (j:=k);simp only[kt,qq o,Ci,aX o,jd,wS k];refine Ck (D i k (bO (pl b i) k) (t++TJ b i k) hi (by omega) (by omega) (by rw[jg];omega)) ?_;rw[jv,show TJ b i k++qcW (xl b.Aa i) (bO (pl b i) k) k=TJ b i (k+1) from vO.symm];exact m)
  simpa [TJ,fm] using this
 have Q:Ev (fun n=>ks b (pre (fun i=>pl b i) b.Ah.length) (iH (fun k=>(xl b.Aa k:Int)) b.Ah.length) n ([]:List (List Int)) ([]:List Int) (ob b b.Aa.Ab.length) 0) (pre (cS b) b.Ah.length,pre (vI b) b.Ah.length,qd b,(b.Ah.length:Int)):=by
  have F:=uC h (jf _);have:=fD (τ:=List (List Int)×List Int×List qw) (Lf:=fun n t j=>ks b (pre (fun i=>pl b i) b.Ah.length) (iH (fun k=>(xl b.Aa k:Int)) b.Ah.length) n t.1 t.2.1 t.2.2 j) (S:=fun j=>(pre (cS b) j,pre (vI b) j,ob b b.Aa.Ab.length++yh b j)) (len:=b.Ah.length)
   (fin:=(pre (cS b) b.Ah.length,pre (vI b) b.Ah.length,qd b,(b.Ah.length:Int))) (fun n=>by simp only[ks,qu (jf _),Cj];rfl)
   (fun j a X m=>by
    have hw:=dq h a;have W:=hw.lo;have T:=zq h a;have O:=FJ h (j:=j);simp only[ks,qq a,Ci,wS j];refine Ck (GE h a) ?_;rw[show qF (dy b j) (0:Int)=V (vI b j) from qz (j:=0) (by omega)];simp only[jd];rw[GN (by omega)];simp only[jd];refine Ck (MR h a) ?_;rw[GN (by omega),rg (f:=fun i=>pl b i) a];simp only[jd];refine Ck (C j _ a (by rw[jg];omega)) ?_;rw[jv,show yh b j++TJ b j (pl b j).length=yh b (j+1) from vO.symm];exact m)
  simpa [yh,fm,pre] using this
 unfold vU;refine Ck (DF z) (Ck e1 ?_);rw[I,J];simp only[jd];exact Ck P (Ck Q .done)
end Go.Fw


namespace Go.Fw
open Go Go.Proofs Go.Proofs.Tryz
open Go.RowKit (Below)
open Ch renaming own->oW,box->oX,grp->oG
open qm renaming v->oV
open Go.Value renaming slice->oS
set_option maxRecDepth 100000
set_option maxHeartbeats 6400000
variable{n:Nat}{w:World}{cs1 cs2 cs3 cs4 cs5 cs6 cs7 cs8 cs9:List Value}
def bT(n:Nat)(b:qf):Option Int:=(eA n (⟨b.Aa.Ab,b.Aa.Am,b.Aa.Ai⟩:qk)).bind fun r1=>V (qj (2*(r1.length:Int)))
theorem dL{b:qf}(a:Ro w b cs1){r:Int}(F:bT n b=V r):qP prog 64 [gv b cs1] w r:=by
 obtain⟨_,_,_,_,_,_,_,_,_,_,rfl,_,s2,c,d,_⟩:=qW a;exact zV 8 func64 Z fun h=>dE (qJ h Z Z fun _ _ h=>X1 6 0 h Z (uj h F (dY (cg _ (h.oldS s2) (h.oldS c) (h.oldS d))) Z fun _ _ _ _ _ h F=>X0 4 Z (ri h F Z)))
def tc(n:Nat)(s:qg):Option Bool:=(aW n s.As (-1000000000) 1000000000).bind fun r1=>bif r1 then(aW n s.Be (-1000000000) 1000000000).bind fun a=>bif a then V (decide (s.As<=s.Be)) else V Cd else V Cd
theorem wN{s:qg}(a:Ro w s cs1){r:Bool}(F:tc n s=V r):qP prog 219 [gv s cs1] w r:=by
 obtain rfl:=qA a;refine zV 18 func219 Z fun h=>dE (qJ h Z Z fun _ _ h=>X1 6 0 h Z (dF h F aF Z fun _ _ h F=>cq Z (qh (t:=6) F Z ?_ ?_)))<;>intro F
 .refine X1 5 0 h Z (dF h F aF Z fun _ _ h F=>lY Z (qh (t:=11) F Z ?_ ?_))<;>intro F
  .exact X2 13 0 0 h Z (rb h F Z)
  exact X0 8 Z (rb h F Z)
 exact X0 13 Z (rb h F Z)
def sb(_:Nat)(s:qg):Option Bool:=bif decide (s.As>=0) then bif decide (s.As<=s.Be) then V (decide (s.Be<=1000000)) else V Cd else V Cd
theorem yR{s:qg}(a:Ro w s cs1){r:Bool}(F:sb n s=V r):qP prog 251 [gv s cs1] w r:=by
 obtain rfl:=qA a;refine zV 18 func251 Z fun h=>dE (qJ h Z Z fun _ _ h=>X1 8 0 h Z (qh (t:=6) F Z ?_ ?_))<;>intro F
 .refine X2 12 0 0 h Z (qh (t:=13) F Z ?_ ?_)<;>intro F
  .exact X1 9 0 h Z (rb h F Z)
  exact X0 6 Z (rb h F Z)
 exact X0 13 Z (rb h F Z)
def eB(list:List ql)(r1:Int):Nat->Int->Option (eE Bool Int)|0,_=>U|n+1,a=>bif decide (a<(list.length:Int)) then(qF list a).bind fun m=>(aW n m.Bn 0 (qj (r1-1))).bind fun g=>bif (!g) then V (.ret Cd) else bif decide (a > 0) then(qF list (qj (a-1))).bind fun o=>(qF list a).bind fun p=>bif decide (o.Bn>=p.Bn) then V (.ret Cd) else(qF list a).bind fun b=>(tc n (⟨b.Af.As,b.Af.Be⟩:qg)).bind fun h=>bif (!h) then V (.ret Cd) else(qF list a).bind fun c=>(sb n (⟨c.Bb.As,c.Bb.Be⟩:qg)).bind fun i=>bif (!i) then V (.ret Cd) else eB list r1 n (qj (a+1)) else(qF list a).bind fun d=>(tc n (⟨d.Af.As,d.Af.Be⟩:qg)).bind fun k=>bif (!k) then V (.ret Cd) else(qF list a).bind fun f=>(sb n (⟨f.Bb.As,f.Bb.Be⟩:qg)).bind fun l=>bif (!l) then V (.ret Cd) else eB list r1 n (qj (a+1)) else V (.nxt a)
def oE(n:Nat)(b:qf)(list:List ql):Option Bool:=(bT n b).bind fun r1=>(eB list r1 n 0).bind fun|.ret r=>V r|.nxt _=>V An
theorem FH{b:qf}{list:List ql}(d:Ro w b cs1)(l:Ro w list cs2){r:Bool}(F:oE n b list=V r):qP prog 215 [gv b cs1,gv list cs2] w r:=by
 obtain⟨_,_,_,_,_,_,_,_,_,_,rfl,_,_,_,_,_⟩:=qW d;obtain⟨p6,k6,rfl,c⟩:=l;refine zV 60 func215 Z fun h=>dE (qJ h Z Z fun _ _ h=>X1 5 0 h Z (mN h F (dL (h.old d)) Z fun r1 _ h F=>X0 7 Z ?_));obtain⟨o1,F,a⟩:=qc F;refine qr ?_;have h:=h.p [] Z;refine rL (fun m e w'=>∃i1,eB list r1 m i1=V o1/\e=[(1,oL p6 list k6),(5,vi r1),(6,vi i1)]/\SH w w' []) n ⟨_,F,Z,h⟩ Z ?_;rintro m1 _ _ ⟨i1,F,rfl,h⟩;rcases m1 with _|m1
 .cases F
 refine X0 8 Z (qp Z F ?_ ?_)<;>intro F
 .refine X0 4 Z (rD (xQ Z ?_));obtain⟨_,_,F,z,_,_,_,_,J,Q,a3,o⟩:=c.ix F;obtain rfl:=aB a3;refine hG J Q z Z (vD Z (fF 0 o h Z (xQ Z ?_)));obtain⟨r2,a4,F⟩:=qc F;refine en r2 (KO _) (cB 32 Z) (fun _ hb=>aF  a4) Z Z Z Z (xQ Z (bJ (t:=24) F Z ?_ ?_))<;>intro F
  .refine Y0 35 Z (dN h fun _ h=>eI Z Z (X0 4 Z ?_));cases qe F;exact rb h a Z
  refine Y0 6 Z (bJ (t:=27) F Z ?_ ?_)<;>intro F
  .refine Y0 7 Z ?_;obtain⟨_,_,F,A,_,_,_,_,K,R,a5,p⟩:=c.ix F;obtain rfl:=aB a5;refine hG K R A Z (Y0 3 Z (fF 0 p h Z (Y0 5 Z ?_)));obtain⟨_,_,F,B,_,_,_,_,L,S,a6,s⟩:=c.ix F;obtain rfl:=aB a6;refine hG L S B Z (Y0 3 Z (fF 0 s h Z (Y0 6 Z (bJ (t:=42) F Z ?_ ?_))))<;>intro F
   .refine Y0 17 Z (dN h fun _ h=>eI Z Z (X0 4 Z ?_));cases qe F;exact rb h a Z
   refine Y0 5 Z ?_;obtain⟨_,_,F,C,_,_,_,_,M,T,a7,u⟩:=c.ix F;obtain rfl:=aB a7;refine hG M T C Z (Y0 3 Z (fF 1 u h Z (Y0 1 Z ?_)));obtain⟨r3,a8,F⟩:=qc F;refine en r3 (KO _) (cB 219 Z) (fun _ hb=>wN (qI _) a8) Z Z Z Z (Y0 4 Z (bJ (t:=51) F Z ?_ ?_))<;>intro F
   .refine Y0 8 Z (dN h fun _ h=>eI Z Z (X0 4 Z ?_));cases qe F;exact rb h a Z
   refine Y0 5 Z ?_;obtain⟨_,_,F,D,_,_,_,_,N,W,a9,v⟩:=c.ix F;obtain rfl:=aB a9;refine hG N W D Z (Y0 3 Z (fF 3 v h Z (Y0 1 Z ?_)));obtain⟨r4,b4,F⟩:=qc F;refine en r4 (KO _) (cB 251 Z) (fun _ hb=>yR (qI _) b4) Z Z Z Z (Y0 3 Z (dN h fun _ h=>qp Z F ?_ ?_))<;>intro F
   .refine X0 4 Z ?_;cases qe F;exact rb h a Z
   exact X0 7 Z (rK ⟨_,F,Z,h⟩ Z)
  refine Y0 21 Z ?_;obtain⟨_,_,F,H,_,_,_,_,O,X,f,x⟩:=c.ix F;obtain rfl:=aB f;refine hG O X H Z (Y0 3 Z (fF 1 x h Z (Y0 1 Z ?_)));obtain⟨r5,g,F⟩:=qc F;refine en r5 (KO _) (cB 219 Z) (fun _ hb=>wN (qI _) g) Z Z Z Z (Y0 4 Z (bJ (t:=51) F Z ?_ ?_))<;>intro F
  .refine Y0 8 Z (dN h fun _ h=>eI Z Z (X0 4 Z ?_));cases qe F;exact rb h a Z
  refine Y0 5 Z ?_;obtain⟨_,_,F,I,_,_,_,_,P,Y,i,y⟩:=c.ix F;obtain rfl:=aB i;refine hG P Y I Z (Y0 3 Z (fF 3 y h Z (Y0 1 Z ?_)));obtain⟨r6,k,F⟩:=qc F;refine en r6 (KO _) (cB 251 Z) (fun _ hb=>yR (qI _) k) Z Z Z Z (Y0 3 Z (dN h fun _ h=>qp Z F ?_ ?_))<;>intro F
  .refine X0 4 Z ?_;cases qe F;exact rb h a Z
  exact X0 7 Z (rK ⟨_,F,Z,h⟩ Z)
 refine qx Z ?_;cases qe F;exact X0 4 Z (rb h a Z)
def xt(n:Nat)(t:Int):Option Bool:=(bU n t (-1000000000) 1000000000).bind fun r1=>V r1
theorem BL{t}  {r:Bool}(F:xt n t=V r):qP prog 131 [vi t] w r:=by
 exact zV 5 func131 Z fun h=>X0 7 Z (dF h F bn Z fun _ _ h F=>X0 2 Z (rb h F Z))
def pu(n:Nat)(s:qg):Option Bool:=(xt n s.As).bind fun r1=>bif r1 then(xt n s.Be).bind fun a=>bif a then V (decide (s.As<=s.Be)) else V Cd else V Cd
theorem tB{s:qg}(a:Ro w s cs1){r:Bool}(F:pu n s=V r):qP prog 80 [gv s cs1] w r:=by
 obtain rfl:=qA a;refine zV 18 func80 Z fun h=>dE (qJ h Z Z fun _ _ h=>X1 6 0 h Z (dF h F BL Z fun _ _ h F=>cq Z (qh (t:=6) F Z ?_ ?_)))<;>intro F
 .refine X1 5 0 h Z (dF h F BL Z fun _ _ h F=>lY Z (qh (t:=11) F Z ?_ ?_))<;>intro F
  .exact X2 13 0 0 h Z (rb h F Z)
  exact X0 8 Z (rb h F Z)
 exact X0 13 Z (rb h F Z)
def xr(n:Nat)(a:Int):Option Bool:=(bU n a 0 1000000).bind fun r1=>V r1
theorem BK{a_n}  {r:Bool}(F:xr n a_n=V r):qP prog 187 [vi a_n] w r:=by
 exact zV 5 func187 Z fun h=>X0 7 Z (dF h F bn Z fun _ _ h F=>X0 2 Z (rb h F Z))
def rU(n:Nat)(s:qg):Option Bool:=(pu n s).bind fun r1=>bif r1 then(xr n s.As).bind fun a=>bif a then(xr n s.Be).bind fun b=>V b else V Cd else V Cd
theorem yu{s:qg}(a:Ro w s cs1){r:Bool}(F:rU n s=V r):qP prog 123 [gv s cs1] w r:=by
 obtain rfl:=qA a;refine zV 15 func123 Z fun h=>dE (qJ h Z Z fun _ _ h=>X1 5 0 h Z (dF h F (tB (h.old a)) Z fun _ _ h F=>cq Z (qh (t:=5) F Z ?_ ?_)))<;>intro F
 .refine X1 5 0 h Z (dF h F BK Z fun _ _ h F=>lY Z (qh (t:=10) F Z ?_ ?_))<;>intro F
  .exact X1 5 0 h Z (dF h F BK Z fun _ _ h F=>X0 3 Z (rb h F Z))
  exact X0 6 Z (rb h F Z)
 exact X0 11 Z (rb h F Z)
def kR(_:Nat)(list:List aT):Option Int:=V (list.length:Int)
theorem xc{list:List aT}(a:Ro w list cs1){r:Int}(F:kR n list=V r):qP prog 94 [gv list cs1] w r:=by
 obtain⟨_,_,rfl,_⟩:=a;exact zV 5 func94 Z fun h=>X0 10 Z (ri h F Z)
def eC(n:Nat)(v:Option cL):Option Int:=(v).bind fun a=>(kR n a.places).bind fun r1=>V (qj (2*r1))
theorem hZ{v:Option cL}(a:Ro w v cs1){r:Int}(F:eC n v=V r):qP prog 50 [gv v cs1] w r:=by
 obtain⟨_,rfl,s1⟩:=aM a;refine zV 9 func50 Z fun h=>X0 7 Z ?_;obtain⟨_,d,F⟩:=qc F;obtain⟨_,f,_,rfl,-,c,b⟩:=Cs s1 d;obtain⟨_,_,_,_,_,_,_,_,_,_,_,_,_,_,_,_,_,_,_,_,rfl,_,_,_,_,_,g,_,_,_,_⟩:=cJ c;exact lY Z (bN 5 b h Z (mN h F (xc ⟨_,_,Z,(h.oldS g)⟩) Z fun _ _ h F=>X0 3 Z (ri h F Z)))
def uB(n:Nat)(v:Option cL)(node:Int):Option Bool:=(eC n v).bind fun r1=>(bU n node 0 (qj (r1-1))).bind fun a=>V a
theorem DU{v:Option cL}{node}(a:Ro w v cs1){r:Bool}(F:uB n v node=V r):qP prog 126 [gv v cs1,vi node] w r:=by
 obtain⟨_,rfl,s1⟩:=aM a;exact zV 10 func126 Z fun h=>X0 8 Z (mN h F (hZ (h.old s1)) Z fun _ _ h F=>cq Z (dF h F bn Z fun _ _ h F=>X0 2 Z (rb h F Z)))
def cn(v:Option cL)(list:List ql):Nat->Int->Option (eE Bool Int)|0,_=>U|n+1,a=>bif decide (a<(list.length:Int)) then(qF list a).bind fun b=>(uB n v b.Bn).bind fun r1=>bif (!r1) then V (.ret Cd) else(pu n (⟨b.Af.As,b.Af.Be⟩:qg)).bind fun c=>bif (!c) then V (.ret Cd) else(rU n (⟨b.Bb.As,b.Bb.Be⟩:qg)).bind fun d=>bif (!d) then V (.ret Cd) else bif decide (a > 0) then(qF list (qj (a-1))).bind fun f=>bif decide (f.Bn>=b.Bn) then V (.ret Cd) else cn v list n (qj (a+1)) else cn v list n (qj (a+1)) else V (.nxt a)
def iU(n:Nat)(v:Option cL)(list:List ql):Option Bool:=(cn v list n 0).bind fun|.ret r=>V r|.nxt _=>V An
theorem yy{v:Option cL}{list:List ql}(b:Ro w v cs1)(c:Ro w list cs2){r:Bool}(F:iU n v list=V r):qP prog 75 [gv v cs1,gv list cs2] w r:=by
 obtain⟨p1,rfl,s1⟩:=aM b;obtain⟨D,B,rfl,s2⟩:=c;refine zV 47 func75 Z fun h=>X0 11 Z ?_;obtain⟨o1,F,a⟩:=qc F;refine qr (rL (fun m e w'=>∃A,cn v list m A=V o1/\e=[(0,.pointer p1),(1,oL D list B),(7,oL D list B),(8,vi (list.length:Int)),(9,vi A)]/\SH w w' []) n ⟨_,F,Z,h⟩ Z ?_);rintro C _ _ ⟨A,F,rfl,h⟩;rcases C with _|C
 .cases F
 refine X0 5 Z (qp Z F ?_ ?_)<;>intro F
 .refine X0 6 Z ?_;obtain⟨_,_,F,g,_,_,_,_,k,o,s,d⟩:=s2.ix F;obtain rfl:=aB s;refine fG k o g Z (bN 0 d h Z (qi qa h Z Z Z fun _ _ h=>cq Z (zs 0 h Z fun _ h=>O2 (rD (Y1 3 0 h Z ?_)))));obtain⟨r1,u,F⟩:=qc F;refine en r1 (KO _) (cB 126 Z) (fun _ J=>DU ((h.ext J).old s1) u) Z Z Z Z (xQ Z (bJ (t:=19) F Z ?_ ?_))<;>intro F
  .refine Y0 26 Z (dN h fun _ h=>eI Z Z (X0 4 Z ?_));cases qe F;exact rb h a Z
  refine Y1 4 0 h Z ?_;refine Y0 1 Z ?_;obtain⟨H,x,F⟩:=qc F;refine en H (KO _) (cB 80 Z) (fun _ J=>tB (qI _) x) Z Z Z Z (Y0 4 Z (bJ (t:=25) F Z ?_ ?_))<;>intro F
  .refine Y0 20 Z (dN h fun _ h=>eI Z Z (X0 4 Z ?_));cases qe F;exact rb h a Z
  refine Y1 4 0 h Z ?_;refine Y0 1 Z ?_;obtain⟨I,y,F⟩:=qc F;refine en I (KO _) (cB 123 Z) (fun _ J=>yu (qI _) y) Z Z Z Z (Y0 4 Z (bJ (t:=31) F Z ?_ ?_))<;>intro F
  .refine Y0 14 Z (dN h fun _ h=>eI Z Z (X0 4 Z ?_));cases qe F;exact rb h a Z
  refine Y0 6 Z (bJ (t:=34) F Z ?_ ?_)<;>intro F
  .refine Y0 7 Z ?_;obtain⟨_,_,F,i,_,_,_,_,l,p,z,f⟩:=s2.ix F;obtain rfl:=aB z;refine hG l p i Z (Y0 3 Z (fF 0 f h Z (Y1 4 0 h Z ?_)));refine Y0 5 Z (dN h fun _ h=>qp Z F ?_ ?_)<;>intro F
   .refine X0 4 Z ?_;cases qe F;exact rb h a Z
   refine X0 6 Z ?_;exact rK ⟨_,F,Z,h.p [] Z⟩ Z
  refine Y0 12 Z (dN h fun _ h=>ch Z Z (X0 6 Z ?_));exact rK ⟨_,F,Z,h.p [] Z⟩ Z
 refine qx Z ?_;cases qe F;exact X0 4 Z (rb h a Z)
def yw(_:Nat)(list:List Bool):Option Int:=V (list.length:Int)
theorem DS{list:List Bool}(a:Ro w list cs1){r:Int}(F:yw n list=V r):qP prog 121 [gv list cs1] w r:=by
 obtain⟨_,_,rfl,_⟩:=a;exact zV 5 func121 Z fun h=>X0 10 Z (ri h F Z)
def oO(_:Nat)(list:List qg):Option Int:=V (list.length:Int)
theorem rW{list:List qg}(a:Ro w list cs1){r:Int}(F:oO n list=V r):qP prog 122 [gv list cs1] w r:=by
 obtain⟨_,_,rfl,_⟩:=a;exact zV 5 func122 Z fun h=>X0 10 Z (ri h F Z)
def lS(Cf:qn):Nat->Int->Option (eE Bool Int)|0,_=>U|n+1,a=>bif decide (a<(Cf.Aq.length:Int)) then(qF Cf.Aq a).bind fun g=>(qF Cf.Af a).bind fun h=>(pu n h).bind fun d=>bif (!d) then V (.ret Cd) else(qF Cf.Bb a).bind fun i=>(rU n i).bind fun f=>bif (!f) then V (.ret Cd) else bif (!g) then(qF Cf.Af a).bind fun b=>bif (!((b.As==0)&&(b.Be==0))) then V (.ret Cd) else(qF Cf.Bb a).bind fun c=>bif (!((c.As==0)&&(c.Be==0))) then V (.ret Cd) else lS Cf n (qj (a+1)) else lS Cf n (qj (a+1)) else V (.nxt a)
def wI(n:Nat)(Ce:Option cL)(Cf:qn):Option Bool:=(eC n Ce).bind fun r1=>((yw n Cf.Aq).bind fun a=>bif (a != r1) then V An else(oO n Cf.Af).bind fun b=>bif (b != r1) then V An else(oO n Cf.Bb).bind fun c=>V (c != r1)).bind fun b1=>bif b1 then V Cd else(lS Cf n 0).bind fun|.ret r=>V r|.nxt _=>V An
theorem AJ{Ce:Option cL}{Cf:qn}(g:Ro w Ce cs1)(i:Ro w Cf cs2){r:Bool}(F:wI n Ce Cf=V r):qP prog 73 [gv Ce cs1,gv Cf cs2] w r:=by
 obtain⟨_,rfl,s1⟩:=aM g;obtain⟨T,S,p3,Y,p4,k3,rfl,s2,W,X⟩:=dX i;refine zV 76 func73 Z fun h=>dE (qJ h Z Z fun _ b h=>X0 5 Z (mN h F (hZ (h.old s1)) Z fun _ _ h F=>X0 4 Z ?_));obtain⟨f,d,_,F,c⟩:=bindE F;refine bd (fun e w'=>∃b1,f b1=V r/\e=[(3,vp b),(28,.bool b1)]/\SH w w' [oX b (bF Cf T p3 p4 S Y k3) 51]) ?_ ?_
 .refine X1 3 0 h Z (mN h F (DS ⟨_,_,Z,(h.oldS s2)⟩) Z fun _ _ h F=>EK Z (qh (t:=15) F Z ?_ ?_))<;>intro F
  .refine X0 14 Z ?_;exact rH F c h Z
  refine X1 5 0 h Z (mN h F (rW ⟨_,_,Z,(h.oldS W)⟩) Z fun _ _ h F=>X0 6 Z (qh (t:=22) F Z ?_ ?_))<;>intro F
  .refine X0 7 Z ?_;exact rH F c h Z
  refine X1 5 0 h Z (mN h F (rW ⟨_,_,Z,(h.oldS X)⟩) Z fun _ _ h F=>X0 6 Z ?_);exact rH F c h Z
 rintro _ _ ⟨b1,F,rfl,h⟩;subst d;refine qp Z F ?_ ?_<;>intro F
 .exact X0 4 Z (rb h F Z)
 refine X1 9 0 h Z ?_;obtain⟨o1,F,a⟩:=qc F;refine qr (rL (fun m e w'=>∃R,lS Cf m R=V o1/\e=[(3,vp b),(30,oL T Cf.Aq S),(31,vi (Cf.Aq.length:Int)),(32,vi R)]/\SH w w' [oX b (bF Cf T p3 p4 S Y k3) 51]) n ⟨_,F,Z,h⟩ Z ?_);rintro m1 _ _ ⟨R,F,rfl,h⟩;rcases m1 with _|m1
 .cases F
 refine X0 5 Z (qp Z F ?_ ?_)<;>intro F
 .refine X0 6 Z ?_;obtain⟨_,_,F,u,_,_,_,_,A,I,rfl,k⟩:=s2.ix F;refine fG A I u Z (bN 0 k h Z (X1 8 0 h Z ?_));obtain⟨y2,_,F,v,_,_,_,_,B,J,N,l⟩:=W.ix F;obtain rfl:=qA N;refine fG B J v Z (bN 0 l h Z (dF h F (tB (qI y2)) Z fun _ _ h F=>lY Z (qh (t:=44) F Z ?_ ?_)))<;>intro F
  .refine X0 31 Z (eI Z Z (X0 4 Z ?_));cases qe F;exact rb h a Z
  refine X1 7 0 h Z ?_;obtain⟨y3,_,F,x,_,_,_,_,C,K,O,o⟩:=X.ix F;obtain rfl:=qA O;refine fG C K x Z (X0 1 Z (bN 0 o h Z (X0 1 Z (dF h F (yu (qI y3)) Z fun _ _ h F=>X0 4 Z (qh (t:=53) F Z ?_ ?_)))))<;>intro F
  .refine X0 22 Z (eI Z Z (X0 4 Z ?_));cases qe F;exact rb h a Z
  refine X0 6 Z (qh (t:=56) F Z ?_ ?_)<;>intro F
  .refine X1 7 0 h Z ?_;obtain⟨_,_,F,y,_,_,_,_,D,L,P,p⟩:=W.ix F;obtain rfl:=qA P;refine fG D L y Z (X0 1 Z (bN 0 p h Z (X0 1 Z (dK (qC qa [] [] z8) Z (X0 1 Z (dK (Z7 (by kernel_rfl) Z Z) Z (X0 2 Z (qh (t:=64) F Z ?_ ?_))))))))<;>intro F
   .refine X0 13 Z (eI Z Z (X0 4 Z ?_));cases qe F;exact rb h a Z
   refine X1 7 0 h Z ?_;obtain⟨_,_,F,z,_,_,_,_,H,M,Q,s⟩:=X.ix F;obtain rfl:=qA Q;refine fG H M z Z (X0 1 Z (bN 0 s h Z (X0 1 Z (dK (qC qa [] [] z8) Z (X0 1 Z (dK (Z7 (by kernel_rfl) Z Z) Z (X0 6 Z (qp Z F ?_ ?_))))))))<;>intro F
   .refine X0 4 Z ?_;cases qe F;exact rb h a Z
   exact X0 6 Z (rK ⟨_,F,Z,h⟩ Z)
  exact X0 20 Z (ch Z Z (X0 6 Z (rK ⟨_,F,Z,h⟩ Z)))
 refine qx Z ?_;cases qe F;exact X0 4 Z (rb h a Z)
def gZ(_:Nat)(list:List qw):Option Int:=V (list.length:Int)
theorem rV{list:List qw}(a:Ro w list cs1){r:Int}(F:gZ n list=V r):qP prog 124 [gv list cs1] w r:=by
 obtain⟨_,_,rfl,_⟩:=a;exact zV 5 func124 Z fun h=>X0 10 Z (ri h F Z)
def lF(n:Nat)(v:Option cL)(list:List Int):Option Bool:=(v).bind fun c=>(gZ n c.links).bind fun r1=>(er n list 0 (qj (r1-1))).bind fun a=>bif a then(mA n list).bind fun b=>V b else V Cd
theorem AI{v:Option cL}{list:List Int}(a:Ro w v cs1)(b:Ro w list cs2){r:Bool}(F:lF n v list=V r):qP prog 74 [gv v cs1,gv list cs2] w r:=by
 obtain⟨_,rfl,s1⟩:=aM a;obtain⟨_,_,rfl,s2⟩:=b;refine zV 17 func74 Z fun h=>X0 8 Z ?_;obtain⟨_,f,F⟩:=qc F;obtain⟨_,g,_,rfl,-,d,c⟩:=Cs s1 f;obtain⟨_,_,_,_,_,_,_,_,_,_,_,_,_,_,_,_,_,_,_,_,rfl,_,_,_,_,_,_,i,_,_,_⟩:=cJ d;refine lY Z (bN 6 c h Z (mN h F (rV ⟨_,_,Z,(h.oldS i)⟩) Z fun _ _ h F=>cq Z (dF h F (fj ⟨_,_,Z,(h.oldS s2)⟩) Z fun _ _ h F=>cq Z (qh (t:=13) F Z ?_ ?_))))<;>intro F
 .exact X0 3 Z (dF h F (vf ⟨_,_,Z,(h.oldS s2)⟩) Z fun _ _ h F=>X0 3 Z (rb h F Z))
 exact X0 5 Z (rb h F Z)
def eu(d:List Int):Nat->(List Bool)->Int->Option ((List Bool)×Int)|0,_,_=>U|n+1,b,a=>bif decide (a<(d.length:Int)) then(qF d a).bind fun c=>(qF b c).bind fun _=>eu d n (ak b c Cd) (qj (a+1)) else V (b,a)
def et(x1:List Bool):Nat->(List Bool)->Int->Option ((List Bool)×Int)|0,_,_=>U|n+1,b,a=>bif decide (a<(x1.length:Int)) then(qF b a).bind fun _=>et x1 n (ak b a An) (qj (a+1)) else V (b,a)
def pa(n:Nat)(v:Option cL)(d:List Int):Option (Option aS):=(v).bind fun c=>(xY (c.links.length:Int) (Cd:Bool)).bind fun x1=>(et x1 n x1 0).bind fun(a,_)=>(eu d n a 0).bind fun(b,_)=>V (V (⟨v,b⟩:aS))
theorem BN{A}(hA:∀b,A b->old w b){v:Option cL}{a3:List Int}(y:qm.R w A v cs1)(z:qm.R w A a3 cs2){r:Option aS}(F:pa n v a3=V r):FM prog 76 [gv v cs1,gv a3 cs2] w A r:=by
 obtain⟨_,rfl,s1⟩:=aM y;obtain⟨Y,T,rfl,s2⟩:=z;have hg:=Rg.start hA;refine kY func76 Z (m:=47) Z Z (fun h=>?_);refine X0 8 Z ?_;obtain⟨_,N,F⟩:=qc F;obtain⟨b1,f,_,rfl,-,L,B⟩:=Cs s1 N;obtain⟨_,_,_,_,_,_,_,_,_,_,_,_,_,_,_,_,_,_,_,_,rfl,_,_,_,_,_,_,_,_,_,_⟩:=cJ L;refine lY Z (bN 6 B h Z (cq Z ?_));obtain⟨x1,d,F⟩:=qc F;obtain⟨g1,g2,d⟩:=aL d;refine bv qa Bool h z9 g1 g2 d Z fun _ S1 c h=>dK (qC qa [0,1] [.tmp 9,.tmp 15] z8) Z (qJ h Z Z fun _ a h=>X1 12 0 h Z ?_);obtain⟨o1,F,t⟩:=qc F;refine qr (rL (fun m e w'=>∃S Q,et x1 m S Q=V o1/\e=[(1,oL Y a3 T),(5,vp a),(22,vi (x1.length:Int)),(23,vi Q)]/\SH w w' [oX a [.pointer (V ⟨b1,f,U⟩),oS c x1.length x1.length] 120,oW S1 (S:List Bool) [oS c x1.length x1.length]]) n ⟨_,_,F,Z,h⟩ Z ?_);rintro W _ _ ⟨S,Q,F,rfl,h⟩;rcases W with _|W
 .cases F
 refine X0 5 Z (qp Z F ?_ ?_)<;>intro F
 .refine X1 14 0 h Z ?_;obtain⟨_,O,F,i,_,_,_,_,l,p,rfl,C⟩:=(h.sl 1 Z).1.ix F;exact zx l p ⟨i.1,qD i.2.1 (h.sl 1 Z).2⟩ Z (bK qa 1 0 An h Z O l p Z C Z Z Z Z Z Z Z fun _ h=>X0 6 Z (rK ⟨_,_,F,Z,h⟩ Z))
 refine qx Z ?_;cases qe F;have F:=t;refine X0 7 Z ?_;obtain⟨o2,F,u⟩:=qc F;refine qr (rL (fun m e w'=>∃g R,eu a3 m g R=V o2/\e=[(5,vp a),(33,oL Y a3 T),(34,vi (a3.length:Int)),(35,vi R)]/\SH w w' [oX a [.pointer (V ⟨b1,f,U⟩),oS c x1.length x1.length] 120,oW S1 (g:List Bool) [oS c x1.length x1.length]]) n ⟨_,_,F,Z,h⟩ Z ?_);rintro X _ _ ⟨g,R,F,rfl,h⟩;rcases X with _|X
 .cases F
 refine X0 5 Z (qp Z F ?_ ?_)<;>intro F
 .refine lN ?_;obtain⟨_,_,F,I,_,_,_,_,J,K,rfl,D⟩:=s2.ix F;refine fG J K I Z (bN 0 D h Z (X1 8 0 h Z ?_));obtain⟨_,P,F,k,_,_,_,_,o,s,rfl,H⟩:=(h.sl 1 Z).1.ix F;exact zx o s ⟨k.1,qD k.2.1 (h.sl 1 Z).2⟩ Z (bK qa 1 0 Cd h Z P o s Z H Z Z Z Z Z Z Z fun _ h=>X0 6 Z (rK ⟨_,_,F,Z,h⟩ Z))
 refine qx Z ?_;cases qe F;have F:=u;refine X0 5 Z ?_;obtain rfl:=qe F;have M:la.Rs (ρ:=(Option aS)) h.wc (xC A w h.wc) (V (⟨v,g⟩:aS)) [oV (Option aS) [vp a]]:=⟨_,Z,(hg.outR h (Rg.boxR (x:=(⟨v,g⟩:aS)) 0 h Z (show qm.R _ _ ((⟨v,g⟩:aS):aS) _ from⟨[.pointer (V ⟨b1,f,U⟩)],[oS c x1.length x1.length],Z,(hg.inR h s1),(Rg.ownR 1 h Z)⟩)))⟩;exact mR qa (ρ:=(Option aS)) (r:=(V (⟨v,g⟩:aS))) [oV (Option aS) [vp a]] h ⟨Z,G⟩ M
def gC(s:List Int)(v:Int):Nat->Int->Option (eE Int Int)|0,_=>U|n+1,a=>bif decide (a<(s.length:Int)) then(qF s a).bind fun b=>bif (v==b) then V (.ret a) else gC s v n (qj (a+1)) else V (.nxt a)
def rj(n:Nat)(s:List Int)(v:Int):Option Int:=(gC s v n 0).bind fun|.ret r=>V r|.nxt _=>V (-1)
theorem DW{s:List Int}{v}(b:Ro w s cs1){r:Int}(F:rj n s v=V r):qP prog 128 [gv s cs1,vi v] w r:=by
 obtain⟨p1,l,rfl,s1⟩:=b;refine zV 19 func128 Z fun h=>X0 11 Z ?_;obtain⟨o1,F,a⟩:=qc F;refine qr (rL (fun m e w'=>∃i,gC s v m i=V o1/\e=[(0,oL p1 s l),(1,vi v),(7,vi (s.length:Int)),(8,vi i)]/\SH w w' []) n ⟨_,F,Z,h⟩ Z ?_);rintro k _ _ ⟨i,F,rfl,h⟩;rcases k with _|k
 .cases F
 refine X0 5 Z (qp Z F ?_ ?_)<;>intro F
 .refine X0 13 Z ?_;obtain⟨_,_,F,d,_,_,_,_,f,g,rfl,c⟩:=s1.ix F;refine fG f g d Z (bN 0 c h Z (X0 2 Z (qp Z F ?_ ?_)))<;>intro F
  .refine X0 5 Z ?_;cases qe F;exact ri h a Z
  exact X0 6 Z (rK ⟨_,F,Z,h⟩ Z)
 refine qx Z ?_;cases qe F;exact X0 4 Z (ri h a Z)
def tH(_:Nat)(l:qw)(a:Int):Option Bool:=V (l.Bk==a)
theorem BI{l:qw}{f}(a:Ro w l cs1){p1}(b:Ro w (V f) [.pointer p1]){r:Bool}(F:tH n l f=V r):qP prog 188 [gv l cs1,.pointer p1] w r:=by
 obtain rfl:=aA a;obtain⟨_,g,_,rfl,-,d,c⟩:=Cs b Z;obtain rfl:=d;exact zV 8 func188 Z fun h=>dE (qJ h Z Z fun _ _ h=>X1 6 0 h Z (bN 0 c h Z (X0 3 Z (rb h F Z))))
def qX(h:Int)(c:aS)(b:cL):Nat->(List Int)->Int->Option ((List Int)×Int)|0,_,_=>U|n+1,x1,a=>bif decide (a<(b.links.length:Int)) then(qF b.links a).bind fun f=>(qF c.live a).bind fun g=>bif g then(tH n f h).bind fun r1=>bif r1 then(dj x1 ([a]:List Int)).bind fun d=>qX h c b n d (qj (a+1)) else qX h c b n x1 (qj (a+1)) else qX h c b n x1 (qj (a+1)) else V (x1,a)
def fA(n:Nat)(g:Option aS)(c:Int):Option (List Int):=(g).bind fun a=>(a.view).bind fun b=>(qX c a b n ([]:List Int) 0).bind fun(x1,_)=>V x1
theorem px{g:Option aS}{is_0}(o:Ro w g cs1){R}(f:Ro w (V is_0) [.pointer R]){r:List Int}(F:fA n g is_0=V r):qP prog 97 [gv g cs1,.func (.func 188) #[] #[.pointer R]] w r:=by
 obtain⟨_,rfl,s1⟩:=aM o;obtain⟨b1,L,_,rfl,-,C,_⟩:=Cs f Z;obtain rfl:=C;refine zV 39 func97 Z fun h=>X0 12 Z ?_;obtain⟨Y,J,F⟩:=qc F;obtain⟨b2,M,_,rfl,-,D,i⟩:=Cs s1 J;obtain⟨_,_,_,rfl,s2,X⟩:=fo D;refine lY Z (bN 0 i h Z ?_);obtain⟨P,K,F⟩:=qc F;obtain⟨_,W,_,rfl,-,H,p⟩:=Cs s2 K;obtain⟨_,_,_,_,_,_,_,_,_,_,_,_,N,T,_,_,_,_,_,_,rfl,_,_,_,_,_,_,O,_,_,_⟩:=cJ H;refine lY Z (bN 6 p h Z (X0 3 Z ?_));have h:=h.nil (α:=Int);obtain⟨o1,F,l⟩:=qc F;refine qr (rL (fun m e w'=>∃S1 d c b x1 k,qX is_0 Y P m x1 k=V o1/\e=[(0,.pointer (V ⟨b2,M,U⟩)),(1,.func (.func 188) #[] #[.pointer (V ⟨b1,L,U⟩)]),(5,oS d c b),(14,oL N P.links T),(15,vi (P.links.length:Int)),(16,vi k)]/\SH w w' [oW S1 (x1:List Int) [oS d c b]]) n ⟨_,_,_,_,_,_,F,Z,h⟩ Z ?_);rintro Q _ _ ⟨S1,d,c,b,x1,k,F,rfl,h⟩;obtain rfl:=(h.sl 0 Z).2;rcases Q with _|Q
 .cases F
 refine X0 5 Z (qp Z F ?_ ?_)<;>intro F
 .refine X0 6 Z ?_;obtain⟨y3,_,F,v,_,_,_,_,y,A,I,s⟩:=O.ix F;obtain rfl:=aA I;refine fG y A v Z (bN 0 s h Z (qi qa h Z Z Z fun _ _ h=>cq Z (zs 0 h Z fun _ h=>X0 6 Z (bN 1 i h Z (cq Z ?_)))));obtain⟨_,_,F,x,_,_,_,_,z,B,rfl,u⟩:=X.ix F;refine fG z B x Z (bN 0 u h Z (cq Z (qh (t:=28) F Z ?_ ?_)))<;>intro F
  .refine X1 5 0 h Z (dF h F (BI (fT y3) (h.old f)) Z fun _ _ h F=>X0 2 Z (qp Z F ?_ ?_))<;>intro F
   .refine X0 3 Z (qv qa [.tmp 34] _ ([k]:List Int) h z9 ⟨Z,G⟩ Z fun _ _ _ h=>?_);obtain⟨_,a,F⟩:=qc F;obtain⟨S,a⟩:=qH a;refine bo qa 2 h Z (h.sl 0 Z).1 (h.sl 0 Z).2 z9 S a Z fun _ _ _ _ h=>X0 7 Z ?_;exact rK ⟨_,_,_,_,_,_,F,Z,h.p [2] Z⟩ Z
   refine X0 6 Z ?_;exact rK ⟨_,_,_,_,_,_,F,Z,h.p [1] Z⟩ Z
  refine X0 5 Z (ch Z Z (X0 6 Z ?_));exact rK ⟨_,_,_,_,_,_,F,Z,h.p [1] Z⟩ Z
 refine qx Z ?_;cases qe F;have F:=l;refine X0 5 Z ?_;cases qe F;exact rO 0 h Z ⟨Z,G⟩
def su(n:Nat)(g:Option aS)(node:Int):Option (List Int):=(fA n g node).bind fun r1=>V r1
theorem EY{g:Option aS}{node}(a:Ro w g cs1){r:List Int}(F:su n g node=V r):qP prog 129 [gv g cs1,vi node] w r:=by
 obtain⟨_,rfl,s1⟩:=aM a;refine zV 8 func129 Z fun h=>dE (qJ h Z Z fun _ _ h=>X0 6 Z (uj h F (px (h.old s1) (oB (x:=node) 0 h Z Z)) Z fun _ _ _ _ _ h F=>X0 2 Z ?_));cases qe F;exact rO 0 h Z ⟨Z,G⟩
def sH(_:Nat)(_:qw):Option Bool:=V An
theorem AG{Ce:qw}(a:Ro w Ce cs1){r:Bool}(F:sH n Ce=V r):qP prog 127 [gv Ce cs1] w r:=by
 obtain rfl:=aA a;exact zV 3 func127 Z fun h=>dE (qJ h Z Z fun _ _ h=>X0 6 Z (rb h F Z))
def qV(c:aS)(b:cL):Nat->(List Int)->Int->Option ((List Int)×Int)|0,_,_=>U|n+1,x1,a=>bif decide (a<(b.links.length:Int)) then(qF b.links a).bind fun f=>(qF c.live a).bind fun g=>bif g then(sH n f).bind fun r1=>bif r1 then(dj x1 ([a]:List Int)).bind fun d=>qV c b n d (qj (a+1)) else qV c b n x1 (qj (a+1)) else qV c b n x1 (qj (a+1)) else V (x1,a)
def cP(n:Nat)(g:Option aS):Option (List Int):=(g).bind fun a=>(a.view).bind fun b=>(qV a b n ([]:List Int) 0).bind fun(x1,_)=>V x1
theorem pj{g:Option aS}(l:Ro w g cs1){r:List Int}(F:cP n g=V r):qP prog 97 [gv g cs1,.func (.func 127) #[] #[]] w r:=by
 obtain⟨_,rfl,s1⟩:=aM l;refine zV 39 func97 Z fun h=>X0 12 Z ?_;obtain⟨S,H,F⟩:=qc F;obtain⟨b1,J,_,rfl,-,B,f⟩:=Cs s1 H;obtain⟨_,_,_,rfl,s2,R⟩:=fo B;refine lY Z (bN 0 f h Z ?_);obtain⟨M,I,F⟩:=qc F;obtain⟨_,Q,_,rfl,-,C,o⟩:=Cs s2 I;obtain⟨_,_,_,_,_,_,_,_,_,_,_,_,K,P,_,_,_,_,_,_,rfl,_,_,_,_,_,_,L,_,_,_⟩:=cJ C;refine lY Z (bN 6 o h Z (X0 3 Z ?_));have h:=h.nil (α:=Int);obtain⟨o1,F,k⟩:=qc F;refine qr (rL (fun m e w'=>∃S1 d c b x1 i,qV S M m x1 i=V o1/\e=[(0,.pointer (V ⟨b1,J,U⟩)),(1,.func (.func 127) #[] #[]),(5,oS d c b),(14,oL K M.links P),(15,vi (M.links.length:Int)),(16,vi i)]/\SH w w' [oW S1 (x1:List Int) [oS d c b]]) n ⟨_,_,_,_,_,_,F,Z,h⟩ Z ?_);rintro N _ _ ⟨S1,d,c,b,x1,i,F,rfl,h⟩;obtain rfl:=(h.sl 0 Z).2;rcases N with _|N
 .cases F
 refine X0 5 Z (qp Z F ?_ ?_)<;>intro F
 .refine X0 6 Z ?_;obtain⟨T,_,F,u,_,_,_,_,x,z,D,p⟩:=L.ix F;obtain rfl:=aA D;refine fG x z u Z (bN 0 p h Z (qi qa h Z Z Z fun _ _ h=>cq Z (zs 0 h Z fun _ h=>X0 6 Z (bN 1 f h Z (cq Z ?_)))));obtain⟨_,_,F,v,_,_,_,_,y,A,rfl,s⟩:=R.ix F;refine fG y A v Z (bN 0 s h Z (cq Z (qh (t:=28) F Z ?_ ?_)))<;>intro F
  .refine X1 5 0 h Z (dF h F (AG (fT T)) Z fun _ _ h F=>X0 2 Z (qp Z F ?_ ?_))<;>intro F
   .refine X0 3 Z (qv qa [.tmp 34] _ ([i]:List Int) h z9 ⟨Z,G⟩ Z fun _ _ _ h=>?_);obtain⟨_,a,F⟩:=qc F;obtain⟨O,a⟩:=qH a;refine bo qa 2 h Z (h.sl 0 Z).1 (h.sl 0 Z).2 z9 O a Z fun _ _ _ _ h=>X0 7 Z ?_;exact rK ⟨_,_,_,_,_,_,F,Z,h.p [2] Z⟩ Z
   refine X0 6 Z ?_;exact rK ⟨_,_,_,_,_,_,F,Z,h.p [1] Z⟩ Z
  refine X0 5 Z (ch Z Z (X0 6 Z ?_));exact rK ⟨_,_,_,_,_,_,F,Z,h.p [1] Z⟩ Z
 refine qx Z ?_;cases qe F;have F:=k;refine X0 5 Z ?_;cases qe F;exact rO 0 h Z ⟨Z,G⟩
def eY(g:aS)(d:List Int):Nat->(List Int)->Int->Option ((List Int)×Int)|0,_,_=>U|n+1,c,b=>bif decide (b<(d.length:Int)) then(qF d b).bind fun h=>(g.view).bind fun i=>(qF i.links h).bind fun a=>(qF c a.To).bind fun f=>(qF c a.To).bind fun _=>eY g d n (ak c a.To (qj (f-1))) (qj (b+1)) else V (c,b)
def eX(Ce:Option aS)(f:aS)(x1:List Int):Nat->(List Int)->(List Int)->Int->Option (eE ((List Int)×Bool) ((List Int)×(List Int)×Int))|0,_,_,_=>U|n+1,d,b,c=>bif decide (c<(x1.length:Int)) then(rj n b 0).bind fun a=>bif decide (a<0) then V (.ret ([],Cd)) else(qF b a).bind fun _=>(dj d ([a]:List Int)).bind fun h=>(su n Ce a).bind fun g=>(eY f g n (ak b a (-1)) 0).bind fun(i,_)=>eX Ce f x1 n h i (qj (c+1)) else V (.nxt (d,b,c))
def eV(f:aS)(c:List Int):Nat->(List Int)->Int->Option ((List Int)×Int)|0,_,_=>U|n+1,b,a=>bif decide (a<(c.length:Int)) then(qF c a).bind fun g=>(f.view).bind fun h=>(qF h.links g).bind fun d=>(qF b d.To).bind fun i=>(qF b d.To).bind fun _=>eV f c n (ak b d.To (qj (i+1))) (qj (a+1)) else V (b,a)
def pY(n:Nat)(Ce:Option aS):Option ((List Int)×Bool):=(Ce).bind fun a=>(eC n a.view).bind fun r1=>(xY r1 (0:Int)).bind fun x1=>(cP n Ce).bind fun b=>(eV a b n x1 0).bind fun(c,_)=>(eX Ce a x1 n ([]:List Int) c 0).bind fun|.ret r=>V r|.nxt (d,_,_)=>V (d,An)
theorem DR{Ce:Option aS}(ha1:Ro w Ce cs1){r:(List Int)×Bool}(F:pY n Ce=V r):qP prog 77 [gv Ce cs1] w r:=by
 obtain⟨_,rfl,s1⟩:=aM ha1;refine zV 83 func77 Z fun h=>X0 8 Z ?_;obtain⟨y1,hy1,F⟩:=qc F;obtain⟨b1,i,_,rfl,-,hr1,c⟩:=Cs s1 hy1;obtain⟨_,_,_,rfl,s2,_⟩:=fo hr1;refine lY Z (bN 0 c h Z (mN h F (hZ (h.old s2)) Z fun _ _ h F=>?_));obtain⟨x1,d,F⟩:=qc F;obtain⟨g1,g2,d⟩:=aL d;refine bv qa Int h z9 g1 g2 d Z fun _ S1 k h=>X0 6 Z (uj h F (pj (h.old s1)) Z fun W _ S2 p5 k2 h F=>X0 3 Z ?_);obtain⟨o1,F,hK1⟩:=qc F;refine qr (rL (fun m e w'=>∃x2 i1,eV y1 W m x2 i1=V o1/\e=[(0,.pointer (V ⟨b1,i,U⟩)),(4,oS k x1.length x1.length),(18,oL p5 W k2),(19,vi (W.length:Int)),(20,vi i1)]/\SH w w' [oW S2 (W:List Int) [oL p5 W k2],oW S1 (x2:List Int) [oS k x1.length x1.length]]) n ⟨_,_,F,Z,h⟩ Z ?_);rintro m1 _ _ ⟨x2,i1,F,rfl,h⟩;rcases m1 with _|m1
 .cases F
 refine X0 5 Z (qp Z F ?_ ?_)<;>intro F
 .refine lN ?_;obtain⟨_,_,F,x,_,_,_,_,hp1,hq1,rfl,hc3⟩:=(h.sl 0 Z).1.ix F;refine zx hp1 hq1 ⟨x.1,qD x.2.1 (h.sl 0 Z).2⟩ Z (zc 0 hc3 Z (X0 7 Z (bN 0 c h Z ?_)));obtain⟨_,hy3,F⟩:=qc F;obtain⟨_,o_3,_,rfl,-,hr5,hc4⟩:=Cs s2 hy3;obtain⟨_,_,_,_,_,_,_,_,_,_,_,_,_,_,_,_,_,_,_,_,rfl,_,_,_,_,_,_,s10,_,_,_⟩:=cJ hr5;refine lY Z (bN 6 hc4 h Z (cq Z ?_));obtain⟨_,_,F,he2,_,_,_,_,hp2,hq2,hr6,hc5⟩:=s10.ix F;obtain rfl:=aA hr6;refine fG hp2 hq2 he2 Z (cq Z (bN 1 hc5 h Z ?_));obtain⟨y5,_,F,y,_,_,_,_,hp3,hq3,rfl,hc6⟩:=(h.sl 1 Z).1.ix F;refine zx hp3 hq3 ⟨y.1,qD y.2.1 (h.sl 1 Z).2⟩ Z (zc 0 hc6 Z (cq Z ?_));obtain⟨_,hy6,F,z,_,_,_,_,H,K,rfl,hc7⟩:=(h.sl 1 Z).1.ix F;exact zx H K ⟨z.1,qD z.2.1 (h.sl 1 Z).2⟩ Z (bK qa 1 0 (qj (y5+1)) h Z hy6 H K Z hc7 Z Z Z Z Z Z Z fun _ h=>X0 6 Z (rK ⟨_,_,F,Z,h⟩ Z))
 refine qx Z ?_;cases qe F;have F:=hK1;refine X0 11 Z ?_;have h:=h.nil (α:=Int);obtain⟨o2,F,l⟩:=qc F;refine qr ?_;have h:=h.p [0,2] Z;refine rL (fun m e w'=>∃S3 b g a x3 x4 Y,eX Ce y1 x1 m x3 x4 Y=V o2/\e=[(0,.pointer (V ⟨b1,i,U⟩)),(4,oS k x1.length x1.length),(7,oS b g a),(42,vi (x1.length:Int)),(43,vi Y)]/\SH w w' [oW S3 (x3:List Int) [oS b g a],oW S1 (x4:List Int) [oS k x1.length x1.length]]) n ⟨_,_,_,_,_,_,_,F,Z,h⟩ Z ?_;rintro m2 _ _ ⟨S3,b,g,a,x3,x4,Y,F,rfl,h⟩;obtain rfl:=(h.sl 0 Z).2;rcases m2 with _|m2
 .cases F
 refine X0 5 Z (qp Z F ?_ ?_)<;>intro F
 .refine X0 6 Z (mN h F (DW (h.own 1 Z)) Z fun r3 _ h F=>X0 8 Z (qp Z F ?_ ?_))<;>intro F
  .refine X0 5 Z ?_;cases qe F;have F:=l;cases qe F;exact aq qa (ρ:=((List Int)×Bool)) [oV (List Int) [oS U 0 0],oV Bool [.bool Cd]] h ⟨Z,Z,G⟩ (Cq h (ai h fc ul (by rfl)))
  refine X0 5 Z ?_;obtain⟨_,hy7,F,A,_,_,_,_,I,L,rfl,o⟩:=(h.sl 1 Z).1.ix F;refine zx I L ⟨A.1,qD A.2.1 (h.sl 1 Z).2⟩ Z (bK qa 1 0 (-1) h Z hy7 I L Z o Z Z Z Z Z Z Z fun _ h=>X0 5 Z (qv qa [.tmp 53] _ ([r3]:List Int) h z9 ⟨Z,G⟩ Z fun _ _ _ h=>?_));obtain⟨x5,f,F⟩:=qc F;obtain⟨g3,f⟩:=qH f;refine bo qa 1 h Z (h.sl 0 Z).1 (h.sl 0 Z).2 z9 g3 f Z fun _ S Q S5 h=>X0 6 Z (uj h F (EY (h.old s1)) Z fun X _ S6 T R h F=>X0 3 Z ?_);obtain⟨o3,F,hK3⟩:=qc F;refine qr ?_;have h:=h.p [0,2,3] Z;refine rL (fun m e w'=>∃x6 i3,eY y1 X m x6 i3=V o3/\e=[(0,.pointer (V ⟨b1,i,U⟩)),(4,oS k x1.length x1.length),(7,oL S x5 Q),(42,vi (x1.length:Int)),(43,vi Y),(58,oL T X R),(59,vi (X.length:Int)),(60,vi i3)]/\SH w w' [oW S6 (X:List Int) [oL T X R],oW S5 (x5:List Int) [oL S x5 Q],oW S1 (x6:List Int) [oS k x1.length x1.length]]) m2 ⟨_,_,F,Z,h⟩ Z ?_;rintro m3 _ _ ⟨x6,i3,F,rfl,h⟩;rcases m3 with _|m3
  .cases F
  refine X0 5 Z (qp Z F ?_ ?_)<;>intro F
  .refine lN ?_;obtain⟨_,_,F,B,_,_,_,_,hp6,hq6,rfl,p⟩:=(h.sl 0 Z).1.ix F;refine zx hp6 hq6 ⟨B.1,qD B.2.1 (h.sl 0 Z).2⟩ Z (zc 0 p Z (X0 7 Z (bN 0 c h Z ?_)));obtain⟨_,hy9,F⟩:=qc F;obtain⟨_,o_9,_,rfl,-,N,s⟩:=Cs s2 hy9;obtain⟨_,_,_,_,_,_,_,_,_,_,_,_,_,_,_,_,_,_,_,_,rfl,_,_,_,_,_,_,s20,_,_,_⟩:=cJ N;refine lY Z (bN 6 s h Z (cq Z ?_));obtain⟨_,_,F,he7,_,_,_,_,hp7,hq7,O,t⟩:=s20.ix F;obtain rfl:=aA O;refine fG hp7 hq7 he7 Z (cq Z (bN 1 t h Z ?_));obtain⟨y11,_,F,C,_,_,_,_,hp8,hq8,rfl,u⟩:=(h.sl 2 Z).1.ix F;refine zx hp8 hq8 ⟨C.1,qD C.2.1 (h.sl 2 Z).2⟩ Z (zc 0 u Z (cq Z ?_));obtain⟨_,P,F,D,_,_,_,_,J,M,rfl,v⟩:=(h.sl 2 Z).1.ix F;exact zx J M ⟨D.1,qD D.2.1 (h.sl 2 Z).2⟩ Z (bK qa 2 0 (qj (y11-1)) h Z P J M Z v Z Z Z Z Z Z Z fun _ h=>X0 6 Z (rK ⟨_,_,F,Z,h⟩ Z))
  refine qx Z ?_;cases qe F;have F:=hK3;refine X0 5 Z ?_;exact rK ⟨_,_,_,_,_,_,_,F,Z,h.p [1,2] Z⟩ Z
 refine qx Z ?_;cases qe F;have F:=l;refine X0 6 Z ?_;cases qe F;exact aq qa (ρ:=((List Int)×Bool)) [oV (List Int) [oL b x3 a],oV Bool [.bool An]] h ⟨Z,Z,G⟩ (Cq h (ai h (qS 0 h Z) ul (by rfl)))
def hY(n:Nat)(b:qf)(c:qG)(p:List Int)(r:List ql)(t:Option qn):Option ((Option aS)×(List Int)×Int):=((tz n b).bind fun l=>bif (!l) then V An else(rR n c).bind fun a=>V (!a)).bind fun b1=>bif b1 then V (U,[],1) else(vU n b).bind fun r1=>(bif (!(t).isNone) then(t).bind fun m=>(wI n r1 m).bind fun k=>V (!k) else V Cd).bind fun b2=>bif b2 then V (U,[],1) else((lF n r1 p).bind fun h=>bif (!h) then V An else(iU n r1 r).bind fun i=>V (!i)).bind fun b3=>bif b3 then V (U,[],2) else(pa n r1 p).bind fun d=>(pY n d).bind fun(f,g)=>bif (!g) then V (U,[],7) else V (d,f,0)
theorem vH{A}(hA:∀b,A b->old w b){b:qf}{c:qG}{c2:List Int}{c0:List ql}{t:Option qn}(i:qm.R w A b cs1)(x:qm.R w A c cs2)(N:qm.R w A c2 cs3)(O:qm.R w A c0 cs4)(P:qm.R w A t cs5){r:(Option aS)×(List Int)×Int}(F:hY n b c c2 c0 t=V r):FM prog 35 [gv b cs1,gv c cs2,gv c2 cs3,gv c0 cs4,gv t cs5] w A r:=by
 obtain⟨p1,k1,p2,k2,p3,k3,p4,k4,p5,k5,rfl,_,_,_,_,_⟩:=qW i;obtain rfl:=cQ x;obtain⟨p6,k6,rfl,s6⟩:=N;obtain⟨p7,k7,rfl,s7⟩:=O;obtain⟨p8,rfl,s8⟩:=aM P;have hg:=Rg.start hA;refine kY func35 Z (m:=61) Z Z (fun h=>?_);refine dE (qJ h Z Z fun _ k h=>qJ h Z Z fun _ _ h=>X0 6 Z ?_);obtain⟨M,v,_,F,p⟩:=bindE F;refine bd (fun e w'=>∃b1,M b1=V r/\e=[(2,oL p6 c2 k6),(3,oL p7 c0 k7),(4,.pointer p8),(5,vp k),(24,.bool b1)]/\SH w w' [oX k (qN b p1 p2 p3 p4 p5 k1 k2 k3 k4 k5) 34]) ?_ ?_
 .refine X1 2 1 h Z (dF h F (KU (h.old (qm.mono i hg.old))) Z fun _ _ h F=>lY Z (qh (t:=20) F Z ?_ ?_))<;>intro F
  .refine X0 5 Z ?_;have h:=h.p [1] Z;exact rH F p h Z
  refine X1 3 0 h Z (dF h F (HQ (h.old (qm.mono x hg.old))) Z fun _ _ h F=>X0 4 Z ?_);have h:=h.p [1] Z;exact rH F p h Z
 rintro _ _ ⟨b1,F,rfl,h⟩;subst v;refine qp Z F ?_ ?_<;>intro F
 .refine X0 6 Z ?_;obtain rfl:=qe F;have a5:la.Rs (ρ:=((Option aS)×(List Int)×Int)) h.wc (xC A w h.wc) (U,[],1) [oV (Option aS) [.pointer U],oV (List Int) [oS U 0 0],oV Int [vi 1]]:=⟨_,_,Z,Z,⟨_,_,Z,(hg.outR h (⟨_,_,Z,uP⟩)),⟨_,Z,Z⟩⟩⟩;exact mR qa (ρ:=((Option aS)×(List Int)×Int)) (r:=(U,[],1)) [oV (Option aS) [.pointer U],oV (List Int) [oS U 0 0],oV Int [vi 1]] h ⟨Z,Z,Z,G⟩ a5
 refine X1 4 0 h Z ?_;obtain⟨r1,S,F⟩:=qc F;refine pg r1 hg h (cB 72 Z) (KY (hg.regOld h) (hg.inR h i) S) Z Z Z Z fun w3 _ _ a f b8 a6=>?_;have hL1:=h.ext f.below;have s9:=Up.S hg h f s6;have s10:=Up.S hg h f s7;have I:=Up.Pt hg h f s8;have hb1:=h.below.trans (f.below.mono h.below.size);have h:=b8;obtain⟨_,rfl,T⟩:=mS a6;obtain⟨p9,rfl,g⟩:=aM T;refine X0 5 Z ?_;obtain⟨L,u,_,F,o⟩:=bindE F;refine bd (fun e w'=>∃b2,L b2=V r/\e=[(2,oL p6 c2 k6),(3,oL p7 c0 k7),(13,.pointer p9),(27,.bool b2)]/\SH w3 w' []) ?_ ?_
 .refine X0 2 Z ?_;have R:=ms.isNone I;refine dK (Z8 qa Z Z Z Z R) Z (cq Z (qh (t:=30) F Z ?_ ?_))<;>intro F
  .refine X0 5 Z ?_;obtain⟨y1,b7,F⟩:=qc F;obtain⟨_,o_1,_,rfl,-,y,Q⟩:=Cs I b7;obtain⟨_,_,_,_,_,_,rfl,s14,s15,s16⟩:=dX y;refine X0 2 Z (bN 0 Q h Z (X0 1 Z (dF h F (AJ (h.old (qm.mono g a.old)) (KK y1 (h.oldS (s14.mono a.old)) (h.oldS (s15.mono a.old)) (h.oldS (s16.mono a.old)))) Z fun _ _ h F=>X0 5 Z ?_)));exact rH F o h Z
  refine X0 9 Z ?_;exact rH F o h Z
 rintro _ _ ⟨b2,F,rfl,h⟩;subst u;refine qp Z F ?_ ?_<;>intro F
 .refine X0 6 Z ?_;obtain rfl:=qe F;have a7:la.Rs (ρ:=((Option aS)×(List Int)×Int)) h.wc (xC A w h.wc) (U,[],1) [oV (Option aS) [.pointer U],oV (List Int) [oS U 0 0],oV Int [vi 1]]:=⟨_,_,Z,Z,⟨_,_,Z,(a.outR h (⟨_,_,Z,uP⟩)),⟨_,Z,Z⟩⟩⟩;exact mR qa (ρ:=((Option aS)×(List Int)×Int)) (r:=(U,[],1)) [oV (Option aS) [.pointer U],oV (List Int) [oS U 0 0],oV Int [vi 1]] (h.unbase a.below (show EL [] from trivial)) ⟨Z,Z,Z,G⟩ a7
 refine au ?_;obtain⟨K,s,_,F,l⟩:=bindE F;refine bd (fun e w'=>∃b3,K b3=V r/\e=[(2,oL p6 c2 k6),(13,.pointer p9),(38,.bool b3)]/\SH w3 w' []) ?_ ?_
 .refine X0 3 Z (dF h F (AI (h.old (qm.mono g a.old)) ⟨_,_,Z,(h.oldS (s9.mono a.old))⟩) Z fun _ _ h F=>lY Z (qh (t:=43) F Z ?_ ?_))<;>intro F
  .refine X0 7 Z ?_;exact rH F l h Z
  refine X0 5 Z (dF h F (yy (h.old (qm.mono g a.old)) ⟨_,_,Z,(h.oldS (s10.mono a.old))⟩) Z fun _ _ h F=>X0 5 Z ?_);exact rH F l h Z
 rintro _ _ ⟨b3,F,rfl,h⟩;subst s;refine qp Z F ?_ ?_<;>intro F
 .refine X0 6 Z ?_;obtain rfl:=qe F;have a8:la.Rs (ρ:=((Option aS)×(List Int)×Int)) h.wc (xC A w h.wc) (U,[],2) [oV (Option aS) [.pointer U],oV (List Int) [oS U 0 0],oV Int [vi 2]]:=⟨_,_,Z,Z,⟨_,_,Z,(a.outR h (⟨_,_,Z,uP⟩)),⟨_,Z,Z⟩⟩⟩;exact mR qa (ρ:=((Option aS)×(List Int)×Int)) (r:=(U,[],2)) [oV (Option aS) [.pointer U],oV (List Int) [oS U 0 0],oV Int [vi 2]] (h.unbase a.below (show EL [] from trivial)) ⟨Z,Z,Z,G⟩ a8
 refine X0 6 Z ?_;obtain⟨r2,W,F⟩:=qc F;refine pg r2 a h (cB 76 Z) (BN (a.regOld h) (a.inR h g) ⟨_,_,Z,(a.inS h s9)⟩ W) Z Z Z Z fun _ _ _ d z b9 a9=>?_;have hL2:=h.ext z.below;have hb2:=h.below.trans (z.below.mono h.below.size);have h:=b9;obtain⟨_,rfl,X⟩:=mS a9;obtain⟨C,rfl,J⟩:=aM X;refine X0 5 Z ?_;obtain⟨⟨H,r5⟩,Y,F⟩:=qc F;refine bG (H,r5) h (cB 77 Z) (DR (h.old (qm.mono J d.old)) Y) Z Z Z Z fun _ _ _ b4 a3=>?_;obtain⟨_,_,D,k8,_,rfl,b5,a4⟩:=b4.consL a3;obtain⟨rfl,h⟩:=b5.lastB a4;refine X0 12 Z (qp Z F ?_ ?_)<;>intro F
 .refine X0 6 Z ?_;obtain rfl:=qe F;have b6:la.Rs (ρ:=((Option aS)×(List Int)×Int)) h.wc (xC A w h.wc) (U,[],7) [oV (Option aS) [.pointer U],oV (List Int) [oS U 0 0],oV Int [vi 7]]:=⟨_,_,Z,Z,⟨_,_,Z,(d.outR h (⟨_,_,Z,uP⟩)),⟨_,Z,Z⟩⟩⟩;exact mR qa (ρ:=((Option aS)×(List Int)×Int)) (r:=(U,[],7)) [oV (Option aS) [.pointer U],oV (List Int) [oS U 0 0],oV Int [vi 7]] (h.unbase d.below ⟨fun _ h=>h,G⟩) ⟨Z,Z,Z,G⟩ b6
 refine X0 9 Z ?_;obtain rfl:=qe F;have B:la.Rs (ρ:=((Option aS)×(List Int)×Int)) h.wc (xC A w h.wc) (r2,H,0) [oV (Option aS) [.pointer C],oV (List Int) [oL D H k8],oV Int [vi 0]]:=⟨_,_,Z,(d.outR h (d.inR h J)),⟨_,_,Z,(d.outR h (Rg.ownR 0 h Z)),⟨_,Z,Z⟩⟩⟩;exact mR qa (ρ:=((Option aS)×(List Int)×Int)) (r:=(r2,H,0)) [oV (Option aS) [.pointer C],oV (List Int) [oL D H k8],oV Int [vi 0]] (h.unbase d.below ⟨fun _ h=>h,G⟩) ⟨Z,Z,Z,G⟩ B
def eQ(Ce:Int)(b:List Bool)(c:List Bool):Nat->Int->Option Int|0,_=>U|n+1,a=>bif decide (a<Ce) then(qF b a).bind fun d=>bif d then eQ Ce b c n (qj (a+1)) else(qF c a).bind fun f=>bif f then eQ Ce b c n (qj (a+1)) else V a else V a
def fZ(Cf:List qw)(Cg:List Bool)(c:List Bool):Nat->(List Bool)->Int->Option ((List Bool)×Int)|0,_,_=>U|n+1,b,a=>bif decide (a<(Cf.length:Int)) then((qF Cg a).bind fun f=>bif f then(qF Cf a).bind fun g=>(qF c g.Bk).bind fun h=>V (!h) else V Cd).bind fun b1=>bif b1 then(qF Cf a).bind fun d=>(qF b d.To).bind fun _=>fZ Cf Cg c n (ak b d.To An) (qj (a+1)) else fZ Cf Cg c n b (qj (a+1)) else V (b,a)
def lx(Ce:Int)(Cf:List qw)(Cg:List Bool):Nat->(List Bool)->(List Int)->Option (eE ((List Int)×Bool) ((List Bool)×(List Int)))|0,_,_=>U|n+1,a,c=>bif decide ((c.length:Int)<Ce) then(xY Ce (Cd:Bool)).bind fun d=>(fZ Cf Cg a n d 0).bind fun(f,_)=>(eQ Ce a f n 0).bind fun b=>bif (b==Ce) then V (.ret (([]:List Int),Cd)) else(qF a b).bind fun _=>(dj c ([b]:List Int)).bind fun g=>lx Ce Cf Cg n (ak a b An) g else V (.nxt (a,c))
def oK(n:Nat)(Ce:Int)(Cf:List qw)(Cg:List Bool):Option ((List Int)×Bool):=(xY Ce (Cd:Bool)).bind fun x1=>(lx Ce Cf Cg n x1 ([]:List Int)).bind fun|.ret r=>V r|.nxt (_,a)=>V (a,An)
theorem yP{Ce}{Cf:List qw}{Cg:List Bool}(a4:Ro w Cf cs1)(a5:Ro w Cg cs2){r:(List Int)×Bool}(F:oK n Ce Cf Cg=V r):qP prog 65 [vi Ce,gv Cf cs1,gv Cg cs2] w r:=by
 obtain⟨p1,P,rfl,s1⟩:=a4;obtain⟨R,Q,rfl,s2⟩:=a5;refine zV 79 func65 Z fun h=>X0 7 Z (qv qa [] _ ([]:List Int) h z9 trivial Z fun _ _ _ h=>X0 5 Z ?_);obtain⟨x1,g,F⟩:=qc F;obtain⟨g1,g2,g⟩:=aL g;refine bv qa Bool h z9 g1 g2 g Z fun _ S2 d h=>X0 3 Z ?_;obtain⟨o1,F,u⟩:=qc F;refine qr (rL (fun m e w'=>∃f o b l k3 a,lx Ce Cf Cg m f a=V o1/\e=[(0,vi Ce),(1,oL p1 Cf P),(2,oL R Cg Q),(8,oS b l k3),(9,oS d x1.length x1.length)]/\SH w w' [oW S2 (f:List Bool) [oS d x1.length x1.length],oW o (a:List Int) [oS b l k3]]) n ⟨_,_,_,_,_,_,F,Z,h⟩ Z ?_);rintro W _ _ ⟨f,o,b,l,k3,a,F,rfl,h⟩;obtain rfl:=(h.sl 1 Z).2;rcases W with _|W
 .cases F
 refine X0 8 Z (qp Z F ?_ ?_)<;>intro F
 .refine X0 5 Z ?_;obtain⟨c,i,F⟩:=qc F;obtain⟨g3,g4,i⟩:=aL i;refine bv qa Bool h z9 g3 g4 i Z fun _ S4 p h=>X0 7 Z ?_;obtain⟨o2,F,a3⟩:=qc F;refine qr (rL (fun m e w'=>∃s S,fZ Cf Cg f m s S=V o2/\e=[(0,vi Ce),(1,oL p1 Cf P),(2,oL R Cg Q),(8,oL b a k3),(9,oS d x1.length x1.length),(10,oS p c.length c.length),(11,vi S)]/\SH w w' [oW S4 (s:List Bool) [oS p c.length c.length],oW S2 (f:List Bool) [oS d x1.length x1.length],oW o (a:List Int) [oL b a k3]]) W ⟨_,_,F,Z,h⟩ Z ?_);rintro m2 _ _ ⟨s,S,F,rfl,h⟩;rcases m2 with _|m2
  .cases F
  refine X0 8 Z (qp Z F ?_ ?_)<;>intro F
  .refine X0 4 Z ?_;obtain⟨X,y,_,F,v⟩:=bindE F;refine bd (fun e w'=>∃b1,X b1=V o2/\e=[(0,vi Ce),(1,oL p1 Cf P),(2,oL R Cg Q),(8,oL b a k3),(9,oS d x1.length x1.length),(10,oS p c.length c.length),(11,vi S),(42,.bool b1)]/\SH w w' [oW S4 (s:List Bool) [oS p c.length c.length],oW S2 (f:List Bool) [oS d x1.length x1.length],oW o (a:List Int) [oL b a k3]]) ?_ ?_
   .refine X0 3 Z ?_;obtain⟨_,_,F,b6,_,_,_,_,b9,c6,rfl,a8⟩:=s2.ix F;refine fG b9 c6 b6 Z (bN 0 a8 h Z (cq Z (qh (t:=32) F Z ?_ ?_)))<;>intro F
    .refine X0 7 Z ?_;obtain⟨_,_,F,b7,_,_,_,_,c0,c7,d3,a9⟩:=s1.ix F;obtain rfl:=aA d3;refine fG c0 c7 b7 Z (X0 3 Z (bN 0 a9 h Z (X0 1 Z ?_)));obtain⟨_,_,F,H,_,_,_,_,c2,c8,rfl,b4⟩:=(h.sl 1 Z).1.ix F;refine zx c2 c8 ⟨H.1,qD H.2.1 (h.sl 1 Z).2⟩ Z (X0 1 Z (zc 0 b4 Z (X0 4 Z ?_)));exact rH F v h Z
    refine X0 11 Z ?_;exact rH F v h Z
   rintro _ _ ⟨b1,F,rfl,h⟩;subst y;refine qp Z F ?_ ?_<;>intro F
   .refine X0 4 Z ?_;obtain⟨_,_,F,b5,_,_,_,_,b8,c5,d1,a6⟩:=s1.ix F;obtain rfl:=aA d1;refine fG b8 c5 b5 Z (cq Z (bN 1 a6 h Z ?_));obtain⟨_,d4,F,D,_,_,_,_,L,N,rfl,a7⟩:=(h.sl 0 Z).1.ix F;exact zx L N ⟨D.1,qD D.2.1 (h.sl 0 Z).2⟩ Z (bK qa 0 0 An h Z d4 L N Z a7 Z Z Z Z Z Z Z fun _ h=>X0 7 Z (rK ⟨_,_,F,Z,h⟩ Z))
   exact X0 7 Z (rK ⟨_,_,F,Z,h⟩ Z)
  refine qx Z ?_;cases qe F;have F:=a3;refine X0 5 Z ?_;obtain⟨Y,z,o4,F,x⟩:=bindE F;refine bd (fun e w'=>∃T,Y T=V o1/\e=[(0,vi Ce),(1,oL p1 Cf P),(2,oL R Cg Q),(8,oL b a k3),(9,oS d x1.length x1.length),(12,vi T)]/\SH w w' [oW S2 (f:List Bool) [oS d x1.length x1.length],oW o (a:List Int) [oL b a k3]]) ?_ ?_
  .refine qr (rL (fun m e w'=>∃i4,eQ Ce f s m i4=V o4/\e=[(0,vi Ce),(1,oL p1 Cf P),(2,oL R Cg Q),(8,oL b a k3),(9,oS d x1.length x1.length),(10,oS p c.length c.length),(12,vi i4)]/\SH w w' [oW S4 (s:List Bool) [oS p c.length c.length],oW S2 (f:List Bool) [oS d x1.length x1.length],oW o (a:List Int) [oL b a k3]]) W ⟨_,F,Z,h⟩ Z ?_);rintro m3 _ _ ⟨i4,F,rfl,h⟩;rcases m3 with _|m3
   .cases F
   refine X0 7 Z (qh (t:=53) F Z ?_ ?_)<;>intro F
   .refine X0 5 Z ?_;obtain⟨_,_,F,J,_,_,_,_,c3,c9,rfl,B⟩:=(h.sl 1 Z).1.ix F;refine zx c3 c9 ⟨J.1,qD J.2.1 (h.sl 1 Z).2⟩ Z (X0 1 Z (zc 0 B Z (X0 2 Z (qh (t:=58) F Z ?_ ?_))))<;>intro F
    .exact X0 8 Z (eI Z Z (X0 8 Z (rK ⟨_,F,Z,h⟩ Z)))
    refine X0 5 Z ?_;obtain⟨_,_,F,K,_,_,_,_,c4,d0,rfl,C⟩:=(h.sl 0 Z).1.ix F;refine zx c4 d0 ⟨K.1,qD K.2.1 (h.sl 0 Z).2⟩ Z (X0 1 Z (zc 0 C Z (X0 4 Z (qp Z F ?_ ?_))))<;>intro F
    .exact X0 8 Z (rK ⟨_,F,Z,h⟩ Z)
    refine qx Z ?_;have h:=h.p [1,2] Z;exact rH F x h Z
   refine X0 12 Z (ch Z Z (qx Z ?_));have h:=h.p [1,2] Z;exact rH F x h Z
  rintro _ _ ⟨T,F,rfl,h⟩;subst z;refine X0 7 Z (qp Z F ?_ ?_)<;>intro F
  .refine dE (qv qa [] _ ([]:List Int) h z9 trivial Z fun _ p7 _ h=>X0 3 Z ?_);cases qe F;have F:=u;cases qe F;exact aq qa (ρ:=((List Int)×Bool)) [oV (List Int) [oS p7 0 0],oV Bool [.bool Cd]] h ⟨Z,Z,G⟩ (Cq h (ai h (qS 0 h Z) ul (by rfl)))
  refine X0 5 Z ?_;obtain⟨_,d5,F,I,_,_,_,_,M,O,rfl,A⟩:=(h.sl 0 Z).1.ix F;refine zx M O ⟨I.1,qD I.2.1 (h.sl 0 Z).2⟩ Z (bK qa 0 0 An h Z d5 M O Z A Z Z Z Z Z Z Z fun _ h=>X0 4 Z (qv qa [.tmp 75] _ ([T]:List Int) h z9 ⟨Z,G⟩ Z fun _ _ _ h=>?_));obtain⟨_,k,F⟩:=qc F;obtain⟨g5,k⟩:=qH k;refine bo qa 2 h Z (h.sl 0 Z).1 (h.sl 0 Z).2 z9 g5 k Z fun _ _ _ _ h=>X0 3 Z ?_;exact rK ⟨_,_,_,_,_,_,F,Z,h.p [1,2] Z⟩ Z
 refine qx Z ?_;cases qe F;have F:=u;refine X0 6 Z ?_;cases qe F;exact aq qa (ρ:=((List Int)×Bool)) [oV (List Int) [oL b a k3],oV Bool [.bool An]] h ⟨Z,Z,G⟩ (Cq h (ai h (qS 1 h Z) ul (by rfl)))
end Go.Fw


namespace Go.Fw
open Go
set_option maxRecDepth 100000
structure yZ(ls:List qw)(M:Nat):Prop where
 len:ls.length<=10000
 nodes:M<=156
 fr0:∀x,x<ls.length->0<=(gt ls x).Bk
 fr1:∀x,x<ls.length->(gt ls x).Bk<(M:Int)
 to0:∀x,x<ls.length->0<=(gt ls x).To
 to1:∀x,x<ls.length->(gt ls x).To<(M:Int)
def AO(ls:List qw)(x:Nat):Int:=(gt ls x).Bk
def DK(ls:List qw)(x:Nat):Int:=(gt ls x).To
def zr(lv:List Bool)(x:Nat):Bool:=gt lv x
abbrev O1(ls:List qw)(lv:List Bool)(j:Nat)(R:List Nat)(k:Nat):Nat:=OX j (AO ls) (DK ls) (zr lv) R k
abbrev IA(ls:List qw)(lv:List Bool)(M:Nat)(R:List Nat):Option Nat:=H5 ls.length (AO ls) (DK ls) (zr lv) M R
abbrev GJ(ls:List qw)(lv:List Bool)(M m:Nat)(R:List Nat):Option (List Nat):=I8 ls.length (AO ls) (DK ls) (zr lv) M m R
def PC(ls:List qw)(lv:List Bool)(M:Nat):List Int×Bool:=match GJ ls lv M M [] with|some R=>(dW R,An)|none=>([],Cd)
theorem H9{ls:List qw}{lv:List Bool}{M m:Nat}{R:List Nat}(h:IA ls lv M R=U):GJ ls lv M (m+1) R=U:=by
 show(match IA ls lv M R with|none=>U|some k=>GJ ls lv M m (R++[k]))=U;rw[h]
theorem I7{ls:List qw}{lv:List Bool}{M m k:Nat}{R:List Nat}(h:IA ls lv M R=V k):GJ ls lv M (m+1) R=GJ ls lv M m (R++[k]):=by
 show(match IA ls lv M R with|none=>U|some k=>GJ ls lv M m (R++[k]))=_;rw[h]
theorem yE{M:Nat}{v:Bool}(h:M<=2147483648):xY (M:Int) v=V (pre (fun _=>v) M):=by
 rw[xx h]
 congr 1
 refine Jk (by simp[pre]) fun i a b=>?_;simp[pre]
theorem qcr{L:Nat}{fr to:Nat->Int}{lv:Nat->Bool}{R:List Nat}{k:Nat}:OX L fr to lv R k<=L:=nX
theorem VB{L:Nat}{fr to:Nat->Int}{lv:Nat->Bool}{R:List Nat}{k:Nat}:OX (L+1) fr to lv R k=OX L fr to lv R k+(bif lv L&&(to L==(k:Int)&&!decide (fr L∈dW R)) then 1 else 0):=rfl
def HX(ls:List qw)(lv:List Bool)(j:Nat)(R:List Nat)(M:Nat):List Bool:=pre (fun k=>!decide (O1 ls lv j R k=0)) M
def B8(R:List Nat)(M:Nat):List Bool:=pre (fun k=>decide (k∈R)) M
theorem qbg{ls:List qw}{lv:List Bool}{M:Nat}(h:yZ ls M)(A:lv.length=ls.length){R:List Nat} :
  Ev (fun n=>fZ ls lv (B8 R M) n (pre (fun _=>Cd) M) 0) (HX ls lv ls.length R M,(ls.length:Int)):=by
 have x:=h.len;refine fD (Lf:=fZ ls lv (B8 R M)) (S:=fun j=>HX ls lv j R M) (len:=ls.length) (fun n=>?_) (fun j l X i=>?_)
 .simp only[fZ,qu (jf _),Cj]
 .obtain⟨a,u⟩:∃a:Nat,(gt ls j).Bk=(a:Int):=⟨_,fa (h.fr0 j l)⟩;obtain⟨c,v⟩:∃c:Nat,(gt ls j).To=(c:Int):=⟨_,fa (h.to0 j l)⟩;have p:a<M:=by have:=h.fr1 j l;omega
  have r:c<M:=by have:=h.to1 j l;omega
  have s:AO ls j=(a:Int):=u;have o:DK ls j=(c:Int):=v;have b:decide (AO ls j∈dW R)=decide (a∈R):=by rw[s];exact decide_eq_decide.2 pC
  have y:qF (B8 R M) (a:Int)=V (decide (a∈R)):=rg (f:=fun k=>decide (k∈R)) p;have z:qF (HX ls lv j R M) (c:Int)=V (!decide (O1 ls lv j R c=0)):=rg (f:=fun k=>!decide (O1 ls lv j R k=0)) r;have t:(zr lv j&&!decide (a∈R))=An->HX ls lv (j+1) R M=ak (HX ls lv j R M) (c:Int) An:=by
   intro g;unfold HX;rw[GO];refine rf fun k _=>?_;show(!decide (OX (j+1) _ _ _ R k=0))=_;rw[VB,o,b];by_cases m:k=c
   .subst m;rw[if_pos Z];simp only[je] at g;simp[g.1,g.2]
   .rw[if_neg m,show((c:Int)==(k:Int))=Cd by simp;omega];simp
  have d:(zr lv j&&!decide (a∈R))=Cd->HX ls lv (j+1) R M=HX ls lv j R M:=by
   intro g;unfold HX;refine rf fun k _=>?_;show(!decide (OX (j+1) _ _ _ R k=0))=_;rw[VB,o,b,show(zr lv j&&(((c:Int)==(k:Int))&&!decide (a∈R)))=Cd by
    cases h1:zr lv j
    .rfl
    .rw[h1] at g;simp only[jL] at g;rw[g];simp]
   simp
  simp only[fZ,qq l,Ci,qz (show j<lv.length by omega),qz l,jd,u,v,y,z,wS j];cases h1:gt lv j
  .simp only[Cj,jd];have:=d (by unfold zr;rw[h1];rfl);rw[this] at i;exact i
  .simp only[Ci,jd];cases h2:decide (a∈R)
   .simp only[Bool.not_false,Ci];have:=t (by unfold zr;rw[h1,h2];rfl);rw[this] at i;exact i
   .simp only[Jm,Cj];have:=d (by unfold zr;rw[h1,h2];rfl);rw[this] at i;exact i
theorem X9{ls:List qw}{lv:List Bool}{M:Nat}(h:yZ ls M){R:List Nat} :
  Ev (fun n=>eQ (M:Int) (B8 R M) (HX ls lv ls.length R M) n 0) (match IA ls lv M R with|some k=>(k:Int)|none=>(M:Int)):=by
 have u:=h.nodes;have b:∀d j,j+d=M->(∀i,i<j->FU ls.length (AO ls) (DK ls) (zr lv) R i=Cd) ->
   Ev (fun n=>eQ (M:Int) (B8 R M) (HX ls lv ls.length R M) n (j:Int)) (match IA ls lv M R with|some k=>(k:Int)|none=>(M:Int)):=by
  intro d
  induction d with
  |zero=>
   intro j p c;have l:IA ls lv M R=U:=by
    show(List.range M).find? _=U;rw[List.find?_eq_none];intro x r;rw[List.mem_range] at r;rw[c x (by omega)];simp
   rw[l];refine Cm ?_;simp only[eQ,qu (show M<=j by omega),Cj];rw[show j=M by omega];exact .done
  |succ d ih=>
   intro j p c;have a:j<M:=by omega
   have s:qF (B8 R M) (j:Int)=V (decide (j∈R)):=rg (f:=fun k=>decide (k∈R)) a;have t:qF (HX ls lv ls.length R M) (j:Int)=V (!decide (O1 ls lv ls.length R j=0)):=rg (f:=fun k=>!decide (O1 ls lv ls.length R k=0)) a;refine Cm ?_;simp only[eQ,qq a,Ci,s,t,jd,wS j];have m:FU ls.length (AO ls) (DK ls) (zr lv) R j=Cd->Ev (fun n=>eQ (M:Int) (B8 R M) (HX ls lv ls.length R M) n ((j+1:Nat):Int)) (match IA ls lv M R with|some k=>(k:Int)|none=>(M:Int)):=fun o=>
    ih (j+1) (by omega) fun i hi=>by
     by_cases g:i=j
     .rw[g];exact o
     .exact c i (by omega)
   cases h1:decide (j∈R)
   .simp only[Cj];cases h2:decide (O1 ls lv ls.length R j=0)
    .simp only[Bool.not_false,Ci];exact m (by unfold FU;rw[h1];show(!Cd&&decide (O1 ls lv ls.length R j=0))=Cd;rw[h2];rfl)
    .simp only[Jm,Cj];have:IA ls lv M R=V j:=by
      show(List.range M).find? _=V j;rw[List.find?_range_eq_some];refine⟨?_,List.mem_range.2 a,fun i hi=>by rw[c i hi];rfl⟩;unfold FU;rw[h1];show(!Cd&&decide (O1 ls lv ls.length R j=0))=An;rw[h2];rfl
     rw[this];exact .done
   .simp only[Ci];exact m (by unfold FU;rw[h1];rfl)
 exact b M 0 (by omega) (fun i hi=>absurd hi (by omega))
theorem QU{ls:List qw}{lv:List Bool}{M:Nat}(h:yZ ls M)(g:lv.length=ls.length):Ev (fun n=>oK n (M:Int) ls lv) (PC ls lv M):=by
 have o:=h.nodes;have b:∀m R,R.length+m=M->Ev (fun n=>lx (M:Int) ls lv n (B8 R M) (dW R))
   (match GJ ls lv M m R with|some R'=>.nxt (B8 R' M,dW R')|none=>.ret ([],Cd)):=by
  intro m
  induction m with
  |zero=>
   intro R c;refine Cm ?_;simp only[lx,dc,qu (show M<=R.length by omega),Cj];exact .done
  |succ m ih=>
   intro R c;refine Cm ?_;simp only[lx,dc,qq (show R.length<M by omega),Ci,yE (v:=Cd) (show M<=2147483648 by omega),jd];refine Ck (qbg h g) (Ck (X9 h) ?_);show Ev _ (match (match IA ls lv M R with|none=>U|some k=>GJ ls lv M m (R++[k])) with|some R'=>_|none=>_);cases hn:IA ls lv M R with
   |none=>
    simp only[beq_self_eq_true,Ci];exact .done
   |some k=>
    obtain⟨d,_,_⟩:=IB hn;have l:qF (B8 R M) (k:Int)=V (decide (k∈R)):=rg (f:=fun k=>decide (k∈R)) d;have e1:ak (B8 R M) (k:Int) An=B8 (R++[k]) M:=by
     unfold B8;rw[GO];refine rf fun i _=>?_;by_cases a:i=k
     .subst a;simp
     .simp[a]
    simp only[show((k:Int)==(M:Int))=Cd by simp;omega,Cj,l,jd];rw[dU (by rw[dc,jh];omega),e1,<-wm];exact ih (R++[k]) (by rw[jg,jh];omega)
 have e0:pre (fun _=>Cd) M=B8 [] M:=rf fun k _=>by simp
 unfold oK;rw[yE (v:=Cd) (show M<=2147483648 by omega)];simp only[jd];rw[e0];refine Ck (b M [] (by simp)) ?_;unfold PC;cases GJ ls lv M M []<;>exact .done
def qbN(ls:List qw)(lv:List Bool)(ps:List aT)(b:qf)(lo:List Int)(de:List (List Int))(ex:List Int):Option aS:=V ⟨V ⟨b,ps,ls,lo,de,ex⟩,lv⟩
theorem RY{xs:List Int}(c:xs.length<=1000000):Ev (fun n=>rj n xs 0) (KZ (fun y=>(0:Int)==y) xs):=
 nF (fin:=(xs.length:Int)) (Lf:=gC xs 0) (pf:=fun _ y=>V ((0:Int)==y)) (fun _ _=>.done)
  (fun n=>by simp only[gC,qu (jf _),Cj])
  (fun n j x a=>by
   have b:=(List.getElem?_eq_some_iff.1 a).1;simp only[gC,qq b,Ci,pp a,jd,wS j])
  (fun n=>by unfold rj;congr 1;funext o;cases o<;>rfl)
theorem qaM{f:Nat->Int}{M:Nat}{p:Int->Bool}:KZ p (iH f M)=match (List.range M).find? (fun k=>p (f k)) with|some k=>(k:Int)|none=>-1:=by
 cases hf:(List.range M).find? (fun k=>p (f k)) with
 |none=>
  have a:(iH f M).findIdx? p=U:=by
   rw[List.findIdx?_eq_none_iff];intro x g;obtain⟨k,d,rfl⟩:=List.mem_map.1 g;have:=List.find?_eq_none.1 hf k d;simpa using this
  unfold KZ;rw[a]
 |some k=>
  obtain⟨a,b,c⟩:=List.find?_range_eq_some.1 hf;rw[List.mem_range] at b;have:=QB (p:=p) (xs:=iH f M) (j:=k) (by rw[yW];exact b) (by simpa [iH] using a) (fun i hi=>by
   have:=c i hi;simpa [iH] using this)
  rw[this]
section
variable{ls:List qw}{lv:List Bool}{M:Nat}{ps:List aT}{b:qf}{lo:List Int}{de:List (List Int)}{ex:List Int}
theorem RS(h:yZ ls M)(k:lv.length=ls.length):Ev (fun n=>cP n (qbN ls lv ps b lo de ex)) (dW (lg (zr lv) ls.length)):=by
 have g:=h.len;have f:Ev (fun n=>qV ⟨V ⟨b,ps,ls,lo,de,ex⟩,lv⟩ ⟨b,ps,ls,lo,de,ex⟩ n ([]:List Int) 0) (dW (lg (zr lv) ls.length),(ls.length:Int)):=by
  refine II (q:=zr lv) (Lf:=qV ⟨V ⟨b,ps,ls,lo,de,ex⟩,lv⟩ ⟨b,ps,ls,lo,de,ex⟩) (len:=ls.length) (by omega) (Cm ?_) (fun j a t i X c d=>?_)
  .simp only[qV,qu (jf _),Cj];exact .done
  .simp only[qV,qq a,Ci,qz a,qz (show j<lv.length by omega),jd,sH,i,wS j];cases hq:gt lv j
   .simp only[Cj];exact d hq
   .simp only[Ci];exact c hq
 unfold cP qbN;simp only[jd];exact Ck f .done
theorem qaC(h:yZ ls M)(k:lv.length=ls.length){v:Int}:Ev (fun n=>su n (qbN ls lv ps b lo de ex) v) (dW (lg (fun x=>zr lv x&&(AO ls x==v)) ls.length)):=by
 have g:=h.len;have f:Ev (fun n=>qX v ⟨V ⟨b,ps,ls,lo,de,ex⟩,lv⟩ ⟨b,ps,ls,lo,de,ex⟩ n ([]:List Int) 0) (dW (lg (fun x=>zr lv x&&(AO ls x==v)) ls.length),(ls.length:Int)):=by
  refine II (q:=fun x=>zr lv x&&(AO ls x==v)) (Lf:=qX v ⟨V ⟨b,ps,ls,lo,de,ex⟩,lv⟩ ⟨b,ps,ls,lo,de,ex⟩) (len:=ls.length) (by omega) (Cm ?_) (fun j d t i X c a=>?_)
  .simp only[qX,qu (jf _),Cj];exact .done
  .simp only[qX,qq d,Ci,qz d,qz (show j<lv.length by omega),jd,tH,i,wS j];unfold zr AO at c a;cases hq:gt lv j
   .simp only[Cj];exact a (by rw[hq];rfl)
   .simp only[Ci];cases hw:(gt ls j).Bk==v
    .simp only[Cj];exact a (by rw[hq,hw];rfl)
    .simp only[Ci];exact c (by rw[hq,hw];rfl)
 unfold su fA qbN;simp only[jd];exact Ck (Ck f .done) .done
theorem Z3{q:Nat->Bool}{m:Nat}{p:Nat->Bool}:(lg q m).countP p=gf (fun x=>q x&&p x) m:=by
 induction m with
 |zero=>rfl
 |succ m ih=>
  rw[wr,List.countP_append,ih];show _=gf (fun x=>q x&&p x) m+(bif (q m&&p m) then 1 else 0);cases q m
  .rfl
  .cases hp:p m<;>simp[hp]
def vN(ls:List qw)(S:List Nat)(k:Nat):Nat:=S.countP (fun x=>DK ls x==(k:Int))
theorem A5{S:List Nat}{k:Nat}:vN ls S k<=S.length:=List.countP_le_length
theorem F1{S:List Nat}{j k:Nat}(a:j<S.length):vN ls (S.take (j+1)) k=vN ls (S.take j) k+(if DK ls S[j]=(k:Int) then 1 else 0):=by
 unfold vN;rw[jw a,List.countP_append];by_cases h:DK ls S[j]=(k:Int)<;>simp[h]
theorem qbK{f:Nat->Int}{c:Nat}{S:List Nat}{j:Nat}{d v:Int}(g:j<S.length)(b:DK ls S[j]=(c:Int))(h:v=f c+d*(vN ls (S.take j) c:Int)+d) :
  ak (iH (fun k=>f k+d*(vN ls (S.take j) k:Int)) M) (c:Int) v=iH (fun k=>f k+d*(vN ls (S.take (j+1)) k:Int)) M:=by
 rw[OC];refine mX fun k _=>?_;rw[F1 g,b];by_cases a:k=c
 .subst a;rw[if_pos Z,if_pos Z,h];rw[Int.natCast_add,Int.mul_add];omega
 .rw[if_neg a,if_neg (by omega)];simp
theorem qcp(h:yZ ls M){S:List Nat}(p:∀x,x∈S->x<ls.length)(s:S.length<=10000) :
  Ev (fun n=>eV ⟨V ⟨b,ps,ls,lo,de,ex⟩,lv⟩ (dW S) n (iH (fun _=>0) M) 0) (iH (fun k=>(vN ls S k:Int)) M,(S.length:Int)):=by
 have:=fD (Lf:=eV ⟨V ⟨b,ps,ls,lo,de,ex⟩,lv⟩ (dW S)) (S:=fun j=>iH (fun k=>0+1*(vN ls (S.take j) k:Int)) M) (len:=S.length) (fin:=(iH (fun k=>(vN ls S k:Int)) M,(S.length:Int))) (fun n=>by
   simp only[eV,dc,qu (jf _),Cj,jG];rw[mX (f:=fun k=>0+1*(vN ls S k:Int)) (g:=fun k=>(vN ls S k:Int)) (fun k _=>by omega)])
  (fun j a X r=>by
   have m:=p S[j] (jo a);obtain⟨c,o⟩:∃c:Nat,(gt ls S[j]).To=(c:Int):=⟨_,fa (h.to0 _ m)⟩;have i:c<M:=by have:=h.to1 _ m;omega
   have l:=A5 (ls:=ls) (S:=S.take j) (k:=c);rw[jy] at l;simp only[eV,dc,qq a,Ci,xu a,jd,qz m,o,CS i,wS j];rw[qY (by omega) (by omega),qbK (d:=1) a o (by omega)];exact r)
 rw[mX (f:=fun k=>0+1*(vN ls (S.take 0) k:Int)) (g:=fun _=>0) (fun k _=>by unfold vN;simp)] at this;exact this
theorem T3(h:yZ ls M){S:List Nat}{f:Nat->Int}(p:∀x,x∈S->x<ls.length)(u:S.length<=10000)(s:∀k,k<M->-1<=f k/\f k<=10000) :
  Ev (fun n=>eY ⟨V ⟨b,ps,ls,lo,de,ex⟩,lv⟩ (dW S) n (iH f M) 0) (iH (fun k=>f k-(vN ls S k:Int)) M,(S.length:Int)):=by
 have:=fD (Lf:=eY ⟨V ⟨b,ps,ls,lo,de,ex⟩,lv⟩ (dW S)) (S:=fun j=>iH (fun k=>f k+(-1)*(vN ls (S.take j) k:Int)) M) (len:=S.length) (fin:=(iH (fun k=>f k-(vN ls S k:Int)) M,(S.length:Int))) (fun n=>by
   simp only[eY,dc,qu (jf _),Cj,jG];rw[mX (f:=fun k=>f k+(-1)*(vN ls S k:Int)) (g:=fun k=>f k-(vN ls S k:Int)) (fun k _=>by omega)])
  (fun j i X r=>by
   have m:=p S[j] (jo i);obtain⟨c,o⟩:∃c:Nat,(gt ls S[j]).To=(c:Int):=⟨_,fa (h.to0 _ m)⟩;have a:c<M:=by have:=h.to1 _ m;omega
   have l:=A5 (ls:=ls) (S:=S.take j) (k:=c);rw[jy] at l;have t:=s c a;simp only[eY,dc,qq i,Ci,xu i,jd,qz m,o,CS a,wS j];rw[qY (by omega) (by omega),qbK (d:=-1) i o (by omega)];exact r)
 rw[mX (f:=fun k=>f k+(-1)*(vN ls (S.take 0) k:Int)) (g:=f) (fun k _=>by unfold vN;simp)] at this;exact this
def zS(ls:List qw)(lv:List Bool)(R:List Nat)(k:Nat):Int:=if k∈R then -1 else(O1 ls lv ls.length R k:Int)
theorem H7{R:List Nat}:KZ (fun y=>(0:Int)==y) (iH (zS ls lv R) M)=match IA ls lv M R with|some k=>(k:Int)|none=>-1:=by
 rw[qaM];have:(fun k=>((0:Int)==zS ls lv R k))=FU ls.length (AO ls) (DK ls) (zr lv) R:=by
  funext k
  unfold zS FU;by_cases a:k∈R
  .rw[if_pos a];simp[a]
  .rw[if_neg a];simp only[a,decide_false,Bool.not_false,jL];by_cases b:O1 ls lv ls.length R k=0
   .simp[b]
   .rw[show((0:Int)==((O1 ls lv ls.length R k:Nat):Int))=Cd from beq_eq_false_iff_ne.2 (by omega)];simpa using b
 rw[this]
 rfl
theorem G3(h:yZ ls M)(t:lv.length=ls.length)(F:M=2*ps.length):Ev (fun n=>pY n (qbN ls lv ps b lo de ex)) (PC ls lv M):=by
 have H:=h.nodes;have C:=h.len;have g:∀m R,R.length+m=M->yY ls.length (AO ls) (DK ls) (zr lv) R->∃y:List Int×List Int×Int,Ev (fun n=>eX (qbN ls lv ps b lo de ex) ⟨V ⟨b,ps,ls,lo,de,ex⟩,lv⟩ (iH (fun _=>0) M) n (dW R) (iH (zS ls lv R) M) (R.length:Int))
   (match GJ ls lv M m R with|some R'=>.nxt (dW R',y.2.1,y.2.2)|none=>.ret ([],Cd)):=by
  intro m
  induction m with
  |zero=>
   intro R A _;refine⟨(dW R,iH (zS ls lv R) M,(R.length:Int)),Cm ?_⟩;simp only[eX,yW,qu (show M<=R.length by omega),Cj];exact .done
  |succ m ih=>
   intro R A s;have c:=RY (xs:=iH (zS ls lv R) M) (by rw[yW];omega);rw[H7] at c;cases hn:IA ls lv M R with
   |none=>
    rw[hn] at c;rw[H9 hn];refine⟨([],[],0),Cm ?_⟩;simp only[eX,yW,qq (show R.length<M by omega),Ci];exact Ck c (Cr (by decide) .done)
   |some k=>
    rw[hn] at c;rw[I7 hn];obtain⟨B,d,r⟩:=IB hn;obtain⟨y,o⟩:=ih (R++[k]) (by rw[jg,jh];omega) (s.snoc r);refine⟨y,Cm ?_⟩;simp only[eX,yW,qq (show R.length<M by omega),Ci];refine Ck c (Cp (by simp) ?_);rw[CS B,dU (by rw[dc,jh];omega),OC,<-wm];simp only[jd];refine Ck (qaC h t) ?_;have D:=vl (q:=fun x=>zr lv x&&(AO ls x==(k:Int))) (j:=ls.length);refine Ck (T3 h (fun x p=>(nG.1 p).1) (by omega) (fun i hi=>?_)) ?_
    .split
     .omega
     .unfold zS;have:O1 ls lv ls.length R i<=ls.length:=qcr;split<;>omega
    .have u:iH (fun i=>(if i=k then -1 else zS ls lv R i)-(vN ls (lg (fun x=>zr lv x&&(AO ls x==(k:Int))) ls.length) i:Int)) M=iH (zS ls lv (R++[k])) M:=by
      refine mX fun i _=>?_;have v:vN ls (lg (fun x=>zr lv x&&(AO ls x==(k:Int))) ls.length) i=qdj ls.length (AO ls) (DK ls) (zr lv) k i:=Z3;rw[v];unfold zS;by_cases a:i∈R++[k]
      .rw[if_pos a,s.no_back d r a];rcases List.mem_append.1 a with l|l
       .split
        .rfl
        .rfl
       .rw[if_pos (List.mem_singleton.1 l)];rfl
      .have l:i∉R:=fun e=>a (jK _ e);have z:i≠k:=fun e=>a (jS _ (List.mem_singleton.2 e));rw[if_neg a,if_neg z,if_neg l];have:=T7 (L:=ls.length) (fr:=AO ls) (to:=DK ls) (lv:=zr lv) (R:=R) (i:=k) (k:=i) d;show(OX _ _ _ _ R i:Int)-_=(OX _ _ _ _ (R++[k]) i:Int);omega
     rw[u,sf (show R.length<9223372036854775807 by omega)];rw[jg,jh] at o;exact o
 have f:=qcp (b:=b) (ps:=ps) (lo:=lo) (de:=de) (ex:=ex) (lv:=lv) h (S:=lg (zr lv) ls.length) (fun x p=>(nG.1 p).1) (by have:=vl (q:=zr lv) (j:=ls.length);omega);have e0:iH (fun k=>(vN ls (lg (zr lv) ls.length) k:Int)) M=iH (zS ls lv []) M:=by
  refine mX fun k _=>?_;unfold zS;rw[if_neg (by simp)]
  congr 1
  show List.countP _ _=OX _ _ _ _ [] k;rw[Z3];unfold OX;exact MN fun x _=>by simp[dW]
 rw[e0] at f;obtain⟨y,o⟩:=g M [] (by simp) yY.nil;unfold pY;show Ev (fun n=>(V _).bind _) _;simp only[jd,eC,kR];rw[qY (by omega) (by omega),show 2*(ps.length:Int)=(M:Int) by omega,RB (by omega)];simp only[jd];refine Ck (RS h t) (Ck f (Ck o ?_));unfold PC;cases GJ ls lv M M []<;>exact .done
end
end Go.Fw
