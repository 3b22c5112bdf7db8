/- Plain laws: tables. -/
import Derived.Test.YtklmnhcgjnglhaaGreatDoorB2
import Derived.Test.YtklmnhcgjnglhaaGreatDoorFw37
open Option renaming bind_some->jd, some->V, none->U
open Bool renaming and_eq_true->je, eq_iff_iff->jp, not_eq_true'->jC, true_and->jN, not_true->Jq, true->An, false->Cd, cond_true->Ci, cond_false->Cj
open Nat renaming le_refl->jf, le_trans->Ja, zero_add->Jg, not_lt_zero->Jm
open List renaming length_append->jg, length_singleton->jh, getElem_mem->jm, length_map->jo, append_assoc->jv, take_succ_eq_append_getElem->jw, length_take->jy, getD_eq_getElem?_getD->jz, take_length->jH, not_mem_nil->jI, length_replicate->jJ, mem_append_left->jM, mem_cons->jQ, mem_append_right->jX, map_append->jY, append_nil->Jb, ext_getElem->Jo
open Int renaming toNat_natCast->jq, le_refl->jL, mul_nonneg->jS, mul_le_mul->Jf, add_zero->Jk
open Go.Fw.Ev renaming bind->Ck, succ->Cm, ff->Cp, tt->Cq, andP->Cu, now->Cx
open Go.Fw.PV renaming done->Cr
open Go.Fw.mt renaming get->Cs

namespace Go.Fw
open Go
set_option maxRecDepth 100000
theorem RA{n:Nat}{x lo hi:Int}:rW n x lo hi=V (!gu x lo hi):=by simp only[rW,gV,jd]
theorem kb{xs:List Int}{lo hi:Int}(d:xs.length<=1048576):Ev (λn=>eS n xs lo hi) (xs.all λx=>gu x lo hi):=by
 have b:Ev (λn=>cC n xs lo hi) (NF (λx=>!gu x lo hi) xs):=
  og (fin:=(xs.length:Int)) (Lf:=aW xs lo hi) (pf:=λ_ x=>V (!gu x lo hi)) (λ_ _=>.done)
   (λn=>by simp only[aW,qr (jf _),Cj])
   (λn j x a=>by
    have c:=(List.getElem?_eq_some_iff.1 a).1;simp only[aW,qp c,Ci,ra a,jd,RA,wS j])
   (λn=>by unfold cC;congr 1;funext o;cases o<;>rfl)
 unfold eS dQ;refine Ck (Ck b (Cx Z)) (Cx ?_);rw[DK,II]
def yN(xs:List Int)(j:Nat):Bool:=decide (j=0) || decide (bm xs (j-1)<bm xs j)
def KZ(xs:List Int):Bool:=bG (yN xs) xs.length
theorem BN{xs:List Int}(m:xs.length<=1048576):Ev (λn=>na n xs) (KZ xs):=by
 have g:Ev (λn=>dD xs n 1) (bif KZ xs then .nxt (max 1 xs.length:Int) else .ret Cd):=by
  by_cases b:xs.length=0
  .have k:KZ xs=An:=by unfold KZ;rw[b];rfl
   rw[k];refine Cm ?_;have:decide ((1:Int)<(xs.length:Int))=Cd:=by rw[b];decide
   simp only[dD,this,Cj];exact Cx (by rw[b];rfl)
  .have:=H8 (Lf:=dD xs) (len:=xs.length) (i0:=1) (f:=yN xs) (bad:=Cd) (fin:=.nxt (max 1 xs.length:Int)) (by omega)
    (Cm (by
     simp only[dD,qr (jf _),Cj];exact Cx (by congr 2;omega)))
    (λj l a X i=>Cm (by
     simp only[dD,qp a,Ci,wS j,show(j:Int)-1=((j-1:Nat):Int) by omega,qX (show -9223372036854775808<=((j-1:Nat):Int) by omega) (by omega),aM (show j-1<xs.length by omega),aM a,jd];unfold yN;by_cases c:bm xs (j-1)<bm xs j
     .have e1:decide (bm xs (j-1)>=bm xs j)=Cd:=by simp;omega
      rw[e1];simp only[c,decide_true,Bool.or_true,Ci,Cj];exact i
     .have e1:decide (bm xs (j-1)>=bm xs j)=An:=by simp;omega
      have d:decide (j=0)=Cd:=by simp;omega
      rw[e1,d];simp only[c,decide_false,Bool.or_self,Ci,Cj];exact .done))
   have e:bG (λj=>yN xs (1+j)) (xs.length-1)=KZ xs:=by
    unfold KZ;rw[jp,aA,aA];constructor
    .intro h j a;cases j with
     |zero=>rfl
     |succ j=>have:=h j (by omega);rwa [Nat.add_comm] at this
    .intro h j a;exact h (1+j) (by omega)
   rw[e] at this;exact this
 unfold na;refine Ck g ?_;cases KZ xs<;>exact .done
def zF{α:Type}(xs:List α)(lo hi:Nat):Bool:=decide (lo<=xs.length)&&decide (xs.length<=hi)
theorem UR{α:Type}{xs:List α}{lo hi:Nat}:gu (xs.length:Int) (lo:Int) (hi:Int)=zF xs lo hi:=by
 unfold gu zF;rw[jp];simp
def ug(xs:List Int):Bool:=zF xs 1 4&&((xs.all λx=>gu x 0 100000)&&KZ xs)
theorem SI{xs:List Int}(a:xs.length<=1048576):Ev (λn=>vY n xs) (ug xs):=by
 simp only[vY,dA,jd,gV,show gu (xs.length:Int) 1 4=zF xs 1 4 from UR (lo:=1) (hi:=4)];unfold ug;cases zF xs 1 4
 .exact .done
 .refine Cq Z (Ck (kb a) ?_);cases (xs.all λx=>gu x 0 100000)
  .exact .done
  .exact Cq Z (Ck (BN a) .done)
theorem PH{xs:List Int}(k:xs.length<=1048576):Ev (λn=>uN n xs) (ug xs):=by
 have i:Ev (λn=>kR xs n 0) (bif bG (λj=>gu (bm xs j) 0 100000&&yN xs j) xs.length then .nxt (xs.length:Int) else .ret Cd):=by
  refine ll ?_ (λj c X a=>Cm ?_)
  .exact Cm (by simp only[kR,qr (jf _),Cj];exact .done)
  .simp only[kR,qp c,Ci,aM c,jd,gC,wS j];cases gu (bm xs j) 0 100000
   .exact .done
   .simp only[Jq,Cj,jN];unfold yN;by_cases h:j=0
    .subst h;exact Cp (by decide) a
    .simp only[show(j:Int)-1=((j-1:Nat):Int) by omega,qX (show -9223372036854775808<=((j-1:Nat):Int) by omega) (by omega),aM (show j-1<xs.length by omega),jd];have f:decide (j=0)=Cd:=by simp;omega
     have g:decide ((j:Int) > 0)=An:=by simp;omega
     rw[f,g];simp only[Ci,Bool.false_or];by_cases b:bm xs (j-1)<bm xs j
     .have e1:decide (bm xs (j-1)>=bm xs j)=Cd:=by simp;omega
      rw[e1];simp only[b,decide_true,Ci,Cj];exact a
     .have e1:decide (bm xs (j-1)>=bm xs j)=An:=by simp;omega
      rw[e1];simp only[b,decide_false,Ci,Cj];exact .done
 have e:ug xs=(bG (λj=>gu (bm xs j) 0 100000&&yN xs j) xs.length&&zF xs 1 4):=by
  unfold ug KZ;rw[zi,pX (d:=0),Bool.and_comm]
  rfl
 rw[e];unfold uN;refine Ck i ?_;cases bG (λj=>gu (bm xs j) 0 100000&&yN xs j) xs.length
 .exact .done
 .simp only[Ci,CQ,HR,jN];exact Cx (by congr 1;unfold zF;rw[jp];simp;omega)
def tM(t:qU):Bool:=ug t.Bp&&(ug t.Bj&&(decide (t.Bg.length=t.Bp.length*t.Bj.length)&&(t.Bg.all λx=>gu x (-1000000) 1000000)))
theorem NZ{a b:Nat}(c:a<=1048576)(d:b<=1048576):qj ((a:Int)*(b:Int))=((a*b:Nat):Int):=by
 have h:a*b<=1048576*1048576:=Nat.mul_le_mul c d;have e:(a:Int)*(b:Int)=((a*b:Nat):Int):=by simp
 rw[e];exact qX (by omega) (by omega)
theorem A3{t:qU}(h:rn t):Ev (λn=>wT n t) (tM t):=by
 unfold wT tM;refine Ck (SI h.Bp.len) ?_;cases ug t.Bp
 .exact .done
 .refine Cq Z (Ck (SI h.Bj.len) ?_);cases ug t.Bj
  .exact .done
  .rw[NZ h.Bp.len h.Bj.len];have e:(((t.Bg.length:Nat):Int)==((t.Bp.length*t.Bj.length:Nat):Int))=decide (t.Bg.length=t.Bp.length*t.Bj.length):=by rw[jp];simp;omega
   rw[e];cases decide (t.Bg.length=t.Bp.length*t.Bj.length)
   .exact .done
   .exact Cq Z (Cq Z (Ck (kb h.Bg.len) .done))
theorem MQ{t:qU}(h:rn t):Ev (λn=>uM n t) (tM t):=by
 have f:=h.Bg.len;have c:Ev (λn=>mK t n 0) (bif (t.Bg.all λx=>gu x (-1000000) 1000000) then .nxt (t.Bg.length:Int) else .ret Cd):=
  xB (λn=>by simp only[mK,qr (jf _),Cj]) (λj a X d=>by
   simp only[mK,qp a,Ci,bZ a,jd,gC,wS j];cases gu t.Bg[j] (-1000000) 1000000
   .exact .done
   .exact d)
 unfold uM tM;refine Ck (b:=!(ug t.Bp&&(ug t.Bj&&decide (t.Bg.length=t.Bp.length*t.Bj.length)))) ?_ ?_
 .refine Ck (PH h.Bp.len) ?_;cases ug t.Bp
  .exact .done
  .refine Cp Z (Ck (PH h.Bj.len) ?_);cases ug t.Bj
   .exact .done
   .refine Cp Z (Cx ?_);rw[NZ h.Bp.len h.Bj.len]
    congr 1
    rw[jp];simp;omega
 .cases ug t.Bp
  .exact .done
  .cases ug t.Bj
   .exact .done
   .cases decide (t.Bg.length=t.Bp.length*t.Bj.length)
    .exact .done
    .refine Cp Z (Ck c ?_);cases (t.Bg.all λx=>gu x (-1000000) 1000000)<;>exact .done

instance:Inhabited bp:=⟨⟨ByteArray.empty,0,0,Cd⟩⟩
instance:Inhabited qU:=⟨⟨[],[],[]⟩⟩
instance:Inhabited bo:=⟨⟨0,0,0,0,[],[]⟩⟩
instance:Inhabited qQ:=⟨⟨ByteArray.empty,0,[],[],[],0,0⟩⟩
instance:Inhabited qO:=⟨⟨ByteArray.empty,0,[]⟩⟩
instance:Inhabited bq:=⟨⟨ByteArray.empty,0,0⟩⟩
instance:Inhabited aR:=⟨⟨[],[],[],[]⟩⟩
theorem K8{j m:Nat}(h:j<m)(a:m<=1048576):((j:Int)==qj ((m:Int)-1))=decide (j+1=m):=by
 rcases qbZ h with h|h
 .exact h
 .omega
theorem xx{α:Type}[Inhabited α]{xs:List α}{g:α->ByteArray}{j:Nat}(h:j<xs.length):yO (xs.map g) j=g (gt xs j):=by
 rw[KE (by simpa using h),fd h];simp
theorem FA{α:Type}{xs:List α}{g:α->ByteArray}{ok:α->Prop}(h:wh ok xs)(a:∀x,ok x->OA (g x)):wh OA (xs.map g):=
 ⟨by rw[jo];exact h.1,λy c=>by
  obtain⟨x,b,rfl⟩:=List.mem_map.1 c;exact a x (h.2 x b)⟩
theorem zj{α β:Type}{xs:List α}{g:α->β}{j:Nat}(h:j<xs.length)(a:xs.length<=1048576){y:β}:df ((xs.take j).map g) [y]=V ((xs.take j).map g++[y]):=
 eG (by simp;omega)
def pinB(ps:List bp)(j:Nat):Bool:=
 bif decide (j+1=ps.length) then((gt ps j).Bx==2)&&(((gt ps j).Bs==0)&&!(gt ps j).Bt) else((gt ps j).Bx==1)&&gu (gt ps j).Bs 0 500
def yx(ps:List bp):Bool:=bG (pinB ps) ps.length&&(zF ps 2 5&&ol (ps.map bp.Bi))
def yR(ps:List bp)(j:Nat):Nat:=gr (λi=>(gt ps i).Bt) j
theorem B3{ps:List bp}(h:wh BA ps):Ev (λn=>wU n ps) (yx ps):=by
 have i:=h.len;have l:Ev (λn=>gY ps n ([]:List ByteArray) 0) (bif bG (pinB ps) ps.length then .nxt (ps.map bp.Bi,(ps.length:Int)) else .ret Cd):=by
  refine SQ (Lf:=gY ps) (S:=λj=>(ps.take j).map bp.Bi) (pinB ps) (λn=>?_) (λj a o X f=>?_)
  .simp only[gY,qr (jf _),Cj,jH]
  .simp only[gY,qp a,Ci,qz a,jd,zj a i,ph (g:=bp.Bi) a,K8 a i,bne,iu,gV,wS j];generalize hc:pinB ps j=c at f⊢;unfold pinB at hc;cases hd:decide (j+1=ps.length)
   .rw[hd] at hc;simp only[Cj] at hc⊢;subst hc;exact Ev.okP (λb=>Ev.okP1 (λd=>f (by rw[b,d];rfl)))
   .rw[hd] at hc;simp only[Ci] at hc⊢;subst hc;refine Ev.okP (λb=>Ev.okP (λd=>Ev.chkP1 (λk=>f (by rw[b,d,k];rfl))))
 unfold wU yx;refine Ck l ?_;cases bG (pinB ps) ps.length
 .exact .done
 .simp only[Ci,fX,gV,jd,show gu (ps.length:Int) 2 5=zF ps 2 5 from UR (lo:=2) (hi:=5),jN];exact Cu (λ_=>Ev.last (vQ (FA h (λx m=>m.Bi))))
def pinS(ps:List bp)(j:Nat):Bool:=bG (SU (ps.map bp.Bi) j) j&&((tU (gt ps j).Bi&&gu (gt ps j).Bs 0 500)&&(bif decide (j+1=ps.length) then((gt ps j).Bx==2)&&(((gt ps j).Bs==0)&&!(gt ps j).Bt) else((gt ps j).Bx==1)))
theorem qci{ps:List bp}:(zF ps 2 5&&bG (pinS ps) ps.length)=yx ps:=by
 have e:ol (ps.map bp.Bi)=bG (λj=>tU (gt ps j).Bi&&bG (SU (ps.map bp.Bi) j) j) ps.length:=by
  unfold ol;rw[jo];exact tE (λj a=>by rw[xx a])
 unfold yx;rw[e,<-Bool.and_assoc,Bool.and_comm (bG (pinB ps) ps.length),Bool.and_assoc,<-zi]
 congr 1
 refine tE (λj a=>?_);unfold pinS pinB;cases hd:decide (j+1=ps.length)
 .simp only[Cj];cases bG (SU (ps.map bp.Bi) j) j<;>cases tU (gt ps j).Bi<;>cases gu (gt ps j).Bs 0 500<;>cases ((gt ps j).Bx==1)<;>rfl
 .simp only[Ci];cases hcap:((gt ps j).Bs==0)
  .simp
  .have:gu (gt ps j).Bs 0 500=An:=by rw[beq_iff_eq] at hcap;rw[hcap];rfl
   rw[this];cases bG (SU (ps.map bp.Bi) j) j<;>cases tU (gt ps j).Bi<;>cases ((gt ps j).Bx==2)<;>cases (gt ps j).Bt<;>rfl
theorem D5{c:qQ}(h:wh BA c.Bh):Ev (λn=>xh n c) (bif yx c.Bh then(((yR c.Bh c.Bh.length:Nat):Int),An) else(0,Cd)):=by
 have s:=h.len;have l:∀j,j<c.Bh.length->Ev (λn=>mO c (j:Int) (gt c.Bh j) n 0) (bif bG (SU (c.Bh.map bp.Bi) j) j then .nxt (j:Int) else .ret (0,Cd)):=by
  intro j b;refine ll ?_ (λi hi X a=>Cm ?_)
  .exact Cm (by simp only[mO,qr (jf _),Cj];exact .done)
  .simp only[mO,qp hi,Ci,qz (show i<c.Bh.length by omega),jd,th,wS i];unfold SU;rw[xx (g:=bp.Bi) (show i<c.Bh.length by omega),xx (g:=bp.Bi) b];exact Ev.chkP1 (λ_=>a)
 have k:Ev (λn=>ii c n 0 0) (bif bG (pinS c.Bh) c.Bh.length then .nxt (((yR c.Bh c.Bh.length:Nat):Int),(c.Bh.length:Int)) else .ret (0,Cd)):=by
  refine SQ (Lf:=ii c) (S:=λj=>((yR c.Bh j:Nat):Int)) (pinS c.Bh) (λn=>?_) (λj b u X a=>?_)
  .simp only[ii,qr (jf _),Cj]
  .have t:yR c.Bh j<=j:=oE;have d:((j:Int)==qj ((c.Bh.length:Int)-1))=decide (j+1=c.Bh.length):=K8 b s;have f:decide ((j:Int)<qj ((c.Bh.length:Int)-1)) = !decide (j+1=c.Bh.length):=by
    rw[qX (by omega) (by omega),jp];simp;omega
   simp only[ii,qp b,Ci,qz b,jd,wS j,ti (show yR c.Bh j<9223372036854775807 by omega),d,f,gC];unfold pinS;refine Ck (l j b) ?_;cases ha:bG (SU (c.Bh.map bp.Bi) j) j
   .exact .done
   .simp only[Ci,jN];refine Ev.chkT ?_ (λo=>?_)
    .exact Ev.or (AR (CY h b).Bi) (λ_=>.done)
    .refine Ev.chkT1 ?_ (λr=>?_)
     .cases decide (j+1=c.Bh.length)
      .exact .done
      .simp only[Ci,Jq,Cj,bne,iu];cases ((gt c.Bh j).Bx==2)<;>cases ((gt c.Bh j).Bs==0)<;>cases (gt c.Bh j).Bt<;>exact .done
     .have a:=a (by unfold pinS;rw[ha,o,r];rfl);have m:yR c.Bh (j+1)=yR c.Bh j+(bif (gt c.Bh j).Bt then 1 else 0):=rfl;rw[m] at a;cases hc:(gt c.Bh j).Bt
      .rw[hc] at a;exact Cp Z a
      .rw[hc] at a;exact Cq Z a
 rw[<-qci];unfold xh;refine Ev.guard ?_ (λo=>?_)
 .unfold zF;have e1:decide ((c.Bh.length:Int)<2) = !decide (2<=c.Bh.length):=by rw[jp];simp;omega
  have p:decide ((c.Bh.length:Int) > 5) = !decide (c.Bh.length<=5):=by rw[jp];simp;omega
  rw[e1,p];cases decide (2<=c.Bh.length)<;>cases decide (c.Bh.length<=5)<;>exact .done
 .refine Ck k ?_;cases bG (pinS c.Bh) c.Bh.length<;>exact .done
def qdz(xs:List Int):Int:=(xs.drop 1).foldl (λm y=>if y<m then y else m) (bm xs 0)
def qe7(xs:List Int):Int:=(xs.drop 1).foldl (λm y=>if y > m then y else m) (bm xs 0)
theorem QN{t:qU}(h:tM t=An):1<=t.Bg.length:=by
 unfold tM ug zF at h;simp only[je,decide_eq_true_eq] at h;obtain⟨⟨⟨a,_⟩,_⟩,⟨⟨b,_⟩,_⟩,c,_⟩:=h;rw[c];exact Nat.mul_pos a b
theorem qct{xs:List Int}(b:1<=xs.length)(f:xs.length<=1048576):Ev (λn=>sg n xs) (qdz xs):=by
 have c:=(KU (Lf:=λn t j=>gP xs n t j) (xs:=xs) (step:=λ(m y:Int)=>if y<m then y else m) (fin:=λt=>(t,(xs.length:Int))) 1 (bm xs 0) (λ_ _=>True) b trivial (λ_ _ _ _=>trivial)
  (λn t=>by simp only[gP,qr (jf _),Cj])
  (λj t a _ X d=>by simpa only[gP,qp a,Ci,bZ a,jd,wS j] using d)).1
 unfold sg;rw[show decide ((xs.length:Int)<1)=Cd by simp;omega,show qG xs (0:Int)=V (bm xs 0) from aM (j:=0) (by omega)];simp only[Cj,jd];exact Ck c .done
theorem G3{t:qU}(h:rn t):Ev (λn=>sj n t) (bif tM t then(⟨qdz t.Bg,qe7 t.Bg⟩,0) else(⟨0,0⟩,1)):=by
 unfold sj;refine Ev.chk1 (MQ h) (λk=>?_);have g:=QN k;have o:=h.Bg.len;have d:=(KU (Lf:=λn (c:Int×Int) j=>gQ t n c.1 c.2 j) (xs:=t.Bg) (step:=λ(m:Int×Int) y=>(if y<m.1 then y else m.1,if y > m.2 then y else m.2)) (fin:=λc=>(c.1,c.2,(t.Bg.length:Int))) 1 (bm t.Bg 0,bm t.Bg 0) (λ_ _=>True) g trivial (λ_ _ _ _=>trivial)
  (λn t=>by simp only[gQ,qr (jf _),Cj])
  (λj t f _ X i=>by simpa only[gQ,qp f,Ci,bZ f,jd,wS j] using i)).1
 have l:∀(ys:List Int) (a b:Int),ys.foldl (λ(m:Int×Int) y=>(if y<m.1 then y else m.1,if y > m.2 then y else m.2)) (a,b)=(ys.foldl (λm y=>if y<m then y else m) a,ys.foldl (λm y=>if y > m then y else m) b):=by
  intro ys
  induction ys with
  |nil=>intro a b;rfl
  |cons y ys ih=>intro a b;simp only[List.foldl_cons,ih]
 rw[l] at d;rw[show qG t.Bg (0:Int)=V (bm t.Bg 0) from aM (j:=0) (by omega)];simp only[jd];exact Ck d .done
def G4(pos:Bool)(t:qU):Bool:=tM t&&(!pos || decide (0<=qdz t.Bg))
def nT(a:List qU)(pos:Bool):Bool:=decide (a.length=2)&&a.all (G4 pos)
theorem AJ{a:List qU}{pos:Bool}(h:wh rn a):Ev (λn=>od n a pos) (nT a pos):=by
 have g:=h.len;have c:Ev (λn=>bS n a pos) (NF (λx=>!G4 pos x) a):=
  og (fin:=(a.length:Int)) (Lf:=ay a pos) (pf:=λn x=>rV n x pos) (λx b=>by
    unfold rV G4;refine Ev.or (A3 (h.2 x b)) (λd=>?_);cases pos
    .exact .done
    .refine Cq Z (Ck (qct (QN d) (h.2 x b).Bg.len) (Cx ?_))
     congr 1
     rw[jp];simp)
   (λn=>by simp only[ay,qr (jf _),Cj])
   (λn j x b=>by
    have f:=(List.getElem?_eq_some_iff.1 b).1;simp only[ay,qp f,Ci,ra b,jd,wS j])
   (λn=>by unfold bS;congr 1;funext o;cases o<;>rfl)
 unfold od cM nT;rw[show((a.length:Int)==2)=decide (a.length=2) by rw[jp];simp;omega];refine Cu (λ_=>Ck (Ck c (Cx Z)) (Cx ?_));rw[DK,II]
theorem uB{a:List qU}{pos:Bool}(h:wh rn a):Ev (λn=>ku n a pos) (nT a pos):=by
 unfold ku nT;rw[show((a.length:Int) != 2) = !decide (a.length=2) by rw[jp];simp;omega];simp only[iu];refine Cu (λb=>?_);have b:a.length=2:=by simpa using b
 have f:Ev (λn=>gG a pos n 0) (bif bG (λj=>G4 pos (gt a j)) a.length then .nxt (2:Int) else .ret Cd):=by
  refine ll (len:=a.length) ?_ (λj d X c=>Cm ?_)
  .rw[b];exact Cm (by simp only[gG];exact .done)
  .simp only[gG,show decide ((j:Int)<2)=An by simp;omega,Ci,qz d,jd,wS j];refine Ck (G3 (CY h d)) ?_;unfold G4;cases tM (gt a j)
   .exact .done
   .simp only[Ci,jN];refine Cp Z ?_;cases pos
    .exact c
    .refine Cq Z ?_;rw[show decide (qdz (gt a j).Bg<0) = !decide (0<=qdz (gt a j).Bg) by rw[jp];simp];simp only[iu];exact Ev.okP1 (λ_=>c)
 rw[ue];refine Ck f ?_;cases bG (λj=>G4 pos (gt a j)) a.length<;>exact .done

theorem kJ{α:Type}[Inhabited α]{xs:List α}{x:Int}(a:0<=x)(b:x<xs.length):qG xs x=V (gt xs x.toNat):=by
  have:=qz (xs:=xs) (j:=x.toNat) (by omega);rwa [<-fB a] at this
theorem RY{q:Nat->Bool}{m n:Nat}(h:m<=n):gr q m<=gr q n:=by
  induction n with
  |zero=>
    obtain rfl:m=0:=by omega
    exact jf _
  |succ n ih=>
    rcases Nat.lt_or_eq_of_le h with h|rfl
    · exact Ja (ih (by omega)) (Nat.le_add_right _ _)
    · exact jf _
theorem EZ{m k:Nat}:decide ((m:Int)<=(k:Int))=decide (m<=k):=by rw[jp];simp
theorem XD{q:Nat->Bool}{n i j:Nat}(hi:i<j)(d:j<n)(a:q i=An)(b:q j=An):2<=gr q n:=by
  have e1:gr q (i+1)=gr q i+1:=by rw[gr,a];rfl
  have c:gr q (j+1)=gr q j+1:=by rw[gr,b];rfl
  have f:=RY (q:=q) (show i+1<=j by omega);have g:=RY (q:=q) (show j+1<=n by omega);omega
theorem XB{q:Nat->Bool}{n i j:Nat}(d:gr q n<=1)(hi:i<n)(c:j<n)(a:q i=An)(b:q j=An):i=j:=by
  rcases Nat.lt_trichotomy i j with h|h|h
  · have:=XD h c a b;omega
  · exact h
  · have:=XD h hi b a;omega
def WY(ps:List bp):Int:=NF (λp=>p.Bt) ps
def BL(ps:List bp)(x:Int):Bool:=(gt ps x.toNat).Bt
theorem Z6{c:qQ}(f:c.Bh.length<=1048576):Ev (λn=>tk n c) (WY c.Bh):=by
  unfold tk;refine Ck (b:=WY c.Bh) ?_ .done;exact og (fin:=(c.Bh.length:Int)) (Lf:=aG c.Bh) (pf:=λn x=>ul n x) (λ_ _=>.done)
    (λn=>by simp only[aG,qr (jf _),Cj])
    (λn j x a=>by
      have d:=(List.getElem?_eq_some_iff.1 a).1;simp only[aG,qp d,Ci,ra a,jd,wS j])
    (λn=>by unfold dC;congr 1;funext o;cases o<;>rfl)
def WP(ps:List bp)(a:bo):Bool:=
  bif (a.Bf==4) || (a.Bf==5) then
    (a.Br==0)&&(((a.Ba.length:Int)==0)&&(nT a.Bq Cd&&((a.Bm==WY ps)&&(decide (a.Bm>=0)&&(gu a.To 0 (ps.length-2)&&!(a.To==a.Bm))))))
  else
    (nT a.Bq An&&(nT a.Ba An&&((a.To==(ps.length:Int)-1)&&gu a.Bm 0 (ps.length-2)))) &&
      (bif a.Bf==1 then !BL ps a.Bm&&gu a.Br 1 3 else(bif (a.Bf==2) || (a.Bf==3) then BL ps a.Bm&&(a.Br==0) else Cd))
def CO(ps:List bp)(a:bo):Bool:=
  (gu a.Bm 0 (ps.length-2)&&gu a.To 0 (ps.length-1)) &&
    (bif a.Bf==1 then !BL ps a.Bm&&((a.To==(ps.length:Int)-1)&&(gu a.Br 1 3&&(nT a.Bq An&&nT a.Ba An)))
     else(bif (a.Bf==2) || (a.Bf==3) then BL ps a.Bm&&((a.To==(ps.length:Int)-1)&&((a.Br==0)&&(nT a.Bq An&&nT a.Ba An)))
     else(bif (a.Bf==4) || (a.Bf==5) then BL ps a.Bm&&(decide (a.To<(ps.length:Int)-1)&&(!BL ps a.To&&((a.Br==0)&&(nT a.Bq Cd&&((a.Ba.length:Int)==0))))) else Cd)))
theorem MG{c d:Bool}:(bif c then V c else V d)=V (c || d):=by cases c<;>rfl
theorem WU{c d:Bool}:(bif c then V An else V d)=V (c || d):=by cases c<;>rfl
theorem D3{n:Nat}{k:Int}:wV n k=V ((k==4) || (k==5)):=by simp only[wV,WU]
theorem qat{c:qQ}{a:bo}(h:wh BA c.Bh)(b:yY a)(k:2<=c.Bh.length):Ev (λn=>tn n c a) (WP c.Bh a):=by
  have i:=h.len;have e1:qj ((c.Bh.length:Int)-1)=(c.Bh.length:Int)-1:=nD (by omega);have f:qj ((c.Bh.length:Int)-1-1)=(c.Bh.length:Int)-2:=by rw[qX (by omega) (by omega)];omega
  simp only[tn,D3,jd,pH,lD,fX,e1,f,gV,MG,bne];unfold WP;refine Ev.iff (λ_=>Ev.last ?_) (λ_=>Ev.guardB ?_ (λd=>?_))
  · exact Cu λ_=>Cu λ_=>Ev.and (AJ b.Bq) λ_=>Ck (Z6 i) (Cu λ_=>Cu λ_=>Cu λ_=>.done)
  · refine Ev.or (AJ b.Bq) λ_=>Ev.or (AJ b.Ba) λ_=>?_
    simp only[iu];exact Ev.orBP λ_=>.done
  · have g:0<=a.Bm/\a.Bm<=(c.Bh.length:Int)-2:=by
      simp only[je,cu] at d;exact d.2.2.2
    simp only[kJ g.1 (show a.Bm<(c.Bh.length:Int) by omega),jd];exact Ev.iff (λ_=>Cu λ_=>.done) (λ_=>Ev.iff (λ_=>Cu λ_=>.done) (λ_=>.done))
theorem Q2{c:qQ}{a:bo}(h:wh BA c.Bh)(b:yY a)(k:2<=c.Bh.length):Ev (λn=>yF n c a) (CO c.Bh a):=by
  have i:=h.len;have e1:qj ((c.Bh.length:Int)-1)=(c.Bh.length:Int)-1:=nD (by omega);have g:qj ((c.Bh.length:Int)-1-1)=(c.Bh.length:Int)-2:=by rw[qX (by omega) (by omega)];omega
  simp only[yF,jd,e1,g,gC,MG];unfold CO;refine Ev.guardB ?_ (λd=>?_)
  · simp only[iu]
    exact Ev.orBP λ_=>.done
  · have f:(0<=a.Bm/\a.Bm<=(c.Bh.length:Int)-2)/\(0<=a.To/\a.To<=(c.Bh.length:Int)-1):=by
      simp only[je,cu] at d;exact d
    simp only[kJ f.1.1 (show a.Bm<(c.Bh.length:Int) by omega),kJ f.2.1 (show a.To<(c.Bh.length:Int) by omega),jd];refine Ev.iff (λ_=>?_) (λ_=>Ev.iff (λ_=>?_) (λ_=>Ev.iff (λ_=>?_) (λ_=>.done)))
    · exact Cu λ_=>Cu λ_=>Cu λ_=>Ev.and (uB b.Bq) λ_=>Ev.last (uB b.Ba)
    · exact Cu λ_=>Cu λ_=>Cu λ_=>Ev.and (uB b.Bq) λ_=>Ev.last (uB b.Ba)
    · exact Cu λ_=>Cu λ_=>Cu λ_=>Cu λ_=>Ev.and (uB b.Bq) λ_=>.done
theorem KP{ps:List bp}(f:yR ps ps.length<=1){x:Int}(k:0<=x):WY ps=x↔x<ps.length/\BL ps x=An:=by
  unfold WY NF;cases hf:ps.findIdx? (λp=>p.Bt) with
  |some j=>
    obtain⟨d,i,_⟩:=List.findIdx?_eq_some_iff_getElem.1 hf;have b:(gt ps j).Bt=An:=by rw[fd d];exact i
    constructor
    · intro e
      have e:(j:Int)=x:=e;subst e;exact⟨by omega,by unfold BL;rw[jq];exact b⟩
    · rintro⟨g,a⟩
      have:=XB f d (show x.toNat<ps.length by omega) b a;show(j:Int)=x;omega
  |none=>
    have h:=List.findIdx?_eq_none_iff.1 hf;constructor
    · intro e
      have e:(-1:Int)=x:=e;omega
    · rintro⟨g,a⟩
      have c:x.toNat<ps.length:=by omega
      unfold BL at a;rw[fd c] at a;have:=h _ (jm c);rw[a] at this;exact absurd this (by decide)
theorem rq{ps:List bp}(h:yx ps=An):(2<=ps.length/\ps.length<=5)/\BL ps ((ps.length:Int)-1)=Cd:=by
  unfold yx zF at h;simp only[je,decide_eq_true_eq] at h;refine⟨h.2.1,?_⟩;have a:=aA.1 h.1 (ps.length-1) (by omega);unfold pinB at a;rw[show decide (ps.length-1+1=ps.length)=An by simp;omega] at a;simp only[Ci,je,jC] at a;unfold BL;rw[show((ps.length:Int)-1).toNat=ps.length-1 by omega];exact a.2.2
theorem Y3{ps:List bp}{a:bo}(h:yx ps=An)(b:yR ps ps.length<=1):WP ps a=CO ps a:=by
  obtain⟨⟨D,z⟩,l⟩:=rq h;rw[jp];unfold WP CO;cases h45:((a.Bf==4) || (a.Bf==5)) with
  |true=>
    have B:(a.Bf==1)=Cd:=by simp at h45⊢;omega
    have u:((a.Bf==2) || (a.Bf==3))=Cd:=by simp at h45⊢;omega
    rw[B,u];simp only[Ci,Cj,je,cu,decide_eq_true_eq,beq_iff_eq,jC,beq_eq_false_iff_ne,ne_eq];constructor
    · rintro⟨t,m,s,p,o,r,A⟩
      obtain⟨C,n⟩:=(KP b o).1 p.symm;have x:a.Bm≠(ps.length:Int)-1:=by intro e;rw[e,l] at n;cases n
      refine⟨⟨⟨o,by omega⟩,⟨r.1,by omega⟩⟩,n,by omega,?_,t,s,m⟩;cases c:BL ps a.To with
      |false=>rfl
      |true=>
        have:=(KP b r.1).2 ⟨by omega,c⟩;omega
    · rintro⟨⟨p,r⟩,n,y,c,t,s,m⟩
      have:=(KP b p.1).2 ⟨by omega,n⟩;refine⟨t,m,s,this.symm,p.1,⟨r.1,by omega⟩,?_⟩;intro e;rw[e,n] at c;cases c
  |false=>
    simp only[Cj,je,cu,beq_iff_eq];cases (a.Bf==1)
    · cases ((a.Bf==2) || (a.Bf==3))
      · simp
      · simp only[Ci,Cj,je,beq_iff_eq]
        constructor
        · rintro⟨⟨b,d,f,g⟩,i,k⟩
          exact⟨⟨g,by omega⟩,i,f,k,b,d⟩
        · rintro⟨⟨g,v⟩,i,f,k,b,d⟩
          exact⟨⟨b,d,f,g⟩,i,k⟩
    · simp only[Ci,je,cu,jC,beq_iff_eq]
      constructor
      · rintro⟨⟨b,d,f,g⟩,i,k⟩
        exact⟨⟨g,by omega⟩,i,f,k,b,d⟩
      · rintro⟨⟨g,v⟩,i,f,k,b,d⟩
        exact⟨⟨b,d,f,g⟩,i,k⟩
theorem RW{ps:List bp}{a:bo}(h:CO ps a=An):1<=a.Bf/\a.Bf<=5:=by
  unfold CO at h;rw[je] at h;have h:=h.2;cases h1:(a.Bf==1)
  · cases h2:((a.Bf==2) || (a.Bf==3))
    · cases h4:((a.Bf==4) || (a.Bf==5))
      · rw[h1,h2,h4] at h;cases h
      · simp at h4;omega
    · simp at h2;omega
  · simp at h1;omega
def IX(x y:bo):Bool:=(x.Bf==y.Bf)&&((x.Bm==y.Bm)&&(x.To==y.To))
def yX(ar:List bo)(j:Nat):Bool:=bG (λi=>!IX (gt ar i) (gt ar j)) j
theorem A9{c:qQ}(h:wh BA c.Bh)(d:wh yY c.Av)(m:2<=c.Bh.length):Ev (λn=>pG n c) (bG (λj=>WP c.Bh (gt c.Av j)&&yX c.Av j) c.Av.length&&decide (c.Av.length<=8)):=by
  have l:=d.len;have g:∀(ar:List bo) (y:bo),ar.length<=1048576->Ev (λn=>bH n ar y) (ar.any λx=>IX x y):=by
    intro ar y l;unfold bH;refine Ck (b:=NF (λx=>IX x y) ar) (og (fin:=(ar.length:Int)) (Lf:=ao ar y) (pf:=λn x=>nQ n x y) (λx _=>?_)
      (λn=>by simp only[ao,qr (jf _),Cj])
      (λn j x f=>by
        have a:=(List.getElem?_eq_some_iff.1 f).1;simp only[ao,qp a,Ci,ra f,jd,wS j])
      (λn=>by unfold cV;congr 1;funext o;cases o<;>rfl)) (Cx (by rw[DK]))
    unfold nQ IX;exact Cu λ_=>Cu λ_=>.done
  have i:Ev (λn=>fV c n 0) (bif bG (λj=>WP c.Bh (gt c.Av j)&&yX c.Av j) c.Av.length then .nxt (c.Av.length:Int) else .ret Cd):=by
    refine ll ?_ (λj a X k=>Cm ?_)
    · exact Cm (by simp only[fV,qr (jf _),Cj];exact .done)
    · simp only[fV,qp a,Ci,qz a,jd,MC (Nat.le_of_lt a),wS j]
      refine Ev.chk (qat h (CY d a) m) λ_=>Ev.chkT1 ?_ (λ_=>k);refine(g _ _ (by simp;omega)).cast ?_;rw[W9 (Nat.le_of_lt a)];rfl
  unfold pG;refine Ck i ?_;cases bG (λj=>WP c.Bh (gt c.Av j)&&yX c.Av j) c.Av.length
  · exact .done
  · refine Cx ?_
    show V (decide ((c.Av.length:Int)<=((8:Nat):Int)))=V (An&&decide (c.Av.length<=8));rw[EZ,jN]
def FM(ar:List bo)(k:Int):Bool:=ar.any λa=>a.Bf==k
theorem KV{c:qQ}{k:Int}(f:c.Av.length<=1048576):Ev (λn=>kf n c k) (FM c.Av k):=by
  unfold kf dx;exact Ev.last (Ck (b:=NF (λx=>x.Bf==k) c.Av) (og (fin:=(c.Av.length:Int)) (Lf:=aN c.Av k) (pf:=λn x=>wz n x k) (λx _=>.done)
      (λn=>by simp only[aN,qr (jf _),Cj])
      (λn j x a=>by
        have d:=(List.getElem?_eq_some_iff.1 a).1;simp only[aN,qp d,Ci,ra a,jd,wS j])
      (λn=>by unfold dT;congr 1;funext o;cases o<;>rfl)) (Cx (by rw[DK];rfl)))
def tQ(ar:List bo)(k:Nat)(j:Nat):Nat:=gr (λi=>(gt ar i).Bf==(k:Int)) j
theorem SM{ar:List bo}{k:Nat}:decide (((tQ ar k ar.length:Nat):Int) > 0)=FM ar k:=by
  rw[show decide (((tQ ar k ar.length:Nat):Int) > 0)=decide (0<tQ ar k ar.length) by simp];unfold tQ FM;rw[XC,A7]
theorem D4{ar:List bo}{k:Nat}:(((tQ ar k ar.length:Nat):Int)==0) = !FM ar k:=by
  rw[<-SM,jp];simp
theorem XY{c:qQ}(g:wh yY c.Av)(h:∀j,j<c.Av.length->1<=(gt c.Av j).Bf/\(gt c.Av j).Bf<=5):Ev (λn=>vL n c) (io (λk=>tQ c.Av k c.Av.length) 6):=by
  have o:=g.len;have d:Ev (λn=>iL c n (io (λ_=>0) 6) 0) (io (λk=>tQ c.Av k c.Av.length) 6,(c.Av.length:Int)):=by
    refine fq (Lf:=iL c) (S:=λj=>io (λk=>tQ c.Av k j) 6) (len:=c.Av.length) (λn=>?_) (λj a X f=>?_)
    · simp only[iL,qr (jf _),Cj]
    · obtain⟨p,r⟩:=h j a
      have b:(gt c.Av j).Bf=(((gt c.Av j).Bf.toNat:Nat):Int):=fB (by omega);have l:tQ c.Av (gt c.Av j).Bf.toNat j<=j:=oE;simp only[iL,qp a,Ci,qz a,jd,wS j];rw[b,xY (show(gt c.Av j).Bf.toNat<6 by omega)];simp only[jd];rw[TO (c:=λk=>tQ c.Av k j) (by show tQ c.Av _ j<_;omega)];have:io (λi=>tQ c.Av i j+(bif decide ((gt c.Av j).Bf.toNat=i) then 1 else 0)) 6=io (λk=>tQ c.Av k (j+1)) 6:=by
        refine xX (λk _=>?_);show _=tQ c.Av k j+(bif (gt c.Av j).Bf==(k:Int) then 1 else 0)
        congr 2
        rw[jp];simp;omega
      rw[this];exact f
  unfold vL;rw[show yW 6 (0:Int)=V (io (λ_=>0) 6) from FI (m:=6) (by omega)];simp only[jd];exact Ck d .done
def ML(c:qQ):Bool:=
  bif c.Bf==1 then(((yR c.Bh c.Bh.length:Nat):Int)==0)&&(((c.Bu.length:Int)==((2 ^ (c.Bh.length-1):Nat):Int))&&(c.Bu.all λx=>gu x 0 1))
  else bif c.Bf==2 then(((yR c.Bh c.Bh.length:Nat):Int)==1)&&(((c.Bu.length:Int)==0)&&(!FM c.Av 1&&!(FM c.Av 2==FM c.Av 3)))
  else bif c.Bf==3 then(((yR c.Bh c.Bh.length:Nat):Int)==1)&&(((c.Bu.length:Int)==0)&&(FM c.Av 1&&(FM c.Av 2&&!FM c.Av 3)))
  else Cd
theorem SL{c:qQ}(h:ML c=An):yR c.Bh c.Bh.length<=1:=by
  unfold ML at h;cases h1:(c.Bf==1)
  · cases h2:(c.Bf==2)
    · cases h3:(c.Bf==3)
      · rw[h1,h2,h3] at h;cases h
      · rw[h1,h2,h3] at h
        simp only[Ci,Cj,je,beq_iff_eq] at h;omega
    · rw[h1,h2] at h
      simp only[Ci,Cj,je,beq_iff_eq] at h;omega
  · rw[h1] at h
    simp only[Ci,je,beq_iff_eq] at h;omega
theorem YZ{m:Nat}(a:2<=m)(b:m<=5):F6 1 (qj ((m:Int)-1))=V ((2 ^ (m-1):Nat):Int)/\F6 1 (IntKind.wrap .u64 (qj ((m:Int)-1)))=V ((2 ^ (m-1):Nat):Int):=by
  have:m=2\/m=3\/m=4\/m=5:=by omega
  rcases this with rfl|rfl|rfl|rfl<;>exact⟨by decide,by decide⟩
theorem XW{c:qQ}(b:FB c)(k:2<=c.Bh.length)(g:c.Bh.length<=5):Ev (λn=>oH n c) (ML c):=by
  have l:=b.Bh.len;have i:Ev (λn=>cX c n 0 0) (((yR c.Bh c.Bh.length:Nat):Int),(c.Bh.length:Int)):=by
    refine fq (Lf:=cX c) (S:=λj=>((yR c.Bh j:Nat):Int)) (len:=c.Bh.length) (λn=>?_) (λj h X d=>?_)
    · simp only[cX,qr (jf _),Cj]
    · have m:yR c.Bh j<=j:=oE
      simp only[cX,qp h,Ci,qz h,jd,wS j,ti (show yR c.Bh j<9223372036854775807 by omega)];have f:yR c.Bh (j+1)=yR c.Bh j+(bif (gt c.Bh j).Bt then 1 else 0):=rfl;rw[f] at d;cases b:(gt c.Bh j).Bt
      · rw[b] at d;exact Cp Z d
      · rw[b] at d;exact Cq Z d
  unfold oH ML;refine Ck i ?_;simp only[lD,fX,jd,(YZ k g).1];have a:=b.Av.len;refine Ev.iff (λ_=>?_) (λ_=>Ev.iff (λ_=>?_) (λ_=>Ev.iff (λ_=>?_) (λ_=>.done)))
  · exact Cu λ_=>Cu λ_=>Ev.last (kb b.Bu.len)
  · exact Cu λ_=>Cu λ_=>Ck (KV a) (Cu λ_=>Ck (KV a) (Ck (KV a) .done))
  · exact Cu λ_=>Cu λ_=>Ev.and (KV a) λ_=>Ev.and (KV a) λ_=>Ck (KV a) .done
def sC(c:qQ):Bool:=
  tU c.Bi&&(yx c.Bh&&((bG (λj=>WP c.Bh (gt c.Av j)&&yX c.Av j) c.Av.length&&decide (c.Av.length<=8))&&(gu c.Cc 0 100000&&(gu c.Bz 0 100000&&ML c))))
theorem O0{c:qQ}(a:FB c):Ev (λn=>ym n c) (sC c):=by
  simp only[ym,LB a.Bi,gV,jd];unfold sC;refine Cu λ_=>Ev.and (B3 a.Bh) λf=>?_;obtain⟨⟨d,b⟩,_⟩:=rq f;exact Ev.and (A9 a.Bh a.Av d) λ_=>Cu λ_=>Cu λ_=>Ev.last (XW a d b)
theorem F2{c:qQ}(d:FB c):Ev (λn=>yC n c) (sC c):=by
  have p:=d.Av.len;have r:=d.Bu.len;have e:sC c=((yx c.Bh&&(tU c.Bi&&(decide (c.Av.length<=8)&&(gu c.Cc 0 100000&&gu c.Bz 0 100000))))&&(bG (λj=>CO c.Bh (gt c.Av j)&&yX c.Av j) c.Av.length&&ML c)):=by
    unfold sC;cases l:ML c
    · simp
    · cases hp:yx c.Bh
      · simp
      · rw[tE (λj _=>by rw[Y3 hp (SL l)])]
        cases tU c.Bi<;>cases bG (λj=>CO c.Bh (gt c.Av j)&&yX c.Av j) c.Av.length<;>cases decide (c.Av.length<=8)<;>cases gu c.Cc 0 100000<;>cases gu c.Bz 0 100000<;>rfl
  rw[e];unfold yC;refine Ck (D5 d.Bh) ?_;cases hp:yx c.Bh
  · exact .done
  · obtain⟨⟨o,m⟩,_⟩:=rq hp
    simp only[Ci,jN,Jq,Cj];refine Ev.guardB ?_ (λ_=>?_)
    · simp only[gC,jd,iu]
      refine Ev.orB (AR d.Bi) λ_=>?_;rw[show decide ((c.Av.length:Int) > 8) = !decide (c.Av.length<=8) by rw[jp];simp;omega,iu];exact Ev.orBP λ_=>Ev.orBP λ_=>.done
    · have g:∀j,j<c.Av.length->Ev (λn=>kt c (j:Int) (gt c.Av j) n 0) (bif yX c.Av j then .nxt (j:Int) else .ret Cd):=by
        intro j a;refine ll ?_ (λi hi X b=>Cm ?_)
        · exact Cm (by simp only[kt,qr (jf _),Cj];exact .done)
        · simp only[kt,qp hi,Ci,qz (show i<c.Av.length by omega),jd,wS i]
          unfold IX;cases ((gt c.Av i).Bf==(gt c.Av j).Bf)
          · exact b
          · cases ((gt c.Av i).Bm==(gt c.Av j).Bm)
            · exact b
            · cases ((gt c.Av i).To==(gt c.Av j).To)
              · exact b
              · exact .done
      have f:Ev (λn=>oo c n 0) (bif bG (λj=>CO c.Bh (gt c.Av j)&&yX c.Av j) c.Av.length then .nxt (c.Av.length:Int) else .ret Cd):=by
        refine ll ?_ (λj a X b=>Cm ?_)
        · exact Cm (by simp only[oo,qr (jf _),Cj];exact .done)
        · simp only[oo,qp a,Ci,qz a,jd,wS j]
          refine Ev.chk (Q2 d.Bh (CY d.Av a) o) λ_=>Ck (g j a) ?_;cases yX c.Av j
          · exact .done
          · exact b
      have h:Ev (λn=>oq c n 0) (bif (c.Bu.all λx=>gu x 0 1) then .nxt (c.Bu.length:Int) else .ret Cd):=
        xB (λn=>by simp only[oq,qr (jf _),Cj]) (λj a X b=>by
          simp only[oq,qp a,Ci,bZ a,jd,gC,wS j,iu];exact Ev.okP1 λ_=>b)
      refine Ck f ?_;cases hA:bG (λj=>CO c.Bh (gt c.Av j)&&yX c.Av j) c.Av.length
      · exact .done
      · have l:∀j,j<c.Av.length->1<=(gt c.Av j).Bf/\(gt c.Av j).Bf<=5:=λj a=>by
          have:=aA.1 hA j a;rw[je] at this;exact RW this.1
        simp only[Ci,jN];refine Ck (XY d.Av l) ?_;simp only[(YZ o m).2,jd,
          show qG (io (λk=>tQ c.Av k c.Av.length) 6) (1:Int)=V ((tQ c.Av 1 c.Av.length:Nat):Int) from xY (k:=1) (by omega),
          show qG (io (λk=>tQ c.Av k c.Av.length) 6) (2:Int)=V ((tQ c.Av 2 c.Av.length:Nat):Int) from xY (k:=2) (by omega),
          show qG (io (λk=>tQ c.Av k c.Av.length) 6) (3:Int)=V ((tQ c.Av 3 c.Av.length:Nat):Int) from xY (k:=3) (by omega),SM,D4]
        unfold ML;refine Ev.iff (λ_=>?_) (λ_=>Ev.iff (λ_=>?_) (λ_=>Ev.iff (λ_=>?_) (λ_=>.done)))
        · refine Ck h ?_
          cases (c.Bu.all λx=>gu x 0 1)
          · exact Cx (by simp)
          · exact(Cu (λ_=>.done)).cast (by rw[Bool.and_true])
        · refine(Cu λ_=>Cu λ_=>Cu λ_=>.done).cast ?_
          cases (((yR c.Bh c.Bh.length:Nat):Int)==1)<;>cases ((c.Bu.length:Int)==0)<;>cases FM c.Av ((1:Nat):Int)<;>cases FM c.Av ((2:Nat):Int)<;>cases FM c.Av ((3:Nat):Int)<;>rfl
        · refine(Cu λ_=>Cu λ_=>Cu λ_=>Cu λ_=>.done).cast ?_
          cases (((yR c.Bh c.Bh.length:Nat):Int)==1)<;>cases ((c.Bu.length:Int)==0)<;>cases FM c.Av ((1:Nat):Int)<;>cases FM c.Av ((2:Nat):Int)<;>cases FM c.Av ((3:Nat):Int)<;>rfl
def NI(l:qD):Bool:=l.As.all sC&&(decide (l.As.length<=8)&&ol (l.As.map qQ.Bi))
theorem TW{l:qD}(h:rm l):Ev (λn=>uo n l) (NI l):=by
  have d:=h.As.len;have b:Ev (λn=>gA l n ([]:List ByteArray) 0) (bif bG (λj=>sC (gt l.As j)) l.As.length then .nxt (l.As.map qQ.Bi,(l.As.length:Int)) else .ret Cd):=by
    refine SQ (Lf:=gA l) (S:=λj=>(l.As.take j).map qQ.Bi) (λj=>sC (gt l.As j)) (λn=>?_) (λj a i X c=>?_)
    · simp only[gA,qr (jf _),Cj,jH]
    · simp only[gA,qp a,Ci,qz a,jd,zj a d,ph (g:=qQ.Bi) a,wS j]
      exact Ev.chk1 (O0 (CY h.As a)) c
  unfold uo NI;rw[ue];refine Ck b ?_;cases bG (λj=>sC (gt l.As j)) l.As.length
  · exact .done
  · simp only[Ci,jN,show decide ((l.As.length:Int)<=8)=decide (l.As.length<=8) from EZ (k:=8)]
    exact Cu λ_=>Ev.last (vQ (FA h.As (λx f=>f.Bi)))

theorem B6{c:qQ}(h:sC c=An):tU c.Bi=An:=by
 unfold sC at h;rw[je] at h;exact h.1
theorem vh{c:qQ}(h:sC c=An):yx c.Bh=An:=by
 unfold sC at h;simp only[je] at h;exact h.2.1
theorem RP{l:qD}(h:rm l):Ev (λn=>uL n l) (NI l):=by
 have f:=h.As.len;have c:∀j,j<l.As.length->Ev (λn=>kD l (j:Int) n 0) (bif bG (SU (l.As.map qQ.Bi) j) j then .nxt (j:Int) else .ret Cd):=by
  intro j a;refine ll ?_ (λi hi X d=>Cm ?_)
  .exact Cm (by simp only[kD,qr (jf _),Cj];exact .done)
  .simp only[kD,qp hi,Ci,qz (show i<l.As.length by omega),qz a,jd,th,wS i];unfold SU;rw[xx (g:=qQ.Bi) (show i<l.As.length by omega),xx (g:=qQ.Bi) a];exact Ev.chkP1 (λ_=>d)
 have b:Ev (λn=>kC l n 0) (bif bG (λj=>sC (gt l.As j)&&bG (SU (l.As.map qQ.Bi) j) j) l.As.length then .nxt (l.As.length:Int) else .ret Cd):=by
  refine ll ?_ (λj a X d=>Cm ?_)
  .exact Cm (by simp only[kC,qr (jf _),Cj];exact .done)
  .simp only[kC,qp a,Ci,qz a,jd,wS j];refine Ev.chk (F2 (CY h.As a)) λ_=>Ck (c j a) ?_;cases bG (SU (l.As.map qQ.Bi) j) j
   .exact .done
   .exact d
 have e:NI l=(bG (λj=>sC (gt l.As j)&&bG (SU (l.As.map qQ.Bi) j) j) l.As.length&&decide (l.As.length<=8)):=by
  unfold NI ol;rw[ue,jo,Bool.and_comm (decide (l.As.length<=8)),<-Bool.and_assoc,<-zi]
  congr 1
  refine tE (λj a=>?_);rw[xx (g:=qQ.Bi) a];cases hc:sC (gt l.As j)
  .rfl
  .rw[B6 hc];rfl
 rw[e];unfold uL;refine Ck b ?_;cases bG (λj=>sC (gt l.As j)&&bG (SU (l.As.map qQ.Bi) j) j) l.As.length
 .exact .done
 .refine Cx ?_;show V (decide ((l.As.length:Int)<=((8:Nat):Int)))=V (An&&decide (l.As.length<=8));rw[EZ,jN]
theorem AD{c c':Nat->Nat}{m:Nat}{x:Int}(b:0<=x)(h:x<m)(d:c x.toNat<9223372036854775807)(f:∀k,k<m->c' k=c k+(bif x==(k:Int) then 1 else 0)) :
  qG (io c m) x=V (c x.toNat:Int)/\am (io c m) x (qj ((c x.toNat:Int)+1))=io c' m:=by
 have ex:x=(x.toNat:Int):=fB b;have e1:=xY (c:=c) (m:=m) (k:=x.toNat) (by omega);have a:=TO (c:=c) (m:=m) (k:=x.toNat) d;rw[<-ex] at e1 a;refine⟨e1,a.trans (xX (λk g=>?_))⟩;rw[f k g]
 congr 2
 rw[jp];simp;omega
def IF(d:qk)(x:Int):Bool:=gu x 0 ((d.Ap.length:Int)-1)
theorem XV{n:Nat}{d:qk}{x:Int}(a:d.Ap.length<=1048576):kx n d x=V (IF d x):=by
 simp only[kx,tI,jd,gV,nD (show d.Ap.length<=9223372036854775807 by omega)];rfl
theorem SN{n:Nat}{d:qk}{x:Int}(a:d.Ap.length<=1048576):bk n x 0 (qj ((d.Ap.length:Int)-1))=V (IF d x):=by
 rw[gC,nD (show d.Ap.length<=9223372036854775807 by omega)];rfl
def zp(d:qk):Bool:=(decide (d.Ab.length<=14)&&(decide (d.Ap.length<=30)&&decide (d.Ai.length<=8)))&&(ol (d.Ab.map qO.Bi)&&(ol d.Ap&&ol (d.Ai.map bq.Bi)))
theorem XP{d:qk}(h:xq d):Ev (λn=>mW n d) (zp d):=by
 have i:=h.Ab.len;have l:=h.Ai.len;have b:Ev (λn=>dn d n ([]:List ByteArray) 0) (d.Ab.map qO.Bi,(d.Ab.length:Int)):=by
  refine fq (Lf:=dn d) (S:=λj=>(d.Ab.take j).map qO.Bi) (len:=d.Ab.length) (λn=>?_) (λj a X f=>?_)
  .simp only[dn,qr (jf _),Cj,jH]
  .simpa only[dn,qp a,Ci,qz a,jd,zj a i,ph (g:=qO.Bi) a,wS j] using f
 have c:Ev (λn=>dq d n ([]:List ByteArray) 0) (d.Ai.map bq.Bi,(d.Ai.length:Int)):=by
  refine fq (Lf:=dq d) (S:=λj=>(d.Ai.take j).map bq.Bi) (len:=d.Ai.length) (λn=>?_) (λj a X f=>?_)
  .simp only[dq,qr (jf _),Cj,jH]
  .simpa only[dq,qp a,Ci,qz a,jd,zj a l,ph (g:=bq.Bi) a,wS j] using f
 unfold mW zp;refine Ck b (Ck c ?_);simp only[jo];rw[show decide ((d.Ab.length:Int)<=14)=decide (d.Ab.length<=14) from EZ (k:=14),show decide ((d.Ap.length:Int)<=30)=decide (d.Ap.length<=30) from EZ (k:=30),show decide ((d.Ai.length:Int)<=8)=decide (d.Ai.length<=8) from EZ (k:=8)];rw[Bool.and_assoc,Bool.and_assoc];exact Cu λ_=>Cu λ_=>Cu λ_=>Ev.and (vQ (FA h.Ab (λx m=>m.Bi))) λ_=>Ev.and (vQ h.Ap) λ_=>Ev.last (vQ (FA h.Ai (λx m=>m.Bi)))
def wg(l:qD)(d:qk)(x:qO):Bool:=gu x.Bv 0 ((l.As.length:Int)-1)&&(((x.Ap.length:Int)==((gt l.As x.Bv.toNat).Bh.length:Int))&&x.Ap.all (IF d))
theorem RJ{d:qk}{l:qD}{x:qO}(g:d.Ap.length<=1048576)(h:l.As.length<=1048576)(a:x.Ap.length<=1048576):Ev (λn=>lp n d l x) (wg l d x):=by
 simp only[lp,pB,jd,gV,nD (show l.As.length<=9223372036854775807 by omega)];unfold wg;refine Cu λc=>?_;rw[cu] at c;rw[kJ c.1 (by omega)];simp only[jd];refine Cu λ_=>Ck (b:=x.Ap.any λy=>!IF d y) ?_ (Cx (by rw[II]));unfold cv;exact Ck (b:=NF (λy=>!IF d y) x.Ap) (og (fin:=(x.Ap.length:Int)) (Lf:=ai x.Ap d) (pf:=λn y=>kh n y d) (λy _=>⟨0,λn _=>by simp only[kh,XV g,jd]⟩)
   (λn=>by simp only[ai,qr (jf _),Cj])
   (λn j y a=>by
    have f:=(List.getElem?_eq_some_iff.1 a).1;simp only[ai,qp f,Ci,ra a,jd,wS j])
   (λn=>by unfold cN;congr 1;funext o;cases o<;>rfl)) (Cx (by rw[DK]))
def yz(d:qk)(p:bq):Bool:=gu p.Bx 1 2&&IF d p.Cb
theorem qdi{x:Int}:gu x 1 2=((x==1) || (x==2)):=by
 unfold gu;rw[jp];simp;omega
def DN(x:qO):Int:=bm x.Ap (x.Ap.length-1)
theorem XQ{x:qO}(a:1<=x.Ap.length)(b:x.Ap.length<=1048576):qG x.Ap (qj ((x.Ap.length:Int)-1))=V (DN x):=by
 rw[nD (by omega),show((x.Ap.length:Int)-1)=((x.Ap.length-1:Nat):Int) by omega,aM (by omega)];rfl
theorem Q8{d:qk}{x:qO}(a:1<=x.Ap.length)(h:x.Ap.all (IF d)=An):0<=DN x/\DN x<d.Ap.length:=by
 rw[pX (d:=0),aA] at h;have:=h (x.Ap.length-1) (by omega);unfold IF at this;rw[cu] at this;unfold DN bm;omega
theorem PF{l:qD}{d:qk}{x:qO}(a:NI l=An)(h:wg l d x=An):1<=x.Ap.length/\0<=DN x/\DN x<d.Ap.length:=by
 unfold wg at h;simp only[je,cu,beq_iff_eq] at h;obtain⟨g,i,f⟩:=h;unfold NI at a;simp only[je] at a;have c:=a.1;rw[ue,aA] at c;have:=rq (vh (c x.Bv.toNat (by omega)));have b:1<=x.Ap.length:=by omega
 exact⟨b,Q8 b f⟩
def nY(d:qk)(k j:Nat):Nat:=gr (λi=>DN (gt d.Ab i)==(k:Int)) j
def vT(d:qk)(k j:Nat):Nat:=gr (λi=>((gt d.Ai i).Bx==1)&&((gt d.Ai i).Cb==(k:Int))) j
def C2(d:qk):Bool:=bG (λk=>((nY d k d.Ab.length+vT d k d.Ai.length:Nat):Int)==1) d.Ap.length
def lk(l:qD)(d:qk):Bool:=(NI l&&zp d)&&(d.Ab.all (wg l d)&&(d.Ai.all (yz d)&&C2 d))
theorem KS{d:qk}{k j:Nat}:nY d k (j+1)=nY d k j+(bif DN (gt d.Ab j)==(k:Int) then 1 else 0):=rfl
theorem EX{d:qk}{k j:Nat}:vT d k (j+1)=vT d k j+(bif ((gt d.Ai j).Bx==1)&&((gt d.Ai j).Cb==(k:Int)) then 1 else 0):=rfl
theorem WK{l:qD}{d:qk}(h:rm l)(g:xq d):Ev (λn=>vD n l d) (lk l d):=by
 have I:=g.Ab.len;have J:=g.Ai.len;have i:=g.Ap.len;have v:=h.As.len;unfold vD lk;refine Ev.guardB (Ev.or (TW h) λ_=>Ev.neg (XP g)) λz=>?_;rw[je] at z;rw[FI (m:=d.Ap.length) (by omega)];simp only[jd];have t:Ev (λn=>iC l d n (io (λ_=>0) d.Ap.length) 0) (bif bG (λj=>wg l d (gt d.Ab j)) d.Ab.length then .nxt (io (λk=>nY d k d.Ab.length) d.Ap.length,(d.Ab.length:Int)) else .ret Cd):=by
  refine SQ (Lf:=iC l d) (S:=λj=>io (λk=>nY d k j) d.Ap.length) (λj=>wg l d (gt d.Ab j)) (λn=>?_) (λj a K X f=>?_)
  .simp only[iC,qr (jf _),Cj]
  .simp only[iC,qp a,Ci,qz a,jd,wS j];have p:=(CY g.Ab a).Ap.len;refine Ev.chk1 (RJ i v p) λhi=>?_;obtain⟨r,B,C⟩:=PF z.1 hi;have L:nY d (DN (gt d.Ab j)).toNat j<=j:=oE;obtain⟨e1,s⟩:=AD (c:=λk=>nY d k j) (c':=λk=>nY d k (j+1)) B C (by show nY _ _ _<_;omega) (λk _=>KS);simp only[XQ r p,jd,e1,s];exact f hi
 have u:Ev (λn=>fW d n (io (λk=>nY d k d.Ab.length) d.Ap.length) 0) (bif bG (λj=>yz d (gt d.Ai j)) d.Ai.length then .nxt (io (λk=>nY d k d.Ab.length+vT d k d.Ai.length) d.Ap.length,(d.Ai.length:Int)) else .ret Cd):=by
  refine SQ (Lf:=fW d) (S:=λj=>io (λk=>nY d k d.Ab.length+vT d k j) d.Ap.length) (λj=>yz d (gt d.Ai j)) (λn=>?_) (λj a K X f=>?_)
  .simp only[fW,qr (jf _),Cj]
  .simp only[fW,qp a,Ci,qz a,jd,XV i,bne,wS j];refine Ev.chkT1 ?_ λhi=>?_
   .unfold yz;rw[qdi];cases ((gt d.Ai j).Bx==1)<;>cases ((gt d.Ai j).Bx==2)<;>exact .done
   .have f:=f hi;unfold yz IF at hi;simp only[je,cu] at hi;have D:nY d (gt d.Ai j).Cb.toNat d.Ab.length<=d.Ab.length:=oE;have F:vT d (gt d.Ai j).Cb.toNat j<=j:=oE;cases r:((gt d.Ai j).Bx==1)
    .have:io (λk=>nY d k d.Ab.length+vT d k (j+1)) d.Ap.length=io (λk=>nY d k d.Ab.length+vT d k j) d.Ap.length:=by
      refine xX (λk _=>?_);rw[EX,r];rfl
     rw[this] at f;exact f
    .obtain⟨e1,s⟩:=AD (c:=λk=>nY d k d.Ab.length+vT d k j) (c':=λk=>nY d k d.Ab.length+vT d k (j+1)) (x:=(gt d.Ai j).Cb) (m:=d.Ap.length) hi.2.1 (by omega) (by show nY _ _ _+vT _ _ _<_;omega) (λk _=>by rw[EX,r,jN];omega);simp only[Ci,jd,e1,s];exact f
 rw[ue,ue];refine Ck t ?_;cases bG (λj=>wg l d (gt d.Ab j)) d.Ab.length
 .exact .done
 .refine Ck u ?_;cases bG (λj=>yz d (gt d.Ai j)) d.Ai.length
  .exact .done
  .simp only[Ci,jN];unfold eI;refine Ck (b:=(io (λk=>nY d k d.Ab.length+vT d k d.Ai.length) d.Ap.length).any λx=>!(x==1)) (Ck (b:=NF (λx=>!(x==1)) (io (λk=>nY d k d.Ab.length+vT d k d.Ai.length) d.Ap.length)) (og (fin:=(((io (λk=>nY d k d.Ab.length+vT d k d.Ai.length) d.Ap.length).length:Nat):Int)) (Lf:=bf (io (λk=>nY d k d.Ab.length+vT d k d.Ai.length) d.Ap.length)) (pf:=λn y=>wA n y) (λy _=>.done)
    (λn=>by simp only[bf,qr (jf _),Cj])
    (λn j y A=>by
     have a:=(List.getElem?_eq_some_iff.1 A).1;have:j<d.Ap.length:=by rw[EQ] at a;exact a
     simp only[bf,qp a,Ci,ra A,jd,wS j])
    (λn=>by unfold fD;congr 1;funext o;cases o<;>rfl)) (Cx (by rw[DK]))) (Cx ?_)
   rw[II,pX (d:=0),EQ];unfold C2
   congr 1
   exact tE (λk H=>by
    have:=ZR (c:=λk=>nY d k d.Ab.length+vT d k d.Ai.length) H;unfold bm at this;rw[this])
theorem XZ{l:qD}{d:qk}(h:rm l)(f:xq d):Ev (λn=>vM n l d) (d.Ab.all (wg l d)&&d.Ai.all (yz d)):=by
 have r:=f.Ab.len;have s:=f.Ai.len;have c:=f.Ap.len;have p:=h.As.len;have i:∀x:qO,x.Ap.length<=1048576->Ev (λn=>lN d x n 0) (bif x.Ap.all (IF d) then .nxt (x.Ap.length:Int) else .ret Cd):=λx t=>
  xB (λn=>by simp only[lN,qr (jf _),Cj]) (λj a X b=>by
   simp only[lN,qp a,Ci,bZ a,jd,SN c,wS j,iu];exact Ev.okP1 λ_=>b)
 have g:Ev (λn=>lM l d n 0) (bif bG (λj=>wg l d (gt d.Ab j)) d.Ab.length then .nxt (d.Ab.length:Int) else .ret Cd):=by
  refine ll ?_ (λj a X b=>Cm ?_)
  .exact Cm (by simp only[lM,qr (jf _),Cj];exact .done)
  .simp only[lM,qp a,Ci,qz a,jd,gC,nD (show l.As.length<=9223372036854775807 by omega),wS j,bne];have m:=(CY f.Ab a).Ap.len;unfold wg;rw[<-Bool.and_assoc];refine Ev.chkT ?_ λ_=>Ck (i _ m) ?_
   .simp only[iu];refine Ev.orBP λo=>?_;rw[cu] at o;rw[kJ o.1 (by omega)];exact .done
   .cases (gt d.Ab j).Ap.all (IF d)
    .exact .done
    .exact b
 have k:Ev (λn=>lO d n 0) (bif bG (λj=>yz d (gt d.Ai j)) d.Ai.length then .nxt (d.Ai.length:Int) else .ret Cd):=by
  refine ll ?_ (λj a X b=>Cm ?_)
  .exact Cm (by simp only[lO,qr (jf _),Cj];exact .done)
  .simp only[lO,qp a,Ci,qz a,jd,SN c,wS j];simp only[gC,jd,iu];unfold yz;exact Ev.okP λ_=>Ev.okP1 λ_=>b
 unfold vM;rw[ue,ue];refine Ck g ?_;cases bG (λj=>wg l d (gt d.Ab j)) d.Ab.length
 .exact .done
 .refine Ck k ?_;cases bG (λj=>yz d (gt d.Ai j)) d.Ai.length<;>exact .done
theorem VN{l:qD}{d:qk}(h:rm l)(i:xq d):Ev (λn=>vK n l d) (lk l d):=by
 have J:=i.Ab.len;have K:=i.Ai.len;have W:=i.Ap.len;have T:=h.As.len;have e:lk l d=((NI l&&(decide (d.Ab.length<=14)&&(decide (d.Ap.length<=30)&&(decide (d.Ai.length<=8)&&(d.Ab.all (wg l d)&&d.Ai.all (yz d))))))&&((ol (d.Ab.map qO.Bi)&&(ol (d.Ai.map bq.Bi)&&ol d.Ap))&&C2 d)):=by
  unfold lk zp;generalize NI l=a1;generalize decide (d.Ab.length<=14)=a2;generalize decide (d.Ap.length<=30)=a3;generalize decide (d.Ai.length<=8)=a4;generalize d.Ab.all (wg l d)=a5;generalize d.Ai.all (yz d)=a6;generalize ol (d.Ab.map qO.Bi)=a7;generalize ol (d.Ai.map bq.Bi)=a8;generalize ol d.Ap=a9;generalize C2 d=a10;rw[jp];simp only[je];constructor
  .rintro⟨⟨f,⟨p,r,u⟩,z,B,A⟩,v,y,o⟩;exact⟨⟨f,p,r,u,v,y⟩,⟨z,A,B⟩,o⟩
  .rintro⟨⟨f,p,r,u,v,y⟩,⟨z,A,B⟩,o⟩;exact⟨⟨f,⟨p,r,u⟩,z,B,A⟩,v,y,o⟩
 rw[e];unfold vK;refine Ev.guardB ?_ λP=>?_
 .refine Ev.or (RP h) λ_=>?_;rw[show decide ((d.Ab.length:Int) > 14) = !decide (d.Ab.length<=14) by rw[jp];simp;omega,show decide ((d.Ap.length:Int) > 30) = !decide (d.Ap.length<=30) by rw[jp];simp;omega,show decide ((d.Ai.length:Int) > 8) = !decide (d.Ai.length<=8) by rw[jp];simp;omega];simp only[iu];exact Ev.orBP λ_=>Ev.orBP λ_=>Ev.orBP λ_=>Ev.neg (XZ h i)
 .simp only[je] at P;obtain⟨s,_,_,_,N,O⟩:=P;rw[ue,aA] at N O;have C:Ev (λn=>iH d n ([]:List ByteArray) 0) (d.Ab.map qO.Bi,(d.Ab.length:Int)):=by
   refine fq (Lf:=iH d) (S:=λj=>(d.Ab.take j).map qO.Bi) (len:=d.Ab.length) (λn=>?_) (λj a X b=>?_)
   .simp only[iH,qr (jf _),Cj,jH]
   .simpa only[iH,qp a,Ci,qz a,jd,zj a J,ph (g:=qO.Bi) a,wS j] using b
  have D:Ev (λn=>iI d n ([]:List ByteArray) 0) (d.Ai.map bq.Bi,(d.Ai.length:Int)):=by
   refine fq (Lf:=iI d) (S:=λj=>(d.Ai.take j).map bq.Bi) (len:=d.Ai.length) (λn=>?_) (λj a X b=>?_)
   .simp only[iI,qr (jf _),Cj,jH]
   .simpa only[iI,qp a,Ci,qz a,jd,zj a K,ph (g:=bq.Bi) a,wS j] using b
  have F:Ev (λn=>iJ d n (io (λ_=>0) d.Ap.length) 0) (io (λk=>nY d k d.Ab.length) d.Ap.length,(d.Ab.length:Int)):=by
   refine fq (Lf:=iJ d) (S:=λj=>io (λk=>nY d k j) d.Ap.length) (len:=d.Ab.length) (λn=>?_) (λj a X b=>?_)
   .simp only[iJ,qr (jf _),Cj]
   .have M:=(CY i.Ab a).Ap.len;obtain⟨f,p,r⟩:=PF s (N j a);have Y:nY d (DN (gt d.Ab j)).toNat j<=j:=oE;obtain⟨e1,t⟩:=AD (c:=λk=>nY d k j) (c':=λk=>nY d k (j+1)) p r (by show nY _ _ _<_;omega) (λk _=>KS);simpa only[iJ,qp a,Ci,qz a,jd,wS j,XQ f M,e1,t] using b
  have H:Ev (λn=>gd d n (io (λk=>nY d k d.Ab.length) d.Ap.length) 0) (io (λk=>nY d k d.Ab.length+vT d k d.Ai.length) d.Ap.length,(d.Ai.length:Int)):=by
   refine fq (Lf:=gd d) (S:=λj=>io (λk=>nY d k d.Ab.length+vT d k j) d.Ap.length) (len:=d.Ai.length) (λn=>?_) (λj a X b=>?_)
   .simp only[gd,qr (jf _),Cj]
   .have hi:=O j a;unfold yz IF at hi;simp only[je,cu] at hi;have Q:nY d (gt d.Ai j).Cb.toNat d.Ab.length<=d.Ab.length:=oE;have R:vT d (gt d.Ai j).Cb.toNat j<=j:=oE;simp only[gd,qp a,Ci,qz a,jd,wS j];cases f:((gt d.Ai j).Bx==1)
    .have:io (λk=>nY d k d.Ab.length+vT d k (j+1)) d.Ap.length=io (λk=>nY d k d.Ab.length+vT d k j) d.Ap.length:=by
      refine xX (λk _=>?_);rw[EX,f];rfl
     rw[this] at b;exact b
    .obtain⟨e1,t⟩:=AD (c:=λk=>nY d k d.Ab.length+vT d k j) (c':=λk=>nY d k d.Ab.length+vT d k (j+1)) (x:=(gt d.Ai j).Cb) (m:=d.Ap.length) hi.2.1 (by omega) (by show nY _ _ _+vT _ _ _<_;omega) (λk _=>by rw[EX,f,jN];omega);simp only[Ci,jd,e1,t];exact b
  have I:Ev (λn=>lI (io (λ_=>0) d.Ap.length) (io (λk=>nY d k d.Ab.length+vT d k d.Ai.length) d.Ap.length) n 0) (bif C2 d then .nxt (d.Ap.length:Int) else .ret Cd):=by
   refine ll ?_ (λj a X b=>Cm ?_)
   .exact Cm (by simp only[lI,EQ,qr (jf _),Cj];exact .done)
   .simp only[lI,EQ,qp a,Ci,xY a,jd,bne,iu,wS j];exact Ev.okP1 λ_=>b
  refine Ck C (Ck D ?_);refine Ev.guardB (Ev.or (DL (FA i.Ab (λx L=>L.Bi))) λ_=>Ev.or (DL (FA i.Ai (λx L=>L.Bi))) λ_=>Ev.neg (DL i.Ap)) λ_=>?_;rw[FI (m:=d.Ap.length) (by omega)];simp only[jd];refine Ck F (Ck H (Ck I ?_));cases C2 d<;>exact .done

theorem qb7{m k:Nat}:decide ((m:Int)<(k:Int)) = !decide (k<=m):=by rw[jp];simp
theorem qbS{m k:Nat}:decide ((m:Int) > (k:Int)) = !decide (m<=k):=by rw[jp];simp
def EO(w:aR)(j:Nat):Bool:=bif decide (j=0) then(bm w.Ak j==-1)&&(bm w.Bw j==0) else gu (bm w.Ak j) 0 ((j:Int)-1)
def BY(w:aR)(s:Int):Bool:=
 zF w.Ak 1 8&&(((w.Bw.length:Int)==(w.Ak.length:Int))&&(((w.Bs.length:Int)==(w.Ak.length:Int))&&(bG (EO w) w.Ak.length &&
  ((w.Bw.all λx=>gu x 0 1000)&&((w.Bs.all λx=>gu x 0 500)&&(((w.Bl.length:Int)==s)&&(w.Bl.all λx=>gu x 0 ((w.Ak.length:Int)-1))))))))
theorem Q1{w:aR}(i:w.Ak.length<=1048576)(h:((w.Bw.length:Int)==(w.Ak.length:Int))=An):Ev (λn=>rU n w) (bG (EO w) w.Ak.length):=by
 rw[beq_iff_eq] at h;have g:Ev (λn=>cY w n 0) (bif bG (EO w) w.Ak.length then .nxt (w.Ak.length:Int) else .ret Cd):=by
  refine ll ?_ (λj b X a=>Cm ?_)
  .exact Cm (by simp only[cY,qr (jf _),Cj];exact .done)
  .simp only[cY,qp b,Ci,aM b,jd,gV,wS j,bne,iu];unfold EO;by_cases f:j=0
   .subst f;rw[show qG w.Bw (0:Int)=V (bm w.Bw 0) from aM (j:=0) (by omega)];simp only[jd];refine Cq (by simp) (Ev.okP λ_=>Ev.okP1 λ_=>Cp (by simp) a)
   .have e1:decide (j=0)=Cd:=by simp;omega
    have c:((j:Int)==0)=Cd:=by simp;omega
    have d:decide ((j:Int) > 0)=An:=by simp;omega
    rw[e1,c,d,nD (show j<=9223372036854775807 by omega)];simp only[Cj,Ci];exact Ev.okP1 λ_=>a
 unfold rU;refine Ck g ?_;cases bG (EO w) w.Ak.length<;>exact .done
theorem O1{w:aR}{s:Int}(h:IJ w):Ev (λn=>yn n w s) (BY w s):=by
 have a:=h.Ak.len;simp only[yn,dA,jd,gV,nD (show w.Ak.length<=9223372036854775807 by omega)];unfold BY;rw[show gu (w.Ak.length:Int) 1 8=zF w.Ak 1 8 from UR (lo:=1) (hi:=8)];exact Cu λ_=>Cu λb=>Cu λ_=>Ev.and (Q1 a b) λ_=>Ev.and (kb h.Bw.len) λ_=>Ev.and (kb h.Bs.len) λ_=>Cu λ_=>Ev.last (kb h.Bl.len)
theorem F3{w:aR}{s:Int}(h:IJ w):Ev (λn=>yD n w s) (BY w s):=by
 have r:=h.Ak.len;have o:=h.Bl.len;have e:BY w s=((decide (1<=w.Ak.length)&&(decide (w.Ak.length<=8)&&(((w.Bw.length:Int)==(w.Ak.length:Int))&&(((w.Bs.length:Int)==(w.Ak.length:Int))&&((w.Bl.length:Int)==s)))))&&(bG (λj=>(gu (bm w.Bs j) 0 500&&gu (bm w.Bw j) 0 1000)&&EO w j) w.Ak.length&&(w.Bl.all λx=>gu x 0 ((w.Ak.length:Int)-1)))):=by
  unfold BY zF;cases h1:((w.Bw.length:Int)==(w.Ak.length:Int))
  .simp
  .cases h2:((w.Bs.length:Int)==(w.Ak.length:Int))
   .simp
   .rw[beq_iff_eq] at h1 h2;rw[zi,zi];rw[pX (p:=λx=>gu x 0 1000) (d:=0),pX (p:=λx=>gu x 0 500) (d:=0),show w.Bw.length=w.Ak.length by omega,show w.Bs.length=w.Ak.length by omega];show _=(_&&((bG (λj=>gu (w.Bs.getD j 0) 0 500) _&&bG (λj=>gu (w.Bw.getD j 0) 0 1000) _&&_)&&_));generalize bG (λj=>gu (w.Bs.getD j 0) 0 500) w.Ak.length=a1;generalize bG (λj=>gu (w.Bw.getD j 0) 0 1000) w.Ak.length=a2;generalize bG (λj=>EO w j) w.Ak.length=a3;generalize ((w.Bl.length:Int)==s)=a4;generalize decide (1<=w.Ak.length)=a5;generalize decide (w.Ak.length<=8)=a6;generalize (w.Bl.all λx=>gu x 0 ((w.Ak.length:Int)-1))=a7;cases a1<;>cases a2<;>cases a3<;>cases a4<;>cases a5<;>cases a6<;>rfl
 rw[e];unfold yD;refine Ev.guardB ?_ λm=>?_
 .rw[show decide ((w.Ak.length:Int)<1) = !decide (1<=w.Ak.length) from qb7 (k:=1),show decide ((w.Ak.length:Int) > 8) = !decide (w.Ak.length<=8) from qbS (k:=8)];simp only[bne,iu];exact Ev.orBP λ_=>Ev.orBP λ_=>Ev.orBP λ_=>Ev.orBP λ_=>.done
 .simp only[je,beq_iff_eq] at m;have c:Ev (λn=>gE w n 0) (bif bG (λj=>(gu (bm w.Bs j) 0 500&&gu (bm w.Bw j) 0 1000)&&EO w j) w.Ak.length then .nxt (w.Ak.length:Int) else .ret Cd):=by
   refine ll ?_ (λj a X b=>Cm ?_)
   .exact Cm (by simp only[gE,qr (jf _),Cj];exact .done)
   .simp only[gE,qp a,Ci,aM a,aM (show j<w.Bs.length by omega),aM (show j<w.Bw.length by omega),jd,gC,wS j,bne,iu];refine Ev.chkT (Ev.orBP λ_=>.done) λ_=>?_;unfold EO;by_cases l:j=0
    .subst l;refine Cq (by simp) (Ev.okP λ_=>Ev.okP1 λ_=>Cp (by simp) b)
    .have e1:decide (j=0)=Cd:=by simp;omega
     have g:((j:Int)==0)=Cd:=by simp;omega
     have i:decide ((j:Int) > 0)=An:=by simp;omega
     rw[e1,g,i,nD (show j<=9223372036854775807 by omega)];simp only[Cj,Ci];exact Ev.okP1 λ_=>b
  have f:Ev (λn=>ot w n 0) (bif (w.Bl.all λx=>gu x 0 ((w.Ak.length:Int)-1)) then .nxt (w.Bl.length:Int) else .ret Cd):=
   xB (λn=>by simp only[ot,qr (jf _),Cj]) (λj a X b=>by
    simp only[ot,qp a,Ci,bZ a,jd,gC,nD (show w.Ak.length<=9223372036854775807 by omega),wS j,iu];exact Ev.okP1 λ_=>b)
  refine Ck c ?_;cases bG (λj=>(gu (bm w.Bs j) 0 500&&gu (bm w.Bw j) 0 1000)&&EO w j) w.Ak.length
  .exact .done
  .refine Ck f ?_;cases (w.Bl.all λx=>gu x 0 ((w.Ak.length:Int)-1))<;>exact .done
instance:Inhabited aY:=⟨⟨0,0,0,Cd⟩⟩
instance:Inhabited qW:=⟨⟨0,0,0,Cd⟩⟩
def ms(p:aY):qW:=⟨p.instance_,p.pin,p.net,p.drives⟩
def WF(i:Nat)(x:qO)(j:Nat):List aY:=(List.range j).map λ(k:Nat)=>⟨(i:Int),(k:Int),bm x.Ap k,decide (k+1=x.Ap.length)⟩
def QW(d:qk)(j:Nat):List aY:=(List.range j).flatMap λ(i:Nat)=>WF i (gt d.Ab i) (gt d.Ab i).Ap.length
def T3(d:qk)(j:Nat):List aY:=(List.range j).map λ(i:Nat)=>⟨-1,(i:Int),(gt d.Ai i).Cb,(gt d.Ai i).Bx==1⟩
def places(d:qk):List aY:=QW d d.Ab.length++T3 d d.Ai.length
theorem YS{i:Nat}{x:qO}{j:Nat}:WF i x (j+1)=WF i x j++[⟨(i:Int),(j:Int),bm x.Ap j,decide (j+1=x.Ap.length)⟩]:=by
 unfold WF;rw[List.range_succ,jY];rfl
theorem DW{d:qk}{j:Nat}:QW d (j+1)=QW d j++WF j (gt d.Ab j) (gt d.Ab j).Ap.length:=by
 unfold QW;rw[List.range_succ,List.flatMap_append];simp
theorem YR{d:qk}{j:Nat}:T3 d (j+1)=T3 d j++[⟨-1,(j:Int),(gt d.Ai j).Cb,(gt d.Ai j).Bx==1⟩]:=by
 unfold T3;rw[List.range_succ,jY];rfl
theorem OE{i:Nat}{x:qO}{j:Nat}:(WF i x j).length=j:=by simp[WF]
theorem OD{d:qk}{j:Nat}:(T3 d j).length=j:=by simp[T3]
structure wE(d:qk):Prop where
 ni:d.Ab.length<=14
 nn:d.Ap.length<=30
 np:d.Ai.length<=8
 nx:∀i,i<d.Ab.length->2<=(gt d.Ab i).Ap.length/\(gt d.Ab i).Ap.length<=5
theorem ab{l:qD}{d:qk}(h:lk l d=An):wE d:=by
 unfold lk zp NI at h;simp only[je,decide_eq_true_eq] at h;obtain⟨⟨⟨b,_⟩,⟨c,f,g⟩,_⟩,a,_⟩:=h;refine⟨c,f,g,λi hi=>?_⟩;rw[ue,aA] at a b;have:=a i hi;unfold wg at this;simp only[je,cu,beq_iff_eq] at this;have k:=rq (vh (b (gt d.Ab i).Bv.toNat (by omega)));omega
theorem IP{d:qk}(h:wE d){j:Nat}(a:j<=d.Ab.length):(QW d j).length<=5*j:=by
 induction j with
 |zero=>exact jf _
 |succ j ih=>
  rw[DW,jg,OE];have:=ih (by omega);have:=h.nx j (by omega);omega
theorem bj{d:qk}(h:wE d):(places d).length<=78:=by
 unfold places;rw[jg,OD];have:=IP h (jf _);have:=h.ni;have:=h.np;omega
theorem FC{d:qk}(h:wE d):Ev (λn=>fS n d) (places d):=by
 have l:=h.ni;have m:=h.np;have f:∀i,i<d.Ab.length->∀pre:List aY,pre.length<=100->Ev (λn=>et (i:Int) (gt d.Ab i) n pre 0) (pre++WF i (gt d.Ab i) (gt d.Ab i).Ap.length,((gt d.Ab i).Ap.length:Int)):=by
  intro i hi pre p;have o:=h.nx i hi;have:=fq (Lf:=et (i:Int) (gt d.Ab i)) (S:=λj=>pre++WF i (gt d.Ab i) j) (len:=(gt d.Ab i).Ap.length) (fin:=(pre++WF i (gt d.Ab i) (gt d.Ab i).Ap.length,((gt d.Ab i).Ap.length:Int))) (λn=>by
    simp only[et,qr (jf _),Cj])
   (λj a X b=>by
    have k:(pre++WF i (gt d.Ab i) j).length+[(⟨(i:Int),(j:Int),bm (gt d.Ab i).Ap j,decide (j+1=(gt d.Ab i).Ap.length)⟩:aY)].length<=2147483648:=by
     rw[jg,OE];simp;omega
    simp only[et,qp a,Ci,aM a,jd,K8 a (show(gt d.Ab i).Ap.length<=1048576 by omega),eG k,jv,<-YS,wS j];exact b)
  simpa [WF] using this
 have c:Ev (λn=>er d n ([]:List aY) 0) (QW d d.Ab.length,(d.Ab.length:Int)):=by
  refine fq (Lf:=er d) (S:=λj=>QW d j) (len:=d.Ab.length) (λn=>?_) (λj a X b=>?_)
  .simp only[er,qr (jf _),Cj]
  .simp only[er,qp a,Ci,qz a,jd,wS j];refine Ck (f j a _ (by have:=IP h (Nat.le_of_lt a);omega)) ?_;rw[<-DW];exact b
 have g:Ev (λn=>eA d n (QW d d.Ab.length) 0) (places d,(d.Ai.length:Int)):=by
  have:=fq (Lf:=eA d) (S:=λj=>QW d d.Ab.length++T3 d j) (len:=d.Ai.length) (fin:=(places d,(d.Ai.length:Int))) (λn=>by
    simp only[eA,qr (jf _),Cj];rfl)
   (λj a X b=>by
    have k:(QW d d.Ab.length++T3 d j).length+[(⟨-1,(j:Int),(gt d.Ai j).Cb,(gt d.Ai j).Bx==1⟩:aY)].length<=2147483648:=by
     rw[jg,OD];have:=IP h (jf _);simp;omega
    simp only[eA,qp a,Ci,qz a,jd,eG k,jv,<-YR,wS j];exact b)
  simpa [T3] using this
 unfold fS;exact Ck c (Ck g .done)
theorem oQ{d:qk}(h:wE d):Ev (λn=>fa n d) ((places d).map ms):=by
 have l:=h.ni;have m:=h.np;have f:∀i,i<d.Ab.length->∀pre:List aY,pre.length<=100->Ev (λn=>gJ (i:Int) (gt d.Ab i) n (pre.map ms) 0) ((pre++WF i (gt d.Ab i) (gt d.Ab i).Ap.length).map ms,((gt d.Ab i).Ap.length:Int)):=by
  intro i hi pre p;have o:=h.nx i hi;have:=fq (Lf:=gJ (i:Int) (gt d.Ab i)) (S:=λj=>(pre++WF i (gt d.Ab i) j).map ms) (len:=(gt d.Ab i).Ap.length) (fin:=((pre++WF i (gt d.Ab i) (gt d.Ab i).Ap.length).map ms,((gt d.Ab i).Ap.length:Int))) (λn=>by
    simp only[gJ,qr (jf _),Cj])
   (λj a X b=>by
    have k:((pre++WF i (gt d.Ab i) j).map ms).length+[(⟨(i:Int),(j:Int),bm (gt d.Ab i).Ap j,decide (j+1=(gt d.Ab i).Ap.length)⟩:qW)].length<=2147483648:=by
     rw[jo,jg,OE];simp;omega
    simp only[gJ,qp a,Ci,aM a,jd,K8 a (show(gt d.Ab i).Ap.length<=1048576 by omega),eG k,wS j];rw[YS,<-jv,jY] at b;exact b)
  simpa [WF] using this
 have c:Ev (λn=>gI d n ([]:List qW) 0) ((QW d d.Ab.length).map ms,(d.Ab.length:Int)):=by
  refine fq (Lf:=gI d) (S:=λj=>(QW d j).map ms) (len:=d.Ab.length) (λn=>?_) (λj a X b=>?_)
  .simp only[gI,qr (jf _),Cj]
  .simp only[gI,qp a,Ci,qz a,jd,wS j];refine Ck (f j a _ (by have:=IP h (Nat.le_of_lt a);omega)) ?_;rw[<-DW];exact b
 have g:Ev (λn=>gK d n ((QW d d.Ab.length).map ms) 0) ((places d).map ms,(d.Ai.length:Int)):=by
  have:=fq (Lf:=gK d) (S:=λj=>(QW d d.Ab.length++T3 d j).map ms) (len:=d.Ai.length) (fin:=((places d).map ms,(d.Ai.length:Int))) (λn=>by
    simp only[gK,qr (jf _),Cj];rfl)
   (λj a X b=>by
    have k:((QW d d.Ab.length++T3 d j).map ms).length+[(⟨-1,(j:Int),(gt d.Ai j).Cb,(gt d.Ai j).Bx==1⟩:qW)].length<=2147483648:=by
     rw[jo,jg,OD];have:=IP h (jf _);simp;omega
    simp only[gK,qp a,Ci,qz a,jd,eG k,wS j];rw[YR,<-jv,jY] at b;exact b)
  simpa [T3] using this
 unfold fa;exact Ck c (Ck g .done)
def uK(d:qk)(k:Int)(i:Nat):Bool:=((gt (places d) i).net==k)&&!(gt (places d) i).drives
def fC(d:qk)(k:Int)(j:Nat):List Int:=((List.range j).filter (uK d k)).map λ(i:Nat)=>(i:Int)
def ZB(d:qk)(k:Int):Nat:=gr (uK d k) (places d).length
theorem wn{d:qk}{k:Int}{j:Nat}:fC d k (j+1)=fC d k j++(bif uK d k j then[(j:Int)] else[]):=by
 unfold fC;rw[List.range_succ,List.filter_append,jY]
 congr 1
 cases h:uK d k j<;>simp[h]
theorem vz{d:qk}{k:Int}{j:Nat}:(fC d k j).length=gr (uK d k) j:=by
 induction j with
 |zero=>rfl
 |succ j ih=>
  rw[wn,jg,ih];show _=gr (uK d k) j+_
  congr 1
  cases uK d k j<;>rfl
theorem CX{α β:Type}[Inhabited α][Inhabited β]{xs:List α}{g:α->β}{j:Nat}(h:j<xs.length):gt (xs.map g) j=g (gt xs j):=by
 rw[fd (by simpa using h),fd h];simp
theorem yv{d:qk}{k:Int}(h:wE d):Ev (λn=>nL n d k) (fC d k (places d).length):=by
 have l:=bj h;have g:Ev (λn=>gg k ((places d).map ms) n ([]:List Int) 0) (fC d k (places d).length,((places d).length:Int)):=by
  refine fq (Lf:=gg k ((places d).map ms)) (S:=λj=>fC d k j) (len:=(places d).length) (λn=>?_) (λj f X a=>?_)
  .simp only[gg,jo,qr (jf _),Cj]
  .have c:j<((places d).map ms).length:=by simpa using f
   have i:(fC d k j).length+[(j:Int)].length<=2147483648:=by
    rw[vz];have:gr (uK d k) j<=j:=oE;simp;omega
   simp only[gg,qp c,Ci,qz c,CX f,jd,wS j];rw[show ∀p:aY,(ms p).net=p.net from λ_=>rfl,show ∀p:aY,(ms p).drives=p.drives from λ_=>rfl];refine Ck (b:=uK d k j) (Cu λ_=>.done) ?_;rw[wn] at a;cases hq:uK d k j
   .rw[hq] at a;simp only[Cj,Jb] at a⊢;exact a
   .rw[hq] at a;simp only[Ci,eG i,jd] at a⊢;exact a
 unfold nL;exact Ck (oQ h) (Ck g .done)
theorem BB{l:qD}{d:qk}(h:lk l d=An){i:Nat}(hi:i<(places d).length):0<=(gt (places d) i).net/\(gt (places d) i).net<d.Ap.length:=by
 unfold lk at h;simp only[je] at h;obtain⟨_,f,g,_⟩:=h;rw[ue,aA] at f g;have a:gt (places d) i∈places d:=by rw[fd hi];exact jm hi
 generalize gt (places d) i=p at a;unfold places at a;rcases List.mem_append.1 a with a|a
 .unfold QW at a;obtain⟨i,hi,a⟩:=List.mem_flatMap.1 a;unfold WF at a;obtain⟨k,m,rfl⟩:=List.mem_map.1 a;have:=f i (List.mem_range.1 hi);unfold wg at this;simp only[je] at this;have b:=this.2.2;rw[pX (d:=0),aA] at b;have c:=b k (List.mem_range.1 m);unfold IF at c;rw[cu] at c;show 0<=bm _ _/\bm _ _<_;unfold bm;omega
 .unfold T3 at a;obtain⟨i,hi,rfl⟩:=List.mem_map.1 a;have:=g i (List.mem_range.1 hi);unfold yz IF at this;simp only[je,cu] at this;show 0<=(gt d.Ai i).Cb/\(gt d.Ai i).Cb<_;omega
def aL(b:qf):Bool:=(lk b.Aq b.Aa&&((b.Ah.length:Int)==(b.Aa.Ap.length:Int)))&&bG (λj=>BY (gt b.Ah j) (ZB b.Aa (j:Int))) b.Ah.length
theorem ZZ{b:qf}(h:wj b):Ev (λn=>un n b) (aL b):=by
 have r:=h.Ah.len;unfold un aL;refine Ev.guardB (Ev.or (WK h.Aq h.Aa) λ_=>.done) λl=>?_;rw[je,beq_iff_eq] at l;obtain⟨o,y⟩:=l;have i:=ab o;have u:=bj i;have v:=i.nn;rw[FI (m:=b.Ah.length) (by omega)];simp only[jd];have f:Ev (λn=>gX (places b.Aa) n (io (λ_=>0) b.Ah.length) 0) (io (λk=>ZB b.Aa (k:Int)) b.Ah.length,((places b.Aa).length:Int)):=by
  refine fq (Lf:=gX (places b.Aa)) (S:=λj=>io (λk=>gr (uK b.Aa (k:Int)) j) b.Ah.length) (len:=(places b.Aa).length) (λn=>?_) (λj a X d=>?_)
  .simp only[gX,qr (jf _),Cj];rfl
  .simp only[gX,qp a,Ci,qz a,jd,wS j];obtain⟨s,n1⟩:=BB o a;cases h1:(gt (places b.Aa) j).drives
   .have t:gr (uK b.Aa (((gt (places b.Aa) j).net.toNat:Nat):Int)) j<=j:=oE;obtain⟨e1,p⟩:=AD (c:=λk=>gr (uK b.Aa (k:Int)) j) (c':=λk=>gr (uK b.Aa (k:Int)) (j+1)) (x:=(gt (places b.Aa) j).net) (m:=b.Ah.length) s (by omega) (by show gr _ _<_;omega) (λk _=>by
     show gr _ j+(bif uK b.Aa (k:Int) j then 1 else 0)=_;unfold uK;rw[h1,Bool.not_false,Bool.and_true])
    simp only[Bool.not_false,Ci,jd,e1,p];exact d
   .have:io (λk=>gr (uK b.Aa (k:Int)) (j+1)) b.Ah.length=io (λk=>gr (uK b.Aa (k:Int)) j) b.Ah.length:=by
     refine xX (λk _=>?_);show gr _ j+(bif uK b.Aa (k:Int) j then 1 else 0)=_;unfold uK;rw[h1,Jq,Bool.and_false];rfl
    rw[this] at d;exact d
 have g:Ev (λn=>mC b (io (λk=>ZB b.Aa (k:Int)) b.Ah.length) n 0) (bif bG (λj=>BY (gt b.Ah j) (ZB b.Aa (j:Int))) b.Ah.length then .nxt (b.Ah.length:Int) else .ret Cd):=by
  refine ll ?_ (λj a X d=>Cm ?_)
  .exact Cm (by simp only[mC,qr (jf _),Cj];exact .done)
  .simp only[mC,qp a,Ci,qz a,xY a,jd,wS j];exact Ev.chk1 (O1 (CY h.Ah a)) λ_=>d
 refine Ck (FC i) (Ck f (Ck g ?_));cases bG (λj=>BY (gt b.Ah j) (ZB b.Aa (j:Int))) b.Ah.length<;>exact .done
theorem rE{b:qf}(h:wj b):Ev (λn=>ki n b) (aL b):=by
 have i:=h.Ah.len;unfold ki aL;refine Ev.guardB (Ev.or (VN h.Aq h.Aa) λ_=>.done) λc=>?_;rw[je] at c;have g:=ab c.1;have d:Ev (λn=>mI b n 0) (bif bG (λj=>BY (gt b.Ah j) (ZB b.Aa (j:Int))) b.Ah.length then .nxt (b.Ah.length:Int) else .ret Cd):=by
  refine ll ?_ (λj a X f=>Cm ?_)
  .exact Cm (by simp only[mI,qr (jf _),Cj];exact .done)
  .simp only[mI,qp a,Ci,qz a,jd,wS j];refine Ck (yv g) ?_;rw[vz];exact Ev.chk1 (F3 (CY h.Ah a)) λ_=>f
 refine Ck d ?_;cases bG (λj=>BY (gt b.Ah j) (ZB b.Aa (j:Int))) b.Ah.length<;>exact .done

def cQ(d:qk)(i:Nat):Nat:=(QW d i).length
def zb(d:qk)(i k:Nat):aY:=⟨(i:Int),(k:Int),bm (gt d.Ab i).Ap k,decide (k+1=(gt d.Ab i).Ap.length)⟩
def VF(d:qk)(i:Nat):aY:=⟨-1,(i:Int),(gt d.Ai i).Cb,(gt d.Ai i).Bx==1⟩
theorem xP{d:qk}{i:Nat}:cQ d (i+1)=cQ d i+(gt d.Ab i).Ap.length:=by
 unfold cQ;rw[DW,jg,OE]
theorem E2{d:qk}{i j:Nat}(h:i<=j):cQ d i<=cQ d j:=by
 induction j with
 |zero=>
  obtain rfl:i=0:=by omega
  exact jf _
 |succ j ih=>
  rcases Nat.lt_or_eq_of_le h with h|rfl
  .rw[xP];have:=ih (by omega);omega
  .exact jf _
theorem rt{d:qk}:(places d).length=cQ d d.Ab.length+d.Ai.length:=by
 unfold places cQ;rw[jg,OD]
theorem qdJ{d:qk}{n i k:Nat}(hi:i<n)(c:k<(gt d.Ab i).Ap.length):cQ d i+k<cQ d n/\gt (QW d n) (cQ d i+k)=zb d i k:=by
 induction n with
 |zero=>omega
 |succ n ih=>
  rw[DW,zo];rcases Nat.lt_succ_iff_lt_or_eq.1 hi with h|rfl
  .obtain⟨a,b⟩:=ih h;refine⟨by rw[xP];omega,?_⟩;rw[if_pos (show cQ d i+k<(QW d n).length from a),b]
  .refine⟨by rw[xP];omega,?_⟩;rw[if_neg (by unfold cQ;omega),show cQ d i+k-(QW d i).length=k by unfold cQ;omega];exact OX c
theorem xr{d:qk}{i k:Nat}(hi:i<d.Ab.length)(c:k<(gt d.Ab i).Ap.length):cQ d i+k<(places d).length/\gt (places d) (cQ d i+k)=zb d i k:=by
 obtain⟨a,b⟩:=qdJ hi c;refine⟨by rw[rt];omega,?_⟩;unfold places;rw[zo,if_pos (show cQ d i+k<(QW d d.Ab.length).length from a),b]
theorem SW{d:qk}{i:Nat}(hi:i<d.Ai.length):cQ d d.Ab.length+i<(places d).length/\gt (places d) (cQ d d.Ab.length+i)=VF d i:=by
 refine⟨by rw[rt];omega,?_⟩;unfold places;rw[zo,if_neg (by unfold cQ;omega),show cQ d d.Ab.length+i-(QW d d.Ab.length).length=i by unfold cQ;omega];exact OX hi
theorem T2{d:qk}{n j:Nat}(a:j<cQ d n):∃i k,i<n/\k<(gt d.Ab i).Ap.length/\j=cQ d i+k:=by
 induction n with
 |zero=>exact absurd a (Jm _)
 |succ n ih=>
  by_cases h:j<cQ d n
  .obtain⟨i,k,f,b,c⟩:=ih h;exact⟨i,k,by omega,b,c⟩
  .rw[xP] at a;exact⟨n,j-cQ d n,by omega,by omega,by omega⟩
theorem yy{d:qk}{j:Nat}(c:j<(places d).length) :
  (∃i k,i<d.Ab.length/\k<(gt d.Ab i).Ap.length/\j=cQ d i+k/\gt (places d) j=zb d i k) \/
  (∃i,i<d.Ai.length/\j=cQ d d.Ab.length+i/\gt (places d) j=VF d i):=by
 rw[rt] at c;by_cases h:j<cQ d d.Ab.length
 .obtain⟨i,k,a,b,rfl⟩:=T2 h;exact .inl ⟨i,k,a,b,Z,(xr a b).2⟩
 .refine .inr ⟨j-cQ d d.Ab.length,by omega,by omega,?_⟩;have:=(SW (d:=d) (i:=j-cQ d d.Ab.length) (by omega)).2;rwa [show cQ d d.Ab.length+(j-cQ d d.Ab.length)=j by omega] at this
def AK(d:qk)(k:Int)(j:Nat):Bool:=((gt (places d) j).net==k)&&(gt (places d) j).drives
theorem XA{q:Nat->Bool}{m n:Nat}:gr q (m+n)=gr q m+gr (λj=>q (m+j)) n:=by
 induction n with
 |zero=>rfl
 |succ n ih=>
  show gr q (m+n)+(bif q (m+n) then 1 else 0)=gr q m+(gr (λj=>q (m+j)) n+(bif q (m+n) then 1 else 0));rw[ih];omega
theorem O8{q:Nat->Bool}{n:Nat}{b:Bool}(h:1<=n)(a:∀j,j+1<n->q j=Cd)(c:q (n-1)=b):gr q n=bif b then 1 else 0:=by
 obtain⟨m,rfl⟩:∃m,n=m+1:=⟨n-1,by omega⟩;show gr q m+(bif q m then 1 else 0)=_;rw[EW.2 (λj d=>a j (by omega)),show m=m+1-1 by omega,c,Jg]
theorem C3{d:qk}{k:Nat}(b:wE d):gr (AK d (k:Int)) (places d).length=nY d k d.Ab.length+vT d k d.Ai.length:=by
 rw[rt,XA]
 congr 1
 .have:∀n,n<=d.Ab.length->gr (AK d (k:Int)) (cQ d n)=nY d k n:=by
   intro n
   induction n with
   |zero=>intro _;rfl
   |succ n ih=>
    intro f;rw[xP,XA,ih (by omega),KS]
    congr 1
    have c:=(b.nx n (by omega)).1;refine O8 (by omega) (λj a=>?_) ?_
    .show AK d _ (cQ d n+j)=Cd;unfold AK;rw[(xr (by omega) (by omega)).2];unfold zb;simp;omega
    .show AK d _ (cQ d n+_)=_;unfold AK;rw[(xr (by omega) (by omega)).2];unfold zb DN;simp;omega
  exact this _ (jf _)
 .refine OQ (λj a=>?_);show AK d _ (cQ d _+j)=_;unfold AK;rw[(SW a).2];unfold VF;exact Bool.and_comm _ _
theorem H7{l:qD}{d:qk}(h:lk l d=An){k:Nat}(a:k<d.Ap.length):gr (AK d (k:Int)) (places d).length=1:=by
 rw[C3 (ab h)];unfold lk C2 at h;simp only[je] at h;have:=aA.1 h.2.2.2 k a;rw[beq_iff_eq] at this;omega
theorem XH{l:qD}{d:qk}(h:lk l d=An){i j:Nat}(hi:i<(places d).length)(f:j<(places d).length)(c:(gt (places d) i).net=(gt (places d) j).net)(a:(gt (places d) i).drives=An)(b:(gt (places d) j).drives=An):i=j:=by
 obtain⟨g,n1⟩:=BB h hi;have e:=fB g;have:=H7 h (k:=(gt (places d) i).net.toNat) (by omega);refine XB (Nat.le_of_eq this) hi f ?_ ?_
 .unfold AK;rw[<-e,a];simp
 .unfold AK;rw[<-e,b,c];simp
theorem qdk{l:qD}{d:qk}(h:lk l d=An){k:Int}(c:0<=k)(g:k<d.Ap.length):∃j,j<(places d).length/\(gt (places d) j).net=k/\(gt (places d) j).drives=An:=by
 have e:=fB c;have:=H7 h (k:=k.toNat) (by omega);have b:decide (0<gr (AK d ((k.toNat:Nat):Int)) (places d).length)=An:=by rw[this];rfl
 rw[XC,jC,AI] at b;obtain⟨j,f,a⟩:=b;rw[Bool.not_eq_false',<-e] at a;unfold AK at a;simp only[je,beq_iff_eq] at a;exact⟨j,f,a.1,a.2⟩
def bW(b:qf)(i:Int):qQ:=gt b.Aq.As (gt b.Aa.Ab i.toNat).Bv.toNat
theorem pu{l:qD}{d:qk}(h:lk l d=An){i:Nat}(hi:i<d.Ab.length) :
  (0<=(gt d.Ab i).Bv/\(gt d.Ab i).Bv<l.As.length)/\(gt d.Ab i).Ap.length=(gt l.As (gt d.Ab i).Bv.toNat).Bh.length/\sC (gt l.As (gt d.Ab i).Bv.toNat)=An:=by
 unfold lk NI at h;simp only[je] at h;obtain⟨⟨⟨b,_⟩,_⟩,a,_⟩:=h;rw[ue,aA] at a b;have:=a i hi;unfold wg at this;simp only[je,cu,beq_iff_eq] at this;exact⟨⟨this.1.1,by omega⟩,by omega,b _ (by omega)⟩
theorem CT{c:qQ}(h:sC c=An){j:Nat}(f:j<c.Av.length):(1<=(gt c.Av j).Bf/\(gt c.Av j).Bf<=5)/\(0<=(gt c.Av j).Bm/\(gt c.Av j).Bm<(c.Bh.length:Int)-1)/\(0<=(gt c.Av j).To/\(gt c.Av j).To<=(c.Bh.length:Int)-1)/\CO c.Bh (gt c.Av j)=An:=by
 unfold sC at h;simp only[je] at h;obtain⟨_,i,⟨d,_⟩,_,_,g⟩:=h;have:=aA.1 d j f;rw[je,Y3 i (SL g)] at this;have b:=this.1;refine⟨RW b,?_⟩;have a:=b;unfold CO at a;simp only[je,cu] at a;refine⟨⟨a.1.1.1,by omega⟩,a.1.2,b⟩
theorem GR{c:qQ}(h:sC c=An):c.Av.length<=8:=by
 unfold sC at h;simp only[je,decide_eq_true_eq] at h;exact h.2.2.1.2
theorem aO{b:qf}(h:aL b=An):lk b.Aq b.Aa=An:=by
 unfold aL at h;simp only[je] at h;exact h.1.1
end Go.Fw


namespace Go.Fw
open Go Go.Proofs Go.Proofs.Tryz
open Go.RowKit (Below)
open Ch renaming own->oW,box->oX,grp->oG
open qm renaming v->oV
open Go.Value renaming slice->oS
set_option maxRecDepth 100000
set_option maxHeartbeats 6400000
variable{n:Nat}{w:World}{cs1 cs2 cs3 cs4 cs5 cs6 cs7 cs8 cs9:List Value}
def nC(_:Nat)(list:List qx)(a_from:Int)(a_to:Int)(a:Int)(b:Int)(kind:Int)(index:Int):Option (List qx):=(df list ([(⟨qj ((qj (2*a_from))+a),qj ((qj (2*a_to))+b),kind,index⟩:qx)]:List qx)).bind λx1=>V x1
theorem ox{n g w F}{list:List qx}{a_from a_to a b kind index S1 p1 d f}(h:SH g w (oW S1 (list:List qx) [oS p1 d f]::F))  {r:List qx}(k:nC n list a_from a_to a b kind index=V r):qbw prog 170 [oS p1 d f,vi a_from,vi a_to,vi a,vi b,vi kind,vi index] w g F r:=by
 refine MP func170 Z (m:=29) Z Z ?_;obtain rfl:=(h.sl 0 Z).2;refine X0 17 Z (dF (qB qa [0,1,2,3] [.tmp 19,.tmp 23,.tmp 24,.tmp 25] z8) Z (qt qa [.tmp 26] _ ([(⟨qj ((qj (2*a_from))+a),qj ((qj (2*a_to))+b),kind,index⟩:qx)]:List qx) h z9 ⟨(ga (⟨qj ((qj (2*a_from))+a),qj ((qj (2*a_to))+b),kind,index⟩:qx)),G⟩ Z λ_ _ _ h=>?_));obtain⟨_,c,k⟩:=qc k;obtain⟨i,c⟩:=qJ c;refine bn qa 1 h Z (h.sl 0 Z).1 (h.sl 0 Z).2 z9 i c Z λ_ _ _ _ h=>X0 2 Z ?_;obtain rfl:=qe k;have h:=h.pickT 2 [1] Z;exact qaX qa h ⟨Z,G⟩
def cO(g:bo)(a_from:Int)(a_to:Int)(index:Int)(a:Int):Nat->(List qx)->Int->Option ((List qx)×Int)|0,_,_=>U|n+1,c,b=>bif decide (b<=1) then bif (g.Bf==1) then(bif (g.Br==3) then V An else V ((g.Br==1)==(a==b))).bind λb1=>bif b1 then(nC n c a_from a_to a b 1 index).bind λr1=>cO g a_from a_to index a n r1 (qj (b+1)) else cO g a_from a_to index a n c (qj (b+1)) else bif (g.Bf==2) then bif (a==0) then(nC n c a_from a_to a b 1 index).bind λd=>cO g a_from a_to index a n d (qj (b+1)) else cO g a_from a_to index a n c (qj (b+1)) else bif (g.Bf==3) then bif (a==1) then(nC n c a_from a_to a b 1 index).bind λf=>cO g a_from a_to index a n f (qj (b+1)) else cO g a_from a_to index a n c (qj (b+1)) else cO g a_from a_to index a n c (qj (b+1)) else V (c,b)
def me(c:bo)(a_from:Int)(a_to:Int)(index:Int):Nat->(List qx)->Int->Option ((List qx)×Int)|0,_,_=>U|n+1,x1,a=>bif decide (a<=1) then(cO c a_from a_to index a n x1 0).bind λ(b,_)=>me c a_from a_to index n b (qj (a+1)) else V (x1,a)
def yI(n:Nat)(list:List qx)(a:bo)(a_from:Int)(a_to:Int)(index:Int):Option (List qx):=(me a a_from a_to index n list 0).bind λ(x1,_)=>V x1
theorem NN{n d w F}{list:List qx}{P:bo}{a_from a_to index S1 p1 o M}(h:SH d w (oW S1 (list:List qx) [oS p1 o M]::F)){cs1}(z:qm.R d (old d) P cs1){r:List qx}(O:yI n list P a_from a_to index=V r):qbw prog 167 [oS p1 o M,gv P cs1,vi a_from,vi a_to,vi index] w d F r:=by
 obtain⟨J,D,K,k3,rfl,_,_⟩:=bd z;refine MP func167 Z (m:=55) Z Z ?_;obtain rfl:=(h.sl 0 Z).2;refine db (qK h Z Z λ_ a h=>X0 7 Z ?_);obtain⟨o1,O,x⟩:=qc O;refine qq (rL (λm e w'=>∃S2 L b H x1 f,me P a_from a_to index m x1 f=V o1/\e=[(0,oS L b H),(2,vi a_from),(3,vi a_to),(4,vi index),(6,vp a),(11,vi f)]/\SH d w' (oX a (kI P J K D k3) 109::oW S2 (x1:List qx) [oS L b H]::F)) n ⟨_,_,_,_,_,_,O,Z,h⟩ Z ?_);rintro I _ _ ⟨S2,L,b,H,x1,f,O,rfl,h⟩;obtain rfl:=(h.sl 1 Z).2;rcases I with _|I
 .cases O
 refine X0 6 Z (qn Z O ?_ ?_)<;>intro O
 .refine X0 7 Z ?_;obtain⟨o2,O,y⟩:=qc O;refine qq (rL (λm e w'=>∃v p c l g s,cO P a_from a_to index f m g s=V o2/\e=[(0,oS p c l),(2,vi a_from),(3,vi a_to),(4,vi index),(6,vp a),(11,vi f),(12,vi s)]/\SH d w' (oX a (kI P J K D k3) 109::oW v (g:List qx) [oS p c l]::F)) I ⟨_,_,_,_,_,_,O,Z,h⟩ Z ?_);rintro N _ _ ⟨v,p,c,l,g,s,O,rfl,h⟩;obtain rfl:=(h.sl 1 Z).2;rcases N with _|N
  .cases O
  refine X0 6 Z (qn Z O ?_ ?_)<;>intro O
  .refine X1 19 0 h Z (qn Z O ?_ ?_)<;>intro O
   .obtain⟨u,k,_,O,i⟩:=bindE O;refine bw (λe w'=>∃b1,u b1=V o2/\e=[(0,oL p g l),(2,vi a_from),(3,vi a_to),(4,vi index),(6,vp a),(11,vi f),(12,vi s),(13,.bool b1)]/\SH d w' (oX a (kI P J K D k3) 109::oW v (g:List qx) [oL p g l]::F)) ?_ ?_
    .refine X1 5 0 h Z (qh (t:=29) O Z ?_ ?_)<;>intro O
     .refine X0 10 Z ?_;exact rH O i h Z
     refine X1 17 0 h Z ?_;exact rH O i h Z
    rintro _ _ ⟨b1,O,rfl,h⟩;subst k;refine X0 5 Z (qn Z O ?_ ?_)<;>intro O
    .refine X0 7 Z ?_;have h:=h.pickT 2 [1,0] Z;obtain⟨_,A,O⟩:=qc O;refine FE (cB 170 Z) (ox h A) Z Z Z Z λ_ _ _ _ h=>X0 8 Z ?_;exact rK ⟨_,_,_,_,_,_,O,Z,h.pickT 2 [1,0] Z⟩ Z
    exact X0 7 Z (rK ⟨_,_,_,_,_,_,O,Z,h⟩ Z)
   refine X0 5 Z (qn Z O ?_ ?_)<;>intro O
   .refine X0 10 Z (qn Z O ?_ ?_)<;>intro O
    .refine X0 7 Z ?_;have h:=h.pickT 2 [1,0] Z;obtain⟨_,B,O⟩:=qc O;refine FE (cB 170 Z) (ox h B) Z Z Z Z λ_ _ _ _ h=>X0 8 Z ?_;exact rK ⟨_,_,_,_,_,_,O,Z,h.pickT 2 [1,0] Z⟩ Z
    exact X0 7 Z (rK ⟨_,_,_,_,_,_,O,Z,h⟩ Z)
   refine X0 5 Z (qn Z O ?_ ?_)<;>intro O
   .refine X0 10 Z (qn Z O ?_ ?_)<;>intro O
    .refine X0 7 Z ?_;have h:=h.pickT 2 [1,0] Z;obtain⟨_,C,O⟩:=qc O;refine FE (cB 170 Z) (ox h C) Z Z Z Z λ_ _ _ _ h=>X0 8 Z ?_;exact rK ⟨_,_,_,_,_,_,O,Z,h.pickT 2 [1,0] Z⟩ Z
    exact X0 7 Z (rK ⟨_,_,_,_,_,_,O,Z,h⟩ Z)
   exact X0 6 Z (bQ Z Z (X0 7 Z (rK ⟨_,_,_,_,_,_,O,Z,h⟩ Z)))
  refine qy Z ?_;cases qe O;exact X0 6 Z (rK ⟨_,_,_,_,_,_,y,Z,h⟩ Z)
 refine qy Z ?_;cases qe O;replace O:=x;refine X0 5 Z ?_;obtain rfl:=qe O;have h:=h.pickT 2 [1] Z;exact qaX qa h ⟨Z,G⟩
def kY(d:Int)(pin:Int)(r1:List qW):Nat->Int->Option (eE Int Int)|0,_=>U|n+1,a=>bif decide (a<(r1.length:Int)) then(qG r1 a).bind λb=>bif (b.instance_==d) then(qG r1 a).bind λc=>bif (c.pin==pin) then V (.ret a) else kY d pin r1 n (qj (a+1)) else kY d pin r1 n (qj (a+1)) else V (.nxt a)
def uQ(n:Nat)(d:qk)(a:Int)(pin:Int):Option Int:=(fa n d).bind λr1=>(kY a pin r1 n 0).bind λ|.ret r=>V r|.nxt _=>V (-1)
theorem BV{d:qk}{a_instance pin}(b:Ro w d cs1){r:Int}(F:uQ n d a_instance pin=V r):qN prog 168 [gv d cs1,vi a_instance,vi pin] w r:=by
 obtain⟨_,_,_,_,_,_,rfl,_,_,_⟩:=cn b;refine zV 34 func168 Z λh=>db (qK h Z Z λ_ _ h=>X1 5 0 h Z (uY h F (eH (h.old b)) Z λr1 _ S1 z x h F=>X0 7 Z ?_));obtain⟨o1,F,a⟩:=qc F;refine qq ?_;have h:=h.p [0] Z;refine rL (λm e w'=>∃v,kY a_instance pin r1 m v=V o1/\e=[(1,vi a_instance),(2,vi pin),(7,oL z r1 x),(8,vi v)]/\SH w w' [oW S1 (r1:List qW) [oL z r1 x]]) n ⟨_,F,Z,h⟩ Z ?_;rintro y _ _ ⟨v,F,rfl,h⟩;rcases y with _|y
 .cases F
 refine X0 8 Z (qn Z F ?_ ?_)<;>intro F
 .refine X0 7 Z ?_;obtain⟨_,_,F,c,_,_,_,_,k,o,s,g⟩:=(h.sl 0 Z).1.ix F;obtain rfl:=dw s;refine zx k o ⟨c.1,qE c.2.1 (h.sl 0 Z).2⟩ Z (cr Z (zc 0 g Z (CK Z (qh (t:=24) F Z ?_ ?_))))<;>intro F
  .refine X0 5 Z ?_;obtain⟨_,_,F,f,_,_,_,_,l,p,u,i⟩:=(h.sl 0 Z).1.ix F;obtain rfl:=dw u;refine zx l p ⟨f.1,qE f.2.1 (h.sl 0 Z).2⟩ Z (X0 3 Z (zc 1 i Z (X0 6 Z (qn Z F ?_ ?_))))<;>intro F
   .refine X0 5 Z ?_;cases qe F;exact ri h a Z
   exact X0 7 Z (rK ⟨_,F,Z,h⟩ Z)
  exact X0 9 Z (bQ Z Z (X0 7 Z (rK ⟨_,F,Z,h⟩ Z)))
 refine qy Z ?_;cases qe F;exact X0 4 Z (ri h a Z)
def gH(net:Int)(r1:List qW):Nat->Int->Option (eE Int Int)|0,_=>U|n+1,a=>bif decide (a<(r1.length:Int)) then(qG r1 a).bind λb=>bif (b.net==net) then(qG r1 a).bind λc=>bif c.drives then V (.ret a) else gH net r1 n (qj (a+1)) else gH net r1 n (qj (a+1)) else V (.nxt a)
def uP(n:Nat)(d:qk)(net:Int):Option Int:=(fa n d).bind λr1=>(gH net r1 n 0).bind λ|.ret r=>V r|.nxt _=>V (-1)
theorem IZ{d:qk}{net}(b:Ro w d cs1){r:Int}(F:uP n d net=V r):qN prog 169 [gv d cs1,vi net] w r:=by
 obtain⟨_,_,_,_,_,_,rfl,_,_,_⟩:=cn b;refine zV 30 func169 Z λh=>db (qK h Z Z λ_ _ h=>X1 5 0 h Z (uY h F (eH (h.old b)) Z λr1 _ S1 z x h F=>X0 7 Z ?_));obtain⟨o1,F,a⟩:=qc F;refine qq ?_;have h:=h.p [0] Z;refine rL (λm e w'=>∃v,gH net r1 m v=V o1/\e=[(1,vi net),(5,oL z r1 x),(6,vi v)]/\SH w w' [oW S1 (r1:List qW) [oL z r1 x]]) n ⟨_,F,Z,h⟩ Z ?_;rintro y _ _ ⟨v,F,rfl,h⟩;rcases y with _|y
 .cases F
 refine X0 8 Z (qn Z F ?_ ?_)<;>intro F
 .refine X0 7 Z ?_;obtain⟨_,_,F,c,_,_,_,_,k,o,s,g⟩:=(h.sl 0 Z).1.ix F;obtain rfl:=dw s;refine zx k o ⟨c.1,qE c.2.1 (h.sl 0 Z).2⟩ Z (cr Z (zc 2 g Z (CK Z (qh (t:=22) F Z ?_ ?_))))<;>intro F
  .refine X0 5 Z ?_;obtain⟨_,_,F,f,_,_,_,_,l,p,u,i⟩:=(h.sl 0 Z).1.ix F;obtain rfl:=dw u;refine zx l p ⟨f.1,qE f.2.1 (h.sl 0 Z).2⟩ Z (X0 3 Z (zc 3 i Z (X0 2 Z (qn Z F ?_ ?_))))<;>intro F
   .refine X0 5 Z ?_;cases qe F;exact ri h a Z
   exact X0 7 Z (rK ⟨_,F,Z,h⟩ Z)
  exact X0 7 Z (bQ Z Z (X0 7 Z (rK ⟨_,F,Z,h⟩ Z)))
 refine qy Z ?_;cases qe F;exact X0 4 Z (ri h a Z)
def gh(Ce:qf)(c:Int)(b:qQ):Nat->(List qx)->Int->Option ((List qx)×Int)|0,_,_=>U|n+1,d,a=>bif decide (a<(b.Av.length:Int)) then(qG b.Av a).bind λh=>bif decide (h.Bf<=3) then(qG b.Av a).bind λi=>(qG b.Av a).bind λk=>(qG b.Av a).bind λl=>(uQ n (⟨Ce.Aa.Ab,Ce.Aa.Ap,Ce.Aa.Ai⟩:qk) c k.Bm).bind λr1=>(uQ n (⟨Ce.Aa.Ab,Ce.Aa.Ap,Ce.Aa.Ai⟩:qk) c l.To).bind λf=>(yI n d i r1 f a).bind λg=>gh Ce c b n g (qj (a+1)) else gh Ce c b n d (qj (a+1)) else V (d,a)
def iQ(c:Int)(b:List Int):Nat->(List qx)->Int->Option ((List qx)×Int)|0,_,_=>U|n+1,d,a=>bif decide (a<(b.length:Int)) then(qG b a).bind λh=>(nC n d c h 0 0 2 a).bind λf=>(qG b a).bind λi=>(nC n f c i 1 1 2 a).bind λg=>iQ c b n g (qj (a+1)) else V (d,a)
def iP(Ce:qf):Nat->(List qx)->Int->Option ((List qx)×Int)|0,_,_=>U|n+1,b,a=>bif decide (a<(Ce.Aa.Ap.length:Int)) then(uP n (⟨Ce.Aa.Ab,Ce.Aa.Ap,Ce.Aa.Ai⟩:qk) a).bind λc=>(nL n (⟨Ce.Aa.Ab,Ce.Aa.Ap,Ce.Aa.Ai⟩:qk) a).bind λd=>(iQ c d n b 0).bind λ(f,_)=>iP Ce n f (qj (a+1)) else V (b,a)
def iO(Ce:qf):Nat->(List qx)->Int->Option ((List qx)×Int)|0,_,_=>U|n+1,x1,a=>bif decide (a<(Ce.Aa.Ab.length:Int)) then(qG Ce.Aa.Ab a).bind λc=>(qG Ce.Aq.As c.Bv).bind λd=>(gh Ce a d n x1 0).bind λ(b,_)=>iO Ce n b (qj (a+1)) else V (x1,a)
def kj(n:Nat)(Ce:qf):Option (List qx):=(iO Ce n ([]:List qx) 0).bind λ(x1,_)=>(iP Ce n x1 0).bind λ(a,_)=>V a
theorem lQ{Ce:qf}(W:Ro w Ce cs1){r:List qx}(F:kj n Ce=V r):qN prog 106 [gv Ce cs1] w r:=by
 obtain⟨p1,k1,v,t,x,k3,y,u,p5,k5,rfl,s1,s2,N,O,_⟩:=qZ W;refine zV 105 func106 Z λh=>db (qK h Z Z λ_ b h=>X0 4 Z (qt qa [] _ ([]:List qx) h z9 trivial Z λ_ _ _ h=>X1 6 1 h Z (qi qa h Z Z Z λ_ a h=>zs 0 h Z λ_ h=>X0 6 Z ?_)));obtain⟨o1,F,Q⟩:=qc F;refine qq (rL (λm e w'=>∃S2 p7 g k6 x1 I,iO Ce m x1 I=V o1/\e=[(1,vp b),(3,oS p7 g k6),(4,vp a),(5,vi I)]/\SH w w' [oX a (bh Ce.Aa v x y t k3 u) 31,oW S2 (x1:List qx) [oS p7 g k6],oX b (qL Ce p1 v x y p5 k1 t k3 u k5) 34]) n ⟨_,_,_,_,_,_,F,Z,h⟩ Z ?_);rintro m1 _ _ ⟨S2,p7,g,k6,x1,I,F,rfl,h⟩;obtain rfl:=(h.sl 1 Z).2;rcases m1 with _|m1
 .cases F
 refine X1 9 0 h Z (qn Z F ?_ ?_)<;>intro F
 .refine X0 4 Z (rD (Y1 3 2 h Z ?_));refine Y1 2 0 h Z ?_;refine xm Z ?_;obtain⟨_,_,F,a7,_,_,_,_,b7,c6,d5,X⟩:=s2.ix F;obtain⟨_,_,rfl,_⟩:=bI d5;refine fU b7 c6 a7 Z (xm Z (dZ 1 X h Z ?_));obtain⟨y2,_,F,a8,_,_,_,_,b8,c7,d6,Y⟩:=s1.ix F;obtain⟨_,_,p10,k9,_,_,rfl,_,P,_⟩:=aV d6;refine fU b8 c7 a8 Z (xm Z (dZ 3 Y h Z (xm Z (dN h λ_ h=>X0 4 Z ?_))));obtain⟨o2,F,R⟩:=qc F;refine qq (rL (λm e w'=>∃S3 o i c x2 i2,gh Ce I y2 m x2 i2=V o2/\e=[(1,vp b),(3,oS o i c),(4,vp a),(5,vi I),(6,oL p10 y2.Av k9),(7,vi i2)]/\SH w w' [oX a (bh Ce.Aa v x y t k3 u) 31,oW S3 (x2:List qx) [oS o i c],oX b (qL Ce p1 v x y p5 k1 t k3 u k5) 34]) m1 ⟨_,_,_,_,_,_,F,Z,h⟩ Z ?_);rintro m2 _ _ ⟨S3,o,i,c,x2,i2,F,rfl,h⟩;obtain rfl:=(h.sl 1 Z).2;rcases m2 with _|m2
  .cases F
  refine X0 8 Z (qn Z F ?_ ?_)<;>intro F
  .refine X0 7 Z ?_;obtain⟨_,_,F,a9,_,_,_,_,b9,c8,d7,a3⟩:=P.ix F;obtain⟨_,_,_,_,rfl,_,_⟩:=bd d7;refine ft b9 c8 a9 Z (cr Z (bL 0 a3 h Z (X0 2 Z (qn Z F ?_ ?_))))<;>intro F
   .refine rA [] [0] h Z λ_ h=>M0 7 [0,1,2] (h.p [0] Z) Z ?_;obtain⟨y4,_,F,b4,_,_,_,_,c0,c9,d8,a4⟩:=P.ix F;obtain⟨_,_,_,_,rfl,s12,s13⟩:=bd d8;refine Ae 3 15 c0 c9 b4 (h.p [0] Z) Z (Al 4 31 0 a4 (h.p [0] Z) Z (M1 511 [5,6,7,8] 0 (h.p [0] Z) Z ?_));obtain⟨_,_,F,b5,_,_,_,_,c2,d0,d9,a5⟩:=P.ix F;obtain⟨_,_,_,_,rfl,_,_⟩:=bd d9;refine Ae 9 1023 c2 d0 b5 (h.p [0] Z) Z (M0 2047 [10] (h.p [0] Z) Z (Al 11 4095 1 a5 (h.p [0] Z) Z (M1 126975 [13,14,15,16] 0 (h.p [0] Z) Z ?_)));obtain⟨_,_,F,b6,_,_,_,_,c3,d1,e2,a6⟩:=P.ix F;obtain⟨_,_,_,_,rfl,_,_⟩:=bd e2;refine Ae 17 258047 c3 d1 b6 (h.p [0] Z) Z (M0 520191 [18] (h.p [0] Z) Z (Al 19 1044479 2 a6 (h.p [0] Z) Z (M0 3141631 [21] (h.p [0] Z) Z (Ao 12 3145727 Z (mR h F (BV (cp _ (h.oldS s2) (h.oldS N) (h.oldS O))) Z λ_ _ h F=>Ag (h.p [0] Z) (Ao 20 4194303 Z (mR h F (BV (cp _ (h.oldS s2) (h.oldS N) (h.oldS O))) Z λ_ _ h F=>Ag (h.p [0] Z) (Ao 22 8388607 Z ?_))))))));have h:=h.p [1,0,2] Z;obtain⟨_,e3,F⟩:=qc F;refine FE (cB 167 Z) (NN h (uC y4 s12 s13) e3) Z Z Z Z λ_ _ _ _ h=>G0 16777215 [23] (h.p [1] Z) Z (Ad (X0 6 Z ?_));exact rK ⟨_,_,_,_,_,_,F,Z,h.p [1,0,2] Z⟩ Z
   exact X0 7 Z (rK ⟨_,_,_,_,_,_,F,Z,h⟩ Z)
  refine qy Z ?_;cases qe F;exact X0 6 Z (rK ⟨_,_,_,_,_,_,R,Z,h⟩ Z)
 refine qy Z ?_;cases qe F;have F:=Q;refine X0 5 Z ?_;obtain⟨o3,F,S⟩:=qc F;refine qq ?_;have h:=h.p [0,1] Z;refine rL (λm e w'=>∃S5 p k d x3 L,iP Ce m x3 L=V o3/\e=[(3,oS p k d),(4,vp a),(8,vi L)]/\SH w w' [oX a (bh Ce.Aa v x y t k3 u) 31,oW S5 (x3:List qx) [oS p k d]]) n ⟨_,_,_,_,_,_,F,Z,h⟩ Z ?_;rintro m3 _ _ ⟨S5,p,k,d,x3,L,F,rfl,h⟩;obtain rfl:=(h.sl 1 Z).2;rcases m3 with _|m3
 .cases F
 refine X1 9 0 h Z (qn Z F ?_ ?_)<;>intro F
 .refine X1 7 0 h Z (mR h F (IZ (cp _ (h.oldS s2) (h.oldS N) (h.oldS O))) Z λr4 _ h F=>X1 6 0 h Z (uY h F (sq (cp _ (h.oldS s2) (h.oldS N) (h.oldS O))) Z λM _ S6 K J h F=>X0 6 Z ?_));obtain⟨o4,F,T⟩:=qc F;refine qq (rL (λm e w'=>∃S7 s l f x4 i4,iQ r4 M m x4 i4=V o4/\e=[(3,oS s l f),(4,vp a),(8,vi L),(9,vi r4),(10,oL K M J),(11,vi i4)]/\SH w w' [oW S6 (M:List Int) [oL K M J],oX a (bh Ce.Aa v x y t k3 u) 31,oW S7 (x4:List qx) [oS s l f]]) m3 ⟨_,_,_,_,_,_,F,Z,h⟩ Z ?_);rintro m4 _ _ ⟨S7,s,l,f,x4,i4,F,rfl,h⟩;obtain rfl:=(h.sl 2 Z).2;rcases m4 with _|m4
  .cases F
  refine X0 8 Z (qn Z F ?_ ?_)<;>intro F
  .refine X0 9 Z ?_;obtain⟨_,_,F,B,_,_,_,_,c4,d3,rfl,z⟩:=(h.sl 0 Z).1.ix F;refine zx c4 d3 ⟨B.1,qE B.2.1 (h.sl 0 Z).2⟩ Z (zc 0 z Z (cr Z ?_));have h:=h.p [2,0,1] Z;obtain⟨_,D,F⟩:=qc F;refine FE (cB 170 Z) (ox h D) Z Z Z Z λ_ _ _ _ h=>X0 7 Z ?_;obtain⟨_,_,F,C,_,_,_,_,c5,d4,rfl,A⟩:=(h.sl 1 Z).1.ix F;refine zx c5 d4 ⟨C.1,qE C.2.1 (h.sl 1 Z).2⟩ Z (zc 0 A Z (cr Z ?_));obtain⟨_,H,F⟩:=qc F;refine FE (cB 170 Z) (ox h H) Z Z Z Z λ_ _ _ _ h=>X0 8 Z ?_;exact rK ⟨_,_,_,_,_,_,F,Z,h.p [1,2,0] Z⟩ Z
  refine qy Z ?_;cases qe F;have F:=T;refine X0 6 Z ?_;exact rK ⟨_,_,_,_,_,_,F,Z,h.p [1,2] Z⟩ Z
 refine qy Z ?_;cases qe F;have F:=S;refine X0 5 Z ?_;cases qe F;exact rO 1 h Z ⟨Z,G⟩
def fI(list:List Int)(f:Int):Nat->Int->Option (eE Bool Int)|0,_=>U|n+1,a=>bif decide (a<(list.length:Int)) then(qG list a).bind λb=>(bk n b 0 (qj (f-1))).bind λr1=>bif (!r1) then V (.ret Cd) else bif decide (a > 0) then(qG list (qj (a-1))).bind λc=>(qG list a).bind λd=>bif decide (c>=d) then V (.ret Cd) else fI list f n (qj (a+1)) else fI list f n (qj (a+1)) else V (.nxt a)
def uT(n:Nat)(list:List Int)(a:Int):Option Bool:=(fI list a n 0).bind λ|.ret r=>V r|.nxt _=>V An
theorem KB{list:List Int}{a_n}(b:Ro w list cs1){r:Bool}(F:uT n list a_n=V r):qN prog 250 [gv list cs1,vi a_n] w r:=by
 obtain⟨p1,A,rfl,s1⟩:=b;refine zV 36 func250 Z λh=>X0 9 Z ?_;obtain⟨o1,F,a⟩:=qc F;refine qq (rL (λm e w'=>∃y,fI list a_n m y=V o1/\e=[(0,oL p1 list A),(1,vi a_n),(5,vi y)]/\SH w w' []) n ⟨_,F,Z,h⟩ Z ?_);rintro z _ _ ⟨y,F,rfl,h⟩;rcases z with _|z
 .cases F
 refine X0 8 Z (qn Z F ?_ ?_)<;>intro F
 .refine X0 4 Z (rD (xz Z ?_));obtain⟨_,_,F,g,_,_,_,_,l,s,rfl,c⟩:=s1.ix F;refine fU l s g Z (dZ 0 c h Z (xz Z ?_));obtain⟨r1,x,F⟩:=qc F;refine dB r1 (MT _) (cB 32 Z) (λ_ B=>aQ  x) Z Z Z Z (xz Z (bu (t:=20) F Z ?_ ?_))<;>intro F
  .refine Y0 15 Z (dN h λ_ h=>dO Z Z (X0 4 Z ?_));cases qe F;exact rb h a Z
  refine Y0 6 Z (bu (t:=23) F Z ?_ ?_)<;>intro F
  .refine Y0 7 Z ?_;obtain⟨_,_,F,i,_,_,_,_,o,u,rfl,d⟩:=s1.ix F;refine fU o u i Z (Y0 1 Z (dZ 0 d h Z (Y0 5 Z ?_)));obtain⟨_,_,F,k,_,_,_,_,p,v,rfl,f⟩:=s1.ix F;refine fU p v k Z (Y0 1 Z (dZ 0 f h Z (Y0 5 Z (dN h λ_ h=>qn Z F ?_ ?_))))<;>intro F
   .refine X0 4 Z ?_;cases qe F;exact rb h a Z
   exact X0 7 Z (rK ⟨_,F,Z,h⟩ Z)
  exact Y0 13 Z (dN h λ_ h=>bQ Z Z (X0 7 Z (rK ⟨_,F,Z,h⟩ Z)))
 refine qy Z ?_;cases qe F;exact X0 4 Z (rb h a Z)
def sv(n:Nat)(b:qf)(d:List Int):Option Int:=(ki n b).bind λr1=>bif (!r1) then V 1 else(kj n b).bind λa=>(uT n d (a.length:Int)).bind λc=>bif (!c) then V 2 else V 0
theorem BW{b:qf}{f:List Int}(a:Ro w b cs1)(c:Ro w f cs2){r:Int}(F:sv n b f=V r):qN prog 214 [gv b cs1,gv f cs2] w r:=by
 obtain⟨_,_,_,_,_,_,_,_,_,_,rfl,_,_,_,_,_⟩:=qZ a;obtain⟨_,_,rfl,d⟩:=c;refine zV 14 func214 Z λh=>db (qK h Z Z λ_ _ h=>X1 6 0 h Z (dI h F (mJ (h.old a)) Z λ_ _ h F=>X0 2 Z (qn Z F ?_ ?_)))<;>intro F
 .exact X0 4 Z (ri h F Z)
 refine X1 6 0 h Z (uY h F (lQ (h.old a)) Z λ_ _ _ _ _ h F=>cr Z (dI h F (KB ⟨_,_,Z,(h.oldS d)⟩) Z λ_ _ h F=>X0 2 Z (qn Z F ?_ ?_)))<;>intro F
 .exact X0 4 Z (ri h F Z)
 exact X0 5 Z (ri h F Z)
def mU(_:Nat)(a:bo):Option (List ak):=bif (a.Bf==2) then V ([(⟨0,0⟩:ak),(⟨0,1⟩:ak)]:List ak) else bif (a.Bf==3) then V ([(⟨1,0⟩:ak),(⟨1,1⟩:ak)]:List ak) else bif (a.Bf != 1) then V [] else bif (a.Br==1) then V ([(⟨0,0⟩:ak),(⟨1,1⟩:ak)]:List ak) else bif (a.Br==2) then V ([(⟨0,1⟩:ak),(⟨1,0⟩:ak)]:List ak) else V ([(⟨0,0⟩:ak),(⟨0,1⟩:ak),(⟨1,0⟩:ak),(⟨1,1⟩:ak)]:List ak)
theorem zq{a:bo}(b:Ro w a cs1){r:List ak}(F:mU n a=V r):qN prog 183 [gv a cs1] w r:=by
 obtain⟨_,_,_,_,rfl,_,_⟩:=bd b;refine zV 44 func183 Z λh=>db (qK h Z Z λ_ _ h=>X0 4 Z (dF (pp qa [0,1] [.const (vi (0)),.const (vi (0))] Z Z Z Z Z Z Z Z Z) Z (dF (pp qa [0,1] [.const (vi (1)),.const (vi (1))] Z Z Z Z Z Z Z Z Z) Z (qt qa [.tmp 5,.tmp 6] _ ([(⟨0,0⟩:ak),(⟨1,1⟩:ak)]:List ak) h z9 ⟨(hY (⟨0,0⟩:ak)),(hY (⟨1,1⟩:ak)),G⟩ Z λ_ _ _ h=>X0 4 Z (dF (pp qa [0,1] [.const (vi (0)),.const (vi (1))] Z Z Z Z Z Z Z Z Z) Z (dF (pp qa [0,1] [.const (vi (1)),.const (vi (0))] Z Z Z Z Z Z Z Z Z) Z (qt qa [.tmp 8,.tmp 9] _ ([(⟨0,1⟩:ak),(⟨1,0⟩:ak)]:List ak) h z9 ⟨(hY (⟨0,1⟩:ak)),(hY (⟨1,0⟩:ak)),G⟩ Z λ_ _ _ h=>X1 11 2 h Z (qn Z F ?_ ?_))))))))<;>intro F
 .refine db (dF (pp qa [0,1] [.const (vi (0)),.const (vi (0))] Z Z Z Z Z Z Z Z Z) Z (dF (pp qa [0,1] [.const (vi (0)),.const (vi (1))] Z Z Z Z Z Z Z Z Z) Z (qt qa [.tmp 15,.tmp 16] _ ([(⟨0,0⟩:ak),(⟨0,1⟩:ak)]:List ak) h z9 ⟨(hY (⟨0,0⟩:ak)),(hY (⟨0,1⟩:ak)),G⟩ Z λ_ _ _ h=>X0 2 Z ?_)));cases qe F;exact rO 0 h Z ⟨Z,G⟩
 refine X1 7 2 h Z (qn Z F ?_ ?_)<;>intro F
 .refine db (dF (pp qa [0,1] [.const (vi (1)),.const (vi (0))] Z Z Z Z Z Z Z Z Z) Z (dF (pp qa [0,1] [.const (vi (1)),.const (vi (1))] Z Z Z Z Z Z Z Z Z) Z (qt qa [.tmp 22,.tmp 23] _ ([(⟨1,0⟩:ak),(⟨1,1⟩:ak)]:List ak) h z9 ⟨(hY (⟨1,0⟩:ak)),(hY (⟨1,1⟩:ak)),G⟩ Z λ_ _ _ h=>X0 2 Z ?_)));cases qe F;exact rO 0 h Z ⟨Z,G⟩
 refine X1 7 2 h Z (qn Z F ?_ ?_)<;>intro F
 .refine X0 4 Z ?_;obtain rfl:=qe F;exact aC qa (ρ:=(List ak)) [oV (List ak) [oS U 0 0]] h ⟨Z,G⟩ (Cr h (rv kP))
 refine X1 7 2 h Z (qn Z F ?_ ?_)<;>intro F
 .refine X0 5 Z ?_;cases qe F;exact rO 1 h Z ⟨Z,G⟩
 refine X1 7 2 h Z (qn Z F ?_ ?_)<;>intro F
 .refine X0 5 Z ?_;cases qe F;exact rO 0 h Z ⟨Z,G⟩
 refine X0 4 Z (dF (pp qa [0,1] [.const (vi (0)),.const (vi (0))] Z Z Z Z Z Z Z Z Z) Z (dF (pp qa [0,1] [.const (vi (0)),.const (vi (1))] Z Z Z Z Z Z Z Z Z) Z (dF (pp qa [0,1] [.const (vi (1)),.const (vi (0))] Z Z Z Z Z Z Z Z Z) Z (dF (pp qa [0,1] [.const (vi (1)),.const (vi (1))] Z Z Z Z Z Z Z Z Z) Z (qt qa [.tmp 39,.tmp 40,.tmp 41,.tmp 42] _ ([(⟨0,0⟩:ak),(⟨0,1⟩:ak),(⟨1,0⟩:ak),(⟨1,1⟩:ak)]:List ak) h z9 ⟨(hY (⟨0,0⟩:ak)),(hY (⟨0,1⟩:ak)),(hY (⟨1,0⟩:ak)),(hY (⟨1,1⟩:ak)),G⟩ Z λ_ _ _ h=>X0 2 Z ?_)))));cases qe F;exact rO 0 h Z ⟨Z,G⟩
def di(first:Int)(c:Int)(b:bo)(r1:List ak):Nat->(List qx)->Int->Option ((List qx)×Int)|0,_,_=>U|n+1,d,a=>bif decide (a<(r1.length:Int)) then(qG r1 a).bind λf=>(df d ([(⟨qj ((qj (2*(qj (first+b.Bm))))+f.e0),qj ((qj (2*(qj (first+b.To))))+f.e1),1,c⟩:qx)]:List qx)).bind λg=>di first c b r1 n g (qj (a+1)) else V (d,a)
def dh(first:Int)(b:qQ):Nat->(List qx)->Int->Option ((List qx)×Int)|0,_,_=>U|n+1,x1,a=>bif decide (a<(b.Av.length:Int)) then(qG b.Av a).bind λc=>(mU n c).bind λr1=>(di first a c r1 n x1 0).bind λ(d,_)=>dh first b n d (qj (a+1)) else V (x1,a)
def mV(n:Nat)(b:qf)(x:qO)(first:Int):Option (List qx):=(qG b.Aq.As x.Bv).bind λa=>(dh first a n ([]:List qx) 0).bind λ(x1,_)=>V x1
theorem zr{b:qf}{x:qO}{first}(B:Ro w b cs1)(C:Ro w x cs2){r:List qx}(F:mV n b x first=V r):qN prog 117 [gv b cs1,gv x cs2,vi first] w r:=by
 obtain⟨_,_,_,_,_,_,_,_,_,_,rfl,s1,_,_,_,_⟩:=qZ B;obtain⟨_,_,rfl,_⟩:=bI C;refine zV 57 func117 Z λh=>db (qK h Z Z λ_ _ h=>qK h Z Z λ_ _ h=>X2 14 1 0 h Z ?_);obtain⟨v,_,F,J,_,_,_,_,L,O,R,D⟩:=s1.ix F;obtain⟨_,_,p8,k8,_,_,rfl,_,s8,_⟩:=aV R;refine ft L O J Z (cr Z (bL 3 D h Z (X0 3 Z ?_)));have h:=h.nil (α:=qx);obtain⟨o1,F,z⟩:=qc F;refine qq ?_;have h:=h.p [0] Z;refine rL (λm e w'=>∃S1 k g d x1 a,dh first v m x1 a=V o1/\e=[(2,vi first),(7,oS k g d),(19,oL p8 v.Av k8),(20,vi (v.Av.length:Int)),(21,vi a)]/\SH w w' [oW S1 (x1:List qx) [oS k g d]]) n ⟨_,_,_,_,_,_,F,Z,h⟩ Z ?_;rintro m1 _ _ ⟨S1,k,g,d,x1,a,F,rfl,h⟩;obtain rfl:=(h.sl 0 Z).2;rcases m1 with _|m1
 .cases F
 refine X0 5 Z (qn Z F ?_ ?_)<;>intro F
 .refine X0 6 Z ?_;obtain⟨o,_,F,K,_,_,_,_,M,P,S,H⟩:=s8.ix F;obtain⟨p11,X,p12,Y,rfl,s10,s11⟩:=bd S;refine ft M P K Z (bL 0 H h Z (qi qa h Z Z Z λ_ p h=>cr Z (zs 0 h Z λ_ h=>X1 4 0 h Z (uY h F (zq (uC o (h.oldS s10) (h.oldS s11))) Z λr1 _ S2 u t h F=>X0 3 Z ?_))));obtain⟨o2,F,A⟩:=qc F;refine qq (rL (λm e w'=>∃S3 l i f x2 W,di first a o r1 m x2 W=V o2/\e=[(2,vi first),(7,oS l i f),(8,vi a),(9,vp p),(19,oL p8 v.Av k8),(20,vi (v.Av.length:Int)),(21,vi a),(27,oL u r1 t),(28,vi (r1.length:Int)),(29,vi W)]/\SH w w' [oW S2 (r1:List ak) [oL u r1 t],oX p (kI o p11 p12 X Y) 109,oW S3 (x2:List qx) [oS l i f]]) m1 ⟨_,_,_,_,_,_,F,Z,h⟩ Z ?_);rintro m2 _ _ ⟨S3,l,i,f,x2,W,F,rfl,h⟩;obtain rfl:=(h.sl 2 Z).2;rcases m2 with _|m2
  .cases F
  refine X0 5 Z (qn Z F ?_ ?_)<;>intro F
  .refine ly ?_;obtain⟨y,_,F,s,_,_,_,_,N,Q,T,I⟩:=(h.sl 0 Z).1.ix F;obtain rfl:=VA T;refine zx N Q ⟨s.1,qE s.2.1 (h.sl 0 Z).2⟩ Z (zc 0 I Z (qi qa h Z Z Z λ_ _ h=>zs 0 h Z λ_ h=>X1 8 2 h Z (dF (qc3 (iv:=0) qa Z Z (by decide) ⟨Z,Z⟩ Z Z) Z (X2 7 0 2 h Z (dF (qc3 (iv:=1) qa Z Z (by decide) ⟨Z,Z⟩ Z Z) Z (X1 3 0 h Z (dF (qB qa [0,1,2,3] [.tmp 41,.tmp 49,.const (vi (1)),.tmp 50] z8) Z (qt qa [.tmp 51] _ ([(⟨qj ((qj (2*(qj (first+o.Bm))))+y.e0),qj ((qj (2*(qj (first+o.To))))+y.e1),1,a⟩:qx)]:List qx) h z9 ⟨(ga (⟨qj ((qj (2*(qj (first+o.Bm))))+y.e0),qj ((qj (2*(qj (first+o.To))))+y.e1),1,a⟩:qx)),G⟩ Z λ_ _ _ h=>?_))))))));obtain⟨_,c,F⟩:=qc F;obtain⟨g1,c⟩:=qJ c;refine bn qa 4 h Z (h.sl 0 Z).1 (h.sl 0 Z).2 z9 g1 c Z λ_ _ _ _ h=>X0 7 Z ?_;exact rK ⟨_,_,_,_,_,_,F,Z,h.p [2,3,4] Z⟩ Z
  refine qy Z ?_;cases qe F;have F:=A;refine X0 5 Z ?_;exact rK ⟨_,_,_,_,_,_,F,Z,h.p [2] Z⟩ Z
 refine qy Z ?_;cases qe F;have F:=z;refine X0 5 Z ?_;cases qe F;exact rO 0 h Z ⟨Z,G⟩
def iG(_:Nat)(s:List Int):Option (List Int):=df ([]:List Int) s
theorem mp{s:List Int}(b:Ro w s cs1){r:List Int}(F:iG n s=V r):qN prog 55 [gv s cs1] w r:=by
 obtain⟨p,k,rfl,s1⟩:=b;obtain⟨c,g⟩:=qJ (show df ([]:List Int) s=V r from F);cases p with
 |none=>
  obtain rfl:=ZA s1;obtain rfl:[]=r:=g;exact zV 8 func55 Z λh=>X0 8 Z (dF (ZO qa Z Z Z Z Z) Z (ae (dO Z Z (X0 4 Z (aC qa (ρ:=(List Int)) [oV (List Int) [oS U 0 0]] h ⟨Z,G⟩ (Cr h (rv kP)))))))
 |some a=>
  refine zV 8 func55 Z λh=>X0 8 Z (dF (ZO qa Z Z Z Z Z) Z (ae (bQ Z Z (qd1 (qt qa [] _ ([]:List Int) h z9 trivial Z λ_ _ _ h=>cr Z (qcZ qa 0 h Z (h.oldS s1) Z Z Z Z Z Z Z Z Z Z c Z λ_ f d _ h=>?_))))));rw[g] at h;exact X0 2 Z (aC qa (ρ:=(List Int)) [oV (List Int) [oS f (([]:List Int).length+s.length) d]] h ⟨Z,G⟩ (Cr h (rv (qS 0 h Z))))
def cI(net:Int)(r1:List aY):Nat->(List Int)->Int->Option ((List Int)×Int)|0,_,_=>U|n+1,x1,a=>bif decide (a<(r1.length:Int)) then(qG r1 a).bind λb=>bif (b.net==net) then bif (!b.drives) then(df x1 ([a]:List Int)).bind λc=>cI net r1 n c (qj (a+1)) else cI net r1 n x1 (qj (a+1)) else cI net r1 n x1 (qj (a+1)) else V (x1,a)
def pJ(n:Nat)(d:qk)(net:Int):Option (List Int):=(fS n d).bind λr1=>(cI net r1 n ([]:List Int) 0).bind λ(x1,_)=>V x1
theorem DC{d:qk}{net}(c:Ro w d cs1){r:List Int}(F:pJ n d net=V r):qN prog 184 [gv d cs1,vi net] w r:=by
 obtain⟨_,_,_,_,_,_,rfl,_,_,_⟩:=cn c;refine zV 31 func184 Z λh=>db (qK h Z Z λ_ _ h=>X1 10 0 h Z (uY h F (mj (h.old c)) Z λr1 _ S1 y v h F=>X0 3 Z ?_));have h:=h.nil (α:=Int);obtain⟨o1,F,i⟩:=qc F;refine qq ?_;have h:=h.p [0,1] Z;refine rL (λm e w'=>∃S2 u b s x1 g,cI net r1 m x1 g=V o1/\e=[(1,vi net),(5,oS u b s),(9,oL y r1 v),(10,vi (r1.length:Int)),(11,vi g)]/\SH w w' [oW S2 (x1:List Int) [oS u b s],oW S1 (r1:List aY) [oL y r1 v]]) n ⟨_,_,_,_,_,_,F,Z,h⟩ Z ?_;rintro x _ _ ⟨S2,u,b,s,x1,g,F,rfl,h⟩;obtain rfl:=(h.sl 0 Z).2;rcases x with _|x
 .cases F
 refine X0 5 Z (qn Z F ?_ ?_)<;>intro F
 .refine X0 6 Z ?_;obtain⟨_,_,F,f,_,_,_,_,l,o,p,k⟩:=(h.sl 1 Z).1.ix F;obtain rfl:=ro p;refine zx l o ⟨f.1,qE f.2.1 (h.sl 1 Z).2⟩ Z (zc 0 k Z (qi qa h Z Z Z λ_ _ h=>cr Z (zs 0 h Z λ_ h=>X1 8 0 h Z (qh (t:=20) F Z ?_ ?_))))<;>intro F
  .refine X1 8 0 h Z (qn Z F ?_ ?_)<;>intro F
   .refine X0 3 Z (qt qa [.tmp 26] _ ([g]:List Int) h z9 ⟨Z,G⟩ Z λ_ _ _ h=>?_);obtain⟨_,a,F⟩:=qc F;obtain⟨z,a⟩:=qJ a;refine bn qa 2 h Z (h.sl 0 Z).1 (h.sl 0 Z).2 z9 z a Z λ_ _ _ _ h=>X0 7 Z ?_;exact rK ⟨_,_,_,_,_,_,F,Z,h.p [2,3] Z⟩ Z
   refine X0 6 Z ?_;exact rK ⟨_,_,_,_,_,_,F,Z,h.p [1,2] Z⟩ Z
  refine X0 5 Z (bQ Z Z (X0 6 Z ?_));exact rK ⟨_,_,_,_,_,_,F,Z,h.p [1,2] Z⟩ Z
 refine qy Z ?_;cases qe F;have F:=i;refine X0 5 Z ?_;cases qe F;exact rO 0 h Z ⟨Z,G⟩
def pI(_:Nat)(d:qk)(l:qD)(p:aY):Option Int:=bif decide (p.instance_<0) then V 0 else(qG d.Ab p.instance_).bind λa=>(qG l.As a.Bv).bind λb=>(qG b.Bh p.pin).bind λc=>V c.Bs
theorem DB{d:qk}{l:qD}{p:aY}(a:Ro w d cs1)(b:Ro w l cs2)(c:Ro w p cs3){r:Int}(F:pI n d l p=V r):qN prog 185 [gv d cs1,gv l cs2,gv p cs3] w r:=by
 obtain⟨_,_,_,_,_,_,rfl,s1,_,_⟩:=cn a;obtain⟨_,_,rfl,C⟩:=gx b;obtain rfl:=ro c;refine zV 27 func185 Z λh=>db (qK h Z Z λ_ _ h=>qK h Z Z λ_ _ h=>qK h Z Z λ_ _ h=>X1 9 0 h Z (qn Z F ?_ ?_))<;>intro F
 .exact X0 4 Z (ri h F Z)
 refine N7 (rD (Y1 2 1 h Z ?_));refine Y1 2 2 h Z ?_;refine Y1 2 0 h Z ?_;obtain⟨_,_,F,k,_,_,_,_,s,v,z,f⟩:=s1.ix F;obtain⟨_,_,rfl,_⟩:=bI z;refine fU s v k Z (xm Z (dZ 1 f h Z ?_));obtain⟨_,_,F,m,_,_,_,_,t,x,A,g⟩:=C.ix F;obtain⟨_,_,_,_,_,_,rfl,D,_,_⟩:=aV A;refine fU t x m Z (xm Z (dZ 2 g h Z (Y1 2 0 h Z ?_)));obtain⟨_,_,F,o,_,_,_,_,u,y,B,i⟩:=D.ix F;obtain rfl:=mG B;exact fU u y o Z (xm Z (dZ 2 i h Z (xm Z (dN h λ_ h=>ri h F Z))))
def dm(d:aR):Nat->(List Int)->Int->Option ((List Int)×Int)|0,_,_=>U|n+1,b,a=>bif decide (a > 0) then(qG d.Ak a).bind λc=>(qG b c).bind λf=>(qG b a).bind λg=>(qG b c).bind λ_=>dm d n (am b c (qj (f+g))) (qj (a-1)) else V (b,a)
def dj(Ce:qf)(f:aR)(d:List aY)(b:List Int):Nat->(List Int)->Int->Option ((List Int)×Int)|0,_,_=>U|n+1,x1,a=>bif decide (a<(b.length:Int)) then(qG b a).bind λh=>(qG f.Bl a).bind λc=>(qG x1 c).bind λi=>(qG d h).bind λk=>(pI n (⟨Ce.Aa.Ab,Ce.Aa.Ap,Ce.Aa.Ai⟩:qk) (⟨Ce.Aq.As⟩:qD) k).bind λg=>(qG x1 c).bind λ_=>dj Ce f d b n (am x1 c (qj (i+g))) (qj (a+1)) else V (x1,a)
def ko(n:Nat)(Ce:qf)(Cf:Int):Option (List Int):=(qG Ce.Ah Cf).bind λa=>(iG n a.Bs).bind λr1=>(fS n (⟨Ce.Aa.Ab,Ce.Aa.Ap,Ce.Aa.Ai⟩:qk)).bind λb=>(pJ n (⟨Ce.Aa.Ab,Ce.Aa.Ap,Ce.Aa.Ai⟩:qk) Cf).bind λc=>(dj Ce a b c n r1 0).bind λ(x1,_)=>(dm a n x1 (qj ((r1.length:Int)-1))).bind λ(d,_)=>V d
theorem nZ{Ce:qf}{Cf}(W:Ro w Ce cs1){r:List Int}(F:ko n Ce Cf=V r):qN prog 119 [gv Ce cs1,vi Cf] w r:=by
 obtain⟨p1,k1,p2,k2,p3,k3,p4,k4,p5,k5,rfl,s1,s2,s3,s4,s5⟩:=qZ W;refine zV 74 func119 Z λh=>db (qK h Z Z λw1 i h=>X1 7 0 h Z ?_);obtain⟨Q,_,F,a6,_,_,_,_,a9,b7,c2,X⟩:=s5.ix F;obtain⟨p6,k6,p7,k7,p8,k8,p9,k9,rfl,s6,_,s8,s9⟩:=dM c2;refine ft a9 b7 a6 Z (bL 0 X h Z (qi qa h Z Z Z λ_ a h=>zs 0 h Z λ_ h=>X1 5 0 h Z (uY h F (mp ⟨_,_,Z,(h.oldS s8)⟩) Z λr1 _ S1 c b h F=>X1 6 2 h Z (uY h F (mj (cp _ (h.oldS s2) (h.oldS s3) (h.oldS s4))) Z λP _ S2 M K h F=>X1 8 3 h Z (uY h F (DC (cp _ (h.oldS s2) (h.oldS s3) (h.oldS s4))) Z λO _ S3 N L h F=>X0 3 Z ?_)))));obtain⟨o1,F,R⟩:=qc F;refine qq (rL (λm e w'=>∃x1 i1,dj Ce Q P O m x1 i1=V o1/\e=[(2,vp i),(5,vp a),(6,oL c r1 b),(7,oL M P K),(25,oL N O L),(26,vi (O.length:Int)),(27,vi i1)]/\SH w w' [oW S3 (O:List Int) [oL N O L],oW S2 (P:List aY) [oL M P K],oW S1 (x1:List Int) [oL c r1 b],oX a (oD Q p6 p7 p8 p9 k6 k7 k8 k9) 171,oX i (qL Ce p1 p2 p3 p4 p5 k1 k2 k3 k4 k5) 34]) n ⟨_,_,F,Z,h⟩ Z ?_);rintro m1 _ _ ⟨x1,i1,F,rfl,h⟩;rcases m1 with _|m1
 .cases F
 refine X0 5 Z (qn Z F ?_ ?_)<;>intro F
 .refine X0 6 Z ?_;obtain⟨_,_,F,l,_,_,_,_,b4,b8,rfl,Y⟩:=(h.sl 0 Z).1.ix F;refine zx b4 b8 ⟨l.1,qE l.2.1 (h.sl 0 Z).2⟩ Z (zc 0 Y Z (X0 3 Z (rA [19] [1,2,3,4] h Z λ_ h=>M1 15 [0,1,2,3] 2 (h.p [1,2,3,4] Z) Z ?_)));obtain⟨_,_,F,a7,_,_,_,_,b5,b9,rfl,a3⟩:=s9.ix F;refine Ae 4 31 b5 b9 a7 (h.p [1,2,3,4] Z) Z (Al 5 63 0 a3 (h.p [1,2,3,4] Z) Z ?_);obtain⟨y4,c4,F,o,_,_,_,_,v,B,rfl,_⟩:=(h.sl 2 Z).1.ix F;refine Ax 6 127 v B ⟨o.1,qE o.2.1 (h.sl 2 Z).2⟩ (h.p [1,2,3,4] Z) Z (Aw 7 255 (λw' hw=>da qa (qR (w1:=w) (S1:=λ_=>False) hw 1 Z c4 v B Z) (j:=0) Z Z Z) (h.p [1,2,3,4] Z) Z ?_);refine M2 16383 [8,9,10,11,12,13] 3 3 (h.p [1,2,3,4] Z) Z ?_;obtain⟨y5,c5,F,p,_,_,_,_,x,C,c3,_⟩:=(h.sl 1 Z).1.ix F;obtain rfl:=ro c3;refine Ax 14 32767 x C ⟨p.1,qE p.2.1 (h.sl 1 Z).2⟩ (h.p [1,2,3,4] Z) Z (Aw 15 65535 (λw' hw=>da qa (qR hw 0 Z c5 x C (AZ (w:=w) (S:=λ_=>False) y5)) (j:=0) Z Z Z) (h.p [1,2,3,4] Z) Z ?_);refine Ao 16 131071 Z (mR h F (DB (cp _ (h.oldS s2) (h.oldS s3) (h.oldS s4)) (uD _ (h.oldS s1)) (AZ y5)) Z λr4 _ h F=>G0 262143 [17] (h.p [1,2,3,4] Z) Z ?_);obtain⟨_,c6,F,s,_,_,_,_,y,D,rfl,a4⟩:=(h.sl 2 Z).1.ix F;exact Ax 18 524287 y D ⟨s.1,qE s.2.1 (h.sl 2 Z).2⟩ (h.p [1,2,3,4] Z) Z (Ao 19 1048575 Z (bM qa 2 0 (qj (y4+r4)) h Z c6 y D Z a4 Z Z Z Z Z Z Z λ_ h=>bN (λhs=>absurd (hs 19 (by decide)) (by decide)) (Ad (X0 5 Z (rK ⟨_,_,F,Z,h⟩ Z)))))
 refine qy Z ?_;cases qe F;have F:=R;refine X0 8 Z ?_;obtain⟨o2,F,T⟩:=qc F;refine qq ?_;have h:=h.p [2,3] Z;refine rL (λm e w'=>∃x2 i2,dm Q m x2 i2=V o2/\e=[(5,vp a),(6,oL c r1 b),(10,vi i2)]/\SH w w' [oW S1 (x2:List Int) [oL c r1 b],oX a (oD Q p6 p7 p8 p9 k6 k7 k8 k9) 171]) n ⟨_,_,F,Z,h⟩ Z ?_;rintro m2 _ _ ⟨x2,i2,F,rfl,h⟩;rcases m2 with _|m2
 .cases F
 refine X0 6 Z (qn Z F ?_ ?_)<;>intro F
 .refine WC (rA [14] [0,1] h Z λ_ h=>M1 15 [0,1,2,3] 1 (h.p [0,1] Z) Z ?_);obtain⟨_,_,F,a8,_,_,_,_,b6,c0,rfl,a5⟩:=s6.ix F;refine Ae 4 31 b6 c0 a8 (h.p [0,1] Z) Z (Al 5 63 0 a5 (h.p [0,1] Z) Z ?_);obtain⟨y8,c7,F,t,_,_,_,_,z,H,rfl,_⟩:=(h.sl 0 Z).1.ix F;refine Ax 6 127 z H ⟨t.1,qE t.2.1 (h.sl 0 Z).2⟩ (h.p [0,1] Z) Z (Aw 7 255 (λw' hw=>da qa (qR (w1:=w) (S1:=λ_=>False) hw 0 Z c7 z H Z) (j:=0) Z Z Z) (h.p [0,1] Z) Z ?_);refine M0 1023 [8,9] (h.p [0,1] Z) Z ?_;obtain⟨y9,c8,F,u,_,_,_,_,A,I,rfl,_⟩:=(h.sl 0 Z).1.ix F;refine Ax 10 2047 A I ⟨u.1,qE u.2.1 (h.sl 0 Z).2⟩ (h.p [0,1] Z) Z (Aw 11 4095 (λw' hw=>da qa (qR (w1:=w) (S1:=λ_=>False) hw 0 Z c8 A I Z) (j:=0) Z Z Z) (h.p [0,1] Z) Z ?_);refine M0 8191 [12] (h.p [0,1] Z) Z ?_;obtain⟨_,J,F,d,_,_,_,_,f,g,rfl,k⟩:=(h.sl 0 Z).1.ix F;exact Ax 13 16383 f g ⟨d.1,qE d.2.1 (h.sl 0 Z).2⟩ (h.p [0,1] Z) Z (Ao 14 32767 Z (bM qa 0 0 (qj (y8+y9)) h Z J f g Z k Z Z Z Z Z Z Z λ_ h=>bN (λhs=>absurd (hs 14 (by decide)) (by decide)) (Ad (X0 6 Z (rK ⟨_,_,F,Z,h⟩ Z)))))
 refine qy Z ?_;cases qe F;have F:=T;refine X0 5 Z ?_;cases qe F;exact rO 0 h Z ⟨Z,G⟩
def dW(c:aR)(r1:List Int)(x1:List Int):Nat->(List Int)->Int->Option ((List Int)×Int)|0,_,_=>U|n+1,b,a=>bif decide (a<(x1.length:Int)) then(qG c.Ak a).bind λd=>(qG b d).bind λf=>(qG c.Bw a).bind λg=>(qG r1 a).bind λh=>(qG b a).bind λ_=>dW c r1 x1 n (am b a (qj (f+(qj (g*h))))) (qj (a+1)) else V (b,a)
def mi(n:Nat)(b:qf)(net:Int):Option (List Int):=(qG b.Ah net).bind λc=>(ko n b net).bind λr1=>(yW (r1.length:Int) (0:Int)).bind λx1=>(dW c r1 x1 n x1 1).bind λ(a,_)=>V a
theorem yS{b:qf}{net}(f:Ro w b cs1){r:List Int}(F:mi n b net=V r):qN prog 186 [gv b cs1,vi net] w r:=by
 obtain⟨p1,k1,p2,k2,p3,k3,p4,k4,p5,k5,rfl,_,_,_,_,s5⟩:=qZ f;refine zV 49 func186 Z λh=>db (qK h Z Z λw1 A h=>X0 3 Z (rA [] [0] h Z λ_ h=>M1 7 [0,1,2] 0 (h.p [0] Z) Z ?_));obtain⟨y1,_,F,L,_,_,_,_,O,R,W,D⟩:=s5.ix F;obtain⟨p6,k6,p7,k7,p8,k8,p9,k9,rfl,s6,s7,_,_⟩:=dM W;refine Ae 3 15 O R L (h.p [0] Z) Z (Al 4 31 0 D (h.p [0] Z) Z (M1 127 [5,6] 0 (h.p [0] Z) Z ?_));obtain⟨r1,x,F⟩:=qc F;refine uc (λe w'=>∃a z d c,e=[(5,vp a),(6,oL d r1 c)]/\SH w w' [oX a (oD y1 p6 p7 p8 p9 k6 k7 k8 k9) 171,oW z (r1:List Int) [oL d r1 c],oX A (qL b p1 p2 p3 p4 p5 k1 k2 k3 k4 k5) 34]) 0 (bits 11 2047) ?_ ?_
 .intro K;refine At 7 8 255 383 Z ?_ ?_
  .exact uH r1 h (cB 119 Z) (nZ (h.old f) x) Z Z Z Z λw10 S4 p13 k13 h=>Ag (h.p [1] Z) (Ao 8 511 Z (qi qa h Z Z Z λw11 B h=>Ag (h.p [2] Z) (Ao 9 1023 Z (zs 0 h Z λw12 h=>G0 2047 [10] (h.p [2] Z) Z (BK [(5,_),(6,_)] ⟨Z,Z,G⟩ (K _ _ ⟨_,_,_,_,Z,h⟩))))))
  refine qi qa h Z Z Z λw10 B h=>Ag (h.p [1] Z) (Ao 7 511 Z (uH r1 h (cB 119 Z) (nZ (h.old f) x) Z Z Z Z λw11 S4 p13 k13 h=>Ag (h.p [2] Z) (Ao 9 1023 Z (zs 1 h Z λw12 h=>G0 2047 [10] (h.p [2] Z) Z ?_))));have h:=h.p [1,0,2] Z;exact aK K ⟨_,_,_,_,Z,h⟩ Z
 rintro _ _ ⟨a,z,d,c,rfl,h⟩;refine Ad (X0 4 Z ?_);obtain⟨x1,g,F⟩:=qc F;obtain⟨g1,g2,g⟩:=aT g;refine bC qa Int h z9 g1 g2 g Z λ_ S6 y h=>X0 7 Z ?_;obtain⟨o1,F,C⟩:=qc F;refine qq ?_;have h:=h.p [0,1,2] Z;refine rL (λm e w'=>∃x2 i1,dW y1 r1 x1 m x2 i1=V o1/\e=[(5,vp a),(6,oL d r1 c),(7,oS y x1.length x1.length),(8,vi i1)]/\SH w w' [oW S6 (x2:List Int) [oS y x1.length x1.length],oX a (oD y1 p6 p7 p8 p9 k6 k7 k8 k9) 171,oW z (r1:List Int) [oL d r1 c]]) n ⟨_,_,F,Z,h⟩ Z ?_;rintro m1 _ _ ⟨x2,i1,F,rfl,h⟩;rcases m1 with _|m1
 .cases F
 refine X0 8 Z (qn Z F ?_ ?_)<;>intro F
 .refine WC (rA [22] [0,1,2] h Z λ_ h=>M1 63 [0,1,2,3,4,5] 1 (h.p [0,1,2] Z) Z ?_);obtain⟨_,_,F,M,_,_,_,_,P,S,rfl,H⟩:=s6.ix F;refine Ae 6 127 P S M (h.p [0,1,2] Z) Z (Al 7 255 0 H (h.p [0,1,2] Z) Z ?_);obtain⟨y3,X,F,i,_,_,_,_,o,t,rfl,_⟩:=(h.sl 0 Z).1.ix F;refine Ax 8 511 o t ⟨i.1,qE i.2.1 (h.sl 0 Z).2⟩ (h.p [0,1,2] Z) Z (Aw 9 1023 (λw' hw=>da qa (qR (w1:=w) (S1:=λ_=>False) hw 0 Z X o t Z) (j:=0) Z Z Z) (h.p [0,1,2] Z) Z ?_);refine M1 8191 [10,11,12] 1 (h.p [0,1,2] Z) Z ?_;obtain⟨y4,_,F,N,_,_,_,_,Q,T,rfl,I⟩:=s7.ix F;refine Ae 13 16383 Q T N (h.p [0,1,2] Z) Z (Al 14 32767 0 I (h.p [0,1,2] Z) Z (M0 131071 [15,16] (h.p [0,1,2] Z) Z ?_));obtain⟨y5,Y,F,k,_,_,_,_,p,u,rfl,_⟩:=(h.sl 2 Z).1.ix F;refine Ax 17 262143 p u ⟨k.1,qE k.2.1 (h.sl 2 Z).2⟩ (h.p [0,1,2] Z) Z (Aw 18 524287 (λw' hw=>da qa (qR (w1:=w) (S1:=λ_=>False) hw 2 Z Y p u Z) (j:=0) Z Z Z) (h.p [0,1,2] Z) Z ?_);refine M0 2097151 [19,20] (h.p [0,1,2] Z) Z ?_;obtain⟨_,a3,F,l,_,_,_,_,s,v,rfl,J⟩:=(h.sl 0 Z).1.ix F;exact Ax 21 4194303 s v ⟨l.1,qE l.2.1 (h.sl 0 Z).2⟩ (h.p [0,1,2] Z) Z (Ao 22 8388607 Z (bM qa 0 0 (qj (y3+(qj (y4*y5)))) h Z a3 s v Z J Z Z Z Z Z Z Z λ_ h=>bN (λhs=>absurd (hs 22 (by decide)) (by decide)) (Ad (X0 6 Z (rK ⟨_,_,F,Z,h⟩ Z)))))
 refine qy Z ?_;cases qe F;have F:=C;refine X0 5 Z ?_;cases qe F;exact rO 0 h Z ⟨Z,G⟩
def cD(r1:List Int)(b:aR):Nat->(List Int)->Int->Option ((List Int)×Int)|0,_,_=>U|n+1,x1,a=>bif decide (a<(b.Bl.length:Int)) then(qG b.Bl a).bind λd=>(qG r1 d).bind λf=>(df x1 ([f]:List Int)).bind λc=>cD r1 b n c (qj (a+1)) else V (x1,a)
def lm(n:Nat)(b:qf)(net:Int):Option (List Int):=(mi n b net).bind λr1=>(qG b.Ah net).bind λa=>(cD r1 a n ([]:List Int) 0).bind λ(x1,_)=>V x1
theorem yc{b:qf}{net}(g:Ro w b cs1){r:List Int}(F:lm n b net=V r):qN prog 120 [gv b cs1,vi net] w r:=by
 obtain⟨_,_,_,_,_,_,_,_,_,_,rfl,_,_,_,_,N⟩:=qZ g;refine zV 32 func120 Z λh=>db (qK h Z Z λ_ _ h=>X1 6 0 h Z (uY h F (yS (h.old g)) Z λr1 _ S1 L J h F=>X1 12 1 h Z ?_));obtain⟨I,_,F,s,_,_,_,_,u,y,B,l⟩:=N.ix F;obtain⟨_,_,_,_,_,_,H,D,rfl,_,_,_,O⟩:=dM B;refine ft u y s Z (cr Z (bL 3 l h Z (X0 3 Z ?_)));have h:=h.nil (α:=Int);obtain⟨o1,F,k⟩:=qc F;refine qq ?_;have h:=h.p [0,1] Z;refine rL (λm e w'=>∃S2 f d c x1 C,cD r1 I m x1 C=V o1/\e=[(5,oL L r1 J),(6,oS f d c),(17,oL H I.Bl D),(18,vi (I.Bl.length:Int)),(19,vi C)]/\SH w w' [oW S2 (x1:List Int) [oS f d c],oW S1 (r1:List Int) [oL L r1 J]]) n ⟨_,_,_,_,_,_,F,Z,h⟩ Z ?_;rintro K _ _ ⟨S2,f,d,c,x1,C,F,rfl,h⟩;obtain rfl:=(h.sl 0 Z).2;rcases K with _|K
 .cases F
 refine X0 5 Z (qn Z F ?_ ?_)<;>intro F
 .refine ly ?_;obtain⟨_,_,F,t,_,_,_,_,v,z,rfl,o⟩:=O.ix F;refine ft v z t Z (bL 0 o h Z (X0 6 Z ?_));obtain⟨P,_,F,i,_,_,_,_,x,A,rfl,p⟩:=(h.sl 1 Z).1.ix F;refine zx x A ⟨i.1,qE i.2.1 (h.sl 1 Z).2⟩ Z (zc 0 p Z (qt qa [.tmp 27] _ ([P]:List Int) h z9 ⟨Z,G⟩ Z λ_ _ _ h=>?_));obtain⟨_,a,F⟩:=qc F;obtain⟨M,a⟩:=qJ a;refine bn qa 1 h Z (h.sl 0 Z).1 (h.sl 0 Z).2 z9 M a Z λ_ _ _ _ h=>X0 7 Z ?_;exact rK ⟨_,_,_,_,_,_,F,Z,h.p [1,2] Z⟩ Z
 refine qy Z ?_;cases qe F;have F:=k;refine X0 5 Z ?_;cases qe F;exact rO 0 h Z ⟨Z,G⟩

def kO(g:List Int)(d:Int)(f:Int)(h:Int):Nat->(List qx)->Int->Option ((List qx)×Int)|0,_,_=>U|n+1,b,a=>bif decide (a<2) then(qG g d).bind λi=>(df b ([(⟨qj ((qj (2*i))+a),qj ((qj (2*h))+a),2,f⟩:qx)]:List qx)).bind λc=>kO g d f h n c (qj (a+1)) else V (b,a)
def kN(g:List Int)(f:Int)(d:List Int):Nat->(List qx)->Int->Option ((List qx)×Int)|0,_,_=>U|n+1,b,a=>bif decide (a<(d.length:Int)) then(qG d a).bind λh=>(kO g f a h n b 0).bind λ(c,_)=>kN g f d n c (qj (a+1)) else V (b,a)
def kL(Ce:qf)(g:List (List Int))(h:List Int):Nat->(List (List Int))->(List Int)->(List qx)->Int->Option ((List (List Int))×(List Int)×(List qx)×Int)|0,_,_,_,_=>U|n+1,i,k,b,a=>bif decide (a<(Ce.Ah.length:Int)) then(ko n Ce a).bind λl=>(qG l 0).bind λp=>(df k ([p]:List Int)).bind λc=>(lm n Ce a).bind λm=>(df i ([m]:List (List Int))).bind λd=>(qG g a).bind λr=>(kN h a r n b 0).bind λ(f,_)=>kL Ce g h n d c f (qj (a+1)) else V (i,k,b,a)
def gZ(r1:List aY):Nat->(List (List Int))->(List Int)->Int->Option ((List (List Int))×(List Int)×Int)|0,_,_,_=>U|n+1,c,d,a=>bif decide (a<(r1.length:Int)) then(qG r1 a).bind λb=>bif b.drives then(qG d b.net).bind λ_=>gZ r1 n c (am d b.net a) (qj (a+1)) else(qG c b.net).bind λg=>(df g ([a]:List Int)).bind λf=>gZ r1 n (am c b.net f) d (qj (a+1)) else V (c,d,a)
def kK(Ce:qf):Nat->(List qx)->Int->Int->Option ((List qx)×Int×Int)|0,_,_,_=>U|n+1,x1,b,a=>bif decide (a<(Ce.Aa.Ab.length:Int)) then(qG Ce.Aa.Ab a).bind λc=>(mV n Ce c b).bind λd=>(df x1 d).bind λg=>(dA n c.Ap).bind λf=>kK Ce n g (qj (b+f)) (qj (a+1)) else V (x1,b,a)
def wW(n:Nat)(Ce:qf):Option (Option cU):=(fS n (⟨Ce.Aa.Ab,Ce.Aa.Ap,Ce.Aa.Ai⟩:qk)).bind λr1=>(kK Ce n ([]:List qx) 0 0).bind λ(x1,_,_)=>(yW (Ce.Ah.length:Int) (0:Int)).bind λb=>(yW (Ce.Ah.length:Int) ([]:List Int)).bind λc=>(gZ r1 n c b 0).bind λ(d,f,_)=>(kL Ce d f n ([]:List (List Int)) ([]:List Int) x1 0).bind λ(g,h,a,_)=>V (V (⟨(⟨(⟨Ce.Aq.As⟩:qD),(⟨Ce.Aa.Ab,Ce.Aa.Ap,Ce.Aa.Ai⟩:qk),Ce.Ah⟩:qf),r1,a,h,g,[]⟩:cU))
theorem NE{A}(hA:∀b,A b->old w b){Ce:qf}(Q:qm.R w A Ce cs1){r:Option cU}(F:wW n Ce=V r):yP prog 72 [gv Ce cs1] w A r:=by
 obtain⟨p1,I,t,o,u,k3,v,p,D,z,rfl,s1,s2,s3,s4,s5⟩:=qZ Q;have hg:=Rg.start hA;refine gc func72 Z (m:=156) Z Z (λh=>?_);refine db (qK h Z Z λw1 c h=>X0 3 Z (rA [] [0] h Z λ_ h=>M2 7 [0,1,2] 0 0 (h.p [0] Z) Z (Ao 3 15 Z (uY h F (mj (cp _ (h.oldS (s2.mono hg.old)) (h.oldS (s3.mono hg.old)) (h.oldS (s4.mono hg.old)))) Z λr1 _ S1 H B h F=>Ag (h.p [1] Z) (Aw 4 31 (λw' hw=>qB qa [0,1] [.tmp 15,.tmp 18] z8) (h.p [1] Z) Z ?_)))));refine Ao 5 63 Z (qK h Z Z λ_ a h=>G0 127 [6] (h.p [2] Z) Z (Ad (X1 13 2 h Z ?_)));have h:=h.nil (α:=qx);obtain⟨o1,F,hK1⟩:=qc F;refine qq (rL (λm e w'=>∃S2 p7 ln1 k7 x1 i1 i2,kK Ce m x1 i1 i2=V o1/\e=[(1,vp c),(3,vp a),(4,vi i1),(23,oL t Ce.Aa.Ab o),(24,vi (Ce.Aa.Ab.length:Int)),(25,vi i2)]/\SH w w' [oW S2 (x1:List qx) [oS p7 ln1 k7],oX a [oL p1 Ce.Aq.As I,oL t Ce.Aa.Ab o,oL u Ce.Aa.Ap k3,oL v Ce.Aa.Ai p,oL D Ce.Ah z,oL H r1 B,oS p7 ln1 k7,oS U 0 0,oS U 0 0,oS U 0 0] 132,oW S1 (r1:List aY) [oL H r1 B],oX c (qL Ce p1 t u v D I o k3 p z) 34]) n ⟨_,_,_,_,_,_,_,F,Z,h⟩ Z ?_);rintro m1 _ _ ⟨S2,p7,ln1,k7,x1,i1,i2,F,rfl,h⟩;obtain rfl:=(h.sl 0 Z).2;rcases m1 with _|m1
 .cases F
 refine X0 5 Z (qn Z F ?_ ?_)<;>intro F
 .refine ly ?_;obtain⟨y1,_,F,he1,_,_,_,_,hp1,hq1,hr2,hc2⟩:=s2.ix F;obtain⟨_,_,rfl,s6⟩:=bI hr2;refine ft hp1 hq1 he1 Z (bL 0 hc2 h Z (qi qa h Z Z Z λ_ _ h=>zs 0 h Z λ_ h=>V7 (rA [12] [0,2,4] h Z λ_ h=>M3 255 [0,1,2,3,4,5,6,7] 1 2 0 (h.p [0,2,4] Z) Z (Ao 8 511 Z (uY h F (zr (h.old (qm.mono Q hg.old)) (GL y1 (h.oldS (s6.mono hg.old)))) Z λ_ _ _ _ _ h F=>Ag (h.p [1,3,5] Z) (Ao 9 1023 Z ?_))))));obtain⟨_,hx1,F⟩:=qc F;obtain⟨g1,hx1⟩:=qJ hx1;refine bn qa 2 h Z (h.sl 0 Z).1 (h.sl 0 Z).2 z9 g1 hx1 Z λ_ _ _ _ h=>Ag (h.p [1,3,5] Z) (Ao 10 2047 Z (cr Z (G0 4095 [11] (h.p [1,3,5] Z) Z (Ao 12 8191 Z (zs 3 h Z λ_ h=>bN (λhs=>absurd (hs 12 (by decide)) (by decide)) (Ad (X1 4 1 h Z (mR h F (fY ⟨_,_,Z,(h.oldS (s6.mono hg.old))⟩) Z λ_ _ h F=>X0 8 Z ?_))))))));exact rK ⟨_,_,_,_,_,_,_,F,Z,h.p [2,3,4,5] Z⟩ Z
 refine qy Z ?_;cases qe F;have F:=hK1;refine X1 5 3 h Z ?_;obtain⟨i,hx2,F⟩:=qc F;obtain⟨g2,g3,hx2⟩:=aT hx2;refine bC qa Int h z9 g2 g3 hx2 Z λ_ S5 f h=>X1 7 4 h Z ?_;obtain⟨k,hx3,F⟩:=qc F;obtain⟨g4,g5,hx3⟩:=aT hx3;refine bC qa (List Int) h z9 g4 g5 hx3 Z λ_ _ g h=>X1 12 3 h Z ?_;obtain⟨o2,F,hK2⟩:=qc F;refine qq (rL (λm e w'=>∃(S7:Nat->Prop) (x5:List (List Int)) (P:List Int) (i3:Int),gZ r1 m x5 P i3=V o2/\e=[(1,vp c),(3,vp a),(7,oS f i.length i.length),(8,oS g k.length k.length),(58,oL H r1 B),(59,vi (r1.length:Int)),(60,vi i3)]/\SH w w' [oW S7 (x5:List (List Int)) [oS g k.length k.length],oW S5 (P:List Int) [oS f i.length i.length],oW S2 (x1:List qx) [oL p7 x1 k7],oX a [oL p1 Ce.Aq.As I,oL t Ce.Aa.Ab o,oL u Ce.Aa.Ap k3,oL v Ce.Aa.Ai p,oL D Ce.Ah z,oL H r1 B,oL p7 x1 k7,oS U 0 0,oS U 0 0,oS U 0 0] 132,oW S1 (r1:List aY) [oL H r1 B],oX c (qL Ce p1 t u v D I o k3 p z) 34]) n ⟨_,_,_,_,F,Z,h⟩ Z ?_);rintro m2 _ _ ⟨S7,x5,P,i3,F,rfl,h⟩;rcases m2 with _|m2
 .cases F
 refine X0 5 Z (qn Z F ?_ ?_)<;>intro F
 .refine X0 6 Z ?_;obtain⟨y2,_,F,he2,_,_,_,_,hp2,hq2,hr5,hc4⟩:=(h.sl 4 Z).1.ix F;obtain rfl:=ro hr5;refine zx hp2 hq2 ⟨he2.1,qE he2.2.1 (h.sl 4 Z).2⟩ Z (zc 0 hc4 Z (qi qa h Z Z Z λ_ bb4 h=>cr Z (zs 0 h Z λ_ h=>X1 6 0 h Z (qn Z F ?_ ?_))))<;>intro F
  .refine X1 5 0 h Z ?_;obtain⟨_,hy3,F,he3,_,_,_,_,hp3,hq3,rfl,hc6⟩:=(h.sl 2 Z).1.ix F;refine zx hp3 hq3 ⟨he3.1,qE he3.2.1 (h.sl 2 Z).2⟩ Z (bM qa 2 0 i3 h Z hy3 hp3 hq3 Z hc6 Z Z Z Z Z Z Z λ_ h=>X0 6 Z ?_);exact rK ⟨_,_,_,_,F,Z,h.p [1,2,3,4,5,6] Z⟩ Z
  obtain⟨_,hy4,F⟩:=qc F;have R:=bJ hy4;have h:=h.p [1,0,2,3,4,5,6] Z;obtain⟨_,S9,_,h⟩:=h.take hy4;obtain⟨_,_,rfl,-⟩:=h.own 0 Z;refine rA [12] [1,2] h Z λ_ h=>M2 63 [0,1,2,3,4,5] 1 1 (h.p [1,2] Z) Z ?_;obtain⟨_,hp4,-,-,hl2⟩:=h.holeAt 1 Z;obtain⟨q4,hq4⟩:∃q,q=0+(y2.net).toNat*qm.k (List Int):=⟨_,Z⟩;refine Ax 6 127 hp4 hq4 ⟨R.1,qE R.2.1 hl2⟩ (h.p [1,2] Z) Z (Aw 7 255 (λw' hw=>da qa (pZ hw 0 Z hp4 hq4) (j:=0) Z Z Z) (h.p [1,2] Z) Z ?_);refine M0 511 [8] (h.p [1,2] Z) Z (Ao 9 1023 Z (qt qa [.tmp 80] _ ([i3]:List Int) h z9 ⟨Z,G⟩ Z λ_ p14 S10 h=>Ag (h.p [2,3] Z) (Ao 10 2047 Z ?_)));obtain⟨x7,hx4,F⟩:=qc F;obtain⟨g6,hx4⟩:=qJ hx4;refine bn qa 1 h Z (h.sl 0 Z).1 (h.sl 0 Z).2 z9 g6 hx4 Z λ_ p15 k12 S11 h=>Ag (h.p [2,3] Z) ?_;obtain⟨_,hp5,-,-,hl4⟩:=h.holeAt 2 Z;obtain⟨q5,hq5⟩:∃q,q=0+(y2.net).toNat*qm.k (List Int):=⟨_,Z⟩;refine Ax 11 4095 hp5 hq5 ⟨R.1,qE R.2.1 hl4⟩ (h.p [2,3] Z) Z (Ao 12 8191 Z (DY qa 2 0 h Z hp5 hq5 Z Z Z Z Z Z λ_ h=>?_));replace h:SH _ _ [oW S10 (([i3]:List Int):List Int) [oS p14 1 1],oW S11 (x7:List Int) [oL p15 x7 k12],Ch.hole S9 (x5:List (List Int)) g k.length k.length (y2.net).toNat [oL p15 x7 k12],oX bb4 (ON y2) 181,oW S5 (P:List Int) [oS f i.length i.length],oW S2 (x1:List qx) [oL p7 x1 k7],oX a [oL p1 Ce.Aq.As I,oL t Ce.Aa.Ab o,oL u Ce.Aa.Ap k3,oL v Ce.Aa.Ai p,oL D Ce.Ah z,oL H r1 B,oL p7 x1 k7,oS U 0 0,oS U 0 0,oS U 0 0] 132,oW S1 (r1:List aY) [oL H r1 B],oX c (qL Ce p1 t u v D I o k3 p z) 34]:=h;refine bN (λhs=>absurd (hs 12 (by decide)) (by decide)) (Ad (X0 5 Z ?_));have h:=h.p [1,2,0,3,4,5,6,7,8] Z;have h:=h.put;obtain⟨_,h⟩:=EE (S:=_) h;exact rK ⟨_,_,_,_,F,Z,h.p [0,3,4,5,6,7] Z⟩ Z
 refine qy Z ?_;cases qe F;have F:=hK2;refine X1 8 5 h Z ?_;have h:=h.nil (α:=Int);have h:=h.nil (α:=(List Int));obtain⟨o3,F,hK3⟩:=qc F;refine qq (rL (λm e w'=>∃(S13:Nat->Prop) (s:Option Addr) (ln2:Nat) (l:Nat) (N:List (List Int)) (S14:Nat->Prop) (C:Option Addr) (ln3:Nat) (y:Nat) (O:List Int) (S15:Nat->Prop) (K:Option Addr) (ln4:Nat) (J:Nat) (d:List qx) (T:Int),kL Ce x5 P m N O d T=V o3/\e=[(1,vp c),(3,vp a),(7,oS f i.length i.length),(8,oS g k.length k.length),(87,vi (Ce.Ah.length:Int)),(88,vi T)]/\SH w w' [oW S13 (N:List (List Int)) [oS s ln2 l],oW S14 (O:List Int) [oS C ln3 y],oW S7 (x5:List (List Int)) [oS g k.length k.length],oW S5 (P:List Int) [oS f i.length i.length],oW S15 (d:List qx) [oS K ln4 J],oX a [oL p1 Ce.Aq.As I,oL t Ce.Aa.Ab o,oL u Ce.Aa.Ap k3,oL v Ce.Aa.Ai p,oL D Ce.Ah z,oL H r1 B,oS K ln4 J,oS C ln3 y,oS s ln2 l,oS U 0 0] 132,oW S1 (r1:List aY) [oL H r1 B],oX c (qL Ce p1 t u v D I o k3 p z) 34]) n ⟨_,_,_,_,_,_,_,_,_,_,_,_,_,_,_,_,F,Z,h⟩ Z ?_);rintro m3 _ _ ⟨S13,s,ln2,l,N,S14,C,ln3,y,O,S15,K,ln4,J,d,T,F,rfl,h⟩;obtain rfl:=(h.sl 0 Z).2;obtain rfl:=(h.sl 1 Z).2;obtain rfl:=(h.sl 4 Z).2;rcases m3 with _|m3
 .cases F
 refine X0 5 Z (qn Z F ?_ ?_)<;>intro F
 .refine X0 9 Z (rA [14] [5,7] h Z λ_ h=>M2 127 [0,1,2,3,4,5,6] 0 1 (h.p [5,7] Z) Z (Ao 7 255 Z (uY h F (nZ (h.old (qm.mono Q hg.old))) Z λ_ _ _ _ _ h F=>Ag (h.p [6,8] Z) ?_)));obtain⟨y5,_,F,he5,_,_,_,_,hp6,hq6,rfl,hc8⟩:=(h.sl 0 Z).1.ix F;refine Ax 8 511 hp6 hq6 ⟨he5.1,qE he5.2.1 (h.sl 0 Z).2⟩ (h.p [6,8] Z) Z (Ao 9 1023 Z (zc 0 hc8 Z (Ag (h.p [6,8] Z) (Ao 10 2047 Z (qt qa [.tmp 100] _ ([y5]:List Int) h z9 ⟨Z,G⟩ Z λ_ _ _ h=>Ag (h.p [7,9] Z) (Ao 11 4095 Z ?_))))));obtain⟨L,hx5,F⟩:=qc F;obtain⟨g7,hx5⟩:=qJ hx5;refine bn qa 3 h Z (h.sl 0 Z).1 (h.sl 0 Z).2 z9 g7 hx5 Z λ_ a3 W S18 h=>Ag (h.p [7,9] Z) (Ao 12 8191 Z (cr Z (G0 16383 [13] (h.p [7,9] Z) Z (Ao 14 32767 Z (zs 7 h Z λ_ h=>bN (λhs=>absurd (hs 14 (by decide)) (by decide)) (Ad (aD (rA [12] [7,9] h Z λ_ h=>M2 127 [0,1,2,3,4,5,6] 0 1 (h.p [7,9] Z) Z (Ao 7 255 Z (uY h F (yc (h.old (qm.mono Q hg.old))) Z λr5 _ _ _ _ h F=>Ag (h.p [8,10] Z) (Ao 8 511 Z (kB qa [.tmp 112] _ ([r5]:List (List Int)) [1,2,3,4,5,6,7,8,9,10] h Z Z Z Z Z Z Z Z Z (gb (qS 0 h Z) pN Z) Z Z λ_ _ _ h=>Ag (h.p [8,10] Z) (Ao 9 1023 Z ?_)))))))))))));obtain⟨M,hx6,F⟩:=qc F;obtain⟨g8,hx6⟩:=qJ hx6;have h:=h.p [0,3,1,2,4,5,6,7,8,9,10] Z;refine BD qa h Z Z Z Z Z Z Z Z Z g8 hx6 Z λ_ a4 X S21 h=>Ag (h.p [7,9] Z) (Ao 10 2047 Z (cr Z (G0 4095 [11] (h.p [7,9] Z) Z (Ao 12 8191 Z (zs 7 h Z λ_ h=>bN (λhs=>absurd (hs 12 (by decide)) (by decide)) (Ad (X0 4 Z ?_)))))));obtain⟨y6,hy6,F⟩:=qc F;have he6:=bJ hy6;have h:=h.lrn0 4 Z;obtain⟨_,o_5,_,_,hp7,hq7,-,hr10,hc9⟩:=(tV (h.lrnO 4 Z)).1.at hy6;have hr11:=hr10;obtain⟨a5,Y,rfl,_⟩:=hr10;have h:=h.lrnAdd 4 Z hr11;refine zx hp7 hq7 ⟨he6.1,qE he6.2.1 (tV (h.lrnO 4 Z)).2⟩ Z (zc 0 hc9 Z (X0 3 Z ?_));obtain⟨o4,F,hK4⟩:=qc F;refine qq ?_;have h:=h.p [0,3,4,5,6,7,8,9] Z;refine rL (λm e w'=>∃S22 p26 ln5 k21 x13 i5,kN P T y6 m x13 i5=V o4/\e=[(1,vp c),(3,vp a),(7,oS f i.length i.length),(8,oS g k.length k.length),(11,vi T),(87,vi (Ce.Ah.length:Int)),(88,vi T),(120,oL a5 y6 Y),(121,vi (y6.length:Int)),(122,vi i5)]/\SH w w' [oW S21 (M:List (List Int)) [oL a4 M X],oW S18 (L:List Int) [oL a3 L W],Ch.lrn S7 (x5:List (List Int)) [oS g k.length k.length] [vk (y6:List Int) [oL a5 y6 Y]],oW S5 (P:List Int) [oS f i.length i.length],oW S22 (x13:List qx) [oS p26 ln5 k21],oX a [oL p1 Ce.Aq.As I,oL t Ce.Aa.Ab o,oL u Ce.Aa.Ap k3,oL v Ce.Aa.Ai p,oL D Ce.Ah z,oL H r1 B,oS p26 ln5 k21,oL a3 L W,oL a4 M X,oS U 0 0] 132,oW S1 (r1:List aY) [oL H r1 B],oX c (qL Ce p1 t u v D I o k3 p z) 34]) m3 ⟨_,_,_,_,_,_,F,Z,h⟩ Z ?_;rintro m4 _ _ ⟨S22,p26,ln5,k21,x13,i5,F,rfl,h⟩;obtain rfl:=(h.sl 4 Z).2;rcases m4 with _|m4
  .cases F
  refine X0 5 Z (qn Z F ?_ ?_)<;>intro F
  .refine X0 6 Z ?_;obtain⟨y7,_,F,he7,_,_,_,_,hp8,hq8,rfl,hc11⟩:=(tV (qm.mono (h.lrnS 2 0 Z Z) (h.lrnB 2 Z))).1.ix F;refine zx hp8 hq8 ⟨he7.1,qE he7.2.1 (tV (qm.mono (h.lrnS 2 0 Z Z) (h.lrnB 2 Z))).2⟩ Z (zc 0 hc11 Z (X0 7 Z ?_));obtain⟨o5,F,hK5⟩:=qc F;refine qq (rL (λm e w'=>∃S23 p27 ln6 k22 x14 i6,kO P T i5 y7 m x14 i6=V o5/\e=[(1,vp c),(3,vp a),(7,oS f i.length i.length),(8,oS g k.length k.length),(11,vi T),(12,vi i5),(13,vi y7),(87,vi (Ce.Ah.length:Int)),(88,vi T),(120,oL a5 y6 Y),(121,vi (y6.length:Int)),(122,vi i5),(127,vi i6)]/\SH w w' [oW S21 (M:List (List Int)) [oL a4 M X],oW S18 (L:List Int) [oL a3 L W],Ch.lrn S7 (x5:List (List Int)) [oS g k.length k.length] [vk (y6:List Int) [oL a5 y6 Y]],oW S5 (P:List Int) [oS f i.length i.length],oW S23 (x14:List qx) [oS p27 ln6 k22],oX a [oL p1 Ce.Aq.As I,oL t Ce.Aa.Ab o,oL u Ce.Aa.Ap k3,oL v Ce.Aa.Ai p,oL D Ce.Ah z,oL H r1 B,oS p27 ln6 k22,oL a3 L W,oL a4 M X,oS U 0 0] 132,oW S1 (r1:List aY) [oL H r1 B],oX c (qL Ce p1 t u v D I o k3 p z) 34]) m4 ⟨_,_,_,_,_,_,F,Z,h⟩ Z ?_);rintro m5 _ _ ⟨S23,p27,ln6,k22,x14,i6,F,rfl,h⟩;obtain rfl:=(h.sl 4 Z).2;rcases m5 with _|m5
   .cases F
   refine X0 5 Z (qn Z F ?_ ?_)<;>intro F
   .refine X0 8 Z (rA [22] [3,5] h Z λ_ h=>M1 127 [0,1,2,3,4,5,6] 1 (h.p [3,5] Z) Z ?_);obtain⟨y8,hy8,F,he8,_,_,_,_,hp9,hq9,rfl,_⟩:=(h.sl 3 Z).1.ix F;refine Ax 7 255 hp9 hq9 ⟨he8.1,qE he8.2.1 (h.sl 3 Z).2⟩ (h.p [3,5] Z) Z (Aw 8 511 (λw' hw=>da qa (qR (w1:=w) (S1:=λ_=>False) hw 0 Z hy8 hp9 hq9 Z) (j:=0) Z Z Z) (h.p [3,5] Z) Z ?_);refine M0 131071 [9,10,11,12,13,14,15,16] (h.p [3,5] Z) Z (Aw 17 262143 (λw' hw=>qB qa [0,1,2,3] [.tmp 141,.tmp 145,.const (vi (2)),.tmp 146] z8) (h.p [3,5] Z) Z ?_);refine Ao 18 524287 Z (qt qa [.tmp 147] _ ([(⟨qj ((qj (2*y8))+i6),qj ((qj (2*y7))+i6),2,i5⟩:qx)]:List qx) h z9 ⟨(ga (⟨qj ((qj (2*y8))+i6),qj ((qj (2*y7))+i6),2,i5⟩:qx)),G⟩ Z λ_ _ _ h=>Ag (h.p [4,6] Z) (Ao 19 1048575 Z ?_));obtain⟨_,hx7,F⟩:=qc F;obtain⟨g9,hx7⟩:=qJ hx7;refine bn qa 5 h Z (h.sl 0 Z).1 (h.sl 0 Z).2 z9 g9 hx7 Z λ_ _ _ _ h=>Ag (h.p [4,6] Z) (Ao 20 2097151 Z (cr Z (G0 4194303 [21] (h.p [4,6] Z) Z (Ao 22 8388607 Z (zs 6 h Z λ_ h=>bN (λhs=>absurd (hs 22 (by decide)) (by decide)) (Ad (X0 5 Z ?_)))))));exact rK ⟨_,_,_,_,_,_,F,Z,h.p [1,2,3,4,5,6,7,8] Z⟩ Z
   refine qy Z ?_;cases qe F;exact X0 5 Z (rK ⟨_,_,_,_,_,_,hK5,Z,h⟩ Z)
  refine qy Z ?_;cases qe F;have F:=hK4;refine X0 5 Z ?_;have h:=h.unlrn 2 Z;exact rK ⟨_,_,_,_,_,_,_,_,_,_,_,_,_,_,_,_,F,Z,h⟩ Z
 refine qy Z ?_;cases qe F;have F:=hK3;refine X0 5 Z ?_;obtain rfl:=qe F;have hv1:gk.Rs (ρ:=(Option cU)) h.wc (vJ A w h.wc) (V (⟨Ce,r1,d,O,N,[]⟩:cU)) [oV (Option cU) [vp a]]:=⟨_,Z,(hg.outR h (Rg.boxR (x:=(⟨Ce,r1,d,O,N,[]⟩:cU)) 5 h Z (show qm.R _ _ ((⟨Ce,r1,d,O,N,[]⟩:cU):cU) _ from⟨[oL p1 Ce.Aq.As I,oL t Ce.Aa.Ab o,oL u Ce.Aa.Ap k3,oL v Ce.Aa.Ai p,oL D Ce.Ah z],[oL H r1 B,oL K d J,oL C O y,oL s N l,oS U 0 0],Z,⟨[oL p1 Ce.Aq.As I],[oL t Ce.Aa.Ab o,oL u Ce.Aa.Ap k3,oL v Ce.Aa.Ai p,oL D Ce.Ah z],Z,⟨_,_,Z,(hg.inS h s1)⟩,⟨[oL t Ce.Aa.Ab o,oL u Ce.Aa.Ap k3,oL v Ce.Aa.Ai p],[oL D Ce.Ah z],Z,⟨[oL t Ce.Aa.Ab o],[oL u Ce.Aa.Ap k3,oL v Ce.Aa.Ai p],Z,⟨_,_,Z,(hg.inS h s2)⟩,⟨[oL u Ce.Aa.Ap k3],[oL v Ce.Aa.Ai p],Z,⟨_,_,Z,(hg.inS h s3)⟩,⟨_,_,Z,(hg.inS h s4)⟩⟩⟩,⟨_,_,Z,(hg.inS h s5)⟩⟩⟩,⟨[oL H r1 B],[oL K d J,oL C O y,oL s N l,oS U 0 0],Z,(Rg.ownR 6 h Z),⟨[oL K d J],[oL C O y,oL s N l,oS U 0 0],Z,(Rg.ownR 4 h Z),⟨[oL C O y],[oL s N l,oS U 0 0],Z,(Rg.ownR 1 h Z),⟨[oL s N l],[oS U 0 0],Z,(Rg.ownR 0 h Z),⟨_,_,Z,pP⟩⟩⟩⟩⟩⟩)))⟩;exact gn qa (ρ:=(Option cU)) (r:=(V (⟨Ce,r1,d,O,N,[]⟩:cU))) [oV (Option cU) [vp a]] h ⟨Z,G⟩ hv1
def fk(c:qH):Nat->Int->Option (eE Bool Int)|0,_=>U|n+1,a=>bif decide (a<((4:Nat):Int)) then(qG ([c.Bb,c.Be,c.Az,c.Bd]:List Int) a).bind λb=>(bk n b 100 5000).bind λr1=>bif (!r1) then V (.ret Cd) else fk c n (qj (a+1)) else V (.nxt a)
def sZ(n:Nat)(c:qH):Option Bool:=(fk c n 0).bind λ|.ret r=>V r|.nxt _=>(pa n c.Bi).bind λa=>bif a then bif decide (c.Bb<=c.Be) then V (decide (c.Az<=c.Bd)) else V Cd else V Cd
theorem LQ{c:qH}(f:Ro w c cs1){r:Bool}(F:sZ n c=V r):qN prog 213 [gv c cs1] w r:=by
 obtain rfl:=dL f;refine zV 43 func213 Z λh=>db (qK h Z Z λ_ a h=>X4 12 0 0 0 0 h Z (qt qa [.tmp 6,.tmp 8,.tmp 10,.tmp 12] _ ([c.Bb,c.Be,c.Az,c.Bd]:List Int) h z9 ⟨Z,Z,Z,Z,G⟩ Z λ_ p1 S1 h=>X0 7 Z ?_));obtain⟨o1,F,b⟩:=qc F;refine qq (rL (λm e w'=>∃l,fk c m l=V o1/\e=[(1,vp a),(3,oS p1 4 4),(4,vi l)]/\SH w w' [oW S1 (([c.Bb,c.Be,c.Az,c.Bd]:List Int):List Int) [oS p1 4 4],oX a (ch c) 36]) n ⟨_,F,Z,h⟩ Z ?_);rintro o _ _ ⟨l,F,rfl,h⟩;rcases o with _|o
 .cases F
 refine X0 8 Z (qn Z F ?_ ?_)<;>intro F
 .refine X0 7 Z ?_;obtain⟨_,_,F,d,_,_,_,_,i,k,rfl,g⟩:=(h.sl 0 Z).1.ix F;refine zx i k ⟨d.1,qE d.2.1 (h.sl 0 Z).2⟩ Z (zc 0 g Z (dI h F aQ Z λ_ _ h F=>X0 2 Z (qn Z F ?_ ?_)))<;>intro F
  .refine X0 4 Z ?_;cases qe F;exact rb h b Z
  exact X0 7 Z (rK ⟨_,F,Z,h⟩ Z)
 refine qy Z ?_;cases qe F;have F:=b;refine X1 4 1 h Z (dI h F tA Z λ_ _ h F=>cr Z (qh (t:=29) F Z ?_ ?_))<;>intro F
 .refine X2 12 1 1 h Z (qh (t:=36) F Z ?_ ?_)<;>intro F
  .exact X2 13 1 1 h Z (rb h F Z)
  exact X0 8 Z (rb h F Z)
 exact X0 15 Z (rb h F Z)
def pk(_:Nat)(a:Int)(b:Int):Option Bool:=bif decide (a>=100) then bif decide (a<=b) then V (decide (b<=5000)) else V Cd else V Cd
theorem xJ{early late}  {r:Bool}(F:pk n early late=V r):qN prog 116 [vi early,vi late] w r:=by
 refine zV 16 func116 Z λh=>X0 9 Z (qh (t:=7) F Z ?_ ?_)<;>intro F
 .refine X0 8 Z (qh (t:=12) F Z ?_ ?_)<;>intro F
  .exact X0 7 Z (rb h F Z)
  exact X0 5 Z (rb h F Z)
 exact X0 10 Z (rb h F Z)
def sS(n:Nat)(c:qH):Option Bool:=(tO n c.Bi).bind λr1=>bif r1 then(pk n c.Bb c.Be).bind λa=>bif a then(pk n c.Az c.Bd).bind λb=>V b else V Cd else V Cd
theorem KW{c:qH}(a:Ro w c cs1){r:Bool}(F:sS n c=V r):qN prog 71 [gv c cs1] w r:=by
 obtain rfl:=dL a;refine zV 20 func71 Z λh=>db (qK h Z Z λ_ _ h=>X1 6 0 h Z (dI h F xK Z λ_ _ h F=>cr Z (qh (t:=6) F Z ?_ ?_)))<;>intro F
 .refine X2 9 0 0 h Z (dI h F xJ Z λ_ _ h F=>mr Z (qh (t:=13) F Z ?_ ?_))<;>intro F
  .exact X2 9 0 0 h Z (dI h F xJ Z λ_ _ h F=>X0 3 Z (rb h F Z))
  exact X0 8 Z (rb h F Z)
 exact X0 15 Z (rb h F Z)
end Go.Fw


namespace Go.Fw
open Go
set_option maxRecDepth 100000
theorem U7{d:qk}{k:Int}{n i:Nat}(hi:i<(fC d k n).length):∃y:Nat,y<n/\qG (fC d k n) (i:Int)=V (y:Int)/\uK d k y=An:=by
 rw[bZ hi];have a:(fC d k n)[i]∈fC d k n:=jm hi;generalize (fC d k n)[i]=z at a;unfold fC at a;obtain⟨y,f,rfl⟩:=List.mem_map.1 a;obtain⟨b,c⟩:=List.mem_filter.1 f;exact⟨y,List.mem_range.1 b,Z,c⟩
theorem RG{d:qk}{k:Int}(h:wE d):Ev (λn=>pJ n d k) (fC d k (places d).length):=by
 have g:=bj h;have c:Ev (λn=>cI k (places d) n ([]:List Int) 0) (fC d k (places d).length,((places d).length:Int)):=by
  refine fq (Lf:=cI k (places d)) (S:=λj=>fC d k j) (len:=(places d).length) (λn=>?_) (λj b X a=>?_)
  .simp only[cI,qr (jf _),Cj]
  .have f:(fC d k j).length+[(j:Int)].length<=2147483648:=by
    rw[vz];have:gr (uK d k) j<=j:=oE;simp;omega
   simp only[cI,qp b,Ci,qz b,jd,wS j];rw[wn] at a;unfold uK at a;cases h1:((gt (places d) j).net==k)
   .rw[h1] at a;simp only[Bool.false_and,Cj,Jb] at a⊢;exact a
   .cases h2:(gt (places d) j).drives
    .rw[h1,h2] at a;simp only[Bool.not_false,Bool.and_self,Ci,eG f,jd] at a⊢;exact a
    .rw[h1,h2] at a;simp only[Jq,Bool.and_false,Cj,Jb,Ci] at a⊢;exact a
 unfold pJ;exact Ck (FC h) (Ck c .done)
structure qdY(b:qf)(i:Nat):Prop where
 lo:1<=(gt b.Ah i).Ak.length
 hi:(gt b.Ah i).Ak.length<=8
 res:(gt b.Ah i).Bw.length=(gt b.Ah i).Ak.length
 cap:(gt b.Ah i).Bs.length=(gt b.Ah i).Ak.length
 par:∀j,0<j->j<(gt b.Ah i).Ak.length->0<=bm (gt b.Ah i).Ak j/\bm (gt b.Ah i).Ak j<j
 snk:(gt b.Ah i).Bl.length=(fC b.Aa (i:Int) (places b.Aa).length).length
 sin:∀j,j<(gt b.Ah i).Bl.length->0<=bm (gt b.Ah i).Bl j/\bm (gt b.Ah i).Bl j<(gt b.Ah i).Ak.length
theorem cW{b:qf}(h:aL b=An){i:Nat}(hi:i<b.Ah.length):qdY b i:=by
 unfold aL at h;rw[je,aA] at h;have:=h.2 i hi;unfold BY zF at this;simp only[je,decide_eq_true_eq,beq_iff_eq] at this;obtain⟨⟨f,g⟩,n,o,k,_,_,l,c⟩:=this;refine⟨f,g,by omega,by omega,λj m a=>?_,?_,λj a=>?_⟩
 .have:=aA.1 k j a;unfold EO at this;rw[show decide (j=0)=Cd by simp;omega] at this;simp only[Cj,cu] at this;omega
 .rw[vz];unfold ZB at l;omega
 .rw[pX (d:=0),aA] at c;have:=c j a;rw[cu] at this;unfold bm;omega
theorem xC{b:qf}(h:aL b=An):b.Ah.length=b.Aa.Ap.length:=by
 unfold aL at h;simp only[je,beq_iff_eq] at h;omega

instance:Inhabited qx:=⟨⟨0,0,0,0⟩⟩
instance:Inhabited ak:=⟨⟨0,0⟩⟩
theorem yw{α:Type}{m:Nat}{z:α}(h:m<=2147483648):yW (m:Int) z=V (List.replicate m z):=by
 unfold yW QU;rw[if_pos ⟨by omega,by omega⟩,jq]
theorem SF{α:Type}[Inhabited α]{xs:List α}{a k:Nat}{y:α}(h:k≠a):gt (xs.set a y) k=gt xs k:=by
 unfold gt;rw[jz,List.getElem?_set_ne (by omega),<-jz]
theorem MJ{α:Type}[Inhabited α]{xs:List α}{a:Nat}{y:α}(h:a<xs.length):gt (xs.set a y) a=y:=by
 rw[fd (by rw[List.length_set];exact h),List.getElem_set_self]

def AC(f:Nat->Int):Nat->Int
 |0=>0
 |n+1=>AC f n+f n
theorem G2{f g:Nat->Int}{n:Nat}(h:∀u,u<n->f u=g u):AC f n=AC g n:=by
 induction n with
 |zero=>rfl
 |succ n ih=>unfold AC;rw[ih (λu a=>h u (by omega)),h n (by omega)]
theorem ZM{f g:Nat->Int}{a n:Nat}(d:a<n)(h:∀u,u<n->u≠a->f u=g u):AC f n=AC g n+(f a-g a):=by
 induction n with
 |zero=>omega
 |succ n ih=>
  unfold AC;by_cases b:a=n
  .subst b;rw[G2 (λu c=>h u (by omega) (by omega))];omega
  .rw[ih (by omega) (λu c=>h u (by omega)),h n (by omega) (by omega)];omega
theorem qcF{f:Nat->Int}{n:Nat}(h:∀u,u<n->0<=f u):0<=AC f n:=by
 induction n with
 |zero=>exact jL _
 |succ n ih=>unfold AC;have:=ih (λu a=>h u (by omega));have:=h n (by omega);omega
theorem VU{f:Nat->Int}{a n:Nat}(h:∀u,u<n->0<=f u)(d:a<n):f a<=AC f n:=by
 induction n with
 |zero=>omega
 |succ n ih=>
  unfold AC;by_cases b:a=n
  .subst b;have:=qcF (λu (c:u<a)=>h u (by omega));omega
  .have:=ih (λu c=>h u (by omega)) (by omega);have:=h n (by omega);omega
theorem qcE{f:Nat->Int}{n:Nat}{c:Int}(h:∀u,u<n->f u<=c):AC f n<=n*c:=by
 induction n with
 |zero=>simp[AC]
 |succ n ih=>
  unfold AC;have:=ih (λu a=>h u (by omega));have:=h n (by omega);rw[Int.natCast_succ,Int.add_mul];omega
def VE(b:qf)(p:aY):Int:=bif decide (p.instance_<0) then 0 else(gt (bW b p.instance_).Bh p.pin.toNat).Bs
def OO(b:qf)(j:Nat):Int:=VE b (gt (places b.Aa) j)
theorem Z4{b:qf}(h:aL b=An){j:Nat}(d:j<(places b.Aa).length){n:Nat}:pI n b.Aa b.Aq (gt (places b.Aa) j)=V (OO b j):=by
 have c:=aO h;unfold OO VE;rcases yy d with⟨i,k,hi,hk,_,e⟩|⟨i,hi,_,e⟩
 .rw[e];obtain⟨⟨a,c1⟩,f,_⟩:=pu c hi;unfold zb bW;simp only[pI,show decide ((i:Int)<0)=Cd by simp,Cj,qz hi,jd,kJ a c1,jq,qz (show k<(gt b.Aq.As (gt b.Aa.Ab i).Bv.toNat).Bh.length by omega)]
 .rw[e];rfl
theorem Z3{b:qf}(h:aL b=An){j:Nat}(f:j<(places b.Aa).length):0<=OO b j/\OO b j<=500:=by
 have d:=aO h;unfold OO VE;rcases yy f with⟨i,k,hi,hk,_,e⟩|⟨i,hi,_,e⟩
 .rw[e];obtain⟨⟨g,c1⟩,l,c⟩:=pu d hi;unfold zb bW;simp only[show decide ((i:Int)<0)=Cd by simp,Cj,jq];have a:=vh c;unfold yx at a;rw[je,aA] at a;have:=a.1 k (by omega);unfold pinB at this;cases hl:decide (k+1=(gt b.Aq.As (gt b.Aa.Ab i).Bv.toNat).Bh.length)
  .rw[hl] at this;simp only[Cj,je,cu] at this;exact this.2
  .rw[hl] at this;simp only[Ci,je,beq_iff_eq] at this;omega
 .rw[e];exact⟨jL _,show(0:Int)<=500 by omega⟩
def pU(b:qf)(i:Nat):List Int:=fC b.Aa (i:Int) (places b.Aa).length
def yi(b:qf)(w:aR)(sk:List Int)(t:List Int)(j:Nat):List Int:=am t (bm w.Bl j) (qj (gt t (bm w.Bl j).toNat+OO b (bm sk j).toNat))
def QV(b:qf)(w:aR)(sk:List Int):Nat->List Int
 |0=>w.Bs
 |j+1=>yi b w sk (QV b w sk j) j
def H1(w:aR)(t:List Int)(j:Nat):List Int:=am t (bm w.Ak j) (qj (gt t (bm w.Ak j).toNat+gt t j))
def qb0(w:aR):Nat->List Int->List Int
 |0,t=>t
 |j+1,t=>qb0 w j (H1 w t (j+1))
def dK(b:qf)(i:Nat):List Int:=qb0 (gt b.Ah i) ((gt b.Ah i).Ak.length-1) (QV b (gt b.Ah i) (pU b i) (pU b i).length)
theorem ID{b:qf}{w:aR}{sk:List Int}{j:Nat}:(QV b w sk j).length=w.Bs.length:=by
 induction j with
 |zero=>rfl
 |succ j ih=>unfold QV yi;rw[cg,ih]
theorem qb1{w:aR}{j:Nat}{t:List Int}:(qb0 w j t).length=t.length:=by
 induction j generalizing t with
 |zero=>rfl
 |succ j ih=>unfold qb0 H1;rw[ih,cg]
theorem AW{b:qf}(h:aL b=An){i:Nat}(hi:i<b.Ah.length):(dK b i).length=(gt b.Ah i).Ak.length:=by
 unfold dK;rw[qb1,ID,(cW h hi).cap]
theorem se{b:qf}(h:aL b=An){i:Nat}:(pU b i).length<=78:=by
 have a:=bj (ab (aO h));unfold pU;rw[vz];have:gr (uK b.Aa (i:Int)) (places b.Aa).length<=(places b.Aa).length:=oE;omega
theorem HH{b:qf}{i j:Nat}(a:j<(pU b i).length):∃y:Nat,y<(places b.Aa).length/\bm (pU b i) j=(y:Int)/\uK b.Aa (i:Int) y=An:=by
 obtain⟨y,c,d,f⟩:=U7 a;exact⟨y,c,by have:=d;rw[show(fC b.Aa (i:Int) (places b.Aa).length)=pU b i from rfl,aM a] at this;exact Option.some.inj this,f⟩
theorem IG{b:qf}(h:aL b=An){i:Nat}(hi:i<b.Ah.length):Ev (λn=>ko n b (i:Int)) (dK b i):=by
 have c:=cW h hi;have m:=ab (aO h);have u:=c.lo;have r:=c.hi;have d:=c.cap;have x:=se h (i:=i);have e1:Ev (λn=>dj b (gt b.Ah i) (places b.Aa) (pU b i) n (gt b.Ah i).Bs 0) (QV b (gt b.Ah i) (pU b i) (pU b i).length,((pU b i).length:Int)):=by
  refine fq (Lf:=dj b (gt b.Ah i) (places b.Aa) (pU b i)) (S:=QV b (gt b.Ah i) (pU b i)) (len:=(pU b i).length) (λn=>?_) (λj a X l=>?_)
  .simp only[dj,qr (jf _),Cj]
  .obtain⟨y,o,k,_⟩:=HH a;have f:j<(gt b.Ah i).Bl.length:=by rw[c.snk];exact a
   have g:=c.sin j f;have s:=ID (b:=b) (w:=gt b.Ah i) (sk:=pU b i) (j:=j);simp only[dj,qp a,Ci,aM a,k,jd,aM f,kJ g.1 (show bm (gt b.Ah i).Bl j<((QV b (gt b.Ah i) (pU b i) j).length:Int) by omega),qz o,Z4 h o,wS j];have:QV b (gt b.Ah i) (pU b i) (j+1)=am (QV b (gt b.Ah i) (pU b i) j) (bm (gt b.Ah i).Bl j) (qj (gt (QV b (gt b.Ah i) (pU b i) j) (bm (gt b.Ah i).Bl j).toNat+OO b y)):=by
    show yi _ _ _ _ _=_;unfold yi;rw[k,jq]
   rw[this] at l;exact l
 have p:∀j t,t.length=(gt b.Ah i).Ak.length->j<(gt b.Ah i).Ak.length->Ev (λn=>dm (gt b.Ah i) n t (j:Int)) (qb0 (gt b.Ah i) j t,0):=by
  intro j
  induction j with
  |zero=>
   intro t _ _;refine Cm ?_;show Ev (λn=>dm (gt b.Ah i) (n+1) t 0) _;unfold dm;exact Cp Z .done
  |succ j ih=>
   intro t z a;have v:=c.par (j+1) (by omega) a;refine Cm ?_;simp only[dm,show decide (((j+1:Nat):Int) > 0)=An from decide_eq_true (by omega),Ci,aM a,jd,kJ v.1 (show bm (gt b.Ah i).Ak (j+1)<(t.length:Int) by omega),qz (show j+1<t.length by omega),show((j+1:Nat):Int)-1=(j:Int) by omega,qX (show -9223372036854775808<=(j:Int) by omega) (by omega)];exact ih _ (by rw[cg];exact z) (by omega)
 unfold ko iG;rw[qz hi];simp only[jd,eG (show([]:List Int).length+(gt b.Ah i).Bs.length<=2147483648 by simp;omega),List.nil_append];refine Ck (FC m) (Ck (RG m) (Ck e1 ?_));rw[nD (show(gt b.Ah i).Bs.length<=9223372036854775807 by omega),show((gt b.Ah i).Bs.length:Int)-1=(((gt b.Ah i).Ak.length-1:Nat):Int) by omega];exact Ck (p _ _ (by rw[ID];exact d) (by omega)) .done
structure qeJ(t:List Int)(L:Nat)(S:Int):Prop where
 len:t.length=L
 nn:∀k,k<L->0<=gt t k
 sum:AC (gt t) L<=S
theorem AL{t:List Int}{a:Nat}{y:Int}{k:Nat}(b:a<t.length):gt (am t (a:Int) y) k=if k=a then y else gt t k:=by
 unfold am;rw[jq];by_cases h:k=a
 .subst h;rw[if_pos Z,MJ b]
 .rw[if_neg h,SF h]
theorem qdw{b:qf}(h:aL b=An){i:Nat}(hi:i<b.Ah.length)(m:∀k,k<(gt b.Ah i).Bs.length->0<=gt (gt b.Ah i).Bs k/\gt (gt b.Ah i).Bs k<=500) :
  ∀j,j<=(pU b i).length->qeJ (QV b (gt b.Ah i) (pU b i) j) (gt b.Ah i).Ak.length (4000+500*j):=by
 have p:=cW h hi;have z:=p.hi;have l:=p.cap;have A:=se h (i:=i);intro j
 induction j with
 |zero=>
  intro _;refine⟨l,λk t=>(m k (by omega)).1,?_⟩;have:=qcE (f:=gt (gt b.Ah i).Bs) (n:=(gt b.Ah i).Ak.length) (c:=500) (λu H=>(m u (by omega)).2);show AC (gt (gt b.Ah i).Bs) _<=_;omega
 |succ j ih=>
  intro D;obtain⟨l1,n1,s1⟩:=ih (by omega);obtain⟨y,B,v,_⟩:=HH (show j<(pU b i).length by omega);have C:=Z3 h B;have o:=p.sin j (by rw[p.snk];exact(show j<(pU b i).length by omega));obtain⟨a,s⟩:∃a:Nat,bm (gt b.Ah i).Bl j=(a:Int):=⟨_,fB o.1⟩;rw[s] at o;have d:a<(gt b.Ah i).Ak.length:=by omega
  have x:=VU n1 d;have F:=n1 a d;have e:QV b (gt b.Ah i) (pU b i) (j+1)=am (QV b (gt b.Ah i) (pU b i) j) (a:Int) (gt (QV b (gt b.Ah i) (pU b i) j) a+OO b y):=by
   show yi _ _ _ _ _=_;unfold yi;rw[v,s,jq,jq,qX (by omega) (by omega)]
  rw[e];refine⟨by rw[cg];exact l1,λk t=>?_,?_⟩
  .rw[AL (by omega)];split
   .omega
   .exact n1 k t
  .rw[ZM (g:=gt (QV b (gt b.Ah i) (pU b i) j)) d (λu _ r=>by rw[AL (by omega),if_neg r]),AL (by omega),if_pos Z];omega
theorem qdx{b:qf}(h:aL b=An){i:Nat}(hi:i<b.Ah.length){S:Int}(A:S<=1000000000):∀j t,j<(gt b.Ah i).Ak.length->t.length=(gt b.Ah i).Ak.length->(∀k,k<t.length->0<=gt t k/\gt t k<=S)->AC (gt t) (j+1)<=S ->
  ∀k,k<t.length->0<=gt (qb0 (gt b.Ah i) j t) k/\gt (qb0 (gt b.Ah i) j t) k<=S:=by
 have x:=cW h hi;intro j
 induction j with
 |zero=>intro t _ _ c _;exact c
 |succ j ih=>
  intro t s v c r;have p:=x.par (j+1) (by omega) s;obtain⟨a,o⟩:∃a:Nat,bm (gt b.Ah i).Ak (j+1)=(a:Int):=⟨_,fB p.1⟩;rw[o] at p;have y:=c a (by omega);have z:=c (j+1) (by omega);have e:H1 (gt b.Ah i) t (j+1)=am t (a:Int) (gt t a+gt t (j+1)):=by
   unfold H1;rw[o,jq,qX (by omega) (by omega)]
  have n:AC (gt (am t (a:Int) (gt t a+gt t (j+1)))) (j+1)<=S:=by
   rw[ZM (g:=gt t) (a:=a) (by omega) (λu _ l=>by rw[AL (by omega),if_neg l]),AL (by omega),if_pos Z];have:AC (gt t) (j+1+1)=AC (gt t) (j+1)+gt t (j+1):=rfl;omega
  unfold qb0;rw[e];have:=ih (am t (a:Int) (gt t a+gt t (j+1))) (by omega) (by rw[cg];exact v) (λk f=>by
   rw[cg] at f;have m:∀u,u<j+1->0<=gt (am t (a:Int) (gt t a+gt t (j+1))) u:=λu B=>by
    rw[AL (by omega)];split
    .omega
    .exact(c u (by omega)).1
   have d:=VU m (show a<j+1 by omega);rw[AL (by omega)] at d⊢;rw[if_pos Z] at d;split
   .omega
   .exact c k f) n
  rw[cg] at this;exact this
theorem MH{b:qf}(h:aL b=An){i:Nat}(hi:i<b.Ah.length):(∀k,k<(gt b.Ah i).Bs.length->0<=gt (gt b.Ah i).Bs k/\gt (gt b.Ah i).Bs k<=500)/\(∀k,k<(gt b.Ah i).Bw.length->0<=bm (gt b.Ah i).Bw k/\bm (gt b.Ah i).Bw k<=1000):=by
 unfold aL at h;rw[je,aA] at h;have:=h.2 i hi;unfold BY zF at this;simp only[je,decide_eq_true_eq,beq_iff_eq] at this;obtain⟨_,_,_,_,f,c,_⟩:=this;rw[pX (d:=0),aA] at f c;exact⟨λk a=>by have:=c k a;rw[cu] at this;exact this,λk a=>by have:=f k a;rw[cu] at this;exact this⟩
theorem D8{b:qf}(h:aL b=An){i:Nat}(hi:i<b.Ah.length){k:Nat}(c:k<(gt b.Ah i).Ak.length):0<=gt (dK b i) k/\gt (dK b i) k<=43000:=by
 have g:=cW h hi;have d:=g.lo;have f:=se h (i:=i);obtain⟨l1,n1,s1⟩:=qdw h hi (MH h hi).1 (pU b i).length (jf _);have:=qdx h hi (S:=43000) (by omega) ((gt b.Ah i).Ak.length-1) (QV b (gt b.Ah i) (pU b i) (pU b i).length) (by omega) l1 (λk c=>by
  have a:=n1 k (by omega);have l:=VU n1 (show k<(gt b.Ah i).Ak.length by omega);exact⟨a,by omega⟩) (by rw[show(gt b.Ah i).Ak.length-1+1=(gt b.Ah i).Ak.length by omega];omega) k (by omega)
 exact this
def OT(w:aR)(ld:List Int):Nat->List Int
 |0=>[0]
 |k+1=>OT w ld k++[qj (gt (OT w ld k) (bm w.Ak (k+1)).toNat+qj (bm w.Bw (k+1)*gt ld (k+1)))]
theorem HT{w:aR}{ld:List Int}{k:Nat}:(OT w ld k).length=k+1:=by
 induction k with
 |zero=>rfl
 |succ k ih=>unfold OT;rw[jg,ih];rfl
def dV(b:qf)(i:Nat):List Int:=OT (gt b.Ah i) (dK b i) ((gt b.Ah i).Ak.length-1)
def bA(b:qf)(i:Nat):List Int:=(gt b.Ah i).Bl.map λs=>gt (dV b i) s.toNat
theorem yk{b:qf}(h:aL b=An){i:Nat}(hi:i<b.Ah.length):(dV b i).length=(gt b.Ah i).Ak.length:=by
 unfold dV;rw[HT];have:=(cW h hi).lo;omega
theorem qbJ{w:aR}{ld:List Int}{k m:Nat}(b:k+1<m)(c:bm w.Ak (k+1)<((k+1:Nat):Int))(_:0<=bm w.Ak (k+1)) :
  am (OT w ld k++List.replicate (m-(k+1)) 0) ((k+1:Nat):Int) (qj (gt (OT w ld k++List.replicate (m-(k+1)) 0) (bm w.Ak (k+1)).toNat+qj (bm w.Bw (k+1)*gt ld (k+1))))=OT w ld (k+1)++List.replicate (m-(k+1+1)) 0:=by
 have a:=HT (w:=w) (ld:=ld) (k:=k);have e1:gt (OT w ld k++List.replicate (m-(k+1)) 0) (bm w.Ak (k+1)).toNat=gt (OT w ld k) (bm w.Ak (k+1)).toNat:=by
  rw[zo,if_pos (by omega)]
 rw[e1];unfold am;rw[jq,List.set_append,if_neg (by omega),a,Nat.sub_self,show m-(k+1)=(m-(k+1+1))+1 by omega,List.replicate_succ,List.set_cons_zero];show _=(OT w ld k++[_])++_;rw[jv]
 rfl
theorem RL{b:qf}(h:aL b=An){i:Nat}(hi:i<b.Ah.length):Ev (λn=>mi n b (i:Int)) (dV b i):=by
 have f:=cW h hi;have s:=f.lo;have p:=f.hi;have o:=f.res;have l1:=AW h hi;have l:yW ((dK b i).length:Int) (0:Int)=V (List.replicate (dK b i).length 0):=qb8 (by omega);have c:∀d k,k+1+d=(gt b.Ah i).Ak.length->Ev (λn=>dW (gt b.Ah i) (dK b i) (List.replicate (dK b i).length 0) n (OT (gt b.Ah i) (dK b i) k++List.replicate ((gt b.Ah i).Ak.length-(k+1)) 0) ((k+1:Nat):Int)) (dV b i,((dK b i).length:Int)):=by
  intro d
  induction d with
  |zero=>
   intro k g;refine Cm ?_;simp only[dW,jJ,qr (show(dK b i).length<=k+1 by omega),Cj];refine Cx ?_;rw[show(gt b.Ah i).Ak.length-(k+1)=0 by omega,List.replicate_zero,Jb,l1,<-g];unfold dV;rw[<-g]
   rfl
  |succ d ih=>
   intro k g;have m:=f.par (k+1) (by omega) (by omega);have a:=HT (w:=gt b.Ah i) (ld:=dK b i) (k:=k);have r:(OT (gt b.Ah i) (dK b i) k++List.replicate ((gt b.Ah i).Ak.length-(k+1)) 0).length=(gt b.Ah i).Ak.length:=by rw[jg,jJ,a];omega
   refine Cm ?_;simp only[dW,jJ,qp (show k+1<(dK b i).length by omega),Ci,aM (show k+1<(gt b.Ah i).Ak.length by omega),jd,kJ m.1 (show bm (gt b.Ah i).Ak (k+1)<((OT (gt b.Ah i) (dK b i) k++List.replicate ((gt b.Ah i).Ak.length-(k+1)) 0).length:Int) by omega),
    aM (show k+1<(gt b.Ah i).Bw.length by omega),qz (show k+1<(dK b i).length by omega),qz (show k+1<(OT (gt b.Ah i) (dK b i) k++List.replicate ((gt b.Ah i).Ak.length-(k+1)) 0).length by omega),ti (show k+1<9223372036854775807 by omega)]
   rw[qbJ (by omega) m.2 m.1];exact ih (k+1) (by omega)
 unfold mi;rw[qz hi];simp only[jd];refine Ck (IG h hi) ?_;rw[l];simp only[jd];have:=c ((gt b.Ah i).Ak.length-1) 0 (by omega);have e0:OT (gt b.Ah i) (dK b i) 0++List.replicate ((gt b.Ah i).Ak.length-(0+1)) 0=List.replicate (dK b i).length 0:=by
  rw[l1];show[(0:Int)]++_=_;rw[show(gt b.Ah i).Ak.length=((gt b.Ah i).Ak.length-(0+1))+1 by omega,List.replicate_succ]
  rfl
 rw[e0] at this;exact Ck this .done
theorem OU{b:qf}(h:aL b=An){i:Nat}(hi:i<b.Ah.length):Ev (λn=>lm n b (i:Int)) (bA b i):=by
 have d:=cW h hi;have l:(gt b.Ah i).Bl.length<=78:=by rw[d.snk];exact se h
 have k:=yk h hi;have f:Ev (λn=>cD (dV b i) (gt b.Ah i) n ([]:List Int) 0) (bA b i,((gt b.Ah i).Bl.length:Int)):=by
  refine fq (Lf:=cD (dV b i) (gt b.Ah i)) (S:=λj=>((gt b.Ah i).Bl.take j).map λs=>gt (dV b i) s.toNat) (len:=(gt b.Ah i).Bl.length) (λn=>?_) (λj a X g=>?_)
  .simp only[cD,qr (jf _),Cj,jH];rfl
  .have c:=d.sin j a;simp only[cD,qp a,Ci,aM a,jd,kJ c.1 (show bm (gt b.Ah i).Bl j<((dV b i).length:Int) by omega),wS j];rw[eG (by rw[jo,jy,jh];omega)];have:((gt b.Ah i).Bl.take j).map (λs=>gt (dV b i) s.toNat)++[gt (dV b i) (bm (gt b.Ah i).Bl j).toNat]=((gt b.Ah i).Bl.take (j+1)).map λs=>gt (dV b i) s.toNat:=by
    rw[jw a,jY,wy a];rfl
   rw[this];exact g
 unfold lm;refine Ck (RL h hi) ?_;rw[qz hi];simp only[jd];exact Ck f .done
theorem XF{b:qf}(h:aL b=An){i:Nat}(hi:i<b.Ah.length):∀k,k<(gt b.Ah i).Ak.length->∀m,m<=k->0<=gt (OT (gt b.Ah i) (dK b i) k) m/\gt (OT (gt b.Ah i) (dK b i) k) m<=43000000*k:=by
 have l:=cW h hi;have t:=l.hi;have r:=l.res;intro k
 induction k with
 |zero=>
  intro _ m u;have f:m=0:=by omega
  subst f;exact⟨jL _,jL _⟩
 |succ k ih=>
  intro o m u;have c:=HT (w:=gt b.Ah i) (ld:=dK b i) (k:=k);unfold OT;rw[zo];split
  .have:=ih (by omega) m (by omega);omega
  .have g:m=k+1:=by omega
   subst g;rw[c,Nat.sub_self];show 0<=qj _/\qj _<=_;have p:=l.par (k+1) (by omega) o;obtain⟨a,s⟩:∃a:Nat,bm (gt b.Ah i).Ak (k+1)=(a:Int):=⟨_,fB p.1⟩;rw[s] at p⊢;rw[jq];have v:=ih (by omega) a (by omega);have n:=(MH h hi).2 (k+1) (by omega);have d:=D8 h hi o;have x:bm (gt b.Ah i).Bw (k+1)*gt (dK b i) (k+1)<=1000*43000:=Jf n.2 d.2 d.1 (by omega);have y:0<=bm (gt b.Ah i).Bw (k+1)*gt (dK b i) (k+1):=jS n.1 d.1;rw[wO (bm (gt b.Ah i).Bw (k+1)*gt (dK b i) (k+1)),qX (by omega) (by omega)];omega
theorem xG{b:qf}(h:aL b=An){i:Nat}(hi:i<b.Ah.length){j:Nat}(a:j<(gt b.Ah i).Bl.length):0<=gt (bA b i) j/\gt (bA b i) j<=344000000:=by
 have c:=cW h hi;have d:=c.hi;have f:=c.sin j a;have e:gt (bA b i) j=gt (dV b i) (bm (gt b.Ah i).Bl j).toNat:=by
  unfold bA;rw[fd (by rw[jo];exact a),List.getElem_map,wy a]
 rw[e];have:=XF h hi ((gt b.Ah i).Ak.length-1) (by omega) (bm (gt b.Ah i).Bl j).toNat (by omega);show 0<=gt (OT _ _ _) _/\gt (OT _ _ _) _<=_;omega

def pre{α:Type}(f:Nat->α)(j:Nat):List α:=(List.range j).map f
theorem wZ{α:Type}{f:Nat->α}{j:Nat}:(pre f j).length=j:=by simp[pre]
theorem qaU{α:Type}{f:Nat->α}{j:Nat}:pre f j++[f j]=pre f (j+1):=by unfold pre;rw[List.range_succ,jY];rfl
theorem FD{α:Type}{f:Nat->α}{j:Nat}(h:j<=1048576):df (pre f j) [f j]=V (pre f (j+1)):=by
 rw[eG (by rw[wZ,jh];omega),qaU]
theorem qaT{α:Type}[Inhabited α]{f:Nat->α}{n j:Nat}(h:j<n):gt (pre f n) j=f j:=OX h
theorem oO{α:Type}[Inhabited α]{f:Nat->α}{n j:Nat}(h:j<n):qG (pre f n) (j:Int)=V (f j):=by rw[qz (by rw[wZ];exact h),qaT h]
theorem sd{α:Type}{f g:Nat->α}{n:Nat}(h:∀k,k<n->f k=g k):pre f n=pre g n:=List.map_congr_left λk a=>h k (List.mem_range.1 a)
theorem IR{α:Type}{f:Nat->α}{n k:Nat}{v:α}:am (pre f n) (k:Int) v=pre (λi=>if i=k then v else f i) n:=by
 unfold am pre;rw[jq];refine Jo (by simp) λi a b=>?_;rw[List.getElem_set];by_cases h:k=i
 .subst h;simp
 .rw[if_neg h];simp[show ¬ i=k from λe=>h e.symm]
def fm{α:Type}(f:Nat->List α)(j:Nat):List α:=(List.range j).flatMap f
theorem wQ{α:Type}{f:Nat->List α}{j:Nat}:fm f (j+1)=fm f j++f j:=by unfold fm;rw[List.range_succ,List.flatMap_append];simp
theorem KT{α:Type}{f:Nat->List α}{j c:Nat}(h:∀i,i<j->(f i).length<=c):(fm f j).length<=c*j:=by
 induction j with
 |zero=>exact jf _
 |succ j ih=>rw[wQ,jg];have:=ih (λi hi=>h i (by omega));have:=h j (by omega);rw[Nat.mul_succ];omega
def gM(a:bo):List ak:=
 bif (a.Bf==2) then[⟨0,0⟩,⟨0,1⟩] else bif (a.Bf==3) then[⟨1,0⟩,⟨1,1⟩] else bif (a.Bf != 1) then[] else
 bif (a.Br==1) then[⟨0,0⟩,⟨1,1⟩] else bif (a.Br==2) then[⟨0,1⟩,⟨1,0⟩] else[⟨0,0⟩,⟨0,1⟩,⟨1,0⟩,⟨1,1⟩]
theorem V1{a:bo}{n:Nat}:mU n a=V (gM a):=by
 unfold mU gM;cases (a.Bf==2)
 .cases (a.Bf==3)
  .cases (a.Bf != 1)
   .cases (a.Br==1)
    .cases (a.Br==2)<;>rfl
    .rfl
   .rfl
  .rfl
 .rfl
theorem QQ{a:bo}:(gM a).length<=4:=by
 unfold gM;cases (a.Bf==2)
 .cases (a.Bf==3)
  .cases (a.Bf != 1)
   .cases (a.Br==1)
    .cases (a.Br==2)<;>simp
    .simp
   .simp
  .simp
 .simp
def O5(x:Int):Prop:=x=0\/x=1
theorem TM{a:bo}{t:ak}(h:t∈gM a):O5 t.e0/\O5 t.e1:=by
 have b:∀t∈[(⟨0,0⟩:ak),⟨0,1⟩,⟨1,0⟩,⟨1,1⟩],O5 t.e0/\O5 t.e1:=by
  intro t c;simp only[jQ,jI,or_false] at c;rcases c with rfl|rfl|rfl|rfl<;>simp[O5]
 refine b t ?_;unfold gM at h;revert h;cases (a.Bf==2)
 .cases (a.Bf==3)
  .cases (a.Bf != 1)
   .cases (a.Br==1)
    .cases (a.Br==2)
     .exact λh=>h
     .intro h;simp at h;rcases h with rfl|rfl<;>simp
    .intro h;simp at h;rcases h with rfl|rfl<;>simp
   .intro h;simp at h
  .intro h;simp at h;rcases h with rfl|rfl<;>simp
 .intro h;simp at h;rcases h with rfl|rfl<;>simp
def qbz(first:Int)(k:Nat)(a:bo)(t:ak):qx:=⟨2*(first+a.Bm)+t.e0,2*(first+a.To)+t.e1,1,(k:Int)⟩
def wG(first:Int)(k:Nat)(a:bo):List qx:=(gM a).map (qbz first k a)
def nV(c:qQ)(first:Int)(j:Nat):List qx:=fm (λk=>wG first k (gt c.Av k)) j
def oK(b:qf)(j:Nat):List qx:=fm (λi=>nV (bW b (i:Int)) (cQ b.Aa i:Int) (bW b (i:Int)).Av.length) j
theorem KJ{first:Int}{k:Nat}{a:bo}:(wG first k a).length<=4:=by unfold wG;rw[jo];exact QQ
theorem UH{b:qf}(h:aL b=An){i:Nat}(hi:i<b.Aa.Ab.length):Ev (λn=>mV n b (gt b.Aa.Ab i) (cQ b.Aa i:Int)) (nV (bW b (i:Int)) (cQ b.Aa i:Int) (bW b (i:Int)).Av.length):=by
 have u:=aO h;have D:=ab u;obtain⟨⟨z,c1⟩,r,g⟩:=pu u hi;have B:=GR g;have s:=(rq (vh g)).1;have v:cQ b.Aa i<=78:=by
  have:=bj D;rw[rt] at this;have:=E2 (d:=b.Aa) (show i<=b.Aa.Ab.length by omega);omega
 show Ev _ (nV (gt b.Aq.As (gt b.Aa.Ab i).Bv.toNat) (cQ b.Aa i:Int) (gt b.Aq.As (gt b.Aa.Ab i).Bv.toNat).Av.length);generalize hc:gt b.Aq.As (gt b.Aa.Ab i).Bv.toNat=c at r g B s⊢;have A:Ev (λn=>dh (cQ b.Aa i:Int) c n ([]:List qx) 0) (nV c (cQ b.Aa i:Int) c.Av.length,(c.Av.length:Int)):=by
  refine fq (Lf:=dh (cQ b.Aa i:Int) c) (S:=nV c (cQ b.Aa i:Int)) (len:=c.Av.length) (λn=>?_) (λj p X o=>?_)
  .simp only[dh,qr (jf _),Cj]
  .have H:=CT g p;have C:(nV c (cQ b.Aa i:Int) j).length<=4*j:=KT λ_ _=>KJ;simp only[dh,qp p,Ci,qz p,jd,V1,wS j];have m:Ev (λn=>di (cQ b.Aa i:Int) (j:Int) (gt c.Av j) (gM (gt c.Av j)) n (nV c (cQ b.Aa i:Int) j) 0) (nV c (cQ b.Aa i:Int) (j+1),((gM (gt c.Av j)).length:Int)):=by
    have F:=QQ (a:=gt c.Av j);have:=fq (Lf:=di (cQ b.Aa i:Int) (j:Int) (gt c.Av j) (gM (gt c.Av j))) (S:=λk=>nV c (cQ b.Aa i:Int) j++((gM (gt c.Av j)).take k).map (qbz (cQ b.Aa i:Int) j (gt c.Av j))) (len:=(gM (gt c.Av j)).length) (fin:=(nV c (cQ b.Aa i:Int) (j+1),((gM (gt c.Av j)).length:Int))) (λn=>by
      simp only[di,qr (jf _),Cj,jH];show V (nV c _ j++wG _ j _,_)=V (fm _ (j+1),_);rw[wQ];rfl)
     (λk f X o=>by
      have y:=TM (a:=gt c.Av j) (t:=gt (gM (gt c.Av j)) k) (by rw[fd f];exact jm f);have e0:qj (qj (2*qj ((cQ b.Aa i:Int)+(gt c.Av j).Bm))+(gt (gM (gt c.Av j)) k).e0)=2*((cQ b.Aa i:Int)+(gt c.Av j).Bm)+(gt (gM (gt c.Av j)) k).e0:=by
       rcases y.1 with e|e<;>rw[e,wO ((cQ b.Aa i:Int)+(gt c.Av j).Bm),qX (x:=2*((cQ b.Aa i:Int)+(gt c.Av j).Bm)) (by omega) (by omega),qX (by omega) (by omega)]
      have e1:qj (qj (2*qj ((cQ b.Aa i:Int)+(gt c.Av j).To))+(gt (gM (gt c.Av j)) k).e1)=2*((cQ b.Aa i:Int)+(gt c.Av j).To)+(gt (gM (gt c.Av j)) k).e1:=by
       rcases y.2 with e|e<;>rw[e,wO ((cQ b.Aa i:Int)+(gt c.Av j).To),qX (x:=2*((cQ b.Aa i:Int)+(gt c.Av j).To)) (by omega) (by omega),qX (by omega) (by omega)]
      simp only[di,qp f,Ci,qz f,jd,e0,e1,wS k];rw[eG (by rw[jg,jo,jy,jh];omega),jv];have:((gM (gt c.Av j)).take k).map (qbz (cQ b.Aa i:Int) j (gt c.Av j))++[qbz (cQ b.Aa i:Int) j (gt c.Av j) (gt (gM (gt c.Av j)) k)]=((gM (gt c.Av j)).take (k+1)).map (qbz (cQ b.Aa i:Int) j (gt c.Av j)):=ph f;have l:((gM (gt c.Av j)).take k).map (qbz (cQ b.Aa i:Int) j (gt c.Av j))++[(⟨2*((cQ b.Aa i:Int)+(gt c.Av j).Bm)+(gt (gM (gt c.Av j)) k).e0,2*((cQ b.Aa i:Int)+(gt c.Av j).To)+(gt (gM (gt c.Av j)) k).e1,1,(j:Int)⟩:qx)]=((gM (gt c.Av j)).take (k+1)).map (qbz (cQ b.Aa i:Int) j (gt c.Av j)):=this;rw[l];exact o)
    simpa using this
   exact Ck m o
 unfold mV;rw[kJ z c1,hc];simp only[jd];exact Ck A .done
def yl(d:qk)(k:Nat):Nat:=((List.range (places d).length).find? λj=>AK d (k:Int) j).getD 0
theorem uj{l:qD}{d:qk}(h:lk l d=An){k:Nat}(f:k<d.Ap.length):yl d k<(places d).length/\AK d (k:Int) (yl d k)=An:=by
 obtain⟨j,b,c,a⟩:=qdk h (k:=(k:Int)) (by omega) (by omega);unfold yl;cases hf:(List.range (places d).length).find? λj=>AK d (k:Int) j with
 |none=>
  have:=List.find?_eq_none.1 hf j (List.mem_range.2 b);exact absurd (by unfold AK;rw[c,a];simp) this
 |some i=>exact⟨List.mem_range.1 (List.mem_of_find?_eq_some hf),by have:=List.find?_some hf;exact this⟩
theorem CV{d:qk}{k:Int}{j:Nat}:AK d k j=An↔(gt (places d) j).net=k/\(gt (places d) j).drives=An:=by unfold AK;simp
theorem qad{l:qD}{d:qk}(h:lk l d=An){k:Nat}(m:k<d.Ap.length){j:Nat}(i:j<(places d).length)(n:(gt (places d) j).net=(k:Int))(g:(gt (places d) j).drives=An):yl d k=j:=by
 obtain⟨a,b⟩:=uj h m;obtain⟨c,f⟩:=CV.1 b;exact XH h a i (by rw[c,n]) f g
def qd0(a:Nat)(s:Int)(k:Nat):List qx:=[⟨2*(a:Int),2*s,2,(k:Int)⟩,⟨2*(a:Int)+1,2*s+1,2,(k:Int)⟩]
def VY(b:qf)(i j:Nat):List qx:=fm (λk=>qd0 (yl b.Aa i) (bm (pU b i) k) k) j
def zh(b:qf)(j:Nat):List qx:=fm (λi=>VY b i (pU b i).length) j
def qd(b:qf):List qx:=oK b b.Aa.Ab.length++zh b b.Ah.length
def sY(b:qf)(i:Nat):Int:=gt (dK b i) 0
def nO(b:qf)(ex:List Int):cU:=⟨b,places b.Aa,qd b,pre (sY b) b.Ah.length,pre (bA b) b.Ah.length,ex⟩
def mw(b:qf):cU:=nO b []
theorem vo{b:qf}(h:aL b=An){j:Nat}(d:j<=b.Aa.Ab.length):(oK b j).length<=32*j:=by
 refine KT λi hi=>?_;obtain⟨_,_,a⟩:=pu (aO h) (show i<b.Aa.Ab.length by omega);have c:=GR a;have:(nV (bW b (i:Int)) (cQ b.Aa i:Int) (bW b (i:Int)).Av.length).length<=4*(bW b (i:Int)).Av.length:=KT λ_ _=>KJ;have e:(bW b (i:Int)).Av.length<=8:=c;omega
theorem VZ{b:qf}{i j:Nat}:(VY b i j).length<=2*j:=KT λ_ _=>jf _
theorem HL{b:qf}(h:aL b=An){j:Nat}:(zh b j).length<=156*j:=by
 refine KT λi _=>?_;have:=VZ (b:=b) (i:=i) (j:=(pU b i).length);have:=se h (i:=i);omega
theorem lY{b:qf}(h:aL b=An):(qd b).length<=10000:=by
 have a:=ab (aO h);have c:=a.ni;have d:=a.nn;have f:=xC h;have g:=vo h (jf _);have i:=HL h (j:=b.Ah.length);unfold qd;rw[jg];omega
theorem E1{b:qf}(h:aL b=An):Ev (λn=>wW n b) (V (mw b)):=by
 have r:=aO h;have z:=ab r;have R:=bj z;have Y:=z.ni;have a3:=z.nn;have hwl:=xC h;have e1:Ev (λn=>kK b n ([]:List qx) 0 0) (oK b b.Aa.Ab.length,(cQ b.Aa b.Aa.Ab.length:Int),(b.Aa.Ab.length:Int)):=by
  have:=fq (τ:=List qx×Int) (Lf:=λn t j=>kK b n t.1 t.2 j) (S:=λj=>(oK b j,(cQ b.Aa j:Int))) (len:=b.Aa.Ab.length) (fin:=(oK b b.Aa.Ab.length,(cQ b.Aa b.Aa.Ab.length:Int),(b.Aa.Ab.length:Int))) (λn=>by simp only[kK,qr (jf _),Cj])
   (λj a X m=>by
    have F:=vo h (show j<=b.Aa.Ab.length by omega);have M:=vo h (show j+1<=b.Aa.Ab.length by omega);have N:=xP (d:=b.Aa) (i:=j);have a4:cQ b.Aa (j+1)<=78:=by
     rw[rt] at R;have:=E2 (d:=b.Aa) (show j+1<=b.Aa.Ab.length by omega);omega
    simp only[kK,qp a,Ci,qz a,jd,dA,wS j];refine Ck (UH h a) ?_;have e:oK b j++nV (bW b (j:Int)) (cQ b.Aa j:Int) (bW b (j:Int)).Av.length=oK b (j+1):=wQ.symm;rw[eG (by rw[<-jg,e];omega),e,qX (by omega) (by omega),show(cQ b.Aa j:Int)+((gt b.Aa.Ab j).Ap.length:Int)=((cQ b.Aa (j+1):Nat):Int) by omega];exact m)
  exact this
 have I:yW (b.Ah.length:Int) (0:Int)=V (iY (λ_=>0) b.Ah.length):=TP (by omega);have J:yW (b.Ah.length:Int) ([]:List Int)=V (pre (λ_=>[]) b.Ah.length):=by
  rw[yw (by omega)]
  congr 1
  refine Jo (by simp[pre]) λi u h2=>?_;simp[pre]
 have P:Ev (λn=>gZ (places b.Aa) n (pre (λ_=>[]) b.Ah.length) (iY (λ_=>0) b.Ah.length) 0) (pre (λi=>pU b i) b.Ah.length,iY (λk=>(yl b.Aa k:Int)) b.Ah.length,((places b.Aa).length:Int)):=by
  have v:∀k,k<b.Ah.length->yl b.Aa k<(places b.Aa).length:=λk o=>(uj r (by omega)).1;have:=fq (τ:=List (List Int)×List Int) (Lf:=λn t j=>gZ (places b.Aa) n t.1 t.2 j) (S:=λj=>(pre (λi=>fC b.Aa (i:Int) j) b.Ah.length,iY (λk=>if yl b.Aa k<j then(yl b.Aa k:Int) else 0) b.Ah.length)) (len:=(places b.Aa).length)
   (fin:=(pre (λi=>pU b i) b.Ah.length,iY (λk=>(yl b.Aa k:Int)) b.Ah.length,((places b.Aa).length:Int))) (λn=>by
    simp only[gZ,qr (jf _),Cj];rw[nM (g:=λk=>(yl b.Aa k:Int)) (λk o=>if_pos (v k o))]
    rfl)
   (λj a X m=>by
    obtain⟨n0,n1⟩:=BB r a;obtain⟨l,p⟩:∃l:Nat,(gt (places b.Aa) j).net=(l:Int):=⟨_,fB n0⟩;have x:l<b.Ah.length:=by omega
    simp only[gZ,qp a,Ci,qz a,jd,p,wS j,ER x,oO (f:=λi=>fC b.Aa (i:Int) j) x];cases hdr:(gt (places b.Aa) j).drives
    .have A:pre (λi=>fC b.Aa (i:Int) (j+1)) b.Ah.length=am (pre (λi=>fC b.Aa (i:Int) j) b.Ah.length) (l:Int) (fC b.Aa (l:Int) j++[(j:Int)]):=by
      rw[IR];refine sd λk o=>?_;rw[wn];unfold uK;rw[p,hdr];by_cases c:k=l
      .subst c;rw[if_pos Z];simp
      .rw[if_neg c,show(((l:Int)==(k:Int))&&!Cd)=Cd by simp;omega];simp
     have B:iY (λk=>if yl b.Aa k<j+1 then(yl b.Aa k:Int) else 0) b.Ah.length=iY (λk=>if yl b.Aa k<j then(yl b.Aa k:Int) else 0) b.Ah.length:=by
      refine nM λk o=>?_;have K:yl b.Aa k≠j:=λe=>by
       have:=(CV.1 (uj r (k:=k) (by omega)).2).2;rw[e,hdr] at this;cases this
      by_cases u:yl b.Aa k<j
      .rw[if_pos u,if_pos (by omega)]
      .rw[if_neg u,if_neg (by omega)]
     rw[A,B] at m;simp only[Cj];have a7:(fC b.Aa (l:Int) j).length<=j:=by rw[vz];exact oE
     rw[eG (by rw[jh];omega)];exact m
    .have A:pre (λi=>fC b.Aa (i:Int) (j+1)) b.Ah.length=pre (λi=>fC b.Aa (i:Int) j) b.Ah.length:=by
      refine sd λk o=>?_;rw[wn];unfold uK;rw[hdr];simp
     have H:=qad r (show l<b.Aa.Ap.length by omega) a p hdr;have B:iY (λk=>if yl b.Aa k<j+1 then(yl b.Aa k:Int) else 0) b.Ah.length=am (iY (λk=>if yl b.Aa k<j then(yl b.Aa k:Int) else 0) b.Ah.length) (l:Int) (j:Int):=by
      rw[QR];refine nM λk o=>?_;by_cases c:k=l
      .subst c;rw[if_pos Z,H,if_pos (by omega)]
      .rw[if_neg c];have K:yl b.Aa k≠j:=λe=>by
        have:=(CV.1 (uj r (k:=k) (by omega)).2).1;rw[e,p] at this;omega
       by_cases u:yl b.Aa k<j
       .rw[if_pos u,if_pos (by omega)]
       .rw[if_neg u,if_neg (by omega)]
     rw[A,B] at m;exact m)
  simpa [fC,pre,iY] using this
 have D:∀(i k:Nat) (s:Int) (t:List qx),i<b.Ah.length->0<=s->s<=78->t.length<=1000000->Ev (λn=>kO (iY (λk=>(yl b.Aa k:Int)) b.Ah.length) (i:Int) (k:Int) s n t 0) (t++qd0 (yl b.Aa i) s k,2):=by
  intro i k s t hi a5 a6 ht;have v:=(uj r (k:=i) (by omega)).1;have L:qG (iY (λk=>(yl b.Aa k:Int)) b.Ah.length) (i:Int)=V (yl b.Aa i:Int):=ER hi;refine Cm ?_;simp only[kO,L,jd];refine Cq Z ?_;rw[wO (2*(yl b.Aa i:Int)),wO (2*s),wO (2*(yl b.Aa i:Int)+0),wO (2*s+0),eG (by rw[jh];omega)];simp only[jd];refine Cm ?_;simp only[kO,L,jd];refine Cq Z ?_;rw[show qj (0+1)=1 from rfl,wO (2*(yl b.Aa i:Int)),wO (2*s),wO (2*(yl b.Aa i:Int)+1),wO (2*s+1),eG (by rw[jg,jh,jh];omega)];simp only[jd];refine Cm ?_;simp only[kO];refine Cp Z (Cx ?_);unfold qd0;rw[jv,Jk,Jk]
  rfl
 have C:∀(i:Nat) (t:List qx),i<b.Ah.length->t.length<=900000->Ev (λn=>kN (iY (λk=>(yl b.Aa k:Int)) b.Ah.length) (i:Int) (pU b i) n t 0) (t++VY b i (pU b i).length,((pU b i).length:Int)):=by
  intro i t hi ht;have a8:=se h (i:=i);have:=fq (Lf:=kN (iY (λk=>(yl b.Aa k:Int)) b.Ah.length) (i:Int) (pU b i)) (S:=λk=>t++VY b i k) (len:=(pU b i).length) (fin:=(t++VY b i (pU b i).length,((pU b i).length:Int))) (λn=>by simp only[kN,qr (jf _),Cj])
   (λk o X m=>by
    obtain⟨y,L,ey,_⟩:=HH o;have hwn:=VZ (b:=b) (i:=i) (j:=k);simp only[kN,qp o,Ci,aM o,jd,wS k];refine Ck (D i k (bm (pU b i) k) (t++VY b i k) hi (by omega) (by omega) (by rw[jg];omega)) ?_;rw[jv,show VY b i k++qd0 (yl b.Aa i) (bm (pU b i) k) k=VY b i (k+1) from wQ.symm];exact m)
  simpa [VY,fm] using this
 have Q:Ev (λn=>kL b (pre (λi=>pU b i) b.Ah.length) (iY (λk=>(yl b.Aa k:Int)) b.Ah.length) n ([]:List (List Int)) ([]:List Int) (oK b b.Aa.Ab.length) 0) (pre (bA b) b.Ah.length,pre (sY b) b.Ah.length,qd b,(b.Ah.length:Int)):=by
  have F:=vo h (jf _);have:=fq (τ:=List (List Int)×List Int×List qx) (Lf:=λn t j=>kL b (pre (λi=>pU b i) b.Ah.length) (iY (λk=>(yl b.Aa k:Int)) b.Ah.length) n t.1 t.2.1 t.2.2 j) (S:=λj=>(pre (bA b) j,pre (sY b) j,oK b b.Aa.Ab.length++zh b j)) (len:=b.Ah.length)
   (fin:=(pre (bA b) b.Ah.length,pre (sY b) b.Ah.length,qd b,(b.Ah.length:Int))) (λn=>by simp only[kL,qr (jf _),Cj];rfl)
   (λj a X m=>by
    have hw:=cW h a;have W:=hw.lo;have T:=AW h a;have O:=HL h (j:=j);simp only[kL,qp a,Ci,wS j];refine Ck (IG h a) ?_;rw[show qG (dK b j) (0:Int)=V (sY b j) from qz (j:=0) (by omega)];simp only[jd];rw[FD (by omega)];simp only[jd];refine Ck (OU h a) ?_;rw[FD (by omega),oO (f:=λi=>pU b i) a];simp only[jd];refine Ck (C j _ a (by rw[jg];omega)) ?_;rw[jv,show zh b j++VY b j (pU b j).length=zh b (j+1) from wQ.symm];exact m)
  simpa [zh,fm,pre] using this
 unfold wW;refine Ck (FC z) (Ck e1 ?_);rw[I,J];simp only[jd];exact Ck P (Ck Q .done)
end Go.Fw


namespace Go.Fw
open Go Go.Proofs Go.Proofs.Tryz
open Go.RowKit (Below)
open Ch renaming own->oW,box->oX,grp->oG
open qm renaming v->oV
open Go.Value renaming slice->oS
set_option maxRecDepth 100000
set_option maxHeartbeats 6400000
variable{n:Nat}{w:World}{cs1 cs2 cs3 cs4 cs5 cs6 cs7 cs8 cs9:List Value}
def bV(n:Nat)(b:qf):Option Int:=(fa n (⟨b.Aa.Ab,b.Aa.Ap,b.Aa.Ai⟩:qk)).bind λr1=>V (qj (2*(r1.length:Int)))
theorem dY{b:qf}(a:Ro w b cs1){r:Int}(F:bV n b=V r):qN prog 64 [gv b cs1] w r:=by
 obtain⟨_,_,_,_,_,_,_,_,_,_,rfl,_,s2,c,d,_⟩:=qZ a;exact zV 8 func64 Z λh=>db (qK h Z Z λ_ _ h=>X1 6 0 h Z (uY h F (eH (cp _ (h.oldS s2) (h.oldS c) (h.oldS d))) Z λ_ _ _ _ _ h F=>X0 4 Z (ri h F Z)))
def tW(n:Nat)(s:qg):Option Bool:=(bk n s.Ar (-1000000000) 1000000000).bind λr1=>bif r1 then(bk n s.Bc (-1000000000) 1000000000).bind λa=>bif a then V (decide (s.Ar<=s.Bc)) else V Cd else V Cd
theorem xR{s:qg}(a:Ro w s cs1){r:Bool}(F:tW n s=V r):qN prog 219 [gv s cs1] w r:=by
 obtain rfl:=qC a;refine zV 18 func219 Z λh=>db (qK h Z Z λ_ _ h=>X1 6 0 h Z (dI h F aQ Z λ_ _ h F=>cr Z (qh (t:=6) F Z ?_ ?_)))<;>intro F
 .refine X1 5 0 h Z (dI h F aQ Z λ_ _ h F=>mr Z (qh (t:=11) F Z ?_ ?_))<;>intro F
  .exact X2 13 0 0 h Z (rb h F Z)
  exact X0 8 Z (rb h F Z)
 exact X0 13 Z (rb h F Z)
def td(_:Nat)(s:qg):Option Bool:=bif decide (s.Ar>=0) then bif decide (s.Ar<=s.Bc) then V (decide (s.Bc<=1000000)) else V Cd else V Cd
theorem zZ{s:qg}(a:Ro w s cs1){r:Bool}(F:td n s=V r):qN prog 251 [gv s cs1] w r:=by
 obtain rfl:=qC a;refine zV 18 func251 Z λh=>db (qK h Z Z λ_ _ h=>X1 8 0 h Z (qh (t:=6) F Z ?_ ?_))<;>intro F
 .refine X2 12 0 0 h Z (qh (t:=13) F Z ?_ ?_)<;>intro F
  .exact X1 9 0 h Z (rb h F Z)
  exact X0 6 Z (rb h F Z)
 exact X0 13 Z (rb h F Z)
def fb(list:List ql)(r1:Int):Nat->Int->Option (eE Bool Int)|0,_=>U|n+1,a=>bif decide (a<(list.length:Int)) then(qG list a).bind λm=>(bk n m.Bo 0 (qj (r1-1))).bind λg=>bif (!g) then V (.ret Cd) else bif decide (a > 0) then(qG list (qj (a-1))).bind λo=>(qG list a).bind λp=>bif decide (o.Bo>=p.Bo) then V (.ret Cd) else(qG list a).bind λb=>(tW n (⟨b.Af.Ar,b.Af.Bc⟩:qg)).bind λh=>bif (!h) then V (.ret Cd) else(qG list a).bind λc=>(td n (⟨c.Ba.Ar,c.Ba.Bc⟩:qg)).bind λi=>bif (!i) then V (.ret Cd) else fb list r1 n (qj (a+1)) else(qG list a).bind λd=>(tW n (⟨d.Af.Ar,d.Af.Bc⟩:qg)).bind λk=>bif (!k) then V (.ret Cd) else(qG list a).bind λf=>(td n (⟨f.Ba.Ar,f.Ba.Bc⟩:qg)).bind λl=>bif (!l) then V (.ret Cd) else fb list r1 n (qj (a+1)) else V (.nxt a)
def po(n:Nat)(b:qf)(list:List ql):Option Bool:=(bV n b).bind λr1=>(fb list r1 n 0).bind λ|.ret r=>V r|.nxt _=>V An
theorem HJ{b:qf}{list:List ql}(d:Ro w b cs1)(l:Ro w list cs2){r:Bool}(F:po n b list=V r):qN prog 215 [gv b cs1,gv list cs2] w r:=by
 obtain⟨_,_,_,_,_,_,_,_,_,_,rfl,_,_,_,_,_⟩:=qZ d;obtain⟨p6,k6,rfl,c⟩:=l;refine zV 60 func215 Z λh=>db (qK h Z Z λ_ _ h=>X1 5 0 h Z (mR h F (dY (h.old d)) Z λr1 _ h F=>X0 7 Z ?_));obtain⟨o1,F,a⟩:=qc F;refine qq ?_;have h:=h.p [] Z;refine rL (λm e w'=>∃i1,fb list r1 m i1=V o1/\e=[(1,oL p6 list k6),(5,vi r1),(6,vi i1)]/\SH w w' []) n ⟨_,F,Z,h⟩ Z ?_;rintro m1 _ _ ⟨i1,F,rfl,h⟩;rcases m1 with _|m1
 .cases F
 refine X0 8 Z (qn Z F ?_ ?_)<;>intro F
 .refine X0 4 Z (rD (xz Z ?_));obtain⟨_,_,F,z,_,_,_,_,J,Q,a3,o⟩:=c.ix F;obtain rfl:=au a3;refine fU J Q z Z (xm Z (dZ 0 o h Z (xz Z ?_)));obtain⟨r2,a4,F⟩:=qc F;refine dB r2 (MT _) (cB 32 Z) (λ_ hb=>aQ  a4) Z Z Z Z (xz Z (bu (t:=24) F Z ?_ ?_))<;>intro F
  .refine Y0 35 Z (dN h λ_ h=>dO Z Z (X0 4 Z ?_));cases qe F;exact rb h a Z
  refine Y0 6 Z (bu (t:=27) F Z ?_ ?_)<;>intro F
  .refine Y0 7 Z ?_;obtain⟨_,_,F,A,_,_,_,_,K,R,a5,p⟩:=c.ix F;obtain rfl:=au a5;refine fU K R A Z (Y0 3 Z (dZ 0 p h Z (Y0 5 Z ?_)));obtain⟨_,_,F,B,_,_,_,_,L,S,a6,s⟩:=c.ix F;obtain rfl:=au a6;refine fU L S B Z (Y0 3 Z (dZ 0 s h Z (Y0 6 Z (bu (t:=42) F Z ?_ ?_))))<;>intro F
   .refine Y0 17 Z (dN h λ_ h=>dO Z Z (X0 4 Z ?_));cases qe F;exact rb h a Z
   refine Y0 5 Z ?_;obtain⟨_,_,F,C,_,_,_,_,M,T,a7,u⟩:=c.ix F;obtain rfl:=au a7;refine fU M T C Z (Y0 3 Z (dZ 1 u h Z (Y0 1 Z ?_)));obtain⟨r3,a8,F⟩:=qc F;refine dB r3 (MT _) (cB 219 Z) (λ_ hb=>xR (qI _) a8) Z Z Z Z (Y0 4 Z (bu (t:=51) F Z ?_ ?_))<;>intro F
   .refine Y0 8 Z (dN h λ_ h=>dO Z Z (X0 4 Z ?_));cases qe F;exact rb h a Z
   refine Y0 5 Z ?_;obtain⟨_,_,F,D,_,_,_,_,N,W,a9,v⟩:=c.ix F;obtain rfl:=au a9;refine fU N W D Z (Y0 3 Z (dZ 3 v h Z (Y0 1 Z ?_)));obtain⟨r4,b4,F⟩:=qc F;refine dB r4 (MT _) (cB 251 Z) (λ_ hb=>zZ (qI _) b4) Z Z Z Z (Y0 3 Z (dN h λ_ h=>qn Z F ?_ ?_))<;>intro F
   .refine X0 4 Z ?_;cases qe F;exact rb h a Z
   exact X0 7 Z (rK ⟨_,F,Z,h⟩ Z)
  refine Y0 21 Z ?_;obtain⟨_,_,F,H,_,_,_,_,O,X,f,x⟩:=c.ix F;obtain rfl:=au f;refine fU O X H Z (Y0 3 Z (dZ 1 x h Z (Y0 1 Z ?_)));obtain⟨r5,g,F⟩:=qc F;refine dB r5 (MT _) (cB 219 Z) (λ_ hb=>xR (qI _) g) Z Z Z Z (Y0 4 Z (bu (t:=51) F Z ?_ ?_))<;>intro F
  .refine Y0 8 Z (dN h λ_ h=>dO Z Z (X0 4 Z ?_));cases qe F;exact rb h a Z
  refine Y0 5 Z ?_;obtain⟨_,_,F,I,_,_,_,_,P,Y,i,y⟩:=c.ix F;obtain rfl:=au i;refine fU P Y I Z (Y0 3 Z (dZ 3 y h Z (Y0 1 Z ?_)));obtain⟨r6,k,F⟩:=qc F;refine dB r6 (MT _) (cB 251 Z) (λ_ hb=>zZ (qI _) k) Z Z Z Z (Y0 3 Z (dN h λ_ h=>qn Z F ?_ ?_))<;>intro F
  .refine X0 4 Z ?_;cases qe F;exact rb h a Z
  exact X0 7 Z (rK ⟨_,F,Z,h⟩ Z)
 refine qy Z ?_;cases qe F;exact X0 4 Z (rb h a Z)
def yt(n:Nat)(t:Int):Option Bool:=(bX n t (-1000000000) 1000000000).bind λr1=>V r1
theorem DH{t}  {r:Bool}(F:yt n t=V r):qN prog 131 [vi t] w r:=by
 exact zV 5 func131 Z λh=>X0 7 Z (dI h F bv Z λ_ _ h F=>X0 2 Z (rb h F Z))
def re(n:Nat)(s:qg):Option Bool:=(yt n s.Ar).bind λr1=>bif r1 then(yt n s.Bc).bind λa=>bif a then V (decide (s.Ar<=s.Bc)) else V Cd else V Cd
theorem uq{s:qg}(a:Ro w s cs1){r:Bool}(F:re n s=V r):qN prog 80 [gv s cs1] w r:=by
 obtain rfl:=qC a;refine zV 18 func80 Z λh=>db (qK h Z Z λ_ _ h=>X1 6 0 h Z (dI h F DH Z λ_ _ h F=>cr Z (qh (t:=6) F Z ?_ ?_)))<;>intro F
 .refine X1 5 0 h Z (dI h F DH Z λ_ _ h F=>mr Z (qh (t:=11) F Z ?_ ?_))<;>intro F
  .exact X2 13 0 0 h Z (rb h F Z)
  exact X0 8 Z (rb h F Z)
 exact X0 13 Z (rb h F Z)
def yr(n:Nat)(a:Int):Option Bool:=(bX n a 0 1000000).bind λr1=>V r1
theorem DG{a_n}  {r:Bool}(F:yr n a_n=V r):qN prog 187 [vi a_n] w r:=by
 exact zV 5 func187 Z λh=>X0 7 Z (dI h F bv Z λ_ _ h F=>X0 2 Z (rb h F Z))
def sU(n:Nat)(s:qg):Option Bool:=(re n s).bind λr1=>bif r1 then(yr n s.Ar).bind λa=>bif a then(yr n s.Bc).bind λb=>V b else V Cd else V Cd
theorem zu{s:qg}(a:Ro w s cs1){r:Bool}(F:sU n s=V r):qN prog 123 [gv s cs1] w r:=by
 obtain rfl:=qC a;refine zV 15 func123 Z λh=>db (qK h Z Z λ_ _ h=>X1 5 0 h Z (dI h F (uq (h.old a)) Z λ_ _ h F=>cr Z (qh (t:=5) F Z ?_ ?_)))<;>intro F
 .refine X1 5 0 h Z (dI h F DG Z λ_ _ h F=>mr Z (qh (t:=10) F Z ?_ ?_))<;>intro F
  .exact X1 5 0 h Z (dI h F DG Z λ_ _ h F=>X0 3 Z (rb h F Z))
  exact X0 6 Z (rb h F Z)
 exact X0 11 Z (rb h F Z)
def lq(_:Nat)(list:List aY):Option Int:=V (list.length:Int)
theorem ye{list:List aY}(a:Ro w list cs1){r:Int}(F:lq n list=V r):qN prog 94 [gv list cs1] w r:=by
 obtain⟨_,_,rfl,_⟩:=a;exact zV 5 func94 Z λh=>X0 10 Z (ri h F Z)
def fc(n:Nat)(v:Option cU):Option Int:=(v).bind λa=>(lq n a.places).bind λr1=>V (qj (2*r1))
theorem iE{v:Option cU}(a:Ro w v cs1){r:Int}(F:fc n v=V r):qN prog 50 [gv v cs1] w r:=by
 obtain⟨_,rfl,s1⟩:=aJ a;refine zV 9 func50 Z λh=>X0 7 Z ?_;obtain⟨_,d,F⟩:=qc F;obtain⟨_,f,_,rfl,-,c,b⟩:=Cs s1 d;obtain⟨_,_,_,_,_,_,_,_,_,_,_,_,_,_,_,_,_,_,_,_,rfl,_,_,_,_,_,g,_,_,_,_⟩:=cS c;exact mr Z (bL 5 b h Z (mR h F (ye ⟨_,_,Z,(h.oldS g)⟩) Z λ_ _ h F=>X0 3 Z (ri h F Z)))
def vn(n:Nat)(v:Option cU)(node:Int):Option Bool:=(fc n v).bind λr1=>(bX n node 0 (qj (r1-1))).bind λa=>V a
theorem FV{v:Option cU}{node}(a:Ro w v cs1){r:Bool}(F:vn n v node=V r):qN prog 126 [gv v cs1,vi node] w r:=by
 obtain⟨_,rfl,s1⟩:=aJ a;exact zV 10 func126 Z λh=>X0 8 Z (mR h F (iE (h.old s1)) Z λ_ _ h F=>cr Z (dI h F bv Z λ_ _ h F=>X0 2 Z (rb h F Z)))
def cy(v:Option cU)(list:List ql):Nat->Int->Option (eE Bool Int)|0,_=>U|n+1,a=>bif decide (a<(list.length:Int)) then(qG list a).bind λb=>(vn n v b.Bo).bind λr1=>bif (!r1) then V (.ret Cd) else(re n (⟨b.Af.Ar,b.Af.Bc⟩:qg)).bind λc=>bif (!c) then V (.ret Cd) else(sU n (⟨b.Ba.Ar,b.Ba.Bc⟩:qg)).bind λd=>bif (!d) then V (.ret Cd) else bif decide (a > 0) then(qG list (qj (a-1))).bind λf=>bif decide (f.Bo>=b.Bo) then V (.ret Cd) else cy v list n (qj (a+1)) else cy v list n (qj (a+1)) else V (.nxt a)
def kr(n:Nat)(v:Option cU)(list:List ql):Option Bool:=(cy v list n 0).bind λ|.ret r=>V r|.nxt _=>V An
theorem zB{v:Option cU}{list:List ql}(b:Ro w v cs1)(c:Ro w list cs2){r:Bool}(F:kr n v list=V r):qN prog 75 [gv v cs1,gv list cs2] w r:=by
 obtain⟨p1,rfl,s1⟩:=aJ b;obtain⟨D,B,rfl,s2⟩:=c;refine zV 47 func75 Z λh=>X0 11 Z ?_;obtain⟨o1,F,a⟩:=qc F;refine qq (rL (λm e w'=>∃A,cy v list m A=V o1/\e=[(0,.pointer p1),(1,oL D list B),(7,oL D list B),(8,vi (list.length:Int)),(9,vi A)]/\SH w w' []) n ⟨_,F,Z,h⟩ Z ?_);rintro C _ _ ⟨A,F,rfl,h⟩;rcases C with _|C
 .cases F
 refine X0 5 Z (qn Z F ?_ ?_)<;>intro F
 .refine X0 6 Z ?_;obtain⟨_,_,F,g,_,_,_,_,k,o,s,d⟩:=s2.ix F;obtain rfl:=au s;refine ft k o g Z (bL 0 d h Z (qi qa h Z Z Z λ_ _ h=>cr Z (zs 0 h Z λ_ h=>V7 (rD (Y1 3 0 h Z ?_)))));obtain⟨r1,u,F⟩:=qc F;refine dB r1 (MT _) (cB 126 Z) (λ_ J=>FV ((h.ext J).old s1) u) Z Z Z Z (xz Z (bu (t:=19) F Z ?_ ?_))<;>intro F
  .refine Y0 26 Z (dN h λ_ h=>dO Z Z (X0 4 Z ?_));cases qe F;exact rb h a Z
  refine Y1 4 0 h Z ?_;refine Y0 1 Z ?_;obtain⟨H,x,F⟩:=qc F;refine dB H (MT _) (cB 80 Z) (λ_ J=>uq (qI _) x) Z Z Z Z (Y0 4 Z (bu (t:=25) F Z ?_ ?_))<;>intro F
  .refine Y0 20 Z (dN h λ_ h=>dO Z Z (X0 4 Z ?_));cases qe F;exact rb h a Z
  refine Y1 4 0 h Z ?_;refine Y0 1 Z ?_;obtain⟨I,y,F⟩:=qc F;refine dB I (MT _) (cB 123 Z) (λ_ J=>zu (qI _) y) Z Z Z Z (Y0 4 Z (bu (t:=31) F Z ?_ ?_))<;>intro F
  .refine Y0 14 Z (dN h λ_ h=>dO Z Z (X0 4 Z ?_));cases qe F;exact rb h a Z
  refine Y0 6 Z (bu (t:=34) F Z ?_ ?_)<;>intro F
  .refine Y0 7 Z ?_;obtain⟨_,_,F,i,_,_,_,_,l,p,z,f⟩:=s2.ix F;obtain rfl:=au z;refine fU l p i Z (Y0 3 Z (dZ 0 f h Z (Y1 4 0 h Z ?_)));refine Y0 5 Z (dN h λ_ h=>qn Z F ?_ ?_)<;>intro F
   .refine X0 4 Z ?_;cases qe F;exact rb h a Z
   refine X0 6 Z ?_;exact rK ⟨_,F,Z,h.p [] Z⟩ Z
  refine Y0 12 Z (dN h λ_ h=>bQ Z Z (X0 6 Z ?_));exact rK ⟨_,F,Z,h.p [] Z⟩ Z
 refine qy Z ?_;cases qe F;exact X0 4 Z (rb h a Z)
def zz(_:Nat)(list:List Bool):Option Int:=V (list.length:Int)
theorem FR{list:List Bool}(a:Ro w list cs1){r:Int}(F:zz n list=V r):qN prog 121 [gv list cs1] w r:=by
 obtain⟨_,_,rfl,_⟩:=a;exact zV 5 func121 Z λh=>X0 10 Z (ri h F Z)
def pC(_:Nat)(list:List qg):Option Int:=V (list.length:Int)
theorem sW{list:List qg}(a:Ro w list cs1){r:Int}(F:pC n list=V r):qN prog 122 [gv list cs1] w r:=by
 obtain⟨_,_,rfl,_⟩:=a;exact zV 5 func122 Z λh=>X0 10 Z (ri h F Z)
def mn(Cf:qu):Nat->Int->Option (eE Bool Int)|0,_=>U|n+1,a=>bif decide (a<(Cf.Au.length:Int)) then(qG Cf.Au a).bind λg=>(qG Cf.Af a).bind λh=>(re n h).bind λd=>bif (!d) then V (.ret Cd) else(qG Cf.Ba a).bind λi=>(sU n i).bind λf=>bif (!f) then V (.ret Cd) else bif (!g) then(qG Cf.Af a).bind λb=>bif (!((b.Ar==0)&&(b.Bc==0))) then V (.ret Cd) else(qG Cf.Ba a).bind λc=>bif (!((c.Ar==0)&&(c.Bc==0))) then V (.ret Cd) else mn Cf n (qj (a+1)) else mn Cf n (qj (a+1)) else V (.nxt a)
def xN(n:Nat)(Ce:Option cU)(Cf:qu):Option Bool:=(fc n Ce).bind λr1=>((zz n Cf.Au).bind λa=>bif (a != r1) then V An else(pC n Cf.Af).bind λb=>bif (b != r1) then V An else(pC n Cf.Ba).bind λc=>V (c != r1)).bind λb1=>bif b1 then V Cd else(mn Cf n 0).bind λ|.ret r=>V r|.nxt _=>V An
theorem CF{Ce:Option cU}{Cf:qu}(g:Ro w Ce cs1)(i:Ro w Cf cs2){r:Bool}(F:xN n Ce Cf=V r):qN prog 73 [gv Ce cs1,gv Cf cs2] w r:=by
 obtain⟨_,rfl,s1⟩:=aJ g;obtain⟨T,S,p3,Y,p4,k3,rfl,s2,W,X⟩:=gD i;refine zV 76 func73 Z λh=>db (qK h Z Z λ_ b h=>X0 5 Z (mR h F (iE (h.old s1)) Z λ_ _ h F=>X0 4 Z ?_));obtain⟨f,d,_,F,c⟩:=bindE F;refine bw (λe w'=>∃b1,f b1=V r/\e=[(3,vp b),(28,.bool b1)]/\SH w w' [oX b (eJ Cf T p3 p4 S Y k3) 51]) ?_ ?_
 .refine X1 3 0 h Z (mR h F (FR ⟨_,_,Z,(h.oldS s2)⟩) Z λ_ _ h F=>CK Z (qh (t:=15) F Z ?_ ?_))<;>intro F
  .refine X0 14 Z ?_;exact rH F c h Z
  refine X1 5 0 h Z (mR h F (sW ⟨_,_,Z,(h.oldS W)⟩) Z λ_ _ h F=>X0 6 Z (qh (t:=22) F Z ?_ ?_))<;>intro F
  .refine X0 7 Z ?_;exact rH F c h Z
  refine X1 5 0 h Z (mR h F (sW ⟨_,_,Z,(h.oldS X)⟩) Z λ_ _ h F=>X0 6 Z ?_);exact rH F c h Z
 rintro _ _ ⟨b1,F,rfl,h⟩;subst d;refine qn Z F ?_ ?_<;>intro F
 .exact X0 4 Z (rb h F Z)
 refine X1 9 0 h Z ?_;obtain⟨o1,F,a⟩:=qc F;refine qq (rL (λm e w'=>∃R,mn Cf m R=V o1/\e=[(3,vp b),(30,oL T Cf.Au S),(31,vi (Cf.Au.length:Int)),(32,vi R)]/\SH w w' [oX b (eJ Cf T p3 p4 S Y k3) 51]) n ⟨_,F,Z,h⟩ Z ?_);rintro m1 _ _ ⟨R,F,rfl,h⟩;rcases m1 with _|m1
 .cases F
 refine X0 5 Z (qn Z F ?_ ?_)<;>intro F
 .refine X0 6 Z ?_;obtain⟨_,_,F,u,_,_,_,_,A,I,rfl,k⟩:=s2.ix F;refine ft A I u Z (bL 0 k h Z (X1 8 0 h Z ?_));obtain⟨y2,_,F,v,_,_,_,_,B,J,N,l⟩:=W.ix F;obtain rfl:=qC N;refine ft B J v Z (bL 0 l h Z (dI h F (uq (qI y2)) Z λ_ _ h F=>mr Z (qh (t:=44) F Z ?_ ?_)))<;>intro F
  .refine X0 31 Z (dO Z Z (X0 4 Z ?_));cases qe F;exact rb h a Z
  refine X1 7 0 h Z ?_;obtain⟨y3,_,F,x,_,_,_,_,C,K,O,o⟩:=X.ix F;obtain rfl:=qC O;refine ft C K x Z (X0 1 Z (bL 0 o h Z (X0 1 Z (dI h F (zu (qI y3)) Z λ_ _ h F=>X0 4 Z (qh (t:=53) F Z ?_ ?_)))))<;>intro F
  .refine X0 22 Z (dO Z Z (X0 4 Z ?_));cases qe F;exact rb h a Z
  refine X0 6 Z (qh (t:=56) F Z ?_ ?_)<;>intro F
  .refine X1 7 0 h Z ?_;obtain⟨_,_,F,y,_,_,_,_,D,L,P,p⟩:=W.ix F;obtain rfl:=qC P;refine ft D L y Z (X0 1 Z (bL 0 p h Z (X0 1 Z (dF (qB qa [] [] z8) Z (X0 1 Z (dF (qbh (by kernel_rfl) Z Z) Z (X0 2 Z (qh (t:=64) F Z ?_ ?_))))))))<;>intro F
   .refine X0 13 Z (dO Z Z (X0 4 Z ?_));cases qe F;exact rb h a Z
   refine X1 7 0 h Z ?_;obtain⟨_,_,F,z,_,_,_,_,H,M,Q,s⟩:=X.ix F;obtain rfl:=qC Q;refine ft H M z Z (X0 1 Z (bL 0 s h Z (X0 1 Z (dF (qB qa [] [] z8) Z (X0 1 Z (dF (qbh (by kernel_rfl) Z Z) Z (X0 6 Z (qn Z F ?_ ?_))))))))<;>intro F
   .refine X0 4 Z ?_;cases qe F;exact rb h a Z
   exact X0 6 Z (rK ⟨_,F,Z,h⟩ Z)
  exact X0 20 Z (bQ Z Z (X0 6 Z (rK ⟨_,F,Z,h⟩ Z)))
 refine qy Z ?_;cases qe F;exact X0 4 Z (rb h a Z)
def iw(_:Nat)(list:List qx):Option Int:=V (list.length:Int)
theorem sV{list:List qx}(a:Ro w list cs1){r:Int}(F:iw n list=V r):qN prog 124 [gv list cs1] w r:=by
 obtain⟨_,_,rfl,_⟩:=a;exact zV 5 func124 Z λh=>X0 10 Z (ri h F Z)
def lX(n:Nat)(v:Option cU)(list:List Int):Option Bool:=(v).bind λc=>(iw n c.links).bind λr1=>(eS n list 0 (qj (r1-1))).bind λa=>bif a then(na n list).bind λb=>V b else V Cd
theorem CE{v:Option cU}{list:List Int}(a:Ro w v cs1)(b:Ro w list cs2){r:Bool}(F:lX n v list=V r):qN prog 74 [gv v cs1,gv list cs2] w r:=by
 obtain⟨_,rfl,s1⟩:=aJ a;obtain⟨_,_,rfl,s2⟩:=b;refine zV 17 func74 Z λh=>X0 8 Z ?_;obtain⟨_,f,F⟩:=qc F;obtain⟨_,g,_,rfl,-,d,c⟩:=Cs s1 f;obtain⟨_,_,_,_,_,_,_,_,_,_,_,_,_,_,_,_,_,_,_,_,rfl,_,_,_,_,_,_,i,_,_,_⟩:=cS d;refine mr Z (bL 6 c h Z (mR h F (sV ⟨_,_,Z,(h.oldS i)⟩) Z λ_ _ h F=>cr Z (dI h F (fG ⟨_,_,Z,(h.oldS s2)⟩) Z λ_ _ h F=>cr Z (qh (t:=13) F Z ?_ ?_))))<;>intro F
 .exact X0 3 Z (dI h F (vZ ⟨_,_,Z,(h.oldS s2)⟩) Z λ_ _ h F=>X0 3 Z (rb h F Z))
 exact X0 5 Z (rb h F Z)
def eV(d:List Int):Nat->(List Bool)->Int->Option ((List Bool)×Int)|0,_,_=>U|n+1,b,a=>bif decide (a<(d.length:Int)) then(qG d a).bind λc=>(qG b c).bind λ_=>eV d n (am b c Cd) (qj (a+1)) else V (b,a)
def eU(x1:List Bool):Nat->(List Bool)->Int->Option ((List Bool)×Int)|0,_,_=>U|n+1,b,a=>bif decide (a<(x1.length:Int)) then(qG b a).bind λ_=>eU x1 n (am b a An) (qj (a+1)) else V (b,a)
def pK(n:Nat)(v:Option cU)(d:List Int):Option (Option aX):=(v).bind λc=>(yW (c.links.length:Int) (Cd:Bool)).bind λx1=>(eU x1 n x1 0).bind λ(a,_)=>(eV d n a 0).bind λ(b,_)=>V (V (⟨v,b⟩:aX))
theorem DJ{A}(hA:∀b,A b->old w b){v:Option cU}{a3:List Int}(y:qm.R w A v cs1)(z:qm.R w A a3 cs2){r:Option aX}(F:pK n v a3=V r):yP prog 76 [gv v cs1,gv a3 cs2] w A r:=by
 obtain⟨_,rfl,s1⟩:=aJ y;obtain⟨Y,T,rfl,s2⟩:=z;have hg:=Rg.start hA;refine gc func76 Z (m:=47) Z Z (λh=>?_);refine X0 8 Z ?_;obtain⟨_,N,F⟩:=qc F;obtain⟨b1,f,_,rfl,-,L,B⟩:=Cs s1 N;obtain⟨_,_,_,_,_,_,_,_,_,_,_,_,_,_,_,_,_,_,_,_,rfl,_,_,_,_,_,_,_,_,_,_⟩:=cS L;refine mr Z (bL 6 B h Z (cr Z ?_));obtain⟨x1,d,F⟩:=qc F;obtain⟨g1,g2,d⟩:=aT d;refine bC qa Bool h z9 g1 g2 d Z λ_ S1 c h=>dF (qB qa [0,1] [.tmp 9,.tmp 15] z8) Z (qK h Z Z λ_ a h=>X1 12 0 h Z ?_);obtain⟨o1,F,t⟩:=qc F;refine qq (rL (λm e w'=>∃S Q,eU x1 m S Q=V o1/\e=[(1,oL Y a3 T),(5,vp a),(22,vi (x1.length:Int)),(23,vi Q)]/\SH w w' [oX a [.pointer (V ⟨b1,f,U⟩),oS c x1.length x1.length] 120,oW S1 (S:List Bool) [oS c x1.length x1.length]]) n ⟨_,_,F,Z,h⟩ Z ?_);rintro W _ _ ⟨S,Q,F,rfl,h⟩;rcases W with _|W
 .cases F
 refine X0 5 Z (qn Z F ?_ ?_)<;>intro F
 .refine X1 14 0 h Z ?_;obtain⟨_,O,F,i,_,_,_,_,l,p,rfl,C⟩:=(h.sl 1 Z).1.ix F;exact zx l p ⟨i.1,qE i.2.1 (h.sl 1 Z).2⟩ Z (bM qa 1 0 An h Z O l p Z C Z Z Z Z Z Z Z λ_ h=>X0 6 Z (rK ⟨_,_,F,Z,h⟩ Z))
 refine qy Z ?_;cases qe F;have F:=t;refine X0 7 Z ?_;obtain⟨o2,F,u⟩:=qc F;refine qq (rL (λm e w'=>∃g R,eV a3 m g R=V o2/\e=[(5,vp a),(33,oL Y a3 T),(34,vi (a3.length:Int)),(35,vi R)]/\SH w w' [oX a [.pointer (V ⟨b1,f,U⟩),oS c x1.length x1.length] 120,oW S1 (g:List Bool) [oS c x1.length x1.length]]) n ⟨_,_,F,Z,h⟩ Z ?_);rintro X _ _ ⟨g,R,F,rfl,h⟩;rcases X with _|X
 .cases F
 refine X0 5 Z (qn Z F ?_ ?_)<;>intro F
 .refine ly ?_;obtain⟨_,_,F,I,_,_,_,_,J,K,rfl,D⟩:=s2.ix F;refine ft J K I Z (bL 0 D h Z (X1 8 0 h Z ?_));obtain⟨_,P,F,k,_,_,_,_,o,s,rfl,H⟩:=(h.sl 1 Z).1.ix F;exact zx o s ⟨k.1,qE k.2.1 (h.sl 1 Z).2⟩ Z (bM qa 1 0 Cd h Z P o s Z H Z Z Z Z Z Z Z λ_ h=>X0 6 Z (rK ⟨_,_,F,Z,h⟩ Z))
 refine qy Z ?_;cases qe F;have F:=u;refine X0 5 Z ?_;obtain rfl:=qe F;have M:gk.Rs (ρ:=(Option aX)) h.wc (vJ A w h.wc) (V (⟨v,g⟩:aX)) [oV (Option aX) [vp a]]:=⟨_,Z,(hg.outR h (Rg.boxR (x:=(⟨v,g⟩:aX)) 0 h Z (show qm.R _ _ ((⟨v,g⟩:aX):aX) _ from⟨[.pointer (V ⟨b1,f,U⟩)],[oS c x1.length x1.length],Z,(hg.inR h s1),(Rg.ownR 1 h Z)⟩)))⟩;exact gn qa (ρ:=(Option aX)) (r:=(V (⟨v,g⟩:aX))) [oV (Option aX) [vp a]] h ⟨Z,G⟩ M
def gO(s:List Int)(v:Int):Nat->Int->Option (eE Int Int)|0,_=>U|n+1,a=>bif decide (a<(s.length:Int)) then(qG s a).bind λb=>bif (v==b) then V (.ret a) else gO s v n (qj (a+1)) else V (.nxt a)
def sf(n:Nat)(s:List Int)(v:Int):Option Int:=(gO s v n 0).bind λ|.ret r=>V r|.nxt _=>V (-1)
theorem FY{s:List Int}{v}(b:Ro w s cs1){r:Int}(F:sf n s v=V r):qN prog 128 [gv s cs1,vi v] w r:=by
 obtain⟨p1,l,rfl,s1⟩:=b;refine zV 19 func128 Z λh=>X0 11 Z ?_;obtain⟨o1,F,a⟩:=qc F;refine qq (rL (λm e w'=>∃i,gO s v m i=V o1/\e=[(0,oL p1 s l),(1,vi v),(7,vi (s.length:Int)),(8,vi i)]/\SH w w' []) n ⟨_,F,Z,h⟩ Z ?_);rintro k _ _ ⟨i,F,rfl,h⟩;rcases k with _|k
 .cases F
 refine X0 5 Z (qn Z F ?_ ?_)<;>intro F
 .refine X0 13 Z ?_;obtain⟨_,_,F,d,_,_,_,_,f,g,rfl,c⟩:=s1.ix F;refine ft f g d Z (bL 0 c h Z (X0 2 Z (qn Z F ?_ ?_)))<;>intro F
  .refine X0 5 Z ?_;cases qe F;exact ri h a Z
  exact X0 6 Z (rK ⟨_,F,Z,h⟩ Z)
 refine qy Z ?_;cases qe F;exact X0 4 Z (ri h a Z)
def uw(_:Nat)(l:qx)(a:Int):Option Bool:=V (l.Bm==a)
theorem DE{l:qx}{f}(a:Ro w l cs1){p1}(b:Ro w (V f) [.pointer p1]){r:Bool}(F:uw n l f=V r):qN prog 188 [gv l cs1,.pointer p1] w r:=by
 obtain rfl:=aB a;obtain⟨_,g,_,rfl,-,d,c⟩:=Cs b Z;obtain rfl:=d;exact zV 8 func188 Z λh=>db (qK h Z Z λ_ _ h=>X1 6 0 h Z (bL 0 c h Z (X0 3 Z (rb h F Z))))
def aa(h:Int)(c:aX)(b:cU):Nat->(List Int)->Int->Option ((List Int)×Int)|0,_,_=>U|n+1,x1,a=>bif decide (a<(b.links.length:Int)) then(qG b.links a).bind λf=>(qG c.live a).bind λg=>bif g then(uw n f h).bind λr1=>bif r1 then(df x1 ([a]:List Int)).bind λd=>aa h c b n d (qj (a+1)) else aa h c b n x1 (qj (a+1)) else aa h c b n x1 (qj (a+1)) else V (x1,a)
def fN(n:Nat)(g:Option aX)(c:Int):Option (List Int):=(g).bind λa=>(a.view).bind λb=>(aa c a b n ([]:List Int) 0).bind λ(x1,_)=>V x1
theorem rg{g:Option aX}{is_0}(o:Ro w g cs1){R}(f:Ro w (V is_0) [.pointer R]){r:List Int}(F:fN n g is_0=V r):qN prog 97 [gv g cs1,.func (.func 188) #[] #[.pointer R]] w r:=by
 obtain⟨_,rfl,s1⟩:=aJ o;obtain⟨b1,L,_,rfl,-,C,_⟩:=Cs f Z;obtain rfl:=C;refine zV 39 func97 Z λh=>X0 12 Z ?_;obtain⟨Y,J,F⟩:=qc F;obtain⟨b2,M,_,rfl,-,D,i⟩:=Cs s1 J;obtain⟨_,_,_,rfl,s2,X⟩:=eY D;refine mr Z (bL 0 i h Z ?_);obtain⟨P,K,F⟩:=qc F;obtain⟨_,W,_,rfl,-,H,p⟩:=Cs s2 K;obtain⟨_,_,_,_,_,_,_,_,_,_,_,_,N,T,_,_,_,_,_,_,rfl,_,_,_,_,_,_,O,_,_,_⟩:=cS H;refine mr Z (bL 6 p h Z (X0 3 Z ?_));have h:=h.nil (α:=Int);obtain⟨o1,F,l⟩:=qc F;refine qq (rL (λm e w'=>∃S1 d c b x1 k,aa is_0 Y P m x1 k=V o1/\e=[(0,.pointer (V ⟨b2,M,U⟩)),(1,.func (.func 188) #[] #[.pointer (V ⟨b1,L,U⟩)]),(5,oS d c b),(14,oL N P.links T),(15,vi (P.links.length:Int)),(16,vi k)]/\SH w w' [oW S1 (x1:List Int) [oS d c b]]) n ⟨_,_,_,_,_,_,F,Z,h⟩ Z ?_);rintro Q _ _ ⟨S1,d,c,b,x1,k,F,rfl,h⟩;obtain rfl:=(h.sl 0 Z).2;rcases Q with _|Q
 .cases F
 refine X0 5 Z (qn Z F ?_ ?_)<;>intro F
 .refine X0 6 Z ?_;obtain⟨y3,_,F,v,_,_,_,_,y,A,I,s⟩:=O.ix F;obtain rfl:=aB I;refine ft y A v Z (bL 0 s h Z (qi qa h Z Z Z λ_ _ h=>cr Z (zs 0 h Z λ_ h=>X0 6 Z (bL 1 i h Z (cr Z ?_)))));obtain⟨_,_,F,x,_,_,_,_,z,B,rfl,u⟩:=X.ix F;refine ft z B x Z (bL 0 u h Z (cr Z (qh (t:=28) F Z ?_ ?_)))<;>intro F
  .refine X1 5 0 h Z (dI h F (DE (ga y3) (h.old f)) Z λ_ _ h F=>X0 2 Z (qn Z F ?_ ?_))<;>intro F
   .refine X0 3 Z (qt qa [.tmp 34] _ ([k]:List Int) h z9 ⟨Z,G⟩ Z λ_ _ _ h=>?_);obtain⟨_,a,F⟩:=qc F;obtain⟨S,a⟩:=qJ a;refine bn qa 2 h Z (h.sl 0 Z).1 (h.sl 0 Z).2 z9 S a Z λ_ _ _ _ h=>X0 7 Z ?_;exact rK ⟨_,_,_,_,_,_,F,Z,h.p [2] Z⟩ Z
   refine X0 6 Z ?_;exact rK ⟨_,_,_,_,_,_,F,Z,h.p [1] Z⟩ Z
  refine X0 5 Z (bQ Z Z (X0 6 Z ?_));exact rK ⟨_,_,_,_,_,_,F,Z,h.p [1] Z⟩ Z
 refine qy Z ?_;cases qe F;have F:=l;refine X0 5 Z ?_;cases qe F;exact rO 0 h Z ⟨Z,G⟩
def tu(n:Nat)(g:Option aX)(node:Int):Option (List Int):=(fN n g node).bind λr1=>V r1
theorem GY{g:Option aX}{node}(a:Ro w g cs1){r:List Int}(F:tu n g node=V r):qN prog 129 [gv g cs1,vi node] w r:=by
 obtain⟨_,rfl,s1⟩:=aJ a;refine zV 8 func129 Z λh=>db (qK h Z Z λ_ _ h=>X0 6 Z (uY h F (rg (h.old s1) (pm (x:=node) 0 h Z Z)) Z λ_ _ _ _ _ h F=>X0 2 Z ?_));cases qe F;exact rO 0 h Z ⟨Z,G⟩
def tH(_:Nat)(_:qx):Option Bool:=V An
theorem CC{Ce:qx}(a:Ro w Ce cs1){r:Bool}(F:tH n Ce=V r):qN prog 127 [gv Ce cs1] w r:=by
 obtain rfl:=aB a;exact zV 3 func127 Z λh=>db (qK h Z Z λ_ _ h=>X0 6 Z (rb h F Z))
def qY(c:aX)(b:cU):Nat->(List Int)->Int->Option ((List Int)×Int)|0,_,_=>U|n+1,x1,a=>bif decide (a<(b.links.length:Int)) then(qG b.links a).bind λf=>(qG c.live a).bind λg=>bif g then(tH n f).bind λr1=>bif r1 then(df x1 ([a]:List Int)).bind λd=>qY c b n d (qj (a+1)) else qY c b n x1 (qj (a+1)) else qY c b n x1 (qj (a+1)) else V (x1,a)
def cZ(n:Nat)(g:Option aX):Option (List Int):=(g).bind λa=>(a.view).bind λb=>(qY a b n ([]:List Int) 0).bind λ(x1,_)=>V x1
theorem pT{g:Option aX}(l:Ro w g cs1){r:List Int}(F:cZ n g=V r):qN prog 97 [gv g cs1,.func (.func 127) #[] #[]] w r:=by
 obtain⟨_,rfl,s1⟩:=aJ l;refine zV 39 func97 Z λh=>X0 12 Z ?_;obtain⟨S,H,F⟩:=qc F;obtain⟨b1,J,_,rfl,-,B,f⟩:=Cs s1 H;obtain⟨_,_,_,rfl,s2,R⟩:=eY B;refine mr Z (bL 0 f h Z ?_);obtain⟨M,I,F⟩:=qc F;obtain⟨_,Q,_,rfl,-,C,o⟩:=Cs s2 I;obtain⟨_,_,_,_,_,_,_,_,_,_,_,_,K,P,_,_,_,_,_,_,rfl,_,_,_,_,_,_,L,_,_,_⟩:=cS C;refine mr Z (bL 6 o h Z (X0 3 Z ?_));have h:=h.nil (α:=Int);obtain⟨o1,F,k⟩:=qc F;refine qq (rL (λm e w'=>∃S1 d c b x1 i,qY S M m x1 i=V o1/\e=[(0,.pointer (V ⟨b1,J,U⟩)),(1,.func (.func 127) #[] #[]),(5,oS d c b),(14,oL K M.links P),(15,vi (M.links.length:Int)),(16,vi i)]/\SH w w' [oW S1 (x1:List Int) [oS d c b]]) n ⟨_,_,_,_,_,_,F,Z,h⟩ Z ?_);rintro N _ _ ⟨S1,d,c,b,x1,i,F,rfl,h⟩;obtain rfl:=(h.sl 0 Z).2;rcases N with _|N
 .cases F
 refine X0 5 Z (qn Z F ?_ ?_)<;>intro F
 .refine X0 6 Z ?_;obtain⟨T,_,F,u,_,_,_,_,x,z,D,p⟩:=L.ix F;obtain rfl:=aB D;refine ft x z u Z (bL 0 p h Z (qi qa h Z Z Z λ_ _ h=>cr Z (zs 0 h Z λ_ h=>X0 6 Z (bL 1 f h Z (cr Z ?_)))));obtain⟨_,_,F,v,_,_,_,_,y,A,rfl,s⟩:=R.ix F;refine ft y A v Z (bL 0 s h Z (cr Z (qh (t:=28) F Z ?_ ?_)))<;>intro F
  .refine X1 5 0 h Z (dI h F (CC (ga T)) Z λ_ _ h F=>X0 2 Z (qn Z F ?_ ?_))<;>intro F
   .refine X0 3 Z (qt qa [.tmp 34] _ ([i]:List Int) h z9 ⟨Z,G⟩ Z λ_ _ _ h=>?_);obtain⟨_,a,F⟩:=qc F;obtain⟨O,a⟩:=qJ a;refine bn qa 2 h Z (h.sl 0 Z).1 (h.sl 0 Z).2 z9 O a Z λ_ _ _ _ h=>X0 7 Z ?_;exact rK ⟨_,_,_,_,_,_,F,Z,h.p [2] Z⟩ Z
   refine X0 6 Z ?_;exact rK ⟨_,_,_,_,_,_,F,Z,h.p [1] Z⟩ Z
  refine X0 5 Z (bQ Z Z (X0 6 Z ?_));exact rK ⟨_,_,_,_,_,_,F,Z,h.p [1] Z⟩ Z
 refine qy Z ?_;cases qe F;have F:=k;refine X0 5 Z ?_;cases qe F;exact rO 0 h Z ⟨Z,G⟩
def fz(g:aX)(d:List Int):Nat->(List Int)->Int->Option ((List Int)×Int)|0,_,_=>U|n+1,c,b=>bif decide (b<(d.length:Int)) then(qG d b).bind λh=>(g.view).bind λi=>(qG i.links h).bind λa=>(qG c a.To).bind λf=>(qG c a.To).bind λ_=>fz g d n (am c a.To (qj (f-1))) (qj (b+1)) else V (c,b)
def fy(Ce:Option aX)(f:aX)(x1:List Int):Nat->(List Int)->(List Int)->Int->Option (eE ((List Int)×Bool) ((List Int)×(List Int)×Int))|0,_,_,_=>U|n+1,d,b,c=>bif decide (c<(x1.length:Int)) then(sf n b 0).bind λa=>bif decide (a<0) then V (.ret ([],Cd)) else(qG b a).bind λ_=>(df d ([a]:List Int)).bind λh=>(tu n Ce a).bind λg=>(fz f g n (am b a (-1)) 0).bind λ(i,_)=>fy Ce f x1 n h i (qj (c+1)) else V (.nxt (d,b,c))
def fx(f:aX)(c:List Int):Nat->(List Int)->Int->Option ((List Int)×Int)|0,_,_=>U|n+1,b,a=>bif decide (a<(c.length:Int)) then(qG c a).bind λg=>(f.view).bind λh=>(qG h.links g).bind λd=>(qG b d.To).bind λi=>(qG b d.To).bind λ_=>fx f c n (am b d.To (qj (i+1))) (qj (a+1)) else V (b,a)
def rX(n:Nat)(Ce:Option aX):Option ((List Int)×Bool):=(Ce).bind λa=>(fc n a.view).bind λr1=>(yW r1 (0:Int)).bind λx1=>(cZ n Ce).bind λb=>(fx a b n x1 0).bind λ(c,_)=>(fy Ce a x1 n ([]:List Int) c 0).bind λ|.ret r=>V r|.nxt (d,_,_)=>V (d,An)
theorem FQ{Ce:Option aX}(ha1:Ro w Ce cs1){r:(List Int)×Bool}(F:rX n Ce=V r):qN prog 77 [gv Ce cs1] w r:=by
 obtain⟨_,rfl,s1⟩:=aJ ha1;refine zV 83 func77 Z λh=>X0 8 Z ?_;obtain⟨y1,hy1,F⟩:=qc F;obtain⟨b1,i,_,rfl,-,hr1,c⟩:=Cs s1 hy1;obtain⟨_,_,_,rfl,s2,_⟩:=eY hr1;refine mr Z (bL 0 c h Z (mR h F (iE (h.old s2)) Z λ_ _ h F=>?_));obtain⟨x1,d,F⟩:=qc F;obtain⟨g1,g2,d⟩:=aT d;refine bC qa Int h z9 g1 g2 d Z λ_ S1 k h=>X0 6 Z (uY h F (pT (h.old s1)) Z λW _ S2 p5 k2 h F=>X0 3 Z ?_);obtain⟨o1,F,hK1⟩:=qc F;refine qq (rL (λm e w'=>∃x2 i1,fx y1 W m x2 i1=V o1/\e=[(0,.pointer (V ⟨b1,i,U⟩)),(4,oS k x1.length x1.length),(18,oL p5 W k2),(19,vi (W.length:Int)),(20,vi i1)]/\SH w w' [oW S2 (W:List Int) [oL p5 W k2],oW S1 (x2:List Int) [oS k x1.length x1.length]]) n ⟨_,_,F,Z,h⟩ Z ?_);rintro m1 _ _ ⟨x2,i1,F,rfl,h⟩;rcases m1 with _|m1
 .cases F
 refine X0 5 Z (qn Z F ?_ ?_)<;>intro F
 .refine ly ?_;obtain⟨_,_,F,x,_,_,_,_,hp1,hq1,rfl,hc3⟩:=(h.sl 0 Z).1.ix F;refine zx hp1 hq1 ⟨x.1,qE x.2.1 (h.sl 0 Z).2⟩ Z (zc 0 hc3 Z (X0 7 Z (bL 0 c h Z ?_)));obtain⟨_,hy3,F⟩:=qc F;obtain⟨_,o_3,_,rfl,-,hr5,hc4⟩:=Cs s2 hy3;obtain⟨_,_,_,_,_,_,_,_,_,_,_,_,_,_,_,_,_,_,_,_,rfl,_,_,_,_,_,_,s10,_,_,_⟩:=cS hr5;refine mr Z (bL 6 hc4 h Z (cr Z ?_));obtain⟨_,_,F,he2,_,_,_,_,hp2,hq2,hr6,hc5⟩:=s10.ix F;obtain rfl:=aB hr6;refine ft hp2 hq2 he2 Z (cr Z (bL 1 hc5 h Z ?_));obtain⟨y5,_,F,y,_,_,_,_,hp3,hq3,rfl,hc6⟩:=(h.sl 1 Z).1.ix F;refine zx hp3 hq3 ⟨y.1,qE y.2.1 (h.sl 1 Z).2⟩ Z (zc 0 hc6 Z (cr Z ?_));obtain⟨_,hy6,F,z,_,_,_,_,H,K,rfl,hc7⟩:=(h.sl 1 Z).1.ix F;exact zx H K ⟨z.1,qE z.2.1 (h.sl 1 Z).2⟩ Z (bM qa 1 0 (qj (y5+1)) h Z hy6 H K Z hc7 Z Z Z Z Z Z Z λ_ h=>X0 6 Z (rK ⟨_,_,F,Z,h⟩ Z))
 refine qy Z ?_;cases qe F;have F:=hK1;refine X0 11 Z ?_;have h:=h.nil (α:=Int);obtain⟨o2,F,l⟩:=qc F;refine qq ?_;have h:=h.p [0,2] Z;refine rL (λm e w'=>∃S3 b g a x3 x4 Y,fy Ce y1 x1 m x3 x4 Y=V o2/\e=[(0,.pointer (V ⟨b1,i,U⟩)),(4,oS k x1.length x1.length),(7,oS b g a),(42,vi (x1.length:Int)),(43,vi Y)]/\SH w w' [oW S3 (x3:List Int) [oS b g a],oW S1 (x4:List Int) [oS k x1.length x1.length]]) n ⟨_,_,_,_,_,_,_,F,Z,h⟩ Z ?_;rintro m2 _ _ ⟨S3,b,g,a,x3,x4,Y,F,rfl,h⟩;obtain rfl:=(h.sl 0 Z).2;rcases m2 with _|m2
 .cases F
 refine X0 5 Z (qn Z F ?_ ?_)<;>intro F
 .refine X0 6 Z (mR h F (FY (h.own 1 Z)) Z λr3 _ h F=>X0 8 Z (qn Z F ?_ ?_))<;>intro F
  .refine X0 5 Z ?_;cases qe F;have F:=l;cases qe F;exact aC qa (ρ:=((List Int)×Bool)) [oV (List Int) [oS U 0 0],oV Bool [.bool Cd]] h ⟨Z,Z,G⟩ (Cr h (aj h kP ve (by rfl)))
  refine X0 5 Z ?_;obtain⟨_,hy7,F,A,_,_,_,_,I,L,rfl,o⟩:=(h.sl 1 Z).1.ix F;refine zx I L ⟨A.1,qE A.2.1 (h.sl 1 Z).2⟩ Z (bM qa 1 0 (-1) h Z hy7 I L Z o Z Z Z Z Z Z Z λ_ h=>X0 5 Z (qt qa [.tmp 53] _ ([r3]:List Int) h z9 ⟨Z,G⟩ Z λ_ _ _ h=>?_));obtain⟨x5,f,F⟩:=qc F;obtain⟨g3,f⟩:=qJ f;refine bn qa 1 h Z (h.sl 0 Z).1 (h.sl 0 Z).2 z9 g3 f Z λ_ S Q S5 h=>X0 6 Z (uY h F (GY (h.old s1)) Z λX _ S6 T R h F=>X0 3 Z ?_);obtain⟨o3,F,hK3⟩:=qc F;refine qq ?_;have h:=h.p [0,2,3] Z;refine rL (λm e w'=>∃x6 i3,fz y1 X m x6 i3=V o3/\e=[(0,.pointer (V ⟨b1,i,U⟩)),(4,oS k x1.length x1.length),(7,oL S x5 Q),(42,vi (x1.length:Int)),(43,vi Y),(58,oL T X R),(59,vi (X.length:Int)),(60,vi i3)]/\SH w w' [oW S6 (X:List Int) [oL T X R],oW S5 (x5:List Int) [oL S x5 Q],oW S1 (x6:List Int) [oS k x1.length x1.length]]) m2 ⟨_,_,F,Z,h⟩ Z ?_;rintro m3 _ _ ⟨x6,i3,F,rfl,h⟩;rcases m3 with _|m3
  .cases F
  refine X0 5 Z (qn Z F ?_ ?_)<;>intro F
  .refine ly ?_;obtain⟨_,_,F,B,_,_,_,_,hp6,hq6,rfl,p⟩:=(h.sl 0 Z).1.ix F;refine zx hp6 hq6 ⟨B.1,qE B.2.1 (h.sl 0 Z).2⟩ Z (zc 0 p Z (X0 7 Z (bL 0 c h Z ?_)));obtain⟨_,hy9,F⟩:=qc F;obtain⟨_,o_9,_,rfl,-,N,s⟩:=Cs s2 hy9;obtain⟨_,_,_,_,_,_,_,_,_,_,_,_,_,_,_,_,_,_,_,_,rfl,_,_,_,_,_,_,s20,_,_,_⟩:=cS N;refine mr Z (bL 6 s h Z (cr Z ?_));obtain⟨_,_,F,he7,_,_,_,_,hp7,hq7,O,t⟩:=s20.ix F;obtain rfl:=aB O;refine ft hp7 hq7 he7 Z (cr Z (bL 1 t h Z ?_));obtain⟨y11,_,F,C,_,_,_,_,hp8,hq8,rfl,u⟩:=(h.sl 2 Z).1.ix F;refine zx hp8 hq8 ⟨C.1,qE C.2.1 (h.sl 2 Z).2⟩ Z (zc 0 u Z (cr Z ?_));obtain⟨_,P,F,D,_,_,_,_,J,M,rfl,v⟩:=(h.sl 2 Z).1.ix F;exact zx J M ⟨D.1,qE D.2.1 (h.sl 2 Z).2⟩ Z (bM qa 2 0 (qj (y11-1)) h Z P J M Z v Z Z Z Z Z Z Z λ_ h=>X0 6 Z (rK ⟨_,_,F,Z,h⟩ Z))
  refine qy Z ?_;cases qe F;have F:=hK3;refine X0 5 Z ?_;exact rK ⟨_,_,_,_,_,_,_,F,Z,h.p [1,2] Z⟩ Z
 refine qy Z ?_;cases qe F;have F:=l;refine X0 6 Z ?_;cases qe F;exact aC qa (ρ:=((List Int)×Bool)) [oV (List Int) [oL b x3 a],oV Bool [.bool An]] h ⟨Z,Z,G⟩ (Cr h (aj h (qS 0 h Z) ve (by rfl)))
def oe(n:Nat)(b:qf)(c:qH)(p:List Int)(r:List ql)(t:Option qu):Option ((Option aX)×(List Int)×Int):=((un n b).bind λl=>bif (!l) then V An else(sS n c).bind λa=>V (!a)).bind λb1=>bif b1 then V (U,[],1) else(wW n b).bind λr1=>(bif (!(t).isNone) then(t).bind λm=>(xN n r1 m).bind λk=>V (!k) else V Cd).bind λb2=>bif b2 then V (U,[],1) else((lX n r1 p).bind λh=>bif (!h) then V An else(kr n r1 r).bind λi=>V (!i)).bind λb3=>bif b3 then V (U,[],2) else(pK n r1 p).bind λd=>(rX n d).bind λ(f,g)=>bif (!g) then V (U,[],7) else V (d,f,0)
theorem FT{A}(hA:∀b,A b->old w b){b:qf}{c:qH}{c2:List Int}{c0:List ql}{t:Option qu}(i:qm.R w A b cs1)(x:qm.R w A c cs2)(N:qm.R w A c2 cs3)(O:qm.R w A c0 cs4)(P:qm.R w A t cs5){r:(Option aX)×(List Int)×Int}(F:oe n b c c2 c0 t=V r):yP prog 35 [gv b cs1,gv c cs2,gv c2 cs3,gv c0 cs4,gv t cs5] w A r:=by
 obtain⟨p1,k1,p2,k2,p3,k3,p4,k4,p5,k5,rfl,_,_,_,_,_⟩:=qZ i;obtain rfl:=dL x;obtain⟨p6,k6,rfl,s6⟩:=N;obtain⟨p7,k7,rfl,s7⟩:=O;obtain⟨p8,rfl,s8⟩:=aJ P;have hg:=Rg.start hA;refine gc func35 Z (m:=61) Z Z (λh=>?_);refine db (qK h Z Z λ_ k h=>qK h Z Z λ_ _ h=>X0 6 Z ?_);obtain⟨M,v,_,F,p⟩:=bindE F;refine bw (λe w'=>∃b1,M b1=V r/\e=[(2,oL p6 c2 k6),(3,oL p7 c0 k7),(4,.pointer p8),(5,vp k),(24,.bool b1)]/\SH w w' [oX k (qL b p1 p2 p3 p4 p5 k1 k2 k3 k4 k5) 34]) ?_ ?_
 .refine X1 2 1 h Z (dI h F (NA (h.old (qm.mono i hg.old))) Z λ_ _ h F=>mr Z (qh (t:=20) F Z ?_ ?_))<;>intro F
  .refine X0 5 Z ?_;have h:=h.p [1] Z;exact rH F p h Z
  refine X1 3 0 h Z (dI h F (KW (h.old (qm.mono x hg.old))) Z λ_ _ h F=>X0 4 Z ?_);have h:=h.p [1] Z;exact rH F p h Z
 rintro _ _ ⟨b1,F,rfl,h⟩;subst v;refine qn Z F ?_ ?_<;>intro F
 .refine X0 6 Z ?_;obtain rfl:=qe F;have a5:gk.Rs (ρ:=((Option aX)×(List Int)×Int)) h.wc (vJ A w h.wc) (U,[],1) [oV (Option aX) [.pointer U],oV (List Int) [oS U 0 0],oV Int [vi 1]]:=⟨_,_,Z,Z,⟨_,_,Z,(hg.outR h (⟨_,_,Z,pP⟩)),⟨_,Z,Z⟩⟩⟩;exact gn qa (ρ:=((Option aX)×(List Int)×Int)) (r:=(U,[],1)) [oV (Option aX) [.pointer U],oV (List Int) [oS U 0 0],oV Int [vi 1]] h ⟨Z,Z,Z,G⟩ a5
 refine X1 4 0 h Z ?_;obtain⟨r1,S,F⟩:=qc F;refine pO r1 hg h (cB 72 Z) (NE (hg.regOld h) (hg.inR h i) S) Z Z Z Z λw3 _ _ a f b8 a6=>?_;have hL1:=h.ext f.below;have s9:=Up.S hg h f s6;have s10:=Up.S hg h f s7;have I:=Up.Pt hg h f s8;have hb1:=h.below.trans (f.below.mono h.below.size);have h:=b8;obtain⟨_,rfl,T⟩:=kQ a6;obtain⟨p9,rfl,g⟩:=aJ T;refine X0 5 Z ?_;obtain⟨L,u,_,F,o⟩:=bindE F;refine bw (λe w'=>∃b2,L b2=V r/\e=[(2,oL p6 c2 k6),(3,oL p7 c0 k7),(13,.pointer p9),(27,.bool b2)]/\SH w3 w' []) ?_ ?_
 .refine X0 2 Z ?_;have R:=mt.isNone I;refine dF (qbi qa Z Z Z Z R) Z (cr Z (qh (t:=30) F Z ?_ ?_))<;>intro F
  .refine X0 5 Z ?_;obtain⟨y1,b7,F⟩:=qc F;obtain⟨_,o_1,_,rfl,-,y,Q⟩:=Cs I b7;obtain⟨_,_,_,_,_,_,rfl,s14,s15,s16⟩:=gD y;refine X0 2 Z (bL 0 Q h Z (X0 1 Z (dI h F (CF (h.old (qm.mono g a.old)) (YD y1 (h.oldS (s14.mono a.old)) (h.oldS (s15.mono a.old)) (h.oldS (s16.mono a.old)))) Z λ_ _ h F=>X0 5 Z ?_)));exact rH F o h Z
  refine X0 9 Z ?_;exact rH F o h Z
 rintro _ _ ⟨b2,F,rfl,h⟩;subst u;refine qn Z F ?_ ?_<;>intro F
 .refine X0 6 Z ?_;obtain rfl:=qe F;have a7:gk.Rs (ρ:=((Option aX)×(List Int)×Int)) h.wc (vJ A w h.wc) (U,[],1) [oV (Option aX) [.pointer U],oV (List Int) [oS U 0 0],oV Int [vi 1]]:=⟨_,_,Z,Z,⟨_,_,Z,(a.outR h (⟨_,_,Z,pP⟩)),⟨_,Z,Z⟩⟩⟩;exact gn qa (ρ:=((Option aX)×(List Int)×Int)) (r:=(U,[],1)) [oV (Option aX) [.pointer U],oV (List Int) [oS U 0 0],oV Int [vi 1]] (h.unbase a.below (show HN [] from trivial)) ⟨Z,Z,Z,G⟩ a7
 refine aD ?_;obtain⟨K,s,_,F,l⟩:=bindE F;refine bw (λe w'=>∃b3,K b3=V r/\e=[(2,oL p6 c2 k6),(13,.pointer p9),(38,.bool b3)]/\SH w3 w' []) ?_ ?_
 .refine X0 3 Z (dI h F (CE (h.old (qm.mono g a.old)) ⟨_,_,Z,(h.oldS (s9.mono a.old))⟩) Z λ_ _ h F=>mr Z (qh (t:=43) F Z ?_ ?_))<;>intro F
  .refine X0 7 Z ?_;exact rH F l h Z
  refine X0 5 Z (dI h F (zB (h.old (qm.mono g a.old)) ⟨_,_,Z,(h.oldS (s10.mono a.old))⟩) Z λ_ _ h F=>X0 5 Z ?_);exact rH F l h Z
 rintro _ _ ⟨b3,F,rfl,h⟩;subst s;refine qn Z F ?_ ?_<;>intro F
 .refine X0 6 Z ?_;obtain rfl:=qe F;have a8:gk.Rs (ρ:=((Option aX)×(List Int)×Int)) h.wc (vJ A w h.wc) (U,[],2) [oV (Option aX) [.pointer U],oV (List Int) [oS U 0 0],oV Int [vi 2]]:=⟨_,_,Z,Z,⟨_,_,Z,(a.outR h (⟨_,_,Z,pP⟩)),⟨_,Z,Z⟩⟩⟩;exact gn qa (ρ:=((Option aX)×(List Int)×Int)) (r:=(U,[],2)) [oV (Option aX) [.pointer U],oV (List Int) [oS U 0 0],oV Int [vi 2]] (h.unbase a.below (show HN [] from trivial)) ⟨Z,Z,Z,G⟩ a8
 refine X0 6 Z ?_;obtain⟨r2,W,F⟩:=qc F;refine pO r2 a h (cB 76 Z) (DJ (a.regOld h) (a.inR h g) ⟨_,_,Z,(a.inS h s9)⟩ W) Z Z Z Z λ_ _ _ d z b9 a9=>?_;have hL2:=h.ext z.below;have hb2:=h.below.trans (z.below.mono h.below.size);have h:=b9;obtain⟨_,rfl,X⟩:=kQ a9;obtain⟨C,rfl,J⟩:=aJ X;refine X0 5 Z ?_;obtain⟨⟨H,r5⟩,Y,F⟩:=qc F;refine bB (H,r5) h (cB 77 Z) (FQ (h.old (qm.mono J d.old)) Y) Z Z Z Z λ_ _ _ b4 a3=>?_;obtain⟨_,_,D,k8,_,rfl,b5,a4⟩:=b4.consL a3;obtain⟨rfl,h⟩:=b5.lastB a4;refine X0 12 Z (qn Z F ?_ ?_)<;>intro F
 .refine X0 6 Z ?_;obtain rfl:=qe F;have b6:gk.Rs (ρ:=((Option aX)×(List Int)×Int)) h.wc (vJ A w h.wc) (U,[],7) [oV (Option aX) [.pointer U],oV (List Int) [oS U 0 0],oV Int [vi 7]]:=⟨_,_,Z,Z,⟨_,_,Z,(d.outR h (⟨_,_,Z,pP⟩)),⟨_,Z,Z⟩⟩⟩;exact gn qa (ρ:=((Option aX)×(List Int)×Int)) (r:=(U,[],7)) [oV (Option aX) [.pointer U],oV (List Int) [oS U 0 0],oV Int [vi 7]] (h.unbase d.below ⟨λ_ h=>h,G⟩) ⟨Z,Z,Z,G⟩ b6
 refine X0 9 Z ?_;obtain rfl:=qe F;have B:gk.Rs (ρ:=((Option aX)×(List Int)×Int)) h.wc (vJ A w h.wc) (r2,H,0) [oV (Option aX) [.pointer C],oV (List Int) [oL D H k8],oV Int [vi 0]]:=⟨_,_,Z,(d.outR h (d.inR h J)),⟨_,_,Z,(d.outR h (Rg.ownR 0 h Z)),⟨_,Z,Z⟩⟩⟩;exact gn qa (ρ:=((Option aX)×(List Int)×Int)) (r:=(r2,H,0)) [oV (Option aX) [.pointer C],oV (List Int) [oL D H k8],oV Int [vi 0]] (h.unbase d.below ⟨λ_ h=>h,G⟩) ⟨Z,Z,Z,G⟩ B
def fo(Ce:Int)(b:List Bool)(c:List Bool):Nat->Int->Option Int|0,_=>U|n+1,a=>bif decide (a<Ce) then(qG b a).bind λd=>bif d then fo Ce b c n (qj (a+1)) else(qG c a).bind λf=>bif f then fo Ce b c n (qj (a+1)) else V a else V a
def gi(Cf:List qx)(Cg:List Bool)(c:List Bool):Nat->(List Bool)->Int->Option ((List Bool)×Int)|0,_,_=>U|n+1,b,a=>bif decide (a<(Cf.length:Int)) then((qG Cg a).bind λf=>bif f then(qG Cf a).bind λg=>(qG c g.Bm).bind λh=>V (!h) else V Cd).bind λb1=>bif b1 then(qG Cf a).bind λd=>(qG b d.To).bind λ_=>gi Cf Cg c n (am b d.To An) (qj (a+1)) else gi Cf Cg c n b (qj (a+1)) else V (b,a)
def lR(Ce:Int)(Cf:List qx)(Cg:List Bool):Nat->(List Bool)->(List Int)->Option (eE ((List Int)×Bool) ((List Bool)×(List Int)))|0,_,_=>U|n+1,a,c=>bif decide ((c.length:Int)<Ce) then(yW Ce (Cd:Bool)).bind λd=>(gi Cf Cg a n d 0).bind λ(f,_)=>(fo Ce a f n 0).bind λb=>bif (b==Ce) then V (.ret (([]:List Int),Cd)) else(qG a b).bind λ_=>(df c ([b]:List Int)).bind λg=>lR Ce Cf Cg n (am a b An) g else V (.nxt (a,c))
def pz(n:Nat)(Ce:Int)(Cf:List qx)(Cg:List Bool):Option ((List Int)×Bool):=(yW Ce (Cd:Bool)).bind λx1=>(lR Ce Cf Cg n x1 ([]:List Int)).bind λ|.ret r=>V r|.nxt (_,a)=>V (a,An)
theorem zX{Ce}{Cf:List qx}{Cg:List Bool}(a4:Ro w Cf cs1)(a5:Ro w Cg cs2){r:(List Int)×Bool}(F:pz n Ce Cf Cg=V r):qN prog 65 [vi Ce,gv Cf cs1,gv Cg cs2] w r:=by
 obtain⟨p1,P,rfl,s1⟩:=a4;obtain⟨R,Q,rfl,s2⟩:=a5;refine zV 79 func65 Z λh=>X0 7 Z (qt qa [] _ ([]:List Int) h z9 trivial Z λ_ _ _ h=>X0 5 Z ?_);obtain⟨x1,g,F⟩:=qc F;obtain⟨g1,g2,g⟩:=aT g;refine bC qa Bool h z9 g1 g2 g Z λ_ S2 d h=>X0 3 Z ?_;obtain⟨o1,F,u⟩:=qc F;refine qq (rL (λm e w'=>∃f o b l k3 a,lR Ce Cf Cg m f a=V o1/\e=[(0,vi Ce),(1,oL p1 Cf P),(2,oL R Cg Q),(8,oS b l k3),(9,oS d x1.length x1.length)]/\SH w w' [oW S2 (f:List Bool) [oS d x1.length x1.length],oW o (a:List Int) [oS b l k3]]) n ⟨_,_,_,_,_,_,F,Z,h⟩ Z ?_);rintro W _ _ ⟨f,o,b,l,k3,a,F,rfl,h⟩;obtain rfl:=(h.sl 1 Z).2;rcases W with _|W
 .cases F
 refine X0 8 Z (qn Z F ?_ ?_)<;>intro F
 .refine X0 5 Z ?_;obtain⟨c,i,F⟩:=qc F;obtain⟨g3,g4,i⟩:=aT i;refine bC qa Bool h z9 g3 g4 i Z λ_ S4 p h=>X0 7 Z ?_;obtain⟨o2,F,a3⟩:=qc F;refine qq (rL (λm e w'=>∃s S,gi Cf Cg f m s S=V o2/\e=[(0,vi Ce),(1,oL p1 Cf P),(2,oL R Cg Q),(8,oL b a k3),(9,oS d x1.length x1.length),(10,oS p c.length c.length),(11,vi S)]/\SH w w' [oW S4 (s:List Bool) [oS p c.length c.length],oW S2 (f:List Bool) [oS d x1.length x1.length],oW o (a:List Int) [oL b a k3]]) W ⟨_,_,F,Z,h⟩ Z ?_);rintro m2 _ _ ⟨s,S,F,rfl,h⟩;rcases m2 with _|m2
  .cases F
  refine X0 8 Z (qn Z F ?_ ?_)<;>intro F
  .refine X0 4 Z ?_;obtain⟨X,y,_,F,v⟩:=bindE F;refine bw (λe w'=>∃b1,X b1=V o2/\e=[(0,vi Ce),(1,oL p1 Cf P),(2,oL R Cg Q),(8,oL b a k3),(9,oS d x1.length x1.length),(10,oS p c.length c.length),(11,vi S),(42,.bool b1)]/\SH w w' [oW S4 (s:List Bool) [oS p c.length c.length],oW S2 (f:List Bool) [oS d x1.length x1.length],oW o (a:List Int) [oL b a k3]]) ?_ ?_
   .refine X0 3 Z ?_;obtain⟨_,_,F,b6,_,_,_,_,b9,c6,rfl,a8⟩:=s2.ix F;refine ft b9 c6 b6 Z (bL 0 a8 h Z (cr Z (qh (t:=32) F Z ?_ ?_)))<;>intro F
    .refine X0 7 Z ?_;obtain⟨_,_,F,b7,_,_,_,_,c0,c7,d3,a9⟩:=s1.ix F;obtain rfl:=aB d3;refine ft c0 c7 b7 Z (X0 3 Z (bL 0 a9 h Z (X0 1 Z ?_)));obtain⟨_,_,F,H,_,_,_,_,c2,c8,rfl,b4⟩:=(h.sl 1 Z).1.ix F;refine zx c2 c8 ⟨H.1,qE H.2.1 (h.sl 1 Z).2⟩ Z (X0 1 Z (zc 0 b4 Z (X0 4 Z ?_)));exact rH F v h Z
    refine X0 11 Z ?_;exact rH F v h Z
   rintro _ _ ⟨b1,F,rfl,h⟩;subst y;refine qn Z F ?_ ?_<;>intro F
   .refine X0 4 Z ?_;obtain⟨_,_,F,b5,_,_,_,_,b8,c5,d1,a6⟩:=s1.ix F;obtain rfl:=aB d1;refine ft b8 c5 b5 Z (cr Z (bL 1 a6 h Z ?_));obtain⟨_,d4,F,D,_,_,_,_,L,N,rfl,a7⟩:=(h.sl 0 Z).1.ix F;exact zx L N ⟨D.1,qE D.2.1 (h.sl 0 Z).2⟩ Z (bM qa 0 0 An h Z d4 L N Z a7 Z Z Z Z Z Z Z λ_ h=>X0 7 Z (rK ⟨_,_,F,Z,h⟩ Z))
   exact X0 7 Z (rK ⟨_,_,F,Z,h⟩ Z)
  refine qy Z ?_;cases qe F;have F:=a3;refine X0 5 Z ?_;obtain⟨Y,z,o4,F,x⟩:=bindE F;refine bw (λe w'=>∃T,Y T=V o1/\e=[(0,vi Ce),(1,oL p1 Cf P),(2,oL R Cg Q),(8,oL b a k3),(9,oS d x1.length x1.length),(12,vi T)]/\SH w w' [oW S2 (f:List Bool) [oS d x1.length x1.length],oW o (a:List Int) [oL b a k3]]) ?_ ?_
  .refine qq (rL (λm e w'=>∃i4,fo Ce f s m i4=V o4/\e=[(0,vi Ce),(1,oL p1 Cf P),(2,oL R Cg Q),(8,oL b a k3),(9,oS d x1.length x1.length),(10,oS p c.length c.length),(12,vi i4)]/\SH w w' [oW S4 (s:List Bool) [oS p c.length c.length],oW S2 (f:List Bool) [oS d x1.length x1.length],oW o (a:List Int) [oL b a k3]]) W ⟨_,F,Z,h⟩ Z ?_);rintro m3 _ _ ⟨i4,F,rfl,h⟩;rcases m3 with _|m3
   .cases F
   refine X0 7 Z (qh (t:=53) F Z ?_ ?_)<;>intro F
   .refine X0 5 Z ?_;obtain⟨_,_,F,J,_,_,_,_,c3,c9,rfl,B⟩:=(h.sl 1 Z).1.ix F;refine zx c3 c9 ⟨J.1,qE J.2.1 (h.sl 1 Z).2⟩ Z (X0 1 Z (zc 0 B Z (X0 2 Z (qh (t:=58) F Z ?_ ?_))))<;>intro F
    .exact X0 8 Z (dO Z Z (X0 8 Z (rK ⟨_,F,Z,h⟩ Z)))
    refine X0 5 Z ?_;obtain⟨_,_,F,K,_,_,_,_,c4,d0,rfl,C⟩:=(h.sl 0 Z).1.ix F;refine zx c4 d0 ⟨K.1,qE K.2.1 (h.sl 0 Z).2⟩ Z (X0 1 Z (zc 0 C Z (X0 4 Z (qn Z F ?_ ?_))))<;>intro F
    .exact X0 8 Z (rK ⟨_,F,Z,h⟩ Z)
    refine qy Z ?_;have h:=h.p [1,2] Z;exact rH F x h Z
   refine X0 12 Z (bQ Z Z (qy Z ?_));have h:=h.p [1,2] Z;exact rH F x h Z
  rintro _ _ ⟨T,F,rfl,h⟩;subst z;refine X0 7 Z (qn Z F ?_ ?_)<;>intro F
  .refine db (qt qa [] _ ([]:List Int) h z9 trivial Z λ_ p7 _ h=>X0 3 Z ?_);cases qe F;have F:=u;cases qe F;exact aC qa (ρ:=((List Int)×Bool)) [oV (List Int) [oS p7 0 0],oV Bool [.bool Cd]] h ⟨Z,Z,G⟩ (Cr h (aj h (qS 0 h Z) ve (by rfl)))
  refine X0 5 Z ?_;obtain⟨_,d5,F,I,_,_,_,_,M,O,rfl,A⟩:=(h.sl 0 Z).1.ix F;refine zx M O ⟨I.1,qE I.2.1 (h.sl 0 Z).2⟩ Z (bM qa 0 0 An h Z d5 M O Z A Z Z Z Z Z Z Z λ_ h=>X0 4 Z (qt qa [.tmp 75] _ ([T]:List Int) h z9 ⟨Z,G⟩ Z λ_ _ _ h=>?_));obtain⟨_,k,F⟩:=qc F;obtain⟨g5,k⟩:=qJ k;refine bn qa 2 h Z (h.sl 0 Z).1 (h.sl 0 Z).2 z9 g5 k Z λ_ _ _ _ h=>X0 3 Z ?_;exact rK ⟨_,_,_,_,_,_,F,Z,h.p [1,2] Z⟩ Z
 refine qy Z ?_;cases qe F;have F:=u;refine X0 6 Z ?_;cases qe F;exact aC qa (ρ:=((List Int)×Bool)) [oV (List Int) [oL b a k3],oV Bool [.bool An]] h ⟨Z,Z,G⟩ (Cr h (aj h (qS 1 h Z) ve (by rfl)))
end Go.Fw


namespace Go.Fw
open Go
set_option maxRecDepth 100000
structure AG(ls:List qx)(M:Nat):Prop where
 len:ls.length<=10000
 nodes:M<=156
 fr0:∀x,x<ls.length->0<=(gt ls x).Bm
 fr1:∀x,x<ls.length->(gt ls x).Bm<(M:Int)
 to0:∀x,x<ls.length->0<=(gt ls x).To
 to1:∀x,x<ls.length->(gt ls x).To<(M:Int)
def CL(ls:List qx)(x:Nat):Int:=(gt ls x).Bm
def FH(ls:List qx)(x:Nat):Int:=(gt ls x).To
def AX(lv:List Bool)(x:Nat):Bool:=gt lv x
abbrev V6(ls:List qx)(lv:List Bool)(j:Nat)(R:List Nat)(k:Nat):Nat:=RH j (CL ls) (FH ls) (AX lv) R k
abbrev LG(ls:List qx)(lv:List Bool)(M:Nat)(R:List Nat):Option Nat:=Q9 ls.length (CL ls) (FH ls) (AX lv) M R
abbrev IL(ls:List qx)(lv:List Bool)(M m:Nat)(R:List Nat):Option (List Nat):=R5 ls.length (CL ls) (FH ls) (AX lv) M m R
def RM(ls:List qx)(lv:List Bool)(M:Nat):List Int×Bool:=match IL ls lv M M [] with|some R=>(eB R,An)|none=>([],Cd)
theorem R3{ls:List qx}{lv:List Bool}{M m:Nat}{R:List Nat}(h:LG ls lv M R=U):IL ls lv M (m+1) R=U:=by
 show(match LG ls lv M R with|none=>U|some k=>IL ls lv M m (R++[k]))=U;rw[h]
theorem R4{ls:List qx}{lv:List Bool}{M m k:Nat}{R:List Nat}(h:LG ls lv M R=V k):IL ls lv M (m+1) R=IL ls lv M m (R++[k]):=by
 show(match LG ls lv M R with|none=>U|some k=>IL ls lv M m (R++[k]))=_;rw[h]
theorem zJ{M:Nat}{v:Bool}(h:M<=2147483648):yW (M:Int) v=V (pre (λ_=>v) M):=by
 rw[yw h]
 congr 1
 refine Jo (by simp[pre]) λi a b=>?_;simp[pre]
theorem qdu{L:Nat}{fr to:Nat->Int}{lv:Nat->Bool}{R:List Nat}{k:Nat}:RH L fr to lv R k<=L:=oE
theorem XR{L:Nat}{fr to:Nat->Int}{lv:Nat->Bool}{R:List Nat}{k:Nat}:RH (L+1) fr to lv R k=RH L fr to lv R k+(bif lv L&&(to L==(k:Int)&&!decide (fr L∈eB R)) then 1 else 0):=rfl
def LD(ls:List qx)(lv:List Bool)(j:Nat)(R:List Nat)(M:Nat):List Bool:=pre (λk=>!decide (V6 ls lv j R k=0)) M
def K5(R:List Nat)(M:Nat):List Bool:=pre (λk=>decide (k∈R)) M
theorem qcs{ls:List qx}{lv:List Bool}{M:Nat}(h:AG ls M)(A:lv.length=ls.length){R:List Nat} :
  Ev (λn=>gi ls lv (K5 R M) n (pre (λ_=>Cd) M) 0) (LD ls lv ls.length R M,(ls.length:Int)):=by
 have x:=h.len;refine fq (Lf:=gi ls lv (K5 R M)) (S:=λj=>LD ls lv j R M) (len:=ls.length) (λn=>?_) (λj l X i=>?_)
 .simp only[gi,qr (jf _),Cj]
 .obtain⟨a,u⟩:∃a:Nat,(gt ls j).Bm=(a:Int):=⟨_,fB (h.fr0 j l)⟩;obtain⟨c,v⟩:∃c:Nat,(gt ls j).To=(c:Int):=⟨_,fB (h.to0 j l)⟩;have p:a<M:=by have:=h.fr1 j l;omega
  have r:c<M:=by have:=h.to1 j l;omega
  have s:CL ls j=(a:Int):=u;have o:FH ls j=(c:Int):=v;have b:decide (CL ls j∈eB R)=decide (a∈R):=by rw[s];exact decide_eq_decide.2 rk
  have y:qG (K5 R M) (a:Int)=V (decide (a∈R)):=oO (f:=λk=>decide (k∈R)) p;have z:qG (LD ls lv j R M) (c:Int)=V (!decide (V6 ls lv j R c=0)):=oO (f:=λk=>!decide (V6 ls lv j R k=0)) r;have t:(AX lv j&&!decide (a∈R))=An->LD ls lv (j+1) R M=am (LD ls lv j R M) (c:Int) An:=by
   intro g;unfold LD;rw[IR];refine sd λk _=>?_;show(!decide (RH (j+1) _ _ _ R k=0))=_;rw[XR,o,b];by_cases m:k=c
   .subst m;rw[if_pos Z];simp only[je] at g;simp[g.1,g.2]
   .rw[if_neg m,show((c:Int)==(k:Int))=Cd by simp;omega];simp
  have d:(AX lv j&&!decide (a∈R))=Cd->LD ls lv (j+1) R M=LD ls lv j R M:=by
   intro g;unfold LD;refine sd λk _=>?_;show(!decide (RH (j+1) _ _ _ R k=0))=_;rw[XR,o,b,show(AX lv j&&(((c:Int)==(k:Int))&&!decide (a∈R)))=Cd by
    cases h1:AX lv j
    .rfl
    .rw[h1] at g;simp only[jN] at g;rw[g];simp]
   simp
  simp only[gi,qp l,Ci,qz (show j<lv.length by omega),qz l,jd,u,v,y,z,wS j];cases h1:gt lv j
  .simp only[Cj,jd];have:=d (by unfold AX;rw[h1];rfl);rw[this] at i;exact i
  .simp only[Ci,jd];cases h2:decide (a∈R)
   .simp only[Bool.not_false,Ci];have:=t (by unfold AX;rw[h1,h2];rfl);rw[this] at i;exact i
   .simp only[Jq,Cj];have:=d (by unfold AX;rw[h1,h2];rfl);rw[this] at i;exact i
theorem qa5{ls:List qx}{lv:List Bool}{M:Nat}(h:AG ls M){R:List Nat} :
  Ev (λn=>fo (M:Int) (K5 R M) (LD ls lv ls.length R M) n 0) (match LG ls lv M R with|some k=>(k:Int)|none=>(M:Int)):=by
 have u:=h.nodes;have b:∀d j,j+d=M->(∀i,i<j->HV ls.length (CL ls) (FH ls) (AX lv) R i=Cd) ->
   Ev (λn=>fo (M:Int) (K5 R M) (LD ls lv ls.length R M) n (j:Int)) (match LG ls lv M R with|some k=>(k:Int)|none=>(M:Int)):=by
  intro d
  induction d with
  |zero=>
   intro j p c;have l:LG ls lv M R=U:=by
    show(List.range M).find? _=U;rw[List.find?_eq_none];intro x r;rw[List.mem_range] at r;rw[c x (by omega)];simp
   rw[l];refine Cm ?_;simp only[fo,qr (show M<=j by omega),Cj];rw[show j=M by omega];exact .done
  |succ d ih=>
   intro j p c;have a:j<M:=by omega
   have s:qG (K5 R M) (j:Int)=V (decide (j∈R)):=oO (f:=λk=>decide (k∈R)) a;have t:qG (LD ls lv ls.length R M) (j:Int)=V (!decide (V6 ls lv ls.length R j=0)):=oO (f:=λk=>!decide (V6 ls lv ls.length R k=0)) a;refine Cm ?_;simp only[fo,qp a,Ci,s,t,jd,wS j];have m:HV ls.length (CL ls) (FH ls) (AX lv) R j=Cd->Ev (λn=>fo (M:Int) (K5 R M) (LD ls lv ls.length R M) n ((j+1:Nat):Int)) (match LG ls lv M R with|some k=>(k:Int)|none=>(M:Int)):=λo=>
    ih (j+1) (by omega) λi hi=>by
     by_cases g:i=j
     .rw[g];exact o
     .exact c i (by omega)
   cases h1:decide (j∈R)
   .simp only[Cj];cases h2:decide (V6 ls lv ls.length R j=0)
    .simp only[Bool.not_false,Ci];exact m (by unfold HV;rw[h1];show(!Cd&&decide (V6 ls lv ls.length R j=0))=Cd;rw[h2];rfl)
    .simp only[Jq,Cj];have:LG ls lv M R=V j:=by
      show(List.range M).find? _=V j;rw[List.find?_range_eq_some];refine⟨?_,List.mem_range.2 a,λi hi=>by rw[c i hi];rfl⟩;unfold HV;rw[h1];show(!Cd&&decide (V6 ls lv ls.length R j=0))=An;rw[h2];rfl
     rw[this];exact .done
   .simp only[Ci];exact m (by unfold HV;rw[h1];rfl)
 exact b M 0 (by omega) (λi hi=>absurd hi (by omega))
theorem TG{ls:List qx}{lv:List Bool}{M:Nat}(h:AG ls M)(g:lv.length=ls.length):Ev (λn=>pz n (M:Int) ls lv) (RM ls lv M):=by
 have o:=h.nodes;have b:∀m R,R.length+m=M->Ev (λn=>lR (M:Int) ls lv n (K5 R M) (eB R))
   (match IL ls lv M m R with|some R'=>.nxt (K5 R' M,eB R')|none=>.ret ([],Cd)):=by
  intro m
  induction m with
  |zero=>
   intro R c;refine Cm ?_;simp only[lR,du,qr (show M<=R.length by omega),Cj];exact .done
  |succ m ih=>
   intro R c;refine Cm ?_;simp only[lR,du,qp (show R.length<M by omega),Ci,zJ (v:=Cd) (show M<=2147483648 by omega),jd];refine Ck (qcs h g) (Ck (qa5 h) ?_);show Ev _ (match (match LG ls lv M R with|none=>U|some k=>IL ls lv M m (R++[k])) with|some R'=>_|none=>_);cases hn:LG ls lv M R with
   |none=>
    simp only[beq_self_eq_true,Ci];exact .done
   |some k=>
    obtain⟨d,_,_⟩:=LH hn;have l:qG (K5 R M) (k:Int)=V (decide (k∈R)):=oO (f:=λk=>decide (k∈R)) d;have e1:am (K5 R M) (k:Int) An=K5 (R++[k]) M:=by
     unfold K5;rw[IR];refine sd λi _=>?_;by_cases a:i=k
     .subst a;simp
     .simp[a]
    simp only[show((k:Int)==(M:Int))=Cd by simp;omega,Cj,l,jd];rw[eG (by rw[du,jh];omega),e1,<-xo];exact ih (R++[k]) (by rw[jg,jh];omega)
 have e0:pre (λ_=>Cd) M=K5 [] M:=sd λk _=>by simp
 unfold pz;rw[zJ (v:=Cd) (show M<=2147483648 by omega)];simp only[jd];rw[e0];refine Ck (b M [] (by simp)) ?_;unfold RM;cases IL ls lv M M []<;>exact .done
def qcV(ls:List qx)(lv:List Bool)(ps:List aY)(b:qf)(lo:List Int)(de:List (List Int))(ex:List Int):Option aX:=V ⟨V ⟨b,ps,ls,lo,de,ex⟩,lv⟩
theorem UO{xs:List Int}(c:xs.length<=1000000):Ev (λn=>sf n xs 0) (NF (λy=>(0:Int)==y) xs):=
 og (fin:=(xs.length:Int)) (Lf:=gO xs 0) (pf:=λ_ y=>V ((0:Int)==y)) (λ_ _=>.done)
  (λn=>by simp only[gO,qr (jf _),Cj])
  (λn j x a=>by
   have b:=(List.getElem?_eq_some_iff.1 a).1;simp only[gO,qp b,Ci,ra a,jd,wS j])
  (λn=>by unfold sf;congr 1;funext o;cases o<;>rfl)
theorem qbY{f:Nat->Int}{M:Nat}{p:Int->Bool}:NF p (iY f M)=match (List.range M).find? (λk=>p (f k)) with|some k=>(k:Int)|none=>-1:=by
 cases hf:(List.range M).find? (λk=>p (f k)) with
 |none=>
  have a:(iY f M).findIdx? p=U:=by
   rw[List.findIdx?_eq_none_iff];intro x g;obtain⟨k,d,rfl⟩:=List.mem_map.1 g;have:=List.find?_eq_none.1 hf k d;simpa using this
  unfold NF;rw[a]
 |some k=>
  obtain⟨a,b,c⟩:=List.find?_range_eq_some.1 hf;rw[List.mem_range] at b;have:=SK (p:=p) (xs:=iY f M) (j:=k) (by rw[AE];exact b) (by simpa [iY] using a) (λi hi=>by
   have:=c i hi;simpa [iY] using this)
  rw[this]
section
variable{ls:List qx}{lv:List Bool}{M:Nat}{ps:List aY}{b:qf}{lo:List Int}{de:List (List Int)}{ex:List Int}
theorem UI(h:AG ls M)(k:lv.length=ls.length):Ev (λn=>cZ n (qcV ls lv ps b lo de ex)) (eB (lG (AX lv) ls.length)):=by
 have g:=h.len;have f:Ev (λn=>qY ⟨V ⟨b,ps,ls,lo,de,ex⟩,lv⟩ ⟨b,ps,ls,lo,de,ex⟩ n ([]:List Int) 0) (eB (lG (AX lv) ls.length),(ls.length:Int)):=by
  refine LO (q:=AX lv) (Lf:=qY ⟨V ⟨b,ps,ls,lo,de,ex⟩,lv⟩ ⟨b,ps,ls,lo,de,ex⟩) (len:=ls.length) (by omega) (Cm ?_) (λj a t i X c d=>?_)
  .simp only[qY,qr (jf _),Cj];exact .done
  .simp only[qY,qp a,Ci,qz a,qz (show j<lv.length by omega),jd,tH,i,wS j];cases hq:gt lv j
   .simp only[Cj];exact d hq
   .simp only[Ci];exact c hq
 unfold cZ qcV;simp only[jd];exact Ck f .done
theorem qbN(h:AG ls M)(k:lv.length=ls.length){v:Int}:Ev (λn=>tu n (qcV ls lv ps b lo de ex) v) (eB (lG (λx=>AX lv x&&(CL ls x==v)) ls.length)):=by
 have g:=h.len;have f:Ev (λn=>aa v ⟨V ⟨b,ps,ls,lo,de,ex⟩,lv⟩ ⟨b,ps,ls,lo,de,ex⟩ n ([]:List Int) 0) (eB (lG (λx=>AX lv x&&(CL ls x==v)) ls.length),(ls.length:Int)):=by
  refine LO (q:=λx=>AX lv x&&(CL ls x==v)) (Lf:=aa v ⟨V ⟨b,ps,ls,lo,de,ex⟩,lv⟩ ⟨b,ps,ls,lo,de,ex⟩) (len:=ls.length) (by omega) (Cm ?_) (λj d t i X c a=>?_)
  .simp only[aa,qr (jf _),Cj];exact .done
  .simp only[aa,qp d,Ci,qz d,qz (show j<lv.length by omega),jd,uw,i,wS j];unfold AX CL at c a;cases hq:gt lv j
   .simp only[Cj];exact a (by rw[hq];rfl)
   .simp only[Ci];cases hw:(gt ls j).Bm==v
    .simp only[Cj];exact a (by rw[hq,hw];rfl)
    .simp only[Ci];exact c (by rw[hq,hw];rfl)
 unfold tu fN qcV;simp only[jd];exact Ck (Ck f .done) .done
theorem qbd{q:Nat->Bool}{m:Nat}{p:Nat->Bool}:(lG q m).countP p=gr (λx=>q x&&p x) m:=by
 induction m with
 |zero=>rfl
 |succ m ih=>
  rw[xu,List.countP_append,ih];show _=gr (λx=>q x&&p x) m+(bif (q m&&p m) then 1 else 0);cases q m
  .rfl
  .cases hp:p m<;>simp[hp]
def wN(ls:List qx)(S:List Nat)(k:Nat):Nat:=S.countP (λx=>FH ls x==(k:Int))
theorem H6{S:List Nat}{k:Nat}:wN ls S k<=S.length:=List.countP_le_length
theorem O9{S:List Nat}{j k:Nat}(a:j<S.length):wN ls (S.take (j+1)) k=wN ls (S.take j) k+(if FH ls S[j]=(k:Int) then 1 else 0):=by
 unfold wN;rw[jw a,List.countP_append];by_cases h:FH ls S[j]=(k:Int)<;>simp[h]
theorem qcT{f:Nat->Int}{c:Nat}{S:List Nat}{j:Nat}{d v:Int}(g:j<S.length)(b:FH ls S[j]=(c:Int))(h:v=f c+d*(wN ls (S.take j) c:Int)+d) :
  am (iY (λk=>f k+d*(wN ls (S.take j) k:Int)) M) (c:Int) v=iY (λk=>f k+d*(wN ls (S.take (j+1)) k:Int)) M:=by
 rw[QR];refine nM λk _=>?_;rw[O9 g,b];by_cases a:k=c
 .subst a;rw[if_pos Z,if_pos Z,h];rw[Int.natCast_add,Int.mul_add];omega
 .rw[if_neg a,if_neg (by omega)];simp
theorem qds(h:AG ls M){S:List Nat}(p:∀x,x∈S->x<ls.length)(s:S.length<=10000) :
  Ev (λn=>fx ⟨V ⟨b,ps,ls,lo,de,ex⟩,lv⟩ (eB S) n (iY (λ_=>0) M) 0) (iY (λk=>(wN ls S k:Int)) M,(S.length:Int)):=by
 have:=fq (Lf:=fx ⟨V ⟨b,ps,ls,lo,de,ex⟩,lv⟩ (eB S)) (S:=λj=>iY (λk=>0+1*(wN ls (S.take j) k:Int)) M) (len:=S.length) (fin:=(iY (λk=>(wN ls S k:Int)) M,(S.length:Int))) (λn=>by
   simp only[fx,du,qr (jf _),Cj,jH];rw[nM (f:=λk=>0+1*(wN ls S k:Int)) (g:=λk=>(wN ls S k:Int)) (λk _=>by omega)])
  (λj a X r=>by
   have m:=p S[j] (jm a);obtain⟨c,o⟩:∃c:Nat,(gt ls S[j]).To=(c:Int):=⟨_,fB (h.to0 _ m)⟩;have i:c<M:=by have:=h.to1 _ m;omega
   have l:=H6 (ls:=ls) (S:=S.take j) (k:=c);rw[jy] at l;simp only[fx,du,qp a,Ci,yu a,jd,qz m,o,ER i,wS j];rw[qX (by omega) (by omega),qcT (d:=1) a o (by omega)];exact r)
 rw[nM (f:=λk=>0+1*(wN ls (S.take 0) k:Int)) (g:=λ_=>0) (λk _=>by unfold wN;simp)] at this;exact this
theorem qao(h:AG ls M){S:List Nat}{f:Nat->Int}(p:∀x,x∈S->x<ls.length)(u:S.length<=10000)(s:∀k,k<M->-1<=f k/\f k<=10000) :
  Ev (λn=>fz ⟨V ⟨b,ps,ls,lo,de,ex⟩,lv⟩ (eB S) n (iY f M) 0) (iY (λk=>f k-(wN ls S k:Int)) M,(S.length:Int)):=by
 have:=fq (Lf:=fz ⟨V ⟨b,ps,ls,lo,de,ex⟩,lv⟩ (eB S)) (S:=λj=>iY (λk=>f k+(-1)*(wN ls (S.take j) k:Int)) M) (len:=S.length) (fin:=(iY (λk=>f k-(wN ls S k:Int)) M,(S.length:Int))) (λn=>by
   simp only[fz,du,qr (jf _),Cj,jH];rw[nM (f:=λk=>f k+(-1)*(wN ls S k:Int)) (g:=λk=>f k-(wN ls S k:Int)) (λk _=>by omega)])
  (λj i X r=>by
   have m:=p S[j] (jm i);obtain⟨c,o⟩:∃c:Nat,(gt ls S[j]).To=(c:Int):=⟨_,fB (h.to0 _ m)⟩;have a:c<M:=by have:=h.to1 _ m;omega
   have l:=H6 (ls:=ls) (S:=S.take j) (k:=c);rw[jy] at l;have t:=s c a;simp only[fz,du,qp i,Ci,yu i,jd,qz m,o,ER a,wS j];rw[qX (by omega) (by omega),qcT (d:=-1) i o (by omega)];exact r)
 rw[nM (f:=λk=>f k+(-1)*(wN ls (S.take 0) k:Int)) (g:=f) (λk _=>by unfold wN;simp)] at this;exact this
def BQ(ls:List qx)(lv:List Bool)(R:List Nat)(k:Nat):Int:=if k∈R then -1 else(V6 ls lv ls.length R k:Int)
theorem R1{R:List Nat}:NF (λy=>(0:Int)==y) (iY (BQ ls lv R) M)=match LG ls lv M R with|some k=>(k:Int)|none=>-1:=by
 rw[qbY];have:(λk=>((0:Int)==BQ ls lv R k))=HV ls.length (CL ls) (FH ls) (AX lv) R:=by
  funext k
  unfold BQ HV;by_cases a:k∈R
  .rw[if_pos a];simp[a]
  .rw[if_neg a];simp only[a,decide_false,Bool.not_false,jN];by_cases b:V6 ls lv ls.length R k=0
   .simp[b]
   .rw[show((0:Int)==((V6 ls lv ls.length R k:Nat):Int))=Cd from beq_eq_false_iff_ne.2 (by omega)];simpa using b
 rw[this]
 rfl
theorem P7(h:AG ls M)(t:lv.length=ls.length)(F:M=2*ps.length):Ev (λn=>rX n (qcV ls lv ps b lo de ex)) (RM ls lv M):=by
 have H:=h.nodes;have C:=h.len;have g:∀m R,R.length+m=M->AF ls.length (CL ls) (FH ls) (AX lv) R->∃y:List Int×List Int×Int,Ev (λn=>fy (qcV ls lv ps b lo de ex) ⟨V ⟨b,ps,ls,lo,de,ex⟩,lv⟩ (iY (λ_=>0) M) n (eB R) (iY (BQ ls lv R) M) (R.length:Int))
   (match IL ls lv M m R with|some R'=>.nxt (eB R',y.2.1,y.2.2)|none=>.ret ([],Cd)):=by
  intro m
  induction m with
  |zero=>
   intro R A _;refine⟨(eB R,iY (BQ ls lv R) M,(R.length:Int)),Cm ?_⟩;simp only[fy,AE,qr (show M<=R.length by omega),Cj];exact .done
  |succ m ih=>
   intro R A s;have c:=UO (xs:=iY (BQ ls lv R) M) (by rw[AE];omega);rw[R1] at c;cases hn:LG ls lv M R with
   |none=>
    rw[hn] at c;rw[R3 hn];refine⟨([],[],0),Cm ?_⟩;simp only[fy,AE,qp (show R.length<M by omega),Ci];exact Ck c (Cq (by decide) .done)
   |some k=>
    rw[hn] at c;rw[R4 hn];obtain⟨B,d,r⟩:=LH hn;obtain⟨y,o⟩:=ih (R++[k]) (by rw[jg,jh];omega) (s.snoc r);refine⟨y,Cm ?_⟩;simp only[fy,AE,qp (show R.length<M by omega),Ci];refine Ck c (Cp (by simp) ?_);rw[ER B,eG (by rw[du,jh];omega),QR,<-xo];simp only[jd];refine Ck (qbN h t) ?_;have D:=wm (q:=λx=>AX lv x&&(CL ls x==(k:Int))) (j:=ls.length);refine Ck (qao h (λx p=>(oh.1 p).1) (by omega) (λi hi=>?_)) ?_
    .split
     .omega
     .unfold BQ;have:V6 ls lv ls.length R i<=ls.length:=qdu;split<;>omega
    .have u:iY (λi=>(if i=k then -1 else BQ ls lv R i)-(wN ls (lG (λx=>AX lv x&&(CL ls x==(k:Int))) ls.length) i:Int)) M=iY (BQ ls lv (R++[k])) M:=by
      refine nM λi _=>?_;have v:wN ls (lG (λx=>AX lv x&&(CL ls x==(k:Int))) ls.length) i=qen ls.length (CL ls) (FH ls) (AX lv) k i:=qbd;rw[v];unfold BQ;by_cases a:i∈R++[k]
      .rw[if_pos a,s.no_back d r a];rcases List.mem_append.1 a with l|l
       .split
        .rfl
        .rfl
       .rw[if_pos (List.mem_singleton.1 l)];rfl
      .have l:i∉R:=λe=>a (jM _ e);have z:i≠k:=λe=>a (jX _ (List.mem_singleton.2 e));rw[if_neg a,if_neg z,if_neg l];have:=qas (L:=ls.length) (fr:=CL ls) (to:=FH ls) (lv:=AX lv) (R:=R) (i:=k) (k:=i) d;show(RH _ _ _ _ R i:Int)-_=(RH _ _ _ _ (R++[k]) i:Int);omega
     rw[u,ti (show R.length<9223372036854775807 by omega)];rw[jg,jh] at o;exact o
 have f:=qds (b:=b) (ps:=ps) (lo:=lo) (de:=de) (ex:=ex) (lv:=lv) h (S:=lG (AX lv) ls.length) (λx p=>(oh.1 p).1) (by have:=wm (q:=AX lv) (j:=ls.length);omega);have e0:iY (λk=>(wN ls (lG (AX lv) ls.length) k:Int)) M=iY (BQ ls lv []) M:=by
  refine nM λk _=>?_;unfold BQ;rw[if_neg (by simp)]
  congr 1
  show List.countP _ _=RH _ _ _ _ [] k;rw[qbd];unfold RH;exact OQ λx _=>by simp[eB]
 rw[e0] at f;obtain⟨y,o⟩:=g M [] (by simp) AF.nil;unfold rX;show Ev (λn=>(V _).bind _) _;simp only[jd,fc,lq];rw[qX (by omega) (by omega),show 2*(ps.length:Int)=(M:Int) by omega,TP (by omega)];simp only[jd];refine Ck (UI h t) (Ck f (Ck o ?_));unfold RM;cases IL ls lv M M []<;>exact .done
end
end Go.Fw
