/- Plain laws of the draws: wires, blocks. -/
import Derived.Test.YtbmbbkjleheokaaGreatDoorDR3
import Derived.Test.YtbmbbkjleheokaaGreatDoorFw35
import Derived.Test.YtbmbbkjleheokaaGreatDoorR2
import Derived.Test.YtbmbbkjleheokaaGreatDoorFw38
import Derived.Test.YtbmbbkjleheokaaGreatDoorZ1
open Option renaming bind_some → jd, some → V, none → U
open Bool renaming and_eq_true → je, eq_iff_iff → jm, true_and → jB, not_eq_true' → jF, not_true → Jg
open Nat renaming le_refl → jf, mul_le_mul_right → jr, zero_le → jQ, le_trans → Jd
open List renaming length_append → jg, length_singleton → jh, getElem?_eq_getElem → jn, getElem_mem → jo, mem_cons_of_mem → js, append_assoc → jt, length_map → jv, getD_eq_getElem?_getD → jw, mem_cons_self → jx, not_mem_nil → jy, take_succ_eq_append_getElem → jz, drop_eq_getElem_cons → jC, mem_append_left → jD, length_replicate → jG, mem_cons → jI, take_length → jJ, length_take → jM, mem_append_right → jT, map_append → jW, all_eq_true → jX, append_nil → Ja, ext_getElem → Jc
open Int renaming toNat_natCast → jp, tdiv_eq_ediv_of_nonneg → jE, mul_nonneg → jS, le_refl → jU, mul_le_mul → jV, mul_assoc → Jb, add_zero → Jf

namespace Go.Fw
open Go
set_option maxRecDepth 100000
section
variable {code:List (IntK .u8)}{a s:Int}
structure WirI (x:qam):Prop where
 ok:qom x
 p1:1≤x.Ak.length∧x.Ak.length≤100
 r1:1≤x.Bw.length
 c1:1≤x.Br.length
 s1:x.Bl.length≤100
theorem qpI {xs:List Int}(h:xs.length≤1048576):Ev (fun n=>qet n xs) xs:=by
 unfold qet;exact Ev.bindN (qkK h) .done
theorem qv6 (t:CodeOk code):∀ (r:Nat) (d f g:List Int) (h m:Int),SrcI code h m→r≤10→(1≤d.length∧d.length+r≤50)→(1≤f.length∧f.length+r≤50)→(1≤g.length∧g.length+r≤50) →
  (∀ y,y ∈ d→okI y)→(∀ y,y ∈ f→okI y)→(∀ y,y ∈ g→okI y) →
  EvQ (fun n=>qdg ⟨code,a,s⟩ n d f g h m (r:Int)) (fun o=>(((1≤o.1.length∧o.1.length≤50)∧∀ y,y ∈ o.1→okI y)∧((1≤o.2.1.length∧o.2.1.length≤50)∧∀ y,y ∈ o.2.1→okI y)∧(1≤o.2.2.1.length∧o.2.2.1.length≤50)∧∀ y,y ∈ o.2.2.1→okI y)∧SrcI code o.2.2.2.1 o.2.2.2.2.1):=by
 intro r
 induction r with
 | zero=>
  intro d f g h m c D l1 l2 u i l p;refine EvQ.succ ?_;simp only[qdg];exact EvQ.ff Z (EvQ.done ⟨⟨⟨⟨l1.1,by dsimp only;omega⟩,i⟩,⟨⟨l2.1,by dsimp only;omega⟩,l⟩,⟨u.1,by dsimp only;omega⟩,p⟩,c⟩)
 | succ r ih=>
  intro d f g h m c D l1 l2 u i l p;have e:W64 (((r+1:Nat):Int)-1)=(r:Int):=by rw[qR (by omega) (by omega)];omega
  have b:∀ {x:Int} {k:Int},0≤x→x<k→k≤1000→okI x:=fun P i l=>qaD (by omega) (by omega);refine EvQ.succ ?_;simp only[qdg,e];refine EvQ.tt (by simp) (EvQ.bindE (qpI (by omega)) (EvQ.bind (qal _ t c) ?_));rintro⟨F,H,I⟩ ⟨⟨⟨v,p1⟩,_⟩,c⟩;refine EvQ.bindN (qb5 (by omega)) (EvQ.bindE (qpI (by omega)) (EvQ.bind (qal _ t c) ?_));rintro⟨J,K,L⟩ ⟨⟨⟨z,A⟩,_⟩,c⟩;refine EvQ.bindN (qb5 (by omega)) (EvQ.bindE (qpI (by omega)) (EvQ.bind (qal _ t c) ?_));rintro⟨M,N,O⟩ ⟨⟨⟨B,C⟩,_⟩,c⟩;dsimp only at v p1 z A B C c;refine EvQ.bindN (qb5 (by omega)) ?_;exact ih _ _ _ _ _ c (by omega) (by rw[jg,jh];omega) (by rw[jg,jh];omega) (by rw[jg,jh];omega)
   (qbz i (b B (C (by decide)) (by decide))) (qbz l (b z (A (by decide)) (by decide))) (qbz p (b v (p1 (by omega)) (by omega)))
theorem qvN {r1:qam}{i:List Int}(l:CodeOk code)(z:r1.Bl.length≤100)(v:1≤i.length∧i.length≤50):∀ (d j:Nat) (x:List Int) (f g:Int),SrcI code f g→j+d=r1.Bl.length→x.length=r1.Bl.length→(∀ y,y ∈ x→okI y) →
  EvQ (fun n=>qdf ⟨code,a,s⟩ r1 i n x f g (j:Int)) (fun o=>(o.1.length=r1.Bl.length∧∀ y,y ∈ o.1→okI y)∧SrcI code o.2.1 o.2.2.1):=by
 intro d
 induction d with
 | zero=>
  intro j x f g c m h b;refine EvQ.succ ?_;simp only[qdf];exact EvQ.ff (qq (by omega)) (EvQ.done ⟨⟨h,b⟩,c⟩)
 | succ d ih=>
  intro j x f g c m h b;refine EvQ.succ ?_;simp only[qdf,wS j];refine EvQ.tt (qp (by omega)) (EvQ.bind (qal _ l c) ?_);rintro⟨p,r,t⟩ ⟨⟨⟨u,k⟩,_⟩,c⟩;dsimp only at u k c ⊢;have A:=k (by omega);exact EvQ.bindN (qaZ (show j<x.length by omega)) (ih (j+1) _ _ _ c (by omega) (by rw[qa8];exact h) (qiC b (qaD (by omega) (by omega))))
theorem qxb {m:Nat}(R:m≤100)(c:CodeOk code)(h:SrcI code a s):EvQ (fun n=>qho n ⟨code,a,s⟩ (m:Int)) (fun o=>WirI o.1∧SrcI code o.2.1 o.2.2):=by
 have z:∀ x:Int,-1000≤x→x≤1000→okI x:=fun x f g=>qaD (by omega) (by omega);unfold qho;refine EvQ.bind (qal 6 c h) ?_;rintro⟨d,S,T⟩ ⟨⟨⟨N,p1⟩,_⟩,b⟩;dsimp only at N p1 b ⊢;have X:=p1 (by decide);have C:Ev (fun n=>qis n (m:Int) d) (⟨[-1],[0],[d],List.replicate m 0⟩:qam):=by
  unfold qis;exact Ev.bindN (qlJ (by omega)) .done
 refine EvQ.bindE C (EvQ.bind (qal 4 c b) ?_);rintro⟨t,J,K⟩ ⟨⟨⟨O,v⟩,_⟩,b⟩;dsimp only at O v b ⊢;have Y:=v (by decide);obtain⟨r,rfl⟩:∃ r:Nat,t=(r:Int):=⟨t.toNat,by omega⟩;have one:∀ {x:Int},okI x→∀ y,y ∈ [x]→okI y:=fun D y i=>by obtain rfl:=List.mem_singleton.1 i;exact D
 refine EvQ.bind (qv6 c r [d] [0] [-1] J K b (by omega) (by simp;omega) (by simp;omega) (by simp;omega) (one (z _ (by omega) (by omega))) (one (z _ (by decide) (by decide))) (one (z _ (by decide) (by decide)))) ?_;rintro⟨P,Q,A,L,M,W⟩ ⟨⟨⟨l1,f⟩,⟨l2,g⟩,k,p⟩,b⟩;dsimp only at l1 f l2 g k p b ⊢;refine EvQ.bind (qvN (r1:=⟨[-1],[0],[d],List.replicate m 0⟩) c (by simp;omega) k m 0 (List.replicate m 0) L M b (by simp) Z (fun y i=>by obtain⟨_,rfl⟩:=List.mem_replicate.1 i;exact z _ (by decide) (by decide))) ?_;rintro⟨l,F,H,I⟩ ⟨⟨u,B⟩,b⟩;have u:l.length=m:=by simpa using u
 exact EvQ.done ⟨⟨⟨⟨by show A.length≤_;omega,p⟩,⟨by show Q.length≤_;omega,g⟩,⟨by show P.length≤_;omega,f⟩,⟨by show l.length≤_;omega,B⟩⟩,⟨k.1,by show A.length≤_;omega⟩,l2.1,l1.1,by show l.length≤_;omega⟩,b⟩
structure BlkI (b:qe):Prop where
 lib:qhd b.Ar
 des:DesI b.Aa
 wl:b.Af.length=b.Aa.Am.length
 wi:∀ y,y ∈ b.Af→WirI y
theorem BlkI.ok {b:qe}(h:BlkI b):qkd b:=⟨h.lib,h.des.ok,⟨by rw[h.wl];exact h.des.ok.Am.1,fun y a=>(h.wi y a).ok⟩⟩
theorem qm9 {most:Int}{wild:Bool}(u:2≤most)(m:most≤14)(p:CodeOk code)(h:SrcI code a s) :
  EvQ (fun n=>qeD n ⟨code,a,s⟩ most wild) (fun o=>BlkI o.1∧SrcI code o.2.1 o.2.2):=by
 unfold qeD;refine EvQ.bind (qxh p h) ?_;rintro⟨r1,I,J⟩ ⟨r,b⟩;refine EvQ.bind (qvs u m p b) ?_;rintro⟨c,F,H⟩ ⟨g,b⟩;dsimp only at r g b ⊢;have A:=g.sm.nn;have B:=qaO g.sm;have i:∀ (d j:Nat) (x:List qam) (k l:Int),SrcI code k l→j+d=c.Am.length→x.length=j→(∀ y,y ∈ x→WirI y) →
   EvQ (fun n=>qfo ⟨code,a,s⟩ c n x k l (j:Int)) (fun o=>(o.1.length=c.Am.length∧∀ y,y ∈ o.1→WirI y)∧SrcI code o.2.1 o.2.2.1):=by
  intro d
  induction d with
  | zero=>
   intro j x k l b z D f;refine EvQ.succ ?_;simp only[qfo];exact EvQ.ff (qq (by omega)) (EvQ.done ⟨⟨by dsimp only;omega,f⟩,b⟩)
  | succ d ih=>
   intro j x k l b z D f;refine EvQ.succ ?_;simp only[qfo,wS j];have C:(sinksL c (j:Int) (places c).length).length≤78:=by
    have:(sinksL c (j:Int) (places c).length).length≤(places c).length:=by
     unfold sinksL;rw[jv];refine Jd (List.length_filter_le _ _) ?_;rw[List.length_range];exact jf _
    omega
   refine EvQ.tt (qp (by omega)) (EvQ.bindE (qkJ g.sm) (EvQ.bind (qxb (by omega) p b) ?_));rintro⟨P,N,O⟩ ⟨v,b⟩;exact EvQ.bindN (qb5 (by omega)) (ih (j+1) _ _ _ b (by omega) (by rw[jg,jh];omega) (qbz f v))
 refine EvQ.bind (i c.Am.length 0 [] F H b (by omega) Z (fun _ h=>by cases h)) ?_;rintro⟨Q,K,L,M⟩ ⟨⟨l1,t⟩,b⟩;exact EvQ.done ⟨⟨r,g,l1,t⟩,b⟩
structure BlkO (b:qe):Prop where
 ok:qkd b
 sm:smallD b.Aa
theorem qti (g:CodeOk code)(h:SrcI code a s):EvQ (fun n=>qh2 n ⟨code,a,s⟩) (fun o=>BlkO o.1∧SrcI code o.2.1 o.2.2):=by
 unfold qh2;refine EvQ.bind (qal 3 g h) ?_;rintro⟨X,Y,i3⟩ ⟨_,d⟩;refine EvQ.bind (qm9 (by decide) (by decide) g d) ?_;rintro⟨r1,i4,i5⟩ ⟨b,d⟩;dsimp only at b d ⊢;have D:1≤r1.Af.length:=by rw[b.wl];exact b.des.n1
 have F:r1.Af.length≤30:=by rw[b.wl];exact b.des.sm.nn
 refine EvQ.bind (qal _ g d) ?_;rintro⟨p,i7,i8⟩ ⟨⟨⟨O,r⟩,_⟩,d⟩;dsimp only at O r d ⊢;have q2:=r (by omega);obtain⟨k,rfl⟩:∃ k:Nat,p=(k:Int):=⟨p.toNat,by omega⟩;have i:k<r1.Af.length:=by omega
 have c:=b.wi _ (jo i);have W:∀ {y:qam},qom y→BlkO ⟨r1.Ar,r1.Aa,setS r1.Af (k:Int) y⟩:=fun {y} h=>⟨⟨b.lib,b.des.ok,⟨by show(setS _ _ _).length≤_;rw[qa8];omega,qiC (fun y c=>(b.wi y c).ok) h⟩⟩,b.des.sm⟩;have z:∀ x:Int,-1000≤x→x≤1000→okI x:=fun x Q R=>qaD (by omega) (by omega);have S:=c.p1;have T:=c.r1;have u:=c.c1;have B:=c.s1;refine EvQ.bind (qal 20 g d) ?_;rintro⟨i9,H,I⟩ ⟨_,d⟩;dsimp only at d ⊢;refine EvQ.bif (fun _=>?_) (fun _=>EvQ.bif (fun _=>?_) (fun _=>EvQ.bif (fun _=>?_) (fun _=>EvQ.bif (fun _=>?_) (fun _=>EvQ.bif (fun _=>?_) (fun _=>EvQ.bif (fun _=>?_) (fun _=>EvQ.done ⟨⟨b.ok,b.des.sm⟩,d⟩))))))
 ·have e:subS r1.Af 1 (r1.Af.length:Int)=V (r1.Af.drop 1):=by
   unfold subS;rw[if_pos (by omega)];simp
  refine EvQ.bindN e (EvQ.done ⟨⟨⟨b.lib,b.des.ok,⟨by show(r1.Af.drop 1).length≤_;rw[List.length_drop];omega,fun y c=>(b.wi y (List.mem_of_mem_drop c)).ok⟩⟩,b.des.sm⟩,d⟩)
 ·refine EvQ.bindN (qaZ i) (EvQ.bindE (qpI (by omega)) (EvQ.bindN (qb5 (by omega)) (EvQ.done ⟨W ⟨c.ok.Ak,c.ok.Bw,c.ok.Br,⟨by show(_++_:List Int).length≤_;rw[jg,jh];omega,qbz c.ok.Bl.2 (z _ (by decide) (by decide))⟩⟩,d⟩)))
 ·refine EvQ.bindN (qaZ i) (EvQ.bindN (qaZ (j:=0) (show 0<r1.Af[k].Bw.length by omega)) (EvQ.done ⟨W ⟨c.ok.Ak,⟨by show(setS _ _ _).length≤_;rw[qa8];exact c.ok.Bw.1,qiC c.ok.Bw.2 (z _ (by decide) (by decide))⟩,c.ok.Br,c.ok.Bl⟩,d⟩))
 ·refine EvQ.bindN (qaZ i) (EvQ.bind (qal 3 g d) ?_);rintro⟨f,J,K⟩ ⟨⟨⟨P,t⟩,_⟩,d⟩;dsimp only at P t d ⊢;have t2:=t (by decide);have:f=0∨f=1∨f=2:=by omega
  have C:∃ v:Int,idx ([(-1),500,501]:List Int) f=V v∧okI v:=by
   rcases this with rfl|rfl|rfl
   ·exact⟨_,rfl,z _ (by decide) (by decide)⟩
   ·exact⟨_,rfl,z _ (by decide) (by decide)⟩
   ·exact⟨_,rfl,z _ (by decide) (by decide)⟩
  obtain⟨v,l,m⟩:=C;exact EvQ.bindN l (EvQ.bindN (qaZ (j:=0) (show 0<r1.Af[k].Br.length by omega)) (EvQ.done ⟨W ⟨c.ok.Ak,c.ok.Bw,⟨by show(setS _ _ _).length≤_;rw[qa8];exact c.ok.Br.1,qiC c.ok.Br.2 m⟩,c.ok.Bl⟩,d⟩))
 ·refine EvQ.bindN (qaZ i) (EvQ.bind (qal 5 g d) ?_);rintro⟨L,M,N⟩ ⟨_,d⟩;have e:W64 ((r1.Af[k].Ak.length:Int)-1)=((r1.Af[k].Ak.length-1:Nat):Int):=by rw[qR (by omega) (by omega)];omega
  dsimp only;rw[e];exact EvQ.bindN (qaZ (show r1.Af[k].Ak.length-1<r1.Af[k].Ak.length by omega)) (EvQ.done ⟨W ⟨⟨by show(setS _ _ _).length≤_;rw[qa8];exact c.ok.Ak.1,qiC c.ok.Ak.2 (qaW _)⟩,c.ok.Bw,c.ok.Br,c.ok.Bl⟩,d⟩)
 ·have A:=b.des.p1;refine EvQ.bindN (qaZ (j:=0) (show 0<r1.Aa.Ai.length by omega)) (EvQ.done ⟨⟨⟨b.lib,⟨b.des.ok.Ab,b.des.ok.Am,⟨by show(setS _ _ _).length≤_;rw[qa8];exact b.des.ok.Ai.1,qiC b.des.ok.Ai.2 ⟨(b.des.ok.Ai.2 _ (jo _)).Bi,z 3 (by decide) (by decide),(b.des.ok.Ai.2 _ (jo _)).Cb⟩⟩⟩,b.ok.Af⟩,⟨b.des.sm.ni,b.des.sm.nn,by show(setS _ _ _).length≤_;rw[qa8];exact b.des.sm.np,b.des.sm.nx⟩⟩,d⟩)
end

def sumZ (f:Nat→Int):Nat→Int
 | 0=>0
 | n+1=>sumZ f n+f n
theorem qs8 {f g:Nat→Int}{n:Nat}(h:∀ u,u<n→f u=g u):sumZ f n=sumZ g n:=by
 induction n with
 | zero=>rfl
 | succ n ih=>unfold sumZ;rw[ih (fun u a=>h u (by omega)),h n (by omega)]
theorem qsw {f g:Nat→Int}{a n:Nat}(d:a<n)(h:∀ u,u<n→u ≠ a→f u=g u):sumZ f n=sumZ g n+(f a-g a):=by
 induction n with
 | zero=>omega
 | succ n ih=>
  unfold sumZ;by_cases b:a=n
  ·subst b;rw[qs8 (fun u c=>h u (by omega) (by omega))];omega
  ·rw[ih (by omega) (fun u c=>h u (by omega)),h n (by omega) (by omega)];omega
theorem qv7 {f:Nat→Int}{n:Nat}(h:∀ u,u<n→0≤f u):0≤sumZ f n:=by
 induction n with
 | zero=>exact jU _
 | succ n ih=>unfold sumZ;have:=ih (fun u a=>h u (by omega));have:=h n (by omega);omega
theorem qrg {f:Nat→Int}{a n:Nat}(h:∀ u,u<n→0≤f u)(d:a<n):f a≤sumZ f n:=by
 induction n with
 | zero=>omega
 | succ n ih=>
  unfold sumZ;by_cases b:a=n
  ·subst b;have:=qv7 (fun u (c:u<a)=>h u (by omega));omega
  ·have:=ih (fun u c=>h u (by omega)) (by omega);have:=h n (by omega);omega
theorem qvR {f:Nat→Int}{n:Nat}{c:Int}(h:∀ u,u<n→f u≤c):sumZ f n≤n*c:=by
 induction n with
 | zero=>simp[sumZ]
 | succ n ih=>
  unfold sumZ;have:=ih (fun u a=>h u (by omega));have:=h n (by omega);rw[Int.natCast_succ,Int.add_mul];omega
def pinCap (b:qe)(p:Tplace):Int:=bif decide (p.instance_<0) then 0 else(gt (cellAt b p.instance_).Bh p.pin.toNat).Br
def capJ (b:qe)(j:Nat):Int:=pinCap b (gt (places b.Aa) j)
theorem qu5 {b:qe}(h:blockB b=true){j:Nat}(d:j<(places b.Aa).length){n:Nat}:qgT n b.Aa b.Ar (gt (places b.Aa) j)=V (capJ b j):=by
 have c:=qay h;unfold capJ pinCap;rcases qkM d with⟨i,k,hi,hk,_,e⟩|⟨i,hi,_,e⟩
 ·rw[e];obtain⟨⟨a,c1⟩,f,_⟩:=qhq c hi;unfold place1 cellAt;simp only[qgT,show decide ((i:Int)<0)=false by simp,cond_false,qz hi,jd,qdW a c1,jp,qz (show k<(gt b.Ar.As (gt b.Aa.Ab i).Bv.toNat).Bh.length by omega)]
 ·rw[e];rfl
theorem quM {b:qe}(h:blockB b=true){j:Nat}(f:j<(places b.Aa).length):0≤capJ b j∧capJ b j≤500:=by
 have d:=qay h;unfold capJ pinCap;rcases qkM f with⟨i,k,hi,hk,_,e⟩|⟨i,hi,_,e⟩
 ·rw[e];obtain⟨⟨g,c1⟩,l,c⟩:=qhq d hi;unfold place1 cellAt;simp only[show decide ((i:Int)<0)=false by simp,cond_false,jp];have a:=qje c;unfold pinsB at a;rw[je,qah] at a;have:=a.1 k (by omega);unfold pinB at this;cases hl:decide (k+1=(gt b.Ar.As (gt b.Aa.Ab i).Bv.toNat).Bh.length)
  ·rw[hl] at this;simp only[cond_false,je,qbb] at this;exact this.2
  ·rw[hl] at this;simp only[cond_true,je,beq_iff_eq] at this;omega
 ·rw[e];exact⟨jU _,show(0:Int)≤500 by omega⟩
def skL (b:qe)(i:Nat):List Int:=sinksL b.Aa (i:Int) (places b.Aa).length
def addSink (b:qe)(w:qam)(sk:List Int)(t:List Int)(j:Nat):List Int:=setS t (at0 w.Bl j) (W64 (gt t (at0 w.Bl j).toNat+capJ b (at0 sk j).toNat))
def ldA (b:qe)(w:qam)(sk:List Int):Nat→List Int
 | 0=>w.Br
 | j+1=>addSink b w sk (ldA b w sk j) j
def addUp (w:qam)(t:List Int)(j:Nat):List Int:=setS t (at0 w.Ak j) (W64 (gt t (at0 w.Ak j).toNat+gt t j))
def ldB (w:qam):Nat→List Int→List Int
 | 0,t=>t
 | j+1,t=>ldB w j (addUp w t (j+1))
def loadsL (b:qe)(i:Nat):List Int:=ldB (gt b.Af i) ((gt b.Af i).Ak.length-1) (ldA b (gt b.Af i) (skL b i) (skL b i).length)
theorem qnX {b:qe}{w:qam}{sk:List Int}{j:Nat}:(ldA b w sk j).length=w.Br.length:=by
 induction j with
 | zero=>rfl
 | succ j ih=>unfold ldA addSink;rw[qa8,ih]
theorem qwv {w:qam}{j:Nat}{t:List Int}:(ldB w j t).length=t.length:=by
 induction j generalizing t with
 | zero=>rfl
 | succ j ih=>unfold ldB addUp;rw[ih,qa8]
theorem qlN {b:qe}(h:blockB b=true){i:Nat}(hi:i<b.Af.length):(loadsL b i).length=(gt b.Af i).Ak.length:=by
 unfold loadsL;rw[qwv,qnX,(qbK h hi).cap]
theorem qhu {b:qe}(h:blockB b=true){i:Nat}:(skL b i).length≤78:=by
 have a:=qaO (qag (qay h));unfold skL;rw[qjf];have:cntP (snkQ b.Aa (i:Int)) (places b.Aa).length≤(places b.Aa).length:=qgp;omega
theorem qnC {b:qe}{i j:Nat}(a:j<(skL b i).length):∃ y:Nat,y<(places b.Aa).length∧at0 (skL b i) j=(y:Int)∧snkQ b.Aa (i:Int) y=true:=by
 obtain⟨y,c,d,f⟩:=quh a;exact⟨y,c,by have:=d;rw[show(sinksL b.Aa (i:Int) (places b.Aa).length)=skL b i from rfl,qao a] at this;exact Option.some.inj this,f⟩
theorem qnP {b:qe}(h:blockB b=true){i:Nat}(hi:i<b.Af.length):Ev (fun n=>qdT n b (i:Int)) (loadsL b i):=by
 have c:=qbK h hi;have m:=qag (qay h);have u:=c.lo;have r:=c.hi;have d:=c.cap;have x:=qhu h (i:=i);have e1:Ev (fun n=>qbB b (gt b.Af i) (places b.Aa) (skL b i) n (gt b.Af i).Br 0) (ldA b (gt b.Af i) (skL b i) (skL b i).length,((skL b i).length:Int)):=by
  refine loopF (Lf:=qbB b (gt b.Af i) (places b.Aa) (skL b i)) (S:=ldA b (gt b.Af i) (skL b i)) (len:=(skL b i).length) (fun n=>?_) (fun j a X l=>?_)
  ·simp only[qbB,qq (jf _),cond_false]
  ·obtain⟨y,o,k,_⟩:=qnC a;have f:j<(gt b.Af i).Bl.length:=by rw[c.snk];exact a
   have g:=c.sin j f;have s:=qnX (b:=b) (w:=gt b.Af i) (sk:=skL b i) (j:=j);simp only[qbB,qp a,cond_true,qao a,k,jd,qao f,qdW g.1 (show at0 (gt b.Af i).Bl j<((ldA b (gt b.Af i) (skL b i) j).length:Int) by omega),qz o,qu5 h o,wS j];have:ldA b (gt b.Af i) (skL b i) (j+1)=setS (ldA b (gt b.Af i) (skL b i) j) (at0 (gt b.Af i).Bl j) (W64 (gt (ldA b (gt b.Af i) (skL b i) j) (at0 (gt b.Af i).Bl j).toNat+capJ b y)):=by
    show addSink _ _ _ _ _=_;unfold addSink;rw[k,jp]
   rw[this] at l;exact l
 have p:∀ j t,t.length=(gt b.Af i).Ak.length→j<(gt b.Af i).Ak.length→Ev (fun n=>qbt (gt b.Af i) n t (j:Int)) (ldB (gt b.Af i) j t,0):=by
  intro j
  induction j with
  | zero=>
   intro t _ _;refine Ev.succ ?_;show Ev (fun n=>qbt (gt b.Af i) (n+1) t 0) _;unfold qbt;exact Ev.ff Z .done
  | succ j ih=>
   intro t z a;have v:=c.par (j+1) (by omega) a;refine Ev.succ ?_;simp only[qbt,show decide (((j+1:Nat):Int) > 0)=true from decide_eq_true (by omega),cond_true,qao a,jd,qdW v.1 (show at0 (gt b.Af i).Ak (j+1)<(t.length:Int) by omega),qz (show j+1<t.length by omega),show((j+1:Nat):Int)-1=(j:Int) by omega,qR (show -9223372036854775808≤(j:Int) by omega) (by omega)];exact ih _ (by rw[qa8];exact z) (by omega)
 unfold qdT qh9;rw[qz hi];simp only[jd,qcT (show([]:List Int).length+(gt b.Af i).Br.length≤2147483648 by simp;omega),List.nil_append];refine Ev.bind (qnb m) (Ev.bind (qqG m) (Ev.bind e1 ?_));rw[qfF (show(gt b.Af i).Br.length≤9223372036854775807 by omega),show((gt b.Af i).Br.length:Int)-1=(((gt b.Af i).Ak.length-1:Nat):Int) by omega];exact Ev.bind (p _ _ (by rw[qnX];exact d) (by omega)) .done
structure LdOk (t:List Int)(L:Nat)(S:Int):Prop where
 len:t.length=L
 nn:∀ k,k<L→0≤gt t k
 sum:sumZ (gt t) L≤S
theorem qlU {t:List Int}{a:Nat}{y:Int}{k:Nat}(b:a<t.length):gt (setS t (a:Int) y) k=if k=a then y else gt t k:=by
 unfold setS;rw[jp];by_cases h:k=a
 ·subst h;rw[if_pos Z,qpc b]
 ·rw[if_neg h,qrb h]
theorem qwP {b:qe}(h:blockB b=true){i:Nat}(hi:i<b.Af.length)(m:∀ k,k<(gt b.Af i).Br.length→0≤gt (gt b.Af i).Br k∧gt (gt b.Af i).Br k≤500) :
  ∀ j,j≤(skL b i).length→LdOk (ldA b (gt b.Af i) (skL b i) j) (gt b.Af i).Ak.length (4000+500*j):=by
 have p:=qbK h hi;have z:=p.hi;have l:=p.cap;have A:=qhu h (i:=i);intro j
 induction j with
 | zero=>
  intro _;refine⟨l,fun k t=>(m k (by omega)).1,?_⟩;have:=qvR (f:=gt (gt b.Af i).Br) (n:=(gt b.Af i).Ak.length) (c:=500) (fun u H=>(m u (by omega)).2);show sumZ (gt (gt b.Af i).Br) _≤_;omega
 | succ j ih=>
  intro D;obtain⟨l1,n1,s1⟩:=ih (by omega);obtain⟨y,B,v,_⟩:=qnC (show j<(skL b i).length by omega);have C:=quM h B;have o:=p.sin j (by rw[p.snk];exact(show j<(skL b i).length by omega));obtain⟨a,s⟩:∃ a:Nat,at0 (gt b.Af i).Bl j=(a:Int):=⟨_,qcE o.1⟩;rw[s] at o;have d:a<(gt b.Af i).Ak.length:=by omega
  have x:=qrg n1 d;have F:=n1 a d;have e:ldA b (gt b.Af i) (skL b i) (j+1)=setS (ldA b (gt b.Af i) (skL b i) j) (a:Int) (gt (ldA b (gt b.Af i) (skL b i) j) a+capJ b y):=by
   show addSink _ _ _ _ _=_;unfold addSink;rw[v,s,jp,jp,qR (by omega) (by omega)]
  rw[e];refine⟨by rw[qa8];exact l1,fun k t=>?_,?_⟩
  ·rw[qlU (by omega)];split
   ·omega
   ·exact n1 k t
  ·rw[qsw (g:=gt (ldA b (gt b.Af i) (skL b i) j)) d (fun u _ r=>by rw[qlU (by omega),if_neg r]),qlU (by omega),if_pos Z];omega
theorem qwW {b:qe}(h:blockB b=true){i:Nat}(hi:i<b.Af.length){S:Int}(A:S≤1000000000):∀ j t,j<(gt b.Af i).Ak.length→t.length=(gt b.Af i).Ak.length→(∀ k,k<t.length→0≤gt t k∧gt t k≤S)→sumZ (gt t) (j+1)≤S →
  ∀ k,k<t.length→0≤gt (ldB (gt b.Af i) j t) k∧gt (ldB (gt b.Af i) j t) k≤S:=by
 have x:=qbK h hi;intro j
 induction j with
 | zero=>intro t _ _ c _;exact c
 | succ j ih=>
  intro t s v c r;have p:=x.par (j+1) (by omega) s;obtain⟨a,o⟩:∃ a:Nat,at0 (gt b.Af i).Ak (j+1)=(a:Int):=⟨_,qcE p.1⟩;rw[o] at p;have y:=c a (by omega);have z:=c (j+1) (by omega);have e:addUp (gt b.Af i) t (j+1)=setS t (a:Int) (gt t a+gt t (j+1)):=by
   unfold addUp;rw[o,jp,qR (by omega) (by omega)]
  have n:sumZ (gt (setS t (a:Int) (gt t a+gt t (j+1)))) (j+1)≤S:=by
   rw[qsw (g:=gt t) (a:=a) (by omega) (fun u _ l=>by rw[qlU (by omega),if_neg l]),qlU (by omega),if_pos Z];have:sumZ (gt t) (j+1+1)=sumZ (gt t) (j+1)+gt t (j+1):=rfl;omega
  unfold ldB;rw[e];have:=ih (setS t (a:Int) (gt t a+gt t (j+1))) (by omega) (by rw[qa8];exact v) (fun k f=>by
   rw[qa8] at f;have m:∀ u,u<j+1→0≤gt (setS t (a:Int) (gt t a+gt t (j+1))) u:=fun u B=>by
    rw[qlU (by omega)];split
    ·omega
    ·exact(c u (by omega)).1
   have d:=qrg m (show a<j+1 by omega);rw[qlU (by omega)] at d ⊢;rw[if_pos Z] at d;split
   ·omega
   ·exact c k f) n
  rw[qa8] at this;exact this
theorem qpe {b:qe}(h:blockB b=true){i:Nat}(hi:i<b.Af.length):(∀ k,k<(gt b.Af i).Br.length→0≤gt (gt b.Af i).Br k∧gt (gt b.Af i).Br k≤500)∧(∀ k,k<(gt b.Af i).Bw.length→0≤at0 (gt b.Af i).Bw k∧at0 (gt b.Af i).Bw k≤1000):=by
 unfold blockB at h;rw[je,qah] at h;have:=h.2 i hi;unfold wireB lenB at this;simp only[je,decide_eq_true_eq,beq_iff_eq] at this;obtain⟨_,_,_,_,f,c,_⟩:=this;rw[qg2 (d:=0),qah] at f c;exact⟨fun k a=>by have:=c k a;rw[qbb] at this;exact this,fun k a=>by have:=f k a;rw[qbb] at this;exact this⟩
theorem qtj {b:qe}(h:blockB b=true){i:Nat}(hi:i<b.Af.length){k:Nat}(c:k<(gt b.Af i).Ak.length):0≤gt (loadsL b i) k∧gt (loadsL b i) k≤43000:=by
 have g:=qbK h hi;have d:=g.lo;have f:=qhu h (i:=i);obtain⟨l1,n1,s1⟩:=qwP h hi (qpe h hi).1 (skL b i).length (jf _);have:=qwW h hi (S:=43000) (by omega) ((gt b.Af i).Ak.length-1) (ldA b (gt b.Af i) (skL b i) (skL b i).length) (by omega) l1 (fun k c=>by
  have a:=n1 k (by omega);have l:=qrg n1 (show k<(gt b.Af i).Ak.length by omega);exact⟨a,by omega⟩) (by rw[show(gt b.Af i).Ak.length-1+1=(gt b.Af i).Ak.length by omega];omega) k (by omega)
 exact this
def dlL (w:qam)(ld:List Int):Nat→List Int
 | 0=>[0]
 | k+1=>dlL w ld k++[W64 (gt (dlL w ld k) (at0 w.Ak (k+1)).toNat+W64 (at0 w.Bw (k+1)*gt ld (k+1)))]
theorem qoc {w:qam}{ld:List Int}{k:Nat}:(dlL w ld k).length=k+1:=by
 induction k with
 | zero=>rfl
 | succ k ih=>unfold dlL;rw[jg,ih];rfl
def delaysL (b:qe)(i:Nat):List Int:=dlL (gt b.Af i) (loadsL b i) ((gt b.Af i).Ak.length-1)
def exactL (b:qe)(i:Nat):List Int:=(gt b.Af i).Bl.map fun s=>gt (delaysL b i) s.toNat
theorem qmC {b:qe}(h:blockB b=true){i:Nat}(hi:i<b.Af.length):(delaysL b i).length=(gt b.Af i).Ak.length:=by
 unfold delaysL;rw[qoc];have:=(qbK h hi).lo;omega
theorem qwk {w:qam}{ld:List Int}{k m:Nat}(b:k+1<m)(c:at0 w.Ak (k+1)<((k+1:Nat):Int))(_:0≤at0 w.Ak (k+1)) :
  setS (dlL w ld k++List.replicate (m-(k+1)) 0) ((k+1:Nat):Int) (W64 (gt (dlL w ld k++List.replicate (m-(k+1)) 0) (at0 w.Ak (k+1)).toNat+W64 (at0 w.Bw (k+1)*gt ld (k+1))))=dlL w ld (k+1)++List.replicate (m-(k+1+1)) 0:=by
 have a:=qoc (w:=w) (ld:=ld) (k:=k);have e1:gt (dlL w ld k++List.replicate (m-(k+1)) 0) (at0 w.Ak (k+1)).toNat=gt (dlL w ld k) (at0 w.Ak (k+1)).toNat:=by
  rw[qlx,if_pos (by omega)]
 rw[e1];unfold setS;rw[jp,List.set_append,if_neg (by omega),a,Nat.sub_self,show m-(k+1)=(m-(k+1+1))+1 by omega,List.replicate_succ,List.set_cons_zero];show _=(dlL w ld k++[_])++_;rw[jt]
 rfl
theorem qqz {b:qe}(h:blockB b=true){i:Nat}(hi:i<b.Af.length):Ev (fun n=>qfe n b (i:Int)) (delaysL b i):=by
 have f:=qbK h hi;have s:=f.lo;have p:=f.hi;have o:=f.res;have l1:=qlN h hi;have l:mkS ((loadsL b i).length:Int) (0:Int)=V (List.replicate (loadsL b i).length 0):=qwp (by omega);have c:∀ d k,k+1+d=(gt b.Af i).Ak.length→Ev (fun n=>qbU (gt b.Af i) (loadsL b i) (List.replicate (loadsL b i).length 0) n (dlL (gt b.Af i) (loadsL b i) k++List.replicate ((gt b.Af i).Ak.length-(k+1)) 0) ((k+1:Nat):Int)) (delaysL b i,((loadsL b i).length:Int)):=by
  intro d
  induction d with
  | zero=>
   intro k g;refine Ev.succ ?_;simp only[qbU,jG,qq (show(loadsL b i).length≤k+1 by omega),cond_false];refine Ev.now ?_;rw[show(gt b.Af i).Ak.length-(k+1)=0 by omega,List.replicate_zero,Ja,l1,←g];unfold delaysL;rw[←g]
   rfl
  | succ d ih=>
   intro k g;have m:=f.par (k+1) (by omega) (by omega);have a:=qoc (w:=gt b.Af i) (ld:=loadsL b i) (k:=k);have r:(dlL (gt b.Af i) (loadsL b i) k++List.replicate ((gt b.Af i).Ak.length-(k+1)) 0).length=(gt b.Af i).Ak.length:=by rw[jg,jG,a];omega
   refine Ev.succ ?_;simp only[qbU,jG,qp (show k+1<(loadsL b i).length by omega),cond_true,qao (show k+1<(gt b.Af i).Ak.length by omega),jd,qdW m.1 (show at0 (gt b.Af i).Ak (k+1)<((dlL (gt b.Af i) (loadsL b i) k++List.replicate ((gt b.Af i).Ak.length-(k+1)) 0).length:Int) by omega),
    qao (show k+1<(gt b.Af i).Bw.length by omega),qz (show k+1<(loadsL b i).length by omega),qz (show k+1<(dlL (gt b.Af i) (loadsL b i) k++List.replicate ((gt b.Af i).Ak.length-(k+1)) 0).length by omega),qhQ (show k+1<9223372036854775807 by omega)]
   rw[qwk (by omega) m.2 m.1];exact ih (k+1) (by omega)
 unfold qfe;rw[qz hi];simp only[jd];refine Ev.bind (qnP h hi) ?_;rw[l];simp only[jd];have:=c ((gt b.Af i).Ak.length-1) 0 (by omega);have e0:dlL (gt b.Af i) (loadsL b i) 0++List.replicate ((gt b.Af i).Ak.length-(0+1)) 0=List.replicate (loadsL b i).length 0:=by
  rw[l1];show[(0:Int)]++_=_;rw[show(gt b.Af i).Ak.length=((gt b.Af i).Ak.length-(0+1))+1 by omega,List.replicate_succ]
  rfl
 rw[e0] at this;exact Ev.bind this .done
theorem qql {b:qe}(h:blockB b=true){i:Nat}(hi:i<b.Af.length):Ev (fun n=>qeB n b (i:Int)) (exactL b i):=by
 have d:=qbK h hi;have l:(gt b.Af i).Bl.length≤78:=by rw[d.snk];exact qhu h
 have k:=qmC h hi;have f:Ev (fun n=>qba (delaysL b i) (gt b.Af i) n ([]:List Int) 0) (exactL b i,((gt b.Af i).Bl.length:Int)):=by
  refine loopF (Lf:=qba (delaysL b i) (gt b.Af i)) (S:=fun j=>((gt b.Af i).Bl.take j).map fun s=>gt (delaysL b i) s.toNat) (len:=(gt b.Af i).Bl.length) (fun n=>?_) (fun j a X g=>?_)
  ·simp only[qba,qq (jf _),cond_false,jJ];rfl
  ·have c:=d.sin j a;simp only[qba,qp a,cond_true,qao a,jd,qdW c.1 (show at0 (gt b.Af i).Bl j<((delaysL b i).length:Int) by omega),wS j];rw[qcT (by rw[jv,jM,jh];omega)];have:((gt b.Af i).Bl.take j).map (fun s=>gt (delaysL b i) s.toNat)++[gt (delaysL b i) (at0 (gt b.Af i).Bl j).toNat]=((gt b.Af i).Bl.take (j+1)).map fun s=>gt (delaysL b i) s.toNat:=by
    rw[jz a,jW,qkp a];rfl
   rw[this];exact g
 unfold qeB;refine Ev.bind (qqz h hi) ?_;rw[qz hi];simp only[jd];exact Ev.bind f .done
theorem qsx {b:qe}(h:blockB b=true){i:Nat}(hi:i<b.Af.length):∀ k,k<(gt b.Af i).Ak.length→∀ m,m≤k→0≤gt (dlL (gt b.Af i) (loadsL b i) k) m∧gt (dlL (gt b.Af i) (loadsL b i) k) m≤43000000*k:=by
 have l:=qbK h hi;have t:=l.hi;have r:=l.res;intro k
 induction k with
 | zero=>
  intro _ m u;have f:m=0:=by omega
  subst f;exact⟨jU _,jU _⟩
 | succ k ih=>
  intro o m u;have c:=qoc (w:=gt b.Af i) (ld:=loadsL b i) (k:=k);unfold dlL;rw[qlx];split
  ·have:=ih (by omega) m (by omega);omega
  ·have g:m=k+1:=by omega
   subst g;rw[c,Nat.sub_self];show 0≤W64 _∧W64 _≤_;have p:=l.par (k+1) (by omega) o;obtain⟨a,s⟩:∃ a:Nat,at0 (gt b.Af i).Ak (k+1)=(a:Int):=⟨_,qcE p.1⟩;rw[s] at p ⊢;rw[jp];have v:=ih (by omega) a (by omega);have n:=(qpe h hi).2 (k+1) (by omega);have d:=qtj h hi o;have x:at0 (gt b.Af i).Bw (k+1)*gt (loadsL b i) (k+1)≤1000*43000:=jV n.2 d.2 d.1 (by omega);have y:0≤at0 (gt b.Af i).Bw (k+1)*gt (loadsL b i) (k+1):=jS n.1 d.1;rw[wO (at0 (gt b.Af i).Bw (k+1)*gt (loadsL b i) (k+1)),qR (by omega) (by omega)];omega
theorem qnL {b:qe}(h:blockB b=true){i:Nat}(hi:i<b.Af.length){j:Nat}(a:j<(gt b.Af i).Bl.length):0≤gt (exactL b i) j∧gt (exactL b i) j≤344000000:=by
 have c:=qbK h hi;have d:=c.hi;have f:=c.sin j a;have e:gt (exactL b i) j=gt (delaysL b i) (at0 (gt b.Af i).Bl j).toNat:=by
  unfold exactL;rw[qeo (by rw[jv];exact a),List.getElem_map,qkp a]
 rw[e];have:=qsx h hi ((gt b.Af i).Ak.length-1) (by omega) (at0 (gt b.Af i).Bl j).toNat (by omega);show 0≤gt (dlL _ _ _) _∧gt (dlL _ _ _) _≤_;omega

def pre {α:Type}(f:Nat→α)(j:Nat):List α:=(List.range j).map f
theorem qj3 {α:Type}{f:Nat→α}{j:Nat}:(pre f j).length=j:=by simp[pre]
theorem qu2 {α:Type}{f:Nat→α}{j:Nat}:pre f j++[f j]=pre f (j+1):=by unfold pre;rw[List.range_succ,jW];rfl
theorem qoh {α:Type}{f:Nat→α}{j:Nat}(h:j≤1048576):appS (pre f j) [f j]=V (pre f (j+1)):=by
 rw[qcT (by rw[qj3,jh];omega),qu2]
theorem qvx {α:Type}[Inhabited α]{f:Nat→α}{n j:Nat}(h:j<n):gt (pre f n) j=f j:=qp8 h
theorem qfY {α:Type}[Inhabited α]{f:Nat→α}{n j:Nat}(h:j<n):idx (pre f n) (j:Int)=V (f j):=by rw[qz (by rw[qj3];exact h),qvx h]
theorem qhp {α:Type}{f g:Nat→α}{n:Nat}(h:∀ k,k<n→f k=g k):pre f n=pre g n:=List.map_congr_left fun k a=>h k (List.mem_range.1 a)
theorem qn6 {α:Type}{f:Nat→α}{n k:Nat}{v:α}:setS (pre f n) (k:Int) v=pre (fun i=>if i=k then v else f i) n:=by
 unfold setS pre;rw[jp];refine Jc (by simp) fun i a b=>?_;rw[List.getElem_set];by_cases h:k=i
 ·subst h;simp
 ·rw[if_neg h];simp[show ¬ i=k from fun e=>h e.symm]
def fm {α:Type}(f:Nat→List α)(j:Nat):List α:=(List.range j).flatMap f
theorem qj1 {α:Type}{f:Nat→List α}{j:Nat}:fm f (j+1)=fm f j++f j:=by unfold fm;rw[List.range_succ,List.flatMap_append];simp
theorem qoQ {α:Type}{f:Nat→List α}{j c:Nat}(h:∀ i,i<j→(f i).length≤c):(fm f j).length≤c*j:=by
 induction j with
 | zero=>exact jf _
 | succ j ih=>rw[qj1,jg];have:=ih (fun i hi=>h i (by omega));have:=h j (by omega);rw[Nat.mul_succ];omega
def transL (a:qas):List qW:=
 bif (a.Bf==2) then[⟨0,0⟩,⟨0,1⟩] else bif (a.Bf==3) then[⟨1,0⟩,⟨1,1⟩] else bif (a.Bf != 1) then[] else
 bif (a.Bp==1) then[⟨0,0⟩,⟨1,1⟩] else bif (a.Bp==2) then[⟨0,1⟩,⟨1,0⟩] else[⟨0,0⟩,⟨0,1⟩,⟨1,0⟩,⟨1,1⟩]
theorem qtJ {a:qas}{n:Nat}:qfH n a=V (transL a):=by
 unfold qfH transL;cases (a.Bf==2)
 ·cases (a.Bf==3)
  ·cases (a.Bf != 1)
   ·cases (a.Bp==1)
    ·cases (a.Bp==2)<;>rfl
    ·rfl
   ·rfl
  ·rfl
 ·rfl
theorem qp2 {a:qas}:(transL a).length≤4:=by
 unfold transL;cases (a.Bf==2)
 ·cases (a.Bf==3)
  ·cases (a.Bf != 1)
   ·cases (a.Bp==1)
    ·cases (a.Bp==2)<;>simp
    ·simp
   ·simp
  ·simp
 ·simp
def b01 (x:Int):Prop:=x=0∨x=1
theorem qqL {a:qas}{t:qW}(h:t ∈ transL a):b01 t.e0∧b01 t.e1:=by
 have b:∀ t ∈ [(⟨0,0⟩:qW),⟨0,1⟩,⟨1,0⟩,⟨1,1⟩],b01 t.e0∧b01 t.e1:=by
  intro t c;simp only[jI,jy,or_false] at c;rcases c with rfl|rfl|rfl|rfl<;>simp[b01]
 refine b t ?_;unfold transL at h;revert h;cases (a.Bf==2)
 ·cases (a.Bf==3)
  ·cases (a.Bf != 1)
   ·cases (a.Bp==1)
    ·cases (a.Bp==2)
     ·exact fun h=>h
     ·intro h;simp at h;rcases h with rfl|rfl<;>simp
    ·intro h;simp at h;rcases h with rfl|rfl<;>simp
   ·intro h;simp at h
  ·intro h;simp at h;rcases h with rfl|rfl<;>simp
 ·intro h;simp at h;rcases h with rfl|rfl<;>simp
def al1 (first:Int)(k:Nat)(a:qas)(t:qW):qr:=⟨2*(first+a.Bk)+t.e0,2*(first+a.To)+t.e1,1,(k:Int)⟩
def arcLs (first:Int)(k:Nat)(a:qas):List qr:=(transL a).map (al1 first k a)
def cellLs (c:qF)(first:Int)(j:Nat):List qr:=fm (fun k=>arcLs first k (gt c.Az k)) j
def instLs (b:qe)(j:Nat):List qr:=fm (fun i=>cellLs (cellAt b (i:Int)) (off b.Aa i:Int) (cellAt b (i:Int)).Az.length) j
theorem qov {first:Int}{k:Nat}{a:qas}:(arcLs first k a).length≤4:=by unfold arcLs;rw[jv];exact qp2
theorem qrn {b:qe}(h:blockB b=true){i:Nat}(hi:i<b.Aa.Ab.length):Ev (fun n=>qfE n b (gt b.Aa.Ab i) (off b.Aa i:Int)) (cellLs (cellAt b (i:Int)) (off b.Aa i:Int) (cellAt b (i:Int)).Az.length):=by
 have u:=qay h;have D:=qag u;obtain⟨⟨z,c1⟩,r,g⟩:=qhq u hi;have B:=qnI g;have s:=(qhc (qje g)).1;have v:off b.Aa i≤78:=by
  have:=qaO D;rw[qg9] at this;have:=qtk (d:=b.Aa) (show i≤b.Aa.Ab.length by omega);omega
 show Ev _ (cellLs (gt b.Ar.As (gt b.Aa.Ab i).Bv.toNat) (off b.Aa i:Int) (gt b.Ar.As (gt b.Aa.Ab i).Bv.toNat).Az.length);generalize hc:gt b.Ar.As (gt b.Aa.Ab i).Bv.toNat=c at r g B s ⊢;have A:Ev (fun n=>qbr (off b.Aa i:Int) c n ([]:List qr) 0) (cellLs c (off b.Aa i:Int) c.Az.length,(c.Az.length:Int)):=by
  refine loopF (Lf:=qbr (off b.Aa i:Int) c) (S:=cellLs c (off b.Aa i:Int)) (len:=c.Az.length) (fun n=>?_) (fun j p X o=>?_)
  ·simp only[qbr,qq (jf _),cond_false]
  ·have H:=qmF g p;have C:(cellLs c (off b.Aa i:Int) j).length≤4*j:=qoQ fun _ _=>qov;simp only[qbr,qp p,cond_true,qz p,jd,qtJ,wS j];have m:Ev (fun n=>qbw (off b.Aa i:Int) (j:Int) (gt c.Az j) (transL (gt c.Az j)) n (cellLs c (off b.Aa i:Int) j) 0) (cellLs c (off b.Aa i:Int) (j+1),((transL (gt c.Az j)).length:Int)):=by
    have F:=qp2 (a:=gt c.Az j);have:=loopF (Lf:=qbw (off b.Aa i:Int) (j:Int) (gt c.Az j) (transL (gt c.Az j))) (S:=fun k=>cellLs c (off b.Aa i:Int) j++((transL (gt c.Az j)).take k).map (al1 (off b.Aa i:Int) j (gt c.Az j))) (len:=(transL (gt c.Az j)).length) (fin:=(cellLs c (off b.Aa i:Int) (j+1),((transL (gt c.Az j)).length:Int))) (fun n=>by
      simp only[qbw,qq (jf _),cond_false,jJ];show V (cellLs c _ j++arcLs _ j _,_)=V (fm _ (j+1),_);rw[qj1];rfl)
     (fun k f X o=>by
      have y:=qqL (a:=gt c.Az j) (t:=gt (transL (gt c.Az j)) k) (by rw[qeo f];exact jo f);have e0:W64 (W64 (2*W64 ((off b.Aa i:Int)+(gt c.Az j).Bk))+(gt (transL (gt c.Az j)) k).e0)=2*((off b.Aa i:Int)+(gt c.Az j).Bk)+(gt (transL (gt c.Az j)) k).e0:=by
       rcases y.1 with e|e<;>rw[e,wO ((off b.Aa i:Int)+(gt c.Az j).Bk),qR (x:=2*((off b.Aa i:Int)+(gt c.Az j).Bk)) (by omega) (by omega),qR (by omega) (by omega)]
      have e1:W64 (W64 (2*W64 ((off b.Aa i:Int)+(gt c.Az j).To))+(gt (transL (gt c.Az j)) k).e1)=2*((off b.Aa i:Int)+(gt c.Az j).To)+(gt (transL (gt c.Az j)) k).e1:=by
       rcases y.2 with e|e<;>rw[e,wO ((off b.Aa i:Int)+(gt c.Az j).To),qR (x:=2*((off b.Aa i:Int)+(gt c.Az j).To)) (by omega) (by omega),qR (by omega) (by omega)]
      simp only[qbw,qp f,cond_true,qz f,jd,e0,e1,wS k];rw[qcT (by rw[jg,jv,jM,jh];omega),jt];have:((transL (gt c.Az j)).take k).map (al1 (off b.Aa i:Int) j (gt c.Az j))++[al1 (off b.Aa i:Int) j (gt c.Az j) (gt (transL (gt c.Az j)) k)]=((transL (gt c.Az j)).take (k+1)).map (al1 (off b.Aa i:Int) j (gt c.Az j)):=qgw f;have l:((transL (gt c.Az j)).take k).map (al1 (off b.Aa i:Int) j (gt c.Az j))++[(⟨2*((off b.Aa i:Int)+(gt c.Az j).Bk)+(gt (transL (gt c.Az j)) k).e0,2*((off b.Aa i:Int)+(gt c.Az j).To)+(gt (transL (gt c.Az j)) k).e1,1,(j:Int)⟩:qr)]=((transL (gt c.Az j)).take (k+1)).map (al1 (off b.Aa i:Int) j (gt c.Az j)):=this;rw[l];exact o)
    simpa using this
   exact Ev.bind m o
 unfold qfE;rw[qdW z c1,hc];simp only[jd];exact Ev.bind A .done
def dvN (d:qh)(k:Nat):Nat:=((List.range (places d).length).find? fun j=>drvQ d (k:Int) j).getD 0
theorem qiH {l:qw}{d:qh}(h:designB l d=true){k:Nat}(f:k<d.Am.length):dvN d k<(places d).length∧drvQ d (k:Int) (dvN d k)=true:=by
 obtain⟨j,b,c,a⟩:=qw3 h (k:=(k:Int)) (by omega) (by omega);unfold dvN;cases hf:(List.range (places d).length).find? fun j=>drvQ d (k:Int) j with
 | none=>
  have:=List.find?_eq_none.1 hf j (List.mem_range.2 b);exact absurd (by unfold drvQ;rw[c,a];simp) this
 | some i=>exact⟨List.mem_range.1 (List.mem_of_find?_eq_some hf),by have:=List.find?_some hf;exact this⟩
theorem qmo {d:qh}{k:Int}{j:Nat}:drvQ d k j=true↔(gt (places d) j).net=k∧(gt (places d) j).drives=true:=by unfold drvQ;simp
theorem quK {l:qw}{d:qh}(h:designB l d=true){k:Nat}(m:k<d.Am.length){j:Nat}(i:j<(places d).length)(n:(gt (places d) j).net=(k:Int))(g:(gt (places d) j).drives=true):dvN d k=j:=by
 obtain⟨a,b⟩:=qiH h m;obtain⟨c,f⟩:=qmo.1 b;exact qrP h a i (by rw[c,n]) f g
def wl1 (a:Nat)(s:Int)(k:Nat):List qr:=[⟨2*(a:Int),2*s,2,(k:Int)⟩,⟨2*(a:Int)+1,2*s+1,2,(k:Int)⟩]
def wlN (b:qe)(i j:Nat):List qr:=fm (fun k=>wl1 (dvN b.Aa i) (at0 (skL b i) k) k) j
def wireLs (b:qe)(j:Nat):List qr:=fm (fun i=>wlN b i (skL b i).length) j
def linksL (b:qe):List qr:=instLs b b.Aa.Ab.length++wireLs b b.Af.length
def load0 (b:qe)(i:Nat):Int:=gt (loadsL b i) 0
def viewE (b:qe)(ex:List Int):Tview:=⟨b,places b.Aa,linksL b,pre (load0 b) b.Af.length,pre (exactL b) b.Af.length,ex⟩
def viewV (b:qe):Tview:=viewE b []
theorem qjd {b:qe}(h:blockB b=true){j:Nat}(d:j≤b.Aa.Ab.length):(instLs b j).length≤32*j:=by
 refine qoQ fun i hi=>?_;obtain⟨_,_,a⟩:=qhq (qay h) (show i<b.Aa.Ab.length by omega);have c:=qnI a;have:(cellLs (cellAt b (i:Int)) (off b.Aa i:Int) (cellAt b (i:Int)).Az.length).length≤4*(cellAt b (i:Int)).Az.length:=qoQ fun _ _=>qov;have e:(cellAt b (i:Int)).Az.length≤8:=c;omega
theorem qrw {b:qe}{i j:Nat}:(wlN b i j).length≤2*j:=qoQ fun _ _=>jf _
theorem qnD {b:qe}(h:blockB b=true){j:Nat}:(wireLs b j).length≤156*j:=by
 refine qoQ fun i _=>?_;have:=qrw (b:=b) (i:=i) (j:=(skL b i).length);have:=qhu h (i:=i);omega
theorem qdN {b:qe}(h:blockB b=true):(linksL b).length≤10000:=by
 have a:=qag (qay h);have c:=a.ni;have d:=a.nn;have f:=qkr h;have g:=qjd h (jf _);have i:=qnD h (j:=b.Af.length);unfold linksL;rw[jg];omega
theorem qsZ {b:qe}(h:blockB b=true):Ev (fun n=>qjY n b) (V (viewV b)):=by
 have r:=qay h;have z:=qag r;have R:=qaO z;have Y:=z.ni;have a3:=z.nn;have hwl:=qkr h;have e1:Ev (fun n=>qea b n ([]:List qr) 0 0) (instLs b b.Aa.Ab.length,(off b.Aa b.Aa.Ab.length:Int),(b.Aa.Ab.length:Int)):=by
  have:=loopF (τ:=List qr×Int) (Lf:=fun n t j=>qea b n t.1 t.2 j) (S:=fun j=>(instLs b j,(off b.Aa j:Int))) (len:=b.Aa.Ab.length) (fin:=(instLs b b.Aa.Ab.length,(off b.Aa b.Aa.Ab.length:Int),(b.Aa.Ab.length:Int))) (fun n=>by simp only[qea,qq (jf _),cond_false])
   (fun j a X m=>by
    have F:=qjd h (show j≤b.Aa.Ab.length by omega);have M:=qjd h (show j+1≤b.Aa.Ab.length by omega);have N:=qke (d:=b.Aa) (i:=j);have a4:off b.Aa (j+1)≤78:=by
     rw[qg9] at R;have:=qtk (d:=b.Aa) (show j+1≤b.Aa.Ab.length by omega);omega
    simp only[qea,qp a,cond_true,qz a,jd,qbF,wS j];refine Ev.bind (qrn h a) ?_;have e:instLs b j++cellLs (cellAt b (j:Int)) (off b.Aa j:Int) (cellAt b (j:Int)).Az.length=instLs b (j+1):=qj1.symm;rw[qcT (by rw[←jg,e];omega),e,qR (by omega) (by omega),show(off b.Aa j:Int)+((gt b.Aa.Ab j).Am.length:Int)=((off b.Aa (j+1):Nat):Int) by omega];exact m)
  exact this
 have I:mkS (b.Af.length:Int) (0:Int)=V (vecI (fun _=>0) b.Af.length):=qq9 (by omega);have J:mkS (b.Af.length:Int) ([]:List Int)=V (pre (fun _=>[]) b.Af.length):=by
  rw[qlJ (by omega)]
  congr 1
  refine Jc (by simp[pre]) fun i u h2=>?_;simp[pre]
 have P:Ev (fun n=>qdr (places b.Aa) n (pre (fun _=>[]) b.Af.length) (vecI (fun _=>0) b.Af.length) 0) (pre (fun i=>skL b i) b.Af.length,vecI (fun k=>(dvN b.Aa k:Int)) b.Af.length,((places b.Aa).length:Int)):=by
  have v:∀ k,k<b.Af.length→dvN b.Aa k<(places b.Aa).length:=fun k o=>(qiH r (by omega)).1;have:=loopF (τ:=List (List Int)×List Int) (Lf:=fun n t j=>qdr (places b.Aa) n t.1 t.2 j) (S:=fun j=>(pre (fun i=>sinksL b.Aa (i:Int) j) b.Af.length,vecI (fun k=>if dvN b.Aa k<j then(dvN b.Aa k:Int) else 0) b.Af.length)) (len:=(places b.Aa).length)
   (fin:=(pre (fun i=>skL b i) b.Af.length,vecI (fun k=>(dvN b.Aa k:Int)) b.Af.length,((places b.Aa).length:Int))) (fun n=>by
    simp only[qdr,qq (jf _),cond_false];rw[qfO (g:=fun k=>(dvN b.Aa k:Int)) (fun k o=>if_pos (v k o))]
    rfl)
   (fun j a X m=>by
    obtain⟨n0,n1⟩:=qlW r a;obtain⟨l,p⟩:∃ l:Nat,(gt (places b.Aa) j).net=(l:Int):=⟨_,qcE n0⟩;have x:l<b.Af.length:=by omega
    simp only[qdr,qp a,cond_true,qz a,jd,p,wS j,qmu x,qfY (f:=fun i=>sinksL b.Aa (i:Int) j) x];cases hdr:(gt (places b.Aa) j).drives
    ·have A:pre (fun i=>sinksL b.Aa (i:Int) (j+1)) b.Af.length=setS (pre (fun i=>sinksL b.Aa (i:Int) j) b.Af.length) (l:Int) (sinksL b.Aa (l:Int) j++[(j:Int)]):=by
      rw[qn6];refine qhp fun k o=>?_;rw[qjv];unfold snkQ;rw[p,hdr];by_cases c:k=l
      ·subst c;rw[if_pos Z];simp
      ·rw[if_neg c,show(((l:Int)==(k:Int))&&!false)=false by simp;omega];simp
     have B:vecI (fun k=>if dvN b.Aa k<j+1 then(dvN b.Aa k:Int) else 0) b.Af.length=vecI (fun k=>if dvN b.Aa k<j then(dvN b.Aa k:Int) else 0) b.Af.length:=by
      refine qfO fun k o=>?_;have K:dvN b.Aa k ≠ j:=fun e=>by
       have:=(qmo.1 (qiH r (k:=k) (by omega)).2).2;rw[e,hdr] at this;cases this
      by_cases u:dvN b.Aa k<j
      ·rw[if_pos u,if_pos (by omega)]
      ·rw[if_neg u,if_neg (by omega)]
     rw[A,B] at m;simp only[cond_false];have a7:(sinksL b.Aa (l:Int) j).length≤j:=by rw[qjf];exact qgp
     rw[qcT (by rw[jh];omega)];exact m
    ·have A:pre (fun i=>sinksL b.Aa (i:Int) (j+1)) b.Af.length=pre (fun i=>sinksL b.Aa (i:Int) j) b.Af.length:=by
      refine qhp fun k o=>?_;rw[qjv];unfold snkQ;rw[hdr];simp
     have H:=quK r (show l<b.Aa.Am.length by omega) a p hdr;have B:vecI (fun k=>if dvN b.Aa k<j+1 then(dvN b.Aa k:Int) else 0) b.Af.length=setS (vecI (fun k=>if dvN b.Aa k<j then(dvN b.Aa k:Int) else 0) b.Af.length) (l:Int) (j:Int):=by
      rw[qpN];refine qfO fun k o=>?_;by_cases c:k=l
      ·subst c;rw[if_pos Z,H,if_pos (by omega)]
      ·rw[if_neg c];have K:dvN b.Aa k ≠ j:=fun e=>by
        have:=(qmo.1 (qiH r (k:=k) (by omega)).2).1;rw[e,p] at this;omega
       by_cases u:dvN b.Aa k<j
       ·rw[if_pos u,if_pos (by omega)]
       ·rw[if_neg u,if_neg (by omega)]
     rw[A,B] at m;exact m)
  simpa [sinksL,pre,vecI] using this
 have D:∀ (i k:Nat) (s:Int) (t:List qr),i<b.Af.length→0≤s→s≤78→t.length≤1000000→Ev (fun n=>qd8 (vecI (fun k=>(dvN b.Aa k:Int)) b.Af.length) (i:Int) (k:Int) s n t 0) (t++wl1 (dvN b.Aa i) s k,2):=by
  intro i k s t hi a5 a6 ht;have v:=(qiH r (k:=i) (by omega)).1;have L:idx (vecI (fun k=>(dvN b.Aa k:Int)) b.Af.length) (i:Int)=V (dvN b.Aa i:Int):=qmu hi;refine Ev.succ ?_;simp only[qd8,L,jd];refine Ev.tt Z ?_;rw[wO (2*(dvN b.Aa i:Int)),wO (2*s),wO (2*(dvN b.Aa i:Int)+0),wO (2*s+0),qcT (by rw[jh];omega)];simp only[jd];refine Ev.succ ?_;simp only[qd8,L,jd];refine Ev.tt Z ?_;rw[show W64 (0+1)=1 from rfl,wO (2*(dvN b.Aa i:Int)),wO (2*s),wO (2*(dvN b.Aa i:Int)+1),wO (2*s+1),qcT (by rw[jg,jh,jh];omega)];simp only[jd];refine Ev.succ ?_;simp only[qd8];refine Ev.ff Z (Ev.now ?_);unfold wl1;rw[jt,Jf,Jf]
  rfl
 have C:∀ (i:Nat) (t:List qr),i<b.Af.length→t.length≤900000→Ev (fun n=>qek (vecI (fun k=>(dvN b.Aa k:Int)) b.Af.length) (i:Int) (skL b i) n t 0) (t++wlN b i (skL b i).length,((skL b i).length:Int)):=by
  intro i t hi ht;have a8:=qhu h (i:=i);have:=loopF (Lf:=qek (vecI (fun k=>(dvN b.Aa k:Int)) b.Af.length) (i:Int) (skL b i)) (S:=fun k=>t++wlN b i k) (len:=(skL b i).length) (fin:=(t++wlN b i (skL b i).length,((skL b i).length:Int))) (fun n=>by simp only[qek,qq (jf _),cond_false])
   (fun k o X m=>by
    obtain⟨y,L,ey,_⟩:=qnC o;have hwn:=qrw (b:=b) (i:=i) (j:=k);simp only[qek,qp o,cond_true,qao o,jd,wS k];refine Ev.bind (D i k (at0 (skL b i) k) (t++wlN b i k) hi (by omega) (by omega) (by rw[jg];omega)) ?_;rw[jt,show wlN b i k++wl1 (dvN b.Aa i) (at0 (skL b i) k) k=wlN b i (k+1) from qj1.symm];exact m)
  simpa [wlN,fm] using this
 have Q:Ev (fun n=>qec b (pre (fun i=>skL b i) b.Af.length) (vecI (fun k=>(dvN b.Aa k:Int)) b.Af.length) n ([]:List (List Int)) ([]:List Int) (instLs b b.Aa.Ab.length) 0) (pre (exactL b) b.Af.length,pre (load0 b) b.Af.length,linksL b,(b.Af.length:Int)):=by
  have F:=qjd h (jf _);have:=loopF (τ:=List (List Int)×List Int×List qr) (Lf:=fun n t j=>qec b (pre (fun i=>skL b i) b.Af.length) (vecI (fun k=>(dvN b.Aa k:Int)) b.Af.length) n t.1 t.2.1 t.2.2 j) (S:=fun j=>(pre (exactL b) j,pre (load0 b) j,instLs b b.Aa.Ab.length++wireLs b j)) (len:=b.Af.length)
   (fin:=(pre (exactL b) b.Af.length,pre (load0 b) b.Af.length,linksL b,(b.Af.length:Int))) (fun n=>by simp only[qec,qq (jf _),cond_false];rfl)
   (fun j a X m=>by
    have hw:=qbK h a;have W:=hw.lo;have T:=qlN h a;have O:=qnD h (j:=j);simp only[qec,qp a,cond_true,wS j];refine Ev.bind (qnP h a) ?_;rw[show idx (loadsL b j) (0:Int)=V (load0 b j) from qz (j:=0) (by omega)];simp only[jd];rw[qoh (by omega)];simp only[jd];refine Ev.bind (qql h a) ?_;rw[qoh (by omega),qfY (f:=fun i=>skL b i) a];simp only[jd];refine Ev.bind (C j _ a (by rw[jg];omega)) ?_;rw[jt,show wireLs b j++wlN b j (skL b j).length=wireLs b (j+1) from qj1.symm];exact m)
  simpa [wireLs,fm,pre] using this
 unfold qjY;refine Ev.bind (qnb z) (Ev.bind e1 ?_);rw[I,J];simp only[jd];exact Ev.bind P (Ev.bind Q .done)

structure LkOk (ls:List qr)(M:Nat):Prop where
 len:ls.length≤10000
 nodes:M≤156
 fr0:∀ x,x<ls.length→0≤(gt ls x).Bk
 fr1:∀ x,x<ls.length→(gt ls x).Bk<(M:Int)
 to0:∀ x,x<ls.length→0≤(gt ls x).To
 to1:∀ x,x<ls.length→(gt ls x).To<(M:Int)
def frL (ls:List qr)(x:Nat):Int:=(gt ls x).Bk
def toL (ls:List qr)(x:Nat):Int:=(gt ls x).To
def lvL (lv:List Bool)(x:Nat):Bool:=gt lv x
abbrev inL (ls:List qr)(lv:List Bool)(j:Nat)(R:List Nat)(k:Nat):Nat:=inN j (frL ls) (toL ls) (lvL lv) R k
abbrev nxtL (ls:List qr)(lv:List Bool)(M:Nat)(R:List Nat):Option Nat:=nxtN ls.length (frL ls) (toL ls) (lvL lv) M R
abbrev ordL (ls:List qr)(lv:List Bool)(M m:Nat)(R:List Nat):Option (List Nat):=ordN ls.length (frL ls) (toL ls) (lvL lv) M m R
def ordR (ls:List qr)(lv:List Bool)(M:Nat):List Int×Bool:=match ordL ls lv M M [] with|some R=>(ints R,true)|none=>([],false)
theorem qtZ {ls:List qr}{lv:List Bool}{M m:Nat}{R:List Nat}(h:nxtL ls lv M R=U):ordL ls lv M (m+1) R=U:=by
 show(match nxtL ls lv M R with|none=>U|some k=>ordL ls lv M m (R++[k]))=U;rw[h]
theorem quu {ls:List qr}{lv:List Bool}{M m k:Nat}{R:List Nat}(h:nxtL ls lv M R=V k):ordL ls lv M (m+1) R=ordL ls lv M m (R++[k]):=by
 show(match nxtL ls lv M R with|none=>U|some k=>ordL ls lv M m (R++[k]))=_;rw[h]
theorem qlo {M:Nat}{v:Bool}(h:M≤2147483648):mkS (M:Int) v=V (pre (fun _=>v) M):=by
 rw[qlJ h]
 congr 1
 refine Jc (by simp[pre]) fun i a b=>?_;simp[pre]
theorem qwV {L:Nat}{fr to:Nat→Int}{lv:Nat→Bool}{R:List Nat}{k:Nat}:inN L fr to lv R k≤L:=qgp
theorem qsD {L:Nat}{fr to:Nat→Int}{lv:Nat→Bool}{R:List Nat}{k:Nat}:inN (L+1) fr to lv R k=inN L fr to lv R k+(bif lv L&&(to L==(k:Int)&&!decide (fr L ∈ ints R)) then 1 else 0):=rfl
def ledB (ls:List qr)(lv:List Bool)(j:Nat)(R:List Nat)(M:Nat):List Bool:=pre (fun k=>!decide (inL ls lv j R k=0)) M
def inB (R:List Nat)(M:Nat):List Bool:=pre (fun k=>decide (k ∈ R)) M
theorem qwr {ls:List qr}{lv:List Bool}{M:Nat}(h:LkOk ls M)(A:lv.length=ls.length){R:List Nat} :
  Ev (fun n=>qcK ls lv (inB R M) n (pre (fun _=>false) M) 0) (ledB ls lv ls.length R M,(ls.length:Int)):=by
 have x:=h.len;refine loopF (Lf:=qcK ls lv (inB R M)) (S:=fun j=>ledB ls lv j R M) (len:=ls.length) (fun n=>?_) (fun j l X i=>?_)
 ·simp only[qcK,qq (jf _),cond_false]
 ·obtain⟨a,u⟩:∃ a:Nat,(gt ls j).Bk=(a:Int):=⟨_,qcE (h.fr0 j l)⟩;obtain⟨c,v⟩:∃ c:Nat,(gt ls j).To=(c:Int):=⟨_,qcE (h.to0 j l)⟩;have p:a<M:=by have:=h.fr1 j l;omega
  have r:c<M:=by have:=h.to1 j l;omega
  have s:frL ls j=(a:Int):=u;have o:toL ls j=(c:Int):=v;have b:decide (frL ls j ∈ ints R)=decide (a ∈ R):=by rw[s];exact decide_eq_decide.2 qjB
  have y:idx (inB R M) (a:Int)=V (decide (a ∈ R)):=qfY (f:=fun k=>decide (k ∈ R)) p;have z:idx (ledB ls lv j R M) (c:Int)=V (!decide (inL ls lv j R c=0)):=qfY (f:=fun k=>!decide (inL ls lv j R k=0)) r;have t:(lvL lv j&&!decide (a ∈ R))=true→ledB ls lv (j+1) R M=setS (ledB ls lv j R M) (c:Int) true:=by
   intro g;unfold ledB;rw[qn6];refine qhp fun k _=>?_;show(!decide (inN (j+1) _ _ _ R k=0))=_;rw[qsD,o,b];by_cases m:k=c
   ·subst m;rw[if_pos Z];simp only[je] at g;simp[g.1,g.2]
   ·rw[if_neg m,show((c:Int)==(k:Int))=false by simp;omega];simp
  have d:(lvL lv j&&!decide (a ∈ R))=false→ledB ls lv (j+1) R M=ledB ls lv j R M:=by
   intro g;unfold ledB;refine qhp fun k _=>?_;show(!decide (inN (j+1) _ _ _ R k=0))=_;rw[qsD,o,b,show(lvL lv j&&(((c:Int)==(k:Int))&&!decide (a ∈ R)))=false by
    cases h1:lvL lv j
    ·rfl
    ·rw[h1] at g;simp only[jB] at g;rw[g];simp]
   simp
  simp only[qcK,qp l,cond_true,qz (show j<lv.length by omega),qz l,jd,u,v,y,z,wS j];cases h1:gt lv j
  ·simp only[cond_false,jd];have:=d (by unfold lvL;rw[h1];rfl);rw[this] at i;exact i
  ·simp only[cond_true,jd];cases h2:decide (a ∈ R)
   ·simp only[Bool.not_false,cond_true];have:=t (by unfold lvL;rw[h1,h2];rfl);rw[this] at i;exact i
   ·simp only[Jg,cond_false];have:=d (by unfold lvL;rw[h1,h2];rfl);rw[this] at i;exact i
theorem qvG {ls:List qr}{lv:List Bool}{M:Nat}(h:LkOk ls M){R:List Nat} :
  Ev (fun n=>qcf (M:Int) (inB R M) (ledB ls lv ls.length R M) n 0) (match nxtL ls lv M R with|some k=>(k:Int)|none=>(M:Int)):=by
 have u:=h.nodes;have b:∀ d j,j+d=M→(∀ i,i<j→freeN ls.length (frL ls) (toL ls) (lvL lv) R i=false) →
   Ev (fun n=>qcf (M:Int) (inB R M) (ledB ls lv ls.length R M) n (j:Int)) (match nxtL ls lv M R with|some k=>(k:Int)|none=>(M:Int)):=by
  intro d
  induction d with
  | zero=>
   intro j p c;have l:nxtL ls lv M R=U:=by
    show(List.range M).find? _=U;rw[List.find?_eq_none];intro x r;rw[List.mem_range] at r;rw[c x (by omega)];simp
   rw[l];refine Ev.succ ?_;simp only[qcf,qq (show M≤j by omega),cond_false];rw[show j=M by omega];exact .done
  | succ d ih=>
   intro j p c;have a:j<M:=by omega
   have s:idx (inB R M) (j:Int)=V (decide (j ∈ R)):=qfY (f:=fun k=>decide (k ∈ R)) a;have t:idx (ledB ls lv ls.length R M) (j:Int)=V (!decide (inL ls lv ls.length R j=0)):=qfY (f:=fun k=>!decide (inL ls lv ls.length R k=0)) a;refine Ev.succ ?_;simp only[qcf,qp a,cond_true,s,t,jd,wS j];have m:freeN ls.length (frL ls) (toL ls) (lvL lv) R j=false→Ev (fun n=>qcf (M:Int) (inB R M) (ledB ls lv ls.length R M) n ((j+1:Nat):Int)) (match nxtL ls lv M R with|some k=>(k:Int)|none=>(M:Int)):=fun o=>
    ih (j+1) (by omega) fun i hi=>by
     by_cases g:i=j
     ·rw[g];exact o
     ·exact c i (by omega)
   cases h1:decide (j ∈ R)
   ·simp only[cond_false];cases h2:decide (inL ls lv ls.length R j=0)
    ·simp only[Bool.not_false,cond_true];exact m (by unfold freeN;rw[h1];show(!false&&decide (inL ls lv ls.length R j=0))=false;rw[h2];rfl)
    ·simp only[Jg,cond_false];have:nxtL ls lv M R=V j:=by
      show(List.range M).find? _=V j;rw[List.find?_range_eq_some];refine⟨?_,List.mem_range.2 a,fun i hi=>by rw[c i hi];rfl⟩;unfold freeN;rw[h1];show(!false&&decide (inL ls lv ls.length R j=0))=true;rw[h2];rfl
     rw[this];exact .done
   ·simp only[cond_true];exact m (by unfold freeN;rw[h1];rfl)
 exact b M 0 (by omega) (fun i hi=>absurd hi (by omega))
theorem quk {ls:List qr}{lv:List Bool}{M:Nat}(h:LkOk ls M)(g:lv.length=ls.length):Ev (fun n=>qhX n (M:Int) ls lv) (ordR ls lv M):=by
 have o:=h.nodes;have b:∀ m R,R.length+m=M→Ev (fun n=>qeO (M:Int) ls lv n (inB R M) (ints R))
   (match ordL ls lv M m R with|some R'=>.nxt (inB R' M,ints R')|none=>.ret ([],false)):=by
  intro m
  induction m with
  | zero=>
   intro R c;refine Ev.succ ?_;simp only[qeO,qc6,qq (show M≤R.length by omega),cond_false];exact .done
  | succ m ih=>
   intro R c;refine Ev.succ ?_;simp only[qeO,qc6,qp (show R.length<M by omega),cond_true,qlo (v:=false) (show M≤2147483648 by omega),jd];refine Ev.bind (qwr h g) (Ev.bind (qvG h) ?_);show Ev _ (match (match nxtL ls lv M R with|none=>U|some k=>ordL ls lv M m (R++[k])) with|some R'=>_|none=>_);cases hn:nxtL ls lv M R with
   | none=>
    simp only[beq_self_eq_true,cond_true];exact .done
   | some k=>
    obtain⟨d,_,_⟩:=qo2 hn;have l:idx (inB R M) (k:Int)=V (decide (k ∈ R)):=qfY (f:=fun k=>decide (k ∈ R)) d;have e1:setS (inB R M) (k:Int) true=inB (R++[k]) M:=by
     unfold inB;rw[qn6];refine qhp fun i _=>?_;by_cases a:i=k
     ·subst a;simp
     ·simp[a]
    simp only[show((k:Int)==(M:Int))=false by simp;omega,cond_false,l,jd];rw[qcT (by rw[qc6,jh];omega),e1,←qj4];exact ih (R++[k]) (by rw[jg,jh];omega)
 have e0:pre (fun _=>false) M=inB [] M:=qhp fun k _=>by simp
 unfold qhX;rw[qlo (v:=false) (show M≤2147483648 by omega)];simp only[jd];rw[e0];refine Ev.bind (b M [] (by simp)) ?_;unfold ordR;cases ordL ls lv M M []<;>exact .done
def grV (ls:List qr)(lv:List Bool)(ps:List Tplace)(b:qe)(lo:List Int)(de:List (List Int))(ex:List Int):Option Tgraph:=V ⟨V ⟨b,ps,ls,lo,de,ex⟩,lv⟩
theorem qrD {xs:List Int}(c:xs.length≤1000000):Ev (fun n=>qhC n xs 0) (ixL (fun y=>(0:Int)==y) xs):=
 qgb (fin:=(xs.length:Int)) (Lf:=qdc xs 0) (pf:=fun _ y=>V ((0:Int)==y)) (fun _ _=>.done)
  (fun n=>by simp only[qdc,qq (jf _),cond_false])
  (fun n j x a=>by
   have b:=(List.getElem?_eq_some_iff.1 a).1;simp only[qdc,qp b,cond_true,qg8 a,jd,wS j])
  (fun n=>by unfold qhC;congr 1;funext o;cases o<;>rfl)
theorem qvO {f:Nat→Int}{M:Nat}{p:Int→Bool}:ixL p (vecI f M)=match (List.range M).find? (fun k=>p (f k)) with|some k=>(k:Int)|none=>-1:=by
 cases hf:(List.range M).find? (fun k=>p (f k)) with
 | none=>
  have a:(vecI f M).findIdx? p=U:=by
   rw[List.findIdx?_eq_none_iff];intro x g;obtain⟨k,d,rfl⟩:=List.mem_map.1 g;have:=List.find?_eq_none.1 hf k d;simpa using this
  unfold ixL;rw[a]
 | some k=>
  obtain⟨a,b,c⟩:=List.find?_range_eq_some.1 hf;rw[List.mem_range] at b;have:=qq3 (p:=p) (xs:=vecI f M) (j:=k) (by rw[qlt];exact b) (by simpa [vecI] using a) (fun i hi=>by
   have:=c i hi;simpa [vecI] using this)
  rw[this]
section
variable {ls:List qr}{lv:List Bool}{M:Nat}{ps:List Tplace}{b:qe}{lo:List Int}{de:List (List Int)}{ex:List Int}
theorem qrE (h:LkOk ls M)(k:lv.length=ls.length):Ev (fun n=>qbq n (grV ls lv ps b lo de ex)) (ints (selN (lvL lv) ls.length)):=by
 have g:=h.len;have f:Ev (fun n=>qO ⟨V ⟨b,ps,ls,lo,de,ex⟩,lv⟩ ⟨b,ps,ls,lo,de,ex⟩ n ([]:List Int) 0) (ints (selN (lvL lv) ls.length),(ls.length:Int)):=by
  refine qo3 (q:=lvL lv) (Lf:=qO ⟨V ⟨b,ps,ls,lo,de,ex⟩,lv⟩ ⟨b,ps,ls,lo,de,ex⟩) (len:=ls.length) (by omega) (Ev.succ ?_) (fun j a t i X c d=>?_)
  ·simp only[qO,qq (jf _),cond_false];exact .done
  ·simp only[qO,qp a,cond_true,qz a,qz (show j<lv.length by omega),jd,qid,i,wS j];cases hq:gt lv j
   ·simp only[cond_false];exact d hq
   ·simp only[cond_true];exact c hq
 unfold qbq grV;simp only[jd];exact Ev.bind f .done
theorem qwq (h:LkOk ls M)(k:lv.length=ls.length){v:Int}:Ev (fun n=>qh5 n (grV ls lv ps b lo de ex) v) (ints (selN (fun x=>lvL lv x&&(frL ls x==v)) ls.length)):=by
 have g:=h.len;have f:Ev (fun n=>qQ v ⟨V ⟨b,ps,ls,lo,de,ex⟩,lv⟩ ⟨b,ps,ls,lo,de,ex⟩ n ([]:List Int) 0) (ints (selN (fun x=>lvL lv x&&(frL ls x==v)) ls.length),(ls.length:Int)):=by
  refine qo3 (q:=fun x=>lvL lv x&&(frL ls x==v)) (Lf:=qQ v ⟨V ⟨b,ps,ls,lo,de,ex⟩,lv⟩ ⟨b,ps,ls,lo,de,ex⟩) (len:=ls.length) (by omega) (Ev.succ ?_) (fun j d t i X c a=>?_)
  ·simp only[qQ,qq (jf _),cond_false];exact .done
  ·simp only[qQ,qp d,cond_true,qz d,qz (show j<lv.length by omega),jd,qiI,i,wS j];unfold lvL frL at c a;cases hq:gt lv j
   ·simp only[cond_false];exact a (by rw[hq];rfl)
   ·simp only[cond_true];cases hw:(gt ls j).Bk==v
    ·simp only[cond_false];exact a (by rw[hq,hw];rfl)
    ·simp only[cond_true];exact c (by rw[hq,hw];rfl)
 unfold qh5 qcx grV;simp only[jd];exact Ev.bind (Ev.bind f .done) .done
theorem quA {q:Nat→Bool}{m:Nat}{p:Nat→Bool}:(selN q m).countP p=cntP (fun x=>q x&&p x) m:=by
 induction m with
 | zero=>rfl
 | succ m ih=>
  rw[qly,List.countP_append,ih];show _=cntP (fun x=>q x&&p x) m+(bif (q m&&p m) then 1 else 0);cases q m
  ·rfl
  ·cases hp:p m<;>simp[hp]
def cntT (ls:List qr)(S:List Nat)(k:Nat):Nat:=S.countP (fun x=>toL ls x==(k:Int))
theorem qtE {S:List Nat}{k:Nat}:cntT ls S k≤S.length:=List.countP_le_length
theorem quv {S:List Nat}{j k:Nat}(a:j<S.length):cntT ls (S.take (j+1)) k=cntT ls (S.take j) k+(if toL ls S[j]=(k:Int) then 1 else 0):=by
 unfold cntT;rw[jz a,List.countP_append];by_cases h:toL ls S[j]=(k:Int)<;>simp[h]
theorem bumpV {f:Nat→Int}{c:Nat}{S:List Nat}{j:Nat}{d v:Int}(g:j<S.length)(b:toL ls S[j]=(c:Int))(h:v=f c+d*(cntT ls (S.take j) c:Int)+d) :
  setS (vecI (fun k=>f k+d*(cntT ls (S.take j) k:Int)) M) (c:Int) v=vecI (fun k=>f k+d*(cntT ls (S.take (j+1)) k:Int)) M:=by
 rw[qpN];refine qfO fun k _=>?_;rw[quv g,b];by_cases a:k=c
 ·subst a;rw[if_pos Z,if_pos Z,h];rw[Int.natCast_add,Int.mul_add];omega
 ·rw[if_neg a,if_neg (by omega)];simp
theorem qwZ (h:LkOk ls M){S:List Nat}(p:∀ x,x ∈ S→x<ls.length)(s:S.length≤10000) :
  Ev (fun n=>qcl ⟨V ⟨b,ps,ls,lo,de,ex⟩,lv⟩ (ints S) n (vecI (fun _=>0) M) 0) (vecI (fun k=>(cntT ls S k:Int)) M,(S.length:Int)):=by
 have:=loopF (Lf:=qcl ⟨V ⟨b,ps,ls,lo,de,ex⟩,lv⟩ (ints S)) (S:=fun j=>vecI (fun k=>0+1*(cntT ls (S.take j) k:Int)) M) (len:=S.length) (fin:=(vecI (fun k=>(cntT ls S k:Int)) M,(S.length:Int))) (fun n=>by
   simp only[qcl,qc6,qq (jf _),cond_false,jJ];rw[qfO (f:=fun k=>0+1*(cntT ls S k:Int)) (g:=fun k=>(cntT ls S k:Int)) (fun k _=>by omega)])
  (fun j a X r=>by
   have m:=p S[j] (jo a);obtain⟨c,o⟩:∃ c:Nat,(gt ls S[j]).To=(c:Int):=⟨_,qcE (h.to0 _ m)⟩;have i:c<M:=by have:=h.to1 _ m;omega
   have l:=qtE (ls:=ls) (S:=S.take j) (k:=c);rw[jM] at l;simp only[qcl,qc6,qp a,cond_true,qoj a,jd,qz m,o,qmu i,wS j];rw[qR (by omega) (by omega),bumpV (d:=1) a o (by omega)];exact r)
 rw[qfO (f:=fun k=>0+1*(cntT ls (S.take 0) k:Int)) (g:=fun _=>0) (fun k _=>by unfold cntT;simp)] at this;exact this
theorem qu4 (h:LkOk ls M){S:List Nat}{f:Nat→Int}(p:∀ x,x ∈ S→x<ls.length)(u:S.length≤10000)(s:∀ k,k<M→-1≤f k∧f k≤10000) :
  Ev (fun n=>qck ⟨V ⟨b,ps,ls,lo,de,ex⟩,lv⟩ (ints S) n (vecI f M) 0) (vecI (fun k=>f k-(cntT ls S k:Int)) M,(S.length:Int)):=by
 have:=loopF (Lf:=qck ⟨V ⟨b,ps,ls,lo,de,ex⟩,lv⟩ (ints S)) (S:=fun j=>vecI (fun k=>f k+(-1)*(cntT ls (S.take j) k:Int)) M) (len:=S.length) (fin:=(vecI (fun k=>f k-(cntT ls S k:Int)) M,(S.length:Int))) (fun n=>by
   simp only[qck,qc6,qq (jf _),cond_false,jJ];rw[qfO (f:=fun k=>f k+(-1)*(cntT ls S k:Int)) (g:=fun k=>f k-(cntT ls S k:Int)) (fun k _=>by omega)])
  (fun j i X r=>by
   have m:=p S[j] (jo i);obtain⟨c,o⟩:∃ c:Nat,(gt ls S[j]).To=(c:Int):=⟨_,qcE (h.to0 _ m)⟩;have a:c<M:=by have:=h.to1 _ m;omega
   have l:=qtE (ls:=ls) (S:=S.take j) (k:=c);rw[jM] at l;have t:=s c a;simp only[qck,qc6,qp i,cond_true,qoj i,jd,qz m,o,qmu a,wS j];rw[qR (by omega) (by omega),bumpV (d:=-1) i o (by omega)];exact r)
 rw[qfO (f:=fun k=>f k+(-1)*(cntT ls (S.take 0) k:Int)) (g:=f) (fun k _=>by unfold cntT;simp)] at this;exact this
def openV (ls:List qr)(lv:List Bool)(R:List Nat)(k:Nat):Int:=if k ∈ R then -1 else(inL ls lv ls.length R k:Int)
theorem qtQ {R:List Nat}:ixL (fun y=>(0:Int)==y) (vecI (openV ls lv R) M)=match nxtL ls lv M R with|some k=>(k:Int)|none=>-1:=by
 rw[qvO];have:(fun k=>((0:Int)==openV ls lv R k))=freeN ls.length (frL ls) (toL ls) (lvL lv) R:=by
  funext k
  unfold openV freeN;by_cases a:k ∈ R
  ·rw[if_pos a];simp[a]
  ·rw[if_neg a];simp only[a,decide_false,Bool.not_false,jB];by_cases b:inL ls lv ls.length R k=0
   ·simp[b]
   ·rw[show((0:Int)==((inL ls lv ls.length R k:Nat):Int))=false from beq_eq_false_iff_ne.2 (by omega)];simpa using b
 rw[this]
 rfl
theorem qt8 (h:LkOk ls M)(t:lv.length=ls.length)(F:M=2*ps.length):Ev (fun n=>qhn n (grV ls lv ps b lo de ex)) (ordR ls lv M):=by
 have H:=h.nodes;have C:=h.len;have g:∀ m R,R.length+m=M→Closed ls.length (frL ls) (toL ls) (lvL lv) R→∃ y:List Int×List Int×Int,Ev (fun n=>qcn (grV ls lv ps b lo de ex) ⟨V ⟨b,ps,ls,lo,de,ex⟩,lv⟩ (vecI (fun _=>0) M) n (ints R) (vecI (openV ls lv R) M) (R.length:Int))
   (match ordL ls lv M m R with|some R'=>.nxt (ints R',y.2.1,y.2.2)|none=>.ret ([],false)):=by
  intro m
  induction m with
  | zero=>
   intro R A _;refine⟨(ints R,vecI (openV ls lv R) M,(R.length:Int)),Ev.succ ?_⟩;simp only[qcn,qlt,qq (show M≤R.length by omega),cond_false];exact .done
  | succ m ih=>
   intro R A s;have c:=qrD (xs:=vecI (openV ls lv R) M) (by rw[qlt];omega);rw[qtQ] at c;cases hn:nxtL ls lv M R with
   | none=>
    rw[hn] at c;rw[qtZ hn];refine⟨([],[],0),Ev.succ ?_⟩;simp only[qcn,qlt,qp (show R.length<M by omega),cond_true];exact Ev.bind c (Ev.tt (by decide) .done)
   | some k=>
    rw[hn] at c;rw[quu hn];obtain⟨B,d,r⟩:=qo2 hn;obtain⟨y,o⟩:=ih (R++[k]) (by rw[jg,jh];omega) (s.snoc r);refine⟨y,Ev.succ ?_⟩;simp only[qcn,qlt,qp (show R.length<M by omega),cond_true];refine Ev.bind c (Ev.ff (by simp) ?_);rw[qmu B,qcT (by rw[qc6,jh];omega),qpN,←qj4];simp only[jd];refine Ev.bind (qwq h t) ?_;have D:=qlm (q:=fun x=>lvL lv x&&(frL ls x==(k:Int))) (j:=ls.length);refine Ev.bind (qu4 h (fun x p=>(qlF.1 p).1) (by omega) (fun i hi=>?_)) ?_
    ·split
     ·omega
     ·unfold openV;have:inL ls lv ls.length R i≤ls.length:=qwV;split<;>omega
    ·have u:vecI (fun i=>(if i=k then -1 else openV ls lv R i)-(cntT ls (selN (fun x=>lvL lv x&&(frL ls x==(k:Int))) ls.length) i:Int)) M=vecI (openV ls lv (R++[k])) M:=by
      refine qfO fun i _=>?_;have v:cntT ls (selN (fun x=>lvL lv x&&(frL ls x==(k:Int))) ls.length) i=lkN ls.length (frL ls) (toL ls) (lvL lv) k i:=quA;rw[v];unfold openV;by_cases a:i ∈ R++[k]
      ·rw[if_pos a,s.no_back d r a];rcases List.mem_append.1 a with l|l
       ·split
        ·rfl
        ·rfl
       ·rw[if_pos (List.mem_singleton.1 l)];rfl
      ·have l:i ∉ R:=fun e=>a (jD _ e);have z:i ≠ k:=fun e=>a (jT _ (List.mem_singleton.2 e));rw[if_neg a,if_neg z,if_neg l];have:=quI (L:=ls.length) (fr:=frL ls) (to:=toL ls) (lv:=lvL lv) (R:=R) (i:=k) (k:=i) d;show(inN _ _ _ _ R i:Int)-_=(inN _ _ _ _ (R++[k]) i:Int);omega
     rw[u,qhQ (show R.length<9223372036854775807 by omega)];rw[jg,jh] at o;exact o
 have f:=qwZ (b:=b) (ps:=ps) (lo:=lo) (de:=de) (ex:=ex) (lv:=lv) h (S:=selN (lvL lv) ls.length) (fun x p=>(qlF.1 p).1) (by have:=qlm (q:=lvL lv) (j:=ls.length);omega);have e0:vecI (fun k=>(cntT ls (selN (lvL lv) ls.length) k:Int)) M=vecI (openV ls lv []) M:=by
  refine qfO fun k _=>?_;unfold openV;rw[if_neg (by simp)]
  congr 1
  show List.countP _ _=inN _ _ _ _ [] k;rw[quA];unfold inN;exact qqa fun x _=>by simp[ints]
 rw[e0] at f;obtain⟨y,o⟩:=g M [] (by simp) Closed.nil;unfold qhn;show Ev (fun n=>(V _).bind _) _;simp only[jd,qcD,qez];rw[qR (by omega) (by omega),show 2*(ps.length:Int)=(M:Int) by omega,qq9 (by omega)];simp only[jd];refine Ev.bind (qrE h t) (Ev.bind f (Ev.bind o ?_));unfold ordR;cases ordL ls lv M M []<;>exact .done
end

theorem qru {n m:Nat}{a b mode:Int}:qfI n a b mode=qcP m a b mode:=by
 unfold qfI qcP;cases quoS a b with
 | none=>rfl
 | some y1=>
  cases remS a b with
  | none=>rfl
  | some y2=>
   simp only[jd];generalize decide (y2<0)=p;generalize decide (y2 > 0)=q;generalize (mode==0)=m0;generalize (mode==1)=m1;cases p<;>cases q<;>cases m0<;>cases m1<;>rfl
theorem quX {a b:Int}(f:0<b):-(if a<0 then -a else a)≤a.tdiv b∧a.tdiv b≤(if a<0 then -a else a):=by
 by_cases h:a<0
 ·rw[if_pos h];have e:a.tdiv b=-((-a).tdiv b):=by rw[Int.neg_tdiv,Int.neg_neg]
  rw[e,jE (show 0≤-a by omega)];have c:=Int.ediv_nonneg (show 0≤-a by omega) (show 0≤b by omega);have d:=Int.ediv_le_self (a:=-a) b (by omega);omega
 ·rw[if_neg h,jE (by omega)];have c:=Int.ediv_nonneg (show 0≤a by omega) (show 0≤b by omega);have d:=Int.ediv_le_self (a:=a) b (by omega);omega
theorem qkf {n:Nat}{a b mode:Int}(d:0<b)(g:-9000000000000000000≤a)(h:a≤9000000000000000000):qcP n a b mode=V (divI a b mode):=by
 have c:=quX (a:=a) d;have i:-9000000000000000000≤a.tdiv b∧a.tdiv b≤9000000000000000000:=by
  revert c;split<;>intro c<;>omega
 unfold qcP quoS remS divI;rw[if_neg (by omega),if_neg (by omega)];have f:IntKind.i64.wrap (a.tdiv b)=a.tdiv b:=qR (by omega) (by omega);simp only[f,jd];rw[wO (a.tdiv b-1),wO (a.tdiv b+1)];generalize decide (a.tmod b<0)=p;generalize decide (a.tmod b > 0)=q;generalize (mode==0)=m0;generalize (mode==1)=m1;cases p<;>cases q<;>cases m0<;>cases m1<;>rfl
theorem qkU {a b mode M:Int}(d:0<b)(c:0≤a)(h:a≤b*M):0≤divI a b mode∧divI a b mode≤M:=by
 rw[ql5 c d];have e:=Int.emod_add_mul_ediv a b;have k:=Int.emod_nonneg a (show b ≠ 0 by omega);have g:=Int.ediv_nonneg c (show 0≤b by omega);have i:a / b≤M:=Int.ediv_le_of_le_mul d (by rw[Int.mul_comm];exact h);split
 ·rename_i hc
  refine⟨by omega,?_⟩;have:a / b<M:=by
   refine Int.lt_of_not_ge fun l=>?_;have f:a / b=M:=by omega
   rw[f] at e;omega
  omega
 ·exact⟨g,i⟩
structure AxOk (ax:List Int):Prop where
 lo:1≤ax.length
 hi:ax.length≤4
 at_:∀ j,j<ax.length→0≤at0 ax j∧at0 ax j≤100000
 inc:∀ j i,i<j→j<ax.length→at0 ax i<at0 ax j
theorem qr8 {b:List Int}(h:axisB b=true):AxOk b:=by
 unfold axisB lenB incB at h;simp only[je,decide_eq_true_eq] at h;obtain⟨⟨m,n⟩,k,l⟩:=h;rw[qg2 (d:=0),qah] at k;rw[qah] at l;refine⟨m,n,fun j f=>by have:=k j f;rw[qbb] at this;exact this,fun j=>?_⟩
 induction j with
 | zero=>intro i hi _;omega
 | succ j ih=>
  intro i hi f;have a:=l (j+1) f;unfold stepB at a;simp only[Bool.or_eq_true,decide_eq_true_eq,Nat.add_sub_cancel] at a;have g:at0 b j<at0 b (j+1):=by
   rcases a with a|a
   ·omega
   ·exact a
  by_cases c:i=j
  ·rw[c];exact g
  ·have:=ih i (by omega) (by omega);omega
theorem least {P:Nat→Prop}:∀ m,P m→∃ p,p≤m∧P p∧∀ k,k<p→¬ P k:=by
 intro m
 induction m using Nat.strongRecOn with
 | ind m ih=>
  intro f;by_cases h:∃ k,k<m∧P k
  ·obtain⟨k,a,b⟩:=h;obtain⟨p,g,c,d⟩:=ih k a b;exact⟨p,by omega,c,d⟩
  ·exact⟨m,jf _,f,fun k a b=>h ⟨k,a,b⟩⟩
structure Wt (ax:List Int)(i:Nat)(a b:Int):Prop where
 il:i<ax.length
 a0:0<a
 a1:a≤100000
 b0:0≤b
 b1:b≤100000
 nx:0<b→i+1<ax.length
 one:b=0→a=1
def wtL (i:Nat)(a b:Int):List Tweight:=if b=0 then[⟨(i:Int),1⟩] else[⟨(i:Int),a⟩,⟨((i+1:Nat):Int),b⟩]
def clampV (a:List Int)(x:Int):Int:=if at0 a (a.length-1)<(if at0 a 0 > x then at0 a 0 else x) then at0 a (a.length-1) else(if at0 a 0 > x then at0 a 0 else x)
theorem qvL {m:Nat}(h:m≤8):shrS .u64 (IntKind.wrap .u64 (W64 (m:Int))) 1=V ((m / 2:Nat):Int):=by
 rcases (by omega:m=0∨m=1∨m=2∨m=3∨m=4∨m=5∨m=6∨m=7∨m=8) with e|e|e|e|e|e|e|e|e<;>rw[e]<;>rfl
theorem qt6 {a:List Int}(h:AxOk a){c:Int}{p:Nat}(s:p<a.length)(z:c≤at0 a p)(t:∀ k,k<p→at0 a k<c) :
  Ev (fun n=>qdt n a c) ((p:Int),(at0 a p==c)):=by
 have y:=h.hi;have b:∀ d i j,j-i≤d→i≤p→p≤j→j≤a.length→Ev (fun n=>qaH a c n (i:Int) (j:Int)) ((p:Int),(p:Int)):=by
  intro d
  induction d with
  | zero=>
   intro i j u hi m o;refine Ev.succ ?_;simp only[qaH,qq (show j≤i by omega),cond_false];rw[show i=p by omega,show j=p by omega];exact .done
  | succ d ih=>
   intro i j u hi m o;refine Ev.succ ?_;by_cases g:i<j
   ·have r:(i+j) / 2<a.length:=by omega
    simp only[qaH,qp g,cond_true,←Int.natCast_add,qvL (show i+j≤8 by omega),jd,qR (x:=(((i+j) / 2:Nat):Int)) (by omega) (by omega),qao r,qkg,qh3,bne_self_eq_false,cond_false,qhQ (show(i+j) / 2<9223372036854775807 by omega)];by_cases f:at0 a ((i+j) / 2)<c
    ·refine Ev.tt (by simpa using f) (ih _ _ (by omega) ?_ m o);refine Nat.lt_of_not_le fun l=>?_;by_cases v:p=(i+j) / 2
     ·rw[←v] at f;omega
     ·have:=h.inc ((i+j) / 2) p (by omega) r;omega
    ·refine Ev.ff (by simpa using f) (ih _ _ (by omega) hi ?_ (by omega));refine Nat.le_of_not_lt fun l=>f (t _ l)
   ·simp only[qaH,qq (show j≤i by omega),cond_false];rw[show i=p by omega,show j=p by omega];exact .done
 unfold qdt;refine Ev.bind (b a.length 0 a.length (by omega) (by omega) (by omega) (jf _)) ?_;simp only[qp s,cond_true,qao s,jd,qgq,bne_self_eq_false,cond_false];cases at0 a p==c<;>exact .done
theorem qqq {f:List Int}(h:AxOk f)(x:Int):∃ i a b,Wt f i a b∧Ev (fun n=>qfn n f x) ((i:Int),a,b)∧Ev (fun n=>qhD n f x) (wtL i a b,a+b):=by
 have M:=h.lo;have I:=h.hi;have L:at0 f 0≤at0 f (f.length-1):=by
  by_cases D:f.length-1=0
  ·rw[D];exact jU _
  ·have:=h.inc (f.length-1) 0 (by omega) (by omega);omega
 obtain⟨c,A⟩:∃ c,c=clampV f x:=⟨_,rfl⟩;have v:at0 f 0≤c∧c≤at0 f (f.length-1):=by
  rw[A];unfold clampV;split<;>split at *<;>omega
 obtain⟨p,Q,r,y⟩:=least (P:=fun k=>c≤at0 f k) (f.length-1) v.2;have o:p<f.length:=by omega
 have s:∀ k,k<p→at0 f k<c:=fun k K=>by have:=y k K;omega
 have C:=qt6 h o r s;have l:(if at0 f (f.length-1)<(if at0 f 0 > x then at0 f 0 else x) then at0 f (f.length-1) else(if at0 f 0 > x then at0 f 0 else x))=c:=A.symm;have g:W64 ((f.length:Int)-1)=((f.length-1:Nat):Int):=by rw[qfF (by omega)];omega
 have T:=h.at_ p o;have m:∀ (R:Int×Int×Int),Ev (fun n=>qbM f x (at0 f 0) (at0 f (f.length-1)) n (p:Int)) (.ret R)→Ev (fun n=>qfn n f x) R:=by
  intro R F;have t:∀ d j,j=p+d→j<f.length→Ev (fun n=>qbM f x (at0 f 0) (at0 f (f.length-1)) n (j:Int)) (.ret R):=by
   intro d
   induction d with
   | zero=>intro j J _;rw[show j=p by omega];exact F
   | succ d ih=>
    intro j J B;have H:=h.inc j p (by omega) B;refine Ev.succ ?_;simp only[qbM,show decide ((j:Int) ≥ 0)=true from decide_eq_true (by omega),cond_true,qao B,jd,l];refine Ev.ff (beq_eq_false_iff_ne.2 (by omega)) (Ev.ff (decide_eq_false (by omega)) ?_);rw[show(j:Int)-1=((j-1:Nat):Int) by omega,qR (by omega) (by omega)];exact ih (j-1) (by omega) (by omega)
  unfold qfn;rw[show(0:Int)=((0:Nat):Int) from rfl,qao (show 0<f.length by omega),g,qao (show f.length-1<f.length by omega)];simp only[jd];exact Ev.bind (t (f.length-1-p) (f.length-1) (by omega) (by omega)) .done
 by_cases u:at0 f p=c
 ·refine⟨p,1,0,⟨o,by omega,by omega,by omega,by omega,fun h=>absurd h (by omega),fun _=>rfl⟩,m _ (Ev.succ ?_),?_⟩
  ·simp only[qbM,show decide ((p:Int) ≥ 0)=true from decide_eq_true (by omega),cond_true,qao o,jd,l];exact Ev.tt (beq_iff_eq.2 u.symm) .done
  ·unfold qhD;rw[show(0:Int)=((0:Nat):Int) from rfl,qao (show 0<f.length by omega),g,qao (show f.length-1<f.length by omega)];simp only[jd,l];exact Ev.bind C (Ev.tt (beq_iff_eq.2 u) (Ev.now Z))
 ·have O:0<p:=by
   refine Nat.pos_of_ne_zero fun e=>u ?_;rw[e] at r ⊢;omega
  have N:=s (p-1) (by omega);have S:=h.at_ (p-1) (by omega);have z:((p:Int)-1)=((p-1:Nat):Int):=by omega
  refine⟨p-1,at0 f p-c,c-at0 f (p-1),⟨by omega,by omega,by omega,by omega,by omega,fun _=>by omega,fun h=>absurd h (by omega)⟩,m _ (Ev.succ ?_),?_⟩
  ·simp only[qbM,show decide ((p:Int) ≥ 0)=true from decide_eq_true (by omega),cond_true,qao o,jd,l];refine Ev.ff (beq_eq_false_iff_ne.2 (by omega)) (Ev.ff (decide_eq_false (by omega)) ?_);rw[z,qR (x:=((p-1:Nat):Int)) (by omega) (by omega)];refine Ev.succ ?_;simp only[qbM,show decide (((p-1:Nat):Int) ≥ 0)=true from decide_eq_true (by omega),cond_true,qao (show p-1<f.length by omega),jd,l];refine Ev.ff (beq_eq_false_iff_ne.2 (by omega)) (Ev.tt (decide_eq_true (by omega)) ?_);rw[qhQ (show p-1<9223372036854775807 by omega),show p-1+1=p by omega,qao o];simp only[jd];rw[wO (at0 f p-c),wO (c-at0 f (p-1))];exact .done
  ·unfold qhD;rw[show(0:Int)=((0:Nat):Int) from rfl,qao (show 0<f.length by omega),g,qao (show f.length-1<f.length by omega)];simp only[jd,l];refine Ev.bind C (Ev.ff (beq_eq_false_iff_ne.2 u) ?_);rw[qao o,z,qR (x:=((p-1:Nat):Int)) (by omega) (by omega),qao (show p-1<f.length by omega)];simp only[jd];rw[wO (at0 f p-c),wO (c-at0 f (p-1)),wO (at0 f p-at0 f (p-1))];refine Ev.now ?_;unfold wtL;rw[if_neg (by omega),show p-1+1=p by omega]
   congr 2
   omega

structure TbOk (t:qL):Prop where
 s:AxOk t.Bq
 l:AxOk t.Bn
 n:t.Bj.length=t.Bq.length*t.Bn.length
 v:∀ k,-1000000≤at0 t.Bj k∧at0 t.Bj k≤1000000
theorem qtv {xs:List Int}{k:Nat}(h:¬ k<xs.length):at0 xs k=0:=by simp[at0,jw,List.getElem?_eq_none (show xs.length≤k by omega)]
theorem qtV {t:qL}(h:tableB t=true):TbOk t:=by
 unfold tableB at h;simp only[je,decide_eq_true_eq] at h;obtain⟨c,f,g,a⟩:=h;rw[qg2 (d:=0),qah] at a;refine⟨qr8 c,qr8 f,g,fun k=>?_⟩;by_cases b:k<t.Bj.length
 ·have:=a k b;rw[qbb] at this;exact this
 ·rw[qtv b];omega
def tv (t:qL)(i j:Nat):Int:=at0 t.Bj (i*t.Bn.length+j)
theorem mulA {x y Y:Int}(a:0≤x)(c:-Y≤y)(d:y≤Y):-(x*Y)≤x*y∧x*y≤x*Y:=by
 have f:=Int.mul_le_mul_of_nonneg_left d a;have b:=Int.mul_le_mul_of_nonneg_left c a;rw[Int.mul_neg] at b;exact⟨b,f⟩
theorem mulT {w q v:Int}(d:0≤w)(w1:w≤100000)(b:0≤q)(c:q≤100000)(h:-1000000≤v)(i:v≤1000000):(0≤w*q∧w*q≤10000000000)∧(-10000000000000000≤w*q*v∧w*q*v≤10000000000000000):=by
 have a:=jS d b;have f:w*q≤100000*100000:=jV w1 c b (by omega);have g:=mulA (x:=w*q) (y:=v) (Y:=1000000) a (by omega) (by omega);refine⟨⟨a,by omega⟩,?_,?_⟩<;>omega
theorem qwD {t:qL}{i j:Nat}(h:TbOk t)(hi:i<t.Bq.length)(f:j<t.Bn.length):i*t.Bn.length+j<t.Bj.length∧t.Bj.length≤16:=by
 have a:=h.s.hi;have b:=h.l.hi;have c:(i+1)*t.Bn.length≤t.Bq.length*t.Bn.length:=jr _ hi;have d:t.Bq.length*t.Bn.length≤4*4:=Nat.mul_le_mul a b;rw[h.n];rw[Nat.add_mul] at c;omega
theorem sTerm {t:qL}(h:TbOk t){i j c k:Nat}{a1 b1 a2 b2 w q s:Int}(I:c<2)(J:k<2)(B:w=if c=1 then b1 else a1)(f:q=if k=0 then a2 else b2)
  (F:0≤w) (w1:w≤100000) (C:0≤q) (D:q≤100000) (hi:0<w→i+c<t.Bq.length) (z:0<q→j+k<t.Bn.length) (s0:-1000000000000000000≤s) (s1:s≤1000000000000000000) (n:Nat) :
  qcA t (i:Int) a1 b1 (j:Int) a2 b2 (c:Int) (n+1) s (k:Int)=qcA t (i:Int) a1 b1 (j:Int) a2 b2 (c:Int) n (s+w*q*tv t (i+c) (j+k)) ((k+1:Nat):Int):=by
 have l:=h.v ((i+c)*t.Bn.length+(j+k));obtain⟨⟨M,N⟩,O,P⟩:=mulT F w1 C D l.1 l.2;have o:(bif ((c:Int)==1) then V b1 else V a1)=V w:=by
  rw[B];by_cases a:c=1
  ·rw[if_pos a,a];rfl
  ·rw[if_neg a,show((c:Int)==1)=false from beq_eq_false_iff_ne.2 (by omega)];rfl
 have p:(bif ((k:Int)==0) then V (W64 (w*a2)) else V (W64 (w*b2)))=V (w*q):=by
  have m:W64 (w*q)=w*q:=qR (by omega) (by omega);by_cases a:k=0
  ·rw[if_pos a] at f;rw[a,←f,m];rfl
  ·rw[if_neg a] at f;rw[show((k:Int)==0)=false from beq_eq_false_iff_ne.2 (by omega),←f,m];rfl
 rw[qcA];simp only[show decide ((k:Int)<2)=true from decide_eq_true (by omega),cond_true,o,p,jd,wS k];by_cases d:w*q > 0
 ·have b:0<w:=by
   by_cases e:w=0
   ·rw[e,Int.zero_mul] at d;omega
   ·omega
  have g:0<q:=by
   by_cases e:q=0
   ·rw[e,Int.mul_zero] at d;omega
   ·omega
  obtain⟨H,Q⟩:=qwD h (hi b) (z g);have K:=h.l.hi;have L:=h.s.hi;have y:=hi b;have A:((i+c:Nat):Int)*(t.Bn.length:Int)=(((i+c)*t.Bn.length:Nat):Int):=(Int.natCast_mul _ _).symm;have u:W64 (W64 (W64 (W64 ((i:Int)+(c:Int))*(t.Bn.length:Int))+(j:Int))+(k:Int))=(((i+c)*t.Bn.length+(j+k):Nat):Int):=by
   rw[wO ((i:Int)+(c:Int)),←Int.natCast_add,A,qR (x:=(((i+c)*t.Bn.length:Nat):Int)) (by omega) (by omega),←Int.natCast_add,qR (x:=(((i+c)*t.Bn.length+j:Nat):Int)) (by omega) (by omega),←Int.natCast_add,qR (by omega) (by omega),Nat.add_assoc]
  rw[show decide (w*q > 0)=true from decide_eq_true d,u,qao H];simp only[cond_true,jd];have r:W64 (s+W64 (w*q*at0 t.Bj ((i+c)*t.Bn.length+(j+k))))=s+w*q*tv t (i+c) (j+k):=by
   unfold tv;rw[qR (x:=w*q*at0 t.Bj ((i+c)*t.Bn.length+(j+k))) (by omega) (by omega),qR (by omega) (by omega)]
  rw[r]
 ·have v:w*q=0:=by omega
  rw[show decide (w*q > 0)=false from decide_eq_false d,v,Int.zero_mul,Jf]
  rfl
def rowS (t:qL)(j:Nat)(a2 b2:Int)(i:Nat):Int:=a2*tv t i j+b2*tv t i (j+1)
theorem qlL {t:qL}(h:TbOk t){i j:Nat}:-1000000≤tv t i j∧tv t i j≤1000000:=h.v _
theorem qrL {t:qL}(h:TbOk t){i j:Nat}{a2 b2:Int}(a0:0≤a2)(b0:0≤b2):-((a2+b2)*1000000)≤rowS t j a2 b2 i∧rowS t j a2 b2 i≤(a2+b2)*1000000:=by
 have a:=mulA (x:=a2) (y:=tv t i j) (Y:=1000000) a0 (qlL h).1 (qlL h).2;have b:=mulA (x:=b2) (y:=tv t i (j+1)) (Y:=1000000) b0 (qlL h).1 (qlL h).2;unfold rowS;omega
theorem sRow {t:qL}(h:TbOk t){i j c:Nat}{a1 b1 a2 b2 w s:Int}(d:c<2)(f:w=if c=1 then b1 else a1)(b:0≤w)(w1:w≤100000)(hi:0<w→i+c<t.Bq.length)(a:Wt t.Bn j a2 b2)
  (s0:-100000000000000000≤s) (s1:s≤100000000000000000):Ev (fun n=>qcA t (i:Int) a1 b1 (j:Int) a2 b2 (c:Int) n s 0) (s+w*rowS t j a2 b2 (i+c),2):=by
 have l:=a.a0;have g:=a.b0;have m:=(mulT b w1 (show 0≤a2 by omega) a.a1 (qlL h (i:=i+c) (j:=j)).1 (qlL h).2).2;refine Ev.step (fun n=>sTerm h d (k:=0) (w:=w) (q:=a2) (by omega) f Z b w1 (by omega) a.a1 hi (fun _=>a.il) (by omega) (by omega) n) ?_;refine Ev.step (fun n=>sTerm h d (k:=1) (w:=w) (q:=b2) (by omega) f Z b w1 g a.b1 hi a.nx (by show _≤s+w*a2*tv t (i+c) (j+0);rw[Nat.add_zero];omega) (by show s+w*a2*tv t (i+c) (j+0)≤_;rw[Nat.add_zero];omega) n) ?_;refine Ev.succ ?_;simp only[qcA,show decide (((1+1:Nat):Int)<2)=false from rfl,cond_false];refine Ev.now ?_;unfold rowS;rw[Int.mul_add,←Jb,←Jb,Int.add_assoc,Nat.add_zero]
 rfl
theorem iTerm {t:qL}(h:TbOk t){a:List Tweight}{i j k:Nat}{w q s:Int}(m:k<a.length)(A:a.length≤2)(p:idx a (k:Int)=V ⟨(j:Int),q⟩)(c:0≤w)(w1:w≤100000)(r:0≤q)(u:q≤100000)
  (hi:i<t.Bq.length) (l:j<t.Bn.length) (s0:-1000000000000000000≤s) (s1:s≤1000000000000000000) (n:Nat) :
  qbj t a ⟨(i:Int),w⟩ (n+1) s (k:Int)=qbj t a ⟨(i:Int),w⟩ n (s+w*q*tv t i j) ((k+1:Nat):Int):=by
 have b:=qlL h (i:=i) (j:=j);obtain⟨_,C,D⟩:=mulT c w1 r u b.1 b.2;have F:=mulA (x:=w) (y:=tv t i j) (Y:=1000000) c b.1 b.2;obtain⟨v,H⟩:=qwD h hi l;have z:=h.l.hi;have B:=h.s.hi;have o:(i:Int)*(t.Bn.length:Int)=((i*t.Bn.length:Nat):Int):=(Int.natCast_mul _ _).symm;rw[qbj];simp only[qp m,cond_true,p,jd,wS k,o];rw[qR (x:=((i*t.Bn.length:Nat):Int)) (by omega) (by omega),←Int.natCast_add,qR (x:=((i*t.Bn.length+j:Nat):Int)) (by omega) (by omega),qao v];simp only[jd];have d:W64 (s+W64 (W64 (at0 t.Bj (i*t.Bn.length+j)*w)*q))=s+w*q*tv t i j:=by
  have f:at0 t.Bj (i*t.Bn.length+j)*w=w*tv t i j:=Int.mul_comm _ _;have g:w*tv t i j*q=w*q*tv t i j:=by rw[Jb,Int.mul_comm (tv t i j) q,←Jb]
  rw[f,wO (w*tv t i j),g,wO (w*q*tv t i j),qR (by omega) (by omega)]
 rw[d]
theorem iRow {t:qL}(h:TbOk t){i j:Nat}{a2 b2 w s:Int}(b:0≤w)(w1:w≤100000)(hi:i<t.Bq.length)(a:Wt t.Bn j a2 b2)
  (s0:-100000000000000000≤s) (s1:s≤100000000000000000):Ev (fun n=>qbj t (wtL j a2 b2) ⟨(i:Int),w⟩ n s 0) (s+w*rowS t j a2 b2 i,((wtL j a2 b2).length:Int)):=by
 have l:=a.a0;have g:=a.b0;have m:=(mulT b w1 (show 0≤a2 by omega) a.a1 (qlL h (i:=i) (j:=j)).1 (qlL h).2).2;by_cases c:b2=0
 ·have f:=a.one c;subst c f;have d:wtL j 1 0=[⟨(j:Int),1⟩]:=if_pos Z;rw[d];refine Ev.step (fun n=>iTerm h (k:=0) (q:=1) (by simp) (by simp) Z b w1 (by omega) (by omega) hi a.il (by omega) (by omega) n) (Ev.succ ?_);simp only[qbj];refine Ev.ff Z (Ev.now ?_);unfold rowS;rw[Int.mul_one,Int.one_mul,Int.zero_mul,Jf]
  rfl
 ·have d:wtL j a2 b2=[⟨(j:Int),a2⟩,⟨((j+1:Nat):Int),b2⟩]:=if_neg c;rw[d];refine Ev.step (fun n=>iTerm h (k:=0) (q:=a2) (by simp) (by simp) Z b w1 (by omega) a.a1 hi a.il (by omega) (by omega) n) ?_;refine Ev.step (fun n=>iTerm h (k:=1) (j:=j+1) (q:=b2) (by simp) (by simp) Z b w1 g a.b1 hi (a.nx (by omega)) (by omega) (by omega) n) (Ev.succ ?_);simp only[qbj];refine Ev.ff Z (Ev.now ?_);unfold rowS;rw[Int.mul_add,←Jb,←Jb,Int.add_assoc]
  rfl
def sumS (t:qL)(i j:Nat)(a1 b1 a2 b2:Int):Int:=a1*rowS t j a2 b2 i+b1*rowS t j a2 b2 (i+1)
theorem rowT {t:qL}(h:TbOk t){i j:Nat}{w a2 b2:Int}(f:0≤w)(w1:w≤100000)(a:Wt t.Bn j a2 b2):-20000000000000000≤w*rowS t j a2 b2 i∧w*rowS t j a2 b2 i≤20000000000000000:=by
 have l:=a.a0;have c:=a.b0;have b:=a.a1;have d:=a.b1;have g:=qrL h (i:=i) (j:=j) (a2:=a2) (b2:=b2) (by omega) c;have k:=mulA (x:=w) (y:=rowS t j a2 b2 i) (Y:=200000000000) f (by omega) (by omega);omega
theorem qto {t:qL}(h:TbOk t)(sl ld:Int):∃ S D:Int,0<D∧S≤D*1000000∧-(D*1000000)≤S∧-9000000000000000000≤S∧S≤9000000000000000000∧((∀ k,0≤at0 t.Bj k)→0≤S) ∧
  ∀ mode,Ev (fun n=>qhA n t sl ld mode) (divI S D mode)∧Ev (fun n=>qd0 n t sl ld mode) (divI S D mode):=by
 obtain⟨i,a1,b1,W1,p1,F⟩:=qqq h.s sl;obtain⟨j,a2,b2,W2,C,H⟩:=qqq h.l ld;have A:=W1.a0;have a:=W1.b0;have B:=W2.a0;have b:=W2.b0;have d:=W1.a1;have f:=W1.b1;have I:=W2.a1;have J:=W2.b1;have r1:=rowT h (i:=i) (w:=a1) (by omega) d W2;have L:=rowT h (i:=i+1) (w:=b1) a f W2;have u:=qrL h (i:=i) (j:=j) (a2:=a2) (b2:=b2) (by omega) b;have v:=qrL h (i:=i+1) (j:=j) (a2:=a2) (b2:=b2) (by omega) b;have M:=mulA (x:=a1) (y:=rowS t j a2 b2 i) (Y:=(a2+b2)*1000000) (by omega) u.1 u.2;have N:=mulA (x:=b1) (y:=rowS t j a2 b2 (i+1)) (Y:=(a2+b2)*1000000) a v.1 v.2;have K:a1*((a2+b2)*1000000)+b1*((a2+b2)*1000000)=(a1+b1)*(a2+b2)*1000000:=by rw[←Int.add_mul,Jb]
 have D0:0<(a1+b1)*(a2+b2):=Int.mul_pos (by omega) (by omega);have D1:(a1+b1)*(a2+b2)≤200000*200000:=jV (by omega) (by omega) (by omega) (by omega);refine⟨sumS t i j a1 b1 a2 b2,(a1+b1)*(a2+b2),D0,by unfold sumS;omega,by unfold sumS;omega,by unfold sumS;omega,by unfold sumS;omega,fun s=>?_,fun mode=>⟨?_,?_⟩⟩
 ·have r:∀ i,0≤rowS t j a2 b2 i:=fun i=>Int.add_nonneg (jS (by omega) (s _)) (jS b (s _));exact Int.add_nonneg (jS (by omega) (r _)) (jS a (r _))
 ·have l:Ev (fun n=>qee t (i:Int) a1 b1 (j:Int) a2 b2 n 0 0) (sumS t i j a1 b1 a2 b2,2):=by
   refine Ev.succ ?_;simp only[qee];refine Ev.tt Z (Ev.bind (sRow h (c:=0) (w:=a1) (by omega) Z (by omega) d (fun _=>W1.il) W2 (by omega) (by omega)) ?_);refine Ev.succ ?_;simp only[qee];refine Ev.tt Z (Ev.bind (sRow h (c:=1) (w:=b1) (by omega) Z a f W1.nx W2 (by rw[Nat.add_zero];omega) (by rw[Nat.add_zero];omega)) ?_);refine Ev.succ ?_;simp only[qee];refine Ev.ff Z (Ev.now ?_);unfold sumS;rw[Int.zero_add,Nat.add_zero]
   rfl
  unfold qhA;refine Ev.bind p1 (Ev.bind C (Ev.bind l ?_));show Ev (fun n=>(qcP n (sumS t i j a1 b1 a2 b2) (W64 (W64 (a1+b1)*W64 (a2+b2))) mode).bind fun p=>V p) _;rw[wO (a1+b1),wO (a2+b2),wO ((a1+b1)*(a2+b2))];exact Ev.bind ⟨0,fun n _=>qkf D0 (by unfold sumS;omega) (by unfold sumS;omega)⟩ .done
 ·have l:Ev (fun n=>qbf t (wtL i a1 b1) (wtL j a2 b2) n 0 0) (sumS t i j a1 b1 a2 b2,((wtL i a1 b1).length:Int)):=by
   by_cases g:b1=0
   ·have z:=W1.one g;subst g z;have o:wtL i 1 0=[⟨(i:Int),1⟩]:=if_pos Z;rw[o];refine Ev.succ ?_;simp only[qbf];refine Ev.tt Z (Ev.bind (Ev.now Z) (Ev.bind (iRow h (i:=i) (w:=1) (by omega) (by omega) W1.il W2 (by omega) (by omega)) (Ev.succ ?_)));simp only[qbf];refine Ev.ff Z (Ev.now ?_);unfold sumS;rw[Int.zero_add,Int.zero_mul,Jf]
    rfl
   ·have o:wtL i a1 b1=[⟨(i:Int),a1⟩,⟨((i+1:Nat):Int),b1⟩]:=if_neg g;rw[o];refine Ev.succ ?_;simp only[qbf];refine Ev.tt Z (Ev.bind (Ev.now Z) (Ev.bind (iRow h (i:=i) (w:=a1) (by omega) d W1.il W2 (by omega) (by omega)) (Ev.succ ?_)));simp only[qbf];refine Ev.tt Z (Ev.bind (Ev.now Z) (Ev.bind (iRow h (i:=i+1) (w:=b1) a f (W1.nx (by omega)) W2 (by omega) (by omega)) (Ev.succ ?_)));simp only[qbf];refine Ev.ff Z (Ev.now ?_);unfold sumS;rw[Int.zero_add]
    rfl
  unfold qd0;refine Ev.bind F (Ev.bind H (Ev.bind l ?_));show Ev (fun n=>(qfI n (sumS t i j a1 b1 a2 b2) (W64 ((a1+b1)*(a2+b2))) mode).bind fun p=>V p) _;rw[wO ((a1+b1)*(a2+b2))];exact Ev.bind ⟨0,fun n _=>(qru (m:=0)).trans (qkf D0 (by unfold sumS;omega) (by unfold sumS;omega))⟩ .done

theorem qtI {b:qe}(h:blockB b=true){j:Nat}(d:j<(places b.Aa).length){n:Nat}:qkG n b.Ar b.Aa (toSp (gt (places b.Aa) j))=V (capJ b j):=by
 have c:=qay h;unfold capJ pinCap;rcases qkM d with⟨i,k,hi,hk,_,e⟩|⟨i,hi,_,e⟩
 ·rw[e];obtain⟨⟨a,c1⟩,f,_⟩:=qhq c hi;unfold place1 cellAt toSp;simp only[qkG,show decide ((i:Int)<0)=false by simp,cond_false,qz hi,jd,qdW a c1,jp,qz (show k<(gt b.Ar.As (gt b.Aa.Ab i).Bv.toNat).Bh.length by omega)]
 ·rw[e];rfl
theorem qpg {b:qe}(h:blockB b=true){i:Nat}(hi:i<b.Af.length):Ev (fun n=>qhU n b (i:Int)) (loadsL b i):=by
 have c:=qbK h hi;have p:=qag (qay h);have x:=c.lo;have u:=c.hi;have d:=c.cap;have z:=qhu h (i:=i);have e1:Ev (fun n=>qdH b (gt b.Af i) ((places b.Aa).map toSp) (skL b i) n (gt b.Af i).Br 0) (ldA b (gt b.Af i) (skL b i) (skL b i).length,((skL b i).length:Int)):=by
  refine loopF (Lf:=qdH b (gt b.Af i) ((places b.Aa).map toSp) (skL b i)) (S:=ldA b (gt b.Af i) (skL b i)) (len:=(skL b i).length) (fun n=>?_) (fun j a X o=>?_)
  ·simp only[qdH,qq (jf _),cond_false]
  ·obtain⟨y,l,m,_⟩:=qnC a;have f:j<(gt b.Af i).Bl.length:=by rw[c.snk];exact a
   have k:=c.sin j f;have v:=qnX (b:=b) (w:=gt b.Af i) (sk:=skL b i) (j:=j);have g:idx ((places b.Aa).map toSp) (y:Int)=V (toSp (gt (places b.Aa) y)):=by
    refine qg8 ?_;rw[List.getElem?_map,jn l,qeo l];rfl
   have s:=fun n=>qtI h l (n:=n);simp only[qdH,qp a,cond_true,qao a,m,jd,qao f,qdW k.1 (show at0 (gt b.Af i).Bl j<((ldA b (gt b.Af i) (skL b i) j).length:Int) by omega),g,s,wS j];have:ldA b (gt b.Af i) (skL b i) (j+1)=setS (ldA b (gt b.Af i) (skL b i) j) (at0 (gt b.Af i).Bl j) (W64 (gt (ldA b (gt b.Af i) (skL b i) j) (at0 (gt b.Af i).Bl j).toNat+capJ b y)):=by
    show addSink _ _ _ _ _=_;unfold addSink;rw[m,jp]
   rw[this] at o;exact o
 have r:∀ j t,t.length=(gt b.Af i).Ak.length→j<(gt b.Af i).Ak.length→Ev (fun n=>qdJ (gt b.Af i) n t (j:Int)) (ldB (gt b.Af i) j t,0):=by
  intro j
  induction j with
  | zero=>
   intro t _ _;refine Ev.succ ?_;show Ev (fun n=>qdJ (gt b.Af i) (n+1) t 0) _;unfold qdJ;exact Ev.ff Z .done
  | succ j ih=>
   intro t A a;have g:=c.par (j+1) (by omega) a;refine Ev.succ ?_;simp only[qdJ,show decide (((j+1:Nat):Int) > 0)=true from decide_eq_true (by omega),cond_true,qao a,jd,qdW g.1 (show at0 (gt b.Af i).Ak (j+1)<(t.length:Int) by omega),qz (show j+1<t.length by omega),show((j+1:Nat):Int)-1=(j:Int) by omega,qR (show -9223372036854775808≤(j:Int) by omega) (by omega)];exact ih _ (by rw[qa8];exact A) (by omega)
 unfold qhU qet;rw[qz hi];simp only[jd,qcT (show([]:List Int).length+(gt b.Af i).Br.length≤2147483648 by simp;omega),List.nil_append];refine Ev.bind (qgn p) (Ev.bind (qkJ p) (Ev.bind e1 ?_));rw[qfF (show(gt b.Af i).Br.length≤9223372036854775807 by omega),show((gt b.Af i).Br.length:Int)-1=(((gt b.Af i).Ak.length-1:Nat):Int) by omega];exact Ev.bind (r _ _ (by rw[qnX];exact d) (by omega)) .done
theorem qn5 {b:qe}(h:blockB b=true){i:Nat}(hi:i<b.Af.length):Ev (fun n=>qhf n b (i:Int)) (delaysL b i):=by
 have f:=qbK h hi;have o:=f.lo;have m:=f.hi;have l:=f.res;have l1:=qlN h hi;have c:∀ d k,k+1+d=(gt b.Af i).Ak.length→Ev (fun n=>qd3 (gt b.Af i) (loadsL b i) n (dlL (gt b.Af i) (loadsL b i) k) ((k+1:Nat):Int)) (delaysL b i,((loadsL b i).length:Int)):=by
  intro d
  induction d with
  | zero=>
   intro k g;refine Ev.succ ?_;simp only[qd3,qq (show(loadsL b i).length≤k+1 by omega),cond_false];refine Ev.now ?_;rw[l1,←g];unfold delaysL;rw[←g]
   rfl
  | succ d ih=>
   intro k g;have p:=f.par (k+1) (by omega) (by omega);have a:=qoc (w:=gt b.Af i) (ld:=loadsL b i) (k:=k);refine Ev.succ ?_;simp only[qd3,qp (show k+1<(loadsL b i).length by omega),cond_true,qao (show k+1<(gt b.Af i).Ak.length by omega),jd,qdW p.1 (show at0 (gt b.Af i).Ak (k+1)<((dlL (gt b.Af i) (loadsL b i) k).length:Int) by omega),
    qao (show k+1<(gt b.Af i).Bw.length by omega),qz (show k+1<(loadsL b i).length by omega),qhQ (show k+1<9223372036854775807 by omega)]
   rw[qcT (by rw[a,jh];omega)];exact ih (k+1) (by omega)
 unfold qhf;rw[qz hi];simp only[jd];refine Ev.bind (qpg h hi) ?_;exact Ev.bind (c ((gt b.Af i).Ak.length-1) 0 (by omega)) .done
theorem qi2 {b:qe}(h:blockB b=true){i:Nat}(hi:i<b.Af.length){mode:Int}:Ev (fun n=>qgs n b (i:Int) mode) ((exactL b i).map fun x=>divI x 1000 mode):=by
 have k:=qbK h hi;have r:(gt b.Af i).Bl.length≤78:=by rw[k.snk];exact qhu h
 have p:=qmC h hi;have l:Ev (fun n=>qbW b (i:Int) mode (delaysL b i) n ([]:List Int) 0) ((exactL b i).map (fun x=>divI x 1000 mode),((gt b.Af i).Bl.length:Int)):=by
  refine loopF (Lf:=qbW b (i:Int) mode (delaysL b i)) (S:=fun j=>(((gt b.Af i).Bl.take j).map fun s=>gt (delaysL b i) s.toNat).map fun x=>divI x 1000 mode) (len:=(gt b.Af i).Bl.length) (fun n=>?_) (fun j c X o=>?_)
  ·simp only[qbW,qz hi,jd,qq (jf _),cond_false,jJ];rfl
  ·have g:=k.sin j c;have f:=qnL h hi c;have m:gt (exactL b i) j=gt (delaysL b i) (at0 (gt b.Af i).Bl j).toNat:=by
    unfold exactL;rw[qeo (by rw[jv];exact c),List.getElem_map,qkp c]
   rw[m] at f;have d:=fun n=>qkf (n:=n) (a:=gt (delaysL b i) (at0 (gt b.Af i).Bl j).toNat) (b:=1000) (mode:=mode) (by omega) (by omega) (by omega);simp only[qbW,qz hi,jd,qp c,cond_true,qao c,qdW g.1 (show at0 (gt b.Af i).Bl j<((delaysL b i).length:Int) by omega),d,wS j];rw[qcT (by rw[jv,jv,jM,jh];omega)];have:(((gt b.Af i).Bl.take j).map (fun s=>gt (delaysL b i) s.toNat)).map (fun x=>divI x 1000 mode)++[divI (gt (delaysL b i) (at0 (gt b.Af i).Bl j).toNat) 1000 mode]=(((gt b.Af i).Bl.take (j+1)).map fun s=>gt (delaysL b i) s.toNat).map fun x=>divI x 1000 mode:=by
    rw[jz c,jW,jW,qkp c];rfl
   rw[this];exact o
 unfold qgs;exact Ev.bind (qn5 h hi) (Ev.bind l .done)

instance:Inhabited qj:=⟨⟨0,⟨0,0⟩,⟨0,0⟩⟩⟩
instance:Inhabited qf:=⟨⟨0,0⟩⟩
def cornerB (c:qy):Bool:=(inI c.Av 100 5000&&(inI c.Ba 100 5000&&(inI c.Au 100 5000&&inI c.Bb 100 5000)))&&(nameB c.Bi&&(decide (c.Av≤c.Ba)&&decide (c.Au≤c.Bb)))
theorem qrz {c:qy}(h:okS c.Bi):Ev (fun n=>qh1 n c) (cornerB c):=by
 have a:Ev (fun n=>qci c n 0) (bif inI c.Av 100 5000&&(inI c.Ba 100 5000&&(inI c.Au 100 5000&&inI c.Bb 100 5000)) then .nxt 4 else .ret false):=by
  refine Ev.succ ?_;simp only[qci,qcY,show idx ([c.Av,c.Ba,c.Au,c.Bb]:List Int) 0=V c.Av from rfl,jd];refine Ev.tt Z ?_;cases inI c.Av 100 5000
  ·exact .done
  refine Ev.ff Z (Ev.succ ?_);simp only[qci,qcY,show W64 (0+1)=1 from rfl,show idx ([c.Av,c.Ba,c.Au,c.Bb]:List Int) 1=V c.Ba from rfl,jd];refine Ev.tt Z ?_;cases inI c.Ba 100 5000
  ·exact .done
  refine Ev.ff Z (Ev.succ ?_);simp only[qci,qcY,show W64 (1+1)=2 from rfl,show idx ([c.Av,c.Ba,c.Au,c.Bb]:List Int) 2=V c.Au from rfl,jd];refine Ev.tt Z ?_;cases inI c.Au 100 5000
  ·exact .done
  refine Ev.ff Z (Ev.succ ?_);simp only[qci,qcY,show W64 (2+1)=3 from rfl,show idx ([c.Av,c.Ba,c.Au,c.Bb]:List Int) 3=V c.Bb from rfl,jd];refine Ev.tt Z ?_;cases inI c.Bb 100 5000
  ·exact .done
  refine Ev.ff Z (Ev.succ ?_);simp only[qci];exact Ev.ff Z .done
 unfold qh1 cornerB;refine Ev.bind a ?_;cases inI c.Av 100 5000&&(inI c.Ba 100 5000&&(inI c.Au 100 5000&&inI c.Bb 100 5000))
 ·exact .done
 ·refine Ev.bind (ql2 h) ?_;cases nameB c.Bi
  ·exact .done
  ·cases decide (c.Av≤c.Ba)<;>exact .done
theorem qqE {n:Nat}{a b:Int}:qgE n a b=V (decide (a ≥ 100)&&(decide (a≤b)&&decide (b≤5000))):=by
 unfold qgE;cases decide (a ≥ 100)
 ·rfl
 ·cases decide (a≤b)<;>rfl
theorem qst {c:qy}(h:okS c.Bi):Ev (fun n=>qhN n c) (cornerB c):=by
 have e:cornerB c=(nameB c.Bi&&((decide (c.Av ≥ 100)&&(decide (c.Av≤c.Ba)&&decide (c.Ba≤5000)))&&(decide (c.Au ≥ 100)&&(decide (c.Au≤c.Bb)&&decide (c.Bb≤5000))))):=by
  unfold cornerB;rw[jm];simp only[je,qbb,decide_eq_true_eq];constructor
  ·rintro⟨⟨b,d,f,g⟩,a,i,k⟩;refine⟨a,⟨?_,?_,?_⟩,?_,?_,?_⟩<;>omega
  ·rintro⟨a,⟨b,d,f⟩,g,i,k⟩;refine⟨⟨⟨?_,?_⟩,⟨?_,?_⟩,⟨?_,?_⟩,?_,?_⟩,a,?_,?_⟩<;>omega
 rw[e];unfold qhN;simp only[qoN h,qqE,jd];cases nameB c.Bi
 ·exact .done
 ·cases decide (c.Av ≥ 100)&&(decide (c.Av≤c.Ba)&&decide (c.Ba≤5000))<;>exact .done
def spanB (s:qf):Bool:=inI s.Aq (-1000000000) 1000000000&&(inI s.Bd (-1000000000) 1000000000&&decide (s.Aq≤s.Bd))
def slewB (s:qf):Bool:=decide (s.Aq ≥ 0)&&(decide (s.Aq≤s.Bd)&&decide (s.Bd≤1000000))
theorem qp3 {n:Nat}{s:qf}:qij n s=V (spanB s):=by
 unfold qij spanB;simp only[qcY,jd];cases inI s.Aq (-1000000000) 1000000000
 ·rfl
 ·cases inI s.Bd (-1000000000) 1000000000<;>rfl
theorem qoA {n:Nat}{s:qf}:qg4 n s=V (spanB s):=by
 unfold qg4 qkO spanB;simp only[qdG,jd];cases inI s.Aq (-1000000000) 1000000000
 ·rfl
 ·cases inI s.Bd (-1000000000) 1000000000<;>rfl
theorem qrU {n:Nat}{s:qf}:qhR n s=V (slewB s):=by
 unfold qhR slewB;cases decide (s.Aq ≥ 0)
 ·rfl
 ·cases decide (s.Aq≤s.Bd)<;>rfl
theorem qsp {n:Nat}{s:qf}:qhP n s=V (slewB s):=by
 have e:slewB s=(spanB s&&(inI s.Aq 0 1000000&&inI s.Bd 0 1000000)):=by
  unfold slewB spanB;rw[jm];simp only[je,qbb,decide_eq_true_eq];constructor
  ·rintro⟨a,b,c⟩;refine⟨⟨⟨?_,?_⟩,⟨?_,?_⟩,?_⟩,⟨?_,?_⟩,?_,?_⟩<;>omega
  ·rintro⟨⟨a,b,c⟩,d,f⟩;refine⟨?_,?_,?_⟩<;>omega
 rw[e];unfold qhP qkL;simp only[qoA,qdG,jd];cases spanB s
 ·rfl
 ·cases inI s.Aq 0 1000000<;>rfl

theorem qrj {b:qe}{k:Int}(h:blockB b=true){j:Nat}(c:j<(places b.Aa).length)(l:(gt (places b.Aa) j).net=k)(d:(gt (places b.Aa) j).drives=true):Ev (fun n=>qiN n b.Aa k) (j:Int):=by
 have g:=qay h;have p:=qag g;have t:=qaO p;have e:ixL (fun q:Tl05Place=>(q.net==k)&&q.drives) ((places b.Aa).map toSp)=(j:Int):=by
  refine quQ (by simpa using c) ?_ (fun i hi m=>?_)
  ·rw[qnK c];show(((gt (places b.Aa) j).net==k)&&(gt (places b.Aa) j).drives)=true;rw[l,d];simp
  ·have f:i<(places b.Aa).length:=by simpa using hi
   rw[qnK f] at m;have a:(((gt (places b.Aa) i).net==k)&&(gt (places b.Aa) i).drives)=true:=m;simp only[je,beq_iff_eq] at a;exact qrP g f c (by rw[a.1,l]) a.2 d
 unfold qiN;refine Ev.bind (qgn p) ?_;rw[←e];exact qgb (fin:=(((places b.Aa).map toSp).length:Int)) (Lf:=qc2 k ((places b.Aa).map toSp)) (xs:=(places b.Aa).map toSp) (pf:=fun _ (q:Tl05Place)=>V ((q.net==k)&&q.drives)) (fun _ _=>.done)
  (fun n=>by simp only[qc2,qq (jf _),cond_false])
  (fun n j x r=>by
   have c:=(List.getElem?_eq_some_iff.1 r).1;have s:j<(places b.Aa).length:=by simpa using c
   simp only[qc2,qp c,cond_true,qg8 r,jd,wS j];cases (x.net==k)<;>cases x.drives<;>rfl)
  (fun n=>by congr 1;funext o;cases o<;>rfl)
theorem qpP {b:qe}{i k:Nat}(h:blockB b=true)(hi:i<b.Aa.Ab.length)(s:k<(gt b.Aa.Ab i).Am.length):Ev (fun n=>qiO n b.Aa (i:Int) (k:Int)) ((off b.Aa i+k:Nat):Int):=by
 have p:=qay h;have f:=qag p;have u:=qaO f;obtain⟨c,l⟩:=qj6 hi s;have e:ixL (fun q:Tl05Place=>(q.instance_==(i:Int))&&(q.pin==(k:Int))) ((places b.Aa).map toSp)=((off b.Aa i+k:Nat):Int):=by
  refine quQ (by simpa using c) ?_ (fun m t a=>?_)
  ·rw[qnK c,l];unfold place1 toSp;simp
  ·have d:m<(places b.Aa).length:=by simpa using t
   rw[qnK d] at a;rcases qkM d with⟨i',k',hi',hk',em,e'⟩|⟨i',hi',em,e'⟩
   ·rw[e'] at a;unfold place1 toSp at a;simp only[je,beq_iff_eq] at a;obtain rfl:i'=i:=by omega
    obtain rfl:k'=k:=by omega
    exact em
   ·rw[e'] at a;unfold place2 toSp at a;simp only[je,beq_iff_eq] at a;omega
 unfold qiO;refine Ev.bind (qgn f) ?_;rw[←e];exact qgb (fin:=(((places b.Aa).map toSp).length:Int)) (Lf:=qed (i:Int) (k:Int) ((places b.Aa).map toSp)) (xs:=(places b.Aa).map toSp) (pf:=fun _ (q:Tl05Place)=>V ((q.instance_==(i:Int))&&(q.pin==(k:Int)))) (fun _ _=>.done)
  (fun n=>by simp only[qed,qq (jf _),cond_false])
  (fun n j x g=>by
   have c:=(List.getElem?_eq_some_iff.1 g).1;have r:j<(places b.Aa).length:=by simpa using c
   simp only[qed,qp c,cond_true,qg8 g,jd,wS j];cases (x.instance_==(i:Int))<;>cases (x.pin==(k:Int))<;>rfl)
  (fun n=>by congr 1;funext o;cases o<;>rfl)
theorem qrr {n:Nat}{xs:List qr}{f t a c k i:Int}(o:xs.length≤1000000)(l:0≤f)(m:f≤1000000)(p:0≤t)(r:t≤1000000)(b:b01 a)(g:b01 c):qfB n xs f t a c k i=V (xs++[⟨2*f+a,2*t+c,k,i⟩]):=by
 have d:0≤a∧a≤1:=by rcases b with e|e<;>omega
 have h:0≤c∧c≤1:=by rcases g with e|e<;>omega
 unfold qfB;rw[wO (2*f),wO (2*t),wO (2*f+a),wO (2*t+c),qcT (by rw[jh];omega)]
 rfl
def fitB (a:qas)(i j:Int):Bool:=bif a.Bf==1 then(bif a.Bp==3 then true else(a.Bp==1)==(i==j)) else bif a.Bf==2 then i==0 else bif a.Bf==3 then i==1 else false
def pcL (a:qas)(f t k i j:Int):List qr:=bif fitB a i j then[⟨2*f+i,2*t+j,1,k⟩] else[]
theorem arcStep {arc:qas}{xs:List qr}{f t k i j:Int}{X:List qr×Int}(l:xs.length≤1000000)(c:0≤f)(d:f≤1000000)(m:0≤t)(o:t≤1000000)(hi:b01 i)(b:b01 j)
  (h:Ev (fun n=>qbg arc f t k i n (xs++pcL arc f t k i j) (j+1)) X):Ev (fun n=>qbg arc f t k i n xs j) X:=by
 have a:0≤j∧j≤1:=by rcases b with e|e<;>omega
 have g:=fun n=>qrr (n:=n) (k:=1) (i:=k) l c d m o hi b;refine Ev.succ ?_;simp only[qbg,g,jd,wO (j+1)];refine Ev.tt (decide_eq_true a.2) ?_;unfold pcL fitB at h;cases h1:arc.Bf==1
 ·cases h2:arc.Bf==2
  ·cases h3:arc.Bf==3
   ·rw[h1,h2,h3] at h;simpa using h
   ·rw[h1,h2,h3] at h;cases h4:i==1
    ·rw[h4] at h;simpa using h
    ·rw[h4] at h;simpa using h
  ·rw[h1,h2] at h;cases h4:i==0
   ·rw[h4] at h;simpa using h
   ·rw[h4] at h;simpa using h
 ·rw[h1] at h;cases h2:arc.Bp==3
  ·rw[h2] at h;cases h4:(arc.Bp==1)==(i==j)
   ·rw[h4] at h;simpa [h4] using h
   ·rw[h4] at h;simpa [h4] using h
  ·rw[h2] at h;simpa using h
theorem qwJ {arc:qas}{xs:List qr}{f t k:Int}(u:xs.length≤900000)(c:0≤f)(d:f≤1000000)(g:0≤t)(h:t≤1000000) :
  Ev (fun n=>qk0 n xs arc f t k) (xs++pcL arc f t k 0 0++pcL arc f t k 0 1++pcL arc f t k 1 0++pcL arc f t k 1 1):=by
 have a:∀ i j,(pcL arc f t k i j).length≤1:=fun i j=>by unfold pcL;cases fitB arc i j<;>simp
 have l:=a 0 0;have m:=a 0 1;have o:=a 1 0;have p:=a 1 1;have b:∀ (i:Int) (ys:List qr),b01 i→ys.length≤900010→Ev (fun n=>qbg arc f t k i n ys 0) (ys++pcL arc f t k i 0++pcL arc f t k i 1,2):=by
  intro i ys hi v;have s:=a i 0;refine arcStep (by omega) c d g h hi (.inl Z) (arcStep (j:=0+1) (by rw[jg];omega) c d g h hi (.inr Z) (Ev.succ ?_));simp only[qbg];exact Ev.ff Z .done
 have r:Ev (fun n=>qfa arc f t k n xs 0) (xs++pcL arc f t k 0 0++pcL arc f t k 0 1++pcL arc f t k 1 0++pcL arc f t k 1 1,2):=by
  refine Ev.succ ?_;simp only[qfa];refine Ev.tt Z (Ev.bind (b 0 xs (.inl Z) (by omega)) ?_);refine Ev.succ ?_;simp only[qfa];refine Ev.tt Z (Ev.bind (b 1 _ (.inr Z) (by simp only[jg];omega)) ?_);refine Ev.succ ?_;simp only[qfa];exact Ev.ff Z .done
 unfold qk0;exact Ev.bind r .done
theorem qur {ps:List qax}{a:qas}(h:arcS ps a=true)(c:a.Bf≤3)(b:1≤a.Bf):(a.Bf=1∧(a.Bp=1∨a.Bp=2∨a.Bp=3))∨a.Bf=2∨a.Bf=3:=by
 rcases (by omega:a.Bf=1∨a.Bf=2∨a.Bf=3) with e|e|e
 ·refine .inl ⟨e,?_⟩;unfold arcS at h;rw[e] at h;simp only[beq_self_eq_true,cond_true,je,qbb] at h;have:=h.2.2.2.1;omega
 ·exact .inr (.inl e)
 ·exact .inr (.inr e)
theorem qvj {ps:List qax}{a:qas}{first:Int}{k:Nat}(h:arcS ps a=true)(c:a.Bf≤3)(b:1≤a.Bf) :
  pcL a (first+a.Bk) (first+a.To) (k:Int) 0 0++pcL a (first+a.Bk) (first+a.To) (k:Int) 0 1++pcL a (first+a.Bk) (first+a.To) (k:Int) 1 0++pcL a (first+a.Bk) (first+a.To) (k:Int) 1 1=arcLs first k a:=by
 unfold arcLs transL pcL fitB;rcases qur h c b with⟨e,e2|e2|e2⟩|e|e
 ·rw[e,e2];rfl
 ·rw[e,e2];rfl
 ·rw[e,e2];rfl
 ·rw[e];rfl
 ·rw[e];rfl
theorem qpa {a:qas}{first:Int}{k:Nat}(h:3<a.Bf):arcLs first k a=[]:=by
 unfold arcLs transL;rw[show(a.Bf==2)=false from beq_eq_false_iff_ne.2 (by omega),show(a.Bf==3)=false from beq_eq_false_iff_ne.2 (by omega),show(a.Bf != 1)=true from bne_iff_ne.2 (by omega)]
 rfl
theorem qdh {b:qe}(h:blockB b=true):Ev (fun n=>qdS n b) (linksL b):=by
 have v:=qay h;have z:=qag v;have hl:=qaO z;have hni:=z.ni;have hnn:=z.nn;have J:=qkr h;have p:(⟨b.Aa.Ab,b.Aa.Am,b.Aa.Ai⟩:qh)=b.Aa:=rfl;have e1:Ev (fun n=>qdL b n ([]:List qr) 0) (instLs b b.Aa.Ab.length,(b.Aa.Ab.length:Int)):=by
  refine loopF (Lf:=qdL b) (S:=instLs b) (len:=b.Aa.Ab.length) (fun n=>?_) (fun j m X g=>?_)
  ·simp only[qdL,qq (jf _),cond_false]
  ·obtain⟨⟨Q,c1⟩,r,l⟩:=qhq v m;have M:=qnI l;have s:=(qhc (qje l)).1;have H:=qjd h (show j≤b.Aa.Ab.length by omega);have O:=qke (d:=b.Aa) (i:=j);have hof:off b.Aa (j+1)≤78:=by
    rw[qg9] at hl;have:=qtk (d:=b.Aa) (show j+1≤b.Aa.Ab.length by omega);omega
   have F:cellAt b (j:Int)=gt b.Ar.As (gt b.Aa.Ab j).Bv.toNat:=rfl;simp only[qdL,qp m,cond_true,qz m,qdW Q c1,jd,wS j];have C:Ev (fun n=>qcO b (j:Int) (cellAt b (j:Int)) n (instLs b j) 0) (instLs b (j+1),((cellAt b (j:Int)).Az.length:Int)):=by
    rw[show instLs b (j+1)=instLs b j++cellLs (cellAt b (j:Int)) (off b.Aa j:Int) (cellAt b (j:Int)).Az.length from qj1];rw[←F] at l r M s;generalize cellAt b (j:Int)=c at l r M s ⊢;have:=loopF (Lf:=qcO b (j:Int) c) (S:=fun k=>instLs b j++cellLs c (off b.Aa j:Int) k) (len:=c.Az.length) (fin:=(instLs b j++cellLs c (off b.Aa j:Int) c.Az.length,(c.Az.length:Int))) (fun n=>by simp only[qcO,qq (jf _),cond_false])
     (fun k o X g=>by
      obtain⟨⟨k1,k5⟩,N,I,Y⟩:=qmF l o;have e:(cellLs c (off b.Aa j:Int) k).length≤4*k:=qoQ fun _ _=>qov;have A:cellLs c (off b.Aa j:Int) (k+1)=cellLs c (off b.Aa j:Int) k++arcLs (off b.Aa j:Int) k (gt c.Az k):=qj1;rw[A] at g;simp only[qcO,qp o,cond_true,qz o,jd,wS k,p];by_cases B:(gt c.Az k).Bf≤3
      ·refine Ev.tt (decide_eq_true B) ?_;have K:=qpP h m (k:=(gt c.Az k).Bk.toNat) (by omega);have L:=qpP h m (k:=(gt c.Az k).To.toNat) (by omega);rw[←qcE N.1] at K;rw[←qcE I.1] at L;refine Ev.bind K (Ev.bind L (Ev.bind (qwJ (by rw[jg];omega) (by omega) (by omega) (by omega) (by omega)) ?_));have u:∀ x:Int,0≤x→((off b.Aa j+x.toNat:Nat):Int)=(off b.Aa j:Int)+x:=fun x hx=>by omega
       rw[u _ N.1,u _ I.1,jt,jt,jt,←jt (pcL _ _ _ _ _ _),←jt (pcL _ _ _ _ _ _++_),qvj Y B k1,jt];exact g
      ·refine Ev.ff (decide_eq_false B) ?_;rw[qpa (by omega),Ja] at g;exact g)
    simpa [cellLs,fm] using this
   exact Ev.bind C g
 have D:∀ (i:Nat) (t:List qr),i<b.Af.length→t.length≤900000→Ev (fun n=>qdP (dvN b.Aa i:Int) (skL b i) n t 0) (t++wlN b i (skL b i).length,((skL b i).length:Int)):=by
  intro i t hi I;have hsm:=qhu h (i:=i);have a3:=(qiH v (k:=i) (by omega)).1;have:=loopF (Lf:=qdP (dvN b.Aa i:Int) (skL b i)) (S:=fun k=>t++wlN b i k) (len:=(skL b i).length) (fin:=(t++wlN b i (skL b i).length,((skL b i).length:Int))) (fun n=>by simp only[qdP,qq (jf _),cond_false])
   (fun k o X g=>by
    obtain⟨y,hy,ey,_⟩:=qnC o;have hwn:=qrw (b:=b) (i:=i) (j:=k);have p1:=fun n=>qrr (n:=n) (xs:=t++wlN b i k) (f:=(dvN b.Aa i:Int)) (t:=at0 (skL b i) k) (a:=0) (c:=0) (k:=2) (i:=(k:Int)) (by rw[jg];omega) (by omega) (by omega) (by omega) (by omega) (.inl Z) (.inl Z);have p2:=fun n=>qrr (n:=n) (xs:=t++wlN b i k++[⟨2*(dvN b.Aa i:Int)+0,2*at0 (skL b i) k+0,2,(k:Int)⟩]) (f:=(dvN b.Aa i:Int)) (t:=at0 (skL b i) k) (a:=1) (c:=1) (k:=2) (i:=(k:Int)) (by rw[jg,jg,jh];omega) (by omega) (by omega) (by omega) (by omega) (.inr Z) (.inr Z);simp only[qdP,qp o,cond_true,qao o,jd,p1,p2,wS k];have A:wlN b i (k+1)=wlN b i k++wl1 (dvN b.Aa i) (at0 (skL b i) k) k:=qj1;rw[A] at g;rw[Jf,Jf,jt,jt];exact g)
  simpa [wlN,fm] using this
 have u:Ev (fun n=>qdy b n (instLs b b.Aa.Ab.length) 0) (linksL b,(b.Aa.Am.length:Int)):=by
  have H:=qjd h (jf _);have:=loopF (Lf:=qdy b) (S:=fun j=>instLs b b.Aa.Ab.length++wireLs b j) (len:=b.Aa.Am.length) (fin:=(linksL b,(b.Aa.Am.length:Int))) (fun n=>by
    simp only[qdy,qq (jf _),cond_false];rw[←J];rfl)
   (fun j m X g=>by
    have P:=qnD h (j:=j);obtain⟨R,d2⟩:=qiH v m;obtain⟨T,W⟩:=qmo.1 d2;simp only[qdy,qp m,cond_true,wS j,p];refine Ev.bind (qrj h R T W) (Ev.bind (qkJ z) (Ev.bind (D j _ (by omega) (by rw[jg];omega)) ?_));rw[jt,show wireLs b j++wlN b j (skL b j).length=wireLs b (j+1) from qj1.symm];exact g)
  simpa [wireLs,fm] using this
 unfold qdS;exact Ev.bind e1 (Ev.bind u .done)
def lvB (br:List Int)(m:Nat):List Bool:=pre (fun k=>!br.any fun y=>y==(k:Int)) m
theorem qjg {br:List Int}{m:Nat}:(lvB br m).length=m:=qj3
theorem qoH {br:List Int}{x:Int}(d:br.length≤1048576):Ev (fun n=>qin n br x) (br.any fun y=>y==x):=by
 have b:Ev (fun n=>qe0 br x n 0) (bif br.any (fun y=>y==x) then .ret true else .nxt (br.length:Int)):=by
  have:=qe3 (Lf:=qe0 br x) (len:=br.length) (f:=fun j=>!(gt br j==x)) (bad:=true) (fin:=.nxt (br.length:Int)) (Ev.succ (by simp only[qe0,qq (jf _),cond_false];exact .done))
   (fun j a X c=>Ev.succ (by
    simp only[qe0,qp a,cond_true,qz a,jd,wS j];cases gt br j==x
    ·exact c
    ·exact .done))
  rw[qtb];refine this.cast ?_;cases allN (fun j=>!(gt br j==x)) br.length<;>rfl
 unfold qin;refine Ev.bind b ?_;cases br.any (fun y=>y==x)<;>exact .done
theorem qg6 {ls:List qr}{br:List Int}(g:ls.length≤10000)(a:br.length≤1048576):Ev (fun n=>qgo n ls br) (lvB br ls.length):=by
 have b:Ev (fun n=>qd7 ls br n ([]:List Bool) 0) (lvB br ls.length,(ls.length:Int)):=by
  refine loopF (Lf:=qd7 ls br) (S:=fun j=>lvB br j) (len:=ls.length) (fun n=>?_) (fun j d X c=>?_)
  ·simp only[qd7,qq (jf _),cond_false]
  ·simp only[qd7,qp d,cond_true,wS j];refine Ev.bind (qoH a) ?_;have e:appS (lvB br j) [!br.any fun y=>y==(j:Int)]=V (lvB br (j+1)):=qoh (f:=fun k:Nat=>!br.any fun y=>y==(k:Int)) (by omega);rw[e];exact c
 unfold qgo;exact Ev.bind b .done
def brB (br:List Int)(m:Nat):Bool:=(br.all fun x=>inI x 0 ((m:Int)-1))&&incB br
theorem qsX {v:Tview}{br:List Int}(A:v.links.length≤10000)(h:brB br v.links.length=true):Ev (fun n=>qgO n (V v) br) (V ⟨V v,lvB br v.links.length⟩):=by
 unfold brB at h;rw[je,qiU,qah] at h;have u:mkS (v.links.length:Int) false=V (pre (fun _=>false) v.links.length):=qlo (by omega);generalize hM:v.links.length=M at A h u ⊢;have m:∀ j i,i<j→j<br.length→gt br i<gt br j:=by
  intro j
  induction j with
  | zero=>intro i hi _;omega
  | succ j ih=>
   intro i hi b;have c:=h.2;unfold incB at c;rw[qah] at c;have c:=c (j+1) b;unfold stepB at c;simp only[Bool.or_eq_true,decide_eq_true_eq,Nat.add_sub_cancel] at c;have s:gt br j<gt br (j+1):=by
    rcases c with c|c
    ·omega
    ·exact c
   by_cases r:i=j
   ·rw[r];exact s
   ·have:=ih i (by omega) (by omega);omega
 have o:∀ j,j<br.length→(j:Int)≤gt br j:=by
  intro j
  induction j with
  | zero=>
   intro b;have:=h.1 0 b;rw[qbb] at this;omega
  | succ j ih=>
   intro b;have:=ih (by omega);have:=m (j+1) j (by omega) b;omega
 have C:br.length≤M:=by
  by_cases D:br.length=0
  ·omega
  ·have F:=o (br.length-1) (by omega);have B:=h.1 (br.length-1) (by omega);rw[qbb] at B;omega
 have e1:Ev (fun n=>qb8 (pre (fun _=>false) M) n (pre (fun _=>false) M) 0) (pre (fun _=>true) M,(M:Int)):=by
  have:=loopF (Lf:=qb8 (pre (fun _=>false) M)) (S:=fun j=>pre (fun k=>decide (k<j)) M) (len:=M) (fin:=(pre (fun _=>true) M,(M:Int))) (fun n=>by
    simp only[qb8,qj3,qq (jf _),cond_false];rw[qhp (g:=fun _=>true) fun k d=>decide_eq_true d])
   (fun j b X l=>by
    simp only[qb8,qj3,qp b,cond_true,qfY (f:=fun k=>decide (k<j)) b,jd,qn6,wS j];have:pre (fun k=>decide (k<j+1)) M=pre (fun k=>if k=j then true else decide (k<j)) M:=qhp fun k _=>by
     by_cases d:k=j
     ·rw[if_pos d,d];simp
     ·rw[if_neg d,decide_eq_decide];omega
    rw[this] at l;exact l)
  simpa using this
 have z:Ev (fun n=>qcb br n (pre (fun _=>true) M) 0) (lvB br M,(br.length:Int)):=by
  have:=loopF (Lf:=qcb br) (S:=fun j=>pre (fun k=>!(br.take j).any fun y=>y==(k:Int)) M) (len:=br.length) (fin:=(lvB br M,(br.length:Int))) (fun n=>by
    simp only[qcb,qq (jf _),cond_false,jJ];rfl)
   (fun j b X l=>by
    have x:=h.1 j b;rw[qbb] at x;obtain⟨a,t⟩:∃ a:Nat,gt br j=(a:Int):=⟨_,qcE x.1⟩;have p:a<M:=by omega
    simp only[qcb,qp b,cond_true,qz b,t,qfY (f:=fun k=>!(br.take j).any fun y=>y==(k:Int)) p,jd,qn6,wS j];have:pre (fun k=>!(br.take (j+1)).any fun y=>y==(k:Int)) M=pre (fun k=>if k=a then false else !(br.take j).any fun y=>y==(k:Int)) M:=qhp fun k _=>by
     rw[jz b,List.any_append,←qeo b,t];by_cases d:k=a
     ·rw[if_pos d,d];simp
     ·rw[if_neg d];have:((a:Int)==(k:Int))=false:=by simp;omega
      simp[this]
    rw[this] at l;exact l)
  simpa using this
 unfold qgO;simp only[jd,hM,u];exact Ev.bind e1 (Ev.bind z .done)
theorem qt3 {br:List Int}{m:Nat}(h:br.length≤1048576)(i:m≤10000):Ev (fun n=>qiB n br (m:Int)) (brB br m):=by
 have g:Ev (fun n=>qcp br (m:Int) n 0) (bif allN (fun j=>inI (gt br j) 0 ((m:Int)-1)&&stepB br j) br.length then .nxt (br.length:Int) else .ret false):=by
  refine qe3 (Lf:=qcp br (m:Int)) (len:=br.length) (Ev.succ (by simp only[qcp,qq (jf _),cond_false];exact .done)) (fun j d X c=>Ev.succ ?_);simp only[qcp,qp d,cond_true,qz d,jd,qcY,wS j,wO ((m:Int)-1)];cases h1:inI (gt br j) 0 ((m:Int)-1)
  ·exact .done
  ·refine Ev.ff Z ?_;by_cases b:j=0
   ·subst b;exact Ev.ff Z c
   ·refine Ev.tt (decide_eq_true (by omega)) ?_;rw[show(j:Int)-1=((j-1:Nat):Int) by omega,qR (by omega) (by omega),qz (show j-1<br.length by omega)];simp only[jd];have f:stepB br j=decide (gt br (j-1)<gt br j):=by
     unfold stepB;rw[decide_eq_false b,Bool.false_or]
     rfl
    rw[f];by_cases a:gt br (j-1)<gt br j
    ·rw[decide_eq_true a];exact Ev.ff (decide_eq_false (by omega)) c
    ·rw[decide_eq_false a];exact Ev.tt (decide_eq_true (by omega)) .done
 unfold qiB;refine Ev.bind g ?_;unfold brB incB;rw[qiU,←qld];cases allN (fun j=>inI (gt br j) 0 ((m:Int)-1)&&stepB br j) br.length<;>exact .done
theorem qsh {v:Tview}{br:List Int}(a:br.length≤1048576)(b:v.links.length≤10000):Ev (fun n=>qeY n (V v) br) (brB br v.links.length):=by
 unfold qeY qdv brB;simp only[jd,wO ((v.links.length:Int)-1)];exact Ev.and (qeu a) fun _=>Ev.last (qma a)
theorem qtd {b:qe}{br:List Int}(a:qkd b)(h:blockB b=true)(c:br.length≤1048576):Ev (fun n=>qhi n b br) (bif brB br (linksL b).length then 0 else 2):=by
 unfold qhi;refine Ev.bind (qiq a) (Ev.ff (by rw[h];rfl) (Ev.bind (qdh h) (Ev.bind (qt3 c (qdN h)) ?_)));cases brB br (linksL b).length<;>exact .done

theorem qmw {α:Type}{f:Nat→List α}{n:Nat}{x:α}(h:x ∈ fm f n):∃ j,j<n∧x ∈ f j:=by
 unfold fm at h;obtain⟨j,a,b⟩:=List.mem_flatMap.1 h;exact⟨j,List.mem_range.1 a,b⟩
theorem qtq {x:Int}{j:Nat}{t:Int}(b:b01 t)(d:j≤100000)(e:x=2*(j:Int)+t):W64 (x.tdiv 2)=(j:Int)∧x.tmod 2=t:=by
 have c:0≤t∧t≤1:=by rcases b with e|e<;>omega
 have a:0≤x:=by omega
 rw[jE a,Int.tmod_eq_emod_of_nonneg a,qR (by omega) (by omega)];omega
structure CLk (b:qe)(x:qr)(i j m net a:Nat):Prop where
 kind:x.Bf=1
 il:i<b.Aa.Ab.length
 jl:j<(places b.Aa).length
 inst:(gt (places b.Aa) j).instance_=(i:Int)
 net_:(gt (places b.Aa) j).net=(net:Int)
 nl:net<b.Af.length
 half:W64 (x.To.tdiv 2)=(j:Int)
 mod:x.To.tmod 2=(m:Int)
 ml:m<2
 ix:x.Ca=(a:Int)
 al:a<(cellAt b (i:Int)).Az.length
 d2:(gt (cellAt b (i:Int)).Az a).Bu.length=2
 s2:(gt (cellAt b (i:Int)).Az a).Bc.length=2
 dt:∀ t,t ∈ (gt (cellAt b (i:Int)).Az a).Bu→TbOk t∧∀ k,0≤at0 t.Bj k
 st:∀ t,t ∈ (gt (cellAt b (i:Int)).Az a).Bc→TbOk t∧∀ k,0≤at0 t.Bj k
structure WLk (b:qe)(x:qr)(j net k:Nat):Prop where
 kind:x.Bf=2
 jl:j<(places b.Aa).length
 net_:(gt (places b.Aa) j).net=(net:Int)
 nl:net<b.Af.length
 half:W64 (x.To.tdiv 2)=(j:Int)
 ix:x.Ca=(k:Int)
 kl:k<(gt b.Af net).Bl.length
theorem qwX {xs:List Int}(h:0≤mnL xs)(k:Nat):0≤at0 xs k:=by
 have b:∀ (ys:List Int) (a:Int),(ys.foldl (fun(m y:Int)=>if y<m then y else m) a≤a)∧∀ y,y ∈ ys→ys.foldl (fun(m y:Int)=>if y<m then y else m) a≤y:=by
  intro ys
  induction ys with
  | nil=>intro a;exact⟨jU _,fun y g=>by cases g⟩
  | cons z ys ih=>
   intro a;rw[List.foldl_cons];obtain⟨i,l⟩:=ih (if z<a then z else a);refine⟨?_,fun y g=>?_⟩
   ·split at i<;>split<;>omega
   ·rcases List.mem_cons.1 g with e|e
    ·subst e;split at i<;>split<;>omega
    ·exact l y e
 by_cases d:k<xs.length
 ·have f:xs[k] ∈ xs.drop 1∨k=0:=by
   by_cases c:k=0
   ·exact .inr c
   ·refine .inl ?_;have:xs[k]=(xs.drop 1)[k-1]'(by rw[List.length_drop];omega):=by
     rw[List.getElem_drop]
     congr 1;omega
    rw[this];exact jo _
  rw[qkp d];unfold mnL at h;rcases f with f|c
  ·exact Int.le_trans h ((b _ _).2 _ f)
  ·subst c;have:=(b (xs.drop 1) (at0 xs 0)).1;rw[←qkp d];exact Int.le_trans h this
 ·rw[qtv d];exact jU _
theorem qqk {a:List qL}(h:tablesB a true=true):a.length=2∧∀ t,t ∈ a→TbOk t∧∀ k,0≤at0 t.Bj k:=by
 unfold tablesB at h;rw[je,decide_eq_true_eq,jX] at h;refine⟨h.1,fun t b=>?_⟩;have:=h.2 t b;unfold tabB at this;simp only[Jg,Bool.false_or,je,decide_eq_true_eq] at this;exact⟨qtV this.1,qwX this.2⟩
theorem qs7 {ps:List qax}{a:qas}(h:arcS ps a=true)(c:a.Bf≤3)(b:1≤a.Bf):a.To=(ps.length:Int)-1∧tablesB a.Bu true=true∧tablesB a.Bc true=true:=by
 unfold arcS at h;rcases (by omega:a.Bf=1∨a.Bf=2∨a.Bf=3) with e|e|e
 ·rw[e] at h;simp only[beq_self_eq_true,cond_true,je,beq_iff_eq] at h;exact⟨h.2.2.1,h.2.2.2.2⟩
 ·rw[e] at h;simp only[show((2:Int)==1)=false from rfl,cond_false,beq_self_eq_true,Bool.true_or,cond_true,je,beq_iff_eq] at h;exact⟨h.2.2.1,h.2.2.2.2⟩
 ·rw[e] at h;simp only[show((3:Int)==1)=false from rfl,cond_false,beq_self_eq_true,Bool.or_true,cond_true,je,beq_iff_eq] at h;exact⟨h.2.2.1,h.2.2.2.2⟩
theorem qsn {a:qas}{t:qW}(h:t ∈ transL a):1≤a.Bf∧a.Bf≤3:=by
 refine⟨?_,?_⟩<;>refine Int.le_of_not_gt fun b=>?_
 ·have:arcLs 0 0 a=[]:=by
   unfold arcLs transL;rw[show(a.Bf==2)=false from beq_eq_false_iff_ne.2 (by omega),show(a.Bf==3)=false from beq_eq_false_iff_ne.2 (by omega),show(a.Bf != 1)=true from bne_iff_ne.2 (by omega)]
   rfl
  unfold arcLs at this;rw[List.map_eq_nil_iff] at this;rw[this] at h;cases h
 ·have:arcLs 0 0 a=[]:=qpa b;unfold arcLs at this;rw[List.map_eq_nil_iff] at this;rw[this] at h;cases h
theorem qgY {b:qe}(h:blockB b=true){x:qr}(c:x ∈ linksL b):((∃ i j m net a,CLk b x i j m net a)∨∃ j net k,WLk b x j net k)∧(0≤x.Bk∧x.Bk<2*((places b.Aa).length:Int))∧(0≤x.To∧x.To<2*((places b.Aa).length:Int)):=by
 have l:=qay h;have P:=qag l;have hl:=qaO P;have S:=qkr h;unfold linksL at c;rcases List.mem_append.1 c with c|c
 ·obtain⟨i,hi,c⟩:=qmw c;obtain⟨a,A,c⟩:=qmw c;unfold arcLs at c;obtain⟨t,g,rfl⟩:=List.mem_map.1 c;obtain⟨⟨c0,c1⟩,u,f⟩:=qhq l hi;have r:cellAt b (i:Int)=gt b.Ar.As (gt b.Aa.Ab i).Bv.toNat:=rfl;rw[←r] at u f;obtain⟨⟨k1,k5⟩,hf,Q,L⟩:=qmF f A;obtain⟨J,K⟩:=qsn g;obtain⟨X,o⟩:=qqL g;obtain⟨D,Y,tS⟩:=qs7 L K J;obtain⟨d2,dt⟩:=qqk Y;obtain⟨s2,st⟩:=qqk tS;have O:=(qhc (qje f)).1;have n:(cellAt b (i:Int)).Bh.length-1<(gt b.Aa.Ab i).Am.length:=by omega
  obtain⟨B,F⟩:=qj6 hi n;obtain⟨W,n1⟩:=qlW l B;have e1:(al1 (off b.Aa i:Int) a (gt (cellAt b (i:Int)).Az a) t).To=2*((off b.Aa i+((cellAt b (i:Int)).Bh.length-1):Nat):Int)+t.e1:=by
   show 2*((off b.Aa i:Int)+(gt (cellAt b (i:Int)).Az a).To)+t.e1=_;rw[D];omega
  obtain⟨s,C⟩:=qtq o (by omega) e1;obtain⟨m,H⟩:∃ m:Nat,t.e1=(m:Int):=⟨t.e1.toNat,by rcases o with e|e<;>omega⟩;have N:off b.Aa i+(gt (cellAt b (i:Int)).Az a).Bk.toNat<(places b.Aa).length:=(qj6 hi (k:=(gt (cellAt b (i:Int)).Az a).Bk.toNat) (by omega)).1;have p:(al1 (off b.Aa i:Int) a (gt (cellAt b (i:Int)).Az a) t).Bk=2*((off b.Aa i:Int)+(gt (cellAt b (i:Int)).Az a).Bk)+t.e0:=rfl;refine⟨.inl ⟨i,_,m,(gt (places b.Aa) (off b.Aa i+((cellAt b (i:Int)).Bh.length-1))).net.toNat,a,⟨rfl,hi,B,by rw[F];rfl,qcE W,by omega,s,by rw[C,H],by rcases o with e|e<;>omega,rfl,A,d2,s2,dt,st⟩⟩,?_,?_⟩
  ·rw[p];rcases X with e|e<;>rw[e]<;>omega
  ·rw[e1];rcases o with e|e<;>rw[e]<;>omega
 ·obtain⟨i,hi,c⟩:=qmw c;obtain⟨k,n,c⟩:=qmw c;obtain⟨y,T,I,v⟩:=qnC n;have M:=(qiH l (k:=i) (by omega)).1;have R:=qbK h hi;have z:(gt (places b.Aa) y).net=(i:Int):=by
   unfold snkQ at v;simp only[je,beq_iff_eq] at v;exact v.1
  have d:∀ t:Int,b01 t→x=⟨2*(dvN b.Aa i:Int)+t,2*at0 (skL b i) k+t,2,(k:Int)⟩→((∃ i j m net a,CLk b x i j m net a)∨∃ j net k,WLk b x j net k)∧(0≤x.Bk∧x.Bk<2*((places b.Aa).length:Int))∧(0≤x.To∧x.To<2*((places b.Aa).length:Int)):=by
   intro t g e;have e1:x.To=2*(y:Int)+t:=by rw[e,I]
   have p:x.Bk=2*(dvN b.Aa i:Int)+t:=by rw[e]
   obtain⟨s,C⟩:=qtq g (by omega) e1;refine⟨.inr ⟨y,i,k,⟨by rw[e],T,z,hi,s,by rw[e],by rw[R.snk];exact n⟩⟩,?_,?_⟩
   ·rw[p];rcases g with e|e<;>rw[e]<;>omega
   ·rw[e1];rcases g with e|e<;>rw[e]<;>omega
  unfold wl1 at c;simp only[jI,jy,or_false] at c;rcases c with c|c
  ·exact d 0 (.inl Z) (by rw[c,Jf,Jf])
  ·exact d 1 (.inr Z) c
theorem qi7 {α:Type}[Inhabited α]{xs:List α}{k:Nat}(h:k<xs.length):gt xs k ∈ xs:=by rw[qeo h];exact jo h
theorem qgI {b:qe}(h:blockB b=true):LkOk (linksL b) (2*(places b.Aa).length) where
 len:=qdN h
 nodes:=by have:=qaO (qag (qay h));omega
 fr0:=fun x a=>(qgY h (qi7 a)).2.1.1
 fr1:=fun x a=>by have:=(qgY h (qi7 a)).2.1.2;omega
 to0:=fun x a=>(qgY h (qi7 a)).2.2.1
 to1:=fun x a=>by have:=(qgY h (qi7 a)).2.2.2;omega
theorem qqI {c:qy}(h:cornerB c=true){kind mode:Int}:∃ f:Int,100≤f∧f≤5000∧(∀ n,qdX n c kind mode=V f)∧∀ n,qe6 n c kind mode=V f:=by
 unfold cornerB at h;simp only[je,qbb,decide_eq_true_eq] at h;obtain⟨⟨a,b,d,g⟩,_⟩:=h;unfold qdX qe6;cases kind==1
 ·cases mode==0
  ·exact⟨_,g.1,g.2,fun _=>rfl,fun _=>rfl⟩
  ·exact⟨_,d.1,d.2,fun _=>rfl,fun _=>rfl⟩
 ·cases mode==0
  ·exact⟨_,b.1,b.2,fun _=>rfl,fun _=>rfl⟩
  ·exact⟨_,a.1,a.2,fun _=>rfl,fun _=>rfl⟩
theorem qls {p f mode:Int}(h:0≤p)(p1:p≤400000000000)(c:0≤f)(g:f≤5000):(∀ n,qcP n (W64 (p*f)) 1000 mode=V (divI (p*f) 1000 mode))∧∀ n,qkz n p f mode=V (divI (p*f) 1000 mode):=by
 have i:=jS h c;have k:p*f≤400000000000*5000:=jV p1 g c (by omega);have e:W64 (p*f)=p*f:=qR (by omega) (by omega);have d:=fun n=>qkf (n:=n) (a:=p*f) (b:=1000) (mode:=mode) (by omega) (by omega) (by omega);refine⟨fun n=>by rw[e];exact d n,fun n=>?_⟩;unfold qkz;rw[e,qru (m:=0),d 0]
 rfl
theorem qvl {l h H:Int}(c:0≤l)(d:l<h)(f:h≤H)(g:H≤3000000000):W64 (W64 (W64 (l+h)+1) |>.tdiv 2)=(l+h+1) / 2∧W64 ((l+h+1) / 2*((l+h+1) / 2))=(l+h+1) / 2*((l+h+1) / 2)∧W64 ((l+h+1) / 2-1)=(l+h+1) / 2-1:=by
 have a:0≤(l+h+1) / 2∧(l+h+1) / 2≤3000000000:=by omega
 have i:(l+h+1) / 2*((l+h+1) / 2)≤3000000000*3000000000:=jV a.2 a.2 a.1 (by omega);have b:=jS a.1 a.1;rw[wO (l+h),wO (l+h+1),jE (by omega),wO ((l+h+1) / 2),wO ((l+h+1) / 2-1)];exact⟨rfl,qR (by omega) (by omega),rfl⟩
theorem quO {y mode:Int}(k:0≤y)(r:y≤4000000000000000000):∃ v,IsRoot y v∧v≤2000000000∧Ev (fun n=>qiX n y mode) (if mode=1∧v*v<y then v+1 else v):=by
 obtain⟨v,r1,f,p⟩:=qre (Lf:=fun n l h=>qem y n l h) (fin:=fun l=>(l,l)) (x:=y) (H:=2000000000) k (by omega) (by omega)
  (fun n l _ _=>by simp only[qem,show decide (l<l)=false from decide_eq_false (Int.lt_irrefl l),cond_false])
  (fun n l h a b m=>by
   obtain⟨e1,g,i⟩:=qvl a b m (by omega);simp only[qem,decide_eq_true b,cond_true,e1,g,i])
 refine⟨v,r1,f,?_⟩;unfold qiX;refine Ev.bind p ?_;have d:=r1.pos;have s:v*v≤2000000000*2000000000:=jV f f d (by omega);have o:=jS d d;simp only[wO (v*v),wO (v+1)];by_cases c:mode=1
 ·refine Ev.tt (by simpa using c) ?_;by_cases a:v*v<y
  ·rw[if_pos ⟨c,a⟩];exact Ev.tt (decide_eq_true a) .done
  ·rw[if_neg fun h=>a h.2];exact Ev.ff (decide_eq_false a) .done
 ·rw[if_neg fun h=>c h.1];exact Ev.ff (by simpa using c) .done
theorem qu8 {y:Int}(d:0≤y)(m:y≤4000000000000000000):∃ v,IsRoot y v∧v≤3000000000∧Ev (fun n=>qnf n y) v:=by
 obtain⟨v,r1,i,k⟩:=qre (Lf:=fun n l h=>qgz y n l h) (fin:=fun l=>(l,l)) (x:=y) (H:=3000000000) d (by omega) (by omega)
  (fun n l _ _=>by simp only[qgz,show decide (l<l)=false from decide_eq_false (Int.lt_irrefl l),cond_false])
  (fun n l h g a f=>by
   obtain⟨e1,b,c⟩:=qvl g a f (by omega);simp only[qgz,decide_eq_true a,cond_true,e1,b,c])
 refine⟨v,r1,i,?_⟩;unfold qnf;exact Ev.bind k .done
theorem qtP {sl d mode:Int}(s0:0≤sl)(s1:sl≤1000000)(g:0≤d)(k:d≤344000000)(l:mode=0∨mode=1):∃ r:Int,0≤r ∧
  Ev (fun n=>(qiX n (W64 (W64 (W64 (1000000*sl)*sl)+W64 (W64 (4*d)*d))) mode).bind fun z=>(qcP n z 1000 mode).bind fun A=>V A) r∧Ev (fun n=>qji n sl d mode) r:=by
 have H:=jS s0 s0;have I:sl*sl≤1000000*1000000:=jV s1 s1 s0 (by omega);have J:=jS g g;have K:d*d≤344000000*344000000:=jV k k g (by omega);have e1:W64 (W64 (W64 (1000000*sl)*sl)+W64 (W64 (4*d)*d))=4*(250000*(sl*sl)+d*d):=by
  rw[wO (1000000*sl),wO (4*d),Jb 1000000,Jb 4,wO (1000000*(sl*sl)),wO (4*(d*d)),qR (by omega) (by omega)];omega
 have s:W64 (W64 (W64 (W64 (500*sl)*500)*sl)+W64 (d*d))=250000*(sl*sl)+d*d:=by
  rw[wO (500*sl),wO (500*sl*500),show 500*sl*500*sl=250000*(sl*sl) by rw[←Jb];congr 1;omega,wO (250000*(sl*sl)),wO (d*d),qR (by omega) (by omega)]
 obtain⟨v,o,L,B⟩:=quO (mode:=mode) (y:=4*(250000*(sl*sl)+d*d)) (by omega) (by omega);obtain⟨w,w1,p,C⟩:=qu8 (y:=250000*(sl*sl)+d*d) (by omega) (by omega);have x:=qsM w1 o l;have F:=o.pos;have f:=w1.pos;have a:0≤(if mode=1∧v*v<4*(250000*(sl*sl)+d*d) then v+1 else v)∧(if mode=1∧v*v<4*(250000*(sl*sl)+d*d) then v+1 else v)≤1000*3000000:=by split<;>omega
 refine⟨_,(qkU (b:=1000) (mode:=mode) (M:=3000000) (by omega) a.1 a.2).1,?_,?_⟩
 ·rw[e1];exact Ev.bind B (Ev.bind ⟨0,fun n _=>qkf (by omega) (by omega) (by omega)⟩ .done)
 ·rw[x];unfold qji;rw[s];refine Ev.bind C ?_;have D:w*w≤3000000000*3000000000:=jV p p f (by omega);have u:=jS f f;have t:(fun n=>qfI n w 500 mode)=fun _=>V (divI w 500 mode):=by
   funext n
   rw[qru (m:=0),qkf (by omega) (by omega) (by omega)]
  have i:=congrFun t;simp only[wO (w*w),jE f,wO (w / 500),wO (w / 500+1),i,jd];rcases l with rfl|rfl
  ·rw[if_neg (by omega)];exact .done
  ·by_cases c:w*w<250000*(sl*sl)+d*d
   ·rw[if_pos ⟨rfl,c⟩,decide_eq_true c];exact .done
   ·rw[if_neg fun h=>c h.2,decide_eq_false c];exact .done
theorem qsu {t:qL}(h:TbOk t∧∀ k,0≤at0 t.Bj k)(sl ld mode:Int):∃ r:Int,0≤r∧r≤1000000∧Ev (fun n=>qhA n t sl ld mode) r∧Ev (fun n=>qd0 n t sl ld mode) r:=by
 obtain⟨S,D,D0,S1,_,_,_,S0,a⟩:=qto h.1 sl ld;obtain⟨b,r1⟩:=qkU (mode:=mode) D0 (S0 h.2) S1;exact⟨_,b,r1,a mode⟩
theorem qsT {b:qe}{ex:List Int}{x:qr}{j net:Nat}(jl:j<(places b.Aa).length)(c:(gt (places b.Aa) j).net=(net:Int))(a:W64 (x.To.tdiv 2)=(j:Int))(n:Nat):qfl n (V (viewE b ex)) x=V (net:Int):=by
 unfold qfl;show(idx (places b.Aa) (W64 (x.To.tdiv 2))).bind _=_;rw[a,qz jl];exact congrArg V c
theorem qu0 {b:qe}{ex:List Int}(h:blockB b=true){x:qr}{i j m net a:Nat}(c:CLk b x i j m net a)(n:Nat):qgG n (V (viewE b ex)) x=V (gt (cellAt b (i:Int)).Az a):=by
 obtain⟨⟨d,c1⟩,_,_⟩:=qhq (qay h) c.il;unfold qgG;show(idx (places b.Aa) (W64 (x.To.tdiv 2))).bind (fun f=>(idx b.Aa.Ab f.instance_).bind fun g=>(idx b.Ar.As g.Bv).bind fun k=>(idx k.Az x.Ca).bind fun l=>V l)=_;rw[c.half,qz c.jl,jd,c.inst,qz c.il,jd,qdW d c1,jd,c.ix];show(idx (cellAt b (i:Int)).Az (a:Int)).bind _=_;rw[qz c.al];rfl
theorem qmZ {b:qe}(h:blockB b=true){x:qr}{i j m net a:Nat}(c:CLk b x i j m net a):Ev (fun n=>qjq n b x) (gt (cellAt b (i:Int)).Az a,load0 b net):=by
 have d:=qay h;have s:=qag d;obtain⟨⟨f,c1⟩,_,_⟩:=qhq d c.il;have r:idx ((places b.Aa).map toSp) (j:Int)=V (toSp (gt (places b.Aa) j)):=by
  refine qg8 ?_;rw[List.getElem?_map,jn c.jl,qeo c.jl];rfl
 have o:=qlN h c.nl;have p:=(qbK h c.nl).lo;have g:(toSp (gt (places b.Aa) j)).instance_=(i:Int):=c.inst;have k:(toSp (gt (places b.Aa) j)).net=(net:Int):=c.net_;have l:idx (gt b.Ar.As (gt b.Aa.Ab i).Bv.toNat).Az (a:Int)=V (gt (cellAt b (i:Int)).Az a):=qz c.al;unfold qjq;refine Ev.bind (qgn s) ?_;simp only[c.half,r,jd,g,k,qz c.il,qdW f c1,c.ix,l];refine Ev.bind (qpg h c.nl) ?_;rw[show idx (loadsL b net) (0:Int)=V (load0 b net) from qz (j:=0) (by omega)];exact .done
theorem qmY {b:qe}(h:blockB b=true){x:qr}{j net k:Nat}(a:WLk b x j net k):Ev (fun n=>qjs n b x) (net:Int):=by
 have f:=qag (qay h);have d:idx ((places b.Aa).map toSp) (j:Int)=V (toSp (gt (places b.Aa) j)):=by
  refine qg8 ?_;rw[List.getElem?_map,jn a.jl,qeo a.jl];rfl
 have c:(toSp (gt (places b.Aa) j)).net=(net:Int):=a.net_;unfold qjs;refine Ev.bind (qgn f) ?_;simp only[a.half,d,jd,c];exact .done
theorem qro {b:qe}{c:qy}(ex:List Int)(h:blockB b=true)(L:cornerB c=true){k:Nat}(N:k<(linksL b).length){sl mode:Int}(s0:0≤sl)(s1:sl≤1000000)(X:mode=0∨mode=1) :
  (∃ D:Int,Ev (fun n=>qbl n b c (gt (linksL b) k) sl mode) D∧Ev (fun n=>qcz n (V (viewE b ex)) c (k:Int) sl mode) D) ∧
  ∃ S:Int,0≤S∧S≤1000000∧Ev (fun n=>qeA n b (gt (linksL b) k) sl mode) S∧Ev (fun n=>qbx n (V (viewE b ex)) (k:Int) sl mode) S:=by
 have t:idx (viewE b ex).links (k:Int)=V (gt (linksL b) k):=qz N;obtain⟨d,_⟩:=qgY h (qi7 N);generalize gt (linksL b) k=x at d t;rcases d with⟨i,j,m,net,a,d⟩|⟨j,net,q,d⟩
 ·have l:=qsT (ex:=ex) d.jl d.net_ d.half;have o:=qu0 (ex:=ex) h d;have s:idx (viewE b ex).loads (net:Int)=V (load0 b net):=qfY (f:=load0 b) d.nl;obtain⟨f,T,A,H,F⟩:=qqI L (kind:=x.Bf) (mode:=mode);have z:m<(gt (cellAt b (i:Int)).Az a).Bu.length:=by rw[d.d2];exact d.ml
  have I:m<(gt (cellAt b (i:Int)).Az a).Bc.length:=by rw[d.s2];exact d.ml
  obtain⟨r,r0,r1,rs,ri⟩:=qsu (d.dt _ (qi7 z)) sl (load0 b net) mode;obtain⟨u,O,u1,K,J⟩:=qsu (d.st _ (qi7 I)) sl (load0 b net) mode;obtain⟨c1,y⟩:=qls (mode:=mode) r0 (by omega) (show 0≤f by omega) A;have g:(x.Bf==1)=true:=by rw[d.kind];rfl
  refine⟨⟨divI (r*f) 1000 mode,?_,?_⟩,⟨u,O,u1,?_,?_⟩⟩
  ·unfold qbl;refine Ev.tt g (Ev.bind (qmZ h d) ?_);simp only[d.mod,qz z,jd,H];exact Ev.bind rs (Ev.bind ⟨0,fun n _=>c1 n⟩ .done)
  ·unfold qcz;simp only[jd,t,l,s,o,d.mod,qz z,F];exact Ev.tt g (Ev.bind ri (Ev.bind ⟨0,fun n _=>y n⟩ .done))
  ·unfold qeA;refine Ev.tt g (Ev.bind (qmZ h d) ?_);simp only[d.mod,qz I,jd];exact Ev.bind K .done
  ·unfold qbx;simp only[jd,t,l,s,o,d.mod,qz I];refine Ev.tt g (Ev.bind J (Ev.now ?_));rw[if_neg (by omega)]
 ·have l:=qsT (ex:=ex) d.jl d.net_ d.half;have p:idx (viewE b ex).delays (net:Int)=V (exactL b net):=qfY (f:=exactL b) d.nl;have B:(exactL b net).length=(gt b.Af net).Bl.length:=by unfold exactL;rw[jv]
  have v:q<(exactL b net).length:=by rw[B];exact d.kl
  obtain⟨P,x1⟩:=qnL h d.nl d.kl;obtain⟨f,T,A,H,F⟩:=qqI L (kind:=x.Bf) (mode:=mode);have Q:=fun n=>qkf (n:=n) (a:=gt (exactL b net) q) (b:=1000) (mode:=mode) (by omega) (by omega) (by omega);obtain⟨e,p1⟩:=qkU (a:=gt (exactL b net) q) (b:=1000) (mode:=mode) (M:=344000) (by omega) P (by omega);obtain⟨c1,y⟩:=qls (mode:=mode) e (by omega) (show 0≤f by omega) A;have g:(x.Bf==1)=false:=by rw[d.kind];rfl
  have hi:idx ((exactL b net).map fun x=>divI x 1000 mode) (q:Int)=V (divI (gt (exactL b net) q) 1000 mode):=by
   rw[qz (by rw[jv];exact v),qnK v]
  obtain⟨u,O,K,J⟩:=qtP s0 s1 P x1 X;refine⟨⟨divI (divI (gt (exactL b net) q) 1000 mode*f) 1000 mode,?_,?_⟩,⟨if u<1000000 then u else 1000000,by split<;>omega,by split<;>omega,?_,?_⟩⟩
  ·unfold qbl;refine Ev.ff g (Ev.bind (qmY h d) (Ev.bind (qi2 h d.nl) ?_));simp only[d.ix,hi,jd,H];exact Ev.bind ⟨0,fun n _=>c1 n⟩ .done
  ·unfold qcz;simp only[jd,t,l,p,d.ix,qz v,F];refine Ev.ff g (Ev.bind (b:=divI (gt (exactL b net) q) 1000 mode) ⟨0,fun n _=>(qru (m:=0)).trans (Q 0)⟩ (Ev.bind ⟨0,fun n _=>y n⟩ .done))
  ·have Y:=qbK h d.nl;have C:=Y.sin q d.kl;have W:=qmC h d.nl;have R:gt (exactL b net) q=gt (delaysL b net) (at0 (gt b.Af net).Bl q).toNat:=by
    unfold exactL;rw[qeo (by rw[jv];exact d.kl),List.getElem_map,qkp d.kl]
   unfold qeA qlP;refine Ev.ff g (Ev.bind (qmY h d) ?_);simp only[d.ix,qz d.nl,jd,qao d.kl];refine Ev.bind (b:=u) (Ev.bind (qn5 h d.nl) ?_) .done;rw[qdW C.1 (show at0 (gt b.Af net).Bl q<((delaysL b net).length:Int) by omega)];simp only[jd];rw[←R];exact K
  ·unfold qbx;simp only[jd,t,l,p,d.ix,qz v];refine Ev.ff g (Ev.bind J (Ev.now ?_))
   congr 1
   split<;>split<;>omega
theorem qkN {b:qe}{c:qy}(h:blockB b=true)(g:cornerB c=true){k:Nat}(i:k<(linksL b).length){sl mode:Int}(s0:0≤sl)(s1:sl≤1000000)(l:mode=0∨mode=1) :
  (∃ D:Int,Ev (fun n=>qbl n b c (gt (linksL b) k) sl mode) D∧∀ ex,Ev (fun n=>qcz n (V (viewE b ex)) c (k:Int) sl mode) D) ∧
  ∃ S:Int,0≤S∧S≤1000000∧Ev (fun n=>qeA n b (gt (linksL b) k) sl mode) S∧∀ ex,Ev (fun n=>qbx n (V (viewE b ex)) (k:Int) sl mode) S:=by
 obtain⟨⟨D,m,_⟩,⟨S,a,c',d,_⟩⟩:=qro [] h g i s0 s1 l;refine⟨⟨D,m,fun ex=>?_⟩,⟨S,a,c',d,fun ex=>?_⟩⟩
 ·obtain⟨⟨D',e1,f⟩,_⟩:=qro ex h g i s0 s1 l;rw[m.uniq e1];exact f
 ·obtain⟨_,⟨S',_,_,e1,f⟩⟩:=qro ex h g i s0 s1 l;rw[d.uniq e1];exact f

def slR (s:qf):Prop:=(0≤s.Aq∧s.Aq≤1000000)∧(0≤s.Bd∧s.Bd≤1000000)
def SpansS (b:qe)(c:qy)(f:Nat→qf→qf×qf):Prop:=∀ k s,k<(linksL b).length→slR s→slR (f k s).2∧Ev (fun n=>qfQ n b c (gt (linksL b) k) s) (f k s)
def SpansI (b:qe)(c:qy)(ex:List Int)(f:Nat→qf→qf×qf):Prop:=∀ k s,k<(linksL b).length→slR s→slR (f k s).2∧Ev (fun n=>qfr n (V (viewE b ex)) c (k:Int) s) (f k s)
def exK (b:qe)(ex:List Int)(k:Nat):Int:=bif (gt (linksL b) k).Bf==2 then gt ex (gt (places b.Aa) ((gt (linksL b) k).To / 2).toNat).net.toNat else 0
def wideS (e:Int)(s:qf):qf:=⟨W64 (s.Aq-e),W64 (s.Bd+e)⟩
def wideF (b:qe)(ex:List Int)(f:Nat→qf→qf×qf)(k:Nat)(s:qf):qf×qf:=bif decide (0<ex.length)&&((gt (linksL b) k).Bf==2) then(wideS (exK b ex k) (f k s).1,(f k s).2) else f k s
theorem qrY {b:qe}{c:qy}(h:blockB b=true)(D:cornerB c=true):∃ f,SpansS b c f∧∀ ex:List Int,ex.length=0∨ex.length=b.Af.length→SpansI b c ex (wideF b ex f):=by
 have C:∀ x:Nat×qf,∃ r:qf×qf,x.1<(linksL b).length→slR x.2→slR r.2∧Ev (fun n=>qfQ n b c (gt (linksL b) x.1) x.2) r∧∀ ex:List Int,ex.length=0∨ex.length=b.Af.length→Ev (fun n=>qfr n (V (viewE b ex)) c (x.1:Int) x.2) (wideF b ex (fun _ _=>r) x.1 x.2):=by
  rintro⟨k,s⟩;by_cases d:k<(linksL b).length∧slR s
  ·obtain⟨d,⟨e0,e1⟩,⟨l0,l1⟩⟩:=d;obtain⟨⟨l,p1,Y⟩,⟨t,a1,b1,v1,w1⟩⟩:=qkN h D d e0 e1 (mode:=0) (.inl Z);obtain⟨⟨d2,T,e⟩,⟨u,a2,b2,v2,w2⟩⟩:=qkN h D d e0 e1 (mode:=1) (.inr Z);obtain⟨⟨o,W,q3⟩,⟨v,a3,b3,v3,w3⟩⟩:=qkN h D d l0 l1 (mode:=0) (.inl Z);obtain⟨⟨p,X,q4⟩,⟨y,a4,b4,v4,w4⟩⟩:=qkN h D d l0 l1 (mode:=1) (.inr Z);refine⟨(⟨if o<l then o else l,if p > d2 then p else d2⟩,⟨if v<t then v else t,if y > u then y else u⟩),fun _ _=>⟨⟨?_,?_⟩,?_,fun ex B=>?_⟩⟩
   ·show 0≤(if v<t then v else t)∧(if v<t then v else t)≤1000000;split<;>omega
   ·show 0≤(if y > u then y else u)∧(if y > u then y else u)≤1000000;split<;>omega
   ·unfold qfQ;exact Ev.bind p1 (Ev.bind T (Ev.bind v1 (Ev.bind v2 (Ev.bind W (Ev.bind X (Ev.bind v3 (Ev.bind v4 .done)))))))
   ·unfold qfr;refine Ev.bind (Y ex) (Ev.bind (q3 ex) (Ev.bind (e ex) (Ev.bind (q4 ex) ?_)));have S:idx (viewE b ex).links (k:Int)=V (gt (linksL b) k):=qz d;have g:(viewE b ex).extras=ex:=rfl;simp only[jd,S,g];unfold wideF;have fin:∀ r:Int×Int,Ev (fun n=>(qbx n (V (viewE b ex)) (k:Int) s.Aq 0).bind fun J=>(qbx n (V (viewE b ex)) (k:Int) s.Bd 0).bind fun K=>(qbx n (V (viewE b ex)) (k:Int) s.Aq 1).bind fun L=>(qbx n (V (viewE b ex)) (k:Int) s.Bd 1).bind fun M=>
      V ((⟨r.1,r.2⟩:qf),(⟨if K<J then K else J,if M > L then M else L⟩:qf))) ((⟨r.1,r.2⟩:qf),(⟨if v<t then v else t,if y > u then y else u⟩:qf)):=fun r=>Ev.bind (w1 ex) (Ev.bind (w3 ex) (Ev.bind (w2 ex) (Ev.bind (w4 ex) .done)))
    rw[show decide ((ex.length:Int) > 0)=decide (0<ex.length) by rw[decide_eq_decide];omega];cases hl:decide (0<ex.length)
    ·exact Ev.bind (b:=false) (Ev.now Z) (Ev.bind (b:=(if o<l then o else l,if p > d2 then p else d2)) (Ev.now Z) (fin _))
    ·cases hkd:(gt (linksL b) k).Bf==2
     ·exact Ev.bind (b:=false) (Ev.now Z) (Ev.bind (b:=(if o<l then o else l,if p > d2 then p else d2)) (Ev.now Z) (fin _))
     ·obtain⟨H,_⟩:=qgY h (qi7 d);rcases H with⟨i,j,m,net,a,g⟩|⟨j,net,q,g⟩
      ·rw[g.kind] at hkd;cases hkd
      ·have Q:=qsT (ex:=ex) g.jl g.net_ g.half;have I:net<ex.length:=by
        have:=of_decide_eq_true hl;have:=g.nl;omega
       have P:=(qgY h (qi7 d)).2.2;have R:=qaO (qag (qay h));have O:((gt (linksL b) k).To / 2).toNat=j:=by
        have:=g.half;rw[jE P.1,qR (by omega) (by omega)] at this;omega
       have N:exK b ex k=gt ex net:=by
        unfold exK;rw[hkd,O,g.net_,jp]
        rfl
       refine Ev.bind (b:=true) (Ev.now Z) (Ev.bind (b:=(W64 ((if o<l then o else l)-gt ex net),W64 ((if p > d2 then p else d2)+gt ex net))) ?_ ?_)
       ·simp only[Q,jd,qz I];exact .done
       ·rw[N];exact fin _
  ·exact⟨(s,s),fun z A=>absurd ⟨z,A⟩ d⟩
 obtain⟨f,F⟩:=Classical.axiomOfChoice C;exact⟨fun k s=>f (k,s),fun k s z A=>⟨(F (k,s) z A).1,(F (k,s) z A).2.1⟩,fun ex B k s z A=>⟨by
  have:=(F (k,s) z A).1;unfold wideF;cases decide (0<ex.length)&&((gt (linksL b) k).Bf==2)<;>exact this,(F (k,s) z A).2.2 ex B⟩⟩
theorem qqR {b:qe}{f:Nat→qf→qf×qf}:wideF b [] f=f:=rfl
def zSp:qf:=⟨0,0⟩
def zSrc:qj:=⟨0,zSp,zSp⟩
def hullS (s t:qf):qf:=⟨if t.Aq<s.Aq then t.Aq else s.Aq,if t.Bd > s.Bd then t.Bd else s.Bd⟩
theorem qqM {s t:qf}:(⟨if s.Aq<t.Aq then s.Aq else t.Aq,if s.Bd > t.Bd then s.Bd else t.Bd⟩:qf)=hullS s t:=by
 unfold hullS
 congr 1
 ·split<;>split<;>omega
 ·split<;>split<;>omega
def plusS (s t:qf):qf:=⟨W64 (s.Aq+t.Aq),W64 (s.Bd+t.Bd)⟩
def joinS (node:Int)(s:Bool×qj)(ar sl:qf):Bool×qj:=bif s.1 then(true,⟨node,hullS s.2.Ah ar,hullS s.2.Bc sl⟩) else(true,⟨node,ar,sl⟩)
def frN (ls:List qr)(k:Nat):Nat:=(gt ls k).Bk.toNat
def stepS (f:Nat→qf→qf×qf)(ls:List qr)(t:qu)(node:Int)(s:Bool×qj)(k:Nat):Bool×qj:=
 bif gt t.Ay (frN ls k) then joinS node s (plusS (gt t.Ah (frN ls k)) (f k (gt t.Bc (frN ls k))).1) (f k (gt t.Bc (frN ls k))).2 else s
def toQ (ls:List qr)(lv:List Bool)(node:Int)(k:Nat):Bool:=lvL lv k&&(toL ls k==node)
def srcO (xs:List qj)(node:Int):Option qj:=xs.find? fun s=>s.Bo==node
def srcV (o:Option qj):Bool×qj:=match o with|some y=>(true,y)|none=>(false,zSrc)
def ndS (f:Nat→qf→qf×qf)(ls:List qr)(lv:List Bool)(t:qu)(node:Int)(s0:Bool×qj):Nat→Bool×qj
 | 0=>s0
 | k+1=>bif toQ ls lv node k then stepS f ls t node (ndS f ls lv t node s0 k) k else ndS f ls lv t node s0 k
theorem qvz {f:Nat→qf→qf×qf}{ls:List qr}{lv:List Bool}{t:qu}{node:Int}{s0:Bool×qj}{j:Nat}:(selN (toQ ls lv node) j).foldl (stepS f ls t node) s0=ndS f ls lv t node s0 j:=by
 induction j with
 | zero=>rfl
 | succ j ih=>
  rw[qly,List.foldl_append,ih];show _=bif toQ ls lv node j then stepS f ls t node (ndS f ls lv t node s0 j) j else ndS f ls lv t node s0 j;cases toQ ls lv node j<;>rfl
structure TmOk (t:qu)(M:Nat):Prop where
 r:t.Ay.length=M
 a:t.Ah.length=M
 s:t.Bc.length=M
 sl:∀ k,k<M→slR (gt t.Bc k)
structure SrcOk (xs:List qj):Prop where
 len:xs.length≤1048576
 inc:∀ j i,i<j→j<xs.length→(gt xs i).Bo<(gt xs j).Bo
 sl:∀ x,x ∈ xs→slR x.Bc
theorem qqe {xs:List qj}{node:Int}(g:xs.length≤1048576):Ev (fun n=>qeE n xs node) ((srcV (srcO xs node)).2,(srcV (srcO xs node)).1):=by
 have c:Ev (fun n=>qaR n xs node) (ixL (fun s=>s.Bo==node) xs):=
  qgb (fin:=(xs.length:Int)) (Lf:=qaa xs node) (xs:=xs) (pf:=fun n x=>qjG n x node) (fun _ _=>.done)
   (fun n=>by simp only[qaa,qq (jf _),cond_false])
   (fun n j x b=>by
    have a:=(List.getElem?_eq_some_iff.1 b).1;simp only[qaa,qp a,cond_true,qg8 b,jd,wS j])
   (fun n=>by unfold qaR;congr 1;funext o;cases o<;>rfl)
 unfold qeE;refine Ev.bind c ?_;unfold ixL srcO;cases hf:xs.findIdx? (fun s=>s.Bo==node) with
 | none=>
  have:xs.find? (fun s=>s.Bo==node)=U:=by
   rw[List.find?_eq_none];intro x b;have:=List.findIdx?_eq_none_iff.1 hf x b;simpa using this
  rw[this];exact Ev.ff Z .done
 | some j=>
  obtain⟨a,f,d⟩:=List.findIdx?_eq_some_iff_getElem.1 hf;have:xs.find? (fun s=>s.Bo==node)=V xs[j]:=by
   rw[List.find?_eq_some_iff_getElem];exact⟨f,j,a,rfl,fun i hi=>by have:=d i hi;simpa using this⟩
  rw[this];refine Ev.tt (show decide ((j:Int) ≥ 0)=true from decide_eq_true (by omega)) ?_;show Ev (fun n=>(idx xs (j:Int)).bind _) _;rw[qaZ a];exact .done
theorem qlc {xs:List qj}{node:Int}{y:qj}(h:srcO xs node=V y):y.Bo=node∧y ∈ xs:=by
 have a:=List.find?_some h;exact⟨by simpa using a,List.mem_of_find?_eq_some h⟩
theorem qvX {xs:List qj}{node:Int}(h:SrcOk xs) :
  Ev (fun n=>qdl xs node n 0 0 0 0 0 false 0) ((srcV (srcO xs node)).2.Bo,(srcV (srcO xs node)).2.Ah.Aq,(srcV (srcO xs node)).2.Ah.Bd,(srcV (srcO xs node)).2.Bc.Aq,(srcV (srcO xs node)).2.Bc.Bd,(srcV (srcO xs node)).1,(xs.length:Int)):=by
 have g:=h.len;have:=loopF (τ:=Bool×qj) (Lf:=fun n s j=>qdl xs node n s.2.Bo s.2.Ah.Aq s.2.Ah.Bd s.2.Bc.Aq s.2.Bc.Bd s.1 j) (S:=fun j=>srcV (srcO (xs.take j) node)) (len:=xs.length)
  (fin:=((srcV (srcO xs node)).2.Bo,(srcV (srcO xs node)).2.Ah.Aq,(srcV (srcO xs node)).2.Ah.Bd,(srcV (srcO xs node)).2.Bc.Aq,(srcV (srcO xs node)).2.Bc.Bd,(srcV (srcO xs node)).1,(xs.length:Int)))
  (fun n=>by simp only[qdl,qq (jf _),cond_false,jJ])
  (fun j a X c=>by
   simp only[qdl,qp a,cond_true,qz a,jd,wS j];have e:srcO (xs.take (j+1)) node=(srcO (xs.take j) node).or (bif (gt xs j).Bo==node then V (gt xs j) else U):=by
    unfold srcO;rw[jz a,List.find?_append,←qeo a]
    congr 1
   cases hq:(gt xs j).Bo==node
   ·rw[hq] at e;have e:srcO (xs.take (j+1)) node=srcO (xs.take j) node:=by rw[e];cases srcO (xs.take j) node<;>rfl
    rw[e] at c;exact c
   ·rw[hq] at e;have d:srcO (xs.take j) node=U:=by
     unfold srcO;rw[List.find?_eq_none];intro x f b;obtain⟨i,hi,rfl⟩:=List.mem_iff_getElem.1 f;rw[jM] at hi;rw[List.getElem_take,←qeo (by omega)] at b;have:=h.inc j i (by omega) a;simp only[beq_iff_eq] at hq b;omega
    have e:srcO (xs.take (j+1)) node=V (gt xs j):=by rw[e,d];rfl
    rw[e] at c;exact c)
 exact this
theorem qnO {ls:List qr}{M:Nat}(h:LkOk ls M){k:Nat}(a:k<ls.length):(gt ls k).Bk=(frN ls k:Int)∧frN ls k<M:=by
 have b:=h.fr0 k a;have c:=h.fr1 k a;unfold frN;omega
section
variable {b:qe}{c:qy}{ex:List Int}{f:Nat→qf→qf×qf}{lv:List Bool}{t:qu}{xs:List qj}{node:Int}
theorem qvf (h:blockB b=true)(o:SpansS b c f)(u:lv.length=(linksL b).length)(i:TmOk t (2*(places b.Aa).length))(r:SrcOk xs) :
  Ev (fun n=>qiL n b c (linksL b) lv xs t node) (ndS f (linksL b) lv t node (srcV (srcO xs node)) (linksL b).length):=by
 have k:=qgI h;have p:=k.len;have m:=loopF (τ:=Bool×qj) (Lf:=fun n s j=>qdj b c (linksL b) lv t node n s.2.Bo s.2.Ah.Aq s.2.Ah.Bd s.2.Bc.Aq s.2.Bc.Bd s.1 j) (S:=fun j=>ndS f (linksL b) lv t node (srcV (srcO xs node)) j) (len:=(linksL b).length)
  (fin:=(fun s:Bool×qj=>(s.2.Bo,s.2.Ah.Aq,s.2.Ah.Bd,s.2.Bc.Aq,s.2.Bc.Bd,s.1,((linksL b).length:Int))) (ndS f (linksL b) lv t node (srcV (srcO xs node)) (linksL b).length))
  (fun n=>by simp only[qdj,qq (jf _),cond_false])
  (fun j g X a=>by
   obtain⟨e1,d⟩:=qnO k g;have l:ndS f (linksL b) lv t node (srcV (srcO xs node)) (j+1)=bif toQ (linksL b) lv node j then stepS f (linksL b) t node (ndS f (linksL b) lv t node (srcV (srcO xs node)) j) j else ndS f (linksL b) lv t node (srcV (srcO xs node)) j:=rfl;rw[l] at a;generalize ndS f (linksL b) lv t node (srcV (srcO xs node)) j=s at a ⊢;simp only[qdj,qp g,cond_true,qz g,qz (show j<lv.length by omega),jd,e1,qz (show frN (linksL b) j<t.Ay.length by rw[i.r];exact d),qz (show frN (linksL b) j<t.Ah.length by rw[i.a];exact d),qz (show frN (linksL b) j<t.Bc.length by rw[i.s];exact d),wS j];unfold toQ lvL toL at a;cases h1:gt lv j
   ·rw[h1] at a;exact a
   rw[h1,jB] at a;cases h2:(gt (linksL b) j).To==node
   ·rw[h2] at a;simp only[bne,h2];exact a
   rw[h2] at a;simp only[bne,h2];unfold stepS at a;cases h3:gt t.Ay (frN (linksL b) j)
   ·rw[h3] at a;exact a
   rw[h3] at a;simp only[cond_true] at a;obtain⟨_,s1⟩:=o j _ g (i.sl _ d);refine Ev.bind (b:=false) (Ev.now Z) (Ev.ff Z (Ev.bind s1 ?_));generalize f j (gt t.Bc (frN (linksL b) j))=q at a ⊢;unfold joinS at a;cases h4:s.1
   ·rw[h4] at a;exact a
   ·rw[h4] at a;simp only[qj2,jd,cond_true];have a1:=qqM (s:=s.2.Ah) (t:=plusS (gt t.Ah (frN (linksL b) j)) q.1);have a2:=qqM (s:=s.2.Bc) (t:=q.2);simp only[cond_true] at a;rw[←a1,←a2] at a;exact a)
 unfold qiL;exact Ev.bind (qvX r) (Ev.bind m .done)
theorem qxo {ls:List qr}{M:Nat}{ps:List Tplace}{lo:List Int}{de:List (List Int)}{ex:List Int}(h:LkOk ls M)(k:lv.length=ls.length):Ev (fun n=>qjm n (grV ls lv ps b lo de ex) node) (ints (selN (toQ ls lv node) ls.length)):=by
 have g:=h.len;have f:Ev (fun n=>qU node ⟨V ⟨b,ps,ls,lo,de,ex⟩,lv⟩ ⟨b,ps,ls,lo,de,ex⟩ n ([]:List Int) 0) (ints (selN (toQ ls lv node) ls.length),(ls.length:Int)):=by
  refine qo3 (q:=toQ ls lv node) (Lf:=qU node ⟨V ⟨b,ps,ls,lo,de,ex⟩,lv⟩ ⟨b,ps,ls,lo,de,ex⟩) (len:=ls.length) (by omega) (Ev.succ ?_) (fun j d t i X c a=>?_)
  ·simp only[qU,qq (jf _),cond_false];exact .done
  ·simp only[qU,qp d,cond_true,qz d,qz (show j<lv.length by omega),jd,qjE,i,wS j];unfold toQ lvL toL at c a;cases hq:gt lv j
   ·simp only[cond_false];exact a (by rw[hq];rfl)
   ·simp only[cond_true];cases hw:(gt ls j).To==node
    ·simp only[cond_false];exact a (by rw[hq,hw];rfl)
    ·simp only[cond_true];exact c (by rw[hq,hw];rfl)
 unfold qjm qcV grV;simp only[jd];exact Ev.bind (Ev.bind f .done) .done
def fixS (node:Int)(s:Bool×qj):Bool×qj:=bif s.1 then s else(false,⟨node,zSp,zSp⟩)
theorem qvc (h:blockB b=true)(H:SpansI b c ex f)(J:lv.length=(linksL b).length)(u:TmOk t (2*(places b.Aa).length))(N:xs.length≤1048576) :
  Ev (fun n=>qdZ n (V ⟨V (viewE b ex),lv⟩) c xs t node) (ndS f (linksL b) lv t node (srcV (srcO xs node)) (linksL b).length):=by
 have x:=qgI h;have I:=x.len;have C:=qlm (q:=toQ (linksL b) lv node) (j:=(linksL b).length);have K:∀ j,(ndS f (linksL b) lv t node (srcV (srcO xs node)) j).1=true→(ndS f (linksL b) lv t node (srcV (srcO xs node)) j).2.Bo=node:=by
  intro j
  induction j with
  | zero=>
   show(srcV (srcO xs node)).1=true→(srcV (srcO xs node)).2.Bo=node;cases d:srcO xs node with
   | none=>intro e;cases e
   | some y=>exact fun _=>(qlc d).1
  | succ j ih=>
   unfold ndS;cases toQ (linksL b) lv node j
   ·exact ih
   ·simp only[cond_true];unfold stepS;cases gt t.Ay (frN (linksL b) j)
    ·exact ih
    ·simp only[cond_true];unfold joinS;cases (ndS f (linksL b) lv t node (srcV (srcO xs node)) j).1<;>exact fun _=>rfl
 have O:∀ j,(ndS f (linksL b) lv t node (srcV (srcO xs node)) j).1=false→(ndS f (linksL b) lv t node (srcV (srcO xs node)) j).2=zSrc:=by
  intro j
  induction j with
  | zero=>
   show(srcV (srcO xs node)).1=false→(srcV (srcO xs node)).2=zSrc;cases srcO xs node with
   | none=>exact fun _=>rfl
   | some y=>intro e;cases e
  | succ j ih=>
   unfold ndS;cases toQ (linksL b) lv node j
   ·exact ih
   ·simp only[cond_true];unfold stepS;cases gt t.Ay (frN (linksL b) j)
    ·exact ih
    ·simp only[cond_true];unfold joinS;cases (ndS f (linksL b) lv t node (srcV (srcO xs node)) j).1<;>(intro e;cases e)
 have D:∀ (l:List Nat) (s:Bool×qj),(∀ k,k ∈ l→toQ (linksL b) lv node k=true)→l.foldl (fun s k=>fixS node (stepS f (linksL b) t node s k)) (fixS node s)=fixS node (l.foldl (stepS f (linksL b) t node) s):=by
  intro l
  induction l with
  | nil=>intro s _;rfl
  | cons k l ih=>
   intro s L;have e:fixS node (stepS f (linksL b) t node (fixS node s) k)=fixS node (stepS f (linksL b) t node s k):=by
    unfold stepS;obtain⟨s1,s2⟩:=s;cases gt t.Ay (frN (linksL b) k)<;>cases s1<;>rfl
   rw[List.foldl_cons,List.foldl_cons,e];exact ih _ fun P g=>L P (js _ g)
 have B:=(qt1 (τ:=Bool×qj) (xs:=selN (toQ (linksL b) lv node) (linksL b).length) (Lf:=fun n s j=>qbu (V ⟨V (viewE b ex),lv⟩) c t (ints (selN (toQ (linksL b) lv node) (linksL b).length)) n s.1 s.2.Bo s.2.Ah.Aq s.2.Ah.Bd s.2.Bc.Aq s.2.Bc.Bd j)
  (step:=fun s k=>fixS node (stepS f (linksL b) t node s k)) (fin:=fun s=>(s.1,s.2.Bo,s.2.Ah.Aq,s.2.Ah.Bd,s.2.Bc.Aq,s.2.Bc.Bd,((ints (selN (toQ (linksL b) lv node) (linksL b).length)).length:Int))) (fixS node (srcV (srcO xs node))) (fun _ s=>s=fixS node s∧s.2.Bo=node) (by
   constructor
   ·unfold fixS;cases d:(srcV (srcO xs node)).1
    ·rfl
    ·simp only[d,cond_true]
   ·unfold fixS;cases d:srcO xs node with
    | none=>rfl
    | some y=>exact(qlc d).1)
  (fun j s p d=>by
   obtain⟨Q,F⟩:=d;have A:(stepS f (linksL b) t node s (selN (toQ (linksL b) lv node) (linksL b).length)[j]).2.Bo=node:=by
    unfold stepS;cases gt t.Ay (frN (linksL b) (selN (toQ (linksL b) lv node) (linksL b).length)[j])
    ·exact F
    ·unfold joinS;cases s.1<;>rfl
   constructor
   ·unfold fixS;cases d:(stepS f (linksL b) t node s (selN (toQ (linksL b) lv node) (linksL b).length)[j]).1
    ·rfl
    ·simp only[d,cond_true]
   ·unfold fixS;cases d:(stepS f (linksL b) t node s (selN (toQ (linksL b) lv node) (linksL b).length)[j]).1
    ·rfl
    ·exact A)
  (fun n s=>by simp only[qbu,qc6,qq (jf _),cond_false])
  (fun j s p d X a=>by
   obtain⟨v,i⟩:=d;have hi:=qoj p;have r:(selN (toQ (linksL b) lv node) (linksL b).length)[j]<(linksL b).length:=(qlF.1 (jo p)).1;generalize (selN (toQ (linksL b) lv node) (linksL b).length)[j]=k at hi r a;obtain⟨e1,m⟩:=qnO x r;have M:idx (viewE b ex).links (k:Int)=V (gt (linksL b) k):=qz r;simp only[qbu,qc6,qp p,cond_true,hi,M,jd,e1,qz (show frN (linksL b) k<t.Ay.length by rw[u.r];exact m),qz (show frN (linksL b) k<t.Ah.length by rw[u.a];exact m),qz (show frN (linksL b) k<t.Bc.length by rw[u.s];exact m),wS j];unfold stepS at a;cases h3:gt t.Ay (frN (linksL b) k)
   ·rw[h3] at a;simp only[cond_false] at a;rw[←v] at a;exact a
   rw[h3] at a;simp only[cond_true] at a ⊢;obtain⟨_,s1⟩:=H k _ r (u.sl _ m);refine Ev.bind s1 ?_;generalize f k (gt t.Bc (frN (linksL b) k))=q at a ⊢;simp only[qhh,jd];unfold joinS at a;unfold qgc;cases h4:s.1
   ·rw[h4] at a;simp only[Bool.not_false,cond_true,jd];unfold fixS at a;simp only[cond_false,cond_true] at a;rw[i];exact a
   ·rw[h4] at a;simp only[Jg,cond_false,qiF,jd];unfold fixS at a;simp only[cond_true] at a;rw[i];exact a)).1
 rw[D _ _ (fun k g=>(qlF.1 g).2),qvz] at B;unfold qdZ;refine Ev.bind (qqe N) ?_;have e0:(bif (srcV (srcO xs node)).1 then(qgc 0 ⟨node,⟨0,0⟩,⟨0,0⟩⟩ false ⟨(srcV (srcO xs node)).2.Ah.Aq,(srcV (srcO xs node)).2.Ah.Bd⟩ ⟨(srcV (srcO xs node)).2.Bc.Aq,(srcV (srcO xs node)).2.Bc.Bd⟩).bind (fun o=>match o with|(x9,x10)=>V (x10,x9.Bo,x9.Ah.Aq,x9.Ah.Bd,x9.Bc.Aq,x9.Bc.Bd)) else V (false,node,(0:Int),(0:Int),(0:Int),(0:Int))) =
   V ((fixS node (srcV (srcO xs node))).1,(fixS node (srcV (srcO xs node))).2.Bo,(fixS node (srcV (srcO xs node))).2.Ah.Aq,(fixS node (srcV (srcO xs node))).2.Ah.Bd,(fixS node (srcV (srcO xs node))).2.Bc.Aq,(fixS node (srcV (srcO xs node))).2.Bc.Bd):=by
  cases d:srcO xs node with
  | none=>rfl
  | some y=>
   have:=(qlc d).1;unfold fixS srcV;simp only[cond_true,this]
   rfl
 refine Ev.bindN e0 (Ev.bind (qxo (ps:=places b.Aa) (lo:=pre (load0 b) b.Af.length) (de:=pre (exactL b) b.Af.length) (ex:=ex) x J) (Ev.bind B ?_));have z:=O (linksL b).length;generalize ndS f (linksL b) lv t node (srcV (srcO xs node)) (linksL b).length=s at z ⊢;unfold fixS;obtain⟨s1,s2⟩:=s;cases s1
 ·have:=z Z;simp only at this;subst this;exact .done
 ·exact .done
end

theorem qk2 {b:qe}(h:blockB b=true):Ev (fun n=>qcv n b) ((2*(places b.Aa).length:Nat):Int):=by
 have a:=qag (qay h);have c:=qaO a;unfold qcv;refine Ev.bind (b:=(places b.Aa).map toSp) (qgn a) (Ev.now ?_);rw[jv,qR (by omega) (by omega)]
 rfl
theorem qnU {v:Tview}(a:v.places.length≤78)(n:Nat):qcD n (V v)=V ((2*v.places.length:Nat):Int):=by
 unfold qcD qez;simp only[jd];rw[qR (by omega) (by omega)]
 rfl
def stepN (xs:List qj)(j:Nat):Bool:=decide (j=0) || decide ((gt xs (j-1)).Bo<(gt xs j).Bo)
def srcB (xs:List qj)(M:Nat):Bool:=allN (fun j=>inI (gt xs j).Bo 0 ((M:Int)-1)&&(stepN xs j&&(spanB (gt xs j).Ah&&slewB (gt xs j).Bc))) xs.length
theorem qqd {xs:List qj}{j:Nat}(h:j ≠ 0):stepN xs j=decide ((gt xs (j-1)).Bo<(gt xs j).Bo):=by unfold stepN;rw[decide_eq_false h,Bool.false_or]
theorem qqx {b:qe}{xs:List qj}(h:blockB b=true)(m:xs.length≤1048576):Ev (fun n=>qgF n b xs) (srcB xs (2*(places b.Aa).length)):=by
 have k:=qaO (qag (qay h));have e:=qk2 h;obtain⟨M,g⟩:∃ M,M=2*(places b.Aa).length:=⟨_,rfl⟩;rw[←g] at e ⊢;have l:M≤156:=by omega
 have i:Ev (fun n=>qb9 xs (M:Int) n 0) (bif srcB xs M then .nxt (xs.length:Int) else .ret false):=by
  refine qe3 (Lf:=qb9 xs (M:Int)) (len:=xs.length) (Ev.succ (by simp only[qb9,qq (jf _),cond_false];exact .done)) (fun j f X d=>Ev.succ ?_);simp only[qb9,qp f,cond_true,qz f,jd,qcY,qp3,qrU,wS j,wO ((M:Int)-1)];cases inI (gt xs j).Bo 0 ((M:Int)-1)
  ·exact .done
  refine Ev.ff Z ?_;by_cases c:j=0
  ·subst c;refine Ev.ff Z ?_;show Ev _ (bif (stepN xs 0&&_) then X else _);rw[show stepN xs 0=true from rfl];show Ev (fun n=>bif !spanB (gt xs 0).Ah then _ else bif !slewB (gt xs 0).Bc then _ else _) _;cases spanB (gt xs 0).Ah
   ·exact .done
   ·cases slewB (gt xs 0).Bc
    ·exact .done
    ·exact d
  ·refine Ev.tt (decide_eq_true (by omega)) ?_;rw[show(j:Int)-1=((j-1:Nat):Int) by omega,qR (by omega) (by omega),qz (show j-1<xs.length by omega),qqd c];simp only[jd];by_cases a:(gt xs (j-1)).Bo<(gt xs j).Bo
   ·rw[decide_eq_true a];refine Ev.ff (decide_eq_false (by omega)) ?_;show Ev (fun n=>bif !spanB (gt xs j).Ah then _ else bif !slewB (gt xs j).Bc then _ else _) _;cases spanB (gt xs j).Ah
    ·exact .done
    ·cases slewB (gt xs j).Bc
     ·exact .done
     ·exact d
   ·rw[decide_eq_false a];exact Ev.tt (decide_eq_true (by omega)) .done
 unfold qgF;refine Ev.bind e (Ev.bind i ?_);cases srcB xs M<;>exact .done
theorem qqs {v:Tview}{xs:List qj}(h:v.places.length≤78)(k:xs.length≤1048576):Ev (fun n=>qdY n (V v) xs) (srcB xs (2*v.places.length)):=by
 have e:=qnU h;obtain⟨M,f⟩:∃ M,M=2*v.places.length:=⟨_,rfl⟩;rw[←f] at e ⊢;have i:M≤156:=by omega
 have g:Ev (fun n=>qa5 (V v) xs n 0) (bif srcB xs M then .nxt (xs.length:Int) else .ret false):=by
  refine qe3 (Lf:=qa5 (V v) xs) (len:=xs.length) (Ev.succ (by simp only[qa5,qq (jf _),cond_false];exact .done)) (fun j d X c=>Ev.succ ?_);simp only[qa5,qp d,cond_true,qz d,jd,qja,e,qdG,qoA,qsp,wS j,wO ((M:Int)-1)];cases inI (gt xs j).Bo 0 ((M:Int)-1)
  ·exact .done
  refine Ev.ff Z ?_;show Ev (fun n=>bif !spanB (gt xs j).Ah then _ else bif !slewB (gt xs j).Bc then _ else _) _;rw[jB,Bool.and_comm];cases spanB (gt xs j).Ah
  ·exact .done
  ·cases slewB (gt xs j).Bc
   ·exact .done
   ·refine Ev.ff Z (Ev.ff Z ?_);rw[jB,jB];by_cases b:j=0
    ·subst b;exact Ev.ff Z c
    ·refine Ev.tt (decide_eq_true (by omega)) ?_;rw[show(j:Int)-1=((j-1:Nat):Int) by omega,qR (by omega) (by omega),qz (show j-1<xs.length by omega),qqd b];simp only[jd];by_cases a:(gt xs (j-1)).Bo<(gt xs j).Bo
     ·rw[decide_eq_true a];exact Ev.ff (decide_eq_false (by omega)) c
     ·rw[decide_eq_false a];exact Ev.tt (decide_eq_true (by omega)) .done
 unfold qdY;refine Ev.bind g ?_;cases srcB xs M<;>exact .done
theorem qpK {xs:List qj}{M:Nat}(f:xs.length≤1048576)(h:srcB xs M=true):SrcOk xs:=by
 unfold srcB at h;rw[qah] at h;refine⟨f,fun j=>?_,fun x g=>?_⟩
 ·induction j with
  | zero=>intro i hi _;omega
  | succ j ih=>
   intro i hi d;have a:=h (j+1) d;rw[qqd (by omega)] at a;simp only[je,decide_eq_true_eq,Nat.add_sub_cancel] at a;have c:=a.2.1;by_cases b:i=j
   ·rw[b];exact c
   ·have:=ih i (by omega) (by omega);omega
 ·obtain⟨i,hi,rfl⟩:=List.mem_iff_getElem.1 g;have a:=h i hi;rw[←qeo hi];simp only[je] at a;have:=a.2.2.2;unfold slewB at this;simp only[je,decide_eq_true_eq] at this;exact⟨⟨this.1,by omega⟩,by omega,this.2.2⟩
section
variable {L:Nat}{fr to:Nat→Int}{lv:Nat→Bool}{n:Nat}
def OrdOk (L:Nat)(fr to:Nat→Int)(lv:Nat→Bool)(n:Nat)(R:List Nat):Prop:=∀ l1 k l2,R=l1++k::l2→k<n∧k ∉ l1∧inN L fr to lv l1 k=0
theorem OrdOk.snoc {R:List Nat}{k:Nat}(h:OrdOk L fr to lv n R)(d:nxtN L fr to lv n R=V k):OrdOk L fr to lv n (R++[k]):=by
 intro l1 a l2 e;rcases List.eq_nil_or_concat l2 with rfl|⟨l2',z,rfl⟩
 ·obtain⟨rfl,c⟩:=List.append_inj' e Z;obtain rfl:k=a:=by simpa using c
  exact qo2 d
 ·have b:R++[k]=(l1++a::l2')++[z]:=by rw[e];simp
  obtain⟨e1,_⟩:=List.append_inj' b Z;exact h l1 a l2' e1
theorem qwj:∀ m R R',OrdOk L fr to lv n R→ordN L fr to lv n m R=V R'→OrdOk L fr to lv n R':=by
 intro m
 induction m with
 | zero=>intro R R' h e;obtain rfl:=Option.some.inj e;exact h
 | succ m ih=>
  intro R R' h e;unfold ordN at e;cases hn:nxtN L fr to lv n R with
  | none=>rw[hn] at e;cases e
  | some k=>
   rw[hn] at e;exact ih _ _ (h.snoc hn) e
theorem OrdOk.at {R:List Nat}(h:OrdOk L fr to lv n R){j:Nat}(a:j<R.length):R[j]<n∧R[j] ∉ R.take j∧inN L fr to lv (R.take j) R[j]=0:=by
 refine h (R.take j) R[j] (R.drop (j+1)) ?_;rw[←jC a,List.take_append_drop]
end
theorem qoM {α:Type}[Inhabited α]{xs:List α}{k:Nat}{v:α}(a:k<xs.length)(h:gt xs k=v):setS xs (k:Int) v=xs:=by
 unfold setS;rw[jp,←h,qeo a];exact List.set_getElem_self a
theorem qhz {α:Type}[Inhabited α]{xs:List α}{a k:Nat}{y:α}(b:a<xs.length):gt (setS xs (a:Int) y) k=if k=a then y else gt xs k:=by
 unfold setS;rw[jp];by_cases h:k=a
 ·subst h;rw[if_pos Z,qpc b]
 ·rw[if_neg h,qrb h]
def setT (t:qu)(k:Nat)(s:Bool×qj):qu:=⟨setS t.Ay (k:Int) s.1,setS t.Ah (k:Int) s.2.Ah,setS t.Bc (k:Int) s.2.Bc⟩
theorem qrl {t:qu}{M k:Nat}{s:Bool×qj}(h:TmOk t M)(c:k<M)(d:slR s.2.Bc):TmOk (setT t k s) M where
 r:=by show(setS _ _ _).length=_;rw[qa8];exact h.r
 a:=by show(setS _ _ _).length=_;rw[qa8];exact h.a
 s:=by show(setS _ _ _).length=_;rw[qa8];exact h.s
 sl:=fun j b=>by
  show slR (gt (setS _ _ _) j);rw[qhz (by rw[h.s];exact c)];split
  ·exact d
  ·exact h.sl j b
def Bare (t:qu)(M:Nat)(l:List Nat):Prop:=∀ k,k<M→k ∉ l→gt t.Ay k=false∧gt t.Ah k=zSp∧gt t.Bc k=zSp
def zT:qu:=⟨[],[],[]⟩
theorem qvF:slR zSp:=by unfold slR zSp;exact⟨⟨jU _,by show(0:Int)≤_;omega⟩,jU _,by show(0:Int)≤_;omega⟩
theorem qv9 {s t:qf}(a:slR s)(b:slR t):slR (hullS s t):=by
 obtain⟨⟨a1,a2⟩,c,d⟩:=a;obtain⟨⟨b1,b2⟩,b3,f⟩:=b;refine⟨⟨?_,?_⟩,?_,?_⟩
 ·show(0:Int)≤(if t.Aq<s.Aq then t.Aq else s.Aq);split<;>assumption
 ·show(if t.Aq<s.Aq then t.Aq else s.Aq)≤1000000;split<;>assumption
 ·show(0:Int)≤(if t.Bd > s.Bd then t.Bd else s.Bd);split<;>assumption
 ·show(if t.Bd > s.Bd then t.Bd else s.Bd)≤1000000;split<;>assumption
section
variable {b:qe}{c:qy}{ex:List Int}{f g:Nat→qf→qf×qf}{lv:List Bool}{t:qu}{xs:List qj}{node:Int}
theorem qq8 (h:blockB b=true)(m:SpansS b c g)(i:∀ k s,(f k s).2=(g k s).2)(n:TmOk t (2*(places b.Aa).length))(o:SrcOk xs):∀ j,j≤(linksL b).length→slR (ndS f (linksL b) lv t node (srcV (srcO xs node)) j).2.Bc:=by
 intro j
 induction j with
 | zero=>
  intro _;show slR (srcV (srcO xs node)).2.Bc;cases hs:srcO xs node with
  | none=>exact qvF
  | some y=>exact o.sl y (qlc hs).2
 | succ j a=>
  intro p;have a:=a (by omega);obtain⟨_,l⟩:=qnO (qgI h) (show j<(linksL b).length by omega);have d:=(m j _ (show j<(linksL b).length by omega) (n.sl _ l)).1;rw[←i] at d;show slR (bif toQ (linksL b) lv node j then stepS f (linksL b) t node (ndS f (linksL b) lv t node (srcV (srcO xs node)) j) j else ndS f (linksL b) lv t node (srcV (srcO xs node)) j).2.Bc;cases toQ (linksL b) lv node j
  ·exact a
  ·simp only[cond_true];unfold stepS;cases gt t.Ay (frN (linksL b) j)
   ·exact a
   ·simp only[cond_true];unfold joinS;cases (ndS f (linksL b) lv t node (srcV (srcO xs node)) j).1
    ·exact d
    ·exact qv9 a d
theorem qsC (h:blockB b=true)(a:SpansS b c f)(d:TmOk t (2*(places b.Aa).length))(g:SrcOk xs):∀ j,j≤(linksL b).length→slR (ndS f (linksL b) lv t node (srcV (srcO xs node)) j).2.Bc:=qq8 h a (fun _ _=>rfl) d g
theorem qwo:∀ j,(ndS f (linksL b) lv t node (srcV (srcO xs node)) j).1=false→(ndS f (linksL b) lv t node (srcV (srcO xs node)) j).2=zSrc:=by
 intro j
 induction j with
 | zero=>
  show(srcV (srcO xs node)).1=false→(srcV (srcO xs node)).2=zSrc;cases srcO xs node with
  | none=>exact fun _=>rfl
  | some y=>intro e;cases e
 | succ j ih=>
  unfold ndS;cases toQ (linksL b) lv node j
  ·exact ih
  ·simp only[cond_true];unfold stepS;cases gt t.Ay (frN (linksL b) j)
   ·exact ih
   ·simp only[cond_true];unfold joinS;cases (ndS f (linksL b) lv t node (srcV (srcO xs node)) j).1<;>(intro e;cases e)
def runR (o:Option qu):qu×Bool:=match o with|some t=>(t,true)|none=>(zT,false)
def rnO (f:Nat→qf→qf×qf)(ls:List qr)(lv:List Bool)(xs:List qj):List Nat→qu→Option qu
 | [],t=>V t
 | k::R,t=>bif (ndS f ls lv t (k:Int) (srcV (srcO xs (k:Int))) ls.length).1 then bif spanB (ndS f ls lv t (k:Int) (srcV (srcO xs (k:Int))) ls.length).2.Ah then rnO f ls lv xs R (setT t k (ndS f ls lv t (k:Int) (srcV (srcO xs (k:Int))) ls.length)) else U else rnO f ls lv xs R t
def zTm (M:Nat):qu:=⟨List.replicate M false,List.replicate M zSp,List.replicate M zSp⟩
theorem qqb {α:Type}[Inhabited α]{v:α}{M k:Nat}(a:k<M):gt (List.replicate M v) k=v:=by rw[qeo (by rw[jG];exact a)];simp
theorem qp4 {M:Nat}:TmOk (zTm M) M:=⟨jG,jG,jG,fun k a=>by
 show slR (gt (List.replicate M zSp) k);rw[qqb a];exact qvF⟩
theorem qsF {M:Nat}{l:List Nat}:Bare (zTm M) M l:=fun k a _=>⟨qqb a,qqb a,qqb a⟩
theorem qwH (h:blockB b=true)(m:SpansS b c f)(n:SrcOk xs):∀ (R:List Nat) (t d:qu),(∀ k,k ∈ R→k<2*(places b.Aa).length)→TmOk t (2*(places b.Aa).length)→rnO f (linksL b) lv xs R t=V d→TmOk d (2*(places b.Aa).length):=by
 intro R
 induction R with
 | nil=>intro t d _ a e;obtain rfl:=Option.some.inj e;exact a
 | cons k R ih=>
  intro t d g a e;have l:=qsC (node:=(k:Int)) (lv:=lv) h m a n (linksL b).length (jf _);unfold rnO at e;cases h1:(ndS f (linksL b) lv t (k:Int) (srcV (srcO xs (k:Int))) (linksL b).length).1
  ·rw[h1] at e;exact ih _ _ (fun i hi=>g i (js _ hi)) a e
  ·rw[h1] at e;cases h2:spanB (ndS f (linksL b) lv t (k:Int) (srcV (srcO xs (k:Int))) (linksL b).length).2.Ah
   ·rw[h2] at e;cases e
   ·rw[h2] at e;exact ih _ _ (fun i hi=>g i (js _ hi)) (qrl a (g k (jx ..)) l) e
def runL (o:Option qu)(m:Nat):Flow (qu×Bool) (List qf×List qf×List Bool×Int):=match o with|some t'=>.nxt (t'.Bc,t'.Ah,t'.Ay,(m:Int))|none=>.ret (zT,false)
theorem qty (h:blockB b=true)(A:SpansS b c f)(H:lv.length=(linksL b).length)(B:SrcOk xs){R:List Nat}(C:∀ k,k ∈ R→k<2*(places b.Aa).length)(D:R.length≤1000) :
  Ev (fun n=>qkZ n b c (linksL b) lv xs (ints R)) (runR (rnO f (linksL b) lv xs R (zTm (2*(places b.Aa).length)))):=by
 have I:=qaO (qag (qay h));have m:=qk2 h;obtain⟨M,u⟩:∃ M,M=2*(places b.Aa).length:=⟨_,rfl⟩;have L:M≤156:=by omega
 have r:∀ d j t,j+d=R.length→TmOk t M→Ev (fun n=>qcw b c (linksL b) lv xs (ints R) n t.Bc t.Ah t.Ay (j:Int)) (runL (rnO f (linksL b) lv xs (R.drop j) t) R.length):=by
  intro d
  induction d with
  | zero=>
   intro j t F g;obtain rfl:j=R.length:=by omega
   rw[List.drop_length];refine Ev.succ ?_;simp only[qcw,qc6,qq (jf _),cond_false];exact .done
  | succ d ih=>
   intro j t F g;have a:j<R.length:=by omega
   have l:=C _ (jo a);have hi:=qoj a;have z:R.drop j=R[j]::R.drop (j+1):=jC a;generalize R[j]=k at l hi z;rw[←u] at l;have v:=qvf (node:=(k:Int)) h A H (by rw[←u];exact g) B;have p:=qsC (node:=(k:Int)) (lv:=lv) h A (by rw[←u];exact g) B (linksL b).length (jf _);have K:idx t.Ay (k:Int)=V (gt t.Ay k):=qz (by rw[g.r];exact l);have J:idx t.Ah (k:Int)=V (gt t.Ah k):=qz (by rw[g.a];exact l);have is:idx t.Bc (k:Int)=V (gt t.Bc k):=qz (by rw[g.s];exact l);have i:∀ n,qcw b c (linksL b) lv xs (ints R) (n+1) t.Bc t.Ah t.Ay (j:Int)=(qiL n b c (linksL b) lv xs t (k:Int)).bind fun o=>match o with
    | (r4,r5)=>bif (!r4) then qcw b c (linksL b) lv xs (ints R) n t.Bc t.Ah t.Ay ((j+1:Nat):Int) else bif (!spanB r5.Ah) then V (.ret (zT,false)) else
     qcw b c (linksL b) lv xs (ints R) n (setS t.Bc (k:Int) r5.Bc) (setS t.Ah (k:Int) r5.Ah) (setS t.Ay (k:Int) true) ((j+1:Nat):Int):=fun n=>by
    simp only[qcw,qc6,qp a,cond_true,hi,jd,qp3,K,J,is,wS j]
    rfl
   rw[z];unfold rnO;generalize ndS f (linksL b) lv t (k:Int) (srcV (srcO xs (k:Int))) (linksL b).length=s at v p ⊢;obtain⟨s1,s2⟩:=s;cases s1
   ·exact Ev.step i (Ev.bind v (ih (j+1) t (by omega) g))
   ·cases hsp:spanB s2.Ah
    ·refine Ev.step i (Ev.bind v ?_);simp only[hsp];exact .done
    ·refine Ev.step i (Ev.bind v ?_);simp only[hsp];exact ih (j+1) (setT t k (true,s2)) (by omega) (qrl g l p)
 have x:mkS (M:Int) false=V (List.replicate M false):=qlJ (by omega);have y:mkS (M:Int) (⟨0,0⟩:qf)=V (List.replicate M zSp):=qlJ (by omega);have o2:=r R.length 0 (zTm M) (by omega) qp4;rw[List.drop_zero] at o2;rw[←u] at m ⊢;unfold qkZ qk4;refine Ev.bind m ?_;simp only[x,y,jd];refine Ev.bind o2 ?_;cases rnO f (linksL b) lv xs R (zTm M)<;>exact .done
theorem qwa (h:blockB b=true)(hg:SpansS b c g)(H:∀ k s,(f k s).2=(g k s).2)(hf:SpansI b c ex f)(hl:lv.length=(linksL b).length)(P:SrcOk xs){R:List Nat}(Y:∀ j,∀ O:j<R.length,R[j]<2*(places b.Aa).length∧R[j] ∉ R.take j)(a3:R.length≤1000) :
  Ev (fun n=>qfv n (V ⟨V (viewE b ex),lv⟩) c xs (ints R)) (runR (rnO f (linksL b) lv xs R (zTm (2*(places b.Aa).length)))):=by
 have L:=qaO (qag (qay h));have r:=qnU (v:=viewE b ex) L;have D:(viewE b ex).places.length=(places b.Aa).length:=rfl;rw[D] at r;obtain⟨M,B⟩:∃ M,M=2*(places b.Aa).length:=⟨_,rfl⟩;have hM:M≤156:=by omega
 have A:∀ d j t,j+d=R.length→TmOk t M→Bare t M (R.take j)→Ev (fun n=>qa6 (V ⟨V (viewE b ex),lv⟩) c xs (ints R) n t.Bc t.Ah t.Ay (j:Int)) (runL (rnO f (linksL b) lv xs (R.drop j) t) R.length):=by
  intro d
  induction d with
  | zero=>
   intro j t O a _;obtain rfl:j=R.length:=by omega
   rw[List.drop_length];refine Ev.succ ?_;simp only[qa6,qc6,qq (jf _),cond_false];exact .done
  | succ d ih=>
   intro j t O a F;have m:j<R.length:=by omega
   obtain⟨l,S⟩:=Y j m;have hi:=qoj m;have x:R.take (j+1)=R.take j++[R[j]]:=jz m;have N:R.drop j=R[j]::R.drop (j+1):=jC m;generalize R[j]=k at l S hi x N;rw[←B] at l;have C:=qvc (node:=(k:Int)) h hf hl (by rw[←B];exact a) P.len;have z:=qq8 (node:=(k:Int)) (lv:=lv) h hg H (by rw[←B];exact a) P (linksL b).length (jf _);have Q:=qwo (f:=f) (b:=b) (lv:=lv) (t:=t) (xs:=xs) (node:=(k:Int)) (linksL b).length;obtain⟨b1,b2,b3⟩:=F k l S;have ir:idx t.Ay (k:Int)=V (gt t.Ay k):=qz (by rw[a.r];exact l);have ia:idx t.Ah (k:Int)=V (gt t.Ah k):=qz (by rw[a.a];exact l);have is:idx t.Bc (k:Int)=V (gt t.Bc k):=qz (by rw[a.s];exact l);have y:∀ n,qa6 (V ⟨V (viewE b ex),lv⟩) c xs (ints R) (n+1) t.Bc t.Ah t.Ay (j:Int)=(qdZ n (V ⟨V (viewE b ex),lv⟩) c xs t (k:Int)).bind fun o=>match o with
    | (r3,r4)=>(bif r3 then V (!spanB r4.Ah) else V false).bind fun b3=>bif b3 then V (.ret (zT,false)) else
     qa6 (V ⟨V (viewE b ex),lv⟩) c xs (ints R) n (setS t.Bc (k:Int) r4.Bc) (setS t.Ah (k:Int) r4.Ah) (setS t.Ay (k:Int) r3) ((j+1:Nat):Int):=fun n=>by
    simp only[qa6,qc6,qp m,cond_true,hi,jd,qoA,ir,ia,is,wS j]
    rfl
   rw[N];unfold rnO;generalize ndS f (linksL b) lv t (k:Int) (srcV (srcO xs (k:Int))) (linksL b).length=s at C z Q ⊢;obtain⟨s1,s2⟩:=s;cases s1
   ·have:=Q Z;simp only at this;subst this;have e1:setS t.Bc (k:Int) zSrc.Bc=t.Bc:=qoM (by rw[a.s];exact l) b3;have W:setS t.Ah (k:Int) zSrc.Ah=t.Ah:=qoM (by rw[a.a];exact l) b2;have X:setS t.Ay (k:Int) false=t.Ay:=qoM (by rw[a.r];exact l) b1;refine Ev.step y (Ev.bind C ?_);simp only[cond_false,jd,e1,W,X];exact ih (j+1) t (by omega) a (fun i hi p=>F i hi (fun I=>p (by rw[x];exact jD _ I)))
   ·cases hsp:spanB s2.Ah
    ·refine Ev.step y (Ev.bind C ?_);simp only[hsp];exact .done
    ·refine Ev.step y (Ev.bind C ?_);simp only[hsp];refine ih (j+1) (setT t k (true,s2)) (by omega) (qrl a l z) (fun i hi p=>?_);rw[x] at p;have u:i ≠ k:=fun e=>p (jT _ (List.mem_singleton.2 e));have:=F i hi (fun I=>p (jD _ I));refine⟨?_,?_,?_⟩
     ·show gt (setS _ _ _) i=_;rw[qhz (by rw[a.r];exact l),if_neg u];exact this.1
     ·show gt (setS _ _ _) i=_;rw[qhz (by rw[a.a];exact l),if_neg u];exact this.2.1
     ·show gt (setS _ _ _) i=_;rw[qhz (by rw[a.s];exact l),if_neg u];exact this.2.2
 have J:mkS (M:Int) false=V (List.replicate M false):=qlJ (by omega);have K:mkS (M:Int) (⟨0,0⟩:qf)=V (List.replicate M zSp):=qlJ (by omega);have T:=A R.length 0 (zTm M) (by omega) qp4 qsF;rw[List.drop_zero] at T;rw[←B] at r ⊢;unfold qfv qhJ;simp only[jd,r,J,K];refine Ev.bind T ?_;cases rnO f (linksL b) lv xs R (zTm M)<;>exact .done
end

abbrev lkB (b:qe):Nat:=(linksL b).length
abbrev ndB (b:qe):Nat:=2*(places b.Aa).length
abbrev lvJ (b:qe)(br:List Int):List Bool:=lvB br (lkB b)
def grB (b:qe)(br:List Int):Option Tgraph:=V ⟨V (viewV b),lvJ b br⟩
structure TgOk (b:qe)(c:qy)(br:List Int)(xs:List qj)(R:List Nat):Prop where
 bl:blockB b=true
 co:cornerB c=true
 br_:brB br (lkB b)=true
 sr:srcB xs (ndB b)=true
 or_:ordL (linksL b) (lvJ b br) (ndB b) (ndB b) []=V R
theorem TgOk.ord {b:qe}{c:qy}{br:List Int}{xs:List qj}{R:List Nat}(h:TgOk b c br xs R):OrdOk (lkB b) (frL (linksL b)) (toL (linksL b)) (lvL (lvJ b br)) (ndB b) R:=
 qwj (ndB b) [] R (fun l1 k l2 e=>by cases l1<;>cases e) h.or_
theorem TgOk.len {b:qe}{c:qy}{br:List Int}{xs:List qj}{R:List Nat}(h:TgOk b c br xs R):R.length=ndB b:=by
 have:=qux (ndB b) [] R h.or_;simpa using this
theorem qhx {x:Int}(h:x ≠ 0):(x != 0)=true:=by simpa using h
theorem qwE {b:qe}{c:qy}{br:List Int}{xs:List qj}(B:qkd b)(H:okS c.Bi)(a:br.length≤1048576)(m:xs.length≤1048576) :
  (∃ code:Int,code ≠ 0∧Ev (fun n=>qhI n b c br xs) ([],code)∧Ev (fun n=>qgh n b c br xs U) (U,[],code)) ∨
  ∃ R,TgOk b c br xs R∧Ev (fun n=>qhI n b c br xs) (ints R,0)∧Ev (fun n=>qgh n b c br xs U) (grB b br,ints R,0):=by
 have s1:=qiq B;have k:=qsW B;have s2:=qrz (c:=c) H;have s:=qst (c:=c) H;unfold qhI qgh;cases h1:blockB b
 ·rw[h1] at s1 k;exact .inl ⟨1,by omega,Ev.bind (b:=true) (Ev.bind s1 (Ev.tt Z .done)) (Ev.tt Z .done),Ev.bind (b:=true) (Ev.bind k (Ev.tt Z .done)) (Ev.tt Z .done)⟩
 cases h2:cornerB c
 ·rw[h1] at s1 k;rw[h2] at s2 s;exact .inl ⟨1,by omega,Ev.bind (b:=true) (Ev.bind s1 (Ev.ff Z (Ev.bind s2 .done))) (Ev.tt Z .done),Ev.bind (b:=true) (Ev.bind k (Ev.ff Z (Ev.bind s .done))) (Ev.tt Z .done)⟩
 have C:=qaO (qag (qay h1));have d:=qdN h1;have I:=qgI h1;have i:=qtd (br:=br) B h1 a;have f:=qsh (v:=viewV b) (br:=br) a d;have y:=qqx (xs:=xs) h1 m;have p:=qqs (v:=viewV b) (xs:=xs) C m;have F:(viewV b).links=linksL b:=rfl;have M:(viewV b).places=places b.Aa:=rfl;rw[F] at f;rw[M] at p;rw[h1] at s1 k;rw[h2] at s2 s;have A:Ev (fun n=>(qeC n b).bind fun g=>bif (!g) then V true else(qh1 n c).bind fun h=>V (!h)) false:=Ev.bind s1 (Ev.ff Z (Ev.bind s2 .done));have u:Ev (fun n=>(qiQ n b).bind fun g=>bif (!g) then V true else(qhN n c).bind fun h=>V (!h)) false:=Ev.bind k (Ev.ff Z (Ev.bind s .done));have x:=qsZ h1;cases h3:brB br (lkB b)
 ·rw[h3] at i f;exact .inl ⟨2,by omega,Ev.bind A (Ev.ff Z (Ev.bind (b:=true) (Ev.bind i (Ev.tt Z .done)) (Ev.tt Z .done))),
   Ev.bind u (Ev.ff Z (Ev.bind x (Ev.bind (b:=false) (Ev.ff Z .done) (Ev.ff Z (Ev.bind (b:=true) (Ev.bind f (Ev.tt Z .done)) (Ev.tt Z .done))))))⟩
 cases h4:srcB xs (ndB b)
 ·rw[h3] at i f;rw[h4] at y p;exact .inl ⟨2,by omega,Ev.bind A (Ev.ff Z (Ev.bind (b:=true) (Ev.bind i (Ev.ff Z (Ev.bind y .done))) (Ev.tt Z .done))),
   Ev.bind u (Ev.ff Z (Ev.bind x (Ev.bind (b:=false) (Ev.ff Z .done) (Ev.ff Z (Ev.bind (b:=true) (Ev.bind f (Ev.ff Z (Ev.bind p .done))) (Ev.tt Z .done))))))⟩
 have D:=qsX (v:=viewV b) (br:=br) d h3;rw[F] at D;have Q:=qg6 (ls:=linksL b) (br:=br) d a;have l:(lvJ b br).length=lkB b:=qjg;have z:=quk (lv:=lvJ b br) I l;have t:=qt8 (b:=b) (ps:=places b.Aa) (lo:=pre (load0 b) b.Af.length) (de:=pre (exactL b) b.Af.length) (ex:=[]) (lv:=lvJ b br) I l Z;rw[h3] at i f;rw[h4] at y p;have K:Ev (fun n=>(qhi n b br).bind fun O=>bif (O != 0) then V true else(qgF n b xs).bind fun P=>V (!P)) false:=Ev.bind i (Ev.ff Z (Ev.bind y .done));have J:Ev (fun n=>(qeY n (V (viewV b)) br).bind fun g=>bif (!g) then V true else(qdY n (V (viewV b)) xs).bind fun h=>V (!h)) false:=Ev.bind f (Ev.ff Z (Ev.bind p .done));have L:∀ r:List Int×Int,Ev (fun n=>(qhX n (ndB b:Int) (linksL b) (lvJ b br)).bind fun o=>match o with|(g,h)=>bif (!h) then V (([]:List Int),(7:Int)) else V (g,0)) r→Ev (fun n=>qfd n b br) r:=fun r N=>by
  unfold qfd;exact Ev.bind i (Ev.ff Z (Ev.bind (qdh h1) (Ev.bind (qk2 h1) (Ev.bind Q N))))
 cases ho:ordL (linksL b) (lvJ b br) (ndB b) (ndB b) [] with
 | none=>
  have e:ordR (linksL b) (lvJ b br) (ndB b)=([],false):=by unfold ordR;rw[ho]
  rw[e] at z t;exact .inl ⟨7,by omega,Ev.bind A (Ev.ff Z (Ev.bind K (Ev.ff Z (Ev.bind (L ([],7) (Ev.bind z (Ev.tt Z .done))) .done)))),
   Ev.bind u (Ev.ff Z (Ev.bind x (Ev.bind (b:=false) (Ev.ff Z .done) (Ev.ff Z (Ev.bind J (Ev.ff Z (Ev.bind D (Ev.bind t (Ev.tt Z .done)))))))))⟩
 | some R=>
  have e:ordR (linksL b) (lvJ b br) (ndB b)=(ints R,true):=by unfold ordR;rw[ho]
  rw[e] at z t;exact .inr ⟨R,⟨h1,h2,h3,h4,ho⟩,Ev.bind A (Ev.ff Z (Ev.bind K (Ev.ff Z (Ev.bind (L (ints R,0) (Ev.bind z (Ev.ff Z .done))) .done)))),
   Ev.bind u (Ev.ff Z (Ev.bind x (Ev.bind (b:=false) (Ev.ff Z .done) (Ev.ff Z (Ev.bind J (Ev.ff Z (Ev.bind D (Ev.bind t (Ev.ff Z .done)))))))))⟩
structure WkOk (j:qau)(t:qu)(R:List Nat):Prop where
 tg:TgOk j.Ac j.Aj j.Bg j.Ap R
 tm:TmOk t (ndB j.Ac)
def wkV (j:qau)(t:qu)(R:List Nat):Option Twork:=V ⟨grB j.Ac j.Bg,j,t,ints R⟩
theorem qpH {j:qau}(h:qku j) :
  (∃ code:Int,code ≠ 0∧Ev (fun n=>qaP n j.Ac j.Aj j.Bg j.Ap) (zT,code)∧Ev (fun n=>qg0 n j) (U,code)) ∨
  ∃ t R,WkOk j t R∧Ev (fun n=>qaP n j.Ac j.Aj j.Bg j.Ap) (t,0)∧Ev (fun n=>qg0 n j) (wkV j t R,0):=by
 have g:=h.Bg.len;have a:=h.Ap.len;unfold qaP qg0;rcases qwE h.Ac h.Aj.Bi g a with⟨code,hne,hs,hi⟩|⟨R,hg,hs,hi⟩
 ·exact .inl ⟨code,hne,Ev.bind hs (Ev.tt (qhx hne) .done),Ev.bind hi (Ev.tt (qhx hne) .done)⟩
 ·have b:=hg.bl;have s:=qdN b;have v:=qg6 (ls:=linksL j.Ac) (br:=j.Bg) s g;obtain⟨f,p,r⟩:=qrY b hg.co;have l:=r [] (.inl Z);rw[qqR] at l;have y:=qaO (qag (qay b));have m:=hg.len;have c:R.length≤1000:=by rw[m];show 2*(places j.Ac.Aa).length≤1000;omega
  have d:∀ k,k ∈ R→k<2*(places j.Ac.Aa).length:=fun k x=>by
   obtain⟨i,hi,rfl⟩:=List.mem_iff_getElem.1 x;exact(hg.ord.at hi).1
  have o2:=qty (lv:=lvJ j.Ac j.Bg) (R:=R) b p qjg (qpK a hg.sr) d c;have u:=qwa (lv:=lvJ j.Ac j.Bg) (R:=R) b p (fun _ _=>rfl) l qjg (qpK a hg.sr) (fun i hi=>⟨(hg.ord.at hi).1,(hg.ord.at hi).2.1⟩) c;have o1:=qwH (lv:=lvJ j.Ac j.Bg) b p (qpK a hg.sr) R (zTm (2*(places j.Ac.Aa).length));generalize rnO f (linksL j.Ac) (lvJ j.Ac j.Bg) j.Ap R (zTm (2*(places j.Ac.Aa).length))=o at o1 o2 u;cases o with
  | none=>exact .inl ⟨3,by omega,Ev.bind hs (Ev.ff Z (Ev.bind (qdh b) (Ev.bind v (Ev.bind o2 (Ev.tt Z .done))))),Ev.bind hi (Ev.ff Z (Ev.bind u (Ev.tt Z .done)))⟩
  | some t=>exact .inr ⟨t,R,⟨hg,o1 t d qp4 Z⟩,Ev.bind hs (Ev.ff Z (Ev.bind (qdh b) (Ev.bind v (Ev.bind o2 (Ev.ff Z .done))))),Ev.bind hi (Ev.ff Z (Ev.bind u (Ev.ff Z .done)))⟩

def sdL (ls:List qr)(fw:Bool)(k:Nat):Int:=bif fw then frL ls k else toL ls k
def tdL (ls:List qr)(fw:Bool)(k:Nat):Int:=bif fw then toL ls k else frL ls k
structure ReachI (ls:List qr)(lv:List Bool)(M:Nat)(fw:Bool)(v:Nat)(x:List Bool):Prop where
 len:x.length=M
 self:gt x v=true
 wit:∀ j,j<M→gt x j=true→j=v∨∃ k a:Nat,k<ls.length∧gt lv k=true∧sdL ls fw k=(a:Int)∧a<M∧gt x a=true∧tdL ls fw k=(j:Int)
def ShutI (ls:List qr)(lv:List Bool)(fw:Bool)(x:List Bool)(k:Nat):Prop:=gt lv k=true→∀ a b:Nat,sdL ls fw k=(a:Int)→tdL ls fw k=(b:Int)→gt x a=true→gt x b=true
theorem qtN {x:List Bool}:x.countP id≤x.length:=List.countP_le_length
theorem qtX {x:List Bool}{c:Nat}(a:c<x.length)(h:gt x c=false):(setS x (c:Int) true).countP id=x.countP id+1:=by
 have e:setS x (c:Int) true=x.set c true:=by unfold setS;rw[jp]
 rw[e];have:x[c]=false:=by rw[←qeo a];exact h
 clear e h
 induction x generalizing c with
 | nil=>cases a
 | cons y x ih=>
  cases c with
  | zero=>
   have d:y=false:=this;subst d;simp
  | succ c=>
   have b:c<x.length:=by simpa using a
   have:=ih b (by simpa using this);rw[List.set_cons_succ,List.countP_cons,List.countP_cons,this];omega
section
variable {ls:List qr}{lv:List Bool}{M:Nat}
theorem quY (h:LkOk ls M){k:Nat}(c:k<ls.length)(fw:Bool):∃ a b:Nat,sdL ls fw k=(a:Int)∧tdL ls fw k=(b:Int)∧a<M∧b<M:=by
 have d:=h.fr0 k c;have g:=h.fr1 k c;have f:=h.to0 k c;have i:=h.to1 k c;cases fw
 ·exact⟨(gt ls k).To.toNat,(gt ls k).Bk.toNat,qcE f,qcE d,by omega,by omega⟩
 ·exact⟨(gt ls k).Bk.toNat,(gt ls k).To.toNat,qcE d,qcE f,by omega,by omega⟩
theorem qwL (h:LkOk ls M)(S:lv.length=ls.length){fw:Bool}{v:Nat}:∀ (d k:Nat) (x:List Bool) (b:Bool),k+d=ls.length→ReachI ls lv M fw v x→(b=false→∀ j,j<k→ShutI ls lv fw x j) →
  EvQ (fun n=>qdM ls lv fw n x b (k:Int)) (fun o=>ReachI ls lv M fw v o.1∧(o.2.1=false→∀ j,j<ls.length→ShutI ls lv fw o.1 j)∧x.countP id≤o.1.countP id∧(o.2.1=true→b=true∨x.countP id<o.1.countP id)):=by
 have Q:=h.len;intro d
 induction d with
 | zero=>
  intro k x b P g s;refine EvQ.succ ?_;simp only[qdM];refine EvQ.ff (qq (by omega)) (EvQ.done ⟨g,fun e j u=>s e j (by omega),jf _,fun e=>.inl e⟩)
 | succ d ih=>
  intro k x b P g s;have f:k<ls.length:=by omega
  obtain⟨p,q,z,C,I,R⟩:=quY h f fw;refine EvQ.succ ?_;simp only[qdM,wS k];refine EvQ.tt (qp f) (EvQ.bindN (qz f) (EvQ.bindN (qz f) (EvQ.bindN (b:=((p:Int),(q:Int))) (by rw[←z,←C];cases fw<;>rfl) ?_)));have B:p<x.length:=by rw[g.len];exact I
  have c:q<x.length:=by rw[g.len];exact R
  refine EvQ.bindN (b:=gt lv k&&(gt x p&&!gt x q)) (by rw[qz (show k<lv.length by omega),qz B,qz c];simp only[jd];cases gt lv k<;>cases gt x p<;>rfl) ?_;refine EvQ.bif (fun i=>?_) (fun i=>?_)
  ·simp only[je,jF] at i;obtain⟨c1,r,F⟩:=i;have A:p ≠ q:=fun e=>by rw[e,F] at r;cases r
   have H:=qtX c F;refine EvQ.bindN (qz c) ((ih (k+1) (setS x (q:Int) true) true (by omega) ⟨by rw[qa8];exact g.len,?_,fun j u l=>?_⟩ (fun e=>by cases e)).mono fun o m=>⟨m.1,m.2.1,by have:=m.2.2.1;omega,fun _=>.inr (by have:=m.2.2.1;omega)⟩)
   ·rw[qhz c];split
    ·rfl
    ·exact g.self
   ·by_cases e:j=q
    ·exact .inr ⟨k,p,f,c1,z,I,by rw[qhz c,if_neg A];exact r,by rw[C,e]⟩
    ·rw[qhz c,if_neg e] at l;rcases g.wit j u l with e2|⟨k',a,w1,w2,w3,w4,w5,w6⟩
     ·exact .inl e2
     ·exact .inr ⟨k',a,w1,w2,w3,w4,by rw[qhz c];split;rfl;exact w5,w6⟩
  ·refine ih (k+1) x b (by omega) g (fun e j u=>?_);by_cases N:j=k
   ·subst N;intro y a J O t D;rw[z] at O;rw[C] at t;have K:p=a:=by omega
    have L:q=J:=by omega
    subst K;subst L;rw[y,D] at i;simpa using i
   ·exact s e j (by omega)
theorem qtn (h:LkOk ls M)(t:lv.length=ls.length){fw:Bool}{v:Nat}(y:v<M):EvQ (fun n=>qhW n (M:Int) ls lv (v:Int) fw) (fun x=>ReachI ls lv M fw v x∧∀ j,j<ls.length→ShutI ls lv fw x j):=by
 have A:=h.nodes;have f:∀ (d:Nat) (x:List Bool),M<x.countP id+d→ReachI ls lv M fw v x→EvQ (fun n=>qeS ls lv fw n x true) (fun o=>ReachI ls lv M fw v o.1∧∀ j,j<ls.length→ShutI ls lv fw o.1 j):=by
  intro d
  induction d with
  | zero=>
   intro x s l;have:=qtN (x:=x);rw[l.len] at this;omega
  | succ d ih=>
   intro x s l;refine EvQ.succ ?_;simp only[qeS,cond_true];refine EvQ.bind (qwL h t ls.length 0 x false (by omega) l (fun _ j k=>absurd k (Nat.not_lt_zero _))) ?_;rintro⟨z,b3,i⟩ ⟨g,m,r,p⟩;dsimp only at g m r p ⊢;cases b3
   ·refine EvQ.succ ?_;simp only[qeS,cond_false];exact EvQ.done ⟨g,m Z⟩
   ·rcases p rfl with e|e
    ·cases e
    ·exact ih z (by omega) g
 unfold qhW;have a:v<(pre (fun _=>false) M).length:=by rw[qj3];exact y
 refine EvQ.bindN (qlo (by omega)) (EvQ.bindN (qz a) (EvQ.bind (f (M+1) _ (by omega) ⟨by rw[qa8,qj3],by rw[qhz a,if_pos Z],fun j k c=>?_⟩) ?_))
 ·refine .inl ?_;refine Classical.byContradiction fun e=>?_;rw[qhz a,if_neg e,qvx k] at c;cases c
 ·rintro⟨x,b⟩ u;exact EvQ.done u
def SelfL (ls:List qr)(lv:List Bool)(v:Nat):Prop:=∃ k,k<ls.length∧gt lv k=true∧frL ls k=(v:Int)∧toL ls k=(v:Int)
structure LoopI (ls:List qr)(lv:List Bool)(M:Nat)(l:List Int):Prop where
 ex:∃(v:Nat) (there back:List Bool),v<M∧(ReachI ls lv M true v there∧∀ j,j<ls.length→ShutI ls lv true there j)∧(ReachI ls lv M false v back∧∀ j,j<ls.length→ShutI ls lv false back j) ∧
  l=ints (selN (fun w=>gt there w&&gt back w) M)∧(1<l.length∨SelfL ls lv v)
theorem qw2 (h:LkOk ls M)(p:lv.length=ls.length){v:Nat}:EvQ (fun n=>qjS n ls lv (v:Int)) (fun r=>r=true→SelfL ls lv v):=by
 have l:=h.len;have b:∀ d k,k+d=ls.length→EvQ (fun n=>qdi ls lv (v:Int) n (k:Int)) (fun o=>∀ r,o=.ret r→SelfL ls lv v):=by
  intro d
  induction d with
  | zero=>
   intro k i;refine EvQ.succ ?_;simp only[qdi];exact EvQ.ff (qq (by omega)) (EvQ.done fun r m=>by cases m)
  | succ d ih=>
   intro k i;have a:k<ls.length:=by omega
   refine EvQ.succ ?_;simp only[qdi,wS k];refine EvQ.tt (qp a) (EvQ.bindN (qz (show k<lv.length by omega)) (EvQ.bif (fun c=>EvQ.bindN (qz a) (EvQ.bif (fun f=>EvQ.bindN (qz a) (EvQ.bif (fun g=>EvQ.done fun _ _=>⟨k,a,c,beq_iff_eq.1 f,beq_iff_eq.1 g⟩) (fun _=>ih (k+1) (by omega)))) (fun _=>ih (k+1) (by omega)))) (fun _=>ih (k+1) (by omega))))
 unfold qjS;refine EvQ.bind (b ls.length 0 (by omega)) ?_;rintro(r|x) ho
 ·exact EvQ.done fun _=>ho r Z
 ·exact EvQ.done fun e=>by cases e
theorem qv8 (h:LkOk ls M)(t:lv.length=ls.length):EvQ (fun n=>qjn n (M:Int) ls lv) (fun o=>∀ l,l ∈ o→LoopI ls lv M l):=by
 have L:=h.nodes;have k:∀ {a back:List Bool},a.length=M→back.length=M→∀ d j p f,j+d=M→p=ints (selN (fun w=>gt a w&&gt back w) j)→f.length=M →
   EvQ (fun n=>qdB (M:Int) a back n p f (j:Int)) (fun o=>o.1=ints (selN (fun w=>gt a w&&gt back w) M)∧o.2.1.length=M):=by
  intro a back z y d
  induction d with
  | zero=>
   intro j p f D s x;obtain rfl:j=M:=by omega
   refine EvQ.succ ?_;simp only[qdB];exact EvQ.ff (qq (jf _)) (EvQ.done ⟨s,x⟩)
  | succ d ih=>
   intro j p f D s x;refine EvQ.succ ?_;simp only[qdB,wS j];refine EvQ.tt (qp (by omega)) (EvQ.bindN (b:=gt a j&&gt back j) (by rw[qz (show j<a.length by omega),qz (show j<back.length by omega)];simp only[jd];cases gt a j<;>rfl) ?_);have e:=qly (q:=fun w=>gt a w&&gt back w) (j:=j);have J:(selN (fun w=>gt a w&&gt back w) j).length≤j:=qlm;refine EvQ.bif (fun g=>?_) (fun g=>?_)
   ·refine EvQ.bindN (qb5 (by rw[s,qc6];omega)) (EvQ.bindN (qz (show j<f.length by omega)) (ih (j+1) _ _ (by omega) ?_ (by rw[qa8];exact x)));rw[e,g,cond_true,s];unfold ints;rw[jW];rfl
   ·refine ih (j+1) _ _ (by omega) ?_ x;rw[e,g,cond_false,Ja,s]
 have v:∀ d j m c,j+d=M→m.length=M→c.length≤j→(∀ l,l ∈ c→LoopI ls lv M l) →
   EvQ (fun n=>qcM (M:Int) ls lv n m c (j:Int)) (fun o=>∀ l,l ∈ o.2.1→LoopI ls lv M l):=by
  intro d
  induction d with
  | zero=>
   intro j m c D B F u;refine EvQ.succ ?_;simp only[qcM];exact EvQ.ff (qq (by omega)) (EvQ.done u)
  | succ d ih=>
   intro j m c D B F u;refine EvQ.succ ?_;simp only[qcM,wS j];refine EvQ.tt (qp (by omega)) (EvQ.bindN (qz (show j<m.length by omega)) (EvQ.bif (fun _=>ih (j+1) m c (by omega) B (by omega) u) (fun _=>?_)));refine EvQ.bind (qtn h t (fw:=true) (show j<M by omega)) (fun a z=>?_);refine EvQ.bind (qtn h t (fw:=false) (show j<M by omega)) (fun back y=>?_);refine EvQ.bind (k z.1.len y.1.len M 0 [] m (by omega) Z B) ?_;rintro⟨p,f,i⟩ ⟨A,l5⟩;dsimp only at A l5 ⊢;refine EvQ.bind (R:=fun r=>r=true→LoopI ls lv M p) (EvQ.bif (fun g=>EvQ.done fun _=>⟨j,a,back,by omega,z,y,A,.inl (by have:=of_decide_eq_true g;omega)⟩) (fun _=>EvQ.bind (qw2 h t) (fun r I=>EvQ.done fun e=>⟨j,a,back,by omega,z,y,A,.inr (I e)⟩))) (fun K C=>?_);refine EvQ.bif (fun g=>?_) (fun _=>ih (j+1) f c (by omega) l5 (by omega) u);exact EvQ.bindN (qb5 (by omega)) (ih (j+1) f _ (by omega) l5 (by rw[jg,jh];omega) (qbz u (C g)))
 unfold qjn;refine EvQ.bindN (qlo (by omega)) (EvQ.bind (v M 0 (pre (fun _=>false) M) [] (by omega) qj3 (jf _) (fun _ t=>by cases t)) ?_);rintro⟨_,c,_⟩ H;exact EvQ.done H
theorem quf (h:LkOk ls M)(A:∀ k k',k<ls.length→k'<ls.length→(gt ls k).Bf ≠ 1→(gt ls k').Bf ≠ 1→toL ls k ≠ frL ls k'){l:List Int}(L:LoopI ls lv M l) :
  ∃ k,k<ls.length∧gt lv k=true∧(gt ls k).Bf=1∧frL ls k ∈ l∧toL ls k ∈ l:=by
 obtain⟨v,c,back,N,⟨z,D⟩,⟨x,C⟩,e,m⟩:=L.ex;have mem:∀ w:Nat,w<M→gt c w=true→gt back w=true→(w:Int) ∈ l:=fun w H I J=>by
  rw[e,qjB,qlF];exact⟨H,by rw[I,J];rfl⟩
 rcases m with m|⟨k,k1,k2,k3,k4⟩
 · -- another node of the loop
  obtain⟨w,f,g⟩:∃ w,w ∈ selN (fun w=>gt c w&&gt back w) M∧w ≠ v:=by
   have i:(selN (fun w=>gt c w&&gt back w) M).Nodup:=List.nodup_range.filter _;have d:1<(selN (fun w=>gt c w&&gt back w) M).length:=by rw[e,qc6] at m;exact m
   generalize selN (fun w=>gt c w&&gt back w) M=S at i d
   match S,i,d with
   | a::b::S,i,_=>
    by_cases t:a=v
    ·refine⟨b,by simp,fun F=>?_⟩;rw[List.nodup_cons] at i;exact i.1 (by rw[t,←F];simp)
    ·exact⟨a,by simp,t⟩
  rw[qlF,je] at f;obtain⟨n,p,o⟩:=f;rcases z.wit w n p with e1|⟨k1,a1,p1,p2,p3,p4,p5,p6⟩
  ·exact absurd e1 g
  rcases x.wit w n o with e1|⟨k2,a2,q1,q2,q3,q4,q5,q6⟩
  ·exact absurd e1 g
  have u:frL ls k1=(a1:Int):=p3;have s:toL ls k1=(w:Int):=p6;have r:frL ls k2=(w:Int):=q6;have B:toL ls k2=(a2:Int):=q3;by_cases K1:(gt ls k1).Bf=1
  ·exact⟨k1,p1,p2,K1,by rw[u];exact mem a1 p4 p5 (C k1 p1 p2 w a1 s u o),by rw[s];exact mem w n p o⟩
  ·by_cases K2:(gt ls k2).Bf=1
   ·exact⟨k2,q1,q2,K2,by rw[r];exact mem w n p o,by rw[B];exact mem a2 q4 (D k2 q1 q2 w a2 r B p) q5⟩
   ·exact absurd (s.trans r.symm) (A k1 k2 p1 q1 K1 K2)
 ·have y:=mem v N z.self x.self;refine⟨k,k1,k2,?_,by rw[k3];exact y,by rw[k4];exact y⟩;exact Classical.byContradiction fun K=>A k k k1 k1 K K (k4.trans k3.symm)
theorem qtF {xs:List Int}{x:Int}(h:x ∈ xs):(xs.any fun y=>y==x)=true:=List.any_eq_true.2 ⟨x,h,by simp⟩
theorem qws (h:LkOk ls M)(P:∀ k k',k<ls.length→k'<ls.length→(gt ls k).Bf ≠ 1→(gt ls k').Bf ≠ 1→toL ls k ≠ frL ls k'):∀ (d:Nat) (lv:List Bool),lv.length=ls.length→lv.countP id<d →
  EvQ (fun n=>qgk ls (M:Int) n lv) (fun o=>o.length=ls.length):=by
 have O:=h.len;have S:=h.nodes;intro d
 induction d with
 | zero=>intro lv _ R;omega
 | succ d ih=>
  intro lv A T;refine EvQ.succ ?_;simp only[qgk];refine EvQ.bind (qv8 h A) (fun p C=>?_);refine EvQ.bif (fun _=>EvQ.done A) (fun l=>?_);cases p with
  | nil=>simp at l
  | cons l0 p=>
   have D:=C l0 (by simp);have g:l0.length≤1048576:=by
    obtain⟨_,_,_,_,_,_,e,_⟩:=D.ex;rw[e,qc6];exact Jd qlm (by omega)
   obtain⟨s,Q,F,H,I,J⟩:=quf h P D;have i0:idx (l0::p) 0=V l0:=rfl;have m:∀ d j c,j+d=ls.length→((∃ k:Nat,c=(k:Int)∧k<ls.length∧gt lv k=true)∨j≤s) →
     EvQ (fun n=>qbE ls lv (l0::p) n c (j:Int)) (fun o=>∃ k:Nat,o.1=(k:Int)∧k<ls.length∧gt lv k=true):=by
    intro d
    induction d with
    | zero=>
     intro j c N hi;refine EvQ.succ ?_;simp only[qbE];refine EvQ.ff (qq (by omega)) (EvQ.done ?_);rcases hi with hi|hi
     ·exact hi
     ·omega
    | succ d ih2=>
     intro j c N hi;have a:j<ls.length:=by omega
     have nx:∀ {i},((∃ k:Nat,i=(k:Int)∧k<ls.length∧gt lv k=true)∨j+1≤s)→EvQ (fun n=>qbE ls lv (l0::p) n i ((j+1:Nat):Int)) (fun o=>∃ k:Nat,o.1=(k:Int)∧k<ls.length∧gt lv k=true):=fun L=>ih2 (j+1) _ (by omega) L;have skip:j ≠ s→(∃ k:Nat,c=(k:Int)∧k<ls.length∧gt lv k=true)∨j+1≤s:=fun l=>by
      rcases hi with hi|hi
      ·exact .inl hi
      ·exact .inr (by omega)
     refine EvQ.succ ?_;simp only[qbE,wS j];refine EvQ.tt (qp a) (EvQ.bindN (qz (show j<lv.length by omega)) (EvQ.bif (fun c1=>EvQ.bindN (qz a) (EvQ.bif (fun t=>EvQ.bindN i0 (EvQ.bindN (qz a) (EvQ.bindE (qoH g) (EvQ.bif (fun u=>EvQ.bindN i0 (EvQ.bindN (qz a) (EvQ.bindE (qoH g) (EvQ.bif (fun v=>nx (.inl ⟨j,rfl,a,c1⟩)) (fun v=>nx (skip fun e=>?_)))))) (fun u=>nx (skip fun e=>?_)))))) (fun t=>nx (skip fun e=>?_)))) (fun c1=>nx (skip fun e=>?_))))
     ·subst e;have:=qtF J;unfold toL at this;rw[this] at v;cases v
     ·subst e;have:=qtF I;unfold frL at this;rw[this] at u;cases u
     ·subst e;rw[H] at t;cases t
     ·subst e;rw[F] at c1;cases c1
   refine EvQ.bind (m ls.length 0 (-1) (by omega) (.inr (jQ _))) ?_;rintro⟨c,W⟩ ⟨k,rfl,f,B⟩;have b:k<lv.length:=by omega
   refine EvQ.bindN (qz b) (ih _ (by rw[qa8];exact A) ?_);have e:setS lv (k:Int) false=lv.set k false:=by unfold setS;rw[jp]
   rw[e];have z:lv[k]=true:=by rw[←qeo b];exact B
   have x:∀ (xs:List Bool) (k:Nat) (f:k<xs.length),xs[k]=true→(xs.set k false).countP id+1=xs.countP id:=by
    intro xs
    induction xs with
    | nil=>intro k f;cases f
    | cons y xs ih3=>
     intro k f r;cases k with
     | zero=>
      have r:y=true:=r;subst r;simp
     | succ k=>
      have K:k<xs.length:=by simpa using f
      have:=ih3 k K (by simpa using r);rw[List.set_cons_succ,List.countP_cons,List.countP_cons];omega
   have:=x lv k b z;omega
end
theorem qqQ {b:qe}(h:blockB b=true){x:qr}(c:x ∈ linksL b)(p:x.Bf ≠ 1) :
  ∃(m s:Nat) (t:Int),b01 t∧x.Bk=2*(m:Int)+t∧x.To=2*(s:Int)+t∧(gt (places b.Aa) m).drives=true∧(gt (places b.Aa) s).drives=false:=by
 have o:=qay h;have r:=qkr h;unfold linksL at c;rcases List.mem_append.1 c with c|c
 ·obtain⟨i,hi,c⟩:=qmw c;obtain⟨a,u,c⟩:=qmw c;unfold arcLs at c;obtain⟨t,v,rfl⟩:=List.mem_map.1 c;exact absurd Z p
 ·obtain⟨i,hi,c⟩:=qmw c;obtain⟨k,f,c⟩:=qmw c;obtain⟨y,z,n,g⟩:=qnC f;have d:=(qiH o (k:=i) (by omega)).2;unfold wl1 at c;simp only[jI,jy,or_false] at c;have l:=(qmo.1 d).2;have d2:(gt (places b.Aa) y).drives=false:=by
   unfold snkQ at g;simp only[je,jF] at g;exact g.2
  rcases c with c|c
  ·exact⟨_,y,0,.inl Z,by rw[c,Jf],by rw[c,Jf,n],l,d2⟩
  ·exact⟨_,y,1,.inr Z,by rw[c],by rw[c,n],l,d2⟩
theorem qs6 {b:qe}(h:blockB b=true):∀ k a,k<(linksL b).length→a<(linksL b).length→(gt (linksL b) k).Bf ≠ 1→(gt (linksL b) a).Bf ≠ 1→toL (linksL b) k ≠ frL (linksL b) a:=by
 intro k a o f m n e;obtain⟨v,s,t,p,y,B,u,d2⟩:=qqQ h (qi7 o) m;obtain⟨d,z,A,g,l,r,c,i⟩:=qqQ h (qi7 f) n;have x:(gt (linksL b) k).To=(gt (linksL b) a).Bk:=e;have:s=d:=by rcases p with e|e<;>rcases g with e2|e2<;>omega
 rw[this,c] at d2;cases d2
theorem quN {b:qe}(h:blockB b=true):EvQ (fun n=>qjl n b) (fun o=>okL okI o):=by
 have m:=qgI h;have l:=m.len;have k:=qk2 h;unfold qjl;refine EvQ.bindE (qdh h) (EvQ.bindE (qg6 l (by simp)) (EvQ.bindE k (EvQ.bind (qws m (qs6 h) _ _ qjg (Nat.lt_succ_self _)) (fun p t=>?_))));have c:∀ d j a,j+d=(linksL b).length→a.length≤j→(∀ y,y ∈ a→okI y)→EvQ (fun n=>qdx (lvB [] (linksL b).length) p n a (j:Int)) (fun o=>o.1.length≤10000∧∀ y,y ∈ o.1→okI y):=by
  intro d
  induction d with
  | zero=>
   intro j a s g f;refine EvQ.succ ?_;simp only[qdx,qjg];exact EvQ.ff (qq (by omega)) (EvQ.done ⟨by dsimp only;omega,f⟩)
  | succ d ih=>
   intro j a s g f;refine EvQ.succ ?_;simp only[qdx,qjg,wS j];refine EvQ.tt (qp (by omega)) (EvQ.bindN (qz (show j<p.length by omega)) (EvQ.bif (fun _=>?_) (fun _=>ih (j+1) a (by omega) (by omega) f)));exact EvQ.bindN (qb5 (by omega)) (ih (j+1) _ (by omega) (by rw[jg,jh];omega) (qbz f (qaD (by omega) (by omega))))
 refine EvQ.bind (c (linksL b).length 0 [] (by omega) (jf _) (fun _ u=>by cases u)) ?_;rintro⟨a,i⟩ ⟨r,g⟩;exact EvQ.done ⟨by dsimp only at r ⊢;omega,g⟩

def swV (j:qau)(t:qu):Option Tl20Work:=V ⟨j,linksL j.Ac,lvJ j.Ac j.Bg,t⟩
theorem qrK {j:qau}(h:qku j) :
  (∃ code:Int,code ≠ 0∧Ev (fun n=>qa4 n j) (U,code)∧∀ mode nodes,Ev (fun n=>qhF n j mode nodes) (U,code)) ∨
  ∃ t R,WkOk j t R∧Ev (fun n=>qa4 n j) (swV j t,0)∧∀ mode nodes,nodes.length≤1048576→(mode=0∨mode=1) →
   Ev (fun n=>qhF n j mode nodes) (bif nodes.all (fun x=>inI x 0 ((ndB j.Ac:Int)-1)) then(wkV j t R,0) else(U,4)):=by
 have c:=h.Bg.len;unfold qa4 qhF;rcases qpH h with⟨code,hne,hs,hi⟩|⟨t,R,hw,hs,hi⟩
 ·exact .inl ⟨code,hne,Ev.bind hs (Ev.tt (qhx hne) .done),fun mode nodes=>Ev.bind hi (Ev.tt (qhx hne) .done)⟩
 ·have a:=hw.tg.bl;have d:=qdN a;have g:=qaO (qag (qay a));have l:=qg6 (ls:=linksL j.Ac) (br:=j.Bg) d c;refine .inr ⟨t,R,hw,Ev.bind hs (Ev.ff Z (Ev.bind (qdh a) (Ev.bind l .done))),fun mode nodes k i=>Ev.bind hi (Ev.ff Z ?_)⟩;have f:=qnU (v:=viewV j.Ac) g;have e1:W64 (((2*(viewV j.Ac).places.length:Nat):Int)-1)=(ndB j.Ac:Int)-1:=by
   show W64 (((2*(places j.Ac.Aa).length:Nat):Int)-1)=_;rw[qR (by omega) (by omega)]
  unfold wkV grB;simp only[jd,f,e1];refine Ev.bind (qeu k) ?_;cases nodes.all fun x=>inI x 0 ((ndB j.Ac:Int)-1)
  ·exact Ev.tt Z .done
  ·refine Ev.ff Z ?_;rcases i with rfl|rfl<;>exact Ev.bind (b:=true) (Ev.now Z) (Ev.ff Z .done)
theorem qrt {j:qau}{t:qu}{node:Int}(h:j.Ap.length≤1048576):Ev (fun n=>qiA n (swV j t) node) ((srcV (srcO j.Ap node)).2,(srcV (srcO j.Ap node)).1):=by
 have g:Ev (fun n=>qcZ (swV j t) node n 0) (match srcO j.Ap node with|some y=>.ret (y,true)|none=>.nxt (j.Ap.length:Int)):=by
  have c:∀ d i,i+d=j.Ap.length→(j.Ap.take i).find? (fun s=>s.Bo==node)=U→Ev (fun n=>qcZ (swV j t) node n (i:Int)) (match srcO j.Ap node with|some y=>.ret (y,true)|none=>.nxt (j.Ap.length:Int)):=by
   intro d
   induction d with
   | zero=>
    intro i hi b;obtain rfl:i=j.Ap.length:=by omega
    rw[jJ] at b;unfold srcO;rw[b];refine Ev.succ ?_;simp only[qcZ,swV,jd,qq (jf _),cond_false];exact .done
   | succ d ih=>
    intro i hi b;have a:i<j.Ap.length:=by omega
    refine Ev.succ ?_;simp only[qcZ,swV,jd,qp a,cond_true,qz a,wS i];cases hq:(gt j.Ap i).Bo==node
    ·refine ih (i+1) (by omega) ?_;rw[jz a,List.find?_append,b,←qeo a,List.find?_cons_of_neg (by simp[hq])]
     rfl
    ·have f:j.Ap.drop i=gt j.Ap i::j.Ap.drop (i+1):=by rw[qeo a];exact jC a
     have:srcO j.Ap node=V (gt j.Ap i):=by
      generalize gt j.Ap i=y at hq f;unfold srcO;rw[←List.take_append_drop i j.Ap,List.find?_append,b,f,List.find?_cons_of_pos (by simpa using hq)]
      rfl
     rw[this];exact .done
  exact c j.Ap.length 0 (by omega) Z
 unfold qiA;refine Ev.bind g ?_;cases srcO j.Ap node<;>exact .done
def atP (ls:List qr)(start:Int)(path:List Int):Nat→Int
 | 0=>start
 | j+1=>(gt ls (at0 path j).toNat).To
def okP (ls:List qr)(lv:List Bool)(start:Int)(path:List Int)(j:Nat):Bool:=
 inI (at0 path j) 0 ((ls.length:Int)-1)&&(gt lv (at0 path j).toNat&&((gt ls (at0 path j).toNat).Bk==atP ls start path j))
def pathB (j:qau)(start:Int)(path:List Int):Bool:=(srcV (srcO j.Ap start)).1&&allN (okP (linksL j.Ac) (lvJ j.Ac j.Bg) start path) path.length
def endB (j:qau)(start:Int)(path:List Int):Int:=atP (linksL j.Ac) start path path.length
theorem inRange {x:Int}{m:Nat}(h:inI x 0 ((m:Int)-1)=true):0≤x∧x<(m:Int)∧x.toNat<m:=by rw[qbb] at h;omega
theorem qqV {j:qau}{t:qu}{start:Int}{path:List Int}(k:blockB j.Ac=true)(l:j.Ap.length≤1048576)(o:path.length≤1048576):∃ e:Int,Ev (fun n=>qjA n (swV j t) start path) (e,pathB j start path)∧(pathB j start path=true→e=endB j start path):=by
 have m:=qdN k;have f:(lvJ j.Ac j.Bg).length=lkB j.Ac:=qjg;have a:=qrt (j:=j) (t:=t) (node:=start) l;unfold qjA pathB;cases hs:(srcV (srcO j.Ap start)).1
 ·rw[hs] at a;refine⟨start,Ev.bind a (Ev.bind (b:=.nxt (start,0)) (Ev.succ ?_) .done),fun e=>by cases e⟩;unfold qe8;cases decide ((0:Int)<(path.length:Int))<;>exact .done
 ·rw[hs] at a;have d:=loopN (Lf:=fun n i x=>qe8 (swV j t) path true n i x) (S:=atP (linksL j.Ac) start path) (p:=okP (linksL j.Ac) (lvJ j.Ac j.Bg) start path) (len:=path.length) (bad:=((0:Int),false)) (fin:=(endB j start path,(path.length:Int)))
   (fun n=>by simp only[qe8,qq (jf _),cond_false,jd];rfl)
   (fun i hi _ X c=>by
    have h:W64 (((linksL j.Ac).length:Int)-1)=((linksL j.Ac).length:Int)-1:=qR (by omega) (by omega);simp only[qe8,qp hi,cond_true,jd,qao hi,swV,qcY,h,wS i];unfold okP at c ⊢;cases hr:inI (at0 path i) 0 (((linksL j.Ac).length:Int)-1)
    ·exact Ev.bind (b:=true) (Ev.tt Z .done) (Ev.tt Z .done)
    ·obtain⟨g,r1,r⟩:=inRange hr;rw[hr] at c;simp only[qdW g r1,qdW g (show at0 path i<((lvJ j.Ac j.Bg).length:Int) by rw[f];exact r1),jd];cases hv:gt (lvJ j.Ac j.Bg) (at0 path i).toNat
     ·exact Ev.bind (b:=true) (Ev.ff Z (Ev.tt Z .done)) (Ev.tt Z .done)
     ·rw[hv] at c;cases hf:(gt (linksL j.Ac) (at0 path i).toNat).Bk==atP (linksL j.Ac) start path i
      ·exact Ev.bind (b:=true) (Ev.ff Z (Ev.ff Z (Ev.now (by simp only[bne,hf];rfl)))) (Ev.tt Z .done)
      ·rw[hf] at c;exact Ev.bind (b:=false) (Ev.ff Z (Ev.ff Z (Ev.now (by simp only[bne,hf];rfl)))) (Ev.ff Z (c Z)))
  cases hb:allN (okP (linksL j.Ac) (lvJ j.Ac j.Bg) start path) path.length
  ·rw[hb] at d;exact⟨0,Ev.bind a (Ev.bind d .done),fun e=>by cases e⟩
  ·rw[hb] at d;exact⟨endB j start path,Ev.bind a (Ev.bind d .done),fun _=>rfl⟩
def linkB (ls:List qr)(path:List Int)(j:Nat):Bool:=inI (at0 path j) 0 ((ls.length:Int)-1)&&(decide (j=0) || (gt ls (at0 path (j-1)).toNat).To==(gt ls (at0 path j).toNat).Bk)
theorem qtS {v:Tview}{path:List Int}(h:v.links.length≤10000)(o:path.length≤1048576):Ev (fun n=>qht n (V v) path) (allN (linkB v.links path) path.length):=by
 have g:=loopN (τ:=Unit) (Lf:=fun n _ x=>qcj (V v) path n x) (S:=fun _=>()) (p:=linkB v.links path) (len:=path.length) (bad:=false) (fin:=(path.length:Int))
  (fun n=>by simp only[qcj,qq (jf _),cond_false])
  (fun i hi b X a=>by
   have f:W64 ((v.links.length:Int)-1)=(v.links.length:Int)-1:=qR (by omega) (by omega);simp only[qcj,qp hi,cond_true,jd,qao hi,qi6,qdv,qdG,f,wS i];unfold linkB at a ⊢;cases hr:inI (at0 path i) 0 ((v.links.length:Int)-1)
   ·exact .done
   ·obtain⟨m,r1,r⟩:=inRange hr;rw[hr] at a;refine Ev.ff Z ?_;by_cases d:i=0
    ·subst d;exact Ev.ff Z (a Z)
    ·refine Ev.tt (decide_eq_true (by omega)) ?_;have c:=b (i-1) (by omega);unfold linkB at c;rw[je] at c;obtain⟨k,l,_⟩:=inRange c.1;rw[show(i:Int)-1=((i-1:Nat):Int) by omega,qR (by omega) (by omega)];simp only[qao (show i-1<path.length by omega),jd,qdW k l,qdW m r1,bne];rw[decide_eq_false d] at a ⊢;cases he:(gt v.links (at0 path (i-1)).toNat).To==(gt v.links (at0 path i).toNat).Bk
     ·exact .done
     ·rw[he] at a;exact a Z)
 unfold qht;refine Ev.bind g ?_;cases allN (linkB v.links path) path.length<;>exact .done
theorem qsV {j:qau}{t:qu}{R:List Nat}{path:List Int}(h:path.length≤1048576)(d:∀ x,x ∈ path→0≤x∧x<(lkB j.Ac:Int)):Ev (fun n=>qae n path (wkV j t R)) (!path.all fun x=>gt (lvJ j.Ac j.Bg) x.toNat):=by
 have b:(lvJ j.Ac j.Bg).length=lkB j.Ac:=qjg;have c:Ev (fun n=>qaV n path (wkV j t R)) (ixL (fun x=>!gt (lvJ j.Ac j.Bg) x.toNat) path):=
  qgb (fin:=(path.length:Int)) (Lf:=qad path (wkV j t R)) (xs:=path) (pf:=fun n x=>qfy n x (wkV j t R)) (fun x a=>by
    obtain⟨f,g⟩:=d x a;unfold qfy wkV grB;simp only[jd,qdW f (show x<((lvJ j.Ac j.Bg).length:Int) by rw[b];exact g)];exact .done)
   (fun n=>by simp only[qad,qq (jf _),cond_false])
   (fun n i x a=>by
    have hi:=(List.getElem?_eq_some_iff.1 a).1;simp only[qad,qp hi,cond_true,qg8 a,jd,wS i])
   (fun n=>by unfold qaV;congr 1;funext o;cases o<;>rfl)
 unfold qae;refine Ev.bind c (Ev.now ?_);rw[qmB,←qn4,Bool.not_not]
theorem qmK {j:qau}{t:qu}{R:List Nat}{start:Int}{path:List Int}(B:blockB j.Ac=true)(F:j.Ap.length≤1048576)(z:path.length≤1048576):Ev (fun n=>qdD n (wkV j t R) start path) (pathB j start path):=by
 have l:=qdN B;have C:=qqe (xs:=j.Ap) (node:=start) F;have d:=qtS (v:=viewV j.Ac) (path:=path) l z;have A:(viewV j.Ac).links=linksL j.Ac:=rfl;rw[A] at d;have fr:path.length ≠ 0→allN (linkB (linksL j.Ac) path) path.length=true→∃ k:Nat,k<lkB j.Ac∧at0 path 0=(k:Int):=fun c a=>by
  rw[qah] at a;have:=a 0 (by omega);unfold linkB at this;rw[je] at this;obtain⟨g,r,H⟩:=inRange this.1;exact⟨(at0 path 0).toNat,H,qcE g⟩
 have m:allN (linkB (linksL j.Ac) path) path.length=true→∀ x,x ∈ path→0≤x∧x<(lkB j.Ac:Int):=fun a x o=>by
  obtain⟨i,hi,rfl⟩:=List.mem_iff_getElem.1 o;rw[qah] at a;have:=a i hi;unfold linkB at this;rw[je] at this;obtain⟨g,r,_⟩:=inRange this.1;rw[qkp hi] at g r;exact⟨g,r⟩
 have p:allN (okP (linksL j.Ac) (lvJ j.Ac j.Bg) start path) path.length=(allN (linkB (linksL j.Ac) path) path.length&&(bif decide (path.length=0) then true else((gt (linksL j.Ac) (at0 path 0).toNat).Bk==start)&&path.all fun x=>gt (lvJ j.Ac j.Bg) x.toNat)):=by
  rw[jm,je,qah,qah];unfold okP linkB;simp only[je,Bool.or_eq_true,decide_eq_true_eq,beq_iff_eq];constructor
  ·intro f;refine⟨fun i hi=>⟨(f i hi).1,?_⟩,?_⟩
   ·cases i with
    | zero=>exact .inl Z
    | succ i=>exact .inr (f (i+1) hi).2.2.symm
   ·by_cases c:path.length=0
    ·rw[decide_eq_true c];rfl
    ·rw[decide_eq_false c];simp only[cond_false,je,beq_iff_eq,jX];refine⟨(f 0 (by omega)).2.2,fun x o=>?_⟩;obtain⟨i,hi,rfl⟩:=List.mem_iff_getElem.1 o;rw[←qkp hi];exact(f i hi).2.1
  ·rintro⟨y,a⟩ i hi;rw[decide_eq_false (by omega)] at a;simp only[cond_false,je,beq_iff_eq,jX] at a;refine⟨(y i hi).1,by rw[qkp hi];exact a.2 _ (jo hi),?_⟩;cases i with
   | zero=>exact a.1
   | succ i=>
    rcases (y (i+1) hi).2 with e|e
    ·omega
    ·exact e.symm
 unfold qdD pathB;rw[p];show Ev (fun n=>(qeE n j.Ap start).bind _) _;refine Ev.bind C ?_;cases hs:(srcV (srcO j.Ap start)).1
 ·exact Ev.bind (b:=true) (Ev.tt Z .done) (Ev.tt Z .done)
 ·cases a:allN (linkB (linksL j.Ac) path) path.length
  ·rw[a] at d;exact Ev.bind (b:=true) (Ev.ff Z (Ev.bindN Z (Ev.bind d .done))) (Ev.tt Z .done)
  ·have u:=qsV (j:=j) (t:=t) (R:=R) z (m a);have h:=fr;rw[a] at d;refine Ev.bind (b:=false) (Ev.ff Z (Ev.bindN Z (Ev.bind d .done))) (Ev.ff Z ?_);by_cases c:path.length=0
   ·rw[decide_eq_true c];refine Ev.ff (decide_eq_false (by omega)) (Ev.bind u (Ev.now ?_));rw[List.length_eq_zero_iff.1 c]
    rfl
   ·rw[decide_eq_false c];obtain⟨k,D,s⟩:=h c a;refine Ev.tt (decide_eq_true (by omega)) ?_;show Ev (fun n=>(idx path 0).bind fun J=>(idx (linksL j.Ac) J).bind fun K=>bif (K.Bk != start) then V false else(qae n path (wkV j t R)).bind fun I=>V (!I)) _;rw[show idx path (0:Int)=V (k:Int) by rw[show(0:Int)=((0:Nat):Int) from rfl,qao (by omega),s]];simp only[jd,qz D,bne];rw[s,jp];cases (gt (linksL j.Ac) k).Bk==start
    ·exact .done
    ·refine Ev.ff Z (Ev.bind u (Ev.now ?_));rw[Bool.not_not]
     rfl
theorem qsc {j:qau}{start:Int}{path:List Int}(h:qku j)(c:path.length≤1048576){mode:Int}(b:mode=0∨mode=1) :
  (∃ code:Int,code ≠ 0∧Ev (fun n=>qa4 n j) (U,code)∧Ev (fun n=>qcW n j mode start path) (U,code)) ∨
  ∃ t R,WkOk j t R∧Ev (fun n=>qa4 n j) (swV j t,0)∧Ev (fun n=>qcW n j mode start path) (bif pathB j start path then(wkV j t R,0) else(U,5)):=by
 unfold qcW;rcases qrK h with⟨code,hne,hs,hi⟩|⟨t,R,hw,hs,hi⟩
 ·exact .inl ⟨code,hne,hs,Ev.bind (hi mode []) (Ev.ff (by simpa using hne) .done)⟩
 ·have a:=qmK (t:=t) (R:=R) (start:=start) hw.tg.bl h.Ap.len c;refine .inr ⟨t,R,hw,hs,Ev.bind (hi mode [] (jQ _) b) (Ev.tt Z (Ev.bind a ?_))⟩;cases pathB j start path<;>exact .done
theorem qnZ {j:qau}{t:qu}{R:List Nat}{start:Int}{path:List Int}(k:path.length≤1048576)(a:pathB j start path=true):Ev (fun n=>qep n (wkV j t R) start path) (pre (atP (linksL j.Ac) start path) (path.length+1)):=by
 unfold pathB at a;rw[je,qah] at a;have d:=loopF (Lf:=fun n s i=>qce (wkV j t R) path n s i) (S:=fun i=>pre (atP (linksL j.Ac) start path) (i+1)) (len:=path.length) (fin:=(pre (atP (linksL j.Ac) start path) (path.length+1),(path.length:Int)))
  (fun n=>by simp only[qce,qq (jf _),cond_false])
  (fun i hi X g=>by
   have:=a.2 i hi;unfold okP at this;rw[je] at this;obtain⟨h,r1,_⟩:=inRange this.1;have c:(viewV j.Ac).links=linksL j.Ac:=rfl;simp only[qce,qp hi,cond_true,qao hi,jd,wkV,grB,c,qdW h r1,wS i];have b:appS (pre (atP (linksL j.Ac) start path) (i+1)) [(gt (linksL j.Ac) (at0 path i).toNat).To]=V (pre (atP (linksL j.Ac) start path) (i+1+1)):=qoh (f:=atP (linksL j.Ac) start path) (j:=i+1) (by omega);rw[b];exact g)
 unfold qep;exact Ev.bind d .done

section
variable {code:List (IntK .u8)}{a s:Int}
theorem qtx {α:Type}{P:α→Prop}{x y z:α}{i:Int}(d:0≤i)(f:i<3)(a:P x)(b:P y)(c:P z):∃ v,idx [x,y,z] i=V v∧P v:=by
 have:i=0∨i=1∨i=2:=by omega
 rcases this with rfl|rfl|rfl
 ·exact⟨x,rfl,a⟩
 ·exact⟨y,rfl,b⟩
 ·exact⟨z,rfl,c⟩
theorem qob {x y:Int}(h:(x==y)=false):x ≠ y:=by simpa using h
theorem qjb {x:Int}(a:-2000000000≤x)(b:x≤2000000000):okI x:=qaD (by omega) (by omega)
theorem quZ (c:CodeOk code)(h:SrcI code a s):EvQ (fun n=>qgB n ⟨code,a,s⟩) (fun o=>qoU o.1∧SrcI code o.2.1 o.2.2):=by
 unfold qgB;refine EvQ.bind (qal 3 c h) ?_;rintro⟨M,N,O⟩ ⟨⟨⟨k,p1⟩,_⟩,b⟩;dsimp only at k p1 b ⊢;obtain⟨Y,f,d⟩:=qtx (P:=okS) (x:=(⟨#[115,108,111,119]⟩:ByteArray)) (y:=(⟨#[102,97,115,116]⟩:ByteArray)) (z:=(⟨#[116,121,112]⟩:ByteArray)) k (p1 (by decide)) (by show(4:Nat)≤1048576;decide) (by show(4:Nat)≤1048576;decide) (by show(3:Nat)≤1048576;decide);refine EvQ.bindN f (EvQ.bind (qal 20 c b) ?_);rintro⟨Q,R,S⟩ ⟨_,b⟩;refine EvQ.bind (qal 20 c b) ?_;rintro⟨T,W,X⟩ ⟨_,b⟩;refine EvQ.bind (qal 60 c b) ?_;rintro⟨p,r,t⟩ ⟨_,b⟩;refine EvQ.bind (qal 40 c b) ?_;rintro⟨u,v,A⟩ ⟨_,b⟩;refine EvQ.bind (qal 30 c b) ?_;rintro⟨B,C,D⟩ ⟨_,b⟩;dsimp only at b ⊢;refine EvQ.bif (fun _=>EvQ.done ⟨⟨d,qaW _,qaW _,qaW _,qaW _⟩,b⟩) (fun _=>EvQ.bif (fun _=>EvQ.bind (qal 3 c b) ?_) (fun _=>EvQ.bif (fun _=>EvQ.bind (qal 2 c b) ?_) (fun _=>EvQ.bif (fun _=>EvQ.done ⟨⟨by show(0:Nat)≤1048576;decide,qaW _,qaW _,qaW _,qaW _⟩,b⟩) (fun _=>EvQ.done ⟨⟨d,qaW _,qaW _,qaW _,qaW _⟩,b⟩))))
 ·rintro⟨F,H,I⟩ ⟨⟨⟨l,m⟩,_⟩,b⟩;dsimp only at l m b ⊢;obtain⟨e,g,i⟩:=qtx (P:=okI) (x:=(99:Int)) (y:=100) (z:=-1) l (m (by decide)) (qjb (by decide) (by decide)) (qjb (by decide) (by decide)) (qjb (by decide) (by decide));exact EvQ.bindN g (EvQ.done ⟨⟨d,qaW _,qaW _,i,qaW _⟩,b⟩)
 ·rintro⟨J,K,L⟩ ⟨_,b⟩;exact EvQ.done ⟨⟨d,qaW _,qaW _,qaW _,qaW _⟩,b⟩
theorem qsk (d:CodeOk code)(h:SrcI code a s):EvQ (fun n=>qgV n ⟨code,a,s⟩) (fun o=>BlkO o.1∧SrcI code o.2.1 o.2.2):=by
 unfold qgV;refine EvQ.bind (qal 12 d h) ?_;rintro⟨k,l,m⟩ ⟨_,b⟩;dsimp only at b ⊢;refine EvQ.bif (fun _=>EvQ.bind (qti d b) ?_) (fun _=>EvQ.bif (fun _=>EvQ.bif (fun _=>EvQ.bind (qm9 (by decide) (by decide) d b) ?_) (fun _=>EvQ.bind (qm9 (by decide) (by decide) d b) ?_)) (fun _=>EvQ.bif (fun _=>EvQ.bind (qm9 (by decide) (by decide) d b) ?_) (fun _=>EvQ.bind (qm9 (by decide) (by decide) d b) ?_)))
 ·rintro⟨r,f,g⟩ i;exact EvQ.done i
 ·rintro⟨r,f,g⟩ ⟨c,b⟩;exact EvQ.done ⟨⟨c.ok,c.des.sm⟩,b⟩
 ·rintro⟨r,f,g⟩ ⟨c,b⟩;exact EvQ.done ⟨⟨c.ok,c.des.sm⟩,b⟩
 ·rintro⟨r,f,g⟩ ⟨c,b⟩;exact EvQ.done ⟨⟨c.ok,c.des.sm⟩,b⟩
 ·rintro⟨r,f,g⟩ ⟨c,b⟩;exact EvQ.done ⟨⟨c.ok,c.des.sm⟩,b⟩
theorem qvo {b:qe}(D:BlkO b)(k:CodeOk code)(h:SrcI code a s):EvQ (fun n=>qgl n ⟨code,a,s⟩ b) (fun o=>okL okI o.1∧SrcI code o.2.1 o.2.2):=by
 unfold qgl;refine EvQ.bind (R:=fun o:Int×Int×Bool=>SrcI code o.1 o.2.1∧(o.2.2=false→blockB b=true)) (EvQ.bindE (qiq D.ok) (EvQ.bif (fun _=>EvQ.done ⟨h,fun e=>by cases e⟩) (fun g=>EvQ.bind (qal 3 k h) ?_))) ?_
 ·rintro⟨X,Y,a3⟩ ⟨_,c⟩;exact EvQ.done ⟨c,fun _=>by simpa using g⟩
 rintro⟨i1,i2,b1⟩ ⟨c,g⟩;dsimp only at c g ⊢;refine EvQ.bif (fun _=>EvQ.done ⟨⟨jQ _,fun _ h=>by cases h⟩,c⟩) (fun u=>?_);have g:=g u;have I:=qdN g;refine EvQ.bindE (qdh g) (EvQ.bind (qal 8 k c) ?_);rintro⟨v,i4,i5⟩ ⟨⟨⟨p0,p1⟩,_⟩,c⟩;dsimp only at p0 p1 c ⊢;have p2:=p1 (by decide);have z:W64 (1+v)=1+v:=qR (by omega) (by omega);rw[z];refine EvQ.bind (qal _ k c) ?_;rintro⟨A,i7,i8⟩ ⟨⟨⟨q0,B⟩,_⟩,c⟩;dsimp only at q0 B c ⊢;have q2:=B (by omega);obtain⟨j,rfl⟩:∃ j:Nat,A=(j:Int):=⟨A.toNat,by omega⟩;have m:∀ (d j:Nat) (x:List Int) (p r:Int),SrcI code p r→(linksL b).length≤j+d→x.length≤j→j≤(linksL b).length+8→(∀ y,y ∈ x→okI y) →
   EvQ (fun n=>qcu ⟨code,a,s⟩ (linksL b) v n x p r (j:Int)) (fun o=>(o.1.length≤20000∧∀ y,y ∈ o.1→okI y)∧SrcI code o.2.1 o.2.2.1):=by
  intro d
  induction d with
  | zero=>
   intro j x p r c F J H f;refine EvQ.succ ?_;simp only[qcu];exact EvQ.ff (qq (by omega)) (EvQ.done ⟨⟨by dsimp only;omega,f⟩,c⟩)
  | succ d ih=>
   intro j x p r c F J H f;refine EvQ.succ ?_;simp only[qcu,z];refine EvQ.bif (fun l=>?_) (fun _=>EvQ.done ⟨⟨by dsimp only;omega,f⟩,c⟩);have l:j<(linksL b).length:=by have:=of_decide_eq_true l;omega
   refine EvQ.bindN (qb5 (by omega)) (EvQ.bind (qal _ k c) ?_);rintro⟨i,M,N⟩ ⟨⟨⟨t0,C⟩,_⟩,c⟩;dsimp only at t0 C c ⊢;have t2:=C (by omega);have e1:W64 ((j:Int)+W64 (1+i))=((j+(1+i.toNat):Nat):Int):=by rw[wO (1+i),qR (by omega) (by omega)];omega
   rw[e1];exact ih _ _ _ _ c (by omega) (by rw[jg,jh];omega) (by omega) (qbz f (qjb (by omega) (by omega)))
 refine EvQ.bind (m (linksL b).length j [] i7 i8 c (by omega) (jQ _) (by omega) (fun _ h=>by cases h)) ?_;rintro⟨x1,i9,K,L⟩ ⟨⟨l1,t⟩,c⟩;dsimp only at l1 t c ⊢;refine EvQ.bind (qal 12 k c) ?_;rintro⟨O,P,Q⟩ ⟨_,c⟩;dsimp only at c ⊢;refine EvQ.bif (fun _=>EvQ.bind (qal 2 k c) ?_) (fun _=>EvQ.done ⟨⟨by dsimp only;omega,t⟩,c⟩);rintro⟨S,T,W⟩ ⟨_,c⟩;exact EvQ.bindN (qb5 (by omega)) (EvQ.done ⟨⟨by show(_++_:List Int).length≤_;rw[jg,jh];omega,qbz t (qaW _)⟩,c⟩)
theorem qqK {b:qe}(B:BlkO b)(p:CodeOk code)(h:SrcI code a s):EvQ (fun n=>qeq n ⟨code,a,s⟩ b) (fun o=>okL qhj o.1∧SrcI code o.2.1 o.2.2):=by
 have O:=qaO B.sm;have two:∀ {I:Int} {b1:Bool} (d j:Nat) (x:List qj) (l m:Int),SrcI code l m→j+d=2→x.length+d≤1000→(∀ y,y ∈ x→qhj y) →
   EvQ (fun n=>qbN ⟨code,a,s⟩ I b1 n x l m (j:Int)) (fun o=>(o.1.length≤x.length+d∧∀ y,y ∈ o.1→qhj y)∧SrcI code o.2.1 o.2.2.1):=by
  intro I b1 d
  induction d with
  | zero=>
   intro j x l m c C F f;obtain rfl:j=2:=by omega
   refine EvQ.succ ?_;simp only[qbN];exact EvQ.ff Z (EvQ.done ⟨⟨jf _,f⟩,c⟩)
  | succ d ih=>
   intro j x l m c C F f;refine EvQ.succ ?_;simp only[qbN,wS j];refine EvQ.tt (decide_eq_true (by omega)) (EvQ.bind (R:=fun o:Int×Int×Bool=>SrcI code o.1 o.2.1) (EvQ.bif (fun _=>EvQ.bind (qal 8 p c) ?_) (fun _=>EvQ.bind (qal 24 p c) ?_)) ?_)
   ·rintro⟨a6,a7,a8⟩ ⟨_,c⟩;refine EvQ.bif (fun _=>EvQ.done c) (fun _=>EvQ.bind (qal 24 p c) ?_);rintro⟨a9,b4,b5⟩ ⟨_,c⟩;exact EvQ.done c
   ·rintro⟨b6,b7,b8⟩ ⟨_,c⟩;exact EvQ.done c
   rintro⟨i7,i8,b2⟩ c;dsimp only at c ⊢;refine EvQ.bif (fun _=>EvQ.bind (qal 200 p c) ?_) (fun _=>(ih (j+1) x i7 i8 c (by omega) (by omega) f).mono fun o t=>⟨⟨by have:=t.1.1;omega,t.1.2⟩,t.2⟩);rintro⟨i9,P,Q⟩ ⟨_,c⟩;refine EvQ.bind (qal 30 p c) ?_;rintro⟨H,S,T⟩ ⟨⟨⟨t0,L⟩,_⟩,c⟩;refine EvQ.bind (qal 40 p c) ?_;rintro⟨X,Y,e⟩ ⟨_,c⟩;refine EvQ.bind (qal 12 p c) ?_;rintro⟨a3,a4,a5⟩ ⟨_,c⟩;dsimp only at t0 L c ⊢;have t2:=L (by decide);refine EvQ.bindN (qb5 (by omega)) ((ih (j+1) _ _ _ c (by omega) (by rw[jg,jh];omega) (qbz f ⟨qaW _,⟨qaW _,qaW _⟩,⟨qjb (x:=H) (by omega) (by omega),qaW _⟩⟩)).mono fun o t=>⟨⟨by have:=t.1.1;rw[jg,jh] at this;omega,t.1.2⟩,t.2⟩)
 unfold qeq;refine EvQ.bindE (qiq B.ok) (EvQ.bif (fun _=>EvQ.done ⟨⟨jQ _,fun _ h=>by cases h⟩,h⟩) (fun _=>EvQ.bindE (qgn B.sm) ?_));have D:((places b.Aa).map toSp).length=(places b.Aa).length:=jv ..;generalize (places b.Aa).map toSp=ps at D ⊢;have A:∀ (d j:Nat) (x:List qj) (l m:Int),SrcI code l m→j+d=ps.length→x.length≤2*j→(∀ y,y ∈ x→qhj y) →
   EvQ (fun n=>qch ⟨code,a,s⟩ ps n x l m (j:Int)) (fun o=>(o.1.length≤156∧∀ y,y ∈ o.1→qhj y)∧SrcI code o.2.1 o.2.2.1):=by
  intro d
  induction d with
  | zero=>
   intro j x l m c C F f;refine EvQ.succ ?_;simp only[qch];exact EvQ.ff (qq (by omega)) (EvQ.done ⟨⟨by dsimp only;omega,f⟩,c⟩)
  | succ d ih=>
   intro j x l m c C F f;have r:j<ps.length:=by omega
   refine EvQ.succ ?_;simp only[qch,wS j];refine EvQ.tt (qp r) (EvQ.bind (R:=fun _=>True) (EvQ.bindN (qaZ r) (EvQ.bif (fun _=>EvQ.bindN (qaZ r) (EvQ.done trivial)) (fun _=>EvQ.done trivial))) (fun b1 _=>?_));refine EvQ.bind (two 2 0 x l m c Z (by omega) f) ?_;rintro⟨x2,i4,i5,i6⟩ ⟨⟨l2,N⟩,c⟩;exact ih (j+1) x2 i4 i5 c (by omega) (by dsimp only at l2;omega) N
 refine EvQ.bind (A ps.length 0 [] a s h (by omega) (jf _) (fun _ h=>by cases h)) ?_;rintro⟨J,i1,i2,I⟩ ⟨⟨l1,u⟩,c⟩;dsimp only at l1 u c ⊢;refine EvQ.bif (fun g=>?_) (fun _=>EvQ.done ⟨⟨by dsimp only;omega,u⟩,c⟩);have g:0<J.length:=by have:=of_decide_eq_true g;omega
 refine EvQ.bind (qal _ p c) ?_;rintro⟨z,b9,c0⟩ ⟨⟨⟨q0,K⟩,_⟩,c⟩;dsimp only at q0 K c ⊢;have q2:=K (by omega);obtain⟨k,rfl⟩:∃ k:Nat,z=(k:Int):=⟨z.toNat,by omega⟩;have v:k<J.length:=by omega
 have i:=u _ (jo v);have M:=u _ (jo g);have W:∀ {y:qj},qhj y→okL qhj (setS J (k:Int) y):=fun {y} h=>⟨by rw[qa8];omega,qiC u h⟩;refine EvQ.bind (qal 30 p c) ?_;rintro⟨c2,c3,c4⟩ ⟨_,c⟩;dsimp only at c ⊢;refine EvQ.bif (fun _=>EvQ.bindN (qaZ (j:=0) g) (EvQ.bindN (qaZ v) (EvQ.done ⟨W ⟨M.Bo,i.Ah,i.Bc⟩,c⟩))) (fun _=>EvQ.bif (fun _=>EvQ.bindN (qaZ v) (EvQ.bindN (qaZ v) (EvQ.done ⟨W ⟨i.Bo,⟨qaW _,i.Ah.Bd⟩,i.Bc⟩,c⟩))) (fun _=>EvQ.bif (fun _=>EvQ.bindN (qaZ v) (EvQ.done ⟨W ⟨i.Bo,i.Ah,⟨qjb (x:=-1) (by decide) (by decide),i.Bc.Bd⟩⟩,c⟩)) (fun _=>EvQ.bif (fun _=>EvQ.bindN (qaZ v) (EvQ.done ⟨W ⟨i.Bo,⟨i.Ah.Aq,qjb (x:=1000000000) (by decide) (by decide)⟩,i.Bc⟩,c⟩)) (fun _=>EvQ.done ⟨⟨by dsimp only;omega,u⟩,c⟩))))
structure CasI (b:qe)(c:qy)(br:List Int)(xs:List qj):Prop where
 bl:BlkO b
 co:qoU c
 br_:okL okI br
 sr:okL qhj xs
theorem quC (d:CodeOk code)(h:SrcI code a s):EvQ (fun n=>qhE n ⟨code,a,s⟩) (fun o=>CasI o.1 o.2.1 o.2.2.1 o.2.2.2.1∧SrcI code o.2.2.2.2.1 o.2.2.2.2.2):=by
 unfold qhE;refine EvQ.bind (qsk d h) ?_;rintro⟨r1,J,K⟩ ⟨c,b⟩;refine EvQ.bind (quZ d b) ?_;rintro⟨T,L,M⟩ ⟨f,b⟩;refine EvQ.bind (qal 3 d b) ?_;rintro⟨N,O,P⟩ ⟨_,b⟩;dsimp only at c f b ⊢;refine EvQ.bind (R:=fun o:qe×Int×Int=>BlkO o.1∧SrcI code o.2.1 o.2.2) (EvQ.bif (fun _=>EvQ.bind (qm9 (by decide) (by decide) d b) ?_) (fun _=>EvQ.done ⟨c,b⟩)) ?_
 ·rintro⟨r9,F,H⟩ ⟨c,b⟩;exact EvQ.done ⟨⟨c.ok,c.des.sm⟩,b⟩
 rintro⟨I,Q,S⟩ ⟨c,b⟩;dsimp only at c b ⊢;refine EvQ.bind (qvo c d b) ?_;rintro⟨W,r,t⟩ ⟨g,b⟩;dsimp only at g b ⊢;refine EvQ.bind (R:=fun o:Int×Int×Bool=>SrcI code o.1 o.2.1∧(o.2.2=true→blockB I=true)) (EvQ.bindE (qiq c.ok) (EvQ.bif (fun i=>EvQ.bif (fun _=>EvQ.bind (qal 6 d b) ?_) (fun _=>EvQ.done ⟨b,fun e=>by cases e⟩)) (fun _=>EvQ.done ⟨b,fun e=>by cases e⟩))) ?_
 ·rintro⟨B,C,D⟩ ⟨_,b⟩;exact EvQ.done ⟨b,fun _=>i⟩
 rintro⟨u,v,b1⟩ ⟨b,i⟩;dsimp only at b i ⊢;refine EvQ.bif (fun k=>EvQ.bind (quN (i k)) (fun X l=>EvQ.bind (qqK c d b) ?_)) (fun _=>EvQ.bind (qqK c d b) ?_)
 ·rintro⟨Y,x,y⟩ ⟨m,b⟩;exact EvQ.done ⟨⟨c,f,l,m⟩,b⟩
 ·rintro⟨r7,z,A⟩ ⟨p,b⟩;exact EvQ.done ⟨⟨c,f,g,p⟩,b⟩
structure JobI (j:qau):Prop where
 ok:qku j
 sm:smallD j.Ac.Aa
theorem qxp (c:CodeOk code)(h:SrcI code a s):EvQ (fun n=>qh6 n ⟨code,a,s⟩) (fun o=>JobI o.1∧SrcI code o.2.1 o.2.2):=by
 unfold qh6;refine EvQ.bind (quC c h) ?_;rintro⟨r1,i,k,l,f,g⟩ ⟨b,d⟩;exact EvQ.done ⟨⟨⟨b.bl.ok,b.co,b.br_,b.sr⟩,b.bl.sm⟩,d⟩
theorem qvI {b:qe}(h:smallD b.Aa):Ev (fun n=>qcv n b) ((2*(places b.Aa).length:Nat):Int):=by
 have a:=qaO h;unfold qcv;refine Ev.bind (b:=(places b.Aa).map toSp) (qgn h) (Ev.now ?_);rw[jv,qR (by omega) (by omega)]
 rfl
theorem quV {j:qau}(C:JobI j)(v:CodeOk code)(h:SrcI code a s):EvQ (fun n=>qf5 n ⟨code,a,s⟩ j) (fun o=>(okI o.1∧o.2.1.length≤100∧∀ y,y ∈ o.2.1→okI y)∧SrcI code o.2.2.1 o.2.2.2):=by
 have P:=qvI C.sm;have hpl:=qaO C.sm;have hsl:=C.ok.Ap.len;have nil:∀ y,y ∈ ([]:List Int)→okI y:=fun _ h=>by cases h
 unfold qf5;rcases qrK C.ok with⟨code',g,hs',_⟩|⟨t,R,hw,hs',_⟩
 ·refine EvQ.bindE hs' (EvQ.bind (R:=fun b=>b=true) (EvQ.tt (by simpa using g) (EvQ.done Z)) (fun b1 O=>EvQ.tt O (EvQ.bind (qal 8 v h) ?_)));rintro⟨X,i3,i4⟩ ⟨⟨⟨z,u⟩,_⟩,c⟩;dsimp only at z u c;have q2:=u (by decide);exact EvQ.done ⟨⟨qjb (x:=X) (by omega) (by omega),jQ _,nil⟩,c⟩
 ·obtain⟨z1,z2,z3⟩:=t;unfold swV at hs';have L:=hw.tg.bl;have S:=qdN L;have hk:=qgI L;have D:(lvJ j.Ac j.Bg).length=(linksL j.Ac).length:=qjg;refine EvQ.bindE hs' (EvQ.bindN Z (EvQ.bif (fun _=>EvQ.bind (qal 8 v h) ?_) (fun g=>EvQ.bind (qal _ v h) ?_)))
  ·rintro⟨X,i3,i4⟩ ⟨⟨⟨z,u⟩,_⟩,c⟩;dsimp only at z u c;have q2:=u (by decide);exact EvQ.done ⟨⟨qjb (x:=X) (by omega) (by omega),jQ _,nil⟩,c⟩
  have g:0<j.Ap.length:=by
   have:=qob g;omega
  rintro⟨F,i21,i22⟩ ⟨⟨⟨z,u⟩,_⟩,c⟩;dsimp only at z u c ⊢;have q2:=u (by omega);obtain⟨k,rfl⟩:∃ k:Nat,F=(k:Int):=⟨F.toNat,by omega⟩;have l:k<j.Ap.length:=by omega
  have hy:=C.ok.Ap.2 _ (jo l);refine EvQ.bindN (qaZ l) (EvQ.bind (qal 9 v c) ?_);rintro⟨H,Y,a3⟩ ⟨⟨⟨t0,t1⟩,_⟩,c⟩;dsimp only at t0 t1 c ⊢;have t2:=t1 (by decide);obtain⟨r,rfl⟩:∃ r:Nat,H=(r:Int):=⟨H.toNat,by omega⟩;generalize linksL j.Ac=ls at S hk D hs' ⊢;generalize lvJ j.Ac j.Bg=lv at D hs' ⊢;have next:∀ {i:Int} (d k:Nat) (x:List Int),k+d=ls.length→x.length≤k→(∀ y,y ∈ x→0≤y∧y<(ls.length:Int)) →
    EvQ (fun n=>qco lv ls i n x (k:Int)) (fun o=>o.1.length≤10000∧∀ y,y ∈ o.1→0≤y∧y<(ls.length:Int)):=by
   intro i d
   induction d with
   | zero=>
    intro k x Q T f;refine EvQ.succ ?_;simp only[qco];exact EvQ.ff (qq (by omega)) (EvQ.done ⟨by dsimp only;omega,f⟩)
   | succ d ih=>
    intro k x Q T f;have l:k<ls.length:=by omega
    refine EvQ.succ ?_;simp only[qco,wS k];refine EvQ.tt (qp l) (EvQ.bind (R:=fun _=>True) (EvQ.bindN (qaZ (show k<lv.length by omega)) (EvQ.bif (fun _=>EvQ.bindN (qaZ l) (EvQ.done trivial)) (fun _=>EvQ.done trivial))) (fun b4 _=>EvQ.bif (fun _=>EvQ.bindN (qb5 (by omega)) (ih (k+1) _ (by omega) (by rw[jg,jh];omega) (qbz f (by omega)))) (fun _=>ih (k+1) x (by omega) (by omega) f)))
  have J:∀ (r:Nat) (x:List Int) (K N i:Int),SrcI code K N→r≤9→x.length+r≤99→(∀ y,y ∈ x→okI y) →
    EvQ (fun n=>qc9 ⟨code,a,s⟩ lv ls n x K N i (r:Int)) (fun o=>(o.1.length≤99∧∀ y,y ∈ o.1→okI y)∧SrcI code o.2.1 o.2.2):=by
   intro r
   induction r with
   | zero=>
    intro x K N i c hr T f;refine EvQ.succ ?_;simp only[qc9];exact EvQ.ff Z (EvQ.done ⟨⟨by dsimp only;omega,f⟩,c⟩)
   | succ r ih=>
    intro x K N i c hr T f;have e:W64 (((r+1:Nat):Int)-1)=(r:Int):=by rw[qR (by omega) (by omega)];omega
    refine EvQ.succ ?_;simp only[qc9,e];refine EvQ.tt (decide_eq_true (by omega)) (EvQ.bind (next ls.length 0 [] (by omega) (jf _) (fun _ h=>by cases h)) ?_);rintro⟨A,i45⟩ ⟨a5,B⟩;dsimp only at a5 B ⊢;refine EvQ.bif (fun _=>EvQ.done ⟨⟨by dsimp only;omega,f⟩,c⟩) (fun g=>EvQ.bind (qal _ v c) ?_);have g:0<A.length:=by
     have:=qob g;omega
    rintro⟨I,i47,i48⟩ ⟨⟨⟨z,u⟩,_⟩,c⟩;dsimp only at z u c ⊢;have q2:=u (by omega);obtain⟨m,rfl⟩:∃ m:Nat,I=(m:Int):=⟨I.toNat,by omega⟩;have hm:m<A.length:=by omega
    have W:=B _ (jo hm);refine EvQ.bindN (qaZ hm) (EvQ.bindN (qb5 (by omega)) ?_);generalize A[m]=y5 at W ⊢;obtain⟨p,rfl⟩:∃ p:Nat,y5=(p:Int):=⟨y5.toNat,by omega⟩;exact EvQ.bindN (qaZ (show p<ls.length by omega)) (ih _ _ _ _ c (by omega) (by rw[jg,jh];omega) (qbz f (qjb (by omega) (by omega))))
  refine EvQ.bind (J r [] Y a3 _ c (by omega) (by simp;omega) nil) ?_;rintro⟨x7,i30,i31⟩ ⟨⟨l7,M⟩,c⟩;dsimp only at l7 M c ⊢;refine EvQ.bind (qal 16 v c) ?_;rintro⟨i32,i33,i34⟩ ⟨_,c⟩;dsimp only at c ⊢;refine EvQ.bif (fun _=>EvQ.bind (qal _ v c) ?_) (fun _=>EvQ.bif (fun _=>EvQ.bindE P (EvQ.bind (qal _ v c) ?_)) (fun _=>EvQ.done ⟨⟨hy.Bo,by dsimp only;omega,M⟩,c⟩))
  ·rintro⟨i35,i36,i37⟩ ⟨_,c⟩;exact EvQ.bindN (qb5 (by omega)) (EvQ.done ⟨⟨hy.Bo,by show(_++_:List Int).length≤_;rw[jg,jh];omega,qbz M (qaW _)⟩,c⟩)
  ·rintro⟨a4,i39,i40⟩ ⟨⟨⟨u0,u1⟩,u2⟩,c⟩;dsimp only at u0 u1 u2 c;refine EvQ.done ⟨⟨?_,by dsimp only;omega,M⟩,c⟩;show okI a4;by_cases L:(1:Int)≤((2*(places j.Ac.Aa).length:Nat):Int)
   ·have:=u1 L;exact qjb (by omega) (by omega)
   ·have:=u2 (by omega);exact qjb (by omega) (by omega)
end

section
variable {code:List (IntK .u8)}
theorem qvU (c:CodeOk code):EvQ (fun n=>qhw n code) (fun o=>JobI o.1∧qm3 o.2.1∧qm3 o.2.2):=by
 have z:okI 0:=qjb (by decide) (by decide);obtain⟨s,t,a⟩:=qsN c;unfold qhw;refine EvQ.bindE t (EvQ.bind (qxp c a) ?_);rintro⟨j,K,L⟩ ⟨h,a⟩;refine EvQ.bind (quV h c a) ?_;rintro⟨F,b,M,N⟩ ⟨⟨hi,u,k⟩,a⟩;refine EvQ.bind (quV h c a) ?_;rintro⟨H,p,O,P⟩ ⟨⟨d,i,f⟩,a⟩;refine EvQ.bind (qal 3 c a) ?_;rintro⟨x,A,B⟩ ⟨_,a⟩;dsimp only at hi u k d i f a ⊢;have p1:qm3 ⟨F,b,0⟩:=⟨hi,⟨by show b.length≤_;omega,k⟩,z⟩;have I:qm3 ⟨H,p,0⟩:=⟨d,⟨by show p.length≤_;omega,f⟩,z⟩;refine EvQ.bif (fun _=>?_) (fun _=>EvQ.done ⟨h,p1,I⟩);have r:W64 ((b.length:Int)+1)=(b.length:Int)+1:=qR (by omega) (by omega);rw[r];refine EvQ.bind (qal _ c a) ?_;rintro⟨g,C,D⟩ ⟨⟨⟨J,l⟩,_⟩,_⟩;dsimp only at J l ⊢;have Q:=l (by omega);obtain⟨m,rfl⟩:∃ m:Nat,g=(m:Int):=⟨g.toNat,by omega⟩;have e:subS b 0 (m:Int)=V (b.take m):=by
  unfold subS;rw[if_pos (by omega)];simp
 refine EvQ.bindN e (EvQ.done ⟨h,p1,⟨hi,⟨?_,fun y v=>k y (List.mem_of_mem_take v)⟩,z⟩⟩);show(b.take m).length≤_;rw[jM];omega
theorem qt2 (a:CodeOk code):EvQ (fun n=>qa2 n code) (fun o=>JobI o.1∧qm3 o.2.1∧qm3 o.2.2):=by
 unfold qa2;refine EvQ.bind (qvU a) ?_;rintro⟨j,p,q⟩ h;exact EvQ.done h
end

section
variable {L:Nat}{fr to:Nat→Int}{lv:Nat→Bool}{n:Nat}{R:List Nat}
theorem OrdOk.ne (h:OrdOk L fr to lv n R){i j:Nat}(a:i<j)(b:j<R.length):R[i]'(by omega) ≠ R[j]:=fun e=>
 (h.at b).2.1 (by rw[←e,List.mem_iff_getElem];exact⟨i,by rw[jM];omega,by rw[List.getElem_take]⟩)
theorem OrdOk.nodup (h:OrdOk L fr to lv n R):R.Nodup:=by
 unfold List.Nodup;rw[List.pairwise_iff_getElem];exact fun i j _ b a=>h.ne a b
theorem OrdOk.full (h:OrdOk L fr to lv n R)(g:R.length=n){k:Nat}(c:k<n):∃ i,∃ hi:i<R.length,R[i]=k:=by
 refine Classical.byContradiction fun b=>?_;have f:k ∉ R:=fun d=>b (List.mem_iff_getElem.1 d);have:=qqg (l:=k::R) (l':=List.range n) (List.nodup_cons.2 ⟨f,h.nodup⟩) (fun x a=>by
  rw[List.mem_range];rcases List.mem_cons.1 a with rfl|a
  ·exact c
  ·obtain⟨i,hi,rfl⟩:=List.mem_iff_getElem.1 a;exact(h.at hi).1)
 rw[List.length_cons,List.length_range] at this;omega
theorem OrdOk.later (h:OrdOk L fr to lv n R)(p:R.length=n){x a c:Nat}(s:x<L)(r:lv x=true)(m:fr x=(a:Int))(o:to x=(c:Int))(f:c<n){i:Nat}(hi:i<R.length)(b:R[i]=a):∃ j,∃ k:j<R.length,i<j∧R[j]=c:=by
 obtain⟨j,k,e⟩:=h.full p f;have l:=(h.at k).2.2;rw[e] at l;have:=qoe.1 l x s r o;rw[m,qjB,List.mem_iff_getElem] at this;obtain⟨t,g,d⟩:=this;rw[jM] at g;rw[List.getElem_take] at d;refine⟨j,k,?_,e⟩;rcases Nat.lt_trichotomy i t with hh|hh|hh
 ·exact absurd (b.trans d.symm) (h.ne hh (by omega))
 ·omega
 ·exact absurd (d.trans b.symm) (h.ne hh hi)
end
theorem qr0 {j:qau}{t:qu}{R:List Nat}{start:Int}{path:List Int}(o:WkOk j t R)(k:pathB j start path=true):path.length≤156:=by
 have s:=o.tg.bl;have g:=qgI s;have y:=o.tg.ord;have v:=o.tg.len;have D:=qaO (qag (qay s));have M:ndB j.Ac≤156:=by show 2*(places j.Ac.Aa).length≤156;omega
 by_cases L:path.length=0
 ·omega
 unfold pathB at k;rw[je,qah] at k;have step:∀ i,i<path.length→∃ x a c:Nat,x<lkB j.Ac∧lvL (lvJ j.Ac j.Bg) x=true∧frL (linksL j.Ac) x=(a:Int)∧toL (linksL j.Ac) x=(c:Int)∧a<ndB j.Ac∧c<ndB j.Ac∧atP (linksL j.Ac) start path i=(a:Int)∧atP (linksL j.Ac) start path (i+1)=(c:Int):=by
  intro i hi;have:=k.2 i hi;unfold okP at this;simp only[je,beq_iff_eq] at this;obtain⟨H,n,l⟩:=this;obtain⟨N,r1,f⟩:=inRange H;have r:=g.fr0 _ f;have K:=g.fr1 _ f;have z:=g.to0 _ f;have O:=g.to1 _ f;refine⟨(at0 path i).toNat,(gt (linksL j.Ac) (at0 path i).toNat).Bk.toNat,(gt (linksL j.Ac) (at0 path i).toNat).To.toNat,f,n,qcE r,qcE z,?_,?_,?_,qcE z⟩
  ·show _<2*(places j.Ac.Aa).length;omega
  ·show _<2*(places j.Ac.Aa).length;omega
  ·rw[←l];exact qcE r
 have d:∀ i,i≤path.length→∃ p,∃ b:p<R.length,i≤p∧(R[p]:Int)=atP (linksL j.Ac) start path i:=by
  intro i
  induction i with
  | zero=>
   intro _;obtain⟨x,a,c,_,_,_,_,u,_,e,_⟩:=step 0 (by omega);obtain⟨p,b,h⟩:=y.full v u;exact⟨p,b,jQ _,by rw[h,e]⟩
  | succ i ih=>
   intro hi;obtain⟨p,b,m,h⟩:=ih (by omega);obtain⟨x,a,c,J,n,l,I,u,B,e1,A⟩:=step i (by omega);obtain⟨q,F,C,eq⟩:=y.later v J n l I B b (by rw[e1] at h;omega);exact⟨q,F,by omega,by rw[eq,A]⟩
 obtain⟨p,b,m,_⟩:=d path.length (jf _);omega

def modeB (m:Int):Bool:=(m==0) || (m==1)
theorem qr4 {m:Int}(h:modeB m=true):m=0∨m=1:=by unfold modeB at h;simpa using h
theorem qvh {m:Int}(h:modeB m=false):(m==0)=false∧(m==1)=false:=by unfold modeB at h;simpa using h
theorem qun {n:Nat}{m:Int}:qkT n m=V (modeB m):=by
 unfold qkT modeB;cases m==0<;>rfl
theorem qrX {j:qau}{start:Int}{path:List Int}(h:qku j)(i:path.length≤1048576)(mode:Int) :
  (∃ code:Int,code ≠ 0∧Ev (fun n=>qa4 n j) (U,code)∧Ev (fun n=>qcW n j mode start path) (U,code)) ∨
  ∃ t R,WkOk j t R∧Ev (fun n=>qa4 n j) (swV j t,0)∧Ev (fun n=>qcW n j mode start path) (bif modeB mode then bif pathB j start path then(wkV j t R,0) else(U,5) else(U,2)):=by
 cases hm:modeB mode
 ·obtain⟨l,m⟩:=qvh hm;have c:=h.Bg.len;unfold qa4 qcW qhF;rcases qpH h with⟨code,hne,hs,hi⟩|⟨t,R,hw,hs,hi⟩
  ·exact .inl ⟨code,hne,Ev.bind hs (Ev.tt (qhx hne) .done),Ev.bind (b:=(U,code)) (Ev.bind hi (Ev.tt (qhx hne) .done)) (Ev.ff (by simpa using hne) .done)⟩
  ·have a:=hw.tg.bl;have d:=qdN a;have g:=qaO (qag (qay a));have k:=qg6 (ls:=linksL j.Ac) (br:=j.Bg) d c;refine .inr ⟨t,R,hw,Ev.bind hs (Ev.ff Z (Ev.bind (qdh a) (Ev.bind k .done))),Ev.bind (b:=(U,2)) (Ev.bind hi (Ev.ff Z ?_)) .done⟩;have f:=qnU (v:=viewV j.Ac) g;unfold wkV grB;simp only[jd,f];refine Ev.bind (qeu (jQ _)) (Ev.ff Z ?_);simp only[qun,hm];exact .done
 ·exact qsc h i (qr4 hm)
theorem qvg {j:qau}{start:Int}{path:List Int}(a:pathB j start path=true){i:Nat}(hi:i<path.length):∃ k:Nat,k<lkB j.Ac∧at0 path i=(k:Int):=by
 unfold pathB at a;rw[je,qah] at a;have:=a.2 i hi;unfold okP at this;rw[je] at this;obtain⟨b,_,c⟩:=inRange this.1;exact⟨(at0 path i).toNat,c,qcE b⟩
def ofS (m:Int)(s:qf):Int:=bif m==1 then s.Bd else s.Aq
theorem qxq {n:Nat}{m:Int}{s:qf}(h:modeB m=true):ql0 n s m=V (ofS m s):=by
 rcases qr4 h with rfl|rfl<;>rfl
def arS (f:Nat→qf→qf×qf)(ls:List qr)(t:qu)(a0:qf)(path:List Int):Nat→qf
 | 0=>a0
 | i+1=>plusS (arS f ls t a0 path i) (f (at0 path i).toNat (gt t.Bc (frN ls (at0 path i).toNat))).1
section
variable {j:qau}{t:qu}{R:List Nat}{start:Int}{path:List Int}{f:Nat→qf→qf×qf}
theorem qrh (h:qku j)(p:WkOk j t R)(z:SpansI j.Ac j.Aj [] f)(B:path.length≤1048575)(y:pathB j start path=true) :
  Ev (fun n=>qhe n (wkV j t R) start path) (pre (arS f (linksL j.Ac) t (srcV (srcO j.Ap start)).2.Ah path) (path.length+1)):=by
 have A:=qgI p.tg.bl;have o:=p.tm;obtain⟨a0,x⟩:∃ a,a=(srcV (srcO j.Ap start)).2.Ah:=⟨_,rfl⟩;have v:=loopF (Lf:=fun n (s:List qf×qf) i=>qd2 path ⟨grB j.Ac j.Bg,j,t,ints R⟩ n s.1 s.2.Aq s.2.Bd i) (S:=fun i=>(pre (arS f (linksL j.Ac) t a0 path) (i+1),arS f (linksL j.Ac) t a0 path i)) (len:=path.length) (fin:=(pre (arS f (linksL j.Ac) t a0 path) (path.length+1),(arS f (linksL j.Ac) t a0 path path.length).Aq,(arS f (linksL j.Ac) t a0 path path.length).Bd,(path.length:Int)))
  (fun n=>by simp only[qd2,qq (jf _),cond_false])
  (fun i hi X g=>by
   obtain⟨k,b,m⟩:=qvg y hi;obtain⟨e1,l⟩:=qnO A b;obtain⟨_,s1⟩:=z k _ b (o.sl _ l);have c:arS f (linksL j.Ac) t a0 path (i+1)=plusS (arS f (linksL j.Ac) t a0 path i) (f k (gt t.Bc (frN (linksL j.Ac) k))).1:=by
    show plusS _ _=_;rw[m,jp]
   have r:(viewV j.Ac).links=linksL j.Ac:=rfl;have d:appS (pre (arS f (linksL j.Ac) t a0 path) (i+1)) [arS f (linksL j.Ac) t a0 path (i+1)]=V (pre (arS f (linksL j.Ac) t a0 path) (i+1+1)):=qoh (by omega);simp only[qd2,qp hi,cond_true,qao hi,jd,m,wkV,grB,r,qz b,e1,qz (show frN (linksL j.Ac) k<t.Bc.length by rw[o.s];exact l),wS i];refine Ev.bind s1 ?_;generalize (f k (gt t.Bc (frN (linksL j.Ac) k))).1=q at c;generalize arS f (linksL j.Ac) t a0 path i=u at c;simp only[qhh,jd];rw[c] at d g;unfold plusS at d g;rw[d];exact g)
 unfold qhe;show Ev (fun n=>(qeE n j.Ap start).bind _) _;refine Ev.bind (qqe h.Ap.len) ?_;subst x;exact Ev.bind v .done
theorem qwe (h:qku j)(d:WkOk j t R)(b:SpansI j.Ac j.Aj [] f)(c:path.length≤1048575)(a:pathB j start path=true) :
  Ev (fun n=>qev n (wkV j t R) start path) (arS f (linksL j.Ac) t (srcV (srcO j.Ap start)).2.Ah path path.length):=by
 unfold qev;refine Ev.bind (qrh h d b c a) ?_;rw[qfY (by omega)];exact .done
end
theorem qp6 {xs:List Int}{k i:Nat}(h:i<k):at0 (xs.take k) i=at0 xs i:=by
 unfold at0;rw[jw,jw,List.getElem?_take_of_lt h]
section
variable {j:qau}{t:qu}{R:List Nat}{start mode:Int}{path:List Int}{d:Nat→Int→Int×Int}
end

theorem qnc {p f mode:Int}(d:0≤p)(p1:p≤1000000)(a:0≤f)(b:f≤5000):0≤divI (p*f) 1000 mode∧divI (p*f) 1000 mode≤5000000:=by
 have c:0≤p*f:=jS d a;have g:p*f≤1000000*5000:=jV p1 b a (by omega);exact qkU (by omega) c (by omega)
theorem qo5 {a b:Int}(d:0<b)(c:0≤a):divI a b 0≤divI a b 1:=by
 rw[ql5 c d,ql5 c d];rw[if_neg (by omega)];split<;>omega
theorem qtH {a c b mode:Int}(d:0<b)(g:0≤a)(h:a≤c)(m:mode=0∨mode=1):divI a b mode≤divI c b mode:=by
 rw[ql5 g d,ql5 (by omega) d];have l:a / b≤c / b:=Int.ediv_le_ediv d h;rcases m with rfl|rfl
 ·rw[if_neg (by omega),if_neg (by omega)];exact l
 ·by_cases i:a % b > 0
  ·rw[if_pos ⟨rfl,i⟩];by_cases k:c % b > 0
   ·rw[if_pos ⟨rfl,k⟩];omega
   ·rw[if_neg (by omega)];have e1:=Int.mul_ediv_add_emod a b;have f:=Int.mul_ediv_add_emod c b;have n1:=Int.emod_nonneg c (show b ≠ 0 by omega);have z:c % b=0:=by omega
    refine Classical.byContradiction fun n=>?_;have:c / b=a / b:=by omega
    rw[this] at f;omega
  ·rw[if_neg (by omega)];split<;>omega
theorem qsK {c:qy}(h:cornerB c=true){kind:Int}:∃ f g:Int,(100≤f∧f≤g∧g≤5000)∧(∀ n,qdX n c kind 0=V f)∧∀ n,qdX n c kind 1=V g:=by
 unfold cornerB at h;simp only[je,qbb,decide_eq_true_eq] at h;obtain⟨⟨d,i,k,l⟩,_,a,b⟩:=h;unfold qdX;cases kind==1
 ·exact⟨c.Au,c.Bb,⟨by omega,b,by omega⟩,fun _=>rfl,fun _=>rfl⟩
 ·exact⟨c.Av,c.Ba,⟨by omega,a,by omega⟩,fun _=>rfl,fun _=>rfl⟩
theorem qp5 {b:qe}{c:qy}(h:blockB b=true)(R:cornerB c=true){k:Nat}(T:k<(linksL b).length){sl:Int}:∃ D E:Int,(0≤D∧D≤E∧E≤5000000)∧Ev (fun n=>qbl n b c (gt (linksL b) k) sl 0) D∧Ev (fun n=>qbl n b c (gt (linksL b) k) sl 1) E:=by
 obtain⟨d,_⟩:=qgY h (qi7 T);generalize gt (linksL b) k=x at d;obtain⟨f,g,⟨Y,O,s⟩,I,J⟩:=qsK R (kind:=x.Bf);have H:∀ {p q:Int},0≤p→p≤q→q≤1000000→divI (p*f) 1000 0≤divI (q*g) 1000 1:=fun {p q} r X e=>by
  have Q:p*f≤q*g:=jV X O (by omega) (by omega);have P:0≤p*f:=jS r (by omega);exact Int.le_trans (qtH (by omega) P Q (.inl Z)) (qo5 (by omega) (by omega))
 rcases d with⟨i,j,m,net,a,d⟩|⟨j,net,q,d⟩
 ·have u:m<(gt (cellAt b (i:Int)).Az a).Bu.length:=by rw[d.d2];exact d.ml
  obtain⟨W,A⟩:=d.dt _ (qi7 u);obtain⟨S,D,D0,S1,_,_,_,S0,o⟩:=qto W sl (load0 b net);obtain⟨B,r1⟩:=qkU (mode:=0) D0 (S0 A) S1;obtain⟨K,L⟩:=qkU (mode:=1) D0 (S0 A) S1;have z:=qo5 (a:=S) D0 (S0 A);obtain⟨c1,_⟩:=qls (mode:=0) B (by omega) (show 0≤f by omega) (by omega);obtain⟨t,_⟩:=qls (mode:=1) K (by omega) (show 0≤g by omega) s;have l:(x.Bf==1)=true:=by rw[d.kind];rfl
  refine⟨divI (divI S D 0*f) 1000 0,divI (divI S D 1*g) 1000 1,⟨(qnc B r1 (by omega) (by omega)).1,H B z L,(qnc K L (by omega) s).2⟩,?_,?_⟩
  ·unfold qbl;refine Ev.tt l (Ev.bind (qmZ h d) ?_);simp only[d.mod,qz u,jd,I];exact Ev.bind (o 0).1 (Ev.bind ⟨0,fun n _=>c1 n⟩ .done)
  ·unfold qbl;refine Ev.tt l (Ev.bind (qmZ h d) ?_);simp only[d.mod,qz u,jd,J];exact Ev.bind (o 1).1 (Ev.bind ⟨0,fun n _=>t n⟩ .done)
 ·have v:(exactL b net).length=(gt b.Af net).Bl.length:=by unfold exactL;rw[jv]
  have F:q<(exactL b net).length:=by rw[v];exact d.kl
  obtain⟨C,x1⟩:=qnL h d.nl d.kl;obtain⟨r,p1⟩:=qkU (a:=gt (exactL b net) q) (b:=1000) (mode:=0) (M:=344000) (by omega) C (by omega);obtain⟨N,v1⟩:=qkU (a:=gt (exactL b net) q) (b:=1000) (mode:=1) (M:=344000) (by omega) C (by omega);have y:=qo5 (a:=gt (exactL b net) q) (b:=1000) (by omega) C;obtain⟨c1,_⟩:=qls (mode:=0) r (by omega) (show 0≤f by omega) (by omega);obtain⟨t,_⟩:=qls (mode:=1) N (by omega) (show 0≤g by omega) s;have l:(x.Bf==1)=false:=by rw[d.kind];rfl
  have hi:∀ mode:Int,idx ((exactL b net).map fun x=>divI x 1000 mode) (q:Int)=V (divI (gt (exactL b net) q) 1000 mode):=fun mode=>by
   rw[qz (by rw[jv];exact F),qnK F]
  refine⟨divI (divI (gt (exactL b net) q) 1000 0*f) 1000 0,divI (divI (gt (exactL b net) q) 1000 1*g) 1000 1,⟨(qnc r (by omega) (by omega) (by omega)).1,H r y (by omega),(qnc N (by omega) (by omega) s).2⟩,?_,?_⟩
  ·unfold qbl;refine Ev.ff l (Ev.bind (qmY h d) (Ev.bind (qi2 h d.nl) ?_));simp only[d.ix,hi,jd,I];exact Ev.bind ⟨0,fun n _=>c1 n⟩ .done
  ·unfold qbl;refine Ev.ff l (Ev.bind (qmY h d) (Ev.bind (qi2 h d.nl) ?_));simp only[d.ix,hi,jd,J];exact Ev.bind ⟨0,fun n _=>t n⟩ .done
theorem qvd {b:qe}{c:qy}{f:Nat→qf→qf×qf}(h:blockB b=true)(l:cornerB c=true)(v:SpansS b c f){k:Nat}(a:k<(linksL b).length){s:qf}(o:slR s) :
  0≤(f k s).1.Aq∧(f k s).1.Aq≤(f k s).1.Bd∧(f k s).1.Bd≤5000000:=by
 have m:=(v k s a o).2;obtain⟨⟨e0,e1⟩,⟨l0,l1⟩⟩:=o;obtain⟨d,d2,⟨a1,a2,F⟩,p1,x⟩:=qp5 h l a (sl:=s.Aq);obtain⟨g,i,⟨b1,b2,b3⟩,y,z⟩:=qp5 h l a (sl:=s.Bd);obtain⟨_,⟨p,_,_,A,_⟩⟩:=qkN h l a e0 e1 (mode:=0) (.inl Z);obtain⟨_,⟨r,_,_,B,_⟩⟩:=qkN h l a e0 e1 (mode:=1) (.inr Z);obtain⟨_,⟨t,_,_,C,_⟩⟩:=qkN h l a l0 l1 (mode:=0) (.inl Z);obtain⟨_,⟨u,_,_,D,_⟩⟩:=qkN h l a l0 l1 (mode:=1) (.inr Z);have e:Ev (fun n=>qfQ n b c (gt (linksL b) k) s) (⟨if g<d then g else d,if i > d2 then i else d2⟩,⟨if t<p then t else p,if u > r then u else r⟩):=by
  unfold qfQ;exact Ev.bind p1 (Ev.bind x (Ev.bind A (Ev.bind B (Ev.bind y (Ev.bind z (Ev.bind C (Ev.bind D .done)))))))
 rw[m.uniq e];refine⟨?_,?_,?_⟩
 ·show 0≤(if g<d then g else d);split<;>omega
 ·show(if g<d then g else d)≤(if i > d2 then i else d2);split<;>split<;>omega
 ·show(if i > d2 then i else d2)≤5000000;split<;>omega

structure Nest (x y:qf):Prop where
 e0:-5000000000≤y.Aq
 e1:y.Aq≤x.Aq
 el:x.Aq≤x.Bd
 l1:x.Bd≤y.Bd
 l0:y.Bd≤5000000000
theorem qna {s:qf}:spanB s=true↔(-1000000000≤s.Aq∧s.Aq≤s.Bd∧s.Bd≤1000000000):=by
 unfold spanB;simp only[je,qbb,decide_eq_true_eq];omega
theorem Nest.refl {x:qf}(h:spanB x=true):Nest x x:=by
 rw[qna] at h;exact⟨by omega,by omega,by omega,by omega,by omega⟩
structure NdR (s1 s2:Bool×qj):Prop where
 r:s1.1=s2.1
 sl:s1.2.Bc=s2.2.Bc
 ar:s1.1=true→Nest s1.2.Ah s2.2.Ah
structure Wd (t1 t2:qu)(M:Nat):Prop where
 o1:TmOk t1 M
 o2:TmOk t2 M
 r:∀ k,k<M→gt t1.Ay k=gt t2.Ay k
 sl:∀ k,k<M→gt t1.Bc k=gt t2.Bc k
 ar:∀ k,k<M→gt t1.Ay k=true→spanB (gt t1.Ah k)=true∧spanB (gt t2.Ah k)=true∧Nest (gt t1.Ah k) (gt t2.Ah k)
section
variable {b:qe}{c:qy}{f:Nat→qf→qf×qf}{e1 e2:Nat→Int}{lv:List Bool}{xs:List qj}{t1 t2:qu}
theorem Wd.start {M:Nat}:Wd (zTm M) (zTm M) M:=⟨qp4,qp4,fun _ _=>rfl,fun _ _=>rfl,fun k b a=>by
 have:gt (zTm M).Ay k=false:=qqb b;rw[this] at a;cases a⟩
end

structure InS (x y:qf):Prop where
 e:y.Aq≤x.Aq
 l:x.Bd≤y.Bd
theorem InS.refl {x:qf}:InS x x:=⟨jU _,jU _⟩
theorem InS.trans {x y z:qf}(h:InS x y)(a:InS y z):InS x z:=⟨Int.le_trans a.e h.e,Int.le_trans h.l a.l⟩
theorem InS.hullL {x y:qf}:InS x (hullS x y):=by
 constructor
 ·show(if y.Aq<x.Aq then y.Aq else x.Aq)≤x.Aq;split<;>omega
 ·show x.Bd≤(if y.Bd > x.Bd then y.Bd else x.Bd);split<;>omega
theorem InS.hullR {x y:qf}:InS y (hullS x y):=by
 constructor
 ·show(if y.Aq<x.Aq then y.Aq else x.Aq)≤y.Aq;split<;>omega
 ·show y.Bd≤(if y.Bd > x.Bd then y.Bd else x.Bd);split<;>omega
section
variable {f:Nat→qf→qf×qf}{ls:List qr}{lv:List Bool}{xs:List qj}{M:Nat}
theorem qtU {t a:qu}{node:Int}{s0:Bool×qj}:∀ j,(∀ x,x<j→toQ ls lv node x=true→gt t.Ay (frN ls x)=gt a.Ay (frN ls x)∧gt t.Ah (frN ls x)=gt a.Ah (frN ls x)∧gt t.Bc (frN ls x)=gt a.Bc (frN ls x)) →
  ndS f ls lv t node s0 j=ndS f ls lv a node s0 j:=by
 intro j
 induction j with
 | zero=>intro _;rfl
 | succ j ih=>
  intro h;unfold ndS;rw[ih fun x g=>h x (by omega)];cases hq:toQ ls lv node j
  ·rfl
  ·obtain⟨b,c,d⟩:=h j (by omega) hq;simp only[cond_true];unfold stepS;rw[b,c,d]
structure TmEq (f:Nat→qf→qf×qf)(ls:List qr)(lv:List Bool)(xs:List qj)(t:qu)(k:Nat):Prop where
 r:gt t.Ay k=(ndS f ls lv t (k:Int) (srcV (srcO xs (k:Int))) ls.length).1
 a:gt t.Ay k=true→gt t.Ah k=(ndS f ls lv t (k:Int) (srcV (srcO xs (k:Int))) ls.length).2.Ah
 s:gt t.Ay k=true→gt t.Bc k=(ndS f ls lv t (k:Int) (srcV (srcO xs (k:Int))) ls.length).2.Bc
 b:gt t.Ay k=true→spanB (gt t.Ah k)=true
theorem qw1 (h:LkOk ls M):∀ (R l1:List Nat) (t C:qu),OrdOk ls.length (frL ls) (toL ls) (lvL lv) M (l1++R)→(t.Ay.length=M∧t.Ah.length=M∧t.Bc.length=M)→Bare t M l1→(∀ k,k ∈ l1→TmEq f ls lv xs t k) →
  rnO f ls lv xs R t=V C→∀ k,k ∈ l1++R→TmEq f ls lv xs C k:=by
 intro R
 induction R with
 | nil=>
  intro l1 t C _ _ _ K e k S;obtain rfl:=Option.some.inj e;rw[Ja] at S;exact K k S
 | cons k R ih=>
  intro l1 t C H X Q K e;obtain⟨v,s,z⟩:=X;have assoc:l1++k::R=(l1++[k])++R:=by simp
  obtain⟨N,kn,k0⟩:=H l1 k R Z;have P:∀ y,y ∈ l1++[k]→∀ x,x<ls.length→toQ ls lv (y:Int) x=true→frN ls x ∈ l1:=by
   intro y b x L B;unfold toQ at B;rw[je,beq_iff_eq] at B;have fin:∀ l a,OrdOk ls.length (frL ls) (toL ls) (lvL lv) M (l++y::a)→frN ls x ∈ l:=fun l a F=>by
    have:=qoe.1 (F l y a Z).2.2 x L B.1 B.2;rw[show frL ls x=(frN ls x:Int) from(qnO h L).1,qjB] at this;exact this
   rcases List.mem_append.1 b with b|b
   ·obtain⟨a,c,rfl⟩:=List.append_of_mem b;have:frN ls x ∈ a:=fin a (c++k::R) (by simpa using H);exact jD _ this
   ·obtain rfl:=List.mem_singleton.1 b;exact fin l1 R H
  have I:∀ y,y ∈ l1→y ≠ k:=fun y b e=>kn (e ▸ b);rw[assoc];unfold rnO at e;have m:∀ {u:qu},(∀ y,y ≠ k→gt u.Ay y=gt t.Ay y∧gt u.Ah y=gt t.Ah y∧gt u.Bc y=gt t.Bc y)→Bare u M (l1++[k]):=fun hu y b T=>by
   obtain⟨u1,u2,u3⟩:=hu y (fun e=>T (jT _ (List.mem_singleton.2 e)));rw[u1,u2,u3];exact Q y b fun Y=>T (jD _ Y)
  cases h1:(ndS f ls lv t (k:Int) (srcV (srcO xs (k:Int))) ls.length).1
  ·rw[h1] at e;refine ih (l1++[k]) t C (by rw[←assoc];exact H) ⟨v,s,z⟩ (m fun y _=>⟨rfl,rfl,rfl⟩) (fun y b=>?_) e;rcases List.mem_append.1 b with b|b
   ·exact K y b
   ·obtain rfl:=List.mem_singleton.1 b;have W:=(Q y N kn).1;have O:gt t.Ay y ≠ true:=by rw[W];decide
    exact⟨by rw[W,h1],fun e=>absurd e O,fun e=>absurd e O,fun e=>absurd e O⟩
  ·rw[h1] at e;cases F:spanB (ndS f ls lv t (k:Int) (srcV (srcO xs (k:Int))) ls.length).2.Ah
   ·rw[F] at e;cases e
   ·rw[F] at e;have g:∀ y,gt (setT t k (ndS f ls lv t (k:Int) (srcV (srcO xs (k:Int))) ls.length)).Ay y=(if y=k then true else gt t.Ay y)∧gt (setT t k (ndS f ls lv t (k:Int) (srcV (srcO xs (k:Int))) ls.length)).Ah y=(if y=k then(ndS f ls lv t (k:Int) (srcV (srcO xs (k:Int))) ls.length).2.Ah else gt t.Ah y) ∧
      gt (setT t k (ndS f ls lv t (k:Int) (srcV (srcO xs (k:Int))) ls.length)).Bc y=(if y=k then(ndS f ls lv t (k:Int) (srcV (srcO xs (k:Int))) ls.length).2.Bc else gt t.Bc y):=fun y=>by
     refine⟨?_,?_,?_⟩
     ·show gt (setS _ _ _) y=_;rw[qhz (by rw[v];exact N),h1]
     ·show gt (setS _ _ _) y=_;rw[qhz (by rw[s];exact N)]
     ·show gt (setS _ _ _) y=_;rw[qhz (by rw[z];exact N)]
    have i:∀ y,y ≠ k→gt (setT t k (ndS f ls lv t (k:Int) (srcV (srcO xs (k:Int))) ls.length)).Ay y=gt t.Ay y∧gt (setT t k (ndS f ls lv t (k:Int) (srcV (srcO xs (k:Int))) ls.length)).Ah y=gt t.Ah y∧gt (setT t k (ndS f ls lv t (k:Int) (srcV (srcO xs (k:Int))) ls.length)).Bc y=gt t.Bc y:=fun y b=>by
     obtain⟨o,D,J⟩:=g y;rw[if_neg b] at o D J;exact⟨o,D,J⟩
    have len:(setT t k (ndS f ls lv t (k:Int) (srcV (srcO xs (k:Int))) ls.length)).Ay.length=M∧(setT t k (ndS f ls lv t (k:Int) (srcV (srcO xs (k:Int))) ls.length)).Ah.length=M∧(setT t k (ndS f ls lv t (k:Int) (srcV (srcO xs (k:Int))) ls.length)).Bc.length=M:=
     ⟨by show(setS _ _ _).length=_;rw[qa8];exact v,by show(setS _ _ _).length=_;rw[qa8];exact s,by show(setS _ _ _).length=_;rw[qa8];exact z⟩
    obtain⟨p,d,r⟩:=g k;rw[if_pos Z] at p d r;have n:∀ y,y ∈ l1++[k]→ndS f ls lv (setT t k (ndS f ls lv t (k:Int) (srcV (srcO xs (k:Int))) ls.length)) (y:Int) (srcV (srcO xs (y:Int))) ls.length=ndS f ls lv t (y:Int) (srcV (srcO xs (y:Int))) ls.length:=fun y b=>
     qtU _ fun x L B=>i _ (I _ (P y b x L B))
    generalize setT t k (ndS f ls lv t (k:Int) (srcV (srcO xs (k:Int))) ls.length)=u at e i p d r len n;refine ih (l1++[k]) u C (by rw[←assoc];exact H) len (m i) (fun y b=>?_) e;have A:=n y b;rcases List.mem_append.1 b with b|b
    ·obtain⟨o,D,J⟩:=i y (I y b);have b:=K y b;exact⟨by rw[A,o];exact b.r,fun e=>by rw[A,D];exact b.a (by rw[←o];exact e),fun e=>by rw[A,J];exact b.s (by rw[←o];exact e),fun e=>by rw[D];exact b.b (by rw[←o];exact e)⟩
    ·obtain rfl:=List.mem_singleton.1 b;exact⟨by rw[A,p,h1],fun _=>by rw[A,d],fun _=>by rw[A,r],fun _=>by rw[d];exact F⟩
theorem qvV {t:qu}{node:Int}{s0:Bool×qj}(d:s0.1=true):∀ j,(ndS f ls lv t node s0 j).1=true∧InS s0.2.Ah (ndS f ls lv t node s0 j).2.Ah∧InS s0.2.Bc (ndS f ls lv t node s0 j).2.Bc:=by
 intro j
 induction j with
 | zero=>exact⟨d,.refl,.refl⟩
 | succ j ih=>
  obtain⟨a,b,c⟩:=ih;unfold ndS;cases toQ ls lv node j
  ·exact⟨a,b,c⟩
  ·simp only[cond_true];unfold stepS;cases gt t.Ay (frN ls j)
   ·exact⟨a,b,c⟩
   ·simp only[cond_true];unfold joinS;rw[a];exact⟨rfl,b.trans .hullL,c.trans .hullL⟩
theorem quW {t:qu}{node:Int}{s0:Bool×qj}{x:Nat}(d:toQ ls lv node x=true)(g:gt t.Ay (frN ls x)=true):∀ j,x<j→(ndS f ls lv t node s0 j).1=true ∧
  InS (plusS (gt t.Ah (frN ls x)) (f x (gt t.Bc (frN ls x))).1) (ndS f ls lv t node s0 j).2.Ah∧InS (f x (gt t.Bc (frN ls x))).2 (ndS f ls lv t node s0 j).2.Bc:=by
 intro j
 induction j with
 | zero=>intro h;omega
 | succ j ih=>
  intro h;unfold ndS;by_cases e:x=j
  ·subst e;rw[d];simp only[cond_true];unfold stepS;rw[g];simp only[cond_true];unfold joinS;cases (ndS f ls lv t node s0 x).1
   ·exact⟨rfl,.refl,.refl⟩
   ·exact⟨rfl,.hullR,.hullR⟩
  ·obtain⟨a,b,c⟩:=ih (by omega);cases toQ ls lv node j
   ·exact⟨a,b,c⟩
   ·simp only[cond_true];unfold stepS;cases gt t.Ay (frN ls j)
    ·exact⟨a,b,c⟩
    ·simp only[cond_true];unfold joinS;rw[a];exact⟨rfl,b.trans .hullL,c.trans .hullL⟩
end
structure JobT (j:qau)(t:qu)(f:Nat→qf→qf×qf):Prop where
 ss:SpansS j.Ac j.Aj f
 si:SpansI j.Ac j.Aj [] f
 eq:∀ k,k<ndB j.Ac→TmEq f (linksL j.Ac) (lvJ j.Ac j.Bg) j.Ap t k
 pt:Ev (fun n=>qaP n j.Ac j.Aj j.Bg j.Ap) (t,0)
theorem qxg {j:qau}{t:qu}(h:qku j)(B:Ev (fun n=>qa4 n j) (swV j t,0)):∃ f,JobT j t f:=by
 have g:=h.Bg.len;have s:=h.Ap.len;have C:∀ {d:qu} {code:Int},Ev (fun n=>qaP n j.Ac j.Aj j.Bg j.Ap) (d,code)→code=0∧d=t:=by
  intro d code l;unfold qa4 at B;by_cases c:code=0
  ·subst c;refine⟨rfl,?_⟩;cases hbk:blockB j.Ac
   ·exfalso;unfold qaP qhI at l;have F:=qiq h.Ac;rw[hbk] at F;have:=l.uniq (Ev.bind (b:=([],1)) (Ev.bind (b:=true) (Ev.bind F (Ev.tt Z .done)) (Ev.tt Z .done)) (Ev.tt Z .done));cases this
   ·have u:=qg6 (ls:=linksL j.Ac) (br:=j.Bg) (qdN hbk) g;have:=B.uniq (Ev.bind l (Ev.ff Z (Ev.bind (qdh hbk) (Ev.bind u .done))));unfold swV at this;injection this with a _;injection a with a;injection a with _ _ _ a;exact a.symm
  ·have:=B.uniq (Ev.bind l (Ev.tt (qhx c) .done));unfold swV at this;cases this
 have D:∃ o,((∃ f d ,o=(d,(0:Int))∧SpansS j.Ac j.Aj f∧SpansI j.Ac j.Aj [] f∧∀ k,k<ndB j.Ac→TmEq f (linksL j.Ac) (lvJ j.Ac j.Bg) j.Ap d k)∨o.2 ≠ 0)∧Ev (fun n=>qaP n j.Ac j.Aj j.Bg j.Ap) o:=by
  unfold qaP;rcases qwE h.Ac h.Aj.Bi g s with⟨code,c,hc,_⟩|⟨R,hg,hc,_⟩
  ·exact⟨(zT,code),.inr c,Ev.bind hc (Ev.tt (qhx c) .done)⟩
  ·have a:=hg.bl;have A:=qdN a;have z:=qgI a;have u:=qg6 (ls:=linksL j.Ac) (br:=j.Bg) A g;obtain⟨f,H,y⟩:=qrY a hg.co;have p:=y [] (.inl Z);rw[qqR] at p;have L:=qaO (qag (qay a));have m:=hg.len;have v:R.length≤1000:=by rw[m];show 2*(places j.Ac.Aa).length≤1000;omega
   have x:∀ k,k ∈ R→k<2*(places j.Ac.Aa).length:=fun k r=>by
    obtain⟨i,hi,rfl⟩:=List.mem_iff_getElem.1 r;exact(hg.ord.at hi).1
   have o2:=qty (lv:=lvJ j.Ac j.Bg) (R:=R) a H qjg (qpK s hg.sr) x v;have o1:=qw1 (f:=f) (lv:=lvJ j.Ac j.Bg) (xs:=j.Ap) z R [] (zTm (2*(places j.Ac.Aa).length));generalize rnO f (linksL j.Ac) (lvJ j.Ac j.Bg) j.Ap R (zTm (2*(places j.Ac.Aa).length))=o at o1 o2;cases o with
   | none=>exact⟨(zT,3),.inr (by decide),Ev.bind hc (Ev.ff Z (Ev.bind (qdh a) (Ev.bind u (Ev.bind o2 (Ev.tt Z .done)))))⟩
   | some d=>
    refine⟨(d,0),.inl ⟨f,d,rfl,H,p,fun k r=>?_⟩,Ev.bind hc (Ev.ff Z (Ev.bind (qdh a) (Ev.bind u (Ev.bind o2 (Ev.ff Z .done)))))⟩;obtain⟨i,hi,e⟩:=hg.ord.full m r;exact o1 d hg.ord ⟨jG,jG,jG⟩ qsF (fun k r=>by cases r) rfl k (by rw[←e];exact jo hi)
 obtain⟨o,K,l⟩:=D;obtain⟨o1,o2⟩:=o;obtain⟨I,J⟩:=C l;subst I;subst J;rcases K with⟨f,d,e,a,h2,h3⟩|c
 ·injection e with e _;subst e;exact⟨f,a,h2,h3,l⟩
 ·exact absurd Z c
structure ArI (t:qu)(a:qf)(k:Nat):Prop where
 r:gt t.Ay k=true
 i:InS a (gt t.Ah k)
 o:a.Aq≤a.Bd
section
variable {j:qau}{t:qu}{R:List Nat}{f:Nat→qf→qf×qf}{start:Int}{path:List Int}
theorem quJ {xs:List qj}{M:Nat}(h:srcB xs M=true){x:qj}(a:x ∈ xs):spanB x.Ah=true:=by
 unfold srcB at h;rw[qah] at h;obtain⟨i,hi,rfl⟩:=List.mem_iff_getElem.1 a;have:=h i hi;rw[←qeo hi];simp only[je] at this;exact this.2.2.1
theorem qsS (n:WkOk j t R)(f:pathB j start path=true){i:Nat}(hi:i<path.length):∃ k a c:Nat,k<lkB j.Ac∧at0 path i=(k:Int)∧gt (lvJ j.Ac j.Bg) k=true∧frN (linksL j.Ac) k=a∧(gt (linksL j.Ac) k).To=(c:Int)∧a<ndB j.Ac∧c<ndB j.Ac∧atP (linksL j.Ac) start path i=(a:Int)∧atP (linksL j.Ac) start path (i+1)=(c:Int):=by
 have d:=qgI n.tg.bl;unfold pathB at f;rw[je,qah] at f;have:=f.2 i hi;unfold okP at this;simp only[je,beq_iff_eq] at this;obtain⟨l,m,h⟩:=this;obtain⟨o,r1,b⟩:=inRange l;have p:=d.fr0 _ b;have r:=d.fr1 _ b;have g:=d.to0 _ b;have s:=d.to1 _ b;refine⟨(at0 path i).toNat,frN (linksL j.Ac) (at0 path i).toNat,(gt (linksL j.Ac) (at0 path i).toNat).To.toNat,b,qcE o,m,rfl,qcE g,?_,?_,?_,qcE g⟩
 ·exact(qnO d b).2
 ·show _<2*(places j.Ac.Aa).length;omega
 ·rw[←h];exact(qnO d b).1
theorem qu9 (r:WkOk j t R)(n:JobT j t f)(c:pathB j start path=true):∃ k:Nat,k<ndB j.Ac∧start=(k:Int)∧∃ y:qj,srcO j.Ap start=V y∧y ∈ j.Ap∧y.Bo=start∧gt t.Ay k=true∧InS y.Ah (gt t.Ah k)∧InS y.Bc (gt t.Bc k):=by
 unfold pathB at c;rw[je] at c;cases ho:srcO j.Ap start with
 | none=>rw[ho] at c;exact absurd c.1 (by decide)
 | some y=>
  obtain⟨h,g⟩:=qlc ho;have o:inI y.Bo 0 ((ndB j.Ac:Int)-1)=true:=by
   have b:=r.tg.sr;unfold srcB at b;rw[qah] at b;obtain⟨i,hi,e⟩:=List.mem_iff_getElem.1 g;have:=b i hi;rw[qeo hi,e,je] at this;exact this.1
  obtain⟨s,r1,l⟩:=inRange o;have e:start=(y.Bo.toNat:Int):=by rw[←h];exact qcE s
  have d:=n.eq _ l;have p:=qvV (f:=f) (ls:=linksL j.Ac) (lv:=lvJ j.Ac j.Bg) (t:=t) (node:=(y.Bo.toNat:Int)) (s0:=srcV (srcO j.Ap (y.Bo.toNat:Int))) (by rw[←e,ho];rfl) (linksL j.Ac).length;obtain⟨s1,s2,m⟩:=p;have a:gt t.Ay y.Bo.toNat=true:=d.r.trans s1;rw[←d.a a,←e,ho] at s2;rw[←d.s a,←e,ho] at m;exact⟨_,l,e,y,rfl,g,h,a,s2,m⟩
theorem qwl (s:WkOk j t R)(m:JobT j t f){k a c:Nat}(o:k<lkB j.Ac)(r:gt (lvJ j.Ac j.Bg) k=true)(d:frN (linksL j.Ac) k=a)(n:(gt (linksL j.Ac) k).To=(c:Int))(g:c<ndB j.Ac)(p:gt t.Ay a=true) :
  gt t.Ay c=true∧InS (plusS (gt t.Ah a) (f k (gt t.Bc a)).1) (gt t.Ah c)∧InS (f k (gt t.Bc a)).2 (gt t.Bc c):=by
 have h:=m.eq c g;have l:toQ (linksL j.Ac) (lvJ j.Ac j.Bg) (c:Int) k=true:=by
  unfold toQ lvL toL;rw[r,n];simp
 obtain⟨s1,s2,i⟩:=quW (f:=f) (s0:=srcV (srcO j.Ap (c:Int))) l (by rw[d];exact p) (linksL j.Ac).length o;have b:gt t.Ay c=true:=h.r.trans s1;rw[←h.a b,d] at s2;rw[←h.s b,d] at i;exact⟨b,s2,i⟩
theorem qwS (g:WkOk j t R)(m:JobT j t f)(s:pathB j start path=true):∀ i,i≤path.length→∃ k:Nat,k<ndB j.Ac∧atP (linksL j.Ac) start path i=(k:Int)∧ArI t (arS f (linksL j.Ac) t (srcV (srcO j.Ap start)).2.Ah path i) k:=by
 intro i
 induction i with
 | zero=>
  intro _;obtain⟨k,n,e,y,v,H,_,I,b,_⟩:=qu9 g m s;refine⟨k,n,e,I,?_,?_⟩
  ·rw[v];exact b
  ·rw[v];have:=quJ g.tg.sr H;rw[qna] at this;exact this.2.1
 | succ i ih=>
  intro hi;obtain⟨k,n,e,b⟩:=ih (by omega);obtain⟨l,a,c,u,el,J,d,r,F,h,M,z⟩:=qsS g s (show i<path.length by omega);have o:k=a:=by omega
  subst o;obtain⟨c1,x,_⟩:=qwl g m u J d r h b.r;have p:=g.tm.sl k n;obtain⟨K,L,d2⟩:=qvd g.tg.bl g.tg.co m.ss u p;have D:=(m.eq k n).b b.r;rw[qna] at D;refine⟨c,h,z,c1,?_,?_⟩
  ·refine InS.trans ?_ x;show InS (plusS (arS f (linksL j.Ac) t (srcV (srcO j.Ap start)).2.Ah path i) (f (at0 path i).toNat (gt t.Bc (frN (linksL j.Ac) (at0 path i).toNat))).1) _;rw[el,jp,d];have A:=b.i.e;have B:=b.i.l;have C:=b.o;constructor
   ·show W64 ((gt t.Ah k).Aq+(f l (gt t.Bc k)).1.Aq)≤W64 ((arS f (linksL j.Ac) t (srcV (srcO j.Ap start)).2.Ah path i).Aq+(f l (gt t.Bc k)).1.Aq);rw[qR (by omega) (by omega),qR (by omega) (by omega)];omega
   ·show W64 ((arS f (linksL j.Ac) t (srcV (srcO j.Ap start)).2.Ah path i).Bd+(f l (gt t.Bc k)).1.Bd)≤W64 ((gt t.Ah k).Bd+(f l (gt t.Bc k)).1.Bd);rw[qR (by omega) (by omega),qR (by omega) (by omega)];omega
  ·show(plusS (arS f (linksL j.Ac) t (srcV (srcO j.Ap start)).2.Ah path i) (f (at0 path i).toNat (gt t.Bc (frN (linksL j.Ac) (at0 path i).toNat))).1).Aq≤(plusS (arS f (linksL j.Ac) t (srcV (srcO j.Ap start)).2.Ah path i) (f (at0 path i).toNat (gt t.Bc (frN (linksL j.Ac) (at0 path i).toNat))).1).Bd;rw[el,jp,d];have A:=b.i.e;have B:=b.i.l;have C:=b.o;show W64 (_+_)≤W64 (_+_);rw[qR (by omega) (by omega),qR (by omega) (by omega)];omega
end
section
variable {j:qau}{t:qu}{R:List Nat}{start mode:Int}{path:List Int}
theorem qwf {a:qu}{c:Int}(h:(swV j t,(0:Int))=(swV j a,c)):t=a:=by
 unfold swV at h;injection h with h _;injection h with h;injection h with _ _ _ h
theorem qvC {c:qu}{R':List Nat}(b:WkOk j t R)(a:WkOk j c R'):R=R':=by
 have e:V R=V R':=by rw[←b.tg.or_,←a.tg.or_]
 injection e
theorem qpb (h:qku j)(f:WkOk j t R)(a:Ev (fun n=>qa4 n j) (swV j t,0))(d:path.length≤1048576)(b:pathB j start path=true)(c:modeB mode=true):Ev (fun n=>qcW n j mode start path) (wkV j t R,0):=by
 rcases qrX (start:=start) h d mode with⟨code,hne,hs',_⟩|⟨t',R',hw',hs',hi'⟩
 ·have:=a.uniq hs';unfold swV at this;cases this
 ·rw[c,b] at hi';rw[qwf (a.uniq hs'),qvC f hw'];exact hi'
theorem qtY (h:qku j)(b:WkOk j t R)(a:Ev (fun n=>qaP n j.Ac j.Aj j.Bg j.Ap) (t,0)):Ev (fun n=>qg0 n j) (wkV j t R,0):=by
 rcases qpH h with⟨code,hne,hs',_⟩|⟨t',R',hw',hs',hi'⟩
 ·have:=a.uniq hs';injection this with _ e;exact absurd e.symm hne
 ·have:=a.uniq hs';injection this with e _;rw[e,qvC b hw'];exact hi'
end
section
variable {j:qau}{t:qu}{start:Int}{path:List Int}{m:Nat}
theorem qsy {ls:List qr}:∀ i,i≤m→atP ls start (path.take m) i=atP ls start path i:=by
 intro i hi;cases i with
 | zero=>rfl
 | succ i=>
  show(gt ls (at0 (path.take m) i).toNat).To=_;rw[qp6 (by omega)]
  rfl
theorem qte (a:pathB j start path=true):pathB j start (path.take m)=true:=by
 unfold pathB at a ⊢;rw[je,qah] at a ⊢;refine⟨a.1,fun i hi=>?_⟩;rw[jM] at hi;have:=a.2 i (by omega);unfold okP at this ⊢;rw[qp6 (by omega),qsy i (by omega)];exact this
theorem qqh {f:Nat→qf→qf×qf}{ls:List qr}{a0:qf}:∀ i,i≤m→arS f ls t a0 (path.take m) i=arS f ls t a0 path i:=by
 intro i
 induction i with
 | zero=>intro _;rfl
 | succ i ih=>
  intro hi;show plusS (arS f ls t a0 (path.take m) i) (f (at0 (path.take m) i).toNat (gt t.Bc (frN ls (at0 (path.take m) i).toNat))).1=_;rw[ih (by omega),qp6 (by omega)]
  rfl
end
end Go.Fw
