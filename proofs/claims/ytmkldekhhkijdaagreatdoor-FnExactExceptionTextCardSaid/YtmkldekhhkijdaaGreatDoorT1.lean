/- By a program of mine (gen.py): for each function a plain function and the proof that the code computes it. -/
import Derived.Test.YtmkldekhhkijdaaGreatDoorA3
import Derived.Test.YtmkldekhhkijdaaGreatDoorFw37
open Option renaming bind_some->jd, some->U, none->G
open Nat renaming le_refl->je, zero_le->jK
open Bool renaming and_eq_true->jg, eq_iff_iff->ji, true_and->jx, not_eq_true'->jD, not_true->jI
open List renaming getElem?_eq_getElem->jh, length_append->jl, getElem_mem->jt, getD_eq_getElem?_getD->jv, length_singleton->jC, length_map->jF, append_assoc->jG, getElem_of_mem->jH
open Int renaming toNat_natCast->jE

namespace Go.Fw
open Go Go.Proofs Go.Proofs.Tryz
open Go.RowKit (Below)
open Ch renaming own->oW,box->oX,grp->oG
open GoT renaming v->oV
open Go.Bd renaming slice->oS
set_option maxRecDepth 100000
set_option maxHeartbeats 6400000
variable{n:Nat}{w:World}{cs1 cs2 cs3 cs4 cs5 cs6 cs7 cs8 cs9:List Value}
def qba(c:qn):Nat->Int->Option (Flow Bool Int)|0,_=>G|n+1,a=>bif decide (a<(c.Ar.length:Int)) then(idx c.Ar a).bind fun b=>(qeI n c b).bind fun d=>bif (!d) then U (.ret false) else(subS c.Ar 0 a).bind fun g=>(qL n g b).bind fun f=>bif f then U (.ret false) else qba c n (W64 (a+1)) else U (.nxt a)
def qdW(n:Nat)(c:qn):Option Bool:=(qba c n 0).bind fun|.ret r=>U r|.nxt _=>U (decide ((c.Ar.length:Int)<=8))
theorem qib{c:qn}(d:Ro w c cs1){r:Bool}(F:qdW n c=U r):RetV prog 179 [oV qn cs1] w r:=by
 obtain⟨M,J,C,A,N,K,rfl,_,y,_⟩:=qF d;refine zV 30 func179 Z fun h=>zSR (qr h Z Z fun _ b h=>X1 10 0 h Z ?_);obtain⟨L,F,a⟩:=qe F;refine ql (rL (fun m e w'=>∃v,qba c m v=U L/\e=[(1,vp b),(6,oS C c.Ar.length A),(7,vi (c.Ar.length:Int)),(8,vi v)]/\SH w w' [oX b (qcb c M C N J A K) 169]) n ⟨_,F,rfl,h⟩ Z ?_);rintro B _ _ ⟨v,F,rfl,h⟩;rcases B with _|B
 ·cases F
 refine X0 5 Z (qf Z F ?_ ?_)<;>intro F
 ·refine X0 6 Z ?_;obtain⟨z,_,F,l,_,_,_,_,p,s,u,k⟩:=y.ix F;obtain⟨_,_,_,_,rfl,D,H⟩:=qV u;refine zxe p s l Z (zc 0 (k.below h.below) Z (qC qc h Z Z Z fun _ _ h=>zp1 Z (zs 0 h Z fun _ h=>X2 5 1 0 h Z (zcB h F (qiK (h.old d) (qeF z (h.oldS D) (h.oldS H))) Z fun _ _ h F=>zp2 Z (qg (t:=17) F Z ?_ ?_)))))<;>intro F
  ·refine X0 8 Z (qc3 Z Z (X0 4 Z ?_));obtain rfl:=qa F;replace F:=a;exact rb h F Z
  refine X1 7 1 h Z ?_;obtain⟨_,i,F⟩:=qe F;obtain⟨_,_,g,f,o,I⟩:=qov (h.oldS y) i;refine r_v (qmp qc Z Z Z (qoE I Z) g f o Z Z Z Z) Z ?_;have O:=qo3 y i g f;refine X0 3 Z (zcB h F (qcj ⟨_,_,rfl,(h.oldS O)⟩ (qhf (x:=z) 0 h Z (qeF z (h.oldS D) (h.oldS H)))) Z fun _ _ h F=>X0 2 Z (qf Z F ?_ ?_))<;>intro F
  ·refine X0 4 Z ?_;obtain rfl:=qa F;replace F:=a;exact rb h F Z
  refine X0 6 Z ?_;replace h:=h.p [1] Z;exact rK ⟨_,F,rfl,h⟩ Z
 refine qq Z ?_;obtain rfl:=qa F;replace F:=a;exact X1 8 0 h Z (rb h F Z)
def qfW(_:Nat)(a:qH)(b:Int):Option Bool:=U (a.Ap==b)
theorem qiL{a:qH}{i}(b:Ro w a cs1){g}(c:Ro w (U i) [.pointer g]){r:Bool}(F:qfW n a i=U r):RetV prog 251 [oV qH cs1,.pointer g] w r:=by
 obtain⟨_,_,_,_,rfl,_,_⟩:=qV b;obtain⟨_,k,_,rfl,-,f,d⟩:=PtR.get c Z;obtain rfl:=f;exact zV 8 func251 Z fun h=>zSR (qr h Z Z fun _ _ h=>X1 6 0 h Z (zc 0 (d.below h.below) Z (X0 3 Z (rb h F Z))))
def qy(s:(List qH))(a:Int):Nat->Int->Option (Flow Int Int)|0,_=>G|n+1,b=>bif decide (b<(s.length:Int)) then(idx s b).bind fun d=>(qfW n d a).bind fun c=>bif c then U (.ret b) else qy s a n (W64 (b+1)) else U (.nxt b)
def qaF(n:Nat)(s:(List qH))(a:Int):Option Int:=(qy s a n 0).bind fun|.ret r=>U r|.nxt _=>U (-1)
theorem qdk{s:(List qH)}{a}(d:Ro w s cs1){v}(c:Ro w (U a) [.pointer v]){r:Int}(F:qaF n s a=U r):RetV prog 250 [oV (List qH) cs1,.func (.func 251) #[] #[.pointer v]] w r:=by
 obtain⟨A,y,rfl,B⟩:=d;obtain⟨x,t,_,rfl,-,l,_⟩:=PtR.get c Z;obtain rfl:=l;refine zV 19 func250 Z fun h=>X0 11 Z ?_;obtain⟨z,F,b⟩:=qe F;refine ql (rL (fun m e w'=>∃p,qy s a m p=U z/\e=[(0,oS A s.length y),(1,.func (.func 251) #[] #[.pointer (U ⟨x,t,G⟩)]),(7,vi (s.length:Int)),(8,vi p)]/\SH w w' []) n ⟨_,F,rfl,h⟩ Z ?_);rintro u _ _ ⟨p,F,rfl,h⟩;rcases u with _|u
 ·cases F
 refine X0 5 Z (qf Z F ?_ ?_)<;>intro F
 ·refine X0 13 Z ?_;obtain⟨H,_,F,g,_,_,_,_,i,k,o,f⟩:=B.ix F;obtain⟨_,_,_,_,rfl,C,D⟩:=qV o;refine zxe i k g Z (zc 0 (f.below h.below) Z (zcB h F (qiL (qeF H (h.oldS C) (h.oldS D)) (h.old c)) Z fun _ _ h F=>qdH (qf Z F ?_ ?_)))<;>intro F
  ·refine X0 5 Z ?_;obtain rfl:=qa F;replace F:=b;exact ri h F Z
  exact X0 6 Z (rK ⟨_,F,rfl,h⟩ Z)
 refine qq Z ?_;obtain rfl:=qa F;replace F:=b;exact X0 4 Z (ri h F Z)
def qau(n:Nat)(s:(List qH))(a:Int):Option Bool:=(qaF n s a).bind fun b=>U (decide (b>=0))
theorem qcW{s:(List qH)}{a}(c:Ro w s cs1){f}(b:Ro w (U a) [.pointer f]){r:Bool}(F:qau n s a=U r):RetV prog 216 [oV (List qH) cs1,.func (.func 251) #[] #[.pointer f]] w r:=by
 obtain⟨_,_,rfl,i⟩:=c;obtain⟨_,g,_,rfl,-,d,_⟩:=PtR.get b Z;obtain rfl:=d;exact zV 9 func216 Z fun h=>X0 8 Z (zcI h F (qdk ⟨_,_,rfl,(h.oldS i)⟩ (h.old b)) Z fun _ _ h F=>X0 3 Z (rb h F Z))
def qbJ(n:Nat)(c:qn)(kind:Int):Option Bool:=(qau n c.Ar kind).bind fun a=>U a
theorem qcm{c:qn}{kind}(a:Ro w c cs1){r:Bool}(F:qbJ n c kind=U r):RetV prog 219 [oV qn cs1,vi kind] w r:=by
 obtain⟨_,_,_,_,_,_,rfl,_,b,_⟩:=qF a;exact zV 9 func219 Z fun h=>zSR (qr h Z Z fun _ _ h=>qr h Z Z fun _ _ h=>X1 7 1 h Z (zcB h F (qcW ⟨_,_,rfl,(h.oldS b)⟩ (qhf (x:=kind) 0 h Z Z)) Z fun _ _ h F=>X0 2 Z (rb h F Z)))
def qar(a:qn):Nat->Int->Int->Option (Int×Int)|0,_,_=>G|n+1,c,b=>bif decide (b<(a.Ak.length:Int)) then(idx a.Ak b).bind fun d=>bif d.Ay then qar a n (W64 (c+1)) (W64 (b+1)) else qar a n c (W64 (b+1)) else U (c,b)
def qdr(n:Nat)(a:qn):Option Bool:=(qar a n 0 0).bind fun(b,_)=>bif (a.Ap==1) then bif (b==0) then(qcn n a).bind fun c=>(shlS 1 c).bind fun m=>bif ((a.Az.length:Int)==m) then(qaU n a.Az 0 1).bind fun d=>U d else U false else U false else bif (a.Ap==2) then bif (b==1) then bif ((a.Az.length:Int)==0) then(qbJ n a 1).bind fun f=>bif (!f) then(qbJ n a 2).bind fun g=>(qbJ n a 3).bind fun h=>U (!(g==h)) else U false else U false else U false else bif (a.Ap==3) then bif (b==1) then bif ((a.Az.length:Int)==0) then(qbJ n a 1).bind fun i=>bif i then(qbJ n a 2).bind fun k=>bif k then(qbJ n a 3).bind fun l=>U (!l) else U false else U false else U false else U false else U false
theorem qhP{b:qn}(a:Ro w b cs1){r:Bool}(F:qdr n b=U r):RetV prog 180 [oV qn cs1] w r:=by
 obtain⟨C,A,K,H,L,I,rfl,R,_,S⟩:=qF a;refine zV 83 func180 Z fun h=>zSR (qr h Z Z fun _ d h=>X1 14 0 h Z ?_);obtain⟨J,F,f⟩:=qe F;refine ql (rL (fun m e w'=>∃y z,qar b m y z=U J/\e=[(1,vp d),(3,vi y),(7,oS C b.Ak.length A),(8,vi (b.Ak.length:Int)),(9,vi z)]/\SH w w' [oX d (qcb b C K L A H I) 169]) n ⟨_,_,F,rfl,h⟩ Z ?_);rintro B _ _ ⟨y,z,F,rfl,h⟩;rcases B with _|B
 ·cases F
 refine X0 5 Z (qf Z F ?_ ?_)<;>intro F
 ·refine zKSBSR ?_;obtain⟨_,_,F,i,_,_,_,_,k,l,o,g⟩:=R.ix F;obtain rfl:=qav o;refine zxe k l i Z (zc 0 (g.below h.below) Z (qC qc h Z Z Z fun _ _ h=>zs 0 h Z fun _ h=>X1 6 0 h Z (qf Z F ?_ ?_)))<;>intro F
  ·refine X0 10 Z ?_;replace h:=h.p [1] Z;exact rK ⟨_,_,F,rfl,h⟩ Z
  refine X0 6 Z ?_;replace h:=h.p [1] Z;exact rK ⟨_,_,F,rfl,h⟩ Z
 refine qq Z ?_;obtain rfl:=qa F;replace F:=f;refine X1 12 0 h Z (qf Z F ?_ ?_)<;>intro F
 ·refine qeu (rD (zd3 Z (qaW (t:=24) F Z ?_ ?_)))<;>intro F
  ·refine Y1 4 0 h Z ?_;refine Y1 4 0 h Z ?_;refine Y0 1 Z ?_;obtain⟨M,p,F⟩:=qe F;refine qa3 M (vsI _) (cB 218 Z) (fun _ T=>qew ((h.ext T).old a) p) Z Z Z Z (Y0 1 Z ?_);obtain⟨_,c,F⟩:=qe F;obtain⟨D,c⟩:=qlI c;refine d_v (fun _ T=>qpX D Z Z) Z ?_;rw[c];refine Y0 4 Z (qaW (t:=33) F Z ?_ ?_)<;>intro F
   ·refine Y1 4 0 h Z ?_;refine Y0 1 Z ?_;obtain⟨N,s,F⟩:=qe F;exact qa3 N (vsB _) (cB 76 Z) (fun _ T=>qbe ⟨_,_,rfl,((h.ext T).oldS S)⟩ s) Z Z Z Z (zd2 Z (dN h fun _ h=>rb h F Z))
   exact Y0 5 Z (dN h fun _ h=>rb h F Z)
  exact Y0 14 Z (dN h fun _ h=>rb h F Z)
 refine X0 5 Z (qf Z F ?_ ?_)<;>intro F
 ·refine qeu (rD (zd3 Z (qaW (t:=42) F Z ?_ ?_)))<;>intro F
  ·refine Y1 4 0 h Z ?_;refine Y0 6 Z (qaW (t:=48) F Z ?_ ?_)<;>intro F
   ·refine Y1 2 0 h Z ?_;refine Y0 1 Z ?_;obtain⟨O,u,F⟩:=qe F;refine qa3 O (vsB _) (cB 219 Z) (fun _ T=>qcm ((h.ext T).old a) u) Z Z Z Z (Y0 4 Z (qaW (t:=53) F Z ?_ ?_))<;>intro F
    ·refine Y1 2 0 h Z ?_;refine Y0 1 Z ?_;obtain⟨P,v,F⟩:=qe F;refine qa3 P (vsB _) (cB 219 Z) (fun _ T=>qcm ((h.ext T).old a) v) Z Z Z Z (Y1 2 0 h Z ?_);refine Y0 1 Z ?_;obtain⟨Q,x,F⟩:=qe F;exact qa3 Q (vsB _) (cB 219 Z) (fun _ T=>qcm ((h.ext T).old a) x) Z Z Z Z (Y0 4 Z (dN h fun _ h=>rb h F Z))
    exact Y0 7 Z (dN h fun _ h=>rb h F Z)
   exact Y0 12 Z (dN h fun _ h=>rb h F Z)
  exact Y0 18 Z (dN h fun _ h=>rb h F Z)
 refine X0 5 Z (qf Z F ?_ ?_)<;>intro F
 ·refine X0 5 Z (qg (t:=64) F Z ?_ ?_)<;>intro F
  ·refine X1 10 0 h Z (qg (t:=70) F Z ?_ ?_)<;>intro F
   ·refine X1 3 0 h Z (zcB h F (qcm (h.old a)) Z fun _ _ h F=>zp2 Z (qg (t:=74) F Z ?_ ?_))<;>intro F
    ·refine X1 3 0 h Z (zcB h F (qcm (h.old a)) Z fun _ _ h F=>zp2 Z (qg (t:=78) F Z ?_ ?_))<;>intro F
     ·exact X1 3 0 h Z (zcB h F (qcm (h.old a)) Z fun _ _ h F=>X0 5 Z (rb h F Z))
     exact X0 6 Z (rb h F Z)
    exact X0 10 Z (rb h F Z)
   exact X0 14 Z (rb h F Z)
  exact X0 20 Z (rb h F Z)
 exact X0 6 Z (rb h F Z)
def qg7(n:Nat)(c:qn):Option Bool:=(qfL n c.Am).bind fun a=>bif a then(qgd n c.Ak).bind fun b=>bif b then(qdW n c).bind fun d=>bif d then(qY n c.Bo 0 100000).bind fun f=>bif f then(qY n c.Bh 0 100000).bind fun g=>bif g then(qdr n c).bind fun h=>U h else U false else U false else U false else U false else U false
theorem qkX{c:qn}(a:Ro w c cs1){r:Bool}(F:qg7 n c=U r):RetV prog 149 [oV qn cs1] w r:=by
 obtain⟨_,_,_,_,_,_,rfl,b,_,_⟩:=qF a;refine zV 29 func149 Z fun h=>zSR (qr h Z Z fun _ _ h=>X1 6 0 h Z (zcB h F qhQ Z fun _ _ h F=>zp1 Z (qg (t:=6) F Z ?_ ?_)))<;>intro F
 ·refine X1 5 0 h Z (zcB h F (qjV ⟨_,_,rfl,(h.oldS b)⟩) Z fun _ _ h F=>zp2 Z (qg (t:=11) F Z ?_ ?_))<;>intro F
  ·refine X1 3 0 h Z (zcB h F (qib (h.old a)) Z fun _ _ h F=>zp2 Z (qg (t:=15) F Z ?_ ?_))<;>intro F
   ·refine X1 5 0 h Z (zcB h F qQ Z fun _ _ h F=>zp2 Z (qg (t:=20) F Z ?_ ?_))<;>intro F
    ·refine X1 5 0 h Z (zcB h F qQ Z fun _ _ h F=>zp2 Z (qg (t:=25) F Z ?_ ?_))<;>intro F
     ·exact X1 3 0 h Z (zcB h F (qhP (h.old a)) Z fun _ _ h F=>X0 3 Z (rb h F Z))
     exact X0 5 Z (rb h F Z)
    exact X0 10 Z (rb h F Z)
   exact X0 15 Z (rb h F Z)
  exact X0 19 Z (rb h F Z)
 exact X0 24 Z (rb h F Z)
def qbf(l:qh):Nat->(List ByteArray)->Int->Option (Flow Bool ((List ByteArray)×Int))|0,_,_=>G|n+1,b,a=>bif decide (a<(l.Aj.length:Int)) then(idx l.Aj a).bind fun c=>(qg7 n c).bind fun d=>bif (!d) then U (.ret false) else(appS b ([c.Am]:List ByteArray)).bind fun f=>qbf l n f (W64 (a+1)) else U (.nxt (b,a))
def qfe(n:Nat)(l:qh):Option Bool:=(qbf l n ([]:List ByteArray) 0).bind fun|.ret r=>U r|.nxt (b,_)=>bif decide ((l.Aj.length:Int)<=8) then(qce n b).bind fun a=>U a else U false
theorem qi1{l:qh}(f:Ro w l cs1){r:Bool}(F:qfe n l=U r):RetV prog 109 [oV qh cs1] w r:=by
 obtain⟨A,y,rfl,H⟩:=qZ f;refine zV 30 func109 Z fun h=>zSR (qr h Z Z fun _ c h=>X1 14 0 h Z ?_);replace h:=h.nil (α:=ByteArray);obtain⟨D,F,d⟩:=qe F;refine ql (rL (fun m e w'=>∃S1 v b u x s,qbf l m x s=U D/\e=[(1,vp c),(3,oS v b u),(7,oS A l.Aj.length y),(8,vi (l.Aj.length:Int)),(9,vi s)]/\SH w w' [oW S1 (x:List ByteArray) [oS v b u],oX c [oS A l.Aj.length y] 41]) n ⟨_,_,_,_,_,_,F,rfl,h⟩ Z ?_);rintro z _ _ ⟨S1,v,b,u,x,s,F,rfl,h⟩;obtain rfl:=(h.sl 0 Z).2;rcases z with _|z
 ·cases F
 refine X0 5 Z (qf Z F ?_ ?_)<;>intro F
 ·refine zKSBSR ?_;obtain⟨B,_,F,i,_,_,_,_,k,o,p,g⟩:=H.ix F;obtain⟨_,_,_,_,_,_,rfl,I,J,K⟩:=qF p;refine zxe k o i Z (zc 0 (g.below h.below) Z (qC qc h Z Z Z fun _ _ h=>zs 0 h Z fun _ h=>X1 5 0 h Z (zcB h F (qkX (qgr B (h.oldS I) (h.oldS J) (h.oldS K))) Z fun _ _ h F=>X0 2 Z (qf Z F ?_ ?_))))<;>intro F
  ·refine X0 4 Z ?_;obtain rfl:=qa F;replace F:=d;exact rb h F Z
  refine X1 5 0 h Z (qT qc [.tmp 18] _ ([B.Am]:List ByteArray) h Z Z Z Z Z Z Z Z Z ⟨rfl,E⟩ Z fun _ _ _ h=>?_);obtain⟨_,a,F⟩:=qe F;obtain⟨C,a⟩:=qaR a;refine qdP qc 2 h Z (h.sl 0 Z).1 (h.sl 0 Z).2 Z Z Z Z Z Z Z Z Z C a Z fun _ _ _ _ h=>X0 7 Z ?_;replace h:=h.p [2,3] Z;exact rK ⟨_,_,_,_,_,_,F,rfl,h⟩ Z
 refine qq Z ?_;obtain rfl:=qa F;replace F:=d;refine X1 7 1 h Z (qg (t:=26) F Z ?_ ?_)<;>intro F
 ·exact X0 3 Z (zcB h F (qc7 (h.own 0 Z)) Z fun _ _ h F=>X0 3 Z (rb h F Z))
 exact X0 5 Z (rb h F Z)
def qaw(d:qb):Nat->(List ByteArray)->Int->Option ((List ByteArray)×Int)|0,_,_=>G|n+1,b,a=>bif decide (a<(d.Ac.length:Int)) then(idx d.Ac a).bind fun f=>(appS b ([f.Am]:List ByteArray)).bind fun c=>qaw d n c (W64 (a+1)) else U (b,a)
def qax(d:qb):Nat->(List ByteArray)->Int->Option ((List ByteArray)×Int)|0,_,_=>G|n+1,b,a=>bif decide (a<(d.Aa.length:Int)) then(idx d.Aa a).bind fun f=>(appS b ([f.Am]:List ByteArray)).bind fun c=>qax d n c (W64 (a+1)) else U (b,a)
def qcT(n:Nat)(d:qb):Option Bool:=(qax d n ([]:List ByteArray) 0).bind fun(a,_)=>(qaw d n ([]:List ByteArray) 0).bind fun(b,_)=>bif decide ((a.length:Int)<=14) then bif decide ((d.Af.length:Int)<=30) then bif decide ((b.length:Int)<=8) then(qce n a).bind fun c=>bif c then(qce n d.Af).bind fun f=>bif f then(qce n b).bind fun g=>U g else U false else U false else U false else U false else U false
theorem qhj{d:qb}(s:Ro w d cs1){r:Bool}(F:qcT n d=U r):RetV prog 110 [oV qb cs1] w r:=by
 obtain⟨N,K,X,S,O,L,rfl,s1,s2,s3⟩:=qJ s;refine zV 62 func110 Z fun h=>zSR (qr h Z Z fun _ a h=>X1 15 0 h Z ?_);replace h:=h.nil (α:=ByteArray);obtain⟨o1,F,o⟩:=qe F;refine ql (rL (fun m e w'=>∃S1 l f k i I,qax d m i I=U o1/\e=[(1,vp a),(3,oS l f k),(4,oS G 0 0),(10,oS N d.Aa.length K),(11,vi (d.Aa.length:Int)),(12,vi I)]/\SH w w' [oW S1 (i:List ByteArray) [oS l f k],oX a (qay d N X O K S L) 45]) n ⟨_,_,_,_,_,_,F,rfl,h⟩ Z ?_);rintro T _ _ ⟨S1,l,f,k,i,I,F,rfl,h⟩;obtain rfl:=(h.sl 0 Z).2;rcases T with _|T
 ·cases F
 refine X0 5 Z (qf Z F ?_ ?_)<;>intro F
 ·refine zKSBSR ?_;obtain⟨y1,_,F,x,_,_,_,_,z,B,D,u⟩:=s1.ix F;obtain⟨_,_,rfl,_⟩:=qA D;refine zxe z B x Z (zc 0 (u.below h.below) Z (qC qc h Z Z Z fun _ _ h=>zs 0 h Z fun _ h=>X1 5 0 h Z (qT qc [.tmp 18] _ ([y1.Am]:List ByteArray) h Z Z Z Z Z Z Z Z Z ⟨rfl,E⟩ Z fun _ _ _ h=>?_)));obtain⟨_,b,F⟩:=qe F;obtain⟨g1,b⟩:=qaR b;refine qdP qc 2 h Z (h.sl 0 Z).1 (h.sl 0 Z).2 Z Z Z Z Z Z Z Z Z g1 b Z fun _ _ _ _ h=>X0 7 Z ?_;replace h:=h.p [2,3] Z;exact rK ⟨_,_,_,_,_,_,F,rfl,h⟩ Z
 refine qq Z ?_;obtain rfl:=qa F;replace F:=o;refine X1 8 1 h Z ?_;replace h:=h.nil (α:=ByteArray);obtain⟨o2,F,p⟩:=qe F;refine ql (rL (fun m e w'=>∃R P g M Q J,qaw d m Q J=U o2/\e=[(1,vp a),(3,oS l i.length k),(4,oS P g M),(23,oS O d.Ac.length L),(24,vi (d.Ac.length:Int)),(25,vi J)]/\SH w w' [oW R (Q:List ByteArray) [oS P g M],oW S1 (i:List ByteArray) [oS l i.length k],oX a (qay d N X O K S L) 45]) n ⟨_,_,_,_,_,_,F,rfl,h⟩ Z ?_);rintro W _ _ ⟨R,P,g,M,Q,J,F,rfl,h⟩;obtain rfl:=(h.sl 0 Z).2;rcases W with _|W
 ·cases F
 refine X0 5 Z (qf Z F ?_ ?_)<;>intro F
 ·refine zKSBSR ?_;obtain⟨y2,_,F,y,_,_,_,_,A,C,H,v⟩:=s3.ix F;obtain rfl:=qab H;refine zxe A C y Z (zc 0 (v.below h.below) Z (qC qc h Z Z Z fun _ _ h=>zs 0 h Z fun _ h=>X1 5 0 h Z (qT qc [.tmp 31] _ ([y2.Am]:List ByteArray) h Z Z Z Z Z Z Z Z Z ⟨rfl,E⟩ Z fun _ _ _ h=>?_)));obtain⟨_,c,F⟩:=qe F;obtain⟨g2,c⟩:=qaR c;refine qdP qc 2 h Z (h.sl 0 Z).1 (h.sl 0 Z).2 Z Z Z Z Z Z Z Z Z g2 c Z fun _ _ _ _ h=>X0 7 Z ?_;replace h:=h.p [2,3,4] Z;exact rK ⟨_,_,_,_,_,_,F,rfl,h⟩ Z
 refine qq Z ?_;obtain rfl:=qa F;replace F:=p;refine X0 6 Z (qg (t:=38) F Z ?_ ?_)<;>intro F
 ·refine X1 10 2 h Z (qg (t:=44) F Z ?_ ?_)<;>intro F
  ·refine X0 8 Z (qg (t:=49) F Z ?_ ?_)<;>intro F
   ·refine X0 3 Z (zcB h F (qc7 (h.own 1 Z)) Z fun _ _ h F=>zp2 Z (qg (t:=53) F Z ?_ ?_))<;>intro F
    ·refine X1 5 2 h Z (zcB h F (qc7 ⟨_,_,rfl,(h.oldS s2)⟩) Z fun _ _ h F=>zp2 Z (qg (t:=58) F Z ?_ ?_))<;>intro F
     ·exact X0 3 Z (zcB h F (qc7 (h.own 0 Z)) Z fun _ _ h F=>X0 3 Z (rb h F Z))
     exact X0 5 Z (rb h F Z)
    exact X0 10 Z (rb h F Z)
   exact X0 14 Z (rb h F Z)
  exact X0 19 Z (rb h F Z)
 exact X0 25 Z (rb h F Z)
def qdQ(_:Nat)(list:(List qn)):Option Int:=U (list.length:Int)
theorem qg8{list:(List qn)}(a:Ro w list cs1){r:Int}(F:qdQ n list=U r):RetV prog 151 [oV (List qn) cs1] w r:=by
 obtain⟨_,_,rfl,_⟩:=a;exact zV 5 func151 Z fun h=>X0 10 Z (ri h F Z)
def qeM(_:Nat)(list:(List ByteArray)):Option Int:=U (list.length:Int)
theorem qhL{list:(List ByteArray)}(a:Ro w list cs1){r:Int}(F:qeM n list=U r):RetV prog 153 [oV (List ByteArray) cs1] w r:=by
 obtain⟨_,_,rfl,_⟩:=a;exact zV 5 func153 Z fun h=>X0 10 Z (ri h F Z)
def qbV(n:Nat)(d:qb)(net:Int):Option Bool:=(qeM n d.Af).bind fun a=>(qY n net 0 (W64 (a-1))).bind fun b=>U b
theorem qd6{d:qb}{net}(a:Ro w d cs1){r:Bool}(F:qbV n d net=U r):RetV prog 112 [oV qb cs1,vi net] w r:=by
 obtain⟨_,_,_,_,_,_,rfl,_,b,_⟩:=qJ a;exact zV 11 func112 Z fun h=>zSR (qr h Z Z fun _ _ h=>X1 7 0 h Z (zcI h F (qhL ⟨_,_,rfl,(h.oldS b)⟩) Z fun _ _ h F=>zp1 Z (zcB h F qQ Z fun _ _ h F=>X0 2 Z (rb h F Z))))
def qbI(n:Nat)(net:Int)(b:qb):Option Bool:=(qbV n b net).bind fun a=>U (!a)
theorem qf6{net}{d:qb}{f}(a:Ro w (U d) [.pointer f]){r:Bool}(F:qbI n net d=U r):RetV prog 152 [vi net,.pointer f] w r:=by
 obtain⟨_,g,_,rfl,-,c,b⟩:=PtR.get a Z;obtain⟨_,_,_,_,_,_,rfl,i,k,l⟩:=qJ c;exact zV 8 func152 Z fun h=>X0 6 Z (zc 0 (b.below h.below) Z (zp1 Z (zcB h F (qd6 (qas d (h.oldS i) (h.oldS k) (h.oldS l))) Z fun _ _ h F=>X0 3 Z (rb h F Z))))
def qt(s:(List Int))(a:qb):Nat->Int->Option (Flow Int Int)|0,_=>G|n+1,b=>bif decide (b<(s.length:Int)) then(idx s b).bind fun d=>(qbI n d a).bind fun c=>bif c then U (.ret b) else qt s a n (W64 (b+1)) else U (.nxt b)
def qak(n:Nat)(s:(List Int))(a:qb):Option Int:=(qt s a n 0).bind fun|.ret r=>U r|.nxt _=>U (-1)
theorem qct{s:(List Int)}{a:qb}(d:Ro w s cs1){u}(c:Ro w (U a) [.pointer u]){r:Int}(F:qak n s a=U r):RetV prog 155 [oV (List Int) cs1,.func (.func 152) #[] #[.pointer u]] w r:=by
 obtain⟨z,x,rfl,A⟩:=d;obtain⟨v,p,_,rfl,-,l,_⟩:=PtR.get c Z;obtain⟨_,_,_,_,_,_,rfl,_,_,_⟩:=qJ l;refine zV 19 func155 Z fun h=>X0 11 Z ?_;obtain⟨y,F,b⟩:=qe F;refine ql (rL (fun m e w'=>∃o,qt s a m o=U y/\e=[(0,oS z s.length x),(1,.func (.func 152) #[] #[.pointer (U ⟨v,p,G⟩)]),(7,vi (s.length:Int)),(8,vi o)]/\SH w w' []) n ⟨_,F,rfl,h⟩ Z ?_);rintro t _ _ ⟨o,F,rfl,h⟩;rcases t with _|t
 ·cases F
 refine X0 5 Z (qf Z F ?_ ?_)<;>intro F
 ·refine X0 13 Z ?_;obtain⟨_,_,F,g,_,_,_,_,i,k,rfl,f⟩:=A.ix F;refine zxe i k g Z (zc 0 (f.below h.below) Z (zcB h F (qf6 (h.old c)) Z fun _ _ h F=>qdH (qf Z F ?_ ?_)))<;>intro F
  ·refine X0 5 Z ?_;obtain rfl:=qa F;replace F:=b;exact ri h F Z
  exact X0 6 Z (rK ⟨_,F,rfl,h⟩ Z)
 refine qq Z ?_;obtain rfl:=qa F;replace F:=b;exact X0 4 Z (ri h F Z)
def qW(n:Nat)(s:(List Int))(a:qb):Option Bool:=(qak n s a).bind fun b=>U (decide (b>=0))
theorem qb3{s:(List Int)}{a:qb}(c:Ro w s cs1){f}(b:Ro w (U a) [.pointer f]){r:Bool}(F:qW n s a=U r):RetV prog 122 [oV (List Int) cs1,.func (.func 152) #[] #[.pointer f]] w r:=by
 obtain⟨_,_,rfl,i⟩:=c;obtain⟨_,g,_,rfl,-,d,_⟩:=PtR.get b Z;obtain⟨_,_,_,_,_,_,rfl,_,_,_⟩:=qJ d;exact zV 9 func122 Z fun h=>X0 8 Z (zcI h F (qct ⟨_,_,rfl,(h.oldS i)⟩ (h.old b)) Z fun _ _ h F=>X0 3 Z (rb h F Z))
def qb9(n:Nat)(d:qb)(l:qh)(x:qd):Option Bool:=(qdQ n l.Aj).bind fun a=>(qY n x.Bf 0 (W64 (a-1))).bind fun b=>bif b then(idx l.Aj x.Bf).bind fun f=>bif ((x.Af.length:Int)==(f.Ak.length:Int)) then(qW n x.Af d).bind fun c=>U (!c) else U false else U false
theorem qgS{d:qb}{l:qh}{x:qd}(a:Ro w d cs1)(b:Ro w l cs2)(c:Ro w x cs3){r:Bool}(F:qb9 n d l x=U r):RetV prog 111 [oV qb cs1,oV qh cs2,oV qd cs3] w r:=by
 obtain⟨_,_,_,_,_,_,rfl,_,_,_⟩:=qJ a;obtain⟨_,_,rfl,u⟩:=qZ b;obtain⟨_,_,rfl,A⟩:=qA c;refine zV 35 func111 Z fun h=>zSR (qr h Z Z fun _ _ h=>qr h Z Z fun _ _ h=>qr h Z Z fun _ _ h=>X0 3 Z (rD (Y1 2 0 h Z ?_)));refine Y1 2 1 h Z ?_;obtain⟨v,m,F⟩:=qe F;refine qa3 v (vsI _) (cB 151 Z) (fun _ B=>qg8 ⟨_,_,rfl,((h.ext B).oldS u)⟩ m) Z Z Z Z (zd1 Z ?_);obtain⟨y,o,F⟩:=qe F;refine qa3 y (vsB _) (cB 115 Z) (fun _ B=>qQ  o) Z Z Z Z (zd1 Z (qaW (t:=14) F Z ?_ ?_))<;>intro F
 ·refine Y1 4 0 h Z ?_;refine Y1 6 1 h Z ?_;refine Y1 4 0 h Z ?_;refine Y0 1 Z ?_;obtain⟨_,_,F,g,_,_,_,_,i,k,p,f⟩:=u.ix F;obtain⟨_,_,_,_,_,_,rfl,_,_,_⟩:=qF p;refine zdxe i k g Z (Y0 3 Z (zdc 2 (f.below h.below) Z (Y0 6 Z (qaW (t:=28) F Z ?_ ?_))))<;>intro F
  ·refine Y1 4 0 h Z ?_;refine Y0 3 Z ?_;obtain⟨z,s,F⟩:=qe F;exact qa3 z (vsB _) (cB 122 Z) (fun _ B=>qb3 ⟨_,_,rfl,((h.ext B).oldS A)⟩ (qhf (x:=d) 2 (h.ext B) Z ((h.ext B).old a)) s) Z Z Z Z (Y0 4 Z (dN h fun _ h=>rb h F Z))
  exact Y0 7 Z (dN h fun _ h=>rb h F Z)
 exact Y0 21 Z (dN h fun _ h=>rb h F Z)
def qf2(_:Nat)(a:Int):Option Bool:=U (a != 1)
theorem qiF{a_n}  {r:Bool}(F:qf2 n a_n=U r):RetV prog 114 [vi a_n] w r:=by
 exact zV 5 func114 Z fun h=>X0 10 Z (rb h F Z)
def qG(s:(List Int)):Nat->Int->Option (Flow Int Int)|0,_=>G|n+1,a=>bif decide (a<(s.length:Int)) then(idx s a).bind fun c=>(qf2 n c).bind fun b=>bif b then U (.ret a) else qG s n (W64 (a+1)) else U (.nxt a)
def qaZ(n:Nat)(s:(List Int)):Option Int:=(qG s n 0).bind fun|.ret r=>U r|.nxt _=>U (-1)
theorem qd0{s:(List Int)}(b:Ro w s cs1){r:Int}(F:qaZ n s=U r):RetV prog 154 [oV (List Int) cs1,.func (.func 114) #[] #[]] w r:=by
 obtain⟨p,l,rfl,t⟩:=b;refine zV 19 func154 Z fun h=>X0 11 Z ?_;obtain⟨o,F,a⟩:=qe F;refine ql (rL (fun m e w'=>∃i,qG s m i=U o/\e=[(0,oS p s.length l),(1,.func (.func 114) #[] #[]),(7,vi (s.length:Int)),(8,vi i)]/\SH w w' []) n ⟨_,F,rfl,h⟩ Z ?_);rintro k _ _ ⟨i,F,rfl,h⟩;rcases k with _|k
 ·cases F
 refine X0 5 Z (qf Z F ?_ ?_)<;>intro F
 ·refine X0 13 Z ?_;obtain⟨_,_,F,d,_,_,_,_,f,g,rfl,c⟩:=t.ix F;refine zxe f g d Z (zc 0 (c.below h.below) Z (zcB h F qiF Z fun _ _ h F=>qdH (qf Z F ?_ ?_)))<;>intro F
  ·refine X0 5 Z ?_;obtain rfl:=qa F;replace F:=a;exact ri h F Z
  exact X0 6 Z (rK ⟨_,F,rfl,h⟩ Z)
 refine qq Z ?_;obtain rfl:=qa F;replace F:=a;exact X0 4 Z (ri h F Z)
def qaN(n:Nat)(s:(List Int)):Option Bool:=(qaZ n s).bind fun a=>U (decide (a>=0))
theorem qdt{s:(List Int)}(a:Ro w s cs1){r:Bool}(F:qaN n s=U r):RetV prog 113 [oV (List Int) cs1,.func (.func 114) #[] #[]] w r:=by
 obtain⟨_,_,rfl,b⟩:=a;exact zV 9 func113 Z fun h=>X0 8 Z (zcI h F (qd0 ⟨_,_,rfl,(h.oldS b)⟩) Z fun _ _ h F=>X0 3 Z (rb h F Z))
def qbb(a:qb):Nat->(List Int)->Int->Option (Flow Bool ((List Int)×Int))|0,_,_=>G|n+1,d,c=>bif decide (c<(a.Ac.length:Int)) then(idx a.Ac c).bind fun b=>(bif (b.Bl != 1) then bif (b.Bl != 2) then U true else(qbV n a b.Bm).bind fun g=>U (!g) else(qbV n a b.Bm).bind fun h=>U (!h)).bind fun f=>bif f then U (.ret false) else bif (b.Bl==1) then(idx d b.Bm).bind fun i=>(idx d b.Bm).bind fun _=>qbb a n (setS d b.Bm (W64 (i+1))) (W64 (c+1)) else qbb a n d (W64 (c+1)) else U (.nxt (d,c))
def qbE(b:qh)(a:qb):Nat->(List Int)->Int->Option (Flow Bool ((List Int)×Int))|0,_,_=>G|n+1,d,c=>bif decide (c<(a.Aa.length:Int)) then(idx a.Aa c).bind fun f=>(qb9 n a b f).bind fun h=>bif (!h) then U (.ret false) else(idx f.Af (W64 ((f.Af.length:Int)-1))).bind fun g=>(idx d g).bind fun i=>(idx d g).bind fun _=>qbE b a n (setS d g (W64 (i+1))) (W64 (c+1)) else U (.nxt (d,c))
def qfx(n:Nat)(b:qh)(a:qb):Option Bool:=((qfe n b).bind fun f=>bif (!f) then U true else(qcT n a).bind fun g=>U (!g)).bind fun c=>bif c then U false else(mkS (a.Af.length:Int) (0:Int)).bind fun h=>(qbE b a n h 0).bind fun|.ret r=>U r|.nxt (i,_)=>(qbb a n i 0).bind fun|.ret r=>U r|.nxt (k,_)=>(qaN n k).bind fun d=>U (!d)
theorem qjF{d:qh}{a:qb}(k:Ro w d cs1)(f:Ro w a cs2){r:Bool}(F:qfx n d a=U r):RetV prog 69 [oV qh cs1,oV qb cs2] w r:=by
 obtain⟨p1,k1,rfl,_⟩:=qZ k;obtain⟨P,O,S,R,p,o,rfl,s2,_,s4⟩:=qJ f;refine zV 84 func69 Z fun h=>zSR (qr h Z Z fun _ g h=>qr h Z Z fun _ b h=>X0 4 Z ?_);obtain⟨X,A,_,F,y⟩:=bindE F;refine qcX (fun e w'=>∃b1,X b1=U r/\e=[(2,vp g),(3,vp b),(17,.bool b1)]/\SH w w' [oX b (qay a P S p O R o) 45,oX g [oS p1 d.Aj.length k1] 41]) ?_ ?_
 ·refine X1 2 1 h Z (zcB h F (qi1 (h.old k)) Z fun _ _ h F=>zp2 Z (qg (t:=13) F Z ?_ ?_))<;>intro F
  ·refine X0 5 Z ?_;obtain rfl:=qa F;exact rG ⟨_,y,rfl,h⟩ Z
  refine X1 3 0 h Z (zcB h F (qhj (h.old f)) Z fun _ _ h F=>X0 4 Z ?_);obtain rfl:=qa F;exact rG ⟨_,y,rfl,h⟩ Z
 rintro _ _ ⟨b1,F,rfl,h⟩;subst A;refine qf Z F ?_ ?_<;>intro F
 ·exact X0 4 Z (rb h F Z)
 refine X1 6 0 h Z ?_;obtain⟨c,l,F⟩:=qe F;obtain⟨g1,g2,l⟩:=qb5 l;refine qc2 qc Int h Z Z Z Z Z Z Z Z Z g1 g2 l Z fun _ S1 s h=>X1 10 1 h Z ?_;obtain⟨o1,F,v⟩:=qe F;refine ql (rL (fun m e w'=>∃x2 i1,qbE d a m x2 i1=U o1/\e=[(2,vp g),(3,vp b),(5,oS s c.length c.length),(23,oS P a.Aa.length O),(24,vi (a.Aa.length:Int)),(25,vi i1)]/\SH w w' [oW S1 (x2:List Int) [oS s c.length c.length],oX b (qay a P S p O R o) 45,oX g [oS p1 d.Aj.length k1] 41]) n ⟨_,_,F,rfl,h⟩ Z ?_);rintro m1 _ _ ⟨x2,i1,F,rfl,h⟩;rcases m1 with _|m1
 ·cases F
 refine X0 5 Z (qf Z F ?_ ?_)<;>intro F
 ·refine zKSBSR ?_;obtain⟨y1,_,F,he1,_,_,_,_,hp1,hq1,hr1,hc3⟩:=s2.ix F;obtain⟨_,_,rfl,s5⟩:=qA hr1;refine zxe hp1 hq1 he1 Z (zc 0 (hc3.below h.below) Z (qC qc h Z Z Z fun _ _ h=>zs 0 h Z fun _ h=>X3 7 2 3 0 h Z (zcB h F (qgS (h.old f) (h.old k) (qdN y1 (h.oldS s5))) Z fun _ _ h F=>X0 2 Z (qf Z F ?_ ?_))))<;>intro F
  ·refine X0 4 Z ?_;obtain rfl:=qa F;replace F:=v;exact rb h F Z
  refine X2 9 0 0 h Z ?_;obtain⟨_,_,F,he2,_,_,_,_,hp2,hq2,rfl,hc5⟩:=s5.ix F;refine zxe hp2 hq2 he2 Z (zc 0 (hc5.below h.below) Z ?_);obtain⟨y3,_,F,D,_,_,_,_,hp3,hq3,rfl,hc6⟩:=(h.sl 1 Z).1.ix F;refine zx hp3 hq3 ⟨D.1,qap D.2.1 (h.sl 1 Z).2⟩ Z (zc 0 hc6 Z (zp1 Z ?_));obtain⟨_,hy4,F,H,_,_,_,_,K,M,rfl,hc7⟩:=(h.sl 1 Z).1.ix F;refine zx K M ⟨H.1,qap H.2.1 (h.sl 1 Z).2⟩ Z (qdT qc 1 0 (W64 (y3+1)) h Z hy4 K M Z hc7 Z Z Z Z Z Z Z fun _ h=>X0 6 Z ?_);replace h:=h.p [1,2,3] Z;exact rK ⟨_,_,F,rfl,h⟩ Z
 refine qq Z ?_;obtain rfl:=qa F;replace F:=v;refine X1 8 1 h Z ?_;obtain⟨o2,F,x⟩:=qe F;refine ql ?_;replace h:=h.p [0,1] Z;refine rL (fun m e w'=>∃T Q,qbb a m T Q=U o2/\e=[(3,vp b),(5,oS s c.length c.length),(49,oS p a.Ac.length o),(50,vi (a.Ac.length:Int)),(51,vi Q)]/\SH w w' [oW S1 (T:List Int) [oS s c.length c.length],oX b (qay a P S p O R o) 45]) n ⟨_,_,F,rfl,h⟩ Z ?_;rintro m2 _ _ ⟨T,Q,F,rfl,h⟩;rcases m2 with _|m2
 ·cases F
 refine X0 5 Z (qf Z F ?_ ?_)<;>intro F
 ·refine zKSBSR ?_;obtain⟨y5,_,F,he5,_,_,_,_,hp5,hq5,hr6,hc9⟩:=s4.ix F;obtain rfl:=qab hr6;refine zxe hp5 hq5 he5 Z (zc 0 (hc9.below h.below) Z (qC qc h Z Z Z fun _ u h=>zs 0 h Z fun _ h=>zNSS ?_));obtain⟨W,z,_,F,i⟩:=bindE F;refine qcX (fun e w'=>∃b7,W b7=U o2/\e=[(3,vp b),(5,oS s c.length c.length),(9,vp u),(49,oS p a.Ac.length o),(50,vi (a.Ac.length:Int)),(51,vi Q),(69,.bool b7)]/\SH w w' [oX u (qkf y5) 172,oW S1 (T:List Int) [oS s c.length c.length],oX b (qay a P S p O R o) 45]) ?_ ?_
  ·refine X1 5 0 h Z (qg (t:=58) F Z ?_ ?_)<;>intro F
   ·refine X1 8 0 h Z (qg (t:=63) F Z ?_ ?_)<;>intro F
    ·refine X0 7 Z ?_;obtain rfl:=qa F;exact rG ⟨_,i,rfl,h⟩ Z
    refine X2 7 2 0 h Z (zcB h F (qd6 (h.old f)) Z fun _ _ h F=>X0 4 Z ?_);obtain rfl:=qa F;exact rG ⟨_,i,rfl,h⟩ Z
   refine X2 12 2 0 h Z (zcB h F (qd6 (h.old f)) Z fun _ _ h F=>X0 4 Z ?_);obtain rfl:=qa F;exact rG ⟨_,i,rfl,h⟩ Z
  rintro _ _ ⟨b7,F,rfl,h⟩;subst z;refine qf Z F ?_ ?_<;>intro F
  ·refine X0 4 Z ?_;obtain rfl:=qa F;replace F:=x;exact rb h F Z
  refine X1 7 0 h Z (qf Z F ?_ ?_)<;>intro F
  ·refine X1 4 0 h Z ?_;obtain⟨y6,_,F,I,_,_,_,_,hp6,hq6,rfl,B⟩:=(h.sl 1 Z).1.ix F;refine zx hp6 hq6 ⟨I.1,qap I.2.1 (h.sl 1 Z).2⟩ Z (zc 0 B Z (zp1 Z ?_));obtain⟨_,hy7,F,J,_,_,_,_,L,N,rfl,C⟩:=(h.sl 1 Z).1.ix F;refine zx L N ⟨J.1,qap J.2.1 (h.sl 1 Z).2⟩ Z (qdT qc 1 0 (W64 (y6+1)) h Z hy7 L N Z C Z Z Z Z Z Z Z fun _ h=>X0 6 Z ?_);replace h:=h.p [1,2] Z;exact rK ⟨_,_,F,rfl,h⟩ Z
  refine X0 6 Z ?_;replace h:=h.p [1,2] Z;exact rK ⟨_,_,F,rfl,h⟩ Z
 refine qq Z ?_;obtain rfl:=qa F;replace F:=x;exact X0 3 Z (zcB h F (qdt (h.own 0 Z)) Z fun _ _ h F=>X0 3 Z (rb h F Z))
def qaJ(c:Int)(b:qd):Nat->(List Tplace)->Int->Option ((List Tplace)×Int)|0,_,_=>G|n+1,d,a=>bif decide (a<(b.Af.length:Int)) then(idx b.Af a).bind fun g=>(appS d ([(⟨c,a,g,(a==(W64 ((b.Af.length:Int)-1)))⟩:Tplace)]:List Tplace)).bind fun f=>qaJ c b n f (W64 (a+1)) else U (d,a)
def qaL(d:qb):Nat->(List Tplace)->Int->Option ((List Tplace)×Int)|0,_,_=>G|n+1,b,a=>bif decide (a<(d.Ac.length:Int)) then(idx d.Ac a).bind fun c=>(appS b ([(⟨(-1),a,c.Bm,(c.Bl==1)⟩:Tplace)]:List Tplace)).bind fun f=>qaL d n f (W64 (a+1)) else U (b,a)
def qaK(d:qb):Nat->(List Tplace)->Int->Option ((List Tplace)×Int)|0,_,_=>G|n+1,b,a=>bif decide (a<(d.Aa.length:Int)) then(idx d.Aa a).bind fun f=>(qaJ a f n b 0).bind fun(c,_)=>qaK d n c (W64 (a+1)) else U (b,a)
def qa4(n:Nat)(d:qb):Option (List Tplace):=(qaK d n ([]:List Tplace) 0).bind fun(a,_)=>(qaL d n a 0).bind fun(b,_)=>U b
theorem qcv{d:qb}(A:Ro w d cs1){r:(List Tplace)}(F:qa4 n d=U r):RetV prog 70 [oV qb cs1] w r:=by
 obtain⟨u,t,p2,k2,p3,S,rfl,s1,_,s3⟩:=qJ A;refine zV 61 func70 Z fun h=>zSR (qr h Z Z fun _ a h=>X1 14 0 h Z ?_);replace h:=h.nil (α:=Tplace);obtain⟨o1,F,x⟩:=qe F;refine ql (rL (fun m e w'=>∃S1 p4 i T x1 b,qaK d m x1 b=U o1/\e=[(1,vp a),(3,oS p4 i T),(11,oS u d.Aa.length t),(12,vi (d.Aa.length:Int)),(13,vi b)]/\SH w w' [oW S1 (x1:List Tplace) [oS p4 i T],oX a (qay d u p2 p3 t k2 S) 45]) n ⟨_,_,_,_,_,_,F,rfl,h⟩ Z ?_);rintro m1 _ _ ⟨S1,p4,i,T,x1,b,F,rfl,h⟩;obtain rfl:=(h.sl 0 Z).2;rcases m1 with _|m1
 ·cases F
 refine X0 5 Z (qf Z F ?_ ?_)<;>intro F
 ·refine X0 6 Z ?_;obtain⟨o,_,F,H,_,_,_,_,K,N,Q,B⟩:=s1.ix F;obtain⟨p5,k5,rfl,s4⟩:=qA Q;refine zxe K N H Z (zc 0 (B.below h.below) Z (qC qc h Z Z Z fun _ p h=>zp1 Z (zs 0 h Z fun _ h=>X1 8 0 h Z ?_)));obtain⟨o2,F,y⟩:=qe F;refine ql (rL (fun m e w'=>∃S2 p6 k W x2 g,qaJ b o m x2 g=U o2/\e=[(1,vp a),(3,oS p6 k W),(4,vi b),(5,vp p),(11,oS u d.Aa.length t),(12,vi (d.Aa.length:Int)),(13,vi b),(19,oS p5 o.Af.length k5),(20,vi (o.Af.length:Int)),(21,vi g)]/\SH w w' [oX p (qfO o p5 k5) 121,oW S2 (x2:List Tplace) [oS p6 k W],oX a (qay d u p2 p3 t k2 S) 45]) m1 ⟨_,_,_,_,_,_,F,rfl,h⟩ Z ?_);rintro m2 _ _ ⟨S2,p6,k,W,x2,g,F,rfl,h⟩;obtain rfl:=(h.sl 1 Z).2;rcases m2 with _|m2
  ·cases F
  refine X0 5 Z (qf Z F ?_ ?_)<;>intro F
  ·refine X0 6 Z ?_;obtain⟨y2,_,F,I,_,_,_,_,L,O,rfl,C⟩:=s4.ix F;refine zxe L O I Z (zc 0 (C.below h.below) Z (X1 14 0 h Z (r_v (qe6 qc [0,1,2,3] [.tmp 27,.tmp 28,.tmp 29,.tmp 35] Z Z Z Z Z Z Z Z) Z (qT qc [.tmp 36] _ ([(⟨b,g,y2,(g==(W64 ((o.Af.length:Int)-1)))⟩:Tplace)]:List Tplace) h Z Z Z Z Z Z Z Z Z ⟨(qeL (⟨b,g,y2,(g==(W64 ((o.Af.length:Int)-1)))⟩:Tplace)),E⟩ Z fun _ _ _ h=>?_))));obtain⟨_,c,F⟩:=qe F;obtain⟨g1,c⟩:=qaR c;refine qdP qc 2 h Z (h.sl 0 Z).1 (h.sl 0 Z).2 Z Z Z Z Z Z Z Z Z g1 c Z fun _ _ _ _ h=>X0 7 Z ?_;replace h:=h.p [1,2,3] Z;exact rK ⟨_,_,_,_,_,_,F,rfl,h⟩ Z
  refine qq Z ?_;obtain rfl:=qa F;replace F:=y;refine X0 5 Z ?_;replace h:=h.p [1,2] Z;exact rK ⟨_,_,_,_,_,_,F,rfl,h⟩ Z
 refine qq Z ?_;obtain rfl:=qa F;replace F:=x;refine X1 8 1 h Z ?_;obtain⟨o3,F,z⟩:=qe F;refine ql ?_;replace h:=h.p [0] Z;refine rL (fun m e w'=>∃S5 p9 l X x4 s,qaL d m x4 s=U o3/\e=[(3,oS p9 l X),(42,oS p3 d.Ac.length S),(43,vi (d.Ac.length:Int)),(44,vi s)]/\SH w w' [oW S5 (x4:List Tplace) [oS p9 l X]]) n ⟨_,_,_,_,_,_,F,rfl,h⟩ Z ?_;rintro m3 _ _ ⟨S5,p9,l,X,x4,s,F,rfl,h⟩;obtain rfl:=(h.sl 0 Z).2;rcases m3 with _|m3
 ·cases F
 refine X0 5 Z (qf Z F ?_ ?_)<;>intro F
 ·refine X0 6 Z ?_;obtain⟨v,_,F,J,_,_,_,_,M,P,R,D⟩:=s3.ix F;obtain rfl:=qab R;refine zxe M P J Z (zc 0 (D.below h.below) Z (qC qc h Z Z Z fun _ _ h=>zp1 Z (zs 0 h Z fun _ h=>X2 9 0 0 h Z (r_v (qe6 qc [0,1,2,3] [.const (vi (-1)),.tmp 50,.tmp 52,.tmp 55] Z Z Z Z Z Z Z Z) Z (qT qc [.tmp 56] _ ([(⟨(-1),s,v.Bm,(v.Bl==1)⟩:Tplace)]:List Tplace) h Z Z Z Z Z Z Z Z Z ⟨(qeL (⟨(-1),s,v.Bm,(v.Bl==1)⟩:Tplace)),E⟩ Z fun _ _ _ h=>?_)))));obtain⟨_,f,F⟩:=qe F;obtain⟨g2,f⟩:=qaR f;refine qdP qc 2 h Z (h.sl 0 Z).1 (h.sl 0 Z).2 Z Z Z Z Z Z Z Z Z g2 f Z fun _ _ _ _ h=>X0 7 Z ?_;replace h:=h.p [2] Z;exact rK ⟨_,_,_,_,_,_,F,rfl,h⟩ Z
 refine qq Z ?_;obtain rfl:=qa F;replace F:=z;refine X0 5 Z ?_;obtain rfl:=qa F;exact rO 0 h Z ⟨rfl,E⟩
def qat(g:qD):Nat->Int->Option (Flow Bool Int)|0,_=>G|n+1,a=>bif decide (a<(g.Ai.length:Int)) then(idx g.Ai a).bind fun b=>bif (a==0) then bif (b != (-1)) then U (.ret false) else(idx g.Bn 0).bind fun f=>bif (f != 0) then U (.ret false) else bif decide (a > 0) then(qY n b 0 (W64 (a-1))).bind fun c=>bif (!c) then U (.ret false) else qat g n (W64 (a+1)) else qat g n (W64 (a+1)) else bif decide (a > 0) then(qY n b 0 (W64 (a-1))).bind fun d=>bif (!d) then U (.ret false) else qat g n (W64 (a+1)) else qat g n (W64 (a+1)) else U (.nxt a)
def qen(n:Nat)(a:qD):Option Bool:=(qat a n 0).bind fun|.ret r=>U r|.nxt _=>U true
theorem qis{K:qD}(c:Ro w K cs1){r:Bool}(F:qen n K=U r):RetV prog 116 [oV qD cs1] w r:=by
 obtain⟨x,u,C,y,D,z,H,A,rfl,I,J,_,_⟩:=qaM c;refine zV 38 func116 Z fun h=>zSR (qr h Z Z fun _ b h=>X1 10 0 h Z ?_);obtain⟨B,F,a⟩:=qe F;refine ql (rL (fun m e w'=>∃s,qat K m s=U B/\e=[(1,vp b),(6,oS x K.Ai.length u),(7,vi (K.Ai.length:Int)),(8,vi s)]/\SH w w' [oX b (qfd K x C D H u y z A) 109]) n ⟨_,F,rfl,h⟩ Z ?_);rintro v _ _ ⟨s,F,rfl,h⟩;rcases v with _|v
 ·cases F
 refine X0 5 Z (qf Z F ?_ ?_)<;>intro F
 ·refine X0 6 Z ?_;obtain⟨_,_,F,g,_,_,_,_,k,o,rfl,d⟩:=I.ix F;refine zxe k o g Z (zc 0 (d.below h.below) Z (X0 8 Z (qg (t:=15) F Z ?_ ?_)))<;>intro F
  ·refine X0 6 Z (qg (t:=18) F Z ?_ ?_)<;>intro F
   ·refine X0 20 Z (qc3 Z Z (X0 4 Z ?_));obtain rfl:=qa F;replace F:=a;exact rb h F Z
   refine X1 5 0 h Z ?_;obtain⟨_,_,F,i,_,_,_,_,l,p,rfl,f⟩:=J.ix F;refine zxe l p i Z (X0 1 Z (zc 0 (f.below h.below) Z (X0 6 Z (qg (t:=26) F Z ?_ ?_))))<;>intro F
   ·refine X0 11 Z (qc3 Z Z (X0 4 Z ?_));obtain rfl:=qa F;replace F:=a;exact rb h F Z
   refine X0 6 Z (qg (t:=29) F Z ?_ ?_)<;>intro F
   ·refine X0 7 Z (zcB h F qQ Z fun _ _ h F=>X0 6 Z (qf Z F ?_ ?_))<;>intro F
    ·refine X0 4 Z ?_;obtain rfl:=qa F;replace F:=a;exact rb h F Z
    exact X0 6 Z (rK ⟨_,F,rfl,h⟩ Z)
   exact X0 9 Z (qel Z Z (X0 6 Z (rK ⟨_,F,rfl,h⟩ Z)))
  refine X0 17 Z (qg (t:=29) F Z ?_ ?_)<;>intro F
  ·refine X0 7 Z (zcB h F qQ Z fun _ _ h F=>X0 6 Z (qf Z F ?_ ?_))<;>intro F
   ·refine X0 4 Z ?_;obtain rfl:=qa F;replace F:=a;exact rb h F Z
   exact X0 6 Z (rK ⟨_,F,rfl,h⟩ Z)
  exact X0 9 Z (qel Z Z (X0 6 Z (rK ⟨_,F,rfl,h⟩ Z)))
 refine qq Z ?_;obtain rfl:=qa F;replace F:=a;exact X0 4 Z (rb h F Z)
def qgV(n:Nat)(l:qD)(m:Int):Option Bool:=(qaz n l.Ai).bind fun a=>(qY n a 1 8).bind fun b=>bif b then(qaz n l.Bn).bind fun c=>bif (c==a) then(qaz n l.Bj).bind fun d=>bif (d==a) then(qen n l).bind fun f=>bif f then(qaU n l.Bn 0 1000).bind fun g=>bif g then(qaU n l.Bj 0 500).bind fun h=>bif h then(qaz n l.Bc).bind fun i=>bif (i==m) then(qaU n l.Bc 0 (W64 (a-1))).bind fun k=>U k else U false else U false else U false else U false else U false else U false else U false
theorem qk0{g:qD}{sinks}(a:Ro w g cs1){r:Bool}(F:qgV n g sinks=U r):RetV prog 71 [oV qD cs1,vi sinks] w r:=by
 obtain⟨_,_,_,_,_,_,_,_,rfl,f,b,c,d⟩:=qaM a;refine zV 53 func71 Z fun h=>zSR (qr h Z Z fun _ _ h=>X1 6 0 h Z (zcI h F (qa6 ⟨_,_,rfl,(h.oldS f)⟩) Z fun _ _ h F=>X0 5 Z (zcB h F qQ Z fun _ _ h F=>zp1 Z (qg (t:=11) F Z ?_ ?_))))<;>intro F
 ·refine X1 5 0 h Z (zcI h F (qa6 ⟨_,_,rfl,(h.oldS b)⟩) Z fun _ _ h F=>X0 6 Z (qg (t:=18) F Z ?_ ?_))<;>intro F
  ·refine X1 5 0 h Z (zcI h F (qa6 ⟨_,_,rfl,(h.oldS c)⟩) Z fun _ _ h F=>X0 6 Z (qg (t:=25) F Z ?_ ?_))<;>intro F
   ·refine X1 3 0 h Z (zcB h F (qis (h.old a)) Z fun _ _ h F=>zp2 Z (qg (t:=29) F Z ?_ ?_))<;>intro F
    ·refine X1 5 0 h Z (zcB h F (qbe ⟨_,_,rfl,(h.oldS b)⟩) Z fun _ _ h F=>zp2 Z (qg (t:=34) F Z ?_ ?_))<;>intro F
     ·refine X1 5 0 h Z (zcB h F (qbe ⟨_,_,rfl,(h.oldS c)⟩) Z fun _ _ h F=>zp2 Z (qg (t:=39) F Z ?_ ?_))<;>intro F
      ·refine X1 5 0 h Z (zcI h F (qa6 ⟨_,_,rfl,(h.oldS d)⟩) Z fun _ _ h F=>X0 6 Z (qg (t:=46) F Z ?_ ?_))<;>intro F
       ·exact X1 9 0 h Z (zcB h F (qbe ⟨_,_,rfl,(h.oldS d)⟩) Z fun _ _ h F=>X0 3 Z (rb h F Z))
       exact X0 8 Z (rb h F Z)
      exact X0 15 Z (rb h F Z)
     exact X0 20 Z (rb h F Z)
    exact X0 25 Z (rb h F Z)
   exact X0 29 Z (rb h F Z)
  exact X0 36 Z (rb h F Z)
 exact X0 43 Z (rb h F Z)
def qcC(b:qm)(c:(List Int)):Nat->Int->Option (Flow Bool Int)|0,_=>G|n+1,a=>bif decide (a<(b.Ah.length:Int)) then(idx b.Ah a).bind fun f=>(idx c a).bind fun g=>(qgV n f g).bind fun d=>bif (!d) then U (.ret false) else qcC b c n (W64 (a+1)) else U (.nxt a)
def qby(c:(List Tplace)):Nat->(List Int)->Int->Option ((List Int)×Int)|0,_,_=>G|n+1,b,a=>bif decide (a<(c.length:Int)) then(idx c a).bind fun d=>bif (!d.drives) then(idx b d.net).bind fun f=>(idx b d.net).bind fun _=>qby c n (setS b d.net (W64 (f+1))) (W64 (a+1)) else qby c n b (W64 (a+1)) else U (b,a)
def qf9(n:Nat)(b:qm):Option Bool:=((qfx n (⟨b.Aq.Aj⟩:qh) (⟨b.Ab.Aa,b.Ab.Af,b.Ab.Ac⟩:qb)).bind fun d=>bif (!d) then U true else U ((b.Ah.length:Int) != (b.Ab.Af.length:Int))).bind fun a=>bif a then U false else(mkS (b.Ah.length:Int) (0:Int)).bind fun f=>(qa4 n (⟨b.Ab.Aa,b.Ab.Af,b.Ab.Ac⟩:qb)).bind fun c=>(qby c n f 0).bind fun(g,_)=>(qcC b g n 0).bind fun|.ret r=>U r|.nxt _=>U true
theorem qj9{b:qm}(C:Ro w b cs1){r:Bool}(F:qf9 n b=U r):RetV prog 36 [oV qm cs1] w r:=by
 obtain⟨p1,k1,p2,k2,p3,k3,p4,k4,p5,k5,rfl,s1,s2,s3,s4,s5⟩:=qU C;refine zV 63 func36 Z fun h=>zSR (qr h Z Z fun _ a h=>X0 4 Z ?_);obtain⟨z,i,_,F,g⟩:=bindE F;refine qcX (fun e w'=>∃A,z A=U r/\e=[(1,vp a),(23,.bool A)]/\SH w w' [oX a (qb6 b p1 p2 p3 p4 p5 k1 k2 k3 k4 k5) 48]) ?_ ?_
 ·refine X2 5 0 0 h Z (zcB h F (qjF (qbg _ (h.oldS s1)) (qas _ (h.oldS s2) (h.oldS s3) (h.oldS s4))) Z fun _ _ h F=>zp2 Z (qg (t:=14) F Z ?_ ?_))<;>intro F
  ·refine X0 10 Z ?_;obtain rfl:=qa F;exact rG ⟨_,g,rfl,h⟩ Z
  refine X2 18 0 0 h Z ?_;obtain rfl:=qa F;exact rG ⟨_,g,rfl,h⟩ Z
 rintro _ _ ⟨A,F,rfl,h⟩;subst i;refine qf Z F ?_ ?_<;>intro F
 ·exact X0 4 Z (rb h F Z)
 refine X1 6 0 h Z ?_;obtain⟨c,d,F⟩:=qe F;obtain⟨g1,g2,d⟩:=qb5 d;refine qc2 qc Int h Z Z Z Z Z Z Z Z Z g1 g2 d Z fun _ S1 y h=>X1 7 1 h Z (zcL h F (qcv (qas _ (h.oldS s2) (h.oldS s3) (h.oldS s4))) Z fun v _ S2 p7 k6 h F=>X0 3 Z ?_);obtain⟨o1,F,B⟩:=qe F;refine ql (rL (fun m e w'=>∃x i1,qby v m x i1=U o1/\e=[(1,vp a),(3,oS y c.length c.length),(30,oS p7 v.length k6),(31,vi (v.length:Int)),(32,vi i1)]/\SH w w' [oW S2 (v:List Tplace) [oS p7 v.length k6],oW S1 (x:List Int) [oS y c.length c.length],oX a (qb6 b p1 p2 p3 p4 p5 k1 k2 k3 k4 k5) 48]) n ⟨_,_,F,rfl,h⟩ Z ?_);rintro m1 _ _ ⟨x,i1,F,rfl,h⟩;rcases m1 with _|m1
 ·cases F
 refine X0 5 Z (qf Z F ?_ ?_)<;>intro F
 ·refine zKSBSR ?_;obtain⟨_,_,F,k,_,_,_,_,M,Q,W,D⟩:=(h.sl 0 Z).1.ix F;obtain rfl:=qd1 W;refine zx M Q ⟨k.1,qap k.2.1 (h.sl 0 Z).2⟩ Z (zc 0 D Z (qC qc h Z Z Z fun _ _ h=>zs 0 h Z fun _ h=>X1 7 0 h Z (qf Z F ?_ ?_)))<;>intro F
  ·refine X1 4 0 h Z ?_;obtain⟨y2,_,F,l,_,_,_,_,N,R,rfl,H⟩:=(h.sl 2 Z).1.ix F;refine zx N R ⟨l.1,qap l.2.1 (h.sl 2 Z).2⟩ Z (zc 0 H Z (zp1 Z ?_));obtain⟨_,a1,F,o,_,_,_,_,s,u,rfl,I⟩:=(h.sl 2 Z).1.ix F;refine zx s u ⟨o.1,qap o.2.1 (h.sl 2 Z).2⟩ Z (qdT qc 2 0 (W64 (y2+1)) h Z a1 s u Z I Z Z Z Z Z Z Z fun _ h=>X0 6 Z ?_);replace h:=h.p [1,2,3] Z;exact rK ⟨_,_,F,rfl,h⟩ Z
  refine X0 6 Z ?_;replace h:=h.p [1,2,3] Z;exact rK ⟨_,_,F,rfl,h⟩ Z
 refine qq Z ?_;obtain rfl:=qa F;replace F:=B;refine X1 8 2 h Z ?_;obtain⟨o2,F,f⟩:=qe F;refine ql ?_;replace h:=h.p [1] Z;refine rL (fun m e w'=>∃i2,qcC b x m i2=U o2/\e=[(3,oS y c.length c.length),(48,oS p5 b.Ah.length k5),(49,vi (b.Ah.length:Int)),(50,vi i2)]/\SH w w' [oW S1 (x:List Int) [oS y c.length c.length]]) n ⟨_,F,rfl,h⟩ Z ?_;rintro m2 _ _ ⟨i2,F,rfl,h⟩;rcases m2 with _|m2
 ·cases F
 refine X0 5 Z (qf Z F ?_ ?_)<;>intro F
 ·refine X0 6 Z ?_;obtain⟨y4,_,F,L,_,_,_,_,O,S,X,J⟩:=s5.ix F;obtain⟨_,_,_,_,_,_,_,_,rfl,s6,s7,s8,s9⟩:=qaM X;refine zxe O S L Z (zc 0 (J.below h.below) Z (qC qc h Z Z Z fun _ _ h=>zp1 Z (zs 0 h Z fun _ h=>zNS (rD (Y1 1 0 h Z ?_)))));refine zd2 Z ?_;obtain⟨_,_,F,p,_,_,_,_,P,T,rfl,K⟩:=(h.sl 1 Z).1.ix F;refine zdx P T ⟨p.1,qap p.2.1 (h.sl 1 Z).2⟩ Z (zdc 0 K Z ?_);obtain⟨r2,a0,F⟩:=qe F;refine qa3 r2 (vsB _) (cB 71 Z) (fun _ hb=>qk0 (qgt y4 ((h.ext hb).oldS s6) ((h.ext hb).oldS s7) ((h.ext hb).oldS s8) ((h.ext hb).oldS s9)) a0) Z Z Z Z (zd1 Z (dN h fun _ h=>qf Z F ?_ ?_))<;>intro F
  ·refine X0 4 Z ?_;obtain rfl:=qa F;replace F:=f;exact rb h F Z
  refine X0 6 Z ?_;replace h:=h.p [1] Z;exact rK ⟨_,F,rfl,h⟩ Z
 refine qq Z ?_;obtain rfl:=qa F;replace F:=f;exact X0 4 Z (rb h F Z)
end Go.Fw


namespace Go.Fw
open Go
def qbl(a:(List Int)):Nat:=a.length
theorem qbw{a:(List Int)}(h:(rngL rngI) a)(w:qbl a<=1048576):(okL okI) a:=
 ⟨by simp only[qbl] at w;omega,fun x b=>h.2 x b⟩
def qeQ(x:qp):Prop:=(rngL rngI) x.Bb/\(rngL rngI) x.Ba/\(rngL rngI) x.As
def qdq(x:qp):Nat:=qbl x.Bb+qbl x.Ba+qbl x.As
structure qff(x:qp):Prop where
 Bb:(okL okI) x.Bb
 Ba:(okL okI) x.Ba
 As:(okL okI) x.As
theorem qm5{x:qp}(h:qeQ x)(w:qdq x<=1048576):qff x:=⟨qbw (h.1) (by simp only[qdq] at w;omega),qbw (h.2.1) (by simp only[qdq] at w;omega),qbw (h.2.2) (by simp only[qdq] at w;omega)⟩
def qdC(a:(List qp)):Nat:=a.length+(a.map fun x=>qdq x).sum
theorem qjL{a:(List qp)}(h:(rngL qeQ) a)(w:qdC a<=1048576):(okL qff) a:=
 ⟨by simp only[qdC] at w;omega,fun x b=>qm5 (h.2 x b) (by have:=qcy (wt:=fun x:qp=>qdq x) b;simp only[qdC] at w;omega)⟩
def qhA(x:qH):Prop:=rngI x.Ap/\rngI x.Av/\rngI x.To/\rngI x.Bg/\(rngL qeQ) x.Be/\(rngL qeQ) x.Bk
def qgU(x:qH):Nat:=qdC x.Be+qdC x.Bk
structure qiS(x:qH):Prop where
 Ap:okI x.Ap
 Av:okI x.Av
 To:okI x.To
 Bg:okI x.Bg
 Be:(okL qff) x.Be
 Bk:(okL qff) x.Bk
theorem qor{x:qH}(h:qhA x)(w:qgU x<=1048576):qiS x:=⟨h.1,h.2.1,h.2.2.1,h.2.2.2.1,qjL (h.2.2.2.2.1) (by simp only[qgU] at w;omega),qjL (h.2.2.2.2.2) (by simp only[qgU] at w;omega)⟩
theorem qcB{a:(List Int)}(h:qbl a<=1048576):Ev (fun n=>qan n a a) true:=by
 have f:a.length<=1048576:=by simp only[qbl] at h;omega
 unfold qan;exact Ev.ff (by simp) (Ev.bind (b:=.nxt (a.length:Int)) (qgh (eqf:=fun _ x y=>U (!(x != y))) (fun x _=>Ev.now (by simp))
  (fun n=>by simp only[qdh,qj (je _),cond_false])
  (fun n j x c=>by
   have d:=(List.getElem?_eq_some_iff.1 c).1;simp only[qdh,qi d,cond_true,qai c,jd,Bool.not_not,wS j])) .done)
theorem qoh{a:qp}(h:qdq a<=1048576):Ev (fun n=>qeT n a a) true:=by
 unfold qeT;simp only[qdq] at h;exact Ev.bind (qcB (a:=a.Bb) (by omega)) (Ev.ff Z (Ev.bind (qcB (a:=a.Ba) (by omega)) (Ev.ff Z (Ev.bind (qcB (a:=a.As) (by omega)) (Ev.ff Z (.done))))))
theorem qlz{a:(List qp)}(h:qdC a<=1048576):Ev (fun n=>qeG n a a) true:=by
 have f:a.length<=1048576:=by simp only[qdC] at h;omega
 unfold qeG;exact Ev.ff (by simp) (Ev.bind (b:=.nxt (a.length:Int)) (qgh (eqf:=qeT) (fun x c=>qoh (by have:=qcy (wt:=fun x:qp=>qdq x) c;simp only[qdC] at h;omega))
  (fun n=>by simp only[qdf,qj (je _),cond_false])
  (fun n j x c=>by
   have d:=(List.getElem?_eq_some_iff.1 c).1;simp only[qdf,qi d,cond_true,qai c,jd,wS j])) .done)
theorem qqk{a:qH}(h:qgU a<=1048576):Ev (fun n=>qgO n a a) true:=by
 unfold qgO;simp only[qgU] at h;exact Ev.ff qa1 (Ev.ff qa1 (Ev.ff qa1 (Ev.ff qa1 (Ev.bind (qlz (a:=a.Be) (by omega)) (Ev.ff Z (Ev.bind (qlz (a:=a.Bk) (by omega)) (Ev.ff Z (.done))))))))
def qgJ(a:(List qH)):Nat:=a.length+(a.map fun x=>qgU x).sum
theorem qnI{a:(List qH)}(h:(rngL qhA) a)(w:qgJ a<=1048576):(okL qiS) a:=
 ⟨by simp only[qgJ] at w;omega,fun x b=>qor (h.2 x b) (by have:=qcy (wt:=fun x:qH=>qgU x) b;simp only[qgJ] at w;omega)⟩
theorem qph{a:(List qH)}(h:qgJ a<=1048576):Ev (fun n=>qg5 n a a) true:=by
 have f:a.length<=1048576:=by simp only[qgJ] at h;omega
 unfold qg5;exact Ev.ff (by simp) (Ev.bind (b:=.nxt (a.length:Int)) (qgh (eqf:=qgO) (fun x c=>qqk (by have:=qcy (wt:=fun x:qH=>qgU x) c;simp only[qgJ] at h;omega))
  (fun n=>by simp only[qd9,qj (je _),cond_false])
  (fun n j x c=>by
   have d:=(List.getElem?_eq_some_iff.1 c).1;simp only[qd9,qi d,cond_true,qai c,jd,wS j])) .done)
def qhH(x:qN):Prop:=rngS x.Am/\rngI x.Bl/\rngI x.Bj/\rngB x.Ay
def qh5(x:qN):Nat:=x.Am.size
structure qh8(x:qN):Prop where
 Am:okS x.Am
 Bl:okI x.Bl
 Bj:okI x.Bj
 Ay:okT x.Ay
theorem qop{x:qN}(h:qhH x)(w:qh5 x<=1048576):qh8 x:=⟨(by unfold okS;simp only[qh5] at w;omega),h.2.1,h.2.2.1,E⟩
def qgF(a:(List qN)):Nat:=a.length+(a.map fun x=>qh5 x).sum
theorem qnD{a:(List qN)}(h:(rngL qhH) a)(w:qgF a<=1048576):(okL qh8) a:=
 ⟨by simp only[qgF] at w;omega,fun x b=>qop (h.2 x b) (by have:=qcy (wt:=fun x:qN=>qh5 x) b;simp only[qgF] at w;omega)⟩
def qgy(x:qn):Prop:=rngS x.Am/\rngI x.Ap/\(rngL qhH) x.Ak/\(rngL qhA) x.Ar/\(rngL rngI) x.Az/\rngI x.Bo/\rngI x.Bh
def qey(x:qn):Nat:=x.Am.size+qgF x.Ak+qgJ x.Ar+qbl x.Az
structure qip(x:qn):Prop where
 Am:okS x.Am
 Ap:okI x.Ap
 Ak:(okL qh8) x.Ak
 Ar:(okL qiS) x.Ar
 Az:(okL okI) x.Az
 Bo:okI x.Bo
 Bh:okI x.Bh
theorem qn9{x:qn}(h:qgy x)(w:qey x<=1048576):qip x:=⟨(by unfold okS;simp only[qey] at w;omega),h.2.1,qnD (h.2.2.1) (by simp only[qey] at w;omega),qnI (h.2.2.2.1) (by simp only[qey] at w;omega),qbw (h.2.2.2.2.1) (by simp only[qey] at w;omega),h.2.2.2.2.2.1,h.2.2.2.2.2.2⟩
def qeY(a:(List qn)):Nat:=a.length+(a.map fun x=>qey x).sum
theorem qmK{a:(List qn)}(h:(rngL qgy) a)(w:qeY a<=1048576):(okL qip) a:=
 ⟨by simp only[qeY] at w;omega,fun x b=>qn9 (h.2 x b) (by have:=qcy (wt:=fun x:qn=>qey x) b;simp only[qeY] at w;omega)⟩
def qgW(x:qh):Prop:=(rngL qgy) x.Aj
def qep(x:qh):Nat:=qeY x.Aj
structure qeO(x:qh):Prop where
 Aj:(okL qip) x.Aj
theorem ql1{x:qh}(h:qgW x)(w:qep x<=1048576):qeO x:=⟨qmK (h) (by simp only[qep] at w;omega)⟩
def qdu(x:qd):Prop:=rngS x.Am/\rngI x.Bf/\(rngL rngI) x.Af
def qbh(x:qd):Nat:=x.Am.size+qbl x.Af
structure qii(x:qd):Prop where
 Am:okS x.Am
 Bf:okI x.Bf
 Af:(okL okI) x.Af
theorem qlh{x:qd}(h:qdu x)(w:qbh x<=1048576):qii x:=⟨(by unfold okS;simp only[qbh] at w;omega),h.2.1,qbw (h.2.2) (by simp only[qbh] at w;omega)⟩
def qbL(a:(List qd)):Nat:=a.length+(a.map fun x=>qbh x).sum
theorem qkL{a:(List qd)}(h:(rngL qdu) a)(w:qbL a<=1048576):(okL qii) a:=
 ⟨by simp only[qbL] at w;omega,fun x b=>qlh (h.2 x b) (by have:=qcy (wt:=fun x:qd=>qbh x) b;simp only[qbL] at w;omega)⟩
def qeq(a:(List ByteArray)):Nat:=a.length+(a.map fun x=>x.size).sum
theorem qmc{a:(List ByteArray)}(_:(rngL rngS) a)(w:qeq a<=1048576):(okL okS) a:=
 ⟨by simp only[qeq] at w;omega,fun x b=>(by unfold okS;have:=qcy (wt:=fun x:ByteArray=>x.size) b;simp only[qeq] at w;omega)⟩
def qgH(x:qK):Prop:=rngS x.Am/\rngI x.Bl/\rngI x.Bm
def qgK(x:qK):Nat:=x.Am.size
structure ql9(x:qK):Prop where
 Am:okS x.Am
 Bl:okI x.Bl
 Bm:okI x.Bm
theorem qnB{x:qK}(h:qgH x)(w:qgK x<=1048576):ql9 x:=⟨(by unfold okS;simp only[qgK] at w;omega),h.2.1,h.2.2⟩
def qfk(a:(List qK)):Nat:=a.length+(a.map fun x=>qgK x).sum
theorem qmR{a:(List qK)}(h:(rngL qgH) a)(w:qfk a<=1048576):(okL ql9) a:=
 ⟨by simp only[qfk] at w;omega,fun x b=>qnB (h.2 x b) (by have:=qcy (wt:=fun x:qK=>qgK x) b;simp only[qfk] at w;omega)⟩
def qhw(x:qb):Prop:=(rngL qdu) x.Aa/\(rngL rngS) x.Af/\(rngL qgH) x.Ac
def qd5(x:qb):Nat:=qbL x.Aa+qeq x.Af+qfk x.Ac
structure qgv(x:qb):Prop where
 Aa:(okL qii) x.Aa
 Af:(okL okS) x.Af
 Ac:(okL ql9) x.Ac
theorem qmv{x:qb}(h:qhw x)(w:qd5 x<=1048576):qgv x:=⟨qkL (h.1) (by simp only[qd5] at w;omega),qmc (h.2.1) (by simp only[qd5] at w;omega),qmR (h.2.2) (by simp only[qd5] at w;omega)⟩
def qgL(x:qD):Prop:=(rngL rngI) x.Ai/\(rngL rngI) x.Bn/\(rngL rngI) x.Bj/\(rngL rngI) x.Bc
def qev(x:qD):Nat:=qbl x.Ai+qbl x.Bn+qbl x.Bj+qbl x.Bc
structure qjg(x:qD):Prop where
 Ai:(okL okI) x.Ai
 Bn:(okL okI) x.Bn
 Bj:(okL okI) x.Bj
 Bc:(okL okI) x.Bc
theorem qnT{x:qD}(h:qgL x)(w:qev x<=1048576):qjg x:=⟨qbw (h.1) (by simp only[qev] at w;omega),qbw (h.2.1) (by simp only[qev] at w;omega),qbw (h.2.2.1) (by simp only[qev] at w;omega),qbw (h.2.2.2) (by simp only[qev] at w;omega)⟩
def qfa(a:(List qD)):Nat:=a.length+(a.map fun x=>qev x).sum
theorem qm1{a:(List qD)}(h:(rngL qgL) a)(w:qfa a<=1048576):(okL qjg) a:=
 ⟨by simp only[qfa] at w;omega,fun x b=>qnT (h.2 x b) (by have:=qcy (wt:=fun x:qD=>qev x) b;simp only[qfa] at w;omega)⟩
def qin(x:qm):Prop:=qgW x.Aq/\qhw x.Ab/\(rngL qgL) x.Ah
def qfh(x:qm):Nat:=qep x.Aq+qd5 x.Ab+qfa x.Ah
structure qb8(x:qm):Prop where
 Aq:qeO x.Aq
 Ab:qgv x.Ab
 Ah:(okL qjg) x.Ah
theorem qnc{x:qm}(h:qin x)(w:qfh x<=1048576):qb8 x:=⟨ql1 (h.1) (by simp only[qfh] at w;omega),qmv (h.2.1) (by simp only[qfh] at w;omega),qm1 (h.2.2) (by simp only[qfh] at w;omega)⟩
theorem qqq{a:qN}(_:qh5 a<=1048576):Ev (fun n=>qgB n a a) true:=by
 unfold qgB;exact Ev.ff qga (Ev.ff qa1 (Ev.ff qa1 (Ev.ff qlZ (.done))))
theorem qpi{a:(List qN)}(h:qgF a<=1048576):Ev (fun n=>qg4 n a a) true:=by
 have f:a.length<=1048576:=by simp only[qgF] at h;omega
 unfold qg4;exact Ev.ff (by simp) (Ev.bind (b:=.nxt (a.length:Int)) (qgh (eqf:=qgB) (fun x c=>qqq (by have:=qcy (wt:=fun x:qN=>qh5 x) c;simp only[qgF] at h;omega))
  (fun n=>by simp only[qd7,qj (je _),cond_false])
  (fun n j x c=>by
   have d:=(List.getElem?_eq_some_iff.1 c).1;simp only[qd7,qi d,cond_true,qai c,jd,wS j])) .done)
theorem qpn{a:qn}(h:qey a<=1048576):Ev (fun n=>qfJ n a a) true:=by
 unfold qfJ;simp only[qey] at h;exact Ev.ff qga (Ev.ff qa1 (Ev.bind (qpi (a:=a.Ak) (by omega)) (Ev.ff Z (Ev.bind (qph (a:=a.Ar) (by omega)) (Ev.ff Z (Ev.bind (qcB (a:=a.Az) (by omega)) (Ev.ff Z (Ev.ff qa1 (Ev.ff qa1 (.done))))))))))
theorem qoQ{a:(List qn)}(h:qeY a<=1048576):Ev (fun n=>qgg n a a) true:=by
 have f:a.length<=1048576:=by simp only[qeY] at h;omega
 unfold qgg;exact Ev.ff (by simp) (Ev.bind (b:=.nxt (a.length:Int)) (qgh (eqf:=qfJ) (fun x c=>qpn (by have:=qcy (wt:=fun x:qn=>qey x) c;simp only[qeY] at h;omega))
  (fun n=>by simp only[qdy,qj (je _),cond_false])
  (fun n j x c=>by
   have d:=(List.getElem?_eq_some_iff.1 c).1;simp only[qdy,qi d,cond_true,qai c,jd,wS j])) .done)
theorem qm4{a:qh}(h:qep a<=1048576):Ev (fun n=>qeV n a a) true:=by
 unfold qeV;simp only[qep] at h;exact Ev.bind (qoQ (a:=a.Aj) (by omega)) (Ev.ff Z (.done))
theorem qmF{a:qd}(h:qbh a<=1048576):Ev (fun n=>qdG n a a) true:=by
 unfold qdG;simp only[qbh] at h;exact Ev.ff qga (Ev.ff qa1 (Ev.bind (qcB (a:=a.Af) (by omega)) (Ev.ff Z (.done))))
theorem ql4{a:(List qd)}(h:qbL a<=1048576):Ev (fun n=>qek n a a) true:=by
 have f:a.length<=1048576:=by simp only[qbL] at h;omega
 unfold qek;exact Ev.ff (by simp) (Ev.bind (b:=.nxt (a.length:Int)) (qgh (eqf:=qdG) (fun x c=>qmF (by have:=qcy (wt:=fun x:qd=>qbh x) c;simp only[qbL] at h;omega))
  (fun n=>by simp only[qb7,qj (je _),cond_false])
  (fun n j x c=>by
   have d:=(List.getElem?_eq_some_iff.1 c).1;simp only[qb7,qi d,cond_true,qai c,jd,wS j])) .done)
theorem qmO{a:(List ByteArray)}(h:qeq a<=1048576):Ev (fun n=>qfg n a a) true:=by
 have f:a.length<=1048576:=by simp only[qeq] at h;omega
 unfold qfg;exact Ev.ff (by simp) (Ev.bind (b:=.nxt (a.length:Int)) (qgh (eqf:=fun _ x y=>U (!(x.toList != y.toList))) (fun x _=>Ev.now (by simp))
  (fun n=>by simp only[qcQ,qj (je _),cond_false])
  (fun n j x c=>by
   have d:=(List.getElem?_eq_some_iff.1 c).1;simp only[qcQ,qi d,cond_true,qai c,jd,Bool.not_not,wS j])) .done)
theorem qpP{a:qK}(_:qgK a<=1048576):Ev (fun n=>qfR n a a) true:=by
 unfold qfR;exact Ev.ff qga (Ev.ff qa1 (Ev.ff qa1 (.done)))
theorem qoK{a:(List qK)}(h:qfk a<=1048576):Ev (fun n=>qgj n a a) true:=by
 have f:a.length<=1048576:=by simp only[qfk] at h;omega
 unfold qgj;exact Ev.ff (by simp) (Ev.bind (b:=.nxt (a.length:Int)) (qgh (eqf:=qfR) (fun x c=>qpP (by have:=qcy (wt:=fun x:qK=>qgK x) c;simp only[qfk] at h;omega))
  (fun n=>by simp only[qdw,qj (je _),cond_false])
  (fun n j x c=>by
   have d:=(List.getElem?_eq_some_iff.1 c).1;simp only[qdw,qi d,cond_true,qai c,jd,wS j])) .done)
theorem qnH{a:qb}(h:qd5 a<=1048576):Ev (fun n=>qfw n a a) true:=by
 unfold qfw;simp only[qd5] at h;exact Ev.bind (ql4 (a:=a.Aa) (by omega)) (Ev.ff Z (Ev.bind (qmO (a:=a.Af) (by omega)) (Ev.ff Z (Ev.bind (qoK (a:=a.Ac) (by omega)) (Ev.ff Z (.done))))))
theorem qpG{a:qD}(h:qev a<=1048576):Ev (fun n=>qfV n a a) true:=by
 unfold qfV;simp only[qev] at h;exact Ev.bind (qcB (a:=a.Ai) (by omega)) (Ev.ff Z (Ev.bind (qcB (a:=a.Bn) (by omega)) (Ev.ff Z (Ev.bind (qcB (a:=a.Bj) (by omega)) (Ev.ff Z (Ev.bind (qcB (a:=a.Bc) (by omega)) (Ev.ff Z (.done))))))))
theorem qoF{a:(List qD)}(h:qfa a<=1048576):Ev (fun n=>qgl n a a) true:=by
 have f:a.length<=1048576:=by simp only[qfa] at h;omega
 unfold qgl;exact Ev.ff (by simp) (Ev.bind (b:=.nxt (a.length:Int)) (qgh (eqf:=qfV) (fun x c=>qpG (by have:=qcy (wt:=fun x:qD=>qev x) c;simp only[qfa] at h;omega))
  (fun n=>by simp only[qdA,qj (je _),cond_false])
  (fun n j x c=>by
   have d:=(List.getElem?_eq_some_iff.1 c).1;simp only[qdA,qi d,cond_true,qai c,jd,wS j])) .done)
theorem qo6{a:qm}(h:qfh a<=1048576):Ev (fun n=>qgp n a a) true:=by
 unfold qgp;simp only[qfh] at h;exact Ev.bind (qm4 (a:=a.Aq) (by omega)) (Ev.ff Z (Ev.bind (qnH (a:=a.Ab) (by omega)) (Ev.ff Z (Ev.bind (qoF (a:=a.Ah) (by omega)) (Ev.ff Z (.done))))))
theorem qcK{a:(List Int)}{left:Int}(h:(rngL rngI) a)(b:0<=left)(c:left<=1048576):Sz (fun n=>qaA n a left) (fun r=>r=left-(qbl a:Int)):=
 Sz.less b c (by omega) (by have:=h.1;omega) (fun _=>rfl)
theorem qoP{a:qp}{left:Int}(h:qeQ a)(g:0<=left)(i:left<=1048576):Sz (fun n=>qe4 n a left) (fun r=>r=left-(qdq a:Int)):=by
 unfold qe4;obtain⟨b,c,d⟩:=h;exact Sz.step (qcK (a:=a.Bb) b (by omega) (by omega)) fun s k m=>Sz.step (qcK (a:=a.Ba) c (by omega) (by omega)) fun t l o=>Sz.step (qcK (a:=a.As) d (by omega) (by omega)) fun u f p=>Sz.done f (by simp only[qdq];omega)
theorem qlC{a:(List qp)}{left:Int}(h:(rngL qeQ) a)(d:0<=left)(f:left<=1048576):Sz (fun n=>qfD n a left) (fun r=>r=left-(qdC a:Int)):=
 Sz.list (Lf:=qcl a) (wt:=fun x:qp=>qdq x) (el:=qe4) d f h.1 (fun x b left p q=>qoP (h.2 x b) p q)
  (fun c n=>by simp only[qcl,qj (je _),cond_false])
  (fun c n j x b=>by
   have g:=(List.getElem?_eq_some_iff.1 b).1;have i:=h.1;simp only[qcl,qi g,cond_true,qai b,jd,wS j])
  (fun _=>rfl)
theorem qqa{a:qH}{left:Int}(h:qhA a)(l:0<=left)(m:left<=1048576):Sz (fun n=>qgz n a left) (fun r=>r=left-(qgU a:Int)):=by
 unfold qgz;obtain⟨d,f,g,i,b,c⟩:=h;exact Sz.step (qlC (a:=a.Be) b (by omega) (by omega)) fun t o p=>Sz.step (qlC (a:=a.Bk) c (by omega) (by omega)) fun u k s=>Sz.done k (by simp only[qgU];omega)
theorem qpd{a:(List qH)}{left:Int}(h:(rngL qhA) a)(d:0<=left)(f:left<=1048576):Sz (fun n=>qhW n a left) (fun r=>r=left-(qgJ a:Int)):=
 Sz.list (Lf:=qdg a) (wt:=fun x:qH=>qgU x) (el:=qgz) d f h.1 (fun x b left p q=>qqa (h.2 x b) p q)
  (fun c n=>by simp only[qdg,qj (je _),cond_false])
  (fun c n j x b=>by
   have g:=(List.getElem?_eq_some_iff.1 b).1;have i:=h.1;simp only[qdg,qi g,cond_true,qai b,jd,wS j])
  (fun _=>rfl)
theorem qqh{a:qN}{left:Int}(h:qhH a)(i:0<=left)(k:left<=1048576):Sz (fun n=>qgD n a left) (fun r=>r=left-(qh5 a:Int)):=by
 unfold qgD;obtain⟨b,c,d,f⟩:=h;exact Sz.strStep b (by omega) (by omega) fun g l=>Sz.done g (by simp only[qh5];omega)
theorem qpO{a:(List qN)}{left:Int}(h:(rngL qhH) a)(d:0<=left)(f:left<=1048576):Sz (fun n=>qie n a left) (fun r=>r=left-(qgF a:Int)):=
 Sz.list (Lf:=qc8 a) (wt:=fun x:qN=>qh5 x) (el:=qgD) d f h.1 (fun x b left p q=>qqh (h.2 x b) p q)
  (fun c n=>by simp only[qc8,qj (je _),cond_false])
  (fun c n j x b=>by
   have g:=(List.getElem?_eq_some_iff.1 b).1;have i:=h.1;simp only[qc8,qi g,cond_true,qai b,jd,wS j])
  (fun _=>rfl)
theorem qpc{a:qn}{left:Int}(h:qgy a)(m:0<=left)(o:left<=1048576):Sz (fun n=>qfU n a left) (fun r=>r=left-(qey a:Int)):=by
 unfold qfU;obtain⟨b,g,c,d,f,i,k⟩:=h;exact Sz.strStep b (by omega) (by omega) fun p u=>Sz.step (qpO (a:=a.Ak) c (by omega) (by omega)) fun z s v=>Sz.step (qpd (a:=a.Ar) d (by omega) (by omega)) fun A t x=>Sz.step (qcK (a:=a.Az) f (by omega) (by omega)) fun B l y=>Sz.done l (by simp only[qey];omega)
theorem qoG{a:(List qn)}{left:Int}(h:(rngL qgy) a)(d:0<=left)(f:left<=1048576):Sz (fun n=>qhC n a left) (fun r=>r=left-(qeY a:Int)):=
 Sz.list (Lf:=qcM a) (wt:=fun x:qn=>qey x) (el:=qfU) d f h.1 (fun x b left p q=>qpc (h.2 x b) p q)
  (fun c n=>by simp only[qcM,qj (je _),cond_false])
  (fun c n j x b=>by
   have g:=(List.getElem?_eq_some_iff.1 b).1;have i:=h.1;simp only[qcM,qi g,cond_true,qai b,jd,wS j])
  (fun _=>rfl)
theorem qm6{a:qh}{left:Int}(h:qgW a)(d:0<=left)(f:left<=1048576):Sz (fun n=>qe2 n a left) (fun r=>r=left-(qep a:Int)):=by
 unfold qe2;have b:=h;exact Sz.step (qoG (a:=a.Aj) b (by omega) (by omega)) fun i c g=>Sz.done c (by simp only[qep];omega)
theorem qmA{a:qd}{left:Int}(h:qdu a)(g:0<=left)(i:left<=1048576):Sz (fun n=>qdE n a left) (fun r=>r=left-(qbh a:Int)):=by
 unfold qdE;obtain⟨b,d,c⟩:=h;exact Sz.strStep b (by omega) (by omega) fun k l=>Sz.step (qcK (a:=a.Af) c (by omega) (by omega)) fun o f m=>Sz.done f (by simp only[qbh];omega)
theorem ql3{a:(List qd)}{left:Int}(h:(rngL qdu) a)(d:0<=left)(f:left<=1048576):Sz (fun n=>qfm n a left) (fun r=>r=left-(qbL a:Int)):=
 Sz.list (Lf:=qbq a) (wt:=fun x:qd=>qbh x) (el:=qdE) d f h.1 (fun x b left p q=>qmA (h.2 x b) p q)
  (fun c n=>by simp only[qbq,qj (je _),cond_false])
  (fun c n j x b=>by
   have g:=(List.getElem?_eq_some_iff.1 b).1;have i:=h.1;simp only[qbq,qi g,cond_true,qai b,jd,wS j])
  (fun _=>rfl)
theorem qnb{a:(List ByteArray)}{left:Int}(h:(rngL rngS) a)(d:0<=left)(f:left<=1048576):Sz (fun n=>qgM n a left) (fun r=>r=left-(qeq a:Int)):=
 Sz.list (Lf:=qbS a) (wt:=fun x:ByteArray=>x.size) (el:=fun _ (x:ByteArray) b=>U (W64 (b-(x.size:Int)))) d f h.1 (fun x c left p q=>Sz.str (h.2 x c) p q)
  (fun b n=>by simp only[qbS,qj (je _),cond_false])
  (fun b n j x c=>by
   have g:=(List.getElem?_eq_some_iff.1 c).1;have i:=h.1;simp only[qbS,qi g,cond_true,qai c,jd,wS j])
  (fun _=>rfl)
theorem qpq{a:qK}{left:Int}(h:qgH a)(g:0<=left)(i:left<=1048576):Sz (fun n=>qfG n a left) (fun r=>r=left-(qgK a:Int)):=by
 unfold qfG;obtain⟨b,c,d⟩:=h;exact Sz.strStep b (by omega) (by omega) fun f k=>Sz.done f (by simp only[qgK];omega)
theorem qoe{a:(List qK)}{left:Int}(h:(rngL qgH) a)(d:0<=left)(f:left<=1048576):Sz (fun n=>qhs n a left) (fun r=>r=left-(qfk a:Int)):=
 Sz.list (Lf:=qcA a) (wt:=fun x:qK=>qgK x) (el:=qfG) d f h.1 (fun x b left p q=>qpq (h.2 x b) p q)
  (fun c n=>by simp only[qcA,qj (je _),cond_false])
  (fun c n j x b=>by
   have g:=(List.getElem?_eq_some_iff.1 b).1;have i:=h.1;simp only[qcA,qi g,cond_true,qai b,jd,wS j])
  (fun _=>rfl)
theorem qnE{a:qb}{left:Int}(h:qhw a)(g:0<=left)(i:left<=1048576):Sz (fun n=>qft n a left) (fun r=>r=left-(qd5 a:Int)):=by
 unfold qft;obtain⟨b,c,d⟩:=h;exact Sz.step (ql3 (a:=a.Aa) b (by omega) (by omega)) fun s k m=>Sz.step (qnb (a:=a.Af) c (by omega) (by omega)) fun t l o=>Sz.step (qoe (a:=a.Ac) d (by omega) (by omega)) fun u f p=>Sz.done f (by simp only[qd5];omega)
theorem qpp{a:qD}{left:Int}(h:qgL a)(i:0<=left)(k:left<=1048576):Sz (fun n=>qfM n a left) (fun r=>r=left-(qev a:Int)):=by
 unfold qfM;obtain⟨b,c,d,f⟩:=h;exact Sz.step (qcK (a:=a.Ai) b (by omega) (by omega)) fun v l p=>Sz.step (qcK (a:=a.Bn) c (by omega) (by omega)) fun x m s=>Sz.step (qcK (a:=a.Bj) d (by omega) (by omega)) fun y o t=>Sz.step (qcK (a:=a.Bc) f (by omega) (by omega)) fun z g u=>Sz.done g (by simp only[qev];omega)
theorem qoq{a:(List qD)}{left:Int}(h:(rngL qgL) a)(d:0<=left)(f:left<=1048576):Sz (fun n=>qhv n a left) (fun r=>r=left-(qfa a:Int)):=
 Sz.list (Lf:=qcG a) (wt:=fun x:qD=>qev x) (el:=qfM) d f h.1 (fun x b left p q=>qpp (h.2 x b) p q)
  (fun c n=>by simp only[qcG,qj (je _),cond_false])
  (fun c n j x b=>by
   have g:=(List.getElem?_eq_some_iff.1 b).1;have i:=h.1;simp only[qcG,qi g,cond_true,qai b,jd,wS j])
  (fun _=>rfl)
theorem qoJ{a:qm}{left:Int}(h:qin a)(g:0<=left)(i:left<=1048576):Sz (fun n=>qgq n a left) (fun r=>r=left-(qfh a:Int)):=by
 unfold qgq;obtain⟨b,c,d⟩:=h;exact Sz.step (qm6 (a:=a.Aq) b (by omega) (by omega)) fun s k m=>Sz.step (qnE (a:=a.Ab) c (by omega) (by omega)) fun t l o=>Sz.step (qoq (a:=a.Ah) d (by omega) (by omega)) fun u f p=>Sz.done f (by simp only[qfh];omega)
theorem qcL{a:(List Int)}(h:qbl a<=1048576):Ev (fun n=>qam n a) a:=by
 have i:a.length<=1048576:=by simp only[qbl] at h;omega
 unfold qam;exact Ev.bindN (qfy (by omega)) (Ev.bind (b:=(a,(a.length:Int))) (qf7 (cp:=fun _ x=>U x) (fun _ _=>.done)
  (fun c n=>by simp only[qc6,qj (je _),cond_false])
  (fun c n j x y d g=>by
   have f:=(List.getElem?_eq_some_iff.1 d).1;simp only[qc6,qi f,cond_true,qai d,qai g,jd,wS j])) .done)
theorem qoy{a:qp}(h:qdq a<=1048576):Ev (fun n=>qfc n a) a:=by
 unfold qfc;simp only[qdq] at h;exact Ev.bind (qcL (a:=a.Bb) (by omega)) (Ev.bind (qcL (a:=a.Ba) (by omega)) (Ev.bind (qcL (a:=a.As) (by omega)) (.done)))
theorem qlL{a:(List qp)}(h:qdC a<=1048576):Ev (fun n=>qeE n a) a:=by
 have i:a.length<=1048576:=by simp only[qdC] at h;omega
 unfold qeE;exact Ev.bindN (qfy (by omega)) (Ev.bind (b:=(a,(a.length:Int))) (qf7 (cp:=qfc) (fun x c=>qoy (by have:=qcy (wt:=fun x:qp=>qdq x) c;simp only[qdC] at h;omega))
  (fun d n=>by simp only[qdd,qj (je _),cond_false])
  (fun d n j x y c g=>by
   have f:=(List.getElem?_eq_some_iff.1 c).1;simp only[qdd,qi f,cond_true,qai c,qai g,jd,wS j])) .done)
theorem qp4{a:qH}(h:qgU a<=1048576):Ev (fun n=>qgG n a) a:=by
 unfold qgG;simp only[qgU] at h;exact Ev.bind (qlL (a:=a.Be) (by omega)) (Ev.bind (qlL (a:=a.Bk) (by omega)) (.done))
theorem qpI{a:(List qH)}(h:qgJ a<=1048576):Ev (fun n=>qgZ n a) a:=by
 have i:a.length<=1048576:=by simp only[qgJ] at h;omega
 unfold qgZ;exact Ev.bindN (qfy (by omega)) (Ev.bind (b:=(a,(a.length:Int))) (qf7 (cp:=qgG) (fun x c=>qp4 (by have:=qcy (wt:=fun x:qH=>qgU x) c;simp only[qgJ] at h;omega))
  (fun d n=>by simp only[qd4,qj (je _),cond_false])
  (fun d n j x y c g=>by
   have f:=(List.getElem?_eq_some_iff.1 c).1;simp only[qd4,qi f,cond_true,qai c,qai g,jd,wS j])) .done)
theorem qp8{a:qN}(_:qh5 a<=1048576):Ev (fun n=>qgC n a) a:=by
 unfold qgC;exact .done
theorem qpr{a:(List qN)}(h:qgF a<=1048576):Ev (fun n=>qgX n a) a:=by
 have i:a.length<=1048576:=by simp only[qgF] at h;omega
 unfold qgX;exact Ev.bindN (qfy (by omega)) (Ev.bind (b:=(a,(a.length:Int))) (qf7 (cp:=qgC) (fun x c=>qp8 (by have:=qcy (wt:=fun x:qN=>qh5 x) c;simp only[qgF] at h;omega))
  (fun d n=>by simp only[qd8,qj (je _),cond_false])
  (fun d n j x y c g=>by
   have f:=(List.getElem?_eq_some_iff.1 c).1;simp only[qd8,qi f,cond_true,qai c,qai g,jd,wS j])) .done)
theorem qpD{a:qn}(h:qey a<=1048576):Ev (fun n=>qfP n a) a:=by
 unfold qfP;simp only[qey] at h;exact Ev.bind (qpr (a:=a.Ak) (by omega)) (Ev.bind (qpI (a:=a.Ar) (by omega)) (Ev.bind (qcL (a:=a.Az) (by omega)) (.done)))
theorem qoA{a:(List qn)}(h:qeY a<=1048576):Ev (fun n=>qgc n a) a:=by
 have i:a.length<=1048576:=by simp only[qeY] at h;omega
 unfold qgc;exact Ev.bindN (qfy (by omega)) (Ev.bind (b:=(a,(a.length:Int))) (qf7 (cp:=qfP) (fun x c=>qpD (by have:=qcy (wt:=fun x:qn=>qey x) c;simp only[qeY] at h;omega))
  (fun d n=>by simp only[qdI,qj (je _),cond_false])
  (fun d n j x y c g=>by
   have f:=(List.getElem?_eq_some_iff.1 c).1;simp only[qdI,qi f,cond_true,qai c,qai g,jd,wS j])) .done)
theorem qm3{a:qh}(h:qep a<=1048576):Ev (fun n=>qe5 n a) a:=by
 unfold qe5;simp only[qep] at h;exact Ev.bind (qoA (a:=a.Aj) (by omega)) (.done)
theorem qmd{a:qd}(h:qbh a<=1048576):Ev (fun n=>qdx n a) a:=by
 unfold qdx;simp only[qbh] at h;exact Ev.bind (qcL (a:=a.Af) (by omega)) (.done)
theorem ql6{a:(List qd)}(h:qbL a<=1048576):Ev (fun n=>qed n a) a:=by
 have i:a.length<=1048576:=by simp only[qbL] at h;omega
 unfold qed;exact Ev.bindN (qfy (by omega)) (Ev.bind (b:=(a,(a.length:Int))) (qf7 (cp:=qdx) (fun x c=>qmd (by have:=qcy (wt:=fun x:qd=>qbh x) c;simp only[qbL] at h;omega))
  (fun d n=>by simp only[qb4,qj (je _),cond_false])
  (fun d n j x y c g=>by
   have f:=(List.getElem?_eq_some_iff.1 c).1;simp only[qb4,qi f,cond_true,qai c,qai g,jd,wS j])) .done)
theorem qmW{a:(List ByteArray)}(h:qeq a<=1048576):Ev (fun n=>qe0 n a) a:=by
 have i:a.length<=1048576:=by simp only[qeq] at h;omega
 unfold qe0;exact Ev.bindN (qfy (by omega)) (Ev.bind (b:=(a,(a.length:Int))) (qf7 (cp:=fun _ x=>U x) (fun _ _=>.done)
  (fun c n=>by simp only[qcV,qj (je _),cond_false])
  (fun c n j x y d g=>by
   have f:=(List.getElem?_eq_some_iff.1 d).1;simp only[qcV,qi f,cond_true,qai d,qai g,jd,wS j])) .done)
theorem qpj{a:qK}(_:qgK a<=1048576):Ev (fun n=>qfT n a) a:=by
 unfold qfT;exact .done
theorem qoI{a:(List qK)}(h:qfk a<=1048576):Ev (fun n=>qgk n a) a:=by
 have i:a.length<=1048576:=by simp only[qfk] at h;omega
 unfold qgk;exact Ev.bindN (qfy (by omega)) (Ev.bind (b:=(a,(a.length:Int))) (qf7 (cp:=qfT) (fun x c=>qpj (by have:=qcy (wt:=fun x:qK=>qgK x) c;simp only[qfk] at h;omega))
  (fun d n=>by simp only[qdF,qj (je _),cond_false])
  (fun d n j x y c g=>by
   have f:=(List.getElem?_eq_some_iff.1 c).1;simp only[qdF,qi f,cond_true,qai c,qai g,jd,wS j])) .done)
theorem qn8{a:qb}(h:qd5 a<=1048576):Ev (fun n=>qfu n a) a:=by
 unfold qfu;simp only[qd5] at h;exact Ev.bind (ql6 (a:=a.Aa) (by omega)) (Ev.bind (qmW (a:=a.Af) (by omega)) (Ev.bind (qoI (a:=a.Ac) (by omega)) (.done)))
theorem qpy{a:qD}(h:qev a<=1048576):Ev (fun n=>qfQ n a) a:=by
 unfold qfQ;simp only[qev] at h;exact Ev.bind (qcL (a:=a.Ai) (by omega)) (Ev.bind (qcL (a:=a.Bn) (by omega)) (Ev.bind (qcL (a:=a.Bj) (by omega)) (Ev.bind (qcL (a:=a.Bc) (by omega)) (.done))))
theorem qo4{a:(List qD)}(h:qfa a<=1048576):Ev (fun n=>qgo n a) a:=by
 have i:a.length<=1048576:=by simp only[qfa] at h;omega
 unfold qgo;exact Ev.bindN (qfy (by omega)) (Ev.bind (b:=(a,(a.length:Int))) (qf7 (cp:=qfQ) (fun x c=>qpy (by have:=qcy (wt:=fun x:qD=>qev x) c;simp only[qfa] at h;omega))
  (fun d n=>by simp only[qdD,qj (je _),cond_false])
  (fun d n j x y c g=>by
   have f:=(List.getElem?_eq_some_iff.1 c).1;simp only[qdD,qi f,cond_true,qai c,qai g,jd,wS j])) .done)
theorem qkB{a:qm}(h:qfh a<=1048576):Ev (fun n=>qer n a) a:=by
 unfold qer;simp only[qfh] at h;exact Ev.bind (qm3 (a:=a.Aq) (by omega)) (Ev.bind (qn8 (a:=a.Ab) (by omega)) (Ev.bind (qo4 (a:=a.Ah) (by omega)) (.done)))
end Go.Fw


namespace Go.Fw
open Go
set_option maxRecDepth 100000
theorem qcR{n:Nat}{x lo hi:Int}:qO n x lo hi=U (inI x lo hi):=by
 simp only[qO,qhS,qiU];rfl
theorem qcE{n:Nat}{x lo hi:Int}:qY n x lo hi=U (inI x lo hi):=by
 simp only[qY,qhS,qiU];rfl
def bt(s:ByteArray)(j:Nat):Nat:=(s.data.toList.getD j 0).toNat
theorem qo7{s:ByteArray}{j:Nat}(h:j<s.size):atS s (j:Int)=U (bt s j:Int):=by
 have a:j<s.data.size:=h;have b:j<s.data.toList.length:=by simpa using a
 unfold atS;rw[if_pos (by omega),jE];have:s[j]?=U (s.data.toList.getD j 0):=by
  rw[getElem?_pos s j h,jv,jh b]
  rfl
 rw[this]
 rfl
def letB(b:Nat):Bool:=decide (97<=b)&&decide (b<=122)
def digB(b:Nat):Bool:=decide (48<=b)&&decide (b<=57)
def chB(s:ByteArray)(j:Nat):Bool:=letB (bt s j) || digB (bt s j)&&decide (0<j)
def nameB(s:ByteArray):Bool:=(decide (1<=s.size)&&decide (s.size<=8))&&allN (chB s) s.size
theorem qiN{s:ByteArray}(h:okS s):Ev (fun n=>qet n s) (nameB s):=by
 unfold okS at h;have b:Ev (fun n=>qbZ s n 0) (bif allN (chB s) s.size then .nxt (s.size:Int) else .ret false):=by
  refine qdl ?_ (fun j a X c=>?_)
  ·exact Ev.succ (by simp only[qbZ,qj (je _),cond_false];exact .done)
  ·refine Ev.succ ?_;simp only[qbZ,qi a,cond_true,qo7 a,jd,qhS,qiU,wS j];have e1:(decide ((bt s j:Int)>=97)&&decide ((bt s j:Int)<=122))=letB (bt s j):=by unfold letB;rw[ji];simp;omega
   have e2:(decide ((bt s j:Int)>=48)&&decide ((bt s j:Int)<=57))=digB (bt s j):=by unfold digB;rw[ji];simp;omega
   have e3:decide ((j:Int) > 0)=decide (0<j):=by rw[ji];simp
   rw[e1,e2,e3];unfold chB;cases letB (bt s j)<;>cases digB (bt s j)<;>cases decide (0<j)<;>first|exact c|exact .done
 unfold qet;refine Ev.cast (r:=bif allN (chB s) s.size then(decide (1<=s.size)&&decide (s.size<=8)) else false) (Ev.bindB b (fun _=>?_) (fun _=>.done)) ?_
 ·simp only[qhS,qiU];exact Ev.now (by congr 1;rw[ji];simp;omega)
 ·unfold nameB;cases allN (chB s) s.size<;>simp
def cutset:List UInt8:=[97,98,99,100,101,102,103,104,105,106,107,108,109,110,111,112,113,114,115,116,117,118,119,120,121,122,48,49,50,51,52,53,54,55,56,57]
theorem qkn(b:UInt8):cutset.contains b=(letB b.toNat || digB b.toNat):=by
 have a:(List.range 256).all (fun m=>cutset.contains (UInt8.ofNat m)==(letB (UInt8.ofNat m).toNat || digB (UInt8.ofNat m).toNat))=true:=by kernel_rfl
 have h:=List.all_eq_true.1 a b.toNat (List.mem_range.2 b.toNat_lt);rw[beq_iff_eq] at h;simpa using h
def letters:List UInt8:=[97,98,99,100,101,102,103,104,105,106,107,108,109,110,111,112,113,114,115,116,117,118,119,120,121,122]
theorem qng(m:Nat)(b:m<256):decide ((Lib.indexByte letters m.toUInt8)>=0)=letB m:=by
 have a:(List.range 256).all (fun m=>decide ((Lib.indexByte letters m.toUInt8)>=0)==letB m)=true:=by kernel_rfl
 have h:=List.all_eq_true.1 a m (List.mem_range.2 b);rwa [beq_iff_eq] at h
theorem qk8{α:Type}{p:α->Bool}{l:List α}:l.dropWhile p=[]↔∀x,x∈l->p x=true:=by
 induction l with
 |nil=>simp
 |cons y l ih=>
  rw[List.dropWhile_cons];by_cases h:p y=true
  ·rw[if_pos h,ih];simp[h]
  ·rw[if_neg h];simp[h]
theorem qld{α:Type}{p:α->Bool}{l:List α}(h:∀x,x∈l.dropWhile p->p x=true):∀x,x∈l->p x=true:=by
 induction l with
 |nil=>simp
 |cons y l ih=>
  rw[List.dropWhile_cons] at h;by_cases b:p y=true
  ·rw[if_pos b] at h;intro x a;rcases List.mem_cons.1 a with rfl|a
   ·exact b
   ·exact ih h x a
  ·rw[if_neg b] at h;exact h
theorem qo8{l cs:List UInt8}:Lib.trimS l cs=[]↔∀x,x∈l->cs.contains x=true:=by
 unfold Lib.trimS Lib.trimRightS Lib.trimLeftS;rw[qk8];constructor
 ·intro h x a;exact qld (p:=(cs.contains ·)) (l:=l.reverse) (fun y b=>h y (List.mem_reverse.2 b)) x (List.mem_reverse.2 a)
 ·intro h x a;exact h x (List.mem_reverse.1 ((List.dropWhile_suffix _).subset (List.mem_reverse.1 a)))
theorem qeC{a b:ByteArray}:(a.toList==b.toList)=decide (a=b):=by
 rw[ji,beq_iff_eq,decide_eq_true_iff];constructor
 ·intro h;exact ByteArray.ext (by have:=congrArg List.toArray h;simpa [ByteArray.toList_eq] using this)
 ·rintro rfl;rfl

theorem qpW{s:ByteArray}{j:Nat}(h:j<s.data.toList.length):bt s j=(s.data.toList[j]).toNat:=by
 unfold bt;rw[jv,jh h];rfl
theorem qqt{s:ByteArray}{j:Nat}:bt s j<256:=UInt8.toNat_lt _
theorem qlK{n:Nat}{s:ByteArray}(h:okS s):qfL n s=U (nameB s):=by
 unfold okS at h;have z:s.data.toList.length=s.size:=by simp
 simp only[qfL,qcE,jd];cases hI:inI (s.size:Int) 1 8 with
 |false=>
  have k:(decide (1<=s.size)&&decide (s.size<=8))=false:=by rw[qnQ] at hI;rw[Bool.and_eq_false_iff,decide_eq_false_iff_not,decide_eq_false_iff_not];omega
  simp[nameB,k]
 |true=>
  have k:1<=s.size/\s.size<=8:=by rw[qbm] at hI;omega
  have t:qfi n s (⟨#[97,98,99,100,101,102,103,104,105,106,107,108,109,110,111,112,113,114,115,116,117,118,119,120,121,122,48,49,50,51,52,53,54,55,56,57]⟩:ByteArray)=U ⟨(Lib.trimS s.data.toList cutset).toArray⟩:=by
   unfold qfi;rw[if_pos ⟨by omega,by decide,by decide⟩]
   rfl
  rw[t];simp only[cond_true,jd];have p:(((⟨(Lib.trimS s.data.toList cutset).toArray⟩:ByteArray).toList==(⟨#[]⟩:ByteArray).toList))=allN (fun j=>letB (bt s j) || digB (bt s j)) s.size:=by
   rw[qeC,ji,decide_eq_true_iff,qX];have:((⟨(Lib.trimS s.data.toList cutset).toArray⟩:ByteArray)=⟨#[]⟩)↔Lib.trimS s.data.toList cutset=[]:=by
    constructor
    ·intro i;have:=congrArg (fun x:ByteArray=>x.data.toList) i;simpa using this
    ·intro i;rw[i]
   rw[this,qo8];constructor
   ·intro m j a;have c:j<s.data.toList.length:=by omega
    have:=m _ (jt c);rw[qkn,<-qpW c] at this;exact this
   ·intro m x u;obtain⟨j,a,rfl⟩:=jH u;have:=m j (by omega);rw[qkn,<-qpW a];exact this
  rw[p];have o:atS s 0=U (bt s 0:Int):=qo7 (j:=0) (by omega);have g:decide (Lib.indexByte letters (bt s 0:Int).toNat.toUInt8>=0)=letB (bt s 0):=by
   rw[jE];exact qng _ qqt
  have r:∀b:Bool,(bif b then(atS s 0).bind fun y=>(qdY n (⟨#[97,98,99,100,101,102,103,104,105,106,107,108,109,110,111,112,113,114,115,116,117,118,119,120,121,122]⟩:ByteArray) (⟨y⟩:IntK .u8)).bind fun v=>U (decide (v>=0)) else U false)=U (b&&letB (bt s 0)):=by
   intro b;cases b with
   |false=>rfl
   |true=>
    rw[o];simp only[cond_true,jd,qdY,jx];exact congrArg U g
  rw[r]
  congr 1
  have l:(decide (1<=s.size)&&decide (s.size<=8))=true:=by simp[k]
  unfold nameB;rw[l,jx,ji,jg,qX,qX];simp only[chB,Bool.or_eq_true,jg,decide_eq_true_eq];constructor
  ·rintro⟨d,f⟩ j a;rcases Nat.eq_zero_or_pos j with rfl|hp
   ·exact .inl f
   ·exact(d j a).imp id (fun h=>⟨h,hp⟩)
  ·intro d;refine⟨fun j a=>(d j a).imp id (fun h=>h.1),?_⟩;rcases d 0 (by omega) with f|f
   ·exact f
   ·omega
def strAt(xs:List ByteArray)(j:Nat):ByteArray:=xs.getD j ByteArray.empty
theorem qi0{xs:List ByteArray}{j:Nat}(h:j<xs.length):strAt xs j=xs[j]:=by simp[strAt,h]
theorem qki{xs:List ByteArray}{j:Nat}(h:j<xs.length):idx xs (j:Int)=U (strAt xs j):=by rw[qgE h,qi0 h]
def neB(xs:List ByteArray)(j i:Nat):Bool:=!decide (strAt xs i=strAt xs j)
def namesB(xs:List ByteArray):Bool:=allN (fun j=>nameB (strAt xs j)&&allN (neB xs j) j) xs.length
theorem qh7{xs:List ByteArray}(h:okL okS xs):Ev (fun n=>qdL n xs) (namesB xs):=by
 have f:=h.len;have c:∀j,j<xs.length->Ev (fun n=>qcg xs (j:Int) n 0) (bif allN (neB xs j) j then .nxt (j:Int) else .ret false):=by
  intro j a;refine qdl ?_ (fun i hi X d=>Ev.succ ?_)
  ·exact Ev.succ (by simp only[qcg,qj (je _),cond_false];exact .done)
  ·simp only[qcg,qi hi,cond_true,qki (show i<xs.length by omega),qki a,jd,qeC,wS i];unfold neB;cases decide (strAt xs i=strAt xs j)
   ·exact d
   ·exact .done
 have b:Ev (fun n=>qch xs n 0) (bif namesB xs then .nxt (xs.length:Int) else .ret false):=by
  refine qdl ?_ (fun j a X d=>Ev.succ ?_)
  ·exact Ev.succ (by simp only[qch,qj (je _),cond_false];exact .done)
  ·simp only[qch,qi a,cond_true,qki a,jd,wS j];refine Ev.bind (qiN (by rw[qi0 a];exact h.at a)) ?_;cases nameB (strAt xs j)
   ·exact .done
   ·refine Ev.ff Z (Ev.bind (c j a) ?_);cases allN (neB xs j) j
    ·exact .done
    ·exact d
 unfold qdL;refine Ev.bind b ?_;cases namesB xs<;>exact .done
theorem qmI{xs:List ByteArray}{v:ByteArray}(c:xs.length<=1048576):Ev (fun n=>qc5 n xs v) (ixL (fun x=>decide (v=x)) xs):=
 qfI (fin:=(xs.length:Int)) (Lf:=qaX xs v) (pf:=fun _ x=>U (decide (v=x))) (fun _ _=>.done)
  (fun n=>by simp only[qaX,qj (je _),cond_false])
  (fun n j x a=>by
   have b:=(List.getElem?_eq_some_iff.1 a).1;simp only[qaX,qi b,cond_true,qai a,jd,qeC,wS j])
  (fun n=>by unfold qc5;congr 1;funext o;cases o<;>rfl)
theorem qkx{xs:List ByteArray}{v:ByteArray}(a:xs.length<=1048576):Ev (fun n=>qcc n xs v) (xs.any fun x=>decide (v=x)):=by
 unfold qcc;exact Ev.bind (qmI a) (Ev.now (by rw[qiI]))
theorem qfF{xs:List ByteArray}(h:okL okS xs):Ev (fun n=>qce n xs) (namesB xs):=by
 have g:=h.len;have b:Ev (fun n=>qck xs n 0) (bif namesB xs then .nxt (xs.length:Int) else .ret false):=by
  refine qdl ?_ (fun j a X c=>Ev.succ ?_)
  ·exact Ev.succ (by simp only[qck,qj (je _),cond_false];exact .done)
  ·have f:subS xs 0 (j:Int)=U (xs.take j):=by
    unfold subS;rw[if_pos ⟨by omega,by omega,by omega⟩];simp
   simp only[qck,qi a,cond_true,qki a,jd,f,qlK (show okS (strAt xs j) by rw[qi0 a];exact h.at a),wS j];cases nameB (strAt xs j)
   ·exact .done
   ·refine Ev.ff Z (Ev.bind (qkx (by simp;omega)) ?_);have:((xs.take j).any fun x=>decide (strAt xs j=x)) = !allN (neB xs j) j:=by
     rw[qmr (d:=ByteArray.empty)]
     congr 1
     rw[List.length_take,Nat.min_eq_left (by omega)];refine qeK (fun i hi=>?_);unfold neB strAt
     congr 1
     have:(xs.take j).getD i ByteArray.empty=xs.getD i ByteArray.empty:=by simp[jv,hi]
     rw[this];exact decide_eq_decide.2 eq_comm
    rw[this];cases allN (neB xs j) j
    ·exact .done
    ·exact c
 unfold qce;refine Ev.bind b ?_;cases namesB xs<;>exact .done

theorem qlj{n:Nat}{x lo hi:Int}:qei n x lo hi=U (!inI x lo hi):=by simp only[qei,qcE,jd]
theorem qdo{xs:List Int}{lo hi:Int}(d:xs.length<=1048576):Ev (fun n=>qaU n xs lo hi) (xs.all fun x=>inI x lo hi):=by
 have b:Ev (fun n=>qaa n xs lo hi) (ixL (fun x=>!inI x lo hi) xs):=
  qfI (fin:=(xs.length:Int)) (Lf:=qB xs lo hi) (pf:=fun _ x=>U (!inI x lo hi)) (fun _ _=>.done)
   (fun n=>by simp only[qB,qj (je _),cond_false])
   (fun n j x a=>by
    have c:=(List.getElem?_eq_some_iff.1 a).1;simp only[qB,qi c,cond_true,qai a,jd,qlj,wS j])
   (fun n=>by unfold qaa;congr 1;funext o;cases o<;>rfl)
 unfold qaU qaE;refine Ev.bind (Ev.bind b (Ev.now Z)) (Ev.now ?_);rw[qiI,qke]
def stepB(xs:List Int)(j:Nat):Bool:=decide (j=0) || decide (at0 xs (j-1)<at0 xs j)
def incB(xs:List Int):Bool:=allN (stepB xs) xs.length
theorem qf0{xs:List Int}(l:xs.length<=1048576):Ev (fun n=>qbU n xs) (incB xs):=by
 have d:Ev (fun n=>qaC xs n 1) (bif incB xs then .nxt (max 1 xs.length:Int) else .ret false):=by
  by_cases b:xs.length=0
  ·have i:incB xs=true:=by unfold incB;rw[b];rfl
   rw[i];refine Ev.succ ?_;have:decide ((1:Int)<(xs.length:Int))=false:=by rw[b];decide
   simp only[qaC,this,cond_false];exact Ev.now (by rw[b];rfl)
  ·have:=qnm (Lf:=qaC xs) (len:=xs.length) (i0:=1) (f:=stepB xs) (bad:=false) (fin:=.nxt (max 1 xs.length:Int)) (by omega)
    (Ev.succ (by
     simp only[qaC,qj (je _),cond_false];exact Ev.now (by congr 2;omega)))
    (fun j k a X g=>Ev.succ (by
     simp only[qaC,qi a,cond_true,wS j,show(j:Int)-1=((j-1:Nat):Int) by omega,qez (show -9223372036854775808<=((j-1:Nat):Int) by omega) (by omega),qbc (show j-1<xs.length by omega),qbc a,jd];unfold stepB;by_cases c:at0 xs (j-1)<at0 xs j
     ·have e1:decide (at0 xs (j-1)>=at0 xs j)=false:=by simp;omega
      rw[e1];simp only[c,decide_true,Bool.or_true,cond_true,cond_false];exact g
     ·have e1:decide (at0 xs (j-1)>=at0 xs j)=true:=by simp;omega
      have e2:decide (j=0)=false:=by simp;omega
      rw[e1,e2];simp only[c,decide_false,Bool.or_self,cond_true,cond_false];exact .done))
   have e:allN (fun j=>stepB xs (1+j)) (xs.length-1)=incB xs:=by
    unfold incB;rw[ji,qX,qX];constructor
    ·intro h j a;cases j with
     |zero=>rfl
     |succ j=>have:=h j (by omega);rwa [Nat.add_comm] at this
    ·intro h j a;exact h (1+j) (by omega)
   rw[e] at this;exact this
 unfold qbU;refine Ev.bind d ?_;cases incB xs<;>exact .done
def lenB{α:Type}(xs:List α)(lo hi:Nat):Bool:=decide (lo<=xs.length)&&decide (xs.length<=hi)
theorem qlV{α:Type}{xs:List α}{lo hi:Nat}:inI (xs.length:Int) (lo:Int) (hi:Int)=lenB xs lo hi:=by
 unfold inI lenB;rw[ji];simp
def axisB(xs:List Int):Bool:=lenB xs 1 4&&((xs.all fun x=>inI x 0 100000)&&incB xs)
theorem qlo{xs:List Int}(a:xs.length<=1048576):Ev (fun n=>qfK n xs) (axisB xs):=by
 simp only[qfK,qaz,jd,qcE,show inI (xs.length:Int) 1 4=lenB xs 1 4 from qlV (lo:=1) (hi:=4)];unfold axisB;cases lenB xs 1 4
 ·exact .done
 ·refine Ev.tt Z (Ev.bind (qdo a) ?_);cases (xs.all fun x=>inI x 0 100000)
  ·exact .done
  ·exact Ev.tt Z (Ev.bind (qf0 a) .done)
theorem qkm{xs:List Int}(h:xs.length<=1048576):Ev (fun n=>qe1 n xs) (axisB xs):=by
 have g:Ev (fun n=>qb0 xs n 0) (bif allN (fun j=>inI (at0 xs j) 0 100000&&stepB xs j) xs.length then .nxt (xs.length:Int) else .ret false):=by
  refine qdl ?_ (fun j c X a=>Ev.succ ?_)
  ·exact Ev.succ (by simp only[qb0,qj (je _),cond_false];exact .done)
  ·simp only[qb0,qi c,cond_true,qbc c,jd,qcR,wS j];cases inI (at0 xs j) 0 100000
   ·exact .done
   ·simp only[jI,cond_false,jx];unfold stepB;by_cases f:j=0
    ·subst f;exact Ev.ff (by decide) a
    ·simp only[show(j:Int)-1=((j-1:Nat):Int) by omega,qez (show -9223372036854775808<=((j-1:Nat):Int) by omega) (by omega),qbc (show j-1<xs.length by omega),jd];have e2:decide (j=0)=false:=by simp;omega
     have e3:decide ((j:Int) > 0)=true:=by simp;omega
     rw[e2,e3];simp only[cond_true,Bool.false_or];by_cases b:at0 xs (j-1)<at0 xs j
     ·have e1:decide (at0 xs (j-1)>=at0 xs j)=false:=by simp;omega
      rw[e1];simp only[b,decide_true,cond_true,cond_false];exact a
     ·have e1:decide (at0 xs (j-1)>=at0 xs j)=true:=by simp;omega
      rw[e1];simp only[b,decide_false,cond_true,cond_false];exact .done
 have e:axisB xs=(allN (fun j=>inI (at0 xs j) 0 100000&&stepB xs j) xs.length&&lenB xs 1 4):=by
  unfold axisB incB;rw[qho,qe9 (d:=0),Bool.and_comm]
  rfl
 rw[e];unfold qe1;refine Ev.bind g ?_;cases allN (fun j=>inI (at0 xs j) 0 100000&&stepB xs j) xs.length
 ·exact .done
 ·simp only[cond_true,qhS,qiU,jx];exact Ev.now (by congr 1;unfold lenB;rw[ji];simp;omega)
def tableB(t:qp):Bool:=axisB t.Bb&&(axisB t.Ba&&(decide (t.As.length=t.Bb.length*t.Ba.length)&&(t.As.all fun x=>inI x (-1000000) 1000000)))
theorem qnt{a b:Nat}(c:a<=1048576)(d:b<=1048576):W64 ((a:Int)*(b:Int))=((a*b:Nat):Int):=by
 have h:a*b<=1048576*1048576:=Nat.mul_le_mul c d;have e:(a:Int)*(b:Int)=((a*b:Nat):Int):=by simp
 rw[e];exact qez (by omega) (by omega)
theorem qm9{t:qp}(h:qff t):Ev (fun n=>qf4 n t) (tableB t):=by
 unfold qf4 tableB;refine Ev.bind (qlo h.Bb.len) ?_;cases axisB t.Bb
 ·exact .done
 ·refine Ev.tt Z (Ev.bind (qlo h.Ba.len) ?_);cases axisB t.Ba
  ·exact .done
  ·rw[qnt h.Bb.len h.Ba.len];have e:(((t.As.length:Nat):Int)==((t.Bb.length*t.Ba.length:Nat):Int))=decide (t.As.length=t.Bb.length*t.Ba.length):=by rw[ji];simp;omega
   rw[e];cases decide (t.As.length=t.Bb.length*t.Ba.length)
   ·exact .done
   ·exact Ev.tt Z (Ev.tt Z (Ev.bind (qdo h.As.len) .done))
theorem qmn{t:qp}(h:qff t):Ev (fun n=>qgf n t) (tableB t):=by
 have f:=h.As.len;have c:Ev (fun n=>qcJ t n 0) (bif (t.As.all fun x=>inI x (-1000000) 1000000) then .nxt (t.As.length:Int) else .ret false):=
  qi8 (fun n=>by simp only[qcJ,qj (je _),cond_false]) (fun j a X d=>by
   simp only[qcJ,qi a,cond_true,qgE a,jd,qcR,wS j];cases inI t.As[j] (-1000000) 1000000
   ·exact .done
   ·exact d)
 unfold qgf tableB;refine Ev.bind (b:=!(axisB t.Bb&&(axisB t.Ba&&decide (t.As.length=t.Bb.length*t.Ba.length)))) ?_ ?_
 ·refine Ev.bind (qkm h.Bb.len) ?_;cases axisB t.Bb
  ·exact .done
  ·refine Ev.ff Z (Ev.bind (qkm h.Ba.len) ?_);cases axisB t.Ba
   ·exact .done
   ·refine Ev.ff Z (Ev.now ?_);rw[qnt h.Bb.len h.Ba.len]
    congr 1
    rw[ji];simp;omega
 ·cases axisB t.Bb
  ·exact .done
  ·cases axisB t.Ba
   ·exact .done
   ·cases decide (t.As.length=t.Bb.length*t.Ba.length)
    ·exact .done
    ·refine Ev.ff Z (Ev.bind c ?_);cases (t.As.all fun x=>inI x (-1000000) 1000000)<;>exact .done

instance:Inhabited qN:=⟨⟨ByteArray.empty,0,0,false⟩⟩
instance:Inhabited qp:=⟨⟨[],[],[]⟩⟩
instance:Inhabited qH:=⟨⟨0,0,0,0,[],[]⟩⟩
instance:Inhabited qn:=⟨⟨ByteArray.empty,0,[],[],[],0,0⟩⟩
instance:Inhabited qd:=⟨⟨ByteArray.empty,0,[]⟩⟩
instance:Inhabited qK:=⟨⟨ByteArray.empty,0,0⟩⟩
instance:Inhabited qD:=⟨⟨[],[],[],[]⟩⟩
theorem lastE{j m:Nat}(h:j<m)(a:m<=1048576):((j:Int)==W64 ((m:Int)-1))=decide (j+1=m):=by
 rcases qpQ h with h|h
 ·exact h
 ·omega
theorem qgs{α:Type}[Inhabited α]{xs:List α}{g:α->ByteArray}{j:Nat}(h:j<xs.length):strAt (xs.map g) j=g (gt xs j):=by
 rw[qi0 (by simpa using h),qiE h];simp
theorem qim{α:Type}{xs:List α}{g:α->ByteArray}{ok:α->Prop}(h:okL ok xs)(a:∀x,ok x->okS (g x)):okL okS (xs.map g):=
 ⟨by rw[jF];exact h.1,fun y c=>by
  obtain⟨x,b,rfl⟩:=List.mem_map.1 c;exact a x (h.2 x b)⟩
theorem qhp{α β:Type}{xs:List α}{g:α->β}{j:Nat}(h:j<xs.length)(a:xs.length<=1048576){y:β}:appS ((xs.take j).map g) [y]=U ((xs.take j).map g++[y]):=
 qds (by simp;omega)
def pinB(ps:List qN)(j:Nat):Bool:=
 bif decide (j+1=ps.length) then((gt ps j).Bl==2)&&(((gt ps j).Bj==0)&&!(gt ps j).Ay) else((gt ps j).Bl==1)&&inI (gt ps j).Bj 0 500
def pinsB(ps:List qN):Bool:=allN (pinB ps) ps.length&&(lenB ps 2 5&&namesB (ps.map qN.Am))
def clkN(ps:List qN)(j:Nat):Nat:=cntP (fun i=>(gt ps i).Ay) j
theorem qmL{ps:List qN}(h:okL qh8 ps):Ev (fun n=>qgd n ps) (pinsB ps):=by
 have i:=h.len;have l:Ev (fun n=>qbu ps n ([]:List ByteArray) 0) (bif allN (pinB ps) ps.length then .nxt (ps.map qN.Am,(ps.length:Int)) else .ret false):=by
  refine loopN (Lf:=qbu ps) (S:=fun j=>(ps.take j).map qN.Am) (pinB ps) (fun n=>?_) (fun j a o X f=>?_)
  ·simp only[qbu,qj (je _),cond_false,List.take_length]
  ·simp only[qbu,qi a,cond_true,qM a,jd,qhp a i,qee (g:=qN.Am) a,lastE a i,bne,qaY,qcE,wS j];generalize hc:pinB ps j=c at f⊢;unfold pinB at hc;cases hd:decide (j+1=ps.length)
   ·rw[hd] at hc;simp only[cond_false] at hc⊢;subst hc;exact Ev.okP (fun b=>Ev.okP1 (fun d=>f (by rw[b,d];rfl)))
   ·rw[hd] at hc;simp only[cond_true] at hc⊢;subst hc;refine Ev.okP (fun b=>Ev.okP (fun d=>Ev.chkP1 (fun k=>f (by rw[b,d,k];rfl))))
 unfold qgd pinsB;refine Ev.bind l ?_;cases allN (pinB ps) ps.length
 ·exact .done
 ·simp only[cond_true,qa5,qcE,jd,show inI (ps.length:Int) 2 5=lenB ps 2 5 from qlV (lo:=2) (hi:=5),jx];exact Ev.andP (fun _=>Ev.last (qfF (qim h (fun x m=>m.Am))))
def pinS(ps:List qN)(j:Nat):Bool:=allN (neB (ps.map qN.Am) j) j&&((nameB (gt ps j).Am&&inI (gt ps j).Bj 0 500)&&(bif decide (j+1=ps.length) then((gt ps j).Bl==2)&&(((gt ps j).Bj==0)&&!(gt ps j).Ay) else((gt ps j).Bl==1)))
theorem qpb{ps:List qN}:(lenB ps 2 5&&allN (pinS ps) ps.length)=pinsB ps:=by
 have e:namesB (ps.map qN.Am)=allN (fun j=>nameB (gt ps j).Am&&allN (neB (ps.map qN.Am) j) j) ps.length:=by
  unfold namesB;rw[jF];exact qeK (fun j a=>by rw[qgs a])
 unfold pinsB;rw[e,<-Bool.and_assoc,Bool.and_comm (allN (pinB ps) ps.length),Bool.and_assoc,<-qho]
 congr 1
 refine qeK (fun j a=>?_);unfold pinS pinB;cases hd:decide (j+1=ps.length)
 ·simp only[cond_false];cases allN (neB (ps.map qN.Am) j) j<;>cases nameB (gt ps j).Am<;>cases inI (gt ps j).Bj 0 500<;>cases ((gt ps j).Bl==1)<;>rfl
 ·simp only[cond_true];cases hcap:((gt ps j).Bj==0)
  ·simp
  ·have:inI (gt ps j).Bj 0 500=true:=by rw[beq_iff_eq] at hcap;rw[hcap];rfl
   rw[this];cases allN (neB (ps.map qN.Am) j) j<;>cases nameB (gt ps j).Am<;>cases ((gt ps j).Bl==2)<;>cases (gt ps j).Ay<;>rfl
theorem qni{c:qn}(h:okL qh8 c.Ak):Ev (fun n=>qgi n c) (bif pinsB c.Ak then(((clkN c.Ak c.Ak.length:Nat):Int),true) else(0,false)):=by
 have r:=h.len;have l:∀j,j<c.Ak.length->Ev (fun n=>qcH c (j:Int) (gt c.Ak j) n 0) (bif allN (neB (c.Ak.map qN.Am) j) j then .nxt (j:Int) else .ret (0,false)):=by
  intro j b;refine qdl ?_ (fun i hi X a=>Ev.succ ?_)
  ·exact Ev.succ (by simp only[qcH,qj (je _),cond_false];exact .done)
  ·simp only[qcH,qi hi,cond_true,qM (show i<c.Ak.length by omega),jd,qeC,wS i];unfold neB;rw[qgs (g:=qN.Am) (show i<c.Ak.length by omega),qgs (g:=qN.Am) b];exact Ev.chkP1 (fun _=>a)
 have k:Ev (fun n=>qbx c n 0 0) (bif allN (pinS c.Ak) c.Ak.length then .nxt (((clkN c.Ak c.Ak.length:Nat):Int),(c.Ak.length:Int)) else .ret (0,false)):=by
  refine loopN (Lf:=qbx c) (S:=fun j=>((clkN c.Ak j:Nat):Int)) (pinS c.Ak) (fun n=>?_) (fun j b t X a=>?_)
  ·simp only[qbx,qj (je _),cond_false]
  ·have s:clkN c.Ak j<=j:=qdV;have d:((j:Int)==W64 ((c.Ak.length:Int)-1))=decide (j+1=c.Ak.length):=lastE b r;have f:decide ((j:Int)<W64 ((c.Ak.length:Int)-1)) = !decide (j+1=c.Ak.length):=by
    rw[qez (by omega) (by omega),ji];simp;omega
   simp only[qbx,qi b,cond_true,qM b,jd,wS j,qih (show clkN c.Ak j<9223372036854775807 by omega),d,f,qcR];unfold pinS;refine Ev.bind (l j b) ?_;cases ha:allN (neB (c.Ak.map qN.Am) j) j
   ·exact .done
   ·simp only[cond_true,jx];refine Ev.chkT ?_ (fun o=>?_)
    ·exact Ev.or (qiN (qgw h b).Am) (fun _=>.done)
    ·refine Ev.chkT1 ?_ (fun p=>?_)
     ·cases decide (j+1=c.Ak.length)
      ·exact .done
      ·simp only[cond_true,jI,cond_false,bne,qaY];cases ((gt c.Ak j).Bl==2)<;>cases ((gt c.Ak j).Bj==0)<;>cases (gt c.Ak j).Ay<;>exact .done
     ·have a:=a (by unfold pinS;rw[ha,o,p];rfl);have m:clkN c.Ak (j+1)=clkN c.Ak j+(bif (gt c.Ak j).Ay then 1 else 0):=rfl;rw[m] at a;cases hc:(gt c.Ak j).Ay
      ·rw[hc] at a;exact Ev.ff Z a
      ·rw[hc] at a;exact Ev.tt Z a
 rw[<-qpb];unfold qgi;refine Ev.guard ?_ (fun o=>?_)
 ·unfold lenB;have e1:decide ((c.Ak.length:Int)<2) = !decide (2<=c.Ak.length):=by rw[ji];simp;omega
  have e2:decide ((c.Ak.length:Int) > 5) = !decide (c.Ak.length<=5):=by rw[ji];simp;omega
  rw[e1,e2];cases decide (2<=c.Ak.length)<;>cases decide (c.Ak.length<=5)<;>exact .done
 ·refine Ev.bind k ?_;cases allN (pinS c.Ak) c.Ak.length<;>exact .done
def mnL(xs:List Int):Int:=(xs.drop 1).foldl (fun m y=>if y<m then y else m) (at0 xs 0)
def mxL(xs:List Int):Int:=(xs.drop 1).foldl (fun m y=>if y > m then y else m) (at0 xs 0)
theorem qko{t:qp}(h:tableB t=true):1<=t.As.length:=by
 unfold tableB axisB lenB at h;simp only[jg,decide_eq_true_eq] at h;obtain⟨⟨⟨a,_⟩,_⟩,⟨⟨b,_⟩,_⟩,c,_⟩:=h;rw[c];exact Nat.mul_pos a b
theorem qpm{xs:List Int}(b:1<=xs.length)(f:xs.length<=1048576):Ev (fun n=>qeo n xs) (mnL xs):=by
 have c:=(qlw (Lf:=fun n t j=>qbs xs n t j) (xs:=xs) (step:=fun(m y:Int)=>if y<m then y else m) (fin:=fun t=>(t,(xs.length:Int))) 1 (at0 xs 0) (fun _ _=>True) b trivial (fun _ _ _ _=>trivial)
  (fun n t=>by simp only[qbs,qj (je _),cond_false])
  (fun j t a _ X d=>by simpa only[qbs,qi a,cond_true,qgE a,jd,wS j] using d)).1
 unfold qeo;rw[show decide ((xs.length:Int)<1)=false by simp;omega,show idx xs (0:Int)=U (at0 xs 0) from qbc (j:=0) (by omega)];simp only[cond_false,jd];exact Ev.bind c .done
theorem qmQ{t:qp}(h:qff t):Ev (fun n=>qem n t) (bif tableB t then(⟨mnL t.As,mxL t.As⟩,0) else(⟨0,0⟩,1)):=by
 unfold qem;refine Ev.chk1 (qmn h) (fun l=>?_);have i:=qko l;have p:=h.As.len;have f:=(qlw (Lf:=fun n (d:Int×Int) j=>qbr t n d.1 d.2 j) (xs:=t.As) (step:=fun(m:Int×Int) y=>(if y<m.1 then y else m.1,if y > m.2 then y else m.2)) (fin:=fun d=>(d.1,d.2,(t.As.length:Int))) 1 (at0 t.As 0,at0 t.As 0) (fun _ _=>True) i trivial (fun _ _ _ _=>trivial)
  (fun n t=>by simp only[qbr,qj (je _),cond_false])
  (fun j t g _ X k=>by simpa only[qbr,qi g,cond_true,qgE g,jd,wS j] using k)).1
 have o:∀(c:List Int) (a b:Int),c.foldl (fun(m:Int×Int) y=>(if y<m.1 then y else m.1,if y > m.2 then y else m.2)) (a,b)=(c.foldl (fun m y=>if y<m then y else m) a,c.foldl (fun m y=>if y > m then y else m) b):=by
  intro c
  induction c with
  |nil=>intro a b;rfl
  |cons y c ih=>intro a b;simp only[List.foldl_cons,ih]
 rw[o] at f;rw[show idx t.As (0:Int)=U (at0 t.As 0) from qbc (j:=0) (by omega)];simp only[jd];exact Ev.bind f .done
def tabB(pos:Bool)(t:qp):Bool:=tableB t&&(!pos || decide (0<=mnL t.As))
def tablesB(a:List qp)(pos:Bool):Bool:=decide (a.length=2)&&a.all (tabB pos)
theorem qhz{a:List qp}{pos:Bool}(h:okL qff a):Ev (fun n=>qdb n a pos) (tablesB a pos):=by
 have g:=h.len;have c:Ev (fun n=>qS n a pos) (ixL (fun x=>!tabB pos x) a):=
  qfI (fin:=(a.length:Int)) (Lf:=qv a pos) (pf:=fun n x=>qes n x pos) (fun x b=>by
    unfold qes tabB;refine Ev.or (qm9 (h.2 x b)) (fun d=>?_);cases pos
    ·exact .done
    ·refine Ev.tt Z (Ev.bind (qpm (qko d) (h.2 x b).As.len) (Ev.now ?_))
     congr 1
     rw[ji];simp)
   (fun n=>by simp only[qv,qj (je _),cond_false])
   (fun n j x b=>by
    have f:=(List.getElem?_eq_some_iff.1 b).1;simp only[qv,qi f,cond_true,qai b,jd,wS j])
   (fun n=>by unfold qS;congr 1;funext o;cases o<;>rfl)
 unfold qdb qal tablesB;rw[show((a.length:Int)==2)=decide (a.length=2) by rw[ji];simp;omega];refine Ev.andP (fun _=>Ev.bind (Ev.bind c (Ev.now Z)) (Ev.now ?_));rw[qiI,qke]
theorem qfb{a:List qp}{pos:Bool}(h:okL qff a):Ev (fun n=>qbR n a pos) (tablesB a pos):=by
 unfold qbR tablesB;rw[show((a.length:Int) != 2) = !decide (a.length=2) by rw[ji];simp;omega];simp only[qaY];refine Ev.andP (fun b=>?_);have b:a.length=2:=by simpa using b
 have f:Ev (fun n=>qbp a pos n 0) (bif allN (fun j=>tabB pos (gt a j)) a.length then .nxt (2:Int) else .ret false):=by
  refine qdl (len:=a.length) ?_ (fun j d X c=>Ev.succ ?_)
  ·rw[b];exact Ev.succ (by simp only[qbp];exact .done)
  ·simp only[qbp,show decide ((j:Int)<2)=true by simp;omega,cond_true,qM d,jd,wS j];refine Ev.bind (qmQ (qgw h d)) ?_;unfold tabB;cases tableB (gt a j)
   ·exact .done
   ·simp only[cond_true,jx];refine Ev.ff Z ?_;cases pos
    ·exact c
    ·refine Ev.tt Z ?_;rw[show decide (mnL (gt a j).As<0) = !decide (0<=mnL (gt a j).As) by rw[ji];simp];simp only[qaY];exact Ev.okP1 (fun _=>c)
 rw[qf1];refine Ev.bind f ?_;cases allN (fun j=>tabB pos (gt a j)) a.length<;>exact .done

theorem qeJ{α:Type}[Inhabited α]{xs:List α}{x:Int}(a:0<=x)(b:x<xs.length):idx xs x=U (gt xs x.toNat):=by
  have:=qM (xs:=xs) (j:=x.toNat) (by omega);rwa [<-qjv a] at this
theorem qlr{q:Nat->Bool}{m n:Nat}(h:m<=n):cntP q m<=cntP q n:=by
  induction n with
  |zero=>
    obtain rfl:m=0:=by omega
    exact je _
  |succ n ih=>
    rcases Nat.lt_or_eq_of_le h with h|rfl
    · exact Nat.le_trans (ih (by omega)) (Nat.le_add_right _ _)
    · exact je _
theorem qhG{m k:Nat}:decide ((m:Int)<=(k:Int))=decide (m<=k):=by rw[ji];simp
theorem qms{q:Nat->Bool}{n i j:Nat}(hi:i<j)(c:j<n)(a:q i=true)(b:q j=true):2<=cntP q n:=by
  have e1:cntP q (i+1)=cntP q i+1:=by rw[cntP,a];rfl
  have e2:cntP q (j+1)=cntP q j+1:=by rw[cntP,b];rfl
  have d:=qlr (q:=q) (show i+1<=j by omega);have f:=qlr (q:=q) (show j+1<=n by omega);omega
theorem qoD{q:Nat->Bool}{n i j:Nat}(d:cntP q n<=1)(hi:i<n)(c:j<n)(a:q i=true)(b:q j=true):i=j:=by
  rcases Nat.lt_trichotomy i j with h|h|h
  · have:=qms h c a b;omega
  · exact h
  · have:=qms h hi b a;omega
def clkIx(ps:List qN):Int:=ixL (fun p=>p.Ay) ps
def clkAt(ps:List qN)(x:Int):Bool:=(gt ps x.toNat).Ay
theorem qos{c:qn}(f:c.Ak.length<=1048576):Ev (fun n=>qeH n c) (clkIx c.Ak):=by
  unfold qeH;refine Ev.bind (b:=clkIx c.Ak) ?_ .done;exact qfI (fin:=(c.Ak.length:Int)) (Lf:=qw c.Ak) (pf:=fun n x=>qfj n x) (fun _ _=>.done)
    (fun n=>by simp only[qw,qj (je _),cond_false])
    (fun n j x a=>by
      have d:=(List.getElem?_eq_some_iff.1 a).1;simp only[qw,qi d,cond_true,qai a,jd,wS j])
    (fun n=>by unfold qaB;congr 1;funext o;cases o<;>rfl)
def arcI(ps:List qN)(a:qH):Bool:=
  bif (a.Ap==4) || (a.Ap==5) then
    (a.Bg==0)&&(((a.Bk.length:Int)==0)&&(tablesB a.Be false&&((a.Av==clkIx ps)&&(decide (a.Av>=0)&&(inI a.To 0 (ps.length-2)&&!(a.To==a.Av))))))
  else
    (tablesB a.Be true&&(tablesB a.Bk true&&((a.To==(ps.length:Int)-1)&&inI a.Av 0 (ps.length-2)))) &&
      (bif a.Ap==1 then !clkAt ps a.Av&&inI a.Bg 1 3 else(bif (a.Ap==2) || (a.Ap==3) then clkAt ps a.Av&&(a.Bg==0) else false))
def arcS(ps:List qN)(a:qH):Bool:=
  (inI a.Av 0 (ps.length-2)&&inI a.To 0 (ps.length-1)) &&
    (bif a.Ap==1 then !clkAt ps a.Av&&((a.To==(ps.length:Int)-1)&&(inI a.Bg 1 3&&(tablesB a.Be true&&tablesB a.Bk true)))
     else(bif (a.Ap==2) || (a.Ap==3) then clkAt ps a.Av&&((a.To==(ps.length:Int)-1)&&((a.Bg==0)&&(tablesB a.Be true&&tablesB a.Bk true)))
     else(bif (a.Ap==4) || (a.Ap==5) then clkAt ps a.Av&&(decide (a.To<(ps.length:Int)-1)&&(!clkAt ps a.To&&((a.Bg==0)&&(tablesB a.Be false&&((a.Bk.length:Int)==0))))) else false)))
theorem qjH{c d:Bool}:(bif c then U c else U d)=U (c || d):=by cases c<;>rfl
theorem qmt{c d:Bool}:(bif c then U true else U d)=U (c || d):=by cases c<;>rfl
theorem qne{n:Nat}{k:Int}:qf8 n k=U ((k==4) || (k==5)):=by simp only[qf8,qmt]
theorem qol{c:qn}{a:qH}(h:okL qh8 c.Ak)(b:qiS a)(i:2<=c.Ak.length):Ev (fun n=>qeI n c a) (arcI c.Ak a):=by
  have g:=h.len;have e1:W64 ((c.Ak.length:Int)-1)=(c.Ak.length:Int)-1:=qbN (by omega);have e2:W64 ((c.Ak.length:Int)-1-1)=(c.Ak.length:Int)-2:=by rw[qez (by omega) (by omega)];omega
  simp only[qeI,qne,jd,qdX,qcn,qa5,e1,e2,qcE,qjH,bne];unfold arcI;refine Ev.iff (fun _=>Ev.last ?_) (fun _=>Ev.guardB ?_ (fun d=>?_))
  · exact Ev.andP fun _=>Ev.andP fun _=>Ev.and (qhz b.Be) fun _=>Ev.bind (qos g) (Ev.andP fun _=>Ev.andP fun _=>Ev.andP fun _=>.done)
  · refine Ev.or (qhz b.Be) fun _=>Ev.or (qhz b.Bk) fun _=>?_
    simp only[qaY];exact Ev.orBP fun _=>.done
  · have f:0<=a.Av/\a.Av<=(c.Ak.length:Int)-2:=by
      simp only[jg,qbm] at d;exact d.2.2.2
    simp only[qeJ f.1 (show a.Av<(c.Ak.length:Int) by omega),jd];exact Ev.iff (fun _=>Ev.andP fun _=>.done) (fun _=>Ev.iff (fun _=>Ev.andP fun _=>.done) (fun _=>.done))
theorem qnz{c:qn}{a:qH}(h:okL qh8 c.Ak)(b:qiS a)(i:2<=c.Ak.length):Ev (fun n=>qg2 n c a) (arcS c.Ak a):=by
  have g:=h.len;have e1:W64 ((c.Ak.length:Int)-1)=(c.Ak.length:Int)-1:=qbN (by omega);have e2:W64 ((c.Ak.length:Int)-1-1)=(c.Ak.length:Int)-2:=by rw[qez (by omega) (by omega)];omega
  simp only[qg2,jd,e1,e2,qcR,qjH];unfold arcS;refine Ev.guardB ?_ (fun d=>?_)
  · simp only[qaY]
    exact Ev.orBP fun _=>.done
  · have f:(0<=a.Av/\a.Av<=(c.Ak.length:Int)-2)/\(0<=a.To/\a.To<=(c.Ak.length:Int)-1):=by
      simp only[jg,qbm] at d;exact d
    simp only[qeJ f.1.1 (show a.Av<(c.Ak.length:Int) by omega),qeJ f.2.1 (show a.To<(c.Ak.length:Int) by omega),jd];refine Ev.iff (fun _=>?_) (fun _=>Ev.iff (fun _=>?_) (fun _=>Ev.iff (fun _=>?_) (fun _=>.done)))
    · exact Ev.andP fun _=>Ev.andP fun _=>Ev.andP fun _=>Ev.and (qfb b.Be) fun _=>Ev.last (qfb b.Bk)
    · exact Ev.andP fun _=>Ev.andP fun _=>Ev.andP fun _=>Ev.and (qfb b.Be) fun _=>Ev.last (qfb b.Bk)
    · exact Ev.andP fun _=>Ev.andP fun _=>Ev.andP fun _=>Ev.andP fun _=>Ev.and (qfb b.Be) fun _=>.done
theorem qjn{ps:List qN}(f:clkN ps ps.length<=1){x:Int}(k:0<=x):clkIx ps=x↔x<ps.length/\clkAt ps x=true:=by
  unfold clkIx ixL;cases hf:ps.findIdx? (fun p=>p.Ay) with
  |some j=>
    obtain⟨d,i,_⟩:=List.findIdx?_eq_some_iff_getElem.1 hf;have b:(gt ps j).Ay=true:=by rw[qiE d];exact i
    constructor
    · intro e
      have e:(j:Int)=x:=e;subst e;exact⟨by omega,by unfold clkAt;rw[jE];exact b⟩
    · rintro⟨g,a⟩
      have:=qoD f d (show x.toNat<ps.length by omega) b a;show(j:Int)=x;omega
  |none=>
    have h:=List.findIdx?_eq_none_iff.1 hf;constructor
    · intro e
      have e:(-1:Int)=x:=e;omega
    · rintro⟨g,a⟩
      have c:x.toNat<ps.length:=by omega
      unfold clkAt at a;rw[qiE c] at a;have:=h _ (jt c);rw[a] at this;exact absurd this (by decide)
theorem qgN{ps:List qN}(h:pinsB ps=true):(2<=ps.length/\ps.length<=5)/\clkAt ps ((ps.length:Int)-1)=false:=by
  unfold pinsB lenB at h;simp only[jg,decide_eq_true_eq] at h;refine⟨h.2.1,?_⟩;have a:=qX.1 h.1 (ps.length-1) (by omega);unfold pinB at a;rw[show decide (ps.length-1+1=ps.length)=true by simp;omega] at a;simp only[cond_true,jg,jD] at a;unfold clkAt;rw[show((ps.length:Int)-1).toNat=ps.length-1 by omega];exact a.2.2
theorem qqf{ps:List qN}{a:qH}(h:pinsB ps=true)(b:clkN ps ps.length<=1):arcI ps a=arcS ps a:=by
  obtain⟨⟨D,z⟩,l⟩:=qgN h;rw[ji];unfold arcI arcS;cases h45:((a.Ap==4) || (a.Ap==5)) with
  |true=>
    have B:(a.Ap==1)=false:=by simp at h45⊢;omega
    have u:((a.Ap==2) || (a.Ap==3))=false:=by simp at h45⊢;omega
    rw[B,u];simp only[cond_true,cond_false,jg,qbm,decide_eq_true_eq,beq_iff_eq,jD,beq_eq_false_iff_ne,ne_eq];constructor
    · rintro⟨t,m,s,p,o,r,A⟩
      obtain⟨C,n⟩:=(qjn b o).1 p.symm;have x:a.Av≠(ps.length:Int)-1:=by intro e;rw[e,l] at n;cases n
      refine⟨⟨⟨o,by omega⟩,⟨r.1,by omega⟩⟩,n,by omega,?_,t,s,m⟩;cases c:clkAt ps a.To with
      |false=>rfl
      |true=>
        have:=(qjn b r.1).2 ⟨by omega,c⟩;omega
    · rintro⟨⟨p,r⟩,n,y,c,t,s,m⟩
      have:=(qjn b p.1).2 ⟨by omega,n⟩;refine⟨t,m,s,this.symm,p.1,⟨r.1,by omega⟩,?_⟩;intro e;rw[e,n] at c;cases c
  |false=>
    simp only[cond_false,jg,qbm,beq_iff_eq];cases (a.Ap==1)
    · cases ((a.Ap==2) || (a.Ap==3))
      · simp
      · simp only[cond_true,cond_false,jg,beq_iff_eq]
        constructor
        · rintro⟨⟨b,d,f,g⟩,i,k⟩
          exact⟨⟨g,by omega⟩,i,f,k,b,d⟩
        · rintro⟨⟨g,v⟩,i,f,k,b,d⟩
          exact⟨⟨b,d,f,g⟩,i,k⟩
    · simp only[cond_true,jg,qbm,jD,beq_iff_eq]
      constructor
      · rintro⟨⟨b,d,f,g⟩,i,k⟩
        exact⟨⟨g,by omega⟩,i,f,k,b,d⟩
      · rintro⟨⟨g,v⟩,i,f,k,b,d⟩
        exact⟨⟨b,d,f,g⟩,i,k⟩
theorem qnV{ps:List qN}{a:qH}(h:arcS ps a=true):1<=a.Ap/\a.Ap<=5:=by
  unfold arcS at h;rw[jg] at h;have h:=h.2;cases h1:(a.Ap==1)
  · cases h2:((a.Ap==2) || (a.Ap==3))
    · cases h4:((a.Ap==4) || (a.Ap==5))
      · rw[h1,h2,h4] at h;cases h
      · simp at h4;omega
    · simp at h2;omega
  · simp at h1;omega
def sameArc(x y:qH):Bool:=(x.Ap==y.Ap)&&((x.Av==y.Av)&&(x.To==y.To))
def newArc(a:List qH)(j:Nat):Bool:=allN (fun i=>!sameArc (gt a i) (gt a j)) j
theorem qmX{c:qn}(h:okL qh8 c.Ak)(f:okL qiS c.Ar)(p:2<=c.Ak.length):Ev (fun n=>qdW n c) (allN (fun j=>arcI c.Ak (gt c.Ar j)&&newArc c.Ar j) c.Ar.length&&decide (c.Ar.length<=8)):=by
  have m:=f.len;have i:∀(a:List qH) (y:qH),a.length<=1048576->Ev (fun n=>qL n a y) (a.any fun x=>sameArc x y):=by
    intro a y m;unfold qL;refine Ev.bind (b:=ixL (fun x=>sameArc x y) a) (qfI (fin:=(a.length:Int)) (Lf:=qu a y) (pf:=fun n x=>qc4 n x y) (fun x _=>?_)
      (fun n=>by simp only[qu,qj (je _),cond_false])
      (fun n j x g=>by
        have d:=(List.getElem?_eq_some_iff.1 g).1;simp only[qu,qi d,cond_true,qai g,jd,wS j])
      (fun n=>by unfold qaq;congr 1;funext o;cases o<;>rfl)) (Ev.now (by rw[qiI]))
    unfold qc4 sameArc;exact Ev.andP fun _=>Ev.andP fun _=>.done
  have k:Ev (fun n=>qba c n 0) (bif allN (fun j=>arcI c.Ak (gt c.Ar j)&&newArc c.Ar j) c.Ar.length then .nxt (c.Ar.length:Int) else .ret false):=by
    refine qdl ?_ (fun j d X l=>Ev.succ ?_)
    · exact Ev.succ (by simp only[qba,qj (je _),cond_false];exact .done)
    · simp only[qba,qi d,cond_true,qM d,jd,qn6 (Nat.le_of_lt d),wS j]
      refine Ev.chk (qol h (qgw f d) p) fun _=>Ev.chkT1 ?_ (fun _=>l);refine(i _ _ (by simp;omega)).cast ?_;rw[qot (Nat.le_of_lt d)];rfl
  unfold qdW;refine Ev.bind k ?_;cases allN (fun j=>arcI c.Ak (gt c.Ar j)&&newArc c.Ar j) c.Ar.length
  · exact .done
  · refine Ev.now ?_
    show U (decide ((c.Ar.length:Int)<=((8:Nat):Int)))=U (true&&decide (c.Ar.length<=8));rw[qhG,jx]
def hasB(b:List qH)(k:Int):Bool:=b.any fun a=>a.Ap==k
theorem qjA{c:qn}{k:Int}(f:c.Ar.length<=1048576):Ev (fun n=>qbJ n c k) (hasB c.Ar k):=by
  unfold qbJ qau;exact Ev.last (Ev.bind (b:=ixL (fun x=>x.Ap==k) c.Ar) (qfI (fin:=(c.Ar.length:Int)) (Lf:=qy c.Ar k) (pf:=fun n x=>qfW n x k) (fun x _=>.done)
      (fun n=>by simp only[qy,qj (je _),cond_false])
      (fun n j x a=>by
        have d:=(List.getElem?_eq_some_iff.1 a).1;simp only[qy,qi d,cond_true,qai a,jd,wS j])
      (fun n=>by unfold qaF;congr 1;funext o;cases o<;>rfl)) (Ev.now (by rw[qiI];rfl)))
def kindN(a:List qH)(k:Nat)(j:Nat):Nat:=cntP (fun i=>(gt a i).Ap==(k:Int)) j
theorem qls{a:List qH}{k:Nat}:decide (((kindN a k a.length:Nat):Int) > 0)=hasB a k:=by
  rw[show decide (((kindN a k a.length:Nat):Int) > 0)=decide (0<kindN a k a.length) by simp];unfold kindN hasB;rw[qof,qok]
theorem qm2{a:List qH}{k:Nat}:(((kindN a k a.length:Nat):Int)==0) = !hasB a k:=by
  rw[<-qls,ji];simp
theorem qmx{c:qn}(g:okL qiS c.Ar)(h:∀j,j<c.Ar.length->1<=(gt c.Ar j).Ap/\(gt c.Ar j).Ap<=5):Ev (fun n=>qfC n c) (vecC (fun k=>kindN c.Ar k c.Ar.length) 6):=by
  have o:=g.len;have d:Ev (fun n=>qbF c n (vecC (fun _=>0) 6) 0) (vecC (fun k=>kindN c.Ar k c.Ar.length) 6,(c.Ar.length:Int)):=by
    refine loopF (Lf:=qbF c) (S:=fun j=>vecC (fun k=>kindN c.Ar k j) 6) (len:=c.Ar.length) (fun n=>?_) (fun j a X f=>?_)
    · simp only[qbF,qj (je _),cond_false]
    · obtain⟨p,r⟩:=h j a
      have b:(gt c.Ar j).Ap=(((gt c.Ar j).Ap.toNat:Nat):Int):=qjv (by omega);have l:kindN c.Ar (gt c.Ar j).Ap.toNat j<=j:=qdV;simp only[qbF,qi a,cond_true,qM a,jd,wS j];rw[b,qgx (show(gt c.Ar j).Ap.toNat<6 by omega)];simp only[jd];rw[qlv (c:=fun k=>kindN c.Ar k j) (by show kindN c.Ar _ j<_;omega)];have:vecC (fun i=>kindN c.Ar i j+(bif decide ((gt c.Ar j).Ap.toNat=i) then 1 else 0)) 6=vecC (fun k=>kindN c.Ar k (j+1)) 6:=by
        refine qgI (fun k _=>?_);show _=kindN c.Ar k j+(bif (gt c.Ar j).Ap==(k:Int) then 1 else 0)
        congr 2
        rw[ji];simp;omega
      rw[this];exact f
  unfold qfC;rw[show mkS 6 (0:Int)=U (vecC (fun _=>0) 6) from qir (m:=6) (by omega)];simp only[jd];exact Ev.bind d .done
def kindB(c:qn):Bool:=
  bif c.Ap==1 then(((clkN c.Ak c.Ak.length:Nat):Int)==0)&&(((c.Az.length:Int)==((2 ^ (c.Ak.length-1):Nat):Int))&&(c.Az.all fun x=>inI x 0 1))
  else bif c.Ap==2 then(((clkN c.Ak c.Ak.length:Nat):Int)==1)&&(((c.Az.length:Int)==0)&&(!hasB c.Ar 1&&!(hasB c.Ar 2==hasB c.Ar 3)))
  else bif c.Ap==3 then(((clkN c.Ak c.Ak.length:Nat):Int)==1)&&(((c.Az.length:Int)==0)&&(hasB c.Ar 1&&(hasB c.Ar 2&&!hasB c.Ar 3)))
  else false
theorem qnS{c:qn}(h:kindB c=true):clkN c.Ak c.Ak.length<=1:=by
  unfold kindB at h;cases h1:(c.Ap==1)
  · cases h2:(c.Ap==2)
    · cases h3:(c.Ap==3)
      · rw[h1,h2,h3] at h;cases h
      · rw[h1,h2,h3] at h
        simp only[cond_true,cond_false,jg,beq_iff_eq] at h;omega
    · rw[h1,h2] at h
      simp only[cond_true,cond_false,jg,beq_iff_eq] at h;omega
  · rw[h1] at h
    simp only[cond_true,jg,beq_iff_eq] at h;omega
theorem qmC{m:Nat}(a:2<=m)(b:m<=5):shlS 1 (W64 ((m:Int)-1))=U ((2 ^ (m-1):Nat):Int)/\shlS 1 (IntKind.wrap .u64 (W64 ((m:Int)-1)))=U ((2 ^ (m-1):Nat):Int):=by
  have:m=2\/m=3\/m=4\/m=5:=by omega
  rcases this with rfl|rfl|rfl|rfl<;>exact⟨by decide,by decide⟩
theorem qmw{c:qn}(b:qip c)(k:2<=c.Ak.length)(g:c.Ak.length<=5):Ev (fun n=>qdr n c) (kindB c):=by
  have l:=b.Ak.len;have i:Ev (fun n=>qar c n 0 0) (((clkN c.Ak c.Ak.length:Nat):Int),(c.Ak.length:Int)):=by
    refine loopF (Lf:=qar c) (S:=fun j=>((clkN c.Ak j:Nat):Int)) (len:=c.Ak.length) (fun n=>?_) (fun j h X d=>?_)
    · simp only[qar,qj (je _),cond_false]
    · have m:clkN c.Ak j<=j:=qdV
      simp only[qar,qi h,cond_true,qM h,jd,wS j,qih (show clkN c.Ak j<9223372036854775807 by omega)];have f:clkN c.Ak (j+1)=clkN c.Ak j+(bif (gt c.Ak j).Ay then 1 else 0):=rfl;rw[f] at d;cases b:(gt c.Ak j).Ay
      · rw[b] at d;exact Ev.ff Z d
      · rw[b] at d;exact Ev.tt Z d
  unfold qdr kindB;refine Ev.bind i ?_;simp only[qcn,qa5,jd,(qmC k g).1];have a:=b.Ar.len;refine Ev.iff (fun _=>?_) (fun _=>Ev.iff (fun _=>?_) (fun _=>Ev.iff (fun _=>?_) (fun _=>.done)))
  · exact Ev.andP fun _=>Ev.andP fun _=>Ev.last (qdo b.Az.len)
  · exact Ev.andP fun _=>Ev.andP fun _=>Ev.bind (qjA a) (Ev.andP fun _=>Ev.bind (qjA a) (Ev.bind (qjA a) .done))
  · exact Ev.andP fun _=>Ev.andP fun _=>Ev.and (qjA a) fun _=>Ev.and (qjA a) fun _=>Ev.bind (qjA a) .done
def cellB(c:qn):Bool:=
  nameB c.Am&&(pinsB c.Ak&&((allN (fun j=>arcI c.Ak (gt c.Ar j)&&newArc c.Ar j) c.Ar.length&&decide (c.Ar.length<=8))&&(inI c.Bo 0 100000&&(inI c.Bh 0 100000&&kindB c))))
theorem qn4{c:qn}(a:qip c):Ev (fun n=>qg7 n c) (cellB c):=by
  simp only[qg7,qlK a.Am,qcE,jd];unfold cellB;refine Ev.andP fun _=>Ev.and (qmL a.Ak) fun f=>?_;obtain⟨⟨d,b⟩,_⟩:=qgN f;exact Ev.and (qmX a.Ak a.Ar d) fun _=>Ev.andP fun _=>Ev.andP fun _=>Ev.last (qmw a d b)
theorem qmN{c:qn}(d:qip c):Ev (fun n=>qg6 n c) (cellB c):=by
  have p:=d.Ar.len;have r:=d.Az.len;have e:cellB c=((pinsB c.Ak&&(nameB c.Am&&(decide (c.Ar.length<=8)&&(inI c.Bo 0 100000&&inI c.Bh 0 100000))))&&(allN (fun j=>arcS c.Ak (gt c.Ar j)&&newArc c.Ar j) c.Ar.length&&kindB c)):=by
    unfold cellB;cases l:kindB c
    · simp
    · cases hp:pinsB c.Ak
      · simp
      · rw[qeK (fun j _=>by rw[qqf hp (qnS l)])]
        cases nameB c.Am<;>cases allN (fun j=>arcS c.Ak (gt c.Ar j)&&newArc c.Ar j) c.Ar.length<;>cases decide (c.Ar.length<=8)<;>cases inI c.Bo 0 100000<;>cases inI c.Bh 0 100000<;>rfl
  rw[e];unfold qg6;refine Ev.bind (qni d.Ak) ?_;cases hp:pinsB c.Ak
  · exact .done
  · obtain⟨⟨o,m⟩,_⟩:=qgN hp
    simp only[cond_true,jx,jI,cond_false];refine Ev.guardB ?_ (fun _=>?_)
    · simp only[qcR,jd,qaY]
      refine Ev.orB (qiN d.Am) fun _=>?_;rw[show decide ((c.Ar.length:Int) > 8) = !decide (c.Ar.length<=8) by rw[ji];simp;omega,qaY];exact Ev.orBP fun _=>Ev.orBP fun _=>.done
    · have g:∀j,j<c.Ar.length->Ev (fun n=>qbO c (j:Int) (gt c.Ar j) n 0) (bif newArc c.Ar j then .nxt (j:Int) else .ret false):=by
        intro j a;refine qdl ?_ (fun i hi X b=>Ev.succ ?_)
        · exact Ev.succ (by simp only[qbO,qj (je _),cond_false];exact .done)
        · simp only[qbO,qi hi,cond_true,qM (show i<c.Ar.length by omega),jd,wS i]
          unfold sameArc;cases ((gt c.Ar i).Ap==(gt c.Ar j).Ap)
          · exact b
          · cases ((gt c.Ar i).Av==(gt c.Ar j).Av)
            · exact b
            · cases ((gt c.Ar i).To==(gt c.Ar j).To)
              · exact b
              · exact .done
      have f:Ev (fun n=>qc9 c n 0) (bif allN (fun j=>arcS c.Ak (gt c.Ar j)&&newArc c.Ar j) c.Ar.length then .nxt (c.Ar.length:Int) else .ret false):=by
        refine qdl ?_ (fun j a X b=>Ev.succ ?_)
        · exact Ev.succ (by simp only[qc9,qj (je _),cond_false];exact .done)
        · simp only[qc9,qi a,cond_true,qM a,jd,wS j]
          refine Ev.chk (qnz d.Ak (qgw d.Ar a) o) fun _=>Ev.bind (g j a) ?_;cases newArc c.Ar j
          · exact .done
          · exact b
      have h:Ev (fun n=>qde c n 0) (bif (c.Az.all fun x=>inI x 0 1) then .nxt (c.Az.length:Int) else .ret false):=
        qi8 (fun n=>by simp only[qde,qj (je _),cond_false]) (fun j a X b=>by
          simp only[qde,qi a,cond_true,qgE a,jd,qcR,wS j,qaY];exact Ev.okP1 fun _=>b)
      refine Ev.bind f ?_;cases hA:allN (fun j=>arcS c.Ak (gt c.Ar j)&&newArc c.Ar j) c.Ar.length
      · exact .done
      · have l:∀j,j<c.Ar.length->1<=(gt c.Ar j).Ap/\(gt c.Ar j).Ap<=5:=fun j a=>by
          have:=qX.1 hA j a;rw[jg] at this;exact qnV this.1
        simp only[cond_true,jx];refine Ev.bind (qmx d.Ar l) ?_;simp only[(qmC o m).2,jd,
          show idx (vecC (fun k=>kindN c.Ar k c.Ar.length) 6) (1:Int)=U ((kindN c.Ar 1 c.Ar.length:Nat):Int) from qgx (k:=1) (by omega),
          show idx (vecC (fun k=>kindN c.Ar k c.Ar.length) 6) (2:Int)=U ((kindN c.Ar 2 c.Ar.length:Nat):Int) from qgx (k:=2) (by omega),
          show idx (vecC (fun k=>kindN c.Ar k c.Ar.length) 6) (3:Int)=U ((kindN c.Ar 3 c.Ar.length:Nat):Int) from qgx (k:=3) (by omega),qls,qm2]
        unfold kindB;refine Ev.iff (fun _=>?_) (fun _=>Ev.iff (fun _=>?_) (fun _=>Ev.iff (fun _=>?_) (fun _=>.done)))
        · refine Ev.bind h ?_
          cases (c.Az.all fun x=>inI x 0 1)
          · exact Ev.now (by simp)
          · exact(Ev.andP (fun _=>.done)).cast (by rw[Bool.and_true])
        · refine(Ev.andP fun _=>Ev.andP fun _=>Ev.andP fun _=>.done).cast ?_
          cases (((clkN c.Ak c.Ak.length:Nat):Int)==1)<;>cases ((c.Az.length:Int)==0)<;>cases hasB c.Ar ((1:Nat):Int)<;>cases hasB c.Ar ((2:Nat):Int)<;>cases hasB c.Ar ((3:Nat):Int)<;>rfl
        · refine(Ev.andP fun _=>Ev.andP fun _=>Ev.andP fun _=>Ev.andP fun _=>.done).cast ?_
          cases (((clkN c.Ak c.Ak.length:Nat):Int)==1)<;>cases ((c.Az.length:Int)==0)<;>cases hasB c.Ar ((1:Nat):Int)<;>cases hasB c.Ar ((2:Nat):Int)<;>cases hasB c.Ar ((3:Nat):Int)<;>rfl
def libB(l:qh):Bool:=l.Aj.all cellB&&(decide (l.Aj.length<=8)&&namesB (l.Aj.map qn.Am))
theorem qlQ{l:qh}(h:qeO l):Ev (fun n=>qfe n l) (libB l):=by
  have d:=h.Aj.len;have b:Ev (fun n=>qbf l n ([]:List ByteArray) 0) (bif allN (fun j=>cellB (gt l.Aj j)) l.Aj.length then .nxt (l.Aj.map qn.Am,(l.Aj.length:Int)) else .ret false):=by
    refine loopN (Lf:=qbf l) (S:=fun j=>(l.Aj.take j).map qn.Am) (fun j=>cellB (gt l.Aj j)) (fun n=>?_) (fun j a i X c=>?_)
    · simp only[qbf,qj (je _),cond_false,List.take_length]
    · simp only[qbf,qi a,cond_true,qM a,jd,qhp a d,qee (g:=qn.Am) a,wS j]
      exact Ev.chk1 (qn4 (qgw h.Aj a)) c
  unfold qfe libB;rw[qf1];refine Ev.bind b ?_;cases allN (fun j=>cellB (gt l.Aj j)) l.Aj.length
  · exact .done
  · simp only[cond_true,jx,show decide ((l.Aj.length:Int)<=8)=decide (l.Aj.length<=8) from qhG (k:=8)]
    exact Ev.andP fun _=>Ev.last (qfF (qim h.Aj (fun x f=>f.Am)))

theorem qm7{c:qn}(h:cellB c=true):nameB c.Am=true:=by
 unfold cellB at h;rw[jg] at h;exact h.1
theorem qk1{c:qn}(h:cellB c=true):pinsB c.Ak=true:=by
 unfold cellB at h;simp only[jg] at h;exact h.2.1
theorem qll{l:qh}(h:qeO l):Ev (fun n=>qe8 n l) (libB l):=by
 have f:=h.Aj.len;have c:∀j,j<l.Aj.length->Ev (fun n=>qbT l (j:Int) n 0) (bif allN (neB (l.Aj.map qn.Am) j) j then .nxt (j:Int) else .ret false):=by
  intro j a;refine qdl ?_ (fun i hi X d=>Ev.succ ?_)
  ·exact Ev.succ (by simp only[qbT,qj (je _),cond_false];exact .done)
  ·simp only[qbT,qi hi,cond_true,qM (show i<l.Aj.length by omega),qM a,jd,qeC,wS i];unfold neB;rw[qgs (g:=qn.Am) (show i<l.Aj.length by omega),qgs (g:=qn.Am) a];exact Ev.chkP1 (fun _=>d)
 have b:Ev (fun n=>qbW l n 0) (bif allN (fun j=>cellB (gt l.Aj j)&&allN (neB (l.Aj.map qn.Am) j) j) l.Aj.length then .nxt (l.Aj.length:Int) else .ret false):=by
  refine qdl ?_ (fun j a X d=>Ev.succ ?_)
  ·exact Ev.succ (by simp only[qbW,qj (je _),cond_false];exact .done)
  ·simp only[qbW,qi a,cond_true,qM a,jd,wS j];refine Ev.chk (qmN (qgw h.Aj a)) fun _=>Ev.bind (c j a) ?_;cases allN (neB (l.Aj.map qn.Am) j) j
   ·exact .done
   ·exact d
 have e:libB l=(allN (fun j=>cellB (gt l.Aj j)&&allN (neB (l.Aj.map qn.Am) j) j) l.Aj.length&&decide (l.Aj.length<=8)):=by
  unfold libB namesB;rw[qf1,jF,Bool.and_comm (decide (l.Aj.length<=8)),<-Bool.and_assoc,<-qho]
  congr 1
  refine qeK (fun j a=>?_);rw[qgs (g:=qn.Am) a];cases hc:cellB (gt l.Aj j)
  ·rfl
  ·rw[qm7 hc];rfl
 rw[e];unfold qe8;refine Ev.bind b ?_;cases allN (fun j=>cellB (gt l.Aj j)&&allN (neB (l.Aj.map qn.Am) j) j) l.Aj.length
 ·exact .done
 ·refine Ev.now ?_;show U (decide ((l.Aj.length:Int)<=((8:Nat):Int)))=U (true&&decide (l.Aj.length<=8));rw[qhG,jx]
theorem qhq{c c':Nat->Nat}{m:Nat}{x:Int}(b:0<=x)(h:x<m)(d:c x.toNat<9223372036854775807)(f:∀k,k<m->c' k=c k+(bif x==(k:Int) then 1 else 0)) :
  idx (vecC c m) x=U (c x.toNat:Int)/\setS (vecC c m) x (W64 ((c x.toNat:Int)+1))=vecC c' m:=by
 have a:x=(x.toNat:Int):=qjv b;have e1:=qgx (c:=c) (m:=m) (k:=x.toNat) (by omega);have e2:=qlv (c:=c) (m:=m) (k:=x.toNat) d;rw[<-a] at e1 e2;refine⟨e1,e2.trans (qgI (fun k g=>?_))⟩;rw[f k g]
 congr 2
 rw[ji];simp;omega
def netB(d:qb)(x:Int):Bool:=inI x 0 ((d.Af.length:Int)-1)
theorem qmo{n:Nat}{d:qb}{x:Int}(a:d.Af.length<=1048576):qbV n d x=U (netB d x):=by
 simp only[qbV,qeM,jd,qcE,qbN (show d.Af.length<=9223372036854775807 by omega)];rfl
theorem qlD{n:Nat}{d:qb}{x:Int}(a:d.Af.length<=1048576):qO n x 0 (W64 ((d.Af.length:Int)-1))=U (netB d x):=by
 rw[qcR,qbN (show d.Af.length<=9223372036854775807 by omega)];rfl
def hasNamesB(d:qb):Bool:=(decide (d.Aa.length<=14)&&(decide (d.Af.length<=30)&&decide (d.Ac.length<=8)))&&(namesB (d.Aa.map qd.Am)&&(namesB d.Af&&namesB (d.Ac.map qK.Am)))
theorem qme{d:qb}(h:qgv d):Ev (fun n=>qcT n d) (hasNamesB d):=by
 have i:=h.Aa.len;have l:=h.Ac.len;have b:Ev (fun n=>qax d n ([]:List ByteArray) 0) (d.Aa.map qd.Am,(d.Aa.length:Int)):=by
  refine loopF (Lf:=qax d) (S:=fun j=>(d.Aa.take j).map qd.Am) (len:=d.Aa.length) (fun n=>?_) (fun j a X f=>?_)
  ·simp only[qax,qj (je _),cond_false,List.take_length]
  ·simpa only[qax,qi a,cond_true,qM a,jd,qhp a i,qee (g:=qd.Am) a,wS j] using f
 have c:Ev (fun n=>qaw d n ([]:List ByteArray) 0) (d.Ac.map qK.Am,(d.Ac.length:Int)):=by
  refine loopF (Lf:=qaw d) (S:=fun j=>(d.Ac.take j).map qK.Am) (len:=d.Ac.length) (fun n=>?_) (fun j a X f=>?_)
  ·simp only[qaw,qj (je _),cond_false,List.take_length]
  ·simpa only[qaw,qi a,cond_true,qM a,jd,qhp a l,qee (g:=qK.Am) a,wS j] using f
 unfold qcT hasNamesB;refine Ev.bind b (Ev.bind c ?_);simp only[jF];rw[show decide ((d.Aa.length:Int)<=14)=decide (d.Aa.length<=14) from qhG (k:=14),show decide ((d.Af.length:Int)<=30)=decide (d.Af.length<=30) from qhG (k:=30),show decide ((d.Ac.length:Int)<=8)=decide (d.Ac.length<=8) from qhG (k:=8)];rw[Bool.and_assoc,Bool.and_assoc];exact Ev.andP fun _=>Ev.andP fun _=>Ev.andP fun _=>Ev.and (qfF (qim h.Aa (fun x m=>m.Am))) fun _=>Ev.and (qfF h.Af) fun _=>Ev.last (qfF (qim h.Ac (fun x m=>m.Am)))
def instB(l:qh)(d:qb)(x:qd):Bool:=inI x.Bf 0 ((l.Aj.length:Int)-1)&&(((x.Af.length:Int)==((gt l.Aj x.Bf.toNat).Ak.length:Int))&&x.Af.all (netB d))
theorem qlb{d:qb}{l:qh}{x:qd}(g:d.Af.length<=1048576)(h:l.Aj.length<=1048576)(a:x.Af.length<=1048576):Ev (fun n=>qb9 n d l x) (instB l d x):=by
 simp only[qb9,qdQ,jd,qcE,qbN (show l.Aj.length<=9223372036854775807 by omega)];unfold instB;refine Ev.andP fun c=>?_;rw[qbm] at c;rw[qeJ c.1 (by omega)];simp only[jd];refine Ev.andP fun _=>Ev.bind (b:=x.Af.any fun y=>!netB d y) ?_ (Ev.now (by rw[qke]));unfold qW;exact Ev.bind (b:=ixL (fun y=>!netB d y) x.Af) (qfI (fin:=(x.Af.length:Int)) (Lf:=qt x.Af d) (pf:=fun n y=>qbI n y d) (fun y _=>⟨0,fun n _=>by simp only[qbI,qmo g,jd]⟩)
   (fun n=>by simp only[qt,qj (je _),cond_false])
   (fun n j y a=>by
    have f:=(List.getElem?_eq_some_iff.1 a).1;simp only[qt,qi f,cond_true,qai a,jd,wS j])
   (fun n=>by unfold qak;congr 1;funext o;cases o<;>rfl)) (Ev.now (by rw[qiI]))
def portB(d:qb)(p:qK):Bool:=inI p.Bl 1 2&&netB d p.Bm
theorem qqn{x:Int}:inI x 1 2=((x==1) || (x==2)):=by
 unfold inI;rw[ji];simp;omega
def lastN(x:qd):Int:=at0 x.Af (x.Af.length-1)
theorem qmy{x:qd}(a:1<=x.Af.length)(b:x.Af.length<=1048576):idx x.Af (W64 ((x.Af.length:Int)-1))=U (lastN x):=by
 rw[qbN (by omega),show((x.Af.length:Int)-1)=((x.Af.length-1:Nat):Int) by omega,qbc (by omega)];rfl
theorem qn3{d:qb}{x:qd}(a:1<=x.Af.length)(h:x.Af.all (netB d)=true):0<=lastN x/\lastN x<d.Af.length:=by
 rw[qe9 (d:=0),qX] at h;have:=h (x.Af.length-1) (by omega);unfold netB at this;rw[qbm] at this;unfold lastN at0;omega
theorem qkQ{l:qh}{d:qb}{x:qd}(a:libB l=true)(h:instB l d x=true):1<=x.Af.length/\0<=lastN x/\lastN x<d.Af.length:=by
 unfold instB at h;simp only[jg,qbm,beq_iff_eq] at h;obtain⟨g,i,f⟩:=h;unfold libB at a;simp only[jg] at a;have c:=a.1;rw[qf1,qX] at c;have:=qgN (qk1 (c x.Bf.toNat (by omega)));have b:1<=x.Af.length:=by omega
 exact⟨b,qn3 b f⟩
def drvI(d:qb)(k j:Nat):Nat:=cntP (fun i=>lastN (gt d.Aa i)==(k:Int)) j
def drvP(d:qb)(k j:Nat):Nat:=cntP (fun i=>((gt d.Ac i).Bl==1)&&((gt d.Ac i).Bm==(k:Int))) j
def drvB(d:qb):Bool:=allN (fun k=>((drvI d k d.Aa.length+drvP d k d.Ac.length:Nat):Int)==1) d.Af.length
def designB(l:qh)(d:qb):Bool:=(libB l&&hasNamesB d)&&(d.Aa.all (instB l d)&&(d.Ac.all (portB d)&&drvB d))
theorem qlE{d:qb}{k j:Nat}:drvI d k (j+1)=drvI d k j+(bif lastN (gt d.Aa j)==(k:Int) then 1 else 0):=rfl
theorem qio{d:qb}{k j:Nat}:drvP d k (j+1)=drvP d k j+(bif ((gt d.Ac j).Bl==1)&&((gt d.Ac j).Bm==(k:Int)) then 1 else 0):=rfl
theorem qmi{l:qh}{d:qb}(h:qeO l)(g:qgv d):Ev (fun n=>qfx n l d) (designB l d):=by
 have H:=g.Aa.len;have I:=g.Ac.len;have i:=g.Af.len;have u:=h.Aj.len;unfold qfx designB;refine Ev.guardB (Ev.or (qlQ h) fun _=>Ev.neg (qme g)) fun v=>?_;rw[jg] at v;rw[qir (m:=d.Af.length) (by omega)];simp only[jd];have s:Ev (fun n=>qbE l d n (vecC (fun _=>0) d.Af.length) 0) (bif allN (fun j=>instB l d (gt d.Aa j)) d.Aa.length then .nxt (vecC (fun k=>drvI d k d.Aa.length) d.Af.length,(d.Aa.length:Int)) else .ret false):=by
  refine loopN (Lf:=qbE l d) (S:=fun j=>vecC (fun k=>drvI d k j) d.Af.length) (fun j=>instB l d (gt d.Aa j)) (fun n=>?_) (fun j a J X f=>?_)
  ·simp only[qbE,qj (je _),cond_false]
  ·simp only[qbE,qi a,cond_true,qM a,jd,wS j];have p:=(qgw g.Aa a).Af.len;refine Ev.chk1 (qlb i u p) fun hi=>?_;obtain⟨r,A,B⟩:=qkQ v.1 hi;have K:drvI d (lastN (gt d.Aa j)).toNat j<=j:=qdV;obtain⟨e1,e2⟩:=qhq (c:=fun k=>drvI d k j) (c':=fun k=>drvI d k (j+1)) A B (by show drvI _ _ _<_;omega) (fun k _=>qlE);simp only[qmy r p,jd,e1,e2];exact f hi
 have t:Ev (fun n=>qbb d n (vecC (fun k=>drvI d k d.Aa.length) d.Af.length) 0) (bif allN (fun j=>portB d (gt d.Ac j)) d.Ac.length then .nxt (vecC (fun k=>drvI d k d.Aa.length+drvP d k d.Ac.length) d.Af.length,(d.Ac.length:Int)) else .ret false):=by
  refine loopN (Lf:=qbb d) (S:=fun j=>vecC (fun k=>drvI d k d.Aa.length+drvP d k j) d.Af.length) (fun j=>portB d (gt d.Ac j)) (fun n=>?_) (fun j a J X f=>?_)
  ·simp only[qbb,qj (je _),cond_false]
  ·simp only[qbb,qi a,cond_true,qM a,jd,qmo i,bne,wS j];refine Ev.chkT1 ?_ fun hi=>?_
   ·unfold portB;rw[qqn];cases ((gt d.Ac j).Bl==1)<;>cases ((gt d.Ac j).Bl==2)<;>exact .done
   ·have f:=f hi;unfold portB netB at hi;simp only[jg,qbm] at hi;have C:drvI d (gt d.Ac j).Bm.toNat d.Aa.length<=d.Aa.length:=qdV;have D:drvP d (gt d.Ac j).Bm.toNat j<=j:=qdV;cases r:((gt d.Ac j).Bl==1)
    ·have:vecC (fun k=>drvI d k d.Aa.length+drvP d k (j+1)) d.Af.length=vecC (fun k=>drvI d k d.Aa.length+drvP d k j) d.Af.length:=by
      refine qgI (fun k _=>?_);rw[qio,r];rfl
     rw[this] at f;exact f
    ·obtain⟨e1,e2⟩:=qhq (c:=fun k=>drvI d k d.Aa.length+drvP d k j) (c':=fun k=>drvI d k d.Aa.length+drvP d k (j+1)) (x:=(gt d.Ac j).Bm) (m:=d.Af.length) hi.2.1 (by omega) (by show drvI _ _ _+drvP _ _ _<_;omega) (fun k _=>by rw[qio,r,jx];omega);simp only[cond_true,jd,e1,e2];exact f
 rw[qf1,qf1];refine Ev.bind s ?_;cases allN (fun j=>instB l d (gt d.Aa j)) d.Aa.length
 ·exact .done
 ·refine Ev.bind t ?_;cases allN (fun j=>portB d (gt d.Ac j)) d.Ac.length
  ·exact .done
  ·simp only[cond_true,jx];unfold qaN;refine Ev.bind (b:=(vecC (fun k=>drvI d k d.Aa.length+drvP d k d.Ac.length) d.Af.length).any fun x=>!(x==1)) (Ev.bind (b:=ixL (fun x=>!(x==1)) (vecC (fun k=>drvI d k d.Aa.length+drvP d k d.Ac.length) d.Af.length)) (qfI (fin:=(((vecC (fun k=>drvI d k d.Aa.length+drvP d k d.Ac.length) d.Af.length).length:Nat):Int)) (Lf:=qG (vecC (fun k=>drvI d k d.Aa.length+drvP d k d.Ac.length) d.Af.length)) (pf:=fun n y=>qf2 n y) (fun y _=>.done)
    (fun n=>by simp only[qG,qj (je _),cond_false])
    (fun n j y z=>by
     have a:=(List.getElem?_eq_some_iff.1 z).1;have:j<d.Af.length:=by rw[qil] at a;exact a
     simp only[qG,qi a,cond_true,qai z,jd,wS j])
    (fun n=>by unfold qaZ;congr 1;funext o;cases o<;>rfl)) (Ev.now (by rw[qiI]))) (Ev.now ?_)
   rw[qke,qe9 (d:=0),qil];unfold drvB
   congr 1
   exact qeK (fun k F=>by
    have:=qmH (c:=fun k=>drvI d k d.Aa.length+drvP d k d.Ac.length) F;unfold at0 at this;rw[this])
theorem qmg{l:qh}{d:qb}(h:qeO l)(f:qgv d):Ev (fun n=>qfA n l d) (d.Aa.all (instB l d)&&d.Ac.all (portB d)):=by
 have r:=f.Aa.len;have s:=f.Ac.len;have c:=f.Af.len;have p:=h.Aj.len;have i:∀x:qd,x.Af.length<=1048576->Ev (fun n=>qcf d x n 0) (bif x.Af.all (netB d) then .nxt (x.Af.length:Int) else .ret false):=fun x t=>
  qi8 (fun n=>by simp only[qcf,qj (je _),cond_false]) (fun j a X b=>by
   simp only[qcf,qi a,cond_true,qgE a,jd,qlD c,wS j,qaY];exact Ev.okP1 fun _=>b)
 have g:Ev (fun n=>qcp l d n 0) (bif allN (fun j=>instB l d (gt d.Aa j)) d.Aa.length then .nxt (d.Aa.length:Int) else .ret false):=by
  refine qdl ?_ (fun j a X b=>Ev.succ ?_)
  ·exact Ev.succ (by simp only[qcp,qj (je _),cond_false];exact .done)
  ·simp only[qcp,qi a,cond_true,qM a,jd,qcR,qbN (show l.Aj.length<=9223372036854775807 by omega),wS j,bne];have m:=(qgw f.Aa a).Af.len;unfold instB;rw[<-Bool.and_assoc];refine Ev.chkT ?_ fun _=>Ev.bind (i _ m) ?_
   ·simp only[qaY];refine Ev.orBP fun o=>?_;rw[qbm] at o;rw[qeJ o.1 (by omega)];exact .done
   ·cases (gt d.Aa j).Af.all (netB d)
    ·exact .done
    ·exact b
 have k:Ev (fun n=>qcq d n 0) (bif allN (fun j=>portB d (gt d.Ac j)) d.Ac.length then .nxt (d.Ac.length:Int) else .ret false):=by
  refine qdl ?_ (fun j a X b=>Ev.succ ?_)
  ·exact Ev.succ (by simp only[qcq,qj (je _),cond_false];exact .done)
  ·simp only[qcq,qi a,cond_true,qM a,jd,qlD c,wS j];simp only[qcR,jd,qaY];unfold portB;exact Ev.okP fun _=>Ev.okP1 fun _=>b
 unfold qfA;rw[qf1,qf1];refine Ev.bind g ?_;cases allN (fun j=>instB l d (gt d.Aa j)) d.Aa.length
 ·exact .done
 ·refine Ev.bind k ?_;cases allN (fun j=>portB d (gt d.Ac j)) d.Ac.length<;>exact .done
theorem qja{l:qh}{d:qb}(h:qeO l)(i:qgv d):Ev (fun n=>qeB n l d) (designB l d):=by
 have I:=i.Aa.len;have J:=i.Ac.len;have T:=i.Af.len;have R:=h.Aj.len;have e:designB l d=((libB l&&(decide (d.Aa.length<=14)&&(decide (d.Af.length<=30)&&(decide (d.Ac.length<=8)&&(d.Aa.all (instB l d)&&d.Ac.all (portB d))))))&&((namesB (d.Aa.map qd.Am)&&(namesB (d.Ac.map qK.Am)&&namesB d.Af))&&drvB d)):=by
  unfold designB hasNamesB;generalize libB l=a1;generalize decide (d.Aa.length<=14)=a2;generalize decide (d.Af.length<=30)=a3;generalize decide (d.Ac.length<=8)=a4;generalize d.Aa.all (instB l d)=a5;generalize d.Ac.all (portB d)=a6;generalize namesB (d.Aa.map qd.Am)=a7;generalize namesB (d.Ac.map qK.Am)=a8;generalize namesB d.Af=a9;generalize drvB d=a10;rw[ji];simp only[jg];constructor
  ·rintro⟨⟨f,⟨p,r,t⟩,y,A,z⟩,u,v,o⟩;exact⟨⟨f,p,r,t,u,v⟩,⟨y,z,A⟩,o⟩
  ·rintro⟨⟨f,p,r,t,u,v⟩,⟨y,z,A⟩,o⟩;exact⟨⟨f,⟨p,r,t⟩,y,A,z⟩,u,v,o⟩
 rw[e];unfold qeB;refine Ev.guardB ?_ fun O=>?_
 ·refine Ev.or (qll h) fun _=>?_;rw[show decide ((d.Aa.length:Int) > 14) = !decide (d.Aa.length<=14) by rw[ji];simp;omega,show decide ((d.Af.length:Int) > 30) = !decide (d.Af.length<=30) by rw[ji];simp;omega,show decide ((d.Ac.length:Int) > 8) = !decide (d.Ac.length<=8) by rw[ji];simp;omega];simp only[qaY];exact Ev.orBP fun _=>Ev.orBP fun _=>Ev.orBP fun _=>Ev.neg (qmg h i)
 ·simp only[jg] at O;obtain⟨s,_,_,_,M,N⟩:=O;rw[qf1,qX] at M N;have B:Ev (fun n=>qbH d n ([]:List ByteArray) 0) (d.Aa.map qd.Am,(d.Aa.length:Int)):=by
   refine loopF (Lf:=qbH d) (S:=fun j=>(d.Aa.take j).map qd.Am) (len:=d.Aa.length) (fun n=>?_) (fun j a X b=>?_)
   ·simp only[qbH,qj (je _),cond_false,List.take_length]
   ·simpa only[qbH,qi a,cond_true,qM a,jd,qhp a I,qee (g:=qd.Am) a,wS j] using b
  have C:Ev (fun n=>qbC d n ([]:List ByteArray) 0) (d.Ac.map qK.Am,(d.Ac.length:Int)):=by
   refine loopF (Lf:=qbC d) (S:=fun j=>(d.Ac.take j).map qK.Am) (len:=d.Ac.length) (fun n=>?_) (fun j a X b=>?_)
   ·simp only[qbC,qj (je _),cond_false,List.take_length]
   ·simpa only[qbC,qi a,cond_true,qM a,jd,qhp a J,qee (g:=qK.Am) a,wS j] using b
  have D:Ev (fun n=>qbD d n (vecC (fun _=>0) d.Af.length) 0) (vecC (fun k=>drvI d k d.Aa.length) d.Af.length,(d.Aa.length:Int)):=by
   refine loopF (Lf:=qbD d) (S:=fun j=>vecC (fun k=>drvI d k j) d.Af.length) (len:=d.Aa.length) (fun n=>?_) (fun j a X b=>?_)
   ·simp only[qbD,qj (je _),cond_false]
   ·have L:=(qgw i.Aa a).Af.len;obtain⟨f,p,r⟩:=qkQ s (M j a);have W:drvI d (lastN (gt d.Aa j)).toNat j<=j:=qdV;obtain⟨e1,e2⟩:=qhq (c:=fun k=>drvI d k j) (c':=fun k=>drvI d k (j+1)) p r (by show drvI _ _ _<_;omega) (fun k _=>qlE);simpa only[qbD,qi a,cond_true,qM a,jd,wS j,qmy f L,e1,e2] using b
  have F:Ev (fun n=>qa7 d n (vecC (fun k=>drvI d k d.Aa.length) d.Af.length) 0) (vecC (fun k=>drvI d k d.Aa.length+drvP d k d.Ac.length) d.Af.length,(d.Ac.length:Int)):=by
   refine loopF (Lf:=qa7 d) (S:=fun j=>vecC (fun k=>drvI d k d.Aa.length+drvP d k j) d.Af.length) (len:=d.Ac.length) (fun n=>?_) (fun j a X b=>?_)
   ·simp only[qa7,qj (je _),cond_false]
   ·have hi:=N j a;unfold portB netB at hi;simp only[jg,qbm] at hi;have P:drvI d (gt d.Ac j).Bm.toNat d.Aa.length<=d.Aa.length:=qdV;have Q:drvP d (gt d.Ac j).Bm.toNat j<=j:=qdV;simp only[qa7,qi a,cond_true,qM a,jd,wS j];cases f:((gt d.Ac j).Bl==1)
    ·have:vecC (fun k=>drvI d k d.Aa.length+drvP d k (j+1)) d.Af.length=vecC (fun k=>drvI d k d.Aa.length+drvP d k j) d.Af.length:=by
      refine qgI (fun k _=>?_);rw[qio,f];rfl
     rw[this] at b;exact b
    ·obtain⟨e1,e2⟩:=qhq (c:=fun k=>drvI d k d.Aa.length+drvP d k j) (c':=fun k=>drvI d k d.Aa.length+drvP d k (j+1)) (x:=(gt d.Ac j).Bm) (m:=d.Af.length) hi.2.1 (by omega) (by show drvI _ _ _+drvP _ _ _<_;omega) (fun k _=>by rw[qio,f,jx];omega);simp only[cond_true,jd,e1,e2];exact b
  have H:Ev (fun n=>qco (vecC (fun _=>0) d.Af.length) (vecC (fun k=>drvI d k d.Aa.length+drvP d k d.Ac.length) d.Af.length) n 0) (bif drvB d then .nxt (d.Af.length:Int) else .ret false):=by
   refine qdl ?_ (fun j a X b=>Ev.succ ?_)
   ·exact Ev.succ (by simp only[qco,qil,qj (je _),cond_false];exact .done)
   ·simp only[qco,qil,qi a,cond_true,qgx a,jd,bne,qaY,wS j];exact Ev.okP1 fun _=>b
  refine Ev.bind B (Ev.bind C ?_);refine Ev.guardB (Ev.or (qh7 (qim i.Aa (fun x K=>K.Am))) fun _=>Ev.or (qh7 (qim i.Ac (fun x K=>K.Am))) fun _=>Ev.neg (qh7 i.Af)) fun _=>?_;rw[qir (m:=d.Af.length) (by omega)];simp only[jd];refine Ev.bind D (Ev.bind F (Ev.bind H ?_));cases drvB d<;>exact .done

theorem qpu{m k:Nat}:decide ((m:Int)<(k:Int)) = !decide (k<=m):=by rw[ji];simp
theorem qnn{m k:Nat}:decide ((m:Int) > (k:Int)) = !decide (m<=k):=by rw[ji];simp
def treeB(w:qD)(j:Nat):Bool:=bif decide (j=0) then(at0 w.Ai j==-1)&&(at0 w.Bn j==0) else inI (at0 w.Ai j) 0 ((j:Int)-1)
def wireB(w:qD)(s:Int):Bool:=
 lenB w.Ai 1 8&&(((w.Bn.length:Int)==(w.Ai.length:Int))&&(((w.Bj.length:Int)==(w.Ai.length:Int))&&(allN (treeB w) w.Ai.length &&
  ((w.Bn.all fun x=>inI x 0 1000)&&((w.Bj.all fun x=>inI x 0 500)&&(((w.Bc.length:Int)==s)&&(w.Bc.all fun x=>inI x 0 ((w.Ai.length:Int)-1))))))))
theorem qnG{w:qD}(g:w.Ai.length<=1048576)(f:((w.Bn.length:Int)==(w.Ai.length:Int))=true):Ev (fun n=>qen n w) (allN (treeB w) w.Ai.length):=by
 rw[beq_iff_eq] at f;have d:Ev (fun n=>qat w n 0) (bif allN (treeB w) w.Ai.length then .nxt (w.Ai.length:Int) else .ret false):=by
  refine qdl ?_ (fun j b X a=>Ev.succ ?_)
  ·exact Ev.succ (by simp only[qat,qj (je _),cond_false];exact .done)
  ·simp only[qat,qi b,cond_true,qbc b,jd,qcE,wS j,bne,qaY];unfold treeB;by_cases c:j=0
   ·subst c;rw[show idx w.Bn (0:Int)=U (at0 w.Bn 0) from qbc (j:=0) (by omega)];simp only[jd];refine Ev.tt (by simp) (Ev.okP fun _=>Ev.okP1 fun _=>Ev.ff (by simp) a)
   ·have e1:decide (j=0)=false:=by simp;omega
    have e2:((j:Int)==0)=false:=by simp;omega
    have e3:decide ((j:Int) > 0)=true:=by simp;omega
    rw[e1,e2,e3,qbN (show j<=9223372036854775807 by omega)];simp only[cond_false,cond_true];exact Ev.okP1 fun _=>a
 unfold qen;refine Ev.bind d ?_;cases allN (treeB w) w.Ai.length<;>exact .done
theorem qnJ{w:qD}{s:Int}(h:qjg w):Ev (fun n=>qgV n w s) (wireB w s):=by
 have a:=h.Ai.len;simp only[qgV,qaz,jd,qcE,qbN (show w.Ai.length<=9223372036854775807 by omega)];unfold wireB;rw[show inI (w.Ai.length:Int) 1 8=lenB w.Ai 1 8 from qlV (lo:=1) (hi:=8)];exact Ev.andP fun _=>Ev.andP fun b=>Ev.andP fun _=>Ev.and (qnG a b) fun _=>Ev.and (qdo h.Bn.len) fun _=>Ev.and (qdo h.Bj.len) fun _=>Ev.andP fun _=>Ev.last (qdo h.Bc.len)
theorem qmT{w:qD}{s:Int}(h:qjg w):Ev (fun n=>qg0 n w s) (wireB w s):=by
 have m:=h.Ai.len;have l:=h.Bc.len;have e:wireB w s=((decide (1<=w.Ai.length)&&(decide (w.Ai.length<=8)&&(((w.Bn.length:Int)==(w.Ai.length:Int))&&(((w.Bj.length:Int)==(w.Ai.length:Int))&&((w.Bc.length:Int)==s)))))&&(allN (fun j=>(inI (at0 w.Bj j) 0 500&&inI (at0 w.Bn j) 0 1000)&&treeB w j) w.Ai.length&&(w.Bc.all fun x=>inI x 0 ((w.Ai.length:Int)-1)))):=by
  unfold wireB lenB;cases h1:((w.Bn.length:Int)==(w.Ai.length:Int))
  ·simp
  ·cases h2:((w.Bj.length:Int)==(w.Ai.length:Int))
   ·simp
   ·rw[beq_iff_eq] at h1 h2;rw[qho,qho];rw[qe9 (p:=fun x=>inI x 0 1000) (d:=0),qe9 (p:=fun x=>inI x 0 500) (d:=0),show w.Bn.length=w.Ai.length by omega,show w.Bj.length=w.Ai.length by omega];show _=(_&&((allN (fun j=>inI (w.Bj.getD j 0) 0 500) _&&allN (fun j=>inI (w.Bn.getD j 0) 0 1000) _&&_)&&_));generalize allN (fun j=>inI (w.Bj.getD j 0) 0 500) w.Ai.length=a1;generalize allN (fun j=>inI (w.Bn.getD j 0) 0 1000) w.Ai.length=a2;generalize allN (fun j=>treeB w j) w.Ai.length=a3;generalize ((w.Bc.length:Int)==s)=a4;generalize decide (1<=w.Ai.length)=a5;generalize decide (w.Ai.length<=8)=a6;generalize (w.Bc.all fun x=>inI x 0 ((w.Ai.length:Int)-1))=a7;cases a1<;>cases a2<;>cases a3<;>cases a4<;>cases a5<;>cases a6<;>rfl
 rw[e];unfold qg0;refine Ev.guardB ?_ fun i=>?_
 ·rw[show decide ((w.Ai.length:Int)<1) = !decide (1<=w.Ai.length) from qpu (k:=1),show decide ((w.Ai.length:Int) > 8) = !decide (w.Ai.length<=8) from qnn (k:=8)];simp only[bne,qaY];exact Ev.orBP fun _=>Ev.orBP fun _=>Ev.orBP fun _=>Ev.orBP fun _=>.done
 ·simp only[jg,beq_iff_eq] at i;have c:Ev (fun n=>qbj w n 0) (bif allN (fun j=>(inI (at0 w.Bj j) 0 500&&inI (at0 w.Bn j) 0 1000)&&treeB w j) w.Ai.length then .nxt (w.Ai.length:Int) else .ret false):=by
   refine qdl ?_ (fun j a X b=>Ev.succ ?_)
   ·exact Ev.succ (by simp only[qbj,qj (je _),cond_false];exact .done)
   ·simp only[qbj,qi a,cond_true,qbc a,qbc (show j<w.Bj.length by omega),qbc (show j<w.Bn.length by omega),jd,qcR,wS j,bne,qaY];refine Ev.chkT (Ev.orBP fun _=>.done) fun _=>?_;unfold treeB;by_cases g:j=0
    ·subst g;refine Ev.tt (by simp) (Ev.okP fun _=>Ev.okP1 fun _=>Ev.ff (by simp) b)
    ·have e1:decide (j=0)=false:=by simp;omega
     have e2:((j:Int)==0)=false:=by simp;omega
     have e3:decide ((j:Int) > 0)=true:=by simp;omega
     rw[e1,e2,e3,qbN (show j<=9223372036854775807 by omega)];simp only[cond_false,cond_true];exact Ev.okP1 fun _=>b
  have f:Ev (fun n=>qdi w n 0) (bif (w.Bc.all fun x=>inI x 0 ((w.Ai.length:Int)-1)) then .nxt (w.Bc.length:Int) else .ret false):=
   qi8 (fun n=>by simp only[qdi,qj (je _),cond_false]) (fun j a X b=>by
    simp only[qdi,qi a,cond_true,qgE a,jd,qcR,qbN (show w.Ai.length<=9223372036854775807 by omega),wS j,qaY];exact Ev.okP1 fun _=>b)
  refine Ev.bind c ?_;cases allN (fun j=>(inI (at0 w.Bj j) 0 500&&inI (at0 w.Bn j) 0 1000)&&treeB w j) w.Ai.length
  ·exact .done
  ·refine Ev.bind f ?_;cases (w.Bc.all fun x=>inI x 0 ((w.Ai.length:Int)-1))<;>exact .done
instance:Inhabited Tplace:=⟨⟨0,0,0,false⟩⟩
instance:Inhabited Tl05Place:=⟨⟨0,0,0,false⟩⟩
def toSp(p:Tplace):Tl05Place:=⟨p.instance_,p.pin,p.net,p.drives⟩
def plX(i:Nat)(x:qd)(j:Nat):List Tplace:=(List.range j).map fun(k:Nat)=>⟨(i:Int),(k:Int),at0 x.Af k,decide (k+1=x.Af.length)⟩
def plI(d:qb)(j:Nat):List Tplace:=(List.range j).flatMap fun(i:Nat)=>plX i (gt d.Aa i) (gt d.Aa i).Af.length
def plP(d:qb)(j:Nat):List Tplace:=(List.range j).map fun(i:Nat)=>⟨-1,(i:Int),(gt d.Ac i).Bm,(gt d.Ac i).Bl==1⟩
def places(d:qb):List Tplace:=plI d d.Aa.length++plP d d.Ac.length
theorem qmG{i:Nat}{x:qd}{j:Nat}:plX i x (j+1)=plX i x j++[⟨(i:Int),(j:Int),at0 x.Af j,decide (j+1=x.Af.length)⟩]:=by
 unfold plX;rw[List.range_succ,List.map_append];rfl
theorem qh3{d:qb}{j:Nat}:plI d (j+1)=plI d j++plX j (gt d.Aa j) (gt d.Aa j).Af.length:=by
 unfold plI;rw[List.range_succ,List.flatMap_append];simp
theorem qml{d:qb}{j:Nat}:plP d (j+1)=plP d j++[⟨-1,(j:Int),(gt d.Ac j).Bm,(gt d.Ac j).Bl==1⟩]:=by
 unfold plP;rw[List.range_succ,List.map_append];rfl
theorem qkg{i:Nat}{x:qd}{j:Nat}:(plX i x j).length=j:=by simp[plX]
theorem qkh{d:qb}{j:Nat}:(plP d j).length=j:=by simp[plP]
structure smallD(d:qb):Prop where
 ni:d.Aa.length<=14
 nn:d.Af.length<=30
 np:d.Ac.length<=8
 nx:∀i,i<d.Aa.length->2<=(gt d.Aa i).Af.length/\(gt d.Aa i).Af.length<=5
theorem qbK{l:qh}{d:qb}(h:designB l d=true):smallD d:=by
 unfold designB hasNamesB libB at h;simp only[jg,decide_eq_true_eq] at h;obtain⟨⟨⟨b,_⟩,⟨c,f,g⟩,_⟩,a,_⟩:=h;refine⟨c,f,g,fun i hi=>?_⟩;rw[qf1,qX] at a b;have:=a i hi;unfold instB at this;simp only[jg,qbm,beq_iff_eq] at this;have k:=qgN (qk1 (b (gt d.Aa i).Bf.toNat (by omega)));omega
theorem qi5{d:qb}(h:smallD d){j:Nat}(a:j<=d.Aa.length):(plI d j).length<=5*j:=by
 induction j with
 |zero=>exact je _
 |succ j ih=>
  rw[qh3,jl,qkg];have:=ih (by omega);have:=h.nx j (by omega);omega
theorem qdn{d:qb}(h:smallD d):(places d).length<=78:=by
 unfold places;rw[jl,qkh];have:=qi5 h (je _);have:=h.ni;have:=h.np;omega
theorem qiq{d:qb}(h:smallD d):Ev (fun n=>qa4 n d) (places d):=by
 have l:=h.ni;have m:=h.np;have f:∀i,i<d.Aa.length->∀pre:List Tplace,pre.length<=100->Ev (fun n=>qaJ (i:Int) (gt d.Aa i) n pre 0) (pre++plX i (gt d.Aa i) (gt d.Aa i).Af.length,((gt d.Aa i).Af.length:Int)):=by
  intro i hi pre p;have o:=h.nx i hi;have:=loopF (Lf:=qaJ (i:Int) (gt d.Aa i)) (S:=fun j=>pre++plX i (gt d.Aa i) j) (len:=(gt d.Aa i).Af.length) (fin:=(pre++plX i (gt d.Aa i) (gt d.Aa i).Af.length,((gt d.Aa i).Af.length:Int))) (fun n=>by
    simp only[qaJ,qj (je _),cond_false])
   (fun j a X b=>by
    have k:(pre++plX i (gt d.Aa i) j).length+[(⟨(i:Int),(j:Int),at0 (gt d.Aa i).Af j,decide (j+1=(gt d.Aa i).Af.length)⟩:Tplace)].length<=2147483648:=by
     rw[jl,qkg];simp;omega
    simp only[qaJ,qi a,cond_true,qbc a,jd,lastE a (show(gt d.Aa i).Af.length<=1048576 by omega),qds k,jG,<-qmG,wS j];exact b)
  simpa [plX] using this
 have c:Ev (fun n=>qaK d n ([]:List Tplace) 0) (plI d d.Aa.length,(d.Aa.length:Int)):=by
  refine loopF (Lf:=qaK d) (S:=fun j=>plI d j) (len:=d.Aa.length) (fun n=>?_) (fun j a X b=>?_)
  ·simp only[qaK,qj (je _),cond_false]
  ·simp only[qaK,qi a,cond_true,qM a,jd,wS j];refine Ev.bind (f j a _ (by have:=qi5 h (Nat.le_of_lt a);omega)) ?_;rw[<-qh3];exact b
 have g:Ev (fun n=>qaL d n (plI d d.Aa.length) 0) (places d,(d.Ac.length:Int)):=by
  have:=loopF (Lf:=qaL d) (S:=fun j=>plI d d.Aa.length++plP d j) (len:=d.Ac.length) (fin:=(places d,(d.Ac.length:Int))) (fun n=>by
    simp only[qaL,qj (je _),cond_false];rfl)
   (fun j a X b=>by
    have k:(plI d d.Aa.length++plP d j).length+[(⟨-1,(j:Int),(gt d.Ac j).Bm,(gt d.Ac j).Bl==1⟩:Tplace)].length<=2147483648:=by
     rw[jl,qkh];have:=qi5 h (je _);simp;omega
    simp only[qaL,qi a,cond_true,qM a,jd,qds k,jG,<-qml,wS j];exact b)
  simpa [plP] using this
 unfold qa4;exact Ev.bind c (Ev.bind g .done)
theorem qiO{d:qb}(h:smallD d):Ev (fun n=>qdj n d) ((places d).map toSp):=by
 have l:=h.ni;have m:=h.np;have f:∀i,i<d.Aa.length->∀pre:List Tplace,pre.length<=100->Ev (fun n=>qbn (i:Int) (gt d.Aa i) n (pre.map toSp) 0) ((pre++plX i (gt d.Aa i) (gt d.Aa i).Af.length).map toSp,((gt d.Aa i).Af.length:Int)):=by
  intro i hi pre p;have o:=h.nx i hi;have:=loopF (Lf:=qbn (i:Int) (gt d.Aa i)) (S:=fun j=>(pre++plX i (gt d.Aa i) j).map toSp) (len:=(gt d.Aa i).Af.length) (fin:=((pre++plX i (gt d.Aa i) (gt d.Aa i).Af.length).map toSp,((gt d.Aa i).Af.length:Int))) (fun n=>by
    simp only[qbn,qj (je _),cond_false])
   (fun j a X b=>by
    have k:((pre++plX i (gt d.Aa i) j).map toSp).length+[(⟨(i:Int),(j:Int),at0 (gt d.Aa i).Af j,decide (j+1=(gt d.Aa i).Af.length)⟩:Tl05Place)].length<=2147483648:=by
     rw[jF,jl,qkg];simp;omega
    simp only[qbn,qi a,cond_true,qbc a,jd,lastE a (show(gt d.Aa i).Af.length<=1048576 by omega),qds k,wS j];rw[qmG,<-jG,List.map_append] at b;exact b)
  simpa [plX] using this
 have c:Ev (fun n=>qbk d n ([]:List Tl05Place) 0) ((plI d d.Aa.length).map toSp,(d.Aa.length:Int)):=by
  refine loopF (Lf:=qbk d) (S:=fun j=>(plI d j).map toSp) (len:=d.Aa.length) (fun n=>?_) (fun j a X b=>?_)
  ·simp only[qbk,qj (je _),cond_false]
  ·simp only[qbk,qi a,cond_true,qM a,jd,wS j];refine Ev.bind (f j a _ (by have:=qi5 h (Nat.le_of_lt a);omega)) ?_;rw[<-qh3];exact b
 have g:Ev (fun n=>qbi d n ((plI d d.Aa.length).map toSp) 0) ((places d).map toSp,(d.Ac.length:Int)):=by
  have:=loopF (Lf:=qbi d) (S:=fun j=>(plI d d.Aa.length++plP d j).map toSp) (len:=d.Ac.length) (fin:=((places d).map toSp,(d.Ac.length:Int))) (fun n=>by
    simp only[qbi,qj (je _),cond_false];rfl)
   (fun j a X b=>by
    have k:((plI d d.Aa.length++plP d j).map toSp).length+[(⟨-1,(j:Int),(gt d.Ac j).Bm,(gt d.Ac j).Bl==1⟩:Tl05Place)].length<=2147483648:=by
     rw[jF,jl,qkh];have:=qi5 h (je _);simp;omega
    simp only[qbi,qi a,cond_true,qM a,jd,qds k,wS j];rw[qml,<-jG,List.map_append] at b;exact b)
  simpa [plP] using this
 unfold qdj;exact Ev.bind c (Ev.bind g .done)
def snkQ(d:qb)(k:Int)(i:Nat):Bool:=((gt (places d) i).net==k)&&!(gt (places d) i).drives
def sinksL(d:qb)(k:Int)(j:Nat):List Int:=((List.range j).filter (snkQ d k)).map fun(i:Nat)=>(i:Int)
def snkN(d:qb)(k:Int):Nat:=cntP (snkQ d k) (places d).length
theorem qij{d:qb}{k:Int}{j:Nat}:sinksL d k (j+1)=sinksL d k j++(bif snkQ d k j then[(j:Int)] else[]):=by
 unfold sinksL;rw[List.range_succ,List.filter_append,List.map_append]
 congr 1
 cases h:snkQ d k j<;>simp[h]
theorem qfq{d:qb}{k:Int}{j:Nat}:(sinksL d k j).length=cntP (snkQ d k) j:=by
 induction j with
 |zero=>rfl
 |succ j ih=>
  rw[qij,jl,ih];show _=cntP (snkQ d k) j+_
  congr 1
  cases snkQ d k j<;>rfl
theorem qog{α β:Type}[Inhabited α][Inhabited β]{xs:List α}{g:α->β}{j:Nat}(h:j<xs.length):gt (xs.map g) j=g (gt xs j):=by
 rw[qiE (by simpa using h),qiE h];simp
theorem qmE{d:qb}{k:Int}(h:smallD d):Ev (fun n=>qfB n d k) (sinksL d k (places d).length):=by
 have l:=qdn h;have g:Ev (fun n=>qa9 k ((places d).map toSp) n ([]:List Int) 0) (sinksL d k (places d).length,((places d).length:Int)):=by
  refine loopF (Lf:=qa9 k ((places d).map toSp)) (S:=fun j=>sinksL d k j) (len:=(places d).length) (fun n=>?_) (fun j f X a=>?_)
  ·simp only[qa9,jF,qj (je _),cond_false]
  ·have c:j<((places d).map toSp).length:=by simpa using f
   have i:(sinksL d k j).length+[(j:Int)].length<=2147483648:=by
    rw[qfq];have:cntP (snkQ d k) j<=j:=qdV;simp;omega
   simp only[qa9,qi c,cond_true,qM c,qog f,jd,wS j];rw[show ∀p:Tplace,(toSp p).net=p.net from fun _=>rfl,show ∀p:Tplace,(toSp p).drives=p.drives from fun _=>rfl];refine Ev.bind (b:=snkQ d k j) (Ev.andP fun _=>.done) ?_;rw[qij] at a;cases hq:snkQ d k j
   ·rw[hq] at a;simp only[cond_false,List.append_nil] at a⊢;exact a
   ·rw[hq] at a;simp only[cond_true,qds i,jd] at a⊢;exact a
 unfold qfB;exact Ev.bind (qiO h) (Ev.bind g .done)
theorem qky{l:qh}{d:qb}(h:designB l d=true){i:Nat}(hi:i<(places d).length):0<=(gt (places d) i).net/\(gt (places d) i).net<d.Af.length:=by
 unfold designB at h;simp only[jg] at h;obtain⟨_,f,g,_⟩:=h;rw[qf1,qX] at f g;have a:gt (places d) i∈places d:=by rw[qiE hi];exact jt hi
 generalize gt (places d) i=p at a;unfold places at a;rcases List.mem_append.1 a with a|a
 ·unfold plI at a;obtain⟨i,hi,a⟩:=List.mem_flatMap.1 a;unfold plX at a;obtain⟨k,m,rfl⟩:=List.mem_map.1 a;have:=f i (List.mem_range.1 hi);unfold instB at this;simp only[jg] at this;have b:=this.2.2;rw[qe9 (d:=0),qX] at b;have c:=b k (List.mem_range.1 m);unfold netB at c;rw[qbm] at c;show 0<=at0 _ _/\at0 _ _<_;unfold at0;omega
 ·unfold plP at a;obtain⟨i,hi,rfl⟩:=List.mem_map.1 a;have:=g i (List.mem_range.1 hi);unfold portB netB at this;simp only[jg,qbm] at this;show 0<=(gt d.Ac i).Bm/\(gt d.Ac i).Bm<_;omega
def blockB(b:qm):Bool:=(designB b.Aq b.Ab&&((b.Ah.length:Int)==(b.Ab.Af.length:Int)))&&allN (fun j=>wireB (gt b.Ah j) (snkN b.Ab (j:Int))) b.Ah.length
theorem qmP{b:qm}(h:qb8 b):Ev (fun n=>qf9 n b) (blockB b):=by
 have p:=h.Ah.len;unfold qf9 blockB;refine Ev.guardB (Ev.or (qmi h.Aq h.Ab) fun _=>.done) fun l=>?_;rw[jg,beq_iff_eq] at l;obtain⟨o,v⟩:=l;have i:=qbK o;have t:=qdn i;have u:=i.nn;rw[qir (m:=b.Ah.length) (by omega)];simp only[jd];have f:Ev (fun n=>qby (places b.Ab) n (vecC (fun _=>0) b.Ah.length) 0) (vecC (fun k=>snkN b.Ab (k:Int)) b.Ah.length,((places b.Ab).length:Int)):=by
  refine loopF (Lf:=qby (places b.Ab)) (S:=fun j=>vecC (fun k=>cntP (snkQ b.Ab (k:Int)) j) b.Ah.length) (len:=(places b.Ab).length) (fun n=>?_) (fun j a X d=>?_)
  ·simp only[qby,qj (je _),cond_false];rfl
  ·simp only[qby,qi a,cond_true,qM a,jd,wS j];obtain⟨r,y⟩:=qky o a;cases h1:(gt (places b.Ab) j).drives
   ·have s:cntP (snkQ b.Ab (((gt (places b.Ab) j).net.toNat:Nat):Int)) j<=j:=qdV;obtain⟨e1,e2⟩:=qhq (c:=fun k=>cntP (snkQ b.Ab (k:Int)) j) (c':=fun k=>cntP (snkQ b.Ab (k:Int)) (j+1)) (x:=(gt (places b.Ab) j).net) (m:=b.Ah.length) r (by omega) (by show cntP _ _<_;omega) (fun k _=>by
     show cntP _ j+(bif snkQ b.Ab (k:Int) j then 1 else 0)=_;unfold snkQ;rw[h1,Bool.not_false,Bool.and_true])
    simp only[Bool.not_false,cond_true,jd,e1,e2];exact d
   ·have:vecC (fun k=>cntP (snkQ b.Ab (k:Int)) (j+1)) b.Ah.length=vecC (fun k=>cntP (snkQ b.Ab (k:Int)) j) b.Ah.length:=by
     refine qgI (fun k _=>?_);show cntP _ j+(bif snkQ b.Ab (k:Int) j then 1 else 0)=_;unfold snkQ;rw[h1,jI,Bool.and_false];rfl
    rw[this] at d;exact d
 have g:Ev (fun n=>qcC b (vecC (fun k=>snkN b.Ab (k:Int)) b.Ah.length) n 0) (bif allN (fun j=>wireB (gt b.Ah j) (snkN b.Ab (j:Int))) b.Ah.length then .nxt (b.Ah.length:Int) else .ret false):=by
  refine qdl ?_ (fun j a X d=>Ev.succ ?_)
  ·exact Ev.succ (by simp only[qcC,qj (je _),cond_false];exact .done)
  ·simp only[qcC,qi a,cond_true,qM a,qgx a,jd,wS j];exact Ev.chk1 (qnJ (qgw h.Ah a)) fun _=>d
 refine Ev.bind (qiq i) (Ev.bind f (Ev.bind g ?_));cases allN (fun j=>wireB (gt b.Ah j) (snkN b.Ab (j:Int))) b.Ah.length<;>exact .done
theorem qmm{b:qm}(h:qb8 b):Ev (fun n=>qgm n b) (blockB b):=by
 have i:=h.Ah.len;unfold qgm blockB;refine Ev.guardB (Ev.or (qja h.Aq h.Ab) fun _=>.done) fun c=>?_;rw[jg] at c;have g:=qbK c.1;have d:Ev (fun n=>qcD b n 0) (bif allN (fun j=>wireB (gt b.Ah j) (snkN b.Ab (j:Int))) b.Ah.length then .nxt (b.Ah.length:Int) else .ret false):=by
  refine qdl ?_ (fun j a X f=>Ev.succ ?_)
  ·exact Ev.succ (by simp only[qcD,qj (je _),cond_false];exact .done)
  ·simp only[qcD,qi a,cond_true,qM a,jd,wS j];refine Ev.bind (qmE g) ?_;rw[qfq];exact Ev.chk1 (qmT (qgw h.Ah a)) fun _=>f
 refine Ev.bind d ?_;cases allN (fun j=>wireB (gt b.Ah j) (snkN b.Ab (j:Int))) b.Ah.length<;>exact .done

def off(d:qb)(i:Nat):Nat:=(plI d i).length
def place1(d:qb)(i k:Nat):Tplace:=⟨(i:Int),(k:Int),at0 (gt d.Aa i).Af k,decide (k+1=(gt d.Aa i).Af.length)⟩
def place2(d:qb)(i:Nat):Tplace:=⟨-1,(i:Int),(gt d.Ac i).Bm,(gt d.Ac i).Bl==1⟩
theorem qkt{d:qb}{i:Nat}:off d (i+1)=off d i+(gt d.Aa i).Af.length:=by
 unfold off;rw[qh3,jl,qkg]
theorem qhT{d:qb}:(places d).length=off d d.Aa.length+d.Ac.length:=by
 unfold places off;rw[jl,qkh]
theorem qqo{d:qb}{n i k:Nat}(hi:i<n)(c:k<(gt d.Aa i).Af.length):off d i+k<off d n/\gt (plI d n) (off d i+k)=place1 d i k:=by
 induction n with
 |zero=>omega
 |succ n ih=>
  rw[qh3,qjD];rcases Nat.lt_succ_iff_lt_or_eq.1 hi with h|rfl
  ·obtain⟨a,b⟩:=ih h;refine⟨by rw[qkt];omega,?_⟩;rw[if_pos (show off d i+k<(plI d n).length from a),b]
  ·refine⟨by rw[qkt];omega,?_⟩;rw[if_neg (by unfold off;omega),show off d i+k-(plI d i).length=k by unfold off;omega];exact qmj c
theorem qn2{d:qb}{i k:Nat}(hi:i<d.Aa.length)(c:k<(gt d.Aa i).Af.length):off d i+k<(places d).length/\gt (places d) (off d i+k)=place1 d i k:=by
 obtain⟨a,b⟩:=qqo hi c;refine⟨by rw[qhT];omega,?_⟩;unfold places;rw[qjD,if_pos (show off d i+k<(plI d d.Aa.length).length from a),b]
theorem qnK{d:qb}{i:Nat}(hi:i<d.Ac.length):off d d.Aa.length+i<(places d).length/\gt (places d) (off d d.Aa.length+i)=place2 d i:=by
 refine⟨by rw[qhT];omega,?_⟩;unfold places;rw[qjD,if_neg (by unfold off;omega),show off d d.Aa.length+i-(plI d d.Aa.length).length=i by unfold off;omega];exact qmj hi
theorem qnF{d:qb}{n j:Nat}(a:j<off d n):∃i k,i<n/\k<(gt d.Aa i).Af.length/\j=off d i+k:=by
 induction n with
 |zero=>exact absurd a (Nat.not_lt_zero _)
 |succ n ih=>
  by_cases h:j<off d n
  ·obtain⟨i,k,f,b,c⟩:=ih h;exact⟨i,k,by omega,b,c⟩
  ·rw[qkt] at a;exact⟨n,j-off d n,by omega,by omega,by omega⟩
theorem qjI{d:qb}{j:Nat}(c:j<(places d).length) :
  (∃i k,i<d.Aa.length/\k<(gt d.Aa i).Af.length/\j=off d i+k/\gt (places d) j=place1 d i k) \/
  (∃i,i<d.Ac.length/\j=off d d.Aa.length+i/\gt (places d) j=place2 d i):=by
 rw[qhT] at c;by_cases h:j<off d d.Aa.length
 ·obtain⟨i,k,a,b,rfl⟩:=qnF h;exact .inl ⟨i,k,a,b,rfl,(qn2 a b).2⟩
 ·refine .inr ⟨j-off d d.Aa.length,by omega,by omega,?_⟩;have:=(qnK (d:=d) (i:=j-off d d.Aa.length) (by omega)).2;rwa [show off d d.Aa.length+(j-off d d.Aa.length)=j by omega] at this
def cellAt(b:qm)(i:Int):qn:=gt b.Aq.Aj (gt b.Ab.Aa i.toNat).Bf.toNat
theorem qjy{l:qh}{d:qb}(h:designB l d=true){i:Nat}(hi:i<d.Aa.length) :
  (0<=(gt d.Aa i).Bf/\(gt d.Aa i).Bf<l.Aj.length)/\(gt d.Aa i).Af.length=(gt l.Aj (gt d.Aa i).Bf.toNat).Ak.length/\cellB (gt l.Aj (gt d.Aa i).Bf.toNat)=true:=by
 unfold designB libB at h;simp only[jg] at h;obtain⟨⟨⟨b,_⟩,_⟩,a,_⟩:=h;rw[qf1,qX] at a b;have:=a i hi;unfold instB at this;simp only[jg,qbm,beq_iff_eq] at this;exact⟨⟨this.1.1,by omega⟩,by omega,b _ (by omega)⟩
theorem qmM{c:qn}(h:cellB c=true):c.Ar.length<=8:=by
 unfold cellB at h;simp only[jg,decide_eq_true_eq] at h;exact h.2.2.1.2
theorem qcZ{b:qm}(h:blockB b=true):designB b.Aq b.Ab=true:=by
 unfold blockB at h;simp only[jg] at h;exact h.1.1
end Go.Fw


namespace Go.Fw
open Go Go.Proofs Go.Proofs.Tryz
open Go.RowKit (Below)
open Ch renaming own->oW,box->oX,grp->oG
open GoT renaming v->oV
open Go.Bd renaming slice->oS
set_option maxRecDepth 100000
set_option maxHeartbeats 6400000
variable{n:Nat}{w:World}{cs1 cs2 cs3 cs4 cs5 cs6 cs7 cs8 cs9:List Value}
def qfz(n:Nat)(b:qm):Option Int:=(qdj n (⟨b.Ab.Aa,b.Ab.Af,b.Ab.Ac⟩:qb)).bind fun a=>U (a.length:Int)
theorem qjw{b:qm}(a:Ro w b cs1){r:Int}(F:qfz n b=U r):RetV prog 91 [oV qm cs1] w r:=by
 obtain⟨_,_,_,_,_,_,_,_,_,_,rfl,_,c,d,f,_⟩:=qU a;exact zV 7 func91 Z fun h=>zSR (qr h Z Z fun _ _ h=>X1 6 0 h Z (zcL h F (qeU (qas _ (h.oldS c) (h.oldS d) (h.oldS f))) Z fun _ _ _ _ _ h F=>X0 3 Z (ri h F Z)))
def qa0(b:qm)(list:(List Int))(i:Bool):Nat->Int->Option (Flow Bool Int)|0,_=>G|n+1,a=>bif decide (a<(list.length:Int)) then(idx list a).bind fun f=>(qfz n b).bind fun c=>(qO n f 0 (W64 (c-1))).bind fun d=>bif (!d) then U (.ret false) else bif i then bif decide (a > 0) then(idx list (W64 (a-1))).bind fun g=>(idx list a).bind fun h=>bif decide (g>=h) then U (.ret false) else qa0 b list i n (W64 (a+1)) else qa0 b list i n (W64 (a+1)) else qa0 b list i n (W64 (a+1)) else U (.nxt a)
def qdc(n:Nat)(b:qm)(list:(List Int))(a:Bool):Option Bool:=(qa0 b list a n 0).bind fun|.ret r=>U r|.nxt _=>U (decide ((list.length:Int)<=4))
theorem qe7{b:qm}{list:(List Int)}{sorted}(d:Ro w b cs1)(f:Ro w list cs2){r:Bool}(F:qdc n b list sorted=U r):RetV prog 46 [oV qm cs1,oV (List Int) cs2,.bool sorted] w r:=by
 obtain⟨P,I,Q,J,R,K,S,L,T,M,rfl,_,_,_,_,_⟩:=qU d;obtain⟨W,N,rfl,D⟩:=f;refine zV 45 func46 Z fun h=>zSR (qr h Z Z fun _ c h=>X0 7 Z ?_);obtain⟨O,F,a⟩:=qe F;refine ql (rL (fun m e w'=>∃C,qa0 b list sorted m C=U O/\e=[(1,oS W list.length N),(2,.bool sorted),(3,vp c),(7,vi C)]/\SH w w' [oX c (qb6 b P Q R S T I J K L M) 48]) n ⟨_,F,rfl,h⟩ Z ?_);rintro H _ _ ⟨C,F,rfl,h⟩;rcases H with _|H
 ·cases F
 refine X0 8 Z (qf Z F ?_ ?_)<;>intro F
 ·refine X0 4 Z (rD (zd2 Z ?_));obtain⟨_,_,F,l,_,_,_,_,s,x,rfl,g⟩:=D.ix F;refine zdxe s x l Z (zdc 0 (g.below h.below) Z (Y1 1 0 h Z ?_));obtain⟨X,A,F⟩:=qe F;refine qa3 X (vsI _) (cB 91 Z) (fun _ hb=>qjw ((h.ext hb).old d) A) Z Z Z Z (zd1 Z ?_);obtain⟨r2,B,F⟩:=qe F;refine qa3 r2 (vsB _) (cB 47 Z) (fun _ hb=>qE  B) Z Z Z Z (zd2 Z (qaW (t:=23) F Z ?_ ?_))<;>intro F
  ·refine Y0 18 Z (dN h fun _ h=>qc3 Z Z (X0 4 Z ?_));obtain rfl:=qa F;replace F:=a;exact rb h F Z
  refine Y0 4 Z (qaW (t:=25) F Z ?_ ?_)<;>intro F
  ·refine Y0 8 Z (qaW (t:=29) F Z ?_ ?_)<;>intro F
   ·refine Y0 7 Z ?_;obtain⟨_,_,F,o,_,_,_,_,u,y,rfl,i⟩:=D.ix F;refine zdxe u y o Z (Y0 1 Z (zdc 0 (i.below h.below) Z (Y0 5 Z ?_)));obtain⟨_,_,F,p,_,_,_,_,v,z,rfl,k⟩:=D.ix F;refine zdxe v z p Z (Y0 1 Z (zdc 0 (k.below h.below) Z (Y0 5 Z (dN h fun _ h=>qf Z F ?_ ?_))))<;>intro F
    ·refine X0 4 Z ?_;obtain rfl:=qa F;replace F:=a;exact rb h F Z
    exact X0 7 Z (rK ⟨_,F,rfl,h⟩ Z)
   exact Y0 13 Z (dN h fun _ h=>qel Z Z (X0 7 Z (rK ⟨_,F,rfl,h⟩ Z)))
  exact Y0 19 Z (dN h fun _ h=>qel Z Z (X0 7 Z (rK ⟨_,F,rfl,h⟩ Z)))
 refine qq Z ?_;obtain rfl:=qa F;replace F:=a;exact X0 7 Z (rb h F Z)
def qeg(n:Nat)(b:qm)(l:qk):Option Bool:=((qgm n b).bind fun g=>bif (!g) then U true else(qdc n b l.Av true).bind fun h=>bif (!h) then U true else(qdc n b l.Au false).bind fun i=>bif (!i) then U true else(qdc n b l.To true).bind fun k=>U (!k)).bind fun a=>bif a then U false else bif (l.Ap==1) then U (l.Bd==0) else bif (l.Ap==2) then(qO n l.Bd 1 10).bind fun c=>U c else bif (l.Ap==3) then bif (l.Ap==3) then(qO n l.Bd 0 1000000000).bind fun d=>U d else U false else bif (l.Ap==4) then(qO n l.Bd 0 1000000000).bind fun f=>U f else U false
theorem qiz{b:qm}{z:qk}(a:Ro w b cs1)(k:Ro w z cs2){r:Bool}(F:qeg n b z=U r):RetV prog 16 [oV qm cs1,oV qk cs2] w r:=by
 obtain⟨_,_,_,_,_,_,_,_,_,_,rfl,_,_,_,_,_⟩:=qU a;obtain⟨p,l,s,m,u,o,rfl,v,x,y⟩:=qae k;refine zV 47 func16 Z fun h=>zSR (qr h Z Z fun _ _ h=>qr h Z Z fun _ d h=>X0 4 Z ?_);obtain⟨g,f,_,F,c⟩:=bindE F;refine qcX (fun e w'=>∃i,g i=U r/\e=[(3,vp d),(28,.bool i)]/\SH w w' [oX d (qeW z p s u l m o) 50]) ?_ ?_
 ·refine X1 2 1 h Z (zcB h F (qj1 (h.old a)) Z fun _ _ h F=>zp2 Z (qg (t:=8) F Z ?_ ?_))<;>intro F
  ·refine X0 21 Z ?_;replace h:=h.p [0] Z;obtain rfl:=qa F;exact rG ⟨_,c,rfl,h⟩ Z
  refine X2 7 1 0 h Z (zcB h F (qe7 (h.old a) ⟨_,_,rfl,(h.oldS v)⟩) Z fun _ _ h F=>X0 4 Z (qg (t:=15) F Z ?_ ?_))<;>intro F
  ·refine X0 14 Z ?_;replace h:=h.p [0] Z;obtain rfl:=qa F;exact rG ⟨_,c,rfl,h⟩ Z
  refine X2 7 1 0 h Z (zcB h F (qe7 (h.old a) ⟨_,_,rfl,(h.oldS x)⟩) Z fun _ _ h F=>X0 4 Z (qg (t:=22) F Z ?_ ?_))<;>intro F
  ·refine X0 7 Z ?_;replace h:=h.p [0] Z;obtain rfl:=qa F;exact rG ⟨_,c,rfl,h⟩ Z
  refine X2 7 1 0 h Z (zcB h F (qe7 (h.old a) ⟨_,_,rfl,(h.oldS y)⟩) Z fun _ _ h F=>X0 4 Z ?_);replace h:=h.p [0] Z;obtain rfl:=qa F;exact rG ⟨_,c,rfl,h⟩ Z
 rintro _ _ ⟨i,F,rfl,h⟩;subst f;refine qf Z F ?_ ?_<;>intro F
 ·exact X0 4 Z (rb h F Z)
 refine X1 13 0 h Z (qf Z F ?_ ?_)<;>intro F
 ·exact X1 7 0 h Z (rb h F Z)
 refine X0 5 Z (qf Z F ?_ ?_)<;>intro F
 ·exact X1 4 0 h Z (zcB h F qE Z fun _ _ h F=>X0 2 Z (rb h F Z))
 refine X0 6 Z (qf Z F ?_ ?_)<;>intro F
 ·refine qe3 (qf Z F ?_ ?_)<;>intro F
  ·exact X1 4 0 h Z (zcB h F qE Z fun _ _ h F=>X0 2 Z (rb h F Z))
  exact X0 6 Z (rb h F Z)
 refine X0 4 Z (qf Z F ?_ ?_)<;>intro F
 ·exact X1 4 0 h Z (zcB h F qE Z fun _ _ h F=>X0 2 Z (rb h F Z))
 exact X0 6 Z (rb h F Z)
def qcY(_:Nat)(a:qH):Option (List qx):=bif (a.Ap==2) then U ([(⟨0,0⟩:qx),(⟨0,1⟩:qx)]:List qx) else bif (a.Ap==3) then U ([(⟨1,0⟩:qx),(⟨1,1⟩:qx)]:List qx) else bif (a.Ap != 1) then U [] else bif (a.Bg==1) then U ([(⟨0,0⟩:qx),(⟨1,1⟩:qx)]:List qx) else bif (a.Bg==2) then U ([(⟨0,1⟩:qx),(⟨1,0⟩:qx)]:List qx) else U ([(⟨0,0⟩:qx),(⟨0,1⟩:qx),(⟨1,0⟩:qx),(⟨1,1⟩:qx)]:List qx)
theorem qhi{a:qH}(b:Ro w a cs1){r:(List qx)}(F:qcY n a=U r):RetV prog 117 [oV qH cs1] w r:=by
 obtain⟨_,_,_,_,rfl,_,_⟩:=qV b;refine zV 44 func117 Z fun h=>zSR (qr h Z Z fun _ _ h=>X0 4 Z (r_v (qdz qc [0,1] [.const (vi (0)),.const (vi (0))] Z Z Z Z Z Z Z Z Z) Z (r_v (qdz qc [0,1] [.const (vi (1)),.const (vi (1))] Z Z Z Z Z Z Z Z Z) Z (qT qc [.tmp 5,.tmp 6] _ ([(⟨0,0⟩:qx),(⟨1,1⟩:qx)]:List qx) h Z Z Z Z Z Z Z Z Z ⟨(qbv (⟨0,0⟩:qx)),(qbv (⟨1,1⟩:qx)),E⟩ Z fun _ _ _ h=>X0 4 Z (r_v (qdz qc [0,1] [.const (vi (0)),.const (vi (1))] Z Z Z Z Z Z Z Z Z) Z (r_v (qdz qc [0,1] [.const (vi (1)),.const (vi (0))] Z Z Z Z Z Z Z Z Z) Z (qT qc [.tmp 8,.tmp 9] _ ([(⟨0,1⟩:qx),(⟨1,0⟩:qx)]:List qx) h Z Z Z Z Z Z Z Z Z ⟨(qbv (⟨0,1⟩:qx)),(qbv (⟨1,0⟩:qx)),E⟩ Z fun _ _ _ h=>X1 11 2 h Z (qf Z F ?_ ?_))))))))<;>intro F
 ·refine zSR (r_v (qdz qc [0,1] [.const (vi (0)),.const (vi (0))] Z Z Z Z Z Z Z Z Z) Z (r_v (qdz qc [0,1] [.const (vi (0)),.const (vi (1))] Z Z Z Z Z Z Z Z Z) Z (qT qc [.tmp 15,.tmp 16] _ ([(⟨0,0⟩:qx),(⟨0,1⟩:qx)]:List qx) h Z Z Z Z Z Z Z Z Z ⟨(qbv (⟨0,0⟩:qx)),(qbv (⟨0,1⟩:qx)),E⟩ Z fun _ _ _ h=>X0 2 Z ?_)));obtain rfl:=qa F;exact rO 0 h Z ⟨rfl,E⟩
 refine X1 7 2 h Z (qf Z F ?_ ?_)<;>intro F
 ·refine zSR (r_v (qdz qc [0,1] [.const (vi (1)),.const (vi (0))] Z Z Z Z Z Z Z Z Z) Z (r_v (qdz qc [0,1] [.const (vi (1)),.const (vi (1))] Z Z Z Z Z Z Z Z Z) Z (qT qc [.tmp 22,.tmp 23] _ ([(⟨1,0⟩:qx),(⟨1,1⟩:qx)]:List qx) h Z Z Z Z Z Z Z Z Z ⟨(qbv (⟨1,0⟩:qx)),(qbv (⟨1,1⟩:qx)),E⟩ Z fun _ _ _ h=>X0 2 Z ?_)));obtain rfl:=qa F;exact rO 0 h Z ⟨rfl,E⟩
 refine X1 7 2 h Z (qf Z F ?_ ?_)<;>intro F
 ·refine X0 4 Z ?_;obtain rfl:=qa F;exact qah qc (ρ:=(List qx)) [oV (List qx) [oS G 0 0]] h ⟨rfl,E⟩ (PV.done h (qb1 qoB))
 refine X1 7 2 h Z (qf Z F ?_ ?_)<;>intro F
 ·refine X0 5 Z ?_;obtain rfl:=qa F;exact rO 1 h Z ⟨rfl,E⟩
 refine X1 7 2 h Z (qf Z F ?_ ?_)<;>intro F
 ·refine X0 5 Z ?_;obtain rfl:=qa F;exact rO 0 h Z ⟨rfl,E⟩
 refine X0 4 Z (r_v (qdz qc [0,1] [.const (vi (0)),.const (vi (0))] Z Z Z Z Z Z Z Z Z) Z (r_v (qdz qc [0,1] [.const (vi (0)),.const (vi (1))] Z Z Z Z Z Z Z Z Z) Z (r_v (qdz qc [0,1] [.const (vi (1)),.const (vi (0))] Z Z Z Z Z Z Z Z Z) Z (r_v (qdz qc [0,1] [.const (vi (1)),.const (vi (1))] Z Z Z Z Z Z Z Z Z) Z (qT qc [.tmp 39,.tmp 40,.tmp 41,.tmp 42] _ ([(⟨0,0⟩:qx),(⟨0,1⟩:qx),(⟨1,0⟩:qx),(⟨1,1⟩:qx)]:List qx) h Z Z Z Z Z Z Z Z Z ⟨(qbv (⟨0,0⟩:qx)),(qbv (⟨0,1⟩:qx)),(qbv (⟨1,0⟩:qx)),(qbv (⟨1,1⟩:qx)),E⟩ Z fun _ _ _ h=>X0 2 Z ?_)))));obtain rfl:=qa F;exact rO 0 h Z ⟨rfl,E⟩
def qaP(first:Int)(d:Int)(c:qH)(b:(List qx)):Nat->(List qaI)->Int->Option ((List qaI)×Int)|0,_,_=>G|n+1,f,a=>bif decide (a<(b.length:Int)) then(idx b a).bind fun g=>(appS f ([(⟨W64 ((W64 (2*(W64 (first+c.Av))))+g.e0),W64 ((W64 (2*(W64 (first+c.To))))+g.e1),1,d⟩:qaI)]:List qaI)).bind fun h=>qaP first d c b n h (W64 (a+1)) else U (f,a)
def qaT(first:Int)(b:qn):Nat->(List qaI)->Int->Option ((List qaI)×Int)|0,_,_=>G|n+1,c,a=>bif decide (a<(b.Ar.length:Int)) then(idx b.Ar a).bind fun d=>(qcY n d).bind fun f=>(qaP first a d f n c 0).bind fun(g,_)=>qaT first b n g (W64 (a+1)) else U (c,a)
def qcP(n:Nat)(b:qm)(x:qd)(first:Int):Option (List qaI):=(idx b.Aq.Aj x.Bf).bind fun c=>(qaT first c n ([]:List qaI) 0).bind fun(a,_)=>U a
theorem qhh{b:qm}{x:qd}{first}(C:Ro w b cs1)(D:Ro w x cs2){r:(List qaI)}(F:qcP n b x first=U r):RetV prog 72 [oV qm cs1,oV qd cs2,vi first] w r:=by
 obtain⟨_,_,_,_,_,_,_,_,_,_,rfl,s1,_,_,_,_⟩:=qU C;obtain⟨_,_,rfl,_⟩:=qA D;refine zV 57 func72 Z fun h=>zSR (qr h Z Z fun _ _ h=>qr h Z Z fun _ _ h=>X2 14 1 0 h Z ?_);obtain⟨y,_,F,K,_,_,_,_,M,P,S,H⟩:=s1.ix F;obtain⟨_,_,p8,k8,_,_,rfl,_,s8,_⟩:=qF S;refine zxe M P K Z (zp1 Z (zc 3 (H.below h.below) Z (X0 3 Z ?_)));replace h:=h.nil (α:=qaI);obtain⟨o1,F,A⟩:=qe F;refine ql ?_;replace h:=h.p [0] Z;refine rL (fun m e w'=>∃S1 k g d x1 a,qaT first y m x1 a=U o1/\e=[(2,vi first),(7,oS k g d),(19,oS p8 y.Ar.length k8),(20,vi (y.Ar.length:Int)),(21,vi a)]/\SH w w' [oW S1 (x1:List qaI) [oS k g d]]) n ⟨_,_,_,_,_,_,F,rfl,h⟩ Z ?_;rintro m1 _ _ ⟨S1,k,g,d,x1,a,F,rfl,h⟩;obtain rfl:=(h.sl 0 Z).2;rcases m1 with _|m1
 ·cases F
 refine X0 5 Z (qf Z F ?_ ?_)<;>intro F
 ·refine X0 6 Z ?_;obtain⟨o,_,F,L,_,_,_,_,N,Q,T,I⟩:=s8.ix F;obtain⟨p11,a0,p12,a1,rfl,s10,s11⟩:=qV T;refine zxe N Q L Z (zc 0 (I.below h.below) Z (qC qc h Z Z Z fun _ p h=>zp1 Z (zs 0 h Z fun _ h=>X1 4 0 h Z (zcL h F (qhi (qeF o (h.oldS s10) (h.oldS s11))) Z fun v _ S2 u t h F=>X0 3 Z ?_))));obtain⟨o2,F,B⟩:=qe F;refine ql (rL (fun m e w'=>∃S3 l i f x2 X,qaP first a o v m x2 X=U o2/\e=[(2,vi first),(7,oS l i f),(8,vi a),(9,vp p),(19,oS p8 y.Ar.length k8),(20,vi (y.Ar.length:Int)),(21,vi a),(27,oS u v.length t),(28,vi (v.length:Int)),(29,vi X)]/\SH w w' [oW S2 (v:List qx) [oS u v.length t],oX p (qhD o p11 p12 a0 a1) 183,oW S3 (x2:List qaI) [oS l i f]]) m1 ⟨_,_,_,_,_,_,F,rfl,h⟩ Z ?_);rintro m2 _ _ ⟨S3,l,i,f,x2,X,F,rfl,h⟩;obtain rfl:=(h.sl 2 Z).2;rcases m2 with _|m2
  ·cases F
  refine X0 5 Z (qf Z F ?_ ?_)<;>intro F
  ·refine zKSBSR ?_;obtain⟨z,_,F,s,_,_,_,_,O,R,W,J⟩:=(h.sl 0 Z).1.ix F;obtain rfl:=qmb W;refine zx O R ⟨s.1,qap s.2.1 (h.sl 0 Z).2⟩ Z (zc 0 J Z (qC qc h Z Z Z fun _ _ h=>zs 0 h Z fun _ h=>X1 8 2 h Z (r_v (qoR (iv:=0) qc Z Z (by decide) ⟨rfl,rfl⟩ Z Z) Z (X2 7 0 2 h Z (r_v (qoR (iv:=1) qc Z Z (by decide) ⟨rfl,rfl⟩ Z Z) Z (X1 3 0 h Z (r_v (qe6 qc [0,1,2,3] [.tmp 41,.tmp 49,.const (vi (1)),.tmp 50] Z Z Z Z Z Z Z Z) Z (qT qc [.tmp 51] _ ([(⟨W64 ((W64 (2*(W64 (first+o.Av))))+z.e0),W64 ((W64 (2*(W64 (first+o.To))))+z.e1),1,a⟩:qaI)]:List qaI) h Z Z Z Z Z Z Z Z Z ⟨(qlA (⟨W64 ((W64 (2*(W64 (first+o.Av))))+z.e0),W64 ((W64 (2*(W64 (first+o.To))))+z.e1),1,a⟩:qaI)),E⟩ Z fun _ _ _ h=>?_))))))));obtain⟨_,c,F⟩:=qe F;obtain⟨g1,c⟩:=qaR c;refine qdP qc 4 h Z (h.sl 0 Z).1 (h.sl 0 Z).2 Z Z Z Z Z Z Z Z Z g1 c Z fun _ _ _ _ h=>X0 7 Z ?_;replace h:=h.p [2,3,4] Z;exact rK ⟨_,_,_,_,_,_,F,rfl,h⟩ Z
  refine qq Z ?_;obtain rfl:=qa F;replace F:=B;refine X0 5 Z ?_;replace h:=h.p [2] Z;exact rK ⟨_,_,_,_,_,_,F,rfl,h⟩ Z
 refine qq Z ?_;obtain rfl:=qa F;replace F:=A;refine X0 5 Z ?_;obtain rfl:=qa F;exact rO 0 h Z ⟨rfl,E⟩
def qeN(_:Nat)(s:(List Int)):Option (List Int):=appS ([]:List Int) s
theorem qhM{s:(List Int)}(b:Ro w s cs1){r:(List Int)}(F:qeN n s=U r):RetV prog 118 [oV (List Int) cs1] w r:=by
 obtain⟨p,k,rfl,c⟩:=b;obtain⟨d,i⟩:=qaR (show appS ([]:List Int) s=U r from F);cases p with
 |none=>
  obtain rfl:=qmf c;obtain rfl:[]=r:=i;exact zV 8 func118 Z fun h=>X0 8 Z (r_v (qmh qc Z Z Z Z Z) Z (qdH (qc3 Z Z (X0 4 Z (qah qc (ρ:=(List Int)) [oV (List Int) [oS G 0 0]] h ⟨rfl,E⟩ (PV.done h (qb1 qoB)))))))
 |some a=>
  refine zV 8 func118 Z fun h=>X0 8 Z (r_v (qmh qc Z Z Z Z Z) Z (qdH (qel Z Z (zKSR (qT qc [] _ ([]:List Int) h Z Z Z Z Z Z Z Z Z trivial Z fun _ _ _ h=>zp1 Z (qpZ qc 0 h Z (h.oldS c) Z Z Z Z Z Z Z Z Z Z d Z fun _ g f _ h=>?_))))));rw[i] at h;exact X0 2 Z (qah qc (ρ:=(List Int)) [oV (List Int) [oS g (([]:List Int).length+s.length) f]] h ⟨rfl,E⟩ (PV.done h (qb1 (qbP 0 h Z))))
def qaj(net:Int)(b:(List Tplace)):Nat->(List Int)->Int->Option ((List Int)×Int)|0,_,_=>G|n+1,c,a=>bif decide (a<(b.length:Int)) then(idx b a).bind fun d=>bif (d.net==net) then bif (!d.drives) then(appS c ([a]:List Int)).bind fun f=>qaj net b n f (W64 (a+1)) else qaj net b n c (W64 (a+1)) else qaj net b n c (W64 (a+1)) else U (c,a)
def qdZ(n:Nat)(d:qb)(net:Int):Option (List Int):=(qa4 n d).bind fun a=>(qaj net a n ([]:List Int) 0).bind fun(b,_)=>U b
theorem qh4{d:qb}{net}(c:Ro w d cs1){r:(List Int)}(F:qdZ n d net=U r):RetV prog 119 [oV qb cs1,vi net] w r:=by
 obtain⟨_,_,_,_,_,_,rfl,_,_,_⟩:=qJ c;refine zV 31 func119 Z fun h=>zSR (qr h Z Z fun _ _ h=>X1 10 0 h Z (zcL h F (qcv (h.old c)) Z fun g _ S1 A y h F=>X0 3 Z ?_));replace h:=h.nil (α:=Int);obtain⟨C,F,k⟩:=qe F;refine ql ?_;replace h:=h.p [0,1] Z;refine rL (fun m e w'=>∃S2 v b u x i,qaj net g m x i=U C/\e=[(1,vi net),(5,oS v b u),(9,oS A g.length y),(10,vi (g.length:Int)),(11,vi i)]/\SH w w' [oW S2 (x:List Int) [oS v b u],oW S1 (g:List Tplace) [oS A g.length y]]) n ⟨_,_,_,_,_,_,F,rfl,h⟩ Z ?_;rintro z _ _ ⟨S2,v,b,u,x,i,F,rfl,h⟩;obtain rfl:=(h.sl 0 Z).2;rcases z with _|z
 ·cases F
 refine X0 5 Z (qf Z F ?_ ?_)<;>intro F
 ·refine X0 6 Z ?_;obtain⟨_,_,F,f,_,_,_,_,o,p,s,l⟩:=(h.sl 1 Z).1.ix F;obtain rfl:=qd1 s;refine zx o p ⟨f.1,qap f.2.1 (h.sl 1 Z).2⟩ Z (zc 0 l Z (qC qc h Z Z Z fun _ _ h=>zp1 Z (zs 0 h Z fun _ h=>X1 8 0 h Z (qg (t:=20) F Z ?_ ?_))))<;>intro F
  ·refine X1 8 0 h Z (qf Z F ?_ ?_)<;>intro F
   ·refine X0 3 Z (qT qc [.tmp 26] _ ([i]:List Int) h Z Z Z Z Z Z Z Z Z ⟨rfl,E⟩ Z fun _ _ _ h=>?_);obtain⟨_,a,F⟩:=qe F;obtain⟨B,a⟩:=qaR a;refine qdP qc 2 h Z (h.sl 0 Z).1 (h.sl 0 Z).2 Z Z Z Z Z Z Z Z Z B a Z fun _ _ _ _ h=>X0 7 Z ?_;replace h:=h.p [2,3] Z;exact rK ⟨_,_,_,_,_,_,F,rfl,h⟩ Z
   refine X0 6 Z ?_;replace h:=h.p [1,2] Z;exact rK ⟨_,_,_,_,_,_,F,rfl,h⟩ Z
  refine X0 5 Z (qel Z Z (X0 6 Z ?_));replace h:=h.p [1,2] Z;exact rK ⟨_,_,_,_,_,_,F,rfl,h⟩ Z
 refine qq Z ?_;obtain rfl:=qa F;replace F:=k;refine X0 5 Z ?_;obtain rfl:=qa F;exact rO 0 h Z ⟨rfl,E⟩
def qdU(_:Nat)(d:qb)(l:qh)(p:Tplace):Option Int:=bif decide (p.instance_<0) then U 0 else(idx d.Aa p.instance_).bind fun a=>(idx l.Aj a.Bf).bind fun b=>(idx b.Ak p.pin).bind fun c=>U c.Bj
theorem qik{d:qb}{l:qh}{p:Tplace}(a:Ro w d cs1)(b:Ro w l cs2)(c:Ro w p cs3){r:Int}(F:qdU n d l p=U r):RetV prog 120 [oV qb cs1,oV qh cs2,oV Tplace cs3] w r:=by
 obtain⟨_,_,_,_,_,_,rfl,C,_,_⟩:=qJ a;obtain⟨_,_,rfl,D⟩:=qZ b;obtain rfl:=qd1 c;refine zV 27 func120 Z fun h=>zSR (qr h Z Z fun _ _ h=>qr h Z Z fun _ _ h=>qr h Z Z fun _ _ h=>X1 9 0 h Z (qf Z F ?_ ?_))<;>intro F
 ·exact X0 4 Z (ri h F Z)
 refine zKS (rD (Y1 2 1 h Z ?_));refine Y1 2 2 h Z ?_;refine Y1 2 0 h Z ?_;obtain⟨_,_,F,k,_,_,_,_,s,v,z,f⟩:=C.ix F;obtain⟨_,_,rfl,_⟩:=qA z;refine zdxe s v k Z (zd1 Z (zdc 1 (f.below h.below) Z ?_));obtain⟨_,_,F,m,_,_,_,_,t,x,A,g⟩:=D.ix F;obtain⟨_,_,_,_,_,_,rfl,H,_,_⟩:=qF A;refine zdxe t x m Z (zd1 Z (zdc 2 (g.below h.below) Z (Y1 2 0 h Z ?_)));obtain⟨_,_,F,o,_,_,_,_,u,y,B,i⟩:=H.ix F;obtain rfl:=qav B;exact zdxe u y o Z (zd1 Z (zdc 2 (i.below h.below) Z (zd1 Z (dN h fun _ h=>ri h F Z))))
def qaO(d:qD):Nat->(List Int)->Int->Option ((List Int)×Int)|0,_,_=>G|n+1,b,a=>bif decide (a > 0) then(idx d.Ai a).bind fun c=>(idx b c).bind fun f=>(idx b a).bind fun g=>(idx b c).bind fun _=>qaO d n (setS b c (W64 (f+g))) (W64 (a-1)) else U (b,a)
def qaQ(a:qm)(h:qD)(g:(List Tplace))(d:(List Int)):Nat->(List Int)->Int->Option ((List Int)×Int)|0,_,_=>G|n+1,c,b=>bif decide (b<(d.length:Int)) then(idx d b).bind fun k=>(idx h.Bc b).bind fun f=>(idx c f).bind fun l=>(idx g k).bind fun m=>(qdU n (⟨a.Ab.Aa,a.Ab.Af,a.Ab.Ac⟩:qb) (⟨a.Aq.Aj⟩:qh) m).bind fun i=>(idx c f).bind fun _=>qaQ a h g d n (setS c f (W64 (l+i))) (W64 (b+1)) else U (c,b)
def qbM(n:Nat)(a:qm)(b:Int):Option (List Int):=(idx a.Ah b).bind fun c=>(qeN n c.Bj).bind fun d=>(qa4 n (⟨a.Ab.Aa,a.Ab.Af,a.Ab.Ac⟩:qb)).bind fun f=>(qdZ n (⟨a.Ab.Aa,a.Ab.Af,a.Ab.Ac⟩:qb) b).bind fun g=>(qaQ a c f g n d 0).bind fun(h,_)=>(qaO c n h (W64 ((d.length:Int)-1))).bind fun(i,_)=>U i
theorem qda{a:qm}{k}(a1:Ro w a cs1){r:(List Int)}(F:qbM n a k=U r):RetV prog 74 [oV qm cs1,vi k] w r:=by
 obtain⟨p1,k1,p2,k2,p3,k3,p4,k4,p5,k5,rfl,s1,s2,s3,s4,s5⟩:=qU a1;refine zV 74 func74 Z fun h=>zSR (qr h Z Z fun w1 l h=>X1 7 0 h Z ?_);obtain⟨W,_,F,a7,_,_,_,_,b0,b5,b9,a2⟩:=s5.ix F;obtain⟨p6,k6,p7,k7,p8,k8,p9,k9,rfl,s6,_,s8,s9⟩:=qaM b9;refine zxe b0 b5 a7 Z (zc 0 (a2.below h.below) Z (qC qc h Z Z Z fun _ b h=>zs 0 h Z fun _ h=>X1 5 0 h Z (zcL h F (qhM ⟨_,_,rfl,(h.oldS s8)⟩) Z fun R _ S1 d c h F=>X1 6 2 h Z (zcL h F (qcv (qas _ (h.oldS s2) (h.oldS s3) (h.oldS s4))) Z fun T _ S2 O M h F=>X1 8 3 h Z (zcL h F (qh4 (qas _ (h.oldS s2) (h.oldS s3) (h.oldS s4))) Z fun Q _ S3 P N h F=>X0 3 Z ?_)))));obtain⟨o1,F,X⟩:=qe F;refine ql (rL (fun m e w'=>∃x1 i1,qaQ a W T Q m x1 i1=U o1/\e=[(2,vp l),(5,vp b),(6,oS d R.length c),(7,oS O T.length M),(25,oS P Q.length N),(26,vi (Q.length:Int)),(27,vi i1)]/\SH w w' [oW S3 (Q:List Int) [oS P Q.length N],oW S2 (T:List Tplace) [oS O T.length M],oW S1 (x1:List Int) [oS d R.length c],oX b (qfd W p6 p7 p8 p9 k6 k7 k8 k9) 109,oX l (qb6 a p1 p2 p3 p4 p5 k1 k2 k3 k4 k5) 48]) n ⟨_,_,F,rfl,h⟩ Z ?_);rintro m1 _ _ ⟨x1,i1,F,rfl,h⟩;rcases m1 with _|m1
 ·cases F
 refine X0 5 Z (qf Z F ?_ ?_)<;>intro F
 ·refine X0 6 Z ?_;obtain⟨_,_,F,p,_,_,_,_,b1,b6,rfl,a3⟩:=(h.sl 0 Z).1.ix F;refine zx b1 b6 ⟨p.1,qap p.2.1 (h.sl 0 Z).2⟩ Z (zc 0 a3 Z (X0 3 Z (rA [19] [1,2,3,4] h Z fun _ h=>M1 15 [0,1,2,3] 2 (h.p [1,2,3,4] Z) Z ?_)));obtain⟨_,_,F,a8,_,_,_,_,b2,b7,rfl,a4⟩:=s9.ix F;refine Ae 4 31 b2 b7 a8 (h.p [1,2,3,4] Z) Z (Al 5 63 0 a4 (h.p [1,2,3,4] Z) Z ?_);obtain⟨y4,c1,F,s,_,_,_,_,y,D,rfl,_⟩:=(h.sl 2 Z).1.ix F;refine Ax 6 127 y D ⟨s.1,qap s.2.1 (h.sl 2 Z).2⟩ (h.p [1,2,3,4] Z) Z (Aw 7 255 (fun w' hw=>qhK qc (qdK (w1:=w) (S1:=fun _=>False) hw 1 Z c1 y D Z) (j:=0) Z Z Z) (h.p [1,2,3,4] Z) Z ?_);refine M2 16383 [8,9,10,11,12,13] 3 3 (h.p [1,2,3,4] Z) Z ?_;obtain⟨y5,c2,F,t,_,_,_,_,z,H,c0,_⟩:=(h.sl 1 Z).1.ix F;obtain rfl:=qd1 c0;refine Ax 14 32767 z H ⟨t.1,qap t.2.1 (h.sl 1 Z).2⟩ (h.p [1,2,3,4] Z) Z (Aw 15 65535 (fun w' hw=>qhK qc (qdK hw 0 Z c2 z H (qeL (w:=w) (S:=fun _=>False) y5)) (j:=0) Z Z Z) (h.p [1,2,3,4] Z) Z ?_);refine Ao 16 131071 Z (zcI h F (qik (qas _ (h.oldS s2) (h.oldS s3) (h.oldS s4)) (qbg _ (h.oldS s1)) (qeL y5)) Z fun r4 _ h F=>G0 262143 [17] (h.p [1,2,3,4] Z) Z ?_);obtain⟨_,c3,F,u,_,_,_,_,A,I,rfl,a5⟩:=(h.sl 2 Z).1.ix F;exact Ax 18 524287 A I ⟨u.1,qap u.2.1 (h.sl 2 Z).2⟩ (h.p [1,2,3,4] Z) Z (Ao 19 1048575 Z (qdT qc 2 0 (W64 (y4+r4)) h Z c3 A I Z a5 Z Z Z Z Z Z Z fun _ h=>qgA (fun hs=>absurd (hs 19 (by decide)) (by decide)) (Ad (X0 5 Z (rK ⟨_,_,F,rfl,h⟩ Z)))))
 refine qq Z ?_;obtain rfl:=qa F;replace F:=X;refine X0 8 Z ?_;obtain⟨o2,F,a0⟩:=qe F;refine ql ?_;replace h:=h.p [2,3] Z;refine rL (fun m e w'=>∃x2 i2,qaO W m x2 i2=U o2/\e=[(5,vp b),(6,oS d R.length c),(10,vi i2)]/\SH w w' [oW S1 (x2:List Int) [oS d R.length c],oX b (qfd W p6 p7 p8 p9 k6 k7 k8 k9) 109]) n ⟨_,_,F,rfl,h⟩ Z ?_;rintro m2 _ _ ⟨x2,i2,F,rfl,h⟩;rcases m2 with _|m2
 ·cases F
 refine X0 6 Z (qf Z F ?_ ?_)<;>intro F
 ·refine zKSB (rA [14] [0,1] h Z fun _ h=>M1 15 [0,1,2,3] 1 (h.p [0,1] Z) Z ?_);obtain⟨_,_,F,a9,_,_,_,_,b4,b8,rfl,a6⟩:=s6.ix F;refine Ae 4 31 b4 b8 a9 (h.p [0,1] Z) Z (Al 5 63 0 a6 (h.p [0,1] Z) Z ?_);obtain⟨y8,c4,F,v,_,_,_,_,B,J,rfl,_⟩:=(h.sl 0 Z).1.ix F;refine Ax 6 127 B J ⟨v.1,qap v.2.1 (h.sl 0 Z).2⟩ (h.p [0,1] Z) Z (Aw 7 255 (fun w' hw=>qhK qc (qdK (w1:=w) (S1:=fun _=>False) hw 0 Z c4 B J Z) (j:=0) Z Z Z) (h.p [0,1] Z) Z ?_);refine M0 1023 [8,9] (h.p [0,1] Z) Z ?_;obtain⟨y9,c5,F,x,_,_,_,_,C,K,rfl,_⟩:=(h.sl 0 Z).1.ix F;refine Ax 10 2047 C K ⟨x.1,qap x.2.1 (h.sl 0 Z).2⟩ (h.p [0,1] Z) Z (Aw 11 4095 (fun w' hw=>qhK qc (qdK (w1:=w) (S1:=fun _=>False) hw 0 Z c5 C K Z) (j:=0) Z Z Z) (h.p [0,1] Z) Z ?_);refine M0 8191 [12] (h.p [0,1] Z) Z ?_;obtain⟨_,L,F,f,_,_,_,_,g,i,rfl,o⟩:=(h.sl 0 Z).1.ix F;exact Ax 13 16383 g i ⟨f.1,qap f.2.1 (h.sl 0 Z).2⟩ (h.p [0,1] Z) Z (Ao 14 32767 Z (qdT qc 0 0 (W64 (y8+y9)) h Z L g i Z o Z Z Z Z Z Z Z fun _ h=>qgA (fun hs=>absurd (hs 14 (by decide)) (by decide)) (Ad (X0 6 Z (rK ⟨_,_,F,rfl,h⟩ Z)))))
 refine qq Z ?_;obtain rfl:=qa F;replace F:=a0;refine X0 5 Z ?_;obtain rfl:=qa F;exact rO 0 h Z ⟨rfl,E⟩
def qaG(c:qD)(d:(List Int))(f:(List Int)):Nat->(List Int)->Int->Option ((List Int)×Int)|0,_,_=>G|n+1,b,a=>bif decide (a<(f.length:Int)) then(idx c.Ai a).bind fun g=>(idx b g).bind fun h=>(idx c.Bn a).bind fun i=>(idx d a).bind fun k=>(idx b a).bind fun _=>qaG c d f n (setS b a (W64 (h+(W64 (i*k))))) (W64 (a+1)) else U (b,a)
def qdO(n:Nat)(b:qm)(net:Int):Option (List Int):=(idx b.Ah net).bind fun f=>(qbM n b net).bind fun a=>(mkS (a.length:Int) (0:Int)).bind fun c=>(qaG f a c n c 1).bind fun(d,_)=>U d
theorem qhc{b:qm}{net}(g:Ro w b cs1){r:(List Int)}(F:qdO n b net=U r):RetV prog 121 [oV qm cs1,vi net] w r:=by
 obtain⟨p1,k1,p2,k2,p3,k3,p4,k4,p5,k5,rfl,_,_,_,_,s5⟩:=qU g;refine zV 49 func121 Z fun h=>zSR (qr h Z Z fun w1 C h=>X0 3 Z (rA [] [0] h Z fun _ h=>M1 7 [0,1,2] 0 (h.p [0] Z) Z ?_));obtain⟨y1,_,F,N,_,_,_,_,Q,T,a0,I⟩:=s5.ix F;obtain⟨p6,k6,p7,k7,p8,k8,p9,k9,rfl,s6,s7,_,_⟩:=qaM a0;refine Ae 3 15 Q T N (h.p [0] Z) Z (Al 4 31 0 I (h.p [0] Z) Z (M1 127 [5,6] 0 (h.p [0] Z) Z ?_));obtain⟨f,y,F⟩:=qe F;refine qpN (fun e w'=>∃a B d c,e=[(5,vp a),(6,oS d f.length c)]/\SH w w' [oX a (qfd y1 p6 p7 p8 p9 k6 k7 k8 k9) 109,oW B (f:List Int) [oS d f.length c],oX C (qb6 b p1 p2 p3 p4 p5 k1 k2 k3 k4 k5) 48]) 0 (bits 11 2047) ?_ ?_
 ·intro K;refine At 7 8 255 383 Z ?_ ?_
  ·exact qlT f h (cB 74 Z) (qda (h.old g) y) Z Z Z Z fun w10 S4 p13 k13 h=>Ag (h.p [1] Z) (Ao 8 511 Z (qC qc h Z Z Z fun w11 D h=>Ag (h.p [2] Z) (Ao 9 1023 Z (zs 0 h Z fun w12 h=>G0 2047 [10] (h.p [2] Z) Z (qpT [(5,_),(6,_)] ⟨rfl,rfl,E⟩ (K _ _ ⟨_,_,_,_,rfl,h⟩))))))
  refine qC qc h Z Z Z fun w10 D h=>Ag (h.p [1] Z) (Ao 7 511 Z (qlT f h (cB 74 Z) (qda (h.old g) y) Z Z Z Z fun w11 S4 p13 k13 h=>Ag (h.p [2] Z) (Ao 9 1023 Z (zs 1 h Z fun w12 h=>G0 2047 [10] (h.p [2] Z) Z ?_))));replace h:=h.p [1,0,2] Z;exact aK K ⟨_,_,_,_,rfl,h⟩ Z
 rintro _ _ ⟨a,B,d,c,rfl,h⟩;refine Ad (X0 4 Z ?_);obtain⟨A,i,F⟩:=qe F;obtain⟨g1,g2,i⟩:=qb5 i;refine qc2 qc Int h Z Z Z Z Z Z Z Z Z g1 g2 i Z fun _ S6 z h=>X0 7 Z ?_;obtain⟨o1,F,H⟩:=qe F;refine ql ?_;replace h:=h.p [0,1,2] Z;refine rL (fun m e w'=>∃x2 i1,qaG y1 f A m x2 i1=U o1/\e=[(5,vp a),(6,oS d f.length c),(7,oS z A.length A.length),(8,vi i1)]/\SH w w' [oW S6 (x2:List Int) [oS z A.length A.length],oX a (qfd y1 p6 p7 p8 p9 k6 k7 k8 k9) 109,oW B (f:List Int) [oS d f.length c]]) n ⟨_,_,F,rfl,h⟩ Z ?_;rintro m1 _ _ ⟨x2,i1,F,rfl,h⟩;rcases m1 with _|m1
 ·cases F
 refine X0 8 Z (qf Z F ?_ ?_)<;>intro F
 ·refine zKSB (rA [22] [0,1,2] h Z fun _ h=>M1 63 [0,1,2,3,4,5] 1 (h.p [0,1,2] Z) Z ?_);obtain⟨_,_,F,O,_,_,_,_,R,W,rfl,J⟩:=s6.ix F;refine Ae 6 127 R W O (h.p [0,1,2] Z) Z (Al 7 255 0 J (h.p [0,1,2] Z) Z ?_);obtain⟨y3,a1,F,k,_,_,_,_,p,u,rfl,_⟩:=(h.sl 0 Z).1.ix F;refine Ax 8 511 p u ⟨k.1,qap k.2.1 (h.sl 0 Z).2⟩ (h.p [0,1,2] Z) Z (Aw 9 1023 (fun w' hw=>qhK qc (qdK (w1:=w) (S1:=fun _=>False) hw 0 Z a1 p u Z) (j:=0) Z Z Z) (h.p [0,1,2] Z) Z ?_);refine M1 8191 [10,11,12] 1 (h.p [0,1,2] Z) Z ?_;obtain⟨y4,_,F,P,_,_,_,_,S,X,rfl,L⟩:=s7.ix F;refine Ae 13 16383 S X P (h.p [0,1,2] Z) Z (Al 14 32767 0 L (h.p [0,1,2] Z) Z (M0 131071 [15,16] (h.p [0,1,2] Z) Z ?_));obtain⟨y5,a2,F,l,_,_,_,_,s,v,rfl,_⟩:=(h.sl 2 Z).1.ix F;refine Ax 17 262143 s v ⟨l.1,qap l.2.1 (h.sl 2 Z).2⟩ (h.p [0,1,2] Z) Z (Aw 18 524287 (fun w' hw=>qhK qc (qdK (w1:=w) (S1:=fun _=>False) hw 2 Z a2 s v Z) (j:=0) Z Z Z) (h.p [0,1,2] Z) Z ?_);refine M0 2097151 [19,20] (h.p [0,1,2] Z) Z ?_;obtain⟨_,a3,F,o,_,_,_,_,t,x,rfl,M⟩:=(h.sl 0 Z).1.ix F;exact Ax 21 4194303 t x ⟨o.1,qap o.2.1 (h.sl 0 Z).2⟩ (h.p [0,1,2] Z) Z (Ao 22 8388607 Z (qdT qc 0 0 (W64 (y3+(W64 (y4*y5)))) h Z a3 t x Z M Z Z Z Z Z Z Z fun _ h=>qgA (fun hs=>absurd (hs 22 (by decide)) (by decide)) (Ad (X0 6 Z (rK ⟨_,_,F,rfl,h⟩ Z)))))
 refine qq Z ?_;obtain rfl:=qa F;replace F:=H;refine X0 5 Z ?_;obtain rfl:=qa F;exact rO 0 h Z ⟨rfl,E⟩
def qaD(c:(List Int))(b:qD):Nat->(List Int)->Int->Option ((List Int)×Int)|0,_,_=>G|n+1,d,a=>bif decide (a<(b.Bc.length:Int)) then(idx b.Bc a).bind fun g=>(idx c g).bind fun h=>(appS d ([h]:List Int)).bind fun f=>qaD c b n f (W64 (a+1)) else U (d,a)
def qca(n:Nat)(b:qm)(net:Int):Option (List Int):=(qdO n b net).bind fun a=>(idx b.Ah net).bind fun d=>(qaD a d n ([]:List Int) 0).bind fun(c,_)=>U c
theorem qgT{b:qm}{net}(g:Ro w b cs1){r:(List Int)}(F:qca n b net=U r):RetV prog 75 [oV qm cs1,vi net] w r:=by
 obtain⟨_,_,_,_,_,_,_,_,_,_,rfl,_,_,_,_,Q⟩:=qU g;refine zV 32 func75 Z fun h=>zSR (qr h Z Z fun _ _ h=>X1 6 0 h Z (zcL h F (qhc (h.old g)) Z fun k _ S1 N L h F=>X1 12 1 h Z ?_));obtain⟨K,_,F,t,_,_,_,_,v,z,C,o⟩:=Q.ix F;obtain⟨_,_,_,_,_,_,I,H,rfl,_,_,_,R⟩:=qaM C;refine zxe v z t Z (zp1 Z (zc 3 (o.below h.below) Z (X0 3 Z ?_)));replace h:=h.nil (α:=Int);obtain⟨P,F,l⟩:=qe F;refine ql ?_;replace h:=h.p [0,1] Z;refine rL (fun m e w'=>∃S2 f d c J D,qaD k K m J D=U P/\e=[(5,oS N k.length L),(6,oS f d c),(17,oS I K.Bc.length H),(18,vi (K.Bc.length:Int)),(19,vi D)]/\SH w w' [oW S2 (J:List Int) [oS f d c],oW S1 (k:List Int) [oS N k.length L]]) n ⟨_,_,_,_,_,_,F,rfl,h⟩ Z ?_;rintro M _ _ ⟨S2,f,d,c,J,D,F,rfl,h⟩;obtain rfl:=(h.sl 0 Z).2;rcases M with _|M
 ·cases F
 refine X0 5 Z (qf Z F ?_ ?_)<;>intro F
 ·refine zKSBSR ?_;obtain⟨_,_,F,u,_,_,_,_,x,A,rfl,p⟩:=R.ix F;refine zxe x A u Z (zc 0 (p.below h.below) Z (X0 6 Z ?_));obtain⟨S,_,F,i,_,_,_,_,y,B,rfl,s⟩:=(h.sl 1 Z).1.ix F;refine zx y B ⟨i.1,qap i.2.1 (h.sl 1 Z).2⟩ Z (zc 0 s Z (qT qc [.tmp 27] _ ([S]:List Int) h Z Z Z Z Z Z Z Z Z ⟨rfl,E⟩ Z fun _ _ _ h=>?_));obtain⟨_,a,F⟩:=qe F;obtain⟨O,a⟩:=qaR a;refine qdP qc 1 h Z (h.sl 0 Z).1 (h.sl 0 Z).2 Z Z Z Z Z Z Z Z Z O a Z fun _ _ _ _ h=>X0 7 Z ?_;replace h:=h.p [1,2] Z;exact rK ⟨_,_,_,_,_,_,F,rfl,h⟩ Z
 refine qq Z ?_;obtain rfl:=qa F;replace F:=l;refine X0 5 Z ?_;obtain rfl:=qa F;exact rO 0 h Z ⟨rfl,E⟩
def qb2(g:(List Int))(d:Int)(f:Int)(h:Int):Nat->(List qaI)->Int->Option ((List qaI)×Int)|0,_,_=>G|n+1,b,a=>bif decide (a<2) then(idx g d).bind fun i=>(appS b ([(⟨W64 ((W64 (2*i))+a),W64 ((W64 (2*h))+a),2,f⟩:qaI)]:List qaI)).bind fun c=>qb2 g d f h n c (W64 (a+1)) else U (b,a)
def qbY(g:(List Int))(f:Int)(d:(List Int)):Nat->(List qaI)->Int->Option ((List qaI)×Int)|0,_,_=>G|n+1,b,a=>bif decide (a<(d.length:Int)) then(idx d a).bind fun h=>(qb2 g f a h n b 0).bind fun(c,_)=>qbY g f d n c (W64 (a+1)) else U (b,a)
def qcF(a:qm)(h:(List (List Int)))(i:(List Int)):Nat->(List (List Int))->(List Int)->(List qaI)->Int->Option ((List (List Int))×(List Int)×(List qaI)×Int)|0,_,_,_,_=>G|n+1,k,l,c,b=>bif decide (b<(a.Ah.length:Int)) then(qbM n a b).bind fun m=>(idx m 0).bind fun r=>(appS l ([r]:List Int)).bind fun d=>(qca n a b).bind fun p=>(appS k ([p]:List (List Int))).bind fun f=>(idx h b).bind fun s=>(qbY i b s n c 0).bind fun(g,_)=>qcF a h i n f d g (W64 (b+1)) else U (k,l,c,b)
def qbt(c:(List Tplace)):Nat->(List (List Int))->(List Int)->Int->Option ((List (List Int))×(List Int)×Int)|0,_,_,_=>G|n+1,d,f,a=>bif decide (a<(c.length:Int)) then(idx c a).bind fun b=>bif b.drives then(idx f b.net).bind fun _=>qbt c n d (setS f b.net a) (W64 (a+1)) else(idx d b.net).bind fun h=>(appS h ([a]:List Int)).bind fun g=>qbt c n (setS d b.net g) f (W64 (a+1)) else U (d,f,a)
def qcI(a:qm):Nat->(List qaI)->Int->Int->Option ((List qaI)×Int×Int)|0,_,_,_=>G|n+1,d,c,b=>bif decide (b<(a.Ab.Aa.length:Int)) then(idx a.Ab.Aa b).bind fun f=>(qcP n a f c).bind fun g=>(appS d g).bind fun i=>(qaz n f.Af).bind fun h=>qcI a n i (W64 (c+h)) (W64 (b+1)) else U (d,c,b)
def qf5(n:Nat)(a:qm):Option (Option Tview):=(qa4 n (⟨a.Ab.Aa,a.Ab.Af,a.Ab.Ac⟩:qb)).bind fun c=>(qcI a n ([]:List qaI) 0 0).bind fun(d,_,_)=>(mkS (a.Ah.length:Int) (0:Int)).bind fun f=>(mkS (a.Ah.length:Int) ([]:(List Int))).bind fun g=>(qbt c n g f 0).bind fun(h,i,_)=>(qcF a h i n ([]:List (List Int)) ([]:List Int) d 0).bind fun(k,l,b,_)=>U (U (⟨(⟨(⟨a.Aq.Aj⟩:qh),(⟨a.Ab.Aa,a.Ab.Af,a.Ab.Ac⟩:qb),a.Ah⟩:qm),c,b,l,k,[]⟩:Tview))
theorem qjN{A}(hA:∀b,A b->old w b){a:qm}(X:GoT.R w A a cs1){r:(Option Tview)}(F:qf5 n a=U r):RetG prog 37 [oV qm cs1] w A r:=by
 obtain⟨M,L,y,s,z,t,B,u,J,D,rfl,s1,s2,s3,s4,s5⟩:=qU X;have hg:=Rg.start hA;refine qmB func37 Z (m:=156) Z Z (fun h=>?_);refine zSR (qr h Z Z fun w1 f h=>X0 3 Z (rA [] [0] h Z fun _ h=>M2 7 [0,1,2] 0 0 (h.p [0] Z) Z (Ao 3 15 Z (zcL h F (qcv (qas _ (h.oldS (s2.mono hg.old)) (h.oldS (s3.mono hg.old)) (h.oldS (s4.mono hg.old)))) Z fun d _ S1 K H h F=>Ag (h.p [1] Z) (Aw 4 31 (fun w' hw=>qe6 qc [0,1] [.tmp 15,.tmp 18] Z Z Z Z Z Z Z Z) (h.p [1] Z) Z ?_)))));refine Ao 5 63 Z (qr h Z Z fun _ c h=>G0 127 [6] (h.p [2] Z) Z (Ad (X1 13 2 h Z ?_)));replace h:=h.nil (α:=qaI);obtain⟨o1,F,hK1⟩:=qe F;refine ql (rL (fun m e w'=>∃S2 p7 ln1 k7 x1 i1 i2,qcI a m x1 i1 i2=U o1/\e=[(1,vp f),(3,vp c),(4,vi i1),(23,oS y a.Ab.Aa.length s),(24,vi (a.Ab.Aa.length:Int)),(25,vi i2)]/\SH w w' [oW S2 (x1:List qaI) [oS p7 ln1 k7],oX c [oS M a.Aq.Aj.length L,oS y a.Ab.Aa.length s,oS z a.Ab.Af.length t,oS B a.Ab.Ac.length u,oS J a.Ah.length D,oS K d.length H,oS p7 ln1 k7,oS G 0 0,oS G 0 0,oS G 0 0] 119,oW S1 (d:List Tplace) [oS K d.length H],oX f (qb6 a M y z B J L s t u D) 48]) n ⟨_,_,_,_,_,_,_,F,rfl,h⟩ Z ?_);rintro m1 _ _ ⟨S2,p7,ln1,k7,x1,i1,i2,F,rfl,h⟩;obtain rfl:=(h.sl 0 Z).2;rcases m1 with _|m1
 ·cases F
 refine X0 5 Z (qf Z F ?_ ?_)<;>intro F
 ·refine zKSBSR ?_;obtain⟨y1,_,F,he1,_,_,_,_,hp1,hq1,hr2,hc2⟩:=s2.ix F;obtain⟨_,_,rfl,s6⟩:=qA hr2;refine zxe hp1 hq1 he1 Z (zc 0 (hc2.below h.below) Z (qC qc h Z Z Z fun _ _ h=>zs 0 h Z fun _ h=>zNS (rA [12] [0,2,4] h Z fun _ h=>M3 255 [0,1,2,3,4,5,6,7] 1 2 0 (h.p [0,2,4] Z) Z (Ao 8 511 Z (zcL h F (qhh (h.old (GoT.mono X hg.old)) (qdN y1 (h.oldS (s6.mono hg.old)))) Z fun _ _ _ _ _ h F=>Ag (h.p [1,3,5] Z) (Ao 9 1023 Z ?_))))));obtain⟨_,hx1,F⟩:=qe F;obtain⟨g1,hx1⟩:=qaR hx1;refine qdP qc 2 h Z (h.sl 0 Z).1 (h.sl 0 Z).2 Z Z Z Z Z Z Z Z Z g1 hx1 Z fun _ _ _ _ h=>Ag (h.p [1,3,5] Z) (Ao 10 2047 Z (zp1 Z (G0 4095 [11] (h.p [1,3,5] Z) Z (Ao 12 8191 Z (zs 3 h Z fun _ h=>qgA (fun hs=>absurd (hs 12 (by decide)) (by decide)) (Ad (X1 4 1 h Z (zcI h F (qa6 ⟨_,_,rfl,(h.oldS (s6.mono hg.old))⟩) Z fun _ _ h F=>X0 8 Z ?_))))))));replace h:=h.p [2,3,4,5] Z;exact rK ⟨_,_,_,_,_,_,_,F,rfl,h⟩ Z
 refine qq Z ?_;obtain rfl:=qa F;replace F:=hK1;refine X1 5 3 h Z ?_;obtain⟨l,hx2,F⟩:=qe F;obtain⟨g2,g3,hx2⟩:=qb5 hx2;refine qc2 qc Int h Z Z Z Z Z Z Z Z Z g2 g3 hx2 Z fun _ S5 g h=>X1 7 4 h Z ?_;obtain⟨o,hx3,F⟩:=qe F;obtain⟨g4,g5,hx3⟩:=qb5 hx3;refine qc2 qc (List Int) h Z Z Z Z Z Z Z Z Z g4 g5 hx3 Z fun _ _ i h=>X1 12 3 h Z ?_;obtain⟨o2,F,hK2⟩:=qe F;refine ql (rL (fun m e w'=>∃(S7:Nat->Prop) (x5:(List (List Int))) (T:(List Int)) (i3:Int),qbt d m x5 T i3=U o2/\e=[(1,vp f),(3,vp c),(7,oS g l.length l.length),(8,oS i o.length o.length),(58,oS K d.length H),(59,vi (d.length:Int)),(60,vi i3)]/\SH w w' [oW S7 (x5:List (List Int)) [oS i o.length o.length],oW S5 (T:List Int) [oS g l.length l.length],oW S2 (x1:List qaI) [oS p7 x1.length k7],oX c [oS M a.Aq.Aj.length L,oS y a.Ab.Aa.length s,oS z a.Ab.Af.length t,oS B a.Ab.Ac.length u,oS J a.Ah.length D,oS K d.length H,oS p7 x1.length k7,oS G 0 0,oS G 0 0,oS G 0 0] 119,oW S1 (d:List Tplace) [oS K d.length H],oX f (qb6 a M y z B J L s t u D) 48]) n ⟨_,_,_,_,F,rfl,h⟩ Z ?_);rintro m2 _ _ ⟨S7,x5,T,i3,F,rfl,h⟩;rcases m2 with _|m2
 ·cases F
 refine X0 5 Z (qf Z F ?_ ?_)<;>intro F
 ·refine X0 6 Z ?_;obtain⟨y2,_,F,he2,_,_,_,_,hp2,hq2,hr5,hc4⟩:=(h.sl 4 Z).1.ix F;obtain rfl:=qd1 hr5;refine zx hp2 hq2 ⟨he2.1,qap he2.2.1 (h.sl 4 Z).2⟩ Z (zc 0 hc4 Z (qC qc h Z Z Z fun _ bb4 h=>zp1 Z (zs 0 h Z fun _ h=>X1 6 0 h Z (qf Z F ?_ ?_))))<;>intro F
  ·refine X1 5 0 h Z ?_;obtain⟨_,hy3,F,he3,_,_,_,_,hp3,hq3,rfl,hc6⟩:=(h.sl 2 Z).1.ix F;refine zx hp3 hq3 ⟨he3.1,qap he3.2.1 (h.sl 2 Z).2⟩ Z (qdT qc 2 0 i3 h Z hy3 hp3 hq3 Z hc6 Z Z Z Z Z Z Z fun _ h=>X0 6 Z ?_);replace h:=h.p [1,2,3,4,5,6] Z;exact rK ⟨_,_,_,_,F,rfl,h⟩ Z
  obtain⟨_,hy4,F⟩:=qe F;have a0:=qa8 hy4;replace h:=h.p [1,0,2,3,4,5,6] Z;obtain⟨_,S9,_,h⟩:=h.take hy4;obtain⟨_,_,rfl,-⟩:=h.own 0 Z;refine rA [12] [1,2] h Z fun _ h=>M2 63 [0,1,2,3,4,5] 1 1 (h.p [1,2] Z) Z ?_;obtain⟨_,hp4,-,-,hl2⟩:=h.holeAt 1 Z;obtain⟨q4,hq4⟩:∃q,q=0+(y2.net).toNat*GoT.k (List Int):=⟨_,rfl⟩;refine Ax 6 127 hp4 hq4 ⟨a0.1,qap a0.2.1 hl2⟩ (h.p [1,2] Z) Z (Aw 7 255 (fun w' hw=>qhK qc (qmV hw 0 Z hp4 hq4) (j:=0) Z Z Z) (h.p [1,2] Z) Z ?_);refine M0 511 [8] (h.p [1,2] Z) Z (Ao 9 1023 Z (qT qc [.tmp 80] _ ([i3]:List Int) h Z Z Z Z Z Z Z Z Z ⟨rfl,E⟩ Z fun _ p14 S10 h=>Ag (h.p [2,3] Z) (Ao 10 2047 Z ?_)));obtain⟨x7,hx4,F⟩:=qe F;obtain⟨g6,hx4⟩:=qaR hx4;refine qdP qc 1 h Z (h.sl 0 Z).1 (h.sl 0 Z).2 Z Z Z Z Z Z Z Z Z g6 hx4 Z fun _ p15 k12 S11 h=>Ag (h.p [2,3] Z) ?_;obtain⟨_,hp5,-,-,hl4⟩:=h.holeAt 2 Z;obtain⟨q5,hq5⟩:∃q,q=0+(y2.net).toNat*GoT.k (List Int):=⟨_,rfl⟩;refine Ax 11 4095 hp5 hq5 ⟨a0.1,qap a0.2.1 hl4⟩ (h.p [2,3] Z) Z (Ao 12 8191 Z (qoV qc 2 0 h Z hp5 hq5 Z Z Z Z Z Z fun _ h=>?_));replace h:SH _ _ [oW S10 (([i3]:List Int):List Int) [oS p14 1 1],oW S11 (x7:List Int) [oS p15 x7.length k12],Ch.hole S9 (x5:List (List Int)) i o.length o.length (y2.net).toNat [oS p15 x7.length k12],oX bb4 (qkT y2) 115,oW S5 (T:List Int) [oS g l.length l.length],oW S2 (x1:List qaI) [oS p7 x1.length k7],oX c [oS M a.Aq.Aj.length L,oS y a.Ab.Aa.length s,oS z a.Ab.Af.length t,oS B a.Ab.Ac.length u,oS J a.Ah.length D,oS K d.length H,oS p7 x1.length k7,oS G 0 0,oS G 0 0,oS G 0 0] 119,oW S1 (d:List Tplace) [oS K d.length H],oX f (qb6 a M y z B J L s t u D) 48]:=h;refine qgA (fun hs=>absurd (hs 12 (by decide)) (by decide)) (Ad (X0 5 Z ?_));replace h:=h.p [1,2,0,3,4,5,6,7,8] Z;replace h:=h.put;obtain⟨_,h⟩:=qp0 (S:=_) h;replace h:=h.p [0,3,4,5,6,7] Z;exact rK ⟨_,_,_,_,F,rfl,h⟩ Z
 refine qq Z ?_;obtain rfl:=qa F;replace F:=hK2;refine X1 8 5 h Z ?_;replace h:=h.nil (α:=Int);replace h:=h.nil (α:=(List Int));obtain⟨o3,F,hK3⟩:=qe F;refine ql (rL (fun m e w'=>∃(S13:Nat->Prop) (v:Option Addr) (ln2:Nat) (p:Nat) (R:(List (List Int))) (S14:Nat->Prop) (I:Option Addr) (ln3:Nat) (C:Nat) (W:(List Int)) (S15:Nat->Prop) (O:Option Addr) (ln4:Nat) (N:Nat) (k:(List qaI)) (i4:Int),qcF a x5 T m R W k i4=U o3/\e=[(1,vp f),(3,vp c),(7,oS g l.length l.length),(8,oS i o.length o.length),(87,vi (a.Ah.length:Int)),(88,vi i4)]/\SH w w' [oW S13 (R:List (List Int)) [oS v ln2 p],oW S14 (W:List Int) [oS I ln3 C],oW S7 (x5:List (List Int)) [oS i o.length o.length],oW S5 (T:List Int) [oS g l.length l.length],oW S15 (k:List qaI) [oS O ln4 N],oX c [oS M a.Aq.Aj.length L,oS y a.Ab.Aa.length s,oS z a.Ab.Af.length t,oS B a.Ab.Ac.length u,oS J a.Ah.length D,oS K d.length H,oS O ln4 N,oS I ln3 C,oS v ln2 p,oS G 0 0] 119,oW S1 (d:List Tplace) [oS K d.length H],oX f (qb6 a M y z B J L s t u D) 48]) n ⟨_,_,_,_,_,_,_,_,_,_,_,_,_,_,_,_,F,rfl,h⟩ Z ?_);rintro m3 _ _ ⟨S13,v,ln2,p,R,S14,I,ln3,C,W,S15,O,ln4,N,k,i4,F,rfl,h⟩;obtain rfl:=(h.sl 0 Z).2;obtain rfl:=(h.sl 1 Z).2;obtain rfl:=(h.sl 4 Z).2;rcases m3 with _|m3
 ·cases F
 refine X0 5 Z (qf Z F ?_ ?_)<;>intro F
 ·refine X0 9 Z (rA [14] [5,7] h Z fun _ h=>M2 127 [0,1,2,3,4,5,6] 0 1 (h.p [5,7] Z) Z (Ao 7 255 Z (zcL h F (qda (h.old (GoT.mono X hg.old))) Z fun _ _ _ _ _ h F=>Ag (h.p [6,8] Z) ?_)));obtain⟨y5,_,F,he5,_,_,_,_,hp6,hq6,rfl,hc8⟩:=(h.sl 0 Z).1.ix F;refine Ax 8 511 hp6 hq6 ⟨he5.1,qap he5.2.1 (h.sl 0 Z).2⟩ (h.p [6,8] Z) Z (Ao 9 1023 Z (zc 0 hc8 Z (Ag (h.p [6,8] Z) (Ao 10 2047 Z (qT qc [.tmp 100] _ ([y5]:List Int) h Z Z Z Z Z Z Z Z Z ⟨rfl,E⟩ Z fun _ _ _ h=>Ag (h.p [7,9] Z) (Ao 11 4095 Z ?_))))));obtain⟨P,hx5,F⟩:=qe F;obtain⟨g7,hx5⟩:=qaR hx5;refine qdP qc 3 h Z (h.sl 0 Z).1 (h.sl 0 Z).2 Z Z Z Z Z Z Z Z Z g7 hx5 Z fun _ p21 k17 S18 h=>Ag (h.p [7,9] Z) (Ao 12 8191 Z (zp1 Z (G0 16383 [13] (h.p [7,9] Z) Z (Ao 14 32767 Z (zs 7 h Z fun _ h=>qgA (fun hs=>absurd (hs 14 (by decide)) (by decide)) (Ad (qeu (rA [12] [7,9] h Z fun _ h=>M2 127 [0,1,2,3,4,5,6] 0 1 (h.p [7,9] Z) Z (Ao 7 255 Z (zcL h F (qgT (h.old (GoT.mono X hg.old))) Z fun r5 _ _ _ _ h F=>Ag (h.p [8,10] Z) (Ao 8 511 Z (qny qc [.tmp 112] _ ([r5]:List (List Int)) [1,2,3,4,5,6,7,8,9,10] h Z Z Z Z Z Z Z Z Z (qoi (qbP 0 h Z) qps Z) Z Z fun _ _ _ h=>Ag (h.p [8,10] Z) (Ao 9 1023 Z ?_)))))))))))));obtain⟨Q,hx6,F⟩:=qe F;obtain⟨g8,hx6⟩:=qaR hx6;replace h:=h.p [0,3,1,2,4,5,6,7,8,9,10] Z;refine qpF qc h Z Z Z Z Z Z Z Z Z g8 hx6 Z fun _ p24 k19 S21 h=>Ag (h.p [7,9] Z) (Ao 10 2047 Z (zp1 Z (G0 4095 [11] (h.p [7,9] Z) Z (Ao 12 8191 Z (zs 7 h Z fun _ h=>qgA (fun hs=>absurd (hs 12 (by decide)) (by decide)) (Ad (X0 4 Z ?_)))))));obtain⟨y6,hy6,F⟩:=qe F;have he6:=qa8 hy6;replace h:=h.lrn0 4 Z;obtain⟨_,o_5,_,_,hp7,hq7,-,hr10,hc9⟩:=(qg1 (h.lrnO 4 Z)).1.at hy6;have hr11:=hr10;obtain⟨p25,k20,rfl,_⟩:=hr10;replace h:=h.lrnAdd 4 Z hr11;refine zx hp7 hq7 ⟨he6.1,qap he6.2.1 (qg1 (h.lrnO 4 Z)).2⟩ Z (zc 0 hc9 Z (X0 3 Z ?_));obtain⟨o4,F,hK4⟩:=qe F;refine ql ?_;replace h:=h.p [0,3,4,5,6,7,8,9] Z;refine rL (fun m e w'=>∃S22 p26 ln5 k21 x13 i5,qbY T i4 y6 m x13 i5=U o4/\e=[(1,vp f),(3,vp c),(7,oS g l.length l.length),(8,oS i o.length o.length),(11,vi i4),(87,vi (a.Ah.length:Int)),(88,vi i4),(120,oS p25 y6.length k20),(121,vi (y6.length:Int)),(122,vi i5)]/\SH w w' [oW S21 (Q:List (List Int)) [oS p24 Q.length k19],oW S18 (P:List Int) [oS p21 P.length k17],Ch.lrn S7 (x5:List (List Int)) [oS i o.length o.length] [fct (y6:(List Int)) [oS p25 y6.length k20]],oW S5 (T:List Int) [oS g l.length l.length],oW S22 (x13:List qaI) [oS p26 ln5 k21],oX c [oS M a.Aq.Aj.length L,oS y a.Ab.Aa.length s,oS z a.Ab.Af.length t,oS B a.Ab.Ac.length u,oS J a.Ah.length D,oS K d.length H,oS p26 ln5 k21,oS p21 P.length k17,oS p24 Q.length k19,oS G 0 0] 119,oW S1 (d:List Tplace) [oS K d.length H],oX f (qb6 a M y z B J L s t u D) 48]) m3 ⟨_,_,_,_,_,_,F,rfl,h⟩ Z ?_;rintro m4 _ _ ⟨S22,p26,ln5,k21,x13,i5,F,rfl,h⟩;obtain rfl:=(h.sl 4 Z).2;rcases m4 with _|m4
  ·cases F
  refine X0 5 Z (qf Z F ?_ ?_)<;>intro F
  ·refine X0 6 Z ?_;obtain⟨y7,_,F,he7,_,_,_,_,hp8,hq8,rfl,hc11⟩:=(qg1 (GoT.mono (h.lrnS 2 0 Z Z) (h.lrnB 2 Z))).1.ix F;refine zx hp8 hq8 ⟨he7.1,qap he7.2.1 (qg1 (GoT.mono (h.lrnS 2 0 Z Z) (h.lrnB 2 Z))).2⟩ Z (zc 0 hc11 Z (X0 7 Z ?_));obtain⟨o5,F,hK5⟩:=qe F;refine ql (rL (fun m e w'=>∃S23 p27 ln6 k22 x14 i6,qb2 T i4 i5 y7 m x14 i6=U o5/\e=[(1,vp f),(3,vp c),(7,oS g l.length l.length),(8,oS i o.length o.length),(11,vi i4),(12,vi i5),(13,vi y7),(87,vi (a.Ah.length:Int)),(88,vi i4),(120,oS p25 y6.length k20),(121,vi (y6.length:Int)),(122,vi i5),(127,vi i6)]/\SH w w' [oW S21 (Q:List (List Int)) [oS p24 Q.length k19],oW S18 (P:List Int) [oS p21 P.length k17],Ch.lrn S7 (x5:List (List Int)) [oS i o.length o.length] [fct (y6:(List Int)) [oS p25 y6.length k20]],oW S5 (T:List Int) [oS g l.length l.length],oW S23 (x14:List qaI) [oS p27 ln6 k22],oX c [oS M a.Aq.Aj.length L,oS y a.Ab.Aa.length s,oS z a.Ab.Af.length t,oS B a.Ab.Ac.length u,oS J a.Ah.length D,oS K d.length H,oS p27 ln6 k22,oS p21 P.length k17,oS p24 Q.length k19,oS G 0 0] 119,oW S1 (d:List Tplace) [oS K d.length H],oX f (qb6 a M y z B J L s t u D) 48]) m4 ⟨_,_,_,_,_,_,F,rfl,h⟩ Z ?_);rintro m5 _ _ ⟨S23,p27,ln6,k22,x14,i6,F,rfl,h⟩;obtain rfl:=(h.sl 4 Z).2;rcases m5 with _|m5
   ·cases F
   refine X0 5 Z (qf Z F ?_ ?_)<;>intro F
   ·refine X0 8 Z (rA [22] [3,5] h Z fun _ h=>M1 127 [0,1,2,3,4,5,6] 1 (h.p [3,5] Z) Z ?_);obtain⟨y8,hy8,F,he8,_,_,_,_,hp9,hq9,rfl,_⟩:=(h.sl 3 Z).1.ix F;refine Ax 7 255 hp9 hq9 ⟨he8.1,qap he8.2.1 (h.sl 3 Z).2⟩ (h.p [3,5] Z) Z (Aw 8 511 (fun w' hw=>qhK qc (qdK (w1:=w) (S1:=fun _=>False) hw 0 Z hy8 hp9 hq9 Z) (j:=0) Z Z Z) (h.p [3,5] Z) Z ?_);refine M0 131071 [9,10,11,12,13,14,15,16] (h.p [3,5] Z) Z (Aw 17 262143 (fun w' hw=>qe6 qc [0,1,2,3] [.tmp 141,.tmp 145,.const (vi (2)),.tmp 146] Z Z Z Z Z Z Z Z) (h.p [3,5] Z) Z ?_);refine Ao 18 524287 Z (qT qc [.tmp 147] _ ([(⟨W64 ((W64 (2*y8))+i6),W64 ((W64 (2*y7))+i6),2,i5⟩:qaI)]:List qaI) h Z Z Z Z Z Z Z Z Z ⟨(qlA (⟨W64 ((W64 (2*y8))+i6),W64 ((W64 (2*y7))+i6),2,i5⟩:qaI)),E⟩ Z fun _ _ _ h=>Ag (h.p [4,6] Z) (Ao 19 1048575 Z ?_));obtain⟨_,hx7,F⟩:=qe F;obtain⟨g9,hx7⟩:=qaR hx7;refine qdP qc 5 h Z (h.sl 0 Z).1 (h.sl 0 Z).2 Z Z Z Z Z Z Z Z Z g9 hx7 Z fun _ _ _ _ h=>Ag (h.p [4,6] Z) (Ao 20 2097151 Z (zp1 Z (G0 4194303 [21] (h.p [4,6] Z) Z (Ao 22 8388607 Z (zs 6 h Z fun _ h=>qgA (fun hs=>absurd (hs 22 (by decide)) (by decide)) (Ad (X0 5 Z ?_)))))));replace h:=h.p [1,2,3,4,5,6,7,8] Z;exact rK ⟨_,_,_,_,_,_,F,rfl,h⟩ Z
   refine qq Z ?_;obtain rfl:=qa F;replace F:=hK5;exact X0 5 Z (rK ⟨_,_,_,_,_,_,F,rfl,h⟩ Z)
  refine qq Z ?_;obtain rfl:=qa F;replace F:=hK4;refine X0 5 Z ?_;replace h:=h.unlrn 2 Z;exact rK ⟨_,_,_,_,_,_,_,_,_,_,_,_,_,_,_,_,F,rfl,h⟩ Z
 refine qq Z ?_;obtain rfl:=qa F;replace F:=hK3;refine X0 5 Z ?_;obtain rfl:=qa F;have hv1:GoRs.Rs (ρ:=(Option Tview)) h.wc (reg A w h.wc) (U (⟨(⟨(⟨a.Aq.Aj⟩:qh),(⟨a.Ab.Aa,a.Ab.Af,a.Ab.Ac⟩:qb),a.Ah⟩:qm),d,k,W,R,[]⟩:Tview)) [oV (Option Tview) [vp c]]:=⟨_,rfl,(hg.outR h (Rg.boxR (x:=(⟨(⟨(⟨a.Aq.Aj⟩:qh),(⟨a.Ab.Aa,a.Ab.Af,a.Ab.Ac⟩:qb),a.Ah⟩:qm),d,k,W,R,[]⟩:Tview)) 5 h Z (⟨[oS M a.Aq.Aj.length L,oS y a.Ab.Aa.length s,oS z a.Ab.Af.length t,oS B a.Ab.Ac.length u,oS J a.Ah.length D],[oS K d.length H,oS O k.length N,oS I W.length C,oS v R.length p,oS G 0 0],rfl,⟨[oS M a.Aq.Aj.length L],[oS y a.Ab.Aa.length s,oS z a.Ab.Af.length t,oS B a.Ab.Ac.length u,oS J a.Ah.length D],rfl,⟨_,_,rfl,(hg.inS h s1)⟩,⟨[oS y a.Ab.Aa.length s,oS z a.Ab.Af.length t,oS B a.Ab.Ac.length u],[oS J a.Ah.length D],rfl,⟨[oS y a.Ab.Aa.length s],[oS z a.Ab.Af.length t,oS B a.Ab.Ac.length u],rfl,⟨_,_,rfl,(hg.inS h s2)⟩,⟨[oS z a.Ab.Af.length t],[oS B a.Ab.Ac.length u],rfl,⟨_,_,rfl,(hg.inS h s3)⟩,⟨_,_,rfl,(hg.inS h s4)⟩⟩⟩,⟨_,_,rfl,(hg.inS h s5)⟩⟩⟩,⟨[oS K d.length H],[oS O k.length N,oS I W.length C,oS v R.length p,oS G 0 0],rfl,(Rg.ownR 6 h Z),⟨[oS O k.length N],[oS I W.length C,oS v R.length p,oS G 0 0],rfl,(Rg.ownR 4 h Z),⟨[oS I W.length C],[oS v R.length p,oS G 0 0],rfl,(Rg.ownR 1 h Z),⟨[oS v R.length p],[oS G 0 0],rfl,(Rg.ownR 0 h Z),⟨_,_,rfl,qpR⟩⟩⟩⟩⟩⟩)))⟩;exact qp6 qc (ρ:=(Option Tview)) (r:=(U (⟨(⟨(⟨a.Aq.Aj⟩:qh),(⟨a.Ab.Aa,a.Ab.Af,a.Ab.Ac⟩:qb),a.Ah⟩:qm),d,k,W,R,[]⟩:Tview))) [oV (Option Tview) [vp c]] h ⟨rfl,E⟩ hv1
def qbd(_:Nat)(list:(List Tplace)):Option Int:=U (list.length:Int)
theorem qgQ{list:(List Tplace)}(a:Ro w list cs1){r:Int}(F:qbd n list=U r):RetV prog 77 [oV (List Tplace) cs1] w r:=by
 obtain⟨_,_,rfl,_⟩:=a;exact zV 5 func77 Z fun h=>X0 10 Z (ri h F Z)
def qgb(n:Nat)(kind:Int)(d:Int):Option Bool:=bif (kind==1) then U (d==0) else bif (kind==2) then(qY n d 1 10).bind fun a=>U a else bif (kind==3) then bif (kind==3) then(qY n d 0 1000000000).bind fun b=>U b else U false else bif (kind==4) then(qY n d 0 1000000000).bind fun c=>U c else U false
theorem qjR{kind value}  {r:Bool}(F:qgb n kind value=U r):RetV prog 78 [vi kind,vi value] w r:=by
 refine zV 19 func78 Z fun h=>X0 15 Z (qf Z F ?_ ?_)<;>intro F
 ·exact X0 6 Z (rb h F Z)
 refine X0 5 Z (qf Z F ?_ ?_)<;>intro F
 ·exact X0 3 Z (zcB h F qQ Z fun _ _ h F=>X0 2 Z (rb h F Z))
 refine X0 6 Z (qf Z F ?_ ?_)<;>intro F
 ·refine qe3 (qf Z F ?_ ?_)<;>intro F
  ·exact X0 3 Z (zcB h F qQ Z fun _ _ h F=>X0 2 Z (rb h F Z))
  exact X0 6 Z (rb h F Z)
 refine X0 4 Z (qf Z F ?_ ?_)<;>intro F
 ·exact X0 3 Z (zcB h F qQ Z fun _ _ h F=>X0 2 Z (rb h F Z))
 exact X0 6 Z (rb h F Z)
def qI(v:(Option Tview))(g:qk):Nat->Int->Option (Flow Bool Int)|0,_=>G|n+1,a=>bif decide (a<((3:Nat):Int)) then(idx ([g.Av,g.Au,g.To]:List (List Int)) a).bind fun b=>bif decide ((b.length:Int) > 4) then U (.ret false) else(v).bind fun f=>(qbd n f.places).bind fun c=>(qaU n b 0 (W64 (c-1))).bind fun d=>bif (!d) then U (.ret false) else qI v g n (W64 (a+1)) else U (.nxt a)
def qcw(n:Nat)(v:(Option Tview))(d:qk):Option Bool:=(qI v d n 0).bind fun|.ret r=>U r|.nxt _=>(qgb n d.Ap d.Bd).bind fun a=>bif a then(qbU n d.Av).bind fun b=>bif b then(qbU n d.To).bind fun c=>U c else U false else U false
theorem qg9{v:(Option Tview)}{T:qk}(d:Ro w v cs1)(f:Ro w T cs2){r:Bool}(F:qcw n v T=U r):RetV prog 38 [oV (Option Tview) cs1,oV qk cs2] w r:=by
 obtain⟨M,rfl,Q⟩:=qkl d;obtain⟨N,D,O,H,P,I,rfl,B,R,C⟩:=qae f;refine zV 49 func38 Z fun h=>zSR (qr h Z Z fun _ b h=>X3 11 0 0 0 h Z (qlJ qc [.tmp 8,.tmp 10,.tmp 12] _ ([T.Av,T.Au,T.To]:List (List Int)) h Z Z Z Z Z Z Z Z Z ⟨⟨_,_,rfl,B⟩,⟨_,_,rfl,R⟩,⟨_,_,rfl,C⟩,E⟩ Z fun _ A S1 h=>X0 3 Z ?_));obtain⟨J,F,a⟩:=qe F;refine ql (rL (fun m e w'=>∃x,qI v T m x=U J/\e=[(0,.pointer M),(3,vp b),(13,oS A 3 3),(14,vi ((3:Nat):Int)),(15,vi x)]/\SH w w' [Ch.rowD w S1 (([T.Av,T.Au,T.To]:List (List Int)):List (List Int)) A 3,oX b (qeW T N O P D H I) 50]) n ⟨_,F,rfl,h⟩ Z ?_);rintro z _ _ ⟨x,F,rfl,h⟩;rcases z with _|z
 ·cases F
 refine X0 5 Z (qf Z F ?_ ?_)<;>intro F
 ·refine zKSBSR ?_;obtain⟨_,c,F⟩:=qe F;have k:=qa8 c;obtain⟨_,K,_,_,l,o,-,p,g⟩:=h.atD 0 Z c;obtain⟨_,_,rfl,S⟩:=p;refine zxe l o k Z (zc 0 g Z (X0 8 Z (qg (t:=22) F Z ?_ ?_)))<;>intro F
  ·refine X0 11 Z (qc3 Z Z (X0 4 Z ?_));obtain rfl:=qa F;replace F:=a;exact rb h F Z
  refine X0 5 Z ?_;obtain⟨_,u,F⟩:=qe F;obtain⟨_,L,_,rfl,-,s,i⟩:=PtR.get Q u;obtain⟨_,_,_,_,_,_,_,_,_,_,_,_,_,_,_,_,_,_,_,_,rfl,_,_,_,_,_,y,_,_,_,_⟩:=qkE s;refine X0 4 Z (zc 5 (i.below h.below) Z (X0 1 Z (zcI h F (qgQ ⟨_,_,rfl,(h.oldS y)⟩) Z fun _ _ h F=>X0 3 Z (zcB h F (qbe ⟨_,_,rfl,(h.oldS S)⟩) Z fun _ _ h F=>X0 4 Z (qf Z F ?_ ?_)))))<;>intro F
  ·refine X0 4 Z ?_;obtain rfl:=qa F;replace F:=a;exact rb h F Z
  exact X0 6 Z (rK ⟨_,F,rfl,h⟩ Z)
 refine qq Z ?_;obtain rfl:=qa F;replace F:=a;refine X2 6 1 1 h Z (zcB h F qjR Z fun _ _ h F=>zp1 Z (qg (t:=39) F Z ?_ ?_))<;>intro F
 ·refine X1 5 1 h Z (zcB h F (qd3 ⟨_,_,rfl,(h.oldS B)⟩) Z fun _ _ h F=>zp2 Z (qg (t:=44) F Z ?_ ?_))<;>intro F
  ·exact X1 5 1 h Z (zcB h F (qd3 ⟨_,_,rfl,(h.oldS C)⟩) Z fun _ _ h F=>X0 3 Z (rb h F Z))
  exact X0 6 Z (rb h F Z)
 exact X0 11 Z (rb h F Z)
def qhB(n:Nat)(l:qh)(d:qb)(g:Int):Option (Tl05Place×Bool):=(qeB n l d).bind fun b=>bif (!b) then U ((⟨0,0,0,false⟩:Tl05Place),false) else(qdj n d).bind fun a=>(qO n g 0 (W64 ((a.length:Int)-1))).bind fun c=>bif (!c) then U ((⟨0,0,0,false⟩:Tl05Place),false) else(idx a g).bind fun f=>U (f,true)
theorem qla{l:qh}{d:qb}{place}(b:Ro w l cs1)(a:Ro w d cs2){r:(Tl05Place×Bool)}(F:qhB n l d place=U r):RetV prog 105 [oV qh cs1,oV qb cs2,vi place] w r:=by
 obtain⟨_,_,rfl,_⟩:=qZ b;obtain⟨_,_,_,_,_,_,rfl,_,_,_⟩:=qJ a;refine zV 27 func105 Z fun h=>zSR (qr h Z Z fun _ _ h=>qr h Z Z fun _ _ h=>qC qc h Z Z Z fun _ _ h=>X2 7 2 1 h Z (zcB h F (qhm (h.old b) (h.old a)) Z fun _ _ h F=>X0 2 Z (qf Z F ?_ ?_)))<;>intro F
 ·refine zSR (r_v (qe6 qc [] [] Z Z Z Z Z Z Z Z) Z (zs 0 h Z fun _ h=>X0 2 Z ?_));obtain rfl:=qa F;exact qah qc (ρ:=(Tl05Place×Bool)) [oV Tl05Place [vi 0,vi 0,vi 0,.bool false],oV Bool [.bool false]] h ⟨⟨_,_,_,rfl,rfl,h.box 0 Z,rfl⟩,rfl,E⟩ (PV.done h (qfE h (qao (S:=fun _=>False) (qeA (⟨0,0,0,false⟩:Tl05Place))) (qb1 (qao (S:=fun _=>False) Z)) (by rfl)))
 refine X1 4 1 h Z (zcL h F (qeU (h.old a)) Z fun _ _ _ _ _ h F=>X0 9 Z (zcB h F qE Z fun _ _ h F=>X0 2 Z (qf Z F ?_ ?_)))<;>intro F
 ·refine zSR (r_v (qe6 qc [] [] Z Z Z Z Z Z Z Z) Z (zs 1 h Z fun _ h=>X0 2 Z ?_));obtain rfl:=qa F;exact qah qc (ρ:=(Tl05Place×Bool)) [oV Tl05Place [vi 0,vi 0,vi 0,.bool false],oV Bool [.bool false]] h ⟨⟨_,_,_,rfl,rfl,h.box 1 Z,rfl⟩,rfl,E⟩ (PV.done h (qfE h (qao (S:=fun _=>False) (qeA (⟨0,0,0,false⟩:Tl05Place))) (qb1 (qao (S:=fun _=>False) Z)) (by rfl)))
 refine X0 5 Z ?_;obtain⟨m,_,F,c,_,_,_,_,g,i,k,f⟩:=(h.sl 0 Z).1.ix F;obtain rfl:=qd2 k;refine zx g i ⟨c.1,qap c.2.1 (h.sl 0 Z).2⟩ Z (zc 0 f Z (zs 1 h Z fun _ h=>X0 2 Z ?_));obtain rfl:=qa F;exact qah qc (ρ:=(Tl05Place×Bool)) [oV Tl05Place (qid m),oV Bool [.bool true]] h ⟨⟨_,_,_,rfl,rfl,h.box 1 Z,rfl⟩,rfl,E⟩ (PV.done h (qfE h (qao (S:=fun _=>False) (qeA m)) (qb1 (qao (S:=fun _=>False) Z)) (by rfl)))
end Go.Fw


namespace Go.Fw
open Go
set_option maxRecDepth 100000
theorem qnM{d:qb}{k:Int}{n i:Nat}(hi:i<(sinksL d k n).length):∃y:Nat,y<n/\idx (sinksL d k n) (i:Int)=U (y:Int)/\snkQ d k y=true:=by
 rw[qgE hi];have a:(sinksL d k n)[i]∈sinksL d k n:=jt hi;generalize (sinksL d k n)[i]=z at a;unfold sinksL at a;obtain⟨y,f,rfl⟩:=List.mem_map.1 a;obtain⟨b,c⟩:=List.mem_filter.1 f;exact⟨y,List.mem_range.1 b,rfl,c⟩
theorem qk4{d:qb}{k:Int}(h:smallD d):Ev (fun n=>qdZ n d k) (sinksL d k (places d).length):=by
 have g:=qdn h;have c:Ev (fun n=>qaj k (places d) n ([]:List Int) 0) (sinksL d k (places d).length,((places d).length:Int)):=by
  refine loopF (Lf:=qaj k (places d)) (S:=fun j=>sinksL d k j) (len:=(places d).length) (fun n=>?_) (fun j b X a=>?_)
  ·simp only[qaj,qj (je _),cond_false]
  ·have f:(sinksL d k j).length+[(j:Int)].length<=2147483648:=by
    rw[qfq];have:cntP (snkQ d k) j<=j:=qdV;simp;omega
   simp only[qaj,qi b,cond_true,qM b,jd,wS j];rw[qij] at a;unfold snkQ at a;cases h1:((gt (places d) j).net==k)
   ·rw[h1] at a;simp only[Bool.false_and,cond_false,List.append_nil] at a⊢;exact a
   ·cases h2:(gt (places d) j).drives
    ·rw[h1,h2] at a;simp only[Bool.not_false,Bool.and_self,cond_true,qds f,jd] at a⊢;exact a
    ·rw[h1,h2] at a;simp only[jI,Bool.and_false,cond_false,List.append_nil,cond_true] at a⊢;exact a
 unfold qdZ;exact Ev.bind (qiq h) (Ev.bind c .done)
structure wireOk(b:qm)(i:Nat):Prop where
 lo:1<=(gt b.Ah i).Ai.length
 hi:(gt b.Ah i).Ai.length<=8
 res:(gt b.Ah i).Bn.length=(gt b.Ah i).Ai.length
 cap:(gt b.Ah i).Bj.length=(gt b.Ah i).Ai.length
 par:∀j,0<j->j<(gt b.Ah i).Ai.length->0<=at0 (gt b.Ah i).Ai j/\at0 (gt b.Ah i).Ai j<j
 snk:(gt b.Ah i).Bc.length=(sinksL b.Ab (i:Int) (places b.Ab).length).length
 sin:∀j,j<(gt b.Ah i).Bc.length->0<=at0 (gt b.Ah i).Bc j/\at0 (gt b.Ah i).Bc j<(gt b.Ah i).Ai.length
theorem qhY{b:qm}(h:blockB b=true){i:Nat}(hi:i<b.Ah.length):wireOk b i:=by
 unfold blockB at h;rw[jg,qX] at h;have:=h.2 i hi;unfold wireB lenB at this;simp only[jg,decide_eq_true_eq,beq_iff_eq] at this;obtain⟨⟨f,g⟩,n,o,k,_,_,l,c⟩:=this;refine⟨f,g,by omega,by omega,fun j m a=>?_,?_,fun j a=>?_⟩
 ·have:=qX.1 k j a;unfold treeB at this;rw[show decide (j=0)=false by simp;omega] at this;simp only[cond_false,qbm] at this;omega
 ·rw[qfq];unfold snkN at l;omega
 ·rw[qe9 (d:=0),qX] at c;have:=c j a;rw[qbm] at this;unfold at0;omega
theorem qnk{b:qm}(h:blockB b=true):b.Ah.length=b.Ab.Af.length:=by
 unfold blockB at h;simp only[jg,beq_iff_eq] at h;omega
theorem qow{b:qm}(h:blockB b=true){j:Nat}(g:j<(places b.Ab).length):∃c,∀n,qdU n b.Ab b.Aq (gt (places b.Ab) j)=U c:=by
 have f:=qcZ h;rcases qjI g with⟨i,k,hi,hk,_,e⟩|⟨i,hi,_,e⟩
 ·rw[e];obtain⟨⟨a,d⟩,l,_⟩:=qjy f hi;refine⟨(gt (gt b.Aq.Aj (gt b.Ab.Aa i).Bf.toNat).Ak k).Bj,fun n=>?_⟩;unfold place1;simp only[qdU,show decide ((i:Int)<0)=false by simp,cond_false,qM hi,jd,qeJ a d,qM (show k<(gt b.Aq.Aj (gt b.Ab.Aa i).Bf.toNat).Ak.length by omega)]
 ·rw[e];exact⟨0,fun n=>rfl⟩
theorem qjb{b:qm}(h:blockB b=true){i:Nat}(hi:i<b.Ah.length):∃r:List Int,r.length=(gt b.Ah i).Ai.length/\Ev (fun n=>qbM n b (i:Int)) r:=by
 have a:=qhY h hi;have l:=qbK (qcZ h);have A:=a.lo;have z:=a.hi;have d:=a.cap;have I:=qdn l;obtain⟨F,C,e1⟩:=loopE (Lf:=qaQ b (gt b.Ah i) (places b.Ab) (sinksL b.Ab (i:Int) (places b.Ab).length)) (fin:=fun t=>(t,((sinksL b.Ab (i:Int) (places b.Ab).length).length:Int))) (fun _ t=>t.length=(gt b.Ah i).Ai.length) (len:=(sinksL b.Ab (i:Int) (places b.Ab).length).length)
  (fun n t=>by simp only[qaQ,qj (je _),cond_false])
  (fun j t f o=>by
   obtain⟨y,p,s,_⟩:=qnM f;obtain⟨c,x⟩:=qow h p;have g:j<(gt b.Ah i).Bc.length:=by rw[a.snk];exact f
   have m:=a.sin j g;have v:j<9223372036854775807:=by
    rw[qfq] at f;have:cntP (snkQ b.Ab (i:Int)) (places b.Ab).length<=(places b.Ab).length:=qdV;omega
   refine⟨setS t (at0 (gt b.Ah i).Bc j) (W64 (gt t (at0 (gt b.Ah i).Bc j).toNat+c)),by rw[qhU];exact o,fun X k=>?_⟩;simp only[qaQ,qi f,cond_true,s,jd,qbc g,qeJ m.1 (show at0 (gt b.Ah i).Bc j<(t.length:Int) by omega),qM p,qih v];exact Ev.bind ⟨0,fun n _=>x n⟩ k) 0 (jK _) (gt b.Ah i).Bj d
 obtain⟨H,D,e2⟩:=loopDn (Lf:=qaO (gt b.Ah i)) (fin:=fun t=>(t,(0:Int))) (fun t=>t.length=(gt b.Ah i).Ai.length) ((gt b.Ah i).Ai.length-1)
  (fun n t=>by simp only[qaO,show decide ((0:Int) > 0)=false from rfl,cond_false])
  (fun j t u f o=>by
   have B:=a.par j u (by omega);refine⟨setS t (at0 (gt b.Ah i).Ai j) (W64 (gt t (at0 (gt b.Ah i).Ai j).toNat+gt t j)),by rw[qhU];exact o,fun X k=>?_⟩;simp only[qaO,show decide ((j:Int) > 0)=true by simp;omega,cond_true,qbc (show j<(gt b.Ah i).Ai.length by omega),jd,qeJ B.1 (show at0 (gt b.Ah i).Ai j<(t.length:Int) by omega),qM (show j<t.length by omega),show(j:Int)-1=((j-1:Nat):Int) by omega,qez (show -9223372036854775808<=((j-1:Nat):Int) by omega) (by omega)];exact k) F C
 refine⟨H,D,?_⟩;unfold qbM qeN;rw[qM hi];simp only[jd,qds (show([]:List Int).length+(gt b.Ah i).Bj.length<=2147483648 by simp;omega),List.nil_append];refine Ev.bind (qiq l) (Ev.bind (qk4 l) (Ev.bind e1 ?_));rw[qbN (show(gt b.Ah i).Bj.length<=9223372036854775807 by omega),show((gt b.Ah i).Bj.length:Int)-1=(((gt b.Ah i).Ai.length-1:Nat):Int) by omega];exact Ev.bind e2 .done
theorem qkR{b:qm}(h:blockB b=true){i:Nat}(hi:i<b.Ah.length):∃r:List Int,r.length=(gt b.Ah i).Bc.length/\Ev (fun n=>qca n b (i:Int)) r:=by
 have d:=qhY h hi;have v:=qbK (qcZ h);have s:=d.lo;have p:=d.hi;have o:=d.res;have F:=qdn v;have x:(gt b.Ah i).Bc.length<=78:=by
  rw[d.snk,qfq];have:cntP (snkQ b.Ab (i:Int)) (places b.Ab).length<=(places b.Ab).length:=qdV;omega
 obtain⟨a,B,e1⟩:=qjb h hi;have l:mkS (a.length:Int) (0:Int)=U (List.replicate a.length 0):=qfy (by omega);obtain⟨g,z,e2⟩:=loopE (Lf:=qaG (gt b.Ah i) a (List.replicate a.length 0)) (fin:=fun t=>(t,(a.length:Int))) (fun j t=>1<=j/\t.length=(gt b.Ah i).Ai.length) (len:=a.length)
  (fun n t=>by simp only[qaG,List.length_replicate,qj (je _),cond_false])
  (fun j t c f=>by
   obtain⟨D,f⟩:=f;have u:=d.par j (by omega) (by omega);refine⟨setS t (j:Int) (W64 (gt t (at0 (gt b.Ah i).Ai j).toNat+W64 (at0 (gt b.Ah i).Bn j*gt a j))),⟨by omega,by rw[qhU];exact f⟩,fun X k=>?_⟩;simp only[qaG,List.length_replicate,qi c,cond_true,qbc (show j<(gt b.Ah i).Ai.length by omega),jd,qeJ u.1 (show at0 (gt b.Ah i).Ai j<(t.length:Int) by omega),qbc (show j<(gt b.Ah i).Bn.length by omega),qM c,qM (show j<t.length by omega),wS j];exact k) 1 (by omega) (List.replicate a.length 0) ⟨je _,by rw[List.length_replicate];exact B⟩
 obtain⟨C,A,e3⟩:=loopE (Lf:=qaD g (gt b.Ah i)) (fin:=fun t=>(t,((gt b.Ah i).Bc.length:Int))) (fun j t=>t.length=j) (len:=(gt b.Ah i).Bc.length)
  (fun n t=>by simp only[qaD,qj (je _),cond_false])
  (fun j t c f=>by
   have m:=d.sin j c;have y:=z.2;refine⟨t++[gt g (at0 (gt b.Ah i).Bc j).toNat],by simp[f],fun X k=>?_⟩;simp only[qaD,qi c,cond_true,qbc c,jd,qeJ m.1 (show at0 (gt b.Ah i).Bc j<(g.length:Int) by omega),qds (show t.length+[gt g (at0 (gt b.Ah i).Bc j).toNat].length<=2147483648 by simp;omega),wS j];exact k) 0 (jK _) [] Z
 refine⟨C,A,?_⟩;unfold qca qdO;rw[qM hi];simp only[jd];refine Ev.bind (b:=g) (Ev.bind e1 ?_) (Ev.bind e3 .done);rw[l];simp only[jd];exact Ev.bind e2 .done

instance:Inhabited qaI:=⟨⟨0,0,0,0⟩⟩
instance:Inhabited qx:=⟨⟨0,0⟩⟩
theorem qno{α:Type}{m:Nat}{z:α}(h:m<=2147483648):mkS (m:Int) z=U (List.replicate m z):=by
 unfold mkS big;rw[if_pos ⟨by omega,by omega⟩,jE]
theorem qnP{α:Type}[Inhabited α]{xs:List α}{a k:Nat}{y:α}(h:k≠a):gt (xs.set a y) k=gt xs k:=by
 unfold gt;rw[jv,List.getElem?_set_ne (by omega),<-jv]
theorem qmu{α:Type}[Inhabited α]{xs:List α}{a:Nat}{y:α}(h:a<xs.length):gt (xs.set a y) a=y:=by
 rw[qiE (by rw[List.length_set];exact h),List.getElem_set_self]
theorem qoM{a:qH}:∃r:List qx,r.length<=4/\∀n,qcY n a=U r:=by
 unfold qcY;simp only[bne,qaY];cases (a.Ap==2)
 ·cases (a.Ap==3)
  ·cases (a.Ap==1)
   ·exact⟨_,by decide,fun _=>rfl⟩
   ·cases (a.Bg==1)
    ·cases (a.Bg==2)
     ·exact⟨[⟨0,0⟩,⟨0,1⟩,⟨1,0⟩,⟨1,1⟩],by decide,fun _=>rfl⟩
     ·exact⟨[⟨0,1⟩,⟨1,0⟩],by decide,fun _=>rfl⟩
    ·exact⟨[⟨0,0⟩,⟨1,1⟩],by decide,fun _=>rfl⟩
  ·exact⟨[⟨1,0⟩,⟨1,1⟩],by decide,fun _=>rfl⟩
 ·exact⟨[⟨0,0⟩,⟨0,1⟩],by decide,fun _=>rfl⟩
theorem ql2{b:qm}{first:Int}(h:blockB b=true){i:Nat}(hi:i<b.Ab.Aa.length):∃r:List qaI,r.length<=32/\Ev (fun n=>qcP n b (gt b.Ab.Aa i) first) r:=by
 obtain⟨⟨o,p⟩,_,d⟩:=qjy (qcZ h) hi;have x:=qmM d;obtain⟨u,A,e1⟩:=loopE (Lf:=qaT first (gt b.Aq.Aj (gt b.Ab.Aa i).Bf.toNat)) (fin:=fun t=>(t,((gt b.Aq.Aj (gt b.Ab.Aa i).Bf.toNat).Ar.length:Int))) (fun j t=>t.length<=4*j) (len:=(gt b.Aq.Aj (gt b.Ab.Aa i).Bf.toNat).Ar.length)
  (fun n t=>by simp only[qaT,qj (je _),cond_false])
  (fun j t l z=>by
   obtain⟨r,y,s⟩:=qoM (a:=gt (gt b.Aq.Aj (gt b.Ab.Aa i).Bf.toNat).Ar j);obtain⟨v,B,e2⟩:=loopE (Lf:=qaP first (j:Int) (gt (gt b.Aq.Aj (gt b.Ab.Aa i).Bf.toNat).Ar j) r) (fin:=fun t=>(t,(r.length:Int))) (fun k g=>g.length=t.length+k) (len:=r.length)
    (fun n t=>by simp only[qaP,qj (je _),cond_false])
    (fun k g m f=>⟨g++[_],by rw[jl,f,jC];omega,fun X c=>by
     simp only[qaP,qi m,cond_true,qM m,jd,wS k];rw[qds (by rw[jC];omega)];exact c⟩) 0 (jK _) t Z
   refine⟨v,by omega,fun X c=>?_⟩;simp only[qaT,qi l,cond_true,qM l,jd,s,wS j];exact Ev.bind e2 c) 0 (jK _) [] (je _)
 refine⟨u,by omega,?_⟩;unfold qcP;rw[qeJ o p];simp only[jd];exact Ev.bind e1 .done
theorem qm0{b:qm}(h:blockB b=true):∃ls lo de,Ev (fun n=>qf5 n b) (U ⟨b,places b.Ab,ls,lo,de,[]⟩):=by
 have O:=qcZ h;have A:=qbK O;have hl:=qdn A;have W:=A.ni;have e:=A.nn;have hwl:=qnk h;obtain⟨⟨L,z1⟩,i1,e1⟩:=loopE (τ:=List qaI×Int) (Lf:=fun n t j=>qcI b n t.1 t.2 j) (fin:=fun t=>(t.1,t.2,(b.Ab.Aa.length:Int))) (fun j t=>t.1.length<=32*j) (len:=b.Ab.Aa.length)
  (fun n t=>by simp only[qcI,qj (je _),cond_false])
  (fun j t c s=>by
   obtain⟨r,hr,S⟩:=ql2 (first:=t.2) h c;refine⟨(t.1++r,W64 (t.2+((gt b.Ab.Aa j).Af.length:Int))),by rw[jl];omega,fun X d=>?_⟩;simp only[qcI,qi c,cond_true,qM c,jd,qaz,wS j];have u:t.1.length<=32*j:=s;refine Ev.bind S ?_;rw[qds (show t.1.length+r.length<=2147483648 by omega)];exact d) 0 (jK _) ([],0) (je _)
 have D:mkS (b.Ah.length:Int) (0:Int)=U (List.replicate b.Ah.length 0):=qno (by omega);have F:mkS (b.Ah.length:Int) ([]:List Int)=U (List.replicate b.Ah.length []):=qno (by omega);obtain⟨⟨z,f⟩,⟨x,P,v⟩,e2⟩:=loopE (τ:=List (List Int)×List Int) (Lf:=fun n t j=>qbt (places b.Ab) n t.1 t.2 j) (fin:=fun t=>(t.1,t.2,((places b.Ab).length:Int))) (fun j t=>t.1.length=b.Ah.length/\t.2.length=b.Ah.length/\∀k,(gt t.1 k).length<=j) (len:=(places b.Ab).length)
  (fun n t=>by simp only[qbt,qj (je _),cond_false])
  (fun j t c s=>by
   obtain⟨g,i,p⟩:=s;obtain⟨Q,n1⟩:=qky O c;cases hdr:(gt (places b.Ab) j).drives
   ·refine⟨(setS t.1 (gt (places b.Ab) j).net (gt t.1 (gt (places b.Ab) j).net.toNat++[(j:Int)]),t.2),⟨by rw[qhU];exact g,i,fun k=>?_⟩,fun X d=>?_⟩
    ·show(gt (t.1.set _ _) k).length<=j+1;by_cases o:k=(gt (places b.Ab) j).net.toNat
     ·subst o;rw[qmu (by omega),jl,jC];have:=p (gt (places b.Ab) j).net.toNat;omega
     ·rw[qnP o];have:=p k;omega
    ·have:=p (gt (places b.Ab) j).net.toNat;simp only[qbt,qi c,cond_true,qM c,jd,hdr,cond_false,qeJ Q (show(gt (places b.Ab) j).net<(t.1.length:Int) by omega),wS j];rw[qds (by rw[jC];omega)];exact d
   ·refine⟨(t.1,setS t.2 (gt (places b.Ab) j).net (j:Int)),⟨g,by rw[qhU];exact i,fun k=>Nat.le_succ_of_le (p k)⟩,fun X d=>?_⟩;simp only[qbt,qi c,cond_true,qM c,jd,hdr,qeJ Q (show(gt (places b.Ab) j).net<(t.2.length:Int) by omega),wS j];exact d) 0 (jK _) (List.replicate b.Ah.length [],List.replicate b.Ah.length 0) ⟨by simp,by simp,fun k=>by
   have:gt (List.replicate b.Ah.length ([]:List Int)) k=[]:=by
    unfold gt;rw[jv,List.getElem?_replicate];by_cases o:k<b.Ah.length<;>simp[o]<;>rfl
   rw[this];exact je _⟩
 have x:z.length=b.Ah.length:=x;have P:f.length=b.Ah.length:=P;have v:∀k,(gt z k).length<=(places b.Ab).length:=v;have C:∀(l x N:Int) (y:Int) (t:List qaI),idx f l=U y->t.length<=1000000->∃a,a.length=t.length+2/\Ev (fun n=>qb2 f l x N n t 0) (a,2):=by
  intro l x N y t H s;obtain⟨a,g,i⟩:=loopE (Lf:=qb2 f l x N) (fin:=fun t=>(t,(2:Int))) (fun k a=>a.length=t.length+k) (len:=2)
   (fun n t=>by simp only[qb2];rfl)
   (fun k a o u=>⟨a++[_],by rw[jl,u,jC];omega,fun X d=>by
    simp only[qb2,show decide ((k:Int)<2)=true by simp;omega,cond_true,H,jd,wS k];rw[qds (by rw[jC];omega)];exact d⟩) 0 (jK _) t Z
  exact⟨a,g,i⟩
 have B:∀(l y:Int) (m:List Int) (t:List qaI),idx f l=U y->m.length<=78->t.length<=900000->∃a,a.length=t.length+2*m.length/\Ev (fun n=>qbY f l m n t 0) (a,(m.length:Int)):=by
  intro l y m t H hy6 s;obtain⟨a,g,i⟩:=loopE (Lf:=qbY f l m) (fin:=fun t=>(t,(m.length:Int))) (fun k a=>a.length=t.length+2*k) (len:=m.length)
   (fun n t=>by simp only[qbY,qj (je _),cond_false])
   (fun k a o u=>by
    obtain⟨t2,q1,J⟩:=C l (k:Int) (gt m k) y a H (by omega);refine⟨t2,by omega,fun X d=>?_⟩;simp only[qbY,qi o,cond_true,qM o,jd,wS k];exact Ev.bind J d) 0 (jK _) t Z
  exact⟨a,g,i⟩
 obtain⟨⟨x8,x9,M⟩,_,e3⟩:=loopE (τ:=List (List Int)×List Int×List qaI) (Lf:=fun n t j=>qcF b z f n t.1 t.2.1 t.2.2 j) (fin:=fun t=>(t.1,t.2.1,t.2.2,(b.Ah.length:Int))) (fun j t=>t.1.length=j/\t.2.1.length=j/\t.2.2.length<=448+156*j) (len:=b.Ah.length)
  (fun n t=>by simp only[qcF,qj (je _),cond_false])
  (fun j t c s=>by
   obtain⟨g,i,p⟩:=s;have g:t.1.length=j:=g;have i:t.2.1.length=j:=i;have p:t.2.2.length<=448+156*j:=p;have hw:=qhY h c;have T:=hw.lo;obtain⟨K,l4,e4⟩:=qjb h c;obtain⟨r5,l5,R⟩:=qkR h c;have h6:=v j;have I:idx f (j:Int)=U (gt f j):=qM (by omega);obtain⟨a,q1,J⟩:=B (j:Int) (gt f j) (gt z j) t.2.2 I (by omega) (by omega);refine⟨(t.1++[r5],t.2.1++[gt K 0],a),⟨by simp[g],by simp[i],?_⟩,fun X d=>?_⟩
   ·show a.length<=_;omega
   ·simp only[qcF,qi c,cond_true,wS j];refine Ev.bind e4 ?_;rw[show idx K (0:Int)=U (gt K 0) from qM (j:=0) (by omega)];simp only[jd];rw[qds (by rw[jC];omega)];simp only[jd];refine Ev.bind R ?_;rw[qds (by rw[jC];omega),qM (show j<z.length by omega)];simp only[jd];exact Ev.bind J d) 0 (jK _) ([],[],L) ⟨rfl,rfl,by show L.length<=_;have:L.length<=32*b.Ab.Aa.length:=i1;omega⟩
 refine⟨M,x9,x8,?_⟩;unfold qf5;refine Ev.bind (qiq A) (Ev.bind e1 ?_);rw[D,F];simp only[jd];exact Ev.bind e2 (Ev.bind e3 .done)

theorem qo1{b:qm}{j:Nat}(a:qb8 b)(h:blockB b=true)(d:j<(places b.Ab).length):Ev (fun n=>qhB n b.Aq b.Ab (j:Int)) (toSp (gt (places b.Ab) j),true):=by
 have c:=qcZ h;have f:=qbK c;have g:=qdn f;unfold qhB;refine Ev.bind (qja a.Aq a.Ab) (Ev.ff (by rw[c];rfl) (Ev.bind (qiO f) ?_));simp only[qcR,jd,jF,qbN (show(places b.Ab).length<=9223372036854775807 by omega)];rw[show inI (j:Int) 0 (((places b.Ab).length:Int)-1)=true from qbm.2 ⟨by omega,by omega⟩];simp only[jI,cond_false];rw[qM (show j<((places b.Ab).map toSp).length by simpa using d),qog d];exact .done
def inPl(b:qm)(x:Int):Bool:=inI x 0 (((places b.Ab).length:Int)-1)
end Go.Fw


namespace Go.Fw
open Go Go.Proofs Go.Proofs.Tryz
open Go.RowKit (Below)
open Ch renaming own->oW,box->oX,grp->oG
open GoT renaming v->oV
open Go.Bd renaming slice->oS
set_option maxRecDepth 100000
set_option maxHeartbeats 6400000
variable{n:Nat}{w:World}{cs1 cs2 cs3 cs4 cs5 cs6 cs7 cs8 cs9:List Value}
def qej(n:Nat)(a:qk)(left:Int):Option Int:=(qaA n a.Av left).bind fun b=>bif decide (b<0) then U (-1) else(qaA n a.Au b).bind fun c=>bif decide (c<0) then U (-1) else(qaA n a.To c).bind fun d=>bif decide (d<0) then U (-1) else U d
theorem qiy{a:qk}{left}(b:Ro w a cs1){r:Int}(F:qej n a left=U r):RetV prog 7 [oV qk cs1,vi left] w r:=by
 obtain⟨_,_,_,_,_,_,rfl,c,d,f⟩:=qae b;refine zV 24 func7 Z fun h=>zSR (qr h Z Z fun _ _ h=>X1 7 0 h Z (zcI h F (qac ⟨_,_,rfl,(h.oldS c)⟩) Z fun _ _ h F=>X0 8 Z (qf Z F ?_ ?_)))<;>intro F
 ·exact X0 4 Z (ri h F Z)
 refine X1 6 0 h Z (zcI h F (qac ⟨_,_,rfl,(h.oldS d)⟩) Z fun _ _ h F=>X0 8 Z (qf Z F ?_ ?_))<;>intro F
 ·exact X0 4 Z (ri h F Z)
 refine X1 6 0 h Z (zcI h F (qac ⟨_,_,rfl,(h.oldS f)⟩) Z fun _ _ h F=>X0 8 Z (qf Z F ?_ ?_))<;>intro F
 ·exact X0 4 Z (ri h F Z)
 exact X0 6 Z (ri h F Z)
def qci(n:Nat)(a:qk):Option qk:=(qam n a.Av).bind fun b=>(qam n a.Au).bind fun c=>(qam n a.To).bind fun d=>U (⟨a.Ap,a.Bd,b,c,d⟩:qk)
theorem qex{a:qk}(b:Ro w a cs1){r:qk}(F:qci n a=U r):RetV prog 10 [oV qk cs1] w r:=by
 obtain⟨_,_,_,_,_,_,rfl,p,s,t⟩:=qae b;refine zV 23 func10 Z fun h=>zSR (qr h Z Z fun _ _ h=>qC qc h Z Z Z fun _ _ h=>zNSR (qC qc h Z Z Z fun _ _ h=>X1 6 2 h Z (zs 0 h Z fun _ h=>X1 6 2 h Z (zs 0 h Z fun _ h=>X1 5 2 h Z (zcL h F (qag ⟨_,_,rfl,(h.oldS p)⟩) Z fun c _ _ l g h F=>zp1 Z (zs 1 h Z fun _ h=>X1 5 3 h Z (zcL h F (qag ⟨_,_,rfl,(h.oldS s)⟩) Z fun d _ _ m i h F=>zp1 Z (zs 2 h Z fun _ h=>X1 5 4 h Z (zcL h F (qag ⟨_,_,rfl,(h.oldS t)⟩) Z fun f _ _ o k h F=>zp1 Z (zs 3 h Z fun _ h=>X1 4 3 h Z (zs 4 h Z fun _ h=>qdH ?_)))))))))));obtain rfl:=qa F;exact qah qc (ρ:=qk) [oV qk [vi a.Ap,vi a.Bd,oS l c.length g,oS m d.length i,oS o f.length k]] h ⟨⟨_,_,_,rfl,rfl,h.box 4 Z,rfl⟩,E⟩ (PV.done h (qb1 (qk9 (⟨a.Ap,a.Bd,c,d,f⟩:qk) h (qao (S:=fun _=>False) Z) (qao (S:=fun _=>False) Z) (qbP 2 h Z) (qbP 1 h Z) (qbP 0 h Z) (by rfl) (by rfl) (by rfl) (by rfl))))
def qef(n:Nat)(a:qk)(b:qk):Option Bool:=bif (a.Ap != b.Ap) then U false else bif (a.Bd != b.Bd) then U false else(qan n a.Av b.Av).bind fun c=>bif (!c) then U false else(qan n a.Au b.Au).bind fun d=>bif (!d) then U false else(qan n a.To b.To).bind fun f=>bif (!f) then U false else U true
theorem qiw{a:qk}{b:qk}(c:Ro w a cs1)(d:Ro w b cs2){r:Bool}(F:qef n a b=U r):RetV prog 13 [oV qk cs1,oV qk cs2] w r:=by
 obtain⟨_,_,_,_,_,_,rfl,f,g,i⟩:=qae c;obtain⟨_,_,_,_,_,_,rfl,k,l,m⟩:=qae d;refine zV 33 func13 Z fun h=>zSR (qr h Z Z fun _ _ h=>qr h Z Z fun _ _ h=>X2 11 1 0 h Z (qf Z F ?_ ?_))<;>intro F
 ·exact X0 4 Z (rb h F Z)
 refine X2 10 1 0 h Z (qf Z F ?_ ?_)<;>intro F
 ·exact X0 4 Z (rb h F Z)
 refine X2 8 1 0 h Z (zcB h F (qaf ⟨_,_,rfl,(h.oldS f)⟩ ⟨_,_,rfl,(h.oldS k)⟩) Z fun _ _ h F=>X0 2 Z (qf Z F ?_ ?_))<;>intro F
 ·exact X0 4 Z (rb h F Z)
 refine X2 8 1 0 h Z (zcB h F (qaf ⟨_,_,rfl,(h.oldS g)⟩ ⟨_,_,rfl,(h.oldS l)⟩) Z fun _ _ h F=>X0 2 Z (qf Z F ?_ ?_))<;>intro F
 ·exact X0 4 Z (rb h F Z)
 refine X2 8 1 0 h Z (zcB h F (qaf ⟨_,_,rfl,(h.oldS i)⟩ ⟨_,_,rfl,(h.oldS m)⟩) Z fun _ _ h F=>X0 2 Z (qf Z F ?_ ?_))<;>intro F
 ·exact X0 4 Z (rb h F Z)
 exact X0 5 Z (rb h F Z)
end Go.Fw


namespace Go.Fw
open Go
def qfv(x:qk):Prop:=rngI x.Ap/\rngI x.Bd/\(rngL rngI) x.Av/\(rngL rngI) x.Au/\(rngL rngI) x.To
def qbQ(x:qk):Nat:=qbl x.Av+qbl x.Au+qbl x.To
structure qdp(x:qk):Prop where
 Ap:okI x.Ap
 Bd:okI x.Bd
 Av:(okL okI) x.Av
 Au:(okL okI) x.Au
 To:(okL okI) x.To
theorem qkp{x:qk}(h:qfv x)(w:qbQ x<=1048576):qdp x:=⟨h.1,h.2.1,qbw (h.2.2.1) (by simp only[qbQ] at w;omega),qbw (h.2.2.2.1) (by simp only[qbQ] at w;omega),qbw (h.2.2.2.2) (by simp only[qbQ] at w;omega)⟩
theorem ql5{a:qk}(h:qbQ a<=1048576):Ev (fun n=>qef n a a) true:=by
 unfold qef;simp only[qbQ] at h;exact Ev.ff qa1 (Ev.ff qa1 (Ev.bind (qcB (a:=a.Av) (by omega)) (Ev.ff Z (Ev.bind (qcB (a:=a.Au) (by omega)) (Ev.ff Z (Ev.bind (qcB (a:=a.To) (by omega)) (Ev.ff Z (.done))))))))
theorem qlP{a:qk}{left:Int}(h:qfv a)(k:0<=left)(l:left<=1048576):Sz (fun n=>qej n a left) (fun r=>r=left-(qbQ a:Int)):=by
 unfold qej;obtain⟨f,g,b,c,d⟩:=h;exact Sz.step (qcK (a:=a.Av) b (by omega) (by omega)) fun u m p=>Sz.step (qcK (a:=a.Au) c (by omega) (by omega)) fun v o s=>Sz.step (qcK (a:=a.To) d (by omega) (by omega)) fun x i t=>Sz.done i (by simp only[qbQ];omega)
theorem qhE{a:qk}(h:qbQ a<=1048576):Ev (fun n=>qci n a) a:=by
 unfold qci;simp only[qbQ] at h;exact Ev.bind (qcL (a:=a.Av) (by omega)) (Ev.bind (qcL (a:=a.Au) (by omega)) (Ev.bind (qcL (a:=a.To) (by omega)) (.done)))
end Go.Fw


namespace Go.Fw
open Go
set_option maxRecDepth 100000
theorem qlU{b:qm}(h:blockB b=true):Ev (fun n=>qfz n b) ((places b.Ab).length:Int):=by
 unfold qfz;exact Ev.bind (qiO (qbK (qcZ h))) (Ev.now (by rw[jF]))
def plsB(b:qm)(xs:List Int):Bool:=decide (xs.length<=4)&&allN (fun j=>inPl b (at0 xs j)) xs.length
def valB(k v:Int):Bool:=bif k==1 then v==0 else bif k==2 then inI v 1 10 else bif (k==3) || (k==4) then inI v 0 1000000000 else false
def excB(b:qm)(e:qk):Bool:=(plsB b e.Av&&(plsB b e.Au&&plsB b e.To))&&(valB e.Ap e.Bd&&(incB e.Av&&incB e.To))
theorem qht{b:qm}{xs:List Int}{c:Bool}(h:blockB b=true)(l:xs.length<=1048576):Ev (fun n=>qdc n b xs c) (plsB b xs&&(!c || incB xs)):=by
 have k:=qdn (qbK (qcZ h));have i:Ev (fun n=>qa0 b xs c n 0) (bif allN (fun j=>inPl b (at0 xs j)&&(!c || stepB xs j)) xs.length then .nxt (xs.length:Int) else .ret false):=by
  refine qdl ?_ (fun j f X d=>Ev.succ ?_)
  ·exact Ev.succ (by simp only[qa0,qj (je _),cond_false];exact .done)
  ·simp only[qa0,qi f,cond_true,qbc f,jd,qcR,wS j];refine Ev.bind (qlU h) ?_;rw[qbN (show(places b.Ab).length<=9223372036854775807 by omega)];simp only[qaY];refine Ev.okP (a:=inPl b (at0 xs j)) fun _=>?_;cases c
   ·exact d
   ·refine Ev.tt Z ?_;unfold stepB;by_cases g:j=0
    ·subst g;exact Ev.ff (by decide) d
    ·refine Ev.tt (by simp;omega) ?_;simp only[show(j:Int)-1=((j-1:Nat):Int) by omega,qez (show -9223372036854775808<=((j-1:Nat):Int) by omega) (by omega),qbc (show j-1<xs.length by omega),jd];rw[show decide (at0 xs (j-1)>=at0 xs j) = !decide (at0 xs (j-1)<at0 xs j) by rw[ji];simp,show decide (j=0)=false by simp;omega];simp only[qaY,jI,Bool.false_or];exact Ev.okP1 fun _=>d
 unfold qdc;have e:(plsB b xs&&(!c || incB xs))=(allN (fun j=>inPl b (at0 xs j)&&(!c || stepB xs j)) xs.length&&decide (xs.length<=4)):=by
  unfold plsB incB;rw[qho];cases c
  ·simp only[Bool.not_false,Bool.true_or,Bool.and_true];rw[show allN (fun _=>true) xs.length=true from qX.2 (fun _ _=>rfl),Bool.and_true,Bool.and_comm]
  ·simp only[jI,Bool.false_or];rw[Bool.and_assoc,Bool.and_comm]
 rw[e];refine Ev.bind i ?_;cases allN (fun j=>inPl b (at0 xs j)&&(!c || stepB xs j)) xs.length
 ·exact .done
 ·refine Ev.now ?_;show U (decide ((xs.length:Int)<=((4:Nat):Int)))=U (true&&decide (xs.length<=4));rw[qhG,jx]
theorem qnj{n:Nat}{k v:Int}:qgb n k v=U (valB k v):=by
 simp only[qgb,qcE,jd];unfold valB;cases (k==1)<;>cases (k==2)<;>cases (k==3)<;>cases (k==4)<;>rfl
theorem qkG{b:qm}{V:Tview}{e:qk}(h:blockB b=true)(c:V.places=places b.Ab)(a:qdp e):Ev (fun n=>qcw n (U V) e) (excB b e):=by
 have i:=qdn (qbK (qcZ h));have one:∀xs:List Int,xs.length<=1048576->∀{F:Nat->Option (Flow Bool Int)} {X:Flow Bool Int},Ev F X ->
   Ev (fun n=>bif decide ((xs.length:Int) > 4) then U (.ret false) else(qaU n xs 0 (((places b.Ab).length:Int)-1)).bind fun m=>bif (!m) then U (.ret false) else F n) (bif plsB b xs then X else .ret false):=by
  intro xs l F X g;unfold plsB;rw[show decide ((xs.length:Int) > 4) = !decide (xs.length<=4) from qnn (k:=4)];simp only[qaY];refine Ev.okP fun _=>Ev.ok1 ((qdo l).cast (by rw[qe9 (d:=0)];rfl)) fun _=>g
 have f:Ev (fun n=>qI (U V) e n 0) (bif plsB b e.Av then(bif plsB b e.Au then(bif plsB b e.To then .nxt 3 else .ret false) else .ret false) else .ret false):=by
  refine Ev.succ ?_;simp only[qI,jd,qbd,c,qbN (show(places b.Ab).length<=9223372036854775807 by omega)];refine one e.Av a.Av.len (F:=fun n=>qI (U V) e n 1) (Ev.succ ?_);simp only[qI,jd,qbd,c,qbN (show(places b.Ab).length<=9223372036854775807 by omega)];refine one e.Au a.Au.len (F:=fun n=>qI (U V) e n 2) (Ev.succ ?_);simp only[qI,jd,qbd,c,qbN (show(places b.Ab).length<=9223372036854775807 by omega)];refine one e.To a.To.len (F:=fun n=>qI (U V) e n 3) (Ev.succ ?_);exact .done
 unfold qcw excB;refine Ev.bind f ?_;cases plsB b e.Av
 ·exact .done
 ·cases plsB b e.Au
  ·exact .done
  ·cases plsB b e.To
   ·exact .done
   ·simp only[cond_true,qnj,jd,Bool.and_self,jx];exact Ev.andP fun _=>Ev.and (qf0 a.Av.len) fun _=>Ev.last (qf0 a.To.len)
theorem qjP{b:qm}{e:qk}(c:qb8 b)(a:qdp e):Ev (fun n=>qeg n b e) (blockB b&&excB b e):=by
 have d:(blockB b&&excB b e)=((blockB b&&((plsB b e.Av&&(!true || incB e.Av))&&((plsB b e.Au&&(!false || incB e.Au))&&(plsB b e.To&&(!true || incB e.To)))))&&valB e.Ap e.Bd):=by
  unfold excB;generalize blockB b=a1;generalize plsB b e.Av=a2;generalize plsB b e.Au=a3;generalize plsB b e.To=a4;generalize valB e.Ap e.Bd=a5;generalize incB e.Av=a6;generalize incB e.To=a7;cases a1<;>cases a2<;>cases a3<;>cases a4<;>cases a5<;>cases a6<;>cases a7<;>rfl
 rw[d];unfold qeg;refine Ev.guardB (Ev.or (qmm c) fun h=>Ev.or (qht h a.Av.len) fun _=>Ev.or (qht h a.Au.len) fun _=>Ev.neg (qht h a.To.len)) fun _=>?_;simp only[qcR,jd];unfold valB;cases (e.Ap==1)<;>cases (e.Ap==2)<;>cases (e.Ap==3)<;>cases (e.Ap==4)<;>exact .done
end Go.Fw


namespace Go.Fw
open Go Go.Proofs Go.Proofs.Tryz
open Go.RowKit (Below)
open Ch renaming own->oW,box->oX,grp->oG
open GoT renaming v->oV
open Go.Bd renaming slice->oS
set_option maxRecDepth 100000
set_option maxHeartbeats 6400000
variable{n:Nat}{w:World}{cs1 cs2 cs3 cs4 cs5 cs6 cs7 cs8 cs9:List Value}
def qaV:Nat->Int->Option ByteArray|0,_=>G|n+1,a_n=>bif decide (a_n<0) then((qaV n) (W64 (0-a_n))).bind fun a=>(catB (⟨#[45]⟩:ByteArray) a).bind fun c=>U c else bif decide (a_n<10) then U (strOf ([(⟨IntKind.wrap .u8 (W64 (48+a_n))⟩:IntK .u8)]:List (IntK .u8))) else((qaV n) (W64 (a_n.tdiv 10))).bind fun b=>(catB b (strOf ([(⟨IntKind.wrap .u8 (W64 (48+(a_n.tmod 10)))⟩:IntK .u8)]:List (IntK .u8)))).bind fun d=>U d
theorem qiV{n}:∀{w:World} {m:Int}  {r:ByteArray} (_:qaV n m=U r),RetV prog 30 [vi m] w r:=by
 induction n with
 |zero=>intro w m r F;rw[qaV] at F;cases F
 |succ n ih=>
  intro w m r F;obtain⟨s,o⟩:∃s,s=qaV n:=⟨_,rfl⟩;rw[<-o] at ih;refine zV 26 func30 Z fun h=>?_;unfold qaV at F;rw[<-o] at F;refine X0 10 Z (qf Z F ?_ ?_)<;>intro F
  ·refine X0 4 Z (zcS h F ih Z fun _ _ h F=>?_);obtain⟨_,c,F⟩:=qe F;obtain⟨f,c⟩:=qad c;refine r_v (qdB f Z Z) Z ?_;rw[c];refine X0 2 Z ?_;obtain rfl:=qa F;exact qah qc (ρ:=ByteArray) [_] h ⟨rfl,E⟩ (qdm _ _)
  ·refine X0 7 Z (qf Z F ?_ ?_)<;>intro F
   ·refine X0 5 Z (qT qc [.tmp 13] _ ([(⟨IntKind.wrap .u8 (W64 (48+m))⟩:IntK .u8)]:List (IntK .u8)) h Z Z Z Z Z Z Z Z Z ⟨rfl,E⟩ Z fun _ _ _ h=>r_v (qkj qc (h.sl 0 Z).1 (h.sl 0 Z).2 Z ⟨rfl,rfl⟩ ⟨rfl,rfl⟩ Z Z) Z (X0 2 Z ?_));obtain rfl:=qa F;exact qah qc (ρ:=ByteArray) [_] h ⟨rfl,E⟩ (qdm _ _)
   ·refine zKS ?_;obtain⟨d,b,F⟩:=qe F;obtain⟨l,a,F⟩:=qe F;refine qcX (fun e w'=>e=[(2,.string l)]/\SH w w' []) ?_ ?_
    ·refine rA [] [] h Z fun _ h=>M0 123 [0,1,3,4,5,6] (h.p [] Z) Z (At 2 7 127 251 Z ?_ ?_)
     ·refine qhx d h (cB 30 Z) (ih b) Z Z Z Z fun _ h=>Ag (h.p [] Z) (Ao 7 255 Z (qT qc [.tmp 22] _ ([(⟨IntKind.wrap .u8 (W64 (48+(m.tmod 10)))⟩:IntK .u8)]:List (IntK .u8)) h Z Z Z Z Z Z Z Z Z ⟨rfl,E⟩ Z fun _ _ _ h=>Ag (h.p [] Z) (Ao 8 511 Z (r_v (qkj qc (h.sl 0 Z).1 (h.sl 0 Z).2 Z ⟨rfl,rfl⟩ ⟨rfl,rfl⟩ Z Z) Z (Ag (h.p [] Z) ?_)))));obtain⟨g,a⟩:=qad a;refine Aw 9 1023 (fun w' p=>qdB g Z Z) (h.p [] Z) Z ?_;rw[a];refine M0 2047 [10] (h.p [] Z) Z (Ad ?_);replace h:=h.p [] Z;exact rG ⟨rfl,h⟩ Z
     ·refine qT qc [.tmp 22] _ ([(⟨IntKind.wrap .u8 (W64 (48+(m.tmod 10)))⟩:IntK .u8)]:List (IntK .u8)) h Z Z Z Z Z Z Z Z Z ⟨rfl,E⟩ Z fun _ _ _ h=>Ag (h.p [] Z) (At 2 8 255 507 Z ?_ ?_)
      ·refine qhx d h (cB 30 Z) (ih b) Z Z Z Z fun _ h=>Ag (h.p [] Z) (Ao 8 511 Z (r_v (qkj qc (h.sl 0 Z).1 (h.sl 0 Z).2 Z ⟨rfl,rfl⟩ ⟨rfl,rfl⟩ Z Z) Z (Ag (h.p [] Z) ?_)));obtain⟨i,a⟩:=qad a;refine Aw 9 1023 (fun w' p=>qdB i Z Z) (h.p [] Z) Z ?_;rw[a];refine M0 2047 [10] (h.p [] Z) Z (Ad ?_);replace h:=h.p [] Z;exact rG ⟨rfl,h⟩ Z
      ·refine r_v (qkj qc (h.sl 0 Z).1 (h.sl 0 Z).2 Z ⟨rfl,rfl⟩ ⟨rfl,rfl⟩ Z Z) Z (Ag (h.p [] Z) (Ao 2 511 Z (qhx d h (cB 30 Z) (ih b) Z Z Z Z fun _ h=>Ag (h.p [] Z) ?_)));obtain⟨k,a⟩:=qad a;refine Aw 9 1023 (fun w' p=>qdB k Z Z) (h.p [] Z) Z ?_;rw[a];refine M0 2047 [10] (h.p [] Z) Z (Ad ?_);replace h:=h.p [] Z;exact rG ⟨rfl,h⟩ Z
    ·rintro _ _ ⟨rfl,h⟩;obtain rfl:=qa F;exact qah qc (ρ:=ByteArray) [_] h ⟨rfl,E⟩ (qdm _ _)
def qeZ(_:Nat)(l:qh)(d:qb)(p:Tl05Place):Option ByteArray:=bif decide (p.instance_<0) then(idx d.Ac p.pin).bind fun b=>U b.Am else(idx d.Aa p.instance_).bind fun a=>(catB a.Am (⟨#[47]⟩:ByteArray)).bind fun g=>(idx l.Aj a.Bf).bind fun c=>(idx c.Ak p.pin).bind fun f=>(catB g f.Am).bind fun h=>U h
theorem qkd{l:qh}{d:qb}{p:Tl05Place}(c:Ro w l cs1)(f:Ro w d cs2)(g:Ro w p cs3){r:ByteArray}(F:qeZ n l d p=U r):RetV prog 97 [oV qh cs1,oV qb cs2,oV Tl05Place cs3] w r:=by
 obtain⟨_,_,rfl,O⟩:=qZ c;obtain⟨_,_,_,_,_,_,rfl,P,_,Q⟩:=qJ f;obtain rfl:=qd2 g;refine zV 40 func97 Z fun h=>zSR (qr h Z Z fun _ _ h=>qr h Z Z fun _ _ h=>qr h Z Z fun _ _ h=>X1 9 0 h Z (qf Z F ?_ ?_))<;>intro F
 ·refine X2 6 1 0 h Z ?_;obtain⟨_,_,F,s,_,_,_,_,x,B,I,i⟩:=Q.ix F;obtain rfl:=qab I;refine zxe x B s Z (zp1 Z (zc 0 (i.below h.below) Z (X0 2 Z ?_)));obtain rfl:=qa F;exact qah qc (ρ:=ByteArray) [_] h ⟨rfl,E⟩ (qdm _ _)
 refine X2 7 1 0 h Z ?_;obtain⟨_,_,F,t,_,_,_,_,y,C,J,k⟩:=P.ix F;obtain⟨_,_,rfl,_⟩:=qA J;refine zxe y C t Z (zc 0 (k.below h.below) Z (qC qc h Z Z Z fun _ _ h=>zs 0 h Z fun _ h=>zNS (rD (Y1 2 0 h Z ?_))));obtain⟨_,a,F⟩:=qe F;obtain⟨M,a⟩:=qad a;refine d_v (fun _ S=>qdB M Z Z) Z ?_;rw[a];refine Y1 2 3 h Z ?_;refine Y1 2 0 h Z ?_;obtain⟨_,_,F,u,_,_,_,_,z,D,K,m⟩:=O.ix F;obtain⟨_,_,_,_,_,_,rfl,R,_,_⟩:=qF K;refine zdxe z D u Z (zd1 Z (zdc 2 (m.below h.below) Z (Y1 2 1 h Z ?_)));obtain⟨_,_,F,v,_,_,_,_,A,H,L,o⟩:=R.ix F;obtain rfl:=qav L;refine zdxe A H v Z (zd1 Z (zdc 0 (o.below h.below) Z ?_));obtain⟨_,b,F⟩:=qe F;obtain⟨N,b⟩:=qad b;refine d_v (fun _ S=>qdB N Z Z) Z ?_;rw[b];refine zd1 Z (dN h fun _ h=>?_);obtain rfl:=qa F;exact qah qc (ρ:=ByteArray) [_] h ⟨rfl,E⟩ (qdm _ _)
def qeX(n:Nat)(l:qh)(d:qb)(f:Int):Option ByteArray:=(qhB n l d f).bind fun(a,b)=>bif (!b) then U (⟨#[]⟩:ByteArray) else(qeZ n l d a).bind fun c=>U c
theorem qi2{l:qh}{d:qb}{place}(a:Ro w l cs1)(b:Ro w d cs2){r:ByteArray}(F:qeX n l d place=U r):RetV prog 63 [oV qh cs1,oV qb cs2,vi place] w r:=by
 obtain⟨_,_,rfl,_⟩:=qZ a;obtain⟨_,_,_,_,_,_,rfl,_,_,_⟩:=qJ b;refine zV 22 func63 Z fun h=>zSR (qr h Z Z fun _ _ h=>qr h Z Z fun _ _ h=>X2 7 1 0 h Z ?_);obtain⟨⟨m,o⟩,f,F⟩:=qe F;refine qh9 (m,o) h (cB 105 Z) (qla (h.old a) (h.old b) f) Z Z Z Z fun _ _ _ k g=>?_;obtain⟨_,_,_,_,rfl,c,i⟩:=k.cons g;obtain rfl:=qd2 (c.sh.own 0 Z);obtain⟨rfl,h⟩:=c.lastB i;refine zp3 Z (qC qc h Z Z Z fun _ _ h=>zs 0 h Z fun _ h=>X0 8 Z (qf Z F ?_ ?_))<;>intro F
 ·refine X0 4 Z ?_;obtain rfl:=qa F;exact qah qc (ρ:=ByteArray) [_] h ⟨rfl,E⟩ (qdm _ _)
 refine X3 6 3 2 0 h Z (zcS h F (qkd (h.old a) (h.old b) (h.own 1 Z)) Z fun _ _ h F=>X0 2 Z ?_);obtain rfl:=qa F;exact qah qc (ρ:=ByteArray) [_] h ⟨rfl,E⟩ (qdm _ _)
def qbG(b:qm)(l:ByteArray)(list:(List Int)):Nat->ByteArray->Int->Option (ByteArray×Int)|0,_,_=>G|n+1,c,a=>bif decide (a<(list.length:Int)) then(catB c (⟨#[32]⟩:ByteArray)).bind fun g=>(catB g l).bind fun h=>(catB h (⟨#[32]⟩:ByteArray)).bind fun i=>(idx list a).bind fun f=>(qeX n (⟨b.Aq.Aj⟩:qh) (⟨b.Ab.Aa,b.Ab.Af,b.Ab.Ac⟩:qb) f).bind fun d=>(catB i d).bind fun k=>qbG b l list n k (W64 (a+1)) else U (c,a)
def qdM(n:Nat)(b:qm)(c:ByteArray)(list:(List Int)):Option ByteArray:=(qbG b c list n (⟨#[]⟩:ByteArray) 0).bind fun(a,_)=>U a
theorem qfp{b:qm}{word}{list:(List Int)}(k:Ro w b cs1)(l:Ro w list cs2){r:ByteArray}(F:qdM n b word list=U r):RetV prog 31 [oV qm cs1,.string word,oV (List Int) cs2] w r:=by
 obtain⟨N,D,O,H,P,I,Q,J,R,K,rfl,W,X,s3,s4,_⟩:=qU k;obtain⟨S,L,rfl,s6⟩:=l;refine zV 31 func31 Z fun h=>zSR (qr h Z Z fun _ g h=>X0 11 Z ?_);obtain⟨M,F,i⟩:=qe F;refine ql (rL (fun m e w'=>∃x v,qbG b word list m x v=U M/\e=[(1,.string word),(2,oS S list.length L),(3,vp g),(7,.string x),(8,vi v)]/\SH w w' [oX g (qb6 b N O P Q R D H I J K) 48]) n ⟨_,_,F,rfl,h⟩ Z ?_);rintro y _ _ ⟨x,v,F,rfl,h⟩;rcases y with _|y
 ·cases F
 refine X0 8 Z (qf Z F ?_ ?_)<;>intro F
 ·refine zKSB (rD (zd1 Z ?_));obtain⟨_,a,F⟩:=qe F;obtain⟨z,a⟩:=qad a;refine d_v (fun _ hb=>qdB z Z Z) Z ?_;rw[a];refine zd1 Z ?_;obtain⟨_,c,F⟩:=qe F;obtain⟨A,c⟩:=qad c;refine d_v (fun _ hb=>qdB A Z Z) Z ?_;rw[c];obtain⟨_,d,F⟩:=qe F;obtain⟨B,d⟩:=qad d;refine d_v (fun _ hb=>qdB B Z Z) Z ?_;rw[d];refine Y1 2 0 h Z ?_;refine Y1 2 0 h Z ?_;refine zd2 Z ?_;obtain⟨_,_,F,p,_,_,_,_,s,t,rfl,o⟩:=s6.ix F;refine zdxe s t p Z (zdc 0 (o.below h.below) Z ?_);obtain⟨T,u,F⟩:=qe F;refine qa3 T (vsS _) (cB 63 Z) (fun _ hb=>qi2 (qbg _ ((h.ext hb).oldS W)) (qas _ ((h.ext hb).oldS X) ((h.ext hb).oldS s3) ((h.ext hb).oldS s4)) u) Z Z Z Z ?_;obtain⟨_,f,F⟩:=qe F;obtain⟨C,f⟩:=qad f;refine d_v (fun _ hb=>qdB C Z Z) Z ?_;rw[f];exact zd1 Z (dN h fun _ h=>X0 6 Z (rK ⟨_,_,F,rfl,h⟩ Z))
 refine qq Z ?_;obtain rfl:=qa F;replace F:=i;refine X0 5 Z ?_;obtain rfl:=qa F;exact qah qc (ρ:=ByteArray) [_] h ⟨rfl,E⟩ (qdm _ _)
def qbA(n:Nat)(b:qm)(r:qk):Option ByteArray:=(qeg n b r).bind fun c=>bif (!c) then U (⟨#[]⟩:ByteArray) else(idx ([(⟨#[102,97,108,115,101]⟩:ByteArray),(⟨#[99,121,99,108,101,115]⟩:ByteArray),(⟨#[109,97,120]⟩:ByteArray),(⟨#[109,105,110]⟩:ByteArray)]:List ByteArray) (W64 (r.Ap-1))).bind fun a=>(bif (r.Ap != 1) then(catB a (⟨#[32]⟩:ByteArray)).bind fun o=>(qaV n r.Bd).bind fun h=>(catB o h).bind fun p=>U p else U a).bind fun i=>(qdM n b (⟨#[102,114,111,109]⟩:ByteArray) r.Av).bind fun d=>(catB i d).bind fun k=>(qdM n b (⟨#[116,104,114,111,117,103,104]⟩:ByteArray) r.Au).bind fun f=>(catB k f).bind fun l=>(qdM n b (⟨#[116,111]⟩:ByteArray) r.To).bind fun g=>(catB l g).bind fun m=>U m
theorem qhO{b:qm}{a_e:qk}(a:Ro w b cs1)(p:Ro w a_e cs2){r:ByteArray}(F:qbA n b a_e=U r):RetV prog 8 [oV qm cs1,oV qk cs2] w r:=by
 obtain⟨S,K,T,L,W,M,X,N,p5,O,rfl,_,_,_,_,_⟩:=qU a;obtain⟨p6,P,p7,Q,p8,R,rfl,s6,s7,s8⟩:=qae p;refine zV 41 func8 Z fun h=>zSR (qr h Z Z fun _ k h=>qr h Z Z fun _ l h=>X2 7 1 0 h Z (zcB h F (qiz (h.old a) (h.old p)) Z fun _ _ h F=>X0 2 Z (qf Z F ?_ ?_)))<;>intro F
 ·refine X0 4 Z ?_;obtain rfl:=qa F;exact qah qc (ρ:=ByteArray) [_] h ⟨rfl,E⟩ (qdm _ _)
 refine zKSR (qT qc [.const (.string (⟨#[102,97,108,115,101]⟩:ByteArray)),.const (.string (⟨#[99,121,99,108,101,115]⟩:ByteArray)),.const (.string (⟨#[109,97,120]⟩:ByteArray)),.const (.string (⟨#[109,105,110]⟩:ByteArray))] _ ([(⟨#[102,97,108,115,101]⟩:ByteArray),(⟨#[99,121,99,108,101,115]⟩:ByteArray),(⟨#[109,97,120]⟩:ByteArray),(⟨#[109,105,110]⟩:ByteArray)]:List ByteArray) h Z Z Z Z Z Z Z Z Z ⟨rfl,rfl,rfl,rfl,E⟩ Z fun _ _ _ h=>X1 3 1 h Z ?_);obtain⟨_,_,F,s,_,_,_,_,v,x,rfl,u⟩:=(h.sl 0 Z).1.ix F;refine zx v x ⟨s.1,qap s.2.1 (h.sl 0 Z).2⟩ Z (zc 0 u Z (X1 9 1 h Z ?_));obtain⟨t,o,_,F,m⟩:=bindE F;refine qcX (fun e w'=>∃B,t B=U r/\e=[(2,vp k),(3,vp l),(5,.string B)]/\SH w w' [oX l (qeW a_e p6 p7 p8 P Q R) 50,oX k (qb6 b S T W X p5 K L M N O) 48]) ?_ ?_
 ·refine qf Z F ?_ ?_<;>intro F
  ·refine X0 2 Z ?_;obtain⟨_,g,F⟩:=qe F;obtain⟨I,g⟩:=qad g;refine r_v (qdB I Z Z) Z ?_;rw[g];refine X1 2 1 h Z (zcS h F qiV Z fun _ _ h F=>?_);obtain⟨_,i,F⟩:=qe F;obtain⟨J,i⟩:=qad i;refine r_v (qdB J Z Z) Z ?_;rw[i];refine X0 2 Z ?_;replace h:=h.p [1,2] Z;obtain rfl:=qa F;exact rG ⟨_,m,rfl,h⟩ Z
  refine qe3 ?_;replace h:=h.p [1,2] Z;obtain rfl:=qa F;exact rG ⟨_,m,rfl,h⟩ Z
 rintro _ _ ⟨B,F,rfl,h⟩;subst o;refine qeu (rD (Y1 2 1 h Z ?_));refine Y1 2 0 h Z ?_;obtain⟨r2,y,F⟩:=qe F;refine qa3 r2 (vsS _) (cB 31 Z) (fun _ hb=>qfp ((h.ext hb).old a) ⟨_,_,rfl,((h.ext hb).oldS s6)⟩ y) Z Z Z Z ?_;obtain⟨_,c,F⟩:=qe F;obtain⟨C,c⟩:=qad c;refine d_v (fun _ hb=>qdB C Z Z) Z ?_;rw[c];refine Y1 1 1 h Z ?_;refine Y1 2 0 h Z ?_;obtain⟨r3,z,F⟩:=qe F;refine qa3 r3 (vsS _) (cB 31 Z) (fun _ hb=>qfp ((h.ext hb).old a) ⟨_,_,rfl,((h.ext hb).oldS s7)⟩ z) Z Z Z Z ?_;obtain⟨_,d,F⟩:=qe F;obtain⟨D,d⟩:=qad d;refine d_v (fun _ hb=>qdB D Z Z) Z ?_;rw[d];refine Y1 1 1 h Z ?_;refine Y1 2 0 h Z ?_;obtain⟨r4,A,F⟩:=qe F;refine qa3 r4 (vsS _) (cB 31 Z) (fun _ hb=>qfp ((h.ext hb).old a) ⟨_,_,rfl,((h.ext hb).oldS s8)⟩ A) Z Z Z Z ?_;obtain⟨_,f,F⟩:=qe F;obtain⟨H,f⟩:=qad f;refine d_v (fun _ hb=>qdB H Z Z) Z ?_;rw[f];refine zd1 Z (dN h fun _ h=>?_);obtain rfl:=qa F;exact qah qc (ρ:=ByteArray) [_] h ⟨rfl,E⟩ (qdm _ _)
def qdS(_:Nat)(i a:Int):Option ByteArray:=if a=10/\-9223372036854775808<=i/\i<=9223372036854775807 then U ⟨(Lib.itoa i).toArray⟩ else G
theorem qh0{i base}(a:GV 2 (Lib.pow10Tab.map (Value.int .u64)) w (old w)){r:ByteArray}(F:qdS n i base=U r):RetV prog 124 [vi i,vi base] w r:=by
 unfold qdS at F;split at F
 ·rename_i hh
  obtain rfl:=qa F;obtain⟨rfl,b,c⟩:=hh;refine(Tryz.strconv_FormatInt_10 i b c w ((a.var (by kernel_rfl)).trans Z)).mono ?_;rintro e w' ⟨rfl,k,os,rfl⟩;exact⟨_,rfl,Lib.below_grow _ w (je _) k os,[.string _],rfl,qdm _ _⟩
 cases F
def qgn(n:Nat)(b:Int):Option ByteArray:=(qdS n b 10).bind fun a=>U a
theorem qj4{a_n}(a:GV 2 (Lib.pow10Tab.map (Value.int .u64)) w (old w)){r:ByteArray}(F:qgn n a_n=U r):RetV prog 80 [vi a_n] w r:=by
 refine zV 5 func80 Z fun h=>X0 7 Z (zcS h F (qh0 (h.old a)) Z fun _ _ h F=>X0 2 Z ?_);obtain rfl:=qa F;exact qah qc (ρ:=ByteArray) [_] h ⟨rfl,E⟩ (qdm _ _)
def qcu(_:Nat)(d:qb)(l:qh)(p:Tplace):Option ByteArray:=bif decide (p.instance_<0) then(idx d.Ac p.pin).bind fun b=>U b.Am else(idx d.Aa p.instance_).bind fun a=>(catB a.Am (⟨#[47]⟩:ByteArray)).bind fun g=>(idx l.Aj a.Bf).bind fun c=>(idx c.Ak p.pin).bind fun f=>(catB g f.Am).bind fun h=>U h
theorem qdR{d:qb}{l:qh}{p:Tplace}(c:Ro w d cs1)(f:Ro w l cs2)(g:Ro w p cs3){r:ByteArray}(F:qcu n d l p=U r):RetV prog 81 [oV qb cs1,oV qh cs2,oV Tplace cs3] w r:=by
 obtain⟨_,_,_,_,_,_,rfl,O,_,P⟩:=qJ c;obtain⟨_,_,rfl,Q⟩:=qZ f;obtain rfl:=qd1 g;refine zV 40 func81 Z fun h=>zSR (qr h Z Z fun _ _ h=>qr h Z Z fun _ _ h=>qr h Z Z fun _ _ h=>X1 9 0 h Z (qf Z F ?_ ?_))<;>intro F
 ·refine X2 6 2 0 h Z ?_;obtain⟨_,_,F,s,_,_,_,_,x,B,I,i⟩:=P.ix F;obtain rfl:=qab I;refine zxe x B s Z (zp1 Z (zc 0 (i.below h.below) Z (X0 2 Z ?_)));obtain rfl:=qa F;exact qah qc (ρ:=ByteArray) [_] h ⟨rfl,E⟩ (qdm _ _)
 refine X2 7 2 0 h Z ?_;obtain⟨_,_,F,t,_,_,_,_,y,C,J,k⟩:=O.ix F;obtain⟨_,_,rfl,_⟩:=qA J;refine zxe y C t Z (zc 0 (k.below h.below) Z (qC qc h Z Z Z fun _ _ h=>zs 0 h Z fun _ h=>zNS (rD (Y1 2 0 h Z ?_))));obtain⟨_,a,F⟩:=qe F;obtain⟨M,a⟩:=qad a;refine d_v (fun _ S=>qdB M Z Z) Z ?_;rw[a];refine Y1 2 2 h Z ?_;refine Y1 2 0 h Z ?_;obtain⟨_,_,F,u,_,_,_,_,z,D,K,m⟩:=Q.ix F;obtain⟨_,_,_,_,_,_,rfl,R,_,_⟩:=qF K;refine zdxe z D u Z (zd1 Z (zdc 2 (m.below h.below) Z (Y1 2 1 h Z ?_)));obtain⟨_,_,F,v,_,_,_,_,A,H,L,o⟩:=R.ix F;obtain rfl:=qav L;refine zdxe A H v Z (zd1 Z (zdc 0 (o.below h.below) Z ?_));obtain⟨_,b,F⟩:=qe F;obtain⟨N,b⟩:=qad b;refine d_v (fun _ S=>qdB N Z Z) Z ?_;rw[b];refine zd1 Z (dN h fun _ h=>?_);obtain rfl:=qa F;exact qah qc (ρ:=ByteArray) [_] h ⟨rfl,E⟩ (qdm _ _)
def qP(a:(Option Tview))(f:Int)(d:(List Int)):Nat->ByteArray->Int->Option (ByteArray×Int)|0,_,_=>G|n+1,g,c=>bif decide (c<(d.length:Int)) then(idx d c).bind fun i=>(a).bind fun b=>(idx ([(⟨#[32,102,114,111,109,32]⟩:ByteArray),(⟨#[32,116,104,114,111,117,103,104,32]⟩:ByteArray),(⟨#[32,116,111,32]⟩:ByteArray)]:List ByteArray) f).bind fun k=>(idx b.places i).bind fun l=>(qcu n (⟨b.Bi.Ab.Aa,b.Bi.Ab.Af,b.Bi.Ab.Ac⟩:qb) (⟨b.Bi.Aq.Aj⟩:qh) l).bind fun h=>(catB k h).bind fun m=>(catB g m).bind fun o=>qP a f d n o (W64 (c+1)) else U (g,c)
def qR(b:(Option Tview))(a:qk):Nat->ByteArray->Int->Option (ByteArray×Int)|0,_,_=>G|n+1,d,c=>bif decide (c<((3:Nat):Int)) then(idx ([a.Av,a.Au,a.To]:List (List Int)) c).bind fun f=>(qP b c f n d 0).bind fun(g,_)=>qR b a n g (W64 (c+1)) else U (d,c)
def qbX(n:Nat)(b:(Option Tview))(a:qk):Option ByteArray:=(idx exWords a.Ap).bind fun c=>(bif (a.Ap != 1) then(qgn n a.Bd).bind fun d=>(catB (⟨#[32]⟩:ByteArray) d).bind fun h=>(catB c h).bind fun i=>U i else U c).bind fun f=>(qR b a n f 0).bind fun(g,_)=>U g
theorem qgP{f:(Option Tview)}{a:qk}(a5:Ro w f cs1)(a6:Ro w a cs2)(H:GV 0 (exWords.map Value.string) w (old w))(I:GV 2 (Lib.pow10Tab.map (Value.int .u64)) w (old w)){r:ByteArray}(F:qbX n f a=U r):RetV prog 39 [oV (Option Tview) cs1,oV qk cs2] w r:=by
 obtain⟨p1,rfl,s1⟩:=qkl a5;obtain⟨p2,k1,p3,k2,p4,k3,rfl,s2,s3,s4⟩:=qae a6;refine zV 70 func39 Z fun h=>zSR (qr h Z Z fun w1 z h=>X1 6 0 h Z ?_);obtain⟨_,M,F⟩:=qe F;have D:=qa8 M;refine r_v (qqv qc Z Z ⟨D.1,D.2.1⟩ ⟨rfl,rfl⟩ Z Z) Z (r_v (qqy qc (h.old H) (qqd M) Z Z Z) Z (X1 9 0 h Z ?_));obtain⟨R,B,_,F,A⟩:=bindE F;refine qcX (fun e w'=>∃z1,R z1=U r/\e=[(0,.pointer p1),(3,vp z),(5,.string z1)]/\SH w w' [oX z (qeW a p2 p3 p4 k1 k2 k3) 50]) ?_ ?_
 ·refine qf Z F ?_ ?_<;>intro F
  ·refine X1 4 0 h Z (zcS h F (qj4 (h.old I)) Z fun _ _ h F=>?_);obtain⟨_,v,F⟩:=qe F;obtain⟨a1,v⟩:=qad v;refine r_v (qdB a1 Z Z) Z ?_;rw[v];obtain⟨_,x,F⟩:=qe F;obtain⟨a2,x⟩:=qad x;refine r_v (qdB a2 Z Z) Z ?_;rw[x];refine X0 2 Z ?_;obtain rfl:=qa F;exact rG ⟨_,A,rfl,h⟩ Z
  refine qe3 ?_;obtain rfl:=qa F;exact rG ⟨_,A,rfl,h⟩ Z
 rintro _ _ ⟨z1,F,rfl,h⟩;subst B;refine X3 9 0 0 0 h Z (qlJ qc [.tmp 24,.tmp 26,.tmp 28] _ ([a.Av,a.Au,a.To]:List (List Int)) h Z Z Z Z Z Z Z Z Z ⟨⟨_,_,rfl,s2⟩,⟨_,_,rfl,s3⟩,⟨_,_,rfl,s4⟩,E⟩ Z fun _ y S1 h=>X0 3 Z ?_);obtain⟨o1,F,a3⟩:=qe F;refine ql ?_;replace h:=h.p [0] Z;refine rL (fun m e w'=>∃z2 o,qR f a m z2 o=U o1/\e=[(0,.pointer p1),(5,.string z2),(29,oS y 3 3),(30,vi ((3:Nat):Int)),(31,vi o)]/\SH w w' [Ch.rowD w S1 (([a.Av,a.Au,a.To]:List (List Int)):List (List Int)) y 3]) n ⟨_,_,F,rfl,h⟩ Z ?_;rintro m1 _ _ ⟨z2,o,F,rfl,h⟩;rcases m1 with _|m1
 ·cases F
 refine X0 5 Z (qf Z F ?_ ?_)<;>intro F
 ·refine X0 6 Z ?_;obtain⟨P,N,F⟩:=qe F;have a9:=qa8 N;obtain⟨_,o_1,_,_,b2,b6,-,b9,a7⟩:=h.atD 0 Z N;obtain⟨p6,k4,rfl,s5⟩:=b9;refine zxe b2 b6 a9 Z (zc 0 a7 Z (X0 9 Z ?_));obtain⟨o2,F,a4⟩:=qe F;refine ql (rL (fun m e w'=>∃z3 Q,qP f o P m z3 Q=U o2/\e=[(0,.pointer p1),(5,.string z3),(6,vi o),(29,oS y 3 3),(30,vi ((3:Nat):Int)),(31,vi o),(36,oS p6 P.length k4),(37,vi (P.length:Int)),(38,vi Q)]/\SH w w' [Ch.rowD w S1 (([a.Av,a.Au,a.To]:List (List Int)):List (List Int)) y 3]) m1 ⟨_,_,F,rfl,h⟩ Z ?_);rintro m2 _ _ ⟨z3,Q,F,rfl,h⟩;rcases m2 with _|m2
  ·cases F
  refine X0 5 Z (qf Z F ?_ ?_)<;>intro F
  ·refine zKSBSR ?_;obtain⟨_,_,F,b0,_,_,_,_,b4,b7,rfl,a8⟩:=s5.ix F;refine zxe b4 b7 b0 Z (zc 0 (a8.below h.below) Z (X0 2 Z ?_));obtain⟨_,c1,F⟩:=qe F;obtain⟨b3,o_3,_,rfl,-,c0,p⟩:=PtR.get s1 c1;obtain⟨_,_,_,_,_,_,_,_,_,_,_,_,_,_,_,_,_,_,_,_,rfl,s6,s7,s8,s9,_,s11,_,_,_,_⟩:=qkE c0;obtain⟨_,d,F⟩:=qe F;obtain⟨y6,O,F⟩:=qe F;obtain⟨r1,u,F⟩:=qe F;obtain⟨_,b,F⟩:=qe F;obtain⟨z5,c,F⟩:=qe F;refine qcX (fun e w'=>e=[(0,.pointer (U ⟨b3,o_3,G⟩)),(5,.string z5),(6,vi o),(29,oS y 3 3),(30,vi ((3:Nat):Int)),(31,vi o),(36,oS p6 P.length k4),(37,vi (P.length:Int)),(38,vi Q)]/\SH w w' [Ch.rowD w S1 (([a.Av,a.Au,a.To]:List (List Int)):List (List Int)) y 3]) ?_ ?_
   ·refine rA [] [] h Z fun _ h=>M0 485 [0,2,5,6,7,8] (h.p [] Z) Z (Al 9 997 1 p (h.p [] Z) Z (M0 16357 [10,11,12,13] (h.p [] Z) Z (Al 14 32741 0 p (h.p [] Z) Z (M0 262117 [15,16,17] (h.p [] Z) Z (Al 18 524261 5 p (h.p [] Z) Z (M0 1048549 [19] (h.p [] Z) Z ?_))))));have b1:=qa8 O;obtain⟨_,o_9,_,_,b5,b8,-,J,C⟩:=s11.at O;obtain rfl:=qd1 J;refine Ae 20 2097125 b5 b8 b1 (h.p [] Z) Z (Al 21 4194277 0 C (h.p [] Z) Z (At 1 22 4194279 8388581 Z ?_ ?_))
    ·refine qT qc [.const (.string (⟨#[32,102,114,111,109,32]⟩:ByteArray)),.const (.string (⟨#[32,116,104,114,111,117,103,104,32]⟩:ByteArray)),.const (.string (⟨#[32,116,111,32]⟩:ByteArray))] _ ([(⟨#[32,102,114,111,109,32]⟩:ByteArray),(⟨#[32,116,104,114,111,117,103,104,32]⟩:ByteArray),(⟨#[32,116,111,32]⟩:ByteArray)]:List ByteArray) h Z Z Z Z Z Z Z Z Z ⟨rfl,rfl,rfl,E⟩ Z fun _ _ _ h=>Ag (h.p [] Z) ?_;have g:=qa8 d;obtain⟨_,o_10,_,_,s,t,-,K,_⟩:=(h.sl 0 Z).1.at d;obtain rfl:=K;refine Ax 3 4194287 s t ⟨g.1,qap g.2.1 (h.sl 0 Z).2⟩ (h.p [] Z) Z (At 4 22 4194303 8388591 Z ?_ ?_)
     ·refine r_v (qhK qc (qdK (w1:=w) (S1:=fun _=>False) h 0 Z d s t Z) (j:=0) Z Z Z) Z (Ag (h.p [] Z) (Ao 22 8388607 Z (qhx r1 h (cB 81 Z) (qdR (qas _ (h.oldS s7) (h.oldS s8) (h.oldS s9)) (qbg _ (h.oldS s6)) (qeL y6) u) Z Z Z Z fun _ h=>Ag (h.p [] Z) ?_)));obtain⟨g9,b⟩:=qad b;refine Aw 23 16777215 (fun w' hw=>qdB g9 Z Z) (h.p [] Z) Z ?_;rw[b];obtain⟨S,c⟩:=qad c;refine Aw 24 33554431 (fun w' hw=>qdB S Z Z) (h.p [] Z) Z ?_;rw[c];refine M0 67108863 [25] (h.p [] Z) Z (Ad ?_);replace h:=h.p [1] Z;exact rG ⟨rfl,h⟩ Z
     refine qhx r1 h (cB 81 Z) (qdR (qas _ (h.oldS s7) (h.oldS s8) (h.oldS s9)) (qbg _ (h.oldS s6)) (qeL y6) u) Z Z Z Z fun _ h=>Ag (h.p [] Z) (Ao 4 8388607 Z (r_v (qhK qc (qdK (w1:=w) (S1:=fun _=>False) h 0 Z d s t Z) (j:=0) Z Z Z) Z (Ag (h.p [] Z) ?_)));obtain⟨T,b⟩:=qad b;refine Aw 23 16777215 (fun w' hw=>qdB T Z Z) (h.p [] Z) Z ?_;rw[b];obtain⟨W,c⟩:=qad c;refine Aw 24 33554431 (fun w' hw=>qdB W Z Z) (h.p [] Z) Z ?_;rw[c];refine M0 67108863 [25] (h.p [] Z) Z (Ad ?_);replace h:=h.p [1] Z;exact rG ⟨rfl,h⟩ Z
    refine qhx r1 h (cB 81 Z) (qdR (qas _ (h.oldS s7) (h.oldS s8) (h.oldS s9)) (qbg _ (h.oldS s6)) (qeL y6) u) Z Z Z Z fun _ h=>Ag (h.p [] Z) (Ao 1 8388583 Z (qT qc [.const (.string (⟨#[32,102,114,111,109,32]⟩:ByteArray)),.const (.string (⟨#[32,116,104,114,111,117,103,104,32]⟩:ByteArray)),.const (.string (⟨#[32,116,111,32]⟩:ByteArray))] _ ([(⟨#[32,102,114,111,109,32]⟩:ByteArray),(⟨#[32,116,104,114,111,117,103,104,32]⟩:ByteArray),(⟨#[32,116,111,32]⟩:ByteArray)]:List ByteArray) h Z Z Z Z Z Z Z Z Z ⟨rfl,rfl,rfl,E⟩ Z fun _ _ _ h=>Ag (h.p [] Z) ?_));have i:=qa8 d;obtain⟨_,o_11,_,_,k,l,-,L,_⟩:=(h.sl 0 Z).1.at d;obtain rfl:=L;refine Ax 3 8388591 k l ⟨i.1,qap i.2.1 (h.sl 0 Z).2⟩ (h.p [] Z) Z (Ao 4 8388607 Z (r_v (qhK qc (qdK (w1:=w) (S1:=fun _=>False) h 0 Z d k l Z) (j:=0) Z Z Z) Z (Ag (h.p [] Z) ?_)));obtain⟨X,b⟩:=qad b;refine Aw 23 16777215 (fun w' hw=>qdB X Z Z) (h.p [] Z) Z ?_;rw[b];obtain⟨a0,c⟩:=qad c;refine Aw 24 33554431 (fun w' hw=>qdB a0 Z Z) (h.p [] Z) Z ?_;rw[c];refine M0 67108863 [25] (h.p [] Z) Z (Ad ?_);replace h:=h.p [1] Z;exact rG ⟨rfl,h⟩ Z
   rintro _ _ ⟨rfl,h⟩;exact X0 5 Z (rK ⟨_,_,F,rfl,h⟩ Z)
  refine qq Z ?_;obtain rfl:=qa F;replace F:=a4;exact X0 5 Z (rK ⟨_,_,F,rfl,h⟩ Z)
 refine qq Z ?_;obtain rfl:=qa F;replace F:=a3;refine X0 5 Z ?_;obtain rfl:=qa F;exact qah qc (ρ:=ByteArray) [_] h ⟨rfl,E⟩ (qdm _ _)
def qbB(n:Nat)(b:qm)(g:qk):Option ByteArray:=(qf9 n b).bind fun c=>bif (!c) then U (⟨#[]⟩:ByteArray) else(qf5 n b).bind fun a=>(qcw n a g).bind fun d=>bif (!d) then U (⟨#[]⟩:ByteArray) else(qbX n a g).bind fun f=>U f
theorem qhN{b:qm}{M:qk}(f:Ro w b cs1)(g:Ro w M cs2)(k:GV 0 (exWords.map Value.string) w (old w))(l:GV 2 (Lib.pow10Tab.map (Value.int .u64)) w (old w)){r:ByteArray}(F:qbB n b M=U r):RetV prog 11 [oV qm cs1,oV qk cs2] w r:=by
 obtain⟨_,_,_,_,_,_,_,_,_,_,rfl,_,_,_,_,_⟩:=qU f;obtain⟨_,_,_,_,_,_,rfl,I,J,K⟩:=qae g;refine zV 18 func11 Z fun h=>zSR (qr h Z Z fun _ _ h=>qr h Z Z fun _ _ h=>X1 6 1 h Z (zcB h F (qj9 (h.old f)) Z fun _ _ h F=>X0 2 Z (qf Z F ?_ ?_)))<;>intro F
 ·refine X0 4 Z ?_;obtain rfl:=qa F;exact qah qc (ρ:=ByteArray) [_] h ⟨rfl,E⟩ (qdm _ _)
 refine X1 4 1 h Z ?_;have a:Rg (old w) w (old w) w:=.start (fun _ h=>h);obtain⟨C,p,F⟩:=qe F;refine qpz C a h (cB 37 Z) (qjN (a.regOld h) (a.inR h f) p) Z Z Z Z fun _ _ _ d c u t=>?_;have z:=h.ext c.below;have i:=Up.box 0 h c Z;have L:=Up.S a h c I;have D:=Up.S a h c J;have H:=Up.S a h c K;have m:=Up.R a h c g;have A:=Up.boxP (x:=M) a 0 h c Z (a.inR h g);have v:=Up.R a h c k;have y:=Up.R a h c l;have B:=h.below.trans (c.below.mono h.below.size);replace h:=u;obtain⟨_,rfl,s⟩:=qp5 t;obtain⟨_,rfl,o⟩:=qkl s;refine X0 6 Z (zc 0 (i.below h.below) Z (zcB h F (qg9 (h.old (GoT.mono o d.old)) (h.old (GoT.mono m d.old))) Z fun _ _ h F=>X0 2 Z (qf Z F ?_ ?_)))<;>intro F
 ·refine X0 4 Z ?_;replace h:=h.unbase d.below (show NoD [] from trivial);obtain rfl:=qa F;exact qah qc (ρ:=ByteArray) [_] h ⟨rfl,E⟩ (qdm _ _)
 refine X0 4 Z (zc 0 (i.below h.below) Z (zcS h F (qgP (h.old (GoT.mono o d.old)) (h.old (GoT.mono m d.old)) (h.old (GoT.mono v d.old)) (h.old (GoT.mono y d.old))) Z fun _ _ h F=>X0 2 Z ?_));replace h:=h.unbase d.below (show NoD [] from trivial);obtain rfl:=qa F;exact qah qc (ρ:=ByteArray) [_] h ⟨rfl,E⟩ (qdm _ _)
end Go.Fw
