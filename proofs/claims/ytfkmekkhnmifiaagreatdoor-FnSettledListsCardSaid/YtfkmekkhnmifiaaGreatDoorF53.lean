/- Plain laws: the specification's loads and delays are the program's. -/
import Derived.Test.YtfkmekkhnmifiaaGreatDoorW5
import Derived.Test.YtfkmekkhnmifiaaGreatDoorZ2
import Derived.Test.YtfkmekkhnmifiaaGreatDoorR3
import Derived.Test.YtfkmekkhnmifiaaGreatDoorA3
open Option renaming bind_some->jd, some->V, none->G
open Bool renaming and_eq_true->je, eq_iff_iff->jj, true_and->jy, not_eq_true'->jA, or_eq_true->Jg, false_or->Ji, not_true->Jj
open Nat renaming le_refl->jf, le_trans->jT, zero_le->jW
open List renaming length_append->jg, length_singleton->jh, getElem?_eq_getElem->jn, getElem_mem->jo, mem_cons_of_mem->jq, mem_cons_self->js, length_map->jt, append_assoc->jv, getD_eq_getElem?_getD->jx, not_mem_nil->jz, take_succ_eq_append_getElem->jC, all_eq_true->jF, take_length->jG, length_replicate->jH, mem_cons->jK, drop_eq_getElem_cons->jM, length_take->jN, mem_append_left->jR, append_nil->jY, map_append->jZ, length_cons->Ja, mem_append_right->Jc
open Int renaming toNat_natCast->jp, tdiv_eq_ediv_of_nonneg->jD, le_refl->jQ, mul_nonneg->jV, mul_le_mul->jX, add_zero->Jd, mul_assoc->Je

namespace Go.Fw
open Go
set_option maxRecDepth 100000
theorem qu0{b:qd}(h:blockB b=true){j:Nat}(d:j<(places b.Aa).length){n:Nat}:qk2 n b.Am b.Aa (toSp (gt (places b.Aa) j))=V (capJ b j):=by
 have c:=qan h;unfold capJ pinCap;rcases qlc d with⟨i,k,hi,hk,_,e⟩|⟨i,hi,_,e⟩
 ·rw[e];obtain⟨⟨a,c1⟩,f,_⟩:=qhN c hi;unfold place1 cellAt toSp;simp only[qk2,show decide ((i:Int)<0)=false by simp,cond_false,qw hi,jd,qf1 a c1,jp,qw (show k<(gt b.Am.Ap (gt b.Aa.Ab i).Bq.toNat).Ay.length by omega)]
 ·rw[e];rfl
theorem qpB{b:qd}(h:blockB b=true){i:Nat}(hi:i<b.Ac.length):Ev (fun n=>qij n b (i:Int)) (loadsL b i):=by
 have c:=qbK h hi;have p:=qY (qan h);have v:=c.lo;have s:=c.hi;have d:=c.cap;have x:=qhY h (i:=i);have e1:Ev (fun n=>qdF b (gt b.Ac i) ((places b.Aa).map toSp) (skL b i) n (gt b.Ac i).Bl 0) (ldA b (gt b.Ac i) (skL b i) (skL b i).length,((skL b i).length:Int)):=by
  refine loopF (Lf:=qdF b (gt b.Ac i) ((places b.Aa).map toSp) (skL b i)) (S:=ldA b (gt b.Ac i) (skL b i)) (len:=(skL b i).length) (fun n=>?_) (fun j a X o=>?_)
  ·simp only[qdF,qq (jf _),cond_false]
  ·obtain⟨y,l,m,_⟩:=qn1 a;have f:j<(gt b.Ac i).Bb.length:=by rw[c.snk];exact a
   have k:=c.sin j f;have u:=qoQ (b:=b) (w:=gt b.Ac i) (sk:=skL b i) (j:=j);have g:idx ((places b.Aa).map toSp) (y:Int)=V (toSp (gt (places b.Aa) y)):=by
    refine qgM ?_;rw[List.getElem?_map,jn l,qeQ l];rfl
   have r:=fun n=>qu0 h l (n:=n);simp only[qdF,qp a,cond_true,qar a,m,jd,qar f,qf1 k.1 (show at0 (gt b.Ac i).Bb j<((ldA b (gt b.Ac i) (skL b i) j).length:Int) by omega),g,r,wS j];have:ldA b (gt b.Ac i) (skL b i) (j+1)=setS (ldA b (gt b.Ac i) (skL b i) j) (at0 (gt b.Ac i).Bb j) (W64 (gt (ldA b (gt b.Ac i) (skL b i) j) (at0 (gt b.Ac i).Bb j).toNat+capJ b y)):=by
    show addSink _ _ _ _ _=_;unfold addSink;rw[m,jp]
   rw[this] at o;exact o
 have e2:∀j t,t.length=(gt b.Ac i).Aj.length->j<(gt b.Ac i).Aj.length->Ev (fun n=>qdQ (gt b.Ac i) n t (j:Int)) (ldB (gt b.Ac i) j t,0):=by
  intro j
  induction j with
  |zero=>
   intro t _ _;refine Ev.succ ?_;show Ev (fun n=>qdQ (gt b.Ac i) (n+1) t 0) _;unfold qdQ;exact Ev.ff Z .done
  |succ j ih=>
   intro t z a;have g:=c.par (j+1) (by omega) a;refine Ev.succ ?_;simp only[qdQ,show decide (((j+1:Nat):Int) > 0)=true from decide_eq_true (by omega),cond_true,qar a,jd,qf1 g.1 (show at0 (gt b.Ac i).Aj (j+1)<(t.length:Int) by omega),qw (show j+1<t.length by omega),show((j+1:Nat):Int)-1=(j:Int) by omega,qQ (show -9223372036854775808<=(j:Int) by omega) (by omega)];exact ih _ (by rw[qaY];exact z) (by omega)
 unfold qij qeI;rw[qw hi];simp only[jd,qcx (show([]:List Int).length+(gt b.Ac i).Bl.length<=2147483648 by simp;omega),List.nil_append];refine Ev.bind (qhH p) (Ev.bind (qln p) (Ev.bind e1 ?_));rw[qd0 (show(gt b.Ac i).Bl.length<=9223372036854775807 by omega),show((gt b.Ac i).Bl.length:Int)-1=(((gt b.Ac i).Aj.length-1:Nat):Int) by omega];exact Ev.bind (e2 _ _ (by rw[qoQ];exact d) (by omega)) .done
theorem qoA{b:qd}(h:blockB b=true){i:Nat}(hi:i<b.Ac.length):Ev (fun n=>qhG n b (i:Int)) (delaysL b i):=by
 have f:=qbK h hi;have o:=f.lo;have m:=f.hi;have l:=f.res;have l1:=qmw h hi;have c:∀d k,k+1+d=(gt b.Ac i).Aj.length->Ev (fun n=>qd7 (gt b.Ac i) (loadsL b i) n (dlL (gt b.Ac i) (loadsL b i) k) ((k+1:Nat):Int)) (delaysL b i,((loadsL b i).length:Int)):=by
  intro d
  induction d with
  |zero=>
   intro k g;refine Ev.succ ?_;simp only[qd7,qq (show(loadsL b i).length<=k+1 by omega),cond_false];refine Ev.now ?_;rw[l1,<-g];unfold delaysL;rw[<-g]
   rfl
  |succ d ih=>
   intro k g;have p:=f.par (k+1) (by omega) (by omega);have a:=qoq (w:=gt b.Ac i) (ld:=loadsL b i) (k:=k);refine Ev.succ ?_;simp only[qd7,qp (show k+1<(loadsL b i).length by omega),cond_true,qar (show k+1<(gt b.Ac i).Aj.length by omega),jd,qf1 p.1 (show at0 (gt b.Ac i).Aj (k+1)<((dlL (gt b.Ac i) (loadsL b i) k).length:Int) by omega),
    qar (show k+1<(gt b.Ac i).Br.length by omega),qw (show k+1<(loadsL b i).length by omega),qih (show k+1<9223372036854775807 by omega)]
   rw[qcx (by rw[a,jh];omega)];exact ih (k+1) (by omega)
 unfold qhG;rw[qw hi];simp only[jd];refine Ev.bind (qpB h hi) ?_;exact Ev.bind (c ((gt b.Ac i).Aj.length-1) 0 (by omega)) .done
theorem qjw{b:qd}(h:blockB b=true){i:Nat}(hi:i<b.Ac.length){mode:Int}:Ev (fun n=>qgS n b (i:Int) mode) ((exactL b i).map fun x=>divI x 1000 mode):=by
 have k:=qbK h hi;have r:(gt b.Ac i).Bb.length<=78:=by rw[k.snk];exact qhY h
 have p:=qnk h hi;have l:Ev (fun n=>qbY b (i:Int) mode (delaysL b i) n ([]:List Int) 0) ((exactL b i).map (fun x=>divI x 1000 mode),((gt b.Ac i).Bb.length:Int)):=by
  refine loopF (Lf:=qbY b (i:Int) mode (delaysL b i)) (S:=fun j=>(((gt b.Ac i).Bb.take j).map fun s=>gt (delaysL b i) s.toNat).map fun x=>divI x 1000 mode) (len:=(gt b.Ac i).Bb.length) (fun n=>?_) (fun j c X o=>?_)
  ·simp only[qbY,qw hi,jd,qq (jf _),cond_false,jG];rfl
  ·have g:=k.sin j c;have f:=qoa h hi c;have m:gt (exactL b i) j=gt (delaysL b i) (at0 (gt b.Ac i).Bb j).toNat:=by
    unfold exactL;rw[qeQ (by rw[jt];exact c),List.getElem_map,qhF c]
   rw[m] at f;have d:=fun n=>qkH (n:=n) (a:=gt (delaysL b i) (at0 (gt b.Ac i).Bb j).toNat) (b:=1000) (mode:=mode) (by omega) (by omega) (by omega);simp only[qbY,qw hi,jd,qp c,cond_true,qar c,qf1 g.1 (show at0 (gt b.Ac i).Bb j<((delaysL b i).length:Int) by omega),d,wS j];rw[qcx (by rw[jt,jt,jN,jh];omega)];have:(((gt b.Ac i).Bb.take j).map (fun s=>gt (delaysL b i) s.toNat)).map (fun x=>divI x 1000 mode)++[divI (gt (delaysL b i) (at0 (gt b.Ac i).Bb j).toNat) 1000 mode]=(((gt b.Ac i).Bb.take (j+1)).map fun s=>gt (delaysL b i) s.toNat).map fun x=>divI x 1000 mode:=by
    rw[jC c,jZ,jZ,qhF c];rfl
   rw[this];exact o
 unfold qgS;exact Ev.bind (qoA h hi) (Ev.bind l .done)

instance:Inhabited qf:=⟨⟨0,⟨0,0⟩,⟨0,0⟩⟩⟩
instance:Inhabited qg:=⟨⟨0,0⟩⟩
def cornerB(c:qx):Bool:=(inI c.Bc 100 5000&&(inI c.Bg 100 5000&&(inI c.Bf 100 5000&&inI c.Bh 100 5000)))&&(nameB c.Az&&(decide (c.Bc<=c.Bg)&&decide (c.Bf<=c.Bh)))
theorem qh3{c:qx}(h:okS c.Az):Ev (fun n=>qcY n c) (cornerB c):=by
 have a:Ev (fun n=>qch c n 0) (bif inI c.Bc 100 5000&&(inI c.Bg 100 5000&&(inI c.Bf 100 5000&&inI c.Bh 100 5000)) then .nxt 4 else .ret false):=by
  refine Ev.succ ?_;simp only[qch,qc1,show idx ([c.Bc,c.Bg,c.Bf,c.Bh]:List Int) 0=V c.Bc from rfl,jd];refine Ev.tt Z ?_;cases inI c.Bc 100 5000
  ·exact .done
  refine Ev.ff Z (Ev.succ ?_);simp only[qch,qc1,show W64 (0+1)=1 from rfl,show idx ([c.Bc,c.Bg,c.Bf,c.Bh]:List Int) 1=V c.Bg from rfl,jd];refine Ev.tt Z ?_;cases inI c.Bg 100 5000
  ·exact .done
  refine Ev.ff Z (Ev.succ ?_);simp only[qch,qc1,show W64 (1+1)=2 from rfl,show idx ([c.Bc,c.Bg,c.Bf,c.Bh]:List Int) 2=V c.Bf from rfl,jd];refine Ev.tt Z ?_;cases inI c.Bf 100 5000
  ·exact .done
  refine Ev.ff Z (Ev.succ ?_);simp only[qch,qc1,show W64 (2+1)=3 from rfl,show idx ([c.Bc,c.Bg,c.Bf,c.Bh]:List Int) 3=V c.Bh from rfl,jd];refine Ev.tt Z ?_;cases inI c.Bh 100 5000
  ·exact .done
  refine Ev.ff Z (Ev.succ ?_);simp only[qch];exact Ev.ff Z .done
 unfold qcY cornerB;refine Ev.bind a ?_;cases inI c.Bc 100 5000&&(inI c.Bg 100 5000&&(inI c.Bf 100 5000&&inI c.Bh 100 5000))
 ·exact .done
 ·refine Ev.bind (qmd h) ?_;cases nameB c.Az
  ·exact .done
  ·cases decide (c.Bc<=c.Bg)<;>exact .done
theorem qq5{n:Nat}{a b:Int}:qgY n a b=V (decide (a>=100)&&(decide (a<=b)&&decide (b<=5000))):=by
 unfold qgY;cases decide (a>=100)
 ·rfl
 ·cases decide (a<=b)<;>rfl
theorem qiQ{c:qx}(h:okS c.Az):Ev (fun n=>qdS n c) (cornerB c):=by
 have e:cornerB c=(nameB c.Az&&((decide (c.Bc>=100)&&(decide (c.Bc<=c.Bg)&&decide (c.Bg<=5000)))&&(decide (c.Bf>=100)&&(decide (c.Bf<=c.Bh)&&decide (c.Bh<=5000))))):=by
  unfold cornerB;rw[jj];simp only[je,qaK,decide_eq_true_eq];constructor
  ·rintro⟨⟨b,d,f,g⟩,a,i,k⟩;refine⟨a,⟨?_,?_,?_⟩,?_,?_,?_⟩<;>omega
  ·rintro⟨a,⟨b,d,f⟩,g,i,k⟩;refine⟨⟨⟨?_,?_⟩,⟨?_,?_⟩,⟨?_,?_⟩,?_,?_⟩,a,?_,?_⟩<;>omega
 rw[e];unfold qdS;simp only[qoU h,qq5,jd];cases nameB c.Az
 ·exact .done
 ·cases decide (c.Bc>=100)&&(decide (c.Bc<=c.Bg)&&decide (c.Bg<=5000))<;>exact .done
def spanB(s:qg):Bool:=inI s.Ak (-1000000000) 1000000000&&(inI s.As (-1000000000) 1000000000&&decide (s.Ak<=s.As))
def slewB(s:qg):Bool:=decide (s.Ak>=0)&&(decide (s.Ak<=s.As)&&decide (s.As<=1000000))
theorem qqS{n:Nat}{s:qg}:qiJ n s=V (spanB s):=by
 unfold qiJ spanB;simp only[qc1,jd];cases inI s.Ak (-1000000000) 1000000000
 ·rfl
 ·cases inI s.As (-1000000000) 1000000000<;>rfl
theorem qoY{n:Nat}{s:qg}:qhp n s=V (spanB s):=by
 unfold qhp qlq spanB;simp only[qdE,jd];cases inI s.Ak (-1000000000) 1000000000
 ·rfl
 ·cases inI s.As (-1000000000) 1000000000<;>rfl
theorem qst{n:Nat}{s:qg}:qir n s=V (slewB s):=by
 unfold qir slewB;cases decide (s.Ak>=0)
 ·rfl
 ·cases decide (s.Ak<=s.As)<;>rfl
theorem qsr{n:Nat}{s:qg}:qiq n s=V (slewB s):=by
 have e:slewB s=(spanB s&&(inI s.Ak 0 1000000&&inI s.As 0 1000000)):=by
  unfold slewB spanB;rw[jj];simp only[je,qaK,decide_eq_true_eq];constructor
  ·rintro⟨a,b,c⟩;refine⟨⟨⟨?_,?_⟩,⟨?_,?_⟩,?_⟩,⟨?_,?_⟩,?_,?_⟩<;>omega
  ·rintro⟨⟨a,b,c⟩,d,f⟩;refine⟨?_,?_,?_⟩<;>omega
 rw[e];unfold qiq qk7;simp only[qoY,qdE,jd];cases spanB s
 ·rfl
 ·cases inI s.Ak 0 1000000<;>rfl

theorem qoG{b:qd}{k:Int}(h:blockB b=true){j:Nat}(c:j<(places b.Aa).length)(l:(gt (places b.Aa) j).net=k)(d:(gt (places b.Aa) j).drives=true):Ev (fun n=>qhq n b.Aa k) (j:Int):=by
 have g:=qan h;have p:=qY g;have t:=qaV p;have e:ixL (fun q:Tl05Place=>(q.net==k)&&q.drives) ((places b.Aa).map toSp)=(j:Int):=by
  refine qtW (by simpa using c) ?_ (fun i hi m=>?_)
  ·rw[qn3 c];show(((gt (places b.Aa) j).net==k)&&(gt (places b.Aa) j).drives)=true;rw[l,d];simp
  ·have f:i<(places b.Aa).length:=by simpa using hi
   rw[qn3 f] at m;have a:(((gt (places b.Aa) i).net==k)&&(gt (places b.Aa) i).drives)=true:=m;simp only[je,beq_iff_eq] at a;exact qtf g f c (by rw[a.1,l]) a.2 d
 unfold qhq;refine Ev.bind (qhH p) ?_;rw[<-e];exact qfc (fin:=(((places b.Aa).map toSp).length:Int)) (Lf:=qc3 k ((places b.Aa).map toSp)) (xs:=(places b.Aa).map toSp) (pf:=fun _ (q:Tl05Place)=>V ((q.net==k)&&q.drives)) (fun _ _=>.done)
  (fun n=>by simp only[qc3,qq (jf _),cond_false])
  (fun n j x r=>by
   have c:=(List.getElem?_eq_some_iff.1 r).1;have s:j<(places b.Aa).length:=by simpa using c
   simp only[qc3,qp c,cond_true,qgM r,jd,wS j];cases (x.net==k)<;>cases x.drives<;>rfl)
  (fun n=>by congr 1;funext o;cases o<;>rfl)
theorem qqj{b:qd}{i k:Nat}(h:blockB b=true)(hi:i<b.Aa.Ab.length)(s:k<(gt b.Aa.Ab i).Ah.length):Ev (fun n=>qja n b.Aa (i:Int) (k:Int)) ((off b.Aa i+k:Nat):Int):=by
 have p:=qan h;have f:=qY p;have u:=qaV f;obtain⟨c,l⟩:=qkA hi s;have e:ixL (fun q:Tl05Place=>(q.instance_==(i:Int))&&(q.pin==(k:Int))) ((places b.Aa).map toSp)=((off b.Aa i+k:Nat):Int):=by
  refine qtW (by simpa using c) ?_ (fun m t a=>?_)
  ·rw[qn3 c,l];unfold place1 toSp;simp
  ·have d:m<(places b.Aa).length:=by simpa using t
   rw[qn3 d] at a;rcases qlc d with⟨i',k',hi',hk',em,e'⟩|⟨i',hi',em,e'⟩
   ·rw[e'] at a;unfold place1 toSp at a;simp only[je,beq_iff_eq] at a;obtain rfl:i'=i:=by omega
    obtain rfl:k'=k:=by omega
    exact em
   ·rw[e'] at a;unfold place2 toSp at a;simp only[je,beq_iff_eq] at a;omega
 unfold qja;refine Ev.bind (qhH f) ?_;rw[<-e];exact qfc (fin:=(((places b.Aa).map toSp).length:Int)) (Lf:=qel (i:Int) (k:Int) ((places b.Aa).map toSp)) (xs:=(places b.Aa).map toSp) (pf:=fun _ (q:Tl05Place)=>V ((q.instance_==(i:Int))&&(q.pin==(k:Int)))) (fun _ _=>.done)
  (fun n=>by simp only[qel,qq (jf _),cond_false])
  (fun n j x g=>by
   have c:=(List.getElem?_eq_some_iff.1 g).1;have r:j<(places b.Aa).length:=by simpa using c
   simp only[qel,qp c,cond_true,qgM g,jd,wS j];cases (x.instance_==(i:Int))<;>cases (x.pin==(k:Int))<;>rfl)
  (fun n=>by congr 1;funext o;cases o<;>rfl)
theorem qr0{n:Nat}{xs:List qv}{f t a c k i:Int}(m:xs.length<=1000000)(l:0<=f)(f1:f<=1000000)(o:0<=t)(p:t<=1000000)(b:b01 a)(g:b01 c):qfM n xs f t a c k i=V (xs++[⟨2*f+a,2*t+c,k,i⟩]):=by
 have d:0<=a/\a<=1:=by rcases b with e|e<;>omega
 have h:0<=c/\c<=1:=by rcases g with e|e<;>omega
 unfold qfM;rw[wO (2*f),wO (2*t),wO (2*f+a),wO (2*t+c),qcx (by rw[jh];omega)]
 rfl
def fitB(a:qay)(i j:Int):Bool:=bif a.Au==1 then(bif a.Bk==3 then true else(a.Bk==1)==(i==j)) else bif a.Au==2 then i==0 else bif a.Au==3 then i==1 else false
def pcL(a:qay)(f t k i j:Int):List qv:=bif fitB a i j then[⟨2*f+i,2*t+j,1,k⟩] else[]
theorem arcStep{arc:qay}{xs:List qv}{f t k i j:Int}{X:List qv×Int}(g:xs.length<=1000000)(c:0<=f)(f1:f<=1000000)(l:0<=t)(m:t<=1000000)(hi:b01 i)(b:b01 j)
  (h:Ev (fun n=>qbl arc f t k i n (xs++pcL arc f t k i j) (j+1)) X):Ev (fun n=>qbl arc f t k i n xs j) X:=by
 have a:0<=j/\j<=1:=by rcases b with e|e<;>omega
 have d:=fun n=>qr0 (n:=n) (k:=1) (i:=k) g c f1 l m hi b;refine Ev.succ ?_;simp only[qbl,d,jd,wO (j+1)];refine Ev.tt (decide_eq_true a.2) ?_;unfold pcL fitB at h;cases h1:arc.Au==1
 ·cases h2:arc.Au==2
  ·cases h3:arc.Au==3
   ·rw[h1,h2,h3] at h;simpa using h
   ·rw[h1,h2,h3] at h;cases h4:i==1
    ·rw[h4] at h;simpa using h
    ·rw[h4] at h;simpa using h
  ·rw[h1,h2] at h;cases h4:i==0
   ·rw[h4] at h;simpa using h
   ·rw[h4] at h;simpa using h
 ·rw[h1] at h;cases h2:arc.Bk==3
  ·rw[h2] at h;cases h4:(arc.Bk==1)==(i==j)
   ·rw[h4] at h;simpa [h4] using h
   ·rw[h4] at h;simpa [h4] using h
  ·rw[h2] at h;simpa using h
theorem qxV{arc:qay}{xs:List qv}{f t k:Int}(s:xs.length<=900000)(c:0<=f)(f1:f<=1000000)(d:0<=t)(g:t<=1000000) :
  Ev (fun n=>qlh n xs arc f t k) (xs++pcL arc f t k 0 0++pcL arc f t k 0 1++pcL arc f t k 1 0++pcL arc f t k 1 1):=by
 have a:∀i j,(pcL arc f t k i j).length<=1:=fun i j=>by unfold pcL;cases fitB arc i j<;>simp
 have h:=a 0 0;have l:=a 0 1;have m:=a 1 0;have o:=a 1 1;have b:∀(i:Int) (ys:List qv),b01 i->ys.length<=900010->Ev (fun n=>qbl arc f t k i n ys 0) (ys++pcL arc f t k i 0++pcL arc f t k i 1,2):=by
  intro i ys hi u;have r:=a i 0;refine arcStep (by omega) c f1 d g hi (.inl Z) (arcStep (j:=0+1) (by rw[jg];omega) c f1 d g hi (.inr Z) (Ev.succ ?_));simp only[qbl];exact Ev.ff Z .done
 have p:Ev (fun n=>qfa arc f t k n xs 0) (xs++pcL arc f t k 0 0++pcL arc f t k 0 1++pcL arc f t k 1 0++pcL arc f t k 1 1,2):=by
  refine Ev.succ ?_;simp only[qfa];refine Ev.tt Z (Ev.bind (b 0 xs (.inl Z) (by omega)) ?_);refine Ev.succ ?_;simp only[qfa];refine Ev.tt Z (Ev.bind (b 1 _ (.inr Z) (by simp only[jg];omega)) ?_);refine Ev.succ ?_;simp only[qfa];exact Ev.ff Z .done
 unfold qlh;exact Ev.bind p .done
theorem quO{ps:List qaA}{a:qay}(h:arcS ps a=true)(c:a.Au<=3)(b:1<=a.Au):(a.Au=1/\(a.Bk=1\/a.Bk=2\/a.Bk=3))\/a.Au=2\/a.Au=3:=by
 rcases (by omega:a.Au=1\/a.Au=2\/a.Au=3) with e|e|e
 ·refine .inl ⟨e,?_⟩;unfold arcS at h;rw[e] at h;simp only[beq_self_eq_true,cond_true,je,qaK] at h;have:=h.2.2.2.1;omega
 ·exact .inr (.inl e)
 ·exact .inr (.inr e)
theorem qwj{ps:List qaA}{a:qay}{first:Int}{k:Nat}(h:arcS ps a=true)(c:a.Au<=3)(b:1<=a.Au) :
  pcL a (first+a.Be) (first+a.To) (k:Int) 0 0++pcL a (first+a.Be) (first+a.To) (k:Int) 0 1++pcL a (first+a.Be) (first+a.To) (k:Int) 1 0++pcL a (first+a.Be) (first+a.To) (k:Int) 1 1=arcLs first k a:=by
 unfold arcLs transL pcL fitB;rcases quO h c b with⟨e,e2|e2|e2⟩|e|e
 ·rw[e,e2];rfl
 ·rw[e,e2];rfl
 ·rw[e,e2];rfl
 ·rw[e];rfl
 ·rw[e];rfl
theorem qpH{a:qay}{first:Int}{k:Nat}(h:3<a.Au):arcLs first k a=[]:=by
 unfold arcLs transL;rw[show(a.Au==2)=false from beq_eq_false_iff_ne.2 (by omega),show(a.Au==3)=false from beq_eq_false_iff_ne.2 (by omega),show(a.Au != 1)=true from bne_iff_ne.2 (by omega)]
 rfl
theorem qjT{b:qd}(h:blockB b=true):Ev (fun n=>qeL n b) (linksL b):=by
 have v:=qan h;have z:=qY v;have hl:=qaV z;have hni:=z.ni;have hnn:=z.nn;have J:=qfh h;have p:(⟨b.Aa.Ab,b.Aa.Ah,b.Aa.Ai⟩:qj)=b.Aa:=rfl;have e1:Ev (fun n=>qdB b n ([]:List qv) 0) (instLs b b.Aa.Ab.length,(b.Aa.Ab.length:Int)):=by
  refine loopF (Lf:=qdB b) (S:=instLs b) (len:=b.Aa.Ab.length) (fun n=>?_) (fun j m X g=>?_)
  ·simp only[qdB,qq (jf _),cond_false]
  ·obtain⟨⟨P,c1⟩,r,l⟩:=qhN v m;have L:=qn6 l;have s:=(qhJ (qjx l)).1;have H:=qjt h (show j<=b.Aa.Ab.length by omega);have N:=qkP (d:=b.Aa) (i:=j);have hof:off b.Aa (j+1)<=78:=by
    rw[qhB] at hl;have:=qtL (d:=b.Aa) (show j+1<=b.Aa.Ab.length by omega);omega
   have F:cellAt b (j:Int)=gt b.Am.Ap (gt b.Aa.Ab j).Bq.toNat:=rfl;simp only[qdB,qp m,cond_true,qw m,qf1 P c1,jd,wS j];have C:Ev (fun n=>qcR b (j:Int) (cellAt b (j:Int)) n (instLs b j) 0) (instLs b (j+1),((cellAt b (j:Int)).Aq.length:Int)):=by
    rw[show instLs b (j+1)=instLs b j++cellLs (cellAt b (j:Int)) (off b.Aa j:Int) (cellAt b (j:Int)).Aq.length from qkg];rw[<-F] at l r L s;generalize cellAt b (j:Int)=c at l r L s⊢;have:=loopF (Lf:=qcR b (j:Int) c) (S:=fun k=>instLs b j++cellLs c (off b.Aa j:Int) k) (len:=c.Aq.length) (fin:=(instLs b j++cellLs c (off b.Aa j:Int) c.Aq.length,(c.Aq.length:Int))) (fun n=>by simp only[qcR,qq (jf _),cond_false])
     (fun k o X g=>by
      obtain⟨⟨k1,k5⟩,M,I,W⟩:=qnr l o;have Y:(cellLs c (off b.Aa j:Int) k).length<=4*k:=qpz fun _ _=>qoT;have A:cellLs c (off b.Aa j:Int) (k+1)=cellLs c (off b.Aa j:Int) k++arcLs (off b.Aa j:Int) k (gt c.Aq k):=qkg;rw[A] at g;simp only[qcR,qp o,cond_true,qw o,jd,wS k,p];by_cases B:(gt c.Aq k).Au<=3
      ·refine Ev.tt (decide_eq_true B) ?_;have f1:=qqj h m (k:=(gt c.Aq k).Be.toNat) (by omega);have K:=qqj h m (k:=(gt c.Aq k).To.toNat) (by omega);rw[<-qdu M.1] at f1;rw[<-qdu I.1] at K;refine Ev.bind f1 (Ev.bind K (Ev.bind (qxV (by rw[jg];omega) (by omega) (by omega) (by omega) (by omega)) ?_));have u:∀x:Int,0<=x->((off b.Aa j+x.toNat:Nat):Int)=(off b.Aa j:Int)+x:=fun x hx=>by omega
       rw[u _ M.1,u _ I.1,jv,jv,jv,<-jv (pcL _ _ _ _ _ _),<-jv (pcL _ _ _ _ _ _++_),qwj W B k1,jv];exact g
      ·refine Ev.ff (decide_eq_false B) ?_;rw[qpH (by omega),jY] at g;exact g)
    simpa [cellLs,fm] using this
   exact Ev.bind C g
 have D:∀(i:Nat) (t:List qv),i<b.Ac.length->t.length<=900000->Ev (fun n=>qdG (dvN b.Aa i:Int) (skL b i) n t 0) (t++wlN b i (skL b i).length,((skL b i).length:Int)):=by
  intro i t hi I;have hsm:=qhY h (i:=i);have e:=(qim v (k:=i) (by omega)).1;have:=loopF (Lf:=qdG (dvN b.Aa i:Int) (skL b i)) (S:=fun k=>t++wlN b i k) (len:=(skL b i).length) (fin:=(t++wlN b i (skL b i).length,((skL b i).length:Int))) (fun n=>by simp only[qdG,qq (jf _),cond_false])
   (fun k o X g=>by
    obtain⟨y,hy,ey,_⟩:=qn1 o;have hwn:=qr4 (b:=b) (i:=i) (j:=k);have p1:=fun n=>qr0 (n:=n) (xs:=t++wlN b i k) (f:=(dvN b.Aa i:Int)) (t:=at0 (skL b i) k) (a:=0) (c:=0) (k:=2) (i:=(k:Int)) (by rw[jg];omega) (by omega) (by omega) (by omega) (by omega) (.inl Z) (.inl Z);have p2:=fun n=>qr0 (n:=n) (xs:=t++wlN b i k++[⟨2*(dvN b.Aa i:Int)+0,2*at0 (skL b i) k+0,2,(k:Int)⟩]) (f:=(dvN b.Aa i:Int)) (t:=at0 (skL b i) k) (a:=1) (c:=1) (k:=2) (i:=(k:Int)) (by rw[jg,jg,jh];omega) (by omega) (by omega) (by omega) (by omega) (.inr Z) (.inr Z);simp only[qdG,qp o,cond_true,qar o,jd,p1,p2,wS k];have A:wlN b i (k+1)=wlN b i k++wl1 (dvN b.Aa i) (at0 (skL b i) k) k:=qkg;rw[A] at g;rw[Jd,Jd,jv,jv];exact g)
  simpa [wlN,fm] using this
 have u:Ev (fun n=>qdN b n (instLs b b.Aa.Ab.length) 0) (linksL b,(b.Aa.Ah.length:Int)):=by
  have H:=qjt h (jf _);have:=loopF (Lf:=qdN b) (S:=fun j=>instLs b b.Aa.Ab.length++wireLs b j) (len:=b.Aa.Ah.length) (fin:=(linksL b,(b.Aa.Ah.length:Int))) (fun n=>by
    simp only[qdN,qq (jf _),cond_false];rw[<-J];rfl)
   (fun j m X g=>by
    have O:=qn7 h (j:=j);obtain⟨Q,d2⟩:=qim v m;obtain⟨R,T⟩:=qlD.1 d2;simp only[qdN,qp m,cond_true,wS j,p];refine Ev.bind (qoG h Q R T) (Ev.bind (qln z) (Ev.bind (D j _ (by omega) (by rw[jg];omega)) ?_));rw[jv,show wireLs b j++wlN b j (skL b j).length=wireLs b (j+1) from qkg.symm];exact g)
  simpa [wireLs,fm] using this
 unfold qeL;exact Ev.bind e1 (Ev.bind u .done)
def lvB(br:List Int)(m:Nat):List Bool:=pre (fun k=>!br.any fun y=>y==(k:Int)) m
theorem qkZ{br:List Int}{m:Nat}:(lvB br m).length=m:=qlf
theorem ql4{br:List Int}{x:Int}(d:br.length<=1048576):Ev (fun n=>qgz n br x) (br.any fun y=>y==x):=by
 have b:Ev (fun n=>qfg br x n 0) (bif br.any (fun y=>y==x) then .ret true else .nxt (br.length:Int)):=by
  have:=qer (Lf:=qfg br x) (len:=br.length) (f:=fun j=>!(gt br j==x)) (bad:=true) (fin:=.nxt (br.length:Int)) (Ev.succ (by simp only[qfg,qq (jf _),cond_false];exact .done))
   (fun j a X c=>Ev.succ (by
    simp only[qfg,qp a,cond_true,qw a,jd,wS j];cases gt br j==x
    ·exact c
    ·exact .done))
  rw[qtw];refine this.cast ?_;cases allN (fun j=>!(gt br j==x)) br.length<;>rfl
 unfold qgz;refine Ev.bind b ?_;cases br.any (fun y=>y==x)<;>exact .done
theorem qof{ls:List qv}{br:List Int}(g:ls.length<=10000)(a:br.length<=1048576):Ev (fun n=>qh0 n ls br) (lvB br ls.length):=by
 have b:Ev (fun n=>qeh ls br n ([]:List Bool) 0) (lvB br ls.length,(ls.length:Int)):=by
  refine loopF (Lf:=qeh ls br) (S:=fun j=>lvB br j) (len:=ls.length) (fun n=>?_) (fun j d X c=>?_)
  ·simp only[qeh,qq (jf _),cond_false]
  ·simp only[qeh,qp d,cond_true,wS j];refine Ev.bind (ql4 a) ?_;have e:appS (lvB br j) [!br.any fun y=>y==(j:Int)]=V (lvB br (j+1)):=qsc (f:=fun k:Nat=>!br.any fun y=>y==(k:Int)) (by omega);rw[e];exact c
 unfold qh0;exact Ev.bind b .done
def brB(br:List Int)(m:Nat):Bool:=(br.all fun x=>inI x 0 ((m:Int)-1))&&incB br
theorem qtY{v:Tview}{br:List Int}(z:v.links.length<=10000)(h:brB br v.links.length=true):Ev (fun n=>qhe n (V v) br) (V ⟨V v,lvB br v.links.length⟩):=by
 unfold brB at h;rw[je,qjc,qai] at h;have u:mkS (v.links.length:Int) false=V (pre (fun _=>false) v.links.length):=qlJ (by omega);generalize hM:v.links.length=M at z h u⊢;have m:∀j i,i<j->j<br.length->gt br i<gt br j:=by
  intro j
  induction j with
  |zero=>intro i hi _;omega
  |succ j ih=>
   intro i hi b;have c:=h.2;unfold incB at c;rw[qai] at c;have c:=c (j+1) b;unfold stepB at c;simp only[Jg,decide_eq_true_eq,Nat.add_sub_cancel] at c;have s:gt br j<gt br (j+1):=by
    rcases c with c|c
    ·omega
    ·exact c
   by_cases r:i=j
   ·rw[r];exact s
   ·have:=ih i (by omega) (by omega);omega
 have o:∀j,j<br.length->(j:Int)<=gt br j:=by
  intro j
  induction j with
  |zero=>
   intro b;have:=h.1 0 b;rw[qaK] at this;omega
  |succ j ih=>
   intro b;have:=ih (by omega);have:=m (j+1) j (by omega) b;omega
 have B:br.length<=M:=by
  by_cases C:br.length=0
  ·omega
  ·have D:=o (br.length-1) (by omega);have A:=h.1 (br.length-1) (by omega);rw[qaK] at A;omega
 have e1:Ev (fun n=>qcd (pre (fun _=>false) M) n (pre (fun _=>false) M) 0) (pre (fun _=>true) M,(M:Int)):=by
  have:=loopF (Lf:=qcd (pre (fun _=>false) M)) (S:=fun j=>pre (fun k=>decide (k<j)) M) (len:=M) (fin:=(pre (fun _=>true) M,(M:Int))) (fun n=>by
    simp only[qcd,qlf,qq (jf _),cond_false];rw[qhT (g:=fun _=>true) fun k d=>decide_eq_true d])
   (fun j b X l=>by
    simp only[qcd,qlf,qp b,cond_true,qjg (f:=fun k=>decide (k<j)) b,jd,qos,wS j];have:pre (fun k=>decide (k<j+1)) M=pre (fun k=>if k=j then true else decide (k<j)) M:=qhT fun k _=>by
     by_cases d:k=j
     ·rw[if_pos d,d];simp
     ·rw[if_neg d,decide_eq_decide];omega
    rw[this] at l;exact l)
  simpa using this
 have e2:Ev (fun n=>qb7 br n (pre (fun _=>true) M) 0) (lvB br M,(br.length:Int)):=by
  have:=loopF (Lf:=qb7 br) (S:=fun j=>pre (fun k=>!(br.take j).any fun y=>y==(k:Int)) M) (len:=br.length) (fin:=(lvB br M,(br.length:Int))) (fun n=>by
    simp only[qb7,qq (jf _),cond_false,jG];rfl)
   (fun j b X l=>by
    have x:=h.1 j b;rw[qaK] at x;obtain⟨a,t⟩:∃a:Nat,gt br j=(a:Int):=⟨_,qdu x.1⟩;have p:a<M:=by omega
    simp only[qb7,qp b,cond_true,qw b,t,qjg (f:=fun k=>!(br.take j).any fun y=>y==(k:Int)) p,jd,qos,wS j];have:pre (fun k=>!(br.take (j+1)).any fun y=>y==(k:Int)) M=pre (fun k=>if k=a then false else !(br.take j).any fun y=>y==(k:Int)) M:=qhT fun k _=>by
     rw[jC b,List.any_append,<-qeQ b,t];by_cases d:k=a
     ·rw[if_pos d,d];simp
     ·rw[if_neg d];have:((a:Int)==(k:Int))=false:=by simp;omega
      simp[this]
    rw[this] at l;exact l)
  simpa using this
 unfold qhe;simp only[jd,hM,u];exact Ev.bind e1 (Ev.bind e2 .done)
theorem qpd{br:List Int}{m:Nat}(h:br.length<=1048576)(i:m<=10000):Ev (fun n=>qe8 n br (m:Int)) (brB br m):=by
 have g:Ev (fun n=>qct br (m:Int) n 0) (bif allN (fun j=>inI (gt br j) 0 ((m:Int)-1)&&stepB br j) br.length then .nxt (br.length:Int) else .ret false):=by
  refine qer (Lf:=qct br (m:Int)) (len:=br.length) (Ev.succ (by simp only[qct,qq (jf _),cond_false];exact .done)) (fun j d X c=>Ev.succ ?_);simp only[qct,qp d,cond_true,qw d,jd,qc1,wS j,wO ((m:Int)-1)];cases h1:inI (gt br j) 0 ((m:Int)-1)
  ·exact .done
  ·refine Ev.ff Z ?_;by_cases b:j=0
   ·subst b;exact Ev.ff Z c
   ·refine Ev.tt (decide_eq_true (by omega)) ?_;rw[show(j:Int)-1=((j-1:Nat):Int) by omega,qQ (by omega) (by omega),qw (show j-1<br.length by omega)];simp only[jd];have f:stepB br j=decide (gt br (j-1)<gt br j):=by
     unfold stepB;rw[decide_eq_false b,Ji]
     rfl
    rw[f];by_cases a:gt br (j-1)<gt br j
    ·rw[decide_eq_true a];exact Ev.ff (decide_eq_false (by omega)) c
    ·rw[decide_eq_false a];exact Ev.tt (decide_eq_true (by omega)) .done
 unfold qe8;refine Ev.bind g ?_;unfold brB incB;rw[qjc,<-qlF];cases allN (fun j=>inI (gt br j) 0 ((m:Int)-1)&&stepB br j) br.length<;>exact .done
theorem qs7{v:Tview}{br:List Int}(a:br.length<=1048576)(b:v.links.length<=10000):Ev (fun n=>qff n (V v) br) (brB br v.links.length):=by
 unfold qff qg7 brB;simp only[jd,wO ((v.links.length:Int)-1)];exact Ev.and (qeD a) fun _=>Ev.last (qjZ a)
theorem qty{b:qd}{br:List Int}(a:qfO b)(h:blockB b=true)(c:br.length<=1048576):Ev (fun n=>qh2 n b br) (bif brB br (linksL b).length then 0 else 2):=by
 unfold qh2;refine Ev.bind (qeO a) (Ev.ff (by rw[h];rfl) (Ev.bind (qjT h) (Ev.bind (qpd c (qkR h)) ?_)));cases brB br (linksL b).length<;>exact .done

theorem qnf{α:Type}{f:Nat->List α}{n:Nat}{x:α}(h:x∈fm f n):∃j,j<n/\x∈f j:=by
 unfold fm at h;obtain⟨j,a,b⟩:=List.mem_flatMap.1 h;exact⟨j,List.mem_range.1 a,b⟩
theorem quf{x:Int}{j:Nat}{t:Int}(b:b01 t)(d:j<=100000)(e:x=2*(j:Int)+t):W64 (x.tdiv 2)=(j:Int)/\x.tmod 2=t:=by
 have c:0<=t/\t<=1:=by rcases b with e|e<;>omega
 have a:0<=x:=by omega
 rw[jD a,Int.tmod_eq_emod_of_nonneg a,qQ (by omega) (by omega)];omega
structure CLk(b:qd)(x:qv)(i j m net a:Nat):Prop where
 kind:x.Au=1
 il:i<b.Aa.Ab.length
 jl:j<(places b.Aa).length
 inst:(gt (places b.Aa) j).instance_=(i:Int)
 net_:(gt (places b.Aa) j).net=(net:Int)
 nl:net<b.Ac.length
 half:W64 (x.To.tdiv 2)=(j:Int)
 mod:x.To.tmod 2=(m:Int)
 ml:m<2
 ix:x.Bu=(a:Int)
 al:a<(cellAt b (i:Int)).Aq.length
 d2:(gt (cellAt b (i:Int)).Aq a).Bo.length=2
 s2:(gt (cellAt b (i:Int)).Aq a).Av.length=2
 dt:∀t,t∈(gt (cellAt b (i:Int)).Aq a).Bo->TbOk t/\∀k,0<=at0 t.Ba k
 st:∀t,t∈(gt (cellAt b (i:Int)).Aq a).Av->TbOk t/\∀k,0<=at0 t.Ba k
 k3:(gt (cellAt b (i:Int)).Aq a).Au<=3
structure WLk(b:qd)(x:qv)(j net k:Nat):Prop where
 kind:x.Au=2
 jl:j<(places b.Aa).length
 net_:(gt (places b.Aa) j).net=(net:Int)
 nl:net<b.Ac.length
 half:W64 (x.To.tdiv 2)=(j:Int)
 ix:x.Bu=(k:Int)
 kl:k<(gt b.Ac net).Bb.length
theorem qx1{xs:List Int}(h:0<=mnL xs)(k:Nat):0<=at0 xs k:=by
 have b:∀(ys:List Int) (a:Int),(ys.foldl (fun(m y:Int)=>if y<m then y else m) a<=a)/\∀y,y∈ys->ys.foldl (fun(m y:Int)=>if y<m then y else m) a<=y:=by
  intro ys
  induction ys with
  |nil=>intro a;exact⟨jQ _,fun y g=>by cases g⟩
  |cons z ys ih=>
   intro a;rw[List.foldl_cons];obtain⟨i,l⟩:=ih (if z<a then z else a);refine⟨?_,fun y g=>?_⟩
   ·split at i<;>split<;>omega
   ·rcases List.mem_cons.1 g with e|e
    ·subst e;split at i<;>split<;>omega
    ·exact l y e
 by_cases d:k<xs.length
 ·have f:xs[k]∈xs.drop 1\/k=0:=by
   by_cases c:k=0
   ·exact .inr c
   ·refine .inl ?_;have:xs[k]=(xs.drop 1)[k-1]'(by rw[List.length_drop];omega):=by
     rw[List.getElem_drop]
     congr 1;omega
    rw[this];exact jo _
  rw[qhF d];unfold mnL at h;rcases f with f|c
  ·exact Int.le_trans h ((b _ _).2 _ f)
  ·subst c;have:=(b (xs.drop 1) (at0 xs 0)).1;rw[<-qhF d];exact Int.le_trans h this
 ·rw[qut d];exact jQ _
theorem qqL{a:List qS}(h:tablesB a true=true):a.length=2/\∀t,t∈a->TbOk t/\∀k,0<=at0 t.Ba k:=by
 unfold tablesB at h;rw[je,decide_eq_true_eq,jF] at h;refine⟨h.1,fun t b=>?_⟩;have:=h.2 t b;unfold tabB at this;simp only[Jj,Ji,je,decide_eq_true_eq] at this;exact⟨quX this.1,qx1 this.2⟩
theorem qtv{ps:List qaA}{a:qay}(h:arcS ps a=true)(c:a.Au<=3)(b:1<=a.Au):a.To=(ps.length:Int)-1/\tablesB a.Bo true=true/\tablesB a.Av true=true:=by
 unfold arcS at h;rcases (by omega:a.Au=1\/a.Au=2\/a.Au=3) with e|e|e
 ·rw[e] at h;simp only[beq_self_eq_true,cond_true,je,beq_iff_eq] at h;exact⟨h.2.2.1,h.2.2.2.2⟩
 ·rw[e] at h;simp only[show((2:Int)==1)=false from rfl,cond_false,beq_self_eq_true,Bool.true_or,cond_true,je,beq_iff_eq] at h;exact⟨h.2.2.1,h.2.2.2.2⟩
 ·rw[e] at h;simp only[show((3:Int)==1)=false from rfl,cond_false,beq_self_eq_true,Bool.or_true,cond_true,je,beq_iff_eq] at h;exact⟨h.2.2.1,h.2.2.2.2⟩
theorem qsL{a:qay}{t:qW}(h:t∈transL a):1<=a.Au/\a.Au<=3:=by
 refine⟨?_,?_⟩<;>refine Int.le_of_not_gt fun b=>?_
 ·have:arcLs 0 0 a=[]:=by
   unfold arcLs transL;rw[show(a.Au==2)=false from beq_eq_false_iff_ne.2 (by omega),show(a.Au==3)=false from beq_eq_false_iff_ne.2 (by omega),show(a.Au != 1)=true from bne_iff_ne.2 (by omega)]
   rfl
  unfold arcLs at this;rw[List.map_eq_nil_iff] at this;rw[this] at h;cases h
 ·have:arcLs 0 0 a=[]:=qpH b;unfold arcLs at this;rw[List.map_eq_nil_iff] at this;rw[this] at h;cases h
theorem qfb{b:qd}(h:blockB b=true){x:qv}(c:x∈linksL b):((∃i j m net a,CLk b x i j m net a)\/∃j net k,WLk b x j net k)/\(0<=x.Be/\x.Be<2*((places b.Aa).length:Int))/\(0<=x.To/\x.To<2*((places b.Aa).length:Int)):=by
 have l:=qan h;have O:=qY l;have hl:=qaV O;have R:=qfh h;unfold linksL at c;rcases List.mem_append.1 c with c|c
 ·obtain⟨i,hi,c⟩:=qnf c;obtain⟨a,A,c⟩:=qnf c;unfold arcLs at c;obtain⟨t,g,rfl⟩:=List.mem_map.1 c;obtain⟨⟨c0,c1⟩,s,f⟩:=qhN l hi;have p:cellAt b (i:Int)=gt b.Am.Ap (gt b.Aa.Ab i).Bq.toNat:=rfl;rw[<-p] at s f;obtain⟨⟨k1,k5⟩,hf,P,K⟩:=qnr f A;obtain⟨J,z⟩:=qsL g;obtain⟨W,o⟩:=qrO g;obtain⟨D,X,Y⟩:=qtv K z J;obtain⟨d2,dt⟩:=qqL X;obtain⟨s2,st⟩:=qqL Y;have N:=(qhJ (qjx f)).1;have n:(cellAt b (i:Int)).Ay.length-1<(gt b.Aa.Ab i).Ah.length:=by omega
  obtain⟨B,F⟩:=qkA hi n;obtain⟨T,n1⟩:=ql7 l B;have e1:(al1 (off b.Aa i:Int) a (gt (cellAt b (i:Int)).Aq a) t).To=2*((off b.Aa i+((cellAt b (i:Int)).Ay.length-1):Nat):Int)+t.e1:=by
   show 2*((off b.Aa i:Int)+(gt (cellAt b (i:Int)).Aq a).To)+t.e1=_;rw[D];omega
  obtain⟨r,C⟩:=quf o (by omega) e1;obtain⟨m,H⟩:∃m:Nat,t.e1=(m:Int):=⟨t.e1.toNat,by rcases o with e|e<;>omega⟩;have M:off b.Aa i+(gt (cellAt b (i:Int)).Aq a).Be.toNat<(places b.Aa).length:=(qkA hi (k:=(gt (cellAt b (i:Int)).Aq a).Be.toNat) (by omega)).1;have e2:(al1 (off b.Aa i:Int) a (gt (cellAt b (i:Int)).Aq a) t).Be=2*((off b.Aa i:Int)+(gt (cellAt b (i:Int)).Aq a).Be)+t.e0:=rfl;refine⟨.inl ⟨i,_,m,(gt (places b.Aa) (off b.Aa i+((cellAt b (i:Int)).Ay.length-1))).net.toNat,a,⟨rfl,hi,B,by rw[F];rfl,qdu T,by omega,r,by rw[C,H],by rcases o with e|e<;>omega,rfl,A,d2,s2,dt,st,z⟩⟩,?_,?_⟩
  ·rw[e2];rcases W with e|e<;>rw[e]<;>omega
  ·rw[e1];rcases o with e|e<;>rw[e]<;>omega
 ·obtain⟨i,hi,c⟩:=qnf c;obtain⟨k,n,c⟩:=qnf c;obtain⟨y,S,I,u⟩:=qn1 n;have L:=(qim l (k:=i) (by omega)).1;have Q:=qbK h hi;have v:(gt (places b.Aa) y).net=(i:Int):=by
   unfold snkQ at u;simp only[je,beq_iff_eq] at u;exact u.1
  have d:∀t:Int,b01 t->x=⟨2*(dvN b.Aa i:Int)+t,2*at0 (skL b i) k+t,2,(k:Int)⟩->((∃i j m net a,CLk b x i j m net a)\/∃j net k,WLk b x j net k)/\(0<=x.Be/\x.Be<2*((places b.Aa).length:Int))/\(0<=x.To/\x.To<2*((places b.Aa).length:Int)):=by
   intro t g e;have e1:x.To=2*(y:Int)+t:=by rw[e,I]
   have e2:x.Be=2*(dvN b.Aa i:Int)+t:=by rw[e]
   obtain⟨r,C⟩:=quf g (by omega) e1;refine⟨.inr ⟨y,i,k,⟨by rw[e],S,v,hi,r,by rw[e],by rw[Q.snk];exact n⟩⟩,?_,?_⟩
   ·rw[e2];rcases g with e|e<;>rw[e]<;>omega
   ·rw[e1];rcases g with e|e<;>rw[e]<;>omega
  unfold wl1 at c;simp only[jK,jz,or_false] at c;rcases c with c|c
  ·exact d 0 (.inl Z) (by rw[c,Jd,Jd])
  ·exact d 1 (.inr Z) c
theorem qib{α:Type}[Inhabited α]{xs:List α}{k:Nat}(h:k<xs.length):gt xs k∈xs:=by rw[qeQ h];exact jo h
theorem qkr{b:qd}(h:blockB b=true):LkOk (linksL b) (2*(places b.Aa).length) where
 len:=qkR h
 nodes:=by have:=qaV (qY (qan h));omega
 fr0:=fun x a=>(qfb h (qib a)).2.1.1
 fr1:=fun x a=>by have:=(qfb h (qib a)).2.1.2;omega
 to0:=fun x a=>(qfb h (qib a)).2.2.1
 to1:=fun x a=>by have:=(qfb h (qib a)).2.2.2;omega
theorem qrl{c:qx}(h:cornerB c=true){kind mode:Int}:∃f:Int,100<=f/\f<=5000/\(∀n,qd2 n c kind mode=V f)/\∀n,qe6 n c kind mode=V f:=by
 unfold cornerB at h;simp only[je,qaK,decide_eq_true_eq] at h;obtain⟨⟨a,b,d,g⟩,_⟩:=h;unfold qd2 qe6;cases kind==1
 ·cases mode==0
  ·exact⟨_,g.1,g.2,fun _=>rfl,fun _=>rfl⟩
  ·exact⟨_,d.1,d.2,fun _=>rfl,fun _=>rfl⟩
 ·cases mode==0
  ·exact⟨_,b.1,b.2,fun _=>rfl,fun _=>rfl⟩
  ·exact⟨_,a.1,a.2,fun _=>rfl,fun _=>rfl⟩
theorem qlI{p f mode:Int}(g:0<=p)(p1:p<=400000000000)(c:0<=f)(f1:f<=5000):(∀n,qcP n (W64 (p*f)) 1000 mode=V (divI (p*f) 1000 mode))/\∀n,qkF n p f mode=V (divI (p*f) 1000 mode):=by
 have h:=jV g c;have i:p*f<=400000000000*5000:=jX p1 f1 c (by omega);have e:W64 (p*f)=p*f:=qQ (by omega) (by omega);have d:=fun n=>qkH (n:=n) (a:=p*f) (b:=1000) (mode:=mode) (by omega) (by omega) (by omega);refine⟨fun n=>by rw[e];exact d n,fun n=>?_⟩;unfold qkF;rw[e,qr5 (m:=0),d 0]
 rfl
theorem qvS{l h H:Int}(c:0<=l)(d:l<h)(f:h<=H)(g:H<=3000000000):W64 (W64 (W64 (l+h)+1) |>.tdiv 2)=(l+h+1) / 2/\W64 ((l+h+1) / 2*((l+h+1) / 2))=(l+h+1) / 2*((l+h+1) / 2)/\W64 ((l+h+1) / 2-1)=(l+h+1) / 2-1:=by
 have a:0<=(l+h+1) / 2/\(l+h+1) / 2<=3000000000:=by omega
 have i:(l+h+1) / 2*((l+h+1) / 2)<=3000000000*3000000000:=jX a.2 a.2 a.1 (by omega);have b:=jV a.1 a.1;rw[wO (l+h),wO (l+h+1),jD (by omega),wO ((l+h+1) / 2),wO ((l+h+1) / 2-1)];exact⟨rfl,qQ (by omega) (by omega),rfl⟩
theorem qwe{y mode:Int}(i:0<=y)(p:y<=4000000000000000000):∃v,IsRoot y v/\v<=2000000000/\Ev (fun n=>qi3 n y mode) (if mode=1/\v*v<y then v+1 else v):=by
 obtain⟨v,r1,f,o⟩:=qrD (Lf:=fun n l h=>qeo y n l h) (fin:=fun l=>(l,l)) (x:=y) (H:=2000000000) i (by omega) (by omega)
  (fun n l _ _=>by simp only[qeo,show decide (l<l)=false from decide_eq_false (Int.lt_irrefl l),cond_false])
  (fun n l h a b k=>by
   obtain⟨e1,e2,g⟩:=qvS a b k (by omega);simp only[qeo,decide_eq_true b,cond_true,e1,e2,g])
 refine⟨v,r1,f,?_⟩;unfold qi3;refine Ev.bind o ?_;have d:=r1.pos;have r:v*v<=2000000000*2000000000:=jX f f d (by omega);have m:=jV d d;simp only[wO (v*v),wO (v+1)];by_cases c:mode=1
 ·refine Ev.tt (by simpa using c) ?_;by_cases a:v*v<y
  ·rw[if_pos ⟨c,a⟩];exact Ev.tt (decide_eq_true a) .done
  ·rw[if_neg fun h=>a h.2];exact Ev.ff (decide_eq_false a) .done
 ·rw[if_neg fun h=>c h.1];exact Ev.ff (by simpa using c) .done
theorem qvq{y:Int}(c:0<=y)(k:y<=4000000000000000000):∃v,IsRoot y v/\v<=3000000000/\Ev (fun n=>qnz n y) v:=by
 obtain⟨v,r1,g,i⟩:=qrD (Lf:=fun n l h=>qgV y n l h) (fin:=fun l=>(l,l)) (x:=y) (H:=3000000000) c (by omega) (by omega)
  (fun n l _ _=>by simp only[qgV,show decide (l<l)=false from decide_eq_false (Int.lt_irrefl l),cond_false])
  (fun n l h f a d=>by
   obtain⟨e1,e2,b⟩:=qvS f a d (by omega);simp only[qgV,decide_eq_true a,cond_true,e1,e2,b])
 refine⟨v,r1,g,?_⟩;unfold qnz;exact Ev.bind i .done
theorem quz{sl d mode:Int}(s0:0<=sl)(s1:sl<=1000000)(g:0<=d)(l:d<=344000000)(o:mode=0\/mode=1):∃r:Int,0<=r/\(∃v,IsRoot (4*(250000*(sl*sl)+d*d)) v/\v<=2000000000/\r=divI (if mode=1/\v*v<4*(250000*(sl*sl)+d*d) then v+1 else v) 1000 mode) /\
  Ev (fun n=>(qi3 n (W64 (W64 (W64 (1000000*sl)*sl)+W64 (W64 (4*d)*d))) mode).bind fun x=>(qcP n x 1000 mode).bind fun z=>V z) r/\Ev (fun n=>qjH n sl d mode) r:=by
 have H:=jV s0 s0;have I:sl*sl<=1000000*1000000:=jX s1 s1 s0 (by omega);have J:=jV g g;have K:d*d<=344000000*344000000:=jX l l g (by omega);have e1:W64 (W64 (W64 (1000000*sl)*sl)+W64 (W64 (4*d)*d))=4*(250000*(sl*sl)+d*d):=by
  rw[wO (1000000*sl),wO (4*d),Je 1000000,Je 4,wO (1000000*(sl*sl)),wO (4*(d*d)),qQ (by omega) (by omega)];omega
 have e2:W64 (W64 (W64 (W64 (500*sl)*500)*sl)+W64 (d*d))=250000*(sl*sl)+d*d:=by
  rw[wO (500*sl),wO (500*sl*500),show 500*sl*500*sl=250000*(sl*sl) by rw[<-Je];congr 1;omega,wO (250000*(sl*sl)),wO (d*d),qQ (by omega) (by omega)]
 obtain⟨v,k,A,B⟩:=qwe (mode:=mode) (y:=4*(250000*(sl*sl)+d*d)) (by omega) (by omega);obtain⟨w,w1,p,C⟩:=qvq (y:=250000*(sl*sl)+d*d) (by omega) (by omega);have u:=qto w1 k o;have F:=k.pos;have f:=w1.pos;have a:0<=(if mode=1/\v*v<4*(250000*(sl*sl)+d*d) then v+1 else v)/\(if mode=1/\v*v<4*(250000*(sl*sl)+d*d) then v+1 else v)<=1000*3000000:=by split<;>omega
 refine⟨_,(qk3 (b:=1000) (mode:=mode) (M:=3000000) (by omega) a.1 a.2).1,⟨v,k,A,rfl⟩,?_,?_⟩
 ·rw[e1];exact Ev.bind B (Ev.bind ⟨0,fun n _=>qkH (by omega) (by omega) (by omega)⟩ .done)
 ·rw[u];unfold qjH;rw[e2];refine Ev.bind C ?_;have D:w*w<=3000000000*3000000000:=jX p p f (by omega);have t:=jV f f;have s:(fun n=>qfN n w 500 mode)=fun _=>V (divI w 500 mode):=by
   funext n
   rw[qr5 (m:=0),qkH (by omega) (by omega) (by omega)]
  have i:=congrFun s;simp only[wO (w*w),jD f,wO (w / 500),wO (w / 500+1),i,jd];rcases o with rfl|rfl
  ·rw[if_neg (by omega)];exact .done
  ·by_cases c:w*w<250000*(sl*sl)+d*d
   ·rw[if_pos ⟨rfl,c⟩,decide_eq_true c];exact .done
   ·rw[if_neg fun h=>c h.2,decide_eq_false c];exact .done
theorem qsR{t:qS}(h:TbOk t/\∀k,0<=at0 t.Ba k)(sl ld mode:Int):∃r:Int,0<=r/\r<=1000000/\Ev (fun n=>qgB n t sl ld mode) r/\Ev (fun n=>qda n t sl ld mode) r:=by
 obtain⟨S,D,D0,S1,_,_,_,S0,a⟩:=qus h.1 sl ld;obtain⟨b,r1⟩:=qk3 (mode:=mode) D0 (S0 h.2) S1;exact⟨_,b,r1,a mode⟩
theorem qtx{b:qd}{ex:List Int}{x:qv}{j net:Nat}(jl:j<(places b.Aa).length)(c:(gt (places b.Aa) j).net=(net:Int))(a:W64 (x.To.tdiv 2)=(j:Int))(n:Nat):qfy n (V (viewE b ex)) x=V (net:Int):=by
 unfold qfy;show(idx (places b.Aa) (W64 (x.To.tdiv 2))).bind _=_;rw[a,qw jl];exact congrArg V c
theorem qvu{b:qd}{ex:List Int}(h:blockB b=true){x:qv}{i j m net a:Nat}(c:CLk b x i j m net a)(n:Nat):qg2 n (V (viewE b ex)) x=V (gt (cellAt b (i:Int)).Aq a):=by
 obtain⟨⟨d,c1⟩,_,_⟩:=qhN (qan h) c.il;unfold qg2;show(idx (places b.Aa) (W64 (x.To.tdiv 2))).bind (fun f=>(idx b.Aa.Ab f.instance_).bind fun g=>(idx b.Am.Ap g.Bq).bind fun k=>(idx k.Aq x.Bu).bind fun l=>V l)=_;rw[c.half,qw c.jl,jd,c.inst,qw c.il,jd,qf1 d c1,jd,c.ix];show(idx (cellAt b (i:Int)).Aq (a:Int)).bind _=_;rw[qw c.al];rfl
theorem qnx{b:qd}(h:blockB b=true){x:qv}{i j m net a:Nat}(c:CLk b x i j m net a):Ev (fun n=>qjV n b x) (gt (cellAt b (i:Int)).Aq a,load0 b net):=by
 have d:=qan h;have s:=qY d;obtain⟨⟨f,c1⟩,_,_⟩:=qhN d c.il;have r:idx ((places b.Aa).map toSp) (j:Int)=V (toSp (gt (places b.Aa) j)):=by
  refine qgM ?_;rw[List.getElem?_map,jn c.jl,qeQ c.jl];rfl
 have o:=qmw h c.nl;have p:=(qbK h c.nl).lo;have g:(toSp (gt (places b.Aa) j)).instance_=(i:Int):=c.inst;have k:(toSp (gt (places b.Aa) j)).net=(net:Int):=c.net_;have l:idx (gt b.Am.Ap (gt b.Aa.Ab i).Bq.toNat).Aq (a:Int)=V (gt (cellAt b (i:Int)).Aq a):=qw c.al;unfold qjV;refine Ev.bind (qhH s) ?_;simp only[c.half,r,jd,g,k,qw c.il,qf1 f c1,c.ix,l];refine Ev.bind (qpB h c.nl) ?_;rw[show idx (loadsL b net) (0:Int)=V (load0 b net) from qw (j:=0) (by omega)];exact .done
theorem qlG{b:qd}(h:blockB b=true){x:qv}{j net k:Nat}(a:WLk b x j net k):Ev (fun n=>qhI n b x) (net:Int):=by
 have f:=qY (qan h);have d:idx ((places b.Aa).map toSp) (j:Int)=V (toSp (gt (places b.Aa) j)):=by
  refine qgM ?_;rw[List.getElem?_map,jn a.jl,qeQ a.jl];rfl
 have c:(toSp (gt (places b.Aa) j)).net=(net:Int):=a.net_;unfold qhI;refine Ev.bind (qhH f) ?_;simp only[a.half,d,jd,c];exact .done
theorem qsb{b:qd}{c:qx}(ex:List Int)(h:blockB b=true)(K:cornerB c=true){k:Nat}(L:k<(linksL b).length){sl mode:Int}(s0:0<=sl)(s1:sl<=1000000)(W:mode=0\/mode=1) :
  (∃D:Int,Ev (fun n=>qbn n b c (gt (linksL b) k) sl mode) D/\Ev (fun n=>qcD n (V (viewE b ex)) c (k:Int) sl mode) D) /\
  ∃S:Int,0<=S/\S<=1000000/\Ev (fun n=>qeE n b (gt (linksL b) k) sl mode) S/\Ev (fun n=>qbA n (V (viewE b ex)) (k:Int) sl mode) S:=by
 have t:idx (viewE b ex).links (k:Int)=V (gt (linksL b) k):=qw L;obtain⟨d,_⟩:=qfb h (qib L);generalize gt (linksL b) k=x at d t;rcases d with⟨i,j,m,net,a,d⟩|⟨j,net,q,d⟩
 ·have l:=qtx (ex:=ex) d.jl d.net_ d.half;have o:=qvu (ex:=ex) h d;have s:idx (viewE b ex).loads (net:Int)=V (load0 b net):=qjg (f:=load0 b) d.nl;obtain⟨f,R,f1,F,C⟩:=qrl K (kind:=x.Au) (mode:=mode);have z:m<(gt (cellAt b (i:Int)).Aq a).Bo.length:=by rw[d.d2];exact d.ml
  have H:m<(gt (cellAt b (i:Int)).Aq a).Av.length:=by rw[d.s2];exact d.ml
  obtain⟨r,e,r1,rs,ri⟩:=qsR (d.dt _ (qib z)) sl (load0 b net) mode;obtain⟨u,N,u1,J,I⟩:=qsR (d.st _ (qib H)) sl (load0 b net) mode;obtain⟨c1,y⟩:=qlI (mode:=mode) e (by omega) (show 0<=f by omega) f1;have g:(x.Au==1)=true:=by rw[d.kind];rfl
  refine⟨⟨divI (r*f) 1000 mode,?_,?_⟩,⟨u,N,u1,?_,?_⟩⟩
  ·unfold qbn;refine Ev.tt g (Ev.bind (qnx h d) ?_);simp only[d.mod,qw z,jd,F];exact Ev.bind rs (Ev.bind ⟨0,fun n _=>c1 n⟩ .done)
  ·unfold qcD;simp only[jd,t,l,s,o,d.mod,qw z,C];exact Ev.tt g (Ev.bind ri (Ev.bind ⟨0,fun n _=>y n⟩ .done))
  ·unfold qeE;refine Ev.tt g (Ev.bind (qnx h d) ?_);simp only[d.mod,qw H,jd];exact Ev.bind J .done
  ·unfold qbA;simp only[jd,t,l,s,o,d.mod,qw H];refine Ev.tt g (Ev.bind I (Ev.now ?_));rw[if_neg (by omega)]
 ·have l:=qtx (ex:=ex) d.jl d.net_ d.half;have p:idx (viewE b ex).delays (net:Int)=V (exactL b net):=qjg (f:=exactL b) d.nl;have A:(exactL b net).length=(gt b.Ac net).Bb.length:=by unfold exactL;rw[jt]
  have v:q<(exactL b net).length:=by rw[A];exact d.kl
  obtain⟨O,x1⟩:=qoa h d.nl d.kl;obtain⟨f,R,f1,F,C⟩:=qrl K (kind:=x.Au) (mode:=mode);have P:=fun n=>qkH (n:=n) (a:=gt (exactL b net) q) (b:=1000) (mode:=mode) (by omega) (by omega) (by omega);obtain⟨Y,p1⟩:=qk3 (a:=gt (exactL b net) q) (b:=1000) (mode:=mode) (M:=344000) (by omega) O (by omega);obtain⟨c1,y⟩:=qlI (mode:=mode) Y (by omega) (show 0<=f by omega) f1;have g:(x.Au==1)=false:=by rw[d.kind];rfl
  have hi:idx ((exactL b net).map fun x=>divI x 1000 mode) (q:Int)=V (divI (gt (exactL b net) q) 1000 mode):=by
   rw[qw (by rw[jt];exact v),qn3 v]
  obtain⟨u,N,_,J,I⟩:=quz s0 s1 O x1 W;refine⟨⟨divI (divI (gt (exactL b net) q) 1000 mode*f) 1000 mode,?_,?_⟩,⟨if u<1000000 then u else 1000000,by split<;>omega,by split<;>omega,?_,?_⟩⟩
  ·unfold qbn;refine Ev.ff g (Ev.bind (qlG h d) (Ev.bind (qjw h d.nl) ?_));simp only[d.ix,hi,jd,F];exact Ev.bind ⟨0,fun n _=>c1 n⟩ .done
  ·unfold qcD;simp only[jd,t,l,p,d.ix,qw v,C];refine Ev.ff g (Ev.bind (b:=divI (gt (exactL b net) q) 1000 mode) ⟨0,fun n _=>(qr5 (m:=0)).trans (P 0)⟩ (Ev.bind ⟨0,fun n _=>y n⟩ .done))
  ·have X:=qbK h d.nl;have B:=X.sin q d.kl;have T:=qnk h d.nl;have Q:gt (exactL b net) q=gt (delaysL b net) (at0 (gt b.Ac net).Bb q).toNat:=by
    unfold exactL;rw[qeQ (by rw[jt];exact d.kl),List.getElem_map,qhF d.kl]
   unfold qeE qmn;refine Ev.ff g (Ev.bind (qlG h d) ?_);simp only[d.ix,qw d.nl,jd,qar d.kl];refine Ev.bind (b:=u) (Ev.bind (qoA h d.nl) ?_) .done;rw[qf1 B.1 (show at0 (gt b.Ac net).Bb q<((delaysL b net).length:Int) by omega)];simp only[jd];rw[<-Q];exact J
  ·unfold qbA;simp only[jd,t,l,p,d.ix,qw v];refine Ev.ff g (Ev.bind I (Ev.now ?_))
   congr 1
   split<;>split<;>omega
theorem qk8{b:qd}{c:qx}(h:blockB b=true)(f:cornerB c=true){k:Nat}(g:k<(linksL b).length){sl mode:Int}(s0:0<=sl)(s1:sl<=1000000)(i:mode=0\/mode=1) :
  (∃D:Int,Ev (fun n=>qbn n b c (gt (linksL b) k) sl mode) D/\∀ex,Ev (fun n=>qcD n (V (viewE b ex)) c (k:Int) sl mode) D) /\
  ∃S:Int,0<=S/\S<=1000000/\Ev (fun n=>qeE n b (gt (linksL b) k) sl mode) S/\∀ex,Ev (fun n=>qbA n (V (viewE b ex)) (k:Int) sl mode) S:=by
 obtain⟨⟨D,l,_⟩,⟨S,a,c',d,_⟩⟩:=qsb [] h f g s0 s1 i;refine⟨⟨D,l,fun ex=>?_⟩,⟨S,a,c',d,fun ex=>?_⟩⟩
 ·obtain⟨⟨D',e1,e2⟩,_⟩:=qsb ex h f g s0 s1 i;rw[l.uniq e1];exact e2
 ·obtain⟨_,⟨S',_,_,e1,e2⟩⟩:=qsb ex h f g s0 s1 i;rw[d.uniq e1];exact e2

def slR(s:qg):Prop:=(0<=s.Ak/\s.Ak<=1000000)/\(0<=s.As/\s.As<=1000000)
def SpansS(b:qd)(c:qx)(f:Nat->qg->qg×qg):Prop:=∀k s,k<(linksL b).length->slR s->slR (f k s).2/\Ev (fun n=>qf2 n b c (gt (linksL b) k) s) (f k s)
def SpansI(b:qd)(c:qx)(ex:List Int)(f:Nat->qg->qg×qg):Prop:=∀k s,k<(linksL b).length->slR s->slR (f k s).2/\Ev (fun n=>qgZ n (V (viewE b ex)) c (k:Int) s) (f k s)
def exK(b:qd)(ex:List Int)(k:Nat):Int:=bif (gt (linksL b) k).Au==2 then gt ex (gt (places b.Aa) ((gt (linksL b) k).To / 2).toNat).net.toNat else 0
def wideS(e:Int)(s:qg):qg:=⟨W64 (s.Ak-e),W64 (s.As+e)⟩
def wideF(b:qd)(ex:List Int)(f:Nat->qg->qg×qg)(k:Nat)(s:qg):qg×qg:=bif decide (0<ex.length)&&((gt (linksL b) k).Au==2) then(wideS (exK b ex k) (f k s).1,(f k s).2) else f k s
theorem qsC{b:qd}{c:qx}(h:blockB b=true)(D:cornerB c=true):∃f,SpansS b c f/\∀ex:List Int,ex.length=0\/ex.length=b.Ac.length->SpansI b c ex (wideF b ex f):=by
 have C:∀x:Nat×qg,∃r:qg×qg,x.1<(linksL b).length->slR x.2->slR r.2/\Ev (fun n=>qf2 n b c (gt (linksL b) x.1) x.2) r/\∀ex:List Int,ex.length=0\/ex.length=b.Ac.length->Ev (fun n=>qgZ n (V (viewE b ex)) c (x.1:Int) x.2) (wideF b ex (fun _ _=>r) x.1 x.2):=by
  rintro⟨k,s⟩;by_cases d:k<(linksL b).length/\slR s
  ·obtain⟨d,⟨e0,e1⟩,⟨l0,l1⟩⟩:=d;obtain⟨⟨l,p1,Y⟩,⟨t,a1,b1,v1,w1⟩⟩:=qk8 h D d e0 e1 (mode:=0) (.inl Z);obtain⟨⟨d2,T,e⟩,⟨u,a2,b2,v2,w2⟩⟩:=qk8 h D d e0 e1 (mode:=1) (.inr Z);obtain⟨⟨o,W,q3⟩,⟨v,a3,b3,v3,w3⟩⟩:=qk8 h D d l0 l1 (mode:=0) (.inl Z);obtain⟨⟨p,X,q4⟩,⟨y,a4,b4,v4,w4⟩⟩:=qk8 h D d l0 l1 (mode:=1) (.inr Z);refine⟨(⟨if o<l then o else l,if p > d2 then p else d2⟩,⟨if v<t then v else t,if y > u then y else u⟩),fun _ _=>⟨⟨?_,?_⟩,?_,fun ex B=>?_⟩⟩
   ·show 0<=(if v<t then v else t)/\(if v<t then v else t)<=1000000;split<;>omega
   ·show 0<=(if y > u then y else u)/\(if y > u then y else u)<=1000000;split<;>omega
   ·unfold qf2;exact Ev.bind p1 (Ev.bind T (Ev.bind v1 (Ev.bind v2 (Ev.bind W (Ev.bind X (Ev.bind v3 (Ev.bind v4 .done)))))))
   ·unfold qgZ;refine Ev.bind (Y ex) (Ev.bind (q3 ex) (Ev.bind (e ex) (Ev.bind (q4 ex) ?_)));have S:idx (viewE b ex).links (k:Int)=V (gt (linksL b) k):=qw d;have g:(viewE b ex).extras=ex:=rfl;simp only[jd,S,g];unfold wideF;have fin:∀r:Int×Int,Ev (fun n=>(qbA n (V (viewE b ex)) (k:Int) s.Ak 0).bind fun J=>(qbA n (V (viewE b ex)) (k:Int) s.As 0).bind fun K=>(qbA n (V (viewE b ex)) (k:Int) s.Ak 1).bind fun L=>(qbA n (V (viewE b ex)) (k:Int) s.As 1).bind fun M=>
      V ((⟨r.1,r.2⟩:qg),(⟨if K<J then K else J,if M > L then M else L⟩:qg))) ((⟨r.1,r.2⟩:qg),(⟨if v<t then v else t,if y > u then y else u⟩:qg)):=fun r=>Ev.bind (w1 ex) (Ev.bind (w3 ex) (Ev.bind (w2 ex) (Ev.bind (w4 ex) .done)))
    rw[show decide ((ex.length:Int) > 0)=decide (0<ex.length) by rw[decide_eq_decide];omega];cases hl:decide (0<ex.length)
    ·exact Ev.bind (b:=false) (Ev.now Z) (Ev.bind (b:=(if o<l then o else l,if p > d2 then p else d2)) (Ev.now Z) (fin _))
    ·cases hkd:(gt (linksL b) k).Au==2
     ·exact Ev.bind (b:=false) (Ev.now Z) (Ev.bind (b:=(if o<l then o else l,if p > d2 then p else d2)) (Ev.now Z) (fin _))
     ·obtain⟨H,_⟩:=qfb h (qib d);rcases H with⟨i,j,m,net,a,g⟩|⟨j,net,q,g⟩
      ·rw[g.kind] at hkd;cases hkd
      ·have Q:=qtx (ex:=ex) g.jl g.net_ g.half;have I:net<ex.length:=by
        have:=of_decide_eq_true hl;have:=g.nl;omega
       have P:=(qfb h (qib d)).2.2;have R:=qaV (qY (qan h));have O:((gt (linksL b) k).To / 2).toNat=j:=by
        have:=g.half;rw[jD P.1,qQ (by omega) (by omega)] at this;omega
       have N:exK b ex k=gt ex net:=by
        unfold exK;rw[hkd,O,g.net_,jp]
        rfl
       refine Ev.bind (b:=true) (Ev.now Z) (Ev.bind (b:=(W64 ((if o<l then o else l)-gt ex net),W64 ((if p > d2 then p else d2)+gt ex net))) ?_ ?_)
       ·simp only[Q,jd,qw I];exact .done
       ·rw[N];exact fin _
  ·exact⟨(s,s),fun z A=>absurd ⟨z,A⟩ d⟩
 obtain⟨f,F⟩:=Classical.axiomOfChoice C;exact⟨fun k s=>f (k,s),fun k s z A=>⟨(F (k,s) z A).1,(F (k,s) z A).2.1⟩,fun ex B k s z A=>⟨by
  have:=(F (k,s) z A).1;unfold wideF;cases decide (0<ex.length)&&((gt (linksL b) k).Au==2)<;>exact this,(F (k,s) z A).2.2 ex B⟩⟩
def zSp:qg:=⟨0,0⟩
def zSrc:qf:=⟨0,zSp,zSp⟩
def hullS(s t:qg):qg:=⟨if t.Ak<s.Ak then t.Ak else s.Ak,if t.As > s.As then t.As else s.As⟩
theorem qrv{s t:qg}:(⟨if s.Ak<t.Ak then s.Ak else t.Ak,if s.As > t.As then s.As else t.As⟩:qg)=hullS s t:=by
 unfold hullS
 congr 1
 ·split<;>split<;>omega
 ·split<;>split<;>omega
def plusS(s t:qg):qg:=⟨W64 (s.Ak+t.Ak),W64 (s.As+t.As)⟩
def joinS(node:Int)(s:Bool×qf)(ar sl:qg):Bool×qf:=bif s.1 then(true,⟨node,hullS s.2.Af ar,hullS s.2.Av sl⟩) else(true,⟨node,ar,sl⟩)
def frN(ls:List qv)(k:Nat):Nat:=(gt ls k).Be.toNat
def stepS(f:Nat->qg->qg×qg)(ls:List qv)(t:qn)(node:Int)(s:Bool×qf)(k:Nat):Bool×qf:=
 bif gt t.Ar (frN ls k) then joinS node s (plusS (gt t.Af (frN ls k)) (f k (gt t.Av (frN ls k))).1) (f k (gt t.Av (frN ls k))).2 else s
def toQ(ls:List qv)(lv:List Bool)(node:Int)(k:Nat):Bool:=lvL lv k&&(toL ls k==node)
def srcO(xs:List qf)(node:Int):Option qf:=xs.find? fun s=>s.Bi==node
def srcV(o:Option qf):Bool×qf:=match o with|some y=>(true,y)|none=>(false,zSrc)
def ndS(f:Nat->qg->qg×qg)(ls:List qv)(lv:List Bool)(t:qn)(node:Int)(s0:Bool×qf):Nat->Bool×qf
 |0=>s0
 |k+1=>bif toQ ls lv node k then stepS f ls t node (ndS f ls lv t node s0 k) k else ndS f ls lv t node s0 k
theorem qvE{f:Nat->qg->qg×qg}{ls:List qv}{lv:List Bool}{t:qn}{node:Int}{s0:Bool×qf}{j:Nat}:(selN (toQ ls lv node) j).foldl (stepS f ls t node) s0=ndS f ls lv t node s0 j:=by
 induction j with
 |zero=>rfl
 |succ j ih=>
  rw[qhM,List.foldl_append,ih];show _=bif toQ ls lv node j then stepS f ls t node (ndS f ls lv t node s0 j) j else ndS f ls lv t node s0 j;cases toQ ls lv node j<;>rfl
structure TmOk(t:qn)(M:Nat):Prop where
 r:t.Ar.length=M
 a:t.Af.length=M
 s:t.Av.length=M
 sl:∀k,k<M->slR (gt t.Av k)
structure SrcOk(xs:List qf):Prop where
 len:xs.length<=1048576
 inc:∀j i,i<j->j<xs.length->(gt xs i).Bi<(gt xs j).Bi
 sl:∀x,x∈xs->slR x.Av
theorem qwB{xs:List qf}{node:Int}(g:xs.length<=1048576):Ev (fun n=>qjG n xs node) ((srcV (srcO xs node)).2,(srcV (srcO xs node)).1):=by
 have c:Ev (fun n=>qaU n xs node) (ixL (fun s=>s.Bi==node) xs):=
  qfc (fin:=(xs.length:Int)) (Lf:=qZ xs node) (xs:=xs) (pf:=fun n x=>qj6 n x node) (fun _ _=>.done)
   (fun n=>by simp only[qZ,qq (jf _),cond_false])
   (fun n j x b=>by
    have a:=(List.getElem?_eq_some_iff.1 b).1;simp only[qZ,qp a,cond_true,qgM b,jd,wS j])
   (fun n=>by unfold qaU;congr 1;funext o;cases o<;>rfl)
 unfold qjG;refine Ev.bind c ?_;unfold ixL srcO;cases hf:xs.findIdx? (fun s=>s.Bi==node) with
 |none=>
  have:xs.find? (fun s=>s.Bi==node)=G:=by
   rw[List.find?_eq_none];intro x b;have:=List.findIdx?_eq_none_iff.1 hf x b;simpa using this
  rw[this];exact Ev.ff Z .done
 |some j=>
  obtain⟨a,f,d⟩:=List.findIdx?_eq_some_iff_getElem.1 hf;have:xs.find? (fun s=>s.Bi==node)=V xs[j]:=by
   rw[List.find?_eq_some_iff_getElem];exact⟨f,j,a,rfl,fun i hi=>by have:=d i hi;simpa using this⟩
  rw[this];refine Ev.tt (show decide ((j:Int)>=0)=true from decide_eq_true (by omega)) ?_;show Ev (fun n=>(idx xs (j:Int)).bind _) _;rw[qa4 a];exact .done
theorem qlS{xs:List qf}{node:Int}{y:qf}(h:srcO xs node=V y):y.Bi=node/\y∈xs:=by
 have a:=List.find?_some h;exact⟨by simpa using a,List.mem_of_find?_eq_some h⟩
theorem qwR{xs:List qf}{node:Int}(h:SrcOk xs) :
  Ev (fun n=>qdo xs node n 0 0 0 0 0 false 0) ((srcV (srcO xs node)).2.Bi,(srcV (srcO xs node)).2.Af.Ak,(srcV (srcO xs node)).2.Af.As,(srcV (srcO xs node)).2.Av.Ak,(srcV (srcO xs node)).2.Av.As,(srcV (srcO xs node)).1,(xs.length:Int)):=by
 have g:=h.len;have:=loopF (τ:=Bool×qf) (Lf:=fun n s j=>qdo xs node n s.2.Bi s.2.Af.Ak s.2.Af.As s.2.Av.Ak s.2.Av.As s.1 j) (S:=fun j=>srcV (srcO (xs.take j) node)) (len:=xs.length)
  (fin:=((srcV (srcO xs node)).2.Bi,(srcV (srcO xs node)).2.Af.Ak,(srcV (srcO xs node)).2.Af.As,(srcV (srcO xs node)).2.Av.Ak,(srcV (srcO xs node)).2.Av.As,(srcV (srcO xs node)).1,(xs.length:Int)))
  (fun n=>by simp only[qdo,qq (jf _),cond_false,jG])
  (fun j a X c=>by
   simp only[qdo,qp a,cond_true,qw a,jd,wS j];have e:srcO (xs.take (j+1)) node=(srcO (xs.take j) node).or (bif (gt xs j).Bi==node then V (gt xs j) else G):=by
    unfold srcO;rw[jC a,List.find?_append,<-qeQ a]
    congr 1
   cases hq:(gt xs j).Bi==node
   ·rw[hq] at e;have e:srcO (xs.take (j+1)) node=srcO (xs.take j) node:=by rw[e];cases srcO (xs.take j) node<;>rfl
    rw[e] at c;exact c
   ·rw[hq] at e;have d:srcO (xs.take j) node=G:=by
     unfold srcO;rw[List.find?_eq_none];intro x f b;obtain⟨i,hi,rfl⟩:=List.mem_iff_getElem.1 f;rw[jN] at hi;rw[List.getElem_take,<-qeQ (by omega)] at b;have:=h.inc j i (by omega) a;simp only[beq_iff_eq] at hq b;omega
    have e:srcO (xs.take (j+1)) node=V (gt xs j):=by rw[e,d];rfl
    rw[e] at c;exact c)
 exact this
theorem qrU{ls:List qv}{M:Nat}(h:LkOk ls M){k:Nat}(a:k<ls.length):(gt ls k).Be=(frN ls k:Int)/\frN ls k<M:=by
 have b:=h.fr0 k a;have c:=h.fr1 k a;unfold frN;omega
section
variable{b:qd}{c:qx}{ex:List Int}{f:Nat->qg->qg×qg}{lv:List Bool}{t:qn}{xs:List qf}{node:Int}
theorem qyp{ls:List qv}{M:Nat}{ps:List Tplace}{lo:List Int}{de:List (List Int)}{ex:List Int}(h:LkOk ls M)(k:lv.length=ls.length):Ev (fun n=>qjB n (grV ls lv ps b lo de ex) node) (ints (selN (toQ ls lv node) ls.length)):=by
 have g:=h.len;have f:Ev (fun n=>qT node ⟨V ⟨b,ps,ls,lo,de,ex⟩,lv⟩ ⟨b,ps,ls,lo,de,ex⟩ n ([]:List Int) 0) (ints (selN (toQ ls lv node) ls.length),(ls.length:Int)):=by
  refine qkv (q:=toQ ls lv node) (Lf:=qT node ⟨V ⟨b,ps,ls,lo,de,ex⟩,lv⟩ ⟨b,ps,ls,lo,de,ex⟩) (len:=ls.length) (by omega) (Ev.succ ?_) (fun j d t i X c a=>?_)
  ·simp only[qT,qq (jf _),cond_false];exact .done
  ·simp only[qT,qp d,cond_true,qw d,qw (show j<lv.length by omega),jd,qj3,i,wS j];unfold toQ lvL toL at c a;cases hq:gt lv j
   ·simp only[cond_false];exact a (by rw[hq];rfl)
   ·simp only[cond_true];cases hw:(gt ls j).To==node
    ·simp only[cond_false];exact a (by rw[hq,hw];rfl)
    ·simp only[cond_true];exact c (by rw[hq,hw];rfl)
 unfold qjB qcW grV;simp only[jd];exact Ev.bind (Ev.bind f .done) .done
def fixS(node:Int)(s:Bool×qf):Bool×qf:=bif s.1 then s else(false,⟨node,zSp,zSp⟩)
theorem qwx(h:blockB b=true)(F:SpansI b c ex f)(I:lv.length=(linksL b).length)(r:TmOk t (2*(places b.Aa).length))(M:xs.length<=1048576) :
  Ev (fun n=>qd4 n (V ⟨V (viewE b ex),lv⟩) c xs t node) (ndS f (linksL b) lv t node (srcV (srcO xs node)) (linksL b).length):=by
 have v:=qkr h;have H:=v.len;have B:=qgy (q:=toQ (linksL b) lv node) (j:=(linksL b).length);have J:∀j,(ndS f (linksL b) lv t node (srcV (srcO xs node)) j).1=true->(ndS f (linksL b) lv t node (srcV (srcO xs node)) j).2.Bi=node:=by
  intro j
  induction j with
  |zero=>
   show(srcV (srcO xs node)).1=true->(srcV (srcO xs node)).2.Bi=node;cases d:srcO xs node with
   |none=>intro e;cases e
   |some y=>exact fun _=>(qlS d).1
  |succ j ih=>
   unfold ndS;cases toQ (linksL b) lv node j
   ·exact ih
   ·simp only[cond_true];unfold stepS;cases gt t.Ar (frN (linksL b) j)
    ·exact ih
    ·simp only[cond_true];unfold joinS;cases (ndS f (linksL b) lv t node (srcV (srcO xs node)) j).1<;>exact fun _=>rfl
 have N:∀j,(ndS f (linksL b) lv t node (srcV (srcO xs node)) j).1=false->(ndS f (linksL b) lv t node (srcV (srcO xs node)) j).2=zSrc:=by
  intro j
  induction j with
  |zero=>
   show(srcV (srcO xs node)).1=false->(srcV (srcO xs node)).2=zSrc;cases srcO xs node with
   |none=>exact fun _=>rfl
   |some y=>intro e;cases e
  |succ j ih=>
   unfold ndS;cases toQ (linksL b) lv node j
   ·exact ih
   ·simp only[cond_true];unfold stepS;cases gt t.Ar (frN (linksL b) j)
    ·exact ih
    ·simp only[cond_true];unfold joinS;cases (ndS f (linksL b) lv t node (srcV (srcO xs node)) j).1<;>(intro e;cases e)
 have C:∀(l:List Nat) (s:Bool×qf),(∀k,k∈l->toQ (linksL b) lv node k=true)->l.foldl (fun s k=>fixS node (stepS f (linksL b) t node s k)) (fixS node s)=fixS node (l.foldl (stepS f (linksL b) t node) s):=by
  intro l
  induction l with
  |nil=>intro s _;rfl
  |cons k l ih=>
   intro s K;have e:fixS node (stepS f (linksL b) t node (fixS node s) k)=fixS node (stepS f (linksL b) t node s k):=by
    unfold stepS;obtain⟨s1,s2⟩:=s;cases gt t.Ar (frN (linksL b) k)<;>cases s1<;>rfl
   rw[List.foldl_cons,List.foldl_cons,e];exact ih _ fun O g=>K O (jq _ g)
 have A:=(qvm (τ:=Bool×qf) (xs:=selN (toQ (linksL b) lv node) (linksL b).length) (Lf:=fun n s j=>qbB (V ⟨V (viewE b ex),lv⟩) c t (ints (selN (toQ (linksL b) lv node) (linksL b).length)) n s.1 s.2.Bi s.2.Af.Ak s.2.Af.As s.2.Av.Ak s.2.Av.As j)
  (step:=fun s k=>fixS node (stepS f (linksL b) t node s k)) (fin:=fun s=>(s.1,s.2.Bi,s.2.Af.Ak,s.2.Af.As,s.2.Av.Ak,s.2.Av.As,((ints (selN (toQ (linksL b) lv node) (linksL b).length)).length:Int))) (fixS node (srcV (srcO xs node))) (fun _ s=>s=fixS node s/\s.2.Bi=node) (by
   constructor
   ·unfold fixS;cases d:(srcV (srcO xs node)).1
    ·rfl
    ·simp only[d,cond_true]
   ·unfold fixS;cases d:srcO xs node with
    |none=>rfl
    |some y=>exact(qlS d).1)
  (fun j s m d=>by
   obtain⟨P,D⟩:=d;have x:(stepS f (linksL b) t node s (selN (toQ (linksL b) lv node) (linksL b).length)[j]).2.Bi=node:=by
    unfold stepS;cases gt t.Ar (frN (linksL b) (selN (toQ (linksL b) lv node) (linksL b).length)[j])
    ·exact D
    ·unfold joinS;cases s.1<;>rfl
   constructor
   ·unfold fixS;cases d:(stepS f (linksL b) t node s (selN (toQ (linksL b) lv node) (linksL b).length)[j]).1
    ·rfl
    ·simp only[d,cond_true]
   ·unfold fixS;cases d:(stepS f (linksL b) t node s (selN (toQ (linksL b) lv node) (linksL b).length)[j]).1
    ·rfl
    ·exact x)
  (fun n s=>by simp only[qbB,qbv,qq (jf _),cond_false])
  (fun j s m d X a=>by
   obtain⟨u,i⟩:=d;have hi:=qoL m;have p:(selN (toQ (linksL b) lv node) (linksL b).length)[j]<(linksL b).length:=(qbM.1 (jo m)).1;generalize (selN (toQ (linksL b) lv node) (linksL b).length)[j]=k at hi p a;obtain⟨e1,e2⟩:=qrU v p;have L:idx (viewE b ex).links (k:Int)=V (gt (linksL b) k):=qw p;simp only[qbB,qbv,qp m,cond_true,hi,L,jd,e1,qw (show frN (linksL b) k<t.Ar.length by rw[r.r];exact e2),qw (show frN (linksL b) k<t.Af.length by rw[r.a];exact e2),qw (show frN (linksL b) k<t.Av.length by rw[r.s];exact e2),wS j];unfold stepS at a;cases h3:gt t.Ar (frN (linksL b) k)
   ·rw[h3] at a;simp only[cond_false] at a;rw[<-u] at a;exact a
   rw[h3] at a;simp only[cond_true] at a⊢;obtain⟨_,s1⟩:=F k _ p (r.sl _ e2);refine Ev.bind s1 ?_;generalize f k (gt t.Av (frN (linksL b) k))=q at a⊢;simp only[qkD,jd];unfold joinS at a;unfold qdI;cases h4:s.1
   ·rw[h4] at a;simp only[Bool.not_false,cond_true,jd];unfold fixS at a;simp only[cond_false,cond_true] at a;rw[i];exact a
   ·rw[h4] at a;simp only[Jj,cond_false,qhr,jd];unfold fixS at a;simp only[cond_true] at a;rw[i];exact a)).1
 rw[C _ _ (fun k g=>(qbM.1 g).2),qvE] at A;unfold qd4;refine Ev.bind (qwB M) ?_;have e0:(bif (srcV (srcO xs node)).1 then(qdI 0 ⟨node,⟨0,0⟩,⟨0,0⟩⟩ false ⟨(srcV (srcO xs node)).2.Af.Ak,(srcV (srcO xs node)).2.Af.As⟩ ⟨(srcV (srcO xs node)).2.Av.Ak,(srcV (srcO xs node)).2.Av.As⟩).bind (fun(x9,x10)=>V (x10,x9.Bi,x9.Af.Ak,x9.Af.As,x9.Av.Ak,x9.Av.As)) else V (false,node,(0:Int),(0:Int),(0:Int),(0:Int))) =
   V ((fixS node (srcV (srcO xs node))).1,(fixS node (srcV (srcO xs node))).2.Bi,(fixS node (srcV (srcO xs node))).2.Af.Ak,(fixS node (srcV (srcO xs node))).2.Af.As,(fixS node (srcV (srcO xs node))).2.Av.Ak,(fixS node (srcV (srcO xs node))).2.Av.As):=by
  cases d:srcO xs node with
  |none=>rfl
  |some y=>
   have:=(qlS d).1;unfold fixS srcV;simp only[cond_true,this]
   rfl
 refine Ev.bindN e0 (Ev.bind (qyp (ps:=places b.Aa) (lo:=pre (load0 b) b.Ac.length) (de:=pre (exactL b) b.Ac.length) (ex:=ex) v I) (Ev.bind A ?_));have z:=N (linksL b).length;generalize ndS f (linksL b) lv t node (srcV (srcO xs node)) (linksL b).length=s at z⊢;unfold fixS;obtain⟨s1,s2⟩:=s;cases s1
 ·have:=z Z;simp only at this;subst this;exact .done
 ·exact .done
end

theorem qk4{b:qd}(h:blockB b=true):Ev (fun n=>qf5 n b) ((2*(places b.Aa).length:Nat):Int):=by
 have a:=qY (qan h);have c:=qaV a;unfold qf5;refine Ev.bind (b:=(places b.Aa).map toSp) (qhH a) (Ev.now ?_);rw[jt,qQ (by omega) (by omega)]
 rfl
theorem qsH{v:Tview}(a:v.places.length<=78)(n:Nat):qdq n (V v)=V ((2*v.places.length:Nat):Int):=by
 unfold qdq qeJ;simp only[jd];rw[qQ (by omega) (by omega)]
 rfl
def stepN(xs:List qf)(j:Nat):Bool:=decide (j=0) || decide ((gt xs (j-1)).Bi<(gt xs j).Bi)
def srcB(xs:List qf)(M:Nat):Bool:=allN (fun j=>inI (gt xs j).Bi 0 ((M:Int)-1)&&(stepN xs j&&(spanB (gt xs j).Af&&slewB (gt xs j).Av))) xs.length
theorem qqv{xs:List qf}{j:Nat}(h:j≠0):stepN xs j=decide ((gt xs (j-1)).Bi<(gt xs j).Bi):=by unfold stepN;rw[decide_eq_false h,Ji]
theorem qq9{b:qd}{xs:List qf}(h:blockB b=true)(m:xs.length<=1048576):Ev (fun n=>qgX n b xs) (srcB xs (2*(places b.Aa).length)):=by
 have k:=qaV (qY (qan h));have e:=qk4 h;obtain⟨M,g⟩:∃M,M=2*(places b.Aa).length:=⟨_,rfl⟩;rw[<-g] at e⊢;have l:M<=156:=by omega
 have i:Ev (fun n=>qb8 xs (M:Int) n 0) (bif srcB xs M then .nxt (xs.length:Int) else .ret false):=by
  refine qer (Lf:=qb8 xs (M:Int)) (len:=xs.length) (Ev.succ (by simp only[qb8,qq (jf _),cond_false];exact .done)) (fun j f X d=>Ev.succ ?_);simp only[qb8,qp f,cond_true,qw f,jd,qc1,qqS,qst,wS j,wO ((M:Int)-1)];cases inI (gt xs j).Bi 0 ((M:Int)-1)
  ·exact .done
  refine Ev.ff Z ?_;by_cases c:j=0
  ·subst c;refine Ev.ff Z ?_;show Ev _ (bif (stepN xs 0&&_) then X else _);rw[show stepN xs 0=true from rfl];show Ev (fun n=>bif !spanB (gt xs 0).Af then _ else bif !slewB (gt xs 0).Av then _ else _) _;cases spanB (gt xs 0).Af
   ·exact .done
   ·cases slewB (gt xs 0).Av
    ·exact .done
    ·exact d
  ·refine Ev.tt (decide_eq_true (by omega)) ?_;rw[show(j:Int)-1=((j-1:Nat):Int) by omega,qQ (by omega) (by omega),qw (show j-1<xs.length by omega),qqv c];simp only[jd];by_cases a:(gt xs (j-1)).Bi<(gt xs j).Bi
   ·rw[decide_eq_true a];refine Ev.ff (decide_eq_false (by omega)) ?_;show Ev (fun n=>bif !spanB (gt xs j).Af then _ else bif !slewB (gt xs j).Av then _ else _) _;cases spanB (gt xs j).Af
    ·exact .done
    ·cases slewB (gt xs j).Av
     ·exact .done
     ·exact d
   ·rw[decide_eq_false a];exact Ev.tt (decide_eq_true (by omega)) .done
 unfold qgX;refine Ev.bind e (Ev.bind i ?_);cases srcB xs M<;>exact .done
theorem qq1{v:Tview}{xs:List qf}(h:v.places.length<=78)(k:xs.length<=1048576):Ev (fun n=>qdZ n (V v) xs) (srcB xs (2*v.places.length)):=by
 have e:=qsH h;obtain⟨M,f⟩:∃M,M=2*v.places.length:=⟨_,rfl⟩;rw[<-f] at e⊢;have i:M<=156:=by omega
 have g:Ev (fun n=>qa9 (V v) xs n 0) (bif srcB xs M then .nxt (xs.length:Int) else .ret false):=by
  refine qer (Lf:=qa9 (V v) xs) (len:=xs.length) (Ev.succ (by simp only[qa9,qq (jf _),cond_false];exact .done)) (fun j d X c=>Ev.succ ?_);simp only[qa9,qp d,cond_true,qw d,jd,qjs,e,qdE,qoY,qsr,wS j,wO ((M:Int)-1)];cases inI (gt xs j).Bi 0 ((M:Int)-1)
  ·exact .done
  refine Ev.ff Z ?_;show Ev (fun n=>bif !spanB (gt xs j).Af then _ else bif !slewB (gt xs j).Av then _ else _) _;rw[jy,Bool.and_comm];cases spanB (gt xs j).Af
  ·exact .done
  ·cases slewB (gt xs j).Av
   ·exact .done
   ·refine Ev.ff Z (Ev.ff Z ?_);rw[jy,jy];by_cases b:j=0
    ·subst b;exact Ev.ff Z c
    ·refine Ev.tt (decide_eq_true (by omega)) ?_;rw[show(j:Int)-1=((j-1:Nat):Int) by omega,qQ (by omega) (by omega),qw (show j-1<xs.length by omega),qqv b];simp only[jd];by_cases a:(gt xs (j-1)).Bi<(gt xs j).Bi
     ·rw[decide_eq_true a];exact Ev.ff (decide_eq_false (by omega)) c
     ·rw[decide_eq_false a];exact Ev.tt (decide_eq_true (by omega)) .done
 unfold qdZ;refine Ev.bind g ?_;cases srcB xs M<;>exact .done
theorem qot{xs:List qf}{M:Nat}(f:xs.length<=1048576)(h:srcB xs M=true):SrcOk xs:=by
 unfold srcB at h;rw[qai] at h;refine⟨f,fun j=>?_,fun x g=>?_⟩
 ·induction j with
  |zero=>intro i hi _;omega
  |succ j ih=>
   intro i hi d;have a:=h (j+1) d;rw[qqv (by omega)] at a;simp only[je,decide_eq_true_eq,Nat.add_sub_cancel] at a;have c:=a.2.1;by_cases b:i=j
   ·rw[b];exact c
   ·have:=ih i (by omega) (by omega);omega
 ·obtain⟨i,hi,rfl⟩:=List.mem_iff_getElem.1 g;have a:=h i hi;rw[<-qeQ hi];simp only[je] at a;have:=a.2.2.2;unfold slewB at this;simp only[je,decide_eq_true_eq] at this;exact⟨⟨this.1,by omega⟩,by omega,this.2.2⟩
section
variable{L:Nat}{fr to:Nat->Int}{lv:Nat->Bool}{n:Nat}
def OrdOk(L:Nat)(fr to:Nat->Int)(lv:Nat->Bool)(n:Nat)(R:List Nat):Prop:=∀l1 k l2,R=l1++k::l2->k<n/\k∉l1/\inN L fr to lv l1 k=0
theorem OrdOk.snoc{R:List Nat}{k:Nat}(h:OrdOk L fr to lv n R)(c:nxtN L fr to lv n R=V k):OrdOk L fr to lv n (R++[k]):=by
 intro l1 a l2 e;rcases List.eq_nil_or_concat l2 with rfl|⟨l2',z,rfl⟩
 ·obtain⟨rfl,e2⟩:=List.append_inj' e Z;obtain rfl:k=a:=by simpa using e2
  exact qpb c
 ·have b:R++[k]=(l1++a::l2')++[z]:=by rw[e];simp
  obtain⟨e1,_⟩:=List.append_inj' b Z;exact h l1 a l2' e1
theorem qwX:∀m R R',OrdOk L fr to lv n R->ordN L fr to lv n m R=V R'->OrdOk L fr to lv n R':=by
 intro m
 induction m with
 |zero=>intro R R' h e;obtain rfl:=Option.some.inj e;exact h
 |succ m ih=>
  intro R R' h e;unfold ordN at e;cases hn:nxtN L fr to lv n R with
  |none=>rw[hn] at e;cases e
  |some k=>
   rw[hn] at e;exact ih _ _ (h.snoc hn) e
theorem OrdOk.at{R:List Nat}(h:OrdOk L fr to lv n R){j:Nat}(a:j<R.length):R[j]<n/\R[j]∉R.take j/\inN L fr to lv (R.take j) R[j]=0:=by
 refine h (R.take j) R[j] (R.drop (j+1)) ?_;rw[<-jM a,List.take_append_drop]
end
theorem qoR{α:Type}[Inhabited α]{xs:List α}{k:Nat}{v:α}(a:k<xs.length)(h:gt xs k=v):setS xs (k:Int) v=xs:=by
 unfold setS;rw[jp,<-h,qeQ a];exact List.set_getElem_self a
theorem qec{α:Type}[Inhabited α]{xs:List α}{a k:Nat}{y:α}(b:a<xs.length):gt (setS xs (a:Int) y) k=if k=a then y else gt xs k:=by
 unfold setS;rw[jp];by_cases h:k=a
 ·subst h;rw[if_pos Z,qpD b]
 ·rw[if_neg h,qrJ h]
def setT(t:qn)(k:Nat)(s:Bool×qf):qn:=⟨setS t.Ar (k:Int) s.1,setS t.Af (k:Int) s.2.Af,setS t.Av (k:Int) s.2.Av⟩
theorem qnA{t:qn}{M k:Nat}{s:Bool×qf}(h:TmOk t M)(c:k<M)(d:slR s.2.Av):TmOk (setT t k s) M where
 r:=by show(setS _ _ _).length=_;rw[qaY];exact h.r
 a:=by show(setS _ _ _).length=_;rw[qaY];exact h.a
 s:=by show(setS _ _ _).length=_;rw[qaY];exact h.s
 sl:=fun j b=>by
  show slR (gt (setS _ _ _) j);rw[qec (by rw[h.s];exact c)];split
  ·exact d
  ·exact h.sl j b
def Bare(t:qn)(M:Nat)(l:List Nat):Prop:=∀k,k<M->k∉l->gt t.Ar k=false/\gt t.Af k=zSp/\gt t.Av k=zSp
def zT:qn:=⟨[],[],[]⟩
theorem qwr:slR zSp:=by unfold slR zSp;exact⟨⟨jQ _,by show(0:Int)<=_;omega⟩,jQ _,by show(0:Int)<=_;omega⟩
theorem qxp{s t:qg}(a:slR s)(b:slR t):slR (hullS s t):=by
 obtain⟨⟨a1,a2⟩,c,d⟩:=a;obtain⟨⟨b1,b2⟩,b3,f⟩:=b;refine⟨⟨?_,?_⟩,?_,?_⟩
 ·show(0:Int)<=(if t.Ak<s.Ak then t.Ak else s.Ak);split<;>assumption
 ·show(if t.Ak<s.Ak then t.Ak else s.Ak)<=1000000;split<;>assumption
 ·show(0:Int)<=(if t.As > s.As then t.As else s.As);split<;>assumption
 ·show(if t.As > s.As then t.As else s.As)<=1000000;split<;>assumption
section
variable{b:qd}{c:qx}{ex:List Int}{f g:Nat->qg->qg×qg}{lv:List Bool}{t:qn}{xs:List qf}{node:Int}
theorem qkx(h:blockB b=true)(l:SpansS b c g)(i:∀k s,(f k s).2=(g k s).2)(m:TmOk t (2*(places b.Aa).length))(n:SrcOk xs):∀j,j<=(linksL b).length->slR (ndS f (linksL b) lv t node (srcV (srcO xs node)) j).2.Av:=by
 intro j
 induction j with
 |zero=>
  intro _;show slR (srcV (srcO xs node)).2.Av;cases hs:srcO xs node with
  |none=>exact qwr
  |some y=>exact n.sl y (qlS hs).2
 |succ j a=>
  intro o;have a:=a (by omega);obtain⟨_,e2⟩:=qrU (qkr h) (show j<(linksL b).length by omega);have d:=(l j _ (show j<(linksL b).length by omega) (m.sl _ e2)).1;rw[<-i] at d;show slR (bif toQ (linksL b) lv node j then stepS f (linksL b) t node (ndS f (linksL b) lv t node (srcV (srcO xs node)) j) j else ndS f (linksL b) lv t node (srcV (srcO xs node)) j).2.Av;cases toQ (linksL b) lv node j
  ·exact a
  ·simp only[cond_true];unfold stepS;cases gt t.Ar (frN (linksL b) j)
   ·exact a
   ·simp only[cond_true];unfold joinS;cases (ndS f (linksL b) lv t node (srcV (srcO xs node)) j).1
    ·exact d
    ·exact qxp a d
theorem qwS:∀j,(ndS f (linksL b) lv t node (srcV (srcO xs node)) j).1=false->(ndS f (linksL b) lv t node (srcV (srcO xs node)) j).2=zSrc:=by
 intro j
 induction j with
 |zero=>
  show(srcV (srcO xs node)).1=false->(srcV (srcO xs node)).2=zSrc;cases srcO xs node with
  |none=>exact fun _=>rfl
  |some y=>intro e;cases e
 |succ j ih=>
  unfold ndS;cases toQ (linksL b) lv node j
  ·exact ih
  ·simp only[cond_true];unfold stepS;cases gt t.Ar (frN (linksL b) j)
   ·exact ih
   ·simp only[cond_true];unfold joinS;cases (ndS f (linksL b) lv t node (srcV (srcO xs node)) j).1<;>(intro e;cases e)
def runR(o:Option qn):qn×Bool:=match o with|some t=>(t,true)|none=>(zT,false)
def rnO(f:Nat->qg->qg×qg)(ls:List qv)(lv:List Bool)(xs:List qf):List Nat->qn->Option qn
 | [],t=>V t
 |k::R,t=>bif (ndS f ls lv t (k:Int) (srcV (srcO xs (k:Int))) ls.length).1 then bif spanB (ndS f ls lv t (k:Int) (srcV (srcO xs (k:Int))) ls.length).2.Af then rnO f ls lv xs R (setT t k (ndS f ls lv t (k:Int) (srcV (srcO xs (k:Int))) ls.length)) else G else rnO f ls lv xs R t
def zTm(M:Nat):qn:=⟨List.replicate M false,List.replicate M zSp,List.replicate M zSp⟩
theorem qqc{α:Type}[Inhabited α]{v:α}{M k:Nat}(a:k<M):gt (List.replicate M v) k=v:=by rw[qeQ (by rw[jH];exact a)];simp
theorem qm9{M:Nat}:TmOk (zTm M) M:=⟨jH,jH,jH,fun k a=>by
 show slR (gt (List.replicate M zSp) k);rw[qqc a];exact qwr⟩
theorem qwg{M:Nat}{l:List Nat}:Bare (zTm M) M l:=fun _ a _=>⟨qqc a,qqc a,qqc a⟩
def runL(o:Option qn)(m:Nat):Flow (qn×Bool) (List qg×List qg×List Bool×Int):=match o with|some t'=>.nxt (t'.Av,t'.Af,t'.Ar,(m:Int))|none=>.ret (zT,false)
theorem qrT(h:blockB b=true)(hg:SpansS b c g)(H:∀k s,(f k s).2=(g k s).2)(hf:SpansI b c ex f)(hl:lv.length=(linksL b).length)(P:SrcOk xs){R:List Nat}(X:∀j,∀O:j<R.length,R[j]<2*(places b.Aa).length/\R[j]∉R.take j)(Y:R.length<=1000) :
  Ev (fun n=>qbh n (V ⟨V (viewE b ex),lv⟩) c xs (ints R)) (runR (rnO f (linksL b) lv xs R (zTm (2*(places b.Aa).length)))):=by
 have L:=qaV (qY (qan h));have r:=qsH (v:=viewE b ex) L;have D:(viewE b ex).places.length=(places b.Aa).length:=rfl;rw[D] at r;obtain⟨M,B⟩:∃M,M=2*(places b.Aa).length:=⟨_,rfl⟩;have hM:M<=156:=by omega
 have A:∀d j t,j+d=R.length->TmOk t M->Bare t M (R.take j)->Ev (fun n=>qa7 (V ⟨V (viewE b ex),lv⟩) c xs (ints R) n t.Av t.Af t.Ar (j:Int)) (runL (rnO f (linksL b) lv xs (R.drop j) t) R.length):=by
  intro d
  induction d with
  |zero=>
   intro j t O a _;obtain rfl:j=R.length:=by omega
   rw[List.drop_length];refine Ev.succ ?_;simp only[qa7,qbv,qq (jf _),cond_false];exact .done
  |succ d ih=>
   intro j t O a F;have m:j<R.length:=by omega
   obtain⟨l,S⟩:=X j m;have hi:=qoL m;have x:R.take (j+1)=R.take j++[R[j]]:=jC m;have N:R.drop j=R[j]::R.drop (j+1):=jM m;generalize R[j]=k at l S hi x N;rw[<-B] at l;have C:=qwx (node:=(k:Int)) h hf hl (by rw[<-B];exact a) P.len;have z:=qkx (node:=(k:Int)) (lv:=lv) h hg H (by rw[<-B];exact a) P (linksL b).length (jf _);have Q:=qwS (f:=f) (b:=b) (lv:=lv) (t:=t) (xs:=xs) (node:=(k:Int)) (linksL b).length;obtain⟨b1,b2,b3⟩:=F k l S;have ir:idx t.Ar (k:Int)=V (gt t.Ar k):=qw (by rw[a.r];exact l);have ia:idx t.Af (k:Int)=V (gt t.Af k):=qw (by rw[a.a];exact l);have is:idx t.Av (k:Int)=V (gt t.Av k):=qw (by rw[a.s];exact l);have y:∀n,qa7 (V ⟨V (viewE b ex),lv⟩) c xs (ints R) (n+1) t.Av t.Af t.Ar (j:Int)=(qd4 n (V ⟨V (viewE b ex),lv⟩) c xs t (k:Int)).bind fun(r3,r4)=>(bif r3 then V (!spanB r4.Af) else V false).bind fun b3=>bif b3 then V (.ret (zT,false)) else
     qa7 (V ⟨V (viewE b ex),lv⟩) c xs (ints R) n (setS t.Av (k:Int) r4.Av) (setS t.Af (k:Int) r4.Af) (setS t.Ar (k:Int) r3) ((j+1:Nat):Int):=fun n=>by
    simp only[qa7,qbv,qp m,cond_true,hi,jd,qoY,ir,ia,is,wS j]
    rfl
   rw[N];unfold rnO;generalize ndS f (linksL b) lv t (k:Int) (srcV (srcO xs (k:Int))) (linksL b).length=s at C z Q⊢;obtain⟨s1,s2⟩:=s;cases s1
   ·have:=Q Z;simp only at this;subst this;have e1:setS t.Av (k:Int) zSrc.Av=t.Av:=qoR (by rw[a.s];exact l) b3;have e2:setS t.Af (k:Int) zSrc.Af=t.Af:=qoR (by rw[a.a];exact l) b2;have W:setS t.Ar (k:Int) false=t.Ar:=qoR (by rw[a.r];exact l) b1;refine Ev.step y (Ev.bind C ?_);simp only[cond_false,jd,e1,e2,W];exact ih (j+1) t (by omega) a (fun i hi p=>F i hi (fun I=>p (by rw[x];exact jR _ I)))
   ·cases hsp:spanB s2.Af
    ·refine Ev.step y (Ev.bind C ?_);simp only[hsp];exact .done
    ·refine Ev.step y (Ev.bind C ?_);simp only[hsp];refine ih (j+1) (setT t k (true,s2)) (by omega) (qnA a l z) (fun i hi p=>?_);rw[x] at p;have u:i≠k:=fun e=>p (Jc _ (List.mem_singleton.2 e));have:=F i hi (fun I=>p (jR _ I));refine⟨?_,?_,?_⟩
     ·show gt (setS _ _ _) i=_;rw[qec (by rw[a.r];exact l),if_neg u];exact this.1
     ·show gt (setS _ _ _) i=_;rw[qec (by rw[a.a];exact l),if_neg u];exact this.2.1
     ·show gt (setS _ _ _) i=_;rw[qec (by rw[a.s];exact l),if_neg u];exact this.2.2
 have J:mkS (M:Int) false=V (List.replicate M false):=qkk (by omega);have K:mkS (M:Int) (⟨0,0⟩:qg)=V (List.replicate M zSp):=qkk (by omega);have T:=A R.length 0 (zTm M) (by omega) qm9 qwg;rw[List.drop_zero] at T;rw[<-B] at r⊢;unfold qbh qh9;simp only[jd,r,J,K];refine Ev.bind T ?_;cases rnO f (linksL b) lv xs R (zTm M)<;>exact .done
end

abbrev lkB(b:qd):Nat:=(linksL b).length
abbrev ndB(b:qd):Nat:=2*(places b.Aa).length
abbrev lvJ(b:qd)(br:List Int):List Bool:=lvB br (lkB b)
def grB(b:qd)(br:List Int):Option Tgraph:=V ⟨V (viewV b),lvJ b br⟩
structure TgOk(b:qd)(c:qx)(br:List Int)(xs:List qf)(R:List Nat):Prop where
 bl:blockB b=true
 co:cornerB c=true
 br_:brB br (lkB b)=true
 sr:srcB xs (ndB b)=true
 or_:ordL (linksL b) (lvJ b br) (ndB b) (ndB b) []=V R
theorem TgOk.ord{b:qd}{c:qx}{br:List Int}{xs:List qf}{R:List Nat}(h:TgOk b c br xs R):OrdOk (lkB b) (frL (linksL b)) (toL (linksL b)) (lvL (lvJ b br)) (ndB b) R:=
 qwX (ndB b) [] R (fun l1 k l2 e=>by cases l1<;>cases e) h.or_
theorem TgOk.len{b:qd}{c:qx}{br:List Int}{xs:List qf}{R:List Nat}(h:TgOk b c br xs R):R.length=ndB b:=by
 have:=qwd (ndB b) [] R h.or_;simpa using this
theorem qp3{x:Int}(h:x≠0):(x != 0)=true:=by simpa using h
theorem qxA{b:qd}{c:qx}{br:List Int}{xs:List qf}(B:qfO b)(H:okS c.Az)(a:br.length<=1048576)(m:xs.length<=1048576) :
  (∃code:Int,code≠0/\Ev (fun n=>qcE n b c br xs) ([],code)/\Ev (fun n=>qa2 n b c br xs G) (G,[],code)) \/
  ∃R,TgOk b c br xs R/\Ev (fun n=>qcE n b c br xs) (ints R,0)/\Ev (fun n=>qa2 n b c br xs G) (grB b br,ints R,0):=by
 have s1:=qeO B;have k:=qiA B;have s2:=qh3 (c:=c) H;have s:=qiQ (c:=c) H;unfold qcE qa2;cases h1:blockB b
 ·rw[h1] at s1 k;exact .inl ⟨1,by omega,Ev.bind (b:=true) (Ev.bind s1 (Ev.tt Z .done)) (Ev.tt Z .done),Ev.bind (b:=true) (Ev.bind k (Ev.tt Z .done)) (Ev.tt Z .done)⟩
 cases h2:cornerB c
 ·rw[h1] at s1 k;rw[h2] at s2 s;exact .inl ⟨1,by omega,Ev.bind (b:=true) (Ev.bind s1 (Ev.ff Z (Ev.bind s2 .done))) (Ev.tt Z .done),Ev.bind (b:=true) (Ev.bind k (Ev.ff Z (Ev.bind s .done))) (Ev.tt Z .done)⟩
 have C:=qaV (qY (qan h1));have d:=qkR h1;have I:=qkr h1;have i:=qty (br:=br) B h1 a;have f:=qs7 (v:=viewV b) (br:=br) a d;have y:=qq9 (xs:=xs) h1 m;have p:=qq1 (v:=viewV b) (xs:=xs) C m;have F:(viewV b).links=linksL b:=rfl;have M:(viewV b).places=places b.Aa:=rfl;rw[F] at f;rw[M] at p;rw[h1] at s1 k;rw[h2] at s2 s;have A:Ev (fun n=>(qb2 n b).bind fun g=>bif (!g) then V true else(qcY n c).bind fun h=>V (!h)) false:=Ev.bind s1 (Ev.ff Z (Ev.bind s2 .done));have u:Ev (fun n=>(qdV n b).bind fun g=>bif (!g) then V true else(qdS n c).bind fun h=>V (!h)) false:=Ev.bind k (Ev.ff Z (Ev.bind s .done));have x:=qtG h1;cases h3:brB br (lkB b)
 ·rw[h3] at i f;exact .inl ⟨2,by omega,Ev.bind A (Ev.ff Z (Ev.bind (b:=true) (Ev.bind i (Ev.tt Z .done)) (Ev.tt Z .done))),
   Ev.bind u (Ev.ff Z (Ev.bind x (Ev.bind (b:=false) (Ev.ff Z .done) (Ev.ff Z (Ev.bind (b:=true) (Ev.bind f (Ev.tt Z .done)) (Ev.tt Z .done))))))⟩
 cases h4:srcB xs (ndB b)
 ·rw[h3] at i f;rw[h4] at y p;exact .inl ⟨2,by omega,Ev.bind A (Ev.ff Z (Ev.bind (b:=true) (Ev.bind i (Ev.ff Z (Ev.bind y .done))) (Ev.tt Z .done))),
   Ev.bind u (Ev.ff Z (Ev.bind x (Ev.bind (b:=false) (Ev.ff Z .done) (Ev.ff Z (Ev.bind (b:=true) (Ev.bind f (Ev.ff Z (Ev.bind p .done))) (Ev.tt Z .done))))))⟩
 have D:=qtY (v:=viewV b) (br:=br) d h3;rw[F] at D;have Q:=qof (ls:=linksL b) (br:=br) d a;have l:(lvJ b br).length=lkB b:=qkZ;have z:=qvp (lv:=lvJ b br) I l;have t:=qu5 (b:=b) (ps:=places b.Aa) (lo:=pre (load0 b) b.Ac.length) (de:=pre (exactL b) b.Ac.length) (ex:=[]) (lv:=lvJ b br) I l Z;rw[h3] at i f;rw[h4] at y p;have K:Ev (fun n=>(qh2 n b br).bind fun O=>bif (O != 0) then V true else(qgX n b xs).bind fun P=>V (!P)) false:=Ev.bind i (Ev.ff Z (Ev.bind y .done));have J:Ev (fun n=>(qff n (V (viewV b)) br).bind fun g=>bif (!g) then V true else(qdZ n (V (viewV b)) xs).bind fun h=>V (!h)) false:=Ev.bind f (Ev.ff Z (Ev.bind p .done));have L:∀r:List Int×Int,Ev (fun n=>(qin n (ndB b:Int) (linksL b) (lvJ b br)).bind fun(g,h)=>bif (!h) then V (([]:List Int),(7:Int)) else V (g,0)) r->Ev (fun n=>qfp n b br) r:=fun r N=>by
  unfold qfp;exact Ev.bind i (Ev.ff Z (Ev.bind (qjT h1) (Ev.bind (qk4 h1) (Ev.bind Q N))))
 cases ho:ordL (linksL b) (lvJ b br) (ndB b) (ndB b) [] with
 |none=>
  have e:ordR (linksL b) (lvJ b br) (ndB b)=([],false):=by unfold ordR;rw[ho]
  rw[e] at z t;exact .inl ⟨7,by omega,Ev.bind A (Ev.ff Z (Ev.bind K (Ev.ff Z (Ev.bind (L ([],7) (Ev.bind z (Ev.tt Z .done))) .done)))),
   Ev.bind u (Ev.ff Z (Ev.bind x (Ev.bind (b:=false) (Ev.ff Z .done) (Ev.ff Z (Ev.bind J (Ev.ff Z (Ev.bind D (Ev.bind t (Ev.tt Z .done)))))))))⟩
 |some R=>
  have e:ordR (linksL b) (lvJ b br) (ndB b)=(ints R,true):=by unfold ordR;rw[ho]
  rw[e] at z t;exact .inr ⟨R,⟨h1,h2,h3,h4,ho⟩,Ev.bind A (Ev.ff Z (Ev.bind K (Ev.ff Z (Ev.bind (L (ints R,0) (Ev.bind z (Ev.ff Z .done))) .done)))),
   Ev.bind u (Ev.ff Z (Ev.bind x (Ev.bind (b:=false) (Ev.ff Z .done) (Ev.ff Z (Ev.bind J (Ev.ff Z (Ev.bind D (Ev.bind t (Ev.ff Z .done)))))))))⟩

def sdL(ls:List qv)(fw:Bool)(k:Nat):Int:=bif fw then frL ls k else toL ls k
def tdL(ls:List qv)(fw:Bool)(k:Nat):Int:=bif fw then toL ls k else frL ls k
structure ReachI(ls:List qv)(lv:List Bool)(M:Nat)(fw:Bool)(v:Nat)(x:List Bool):Prop where
 len:x.length=M
 self:gt x v=true
 wit:∀j,j<M->gt x j=true->j=v\/∃k a:Nat,k<ls.length/\gt lv k=true/\sdL ls fw k=(a:Int)/\a<M/\gt x a=true/\tdL ls fw k=(j:Int)
def ShutI(ls:List qv)(lv:List Bool)(fw:Bool)(x:List Bool)(k:Nat):Prop:=gt lv k=true->∀a b:Nat,sdL ls fw k=(a:Int)->tdL ls fw k=(b:Int)->gt x a=true->gt x b=true
theorem qu7{x:List Bool}:x.countP id<=x.length:=List.countP_le_length
theorem quR{x:List Bool}{c:Nat}(a:c<x.length)(h:gt x c=false):(setS x (c:Int) true).countP id=x.countP id+1:=by
 have e:setS x (c:Int) true=x.set c true:=by unfold setS;rw[jp]
 rw[e];have:x[c]=false:=by rw[<-qeQ a];exact h
 clear e h
 induction x generalizing c with
 |nil=>cases a
 |cons y x ih=>
  cases c with
  |zero=>
   have d:y=false:=this;subst d;simp
  |succ c=>
   have b:c<x.length:=by simpa using a
   have:=ih b (by simpa using this);rw[List.set_cons_succ,List.countP_cons,List.countP_cons,this];omega
section
variable{ls:List qv}{lv:List Bool}{M:Nat}
theorem qvZ(h:LkOk ls M){k:Nat}(c:k<ls.length)(fw:Bool):∃a b:Nat,sdL ls fw k=(a:Int)/\tdL ls fw k=(b:Int)/\a<M/\b<M:=by
 have d:=h.fr0 k c;have f1:=h.fr1 k c;have f:=h.to0 k c;have g:=h.to1 k c;cases fw
 ·exact⟨(gt ls k).To.toNat,(gt ls k).Be.toNat,qdu f,qdu d,by omega,by omega⟩
 ·exact⟨(gt ls k).Be.toNat,(gt ls k).To.toNat,qdu d,qdu f,by omega,by omega⟩
theorem qxU(h:LkOk ls M)(S:lv.length=ls.length){fw:Bool}{v:Nat}:∀(d k:Nat) (x:List Bool) (b:Bool),k+d=ls.length->ReachI ls lv M fw v x->(b=false->∀j,j<k->ShutI ls lv fw x j) ->
  EvQ (fun n=>qdz ls lv fw n x b (k:Int)) (fun o=>ReachI ls lv M fw v o.1/\(o.2.1=false->∀j,j<ls.length->ShutI ls lv fw o.1 j)/\x.countP id<=o.1.countP id/\(o.2.1=true->b=true\/x.countP id<o.1.countP id)):=by
 have Q:=h.len;intro d
 induction d with
 |zero=>
  intro k x b P g s;refine EvQ.succ ?_;simp only[qdz];refine EvQ.ff (qq (by omega)) (EvQ.done ⟨g,fun e j u=>s e j (by omega),jf _,fun e=>.inl e⟩)
 |succ d ih=>
  intro k x b P g s;have f:k<ls.length:=by omega
  obtain⟨p,q,z,C,I,R⟩:=qvZ h f fw;refine EvQ.succ ?_;simp only[qdz,wS k];refine EvQ.tt (qp f) (EvQ.bindN (qw f) (EvQ.bindN (qw f) (EvQ.bindN (b:=((p:Int),(q:Int))) (by rw[<-z,<-C];cases fw<;>rfl) ?_)));have B:p<x.length:=by rw[g.len];exact I
  have c:q<x.length:=by rw[g.len];exact R
  refine EvQ.bindN (b:=gt lv k&&(gt x p&&!gt x q)) (by rw[qw (show k<lv.length by omega),qw B,qw c];simp only[jd];cases gt lv k<;>cases gt x p<;>rfl) ?_;refine EvQ.bif (fun i=>?_) (fun i=>?_)
  ·simp only[je,jA] at i;obtain⟨c1,r,F⟩:=i;have A:p≠q:=fun e=>by rw[e,F] at r;cases r
   have H:=quR c F;refine EvQ.bindN (qw c) ((ih (k+1) (setS x (q:Int) true) true (by omega) ⟨by rw[qaY];exact g.len,?_,fun j u l=>?_⟩ (fun e=>by cases e)).mono fun o m=>⟨m.1,m.2.1,by have:=m.2.2.1;omega,fun _=>.inr (by have:=m.2.2.1;omega)⟩)
   ·rw[qec c];split
    ·rfl
    ·exact g.self
   ·by_cases e:j=q
    ·exact .inr ⟨k,p,f,c1,z,I,by rw[qec c,if_neg A];exact r,by rw[C,e]⟩
    ·rw[qec c,if_neg e] at l;rcases g.wit j u l with e2|⟨k',a,w1,w2,w3,w4,w5,w6⟩
     ·exact .inl e2
     ·exact .inr ⟨k',a,w1,w2,w3,w4,by rw[qec c];split;rfl;exact w5,w6⟩
  ·refine ih (k+1) x b (by omega) g (fun e j u=>?_);by_cases N:j=k
   ·subst N;intro y a J O t D;rw[z] at O;rw[C] at t;have K:p=a:=by omega
    have L:q=J:=by omega
    subst K;subst L;rw[y,D] at i;simpa using i
   ·exact s e j (by omega)
theorem quu(h:LkOk ls M)(t:lv.length=ls.length){fw:Bool}{v:Nat}(y:v<M):EvQ (fun n=>qid n (M:Int) ls lv (v:Int) fw) (fun x=>ReachI ls lv M fw v x/\∀j,j<ls.length->ShutI ls lv fw x j):=by
 have A:=h.nodes;have f:∀(d:Nat) (x:List Bool),M<x.countP id+d->ReachI ls lv M fw v x->EvQ (fun n=>qe5 ls lv fw n x true) (fun o=>ReachI ls lv M fw v o.1/\∀j,j<ls.length->ShutI ls lv fw o.1 j):=by
  intro d
  induction d with
  |zero=>
   intro x s l;have:=qu7 (x:=x);rw[l.len] at this;omega
  |succ d ih=>
   intro x s l;refine EvQ.succ ?_;simp only[qe5,cond_true];refine EvQ.bind (qxU h t ls.length 0 x false (by omega) l (fun _ j k=>absurd k (Nat.not_lt_zero _))) ?_;rintro⟨z,b3,i⟩ ⟨g,m,r,p⟩;dsimp only at g m r p⊢;cases b3
   ·refine EvQ.succ ?_;simp only[qe5,cond_false];exact EvQ.done ⟨g,m Z⟩
   ·rcases p rfl with e|e
    ·cases e
    ·exact ih z (by omega) g
 unfold qid;have a:v<(pre (fun _=>false) M).length:=by rw[qlf];exact y
 refine EvQ.bindN (qlJ (by omega)) (EvQ.bindN (qw a) (EvQ.bind (f (M+1) _ (by omega) ⟨by rw[qaY,qlf],by rw[qec a,if_pos Z],fun j k c=>?_⟩) ?_))
 ·refine .inl ?_;refine Classical.byContradiction fun e=>?_;rw[qec a,if_neg e,qvP k] at c;cases c
 ·rintro⟨x,b⟩ u;exact EvQ.done u
def SelfL(ls:List qv)(lv:List Bool)(v:Nat):Prop:=∃k,k<ls.length/\gt lv k=true/\frL ls k=(v:Int)/\toL ls k=(v:Int)
structure LoopI(ls:List qv)(lv:List Bool)(M:Nat)(l:List Int):Prop where
 ex:∃(v:Nat) (there back:List Bool),v<M/\(ReachI ls lv M true v there/\∀j,j<ls.length->ShutI ls lv true there j)/\(ReachI ls lv M false v back/\∀j,j<ls.length->ShutI ls lv false back j) /\
  l=ints (selN (fun w=>gt there w&&gt back w) M)/\(1<l.length\/SelfL ls lv v)
theorem qx0(h:LkOk ls M)(p:lv.length=ls.length){v:Nat}:EvQ (fun n=>qko n ls lv (v:Int)) (fun r=>r=true->SelfL ls lv v):=by
 have l:=h.len;have b:∀d k,k+d=ls.length->EvQ (fun n=>qdi ls lv (v:Int) n (k:Int)) (fun o=>∀r,o=.ret r->SelfL ls lv v):=by
  intro d
  induction d with
  |zero=>
   intro k i;refine EvQ.succ ?_;simp only[qdi];exact EvQ.ff (qq (by omega)) (EvQ.done fun r m=>by cases m)
  |succ d ih=>
   intro k i;have a:k<ls.length:=by omega
   refine EvQ.succ ?_;simp only[qdi,wS k];refine EvQ.tt (qp a) (EvQ.bindN (qw (show k<lv.length by omega)) (EvQ.bif (fun c=>EvQ.bindN (qw a) (EvQ.bif (fun f=>EvQ.bindN (qw a) (EvQ.bif (fun g=>EvQ.done fun _ _=>⟨k,a,c,beq_iff_eq.1 f,beq_iff_eq.1 g⟩) (fun _=>ih (k+1) (by omega)))) (fun _=>ih (k+1) (by omega)))) (fun _=>ih (k+1) (by omega))))
 unfold qko;refine EvQ.bind (b ls.length 0 (by omega)) ?_;rintro(r|x) ho
 ·exact EvQ.done fun _=>ho r Z
 ·exact EvQ.done fun e=>by cases e
theorem qwQ(h:LkOk ls M)(t:lv.length=ls.length):EvQ (fun n=>qjE n (M:Int) ls lv) (fun o=>∀l,l∈o->LoopI ls lv M l):=by
 have L:=h.nodes;have k:∀{a back:List Bool},a.length=M->back.length=M->∀d j p f,j+d=M->p=ints (selN (fun w=>gt a w&&gt back w) j)->f.length=M ->
   EvQ (fun n=>qdC (M:Int) a back n p f (j:Int)) (fun o=>o.1=ints (selN (fun w=>gt a w&&gt back w) M)/\o.2.1.length=M):=by
  intro a back z y d
  induction d with
  |zero=>
   intro j p f D s x;obtain rfl:j=M:=by omega
   refine EvQ.succ ?_;simp only[qdC];exact EvQ.ff (qq (jf _)) (EvQ.done ⟨s,x⟩)
  |succ d ih=>
   intro j p f D s x;refine EvQ.succ ?_;simp only[qdC,wS j];refine EvQ.tt (qp (by omega)) (EvQ.bindN (b:=gt a j&&gt back j) (by rw[qw (show j<a.length by omega),qw (show j<back.length by omega)];simp only[jd];cases gt a j<;>rfl) ?_);have e:=qhM (q:=fun w=>gt a w&&gt back w) (j:=j);have J:(selN (fun w=>gt a w&&gt back w) j).length<=j:=qgy;refine EvQ.bif (fun g=>?_) (fun g=>?_)
   ·refine EvQ.bindN (qb1 (by rw[s,qbv];omega)) (EvQ.bindN (qw (show j<f.length by omega)) (ih (j+1) _ _ (by omega) ?_ (by rw[qaY];exact x)));rw[e,g,cond_true,s];unfold ints;rw[jZ];rfl
   ·refine ih (j+1) _ _ (by omega) ?_ x;rw[e,g,cond_false,jY,s]
 have v:∀d j m c,j+d=M->m.length=M->c.length<=j->(∀l,l∈c->LoopI ls lv M l) ->
   EvQ (fun n=>qcN (M:Int) ls lv n m c (j:Int)) (fun o=>∀l,l∈o.2.1->LoopI ls lv M l):=by
  intro d
  induction d with
  |zero=>
   intro j m c D B F u;refine EvQ.succ ?_;simp only[qcN];exact EvQ.ff (qq (by omega)) (EvQ.done u)
  |succ d ih=>
   intro j m c D B F u;refine EvQ.succ ?_;simp only[qcN,wS j];refine EvQ.tt (qp (by omega)) (EvQ.bindN (qw (show j<m.length by omega)) (EvQ.bif (fun _=>ih (j+1) m c (by omega) B (by omega) u) (fun _=>?_)));refine EvQ.bind (quu h t (fw:=true) (show j<M by omega)) (fun a z=>?_);refine EvQ.bind (quu h t (fw:=false) (show j<M by omega)) (fun back y=>?_);refine EvQ.bind (k z.1.len y.1.len M 0 [] m (by omega) Z B) ?_;rintro⟨p,f,i⟩ ⟨A,l5⟩;dsimp only at A l5⊢;refine EvQ.bind (R:=fun r=>r=true->LoopI ls lv M p) (EvQ.bif (fun g=>EvQ.done fun _=>⟨j,a,back,by omega,z,y,A,.inl (by have:=of_decide_eq_true g;omega)⟩) (fun _=>EvQ.bind (qx0 h t) (fun r I=>EvQ.done fun e=>⟨j,a,back,by omega,z,y,A,.inr (I e)⟩))) (fun K C=>?_);refine EvQ.bif (fun g=>?_) (fun _=>ih (j+1) f c (by omega) l5 (by omega) u);exact EvQ.bindN (qb1 (by omega)) (ih (j+1) f _ (by omega) l5 (by rw[jg,jh];omega) (qbp u (C g)))
 unfold qjE;refine EvQ.bindN (qlJ (by omega)) (EvQ.bind (v M 0 (pre (fun _=>false) M) [] (by omega) qlf (jf _) (fun _ t=>by cases t)) ?_);rintro⟨_,c,_⟩ H;exact EvQ.done H
theorem quE(h:LkOk ls M)(z:∀k k',k<ls.length->k'<ls.length->(gt ls k).Au≠1->(gt ls k').Au≠1->toL ls k≠frL ls k'){l:List Int}(J:LoopI ls lv M l) :
  ∃k,k<ls.length/\gt lv k=true/\(gt ls k).Au=1/\frL ls k∈l/\toL ls k∈l:=by
 obtain⟨v,c,back,L,⟨y,C⟩,⟨u,B⟩,e,m⟩:=J.ex;have mem:∀w:Nat,w<M->gt c w=true->gt back w=true->(w:Int)∈l:=fun w F H I=>by
  rw[e,qlP,qbM];exact⟨F,by rw[H,I];rfl⟩
 rcases m with m|⟨k,k1,k2,k3,k4⟩
 · -- another node of the loop
  obtain⟨w,f,g⟩:∃w,w∈selN (fun w=>gt c w&&gt back w) M/\w≠v:=by
   have i:(selN (fun w=>gt c w&&gt back w) M).Nodup:=List.nodup_range.filter _;have d:1<(selN (fun w=>gt c w&&gt back w) M).length:=by rw[e,qbv] at m;exact m
   generalize selN (fun w=>gt c w&&gt back w) M=S at i d
   match S,i,d with
   |a::b::S,i,_=>
    by_cases t:a=v
    ·refine⟨b,by simp,fun D=>?_⟩;rw[List.nodup_cons] at i;exact i.1 (by rw[t,<-D];simp)
    ·exact⟨a,by simp,t⟩
  rw[qbM,je] at f;obtain⟨n,p,o⟩:=f;rcases y.wit w n p with e1|⟨k1,a1,p1,p2,p3,p4,p5,p6⟩
  ·exact absurd e1 g
  rcases u.wit w n o with e1|⟨k2,a2,q1,q2,q3,q4,q5,q6⟩
  ·exact absurd e1 g
  have f1:frL ls k1=(a1:Int):=p3;have s:toL ls k1=(w:Int):=p6;have r:frL ls k2=(w:Int):=q6;have A:toL ls k2=(a2:Int):=q3;by_cases K1:(gt ls k1).Au=1
  ·exact⟨k1,p1,p2,K1,by rw[f1];exact mem a1 p4 p5 (B k1 p1 p2 w a1 s f1 o),by rw[s];exact mem w n p o⟩
  ·by_cases K2:(gt ls k2).Au=1
   ·exact⟨k2,q1,q2,K2,by rw[r];exact mem w n p o,by rw[A];exact mem a2 q4 (C k2 q1 q2 w a2 r A p) q5⟩
   ·exact absurd (s.trans r.symm) (z k1 k2 p1 q1 K1 K2)
 ·have x:=mem v L y.self u.self;refine⟨k,k1,k2,?_,by rw[k3];exact x,by rw[k4];exact x⟩;exact Classical.byContradiction fun K=>z k k k1 k1 K K (k4.trans k3.symm)
theorem qt7{xs:List Int}{x:Int}(h:x∈xs):(xs.any fun y=>y==x)=true:=List.any_eq_true.2 ⟨x,h,by simp⟩
theorem qw8(h:LkOk ls M)(P:∀k k',k<ls.length->k'<ls.length->(gt ls k).Au≠1->(gt ls k').Au≠1->toL ls k≠frL ls k'):∀(d:Nat) (lv:List Bool),lv.length=ls.length->lv.countP id<d ->
  EvQ (fun n=>qgo ls (M:Int) n lv) (fun o=>o.length=ls.length):=by
 have O:=h.len;have S:=h.nodes;intro d
 induction d with
 |zero=>intro lv _ R;omega
 |succ d ih=>
  intro lv A T;refine EvQ.succ ?_;simp only[qgo];refine EvQ.bind (qwQ h A) (fun p C=>?_);refine EvQ.bif (fun _=>EvQ.done A) (fun l=>?_);cases p with
  |nil=>simp at l
  |cons l0 p=>
   have D:=C l0 (by simp);have g:l0.length<=1048576:=by
    obtain⟨_,_,_,_,_,_,e,_⟩:=D.ex;rw[e,qbv];exact jT qgy (by omega)
   obtain⟨s,Q,F,H,I,J⟩:=quE h P D;have i0:idx (l0::p) 0=V l0:=rfl;have m:∀d j c,j+d=ls.length->((∃k:Nat,c=(k:Int)/\k<ls.length/\gt lv k=true)\/j<=s) ->
     EvQ (fun n=>qby ls lv (l0::p) n c (j:Int)) (fun o=>∃k:Nat,o.1=(k:Int)/\k<ls.length/\gt lv k=true):=by
    intro d
    induction d with
    |zero=>
     intro j c N hi;refine EvQ.succ ?_;simp only[qby];refine EvQ.ff (qq (by omega)) (EvQ.done ?_);rcases hi with hi|hi
     ·exact hi
     ·omega
    |succ d ih2=>
     intro j c N hi;have a:j<ls.length:=by omega
     have nx:∀{i},((∃k:Nat,i=(k:Int)/\k<ls.length/\gt lv k=true)\/j+1<=s)->EvQ (fun n=>qby ls lv (l0::p) n i ((j+1:Nat):Int)) (fun o=>∃k:Nat,o.1=(k:Int)/\k<ls.length/\gt lv k=true):=fun L=>ih2 (j+1) _ (by omega) L;have skip:j≠s->(∃k:Nat,c=(k:Int)/\k<ls.length/\gt lv k=true)\/j+1<=s:=fun l=>by
      rcases hi with hi|hi
      ·exact .inl hi
      ·exact .inr (by omega)
     refine EvQ.succ ?_;simp only[qby,wS j];refine EvQ.tt (qp a) (EvQ.bindN (qw (show j<lv.length by omega)) (EvQ.bif (fun c1=>EvQ.bindN (qw a) (EvQ.bif (fun t=>EvQ.bindN i0 (EvQ.bindN (qw a) (EvQ.bindE (ql4 g) (EvQ.bif (fun u=>EvQ.bindN i0 (EvQ.bindN (qw a) (EvQ.bindE (ql4 g) (EvQ.bif (fun v=>nx (.inl ⟨j,rfl,a,c1⟩)) (fun v=>nx (skip fun e=>?_)))))) (fun u=>nx (skip fun e=>?_)))))) (fun t=>nx (skip fun e=>?_)))) (fun c1=>nx (skip fun e=>?_))))
     ·subst e;have:=qt7 J;unfold toL at this;rw[this] at v;cases v
     ·subst e;have:=qt7 I;unfold frL at this;rw[this] at u;cases u
     ·subst e;rw[H] at t;cases t
     ·subst e;rw[F] at c1;cases c1
   refine EvQ.bind (m ls.length 0 (-1) (by omega) (.inr (jW _))) ?_;rintro⟨c,W⟩ ⟨k,rfl,f,B⟩;have b:k<lv.length:=by omega
   refine EvQ.bindN (qw b) (ih _ (by rw[qaY];exact A) ?_);have e:setS lv (k:Int) false=lv.set k false:=by unfold setS;rw[jp]
   rw[e];have z:lv[k]=true:=by rw[<-qeQ b];exact B
   have x:∀(xs:List Bool) (k:Nat) (f:k<xs.length),xs[k]=true->(xs.set k false).countP id+1=xs.countP id:=by
    intro xs
    induction xs with
    |nil=>intro k f;cases f
    |cons y xs ih3=>
     intro k f r;cases k with
     |zero=>
      have r:y=true:=r;subst r;simp
     |succ k=>
      have K:k<xs.length:=by simpa using f
      have:=ih3 k K (by simpa using r);rw[List.set_cons_succ,List.countP_cons,List.countP_cons];omega
   have:=x lv k b z;omega
end
theorem qrI{b:qd}(h:blockB b=true){x:qv}(c:x∈linksL b)(p:x.Au≠1) :
  ∃(m s:Nat) (t:Int),b01 t/\x.Be=2*(m:Int)+t/\x.To=2*(s:Int)+t/\(gt (places b.Aa) m).drives=true/\(gt (places b.Aa) s).drives=false:=by
 have o:=qan h;have r:=qfh h;unfold linksL at c;rcases List.mem_append.1 c with c|c
 ·obtain⟨i,hi,c⟩:=qnf c;obtain⟨a,u,c⟩:=qnf c;unfold arcLs at c;obtain⟨t,v,rfl⟩:=List.mem_map.1 c;exact absurd Z p
 ·obtain⟨i,hi,c⟩:=qnf c;obtain⟨k,f,c⟩:=qnf c;obtain⟨y,z,n,g⟩:=qn1 f;have d:=(qim o (k:=i) (by omega)).2;unfold wl1 at c;simp only[jK,jz,or_false] at c;have l:=(qlD.1 d).2;have d2:(gt (places b.Aa) y).drives=false:=by
   unfold snkQ at g;simp only[je,jA] at g;exact g.2
  rcases c with c|c
  ·exact⟨_,y,0,.inl Z,by rw[c,Jd],by rw[c,Jd,n],l,d2⟩
  ·exact⟨_,y,1,.inr Z,by rw[c],by rw[c,n],l,d2⟩
theorem qtC{b:qd}(h:blockB b=true):∀k a,k<(linksL b).length->a<(linksL b).length->(gt (linksL b) k).Au≠1->(gt (linksL b) a).Au≠1->toL (linksL b) k≠frL (linksL b) a:=by
 intro k a o f m n e;obtain⟨v,s,t,p,f1,A,u,d2⟩:=qrI h (qib o) m;obtain⟨d,y,z,g,l,r,c,i⟩:=qrI h (qib f) n;have x:(gt (linksL b) k).To=(gt (linksL b) a).Be:=e;have:s=d:=by rcases p with e|e<;>rcases g with e2|e2<;>omega
 rw[this,c] at d2;cases d2
theorem qv4{b:qd}(h:blockB b=true):EvQ (fun n=>qjK n b) (fun o=>okL okI o):=by
 have m:=qkr h;have l:=m.len;have k:=qk4 h;unfold qjK;refine EvQ.bindE (qjT h) (EvQ.bindE (qof l (by simp)) (EvQ.bindE k (EvQ.bind (qw8 m (qtC h) _ _ qkZ (Nat.lt_succ_self _)) (fun p t=>?_))));have c:∀d j a,j+d=(linksL b).length->a.length<=j->(∀y,y∈a->okI y)->EvQ (fun n=>qdK (lvB [] (linksL b).length) p n a (j:Int)) (fun o=>o.1.length<=10000/\∀y,y∈o.1->okI y):=by
  intro d
  induction d with
  |zero=>
   intro j a s g f;refine EvQ.succ ?_;simp only[qdK,qkZ];exact EvQ.ff (qq (by omega)) (EvQ.done ⟨by dsimp only;omega,f⟩)
  |succ d ih=>
   intro j a s g f;refine EvQ.succ ?_;simp only[qdK,qkZ,wS j];refine EvQ.tt (qp (by omega)) (EvQ.bindN (qw (show j<p.length by omega)) (EvQ.bif (fun _=>?_) (fun _=>ih (j+1) a (by omega) (by omega) f)));exact EvQ.bindN (qb1 (by omega)) (ih (j+1) _ (by omega) (by rw[jg,jh];omega) (qbp f (qaj (by omega) (by omega))))
 refine EvQ.bind (c (linksL b).length 0 [] (by omega) (jf _) (fun _ u=>by cases u)) ?_;rintro⟨a,i⟩ ⟨r,g⟩;exact EvQ.done ⟨by dsimp only at r⊢;omega,g⟩

section
variable{code:List (IntK .u8)}{a s:Int}
theorem qr8{α:Type}{P:α->Prop}{x y z:α}{i:Int}(d:0<=i)(f:i<3)(a:P x)(b:P y)(c:P z):∃v,idx [x,y,z] i=V v/\P v:=by
 have:i=0\/i=1\/i=2:=by omega
 rcases this with rfl|rfl|rfl
 ·exact⟨x,rfl,a⟩
 ·exact⟨y,rfl,b⟩
 ·exact⟨z,rfl,c⟩
theorem qlt{x:Int}(a:-2000000000<=x)(b:x<=2000000000):okI x:=qaj (by omega) (by omega)
theorem qwC(c:CodeOk code)(h:SrcI code a s):EvQ (fun n=>qgU n ⟨code,a,s⟩) (fun o=>qrg o.1/\SrcI code o.2.1 o.2.2):=by
 unfold qgU;refine EvQ.bind (qam 3 c h) ?_;rintro⟨M,N,O⟩ ⟨⟨⟨k,p1⟩,_⟩,b⟩;dsimp only at k p1 b⊢;obtain⟨Y,f,d⟩:=qr8 (P:=okS) (x:=(⟨#[115,108,111,119]⟩:ByteArray)) (y:=(⟨#[102,97,115,116]⟩:ByteArray)) (z:=(⟨#[116,121,112]⟩:ByteArray)) k (p1 (by decide)) (by show(4:Nat)<=1048576;decide) (by show(4:Nat)<=1048576;decide) (by show(3:Nat)<=1048576;decide);refine EvQ.bindN f (EvQ.bind (qam 20 c b) ?_);rintro⟨Q,R,S⟩ ⟨_,b⟩;refine EvQ.bind (qam 20 c b) ?_;rintro⟨T,W,X⟩ ⟨_,b⟩;refine EvQ.bind (qam 60 c b) ?_;rintro⟨p,r,t⟩ ⟨_,b⟩;refine EvQ.bind (qam 40 c b) ?_;rintro⟨u,v,A⟩ ⟨_,b⟩;refine EvQ.bind (qam 30 c b) ?_;rintro⟨B,C,D⟩ ⟨_,b⟩;dsimp only at b⊢;refine EvQ.bif (fun _=>EvQ.done ⟨⟨d,qaW _,qaW _,qaW _,qaW _⟩,b⟩) (fun _=>EvQ.bif (fun _=>EvQ.bind (qam 3 c b) ?_) (fun _=>EvQ.bif (fun _=>EvQ.bind (qam 2 c b) ?_) (fun _=>EvQ.bif (fun _=>EvQ.done ⟨⟨by show(0:Nat)<=1048576;decide,qaW _,qaW _,qaW _,qaW _⟩,b⟩) (fun _=>EvQ.done ⟨⟨d,qaW _,qaW _,qaW _,qaW _⟩,b⟩))))
 ·rintro⟨F,H,I⟩ ⟨⟨⟨l,m⟩,_⟩,b⟩;dsimp only at l m b⊢;obtain⟨e,g,i⟩:=qr8 (P:=okI) (x:=(99:Int)) (y:=100) (z:=-1) l (m (by decide)) (qlt (by decide) (by decide)) (qlt (by decide) (by decide)) (qlt (by decide) (by decide));exact EvQ.bindN g (EvQ.done ⟨⟨d,qaW _,qaW _,i,qaW _⟩,b⟩)
 ·rintro⟨J,K,L⟩ ⟨_,b⟩;exact EvQ.done ⟨⟨d,qaW _,qaW _,qaW _,qaW _⟩,b⟩
theorem qs5(d:CodeOk code)(h:SrcI code a s):EvQ (fun n=>qha n ⟨code,a,s⟩) (fun o=>BlkO o.1/\SrcI code o.2.1 o.2.2):=by
 unfold qha;refine EvQ.bind (qam 12 d h) ?_;rintro⟨k,l,m⟩ ⟨_,b⟩;dsimp only at b⊢;refine EvQ.bif (fun _=>EvQ.bind (qtl d b) ?_) (fun _=>EvQ.bif (fun _=>EvQ.bif (fun _=>EvQ.bind (qnv (by decide) (by decide) d b) ?_) (fun _=>EvQ.bind (qnv (by decide) (by decide) d b) ?_)) (fun _=>EvQ.bif (fun _=>EvQ.bind (qnv (by decide) (by decide) d b) ?_) (fun _=>EvQ.bind (qnv (by decide) (by decide) d b) ?_)))
 ·rintro⟨r,f,g⟩ i;exact EvQ.done i
 ·rintro⟨r,f,g⟩ ⟨c,b⟩;exact EvQ.done ⟨⟨c.ok,c.des.sm⟩,b⟩
 ·rintro⟨r,f,g⟩ ⟨c,b⟩;exact EvQ.done ⟨⟨c.ok,c.des.sm⟩,b⟩
 ·rintro⟨r,f,g⟩ ⟨c,b⟩;exact EvQ.done ⟨⟨c.ok,c.des.sm⟩,b⟩
 ·rintro⟨r,f,g⟩ ⟨c,b⟩;exact EvQ.done ⟨⟨c.ok,c.des.sm⟩,b⟩
theorem qvU{b:qd}(D:BlkO b)(k:CodeOk code)(h:SrcI code a s):EvQ (fun n=>qgP n ⟨code,a,s⟩ b) (fun o=>okL okI o.1/\SrcI code o.2.1 o.2.2):=by
 unfold qgP;refine EvQ.bind (R:=fun o:Int×Int×Bool=>SrcI code o.1 o.2.1/\(o.2.2=false->blockB b=true)) (EvQ.bindE (qeO D.ok) (EvQ.bif (fun _=>EvQ.done ⟨h,fun e=>by cases e⟩) (fun g=>EvQ.bind (qam 3 k h) ?_))) ?_
 ·rintro⟨X,Y,a3⟩ ⟨_,c⟩;exact EvQ.done ⟨c,fun _=>by simpa using g⟩
 rintro⟨i1,i2,b1⟩ ⟨c,g⟩;dsimp only at c g⊢;refine EvQ.bif (fun _=>EvQ.done ⟨⟨jW _,fun _ h=>by cases h⟩,c⟩) (fun u=>?_);have g:=g u;have I:=qkR g;refine EvQ.bindE (qjT g) (EvQ.bind (qam 8 k c) ?_);rintro⟨v,i4,i5⟩ ⟨⟨⟨p0,p1⟩,_⟩,c⟩;dsimp only at p0 p1 c⊢;have p2:=p1 (by decide);have z:W64 (1+v)=1+v:=qQ (by omega) (by omega);rw[z];refine EvQ.bind (qam _ k c) ?_;rintro⟨A,i7,i8⟩ ⟨⟨⟨q0,B⟩,_⟩,c⟩;dsimp only at q0 B c⊢;have q2:=B (by omega);obtain⟨j,rfl⟩:∃j:Nat,A=(j:Int):=⟨A.toNat,by omega⟩;have m:∀(d j:Nat) (x:List Int) (p r:Int),SrcI code p r->(linksL b).length<=j+d->x.length<=j->j<=(linksL b).length+8->(∀y,y∈x->okI y) ->
   EvQ (fun n=>qcA ⟨code,a,s⟩ (linksL b) v n x p r (j:Int)) (fun o=>(o.1.length<=20000/\∀y,y∈o.1->okI y)/\SrcI code o.2.1 o.2.2.1):=by
  intro d
  induction d with
  |zero=>
   intro j x p r c F J H f;refine EvQ.succ ?_;simp only[qcA];exact EvQ.ff (qq (by omega)) (EvQ.done ⟨⟨by dsimp only;omega,f⟩,c⟩)
  |succ d ih=>
   intro j x p r c F J H f;refine EvQ.succ ?_;simp only[qcA,z];refine EvQ.bif (fun l=>?_) (fun _=>EvQ.done ⟨⟨by dsimp only;omega,f⟩,c⟩);have l:j<(linksL b).length:=by have:=of_decide_eq_true l;omega
   refine EvQ.bindN (qb1 (by omega)) (EvQ.bind (qam _ k c) ?_);rintro⟨i,M,N⟩ ⟨⟨⟨t0,C⟩,_⟩,c⟩;dsimp only at t0 C c⊢;have t2:=C (by omega);have e1:W64 ((j:Int)+W64 (1+i))=((j+(1+i.toNat):Nat):Int):=by rw[wO (1+i),qQ (by omega) (by omega)];omega
   rw[e1];exact ih _ _ _ _ c (by omega) (by rw[jg,jh];omega) (by omega) (qbp f (qlt (by omega) (by omega)))
 refine EvQ.bind (m (linksL b).length j [] i7 i8 c (by omega) (jW _) (by omega) (fun _ h=>by cases h)) ?_;rintro⟨x1,i9,K,L⟩ ⟨⟨l1,t⟩,c⟩;dsimp only at l1 t c⊢;refine EvQ.bind (qam 12 k c) ?_;rintro⟨O,P,Q⟩ ⟨_,c⟩;dsimp only at c⊢;refine EvQ.bif (fun _=>EvQ.bind (qam 2 k c) ?_) (fun _=>EvQ.done ⟨⟨by dsimp only;omega,t⟩,c⟩);rintro⟨S,T,W⟩ ⟨_,c⟩;exact EvQ.bindN (qb1 (by omega)) (EvQ.done ⟨⟨by show(_++_:List Int).length<=_;rw[jg,jh];omega,qbp t (qaW _)⟩,c⟩)
theorem qrk{b:qd}(B:BlkO b)(p:CodeOk code)(h:SrcI code a s):EvQ (fun n=>qeA n ⟨code,a,s⟩ b) (fun o=>okL qiM o.1/\SrcI code o.2.1 o.2.2):=by
 have O:=qaV B.sm;have two:∀{I:Int} {b1:Bool} (d j:Nat) (x:List qf) (l m:Int),SrcI code l m->j+d=2->x.length+d<=1000->(∀y,y∈x->qiM y) ->
   EvQ (fun n=>qbP ⟨code,a,s⟩ I b1 n x l m (j:Int)) (fun o=>(o.1.length<=x.length+d/\∀y,y∈o.1->qiM y)/\SrcI code o.2.1 o.2.2.1):=by
  intro I b1 d
  induction d with
  |zero=>
   intro j x l m c C F f;obtain rfl:j=2:=by omega
   refine EvQ.succ ?_;simp only[qbP];exact EvQ.ff Z (EvQ.done ⟨⟨jf _,f⟩,c⟩)
  |succ d ih=>
   intro j x l m c C F f;refine EvQ.succ ?_;simp only[qbP,wS j];refine EvQ.tt (decide_eq_true (by omega)) (EvQ.bind (R:=fun o:Int×Int×Bool=>SrcI code o.1 o.2.1) (EvQ.bif (fun _=>EvQ.bind (qam 8 p c) ?_) (fun _=>EvQ.bind (qam 24 p c) ?_)) ?_)
   ·rintro⟨a6,a7,a8⟩ ⟨_,c⟩;refine EvQ.bif (fun _=>EvQ.done c) (fun _=>EvQ.bind (qam 24 p c) ?_);rintro⟨a9,b4,b5⟩ ⟨_,c⟩;exact EvQ.done c
   ·rintro⟨b6,b7,b8⟩ ⟨_,c⟩;exact EvQ.done c
   rintro⟨i7,i8,b2⟩ c;dsimp only at c⊢;refine EvQ.bif (fun _=>EvQ.bind (qam 200 p c) ?_) (fun _=>(ih (j+1) x i7 i8 c (by omega) (by omega) f).mono fun o t=>⟨⟨by have:=t.1.1;omega,t.1.2⟩,t.2⟩);rintro⟨i9,P,Q⟩ ⟨_,c⟩;refine EvQ.bind (qam 30 p c) ?_;rintro⟨H,S,T⟩ ⟨⟨⟨t0,L⟩,_⟩,c⟩;refine EvQ.bind (qam 40 p c) ?_;rintro⟨X,Y,e⟩ ⟨_,c⟩;refine EvQ.bind (qam 12 p c) ?_;rintro⟨a3,a4,a5⟩ ⟨_,c⟩;dsimp only at t0 L c⊢;have t2:=L (by decide);refine EvQ.bindN (qb1 (by omega)) ((ih (j+1) _ _ _ c (by omega) (by rw[jg,jh];omega) (qbp f ⟨qaW _,⟨qaW _,qaW _⟩,⟨qlt (x:=H) (by omega) (by omega),qaW _⟩⟩)).mono fun o t=>⟨⟨by have:=t.1.1;rw[jg,jh] at this;omega,t.1.2⟩,t.2⟩)
 unfold qeA;refine EvQ.bindE (qeO B.ok) (EvQ.bif (fun _=>EvQ.done ⟨⟨jW _,fun _ h=>by cases h⟩,h⟩) (fun _=>EvQ.bindE (qhH B.sm) ?_));have D:((places b.Aa).map toSp).length=(places b.Aa).length:=jt ..;generalize (places b.Aa).map toSp=ps at D⊢;have A:∀(d j:Nat) (x:List qf) (l m:Int),SrcI code l m->j+d=ps.length->x.length<=2*j->(∀y,y∈x->qiM y) ->
   EvQ (fun n=>qcl ⟨code,a,s⟩ ps n x l m (j:Int)) (fun o=>(o.1.length<=156/\∀y,y∈o.1->qiM y)/\SrcI code o.2.1 o.2.2.1):=by
  intro d
  induction d with
  |zero=>
   intro j x l m c C F f;refine EvQ.succ ?_;simp only[qcl];exact EvQ.ff (qq (by omega)) (EvQ.done ⟨⟨by dsimp only;omega,f⟩,c⟩)
  |succ d ih=>
   intro j x l m c C F f;have r:j<ps.length:=by omega
   refine EvQ.succ ?_;simp only[qcl,wS j];refine EvQ.tt (qp r) (EvQ.bind (R:=fun _=>True) (EvQ.bindN (qa4 r) (EvQ.bif (fun _=>EvQ.bindN (qa4 r) (EvQ.done trivial)) (fun _=>EvQ.done trivial))) (fun b1 _=>?_));refine EvQ.bind (two 2 0 x l m c Z (by omega) f) ?_;rintro⟨x2,i4,i5,i6⟩ ⟨⟨l2,N⟩,c⟩;exact ih (j+1) x2 i4 i5 c (by omega) (by dsimp only at l2;omega) N
 refine EvQ.bind (A ps.length 0 [] a s h (by omega) (jf _) (fun _ h=>by cases h)) ?_;rintro⟨J,i1,i2,I⟩ ⟨⟨l1,u⟩,c⟩;dsimp only at l1 u c⊢;refine EvQ.bif (fun g=>?_) (fun _=>EvQ.done ⟨⟨by dsimp only;omega,u⟩,c⟩);have g:0<J.length:=by have:=of_decide_eq_true g;omega
 refine EvQ.bind (qam _ p c) ?_;rintro⟨z,b9,c0⟩ ⟨⟨⟨q0,K⟩,_⟩,c⟩;dsimp only at q0 K c⊢;have q2:=K (by omega);obtain⟨k,rfl⟩:∃k:Nat,z=(k:Int):=⟨z.toNat,by omega⟩;have v:k<J.length:=by omega
 have i:=u _ (jo v);have M:=u _ (jo g);have W:∀{y:qf},qiM y->okL qiM (setS J (k:Int) y):=fun {y} h=>⟨by rw[qaY];omega,qio u h⟩;refine EvQ.bind (qam 30 p c) ?_;rintro⟨c2,c3,c4⟩ ⟨_,c⟩;dsimp only at c⊢;refine EvQ.bif (fun _=>EvQ.bindN (qa4 (j:=0) g) (EvQ.bindN (qa4 v) (EvQ.done ⟨W ⟨M.Bi,i.Af,i.Av⟩,c⟩))) (fun _=>EvQ.bif (fun _=>EvQ.bindN (qa4 v) (EvQ.bindN (qa4 v) (EvQ.done ⟨W ⟨i.Bi,⟨qaW _,i.Af.As⟩,i.Av⟩,c⟩))) (fun _=>EvQ.bif (fun _=>EvQ.bindN (qa4 v) (EvQ.done ⟨W ⟨i.Bi,i.Af,⟨qlt (x:=-1) (by decide) (by decide),i.Av.As⟩⟩,c⟩)) (fun _=>EvQ.bif (fun _=>EvQ.bindN (qa4 v) (EvQ.done ⟨W ⟨i.Bi,⟨i.Af.Ak,qlt (x:=1000000000) (by decide) (by decide)⟩,i.Av⟩,c⟩)) (fun _=>EvQ.done ⟨⟨by dsimp only;omega,u⟩,c⟩))))
structure CasI(b:qd)(c:qx)(br:List Int)(xs:List qf):Prop where
 bl:BlkO b
 co:qrg c
 br_:okL okI br
 sr:okL qiM xs
theorem qwf(d:CodeOk code)(h:SrcI code a s):EvQ (fun n=>qhW n ⟨code,a,s⟩) (fun o=>CasI o.1 o.2.1 o.2.2.1 o.2.2.2.1/\SrcI code o.2.2.2.2.1 o.2.2.2.2.2):=by
 unfold qhW;refine EvQ.bind (qs5 d h) ?_;rintro⟨r1,J,K⟩ ⟨c,b⟩;refine EvQ.bind (qwC d b) ?_;rintro⟨T,L,M⟩ ⟨f,b⟩;refine EvQ.bind (qam 3 d b) ?_;rintro⟨N,O,P⟩ ⟨_,b⟩;dsimp only at c f b⊢;refine EvQ.bind (R:=fun o:qd×Int×Int=>BlkO o.1/\SrcI code o.2.1 o.2.2) (EvQ.bif (fun _=>EvQ.bind (qnv (by decide) (by decide) d b) ?_) (fun _=>EvQ.done ⟨c,b⟩)) ?_
 ·rintro⟨r9,F,H⟩ ⟨c,b⟩;exact EvQ.done ⟨⟨c.ok,c.des.sm⟩,b⟩
 rintro⟨I,Q,S⟩ ⟨c,b⟩;dsimp only at c b⊢;refine EvQ.bind (qvU c d b) ?_;rintro⟨W,r,t⟩ ⟨g,b⟩;dsimp only at g b⊢;refine EvQ.bind (R:=fun o:Int×Int×Bool=>SrcI code o.1 o.2.1/\(o.2.2=true->blockB I=true)) (EvQ.bindE (qeO c.ok) (EvQ.bif (fun i=>EvQ.bif (fun _=>EvQ.bind (qam 6 d b) ?_) (fun _=>EvQ.done ⟨b,fun e=>by cases e⟩)) (fun _=>EvQ.done ⟨b,fun e=>by cases e⟩))) ?_
 ·rintro⟨B,C,D⟩ ⟨_,b⟩;exact EvQ.done ⟨b,fun _=>i⟩
 rintro⟨u,v,b1⟩ ⟨b,i⟩;dsimp only at b i⊢;refine EvQ.bif (fun k=>EvQ.bind (qv4 (i k)) (fun X l=>EvQ.bind (qrk c d b) ?_)) (fun _=>EvQ.bind (qrk c d b) ?_)
 ·rintro⟨Y,x,y⟩ ⟨m,b⟩;exact EvQ.done ⟨⟨c,f,l,m⟩,b⟩
 ·rintro⟨r7,z,A⟩ ⟨p,b⟩;exact EvQ.done ⟨⟨c,f,g,p⟩,b⟩
end

theorem qnG{p f mode:Int}(c:0<=p)(p1:p<=1000000)(a:0<=f)(f1:f<=5000):0<=divI (p*f) 1000 mode/\divI (p*f) 1000 mode<=5000000:=by
 have b:0<=p*f:=jV c a;have d:p*f<=1000000*5000:=jX p1 f1 a (by omega);exact qk3 (by omega) b (by omega)
theorem qpw{a b:Int}(d:0<b)(c:0<=a):divI a b 0<=divI a b 1:=by
 rw[qmo c d,qmo c d];rw[if_neg (by omega)];split<;>omega
theorem quI{a c b mode:Int}(d:0<b)(f:0<=a)(h:a<=c)(l:mode=0\/mode=1):divI a b mode<=divI c b mode:=by
 rw[qmo f d,qmo (by omega) d];have k:a / b<=c / b:=Int.ediv_le_ediv d h;rcases l with rfl|rfl
 ·rw[if_neg (by omega),if_neg (by omega)];exact k
 ·by_cases g:a % b > 0
  ·rw[if_pos ⟨rfl,g⟩];by_cases i:c % b > 0
   ·rw[if_pos ⟨rfl,i⟩];omega
   ·rw[if_neg (by omega)];have e1:=Int.mul_ediv_add_emod a b;have e2:=Int.mul_ediv_add_emod c b;have n1:=Int.emod_nonneg c (show b≠0 by omega);have z:c % b=0:=by omega
    refine Classical.byContradiction fun m=>?_;have:c / b=a / b:=by omega
    rw[this] at e2;omega
  ·rw[if_neg (by omega)];split<;>omega
theorem qtu{c:qx}(h:cornerB c=true){kind:Int}:∃f g:Int,(100<=f/\f<=g/\g<=5000)/\(∀n,qd2 n c kind 0=V f)/\∀n,qd2 n c kind 1=V g:=by
 unfold cornerB at h;simp only[je,qaK,decide_eq_true_eq] at h;obtain⟨⟨d,i,k,l⟩,_,a,b⟩:=h;unfold qd2;cases kind==1
 ·exact⟨c.Bf,c.Bh,⟨by omega,b,by omega⟩,fun _=>rfl,fun _=>rfl⟩
 ·exact⟨c.Bc,c.Bg,⟨by omega,a,by omega⟩,fun _=>rfl,fun _=>rfl⟩
theorem qqO{b:qd}{c:qx}(h:blockB b=true)(Q:cornerB c=true){k:Nat}(R:k<(linksL b).length){sl:Int}:∃D E:Int,(0<=D/\D<=E/\E<=5000000)/\Ev (fun n=>qbn n b c (gt (linksL b) k) sl 0) D/\Ev (fun n=>qbn n b c (gt (linksL b) k) sl 1) E:=by
 obtain⟨d,_⟩:=qfb h (qib R);generalize gt (linksL b) k=x at d;obtain⟨f,g,⟨X,f1,s⟩,I,J⟩:=qtu Q (kind:=x.Au);have H:∀{p q:Int},0<=p->p<=q->q<=1000000->divI (p*f) 1000 0<=divI (q*g) 1000 1:=fun {p q} r W Y=>by
  have P:p*f<=q*g:=jX W f1 (by omega) (by omega);have O:0<=p*f:=jV r (by omega);exact Int.le_trans (quI (by omega) O P (.inl Z)) (qpw (by omega) (by omega))
 rcases d with⟨i,j,m,net,a,d⟩|⟨j,net,q,d⟩
 ·have u:m<(gt (cellAt b (i:Int)).Aq a).Bo.length:=by rw[d.d2];exact d.ml
  obtain⟨T,A⟩:=d.dt _ (qib u);obtain⟨S,D,D0,S1,_,_,_,S0,o⟩:=qus T sl (load0 b net);obtain⟨B,r1⟩:=qk3 (mode:=0) D0 (S0 A) S1;obtain⟨K,L⟩:=qk3 (mode:=1) D0 (S0 A) S1;have z:=qpw (a:=S) D0 (S0 A);obtain⟨c1,_⟩:=qlI (mode:=0) B (by omega) (show 0<=f by omega) (by omega);obtain⟨t,_⟩:=qlI (mode:=1) K (by omega) (show 0<=g by omega) s;have l:(x.Au==1)=true:=by rw[d.kind];rfl
  refine⟨divI (divI S D 0*f) 1000 0,divI (divI S D 1*g) 1000 1,⟨(qnG B r1 (by omega) (by omega)).1,H B z L,(qnG K L (by omega) s).2⟩,?_,?_⟩
  ·unfold qbn;refine Ev.tt l (Ev.bind (qnx h d) ?_);simp only[d.mod,qw u,jd,I];exact Ev.bind (o 0).1 (Ev.bind ⟨0,fun n _=>c1 n⟩ .done)
  ·unfold qbn;refine Ev.tt l (Ev.bind (qnx h d) ?_);simp only[d.mod,qw u,jd,J];exact Ev.bind (o 1).1 (Ev.bind ⟨0,fun n _=>t n⟩ .done)
 ·have v:(exactL b net).length=(gt b.Ac net).Bb.length:=by unfold exactL;rw[jt]
  have F:q<(exactL b net).length:=by rw[v];exact d.kl
  obtain⟨C,x1⟩:=qoa h d.nl d.kl;obtain⟨r,p1⟩:=qk3 (a:=gt (exactL b net) q) (b:=1000) (mode:=0) (M:=344000) (by omega) C (by omega);obtain⟨N,e⟩:=qk3 (a:=gt (exactL b net) q) (b:=1000) (mode:=1) (M:=344000) (by omega) C (by omega);have y:=qpw (a:=gt (exactL b net) q) (b:=1000) (by omega) C;obtain⟨c1,_⟩:=qlI (mode:=0) r (by omega) (show 0<=f by omega) (by omega);obtain⟨t,_⟩:=qlI (mode:=1) N (by omega) (show 0<=g by omega) s;have l:(x.Au==1)=false:=by rw[d.kind];rfl
  have hi:∀mode:Int,idx ((exactL b net).map fun x=>divI x 1000 mode) (q:Int)=V (divI (gt (exactL b net) q) 1000 mode):=fun mode=>by
   rw[qw (by rw[jt];exact F),qn3 F]
  refine⟨divI (divI (gt (exactL b net) q) 1000 0*f) 1000 0,divI (divI (gt (exactL b net) q) 1000 1*g) 1000 1,⟨(qnG r (by omega) (by omega) (by omega)).1,H r y (by omega),(qnG N (by omega) (by omega) s).2⟩,?_,?_⟩
  ·unfold qbn;refine Ev.ff l (Ev.bind (qlG h d) (Ev.bind (qjw h d.nl) ?_));simp only[d.ix,hi,jd,I];exact Ev.bind ⟨0,fun n _=>c1 n⟩ .done
  ·unfold qbn;refine Ev.ff l (Ev.bind (qlG h d) (Ev.bind (qjw h d.nl) ?_));simp only[d.ix,hi,jd,J];exact Ev.bind ⟨0,fun n _=>t n⟩ .done
theorem qqq{b:qd}{c:qx}{f:Nat->qg->qg×qg}(h:blockB b=true)(l:cornerB c=true)(v:SpansS b c f){k:Nat}(a:k<(linksL b).length){s:qg}(o:slR s) :
  0<=(f k s).1.Ak/\(f k s).1.Ak<=(f k s).1.As/\(f k s).1.As<=5000000:=by
 have m:=(v k s a o).2;obtain⟨⟨e0,e1⟩,⟨l0,l1⟩⟩:=o;obtain⟨d,d2,⟨a1,a2,F⟩,p1,x⟩:=qqO h l a (sl:=s.Ak);obtain⟨g,i,⟨b1,b2,b3⟩,y,z⟩:=qqO h l a (sl:=s.As);obtain⟨_,⟨p,_,_,A,_⟩⟩:=qk8 h l a e0 e1 (mode:=0) (.inl Z);obtain⟨_,⟨r,_,_,B,_⟩⟩:=qk8 h l a e0 e1 (mode:=1) (.inr Z);obtain⟨_,⟨t,_,_,C,_⟩⟩:=qk8 h l a l0 l1 (mode:=0) (.inl Z);obtain⟨_,⟨u,_,_,D,_⟩⟩:=qk8 h l a l0 l1 (mode:=1) (.inr Z);have e:Ev (fun n=>qf2 n b c (gt (linksL b) k) s) (⟨if g<d then g else d,if i > d2 then i else d2⟩,⟨if t<p then t else p,if u > r then u else r⟩):=by
  unfold qf2;exact Ev.bind p1 (Ev.bind x (Ev.bind A (Ev.bind B (Ev.bind y (Ev.bind z (Ev.bind C (Ev.bind D .done)))))))
 rw[m.uniq e];refine⟨?_,?_,?_⟩
 ·show 0<=(if g<d then g else d);split<;>omega
 ·show(if g<d then g else d)<=(if i > d2 then i else d2);split<;>split<;>omega
 ·show(if i > d2 then i else d2)<=5000000;split<;>omega

def fE(f:Nat->qg->qg×qg)(e:Nat->Int)(k:Nat)(s:qg):qg×qg:=(wideS (e k) (f k s).1,(f k s).2)
structure Nest(x y:qg):Prop where
 e0:-5000000000<=y.Ak
 e1:y.Ak<=x.Ak
 el:x.Ak<=x.As
 l1:x.As<=y.As
 l0:y.As<=5000000000
theorem Nest.hull{x y a b:qg}(h:Nest x y)(c:Nest a b):Nest (hullS x a) (hullS y b):=by
 obtain⟨a0,a1,a2,d,f⟩:=h;obtain⟨b0,b1,b2,b3,g⟩:=c;constructor
 ·show -5000000000<=(if b.Ak<y.Ak then b.Ak else y.Ak);split<;>omega
 ·show(if b.Ak<y.Ak then b.Ak else y.Ak)<=(if a.Ak<x.Ak then a.Ak else x.Ak);split<;>split<;>omega
 ·show(if a.Ak<x.Ak then a.Ak else x.Ak)<=(if a.As > x.As then a.As else x.As);split<;>split<;>omega
 ·show(if a.As > x.As then a.As else x.As)<=(if b.As > y.As then b.As else y.As);split<;>split<;>omega
 ·show(if b.As > y.As then b.As else y.As)<=5000000000;split<;>omega
theorem qpr{s:qg}:spanB s=true↔(-1000000000<=s.Ak/\s.Ak<=s.As/\s.As<=1000000000):=by
 unfold spanB;simp only[je,qaK,decide_eq_true_eq];omega
theorem Nest.refl{x:qg}(h:spanB x=true):Nest x x:=by
 rw[qpr] at h;exact⟨by omega,by omega,by omega,by omega,by omega⟩
theorem Nest.plus{x y d:qg}{e1 e2:Int}(h:Nest x y)(a:spanB x=true)(b:spanB y=true)(g:0<=d.Ak)(i:d.Ak<=d.As)(d2:d.As<=5000000)(e0:0<=e1)(l:e1<=e2)(k:e2<=1000000000) :
  Nest (plusS x (wideS e1 d)) (plusS y (wideS e2 d)):=by
 rw[qpr] at a b;obtain⟨_,a1,_,f,_⟩:=h;have w1:plusS x (wideS e1 d)=⟨x.Ak+(d.Ak-e1),x.As+(d.As+e1)⟩:=by
  unfold plusS wideS;simp only;rw[wO (d.Ak-e1),wO (d.As+e1),qQ (by omega) (by omega),qQ (by omega) (by omega)]
 have c:plusS y (wideS e2 d)=⟨y.Ak+(d.Ak-e2),y.As+(d.As+e2)⟩:=by
  unfold plusS wideS;simp only;rw[wO (d.Ak-e2),wO (d.As+e2),qQ (by omega) (by omega),qQ (by omega) (by omega)]
 rw[w1,c];exact⟨by show -5000000000<=y.Ak+(d.Ak-e2);omega,by show y.Ak+(d.Ak-e2)<=x.Ak+(d.Ak-e1);omega,by show x.Ak+(d.Ak-e1)<=x.As+(d.As+e1);omega,by show x.As+(d.As+e1)<=y.As+(d.As+e2);omega,by show y.As+(d.As+e2)<=5000000000;omega⟩
structure NdR(s1 s2:Bool×qf):Prop where
 r:s1.1=s2.1
 sl:s1.2.Av=s2.2.Av
 ar:s1.1=true->Nest s1.2.Af s2.2.Af
structure Wd(t1 t2:qn)(M:Nat):Prop where
 o1:TmOk t1 M
 o2:TmOk t2 M
 r:∀k,k<M->gt t1.Ar k=gt t2.Ar k
 sl:∀k,k<M->gt t1.Av k=gt t2.Av k
 ar:∀k,k<M->gt t1.Ar k=true->spanB (gt t1.Af k)=true/\spanB (gt t2.Af k)=true/\Nest (gt t1.Af k) (gt t2.Af k)
section
variable{b:qd}{c:qx}{f:Nat->qg->qg×qg}{e1 e2:Nat->Int}{lv:List Bool}{xs:List qf}{t1 t2:qn}
theorem qtH(h:blockB b=true)(o:cornerB c=true)(r:SpansS b c f)(p:∀k,0<=e1 k/\e1 k<=e2 k/\e2 k<=1000000000)(i:Wd t1 t2 (2*(places b.Aa).length)){node:Int}{s1 s2:Bool×qf}(g:NdR s1 s2){k:Nat}(l:k<(linksL b).length) :
  NdR (stepS (fE f e1) (linksL b) t1 node s1 k) (stepS (fE f e2) (linksL b) t2 node s2 k):=by
 have a:frN (linksL b) k<2*(places b.Aa).length:=by
  have:=(qfb h (qib l)).2.1;unfold frN;omega
 unfold stepS;rw[<-i.r _ a,<-i.sl _ a];cases hr:gt t1.Ar (frN (linksL b) k)
 ·exact g
 ·obtain⟨a1,a2,n⟩:=i.ar _ a hr;obtain⟨s,t,u⟩:=qqq h o r l (i.o1.sl _ a);obtain⟨v,x,y⟩:=p k;have m:=n.plus (d:=(f k (gt t1.Av (frN (linksL b) k))).1) a1 a2 s t u v x y;show NdR (joinS node s1 (plusS _ (wideS (e1 k) _)) (f k (gt t1.Av (frN (linksL b) k))).2) (joinS node s2 (plusS _ (wideS (e2 k) _)) (f k (gt t1.Av (frN (linksL b) k))).2);unfold joinS;rw[<-g.r];cases h1:s1.1
  ·exact⟨rfl,rfl,fun _=>m⟩
  ·exact⟨rfl,by show hullS s1.2.Av _=hullS s2.2.Av _;rw[g.sl],fun _=>(g.ar h1).hull m⟩
theorem qvL(h:blockB b=true)(a:cornerB c=true)(g:SpansS b c f)(d:∀k,0<=e1 k/\e1 k<=e2 k/\e2 k<=1000000000)(l:Wd t1 t2 (2*(places b.Aa).length)){node:Int}{s:Bool×qf}(i:NdR s s) :
  ∀j,j<=(linksL b).length->NdR (ndS (fE f e1) (linksL b) lv t1 node s j) (ndS (fE f e2) (linksL b) lv t2 node s j):=by
 intro j
 induction j with
 |zero=>intro _;exact i
 |succ j ih=>
  intro m;show NdR (bif toQ (linksL b) lv node j then _ else _) (bif toQ (linksL b) lv node j then _ else _);cases toQ (linksL b) lv node j
  ·exact ih (by omega)
  ·exact qtH h a g d l (ih (by omega)) (by omega)
theorem qte(h:blockB b=true)(D:cornerB c=true)(v:SpansS b c f)(F:∀k,0<=e1 k/\e1 k<=e2 k/\e2 k<=1000000000)(C:SrcOk xs)(A:∀x,x∈xs->spanB x.Af=true) :
  ∀(R:List Nat) (t1 t2 l:qn),(∀k,k∈R->k<2*(places b.Aa).length)->Wd t1 t2 (2*(places b.Aa).length)->rnO (fE f e2) (linksL b) lv xs R t2=V l ->
   ∃t1',rnO (fE f e1) (linksL b) lv xs R t1=V t1'/\Wd t1' l (2*(places b.Aa).length):=by
 intro R
 induction R with
 |nil=>intro t1 t2 l _ a e;obtain rfl:=Option.some.inj e;exact⟨t1,rfl,a⟩
 |cons k R ih=>
  intro t1 t2 l u a e;have g:=u k (js ..);have z:NdR (srcV (srcO xs (k:Int))) (srcV (srcO xs (k:Int))):=⟨rfl,rfl,fun t=>by
   cases ho:srcO xs (k:Int) with
   |none=>rw[ho] at t;cases t
   |some y=>exact Nest.refl (A y (qlS ho).2)⟩
  have m:=qvL (lv:=lv) (node:=(k:Int)) h D v F a z (linksL b).length (jf _);have r:=qkx (f:=fE f e1) (lv:=lv) (node:=(k:Int)) h v (fun _ _=>rfl) a.o1 C (linksL b).length (jf _);have s:=qkx (f:=fE f e2) (lv:=lv) (node:=(k:Int)) h v (fun _ _=>rfl) a.o2 C (linksL b).length (jf _);unfold rnO at e⊢;generalize ndS (fE f e1) (linksL b) lv t1 (k:Int) (srcV (srcO xs (k:Int))) (linksL b).length=s1 at m r⊢;generalize ndS (fE f e2) (linksL b) lv t2 (k:Int) (srcV (srcO xs (k:Int))) (linksL b).length=s2 at m s e;rw[m.r];cases h1:s2.1
  ·rw[h1] at e;exact ih _ _ _ (fun i hi=>u i (jq _ hi)) a e
  ·rw[h1] at e;have p:=m.ar (by rw[m.r];exact h1);cases h2:spanB s2.2.Af
   ·rw[h2] at e;cases e
   ·rw[h2] at e;have B:spanB s1.2.Af=true:=by
     rw[qpr] at h2⊢;obtain⟨_,a1,a2,H,_⟩:=p;omega
    rw[B];refine ih _ _ _ (fun i hi=>u i (jq _ hi)) ⟨qnA a.o1 g r,qnA a.o2 g s,fun j o=>?_,fun j o=>?_,fun j o t=>?_⟩ e
    ·show gt (setS _ _ _) j=gt (setS _ _ _) j;rw[qec (by rw[a.o1.r];exact g),qec (by rw[a.o2.r];exact g)];split
     ·exact m.r
     ·exact a.r j o
    ·show gt (setS _ _ _) j=gt (setS _ _ _) j;rw[qec (by rw[a.o1.s];exact g),qec (by rw[a.o2.s];exact g)];split
     ·exact m.sl
     ·exact a.sl j o
    ·have n:gt (setS t1.Ar (k:Int) s1.1) j=true:=t;rw[qec (by rw[a.o1.r];exact g)] at n;show spanB (gt (setS _ _ _) j)=true/\spanB (gt (setS _ _ _) j)=true/\Nest (gt (setS _ _ _) j) (gt (setS _ _ _) j);rw[qec (by rw[a.o1.a];exact g),qec (by rw[a.o2.a];exact g)];by_cases d:j=k
     ·rw[if_pos d,if_pos d];exact⟨B,h2,p⟩
     ·rw[if_neg d,if_neg d];rw[if_neg d] at n;exact a.ar j o n
theorem Wd.start{M:Nat}:Wd (zTm M) (zTm M) M:=⟨qm9,qm9,fun _ _=>rfl,fun _ _=>rfl,fun k b a=>by
 have:gt (zTm M).Ar k=false:=qqc b;rw[this] at a;cases a⟩
end

theorem qtz(x:Int):W64 x=(x+9223372036854775808) % 18446744073709551616-9223372036854775808:=by
 unfold W64;rw[Go.IntWalk.i64_left];unfold RowKit.wrap64
 rfl
theorem qtM{a d e:Int}:W64 (W64 (a+d)-e)=W64 (a+W64 (d-e)):=by
 simp only[qtz];omega
theorem quZ{a d e:Int}:W64 (W64 (a+d)+e)=W64 (a+W64 (d+e)):=by
 simp only[qtz];omega
theorem qrK{x:Int}:W64 (W64 x)=W64 x:=by
 simp only[qtz];omega
section
variable{b:qd}{c:qx}{ex:List Int}{f:Nat->qg->qg×qg}{lv:List Bool}{t:qn}{xs:List qf}{node:Int}
theorem qxf{xs:List qf}{node:Int}(h:SrcOk xs) :
  Ev (fun n=>qes xs node n 0 0 0 0 0 false 0) ((srcV (srcO xs node)).2.Bi,(srcV (srcO xs node)).2.Af.Ak,(srcV (srcO xs node)).2.Af.As,(srcV (srcO xs node)).2.Av.Ak,(srcV (srcO xs node)).2.Av.As,(srcV (srcO xs node)).1,(xs.length:Int)):=by
 have e:∀n i1 i2 i3 i4 i5 b1 i6,qes xs node n i1 i2 i3 i4 i5 b1 i6=qdo xs node n i1 i2 i3 i4 i5 b1 i6:=by
  intro n
  induction n with
  |zero=>intros;rfl
  |succ n ih=>intros;simp only[qes,qdo,ih]
 simp only[e];exact qwR h
theorem qwh(h:blockB b=true)(r:ex.length=b.Ac.length){k:Nat}(s:k<(linksL b).length){q:qg×qg}(v:q=f k (gt t.Av (frN (linksL b) k)))(a:qg) :
  ∃e:Int,Ev (fun n=>bif ((gt (linksL b) k).Au==2) then(qhI n b (gt (linksL b) k)).bind fun x=>(idx ex x).bind fun l=>V l else V 0) e /\
   (⟨W64 (W64 (a.Ak+q.1.Ak)-e),W64 (W64 (a.As+q.1.As)+e)⟩:qg)=plusS a (wideF b ex f k (gt t.Av (frN (linksL b) k))).1/\q.2=(wideF b ex f k (gt t.Av (frN (linksL b) k))).2:=by
 subst v;obtain⟨d,_,p⟩:=qfb h (qib s);unfold wideF exK;rcases d with⟨i,j,m,net,y,hx⟩|⟨j,net,y,hx⟩
 ·have c:((gt (linksL b) k).Au==2)=false:=by rw[hx.kind];rfl
  rw[c,Bool.and_false];refine⟨0,.done,?_,rfl⟩;unfold plusS;simp only[Int.sub_zero,Jd,cond_false];rw[qrK,qrK]
 ·have c:((gt (linksL b) k).Au==2)=true:=by rw[hx.kind];rfl
  have g:net<ex.length:=by have:=hx.nl;omega
  have u:=qaV (qY (qan h));have o:((gt (linksL b) k).To / 2).toNat=j:=by
   have:=hx.half;rw[jD p.1,qQ (by omega) (by omega)] at this;omega
  rw[c,decide_eq_true (show 0<ex.length by omega),Bool.and_true,o,hx.net_,jp];refine⟨gt ex net,Ev.bind (qlG h hx) ?_,?_,rfl⟩
  ·rw[qw g];exact .done
  ·simp only[cond_true];unfold plusS wideS;rw[qtM,quZ]
theorem qvr(h:blockB b=true)(x:SpansS b c f)(k:ex.length=b.Ac.length)(B:lv.length=(linksL b).length)(i:TmOk t (2*(places b.Aa).length))(z:SrcOk xs) :
  Ev (fun n=>qji n b c (linksL b) lv xs ex t node) (ndS (wideF b ex f) (linksL b) lv t node (srcV (srcO xs node)) (linksL b).length):=by
 have m:=qkr h;have y:=m.len;obtain⟨g,l⟩:∃g,g=wideF b ex f:=⟨_,rfl⟩;have v:=loopF (τ:=Bool×qf) (Lf:=fun n s j=>qds b c (linksL b) lv ex t node n s.2.Bi s.2.Af.Ak s.2.Af.As s.2.Av.Ak s.2.Av.As s.1 j) (S:=fun j=>ndS g (linksL b) lv t node (srcV (srcO xs node)) j) (len:=(linksL b).length)
  (fin:=(fun s:Bool×qf=>(s.2.Bi,s.2.Af.Ak,s.2.Af.As,s.2.Av.Ak,s.2.Av.As,s.1,((linksL b).length:Int))) (ndS g (linksL b) lv t node (srcV (srcO xs node)) (linksL b).length))
  (fun n=>by simp only[qds,qq (jf _),cond_false])
  (fun j d X a=>by
   obtain⟨e1,e2⟩:=qrU m d;have u:ndS g (linksL b) lv t node (srcV (srcO xs node)) (j+1)=bif toQ (linksL b) lv node j then stepS g (linksL b) t node (ndS g (linksL b) lv t node (srcV (srcO xs node)) j) j else ndS g (linksL b) lv t node (srcV (srcO xs node)) j:=rfl;rw[u] at a;generalize ndS g (linksL b) lv t node (srcV (srcO xs node)) j=s at a⊢;simp only[qds,qp d,cond_true,qw d,qw (show j<lv.length by omega),jd,e1,qw (show frN (linksL b) j<t.Ar.length by rw[i.r];exact e2),qw (show frN (linksL b) j<t.Af.length by rw[i.a];exact e2),qw (show frN (linksL b) j<t.Av.length by rw[i.s];exact e2),wS j];unfold toQ lvL toL at a;cases h1:gt lv j
   ·rw[h1] at a;exact a
   rw[h1,jy] at a;cases h2:(gt (linksL b) j).To==node
   ·rw[h2] at a;simp only[bne,h2];exact a
   rw[h2] at a;simp only[bne,h2];unfold stepS at a;cases h3:gt t.Ar (frN (linksL b) j)
   ·rw[h3] at a;exact a
   rw[h3] at a;simp only[cond_true] at a;obtain⟨_,s1⟩:=x j _ d (i.sl _ e2);obtain⟨q,o⟩:∃q,q=f j (gt t.Av (frN (linksL b) j)):=⟨_,rfl⟩;obtain⟨e,A,p,r⟩:=qwh h k d o (gt t.Af (frN (linksL b) j));rw[<-o] at s1;rw[<-l] at p r;rw[<-p,<-r] at a;refine Ev.bind (b:=false) (Ev.now Z) (Ev.ff Z (Ev.bind s1 (Ev.bind A ?_)));unfold joinS at a;cases h4:s.1
   ·rw[h4] at a;exact a
   ·rw[h4] at a;simp only[qjm,jd,cond_true];have a1:=qrv (s:=s.2.Af) (t:=(⟨W64 (W64 ((gt t.Af (frN (linksL b) j)).Ak+q.1.Ak)-e),W64 (W64 ((gt t.Af (frN (linksL b) j)).As+q.1.As)+e)⟩:qg));have a2:=qrv (s:=s.2.Av) (t:=q.2);simp only[cond_true] at a;rw[<-a1,<-a2] at a;exact a)
 rw[<-l];unfold qji;exact Ev.bind (qxf z) (Ev.bind v .done)
theorem qwN{br:List Int}(h:blockB b=true)(F:SpansS b c f)(y:ex.length=b.Ac.length)(x:br.length<=1048576)(H:SrcOk xs){R:List Nat}(I:∀k,k∈R->k<2*(places b.Aa).length)(J:R.length<=1000) :
  Ev (fun n=>qhx n b c br xs ex (ints R)) (runR (rnO (wideF b ex f) (linksL b) (lvJ b br) xs R (zTm (2*(places b.Aa).length)))):=by
 have N:=qaV (qY (qan h));have m:=qk4 h;have z:=qkR h;have Q:=qof (ls:=linksL b) (br:=br) z x;have L:(lvJ b br).length=(linksL b).length:=qkZ;have C:∀k s,(wideF b ex f k s).2=(f k s).2:=fun k s=>by
  unfold wideF;cases decide (0<ex.length)&&((gt (linksL b) k).Au==2)<;>rfl
 obtain⟨M,u⟩:∃M,M=2*(places b.Aa).length:=⟨_,rfl⟩;have S:M<=156:=by omega
 have r:∀d j t,j+d=R.length->TmOk t M->Ev (fun n=>qcC b c xs ex (ints R) (linksL b) (lvJ b br) n t.Av t.Af t.Ar (j:Int)) (runL (rnO (wideF b ex f) (linksL b) (lvJ b br) xs (R.drop j) t) R.length):=by
  intro d
  induction d with
  |zero=>
   intro j t K g;obtain rfl:j=R.length:=by omega
   rw[List.drop_length];refine Ev.succ ?_;simp only[qcC,qbv,qq (jf _),cond_false];exact .done
  |succ d ih=>
   intro j t K g;have a:j<R.length:=by omega
   have l:=I _ (jo a);have hi:=qoL a;have D:R.drop j=R[j]::R.drop (j+1):=jM a;generalize R[j]=k at l hi D;rw[<-u] at l;have v:=qvr (node:=(k:Int)) h F y L (by rw[<-u];exact g) H;have p:=qkx (node:=(k:Int)) (lv:=lvJ b br) h F C (by rw[<-u];exact g) H (linksL b).length (jf _);have P:idx t.Ar (k:Int)=V (gt t.Ar k):=qw (by rw[g.r];exact l);have O:idx t.Af (k:Int)=V (gt t.Af k):=qw (by rw[g.a];exact l);have is:idx t.Av (k:Int)=V (gt t.Av k):=qw (by rw[g.s];exact l);have i:∀n,qcC b c xs ex (ints R) (linksL b) (lvJ b br) (n+1) t.Av t.Af t.Ar (j:Int)=(qji n b c (linksL b) (lvJ b br) xs ex t (k:Int)).bind fun(r4,r5)=>bif (!r4) then qcC b c xs ex (ints R) (linksL b) (lvJ b br) n t.Av t.Af t.Ar ((j+1:Nat):Int) else bif (!spanB r5.Af) then V (.ret (zT,false)) else
     qcC b c xs ex (ints R) (linksL b) (lvJ b br) n (setS t.Av (k:Int) r5.Av) (setS t.Af (k:Int) r5.Af) (setS t.Ar (k:Int) true) ((j+1:Nat):Int):=fun n=>by
    simp only[qcC,qbv,qp a,cond_true,hi,jd,qqS,P,O,is,wS j]
    rfl
   rw[D];unfold rnO;generalize ndS (wideF b ex f) (linksL b) (lvJ b br) t (k:Int) (srcV (srcO xs (k:Int))) (linksL b).length=s at v p⊢;obtain⟨s1,s2⟩:=s;cases s1
   ·exact Ev.step i (Ev.bind v (ih (j+1) t (by omega) g))
   ·cases hsp:spanB s2.Af
    ·refine Ev.step i (Ev.bind v ?_);simp only[hsp];exact .done
    ·refine Ev.step i (Ev.bind v ?_);simp only[hsp];exact ih (j+1) (setT t k (true,s2)) (by omega) (qnA g l p)
 have A:mkS (M:Int) false=V (List.replicate M false):=qkk (by omega);have B:mkS (M:Int) (⟨0,0⟩:qg)=V (List.replicate M zSp):=qkk (by omega);have o2:=r R.length 0 (zTm M) (by omega) qm9;rw[List.drop_zero] at o2;rw[<-u] at m⊢;unfold qhx qls;refine Ev.bind (qjT h) (Ev.bind Q (Ev.bind m ?_));simp only[A,B,jd];refine Ev.bind o2 ?_;cases rnO (wideF b ex f) (linksL b) (lvJ b br) xs R (zTm M)<;>exact .done
end

instance:Inhabited qi:=⟨⟨0,0,0⟩⟩
def cplB(b:qd)(y:qi):Bool:=netB b.Aa y.A&&(netB b.Aa y.B&&(decide (y.A<y.B)&&inI y.Bp 1 10000))
def ltC(x y:qi):Bool:=decide (x.A<y.A) || ((x.A==y.A)&&decide (x.B<y.B))
def cplsB(b:qd)(ks:List qi):Bool:=allN (fun j=>cplB b (gt ks j)&&(decide (j=0) || ltC (gt ks (j-1)) (gt ks j))) ks.length&&decide (ks.length<=20)
def cmp3(x y:Int):Int:=if x<y then -1 else if x > y then 1 else 0
theorem qxJ{n:Nat}{x y:Int}:qfK n x y=V (cmp3 x y):=by
 simp only[qfK,qet,bne_self_eq_false,jd,cond_false];unfold cmp3;by_cases a:x<y
 ·simp[a]
 ·by_cases b:x > y
  ·simp[a,b]
  ·simp[a,b]
theorem or3{x y:Int}{n:Nat}:qif [x,y] (n+3) 0=bif x != 0 then V (.ret x) else bif y != 0 then V (.ret y) else V (.nxt 2):=rfl
theorem qyk{x y:Int}:Ev (fun n=>qmt n [x,y]) (if x=0 then y else x):=by
 unfold qmt;refine Ev.bind (b:=bif x != 0 then .ret x else bif y != 0 then .ret y else .nxt 2) (Ev.succ (Ev.succ (Ev.succ ?_))) ?_
 ·refine⟨0,fun n _=>?_⟩;show qif [x,y] (n+3) 0=_;rw[or3];cases (x != 0)<;>cases (y != 0)<;>rfl
 ·by_cases a:x=0
  ·subst a;by_cases c:y=0
   ·subst c;exact .done
   ·have:(y != 0)=true:=by simpa using c
    rw[this];exact .done
  ·have:(x != 0)=true:=by simpa using a
   rw[this,if_neg a];exact .done
theorem qxR{x y:qi}:decide ((if cmp3 x.A y.A=0 then cmp3 x.B y.B else cmp3 x.A y.A)>=0) = !ltC x y:=by
 unfold cmp3 ltC;by_cases b:x.A<y.A
 ·simp[b]
 ·by_cases d:x.A > y.A
  ·have:¬ x.A=y.A:=by omega
   simp[b,d,this]
  ·have:x.A=y.A:=by omega
   rw[this];by_cases a:x.B<y.B
   ·simp[a]
   ·by_cases c:x.B > y.B
    ·simp[a,c]
    ·simp[a,c]
theorem qg0{b:qd}{ks:List qi}(i:b.Aa.Ah.length<=1048576)(k:ks.length<=1048576):Ev (fun n=>qbE n b ks) (cplsB b ks):=by
 have h:Ev (fun n=>qa6 b ks n 0) (bif allN (fun j=>cplB b (gt ks j)&&(decide (j=0) || ltC (gt ks (j-1)) (gt ks j))) ks.length then .nxt (ks.length:Int) else .ret false):=by
  refine qer ?_ (fun j c X a=>Ev.succ ?_)
  ·exact Ev.succ (by simp only[qa6,qq (jf _),cond_false];exact .done)
  ·simp only[qa6,qp c,cond_true,qw c,jd,wS j,qqx (d:=⟨b.Aa.Ab,b.Aa.Ah,b.Aa.Ai⟩) i,qdE,qxJ,qb6];refine Ev.chkT ?_ fun _=>?_
   ·unfold cplB;refine Ev.orBP fun _=>Ev.orBP fun _=>?_;rw[show decide ((gt ks j).A>=(gt ks j).B) = !decide ((gt ks j).A<(gt ks j).B) by rw[jj];simp,qb6];exact Ev.orBP fun _=>.done
   ·by_cases g:j=0
    ·subst g;exact Ev.ff (by decide) a
    ·have e2:decide (j=0)=false:=by simp;omega
     have f:decide ((j:Int) > 0)=true:=by simp;omega
     rw[e2,f,qd0 (show j<=9223372036854775807 by omega),show(j:Int)-1=((j-1:Nat):Int) by omega,qw (show j-1<ks.length by omega)];simp only[cond_true,jd,Ji];refine Ev.bind qyk ?_;rw[qxR];simp only[qb6];exact Ev.okP1 fun _=>a
 unfold qbE cplsB;refine Ev.bind h ?_;cases allN (fun j=>cplB b (gt ks j)&&(decide (j=0) || ltC (gt ks (j-1)) (gt ks j))) ks.length
 ·exact .done
 ·refine Ev.now ?_;show V (decide ((ks.length:Int)<=((20:Nat):Int)))=V (true&&decide (ks.length<=20));rw[qld,jy]
theorem qiv{b:qd}{ks:List qi}(o:b.Aa.Ah.length<=1048576)(p:ks.length<=1048576):Ev (fun n=>qc5 n b ks) (cplsB b ks):=by
 have m:Ev (fun n=>qbL b ks n 0) (bif allN (fun j=>cplB b (gt ks j)&&(decide (j=0) || ltC (gt ks (j-1)) (gt ks j))) ks.length then .nxt (ks.length:Int) else .ret false):=by
  refine qer ?_ (fun j g X f=>Ev.succ ?_)
  ·exact Ev.succ (by simp only[qbL,qq (jf _),cond_false];exact .done)
  ·simp only[qbL,qp g,cond_true,qw g,jd,wS j,qoZ o,qc1,qd0 (show b.Aa.Ah.length<=9223372036854775807 by omega)];rw[show inI (gt ks j).A 0 ((b.Aa.Ah.length:Int)-1)=netB b.Aa (gt ks j).A from rfl];refine Ev.chkT ?_ fun _=>?_
   ·unfold cplB;simp only[qb6];refine Ev.orBP fun k=>?_;have l:0<=(gt ks j).A/\(gt ks j).A<=(b.Aa.Ah.length:Int)-1:=qaK.1 k;rw[qQ (show -9223372036854775808<=(gt ks j).A+1 by omega) (by omega)];rw[<-Bool.and_assoc];have e:inI (gt ks j).B ((gt ks j).A+1) ((b.Aa.Ah.length:Int)-1)=(netB b.Aa (gt ks j).B&&decide ((gt ks j).A<(gt ks j).B)):=by
     unfold netB inI;rw[jj];simp;omega
    rw[e];exact Ev.orBP fun _=>.done
   ·by_cases i:j=0
    ·subst i;exact Ev.ff (by decide) f
    ·have e2:decide (j=0)=false:=by simp;omega
     have h:decide ((j:Int) > 0)=true:=by simp;omega
     rw[e2,h,qd0 (show j<=9223372036854775807 by omega),show(j:Int)-1=((j-1:Nat):Int) by omega,qw (show j-1<ks.length by omega)];simp only[cond_true,jd,Ji];unfold ltC;by_cases d:(gt ks (j-1)).A > (gt ks j).A
     ·have a:¬ (gt ks (j-1)).A<(gt ks j).A:=by omega
      have c:¬ (gt ks (j-1)).A=(gt ks j).A:=by omega
      simp only[d,a,c,decide_true,decide_false,cond_true,Ji,beq_eq_false_iff_ne.2 c,Bool.false_and,cond_false];exact .done
     ·by_cases c:(gt ks (j-1)).A=(gt ks j).A
      ·have a:¬ (gt ks (j-1)).A<(gt ks j).A:=by omega
       simp only[d,a,decide_false,cond_false,Ji,beq_iff_eq.2 c,cond_true,jy];rw[show decide ((gt ks (j-1)).B>=(gt ks j).B) = !decide ((gt ks (j-1)).B<(gt ks j).B) by rw[jj];simp];simp only[qb6];exact Ev.okP1 fun _=>f
      ·have a:(gt ks (j-1)).A<(gt ks j).A:=by omega
       simp only[d,a,decide_false,decide_true,cond_false,beq_eq_false_iff_ne.2 c,Bool.true_or,cond_true];exact f
 unfold qc5 cplsB;refine Ev.bind m ?_;cases allN (fun j=>cplB b (gt ks j)&&(decide (j=0) || ltC (gt ks (j-1)) (gt ks j))) ks.length
 ·exact .done
 ·refine Ev.now ?_;show V (decide ((ks.length:Int)<=((20:Nat):Int)))=V (true&&decide (ks.length<=20));rw[qld,jy]

def TmL(t:qn)(M:Nat):Prop:=t.Ar.length=M/\t.Af.length=M
def winO(t:qn)(m:Nat):qg×Bool:=
 bif gt t.Ar m then bif gt t.Ar (m+1) then(hullS (gt t.Af m) (gt t.Af (m+1)),true) else(gt t.Af m,true) else bif gt t.Ar (m+1) then(gt t.Af (m+1),true) else(zSp,false)
def winB(b:qd)(t:qn)(net:Int):qg×Bool:=winO t (2*dvN b.Aa net.toNat)
section
variable{b:qd}{t:qn}{net:Int}
theorem qr3(h:blockB b=true)(a:netB b.Aa net=true):∃k:Nat,net=(k:Int)/\k<b.Aa.Ah.length/\dvN b.Aa k<(places b.Aa).length/\(places b.Aa).length<=78/\(gt (places b.Aa) (dvN b.Aa k)).net=net/\(gt (places b.Aa) (dvN b.Aa k)).drives=true:=by
 unfold netB at a;rw[qaK] at a;have c:net.toNat<b.Aa.Ah.length:=by omega
 obtain⟨d,f⟩:=qim (qan h) c;obtain⟨g,i⟩:=qlD.1 f;exact⟨net.toNat,qdu a.1,c,d,qaV (qY (qan h)),by rw[g];exact(qdu a.1).symm,i⟩
theorem qp9(h:blockB b=true)(i:TmL t (ndB b))(f:netB b.Aa net=true):Ev (fun n=>qho n b t net) (winB b t net):=by
 obtain⟨k,rfl,o,a,g,c,d⟩:=qr3 h f;obtain⟨p,r⟩:=i;have l:ndB b=2*(places b.Aa).length:=rfl;unfold qho winB;rw[jp];refine Ev.bind (qoG h a c d) ?_;generalize dvN b.Aa k=m at a;have e1:W64 (2*(m:Int))=((2*m:Nat):Int):=by rw[qQ (by omega) (by omega)];omega
 have e2:W64 (((2*m:Nat):Int)+1)=((2*m+1:Nat):Int):=by rw[qQ (by omega) (by omega)];omega
 simp only[e1,e2,qw (show 2*m<t.Ar.length by omega),qw (show 2*m+1<t.Ar.length by omega),qw (show 2*m<t.Af.length by omega),qw (show 2*m+1<t.Af.length by omega),jd];unfold winO;cases gt t.Ar (2*m)<;>cases gt t.Ar (2*m+1)<;>exact .done
theorem quC{m:Nat}(b:m+1<t.Ar.length)(c:m+1<t.Af.length):Ev (fun n=>qlg n t [(m:Int),((m+1:Nat):Int)]) (winO t m):=by
 have d:decide ((0:Int)<(([(m:Int),((m+1:Nat):Int)]:List Int).length:Int))=true:=rfl;have d2:decide ((1:Int)<(([(m:Int),((m+1:Nat):Int)]:List Int).length:Int))=true:=rfl;have a:decide ((2:Int)<(([(m:Int),((m+1:Nat):Int)]:List Int).length:Int))=false:=rfl;have g:idx [(m:Int),((m+1:Nat):Int)] 0=V (m:Int):=rfl;have h:idx [(m:Int),((m+1:Nat):Int)] 1=V ((m+1:Nat):Int):=rfl;have w1:W64 (0+1)=1:=rfl;have f:W64 (1+1)=2:=rfl;unfold qlg winO;cases r1:gt t.Ar m<;>cases r2:gt t.Ar (m+1)<;>refine⟨3,fun n i=>?_⟩<;>obtain⟨n,rfl⟩:∃k,n=k+3:=⟨n-3,by omega⟩ <;>
  simp only[qhC,d,d2,a,g,h,w1,f,cond_true,cond_false,jd,qw (show m<t.Ar.length by omega),qw b,qw (show m<t.Af.length by omega),qw c,r1,r2,qdI,qhr,Jj,Bool.not_false]<;>rfl
theorem qrz(ex:List Int)(h:blockB b=true)(v:TmL t (ndB b))(s:netB b.Aa net=true):Ev (fun n=>qgr n (V (viewE b ex)) t net) (winB b t net):=by
 obtain⟨k,rfl,r,c,u,f,g⟩:=qr3 h s;obtain⟨z,A⟩:=v;have y:ndB b=2*(places b.Aa).length:=rfl;have e:ixL (fun q:Tplace=>(q.net==(k:Int))&&q.drives) (places b.Aa)=(dvN b.Aa k:Int):=by
  refine qtW c (by rw[f,g];simp) (fun i hi a=>?_);simp only[je,beq_iff_eq] at a;exact(qsD (qan h) r hi a.1 a.2).symm
 have l:Ev (fun n=>qap n (places b.Aa) (k:Int)) (dvN b.Aa k:Int):=by
  rw[<-e];exact qfc (fin:=((places b.Aa).length:Int)) (Lf:=qV (places b.Aa) (k:Int)) (xs:=places b.Aa) (pf:=fun n x=>qgJ n x (k:Int)) (fun x _=>by
    unfold qgJ;cases x.net==(k:Int)<;>exact .done)
   (fun n=>by simp only[qV,qq (jf _),cond_false])
   (fun n j x d=>by
    have p:=(List.getElem?_eq_some_iff.1 d).1;simp only[qV,qp p,cond_true,qgM d,jd,wS j])
   (fun n=>by unfold qap;congr 1;funext o;cases o<;>rfl)
 unfold qgr winB;rw[jp];show Ev (fun n=>(qap n (places b.Aa) (k:Int)).bind _) _;refine Ev.bind l ?_;generalize dvN b.Aa k=m at c;have e1:W64 (2*(m:Int))=((2*m:Nat):Int):=by rw[qQ (by omega) (by omega)];omega
 have e2:W64 (((2*m:Nat):Int)+1)=((2*m+1:Nat):Int):=by rw[qQ (by omega) (by omega)];omega
 simp only[e1,e2];exact Ev.bind (quC (t:=t) (m:=2*m) (by omega) (by omega)) .done
end
def actQ(b:qd)(t:qn)(ks:List qi)(k:Nat):Bool:=
 (winB b t (gt ks k).A).2&&((winB b t (gt ks k).B).2&&(decide ((winB b t (gt ks k).A).1.Ak<=(winB b t (gt ks k).B).1.As)&&decide ((winB b t (gt ks k).B).1.Ak<=(winB b t (gt ks k).A).1.As)))
theorem qhh{b:qd}{ks:List qi}(h:cplsB b ks=true):ks.length<=20/\∀k,k<ks.length->netB b.Aa (gt ks k).A=true/\netB b.Aa (gt ks k).B=true/\(gt ks k).A<(gt ks k).B:=by
 unfold cplsB at h;rw[je,qai,decide_eq_true_eq] at h;refine⟨h.2,fun k a=>?_⟩;have:=h.1 k a;unfold cplB at this;simp only[je,decide_eq_true_eq] at this;exact⟨this.1.1,this.1.2.1,this.1.2.2.1⟩
section
variable{b:qd}{t:qn}{ks:List qi}
theorem qqt(h:blockB b=true)(f:TmL t (ndB b))(i:cplsB b ks=true):Ev (fun n=>qhz n b t ks) (ints (selN (actQ b t ks) ks.length)):=by
 obtain⟨p,k⟩:=qhh i;have g:Ev (fun n=>qcu b t ks n ([]:List Int) 0) (ints (selN (actQ b t ks) ks.length),(ks.length:Int)):=by
  refine qkv (q:=actQ b t ks) (Lf:=qcu b t ks) (len:=ks.length) (by omega) (Ev.succ ?_) (fun j d s l X c a=>?_)
  ·simp only[qcu,qq (jf _),cond_false];exact .done
  ·obtain⟨m,o,_⟩:=k j d;simp only[qcu,qp d,cond_true,qw d,jd,l,wS j];refine Ev.bind (qp9 h f m) (Ev.bind (qp9 h f o) ?_);unfold actQ at c a;generalize winB b t (gt ks j).A=u at c a⊢;generalize winB b t (gt ks j).B=v at c a⊢;cases q1:u.2
   ·exact Ev.bind (b:=false) (Ev.now Z) (Ev.ff Z (a (by rw[q1];rfl)))
   cases q2:v.2
   ·exact Ev.bind (b:=false) (Ev.now Z) (Ev.ff Z (a (by rw[q1,q2];rfl)))
   cases q3:decide (u.1.Ak<=v.1.As)
   ·exact Ev.bind (b:=false) (Ev.now Z) (Ev.ff Z (a (by rw[q1,q2,q3];rfl)))
   cases q4:decide (v.1.Ak<=u.1.As)
   ·exact Ev.bind (b:=false) (Ev.now Z) (Ev.ff Z (a (by rw[q1,q2,q3,q4];rfl)))
   ·exact Ev.bind (b:=true) (Ev.now Z) (Ev.tt Z (c (by rw[q1,q2,q3,q4];rfl)))
 unfold qhz;exact Ev.bind g .done
theorem qrt(ex:List Int)(h:blockB b=true)(f:TmL t (ndB b))(i:cplsB b ks=true):Ev (fun n=>qgi n (V (viewE b ex)) t ks) (ints (selN (actQ b t ks) ks.length)):=by
 obtain⟨p,k⟩:=qhh i;have g:Ev (fun n=>qba (V (viewE b ex)) t ks n ([]:List Int) 0) (ints (selN (actQ b t ks) ks.length),(ks.length:Int)):=by
  refine qkv (q:=actQ b t ks) (Lf:=qba (V (viewE b ex)) t ks) (len:=ks.length) (by omega) (Ev.succ ?_) (fun j d s l X c a=>?_)
  ·simp only[qba,qq (jf _),cond_false];exact .done
  ·obtain⟨m,o,_⟩:=k j d;simp only[qba,qp d,cond_true,qw d,jd,l,wS j];refine Ev.bind (qrz ex h f m) (Ev.bind (qrz ex h f o) ?_);unfold actQ at c a;generalize winB b t (gt ks j).A=u at c a⊢;generalize winB b t (gt ks j).B=v at c a⊢;unfold qiH;cases q1:u.2
   ·exact Ev.ff Z (a (by rw[q1];rfl))
   cases q2:v.2
   ·exact Ev.tt Z (Ev.ff Z (a (by rw[q1,q2];rfl)))
   cases q3:decide (u.1.Ak<=v.1.As)
   ·exact Ev.tt Z (Ev.tt Z (Ev.bind (b:=false) (Ev.now Z) (Ev.ff Z (a (by rw[q1,q2,q3];rfl)))))
   cases q4:decide (v.1.Ak<=u.1.As)
   ·exact Ev.tt Z (Ev.tt Z (Ev.bind (b:=false) (Ev.now Z) (Ev.ff Z (a (by rw[q1,q2,q3,q4];rfl)))))
   ·exact Ev.tt Z (Ev.tt Z (Ev.bind (b:=true) (Ev.now Z) (Ev.tt Z (c (by rw[q1,q2,q3,q4];rfl)))))
 unfold qgi;exact Ev.bind g .done
end
def addE(s:List Int)(x:qi):List Int:=setS (setS s x.A (W64 (gt s x.A.toNat+x.Bp))) x.B (W64 (gt s x.B.toNat+x.Bp))
def exS(ks:List qi)(m:Nat)(used:List Int):Nat->List Int
 |0=>List.replicate m 0
 |j+1=>addE (exS ks m used j) (gt ks (at0 used j).toNat)
theorem qop{ks:List qi}{m:Nat}{used:List Int}{j:Nat}:(exS ks m used j).length=m:=by
 induction j with
 |zero=>exact jH
 |succ j ih=>show(setS (setS _ _ _) _ _).length=m;rw[qaY,qaY];exact ih
theorem inRange0{x:Int}{m:Nat}(h:inI x 0 ((m:Int)-1)=true):0<=x/\x<(m:Int)/\x.toNat<m:=by rw[qaK] at h;omega
theorem qsl{br:List Int}{m:Nat}(h:brB br m=true){i:Nat}(hi:i<br.length):∃k:Nat,k<m/\at0 br i=(k:Int):=by
 unfold brB at h;rw[je,jF] at h;have:=h.1 _ (jo hi);obtain⟨a,r1,b⟩:=inRange0 this;exact⟨br[i].toNat,b,by rw[qhF hi];exact qdu a⟩
section
variable{b:qd}{ks:List qi}{used:List Int}
theorem qt8(l:cplsB b ks=true)(n:brB used ks.length=true){i:Nat}(hi:i<used.length){s:List Int}(o:s.length=b.Aa.Ah.length):∃k:Nat,k<ks.length/\at0 used i=(k:Int)/\idx s (gt ks k).A=V (gt s (gt ks k).A.toNat) /\
  ∀v,idx (setS s (gt ks k).A v) (gt ks k).B=V (gt s (gt ks k).B.toNat):=by
 obtain⟨k,d,h⟩:=qsl n hi;obtain⟨a,c,m⟩:=(qhh l).2 k d;unfold netB at a c;rw[qaK] at a c;refine⟨k,d,h,qf1 a.1 (by omega),fun v=>?_⟩;have f:=qdu a.1;have g:=qdu c.1;rw[f,g,qw (by rw[qaY];omega),qec (by omega),if_neg (by omega),jp]
theorem qqm(g:cplsB b ks=true)(l:b.Aa.Ah.length<=1048576)(o:used.length<=1048576)(m:brB used ks.length=true):Ev (fun n=>qgl n b ks used) (exS ks b.Aa.Ah.length used used.length):=by
 have f:=loopF (Lf:=fun n s i=>qd8 ks used n s i) (S:=exS ks b.Aa.Ah.length used) (len:=used.length) (fin:=(exS ks b.Aa.Ah.length used used.length,(used.length:Int)))
  (fun n=>by simp only[qd8,qq (jf _),cond_false])
  (fun i hi X a=>by
   obtain⟨k,h,c,e1,e2⟩:=qt8 g m hi (qop (ks:=ks) (used:=used) (j:=i));have d:exS ks b.Aa.Ah.length used (i+1)=addE (exS ks b.Aa.Ah.length used i) (gt ks k):=by
    show addE _ _=_;rw[c,jp]
   rw[d] at a;generalize exS ks b.Aa.Ah.length used i=s at e1 e2 a⊢;simp only[qd8,qp hi,cond_true,qar hi,jd,c,qw h,e1,e2,wS i];exact a)
 unfold qgl;simp only[qkk (show b.Aa.Ah.length<=2147483648 by omega),jd];exact Ev.bind f .done
theorem qmZ(h:blockB b=true)(g:cplsB b ks=true)(m:b.Aa.Ah.length<=1048576)(p:used.length<=1048576)(o:brB used ks.length=true):Ev (fun n=>qcr n b ks used) (exS ks b.Aa.Ah.length used used.length):=by
 have f:=loopF (Lf:=fun n s i=>qcg ks used n s i) (S:=exS ks b.Aa.Ah.length used) (len:=used.length) (fin:=(exS ks b.Aa.Ah.length used used.length,(used.length:Int)))
  (fun n=>by simp only[qcg,qq (jf _),cond_false])
  (fun i hi X a=>by
   obtain⟨k,l,c,e1,e2⟩:=qt8 g o hi (qop (ks:=ks) (used:=used) (j:=i));have d:exS ks b.Aa.Ah.length used (i+1)=addE (exS ks b.Aa.Ah.length used i) (gt ks k):=by
    show addE _ _=_;rw[c,jp]
   rw[d] at a;generalize exS ks b.Aa.Ah.length used i=s at e1 e2 a⊢;simp only[qcg,qp hi,cond_true,qar hi,jd,c,qw l,e1,e2,wS i];exact a)
 have r:=qfh h;unfold qcr;rw[show b.Ac.length=b.Aa.Ah.length by omega];simp only[qkk (show b.Aa.Ah.length<=2147483648 by omega),jd];exact Ev.bind f .done
theorem ql1(b:ks.length<=20)(a:used.length<=1048576):Ev (fun n=>qhD n ks used) (brB used ks.length):=by
 unfold qhD brB;have e1:W64 ((ks.length:Int)-1)=(ks.length:Int)-1:=qQ (by omega) (by omega);simp only[qfv,jd,e1];refine Ev.bind (qeD a) ?_;cases used.all fun x=>inI x 0 ((ks.length:Int)-1)
 ·exact Ev.ff Z .done
 ·exact Ev.tt Z (Ev.bind (qjZ a) .done)
end

def hasI(xs:List Int)(y:Int):Bool:=xs.any fun x=>x==y
theorem qtg{xs:List Int}{y:Int}(d:xs.length<=1048576):Ev (fun n=>qfq n xs y) (hasI xs y):=by
 unfold qfq;refine Ev.bind (b:=ixL (fun x=>y==x) xs) (qfc (fin:=(xs.length:Int)) (Lf:=qcz xs y) (pf:=fun _ x=>V (y==x)) (fun _ _=>.done)
  (fun n=>by simp only[qcz,qq (jf _),cond_false])
  (fun n j x a=>by
   have c:=(List.getElem?_eq_some_iff.1 a).1;simp only[qcz,qp c,cond_true,qgM a,jd,wS j])
  (fun n=>by unfold qiE;congr 1;funext o;cases o<;>rfl)) (Ev.now ?_)
 rw[qmh];unfold hasI
 congr 2
 funext x
 rw[jj,beq_iff_eq,beq_iff_eq];exact eq_comm
theorem qvY{b:qd}{c:qx}{br:List Int}{xs:List qf}(d:qfO b)(f:okS c.Az)(h:(blockB b&&cornerB c)=false):Ev (fun n=>qcE n b c br xs) ([],1):=by
 have s1:=qeO d;have s2:=qh3 (c:=c) f;unfold qcE;cases h1:blockB b
 ·rw[h1] at s1;exact Ev.bind (b:=true) (Ev.bind s1 (Ev.tt Z .done)) (Ev.tt Z .done)
 ·rw[h1] at s1 h;have a:cornerB c=false:=h;rw[a] at s2;exact Ev.bind (b:=true) (Ev.bind s1 (Ev.ff Z (Ev.bind s2 .done))) (Ev.tt Z .done)
theorem qxq{b:qd}{c:qx}{f g:Nat->qg->qg×qg}{lv:List Bool}{xs:List qf}(h:blockB b=true)(o:SpansS b c g)(m:∀k s,(f k s).2=(g k s).2)(p:SrcOk xs):∀(R:List Nat) (t d:qn),(∀k,k∈R->k<2*(places b.Aa).length)->TmOk t (2*(places b.Aa).length)->rnO f (linksL b) lv xs R t=V d->TmOk d (2*(places b.Aa).length):=by
 intro R
 induction R with
 |nil=>intro t d _ a e;obtain rfl:=Option.some.inj e;exact a
 |cons k R ih=>
  intro t d l a e;have n:=qkx (node:=(k:Int)) (lv:=lv) h o m a p (linksL b).length (jf _);unfold rnO at e;cases h1:(ndS f (linksL b) lv t (k:Int) (srcV (srcO xs (k:Int))) (linksL b).length).1
  ·rw[h1] at e;exact ih _ _ (fun i hi=>l i (jq _ hi)) a e
  ·rw[h1] at e;cases h2:spanB (ndS f (linksL b) lv t (k:Int) (srcV (srcO xs (k:Int))) (linksL b).length).2.Af
   ·rw[h2] at e;cases e
   ·rw[h2] at e;exact ih _ _ (fun i hi=>l i (jq _ hi)) (qnA a (l k (js ..)) n) e
section
variable{b:qd}{c:qx}{br:List Int}{xs:List qf}{ex:List Int}
end
theorem qsE{m:Nat}{a d:List Int}(o:m<=1048576)(h:a.length<=1048576)(i:d.length<=1048576):Ev (fun n=>qic n (m:Int) a d) (ints (selN (fun k=>hasI a (k:Int) || hasI d (k:Int)) m)):=by
 have g:Ev (fun n=>qcS (m:Int) a d n ([]:List Int) 0) (ints (selN (fun k=>hasI a (k:Int) || hasI d (k:Int)) m),(m:Int)):=by
  refine qkv (q:=fun k=>hasI a (k:Int) || hasI d (k:Int)) (Lf:=qcS (m:Int) a d) (len:=m) o (Ev.succ ?_) (fun j l s p X c f=>?_)
  ·simp only[qcS,qq (jf _),cond_false];exact .done
  ·simp only[qcS,qp l,cond_true,jd,p,wS j];have e1:=ql4 (x:=(j:Int)) h;have e2:=ql4 (x:=(j:Int)) i;unfold hasI at c f;cases q1:a.any fun y=>y==(j:Int)
   ·rw[q1] at e1;cases q2:d.any fun y=>y==(j:Int)
    ·rw[q2] at e2;exact Ev.bind (b:=false) (Ev.bind e1 (Ev.ff Z (Ev.bind e2 .done))) (Ev.ff Z (f (by rw[q1,q2];rfl)))
    ·rw[q2] at e2;exact Ev.bind (b:=true) (Ev.bind e1 (Ev.ff Z (Ev.bind e2 .done))) (Ev.tt Z (c (by rw[q1,q2];rfl)))
   ·rw[q1] at e1;exact Ev.bind (b:=true) (Ev.bind e1 (Ev.tt Z .done)) (Ev.tt Z (c (by rw[q1];rfl)))
 unfold qic;exact Ev.bind g .done
theorem qqQ{q:Nat->Bool}{m:Nat}:(selN q m).Nodup:=by
 unfold selN;exact(List.nodup_range).filter _
theorem quq{xs:List Int}(h:incB xs=true){i j:Nat}(a:i<j)(b:j<xs.length):at0 xs i<at0 xs j:=by
 unfold incB at h;rw[qai] at h
 induction j with
 |zero=>omega
 |succ j ih=>
  have c:at0 xs j<at0 xs (j+1):=by
   have:=h (j+1) b;unfold stepB at this;simpa using this
  rcases Nat.lt_or_ge i j with hl|hg
  ·have:=ih hl (by omega);omega
  ·obtain rfl:i=j:=by omega
   exact c
theorem qws{used:List Int}{m:Nat}(h:brB used m=true):used.length=(selN (fun k=>hasI used (k:Int)) m).length:=by
 have g:=h;unfold brB at g;rw[je] at g;have s:(used.map Int.toNat).Nodup:=by
  unfold List.Nodup;rw[List.pairwise_iff_getElem];intro i j hi d l;rw[jt] at hi d;obtain⟨a,_,b⟩:=qsl h hi;obtain⟨c,_,f⟩:=qsl h d;have:=quq g.2 l d;rw[b,f] at this;rw[qhF hi] at b;rw[qhF d] at f;rw[List.getElem_map,List.getElem_map,b,f];omega
 refine Nat.le_antisymm ?_ ?_
 ·have:=qok s (l':=selN (fun k=>hasI used (k:Int)) m) (fun k n=>by
   obtain⟨x,p,rfl⟩:=List.mem_map.1 n;obtain⟨i,hi,rfl⟩:=List.mem_iff_getElem.1 p;obtain⟨a,r,b⟩:=qsl h hi;rw[qhF hi] at b;refine qbM.2 ⟨by rw[b];exact r,?_⟩;unfold hasI;rw[List.any_eq_true];exact⟨_,jo hi,by rw[b];simp⟩)
  rwa [jt] at this
 ·have:=qok (qqQ (q:=fun k=>hasI used (k:Int)) (m:=m)) (l':=used.map Int.toNat) (fun k n=>by
   obtain⟨_,o⟩:=qbM.1 n;unfold hasI at o;rw[List.any_eq_true] at o;obtain⟨x,p,e⟩:=o;rw[beq_iff_eq] at e;exact List.mem_map.2 ⟨x,p,by rw[e];rfl⟩)
  rwa [jt] at this
theorem quG{used:List Int}{m:Nat}{q:Nat->Bool}(h:brB used m=true):(((ints (selN (fun k=>hasI used (k:Int) || hasI (ints (selN q m)) (k:Int)) m)).length:Int)==(used.length:Int))=(ints (selN q m)).all fun x=>hasI used x:=by
 rw[qbv,qws h,jj,beq_iff_eq,jF];constructor
 ·intro e x b;refine Classical.byContradiction fun g=>?_;obtain⟨k,a,rfl⟩:∃k:Nat,k∈selN q m/\x=(k:Int):=by
   unfold ints at b;obtain⟨k,a,e⟩:=List.mem_map.1 b;exact⟨k,a,e.symm⟩
  have c:=(qbM.1 a).1;have d:hasI used (k:Int)=false:=by simpa using g
  have:=qok (l:=k::selN (fun k=>hasI used (k:Int)) m) (l':=selN (fun k=>hasI used (k:Int) || hasI (ints (selN q m)) (k:Int)) m) (List.nodup_cons.2 ⟨fun n=>(by rw[(qbM.1 n).2] at d;cases d),qqQ⟩) (fun i hi=>by
   rcases List.mem_cons.1 hi with rfl|hi
   ·refine qbM.2 ⟨c,?_⟩;unfold hasI;rw[Jg];refine .inr (List.any_eq_true.2 ⟨_,b,by simp⟩)
   ·obtain⟨o,p⟩:=qbM.1 hi;exact qbM.2 ⟨o,by rw[p];rfl⟩)
  rw[Ja] at this;omega
 ·intro f;have:∀k,k<m->(hasI used (k:Int) || hasI (ints (selN q m)) (k:Int))=hasI used (k:Int):=fun k _=>by
   cases h1:hasI used (k:Int)
   ·cases h2:hasI (ints (selN q m)) (k:Int)
    ·rfl
    ·unfold hasI at h2;rw[List.any_eq_true] at h2;obtain⟨x,b,e⟩:=h2;rw[beq_iff_eq] at e;subst e;rw[f _ b] at h1;cases h1
   ·rfl
  have:selN (fun k=>hasI used (k:Int) || hasI (ints (selN q m)) (k:Int)) m=selN (fun k=>hasI used (k:Int)) m:=by
   unfold selN;exact List.filter_congr fun k a=>this k (List.mem_range.1 a)
  rw[this]
theorem qt0{xs used:List Int}(a:xs.length<=1048576)(c:used.length<=1048576):Ev (fun n=>qa0 n xs used) (!xs.all fun x=>hasI used x):=by
 have b:Ev (fun n=>qbd n xs used) (ixL (fun x=>!hasI used x) xs):=
  qfc (fin:=(xs.length:Int)) (Lf:=qak xs used) (xs:=xs) (pf:=fun n x=>qhS n x used) (fun x _=>by
    unfold qhS;exact Ev.bind (qtg c) .done)
   (fun n=>by simp only[qak,qq (jf _),cond_false])
   (fun n i x a=>by
    have hi:=(List.getElem?_eq_some_iff.1 a).1;simp only[qak,qp hi,cond_true,qgM a,jd,wS i])
   (fun n=>by unfold qbd;congr 1;funext o;cases o<;>rfl)
 unfold qa0;refine Ev.bind b (Ev.now ?_);rw[qmh,<-qoj,Bool.not_not]

theorem sub00{α:Type}(xs:List α):subS xs 0 ((0:Nat):Int)=V []:=by
 unfold subS;rw[if_pos (by omega)];simp
theorem qwc{k:Int}(a:0<=k)(d:k<=1048576):Ev (fun n=>qfo n k) []:=by
 unfold qfo;have e:W64 (k-W64 (0-((0:Nat):Int)))=k:=by
  have e1:W64 (0-((0:Nat):Int))=0:=rfl;rw[e1,Int.sub_zero];exact qQ (by omega) (by omega)
 refine Ev.bind (b:=()) (Ev.ff (by simp;omega) .done) ?_;rw[e];refine Ev.bif (fun f=>?_) (fun _=>.done);have c:mkS k (0:Int)=V (List.replicate k.toNat 0):=by unfold mkS;rw[if_pos ⟨a,by unfold big;omega⟩]
 exact Ev.bindN c (Ev.bindN (sub00 _) .done)
theorem qu1{a d:List Int}(h:a.length+d.length<=1048576):Ev (fun n=>qgc n [a,d]) (a++d):=by
 have g:Ev (fun n=>qc0 [a,d] n 0 0) (((a.length+d.length:Nat):Int),2):=by
  have c:W64 (0+(a.length:Int))=(a.length:Int):=by rw[Int.zero_add];exact qQ (by omega) (by omega)
  have f:W64 ((a.length:Int)+(d.length:Int))=((a.length+d.length:Nat):Int):=by rw[qQ (by omega) (by omega)];omega
  refine Ev.succ (Ev.succ (Ev.succ ?_));simp only[qc0];refine Ev.tt Z (Ev.bindN (b:=a) Z ?_);rw[c];refine Ev.ff (by simp) (Ev.tt Z (Ev.bindN (b:=d) Z ?_));rw[f];exact Ev.ff (by simp;omega) (Ev.ff Z .done)
 have i:Ev (fun n=>qc2 [a,d] n [] 0) (a++d,2):=by
  refine Ev.succ (Ev.succ (Ev.succ ?_));simp only[qc2];refine Ev.tt Z (Ev.bindN (b:=a) Z (Ev.bindN (b:=a) ?_ (Ev.tt Z (Ev.bindN (b:=d) Z (Ev.bindN (b:=a++d) ?_ (Ev.ff Z .done))))))
  ·have:=qcx (xs:=([]:List Int)) (ys:=a) (by simp;omega);rwa [List.nil_append] at this
  ·exact qcx (by omega)
 unfold qgc;exact Ev.bind g (Ev.bind (qwc (by omega) (by omega)) (Ev.bind i .done))
theorem qon{q:Nat->Bool}{m k:Nat}(h:k<m):hasI (ints (selN q m)) (k:Int)=q k:=by
 unfold hasI;rw[jj,List.any_eq_true];constructor
 ·rintro⟨x,d,e⟩;rw[beq_iff_eq] at e;subst e;obtain⟨j,b,f⟩:=qfC.1 d;obtain⟨_,a⟩:=qbM.1 b;have:j=k:=by omega
  subst this;exact a
 ·intro c;exact⟨(k:Int),qfC.2 ⟨k,qbM.2 ⟨h,c⟩,rfl⟩,by simp⟩
theorem qtF{q r:Nat->Bool}{m:Nat}(h:∀k,k<m->q k=r k):selN q m=selN r m:=by
 unfold selN;exact List.filter_congr fun k a=>h k (List.mem_range.1 a)
theorem qoh{q:Nat->Bool}{m:Nat}:brB (ints (selN q m)) m=true:=by
 unfold brB;rw[je,jF];refine⟨fun x c=>?_,?_⟩
 ·obtain⟨j,a,d⟩:=qfC.1 c;have:=(qbM.1 a).1;rw[qaK];omega
 ·unfold incB;rw[qai];intro j a;unfold stepB;rcases Nat.eq_zero_or_pos j with rfl|h0
  ·rfl
  ·have b:=List.pairwise_iff_getElem.1 (qla (q:=q) (m:=m)) (j-1) j (by omega) a (by omega);rw[qhF a,qhF (show j-1<(ints (selN q m)).length by omega)];simp only[Jg,decide_eq_true_eq];exact .inr b
theorem qkt{q:Nat->Bool}{m:Nat}(h:m<=20):(ints (selN q m)).length<=20:=by
 rw[qbv];exact jT qgy h
section
variable{b:qd}{c:qx}{br:List Int}{xs:List qf}{ks:List qi}{R:List Nat}
end

theorem qrm{t1 t2:qn}{M m:Nat}(a:Wd t1 t2 M)(b:m+1<M):(winO t1 m).2=(winO t2 m).2/\((winO t1 m).2=true->(winO t2 m).1.Ak<=(winO t1 m).1.Ak/\(winO t1 m).1.As<=(winO t2 m).1.As):=by
 have d:=a.r m (by omega);have r1:=a.r (m+1) b;unfold winO;rw[<-d,<-r1];cases h0:gt t1.Ar m
 ·cases h1:gt t1.Ar (m+1)
  ·exact⟨rfl,fun h=>by cases h⟩
  ·obtain⟨_,_,n1⟩:=a.ar _ b h1;exact⟨rfl,fun _=>⟨n1.e1,n1.l1⟩⟩
 ·obtain⟨_,_,c⟩:=a.ar m (by omega) h0;cases h1:gt t1.Ar (m+1)
  ·exact⟨rfl,fun _=>⟨c.e1,c.l1⟩⟩
  ·obtain⟨_,_,n1⟩:=a.ar _ b h1;have:=c.hull n1;exact⟨rfl,fun _=>⟨this.e1,this.l1⟩⟩
section
variable{b:qd}{ks:List qi}{t1 t2:qn}
theorem qu8(h:blockB b=true)(p:cplsB b ks=true)(i:Wd t1 t2 (2*(places b.Aa).length)){k:Nat}(s:k<ks.length)(c:actQ b t1 ks k=true):actQ b t2 ks k=true:=by
 obtain⟨_,t⟩:=qhh p;obtain⟨u,v,_⟩:=t k s;obtain⟨a,l,_,o,_,_⟩:=qr3 h u;obtain⟨d,n,_,r,_,_⟩:=qr3 h v;unfold actQ at c⊢;unfold winB at c⊢;rw[l,n,jp,jp] at c⊢;obtain⟨z,x⟩:=qrm i (m:=2*dvN b.Aa a) (by omega);obtain⟨A,y⟩:=qrm i (m:=2*dvN b.Aa d) (by omega);simp only[je,decide_eq_true_eq] at c⊢;obtain⟨f,g,B,C⟩:=c;have D:=x f;have F:=y g;exact⟨by rw[<-z];exact f,by rw[<-A];exact g,by omega,by omega⟩
end
def cE(ks:List qi)(j u:Nat):Int:=(if (gt ks u).A=(j:Int) then(gt ks u).Bp else 0)+(if (gt ks u).B=(j:Int) then(gt ks u).Bp else 0)
def sumE(ks:List qi)(j:Nat)(l:List Nat):Int:=(l.map (cE ks j)).sum
theorem qre{b:qd}{ks:List qi}(h:cplsB b ks=true){k:Nat}(a:k<ks.length):0<=(gt ks k).Bp/\(gt ks k).Bp<=10000:=by
 unfold cplsB at h;rw[je,qai] at h;have:=h.1 k a;unfold cplB at this;simp only[je,qaK,decide_eq_true_eq] at this;omega
theorem qv2{b:qd}{ks:List qi}(h:cplsB b ks=true){k j:Nat}(a:k<ks.length):0<=cE ks j k/\cE ks j k<=20000:=by
 have:=qre h a;unfold cE;split<;>split<;>omega
theorem qnL{ks:List qi}{j u:Nat}{l:List Nat}:sumE ks j (l++[u])=sumE ks j l+cE ks j u:=by unfold sumE;simp
theorem qqz{b:qd}{ks:List qi}(h:cplsB b ks=true){j:Nat}:∀{l:List Nat},(∀u,u∈l->u<ks.length)->0<=sumE ks j l/\sumE ks j l<=20000*(l.length:Int):=by
 intro l
 induction l with
 |nil=>intro _;unfold sumE;simp
 |cons u l ih=>
  intro a;have d:=ih (fun v c=>a v (jq _ c));have f:=qv2 (j:=j) h (a u (js ..));have e:sumE ks j (u::l)=cE ks j u+sumE ks j l:=rfl;rw[e,Ja];omega
theorem qxa{b:qd}{ks:List qi}(h:cplsB b ks=true){l:List Nat}(o:∀u,u∈l->u<ks.length)(I:l.length<=20):∀i,i<=l.length->∀j,j<b.Aa.Ah.length->gt (exS ks b.Aa.Ah.length (ints l) i) j=sumE ks j (l.take i):=by
 intro i
 induction i with
 |zero=>
  intro _ j n;show gt (List.replicate _ 0) j=0;rw[qeQ (by rw[jH];exact n)];simp
 |succ i ih=>
  intro hi j n;have c:i<l.length:=by omega
  obtain⟨p,r,H⟩:=(qhh h).2 l[i] (o _ (jo c));have L:=qre h (o _ (jo c));unfold netB at p r;rw[qaK] at p r;have D:at0 (ints l) i=(l[i]:Int):=by
   rw[qhF (by rw[qbv];exact c)];unfold ints;simp
  have F:l.take (i+1)=l.take i++[l[i]]:=jC c;have g:∀u,u∈l.take i->u<ks.length:=fun u K=>o u (List.mem_of_mem_take K);have x:∀k,0<=sumE ks k (l.take i)/\sumE ks k (l.take i)<=20000*20:=fun k=>by
   have:=qqz (j:=k) h g;have J:(l.take i).length<=20:=by rw[jN];omega
   omega
  rw[F,qnL];show gt (addE (exS ks b.Aa.Ah.length (ints l) i) (gt ks (at0 (ints l) i).toNat)) j=_;rw[D,jp];have f:=qop (ks:=ks) (m:=b.Aa.Ah.length) (used:=ints l) (j:=i);have y:=ih (by omega) (gt ks l[i]).A.toNat (by omega);have z:=ih (by omega) (gt ks l[i]).B.toNat (by omega);have A:=ih (by omega) j n;generalize exS ks b.Aa.Ah.length (ints l) i=s at f y z A⊢;have rA:=x (gt ks l[i]).A.toNat;have rB:=x (gt ks l[i]).B.toNat;unfold addE cE;rw[y,z,wO (sumE ks (gt ks l[i]).A.toNat (l.take i)+(gt ks l[i]).Bp),wO (sumE ks (gt ks l[i]).B.toNat (l.take i)+(gt ks l[i]).Bp)];have B:=qdu p.1;have C:=qdu r.1;generalize (gt ks l[i]).A.toNat=a at *;generalize (gt ks l[i]).B.toNat=d at *;rw[B,C,qec (by rw[qaY];omega),qec (by omega),A];by_cases t:j=d
  ·subst t;rw[if_pos Z,if_neg (show ¬ ((a:Int)=(j:Int)) by omega),if_pos Z];omega
  ·rw[if_neg t,if_neg (show ¬ ((d:Int)=(j:Int)) by omega)];by_cases v:j=a
   ·subst v;rw[if_pos Z,if_pos Z];omega
   ·rw[if_neg v,if_neg (show ¬ ((a:Int)=(j:Int)) by omega)];omega
theorem qvc{b:qd}{ks:List qi}(h:cplsB b ks=true){q r:Nat->Bool}(c:∀k,k<ks.length->q k=true->r k=true){j:Nat}:sumE ks j (selN q ks.length)<=sumE ks j (selN r ks.length):=by
 have a:∀m,m<=ks.length->sumE ks j (selN q m)<=sumE ks j (selN r m):=by
  intro m
  induction m with
  |zero=>intro _;exact jQ _
  |succ m ih=>
   intro g;have d:=ih (by omega);have f:=qv2 (j:=j) h (show m<ks.length by omega);rw[qhM,qhM];cases hq:q m
   ·cases hr:r m
    ·simpa using d
    ·simp only[cond_false,cond_true,jY];rw[qnL];omega
   ·rw[c m (by omega) hq];simp only[cond_true];rw[qnL,qnL];omega
 exact a _ (jf _)

section
variable{b:qd}{c:qx}{br:List Int}{xs:List qf}{ex:List Int}{g f1 f2:Nat->qg->qg×qg}{lv:List Bool}{t:qn}
theorem qtZ(c:blockB b=true)(d:TmOk t (2*(places b.Aa).length))(a:∀k s,k<(linksL b).length->slR s->f1 k s=f2 k s){node:Int}{s0:Bool×qf}:∀j,j<=(linksL b).length->ndS f1 (linksL b) lv t node s0 j=ndS f2 (linksL b) lv t node s0 j:=by
 intro j
 induction j with
 |zero=>intro _;rfl
 |succ j ih=>
  intro f;unfold ndS;rw[ih (by omega)];cases toQ (linksL b) lv node j
  ·rfl
  ·simp only[cond_true];unfold stepS;rw[a j _ (by omega) (d.sl _ (qrU (qkr c) (show j<(linksL b).length by omega)).2)]
theorem qo8(l:blockB b=true)(n:SpansS b c g)(m:∀k s,(f1 k s).2=(g k s).2)(d:∀k s,k<(linksL b).length->slR s->f1 k s=f2 k s)(o:SrcOk xs) :
  ∀(R:List Nat) (t:qn),(∀k,k∈R->k<2*(places b.Aa).length)->TmOk t (2*(places b.Aa).length)->rnO f1 (linksL b) lv xs R t=rnO f2 (linksL b) lv xs R t:=by
 intro R
 induction R with
 |nil=>intro t _ _;rfl
 |cons k R ih=>
  intro t f a;have e:=qtZ (lv:=lv) (node:=(k:Int)) (s0:=srcV (srcO xs (k:Int))) l a d (linksL b).length (jf _);have h:=qkx (node:=(k:Int)) (lv:=lv) l n m a o (linksL b).length (jf _);unfold rnO;rw[<-e,ih _ (fun i hi=>f i (jq _ hi)) a,ih _ (fun i hi=>f i (jq _ hi)) (qnA a (f k (js ..)) h)]
theorem qrd{s:qg}(a:0<=s.Ak)(b:s.Ak<=s.As)(c:s.As<=5000000):wideS 0 s=s:=by
 unfold wideS;rw[Int.sub_zero,Jd,qQ (by omega) (by omega),qQ (by omega) (by omega)]
def exQ(b:qd)(ex:List Int)(k:Nat):Int:=bif (gt (linksL b) k).Au==2 then exK b ex k else 0
theorem quk(d:blockB b=true)(l:cornerB c=true)(n:SpansS b c g)(h:ex.length=b.Ac.length):∀k s,k<(linksL b).length->slR s->wideF b ex g k s=fE g (exQ b ex) k s:=by
 intro k s f p;obtain⟨r,t,u⟩:=qqq d l n f p;unfold wideF fE exQ;cases hkd:(gt (linksL b) k).Au==2
 ·rw[Bool.and_false];simp only[cond_false];rw[qrd r t u]
 ·have o:decide (0<ex.length)=true:=by
   obtain⟨a,_⟩:=qfb d (qib f);rcases a with⟨i,j,m,net,y,hx⟩|⟨j,net,y,hx⟩
   ·rw[hx.kind] at hkd;cases hkd
   ·have:=hx.nl;exact decide_eq_true (by omega)
  rw[o,Bool.and_true]
  rfl
theorem qwO{k:Nat}(h:allN (fun j=>inI (gt ex j) 0 1000000000) ex.length=true):0<=exQ b ex k/\exQ b ex k<=1000000000:=by
 have all:∀i,0<=gt ex i/\gt ex i<=1000000000:=fun i=>by
  by_cases hi:i<ex.length
  ·rw[qai] at h;have:=h i hi;rw[qaK] at this;exact this
  ·have:gt ex i=0:=by unfold gt;rw[jx,List.getElem?_eq_none (by omega)];rfl
   rw[this];omega
 unfold exQ exK;cases (gt (linksL b) k).Au==2
 ·exact⟨jQ _,by show(0:Int)<=_;omega⟩
 ·exact all _
theorem qxY{R:List Nat}(p:qfO b)(r:okS c.Az)(l:ex.length<=1048576)(v:xs.length<=1048576)(a:TgOk b c br xs R)(H:SpansS b c g)(o:SpansI b c ex (wideF b ex g))(m:ex.length=b.Ac.length)(y:allN (fun j=>inI (gt ex j) 0 1000000000) ex.length=true)
  (e:rnO (wideF b ex g) (linksL b) (lvJ b br) xs R (zTm (2*(places b.Aa).length))=V t) (hi:Ev (fun n=>qa2 n b c br xs G) (grB b br,ints R,0)):Ev (fun n=>qg5 n b c br xs ex) (t,0):=by
 have d:=a.bl;have A:=qiA p;have B:=qiQ (c:=c) r;rw[d] at A;rw[a.co] at B;have I:=qaV (qY (qan d));have h:=a.len;have f:R.length<=1000:=by rw[h];show 2*(places b.Aa).length<=1000;omega
 have u:∀k s,(wideF b ex g k s).2=(g k s).2:=fun k s=>by
  unfold wideF;cases decide (0<ex.length)&&((gt (linksL b) k).Au==2)<;>rfl
 have C:=qrT (lv:=lvJ b br) (R:=R) d H u o qkZ (qot v a.sr) (fun i hi=>⟨(a.ord.at hi).1,(a.ord.at hi).2.1⟩) f;rw[e] at C;have z:=qeD (xs:=ex) (lo:=0) (hi:=1000000000) l;have D:(ex.all fun x=>inI x 0 1000000000)=true:=by
  rw[qai] at y;rw[jF];intro x J;obtain⟨i,hi,rfl⟩:=List.mem_iff_getElem.1 J;rw[<-qeQ hi];exact y i hi
 rw[D] at z;have F:((ex.length:Int) != (b.Ac.length:Int))=false:=by rw[m];simp
 unfold qg5;refine Ev.bind (b:=false) (Ev.bind A (Ev.tt Z (Ev.bind B (Ev.tt Z (Ev.ff F (Ev.bind z .done)))))) (Ev.ff Z (Ev.bind hi ?_));unfold grB viewV viewE;dsimp only;exact Ev.bind C (Ev.ff Z .done)
theorem qwA{R:List Nat}(k:xs.length<=1048576)(a:TgOk b c br xs R)(o:SpansS b c g)(h:SpansI b c [] (wideF b [] g))
  (e:rnO g (linksL b) (lvJ b br) xs R (zTm (2*(places b.Aa).length))=V t) (hi:Ev (fun n=>qa2 n b c br xs G) (grB b br,ints R,0)):Ev (fun n=>qhm n b c br xs) (t,0):=by
 have l:=a.bl;have p:=qaV (qY (qan l));have f:=a.len;have d:R.length<=1000:=by rw[f];show 2*(places b.Aa).length<=1000;omega
 have m:=qrT (lv:=lvJ b br) (R:=R) l o (fun _ _=>rfl) h qkZ (qot k a.sr) (fun i hi=>⟨(a.ord.at hi).1,(a.ord.at hi).2.1⟩) d;rw[e] at m;unfold qhm;exact Ev.bind hi (Ev.ff Z (Ev.bind m (Ev.ff Z .done)))
end

theorem qvG{τ ρ ε σ1 σ2:Type}{m:Nat}(F:m<=1000){Ls:Nat->List Int->Int->Option (Flow ρ σ1)}{Li:Nat->ε->List Int->Int->Option (Flow ρ σ2)}{lim:ρ}{fin:τ->List Int->Int->ρ}(J:(Nat->Bool)->Prop)(nx:(Nat->Bool)->Option (τ×(Nat->Bool)))
  (z:∀q t a,J q->nx q=V (t,a)->J fun k=>q k || a k)
  (l:∀q r X,(nx q=G->X=lim)->(∀t a,nx q=V (t,a)->(selN (fun k=>q k || a k) m).length=(selN q m).length->X=fin t (ints (selN q m)) r) ->
   (∀t a,nx q=V (t,a)->(selN (fun k=>q k || a k) m).length≠(selN q m).length->Ev (fun n=>Ls n (ints (selN (fun k=>q k || a k) m)) (W64 (r+1))) (.ret X))->Ev (fun n=>Ls (n+1) (ints (selN q m)) r) (.ret X))
  (i:∀e q r X,(nx q=G->X=lim)->(∀t a,nx q=V (t,a)->(selN (fun k=>q k || a k) m).length=(selN q m).length->X=fin t (ints (selN q m)) r) ->
   (∀t a,nx q=V (t,a)->(selN (fun k=>q k || a k) m).length≠(selN q m).length->∀e',Ev (fun n=>Li n e' (ints (selN (fun k=>q k || a k) m)) (W64 (r+1))) (.ret X))->Ev (fun n=>Li (n+1) e (ints (selN q m)) r) (.ret X)) :
  ∀d q r,m-(selN q m).length=d->J q->(1<=r/\r<=((selN q m).length:Int)+1)->∃X,((X=lim/\∃q',J q'/\nx q'=G)\/∃q' t a r',J q'/\nx q'=V (t,a)/\(selN (fun k=>q' k || a k) m).length=(selN q' m).length/\(1<=r'/\r'<=((selN q' m).length:Int)+1)/\X=fin t (ints (selN q' m)) r') /\
   Ev (fun n=>Ls n (ints (selN q m)) r) (.ret X)/\∀e,Ev (fun n=>Li n e (ints (selN q m)) r) (.ret X):=by
 intro d
 induction d using Nat.strongRecOn with
 |ind d ih=>
  intro q r D v A;cases hn:nx q with
  |none=>exact⟨lim,.inl ⟨rfl,q,v,hn⟩,Ev.succ (l q r _ (fun _=>rfl) (fun t a h=>by rw[hn] at h;cases h) (fun t a h=>by rw[hn] at h;cases h)),fun e=>Ev.succ (i e q r _ (fun _=>rfl) (fun t a h=>by rw[hn] at h;cases h) (fun t a h=>by rw[hn] at h;cases h))⟩
  |some p=>
   obtain⟨t,a⟩:=p;by_cases g:(selN (fun k=>q k || a k) m).length=(selN q m).length
   ·refine⟨fin t (ints (selN q m)) r,.inr ⟨q,t,a,r,v,hn,g,A,rfl⟩,Ev.succ (l q r _ (fun h=>by rw[hn] at h;cases h) (fun f c h _=>?_) (fun f c h b=>?_)),fun e=>Ev.succ (i e q r _ (fun h=>by rw[hn] at h;cases h) (fun f c h _=>?_) (fun f c h b=>?_))⟩ <;>
     (rw[hn] at h;obtain⟨rfl,rfl⟩:=Prod.mk.inj (Option.some.inj h))
    ·rfl
    ·exact absurd g b
    ·rfl
    ·exact absurd g b
   ·have B:=qrE (q:=q) (a:=a) (m:=m);have C:(selN (fun k=>q k || a k) m).length<=m:=qgy;have y:W64 (r+1)=r+1:=qQ (by omega) (by omega);obtain⟨X,o,s,u⟩:=ih _ (by omega) (fun k=>q k || a k) (r+1) Z (z q t a v hn) (by omega);refine⟨X,o,Ev.succ (l q r _ (fun h=>by rw[hn] at h;cases h) (fun f c h x=>?_) (fun f c h b=>?_)),fun e=>Ev.succ (i e q r _ (fun h=>by rw[hn] at h;cases h) (fun f c h x=>?_) (fun f c h b=>?_))⟩ <;>
     (rw[hn] at h;obtain⟨rfl,rfl⟩:=Prod.mk.inj (Option.some.inj h))
    ·exact absurd x g
    ·rw[y];exact s
    ·exact absurd x g
    ·rw[y];exact u
def exq(b:qd)(ks:List qi)(q:Nat->Bool):List Int:=exS ks b.Aa.Ah.length (ints (selN q ks.length)) (ints (selN q ks.length)).length
def coupO(b:qd)(br:List Int)(xs:List qf)(R:List Nat)(f:Nat->qg->qg×qg)(ex:List Int):Option qn:=rnO (wideF b ex f) (linksL b) (lvJ b br) xs R (zTm (2*(places b.Aa).length))
section
variable{b:qd}{c:qx}{br:List Int}{xs:List qf}{ks:List qi}{R:List Nat}{f:Nat->qg->qg×qg}{q r:Nat->Bool}{used ex:List Int}{t:qn}
theorem qoP:(exq b ks q).length=b.Aa.Ah.length:=qop
theorem quh(c:cplsB b ks=true)(h:∀k,k<ks.length->q k=true->r k=true)(j:Nat):0<=gt (exq b ks q) j/\gt (exq b ks q) j<=gt (exq b ks r) j/\gt (exq b ks r) j<=1000000000:=by
 have d:=(qhh c).1;have m:∀p:Nat->Bool,j<b.Aa.Ah.length->gt (exq b ks p) j=sumE ks j (selN p ks.length):=fun p g=>by
  have i:∀u,u∈selN p ks.length->u<ks.length:=fun u f=>(qbM.1 f).1;have a:(selN p ks.length).length<=20:=jT qgy d;have:=qxa c i a (selN p ks.length).length (jf _) j g;rw[jG] at this;unfold exq;rw[qbv];exact this
 by_cases g:j<b.Aa.Ah.length
 ·rw[m q g,m r g];have n:=qqz (j:=j) c (l:=selN q ks.length) fun u f=>(qbM.1 f).1;have o:=qqz (j:=j) c (l:=selN r ks.length) fun u f=>(qbM.1 f).1;have s:=qvc (j:=j) c h;have a:(selN r ks.length).length<=20:=jT qgy d;omega
 ·have z:∀p:Nat->Bool,gt (exq b ks p) j=0:=fun p=>by
   have i:=qoP (b:=b) (ks:=ks) (q:=p);unfold gt;rw[jx,List.getElem?_eq_none (by omega)];rfl
  rw[z q,z r];omega
theorem quw(a:cplsB b ks=true):allN (fun j=>inI (gt (exq b ks q) j) 0 1000000000) (exq b ks q).length=true:=by
 rw[qai];intro j _;rw[qaK];have:=quh (b:=b) (q:=q) a (fun _ _ h=>h) j;omega
theorem qrf(a:srcB xs (ndB b)=true):∀x,x∈xs->spanB x.Af=true:=fun x c=>by
 unfold srcB at a;rw[qai] at a;obtain⟨i,hi,rfl⟩:=List.mem_iff_getElem.1 c;have:=a i hi;rw[<-qeQ hi];simp only[je] at this;exact this.2.2.1
theorem qxu(a:TgOk b c br xs R):∀k,k∈R->k<2*(places b.Aa).length:=fun k d=>by
 obtain⟨i,hi,rfl⟩:=List.mem_iff_getElem.1 d;exact(a.ord.at hi).1
theorem qom(k:Nat)(s:qg):(wideF b ex f k s).2=(f k s).2:=by
 unfold wideF;cases decide (0<ex.length)&&((gt (linksL b) k).Au==2)<;>rfl
theorem qrw(a:TgOk b c br xs R)(l:SpansS b c f)(n:xs.length<=1048576)(v:cplsB b ks=true)(m:∀k,k<ks.length->q k=true->r k=true)(e:coupO b br xs R f (exq b ks r)=V t) :
  ∃i,coupO b br xs R f (exq b ks q)=V i/\Wd i t (2*(places b.Aa).length):=by
 have h:=a.bl;have y:=qfh h;have g:=qot n a.sr;have d:=qxu a;have x:∀p:Nat->Bool,(exq b ks p).length=b.Ac.length:=fun p=>by rw[qoP];omega
 have o:∀p:Nat->Bool,coupO b br xs R f (exq b ks p)=rnO (fE f (exQ b (exq b ks p))) (linksL b) (lvJ b br) xs R (zTm (2*(places b.Aa).length)):=fun p=>
  qo8 (lv:=lvJ b br) h l (fun k s=>qom k s) (quk h a.co l (x p)) g R _ d qm9
 rw[o r] at e;obtain⟨i,e1,u⟩:=qte (lv:=lvJ b br) (e1:=exQ b (exq b ks q)) (e2:=exQ b (exq b ks r)) h a.co l (fun k=>by
  unfold exQ exK;cases (gt (linksL b) k).Au==2
  ·exact⟨jQ _,jQ _,by show(0:Int)<=1000000000;decide⟩
  ·exact quh v m _) g (qrf a.sr) R _ _ _ d Wd.start e
 exact⟨i,by rw[o q];exact e1,u⟩
theorem qtU(d:TgOk b c br xs R)(i:SpansS b c f)(n:xs.length<=1048576)(m:cplsB b ks=true)(e:coupO b br xs R f (exq b ks q)=V t) :
  ∃l,rnO f (linksL b) (lvJ b br) xs R (zTm (2*(places b.Aa).length))=V l/\Wd l t (2*(places b.Aa).length):=by
 have h:=d.bl;have x:=qfh h;have g:=qot n d.sr;have a:=qxu d;have u:(exq b ks q).length=b.Ac.length:=by rw[qoP];omega
 have o:coupO b br xs R f (exq b ks q)=rnO (fE f (exQ b (exq b ks q))) (linksL b) (lvJ b br) xs R (zTm (2*(places b.Aa).length)):=
  qo8 (lv:=lvJ b br) h i (fun k s=>qom k s) (quk h d.co i u) g R _ a qm9
 rw[o] at e;obtain⟨l,e1,r⟩:=qte (lv:=lvJ b br) (e1:=fun _=>0) h d.co i (fun k=>by have:=qwO (b:=b) (k:=k) (quw (b:=b) (q:=q) m);exact⟨jQ _,this.1,this.2⟩) g (qrf d.sr) R _ _ _ a Wd.start e;have p:∀k s,k<(linksL b).length->slR s->fE f (fun _=>0) k s=f k s:=fun k s m v=>by
  obtain⟨y,z,A⟩:=qqq h d.co i m v;show(wideS 0 (f k s).1,(f k s).2)=f k s;rw[qrd y z A]
 have e2:=qo8 (lv:=lvJ b br) (f1:=fE f (fun _=>0)) h i (fun _ _=>rfl) p g R _ a qm9;rw[e1] at e2;exact⟨l,e2.symm,r⟩
theorem qww(a:TgOk b c br xs R)(o:br.length<=1048576)(u:xs.length<=1048576)(p:SpansS b c f)(r:∀e:List Int,e.length=0\/e.length=b.Ac.length->SpansI b c e (wideF b e f))(h:ex.length=b.Ac.length) :
  (∀t,coupO b br xs R f ex=V t->TmOk t (ndB b))/\Ev (fun n=>qhx n b c br xs ex (ints R)) (runR (coupO b br xs R f ex))/\Ev (fun n=>qbh n (V ⟨V (viewE b ex),lvJ b br⟩) c xs (ints R)) (runR (coupO b br xs R f ex)):=by
 have l:=a.bl;have v:=qaV (qY (qan l));have m:=a.len;have g:R.length<=1000:=by rw[m];show 2*(places b.Aa).length<=1000;omega
 have d:=qot u a.sr;exact⟨fun t x=>qxq l p (fun k s=>qom k s) d R (zTm (2*(places b.Aa).length)) t (qxu a) qm9 x,
  qwN (R:=R) l p h o d (qxu a) g,qrT (lv:=lvJ b br) (R:=R) l p (fun k s=>qom k s) (r ex (.inr h)) qkZ d (fun i hi=>⟨(a.ord.at hi).1,(a.ord.at hi).2.1⟩) g⟩
theorem qug(h:TgOk b c br xs R)(d:br.length<=1048576)(l:xs.length<=1048576)(a:b.Aa.Ah.length<=1048576)(i:cplsB b ks=true)(m:SpansS b c f)(g:∀e:List Int,e.length=0\/e.length=b.Ac.length->SpansI b c e (wideF b e f))(q:Nat->Bool) :
  (∀t,coupO b br xs R f (exq b ks q)=V t->TmOk t (ndB b))/\Ev (fun n=>qgl n b ks (ints (selN q ks.length))) (exq b ks q)/\Ev (fun n=>qcr n b ks (ints (selN q ks.length))) (exq b ks q) /\
   Ev (fun n=>qhx n b c br xs (exq b ks q) (ints R)) (runR (coupO b br xs R f (exq b ks q)))/\Ev (fun n=>qbh n (V ⟨V (viewE b (exq b ks q)),lvJ b br⟩) c xs (ints R)) (runR (coupO b br xs R f (exq b ks q))):=by
 have k:=(qhh i).1;have p:=qfh h.bl;have o:=qkt (q:=q) k;obtain⟨o1,o2,r⟩:=qww (ex:=exq b ks q) h d l m g (by rw[qoP];omega);exact⟨o1,qqm (used:=ints (selN q ks.length)) i a (by omega) qoh,qmZ (used:=ints (selN q ks.length)) h.bl i a (by omega) qoh,o2,r⟩
theorem qtN(g:qfO b)(l:okS c.Az)(p:br.length<=1048576)(s:xs.length<=1048576)(t:ks.length<=1048576) :
  (∃code:Int,(code != 0)=true/\Ev (fun n=>qgF n b c br xs ks) ([],code)/\Ev (fun n=>qbo n b c br xs ks []) (G,[],code)) \/
  (cplsB b ks=true/\∃R,TgOk b c br xs R/\Ev (fun n=>qcE n b c br xs) (ints R,0)/\Ev (fun n=>qa2 n b c br xs G) (grB b br,ints R,0)):=by
 have i:b.Aa.Ah.length<=1048576:=g.Aa.Ah.len;have s1:=qeO g;have d:=qiA g;have s2:=qh3 (c:=c) l;have k:=qiQ (c:=c) l;have o:=qiv (b:=b) i t;have m:=qg0 (b:=b) i t;have x:=qxA (br:=br) (xs:=xs) g l p s;unfold qbo qgF;cases h0:blockB b&&cornerB c
 ·have h:=qvY (br:=br) (xs:=xs) g l h0;rcases x with⟨code,hne,hs,hi⟩|⟨R,hg,_⟩
  ·have e:code=1:=congrArg Prod.snd (hs.uniq h);subst e;refine .inl ⟨1,rfl,Ev.bind (b:=true) ?_ (Ev.tt Z .done),Ev.bind (b:=false) ?_ (Ev.ff Z (Ev.bind hi .done))⟩
   ·cases a:blockB b
    ·rw[a] at s1;exact Ev.bind s1 (Ev.tt Z .done)
    ·rw[a] at s1 h0;have f:cornerB c=false:=h0;rw[f] at s2;exact Ev.bind s1 (Ev.ff Z (Ev.bind s2 .done))
   ·cases a:blockB b
    ·rw[a] at d;exact Ev.bind d (Ev.ff Z .done)
    ·rw[a] at d h0;have f:cornerB c=false:=h0;rw[f] at k;exact Ev.bind d (Ev.tt Z (Ev.bind k (Ev.ff Z .done)))
  ·rw[hg.bl,hg.co] at h0;cases h0
 ·rw[je] at h0;obtain⟨a,f⟩:=h0;rw[a] at s1 d;rw[f] at s2 k;have v:Ev (fun n=>(qb2 n b).bind fun r1=>bif (!r1) then V true else(qcY n c).bind fun z=>V (!z)) false:=Ev.bind s1 (Ev.ff Z (Ev.bind s2 .done));cases h3:cplsB b ks
  ·rw[h3] at o m;exact .inl ⟨2,rfl,Ev.bind v (Ev.ff Z (Ev.bind o (Ev.tt Z .done))),Ev.bind (b:=true) (Ev.bind d (Ev.tt Z (Ev.bind k (Ev.tt Z (Ev.bind m (Ev.tt Z .done)))))) (Ev.tt Z .done)⟩
  rw[h3] at o m;rcases x with⟨code,hne,hs,hi⟩|⟨R,hg,hs,hi⟩
  ·have r:=(qhh h3).1;have u:=ql1 (ks:=ks) (used:=[]) r (by simp);have y:brB [] ks.length=true:=rfl;rw[y] at u;exact .inl ⟨code,qp3 hne,Ev.bind v (Ev.ff Z (Ev.bind o (Ev.ff Z (Ev.bind hs .done)))),Ev.bind (b:=false) (Ev.bind d (Ev.tt Z (Ev.bind k (Ev.tt Z (Ev.bind m (Ev.ff Z (Ev.bind u .done))))))) (Ev.ff Z (Ev.bind hi .done))⟩
  ·exact .inr ⟨rfl,R,hg,hs,hi⟩
theorem qqP(d:qfO b)(g:okS c.Az)(i:ks.length<=1048576)(f:cplsB b ks=true)(h:TgOk b c br xs R)(s:Ev (fun n=>qcE n b c br xs) (ints R,0))(hi:Ev (fun n=>qa2 n b c br xs G) (grB b br,ints R,0)) :
  Ev (fun n=>qgF n b c br xs ks) (ints R,0)/\Ev (fun n=>qbo n b c br xs ks []) (grB b br,ints R,0):=by
 have a:b.Aa.Ah.length<=1048576:=d.Aa.Ah.len;have s1:=qeO d;have k:=qiA d;have s2:=qh3 (c:=c) g;have l:=qiQ (c:=c) g;have p:=qiv (b:=b) a i;have m:=qg0 (b:=b) a i;rw[h.bl] at s1 k;rw[h.co] at s2 l;rw[f] at p m;have o:=ql1 (ks:=ks) (used:=[]) (qhh f).1 (by simp);have r:brB [] ks.length=true:=rfl;rw[r] at o;unfold qbo qgF;exact⟨Ev.bind (b:=false) (Ev.bind s1 (Ev.ff Z (Ev.bind s2 .done))) (Ev.ff Z (Ev.bind p (Ev.ff Z (Ev.bind s .done)))),Ev.bind (b:=false) (Ev.bind k (Ev.tt Z (Ev.bind l (Ev.tt Z (Ev.bind m (Ev.ff Z (Ev.bind o .done))))))) (Ev.ff Z (Ev.bind hi .done))⟩
theorem qsx(K:br.length<=1048576)(P:xs.length<=1048576)(M:b.Aa.Ah.length<=1048576)(H:cplsB b ks=true)(hg:TgOk b c br xs R)(hs:Ev (fun n=>qgF n b c br xs ks) (ints R,0))(hi:Ev (fun n=>qbo n b c br xs ks []) (grB b br,ints R,0))
  (hf:SpansS b c f) (L:∀e:List Int,e.length=0\/e.length=b.Ac.length->SpansI b c e (wideF b e f)) (J:(Nat->Bool)->Prop) (I:J fun _=>false) (hJ:∀q t,J q->coupO b br xs R f (exq b ks q)=V t->J fun k=>q k || actQ b t ks k) :
  ∃X:qn×List Int×Int×Int,((X=(zT,[],0,3)/\∃q,J q/\coupO b br xs R f (exq b ks q)=G) \/
   ∃q t r,J q/\coupO b br xs R f (exq b ks q)=V t/\(selN (fun k=>q k || actQ b t ks k) ks.length).length=(selN q ks.length).length/\(1<=r/\r<=(ks.length:Int)+1)/\X=(t,ints (selN q ks.length),r,0)) /\
   Ev (fun n=>qdy n b c br xs ks) X/\Ev (fun n=>qcI n b c br xs ks) X:=by
 have Y:=qug hg K P M H hf L;have W:=hg.bl;have o:=(qhh H).1;have hk:ks.length<=1048576:=by omega
 have mg:∀(q a:Nat->Bool),selN (fun k=>hasI (ints (selN q ks.length)) (k:Int) || hasI (ints (selN a ks.length)) (k:Int)) ks.length=selN (fun k=>q k || a k) ks.length:=fun q a=>qtF fun k B=>by rw[qon B,qon B]
 have i:∀(u v:List Nat),(((ints u).length:Int)==((ints v).length:Int))=decide (u.length=v.length):=fun u v=>by rw[qbv,qbv,jj,beq_iff_eq,decide_eq_true_iff];omega
 have eU:∀(q a:Nat->Bool),compI (sortI (ints (selN q ks.length)++ints (selN a ks.length)))=ints (selN (fun k=>q k || a k) ks.length):=fun q a=>qt5;have F:∀q t a,((coupO b br xs R f (exq b ks q)).map fun t=>(t,actQ b t ks))=V (t,a)->coupO b br xs R f (exq b ks q)=V t/\a=actQ b t ks:=fun q t a h=>by
  cases g:coupO b br xs R f (exq b ks q) with
  |none=>rw[g] at h;cases h
  |some t'=>rw[g] at h;obtain⟨rfl,rfl⟩:=Prod.mk.inj (Option.some.inj h);exact⟨rfl,rfl⟩
 obtain⟨X,hX,C,z⟩:=qvG (m:=ks.length) (by omega) (ε:=List Int) (lim:=((zT,[],0,3):qn×(List Int)×Int×Int))
  (Ls:=fun n u r=>qdx b c br xs ks (ints R) n u r)
  (Li:=fun n e u r=>qdw b c xs ks (ints R) (lvJ b br) (pre (exactL b) b.Ac.length) (pre (load0 b) b.Ac.length) (linksL b) (places b.Aa) n e u r)
  (fin:=fun t u r=>(t,u,r,0)) J (fun q=>(coupO b br xs R f (exq b ks q)).map fun t=>(t,actQ b t ks))
  (fun q t a A h=>by
   obtain⟨g,rfl⟩:=F q t a h;exact hJ q t A g)
  (fun q r X Q S T=>by
   obtain⟨O,sE,_,o2,_⟩:=Y q;simp only[qdx];refine Ev.bind sE (Ev.bind o2 ?_);cases g:coupO b br xs R f (exq b ks q) with
   |none=>
    rw[Q (by rw[g];rfl)];exact Ev.tt Z .done
   |some t=>
    have x:=O t g;have y:(ints (selN (actQ b t ks) ks.length)).length<=1048576:=by rw[qbv];exact jT qgy hk
    have D:(ints (selN q ks.length)).length<=1048576:=by have:=qkt (q:=q) o;omega
    have sM:=qsE (m:=ks.length) (a:=ints (selN q ks.length)) (d:=ints (selN (actQ b t ks) ks.length)) hk D y;rw[mg] at sM;refine Ev.ff Z (Ev.bind (qqt W ⟨x.r,x.a⟩ H) (Ev.bind sM ?_));have p:=S t (actQ b t ks) (by rw[g];rfl);have s:=T t (actQ b t ks) (by rw[g];rfl);rw[i];by_cases l:(selN (fun k=>q k || actQ b t ks k) ks.length).length=(selN q ks.length).length
    ·rw[p l];exact Ev.tt (by simpa using l) .done
    ·exact Ev.ff (by simpa using l) (s l))
  (fun e q r X Q S T=>by
   obtain⟨O,_,iE,_,o3⟩:=Y q;simp only[qdw];refine Ev.bind iE (Ev.bind o3 ?_);cases g:coupO b br xs R f (exq b ks q) with
   |none=>
    rw[Q (by rw[g];rfl)];exact Ev.tt Z .done
   |some t=>
    have x:=O t g;have D:=qkt (q:=q) o;have y:=qkt (q:=actQ b t ks) o;refine Ev.ff Z (Ev.bind (qrt (exq b ks q) W ⟨x.r,x.a⟩ H) (Ev.bind (qu1 (a:=ints (selN q ks.length)) (d:=ints (selN (actQ b t ks) ks.length)) (by omega)) ?_));have N:sortS (ints (selN q ks.length)++ints (selN (actQ b t ks) ks.length))=V (sortI (ints (selN q ks.length)++ints (selN (actQ b t ks) ks.length))):=by
     unfold sortS;rw[if_pos (by rw[jg];omega)]
    refine Ev.bindN N (Ev.bindN Z ?_);rw[eU];have p:=S t (actQ b t ks) (by rw[g];rfl);have s:=T t (actQ b t ks) (by rw[g];rfl);rw[i];by_cases l:(selN (fun k=>q k || actQ b t ks k) ks.length).length=(selN q ks.length).length
    ·rw[p l];exact Ev.tt (by simpa using l) .done
    ·exact Ev.ff (by simpa using l) (s l (exq b ks q)))
  _ (fun _=>false) 1 Z I (by omega)
 have e0:ints (selN (fun _=>false) ks.length)=[]:=by unfold selN ints;simp
 rw[e0] at C z;refine⟨X,?_,?_,?_⟩
 ·rcases hX with⟨h,q,A,hn⟩|⟨q,t,a,r,A,hn,hl,hr,e⟩
  ·refine .inl ⟨h,q,A,?_⟩;cases g:coupO b br xs R f (exq b ks q) with
   |none=>rfl
   |some t=>rw[g] at hn;cases hn
  ·obtain⟨g,rfl⟩:=F q t a hn;have:=qgy (q:=q) (j:=ks.length);exact .inr ⟨q,t,r,A,g,hl,⟨hr.1,by omega⟩,e⟩
 ·unfold qdy;exact Ev.bind hs (Ev.ff Z (Ev.bind C .done))
 ·unfold qcI;refine Ev.bind hi ?_;unfold grB viewV viewE;dsimp only;exact Ev.bind (z []) .done
theorem qqW(h:qfO b)(r:okS c.Az)(u:br.length<=1048576)(x:xs.length<=1048576)(C:ks.length<=1048576)(l:used.length<=1048576) :
  (∃code:Int,(code != 0)=true/\Ev (fun n=>qe7 n b c br xs ks used) (false,code)/\Ev (fun n=>qdY n b c br xs ks used) (false,code)) \/
  (cplsB b ks=true/\brB used ks.length=true/\∃R,TgOk b c br xs R/\Ev (fun n=>qcE n b c br xs) (ints R,0)/\Ev (fun n=>qa2 n b c br xs G) (grB b br,ints R,0)):=by
 have k:b.Aa.Ah.length<=1048576:=h.Aa.Ah.len;have s1:=qeO h;have a:=qiA h;have s2:=qh3 (c:=c) r;have f:=qiQ (c:=c) r;have p:=qiv (b:=b) k C;have o:=qg0 (b:=b) k C;have D:=qxA (br:=br) (xs:=xs) h r u x;unfold qe7 qdY qbo;cases h0:blockB b&&cornerB c
 ·have i:=qvY (br:=br) (xs:=xs) h r h0;rcases D with⟨code,hne,hs,hi⟩|⟨R,hg,_⟩
  ·have e:code=1:=congrArg Prod.snd (hs.uniq i);subst e;refine .inl ⟨1,rfl,Ev.bind (b:=true) ?_ (Ev.tt Z .done),Ev.bind (b:=(G,[],1)) (Ev.bind (b:=false) ?_ (Ev.ff Z (Ev.bind hi .done))) (Ev.tt Z .done)⟩
   ·cases d:blockB b
    ·rw[d] at s1;exact Ev.bind s1 (Ev.tt Z .done)
    ·rw[d] at s1 h0;have g:cornerB c=false:=h0;rw[g] at s2;exact Ev.bind s1 (Ev.ff Z (Ev.bind s2 .done))
   ·cases d:blockB b
    ·rw[d] at a;exact Ev.bind a (Ev.ff Z .done)
    ·rw[d] at a h0;have g:cornerB c=false:=h0;rw[g] at f;exact Ev.bind a (Ev.tt Z (Ev.bind f (Ev.ff Z .done)))
  ·rw[hg.bl,hg.co] at h0;cases h0
 ·rw[je] at h0;obtain⟨d,g⟩:=h0;rw[d] at s1 a;rw[g] at s2 f;have B:Ev (fun n=>(qb2 n b).bind fun r1=>bif (!r1) then V true else(qcY n c).bind fun y=>V (!y)) false:=Ev.bind s1 (Ev.ff Z (Ev.bind s2 .done));cases h3:cplsB b ks
  ·rw[h3] at p o;exact .inl ⟨2,rfl,Ev.bind B (Ev.ff Z (Ev.bind (b:=true) (Ev.bind p (Ev.tt Z .done)) (Ev.tt Z .done))),Ev.bind (b:=(G,[],2)) (Ev.bind (b:=true) (Ev.bind a (Ev.tt Z (Ev.bind f (Ev.tt Z (Ev.bind o (Ev.tt Z .done)))))) (Ev.tt Z .done)) (Ev.tt Z .done)⟩
  rw[h3] at p o;have v:=(qhh h3).1;have t:=qpd (br:=used) (m:=ks.length) l (by omega);have s:=ql1 (ks:=ks) v l;cases hu:brB used ks.length
  ·rw[hu] at t s;exact .inl ⟨2,rfl,Ev.bind B (Ev.ff Z (Ev.bind (b:=true) (Ev.bind p (Ev.ff Z (Ev.bind t .done))) (Ev.tt Z .done))),Ev.bind (b:=(G,[],2)) (Ev.bind (b:=true) (Ev.bind a (Ev.tt Z (Ev.bind f (Ev.tt Z (Ev.bind o (Ev.ff Z (Ev.bind s .done))))))) (Ev.tt Z .done)) (Ev.tt Z .done)⟩
  rw[hu] at t s;have H:Ev (fun n=>(qc5 n b ks).bind fun z=>bif (!z) then V true else(qe8 n used (ks.length:Int)).bind fun A=>V (!A)) false:=Ev.bind p (Ev.ff Z (Ev.bind t .done));have F:Ev (fun n=>(qdV n b).bind fun r1=>bif r1 then(qdS n c).bind fun y=>bif y then(qbE n b ks).bind fun z=>bif (!z) then V true else(qhD n ks used).bind fun A=>V (!A) else V false else V false) false:=
   Ev.bind a (Ev.tt Z (Ev.bind f (Ev.tt Z (Ev.bind o (Ev.ff Z (Ev.bind s .done))))))
  rcases D with⟨code,hne,hs,hi⟩|⟨R,hg,hs,hi⟩
  ·exact .inl ⟨code,qp3 hne,Ev.bind B (Ev.ff Z (Ev.bind H (Ev.ff Z (Ev.bind hs (Ev.tt (qp3 hne) .done))))),Ev.bind (b:=(G,[],code)) (Ev.bind F (Ev.ff Z (Ev.bind hi .done))) (Ev.tt (qp3 hne) .done)⟩
  ·exact .inr ⟨rfl,rfl,R,hg,hs,hi⟩
theorem qpF(v:qfO b)(K:okS c.Az)(y:br.length<=1048576)(C:xs.length<=1048576)(g:used.length<=1048576)(k:cplsB b ks=true)(s:brB used ks.length=true)(A:TgOk b c br xs R)(L:Ev (fun n=>qcE n b c br xs) (ints R,0))(hi:Ev (fun n=>qa2 n b c br xs G) (grB b br,ints R,0))
  (hf:SpansS b c f) (z:∀e:List Int,e.length=0\/e.length=b.Ac.length->SpansI b c e (wideF b e f)) {X:Bool×Int} (x0:coupO b br xs R f (exS ks b.Aa.Ah.length used used.length)=G->X=(false,3)) (x1:∀t,coupO b br xs R f (exS ks b.Aa.Ah.length used used.length)=V t->X=((ints (selN (actQ b t ks) ks.length)).all fun x=>hasI used x,0)) :
  Ev (fun n=>qe7 n b c br xs ks used) X/\Ev (fun n=>qdY n b c br xs ks used) X:=by
 have h:b.Aa.Ah.length<=1048576:=v.Aa.Ah.len;have l:=A.bl;have B:=(qhh k).1;have p:ks.length<=1048576:=by omega
 have s1:=qeO v;have M:=qiA v;have s2:=qh3 (c:=c) K;have N:=qiQ (c:=c) K;have S:=qiv (b:=b) h p;have O:=qg0 (b:=b) h p;have T:=qpd (br:=used) (m:=ks.length) g (by omega);have P:=ql1 (ks:=ks) B g;rw[l] at s1 M;rw[A.co] at s2 N;rw[k] at S O;rw[s] at T P;have hwl:=qfh l;unfold qe7 qdY qbo;have W:Ev (fun n=>(qb2 n b).bind fun r1=>bif (!r1) then V true else(qcY n c).bind fun F=>V (!F)) false:=Ev.bind s1 (Ev.ff Z (Ev.bind s2 .done));have Y:Ev (fun n=>(qc5 n b ks).bind fun H=>bif (!H) then V true else(qe8 n used (ks.length:Int)).bind fun I=>V (!I)) false:=Ev.bind S (Ev.ff Z (Ev.bind T .done));have Q:Ev (fun n=>(qdV n b).bind fun r1=>bif r1 then(qdS n c).bind fun F=>bif F then(qbE n b ks).bind fun H=>bif (!H) then V true else(qhD n ks used).bind fun I=>V (!I) else V false else V false) false:=
  Ev.bind M (Ev.tt Z (Ev.bind N (Ev.tt Z (Ev.bind O (Ev.ff Z (Ev.bind P .done))))))
 have J:=qqm k h g s;have D:=qmZ l k h g s;have i:(exS ks b.Aa.Ah.length used used.length).length=b.Ac.length:=by rw[qop];omega
 generalize exS ks b.Aa.Ah.length used used.length=ex at J D i x0 x1;obtain⟨o1,o2,u⟩:=qww (ex:=ex) A y C hf z i;cases ho:coupO b br xs R f ex with
 |none=>
  rw[ho] at o2 u;obtain rfl:=x0 ho;refine⟨Ev.bind W (Ev.ff Z (Ev.bind Y (Ev.ff Z (Ev.bind L (Ev.ff Z (Ev.bind J (Ev.bind o2 (Ev.tt Z .done)))))))),Ev.bind (b:=(grB b br,ints R,0)) (Ev.bind Q (Ev.ff Z (Ev.bind hi .done))) ?_⟩;unfold grB viewV viewE;dsimp only;exact Ev.bind D (Ev.bind u (Ev.tt Z .done))
 |some t=>
  have r:=o1 t ho;rw[ho] at o2 u;obtain rfl:=x1 t ho;have o:(ints (selN (actQ b t ks) ks.length)).length<=1048576:=by rw[qbv];exact jT qgy p
  have sM:=qsE (m:=ks.length) (a:=used) (d:=ints (selN (actQ b t ks) ks.length)) p g o;have iS:=qt0 (xs:=ints (selN (actQ b t ks) ks.length)) (used:=used) o g;refine⟨Ev.bind W (Ev.ff Z (Ev.bind Y (Ev.ff Z (Ev.bind L (Ev.ff Z (Ev.bind J (Ev.bind o2 (Ev.ff Z (Ev.bind (qqt l ⟨r.r,r.a⟩ k) (Ev.bind sM (Ev.now ?_))))))))))),Ev.bind (b:=(grB b br,ints R,0)) (Ev.bind Q (Ev.ff Z (Ev.bind hi .done))) ?_⟩
  ·rw[quG s]
  ·unfold grB viewV viewE;dsimp only;refine Ev.bind D (Ev.bind u (Ev.ff Z (Ev.bind (qrt ex l ⟨r.r,r.a⟩ k) (Ev.bind iS (Ev.now ?_)))));rw[Bool.not_not]
theorem qv9{m:Nat}(h:brB used m=true):used=ints (selN (fun k=>hasI used (k:Int)) m):=by
 have d:=h;unfold brB at d;rw[je,jF] at d;have p1:used.Pairwise (·<·):=List.pairwise_iff_getElem.2 fun i j hi c g=>by
  have:=quq d.2 g c;rwa [qhF hi,qhF c] at this
 have mem:∀x,x∈used↔x∈ints (selN (fun k=>hasI used (k:Int)) m):=fun x=>by
  constructor
  ·intro f;have:=d.1 x f;rw[qaK] at this;refine qfC.2 ⟨x.toNat,qbM.2 ⟨by omega,?_⟩,by omega⟩;unfold hasI;rw[List.any_eq_true];exact⟨x,f,by rw[beq_iff_eq];omega⟩
  ·intro f;obtain⟨j,c,rfl⟩:=qfC.1 f;have:=(qbM.1 c).2;unfold hasI at this;rw[List.any_eq_true] at this;obtain⟨y,p,e⟩:=this;rw[beq_iff_eq] at e;subst e;exact p
 have n:∀l:List Int,l.Pairwise (·<·)->l.Nodup:=fun l h=>h.imp fun h=>by omega
 have o:used.Perm (ints (selN (fun k=>hasI used (k:Int)) m)):=(List.perm_ext_iff_of_nodup (n _ p1) (n _ qla)).2 mem;exact o.eq_of_pairwise (fun a b _ _ r s=>by omega) p1 qla
theorem qvN{q a:Nat->Bool}:∀{m:Nat},(selN (fun k=>q k || a k) m).length=(selN q m).length->∀k,k<m->a k=true->q k=true:=by
 intro m
 induction m with
 |zero=>intro _ k c;omega
 |succ m ih=>
  intro h k c b;rw[qhM,qhM,jg,jg] at h;have f:=qrE (q:=q) (a:=a) (m:=m);have d:(bif q m then[m] else[]).length<=(bif q m || a m then[m] else[]).length:=by cases q m<;>cases a m<;>simp
  by_cases e:k=m
  ·subst e;cases hq:q k with
   |true=>rfl
   |false=>rw[hq,b] at h;simp at h;omega
  ·exact ih (by omega) k (by omega) b
theorem qun{q a:Nat->Bool}{m:Nat}:((ints (selN a m)).all fun x=>hasI (ints (selN q m)) x)=true↔∀k,k<m->a k=true->q k=true:=by
 rw[jF];constructor
 ·intro h k b i;have:=h (k:Int) (qfC.2 ⟨k,qbM.2 ⟨b,i⟩,rfl⟩);rwa [qon b] at this
 ·intro h x l;obtain⟨k,b,f⟩:=qfC.1 l;obtain⟨d,g⟩:=qbM.1 b;have c:x=(k:Int):=f.symm;rw[c,qon d];exact h k d g
theorem qs2(l:qfO b)(s:okS c.Az)(g:br.length<=1048576)(a:xs.length<=1048576)(z:ks.length<=1048576) :
  ∃X:qn×List Int×Int×Int,Ev (fun n=>qdy n b c br xs ks) X/\Ev (fun n=>qcI n b c br xs ks) X/\((X.1.Ar.length<=156/\X.1.Af.length<=156/\X.1.Av.length<=156)/\X.2.1.length<=20/\∀x,x∈X.2.1->0<=x/\x<=20) /\
   (X.2.2.2=0->∃(ex:List Int) (u:qn) (M:Nat),M<=1000/\ex.length<=1048576/\Ev (fun n=>qdY n b c br xs ks X.2.1) (true,0)/\Ev (fun n=>qnZ n b ks X.2.1) (ex,0)/\Ev (fun n=>qg5 n b c br xs ex) (X.1,0)/\Ev (fun n=>qhm n b c br xs) (u,0)/\Wd u X.1 M/\1<=X.2.2.1/\X.2.2.1<=(ks.length:Int)+1/\ks.length<=20):=by
 have h:b.Aa.Ah.length<=1048576:=l.Aa.Ah.len;have F:∀code:Int,((((zT,[],0,code):qn×(List Int)×Int×Int).1.Ar.length<=156/\((zT,[],0,code):qn×(List Int)×Int×Int).1.Af.length<=156/\((zT,[],0,code):qn×(List Int)×Int×Int).1.Av.length<=156)/\((zT,[],0,code):qn×(List Int)×Int×Int).2.1.length<=20/\∀x,x∈((zT,[],0,code):qn×(List Int)×Int×Int).2.1->0<=x/\x<=20):=fun _=>⟨⟨jW _,jW _,jW _⟩,jW _,fun x D=>by cases D⟩;rcases qtN (br:=br) (xs:=xs) (ks:=ks) l s g a z with⟨code,hne,hs,hi⟩|⟨h3,R,hg,hs,ht⟩
 ·refine⟨(zT,[],0,code),?_,?_,F code,fun e=>by rw[show code=0 from e] at hne;cases hne⟩
  ·unfold qdy;exact Ev.bind hs (Ev.tt hne .done)
  ·unfold qcI;exact Ev.bind hi (Ev.tt hne .done)
 ·obtain⟨f,m,d⟩:=qsC hg.bl hg.co;obtain⟨N,L⟩:=qqP l s z h3 hg hs ht;have i:=(qhh h3).1;obtain⟨X,P,B,y⟩:=qsx (f:=f) g a h h3 hg N L m d (fun _=>True) trivial (fun _ _ _ _=>trivial);refine⟨X,B,y,?_⟩;rcases P with⟨rfl,_⟩|⟨q,t,r,_,ho,hl,hr,rfl⟩
  ·exact⟨F 3,fun e=>by cases e⟩
  ·have Y:=qfh hg.bl;have S:=qaV (qY (qan hg.bl));have v:=(qug hg g a h h3 m d q).1 t ho;have T:=v.r;have Q:=v.a;have W:=v.s;have eM:ndB b=2*(places b.Aa).length:=rfl;have C:=qkt (q:=q) i;have o:(exq b ks q).length=b.Ac.length:=by rw[qoP];omega
   obtain⟨u,e2,O⟩:=qtU (f:=f) hg m a h3 ho;have p:=(qpF (f:=f) (X:=(true,0)) l s g a (used:=ints (selN q ks.length)) (by omega) h3 qoh hg hs ht m d (fun e=>by
     have:coupO b br xs R f (exq b ks q)=G:=e;rw[ho] at this;cases this) (fun t' e=>by
     have:coupO b br xs R f (exq b ks q)=V t':=e;rw[ho] at this;obtain rfl:=Option.some.inj this;rw[qun.2 (qvN hl)])).2
   refine⟨⟨⟨by show t.Ar.length<=156;omega,by show t.Af.length<=156;omega,by show t.Av.length<=156;omega⟩,C,fun x D=>?_⟩,fun _=>⟨exq b ks q,u,2*(places b.Aa).length,by omega,by omega,p,?_,qxY l s (by omega) a hg m (d _ (.inr o)) o (quw h3) ho ht,qwA a hg m (d [] (.inl Z)) e2 ht,O,hr.1,hr.2,i⟩⟩
   ·obtain⟨k,A,J⟩:=qfC.1 D;have:=(qbM.1 A).1;have K:x=(k:Int):=J.symm;omega
   ·have i0:=qiA l;have H:=qg0 (b:=b) h z;have I:=ql1 (ks:=ks) (used:=ints (selN q ks.length)) i (by omega);rw[hg.bl] at i0;rw[h3] at H;rw[qoh] at I;unfold qnZ;exact Ev.bind i0 (Ev.ff Z (Ev.bind (b:=false) (Ev.bind H (Ev.ff Z (Ev.bind I .done))) (Ev.ff Z (Ev.bind (qmZ hg.bl h3 h (show(ints (selN q ks.length)).length<=1048576 by omega) qoh) .done))))
theorem qtb(y:qfO b)(B:okS c.Az)(i:br.length<=1048576)(d:xs.length<=1048576)(L:ks.length<=1048576)(u:used.length<=1048576) :
  ∃X:Bool×Int,Ev (fun n=>qe7 n b c br xs ks used) X/\Ev (fun n=>qdY n b c br xs ks used) X /\
   (X=(true,0)->∃Y:qn×List Int×Int×Int,Ev (fun n=>qcI n b c br xs ks) Y/\Y.2.2.2=0/\Y.2.1.length<=20/\∀x,x∈Y.2.1->hasI used x=true):=by
 have F:b.Aa.Ah.length<=1048576:=y.Aa.Ah.len;rcases qqW (br:=br) (xs:=xs) (ks:=ks) (used:=used) y B i d L u with⟨code,hne,hs,hi⟩|⟨h3,hu,R,hg,hs,ht⟩
 ·exact⟨(false,code),hs,hi,fun e=>by cases e⟩
 ·obtain⟨f,z,p⟩:=qsC hg.bl hg.co;have D:=(qhh h3).1;have v:=fun {X:Bool×Int}=>qpF (X:=X) (f:=f) (used:=used) y B i d u h3 hu hg hs ht z p;cases ho:coupO b br xs R f (exS ks b.Aa.Ah.length used used.length) with
  |none=>
   obtain⟨J,I⟩:=v (X:=(false,3)) (fun _=>rfl) (fun t e=>by rw[ho] at e;cases e);exact⟨_,J,I,fun e=>by cases e⟩
  |some t=>
   obtain⟨J,I⟩:=v (X:=((ints (selN (actQ b t ks) ks.length)).all fun x=>hasI used x,0)) (fun e=>by rw[ho] at e;cases e) (fun M e=>by
    rw[ho] at e;obtain rfl:=Option.some.inj e
    rfl)
   refine⟨_,J,I,fun e=>?_⟩;have g:((ints (selN (actQ b t ks) ks.length)).all fun x=>hasI used x)=true:=congrArg Prod.fst e;have l:=qv9 hu;obtain⟨U,K⟩:∃U:Nat->Bool,U=fun k:Nat=>hasI used (k:Int):=⟨_,rfl⟩;rw[<-K] at l;have s:coupO b br xs R f (exq b ks U)=V t:=by
    unfold exq;rw[<-l];exact ho
   rw[l] at g;have o:=qun.1 g;obtain⟨P,O⟩:=qqP y B L h3 hg hs ht;obtain⟨Y,S,_,C⟩:=qsx (f:=f) i d F h3 hg P O z p (fun q=>∀k,k<ks.length->q k=true->U k=true) (fun k _ h=>by cases h) (fun q M m H k a h=>by
    rw[Jg] at h;rcases h with h|h
    ·exact m k a h
    ·obtain⟨t1,e1,Q⟩:=qrw (q:=q) hg z d h3 m s;rw[H] at e1;obtain rfl:=Option.some.inj e1;exact o k a (qu8 hg.bl h3 Q a h))
   refine⟨Y,C,?_⟩;rcases S with⟨_,q,m,hn⟩|⟨q,M,r,m,_,_,_,rfl⟩
   ·obtain⟨t1,e1,_⟩:=qrw (q:=q) hg z d h3 m s;rw[hn] at e1;cases e1
   ·refine⟨rfl,qkt D,fun x T=>?_⟩;obtain⟨k,a,N⟩:=qfC.1 T;obtain⟨W,k2⟩:=qbM.1 a;have A:x=(k:Int):=N.symm;have:=m k W k2;rw[K] at this;rw[A];exact this
end

section
variable{code:List (IntK .u8)}{a s:Int}
theorem qw3{b:qd}{m:Int}(F:b.Aa.Ah.length<=1048576)(hi:okI m)(l:CodeOk code):∀(d j:Nat) (x:List qi) (f i:Int),SrcI code f i->j+d=b.Aa.Ah.length->(x.length<=20/\∀y,y∈x->qfQ y) ->
  EvQ (fun n=>qey ⟨code,a,s⟩ b m n x f i (j:Int)) (fun o=>(o.1.length<=20/\∀y,y∈o.1->qfQ y)/\SrcI code o.2.1 o.2.2.1):=by
 intro d
 induction d with
 |zero=>
  intro j x f i c r g;refine EvQ.succ ?_;simp only[qey];exact EvQ.ff (qq (by omega)) (EvQ.done ⟨g,c⟩)
 |succ d ih=>
  intro j x f i c r g;refine EvQ.succ ?_;simp only[qey,wS j];refine EvQ.tt (qp (by omega)) (EvQ.bind (R:=fun o:Int×Int×Bool=>SrcI code o.1 o.2.1/\(o.2.2=true->x.length<20)) (EvQ.bind (qam _ l c) ?_) ?_)
  ·rintro⟨z,A,B⟩ ⟨_,c⟩;dsimp only at c⊢;refine EvQ.bif (fun _=>EvQ.done ⟨c,fun h=>?_⟩) (fun _=>EvQ.done ⟨c,fun h=>by cases h⟩);have:(x.length:Int)<20:=by simpa using h
   omega
  ·rintro⟨H,I,b1⟩ ⟨c,k⟩;dsimp only at c k⊢;refine EvQ.bif (fun p=>?_) (fun _=>ih (j+1) _ _ _ c (by omega) g);have t:=k p;refine EvQ.bind (qam _ l c) ?_;rintro⟨J,u,v⟩ ⟨⟨⟨C,D⟩,_⟩,c⟩;dsimp only at C D c⊢;exact EvQ.bindN (qb1 (by omega)) (ih (j+1) _ _ _ c (by omega) ⟨by rw[jg,jh];omega,qbp g.2 ⟨hi,qaj (x:=(j:Int)) (by omega) (by omega),qaW _⟩⟩)
theorem qwY{b:qd}(k:b.Aa.Ah.length<=1048576)(l:CodeOk code):∀(d j:Nat) (x:List qi) (c g:Int),SrcI code c g->j+d=b.Aa.Ah.length->(x.length<=20/\∀y,y∈x->qfQ y) ->
  EvQ (fun n=>qfw ⟨code,a,s⟩ b n x c g (j:Int)) (fun o=>(o.1.length<=20/\∀y,y∈o.1->qfQ y)/\SrcI code o.2.1 o.2.2.1):=by
 intro d
 induction d with
 |zero=>
  intro j x c g f m h;refine EvQ.succ ?_;simp only[qfw];exact EvQ.ff (qq (by omega)) (EvQ.done ⟨h,f⟩)
 |succ d ih=>
  intro j x c g f m h;refine EvQ.succ ?_;simp only[qfw,wS j];refine EvQ.tt (qp (by omega)) (EvQ.bind (qw3 k (qaj (x:=(j:Int)) (by omega) (by omega)) l d (j+1) x c g f (by omega) h) ?_);rintro⟨u,p,r,t⟩ ⟨i,f⟩;exact ih (j+1) _ _ _ f (by omega) i
theorem qvh{b:qd}(A:b.Aa.Ah.length<=1048576)(m:CodeOk code)(h:SrcI code a s):EvQ (fun n=>qki n ⟨code,a,s⟩ b) (fun o=>(o.1.length<=21/\okL qfQ o.1)/\SrcI code o.2.1 o.2.2):=by
 unfold qki;refine EvQ.bind (qwY A m b.Aa.Ah.length 0 [] a s h (by omega) ⟨jW _,fun _ h=>by cases h⟩) ?_;rintro⟨l,Q,R,S⟩ ⟨⟨B,g⟩,c⟩;dsimp only at B g c⊢;have nl:okI (b.Aa.Ah.length:Int):=qaj (x:=(b.Aa.Ah.length:Int)) (by omega) (by omega);refine EvQ.bif (fun C=>?_) (fun _=>EvQ.done ⟨⟨by dsimp only;omega,by dsimp only;omega,g⟩,c⟩);have p:0<l.length:=by
  have:(l.length:Int) > 0:=by simpa using C
  omega
 refine EvQ.bind (qam _ m c) ?_;rintro⟨i,F,H⟩ ⟨⟨⟨O,u⟩,_⟩,c⟩;dsimp only at O u c⊢;have T:=u (by omega);obtain⟨k,rfl⟩:∃k:Nat,i=(k:Int):=⟨i.toNat,by omega⟩;have f:k<l.length:=by omega
 have d:=g _ (jo f);have W:∀{y:qi},qfQ y->(setS l (k:Int) y).length<=21/\okL qfQ (setS l (k:Int) y):=fun {y} h=>⟨by rw[qaY];omega,by rw[qaY];omega,qio g h⟩;refine EvQ.bind (qam _ m c) ?_;rintro⟨I,J,K⟩ ⟨_,c⟩;dsimp only at c⊢;refine EvQ.bif (fun _=>EvQ.bindN (qa4 f) (EvQ.bindN (qa4 f) (EvQ.done ⟨W ⟨d.A,d.A,d.Bp⟩,c⟩))) (fun _=>EvQ.bif (fun _=>EvQ.bind (qam _ m c) ?_) (fun _=>EvQ.bif (fun _=>EvQ.bindN (qa4 f) (EvQ.bindN (qb1 (by omega)) (EvQ.done ⟨⟨by dsimp only;rw[jg,jh];omega,by dsimp only;rw[jg,jh];omega,qbp g d⟩,c⟩))) (fun _=>EvQ.bif (fun _=>EvQ.bindN (qa4 f) (EvQ.done ⟨W ⟨d.A,nl,d.Bp⟩,c⟩)) (fun _=>EvQ.done ⟨⟨by dsimp only;omega,by dsimp only;omega,g⟩,c⟩))));rintro⟨L,M,N⟩ ⟨⟨⟨r,t⟩,_⟩,c⟩;dsimp only at r t c⊢;obtain⟨v,e,D⟩:=qr8 (P:=okI) (x:=0) (y:=10000) (z:=10001) r (t (by decide)) (qlt (by decide) (by decide)) (qlt (by decide) (by decide)) (qlt (by decide) (by decide));exact EvQ.bindN e (EvQ.bindN (qa4 f) (EvQ.done ⟨W ⟨d.A,d.B,D⟩,c⟩))
theorem quV{ks:List qi}(m:ks.length<=1000)(i:CodeOk code)(h:SrcI code a s):EvQ (fun n=>qh4 n ⟨code,a,s⟩ ks) (fun o=>okL okI o.1/\SrcI code o.2.1 o.2.2):=by
 have L:∀(d j:Nat) (x:List Int) (f g:Int),SrcI code f g->j+d=ks.length->(x.length<=j/\∀y,y∈x->okI y)->EvQ (fun n=>qcp ⟨code,a,s⟩ ks n x f g (j:Int)) (fun o=>(o.1.length<=1000/\∀y,y∈o.1->okI y)/\SrcI code o.2.1 o.2.2.1):=by
  intro d
  induction d with
  |zero=>
   intro j x f g b k c;refine EvQ.succ ?_;simp only[qcp];exact EvQ.ff (qq (by omega)) (EvQ.done ⟨⟨by dsimp only;omega,c.2⟩,b⟩)
  |succ d ih=>
   intro j x f g b k c;refine EvQ.succ ?_;simp only[qcp,wS j];refine EvQ.tt (qp (by omega)) (EvQ.bind (qam _ i b) ?_);rintro⟨u,v,z⟩ ⟨_,b⟩;dsimp only at b⊢;exact EvQ.bif (fun _=>EvQ.bindN (qb1 (by omega)) (ih (j+1) _ _ _ b (by omega) ⟨by rw[jg,jh];omega,qbp c.2 (qaj (x:=(j:Int)) (by omega) (by omega))⟩)) (fun _=>ih (j+1) _ _ _ b (by omega) ⟨by omega,c.2⟩)
 unfold qh4;refine EvQ.bind (L ks.length 0 [] a s h (by omega) ⟨jW _,fun _ h=>by cases h⟩) ?_;rintro⟨D,p,r,t⟩ ⟨⟨l,c⟩,b⟩;dsimp only at l c b⊢;refine EvQ.bind (qam _ i b) ?_;rintro⟨A,B,C⟩ ⟨_,b⟩;dsimp only at b⊢;exact EvQ.bif (fun _=>EvQ.bindN (qb1 (by omega)) (EvQ.done ⟨⟨by dsimp only;rw[jg,jh];omega,qbp c (qaj (x:=(ks.length:Int)) (by omega) (by omega))⟩,b⟩)) (fun _=>EvQ.done ⟨⟨by dsimp only;omega,c⟩,b⟩)
theorem qwa(d:CodeOk code)(h:SrcI code a s):EvQ (fun n=>qh1 n ⟨code,a,s⟩) (fun o=>(CasI o.1 o.2.1 o.2.2.1 o.2.2.2.1/\o.2.2.2.2.1.length<=21/\okL qfQ o.2.2.2.2.1)/\SrcI code o.2.2.2.2.2.1 o.2.2.2.2.2.2):=by
 unfold qh1;refine EvQ.bind (qwf d h) ?_;rintro⟨r1,m,p,r,g,i⟩ ⟨c,b⟩;dsimp only at c b⊢;refine EvQ.bind (qvh c.bl.ok.Aa.Ah.len d b) ?_;rintro⟨t,k,l⟩ ⟨f,b⟩;exact EvQ.done ⟨⟨c,f⟩,b⟩
theorem qtm(c:CodeOk code):EvQ (fun n=>qgI n code) (fun o=>(CasI o.1 o.2.1 o.2.2.1 o.2.2.2.1/\o.2.2.2.2.1.length<=21/\okL qfQ o.2.2.2.2.1)/\okL okI o.2.2.2.2.2):=by
 obtain⟨s,k,b⟩:=qtO c;unfold qgI;refine EvQ.bindE k (EvQ.bind (qwa c b) ?_);rintro⟨C,D,l,m,p,t,u⟩ ⟨⟨a,f,d⟩,b⟩;dsimp only at a f d b⊢;refine EvQ.bind (quV (by omega) c b) ?_;rintro⟨F,v,x⟩ ⟨h,b⟩;dsimp only at h b⊢;obtain⟨⟨H,I,J,K⟩,r,_,⟨_,l2,g⟩,_⟩:=qs2 (br:=l) (xs:=m) (ks:=p) a.bl.ok a.co.Az a.br_.len a.sr.len d.len;dsimp only at l2 g;refine EvQ.bindE r (EvQ.bind (R:=fun _=>True) (EvQ.bif (fun _=>EvQ.bind (qam _ c b) ?_) (fun _=>EvQ.done trivial)) (fun b1 _=>EvQ.bif (fun _=>EvQ.done ⟨⟨a,f,d⟩,⟨by dsimp only;omega,fun y i=>qaj (by have:=g y i;omega) (by have:=g y i;omega)⟩⟩) (fun _=>EvQ.done ⟨⟨a,f,d⟩,h⟩)));rintro⟨z,A,B⟩ _;exact EvQ.done trivial
end
end Go.Fw


namespace Go.Fw
open Go Go.Proofs Go.Proofs.Tryz
open Go.RowKit (Below)
open Ch renaming own->oW,box->oX,grp->oG
open GoT renaming v->oV
open Go.Value renaming slice->oS
set_option maxRecDepth 100000
set_option maxHeartbeats 6400000
variable{n:Nat}{w:World}{cs1 cs2 cs3 cs4 cs5 cs6 cs7 cs8 cs9:List Value}
def qqA(_:Nat)(code:(List (IntK .u8))):Option Bool:=V (decide ((code.length:Int) > 4096))
theorem qsV{code:(List (IntK .u8))}(a:Ro w code cs1){r:Bool}(F:qqA n code=V r):RetV prog 6 [gv code cs1] w r:=by
 obtain⟨_,_,rfl,_⟩:=a;exact zV 6 func6 Z fun h=>X0 11 Z (rb h F Z)
def qcj(d:(List Int))(a:(List Int)):Nat->Int->Option (Flow Bool Int)|0,_=>G|n+1,b=>bif decide (b<(a.length:Int)) then(idx a b).bind fun f=>(qlb n d f).bind fun c=>bif (!c) then V (.ret false) else qcj d a n (W64 (b+1)) else V (.nxt b)
def qh8(n:Nat)(a_0:(List (IntK .u8))):Option Bool:=(qqA n a_0).bind fun r1=>bif r1 then V true else(qgI n a_0).bind fun(h,i,k,l,m,p)=>(qdY n h i k l m p).bind fun(a,b)=>(qe7 n h i k l m p).bind fun(c,d)=>(bif (b != d) then V true else V (!(a==c))).bind fun b1=>bif b1 then V false else(bif (b != 0) then V true else V (!a)).bind fun b2=>bif b2 then V true else(qcI n h i k l m).bind fun(_,f,_,g)=>(qcj p f n 0).bind fun|.ret r=>V r|.nxt _=>V (g==0)
theorem qml{a_0:(List (IntK .u8))}(ha1:Ro w a_0 cs1){r:Bool}(F:qh8 n a_0=V r):RetV prog 4 [gv a_0 cs1] w r:=by
 obtain⟨_,_,rfl,s1⟩:=ha1;refine zV 89 func4 Z fun h=>X0 8 Z (zcB h F (qsV ⟨_,_,rfl,(h.oldS s1)⟩) Z fun _ _ h F=>qbf (qk Z F ?_ ?_))<;>intro F
 ·exact X0 4 Z (rb h F Z)
 refine X0 4 Z ?_;have o:Rg (old w) w (old w) w:=.start (fun _ h=>h);obtain⟨⟨p,x,s,u,v,d⟩,hr2,F⟩:=qc F;refine qwW (p,x,s,u,v,d) o h (cB 12 Z) (qmH (o.atB h) ⟨_,_,rfl,(o.inBS h s1)⟩ hr2) Z Z Z Z fun _ _ S1 h hv1=>?_;obtain⟨_,_,rfl,X,hv2⟩:=ql6 hv1;have hr4:=X;obtain⟨p2,k2,p3,k3,p4,k4,p5,k5,p6,k6,rfl,_,_,_,_,_⟩:=qF X;replace h:=h.grpAdd 0 Z hr4;obtain⟨_,_,rfl,Y,hv3⟩:=ql6 hv2;have hr6:=Y;obtain rfl:=qaQ Y;obtain⟨_,_,rfl,a3,hv4⟩:=ql6 hv3;have hr8:=a3;obtain⟨p7,k7,rfl,_⟩:=a3;replace h:=h.grpAdd 0 Z hr8;obtain⟨_,_,rfl,a4,hv5⟩:=ql6 hv4;have H:=a4;obtain⟨p8,k8,rfl,_⟩:=a4;replace h:=h.grpAdd 0 Z H;obtain⟨_,_,rfl,i,hv6⟩:=ql6 hv5;have I:=i;obtain⟨p9,k9,rfl,_⟩:=i;replace h:=h.grpAdd 0 Z I;obtain⟨_,rfl,k⟩:=qqo hv6;have J:=k;obtain⟨b,a,rfl,_⟩:=k;replace h:=h.grpAdd 0 Z J;refine X0 7 Z (qh qa h Z Z Z fun _ f h=>qh qa h Z Z Z fun _ g h=>zs 1 h Z fun _ h=>zs 0 h Z fun _ h=>X2 13 1 0 h Z ?_);obtain⟨⟨b6,b7⟩,K,F⟩:=qc F;refine qaX (b6,b7) h (cB 13 Z) (qoB (h.grp 2 4 Z Z) (qiT x) (h.grp 2 3 Z Z) (h.grp 2 2 Z Z) (h.grp 2 1 Z Z) (h.grp 2 0 Z Z) K) Z Z Z Z fun _ _ _ hv7 L=>?_;obtain⟨_,_,rfl,hv8,M⟩:=hv7.consB L;obtain⟨rfl,h⟩:=hv8.lastI M;refine X2 15 1 0 h Z ?_;obtain⟨⟨r13,r14⟩,N,F⟩:=qc F;refine qaX (r13,r14) h (cB 14 Z) (qor (h.grp 2 4 Z Z) (qiT x) (h.grp 2 3 Z Z) (h.grp 2 2 Z Z) (h.grp 2 1 Z Z) (h.grp 2 0 Z Z) N) Z Z Z Z fun _ _ _ a5 O=>?_;obtain⟨_,_,rfl,a6,P⟩:=a5.consB O;obtain⟨rfl,h⟩:=a6.lastI P;refine X0 7 Z ?_;obtain⟨KF2,C,_,F,A⟩:=bindE F;refine qas (fun e w'=>∃b1,KF2 b1=V r/\e=[(3,vp f),(4,vp g),(5,oS p7 s.length k7),(6,oS p8 u.length k8),(7,oS p9 v.length k9),(8,oS b d.length a),(9,.bool b6),(10,vi b7),(56,.bool b1)]/\SH w w' [oX g (qN x) 36,oX f (qt p p2 p3 p4 p5 p6 k2 k3 k4 k5 k6) 34,oG (old w) S1 [fct (d:(List Int)) [oS b d.length a],fct (v:(List qi)) [oS p9 v.length k9],fct (u:(List qf)) [oS p8 u.length k8],fct (s:(List Int)) [oS p7 s.length k7],fct (p:qd) (qt p p2 p3 p4 p5 p6 k2 k3 k4 k5 k6)]]) ?_ ?_
 ·refine X0 5 Z (qe (t:=52) F Z ?_ ?_)<;>intro F
  ·refine X0 5 Z ?_;cases qb F;exact rG ⟨_,A,rfl,h⟩ Z
  refine X0 8 Z ?_;cases qb F;exact rG ⟨_,A,rfl,h⟩ Z
 rintro _ _ ⟨b1,F,rfl,h⟩;subst C;refine qk Z F ?_ ?_<;>intro F
 ·refine X0 4 Z ?_;replace h:=h.p [0,1] Z;exact rb h F Z
 refine zKSS ?_;obtain⟨KF1,B,_,F,z⟩:=bindE F;refine qas (fun e w'=>∃b2,KF1 b2=V r/\e=[(3,vp f),(4,vp g),(5,oS p7 s.length k7),(6,oS p8 u.length k8),(7,oS p9 v.length k9),(8,oS b d.length a),(62,.bool b2)]/\SH w w' [oX g (qN x) 36,oX f (qt p p2 p3 p4 p5 p6 k2 k3 k4 k5 k6) 34,oG (old w) S1 [fct (d:(List Int)) [oS b d.length a],fct (v:(List qi)) [oS p9 v.length k9],fct (u:(List qf)) [oS p8 u.length k8],fct (s:(List Int)) [oS p7 s.length k7],fct (p:qd) (qt p p2 p3 p4 p5 p6 k2 k3 k4 k5 k6)]]) ?_ ?_
 ·refine X0 4 Z (qe (t:=59) F Z ?_ ?_)<;>intro F
  ·refine X0 4 Z ?_;cases qb F;exact rG ⟨_,z,rfl,h⟩ Z
  refine X0 6 Z ?_;cases qb F;exact rG ⟨_,z,rfl,h⟩ Z
 rintro _ _ ⟨b2,F,rfl,h⟩;subst B;refine qk Z F ?_ ?_<;>intro F
 ·refine X0 4 Z ?_;replace h:=h.p [0,1] Z;exact rb h F Z
 refine X2 8 1 0 h Z ?_;obtain⟨⟨r16,c,r18,b8⟩,Q,F⟩:=qc F;refine qaX (r16,c,r18,b8) h (cB 15 Z) (qmG (h.grp 2 4 Z Z) (qiT x) (h.grp 2 3 Z Z) (h.grp 2 2 Z Z) (h.grp 2 1 Z Z) Q) Z Z Z Z fun _ _ _ a7 R=>?_;obtain⟨_,_,_,_,rfl,l,S⟩:=a7.cons R;obtain⟨_,_,_,_,_,_,rfl,-,-,-⟩:=qaP (l.sh.own 0 Z);obtain⟨S11,_,b5,b4,_,rfl,a8,T⟩:=l.consL S;obtain⟨_,_,rfl,a9,W⟩:=a8.consI T;obtain⟨rfl,h⟩:=a9.lastI W;refine zp5 Z (qh qa h Z Z Z fun _ _ h=>zs 0 h Z fun _ h=>X0 9 Z ?_);replace h:=h.grpKeep [0,4] 5 Z;replace h:=h.p [1,5] Z;replace h:=h.grpKeep [0] 1 Z;obtain⟨o1,F,y⟩:=qc F;refine ql (rL (fun m e w'=>∃i1,qcj d c m i1=V o1/\e=[(8,oS b d.length a),(14,oS b5 c.length b4),(16,vi b8),(17,vi i1)]/\SH w w' [oW S11 (c:List Int) [oS b5 c.length b4],oG (old w) S1 [fct (d:(List Int)) [oS b d.length a]]]) n ⟨_,F,rfl,h⟩ Z ?_);rintro m1 _ _ ⟨i1,F,rfl,h⟩;rcases m1 with _|m1
 ·cases F
 refine X0 8 Z (qk Z F ?_ ?_)<;>intro F
 ·refine X0 8 Z ?_;obtain⟨_,_,F,D,_,_,_,_,hp1,hq1,rfl,hc5⟩:=(h.sl 0 Z).1.ix F;refine zx hp1 hq1 ⟨D.1,qC D.2.1 (h.sl 0 Z).2⟩ Z (zc 0 hc5 Z (zcB h F (qqy (h.grp 1 0 Z Z)) Z fun _ _ h F=>X0 2 Z (qk Z F ?_ ?_)))<;>intro F
  ·refine X0 4 Z ?_;replace h:=h.p [0] Z;cases qb F;exact rb h y Z
  exact X0 7 Z (rK ⟨_,F,rfl,h⟩ Z)
 refine qu Z ?_;cases qb F;replace F:=y;refine X0 6 Z ?_;replace h:=h.p [0] Z;exact rb h F Z
end Go.Fw


namespace Go.Fw
open Go
set_option maxRecDepth 100000
theorem quW{xs:List Int}{y:Int}(i:xs.length<=1048576):Ev (fun n=>qlb n xs y) (hasI xs y):=by
 have b:∀(d j:Nat),j+d=xs.length->Ev (fun n=>qgj xs y n (j:Int)) (bif (xs.drop j).any (fun x=>x==y) then .ret true else .nxt (xs.length:Int)):=by
  intro d
  induction d with
  |zero=>
   intro j g;obtain rfl:j=xs.length:=by omega
   rw[List.drop_length];refine Ev.succ ?_;simp only[qgj];exact Ev.ff (qq (jf _)) .done
  |succ d ih=>
   intro j g;have a:j<xs.length:=by omega
   have f:xs.drop j=xs[j]::xs.drop (j+1):=jM a;rw[f,List.any_cons];refine Ev.succ ?_;simp only[qgj,wS j];refine Ev.tt (qp a) (Ev.bindN (qa4 a) ?_);cases h:xs[j]==y
   ·rw[Ji];exact Ev.ff Z (ih (j+1) (by omega))
   ·exact Ev.tt Z .done
 have c:=b xs.length 0 (by omega);rw[List.drop_zero] at c;unfold qlb;refine Ev.bind c ?_;unfold hasI;cases xs.any fun x=>x==y
 ·exact .done
 ·exact .done
theorem qn8{code:List (IntK .u8)}(C:rngL rng8 code):Ev (fun n=>qh8 n code) true:=by
 unfold qh8 qqA;refine Ev.bindN Z (Ev.bif (fun _=>.done) (fun s=>?_));have s:code.length<=4096:=by have:=of_decide_eq_false s;omega
 obtain⟨⟨b,c,br,xs,ks,m⟩,A,⟨g,k,h⟩,l⟩:=qtm (code:=code) ⟨by omega,C.2⟩;dsimp only at g k h l;obtain⟨⟨st,v⟩,D,hi,F⟩:=qtb (br:=br) (xs:=xs) (ks:=ks) (used:=m) g.bl.ok g.co.Az g.br_.len g.sr.len h.len l.len;refine Ev.bind A (Ev.bind hi (Ev.bind D (Ev.bind (b:=false) (Ev.ff (by simp) (Ev.now (by simp))) (Ev.ff Z ?_))));by_cases u:v=0
 ·subst u;cases st with
  |false=>exact Ev.bind (b:=true) (Ev.ff Z .done) (Ev.tt Z .done)
  |true=>
   obtain⟨⟨t,ls,r,H⟩,z,o,i,a⟩:=F Z;dsimp only at o i a;subst o;have x:∀(d j:Nat),j+d=ls.length->Ev (fun n=>qcj m ls n (j:Int)) (.nxt (ls.length:Int)):=by
    intro d
    induction d with
    |zero=>
     intro j B;obtain rfl:j=ls.length:=by omega
     refine Ev.succ ?_;simp only[qcj];exact Ev.ff (qq (jf _)) .done
    |succ d ih=>
     intro j B;have f:j<ls.length:=by omega
     have p:=quW (xs:=m) (y:=ls[j]) l.len;rw[a _ (jo f)] at p;refine Ev.succ ?_;simp only[qcj,wS j];exact Ev.tt (qp f) (Ev.bindN (qa4 f) (Ev.bind p (Ev.ff Z (ih (j+1) (by omega)))))
   exact Ev.bind (b:=false) (Ev.ff Z .done) (Ev.ff Z (Ev.bind z (Ev.bind (x ls.length 0 (by omega)) .done)))
 ·exact Ev.bind (b:=true) (Ev.tt (by simpa using u) .done) (Ev.tt Z .done)
end Go.Fw
