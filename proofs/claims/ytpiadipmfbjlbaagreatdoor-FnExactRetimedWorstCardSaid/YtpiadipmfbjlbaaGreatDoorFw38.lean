/- A row of the run's own whose elements read what stood before, az a reading. -/
import Derived.Test.YtpiadipmfbjlbaaGreatDoorFw32
import Derived.KernelRfl
open Option renaming some->V, none->U
open Nat renaming le_of_ble_eq_true->jt, zero_add->jY
open Bool renaming and_eq_true->jf, not_eq_true'->jI
open List renaming length_append->jg, length_singleton->jm, mem_cons_of_mem->jo, mem_cons_self->jx, getElem?_append_left->jy, getElem?_append_right->jB, mem_append_left->jJ, ext_getElem->Jp
open Go.Result renaming andThen_ok->ji
open Go.Sem renaming run_bind->jj, run_pure->jk
open Int renaming tdiv_eq_ediv_of_nonneg->jN, le_refl->Jd, mul_assoc->Jh, mul_le_mul->Jk
open Array renaming getElem?_append_left->jC

namespace Go.Fw
open Go
open Go.RowKit (Below)
section
variable{w0 w:World}{L:List Ch}
theorem SH.rowS{α:Type}[GoT α]{S:Nat->Prop}{xs:List α}{p:Option Addr}{c:Nat}(i:Nat)(h:SH w0 w L)(hi:L[i]?=V (Ch.rowD w0 S xs p c)):SlR w (Fw.old w) xs p c:=by
 obtain⟨h1,h2,h3⟩:=(h.mem hi).1;refine⟨h1,h2,?_⟩;rcases h3 with⟨a,b,_⟩|⟨b,cur,T,rfl,hb,hg,hc,hx⟩
 ·exact .inl ⟨.inl a,b⟩
 ·refine .inr ⟨b,0,cur,T,(0,0),rfl,((h.mem hi).2 b hb).2,hg,by omega,fun i x hi=>?_⟩;obtain⟨cs,hR,hj⟩:=hx i x hi;exact⟨cs,h.old hR,by simpa using hj⟩
end

section
variable{P:Program}{T:Tab}{n:Nat}{Q:Exit->Act->World->Prop}{k:List It}{e:Env}{w0 w:World}{L:List Ch}
variable{α:Type}[GoT α]{S S1:Nat->Prop}{xs ys:List α}{p p':Option Addr}{c c':Nat}
def Rd(w0:World)(xs:List α)(rs:List (Raw α)):Prop:=rs.length=xs.length/\∀(i:Nat) (x:α) (r:Raw α),xs[i]?=V x->rs[i]?=V r->GoT.R w0 (Fw.old w0) x r.cs
theorem Rd.app{rs qs:List (Raw α)}(h1:Rd w0 xs rs)(h2:Rd w0 ys qs):Rd w0 (xs++ys) (rs++qs):=by
 refine⟨by simp[h1.1,h2.1],fun i x r hx hr=>?_⟩;by_cases hi:i<xs.length
 ·rw[jy hi] at hx;rw[jy (by rw[h1.1];exact hi)] at hr;exact h1.2 i x r hx hr
 ·rw[jB (by omega)] at hx;rw[jB (by rw[h1.1];omega),h1.1] at hr;exact h2.2 _ x r hx hr
theorem SH.tail{d:Ch}(h:SH w0 w (d::L)):SH w0 w L:=
 ⟨h.below,fun c hc=>h.holds c (jo _ hc),fun c hc=>h.elder c (jo _ hc),(List.pairwise_cons.1 h.apart).2⟩
abbrev SH.wc(_:SH w0 w L):World:=w
theorem qn{β:Type}{f g:Option β}{r:β}{c:Bool}{t:Nat}(hF:(bif c then f else g)=V r)(ht:e.get t=V (.bool c))(h1:f=V r->Run P n Q k ((t,.bool true)::e) w)(h2:g=V r->Run P n Q k ((t,.bool false)::e) w):Run P n Q k e w:=by
 cases c
 ·exact qBV Z ht (h2 hF)
 ·exact qB1 Z ht (h1 hF)
theorem qaX{β:Type}{f g:Option β}{r:β}{c:Bool}{t:Nat}{all:Array Oper}{l:List Oper}(hF:(bif c then f else g)=V r)(ht:e.get t=V (.bool c))(h1:f=V r->RunD P n Q k all w l ((t,.bool true)::e))(h2:g=V r->RunD P n Q k all w l ((t,.bool false)::e)):RunD P n Q k all w l e:=by
 cases c
 ·exact qCc Z ht (h2 hF)
 ·exact qBU Z ht (h1 hF)
theorem SlR.ix{β:Type}{A:Nat->Prop}{i:Int}{f:α->Option β}{r:β}(h:SlR w A xs p c)(hF:(idx xs i).bind f=V r) :
  ∃y,idx xs i=V y/\f y=V r/\(0<=i/\i<xs.length/\xs[i.toNat]?=V y)/\∃b o q cs,p=V ⟨b,o,U⟩/\q=o+i.toNat*GoT.k α/\GoT.R w A y cs/\CellsAt w b q cs:=by
 obtain⟨y,hy,hF⟩:=qc hF;obtain⟨b,o,q,cs,h1,h2,_,h3,h4⟩:=h.at hy;exact⟨y,hy,hF,qaO hy,b,o,q,cs,h1,h2,h3,h4⟩
def RetU(P:Program)(f:FuncId)(vs:List Value)(w:World)(J:World->Prop):Prop:=
 Calls P f vs.toArray w fun e w'=>e=.returned (tup [])/\J w'
theorem qmF{J:World->Prop}{all:Array Oper}{l:List Oper}{d ty:Nat}{ps:String}{af:Array Edge}{x:Operand}{args:Array Operand}{ats:Array TypeId}{f:FuncId}{fi ca:Array Value}{az vs:List Value}
  (hcall:qdZ P f) (hc:RetU P f vs w J) (hx:opv e x=V (.func (.func f) fi ca)) (hargs:opvs e args.toList=V az) (hvs:fi.toList++az++ca.toList=vs) (hn:Nat.blt d n=true)
  (hk:∀w',J w'->Run P n Q (.ops all l::k) ((d,tup [])::e) w'):Run P n Q (.ops all (⟨V d,.call ⟨.value x,args,ats⟩,ty,ps,af,U⟩::l)::k) e w:=by
 subst hvs;refine qlo (R:=fun v w'=>v=tup []/\J w') Z Z hn (fun a ha=>qhb ha hcall hx hargs w) (hc.mono ?_) ?_
 ·rintro e w' ⟨rfl,h⟩;exact⟨_,rfl,rfl,h⟩
 ·rintro v w' ⟨rfl,h⟩;exact hk w' h
theorem qoS{J:World->Prop}{f:FuncId}{fn:Func}{c:Code}{vs:List Value}{m:Nat}(hf:P.funcs[f]?=V fn)(hb:fn.body=V c)(hm:fn.ntmps=m)(hn:Nat.ble vs.length m=true)
  (h:Run P m (bodyPost P fn fun e w'=>e=.returned (tup [])/\J w') [.code c] (argEnv 0 vs) w):RetU P f vs w J:=by
 subst hm;have hn':=jt hn;refine calls_of_wp hf hb ?_;have hag:Agree fn.ntmps (argEnv 0 vs) { tmps:=vs.toArray++Array.replicate (fn.ntmps-vs.toArray.size) undef,defers:=[] }:=by
  refine⟨rfl,by simp;omega,fun i v hi=>?_⟩;obtain⟨_,h2⟩:=qhL vs 0 i v hi;simp only[Nat.sub_zero] at h2;have hlt:=(List.getElem?_eq_some_iff.1 h2).1;rw[jC (by simpa using hlt)];simpa using h2
 have h1:=h _ hag;refine wp_mono h1 ?_;intro ex a' w' hq;cases ex<;>exact hq
theorem qCe{J:World->Prop}(hT:TabOk P T){fn:Func}(h:J w)(hr:ResOk T e w fn.results.toList []) :
  Run P n (bodyPost P fn fun e w'=>e=.returned (tup [])/\J w') (.code .ret::k) e w:=
 qsE fun _ ha=>⟨ha.defers,tup [],qfv hT ha hr,rfl,h⟩
theorem qw6{J:World->Prop}(hT:TabOk P T){fn:Func}(h:J w)(hr:ResOk T e w fn.results.toList []) :
  Run P n (bodyPost P fn fun e w'=>e=.returned (tup [])/\J w') [] e w:=
 qCt fun _ ha=>⟨ha.defers,tup [],qfv hT ha hr,rfl,h⟩
def RetT{β:Type}[GoT β](P:Program)(f:FuncId)(vs:List Value)(w w0:World)(F:List Ch)(r:List β):Prop:=
 Calls P f vs.toArray w fun e w'=>∃S p k,e=.returned (.slice p r.length k)/\SH w0 w' (Ch.own S r [.slice p r.length k]::F)
theorem qpg{β:Type}[GoT β]{r:List β}{F:List Ch}{all:Array Oper}{l:List Oper}{d ty:Nat}{ps:String}{af:Array Edge}{x:Operand}{args:Array Operand}{ats:Array TypeId}{f:FuncId}{fi ca:Array Value}{az vs:List Value}
  (hcall:qdZ P f) (hc:RetT P f vs w w0 F r) (hx:opv e x=V (.func (.func f) fi ca)) (hargs:opvs e args.toList=V az) (hvs:fi.toList++az++ca.toList=vs) (hn:Nat.blt d n=true)
  (hk:∀w' S p c,SH w0 w' (Ch.own S r [.slice p r.length c]::F)->Run P n Q (.ops all l::k) ((d,.slice p r.length c)::e) w'):Run P n Q (.ops all (⟨V d,.call ⟨.value x,args,ats⟩,ty,ps,af,U⟩::l)::k) e w:=by
 subst hvs;refine qlo (R:=fun v w'=>∃S p c,v=.slice p r.length c/\SH w0 w' (Ch.own S r [.slice p r.length c]::F)) Z Z hn (fun a ha=>qhb ha hcall hx hargs w) (hc.mono ?_) ?_
 ·rintro e w' ⟨S,p,c,rfl,h⟩;exact⟨_,rfl,S,p,c,rfl,h⟩
 ·rintro v w' ⟨S,p,c,rfl,h⟩;exact hk w' S p c h
theorem qrr{β:Type}[GoT β]{r:List β}{F:List Ch}{f:FuncId}{fn:Func}{c:Code}{vs:List Value}{m:Nat}(hf:P.funcs[f]?=V fn)(hb:fn.body=V c)(hm:fn.ntmps=m)(hn:Nat.ble vs.length m=true)
  (h:Run P m (bodyPost P fn fun e w'=>∃S p k,e=.returned (.slice p r.length k)/\SH w0 w' (Ch.own S r [.slice p r.length k]::F)) [.code c] (argEnv 0 vs) w):RetT P f vs w w0 F r:=by
 subst hm;have hn':=jt hn;refine calls_of_wp hf hb ?_;have hag:Agree fn.ntmps (argEnv 0 vs) { tmps:=vs.toArray++Array.replicate (fn.ntmps-vs.toArray.size) undef,defers:=[] }:=by
  refine⟨rfl,by simp;omega,fun i v hi=>?_⟩;obtain⟨_,h2⟩:=qhL vs 0 i v hi;simp only[Nat.sub_zero] at h2;have hlt:=(List.getElem?_eq_some_iff.1 h2).1;rw[jC (by simpa using hlt)];simpa using h2
 have h1:=h _ hag;refine wp_mono h1 ?_;intro ex a' w' hq;cases ex<;>exact hq
theorem qAl{β:Type}[GoT β]{r:List β}{F:List Ch}{S':Nat->Prop}{p':Option Addr}{ln' c':Nat}(hT:TabOk P T){fn:Func}(h:SH w0 w (Ch.own S' r [.slice p' ln' c']::F))(hr:ResOk T e w fn.results.toList [.slice p' ln' c']) :
  Run P n (bodyPost P fn fun e w'=>∃S p k,e=.returned (.slice p r.length k)/\SH w0 w' (Ch.own S r [.slice p r.length k]::F)) (.code .ret::k) e w:=by
 obtain rfl:=(h.sl 0 Z).2;exact qsE fun _ ha=>⟨ha.defers,_,qfv hT ha hr,S',p',c',rfl,h⟩
end
end Go.Fw


namespace Go.Fw
open Go
structure IsRoot(x w:Int):Prop where
 pos:0<=w
 lo:w*w<=x
 hi:x<(w+1)*(w+1)
theorem qx1{a b:Int}(h0:0<=a)(h:a<=b):a*a<=b*b:=Jk h h h0 (Int.le_trans h0 h)
theorem qAA{w:Int}:(w+1)*(w+1)=w*w+2*w+1:=by simp only[Int.add_mul,Int.mul_add,Int.one_mul,Int.mul_one];omega
theorem qsv{w:Int}:(2*w)*(2*w)=4*(w*w):=by rw[Jh,Int.mul_left_comm w 2 w];omega
theorem qxY{w:Int}:(2*w+1)*(2*w+1)=4*(w*w)+4*w+1:=by rw[qAA,qsv];omega
theorem qy6{w:Int}:(2*w+2)*(2*w+2)=4*((w+1)*(w+1)):=by rw[show 2*w+2=2*(w+1) by omega,qsv]
theorem IsRoot.uniq{x w v:Int}(h:IsRoot x w)(g:IsRoot x v):w=v:=by
 have h0:=h.pos;have g0:=g.pos;have h1:=h.lo;have h2:=h.hi;have g1:=g.lo;have g2:=g.hi;rcases Int.lt_trichotomy w v with hh|hh|hh
 ·have:=qx1 (show 0<=w+1 by omega) (show w+1<=v by omega);omega
 ·exact hh
 ·have:=qx1 (show 0<=v+1 by omega) (show v+1<=w by omega);omega
theorem IsRoot.four{x w v:Int}(h:IsRoot x w)(g:IsRoot (4*x) v):v=2*w\/v=2*w+1:=by
 have h0:=h.pos;have g0:=g.pos;have h1:=h.lo;have h2:=h.hi;have g1:=g.lo;have g2:=g.hi;by_cases a:v<2*w
 ·have:=qx1 (show 0<=v+1 by omega) (show v+1<=2*w by omega);rw[qsv] at this;omega
 ·by_cases c:2*w+2<=v
  ·have:=qx1 (show 0<=2*w+2 by omega) c;rw[qy6] at this;omega
  ·omega
def divI(a b mode:Int):Int:=bif decide (a.tmod b<0)&&(mode==0) then a.tdiv b-1 else bif decide (a.tmod b > 0)&&(mode==1) then a.tdiv b+1 else a.tdiv b
theorem qu1{a b mode:Int}(h:0<=a)(hb:0<b):divI a b mode=if mode=1/\a % b > 0 then a / b+1 else a / b:=by
 unfold divI;rw[Int.tmod_eq_emod_of_nonneg h,jN h];have:=Int.emod_nonneg a (show b≠0 by omega);rw[show decide (a % b<0)=false by simp;omega,Bool.false_and];simp only[cond_false];by_cases h1:mode=1
 ·by_cases h2:a % b > 0
  ·rw[if_pos ⟨h1,h2⟩,decide_eq_true h2,show(mode==1)=true by simpa using h1];rfl
  ·rw[if_neg (fun h=>h2 h.2),decide_eq_false h2];rfl
 ·rw[if_neg (fun h=>h1 h.1),show(mode==1)=false by simpa using h1,Bool.and_false];rfl
theorem qwP{x w v mode:Int}(h:IsRoot x w)(g:IsRoot (4*x) v)(hm:mode=0\/mode=1) :
  divI (if mode=1/\v*v<4*x then v+1 else v) 1000 mode=if mode=1/\w*w<x then w / 500+1 else divI w 500 mode:=by
 have h0:=h.pos;have g0:=g.pos;have g1:=g.lo;have h1:=h.lo;have hv:=h.four g;rw[qu1 h0 (by omega),qu1 (by split<;>omega) (by omega)];rcases hm with rfl|rfl
 ·rw[if_neg (by omega),if_neg (by omega),if_neg (by omega),if_neg (by omega)];omega
 ·have e:v*v=4*(w*w)\/v*v=4*(w*w)+4*w+1:=by
   rcases hv with rfl|rfl
   ·exact .inl qsv
   ·exact .inr qxY
  simp only[true_and];by_cases c:w*w<x
  ·have hs:v*v<4*x:=by omega
   rw[if_pos hs,if_pos c];split<;>omega
  ·have hw:w*w=x:=by omega
   have hv2:v=2*w:=by
    rcases hv with hv|hv
    ·exact hv
    ·subst hv;rw[qxY] at g1;omega
   have hs:¬ v*v<4*x:=by rw[hv2,qsv];omega
   rw[if_neg hs,if_neg c];split<;>split<;>omega
theorem quj{ρ:Type}{Lf:Nat->Int->Int->Option ρ}{fin:Int->ρ}{x H:Int}(hx:0<=x)(hH:x<(H+1)*(H+1))(h0:0<=H)
  (hend:∀n l,0<=l->l<=H->Lf (n+1) l l=V (fin l))
  (hstep:∀n l h,0<=l->l<h->h<=H->Lf (n+1) l h=bif decide ((l+h+1) / 2*((l+h+1) / 2)<=x) then Lf n ((l+h+1) / 2) h else Lf n l ((l+h+1) / 2-1)) :
  ∃w,IsRoot x w/\w<=H/\Ev (fun n=>Lf n 0 H) (fin w):=by
 have main:∀d:Nat,∀l h:Int,0<=l->l<=h->h<=H->h-l<=d->l*l<=x->x<(h+1)*(h+1)->∃w,IsRoot x w/\w<=H/\Ev (fun n=>Lf n l h) (fin w):=by
  intro d
  induction d with
  |zero=>
   intro l h hl hlh hh hd h1 h2;obtain rfl:l=h:=by omega
   exact⟨l,⟨hl,h1,h2⟩,hh,Ev.step (fun n=>hend n l hl hh) .done⟩
  |succ d ih=>
   intro l h hl hlh hh hd h1 h2;by_cases c:l=h
   ·subst c;exact⟨l,⟨hl,h1,h2⟩,hh,Ev.step (fun n=>hend n l hl hh) .done⟩
   ·have hlt:l<h:=by omega
    by_cases q:(l+h+1) / 2*((l+h+1) / 2)<=x
    ·obtain⟨w,r1,r2,r3⟩:=ih ((l+h+1) / 2) h (by omega) (by omega) hh (by omega) q h2;exact⟨w,r1,r2,Ev.step (g:=fun n=>Lf n ((l+h+1) / 2) h) (fun n=>by rw[hstep n l h hl hlt hh,decide_eq_true q];rfl) r3⟩
    ·obtain⟨w,r1,r2,r3⟩:=ih l ((l+h+1) / 2-1) hl (by omega) (by omega) (by omega) h1 (by rw[Int.sub_add_cancel];omega);exact⟨w,r1,r2,Ev.step (g:=fun n=>Lf n l ((l+h+1) / 2-1)) (fun n=>by rw[hstep n l h hl hlt hh,decide_eq_false q];rfl) r3⟩
 exact main H.toNat 0 H (Jd _) h0 (Jd _) (by omega) (by omega) hH

section
variable{L:Nat}{fr to:Nat->Int}{lv:Nat->Bool}
def inN(L:Nat)(fr to:Nat->Int)(lv:Nat->Bool)(R:List Nat)(k:Nat):Nat:=cntP (fun x=>lv x&&(to x==(k:Int)&&!decide (fr x∈ints R))) L
def lkN(L:Nat)(fr to:Nat->Int)(lv:Nat->Bool)(i k:Nat):Nat:=cntP (fun x=>lv x&&(fr x==(i:Int))&&(to x==(k:Int))) L
def freeN(L:Nat)(fr to:Nat->Int)(lv:Nat->Bool)(R:List Nat)(k:Nat):Bool:=!decide (k∈R)&&decide (inN L fr to lv R k=0)
def nxtN(L:Nat)(fr to:Nat->Int)(lv:Nat->Bool)(n:Nat)(R:List Nat):Option Nat:=(List.range n).find? (freeN L fr to lv R)
def ordN(L:Nat)(fr to:Nat->Int)(lv:Nat->Bool)(n:Nat):Nat->List Nat->Option (List Nat)
 |0,R=>V R
 |m+1,R=>match nxtN L fr to lv n R with|none=>U|some k=>ordN L fr to lv n m (R++[k])
def Closed(L:Nat)(fr to:Nat->Int)(lv:Nat->Bool)(R:List Nat):Prop:=∀x,x<L->lv x=true->to x∈ints R->fr x∈ints R
theorem qiD{R:List Nat}{k:Nat}:(k:Int)∈ints R↔k∈R:=by
 unfold ints;rw[List.mem_map];constructor
 ·rintro⟨j,hj,e⟩;obtain rfl:j=k:=by omega
  exact hj
 ·exact fun h=>⟨k,h,rfl⟩
theorem qxe{p q r:Nat->Bool}{n:Nat}(h:∀x,x<n->((bif p x then 1 else 0):Nat)=(bif q x then 1 else 0)+(bif r x then 1 else 0)):cntP p n=cntP q n+cntP r n:=by
 induction n with
 |zero=>rfl
 |succ n ih=>unfold cntP;rw[ih (fun x hx=>h x (by omega)),h n (by omega)];omega
theorem qy7{R:List Nat}{i k:Nat}(hi:i∉R):inN L fr to lv R k=inN L fr to lv (R++[i]) k+lkN L fr to lv i k:=by
 unfold inN lkN;refine qxe fun x _=>?_;cases lv x
 ·rfl
 ·cases to x==(k:Int)
  ·simp
  ·by_cases hf:fr x=(i:Int)
   ·have h1:fr x∉ints R:=by rw[hf,qiD];exact hi
    have h2:fr x∈ints (R++[i]):=by rw[qlC,hf];simp
    rw[hf] at h1 h2;simp[h1,h2,hf]
   ·have h2:(fr x∈ints (R++[i]))↔fr x∈ints R:=by rw[qlC];simp[hf]
    rw[show(fr x==(i:Int))=false by simpa using hf];simp[h2]
theorem ql7{R:List Nat}{k:Nat}:inN L fr to lv R k=0↔∀x,x<L->lv x=true->to x=(k:Int)->fr x∈ints R:=by
 unfold inN;rw[qpd];constructor
 ·intro h x hx h1 h2;have:=h x hx;rw[h1,h2] at this;simpa using this
 ·intro h x hx;cases h1:lv x
  ·rfl
  ·by_cases h2:to x=(k:Int)
   ·have:=h x hx h1 h2;simp[this]
   ·simp[h2]
theorem qq3{n:Nat}{R:List Nat}{k:Nat}(h:nxtN L fr to lv n R=V k):k<n/\k∉R/\inN L fr to lv R k=0:=by
 have h1:=List.mem_range.1 (List.mem_of_find?_eq_some h);have h2:=List.find?_some h;unfold freeN at h2;simp only[jf,jI,decide_eq_false_iff_not,decide_eq_true_eq] at h2;exact⟨h1,h2.1,h2.2⟩
theorem Closed.snoc{R:List Nat}{k:Nat}(h:Closed L fr to lv R)(hk:inN L fr to lv R k=0):Closed L fr to lv (R++[k]):=by
 intro x hx h1 h2;rw[qlC] at h2⊢;rcases List.mem_append.1 h2 with h2|h2
 ·exact jJ _ (h x hx h1 h2)
 ·exact jJ _ (ql7.1 hk x hx h1 (List.mem_singleton.1 h2))
theorem Closed.nil:Closed L fr to lv []:=fun _ _ _ h=>by simp[ints] at h
theorem Closed.no_back{R:List Nat}{i k:Nat}(h:Closed L fr to lv R)(hi:i∉R)(h0:inN L fr to lv R i=0)(hk:k∈R++[i]):lkN L fr to lv i k=0:=by
 unfold lkN;rw[qpd];intro x hx;cases h1:lv x
 ·rfl
 ·by_cases h2:fr x=(i:Int)
  ·by_cases h3:to x=(k:Int)
   ·exfalso;rcases List.mem_append.1 hk with hk|hk
    ·have:=h x hx h1 (by rw[h3,qiD];exact hk);rw[h2,qiD] at this;exact hi this
    ·rw[List.mem_singleton.1 hk] at h3;have:=ql7.1 h0 x hx h1 h3;rw[h2,qiD] at this;exact hi this
   ·simp[h3]
  ·simp[h2]
theorem qzA{n:Nat}:∀m R R',ordN L fr to lv n m R=V R'->R'.length=R.length+m:=by
 intro m
 induction m with
 |zero=>intro R R' h;obtain rfl:=Option.some.inj h;rfl
 |succ m ih=>
  intro R R' h;unfold ordN at h;cases hn:nxtN L fr to lv n R with
  |none=>rw[hn] at h;cases h
  |some k=>
   rw[hn] at h;have:=ih _ _ h;rw[this,jg,jm];omega
end
end Go.Fw


namespace Go.Fw
open Go
open Go.RowKit (Below)
section
variable{P:Program}{T:Tab}{n:Nat}{e:Env}{w:World}
theorem qty{t:TypeId}{k:IntKind}(h:P.underlying t=V (.int k))(w:World):(isAgg t).run P w=.ok false w:=by
 unfold isAgg;simp only[jj,run_underlying h,ji]
 rfl
theorem qqe{t:TypeId}{k:IntKind}(h:P.underlying t=V (.int k)){cs:Array Value}{o:Nat}{v:Value}(hv:cs[o]?=V v)(w:World):(part t cs o).run P w=.ok v w:=by
 unfold part;simp only[jj,qty h,ji,hv]
 rfl
theorem qfs(d:Nat){t:TypeId}(h:P.underlying t=V (.int .i64))(a b:Int)(w:World):(Op.equalIn (d+1) t (.int .i64 a) (.int .i64 b)).run P w=.ok (a==b) w:=by
 simp[Op.equalIn,run_underlying h]
theorem qxb{t:TypeId}{f1 f2:Field}{a1 a2 b1 b2:Int}(hu:P.underlying t=V (.struct #[f1,f2]))(n1:f1.name≠ "_") (n2:f2.name≠ "_") (o1:f1.offset=0) (o2:f2.offset=1)
  (t1:P.underlying f1.type=V (.int .i64)) (t2:P.underlying f2.type=V (.int .i64)) (hs:P.stoodInHeld t=false) (w:World) :
  (Op.equal t (.agg #[.int .i64 a1,.int .i64 a2]) (.agg #[.int .i64 b1,.int .i64 b2])).run P w=.ok ((a1==b1)&&(a2==b2)) w:=by
 simp only[Op.equal,Op.maxDepth];show(Op.equalIn (9998+1+1) t _ _).run P w=_;have p1:=fun c:Int×Int=>qqe (P:=P) t1 (cs:=#[.int .i64 c.1,.int .i64 c.2]) (o:=0) (v:=.int .i64 c.1) Z;have p2:=fun c:Int×Int=>qqe (P:=P) t2 (cs:=#[.int .i64 c.1,.int .i64 c.2]) (o:=1) (v:=.int .i64 c.2) Z;have q1:=p1 (a1,a2);have q2:=p1 (b1,b2);have q3:=p2 (a1,a2);have q4:=p2 (b1,b2);simp only at q1 q2 q3 q4;rw[Op.equalIn];by_cases h1:a1=b1
 ·subst h1;by_cases h2:a2=b2
  ·subst h2;simp[run_underlying hu,hs,n1,n2,o1,o2,q1,q3,qfs 9998 t1,qfs 9998 t2]
  ·simp[run_underlying hu,hs,n1,n2,o1,o2,q1,q2,q3,q4,qfs 9998 t1,qfs 9998 t2,h2]
 ·simp[run_underlying hu,hs,n1,n2,o1,o2,q1,q2,q3,q4,qfs 9998 t1,qfs 9998 t2,h1]
theorem qCd{x y:Operand}{t t' d ty:Nat}{ps:String}{af:Array Edge}{g:Option (Nat×Bool)}{f1 f2:Field}{a1 a2 b1 b2:Int}(hu:P.underlying t=V (.struct #[f1,f2]))(hn:((f1.name != "_")&&(f2.name != "_"))=true) (ho:(f1.offset,f2.offset)=(0,1))
  (t1:P.underlying f1.type=V (.int .i64)) (t2:P.underlying f2.type=V (.int .i64)) (hs:P.stoodInHeld t=false) (hg:P.eqGuardType P.depth t=false)
  (hx:opv e x=V (.agg #[.int .i64 a1,.int .i64 a2])) (hy:opv e y=V (.agg #[.int .i64 b1,.int .i64 b2])):Val P n e ⟨V d,.binOp .neq t x y t',ty,ps,af,g⟩ w (.bool (!((a1==b1)&&(a2==b2)))):=by
 intro a ha;simp only[Prod.mk.injEq] at ho;simp only[jf,bne_iff_ne] at hn;have he:=fun w=>qxb (a1:=a1) (a2:=a2) (b1:=b1) (b2:=b2) hu hn.1 hn.2 ho.1 ho.2 t1 t2 hs w;have hgd:(eqGuard .neq t x y (.agg #[.int .i64 a1,.int .i64 a2]) (.agg #[.int .i64 b1,.int .i64 b2])).run P w=.ok () w:=by
  unfold eqGuard;simp[hg]
 simp only[execOp,ha.eval hx,ha.eval hy,jj,hgd,ji,binOp,he,jk]
def isI64(P:Program)(t:TypeId):Bool:=match P.underlying t with
 |some (.int .i64)=>true
 |_=>false
def okI2(P:Program)(t:TypeId):Bool:=match P.underlying t with
 |some (.struct fs)=>match fs.toList with
  | [f1,f2]=>(f1.name != "_")&&(f2.name != "_")&&Nat.beq f1.offset 0&&Nat.beq f2.offset 1&&isI64 P f1.type&&isI64 P f2.type&&!P.stoodInHeld t&&!P.eqGuardType P.depth t
  |_=>false
 |_=>false
theorem qvW{t:TypeId}(h:isI64 P t=true):P.underlying t=V (.int .i64):=by
 unfold isI64 at h;split at h
 ·assumption
 ·cases h
theorem qzN{x y:Operand}{t t' d ty:Nat}{ps:String}{af:Array Edge}{g:Option (Nat×Bool)}{a1 a2 b1 b2:Int}(hk:okI2 P t=true)
  (hx:opv e x=V (.agg #[.int .i64 a1,.int .i64 a2])) (hy:opv e y=V (.agg #[.int .i64 b1,.int .i64 b2])):Val P n e ⟨V d,.binOp .neq t x y t',ty,ps,af,g⟩ w (.bool (!((a1==b1)&&(a2==b2)))):=by
 unfold okI2 at hk;split at hk
 ·rename_i fs hu
  split at hk
  ·rename_i f1 f2 hf
   have hf':fs=#[f1,f2]:=by rw[<-Array.toArray_toList (xs:=fs),hf]
   subst hf';simp only[jf,jI] at hk;obtain⟨⟨⟨⟨⟨⟨⟨k1,k2⟩,k3⟩,k4⟩,k5⟩,k6⟩,k7⟩,k8⟩:=hk;exact qCd hu (by simp only[k1,k2,Bool.and_self]) (by rw[Nat.eq_of_beq_eq_true k3,Nat.eq_of_beq_eq_true k4]) (qvW k5) (qvW k6) k7 k8 hx hy
  ·cases hk
 ·cases hk
end
end Go.Fw


namespace Go.Fw
open Go
abbrev Ro{α:Type}[GoT α](w:World)(x:α)(cs:List Value):Prop:=GoT.R w (old w) x cs
def xs(T:Tab)(n:Nat):Nat->List (Nat×List Value)->List It->Env->List Nat->List Nat->Option (List It×Env×List Nat×List Nat)
 |0,_,k,e,x,y=>V (k,e,x,y)
 |m+1,bs,k,e,x,y=>match k with
  |.code (.seq a b)::k=>xs T n m bs (.code a::.code b::k) e x y
  |.code .skip::k=>xs T n m bs k e x y
  |.code (.block i c)::k=>xs T n m bs (.code c::.blk i::k) e x y
  |.code (.region _ a false)::k=>xs T n m bs (.ops a a.toList::k) e x y
  |.blk _::k=>xs T n m bs k e x y
  |.ops _ []::k=>xs T n m bs k e x y
  |.ops all (⟨V d,op,_,_,_,U⟩::l)::k=>match Nat.blt d n with
   |true=>match op with
    |.load t p=>match opv e p,T.get t,bs with
     |some (.pointer (V ⟨b,o,U⟩)),V te,(b',cs)::bs'=>match ld te cs o with
      |some v=>xs T n m bs' (.ops all l::k) ((d,v)::e) (b::x) (b'::y)
      |none=>U
     |_,_,_=>U
    |op=>match pev T e op with
     |some v=>xs T n m bs (.ops all l::k) ((d,v)::e) x y
     |none=>U
   |false=>U
  |.ops all (⟨dst,op,ty,ps,af,V g⟩::l)::k=>match guardU e all ⟨dst,op,ty,ps,af,V g⟩ with
   |true=>match dst with
    |some d=>match Nat.blt d n with
     |true=>xs T n m bs (.ops all l::k) ((d,undef)::e) x y
     |false=>U
    |none=>U
   |false=>match guardOf e all ⟨dst,op,ty,ps,af,V g⟩ with
    |some true=>xs T n m bs (.ops all (⟨dst,op,ty,ps,af,U⟩::l)::k) e x y
    |some false=>match dst with
     |some d=>match Nat.blt d n with
      |true=>xs T n m bs (.ops all l::k) ((d,undef)::e) x y
      |false=>U
     |none=>U
    |none=>U
  |_=>U
def xd(T:Tab)(n:Nat)(all:Array Oper):Nat->List (Nat×List Value)->List Oper->Env->List Nat->List Nat->Option (List Oper×Env×List Nat×List Nat)
 |0,_,k,e,x,y=>V (k,e,x,y)
 |m+1,bs,k,e,x,y=>match k with
  |⟨V d,op,_,_,_,U⟩::l=>match Nat.blt d n with
   |true=>match op with
    |.load t p=>match opv e p,T.get t,bs with
     |some (.pointer (V ⟨b,o,U⟩)),V te,(b',cs)::bs'=>match ld te cs o with
      |some v=>xd T n all m bs' l ((d,v)::e) (b::x) (b'::y)
      |none=>U
     |_,_,_=>U
    |op=>match pev T e op with
     |some v=>xd T n all m bs l ((d,v)::e) x y
     |none=>U
   |false=>U
  |⟨dst,op,ty,ps,af,V g⟩::l=>match guardU e all ⟨dst,op,ty,ps,af,V g⟩ with
   |true=>match dst with
    |some d=>match Nat.blt d n with
     |true=>xd T n all m bs l ((d,undef)::e) x y
     |false=>U
    |none=>U
   |false=>match guardOf e all ⟨dst,op,ty,ps,af,V g⟩ with
    |some true=>xd T n all m bs (⟨dst,op,ty,ps,af,U⟩::l) e x y
    |some false=>match dst with
     |some d=>match Nat.blt d n with
      |true=>xd T n all m bs l ((d,undef)::e) x y
      |false=>U
     |none=>U
    |none=>U
  |_=>U
section
variable{P:Program}{T:Tab}{n:Nat}{Q:Exit->Act->World->Prop}{k:List It}{e:Env}{w0 w:World}{L:List Ch}
theorem qvT(hT:TabOk P T):∀(m:Nat) (bs:List (Nat×List Value)) (k:List It) (e:Env) (x y:List Nat) (k':List It) (e':Env) (x' y':List Nat),(∀p∈bs,CellsAt w p.1 0 p.2)->x.length=y.length ->
  xs T n m bs k e x y=V (k',e',x',y')->x'.length=y'.length/\(x'=y'->x=y/\(Run P n Q k' e' w->Run P n Q k e w)):=by
 intro m
 induction m with
 |zero=>
  intro bs k e x y k' e' x' y' _ hl h;simp only[xs,Option.some.injEq,Prod.mk.injEq] at h;obtain⟨rfl,rfl,rfl,rfl⟩:=h;exact⟨hl,fun hh=>⟨hh,id⟩⟩
 |succ m ih=>
  intro bs k e x y k' e' x' y' hb hl h;unfold xs at h;split at h
  ·obtain⟨h1,h2⟩:=ih _ _ _ _ _ _ _ _ _ hb hl h;exact⟨h1,fun hh=>⟨(h2 hh).1,fun hk=>qZ ((h2 hh).2 hk)⟩⟩
  ·obtain⟨h1,h2⟩:=ih _ _ _ _ _ _ _ _ _ hb hl h;exact⟨h1,fun hh=>⟨(h2 hh).1,fun hk=>qcI ((h2 hh).2 hk)⟩⟩
  ·obtain⟨h1,h2⟩:=ih _ _ _ _ _ _ _ _ _ hb hl h;exact⟨h1,fun hh=>⟨(h2 hh).1,fun hk=>qm ((h2 hh).2 hk)⟩⟩
  ·obtain⟨h1,h2⟩:=ih _ _ _ _ _ _ _ _ _ hb hl h;exact⟨h1,fun hh=>⟨(h2 hh).1,fun hk=>qS ((h2 hh).2 hk)⟩⟩
  ·obtain⟨h1,h2⟩:=ih _ _ _ _ _ _ _ _ _ hb hl h;exact⟨h1,fun hh=>⟨(h2 hh).1,fun hk=>qz2 ((h2 hh).2 hk)⟩⟩
  ·obtain⟨h1,h2⟩:=ih _ _ _ _ _ _ _ _ _ hb hl h;exact⟨h1,fun hh=>⟨(h2 hh).1,fun hk=>qan ((h2 hh).2 hk)⟩⟩
  ·split at h
   ·rename_i hn
    split at h
    ·split at h
     ·rename_i hx hte
      split at h
      ·rename_i v hv
       have hb':=fun p hp=>hb p (jo _ hp);obtain⟨h1,h2⟩:=ih _ _ _ _ _ _ _ _ _ hb' (by simp[hl]) h;refine⟨h1,fun hh=>?_⟩;obtain⟨h3,h4⟩:=h2 hh;obtain⟨rfl,rfl⟩:=List.cons.inj h3;exact⟨rfl,fun hk=>r_v (qf2 hT (hb _ (jx ..)) (by rw[jY];exact hx) hte hv) hn (h4 hk)⟩
      ·cases h
     ·cases h
    ·split at h
     ·rename_i v hv
      obtain⟨h1,h2⟩:=ih _ _ _ _ _ _ _ _ _ hb hl h;exact⟨h1,fun hh=>⟨(h2 hh).1,fun hk=>r_v (v_p hT hv w) hn ((h2 hh).2 hk)⟩⟩
     ·cases h
   ·cases h
  ·split at h
   ·rename_i hg
    split at h
    ·split at h
     ·rename_i hn
      obtain⟨h1,h2⟩:=ih _ _ _ _ _ _ _ _ _ hb hl h;exact⟨h1,fun hh=>⟨(h2 hh).1,fun hk=>qBF (by unfold notW;rw[hg];rfl) Z hn ((h2 hh).2 hk)⟩⟩
     ·cases h
    ·cases h
   ·split at h
    ·rename_i hg
     obtain⟨h1,h2⟩:=ih _ _ _ _ _ _ _ _ _ hb hl h;exact⟨h1,fun hh=>⟨(h2 hh).1,fun hk=>qzh hg ((h2 hh).2 hk)⟩⟩
    ·rename_i hg
     split at h
     ·split at h
      ·rename_i hn
       obtain⟨h1,h2⟩:=ih _ _ _ _ _ _ _ _ _ hb hl h;exact⟨h1,fun hh=>⟨(h2 hh).1,fun hk=>qBF (by unfold notW;rw[hg,Bool.or_true]) Z hn ((h2 hh).2 hk)⟩⟩
      ·cases h
     ·cases h
    ·cases h
  ·cases h
theorem qBA(hT:TabOk P T){all:Array Oper}:∀(m:Nat) (bs:List (Nat×List Value)) (l:List Oper) (e:Env) (x y:List Nat) (l':List Oper) (e':Env) (x' y':List Nat),(∀p∈bs,CellsAt w p.1 0 p.2)->x.length=y.length ->
  xd T n all m bs l e x y=V (l',e',x',y')->x'.length=y'.length/\(x'=y'->x=y/\(RunD P n Q k all w l' e'->RunD P n Q k all w l e)):=by
 intro m
 induction m with
 |zero=>
  intro bs l e x y l' e' x' y' _ hl h;simp only[xd,Option.some.injEq,Prod.mk.injEq] at h;obtain⟨rfl,rfl,rfl,rfl⟩:=h;exact⟨hl,fun hh=>⟨hh,id⟩⟩
 |succ m ih=>
  intro bs l e x y l' e' x' y' hb hl h;unfold xd at h;split at h
  ·split at h
   ·rename_i hn
    split at h
    ·split at h
     ·rename_i hx hte
      split at h
      ·rename_i v hv
       have hb':=fun p hp=>hb p (jo _ hp);obtain⟨h1,h2⟩:=ih _ _ _ _ _ _ _ _ _ hb' (by simp[hl]) h;refine⟨h1,fun hh=>?_⟩;obtain⟨h3,h4⟩:=h2 hh;obtain⟨rfl,rfl⟩:=List.cons.inj h3;exact⟨rfl,fun hk=>d_v (fun w' hw=>qf2 hT ((hb _ (jx ..)).below hw) (by rw[jY];exact hx) hte hv) hn (h4 hk)⟩
      ·cases h
     ·cases h
    ·split at h
     ·rename_i v hv
      obtain⟨h1,h2⟩:=ih _ _ _ _ _ _ _ _ _ hb hl h;exact⟨h1,fun hh=>⟨(h2 hh).1,fun hk=>d_v (fun w' _=>v_p hT hv w') hn ((h2 hh).2 hk)⟩⟩
     ·cases h
   ·cases h
  ·split at h
   ·rename_i hg
    split at h
    ·split at h
     ·rename_i hn
      obtain⟨h1,h2⟩:=ih _ _ _ _ _ _ _ _ _ hb hl h;exact⟨h1,fun hh=>⟨(h2 hh).1,fun hk=>qBK (by unfold notW;rw[hg];rfl) Z hn ((h2 hh).2 hk)⟩⟩
     ·cases h
    ·cases h
   ·split at h
    ·rename_i hg
     obtain⟨h1,h2⟩:=ih _ _ _ _ _ _ _ _ _ hb hl h;exact⟨h1,fun hh=>⟨(h2 hh).1,fun hk=>qz3 hg ((h2 hh).2 hk)⟩⟩
    ·rename_i hg
     split at h
     ·split at h
      ·rename_i hn
       obtain⟨h1,h2⟩:=ih _ _ _ _ _ _ _ _ _ hb hl h;exact⟨h1,fun hh=>⟨(h2 hh).1,fun hk=>qBK (by unfold notW;rw[hg,Bool.or_true]) Z hn ((h2 hh).2 hk)⟩⟩
      ·cases h
     ·cases h
    ·cases h
  ·cases h
end
def bits(m K:Nat):Array Bool:=((List.range m).map fun i=>K.testBit i).toArray
theorem qyx{m:Nat}:Array.replicate m false=bits m 0:=by
 unfold bits;apply Array.ext';simp only[Nat.zero_testBit,Array.toList_replicate];exact Jp (by simp) (by simp)
def xa(T:Tab)(n:Nat)(ops:Array Oper):List Nat->List (Nat×List Value)->Nat->Env->List Nat->List Nat->Option (Nat×Env×List Nat×List Nat)
 | [],_,f,e,x,y=>V (f,e,x,y)
 |i::is,bs,f,e,x,y=>match f with
  |0=>U
  |f+1=>match ops[i]? with
   |some ⟨V d,op,_,_,_,U⟩=>match Nat.blt d n with
    |true=>match op with
     |.load t p=>match opv e p,T.get t,bs with
      |some (.pointer (V ⟨b,o,U⟩)),V te,(b',cs)::bs'=>match ld te cs o with
       |some v=>xa T n ops is bs' f ((d,v)::e) (b::x) (b'::y)
       |none=>U
      |_,_,_=>U
     |op=>match pev T e op with
      |some v=>xa T n ops is bs f ((d,v)::e) x y
      |none=>U
    |false=>U
   |_=>U
def oka(ops:Array Oper)(st:List Nat):List Nat->Array Bool->Array Bool->Bool
 | [],l,l'=>l==l'
 |i::is,l,l'=>(Region.noSelect ops&&Region.free .any ops l i&&(Region.ready .any ops l).contains i&&st.all (fun s=>!(Nat.beq s i)&&waitsB ops i s&&!(l.getD s true)))&&oka ops st is (l.setIfInBounds i true) l'
section
variable{P:Program}{T:Tab}{n:Nat}{fnc:Func}{R:Ending->World->Prop}{k:List It}{e:Env}{w0 w:World}{ops:Array Oper}{st:List Nat}{C:World->Prop}
theorem qvJ(hT:TabOk P T)(hC:C w):∀(is:List Nat) (bs:List (Nat×List Value)) (f:Nat) (e:Env) (x y:List Nat) (f':Nat) (e':Env) (x' y':List Nat) (l l':Array Bool),(∀p∈bs,∀w',C w'->CellsAt w' p.1 0 p.2)->x.length=y.length ->
  xa T n ops is bs f e x y=V (f',e',x',y')->oka ops st is l l'=true->x'.length=y'.length/\(x'=y'->x=y/\(RunA P n (bodyPost P fnc R) k ops st C f' l' e' w->RunA P n (bodyPost P fnc R) k ops st C f l e w)):=by
 intro is
 induction is with
 |nil=>
  intro bs f e x y f' e' x' y' l l' _ hl h ho;simp only[xa,Option.some.injEq,Prod.mk.injEq] at h;obtain⟨rfl,rfl,rfl,rfl⟩:=h;obtain rfl:=eq_of_beq ho;exact⟨hl,fun hh=>⟨hh,id⟩⟩
 |cons i is ih=>
  intro bs f e x y f' e' x' y' l l' hb hl h ho;unfold oka at ho;rw[jf] at ho;obtain⟨ho1,ho2⟩:=ho;unfold xa at h;split at h
  ·cases h
  ·split at h
   ·rename_i hi
    split at h
    ·rename_i hn
     split at h
     ·split at h
      ·rename_i hx hte
       split at h
       ·rename_i v hv
        have hb':=fun p hp=>hb p (jo _ hp);obtain⟨h1,h2⟩:=ih _ _ _ _ _ _ _ _ _ _ _ hb' (by simp[hl]) h ho2;refine⟨h1,fun hh=>?_⟩;obtain⟨h3,h4⟩:=h2 hh;obtain⟨rfl,rfl⟩:=List.cons.inj h3;exact⟨rfl,fun hk=>qc1 i hi _ Z ho1 (fun w' hw'=>qf2 hT (hb _ (jx ..) w' hw') (by rw[jY];exact hx) hte hv) hC hn (h4 hk)⟩
       ·cases h
      ·cases h
     ·split at h
      ·rename_i v hv
       obtain⟨h1,h2⟩:=ih _ _ _ _ _ _ _ _ _ _ _ hb hl h ho2;exact⟨h1,fun hh=>⟨(h2 hh).1,fun hk=>qc1 i hi _ Z ho1 (fun w' _=>v_p hT hv w') hC hn ((h2 hh).2 hk)⟩⟩
      ·cases h
    ·cases h
   ·cases h
end
def gets(e:Env):Env->Option Env
 | []=>V []
 |p::l=>match e.get p.1,gets e l with
  |some v,V r=>V ((p.1,v)::r)
  |_,_=>U
theorem qp4{e:Env}:∀{e':Env},gets e e'=V e'->subEnv e e'
 | [],_=>trivial
 |p::l,h=>by
  unfold gets at h;split at h
  ·rename_i v r hv hr
   have h:=List.cons.inj (Option.some.inj h);refine⟨?_,qp4 (by rw[hr,h.2])⟩;rw[hv,<-h.1]
  ·cases h
def pickN(L:List Ch):List Nat->Option (List Ch)
 | []=>V []
 |i::is=>match L[i]?,pickN L is with
  |some c,V l=>V (c::l)
  |_,_=>U
def setN:List Ch->Nat->Ch->Option (List Ch)
 | [],_,_=>V []
 |_::l,0,c=>V (c::l)
 |a::l,i+1,c=>match setN l i c with
  |some r=>V (a::r)
  |none=>U
theorem qxI:∀{L:List Ch} {i:Nat} {c:Ch} {L':List Ch},setN L i c=V L'->L.set i c=L'
 | [],_,_,_,h=>by simpa [setN] using h
 |_::_,0,_,_,h=>by simpa [setN] using h
 |a::l,i+1,c,L',h=>by
  unfold setN at h;split at h
  ·rename_i r hr
   rw[List.set_cons_succ,qxI hr];exact Option.some.inj h
  ·cases h
def splN:List Value->Nat->List Value->Option (List Value)
 |cs,0,[]=>V cs
 | [],_,_=>U
 |_::cs,0,u::us=>match splN cs 0 us with
  |some r=>V (u::r)
  |none=>U
 |c::cs,j+1,us=>match splN cs j us with
  |some r=>V (c::r)
  |none=>U
theorem qu8:∀{cs:List Value} {j:Nat} {us r:List Value},splN cs j us=V r->splice cs j us=r
 |cs,0,[],r,h=>by
  have h:cs=r:=by cases cs<;>simpa [splN] using h
  subst h;simp[splice]
 | [],0,_::_,_,h=>by simp[splN] at h
 | [],_+1,_,_,h=>by simp[splN] at h
 |c::cs,0,u::us,r,h=>by
  unfold splN at h;split at h
  ·rename_i q hq
   have:=qu8 hq;obtain rfl:=Option.some.inj h;rw[<-this];simp[splice]
  ·cases h
 |c::cs,j+1,us,r,h=>by
  unfold splN at h;split at h
  ·rename_i q hq
   have:=qu8 hq;obtain rfl:=Option.some.inj h;rw[<-this];simp[splice,Nat.add_right_comm]
  ·cases h
section
variable{P:Program}{T:Tab}{n:Nat}{Q:Exit->Act->World->Prop}{k:List It}{e:Env}{w0 w:World}{L:List Ch}{all:Array Oper}
theorem dN(h:SH w0 w L)(hk:∀w',SH w0 w' L->Run P n Q k e w'):RunD P n Q k all w [] e:=qCo fun w' hb=>hk w' (h.ext hb)
theorem rK{Inv:Nat->Env->World->Prop}{m:Nat}{e':Env}(h:Inv m e' w)(hs:gets e e'=V e'):Run P n Q (.goal (Back n Inv (m+1))::k) e w:=qxr m e' (Nat.lt_succ_self m) (qp4 hs) h
theorem aK{ops:Array Oper}{st:List Nat}{C:World->Prop}{fuel:Nat}{listed:Array Bool}{J:Env->World->Prop}{e':Env}(K:∀e w,J e w->RunA P n Q k ops st C fuel listed e w)(h:J e' w)(hs:gets e e'=V e'):RunA P n Q k ops st C fuel listed e w:=qrx e' (qp4 hs) (K _ _ h)
theorem rG{J:Env->World->Prop}{e':Env}(h:J e' w)(hs:gets e e'=V e'):Run P n Q (.goal (CutJ n J)::k) e w:=qyk e' (qp4 hs) h
theorem rL{b:Code}(Inv:Nat->Env->World->Prop)(m:Nat){e':Env}(h:Inv m e' w)(hs:gets e e'=V e')(round:∀m e w,Inv m e w->Run P n Q (.code b::.goal (Back n Inv m)::k) e w):Run P n Q (.code (.loop b)::k) e w:=
 qzy e' (qp4 hs) (qwL Inv m h round)
theorem rA{id:Nat}{ops:List Oper}(st is:List Nat){m:Nat}{L':List Ch}(h:SH w0 w L)(hh:(pickN L is,ops.length,P.follows .mixedOrders)=(V L',m,true))
  (hk:∀w',SH w0 w' L->RunA P n Q k ops.toArray st (fun w'=>SH w0 w' L') m (bits m 0) e w'):Run P n Q (.code (.region id ops.toArray true)::k) e w:=by
 simp only[Prod.mk.injEq] at hh;exact qCl st _ hh.2.2 m (by simpa using hh.2.1) _ qyx fun w' hb=>hk w' (h.ext hb)
theorem Ag{ops:Array Oper}{st:List Nat}{C:World->Prop}{fuel:Nat}{listed:Array Bool}{all:Array Oper}(hC:C w)(h:RunA P n Q k ops st C fuel listed e w):Run P n Q (.ops all []::.goal (NextA P n Q k ops st C fuel listed)::k) e w:=qa6 (fun _=>hC) h
theorem Ao{ops:Array Oper}{st:List Nat}{C:World->Prop}{fuel:Nat}(i K:Nat){m K0:Nat}{o:Oper}(hi:ops[i]?=V o)(h:Run P n Q (.ops ops [o]::.goal (NextA P n Q k ops st C fuel (bits m K))::k) e w)
  (hl:(bits m K0).setIfInBounds i true=bits m K:=by kernel_rfl) (hr:Region.ready .any ops (bits m K0)=[i]:=by kernel_rfl):RunA P n Q k ops st C (fuel+1) (bits m K0) e w:=qnt i hi _ hl hr h
theorem Ad{ops:Array Oper}{st:List Nat}{C:World->Prop}{listed:Array Bool}(h:Run P n Q k e w)(hr:Region.ready .any ops listed=[]:=by kernel_rfl):RunA P n Q k ops st C 0 listed e w:=qwY hr h
theorem At{ops:Array Oper}{st:List Nat}{C:World->Prop}{fuel:Nat}(i j K K':Nat){m K0:Nat}{o o':Oper}(hh:(ops[i]?,ops[j]?)=(V o,V o'))(h1:Run P n Q (.ops ops [o]::.goal (NextA P n Q k ops st C fuel (bits m K))::k) e w)
  (h2:Run P n Q (.ops ops [o']::.goal (NextA P n Q k ops st C fuel (bits m K'))::k) e w) (hl1:(bits m K0).setIfInBounds i true=bits m K:=by kernel_rfl) (hl2:(bits m K0).setIfInBounds j true=bits m K':=by kernel_rfl)
  (hr:Region.ready .any ops (bits m K0)=[i,j]:=by kernel_rfl):RunA P n Q k ops st C (fuel+1) (bits m K0) e w:=by
 simp only[Prod.mk.injEq] at hh;exact qCp i j hh.1 hh.2 _ _ hl1 hl2 hr h1 h2
theorem rD{id:Nat}{ops:List Oper}(h:RunD P n Q k ops.toArray w ops e)(hm:P.follows .mixedOrders=true:=by rfl)(hB:Region.lexB .any ops.toArray=true:=by kernel_rfl):Run P n Q (.code (.region id ops.toArray true)::k) e w:=qBR hm hB h
end
section
variable{w:World}{S:Nat->Prop}
theorem pR{α β:Type}{A:GoT α}{B:GoT β}{x:α}{y:β}{c d:List Value}(h1:A.R w S x c)(h2:B.R w S y d):(pairT A B).R w S (x,y) (c++d):=⟨c,d,rfl,h1,h2⟩
theorem rI(x:Int):GoT.R w S x [.int .i64 x]:=rfl
theorem rB(x:Bool):GoT.R w S x [.bool x]:=rfl
theorem rT(x:ByteArray):GoT.R w S x [.string x]:=rfl
theorem rS{α:Type}[GoT α]{xs:List α}{p:Option Addr}{c:Nat}(s:SlR w S xs p c):GoT.R w S xs [.slice p xs.length c]:=⟨p,c,rfl,s⟩
end
def callB(P:Program)(f:FuncId):Bool:=match P.funcs[f]? with
 |some fn=>fn.body.isSome&&!(fn.name== "runtime.NumGoroutine")
 |none=>false
theorem qzK{P:Program}{f:FuncId}(h:callB P f=true):qdZ P f:=by
 unfold callB at h;split at h
 ·rename_i fn hf
  rw[jf,jI] at h;exact⟨fn,hf,h.1,h.2⟩
 ·cases h
def res1(e:Env):List ResultVar->Option Value
 | [.tmp t]=>e.get t
 |_=>U
theorem qxD{T:Tab}{e:Env}{w:World}{rs:List ResultVar}{v:Value}(h:res1 e rs=V v):ResOk T e w rs [v]:=by
 unfold res1 at h;split at h
 ·exact⟨h,G⟩
 ·cases h
end Go.Fw
