/- Numbers of paths along an order of a graph; places that are chosen in order. No program in sight. -/
import Derived.Test.YteofoidaapgdkaaGreatDoorFw31
import Derived.KernelRfl
open Option renaming bind_some → jd, some → V, none → U
open Nat renaming le_refl → je, le_of_ble_eq_true → jr, mul_le_mul_right → js, lt_of_lt_of_le → jv, succ_mul → jM, zero_add → Jg
open Bool renaming and_eq_true → jf, eq_iff_iff → jj, not_eq_true' → jD, true_and → jG, not_true → jW
open Go.Result renaming andThen_ok → jg
open List renaming length_append → jh, getElem?_eq_getElem → ji, mem_cons_of_mem → jn, getElem_mem → jo, append_assoc → jp, length_singleton → jt, length_map → ju, getElem?_append_left → jw, mem_cons_self → jx, take_succ_eq_append_getElem → jy, getElem?_take → jz, length_cons → jA, getElem?_append_right → jB, getD_eq_getElem?_getD → jC, getElem?_toArray → jE, map_append → jF, take_length → jH, eq_nil_of_length_eq_zero → jK, drop_eq_getElem_cons → jL, all_eq_true → jN, not_mem_nil → jO, getElem_of_mem → jP, length_replicate → jQ, size_toArray → jR, mem_of_getElem? → jS, mem_append_left → jT, length_nil → jV, append_nil → jX, ext_getElem → jZ, mem_cons → Jb, getElem?_map → Jc, range_succ → Je, length_take → Jf
open Go.Sem renaming run_bind → jk, run_pure → jm
open Int renaming toNat_natCast → jq, tdiv_eq_ediv_of_nonneg → jJ, mul_nonneg → jU, le_refl → jY, mul_assoc → Ja, mul_le_mul → Jd
open Array renaming getElem?_append_left → jI

namespace Go.Fw
open Go
def selN (q:Nat→Bool)(m:Nat):List Nat:=(List.range m).filter q
theorem qiF {q:Nat→Bool}{j:Nat}:selN q (j+1)=selN q j++(bif q j then[j] else[]):=by
 unfold selN;rw[Je,List.filter_append];cases h:q j<;>simp[h]
theorem qk4 {q:Nat→Bool}{j:Nat}:(selN q j).length≤j:=by
 unfold selN;exact Nat.le_trans (List.length_filter_le _ _) (by rw[List.length_range];exact je _)
theorem qnj {q:Nat→Bool}{j k:Nat}:k ∈ selN q j↔k<j∧q k=true:=by
 unfold selN;rw[List.mem_filter,List.mem_range]
theorem qo6 {ρ:Type}{Lf:Nat→List Int→Int→Option ρ}{q:Nat→Bool}{len:Nat}{fin:ρ}(hl:len≤1048576)(hend:Ev (fun n=>Lf n (ints (selN q len)) (len:Int)) fin)
  (hstep:∀ j,j<len→∀ t:List Int,appS t [(j:Int)]=V (t++[(j:Int)])→∀ X,(q j=true→Ev (fun n=>Lf n (t++[(j:Int)]) ((j+1:Nat):Int)) X)→(q j=false→Ev (fun n=>Lf n t ((j+1:Nat):Int)) X)→Ev (fun n=>Lf (n+1) t (j:Int)) X) :
  Ev (fun n=>Lf n [] 0) fin:=
 down (P:=fun j=>Ev (fun n=>Lf n (ints (selN q j)) (j:Int)) fin) len hend (fun j hj ih=>Ev.succ (hstep j hj _
  (qb0 (by have:=qk4 (q:=q) (j:=j);rw[qcG,jt];omega)) _
  (fun h=>by rw[qiF,h] at ih;simp only[cond_true,qjv] at ih;exact ih) (fun h=>by rw[qiF,h] at ih;simpa using ih)))
section
variable {sc:Nat→List Int}{m:Nat}
end
end Go.Fw


namespace Go.Fw
open Go
open Go.RowKit (Below)
section
variable {w0 w:World}{L:List Ch}
theorem SH.rowS {α:Type}[GoT α]{S:Nat→Prop}{xs:List α}{p:Option Addr}{c:Nat}(i:Nat)(h:SH w0 w L)(hi:L[i]?=V (Ch.rowD w0 S xs p c)):SlR w (Fw.old w) xs p c:=by
 obtain⟨h1,h2,h3⟩:=(h.mem hi).1;refine⟨h1,h2,?_⟩;rcases h3 with⟨a,b,_⟩|⟨b,cur,T,rfl,hb,hg,hc,hx⟩
 ·exact .inl ⟨.inl a,b⟩
 ·refine .inr ⟨b,0,cur,T,(0,0),rfl,((h.mem hi).2 b hb).2,hg,by omega,fun i x hi=>?_⟩;obtain⟨cs,hR,hj⟩:=hx i x hi;exact⟨cs,h.old hR,by simpa using hj⟩
end
end Go.Fw


namespace Go.Fw
open Go
open Go.RowKit (Below)
section
variable {P:Program}{T:Tab}{n:Nat}{Q:Exit→Act→World→Prop}{k:List It}{e:Env}{w0 w:World}{L:List Ch}
variable {α:Type}[GoT α]{S S1:Nat→Prop}{xs ys:List α}{p p':Option Addr}{c c':Nat}
def Rd (w0:World)(xs:List α)(rs:List (Raw α)):Prop:=rs.length=xs.length∧∀ (i:Nat) (x:α) (r:Raw α),xs[i]?=V x→rs[i]?=V r→GoT.R w0 (Fw.old w0) x r.cs
theorem Rd.app {rs qs:List (Raw α)}(h1:Rd w0 xs rs)(h2:Rd w0 ys qs):Rd w0 (xs++ys) (rs++qs):=by
 refine⟨by simp[h1.1,h2.1],fun i x r hx hr=>?_⟩;by_cases hi:i<xs.length
 ·rw[jw hi] at hx;rw[jw (by rw[h1.1];exact hi)] at hr;exact h1.2 i x r hx hr
 ·rw[jB (by omega)] at hx;rw[jB (by rw[h1.1];omega),h1.1] at hr;exact h2.2 _ x r hx hr
abbrev SH.wc (_:SH w0 w L):World:=w
theorem qm {β:Type}{f g:Option β}{r:β}{c:Bool}{t:Nat}(hF:(bif c then f else g)=V r)(ht:e.get t=V (.bool c))(h1:f=V r→Run P n Q k ((t,.bool true)::e) w)(h2:g=V r→Run P n Q k ((t,.bool false)::e) w):Run P n Q k e w:=by
 cases c
 ·exact qzD Z ht (h2 hF)
 ·exact qzC Z ht (h1 hF)
theorem qbZ {β:Type}{f g:Option β}{r:β}{c:Bool}{t:Nat}{all:Array Oper}{l:List Oper}(hF:(bif c then f else g)=V r)(ht:e.get t=V (.bool c))(h1:f=V r→RunD P n Q k all w l ((t,.bool true)::e))(h2:g=V r→RunD P n Q k all w l ((t,.bool false)::e)):RunD P n Q k all w l e:=by
 cases c
 ·exact qzq Z ht (h2 hF)
 ·exact qzf Z ht (h1 hF)
theorem qvc {β:Type}{f g:Option β}{r:β}{c:Bool}{t:Nat}{ops:Array Oper}{st:List Nat}{C:World→Prop}{fuel:Nat}{listed:Array Bool}(hF:(bif c then f else g)=V r)(ht:e.get t=V (.bool c))(h1:f=V r→RunA P n Q k ops st C fuel listed ((t,.bool true)::e) w)(h2:g=V r→RunA P n Q k ops st C fuel listed ((t,.bool false)::e) w):RunA P n Q k ops st C fuel listed e w:=by
 cases c
 ·exact qzr Z ht (h2 hF)
 ·exact qzG Z ht (h1 hF)
theorem SlR.ix {β:Type}{A:Nat→Prop}{i:Int}{f:α→Option β}{r:β}(h:SlR w A xs p c)(hF:(idx xs i).bind f=V r) :
  ∃ y,idx xs i=V y∧f y=V r∧(0≤i∧i<xs.length∧xs[i.toNat]?=V y)∧∃ b o q cs,p=V ⟨b,o,U⟩∧q=o+i.toNat*GoT.k α∧GoT.R w A y cs∧CellsAt w b q cs:=by
 obtain⟨y,hy,hF⟩:=qc hF;obtain⟨b,o,q,cs,h1,h2,_,h3,h4⟩:=h.at hy;exact⟨y,hy,hF,qcT hy,b,o,q,cs,h1,h2,h3,h4⟩
def RetU (P:Program)(f:FuncId)(vs:List Value)(w:World)(J:World→Prop):Prop:=
 Calls P f vs.toArray w fun e w'=>e=.returned (tup [])∧J w'
theorem qsC {J:World→Prop}{all:Array Oper}{l:List Oper}{d ty:Nat}{ps:String}{af:Array Edge}{x:Operand}{args:Array Operand}{ats:Array TypeId}{f:FuncId}{fi ca:Array Value}{az vs:List Value}
  (hcall:qeS P f) (hc:RetU P f vs w J) (hx:opv e x=V (.func (.func f) fi ca)) (hargs:opvs e args.toList=V az) (hvs:fi.toList++az++ca.toList=vs) (hn:Nat.blt d n=true)
  (hk:∀ w',J w'→Run P n Q (.ops all l::k) ((d,tup [])::e) w'):Run P n Q (.ops all (⟨V d,.call ⟨.value x,args,ats⟩,ty,ps,af,U⟩::l)::k) e w:=by
 subst hvs;refine qmy (R:=fun v w'=>v=tup []∧J w') Z Z hn (fun a ha=>qiD ha hcall hx hargs w) (hc.mono ?_) ?_
 ·rintro e w' ⟨rfl,h⟩;exact⟨_,rfl,rfl,h⟩
 ·rintro v w' ⟨rfl,h⟩;exact hk w' h
theorem qtu {J:World→Prop}{f:FuncId}{fn:Func}{c:Code}{vs:List Value}{m:Nat}(hf:P.funcs[f]?=V fn)(hb:fn.body=V c)(hm:fn.ntmps=m)(hn:Nat.ble vs.length m=true)
  (h:Run P m (bodyPost P fn fun e w'=>e=.returned (tup [])∧J w') [.code c] (argEnv 0 vs) w):RetU P f vs w J:=by
 subst hm;have hn':=jr hn;refine calls_of_wp hf hb ?_;have hag:Agree fn.ntmps (argEnv 0 vs) { tmps:=vs.toArray++Array.replicate (fn.ntmps-vs.toArray.size) undef,defers:=[] }:=by
  refine⟨rfl,by simp;omega,fun i v hi=>?_⟩;obtain⟨_,h2⟩:=qiw vs 0 i v hi;simp only[Nat.sub_zero] at h2;have hlt:=(List.getElem?_eq_some_iff.1 h2).1;rw[jI (by simpa using hlt)];simpa using h2
 have h1:=h _ hag;refine wp_mono h1 ?_;intro ex a' w' hq;cases ex<;>exact hq
theorem qzH {J:World→Prop}(hT:TabOk P T){fn:Func}(h:J w)(hr:ResOk T e w fn.results.toList []) :
  Run P n (bodyPost P fn fun e w'=>e=.returned (tup [])∧J w') (.code .ret::k) e w:=
 qr2 fun _ ha=>⟨ha.defers,tup [],qgj hT ha hr,rfl,h⟩
theorem qzI {J:World→Prop}(hT:TabOk P T){fn:Func}(h:J w)(hr:ResOk T e w fn.results.toList []) :
  Run P n (bodyPost P fn fun e w'=>e=.returned (tup [])∧J w') [] e w:=
 qzQ fun _ ha=>⟨ha.defers,tup [],qgj hT ha hr,rfl,h⟩
def RetT {β:Type}[GoT β](P:Program)(f:FuncId)(vs:List Value)(w w0:World)(F:List Ch)(r:List β):Prop:=
 Calls P f vs.toArray w fun e w'=>∃ S p k,e=.returned (.slice p r.length k)∧SH w0 w' (Ch.own S r [.slice p r.length k]::F)
theorem qnO {β:Type}[GoT β]{r:List β}{F:List Ch}{all:Array Oper}{l:List Oper}{d ty:Nat}{ps:String}{af:Array Edge}{x:Operand}{args:Array Operand}{ats:Array TypeId}{f:FuncId}{fi ca:Array Value}{az vs:List Value}
  (hcall:qeS P f) (hc:RetT P f vs w w0 F r) (hx:opv e x=V (.func (.func f) fi ca)) (hargs:opvs e args.toList=V az) (hvs:fi.toList++az++ca.toList=vs) (hn:Nat.blt d n=true)
  (hk:∀ w' S p c,SH w0 w' (Ch.own S r [.slice p r.length c]::F)→Run P n Q (.ops all l::k) ((d,.slice p r.length c)::e) w'):Run P n Q (.ops all (⟨V d,.call ⟨.value x,args,ats⟩,ty,ps,af,U⟩::l)::k) e w:=by
 subst hvs;refine qmy (R:=fun v w'=>∃ S p c,v=.slice p r.length c∧SH w0 w' (Ch.own S r [.slice p r.length c]::F)) Z Z hn (fun a ha=>qiD ha hcall hx hargs w) (hc.mono ?_) ?_
 ·rintro e w' ⟨S,p,c,rfl,h⟩;exact⟨_,rfl,S,p,c,rfl,h⟩
 ·rintro v w' ⟨S,p,c,rfl,h⟩;exact hk w' S p c h
theorem qpX {β:Type}[GoT β]{r:List β}{F:List Ch}{f:FuncId}{fn:Func}{c:Code}{vs:List Value}{m:Nat}(hf:P.funcs[f]?=V fn)(hb:fn.body=V c)(hm:fn.ntmps=m)(hn:Nat.ble vs.length m=true)
  (h:Run P m (bodyPost P fn fun e w'=>∃ S p k,e=.returned (.slice p r.length k)∧SH w0 w' (Ch.own S r [.slice p r.length k]::F)) [.code c] (argEnv 0 vs) w):RetT P f vs w w0 F r:=by
 subst hm;have hn':=jr hn;refine calls_of_wp hf hb ?_;have hag:Agree fn.ntmps (argEnv 0 vs) { tmps:=vs.toArray++Array.replicate (fn.ntmps-vs.toArray.size) undef,defers:=[] }:=by
  refine⟨rfl,by simp;omega,fun i v hi=>?_⟩;obtain⟨_,h2⟩:=qiw vs 0 i v hi;simp only[Nat.sub_zero] at h2;have hlt:=(List.getElem?_eq_some_iff.1 h2).1;rw[jI (by simpa using hlt)];simpa using h2
 have h1:=h _ hag;refine wp_mono h1 ?_;intro ex a' w' hq;cases ex<;>exact hq
theorem qxQ {β:Type}[GoT β]{r:List β}{F:List Ch}{S':Nat→Prop}{p':Option Addr}{ln' c':Nat}(hT:TabOk P T){fn:Func}(h:SH w0 w (Ch.own S' r [.slice p' ln' c']::F))(hr:ResOk T e w fn.results.toList [.slice p' ln' c']) :
  Run P n (bodyPost P fn fun e w'=>∃ S p k,e=.returned (.slice p r.length k)∧SH w0 w' (Ch.own S r [.slice p r.length k]::F)) (.code .ret::k) e w:=by
 obtain rfl:=(h.sl 0 Z).2;exact qr2 fun _ ha=>⟨ha.defers,_,qgj hT ha hr,S',p',c',rfl,h⟩
end
end Go.Fw


namespace Go.Fw
open Go
structure IsRoot (x w:Int):Prop where
 pos:0≤w
 lo:w*w≤x
 hi:x<(w+1)*(w+1)
theorem qvo {a b:Int}(h0:0≤a)(h:a≤b):a*a≤b*b:=Jd h h h0 (Int.le_trans h0 h)
theorem qyP {w:Int}:(w+1)*(w+1)=w*w+2*w+1:=by simp only[Int.add_mul,Int.mul_add,Int.one_mul,Int.mul_one];omega
theorem qrj {w:Int}:(2*w)*(2*w)=4*(w*w):=by rw[Ja,Int.mul_left_comm w 2 w];omega
theorem qvb {w:Int}:(2*w+1)*(2*w+1)=4*(w*w)+4*w+1:=by rw[qyP,qrj];omega
theorem qxN {w:Int}:(2*w+2)*(2*w+2)=4*((w+1)*(w+1)):=by rw[show 2*w+2=2*(w+1) by omega,qrj]
theorem IsRoot.uniq {x w v:Int}(h:IsRoot x w)(g:IsRoot x v):w=v:=by
 have h0:=h.pos;have g0:=g.pos;have h1:=h.lo;have h2:=h.hi;have g1:=g.lo;have g2:=g.hi;rcases Int.lt_trichotomy w v with hh|hh|hh
 ·have:=qvo (show 0≤w+1 by omega) (show w+1≤v by omega);omega
 ·exact hh
 ·have:=qvo (show 0≤v+1 by omega) (show v+1≤w by omega);omega
theorem IsRoot.four {x w v:Int}(h:IsRoot x w)(g:IsRoot (4*x) v):v=2*w∨v=2*w+1:=by
 have h0:=h.pos;have g0:=g.pos;have h1:=h.lo;have h2:=h.hi;have g1:=g.lo;have g2:=g.hi;by_cases a:v<2*w
 ·have:=qvo (show 0≤v+1 by omega) (show v+1≤2*w by omega);rw[qrj] at this;omega
 ·by_cases c:2*w+2≤v
  ·have:=qvo (show 0≤2*w+2 by omega) c;rw[qxN] at this;omega
  ·omega
def divI (a b mode:Int):Int:=bif decide (a.tmod b<0)&&(mode==0) then a.tdiv b-1 else bif decide (a.tmod b > 0)&&(mode==1) then a.tdiv b+1 else a.tdiv b
theorem qsS {a b mode:Int}(h:0≤a)(hb:0<b):divI a b mode=if mode=1∧a % b > 0 then a / b+1 else a / b:=by
 unfold divI;rw[Int.tmod_eq_emod_of_nonneg h,jJ h];have:=Int.emod_nonneg a (show b ≠ 0 by omega);rw[show decide (a % b<0)=false by simp;omega,Bool.false_and];simp only[cond_false];by_cases h1:mode=1
 ·by_cases h2:a % b > 0
  ·rw[if_pos ⟨h1,h2⟩,decide_eq_true h2,show(mode==1)=true by simpa using h1];rfl
  ·rw[if_neg (fun h=>h2 h.2),decide_eq_false h2];rfl
 ·rw[if_neg (fun h=>h1 h.1),show(mode==1)=false by simpa using h1,Bool.and_false];rfl
theorem qu8 {x w v mode:Int}(h:IsRoot x w)(g:IsRoot (4*x) v)(hm:mode=0∨mode=1) :
  divI (if mode=1∧v*v<4*x then v+1 else v) 1000 mode=if mode=1∧w*w<x then w / 500+1 else divI w 500 mode:=by
 have h0:=h.pos;have g0:=g.pos;have g1:=g.lo;have h1:=h.lo;have hv:=h.four g;rw[qsS h0 (by omega),qsS (by split<;>omega) (by omega)];rcases hm with rfl|rfl
 ·rw[if_neg (by omega),if_neg (by omega),if_neg (by omega),if_neg (by omega)];omega
 ·have e:v*v=4*(w*w)∨v*v=4*(w*w)+4*w+1:=by
   rcases hv with rfl|rfl
   ·exact .inl qrj
   ·exact .inr qvb
  simp only[true_and];by_cases c:w*w<x
  ·have hs:v*v<4*x:=by omega
   rw[if_pos hs,if_pos c];split<;>omega
  ·have hw:w*w=x:=by omega
   have hv2:v=2*w:=by
    rcases hv with hv|hv
    ·exact hv
    ·subst hv;rw[qvb] at g1;omega
   have hs:¬ v*v<4*x:=by rw[hv2,qrj];omega
   rw[if_neg hs,if_neg c];split<;>split<;>omega
theorem qsl {ρ:Type}{Lf:Nat→Int→Int→Option ρ}{fin:Int→ρ}{x H:Int}(hx:0≤x)(hH:x<(H+1)*(H+1))(h0:0≤H)
  (hend:∀ n l,0≤l→l≤H→Lf (n+1) l l=V (fin l))
  (hstep:∀ n l h,0≤l→l<h→h≤H→Lf (n+1) l h=bif decide ((l+h+1) / 2*((l+h+1) / 2)≤x) then Lf n ((l+h+1) / 2) h else Lf n l ((l+h+1) / 2-1)) :
  ∃ w,IsRoot x w∧w≤H∧Ev (fun n=>Lf n 0 H) (fin w):=by
 have main:∀ d:Nat,∀ l h:Int,0≤l→l≤h→h≤H→h-l≤d→l*l≤x→x<(h+1)*(h+1)→∃ w,IsRoot x w∧w≤H∧Ev (fun n=>Lf n l h) (fin w):=by
  intro d
  induction d with
  | zero=>
   intro l h hl hlh hh hd h1 h2;obtain rfl:l=h:=by omega
   exact⟨l,⟨hl,h1,h2⟩,hh,Ev.step (fun n=>hend n l hl hh) .done⟩
  | succ d ih=>
   intro l h hl hlh hh hd h1 h2;by_cases c:l=h
   ·subst c;exact⟨l,⟨hl,h1,h2⟩,hh,Ev.step (fun n=>hend n l hl hh) .done⟩
   ·have hlt:l<h:=by omega
    by_cases q:(l+h+1) / 2*((l+h+1) / 2)≤x
    ·obtain⟨w,r1,r2,r3⟩:=ih ((l+h+1) / 2) h (by omega) (by omega) hh (by omega) q h2;exact⟨w,r1,r2,Ev.step (g:=fun n=>Lf n ((l+h+1) / 2) h) (fun n=>by rw[hstep n l h hl hlt hh,decide_eq_true q];rfl) r3⟩
    ·obtain⟨w,r1,r2,r3⟩:=ih l ((l+h+1) / 2-1) hl (by omega) (by omega) (by omega) h1 (by rw[Int.sub_add_cancel];omega);exact⟨w,r1,r2,Ev.step (g:=fun n=>Lf n l ((l+h+1) / 2-1)) (fun n=>by rw[hstep n l h hl hlt hh,decide_eq_false q];rfl) r3⟩
 exact main H.toNat 0 H (jY _) h0 (jY _) (by omega) (by omega) hH
end Go.Fw


namespace Go.Fw
open Go
section
variable {L:Nat}{fr to:Nat→Int}{lv:Nat→Bool}
def inN (L:Nat)(fr to:Nat→Int)(lv:Nat→Bool)(R:List Nat)(k:Nat):Nat:=cntP (fun x=>lv x&&(to x==(k:Int)&&!decide (fr x ∈ ints R))) L
def lkN (L:Nat)(fr to:Nat→Int)(lv:Nat→Bool)(i k:Nat):Nat:=cntP (fun x=>lv x&&(fr x==(i:Int))&&(to x==(k:Int))) L
def freeN (L:Nat)(fr to:Nat→Int)(lv:Nat→Bool)(R:List Nat)(k:Nat):Bool:=!decide (k ∈ R)&&decide (inN L fr to lv R k=0)
def nxtN (L:Nat)(fr to:Nat→Int)(lv:Nat→Bool)(n:Nat)(R:List Nat):Option Nat:=(List.range n).find? (freeN L fr to lv R)
def ordN (L:Nat)(fr to:Nat→Int)(lv:Nat→Bool)(n:Nat):Nat→List Nat→Option (List Nat)
 | 0,R=>V R
 | m+1,R=>match nxtN L fr to lv n R with|none=>U|some k=>ordN L fr to lv n m (R++[k])
def Closed (L:Nat)(fr to:Nat→Int)(lv:Nat→Bool)(R:List Nat):Prop:=∀ x,x<L→lv x=true→to x ∈ ints R→fr x ∈ ints R
theorem qmZ {R:List Nat}{k:Nat}:(k:Int) ∈ ints R↔k ∈ R:=by
 unfold ints;rw[List.mem_map];constructor
 ·rintro⟨j,hj,e⟩;obtain rfl:j=k:=by omega
  exact hj
 ·exact fun h=>⟨k,h,rfl⟩
theorem quP {p q r:Nat→Bool}{n:Nat}(h:∀ x,x<n→((bif p x then 1 else 0):Nat)=(bif q x then 1 else 0)+(bif r x then 1 else 0)):cntP p n=cntP q n+cntP r n:=by
 induction n with
 | zero=>rfl
 | succ n ih=>unfold cntP;rw[ih (fun x hx=>h x (by omega)),h n (by omega)];omega
theorem qwV {R:List Nat}{i k:Nat}(hi:i ∉ R):inN L fr to lv R k=inN L fr to lv (R++[i]) k+lkN L fr to lv i k:=by
 unfold inN lkN;refine quP fun x _=>?_;cases lv x
 ·rfl
 ·cases to x==(k:Int)
  ·simp
  ·by_cases hf:fr x=(i:Int)
   ·have h1:fr x ∉ ints R:=by rw[hf,qmZ];exact hi
    have h2:fr x ∈ ints (R++[i]):=by rw[qjv,hf];simp
    rw[hf] at h1 h2;simp[h1,h2,hf]
   ·have h2:(fr x ∈ ints (R++[i]))↔fr x ∈ ints R:=by rw[qjv];simp[hf]
    rw[show(fr x==(i:Int))=false by simpa using hf];simp[h2]
theorem qtI {R:List Nat}{k:Nat}:inN L fr to lv R k=0↔∀ x,x<L→lv x=true→to x=(k:Int)→fr x ∈ ints R:=by
 unfold inN;rw[qnB];constructor
 ·intro h x hx h1 h2;have:=h x hx;rw[h1,h2] at this;simpa using this
 ·intro h x hx;cases h1:lv x
  ·rfl
  ·by_cases h2:to x=(k:Int)
   ·have:=h x hx h1 h2;simp[this]
   ·simp[h2]
theorem qpC {n:Nat}{R:List Nat}{k:Nat}(h:nxtN L fr to lv n R=V k):k<n∧k ∉ R∧inN L fr to lv R k=0:=by
 have h1:=List.mem_range.1 (List.mem_of_find?_eq_some h);have h2:=List.find?_some h;unfold freeN at h2;simp only[jf,jD,decide_eq_false_iff_not,decide_eq_true_eq] at h2;exact⟨h1,h2.1,h2.2⟩
theorem Closed.snoc {R:List Nat}{k:Nat}(h:Closed L fr to lv R)(hk:inN L fr to lv R k=0):Closed L fr to lv (R++[k]):=by
 intro x hx h1 h2;rw[qjv] at h2 ⊢;rcases List.mem_append.1 h2 with h2|h2
 ·exact jT _ (h x hx h1 h2)
 ·exact jT _ (qtI.1 hk x hx h1 (List.mem_singleton.1 h2))
theorem Closed.nil:Closed L fr to lv []:=fun _ _ _ h=>by simp[ints] at h
theorem Closed.no_back {R:List Nat}{i k:Nat}(h:Closed L fr to lv R)(hi:i ∉ R)(h0:inN L fr to lv R i=0)(hk:k ∈ R++[i]):lkN L fr to lv i k=0:=by
 unfold lkN;rw[qnB];intro x hx;cases h1:lv x
 ·rfl
 ·by_cases h2:fr x=(i:Int)
  ·by_cases h3:to x=(k:Int)
   ·exfalso;rcases List.mem_append.1 hk with hk|hk
    ·have:=h x hx h1 (by rw[h3,qmZ];exact hk);rw[h2,qmZ] at this;exact hi this
    ·rw[List.mem_singleton.1 hk] at h3;have:=qtI.1 h0 x hx h1 h3;rw[h2,qmZ] at this;exact hi this
   ·simp[h3]
  ·simp[h2]
theorem qua {n:Nat}:∀ m R R',ordN L fr to lv n m R=V R'→R'.length=R.length+m:=by
 intro m
 induction m with
 | zero=>intro R R' h;obtain rfl:=Option.some.inj h;rfl
 | succ m ih=>
  intro R R' h;unfold ordN at h;cases hn:nxtN L fr to lv n R with
  | none=>rw[hn] at h;cases h
  | some k=>
   rw[hn] at h;have:=ih _ _ h;rw[this,jh,jt];omega
end
end Go.Fw


namespace Go.Fw
open Go
open Go.RowKit (Below)
section
variable {P:Program}{T:Tab}{n:Nat}{e:Env}{w:World}
end
end Go.Fw


namespace Go.Fw
open Go
abbrev Ro {α:Type}[GoT α](w:World)(x:α)(cs:List Value):Prop:=GoT.R w (old w) x cs
def xs (T:Tab)(n:Nat):Nat→List (Nat×List Value)→List It→Env→List Nat→List Nat→Option (List It×Env×List Nat×List Nat)
 | 0,_,k,e,x,y=>V (k,e,x,y)
 | m+1,bs,k,e,x,y=>match k with
  | .code (.seq a b)::k=>xs T n m bs (.code a::.code b::k) e x y
  | .code .skip::k=>xs T n m bs k e x y
  | .code (.block i c)::k=>xs T n m bs (.code c::.blk i::k) e x y
  | .code (.region _ a false)::k=>xs T n m bs (.ops a a.toList::k) e x y
  | .blk _::k=>xs T n m bs k e x y
  | .ops _ []::k=>xs T n m bs k e x y
  | .ops all (⟨V d,op,_,_,_,U⟩::l)::k=>match Nat.blt d n with
   | true=>match op with
    | .load t p=>match opv e p,T.get t,bs with
     | some (.pointer (V ⟨b,o,U⟩)),V te,(b',cs)::bs'=>match ld te cs o with
      | some v=>xs T n m bs' (.ops all l::k) ((d,v)::e) (b::x) (b'::y)
      | none=>U
     | _,_,_=>U
    | op=>match pev T e op with
     | some v=>xs T n m bs (.ops all l::k) ((d,v)::e) x y
     | none=>U
   | false=>U
  | .ops all (⟨dst,op,ty,ps,af,V g⟩::l)::k=>match guardU e all ⟨dst,op,ty,ps,af,V g⟩ with
   | true=>match dst with
    | some d=>match Nat.blt d n with
     | true=>xs T n m bs (.ops all l::k) ((d,undef)::e) x y
     | false=>U
    | none=>U
   | false=>match guardOf e all ⟨dst,op,ty,ps,af,V g⟩ with
    | some true=>xs T n m bs (.ops all (⟨dst,op,ty,ps,af,U⟩::l)::k) e x y
    | some false=>match dst with
     | some d=>match Nat.blt d n with
      | true=>xs T n m bs (.ops all l::k) ((d,undef)::e) x y
      | false=>U
     | none=>U
    | none=>U
  | _=>U
def xd (T:Tab)(n:Nat)(all:Array Oper):Nat→List (Nat×List Value)→List Oper→Env→List Nat→List Nat→Option (List Oper×Env×List Nat×List Nat)
 | 0,_,k,e,x,y=>V (k,e,x,y)
 | m+1,bs,k,e,x,y=>match k with
  | ⟨V d,op,_,_,_,U⟩::l=>match Nat.blt d n with
   | true=>match op with
    | .load t p=>match opv e p,T.get t,bs with
     | some (.pointer (V ⟨b,o,U⟩)),V te,(b',cs)::bs'=>match ld te cs o with
      | some v=>xd T n all m bs' l ((d,v)::e) (b::x) (b'::y)
      | none=>U
     | _,_,_=>U
    | op=>match pev T e op with
     | some v=>xd T n all m bs l ((d,v)::e) x y
     | none=>U
   | false=>U
  | ⟨dst,op,ty,ps,af,V g⟩::l=>match guardU e all ⟨dst,op,ty,ps,af,V g⟩ with
   | true=>match dst with
    | some d=>match Nat.blt d n with
     | true=>xd T n all m bs l ((d,undef)::e) x y
     | false=>U
    | none=>U
   | false=>match guardOf e all ⟨dst,op,ty,ps,af,V g⟩ with
    | some true=>xd T n all m bs (⟨dst,op,ty,ps,af,U⟩::l) e x y
    | some false=>match dst with
     | some d=>match Nat.blt d n with
      | true=>xd T n all m bs l ((d,undef)::e) x y
      | false=>U
     | none=>U
    | none=>U
  | _=>U
section
variable {P:Program}{T:Tab}{n:Nat}{Q:Exit→Act→World→Prop}{k:List It}{e:Env}{w0 w:World}{L:List Ch}
theorem qtP (hT:TabOk P T):∀ (m:Nat) (bs:List (Nat×List Value)) (k:List It) (e:Env) (x y:List Nat) (k':List It) (e':Env) (x' y':List Nat),(∀ p ∈ bs,CellsAt w p.1 0 p.2)→x.length=y.length →
  xs T n m bs k e x y=V (k',e',x',y')→x'.length=y'.length∧(x'=y'→x=y∧(Run P n Q k' e' w→Run P n Q k e w)):=by
 intro m
 induction m with
 | zero=>
  intro bs k e x y k' e' x' y' _ hl h;simp only[xs,Option.some.injEq,Prod.mk.injEq] at h;obtain⟨rfl,rfl,rfl,rfl⟩:=h;exact⟨hl,fun hh=>⟨hh,id⟩⟩
 | succ m ih=>
  intro bs k e x y k' e' x' y' hb hl h;unfold xs at h;split at h
  ·obtain⟨h1,h2⟩:=ih _ _ _ _ _ _ _ _ _ hb hl h;exact⟨h1,fun hh=>⟨(h2 hh).1,fun hk=>qcQ ((h2 hh).2 hk)⟩⟩
  ·obtain⟨h1,h2⟩:=ih _ _ _ _ _ _ _ _ _ hb hl h;exact⟨h1,fun hh=>⟨(h2 hh).1,fun hk=>qio ((h2 hh).2 hk)⟩⟩
  ·obtain⟨h1,h2⟩:=ih _ _ _ _ _ _ _ _ _ hb hl h;exact⟨h1,fun hh=>⟨(h2 hh).1,fun hk=>qn ((h2 hh).2 hk)⟩⟩
  ·obtain⟨h1,h2⟩:=ih _ _ _ _ _ _ _ _ _ hb hl h;exact⟨h1,fun hh=>⟨(h2 hh).1,fun hk=>qlZ ((h2 hh).2 hk)⟩⟩
  ·obtain⟨h1,h2⟩:=ih _ _ _ _ _ _ _ _ _ hb hl h;exact⟨h1,fun hh=>⟨(h2 hh).1,fun hk=>qzS ((h2 hh).2 hk)⟩⟩
  ·obtain⟨h1,h2⟩:=ih _ _ _ _ _ _ _ _ _ hb hl h;exact⟨h1,fun hh=>⟨(h2 hh).1,fun hk=>qcP ((h2 hh).2 hk)⟩⟩
  ·split at h
   ·rename_i hn
    split at h
    ·split at h
     ·rename_i hx hte
      split at h
      ·rename_i v hv
       have hb':=fun p hp=>hb p (jn _ hp);obtain⟨h1,h2⟩:=ih _ _ _ _ _ _ _ _ _ hb' (by simp[hl]) h;refine⟨h1,fun hh=>?_⟩;obtain⟨h3,h4⟩:=h2 hh;obtain⟨rfl,rfl⟩:=List.cons.inj h3;exact⟨rfl,fun hk=>r_v (qhX hT (hb _ (jx ..)) (by rw[Jg];exact hx) hte hv) hn (h4 hk)⟩
      ·cases h
     ·cases h
    ·split at h
     ·rename_i v hv
      obtain⟨h1,h2⟩:=ih _ _ _ _ _ _ _ _ _ hb hl h;exact⟨h1,fun hh=>⟨(h2 hh).1,fun hk=>r_v (v_p hT hv w) hn ((h2 hh).2 hk)⟩⟩
     ·cases h
   ·cases h
  ·split at h
   ·rename_i hg
    split at h
    ·split at h
     ·rename_i hn
      obtain⟨h1,h2⟩:=ih _ _ _ _ _ _ _ _ _ hb hl h;exact⟨h1,fun hh=>⟨(h2 hh).1,fun hk=>qy8 (by unfold notW;rw[hg];rfl) Z hn ((h2 hh).2 hk)⟩⟩
     ·cases h
    ·cases h
   ·split at h
    ·rename_i hg
     obtain⟨h1,h2⟩:=ih _ _ _ _ _ _ _ _ _ hb hl h;exact⟨h1,fun hh=>⟨(h2 hh).1,fun hk=>qwU hg ((h2 hh).2 hk)⟩⟩
    ·rename_i hg
     split at h
     ·split at h
      ·rename_i hn
       obtain⟨h1,h2⟩:=ih _ _ _ _ _ _ _ _ _ hb hl h;exact⟨h1,fun hh=>⟨(h2 hh).1,fun hk=>qy8 (by unfold notW;rw[hg,Bool.or_true]) Z hn ((h2 hh).2 hk)⟩⟩
      ·cases h
     ·cases h
    ·cases h
  ·cases h
theorem qy6 (hT:TabOk P T){all:Array Oper}:∀ (m:Nat) (bs:List (Nat×List Value)) (l:List Oper) (e:Env) (x y:List Nat) (l':List Oper) (e':Env) (x' y':List Nat),(∀ p ∈ bs,CellsAt w p.1 0 p.2)→x.length=y.length →
  xd T n all m bs l e x y=V (l',e',x',y')→x'.length=y'.length∧(x'=y'→x=y∧(RunD P n Q k all w l' e'→RunD P n Q k all w l e)):=by
 intro m
 induction m with
 | zero=>
  intro bs l e x y l' e' x' y' _ hl h;simp only[xd,Option.some.injEq,Prod.mk.injEq] at h;obtain⟨rfl,rfl,rfl,rfl⟩:=h;exact⟨hl,fun hh=>⟨hh,id⟩⟩
 | succ m ih=>
  intro bs l e x y l' e' x' y' hb hl h;unfold xd at h;split at h
  ·split at h
   ·rename_i hn
    split at h
    ·split at h
     ·rename_i hx hte
      split at h
      ·rename_i v hv
       have hb':=fun p hp=>hb p (jn _ hp);obtain⟨h1,h2⟩:=ih _ _ _ _ _ _ _ _ _ hb' (by simp[hl]) h;refine⟨h1,fun hh=>?_⟩;obtain⟨h3,h4⟩:=h2 hh;obtain⟨rfl,rfl⟩:=List.cons.inj h3;exact⟨rfl,fun hk=>d_v (fun w' hw=>qhX hT ((hb _ (jx ..)).below hw) (by rw[Jg];exact hx) hte hv) hn (h4 hk)⟩
      ·cases h
     ·cases h
    ·split at h
     ·rename_i v hv
      obtain⟨h1,h2⟩:=ih _ _ _ _ _ _ _ _ _ hb hl h;exact⟨h1,fun hh=>⟨(h2 hh).1,fun hk=>d_v (fun w' _=>v_p hT hv w') hn ((h2 hh).2 hk)⟩⟩
     ·cases h
   ·cases h
  ·split at h
   ·rename_i hg
    split at h
    ·split at h
     ·rename_i hn
      obtain⟨h1,h2⟩:=ih _ _ _ _ _ _ _ _ _ hb hl h;exact⟨h1,fun hh=>⟨(h2 hh).1,fun hk=>qy1 (by unfold notW;rw[hg];rfl) Z hn ((h2 hh).2 hk)⟩⟩
     ·cases h
    ·cases h
   ·split at h
    ·rename_i hg
     obtain⟨h1,h2⟩:=ih _ _ _ _ _ _ _ _ _ hb hl h;exact⟨h1,fun hh=>⟨(h2 hh).1,fun hk=>qwE hg ((h2 hh).2 hk)⟩⟩
    ·rename_i hg
     split at h
     ·split at h
      ·rename_i hn
       obtain⟨h1,h2⟩:=ih _ _ _ _ _ _ _ _ _ hb hl h;exact⟨h1,fun hh=>⟨(h2 hh).1,fun hk=>qy1 (by unfold notW;rw[hg,Bool.or_true]) Z hn ((h2 hh).2 hk)⟩⟩
      ·cases h
     ·cases h
    ·cases h
  ·cases h
end
def bits (m K:Nat):Array Bool:=((List.range m).map fun i=>K.testBit i).toArray
theorem qvK {m:Nat}:Array.replicate m false=bits m 0:=by
 unfold bits;apply Array.ext';simp only[Nat.zero_testBit,Array.toList_replicate];exact jZ (by simp) (by simp)
def xa (T:Tab)(n:Nat)(ops:Array Oper):List Nat→List (Nat×List Value)→Nat→Env→List Nat→List Nat→Option (Nat×Env×List Nat×List Nat)
 | [],_,f,e,x,y=>V (f,e,x,y)
 | i::is,bs,f,e,x,y=>match f with
  | 0=>U
  | f+1=>match ops[i]? with
   | some ⟨V d,op,_,_,_,U⟩=>match Nat.blt d n with
    | true=>match op with
     | .load t p=>match opv e p,T.get t,bs with
      | some (.pointer (V ⟨b,o,U⟩)),V te,(b',cs)::bs'=>match ld te cs o with
       | some v=>xa T n ops is bs' f ((d,v)::e) (b::x) (b'::y)
       | none=>U
      | _,_,_=>U
     | op=>match pev T e op with
      | some v=>xa T n ops is bs f ((d,v)::e) x y
      | none=>U
    | false=>U
   | _=>U
def oka (ops:Array Oper)(st:List Nat):List Nat→Array Bool→Array Bool→Bool
 | [],l,l'=>l==l'
 | i::is,l,l'=>(Region.noSelect ops&&Region.free .any ops l i&&(Region.ready .any ops l).contains i&&st.all (fun s=>!(Nat.beq s i)&&waitsB ops i s&&!(l.getD s true)))&&oka ops st is (l.setIfInBounds i true) l'
section
variable {P:Program}{T:Tab}{n:Nat}{fnc:Func}{R:Ending→World→Prop}{k:List It}{e:Env}{w0 w:World}{ops:Array Oper}{st:List Nat}{C:World→Prop}
theorem qtv (hT:TabOk P T)(hC:C w):∀ (is:List Nat) (bs:List (Nat×List Value)) (f:Nat) (e:Env) (x y:List Nat) (f':Nat) (e':Env) (x' y':List Nat) (l l':Array Bool),(∀ p ∈ bs,∀ w',C w'→CellsAt w' p.1 0 p.2)→x.length=y.length →
  xa T n ops is bs f e x y=V (f',e',x',y')→oka ops st is l l'=true→x'.length=y'.length∧(x'=y'→x=y∧(RunA P n (bodyPost P fnc R) k ops st C f' l' e' w→RunA P n (bodyPost P fnc R) k ops st C f l e w)):=by
 intro is
 induction is with
 | nil=>
  intro bs f e x y f' e' x' y' l l' _ hl h ho;simp only[xa,Option.some.injEq,Prod.mk.injEq] at h;obtain⟨rfl,rfl,rfl,rfl⟩:=h;obtain rfl:=eq_of_beq ho;exact⟨hl,fun hh=>⟨hh,id⟩⟩
 | cons i is ih=>
  intro bs f e x y f' e' x' y' l l' hb hl h ho;unfold oka at ho;rw[jf] at ho;obtain⟨ho1,ho2⟩:=ho;unfold xa at h;split at h
  ·cases h
  ·split at h
   ·rename_i hi
    split at h
    ·rename_i hn
     split at h
     ·split at h
      ·rename_i hx hte
       split at h
       ·rename_i v hv
        have hb':=fun p hp=>hb p (jn _ hp);obtain⟨h1,h2⟩:=ih _ _ _ _ _ _ _ _ _ _ _ hb' (by simp[hl]) h ho2;refine⟨h1,fun hh=>?_⟩;obtain⟨h3,h4⟩:=h2 hh;obtain⟨rfl,rfl⟩:=List.cons.inj h3;exact⟨rfl,fun hk=>qhs i hi _ Z ho1 (fun w' hw'=>qhX hT (hb _ (jx ..) w' hw') (by rw[Jg];exact hx) hte hv) hC hn (h4 hk)⟩
       ·cases h
      ·cases h
     ·split at h
      ·rename_i v hv
       obtain⟨h1,h2⟩:=ih _ _ _ _ _ _ _ _ _ _ _ hb hl h ho2;exact⟨h1,fun hh=>⟨(h2 hh).1,fun hk=>qhs i hi _ Z ho1 (fun w' _=>v_p hT hv w') hC hn ((h2 hh).2 hk)⟩⟩
      ·cases h
    ·cases h
   ·cases h
end
def gets (e:Env):Env→Option Env
 | []=>V []
 | p::l=>match e.get p.1,gets e l with
  | some v,V r=>V ((p.1,v)::r)
  | _,_=>U
theorem qqG {e:Env}:∀ {e':Env},gets e e'=V e'→subEnv e e'
 | [],_=>trivial
 | p::l,h=>by
  unfold gets at h;split at h
  ·rename_i v r hv hr
   have h:=List.cons.inj (Option.some.inj h);refine⟨?_,qqG (by rw[hr,h.2])⟩;rw[hv,←h.1]
  ·cases h
def pickN (L:List Ch):List Nat→Option (List Ch)
 | []=>V []
 | i::is=>match L[i]?,pickN L is with
  | some c,V l=>V (c::l)
  | _,_=>U
def setN:List Ch→Nat→Ch→Option (List Ch)
 | [],_,_=>V []
 | _::l,0,c=>V (c::l)
 | a::l,i+1,c=>match setN l i c with
  | some r=>V (a::r)
  | none=>U
theorem qve:∀ {L:List Ch} {i:Nat} {c:Ch} {L':List Ch},setN L i c=V L'→L.set i c=L'
 | [],_,_,_,h=>by simpa [setN] using h
 | _::_,0,_,_,h=>by simpa [setN] using h
 | a::l,i+1,c,L',h=>by
  unfold setN at h;split at h
  ·rename_i r hr
   rw[List.set_cons_succ,qve hr];exact Option.some.inj h
  ·cases h
def splN:List Value→Nat→List Value→Option (List Value)
 | cs,0,[]=>V cs
 | [],_,_=>U
 | _::cs,0,u::us=>match splN cs 0 us with
  | some r=>V (u::r)
  | none=>U
 | c::cs,j+1,us=>match splN cs j us with
  | some r=>V (c::r)
  | none=>U
theorem qsD:∀ {cs:List Value} {j:Nat} {us r:List Value},splN cs j us=V r→splice cs j us=r
 | cs,0,[],r,h=>by
  have h:cs=r:=by cases cs<;>simpa [splN] using h
  subst h;simp[splice]
 | [],0,_::_,_,h=>by simp[splN] at h
 | [],_+1,_,_,h=>by simp[splN] at h
 | c::cs,0,u::us,r,h=>by
  unfold splN at h;split at h
  ·rename_i q hq
   have:=qsD hq;obtain rfl:=Option.some.inj h;rw[←this];simp[splice]
  ·cases h
 | c::cs,j+1,us,r,h=>by
  unfold splN at h;split at h
  ·rename_i q hq
   have:=qsD hq;obtain rfl:=Option.some.inj h;rw[←this];simp[splice,Nat.add_right_comm]
  ·cases h
section
variable {P:Program}{T:Tab}{n:Nat}{Q:Exit→Act→World→Prop}{k:List It}{e:Env}{w0 w:World}{L:List Ch}{all:Array Oper}
theorem dN (h:SH w0 w L)(hk:∀ w',SH w0 w' L→Run P n Q k e w'):RunD P n Q k all w [] e:=qzU fun w' hb=>hk w' (h.ext hb)
theorem rK {Inv:Nat→Env→World→Prop}{m:Nat}{e':Env}(h:Inv m e' w)(hs:gets e e'=V e'):Run P n Q (.goal (Back n Inv (m+1))::k) e w:=qzB m e' (Nat.lt_succ_self m) (qqG hs) h
theorem rG {J:Env→World→Prop}{e':Env}(h:J e' w)(hs:gets e e'=V e'):Run P n Q (.goal (CutJ n J)::k) e w:=qvv e' (qqG hs) h
theorem rL {b:Code}(Inv:Nat→Env→World→Prop)(m:Nat){e':Env}(h:Inv m e' w)(hs:gets e e'=V e')(round:∀ m e w,Inv m e w→Run P n Q (.code b::.goal (Back n Inv m)::k) e w):Run P n Q (.code (.loop b)::k) e w:=
 qzY e' (qqG hs) (qzE Inv m h round)
theorem rA {id:Nat}{ops:List Oper}(st is:List Nat){m:Nat}{L':List Ch}(h:SH w0 w L)(hh:(pickN L is,ops.length,P.follows .mixedOrders)=(V L',m,true))
  (hk:∀ w',SH w0 w' L→RunA P n Q k ops.toArray st (fun w'=>SH w0 w' L') m (bits m 0) e w'):Run P n Q (.code (.region id ops.toArray true)::k) e w:=by
 simp only[Prod.mk.injEq] at hh;exact qzV st _ hh.2.2 m (by simpa using hh.2.1) _ qvK fun w' hb=>hk w' (h.ext hb)
theorem Ag {ops:Array Oper}{st:List Nat}{C:World→Prop}{fuel:Nat}{listed:Array Bool}{all:Array Oper}(hC:C w)(h:RunA P n Q k ops st C fuel listed e w):Run P n Q (.ops all []::.goal (NextA P n Q k ops st C fuel listed)::k) e w:=qbf (fun _=>hC) h
theorem Ao {ops:Array Oper}{st:List Nat}{C:World→Prop}{fuel:Nat}(i K:Nat){m K0:Nat}{o:Oper}(hi:ops[i]?=V o)(h:Run P n Q (.ops ops [o]::.goal (NextA P n Q k ops st C fuel (bits m K))::k) e w)
  (hl:(bits m K0).setIfInBounds i true=bits m K:=by kernel_rfl) (hr:Region.ready .any ops (bits m K0)=[i]:=by kernel_rfl):RunA P n Q k ops st C (fuel+1) (bits m K0) e w:=qzs i hi _ hl hr h
theorem Ad {ops:Array Oper}{st:List Nat}{C:World→Prop}{listed:Array Bool}(h:Run P n Q k e w)(hr:Region.ready .any ops listed=[]:=by kernel_rfl):RunA P n Q k ops st C 0 listed e w:=qzo hr h
theorem At {ops:Array Oper}{st:List Nat}{C:World→Prop}{fuel:Nat}(i j K K':Nat){m K0:Nat}{o o':Oper}(hh:(ops[i]?,ops[j]?)=(V o,V o'))(h1:Run P n Q (.ops ops [o]::.goal (NextA P n Q k ops st C fuel (bits m K))::k) e w)
  (h2:Run P n Q (.ops ops [o']::.goal (NextA P n Q k ops st C fuel (bits m K'))::k) e w) (hl1:(bits m K0).setIfInBounds i true=bits m K:=by kernel_rfl) (hl2:(bits m K0).setIfInBounds j true=bits m K':=by kernel_rfl)
  (hr:Region.ready .any ops (bits m K0)=[i,j]:=by kernel_rfl):RunA P n Q k ops st C (fuel+1) (bits m K0) e w:=by
 simp only[Prod.mk.injEq] at hh;exact qzW i j hh.1 hh.2 _ _ hl1 hl2 hr h1 h2
theorem rD {id:Nat}{ops:List Oper}(h:RunD P n Q k ops.toArray w ops e)(hm:P.follows .mixedOrders=true:=by rfl)(hB:Region.lexB .any ops.toArray=true:=by kernel_rfl):Run P n Q (.code (.region id ops.toArray true)::k) e w:=qzl hm hB h
end
section
variable {w:World}{S:Nat→Prop}
theorem pR {α β:Type}{A:GoT α}{B:GoT β}{x:α}{y:β}{c d:List Value}(h1:A.R w S x c)(h2:B.R w S y d):(pairT A B).R w S (x,y) (c++d):=⟨c,d,rfl,h1,h2⟩
theorem rI (x:Int):GoT.R w S x [.int .i64 x]:=rfl
theorem rB (x:Bool):GoT.R w S x [.bool x]:=rfl
theorem rT (x:ByteArray):GoT.R w S x [.string x]:=rfl
theorem rS {α:Type}[GoT α]{xs:List α}{p:Option Addr}{c:Nat}(s:SlR w S xs p c):GoT.R w S xs [.slice p xs.length c]:=⟨p,c,rfl,s⟩
end
def callB (P:Program)(f:FuncId):Bool:=match P.funcs[f]? with
 | some fn=>fn.body.isSome&&!(fn.name== "runtime.NumGoroutine")
 | none=>false
theorem qwI {P:Program}{f:FuncId}(h:callB P f=true):qeS P f:=by
 unfold callB at h;split at h
 ·rename_i fn hf
  rw[jf,jD] at h;exact⟨fn,hf,h.1,h.2⟩
 ·cases h
def res1 (e:Env):List ResultVar→Option Value
 | [.tmp t]=>e.get t
 | _=>U
theorem qvt {T:Tab}{e:Env}{w:World}{rs:List ResultVar}{v:Value}(h:res1 e rs=V v):ResOk T e w rs [v]:=by
 unfold res1 at h;split at h
 ·exact⟨h,trivial⟩
 ·cases h
end Go.Fw
