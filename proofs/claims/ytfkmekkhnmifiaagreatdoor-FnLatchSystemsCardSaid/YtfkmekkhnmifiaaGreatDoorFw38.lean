/- The order of a graph's nodes in which the least free node comes next. No program in sight. -/
import Derived.Test.YtfkmekkhnmifiaaGreatDoorFw35
import Derived.KernelRfl
open Option renaming some->V, none->U
open Nat renaming zero_add->Jg
open Bool renaming and_eq_true->jf, not_eq_true'->jC
open List renaming length_append->jg, length_singleton->ji, mem_cons_of_mem->jr, mem_cons_self->jx, mem_append_left->jM, ext_getElem->Jb

namespace Go.Fw
open Go
section
variable{L:Nat}{fr to:Nat->Int}{lv:Nat->Bool}
def inN(L:Nat)(fr to:Nat->Int)(lv:Nat->Bool)(R:List Nat)(k:Nat):Nat:=cntP (fun x=>lv x&&(to x==(k:Int)&&!decide (fr x∈ints R))) L
def lkN(L:Nat)(fr to:Nat->Int)(lv:Nat->Bool)(i k:Nat):Nat:=cntP (fun x=>lv x&&(fr x==(i:Int))&&(to x==(k:Int))) L
def freeN(L:Nat)(fr to:Nat->Int)(lv:Nat->Bool)(R:List Nat)(k:Nat):Bool:=!decide (k∈R)&&decide (inN L fr to lv R k=0)
def nxtN(L:Nat)(fr to:Nat->Int)(lv:Nat->Bool)(n:Nat)(R:List Nat):Option Nat:=(List.range n).find? (freeN L fr to lv R)
def ordN(L:Nat)(fr to:Nat->Int)(lv:Nat->Bool)(n:Nat):Nat->List Nat->Option (List Nat)
 |0,R=>V R
 |m+1,R=>match nxtN L fr to lv n R with|none=>U|some k=>ordN L fr to lv n m (R++[k])
def Closed(L:Nat)(fr to:Nat->Int)(lv:Nat->Bool)(R:List Nat):Prop:=∀x,x<L->lv x=true->to x∈ints R->fr x∈ints R
theorem qlp{R:List Nat}{k:Nat}:(k:Int)∈ints R↔k∈R:=by
 unfold ints;rw[List.mem_map];constructor
 ·rintro⟨j,hj,e⟩;obtain rfl:j=k:=by omega
  exact hj
 ·exact fun h=>⟨k,h,rfl⟩
theorem qrK{p q r:Nat->Bool}{n:Nat}(h:∀x,x<n->((bif p x then 1 else 0):Nat)=(bif q x then 1 else 0)+(bif r x then 1 else 0)):cntP p n=cntP q n+cntP r n:=by
 induction n with
 |zero=>rfl
 |succ n ih=>unfold cntP;rw[ih (fun x hx=>h x (by omega)),h n (by omega)];omega
theorem qtT{R:List Nat}{i k:Nat}(hi:i∉R):inN L fr to lv R k=inN L fr to lv (R++[i]) k+lkN L fr to lv i k:=by
 unfold inN lkN;refine qrK fun x _=>?_;cases lv x
 ·rfl
 ·cases to x==(k:Int)
  ·simp
  ·by_cases hf:fr x=(i:Int)
   ·have h1:fr x∉ints R:=by rw[hf,qlp];exact hi
    have h2:fr x∈ints (R++[i]):=by rw[qil,hf];simp
    rw[hf] at h1 h2;simp[h1,h2,hf]
   ·have h2:(fr x∈ints (R++[i]))↔fr x∈ints R:=by rw[qil];simp[hf]
    rw[show(fr x==(i:Int))=false by simpa using hf];simp[h2]
theorem qqU{R:List Nat}{k:Nat}:inN L fr to lv R k=0↔∀x,x<L->lv x=true->to x=(k:Int)->fr x∈ints R:=by
 unfold inN;rw[qlJ];constructor
 ·intro h x hx h1 h2;have:=h x hx;rw[h1,h2] at this;simpa using this
 ·intro h x hx;cases h1:lv x
  ·rfl
  ·by_cases h2:to x=(k:Int)
   ·have:=h x hx h1 h2;simp[this]
   ·simp[h2]
theorem qnc{n:Nat}{R:List Nat}{k:Nat}(h:nxtN L fr to lv n R=V k):k<n/\k∉R/\inN L fr to lv R k=0:=by
 have h1:=List.mem_range.1 (List.mem_of_find?_eq_some h);have h2:=List.find?_some h;unfold freeN at h2;simp only[jf,jC,decide_eq_false_iff_not,decide_eq_true_eq] at h2;exact⟨h1,h2.1,h2.2⟩
theorem Closed.snoc{R:List Nat}{k:Nat}(h:Closed L fr to lv R)(hk:inN L fr to lv R k=0):Closed L fr to lv (R++[k]):=by
 intro x hx h1 h2;rw[qil] at h2⊢;rcases List.mem_append.1 h2 with h2|h2
 ·exact jM _ (h x hx h1 h2)
 ·exact jM _ (qqU.1 hk x hx h1 (List.mem_singleton.1 h2))
theorem Closed.nil:Closed L fr to lv []:=fun _ _ _ h=>by simp[ints] at h
theorem Closed.no_back{R:List Nat}{i k:Nat}(h:Closed L fr to lv R)(hi:i∉R)(h0:inN L fr to lv R i=0)(hk:k∈R++[i]):lkN L fr to lv i k=0:=by
 unfold lkN;rw[qlJ];intro x hx;cases h1:lv x
 ·rfl
 ·by_cases h2:fr x=(i:Int)
  ·by_cases h3:to x=(k:Int)
   ·exfalso;rcases List.mem_append.1 hk with hk|hk
    ·have:=h x hx h1 (by rw[h3,qlp];exact hk);rw[h2,qlp] at this;exact hi this
    ·rw[List.mem_singleton.1 hk] at h3;have:=qqU.1 h0 x hx h1 h3;rw[h2,qlp] at this;exact hi this
   ·simp[h3]
  ·simp[h2]
theorem qoU{n:Nat}:∀m R R',ordN L fr to lv n m R=V R'->R'.length=R.length+m:=by
 intro m
 induction m with
 |zero=>intro R R' h;obtain rfl:=Option.some.inj h;rfl
 |succ m ih=>
  intro R R' h;unfold ordN at h;cases hn:nxtN L fr to lv n R with
  |none=>rw[hn] at h;cases h
  |some k=>
   rw[hn] at h;have:=ih _ _ h;rw[this,jg,ji];omega
end
end Go.Fw


namespace Go.Fw
open Go
open Go.RowKit (Below)
section
variable{P:Program}{T:Tab}{n:Nat}{e:Env}{w:World}
end
end Go.Fw


namespace Go.Fw
open Go
abbrev Ro{α:Type}[GoT α](w:World)(x:α)(cs:List Value):Prop:=GoT.R w (old w) x cs
def xs(T:Tab)(n:Nat):Nat->List (Nat×List Value)->List It->Env->List Nat->List Nat->Option (List It×Env×List Nat×List Nat)
 |0,_,k,e,x,y=>V (k,e,x,y)
 |m+1,bs,k,e,x,y=>match k with
  |.code (.seq a b)::k=>xs T n m bs (.code a::.code b::k) e x y
  |.code .skip::k=>xs T n m bs k e x y
  |.code (.block i c)::k=>xs T n m bs (.code c::.blk i::k) e x y
  |.code (.region _ a false)::k=>xs T n m bs (.ops a a.toList::k) e x y
  |.blk _::k=>xs T n m bs k e x y
  |.ops _ []::k=>xs T n m bs k e x y
  |.ops all (⟨V d,op,_,_,_,U⟩::l)::k=>match Nat.blt d n with
   |true=>match op with
    |.load t p=>match opv e p,T.get t,bs with
     |some (.pointer (V ⟨b,o,U⟩)),V te,(b',cs)::bs'=>match ld te cs o with
      |some v=>xs T n m bs' (.ops all l::k) ((d,v)::e) (b::x) (b'::y)
      |none=>U
     |_,_,_=>U
    |op=>match pev T e op with
     |some v=>xs T n m bs (.ops all l::k) ((d,v)::e) x y
     |none=>U
   |false=>U
  |.ops all (⟨dst,op,ty,ps,af,V g⟩::l)::k=>match guardU e all ⟨dst,op,ty,ps,af,V g⟩ with
   |true=>match dst with
    |some d=>match Nat.blt d n with
     |true=>xs T n m bs (.ops all l::k) ((d,undef)::e) x y
     |false=>U
    |none=>U
   |false=>match guardOf e all ⟨dst,op,ty,ps,af,V g⟩ with
    |some true=>xs T n m bs (.ops all (⟨dst,op,ty,ps,af,U⟩::l)::k) e x y
    |some false=>match dst with
     |some d=>match Nat.blt d n with
      |true=>xs T n m bs (.ops all l::k) ((d,undef)::e) x y
      |false=>U
     |none=>U
    |none=>U
  |_=>U
def xd(T:Tab)(n:Nat)(all:Array Oper):Nat->List (Nat×List Value)->List Oper->Env->List Nat->List Nat->Option (List Oper×Env×List Nat×List Nat)
 |0,_,k,e,x,y=>V (k,e,x,y)
 |m+1,bs,k,e,x,y=>match k with
  |⟨V d,op,_,_,_,U⟩::l=>match Nat.blt d n with
   |true=>match op with
    |.load t p=>match opv e p,T.get t,bs with
     |some (.pointer (V ⟨b,o,U⟩)),V te,(b',cs)::bs'=>match ld te cs o with
      |some v=>xd T n all m bs' l ((d,v)::e) (b::x) (b'::y)
      |none=>U
     |_,_,_=>U
    |op=>match pev T e op with
     |some v=>xd T n all m bs l ((d,v)::e) x y
     |none=>U
   |false=>U
  |⟨dst,op,ty,ps,af,V g⟩::l=>match guardU e all ⟨dst,op,ty,ps,af,V g⟩ with
   |true=>match dst with
    |some d=>match Nat.blt d n with
     |true=>xd T n all m bs l ((d,undef)::e) x y
     |false=>U
    |none=>U
   |false=>match guardOf e all ⟨dst,op,ty,ps,af,V g⟩ with
    |some true=>xd T n all m bs (⟨dst,op,ty,ps,af,U⟩::l) e x y
    |some false=>match dst with
     |some d=>match Nat.blt d n with
      |true=>xd T n all m bs l ((d,undef)::e) x y
      |false=>U
     |none=>U
    |none=>U
  |_=>U
section
variable{P:Program}{T:Tab}{n:Nat}{Q:Exit->Act->World->Prop}{k:List It}{e:Env}{w0 w:World}{L:List Ch}
theorem qpf(hT:TabOk P T):∀(m:Nat) (bs:List (Nat×List Value)) (k:List It) (e:Env) (x y:List Nat) (k':List It) (e':Env) (x' y':List Nat),(∀p∈bs,CellsAt w p.1 0 p.2)->x.length=y.length ->
  xs T n m bs k e x y=V (k',e',x',y')->x'.length=y'.length/\(x'=y'->x=y/\(Run P n Q k' e' w->Run P n Q k e w)):=by
 intro m
 induction m with
 |zero=>
  intro bs k e x y k' e' x' y' _ hl h;simp only[xs,Option.some.injEq,Prod.mk.injEq] at h;obtain⟨rfl,rfl,rfl,rfl⟩:=h;exact⟨hl,fun hh=>⟨hh,id⟩⟩
 |succ m ih=>
  intro bs k e x y k' e' x' y' hb hl h;unfold xs at h;split at h
  ·obtain⟨h1,h2⟩:=ih _ _ _ _ _ _ _ _ _ hb hl h;exact⟨h1,fun hh=>⟨(h2 hh).1,fun hk=>qcz ((h2 hh).2 hk)⟩⟩
  ·obtain⟨h1,h2⟩:=ih _ _ _ _ _ _ _ _ _ hb hl h;exact⟨h1,fun hh=>⟨(h2 hh).1,fun hk=>qfD ((h2 hh).2 hk)⟩⟩
  ·obtain⟨h1,h2⟩:=ih _ _ _ _ _ _ _ _ _ hb hl h;exact⟨h1,fun hh=>⟨(h2 hh).1,fun hk=>qp ((h2 hh).2 hk)⟩⟩
  ·obtain⟨h1,h2⟩:=ih _ _ _ _ _ _ _ _ _ hb hl h;exact⟨h1,fun hh=>⟨(h2 hh).1,fun hk=>qjl ((h2 hh).2 hk)⟩⟩
  ·obtain⟨h1,h2⟩:=ih _ _ _ _ _ _ _ _ _ hb hl h;exact⟨h1,fun hh=>⟨(h2 hh).1,fun hk=>qvY ((h2 hh).2 hk)⟩⟩
  ·obtain⟨h1,h2⟩:=ih _ _ _ _ _ _ _ _ _ hb hl h;exact⟨h1,fun hh=>⟨(h2 hh).1,fun hk=>qbe ((h2 hh).2 hk)⟩⟩
  ·split at h
   ·rename_i hn
    split at h
    ·split at h
     ·rename_i hx hte
      split at h
      ·rename_i v hv
       have hb':=fun p hp=>hb p (jr _ hp);obtain⟨h1,h2⟩:=ih _ _ _ _ _ _ _ _ _ hb' (by simp[hl]) h;refine⟨h1,fun hh=>?_⟩;obtain⟨h3,h4⟩:=h2 hh;obtain⟨rfl,rfl⟩:=List.cons.inj h3;exact⟨rfl,fun hk=>r_v (qbL hT (hb _ (jx ..)) (by rw[Jg];exact hx) hte hv) hn (h4 hk)⟩
      ·cases h
     ·cases h
    ·split at h
     ·rename_i v hv
      obtain⟨h1,h2⟩:=ih _ _ _ _ _ _ _ _ _ hb hl h;exact⟨h1,fun hh=>⟨(h2 hh).1,fun hk=>r_v (v_p hT hv w) hn ((h2 hh).2 hk)⟩⟩
     ·cases h
   ·cases h
  ·split at h
   ·rename_i hg
    split at h
    ·split at h
     ·rename_i hn
      obtain⟨h1,h2⟩:=ih _ _ _ _ _ _ _ _ _ hb hl h;exact⟨h1,fun hh=>⟨(h2 hh).1,fun hk=>qvc (by unfold notW;rw[hg];rfl) Z hn ((h2 hh).2 hk)⟩⟩
     ·cases h
    ·cases h
   ·split at h
    ·rename_i hg
     obtain⟨h1,h2⟩:=ih _ _ _ _ _ _ _ _ _ hb hl h;exact⟨h1,fun hh=>⟨(h2 hh).1,fun hk=>qtk hg ((h2 hh).2 hk)⟩⟩
    ·rename_i hg
     split at h
     ·split at h
      ·rename_i hn
       obtain⟨h1,h2⟩:=ih _ _ _ _ _ _ _ _ _ hb hl h;exact⟨h1,fun hh=>⟨(h2 hh).1,fun hk=>qvc (by unfold notW;rw[hg,Bool.or_true]) Z hn ((h2 hh).2 hk)⟩⟩
      ·cases h
     ·cases h
    ·cases h
  ·cases h
theorem qu7(hT:TabOk P T){all:Array Oper}:∀(m:Nat) (bs:List (Nat×List Value)) (l:List Oper) (e:Env) (x y:List Nat) (l':List Oper) (e':Env) (x' y':List Nat),(∀p∈bs,CellsAt w p.1 0 p.2)->x.length=y.length ->
  xd T n all m bs l e x y=V (l',e',x',y')->x'.length=y'.length/\(x'=y'->x=y/\(RunD P n Q k all w l' e'->RunD P n Q k all w l e)):=by
 intro m
 induction m with
 |zero=>
  intro bs l e x y l' e' x' y' _ hl h;simp only[xd,Option.some.injEq,Prod.mk.injEq] at h;obtain⟨rfl,rfl,rfl,rfl⟩:=h;exact⟨hl,fun hh=>⟨hh,id⟩⟩
 |succ m ih=>
  intro bs l e x y l' e' x' y' hb hl h;unfold xd at h;split at h
  ·split at h
   ·rename_i hn
    split at h
    ·split at h
     ·rename_i hx hte
      split at h
      ·rename_i v hv
       have hb':=fun p hp=>hb p (jr _ hp);obtain⟨h1,h2⟩:=ih _ _ _ _ _ _ _ _ _ hb' (by simp[hl]) h;refine⟨h1,fun hh=>?_⟩;obtain⟨h3,h4⟩:=h2 hh;obtain⟨rfl,rfl⟩:=List.cons.inj h3;exact⟨rfl,fun hk=>d_v (fun w' hw=>qbL hT ((hb _ (jx ..)).below hw) (by rw[Jg];exact hx) hte hv) hn (h4 hk)⟩
      ·cases h
     ·cases h
    ·split at h
     ·rename_i v hv
      obtain⟨h1,h2⟩:=ih _ _ _ _ _ _ _ _ _ hb hl h;exact⟨h1,fun hh=>⟨(h2 hh).1,fun hk=>d_v (fun w' _=>v_p hT hv w') hn ((h2 hh).2 hk)⟩⟩
     ·cases h
   ·cases h
  ·split at h
   ·rename_i hg
    split at h
    ·split at h
     ·rename_i hn
      obtain⟨h1,h2⟩:=ih _ _ _ _ _ _ _ _ _ hb hl h;exact⟨h1,fun hh=>⟨(h2 hh).1,fun hk=>qvb (by unfold notW;rw[hg];rfl) Z hn ((h2 hh).2 hk)⟩⟩
     ·cases h
    ·cases h
   ·split at h
    ·rename_i hg
     obtain⟨h1,h2⟩:=ih _ _ _ _ _ _ _ _ _ hb hl h;exact⟨h1,fun hh=>⟨(h2 hh).1,fun hk=>qtO hg ((h2 hh).2 hk)⟩⟩
    ·rename_i hg
     split at h
     ·split at h
      ·rename_i hn
       obtain⟨h1,h2⟩:=ih _ _ _ _ _ _ _ _ _ hb hl h;exact⟨h1,fun hh=>⟨(h2 hh).1,fun hk=>qvb (by unfold notW;rw[hg,Bool.or_true]) Z hn ((h2 hh).2 hk)⟩⟩
      ·cases h
     ·cases h
    ·cases h
  ·cases h
end
def bits(m K:Nat):Array Bool:=((List.range m).map fun i=>K.testBit i).toArray
theorem qsa{m:Nat}:Array.replicate m false=bits m 0:=by
 unfold bits;apply Array.ext';simp only[Nat.zero_testBit,Array.toList_replicate];exact Jb (by simp) (by simp)
def xa(T:Tab)(n:Nat)(ops:Array Oper):List Nat->List (Nat×List Value)->Nat->Env->List Nat->List Nat->Option (Nat×Env×List Nat×List Nat)
 | [],_,f,e,x,y=>V (f,e,x,y)
 |i::is,bs,f,e,x,y=>match f with
  |0=>U
  |f+1=>match ops[i]? with
   |some ⟨V d,op,_,_,_,U⟩=>match Nat.blt d n with
    |true=>match op with
     |.load t p=>match opv e p,T.get t,bs with
      |some (.pointer (V ⟨b,o,U⟩)),V te,(b',cs)::bs'=>match ld te cs o with
       |some v=>xa T n ops is bs' f ((d,v)::e) (b::x) (b'::y)
       |none=>U
      |_,_,_=>U
     |op=>match pev T e op with
      |some v=>xa T n ops is bs f ((d,v)::e) x y
      |none=>U
    |false=>U
   |_=>U
def oka(ops:Array Oper)(st:List Nat):List Nat->Array Bool->Array Bool->Bool
 | [],l,l'=>l==l'
 |i::is,l,l'=>(Region.noSelect ops&&Region.free .any ops l i&&(Region.ready .any ops l).contains i&&st.all (fun s=>!(Nat.beq s i)&&waitsB ops i s&&!(l.getD s true)))&&oka ops st is (l.setIfInBounds i true) l'
section
variable{P:Program}{T:Tab}{n:Nat}{fnc:Func}{R:Ending->World->Prop}{k:List It}{e:Env}{w0 w:World}{ops:Array Oper}{st:List Nat}{C:World->Prop}
theorem qqV(hT:TabOk P T)(hC:C w):∀(is:List Nat) (bs:List (Nat×List Value)) (f:Nat) (e:Env) (x y:List Nat) (f':Nat) (e':Env) (x' y':List Nat) (l l':Array Bool),(∀p∈bs,∀w',C w'->CellsAt w' p.1 0 p.2)->x.length=y.length ->
  xa T n ops is bs f e x y=V (f',e',x',y')->oka ops st is l l'=true->x'.length=y'.length/\(x'=y'->x=y/\(RunA P n (bodyPost P fnc R) k ops st C f' l' e' w->RunA P n (bodyPost P fnc R) k ops st C f l e w)):=by
 intro is
 induction is with
 |nil=>
  intro bs f e x y f' e' x' y' l l' _ hl h ho;simp only[xa,Option.some.injEq,Prod.mk.injEq] at h;obtain⟨rfl,rfl,rfl,rfl⟩:=h;obtain rfl:=eq_of_beq ho;exact⟨hl,fun hh=>⟨hh,id⟩⟩
 |cons i is ih=>
  intro bs f e x y f' e' x' y' l l' hb hl h ho;unfold oka at ho;rw[jf] at ho;obtain⟨ho1,ho2⟩:=ho;unfold xa at h;split at h
  ·cases h
  ·split at h
   ·rename_i hi
    split at h
    ·rename_i hn
     split at h
     ·split at h
      ·rename_i hx hte
       split at h
       ·rename_i v hv
        have hb':=fun p hp=>hb p (jr _ hp);obtain⟨h1,h2⟩:=ih _ _ _ _ _ _ _ _ _ _ _ hb' (by simp[hl]) h ho2;refine⟨h1,fun hh=>?_⟩;obtain⟨h3,h4⟩:=h2 hh;obtain⟨rfl,rfl⟩:=List.cons.inj h3;exact⟨rfl,fun hk=>qgF i hi _ Z ho1 (fun w' hw'=>qbL hT (hb _ (jx ..) w' hw') (by rw[Jg];exact hx) hte hv) hC hn (h4 hk)⟩
       ·cases h
      ·cases h
     ·split at h
      ·rename_i v hv
       obtain⟨h1,h2⟩:=ih _ _ _ _ _ _ _ _ _ _ _ hb hl h ho2;exact⟨h1,fun hh=>⟨(h2 hh).1,fun hk=>qgF i hi _ Z ho1 (fun w' _=>v_p hT hv w') hC hn ((h2 hh).2 hk)⟩⟩
      ·cases h
    ·cases h
   ·cases h
end
def gets(e:Env):Env->Option Env
 | []=>V []
 |p::l=>match e.get p.1,gets e l with
  |some v,V r=>V ((p.1,v)::r)
  |_,_=>U
theorem qmK{e:Env}:∀{e':Env},gets e e'=V e'->subEnv e e'
 | [],_=>trivial
 |p::l,h=>by
  unfold gets at h;split at h
  ·rename_i v r hv hr
   have h:=List.cons.inj (Option.some.inj h);refine⟨?_,qmK (by rw[hr,h.2])⟩;rw[hv,<-h.1]
  ·cases h
def pickN(L:List Ch):List Nat->Option (List Ch)
 | []=>V []
 |i::is=>match L[i]?,pickN L is with
  |some c,V l=>V (c::l)
  |_,_=>U
def setN:List Ch->Nat->Ch->Option (List Ch)
 | [],_,_=>V []
 |_::l,0,c=>V (c::l)
 |a::l,i+1,c=>match setN l i c with
  |some r=>V (a::r)
  |none=>U
theorem qrQ:∀{L:List Ch} {i:Nat} {c:Ch} {L':List Ch},setN L i c=V L'->L.set i c=L'
 | [],_,_,_,h=>by simpa [setN] using h
 |_::_,0,_,_,h=>by simpa [setN] using h
 |a::l,i+1,c,L',h=>by
  unfold setN at h;split at h
  ·rename_i r hr
   rw[List.set_cons_succ,qrQ hr];exact Option.some.inj h
  ·cases h
def splN:List Value->Nat->List Value->Option (List Value)
 |cs,0,[]=>V cs
 | [],_,_=>U
 |_::cs,0,u::us=>match splN cs 0 us with
  |some r=>V (u::r)
  |none=>U
 |c::cs,j+1,us=>match splN cs j us with
  |some r=>V (c::r)
  |none=>U
theorem qpN:∀{cs:List Value} {j:Nat} {us r:List Value},splN cs j us=V r->splice cs j us=r
 |cs,0,[],r,h=>by
  have h:cs=r:=by cases cs<;>simpa [splN] using h
  subst h;simp[splice]
 | [],0,_::_,_,h=>by simp[splN] at h
 | [],_+1,_,_,h=>by simp[splN] at h
 |c::cs,0,u::us,r,h=>by
  unfold splN at h;split at h
  ·rename_i q hq
   have:=qpN hq;obtain rfl:=Option.some.inj h;rw[<-this];simp[splice]
  ·cases h
 |c::cs,j+1,us,r,h=>by
  unfold splN at h;split at h
  ·rename_i q hq
   have:=qpN hq;obtain rfl:=Option.some.inj h;rw[<-this];simp[splice,Nat.add_right_comm]
  ·cases h
section
variable{P:Program}{T:Tab}{n:Nat}{Q:Exit->Act->World->Prop}{k:List It}{e:Env}{w0 w:World}{L:List Ch}{all:Array Oper}
theorem dN(h:SH w0 w L)(hk:∀w',SH w0 w' L->Run P n Q k e w'):RunD P n Q k all w [] e:=qvR fun w' hb=>hk w' (h.ext hb)
theorem rK{Inv:Nat->Env->World->Prop}{m:Nat}{e':Env}(h:Inv m e' w)(hs:gets e e'=V e'):Run P n Q (.goal (Back n Inv (m+1))::k) e w:=qvi m e' (Nat.lt_succ_self m) (qmK hs) h
theorem aK{ops:Array Oper}{st:List Nat}{C:World->Prop}{fuel:Nat}{listed:Array Bool}{J:Env->World->Prop}{e':Env}(K:∀e w,J e w->RunA P n Q k ops st C fuel listed e w)(h:J e' w)(hs:gets e e'=V e'):RunA P n Q k ops st C fuel listed e w:=qdM e' (qmK hs) (K _ _ h)
theorem rG{J:Env->World->Prop}{e':Env}(h:J e' w)(hs:gets e e'=V e'):Run P n Q (.goal (CutJ n J)::k) e w:=qst e' (qmK hs) h
theorem rL{b:Code}(Inv:Nat->Env->World->Prop)(m:Nat){e':Env}(h:Inv m e' w)(hs:gets e e'=V e')(round:∀m e w,Inv m e w->Run P n Q (.code b::.goal (Back n Inv m)::k) e w):Run P n Q (.code (.loop b)::k) e w:=
 qvV e' (qmK hs) (qvL Inv m h round)
theorem rA{id:Nat}{ops:List Oper}(st is:List Nat){m:Nat}{L':List Ch}(h:SH w0 w L)(hh:(pickN L is,ops.length,P.follows .mixedOrders)=(V L',m,true))
  (hk:∀w',SH w0 w' L->RunA P n Q k ops.toArray st (fun w'=>SH w0 w' L') m (bits m 0) e w'):Run P n Q (.code (.region id ops.toArray true)::k) e w:=by
 simp only[Prod.mk.injEq] at hh;exact qu5 st _ hh.2.2 m (by simpa using hh.2.1) _ qsa fun w' hb=>hk w' (h.ext hb)
theorem Ag{ops:Array Oper}{st:List Nat}{C:World->Prop}{fuel:Nat}{listed:Array Bool}{all:Array Oper}(hC:C w)(h:RunA P n Q k ops st C fuel listed e w):Run P n Q (.ops all []::.goal (NextA P n Q k ops st C fuel listed)::k) e w:=qaU (fun _=>hC) h
theorem Ao{ops:Array Oper}{st:List Nat}{C:World->Prop}{fuel:Nat}(i K:Nat){m K0:Nat}{o:Oper}(hi:ops[i]?=V o)(h:Run P n Q (.ops ops [o]::.goal (NextA P n Q k ops st C fuel (bits m K))::k) e w)
  (hl:(bits m K0).setIfInBounds i true=bits m K:=by kernel_rfl) (hr:Region.ready .any ops (bits m K0)=[i]:=by kernel_rfl):RunA P n Q k ops st C (fuel+1) (bits m K0) e w:=qvy i hi _ hl hr h
theorem Ad{ops:Array Oper}{st:List Nat}{C:World->Prop}{listed:Array Bool}(h:Run P n Q k e w)(hr:Region.ready .any ops listed=[]:=by kernel_rfl):RunA P n Q k ops st C 0 listed e w:=qvB hr h
theorem At{ops:Array Oper}{st:List Nat}{C:World->Prop}{fuel:Nat}(i j K K':Nat){m K0:Nat}{o o':Oper}(hh:(ops[i]?,ops[j]?)=(V o,V o'))(h1:Run P n Q (.ops ops [o]::.goal (NextA P n Q k ops st C fuel (bits m K))::k) e w)
  (h2:Run P n Q (.ops ops [o']::.goal (NextA P n Q k ops st C fuel (bits m K'))::k) e w) (hl1:(bits m K0).setIfInBounds i true=bits m K:=by kernel_rfl) (hl2:(bits m K0).setIfInBounds j true=bits m K':=by kernel_rfl)
  (hr:Region.ready .any ops (bits m K0)=[i,j]:=by kernel_rfl):RunA P n Q k ops st C (fuel+1) (bits m K0) e w:=by
 simp only[Prod.mk.injEq] at hh;exact qvU i j hh.1 hh.2 _ _ hl1 hl2 hr h1 h2
theorem rD{id:Nat}{ops:List Oper}(h:RunD P n Q k ops.toArray w ops e)(hm:P.follows .mixedOrders=true:=by rfl)(hB:Region.lexB .any ops.toArray=true:=by kernel_rfl):Run P n Q (.code (.region id ops.toArray true)::k) e w:=qvA hm hB h
end
section
variable{w:World}{S:Nat->Prop}
theorem pR{α β:Type}{A:GoT α}{B:GoT β}{x:α}{y:β}{c d:List Value}(h1:A.R w S x c)(h2:B.R w S y d):(pairT A B).R w S (x,y) (c++d):=⟨c,d,rfl,h1,h2⟩
theorem rI(x:Int):GoT.R w S x [.int .i64 x]:=rfl
theorem rB(x:Bool):GoT.R w S x [.bool x]:=rfl
theorem rT(x:ByteArray):GoT.R w S x [.string x]:=rfl
theorem rS{α:Type}[GoT α]{xs:List α}{p:Option Addr}{c:Nat}(s:SlR w S xs p c):GoT.R w S xs [.slice p xs.length c]:=⟨p,c,rfl,s⟩
end
def callB(P:Program)(f:FuncId):Bool:=match P.funcs[f]? with
 |some fn=>fn.body.isSome&&!(fn.name== "runtime.NumGoroutine")
 |none=>false
theorem qtC{P:Program}{f:FuncId}(h:callB P f=true):qeJ P f:=by
 unfold callB at h;split at h
 ·rename_i fn hf
  rw[jf,jC] at h;exact⟨fn,hf,h.1,h.2⟩
 ·cases h
def res1(e:Env):List ResultVar->Option Value
 | [.tmp t]=>e.get t
 |_=>U
theorem qrT{T:Tab}{e:Env}{w:World}{rs:List ResultVar}{v:Value}(h:res1 e rs=V v):ResOk T e w rs [v]:=by
 unfold res1 at h;split at h
 ·exact⟨h,G⟩
 ·cases h
end Go.Fw
