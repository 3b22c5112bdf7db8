/- Many steps at once: what only reckons or reads a box of the run's own. -/
import Derived.Test.YtklmnhcgjnglhaaGreatDoorFw37
import Derived.KernelRfl
open Option renaming some->V, none->U
open Bool renaming and_eq_true->je, not_eq_true'->jC, true->An, false->Cd
open Nat renaming zero_add->Jg
open List renaming mem_cons_of_mem->jr, mem_cons_self->ju, ext_getElem->Jo

namespace Go.Fw
open Go
abbrev Ro{α:Type}[qm α](w:World)(x:α)(cs:List Value):Prop:=qm.R w (old w) x cs
def xs(T:vP)(n:Nat):Nat->List (Nat×List Value)->List It->fL->List Nat->List Nat->Option (List It×fL×List Nat×List Nat)
 |0,_,k,e,x,y=>V (k,e,x,y)
 |m+1,bs,k,e,x,y=>match k with
  |.code (.seq a b)::k=>xs T n m bs (.code a::.code b::k) e x y
  |.code .skip::k=>xs T n m bs k e x y
  |.code (.block i c)::k=>xs T n m bs (.code c::.blk i::k) e x y
  |.code (.region _ a Cd)::k=>xs T n m bs (.ops a a.toList::k) e x y
  |.blk _::k=>xs T n m bs k e x y
  |.ops _ []::k=>xs T n m bs k e x y
  |.ops all (⟨V d,op,_,_,_,U⟩::l)::k=>match Nat.blt d n with
   |true=>match op with
    |.load t p=>match gq e p,T.get t,bs with
     |some (.pointer (V ⟨b,o,U⟩)),V te,(f,cs)::bs'=>match ld te cs o with
      |some v=>xs T n m bs' (.ops all l::k) ((d,v)::e) (b::x) (f::y)
      |none=>U
     |_,_,_=>U
    |op=>match wk T e op with
     |some v=>xs T n m bs (.ops all l::k) ((d,v)::e) x y
     |none=>U
   |false=>U
  |.ops all (⟨dst,op,ty,ps,af,V g⟩::l)::k=>match OZ e all ⟨dst,op,ty,ps,af,V g⟩ with
   |true=>match dst with
    |some d=>match Nat.blt d n with
     |true=>xs T n m bs (.ops all l::k) ((d,undef)::e) x y
     |false=>U
    |none=>U
   |false=>match AM e all ⟨dst,op,ty,ps,af,V g⟩ with
    |some An=>xs T n m bs (.ops all (⟨dst,op,ty,ps,af,U⟩::l)::k) e x y
    |some Cd=>match dst with
     |some d=>match Nat.blt d n with
      |true=>xs T n m bs (.ops all l::k) ((d,undef)::e) x y
      |false=>U
     |none=>U
    |none=>U
  |_=>U
def xd(T:vP)(n:Nat)(all:Array Oper):Nat->List (Nat×List Value)->List Oper->fL->List Nat->List Nat->Option (List Oper×fL×List Nat×List Nat)
 |0,_,k,e,x,y=>V (k,e,x,y)
 |m+1,bs,k,e,x,y=>match k with
  |⟨V d,op,_,_,_,U⟩::l=>match Nat.blt d n with
   |true=>match op with
    |.load t p=>match gq e p,T.get t,bs with
     |some (.pointer (V ⟨b,o,U⟩)),V te,(a,cs)::bs'=>match ld te cs o with
      |some v=>xd T n all m bs' l ((d,v)::e) (b::x) (a::y)
      |none=>U
     |_,_,_=>U
    |op=>match wk T e op with
     |some v=>xd T n all m bs l ((d,v)::e) x y
     |none=>U
   |false=>U
  |⟨dst,op,ty,ps,af,V g⟩::l=>match OZ e all ⟨dst,op,ty,ps,af,V g⟩ with
   |true=>match dst with
    |some d=>match Nat.blt d n with
     |true=>xd T n all m bs l ((d,undef)::e) x y
     |false=>U
    |none=>U
   |false=>match AM e all ⟨dst,op,ty,ps,af,V g⟩ with
    |some An=>xd T n all m bs (⟨dst,op,ty,ps,af,U⟩::l) e x y
    |some Cd=>match dst with
     |some d=>match Nat.blt d n with
      |true=>xd T n all m bs l ((d,undef)::e) x y
      |false=>U
     |none=>U
    |none=>U
  |_=>U
section
variable{P:Program}{T:vP}{n:Nat}{Q:Exit->Act->World->Prop}{k:List It}{e:fL}{w0 w:World}{L:List Ch}
theorem TT(u:cE P T):∀(m:Nat) (o:List (Nat×List Value)) (k:List It) (e:fL) (x y:List Nat) (s:List It) (r:fL) (i l:List Nat),(∀p∈o,cG w p.1 0 p.2)->x.length=y.length ->
  xs T n m o k e x y=V (s,r,i,l)->i.length=l.length/\(i=l->x=y/\(bx P n Q s r w->bx P n Q k e w)):=by
 intro m
 induction m with
 |zero=>
  intro o k e x y s r i l _ f h;simp only[xs,Option.some.injEq,Prod.mk.injEq] at h;obtain⟨rfl,rfl,rfl,rfl⟩:=h;exact⟨f,λa=>⟨a,id⟩⟩
 |succ m ih=>
  intro o k e x y s r i l g f h;unfold xs at h;split at h
  .obtain⟨c,b⟩:=ih _ _ _ _ _ _ _ _ _ g f h;exact⟨c,λa=>⟨(b a).1,λd=>aD ((b a).2 d)⟩⟩
  .obtain⟨c,b⟩:=ih _ _ _ _ _ _ _ _ _ g f h;exact⟨c,λa=>⟨(b a).1,λd=>eZ ((b a).2 d)⟩⟩
  .obtain⟨c,b⟩:=ih _ _ _ _ _ _ _ _ _ g f h;exact⟨c,λa=>⟨(b a).1,λd=>qq ((b a).2 d)⟩⟩
  .obtain⟨c,b⟩:=ih _ _ _ _ _ _ _ _ _ g f h;exact⟨c,λa=>⟨(b a).1,λd=>ah ((b a).2 d)⟩⟩
  .obtain⟨c,b⟩:=ih _ _ _ _ _ _ _ _ _ g f h;exact⟨c,λa=>⟨(b a).1,λd=>YV ((b a).2 d)⟩⟩
  .obtain⟨c,b⟩:=ih _ _ _ _ _ _ _ _ _ g f h;exact⟨c,λa=>⟨(b a).1,λd=>ae ((b a).2 d)⟩⟩
  .split at h
   .rename_i hn
    split at h
    .split at h
     .rename_i hx hte
      split at h
      .rename_i v hv
       have t:=λp B=>g p (jr _ B);obtain⟨c,b⟩:=ih _ _ _ _ _ _ _ _ _ t (by simp[f]) h;refine⟨c,λa=>?_⟩;obtain⟨z,A⟩:=b a;obtain⟨rfl,rfl⟩:=List.cons.inj z;exact⟨Z,λd=>dF (da u (g _ (ju ..)) (by rw[Jg];exact hx) hte hv) hn (A d)⟩
      .cases h
     .cases h
    .split at h
     .rename_i v hv
      obtain⟨c,b⟩:=ih _ _ _ _ _ _ _ _ _ g f h;exact⟨c,λa=>⟨(b a).1,λd=>dF (ZQ u hv w) hn ((b a).2 d)⟩⟩
     .cases h
   .cases h
  .split at h
   .rename_i hg
    split at h
    .split at h
     .rename_i hn
      obtain⟨c,b⟩:=ih _ _ _ _ _ _ _ _ _ g f h;exact⟨c,λa=>⟨(b a).1,λd=>qc0 (by unfold YI;rw[hg];rfl) Z hn ((b a).2 d)⟩⟩
     .cases h
    .cases h
   .split at h
    .rename_i hg
     obtain⟨c,b⟩:=ih _ _ _ _ _ _ _ _ _ g f h;exact⟨c,λa=>⟨(b a).1,λd=>qaZ hg ((b a).2 d)⟩⟩
    .rename_i hg
     split at h
     .split at h
      .rename_i hn
       obtain⟨c,b⟩:=ih _ _ _ _ _ _ _ _ _ g f h;exact⟨c,λa=>⟨(b a).1,λd=>qc0 (by unfold YI;rw[hg,Bool.or_true]) Z hn ((b a).2 d)⟩⟩
      .cases h
     .cases h
    .cases h
  .cases h
theorem qc5(u:cE P T){all:Array Oper}:∀(m:Nat) (r:List (Nat×List Value)) (l:List Oper) (e:fL) (x y:List Nat) (l':List Oper) (s:fL) (i o:List Nat),(∀p∈r,cG w p.1 0 p.2)->x.length=y.length ->
  xd T n all m r l e x y=V (l',s,i,o)->i.length=o.length/\(i=o->x=y/\(lV P n Q k all w l' s->lV P n Q k all w l e)):=by
 intro m
 induction m with
 |zero=>
  intro r l e x y l' s i o _ f h;simp only[xd,Option.some.injEq,Prod.mk.injEq] at h;obtain⟨rfl,rfl,rfl,rfl⟩:=h;exact⟨f,λa=>⟨a,id⟩⟩
 |succ m ih=>
  intro r l e x y l' s i o g f h;unfold xd at h;split at h
  .split at h
   .rename_i hn
    split at h
    .split at h
     .rename_i hx hte
      split at h
      .rename_i v hv
       have t:=λp B=>g p (jr _ B);obtain⟨c,b⟩:=ih _ _ _ _ _ _ _ _ _ t (by simp[f]) h;refine⟨c,λa=>?_⟩;obtain⟨z,A⟩:=b a;obtain⟨rfl,rfl⟩:=List.cons.inj z;exact⟨Z,λd=>qbI (λw' C=>da u ((g _ (ju ..)).below C) (by rw[Jg];exact hx) hte hv) hn (A d)⟩
      .cases h
     .cases h
    .split at h
     .rename_i v hv
      obtain⟨c,b⟩:=ih _ _ _ _ _ _ _ _ _ g f h;exact⟨c,λa=>⟨(b a).1,λd=>qbI (λw' _=>ZQ u hv w') hn ((b a).2 d)⟩⟩
     .cases h
   .cases h
  .split at h
   .rename_i hg
    split at h
    .split at h
     .rename_i hn
      obtain⟨c,b⟩:=ih _ _ _ _ _ _ _ _ _ g f h;exact⟨c,λa=>⟨(b a).1,λd=>qcU (by unfold YI;rw[hg];rfl) Z hn ((b a).2 d)⟩⟩
     .cases h
    .cases h
   .split at h
    .rename_i hg
     obtain⟨c,b⟩:=ih _ _ _ _ _ _ _ _ _ g f h;exact⟨c,λa=>⟨(b a).1,λd=>qab hg ((b a).2 d)⟩⟩
    .rename_i hg
     split at h
     .split at h
      .rename_i hn
       obtain⟨c,b⟩:=ih _ _ _ _ _ _ _ _ _ g f h;exact⟨c,λa=>⟨(b a).1,λd=>qcU (by unfold YI;rw[hg,Bool.or_true]) Z hn ((b a).2 d)⟩⟩
      .cases h
     .cases h
    .cases h
  .cases h
end
def bits(m K:Nat):Array Bool:=((List.range m).map λi=>K.testBit i).toArray
theorem O6{m:Nat}:Array.replicate m Cd=bits m 0:=by
 unfold bits;apply Array.ext';simp only[Nat.zero_testBit,Array.toList_replicate];exact Jo (by simp) (by simp)
def xa(T:vP)(n:Nat)(ops:Array Oper):List Nat->List (Nat×List Value)->Nat->fL->List Nat->List Nat->Option (Nat×fL×List Nat×List Nat)
 | [],_,f,e,x,y=>V (f,e,x,y)
 |i::is,bs,f,e,x,y=>match f with
  |0=>U
  |f+1=>match ops[i]? with
   |some ⟨V d,op,_,_,_,U⟩=>match Nat.blt d n with
    |true=>match op with
     |.load t p=>match gq e p,T.get t,bs with
      |some (.pointer (V ⟨b,o,U⟩)),V te,(a,cs)::bs'=>match ld te cs o with
       |some v=>xa T n ops is bs' f ((d,v)::e) (b::x) (a::y)
       |none=>U
      |_,_,_=>U
     |op=>match wk T e op with
      |some v=>xa T n ops is bs f ((d,v)::e) x y
      |none=>U
    |false=>U
   |_=>U
def qcb(ops:Array Oper)(st:List Nat):List Nat->Array Bool->Array Bool->Bool
 | [],l,l'=>l==l'
 |i::is,l,l'=>(Region.noSelect ops&&Region.free .any ops l i&&(Region.ready .any ops l).contains i&&st.all (λs=>!(Nat.beq s i)&&ES ops i s&&!(l.getD s An)))&&qcb ops st is (l.setIfInBounds i An) l'
section
variable{P:Program}{T:vP}{n:Nat}{fnc:Func}{R:Ending->World->Prop}{k:List It}{e:fL}{w0 w:World}{ops:Array Oper}{st:List Nat}{C:World->Prop}
theorem ZT(I:cE P T)(H:C w):∀(is:List Nat) (o:List (Nat×List Value)) (f:Nat) (e:fL) (x y:List Nat) (s:Nat) (r:fL) (g m:List Nat) (l l':Array Bool),(∀p∈o,∀w',C w'->cG w' p.1 0 p.2)->x.length=y.length ->
  xa T n ops is o f e x y=V (s,r,g,m)->qcb ops st is l l'=An->g.length=m.length/\(g=m->x=y/\(lU P n (bodyPost P fnc R) k ops st C s l' r w->lU P n (bodyPost P fnc R) k ops st C f l e w)):=by
 intro is
 induction is with
 |nil=>
  intro o f e x y s r g m l l' _ u h b;simp only[xa,Option.some.injEq,Prod.mk.injEq] at h;obtain⟨rfl,rfl,rfl,rfl⟩:=h;obtain rfl:=eq_of_beq b;exact⟨u,λa=>⟨a,id⟩⟩
 |cons i is ih=>
  intro o f e x y s r g m l l' A u h b;unfold qcb at b;rw[je] at b;obtain⟨c,d⟩:=b;unfold xa at h;split at h
  .cases h
  .split at h
   .rename_i hi
    split at h
    .rename_i hn
     split at h
     .split at h
      .rename_i hx hte
       split at h
       .rename_i v hv
        have B:=λp L=>A p (jr _ L);obtain⟨z,t⟩:=ih _ _ _ _ _ _ _ _ _ _ _ B (by simp[u]) h d;refine⟨z,λa=>?_⟩;obtain⟨J,K⟩:=t a;obtain⟨rfl,rfl⟩:=List.cons.inj J;exact⟨Z,λD=>gz i hi _ Z c (λw' F=>da I (A _ (ju ..) w' F) (by rw[Jg];exact hx) hte hv) H hn (K D)⟩
       .cases h
      .cases h
     .split at h
      .rename_i v hv
       obtain⟨z,t⟩:=ih _ _ _ _ _ _ _ _ _ _ _ A u h d;exact⟨z,λa=>⟨(t a).1,λD=>gz i hi _ Z c (λw' _=>ZQ I hv w') H hn ((t a).2 D)⟩⟩
      .cases h
    .cases h
   .cases h
end
def XL(e:fL):fL->Option fL
 | []=>V []
 |p::l=>match e.get p.1,XL e l with
  |some v,V r=>V ((p.1,v)::r)
  |_,_=>U
theorem HW{e:fL}:∀{a:fL},XL e a=V a->HK e a
 | [],_=>trivial
 |p::l,h=>by
  unfold XL at h;split at h
  .rename_i v r hv hr
   have h:=List.cons.inj (Option.some.inj h);refine⟨?_,HW (by rw[hr,h.2])⟩;rw[hv,<-h.1]
  .cases h
def qcX(L:List Ch):List Nat->Option (List Ch)
 | []=>V []
 |i::is=>match L[i]?,qcX L is with
  |some c,V l=>V (c::l)
  |_,_=>U
def U5:List Ch->Nat->Ch->Option (List Ch)
 | [],_,_=>V []
 |_::l,0,c=>V (c::l)
 |a::l,i+1,c=>match U5 l i c with
  |some r=>V (a::r)
  |none=>U
theorem M7:∀{L:List Ch} {i:Nat} {c:Ch} {L':List Ch},U5 L i c=V L'->L.set i c=L'
 | [],_,_,_,h=>by simpa [U5] using h
 |_::_,0,_,_,h=>by simpa [U5] using h
 |a::l,i+1,c,L',h=>by
  unfold U5 at h;split at h
  .rename_i r hr
   rw[List.set_cons_succ,M7 hr];exact Option.some.inj h
  .cases h
def VP:List Value->Nat->List Value->Option (List Value)
 |cs,0,[]=>V cs
 | [],_,_=>U
 |_::cs,0,u::us=>match VP cs 0 us with
  |some r=>V (u::r)
  |none=>U
 |c::cs,j+1,us=>match VP cs j us with
  |some r=>V (c::r)
  |none=>U
theorem VQ:∀{cs:List Value} {j:Nat} {a r:List Value},VP cs j a=V r->iX cs j a=r
 |cs,0,[],r,h=>by
  have h:cs=r:=by cases cs<;>simpa [VP] using h
  subst h;simp[iX]
 | [],0,_::_,_,h=>by simp[VP] at h
 | [],_+1,_,_,h=>by simp[VP] at h
 |c::cs,0,u::a,r,h=>by
  unfold VP at h;split at h
  .rename_i q hq
   have:=VQ hq;obtain rfl:=Option.some.inj h;rw[<-this];simp[iX]
  .cases h
 |c::cs,j+1,a,r,h=>by
  unfold VP at h;split at h
  .rename_i q hq
   have:=VQ hq;obtain rfl:=Option.some.inj h;rw[<-this];simp[iX,Nat.add_right_comm]
  .cases h
section
variable{P:Program}{T:vP}{n:Nat}{Q:Exit->Act->World->Prop}{k:List It}{e:fL}{w0 w:World}{L:List Ch}{all:Array Oper}
theorem dN(h:SH w0 w L)(b:∀w',SH w0 w' L->bx P n Q k e w'):lV P n Q k all w [] e:=qec λw' a=>b w' (h.ext a)
theorem rK{Inv:Nat->fL->World->Prop}{m:Nat}{a:fL}(h:Inv m a w)(b:XL e a=V a):bx P n Q (.goal (qbr n Inv (m+1))::k) e w:=E5 m a (Nat.lt_succ_self m) (HW b) h
theorem aK{ops:Array Oper}{st:List Nat}{C:World->Prop}{b:Nat}{a:Array Bool}{J:fL->World->Prop}{c:fL}(K:∀e w,J e w->lU P n Q k ops st C b a e w)(h:J c w)(d:XL e c=V c):lU P n Q k ops st C b a e w:=BK c (HW d) (K _ _ h)
theorem rG{J:fL->World->Prop}{a:fL}(h:J a w)(b:XL e a=V a):bx P n Q (.goal (W3 n J)::k) e w:=U0 a (HW b) h
theorem rH{β ρ:Type}{M:β->Option ρ}{E:β->fL}{H:β->World->Prop}{x y:β}{r:ρ}(F:V x=V y)(p:M y=V r)(h:H x w)(a:XL e (E x)=V (E x)):bx P n Q (.goal (W3 n (λe w'=>∃b,M b=V r/\e=E b/\H b w'))::k) e w:=by
 cases F;exact rG ⟨_,p,Z,h⟩ a
theorem rL{b:Code}(Inv:Nat->fL->World->Prop)(m:Nat){c:fL}(h:Inv m c w)(d:XL e c=V c)(a:∀m e w,Inv m e w->bx P n Q (.code b::.goal (qbr n Inv m)::k) e w):bx P n Q (.code (.loop b)::k) e w:=
 qaY c (HW d) (E7 Inv m h a)
theorem rA{id:Nat}{ops:List Oper}(st is:List Nat){m:Nat}{L':List Ch}(h:SH w0 w L)(a:(qcX L is,ops.length,P.follows .mixedOrders)=(V L',m,An))
  (c:∀w',SH w0 w' L->lU P n Q k ops.toArray st (λw'=>SH w0 w' L') m (bits m 0) e w'):bx P n Q (.code (.region id ops.toArray An)::k) e w:=by
 simp only[Prod.mk.injEq] at a;exact qcY st _ a.2.2 m (by simpa using a.2.1) _ O6 λw' b=>c w' (h.ext b)
theorem Ag{ops:Array Oper}{st:List Nat}{C:World->Prop}{b:Nat}{a:Array Bool}{all:Array Oper}(c:C w)(h:lU P n Q k ops st C b a e w):bx P n Q (.ops all []::.goal (BJ P n Q k ops st C b a)::k) e w:=bN (λ_=>c) h
theorem Ao{ops:Array Oper}{st:List Nat}{C:World->Prop}{a:Nat}(i K:Nat){m K0:Nat}{o:Oper}(hi:ops[i]?=V o)(h:bx P n Q (.ops ops [o]::.goal (BJ P n Q k ops st C a (bits m K))::k) e w)
  (b:(bits m K0).setIfInBounds i An=bits m K:=by kernel_rfl) (c:Region.ready .any ops (bits m K0)=[i]:=by kernel_rfl):lU P n Q k ops st C (a+1) (bits m K0) e w:=AH i hi _ b c h
theorem Ad{ops:Array Oper}{st:List Nat}{C:World->Prop}{a:Array Bool}(h:bx P n Q k e w)(b:Region.ready .any ops a=[]:=by kernel_rfl):lU P n Q k ops st C 0 a e w:=A5 b h
theorem At{ops:Array Oper}{st:List Nat}{C:World->Prop}{a:Nat}(i j K K':Nat){m K0:Nat}{o f:Oper}(b:(ops[i]?,ops[j]?)=(V o,V f))(g:bx P n Q (.ops ops [o]::.goal (BJ P n Q k ops st C a (bits m K))::k) e w)
  (h:bx P n Q (.ops ops [f]::.goal (BJ P n Q k ops st C a (bits m K'))::k) e w) (c:(bits m K0).setIfInBounds i An=bits m K:=by kernel_rfl) (d:(bits m K0).setIfInBounds j An=bits m K':=by kernel_rfl)
  (l:Region.ready .any ops (bits m K0)=[i,j]:=by kernel_rfl):lU P n Q k ops st C (a+1) (bits m K0) e w:=by
 simp only[Prod.mk.injEq] at b;exact qea i j b.1 b.2 _ _ c d l g h
theorem rD{id:Nat}{ops:List Oper}(h:lV P n Q k ops.toArray w ops e)(b:P.follows .mixedOrders=An:=by rfl)(a:Region.lexB .any ops.toArray=An:=by kernel_rfl):bx P n Q (.code (.region id ops.toArray An)::k) e w:=qdL b a h
end
section
variable{w:World}{S:Nat->Prop}
theorem pR{α β:Type}{A:qm α}{B:qm β}{x:α}{y:β}{c d:List Value}(a:A.R w S x c)(b:B.R w S y d):(aU A B).R w S (x,y) (c++d):=⟨c,d,Z,a,b⟩
theorem rI(x:Int):qm.R w S x [.int .i64 x]:=rfl
theorem rB(x:Bool):qm.R w S x [.bool x]:=rfl
theorem rT(x:ByteArray):qm.R w S x [.string x]:=rfl
theorem rS{α:Type}[qm α]{xs:List α}{p:Option Addr}{c:Nat}(s:dG w S xs p c):qm.R w S xs [.slice p xs.length c]:=⟨p,c,Z,s⟩
end
def Z1(P:Program)(f:FuncId):Bool:=match P.funcs[f]? with
 |some fn=>fn.body.isSome&&!(fn.name== "runtime.NumGoroutine")
 |none=>Cd
theorem Z2{P:Program}{f:FuncId}(h:Z1 P f=An):kH P f:=by
 unfold Z1 at h;split at h
 .rename_i fn hf
  rw[je,jC] at h;exact⟨fn,hf,h.1,h.2⟩
 .cases h
def qcn(e:fL):List ResultVar->Option Value
 | [.tmp t]=>e.get t
 |_=>U
theorem M5{T:vP}{e:fL}{w:World}{a:List ResultVar}{v:Value}(h:qcn e a=V v):wF T e w a [v]:=by
 unfold qcn at h;split at h
 .exact⟨h,G⟩
 .cases h
end Go.Fw
