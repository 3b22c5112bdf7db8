/- Comparisons of structs of two integers. -/
import Derived.Test.YtfkmekkhnmifiaaGreatDoorFw36
import Derived.KernelRfl
open Option renaming some->V, none->U
open Nat renaming zero_add->Jf
open Bool renaming and_eq_true->jf, not_eq_true'->jA
open List renaming mem_cons_of_mem->jp, mem_cons_self->js, ext_getElem->Jg
open Go.Result renaming andThen_ok->jh
open Go.Sem renaming run_bind->jk, run_pure->jm

namespace Go.Fw
open Go
open Go.RowKit (Below)
section
variable{P:Program}{T:Tab}{n:Nat}{e:Env}{w:World}
theorem qri{t:TypeId}{k:IntKind}(h:P.underlying t=V (.int k))(w:World):(isAgg t).run P w=.ok false w:=by
 unfold isAgg;simp only[jk,run_underlying h,jh]
 rfl
theorem qoC{t:TypeId}{k:IntKind}(h:P.underlying t=V (.int k)){cs:Array Value}{o:Nat}{v:Value}(a:cs[o]?=V v)(w:World):(part t cs o).run P w=.ok v w:=by
 unfold part;simp only[jk,qri h,jh,a]
 rfl
theorem qfx(d:Nat){t:TypeId}(h:P.underlying t=V (.int .i64))(a b:Int)(w:World):(Op.equalIn (d+1) t (.int .i64 a) (.int .i64 b)).run P w=.ok (a==b) w:=by
 simp[Op.equalIn,run_underlying h]
theorem qtZ{t:TypeId}{f1 a:Field}{a1 a2 b1 b2:Int}(i:P.underlying t=V (.struct #[f1,a]))(n1:f1.name≠ "_") (k:a.name≠ "_") (o1:f1.offset=0) (o2:a.offset=1)
  (f:P.underlying f1.type=V (.int .i64)) (g:P.underlying a.type=V (.int .i64)) (h:P.stoodInHeld t=false) (w:World) :
  (Op.equal t (.agg #[.int .i64 a1,.int .i64 a2]) (.agg #[.int .i64 b1,.int .i64 b2])).run P w=.ok ((a1==b1)&&(a2==b2)) w:=by
 simp only[Op.equal,Op.maxDepth];show(Op.equalIn (9998+1+1) t _ _).run P w=_;have p1:=fun c:Int×Int=>qoC (P:=P) f (cs:=#[.int .i64 c.1,.int .i64 c.2]) (o:=0) (v:=.int .i64 c.1) Z;have r:=fun c:Int×Int=>qoC (P:=P) g (cs:=#[.int .i64 c.1,.int .i64 c.2]) (o:=1) (v:=.int .i64 c.2) Z;have b:=p1 (a1,a2);have l:=p1 (b1,b2);have d:=r (a1,a2);have m:=r (b1,b2);simp only at b l d m;rw[Op.equalIn];by_cases n:a1=b1
 .subst n;by_cases p:a2=b2
  .subst p;simp[run_underlying i,h,n1,k,o1,o2,b,d,qfx 9998 f,qfx 9998 g]
  .simp[run_underlying i,h,n1,k,o1,o2,b,l,d,m,qfx 9998 f,qfx 9998 g,p]
 .simp[run_underlying i,h,n1,k,o1,o2,b,l,d,m,qfx 9998 f,qfx 9998 g,n]
theorem qyg{x y:Operand}{t u d ty:Nat}{ps:String}{k:Array Edge}{g:Option (Nat×Bool)}{f1 b:Field}{a1 a2 b1 b2:Int}(p:P.underlying t=V (.struct #[f1,b]))(f:((f1.name != "_")&&(b.name != "_"))=true) (h:(f1.offset,b.offset)=(0,1))
  (v:P.underlying f1.type=V (.int .i64)) (z:P.underlying b.type=V (.int .i64)) (o:P.stoodInHeld t=false) (m:P.eqGuardType P.depth t=false)
  (r:opv e x=V (.agg #[.int .i64 a1,.int .i64 a2])) (s:opv e y=V (.agg #[.int .i64 b1,.int .i64 b2])):Val P n e ⟨V d,.binOp .neq t x y u,ty,ps,k,g⟩ w (.bool (!((a1==b1)&&(a2==b2)))):=by
 intro a i;simp only[Prod.mk.injEq] at h;simp only[jf,bne_iff_ne] at f;have l:=fun w=>qtZ (a1:=a1) (a2:=a2) (b1:=b1) (b2:=b2) p f.1 f.2 h.1 h.2 v z o w;have c:(eqGuard .neq t x y (.agg #[.int .i64 a1,.int .i64 a2]) (.agg #[.int .i64 b1,.int .i64 b2])).run P w=.ok () w:=by
  unfold eqGuard;simp[m]
 simp only[execOp,i.eval r,i.eval s,jk,c,jh,binOp,l,jm]
def isI64(P:Program)(t:TypeId):Bool:=match P.underlying t with
 |some (.int .i64)=>true
 |_=>false
def okI2(P:Program)(t:TypeId):Bool:=match P.underlying t with
 |some (.struct fs)=>match fs.toList with
  | [f1,f2]=>(f1.name != "_")&&(f2.name != "_")&&Nat.beq f1.offset 0&&Nat.beq f2.offset 1&&isI64 P f1.type&&isI64 P f2.type&&!P.stoodInHeld t&&!P.eqGuardType P.depth t
  |_=>false
 |_=>false
theorem qs5{t:TypeId}(h:isI64 P t=true):P.underlying t=V (.int .i64):=by
 unfold isI64 at h;split at h
 .assumption
 .cases h
theorem qtC{x y:Operand}{t s d ty:Nat}{ps:String}{c:Array Edge}{g:Option (Nat×Bool)}{a1 a2 b1 b2:Int}(a:okI2 P t=true)
  (f:opv e x=V (.agg #[.int .i64 a1,.int .i64 a2])) (h:opv e y=V (.agg #[.int .i64 b1,.int .i64 b2])):Val P n e ⟨V d,.binOp .neq t x y s,ty,ps,c,g⟩ w (.bool (!((a1==b1)&&(a2==b2)))):=by
 unfold okI2 at a;split at a
 .rename_i fs hu
  split at a
  .rename_i f1 f2 hf
   have b:fs=#[f1,f2]:=by rw[<-Array.toArray_toList (xs:=fs),hf]
   subst b;simp only[jf,jA] at a;obtain⟨⟨⟨⟨⟨⟨⟨i,k⟩,k3⟩,l⟩,m⟩,o⟩,p⟩,r⟩:=a;exact qyg hu (by simp only[i,k,Bool.and_self]) (by rw[Nat.eq_of_beq_eq_true k3,Nat.eq_of_beq_eq_true l]) (qs5 m) (qs5 o) p r f h
  .cases a
 .cases a
end
end Go.Fw


namespace Go.Fw
open Go
abbrev Ro{α:Type}[GoT α](w:World)(x:α)(cs:List Value):Prop:=GoT.R w (old w) x cs
def xs(T:Tab)(n:Nat):Nat->List (Nat×List Value)->List It->Env->List Nat->List Nat->Option (List It×Env×List Nat×List Nat)
 |0,_,k,e,x,y=>V (k,e,x,y)
 |m+1,bs,k,e,x,y=>match k with
  |.code (.seq a b)::k=>xs T n m bs (.code a::.code b::k) e x y
  |.code .skip::k=>xs T n m bs k e x y
  |.code (.block i c)::k=>xs T n m bs (.code c::.blk i::k) e x y
  |.code (.region _ a false)::k=>xs T n m bs (.ops a a.toList::k) e x y
  |.blk _::k=>xs T n m bs k e x y
  |.ops _ []::k=>xs T n m bs k e x y
  |.ops all (⟨V d,op,_,_,_,U⟩::l)::k=>match Nat.blt d n with
   |true=>match op with
    |.load t p=>match opv e p,T.get t,bs with
     |some (.pointer (V ⟨b,o,U⟩)),V te,(f,cs)::bs'=>match ld te cs o with
      |some v=>xs T n m bs' (.ops all l::k) ((d,v)::e) (b::x) (f::y)
      |none=>U
     |_,_,_=>U
    |op=>match pev T e op with
     |some v=>xs T n m bs (.ops all l::k) ((d,v)::e) x y
     |none=>U
   |false=>U
  |.ops all (⟨dst,op,ty,ps,af,V g⟩::l)::k=>match guardU e all ⟨dst,op,ty,ps,af,V g⟩ with
   |true=>match dst with
    |some d=>match Nat.blt d n with
     |true=>xs T n m bs (.ops all l::k) ((d,undef)::e) x y
     |false=>U
    |none=>U
   |false=>match guardOf e all ⟨dst,op,ty,ps,af,V g⟩ with
    |some true=>xs T n m bs (.ops all (⟨dst,op,ty,ps,af,U⟩::l)::k) e x y
    |some false=>match dst with
     |some d=>match Nat.blt d n with
      |true=>xs T n m bs (.ops all l::k) ((d,undef)::e) x y
      |false=>U
     |none=>U
    |none=>U
  |_=>U
def xd(T:Tab)(n:Nat)(all:Array Oper):Nat->List (Nat×List Value)->List Oper->Env->List Nat->List Nat->Option (List Oper×Env×List Nat×List Nat)
 |0,_,k,e,x,y=>V (k,e,x,y)
 |m+1,bs,k,e,x,y=>match k with
  |⟨V d,op,_,_,_,U⟩::l=>match Nat.blt d n with
   |true=>match op with
    |.load t p=>match opv e p,T.get t,bs with
     |some (.pointer (V ⟨b,o,U⟩)),V te,(a,cs)::bs'=>match ld te cs o with
      |some v=>xd T n all m bs' l ((d,v)::e) (b::x) (a::y)
      |none=>U
     |_,_,_=>U
    |op=>match pev T e op with
     |some v=>xd T n all m bs l ((d,v)::e) x y
     |none=>U
   |false=>U
  |⟨dst,op,ty,ps,af,V g⟩::l=>match guardU e all ⟨dst,op,ty,ps,af,V g⟩ with
   |true=>match dst with
    |some d=>match Nat.blt d n with
     |true=>xd T n all m bs l ((d,undef)::e) x y
     |false=>U
    |none=>U
   |false=>match guardOf e all ⟨dst,op,ty,ps,af,V g⟩ with
    |some true=>xd T n all m bs (⟨dst,op,ty,ps,af,U⟩::l) e x y
    |some false=>match dst with
     |some d=>match Nat.blt d n with
      |true=>xd T n all m bs l ((d,undef)::e) x y
      |false=>U
     |none=>U
    |none=>U
  |_=>U
section
variable{P:Program}{T:Tab}{n:Nat}{Q:Exit->Act->World->Prop}{k:List It}{e:Env}{w0 w:World}{L:List Ch}
theorem qrx(u:TabOk P T):∀(m:Nat) (o:List (Nat×List Value)) (k:List It) (e:Env) (x y:List Nat) (s:List It) (r:Env) (i l:List Nat),(∀p∈o,CellsAt w p.1 0 p.2)->x.length=y.length ->
  xs T n m o k e x y=V (s,r,i,l)->i.length=l.length/\(i=l->x=y/\(Run P n Q s r w->Run P n Q k e w)):=by
 intro m
 induction m with
 |zero=>
  intro o k e x y s r i l _ f h;simp only[xs,Option.some.injEq,Prod.mk.injEq] at h;obtain⟨rfl,rfl,rfl,rfl⟩:=h;exact⟨f,fun a=>⟨a,id⟩⟩
 |succ m ih=>
  intro o k e x y s r i l g f h;unfold xs at h;split at h
  .obtain⟨c,b⟩:=ih _ _ _ _ _ _ _ _ _ g f h;exact⟨c,fun a=>⟨(b a).1,fun d=>qb0 ((b a).2 d)⟩⟩
  .obtain⟨c,b⟩:=ih _ _ _ _ _ _ _ _ _ g f h;exact⟨c,fun a=>⟨(b a).1,fun d=>qfv ((b a).2 d)⟩⟩
  .obtain⟨c,b⟩:=ih _ _ _ _ _ _ _ _ _ g f h;exact⟨c,fun a=>⟨(b a).1,fun d=>ql ((b a).2 d)⟩⟩
  .obtain⟨c,b⟩:=ih _ _ _ _ _ _ _ _ _ g f h;exact⟨c,fun a=>⟨(b a).1,fun d=>qi0 ((b a).2 d)⟩⟩
  .obtain⟨c,b⟩:=ih _ _ _ _ _ _ _ _ _ g f h;exact⟨c,fun a=>⟨(b a).1,fun d=>qwv ((b a).2 d)⟩⟩
  .obtain⟨c,b⟩:=ih _ _ _ _ _ _ _ _ _ g f h;exact⟨c,fun a=>⟨(b a).1,fun d=>qbe ((b a).2 d)⟩⟩
  .split at h
   .rename_i hn
    split at h
    .split at h
     .rename_i hx hte
      split at h
      .rename_i v hv
       have t:=fun p B=>g p (jp _ B);obtain⟨c,b⟩:=ih _ _ _ _ _ _ _ _ _ t (by simp[f]) h;refine⟨c,fun a=>?_⟩;obtain⟨z,A⟩:=b a;obtain⟨rfl,rfl⟩:=List.cons.inj z;exact⟨rfl,fun d=>r_v (qbP u (g _ (js ..)) (by rw[Jf];exact hx) hte hv) hn (A d)⟩
      .cases h
     .cases h
    .split at h
     .rename_i v hv
      obtain⟨c,b⟩:=ih _ _ _ _ _ _ _ _ _ g f h;exact⟨c,fun a=>⟨(b a).1,fun d=>r_v (v_p u hv w) hn ((b a).2 d)⟩⟩
     .cases h
   .cases h
  .split at h
   .rename_i hg
    split at h
    .split at h
     .rename_i hn
      obtain⟨c,b⟩:=ih _ _ _ _ _ _ _ _ _ g f h;exact⟨c,fun a=>⟨(b a).1,fun d=>qxH (by unfold notW;rw[hg];rfl) Z hn ((b a).2 d)⟩⟩
     .cases h
    .cases h
   .split at h
    .rename_i hg
     obtain⟨c,b⟩:=ih _ _ _ _ _ _ _ _ _ g f h;exact⟨c,fun a=>⟨(b a).1,fun d=>qwr hg ((b a).2 d)⟩⟩
    .rename_i hg
     split at h
     .split at h
      .rename_i hn
       obtain⟨c,b⟩:=ih _ _ _ _ _ _ _ _ _ g f h;exact⟨c,fun a=>⟨(b a).1,fun d=>qxH (by unfold notW;rw[hg,Bool.or_true]) Z hn ((b a).2 d)⟩⟩
      .cases h
     .cases h
    .cases h
  .cases h
theorem qxB(u:TabOk P T){all:Array Oper}:∀(m:Nat) (r:List (Nat×List Value)) (l:List Oper) (e:Env) (x y:List Nat) (l':List Oper) (s:Env) (i o:List Nat),(∀p∈r,CellsAt w p.1 0 p.2)->x.length=y.length ->
  xd T n all m r l e x y=V (l',s,i,o)->i.length=o.length/\(i=o->x=y/\(RunD P n Q k all w l' s->RunD P n Q k all w l e)):=by
 intro m
 induction m with
 |zero=>
  intro r l e x y l' s i o _ f h;simp only[xd,Option.some.injEq,Prod.mk.injEq] at h;obtain⟨rfl,rfl,rfl,rfl⟩:=h;exact⟨f,fun a=>⟨a,id⟩⟩
 |succ m ih=>
  intro r l e x y l' s i o g f h;unfold xd at h;split at h
  .split at h
   .rename_i hn
    split at h
    .split at h
     .rename_i hx hte
      split at h
      .rename_i v hv
       have t:=fun p B=>g p (jp _ B);obtain⟨c,b⟩:=ih _ _ _ _ _ _ _ _ _ t (by simp[f]) h;refine⟨c,fun a=>?_⟩;obtain⟨z,A⟩:=b a;obtain⟨rfl,rfl⟩:=List.cons.inj z;exact⟨rfl,fun d=>d_v (fun w' C=>qbP u ((g _ (js ..)).below C) (by rw[Jf];exact hx) hte hv) hn (A d)⟩
      .cases h
     .cases h
    .split at h
     .rename_i v hv
      obtain⟨c,b⟩:=ih _ _ _ _ _ _ _ _ _ g f h;exact⟨c,fun a=>⟨(b a).1,fun d=>d_v (fun w' _=>v_p u hv w') hn ((b a).2 d)⟩⟩
     .cases h
   .cases h
  .split at h
   .rename_i hg
    split at h
    .split at h
     .rename_i hn
      obtain⟨c,b⟩:=ih _ _ _ _ _ _ _ _ _ g f h;exact⟨c,fun a=>⟨(b a).1,fun d=>qxA (by unfold notW;rw[hg];rfl) Z hn ((b a).2 d)⟩⟩
     .cases h
    .cases h
   .split at h
    .rename_i hg
     obtain⟨c,b⟩:=ih _ _ _ _ _ _ _ _ _ g f h;exact⟨c,fun a=>⟨(b a).1,fun d=>qv4 hg ((b a).2 d)⟩⟩
    .rename_i hg
     split at h
     .split at h
      .rename_i hn
       obtain⟨c,b⟩:=ih _ _ _ _ _ _ _ _ _ g f h;exact⟨c,fun a=>⟨(b a).1,fun d=>qxA (by unfold notW;rw[hg,Bool.or_true]) Z hn ((b a).2 d)⟩⟩
      .cases h
     .cases h
    .cases h
  .cases h
end
def bits(m K:Nat):Array Bool:=((List.range m).map fun i=>K.testBit i).toArray
theorem qvf{m:Nat}:Array.replicate m false=bits m 0:=by
 unfold bits;apply Array.ext';simp only[Nat.zero_testBit,Array.toList_replicate];exact Jg (by simp) (by simp)
def xa(T:Tab)(n:Nat)(ops:Array Oper):List Nat->List (Nat×List Value)->Nat->Env->List Nat->List Nat->Option (Nat×Env×List Nat×List Nat)
 | [],_,f,e,x,y=>V (f,e,x,y)
 |i::is,bs,f,e,x,y=>match f with
  |0=>U
  |f+1=>match ops[i]? with
   |some ⟨V d,op,_,_,_,U⟩=>match Nat.blt d n with
    |true=>match op with
     |.load t p=>match opv e p,T.get t,bs with
      |some (.pointer (V ⟨b,o,U⟩)),V te,(a,cs)::bs'=>match ld te cs o with
       |some v=>xa T n ops is bs' f ((d,v)::e) (b::x) (a::y)
       |none=>U
      |_,_,_=>U
     |op=>match pev T e op with
      |some v=>xa T n ops is bs f ((d,v)::e) x y
      |none=>U
    |false=>U
   |_=>U
def oka(ops:Array Oper)(st:List Nat):List Nat->Array Bool->Array Bool->Bool
 | [],l,l'=>l==l'
 |i::is,l,l'=>(Region.noSelect ops&&Region.free .any ops l i&&(Region.ready .any ops l).contains i&&st.all (fun s=>!(Nat.beq s i)&&waitsB ops i s&&!(l.getD s true)))&&oka ops st is (l.setIfInBounds i true) l'
section
variable{P:Program}{T:Tab}{n:Nat}{fnc:Func}{R:Ending->World->Prop}{k:List It}{e:Env}{w0 w:World}{ops:Array Oper}{st:List Nat}{C:World->Prop}
theorem qsu(I:TabOk P T)(H:C w):∀(is:List Nat) (o:List (Nat×List Value)) (f:Nat) (e:Env) (x y:List Nat) (s:Nat) (r:Env) (g m:List Nat) (l l':Array Bool),(∀p∈o,∀w',C w'->CellsAt w' p.1 0 p.2)->x.length=y.length ->
  xa T n ops is o f e x y=V (s,r,g,m)->oka ops st is l l'=true->g.length=m.length/\(g=m->x=y/\(RunA P n (bodyPost P fnc R) k ops st C s l' r w->RunA P n (bodyPost P fnc R) k ops st C f l e w)):=by
 intro is
 induction is with
 |nil=>
  intro o f e x y s r g m l l' _ u h b;simp only[xa,Option.some.injEq,Prod.mk.injEq] at h;obtain⟨rfl,rfl,rfl,rfl⟩:=h;obtain rfl:=eq_of_beq b;exact⟨u,fun a=>⟨a,id⟩⟩
 |cons i is ih=>
  intro o f e x y s r g m l l' A u h b;unfold oka at b;rw[jf] at b;obtain⟨c,d⟩:=b;unfold xa at h;split at h
  .cases h
  .split at h
   .rename_i hi
    split at h
    .rename_i hn
     split at h
     .split at h
      .rename_i hx hte
       split at h
       .rename_i v hv
        have B:=fun p L=>A p (jp _ L);obtain⟨z,t⟩:=ih _ _ _ _ _ _ _ _ _ _ _ B (by simp[u]) h d;refine⟨z,fun a=>?_⟩;obtain⟨J,K⟩:=t a;obtain⟨rfl,rfl⟩:=List.cons.inj J;exact⟨rfl,fun D=>qkd i hi _ Z c (fun w' F=>qbP I (A _ (js ..) w' F) (by rw[Jf];exact hx) hte hv) H hn (K D)⟩
       .cases h
      .cases h
     .split at h
      .rename_i v hv
       obtain⟨z,t⟩:=ih _ _ _ _ _ _ _ _ _ _ _ A u h d;exact⟨z,fun a=>⟨(t a).1,fun D=>qkd i hi _ Z c (fun w' _=>v_p I hv w') H hn ((t a).2 D)⟩⟩
      .cases h
    .cases h
   .cases h
end
def gets(e:Env):Env->Option Env
 | []=>V []
 |p::l=>match e.get p.1,gets e l with
  |some v,V r=>V ((p.1,v)::r)
  |_,_=>U
theorem qou{e:Env}:∀{a:Env},gets e a=V a->subEnv e a
 | [],_=>trivial
 |p::l,h=>by
  unfold gets at h;split at h
  .rename_i v r hv hr
   have h:=List.cons.inj (Option.some.inj h);refine⟨?_,qou (by rw[hr,h.2])⟩;rw[hv,<-h.1]
  .cases h
def pickN(L:List Ch):List Nat->Option (List Ch)
 | []=>V []
 |i::is=>match L[i]?,pickN L is with
  |some c,V l=>V (c::l)
  |_,_=>U
def setN:List Ch->Nat->Ch->Option (List Ch)
 | [],_,_=>V []
 |_::l,0,c=>V (c::l)
 |a::l,i+1,c=>match setN l i c with
  |some r=>V (a::r)
  |none=>U
theorem qum:∀{L:List Ch} {i:Nat} {c:Ch} {L':List Ch},setN L i c=V L'->L.set i c=L'
 | [],_,_,_,h=>by simpa [setN] using h
 |_::_,0,_,_,h=>by simpa [setN] using h
 |a::l,i+1,c,L',h=>by
  unfold setN at h;split at h
  .rename_i r hr
   rw[List.set_cons_succ,qum hr];exact Option.some.inj h
  .cases h
def splN:List Value->Nat->List Value->Option (List Value)
 |cs,0,[]=>V cs
 | [],_,_=>U
 |_::cs,0,u::us=>match splN cs 0 us with
  |some r=>V (u::r)
  |none=>U
 |c::cs,j+1,us=>match splN cs j us with
  |some r=>V (c::r)
  |none=>U
theorem qsh:∀{cs:List Value} {j:Nat} {a r:List Value},splN cs j a=V r->splice cs j a=r
 |cs,0,[],r,h=>by
  have h:cs=r:=by cases cs<;>simpa [splN] using h
  subst h;simp[splice]
 | [],0,_::_,_,h=>by simp[splN] at h
 | [],_+1,_,_,h=>by simp[splN] at h
 |c::cs,0,u::a,r,h=>by
  unfold splN at h;split at h
  .rename_i q hq
   have:=qsh hq;obtain rfl:=Option.some.inj h;rw[<-this];simp[splice]
  .cases h
 |c::cs,j+1,a,r,h=>by
  unfold splN at h;split at h
  .rename_i q hq
   have:=qsh hq;obtain rfl:=Option.some.inj h;rw[<-this];simp[splice,Nat.add_right_comm]
  .cases h
section
variable{P:Program}{T:Tab}{n:Nat}{Q:Exit->Act->World->Prop}{k:List It}{e:Env}{w0 w:World}{L:List Ch}{all:Array Oper}
theorem dN(h:SH w0 w L)(b:∀w',SH w0 w' L->Run P n Q k e w'):RunD P n Q k all w [] e:=qyp fun w' a=>b w' (h.ext a)
theorem rK{Inv:Nat->Env->World->Prop}{m:Nat}{a:Env}(h:Inv m a w)(b:gets e a=V a):Run P n Q (.goal (Back n Inv (m+1))::k) e w:=qxT m a (Nat.lt_succ_self m) (qou b) h
theorem aK{ops:Array Oper}{st:List Nat}{C:World->Prop}{b:Nat}{a:Array Bool}{J:Env->World->Prop}{c:Env}(K:∀e w,J e w->RunA P n Q k ops st C b a e w)(h:J c w)(d:gets e c=V c):RunA P n Q k ops st C b a e w:=qn4 c (qou d) (K _ _ h)
theorem rG{J:Env->World->Prop}{a:Env}(h:J a w)(b:gets e a=V a):Run P n Q (.goal (CutJ n J)::k) e w:=quW a (qou b) h
theorem rL{b:Code}(Inv:Nat->Env->World->Prop)(m:Nat){c:Env}(h:Inv m c w)(d:gets e c=V c)(a:∀m e w,Inv m e w->Run P n Q (.code b::.goal (Back n Inv m)::k) e w):Run P n Q (.code (.loop b)::k) e w:=
 qyq c (qou d) (qxY Inv m h a)
theorem rA{id:Nat}{ops:List Oper}(st is:List Nat){m:Nat}{L':List Ch}(h:SH w0 w L)(a:(pickN L is,ops.length,P.follows .mixedOrders)=(V L',m,true))
  (c:∀w',SH w0 w' L->RunA P n Q k ops.toArray st (fun w'=>SH w0 w' L') m (bits m 0) e w'):Run P n Q (.code (.region id ops.toArray true)::k) e w:=by
 simp only[Prod.mk.injEq] at a;exact qxG st _ a.2.2 m (by simpa using a.2.1) _ qvf fun w' b=>c w' (h.ext b)
theorem Ag{ops:Array Oper}{st:List Nat}{C:World->Prop}{b:Nat}{a:Array Bool}{all:Array Oper}(c:C w)(h:RunA P n Q k ops st C b a e w):Run P n Q (.ops all []::.goal (NextA P n Q k ops st C b a)::k) e w:=qaS (fun _=>c) h
theorem Ao{ops:Array Oper}{st:List Nat}{C:World->Prop}{a:Nat}(i K:Nat){m K0:Nat}{o:Oper}(hi:ops[i]?=V o)(h:Run P n Q (.ops ops [o]::.goal (NextA P n Q k ops st C a (bits m K))::k) e w)
  (b:(bits m K0).setIfInBounds i true=bits m K:=by kernel_rfl) (c:Region.ready .any ops (bits m K0)=[i]:=by kernel_rfl):RunA P n Q k ops st C (a+1) (bits m K0) e w:=qxL i hi _ b c h
theorem Ad{ops:Array Oper}{st:List Nat}{C:World->Prop}{a:Array Bool}(h:Run P n Q k e w)(b:Region.ready .any ops a=[]:=by kernel_rfl):RunA P n Q k ops st C 0 a e w:=qyl b h
theorem At{ops:Array Oper}{st:List Nat}{C:World->Prop}{a:Nat}(i j K K':Nat){m K0:Nat}{o f:Oper}(b:(ops[i]?,ops[j]?)=(V o,V f))(g:Run P n Q (.ops ops [o]::.goal (NextA P n Q k ops st C a (bits m K))::k) e w)
  (h:Run P n Q (.ops ops [f]::.goal (NextA P n Q k ops st C a (bits m K'))::k) e w) (c:(bits m K0).setIfInBounds i true=bits m K:=by kernel_rfl) (d:(bits m K0).setIfInBounds j true=bits m K':=by kernel_rfl)
  (l:Region.ready .any ops (bits m K0)=[i,j]:=by kernel_rfl):RunA P n Q k ops st C (a+1) (bits m K0) e w:=by
 simp only[Prod.mk.injEq] at b;exact qyv i j b.1 b.2 _ _ c d l g h
theorem rD{id:Nat}{ops:List Oper}(h:RunD P n Q k ops.toArray w ops e)(b:P.follows .mixedOrders=true:=by rfl)(a:Region.lexB .any ops.toArray=true:=by kernel_rfl):Run P n Q (.code (.region id ops.toArray true)::k) e w:=qx0 b a h
end
section
variable{w:World}{S:Nat->Prop}
theorem pR{α β:Type}{A:GoT α}{B:GoT β}{x:α}{y:β}{c d:List Value}(a:A.R w S x c)(b:B.R w S y d):(pairT A B).R w S (x,y) (c++d):=⟨c,d,rfl,a,b⟩
theorem rI(x:Int):GoT.R w S x [.int .i64 x]:=rfl
theorem rB(x:Bool):GoT.R w S x [.bool x]:=rfl
theorem rT(x:ByteArray):GoT.R w S x [.string x]:=rfl
theorem rS{α:Type}[GoT α]{xs:List α}{p:Option Addr}{c:Nat}(s:SlR w S xs p c):GoT.R w S xs [.slice p xs.length c]:=⟨p,c,rfl,s⟩
end
def callB(P:Program)(f:FuncId):Bool:=match P.funcs[f]? with
 |some fn=>fn.body.isSome&&!(fn.name== "runtime.NumGoroutine")
 |none=>false
theorem qwm{P:Program}{f:FuncId}(h:callB P f=true):qfd P f:=by
 unfold callB at h;split at h
 .rename_i fn hf
  rw[jf,jA] at h;exact⟨fn,hf,h.1,h.2⟩
 .cases h
def res1(e:Env):List ResultVar->Option Value
 | [.tmp t]=>e.get t
 |_=>U
theorem qun{T:Tab}{e:Env}{w:World}{a:List ResultVar}{v:Value}(h:res1 e a=V v):ResOk T e w a [v]:=by
 unfold res1 at h;split at h
 .exact⟨h,G⟩
 .cases h
end Go.Fw
