/- Many steps at once: what only reckons or reads a box of the run's own. -/
import Derived.Test.YtmkldekhhkijdaaGreatDoorFw37
import Derived.KernelRfl
open Option renaming bind_some → jd
open Nat renaming le_refl → je, mul_le_mul_right → jm, le_of_ble_eq_true → jo, lt_of_lt_of_le → jq, succ_mul → jz, zero_add → jJ, zero_le → jK
open Go.Result renaming andThen_ok → jf
open Bool renaming and_eq_true → jg, eq_iff_iff → ji, true_and → jx, not_eq_true' → jD, not_true → jI
open List renaming getElem?_eq_getElem → jh, length_append → jl, mem_cons_of_mem → jn, getElem?_append_left → jp, getElem?_take → jr, mem_cons_self → js, getElem_mem → jt, getElem?_append_right → ju, getD_eq_getElem?_getD → jv, getElem?_toArray → jw, eq_nil_of_length_eq_zero → jy, size_toArray → jA, mem_of_getElem? → jB, length_singleton → jC, length_map → jF, append_assoc → jG, getElem_of_mem → jH
open Go.Sem renaming run_bind → jj, run_pure → jk
open Int renaming toNat_natCast → jE

namespace Go.Fw
open Go
abbrev Ro {α:Type} [GoT α] (w:World) (x:α) (cs:List Value):Prop:=GoT.R w (old w) x cs
def xs (T:Tab) (n:Nat):Nat→List (Nat × List Value)→List It→Env→List Nat→List Nat→Option (List It × Env × List Nat × List Nat)
 | 0,_,k,e,x,y=>some (k,e,x,y)
 | m+1,bs,k,e,x,y=>match k with
  | .code (.seq a b)::k=>xs T n m bs (.code a::.code b::k) e x y
  | .code .skip::k=>xs T n m bs k e x y
  | .code (.block i c)::k=>xs T n m bs (.code c::.blk i::k) e x y
  | .code (.region _ a false)::k=>xs T n m bs (.ops a a.toList::k) e x y
  | .blk _::k=>xs T n m bs k e x y
  | .ops _ []::k=>xs T n m bs k e x y
  | .ops all (⟨some d,op,_,_,_,none⟩::l)::k=>match Nat.blt d n with
   | true=>match op with
    | .load t p=>match opv e p,T.get t,bs with
     | some (.pointer (some ⟨b,o,none⟩)),some te,(b',cs)::bs'=>match ld te cs o with
      | some v=>xs T n m bs' (.ops all l::k) ((d,v)::e) (b::x) (b'::y)
      | none=>none
     | _,_,_=>none
    | op=>match pev T e op with
     | some v=>xs T n m bs (.ops all l::k) ((d,v)::e) x y
     | none=>none
   | false=>none
  | .ops all (⟨dst,op,ty,ps,af,some g⟩::l)::k=>match guardU e all ⟨dst,op,ty,ps,af,some g⟩ with
   | true=>match dst with
    | some d=>match Nat.blt d n with
     | true=>xs T n m bs (.ops all l::k) ((d,undef)::e) x y
     | false=>none
    | none=>none
   | false=>match guardOf e all ⟨dst,op,ty,ps,af,some g⟩ with
    | some true=>xs T n m bs (.ops all (⟨dst,op,ty,ps,af,none⟩::l)::k) e x y
    | some false=>match dst with
     | some d=>match Nat.blt d n with
      | true=>xs T n m bs (.ops all l::k) ((d,undef)::e) x y
      | false=>none
     | none=>none
    | none=>none
  | _=>none
def xd (T:Tab) (n:Nat) (all:Array Oper):Nat→List (Nat × List Value)→List Oper→Env→List Nat→List Nat→Option (List Oper × Env × List Nat × List Nat)
 | 0,_,k,e,x,y=>some (k,e,x,y)
 | m+1,bs,k,e,x,y=>match k with
  | ⟨some d,op,_,_,_,none⟩::l=>match Nat.blt d n with
   | true=>match op with
    | .load t p=>match opv e p,T.get t,bs with
     | some (.pointer (some ⟨b,o,none⟩)),some te,(b',cs)::bs'=>match ld te cs o with
      | some v=>xd T n all m bs' l ((d,v)::e) (b::x) (b'::y)
      | none=>none
     | _,_,_=>none
    | op=>match pev T e op with
     | some v=>xd T n all m bs l ((d,v)::e) x y
     | none=>none
   | false=>none
  | ⟨dst,op,ty,ps,af,some g⟩::l=>match guardU e all ⟨dst,op,ty,ps,af,some g⟩ with
   | true=>match dst with
    | some d=>match Nat.blt d n with
     | true=>xd T n all m bs l ((d,undef)::e) x y
     | false=>none
    | none=>none
   | false=>match guardOf e all ⟨dst,op,ty,ps,af,some g⟩ with
    | some true=>xd T n all m bs (⟨dst,op,ty,ps,af,none⟩::l) e x y
    | some false=>match dst with
     | some d=>match Nat.blt d n with
      | true=>xd T n all m bs l ((d,undef)::e) x y
      | false=>none
     | none=>none
    | none=>none
  | _=>none
section
variable {P:Program} {T:Tab} {n:Nat} {Q:Exit→Act→World→Prop} {k:List It} {e:Env} {w0 w:World} {L:List Ch}
theorem qnu (hT:TabOk P T):∀ (m:Nat) (bs:List (Nat × List Value)) (k:List It) (e:Env) (x y:List Nat) (k':List It) (e':Env) (x' y':List Nat),(∀ p ∈ bs,CellsAt w p.1 0 p.2)→x.length=y.length →
  xs T n m bs k e x y=some (k',e',x',y')→x'.length=y'.length∧(x'=y'→x=y∧(Run P n Q k' e' w→Run P n Q k e w)):=by
 intro m
 induction m with
 | zero =>
  intro bs k e x y k' e' x' y' _ hl h
  simp only [xs,Option.some.injEq,Prod.mk.injEq] at h
  obtain ⟨rfl,rfl,rfl,rfl⟩:=h
  exact ⟨hl,fun hh=>⟨hh,id⟩⟩
 | succ m ih =>
  intro bs k e x y k' e' x' y' hb hl h
  unfold xs at h
  split at h
  ·obtain ⟨h1,h2⟩:=ih _ _ _ _ _ _ _ _ _ hb hl h
   exact ⟨h1,fun hh=>⟨(h2 hh).1,fun hk=>qeu ((h2 hh).2 hk)⟩⟩
  ·obtain ⟨h1,h2⟩:=ih _ _ _ _ _ _ _ _ _ hb hl h
   exact ⟨h1,fun hh=>⟨(h2 hh).1,fun hk=>qe7 ((h2 hh).2 hk)⟩⟩
  ·obtain ⟨h1,h2⟩:=ih _ _ _ _ _ _ _ _ _ hb hl h
   exact ⟨h1,fun hh=>⟨(h2 hh).1,fun hk=>ql ((h2 hh).2 hk)⟩⟩
  ·obtain ⟨h1,h2⟩:=ih _ _ _ _ _ _ _ _ _ hb hl h
   exact ⟨h1,fun hh=>⟨(h2 hh).1,fun hk=>qhh ((h2 hh).2 hk)⟩⟩
  ·obtain ⟨h1,h2⟩:=ih _ _ _ _ _ _ _ _ _ hb hl h
   exact ⟨h1,fun hh=>⟨(h2 hh).1,fun hk=>qqv ((h2 hh).2 hk)⟩⟩
  ·obtain ⟨h1,h2⟩:=ih _ _ _ _ _ _ _ _ _ hb hl h
   exact ⟨h1,fun hh=>⟨(h2 hh).1,fun hk=>qdy ((h2 hh).2 hk)⟩⟩
  ·split at h
   ·rename_i hn
    split at h
    ·split at h
     ·rename_i hx hte
      split at h
      ·rename_i v hv
       have hb':=fun p hp=>hb p (jn _ hp)
       obtain ⟨h1,h2⟩:=ih _ _ _ _ _ _ _ _ _ hb' (by simp [hl]) h
       refine ⟨h1,fun hh=>?_⟩
       obtain ⟨h3,h4⟩:=h2 hh
       obtain ⟨rfl,rfl⟩:=List.cons.inj h3
       exact ⟨rfl,fun hk=>r_v (qhN hT (hb _ (js ..)) (by rw [jJ];exact hx) hte hv) hn (h4 hk)⟩
      ·cases h
     ·cases h
    ·split at h
     ·rename_i v hv
      obtain ⟨h1,h2⟩:=ih _ _ _ _ _ _ _ _ _ hb hl h
      exact ⟨h1,fun hh=>⟨(h2 hh).1,fun hk=>r_v (v_p hT hv w) hn ((h2 hh).2 hk)⟩⟩
     ·cases h
   ·cases h
  ·split at h
   ·rename_i hg
    split at h
    ·split at h
     ·rename_i hn
      obtain ⟨h1,h2⟩:=ih _ _ _ _ _ _ _ _ _ hb hl h
      exact ⟨h1,fun hh=>⟨(h2 hh).1,fun hk=>qpU (by unfold notW;rw [hg];rfl) rfl hn ((h2 hh).2 hk)⟩⟩
     ·cases h
    ·cases h
   ·split at h
    ·rename_i hg
     obtain ⟨h1,h2⟩:=ih _ _ _ _ _ _ _ _ _ hb hl h
     exact ⟨h1,fun hh=>⟨(h2 hh).1,fun hk=>qoR hg ((h2 hh).2 hk)⟩⟩
    ·rename_i hg
     split at h
     ·split at h
      ·rename_i hn
       obtain ⟨h1,h2⟩:=ih _ _ _ _ _ _ _ _ _ hb hl h
       exact ⟨h1,fun hh=>⟨(h2 hh).1,fun hk=>qpU (by unfold notW;rw [hg,Bool.or_true]) rfl hn ((h2 hh).2 hk)⟩⟩
      ·cases h
     ·cases h
    ·cases h
  ·cases h
theorem qpX (hT:TabOk P T) {all:Array Oper}:∀ (m:Nat) (bs:List (Nat × List Value)) (l:List Oper) (e:Env) (x y:List Nat) (l':List Oper) (e':Env) (x' y':List Nat),(∀ p ∈ bs,CellsAt w p.1 0 p.2)→x.length=y.length →
  xd T n all m bs l e x y=some (l',e',x',y')→x'.length=y'.length∧(x'=y'→x=y∧(RunD P n Q k all w l' e'→RunD P n Q k all w l e)):=by
 intro m
 induction m with
 | zero =>
  intro bs l e x y l' e' x' y' _ hl h
  simp only [xd,Option.some.injEq,Prod.mk.injEq] at h
  obtain ⟨rfl,rfl,rfl,rfl⟩:=h
  exact ⟨hl,fun hh=>⟨hh,id⟩⟩
 | succ m ih =>
  intro bs l e x y l' e' x' y' hb hl h
  unfold xd at h
  split at h
  ·split at h
   ·rename_i hn
    split at h
    ·split at h
     ·rename_i hx hte
      split at h
      ·rename_i v hv
       have hb':=fun p hp=>hb p (jn _ hp)
       obtain ⟨h1,h2⟩:=ih _ _ _ _ _ _ _ _ _ hb' (by simp [hl]) h
       refine ⟨h1,fun hh=>?_⟩
       obtain ⟨h3,h4⟩:=h2 hh
       obtain ⟨rfl,rfl⟩:=List.cons.inj h3
       exact ⟨rfl,fun hk=>d_v (fun w' hw=>qhN hT ((hb _ (js ..)).below hw) (by rw [jJ];exact hx) hte hv) hn (h4 hk)⟩
      ·cases h
     ·cases h
    ·split at h
     ·rename_i v hv
      obtain ⟨h1,h2⟩:=ih _ _ _ _ _ _ _ _ _ hb hl h
      exact ⟨h1,fun hh=>⟨(h2 hh).1,fun hk=>d_v (fun w' _=>v_p hT hv w') hn ((h2 hh).2 hk)⟩⟩
     ·cases h
   ·cases h
  ·split at h
   ·rename_i hg
    split at h
    ·split at h
     ·rename_i hn
      obtain ⟨h1,h2⟩:=ih _ _ _ _ _ _ _ _ _ hb hl h
      exact ⟨h1,fun hh=>⟨(h2 hh).1,fun hk=>qpS (by unfold notW;rw [hg];rfl) rfl hn ((h2 hh).2 hk)⟩⟩
     ·cases h
    ·cases h
   ·split at h
    ·rename_i hg
     obtain ⟨h1,h2⟩:=ih _ _ _ _ _ _ _ _ _ hb hl h
     exact ⟨h1,fun hh=>⟨(h2 hh).1,fun hk=>qoB hg ((h2 hh).2 hk)⟩⟩
    ·rename_i hg
     split at h
     ·split at h
      ·rename_i hn
       obtain ⟨h1,h2⟩:=ih _ _ _ _ _ _ _ _ _ hb hl h
       exact ⟨h1,fun hh=>⟨(h2 hh).1,fun hk=>qpS (by unfold notW;rw [hg,Bool.or_true]) rfl hn ((h2 hh).2 hk)⟩⟩
      ·cases h
     ·cases h
    ·cases h
  ·cases h
end
def bits (m K:Nat):Array Bool:=((List.range m).map fun i=>K.testBit i).toArray
theorem qnM {m:Nat}:Array.replicate m false=bits m 0:=by
 unfold bits
 apply Array.ext'
 simp only [Nat.zero_testBit,Array.toList_replicate]
 exact List.ext_getElem (by simp) (by simp)
def xa (T:Tab) (n:Nat) (ops:Array Oper):List Nat→List (Nat × List Value)→Nat→Env→List Nat→List Nat→Option (Nat × Env × List Nat × List Nat)
 | [],_,f,e,x,y=>some (f,e,x,y)
 | i::is,bs,f,e,x,y=>match f with
  | 0=>none
  | f+1=>match ops[i]? with
   | some ⟨some d,op,_,_,_,none⟩=>match Nat.blt d n with
    | true=>match op with
     | .load t p=>match opv e p,T.get t,bs with
      | some (.pointer (some ⟨b,o,none⟩)),some te,(b',cs)::bs'=>match ld te cs o with
       | some v=>xa T n ops is bs' f ((d,v)::e) (b::x) (b'::y)
       | none=>none
      | _,_,_=>none
     | op=>match pev T e op with
      | some v=>xa T n ops is bs f ((d,v)::e) x y
      | none=>none
    | false=>none
   | _=>none
def oka (ops:Array Oper) (st:List Nat):List Nat→Array Bool→Array Bool→Bool
 | [],l,l'=>l==l'
 | i::is,l,l'=>(Region.noSelect ops&&Region.free .any ops l i&&(Region.ready .any ops l).contains i&&st.all (fun s=>!(Nat.beq s i)&&waitsB ops i s&&!(l.getD s true)))&&oka ops st is (l.setIfInBounds i true) l'
section
variable {P:Program} {T:Tab} {n:Nat} {fnc:Func} {R:Ending→World→Prop} {k:List It} {e:Env} {w0 w:World} {ops:Array Oper} {st:List Nat} {C:World→Prop}
theorem qnn (hT:TabOk P T) (hC:C w):∀ (is:List Nat) (bs:List (Nat × List Value)) (f:Nat) (e:Env) (x y:List Nat) (f':Nat) (e':Env) (x' y':List Nat) (l l':Array Bool),(∀ p ∈ bs,∀ w',C w'→CellsAt w' p.1 0 p.2)→x.length=y.length →
  xa T n ops is bs f e x y=some (f',e',x',y')→oka ops st is l l'=true→x'.length=y'.length∧(x'=y'→x=y∧(RunA P n (bodyPost P fnc R) k ops st C f' l' e' w→RunA P n (bodyPost P fnc R) k ops st C f l e w)):=by
 intro is
 induction is with
 | nil =>
  intro bs f e x y f' e' x' y' l l' _ hl h ho
  simp only [xa,Option.some.injEq,Prod.mk.injEq] at h
  obtain ⟨rfl,rfl,rfl,rfl⟩:=h
  obtain rfl:=eq_of_beq ho
  exact ⟨hl,fun hh=>⟨hh,id⟩⟩
 | cons i is ih =>
  intro bs f e x y f' e' x' y' l l' hb hl h ho
  unfold oka at ho
  rw [jg] at ho
  obtain ⟨ho1,ho2⟩:=ho
  unfold xa at h
  split at h
  ·cases h
  ·split at h
   ·rename_i hi
    split at h
    ·rename_i hn
     split at h
     ·split at h
      ·rename_i hx hte
       split at h
       ·rename_i v hv
        have hb':=fun p hp=>hb p (jn _ hp)
        obtain ⟨h1,h2⟩:=ih _ _ _ _ _ _ _ _ _ _ _ hb' (by simp [hl]) h ho2
        refine ⟨h1,fun hh=>?_⟩
        obtain ⟨h3,h4⟩:=h2 hh
        obtain ⟨rfl,rfl⟩:=List.cons.inj h3
        exact ⟨rfl,fun hk=>qk1 i hi _ rfl ho1 (fun w' hw'=>qhN hT (hb _ (js ..) w' hw') (by rw [jJ];exact hx) hte hv) hC hn (h4 hk)⟩
       ·cases h
      ·cases h
     ·split at h
      ·rename_i v hv
       obtain ⟨h1,h2⟩:=ih _ _ _ _ _ _ _ _ _ _ _ hb hl h ho2
       exact ⟨h1,fun hh=>⟨(h2 hh).1,fun hk=>qk1 i hi _ rfl ho1 (fun w' _=>v_p hT hv w') hC hn ((h2 hh).2 hk)⟩⟩
      ·cases h
    ·cases h
   ·cases h
end
def gets (e:Env):Env→Option Env
 | []=>some []
 | p::l=>match e.get p.1,gets e l with
  | some v,some r=>some ((p.1,v)::r)
  | _,_=>none
theorem qkk {e:Env}:∀ {e':Env},gets e e'=some e'→subEnv e e'
 | [],_=>trivial
 | p::l,h=>by
  unfold gets at h
  split at h
  ·rename_i v r hv hr
   have h:=List.cons.inj (Option.some.inj h)
   refine ⟨?_,qkk (by rw [hr,h.2])⟩
   rw [hv,←h.1]
  ·cases h
def pickN (L:List Ch):List Nat→Option (List Ch)
 | []=>some []
 | i::is=>match L[i]?,pickN L is with
  | some c,some l=>some (c::l)
  | _,_=>none
def setN:List Ch→Nat→Ch→Option (List Ch)
 | [],_,_=>some []
 | _::l,0,c=>some (c::l)
 | a::l,i+1,c=>match setN l i c with
  | some r=>some (a::r)
  | none=>none
theorem qnm:∀ {L:List Ch} {i:Nat} {c:Ch} {L':List Ch},setN L i c=some L'→L.set i c=L'
 | [],_,_,_,h=>by simpa [setN] using h
 | _::_,0,_,_,h=>by simpa [setN] using h
 | a::l,i+1,c,L',h=>by
  unfold setN at h
  split at h
  ·rename_i r hr
   rw [List.set_cons_succ,qnm hr]
   exact Option.some.inj h
  ·cases h
def splN:List Value→Nat→List Value→Option (List Value)
 | cs,0,[]=>some cs
 | [],_,_=>none
 | _::cs,0,u::us=>match splN cs 0 us with
  | some r=>some (u::r)
  | none=>none
 | c::cs,j+1,us=>match splN cs j us with
  | some r=>some (c::r)
  | none=>none
theorem qlR:∀ {cs:List Value} {j:Nat} {us r:List Value},splN cs j us=some r→splice cs j us=r
 | cs,0,[],r,h=>by
  have h:cs=r:=by cases cs<;>simpa [splN] using h
  subst h;simp [splice]
 | [],0,_::_,_,h=>by simp [splN] at h
 | [],_+1,_,_,h=>by simp [splN] at h
 | c::cs,0,u::us,r,h=>by
  unfold splN at h
  split at h
  ·rename_i q hq
   have:=qlR hq
   obtain rfl:=Option.some.inj h
   rw [←this]
   simp [splice]
  ·cases h
 | c::cs,j+1,us,r,h=>by
  unfold splN at h
  split at h
  ·rename_i q hq
   have:=qlR hq
   obtain rfl:=Option.some.inj h
   rw [←this]
   simp [splice,Nat.add_right_comm]
  ·cases h
section
variable {P:Program} {T:Tab} {n:Nat} {Q:Exit→Act→World→Prop} {k:List It} {e:Env} {w0 w:World} {L:List Ch} {all:Array Oper}
theorem dN (h:SH w0 w L) (hk:∀ w',SH w0 w' L→Run P n Q k e w'):RunD P n Q k all w [] e:=qqw fun w' hb=>hk w' (h.ext hb)
theorem rK {Inv:Nat→Env→World→Prop} {m:Nat} {e':Env} (h:Inv m e' w) (hs:gets e e'=some e'):Run P n Q (.goal (Back n Inv (m+1))::k) e w:=qqi m e' (Nat.lt_succ_self m) (qkk hs) h
theorem rG {J:Env→World→Prop} {e':Env} (h:J e' w) (hs:gets e e'=some e'):Run P n Q (.goal (CutJ n J)::k) e w:=qn6 e' (qkk hs) h
theorem rL {b:Code} (Inv:Nat→Env→World→Prop) (m:Nat) {e':Env} (h:Inv m e' w) (hs:gets e e'=some e') (round:∀ m e w,Inv m e w→Run P n Q (.code b::.goal (Back n Inv m)::k) e w):Run P n Q (.code (.loop b)::k) e w :=
 qqs e' (qkk hs) (qqf Inv m h round)
theorem rA {id:Nat} {ops:List Oper} (st is:List Nat) {m:Nat} {L':List Ch} (h:SH w0 w L) (hh:(pickN L is,ops.length,P.follows .mixedOrders)=(some L',m,true))
  (hk:∀ w',SH w0 w' L→RunA P n Q k ops.toArray st (fun w'=>SH w0 w' L') m (bits m 0) e w'):Run P n Q (.code (.region id ops.toArray true)::k) e w:=by
 simp only [Prod.mk.injEq] at hh
 exact qqt st _ hh.2.2 m (by simpa using hh.2.1) _ qnM fun w' hb=>hk w' (h.ext hb)
theorem Ag {ops:Array Oper} {st:List Nat} {C:World→Prop} {fuel:Nat} {listed:Array Bool} {all:Array Oper} (hC:C w) (h:RunA P n Q k ops st C fuel listed e w):Run P n Q (.ops all []::.goal (NextA P n Q k ops st C fuel listed)::k) e w:=qgz (fun _=>hC) h
theorem Ao {ops:Array Oper} {st:List Nat} {C:World→Prop} {fuel:Nat} (i K:Nat) {m K0:Nat} {o:Oper} (hi:ops[i]?=some o) (h:Run P n Q (.ops ops [o]::.goal (NextA P n Q k ops st C fuel (bits m K))::k) e w)
  (hl:(bits m K0).setIfInBounds i true=bits m K:=by kernel_rfl) (hr:Region.ready .any ops (bits m K0)=[i]:=by kernel_rfl):RunA P n Q k ops st C (fuel+1) (bits m K0) e w:=qqe i hi _ hl hr h
theorem Ad {ops:Array Oper} {st:List Nat} {C:World→Prop} {listed:Array Bool} (h:Run P n Q k e w) (hr:Region.ready .any ops listed=[]:=by kernel_rfl):RunA P n Q k ops st C 0 listed e w:=qqo hr h
theorem At {ops:Array Oper} {st:List Nat} {C:World→Prop} {fuel:Nat} (i j K K':Nat) {m K0:Nat} {o o':Oper} (hh:(ops[i]?,ops[j]?)=(some o,some o')) (h1:Run P n Q (.ops ops [o]::.goal (NextA P n Q k ops st C fuel (bits m K))::k) e w)
  (h2:Run P n Q (.ops ops [o']::.goal (NextA P n Q k ops st C fuel (bits m K'))::k) e w) (hl1:(bits m K0).setIfInBounds i true=bits m K:=by kernel_rfl) (hl2:(bits m K0).setIfInBounds j true=bits m K':=by kernel_rfl)
  (hr:Region.ready .any ops (bits m K0)=[i,j]:=by kernel_rfl):RunA P n Q k ops st C (fuel+1) (bits m K0) e w:=by
 simp only [Prod.mk.injEq] at hh
 exact qqy i j hh.1 hh.2 _ _ hl1 hl2 hr h1 h2
theorem rD {id:Nat} {ops:List Oper} (h:RunD P n Q k ops.toArray w ops e) (hm:P.follows .mixedOrders=true:=by rfl) (hB:Region.lexB .any ops.toArray=true:=by kernel_rfl):Run P n Q (.code (.region id ops.toArray true)::k) e w:=qqm hm hB h
end
section
variable {w:World} {S:Nat→Prop}
theorem pR {α β:Type} {A:GoT α} {B:GoT β} {x:α} {y:β} {c d:List Value} (h1:A.R w S x c) (h2:B.R w S y d):(pairT A B).R w S (x,y) (c++d):=⟨c,d,rfl,h1,h2⟩
theorem rI (x:Int):GoT.R w S x [.int .i64 x]:=rfl
theorem rB (x:Bool):GoT.R w S x [.bool x]:=rfl
theorem rT (x:ByteArray):GoT.R w S x [.string x]:=rfl
theorem rS {α:Type} [GoT α] {xs:List α} {p:Option Addr} {c:Nat} (s:SlR w S xs p c):GoT.R w S xs [.slice p xs.length c]:=⟨p,c,rfl,s⟩
end
def callB (P:Program) (f:FuncId):Bool:=match P.funcs[f]? with
 | some fn=>fn.body.isSome&&!(fn.name== "runtime.NumGoroutine")
 | none=>false
theorem qoX {P:Program} {f:FuncId} (h:callB P f=true):qd9 P f:=by
 unfold callB at h
 split at h
 ·rename_i fn hf
  rw [jg,jD] at h
  exact ⟨fn,hf,h.1,h.2⟩
 ·cases h
def res1 (e:Env):List ResultVar→Option Value
 | [.tmp t]=>e.get t
 | _=>none
theorem qnr {T:Tab} {e:Env} {w:World} {rs:List ResultVar} {v:Value} (h:res1 e rs=some v):ResOk T e w rs [v]:=by
 unfold res1 at h
 split at h
 ·exact ⟨h,trivial⟩
 ·cases h
end Go.Fw
