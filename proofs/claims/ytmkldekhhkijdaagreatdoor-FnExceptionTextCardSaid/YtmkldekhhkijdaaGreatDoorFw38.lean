/- Rows of the run's own whose elements read what stood before: appends. -/
import Derived.Test.YtmkldekhhkijdaaGreatDoorFw33
import Derived.KernelRfl
open Option renaming bind_some → je
open Nat renaming le_refl → jf, le_of_ble_eq_true → js, mul_le_mul_right → jt, lt_of_lt_of_le → jw, zero_le → jB, succ_mul → jJ, le_trans → jV, zero_add → jW
open List renaming length_append → jg, length_singleton → ji, mem_cons_of_mem → jk, getElem?_eq_getElem → jm, mem_cons_self → jq, getElem_mem → jr, mem_of_getElem? → ju, length_cons → jv, getD_eq_getElem?_getD → jx, length_map → jy, not_mem_nil → jA, getElem?_append_left → jD, drop_eq_getElem_cons → jE, getElem?_take → jF, eq_nil_of_length_eq_zero → jG, append_assoc → jI, getElem?_toArray → jK, getElem?_append_right → jL, mem_cons → jM, size_toArray → jO, getElem_of_mem → jQ, append_nil → jR, all_eq_true → jS, take_length → jT
open Bool renaming and_eq_true → jh, eq_iff_iff → jp, true_and → jC, not_eq_true' → jH, not_true → jU
open Go.Result renaming andThen_ok → jj
open Go.Sem renaming run_bind → jl, run_pure → jo
open Int renaming toNat_natCast → jz
open Array renaming length_toList → jN, getElem?_append_left → jP

namespace Go.Fw
open Go
open Go.RowKit (Below)
section
variable {P:Program} {T:Tab} {n:Nat} {Q:Exit→Act→World→Prop} {k:List It} {e:Env} {w0 w:World} {L:List Ch}
variable {α:Type} [GoT α] {S S1:Nat→Prop} {xs ys:List α} {p p':Option Addr} {c c':Nat}
def Rd (w0:World) (xs:List α) (rs:List (Raw α)):Prop:=rs.length=xs.length∧∀ (i:Nat) (x:α) (r:Raw α),xs[i]?=some x→rs[i]?=some r→GoT.R w0 (Fw.old w0) x r.cs
theorem Rd.app {rs qs:List (Raw α)} (h1:Rd w0 xs rs) (h2:Rd w0 ys qs):Rd w0 (xs++ys) (rs++qs):=by
 refine ⟨by simp [h1.1,h2.1],fun i x r hx hr=>?_⟩
 by_cases hi:i<xs.length
 ·rw [jD hi] at hx
  rw [jD (by rw [h1.1];exact hi)] at hr
  exact h1.2 i x r hx hr
 ·rw [jL (by omega)] at hx
  rw [jL (by rw [h1.1];omega),h1.1] at hr
  exact h2.2 _ x r hx hr
abbrev SH.wc (_:SH w0 w L):World:=w
theorem SH.back {w1:World} {L2:List Ch} (hL:SH w0 w1 L) (h:SH w1 w L2) (hD:NoD L2):SH w0 w (L2++L):=by
 have hu:=h.unbase hL.below hD
 have hlt:∀ c ∈ L,∀ b,c.S b→b<w1.heap.size:=fun c hc b hb=>((hL.holds c hc).2 b hb).2
 refine ⟨hu.below,fun c hc=>?_,fun c hc=>?_,List.pairwise_append.2 ⟨h.apart,hL.apart,fun c hc d hd b hb hb2=>?_⟩⟩
 ·rcases List.mem_append.1 hc with hc|hc
  ·exact hu.holds c hc
  ·refine ⟨c.loc w1 w (fun b hb=>h.below.block b (hlt c hc b hb)) (fun b hb=>h.below.block b (jw (hL.elder c hc b hb) hL.below.size)) (hL.holds c hc).1,fun b hb=>?_⟩
   have:=(hL.holds c hc).2 b hb
   exact ⟨this.1,jw this.2 h.below.size⟩
 ·rcases List.mem_append.1 hc with hc|hc
  ·exact hu.elder c hc
  ·exact hL.elder c hc
 ·have h1:=((h.holds c hc).2 b hb).1
  have h2:=hlt d hd b hb2
  omega
theorem qi {β:Type} {f g:Option β} {r:β} {c:Bool} {t:Nat} (hF:(bif c then f else g)=some r) (ht:e.get t=some (.bool c)) (h1:f=some r→Run P n Q k ((t,.bool true)::e) w) (h2:g=some r→Run P n Q k ((t,.bool false)::e) w):Run P n Q k e w:=by
 cases c
 ·exact qqV rfl ht (h2 hF)
 ·exact qqM rfl ht (h1 hF)
theorem qaD {β:Type} {f g:Option β} {r:β} {c:Bool} {t:Nat} {all:Array Oper} {l:List Oper} (hF:(bif c then f else g)=some r) (ht:e.get t=some (.bool c)) (h1:f=some r→RunD P n Q k all w l ((t,.bool true)::e)) (h2:g=some r→RunD P n Q k all w l ((t,.bool false)::e)):RunD P n Q k all w l e:=by
 cases c
 ·exact qqy rfl ht (h2 hF)
 ·exact qqK rfl ht (h1 hF)
theorem qn4 {β:Type} {f g:Option β} {r:β} {c:Bool} {t:Nat} {ops:Array Oper} {st:List Nat} {C:World→Prop} {fuel:Nat} {listed:Array Bool} (hF:(bif c then f else g)=some r) (ht:e.get t=some (.bool c)) (h1:f=some r→RunA P n Q k ops st C fuel listed ((t,.bool true)::e) w) (h2:g=some r→RunA P n Q k ops st C fuel listed ((t,.bool false)::e) w):RunA P n Q k ops st C fuel listed e w:=by
 cases c
 ·exact qqH rfl ht (h2 hF)
 ·exact qqP rfl ht (h1 hF)
theorem SlR.ix {β:Type} {A:Nat→Prop} {i:Int} {f:α→Option β} {r:β} (h:SlR w A xs p c) (hF:(idx xs i).bind f=some r) :
  ∃ y,idx xs i=some y∧f y=some r∧(0≤i∧i<xs.length∧xs[i.toNat]?=some y)∧∃ b o q cs,p=some ⟨b,o,none⟩∧q=o+i.toNat*GoT.k α∧GoT.R w A y cs∧CellsAt w b q cs:=by
 obtain ⟨y,hy,hF⟩:=qe hF
 obtain ⟨b,o,q,cs,h1,h2,_,h3,h4⟩:=h.at hy
 exact ⟨y,hy,hF,qax hy,b,o,q,cs,h1,h2,h3,h4⟩
end
end Go.Fw


namespace Go.Fw
open Go
structure IsRoot (x w:Int):Prop where
 pos:0≤w
 lo:w*w≤x
 hi:x<(w+1)*(w+1)
theorem qqn {a b:Int} (h0:0≤a) (h:a≤b):a*a≤b*b:=Int.mul_le_mul h h h0 (Int.le_trans h0 h)
theorem IsRoot.uniq {x w v:Int} (h:IsRoot x w) (g:IsRoot x v):w=v:=by
 have h0:=h.pos
 have g0:=g.pos
 have h1:=h.lo
 have h2:=h.hi
 have g1:=g.lo
 have g2:=g.hi
 rcases Int.lt_trichotomy w v with hh|hh|hh
 ·have:=qqn (show 0≤w+1 by omega) (show w+1≤v by omega);omega
 ·exact hh
 ·have:=qqn (show 0≤v+1 by omega) (show v+1≤w by omega);omega
end Go.Fw


namespace Go.Fw
open Go
section
variable {L:Nat} {fr to:Nat→Int} {lv:Nat→Bool}
def inN (L:Nat) (fr to:Nat→Int) (lv:Nat→Bool) (R:List Nat) (k:Nat):Nat:=cntP (fun x=>lv x&&(to x==(k:Int)&&!decide (fr x ∈ ints R))) L
def Closed (L:Nat) (fr to:Nat→Int) (lv:Nat→Bool) (R:List Nat):Prop:=∀ x,x<L→lv x=true→to x ∈ ints R→fr x ∈ ints R
theorem qpE {R:List Nat} {k:Nat}:inN L fr to lv R k=0↔∀ x,x<L→lv x=true→to x=(k:Int)→fr x ∈ ints R:=by
 unfold inN
 rw [qkb]
 constructor
 ·intro h x hx h1 h2
  have:=h x hx
  rw [h1,h2] at this
  simpa using this
 ·intro h x hx
  cases h1:lv x
  ·rfl
  ·by_cases h2:to x=(k:Int)
   ·have:=h x hx h1 h2
    simp [this]
   ·simp [h2]
theorem Closed.snoc {R:List Nat} {k:Nat} (h:Closed L fr to lv R) (hk:inN L fr to lv R k=0):Closed L fr to lv (R++[k]):=by
 intro x hx h1 h2
 rw [ql1] at h2 ⊢
 rcases List.mem_append.1 h2 with h2|h2
 ·exact List.mem_append_left _ (h x hx h1 h2)
 ·exact List.mem_append_left _ (qpE.1 hk x hx h1 (List.mem_singleton.1 h2))
theorem Closed.nil:Closed L fr to lv []:=fun _ _ _ h=>by simp [ints] at h
end
end Go.Fw


namespace Go.Fw
open Go
open Go.RowKit (Below)
section
variable {P:Program} {T:Tab} {n:Nat} {e:Env} {w:World}
end
end Go.Fw


namespace Go.Fw
open Go
def xs (T:Tab) (n:Nat):Nat→List (Nat × List Value)→List It→Env→List Nat→List Nat→Option (List It × Env × List Nat × List Nat)
 | 0,_,k,e,x,y=>some (k,e,x,y)
 | m+1,bs,k,e,x,y=>match k with
  | .code (.seq a b)::k=>xs T n m bs (.code a::.code b::k) e x y
  | .code .skip::k=>xs T n m bs k e x y
  | .code (.block i c)::k=>xs T n m bs (.code c::.blk i::k) e x y
  | .code (.region _ a false)::k=>xs T n m bs (.ops a a.toList::k) e x y
  | .blk _::k=>xs T n m bs k e x y
  | .ops _ []::k=>xs T n m bs k e x y
  | .ops all (⟨some d,op,_,_,_,none⟩::l)::k=>match Nat.blt d n with
   | true=>match op with
    | .load t p=>match opv e p,T.get t,bs with
     | some (.pointer (some ⟨b,o,none⟩)),some te,(b',cs)::bs'=>match ld te cs o with
      | some v=>xs T n m bs' (.ops all l::k) ((d,v)::e) (b::x) (b'::y)
      | none=>none
     | _,_,_=>none
    | op=>match pev T e op with
     | some v=>xs T n m bs (.ops all l::k) ((d,v)::e) x y
     | none=>none
   | false=>none
  | .ops all (⟨dst,op,ty,ps,af,some g⟩::l)::k=>match guardU e all ⟨dst,op,ty,ps,af,some g⟩ with
   | true=>match dst with
    | some d=>match Nat.blt d n with
     | true=>xs T n m bs (.ops all l::k) ((d,undef)::e) x y
     | false=>none
    | none=>none
   | false=>match guardOf e all ⟨dst,op,ty,ps,af,some g⟩ with
    | some true=>xs T n m bs (.ops all (⟨dst,op,ty,ps,af,none⟩::l)::k) e x y
    | some false=>match dst with
     | some d=>match Nat.blt d n with
      | true=>xs T n m bs (.ops all l::k) ((d,undef)::e) x y
      | false=>none
     | none=>none
    | none=>none
  | _=>none
def xd (T:Tab) (n:Nat) (all:Array Oper):Nat→List (Nat × List Value)→List Oper→Env→List Nat→List Nat→Option (List Oper × Env × List Nat × List Nat)
 | 0,_,k,e,x,y=>some (k,e,x,y)
 | m+1,bs,k,e,x,y=>match k with
  | ⟨some d,op,_,_,_,none⟩::l=>match Nat.blt d n with
   | true=>match op with
    | .load t p=>match opv e p,T.get t,bs with
     | some (.pointer (some ⟨b,o,none⟩)),some te,(b',cs)::bs'=>match ld te cs o with
      | some v=>xd T n all m bs' l ((d,v)::e) (b::x) (b'::y)
      | none=>none
     | _,_,_=>none
    | op=>match pev T e op with
     | some v=>xd T n all m bs l ((d,v)::e) x y
     | none=>none
   | false=>none
  | ⟨dst,op,ty,ps,af,some g⟩::l=>match guardU e all ⟨dst,op,ty,ps,af,some g⟩ with
   | true=>match dst with
    | some d=>match Nat.blt d n with
     | true=>xd T n all m bs l ((d,undef)::e) x y
     | false=>none
    | none=>none
   | false=>match guardOf e all ⟨dst,op,ty,ps,af,some g⟩ with
    | some true=>xd T n all m bs (⟨dst,op,ty,ps,af,none⟩::l) e x y
    | some false=>match dst with
     | some d=>match Nat.blt d n with
      | true=>xd T n all m bs l ((d,undef)::e) x y
      | false=>none
     | none=>none
    | none=>none
  | _=>none
section
variable {P:Program} {T:Tab} {n:Nat} {Q:Exit→Act→World→Prop} {k:List It} {e:Env} {w0 w:World} {L:List Ch}
theorem qmW (hT:TabOk P T):∀ (m:Nat) (bs:List (Nat × List Value)) (k:List It) (e:Env) (x y:List Nat) (k':List It) (e':Env) (x' y':List Nat),(∀ p ∈ bs,CellsAt w p.1 0 p.2)→x.length=y.length →
  xs T n m bs k e x y=some (k',e',x',y')→x'.length=y'.length∧(x'=y'→x=y∧(Run P n Q k' e' w→Run P n Q k e w)):=by
 intro m
 induction m with
 | zero =>
  intro bs k e x y k' e' x' y' _ hl h
  simp only [xs,Option.some.injEq,Prod.mk.injEq] at h
  obtain ⟨rfl,rfl,rfl,rfl⟩:=h
  exact ⟨hl,fun hh=>⟨hh,id⟩⟩
 | succ m ih =>
  intro bs k e x y k' e' x' y' hb hl h
  unfold xs at h
  split at h
  ·obtain ⟨h1,h2⟩:=ih _ _ _ _ _ _ _ _ _ hb hl h
   exact ⟨h1,fun hh=>⟨(h2 hh).1,fun hk=>qeK ((h2 hh).2 hk)⟩⟩
  ·obtain ⟨h1,h2⟩:=ih _ _ _ _ _ _ _ _ _ hb hl h
   exact ⟨h1,fun hh=>⟨(h2 hh).1,fun hk=>qcV ((h2 hh).2 hk)⟩⟩
  ·obtain ⟨h1,h2⟩:=ih _ _ _ _ _ _ _ _ _ hb hl h
   exact ⟨h1,fun hh=>⟨(h2 hh).1,fun hk=>qq ((h2 hh).2 hk)⟩⟩
  ·obtain ⟨h1,h2⟩:=ih _ _ _ _ _ _ _ _ _ hb hl h
   exact ⟨h1,fun hh=>⟨(h2 hh).1,fun hk=>qhC ((h2 hh).2 hk)⟩⟩
  ·obtain ⟨h1,h2⟩:=ih _ _ _ _ _ _ _ _ _ hb hl h
   exact ⟨h1,fun hh=>⟨(h2 hh).1,fun hk=>qq2 ((h2 hh).2 hk)⟩⟩
  ·obtain ⟨h1,h2⟩:=ih _ _ _ _ _ _ _ _ _ hb hl h
   exact ⟨h1,fun hh=>⟨(h2 hh).1,fun hk=>qa5 ((h2 hh).2 hk)⟩⟩
  ·split at h
   ·rename_i hn
    split at h
    ·split at h
     ·rename_i hx hte
      split at h
      ·rename_i v hv
       have hb':=fun p hp=>hb p (jk _ hp)
       obtain ⟨h1,h2⟩:=ih _ _ _ _ _ _ _ _ _ hb' (by simp [hl]) h
       refine ⟨h1,fun hh=>?_⟩
       obtain ⟨h3,h4⟩:=h2 hh
       obtain ⟨rfl,rfl⟩:=List.cons.inj h3
       exact ⟨rfl,fun hk=>r_v (qeJ hT (hb _ (jq ..)) (by rw [jW];exact hx) hte hv) hn (h4 hk)⟩
      ·cases h
     ·cases h
    ·split at h
     ·rename_i v hv
      obtain ⟨h1,h2⟩:=ih _ _ _ _ _ _ _ _ _ hb hl h
      exact ⟨h1,fun hh=>⟨(h2 hh).1,fun hk=>r_v (v_p hT hv w) hn ((h2 hh).2 hk)⟩⟩
     ·cases h
   ·cases h
  ·split at h
   ·rename_i hg
    split at h
    ·split at h
     ·rename_i hn
      obtain ⟨h1,h2⟩:=ih _ _ _ _ _ _ _ _ _ hb hl h
      exact ⟨h1,fun hh=>⟨(h2 hh).1,fun hk=>qql (by unfold notW;rw [hg];rfl) rfl hn ((h2 hh).2 hk)⟩⟩
     ·cases h
    ·cases h
   ·split at h
    ·rename_i hg
     obtain ⟨h1,h2⟩:=ih _ _ _ _ _ _ _ _ _ hb hl h
     exact ⟨h1,fun hh=>⟨(h2 hh).1,fun hk=>qpc hg ((h2 hh).2 hk)⟩⟩
    ·rename_i hg
     split at h
     ·split at h
      ·rename_i hn
       obtain ⟨h1,h2⟩:=ih _ _ _ _ _ _ _ _ _ hb hl h
       exact ⟨h1,fun hh=>⟨(h2 hh).1,fun hk=>qql (by unfold notW;rw [hg,Bool.or_true]) rfl hn ((h2 hh).2 hk)⟩⟩
      ·cases h
     ·cases h
    ·cases h
  ·cases h
theorem qqm (hT:TabOk P T) {all:Array Oper}:∀ (m:Nat) (bs:List (Nat × List Value)) (l:List Oper) (e:Env) (x y:List Nat) (l':List Oper) (e':Env) (x' y':List Nat),(∀ p ∈ bs,CellsAt w p.1 0 p.2)→x.length=y.length →
  xd T n all m bs l e x y=some (l',e',x',y')→x'.length=y'.length∧(x'=y'→x=y∧(RunD P n Q k all w l' e'→RunD P n Q k all w l e)):=by
 intro m
 induction m with
 | zero =>
  intro bs l e x y l' e' x' y' _ hl h
  simp only [xd,Option.some.injEq,Prod.mk.injEq] at h
  obtain ⟨rfl,rfl,rfl,rfl⟩:=h
  exact ⟨hl,fun hh=>⟨hh,id⟩⟩
 | succ m ih =>
  intro bs l e x y l' e' x' y' hb hl h
  unfold xd at h
  split at h
  ·split at h
   ·rename_i hn
    split at h
    ·split at h
     ·rename_i hx hte
      split at h
      ·rename_i v hv
       have hb':=fun p hp=>hb p (jk _ hp)
       obtain ⟨h1,h2⟩:=ih _ _ _ _ _ _ _ _ _ hb' (by simp [hl]) h
       refine ⟨h1,fun hh=>?_⟩
       obtain ⟨h3,h4⟩:=h2 hh
       obtain ⟨rfl,rfl⟩:=List.cons.inj h3
       exact ⟨rfl,fun hk=>d_v (fun w' hw=>qeJ hT ((hb _ (jq ..)).below hw) (by rw [jW];exact hx) hte hv) hn (h4 hk)⟩
      ·cases h
     ·cases h
    ·split at h
     ·rename_i v hv
      obtain ⟨h1,h2⟩:=ih _ _ _ _ _ _ _ _ _ hb hl h
      exact ⟨h1,fun hh=>⟨(h2 hh).1,fun hk=>d_v (fun w' _=>v_p hT hv w') hn ((h2 hh).2 hk)⟩⟩
     ·cases h
   ·cases h
  ·split at h
   ·rename_i hg
    split at h
    ·split at h
     ·rename_i hn
      obtain ⟨h1,h2⟩:=ih _ _ _ _ _ _ _ _ _ hb hl h
      exact ⟨h1,fun hh=>⟨(h2 hh).1,fun hk=>qqj (by unfold notW;rw [hg];rfl) rfl hn ((h2 hh).2 hk)⟩⟩
     ·cases h
    ·cases h
   ·split at h
    ·rename_i hg
     obtain ⟨h1,h2⟩:=ih _ _ _ _ _ _ _ _ _ hb hl h
     exact ⟨h1,fun hh=>⟨(h2 hh).1,fun hk=>qpj hg ((h2 hh).2 hk)⟩⟩
    ·rename_i hg
     split at h
     ·split at h
      ·rename_i hn
       obtain ⟨h1,h2⟩:=ih _ _ _ _ _ _ _ _ _ hb hl h
       exact ⟨h1,fun hh=>⟨(h2 hh).1,fun hk=>qqj (by unfold notW;rw [hg,Bool.or_true]) rfl hn ((h2 hh).2 hk)⟩⟩
      ·cases h
     ·cases h
    ·cases h
  ·cases h
end
def bits (m K:Nat):Array Bool:=((List.range m).map fun i=>K.testBit i).toArray
theorem qoo {m:Nat}:Array.replicate m false=bits m 0:=by
 unfold bits
 apply Array.ext'
 simp only [Nat.zero_testBit,Array.toList_replicate]
 exact List.ext_getElem (by simp) (by simp)
def xa (T:Tab) (n:Nat) (ops:Array Oper):List Nat→List (Nat × List Value)→Nat→Env→List Nat→List Nat→Option (Nat × Env × List Nat × List Nat)
 | [],_,f,e,x,y=>some (f,e,x,y)
 | i::is,bs,f,e,x,y=>match f with
  | 0=>none
  | f+1=>match ops[i]? with
   | some ⟨some d,op,_,_,_,none⟩=>match Nat.blt d n with
    | true=>match op with
     | .load t p=>match opv e p,T.get t,bs with
      | some (.pointer (some ⟨b,o,none⟩)),some te,(b',cs)::bs'=>match ld te cs o with
       | some v=>xa T n ops is bs' f ((d,v)::e) (b::x) (b'::y)
       | none=>none
      | _,_,_=>none
     | op=>match pev T e op with
      | some v=>xa T n ops is bs f ((d,v)::e) x y
      | none=>none
    | false=>none
   | _=>none
def oka (ops:Array Oper) (st:List Nat):List Nat→Array Bool→Array Bool→Bool
 | [],l,l'=>l==l'
 | i::is,l,l'=>(Region.noSelect ops&&Region.free .any ops l i&&(Region.ready .any ops l).contains i&&st.all (fun s=>!(Nat.beq s i)&&waitsB ops i s&&!(l.getD s true)))&&oka ops st is (l.setIfInBounds i true) l'
section
variable {P:Program} {T:Tab} {n:Nat} {fnc:Func} {R:Ending→World→Prop} {k:List It} {e:Env} {w0 w:World} {ops:Array Oper} {st:List Nat} {C:World→Prop}
theorem qmU (hT:TabOk P T) (hC:C w):∀ (is:List Nat) (bs:List (Nat × List Value)) (f:Nat) (e:Env) (x y:List Nat) (f':Nat) (e':Env) (x' y':List Nat) (l l':Array Bool),(∀ p ∈ bs,∀ w',C w'→CellsAt w' p.1 0 p.2)→x.length=y.length →
  xa T n ops is bs f e x y=some (f',e',x',y')→oka ops st is l l'=true→x'.length=y'.length∧(x'=y'→x=y∧(RunA P n (bodyPost P fnc R) k ops st C f' l' e' w→RunA P n (bodyPost P fnc R) k ops st C f l e w)):=by
 intro is
 induction is with
 | nil =>
  intro bs f e x y f' e' x' y' l l' _ hl h ho
  simp only [xa,Option.some.injEq,Prod.mk.injEq] at h
  obtain ⟨rfl,rfl,rfl,rfl⟩:=h
  obtain rfl:=eq_of_beq ho
  exact ⟨hl,fun hh=>⟨hh,id⟩⟩
 | cons i is ih =>
  intro bs f e x y f' e' x' y' l l' hb hl h ho
  unfold oka at ho
  rw [jh] at ho
  obtain ⟨ho1,ho2⟩:=ho
  unfold xa at h
  split at h
  ·cases h
  ·split at h
   ·rename_i hi
    split at h
    ·rename_i hn
     split at h
     ·split at h
      ·rename_i hx hte
       split at h
       ·rename_i v hv
        have hb':=fun p hp=>hb p (jk _ hp)
        obtain ⟨h1,h2⟩:=ih _ _ _ _ _ _ _ _ _ _ _ hb' (by simp [hl]) h ho2
        refine ⟨h1,fun hh=>?_⟩
        obtain ⟨h3,h4⟩:=h2 hh
        obtain ⟨rfl,rfl⟩:=List.cons.inj h3
        exact ⟨rfl,fun hk=>qjm i hi _ rfl ho1 (fun w' hw'=>qeJ hT (hb _ (jq ..) w' hw') (by rw [jW];exact hx) hte hv) hC hn (h4 hk)⟩
       ·cases h
      ·cases h
     ·split at h
      ·rename_i v hv
       obtain ⟨h1,h2⟩:=ih _ _ _ _ _ _ _ _ _ _ _ hb hl h ho2
       exact ⟨h1,fun hh=>⟨(h2 hh).1,fun hk=>qjm i hi _ rfl ho1 (fun w' _=>v_p hT hv w') hC hn ((h2 hh).2 hk)⟩⟩
      ·cases h
    ·cases h
   ·cases h
end
def gets (e:Env):Env→Option Env
 | []=>some []
 | p::l=>match e.get p.1,gets e l with
  | some v,some r=>some ((p.1,v)::r)
  | _,_=>none
theorem qkM {e:Env}:∀ {e':Env},gets e e'=some e'→subEnv e e'
 | [],_=>trivial
 | p::l,h=>by
  unfold gets at h
  split at h
  ·rename_i v r hv hr
   have h:=List.cons.inj (Option.some.inj h)
   refine ⟨?_,qkM (by rw [hr,h.2])⟩
   rw [hv,←h.1]
  ·cases h
def pickN (L:List Ch):List Nat→Option (List Ch)
 | []=>some []
 | i::is=>match L[i]?,pickN L is with
  | some c,some l=>some (c::l)
  | _,_=>none
def setN:List Ch→Nat→Ch→Option (List Ch)
 | [],_,_=>some []
 | _::l,0,c=>some (c::l)
 | a::l,i+1,c=>match setN l i c with
  | some r=>some (a::r)
  | none=>none
theorem qn7:∀ {L:List Ch} {i:Nat} {c:Ch} {L':List Ch},setN L i c=some L'→L.set i c=L'
 | [],_,_,_,h=>by simpa [setN] using h
 | _::_,0,_,_,h=>by simpa [setN] using h
 | a::l,i+1,c,L',h=>by
  unfold setN at h
  split at h
  ·rename_i r hr
   rw [List.set_cons_succ,qn7 hr]
   exact Option.some.inj h
  ·cases h
def splN:List Value→Nat→List Value→Option (List Value)
 | cs,0,[]=>some cs
 | [],_,_=>none
 | _::cs,0,u::us=>match splN cs 0 us with
  | some r=>some (u::r)
  | none=>none
 | c::cs,j+1,us=>match splN cs j us with
  | some r=>some (c::r)
  | none=>none
theorem qmf:∀ {cs:List Value} {j:Nat} {us r:List Value},splN cs j us=some r→splice cs j us=r
 | cs,0,[],r,h=>by
  have h:cs=r:=by cases cs<;>simpa [splN] using h
  subst h;simp [splice]
 | [],0,_::_,_,h=>by simp [splN] at h
 | [],_+1,_,_,h=>by simp [splN] at h
 | c::cs,0,u::us,r,h=>by
  unfold splN at h
  split at h
  ·rename_i q hq
   have:=qmf hq
   obtain rfl:=Option.some.inj h
   rw [←this]
   simp [splice]
  ·cases h
 | c::cs,j+1,us,r,h=>by
  unfold splN at h
  split at h
  ·rename_i q hq
   have:=qmf hq
   obtain rfl:=Option.some.inj h
   rw [←this]
   simp [splice,Nat.add_right_comm]
  ·cases h
section
variable {P:Program} {T:Tab} {n:Nat} {Q:Exit→Act→World→Prop} {k:List It} {e:Env} {w0 w:World} {L:List Ch} {all:Array Oper}
theorem dN (h:SH w0 w L) (hk:∀ w',SH w0 w' L→Run P n Q k e w'):RunD P n Q k all w [] e:=qqY fun w' hb=>hk w' (h.ext hb)
theorem rK {Inv:Nat→Env→World→Prop} {m:Nat} {e':Env} (h:Inv m e' w) (hs:gets e e'=some e'):Run P n Q (.goal (Back n Inv (m+1))::k) e w:=qqX m e' (Nat.lt_succ_self m) (qkM hs) h
theorem rG {J:Env→World→Prop} {e':Env} (h:J e' w) (hs:gets e e'=some e'):Run P n Q (.goal (CutJ n J)::k) e w:=qoL e' (qkM hs) h
theorem rL {b:Code} (Inv:Nat→Env→World→Prop) (m:Nat) {e':Env} (h:Inv m e' w) (hs:gets e e'=some e') (round:∀ m e w,Inv m e w→Run P n Q (.code b::.goal (Back n Inv m)::k) e w):Run P n Q (.code (.loop b)::k) e w :=
 qq8 e' (qkM hs) (qqL Inv m h round)
theorem rA {id:Nat} {ops:List Oper} (st is:List Nat) {m:Nat} {L':List Ch} (h:SH w0 w L) (hh:(pickN L is,ops.length,P.follows .mixedOrders)=(some L',m,true))
  (hk:∀ w',SH w0 w' L→RunA P n Q k ops.toArray st (fun w'=>SH w0 w' L') m (bits m 0) e w'):Run P n Q (.code (.region id ops.toArray true)::k) e w:=by
 simp only [Prod.mk.injEq] at hh
 exact qq3 st _ hh.2.2 m (by simpa using hh.2.1) _ qoo fun w' hb=>hk w' (h.ext hb)
theorem Ag {ops:Array Oper} {st:List Nat} {C:World→Prop} {fuel:Nat} {listed:Array Bool} {all:Array Oper} (hC:C w) (h:RunA P n Q k ops st C fuel listed e w):Run P n Q (.ops all []::.goal (NextA P n Q k ops st C fuel listed)::k) e w:=qdR (fun _=>hC) h
theorem Ao {ops:Array Oper} {st:List Nat} {C:World→Prop} {fuel:Nat} (i K:Nat) {m K0:Nat} {o:Oper} (hi:ops[i]?=some o) (h:Run P n Q (.ops ops [o]::.goal (NextA P n Q k ops st C fuel (bits m K))::k) e w)
  (hl:(bits m K0).setIfInBounds i true=bits m K:=by kernel_rfl) (hr:Region.ready .any ops (bits m K0)=[i]:=by kernel_rfl):RunA P n Q k ops st C (fuel+1) (bits m K0) e w:=qqU i hi _ hl hr h
theorem Ad {ops:Array Oper} {st:List Nat} {C:World→Prop} {listed:Array Bool} (h:Run P n Q k e w) (hr:Region.ready .any ops listed=[]:=by kernel_rfl):RunA P n Q k ops st C 0 listed e w:=qqR hr h
theorem At {ops:Array Oper} {st:List Nat} {C:World→Prop} {fuel:Nat} (i j K K':Nat) {m K0:Nat} {o o':Oper} (hh:(ops[i]?,ops[j]?)=(some o,some o')) (h1:Run P n Q (.ops ops [o]::.goal (NextA P n Q k ops st C fuel (bits m K))::k) e w)
  (h2:Run P n Q (.ops ops [o']::.goal (NextA P n Q k ops st C fuel (bits m K'))::k) e w) (hl1:(bits m K0).setIfInBounds i true=bits m K:=by kernel_rfl) (hl2:(bits m K0).setIfInBounds j true=bits m K':=by kernel_rfl)
  (hr:Region.ready .any ops (bits m K0)=[i,j]:=by kernel_rfl):RunA P n Q k ops st C (fuel+1) (bits m K0) e w:=by
 simp only [Prod.mk.injEq] at hh
 exact qq5 i j hh.1 hh.2 _ _ hl1 hl2 hr h1 h2
theorem rD {id:Nat} {ops:List Oper} (h:RunD P n Q k ops.toArray w ops e) (hm:P.follows .mixedOrders=true:=by rfl) (hB:Region.lexB .any ops.toArray=true:=by kernel_rfl):Run P n Q (.code (.region id ops.toArray true)::k) e w:=qqw hm hB h
end
section
variable {w:World} {S:Nat→Prop}
theorem pR {α β:Type} {A:GoT α} {B:GoT β} {x:α} {y:β} {c d:List Value} (h1:A.R w S x c) (h2:B.R w S y d):(pairT A B).R w S (x,y) (c++d):=⟨c,d,rfl,h1,h2⟩
theorem rI (x:Int):GoT.R w S x [.int .i64 x]:=rfl
theorem rB (x:Bool):GoT.R w S x [.bool x]:=rfl
theorem rT (x:ByteArray):GoT.R w S x [.string x]:=rfl
theorem rS {α:Type} [GoT α] {xs:List α} {p:Option Addr} {c:Nat} (s:SlR w S xs p c):GoT.R w S xs [.slice p xs.length c]:=⟨p,c,rfl,s⟩
end
def callB (P:Program) (f:FuncId):Bool:=match P.funcs[f]? with
 | some fn=>fn.body.isSome&&!(fn.name== "runtime.NumGoroutine")
 | none=>false
theorem qph {P:Program} {f:FuncId} (h:callB P f=true):qdT P f:=by
 unfold callB at h
 split at h
 ·rename_i fn hf
  rw [jh,jH] at h
  exact ⟨fn,hf,h.1,h.2⟩
 ·cases h
def res1 (e:Env):List ResultVar→Option Value
 | [.tmp t]=>e.get t
 | _=>none
theorem qn0 {T:Tab} {e:Env} {w:World} {rs:List ResultVar} {v:Value} (h:res1 e rs=some v):ResOk T e w rs [v]:=by
 unfold res1 at h
 split at h
 ·exact ⟨h,trivial⟩
 ·cases h
end Go.Fw
