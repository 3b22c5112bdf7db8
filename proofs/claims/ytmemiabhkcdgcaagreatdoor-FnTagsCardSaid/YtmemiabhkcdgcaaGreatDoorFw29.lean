/- The prover's own layer over the model: typed readings of memory, a small separation list, and a run with a stack of code that is left. -/
import Derived.WalkKit
import Derived.KernelRfl
import Derived.OrdersHeld
import Derived.Deep.Quiet
import Derived.ProofKit
import Derived.ReadAgain
import Derived.IntWalk
import Derived.Laws.BytesString
open Option renaming bind_some → je, map_some → jW
open Nat renaming le_refl → jf, le_of_ble_eq_true → js, mul_le_mul_right → jx, lt_of_lt_of_le → jy, zero_le → jz, succ_mul → jQ, le_trans → jS, add_zero → Jc, zero_add → Jj
open Bool renaming and_eq_true → jg, eq_iff_iff → jm, true_and → jJ, not_eq_true' → jO, and_assoc → Ji, not_true → Jk, false_or → Jl
open Go.Result renaming andThen_ok → jh
open List renaming getElem?_eq_getElem → ji, length_append → jj, length_singleton → jk, mem_cons_of_mem → jo, getElem_mem → jp, mem_cons_self → jq, take_succ_eq_append_getElem → jr, getElem?_take → jt, getElem?_append_left → ju, mem_of_getElem? → jw, getElem?_drop → jA, take_length → jB, getElem?_append_right → jD, drop_eq_getElem_cons → jE, eq_nil_of_length_eq_zero → jF, not_mem_nil → jG, length_map → jH, getElem?_toArray → jI, getD_eq_getElem?_getD → jK, mem_append_left → jL, getElem_of_mem → jM, mem_cons → jN, getElem?_cons_succ → jP, mem_append_right → jR, append_nil → jT, size_toArray → jV, map_append → jX, range_succ → jY, length_take → jZ, length_filter_le → Ja, map_cons → Jb, drop_eq_nil_of_le → Jd, all_eq_true → Je, length_cons → Jf, append_assoc → Jg, ext_getElem → Jh
open Go.Sem renaming run_bind → jl, run_pure → jn
open Int renaming toNat_natCast → jC
open Array renaming getElem?_append_left → jU

namespace Go.Fw
open Go
class GoT (α:Type) where
  k:Nat
  agg:Bool
  zero:α
  zc:List Value
  R:World→(Nat→Prop)→α→List Value→Prop
  O:World→(Nat→Prop)→α→List Value→Prop
  kpos:0<k
  noagg:agg=false→k=1
  len:∀ {w S x cs},R w S x cs→cs.length=k
  one:∀ {w S x cs},R w S x cs→∀ c ∈ cs,c.oneCell'=true
  loc:∀ {w w' S x cs},R w S x cs→(∀ b,S b→w'.heap[b]?=w.heap[b]?)→R w' S x cs
  mono:∀ {w S S' x cs},R w S x cs→(∀ b,S b→S' b)→R w S' x cs
  toR:∀ {w S x cs},O w S x cs→R w S x cs
  locO:∀ {w w' S x cs},O w S x cs→(∀ b,S b→w'.heap[b]?=w.heap[b]?)→O w' S x cs
  monoO:∀ {w S S' x cs},O w S x cs→(∀ b,S b→S' b)→O w S' x cs
  zO:∀ w S,O w S zero zc
def mkV (agg:Bool) (cs:List Value):Value :=
  match agg with
  | true=>.agg cs.toArray
  | false=>cs.headD undef
abbrev GoT.v (α:Type) [GoT α] (cs:List Value):Value:=mkV (GoT.agg α) cs
instance instInt:GoT Int where
  k:=1
  agg:=false
  zero:=0
  zc:=[.int .i64 0]
  R _ _ x cs:=cs=[.int .i64 x]
  O _ _ x cs:=cs=[.int .i64 x]
  kpos:=by decide
  noagg _:=rfl
  len h:=by subst h;rfl
  one h:=by subst h;simp [Value.oneCell']
  loc h _:=h
  mono h _:=h
  toR h:=h
  locO h _:=h
  monoO h _:=h
  zO _ _:=rfl
instance instBool:GoT Bool where
  k:=1
  agg:=false
  zero:=false
  zc:=[.bool false]
  R _ _ x cs:=cs=[.bool x]
  O _ _ x cs:=cs=[.bool x]
  kpos:=by decide
  noagg _:=rfl
  len h:=by subst h;rfl
  one h:=by subst h;simp [Value.oneCell']
  loc h _:=h
  mono h _:=h
  toR h:=h
  locO h _:=h
  monoO h _:=h
  zO _ _:=rfl
instance instStr:GoT ByteArray where
  k:=1
  agg:=false
  zero:=ByteArray.empty
  zc:=[.string ByteArray.empty]
  R _ _ x cs:=cs=[.string x]
  O _ _ x cs:=cs=[.string x]
  kpos:=by decide
  noagg _:=rfl
  len h:=by subst h;rfl
  one h:=by subst h;simp [Value.oneCell']
  loc h _:=h
  mono h _:=h
  toR h:=h
  locO h _:=h
  monoO h _:=h
  zO _ _:=rfl
class Flat (α:Type) [GoT α]:Prop where
  fl:∀ {w w':World} {S S':Nat→Prop} {x:α} {cs:List Value},GoT.R w S x cs→GoT.O w' S' x cs
  det:∀ {w w':World} {S S':Nat→Prop} {x:α} {cs cs':List Value},GoT.R w S x cs→GoT.R w' S' x cs'→cs=cs'
instance:Flat Int:=⟨fun h=>h,fun h h'=>Eq.trans h (Eq.symm h')⟩
instance:Flat Bool:=⟨fun h=>h,fun h h'=>Eq.trans h (Eq.symm h')⟩
instance:Flat ByteArray:=⟨fun h=>h,fun h h'=>Eq.trans h (Eq.symm h')⟩
section
variable {α:Type} [GoT α]
def SlR (w:World) (S:Nat→Prop) (xs:List α) (p:Option Addr) (c:Nat):Prop :=
  xs.length≤c∧c≤maxLen ∧
  (((p=none∨c=0)∧xs=[]) ∨
   ∃ b o cur T fr,p=some ⟨b,o,none⟩∧S b∧w.heap[b]?=some (.cells cur T fr)∧o+c*GoT.k α≤cur.size ∧
     ∀ i x,xs[i]?=some x→∃ cs,GoT.R w S x cs∧∀ j v,cs[j]?=some v→cur[o+i*GoT.k α+j]?=some v)
def SlO (w:World) (S:Nat→Prop) (xs:List α) (p:Option Addr) (c:Nat):Prop :=
  xs.length≤c∧c≤maxLen ∧
  ((p=none∧xs=[]∧c=0) ∨
   ∃ b cur T,∃ F:Nat→Nat→Prop,p=some ⟨b,0,none⟩∧S b∧w.heap[b]?=some (.cells cur T (0,0))∧cur.size=c*GoT.k α ∧
     (∀ i a,F i a→S a∧a ≠ b)∧(∀ i j a,i ≠ j→F i a→¬ F j a) ∧
     ∀ i x,xs[i]?=some x→∃ cs,GoT.O w (F i) x cs∧∀ j v,cs[j]?=some v→cur[i*GoT.k α+j]?=some v)
theorem SlR.loc {w w':World} {S:Nat→Prop} {xs:List α} {p c} (h:SlR w S xs p c) (hs:∀ b,S b→w'.heap[b]?=w.heap[b]?):SlR w' S xs p c:=by
  obtain ⟨h1,h2,h3⟩:=h
  refine ⟨h1,h2,?_⟩
  rcases h3 with h3|⟨b,o,cur,T,fr,rfl,hb,hg,hc,hx⟩
  · exact .inl h3
  · refine .inr ⟨b,o,cur,T,fr,rfl,hb,by rw [hs b hb];exact hg,hc,fun i x hi=>?_⟩
    obtain ⟨cs,hr,hj⟩:=hx i x hi
    exact ⟨cs,GoT.loc hr hs,hj⟩
theorem SlR.mono {w:World} {S S':Nat→Prop} {xs:List α} {p c} (h:SlR w S xs p c) (hs:∀ b,S b→S' b):SlR w S' xs p c:=by
  obtain ⟨h1,h2,h3⟩:=h
  refine ⟨h1,h2,?_⟩
  rcases h3 with h3|⟨b,o,cur,T,fr,rfl,hb,hg,hc,hx⟩
  · exact .inl h3
  · refine .inr ⟨b,o,cur,T,fr,rfl,hs b hb,hg,hc,fun i x hi=>?_⟩
    obtain ⟨cs,hr,hj⟩:=hx i x hi
    exact ⟨cs,GoT.mono hr hs,hj⟩
theorem SlO.toR {w:World} {S:Nat→Prop} {xs:List α} {p c} (h:SlO w S xs p c):SlR w S xs p c:=by
  obtain ⟨h1,h2,h3⟩:=h
  refine ⟨h1,h2,?_⟩
  rcases h3 with ⟨h3,h4,_⟩|⟨b,cur,T,F,rfl,hb,hg,hc,hF,hd,hx⟩
  · exact .inl ⟨.inl h3,h4⟩
  · refine .inr ⟨b,0,cur,T,(0,0),rfl,hb,hg,by omega,fun i x hi=>?_⟩
    obtain ⟨cs,hr,hj⟩:=hx i x hi
    exact ⟨cs,GoT.mono (GoT.toR hr) (fun a ha=>(hF i a ha).1),by simpa using hj⟩
theorem SlO.loc {w w':World} {S:Nat→Prop} {xs:List α} {p c} (h:SlO w S xs p c) (hs:∀ b,S b→w'.heap[b]?=w.heap[b]?):SlO w' S xs p c:=by
  obtain ⟨h1,h2,h3⟩:=h
  refine ⟨h1,h2,?_⟩
  rcases h3 with h3|⟨b,cur,T,F,rfl,hb,hg,hc,hF,hd,hx⟩
  · exact .inl h3
  · refine .inr ⟨b,cur,T,F,rfl,hb,by rw [hs b hb];exact hg,hc,hF,hd,fun i x hi=>?_⟩
    obtain ⟨cs,hr,hj⟩:=hx i x hi
    exact ⟨cs,GoT.locO hr (fun a ha=>hs a (hF i a ha).1),hj⟩
theorem SlO.mono {w:World} {S S':Nat→Prop} {xs:List α} {p c} (h:SlO w S xs p c) (hs:∀ b,S b→S' b):SlO w S' xs p c:=by
  obtain ⟨h1,h2,h3⟩:=h
  refine ⟨h1,h2,?_⟩
  rcases h3 with h3|⟨b,cur,T,F,rfl,hb,hg,hc,hF,hd,hx⟩
  · exact .inl h3
  · exact .inr ⟨b,cur,T,F,rfl,hs b hb,hg,hc,fun i a ha=>⟨hs a (hF i a ha).1,(hF i a ha).2⟩,hd,hx⟩
end
instance instList {α:Type} [GoT α]:GoT (List α) where
  k:=1
  agg:=false
  zero:=[]
  zc:=[.slice none 0 0]
  R w S xs cs:=∃ p c,cs=[.slice p xs.length c]∧SlR w S xs p c
  O w S xs cs:=∃ p c,cs=[.slice p xs.length c]∧SlO w S xs p c
  kpos:=by decide
  noagg _:=rfl
  len h:=by obtain ⟨p,c,rfl,_⟩:=h;rfl
  one h:=by obtain ⟨p,c,rfl,_⟩:=h;simp [Value.oneCell']
  loc h hs:=by obtain ⟨p,c,rfl,h⟩:=h;exact ⟨p,c,rfl,h.loc hs⟩
  mono h hs:=by obtain ⟨p,c,rfl,h⟩:=h;exact ⟨p,c,rfl,h.mono hs⟩
  toR h:=by obtain ⟨p,c,rfl,h⟩:=h;exact ⟨p,c,rfl,h.toR⟩
  locO h hs:=by obtain ⟨p,c,rfl,h⟩:=h;exact ⟨p,c,rfl,h.loc hs⟩
  monoO h hs:=by obtain ⟨p,c,rfl,h⟩:=h;exact ⟨p,c,rfl,h.mono hs⟩
  zO w S:=⟨none,0,rfl,by simp,by simp,.inl ⟨rfl,rfl,rfl⟩⟩
instance instPtr {α:Type} [GoT α]:GoT (Option α) where
  k:=1
  agg:=false
  zero:=none
  zc:=[.pointer none]
  R w S p cs:=match p with
    | none=>cs=[.pointer none]
    | some x=>∃ b o cur T fr ds,cs=[.pointer (some ⟨b,o,none⟩)]∧S b∧w.heap[b]?=some (.cells cur T fr)∧GoT.R w S x ds∧∀ j v,ds[j]?=some v→cur[o+j]?=some v
  O w S p cs:=match p with
    | none=>cs=[.pointer none]
    | some x=>∃ b cur T,∃ S':Nat→Prop,cs=[.pointer (some ⟨b,0,none⟩)]∧S b∧w.heap[b]?=some (.cells (List.toArray cur) T (0,0))∧GoT.O w S' x cur∧∀ a,S' a→S a∧a ≠ b
  kpos:=by decide
  noagg _:=rfl
  len {w S p cs} h:=by
    cases p with
    | none=>subst h;rfl
    | some x=>obtain ⟨b,o,cur,T,fr,ds,rfl,_⟩:=h;rfl
  one {w S p cs} h:=by
    cases p with
    | none=>subst h;simp [Value.oneCell']
    | some x=>obtain ⟨b,o,cur,T,fr,ds,rfl,_⟩:=h;simp [Value.oneCell']
  loc {w w' S p cs} h hs:=by
    cases p with
    | none=>exact h
    | some x =>
      obtain ⟨b,o,cur,T,fr,ds,rfl,hb,hg,hr,hj⟩:=h
      exact ⟨b,o,cur,T,fr,ds,rfl,hb,by rw [hs b hb];exact hg,GoT.loc hr hs,hj⟩
  mono {w S S' p cs} h hs:=by
    cases p with
    | none=>exact h
    | some x =>
      obtain ⟨b,o,cur,T,fr,ds,rfl,hb,hg,hr,hj⟩:=h
      exact ⟨b,o,cur,T,fr,ds,rfl,hs b hb,hg,GoT.mono hr hs,hj⟩
  toR {w S p cs} h:=by
    cases p with
    | none=>exact h
    | some x =>
      obtain ⟨b,cur,T,S',rfl,hb,hg,hr,hj⟩:=h
      exact ⟨b,0,cur.toArray,T,(0,0),cur,rfl,hb,hg,GoT.mono (GoT.toR hr) (fun a ha=>(hj a ha).1),by simp⟩
  locO {w w' S p cs} h hs:=by
    cases p with
    | none=>exact h
    | some x =>
      obtain ⟨b,cur,T,S',rfl,hb,hg,hr,hj⟩:=h
      exact ⟨b,cur,T,S',rfl,hb,by rw [hs b hb];exact hg,GoT.locO hr (fun a ha=>hs a (hj a ha).1),hj⟩
  monoO {w S S' p cs} h hs:=by
    cases p with
    | none=>exact h
    | some x =>
      obtain ⟨b,cur,T,S',rfl,hb,hg,hr,hj⟩:=h
      exact ⟨b,cur,T,S',rfl,hs b hb,hg,hr,fun a ha=>⟨hs a (hj a ha).1,(hj a ha).2⟩⟩
  zO _ _:=rfl
structure Ch where
  S:Nat→Prop
  D:Nat→Prop
  P:World→Prop
  loc:∀ w w',(∀ b,S b→w'.heap[b]?=w.heap[b]?)→(∀ b,D b→w'.heap[b]?=w.heap[b]?)→P w→P w'
def Ch.box (b:Nat) (cs:List Value) (T:TypeId):Ch where
  S a:=a=b
  D _:=False
  P w:=w.heap[b]?=some (.cells cs.toArray T (0,0))
  loc w w' h _ hp:=by rw [h b rfl];exact hp
def Ch.own {α:Type} [GoT α] (S:Nat→Prop) (x:α) (cs:List Value):Ch where
  S:=S
  D _:=False
  P w:=GoT.O w S x cs
  loc _ _ h _ hp:=GoT.locO hp h
def old (w:World) (b:Nat):Prop:=b<w.heap.size
def fresh (w w':World) (b:Nat):Prop:=w.heap.size≤b∧b<w'.heap.size
open Go.RowKit (Below)
structure SH (w0 w:World) (L:List Ch):Prop where
  below:Below w0.heap.size w0 w
  holds:∀ c ∈ L,c.P w∧∀ b,c.S b→fresh w0 w b
  elder:∀ c ∈ L,∀ b,c.D b→b<w0.heap.size
  apart:L.Pairwise fun c d=>∀ b,c.S b→¬ d.S b
theorem SH.start (w:World):SH w w []:=⟨Below.refl _ _,by simp,by simp,.nil⟩
section
variable {w0 w w':World} {L:List Ch}
theorem SH.mem {c:Ch} {i:Nat} (h:SH w0 w L) (hi:L[i]?=some c):c.P w∧∀ b,c.S b→fresh w0 w b :=
  h.holds c (jw hi)
theorem SH.ext (h:SH w0 w L) (hb:Below w.heap.size w w'):SH w0 w' L:=by
  refine ⟨h.below.trans (hb.mono h.below.size),fun c hc=>?_,h.elder,h.apart⟩
  obtain ⟨h1,h2⟩:=h.holds c hc
  refine ⟨c.loc w w' (fun b hS=>hb.block b (h2 b hS).2) (fun b hD=>hb.block b (jy (h.elder c hc b hD) h.below.size)) h1,fun b hS=>⟨(h2 b hS).1,?_⟩⟩
  have:=(h2 b hS).2
  have:=hb.size
  omega
theorem SH.add {c:Ch} (h:SH w0 w L) (hb:Below w.heap.size w w') (hp:c.P w') (hS:∀ b,c.S b→fresh w w' b) (hD:∀ b,c.D b→b<w0.heap.size):SH w0 w' (c::L):=by
  have h':=h.ext hb
  refine ⟨h'.below,fun d hd=>?_,fun d hd=>?_,?_⟩
  · rcases List.mem_cons.1 hd with rfl|hd
    · refine ⟨hp,fun b hb'=>⟨?_,(hS b hb').2⟩⟩
      have:=(hS b hb').1
      have:=h.below.size
      omega
    · exact h'.holds d hd
  · rcases List.mem_cons.1 hd with rfl|hd
    · exact hD
    · exact h.elder d hd
  · refine List.pairwise_cons.2 ⟨fun d hd b hcb hdb=>?_,h.apart⟩
    have h1:=(hS b hcb).1
    have h2:=((h.holds d hd).2 b hdb).2
    omega
theorem SH.alloc (h:SH w0 w L) (cs:List Value) (T:TypeId):SH w0 (w.alloc (.cells cs.toArray T)) (Ch.box w.heap.size cs T::L):=by
  refine h.add ((Below.refl _ _).alloc (jf _) _) ?_ ?_ (fun _ hd=>hd.elim)
  · exact heap_alloc_new w _
  · intro b hb
    have:b=w.heap.size:=hb
    subst this
    exact ⟨jf _,by simp⟩
theorem SH.upd {c c':Ch} {i:Nat} (h:SH w0 w L) (hi:L[i]?=some c) (hos:w'.os=w.os) (htape:w'.tape=w.tape) (hout:w'.output=w.output) (hsize:w.heap.size≤w'.heap.size)
    (hb:∀ b,b<w.heap.size→¬ c.S b→w'.heap[b]?=w.heap[b]?) (hp:c'.P w') (hS:∀ b,c'.S b→c.S b∨fresh w w' b) (hD:∀ b,c'.D b→b<w0.heap.size):SH w0 w' (L.set i c'):=by
  obtain ⟨hcP,hcS⟩:=h.mem hi
  have hother:∀ (j:Nat) (d:Ch),L[j]?=some d→j ≠ i→∀ b,d.S b→¬ c.S b:=by
    intro j d hj hne b hdb hcb
    have hpw:=List.pairwise_iff_getElem.1 h.apart
    obtain ⟨hil,hic⟩:=List.getElem?_eq_some_iff.1 hi
    obtain ⟨hjl,hjd⟩:=List.getElem?_eq_some_iff.1 hj
    rcases Nat.lt_or_gt_of_ne hne with hlt|hlt
    · have:=hpw j i hjl hil hlt
      rw [hic,hjd] at this
      exact this b hdb hcb
    · have:=hpw i j hil hjl hlt
      rw [hic,hjd] at this
      exact this b hcb hdb
  refine ⟨⟨hos.trans h.below.os,htape.trans h.below.tape,hout.trans h.below.output,jS h.below.size hsize,fun k hk=>?_⟩,?_,?_,?_⟩
  · rw [hb k (jy hk h.below.size) (fun hk'=>by have:=(hcS k hk').1;omega)]
    exact h.below.block k hk
  · intro d hd
    obtain ⟨j,hj,hjd⟩:=jM hd
    have hjL:j<L.length:=by simpa using hj
    rw [List.getElem_set] at hjd
    split at hjd
    · subst hjd
      refine ⟨hp,fun b hb'=>?_⟩
      rcases hS b hb' with h1|h1
      · exact ⟨(hcS b h1).1,jy (hcS b h1).2 hsize⟩
      · exact ⟨jS h.below.size h1.1,h1.2⟩
    · rename_i hne
      have hjd':L[j]?=some d:=by rw [ji hjL,hjd]
      obtain ⟨h1,h2⟩:=h.mem hjd'
      refine ⟨d.loc w w' (fun b hdb=>hb b (h2 b hdb).2 (hother j d hjd' (Ne.symm hne) b hdb)) (fun b hdb=>?_) h1,fun b hdb=>⟨(h2 b hdb).1,jy (h2 b hdb).2 hsize⟩⟩
      have hlt:=h.elder d (jw hjd') b hdb
      exact hb b (jy hlt h.below.size) (fun hk'=>by have:=(hcS b hk').1;omega)
  · intro d hd
    obtain ⟨j,hj,hjd⟩:=jM hd
    have hjL:j<L.length:=by simpa using hj
    rw [List.getElem_set] at hjd
    split at hjd
    · subst hjd;exact hD
    · exact h.elder d (hjd ▸ jp hjL)
  · rw [List.pairwise_iff_getElem]
    intro a b ha hb' hab x hax hbx
    have haL:a<L.length:=by simpa using ha
    have hbL:b<L.length:=by simpa using hb'
    rw [List.getElem_set] at hax hbx
    split at hax
    · rename_i hai
      split at hbx
      · omega
      · have hbd:L[b]?=some L[b]:=ji hbL
        rcases hS x hax with h1|h1
        · exact hother b _ hbd (by omega) x hbx h1
        · have:=((h.mem hbd).2 x hbx).2
          have:=h1.1
          omega
    · rename_i hai
      have had:L[a]?=some L[a]:=ji haL
      split at hbx
      · rename_i hbi
        rcases hS x hbx with h1|h1
        · exact hother a _ had (by omega) x hax h1
        · have:=((h.mem had).2 x hax).2
          have:=h1.1
          omega
      · exact List.pairwise_iff_getElem.1 h.apart a b haL hbL hab x hax hbx
theorem SH.sub {M:List Ch} (h:SH w0 w L) (hs:M.Sublist L):SH w0 w M :=
  ⟨h.below,fun c hc=>h.holds c (hs.subset hc),fun c hc=>h.elder c (hs.subset hc),h.apart.sublist hs⟩
theorem SH.old {α:Type} [GoT α] {x:α} {cs:List Value} (h:SH w0 w L) (hr:GoT.R w0 (old w0) x cs):GoT.R w (Fw.old w) x cs :=
  GoT.mono (GoT.loc hr (fun b hb=>h.below.block b hb)) (fun _ hb=>jy hb h.below.size)
theorem SH.own {α:Type} [GoT α] {x:α} {cs:List Value} {S:Nat→Prop} (i:Nat) (h:SH w0 w L) (hi:L[i]?=some (Ch.own S x cs)):GoT.R w (Fw.old w) x cs :=
  GoT.mono (GoT.toR (h.mem hi).1) (fun b hb=>((h.mem hi).2 b hb).2)
def pickL (L:List Ch):List Nat→List Ch
  | []=>[]
  | i::is=>match L[i]? with
    | some c=>c::pickL L is
    | none=>pickL L is
def nodupB:List Nat→Bool
  | []=>true
  | i::is=>is.all (fun j=>!(Nat.beq i j))&&nodupB is
theorem qgV {c:Ch}:∀ {is:List Nat},c ∈ pickL L is→∃ i ∈ is,L[i]?=some c
  | [],h=>by cases h
  | i::is,h=>by
    simp only [pickL] at h
    split at h
    · rename_i d hd
      rcases List.mem_cons.1 h with rfl|h
      · exact ⟨i,by simp,hd⟩
      · obtain ⟨j,hj,hc⟩:=qgV h;exact ⟨j,by simp [hj],hc⟩
    · obtain ⟨j,hj,hc⟩:=qgV h;exact ⟨j,by simp [hj],hc⟩
theorem SH.pick (is:List Nat) (h:SH w0 w L) (hn:nodupB is=true):SH w0 w (pickL L is):=by
  refine ⟨h.below,fun c hc=>?_,fun c hc=>?_,?_⟩
  · obtain ⟨i,_,hi⟩:=qgV hc;exact h.mem hi
  · obtain ⟨i,_,hi⟩:=qgV hc;exact h.elder c (jw hi)
  · induction is with
    | nil=>exact .nil
    | cons i is ih =>
      simp only [nodupB,jg,Je,jO] at hn
      have ih:=ih hn.2
      simp only [pickL]
      split
      · rename_i c hc
        refine List.pairwise_cons.2 ⟨fun d hd b hcb hdb=>?_,ih⟩
        obtain ⟨j,hj,hjd⟩:=qgV hd
        have hne:i ≠ j:=by
          intro hij
          have:=hn.1 j hj
          rw [hij,Nat.beq_refl] at this
          cases this
        obtain ⟨hil,rfl⟩:=List.getElem?_eq_some_iff.1 hc
        obtain ⟨hjl,rfl⟩:=List.getElem?_eq_some_iff.1 hjd
        rcases Nat.lt_or_gt_of_ne hne with hlt|hlt
        · exact List.pairwise_iff_getElem.1 h.apart i j hil hjl hlt b hcb hdb
        · exact List.pairwise_iff_getElem.1 h.apart j i hjl hil hlt b hdb hcb
      · exact ih
end
end Go.Fw


namespace Go.Fw
open Go
abbrev Env:=List (Nat × Value)
def Env.get:Env→Nat→Option Value
 | [],_=>none
 | p::e,j=>match Nat.beq p.1 j with
  | true=>some p.2
  | false=>Env.get e j
theorem beqT {a b:Nat} (h:Nat.beq a b=true):a=b:=Nat.eq_of_beq_eq_true h
theorem beqR (a:Nat):Nat.beq a a=true:=Nat.beq_refl a
def opv (e:Env):Operand→Option Value
 | .tmp t=>e.get t
 | .const v=>some v
 | .func f=>some (.func (.func f) #[] #[])
 | .global g=>some (.pointer (some ⟨g,0,none⟩))
structure Agree (n:Nat) (e:Env) (a:Act):Prop where
 defers:a.defers=[]
 size:a.tmps.size=n
 at_:∀ i v,e.get i=some v→a.tmps[i]?=some v
theorem Agree.eval {n:Nat} {e:Env} {a:Act} (h:Agree n e a) {x:Operand} {v:Value} (hx:opv e x=some v):a.eval x=v:=by
 cases x with
 | tmp t =>
  have:=h.at_ t v hx
  simp [Act.eval,Array.getD_eq_getD_getElem?,this]
 | const c=>simpa [opv,Act.eval] using hx
 | global g=>simpa [opv,Act.eval] using hx
 | func f=>simpa [opv,Act.eval] using hx
theorem Agree.put {n:Nat} {e:Env} {a:Act} (h:Agree n e a) {d:Nat} (hd:Nat.blt d n=true) (v:Value):Agree n ((d,v)::e) (a.put (some d) v):=by
 have hd':d<n:=by simpa [Nat.blt_eq] using hd
 refine ⟨h.defers,by simp [Act.put,h.size],fun i u hi=>?_⟩
 simp only [Env.get] at hi
 simp only [Act.put,Array.getElem?_setIfInBounds]
 by_cases hdi:d=i
 ·subst hdi
  have hb:Nat.beq d d=true:=beqR d
  rw [hb] at hi
  simp only [Option.some.injEq] at hi
  subst hi
  simp [h.size,hd']
 ·have hb:Nat.beq d i=false:=by
   cases hc:Nat.beq d i with
   | false=>rfl
   | true=>exact absurd (beqT hc) hdi
  rw [hb] at hi
  rw [if_neg hdi]
  exact h.at_ i u hi
theorem Agree.skip {n:Nat} {e:Env} {a:Act} (h:Agree n e a) (v:Value):Agree n e (a.put none v):=h
def subEnv (e:Env):Env→Prop
 | []=>True
 | p::l=>e.get p.1=some p.2∧subEnv e l
theorem Agree.sub {n:Nat} {e e':Env} {a:Act} (h:Agree n e a) (hs:subEnv e e'):Agree n e' a:=by
 refine ⟨h.defers,h.size,?_⟩
 induction e' with
 | nil=>intro i v hi;cases hi
 | cons p l ih =>
  intro i v hi
  simp only [Env.get] at hi
  cases hb:Nat.beq p.1 i with
  | true =>
   rw [hb] at hi
   simp only [Option.some.injEq] at hi
   subst hi
   have:p.1=i:=beqT hb
   subst this
   exact h.at_ _ _ hs.1
  | false =>
   rw [hb] at hi
   exact ih hs.2 i v hi
inductive It where
 | code (c:Code)
 | ops (all:Array Oper) (rest:List Oper)
 | blk (id:Nat)
 | goal (J:Act→World→Prop)
def post (P:Program) (Q:Exit→Act→World→Prop):List It→Exit→Act→World→Prop
 | []=>Q
 | .code c::k=>Exit.then (fun a w=>c.wp P (post P Q k) a w) (post P Q k)
 | .ops all l::k=>Exit.then (fun a w=>wpList P all (post P Q k) l a w) (post P Q k)
 | .blk id::k=>Exit.inBlock id (post P Q k)
 | .goal J::k=>Exit.then J (post P Q k)
def Run (P:Program) (n:Nat) (Q:Exit→Act→World→Prop) (k:List It) (e:Env) (w:World):Prop :=
 ∀ a,Agree n e a→post P Q k .normal a w
section
variable {P:Program} {n:Nat} {Q:Exit→Act→World→Prop} {k:List It} {e e':Env} {w w':World}
theorem qt5 (e':Env) (hs:subEnv e e') (h:Run P n Q k e' w):Run P n Q k e w:=fun a ha=>h a (ha.sub hs)
theorem qf1 {x y:Code} (h:Run P n Q (.code x::.code y::k) e w):Run P n Q (.code (.seq x y)::k) e w :=
 fun a ha=>wp_seq (h a ha)
theorem qeg (h:Run P n Q k e w):Run P n Q (.code .skip::k) e w :=
 fun a ha=>wp_skip (h a ha)
theorem ql {id:Nat} {c:Code} (h:Run P n Q (.code c::.blk id::k) e w):Run P n Q (.code (.block id c)::k) e w :=
 fun a ha=>wp_block (h a ha)
theorem qub {id:Nat} (h:Run P n Q k e w):Run P n Q (.blk id::k) e w:=fun a ha=>h a ha
def popTo (id:Nat):List It→Option (List It)
 | []=>none
 | .blk i::k=>match Nat.beq id i with
  | true=>some k
  | false=>popTo id k
 | _::k=>popTo id k
theorem qra {id:Nat} {k k':List It} (hk:popTo id k=some k') {a:Act} {w:World} (h:post P Q k' .normal a w):post P Q k (.exit id) a w:=by
 induction k with
 | nil=>cases hk
 | cons x k ih =>
  cases x with
  | blk i =>
   simp only [popTo] at hk
   simp only [post,Exit.inBlock]
   cases hb:Nat.beq id i with
   | true =>
    rw [hb] at hk
    simp only [Option.some.injEq] at hk
    subst hk
    rw [if_pos (beqT hb)]
    exact h
   | false =>
    rw [hb] at hk
    rw [if_neg (fun hh=>by rw [hh,beqR i] at hb;cases hb)]
    exact ih hk
  | code c=>exact ih hk
  | ops all l=>exact ih hk
  | goal J=>exact ih hk
theorem qp {id:Nat} {k':List It} (hk:popTo id k=some k') (h:Run P n Q k' e w):Run P n Q (.code (.exit id)::k) e w :=
 fun a ha=>wp_exit (qra hk (h a ha))
theorem qsE {k:List It} {a:Act} {w:World} (h:Q .ret a w):post P Q k .ret a w:=by
 induction k with
 | nil=>exact h
 | cons x k ih=>cases x<;>exact ih
theorem qo5 (h:∀ a,Agree n e a→Q .ret a w):Run P n Q (.code .ret::k) e w :=
 fun a ha=>wp_ret (qsE (h a ha))
theorem qjv {id:Nat} {ops:List Oper} (h:Run P n Q (.ops ops.toArray ops::k) e w):Run P n Q (.code (.region id ops.toArray false)::k) e w:=by
 intro a ha
 have:=h a ha
 refine wp_region ?_
 have he:=wpOps_eq_wpList (P:=P) (ops:=ops.toArray) (Q:=post P Q k) ops 0 (by simp)
 rw [show List.range ops.toArray.size=List.range' 0 ops.length from by simp [List.range_eq_range']]
 rw [he]
 exact this
theorem qa5 {all:Array Oper} (h:Run P n Q k e w):Run P n Q (.ops all []::k) e w:=fun a ha=>h a ha
theorem qkD {c:Operand} {x y:Code} {b:Bool} (hc:opv e c=some (.bool b)) (ht:b=true→Run P n Q (.code x::k) e w) (hf:b=false→Run P n Q (.code y::k) e w) :
  Run P n Q (.code (.cond c x y)::k) e w :=
 fun a ha=>wp_cond_split (ha.eval hc) (fun h=>ht h a ha) (fun h=>hf h a ha)
theorem qdF {c:Operand} {x y:Code} {b:Bool} (hc:opv e c=some (.bool b)) (hb:b=true) (ht:Run P n Q (.code x::k) e w) :
  Run P n Q (.code (.cond c x y)::k) e w :=
 fun a ha=>wp_cond_true (by rw [ha.eval hc,hb]) (ht a ha)
theorem qbJ {c:Operand} {x y:Code} {b:Bool} (hc:opv e c=some (.bool b)) (hb:b=false) (hf:Run P n Q (.code y::k) e w) :
  Run P n Q (.code (.cond c x y)::k) e w :=
 fun a ha=>wp_cond_false (by rw [ha.eval hc,hb]) (hf a ha)
open Classical in
theorem qqd {c:Code} {a:Act} (Inv:Nat→Act→World→Prop) (m:Nat) (h0:Inv m a w)
  (round:∀ m a w,Inv m a w→c.wp P (Exit.then (fun a' w'=>∃ m',m'<m∧Inv m' a' w') Q) a w):(Code.loop c).wp P Q a w:=by
 have hfind:∀ a w,(∃ m,Inv m a w)→∃ m,Inv m a w∧∀ m',Inv m' a w→m≤m':=by
  intro a w ⟨m,hm⟩
  induction m using Nat.strongRecOn with
  | _ m ih =>
   by_cases h:∃ m',m'<m∧Inv m' a w
   ·obtain ⟨m',h1,h2⟩:=h
    exact ih m' h1 h2
   ·exact ⟨m,hm,fun m' hm'=>Nat.le_of_not_lt fun hlt=>h ⟨m',hlt,hm'⟩⟩
 refine wp_loop (fun a w=>∃ m,Inv m a w) (fun a w=>if h:∃ m,Inv m a w then Classical.choose (hfind a w h) else 0) ⟨m,h0⟩ ?_
 intro a w hI
 have hs:=Classical.choose_spec (hfind a w hI)
 refine wp_mono (round _ a w hs.1) ?_
 intro ex a' w' hq
 cases ex with
 | normal =>
  obtain ⟨m',hlt,hm'⟩:=hq
  refine ⟨⟨m',hm'⟩,?_⟩
  have hI':∃ m,Inv m a' w':=⟨m',hm'⟩
  have hs':=Classical.choose_spec (hfind a' w' hI')
  rw [dif_pos hI',dif_pos hI]
  exact Nat.lt_of_le_of_lt (hs'.2 m' hm') hlt
 | exit id=>exact hq
 | goto l=>exact hq
 | ret=>exact hq
 | panic c=>exact hq
 | outgrown=>exact hq
def Back (n:Nat) (Inv:Nat→Env→World→Prop) (m:Nat) (a:Act) (w:World):Prop:=∃ m' e,m'<m∧Agree n e a∧Inv m' e w
theorem qtX {b:Code} (Inv:Nat→Env→World→Prop) (m:Nat) (h0:Inv m e w)
  (round:∀ m e w,Inv m e w→Run P n Q (.code b::.goal (Back n Inv m)::k) e w):Run P n Q (.code (.loop b)::k) e w:=by
 intro a ha
 refine qqd (fun m a w=>∃ e,Agree n e a∧Inv m e w) m ⟨e,ha,h0⟩ ?_
 rintro m a w ⟨e,ha,hI⟩
 refine wp_mono (round m e w hI a ha) ?_
 intro ex a' w' hq
 cases ex with
 | normal=>obtain ⟨m',e',h1,h2,h3⟩:=hq;exact ⟨m',h1,e',h2,h3⟩
 | exit id=>exact hq
 | goto l=>exact hq
 | ret=>exact hq
 | panic c=>exact hq
 | outgrown=>exact hq
theorem qtP {Inv:Nat→Env→World→Prop} {m:Nat} (m':Nat) (e':Env) (hm:m'<m) (hs:subEnv e e') (h:Inv m' e' w):Run P n Q (.goal (Back n Inv m)::k) e w :=
 fun _ ha=>⟨m',e',hm,ha.sub hs,h⟩
theorem qiQ {all:Array Oper} {o:Oper} {l:List Oper} {d:Nat} {v:Value} (hg:o.guard=none) (hd:o.dst=some d) (hn:Nat.blt d n=true)
  (h:∀ a,Agree n e a→(execOp a.eval o).run P w=.ok (.value v) w') (hk:Run P n Q (.ops all l::k) ((d,v)::e) w'):Run P n Q (.ops all (o::l)::k) e w:=by
 intro a ha
 show wpList P all (post P Q k) (o::l) a w
 have hw:Region.wanted o (yielded all a.tmps)=true:=by simp [Region.wanted,hg]
 rw [wpList,if_pos hw]
 refine .inl ?_
 unfold Oper.wp
 rw [h a ha,Oper.upon_value,hd]
 exact hk _ (ha.put hn v)
theorem qp5 {all:Array Oper} {o:Oper} {l:List Oper} (hg:o.guard=none) (hd:o.dst=none)
  (h:∀ a,Agree n e a→(execOp a.eval o).run P w=.ok .skip w') (hk:Run P n Q (.ops all l::k) e w'):Run P n Q (.ops all (o::l)::k) e w:=by
 intro a ha
 show wpList P all (post P Q k) (o::l) a w
 have hw:Region.wanted o (yielded all a.tmps)=true:=by simp [Region.wanted,hg]
 rw [wpList,if_pos hw]
 refine .inl ?_
 unfold Oper.wp
 rw [h a ha,Oper.upon_skip,hd]
 exact hk _ ha
theorem qkG {all:Array Oper} {o:Oper} {l:List Oper} {d:Nat} {f:FuncId} {args:Array Value} {R:Value→World→Prop} (hg:o.guard=none) (hd:o.dst=some d) (hn:Nat.blt d n=true)
  (h:∀ a,Agree n e a→(execOp a.eval o).run P w=.ok (.enter f args) w)
  (hc:Calls P f args w fun e w'=>∃ v,e=.returned v∧R v w')
  (hk:∀ v w',R v w'→Run P n Q (.ops all l::k) ((d,v)::e) w'):Run P n Q (.ops all (o::l)::k) e w:=by
 intro a ha
 show wpList P all (post P Q k) (o::l) a w
 have hw:Region.wanted o (yielded all a.tmps)=true:=by simp [Region.wanted,hg]
 rw [wpList,if_pos hw]
 refine .inl ?_
 unfold Oper.wp
 rw [h a ha,Oper.upon_enter]
 refine hc.mono ?_
 rintro e' w' ⟨v,rfl,hR⟩
 show wpList P all (post P Q k) l (a.put o.dst v) w'
 rw [hd]
 exact hk v w' hR _ (ha.put hn v)
def guardOf (e:Env) (all:Array Oper) (o:Oper):Option Bool :=
 match o.guard with
 | none=>some true
 | some (j,want) =>
  match all[j]? with
  | none=>none
  | some p =>
   match p.dst with
   | none=>none
   | some t =>
    match e.get t with
    | some (.bool b)=>some (match b,want with|true,true=>true|false,false=>true|_,_=>false)
    | _=>none
theorem qie {all:Array Oper} {o:Oper} {a:Act} {b:Bool} (ha:Agree n e a) (h:guardOf e all o=some b):Region.wanted o (yielded all a.tmps)=b:=by
 unfold guardOf at h
 unfold Region.wanted
 split at h
 ·rename_i hg
  rw [hg]
  simpa using h
 ·rename_i j want hg
  rw [hg]
  simp only
  split at h
  ·cases h
  ·rename_i p hp
   split at h
   ·cases h
   ·rename_i t ht
    split at h
    ·rename_i c hc
     have h1:=ha.at_ t _ hc
     have hy:yielded all a.tmps j=some c:=by
      simp [yielded,hp,ht,h1]
     rw [hy]
     simp only [Option.some.injEq] at h
     rw [←h]
     cases c<;>cases want<;>rfl
    ·cases h
theorem qrS {all:Array Oper} {o:Oper} {l:List Oper} (h:guardOf e all o=some true)
  (hk:Run P n Q (.ops all ({ o with guard:=none }::l)::k) e w):Run P n Q (.ops all (o::l)::k) e w:=by
 intro a ha
 have h1:=hk a ha
 show wpList P all (post P Q k) (o::l) a w
 have h2:wpList P all (post P Q k) ({ o with guard:=none }::l) a w:=h1
 have hw:=qie ha h
 rw [wpList,if_pos hw]
 rw [wpList,if_pos (by simp [Region.wanted])] at h2
 exact h2
end
end Go.Fw


namespace Go.Fw
open Go
inductive TK where
 | int (k:IntKind)|bool|str|ptr|slice (e:Nat)|struct|arr (n e:Nat)|other
 deriving DecidableEq
structure TE where
 kind:TK
 size:Nat
 bytes:Nat
 zero:Option Value
 fields:List (Nat × Nat × Option Bool)
def TE.agg (t:TE):Bool:=match t.kind with|.struct=>true|.arr _ _=>true|_=>false
def aggO (P:Program) (t:TypeId):Option Bool:=(P.underlying t).map fun|.struct _=>true|.array _ _=>true|_=>false
def aggB (P:Program) (t:TypeId):Bool:=match P.underlying t with|some (.struct _)|some (.array _ _)=>true|_=>false
def probe (P:Program) (t:TypeId):Option TE :=
 match P.info? t,P.underlying t with
 | some i,some d=>some {
   kind:=match d with|.int k=>.int k|.bool=>.bool|.string=>.str|.pointer _=>.ptr|.slice e=>.slice e|.struct _=>.struct|.array n e=>.arr n e|_=>.other
   size:=i.size
   bytes:=i.bytes
   zero:=i.zero
   fields:=match d with|.struct fs=>fs.toList.map (fun f=>(f.offset,P.cellsOf f.type,aggO P f.type))|_=>[] }
 | _,_=>none
abbrev Tab:=List (Nat × TE)
def Tab.get:Tab→Nat→Option TE
 | [],_=>none
 | p::e,j=>match Nat.beq p.1 j with
  | true=>some p.2
  | false=>Tab.get e j
def TabOk (P:Program) (T:Tab):Prop:=∀ t x,T.get t=some x→probe P t=some x
theorem TabOk.mk {P:Program}:∀ {T:Tab},T.map (fun p=>probe P p.1)=T.map (fun p=>some p.2)→TabOk P T
 | [],_=>fun _ _ h=>by cases h
 | p::T,h=>by
  simp only [Jb,List.cons.injEq] at h
  intro t x hx
  simp only [Tab.get] at hx
  cases hb:Nat.beq p.1 t with
  | true =>
   rw [hb] at hx
   simp only [Option.some.injEq] at hx
   rw [←beqT hb,h.1,hx]
  | false =>
   rw [hb] at hx
   exact TabOk.mk h.2 t x hx
section
variable {P:Program} {T:Tab}
theorem qd7 {t:TypeId} {x:TE} (h:probe P t=some x):∃ i,P.info? t=some i∧i.size=x.size∧i.bytes=x.bytes∧i.zero=x.zero:=by
 unfold probe at h
 split at h
 ·rename_i i d hi hd
  simp only [Option.some.injEq] at h
  subst h
  exact ⟨i,hi,rfl,rfl,rfl⟩
 ·cases h
theorem qgp {t:TypeId} {x:TE} (h:probe P t=some x):∃ d,P.underlying t=some d∧x.kind=(match d with|.int k=>.int k|.bool=>.bool|.string=>.str|.pointer _=>.ptr|.slice e=>.slice e|.struct _=>.struct|.array n e=>.arr n e|_=>.other):=by
 unfold probe at h
 split at h
 ·rename_i i d hi hd
  simp only [Option.some.injEq] at h
  subst h
  exact ⟨d,hd,rfl⟩
 ·cases h
theorem qbR {t e:TypeId} {x:TE} (h:probe P t=some x) (hk:x.kind=.slice e):P.underlying t=some (.slice e):=by
 obtain ⟨d,hd,hx⟩:=qgp h
 rw [hk] at hx
 rw [hd]
 cases d<;>simp at hx
 rw [hx]
theorem ql6 {t:TypeId} {x:TE} (h:probe P t=some x) (hk:x.kind=.str):P.underlying t=some .string:=by
 obtain ⟨d,hd,hx⟩:=qgp h
 rw [hk] at hx
 rw [hd]
 cases d<;>simp at hx
 rfl
theorem qqo {t:TypeId} {x:TE} (h:probe P t=some x) (hk:x.kind=.bool):P.underlying t=some .bool:=by
 obtain ⟨d,hd,hx⟩:=qgp h
 rw [hk] at hx
 rw [hd]
 cases d<;>simp at hx
 rfl
theorem qlZ {t:TypeId} {x:TE} {k:IntKind} (h:probe P t=some x) (hk:x.kind=.int k):P.underlying t=some (.int k):=by
 obtain ⟨d,hd,hx⟩:=qgp h
 rw [hk] at hx
 rw [hd]
 cases d<;>simp at hx
 rw [hx]
theorem qqY {t:TypeId} {x:TE} (h:probe P t=some x):aggB P t=x.agg:=by
 obtain ⟨d,hd,hx⟩:=qgp h
 unfold aggB TE.agg
 rw [hd,hx]
 cases d<;>rfl
theorem qrk {t:TypeId} {x:TE} (h:probe P t=some x) (w:World):(isAgg t).run P w=.ok x.agg w:=by
 rw [←qqY h]
 obtain ⟨d,hd,_⟩:=qgp h
 unfold isAgg aggB
 simp only [jl,run_underlying hd,jh,hd]
 cases d<;>rfl
theorem qfZ {t:TypeId} {x:TE} (h:probe P t=some x) (w:World):(sizeOf t).run P w=.ok x.size w:=by
 obtain ⟨i,hi,hs,_⟩:=qd7 h
 simp [sizeOf,typeInfo,hi,hs]
theorem qjJ {t:TypeId} {x:TE} (h:probe P t=some x) {f off sz:Nat} {ag:Option Bool} (hf:x.fields[f]?=some (off,sz,ag)) :
  ∃ fs fl,P.underlying t=some (.struct fs)∧fs[f]?=some fl∧fl.offset=off∧P.cellsOf fl.type=sz∧aggO P fl.type=ag:=by
 unfold probe at h
 split at h
 ·rename_i i d hi hd
  simp only [Option.some.injEq] at h
  subst h
  cases d<;>simp at hf
  rename_i fs
  obtain ⟨fl,hfl,h1,h2,h3⟩:=hf
  exact ⟨fs,fl,hd,by simpa using hfl,h1,h2,h3⟩
 ·cases h
def ibin (op:BinOp) (k:IntKind) (a b:Int):Option Value :=
 match op with
 | .add=>some (.int k (k.wrap (a+b)))
 | .sub=>some (.int k (k.wrap (a-b)))
 | .mul=>some (.int k (k.wrap (a*b)))
 | .eql=>some (.bool (a==b))
 | .neq=>some (.bool (a != b))
 | .lss=>some (.bool (decide (a<b)))
 | .leq=>some (.bool (decide (a≤b)))
 | .gtr=>some (.bool (decide (a > b)))
 | .geq=>some (.bool (decide (a ≥ b)))
 | .quo=>match b with
  | .ofNat (m+1)=>some (.int k (k.wrap (a.tdiv (.ofNat (m+1)))))
  | _=>none
 | .rem=>match b with
  | .ofNat (m+1)=>some (.int k (a.tmod (.ofNat (m+1))))
  | _=>none
 | _=>none
theorem qr9 {op:BinOp} {k:IntKind} {a b:Int} {v:Value} (h:ibin op k a b=some v) (t:TypeId) (w:World):(binOp op t (.int k a) (.int k b)).run P w=.ok v w:=by
 cases op<;>simp only [ibin,Option.some.injEq] at h
 case quo =>
  split at h
  ·simp only [Option.some.injEq] at h
   subst h
   rw [binOp]
   simp only [Op.intDiv,Int.ofNat_eq_natCast,ne_eq,not_true_eq_false,if_false]
   rw [if_neg (by omega)]
   rfl
  ·cases h
 case rem =>
  split at h
  ·simp only [Option.some.injEq] at h
   subst h
   rw [binOp]
   simp only [Op.intDiv,Int.ofNat_eq_natCast,ne_eq,not_true_eq_false,if_false]
   rw [if_neg (by omega)]
   rfl
  ·cases h
 all_goals first
  | (subst h;simp [binOp,Op.intArith,Op.intCmp];done)
  | cases h
def bbin (op:BinOp) (a b:Bool):Option Value :=
 match op with
 | .eql=>some (.bool (a==b))
 | .neq=>some (.bool (!(a==b)))
 | _=>none
def sbin (op:BinOp) (a b:ByteArray):Option Value :=
 match op with
 | .eql=>some (.bool (a.toList==b.toList))
 | .neq=>some (.bool (a.toList != b.toList))
 | _=>none
def opvs (e:Env):List Operand→Option (List Value)
 | []=>some []
 | x::l=>match opv e x,opvs e l with
  | some v,some vs=>some (v::vs)
  | _,_=>none
theorem qho {n:Nat} {e:Env} {a:Act} (ha:Agree n e a):∀ {l:List Operand} {vs:List Value},opvs e l=some vs→l.map a.eval=vs
 | [],vs,h=>by simp only [opvs,Option.some.injEq] at h;subst h;rfl
 | x::l,vs,h=>by
  simp only [opvs] at h
  split at h
  ·rename_i v ws hv hws
   simp only [Option.some.injEq] at h
   subst h
   rw [Jb,ha.eval hv,qho ha hws]
  ·cases h
def imin (op:Builtin) (vs:List Value):Option Value :=
 match op,vs with
 | .min,[.int k a,.int _ b]=>some (.int k (if b<a then b else a))
 | .max,[.int k a,.int _ b]=>some (.int k (if b > a then b else a))
 | .min,[.int k a,.int _ b,.int _ c]=>some (.int k (if c<(if b<a then b else a) then c else (if b<a then b else a)))
 | .max,[.int k a,.int _ b,.int _ c]=>some (.int k (if c > (if b > a then b else a) then c else (if b > a then b else a)))
 | .len,[.slice _ l _]=>some (.int .i64 l)
 | .len,[.string s]=>some (.int .i64 s.size)
 | .cap,[.slice _ _ c]=>some (.int .i64 c)
 | _,_=>none
def setCells (cs:List Value) (off:Nat):List Value→List Value
 | []=>cs
 | v::l=>setCells (cs.set off v) (off+1) l
def cellsL (v:Value):List Value :=
 match v with
 | .agg cs=>cs.toList
 | v=>[v]
def lenKind (T:Tab) (ts:List TypeId) (vs:List Value):Bool :=
 match ts,vs with
 | [t],[.slice _ _ _]=>match T.get t with|some x=>(match x.kind with|.slice _=>true|_=>false)|none=>false
 | [t],[.string _]=>match T.get t with|some x=>(match x.kind with|.str=>true|_=>false)|none=>false
 | _,_=>false
def pev (T:Tab) (e:Env) (o:Op):Option Value :=
 match o with
 | .move x|.assign x=>opv e x
 | .pick c a b=>match opv e c with
  | some (.bool true)=>opv e a
  | some (.bool false)=>opv e b
  | _=>none
 | .binOp op t x y _=>match opv e x,opv e y with
  | some (.int k a),some (.int k' b)=>match decEq k k' with
   | .isTrue _=>ibin op k a b
   | .isFalse _=>none
  | some (.bool a),some (.bool b)=>match T.get t with
   | some te=>match te.kind with|.bool=>bbin op a b|_=>none
   | none=>none
  | some (.string a),some (.string b)=>sbin op a b
  | _,_=>none
 | .unOp .not _ x=>match opv e x with
  | some (.bool b)=>some (.bool (!b))
  | _=>none
 | .unOp .neg _ x=>match opv e x with
  | some (.int k a)=>some (.int k (k.wrap (0-a)))
  | _=>none
 | .fieldAddr t x f=>match opv e x,T.get t with
  | some (.pointer (some ⟨b,o,none⟩)),some te=>match te.fields[f]? with
   | some (off,sz,_)=>match sz with
    | 0=>none
    | _+1=>some (.pointer (some ⟨b,o+off,none⟩))
   | none=>none
  | _,_=>none
 | .field t x f=>match opv e x,T.get t with
  | some (.agg cs),some te=>match te.fields[f]? with
   | some (off,sz,some true)=>some (.agg (cs.extract off (off+sz)))
   | some (off,_,some false)=>cs.toList[off]?
   | _=>none
  | _,_=>none
 | .extract x i=>match opv e x with
  | some (.tuple vs)=>vs.toList[i]?
  | _=>none
 | .nilCheck x=>match opv e x with
  | some (.pointer (some a))=>some (.pointer (some a))
  | some (.func (.func f) x y)=>some (.func (.func f) x y)
  | _=>none
 | .makeFunc fn first cap=>match opvs e first.toList,opvs e cap.toList with
  | some vs,some us=>some (.func fn vs.toArray us.toArray)
  | _,_=>none
 | .convert s d x=>match opv e x,T.get s,T.get d with
  | some (.int _ a),some _,some te=>match te.kind with
   | .int k=>some (.int k (k.wrap a))
   | _=>none
  | _,_,_=>none
 | .call c=>match c.callee with
  | .builtin b=>match opvs e c.args.toList with
   | some vs=>match b with
    | .len=>match lenKind T c.argTypes.toList vs with|true=>imin .len vs|false=>none
    | .min=>imin .min vs
    | .max=>imin .max vs
    | _=>none
   | none=>none
  | _=>none
 | _=>none
theorem qfe {n:Nat} {e:Env} {a:Act} (ha:Agree n e a) {xs:Array Operand} {vs:List Value} (h:opvs e xs.toList=some vs):xs.map a.eval=vs.toArray:=by
 have:=qho ha h
 apply Array.ext'
 simpa using this
theorem qhZ (op:BinOp) (t:TypeId) (x y:Operand) (k k':IntKind) (a b:Int) (w:World):(eqGuard op t x y (.int k a) (.int k' b)).run P w=.ok () w:=by
 unfold eqGuard;split<;>rfl
theorem qoJ (op:BinOp) (t:TypeId) (x y:Operand) (a b:Bool) (w:World):(eqGuard op t x y (.bool a) (.bool b)).run P w=.ok () w:=by
 unfold eqGuard;split<;>rfl
theorem qmn (op:BinOp) (t:TypeId) (x y:Operand) (a b:ByteArray) (w:World):(eqGuard op t x y (.string a) (.string b)).run P w=.ok () w:=by
 unfold eqGuard;split<;>rfl
theorem ql7 (d:Nat) {t:TypeId} (hu:P.underlying t=some .bool) (a b:Bool) (w:World):(Op.equalIn (d+1) t (.bool a) (.bool b)).run P w=.ok (a==b) w:=by
 simp [Op.equalIn,run_underlying hu]
theorem qsC {op:BinOp} {t:TypeId} (hu:P.underlying t=some .bool) {a b:Bool} {v:Value} (h:bbin op a b=some v) (w:World):(binOp op t (.bool a) (.bool b)).run P w=.ok v w:=by
 have he:(Op.equal t (.bool a) (.bool b)).run P w=.ok (a==b) w:=by
  simp only [Op.equal,Op.maxDepth]
  exact ql7 9999 hu a b w
 cases op<;>simp only [bbin,Option.some.injEq] at h
 case eql=>subst h;rw [binOp]<;>first|(intros;contradiction)|simp only [jl,he,jh,jn]
 case neq=>subst h;rw [binOp]<;>first|(intros;contradiction)|simp only [jl,he,jh,jn]
 all_goals cases h
theorem qsy {op:BinOp} {t:TypeId} {a b:ByteArray} {v:Value} (h:sbin op a b=some v) (w:World):(binOp op t (.string a) (.string b)).run P w=.ok v w:=by
 cases op<;>simp only [sbin,Option.some.injEq] at h
 case eql=>subst h;simp [binOp,Op.stringOp]
 case neq=>subst h;simp [binOp,Op.stringOp,bne]
 all_goals cases h
theorem qly {t:TypeId} {b:Bool} (h:aggO P t=some b) (w:World):(isAgg t).run P w=.ok b w:=by
 unfold aggO at h
 unfold isAgg
 cases hd:P.underlying t with
 | none=>rw [hd] at h;simp at h
 | some d=>rw [hd] at h;simp only [jW,Option.some.injEq] at h;simp only [jl,run_underlying hd,jh];cases d<;>subst h<;>rfl
theorem qnP {t:TypeId} {m:Nat} (h:P.cellsOf t=m+1) (w:World):(sizeOf t).run P w=.ok (m+1) w:=by
 unfold Program.cellsOf at h
 cases hi:P.info? t with
 | none=>rw [hi] at h;simp at h
 | some i=>rw [hi] at h;simp at h;simp [sizeOf,typeInfo,hi,h]
theorem qmr {t:TypeId} {b:Bool} {sz:Nat} (hb:aggO P t=some b) (h:P.cellsOf t=sz) (w:World):(sizeOf t).run P w=.ok sz w:=by
 unfold aggO Program.underlying at hb
 unfold Program.cellsOf at h
 cases hi:P.info? t with
 | none=>rw [hi] at hb;simp at hb
 | some i=>rw [hi] at h;simp at h;simp [sizeOf,typeInfo,hi,h]
theorem qpl (hT:TabOk P T) {t:TypeId} {te:TE} {f off m:Nat} {ag:Option Bool} (hte:T.get t=some te) (hf:te.fields[f]?=some (off,m+1,ag)) (b o:Nat) (w:World) :
  (Instr.fieldAt t (.pointer (some ⟨b,o,none⟩)) f).run P w=.ok (.pointer (some ⟨b,o+off,none⟩)) w:=by
 obtain ⟨fs,fl,hu,hfl,h1,h2,h3⟩:=qjJ (hT _ _ hte) hf
 have hsz:=qnP h2 w
 simp only [Instr.fieldAt,jl,run_underlying hu,jh,hfl,Instr.sureAddr,jn,fieldPlace,hsz,Nat.succ_ne_zero,if_false,h1,Addr.add]
 by_cases h0:off=0
 ·simp [h0]
 ·simp [h0]
theorem qop (hT:TabOk P T) {t:TypeId} {te:TE} {f off sz:Nat} (hte:T.get t=some te) (hf:te.fields[f]?=some (off,sz,some true)) (cs:Array Value) (w:World) :
  (Instr.field t (.agg cs) f).run P w=.ok (.agg (cs.extract off (off+sz))) w:=by
 obtain ⟨fs,fl,hu,hfl,h1,h2,h3⟩:=qjJ (hT _ _ hte) hf
 simp [Instr.field,run_underlying hu,hfl,asAgg,part,qly h3,qmr h3 h2,h1]
theorem qov (hT:TabOk P T) {t:TypeId} {te:TE} {f off sz:Nat} (hte:T.get t=some te) (hf:te.fields[f]?=some (off,sz,some false)) {cs:Array Value} {v:Value} (hv:cs.toList[off]?=some v) (w:World) :
  (Instr.field t (.agg cs) f).run P w=.ok v w:=by
 obtain ⟨fs,fl,hu,hfl,h1,h2,h3⟩:=qjJ (hT _ _ hte) hf
 have hcs:cs[off]?=some v:=by simpa using hv
 simp [Instr.field,run_underlying hu,hfl,asAgg,part,qly h3,h1,hcs]
theorem qs5 (hT:TabOk P T) {ts:Array TypeId} {vs:List Value} {v:Value} (hk:lenKind T ts.toList vs=true) (h:imin .len vs=some v) (t:TypeId) (w:World) :
  (Builtin.len_ ts t vs.toArray).run P w=.ok v w:=by
 unfold lenKind at hk
 split at hk
 ·rename_i t' p l c hts
  simp only [imin,Option.some.injEq] at h
  subst h
  split at hk
  ·rename_i x hx
   split at hk
   ·rename_i e he
    have hu:=qbR (hT _ _ hx) he
    have ht0:ts[0]?=some t':=by rw [←Array.getElem?_toList,hts];rfl
    simp [Builtin.len_,ht0,run_underlying hu,goInt]
   ·cases hk
  ·cases hk
 ·rename_i t' s hts
  simp only [imin,Option.some.injEq] at h
  subst h
  split at hk
  ·rename_i x hx
   split at hk
   ·rename_i he
    have hu:=ql6 (hT _ _ hx) he
    have ht0:ts[0]?=some t':=by rw [←Array.getElem?_toList,hts];rfl
    simp [Builtin.len_,ht0,run_underlying hu,goInt]
   ·cases hk
  ·cases hk
 ·cases hk
theorem qti {vs:List Value} {v:Value} (h:imin .min vs=some v) (ts:Array TypeId) (t:TypeId) (w:World):(Builtin.min_ ts t vs.toArray).run P w=.ok v w:=by
 unfold imin at h
 split at h<;>first|cases h;done|skip
 ·simp only [Option.some.injEq] at h
  subst h
  simp [Builtin.min_,Builtin.min2]
 ·rename_i hh;cases hh
 ·simp only [Option.some.injEq] at h
  subst h
  simp [Builtin.min_,Builtin.min2]
 all_goals (rename_i hh;first|cases hh;done|skip)
theorem qsU {vs:List Value} {v:Value} (h:imin .max vs=some v) (ts:Array TypeId) (t:TypeId) (w:World):(Builtin.max_ ts t vs.toArray).run P w=.ok v w:=by
 unfold imin at h
 split at h<;>first|cases h;done|skip
 ·rename_i hh;cases hh
 ·simp only [Option.some.injEq] at h
  subst h
  simp [Builtin.max_,Builtin.max2]
 ·rename_i hh;cases hh
 ·simp only [Option.some.injEq] at h
  subst h
  simp [Builtin.max_,Builtin.max2]
 all_goals (rename_i hh;first|cases hh;done|skip)
section
variable {n:Nat} {e:Env} {a:Act}
theorem qq4 (hT:TabOk P T) (ha:Agree n e a) {o:Oper} {v:Value} {op:BinOp} {t:TypeId} {x y:Operand} {t':TypeId} (ho:o.op=.binOp op t x y t') (h:pev T e (.binOp op t x y t')=some v) (w:World) :
  (execOp a.eval o).run P w=.ok (.value v) w:=by
 unfold execOp
 simp only [ho]
 simp only [pev] at h
 split at h
 ·rename_i k i k' j hx hy
  split at h
  ·rename_i hk _
   subst hk
   simp only [ha.eval hx,ha.eval hy,jl,qhZ,jh,qr9 h,jn]
  ·cases h
 ·rename_i i j hx hy
  split at h
  ·rename_i te hte
   split at h
   ·rename_i hk
    simp only [ha.eval hx,ha.eval hy,jl,qoJ,jh,qsC (qqo (hT _ _ hte) hk) h,jn]
   ·cases h
  ·cases h
 ·rename_i i j hx hy
  simp only [ha.eval hx,ha.eval hy,jl,qmn,jh,qsy h,jn]
 ·cases h
theorem qsB (hT:TabOk P T) (ha:Agree n e a) {o:Oper} {v:Value} {c:Call} (ho:o.op=.call c) (h:pev T e (.call c)=some v) (w:World) :
  (execOp a.eval o).run P w=.ok (.value v) w:=by
 obtain ⟨cal,args,ats⟩:=c
 unfold execOp
 simp only [ho]
 simp only [pev] at h
 split at h
 ·split at h
  ·rename_i vs hvs
   have hargs:=qfe ha hvs
   simp only [resolve,invoke,builtin,jl,jn,jh,hargs]
   split at h
   ·split at h
    ·rename_i hk
     simp only [qs5 hT hk h,jl,jn,jh]
    ·cases h
   ·simp only [qti h,jl,jn,jh]
   ·simp only [qsU h,jl,jn,jh]
   ·cases h
  ·cases h
 ·cases h
theorem qrZ (hT:TabOk P T) (ha:Agree n e a) {o:Oper} {v:Value} (h:pev T e o.op=some v) (w:World) :
  (execOp a.eval o).run P w=.ok (.value v) w:=by
 generalize ho:o.op=op at h
 cases op with
 | binOp op t x y t'=>exact qq4 hT ha ho h w
 | call c=>exact qsB hT ha ho h w
 | move x=>simp only [pev] at h;simp [execOp,ho,ha.eval h]
 | assign x=>simp only [pev] at h;simp [execOp,ho,ha.eval h]
 | pick c x y =>
  simp only [pev] at h
  split at h
  ·rename_i hc;simp [execOp,ho,ha.eval hc,ha.eval h,asBool]
  ·rename_i hc;simp [execOp,ho,ha.eval hc,ha.eval h,asBool]
  ·cases h
 | unOp op t x =>
  cases op<;>simp only [pev] at h
  case neg =>
   split at h
   ·rename_i hb;simp only [Option.some.injEq] at h;subst h;simp [execOp,ho,ha.eval hb,Op.unary,Op.intArith]
   ·cases h
  case not =>
   split at h
   ·rename_i hb;simp only [Option.some.injEq] at h;subst h;simp [execOp,ho,ha.eval hb,Op.unary]
   ·cases h
  all_goals cases h
 | fieldAddr t x f =>
  simp only [pev] at h
  split at h
  ·rename_i b o' te hb hte
   split at h
   ·rename_i off sz ag hf
    split at h
    ·cases h
    ·simp only [Option.some.injEq] at h
     subst h
     simp [execOp,ho,ha.eval hb,qpl hT hte hf]
   ·cases h
  ·cases h
 | field t x f =>
  simp only [pev] at h
  split at h
  ·rename_i cs te hb hte
   split at h
   ·rename_i off sz hf
    simp only [Option.some.injEq] at h
    subst h
    simp [execOp,ho,ha.eval hb,qop hT hte hf]
   ·rename_i off sz hf
    simp [execOp,ho,ha.eval hb,qov hT hte hf h]
   ·cases h
  ·cases h
 | extract x i =>
  simp only [pev] at h
  split at h
  ·rename_i vs hb
   have hcs:vs[i]?=some v:=by simpa using h
   simp [execOp,ho,ha.eval hb,Instr.extract,hcs]
  ·cases h
 | nilCheck x =>
  simp only [pev] at h
  split at h
  ·rename_i ad hb
   simp only [Option.some.injEq] at h
   subst h
   simp [execOp,ho,ha.eval hb]
  ·rename_i f x y hb
   simp only [Option.some.injEq] at h
   subst h
   simp [execOp,ho,ha.eval hb]
  ·cases h
 | makeFunc fn x y =>
  simp only [pev] at h
  split at h
  ·rename_i vs us hv hu
   simp only [Option.some.injEq] at h
   subst h
   simp [execOp,ho,Instr.makeFunc,qfe ha hv,qfe ha hu]
  ·cases h
 | convert s d x =>
  simp only [pev] at h
  split at h
  ·rename_i k i ts te hx hs hd
   split at h
   ·rename_i k' hk
    simp only [Option.some.injEq] at h
    subst h
    have hu:=qlZ (hT _ _ hd) hk
    obtain ⟨ds,hds,_⟩:=qgp (hT _ _ hs)
    simp only [execOp,ho,ha.eval hx,convert,jl,run_underlying hu,run_underlying hds,jh,Conv.intToInt,jn]
   ·cases h
  ·cases h
 | _=>cases h
end
theorem r_p (hT:TabOk P T) {n:Nat} {Q:Exit→Act→World→Prop} {k:List It} {e:Env} {w:World} {all:Array Oper} {l:List Oper} {op:Op} {d t:Nat} {ps:String} {af:Array Edge} {v:Value}
  (h:pev T e op=some v) (hn:Nat.blt d n=true) (hk:Run P n Q (.ops all l::k) ((d,v)::e) w):Run P n Q (.ops all (⟨some d,op,t,ps,af,none⟩::l)::k) e w :=
 qiQ rfl rfl hn (fun _ ha=>qrZ hT ha h w) hk
end
end Go.Fw


namespace Go.Fw
open Go
open Go.RowKit (Below)
def idx {α:Type} (xs:List α) (i:Int):Option α:=if 0≤i then xs[i.toNat]? else none
theorem qax {α:Type} {xs:List α} {i:Int} {x:α} (h:idx xs i=some x):0≤i∧i<xs.length∧xs[i.toNat]?=some x:=by
 unfold idx at h
 split at h
 ·rename_i h0
  have:=(List.getElem?_eq_some_iff.1 h).1
  exact ⟨h0,by omega,h⟩
 ·cases h
def CellsAt (w:World) (b o:Nat) (cs:List Value):Prop:=∀ j v,cs[j]?=some v→w.cell? ⟨b,o+j,none⟩=some v
section
variable {P:Program} {T:Tab} {n:Nat} {Q:Exit→Act→World→Prop} {k:List It} {e:Env} {w0 w w':World} {L:List Ch}
theorem CellsAt.loc {b o:Nat} {cs:List Value} (h:CellsAt w b o cs) (hb:w'.heap[b]?=w.heap[b]?):CellsAt w' b o cs :=
 fun j v hj=>by rw [World.cell?_of_block (w:=w) (a:=⟨b,o+j,none⟩) hb];exact h j v hj
theorem CellsAt.below {b o:Nat} {cs:List Value} (h:CellsAt w b o cs) (hb:Below w.heap.size w w'):CellsAt w' b o cs:=by
 by_cases hc:cs=[]
 ·subst hc;intro j v hj;simp at hj
 ·obtain ⟨v,cs',rfl⟩:=List.exists_cons_of_ne_nil hc
  have h0:=h 0 v rfl
  exact h.loc (hb.block b (World.block_lt_of_cell? w _ h0))
theorem CellsAt.of_block {b:Nat} {cur:Array Value} {t:TypeId} {fr:Nat × Nat} {o:Nat} {cs:List Value} (hg:w.heap[b]?=some (.cells cur t fr)) (h:∀ j v,cs[j]?=some v→cur[o+j]?=some v):CellsAt w b o cs:=by
 intro j v hj
 simp [World.cell?,hg,h j v hj]
theorem SH.box {b:Nat} {cs:List Value} {t:TypeId} (h:SH w0 w L) (i:Nat) (hi:L[i]?=some (Ch.box b cs t)):CellsAt w b 0 cs:=by
 have hg:w.heap[b]?=some (.cells cs.toArray t (0,0)):=(h.mem hi).1
 exact CellsAt.of_block hg (fun j v hj=>by simpa using hj)
theorem SlR.at {α:Type} [GoT α] {S:Nat→Prop} {xs:List α} {p c} {i:Int} {x:α} (h:SlR w S xs p c) (hx:idx xs i=some x) :
  ∃ b o q cs,p=some ⟨b,o,none⟩∧q=o+i.toNat*GoT.k α∧S b∧GoT.R w S x cs∧CellsAt w b q cs:=by
 obtain ⟨h0,hlt,hxi⟩:=qax hx
 obtain ⟨h1,h2,h3⟩:=h
 rcases h3 with ⟨_,rfl⟩|⟨b,o,cur,T,fr,rfl,hb,hg,hc,hx'⟩
 ·simp at hlt;omega
 ·obtain ⟨cs,hr,hj⟩:=hx' _ _ hxi
  exact ⟨b,o,_,cs,rfl,rfl,hb,hr,CellsAt.of_block hg hj⟩
theorem SH.oldS {α:Type} [GoT α] {xs:List α} {p c} (h:SH w0 w L) (hr:SlR w0 (Fw.old w0) xs p c):SlR w (Fw.old w) xs p c :=
 (hr.loc (fun b hb=>h.below.block b hb)).mono (fun _ hb=>jy hb h.below.size)
theorem SlR.below {α:Type} [GoT α] {xs:List α} {p c} (hr:SlR w (Fw.old w) xs p c) (h:Below w.heap.size w w'):SlR w' (Fw.old w') xs p c :=
 (hr.loc (fun b hb=>h.block b hb)).mono (fun _ hb=>jy hb h.size)
theorem SH.sl {α:Type} [GoT α] {S:Nat→Prop} {xs:List α} {p:Option Addr} {ln c:Nat} (h:SH w0 w L) (i:Nat) (hi:L[i]?=some (Ch.own S xs [.slice p ln c])):SlR w (Fw.old w) xs p c∧ln=xs.length:=by
 obtain ⟨h1,h2⟩:=h.mem hi
 obtain ⟨p',c',he,ho⟩:=h1
 simp only [List.cons.injEq,Value.slice.injEq,and_true] at he
 obtain ⟨rfl,rfl,rfl⟩:=he
 exact ⟨ho.toR.mono (fun b hb=>(h2 b hb).2),rfl⟩
def Val (P:Program) (n:Nat) (e:Env) (o:Oper) (w:World) (v:Value):Prop:=∀ a,Agree n e a→(execOp a.eval o).run P w=.ok (.value v) w
theorem v_p (hT:TabOk P T) {o:Oper} {v:Value} (h:pev T e o.op=some v) (w:World):Val P n e o w v:=fun _ ha=>qrZ hT ha h w
theorem r_v {all:Array Oper} {l:List Oper} {op:Op} {d t:Nat} {ps:String} {af:Array Edge} {v:Value}
  (h:Val P n e ⟨some d,op,t,ps,af,none⟩ w v) (hn:Nat.blt d n=true) (hk:Run P n Q (.ops all l::k) ((d,v)::e) w):Run P n Q (.ops all (⟨some d,op,t,ps,af,none⟩::l)::k) e w :=
 qiQ rfl rfl hn h hk
def ld (te:TE) (cs:List Value) (j:Nat):Option Value :=
 match te.agg with
 | true=>match Nat.ble (j+te.size) cs.length with
  | true=>some (.agg ((cs.drop j).take te.size).toArray)
  | false=>none
 | false=>cs[j]?
theorem qfQ (b o j:Nat):(⟨b,o,none⟩:Addr).add j=⟨b,o+j,none⟩:=by
 unfold Addr.add;split<;>simp_all
theorem qnv (hT:TabOk P T) {t:TypeId} {te:TE} (hte:T.get t=some te) {b o j:Nat} {cs:List Value} {v:Value} (hc:CellsAt w b o cs) (hv:ld te cs j=some v) :
  (Instr.loadAt t (.pointer (some ⟨b,o+j,none⟩))).run P w=.ok v w:=by
 have hpr:=hT _ _ hte
 unfold ld at hv
 simp only [Instr.loadAt,Instr.sureAddr,loadVar,jl,jn,jh,qrk hpr]
 split at hv
 ·rename_i hag
  split at hv
  ·rename_i hle
   simp only [Option.some.injEq] at hv
   subst hv
   have hle':j+te.size≤cs.length:=js hle
   rw [if_pos hag]
   have hlen:((cs.drop j).take te.size).length=te.size:=by simp;omega
   have hl:=run_loadCells_list (P:=P) w ⟨b,o+j,none⟩ ((cs.drop j).take te.size) (fun i u hi=>by
    rw [qfQ]
    rw [jt] at hi
    split at hi
    ·rw [jA] at hi
     have:=hc (j+i) u hi
     rw [Nat.add_assoc];exact this
    ·cases hi)
   rw [hlen] at hl
   simp only [jl,qfZ hpr,jh,hl,jn]
  ·cases hv
 ·rename_i hag
  have:w.cell? ⟨b,o+j,none⟩=some v:=hc j v hv
  simp [hag,this]
theorem qfk (hT:TabOk P T) {x:Operand} {t ty d:Nat} {te:TE} {ps:String} {af:Array Edge} {g:Option (Nat × Bool)} {b o j:Nat} {cs:List Value} {v:Value}
  (hc:CellsAt w b o cs) (hx:opv e x=some (.pointer (some ⟨b,o+j,none⟩))) (hte:T.get t=some te) (hv:ld te cs j=some v):Val P n e ⟨some d,.load t x,ty,ps,af,g⟩ w v:=by
 intro a ha
 simp only [execOp,ha.eval hx,jl,qnv hT hte hc hv,jh,jn]
theorem qlx (hT:TabOk P T) {x i:Operand} {t ty d el m:Nat} {te te':TE} {ps:String} {af:Array Edge} {g:Option (Nat × Bool)} {p:Option Addr} {ln c:Nat} {kd:IntKind} {iv:Int} {b o q:Nat}
  (hp:p=some ⟨b,o,none⟩) (hq:q=o+iv.toNat*m) (hlt:0≤iv∧iv<ln) (hx:opv e x=some (.slice p ln c)) (hi:opv e i=some (.int kd iv))
  (hte:T.get t=some te) (hk:te.kind=.slice el) (hel:T.get el=some te') (hm:te'.size=m):Val P n e ⟨some d,.indexAddr t x i,ty,ps,af,g⟩ w (.pointer (some ⟨b,q,none⟩)):=by
 intro a ha
 subst hp hq
 have hu:=qbR (hT _ _ hte) hk
 have hs:=qfZ (hT _ _ hel) w
 simp only [execOp,ha.eval hx,ha.eval hi,jl,Instr.indexAt,asIntOf,jn,jh,run_underlying hu]
 rw [if_pos hlt]
 simp only [jl,hs,jh,jn,qfQ,hm]
def splice (cs:List Value) (j:Nat) (vs:List Value):List Value:=cs.take j++vs++cs.drop (j+vs.length)
theorem qc1 (v:Value):v.cells.toList=cellsL v:=by cases v<;>rfl
def ones (vs:List Value):Bool:=vs.all Value.oneCell'
theorem qkt (hT:TabOk P T) {t:TypeId} {te:TE} (hte:T.get t=some te) {b o:Nat} {cur:Array Value} {t':TypeId} {v:Value} (hg:w.heap[b]?=some (.cells cur t' (0,0)))
  (hsz:(cellsL v).length=te.size) (hle:o+(cellsL v).length≤cur.size) (h1:ones (cellsL v)=true) :
  (Instr.storeAt t (.pointer (some ⟨b,o,none⟩)) v).run P w=.ok () (w.setRow b (splice cur.toList o (cellsL v)).toArray):=by
 have hpr:=hT _ _ hte
 have hst:=run_storeCells_at P b o t' (cellsL v) 0 cur w hg (by simpa using hle) (by simpa [ones] using h1)
 have hs:v.cells.size=te.size:=by rw [←hsz,←qc1];simp
 simp only [Instr.storeAt,Instr.sureAddr,storeVar,jl,jn,jh,qfZ hpr,hs,ne_eq,not_true_eq_false,if_false,qc1,hst,splice,Jc]
theorem qql {b:Nat} {cs cs':List Value} {t:TypeId} {i:Nat} (h:SH w0 w L) (hi:L[i]?=some (Ch.box b cs t)):SH w0 (w.setRow b cs'.toArray) (L.set i (Ch.box b cs' t)):=by
 have hg:w.heap[b]?=some (.cells cs.toArray t (0,0)):=(h.mem hi).1
 refine h.upd hi rfl rfl rfl (by simp) (fun a _ ha=>setRow_other w b a _ ha) (setRow_heap w b _ _ t _ hg) (fun a ha=>.inl ha) (fun _ hd=>hd.elim)
theorem qsW (hT:TabOk P T) {all:Array Oper} {l:List Oper} {t ty:Nat} {ps:String} {af:Array Edge} {x v:Operand} {te:TE} {b j:Nat} {cs:List Value} {t':TypeId} {u:Value} (i:Nat)
  (h:SH w0 w L) (hi:L[i]?=some (Ch.box b cs t')) (hx:opv e x=some (.pointer (some ⟨b,j,none⟩))) (hv:opv e v=some u) (hte:T.get t=some te)
  (hsz:Nat.beq (cellsL u).length te.size=true) (hle:Nat.ble (j+(cellsL u).length) cs.length=true) (h1:ones (cellsL u)=true)
  (hk:∀ w',SH w0 w' (L.set i (Ch.box b (splice cs j (cellsL u)) t'))→Run P n Q (.ops all l::k) e w'):Run P n Q (.ops all (⟨none,.store t x v,ty,ps,af,none⟩::l)::k) e w:=by
 have hg:w.heap[b]?=some (.cells cs.toArray t' (0,0)):=(h.mem hi).1
 refine qp5 rfl rfl (fun a ha=>?_) (hk _ (qql h hi))
 have:=qkt hT hte hg (beqT hsz) (by simpa using js hle) h1
 simp only [execOp,ha.eval hx,ha.eval hv,jl,this,jh,jn]
theorem getElem?_splice {cs vs:List Value} {j i:Nat} (hle:j+vs.length≤cs.length):(splice cs j vs)[i]?=if i<j then cs[i]? else if i<j+vs.length then vs[i-j]? else cs[i]?:=by
 unfold splice
 have hj:(cs.take j).length=j:=by simp;omega
 rw [Jg,List.getElem?_append,hj]
 split
 ·rename_i h;rw [jt,if_pos h]
 ·rw [List.getElem?_append]
  split
  ·rename_i h1 h2;rw [if_pos (by omega)]
  ·rename_i h1 h2
   rw [if_neg (by omega),jA]
   congr 1
   omega
theorem qcj {cs vs:List Value} {j:Nat} (hle:j+vs.length≤cs.length):(splice cs j vs).length=cs.length:=by
 unfold splice;simp;omega
theorem qsL {α:Type} [GoT α] [Flat α] {S:Nat→Prop} {xs:List α} {p:Option Addr} {ln c:Nat} {b o q j:Nat} {iv:Int} {y y':α} {cs vs:List Value} {i:Nat}
  (h:SH w0 w L) (hi:L[i]?=some (Ch.own S xs [.slice p ln c])) (hy:idx xs iv=some y) (hp:p=some ⟨b,o,none⟩) (hq:q=o+iv.toNat*GoT.k α) (hcs:GoT.R w (Fw.old w) y cs) (hc:CellsAt w b q cs)
  (hO:GoT.R w (Fw.old w) y' (splice cs j vs)) (hle:j+vs.length≤cs.length) :
  ∃ cur t,w.heap[b]?=some (.cells cur t (0,0))∧q+j+vs.length≤cur.size ∧
   SH w0 (w.setRow b (splice cur.toList (q+j) vs).toArray) (L.set i (Ch.own S (xs.set iv.toNat y') [.slice p ln c])):=by
 obtain ⟨hP,hS⟩:=h.mem hi
 obtain ⟨h0,hlt,hxi⟩:=qax hy
 obtain ⟨p',c',he,h1,h2,h3⟩:=hP
 simp only [List.cons.injEq,Value.slice.injEq,and_true] at he
 obtain ⟨rfl,rfl,rfl⟩:=he
 rcases h3 with ⟨rfl,_,_⟩|⟨b',cur,t,F,hpb,hb,hg,hcur,hF,hd,hx'⟩
 ·cases hp
 ·subst hp
  simp only [Option.some.injEq,Addr.mk.injEq,and_true] at hpb
  obtain ⟨rfl,rfl⟩:=hpb
  simp only [Jj] at hq
  subst hq
  have hk:=GoT.len hcs
  have hbound:iv.toNat*GoT.k α+GoT.k α≤cur.size:=by
   rw [hcur,←jQ]
   exact jx _ (by have:=(List.getElem?_eq_some_iff.1 hxi).1;omega)
  have hfit:iv.toNat*GoT.k α+j+vs.length≤cur.toList.length:=by simp;omega
  refine ⟨cur,t,hg,by simpa using hfit,?_⟩
  refine h.upd hi rfl rfl rfl (by simp) (fun a _ ha=>setRow_other w b a _ (fun hab=>ha (hab ▸ hb))) ?_ (fun a ha=>.inl ha) (fun _ hd=>hd.elim)
  refine ⟨some ⟨b,0,none⟩,c,by simp,by simpa using h1,h2,.inr ⟨b,_,t,F,rfl,hb,setRow_heap w b _ _ t _ hg,?_,hF,hd,?_⟩⟩
  ·rw [jV,qcj hfit];simpa using hcur
  ·intro m x hm
   rw [List.getElem?_set] at hm
   split at hm
   ·rename_i hmi
    subst hmi
    split at hm
    ·simp only [Option.some.injEq] at hm
     subst hm
     refine ⟨_,Flat.fl hO,fun r v hr=>?_⟩
     rw [jI,getElem?_splice hfit]
     rw [getElem?_splice hle] at hr
     have hcell:∀ r v,cs[r]?=some v→cur.toList[iv.toNat*GoT.k α+r]?=some v:=by
      intro r v hr
      have:=hc r v hr
      simp only [World.cell?,hg] at this
      simpa using this
     split at hr
     ·rw [if_pos (by omega)];exact hcell _ _ hr
     ·split at hr
      ·rw [if_neg (by omega),if_pos (by omega)]
       rw [show iv.toNat*GoT.k α+r-(iv.toNat*GoT.k α+j)=r-j by omega]
       exact hr
      ·rw [if_neg (by omega),if_neg (by omega)]
       exact hcell _ _ hr
    ·cases hm
   ·rename_i hmi
    obtain ⟨cs',hr',hj'⟩:=hx' m x hm
    refine ⟨cs',Flat.fl (GoT.toR hr'),fun r v hr=>?_⟩
    have hr0:=hj' r v hr
    have hrk:r<GoT.k α:=by have:=GoT.len (GoT.toR hr');have:=(List.getElem?_eq_some_iff.1 hr).1;omega
    rw [jI,getElem?_splice hfit]
    have hne:m*GoT.k α+r<iv.toNat*GoT.k α∨iv.toNat*GoT.k α+GoT.k α≤m*GoT.k α+r:=by
     rcases Nat.lt_or_gt_of_ne hmi with hlt'|hlt'
     ·right
      have:(iv.toNat+1)*GoT.k α≤m*GoT.k α:=jx _ hlt'
      rw [jQ] at this
      omega
     ·left
      have:(m+1)*GoT.k α≤iv.toNat*GoT.k α:=jx _ hlt'
      rw [jQ] at this
      omega
    have hr0':cur.toList[m*GoT.k α+r]?=some v:=by simpa using hr0
    rcases hne with hne|hne
    ·rw [if_pos (by omega)];exact hr0'
    ·rw [if_neg (by omega),if_neg (by omega)];exact hr0'
theorem qbE (hT:TabOk P T) {α:Type} [GoT α] [Flat α] {all:Array Oper} {l:List Oper} {t ty:Nat} {ps:String} {af:Array Edge} {x v:Operand} {te:TE} {S:Nat→Prop} {xs:List α} {p:Option Addr} {ln c:Nat} {b o q:Nat} {iv:Int} {y:α} {cs:List Value} {u:Value} (i j:Nat) (y':α)
  (h:SH w0 w L) (hi:L[i]?=some (Ch.own S xs [.slice p ln c])) (hy:idx xs iv=some y) (hp:p=some ⟨b,o,none⟩) (hq:q=o+iv.toNat*GoT.k α) (hcs:GoT.R w (Fw.old w) y cs) (hc:CellsAt w b q cs)
  (hx:opv e x=some (.pointer (some ⟨b,q+j,none⟩))) (hv:opv e v=some u) (hte:T.get t=some te) (hO:GoT.R w (Fw.old w) y' (splice cs j (cellsL u)))
  (hsz:Nat.beq (cellsL u).length te.size=true) (hle:Nat.ble (j+(cellsL u).length) cs.length=true) (h1:ones (cellsL u)=true)
  (hk:∀ w',SH w0 w' (L.set i (Ch.own S (xs.set iv.toNat y') [.slice p ln c]))→Run P n Q (.ops all l::k) e w'):Run P n Q (.ops all (⟨none,.store t x v,ty,ps,af,none⟩::l)::k) e w:=by
 obtain ⟨cur,t',hg,hfit,hsh⟩:=qsL h hi hy hp hq hcs hc hO (js hle)
 refine qp5 rfl rfl (fun a ha=>?_) (hk _ hsh)
 have:=qkt hT hte hg (beqT hsz) (by omega) h1
 simp only [execOp,ha.eval hx,ha.eval hv,jl,this,jh,jn]
theorem qO {all:Array Oper} {l:List Oper} {d t ty:Nat} {ps:String} {af:Array Edge} {x:Operand} {v:Value} (h:SH w0 w L) (hx:opv e x=some v) (hn:Nat.blt d n=true)
  (hk:∀ w' b,SH w0 w' (Ch.box b (cellsL v) t::L)→Run P n Q (.ops all l::k) ((d,.pointer (some ⟨b,0,none⟩))::e) w'):Run P n Q (.ops all (⟨some d,.box t x,ty,ps,af,none⟩::l)::k) e w:=by
 refine qiQ rfl rfl hn (fun a ha=>?_) (hk _ _ (h.alloc (cellsL v) t))
 simp only [execOp,ha.eval hx,Instr.box,newVar,newRow,jl,run_newObj,jh,jn]
 rw [←qc1]
 rfl
theorem qB (hT:TabOk P T) {all:Array Oper} {l:List Oper} {d t ty:Nat} {ps:String} {af:Array Edge} {te:TE} {v:Value} (h:SH w0 w L) (hte:T.get t=some te) (hz:te.zero=some v) (hn:Nat.blt d n=true)
  (hk:∀ w' b,SH w0 w' (Ch.box b (cellsL v) t::L)→Run P n Q (.ops all l::k) ((d,.pointer (some ⟨b,0,none⟩))::e) w'):Run P n Q (.ops all (⟨some d,.alloc t,ty,ps,af,none⟩::l)::k) e w:=by
 obtain ⟨i,hi,_,_,hz'⟩:=qd7 (hT _ _ hte)
 refine qiQ rfl rfl hn (fun a ha=>?_) (hk _ _ (h.alloc (cellsL v) t))
 simp only [execOp,Instr.alloc,zeroValue,typeInfo,hi,hz',hz,newVar,newRow,jl,run_newObj,jh,jn,run_program]
 rw [←qc1]
 rfl
theorem SH.nil {α:Type} [GoT α] (h:SH w0 w L):SH w0 w (Ch.own (fun _=>False) ([]:List α) [.slice none 0 0]::L):=by
 refine h.add (Below.refl _ _) ?_ (fun b hb=>hb.elim) (fun _ hd=>hd.elim)
 exact ⟨none,0,rfl,by simp,by simp,.inl ⟨rfl,rfl,rfl⟩⟩
end
end Go.Fw


namespace Go.Fw
open Go
open Go.RowKit (Below)
def big:Nat:=2147483648
section
variable {P:Program} {T:Tab} {n:Nat} {Q:Exit→Act→World→Prop} {k:List It} {e:Env} {w0 w w':World} {L:List Ch}
theorem qox {z:List Value} {m i j:Nat} {v:Value} (_:0<z.length) (hi:i<m) (hj:z[j]?=some v):(madeCells z.toArray (m*z.length))[i*z.length+j]?=some v:=by
 have hjl:j<z.length:=(List.getElem?_eq_some_iff.1 hj).1
 have hlt:i*z.length+j<m*z.length:=by
  have:(i+1)*z.length≤m*z.length:=jx _ hi
  rw [jQ] at this
  omega
 have hmod:(i*z.length+j) % z.length=j:=by
  rw [Nat.add_comm,Nat.add_mul_mod_self_right,Nat.mod_eq_of_lt hjl]
 unfold madeCells
 rw [Array.getElem?_map,Array.getElem?_range,if_pos hlt]
 simp only [jW,jV,hmod,Option.some.injEq]
 have:z[j]=v:=(List.getElem?_eq_some_iff.1 hj).2
 simp [hjl,this]
theorem qtx (hT:TabOk P T) (α:Type) [GoT α] {all:Array Oper} {l:List Oper} {d t ty el:Nat} {ps:String} {af:Array Edge} {te te':TE} {x y:Operand} {kd kd':IntKind} {nv:Int} {zv:Value}
  (h:SH w0 w L) (hx:opv e x=some (.int kd nv)) (hy:opv e y=some (.int kd' nv)) (hte:T.get t=some te) (hk:te.kind=.slice el) (hel:T.get el=some te') (hz:te'.zero=some zv) (hzc:cellsL zv=GoT.zc α) (hsz:te'.size=GoT.k α)
  (hb:Nat.ble te'.bytes 65536=true) (h0:0≤nv) (hbig:nv≤big) (hn:Nat.blt d n=true)
  (hkk:∀ w' S p,SH w0 w' (Ch.own S (List.replicate nv.toNat (GoT.zero:α)) [.slice p nv.toNat nv.toNat]::L)→Run P n Q (.ops all l::k) ((d,.slice p nv.toNat nv.toNat)::e) w') :
  Run P n Q (.ops all (⟨some d,.makeSlice t x y,ty,ps,af,none⟩::l)::k) e w:=by
 obtain ⟨i,hi,hs,hby,hzi⟩:=qd7 (hT _ _ hel)
 have hb':=js hb
 have hbytes:(i.bytes:Int)*nv≤281474976710656:=by
  have h1:(i.bytes:Int)≤65536:=by omega
  have h2:(i.bytes:Int)*nv≤65536*nv:=Int.mul_le_mul_of_nonneg_right h1 h0
  unfold big at hbig
  omega
 have hr:=run_make (P:=P) w t el i zv (qbR (hT _ _ hte) hk) hi (hzi.trans hz) kd kd' nv nv h0 (Int.le_refl _) hbytes (by unfold big at hbig;omega)
 have hzl:zv.cells=(GoT.zc α).toArray:=by rw [←hzc,←qc1]
 rw [hzl,hs,hsz] at hr
 refine qiQ (v:=.slice (some ⟨w.heap.size,0,none⟩) nv.toNat nv.toNat) (w':=w.alloc (.cells (madeCells (GoT.zc α).toArray (nv.toNat*GoT.k α)) el)) rfl rfl hn (fun a ha=>?_) (hkk _ (fun b=>b=w.heap.size) _ (h.add ((Below.refl _ _).alloc (jf _) _) ?_ ?_ (fun _ hd=>hd.elim)))
 ·simp only [execOp,ha.eval hx,ha.eval hy,jl,hr,jh,jn]
 ·have hzl':=GoT.len (GoT.toR (GoT.zO w (fun _=>False) (α:=α)))
  refine ⟨some ⟨w.heap.size,0,none⟩,nv.toNat,by simp,by simp,?_,.inr ⟨w.heap.size,_,el,fun _ _=>False,rfl,rfl,heap_alloc_new w _,?_,?_,?_,?_⟩⟩
  ·unfold big at hbig;simp [maxLen];omega
  ·rw [size_madeCells]
  ·intro _ _ hf;exact hf.elim
  ·intro _ _ _ _ hf;exact hf.elim
  ·intro j x hj
   rw [List.getElem?_replicate] at hj
   split at hj
   ·rename_i hlt
    simp only [Option.some.injEq] at hj
    subst hj
    refine ⟨_,GoT.zO _ _,fun r v hr'=>?_⟩
    have:=qox (z:=GoT.zc α) (m:=nv.toNat) (i:=j) (j:=r) (v:=v) (by rw [hzl'];exact GoT.kpos) hlt hr'
    rw [hzl'] at this
    exact this
   ·cases hj
 ·intro b hb
  have:b=w.heap.size:=hb
  subst this
  exact ⟨jf _,by simp⟩
def Cells2 {α:Type} [GoT α] (w:World) (S:Nat→Prop):List α→List (List Value)→Prop
 | [],[]=>True
 | x::xs,c::cs=>GoT.R w S x c∧Cells2 w S xs cs
 | _,_=>False
theorem Cells2.get {α:Type} [GoT α] {S:Nat→Prop}:∀ {xs:List α} {cs:List (List Value)},Cells2 w S xs cs→cs.flatten.length=xs.length*GoT.k α ∧
  ∀ i x,xs[i]?=some x→∃ c,GoT.R w S x c∧∀ j v,c[j]?=some v→cs.flatten[i*GoT.k α+j]?=some v
 | [],[],_=>⟨by simp,by simp⟩
 | x::xs,c::cs,h=>by
  obtain ⟨h1,h2⟩:=h
  obtain ⟨hl,hg⟩:=Cells2.get h2
  have hk:=GoT.len h1
  refine ⟨by rw [List.flatten_cons,jj,hl,hk,Jf,jQ];omega,?_⟩
  intro i y hy
  cases i with
  | zero =>
   simp only [List.getElem?_cons_zero,Option.some.injEq] at hy
   subst hy
   refine ⟨c,h1,fun j v hj=>?_⟩
   have:=(List.getElem?_eq_some_iff.1 hj).1
   rw [Nat.zero_mul,Jj,List.flatten_cons,ju this]
   exact hj
  | succ i =>
   simp only [jP] at hy
   obtain ⟨c',hc',hj'⟩:=hg i y hy
   refine ⟨c',hc',fun j v hj=>?_⟩
   rw [List.flatten_cons,jD (by rw [hk,jQ];omega)]
   rw [show (i+1)*GoT.k α+j-c.length=i*GoT.k α+j by rw [hk,jQ];omega]
   exact hj' j v hj
 | [],_::_,h=>h.elim
 | _::_,[],h=>h.elim
theorem qn5:∀ (vs:List Value) (m:Nat) (off:Nat) (cells:Array Value),off+m+vs.length≤cells.size →
  ((vs.zipIdx m).foldl (fun (acc:Array Value) (p:Value × Nat)=>acc.setIfInBounds (off+p.2) p.1) cells)=(splice cells.toList (off+m) vs).toArray
 | [],m,off,cells,_=>by simp [splice]
 | v::vs,m,off,cells,h=>by
  rw [List.zipIdx_cons,List.foldl_cons,qn5 vs (m+1) off _ (by simp at h ⊢;omega)]
  simp only [Jf] at h
  apply Array.ext_getElem?
  intro i
  rw [jI,jI,getElem?_splice (by simp;omega),getElem?_splice (by simp;omega)]
  simp only [Jf,Array.getElem?_toList,Array.getElem?_setIfInBounds]
  rcases Nat.lt_trichotomy i (off+m) with hi|hi|hi
  ·rw [if_pos (show i<off+(m+1) by omega),if_pos hi,if_neg (show ¬ off+m=i by omega)]
  ·subst hi
   rw [if_pos (show off+m<off+(m+1) by omega),if_neg (show ¬ off+m<off+m by omega),if_pos (show off+m<off+m+(vs.length+1) by omega),if_pos rfl,if_pos (show off+m<cells.size by omega)]
   simp
  ·rw [if_neg (show ¬ i<off+(m+1) by omega),if_neg (show ¬ i<off+m by omega)]
   by_cases h2:i<off+(m+1)+vs.length
   ·rw [if_pos h2,if_pos (show i<off+m+(vs.length+1) by omega)]
    rw [show i-(off+m)=(i-(off+(m+1)))+1 by omega,jP]
   ·rw [if_neg h2,if_neg (show ¬ i<off+m+(vs.length+1) by omega),if_neg (show ¬ off+m=i by omega)]
def fillS (place:Nat→Option (Nat × Nat)) (cells:List Value):List (Nat × Value)→Option (List Value)
 | []=>some cells
 | p::rest =>
  match place p.1 with
  | none=>none
  | some q=>match Nat.beq (cellsL p.2).length q.2,Nat.ble (q.1+(cellsL p.2).length) cells.length with
   | true,true=>fillS place (splice cells q.1 (cellsL p.2)) rest
   | _,_=>none
theorem qgu (place:Nat→Option (Nat × Nat)):∀ (parts:List (Nat × Value)) (cells cs:List Value),fillS place cells parts=some cs→Instr.fill place cells.toArray parts=some cs.toArray
 | [],cells,cs,h=>by simp only [fillS,Option.some.injEq] at h;subst h;rfl
 | (i,v)::rest,cells,cs,h=>by
  simp only [fillS] at h
  simp only [Instr.fill]
  split at h
  ·cases h
  ·rename_i q hq
   rw [hq]
   split at h
   ·rename_i h1 h2
    have h1':=beqT h1
    have h2':=js h2
    have hs:v.cells.size=(cellsL v).length:=by rw [←qc1];simp
    have hf:=qn5 (cellsL v) 0 q.1 cells.toArray (by simpa using h2')
    obtain ⟨qo,qs⟩:=q
    simp only at h1' h2' hf ⊢
    rw [if_neg (by simp [hs,h1'];omega)]
    have:(v.cells.zipIdx.foldl (fun (cs:Array Value) (x:Value × Nat)=>cs.setIfInBounds (qo+x.2) x.1) cells.toArray)=(splice cells qo (cellsL v)).toArray:=by
     rw [←Array.foldl_toList,Array.toList_zipIdx,qc1]
     simpa using hf
    rw [this]
    exact qgu place rest _ _ h
   ·cases h
theorem qkh (size:Nat):∀ (vs:List Value) (m:Nat) (pre post:List Value),pre.length=m*size→post.length=vs.length*size→(∀ v ∈ vs,(cellsL v).length=size) →
  fillS (fun i=>some (i*size,size)) (pre++post) ((vs.zipIdx m).map fun x=>(x.2,x.1))=some (pre++(vs.map cellsL).flatten)
 | [],m,pre,post,h1,h2,_=>by
  have:post=[]:=jF (by simpa using h2)
  subst this
  simp [fillS]
 | v::vs,m,pre,post,h1,h2,h3=>by
  have hv:=h3 v (by simp)
  simp only [Jf,jQ] at h2
  rw [List.zipIdx_cons,Jb]
  simp only [fillS]
  have hb1:Nat.beq (cellsL v).length size=true:=by rw [hv];exact beqR _
  have hb2:Nat.ble (m*size+(cellsL v).length) (pre++post).length=true:=Nat.ble_eq_true_of_le (by rw [jj,hv];omega)
  rw [hb1,hb2]
  simp only
  have hsp:splice (pre++post) (m*size) (cellsL v)=(pre++cellsL v)++post.drop size:=by
   unfold splice
   have e1:(pre++post).take (m*size)=pre:=by rw [←h1];exact List.take_left
   have e2:(pre++post).drop (m*size+size)=post.drop size:=by rw [←h1,List.drop_append,Jd (by omega),List.nil_append];congr 1;omega
   rw [e1,hv,e2]
  rw [hsp,qkh size vs (m+1) (pre++cellsL v) (post.drop size) (by rw [jj,hv,h1,jQ]) (by rw [List.length_drop];omega) (fun u hu=>h3 u (by simp [hu]))]
  simp [Jg]
theorem qjO (hT:TabOk P T) {t el:Nat} {te te':TE} {zv:Value} (vs:List Value) (hte:T.get t=some te) (hk:te.kind=.slice el) (hel:T.get el=some te') (hz:te'.zero=some zv) (hsize:vs.length*te'.size≤16777216)
  (hvs:∀ v ∈ vs,(cellsL v).length=te'.size) (w:World) :
  (Instr.buildSlice t vs.length ((vs.zipIdx 0).map fun x=>(x.2,x.1)).toArray).run P w=.ok (.slice (some ⟨w.heap.size,0,none⟩) vs.length vs.length) (w.alloc (.cells (vs.map cellsL).flatten.toArray el)):=by
 obtain ⟨i,hi,hs,_,hzi⟩:=qd7 (hT _ _ hel)
 have hu:=qbR (hT _ _ hte) hk
 by_cases h0:vs.length*te'.size=0
 ·have hne:(vs.map cellsL).flatten=[]:=by
   rcases Nat.mul_eq_zero.1 h0 with h|h
   ·have:=jF h;subst this;rfl
   ·rw [List.flatten_eq_nil_iff]
    intro l hl
    obtain ⟨v,hv,rfl⟩:=List.mem_map.1 hl
    exact jF ((hvs v hv).trans h)
  have hf:=qgu (fun i=>some (i*te'.size,te'.size)) _ _ _ (qkh te'.size vs 0 [] [] (by simp) (by simpa using h0.symm) hvs)
  rw [hne] at hf ⊢
  simp only [jT] at hf
  simp only [Instr.buildSlice,jl,run_underlying hu,jh,sizeOf,typeInfo,run_program,hi,jn,hs,h0,if_true]
  rw [if_neg (by omega)]
  simp only [jn,jh,Array.range_zero',Array.map_empty,hf,newRow,jl,run_newObj]
  rfl
 ·have hl:(madeCells zv.cells (vs.length*te'.size)).toList.length=vs.length*te'.size:=by simp [size_madeCells]
  have hf:=qgu (fun i=>some (i*te'.size,te'.size)) _ _ _ (qkh te'.size vs 0 [] (madeCells zv.cells (vs.length*te'.size)).toList (by simp) hl hvs)
  simp only [List.nil_append,Array.toArray_toList] at hf
  unfold madeCells at hf
  simp only [Instr.buildSlice,jl,run_underlying hu,jh,sizeOf,typeInfo,run_program,hi,jn,hs,h0,if_false]
  rw [if_neg (by omega)]
  simp only [jn,jl,jh,zeroValue,typeInfo,run_program,hi,hzi,hz,hf,newRow,run_newObj]
  rfl
end
end Go.Fw


namespace Go.Fw
open Go
open Go.RowKit (Below)
section
variable {P:Program} {T:Tab} {n:Nat} {Q:Exit→Act→World→Prop} {k:List It} {e:Env} {w0 w w':World} {L:List Ch}
def ElemsAt {α:Type} [GoT α] (w:World) (S:Nat→Prop) (ys:List α) (news:List Value):Prop :=
 news.length=ys.length*GoT.k α∧∀ i y,ys[i]?=some y→∃ cs,GoT.R w S y cs∧∀ j v,cs[j]?=some v→news[i*GoT.k α+j]?=some v
theorem ElemsAt.one {α:Type} [GoT α] {S:Nat→Prop} {ys:List α} {news:List Value} (h:ElemsAt w S ys news):∀ v ∈ news,v.oneCell'=true:=by
 intro v hv
 obtain ⟨r,hr,rfl⟩:=jM hv
 have hk:=GoT.kpos (α:=α)
 have hlt:r / GoT.k α<ys.length:=by rw [Nat.div_lt_iff_lt_mul hk,←h.1];exact hr
 obtain ⟨cs,hR,hj⟩:=h.2 (r / GoT.k α) _ (ji hlt)
 have hlen:=GoT.len hR
 have hm:r % GoT.k α<cs.length:=by rw [hlen];exact Nat.mod_lt _ hk
 have:=hj (r % GoT.k α) _ (ji hm)
 rw [Nat.mul_comm,Nat.div_add_mod] at this
 rw [ji hr,Option.some.injEq] at this
 rw [this]
 exact GoT.one hR _ (jp hm)
theorem ElemsAt.app {α:Type} [GoT α] {S:Nat→Prop} {xs ys:List α} {olds news:List Value} (h1:ElemsAt w S xs olds) (h2:ElemsAt w S ys news):ElemsAt w S (xs++ys) (olds++news):=by
 refine ⟨by rw [jj,jj,h1.1,h2.1,Nat.add_mul],fun i y hi=>?_⟩
 rw [List.getElem?_append] at hi
 split at hi
 ·rename_i hlt
  obtain ⟨cs,hR,hj⟩:=h1.2 i y hi
  refine ⟨cs,hR,fun j v hv=>?_⟩
  have hr:=hj j v hv
  rw [ju (List.getElem?_eq_some_iff.1 hr).1]
  exact hr
 ·rename_i hge
  obtain ⟨cs,hR,hj⟩:=h2.2 _ y hi
  refine ⟨cs,hR,fun j v hv=>?_⟩
  have hr:=hj j v hv
  have hle:xs.length*GoT.k α≤i*GoT.k α:=jx _ (by omega)
  rw [jD (by rw [h1.1];omega),h1.1]
  rw [show i*GoT.k α+j-xs.length*GoT.k α=(i-xs.length)*GoT.k α+j by rw [Nat.sub_mul];omega]
  exact hr
theorem SlR.cells {α:Type} [GoT α] {S:Nat→Prop} {ys:List α} {p:Option Addr} {c:Nat} (h:SlR w S ys p c) :
  ∃ news,ElemsAt w S ys news∧(Builtin.firstCells (GoT.k α) ys.length (.slice p ys.length c)).run P w=.ok news.toArray w∧(Builtin.firstCells (GoT.k α) ys.length (.slice p ys.length c)).run P w.drew=.ok news.toArray w.drew:=by
 obtain ⟨h1,h2,h3⟩:=h
 rcases h3 with ⟨_,rfl⟩|⟨b,o,cur,t,fr,rfl,hb,hg,hc,hx⟩
 ·cases p<;>exact ⟨[],⟨by simp,by simp⟩,by simp [Builtin.firstCells]<;>rfl,by simp [Builtin.firstCells]<;>rfl⟩
 ·have hle:ys.length*GoT.k α≤c*GoT.k α:=jx _ h1
  have hlen:((cur.toList.drop o).take (ys.length*GoT.k α)).length=ys.length*GoT.k α:=by simp;omega
  have hcell:∀ (w1:World),w1.heap[b]?=w.heap[b]?→∀ j v,((cur.toList.drop o).take (ys.length*GoT.k α))[j]?=some v→w1.cell? ((⟨b,o,none⟩:Addr).add j)=some v:=by
   intro w1 hw1 j v hj
   rw [jt] at hj
   split at hj
   ·rw [jA] at hj
    rw [qfQ]
    simp only [World.cell?,hw1,hg]
    simpa using hj
   ·cases hj
  refine ⟨_,⟨hlen,fun i y hi=>?_⟩,run_firstCells_some w _ _ _ _ _ _ hlen (hcell w rfl),run_firstCells_some w.drew _ _ _ _ _ _ hlen (hcell w.drew rfl)⟩
  obtain ⟨cs,hR,hj⟩:=hx i y hi
  refine ⟨cs,hR,fun j v hv=>?_⟩
  have hjk:j<GoT.k α:=by have:=GoT.len hR;have:=(List.getElem?_eq_some_iff.1 hv).1;omega
  have hi':i<ys.length:=(List.getElem?_eq_some_iff.1 hi).1
  have hb2:(i+1)*GoT.k α≤ys.length*GoT.k α:=jx _ hi'
  rw [jQ] at hb2
  rw [jt,if_pos (by omega),jA]
  have:=hj j v hv
  rw [←Nat.add_assoc]
  simpa using this
theorem SlO.elems {α:Type} [GoT α] {S:Nat→Prop} {ys:List α} {c:Nat} {cur:Array Value} (hcur:cur.size=c*GoT.k α) (hl:ys.length≤c)
  (hx:∀ i x,ys[i]?=some x→∃ cs,GoT.R w S x cs∧∀ j v,cs[j]?=some v→cur[i*GoT.k α+j]?=some v):ElemsAt w S ys (cur.toList.take (ys.length*GoT.k α)):=by
 have hle:ys.length*GoT.k α≤c*GoT.k α:=jx _ hl
 refine ⟨by simp;omega,fun i y hi=>?_⟩
 obtain ⟨cs,hR,hj⟩:=hx i y hi
 refine ⟨cs,hR,fun j v hv=>?_⟩
 have hjk:j<GoT.k α:=by have:=GoT.len hR;have:=(List.getElem?_eq_some_iff.1 hv).1;omega
 have hi':i<ys.length:=(List.getElem?_eq_some_iff.1 hi).1
 have hb2:(i+1)*GoT.k α≤ys.length*GoT.k α:=jx _ hi'
 rw [jQ] at hb2
 rw [jt,if_pos (by omega)]
 simpa using hj j v hv
theorem SlO.of_elems {α:Type} [GoT α] [Flat α] {S S':Nat→Prop} {xs:List α} {b c:Nat} {cur:Array Value} {t:TypeId} (hl:xs.length≤c) (hm:c≤maxLen) (hb:S b) (hg:w'.heap[b]?=some (.cells cur t (0,0))) (hcur:cur.size=c*GoT.k α)
  {olds:List Value} (he:ElemsAt w S' xs olds) (ho:∀ (r:Nat) (v:Value),olds[r]?=some v→cur[r]?=some v):SlO w' S xs (some ⟨b,0,none⟩) c:=by
 refine ⟨hl,hm,.inr ⟨b,cur,t,fun _ _=>False,rfl,hb,hg,hcur,fun _ _ h=>h.elim,fun _ _ _ _ h=>h.elim,fun i x hi=>?_⟩⟩
 obtain ⟨cs,hR,hj⟩:=he.2 i x hi
 exact ⟨cs,Flat.fl hR,fun j v hv=>ho _ _ (hj j v hv)⟩
theorem qje (t ty el:TypeId) (i:TypeInfo) (z:Value) (ht:P.underlying t=some (.slice el)) (hi:P.info? el=some i) (hz:i.zero=some z)
  (p p':Option Addr) (sLen sCap m c:Nat) (olds news:List Value) (hf:(Builtin.firstCells i.size m (.slice p' m c)).run P w.drew=.ok news.toArray w.drew) (hfo:(Builtin.firstCells i.size sLen (.slice p sLen sCap)).run P w.drew=.ok olds.toArray w.drew)
  (hg:sCap<sLen+m) (h63:((sLen+m:Nat):Int)≤9223372036854775807) (hfit:Builtin.nextslicecap (sLen+m) sCap*i.bytes≤281474976710656) :
  (Builtin.append_ #[t,t] ty #[.slice p sLen sCap,.slice p' m c]).run P w =
   .ok (.slice (some ⟨w.heap.size,0,none⟩) (sLen+m) (grownCap w (sLen+m) sCap el))
    (w.drew.alloc (.cells (olds.toArray++news.toArray++Builtin.zeroCells z.cells (grownCap w (sLen+m) sCap el-(sLen+m))) el)):=by
 have hn:¬ (sLen+m≤sCap):=by omega
 have h63':¬ (9223372036854775807<((sLen:Int)+(m:Int))):=by omega
 have h48':¬ (281474976710656<Builtin.nextslicecap (sLen+m) sCap*i.bytes):=by omega
 simp [Builtin.append_,run_underlying ht,sizeOf,typeInfo,zeroValue,hi,hz,Builtin.lenOf,hn,h63',h48',Question.forced,hf,hfo,newRow,grownCap]
 congr 2
 apply Array.ext'
 simp [Jg]
theorem qjs (t ty el:TypeId) (i:TypeInfo) (ht:P.underlying t=some (.slice el)) (hi:P.info? el=some i)
  (p':Option Addr) (g sLen sCap m c:Nat) (cur:Array Value) (t':TypeId) (hgc:w.heap[g]?=some (.cells cur t' (0,0))) (news:List Value) (hf:(Builtin.firstCells i.size m (.slice p' m c)).run P w=.ok news.toArray w) (h1:∀ u ∈ news,u.oneCell'=true)
  (hroom:sLen+m≤sCap) (hfit:sLen*i.size+news.length≤cur.size) :
  (Builtin.append_ #[t,t] ty #[.slice (some ⟨g,0,none⟩) sLen sCap,.slice p' m c]).run P w =
   .ok (.slice (some ⟨g,0,none⟩) (sLen+m) sCap) (w.setRow g (splice cur.toList (sLen*i.size) news).toArray):=by
 have hst:=run_storeCells_at P g (sLen*i.size) t' news 0 cur w hgc (by simpa using hfit) h1
 simp only [Jc] at hst
 simp [Builtin.append_,run_underlying ht,sizeOf,typeInfo,hi,Builtin.lenOf,hroom,hf,Addr.add_lit,hst,splice]
theorem qjc (t ty el:TypeId) (i:TypeInfo) (ht:P.underlying t=some (.slice el)) (hi:P.info? el=some i) (p':Option Addr) (c:Nat) :
  (Builtin.append_ #[t,t] ty #[.slice none 0 0,.slice p' 0 c]).run P w=.ok (.slice none 0 0) w:=by
 cases p'<;>simp [Builtin.append_,run_underlying ht,sizeOf,typeInfo,hi,Builtin.lenOf,Builtin.firstCells,loadCells,loadCellsFrom]
theorem qtm (hT:TabOk P T) {α:Type} [GoT α] [Flat α] {S:Nat→Prop} {xs ys:List α} {p p':Option Addr} {ln c c' t ty el i:Nat} {te te':TE} {zv:Value}
  (h:SH w0 w L) (hi:L[i]?=some (Ch.own S xs [.slice p ln c])) (hs:SlR w (Fw.old w) ys p' c') (hte:T.get t=some te) (hk:te.kind=.slice el) (hel:T.get el=some te') (hz:te'.zero=some zv) (hzs:(cellsL zv).length=te'.size) (hsz:te'.size=GoT.k α)
  (hb:Nat.ble te'.bytes 65536=true) (hbig:xs.length+ys.length≤big) :
  ∃ p2 c2 S2 w',(Builtin.append_ #[t,t] ty #[.slice p ln c,.slice p' ys.length c']).run P w=.ok (.slice p2 (xs.length+ys.length) c2) w'∧SH w0 w' (L.set i (Ch.own S2 (xs++ys) [.slice p2 (xs.length+ys.length) c2])):=by
 obtain ⟨inf,hinf,hs1,hby,hz1⟩:=qd7 (hT _ _ hel)
 have hu:=qbR (hT _ _ hte) hk
 have hb':=js hb
 have hln:=(h.sl i hi).2
 subst hln
 have hsize:inf.size=GoT.k α:=hs1.trans hsz
 obtain ⟨news,hnE,hnR,hnD⟩:=hs.cells (P:=P)
 rw [←hsize] at hnR hnD
 obtain ⟨hP,hS⟩:=h.mem hi
 obtain ⟨p0,c0,he,h1,h2,h3⟩:=hP
 simp only [List.cons.injEq,Value.slice.injEq,and_true,true_and] at he
 obtain ⟨rfl,rfl⟩:=he
 unfold big at hbig
 have hmax:(2147483648:Nat)≤maxLen:=by simp [maxLen]
 have grow:∀ (olds:List Value),ElemsAt w (Fw.old w) xs olds→(Builtin.firstCells inf.size xs.length (.slice p xs.length c)).run P w.drew=.ok olds.toArray w.drew→c<xs.length+ys.length →
   ∃ p2 c2 S2 w',(Builtin.append_ #[t,t] ty #[.slice p xs.length c,.slice p' ys.length c']).run P w=.ok (.slice p2 (xs.length+ys.length) c2) w'∧SH w0 w' (L.set i (Ch.own S2 (xs++ys) [.slice p2 (xs.length+ys.length) c2])):=by
  intro olds hoE hoD hlt
  have hfit:Builtin.nextslicecap (xs.length+ys.length) c*inf.bytes≤281474976710656:=by
   refine growslice_fits hlt ?_
   have:(xs.length+ys.length)*inf.bytes≤2147483648*65536:=Nat.mul_le_mul hbig (by omega)
   omega
  have hr:=qje (P:=P) (w:=w) t ty el inf zv hu hinf (hz1.trans hz) p p' xs.length c ys.length c' olds news hnD hoD hlt (by omega) hfit
  have hge:=grownCap_ge w (xs.length+ys.length) c el
  have hcm:=grownCap_le_maxLen w (xs.length+ys.length) c el (by omega)
  refine ⟨_,_,fun b=>b=w.heap.size,_,hr,?_⟩
  refine h.upd hi rfl rfl rfl (by simp) (fun b hb' _=>heap_alloc_old w.drew _ hb') ?_ ?_ (fun _ hd=>hd.elim)
  ·refine ⟨_,_,by rw [jj],?_⟩
   refine SlO.of_elems (w:=w) (S':=Fw.old w) (olds:=olds++news) (by simpa using hge) hcm rfl (heap_alloc_new w.drew _) ?_ (hoE.app hnE) ?_
   ·have hzl:zv.cells.size=GoT.k α:=by rw [←hsz,←hzs,←qc1];simp
    simp only [Array.size_append,jV,size_zeroCells,hoE.1,hnE.1,hzl,←Nat.add_mul]
    congr 1
    omega
   ·intro r v hr'
    have hlt':=(List.getElem?_eq_some_iff.1 hr').1
    rw [jU (by simpa using hlt')]
    simpa using hr'
  ·intro b hb'
   have:b=w.heap.size:=hb'
   subst this
   exact .inr ⟨jf _,by simp⟩
 rcases h3 with ⟨rfl,rfl,rfl⟩|⟨b,cur,t',F,rfl,hSb,hg,hcur,hF,hd,hx⟩
 ·by_cases hy:ys.length=0
  ·refine ⟨none,0,S,w,by simpa [hy] using qjc (P:=P) (w:=w) t ty el inf hu hinf p' c',?_⟩
   have:ys=[]:=jF hy
   subst this
   refine h.upd hi rfl rfl rfl (jf _) (fun _ _ _=>rfl) ?_ (fun a ha=>.inl ha) (fun _ hd=>hd.elim)
   exact ⟨none,0,by simp,by simp,by simp,.inl ⟨rfl,by simp,rfl⟩⟩
  ·exact grow [] ⟨by simp,by simp⟩ (by simp [Builtin.firstCells]) (by simp;omega)
 ·have hoE:ElemsAt w (Fw.old w) xs (cur.toList.take (xs.length*GoT.k α)):=SlO.elems hcur h1 (fun j x hj=>by
   obtain ⟨cs,hO,hj'⟩:=hx j x hj
   exact ⟨cs,GoT.mono (GoT.toR hO) (fun a ha=>(hS a (hF j a ha).1).2),hj'⟩)
  by_cases hroom:xs.length+ys.length≤c
  ·have hle:(xs.length+ys.length)*GoT.k α≤c*GoT.k α:=jx _ hroom
   rw [Nat.add_mul] at hle
   have hfit:xs.length*inf.size+news.length≤cur.size:=by rw [hnE.1,hsize,hcur];exact hle
   have hr:=qjs (P:=P) (w:=w) t ty el inf hu hinf p' b xs.length c ys.length c' cur t' hg news hnR hnE.one hroom hfit
   refine ⟨_,_,S,_,hr,?_⟩
   refine h.upd hi rfl rfl rfl (by simp) (fun a _ ha=>setRow_other w b a _ (fun hab=>ha (hab ▸ hSb))) ?_ (fun a ha=>.inl ha) (fun _ hd=>hd.elim)
   refine ⟨_,_,by rw [jj],?_⟩
   refine SlO.of_elems (w:=w) (S':=Fw.old w) (olds:=cur.toList.take (xs.length*GoT.k α)++news) (by simpa using hroom) h2 hSb (setRow_heap w b _ _ t' _ hg) ?_ (hoE.app hnE) ?_
   ·rw [jV,qcj (by simpa using hfit)];simpa using hcur
   ·intro r v hr'
    rw [jI,hsize]
    have hlt':=(List.getElem?_eq_some_iff.1 hr').1
    have hr2:(cur.toList.take (xs.length*GoT.k α)++news++cur.toList.drop (xs.length*GoT.k α+news.length))[r]?=some v:=by
     rw [ju hlt'];exact hr'
    exact hr2
  ·have hfo:=run_firstCells_some (P:=P) w.drew inf.size xs.length ⟨b,0,none⟩ xs.length c (cur.toList.take (xs.length*GoT.k α)) (by rw [hoE.1,hsize]) (fun j v hj=>by
    rw [qfQ]
    rw [jt] at hj
    split at hj
    ·have:w.drew.heap[b]?=w.heap[b]?:=rfl
     simp only [World.cell?,this,hg]
     simpa using hj
    ·cases hj)
   exact grow _ hoE hfo (by omega)
theorem qmo (hT:TabOk P T) {α:Type} [GoT α] [Flat α] {all:Array Oper} {l:List Oper} {d t ty el:Nat} {ps:String} {af:Array Edge} {x y:Operand} {S:Nat→Prop} {xs ys:List α} {p p':Option Addr} {ln ln' c c':Nat} {te te':TE} {zv:Value} (i:Nat)
  (h:SH w0 w L) (hi:L[i]?=some (Ch.own S xs [.slice p ln c])) (hs:SlR w (Fw.old w) ys p' c') (hl':ln'=ys.length) (hx:opv e x=some (.slice p ln c)) (hy:opv e y=some (.slice p' ln' c'))
  (hte:T.get t=some te) (hk:te.kind=.slice el) (hel:T.get el=some te') (hz:te'.zero=some zv) (hzs:(cellsL zv).length=te'.size) (hsz:te'.size=GoT.k α)
  (hb:Nat.ble te'.bytes 65536=true) (hbig:xs.length+ys.length≤big) (hn:Nat.blt d n=true)
  (hkk:∀ w' p2 c2 S2,SH w0 w' (L.set i (Ch.own S2 (xs++ys) [.slice p2 (xs.length+ys.length) c2]))→Run P n Q (.ops all l::k) ((d,.slice p2 (xs.length+ys.length) c2)::e) w') :
  Run P n Q (.ops all (⟨some d,.call ⟨.builtin .append,#[x,y],#[t,t]⟩,ty,ps,af,none⟩::l)::k) e w:=by
 subst hl'
 obtain ⟨p2,c2,S2,w',hr,hsh⟩:=qtm hT (ty:=ty) h hi hs hte hk hel hz hzs hsz hb hbig
 refine qiQ rfl rfl hn (fun a ha=>?_) (hkk w' p2 c2 S2 hsh)
 simp only [execOp,resolve,invoke,builtin,jl,jn,jh,List.map_toArray,Jb,List.map_nil,ha.eval hx,ha.eval hy,hr]
theorem qm (hT:TabOk P T) {α:Type} [GoT α] [Flat α] {all:Array Oper} {l:List Oper} {d t ty el len:Nat} {ps:String} {af:Array Edge} {parts:Array (Nat × Operand)} {te te':TE} {zv:Value} (os:List Operand) (vs:List Value) (ys:List α)
  (h:SH w0 w L) (hparts:parts.toList=(os.zipIdx 0).map fun x=>(x.2,x.1)) (hvs:opvs e os=some vs) (hlen:len=vs.length)
  (hte:T.get t=some te) (hk:te.kind=.slice el) (hel:T.get el=some te') (hz:te'.zero=some zv) (hsz:te'.size=GoT.k α) (hsmall:Nat.ble (vs.length*te'.size) 16777216=true)
  (hc:Cells2 w (Fw.old w) ys (vs.map cellsL)) (hn:Nat.blt d n=true)
  (hkk:∀ w' p S,SH w0 w' (Ch.own S ys [.slice p len len]::L)→Run P n Q (.ops all l::k) ((d,.slice p len len)::e) w') :
  Run P n Q (.ops all (⟨some d,.buildSlice t len parts,ty,ps,af,none⟩::l)::k) e w:=by
 have hlenys:∀ {ys:List α} {cs:List (List Value)},Cells2 w (Fw.old w) ys cs→ys.length=cs.length∧∀ c ∈ cs,c.length=GoT.k α:=by
  intro ys
  induction ys with
  | nil=>intro cs hc;cases cs with
   | nil=>simp
   | cons=>exact hc.elim
  | cons y ys ih =>
   intro cs hc
   cases cs with
   | nil=>exact hc.elim
   | cons c cs =>
    obtain ⟨h1,h2⟩:=hc
    have:=ih h2
    refine ⟨by simp [this.1],fun d hd=>?_⟩
    rcases List.mem_cons.1 hd with rfl|hd
    ·exact GoT.len h1
    ·exact this.2 d hd
 obtain ⟨hl1,hl2⟩:=hlenys hc
 have hcs:∀ v ∈ vs,(cellsL v).length=te'.size:=fun v hv=>by rw [hsz];exact hl2 _ (List.mem_map.2 ⟨v,hv,rfl⟩)
 have hr:=qjO hT vs hte hk hel hz (js hsmall) hcs w
 subst hlen
 obtain ⟨hfl,hfe⟩:=hc.get
 refine qiQ (v:=.slice (some ⟨w.heap.size,0,none⟩) vs.length vs.length) (w':=w.alloc (.cells (vs.map cellsL).flatten.toArray el)) rfl rfl hn (fun a ha=>?_)
  (hkk _ _ (fun b=>b=w.heap.size) (h.add ((Below.refl _ _).alloc (jf _) _) ?_ ?_ (fun _ hd=>hd.elim)))
 ·have hev:parts.map (fun (x:Nat × Operand)=>(x.1,a.eval x.2))=((vs.zipIdx 0).map fun x=>(x.2,x.1)).toArray:=by
   apply Array.ext'
   rw [Array.toList_map,hparts]
   have:=qho ha hvs
   subst this
   rw [List.zipIdx_map,List.map_map,List.map_map]
   rfl
  simp only [execOp,hev,jl,hr,jh,jn]
 ·have hl3:ys.length=vs.length:=by simpa using hl1
  refine ⟨some ⟨w.heap.size,0,none⟩,vs.length,by rw [hl3],?_⟩
  have hsm:vs.length≤maxLen:=by
   have h1:=js hsmall
   have h2:vs.length*1≤vs.length*te'.size:=Nat.mul_le_mul_left _ (by rw [hsz];exact GoT.kpos)
   simp [maxLen]
   omega
  refine SlO.of_elems (w:=w) (S':=Fw.old w) (olds:=(vs.map cellsL).flatten) (by rw [hl3];exact jf _) hsm rfl (heap_alloc_new w _) ?_ ⟨hfl,hfe⟩ (fun r v hr'=>by simpa using hr')
  rw [jV,hfl,hl3]
 ·intro b hb
  have:b=w.heap.size:=hb
  subst this
  exact ⟨jf _,by simp⟩
end
end Go.Fw


namespace Go.Fw
open Go
open Go.RowKit (Below)
@[reducible] def pairT {α β:Type} (A:GoT α) (B:GoT β):GoT (α × β) where
 k:=A.k+B.k
 agg:=true
 zero:=(A.zero,B.zero)
 zc:=A.zc++B.zc
 R w S x cs:=∃ c1 c2,cs=c1++c2∧A.R w S x.1 c1∧B.R w S x.2 c2
 O w S x cs:=∃ S1 S2:Nat→Prop,∃ c1 c2,cs=c1++c2∧A.O w S1 x.1 c1∧B.O w S2 x.2 c2∧(∀ b,S1 b→S b∧¬ S2 b)∧(∀ b,S2 b→S b)
 kpos:=by have:=A.kpos;omega
 noagg h:=by cases h
 len h:=by obtain ⟨c1,c2,rfl,h1,h2⟩:=h;rw [jj,A.len h1,B.len h2]
 one h c hc:=by
  obtain ⟨c1,c2,rfl,h1,h2⟩:=h
  rcases List.mem_append.1 hc with hc|hc
  ·exact A.one h1 c hc
  ·exact B.one h2 c hc
 loc h hs:=by obtain ⟨c1,c2,rfl,h1,h2⟩:=h;exact ⟨c1,c2,rfl,A.loc h1 hs,B.loc h2 hs⟩
 mono h hs:=by obtain ⟨c1,c2,rfl,h1,h2⟩:=h;exact ⟨c1,c2,rfl,A.mono h1 hs,B.mono h2 hs⟩
 toR h:=by obtain ⟨S1,S2,c1,c2,rfl,h1,h2,h3,h4⟩:=h;exact ⟨c1,c2,rfl,A.mono (A.toR h1) (fun b hb=>(h3 b hb).1),B.mono (B.toR h2) h4⟩
 locO h hs:=by obtain ⟨S1,S2,c1,c2,rfl,h1,h2,h3,h4⟩:=h;exact ⟨S1,S2,c1,c2,rfl,A.locO h1 (fun b hb=>hs b (h3 b hb).1),B.locO h2 (fun b hb=>hs b (h4 b hb)),h3,h4⟩
 monoO h hs:=by obtain ⟨S1,S2,c1,c2,rfl,h1,h2,h3,h4⟩:=h;exact ⟨S1,S2,c1,c2,rfl,h1,h2,fun b hb=>⟨hs b (h3 b hb).1,(h3 b hb).2⟩,fun b hb=>hs b (h4 b hb)⟩
 zO w S:=⟨fun _=>False,fun _=>False,_,_,rfl,A.zO w _,B.zO w _,fun _ h=>h.elim,fun _ h=>h.elim⟩
@[reducible] def isoT {α β:Type} (A:GoT α) (f:β→α) (z:β) (hz:f z=A.zero) (ag:Bool) (hag:ag=false→A.k=1):GoT β where
 k:=A.k
 agg:=ag
 zero:=z
 zc:=A.zc
 R w S x cs:=A.R w S (f x) cs
 O w S x cs:=A.O w S (f x) cs
 kpos:=A.kpos
 noagg:=hag
 len h:=A.len h
 one h:=A.one h
 loc h hs:=A.loc h hs
 mono h hs:=A.mono h hs
 toR h:=A.toR h
 locO h hs:=A.locO h hs
 monoO h hs:=A.monoO h hs
 zO w S:=by rw [hz];exact A.zO w S
theorem qbN {α β:Type} (A:GoT α) (B:GoT β) (ha:@Flat α A) (hb:@Flat β B):@Flat (α × β) (pairT A B) :=
 @Flat.mk _ (pairT A B) (by
  intro w w' S S' x cs h
  obtain ⟨c1,c2,rfl,h1,h2⟩:=h
  exact ⟨fun _=>False,fun _=>False,c1,c2,rfl,ha.fl h1,hb.fl h2,fun _ h=>h.elim,fun _ h=>h.elim⟩) (by
  intro w w' S S' x cs cs' h h'
  obtain ⟨c1,c2,rfl,h1,h2⟩:=h
  obtain ⟨d1,d2,rfl,h3,h4⟩:=h'
  rw [ha.det h1 h3,hb.det h2 h4])
theorem qhU {α β:Type} (A:GoT α) (f:β→α) (z:β) (hz:f z=A.zero) (ag:Bool) (hag:ag=false→A.k=1) (ha:@Flat α A):@Flat β (isoT A f z hz ag hag) :=
 @Flat.mk _ (isoT A f z hz ag hag) (by intro w w' S S' x cs h;exact ha.fl h) (by intro w w' S S' x cs cs' h h';exact ha.det h h')
class GoVs (ρ:Type) where
 Vs:World→(Nat→Prop)→ρ→List Value→Prop
instance vsOne {α:Type} [GoT α]:GoVs α where
 Vs w S x vs:=∃ cs,vs=[GoT.v α cs]∧GoT.O w S x cs
instance (priority:=high) vsCons {α β:Type} [GoT α] [GoVs β]:GoVs (α × β) where
 Vs w S x vs:=∃ S1 S2:Nat→Prop,∃ cs us,vs=GoT.v α cs::us∧GoT.O w S1 x.1 cs∧GoVs.Vs w S2 x.2 us∧(∀ b,S1 b→S b∧¬ S2 b)∧(∀ b,S2 b→S b)
def tup:List Value→Value
 | [v]=>v
 | vs=>.tuple vs.toArray
def RetV {ρ:Type} [GoVs ρ] (P:Program) (f:FuncId) (vs:List Value) (w:World) (r:ρ):Prop :=
 Calls P f vs.toArray w fun e w'=>∃ v,e=.returned v∧Below w.heap.size w w'∧∃ us,v=tup us∧GoVs.Vs w' (fresh w w') r us
structure SHV (w0 w:World) (S:Nat→Prop) (L:List Ch):Prop where
 sh:SH w0 w L
 fr:∀ b,S b→fresh w0 w b
 ap:∀ c ∈ L,∀ b,c.S b→¬ S b
section
variable {P:Program} {T:Tab} {n:Nat} {Q:Exit→Act→World→Prop} {k:List It} {e:Env} {w0 w w':World} {L:List Ch} {S:Nat→Prop}
theorem SHV.push {c:Ch} {S2:Nat→Prop} (h:SHV w0 w S L) (hp:c.P w) (hD:∀ b,c.D b→b<w0.heap.size) (h1:∀ b,c.S b→S b∧¬ S2 b) (h2:∀ b,S2 b→S b):SHV w0 w S2 (c::L):=by
 refine ⟨⟨h.sh.below,fun d hd=>?_,fun d hd=>?_,List.pairwise_cons.2 ⟨fun d hd b hc hdb=>h.ap d hd b hdb (h1 b hc).1,h.sh.apart⟩⟩,fun b hb=>h.fr b (h2 b hb),fun d hd b hdb hb=>?_⟩
 ·rcases List.mem_cons.1 hd with rfl|hd
  ·exact ⟨hp,fun b hb=>h.fr b (h1 b hb).1⟩
  ·exact h.sh.holds d hd
 ·rcases List.mem_cons.1 hd with rfl|hd
  ·exact hD
  ·exact h.sh.elder d hd
 ·rcases List.mem_cons.1 hd with rfl|hd
  ·exact (h1 b hdb).2 hb
  ·exact h.ap d hd b hdb (h2 b hb)
theorem SHV.cons {α β:Type} [GoT α] [GoVs β] {r:α × β} {vs:List Value} (h:SHV w0 w S L) (hv:GoVs.Vs w S r vs) :
  ∃ S1 S2 cs us,vs=GoT.v α cs::us∧SHV w0 w S2 (Ch.own S1 r.1 cs::L)∧GoVs.Vs w S2 r.2 us:=by
 obtain ⟨S1,S2,cs,us,rfl,h1,h2,h3,h4⟩:=hv
 exact ⟨S1,S2,cs,us,rfl,h.push (c:=Ch.own S1 r.1 cs) h1 (fun _ hd=>hd.elim) h3 h4,h2⟩
theorem SHV.last {α:Type} [GoT α] {r:α} {vs:List Value} (h:SHV w0 w S L) (hv:(vsOne:GoVs α).Vs w S r vs):∃ cs,vs=[GoT.v α cs]∧SH w0 w (Ch.own S r cs::L):=by
 obtain ⟨cs,rfl,h1⟩:=hv
 exact ⟨cs,rfl,(h.push (c:=Ch.own S r cs) (S2:=fun _=>False) h1 (fun _ hd=>hd.elim) (fun b hb=>⟨hb,fun h=>h⟩) (fun _ h=>h.elim)).sh⟩
theorem SHV.consI {β:Type} [GoVs β] {r:Int × β} {vs:List Value} (h:SHV w0 w S L) (hv:GoVs.Vs w S r vs):∃ S2 us,vs=.int .i64 r.1::us∧SHV w0 w S2 L∧GoVs.Vs w S2 r.2 us:=by
 obtain ⟨S1,S2,cs,us,rfl,h1,h2,h3,h4⟩:=hv
 have:cs=[.int .i64 r.1]:=h1
 subst this
 exact ⟨S2,us,rfl,⟨h.sh,fun b hb=>h.fr b (h4 b hb),fun c hc b hcb hb=>h.ap c hc b hcb (h4 b hb)⟩,h2⟩
theorem SHV.consL {α β:Type} [GoT α] [GoVs β] {r:List α × β} {vs:List Value} (h:SHV w0 w S L) (hv:GoVs.Vs w S r vs) :
  ∃ S1 S2 p c us,vs=.slice p r.1.length c::us∧SHV w0 w S2 (Ch.own S1 r.1 [.slice p r.1.length c]::L)∧GoVs.Vs w S2 r.2 us:=by
 obtain ⟨S1,S2,cs,us,rfl,h',h2⟩:=h.cons hv
 obtain ⟨p,c,rfl,_⟩:=(h'.sh.mem (i:=0) rfl).1
 exact ⟨S1,S2,p,c,us,rfl,h',h2⟩
theorem SHV.lastI {r:Int} {vs:List Value} (h:SHV w0 w S L) (hv:(vsOne:GoVs Int).Vs w S r vs):vs=[.int .i64 r]∧SH w0 w L:=by
 obtain ⟨cs,rfl,h1⟩:=hv
 have:cs=[.int .i64 r]:=h1
 subst this
 exact ⟨rfl,h.sh⟩
theorem SHV.lastB {r:Bool} {vs:List Value} (h:SHV w0 w S L) (hv:(vsOne:GoVs Bool).Vs w S r vs):vs=[.bool r]∧SH w0 w L:=by
 obtain ⟨cs,rfl,h1⟩:=hv
 have:cs=[.bool r]:=h1
 subst this
 exact ⟨rfl,h.sh⟩
theorem SHV.lastS {r:ByteArray} {vs:List Value} (h:SHV w0 w S L) (hv:(vsOne:GoVs ByteArray).Vs w S r vs):vs=[.string r]∧SH w0 w L:=by
 obtain ⟨cs,rfl,h1⟩:=hv
 have:cs=[.string r]:=h1
 subst this
 exact ⟨rfl,h.sh⟩
theorem SHV.lastL {α:Type} [GoT α] {r:List α} {vs:List Value} (h:SHV w0 w S L) (hv:(vsOne:GoVs (List α)).Vs w S r vs):∃ p c,vs=[.slice p r.length c]∧SH w0 w (Ch.own S r [.slice p r.length c]::L):=by
 obtain ⟨cs,rfl,h'⟩:=h.last hv
 obtain ⟨p,c,rfl,_⟩:=(h'.mem (i:=0) rfl).1
 exact ⟨p,c,rfl,h'⟩
def qei (P:Program) (f:FuncId):Prop:=∃ fn,P.funcs[f]?=some fn∧fn.body.isSome=true∧(fn.name== "runtime.NumGoroutine")=false
theorem qhy {a:Act} (ha:Agree n e a) {d ty:Nat} {ps:String} {af:Array Edge} {g:Option (Nat × Bool)} {x:Operand} {args:Array Operand} {ats:Array TypeId} {f:FuncId} {fi ca:Array Value} {az:List Value}
  (hcall:qei P f) (hx:opv e x=some (.func (.func f) fi ca)) (hargs:opvs e args.toList=some az) (w:World) :
  (execOp a.eval ⟨some d,.call ⟨.value x,args,ats⟩,ty,ps,af,g⟩).run P w=.ok (.enter f (fi.toList++az++ca.toList).toArray) w:=by
 obtain ⟨fn,hf,hb,hn⟩:=hcall
 have hb':fn.body.isNone=false:=by simpa using hb
 have harg:=qfe ha hargs
 simp only [execOp,resolve,Deferred.ofValue,jl,jn,jh,ha.eval hx,invoke,callFunc,run_program,hf,hn,hb',harg,Bool.false_eq_true,if_false]
 congr 2
 apply Array.ext'
 simp
theorem qbZ {ρ:Type} [GoVs ρ] (r:ρ) {all:Array Oper} {l:List Oper} {d ty:Nat} {ps:String} {af:Array Edge} {x:Operand} {args:Array Operand} {ats:Array TypeId} {f:FuncId} {fi ca:Array Value} {az vs:List Value}
  (h:SH w0 w L) (hcall:qei P f) (hc:RetV P f vs w r) (hx:opv e x=some (.func (.func f) fi ca)) (hargs:opvs e args.toList=some az) (hvs:fi.toList++az++ca.toList=vs) (hn:Nat.blt d n=true)
  (hk:∀ w' S us,SHV w0 w' S L→GoVs.Vs w' S r us→Run P n Q (.ops all l::k) ((d,tup us)::e) w'):Run P n Q (.ops all (⟨some d,.call ⟨.value x,args,ats⟩,ty,ps,af,none⟩::l)::k) e w:=by
 subst hvs
 refine qkG (R:=fun v w'=>Below w.heap.size w w'∧∃ us,v=tup us∧GoVs.Vs w' (fresh w w') r us) rfl rfl hn (fun a ha=>qhy ha hcall hx hargs w) hc ?_
 rintro v w' ⟨hb,us,rfl,hv⟩
 refine hk w' _ us ⟨h.ext hb,fun b hb'=>⟨?_,hb'.2⟩,fun c hc b hcb hb'=>?_⟩ hv
 ·have:=hb'.1;have:=h.below.size;omega
 ·have:=((h.holds c hc).2 b hcb).2;have:=hb'.1;omega
theorem qqI (r:Int) {all:Array Oper} {l:List Oper} {d ty:Nat} {ps:String} {af:Array Edge} {x:Operand} {args:Array Operand} {ats:Array TypeId} {f:FuncId} {fi ca:Array Value} {az vs:List Value}
  (h:SH w0 w L) (hcall:qei P f) (hc:RetV P f vs w r) (hx:opv e x=some (.func (.func f) fi ca)) (hargs:opvs e args.toList=some az) (hvs:fi.toList++az++ca.toList=vs) (hn:Nat.blt d n=true)
  (hk:∀ w',SH w0 w' L→Run P n Q (.ops all l::k) ((d,.int .i64 r)::e) w'):Run P n Q (.ops all (⟨some d,.call ⟨.value x,args,ats⟩,ty,ps,af,none⟩::l)::k) e w :=
 qbZ r h hcall hc hx hargs hvs hn (fun w' S us hv hr=>by obtain ⟨rfl,h'⟩:=hv.lastI hr;exact hk w' h')
theorem qoo (r:Bool) {all:Array Oper} {l:List Oper} {d ty:Nat} {ps:String} {af:Array Edge} {x:Operand} {args:Array Operand} {ats:Array TypeId} {f:FuncId} {fi ca:Array Value} {az vs:List Value}
  (h:SH w0 w L) (hcall:qei P f) (hc:RetV P f vs w r) (hx:opv e x=some (.func (.func f) fi ca)) (hargs:opvs e args.toList=some az) (hvs:fi.toList++az++ca.toList=vs) (hn:Nat.blt d n=true)
  (hk:∀ w',SH w0 w' L→Run P n Q (.ops all l::k) ((d,.bool r)::e) w'):Run P n Q (.ops all (⟨some d,.call ⟨.value x,args,ats⟩,ty,ps,af,none⟩::l)::k) e w :=
 qbZ r h hcall hc hx hargs hvs hn (fun w' S us hv hr=>by obtain ⟨rfl,h'⟩:=hv.lastB hr;exact hk w' h')
theorem qmT (r:ByteArray) {all:Array Oper} {l:List Oper} {d ty:Nat} {ps:String} {af:Array Edge} {x:Operand} {args:Array Operand} {ats:Array TypeId} {f:FuncId} {fi ca:Array Value} {az vs:List Value}
  (h:SH w0 w L) (hcall:qei P f) (hc:RetV P f vs w r) (hx:opv e x=some (.func (.func f) fi ca)) (hargs:opvs e args.toList=some az) (hvs:fi.toList++az++ca.toList=vs) (hn:Nat.blt d n=true)
  (hk:∀ w',SH w0 w' L→Run P n Q (.ops all l::k) ((d,.string r)::e) w'):Run P n Q (.ops all (⟨some d,.call ⟨.value x,args,ats⟩,ty,ps,af,none⟩::l)::k) e w :=
 qbZ r h hcall hc hx hargs hvs hn (fun w' S us hv hr=>by obtain ⟨rfl,h'⟩:=hv.lastS hr;exact hk w' h')
theorem qlz {α:Type} [GoT α] (r:List α) {all:Array Oper} {l:List Oper} {d ty:Nat} {ps:String} {af:Array Edge} {x:Operand} {args:Array Operand} {ats:Array TypeId} {f:FuncId} {fi ca:Array Value} {az vs:List Value}
  (h:SH w0 w L) (hcall:qei P f) (hc:RetV P f vs w r) (hx:opv e x=some (.func (.func f) fi ca)) (hargs:opvs e args.toList=some az) (hvs:fi.toList++az++ca.toList=vs) (hn:Nat.blt d n=true)
  (hk:∀ w' S p c,SH w0 w' (Ch.own S r [.slice p r.length c]::L)→Run P n Q (.ops all l::k) ((d,.slice p r.length c)::e) w'):Run P n Q (.ops all (⟨some d,.call ⟨.value x,args,ats⟩,ty,ps,af,none⟩::l)::k) e w :=
 qbZ r h hcall hc hx hargs hvs hn (fun w' S us hv hr=>by obtain ⟨p,c,rfl,h'⟩:=hv.lastL hr;exact hk w' S p c h')
theorem qsN {α:Type} [GoT α] (r:α) {all:Array Oper} {l:List Oper} {d ty:Nat} {ps:String} {af:Array Edge} {x:Operand} {args:Array Operand} {ats:Array TypeId} {f:FuncId} {fi ca:Array Value} {az vs:List Value}
  (h:SH w0 w L) (hcall:qei P f) (hc:RetV P f vs w r) (hx:opv e x=some (.func (.func f) fi ca)) (hargs:opvs e args.toList=some az) (hvs:fi.toList++az++ca.toList=vs) (hn:Nat.blt d n=true)
  (hk:∀ w' S cs,SH w0 w' (Ch.own S r cs::L)→Run P n Q (.ops all l::k) ((d,GoT.v α cs)::e) w'):Run P n Q (.ops all (⟨some d,.call ⟨.value x,args,ats⟩,ty,ps,af,none⟩::l)::k) e w :=
 qbZ r h hcall hc hx hargs hvs hn (fun w' S us hv hr=>by obtain ⟨cs,rfl,h'⟩:=hv.last hr;exact hk w' S cs h')
def argEnv:Nat→List Value→Env
 | _,[]=>[]
 | i,v::vs=>(i,v)::argEnv (i+1) vs
theorem qhu:∀ (vs:List Value) (i j:Nat) (v:Value),(argEnv i vs).get j=some v→i≤j∧vs[j-i]?=some v
 | [],_,_,_,h=>by cases h
 | u::vs,i,j,v,h=>by
  simp only [argEnv,Env.get] at h
  cases hb:Nat.beq i j with
  | true =>
   rw [hb] at h
   simp only [Option.some.injEq] at h
   have:=beqT hb
   subst this h
   simp
  | false =>
   rw [hb] at h
   obtain ⟨h1,h2⟩:=qhu vs (i+1) j v h
   refine ⟨by omega,?_⟩
   rw [show j-i=(j-(i+1))+1 by omega,jP]
   exact h2
theorem qpc {ρ:Type} [GoVs ρ] {f:FuncId} {fn:Func} {c:Code} {vs:List Value} {r:ρ} {m:Nat} (hf:P.funcs[f]?=some fn) (hb:fn.body=some c) (hm:fn.ntmps=m) (hn:Nat.ble vs.length m=true)
  (h:SH w w []→Run P m (bodyPost P fn fun e w'=>∃ v,e=.returned v∧Below w.heap.size w w'∧∃ us,v=tup us∧GoVs.Vs w' (fresh w w') r us) [.code c] (argEnv 0 vs) w):RetV P f vs w r:=by
 subst hm
 have hn':=js hn
 refine calls_of_wp hf hb ?_
 have hr:=h (SH.start w)
 have hag:Agree fn.ntmps (argEnv 0 vs) { tmps:=vs.toArray++Array.replicate (fn.ntmps-vs.toArray.size) undef,defers:=[] }:=by
  refine ⟨rfl,by simp;omega,fun i v hi=>?_⟩
  obtain ⟨_,h2⟩:=qhu vs 0 i v hi
  simp only [Nat.sub_zero] at h2
  have hlt:=(List.getElem?_eq_some_iff.1 h2).1
  rw [jU (by simpa using hlt)]
  simpa using h2
 have h1:=hr _ hag
 refine wp_mono h1 ?_
 intro ex a' w' hq
 cases ex<;>exact hq
def ResOk (T:Tab) (e:Env) (w:World):List ResultVar→List Value→Prop
 | [],[]=>True
 | .tmp t::rs,v::vs=>e.get t=some v∧ResOk T e w rs vs
 | .cell a t::rs,v::vs=>(∃ b cs te,e.get a=some (.pointer (some ⟨b,0,none⟩))∧T.get t=some te∧CellsAt w b 0 cs∧ld te cs 0=some v)∧ResOk T e w rs vs
 | _,_=>False
def resOne (tmps:Array Value):ResultVar→Sem Value
 | .tmp t=>pure (tmps.getD t undef)
 | .cell a t=>do loadVar t (←asAddr (tmps.getD a undef))
theorem qqr (fn:Func) (tmps:Array Value):results fn tmps=(do
  let vs ←fn.results.mapM (resOne tmps)
  pure (if h:vs.size=1 then vs[0] else .tuple vs)):=rfl
theorem qkq (hT:TabOk P T) {a:Act} (ha:Agree n e a):∀ {rs:List ResultVar} {vs:List Value},ResOk T e w rs vs→(rs.mapM (resOne a.tmps)).run P w=.ok vs w
 | [],[],_=>rfl
 | .tmp t::rs,v::vs,h=>by
  have h1:=ha.at_ t v h.1
  have ih:=qkq hT ha h.2
  have h0:(resOne a.tmps (.tmp t)).run P w=.ok v w:=by simp [resOne,Array.getD_eq_getD_getElem?,h1]
  simp only [List.mapM_cons,jl,jn,jh,ih,h0]
 | .cell x t::rs,v::vs,h=>by
  obtain ⟨⟨b,cs,te,hx,hte,hc,hl⟩,h2⟩:=h
  have h1:=ha.at_ x _ hx
  have ih:=qkq hT ha h2
  have hld:=qnv (P:=P) (w:=w) hT hte (o:=0) (j:=0) hc hl
  simp only [Instr.loadAt,Instr.sureAddr,jl,jn,jh] at hld
  have h0:(resOne a.tmps (.cell x t)).run P w=.ok v w:=by
   simp only [resOne,Array.getD_eq_getD_getElem?,h1,Option.getD_some,asAddr,jl,jn,jh]
   exact hld
  simp only [List.mapM_cons,jl,jn,jh,ih,h0]
 | [],_::_,h=>h.elim
 | .tmp _::_,[],h=>h.elim
 | .cell _ _::_,[],h=>h.elim
theorem qhg (hT:TabOk P T) {a:Act} (ha:Agree n e a) {fn:Func} {us:List Value} (hr:ResOk T e w fn.results.toList us):(results fn a.tmps).run P w=.ok (tup us) w:=by
 have h1:=qkq (w:=w) hT ha hr
 rw [qqr,jl]
 have h2:(fn.results.mapM (resOne a.tmps)).run P w=.ok us.toArray w:=by
  rw [←Array.toArray_toList (xs:=fn.results),List.mapM_toArray]
  simp only [Sem.run_map]
  rw [h1]
  rfl
 rw [h2]
 simp only [jh,jn]
 congr 1
 match us with
 | []=>rfl
 | [v]=>simp [tup]
 | _::_::_=>simp [tup]
theorem qar (hT:TabOk P T) {fn:Func} {ρ:Type} [GoVs ρ] {r:ρ} (us:List Value) (h:SH w0 w L) (hr:ResOk T e w fn.results.toList us) (hv:GoVs.Vs w (fresh w0 w) r us) :
  Run P n (bodyPost P fn fun e w'=>∃ v,e=.returned v∧Below w0.heap.size w0 w'∧∃ us,v=tup us∧GoVs.Vs w' (fresh w0 w') r us) (.code .ret::k) e w :=
 qo5 fun _ ha=>⟨ha.defers,tup us,qhg hT ha hr,tup us,rfl,h.below,us,rfl,hv⟩
theorem qrH (r:Int) (S:Nat→Prop):GoVs.Vs w S r [.int .i64 r]:=⟨[.int .i64 r],rfl,rfl⟩
theorem qsX (r:Bool) (S:Nat→Prop):GoVs.Vs w S r [.bool r]:=⟨[.bool r],rfl,rfl⟩
theorem qou (r:ByteArray) (S:Nat→Prop):GoVs.Vs w S r [.string r]:=⟨[.string r],rfl,rfl⟩
def Within (L:List Ch) (I:List Nat) (S:Nat→Prop):Prop:=∀ b,S b→∃ i c,i ∈ I∧L[i]?=some c∧c.S b
def PO (w:World) (L:List Ch) (I:List Nat) {α:Type} [GoT α] (r:α) (cs:List Value):Prop:=∃ S,GoT.O w S r cs∧Within L I S
def PV (w:World) (L:List Ch) (I:List Nat) {ρ:Type} [GoVs ρ] (r:ρ) (us:List Value):Prop:=∃ S,GoVs.Vs w S r us∧Within L I S
theorem qC {α:Type} [GoT α] {r:α} {cs:List Value} {S:Nat→Prop} (i:Nat) (h:SH w0 w L) (hi:L[i]?=some (Ch.own S r cs)):PO w L [i] r cs :=
 ⟨S,(h.mem hi).1,fun _ hb=>⟨i,_,by simp,hi,hb⟩⟩
theorem qu {α:Type} [GoT α] [Flat α] {r:α} {cs:List Value} {S:Nat→Prop} (h:GoT.R w S r cs):PO w L [] r cs :=
 ⟨fun _=>False,Flat.fl h,fun _ h=>h.elim⟩
def apartB (I J:List Nat):Bool:=I.all fun i=>J.all fun j=>!(Nat.beq i j)
theorem qg5 {I J:List Nat} {S1 S2:Nat→Prop} (h:SH w0 w L) (h1:Within L I S1) (h2:Within L J S2) (hb:apartB I J=true):∀ b,S1 b→¬ S2 b:=by
 intro b hb1 hb2
 obtain ⟨i,c,hi,hic,hcb⟩:=h1 b hb1
 obtain ⟨j,d,hj,hjd,hdb⟩:=h2 b hb2
 have hne:i ≠ j:=by
  intro hij
  subst hij
  have h3:=List.all_eq_true.1 hb i hi
  have h4:=List.all_eq_true.1 h3 i hj
  rw [beqR] at h4
  cases h4
 have hil:=(List.getElem?_eq_some_iff.1 hic)
 have hjl:=(List.getElem?_eq_some_iff.1 hjd)
 obtain ⟨hil,rfl⟩:=hil
 obtain ⟨hjl,rfl⟩:=hjl
 rcases Nat.lt_or_gt_of_ne hne with hlt|hlt
 ·exact List.pairwise_iff_getElem.1 h.apart i j hil hjl hlt b hcb hdb
 ·exact List.pairwise_iff_getElem.1 h.apart j i hjl hil hlt b hdb hcb
theorem qbV {α β:Type} {A:GoT α} {B:GoT β} {a:α} {b:β} {c1 c2:List Value} {I J:List Nat} (h:SH w0 w L) (h1:PO w L I a c1) (h2:PO w L J b c2) (hb:apartB I J=true):@PO w L (I++J) (α × β) (pairT A B) (a,b) (c1++c2):=by
 obtain ⟨S1,h1,w1⟩:=h1
 obtain ⟨S2,h2,w2⟩:=h2
 have hap:=qg5 h w1 w2 hb
 refine ⟨fun x=>S1 x∨S2 x,⟨S1,S2,c1,c2,rfl,h1,h2,fun x hx=>⟨.inl hx,hap x hx⟩,fun x hx=>.inr hx⟩,?_⟩
 rintro x (hx|hx)
 ·obtain ⟨i,c,hi,h⟩:=w1 x hx;exact ⟨i,c,by simp [hi],h⟩
 ·obtain ⟨i,c,hi,h⟩:=w2 x hx;exact ⟨i,c,by simp [hi],h⟩
theorem qaD {α:Type} [GoT α] {r:α} {cs:List Value} {I:List Nat} (h:PO w L I r cs):PV w L I r [GoT.v α cs]:=by
 obtain ⟨S,h1,h2⟩:=h
 exact ⟨S,⟨cs,rfl,h1⟩,h2⟩
theorem qaC {α β:Type} [GoT α] [GoVs β] {a:α} {b:β} {cs us:List Value} {I J:List Nat} (h:SH w0 w L) (h1:PO w L I a cs) (h2:PV w L J b us) (hb:apartB I J=true):PV w L (I++J) (a,b) (GoT.v α cs::us):=by
 obtain ⟨S1,h1,w1⟩:=h1
 obtain ⟨S2,h2,w2⟩:=h2
 have hap:=qg5 h w1 w2 hb
 refine ⟨fun x=>S1 x∨S2 x,⟨S1,S2,cs,us,rfl,h1,h2,fun x hx=>⟨.inl hx,hap x hx⟩,fun x hx=>.inr hx⟩,?_⟩
 rintro x (hx|hx)
 ·obtain ⟨i,c,hi,h⟩:=w1 x hx;exact ⟨i,c,by simp [hi],h⟩
 ·obtain ⟨i,c,hi,h⟩:=w2 x hx;exact ⟨i,c,by simp [hi],h⟩
end
class MonoVs (ρ:Type) [GoVs ρ]:Prop where
 mono:∀ {w:World} {S S':Nat→Prop} {r:ρ} {us:List Value},GoVs.Vs w S r us→(∀ b,S b→S' b)→GoVs.Vs w S' r us
instance {α:Type} [GoT α]:MonoVs α:=⟨fun h hs=>by obtain ⟨cs,rfl,h⟩:=h;exact ⟨cs,rfl,GoT.monoO h hs⟩⟩
instance (priority:=high) {α β:Type} [GoT α] [GoVs β]:MonoVs (α × β):=⟨fun h hs=>by
 obtain ⟨S1,S2,cs,us,rfl,h1,h2,h3,h4⟩:=h
 exact ⟨S1,S2,cs,us,rfl,h1,h2,fun b hb=>⟨hs b (h3 b hb).1,(h3 b hb).2⟩,fun b hb=>hs b (h4 b hb)⟩⟩
theorem PV.done {w0 w:World} {L:List Ch} {ρ:Type} [GoVs ρ] [MonoVs ρ] {r:ρ} {us:List Value} {I:List Nat} (h:SH w0 w L) (hp:PV w L I r us):GoVs.Vs w (fresh w0 w) r us:=by
 obtain ⟨S,h1,h2⟩:=hp
 refine MonoVs.mono h1 (fun b hb=>?_)
 obtain ⟨i,c,_,hic,hcb⟩:=h2 b hb
 exact (h.mem hic).2 b hcb
end Go.Fw


namespace Go.Fw
open Go
open Go.RowKit (Below)
section
variable {P:Program} {T:Tab} {n:Nat} {Q:Exit→Act→World→Prop} {k:List It} {e:Env} {w0 w w':World} {L:List Ch}
def RunD (P:Program) (n:Nat) (Q:Exit→Act→World→Prop) (k:List It) (all:Array Oper) (w:World) (l:List Oper) (e:Env):Prop :=
 ∀ a,Agree n e a→wpQuiet P all (fun w'=>Below w.heap.size w w') (fun a'=>∀ w',Below w.heap.size w w'→post P Q k .normal a' w') l a
theorem qtU {id:Nat} {ops:List Oper} (hm:P.follows .mixedOrders=true) (hB:Region.lexB .any ops.toArray=true) (h:RunD P n Q k ops.toArray w ops e):Run P n Q (.code (.region id ops.toArray true)::k) e w:=by
 intro a ha
 refine wp_region_quiet (C:=fun w'=>Below w.heap.size w w') hm hB ⟨rfl,rfl,rfl,jf _,fun _ _=>rfl⟩ ?_
 exact h a ha
theorem qt8 {all:Array Oper} (h:∀ w',Below w.heap.size w w'→Run P n Q k e w'):RunD P n Q k all w [] e:=fun a ha w' hw'=>h w' hw' a ha
theorem d_v {all:Array Oper} {l:List Oper} {op:Op} {d t:Nat} {ps:String} {af:Array Edge} {v:Value}
  (h:∀ w',Below w.heap.size w w'→Val P n e ⟨some d,op,t,ps,af,none⟩ w' v) (hn:Nat.blt d n=true) (hk:RunD P n Q k all w l ((d,v)::e)):RunD P n Q k all w (⟨some d,op,t,ps,af,none⟩::l) e:=by
 intro a ha
 have hw:Region.wanted (⟨some d,op,t,ps,af,none⟩:Oper) (yielded all a.tmps)=true:=rfl
 rw [wpQuiet,if_pos hw]
 refine ⟨v,fun w' hw'=>?_,hk _ (ha.put hn v)⟩
 unfold Oper.quietAt
 rw [h w' hw' a ha]
 exact ⟨rfl,rfl⟩
theorem d_p (hT:TabOk P T) {all:Array Oper} {l:List Oper} {op:Op} {d t:Nat} {ps:String} {af:Array Edge} {v:Value}
  (h:pev T e op=some v) (hn:Nat.blt d n=true) (hk:RunD P n Q k all w l ((d,v)::e)):RunD P n Q k all w (⟨some d,op,t,ps,af,none⟩::l) e :=
 d_v (fun w' _=>v_p hT h w') hn hk
theorem qsJ {all:Array Oper} {o:Oper} {l:List Oper} (h:guardOf e all o=some true)
  (hk:RunD P n Q k all w ({ o with guard:=none }::l) e):RunD P n Q k all w (o::l) e:=by
 intro a ha
 have h1:=hk a ha
 have hw:=qie ha h
 rw [wpQuiet,if_pos hw]
 rw [wpQuiet,if_pos (by simp [Region.wanted])] at h1
 exact h1
theorem qc7 {ρ:Type} [GoT ρ] (r:ρ) {v:Value} (hv:∀ (w:World) (S:Nat→Prop) (us:List Value),(vsOne:GoVs ρ).Vs w S r us→us=[v]) {all:Array Oper} {l:List Oper} {d ty:Nat} {ps:String} {af:Array Edge} {x:Operand} {args:Array Operand} {ats:Array TypeId} {f:FuncId} {fi ca:Array Value} {az vs:List Value}
  (hcall:qei P f) (hc:∀ w',Below w.heap.size w w'→RetV (ρ:=ρ) P f vs w' r) (hx:opv e x=some (.func (.func f) fi ca)) (hargs:opvs e args.toList=some az) (hvs:fi.toList++az++ca.toList=vs) (hn:Nat.blt d n=true)
  (hk:RunD P n Q k all w l ((d,v)::e)):RunD P n Q k all w (⟨some d,.call ⟨.value x,args,ats⟩,ty,ps,af,none⟩::l) e:=by
 intro a ha
 subst hvs
 have hw:Region.wanted (⟨some d,.call ⟨.value x,args,ats⟩,ty,ps,af,none⟩:Oper) (yielded all a.tmps)=true:=rfl
 rw [wpQuiet,if_pos hw]
 refine ⟨v,fun w' hw'=>?_,hk _ (ha.put hn v)⟩
 unfold Oper.quietAt
 rw [qhy ha hcall hx hargs w']
 refine ⟨rfl,(hc w' hw').mono ?_⟩
 rintro e' w'' ⟨u,rfl,hb,us,rfl,hr⟩
 refine ⟨?_,hw'.trans (hb.mono hw'.size)⟩
 rw [hv w'' _ us hr]
 rfl
theorem vsI (r:Int) (w:World) (S:Nat→Prop) (us:List Value) (h:(vsOne:GoVs Int).Vs w S r us):us=[.int .i64 r]:=by
 obtain ⟨cs,rfl,h⟩:=h
 have:cs=[.int .i64 r]:=h
 subst this;rfl
theorem vsB (r:Bool) (w:World) (S:Nat→Prop) (us:List Value) (h:(vsOne:GoVs Bool).Vs w S r us):us=[.bool r]:=by
 obtain ⟨cs,rfl,h⟩:=h
 have:cs=[.bool r]:=h
 subst this;rfl
def SA (st:List Nat) (C:World→Prop) (listed:Array Bool) (w:World):Prop:=(∀ s ∈ st,listed.getD s true=false)→C w
def wpAnyS (P:Program) (ops:Array Oper) (Q:Exit→Act→World→Prop) (st:List Nat) (C:World→Prop):Nat→Array Bool→Act→World→Prop
 | 0,listed,a,w=>Region.ready .any ops listed=[]∧Q .normal a w
 | fuel+1,listed,a,w =>
  (Region.ready .any ops listed=[]→Q .normal a w) ∧
  ∀ i ∈ Region.ready .any ops listed,wpOp P ops Q i (fun a' w'=>SA st C (listed.setIfInBounds i true) w'∧wpAnyS P ops Q st C fuel (listed.setIfInBounds i true) a' w') a w
theorem qmZ {ops:Array Oper} {st:List Nat} {C:World→Prop}:∀ (fuel:Nat) (listed:Array Bool) (a:Act) (w:World),wpAnyS P ops Q st C fuel listed a w→wpAny P .any ops Q fuel listed a w
 | 0,_,_,_,h=>h
 | fuel+1,_,_,_,h=>⟨h.1,fun i hi=>wpOp_mono (fun a' w' h'=>qmZ fuel _ a' w' h'.2) (h.2 i hi)⟩
def waitsB (ops:Array Oper) (i s:Nat):Bool :=
 match ops[s]? with
 | some o=>o.after.any fun e=>Region.binds .any e&&e.on==i
 | none=>false
theorem qjB {ops:Array Oper} {st:List Nat} {C:World→Prop} {i:Nat} {oi:Oper} {v:Value} (hi:ops[i]?=some oi) (hsel:∀ (j:Nat) (o:Oper) cs b,ops[j]?=some o→o.op ≠ .select cs b)
  (hQ:∀ c a w,Q (.panic c) (a.put oi.dst v) w→Q (.panic c) a w) (hst:∀ s ∈ st,s ≠ i∧waitsB ops i s=true) :
  ∀ (fuel:Nat) (listed:Array Bool) (a:Act) (w:World),
   (∀ j oj,ops[j]?=some oj→j ≠ i→listed.getD j true=false→(∀ e ∈ oj.after,Region.binds .any e=true→e.on ≠ i)→oi.apart ops oj=true) →
   i ∈ Region.ready .any ops listed→YieldsIf P ops C oi v a→(∀ s ∈ st,listed.getD s true=false)→C w →
   wpAnyS P ops Q st C fuel (listed.setIfInBounds i true) (a.put oi.dst v) w→wpAnyS P ops Q st C (fuel+1) listed a w:=by
 intro fuel
 induction fuel with
 | zero =>
  intro listed a w _ hr hy hun hC H
  refine ⟨fun h=>(by rw [h] at hr;cases hr),fun j hj=>?_⟩
  by_cases hji:j=i
  ·subst hji;exact hy.wpOp hi hC ⟨fun _=>hC,H⟩
  ·have:=ready_mono hj hji
   rw [H.1] at this
   cases this
 | succ fuel ih =>
  intro listed a w hfree hr hy hun hC H
  refine ⟨fun h=>(by rw [h] at hr;cases hr),fun j hj=>?_⟩
  by_cases hji:j=i
  ·subst hji;exact hy.wpOp hi hC ⟨fun _=>hC,H⟩
  ·have h1:=H.2 j (ready_mono hj hji)
   obtain ⟨hjun,oj,hoj,hall⟩:=mem_ready.1 hj
   have hnot:∀ e ∈ oj.after,Region.binds .any e=true→e.on ≠ i:=fun e he hb heq=>by
    have h1:=hall e he hb
    have h0:=(mem_ready.1 hr).1
    rw [heq] at h1
    rcases Nat.lt_or_ge i listed.size with h'|h'
    ·simp [h'] at h0 h1;rw [h0] at h1;cases h1
    ·simp [Array.getElem?_eq_none h'] at h1
   have hjst:∀ s ∈ st,j ≠ s:=by
    intro s hs hjs
    subst hjs
    have:=(hst j hs).2
    unfold waitsB at this
    rw [hoj] at this
    obtain ⟨ed,hed,hb⟩:=Array.any_eq_true'.1 this
    simp only [jg,beq_iff_eq] at hb
    exact hnot ed hed hb.1 hb.2
   have hun':∀ s ∈ st,(listed.setIfInBounds j true).getD s true=false:=fun s hs=>by rw [getD_set_ne true (hjst s hs)];exact hun s hs
   have h2:=wpOp_putIf hoj (hfree j oj hoj hji hjun hnot) (fun cs b=>hsel i oi cs b hi) (fun cs b=>hsel j oj cs b hoj) hQ hy h1
   have hfree':∀ k ok,ops[k]?=some ok→k ≠ i→(listed.setIfInBounds j true).getD k true=false →
     (∀ e ∈ ok.after,Region.binds .any e=true→e.on ≠ i)→oi.apart ops ok=true:=fun k ok hk hki hun hno=>by
    refine hfree k ok hk hki ?_ hno
    by_cases hjk:j=k
    ·subst hjk;exact hjun
    ·rw [getD_set_ne true hjk] at hun;exact hun
   have hsa:∀ w'',SA st C ((listed.setIfInBounds i true).setIfInBounds j true) w''→C w'':=fun w'' h=>h (fun s hs=>by
    rw [getD_set_ne true (hjst s hs),getD_set_ne true (fun h=>(hst s hs).1 h.symm)];exact hun s hs)
   refine wpOp_mono (fun a' w' h3=>⟨fun _=>hsa w' h3.2.1,ih (listed.setIfInBounds j true) a' w' hfree' (ready_mono hr (Ne.symm hji)) h3.1 hun' (hsa w' h3.2.1) ?_⟩) h2
   rw [Array.setIfInBounds_comm _ _ hji]
   exact h3.2.2
def RunA (P:Program) (n:Nat) (Q:Exit→Act→World→Prop) (k:List It) (ops:Array Oper) (st:List Nat) (C:World→Prop) (fuel:Nat) (listed:Array Bool) (e:Env) (w:World):Prop :=
 ∀ a,Agree n e a→wpAnyS P ops (post P Q k) st C fuel listed a w
theorem qtp {id:Nat} {ops:List Oper} (st:List Nat) (C:World→Prop) (hm:P.follows .mixedOrders=true) (m:Nat) (hsz:ops.toArray.size=m) (listed:Array Bool) (hl:Array.replicate m false=listed)
  (h:∀ w',Below w.heap.size w w'→RunA P n Q k ops.toArray st C m listed e w'):Run P n Q (.code (.region id ops.toArray true)::k) e w:=by
 subst hsz
 subst hl
 intro a ha
 refine wp_region_any hm (qmZ (st:=st) (C:=C) _ _ _ _ ?_)
 exact h { w with drawn:=w.drawn+1 } ⟨rfl,rfl,rfl,jf _,fun _ _=>rfl⟩ a ha
theorem qlV {k:List It} {fnc:Func} {R:Ending→World→Prop} {d:Option Tmp} {v:Value}:∀ c a w,post P (bodyPost P fnc R) k (.panic c) (a.put d v) w→post P (bodyPost P fnc R) k (.panic c) a w:=by
 intro c a w
 induction k with
 | nil =>
  intro h
  refine ⟨?_,h.2⟩
  have:=h.1
  cases d<;>exact this
 | cons x k ih=>cases x<;>exact ih
theorem qnf {fnc:Func} {R:Ending→World→Prop} {ops:Array Oper} {st:List Nat} {C:World→Prop} {fuel:Nat} {listed:Array Bool} (i:Nat) {d:Nat} {op:Op} {t:Nat} {ps:String} {af:Array Edge} {v:Value}
  (hi:ops[i]?=some ⟨some d,op,t,ps,af,none⟩) (listed':Array Bool) (hl:listed.setIfInBounds i true=listed')
  (hb:(Region.noSelect ops&&Region.free .any ops listed i&&(Region.ready .any ops listed).contains i&&st.all (fun s=>!(Nat.beq s i)&&waitsB ops i s&&!(listed.getD s true)))=true)
  (hv:∀ w',C w'→Val P n e ⟨some d,op,t,ps,af,none⟩ w' v) (hC:C w) (hn:Nat.blt d n=true)
  (hk:RunA P n (bodyPost P fnc R) k ops st C fuel listed' ((d,v)::e) w):RunA P n (bodyPost P fnc R) k ops st C (fuel+1) listed e w:=by
 subst hl
 simp only [jg,Je,jO] at hb
 obtain ⟨⟨⟨h1,h2⟩,h3⟩,h4⟩:=hb
 intro a ha
 refine qjB hi (Region.noSelect_spec h1) (fun c a w h=>qlV c a w h) (fun s hs=>⟨fun h=>?_,(h4 s hs).1.2⟩) fuel listed a w (Region.free_spec hi h2) (by simpa using h3) (.inl ⟨rfl,fun w' hw'=>hv w' hw' a ha⟩) (fun s hs=>(h4 s hs).2) hC (hk _ (ha.put hn v))
 have:=(h4 s hs).1.1
 rw [h,beqR] at this
 cases this
def NextA (P:Program) (_:Nat) (Q:Exit→Act→World→Prop) (k:List It) (ops:Array Oper) (st:List Nat) (C:World→Prop) (fuel:Nat) (listed:Array Bool) (a:Act) (w:World):Prop :=
 SA st C listed w∧wpAnyS P ops (post P Q k) st C fuel listed a w
theorem qeh {ops:Array Oper} {st:List Nat} {C:World→Prop} {fuel:Nat} {listed:Array Bool} {all:Array Oper} (hC:SA st C listed w) (h:RunA P n Q k ops st C fuel listed e w):Run P n Q (.ops all []::.goal (NextA P n Q k ops st C fuel listed)::k) e w :=
 fun a ha=>⟨hC,h a ha⟩
theorem qkd {ops:Array Oper} {i:Nat} {o:Oper} {J:Act→World→Prop} {a:Act} (hi:ops[i]?=some o) (h:wpList P ops (post P Q (.goal J::k)) [o] a w):wpOp P ops (post P Q k) i J a w:=by
 unfold wpOp
 simp only [hi]
 rw [wpList] at h
 split at h
 ·rename_i hw
  rw [if_pos hw]
  rcases h with h|⟨h1,h2⟩
  ·refine .inl ?_
   unfold Oper.wp at *
   generalize (execOp a.eval o).run P w=r at *
   cases r with
   | ok m w' =>
    cases m<;>simp only [Oper.upon] at h ⊢<;>exact h
   | halt x w'=>cases x<;>simp only [Oper.upon] at h ⊢<;>exact h
  ·exact .inr ⟨h1,h2⟩
 ·rename_i hw
  rw [if_neg hw]
  exact h
theorem qtL {ops:Array Oper} {st:List Nat} {C:World→Prop} {fuel:Nat} {listed:Array Bool} (i:Nat) {o:Oper} (hi:ops[i]?=some o) (listed':Array Bool) (hl:listed.setIfInBounds i true=listed') (hr:Region.ready .any ops listed=[i])
  (h:Run P n Q (.ops ops [o]::.goal (NextA P n Q k ops st C fuel listed')::k) e w):RunA P n Q k ops st C (fuel+1) listed e w:=by
 subst hl
 intro a ha
 refine ⟨fun h0=>(by rw [hr] at h0;cases h0),fun j hj=>?_⟩
 rw [hr] at hj
 have:j=i:=by simpa using hj
 subst this
 exact qkd hi (h a ha)
theorem qt7 {ops:Array Oper} {st:List Nat} {C:World→Prop} {fuel:Nat} {listed:Array Bool} (i j:Nat) {o o':Oper} (hi:ops[i]?=some o) (hj:ops[j]?=some o') (listed1 listed2:Array Bool) (hl1:listed.setIfInBounds i true=listed1) (hl2:listed.setIfInBounds j true=listed2) (hr:Region.ready .any ops listed=[i,j])
  (h1:Run P n Q (.ops ops [o]::.goal (NextA P n Q k ops st C fuel listed1)::k) e w) (h2:Run P n Q (.ops ops [o']::.goal (NextA P n Q k ops st C fuel listed2)::k) e w):RunA P n Q k ops st C (fuel+1) listed e w:=by
 subst hl1 hl2
 intro a ha
 refine ⟨fun h0=>(by rw [hr] at h0;cases h0),fun m hm=>?_⟩
 rw [hr] at hm
 rcases List.mem_cons.1 hm with rfl|hm
 ·exact qkd hi (h1 a ha)
 ·have:m=j:=by simpa using hm
  subst this
  exact qkd hj (h2 a ha)
theorem qtS {ops:Array Oper} {st:List Nat} {C:World→Prop} {listed:Array Bool} (hr:Region.ready .any ops listed=[]) (h:Run P n Q k e w):RunA P n Q k ops st C 0 listed e w :=
 fun a ha=>⟨hr,h a ha⟩
end
end Go.Fw


namespace Go.Fw
open Go
open Go.RowKit (Below)
abbrev W64 (x:Int):Int:=IntKind.i64.wrap x
inductive Flow (ρ σ:Type) where
 | ret (r:ρ)
 | nxt (s:σ)
def mkS {α:Type} (n:Int) (z:α):Option (List α):=if 0≤n∧n≤big then some (List.replicate n.toNat z) else none
theorem qfx {α:Type} {n:Int} {z:α} {r:List α} (h:mkS n z=some r):0≤n∧n≤big∧List.replicate n.toNat z=r:=by
 unfold mkS at h
 split at h
 ·rename_i hh;simp only [Option.some.injEq] at h;exact ⟨hh.1,hh.2,h⟩
 ·cases h
def appS {α:Type} (xs ys:List α):Option (List α):=if xs.length+ys.length≤big then some (xs++ys) else none
theorem qr {α:Type} {xs ys r:List α} (h:appS xs ys=some r):xs.length+ys.length≤big∧xs++ys=r:=by
 unfold appS at h
 split at h
 ·rename_i hh;simp only [Option.some.injEq] at h;exact ⟨hh,h⟩
 ·cases h
def setS {α:Type} (xs:List α) (i:Int) (y:α):List α:=xs.set i.toNat y
theorem bifT {α:Type} {c:Bool} {a b:Option α} {r:α} (hc:c=true) (h:(bif c then a else b)=some r):a=some r:=by rw [hc] at h;exact h
theorem bifF {α:Type} {c:Bool} {a b:Option α} {r:α} (hc:c=false) (h:(bif c then a else b)=some r):b=some r:=by rw [hc] at h;exact h
theorem qe {α β:Type} {x:Option α} {f:α→Option β} {r:β} (h:x.bind f=some r):∃ a,x=some a∧f a=some r:=Option.bind_eq_some_iff.1 h
theorem bindE {α β:Type} {x:Option α} {f:α→Option β} {r:β} (h:x.bind f=some r):∃ g:α→Option β,g=f∧∃ a,x=some a∧g a=some r:=by
 obtain ⟨a,h1,h2⟩:=qe h
 exact ⟨f,rfl,a,h1,h2⟩
theorem qk {P:Program} {n:Nat} {Q:Exit→Act→World→Prop} {kk:List It} {e:Env} {w:World} {α:Type} {c:Operand} {x y:Code} {b:Bool} {f g:Option α} {r:α} (hc:opv e c=some (.bool b)) (hF:(bif b then f else g)=some r)
  (ht:f=some r→Run P n Q (.code x::kk) e w) (hf:g=some r→Run P n Q (.code y::kk) e w):Run P n Q (.code (.cond c x y)::kk) e w :=
 qkD hc (fun h=>ht (bifT h hF)) (fun h=>hf (bifF h hF))
theorem quf {P:Program} {T:Tab} {n:Nat} {k:List It} {e:Env} {w0 w:World} {L:List Ch} (hT:TabOk P T) {fn:Func} {x r:Bool} (h:SH w0 w L) (hF:some x=some r) (hr:ResOk T e w fn.results.toList [.bool x]) :
  Run P n (bodyPost P fn fun e w'=>∃ v,e=.returned v∧Below w0.heap.size w0 w'∧∃ us,v=tup us∧GoVs.Vs w' (fresh w0 w') r us) (.code .ret::k) e w :=
 Option.some.inj hF ▸ qar hT (ρ:=Bool) [_] h hr (qsX _ _)
theorem que {P:Program} {T:Tab} {n:Nat} {k:List It} {e:Env} {w0 w:World} {L:List Ch} (hT:TabOk P T) {fn:Func} {x r:Int} (h:SH w0 w L) (hF:some x=some r) (hr:ResOk T e w fn.results.toList [.int .i64 x]) :
  Run P n (bodyPost P fn fun e w'=>∃ v,e=.returned v∧Below w0.heap.size w0 w'∧∃ us,v=tup us∧GoVs.Vs w' (fresh w0 w') r us) (.code .ret::k) e w :=
 Option.some.inj hF ▸ qar hT (ρ:=Int) [_] h hr (qrH _ _)
abbrev tt:Bool:=true
abbrev ff:Bool:=false
theorem qc {α:Type} {a r:α} (h:some a=some r):a=r:=Option.some.inj h
theorem qI {iv:Int} {l m:Nat} (h:iv<(m:Int)) (e:l=m):iv<(l:Int):=e ▸ h
section
variable {P:Program} {T:Tab} {n:Nat} {Q:Exit→Act→World→Prop} {k:List It} {e:Env} {w0 w w':World} {L:List Ch}
theorem qow {α:Type} [GoT α] {S:Nat→Prop}:SlR w S ([]:List α) none 0:=⟨by simp,by simp,.inl ⟨.inl rfl,rfl⟩⟩
theorem qeO {α:Type} [GoT α]:PO w L [] ([]:List α) [.slice none 0 0]:=⟨fun _=>False,⟨none,0,rfl,by simp,by simp,.inl ⟨rfl,rfl,rfl⟩⟩,fun _ h=>h.elim⟩
theorem qt0 {t:Nat} {b:Bool} (hb:b=true) (ht:e.get t=some (.bool b)) (hk:Run P n Q k ((t,.bool true)::e) w):Run P n Q k e w:=by
 subst hb
 intro a ha
 refine hk a ⟨ha.defers,ha.size,fun i v hi=>?_⟩
 simp only [Env.get] at hi
 cases hbb:Nat.beq t i with
 | true=>rw [hbb] at hi;simp only [Option.some.injEq] at hi;subst hi;have:=beqT hbb;subst this;exact ha.at_ _ _ ht
 | false=>rw [hbb] at hi;exact ha.at_ _ _ hi
theorem qtI {t:Nat} {b:Bool} (hb:b=false) (ht:e.get t=some (.bool b)) (hk:Run P n Q k ((t,.bool false)::e) w):Run P n Q k e w:=by
 subst hb
 intro a ha
 refine hk a ⟨ha.defers,ha.size,fun i v hi=>?_⟩
 simp only [Env.get] at hi
 cases hbb:Nat.beq t i with
 | true=>rw [hbb] at hi;simp only [Option.some.injEq] at hi;subst hi;have:=beqT hbb;subst this;exact ha.at_ _ _ ht
 | false=>rw [hbb] at hi;exact ha.at_ _ _ hi
theorem qtV {all:Array Oper} {l:List Oper} {t:Nat} {b:Bool} (hb:b=true) (ht:e.get t=some (.bool b)) (hk:RunD P n Q k all w l ((t,.bool true)::e)):RunD P n Q k all w l e:=by
 subst hb
 intro a ha
 refine hk a ⟨ha.defers,ha.size,fun i v hi=>?_⟩
 simp only [Env.get] at hi
 cases hbb:Nat.beq t i with
 | true=>rw [hbb] at hi;simp only [Option.some.injEq] at hi;subst hi;have:=beqT hbb;subst this;exact ha.at_ _ _ ht
 | false=>rw [hbb] at hi;exact ha.at_ _ _ hi
theorem qtt {all:Array Oper} {l:List Oper} {t:Nat} {b:Bool} (hb:b=false) (ht:e.get t=some (.bool b)) (hk:RunD P n Q k all w l ((t,.bool false)::e)):RunD P n Q k all w l e:=by
 subst hb
 intro a ha
 refine hk a ⟨ha.defers,ha.size,fun i v hi=>?_⟩
 simp only [Env.get] at hi
 cases hbb:Nat.beq t i with
 | true=>rw [hbb] at hi;simp only [Option.some.injEq] at hi;subst hi;have:=beqT hbb;subst this;exact ha.at_ _ _ ht
 | false=>rw [hbb] at hi;exact ha.at_ _ _ hi
theorem qqz {x y:Operand} {t t' d ty:Nat} {ps:String} {af:Array Edge} {g:Option (Nat × Bool)} {kd kd':IntKind} {a b:Int}
  (h0:0≤b) (hx:opv e x=some (.int kd a)) (hy:opv e y=some (.int kd' b)):Val P n e ⟨some d,.binOp .shl t x y t',ty,ps,af,g⟩ w (.int kd (kd.wrap (a*2 ^ (min b.toNat kd.bits)))):=by
 intro c hc
 have h1:¬ b<0:=by omega
 simp only [execOp,hc.eval hx,hc.eval hy,jl,qhZ,jh,binOp,Op.shift,h1,if_false,jn]
theorem qud {x y:Operand} {t t' d ty:Nat} {ps:String} {af:Array Edge} {g:Option (Nat × Bool)} {kd:IntKind} {a b:Int}
  (h0:b ≠ 0) (hx:opv e x=some (.int kd a)) (hy:opv e y=some (.int kd b)):Val P n e ⟨some d,.binOp .rem t x y t',ty,ps,af,g⟩ w (.int kd (a.tmod b)):=by
 intro c hc
 simp only [execOp,hc.eval hx,hc.eval hy,jl,qhZ,jh,binOp,ne_eq,not_true_eq_false,if_false,Op.intDiv,h0,jn]
def Ch.rowD {α:Type} [GoT α] (w0:World) (S:Nat→Prop) (xs:List α) (p:Option Addr) (c:Nat):Ch where
 S:=S
 D _:=False
 P w:=xs.length≤c∧c≤maxLen∧((p=none∧xs=[]∧c=0)∨∃ b cur T,p=some ⟨b,0,none⟩∧S b∧w.heap[b]?=some (.cells cur T (0,0))∧cur.size=c*GoT.k α ∧
  ∀ i x,xs[i]?=some x→∃ cs,GoT.R w0 (old w0) x cs∧∀ j v,cs[j]?=some v→cur[i*GoT.k α+j]?=some v)
 loc w w' h _ hp:=by
  obtain ⟨h1,h2,h3⟩:=hp
  refine ⟨h1,h2,?_⟩
  rcases h3 with h3|⟨b,cur,T,rfl,hb,hg,hc,hx⟩
  ·exact .inl h3
  ·exact .inr ⟨b,cur,T,rfl,hb,by rw [h b hb];exact hg,hc,hx⟩
theorem SH.atD {α:Type} [GoT α] {S:Nat→Prop} {xs:List α} {p:Option Addr} {c:Nat} (h:SH w0 w L) (i:Nat) (hi:L[i]?=some (Ch.rowD w0 S xs p c)) {iv:Int} {x:α} (hx:idx xs iv=some x) :
  ∃ b o q cs,p=some ⟨b,o,none⟩∧q=o+iv.toNat*GoT.k α∧S b∧GoT.R w0 (Fw.old w0) x cs∧CellsAt w b q cs:=by
 obtain ⟨h0,hlt,hxi⟩:=qax hx
 obtain ⟨h1,h2,h3⟩:=(h.mem hi).1
 rcases h3 with ⟨rfl,rfl,_⟩|⟨b,cur,T,rfl,hb,hg,hc,hx'⟩
 ·simp at hlt;omega
 ·obtain ⟨cs,hr,hj⟩:=hx' _ _ hxi
  exact ⟨b,0,_,cs,rfl,rfl,hb,hr,CellsAt.of_block hg (by simpa using hj)⟩
theorem qmb (hT:TabOk P T) {α:Type} [GoT α] {all:Array Oper} {l:List Oper} {d t ty el len:Nat} {ps:String} {af:Array Edge} {parts:Array (Nat × Operand)} {te te':TE} {zv:Value} (os:List Operand) (vs:List Value) (ys:List α)
  (h:SH w0 w L) (hparts:parts.toList=(os.zipIdx 0).map fun x=>(x.2,x.1)) (hvs:opvs e os=some vs) (hlen:len=vs.length)
  (hte:T.get t=some te) (hk:te.kind=.slice el) (hel:T.get el=some te') (hz:te'.zero=some zv) (hsz:te'.size=GoT.k α) (hsmall:Nat.ble (vs.length*te'.size) 16777216=true)
  (hc:Cells2 w0 (Fw.old w0) ys (vs.map cellsL)) (hn:Nat.blt d n=true)
  (hkk:∀ w' p S,SH w0 w' (Ch.rowD w0 S ys p len::L)→Run P n Q (.ops all l::k) ((d,.slice p len len)::e) w') :
  Run P n Q (.ops all (⟨some d,.buildSlice t len parts,ty,ps,af,none⟩::l)::k) e w:=by
 have hlenys:∀ {ys:List α} {cs:List (List Value)},Cells2 w0 (Fw.old w0) ys cs→ys.length=cs.length∧∀ c ∈ cs,c.length=GoT.k α:=by
  intro ys
  induction ys with
  | nil=>intro cs hc;cases cs with
   | nil=>simp
   | cons=>exact hc.elim
  | cons y ys ih =>
   intro cs hc
   cases cs with
   | nil=>exact hc.elim
   | cons c cs =>
    obtain ⟨h1,h2⟩:=hc
    have:=ih h2
    refine ⟨by simp [this.1],fun d hd=>?_⟩
    rcases List.mem_cons.1 hd with rfl|hd
    ·exact GoT.len h1
    ·exact this.2 d hd
 obtain ⟨hl1,hl2⟩:=hlenys hc
 have hcs:∀ v ∈ vs,(cellsL v).length=te'.size:=fun v hv=>by rw [hsz];exact hl2 _ (List.mem_map.2 ⟨v,hv,rfl⟩)
 have hr:=qjO hT vs hte hk hel hz (js hsmall) hcs w
 subst hlen
 obtain ⟨hfl,hfe⟩:=hc.get
 have hl3:ys.length=vs.length:=by simpa using hl1
 refine qiQ (v:=.slice (some ⟨w.heap.size,0,none⟩) vs.length vs.length) (w':=w.alloc (.cells (vs.map cellsL).flatten.toArray el)) rfl rfl hn (fun a ha=>?_)
  (hkk _ _ (fun b=>b=w.heap.size) (h.add ((Below.refl _ _).alloc (jf _) _) ?_ ?_ (fun _ hd=>hd.elim)))
 ·have hev:parts.map (fun (x:Nat × Operand)=>(x.1,a.eval x.2))=((vs.zipIdx 0).map fun x=>(x.2,x.1)).toArray:=by
   apply Array.ext'
   rw [Array.toList_map,hparts]
   have:=qho ha hvs
   subst this
   rw [List.zipIdx_map,List.map_map,List.map_map]
   rfl
  simp only [execOp,hev,jl,hr,jh,jn]
 ·have hsm:vs.length≤maxLen:=by
   have h1:=js hsmall
   have h2:vs.length*1≤vs.length*te'.size:=Nat.mul_le_mul_left _ (by rw [hsz];exact GoT.kpos)
   simp [maxLen]
   omega
  refine ⟨by rw [hl3];exact jf _,hsm,.inr ⟨w.heap.size,_,el,rfl,rfl,heap_alloc_new w _,by rw [jV,hfl,hl3],fun i x hi=>?_⟩⟩
  obtain ⟨cs,hR,hj⟩:=hfe i x hi
  exact ⟨cs,hR,fun j v hv=>by simpa using hj j v hv⟩
 ·intro b hb
  have:b=w.heap.size:=hb
  subst this
  exact ⟨jf _,by simp⟩
end
end Go.Fw


namespace Go.Fw
open Go
open Go.RowKit (Below)
section
variable {P:Program} {T:Tab} {n:Nat} {Q:Exit→Act→World→Prop} {k:List It} {e:Env} {w0 w w':World} {L:List Ch}
def CutJ (n:Nat) (J:Env→World→Prop) (a:Act) (w:World):Prop:=∃ e,Agree n e a∧J e w
theorem qrL {J:Env→World→Prop} (h2:∀ e w,J e w→Run P n Q k e w):∀ ex a w,post P Q (.goal (CutJ n J)::k) ex a w→post P Q k ex a w:=by
 intro ex a w h
 cases ex with
 | normal=>obtain ⟨e,ha,hJ⟩:=h;exact h2 e w hJ a ha
 | exit id=>exact h
 | goto l=>exact h
 | ret=>exact h
 | panic c=>exact h
 | outgrown=>exact h
theorem qa8 {c:Code} (J:Env→World→Prop) (h1:Run P n Q (.code c::.goal (CutJ n J)::k) e w) (h2:∀ e w,J e w→Run P n Q k e w):Run P n Q (.code c::k) e w :=
 fun a ha=>wp_mono (h1 a ha) (qrL h2)
theorem qrF {J:Env→World→Prop} (e':Env) (hs:subEnv e e') (hJ:J e' w):Run P n Q (.goal (CutJ n J)::k) e w :=
 fun _ ha=>⟨e',ha.sub hs,hJ⟩
def fieldPlaces (fs:List (Nat × Nat × Option Bool)) (i:Nat):Option (Nat × Nat) :=
 match fs[i]? with
 | some (o,s,_)=>some (o,s)
 | none=>none
theorem qoi (w:World):∀ (fs:List Field),(∀ f ∈ fs,(aggO P f.type).isSome=true)→(fs.mapM fun f=>Prod.mk f.offset <$> sizeOf f.type).run P w=.ok (fs.map fun f=>(f.offset,P.cellsOf f.type)) w
 | [],_=>by simp
 | f::fs,h=>by
  have ih:=qoi w fs (fun g hg=>h g (by simp [hg]))
  obtain ⟨b,hb⟩:=Option.isSome_iff_exists.1 (h f (by simp))
  have hs:=qmr hb rfl w
  simp [List.mapM_cons,hs,ih]
theorem qqq (hT:TabOk P T) {t:TypeId} {te:TE} {zc:Array Value} {parts:List (Nat × Value)} {cs:List Value} (hte:T.get t=some te) (hk:te.kind=.struct) (hz:te.zero=some (.agg zc)) (hag:te.fields.all (fun f=>f.2.2.isSome)=true)
  (hf:fillS (fieldPlaces te.fields) zc.toList parts=some cs) (w:World):(Instr.build t parts.toArray).run P w=.ok (.agg cs.toArray) w:=by
 have hpr:=hT _ _ hte
 obtain ⟨i,hi,_,_,hzi⟩:=qd7 hpr
 obtain ⟨d,hd,hkd⟩:=qgp hpr
 rw [hk] at hkd
 cases d<;>simp at hkd
 rename_i fs
 have hfs:te.fields=fs.toList.map (fun f=>(f.offset,P.cellsOf f.type,aggO P f.type)):=by
  unfold probe at hpr
  rw [hi,hd] at hpr
  simp only [Option.some.injEq] at hpr
  rw [←hpr]
 have hall:∀ f ∈ fs.toList,(aggO P f.type).isSome=true:=by
  intro f hf'
  rw [hfs] at hag
  simp only [List.all_map,Je,Function.comp] at hag
  exact hag f hf'
 have hm:=qoi (P:=P) w fs.toList hall
 have hfill:=qgu _ _ _ _ hf
 have hpl:∀ (n:Nat),fieldPlaces te.fields n=(fs.toList.map fun f=>(f.offset,P.cellsOf f.type)).toArray[n]?:=by
  intro n
  unfold fieldPlaces
  rw [hfs]
  simp only [List.getElem?_map,jI]
  cases fs.toList[n]?<;>rfl
 have hmm:(fs.mapM fun f=>Prod.mk f.offset <$> sizeOf f.type).run P w=.ok (fs.toList.map fun f=>(f.offset,P.cellsOf f.type)).toArray w:=by
  rw [←Array.toArray_toList (xs:=fs),List.mapM_toArray]
  simp only [Sem.run_map]
  rw [hm]
  rfl
 have hfill':Instr.fill ((fs.toList.map fun f=>(f.offset,P.cellsOf f.type)).toArray[·]?) zc parts=some cs.toArray:=by
  have:(fun n=>(fs.toList.map fun f=>(f.offset,P.cellsOf f.type)).toArray[n]?)=fieldPlaces te.fields:=funext fun n=>(hpl n).symm
  rw [this]
  simpa using hfill
 have hzz:i.zero=some (.agg zc):=hzi.trans hz
 simp only [Instr.build,zeroValue,typeInfo,jl,run_program,jh,hi,jn,hzz,run_underlying hd,Value.cells]
 have hmm':(fs.mapM fun f=>(do let __do_lift ←sizeOf f.type;pure (f.offset,__do_lift):Sem (Nat × Nat))).run P w=.ok (fs.toList.map fun f=>(f.offset,P.cellsOf f.type)).toArray w:=by
  simpa using hmm
 rw [hmm']
 simp only [jh,hfill',jn]
theorem qat (hT:TabOk P T) {t d ty:Nat} {ps:String} {af:Array Edge} {g:Option (Nat × Bool)} {parts:Array (Nat × Operand)} {te:TE} {zc:Array Value} (is:List Nat) (os:List Operand) {vs:List Value} {cs:List Value}
  (hparts:parts.toList=is.zip os) (_:is.length=os.length) (hvs:opvs e os=some vs) (hte:T.get t=some te) (hk:te.kind=.struct) (hz:te.zero=some (.agg zc)) (hag:te.fields.all (fun f=>f.2.2.isSome)=true)
  (hf:fillS (fieldPlaces te.fields) zc.toList (is.zip vs)=some cs):Val P n e ⟨some d,.build t parts,ty,ps,af,g⟩ w (.agg cs.toArray):=by
 intro a ha
 have hev:parts.map (fun (x:Nat × Operand)=>(x.1,a.eval x.2))=(is.zip vs).toArray:=by
  apply Array.ext'
  rw [Array.toList_map,hparts]
  have:=qho ha hvs
  subst this
  simp only [List.zip_map_right]
  rfl
 have hr:=qqq hT hte hk hz hag hf w
 simp only [execOp,hev,jl,hr,jh,jn]
end
def remS (a b:Int):Option Int:=if b=0 then none else some (a.tmod b)
theorem qkW {a b r:Int} (h:remS a b=some r):b ≠ 0∧a.tmod b=r:=by
 unfold remS at h;split at h
 ·cases h
 ·rename_i hb;exact ⟨hb,Option.some.inj h⟩
def shlS (a b:Int):Option Int:=if 0≤b then some (IntKind.i64.wrap (a*2 ^ (min b.toNat IntKind.i64.bits))) else none
theorem qkK {a b r:Int} (h:shlS a b=some r):0≤b∧IntKind.i64.wrap (a*2 ^ (min b.toNat IntKind.i64.bits))=r:=by
 unfold shlS at h;split at h
 ·rename_i hb;exact ⟨hb,Option.some.inj h⟩
 ·cases h
theorem qbo {α:Type} [GoT α] [Flat α] {w0 w w1:World} {L:List Ch} {S S1:Nat→Prop} {xs:List α} {p:Option Addr} {ln c b o q:Nat} {iv:Int} {x:α} {cs:List Value} (h:SH w0 w L) (i:Nat) (hi:L[i]?=some (Ch.own S xs [.slice p ln c]))
  (hx:idx xs iv=some x) (hp:p=some ⟨b,o,none⟩) (hq:q=o+iv.toNat*GoT.k α) (hr:GoT.R w1 S1 x cs):CellsAt w b q cs:=by
 obtain ⟨b',o',q',cs',hp',hq',_,hr',hc'⟩:=(h.sl i hi).1.at hx
 rw [hp] at hp'
 simp only [Option.some.injEq,Addr.mk.injEq,and_true] at hp'
 obtain ⟨rfl,rfl⟩:=hp'
 subst hq hq'
 rw [Flat.det hr hr']
 exact hc'
section
variable {P:Program} {T:Tab} {n:Nat} {Q:Exit→Act→World→Prop} {k:List It} {e:Env} {w0 w w':World} {L L':List Ch}
theorem SH.pickT (m:Nat) (is:List Nat) (h:SH w0 w L) (hn:(nodupB is&&is.all (fun i=>Nat.blt i m))=true):SH w0 w (pickL L is++L.drop m):=by
 simp only [jg,Je] at hn
 have h1:=h.pick is hn.1
 refine ⟨h.below,fun c hc=>?_,fun c hc=>?_,?_⟩
 ·rcases List.mem_append.1 hc with hc|hc
  ·exact h1.holds c hc
  ·exact h.holds c (List.mem_of_mem_drop hc)
 ·rcases List.mem_append.1 hc with hc|hc
  ·exact h1.elder c hc
  ·exact h.elder c (List.mem_of_mem_drop hc)
 ·refine List.pairwise_append.2 ⟨h1.apart,h.apart.sublist (List.drop_sublist _ _),fun c hc d hd b hcb hdb=>?_⟩
  obtain ⟨i,hi,hic⟩:=qgV hc
  have him:i<m:=by simpa [Nat.blt_eq] using hn.2 i hi
  obtain ⟨j,hj,hjd⟩:=jM hd
  rw [List.getElem_drop] at hjd
  obtain ⟨hil,rfl⟩:=List.getElem?_eq_some_iff.1 hic
  have hjl:m+j<L.length:=by simp at hj;omega
  subst hjd
  exact List.pairwise_iff_getElem.1 h.apart i (m+j) hil hjl (by omega) b hcb hdb
theorem SH.headV {c:Ch} (h:SH w0 w (c::L)):SHV w0 w c.S L∧c.P w:=by
 have hpw:=List.pairwise_cons.1 h.apart
 exact ⟨⟨⟨h.below,fun d hd=>h.holds d (by simp [hd]),fun d hd=>h.elder d (by simp [hd]),hpw.2⟩,(h.holds c (by simp)).2,fun d hd b hdb hcb=>hpw.1 d hd b hcb hdb⟩,(h.holds c (by simp)).1⟩
theorem SHV.less {S S2:Nat→Prop} (h:SHV w0 w S L) (h2:∀ b,S2 b→S b):SHV w0 w S2 L :=
 ⟨h.sh,fun b hb=>h.fr b (h2 b hb),fun c hc b hcb hb=>h.ap c hc b hcb (h2 b hb)⟩
end
end Go.Fw


namespace Go.Fw
open Go
open Go.ChangeShapes Go.WideShapes Go.ChangeAt Go.RowKit
theorem qjA {β:Type} {p:Nat→β→Prop}:∀ (n:Nat),(∀ i,i<n→∃ y,p i y)→∃ ys:List β,ys.length=n∧∀ i y,ys[i]?=some y→p i y
 | 0,_=>⟨[],rfl,fun i y h=>by simp at h⟩
 | n+1,h=>by
  obtain ⟨ys,hl,hy⟩:=qjA n (fun i hi=>h i (by omega))
  obtain ⟨y,hp⟩:=h n (by omega)
  refine ⟨ys++[y],by simp [hl],fun i z hz=>?_⟩
  by_cases hi:i<n
  ·rw [ju (by omega)] at hz
   exact hy i z hz
  ·rw [jD (by omega)] at hz
   have:i-ys.length=0:=by
    have:=(List.getElem?_eq_some_iff.1 hz).1
    simp at this
    omega
   rw [this] at hz
   simp only [List.getElem?_cons_zero,Option.some.injEq] at hz
   subst hz
   rw [show i=n by omega]
   exact hp
def Opens (P:Program) (t:TypeId) {α:Type} (A:GoT α) (ρ:α→Prop):Prop :=
 P.cellsOf t=A.k∧∀ {H:Type} {enc:TypeId × Value→H} {w:World} {fuel:Nat} {cs:List Value} {x:DataW H × List MemPlace},
  DataW.trod enc P w 0 (fun _=>true) true fuel t cs=some x→∃ y:α,A.R w (old w) y cs∧ρ y
def rngL {α:Type} (ρ:α→Prop) (xs:List α):Prop:=xs.length≤9223372036854775807∧∀ x ∈ xs,ρ x
section
variable {P:Program} {t e:TypeId}
theorem cells?_at {w:World} {a:Addr} {n:Nat} {cs:List Value} (h:w.cells? 0 a n=some cs) {j:Nat} {v:Value} (hj:cs[j]?=some v):w.cell? (a.add j)=some v:=by
 obtain ⟨_,hl,hc⟩:=World.cells?_some h
 rw [hc j (by have:=(List.getElem?_eq_some_iff.1 hj).1;omega),hj]
theorem cell?_open {w:World} {a:Addr} {v:Value} (h:w.cell? a=some v):∃ b o cur T fr,a=⟨b,o,none⟩∧b<w.heap.size∧w.heap[b]?=some (.cells cur T fr)∧cur[o]?=some v:=by
 have hlt:=World.block_lt_of_cell? w a h
 have hs:=World.cell?_spot h
 obtain ⟨b,o,s⟩:=a
 simp only at hs
 subst hs
 unfold World.cell? at h
 split at h
 ·rename_i c T fr hg
  exact ⟨b,o,c,T,fr,rfl,hlt,hg,by simpa using h⟩
 ·cases h
theorem qpo {α:Type} {A:GoT α} {ρ:α→Prop} (ht:P.underlying t=some (.slice e)) (hc:P.cellsOf t=1) (h:Opens P e A ρ):Opens P t (@instList α A) (rngL ρ):=by
 refine ⟨hc,fun {H enc w fuel cs x} hx=>?_⟩
 obtain ⟨hk,hr⟩:=h
 have hkp:0<A.k:=A.kpos
 rcases DataW.trod_slice ht hx with ⟨rfl,_⟩|⟨a,len,cap,elems,rest,n,rfl,rfl,_,_,hlc,hcm,hel,h1,h2,_⟩
 ·exact ⟨[],⟨none,0,rfl,by simp,by simp,.inl ⟨.inl rfl,rfl⟩⟩,by simp,by simp⟩
 ·obtain ⟨hrl,h2⟩:=h2 rfl
  have hcell:∀ i,i<cap→∃ cs,w.cells? 0 (a.add (i*A.k)) A.k=some cs:=by
   intro i hi
   by_cases hil:i<len
   ·have:=h1 i hil
    rw [ji (by omega)] at this
    obtain ⟨cs,hcs,_⟩:=Option.bind_eq_some_iff.1 this
    rw [hk] at hcs
    exact ⟨cs,hcs⟩
   ·have:=h2 (i-len) (by omega)
    rw [ji (by omega)] at this
    obtain ⟨cs,hcs,_⟩:=Option.bind_eq_some_iff.1 this
    rw [hk,show len+(i-len)=i by omega] at hcs
    exact ⟨cs,hcs⟩
  obtain ⟨ys,hyl,hy⟩:=qjA (p:=fun i (y:α)=>∃ cs,w.cells? 0 (a.add (i*A.k)) A.k=some cs∧A.R w (old w) y cs∧ρ y) len (fun i hi=>by
   have:=h1 i hi
   rw [ji (by omega)] at this
   obtain ⟨cs,hcs,hd⟩:=Option.bind_eq_some_iff.1 this
   rw [hk] at hcs
   obtain ⟨y,hy1,hy2⟩:=hr hd
   exact ⟨y,cs,hcs,hy1,hy2⟩)
  have hrng:rngL ρ ys:=⟨by rw [hyl];unfold maxLen at hcm;omega,fun y hm=>by
   obtain ⟨i,hi⟩:=List.mem_iff_getElem?.1 hm
   obtain ⟨_,_,_,h⟩:=hy i y hi
   exact h⟩
  refine ⟨ys,⟨some a,cap,by rw [hyl],by omega,hcm,?_⟩,hrng⟩
  by_cases hcap:cap=0
  ·exact .inl ⟨.inr hcap,jF (by omega)⟩
  ·obtain ⟨c0,hc0⟩:=hcell 0 (by omega)
   obtain ⟨_,hl0,_⟩:=World.cells?_some hc0
   have e0:=cells?_at hc0 (j:=0) (ji (by omega))
   have ha0:(a.add (0*A.k)).add 0=a:=by simp [Addr.add]
   rw [ha0] at e0
   obtain ⟨b,o,cur,T,fr,rfl,hb,hg,_⟩:=cell?_open e0
   have hin:∀ i,i<cap→∀ j cs v,w.cells? 0 ((⟨b,o,none⟩:Addr).add (i*A.k)) A.k=some cs→cs[j]?=some v→cur[o+i*A.k+j]?=some v:=by
    intro i hi j cs v hcs hj
    have:=cells?_at hcs hj
    rw [qfQ,qfQ] at this
    simp only [World.cell?,hg] at this
    simpa using this
   refine .inr ⟨b,o,cur,T,fr,rfl,hb,hg,?_,fun i y hi=>?_⟩
   ·obtain ⟨cl,hcl⟩:=hcell (cap-1) (by omega)
    obtain ⟨_,hll,_⟩:=World.cells?_some hcl
    have:=hin (cap-1) (by omega) (A.k-1) cl _ hcl (ji (by omega))
    have hlt:=(Array.getElem?_eq_some_iff.1 this).1
    have hmul:cap*A.k=(cap-1)*A.k+A.k:=by
     have:cap=(cap-1)+1:=by omega
     conv=>lhs;rw [this]
     rw [jQ]
    show o+cap*A.k≤cur.size
    omega
   ·obtain ⟨cs,hcs,hyR,_⟩:=hy i y hi
    have hi':=(List.getElem?_eq_some_iff.1 hi).1
    exact ⟨cs,hyR,fun j v hj=>hin i (by omega) j cs v hcs hj⟩
structure OpensF (P:Program) (fs:List Field) (off:Nat) {α:Type} (A:GoT α) (ρ:α→Prop):Prop where
 get:∀ {H:Type} {enc:TypeId × Value→H} {w:World} {fuel:Nat} {cs:List Value},cs.length=off+A.k →
  (∀ f ∈ fs,∃ x,DataW.trod enc P w 0 (fun _=>true) true fuel f.type ((cs.drop f.offset).take (P.cellsOf f.type))=some x)→∃ y:α,A.R w (old w) y (cs.drop off)∧ρ y
end
theorem Opens.imp {P:Program} {t:TypeId} {α:Type} {A:GoT α} {ρ σ:α→Prop} (h:Opens P t A ρ) (hi:∀ y,ρ y→σ y):Opens P t A σ :=
 ⟨h.1,fun hx=>by obtain ⟨y,h1,h2⟩:=h.2 hx;exact ⟨y,h1,hi y h2⟩⟩
theorem qr4 {w:World} {S:Nat→Prop} {us:List Value} (h:(vsOne:GoVs Bool).Vs w S true us):tup us=.bool true:=by
 obtain ⟨cs,rfl,h1⟩:=h
 have:cs=[.bool true]:=h1
 subst this
 rfl
end Go.Fw


namespace Go.Fw
open Go
def Ev {α:Type} (f:Nat→Option α) (r:α):Prop:=∃ N,∀ n,N≤n→f n=some r
section
variable {α β:Type} {f g:Nat→Option α} {r:α}
theorem Ev.now {x:Option α} (h:x=some r):Ev (fun _=>x) r:=⟨0,fun _ _=>h⟩
theorem Ev.done:Ev (fun _=>some r) r:=⟨0,fun _ _=>rfl⟩
theorem Ev.bind {f:Nat→Option β} {g:Nat→β→Option α} {b:β} (h:Ev f b) (hg:Ev (fun n=>g n b) r):Ev (fun n=>(f n).bind (g n)) r:=by
 obtain ⟨N,hN⟩:=h
 obtain ⟨M,hM⟩:=hg
 exact ⟨max N M,fun n hn=>by show (f n).bind (g n)=_;rw [hN n (by omega)];exact hM n (by omega)⟩
theorem Ev.bindN {x:Option β} {g:Nat→β→Option α} {b:β} (h:x=some b) (hg:Ev (fun n=>g n b) r):Ev (fun n=>x.bind (g n)) r:=Ev.bind (.now h) hg
theorem Ev.tt {c:Bool} (hc:c=true) (h:Ev f r):Ev (fun n=>bif c then f n else g n) r:=by subst hc;exact h
theorem Ev.ff {c:Bool} (hc:c=false) (h:Ev g r):Ev (fun n=>bif c then f n else g n) r:=by subst hc;exact h
theorem Ev.bif {c:Bool} (h1:c=true→Ev f r) (h2:c=false→Ev g r):Ev (fun n=>bif c then f n else g n) r:=by
 cases c
 ·exact h2 rfl
 ·exact h1 rfl
theorem Ev.succ (h:Ev (fun n=>f (n+1)) r):Ev f r:=by
 obtain ⟨N,hN⟩:=h
 refine ⟨N+1,fun n hn=>?_⟩
 obtain ⟨m,rfl⟩:∃ m,n=m+1:=⟨n-1,by omega⟩
 exact hN m (by omega)
theorem Ev.step (hs:∀ n,f (n+1)=g n) (h:Ev g r):Ev f r:=Ev.succ (by simpa [hs] using h)
theorem Ev.congr (hs:∀ n,f n=g n) (h:Ev g r):Ev f r:=by
 obtain ⟨N,hN⟩:=h
 exact ⟨N,fun n hn=>by rw [hs,hN n hn]⟩
theorem Ev.at (h:Ev f r):∃ n,f n=some r:=⟨h.choose,h.choose_spec _ (jf _)⟩
end
theorem qaz {x:Int} (h:-9223372036854775808≤x) (h':x≤9223372036854775807):W64 x=x:=by
 unfold W64
 rw [Go.IntWalk.i64_left]
 exact Go.IntWalk.wrap64_in x ⟨h,h'⟩
theorem wO (x:Int) (h:-9223372036854775808≤x:=by omega) (h':x≤9223372036854775807:=by omega):W64 x=x:=qaz h h'
theorem qix {j:Nat} (h:j<9223372036854775807):W64 ((j:Int)+1)=((j+1:Nat):Int):=by rw [qaz (by omega) (by omega)];omega
theorem wS (j:Nat) (h:j<9223372036854775807:=by omega):W64 ((j:Int)+1)=((j+1:Nat):Int):=qix h
theorem qsP {α:Type} {xs:List α} {j:Nat} (h:j<xs.length):idx xs (j:Int)=some xs[j]:=by
 unfold idx
 simp [h]
theorem qi {j m:Nat} (h:j<m):decide ((j:Int)<(m:Int))=true:=by simp;omega
theorem qj {j m:Nat} (h:m≤j):decide ((j:Int)<(m:Int))=false:=by simp;omega
def EvQ {α:Type} (f:Nat→Option α) (Q:α→Prop):Prop:=∃ r,Ev f r∧Q r
section
variable {α β:Type} {f g:Nat→Option α} {Q Q':α→Prop}
theorem EvQ.of {r:α} (h:Ev f r) (hq:Q r):EvQ f Q:=⟨r,h,hq⟩
theorem EvQ.mono (h:EvQ f Q) (hi:∀ r,Q r→Q' r):EvQ f Q':=by obtain ⟨r,h1,h2⟩:=h;exact ⟨r,h1,hi r h2⟩
theorem EvQ.succ (h:EvQ (fun n=>f (n+1)) Q):EvQ f Q:=by obtain ⟨r,h1,h2⟩:=h;exact ⟨r,h1.succ,h2⟩
theorem EvQ.done {r:α} (h:Q r):EvQ (fun _=>some r) Q:=⟨r,.done,h⟩
theorem EvQ.bindN {x:Option β} {g:Nat→β→Option α} {b:β} (h:x=some b) (hg:EvQ (fun n=>g n b) Q):EvQ (fun n=>x.bind (g n)) Q:=by obtain ⟨r,h1,h2⟩:=hg;exact ⟨r,Ev.bindN h h1,h2⟩
theorem EvQ.bindE {f:Nat→Option β} {g:Nat→β→Option α} {b:β} (h:Ev f b) (hg:EvQ (fun n=>g n b) Q):EvQ (fun n=>(f n).bind (g n)) Q:=by obtain ⟨r,h1,h2⟩:=hg;exact ⟨r,Ev.bind h h1,h2⟩
theorem EvQ.bind {f:Nat→Option β} {g:Nat→β→Option α} {R:β→Prop} (h:EvQ f R) (hg:∀ b,R b→EvQ (fun n=>g n b) Q):EvQ (fun n=>(f n).bind (g n)) Q:=by
 obtain ⟨b,h1,h2⟩:=h
 exact EvQ.bindE h1 (hg b h2)
theorem EvQ.tt {c:Bool} (hc:c=true) (h:EvQ f Q):EvQ (fun n=>bif c then f n else g n) Q:=by subst hc;exact h
theorem EvQ.ff {c:Bool} (hc:c=false) (h:EvQ g Q):EvQ (fun n=>bif c then f n else g n) Q:=by subst hc;exact h
theorem EvQ.bif {c:Bool} (h1:c=true→EvQ f Q) (h2:c=false→EvQ g Q):EvQ (fun n=>bif c then f n else g n) Q:=by
 cases c
 ·exact h2 rfl
 ·exact h1 rfl
end
def Sz (f:Nat→Option Int) (Q:Int→Prop):Prop:=∃ r,Ev f r∧(r<0∨(0≤r∧Q r))
theorem Sz.step {f:Nat→Option Int} {g:Nat→Int→Option Int} {Q Q':Int→Prop} (h:Sz f Q) (hg:∀ r,0≤r→Q r→Sz (fun n=>g n r) Q'):Sz (fun n=>(f n).bind fun r=>bif decide (r<0) then some (-1) else g n r) Q':=by
 obtain ⟨r,hr,hq⟩:=h
 by_cases hn:r<0
 ·exact ⟨-1,Ev.bind hr (Ev.tt (by simpa using hn) .done),.inl (by decide)⟩
 ·rcases hq with hq|⟨h0,hq⟩
  ·exact absurd hq hn
  ·obtain ⟨r',h1,h2⟩:=hg r h0 hq
   exact ⟨r',Ev.bind hr (Ev.ff (by simpa using hn) h1),h2⟩
theorem Sz.done {r:Int} {Q:Int→Prop} (h:0≤r) (hq:Q r):Sz (fun _=>some r) Q:=⟨r,.done,.inr ⟨h,hq⟩⟩
theorem Sz.less {left l:Int} {Q:Int→Prop} (h0:0≤left) (h1:left≤1048576) (h2:0≤l) (h3:l≤9223372036854775807) (hq:l≤left→Q (left-l)) :
  Sz (fun _=>bif decide (W64 (left-l)<0) then some (-1) else some (W64 (left-l))) Q:=by
 rw [qaz (by omega) (by omega)]
 by_cases hn:left-l<0
 ·exact ⟨-1,Ev.tt (by simpa using hn) .done,.inl (by decide)⟩
 ·exact ⟨_,Ev.ff (by simpa using hn) .done,.inr ⟨by omega,hq (by omega)⟩⟩
end Go.Fw


namespace Go.Fw
open Go
theorem down {P:Nat→Prop} (len:Nat) (hend:P len) (hstep:∀ j,j<len→P (j+1)→P j):P 0:=by
 have:∀ k,k≤len→P (len-k):=by
  intro k
  induction k with
  | zero=>intro _;exact hend
  | succ k ih =>
   intro h
   refine hstep _ (by omega) ?_
   rw [show len-(k+1)+1=len-k by omega]
   exact ih (by omega)
 have h:=this len (jf _)
 rwa [Nat.sub_self] at h
def padS {α:Type} (a:List α) (z:α) (j:Nat):List α:=a.take j++List.replicate (a.length-j) z
theorem qrE {α:Type} {a:List α} {z:α}:padS a z 0=List.replicate a.length z:=by simp [padS]
theorem qs8 {α:Type} {a:List α} {z:α} (h:a.length≤2147483648):mkS (a.length:Int) z=some (padS a z 0):=by
 unfold mkS big
 rw [if_pos ⟨by omega,by omega⟩,qrE]
 simp
theorem qdd {α:Type} {xs:List α} {i:Int} {y:α}:(setS xs i y).length=xs.length:=by simp [setS]
def mixS {α:Type} (f:Nat→α) (a:List α) (j:Nat):List α:=(List.range j).map f++a.drop j
theorem qrT {α:Type} {f:Nat→α} {a:List α} {j:Nat} (h:j≤a.length):(mixS f a j).length=a.length:=by simp [mixS];omega
theorem qrC {α:Type} {f:Nat→α} {a:List α}:mixS f a 0=a:=by simp [mixS]
theorem qqZ {α:Type} {f:Nat→α} {a:List α}:mixS f a a.length=(List.range a.length).map f:=by simp [mixS]
theorem qst {α:Type} {f:Nat→α} {a:List α} {j:Nat} (h:j<a.length):setS (mixS f a j) (j:Int) (f j)=mixS f a (j+1):=by
 unfold setS mixS
 rw [jC]
 refine List.ext_getElem? fun i=>?_
 have hl:((List.range j).map f).length=j:=by simp
 have hl1:((List.range (j+1)).map f).length=j+1:=by simp
 by_cases hij:i=j
 ·subst hij
  rw [List.getElem?_set_self (by simp;omega),ju (by omega),List.getElem?_map,List.getElem?_range (by omega)]
  rfl
 ·rw [List.getElem?_set_ne (fun e=>hij e.symm)]
  by_cases hlt:i<j
  ·rw [ju (by omega),ju (by omega),List.getElem?_map,List.getElem?_map,List.getElem?_range hlt,List.getElem?_range (by omega)]
  ·rw [jD (by omega),jD (by omega),hl,hl1,jA,jA]
   congr 1
   omega
theorem qsZ {α:Type} {f:Nat→α} {a:List α} {j:Nat} (h:j<a.length):idx (mixS f a j) (j:Int)=some a[j]:=by
 rw [qsP (by rw [qrT (by omega)];exact h)]
 simp [mixS]
def count (k:Int) (m:Nat):List Int:=(List.range m).map fun (i:Nat)=>k+(i:Int)
end Go.Fw


namespace Go.Fw
open Go
open Go.RowKit (Below)
section
variable {P:Program} {T:Tab} {n:Nat} {e:Env} {w:World}
theorem qlS (d:Nat) {t el:TypeId} (hu:P.underlying t=some (.slice el)) (p:Option Addr) (l c:Nat) (w:World):(Op.equalIn (d+1) t (.slice p l c) (.slice none 0 0)).run P w=.ok p.isNone w:=by
 cases p<;>simp [Op.equalIn,run_underlying hu]
theorem qoC {t el:TypeId} (hu:P.underlying t=some (.slice el)) (p:Option Addr) (l c:Nat) (w:World):(Op.equal t (.slice p l c) (.slice none 0 0)).run P w=.ok p.isNone w:=by
 simp only [Op.equal,Op.maxDepth]
 exact qlS 9999 hu p l c w
theorem qnG (op:BinOp) (t:TypeId) (x y:Operand) (p q:Option Addr) (a b c d:Nat) (w:World):(eqGuard op t x y (.slice p a b) (.slice q c d)).run P w=.ok () w:=by
 unfold eqGuard;split<;>rfl
theorem qoV (hT:TabOk P T) {x y:Operand} {t t' d ty el:Nat} {ps:String} {af:Array Edge} {g:Option (Nat × Bool)} {te:TE} {p:Option Addr} {l c:Nat}
  (ht:T.get t=some te) (hk:te.kind=.slice el) (hx:opv e x=some (.slice p l c)) (hy:opv e y=some (.slice none 0 0)) {r:Bool} (hr:p.isNone=r):Val P n e ⟨some d,.binOp .eql t x y t',ty,ps,af,g⟩ w (.bool r):=by
 intro a ha
 subst hr
 have hu:=qbR (hT t te ht) hk
 simp only [execOp,ha.eval hx,ha.eval hy,jl,qnG,jh,binOp,qoC hu,jn]
theorem qo6 {α:Type} [GoT α] {S:Nat→Prop} {xs:List α} {c:Nat} (h:SlR w S xs none c):xs=[]:=by
 obtain ⟨_,_,h3⟩:=h
 rcases h3 with ⟨_,h⟩|⟨b,o,cur,T,fr,h,_⟩
 ·exact h
 ·cases h
end
end Go.Fw


namespace Go.Fw
open Go
open Go.RowKit (Below)
structure Fct where
 α:Type
 inst:GoT α
 x:α
 cs:List Value
def Fct.R (f:Fct) (w:World) (S:Nat→Prop):Prop:=f.inst.R w S f.x f.cs
def fct {α:Type} [GoT α] (x:α) (cs:List Value):Fct:=⟨α,inferInstance,x,cs⟩
def Ch.grp (D S:Nat→Prop) (fs:List Fct):Ch where
 S:=S
 D:=D
 P w:=∀ f ∈ fs,f.R w (fun b=>S b∨D b)
 loc _ _ h h' hp f hf:=GoT.loc (self:=f.inst) (hp f hf) (fun b hb=>hb.elim (h b) (h' b))
def reg (A:Nat→Prop) (w0 w:World) (b:Nat):Prop:=A b∨fresh w0 w b
section
variable {w0 w w':World} {L:List Ch} {D S S1 S2:Nat→Prop} {fs fs2:List Fct} {α:Type} [GoT α] {x:α} {cs:List Value}
theorem SH.grpS (i j:Nat) (h:SH w0 w L) (hi:L[i]?=some (Ch.grp D S fs)) (hj:fs[j]?=some (fct x cs)):GoT.R w (fun b=>S b∨D b) x cs :=
 (h.mem hi).1 _ (jw hj)
theorem SH.grpB {i:Nat} (h:SH w0 w L) (hi:L[i]?=some (Ch.grp D S fs)):∀ b,S b∨D b→Fw.old w b:=by
 intro b hb
 rcases hb with hb|hb
 ·exact ((h.mem hi).2 b hb).2
 ·exact jy (h.elder _ (jw hi) b hb) h.below.size
theorem SH.grp (i j:Nat) (h:SH w0 w L) (hi:L[i]?=some (Ch.grp D S fs)) (hj:fs[j]?=some (fct x cs)):GoT.R w (Fw.old w) x cs :=
 GoT.mono (h.grpS i j hi hj) (h.grpB hi)
theorem SH.swap {c c':Ch} (h:SH w0 w (c::L)) (hp:c'.P w) (hS:∀ b,c'.S b→c.S b) (hD:∀ b,c'.D b→b<w0.heap.size):SH w0 w (c'::L):=by
 refine ⟨h.below,fun d hd=>?_,fun d hd=>?_,?_⟩
 ·rcases List.mem_cons.1 hd with rfl|hd
  ·exact ⟨hp,fun b hb=>(h.holds c (jq ..)).2 b (hS b hb)⟩
  ·exact h.holds d (jo _ hd)
 ·rcases List.mem_cons.1 hd with rfl|hd
  ·exact hD
  ·exact h.elder d (jo _ hd)
 ·have:=List.pairwise_cons.1 h.apart
  exact List.pairwise_cons.2 ⟨fun d hd b hb=>this.1 d hd b (hS b hb),this.2⟩
theorem SH.join {c d e:Ch} (h:SH w0 w (c::d::L)) (hp:c.P w→d.P w→e.P w) (hS:∀ b,e.S b→c.S b∨d.S b) (hD:∀ b,e.D b→b<w0.heap.size):SH w0 w (e::L):=by
 have hc:=h.holds c (jq ..)
 have hd:=h.holds d (jo _ (jq ..))
 have h1:=List.pairwise_cons.1 h.apart
 have h2:=List.pairwise_cons.1 h1.2
 refine ⟨h.below,fun f hf=>?_,fun f hf=>?_,?_⟩
 ·rcases List.mem_cons.1 hf with rfl|hf
  ·exact ⟨hp hc.1 hd.1,fun b hb=>(hS b hb).elim (hc.2 b) (hd.2 b)⟩
  ·exact h.holds f (jo _ (jo _ hf))
 ·rcases List.mem_cons.1 hf with rfl|hf
  ·exact hD
  ·exact h.elder f (jo _ (jo _ hf))
 ·refine List.pairwise_cons.2 ⟨fun f hf b hb=>?_,h2.2⟩
  rcases hS b hb with hb|hb
  ·exact h1.1 f (jo _ hf) b hb
  ·exact h2.1 f hf b hb
def pickF (fs:List Fct):List Nat→List Fct
 | []=>[]
 | i::is=>match fs[i]? with
  | some f=>f::pickF fs is
  | none=>pickF fs is
theorem qkP {f:Fct}:∀ {is:List Nat},f ∈ pickF fs is→f ∈ fs
 | [],h=>by cases h
 | i::is,h=>by
  simp only [pickF] at h
  split at h
  ·rename_i g hg
   rcases List.mem_cons.1 h with rfl|h
   ·exact jw hg
   ·exact qkP h
  ·exact qkP h
theorem SH.merge (h:SH w0 w (Ch.grp D S1 fs::Ch.grp D S2 fs2::L)):SH w0 w (Ch.grp D (fun b=>S1 b∨S2 b) (fs++fs2)::L) :=
 h.join (e:=Ch.grp D (fun b=>S1 b∨S2 b) (fs++fs2)) (fun h1 h2 f hf=>by
  rcases List.mem_append.1 hf with hf|hf
  ·exact GoT.mono (self:=f.inst) (h1 f hf) (fun b hb=>hb.elim (fun h=>.inl (.inl h)) .inr)
  ·exact GoT.mono (self:=f.inst) (h2 f hf) (fun b hb=>hb.elim (fun h=>.inl (.inr h)) .inr)) (fun _ hb=>hb) (h.elder (Ch.grp D S1 fs) (jq ..))
theorem SH.none_ (h:SH w0 w L) (hD:∀ b,D b→b<w0.heap.size):SH w0 w (Ch.grp D (fun _=>False) []::L):=by
 refine ⟨h.below,fun d hd=>?_,fun d hd=>?_,List.pairwise_cons.2 ⟨fun _ _ _ (h:False)=>h.elim,h.apart⟩⟩
 ·rcases List.mem_cons.1 hd with rfl|hd
  ·exact ⟨fun f (hf:f ∈ [])=>absurd hf (jG),fun _ (h:False)=>h.elim⟩
  ·exact h.holds d hd
 ·rcases List.mem_cons.1 hd with rfl|hd
  ·exact hD
  ·exact h.elder d hd
theorem SH.regOld {A:Nat→Prop} (h:SH w0 w L) (hA:∀ b,A b→Fw.old w0 b) (hr:GoT.R w0 A x cs):GoT.R w A x cs:=GoT.loc hr (fun b hb=>h.below.block b (hA b hb))
theorem SH.regGrp {A:Nat→Prop} (i j:Nat) (h:SH w0 w L) (hi:L[i]?=some (Ch.grp A S fs)) (hj:fs[j]?=some (fct x cs)):GoT.R w (reg A w0 w) x cs :=
 GoT.mono (h.grpS i j hi hj) (fun b hb=>hb.elim (fun h1=>.inr ((h.mem hi).2 b h1)) .inl)
end
class GoRs (ρ:Type) where
 Rs:World→(Nat→Prop)→ρ→List Value→Prop
instance rsOne {α:Type} [GoT α]:GoRs α where
 Rs w S x vs:=∃ cs,vs=[GoT.v α cs]∧GoT.R w S x cs
instance (priority:=high) rsCons {α β:Type} [GoT α] [GoRs β]:GoRs (α × β) where
 Rs w S x vs:=∃ cs us,vs=GoT.v α cs::us∧GoT.R w S x.1 cs∧GoRs.Rs w S x.2 us
def RetG {ρ:Type} [GoRs ρ] (P:Program) (f:FuncId) (vs:List Value) (w:World) (A:Nat→Prop) (r:ρ):Prop :=
 Calls P f vs.toArray w fun e w'=>∃ v,e=.returned v∧Below w.heap.size w w'∧∃ us,v=tup us∧GoRs.Rs w' (reg A w w') r us
section
variable {P:Program} {T:Tab} {n:Nat} {Q:Exit→Act→World→Prop} {k:List It} {e:Env} {w0 w w':World} {L:List Ch}
theorem qs0 {ρ:Type} [GoRs ρ] (r:ρ) {A D:Nat→Prop} {all:Array Oper} {l:List Oper} {d ty:Nat} {ps:String} {af:Array Edge} {x:Operand} {args:Array Operand} {ats:Array TypeId} {f:FuncId} {fi ca:Array Value} {az vs:List Value}
  (h:SH w0 w L) (hD:∀ b,D b→b<w0.heap.size) (hcall:qei P f) (hc:RetG P f vs w A r) (hx:opv e x=some (.func (.func f) fi ca)) (hargs:opvs e args.toList=some az) (hvs:fi.toList++az++ca.toList=vs) (hn:Nat.blt d n=true)
  (hk:∀ w' us,Below w.heap.size w w'→SH w0 w' (Ch.grp D (fresh w w') []::L)→GoRs.Rs w' (reg A w w') r us→Run P n Q (.ops all l::k) ((d,tup us)::e) w') :
  Run P n Q (.ops all (⟨some d,.call ⟨.value x,args,ats⟩,ty,ps,af,none⟩::l)::k) e w:=by
 subst hvs
 refine qkG (R:=fun v w'=>Below w.heap.size w w'∧∃ us,v=tup us∧GoRs.Rs w' (reg A w w') r us) rfl rfl hn (fun a ha=>qhy ha hcall hx hargs w) hc ?_
 rintro v w' ⟨hb,us,rfl,hv⟩
 exact hk w' us hb (h.add (c:=Ch.grp D (fresh w w') []) hb (fun f hf=>by cases hf) (fun _ hb=>hb) hD) hv
theorem qf6 {ρ:Type} [GoRs ρ] {f:FuncId} {fn:Func} {c:Code} {vs:List Value} {A:Nat→Prop} {r:ρ} {m:Nat} (hf:P.funcs[f]?=some fn) (hb:fn.body=some c) (hm:fn.ntmps=m) (hn:Nat.ble vs.length m=true)
  (h:SH w w []→Run P m (bodyPost P fn fun e w'=>∃ v,e=.returned v∧Below w.heap.size w w'∧∃ us,v=tup us∧GoRs.Rs w' (reg A w w') r us) [.code c] (argEnv 0 vs) w):RetG P f vs w A r:=by
 subst hm
 have hn':=js hn
 refine calls_of_wp hf hb ?_
 have hr:=h (SH.start w)
 have hag:Agree fn.ntmps (argEnv 0 vs) { tmps:=vs.toArray++Array.replicate (fn.ntmps-vs.toArray.size) undef,defers:=[] }:=by
  refine ⟨rfl,by simp;omega,fun i v hi=>?_⟩
  obtain ⟨_,h2⟩:=qhu vs 0 i v hi
  simp only [Nat.sub_zero] at h2
  have hlt:=(List.getElem?_eq_some_iff.1 h2).1
  rw [jU (by simpa using hlt)]
  simpa using h2
 have h1:=hr _ hag
 refine wp_mono h1 ?_
 intro ex a' w' hq
 cases ex<;>exact hq
theorem qha (hT:TabOk P T) {fn:Func} {ρ:Type} [GoRs ρ] {A:Nat→Prop} {r:ρ} (us:List Value) (h:SH w0 w L) (hr:ResOk T e w fn.results.toList us) (hv:GoRs.Rs w (reg A w0 w) r us) :
  Run P n (bodyPost P fn fun e w'=>∃ v,e=.returned v∧Below w0.heap.size w0 w'∧∃ us,v=tup us∧GoRs.Rs w' (reg A w0 w') r us) (.code .ret::k) e w :=
 qo5 fun _ ha=>⟨ha.defers,tup us,qhg hT ha hr,tup us,rfl,h.below,us,rfl,hv⟩
end
end Go.Fw


namespace Go.Fw
open Go
open Go.RowKit (Below)
structure Raw (α:Type) where
 cs:List Value
instance gt_Raw {α:Type} [GoT α]:GoT (Raw α) where
 k:=GoT.k α
 agg:=GoT.agg α
 zero:=⟨GoT.zc α⟩
 zc:=GoT.zc α
 R _ _ x cs:=cs=x.cs∧cs.length=GoT.k α∧∀ c ∈ cs,c.oneCell'=true
 O _ _ x cs:=cs=x.cs∧cs.length=GoT.k α∧∀ c ∈ cs,c.oneCell'=true
 kpos:=GoT.kpos
 noagg:=GoT.noagg
 len h:=h.2.1
 one h:=h.2.2
 loc h _:=h
 mono h _:=h
 toR h:=h
 locO h _:=h
 monoO h _:=h
 zO _ _:=⟨rfl,GoT.len (GoT.toR (GoT.zO (α:=α) default (fun _=>False))),GoT.one (GoT.toR (GoT.zO (α:=α) default (fun _=>False)))⟩
instance fl_Raw {α:Type} [GoT α]:Flat (Raw α):=⟨fun h=>h,fun h h'=>h.1.trans h'.1.symm⟩
def Ch.els {α:Type} [GoT α] (S:Nat→Prop) (xs:List α) (rs:List (Raw α)):Ch where
 S:=S
 D _:=False
 P w:=xs.length=rs.length∧∃ F:Nat→Nat→Prop,(∀ i a,F i a→S a)∧(∀ i j a,i ≠ j→F i a→¬ F j a)∧∀ i x r,xs[i]?=some x→rs[i]?=some r→GoT.O w (F i) x r.cs
 loc w w' h _ hp:=by
  obtain ⟨h0,F,h1,h2,h3⟩:=hp
  exact ⟨h0,F,h1,h2,fun i x r hx hr=>GoT.locO (h3 i x r hx hr) (fun b hb=>h b (h1 i b hb))⟩
theorem qqM {α β:Type} {p:Nat→α→β→Prop}:∀ (xs:List α),(∀ i x,xs[i]?=some x→∃ r,p i x r)→∃ rs:List β,rs.length=xs.length∧∀ i x r,xs[i]?=some x→rs[i]?=some r→p i x r:=by
 intro xs h
 obtain ⟨rs,hl,hr⟩:=qjA (p:=fun i r=>∀ x,xs[i]?=some x→p i x r) xs.length (fun i hi=>by
  obtain ⟨r,hr⟩:=h i xs[i] (ji hi)
  exact ⟨r,fun x hx=>by rw [ji hi] at hx;obtain rfl:=Option.some.inj hx;exact hr⟩)
 exact ⟨rs,hl,fun i x r hx hrr=>hr i r hrr x hx⟩
section
variable {w0 w w':World} {L:List Ch} {S:Nat→Prop} {α:Type} [GoT α]
theorem SH.splitL {xs:List α} {p:Option Addr} {ln c:Nat} (h:SH w0 w (Ch.own S xs [.slice p ln c]::L)) :
  ∃ S1 S2,∃ rs:List (Raw α),rs.length=xs.length∧SH w0 w (Ch.own S1 rs [.slice p ln c]::Ch.els S2 xs rs::L):=by
 obtain ⟨hP,hS⟩:=h.holds _ (jq ..)
 obtain ⟨p',c',he,h1,h2,h3⟩:=hP
 simp only [List.cons.injEq,Value.slice.injEq,and_true] at he
 obtain ⟨rfl,rfl,rfl⟩:=he
 have hpw:=List.pairwise_cons.1 h.apart
 have fin:∀ (S1 S2:Nat→Prop) (rs:List (Raw α)),(Ch.own S1 rs [.slice p xs.length c]).P w→(Ch.els S2 xs rs).P w→(∀ b,S1 b→S b)→(∀ b,S2 b→S b)→(∀ b,S1 b→¬ S2 b)→SH w0 w (Ch.own S1 rs [.slice p xs.length c]::Ch.els S2 xs rs::L):=by
  intro S1 S2 rs q1 q2 s1 s2 s3
  refine ⟨h.below,fun d hd=>?_,fun d hd=>?_,?_⟩
  ·rcases List.mem_cons.1 hd with rfl|hd
   ·exact ⟨q1,fun b hb=>hS b (s1 b hb)⟩
   rcases List.mem_cons.1 hd with rfl|hd
   ·exact ⟨q2,fun b hb=>hS b (s2 b hb)⟩
   ·exact h.holds d (jo _ hd)
  ·rcases List.mem_cons.1 hd with rfl|hd
   ·exact fun _ h=>h.elim
   rcases List.mem_cons.1 hd with rfl|hd
   ·exact fun _ h=>h.elim
   ·exact h.elder d (jo _ hd)
  ·refine List.pairwise_cons.2 ⟨fun d hd b hb=>?_,List.pairwise_cons.2 ⟨fun d hd b hb=>hpw.1 d hd b (s2 b hb),hpw.2⟩⟩
   rcases List.mem_cons.1 hd with rfl|hd
   ·exact s3 b hb
   ·exact hpw.1 d hd b (s1 b hb)
 rcases h3 with ⟨rfl,rfl,rfl⟩|⟨b,cur,T,F,rfl,hb,hg,hcur,hF,hd,hx⟩
 ·exact ⟨fun _=>False,fun _=>False,[],rfl,fin _ _ _ ⟨none,0,rfl,by simp,by simp,.inl ⟨rfl,rfl,rfl⟩⟩ ⟨rfl,fun _ _=>False,fun _ _ h=>h.elim,fun _ _ _ _ h=>h.elim,fun i x r hx=>by simp at hx⟩ (fun _ h=>h.elim) (fun _ h=>h.elim) (fun _ h=>h.elim)⟩
 ·obtain ⟨rs,hl,hr⟩:=qqM (p:=fun i x (r:Raw α)=>GoT.O w (F i) x r.cs∧∀ j v,r.cs[j]?=some v→cur[i*GoT.k α+j]?=some v) xs (fun i x hi=>by
   obtain ⟨cs,h1,h2⟩:=hx i x hi
   exact ⟨⟨cs⟩,h1,h2⟩)
  refine ⟨fun a=>a=b,fun a=>∃ i,F i a,rs,hl,fin _ _ _ ?_ ⟨hl.symm,F,fun i a ha=>⟨i,ha⟩,hd,fun i x r hx hrr=>(hr i x r hx hrr).1⟩ (fun a ha=>ha ▸ hb) (fun a ⟨i,ha⟩=>(hF i a ha).1) (fun a ha ⟨i,hi⟩=>(hF i a hi).2 ha)⟩
  refine ⟨some ⟨b,0,none⟩,c,by rw [hl],by rw [hl];exact h1,h2,.inr ⟨b,cur,T,fun _ _=>False,rfl,rfl,hg,hcur,fun _ _ h=>h.elim,fun _ _ _ _ h=>h.elim,fun i r hi=>?_⟩⟩
  have hi':i<xs.length:=by have:=(List.getElem?_eq_some_iff.1 hi).1;omega
  obtain ⟨q1,q2⟩:=hr i xs[i] r (ji hi') hi
  exact ⟨r.cs,⟨rfl,GoT.len (GoT.toR q1),GoT.one (GoT.toR q1)⟩,q2⟩
theorem SH.joinL {S1 S2:Nat→Prop} {xs:List α} {rs:List (Raw α)} {p:Option Addr} {ln c:Nat} (h:SH w0 w (Ch.own S1 rs [.slice p ln c]::Ch.els S2 xs rs::L)) :
  SH w0 w (Ch.own (fun b=>S1 b∨S2 b) xs [.slice p ln c]::L):=by
 have hap:=(List.pairwise_cons.1 h.apart).1 (Ch.els S2 xs rs) (jq ..)
 refine h.join (e:=Ch.own (fun b=>S1 b∨S2 b) xs [.slice p ln c]) (fun h1 h2=>?_) (fun _ hb=>hb) (fun _ h=>h.elim)
 obtain ⟨p',c',he,q1,q2,q3⟩:=h1
 obtain ⟨hl,F,f1,f2,f3⟩:=h2
 simp only [List.cons.injEq,Value.slice.injEq,and_true] at he
 obtain ⟨rfl,rfl,rfl⟩:=he
 refine ⟨p,c,by rw [hl],by rw [hl];exact q1,q2,?_⟩
 rcases q3 with ⟨rfl,hnil,rfl⟩|⟨b,cur,T,G,rfl,hb,hg,hcur,hG,hd,hx⟩
 ·exact .inl ⟨rfl,jF (by rw [hl,hnil];rfl),rfl⟩
 ·refine .inr ⟨b,cur,T,F,rfl,.inl hb,hg,hcur,fun i a ha=>⟨.inr (f1 i a ha),fun hab=>hap b hb (hab ▸ f1 i a ha)⟩,f2,fun i x hi=>?_⟩
  have hi':i<rs.length:=by have:=(List.getElem?_eq_some_iff.1 hi).1;omega
  obtain ⟨cs,⟨e1,_,_⟩,hj⟩:=hx i rs[i] (ji hi')
  subst e1
  exact ⟨_,f3 i x rs[i] hi (ji hi'),hj⟩
end
def Ch.elsB {α:Type} [GoT α] (S:Nat→Prop) (k:Nat) (xs:List α) (rs:List (Raw α)):Ch where
 S:=S
 D _:=False
 P w:=xs.length=rs.length∧∃ F:Nat→Nat→Prop,(∀ i a,F i a→S a)∧(∀ i j a,i ≠ j→F i a→¬ F j a)∧(∀ a,¬ F k a)∧∀ i x r,i ≠ k→xs[i]?=some x→rs[i]?=some r→GoT.O w (F i) x r.cs
 loc w w' h _ hp:=by
  obtain ⟨h0,F,h1,h2,h4,h3⟩:=hp
  exact ⟨h0,F,h1,h2,h4,fun i x r hi hx hr=>GoT.locO (h3 i x r hi hx hr) (fun b hb=>h b (h1 i b hb))⟩
section
variable {w0 w w':World} {L:List Ch} {S Se:Nat→Prop} {α:Type} [GoT α]
theorem SH.cons {c:Ch} (h:SH w0 w L) (hp:c.P w) (hS:∀ b,¬ c.S b) (hD:∀ b,¬ c.D b):SH w0 w (c::L):=by
 refine ⟨h.below,fun d hd=>?_,fun d hd=>?_,List.pairwise_cons.2 ⟨fun _ _ b hb=>absurd hb (hS b),h.apart⟩⟩
 ·rcases List.mem_cons.1 hd with rfl|hd
  ·exact ⟨hp,fun b hb=>absurd hb (hS b)⟩
  ·exact h.holds d hd
 ·rcases List.mem_cons.1 hd with rfl|hd
  ·exact fun b hb=>absurd hb (hD b)
  ·exact h.elder d hd
theorem SH.elsTake {xs:List α} {rs:List (Raw α)} {k:Nat} {x:α} {r:Raw α} (h:SH w0 w (Ch.els S xs rs::L)) (hx:xs[k]?=some x) (hr:rs[k]?=some r) :
  ∃ S1 S2,SH w0 w (Ch.own S1 x r.cs::Ch.elsB S2 k xs rs::L):=by
 obtain ⟨hP,hS⟩:=h.holds _ (jq ..)
 obtain ⟨hl,F,f1,f2,f3⟩:=hP
 have hpw:=List.pairwise_cons.1 h.apart
 refine ⟨F k,fun a=>∃ i,i ≠ k∧F i a,h.below,fun d hd=>?_,fun d hd=>?_,?_⟩
 ·rcases List.mem_cons.1 hd with rfl|hd
  ·exact ⟨f3 k x r hx hr,fun b hb=>hS b (f1 k b hb)⟩
  rcases List.mem_cons.1 hd with rfl|hd
  ·refine ⟨⟨hl,fun i a=>i ≠ k∧F i a,fun i a ha=>⟨i,ha⟩,fun i j a hne ha hb=>f2 i j a hne ha.2 hb.2,fun a ha=>ha.1 rfl,fun i y q hi hy hq=>GoT.monoO (f3 i y q hy hq) (fun a ha=>⟨hi,ha⟩)⟩,fun b hb=>?_⟩
   obtain ⟨i,_,hi⟩:=hb
   exact hS b (f1 i b hi)
  ·exact h.holds d (jo _ hd)
 ·rcases List.mem_cons.1 hd with rfl|hd
  ·exact fun _ h=>h.elim
  rcases List.mem_cons.1 hd with rfl|hd
  ·exact fun _ h=>h.elim
  ·exact h.elder d (jo _ hd)
 ·refine List.pairwise_cons.2 ⟨fun d hd b hb=>?_,List.pairwise_cons.2 ⟨fun d hd b hb=>?_,hpw.2⟩⟩
  ·rcases List.mem_cons.1 hd with rfl|hd
   ·rintro ⟨i,hi,hb2⟩
    exact f2 k i b (fun e=>hi e.symm) hb hb2
   ·exact hpw.1 d hd b (f1 k b hb)
  ·obtain ⟨i,_,hi⟩:=hb
   exact hpw.1 d hd b (f1 i b hi)
end
end Go.Fw


namespace Go.Fw
open Go
structure IntK (k:IntKind) where
 val:Int
instance gt_IntK {kd:IntKind}:GoT (IntK kd) where
 k:=1
 agg:=false
 zero:=⟨0⟩
 zc:=[.int kd 0]
 R _ _ x cs:=cs=[.int kd x.val]
 O _ _ x cs:=cs=[.int kd x.val]
 kpos:=by decide
 noagg _:=rfl
 len h:=by subst h;rfl
 one h:=by subst h;simp [Value.oneCell']
 loc h _:=h
 mono h _:=h
 toR h:=h
 locO h _:=h
 monoO h _:=h
 zO _ _:=rfl
instance fl_IntK {kd:IntKind}:Flat (IntK kd):=⟨fun h=>h,fun h h'=>Eq.trans h (Eq.symm h')⟩
section
variable {P:Program} {T:Tab} {n:Nat} {Q:Exit→Act→World→Prop} {k:List It} {e:Env} {w0 w w':World} {L:List Ch} {S:Nat→Prop}
end
end Go.Fw


namespace Go.Fw
open Go
open Go.RowKit (Below)
section
variable {P:Program} {T:Tab} {n:Nat} {Q:Exit→Act→World→Prop} {k:List It} {e:Env} {w0 w w' w1:World} {L:List Ch}
theorem SH.gather {α:Type} [GoT α] {r:α} {cs:List Value} {I:List Nat} (J:List Nat) (h:SH w0 w L) (hp:PO w L I r cs) (hb:(apartB I J&&nodupB J)=true) :
  ∃ S,SH w0 w (Ch.own S r cs::pickL L J):=by
 simp only [jg] at hb
 obtain ⟨S,ho,hw⟩:=hp
 have h1:=h.pick J hb.2
 refine ⟨S,h.below,fun d hd=>?_,fun d hd=>?_,List.pairwise_cons.2 ⟨fun d hd b hSb hdb=>?_,h1.apart⟩⟩
 ·rcases List.mem_cons.1 hd with rfl|hd
  ·exact ⟨ho,fun b hb=>by obtain ⟨i,c,_,hi,hc⟩:=hw b hb;exact (h.mem hi).2 b hc⟩
  ·exact h1.holds d hd
 ·rcases List.mem_cons.1 hd with rfl|hd
  ·exact fun _ h=>h.elim
  ·exact h1.elder d hd
 ·obtain ⟨j,hj,hjd⟩:=qgV hd
  exact qg5 h hw (fun x hx=>⟨j,d,hj,hjd,hx⟩) hb.1 b hSb hdb
def Ch.two (c d:Ch):Ch where
 S b:=c.S b∨d.S b
 D b:=c.D b∨d.D b
 P w:=c.P w∧d.P w∧∀ b,c.S b→¬ d.S b
 loc w w' h h' hp:=⟨c.loc w w' (fun b hb=>h b (.inl hb)) (fun b hb=>h' b (.inl hb)) hp.1,d.loc w w' (fun b hb=>h b (.inr hb)) (fun b hb=>h' b (.inr hb)) hp.2.1,hp.2.2⟩
theorem SH.fuse {c d:Ch} (h:SH w0 w (c::d::L)):SH w0 w (Ch.two c d::L):=by
 have hap:=(List.pairwise_cons.1 h.apart).1 d (jq ..)
 exact h.join (e:=Ch.two c d) (fun h1 h2=>⟨h1,h2,hap⟩) (fun _ hb=>hb) (fun b hb=>hb.elim (h.elder c (jq ..) b) (h.elder d (jo _ (jq ..)) b))
theorem qkz {i c m:Nat} (h:i<c):i*m+m≤c*m:=by
 have:(i+1)*m≤c*m:=jx _ h
 rw [jQ] at this
 exact this
theorem qsK {i j m r q:Nat} (hne:i ≠ j) (hr:r<m) (_:q<m):i*m+r<j*m∨j*m+m≤i*m+r:=by
 rcases Nat.lt_or_gt_of_ne hne with h|h
 ·left
  have:(i+1)*m≤j*m:=jx _ h
  rw [jQ] at this
  omega
 ·right
  have:(j+1)*m≤i*m:=jx _ h
  rw [jQ] at this
  omega
theorem qqV {cur:List Value} {q:Nat} {vs:List Value} (hfit:q+vs.length≤cur.length) {j:Nat} (hne:j<q∨q+vs.length≤j):(splice cur q vs)[j]?=cur[j]?:=by
 rw [getElem?_splice hfit]
 rcases hne with h|h
 ·rw [if_pos h]
 ·rw [if_neg (by omega),if_neg (by omega)]
theorem qsv (hT:TabOk P T) {α:Type} [GoT α] {S S1:Nat→Prop} {xs ys:List α} {p p':Option Addr} {ln ln' c c' t ty el:Nat} {te te':TE} {zv:Value}
  (h:SH w0 w (Ch.own S1 ys [.slice p' ln' c']::Ch.own S xs [.slice p ln c]::L)) (hte:T.get t=some te) (hk:te.kind=.slice el) (hel:T.get el=some te') (hz:te'.zero=some zv) (hzs:(cellsL zv).length=te'.size) (hsz:te'.size=GoT.k α)
  (hb:Nat.ble te'.bytes 65536=true) (hbig:xs.length+ys.length≤big) :
  ∃ p2 c2 S2 w',(Builtin.append_ #[t,t] ty #[.slice p ln c,.slice p' ln' c']).run P w=.ok (.slice p2 (xs.length+ys.length) c2) w'∧SH w0 w' (Ch.own S2 (xs++ys) [.slice p2 (xs.length+ys.length) c2]::L):=by
 obtain ⟨inf,hinf,hs1,hby,hz1⟩:=qd7 (hT _ _ hel)
 have hu:=qbR (hT _ _ hte) hk
 have hb':=js hb
 have hln:=(h.sl 1 rfl).2
 have hln':=(h.sl 0 rfl).2
 subst hln hln'
 have hs:=(h.sl 0 rfl).1
 have hsx:=(h.sl 1 rfl).1
 have hsize:inf.size=GoT.k α:=hs1.trans hsz
 obtain ⟨news0,_,hnR,hnD⟩:=hs.cells (P:=P)
 have hf:=h.fuse
 obtain ⟨⟨hO1,hO2,hap⟩,hS⟩:=hf.holds _ (jq ..)
 obtain ⟨p0,c0,he,h1,h2,h3⟩:=hO2
 simp only [List.cons.injEq,Value.slice.injEq,and_true,true_and] at he
 obtain ⟨rfl,rfl⟩:=he
 obtain ⟨p0,c0,he,g1,g2,g3⟩:=hO1
 simp only [List.cons.injEq,Value.slice.injEq,and_true,true_and] at he
 obtain ⟨rfl,rfl⟩:=he
 unfold big at hbig
 have hmax:(2147483648:Nat)≤maxLen:=by simp [maxLen]
 obtain ⟨Fy,news,hyS,hyd,hnl,hnO,hnR,hnD⟩:∃ Fy:Nat→Nat→Prop,∃ news:List Value,(∀ i a,Fy i a→S1 a)∧(∀ i j a,i ≠ j→Fy i a→¬ Fy j a)∧news.length=ys.length*GoT.k α ∧
   (∀ i y,ys[i]?=some y→∃ cs,GoT.O w (Fy i) y cs∧∀ j v,cs[j]?=some v→news[i*GoT.k α+j]?=some v) ∧
   (Builtin.firstCells inf.size ys.length (.slice p' ys.length c')).run P w=.ok news.toArray w∧(Builtin.firstCells inf.size ys.length (.slice p' ys.length c')).run P w.drew=.ok news.toArray w.drew:=by
  rcases g3 with ⟨rfl,rfl,rfl⟩|⟨b,cur,t',F,rfl,hSb,hg,hcur,hF,hd,hx⟩
  ·exact ⟨fun _ _=>False,[],fun _ _ h=>h.elim,fun _ _ _ _ h=>h.elim,by simp,fun i y hi=>by simp at hi,by simp [Builtin.firstCells],by simp [Builtin.firstCells]⟩
  ·have hle:ys.length*GoT.k α≤c'*GoT.k α:=jx _ g1
   have hlen:(cur.toList.take (ys.length*GoT.k α)).length=ys.length*inf.size:=by simp [hsize];omega
   have hcell:∀ (w1:World),w1.heap[b]?=w.heap[b]?→∀ j v,(cur.toList.take (ys.length*GoT.k α))[j]?=some v→w1.cell? ((⟨b,0,none⟩:Addr).add j)=some v:=by
    intro w1 hw1 j v hj
    rw [qfQ]
    rw [jt] at hj
    split at hj
    ·simp only [World.cell?,hw1,hg]
     simpa using hj
    ·cases hj
   refine ⟨F,cur.toList.take (ys.length*GoT.k α),fun i a ha=>(hF i a ha).1,hd,by simp;omega,fun i y hi=>?_,run_firstCells_some w _ _ _ _ _ _ hlen (hcell w rfl),run_firstCells_some w.drew _ _ _ _ _ _ hlen (hcell w.drew rfl)⟩
   obtain ⟨cs,hO,hj⟩:=hx i y hi
   refine ⟨cs,hO,fun j v hv=>?_⟩
   have hjk:j<GoT.k α:=by have:=GoT.len (GoT.toR hO);have:=(List.getElem?_eq_some_iff.1 hv).1;omega
   have hb2:=qkz (m:=GoT.k α) (List.getElem?_eq_some_iff.1 hi).1
   rw [jt,if_pos (by omega)]
   simpa using hj j v hv
 have hnone:∀ u ∈ news,u.oneCell'=true:=by
  intro v hv
  obtain ⟨r,hr,rfl⟩:=jM hv
  have hkp:=GoT.kpos (α:=α)
  have hlt:r / GoT.k α<ys.length:=by rw [Nat.div_lt_iff_lt_mul hkp,←hnl];exact hr
  obtain ⟨cs,hO,hj⟩:=hnO (r / GoT.k α) _ (ji hlt)
  have hlen:=GoT.len (GoT.toR hO)
  have hm:r % GoT.k α<cs.length:=by rw [hlen];exact Nat.mod_lt _ hkp
  have:=hj (r % GoT.k α) _ (ji hm)
  rw [Nat.mul_comm,Nat.div_add_mod] at this
  rw [ji hr,Option.some.injEq] at this
  rw [this]
  exact GoT.one (GoT.toR hO) _ (jp hm)
 have fin:∀ (w':World) (S2:Nat→Prop) (b c2:Nat) (cur:Array Value) (t':TypeId) (olds:List Value) (Fx:Nat→Nat→Prop),
   (∀ a,(S1 a∨S a)→a ≠ b→w'.heap[a]?=w.heap[a]?)→(∀ a,(S1 a∨S a)→S2 a)→S2 b→w'.heap[b]?=some (.cells cur t' (0,0))→cur.size=c2*GoT.k α→xs.length+ys.length≤c2→c2≤maxLen →
   (∀ i a,Fx i a→S a∧a ≠ b)→(¬ S1 b)→(∀ i j a,i ≠ j→Fx i a→¬ Fx j a)→olds.length=xs.length*GoT.k α →
   (∀ i x,xs[i]?=some x→∃ cs,GoT.O w (Fx i) x cs∧∀ j v,cs[j]?=some v→olds[i*GoT.k α+j]?=some v) →
   (∀ (r:Nat) (v:Value),(olds++news)[r]?=some v→cur[r]?=some v) →
   GoT.O w' S2 (xs++ys) [.slice (some ⟨b,0,none⟩) (xs.length+ys.length) c2]:=by
  intro w' S2 b c2 cur t' olds Fx hloc hS2 hSb hg hcur hl hm hFx hS1b hFd hol hxO hcells
  refine ⟨_,_,by rw [jj],by simpa using hl,hm,.inr ⟨b,cur,t',fun i a=>(i<xs.length∧Fx i a)∨(xs.length≤i∧Fy (i-xs.length) a),rfl,hSb,hg,hcur,?_,?_,?_⟩⟩
  ·rintro i a (⟨_,ha⟩|⟨_,ha⟩)
   ·exact ⟨hS2 a (.inr (hFx i a ha).1),(hFx i a ha).2⟩
   ·exact ⟨hS2 a (.inl (hyS _ a ha)),fun hab=>hS1b (hab ▸ hyS _ a ha)⟩
  ·rintro i j a hne (⟨hi,ha⟩|⟨hi,ha⟩) (⟨hj,hb⟩|⟨hj,hb⟩)
   ·exact hFd i j a hne ha hb
   ·exact hap a (hyS _ a hb) (hFx i a ha).1
   ·exact hap a (hyS _ a ha) (hFx j a hb).1
   ·exact hyd _ _ a (by omega) ha hb
  ·intro i x hi
   rw [List.getElem?_append] at hi
   split at hi
   ·rename_i hlt
    obtain ⟨cs,hO,hj⟩:=hxO i x hi
    refine ⟨cs,GoT.monoO (GoT.locO hO (fun a ha=>hloc a (.inr (hFx i a ha).1) (hFx i a ha).2)) (fun a ha=>.inl ⟨hlt,ha⟩),fun j v hv=>hcells _ _ ?_⟩
    have:=hj j v hv
    rw [ju (List.getElem?_eq_some_iff.1 this).1]
    exact this
   ·rename_i hge
    obtain ⟨cs,hO,hj⟩:=hnO _ x hi
    refine ⟨cs,GoT.monoO (GoT.locO hO (fun a ha=>hloc a (.inl (hyS _ a ha)) (fun hab=>hS1b (hab ▸ hyS _ a ha)))) (fun a ha=>.inr ⟨by omega,ha⟩),fun j v hv=>hcells _ _ ?_⟩
    have:=hj j v hv
    have hle:xs.length*GoT.k α≤i*GoT.k α:=jx _ (by omega)
    rw [jD (by rw [hol];omega),hol]
    rw [show i*GoT.k α+j-xs.length*GoT.k α=(i-xs.length)*GoT.k α+j by rw [Nat.sub_mul];omega]
    exact this
 have grow:∀ (olds:List Value) (Fx:Nat→Nat→Prop),(∀ i a,Fx i a→S a)→(∀ i j a,i ≠ j→Fx i a→¬ Fx j a)→olds.length=xs.length*GoT.k α →
   (∀ i x,xs[i]?=some x→∃ cs,GoT.O w (Fx i) x cs∧∀ j v,cs[j]?=some v→olds[i*GoT.k α+j]?=some v) →
   (Builtin.firstCells inf.size xs.length (.slice p xs.length c)).run P w.drew=.ok olds.toArray w.drew→c<xs.length+ys.length →
   ∃ p2 c2 S2 w',(Builtin.append_ #[t,t] ty #[.slice p xs.length c,.slice p' ys.length c']).run P w=.ok (.slice p2 (xs.length+ys.length) c2) w'∧SH w0 w' (Ch.own S2 (xs++ys) [.slice p2 (xs.length+ys.length) c2]::L):=by
  intro olds Fx hFx hFd hol hxO hoD hlt
  have hfit:Builtin.nextslicecap (xs.length+ys.length) c*inf.bytes≤281474976710656:=by
   refine growslice_fits hlt ?_
   have:(xs.length+ys.length)*inf.bytes≤2147483648*65536:=Nat.mul_le_mul hbig (by omega)
   omega
  have hr:=qje (P:=P) (w:=w) t ty el inf zv hu hinf (hz1.trans hz) p p' xs.length c ys.length c' olds news hnD hoD hlt (by omega) hfit
  have hge:=grownCap_ge w (xs.length+ys.length) c el
  have hcm:=grownCap_le_maxLen w (xs.length+ys.length) c el (by omega)
  have hnew:∀ a,(S1 a∨S a)→a ≠ w.heap.size:=fun a ha hab=>by have:=(hS a ha).2;omega
  refine ⟨_,_,fun b=>(S1 b∨S b)∨b=w.heap.size,_,hr,?_⟩
  have hu:=hf.upd (i:=0) (c':=Ch.own (fun b=>(S1 b∨S b)∨b=w.heap.size) (xs++ys) [.slice (some ⟨w.heap.size,0,none⟩) (xs.length+ys.length) (grownCap w (xs.length+ys.length) c el)])
   (w':=w.drew.alloc (.cells (olds.toArray++news.toArray++Builtin.zeroCells zv.cells (grownCap w (xs.length+ys.length) c el-(xs.length+ys.length))) el)) rfl rfl rfl rfl (by simp) (fun b hb' _=>heap_alloc_old w.drew _ hb') ?_ ?_ (fun _ hd=>hd.elim)
  ·exact hu
  ·refine fin _ _ w.heap.size _ _ el olds Fx (fun a ha _=>heap_alloc_old w.drew _ (hS a ha).2) (fun a ha=>.inl ha) (.inr rfl) (heap_alloc_new w.drew _) ?_ hge hcm (fun i a ha=>⟨hFx i a ha,hnew a (.inr (hFx i a ha))⟩) (fun hb=>hnew _ (.inl hb) rfl) hFd hol hxO ?_
   ·have hzl:zv.cells.size=GoT.k α:=by rw [←hsz,←hzs,←qc1];simp
    simp only [Array.size_append,jV,size_zeroCells,hol,hnl,hzl,←Nat.add_mul]
    congr 1
    omega
   ·intro r v hr'
    have hlt':=(List.getElem?_eq_some_iff.1 hr').1
    rw [jU (by simpa using hlt')]
    simpa using hr'
  ·rintro b (hb'|hb')
   ·exact .inl hb'
   ·subst hb'
    exact .inr ⟨jf _,by simp⟩
 rcases h3 with ⟨rfl,rfl,rfl⟩|⟨b,cur,t',F,rfl,hSb,hg,hcur,hF,hd,hx⟩
 ·by_cases hy:ys.length=0
  ·refine ⟨none,0,fun b=>S1 b∨S b,w,by simpa [hy] using qjc (P:=P) (w:=w) t ty el inf hu hinf p' c',?_⟩
   have:ys=[]:=jF hy
   subst this
   exact hf.swap (c':=Ch.own (fun b=>S1 b∨S b) ([]++[]) [.slice none (([]:List α).length+([]:List α).length) 0]) ⟨none,0,by simp,by simp,by simp,.inl ⟨rfl,by simp,rfl⟩⟩ (fun b hb=>hb) (fun _ hd=>hd.elim)
  ·exact grow [] (fun _ _=>False) (fun _ _ h=>h.elim) (fun _ _ _ _ h=>h.elim) (by simp) (fun i x hi=>by simp at hi) (by simp [Builtin.firstCells]) (by simp;omega)
 ·have hle0:xs.length*GoT.k α≤c*GoT.k α:=jx _ h1
  have hol:(cur.toList.take (xs.length*GoT.k α)).length=xs.length*GoT.k α:=by simp;omega
  have hxO:∀ i x,xs[i]?=some x→∃ cs,GoT.O w (F i) x cs∧∀ j v,cs[j]?=some v→(cur.toList.take (xs.length*GoT.k α))[i*GoT.k α+j]?=some v:=by
   intro i x hi
   obtain ⟨cs,hO,hj⟩:=hx i x hi
   refine ⟨cs,hO,fun j v hv=>?_⟩
   have hjk:j<GoT.k α:=by have:=GoT.len (GoT.toR hO);have:=(List.getElem?_eq_some_iff.1 hv).1;omega
   have hb2:=qkz (m:=GoT.k α) (List.getElem?_eq_some_iff.1 hi).1
   rw [jt,if_pos (by omega)]
   simpa using hj j v hv
  by_cases hroom:xs.length+ys.length≤c
  ·have hle:(xs.length+ys.length)*GoT.k α≤c*GoT.k α:=jx _ hroom
   rw [Nat.add_mul] at hle
   have hfit:xs.length*inf.size+news.length≤cur.size:=by rw [hnl,hsize,hcur];exact hle
   have hr:=qjs (P:=P) (w:=w) t ty el inf hu hinf p' b xs.length c ys.length c' cur t' hg news hnR hnone hroom hfit
   refine ⟨_,_,fun b=>S1 b∨S b,_,hr,?_⟩
   have hu:=hf.upd (i:=0) (c':=Ch.own (fun b=>S1 b∨S b) (xs++ys) [.slice (some ⟨b,0,none⟩) (xs.length+ys.length) c])
    (w':=w.setRow b (splice cur.toList (xs.length*inf.size) news).toArray) rfl rfl rfl rfl (by simp) (fun a _ ha=>setRow_other w b a _ (fun hab=>ha (.inr (hab ▸ hSb)))) ?_ (fun a ha=>.inl ha) (fun _ hd=>hd.elim)
   ·exact hu
   ·refine fin _ _ b _ _ t' (cur.toList.take (xs.length*GoT.k α)) F (fun a _ hne=>setRow_other w b a _ hne) (fun a ha=>ha) (.inr hSb) (setRow_heap w b _ _ t' _ hg) ?_ hroom h2 hF (fun hb=>hap b hb hSb) hd hol hxO ?_
    ·rw [jV,qcj (by simpa using hfit)];simpa using hcur
    ·intro r v hr'
     rw [jI,hsize]
     have hlt':=(List.getElem?_eq_some_iff.1 hr').1
     have hr2:(cur.toList.take (xs.length*GoT.k α)++news++cur.toList.drop (xs.length*GoT.k α+news.length))[r]?=some v:=by
      rw [ju hlt'];exact hr'
     exact hr2
  ·have hfo:=run_firstCells_some (P:=P) w.drew inf.size xs.length ⟨b,0,none⟩ xs.length c (cur.toList.take (xs.length*GoT.k α)) (by rw [hol,hsize]) (fun j v hj=>by
    rw [qfQ]
    rw [jt] at hj
    split at hj
    ·have:w.drew.heap[b]?=w.heap[b]?:=rfl
     simp only [World.cell?,this,hg]
     simpa using hj
    ·cases hj)
   exact grow _ F (fun i a ha=>(hF i a ha).1) hd hol hxO hfo (by omega)
theorem qtZ (hT:TabOk P T) {α:Type} [GoT α] {all:Array Oper} {l:List Oper} {d t ty el:Nat} {ps:String} {af:Array Edge} {x y:Operand} {S S1:Nat→Prop} {xs ys:List α} {p p':Option Addr} {ln ln' c c':Nat} {te te':TE} {zv:Value}
  (h:SH w0 w (Ch.own S1 ys [.slice p' ln' c']::Ch.own S xs [.slice p ln c]::L)) (hx:opv e x=some (.slice p ln c)) (hy:opv e y=some (.slice p' ln' c'))
  (hte:T.get t=some te) (hk:te.kind=.slice el) (hel:T.get el=some te') (hz:te'.zero=some zv) (hzs:(cellsL zv).length=te'.size) (hsz:te'.size=GoT.k α)
  (hb:Nat.ble te'.bytes 65536=true) (hbig:xs.length+ys.length≤big) (hn:Nat.blt d n=true)
  (hkk:∀ w' p2 c2 S2,SH w0 w' (Ch.own S2 (xs++ys) [.slice p2 (xs.length+ys.length) c2]::L)→Run P n Q (.ops all l::k) ((d,.slice p2 (xs.length+ys.length) c2)::e) w') :
  Run P n Q (.ops all (⟨some d,.call ⟨.builtin .append,#[x,y],#[t,t]⟩,ty,ps,af,none⟩::l)::k) e w:=by
 obtain ⟨p2,c2,S2,w',hr,hsh⟩:=qsv hT (ty:=ty) h hte hk hel hz hzs hsz hb hbig
 refine qiQ rfl rfl hn (fun a ha=>?_) (hkk w' p2 c2 S2 hsh)
 simp only [execOp,resolve,invoke,builtin,jl,jn,jh,List.map_toArray,Jb,List.map_nil,ha.eval hx,ha.eval hy,hr]
end
end Go.Fw


namespace Go.Fw
open Go
open Go.RowKit (Below)
section
variable {P:Program} {T:Tab} {n:Nat} {Q:Exit→Act→World→Prop} {k:List It} {e:Env} {w0 w w' w1:World} {L:List Ch}
def Pos {α:Type} [GoT α] (w:World) (L:List Ch):List Nat→List α→List (List Value)→Prop
 | I,[],[]=>I=[]
 | I,x::xs,c::cs=>∃ I1 I2,I=I1++I2∧PO w L I1 x c∧Pos w L I2 xs cs∧apartB I1 I2=true
 | _,_,_=>False
theorem qgr {α:Type} [GoT α]:Pos w L [] ([]:List α) []:=rfl
theorem qcn {α:Type} [GoT α] {x:α} {xs:List α} {c:List Value} {cs:List (List Value)} {I1 I2:List Nat} (h1:PO w L I1 x c) (h2:Pos w L I2 xs cs) (hb:apartB I1 I2=true):Pos w L (I1++I2) (x::xs) (c::cs) :=
 ⟨I1,I2,rfl,h1,h2,hb⟩
theorem Pos.get {α:Type} [GoT α] (h:SH w0 w L):∀ {I:List Nat} {xs:List α} {cs:List (List Value)},Pos w L I xs cs →
  xs.length=cs.length∧(∀ c ∈ cs,c.length=GoT.k α)∧∃ F:Nat→Nat→Prop,(∀ i a,F i a→∃ j d,j ∈ I∧L[j]?=some d∧d.S a)∧(∀ i j a,i ≠ j→F i a→¬ F j a) ∧
   ∀ i x,xs[i]?=some x→∃ c,GoT.O w (F i) x c∧∀ j v,c[j]?=some v→cs.flatten[i*GoT.k α+j]?=some v
 | I,[],[],hp=>⟨rfl,by simp,fun _ _=>False,fun _ _ h=>h.elim,fun _ _ _ _ h=>h.elim,fun i x hi=>by simp at hi⟩
 | I,x::xs,c::cs,hp=>by
  obtain ⟨I1,I2,rfl,⟨S1,hO,hW⟩,h2,hb⟩:=hp
  obtain ⟨hl,hc,F,hF,hd,hg⟩:=Pos.get h h2
  have hk:=GoT.len (GoT.toR hO)
  have hap:∀ i a,S1 a→¬ F i a:=fun i a ha hb'=>qg5 h hW (S2:=F i) (fun b hb=>hF i b hb) hb a ha hb'
  refine ⟨by simp [hl],fun d hd=>?_,fun i a=>match i with|0=>S1 a|i+1=>F i a,fun i a ha=>?_,fun i j a hne ha hb'=>?_,fun i y hi=>?_⟩
  ·rcases List.mem_cons.1 hd with rfl|hd
   ·exact hk
   ·exact hc d hd
  ·cases i with
   | zero=>obtain ⟨j,d,hj,h⟩:=hW a ha;exact ⟨j,d,by simp [hj],h⟩
   | succ i=>obtain ⟨j,d,hj,h⟩:=hF i a ha;exact ⟨j,d,by simp [hj],h⟩
  ·cases i with
   | zero=>cases j with
    | zero=>exact hne rfl
    | succ j=>exact hap j a ha hb'
   | succ i=>cases j with
    | zero=>exact hap i a hb' ha
    | succ j=>exact hd i j a (by omega) ha hb'
  ·cases i with
   | zero =>
    simp only [List.getElem?_cons_zero,Option.some.injEq] at hi
    subst hi
    refine ⟨c,hO,fun j v hj=>?_⟩
    have:=(List.getElem?_eq_some_iff.1 hj).1
    rw [Nat.zero_mul,Jj,List.flatten_cons,ju this]
    exact hj
   | succ i =>
    simp only [jP] at hi
    obtain ⟨c',hc',hj'⟩:=hg i y hi
    refine ⟨c',hc',fun j v hj=>?_⟩
    rw [List.flatten_cons,jD (by rw [hk,jQ];omega)]
    rw [show (i+1)*GoT.k α+j-c.length=i*GoT.k α+j by rw [hk,jQ];omega]
    exact hj' j v hj
 | _,[],_::_,h=>h.elim
 | _,_::_,[],h=>h.elim
theorem qdV (hT:TabOk P T) {α:Type} [GoT α] {all:Array Oper} {l:List Oper} {d t ty el len:Nat} {ps:String} {af:Array Edge} {parts:Array (Nat × Operand)} {te te':TE} {zv:Value} (os:List Operand) (vs:List Value) (ys:List α) {I:List Nat} (J:List Nat)
  (h:SH w0 w L) (hparts:parts.toList=(os.zipIdx 0).map fun x=>(x.2,x.1)) (hvs:opvs e os=some vs) (hlen:len=vs.length)
  (hte:T.get t=some te) (hk:te.kind=.slice el) (hel:T.get el=some te') (hz:te'.zero=some zv) (hsz:te'.size=GoT.k α) (hsmall:Nat.ble (vs.length*te'.size) 16777216=true)
  (hc:Pos w L I ys (vs.map cellsL)) (hJ:(apartB I J&&nodupB J)=true) (hn:Nat.blt d n=true)
  (hkk:∀ w' p S,SH w0 w' (Ch.own S ys [.slice p len len]::pickL L J)→Run P n Q (.ops all l::k) ((d,.slice p len len)::e) w') :
  Run P n Q (.ops all (⟨some d,.buildSlice t len parts,ty,ps,af,none⟩::l)::k) e w:=by
 obtain ⟨hl1,hl2,F,hF,hFd,hg⟩:=hc.get h
 have hcs:∀ v ∈ vs,(cellsL v).length=te'.size:=fun v hv=>by rw [hsz];exact hl2 _ (List.mem_map.2 ⟨v,hv,rfl⟩)
 have hr:=qjO hT vs hte hk hel hz (js hsmall) hcs w
 have hl3:ys.length=vs.length:=by simpa using hl1
 subst hlen
 simp only [jg] at hJ
 have hfl:(vs.map cellsL).flatten.length=vs.length*GoT.k α:=by
  have:∀ (cs:List (List Value)),(∀ c ∈ cs,c.length=GoT.k α)→cs.flatten.length=cs.length*GoT.k α:=by
   intro cs
   induction cs with
   | nil=>intro _;simp
   | cons c cs ih=>intro hc;rw [List.flatten_cons,jj,hc c (by simp),ih (fun d hd=>hc d (by simp [hd])),Jf,jQ];omega
  rw [this _ hl2];simp
 have hsm:vs.length≤maxLen:=by
  have h1:=js hsmall
  have h2:vs.length*1≤vs.length*te'.size:=Nat.mul_le_mul_left _ (by rw [hsz];exact GoT.kpos)
  simp [maxLen]
  omega
 have hbe:Below w.heap.size w (w.alloc (.cells (vs.map cellsL).flatten.toArray el)):=(Below.refl _ _).alloc (jf _) _
 have hin:∀ i a,F i a→fresh w0 w a:=fun i a ha=>by obtain ⟨j,d,_,hj,hd⟩:=hF i a ha;exact (h.mem hj).2 a hd
 have h2:=(h.pick J hJ.2).ext hbe
 refine qiQ (v:=.slice (some ⟨w.heap.size,0,none⟩) vs.length vs.length) (w':=w.alloc (.cells (vs.map cellsL).flatten.toArray el)) rfl rfl hn (fun a ha=>?_)
  (hkk _ _ (fun b=>b=w.heap.size∨∃ i,F i b) ⟨h2.below,fun c hc=>?_,fun c hc=>?_,List.pairwise_cons.2 ⟨fun c hc b hb hcb=>?_,h2.apart⟩⟩)
 ·have hev:parts.map (fun (x:Nat × Operand)=>(x.1,a.eval x.2))=((vs.zipIdx 0).map fun x=>(x.2,x.1)).toArray:=by
   apply Array.ext'
   rw [Array.toList_map,hparts]
   have:=qho ha hvs
   subst this
   rw [List.zipIdx_map,List.map_map,List.map_map]
   rfl
  simp only [execOp,hev,jl,hr,jh,jn]
 ·rcases List.mem_cons.1 hc with rfl|hc
  ·refine ⟨⟨some ⟨w.heap.size,0,none⟩,vs.length,by rw [hl3],by rw [hl3];exact jf _,hsm,.inr ⟨w.heap.size,_,el,F,rfl,.inl rfl,heap_alloc_new w _,by rw [jV,hfl],fun i a ha=>⟨.inr ⟨i,ha⟩,fun hab=>by have:=(hin i a ha).2;omega⟩,hFd,fun i x hi=>?_⟩⟩,fun b hb=>?_⟩
   ·obtain ⟨cs,hO,hj⟩:=hg i x hi
    exact ⟨cs,GoT.locO hO (fun a ha=>heap_alloc_old w _ (hin i a ha).2),fun j v hv=>by simpa using hj j v hv⟩
   ·rcases hb with hb|⟨i,hb⟩
    ·subst hb;exact ⟨h.below.size,by simp⟩
    ·exact ⟨(hin i b hb).1,jy (hin i b hb).2 hbe.size⟩
  ·exact h2.holds c hc
 ·rcases List.mem_cons.1 hc with rfl|hc
  ·exact fun _ h=>h.elim
  ·exact h2.elder c hc
 ·obtain ⟨j,hj,hjc⟩:=qgV hc
  rcases hb with hb|⟨i,hb⟩
  ·subst hb
   have:=((h.mem hjc).2 _ hcb).2
   omega
  ·exact qg5 h (S1:=F i) (S2:=c.S) (hF i) (fun x hx=>⟨j,c,hj,hjc,hx⟩) hJ.1 b hb hcb
def Ch.hole {α:Type} [GoT α] (S:Nat→Prop) (xs:List α) (p:Option Addr) (ln c i:Nat) (cs:List Value):Ch where
 S:=S
 D _:=False
 P w:=ln=xs.length∧xs.length≤c∧c≤maxLen∧i<xs.length∧cs.length=GoT.k α ∧
  ∃ b cur T,∃ F:Nat→Nat→Prop,p=some ⟨b,0,none⟩∧S b∧w.heap[b]?=some (.cells cur T (0,0))∧cur.size=c*GoT.k α ∧
   (∀ i a,F i a→S a∧a ≠ b)∧(∀ i j a,i ≠ j→F i a→¬ F j a)∧(∀ a,¬ F i a)∧(∀ j v,cs[j]?=some v→cur[i*GoT.k α+j]?=some v) ∧
   ∀ j x,j ≠ i→xs[j]?=some x→∃ ds,GoT.O w (F j) x ds∧∀ r v,ds[r]?=some v→cur[j*GoT.k α+r]?=some v
 loc w w' h _ hp:=by
  obtain ⟨h1,h2,h3,h4,h5,b,cur,T,F,q1,q2,q3,q4,q5,q6,q7,q8,q9⟩:=hp
  exact ⟨h1,h2,h3,h4,h5,b,cur,T,F,q1,q2,by rw [h b q2];exact q3,q4,q5,q6,q7,q8,fun j x hj hx=>by
   obtain ⟨ds,hO,hd⟩:=q9 j x hj hx
   exact ⟨ds,GoT.locO hO (fun a ha=>h a (q5 j a ha).1),hd⟩⟩
theorem SH.take {α:Type} [GoT α] {S:Nat→Prop} {xs:List α} {p:Option Addr} {ln c:Nat} {iv:Int} {x:α} (h:SH w0 w (Ch.own S xs [.slice p ln c]::L)) (hx:idx xs iv=some x) :
  ∃ S1 S2 cs,SH w0 w (Ch.own S1 x cs::Ch.hole S2 xs p ln c iv.toNat cs::L):=by
 obtain ⟨hP,hS⟩:=h.holds _ (jq ..)
 obtain ⟨h0,hlt,hxi⟩:=qax hx
 have hpw:=List.pairwise_cons.1 h.apart
 obtain ⟨p',c',he,h1,h2,h3⟩:=hP
 simp only [List.cons.injEq,Value.slice.injEq,and_true] at he
 obtain ⟨rfl,rfl,rfl⟩:=he
 have hil:=(List.getElem?_eq_some_iff.1 hxi).1
 rcases h3 with ⟨_,rfl,_⟩|⟨b,cur,t,F,rfl,hb,hg,hcur,hF,hd,hx'⟩
 ·simp at hil
 ·obtain ⟨cs,hO,hj⟩:=hx' _ _ hxi
  refine ⟨F iv.toNat,fun a=>a=b∨∃ i,i ≠ iv.toNat∧F i a,cs,h.below,fun d hd'=>?_,fun d hd'=>?_,?_⟩
  ·rcases List.mem_cons.1 hd' with rfl|hd'
   ·exact ⟨hO,fun a ha=>hS a (hF _ a ha).1⟩
   rcases List.mem_cons.1 hd' with rfl|hd'
   ·refine ⟨⟨rfl,h1,h2,hil,GoT.len (GoT.toR hO),b,cur,t,fun i a=>i ≠ iv.toNat∧F i a,rfl,.inl rfl,hg,hcur,fun i a ha=>⟨.inr ⟨i,ha⟩,(hF i a ha.2).2⟩,fun i j a hne ha hb=>hd i j a hne ha.2 hb.2,fun a ha=>ha.1 rfl,hj,fun j y hne hy=>?_⟩,fun a ha=>?_⟩
    ·obtain ⟨ds,hO',hj'⟩:=hx' j y hy
     exact ⟨ds,GoT.monoO hO' (fun a ha=>⟨hne,ha⟩),hj'⟩
    ·rcases ha with ha|⟨i,_,ha⟩
     ·exact hS a (ha ▸ hb)
     ·exact hS a (hF i a ha).1
   ·exact h.holds d (jo _ hd')
  ·rcases List.mem_cons.1 hd' with rfl|hd'
   ·exact fun _ h=>h.elim
   rcases List.mem_cons.1 hd' with rfl|hd'
   ·exact fun _ h=>h.elim
   ·exact h.elder d (jo _ hd')
  ·refine List.pairwise_cons.2 ⟨fun d hd' a ha=>?_,List.pairwise_cons.2 ⟨fun d hd' a ha=>?_,hpw.2⟩⟩
   ·rcases List.mem_cons.1 hd' with rfl|hd'
    ·rintro (hab|⟨i,hi,ha2⟩)
     ·exact (hF _ a ha).2 hab
     ·exact hd i _ a hi ha2 ha
    ·exact hpw.1 d hd' a (hF _ a ha).1
   ·rcases ha with ha|⟨i,_,ha⟩
    ·exact hpw.1 d hd' a (ha ▸ hb)
    ·exact hpw.1 d hd' a (hF i a ha).1
theorem SH.put {α:Type} [GoT α] {S1 S2:Nat→Prop} {xs:List α} {p:Option Addr} {ln c i:Nat} {x:α} {cs:List Value} (h:SH w0 w (Ch.own S1 x cs::Ch.hole S2 xs p ln c i cs::L)) :
  SH w0 w (Ch.own (fun b=>S1 b∨S2 b) (xs.set i x) [.slice p ln c]::L):=by
 have hap:=(List.pairwise_cons.1 h.apart).1 (Ch.hole S2 xs p ln c i cs) (jq ..)
 refine h.join (e:=Ch.own (fun b=>S1 b∨S2 b) (xs.set i x) [.slice p ln c]) (fun h1 h2=>?_) (fun _ hb=>hb) (fun _ h=>h.elim)
 obtain ⟨rfl,g1,g2,g3,g4,b,cur,T,F,rfl,q2,q3,q4,q5,q6,q7,q8,q9⟩:=h2
 refine ⟨_,_,by rw [List.length_set],by simpa using g1,g2,.inr ⟨b,cur,T,fun j a=>(j=i∧S1 a)∨(j ≠ i∧F j a),rfl,.inr q2,q3,q4,?_,?_,?_⟩⟩
 ·rintro j a (⟨_,ha⟩|⟨_,ha⟩)
  ·exact ⟨.inl ha,fun hab=>hap a ha (hab ▸ q2)⟩
  ·exact ⟨.inr (q5 j a ha).1,(q5 j a ha).2⟩
 ·rintro j j' a hne (⟨hj,ha⟩|⟨hj,ha⟩) (⟨hj',hb⟩|⟨hj',hb⟩)
  ·exact hne (hj.trans hj'.symm)
  ·exact hap a ha (q5 j' a hb).1
  ·exact hap a hb (q5 j a ha).1
  ·exact q6 j j' a hne ha hb
 ·intro j y hy
  rw [List.getElem?_set] at hy
  split at hy
  ·rename_i hij
   simp only [Option.some.injEq] at hy
   subst hy hij
   exact ⟨cs,GoT.monoO h1 (fun a ha=>.inl ⟨rfl,ha⟩),q8⟩
  ·rename_i hij
   obtain ⟨ds,hO,hd⟩:=q9 j y (fun e=>hij e.symm) hy
   exact ⟨ds,GoT.monoO hO (fun a ha=>.inr ⟨fun e=>hij e.symm,ha⟩),hd⟩
theorem SH.holeAt {α:Type} [GoT α] {S:Nat→Prop} {xs:List α} {p:Option Addr} {ln c i:Nat} {cs:List Value} (m:Nat) (h:SH w0 w L) (hi:L[m]?=some (Ch.hole S xs p ln c i cs)) :
  ∃ b,p=some ⟨b,0,none⟩∧CellsAt w b (i*GoT.k α) cs∧i<ln∧ln=xs.length:=by
 obtain ⟨rfl,g1,g2,g3,g4,b,cur,T,F,rfl,q2,q3,q4,q5,q6,q7,q8,q9⟩:=(h.mem hi).1
 exact ⟨b,rfl,CellsAt.of_block q3 q8,g3,rfl⟩
theorem qrU {α:Type} [GoT α] {S:Nat→Prop} {xs:List α} {p:Option Addr} {ln c i j b:Nat} {cs vs:List Value} {m:Nat} (h:SH w0 w L) (hi:L[m]?=some (Ch.hole S xs p ln c i cs)) (hp:p=some ⟨b,0,none⟩) (hle:j+vs.length≤cs.length) :
  ∃ cur t,w.heap[b]?=some (.cells cur t (0,0))∧i*GoT.k α+j+vs.length≤cur.size ∧
   SH w0 (w.setRow b (splice cur.toList (i*GoT.k α+j) vs).toArray) (L.set m (Ch.hole S xs p ln c i (splice cs j vs))):=by
 obtain ⟨hP,hS⟩:=h.mem hi
 obtain ⟨rfl,g1,g2,g3,g4,b',cur,T,F,hpb,q2,q3,q4,q5,q6,q7,q8,q9⟩:=hP
 subst hp
 simp only [Option.some.injEq,Addr.mk.injEq,and_true] at hpb
 subst hpb
 have hb1:i*GoT.k α+GoT.k α≤cur.size:=by rw [q4];exact qkz (by omega)
 have hfit:i*GoT.k α+j+vs.length≤cur.toList.length:=by simp;omega
 refine ⟨cur,T,q3,by simpa using hfit,?_⟩
 refine h.upd hi rfl rfl rfl (by simp) (fun a _ ha=>setRow_other w b a _ (fun hab=>ha (hab ▸ q2))) ?_ (fun a ha=>.inl ha) (fun _ hd=>hd.elim)
 refine ⟨rfl,g1,g2,g3,by rw [qcj hle];exact g4,b,_,T,F,rfl,q2,setRow_heap w b _ _ T _ q3,by rw [jV,qcj hfit];simpa using q4,q5,q6,q7,fun r v hr=>?_,fun r x hne hx=>?_⟩
 ·rw [jI]
  rw [getElem?_splice hle] at hr
  rw [getElem?_splice hfit]
  have hcell:∀ r v,cs[r]?=some v→cur.toList[i*GoT.k α+r]?=some v:=fun r v hr=>by simpa using q8 r v hr
  split at hr
  ·rw [if_pos (by omega)];exact hcell _ _ hr
  ·split at hr
   ·rw [if_neg (by omega),if_pos (by omega),show i*GoT.k α+r-(i*GoT.k α+j)=r-j by omega]
    exact hr
   ·rw [if_neg (by omega),if_neg (by omega)]
    exact hcell _ _ hr
 ·obtain ⟨ds,hO,hd⟩:=q9 r x hne hx
  refine ⟨ds,GoT.locO hO (fun a ha=>setRow_other w b a _ (q5 r a ha).2),fun q v hq=>?_⟩
  have hqk:q<GoT.k α:=by have:=GoT.len (GoT.toR hO);have:=(List.getElem?_eq_some_iff.1 hq).1;omega
  have hs:=qsK (q:=q) hne hqk hqk
  rw [jI,qqV hfit (by omega)]
  simpa using hd q v hq
theorem qjb (hT:TabOk P T) {α:Type} [GoT α] {all:Array Oper} {l:List Oper} {t ty:Nat} {ps:String} {af:Array Edge} {x v:Operand} {te:TE} {S:Nat→Prop} {xs:List α} {p:Option Addr} {ln c b m q:Nat} {cs:List Value} {u:Value} (i j:Nat)
  (h:SH w0 w L) (hi:L[i]?=some (Ch.hole S xs p ln c m cs)) (hp:p=some ⟨b,0,none⟩) (hq:q=0+m*GoT.k α) (hx:opv e x=some (.pointer (some ⟨b,q+j,none⟩))) (hv:opv e v=some u) (hte:T.get t=some te)
  (hsz:Nat.beq (cellsL u).length te.size=true) (hle:Nat.ble (j+(cellsL u).length) cs.length=true) (h1:ones (cellsL u)=true)
  (hk:∀ w',SH w0 w' (L.set i (Ch.hole S xs p ln c m (splice cs j (cellsL u))))→Run P n Q (.ops all l::k) e w'):Run P n Q (.ops all (⟨none,.store t x v,ty,ps,af,none⟩::l)::k) e w:=by
 rw [Jj] at hq
 subst hq
 obtain ⟨cur,t',hg,hfit,hsh⟩:=qrU h hi hp (js hle)
 refine qp5 rfl rfl (fun a ha=>?_) (hk _ hsh)
 have:=qkt hT hte hg (beqT hsz) hfit h1
 simp only [execOp,ha.eval hx,ha.eval hv,jl,this,jh,jn]
def Ch.lrn {α:Type} [GoT α] (S:Nat→Prop) (x:α) (cs:List Value) (fs:List Fct):Ch where
 S:=S
 D _:=False
 P w:=GoT.O w S x cs∧∀ f ∈ fs,f.R w S
 loc _ _ h _ hp:=⟨GoT.locO hp.1 h,fun f hf=>GoT.loc (self:=f.inst) (hp.2 f hf) h⟩
theorem SH.say {c c':Ch} {i:Nat} (h:SH w0 w L) (hi:L[i]?=some c) (hp:c.P w→c'.P w) (hS:∀ b,c'.S b→c.S b) (hD:∀ b,c'.D b→b<w0.heap.size):SH w0 w (L.set i c') :=
 h.upd hi rfl rfl rfl (jf _) (fun _ _ _=>rfl) (hp (h.mem hi).1) (fun b hb=>.inl (hS b hb)) hD
variable {α β:Type} [GoT α] [GoT β] {S:Nat→Prop} {x:α} {cs:List Value} {fs:List Fct}
theorem SH.lrn0 (i:Nat) (h:SH w0 w L) (hi:L[i]?=some (Ch.own S x cs)):SH w0 w (L.set i (Ch.lrn S x cs [])) :=
 h.say hi (fun hp=>⟨hp,fun _ h=>by cases h⟩) (fun _ h=>h) (fun _ h=>h.elim)
theorem SH.unlrn (i:Nat) (h:SH w0 w L) (hi:L[i]?=some (Ch.lrn S x cs fs)):SH w0 w (L.set i (Ch.own S x cs)) :=
 h.say hi (fun hp=>hp.1) (fun _ h=>h) (fun _ h=>h.elim)
theorem SH.lrnAdd {y:β} {ds:List Value} (i:Nat) (h:SH w0 w L) (hi:L[i]?=some (Ch.lrn S x cs fs)) (hr:GoT.R w S y ds):SH w0 w (L.set i (Ch.lrn S x cs (fct y ds::fs))) :=
 h.say hi (fun hp=>⟨hp.1,fun f hf=>by
  rcases List.mem_cons.1 hf with rfl|hf
  ·exact hr
  ·exact hp.2 f hf⟩) (fun _ h=>h) (fun _ h=>h.elim)
theorem SH.lrnS (i j:Nat) {y:β} {ds:List Value} (h:SH w0 w L) (hi:L[i]?=some (Ch.lrn S x cs fs)) (hj:fs[j]?=some (fct y ds)):GoT.R w S y ds :=
 (h.mem hi).1.2 _ (jw hj)
theorem SH.lrnO (i:Nat) (h:SH w0 w L) (hi:L[i]?=some (Ch.lrn S x cs fs)):GoT.R w S x cs:=GoT.toR (h.mem hi).1.1
theorem SH.lrnB (i:Nat) (h:SH w0 w L) (hi:L[i]?=some (Ch.lrn S x cs fs)):∀ b,S b→Fw.old w b:=fun b hb=>((h.mem hi).2 b hb).2
theorem qfz {xs:List α} {p:Option Addr} {ln c:Nat} (h:GoT.R w S xs [.slice p ln c]):SlR w S xs p c∧ln=xs.length:=by
 obtain ⟨p',c',he,ho⟩:=h
 simp only [List.cons.injEq,Value.slice.injEq,and_true] at he
 obtain ⟨rfl,rfl,rfl⟩:=he
 exact ⟨ho,rfl⟩
def PtR {α:Type} [GoT α] (w:World) (S:Nat→Prop) (p:Option α) (a:Option Addr):Prop:=GoT.R w S p [.pointer a]
theorem qda {p:Option α} {cs:List Value} (h:GoT.R w S p cs):∃ a,cs=[.pointer a]∧PtR w S p a:=by
 cases p with
 | none=>exact ⟨none,h,(rfl:[Value.pointer none]=[.pointer none])⟩
 | some x =>
  obtain ⟨b,o,cur,T,fr,ds,rfl,h⟩:=h
  exact ⟨_,rfl,b,o,cur,T,fr,ds,rfl,h⟩
theorem PtR.get {p:Option α} {a:Option Addr} {x:α} (h:PtR w S p a) (hx:p=some x):∃ b o ds,a=some ⟨b,o,none⟩∧S b∧GoT.R w S x ds∧CellsAt w b o ds:=by
 subst hx
 obtain ⟨b,o,cur,T,fr,ds,he,hb,hg,hr,hj⟩:=h
 simp only [List.cons.injEq,Value.pointer.injEq,and_true] at he
 exact ⟨b,o,ds,he,hb,hr,CellsAt.of_block hg hj⟩
theorem PtR.isNone {p:Option α} {a:Option Addr} (h:PtR w S p a):a.isNone=p.isNone:=by
 cases p with
 | none=>have he:[Value.pointer a]=[.pointer none]:=h;cases he;rfl
 | some x=>obtain ⟨b,o,ds,rfl,_⟩:=h.get rfl;rfl
theorem PtR.mono {S':Nat→Prop} {p:Option α} {a:Option Addr} (h:PtR w S p a) (hs:∀ b,S b→S' b):PtR w S' p a:=GoT.mono h hs
theorem PtR.none:PtR w S (none:Option α) none:=rfl
theorem qqA {b:Nat} {ds:List Value} {t:TypeId} (i:Nat) (h:SH w0 w L) (hi:L[i]?=some (Ch.box b ds t)) (hS:S b) (hr:GoT.R w S x ds):GoT.R w S (some x) [.pointer (some ⟨b,0,none⟩)]:=by
 have hg:w.heap[b]?=some (.cells ds.toArray t (0,0)):=(h.mem hi).1
 exact ⟨b,0,_,t,(0,0),ds,rfl,hS,hg,hr,fun j v hj=>by simpa using hj⟩
theorem qhM {b:Nat} {ds:List Value} {t:TypeId} (i:Nat) (h:SH w0 w L) (hi:L[i]?=some (Ch.box b ds t)) (hr:GoT.R w (Fw.old w) x ds):GoT.R w (Fw.old w) (some x) [.pointer (some ⟨b,0,none⟩)] :=
 qqA i h hi ((h.mem hi).2 b rfl).2 hr
def NoD:List Ch→Prop
 | []=>True
 | c::L=>(∀ b,¬ c.D b)∧NoD L
theorem NoD.all:∀ {L:List Ch},NoD L→∀ c ∈ L,∀ b,¬ c.D b
 | [],_,_,h=>by cases h
 | d::L,h,c,hc=>by
  rcases List.mem_cons.1 hc with rfl|hc
  ·exact h.1
  ·exact NoD.all h.2 c hc
theorem SH.unbase (h:SH w1 w L) (hb:Below w0.heap.size w0 w1) (hD:NoD L):SH w0 w L :=
 ⟨hb.trans (h.below.mono hb.size),fun c hc=>⟨(h.holds c hc).1,fun b hcb=>⟨jS hb.size ((h.holds c hc).2 b hcb).1,((h.holds c hc).2 b hcb).2⟩⟩,fun c hc b hcb=>absurd hcb (hD.all c hc b),h.apart⟩
end
end Go.Fw


namespace Go.Fw
open Go
open Go.RowKit (Below)
def subS {α:Type} (xs:List α) (lo hi:Int):Option (List α):=if 0≤lo∧lo≤hi∧hi≤xs.length then some ((xs.take hi.toNat).drop lo.toNat) else none
theorem qlT {α:Type} {xs r:List α} {lo hi:Int} (h:subS xs lo hi=some r):0≤lo∧lo≤hi∧hi≤xs.length∧(xs.take hi.toNat).drop lo.toNat=r:=by
 unfold subS at h
 split at h
 ·rename_i hh;exact ⟨hh.1,hh.2.1,hh.2.2,Option.some.inj h⟩
 ·cases h
theorem qs6 {α:Type} {xs:List α} {lo hi:Nat} (h1:lo≤hi) (h2:hi≤xs.length):((xs.take hi).drop lo).length=hi-lo:=by simp;omega
section
variable {P:Program} {T:Tab} {n:Nat} {Q:Exit→Act→World→Prop} {k:List It} {e:Env} {w0 w w' w1:World} {L:List Ch}
theorem qch {fnc:Func} {R:Ending→World→Prop} {ops:Array Oper} {st:List Nat} {C:World→Prop} {fuel:Nat} {listed:Array Bool} (i:Nat) {d:Nat} {op:Op} {t:Nat} {ps:String} {af:Array Edge} {v:Value} {g:Nat × Bool}
  (hi:ops[i]?=some ⟨some d,op,t,ps,af,some g⟩) (hg:guardOf e ops ⟨some d,op,t,ps,af,some g⟩=some true) (listed':Array Bool) (hl:listed.setIfInBounds i true=listed')
  (hb:(Region.noSelect ops&&Region.free .any ops listed i&&(Region.ready .any ops listed).contains i&&st.all (fun s=>!(Nat.beq s i)&&waitsB ops i s&&!(listed.getD s true)))=true)
  (hv:∀ w',C w'→Val P n e ⟨some d,op,t,ps,af,some g⟩ w' v) (hC:C w) (hn:Nat.blt d n=true)
  (hk:RunA P n (bodyPost P fnc R) k ops st C fuel listed' ((d,v)::e) w):RunA P n (bodyPost P fnc R) k ops st C (fuel+1) listed e w:=by
 subst hl
 simp only [jg,Je,jO] at hb
 obtain ⟨⟨⟨h1,h2⟩,h3⟩,h4⟩:=hb
 intro a ha
 refine qjB hi (Region.noSelect_spec h1) (fun c a w h=>qlV c a w h) (fun s hs=>⟨fun h=>?_,(h4 s hs).1.2⟩) fuel listed a w (Region.free_spec hi h2) (by simpa using h3) (.inl ⟨qie ha hg,fun w' hw'=>hv w' hw' a ha⟩) (fun s hs=>(h4 s hs).2) hC (hk _ (ha.put hn v))
 have:=(h4 s hs).1.1
 rw [h,beqR] at this
 cases this
theorem qtB {ops:Array Oper} {st:List Nat} {C:World→Prop} {fuel:Nat} {listed:Array Bool} {t:Nat} {b:Bool} (hb:b=true) (ht:e.get t=some (.bool b)) (hk:RunA P n Q k ops st C fuel listed ((t,.bool true)::e) w):RunA P n Q k ops st C fuel listed e w:=by
 subst hb
 intro a ha
 refine hk a ⟨ha.defers,ha.size,fun i v hi=>?_⟩
 simp only [Env.get] at hi
 cases hbb:Nat.beq t i with
 | true=>rw [hbb] at hi;simp only [Option.some.injEq] at hi;subst hi;have:=beqT hbb;subst this;exact ha.at_ _ _ ht
 | false=>rw [hbb] at hi;exact ha.at_ _ _ hi
theorem qtJ {ops:Array Oper} {st:List Nat} {C:World→Prop} {fuel:Nat} {listed:Array Bool} {t:Nat} {b:Bool} (hb:b=false) (ht:e.get t=some (.bool b)) (hk:RunA P n Q k ops st C fuel listed ((t,.bool false)::e) w):RunA P n Q k ops st C fuel listed e w:=by
 subst hb
 intro a ha
 refine hk a ⟨ha.defers,ha.size,fun i v hi=>?_⟩
 simp only [Env.get] at hi
 cases hbb:Nat.beq t i with
 | true=>rw [hbb] at hi;simp only [Option.some.injEq] at hi;subst hi;have:=beqT hbb;subst this;exact ha.at_ _ _ ht
 | false=>rw [hbb] at hi;exact ha.at_ _ _ hi
structure Rg (A0:Nat→Prop) (w00:World) (B:Nat→Prop) (w0:World):Prop where
 below:Below w00.heap.size w00 w0
 old:∀ b,B b→Fw.old w0 b
 fin:∀ b,B b→reg A0 w00 w0 b
theorem Rg.start {A:Nat→Prop} (h:∀ b,A b→Fw.old w b):Rg A w A w:=⟨Below.refl _ _,h,fun _ hb=>.inl hb⟩
structure Up (B:Nat→Prop) (w0 w:World) (B':Nat→Prop) (w1:World):Prop where
 below:Below w.heap.size w w1
 sub:∀ b,reg B w0 w b→B' b
variable {A0 A B B':Nat→Prop} {w00:World} {α:Type} [GoT α] {x:α} {cs:List Value} {xs:List α} {p:Option Addr} {c:Nat}
theorem Up.heap (hg:Rg A0 w00 B w0) (h:SH w0 w L) (hu:Up B w0 w B' w1):∀ b,B b→w1.heap[b]?=w0.heap[b]?:=fun b hb=>by
 have h1:=hg.old b hb
 rw [hu.below.block b (jy h1 h.below.size),h.below.block b h1]
theorem Up.R (hg:Rg A0 w00 B w0) (h:SH w0 w L) (hu:Up B w0 w B' w1) (hr:GoT.R w0 B x cs):GoT.R w1 B' x cs :=
 GoT.mono (GoT.loc hr (Up.heap hg h hu)) (fun b hb=>hu.sub b (.inl hb))
theorem Up.S (hg:Rg A0 w00 B w0) (h:SH w0 w L) (hu:Up B w0 w B' w1) (hr:SlR w0 B xs p c):SlR w1 B' xs p c :=
 (hr.loc (Up.heap hg h hu)).mono (fun b hb=>hu.sub b (.inl hb))
theorem Up.C {b o:Nat} (h:SH w0 w L) (hu:Up B w0 w B' w1) (hr:CellsAt w0 b o cs):CellsAt w1 b o cs:=(hr.below h.below).below hu.below
theorem Up.own {S:Nat→Prop} (i:Nat) (h:SH w0 w L) (hu:Up B w0 w B' w1) (hi:L[i]?=some (Ch.own S x cs)):GoT.R w1 B' x cs :=
 GoT.mono (GoT.loc (GoT.toR (h.mem hi).1) (fun b hb=>hu.below.block b ((h.mem hi).2 b hb).2)) (fun b hb=>hu.sub b (.inr ((h.mem hi).2 b hb)))
theorem Up.box {b:Nat} {t:TypeId} (i:Nat) (h:SH w0 w L) (hu:Up B w0 w B' w1) (hi:L[i]?=some (Ch.box b cs t)):CellsAt w1 b 0 cs:=(h.box i hi).below hu.below
theorem Rg.inR (hg:Rg A0 w00 B w0) (h:SH w0 w L) (hr:GoT.R w0 B x cs):GoT.R w (reg B w0 w) x cs :=
 GoT.mono (GoT.loc hr (fun b hb=>h.below.block b (hg.old b hb))) (fun _ hb=>.inl hb)
theorem Rg.inS (hg:Rg A0 w00 B w0) (h:SH w0 w L) (hr:SlR w0 B xs p c):SlR w (reg B w0 w) xs p c :=
 (hr.loc (fun b hb=>h.below.block b (hg.old b hb))).mono (fun _ hb=>.inl hb)
theorem Rg.ownR {S:Nat→Prop} (i:Nat) (h:SH w0 w L) (hi:L[i]?=some (Ch.own S x cs)):GoT.R w (reg B w0 w) x cs :=
 GoT.mono (GoT.toR (h.mem hi).1) (fun b hb=>.inr ((h.mem hi).2 b hb))
theorem Rg.regOld (hg:Rg A0 w00 B w0) (h:SH w0 w L):∀ b,reg B w0 w b→Fw.old w b:=by
 rintro b (hb|hb)
 ·exact jy (hg.old b hb) h.below.size
 ·exact hb.2
theorem Rg.boxR {b:Nat} {t:TypeId} {ds:List Value} (i:Nat) (h:SH w0 w L) (hi:L[i]?=some (Ch.box b ds t)) (hr:GoT.R w (reg B w0 w) x ds):GoT.R w (reg B w0 w) (some x) [.pointer (some ⟨b,0,none⟩)] :=
 qqA i h hi (.inr ((h.mem hi).2 b rfl)) hr
theorem Rg.outR (hg:Rg A0 w00 B w0) (h:SH w0 w L) (hr:GoT.R w (reg B w0 w) x cs):GoT.R w (reg A0 w00 w) x cs :=
 GoT.mono hr (by
  rintro b (hb|hb)
  ·rcases hg.fin b hb with hb|hb
   ·exact .inl hb
   ·exact .inr ⟨hb.1,jy hb.2 h.below.size⟩
  ·exact .inr ⟨jS hg.below.size hb.1,hb.2⟩)
class MonoRs (ρ:Type) [GoRs ρ]:Prop where
 mono:∀ {w:World} {S S':Nat→Prop} {r:ρ} {us:List Value},GoRs.Rs w S r us→(∀ b,S b→S' b)→GoRs.Rs w S' r us
instance {α:Type} [GoT α]:MonoRs α:=⟨fun h hs=>by obtain ⟨cs,rfl,h⟩:=h;exact ⟨cs,rfl,GoT.mono h hs⟩⟩
instance (priority:=high) {α β:Type} [GoT α] [GoRs β] [MonoRs β]:MonoRs (α × β):=⟨fun h hs=>by
 obtain ⟨cs,us,rfl,h1,h2⟩:=h
 exact ⟨cs,us,rfl,GoT.mono h1 hs,MonoRs.mono h2 hs⟩⟩
theorem qkO {ρ:Type} [GoRs ρ] [MonoRs ρ] (r:ρ) {all:Array Oper} {l:List Oper} {d ty:Nat} {ps:String} {af:Array Edge} {x:Operand} {args:Array Operand} {ats:Array TypeId} {f:FuncId} {fi ca:Array Value} {az vs:List Value}
  (hg:Rg A0 w00 B w0) (h:SH w0 w L) (hcall:qei P f) (hc:RetG P f vs w (reg B w0 w) r) (hx:opv e x=some (.func (.func f) fi ca)) (hargs:opvs e args.toList=some az) (hvs:fi.toList++az++ca.toList=vs) (hn:Nat.blt d n=true)
  (hk:∀ w1 us B',Rg A0 w00 B' w1→Up B w0 w B' w1→SH w1 w1 []→GoRs.Rs w1 B' r us→Run P n Q (.ops all l::k) ((d,tup us)::e) w1) :
  Run P n Q (.ops all (⟨some d,.call ⟨.value x,args,ats⟩,ty,ps,af,none⟩::l)::k) e w:=by
 subst hvs
 refine qkG (R:=fun v w'=>Below w.heap.size w w'∧∃ us,v=tup us∧GoRs.Rs w' (reg (reg B w0 w) w w') r us) rfl rfl hn (fun a ha=>qhy ha hcall hx hargs w) hc ?_
 rintro v w1 ⟨hb,us,rfl,hv⟩
 have hbb:Below w0.heap.size w0 w1:=h.below.trans (hb.mono h.below.size)
 refine hk w1 us (reg B w0 w1) ⟨hg.below.trans (hbb.mono hg.below.size),?_,?_⟩ ⟨hb,?_⟩ (SH.start w1) (MonoRs.mono hv ?_)
 ·rintro b (hB|hB)
  ·exact jy (hg.old b hB) hbb.size
  ·exact hB.2
 ·rintro b (hB|hB)
  ·rcases hg.fin b hB with hB|hB
   ·exact .inl hB
   ·exact .inr ⟨hB.1,jy hB.2 hbb.size⟩
  ·exact .inr ⟨jS hg.below.size hB.1,hB.2⟩
 ·rintro b (hB|hB)
  ·exact .inl hB
  ·exact .inr ⟨hB.1,jy hB.2 hb.size⟩
 ·rintro b ((hB|hB)|hB)
  ·exact .inl hB
  ·exact .inr ⟨hB.1,jy hB.2 hb.size⟩
  ·exact .inr ⟨jS h.below.size hB.1,hB.2⟩
theorem qgt {w:World} {S:Nat→Prop} {r:α} {us:List Value} (h:(rsOne:GoRs α).Rs w S r us):∃ cs,us=[GoT.v α cs]∧GoT.R w S r cs:=h
theorem qev {β:Type} [GoRs β] {w:World} {S:Nat→Prop} {r:α × β} {us:List Value} (h:GoRs.Rs w S r us):∃ cs vs,us=GoT.v α cs::vs∧GoT.R w S r.1 cs∧GoRs.Rs w S r.2 vs:=h
def subP (kk:Nat) (p:Option Addr) (c:Nat) (lo:Nat):Option Addr:=if c=lo then p else p.map (·.add (lo*kk))
theorem SlR.sub {S:Nat→Prop} (h:SlR w S xs p c) {lo hi:Nat} (h1:lo≤hi) (h2:hi≤xs.length):SlR w S ((xs.take hi).drop lo) (subP (GoT.k α) p c lo) (c-lo):=by
 obtain ⟨q1,q2,q3⟩:=h
 have hl:((xs.take hi).drop lo).length=hi-lo:=by simp;omega
 refine ⟨by rw [hl];omega,by omega,?_⟩
 rcases q3 with ⟨hp,rfl⟩|⟨b,o,cur,T,fr,rfl,hb,hg,hc,hx⟩
 ·left
  have:hi=0:=by simpa using h2
  have:lo=0:=by omega
  subst this
  refine ⟨?_,by simp⟩
  rcases hp with rfl|rfl
  ·left;unfold subP;split<;>rfl
  ·right;rfl
 ·by_cases hcl:c=lo
  ·left
   exact ⟨.inr (by omega),jF (by rw [hl];omega)⟩
  ·right
   have hmul:(c-lo)*GoT.k α=c*GoT.k α-lo*GoT.k α:=Nat.sub_mul ..
   have hle:lo*GoT.k α≤c*GoT.k α:=jx _ (by omega)
   refine ⟨b,o+lo*GoT.k α,cur,T,fr,?_,hb,hg,by omega,fun i y hi'=>?_⟩
   ·unfold subP;rw [if_neg hcl];simp [qfQ]
   ·rw [jA,jt] at hi'
    split at hi'
    ·obtain ⟨cs,hr,hj⟩:=hx _ _ hi'
     refine ⟨cs,hr,fun j v hv=>?_⟩
     have:=hj j v hv
     rw [Nat.add_mul] at this
     rw [←this]
     congr 1
     omega
    ·cases hi'
theorem qkH {x:Value} {y:Nat} {code:BoundsCode} {kd:IntKind} {i:Int} (hx:x=.int kd i) (h0:0≤i) (h1:i≤y) (w:World):(Instr.sliceBound x y code).run P w=.ok i.toNat w:=by
 subst hx
 simp [Instr.sliceBound,asIntOf,h0,h1]
def optI (e:Env):Option Operand→Int→Option Int
 | none,d=>some d
 | some x,_=>match opv e x with
  | some (.int _ i)=>some i
  | _=>none
theorem qs9 (hT:TabOk P T) {x:Operand} {lo hi:Option Operand} {t ty d el:Nat} {ps:String} {af:Array Edge} {g:Option (Nat × Bool)} {te te':TE} {ln m:Nat} {l h:Int}
  (hx:opv e x=some (.slice p ln c)) (hlo:optI e lo 0=some l) (hhi:optI e hi ln=some h) (h0:0≤l) (h1:l≤h) (h2:h≤ln) (h3:ln≤c)
  (hte:T.get t=some te) (hk:te.kind=.slice el) (hel:T.get el=some te') (hm:te'.size=m):Val P n e ⟨some d,.slice t x lo hi none,ty,ps,af,g⟩ w (.slice (subP m p c l.toNat) (h.toNat-l.toNat) (c-l.toNat)):=by
 intro a ha
 have hu:=qbR (hT _ _ hte) hk
 have hs:=qfZ (hT _ _ hel) w
 subst hm
 have hb1:∀ (code:BoundsCode),(match hi.map a.eval with|some v=>Instr.sliceBound v c code|none=>pure ln:Sem Nat).run P w=.ok h.toNat w:=by
  intro code
  cases hi with
  | none=>simp only [optI,Option.some.injEq] at hhi;subst hhi;simp
  | some y =>
   simp only [optI] at hhi
   split at hhi
   ·rename_i kd i hy
    simp only [Option.some.injEq] at hhi
    subst hhi
    simp only [jW]
    exact qkH (ha.eval hy) (by omega) (by omega) w
   ·cases hhi
 have hb2:∀ (code:BoundsCode),(match lo.map a.eval with|some v=>Instr.sliceBound v h.toNat code|none=>pure 0:Sem Nat).run P w=.ok l.toNat w:=by
  intro code
  cases lo with
  | none=>simp only [optI,Option.some.injEq] at hlo;subst hlo;simp
  | some y =>
   simp only [optI] at hlo
   split at hlo
   ·rename_i kd i hy
    simp only [Option.some.injEq] at hlo
    subst hlo
    simp only [jW]
    exact qkH (ha.eval hy) h0 (by omega) w
   ·cases hlo
 have hbs:(Instr.sliceBounds true ln c (lo.map a.eval) (hi.map a.eval) none).run P w=.ok (l.toNat,h.toNat,c) w:=by
  have e1:=hb1 .sliceAcap
  have e2:=hb2 .sliceB
  unfold Instr.sliceBounds
  cases hi<;>cases lo<;>simp only [Option.map_none,jW,jl,jn,jh,if_true,Option.isSome_none,Bool.false_eq_true,if_false] at e1 e2 ⊢<;>simp_all
 simp only [execOp,ha.eval hx,Option.map_none,Instr.sliceAt,Instr.sureAddr,Instr.slice,jl,jn,run_underlying hu,jh,hbs,hs,subP]
def atS (s:ByteArray) (i:Int):Option Int:=if 0≤i then (s[i.toNat]?).map fun b=>(b.toNat:Int) else none
theorem qke {s:ByteArray} {i r:Int} (h:atS s i=some r):∃ b,(if 0≤i then s[i.toNat]? else none)=some b∧(b.toNat:Int)=r:=by
 unfold atS at h
 split at h
 ·rename_i h0
  obtain ⟨b,hb,rfl⟩:=Option.map_eq_some_iff.1 h
  exact ⟨b,by rw [if_pos h0,hb],rfl⟩
 ·cases h
theorem qkk (hT:TabOk P T) {x i:Operand} {t ty d:Nat} {ps:String} {af:Array Edge} {g:Option (Nat × Bool)} {te:TE} {s:ByteArray} {kd:IntKind} {iv r:Int}
  (hr:∃ b,(if 0≤iv then s[iv.toNat]? else none)=some b∧(b.toNat:Int)=r) (hx:opv e x=some (.string s)) (hi:opv e i=some (.int kd iv)) (hte:T.get t=some te) (hk:te.kind=.str):Val P n e ⟨some d,.index t x i,ty,ps,af,g⟩ w (.int .u8 r):=by
 intro a ha
 obtain ⟨b,hb,rfl⟩:=hr
 have hu:=ql6 (hT _ _ hte) hk
 simp only [execOp,ha.eval hx,ha.eval hi,Instr.index,asIntOf,jl,jn,jh,run_underlying hu,hb]
def catB (a b:ByteArray):Option ByteArray:=if ((a.size+b.size:Nat):Int)≤IntKind.i64.max then some (a++b) else none
theorem qit {a b r:ByteArray} (h:catB a b=some r):((a.size+b.size:Nat):Int)≤IntKind.i64.max∧a++b=r:=by
 unfold catB at h
 split at h
 ·rename_i hh;exact ⟨hh,Option.some.inj h⟩
 ·cases h
theorem qon {x y:Operand} {t t' d ty:Nat} {ps:String} {af:Array Edge} {g:Option (Nat × Bool)} {a b:ByteArray}
  (h0:((a.size+b.size:Nat):Int)≤IntKind.i64.max) (hx:opv e x=some (.string a)) (hy:opv e y=some (.string b)):Val P n e ⟨some d,.binOp .add t x y t',ty,ps,af,g⟩ w (.string (a++b)):=by
 intro c hc
 have h1:¬ (((a.size+b.size:Nat):Int) > IntKind.i64.max):=by omega
 simp only [execOp,hc.eval hx,hc.eval hy,jl,qmn,jh,binOp,Op.stringOp,h1,if_false,jn]
end
end Go.Fw


namespace Go.Fw
open Go
open Go.RowKit (Below)
def guardU (e:Env) (all:Array Oper) (o:Oper):Bool :=
 match o.guard with
 | none=>false
 | some (j,_) =>
  match all[j]? with
  | none=>false
  | some p =>
   match p.dst with
   | none=>false
   | some t =>
    match e.get t with
    | some (.tuple _)=>true
    | _=>false
def notW (e:Env) (all:Array Oper) (o:Oper):Bool:=guardU e all o || (match guardOf e all o with|some false=>true|_=>false)
section
variable {P:Program} {T:Tab} {n:Nat} {Q:Exit→Act→World→Prop} {k:List It} {e:Env} {w0 w w' w1:World} {L:List Ch}
theorem qpf {all:Array Oper} {o:Oper} {a:Act} (ha:Agree n e a) (h:guardU e all o=true):Region.wanted o (yielded all a.tmps)=false:=by
 unfold guardU at h
 unfold Region.wanted
 split at h
 ·cases h
 ·rename_i j want hg
  rw [hg]
  simp only
  split at h
  ·cases h
  ·rename_i p hp
   split at h
   ·cases h
   ·rename_i t ht
    split at h
    ·rename_i c hc
     have h1:=ha.at_ t _ hc
     have hy:yielded all a.tmps j=none:=by simp [yielded,hp,ht,h1]
     rw [hy]
     rfl
    ·cases h
theorem ql8 {all:Array Oper} {o:Oper} {a:Act} (ha:Agree n e a) (h:notW e all o=true):Region.wanted o (yielded all a.tmps)=false:=by
 unfold notW at h
 rw [Bool.or_eq_true] at h
 rcases h with h|h
 ·exact qpf ha h
 ·split at h
  ·rename_i hg;exact qie ha hg
  ·cases h
theorem qtq {all:Array Oper} {o:Oper} {l:List Oper} {d:Nat} (h:notW e all o=true) (hd:o.dst=some d) (hn:Nat.blt d n=true)
  (hk:Run P n Q (.ops all l::k) ((d,undef)::e) w):Run P n Q (.ops all (o::l)::k) e w:=by
 intro a ha
 show wpList P all (post P Q k) (o::l) a w
 rw [wpList,if_neg (by rw [ql8 ha h];simp),hd]
 exact hk _ (ha.put hn undef)
theorem qts {all:Array Oper} {o:Oper} {l:List Oper} {d:Nat} (h:notW e all o=true) (hd:o.dst=some d) (hn:Nat.blt d n=true)
  (hk:RunD P n Q k all w l ((d,undef)::e)):RunD P n Q k all w (o::l) e:=by
 intro a ha
 rw [wpQuiet,if_neg (by rw [ql8 ha h];simp),hd]
 exact hk _ (ha.put hn undef)
theorem qci {fnc:Func} {R:Ending→World→Prop} {ops:Array Oper} {st:List Nat} {C:World→Prop} {fuel:Nat} {listed:Array Bool} (i:Nat) {o:Oper} {d:Nat}
  (hi:ops[i]?=some o) (hg:notW e ops o=true) (hd:o.dst=some d) (listed':Array Bool) (hl:listed.setIfInBounds i true=listed')
  (hb:(Region.noSelect ops&&Region.free .any ops listed i&&(Region.ready .any ops listed).contains i&&st.all (fun s=>!(Nat.beq s i)&&waitsB ops i s&&!(listed.getD s true)))=true)
  (hC:C w) (hn:Nat.blt d n=true)
  (hk:RunA P n (bodyPost P fnc R) k ops st C fuel listed' ((d,undef)::e) w):RunA P n (bodyPost P fnc R) k ops st C (fuel+1) listed e w:=by
 subst hl
 simp only [jg,Je,jO] at hb
 obtain ⟨⟨⟨h1,h2⟩,h3⟩,h4⟩:=hb
 intro a ha
 refine qjB hi (Region.noSelect_spec h1) (fun c a w h=>qlV c a w h) (fun s hs=>⟨fun h=>?_,(h4 s hs).1.2⟩) fuel listed a w (Region.free_spec hi h2) (by simpa using h3) (.inr ⟨ql8 ha hg,rfl⟩) (fun s hs=>(h4 s hs).2) hC (hk _ (by rw [hd];exact ha.put hn undef))
 have:=(h4 s hs).1.1
 rw [h,beqR] at this
 cases this
theorem qfr {α:Type} [GoT α] {S:Nat→Prop} {xs:List α} {p:Option Addr} {ln c i b q:Nat} {cs:List Value} (h:SH w0 w L) (m:Nat) (hi:L[m]?=some (Ch.hole S xs p ln c i cs)) (hp:p=some ⟨b,0,none⟩) (hq:q=0+i*GoT.k α):CellsAt w b q cs:=by
 obtain ⟨b',hp',hc,_⟩:=h.holeAt m hi
 rw [hp] at hp'
 simp only [Option.some.injEq,Addr.mk.injEq,and_true] at hp'
 subst hp' hq
 rw [Jj]
 exact hc
theorem qjV {α:Type} [GoT α] {S:Nat→Prop} {x:α} {cs:List Value} (h:SH w0 w (Ch.own S x cs::L)):∃ S',SH w0 w (Ch.own S' x cs::L):=⟨S,h⟩
theorem qos {α:Type} [GoT α] {S:Nat→Prop} {xs r:List α} {p:Option Addr} {c:Nat} {lo hi:Int} (f:SlR w S xs p c) (hx:subS xs lo hi=some r) :
  ∃ p1 k1,subP (GoT.k α) p c lo.toNat=p1∧c-lo.toNat=k1∧hi.toNat-lo.toNat=r.length∧0≤lo∧lo≤hi∧hi≤xs.length∧xs.length≤c:=by
 obtain ⟨h0,h1,h2,rfl⟩:=qlT hx
 exact ⟨_,_,rfl,rfl,(qs6 (by omega) (by omega)).symm,h0,h1,h2,f.1⟩
theorem qoH {α:Type} [GoT α] {S:Nat→Prop} {xs r:List α} {p p1:Option Addr} {c k1:Nat} {lo hi:Int} (f:SlR w S xs p c) (hx:subS xs lo hi=some r) (hp:subP (GoT.k α) p c lo.toNat=p1) (hk:c-lo.toNat=k1):SlR w S r p1 k1:=by
 obtain ⟨h0,h1,h2,rfl⟩:=qlT hx
 subst hp hk
 exact f.sub (by omega) (by omega)
theorem qoy {lo hi:Int} {m c ln:Nat} (g:0≤lo∧lo≤hi∧hi≤(m:Int)∧m≤c) (e:ln=m):0≤lo∧lo≤hi∧hi≤(ln:Int)∧ln≤c:=by subst e;exact g
theorem qdb (hT:TabOk P T) {x:Operand} {lo hi:Option Operand} {t ty d el:Nat} {ps:String} {af:Array Edge} {g:Option (Nat × Bool)} {te te':TE} {p p1:Option Addr} {c ln m k1 rl:Nat} {l h:Int}
  (hx:opv e x=some (.slice p ln c)) (hlo:optI e lo 0=some l) (hhi:optI e hi ln=some h) (hb:0≤l∧l≤h∧h≤ln∧ln≤c) (hp:subP m p c l.toNat=p1) (hk1:c-l.toNat=k1) (hl:h.toNat-l.toNat=rl)
  (hte:T.get t=some te) (hk:te.kind=.slice el) (hel:T.get el=some te') (hm:te'.size=m):Val P n e ⟨some d,.slice t x lo hi none,ty,ps,af,g⟩ w (.slice p1 rl k1):=by
 subst hp hk1 hl
 exact qs9 hT hx hlo hhi hb.1 hb.2.1 hb.2.2.1 hb.2.2.2 hte hk hel hm
def bitS (op:BinOp) (kd:IntKind) (x y:Int):Int :=
 let a:=BitVec.ofInt kd.bits x
 let b:=BitVec.ofInt kd.bits y
 match op with
 | .and=>kd.wrap (a &&& b).toNat
 | .or=>kd.wrap (a ||| b).toNat
 | .xor=>kd.wrap (a ^^^ b).toNat
 | _=>kd.wrap (a &&& ~~~b).toNat
def isBits:BinOp→Bool
 | .and=>true
 | .or=>true
 | .xor=>true
 | .andNot=>true
 | _=>false
theorem qtW {op:BinOp} {x y:Operand} {t t' d ty:Nat} {ps:String} {af:Array Edge} {g:Option (Nat × Bool)} {kd:IntKind} {a b:Int} (ho:isBits op=true) (hx:opv e x=some (.int kd a)) (hy:opv e y=some (.int kd b)) :
  Val P n e ⟨some d,.binOp op t x y t',ty,ps,af,g⟩ w (.int kd (bitS op kd a b)):=by
 intro c hc
 cases op<;>first|cases ho;done|(simp only [execOp,hc.eval hx,hc.eval hy,jl,qhZ,jh,binOp,Op.intBits,jn,bitS,ne_eq,not_true_eq_false,if_false])
def shrS (kd:IntKind) (a b:Int):Option Int:=if 0≤b then some (a.fdiv (2 ^ (min b.toNat kd.bits))) else none
theorem qq7 {kd:IntKind} {a b r:Int} (h:shrS kd a b=some r):0≤b∧a.fdiv (2 ^ (min b.toNat kd.bits))=r:=by
 unfold shrS at h
 split at h
 ·rename_i hh;exact ⟨hh,Option.some.inj h⟩
 ·cases h
theorem qt2 {x y:Operand} {t t' d ty:Nat} {ps:String} {af:Array Edge} {g:Option (Nat × Bool)} {kd kd':IntKind} {a b:Int}
  (h0:0≤b) (hx:opv e x=some (.int kd a)) (hy:opv e y=some (.int kd' b)):Val P n e ⟨some d,.binOp .shr t x y t',ty,ps,af,g⟩ w (.int kd (a.fdiv (2 ^ (min b.toNat kd.bits)))):=by
 intro c hc
 have h1:¬ b<0:=by omega
 simp only [execOp,hc.eval hx,hc.eval hy,jl,qhZ,jh,binOp,Op.shift,h1,if_false,jn]
theorem qnV {t m el:Nat} {x:TE} (h:probe P t=some x) (hk:x.kind=.arr m el):P.underlying t=some (.array m el):=by
 obtain ⟨d,hd,hx⟩:=qgp h
 rw [hk] at hx
 rw [hd]
 cases d<;>simp at hx
 rw [hx.1,hx.2]
theorem qto (hT:TabOk P T) {x i:Operand} {t ty d el m sz b o:Nat} {ps:String} {af:Array Edge} {g:Option (Nat × Bool)} {te te':TE} {kd:IntKind} {iv:Nat}
  (hx:opv e x=some (.pointer (some ⟨b,o,none⟩))) (hi:opv e i=some (.int kd (iv:Int))) (hlt:iv<m)
  (hte:T.get t=some te∧te.kind=.arr m el) (hel:T.get el=some te') (hm:te'.size=sz):Val P n e ⟨some d,.indexAddr t x i,ty,ps,af,g⟩ w (.pointer (some ⟨b,o+iv*sz,none⟩)):=by
 intro a ha
 subst hm
 have hu:=qnV (hT _ _ hte.1) hte.2
 have hs:=qfZ (hT _ _ hel) w
 have hlt':0≤(iv:Int)∧(iv:Int)<(m:Int):=⟨by omega,by omega⟩
 simp only [execOp,ha.eval hx,ha.eval hi,jl,Instr.indexAt,Instr.sureAddr,asIntOf,jn,jh,run_underlying hu]
 rw [if_pos hlt']
 simp only [jl,hs,jh,jn,qfQ,jC]
theorem qfB (hT:TabOk P T) {t d ty m el sz:Nat} {ps:String} {af:Array Edge} {g:Option (Nat × Bool)} {parts:Array (Nat × Operand)} {te te':TE} {zc:Array Value} (is:List Nat) (os:List Operand) {vs:List Value} {cs:List Value}
  (hparts:parts.toList=is.zip os) (_:is.length=os.length) (hvs:opvs e os=some vs) (hte:T.get t=some te) (hk:te.kind=.arr m el) (hz:te.zero=some (.agg zc)) (hel:T.get el=some te') (hm:te'.size=sz)
  (hf:fillS (fun i=>some (i*sz,sz)) zc.toList (is.zip vs)=some cs):Val P n e ⟨some d,.build t parts,ty,ps,af,g⟩ w (.agg cs.toArray):=by
 intro a ha
 subst hm
 have hev:parts.map (fun (x:Nat × Operand)=>(x.1,a.eval x.2))=(is.zip vs).toArray:=by
  apply Array.ext'
  rw [Array.toList_map,hparts]
  have:=qho ha hvs
  subst this
  simp only [List.zip_map_right]
  rfl
 have hpr:=hT _ _ hte
 obtain ⟨i,hi,_,_,hzi⟩:=qd7 hpr
 have hu:=qnV hpr hk
 have hs:=qfZ (hT _ _ hel) w
 have hfill:=qgu _ _ _ _ hf
 have hzz:i.zero=some (.agg zc):=hzi.trans hz
 have hfill':Instr.fill (fun i=>some (i*te'.size,te'.size)) zc (is.zip vs)=some cs.toArray:=by simpa using hfill
 simp only [execOp,hev,Instr.build,zeroValue,typeInfo,jl,run_program,jh,hi,jn,hzz,run_underlying hu,Value.cells,hs,hfill']
def strOf (xs:List (IntK .u8)):ByteArray:=(xs.map (·.val)).foldl (fun r n=>r.push (UInt8.ofNat n.toNat)) ByteArray.empty
theorem qrn {α:Type} [GoT α] {S:Nat→Prop} {xs:List α} {b o c:Nat} (g:α→Value) (h:SlR w S xs (some ⟨b,o,none⟩) c) (hk:GoT.k α=1) (hg:∀ (x:α) (cs:List Value) (w:World) (S:Nat→Prop),GoT.R w S x cs→cs=[g x]) :
  (loadCells ⟨b,o,none⟩ xs.length).run P w=.ok (xs.map g).toArray w:=by
 obtain ⟨h1,h2,h3⟩:=h
 have:=run_loadCells_list (P:=P) w ⟨b,o,none⟩ (xs.map g) (fun i u hi=>by
  rw [List.getElem?_map] at hi
  obtain ⟨x,hx,rfl⟩:=Option.map_eq_some_iff.1 hi
  rcases h3 with ⟨_,rfl⟩|⟨b',o',cur,T,fr,hp,hb,hgc,hc,he⟩
  ·simp at hx
  ·simp only [Option.some.injEq,Addr.mk.injEq,and_true] at hp
   obtain ⟨rfl,rfl⟩:=hp
   obtain ⟨cs,hr,hj⟩:=he i x hx
   have:=hj 0 (g x) (by rw [hg x cs w S hr];rfl)
   rw [hk,Nat.mul_one,Jc] at this
   rw [qfQ]
   simp [World.cell?,hgc,this])
 rw [jH] at this
 exact this
theorem qmK (hT:TabOk P T) {x:Operand} {s d' ty d el:Nat} {ps:String} {af:Array Edge} {g:Option (Nat × Bool)} {te te' te2:TE} {p:Option Addr} {ln c:Nat} {S:Nat→Prop} {xs:List (IntK .u8)}
  (f:SlR w S xs p c) (hl:ln=xs.length) (hx:opv e x=some (.slice p ln c)) (hs:T.get s=some te∧te.kind=.slice el) (hd:T.get d'=some te'∧te'.kind=.str) (hel:T.get el=some te2) (hk:te2.kind=.int .u8) :
  Val P n e ⟨some d,.convert s d' x,ty,ps,af,g⟩ w (.string (strOf xs)):=by
 intro a ha
 subst hl
 have hu:=qbR (hT _ _ hs.1) hs.2
 have hv:=ql6 (hT _ _ hd.1) hd.2
 have hw:=qlZ (hT _ _ hel) hk
 have hb:(Conv.bytesToString (.slice p xs.length c)).run P w=.ok (.string (strOf xs)) w:=by
  cases p with
  | none =>
   have:xs=[]:=qo6 f
   subst this
   simp [Conv.bytesToString,strOf]
  | some ad =>
   have hcase:=f.2.2
   rcases hcase with ⟨hp,rfl⟩|⟨b,o,cur,T',fr,hp,_⟩
   ·have:=run_bytesToString (P:=P) w ad 0 c [] (by simp [loadCells,loadCellsFrom])
    simpa [strOf] using this
   ·simp only [Option.some.injEq] at hp
    subst hp
    have:=run_bytesToString (P:=P) w ⟨b,o,none⟩ xs.length c (xs.map (·.val)) (by
     have:=qrn (P:=P) (fun x:IntK .u8=>.int .u8 x.val) f rfl (fun x cs w S h=>h)
     rw [this]
     simp [Function.comp_def])
    exact this
 simp only [execOp,ha.eval hx,convert,jl,run_underlying hu,run_underlying hv,jh,run_underlying hw,hb,jn]
end
end Go.Fw


namespace Go.Fw
open Go
open Go.RowKit (Below)
section
variable {P:Program} {T:Tab} {n:Nat} {Q:Exit→Act→World→Prop} {k:List It} {e:Env} {w0 w w' w1:World} {L:List Ch}
theorem qaf (hT:TabOk P T) {α:Type} [GoT α] [Flat α] {all:Array Oper} {l:List Oper} {d t ty el:Nat} {ps:String} {af:Array Edge} {x y:Operand} {S:Nat→Prop} {xs ys z:List α} {p p':Option Addr} {ln ln' c c':Nat} {te te':TE} {zv:Value} (i:Nat)
  (h:SH w0 w L) (hi:L[i]?=some (Ch.own S xs [.slice p ln c])) (hs:SlR w (Fw.old w) ys p' c') (hl':ln'=ys.length) (hx:opv e x=some (.slice p ln c)) (hy:opv e y=some (.slice p' ln' c'))
  (hte:T.get t=some te) (hk:te.kind=.slice el) (hel:T.get el=some te') (hz:te'.zero=some zv) (hzs:(cellsL zv).length=te'.size) (hsz:te'.size=GoT.k α)
  (hb:Nat.ble te'.bytes 65536=true) (hbig:xs.length+ys.length≤big) (hz':xs++ys=z) (hn:Nat.blt d n=true)
  (hkk:∀ w' p2 c2 S2,SH w0 w' (L.set i (Ch.own S2 z [.slice p2 z.length c2]))→Run P n Q (.ops all l::k) ((d,.slice p2 z.length c2)::e) w') :
  Run P n Q (.ops all (⟨some d,.call ⟨.builtin .append,#[x,y],#[t,t]⟩,ty,ps,af,none⟩::l)::k) e w:=by
 subst hz'
 rw [jj] at hkk
 exact qmo hT i h hi hs hl' hx hy hte hk hel hz hzs hsz hb hbig hn hkk
theorem qkV (hT:TabOk P T) {α:Type} [GoT α] {all:Array Oper} {l:List Oper} {d t ty el:Nat} {ps:String} {af:Array Edge} {x y:Operand} {S S1:Nat→Prop} {xs ys z:List α} {p p':Option Addr} {ln ln' c c':Nat} {te te':TE} {zv:Value}
  (h:SH w0 w (Ch.own S1 ys [.slice p' ln' c']::Ch.own S xs [.slice p ln c]::L)) (hx:opv e x=some (.slice p ln c)) (hy:opv e y=some (.slice p' ln' c'))
  (hte:T.get t=some te) (hk:te.kind=.slice el) (hel:T.get el=some te') (hz:te'.zero=some zv) (hzs:(cellsL zv).length=te'.size) (hsz:te'.size=GoT.k α)
  (hb:Nat.ble te'.bytes 65536=true) (hbig:xs.length+ys.length≤big) (hz':xs++ys=z) (hn:Nat.blt d n=true)
  (hkk:∀ w' p2 c2 S2,SH w0 w' (Ch.own S2 z [.slice p2 z.length c2]::L)→Run P n Q (.ops all l::k) ((d,.slice p2 z.length c2)::e) w') :
  Run P n Q (.ops all (⟨some d,.call ⟨.builtin .append,#[x,y],#[t,t]⟩,ty,ps,af,none⟩::l)::k) e w:=by
 subst hz'
 rw [jj] at hkk
 exact qtZ hT h hx hy hte hk hel hz hzs hsz hb hbig hn hkk
theorem qgC (hT:TabOk P T) (α:Type) [GoT α] {all:Array Oper} {l:List Oper} {d t ty el:Nat} {ps:String} {af:Array Edge} {te te':TE} {x y:Operand} {kd kd':IntKind} {nv:Int} {zv:Value} {z:List α}
  (h:SH w0 w L) (hx:opv e x=some (.int kd nv)) (hy:opv e y=some (.int kd' nv)) (hte:T.get t=some te) (hk:te.kind=.slice el) (hel:T.get el=some te') (hz:te'.zero=some zv) (hzc:cellsL zv=GoT.zc α) (hsz:te'.size=GoT.k α)
  (hb:Nat.ble te'.bytes 65536=true) (h0:0≤nv) (hbig:nv≤big) (hz':List.replicate nv.toNat (GoT.zero:α)=z) (hn:Nat.blt d n=true)
  (hkk:∀ w' S p,SH w0 w' (Ch.own S z [.slice p z.length z.length]::L)→Run P n Q (.ops all l::k) ((d,.slice p z.length z.length)::e) w') :
  Run P n Q (.ops all (⟨some d,.makeSlice t x y,ty,ps,af,none⟩::l)::k) e w:=by
 subst hz'
 rw [List.length_replicate] at hkk
 exact qtx hT α h hx hy hte hk hel hz hzc hsz hb h0 hbig hn hkk
theorem Up.boxP {A0 B B':Nat→Prop} {w00:World} {α:Type} [GoT α] {x:α} {ds:List Value} {b:Nat} {t:TypeId} (hg:Rg A0 w00 B w0) (i:Nat) (h:SH w0 w L) (hu:Up B w0 w B' w1) (hi:L[i]?=some (Ch.box b ds t)) (hr:GoT.R w (reg B w0 w) x ds) :
  GoT.R w1 B' (some x) [.pointer (some ⟨b,0,none⟩)] :=
 GoT.mono (GoT.loc (Rg.boxR i h hi hr) (fun a ha=>hu.below.block a (hg.regOld h a ha))) hu.sub
variable {A0 B:Nat→Prop} {w00:World} {α:Type} [GoT α] {x:α} {cs:List Value} {xs:List α} {p:Option Addr} {c:Nat} {fs:List Fct} {S:Nat→Prop}
theorem Rg.atB (hg:Rg A0 w00 B w0) (h:SH w0 w L):∀ b,B b→Fw.old w b:=fun b hb=>jy (hg.old b hb) h.below.size
theorem Rg.inBR (hg:Rg A0 w00 B w0) (h:SH w0 w L) (hr:GoT.R w0 B x cs):GoT.R w B x cs:=GoT.loc hr (fun b hb=>h.below.block b (hg.old b hb))
theorem Rg.inBS (hg:Rg A0 w00 B w0) (h:SH w0 w L) (hr:SlR w0 B xs p c):SlR w B xs p c:=hr.loc (fun b hb=>h.below.block b (hg.old b hb))
theorem qhI {ρ:Type} [GoRs ρ] [MonoRs ρ] (r:ρ) {all:Array Oper} {l:List Oper} {d ty:Nat} {ps:String} {af:Array Edge} {x:Operand} {args:Array Operand} {ats:Array TypeId} {f:FuncId} {fi ca:Array Value} {az vs:List Value}
  (hg:Rg A0 w00 B w0) (h:SH w0 w L) (hcall:qei P f) (hc:RetG P f vs w B r) (hx:opv e x=some (.func (.func f) fi ca)) (hargs:opvs e args.toList=some az) (hvs:fi.toList++az++ca.toList=vs) (hn:Nat.blt d n=true)
  (hk:∀ w1 us S,SH w0 w1 (Ch.grp B S []::L)→GoRs.Rs w1 (fun b=>S b∨B b) r us→Run P n Q (.ops all l::k) ((d,tup us)::e) w1) :
  Run P n Q (.ops all (⟨some d,.call ⟨.value x,args,ats⟩,ty,ps,af,none⟩::l)::k) e w :=
 qs0 r h hg.old hcall hc hx hargs hvs hn (fun w1 us _ h1 hr=>hk w1 us _ h1 (MonoRs.mono hr (fun _ hb=>hb.symm)))
theorem SH.grpAdd (i:Nat) (h:SH w0 w L) (hi:L[i]?=some (Ch.grp B S fs)) (hr:GoT.R w (fun b=>S b∨B b) x cs):SH w0 w (L.set i (Ch.grp B S (fct x cs::fs))) :=
 h.say hi (fun hp f hf=>by
  rcases List.mem_cons.1 hf with rfl|hf
  ·exact hr
  ·exact hp f hf) (fun _ h=>h) (h.elder (Ch.grp B S fs) (jw hi))
theorem SH.grpKeep (is:List Nat) (i:Nat) (h:SH w0 w L) (hi:L[i]?=some (Ch.grp B S fs)):SH w0 w (L.set i (Ch.grp B S (pickF fs is))) :=
 h.say hi (fun hp f hf=>hp f (qkP hf)) (fun _ h=>h) (h.elder (Ch.grp B S fs) (jw hi))
theorem Rg.grpR (i j:Nat) (h:SH w0 w L) (hi:L[i]?=some (Ch.grp B S fs)) (hj:fs[j]?=some (fct x cs)):GoT.R w (reg B w0 w) x cs:=h.regGrp i j hi hj
end
end Go.Fw


namespace Go.Fw
open Go
open Go.RowKit (Below)
section
variable {P:Program} {T:Tab} {n:Nat} {Q:Exit→Act→World→Prop} {k:List It} {e:Env} {w0 w w' w1:World} {L:List Ch}
theorem qmM {ops:Array Oper} {st:List Nat} {C:World→Prop} {fuel:Nat} {listed:Array Bool} (J:Env→World→Prop) (fuel':Nat) (listed':Array Bool)
  (h1:(∀ e w,J e w→RunA P n Q k ops st C fuel' listed' e w)→RunA P n Q k ops st C fuel listed e w) (h2:∀ e w,J e w→RunA P n Q k ops st C fuel' listed' e w):RunA P n Q k ops st C fuel listed e w:=h1 h2
theorem qmm {ops:Array Oper} {st:List Nat} {C:World→Prop} {fuel:Nat} {listed:Array Bool} (e':Env) (hs:subEnv e e') (h:RunA P n Q k ops st C fuel listed e' w):RunA P n Q k ops st C fuel listed e w :=
 fun a ha=>h a (ha.sub hs)
end
end Go.Fw


namespace Go.Fw
open Go
section
variable {α β:Type} {f g:Nat→Option α} {a b r s:α} {c:Bool}
theorem Ev.iff (h1:c=true→Ev f a) (h2:c=false→Ev g b):Ev (fun n=>bif c then f n else g n) (bif c then a else b):=by
 cases c
 ·exact h2 rfl
 ·exact h1 rfl
theorem Ev.bindB {f:Nat→Option β} {g:Nat→β→Option α} {u v:β} (h:Ev f (bif c then u else v)) (h1:c=true→Ev (fun n=>g n u) a) (h2:c=false→Ev (fun n=>g n v) b):Ev (fun n=>(f n).bind (g n)) (bif c then a else b):=by
 cases c
 ·exact Ev.bind h (h2 rfl)
 ·exact Ev.bind h (h1 rfl)
theorem Ev.cast (h:Ev f r) (e:r=s):Ev f s:=e ▸ h
theorem Ev.two (h1:c=true→Ev f a) (h2:c=false→Ev f b):Ev f (bif c then a else b):=by
 cases c
 ·exact h2 rfl
 ·exact h1 rfl
end
def allN (f:Nat→Bool) (n:Nat):Bool:=(List.range n).all f
theorem qay {f:Nat→Bool} {n:Nat}:allN f n=true↔∀ j,j<n→f j=true:=by simp [allN,Je]
theorem qjN {f:Nat→Bool} {n:Nat}:allN f n=false↔∃ j,j<n∧f j=false:=by
 rw [←Bool.not_eq_true,qay]
 constructor
 ·intro h
  exact Classical.byContradiction fun hn=>h (fun j hj=>by
   cases hf:f j with
   | true=>rfl
   | false=>exact absurd ⟨j,hj,hf⟩ hn)
 ·rintro ⟨j,hj,hf⟩ h
  rw [h j hj] at hf
  cases hf
theorem qgP {f g:Nat→Bool} {n:Nat} (h:∀ j,j<n→f j=g j):allN f n=allN g n:=by
 rw [jm,qay,qay]
 exact ⟨fun hf j hj=>h j hj ▸ hf j hj,fun hg j hj=>(h j hj).symm ▸ hg j hj⟩
theorem qiw {f g:Nat→Bool} {n:Nat}:allN (fun j=>f j&&g j) n=(allN f n&&allN g n):=by
 rw [jm,jg,qay,qay,qay]
 simp only [jg]
 exact ⟨fun h=>⟨fun j hj=>(h j hj).1,fun j hj=>(h j hj).2⟩,fun h j hj=>⟨h.1 j hj,h.2 j hj⟩⟩
theorem qoA {ρ σ:Type} {Lf:Nat→Int→Option (Flow ρ σ)} {len i0:Nat} {f:Nat→Bool} {bad:ρ} {fin:Flow ρ σ} (h0:i0≤len) (hend:Ev (fun n=>Lf n (len:Int)) fin)
  (hstep:∀ j,i0≤j→j<len→∀ X,Ev (fun n=>Lf n ((j+1:Nat):Int)) X→Ev (fun n=>Lf n (j:Int)) (bif f j then X else .ret bad)) :
  Ev (fun n=>Lf n (i0:Int)) (bif allN (fun j=>f (i0+j)) (len-i0) then fin else .ret bad):=by
 obtain ⟨m,rfl⟩:∃ m,len=i0+m:=⟨len-i0,by omega⟩
 rw [show i0+m-i0=m by omega]
 clear h0
 induction m generalizing i0 with
 | zero=>exact hend
 | succ m ih =>
  have h1:=@ih (i0+1) (by rw [show i0+1+m=i0+(m+1) by omega];exact hend) (fun j h2 h3 X hX=>hstep j (by omega) (by omega) X hX)
  refine (hstep i0 (jf _) (by omega) _ h1).cast ?_
  have:allN (fun j=>f (i0+j)) (m+1)=(f i0&&allN (fun j=>f (i0+1+j)) m):=by
   rw [jm,jg,qay,qay]
   constructor
   ·intro h
    exact ⟨by simpa using h 0 (by omega),fun j hj=>by have:=h (j+1) (by omega);rwa [show i0+(j+1)=i0+1+j by omega] at this⟩
   ·rintro ⟨h1,h2⟩ j hj
    cases j with
    | zero=>simpa using h1
    | succ j=>have:=h2 j (by omega);rwa [show i0+1+j=i0+(j+1) by omega] at this
  rw [this]
  cases f i0<;>rfl
theorem qee {ρ σ:Type} {Lf:Nat→Int→Option (Flow ρ σ)} {len:Nat} {f:Nat→Bool} {bad:ρ} {fin:Flow ρ σ} (hend:Ev (fun n=>Lf n (len:Int)) fin)
  (hstep:∀ j,j<len→∀ X,Ev (fun n=>Lf n ((j+1:Nat):Int)) X→Ev (fun n=>Lf n (j:Int)) (bif f j then X else .ret bad)) :
  Ev (fun n=>Lf n 0) (bif allN f len then fin else .ret bad):=by
 have:=qoA (i0:=0) (jz _) hend (fun j _ hj X hX=>hstep j hj X hX)
 simpa using this
theorem qfY {α:Type} {xs:List α} {j:Nat} {x:α} (h:xs[j]?=some x):idx xs (j:Int)=some x:=by
 unfold idx
 rw [if_pos (by omega),jC,h]
theorem qZ {α:Type} {xs:List α} {j:Nat} (h:j<xs.length):idx xs (j:Int)=some xs[j]:=qfY (ji h)
def inI (x lo hi:Int):Bool:=decide (lo≤x)&&decide (x≤hi)
theorem qbT {x lo hi:Int}:inI x lo hi=true↔lo≤x∧x≤hi:=by simp [inI]
theorem qrf {x lo hi:Int}:inI x lo hi=false↔¬ (lo≤x∧x≤hi):=by rw [←qbT,Bool.not_eq_true]
def at0 (xs:List Int) (j:Nat):Int:=xs.getD j 0
theorem qpP {xs:List Int} {j:Nat} (h:j<xs.length):at0 xs j=xs[j]:=by simp [at0,h]
theorem qaN {xs:List Int} {j:Nat} (h:j<xs.length):idx xs (j:Int)=some (at0 xs j):=by rw [qZ h,qpP h]
theorem qaQ {α:Type} {c:Bool} {x y:α}:(bif !c then x else y)=bif c then y else x:=by cases c<;>rfl
theorem qlH {c d:Bool}:(bif c then d else false)=(c&&d):=by cases c<;>rfl
end Go.Fw


namespace Go.Fw
open Go
theorem qth {α:Type} {a:List α} {wt:α→Nat} {Lf:Nat→Int→Int→Option (Flow Int (Int × Int))} {el:Nat→α→Int→Option Int}
  (hel:∀ x,x ∈ a→∀ left:Int,0≤left→left≤1048576→Sz (fun n=>el n x left) (fun r=>r=left-(wt x:Int)))
  (hend:∀ (acc:Int) n,Lf (n+1) acc (a.length:Int)=some (.nxt (acc,(a.length:Int))))
  (hstep:∀ (acc:Int) (n j:Nat) (x:α),a[j]?=some x→Lf (n+1) acc (j:Int)=(el n x acc).bind fun r=>bif decide (r<0) then some (.ret (-1)) else Lf n r ((j+1:Nat):Int)) :
  ∀ left:Int,0≤left→left≤1048576→∃ o,Ev (fun n=>Lf n left 0) o∧(o=.ret (-1)∨∃ r:Int,0≤r∧r=left-((a.map wt).sum:Nat)∧o=.nxt (r,(a.length:Int))):=by
 have main:∀ k j,j+k=a.length→∀ left:Int,0≤left→left≤1048576→∃ o,Ev (fun n=>Lf n left (j:Int)) o∧(o=.ret (-1)∨∃ r:Int,0≤r∧r=left-(((a.drop j).map wt).sum:Nat)∧o=.nxt (r,(a.length:Int))):=by
  intro k
  induction k with
  | zero =>
   intro j hj left h0 h1
   obtain rfl:j=a.length:=by omega
   exact ⟨_,Ev.step (hend left) .done,.inr ⟨left,h0,by simp,rfl⟩⟩
  | succ k ih =>
   intro j hj left h0 h1
   have hlt:j<a.length:=by omega
   have hx:a[j]?=some a[j]:=ji hlt
   obtain ⟨r,hr,hq⟩:=hel a[j] (jp hlt) left h0 h1
   have hd:a.drop j=a[j]::a.drop (j+1):=jE hlt
   by_cases hn:r<0
   ·exact ⟨.ret (-1),Ev.step (fun n=>hstep left n j a[j] hx) (Ev.bind hr (Ev.tt (by simpa using hn) .done)),.inl rfl⟩
   ·rcases hq with hq|⟨hq0,hq⟩
    ·exact absurd hq hn
    ·obtain ⟨o,ho,hc⟩:=ih (j+1) (by omega) r hq0 (by omega)
     refine ⟨o,Ev.step (fun n=>hstep left n j a[j] hx) (Ev.bind hr (Ev.ff (by simpa using hn) ho)),hc.imp id ?_⟩
     rintro ⟨r',h2,h3,h4⟩
     refine ⟨r',h2,?_,h4⟩
     rw [hd,Jb,List.sum_cons,h3,hq]
     omega
 intro left h0 h1
 have:=main a.length 0 (by omega) left h0 h1
 simpa using this
theorem Sz.list {α:Type} {a:List α} {wt:α→Nat} {Lf:Nat→Int→Int→Option (Flow Int (Int × Int))} {el:Nat→α→Int→Option Int} {left:Int} (h0:0≤left) (h1:left≤1048576) (hl:a.length≤9223372036854775807)
  (hel:∀ x,x ∈ a→∀ left:Int,0≤left→left≤1048576→Sz (fun n=>el n x left) (fun r=>r=left-(wt x:Int)))
  (hend:∀ (acc:Int) n,Lf (n+1) acc (a.length:Int)=some (.nxt (acc,(a.length:Int))))
  (hstep:∀ (acc:Int) (n j:Nat) (x:α),a[j]?=some x→Lf (n+1) acc (j:Int)=(el n x acc).bind fun r=>bif decide (r<0) then some (.ret (-1)) else Lf n r ((j+1:Nat):Int))
  {F:Nat→Option Int} (hF:∀ n,F n=bif decide (W64 (left-(a.length:Int))<0) then some (-1) else (Lf n (W64 (left-(a.length:Int))) 0).bind fun o=>match o with|.ret r=>some r|.nxt (i1,_)=>some i1) :
  Sz F (fun r=>r=left-((a.length+(a.map wt).sum:Nat):Int)):=by
 have hw:W64 (left-(a.length:Int))=left-(a.length:Int):=qaz (by omega) (by omega)
 by_cases hn:left-(a.length:Int)<0
 ·exact ⟨-1,Ev.congr hF (Ev.tt (by rw [hw];simpa using hn) .done),.inl (by decide)⟩
 ·obtain ⟨o,ho,hc⟩:=qth hel hend hstep (left-(a.length:Int)) (by omega) (by omega)
  rcases hc with rfl|⟨r,hr0,hr,rfl⟩
  ·refine ⟨-1,Ev.congr hF (Ev.ff (by rw [hw];simpa using hn) ?_),.inl (by decide)⟩
   rw [hw]
   exact Ev.bind ho .done
  ·refine ⟨r,Ev.congr hF (Ev.ff (by rw [hw];simpa using hn) ?_),.inr ⟨hr0,by omega⟩⟩
   rw [hw]
   exact Ev.bind ho .done
theorem Sz.str {s:ByteArray} {left:Int} (h:s.size≤9223372036854775807) (h0:0≤left) (h1:left≤1048576):Sz (fun _=>some (W64 (left-(s.size:Int)))) (fun r=>r=left-(s.size:Int)):=by
 rw [qaz (by omega) (by omega)]
 refine ⟨_,.done,?_⟩
 by_cases hn:left-(s.size:Int)<0
 ·exact .inl hn
 ·exact .inr ⟨by omega,rfl⟩
def okI (x:Int):Prop:=-9223372036854775808≤x∧x≤9223372036854775807
def okS (s:ByteArray):Prop:=s.size≤1048576
def okL {α:Type} (ok:α→Prop) (xs:List α):Prop:=xs.length≤1048576∧∀ x,x ∈ xs→ok x
def okT (_:Bool):Prop:=True
theorem okL.len {α:Type} {ok:α→Prop} {xs:List α} (h:okL ok xs):xs.length≤1048576:=h.1
theorem okL.get {α:Type} {ok:α→Prop} {xs:List α} (h:okL ok xs) {j:Nat} {x:α} (hx:xs[j]?=some x):ok x:=h.2 x (jw hx)
theorem okL.at {α:Type} {ok:α→Prop} {xs:List α} (h:okL ok xs) {j:Nat} (hj:j<xs.length):ok xs[j]:=h.2 _ (jp hj)
end Go.Fw


namespace Go.Fw
open Go
open Go.RowKit (Below)
section
variable {P:Program} {T:Tab} {n:Nat} {Q:Exit→Act→World→Prop} {k:List It} {e:Env} {w0 w w':World} {L:List Ch} {J:World→Prop}
end
end Go.Fw


namespace Go.Fw
open Go
theorem qkc {α:Type} {c:Bool} {x y:α}:(bif c then some x else some y)=some (bif c then x else y):=by cases c<;>rfl
def ixL {α:Type} (p:α→Bool) (xs:List α):Int:=match xs.findIdx? p with|some j=>(j:Int)|none=>-1
theorem qh4 {α:Type} {p:α→Bool} {xs:List α}:decide (ixL p xs ≥ 0)=xs.any p:=by
 unfold ixL
 cases h:xs.findIdx? p with
 | some j =>
  have:=List.findIdx?_eq_some_iff_getElem.1 h
  obtain ⟨hj,hp,_⟩:=this
  have h2:xs.any p=true:=List.any_eq_true.2 ⟨_,jp hj,hp⟩
  rw [h2];simp
 | none =>
  have:=List.findIdx?_eq_none_iff.1 h
  have h2:xs.any p=false:=by rw [List.any_eq_false];intro x hx;simp [this x hx]
  rw [h2];rfl
theorem qrd {α σ:Type} {xs:List α} {p:α→Bool} {Lf:Nat→Int→Option (Flow Int σ)} {pf:Nat→α→Option Bool} {fin:σ} (hp:∀ x,x ∈ xs→Ev (fun n=>pf n x) (p x))
  (hend:∀ n,Lf (n+1) (xs.length:Int)=some (.nxt fin))
  (hstep:∀ (n j:Nat) (x:α),xs[j]?=some x→Lf (n+1) (j:Int)=(pf n x).bind fun r=>bif r then some (.ret (j:Int)) else Lf n ((j+1:Nat):Int)) :
  Ev (fun n=>Lf n 0) (match xs.findIdx? p with|some j=>.ret (j:Int)|none=>.nxt fin):=by
 have main:∀ k j,j+k=xs.length→Ev (fun n=>Lf n (j:Int)) (match (xs.drop j).findIdx? p with|some i=>.ret ((j+i:Nat):Int)|none=>.nxt fin):=by
  intro k
  induction k with
  | zero =>
   intro j hj
   obtain rfl:j=xs.length:=by omega
   rw [Jd (jf _)]
   exact Ev.step hend .done
  | succ k ih =>
   intro j hj
   have hlt:j<xs.length:=by omega
   have hd:xs.drop j=xs[j]::xs.drop (j+1):=jE hlt
   refine Ev.step (fun n=>hstep n j _ (ji hlt)) (Ev.bind (hp _ (jp hlt)) ?_)
   rw [hd,List.findIdx?_cons]
   cases hc:p xs[j] with
   | true=>exact Ev.tt rfl .done
   | false =>
    refine Ev.ff rfl ((ih (j+1) (by omega)).cast ?_)
    cases (xs.drop (j+1)).findIdx? p with
    | none=>rfl
    | some i=>simp only [Bool.false_eq_true,if_false,jW];congr 2;omega
 have:=main xs.length 0 (by omega)
 simp only [List.drop_zero,Jj] at this
 exact this
theorem qdA {α σ:Type} {xs:List α} {p:α→Bool} {Lf:Nat→Int→Option (Flow Int σ)} {pf:Nat→α→Option Bool} {fin:σ} (hp:∀ x,x ∈ xs→Ev (fun n=>pf n x) (p x))
  (hend:∀ n,Lf (n+1) (xs.length:Int)=some (.nxt fin))
  (hstep:∀ (n j:Nat) (x:α),xs[j]?=some x→Lf (n+1) (j:Int)=(pf n x).bind fun r=>bif r then some (.ret (j:Int)) else Lf n ((j+1:Nat):Int))
  {F:Nat→Option Int} (hF:∀ n,F n=(Lf n 0).bind fun o=>match o with|.ret r=>some r|.nxt _=>some (-1)):Ev F (ixL p xs):=by
 refine Ev.congr hF (Ev.bind (qrd hp hend hstep) ?_)
 unfold ixL
 cases xs.findIdx? p<;>exact .done
theorem qpu {α:Type} {p:α→Bool} {xs:List α} {d:α}:xs.any p = !allN (fun j=>!p (xs.getD j d)) xs.length:=by
 rw [jm,List.any_eq_true,jO,qjN]
 constructor
 ·rintro ⟨x,hx,hp⟩
  obtain ⟨j,hj,rfl⟩:=jM hx
  exact ⟨j,hj,by simp [hj,hp]⟩
 ·rintro ⟨j,hj,hp⟩
  exact ⟨xs[j],jp hj,by simpa [hj] using hp⟩
theorem qgx {α:Type} {p:α→Bool} {xs:List α} {d:α}:xs.all p=allN (fun j=>p (xs.getD j d)) xs.length:=by
 rw [jm,Je,qay]
 constructor
 ·intro h j hj
  simpa [hj] using h xs[j] (jp hj)
 ·intro h x hx
  obtain ⟨j,hj,rfl⟩:=jM hx
  simpa [hj] using h j hj
theorem qlI {α:Type} {p:α→Bool} {xs:List α}:(!xs.any fun x=>!p x)=xs.all p:=by
 rw [jm];simp [Je]
theorem qjh {α ρ σ:Type} {xs:List α} {p:α→Bool} {Lf:Nat→Int→Option (Flow ρ σ)} {bad:ρ} {fin:σ}
  (hend:∀ n,Lf (n+1) (xs.length:Int)=some (.nxt fin))
  (hstep:∀ j,∀ h:j<xs.length,∀ X,Ev (fun n=>Lf n ((j+1:Nat):Int)) X→Ev (fun n=>Lf (n+1) (j:Int)) (bif p xs[j] then X else .ret bad)) :
  Ev (fun n=>Lf n 0) (bif xs.all p then .nxt fin else .ret bad):=by
 have main:∀ k j,j+k=xs.length→Ev (fun n=>Lf n (j:Int)) (bif (xs.drop j).all p then .nxt fin else .ret bad):=by
  intro k
  induction k with
  | zero =>
   intro j hj
   obtain rfl:j=xs.length:=by omega
   rw [Jd (jf _)]
   exact Ev.step hend .done
  | succ k ih =>
   intro j hj
   have hlt:j<xs.length:=by omega
   have hd:xs.drop j=xs[j]::xs.drop (j+1):=jE hlt
   refine (Ev.succ (hstep j hlt _ (ih (j+1) (by omega)))).cast ?_
   rw [hd,List.all_cons]
   cases p xs[j]<;>rfl
 have:=main xs.length 0 (by omega)
 simpa using this
theorem qmh {α ρ τ:Type} {xs:List α} {Lf:Nat→τ→Int→Option ρ} {step:τ→α→τ} {fin:τ→ρ} (i0:Nat) (t0:τ) (Inv:Nat→τ→Prop) (hi0:i0≤xs.length) (h0:Inv i0 t0)
  (hinv:∀ j t,∀ h:j<xs.length,Inv j t→Inv (j+1) (step t xs[j]))
  (hend:∀ n t,Lf (n+1) t (xs.length:Int)=some (fin t))
  (hstep:∀ j t,∀ h:j<xs.length,Inv j t→∀ X,Ev (fun n=>Lf n (step t xs[j]) ((j+1:Nat):Int)) X→Ev (fun n=>Lf (n+1) t (j:Int)) X) :
  Ev (fun n=>Lf n t0 (i0:Int)) (fin ((xs.drop i0).foldl step t0))∧Inv xs.length ((xs.drop i0).foldl step t0):=by
 have main:∀ k j t,j+k=xs.length→Inv j t→Ev (fun n=>Lf n t (j:Int)) (fin ((xs.drop j).foldl step t))∧Inv xs.length ((xs.drop j).foldl step t):=by
  intro k
  induction k with
  | zero =>
   intro j t hj hi
   obtain rfl:j=xs.length:=by omega
   rw [Jd (jf _)]
   exact ⟨Ev.step (fun n=>hend n t) .done,hi⟩
  | succ k ih =>
   intro j t hj hi
   have hlt:j<xs.length:=by omega
   have hd:xs.drop j=xs[j]::xs.drop (j+1):=jE hlt
   obtain ⟨h1,h2⟩:=ih (j+1) (step t xs[j]) (by omega) (hinv j t hlt hi)
   rw [hd,List.foldl_cons]
   exact ⟨Ev.succ (hstep j t hlt hi _ h1),h2⟩
 exact main (xs.length-i0) i0 t0 (by omega) h0
theorem qrA {α ρ τ:Type} {xs:List α} {Lf:Nat→τ→Int→Option ρ} {step:τ→α→τ} {fin:τ→ρ} (t0:τ) (Inv:Nat→τ→Prop) (h0:Inv 0 t0)
  (hinv:∀ j t,∀ h:j<xs.length,Inv j t→Inv (j+1) (step t xs[j]))
  (hend:∀ n t,Lf (n+1) t (xs.length:Int)=some (fin t))
  (hstep:∀ j t,∀ h:j<xs.length,Inv j t→∀ X,Ev (fun n=>Lf n (step t xs[j]) ((j+1:Nat):Int)) X→Ev (fun n=>Lf (n+1) t (j:Int)) X) :
  Ev (fun n=>Lf n t0 0) (fin (xs.foldl step t0))∧Inv xs.length (xs.foldl step t0):=by
 have:=qmh (i0:=0) t0 Inv (jz _) h0 hinv hend hstep
 simpa using this
theorem qbL {α:Type} {xs ys:List α} (h:xs.length+ys.length≤2147483648):appS xs ys=some (xs++ys):=by
 unfold appS big;rw [if_pos h]
end Go.Fw


namespace Go.Fw
open Go
section
variable {α β:Type} {f g:Nat→Option Bool} {a b:Bool} {k:Nat→Option α} {X B:α}
theorem Ev.and (h1:Ev f a) (h2:a=true→Ev g b):Ev (fun n=>(f n).bind fun r=>bif r then g n else some false) (a&&b):=by
 refine Ev.bind h1 ?_
 cases a
 ·exact .done
 ·exact Ev.tt rfl (h2 rfl)
theorem Ev.andP (h2:a=true→Ev g b):Ev (fun n=>bif a then g n else some false) (a&&b):=by
 cases a
 ·exact .done
 ·exact Ev.tt rfl (h2 rfl)
theorem Ev.last (h1:Ev f a):Ev (fun n=>(f n).bind fun r=>some r) a:=Ev.bind h1 .done
theorem Ev.neg (h1:Ev f a):Ev (fun n=>(f n).bind fun r=>some (!r)) (!a):=Ev.bind h1 .done
theorem Ev.or (h1:Ev f a) (h2:a=true→Ev g (!b)):Ev (fun n=>(f n).bind fun r=>bif (!r) then some true else g n) (!(a&&b)):=by
 refine Ev.bind h1 ?_
 cases a
 ·exact .done
 ·exact Ev.ff rfl (h2 rfl)
theorem Ev.guard {c:α} (h1:Ev f (!a)) (h2:a=true→Ev k (bif b then X else c)):Ev (fun n=>(f n).bind fun r=>bif r then some c else k n) (bif a&&b then X else c):=by
 refine Ev.bind h1 ?_
 cases a
 ·exact .done
 ·exact Ev.ff rfl (h2 rfl)
theorem Ev.guardB (h1:Ev f (!a)) (h2:a=true→Ev g b):Ev (fun n=>(f n).bind fun r=>bif r then some false else g n) (a&&b):=by
 refine Ev.bind h1 ?_
 cases a
 ·exact .done
 ·exact Ev.ff rfl (h2 rfl)
theorem Ev.chk (h1:Ev f a) (h2:a=true→Ev k (bif b then X else B)):Ev (fun n=>(f n).bind fun r=>bif (!r) then some B else k n) (bif a&&b then X else B):=by
 refine Ev.bind h1 ?_
 cases a
 ·exact .done
 ·exact Ev.ff rfl (h2 rfl)
theorem Ev.chkT (h1:Ev f (!a)) (h2:a=true→Ev k (bif b then X else B)):Ev (fun n=>(f n).bind fun r=>bif r then some B else k n) (bif a&&b then X else B):=Ev.guard h1 h2
theorem Ev.chkT1 (h1:Ev f (!a)) (h2:a=true→Ev k X):Ev (fun n=>(f n).bind fun r=>bif r then some B else k n) (bif a then X else B):=by
 refine Ev.bind h1 ?_
 cases a
 ·exact .done
 ·exact Ev.ff rfl (h2 rfl)
theorem Ev.chk1 (h1:Ev f a) (h2:a=true→Ev k X):Ev (fun n=>(f n).bind fun r=>bif (!r) then some B else k n) (bif a then X else B):=by
 refine Ev.bind h1 ?_
 cases a
 ·exact .done
 ·exact Ev.ff rfl (h2 rfl)
theorem Ev.chkP1 (h2:a=false→Ev k X):Ev (fun n=>bif a then some B else k n) (bif !a then X else B):=by
 cases a
 ·exact Ev.ff rfl (h2 rfl)
 ·exact .done
theorem Ev.ok (h1:Ev f a) (h2:a=true→Ev k (bif b then X else B)):Ev (fun n=>(f n).bind fun r=>bif r then k n else some B) (bif a&&b then X else B):=by
 refine Ev.bind h1 ?_
 cases a
 ·exact .done
 ·exact Ev.tt rfl (h2 rfl)
theorem Ev.ok1 (h1:Ev f a) (h2:a=true→Ev k X):Ev (fun n=>(f n).bind fun r=>bif r then k n else some B) (bif a then X else B):=by
 refine Ev.bind h1 ?_
 cases a
 ·exact .done
 ·exact Ev.tt rfl (h2 rfl)
theorem Ev.okP (h2:a=true→Ev k (bif b then X else B)):Ev (fun n=>bif a then k n else some B) (bif a&&b then X else B):=by
 cases a
 ·exact .done
 ·exact Ev.tt rfl (h2 rfl)
theorem Ev.okP1 (h2:a=true→Ev k X):Ev (fun n=>bif a then k n else some B) (bif a then X else B):=by
 cases a
 ·exact .done
 ·exact Ev.tt rfl (h2 rfl)
theorem Ev.orB (h1:Ev f a) (h2:a=true→Ev g (!b)):Ev (fun n=>(f n).bind fun r=>bif r then g n else some true) (!(a&&b)):=by
 refine Ev.bind h1 ?_
 cases a
 ·exact .done
 ·exact Ev.tt rfl (h2 rfl)
theorem Ev.orBP (h2:a=true→Ev g (!b)):Ev (fun n=>bif a then g n else some true) (!(a&&b)):=by
 cases a
 ·exact .done
 ·exact Ev.tt rfl (h2 rfl)
end
def gt {α:Type} [Inhabited α] (xs:List α) (j:Nat):α:=xs.getD j default
theorem qhS {α:Type} [Inhabited α] {xs:List α} {j:Nat} (h:j<xs.length):gt xs j=xs[j]:=by simp [gt,h]
theorem qaa {α:Type} [Inhabited α] {xs:List α} {j:Nat} (h:j<xs.length):idx xs (j:Int)=some (gt xs j):=by rw [qZ h,qhS h]
theorem qhm {α:Type} [Inhabited α] {ok:α→Prop} {xs:List α} (h:okL ok xs) {j:Nat} (hj:j<xs.length):ok (gt xs j):=by rw [qhS hj];exact h.at hj
theorem qta {α:Type} [Inhabited α] {xs:List α} {j i:Nat} (h:i<j):gt (xs.take j) i=gt xs i:=by simp [gt,jK,h]
theorem qhr {α:Type} [Inhabited α] {p:α→Bool} {xs:List α}:xs.all p=allN (fun j=>p (gt xs j)) xs.length:=qgx
theorem qsq {α:Type} [Inhabited α] {p:α→Bool} {xs:List α}:xs.any p = !allN (fun j=>!p (gt xs j)) xs.length:=qpu
theorem qrG {α:Type} [Inhabited α] {p:α→Bool} {xs:List α} {j:Nat} (h:j≤xs.length):(xs.take j).any p = !allN (fun i=>!p (gt xs i)) j:=by
 rw [qsq,jZ,Nat.min_eq_left h]
 congr 1
 exact qgP (fun i hi=>by rw [qta hi])
theorem qfu {α β:Type} [Inhabited α] {xs:List α} {g:α→β} {j:Nat} (h:j<xs.length):(xs.take j).map g++[g (gt xs j)]=(xs.take (j+1)).map g:=by
 rw [qhS h,jr h,jX,Jb,List.map_nil]
theorem qtg {j m:Nat} (_:j<m):((j:Int)==W64 ((m:Int)-1))=decide (j+1=m)∨9223372036854775807<m:=by
 by_cases hm:m≤9223372036854775807
 ·refine .inl ?_
  rw [qaz (by omega) (by omega),jm]
  simp
  omega
 ·exact .inr (by omega)
theorem loopN {ρ σ τ:Type} {Lf:Nat→τ→Int→Option (Flow ρ σ)} (S:Nat→τ) (p:Nat→Bool) {len:Nat} {bad:ρ} {fin:σ}
  (hend:∀ n,Lf (n+1) (S len) (len:Int)=some (.nxt fin))
  (hstep:∀ j,j<len→(∀ i,i<j→p i=true)→∀ X,(p j=true→Ev (fun n=>Lf n (S (j+1)) ((j+1:Nat):Int)) X)→Ev (fun n=>Lf (n+1) (S j) (j:Int)) (bif p j then X else .ret bad)) :
  Ev (fun n=>Lf n (S 0) 0) (bif allN p len then .nxt fin else .ret bad):=by
 have main:∀ k j,j+k=len→(∀ i,i<j→p i=true)→Ev (fun n=>Lf n (S j) (j:Int)) (bif allN p len then .nxt fin else .ret bad):=by
  intro k
  induction k with
  | zero =>
   intro j hj hp
   obtain rfl:j=len:=by omega
   rw [show allN p j=true from qay.2 hp]
   exact Ev.step hend .done
  | succ k ih =>
   intro j hj hp
   refine (Ev.succ (hstep j (by omega) hp _ (fun hc=>ih (j+1) (by omega) (fun i hi=>by
    rcases Nat.lt_succ_iff_lt_or_eq.1 hi with h|rfl
    ·exact hp i h
    ·exact hc)))).cast ?_
   cases hc:p j with
   | true=>rfl
   | false =>
    rw [show allN p len=false from qjN.2 ⟨j,by omega,hc⟩]
    rfl
 have:=main len 0 (by omega) (fun i hi=>absurd hi (Nat.not_lt_zero _))
 exact this
theorem loopF {ρ τ:Type} {Lf:Nat→τ→Int→Option ρ} (S:Nat→τ) {len:Nat} {fin:ρ}
  (hend:∀ n,Lf (n+1) (S len) (len:Int)=some fin)
  (hstep:∀ j,j<len→∀ X,Ev (fun n=>Lf n (S (j+1)) ((j+1:Nat):Int)) X→Ev (fun n=>Lf (n+1) (S j) (j:Int)) X) :
  Ev (fun n=>Lf n (S 0) 0) fin :=
 down (P:=fun j=>Ev (fun n=>Lf n (S j) (j:Int)) fin) len (Ev.step hend .done) (fun j hj ih=>Ev.succ (hstep j hj _ ih))
def cntP (q:Nat→Bool):Nat→Nat
 | 0=>0
 | n+1=>cntP q n+(bif q n then 1 else 0)
theorem qeG {q:Nat→Bool} {n:Nat}:cntP q n≤n:=by
 induction n with
 | zero=>exact jf _
 | succ n ih=>unfold cntP;cases q n<;>simp only [cond_true,cond_false]<;>omega
theorem qqn {q r:Nat→Bool} {n:Nat} (h:∀ j,j<n→q j=r j):cntP q n=cntP r n:=by
 induction n with
 | zero=>rfl
 | succ n ih=>unfold cntP;rw [ih (fun j hj=>h j (by omega)),h n (by omega)]
theorem qkR {q:Nat→Bool} {n:Nat}:cntP q n=0↔∀ j,j<n→q j=false:=by
 induction n with
 | zero=>simp [cntP]
 | succ n ih =>
  unfold cntP
  constructor
  ·intro h j hj
   have h1:cntP q n=0:=by omega
   rcases Nat.lt_succ_iff_lt_or_eq.1 hj with h2|rfl
   ·exact ih.1 h1 j h2
   ·cases hq:q j with
    | false=>rfl
    | true=>rw [hq] at h;simp at h
  ·intro h
   rw [ih.2 (fun j hj=>h j (by omega)),h n (by omega)]
   rfl
theorem qpk {q:Nat→Bool} {n:Nat}:decide (0<cntP q n) = !allN (fun j=>!q j) n:=by
 rw [jm,decide_eq_true_iff,jO,qjN,Nat.pos_iff_ne_zero,Ne,qkR]
 simp
def vecC (c:Nat→Nat) (m:Nat):List Int:=(List.range m).map fun k=>(c k:Int)
theorem qkw {c:Nat→Nat} {m:Nat}:(vecC c m).length=m:=by simp [vecC]
theorem qpa {c:Nat→Nat} {m k:Nat} (h:k<m):at0 (vecC c m) k=(c k:Int):=by simp [at0,vecC,h]
theorem qiD {c:Nat→Nat} {m k:Nat} (h:k<m):idx (vecC c m) (k:Int)=some (c k:Int):=by rw [qaN (by rw [qkw];exact h),qpa h]
theorem qiy {c d:Nat→Nat} {m:Nat} (h:∀ k,k<m→c k=d k):vecC c m=vecC d m:=by
 unfold vecC
 refine List.map_congr_left (fun k hk=>?_)
 rw [h k (List.mem_range.1 hk)]
theorem qkT {m:Nat} (h:m≤2147483648):mkS (m:Int) (0:Int)=some (vecC (fun _=>0) m):=by
 unfold mkS big
 rw [if_pos ⟨by omega,by omega⟩]
 congr 1
 refine Jh (by simp [vecC]) (fun k h1 h2=>?_)
 simp [vecC]
theorem qog {c:Nat→Nat} {m k:Nat} (hc:c k<9223372036854775807):setS (vecC c m) (k:Int) (W64 ((c k:Int)+1))=vecC (fun i=>c i+(bif decide (k=i) then 1 else 0)) m:=by
 rw [qix hc]
 unfold setS
 refine Jh (by simp [vecC]) (fun i h1 h2=>?_)
 rw [List.getElem_set]
 show (if k=i then _ else _)=_
 by_cases hk:k=i
 ·subst hk;simp [vecC]
 ·simp [vecC,hk]
theorem qlf {x:Int} (h:0≤x):x=(x.toNat:Int):=by omega
theorem qq8 {α:Type} {xs:List α} {j:Nat} (h:j≤xs.length):subS xs 0 (j:Int)=some (xs.take j):=by
 unfold subS
 rw [if_pos ⟨by omega,by omega,by omega⟩]
 simp
theorem qbc {m:Nat} (h:m≤9223372036854775807):W64 ((m:Int)-1)=(m:Int)-1:=qaz (by omega) (by omega)
end Go.Fw


namespace Go.Fw
open Go
open Go.ChangeShapes Go.WideShapes Go.ChangeAt Go.RowKit
theorem qoP {P:Program} {w:World} {r:Reach} {b:Nat} {t e:TypeId} {cs:Array Value} (ht:P.underlying t=some (.slice e)):¬ Value.okWide P w r b t (.agg cs):=by
 intro h
 unfold Value.okWide at h
 rw [ht] at h
 simp [Cell.okWide,Cell.ok,ht] at h
theorem qrx {P:Program} {H:Type} {enc:TypeId × Value→H} {W:World} {t:TypeId} {v:Value} {d:DataW H} {p:List MemPlace} {α:Type} [A:GoT α] {ρ:α→Prop} (ho:Opens P t A ρ) (hag:A.agg=false) (hn:∀ cs,v ≠ .agg cs)
  (h:DataW.Trod enc P W 0 (fun _=>true) true t v d p):∃ x:α,∃ cs,v=GoT.v α cs∧A.R W (old W) x cs∧ρ x:=by
 obtain ⟨fuel,hf⟩:=h
 obtain ⟨x,hR,hx⟩:=ho.2 hf
 have hc:v.cells=#[v]:=by
  unfold Value.cells
  cases v<;>first|rfl|exact absurd rfl (hn _)
 refine ⟨x,_,?_,hR,hx⟩
 unfold GoT.v mkV
 rw [hag,hc]
 rfl
theorem qps {P:Program} {H:Type} {enc:TypeId × Value→H} {W:World} {t e:TypeId} {v:Value} {d:DataW H} {p:List MemPlace} {α:Type} [A:GoT α] {ρ:α→Prop} (ho:Opens P t A ρ) (hag:A.agg=false) (ht:P.underlying t=some (.slice e)) {r:Reach} {b:Nat} (hok:Value.okWide P W r b t v)
  (h:DataW.Trod enc P W 0 (fun _=>true) true t v d p):∃ x:α,∃ cs,v=GoT.v α cs∧A.R W (old W) x cs∧ρ x :=
 qrx ho hag (fun _ hc=>qoP ht (hc ▸ hok)) h
section
variable {P:Program} {H:Type} {enc:TypeId × Value→H}
theorem qnR (hl:laidOutB P=true) {W W':World} (hb:Below W.heap.size W W'):∀ {ts:List TypeId} {vs:List Value} {ds:List (DataW H)} {ps:List MemPlace},(∀ t ∈ ts,P.readableRec t=true∧t<P.types.size) →
  DataW.TrodAll enc P W 0 (fun _=>true) true ts vs ds ps→(∀ x ∈ ps,x.block<W.heap.size) →
  DataW.TrodAll enc P W' 0 (fun b=>decide (b<W.heap.size)) true ts vs ds ps∧DataW.TrodAll enc P W' 0 (fun _=>true) true ts vs ds ps:=by
 intro ts
 induction ts with
 | nil =>
  intro vs ds ps _ h _
  obtain ⟨rfl,rfl,rfl⟩:=trodAll_nil h
  exact ⟨rfl,rfl⟩
 | cons t ts ih =>
  intro vs ds ps hr h hlt
  obtain ⟨v,vs',d,ds',p,q,rfl,rfl,rfl,hd,hrest⟩:=trodAll_cons h
  obtain ⟨h1,h2⟩:=ih (fun u hu=>hr u (jo _ hu)) hrest (fun x hx=>hlt x (List.mem_append.2 (.inr hx)))
  obtain ⟨r1,r2⟩:=hr t (jq ..)
  have hlt1:∀ x ∈ p,x.block<W.heap.size:=fun x hx=>hlt x (List.mem_append.2 (.inl hx))
  exact ⟨⟨p,q,Below.trod hl r1 r2 hd hb hlt1,h1,rfl⟩,⟨p,q,WideElems.Trod_stays hl r1 r2 hd (fun x hx=>hb.same (hlt1 x hx)) (fun _ _=>rfl),h2,rfl⟩⟩
end
theorem qru {P:Program} {H:Type} {enc:TypeId × Value→H} {fn:Func} {s:ChangeSpec} {apart fresh handsOn again:Bool} {W W':World} {tb:TypeId} {args:Array Value} {ds:List (DataW H)} {p:List MemPlace}
  (hl:laidOutB P=true) (hrr:(fn.params.toList.all fun t=>P.readableRec t&&decide (t<P.types.size))=true) (hres:fn.resultTypes=#[tb]) (htb:P.underlying tb=some .bool) (hvars:s.vars=[])
  (hr:(s.fn H (ds++[])).results=[.lit (.bool true)]) (ha:(s.fn H (ds++[])).args=ds) (hv:(s.fn H (ds++[])).vars=[])
  (hW:DataW.Whole enc P fn.params.toList s.vars apart W args.toList ds [] p) (hb:Below W.heap.size W W') :
  s.post enc P fn apart fresh handsOn again W args (.bool true) W':=by
 have hW0:=hW
 obtain ⟨p0,q0,hA,hV,rfl,hz,hn⟩:=hW
 rw [hvars] at hV
 obtain rfl:q0=[]:=hV
 simp only [jT] at hW0 hz hn
 have hlt:∀ x ∈ p0,x.block<W.heap.size:=fun x hx=>hW0.lt x hx
 obtain ⟨h0',h1'⟩:=qnR hl hb (fun t ht=>by
  have:=List.all_eq_true.1 hrr t ht
  simpa using this) hA hlt
 have hR:∀ (b:Nat) (sp:Nat→Bool) (hd:Bool),DataW.TrodAll enc P W' b sp hd fn.resultTypes.toList ((Value.bool true).resultList fn.resultTypes.size) (s.fn H (ds++[])).results []:=by
  intro b sp hd
  rw [hres,hr]
  exact trodAll_mk1 (shut_bool htb true)
 have hR2:(Value.bool true).resultList fn.resultTypes.size=[.bool true]:=by rw [hres];rfl
 refine ⟨ds,[],p0,[],p0,[],hW0,hR _ _ _,?_,?_,hb.frame _,fun _=>?_⟩
 ·rw [ha]
  exact h0'
 ·rw [hvars,hv]
  exact rfl
 ·refine ⟨ok_one hres rfl (okWide_bool_mk htb true),.lit (.bool true)::ds,[],p0,⟨p0,[],?_,?_,by simp,?_,?_⟩,fun x hx _=>hx⟩
  ·rw [hR2,hres]
   exact ⟨[],p0,shut_bool htb true,h1',by simp⟩
  ·rw [hvars];exact rfl
  ·intro b off hm
   rw [hb.frozen (hlt _ hm)]
   exact hz b off hm
  ·intro hap
   exact hn hap
end Go.Fw
