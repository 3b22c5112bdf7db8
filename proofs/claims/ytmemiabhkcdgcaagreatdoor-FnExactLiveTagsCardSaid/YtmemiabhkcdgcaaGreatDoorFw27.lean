/- The prover's own layer over the model: typed readings of memory, a small separation list, and a run with a stack of code that is left. -/
import Derived.WalkKit
import Derived.KernelRfl
import Derived.OrdersHeld
import Derived.Deep.Quiet
import Derived.ProofKit
import Derived.ReadAgain
import Derived.IntWalk
import Derived.Laws.BytesString
open Option renaming bind_some → je, map_some → jV
open Nat renaming le_refl → jf, le_of_ble_eq_true → jt, mul_le_mul_right → ju, lt_of_lt_of_le → jz, zero_le → jG, succ_mul → jP, le_trans → jS, add_zero → jY, zero_add → Ji
open List renaming getElem?_eq_getElem → jg, mem_cons_of_mem → jm, mem_cons_self → jn, length_append → jo, getElem_mem → jp, getElem?_append_left → jq, getElem?_take → jr, take_succ_eq_append_getElem → js, length_singleton → jw, getElem?_append_right → jy, mem_of_getElem? → jA, getElem?_drop → jB, take_length → jC, drop_eq_getElem_cons → jD, eq_nil_of_length_eq_zero → jE, getElem?_toArray → jF, map_append → jH, getElem_of_mem → jI, getD_eq_getElem?_getD → jK, getElem?_cons_succ → jL, append_nil → jM, length_map → jN, size_toArray → jQ, mem_append_left → jR, range_succ → jT, map_cons → jU, all_eq_true → jW, length_cons → jZ, drop_eq_nil_of_le → Ja, length_take → Jb, ext_getElem → Jc, append_assoc → Jd, length_filter_le → Je, getElem?_set_ne → Jf, not_mem_nil → Jg, mem_cons → Jh
open Go.Result renaming andThen_ok → jh
open Bool renaming and_eq_true → ji, eq_iff_iff → jk, true_and → jJ, not_eq_true' → jO, not_true → Jj, false_or → Jk
open Go.Sem renaming run_bind → jj, run_pure → jl
open Int renaming toNat_natCast → jx
open Array renaming getElem?_append_left → jX

namespace Go.Fw
open Go
class GoT (α:Type) where
  k:Nat
  agg:Bool
  zero:α
  zc:List Value
  R:World→(Nat→Prop)→α→List Value→Prop
  O:World→(Nat→Prop)→α→List Value→Prop
  kpos:0<k
  noagg:agg=false→k=1
  len:∀ {w S x cs},R w S x cs→cs.length=k
  one:∀ {w S x cs},R w S x cs→∀ c ∈ cs,c.oneCell'=true
  loc:∀ {w w' S x cs},R w S x cs→(∀ b,S b→w'.heap[b]?=w.heap[b]?)→R w' S x cs
  mono:∀ {w S S' x cs},R w S x cs→(∀ b,S b→S' b)→R w S' x cs
  toR:∀ {w S x cs},O w S x cs→R w S x cs
  locO:∀ {w w' S x cs},O w S x cs→(∀ b,S b→w'.heap[b]?=w.heap[b]?)→O w' S x cs
  monoO:∀ {w S S' x cs},O w S x cs→(∀ b,S b→S' b)→O w S' x cs
  zO:∀ w S,O w S zero zc
def mkV (agg:Bool) (cs:List Value):Value :=
  match agg with
  | true=>.agg cs.toArray
  | false=>cs.headD undef
abbrev GoT.v (α:Type) [GoT α] (cs:List Value):Value:=mkV (GoT.agg α) cs
instance instInt:GoT Int where
  k:=1
  agg:=false
  zero:=0
  zc:=[.int .i64 0]
  R _ _ x cs:=cs=[.int .i64 x]
  O _ _ x cs:=cs=[.int .i64 x]
  kpos:=by decide
  noagg _:=rfl
  len h:=by subst h;rfl
  one h:=by subst h;simp [Value.oneCell']
  loc h _:=h
  mono h _:=h
  toR h:=h
  locO h _:=h
  monoO h _:=h
  zO _ _:=rfl
instance instBool:GoT Bool where
  k:=1
  agg:=false
  zero:=false
  zc:=[.bool false]
  R _ _ x cs:=cs=[.bool x]
  O _ _ x cs:=cs=[.bool x]
  kpos:=by decide
  noagg _:=rfl
  len h:=by subst h;rfl
  one h:=by subst h;simp [Value.oneCell']
  loc h _:=h
  mono h _:=h
  toR h:=h
  locO h _:=h
  monoO h _:=h
  zO _ _:=rfl
instance instStr:GoT ByteArray where
  k:=1
  agg:=false
  zero:=ByteArray.empty
  zc:=[.string ByteArray.empty]
  R _ _ x cs:=cs=[.string x]
  O _ _ x cs:=cs=[.string x]
  kpos:=by decide
  noagg _:=rfl
  len h:=by subst h;rfl
  one h:=by subst h;simp [Value.oneCell']
  loc h _:=h
  mono h _:=h
  toR h:=h
  locO h _:=h
  monoO h _:=h
  zO _ _:=rfl
class Flat (α:Type) [GoT α]:Prop where
  fl:∀ {w w':World} {S S':Nat→Prop} {x:α} {cs:List Value},GoT.R w S x cs→GoT.O w' S' x cs
  det:∀ {w w':World} {S S':Nat→Prop} {x:α} {cs cs':List Value},GoT.R w S x cs→GoT.R w' S' x cs'→cs=cs'
instance:Flat Int:=⟨fun h=>h,fun h h'=>Eq.trans h (Eq.symm h')⟩
instance:Flat Bool:=⟨fun h=>h,fun h h'=>Eq.trans h (Eq.symm h')⟩
instance:Flat ByteArray:=⟨fun h=>h,fun h h'=>Eq.trans h (Eq.symm h')⟩
section
variable {α:Type} [GoT α]
def SlR (w:World) (S:Nat→Prop) (xs:List α) (p:Option Addr) (c:Nat):Prop :=
  xs.length≤c∧c≤maxLen ∧
  (((p=none∨c=0)∧xs=[]) ∨
   ∃ b o cur T fr,p=some ⟨b,o,none⟩∧S b∧w.heap[b]?=some (.cells cur T fr)∧o+c*GoT.k α≤cur.size ∧
     ∀ i x,xs[i]?=some x→∃ cs,GoT.R w S x cs∧∀ j v,cs[j]?=some v→cur[o+i*GoT.k α+j]?=some v)
def SlO (w:World) (S:Nat→Prop) (xs:List α) (p:Option Addr) (c:Nat):Prop :=
  xs.length≤c∧c≤maxLen ∧
  ((p=none∧xs=[]∧c=0) ∨
   ∃ b cur T,∃ F:Nat→Nat→Prop,p=some ⟨b,0,none⟩∧S b∧w.heap[b]?=some (.cells cur T (0,0))∧cur.size=c*GoT.k α ∧
     (∀ i a,F i a→S a∧a ≠ b)∧(∀ i j a,i ≠ j→F i a→¬ F j a) ∧
     ∀ i x,xs[i]?=some x→∃ cs,GoT.O w (F i) x cs∧∀ j v,cs[j]?=some v→cur[i*GoT.k α+j]?=some v)
theorem SlR.loc {w w':World} {S:Nat→Prop} {xs:List α} {p c} (h:SlR w S xs p c) (hs:∀ b,S b→w'.heap[b]?=w.heap[b]?):SlR w' S xs p c:=by
  obtain ⟨h1,h2,h3⟩:=h
  refine ⟨h1,h2,?_⟩
  rcases h3 with h3|⟨b,o,cur,T,fr,rfl,hb,hg,hc,hx⟩
  · exact .inl h3
  · refine .inr ⟨b,o,cur,T,fr,rfl,hb,by rw [hs b hb];exact hg,hc,fun i x hi=>?_⟩
    obtain ⟨cs,hr,hj⟩:=hx i x hi
    exact ⟨cs,GoT.loc hr hs,hj⟩
theorem SlR.mono {w:World} {S S':Nat→Prop} {xs:List α} {p c} (h:SlR w S xs p c) (hs:∀ b,S b→S' b):SlR w S' xs p c:=by
  obtain ⟨h1,h2,h3⟩:=h
  refine ⟨h1,h2,?_⟩
  rcases h3 with h3|⟨b,o,cur,T,fr,rfl,hb,hg,hc,hx⟩
  · exact .inl h3
  · refine .inr ⟨b,o,cur,T,fr,rfl,hs b hb,hg,hc,fun i x hi=>?_⟩
    obtain ⟨cs,hr,hj⟩:=hx i x hi
    exact ⟨cs,GoT.mono hr hs,hj⟩
theorem SlO.toR {w:World} {S:Nat→Prop} {xs:List α} {p c} (h:SlO w S xs p c):SlR w S xs p c:=by
  obtain ⟨h1,h2,h3⟩:=h
  refine ⟨h1,h2,?_⟩
  rcases h3 with ⟨h3,h4,_⟩|⟨b,cur,T,F,rfl,hb,hg,hc,hF,hd,hx⟩
  · exact .inl ⟨.inl h3,h4⟩
  · refine .inr ⟨b,0,cur,T,(0,0),rfl,hb,hg,by omega,fun i x hi=>?_⟩
    obtain ⟨cs,hr,hj⟩:=hx i x hi
    exact ⟨cs,GoT.mono (GoT.toR hr) (fun a ha=>(hF i a ha).1),by simpa using hj⟩
theorem SlO.loc {w w':World} {S:Nat→Prop} {xs:List α} {p c} (h:SlO w S xs p c) (hs:∀ b,S b→w'.heap[b]?=w.heap[b]?):SlO w' S xs p c:=by
  obtain ⟨h1,h2,h3⟩:=h
  refine ⟨h1,h2,?_⟩
  rcases h3 with h3|⟨b,cur,T,F,rfl,hb,hg,hc,hF,hd,hx⟩
  · exact .inl h3
  · refine .inr ⟨b,cur,T,F,rfl,hb,by rw [hs b hb];exact hg,hc,hF,hd,fun i x hi=>?_⟩
    obtain ⟨cs,hr,hj⟩:=hx i x hi
    exact ⟨cs,GoT.locO hr (fun a ha=>hs a (hF i a ha).1),hj⟩
theorem SlO.mono {w:World} {S S':Nat→Prop} {xs:List α} {p c} (h:SlO w S xs p c) (hs:∀ b,S b→S' b):SlO w S' xs p c:=by
  obtain ⟨h1,h2,h3⟩:=h
  refine ⟨h1,h2,?_⟩
  rcases h3 with h3|⟨b,cur,T,F,rfl,hb,hg,hc,hF,hd,hx⟩
  · exact .inl h3
  · exact .inr ⟨b,cur,T,F,rfl,hs b hb,hg,hc,fun i a ha=>⟨hs a (hF i a ha).1,(hF i a ha).2⟩,hd,hx⟩
end
instance instList {α:Type} [GoT α]:GoT (List α) where
  k:=1
  agg:=false
  zero:=[]
  zc:=[.slice none 0 0]
  R w S xs cs:=∃ p c,cs=[.slice p xs.length c]∧SlR w S xs p c
  O w S xs cs:=∃ p c,cs=[.slice p xs.length c]∧SlO w S xs p c
  kpos:=by decide
  noagg _:=rfl
  len h:=by obtain ⟨p,c,rfl,_⟩:=h;rfl
  one h:=by obtain ⟨p,c,rfl,_⟩:=h;simp [Value.oneCell']
  loc h hs:=by obtain ⟨p,c,rfl,h⟩:=h;exact ⟨p,c,rfl,h.loc hs⟩
  mono h hs:=by obtain ⟨p,c,rfl,h⟩:=h;exact ⟨p,c,rfl,h.mono hs⟩
  toR h:=by obtain ⟨p,c,rfl,h⟩:=h;exact ⟨p,c,rfl,h.toR⟩
  locO h hs:=by obtain ⟨p,c,rfl,h⟩:=h;exact ⟨p,c,rfl,h.loc hs⟩
  monoO h hs:=by obtain ⟨p,c,rfl,h⟩:=h;exact ⟨p,c,rfl,h.mono hs⟩
  zO w S:=⟨none,0,rfl,by simp,by simp,.inl ⟨rfl,rfl,rfl⟩⟩
instance instPtr {α:Type} [GoT α]:GoT (Option α) where
  k:=1
  agg:=false
  zero:=none
  zc:=[.pointer none]
  R w S p cs:=match p with
    | none=>cs=[.pointer none]
    | some x=>∃ b o cur T fr ds,cs=[.pointer (some ⟨b,o,none⟩)]∧S b∧w.heap[b]?=some (.cells cur T fr)∧GoT.R w S x ds∧∀ j v,ds[j]?=some v→cur[o+j]?=some v
  O w S p cs:=match p with
    | none=>cs=[.pointer none]
    | some x=>∃ b cur T,∃ S':Nat→Prop,cs=[.pointer (some ⟨b,0,none⟩)]∧S b∧w.heap[b]?=some (.cells (List.toArray cur) T (0,0))∧GoT.O w S' x cur∧∀ a,S' a→S a∧a ≠ b
  kpos:=by decide
  noagg _:=rfl
  len {w S p cs} h:=by
    cases p with
    | none=>subst h;rfl
    | some x=>obtain ⟨b,o,cur,T,fr,ds,rfl,_⟩:=h;rfl
  one {w S p cs} h:=by
    cases p with
    | none=>subst h;simp [Value.oneCell']
    | some x=>obtain ⟨b,o,cur,T,fr,ds,rfl,_⟩:=h;simp [Value.oneCell']
  loc {w w' S p cs} h hs:=by
    cases p with
    | none=>exact h
    | some x =>
      obtain ⟨b,o,cur,T,fr,ds,rfl,hb,hg,hr,hj⟩:=h
      exact ⟨b,o,cur,T,fr,ds,rfl,hb,by rw [hs b hb];exact hg,GoT.loc hr hs,hj⟩
  mono {w S S' p cs} h hs:=by
    cases p with
    | none=>exact h
    | some x =>
      obtain ⟨b,o,cur,T,fr,ds,rfl,hb,hg,hr,hj⟩:=h
      exact ⟨b,o,cur,T,fr,ds,rfl,hs b hb,hg,GoT.mono hr hs,hj⟩
  toR {w S p cs} h:=by
    cases p with
    | none=>exact h
    | some x =>
      obtain ⟨b,cur,T,S',rfl,hb,hg,hr,hj⟩:=h
      exact ⟨b,0,cur.toArray,T,(0,0),cur,rfl,hb,hg,GoT.mono (GoT.toR hr) (fun a ha=>(hj a ha).1),by simp⟩
  locO {w w' S p cs} h hs:=by
    cases p with
    | none=>exact h
    | some x =>
      obtain ⟨b,cur,T,S',rfl,hb,hg,hr,hj⟩:=h
      exact ⟨b,cur,T,S',rfl,hb,by rw [hs b hb];exact hg,GoT.locO hr (fun a ha=>hs a (hj a ha).1),hj⟩
  monoO {w S S' p cs} h hs:=by
    cases p with
    | none=>exact h
    | some x =>
      obtain ⟨b,cur,T,S',rfl,hb,hg,hr,hj⟩:=h
      exact ⟨b,cur,T,S',rfl,hs b hb,hg,hr,fun a ha=>⟨hs a (hj a ha).1,(hj a ha).2⟩⟩
  zO _ _:=rfl
structure Ch where
  S:Nat→Prop
  D:Nat→Prop
  P:World→Prop
  loc:∀ w w',(∀ b,S b→w'.heap[b]?=w.heap[b]?)→(∀ b,D b→w'.heap[b]?=w.heap[b]?)→P w→P w'
def Ch.box (b:Nat) (cs:List Value) (T:TypeId):Ch where
  S a:=a=b
  D _:=False
  P w:=w.heap[b]?=some (.cells cs.toArray T (0,0))
  loc w w' h _ hp:=by rw [h b rfl];exact hp
def Ch.own {α:Type} [GoT α] (S:Nat→Prop) (x:α) (cs:List Value):Ch where
  S:=S
  D _:=False
  P w:=GoT.O w S x cs
  loc _ _ h _ hp:=GoT.locO hp h
def old (w:World) (b:Nat):Prop:=b<w.heap.size
def fresh (w w':World) (b:Nat):Prop:=w.heap.size≤b∧b<w'.heap.size
open Go.RowKit (Below)
structure SH (w0 w:World) (L:List Ch):Prop where
  below:Below w0.heap.size w0 w
  holds:∀ c ∈ L,c.P w∧∀ b,c.S b→fresh w0 w b
  elder:∀ c ∈ L,∀ b,c.D b→b<w0.heap.size
  apart:L.Pairwise fun c d=>∀ b,c.S b→¬ d.S b
theorem SH.start (w:World):SH w w []:=⟨Below.refl _ _,by simp,by simp,.nil⟩
section
variable {w0 w w':World} {L:List Ch}
theorem SH.mem {c:Ch} {i:Nat} (h:SH w0 w L) (hi:L[i]?=some c):c.P w∧∀ b,c.S b→fresh w0 w b :=
  h.holds c (jA hi)
theorem SH.ext (h:SH w0 w L) (hb:Below w.heap.size w w'):SH w0 w' L:=by
  refine ⟨h.below.trans (hb.mono h.below.size),fun c hc=>?_,h.elder,h.apart⟩
  obtain ⟨h1,h2⟩:=h.holds c hc
  refine ⟨c.loc w w' (fun b hS=>hb.block b (h2 b hS).2) (fun b hD=>hb.block b (jz (h.elder c hc b hD) h.below.size)) h1,fun b hS=>⟨(h2 b hS).1,?_⟩⟩
  have:=(h2 b hS).2
  have:=hb.size
  omega
theorem SH.add {c:Ch} (h:SH w0 w L) (hb:Below w.heap.size w w') (hp:c.P w') (hS:∀ b,c.S b→fresh w w' b) (hD:∀ b,c.D b→b<w0.heap.size):SH w0 w' (c::L):=by
  have h':=h.ext hb
  refine ⟨h'.below,fun d hd=>?_,fun d hd=>?_,?_⟩
  · rcases List.mem_cons.1 hd with rfl|hd
    · refine ⟨hp,fun b hb'=>⟨?_,(hS b hb').2⟩⟩
      have:=(hS b hb').1
      have:=h.below.size
      omega
    · exact h'.holds d hd
  · rcases List.mem_cons.1 hd with rfl|hd
    · exact hD
    · exact h.elder d hd
  · refine List.pairwise_cons.2 ⟨fun d hd b hcb hdb=>?_,h.apart⟩
    have h1:=(hS b hcb).1
    have h2:=((h.holds d hd).2 b hdb).2
    omega
theorem SH.alloc (h:SH w0 w L) (cs:List Value) (T:TypeId):SH w0 (w.alloc (.cells cs.toArray T)) (Ch.box w.heap.size cs T::L):=by
  refine h.add ((Below.refl _ _).alloc (jf _) _) ?_ ?_ (fun _ hd=>hd.elim)
  · exact heap_alloc_new w _
  · intro b hb
    have:b=w.heap.size:=hb
    subst this
    exact ⟨jf _,by simp⟩
theorem SH.upd {c c':Ch} {i:Nat} (h:SH w0 w L) (hi:L[i]?=some c) (hos:w'.os=w.os) (htape:w'.tape=w.tape) (hout:w'.output=w.output) (hsize:w.heap.size≤w'.heap.size)
    (hb:∀ b,b<w.heap.size→¬ c.S b→w'.heap[b]?=w.heap[b]?) (hp:c'.P w') (hS:∀ b,c'.S b→c.S b∨fresh w w' b) (hD:∀ b,c'.D b→b<w0.heap.size):SH w0 w' (L.set i c'):=by
  obtain ⟨hcP,hcS⟩:=h.mem hi
  have hother:∀ (j:Nat) (d:Ch),L[j]?=some d→j ≠ i→∀ b,d.S b→¬ c.S b:=by
    intro j d hj hne b hdb hcb
    have hpw:=List.pairwise_iff_getElem.1 h.apart
    obtain ⟨hil,hic⟩:=List.getElem?_eq_some_iff.1 hi
    obtain ⟨hjl,hjd⟩:=List.getElem?_eq_some_iff.1 hj
    rcases Nat.lt_or_gt_of_ne hne with hlt|hlt
    · have:=hpw j i hjl hil hlt
      rw [hic,hjd] at this
      exact this b hdb hcb
    · have:=hpw i j hil hjl hlt
      rw [hic,hjd] at this
      exact this b hcb hdb
  refine ⟨⟨hos.trans h.below.os,htape.trans h.below.tape,hout.trans h.below.output,jS h.below.size hsize,fun k hk=>?_⟩,?_,?_,?_⟩
  · rw [hb k (jz hk h.below.size) (fun hk'=>by have:=(hcS k hk').1;omega)]
    exact h.below.block k hk
  · intro d hd
    obtain ⟨j,hj,hjd⟩:=jI hd
    have hjL:j<L.length:=by simpa using hj
    rw [List.getElem_set] at hjd
    split at hjd
    · subst hjd
      refine ⟨hp,fun b hb'=>?_⟩
      rcases hS b hb' with h1|h1
      · exact ⟨(hcS b h1).1,jz (hcS b h1).2 hsize⟩
      · exact ⟨jS h.below.size h1.1,h1.2⟩
    · rename_i hne
      have hjd':L[j]?=some d:=by rw [jg hjL,hjd]
      obtain ⟨h1,h2⟩:=h.mem hjd'
      refine ⟨d.loc w w' (fun b hdb=>hb b (h2 b hdb).2 (hother j d hjd' (Ne.symm hne) b hdb)) (fun b hdb=>?_) h1,fun b hdb=>⟨(h2 b hdb).1,jz (h2 b hdb).2 hsize⟩⟩
      have hlt:=h.elder d (jA hjd') b hdb
      exact hb b (jz hlt h.below.size) (fun hk'=>by have:=(hcS b hk').1;omega)
  · intro d hd
    obtain ⟨j,hj,hjd⟩:=jI hd
    have hjL:j<L.length:=by simpa using hj
    rw [List.getElem_set] at hjd
    split at hjd
    · subst hjd;exact hD
    · exact h.elder d (hjd ▸ jp hjL)
  · rw [List.pairwise_iff_getElem]
    intro a b ha hb' hab x hax hbx
    have haL:a<L.length:=by simpa using ha
    have hbL:b<L.length:=by simpa using hb'
    rw [List.getElem_set] at hax hbx
    split at hax
    · rename_i hai
      split at hbx
      · omega
      · have hbd:L[b]?=some L[b]:=jg hbL
        rcases hS x hax with h1|h1
        · exact hother b _ hbd (by omega) x hbx h1
        · have:=((h.mem hbd).2 x hbx).2
          have:=h1.1
          omega
    · rename_i hai
      have had:L[a]?=some L[a]:=jg haL
      split at hbx
      · rename_i hbi
        rcases hS x hbx with h1|h1
        · exact hother a _ had (by omega) x hax h1
        · have:=((h.mem had).2 x hax).2
          have:=h1.1
          omega
      · exact List.pairwise_iff_getElem.1 h.apart a b haL hbL hab x hax hbx
theorem SH.sub {M:List Ch} (h:SH w0 w L) (hs:M.Sublist L):SH w0 w M :=
  ⟨h.below,fun c hc=>h.holds c (hs.subset hc),fun c hc=>h.elder c (hs.subset hc),h.apart.sublist hs⟩
theorem SH.old {α:Type} [GoT α] {x:α} {cs:List Value} (h:SH w0 w L) (hr:GoT.R w0 (old w0) x cs):GoT.R w (Fw.old w) x cs :=
  GoT.mono (GoT.loc hr (fun b hb=>h.below.block b hb)) (fun _ hb=>jz hb h.below.size)
theorem SH.own {α:Type} [GoT α] {x:α} {cs:List Value} {S:Nat→Prop} (i:Nat) (h:SH w0 w L) (hi:L[i]?=some (Ch.own S x cs)):GoT.R w (Fw.old w) x cs :=
  GoT.mono (GoT.toR (h.mem hi).1) (fun b hb=>((h.mem hi).2 b hb).2)
def pickL (L:List Ch):List Nat→List Ch
  | []=>[]
  | i::is=>match L[i]? with
    | some c=>c::pickL L is
    | none=>pickL L is
def nodupB:List Nat→Bool
  | []=>true
  | i::is=>is.all (fun j=>!(Nat.beq i j))&&nodupB is
theorem qhx {c:Ch}:∀ {is:List Nat},c ∈ pickL L is→∃ i ∈ is,L[i]?=some c
  | [],h=>by cases h
  | i::is,h=>by
    simp only [pickL] at h
    split at h
    · rename_i d hd
      rcases List.mem_cons.1 h with rfl|h
      · exact ⟨i,by simp,hd⟩
      · obtain ⟨j,hj,hc⟩:=qhx h;exact ⟨j,by simp [hj],hc⟩
    · obtain ⟨j,hj,hc⟩:=qhx h;exact ⟨j,by simp [hj],hc⟩
theorem SH.pick (is:List Nat) (h:SH w0 w L) (hn:nodupB is=true):SH w0 w (pickL L is):=by
  refine ⟨h.below,fun c hc=>?_,fun c hc=>?_,?_⟩
  · obtain ⟨i,_,hi⟩:=qhx hc;exact h.mem hi
  · obtain ⟨i,_,hi⟩:=qhx hc;exact h.elder c (jA hi)
  · induction is with
    | nil=>exact .nil
    | cons i is ih =>
      simp only [nodupB,ji,jW,jO] at hn
      have ih:=ih hn.2
      simp only [pickL]
      split
      · rename_i c hc
        refine List.pairwise_cons.2 ⟨fun d hd b hcb hdb=>?_,ih⟩
        obtain ⟨j,hj,hjd⟩:=qhx hd
        have hne:i ≠ j:=by
          intro hij
          have:=hn.1 j hj
          rw [hij,Nat.beq_refl] at this
          cases this
        obtain ⟨hil,rfl⟩:=List.getElem?_eq_some_iff.1 hc
        obtain ⟨hjl,rfl⟩:=List.getElem?_eq_some_iff.1 hjd
        rcases Nat.lt_or_gt_of_ne hne with hlt|hlt
        · exact List.pairwise_iff_getElem.1 h.apart i j hil hjl hlt b hcb hdb
        · exact List.pairwise_iff_getElem.1 h.apart j i hjl hil hlt b hdb hcb
      · exact ih
end
end Go.Fw


namespace Go.Fw
open Go
abbrev Env:=List (Nat × Value)
def Env.get:Env→Nat→Option Value
 | [],_=>none
 | p::e,j=>match Nat.beq p.1 j with
  | true=>some p.2
  | false=>Env.get e j
theorem beqT {a b:Nat} (h:Nat.beq a b=true):a=b:=Nat.eq_of_beq_eq_true h
theorem beqR (a:Nat):Nat.beq a a=true:=Nat.beq_refl a
def opv (e:Env):Operand→Option Value
 | .tmp t=>e.get t
 | .const v=>some v
 | .func f=>some (.func (.func f) #[] #[])
 | .global g=>some (.pointer (some ⟨g,0,none⟩))
structure Agree (n:Nat) (e:Env) (a:Act):Prop where
 defers:a.defers=[]
 size:a.tmps.size=n
 at_:∀ i v,e.get i=some v→a.tmps[i]?=some v
theorem Agree.eval {n:Nat} {e:Env} {a:Act} (h:Agree n e a) {x:Operand} {v:Value} (hx:opv e x=some v):a.eval x=v:=by
 cases x with
 | tmp t =>
  have:=h.at_ t v hx
  simp [Act.eval,Array.getD_eq_getD_getElem?,this]
 | const c=>simpa [opv,Act.eval] using hx
 | global g=>simpa [opv,Act.eval] using hx
 | func f=>simpa [opv,Act.eval] using hx
theorem Agree.put {n:Nat} {e:Env} {a:Act} (h:Agree n e a) {d:Nat} (hd:Nat.blt d n=true) (v:Value):Agree n ((d,v)::e) (a.put (some d) v):=by
 have hd':d<n:=by simpa [Nat.blt_eq] using hd
 refine ⟨h.defers,by simp [Act.put,h.size],fun i u hi=>?_⟩
 simp only [Env.get] at hi
 simp only [Act.put,Array.getElem?_setIfInBounds]
 by_cases hdi:d=i
 ·subst hdi
  have hb:Nat.beq d d=true:=beqR d
  rw [hb] at hi
  simp only [Option.some.injEq] at hi
  subst hi
  simp [h.size,hd']
 ·have hb:Nat.beq d i=false:=by
   cases hc:Nat.beq d i with
   | false=>rfl
   | true=>exact absurd (beqT hc) hdi
  rw [hb] at hi
  rw [if_neg hdi]
  exact h.at_ i u hi
theorem Agree.skip {n:Nat} {e:Env} {a:Act} (h:Agree n e a) (v:Value):Agree n e (a.put none v):=h
def subEnv (e:Env):Env→Prop
 | []=>True
 | p::l=>e.get p.1=some p.2∧subEnv e l
theorem Agree.sub {n:Nat} {e e':Env} {a:Act} (h:Agree n e a) (hs:subEnv e e'):Agree n e' a:=by
 refine ⟨h.defers,h.size,?_⟩
 induction e' with
 | nil=>intro i v hi;cases hi
 | cons p l ih =>
  intro i v hi
  simp only [Env.get] at hi
  cases hb:Nat.beq p.1 i with
  | true =>
   rw [hb] at hi
   simp only [Option.some.injEq] at hi
   subst hi
   have:p.1=i:=beqT hb
   subst this
   exact h.at_ _ _ hs.1
  | false =>
   rw [hb] at hi
   exact ih hs.2 i v hi
inductive It where
 | code (c:Code)
 | ops (all:Array Oper) (rest:List Oper)
 | blk (id:Nat)
 | goal (J:Act→World→Prop)
def post (P:Program) (Q:Exit→Act→World→Prop):List It→Exit→Act→World→Prop
 | []=>Q
 | .code c::k=>Exit.then (fun a w=>c.wp P (post P Q k) a w) (post P Q k)
 | .ops all l::k=>Exit.then (fun a w=>wpList P all (post P Q k) l a w) (post P Q k)
 | .blk id::k=>Exit.inBlock id (post P Q k)
 | .goal J::k=>Exit.then J (post P Q k)
def Run (P:Program) (n:Nat) (Q:Exit→Act→World→Prop) (k:List It) (e:Env) (w:World):Prop :=
 ∀ a,Agree n e a→post P Q k .normal a w
section
variable {P:Program} {n:Nat} {Q:Exit→Act→World→Prop} {k:List It} {e e':Env} {w w':World}
theorem qxI (e':Env) (hs:subEnv e e') (h:Run P n Q k e' w):Run P n Q k e w:=fun a ha=>h a (ha.sub hs)
theorem qgT {x y:Code} (h:Run P n Q (.code x::.code y::k) e w):Run P n Q (.code (.seq x y)::k) e w :=
 fun a ha=>wp_seq (h a ha)
theorem qhk (h:Run P n Q k e w):Run P n Q (.code .skip::k) e w :=
 fun a ha=>wp_skip (h a ha)
theorem qk {id:Nat} {c:Code} (h:Run P n Q (.code c::.blk id::k) e w):Run P n Q (.code (.block id c)::k) e w :=
 fun a ha=>wp_block (h a ha)
theorem qxN {id:Nat} (h:Run P n Q k e w):Run P n Q (.blk id::k) e w:=fun a ha=>h a ha
def popTo (id:Nat):List It→Option (List It)
 | []=>none
 | .blk i::k=>match Nat.beq id i with
  | true=>some k
  | false=>popTo id k
 | _::k=>popTo id k
theorem qul {id:Nat} {k k':List It} (hk:popTo id k=some k') {a:Act} {w:World} (h:post P Q k' .normal a w):post P Q k (.exit id) a w:=by
 induction k with
 | nil=>cases hk
 | cons x k ih =>
  cases x with
  | blk i =>
   simp only [popTo] at hk
   simp only [post,Exit.inBlock]
   cases hb:Nat.beq id i with
   | true =>
    rw [hb] at hk
    simp only [Option.some.injEq] at hk
    subst hk
    rw [if_pos (beqT hb)]
    exact h
   | false =>
    rw [hb] at hk
    rw [if_neg (fun hh=>by rw [hh,beqR i] at hb;cases hb)]
    exact ih hk
  | code c=>exact ih hk
  | ops all l=>exact ih hk
  | goal J=>exact ih hk
theorem qm {id:Nat} {k':List It} (hk:popTo id k=some k') (h:Run P n Q k' e w):Run P n Q (.code (.exit id)::k) e w :=
 fun a ha=>wp_exit (qul hk (h a ha))
theorem qv8 {k:List It} {a:Act} {w:World} (h:Q .ret a w):post P Q k .ret a w:=by
 induction k with
 | nil=>exact h
 | cons x k ih=>cases x<;>exact ih
theorem qtK (h:∀ a,Agree n e a→Q .ret a w):Run P n Q (.code .ret::k) e w :=
 fun a ha=>wp_ret (qv8 (h a ha))
theorem qkX {id:Nat} {ops:List Oper} (h:Run P n Q (.ops ops.toArray ops::k) e w):Run P n Q (.code (.region id ops.toArray false)::k) e w:=by
 intro a ha
 have:=h a ha
 refine wp_region ?_
 have he:=wpOps_eq_wpList (P:=P) (ops:=ops.toArray) (Q:=post P Q k) ops 0 (by simp)
 rw [show List.range ops.toArray.size=List.range' 0 ops.length from by simp [List.range_eq_range']]
 rw [he]
 exact this
theorem qcw {all:Array Oper} (h:Run P n Q k e w):Run P n Q (.ops all []::k) e w:=fun a ha=>h a ha
theorem qkA {c:Operand} {x y:Code} {b:Bool} (hc:opv e c=some (.bool b)) (ht:b=true→Run P n Q (.code x::k) e w) (hf:b=false→Run P n Q (.code y::k) e w) :
  Run P n Q (.code (.cond c x y)::k) e w :=
 fun a ha=>wp_cond_split (ha.eval hc) (fun h=>ht h a ha) (fun h=>hf h a ha)
theorem qes {c:Operand} {x y:Code} {b:Bool} (hc:opv e c=some (.bool b)) (hb:b=true) (ht:Run P n Q (.code x::k) e w) :
  Run P n Q (.code (.cond c x y)::k) e w :=
 fun a ha=>wp_cond_true (by rw [ha.eval hc,hb]) (ht a ha)
theorem qbK {c:Operand} {x y:Code} {b:Bool} (hc:opv e c=some (.bool b)) (hb:b=false) (hf:Run P n Q (.code y::k) e w) :
  Run P n Q (.code (.cond c x y)::k) e w :=
 fun a ha=>wp_cond_false (by rw [ha.eval hc,hb]) (hf a ha)
open Classical in
theorem qs5 {c:Code} {a:Act} (Inv:Nat→Act→World→Prop) (m:Nat) (h0:Inv m a w)
  (round:∀ m a w,Inv m a w→c.wp P (Exit.then (fun a' w'=>∃ m',m'<m∧Inv m' a' w') Q) a w):(Code.loop c).wp P Q a w:=by
 have hfind:∀ a w,(∃ m,Inv m a w)→∃ m,Inv m a w∧∀ m',Inv m' a w→m≤m':=by
  intro a w ⟨m,hm⟩
  induction m using Nat.strongRecOn with
  | _ m ih =>
   by_cases h:∃ m',m'<m∧Inv m' a w
   ·obtain ⟨m',h1,h2⟩:=h
    exact ih m' h1 h2
   ·exact ⟨m,hm,fun m' hm'=>Nat.le_of_not_lt fun hlt=>h ⟨m',hlt,hm'⟩⟩
 refine wp_loop (fun a w=>∃ m,Inv m a w) (fun a w=>if h:∃ m,Inv m a w then Classical.choose (hfind a w h) else 0) ⟨m,h0⟩ ?_
 intro a w hI
 have hs:=Classical.choose_spec (hfind a w hI)
 refine wp_mono (round _ a w hs.1) ?_
 intro ex a' w' hq
 cases ex with
 | normal =>
  obtain ⟨m',hlt,hm'⟩:=hq
  refine ⟨⟨m',hm'⟩,?_⟩
  have hI':∃ m,Inv m a' w':=⟨m',hm'⟩
  have hs':=Classical.choose_spec (hfind a' w' hI')
  rw [dif_pos hI',dif_pos hI]
  exact Nat.lt_of_le_of_lt (hs'.2 m' hm') hlt
 | exit id=>exact hq
 | goto l=>exact hq
 | ret=>exact hq
 | panic c=>exact hq
 | outgrown=>exact hq
def Back (n:Nat) (Inv:Nat→Env→World→Prop) (m:Nat) (a:Act) (w:World):Prop:=∃ m' e,m'<m∧Agree n e a∧Inv m' e w
theorem qxC {b:Code} (Inv:Nat→Env→World→Prop) (m:Nat) (h0:Inv m e w)
  (round:∀ m e w,Inv m e w→Run P n Q (.code b::.goal (Back n Inv m)::k) e w):Run P n Q (.code (.loop b)::k) e w:=by
 intro a ha
 refine qs5 (fun m a w=>∃ e,Agree n e a∧Inv m e w) m ⟨e,ha,h0⟩ ?_
 rintro m a w ⟨e,ha,hI⟩
 refine wp_mono (round m e w hI a ha) ?_
 intro ex a' w' hq
 cases ex with
 | normal=>obtain ⟨m',e',h1,h2,h3⟩:=hq;exact ⟨m',h1,e',h2,h3⟩
 | exit id=>exact hq
 | goto l=>exact hq
 | ret=>exact hq
 | panic c=>exact hq
 | outgrown=>exact hq
theorem qxw {Inv:Nat→Env→World→Prop} {m:Nat} (m':Nat) (e':Env) (hm:m'<m) (hs:subEnv e e') (h:Inv m' e' w):Run P n Q (.goal (Back n Inv m)::k) e w :=
 fun _ ha=>⟨m',e',hm,ha.sub hs,h⟩
theorem qkg {all:Array Oper} {o:Oper} {l:List Oper} {d:Nat} {v:Value} (hg:o.guard=none) (hd:o.dst=some d) (hn:Nat.blt d n=true)
  (h:∀ a,Agree n e a→(execOp a.eval o).run P w=.ok (.value v) w') (hk:Run P n Q (.ops all l::k) ((d,v)::e) w'):Run P n Q (.ops all (o::l)::k) e w:=by
 intro a ha
 show wpList P all (post P Q k) (o::l) a w
 have hw:Region.wanted o (yielded all a.tmps)=true:=by simp [Region.wanted,hg]
 rw [wpList,if_pos hw]
 refine .inl ?_
 unfold Oper.wp
 rw [h a ha,Oper.upon_value,hd]
 exact hk _ (ha.put hn v)
theorem qq8 {all:Array Oper} {o:Oper} {l:List Oper} (hg:o.guard=none) (hd:o.dst=none)
  (h:∀ a,Agree n e a→(execOp a.eval o).run P w=.ok .skip w') (hk:Run P n Q (.ops all l::k) e w'):Run P n Q (.ops all (o::l)::k) e w:=by
 intro a ha
 show wpList P all (post P Q k) (o::l) a w
 have hw:Region.wanted o (yielded all a.tmps)=true:=by simp [Region.wanted,hg]
 rw [wpList,if_pos hw]
 refine .inl ?_
 unfold Oper.wp
 rw [h a ha,Oper.upon_skip,hd]
 exact hk _ ha
theorem qm5 {all:Array Oper} {o:Oper} {l:List Oper} {d:Nat} {f:FuncId} {args:Array Value} {R:Value→World→Prop} (hg:o.guard=none) (hd:o.dst=some d) (hn:Nat.blt d n=true)
  (h:∀ a,Agree n e a→(execOp a.eval o).run P w=.ok (.enter f args) w)
  (hc:Calls P f args w fun e w'=>∃ v,e=.returned v∧R v w')
  (hk:∀ v w',R v w'→Run P n Q (.ops all l::k) ((d,v)::e) w'):Run P n Q (.ops all (o::l)::k) e w:=by
 intro a ha
 show wpList P all (post P Q k) (o::l) a w
 have hw:Region.wanted o (yielded all a.tmps)=true:=by simp [Region.wanted,hg]
 rw [wpList,if_pos hw]
 refine .inl ?_
 unfold Oper.wp
 rw [h a ha,Oper.upon_enter]
 refine hc.mono ?_
 rintro e' w' ⟨v,rfl,hR⟩
 show wpList P all (post P Q k) l (a.put o.dst v) w'
 rw [hd]
 exact hk v w' hR _ (ha.put hn v)
def guardOf (e:Env) (all:Array Oper) (o:Oper):Option Bool :=
 match o.guard with
 | none=>some true
 | some (j,want) =>
  match all[j]? with
  | none=>none
  | some p =>
   match p.dst with
   | none=>none
   | some t =>
    match e.get t with
    | some (.bool b)=>some (match b,want with|true,true=>true|false,false=>true|_,_=>false)
    | _=>none
theorem qjd {all:Array Oper} {o:Oper} {a:Act} {b:Bool} (ha:Agree n e a) (h:guardOf e all o=some b):Region.wanted o (yielded all a.tmps)=b:=by
 unfold guardOf at h
 unfold Region.wanted
 split at h
 ·rename_i hg
  rw [hg]
  simpa using h
 ·rename_i j want hg
  rw [hg]
  simp only
  split at h
  ·cases h
  ·rename_i p hp
   split at h
   ·cases h
   ·rename_i t ht
    split at h
    ·rename_i c hc
     have h1:=ha.at_ t _ hc
     have hy:yielded all a.tmps j=some c:=by
      simp [yielded,hp,ht,h1]
     rw [hy]
     simp only [Option.some.injEq] at h
     rw [←h]
     cases c<;>cases want<;>rfl
    ·cases h
theorem qvh {all:Array Oper} {o:Oper} {l:List Oper} (h:guardOf e all o=some true)
  (hk:Run P n Q (.ops all ({ o with guard:=none }::l)::k) e w):Run P n Q (.ops all (o::l)::k) e w:=by
 intro a ha
 have h1:=hk a ha
 show wpList P all (post P Q k) (o::l) a w
 have h2:wpList P all (post P Q k) ({ o with guard:=none }::l) a w:=h1
 have hw:=qjd ha h
 rw [wpList,if_pos hw]
 rw [wpList,if_pos (by simp [Region.wanted])] at h2
 exact h2
end
end Go.Fw


namespace Go.Fw
open Go
inductive TK where
 | int (k:IntKind)|bool|str|ptr|slice (e:Nat)|struct|arr (n e:Nat)|other
 deriving DecidableEq
structure TE where
 kind:TK
 size:Nat
 bytes:Nat
 zero:Option Value
 fields:List (Nat × Nat × Option Bool)
def TE.agg (t:TE):Bool:=match t.kind with|.struct=>true|.arr _ _=>true|_=>false
def aggO (P:Program) (t:TypeId):Option Bool:=(P.underlying t).map fun|.struct _=>true|.array _ _=>true|_=>false
def aggB (P:Program) (t:TypeId):Bool:=match P.underlying t with|some (.struct _)|some (.array _ _)=>true|_=>false
def probe (P:Program) (t:TypeId):Option TE :=
 match P.info? t,P.underlying t with
 | some i,some d=>some {
   kind:=match d with|.int k=>.int k|.bool=>.bool|.string=>.str|.pointer _=>.ptr|.slice e=>.slice e|.struct _=>.struct|.array n e=>.arr n e|_=>.other
   size:=i.size
   bytes:=i.bytes
   zero:=i.zero
   fields:=match d with|.struct fs=>fs.toList.map (fun f=>(f.offset,P.cellsOf f.type,aggO P f.type))|_=>[] }
 | _,_=>none
abbrev Tab:=List (Nat × TE)
def Tab.get:Tab→Nat→Option TE
 | [],_=>none
 | p::e,j=>match Nat.beq p.1 j with
  | true=>some p.2
  | false=>Tab.get e j
def TabOk (P:Program) (T:Tab):Prop:=∀ t x,T.get t=some x→probe P t=some x
theorem TabOk.mk {P:Program}:∀ {T:Tab},T.map (fun p=>probe P p.1)=T.map (fun p=>some p.2)→TabOk P T
 | [],_=>fun _ _ h=>by cases h
 | p::T,h=>by
  simp only [jU,List.cons.injEq] at h
  intro t x hx
  simp only [Tab.get] at hx
  cases hb:Nat.beq p.1 t with
  | true =>
   rw [hb] at hx
   simp only [Option.some.injEq] at hx
   rw [←beqT hb,h.1,hx]
  | false =>
   rw [hb] at hx
   exact TabOk.mk h.2 t x hx
section
variable {P:Program} {T:Tab}
theorem qeo {t:TypeId} {x:TE} (h:probe P t=some x):∃ i,P.info? t=some i∧i.size=x.size∧i.bytes=x.bytes∧i.zero=x.zero:=by
 unfold probe at h
 split at h
 ·rename_i i d hi hd
  simp only [Option.some.injEq] at h
  subst h
  exact ⟨i,hi,rfl,rfl,rfl⟩
 ·cases h
theorem qgO {t:TypeId} {x:TE} (h:probe P t=some x):∃ d,P.underlying t=some d∧x.kind=(match d with|.int k=>.int k|.bool=>.bool|.string=>.str|.pointer _=>.ptr|.slice e=>.slice e|.struct _=>.struct|.array n e=>.arr n e|_=>.other):=by
 unfold probe at h
 split at h
 ·rename_i i d hi hd
  simp only [Option.some.injEq] at h
  subst h
  exact ⟨d,hd,rfl⟩
 ·cases h
theorem qbW {t e:TypeId} {x:TE} (h:probe P t=some x) (hk:x.kind=.slice e):P.underlying t=some (.slice e):=by
 obtain ⟨d,hd,hx⟩:=qgO h
 rw [hk] at hx
 rw [hd]
 cases d<;>simp at hx
 rw [hx]
theorem qn3 {t:TypeId} {x:TE} (h:probe P t=some x) (hk:x.kind=.str):P.underlying t=some .string:=by
 obtain ⟨d,hd,hx⟩:=qgO h
 rw [hk] at hx
 rw [hd]
 cases d<;>simp at hx
 rfl
theorem qts {t:TypeId} {x:TE} (h:probe P t=some x) (hk:x.kind=.bool):P.underlying t=some .bool:=by
 obtain ⟨d,hd,hx⟩:=qgO h
 rw [hk] at hx
 rw [hd]
 cases d<;>simp at hx
 rfl
theorem qnO {t:TypeId} {x:TE} {k:IntKind} (h:probe P t=some x) (hk:x.kind=.int k):P.underlying t=some (.int k):=by
 obtain ⟨d,hd,hx⟩:=qgO h
 rw [hk] at hx
 rw [hd]
 cases d<;>simp at hx
 rw [hx]
theorem qt6 {t:TypeId} {x:TE} (h:probe P t=some x):aggB P t=x.agg:=by
 obtain ⟨d,hd,hx⟩:=qgO h
 unfold aggB TE.agg
 rw [hd,hx]
 cases d<;>rfl
theorem quB {t:TypeId} {x:TE} (h:probe P t=some x) (w:World):(isAgg t).run P w=.ok x.agg w:=by
 rw [←qt6 h]
 obtain ⟨d,hd,_⟩:=qgO h
 unfold isAgg aggB
 simp only [jj,run_underlying hd,jh,hd]
 cases d<;>rfl
theorem qgs {t:TypeId} {x:TE} (h:probe P t=some x) (w:World):(sizeOf t).run P w=.ok x.size w:=by
 obtain ⟨i,hi,hs,_⟩:=qeo h
 simp [sizeOf,typeInfo,hi,hs]
theorem qlc {t:TypeId} {x:TE} (h:probe P t=some x) {f off sz:Nat} {ag:Option Bool} (hf:x.fields[f]?=some (off,sz,ag)) :
  ∃ fs fl,P.underlying t=some (.struct fs)∧fs[f]?=some fl∧fl.offset=off∧P.cellsOf fl.type=sz∧aggO P fl.type=ag:=by
 unfold probe at h
 split at h
 ·rename_i i d hi hd
  simp only [Option.some.injEq] at h
  subst h
  cases d<;>simp at hf
  rename_i fs
  obtain ⟨fl,hfl,h1,h2,h3⟩:=hf
  exact ⟨fs,fl,hd,by simpa using hfl,h1,h2,h3⟩
 ·cases h
def ibin (op:BinOp) (k:IntKind) (a b:Int):Option Value :=
 match op with
 | .add=>some (.int k (k.wrap (a+b)))
 | .sub=>some (.int k (k.wrap (a-b)))
 | .mul=>some (.int k (k.wrap (a*b)))
 | .eql=>some (.bool (a==b))
 | .neq=>some (.bool (a != b))
 | .lss=>some (.bool (decide (a<b)))
 | .leq=>some (.bool (decide (a≤b)))
 | .gtr=>some (.bool (decide (a > b)))
 | .geq=>some (.bool (decide (a ≥ b)))
 | .quo=>match b with
  | .ofNat (m+1)=>some (.int k (k.wrap (a.tdiv (.ofNat (m+1)))))
  | _=>none
 | .rem=>match b with
  | .ofNat (m+1)=>some (.int k (a.tmod (.ofNat (m+1))))
  | _=>none
 | _=>none
theorem qvv {op:BinOp} {k:IntKind} {a b:Int} {v:Value} (h:ibin op k a b=some v) (t:TypeId) (w:World):(binOp op t (.int k a) (.int k b)).run P w=.ok v w:=by
 cases op<;>simp only [ibin,Option.some.injEq] at h
 case quo =>
  split at h
  ·simp only [Option.some.injEq] at h
   subst h
   rw [binOp]
   simp only [Op.intDiv,Int.ofNat_eq_natCast,ne_eq,not_true_eq_false,if_false]
   rw [if_neg (by omega)]
   rfl
  ·cases h
 case rem =>
  split at h
  ·simp only [Option.some.injEq] at h
   subst h
   rw [binOp]
   simp only [Op.intDiv,Int.ofNat_eq_natCast,ne_eq,not_true_eq_false,if_false]
   rw [if_neg (by omega)]
   rfl
  ·cases h
 all_goals first
  | (subst h;simp [binOp,Op.intArith,Op.intCmp];done)
  | cases h
def bbin (op:BinOp) (a b:Bool):Option Value :=
 match op with
 | .eql=>some (.bool (a==b))
 | .neq=>some (.bool (!(a==b)))
 | _=>none
def sbin (op:BinOp) (a b:ByteArray):Option Value :=
 match op with
 | .eql=>some (.bool (a.toList==b.toList))
 | .neq=>some (.bool (a.toList != b.toList))
 | _=>none
def opvs (e:Env):List Operand→Option (List Value)
 | []=>some []
 | x::l=>match opv e x,opvs e l with
  | some v,some vs=>some (v::vs)
  | _,_=>none
theorem qif {n:Nat} {e:Env} {a:Act} (ha:Agree n e a):∀ {l:List Operand} {vs:List Value},opvs e l=some vs→l.map a.eval=vs
 | [],vs,h=>by simp only [opvs,Option.some.injEq] at h;subst h;rfl
 | x::l,vs,h=>by
  simp only [opvs] at h
  split at h
  ·rename_i v ws hv hws
   simp only [Option.some.injEq] at h
   subst h
   rw [jU,ha.eval hv,qif ha hws]
  ·cases h
def imin (op:Builtin) (vs:List Value):Option Value :=
 match op,vs with
 | .min,[.int k a,.int _ b]=>some (.int k (if b<a then b else a))
 | .max,[.int k a,.int _ b]=>some (.int k (if b > a then b else a))
 | .min,[.int k a,.int _ b,.int _ c]=>some (.int k (if c<(if b<a then b else a) then c else (if b<a then b else a)))
 | .max,[.int k a,.int _ b,.int _ c]=>some (.int k (if c > (if b > a then b else a) then c else (if b > a then b else a)))
 | .len,[.slice _ l _]=>some (.int .i64 l)
 | .len,[.string s]=>some (.int .i64 s.size)
 | .cap,[.slice _ _ c]=>some (.int .i64 c)
 | _,_=>none
def setCells (cs:List Value) (off:Nat):List Value→List Value
 | []=>cs
 | v::l=>setCells (cs.set off v) (off+1) l
def cellsL (v:Value):List Value :=
 match v with
 | .agg cs=>cs.toList
 | v=>[v]
def lenKind (T:Tab) (ts:List TypeId) (vs:List Value):Bool :=
 match ts,vs with
 | [t],[.slice _ _ _]=>match T.get t with|some x=>(match x.kind with|.slice _=>true|_=>false)|none=>false
 | [t],[.string _]=>match T.get t with|some x=>(match x.kind with|.str=>true|_=>false)|none=>false
 | _,_=>false
def pev (T:Tab) (e:Env) (o:Op):Option Value :=
 match o with
 | .move x|.assign x=>opv e x
 | .pick c a b=>match opv e c with
  | some (.bool true)=>opv e a
  | some (.bool false)=>opv e b
  | _=>none
 | .binOp op t x y _=>match opv e x,opv e y with
  | some (.int k a),some (.int k' b)=>match decEq k k' with
   | .isTrue _=>ibin op k a b
   | .isFalse _=>none
  | some (.bool a),some (.bool b)=>match T.get t with
   | some te=>match te.kind with|.bool=>bbin op a b|_=>none
   | none=>none
  | some (.string a),some (.string b)=>sbin op a b
  | _,_=>none
 | .unOp .not _ x=>match opv e x with
  | some (.bool b)=>some (.bool (!b))
  | _=>none
 | .unOp .neg _ x=>match opv e x with
  | some (.int k a)=>some (.int k (k.wrap (0-a)))
  | _=>none
 | .fieldAddr t x f=>match opv e x,T.get t with
  | some (.pointer (some ⟨b,o,none⟩)),some te=>match te.fields[f]? with
   | some (off,sz,_)=>match sz with
    | 0=>none
    | _+1=>some (.pointer (some ⟨b,o+off,none⟩))
   | none=>none
  | _,_=>none
 | .field t x f=>match opv e x,T.get t with
  | some (.agg cs),some te=>match te.fields[f]? with
   | some (off,sz,some true)=>some (.agg (cs.extract off (off+sz)))
   | some (off,_,some false)=>cs.toList[off]?
   | _=>none
  | _,_=>none
 | .extract x i=>match opv e x with
  | some (.tuple vs)=>vs.toList[i]?
  | _=>none
 | .nilCheck x=>match opv e x with
  | some (.pointer (some a))=>some (.pointer (some a))
  | some (.func (.func f) x y)=>some (.func (.func f) x y)
  | _=>none
 | .makeFunc fn first cap=>match opvs e first.toList,opvs e cap.toList with
  | some vs,some us=>some (.func fn vs.toArray us.toArray)
  | _,_=>none
 | .convert s d x=>match opv e x,T.get s,T.get d with
  | some (.int _ a),some _,some te=>match te.kind with
   | .int k=>some (.int k (k.wrap a))
   | _=>none
  | _,_,_=>none
 | .call c=>match c.callee with
  | .builtin b=>match opvs e c.args.toList with
   | some vs=>match b with
    | .len=>match lenKind T c.argTypes.toList vs with|true=>imin .len vs|false=>none
    | .min=>imin .min vs
    | .max=>imin .max vs
    | _=>none
   | none=>none
  | _=>none
 | _=>none
theorem qfz {n:Nat} {e:Env} {a:Act} (ha:Agree n e a) {xs:Array Operand} {vs:List Value} (h:opvs e xs.toList=some vs):xs.map a.eval=vs.toArray:=by
 have:=qif ha h
 apply Array.ext'
 simpa using this
theorem ql6 (op:BinOp) (t:TypeId) (x y:Operand) (k k':IntKind) (a b:Int) (w:World):(eqGuard op t x y (.int k a) (.int k' b)).run P w=.ok () w:=by
 unfold eqGuard;split<;>rfl
theorem qrj (op:BinOp) (t:TypeId) (x y:Operand) (a b:Bool) (w:World):(eqGuard op t x y (.bool a) (.bool b)).run P w=.ok () w:=by
 unfold eqGuard;split<;>rfl
theorem qoj (op:BinOp) (t:TypeId) (x y:Operand) (a b:ByteArray) (w:World):(eqGuard op t x y (.string a) (.string b)).run P w=.ok () w:=by
 unfold eqGuard;split<;>rfl
theorem qn4 (d:Nat) {t:TypeId} (hu:P.underlying t=some .bool) (a b:Bool) (w:World):(Op.equalIn (d+1) t (.bool a) (.bool b)).run P w=.ok (a==b) w:=by
 simp [Op.equalIn,run_underlying hu]
theorem qv5 {op:BinOp} {t:TypeId} (hu:P.underlying t=some .bool) {a b:Bool} {v:Value} (h:bbin op a b=some v) (w:World):(binOp op t (.bool a) (.bool b)).run P w=.ok v w:=by
 have he:(Op.equal t (.bool a) (.bool b)).run P w=.ok (a==b) w:=by
  simp only [Op.equal,Op.maxDepth]
  exact qn4 9999 hu a b w
 cases op<;>simp only [bbin,Option.some.injEq] at h
 case eql=>subst h;rw [binOp]<;>first|(intros;contradiction)|simp only [jj,he,jh,jl]
 case neq=>subst h;rw [binOp]<;>first|(intros;contradiction)|simp only [jj,he,jh,jl]
 all_goals cases h
theorem qvW {op:BinOp} {t:TypeId} {a b:ByteArray} {v:Value} (h:sbin op a b=some v) (w:World):(binOp op t (.string a) (.string b)).run P w=.ok v w:=by
 cases op<;>simp only [sbin,Option.some.injEq] at h
 case eql=>subst h;simp [binOp,Op.stringOp]
 case neq=>subst h;simp [binOp,Op.stringOp,bne]
 all_goals cases h
theorem qnh {t:TypeId} {b:Bool} (h:aggO P t=some b) (w:World):(isAgg t).run P w=.ok b w:=by
 unfold aggO at h
 unfold isAgg
 cases hd:P.underlying t with
 | none=>rw [hd] at h;simp at h
 | some d=>rw [hd] at h;simp only [jV,Option.some.injEq] at h;simp only [jj,run_underlying hd,jh];cases d<;>subst h<;>rfl
theorem qqd {t:TypeId} {m:Nat} (h:P.cellsOf t=m+1) (w:World):(sizeOf t).run P w=.ok (m+1) w:=by
 unfold Program.cellsOf at h
 cases hi:P.info? t with
 | none=>rw [hi] at h;simp at h
 | some i=>rw [hi] at h;simp at h;simp [sizeOf,typeInfo,hi,h]
theorem qoo {t:TypeId} {b:Bool} {sz:Nat} (hb:aggO P t=some b) (h:P.cellsOf t=sz) (w:World):(sizeOf t).run P w=.ok sz w:=by
 unfold aggO Program.underlying at hb
 unfold Program.cellsOf at h
 cases hi:P.info? t with
 | none=>rw [hi] at hb;simp at hb
 | some i=>rw [hi] at h;simp at h;simp [sizeOf,typeInfo,hi,h]
theorem qr2 (hT:TabOk P T) {t:TypeId} {te:TE} {f off m:Nat} {ag:Option Bool} (hte:T.get t=some te) (hf:te.fields[f]?=some (off,m+1,ag)) (b o:Nat) (w:World) :
  (Instr.fieldAt t (.pointer (some ⟨b,o,none⟩)) f).run P w=.ok (.pointer (some ⟨b,o+off,none⟩)) w:=by
 obtain ⟨fs,fl,hu,hfl,h1,h2,h3⟩:=qlc (hT _ _ hte) hf
 have hsz:=qqd h2 w
 simp only [Instr.fieldAt,jj,run_underlying hu,jh,hfl,Instr.sureAddr,jl,fieldPlace,hsz,Nat.succ_ne_zero,if_false,h1,Addr.add]
 by_cases h0:off=0
 ·simp [h0]
 ·simp [h0]
theorem qqS (hT:TabOk P T) {t:TypeId} {te:TE} {f off sz:Nat} (hte:T.get t=some te) (hf:te.fields[f]?=some (off,sz,some true)) (cs:Array Value) (w:World) :
  (Instr.field t (.agg cs) f).run P w=.ok (.agg (cs.extract off (off+sz))) w:=by
 obtain ⟨fs,fl,hu,hfl,h1,h2,h3⟩:=qlc (hT _ _ hte) hf
 simp [Instr.field,run_underlying hu,hfl,asAgg,part,qnh h3,qoo h3 h2,h1]
theorem qqY (hT:TabOk P T) {t:TypeId} {te:TE} {f off sz:Nat} (hte:T.get t=some te) (hf:te.fields[f]?=some (off,sz,some false)) {cs:Array Value} {v:Value} (hv:cs.toList[off]?=some v) (w:World) :
  (Instr.field t (.agg cs) f).run P w=.ok v w:=by
 obtain ⟨fs,fl,hu,hfl,h1,h2,h3⟩:=qlc (hT _ _ hte) hf
 have hcs:cs[off]?=some v:=by simpa using hv
 simp [Instr.field,run_underlying hu,hfl,asAgg,part,qnh h3,h1,hcs]
theorem qwE (hT:TabOk P T) {ts:Array TypeId} {vs:List Value} {v:Value} (hk:lenKind T ts.toList vs=true) (h:imin .len vs=some v) (t:TypeId) (w:World) :
  (Builtin.len_ ts t vs.toArray).run P w=.ok v w:=by
 unfold lenKind at hk
 split at hk
 ·rename_i t' p l c hts
  simp only [imin,Option.some.injEq] at h
  subst h
  split at hk
  ·rename_i x hx
   split at hk
   ·rename_i e he
    have hu:=qbW (hT _ _ hx) he
    have ht0:ts[0]?=some t':=by rw [←Array.getElem?_toList,hts];rfl
    simp [Builtin.len_,ht0,run_underlying hu,goInt]
   ·cases hk
  ·cases hk
 ·rename_i t' s hts
  simp only [imin,Option.some.injEq] at h
  subst h
  split at hk
  ·rename_i x hx
   split at hk
   ·rename_i he
    have hu:=qn3 (hT _ _ hx) he
    have ht0:ts[0]?=some t':=by rw [←Array.getElem?_toList,hts];rfl
    simp [Builtin.len_,ht0,run_underlying hu,goInt]
   ·cases hk
  ·cases hk
 ·cases hk
theorem qwV {vs:List Value} {v:Value} (h:imin .min vs=some v) (ts:Array TypeId) (t:TypeId) (w:World):(Builtin.min_ ts t vs.toArray).run P w=.ok v w:=by
 unfold imin at h
 split at h<;>first|cases h;done|skip
 ·simp only [Option.some.injEq] at h
  subst h
  simp [Builtin.min_,Builtin.min2]
 ·rename_i hh;cases hh
 ·simp only [Option.some.injEq] at h
  subst h
  simp [Builtin.min_,Builtin.min2]
 all_goals (rename_i hh;first|cases hh;done|skip)
theorem qws {vs:List Value} {v:Value} (h:imin .max vs=some v) (ts:Array TypeId) (t:TypeId) (w:World):(Builtin.max_ ts t vs.toArray).run P w=.ok v w:=by
 unfold imin at h
 split at h<;>first|cases h;done|skip
 ·rename_i hh;cases hh
 ·simp only [Option.some.injEq] at h
  subst h
  simp [Builtin.max_,Builtin.max2]
 ·rename_i hh;cases hh
 ·simp only [Option.some.injEq] at h
  subst h
  simp [Builtin.max_,Builtin.max2]
 all_goals (rename_i hh;first|cases hh;done|skip)
section
variable {n:Nat} {e:Env} {a:Act}
theorem que (hT:TabOk P T) (ha:Agree n e a) {o:Oper} {v:Value} {op:BinOp} {t:TypeId} {x y:Operand} {t':TypeId} (ho:o.op=.binOp op t x y t') (h:pev T e (.binOp op t x y t')=some v) (w:World) :
  (execOp a.eval o).run P w=.ok (.value v) w:=by
 unfold execOp
 simp only [ho]
 simp only [pev] at h
 split at h
 ·rename_i k i k' j hx hy
  split at h
  ·rename_i hk _
   subst hk
   simp only [ha.eval hx,ha.eval hy,jj,ql6,jh,qvv h,jl]
  ·cases h
 ·rename_i i j hx hy
  split at h
  ·rename_i te hte
   split at h
   ·rename_i hk
    simp only [ha.eval hx,ha.eval hy,jj,qrj,jh,qv5 (qts (hT _ _ hte) hk) h,jl]
   ·cases h
  ·cases h
 ·rename_i i j hx hy
  simp only [ha.eval hx,ha.eval hy,jj,qoj,jh,qvW h,jl]
 ·cases h
theorem qv3 (hT:TabOk P T) (ha:Agree n e a) {o:Oper} {v:Value} {c:Call} (ho:o.op=.call c) (h:pev T e (.call c)=some v) (w:World) :
  (execOp a.eval o).run P w=.ok (.value v) w:=by
 obtain ⟨cal,args,ats⟩:=c
 unfold execOp
 simp only [ho]
 simp only [pev] at h
 split at h
 ·split at h
  ·rename_i vs hvs
   have hargs:=qfz ha hvs
   simp only [resolve,invoke,builtin,jj,jl,jh,hargs]
   split at h
   ·split at h
    ·rename_i hk
     simp only [qwE hT hk h,jj,jl,jh]
    ·cases h
   ·simp only [qwV h,jj,jl,jh]
   ·simp only [qws h,jj,jl,jh]
   ·cases h
  ·cases h
 ·cases h
theorem qvl (hT:TabOk P T) (ha:Agree n e a) {o:Oper} {v:Value} (h:pev T e o.op=some v) (w:World) :
  (execOp a.eval o).run P w=.ok (.value v) w:=by
 generalize ho:o.op=op at h
 cases op with
 | binOp op t x y t'=>exact que hT ha ho h w
 | call c=>exact qv3 hT ha ho h w
 | move x=>simp only [pev] at h;simp [execOp,ho,ha.eval h]
 | assign x=>simp only [pev] at h;simp [execOp,ho,ha.eval h]
 | pick c x y =>
  simp only [pev] at h
  split at h
  ·rename_i hc;simp [execOp,ho,ha.eval hc,ha.eval h,asBool]
  ·rename_i hc;simp [execOp,ho,ha.eval hc,ha.eval h,asBool]
  ·cases h
 | unOp op t x =>
  cases op<;>simp only [pev] at h
  case neg =>
   split at h
   ·rename_i hb;simp only [Option.some.injEq] at h;subst h;simp [execOp,ho,ha.eval hb,Op.unary,Op.intArith]
   ·cases h
  case not =>
   split at h
   ·rename_i hb;simp only [Option.some.injEq] at h;subst h;simp [execOp,ho,ha.eval hb,Op.unary]
   ·cases h
  all_goals cases h
 | fieldAddr t x f =>
  simp only [pev] at h
  split at h
  ·rename_i b o' te hb hte
   split at h
   ·rename_i off sz ag hf
    split at h
    ·cases h
    ·simp only [Option.some.injEq] at h
     subst h
     simp [execOp,ho,ha.eval hb,qr2 hT hte hf]
   ·cases h
  ·cases h
 | field t x f =>
  simp only [pev] at h
  split at h
  ·rename_i cs te hb hte
   split at h
   ·rename_i off sz hf
    simp only [Option.some.injEq] at h
    subst h
    simp [execOp,ho,ha.eval hb,qqS hT hte hf]
   ·rename_i off sz hf
    simp [execOp,ho,ha.eval hb,qqY hT hte hf h]
   ·cases h
  ·cases h
 | extract x i =>
  simp only [pev] at h
  split at h
  ·rename_i vs hb
   have hcs:vs[i]?=some v:=by simpa using h
   simp [execOp,ho,ha.eval hb,Instr.extract,hcs]
  ·cases h
 | nilCheck x =>
  simp only [pev] at h
  split at h
  ·rename_i ad hb
   simp only [Option.some.injEq] at h
   subst h
   simp [execOp,ho,ha.eval hb]
  ·rename_i f x y hb
   simp only [Option.some.injEq] at h
   subst h
   simp [execOp,ho,ha.eval hb]
  ·cases h
 | makeFunc fn x y =>
  simp only [pev] at h
  split at h
  ·rename_i vs us hv hu
   simp only [Option.some.injEq] at h
   subst h
   simp [execOp,ho,Instr.makeFunc,qfz ha hv,qfz ha hu]
  ·cases h
 | convert s d x =>
  simp only [pev] at h
  split at h
  ·rename_i k i ts te hx hs hd
   split at h
   ·rename_i k' hk
    simp only [Option.some.injEq] at h
    subst h
    have hu:=qnO (hT _ _ hd) hk
    obtain ⟨ds,hds,_⟩:=qgO (hT _ _ hs)
    simp only [execOp,ho,ha.eval hx,convert,jj,run_underlying hu,run_underlying hds,jh,Conv.intToInt,jl]
   ·cases h
  ·cases h
 | _=>cases h
end
theorem r_p (hT:TabOk P T) {n:Nat} {Q:Exit→Act→World→Prop} {k:List It} {e:Env} {w:World} {all:Array Oper} {l:List Oper} {op:Op} {d t:Nat} {ps:String} {af:Array Edge} {v:Value}
  (h:pev T e op=some v) (hn:Nat.blt d n=true) (hk:Run P n Q (.ops all l::k) ((d,v)::e) w):Run P n Q (.ops all (⟨some d,op,t,ps,af,none⟩::l)::k) e w :=
 qkg rfl rfl hn (fun _ ha=>qvl hT ha h w) hk
end
end Go.Fw


namespace Go.Fw
open Go
open Go.RowKit (Below)
def idx {α:Type} (xs:List α) (i:Int):Option α:=if 0≤i then xs[i.toNat]? else none
theorem qax {α:Type} {xs:List α} {i:Int} {x:α} (h:idx xs i=some x):0≤i∧i<xs.length∧xs[i.toNat]?=some x:=by
 unfold idx at h
 split at h
 ·rename_i h0
  have:=(List.getElem?_eq_some_iff.1 h).1
  exact ⟨h0,by omega,h⟩
 ·cases h
def CellsAt (w:World) (b o:Nat) (cs:List Value):Prop:=∀ j v,cs[j]?=some v→w.cell? ⟨b,o+j,none⟩=some v
section
variable {P:Program} {T:Tab} {n:Nat} {Q:Exit→Act→World→Prop} {k:List It} {e:Env} {w0 w w':World} {L:List Ch}
theorem CellsAt.loc {b o:Nat} {cs:List Value} (h:CellsAt w b o cs) (hb:w'.heap[b]?=w.heap[b]?):CellsAt w' b o cs :=
 fun j v hj=>by rw [World.cell?_of_block (w:=w) (a:=⟨b,o+j,none⟩) hb];exact h j v hj
theorem CellsAt.below {b o:Nat} {cs:List Value} (h:CellsAt w b o cs) (hb:Below w.heap.size w w'):CellsAt w' b o cs:=by
 by_cases hc:cs=[]
 ·subst hc;intro j v hj;simp at hj
 ·obtain ⟨v,cs',rfl⟩:=List.exists_cons_of_ne_nil hc
  have h0:=h 0 v rfl
  exact h.loc (hb.block b (World.block_lt_of_cell? w _ h0))
theorem CellsAt.of_block {b:Nat} {cur:Array Value} {t:TypeId} {fr:Nat × Nat} {o:Nat} {cs:List Value} (hg:w.heap[b]?=some (.cells cur t fr)) (h:∀ j v,cs[j]?=some v→cur[o+j]?=some v):CellsAt w b o cs:=by
 intro j v hj
 simp [World.cell?,hg,h j v hj]
theorem SH.box {b:Nat} {cs:List Value} {t:TypeId} (h:SH w0 w L) (i:Nat) (hi:L[i]?=some (Ch.box b cs t)):CellsAt w b 0 cs:=by
 have hg:w.heap[b]?=some (.cells cs.toArray t (0,0)):=(h.mem hi).1
 exact CellsAt.of_block hg (fun j v hj=>by simpa using hj)
theorem SlR.at {α:Type} [GoT α] {S:Nat→Prop} {xs:List α} {p c} {i:Int} {x:α} (h:SlR w S xs p c) (hx:idx xs i=some x) :
  ∃ b o q cs,p=some ⟨b,o,none⟩∧q=o+i.toNat*GoT.k α∧S b∧GoT.R w S x cs∧CellsAt w b q cs:=by
 obtain ⟨h0,hlt,hxi⟩:=qax hx
 obtain ⟨h1,h2,h3⟩:=h
 rcases h3 with ⟨_,rfl⟩|⟨b,o,cur,T,fr,rfl,hb,hg,hc,hx'⟩
 ·simp at hlt;omega
 ·obtain ⟨cs,hr,hj⟩:=hx' _ _ hxi
  exact ⟨b,o,_,cs,rfl,rfl,hb,hr,CellsAt.of_block hg hj⟩
theorem SH.oldS {α:Type} [GoT α] {xs:List α} {p c} (h:SH w0 w L) (hr:SlR w0 (Fw.old w0) xs p c):SlR w (Fw.old w) xs p c :=
 (hr.loc (fun b hb=>h.below.block b hb)).mono (fun _ hb=>jz hb h.below.size)
theorem SlR.below {α:Type} [GoT α] {xs:List α} {p c} (hr:SlR w (Fw.old w) xs p c) (h:Below w.heap.size w w'):SlR w' (Fw.old w') xs p c :=
 (hr.loc (fun b hb=>h.block b hb)).mono (fun _ hb=>jz hb h.size)
theorem SH.sl {α:Type} [GoT α] {S:Nat→Prop} {xs:List α} {p:Option Addr} {ln c:Nat} (h:SH w0 w L) (i:Nat) (hi:L[i]?=some (Ch.own S xs [.slice p ln c])):SlR w (Fw.old w) xs p c∧ln=xs.length:=by
 obtain ⟨h1,h2⟩:=h.mem hi
 obtain ⟨p',c',he,ho⟩:=h1
 simp only [List.cons.injEq,Value.slice.injEq,and_true] at he
 obtain ⟨rfl,rfl,rfl⟩:=he
 exact ⟨ho.toR.mono (fun b hb=>(h2 b hb).2),rfl⟩
def Val (P:Program) (n:Nat) (e:Env) (o:Oper) (w:World) (v:Value):Prop:=∀ a,Agree n e a→(execOp a.eval o).run P w=.ok (.value v) w
theorem v_p (hT:TabOk P T) {o:Oper} {v:Value} (h:pev T e o.op=some v) (w:World):Val P n e o w v:=fun _ ha=>qvl hT ha h w
theorem r_v {all:Array Oper} {l:List Oper} {op:Op} {d t:Nat} {ps:String} {af:Array Edge} {v:Value}
  (h:Val P n e ⟨some d,op,t,ps,af,none⟩ w v) (hn:Nat.blt d n=true) (hk:Run P n Q (.ops all l::k) ((d,v)::e) w):Run P n Q (.ops all (⟨some d,op,t,ps,af,none⟩::l)::k) e w :=
 qkg rfl rfl hn h hk
def ld (te:TE) (cs:List Value) (j:Nat):Option Value :=
 match te.agg with
 | true=>match Nat.ble (j+te.size) cs.length with
  | true=>some (.agg ((cs.drop j).take te.size).toArray)
  | false=>none
 | false=>cs[j]?
theorem qgm (b o j:Nat):(⟨b,o,none⟩:Addr).add j=⟨b,o+j,none⟩:=by
 unfold Addr.add;split<;>simp_all
theorem qpL (hT:TabOk P T) {t:TypeId} {te:TE} (hte:T.get t=some te) {b o j:Nat} {cs:List Value} {v:Value} (hc:CellsAt w b o cs) (hv:ld te cs j=some v) :
  (Instr.loadAt t (.pointer (some ⟨b,o+j,none⟩))).run P w=.ok v w:=by
 have hpr:=hT _ _ hte
 unfold ld at hv
 simp only [Instr.loadAt,Instr.sureAddr,loadVar,jj,jl,jh,quB hpr]
 split at hv
 ·rename_i hag
  split at hv
  ·rename_i hle
   simp only [Option.some.injEq] at hv
   subst hv
   have hle':j+te.size≤cs.length:=jt hle
   rw [if_pos hag]
   have hlen:((cs.drop j).take te.size).length=te.size:=by simp;omega
   have hl:=run_loadCells_list (P:=P) w ⟨b,o+j,none⟩ ((cs.drop j).take te.size) (fun i u hi=>by
    rw [qgm]
    rw [jr] at hi
    split at hi
    ·rw [jB] at hi
     have:=hc (j+i) u hi
     rw [Nat.add_assoc];exact this
    ·cases hi)
   rw [hlen] at hl
   simp only [jj,qgs hpr,jh,hl,jl]
  ·cases hv
 ·rename_i hag
  have:w.cell? ⟨b,o+j,none⟩=some v:=hc j v hv
  simp [hag,this]
theorem qim (hT:TabOk P T) {x:Operand} {t ty d:Nat} {te:TE} {ps:String} {af:Array Edge} {g:Option (Nat × Bool)} {b o j:Nat} {cs:List Value} {v:Value}
  (hc:CellsAt w b o cs) (hx:opv e x=some (.pointer (some ⟨b,o+j,none⟩))) (hte:T.get t=some te) (hv:ld te cs j=some v):Val P n e ⟨some d,.load t x,ty,ps,af,g⟩ w v:=by
 intro a ha
 simp only [execOp,ha.eval hx,jj,qpL hT hte hc hv,jh,jl]
theorem qng (hT:TabOk P T) {x i:Operand} {t ty d el m:Nat} {te te':TE} {ps:String} {af:Array Edge} {g:Option (Nat × Bool)} {p:Option Addr} {ln c:Nat} {kd:IntKind} {iv:Int} {b o q:Nat}
  (hp:p=some ⟨b,o,none⟩) (hq:q=o+iv.toNat*m) (hlt:0≤iv∧iv<ln) (hx:opv e x=some (.slice p ln c)) (hi:opv e i=some (.int kd iv))
  (hte:T.get t=some te) (hk:te.kind=.slice el) (hel:T.get el=some te') (hm:te'.size=m):Val P n e ⟨some d,.indexAddr t x i,ty,ps,af,g⟩ w (.pointer (some ⟨b,q,none⟩)):=by
 intro a ha
 subst hp hq
 have hu:=qbW (hT _ _ hte) hk
 have hs:=qgs (hT _ _ hel) w
 simp only [execOp,ha.eval hx,ha.eval hi,jj,Instr.indexAt,asIntOf,jl,jh,run_underlying hu]
 rw [if_pos hlt]
 simp only [jj,hs,jh,jl,qgm,hm]
def splice (cs:List Value) (j:Nat) (vs:List Value):List Value:=cs.take j++vs++cs.drop (j+vs.length)
theorem qdb (v:Value):v.cells.toList=cellsL v:=by cases v<;>rfl
def ones (vs:List Value):Bool:=vs.all Value.oneCell'
theorem qkf (hT:TabOk P T) {t:TypeId} {te:TE} (hte:T.get t=some te) {b o:Nat} {cur:Array Value} {t':TypeId} {v:Value} (hg:w.heap[b]?=some (.cells cur t' (0,0)))
  (hsz:(cellsL v).length=te.size) (hle:o+(cellsL v).length≤cur.size) (h1:ones (cellsL v)=true) :
  (Instr.storeAt t (.pointer (some ⟨b,o,none⟩)) v).run P w=.ok () (w.setRow b (splice cur.toList o (cellsL v)).toArray):=by
 have hpr:=hT _ _ hte
 have hst:=run_storeCells_at P b o t' (cellsL v) 0 cur w hg (by simpa using hle) (by simpa [ones] using h1)
 have hs:v.cells.size=te.size:=by rw [←hsz,←qdb];simp
 simp only [Instr.storeAt,Instr.sureAddr,storeVar,jj,jl,jh,qgs hpr,hs,ne_eq,not_true_eq_false,if_false,qdb,hst,splice,jY]
theorem qtg {b:Nat} {cs cs':List Value} {t:TypeId} {i:Nat} (h:SH w0 w L) (hi:L[i]?=some (Ch.box b cs t)):SH w0 (w.setRow b cs'.toArray) (L.set i (Ch.box b cs' t)):=by
 have hg:w.heap[b]?=some (.cells cs.toArray t (0,0)):=(h.mem hi).1
 refine h.upd hi rfl rfl rfl (by simp) (fun a _ ha=>setRow_other w b a _ ha) (setRow_heap w b _ _ t _ hg) (fun a ha=>.inl ha) (fun _ hd=>hd.elim)
theorem qwu (hT:TabOk P T) {all:Array Oper} {l:List Oper} {t ty:Nat} {ps:String} {af:Array Edge} {x v:Operand} {te:TE} {b j:Nat} {cs:List Value} {t':TypeId} {u:Value} (i:Nat)
  (h:SH w0 w L) (hi:L[i]?=some (Ch.box b cs t')) (hx:opv e x=some (.pointer (some ⟨b,j,none⟩))) (hv:opv e v=some u) (hte:T.get t=some te)
  (hsz:Nat.beq (cellsL u).length te.size=true) (hle:Nat.ble (j+(cellsL u).length) cs.length=true) (h1:ones (cellsL u)=true)
  (hk:∀ w',SH w0 w' (L.set i (Ch.box b (splice cs j (cellsL u)) t'))→Run P n Q (.ops all l::k) e w'):Run P n Q (.ops all (⟨none,.store t x v,ty,ps,af,none⟩::l)::k) e w:=by
 have hg:w.heap[b]?=some (.cells cs.toArray t' (0,0)):=(h.mem hi).1
 refine qq8 rfl rfl (fun a ha=>?_) (hk _ (qtg h hi))
 have:=qkf hT hte hg (beqT hsz) (by simpa using jt hle) h1
 simp only [execOp,ha.eval hx,ha.eval hv,jj,this,jh,jl]
theorem getElem?_splice {cs vs:List Value} {j i:Nat} (hle:j+vs.length≤cs.length):(splice cs j vs)[i]?=if i<j then cs[i]? else if i<j+vs.length then vs[i-j]? else cs[i]?:=by
 unfold splice
 have hj:(cs.take j).length=j:=by simp;omega
 rw [Jd,List.getElem?_append,hj]
 split
 ·rename_i h;rw [jr,if_pos h]
 ·rw [List.getElem?_append]
  split
  ·rename_i h1 h2;rw [if_pos (by omega)]
  ·rename_i h1 h2
   rw [if_neg (by omega),jB]
   congr 1
   omega
theorem qb4 {cs vs:List Value} {j:Nat} (hle:j+vs.length≤cs.length):(splice cs j vs).length=cs.length:=by
 unfold splice;simp;omega
theorem qwf {α:Type} [GoT α] [Flat α] {S:Nat→Prop} {xs:List α} {p:Option Addr} {ln c:Nat} {b o q j:Nat} {iv:Int} {y y':α} {cs vs:List Value} {i:Nat}
  (h:SH w0 w L) (hi:L[i]?=some (Ch.own S xs [.slice p ln c])) (hy:idx xs iv=some y) (hp:p=some ⟨b,o,none⟩) (hq:q=o+iv.toNat*GoT.k α) (hcs:GoT.R w (Fw.old w) y cs) (hc:CellsAt w b q cs)
  (hO:GoT.R w (Fw.old w) y' (splice cs j vs)) (hle:j+vs.length≤cs.length) :
  ∃ cur t,w.heap[b]?=some (.cells cur t (0,0))∧q+j+vs.length≤cur.size ∧
   SH w0 (w.setRow b (splice cur.toList (q+j) vs).toArray) (L.set i (Ch.own S (xs.set iv.toNat y') [.slice p ln c])):=by
 obtain ⟨hP,hS⟩:=h.mem hi
 obtain ⟨h0,hlt,hxi⟩:=qax hy
 obtain ⟨p',c',he,h1,h2,h3⟩:=hP
 simp only [List.cons.injEq,Value.slice.injEq,and_true] at he
 obtain ⟨rfl,rfl,rfl⟩:=he
 rcases h3 with ⟨rfl,_,_⟩|⟨b',cur,t,F,hpb,hb,hg,hcur,hF,hd,hx'⟩
 ·cases hp
 ·subst hp
  simp only [Option.some.injEq,Addr.mk.injEq,and_true] at hpb
  obtain ⟨rfl,rfl⟩:=hpb
  simp only [Ji] at hq
  subst hq
  have hk:=GoT.len hcs
  have hbound:iv.toNat*GoT.k α+GoT.k α≤cur.size:=by
   rw [hcur,←jP]
   exact ju _ (by have:=(List.getElem?_eq_some_iff.1 hxi).1;omega)
  have hfit:iv.toNat*GoT.k α+j+vs.length≤cur.toList.length:=by simp;omega
  refine ⟨cur,t,hg,by simpa using hfit,?_⟩
  refine h.upd hi rfl rfl rfl (by simp) (fun a _ ha=>setRow_other w b a _ (fun hab=>ha (hab ▸ hb))) ?_ (fun a ha=>.inl ha) (fun _ hd=>hd.elim)
  refine ⟨some ⟨b,0,none⟩,c,by simp,by simpa using h1,h2,.inr ⟨b,_,t,F,rfl,hb,setRow_heap w b _ _ t _ hg,?_,hF,hd,?_⟩⟩
  ·rw [jQ,qb4 hfit];simpa using hcur
  ·intro m x hm
   rw [List.getElem?_set] at hm
   split at hm
   ·rename_i hmi
    subst hmi
    split at hm
    ·simp only [Option.some.injEq] at hm
     subst hm
     refine ⟨_,Flat.fl hO,fun r v hr=>?_⟩
     rw [jF,getElem?_splice hfit]
     rw [getElem?_splice hle] at hr
     have hcell:∀ r v,cs[r]?=some v→cur.toList[iv.toNat*GoT.k α+r]?=some v:=by
      intro r v hr
      have:=hc r v hr
      simp only [World.cell?,hg] at this
      simpa using this
     split at hr
     ·rw [if_pos (by omega)];exact hcell _ _ hr
     ·split at hr
      ·rw [if_neg (by omega),if_pos (by omega)]
       rw [show iv.toNat*GoT.k α+r-(iv.toNat*GoT.k α+j)=r-j by omega]
       exact hr
      ·rw [if_neg (by omega),if_neg (by omega)]
       exact hcell _ _ hr
    ·cases hm
   ·rename_i hmi
    obtain ⟨cs',hr',hj'⟩:=hx' m x hm
    refine ⟨cs',Flat.fl (GoT.toR hr'),fun r v hr=>?_⟩
    have hr0:=hj' r v hr
    have hrk:r<GoT.k α:=by have:=GoT.len (GoT.toR hr');have:=(List.getElem?_eq_some_iff.1 hr).1;omega
    rw [jF,getElem?_splice hfit]
    have hne:m*GoT.k α+r<iv.toNat*GoT.k α∨iv.toNat*GoT.k α+GoT.k α≤m*GoT.k α+r:=by
     rcases Nat.lt_or_gt_of_ne hmi with hlt'|hlt'
     ·right
      have:(iv.toNat+1)*GoT.k α≤m*GoT.k α:=ju _ hlt'
      rw [jP] at this
      omega
     ·left
      have:(m+1)*GoT.k α≤iv.toNat*GoT.k α:=ju _ hlt'
      rw [jP] at this
      omega
    have hr0':cur.toList[m*GoT.k α+r]?=some v:=by simpa using hr0
    rcases hne with hne|hne
    ·rw [if_pos (by omega)];exact hr0'
    ·rw [if_neg (by omega),if_neg (by omega)];exact hr0'
theorem qaX (hT:TabOk P T) {α:Type} [GoT α] [Flat α] {all:Array Oper} {l:List Oper} {t ty:Nat} {ps:String} {af:Array Edge} {x v:Operand} {te:TE} {S:Nat→Prop} {xs:List α} {p:Option Addr} {ln c:Nat} {b o q:Nat} {iv:Int} {y:α} {cs:List Value} {u:Value} (i j:Nat) (y':α)
  (h:SH w0 w L) (hi:L[i]?=some (Ch.own S xs [.slice p ln c])) (hy:idx xs iv=some y) (hp:p=some ⟨b,o,none⟩) (hq:q=o+iv.toNat*GoT.k α) (hcs:GoT.R w (Fw.old w) y cs) (hc:CellsAt w b q cs)
  (hx:opv e x=some (.pointer (some ⟨b,q+j,none⟩))) (hv:opv e v=some u) (hte:T.get t=some te) (hO:GoT.R w (Fw.old w) y' (splice cs j (cellsL u)))
  (hsz:Nat.beq (cellsL u).length te.size=true) (hle:Nat.ble (j+(cellsL u).length) cs.length=true) (h1:ones (cellsL u)=true)
  (hk:∀ w',SH w0 w' (L.set i (Ch.own S (xs.set iv.toNat y') [.slice p ln c]))→Run P n Q (.ops all l::k) e w'):Run P n Q (.ops all (⟨none,.store t x v,ty,ps,af,none⟩::l)::k) e w:=by
 obtain ⟨cur,t',hg,hfit,hsh⟩:=qwf h hi hy hp hq hcs hc hO (jt hle)
 refine qq8 rfl rfl (fun a ha=>?_) (hk _ hsh)
 have:=qkf hT hte hg (beqT hsz) (by omega) h1
 simp only [execOp,ha.eval hx,ha.eval hv,jj,this,jh,jl]
theorem qu {all:Array Oper} {l:List Oper} {d t ty:Nat} {ps:String} {af:Array Edge} {x:Operand} {v:Value} (h:SH w0 w L) (hx:opv e x=some v) (hn:Nat.blt d n=true)
  (hk:∀ w' b,SH w0 w' (Ch.box b (cellsL v) t::L)→Run P n Q (.ops all l::k) ((d,.pointer (some ⟨b,0,none⟩))::e) w'):Run P n Q (.ops all (⟨some d,.box t x,ty,ps,af,none⟩::l)::k) e w:=by
 refine qkg rfl rfl hn (fun a ha=>?_) (hk _ _ (h.alloc (cellsL v) t))
 simp only [execOp,ha.eval hx,Instr.box,newVar,newRow,jj,run_newObj,jh,jl]
 rw [←qdb]
 rfl
theorem qA (hT:TabOk P T) {all:Array Oper} {l:List Oper} {d t ty:Nat} {ps:String} {af:Array Edge} {te:TE} {v:Value} (h:SH w0 w L) (hte:T.get t=some te) (hz:te.zero=some v) (hn:Nat.blt d n=true)
  (hk:∀ w' b,SH w0 w' (Ch.box b (cellsL v) t::L)→Run P n Q (.ops all l::k) ((d,.pointer (some ⟨b,0,none⟩))::e) w'):Run P n Q (.ops all (⟨some d,.alloc t,ty,ps,af,none⟩::l)::k) e w:=by
 obtain ⟨i,hi,_,_,hz'⟩:=qeo (hT _ _ hte)
 refine qkg rfl rfl hn (fun a ha=>?_) (hk _ _ (h.alloc (cellsL v) t))
 simp only [execOp,Instr.alloc,zeroValue,typeInfo,hi,hz',hz,newVar,newRow,jj,run_newObj,jh,jl,run_program]
 rw [←qdb]
 rfl
theorem SH.nil {α:Type} [GoT α] (h:SH w0 w L):SH w0 w (Ch.own (fun _=>False) ([]:List α) [.slice none 0 0]::L):=by
 refine h.add (Below.refl _ _) ?_ (fun b hb=>hb.elim) (fun _ hd=>hd.elim)
 exact ⟨none,0,rfl,by simp,by simp,.inl ⟨rfl,rfl,rfl⟩⟩
end
end Go.Fw


namespace Go.Fw
open Go
open Go.RowKit (Below)
def big:Nat:=2147483648
section
variable {P:Program} {T:Tab} {n:Nat} {Q:Exit→Act→World→Prop} {k:List It} {e:Env} {w0 w w':World} {L:List Ch}
theorem qq0 {z:List Value} {m i j:Nat} {v:Value} (_:0<z.length) (hi:i<m) (hj:z[j]?=some v):(madeCells z.toArray (m*z.length))[i*z.length+j]?=some v:=by
 have hjl:j<z.length:=(List.getElem?_eq_some_iff.1 hj).1
 have hlt:i*z.length+j<m*z.length:=by
  have:(i+1)*z.length≤m*z.length:=ju _ hi
  rw [jP] at this
  omega
 have hmod:(i*z.length+j) % z.length=j:=by
  rw [Nat.add_comm,Nat.add_mul_mod_self_right,Nat.mod_eq_of_lt hjl]
 unfold madeCells
 rw [Array.getElem?_map,Array.getElem?_range,if_pos hlt]
 simp only [jV,jQ,hmod,Option.some.injEq]
 have:z[j]=v:=(List.getElem?_eq_some_iff.1 hj).2
 simp [hjl,this]
theorem qxg (hT:TabOk P T) (α:Type) [GoT α] {all:Array Oper} {l:List Oper} {d t ty el:Nat} {ps:String} {af:Array Edge} {te te':TE} {x y:Operand} {kd kd':IntKind} {nv:Int} {zv:Value}
  (h:SH w0 w L) (hx:opv e x=some (.int kd nv)) (hy:opv e y=some (.int kd' nv)) (hte:T.get t=some te) (hk:te.kind=.slice el) (hel:T.get el=some te') (hz:te'.zero=some zv) (hzc:cellsL zv=GoT.zc α) (hsz:te'.size=GoT.k α)
  (hb:Nat.ble te'.bytes 65536=true) (h0:0≤nv) (hbig:nv≤big) (hn:Nat.blt d n=true)
  (hkk:∀ w' S p,SH w0 w' (Ch.own S (List.replicate nv.toNat (GoT.zero:α)) [.slice p nv.toNat nv.toNat]::L)→Run P n Q (.ops all l::k) ((d,.slice p nv.toNat nv.toNat)::e) w') :
  Run P n Q (.ops all (⟨some d,.makeSlice t x y,ty,ps,af,none⟩::l)::k) e w:=by
 obtain ⟨i,hi,hs,hby,hzi⟩:=qeo (hT _ _ hel)
 have hb':=jt hb
 have hbytes:(i.bytes:Int)*nv≤281474976710656:=by
  have h1:(i.bytes:Int)≤65536:=by omega
  have h2:(i.bytes:Int)*nv≤65536*nv:=Int.mul_le_mul_of_nonneg_right h1 h0
  unfold big at hbig
  omega
 have hr:=run_make (P:=P) w t el i zv (qbW (hT _ _ hte) hk) hi (hzi.trans hz) kd kd' nv nv h0 (Int.le_refl _) hbytes (by unfold big at hbig;omega)
 have hzl:zv.cells=(GoT.zc α).toArray:=by rw [←hzc,←qdb]
 rw [hzl,hs,hsz] at hr
 refine qkg (v:=.slice (some ⟨w.heap.size,0,none⟩) nv.toNat nv.toNat) (w':=w.alloc (.cells (madeCells (GoT.zc α).toArray (nv.toNat*GoT.k α)) el)) rfl rfl hn (fun a ha=>?_) (hkk _ (fun b=>b=w.heap.size) _ (h.add ((Below.refl _ _).alloc (jf _) _) ?_ ?_ (fun _ hd=>hd.elim)))
 ·simp only [execOp,ha.eval hx,ha.eval hy,jj,hr,jh,jl]
 ·have hzl':=GoT.len (GoT.toR (GoT.zO w (fun _=>False) (α:=α)))
  refine ⟨some ⟨w.heap.size,0,none⟩,nv.toNat,by simp,by simp,?_,.inr ⟨w.heap.size,_,el,fun _ _=>False,rfl,rfl,heap_alloc_new w _,?_,?_,?_,?_⟩⟩
  ·unfold big at hbig;simp [maxLen];omega
  ·rw [size_madeCells]
  ·intro _ _ hf;exact hf.elim
  ·intro _ _ _ _ hf;exact hf.elim
  ·intro j x hj
   rw [List.getElem?_replicate] at hj
   split at hj
   ·rename_i hlt
    simp only [Option.some.injEq] at hj
    subst hj
    refine ⟨_,GoT.zO _ _,fun r v hr'=>?_⟩
    have:=qq0 (z:=GoT.zc α) (m:=nv.toNat) (i:=j) (j:=r) (v:=v) (by rw [hzl'];exact GoT.kpos) hlt hr'
    rw [hzl'] at this
    exact this
   ·cases hj
 ·intro b hb
  have:b=w.heap.size:=hb
  subst this
  exact ⟨jf _,by simp⟩
def Cells2 {α:Type} [GoT α] (w:World) (S:Nat→Prop):List α→List (List Value)→Prop
 | [],[]=>True
 | x::xs,c::cs=>GoT.R w S x c∧Cells2 w S xs cs
 | _,_=>False
theorem Cells2.get {α:Type} [GoT α] {S:Nat→Prop}:∀ {xs:List α} {cs:List (List Value)},Cells2 w S xs cs→cs.flatten.length=xs.length*GoT.k α ∧
  ∀ i x,xs[i]?=some x→∃ c,GoT.R w S x c∧∀ j v,c[j]?=some v→cs.flatten[i*GoT.k α+j]?=some v
 | [],[],_=>⟨by simp,by simp⟩
 | x::xs,c::cs,h=>by
  obtain ⟨h1,h2⟩:=h
  obtain ⟨hl,hg⟩:=Cells2.get h2
  have hk:=GoT.len h1
  refine ⟨by rw [List.flatten_cons,jo,hl,hk,jZ,jP];omega,?_⟩
  intro i y hy
  cases i with
  | zero =>
   simp only [List.getElem?_cons_zero,Option.some.injEq] at hy
   subst hy
   refine ⟨c,h1,fun j v hj=>?_⟩
   have:=(List.getElem?_eq_some_iff.1 hj).1
   rw [Nat.zero_mul,Ji,List.flatten_cons,jq this]
   exact hj
  | succ i =>
   simp only [jL] at hy
   obtain ⟨c',hc',hj'⟩:=hg i y hy
   refine ⟨c',hc',fun j v hj=>?_⟩
   rw [List.flatten_cons,jy (by rw [hk,jP];omega)]
   rw [show (i+1)*GoT.k α+j-c.length=i*GoT.k α+j by rw [hk,jP];omega]
   exact hj' j v hj
 | [],_::_,h=>h.elim
 | _::_,[],h=>h.elim
theorem qqy:∀ (vs:List Value) (m:Nat) (off:Nat) (cells:Array Value),off+m+vs.length≤cells.size →
  ((vs.zipIdx m).foldl (fun (acc:Array Value) (p:Value × Nat)=>acc.setIfInBounds (off+p.2) p.1) cells)=(splice cells.toList (off+m) vs).toArray
 | [],m,off,cells,_=>by simp [splice]
 | v::vs,m,off,cells,h=>by
  rw [List.zipIdx_cons,List.foldl_cons,qqy vs (m+1) off _ (by simp at h ⊢;omega)]
  simp only [jZ] at h
  apply Array.ext_getElem?
  intro i
  rw [jF,jF,getElem?_splice (by simp;omega),getElem?_splice (by simp;omega)]
  simp only [jZ,Array.getElem?_toList,Array.getElem?_setIfInBounds]
  rcases Nat.lt_trichotomy i (off+m) with hi|hi|hi
  ·rw [if_pos (show i<off+(m+1) by omega),if_pos hi,if_neg (show ¬ off+m=i by omega)]
  ·subst hi
   rw [if_pos (show off+m<off+(m+1) by omega),if_neg (show ¬ off+m<off+m by omega),if_pos (show off+m<off+m+(vs.length+1) by omega),if_pos rfl,if_pos (show off+m<cells.size by omega)]
   simp
  ·rw [if_neg (show ¬ i<off+(m+1) by omega),if_neg (show ¬ i<off+m by omega)]
   by_cases h2:i<off+(m+1)+vs.length
   ·rw [if_pos h2,if_pos (show i<off+m+(vs.length+1) by omega)]
    rw [show i-(off+m)=(i-(off+(m+1)))+1 by omega,jL]
   ·rw [if_neg h2,if_neg (show ¬ i<off+m+(vs.length+1) by omega),if_neg (show ¬ off+m=i by omega)]
def fillS (place:Nat→Option (Nat × Nat)) (cells:List Value):List (Nat × Value)→Option (List Value)
 | []=>some cells
 | p::rest =>
  match place p.1 with
  | none=>none
  | some q=>match Nat.beq (cellsL p.2).length q.2,Nat.ble (q.1+(cellsL p.2).length) cells.length with
   | true,true=>fillS place (splice cells q.1 (cellsL p.2)) rest
   | _,_=>none
theorem qgX (place:Nat→Option (Nat × Nat)):∀ (parts:List (Nat × Value)) (cells cs:List Value),fillS place cells parts=some cs→Instr.fill place cells.toArray parts=some cs.toArray
 | [],cells,cs,h=>by simp only [fillS,Option.some.injEq] at h;subst h;rfl
 | (i,v)::rest,cells,cs,h=>by
  simp only [fillS] at h
  simp only [Instr.fill]
  split at h
  ·cases h
  ·rename_i q hq
   rw [hq]
   split at h
   ·rename_i h1 h2
    have h1':=beqT h1
    have h2':=jt h2
    have hs:v.cells.size=(cellsL v).length:=by rw [←qdb];simp
    have hf:=qqy (cellsL v) 0 q.1 cells.toArray (by simpa using h2')
    obtain ⟨qo,qs⟩:=q
    simp only at h1' h2' hf ⊢
    rw [if_neg (by simp [hs,h1'];omega)]
    have:(v.cells.zipIdx.foldl (fun (cs:Array Value) (x:Value × Nat)=>cs.setIfInBounds (qo+x.2) x.1) cells.toArray)=(splice cells qo (cellsL v)).toArray:=by
     rw [←Array.foldl_toList,Array.toList_zipIdx,qdb]
     simpa using hf
    rw [this]
    exact qgX place rest _ _ h
   ·cases h
theorem qlN (size:Nat):∀ (vs:List Value) (m:Nat) (pre post:List Value),pre.length=m*size→post.length=vs.length*size→(∀ v ∈ vs,(cellsL v).length=size) →
  fillS (fun i=>some (i*size,size)) (pre++post) ((vs.zipIdx m).map fun x=>(x.2,x.1))=some (pre++(vs.map cellsL).flatten)
 | [],m,pre,post,h1,h2,_=>by
  have:post=[]:=jE (by simpa using h2)
  subst this
  simp [fillS]
 | v::vs,m,pre,post,h1,h2,h3=>by
  have hv:=h3 v (by simp)
  simp only [jZ,jP] at h2
  rw [List.zipIdx_cons,jU]
  simp only [fillS]
  have hb1:Nat.beq (cellsL v).length size=true:=by rw [hv];exact beqR _
  have hb2:Nat.ble (m*size+(cellsL v).length) (pre++post).length=true:=Nat.ble_eq_true_of_le (by rw [jo,hv];omega)
  rw [hb1,hb2]
  simp only
  have hsp:splice (pre++post) (m*size) (cellsL v)=(pre++cellsL v)++post.drop size:=by
   unfold splice
   have e1:(pre++post).take (m*size)=pre:=by rw [←h1];exact List.take_left
   have e2:(pre++post).drop (m*size+size)=post.drop size:=by rw [←h1,List.drop_append,Ja (by omega),List.nil_append];congr 1;omega
   rw [e1,hv,e2]
  rw [hsp,qlN size vs (m+1) (pre++cellsL v) (post.drop size) (by rw [jo,hv,h1,jP]) (by rw [List.length_drop];omega) (fun u hu=>h3 u (by simp [hu]))]
  simp [Jd]
theorem qlj (hT:TabOk P T) {t el:Nat} {te te':TE} {zv:Value} (vs:List Value) (hte:T.get t=some te) (hk:te.kind=.slice el) (hel:T.get el=some te') (hz:te'.zero=some zv) (hsize:vs.length*te'.size≤16777216)
  (hvs:∀ v ∈ vs,(cellsL v).length=te'.size) (w:World) :
  (Instr.buildSlice t vs.length ((vs.zipIdx 0).map fun x=>(x.2,x.1)).toArray).run P w=.ok (.slice (some ⟨w.heap.size,0,none⟩) vs.length vs.length) (w.alloc (.cells (vs.map cellsL).flatten.toArray el)):=by
 obtain ⟨i,hi,hs,_,hzi⟩:=qeo (hT _ _ hel)
 have hu:=qbW (hT _ _ hte) hk
 by_cases h0:vs.length*te'.size=0
 ·have hne:(vs.map cellsL).flatten=[]:=by
   rcases Nat.mul_eq_zero.1 h0 with h|h
   ·have:=jE h;subst this;rfl
   ·rw [List.flatten_eq_nil_iff]
    intro l hl
    obtain ⟨v,hv,rfl⟩:=List.mem_map.1 hl
    exact jE ((hvs v hv).trans h)
  have hf:=qgX (fun i=>some (i*te'.size,te'.size)) _ _ _ (qlN te'.size vs 0 [] [] (by simp) (by simpa using h0.symm) hvs)
  rw [hne] at hf ⊢
  simp only [jM] at hf
  simp only [Instr.buildSlice,jj,run_underlying hu,jh,sizeOf,typeInfo,run_program,hi,jl,hs,h0,if_true]
  rw [if_neg (by omega)]
  simp only [jl,jh,Array.range_zero',Array.map_empty,hf,newRow,jj,run_newObj]
  rfl
 ·have hl:(madeCells zv.cells (vs.length*te'.size)).toList.length=vs.length*te'.size:=by simp [size_madeCells]
  have hf:=qgX (fun i=>some (i*te'.size,te'.size)) _ _ _ (qlN te'.size vs 0 [] (madeCells zv.cells (vs.length*te'.size)).toList (by simp) hl hvs)
  simp only [List.nil_append,Array.toArray_toList] at hf
  unfold madeCells at hf
  simp only [Instr.buildSlice,jj,run_underlying hu,jh,sizeOf,typeInfo,run_program,hi,jl,hs,h0,if_false]
  rw [if_neg (by omega)]
  simp only [jl,jj,jh,zeroValue,typeInfo,run_program,hi,hzi,hz,hf,newRow,run_newObj]
  rfl
end
end Go.Fw


namespace Go.Fw
open Go
open Go.RowKit (Below)
section
variable {P:Program} {T:Tab} {n:Nat} {Q:Exit→Act→World→Prop} {k:List It} {e:Env} {w0 w w':World} {L:List Ch}
def ElemsAt {α:Type} [GoT α] (w:World) (S:Nat→Prop) (ys:List α) (news:List Value):Prop :=
 news.length=ys.length*GoT.k α∧∀ i y,ys[i]?=some y→∃ cs,GoT.R w S y cs∧∀ j v,cs[j]?=some v→news[i*GoT.k α+j]?=some v
theorem ElemsAt.one {α:Type} [GoT α] {S:Nat→Prop} {ys:List α} {news:List Value} (h:ElemsAt w S ys news):∀ v ∈ news,v.oneCell'=true:=by
 intro v hv
 obtain ⟨r,hr,rfl⟩:=jI hv
 have hk:=GoT.kpos (α:=α)
 have hlt:r / GoT.k α<ys.length:=by rw [Nat.div_lt_iff_lt_mul hk,←h.1];exact hr
 obtain ⟨cs,hR,hj⟩:=h.2 (r / GoT.k α) _ (jg hlt)
 have hlen:=GoT.len hR
 have hm:r % GoT.k α<cs.length:=by rw [hlen];exact Nat.mod_lt _ hk
 have:=hj (r % GoT.k α) _ (jg hm)
 rw [Nat.mul_comm,Nat.div_add_mod] at this
 rw [jg hr,Option.some.injEq] at this
 rw [this]
 exact GoT.one hR _ (jp hm)
theorem ElemsAt.app {α:Type} [GoT α] {S:Nat→Prop} {xs ys:List α} {olds news:List Value} (h1:ElemsAt w S xs olds) (h2:ElemsAt w S ys news):ElemsAt w S (xs++ys) (olds++news):=by
 refine ⟨by rw [jo,jo,h1.1,h2.1,Nat.add_mul],fun i y hi=>?_⟩
 rw [List.getElem?_append] at hi
 split at hi
 ·rename_i hlt
  obtain ⟨cs,hR,hj⟩:=h1.2 i y hi
  refine ⟨cs,hR,fun j v hv=>?_⟩
  have hr:=hj j v hv
  rw [jq (List.getElem?_eq_some_iff.1 hr).1]
  exact hr
 ·rename_i hge
  obtain ⟨cs,hR,hj⟩:=h2.2 _ y hi
  refine ⟨cs,hR,fun j v hv=>?_⟩
  have hr:=hj j v hv
  have hle:xs.length*GoT.k α≤i*GoT.k α:=ju _ (by omega)
  rw [jy (by rw [h1.1];omega),h1.1]
  rw [show i*GoT.k α+j-xs.length*GoT.k α=(i-xs.length)*GoT.k α+j by rw [Nat.sub_mul];omega]
  exact hr
theorem SlR.cells {α:Type} [GoT α] {S:Nat→Prop} {ys:List α} {p:Option Addr} {c:Nat} (h:SlR w S ys p c) :
  ∃ news,ElemsAt w S ys news∧(Builtin.firstCells (GoT.k α) ys.length (.slice p ys.length c)).run P w=.ok news.toArray w∧(Builtin.firstCells (GoT.k α) ys.length (.slice p ys.length c)).run P w.drew=.ok news.toArray w.drew:=by
 obtain ⟨h1,h2,h3⟩:=h
 rcases h3 with ⟨_,rfl⟩|⟨b,o,cur,t,fr,rfl,hb,hg,hc,hx⟩
 ·cases p<;>exact ⟨[],⟨by simp,by simp⟩,by simp [Builtin.firstCells]<;>rfl,by simp [Builtin.firstCells]<;>rfl⟩
 ·have hle:ys.length*GoT.k α≤c*GoT.k α:=ju _ h1
  have hlen:((cur.toList.drop o).take (ys.length*GoT.k α)).length=ys.length*GoT.k α:=by simp;omega
  have hcell:∀ (w1:World),w1.heap[b]?=w.heap[b]?→∀ j v,((cur.toList.drop o).take (ys.length*GoT.k α))[j]?=some v→w1.cell? ((⟨b,o,none⟩:Addr).add j)=some v:=by
   intro w1 hw1 j v hj
   rw [jr] at hj
   split at hj
   ·rw [jB] at hj
    rw [qgm]
    simp only [World.cell?,hw1,hg]
    simpa using hj
   ·cases hj
  refine ⟨_,⟨hlen,fun i y hi=>?_⟩,run_firstCells_some w _ _ _ _ _ _ hlen (hcell w rfl),run_firstCells_some w.drew _ _ _ _ _ _ hlen (hcell w.drew rfl)⟩
  obtain ⟨cs,hR,hj⟩:=hx i y hi
  refine ⟨cs,hR,fun j v hv=>?_⟩
  have hjk:j<GoT.k α:=by have:=GoT.len hR;have:=(List.getElem?_eq_some_iff.1 hv).1;omega
  have hi':i<ys.length:=(List.getElem?_eq_some_iff.1 hi).1
  have hb2:(i+1)*GoT.k α≤ys.length*GoT.k α:=ju _ hi'
  rw [jP] at hb2
  rw [jr,if_pos (by omega),jB]
  have:=hj j v hv
  rw [←Nat.add_assoc]
  simpa using this
theorem SlO.elems {α:Type} [GoT α] {S:Nat→Prop} {ys:List α} {c:Nat} {cur:Array Value} (hcur:cur.size=c*GoT.k α) (hl:ys.length≤c)
  (hx:∀ i x,ys[i]?=some x→∃ cs,GoT.R w S x cs∧∀ j v,cs[j]?=some v→cur[i*GoT.k α+j]?=some v):ElemsAt w S ys (cur.toList.take (ys.length*GoT.k α)):=by
 have hle:ys.length*GoT.k α≤c*GoT.k α:=ju _ hl
 refine ⟨by simp;omega,fun i y hi=>?_⟩
 obtain ⟨cs,hR,hj⟩:=hx i y hi
 refine ⟨cs,hR,fun j v hv=>?_⟩
 have hjk:j<GoT.k α:=by have:=GoT.len hR;have:=(List.getElem?_eq_some_iff.1 hv).1;omega
 have hi':i<ys.length:=(List.getElem?_eq_some_iff.1 hi).1
 have hb2:(i+1)*GoT.k α≤ys.length*GoT.k α:=ju _ hi'
 rw [jP] at hb2
 rw [jr,if_pos (by omega)]
 simpa using hj j v hv
theorem SlO.of_elems {α:Type} [GoT α] [Flat α] {S S':Nat→Prop} {xs:List α} {b c:Nat} {cur:Array Value} {t:TypeId} (hl:xs.length≤c) (hm:c≤maxLen) (hb:S b) (hg:w'.heap[b]?=some (.cells cur t (0,0))) (hcur:cur.size=c*GoT.k α)
  {olds:List Value} (he:ElemsAt w S' xs olds) (ho:∀ (r:Nat) (v:Value),olds[r]?=some v→cur[r]?=some v):SlO w' S xs (some ⟨b,0,none⟩) c:=by
 refine ⟨hl,hm,.inr ⟨b,cur,t,fun _ _=>False,rfl,hb,hg,hcur,fun _ _ h=>h.elim,fun _ _ _ _ h=>h.elim,fun i x hi=>?_⟩⟩
 obtain ⟨cs,hR,hj⟩:=he.2 i x hi
 exact ⟨cs,Flat.fl hR,fun j v hv=>ho _ _ (hj j v hv)⟩
theorem qkH (t ty el:TypeId) (i:TypeInfo) (z:Value) (ht:P.underlying t=some (.slice el)) (hi:P.info? el=some i) (hz:i.zero=some z)
  (p p':Option Addr) (sLen sCap m c:Nat) (olds news:List Value) (hf:(Builtin.firstCells i.size m (.slice p' m c)).run P w.drew=.ok news.toArray w.drew) (hfo:(Builtin.firstCells i.size sLen (.slice p sLen sCap)).run P w.drew=.ok olds.toArray w.drew)
  (hg:sCap<sLen+m) (h63:((sLen+m:Nat):Int)≤9223372036854775807) (hfit:Builtin.nextslicecap (sLen+m) sCap*i.bytes≤281474976710656) :
  (Builtin.append_ #[t,t] ty #[.slice p sLen sCap,.slice p' m c]).run P w =
   .ok (.slice (some ⟨w.heap.size,0,none⟩) (sLen+m) (grownCap w (sLen+m) sCap el))
    (w.drew.alloc (.cells (olds.toArray++news.toArray++Builtin.zeroCells z.cells (grownCap w (sLen+m) sCap el-(sLen+m))) el)):=by
 have hn:¬ (sLen+m≤sCap):=by omega
 have h63':¬ (9223372036854775807<((sLen:Int)+(m:Int))):=by omega
 have h48':¬ (281474976710656<Builtin.nextslicecap (sLen+m) sCap*i.bytes):=by omega
 simp [Builtin.append_,run_underlying ht,sizeOf,typeInfo,zeroValue,hi,hz,Builtin.lenOf,hn,h63',h48',Question.forced,hf,hfo,newRow,grownCap]
 congr 2
 apply Array.ext'
 simp [Jd]
theorem qkU (t ty el:TypeId) (i:TypeInfo) (ht:P.underlying t=some (.slice el)) (hi:P.info? el=some i)
  (p':Option Addr) (g sLen sCap m c:Nat) (cur:Array Value) (t':TypeId) (hgc:w.heap[g]?=some (.cells cur t' (0,0))) (news:List Value) (hf:(Builtin.firstCells i.size m (.slice p' m c)).run P w=.ok news.toArray w) (h1:∀ u ∈ news,u.oneCell'=true)
  (hroom:sLen+m≤sCap) (hfit:sLen*i.size+news.length≤cur.size) :
  (Builtin.append_ #[t,t] ty #[.slice (some ⟨g,0,none⟩) sLen sCap,.slice p' m c]).run P w =
   .ok (.slice (some ⟨g,0,none⟩) (sLen+m) sCap) (w.setRow g (splice cur.toList (sLen*i.size) news).toArray):=by
 have hst:=run_storeCells_at P g (sLen*i.size) t' news 0 cur w hgc (by simpa using hfit) h1
 simp only [jY] at hst
 simp [Builtin.append_,run_underlying ht,sizeOf,typeInfo,hi,Builtin.lenOf,hroom,hf,Addr.add_lit,hst,splice]
theorem qkF (t ty el:TypeId) (i:TypeInfo) (ht:P.underlying t=some (.slice el)) (hi:P.info? el=some i) (p':Option Addr) (c:Nat) :
  (Builtin.append_ #[t,t] ty #[.slice none 0 0,.slice p' 0 c]).run P w=.ok (.slice none 0 0) w:=by
 cases p'<;>simp [Builtin.append_,run_underlying ht,sizeOf,typeInfo,hi,Builtin.lenOf,Builtin.firstCells,loadCells,loadCellsFrom]
theorem qw2 (hT:TabOk P T) {α:Type} [GoT α] [Flat α] {S:Nat→Prop} {xs ys:List α} {p p':Option Addr} {ln c c' t ty el i:Nat} {te te':TE} {zv:Value}
  (h:SH w0 w L) (hi:L[i]?=some (Ch.own S xs [.slice p ln c])) (hs:SlR w (Fw.old w) ys p' c') (hte:T.get t=some te) (hk:te.kind=.slice el) (hel:T.get el=some te') (hz:te'.zero=some zv) (hzs:(cellsL zv).length=te'.size) (hsz:te'.size=GoT.k α)
  (hb:Nat.ble te'.bytes 65536=true) (hbig:xs.length+ys.length≤big) :
  ∃ p2 c2 S2 w',(Builtin.append_ #[t,t] ty #[.slice p ln c,.slice p' ys.length c']).run P w=.ok (.slice p2 (xs.length+ys.length) c2) w'∧SH w0 w' (L.set i (Ch.own S2 (xs++ys) [.slice p2 (xs.length+ys.length) c2])):=by
 obtain ⟨inf,hinf,hs1,hby,hz1⟩:=qeo (hT _ _ hel)
 have hu:=qbW (hT _ _ hte) hk
 have hb':=jt hb
 have hln:=(h.sl i hi).2
 subst hln
 have hsize:inf.size=GoT.k α:=hs1.trans hsz
 obtain ⟨news,hnE,hnR,hnD⟩:=hs.cells (P:=P)
 rw [←hsize] at hnR hnD
 obtain ⟨hP,hS⟩:=h.mem hi
 obtain ⟨p0,c0,he,h1,h2,h3⟩:=hP
 simp only [List.cons.injEq,Value.slice.injEq,and_true,true_and] at he
 obtain ⟨rfl,rfl⟩:=he
 unfold big at hbig
 have hmax:(2147483648:Nat)≤maxLen:=by simp [maxLen]
 have grow:∀ (olds:List Value),ElemsAt w (Fw.old w) xs olds→(Builtin.firstCells inf.size xs.length (.slice p xs.length c)).run P w.drew=.ok olds.toArray w.drew→c<xs.length+ys.length →
   ∃ p2 c2 S2 w',(Builtin.append_ #[t,t] ty #[.slice p xs.length c,.slice p' ys.length c']).run P w=.ok (.slice p2 (xs.length+ys.length) c2) w'∧SH w0 w' (L.set i (Ch.own S2 (xs++ys) [.slice p2 (xs.length+ys.length) c2])):=by
  intro olds hoE hoD hlt
  have hfit:Builtin.nextslicecap (xs.length+ys.length) c*inf.bytes≤281474976710656:=by
   refine growslice_fits hlt ?_
   have:(xs.length+ys.length)*inf.bytes≤2147483648*65536:=Nat.mul_le_mul hbig (by omega)
   omega
  have hr:=qkH (P:=P) (w:=w) t ty el inf zv hu hinf (hz1.trans hz) p p' xs.length c ys.length c' olds news hnD hoD hlt (by omega) hfit
  have hge:=grownCap_ge w (xs.length+ys.length) c el
  have hcm:=grownCap_le_maxLen w (xs.length+ys.length) c el (by omega)
  refine ⟨_,_,fun b=>b=w.heap.size,_,hr,?_⟩
  refine h.upd hi rfl rfl rfl (by simp) (fun b hb' _=>heap_alloc_old w.drew _ hb') ?_ ?_ (fun _ hd=>hd.elim)
  ·refine ⟨_,_,by rw [jo],?_⟩
   refine SlO.of_elems (w:=w) (S':=Fw.old w) (olds:=olds++news) (by simpa using hge) hcm rfl (heap_alloc_new w.drew _) ?_ (hoE.app hnE) ?_
   ·have hzl:zv.cells.size=GoT.k α:=by rw [←hsz,←hzs,←qdb];simp
    simp only [Array.size_append,jQ,size_zeroCells,hoE.1,hnE.1,hzl,←Nat.add_mul]
    congr 1
    omega
   ·intro r v hr'
    have hlt':=(List.getElem?_eq_some_iff.1 hr').1
    rw [jX (by simpa using hlt')]
    simpa using hr'
  ·intro b hb'
   have:b=w.heap.size:=hb'
   subst this
   exact .inr ⟨jf _,by simp⟩
 rcases h3 with ⟨rfl,rfl,rfl⟩|⟨b,cur,t',F,rfl,hSb,hg,hcur,hF,hd,hx⟩
 ·by_cases hy:ys.length=0
  ·refine ⟨none,0,S,w,by simpa [hy] using qkF (P:=P) (w:=w) t ty el inf hu hinf p' c',?_⟩
   have:ys=[]:=jE hy
   subst this
   refine h.upd hi rfl rfl rfl (jf _) (fun _ _ _=>rfl) ?_ (fun a ha=>.inl ha) (fun _ hd=>hd.elim)
   exact ⟨none,0,by simp,by simp,by simp,.inl ⟨rfl,by simp,rfl⟩⟩
  ·exact grow [] ⟨by simp,by simp⟩ (by simp [Builtin.firstCells]) (by simp;omega)
 ·have hoE:ElemsAt w (Fw.old w) xs (cur.toList.take (xs.length*GoT.k α)):=SlO.elems hcur h1 (fun j x hj=>by
   obtain ⟨cs,hO,hj'⟩:=hx j x hj
   exact ⟨cs,GoT.mono (GoT.toR hO) (fun a ha=>(hS a (hF j a ha).1).2),hj'⟩)
  by_cases hroom:xs.length+ys.length≤c
  ·have hle:(xs.length+ys.length)*GoT.k α≤c*GoT.k α:=ju _ hroom
   rw [Nat.add_mul] at hle
   have hfit:xs.length*inf.size+news.length≤cur.size:=by rw [hnE.1,hsize,hcur];exact hle
   have hr:=qkU (P:=P) (w:=w) t ty el inf hu hinf p' b xs.length c ys.length c' cur t' hg news hnR hnE.one hroom hfit
   refine ⟨_,_,S,_,hr,?_⟩
   refine h.upd hi rfl rfl rfl (by simp) (fun a _ ha=>setRow_other w b a _ (fun hab=>ha (hab ▸ hSb))) ?_ (fun a ha=>.inl ha) (fun _ hd=>hd.elim)
   refine ⟨_,_,by rw [jo],?_⟩
   refine SlO.of_elems (w:=w) (S':=Fw.old w) (olds:=cur.toList.take (xs.length*GoT.k α)++news) (by simpa using hroom) h2 hSb (setRow_heap w b _ _ t' _ hg) ?_ (hoE.app hnE) ?_
   ·rw [jQ,qb4 (by simpa using hfit)];simpa using hcur
   ·intro r v hr'
    rw [jF,hsize]
    have hlt':=(List.getElem?_eq_some_iff.1 hr').1
    have hr2:(cur.toList.take (xs.length*GoT.k α)++news++cur.toList.drop (xs.length*GoT.k α+news.length))[r]?=some v:=by
     rw [jq hlt'];exact hr'
    exact hr2
  ·have hfo:=run_firstCells_some (P:=P) w.drew inf.size xs.length ⟨b,0,none⟩ xs.length c (cur.toList.take (xs.length*GoT.k α)) (by rw [hoE.1,hsize]) (fun j v hj=>by
    rw [qgm]
    rw [jr] at hj
    split at hj
    ·have:w.drew.heap[b]?=w.heap[b]?:=rfl
     simp only [World.cell?,this,hg]
     simpa using hj
    ·cases hj)
   exact grow _ hoE hfo (by omega)
theorem qok (hT:TabOk P T) {α:Type} [GoT α] [Flat α] {all:Array Oper} {l:List Oper} {d t ty el:Nat} {ps:String} {af:Array Edge} {x y:Operand} {S:Nat→Prop} {xs ys:List α} {p p':Option Addr} {ln ln' c c':Nat} {te te':TE} {zv:Value} (i:Nat)
  (h:SH w0 w L) (hi:L[i]?=some (Ch.own S xs [.slice p ln c])) (hs:SlR w (Fw.old w) ys p' c') (hl':ln'=ys.length) (hx:opv e x=some (.slice p ln c)) (hy:opv e y=some (.slice p' ln' c'))
  (hte:T.get t=some te) (hk:te.kind=.slice el) (hel:T.get el=some te') (hz:te'.zero=some zv) (hzs:(cellsL zv).length=te'.size) (hsz:te'.size=GoT.k α)
  (hb:Nat.ble te'.bytes 65536=true) (hbig:xs.length+ys.length≤big) (hn:Nat.blt d n=true)
  (hkk:∀ w' p2 c2 S2,SH w0 w' (L.set i (Ch.own S2 (xs++ys) [.slice p2 (xs.length+ys.length) c2]))→Run P n Q (.ops all l::k) ((d,.slice p2 (xs.length+ys.length) c2)::e) w') :
  Run P n Q (.ops all (⟨some d,.call ⟨.builtin .append,#[x,y],#[t,t]⟩,ty,ps,af,none⟩::l)::k) e w:=by
 subst hl'
 obtain ⟨p2,c2,S2,w',hr,hsh⟩:=qw2 hT (ty:=ty) h hi hs hte hk hel hz hzs hsz hb hbig
 refine qkg rfl rfl hn (fun a ha=>?_) (hkk w' p2 c2 S2 hsh)
 simp only [execOp,resolve,invoke,builtin,jj,jl,jh,List.map_toArray,jU,List.map_nil,ha.eval hx,ha.eval hy,hr]
theorem qG (hT:TabOk P T) {α:Type} [GoT α] [Flat α] {all:Array Oper} {l:List Oper} {d t ty el len:Nat} {ps:String} {af:Array Edge} {parts:Array (Nat × Operand)} {te te':TE} {zv:Value} (os:List Operand) (vs:List Value) (ys:List α)
  (h:SH w0 w L) (hparts:parts.toList=(os.zipIdx 0).map fun x=>(x.2,x.1)) (hvs:opvs e os=some vs) (hlen:len=vs.length)
  (hte:T.get t=some te) (hk:te.kind=.slice el) (hel:T.get el=some te') (hz:te'.zero=some zv) (hsz:te'.size=GoT.k α) (hsmall:Nat.ble (vs.length*te'.size) 16777216=true)
  (hc:Cells2 w (Fw.old w) ys (vs.map cellsL)) (hn:Nat.blt d n=true)
  (hkk:∀ w' p S,SH w0 w' (Ch.own S ys [.slice p len len]::L)→Run P n Q (.ops all l::k) ((d,.slice p len len)::e) w') :
  Run P n Q (.ops all (⟨some d,.buildSlice t len parts,ty,ps,af,none⟩::l)::k) e w:=by
 have hlenys:∀ {ys:List α} {cs:List (List Value)},Cells2 w (Fw.old w) ys cs→ys.length=cs.length∧∀ c ∈ cs,c.length=GoT.k α:=by
  intro ys
  induction ys with
  | nil=>intro cs hc;cases cs with
   | nil=>simp
   | cons=>exact hc.elim
  | cons y ys ih =>
   intro cs hc
   cases cs with
   | nil=>exact hc.elim
   | cons c cs =>
    obtain ⟨h1,h2⟩:=hc
    have:=ih h2
    refine ⟨by simp [this.1],fun d hd=>?_⟩
    rcases List.mem_cons.1 hd with rfl|hd
    ·exact GoT.len h1
    ·exact this.2 d hd
 obtain ⟨hl1,hl2⟩:=hlenys hc
 have hcs:∀ v ∈ vs,(cellsL v).length=te'.size:=fun v hv=>by rw [hsz];exact hl2 _ (List.mem_map.2 ⟨v,hv,rfl⟩)
 have hr:=qlj hT vs hte hk hel hz (jt hsmall) hcs w
 subst hlen
 obtain ⟨hfl,hfe⟩:=hc.get
 refine qkg (v:=.slice (some ⟨w.heap.size,0,none⟩) vs.length vs.length) (w':=w.alloc (.cells (vs.map cellsL).flatten.toArray el)) rfl rfl hn (fun a ha=>?_)
  (hkk _ _ (fun b=>b=w.heap.size) (h.add ((Below.refl _ _).alloc (jf _) _) ?_ ?_ (fun _ hd=>hd.elim)))
 ·have hev:parts.map (fun (x:Nat × Operand)=>(x.1,a.eval x.2))=((vs.zipIdx 0).map fun x=>(x.2,x.1)).toArray:=by
   apply Array.ext'
   rw [Array.toList_map,hparts]
   have:=qif ha hvs
   subst this
   rw [List.zipIdx_map,List.map_map,List.map_map]
   rfl
  simp only [execOp,hev,jj,hr,jh,jl]
 ·have hl3:ys.length=vs.length:=by simpa using hl1
  refine ⟨some ⟨w.heap.size,0,none⟩,vs.length,by rw [hl3],?_⟩
  have hsm:vs.length≤maxLen:=by
   have h1:=jt hsmall
   have h2:vs.length*1≤vs.length*te'.size:=Nat.mul_le_mul_left _ (by rw [hsz];exact GoT.kpos)
   simp [maxLen]
   omega
  refine SlO.of_elems (w:=w) (S':=Fw.old w) (olds:=(vs.map cellsL).flatten) (by rw [hl3];exact jf _) hsm rfl (heap_alloc_new w _) ?_ ⟨hfl,hfe⟩ (fun r v hr'=>by simpa using hr')
  rw [jQ,hfl,hl3]
 ·intro b hb
  have:b=w.heap.size:=hb
  subst this
  exact ⟨jf _,by simp⟩
end
end Go.Fw


namespace Go.Fw
open Go
open Go.RowKit (Below)
@[reducible] def pairT {α β:Type} (A:GoT α) (B:GoT β):GoT (α × β) where
 k:=A.k+B.k
 agg:=true
 zero:=(A.zero,B.zero)
 zc:=A.zc++B.zc
 R w S x cs:=∃ c1 c2,cs=c1++c2∧A.R w S x.1 c1∧B.R w S x.2 c2
 O w S x cs:=∃ S1 S2:Nat→Prop,∃ c1 c2,cs=c1++c2∧A.O w S1 x.1 c1∧B.O w S2 x.2 c2∧(∀ b,S1 b→S b∧¬ S2 b)∧(∀ b,S2 b→S b)
 kpos:=by have:=A.kpos;omega
 noagg h:=by cases h
 len h:=by obtain ⟨c1,c2,rfl,h1,h2⟩:=h;rw [jo,A.len h1,B.len h2]
 one h c hc:=by
  obtain ⟨c1,c2,rfl,h1,h2⟩:=h
  rcases List.mem_append.1 hc with hc|hc
  ·exact A.one h1 c hc
  ·exact B.one h2 c hc
 loc h hs:=by obtain ⟨c1,c2,rfl,h1,h2⟩:=h;exact ⟨c1,c2,rfl,A.loc h1 hs,B.loc h2 hs⟩
 mono h hs:=by obtain ⟨c1,c2,rfl,h1,h2⟩:=h;exact ⟨c1,c2,rfl,A.mono h1 hs,B.mono h2 hs⟩
 toR h:=by obtain ⟨S1,S2,c1,c2,rfl,h1,h2,h3,h4⟩:=h;exact ⟨c1,c2,rfl,A.mono (A.toR h1) (fun b hb=>(h3 b hb).1),B.mono (B.toR h2) h4⟩
 locO h hs:=by obtain ⟨S1,S2,c1,c2,rfl,h1,h2,h3,h4⟩:=h;exact ⟨S1,S2,c1,c2,rfl,A.locO h1 (fun b hb=>hs b (h3 b hb).1),B.locO h2 (fun b hb=>hs b (h4 b hb)),h3,h4⟩
 monoO h hs:=by obtain ⟨S1,S2,c1,c2,rfl,h1,h2,h3,h4⟩:=h;exact ⟨S1,S2,c1,c2,rfl,h1,h2,fun b hb=>⟨hs b (h3 b hb).1,(h3 b hb).2⟩,fun b hb=>hs b (h4 b hb)⟩
 zO w S:=⟨fun _=>False,fun _=>False,_,_,rfl,A.zO w _,B.zO w _,fun _ h=>h.elim,fun _ h=>h.elim⟩
@[reducible] def isoT {α β:Type} (A:GoT α) (f:β→α) (z:β) (hz:f z=A.zero) (ag:Bool) (hag:ag=false→A.k=1):GoT β where
 k:=A.k
 agg:=ag
 zero:=z
 zc:=A.zc
 R w S x cs:=A.R w S (f x) cs
 O w S x cs:=A.O w S (f x) cs
 kpos:=A.kpos
 noagg:=hag
 len h:=A.len h
 one h:=A.one h
 loc h hs:=A.loc h hs
 mono h hs:=A.mono h hs
 toR h:=A.toR h
 locO h hs:=A.locO h hs
 monoO h hs:=A.monoO h hs
 zO w S:=by rw [hz];exact A.zO w S
theorem qbQ {α β:Type} (A:GoT α) (B:GoT β) (ha:@Flat α A) (hb:@Flat β B):@Flat (α × β) (pairT A B) :=
 @Flat.mk _ (pairT A B) (by
  intro w w' S S' x cs h
  obtain ⟨c1,c2,rfl,h1,h2⟩:=h
  exact ⟨fun _=>False,fun _=>False,c1,c2,rfl,ha.fl h1,hb.fl h2,fun _ h=>h.elim,fun _ h=>h.elim⟩) (by
  intro w w' S S' x cs cs' h h'
  obtain ⟨c1,c2,rfl,h1,h2⟩:=h
  obtain ⟨d1,d2,rfl,h3,h4⟩:=h'
  rw [ha.det h1 h3,hb.det h2 h4])
theorem qiU {α β:Type} (A:GoT α) (f:β→α) (z:β) (hz:f z=A.zero) (ag:Bool) (hag:ag=false→A.k=1) (ha:@Flat α A):@Flat β (isoT A f z hz ag hag) :=
 @Flat.mk _ (isoT A f z hz ag hag) (by intro w w' S S' x cs h;exact ha.fl h) (by intro w w' S S' x cs cs' h h';exact ha.det h h')
class GoVs (ρ:Type) where
 Vs:World→(Nat→Prop)→ρ→List Value→Prop
instance vsOne {α:Type} [GoT α]:GoVs α where
 Vs w S x vs:=∃ cs,vs=[GoT.v α cs]∧GoT.O w S x cs
instance (priority:=high) vsCons {α β:Type} [GoT α] [GoVs β]:GoVs (α × β) where
 Vs w S x vs:=∃ S1 S2:Nat→Prop,∃ cs us,vs=GoT.v α cs::us∧GoT.O w S1 x.1 cs∧GoVs.Vs w S2 x.2 us∧(∀ b,S1 b→S b∧¬ S2 b)∧(∀ b,S2 b→S b)
def tup:List Value→Value
 | [v]=>v
 | vs=>.tuple vs.toArray
def RetV {ρ:Type} [GoVs ρ] (P:Program) (f:FuncId) (vs:List Value) (w:World) (r:ρ):Prop :=
 Calls P f vs.toArray w fun e w'=>∃ v,e=.returned v∧Below w.heap.size w w'∧∃ us,v=tup us∧GoVs.Vs w' (fresh w w') r us
structure SHV (w0 w:World) (S:Nat→Prop) (L:List Ch):Prop where
 sh:SH w0 w L
 fr:∀ b,S b→fresh w0 w b
 ap:∀ c ∈ L,∀ b,c.S b→¬ S b
section
variable {P:Program} {T:Tab} {n:Nat} {Q:Exit→Act→World→Prop} {k:List It} {e:Env} {w0 w w':World} {L:List Ch} {S:Nat→Prop}
theorem SHV.push {c:Ch} {S2:Nat→Prop} (h:SHV w0 w S L) (hp:c.P w) (hD:∀ b,c.D b→b<w0.heap.size) (h1:∀ b,c.S b→S b∧¬ S2 b) (h2:∀ b,S2 b→S b):SHV w0 w S2 (c::L):=by
 refine ⟨⟨h.sh.below,fun d hd=>?_,fun d hd=>?_,List.pairwise_cons.2 ⟨fun d hd b hc hdb=>h.ap d hd b hdb (h1 b hc).1,h.sh.apart⟩⟩,fun b hb=>h.fr b (h2 b hb),fun d hd b hdb hb=>?_⟩
 ·rcases List.mem_cons.1 hd with rfl|hd
  ·exact ⟨hp,fun b hb=>h.fr b (h1 b hb).1⟩
  ·exact h.sh.holds d hd
 ·rcases List.mem_cons.1 hd with rfl|hd
  ·exact hD
  ·exact h.sh.elder d hd
 ·rcases List.mem_cons.1 hd with rfl|hd
  ·exact (h1 b hdb).2 hb
  ·exact h.ap d hd b hdb (h2 b hb)
theorem SHV.cons {α β:Type} [GoT α] [GoVs β] {r:α × β} {vs:List Value} (h:SHV w0 w S L) (hv:GoVs.Vs w S r vs) :
  ∃ S1 S2 cs us,vs=GoT.v α cs::us∧SHV w0 w S2 (Ch.own S1 r.1 cs::L)∧GoVs.Vs w S2 r.2 us:=by
 obtain ⟨S1,S2,cs,us,rfl,h1,h2,h3,h4⟩:=hv
 exact ⟨S1,S2,cs,us,rfl,h.push (c:=Ch.own S1 r.1 cs) h1 (fun _ hd=>hd.elim) h3 h4,h2⟩
theorem SHV.last {α:Type} [GoT α] {r:α} {vs:List Value} (h:SHV w0 w S L) (hv:(vsOne:GoVs α).Vs w S r vs):∃ cs,vs=[GoT.v α cs]∧SH w0 w (Ch.own S r cs::L):=by
 obtain ⟨cs,rfl,h1⟩:=hv
 exact ⟨cs,rfl,(h.push (c:=Ch.own S r cs) (S2:=fun _=>False) h1 (fun _ hd=>hd.elim) (fun b hb=>⟨hb,fun h=>h⟩) (fun _ h=>h.elim)).sh⟩
theorem SHV.consI {β:Type} [GoVs β] {r:Int × β} {vs:List Value} (h:SHV w0 w S L) (hv:GoVs.Vs w S r vs):∃ S2 us,vs=.int .i64 r.1::us∧SHV w0 w S2 L∧GoVs.Vs w S2 r.2 us:=by
 obtain ⟨S1,S2,cs,us,rfl,h1,h2,h3,h4⟩:=hv
 have:cs=[.int .i64 r.1]:=h1
 subst this
 exact ⟨S2,us,rfl,⟨h.sh,fun b hb=>h.fr b (h4 b hb),fun c hc b hcb hb=>h.ap c hc b hcb (h4 b hb)⟩,h2⟩
theorem SHV.consL {α β:Type} [GoT α] [GoVs β] {r:List α × β} {vs:List Value} (h:SHV w0 w S L) (hv:GoVs.Vs w S r vs) :
  ∃ S1 S2 p c us,vs=.slice p r.1.length c::us∧SHV w0 w S2 (Ch.own S1 r.1 [.slice p r.1.length c]::L)∧GoVs.Vs w S2 r.2 us:=by
 obtain ⟨S1,S2,cs,us,rfl,h',h2⟩:=h.cons hv
 obtain ⟨p,c,rfl,_⟩:=(h'.sh.mem (i:=0) rfl).1
 exact ⟨S1,S2,p,c,us,rfl,h',h2⟩
theorem SHV.lastI {r:Int} {vs:List Value} (h:SHV w0 w S L) (hv:(vsOne:GoVs Int).Vs w S r vs):vs=[.int .i64 r]∧SH w0 w L:=by
 obtain ⟨cs,rfl,h1⟩:=hv
 have:cs=[.int .i64 r]:=h1
 subst this
 exact ⟨rfl,h.sh⟩
theorem SHV.lastB {r:Bool} {vs:List Value} (h:SHV w0 w S L) (hv:(vsOne:GoVs Bool).Vs w S r vs):vs=[.bool r]∧SH w0 w L:=by
 obtain ⟨cs,rfl,h1⟩:=hv
 have:cs=[.bool r]:=h1
 subst this
 exact ⟨rfl,h.sh⟩
theorem SHV.lastS {r:ByteArray} {vs:List Value} (h:SHV w0 w S L) (hv:(vsOne:GoVs ByteArray).Vs w S r vs):vs=[.string r]∧SH w0 w L:=by
 obtain ⟨cs,rfl,h1⟩:=hv
 have:cs=[.string r]:=h1
 subst this
 exact ⟨rfl,h.sh⟩
theorem SHV.lastL {α:Type} [GoT α] {r:List α} {vs:List Value} (h:SHV w0 w S L) (hv:(vsOne:GoVs (List α)).Vs w S r vs):∃ p c,vs=[.slice p r.length c]∧SH w0 w (Ch.own S r [.slice p r.length c]::L):=by
 obtain ⟨cs,rfl,h'⟩:=h.last hv
 obtain ⟨p,c,rfl,_⟩:=(h'.mem (i:=0) rfl).1
 exact ⟨p,c,rfl,h'⟩
def qe3 (P:Program) (f:FuncId):Prop:=∃ fn,P.funcs[f]?=some fn∧fn.body.isSome=true∧(fn.name== "runtime.NumGoroutine")=false
theorem qjE {a:Act} (ha:Agree n e a) {d ty:Nat} {ps:String} {af:Array Edge} {g:Option (Nat × Bool)} {x:Operand} {args:Array Operand} {ats:Array TypeId} {f:FuncId} {fi ca:Array Value} {az:List Value}
  (hcall:qe3 P f) (hx:opv e x=some (.func (.func f) fi ca)) (hargs:opvs e args.toList=some az) (w:World) :
  (execOp a.eval ⟨some d,.call ⟨.value x,args,ats⟩,ty,ps,af,g⟩).run P w=.ok (.enter f (fi.toList++az++ca.toList).toArray) w:=by
 obtain ⟨fn,hf,hb,hn⟩:=hcall
 have hb':fn.body.isNone=false:=by simpa using hb
 have harg:=qfz ha hargs
 simp only [execOp,resolve,Deferred.ofValue,jj,jl,jh,ha.eval hx,invoke,callFunc,run_program,hf,hn,hb',harg,Bool.false_eq_true,if_false]
 congr 2
 apply Array.ext'
 simp
theorem qdj {ρ:Type} [GoVs ρ] (r:ρ) {all:Array Oper} {l:List Oper} {d ty:Nat} {ps:String} {af:Array Edge} {x:Operand} {args:Array Operand} {ats:Array TypeId} {f:FuncId} {fi ca:Array Value} {az vs:List Value}
  (h:SH w0 w L) (hcall:qe3 P f) (hc:RetV P f vs w r) (hx:opv e x=some (.func (.func f) fi ca)) (hargs:opvs e args.toList=some az) (hvs:fi.toList++az++ca.toList=vs) (hn:Nat.blt d n=true)
  (hk:∀ w' S us,SHV w0 w' S L→GoVs.Vs w' S r us→Run P n Q (.ops all l::k) ((d,tup us)::e) w'):Run P n Q (.ops all (⟨some d,.call ⟨.value x,args,ats⟩,ty,ps,af,none⟩::l)::k) e w:=by
 subst hvs
 refine qm5 (R:=fun v w'=>Below w.heap.size w w'∧∃ us,v=tup us∧GoVs.Vs w' (fresh w w') r us) rfl rfl hn (fun a ha=>qjE ha hcall hx hargs w) hc ?_
 rintro v w' ⟨hb,us,rfl,hv⟩
 refine hk w' _ us ⟨h.ext hb,fun b hb'=>⟨?_,hb'.2⟩,fun c hc b hcb hb'=>?_⟩ hv
 ·have:=hb'.1;have:=h.below.size;omega
 ·have:=((h.holds c hc).2 b hcb).2;have:=hb'.1;omega
theorem qtU (r:Int) {all:Array Oper} {l:List Oper} {d ty:Nat} {ps:String} {af:Array Edge} {x:Operand} {args:Array Operand} {ats:Array TypeId} {f:FuncId} {fi ca:Array Value} {az vs:List Value}
  (h:SH w0 w L) (hcall:qe3 P f) (hc:RetV P f vs w r) (hx:opv e x=some (.func (.func f) fi ca)) (hargs:opvs e args.toList=some az) (hvs:fi.toList++az++ca.toList=vs) (hn:Nat.blt d n=true)
  (hk:∀ w',SH w0 w' L→Run P n Q (.ops all l::k) ((d,.int .i64 r)::e) w'):Run P n Q (.ops all (⟨some d,.call ⟨.value x,args,ats⟩,ty,ps,af,none⟩::l)::k) e w :=
 qdj r h hcall hc hx hargs hvs hn (fun w' S us hv hr=>by obtain ⟨rfl,h'⟩:=hv.lastI hr;exact hk w' h')
theorem qqR (r:Bool) {all:Array Oper} {l:List Oper} {d ty:Nat} {ps:String} {af:Array Edge} {x:Operand} {args:Array Operand} {ats:Array TypeId} {f:FuncId} {fi ca:Array Value} {az vs:List Value}
  (h:SH w0 w L) (hcall:qe3 P f) (hc:RetV P f vs w r) (hx:opv e x=some (.func (.func f) fi ca)) (hargs:opvs e args.toList=some az) (hvs:fi.toList++az++ca.toList=vs) (hn:Nat.blt d n=true)
  (hk:∀ w',SH w0 w' L→Run P n Q (.ops all l::k) ((d,.bool r)::e) w'):Run P n Q (.ops all (⟨some d,.call ⟨.value x,args,ats⟩,ty,ps,af,none⟩::l)::k) e w :=
 qdj r h hcall hc hx hargs hvs hn (fun w' S us hv hr=>by obtain ⟨rfl,h'⟩:=hv.lastB hr;exact hk w' h')
theorem qwZ (r:ByteArray) {all:Array Oper} {l:List Oper} {d ty:Nat} {ps:String} {af:Array Edge} {x:Operand} {args:Array Operand} {ats:Array TypeId} {f:FuncId} {fi ca:Array Value} {az vs:List Value}
  (h:SH w0 w L) (hcall:qe3 P f) (hc:RetV P f vs w r) (hx:opv e x=some (.func (.func f) fi ca)) (hargs:opvs e args.toList=some az) (hvs:fi.toList++az++ca.toList=vs) (hn:Nat.blt d n=true)
  (hk:∀ w',SH w0 w' L→Run P n Q (.ops all l::k) ((d,.string r)::e) w'):Run P n Q (.ops all (⟨some d,.call ⟨.value x,args,ats⟩,ty,ps,af,none⟩::l)::k) e w :=
 qdj r h hcall hc hx hargs hvs hn (fun w' S us hv hr=>by obtain ⟨rfl,h'⟩:=hv.lastS hr;exact hk w' h')
theorem qq7 {α:Type} [GoT α] (r:List α) {all:Array Oper} {l:List Oper} {d ty:Nat} {ps:String} {af:Array Edge} {x:Operand} {args:Array Operand} {ats:Array TypeId} {f:FuncId} {fi ca:Array Value} {az vs:List Value}
  (h:SH w0 w L) (hcall:qe3 P f) (hc:RetV P f vs w r) (hx:opv e x=some (.func (.func f) fi ca)) (hargs:opvs e args.toList=some az) (hvs:fi.toList++az++ca.toList=vs) (hn:Nat.blt d n=true)
  (hk:∀ w' S p c,SH w0 w' (Ch.own S r [.slice p r.length c]::L)→Run P n Q (.ops all l::k) ((d,.slice p r.length c)::e) w'):Run P n Q (.ops all (⟨some d,.call ⟨.value x,args,ats⟩,ty,ps,af,none⟩::l)::k) e w :=
 qdj r h hcall hc hx hargs hvs hn (fun w' S us hv hr=>by obtain ⟨p,c,rfl,h'⟩:=hv.lastL hr;exact hk w' S p c h')
theorem qwj {α:Type} [GoT α] (r:α) {all:Array Oper} {l:List Oper} {d ty:Nat} {ps:String} {af:Array Edge} {x:Operand} {args:Array Operand} {ats:Array TypeId} {f:FuncId} {fi ca:Array Value} {az vs:List Value}
  (h:SH w0 w L) (hcall:qe3 P f) (hc:RetV P f vs w r) (hx:opv e x=some (.func (.func f) fi ca)) (hargs:opvs e args.toList=some az) (hvs:fi.toList++az++ca.toList=vs) (hn:Nat.blt d n=true)
  (hk:∀ w' S cs,SH w0 w' (Ch.own S r cs::L)→Run P n Q (.ops all l::k) ((d,GoT.v α cs)::e) w'):Run P n Q (.ops all (⟨some d,.call ⟨.value x,args,ats⟩,ty,ps,af,none⟩::l)::k) e w :=
 qdj r h hcall hc hx hargs hvs hn (fun w' S us hv hr=>by obtain ⟨cs,rfl,h'⟩:=hv.last hr;exact hk w' S cs h')
def argEnv:Nat→List Value→Env
 | _,[]=>[]
 | i,v::vs=>(i,v)::argEnv (i+1) vs
theorem qjT:∀ (vs:List Value) (i j:Nat) (v:Value),(argEnv i vs).get j=some v→i≤j∧vs[j-i]?=some v
 | [],_,_,_,h=>by cases h
 | u::vs,i,j,v,h=>by
  simp only [argEnv,Env.get] at h
  cases hb:Nat.beq i j with
  | true =>
   rw [hb] at h
   simp only [Option.some.injEq] at h
   have:=beqT hb
   subst this h
   simp
  | false =>
   rw [hb] at h
   obtain ⟨h1,h2⟩:=qjT vs (i+1) j v h
   refine ⟨by omega,?_⟩
   rw [show j-i=(j-(i+1))+1 by omega,jL]
   exact h2
theorem qrO {ρ:Type} [GoVs ρ] {f:FuncId} {fn:Func} {c:Code} {vs:List Value} {r:ρ} {m:Nat} (hf:P.funcs[f]?=some fn) (hb:fn.body=some c) (hm:fn.ntmps=m) (hn:Nat.ble vs.length m=true)
  (h:SH w w []→Run P m (bodyPost P fn fun e w'=>∃ v,e=.returned v∧Below w.heap.size w w'∧∃ us,v=tup us∧GoVs.Vs w' (fresh w w') r us) [.code c] (argEnv 0 vs) w):RetV P f vs w r:=by
 subst hm
 have hn':=jt hn
 refine calls_of_wp hf hb ?_
 have hr:=h (SH.start w)
 have hag:Agree fn.ntmps (argEnv 0 vs) { tmps:=vs.toArray++Array.replicate (fn.ntmps-vs.toArray.size) undef,defers:=[] }:=by
  refine ⟨rfl,by simp;omega,fun i v hi=>?_⟩
  obtain ⟨_,h2⟩:=qjT vs 0 i v hi
  simp only [Nat.sub_zero] at h2
  have hlt:=(List.getElem?_eq_some_iff.1 h2).1
  rw [jX (by simpa using hlt)]
  simpa using h2
 have h1:=hr _ hag
 refine wp_mono h1 ?_
 intro ex a' w' hq
 cases ex<;>exact hq
def ResOk (T:Tab) (e:Env) (w:World):List ResultVar→List Value→Prop
 | [],[]=>True
 | .tmp t::rs,v::vs=>e.get t=some v∧ResOk T e w rs vs
 | .cell a t::rs,v::vs=>(∃ b cs te,e.get a=some (.pointer (some ⟨b,0,none⟩))∧T.get t=some te∧CellsAt w b 0 cs∧ld te cs 0=some v)∧ResOk T e w rs vs
 | _,_=>False
def resOne (tmps:Array Value):ResultVar→Sem Value
 | .tmp t=>pure (tmps.getD t undef)
 | .cell a t=>do loadVar t (←asAddr (tmps.getD a undef))
theorem qtx (fn:Func) (tmps:Array Value):results fn tmps=(do
  let vs ←fn.results.mapM (resOne tmps)
  pure (if h:vs.size=1 then vs[0] else .tuple vs)):=rfl
theorem qlY (hT:TabOk P T) {a:Act} (ha:Agree n e a):∀ {rs:List ResultVar} {vs:List Value},ResOk T e w rs vs→(rs.mapM (resOne a.tmps)).run P w=.ok vs w
 | [],[],_=>rfl
 | .tmp t::rs,v::vs,h=>by
  have h1:=ha.at_ t v h.1
  have ih:=qlY hT ha h.2
  have h0:(resOne a.tmps (.tmp t)).run P w=.ok v w:=by simp [resOne,Array.getD_eq_getD_getElem?,h1]
  simp only [List.mapM_cons,jj,jl,jh,ih,h0]
 | .cell x t::rs,v::vs,h=>by
  obtain ⟨⟨b,cs,te,hx,hte,hc,hl⟩,h2⟩:=h
  have h1:=ha.at_ x _ hx
  have ih:=qlY hT ha h2
  have hld:=qpL (P:=P) (w:=w) hT hte (o:=0) (j:=0) hc hl
  simp only [Instr.loadAt,Instr.sureAddr,jj,jl,jh] at hld
  have h0:(resOne a.tmps (.cell x t)).run P w=.ok v w:=by
   simp only [resOne,Array.getD_eq_getD_getElem?,h1,Option.getD_some,asAddr,jj,jl,jh]
   exact hld
  simp only [List.mapM_cons,jj,jl,jh,ih,h0]
 | [],_::_,h=>h.elim
 | .tmp _::_,[],h=>h.elim
 | .cell _ _::_,[],h=>h.elim
theorem qjw (hT:TabOk P T) {a:Act} (ha:Agree n e a) {fn:Func} {us:List Value} (hr:ResOk T e w fn.results.toList us):(results fn a.tmps).run P w=.ok (tup us) w:=by
 have h1:=qlY (w:=w) hT ha hr
 rw [qtx,jj]
 have h2:(fn.results.mapM (resOne a.tmps)).run P w=.ok us.toArray w:=by
  rw [←Array.toArray_toList (xs:=fn.results),List.mapM_toArray]
  simp only [Sem.run_map]
  rw [h1]
  rfl
 rw [h2]
 simp only [jh,jl]
 congr 1
 match us with
 | []=>rfl
 | [v]=>simp [tup]
 | _::_::_=>simp [tup]
theorem qak (hT:TabOk P T) {fn:Func} {ρ:Type} [GoVs ρ] {r:ρ} (us:List Value) (h:SH w0 w L) (hr:ResOk T e w fn.results.toList us) (hv:GoVs.Vs w (fresh w0 w) r us) :
  Run P n (bodyPost P fn fun e w'=>∃ v,e=.returned v∧Below w0.heap.size w0 w'∧∃ us,v=tup us∧GoVs.Vs w' (fresh w0 w') r us) (.code .ret::k) e w :=
 qtK fun _ ha=>⟨ha.defers,tup us,qjw hT ha hr,tup us,rfl,h.below,us,rfl,hv⟩
theorem qu2 (r:Int) (S:Nat→Prop):GoVs.Vs w S r [.int .i64 r]:=⟨[.int .i64 r],rfl,rfl⟩
theorem qwv (r:Bool) (S:Nat→Prop):GoVs.Vs w S r [.bool r]:=⟨[.bool r],rfl,rfl⟩
theorem qsH (r:ByteArray) (S:Nat→Prop):GoVs.Vs w S r [.string r]:=⟨[.string r],rfl,rfl⟩
def Within (L:List Ch) (I:List Nat) (S:Nat→Prop):Prop:=∀ b,S b→∃ i c,i ∈ I∧L[i]?=some c∧c.S b
def PO (w:World) (L:List Ch) (I:List Nat) {α:Type} [GoT α] (r:α) (cs:List Value):Prop:=∃ S,GoT.O w S r cs∧Within L I S
def PV (w:World) (L:List Ch) (I:List Nat) {ρ:Type} [GoVs ρ] (r:ρ) (us:List Value):Prop:=∃ S,GoVs.Vs w S r us∧Within L I S
theorem qay {α:Type} [GoT α] {r:α} {cs:List Value} {S:Nat→Prop} (i:Nat) (h:SH w0 w L) (hi:L[i]?=some (Ch.own S r cs)):PO w L [i] r cs :=
 ⟨S,(h.mem hi).1,fun _ hb=>⟨i,_,by simp,hi,hb⟩⟩
theorem qy {α:Type} [GoT α] [Flat α] {r:α} {cs:List Value} {S:Nat→Prop} (h:GoT.R w S r cs):PO w L [] r cs :=
 ⟨fun _=>False,Flat.fl h,fun _ h=>h.elim⟩
def apartB (I J:List Nat):Bool:=I.all fun i=>J.all fun j=>!(Nat.beq i j)
theorem qhN {I J:List Nat} {S1 S2:Nat→Prop} (h:SH w0 w L) (h1:Within L I S1) (h2:Within L J S2) (hb:apartB I J=true):∀ b,S1 b→¬ S2 b:=by
 intro b hb1 hb2
 obtain ⟨i,c,hi,hic,hcb⟩:=h1 b hb1
 obtain ⟨j,d,hj,hjd,hdb⟩:=h2 b hb2
 have hne:i ≠ j:=by
  intro hij
  subst hij
  have h3:=List.all_eq_true.1 hb i hi
  have h4:=List.all_eq_true.1 h3 i hj
  rw [beqR] at h4
  cases h4
 have hil:=(List.getElem?_eq_some_iff.1 hic)
 have hjl:=(List.getElem?_eq_some_iff.1 hjd)
 obtain ⟨hil,rfl⟩:=hil
 obtain ⟨hjl,rfl⟩:=hjl
 rcases Nat.lt_or_gt_of_ne hne with hlt|hlt
 ·exact List.pairwise_iff_getElem.1 h.apart i j hil hjl hlt b hcb hdb
 ·exact List.pairwise_iff_getElem.1 h.apart j i hjl hil hlt b hdb hcb
theorem qb0 {α β:Type} {A:GoT α} {B:GoT β} {a:α} {b:β} {c1 c2:List Value} {I J:List Nat} (h:SH w0 w L) (h1:PO w L I a c1) (h2:PO w L J b c2) (hb:apartB I J=true):@PO w L (I++J) (α × β) (pairT A B) (a,b) (c1++c2):=by
 obtain ⟨S1,h1,w1⟩:=h1
 obtain ⟨S2,h2,w2⟩:=h2
 have hap:=qhN h w1 w2 hb
 refine ⟨fun x=>S1 x∨S2 x,⟨S1,S2,c1,c2,rfl,h1,h2,fun x hx=>⟨.inl hx,hap x hx⟩,fun x hx=>.inr hx⟩,?_⟩
 rintro x (hx|hx)
 ·obtain ⟨i,c,hi,h⟩:=w1 x hx;exact ⟨i,c,by simp [hi],h⟩
 ·obtain ⟨i,c,hi,h⟩:=w2 x hx;exact ⟨i,c,by simp [hi],h⟩
theorem qat {α:Type} [GoT α] {r:α} {cs:List Value} {I:List Nat} (h:PO w L I r cs):PV w L I r [GoT.v α cs]:=by
 obtain ⟨S,h1,h2⟩:=h
 exact ⟨S,⟨cs,rfl,h1⟩,h2⟩
theorem qbn {α β:Type} [GoT α] [GoVs β] {a:α} {b:β} {cs us:List Value} {I J:List Nat} (h:SH w0 w L) (h1:PO w L I a cs) (h2:PV w L J b us) (hb:apartB I J=true):PV w L (I++J) (a,b) (GoT.v α cs::us):=by
 obtain ⟨S1,h1,w1⟩:=h1
 obtain ⟨S2,h2,w2⟩:=h2
 have hap:=qhN h w1 w2 hb
 refine ⟨fun x=>S1 x∨S2 x,⟨S1,S2,cs,us,rfl,h1,h2,fun x hx=>⟨.inl hx,hap x hx⟩,fun x hx=>.inr hx⟩,?_⟩
 rintro x (hx|hx)
 ·obtain ⟨i,c,hi,h⟩:=w1 x hx;exact ⟨i,c,by simp [hi],h⟩
 ·obtain ⟨i,c,hi,h⟩:=w2 x hx;exact ⟨i,c,by simp [hi],h⟩
end
class MonoVs (ρ:Type) [GoVs ρ]:Prop where
 mono:∀ {w:World} {S S':Nat→Prop} {r:ρ} {us:List Value},GoVs.Vs w S r us→(∀ b,S b→S' b)→GoVs.Vs w S' r us
instance {α:Type} [GoT α]:MonoVs α:=⟨fun h hs=>by obtain ⟨cs,rfl,h⟩:=h;exact ⟨cs,rfl,GoT.monoO h hs⟩⟩
instance (priority:=high) {α β:Type} [GoT α] [GoVs β]:MonoVs (α × β):=⟨fun h hs=>by
 obtain ⟨S1,S2,cs,us,rfl,h1,h2,h3,h4⟩:=h
 exact ⟨S1,S2,cs,us,rfl,h1,h2,fun b hb=>⟨hs b (h3 b hb).1,(h3 b hb).2⟩,fun b hb=>hs b (h4 b hb)⟩⟩
theorem PV.done {w0 w:World} {L:List Ch} {ρ:Type} [GoVs ρ] [MonoVs ρ] {r:ρ} {us:List Value} {I:List Nat} (h:SH w0 w L) (hp:PV w L I r us):GoVs.Vs w (fresh w0 w) r us:=by
 obtain ⟨S,h1,h2⟩:=hp
 refine MonoVs.mono h1 (fun b hb=>?_)
 obtain ⟨i,c,_,hic,hcb⟩:=h2 b hb
 exact (h.mem hic).2 b hcb
end Go.Fw


namespace Go.Fw
open Go
open Go.RowKit (Below)
section
variable {P:Program} {T:Tab} {n:Nat} {Q:Exit→Act→World→Prop} {k:List It} {e:Env} {w0 w w':World} {L:List Ch}
def RunD (P:Program) (n:Nat) (Q:Exit→Act→World→Prop) (k:List It) (all:Array Oper) (w:World) (l:List Oper) (e:Env):Prop :=
 ∀ a,Agree n e a→wpQuiet P all (fun w'=>Below w.heap.size w w') (fun a'=>∀ w',Below w.heap.size w w'→post P Q k .normal a' w') l a
theorem qxA {id:Nat} {ops:List Oper} (hm:P.follows .mixedOrders=true) (hB:Region.lexB .any ops.toArray=true) (h:RunD P n Q k ops.toArray w ops e):Run P n Q (.code (.region id ops.toArray true)::k) e w:=by
 intro a ha
 refine wp_region_quiet (C:=fun w'=>Below w.heap.size w w') hm hB ⟨rfl,rfl,rfl,jf _,fun _ _=>rfl⟩ ?_
 exact h a ha
theorem qxL {all:Array Oper} (h:∀ w',Below w.heap.size w w'→Run P n Q k e w'):RunD P n Q k all w [] e:=fun a ha w' hw'=>h w' hw' a ha
theorem d_v {all:Array Oper} {l:List Oper} {op:Op} {d t:Nat} {ps:String} {af:Array Edge} {v:Value}
  (h:∀ w',Below w.heap.size w w'→Val P n e ⟨some d,op,t,ps,af,none⟩ w' v) (hn:Nat.blt d n=true) (hk:RunD P n Q k all w l ((d,v)::e)):RunD P n Q k all w (⟨some d,op,t,ps,af,none⟩::l) e:=by
 intro a ha
 have hw:Region.wanted (⟨some d,op,t,ps,af,none⟩:Oper) (yielded all a.tmps)=true:=rfl
 rw [wpQuiet,if_pos hw]
 refine ⟨v,fun w' hw'=>?_,hk _ (ha.put hn v)⟩
 unfold Oper.quietAt
 rw [h w' hw' a ha]
 exact ⟨rfl,rfl⟩
theorem d_p (hT:TabOk P T) {all:Array Oper} {l:List Oper} {op:Op} {d t:Nat} {ps:String} {af:Array Edge} {v:Value}
  (h:pev T e op=some v) (hn:Nat.blt d n=true) (hk:RunD P n Q k all w l ((d,v)::e)):RunD P n Q k all w (⟨some d,op,t,ps,af,none⟩::l) e :=
 d_v (fun w' _=>v_p hT h w') hn hk
theorem qwe {all:Array Oper} {o:Oper} {l:List Oper} (h:guardOf e all o=some true)
  (hk:RunD P n Q k all w ({ o with guard:=none }::l) e):RunD P n Q k all w (o::l) e:=by
 intro a ha
 have h1:=hk a ha
 have hw:=qjd ha h
 rw [wpQuiet,if_pos hw]
 rw [wpQuiet,if_pos (by simp [Region.wanted])] at h1
 exact h1
theorem qbR {ρ:Type} [GoT ρ] (r:ρ) {v:Value} (hv:∀ (w:World) (S:Nat→Prop) (us:List Value),(vsOne:GoVs ρ).Vs w S r us→us=[v]) {all:Array Oper} {l:List Oper} {d ty:Nat} {ps:String} {af:Array Edge} {x:Operand} {args:Array Operand} {ats:Array TypeId} {f:FuncId} {fi ca:Array Value} {az vs:List Value}
  (hcall:qe3 P f) (hc:∀ w',Below w.heap.size w w'→RetV (ρ:=ρ) P f vs w' r) (hx:opv e x=some (.func (.func f) fi ca)) (hargs:opvs e args.toList=some az) (hvs:fi.toList++az++ca.toList=vs) (hn:Nat.blt d n=true)
  (hk:RunD P n Q k all w l ((d,v)::e)):RunD P n Q k all w (⟨some d,.call ⟨.value x,args,ats⟩,ty,ps,af,none⟩::l) e:=by
 intro a ha
 subst hvs
 have hw:Region.wanted (⟨some d,.call ⟨.value x,args,ats⟩,ty,ps,af,none⟩:Oper) (yielded all a.tmps)=true:=rfl
 rw [wpQuiet,if_pos hw]
 refine ⟨v,fun w' hw'=>?_,hk _ (ha.put hn v)⟩
 unfold Oper.quietAt
 rw [qjE ha hcall hx hargs w']
 refine ⟨rfl,(hc w' hw').mono ?_⟩
 rintro e' w'' ⟨u,rfl,hb,us,rfl,hr⟩
 refine ⟨?_,hw'.trans (hb.mono hw'.size)⟩
 rw [hv w'' _ us hr]
 rfl
theorem vsI (r:Int) (w:World) (S:Nat→Prop) (us:List Value) (h:(vsOne:GoVs Int).Vs w S r us):us=[.int .i64 r]:=by
 obtain ⟨cs,rfl,h⟩:=h
 have:cs=[.int .i64 r]:=h
 subst this;rfl
theorem vsB (r:Bool) (w:World) (S:Nat→Prop) (us:List Value) (h:(vsOne:GoVs Bool).Vs w S r us):us=[.bool r]:=by
 obtain ⟨cs,rfl,h⟩:=h
 have:cs=[.bool r]:=h
 subst this;rfl
def SA (st:List Nat) (C:World→Prop) (listed:Array Bool) (w:World):Prop:=(∀ s ∈ st,listed.getD s true=false)→C w
def wpAnyS (P:Program) (ops:Array Oper) (Q:Exit→Act→World→Prop) (st:List Nat) (C:World→Prop):Nat→Array Bool→Act→World→Prop
 | 0,listed,a,w=>Region.ready .any ops listed=[]∧Q .normal a w
 | fuel+1,listed,a,w =>
  (Region.ready .any ops listed=[]→Q .normal a w) ∧
  ∀ i ∈ Region.ready .any ops listed,wpOp P ops Q i (fun a' w'=>SA st C (listed.setIfInBounds i true) w'∧wpAnyS P ops Q st C fuel (listed.setIfInBounds i true) a' w') a w
theorem qo7 {ops:Array Oper} {st:List Nat} {C:World→Prop}:∀ (fuel:Nat) (listed:Array Bool) (a:Act) (w:World),wpAnyS P ops Q st C fuel listed a w→wpAny P .any ops Q fuel listed a w
 | 0,_,_,_,h=>h
 | fuel+1,_,_,_,h=>⟨h.1,fun i hi=>wpOp_mono (fun a' w' h'=>qo7 fuel _ a' w' h'.2) (h.2 i hi)⟩
def waitsB (ops:Array Oper) (i s:Nat):Bool :=
 match ops[s]? with
 | some o=>o.after.any fun e=>Region.binds .any e&&e.on==i
 | none=>false
theorem qk5 {ops:Array Oper} {st:List Nat} {C:World→Prop} {i:Nat} {oi:Oper} {v:Value} (hi:ops[i]?=some oi) (hsel:∀ (j:Nat) (o:Oper) cs b,ops[j]?=some o→o.op ≠ .select cs b)
  (hQ:∀ c a w,Q (.panic c) (a.put oi.dst v) w→Q (.panic c) a w) (hst:∀ s ∈ st,s ≠ i∧waitsB ops i s=true) :
  ∀ (fuel:Nat) (listed:Array Bool) (a:Act) (w:World),
   (∀ j oj,ops[j]?=some oj→j ≠ i→listed.getD j true=false→(∀ e ∈ oj.after,Region.binds .any e=true→e.on ≠ i)→oi.apart ops oj=true) →
   i ∈ Region.ready .any ops listed→YieldsIf P ops C oi v a→(∀ s ∈ st,listed.getD s true=false)→C w →
   wpAnyS P ops Q st C fuel (listed.setIfInBounds i true) (a.put oi.dst v) w→wpAnyS P ops Q st C (fuel+1) listed a w:=by
 intro fuel
 induction fuel with
 | zero =>
  intro listed a w _ hr hy hun hC H
  refine ⟨fun h=>(by rw [h] at hr;cases hr),fun j hj=>?_⟩
  by_cases hji:j=i
  ·subst hji;exact hy.wpOp hi hC ⟨fun _=>hC,H⟩
  ·have:=ready_mono hj hji
   rw [H.1] at this
   cases this
 | succ fuel ih =>
  intro listed a w hfree hr hy hun hC H
  refine ⟨fun h=>(by rw [h] at hr;cases hr),fun j hj=>?_⟩
  by_cases hji:j=i
  ·subst hji;exact hy.wpOp hi hC ⟨fun _=>hC,H⟩
  ·have h1:=H.2 j (ready_mono hj hji)
   obtain ⟨hjun,oj,hoj,hall⟩:=mem_ready.1 hj
   have hnot:∀ e ∈ oj.after,Region.binds .any e=true→e.on ≠ i:=fun e he hb heq=>by
    have h1:=hall e he hb
    have h0:=(mem_ready.1 hr).1
    rw [heq] at h1
    rcases Nat.lt_or_ge i listed.size with h'|h'
    ·simp [h'] at h0 h1;rw [h0] at h1;cases h1
    ·simp [Array.getElem?_eq_none h'] at h1
   have hjst:∀ s ∈ st,j ≠ s:=by
    intro s hs hjs
    subst hjs
    have:=(hst j hs).2
    unfold waitsB at this
    rw [hoj] at this
    obtain ⟨ed,hed,hb⟩:=Array.any_eq_true'.1 this
    simp only [ji,beq_iff_eq] at hb
    exact hnot ed hed hb.1 hb.2
   have hun':∀ s ∈ st,(listed.setIfInBounds j true).getD s true=false:=fun s hs=>by rw [getD_set_ne true (hjst s hs)];exact hun s hs
   have h2:=wpOp_putIf hoj (hfree j oj hoj hji hjun hnot) (fun cs b=>hsel i oi cs b hi) (fun cs b=>hsel j oj cs b hoj) hQ hy h1
   have hfree':∀ k ok,ops[k]?=some ok→k ≠ i→(listed.setIfInBounds j true).getD k true=false →
     (∀ e ∈ ok.after,Region.binds .any e=true→e.on ≠ i)→oi.apart ops ok=true:=fun k ok hk hki hun hno=>by
    refine hfree k ok hk hki ?_ hno
    by_cases hjk:j=k
    ·subst hjk;exact hjun
    ·rw [getD_set_ne true hjk] at hun;exact hun
   have hsa:∀ w'',SA st C ((listed.setIfInBounds i true).setIfInBounds j true) w''→C w'':=fun w'' h=>h (fun s hs=>by
    rw [getD_set_ne true (hjst s hs),getD_set_ne true (fun h=>(hst s hs).1 h.symm)];exact hun s hs)
   refine wpOp_mono (fun a' w' h3=>⟨fun _=>hsa w' h3.2.1,ih (listed.setIfInBounds j true) a' w' hfree' (ready_mono hr (Ne.symm hji)) h3.1 hun' (hsa w' h3.2.1) ?_⟩) h2
   rw [Array.setIfInBounds_comm _ _ hji]
   exact h3.2.2
def RunA (P:Program) (n:Nat) (Q:Exit→Act→World→Prop) (k:List It) (ops:Array Oper) (st:List Nat) (C:World→Prop) (fuel:Nat) (listed:Array Bool) (e:Env) (w:World):Prop :=
 ∀ a,Agree n e a→wpAnyS P ops (post P Q k) st C fuel listed a w
theorem qw5 {id:Nat} {ops:List Oper} (st:List Nat) (C:World→Prop) (hm:P.follows .mixedOrders=true) (m:Nat) (hsz:ops.toArray.size=m) (listed:Array Bool) (hl:Array.replicate m false=listed)
  (h:∀ w',Below w.heap.size w w'→RunA P n Q k ops.toArray st C m listed e w'):Run P n Q (.code (.region id ops.toArray true)::k) e w:=by
 subst hsz
 subst hl
 intro a ha
 refine wp_region_any hm (qo7 (st:=st) (C:=C) _ _ _ _ ?_)
 exact h { w with drawn:=w.drawn+1 } ⟨rfl,rfl,rfl,jf _,fun _ _=>rfl⟩ a ha
theorem qnK {k:List It} {fnc:Func} {R:Ending→World→Prop} {d:Option Tmp} {v:Value}:∀ c a w,post P (bodyPost P fnc R) k (.panic c) (a.put d v) w→post P (bodyPost P fnc R) k (.panic c) a w:=by
 intro c a w
 induction k with
 | nil =>
  intro h
  refine ⟨?_,h.2⟩
  have:=h.1
  cases d<;>exact this
 | cons x k ih=>cases x<;>exact ih
theorem qpr {fnc:Func} {R:Ending→World→Prop} {ops:Array Oper} {st:List Nat} {C:World→Prop} {fuel:Nat} {listed:Array Bool} (i:Nat) {d:Nat} {op:Op} {t:Nat} {ps:String} {af:Array Edge} {v:Value}
  (hi:ops[i]?=some ⟨some d,op,t,ps,af,none⟩) (listed':Array Bool) (hl:listed.setIfInBounds i true=listed')
  (hb:(Region.noSelect ops&&Region.free .any ops listed i&&(Region.ready .any ops listed).contains i&&st.all (fun s=>!(Nat.beq s i)&&waitsB ops i s&&!(listed.getD s true)))=true)
  (hv:∀ w',C w'→Val P n e ⟨some d,op,t,ps,af,none⟩ w' v) (hC:C w) (hn:Nat.blt d n=true)
  (hk:RunA P n (bodyPost P fnc R) k ops st C fuel listed' ((d,v)::e) w):RunA P n (bodyPost P fnc R) k ops st C (fuel+1) listed e w:=by
 subst hl
 simp only [ji,jW,jO] at hb
 obtain ⟨⟨⟨h1,h2⟩,h3⟩,h4⟩:=hb
 intro a ha
 refine qk5 hi (Region.noSelect_spec h1) (fun c a w h=>qnK c a w h) (fun s hs=>⟨fun h=>?_,(h4 s hs).1.2⟩) fuel listed a w (Region.free_spec hi h2) (by simpa using h3) (.inl ⟨rfl,fun w' hw'=>hv w' hw' a ha⟩) (fun s hs=>(h4 s hs).2) hC (hk _ (ha.put hn v))
 have:=(h4 s hs).1.1
 rw [h,beqR] at this
 cases this
def NextA (P:Program) (_:Nat) (Q:Exit→Act→World→Prop) (k:List It) (ops:Array Oper) (st:List Nat) (C:World→Prop) (fuel:Nat) (listed:Array Bool) (a:Act) (w:World):Prop :=
 SA st C listed w∧wpAnyS P ops (post P Q k) st C fuel listed a w
theorem qh3 {ops:Array Oper} {st:List Nat} {C:World→Prop} {fuel:Nat} {listed:Array Bool} {all:Array Oper} (hC:SA st C listed w) (h:RunA P n Q k ops st C fuel listed e w):Run P n Q (.ops all []::.goal (NextA P n Q k ops st C fuel listed)::k) e w :=
 fun a ha=>⟨hC,h a ha⟩
theorem qlI {ops:Array Oper} {i:Nat} {o:Oper} {J:Act→World→Prop} {a:Act} (hi:ops[i]?=some o) (h:wpList P ops (post P Q (.goal J::k)) [o] a w):wpOp P ops (post P Q k) i J a w:=by
 unfold wpOp
 simp only [hi]
 rw [wpList] at h
 split at h
 ·rename_i hw
  rw [if_pos hw]
  rcases h with h|⟨h1,h2⟩
  ·refine .inl ?_
   unfold Oper.wp at *
   generalize (execOp a.eval o).run P w=r at *
   cases r with
   | ok m w' =>
    cases m<;>simp only [Oper.upon] at h ⊢<;>exact h
   | halt x w'=>cases x<;>simp only [Oper.upon] at h ⊢<;>exact h
  ·exact .inr ⟨h1,h2⟩
 ·rename_i hw
  rw [if_neg hw]
  exact h
theorem qxt {ops:Array Oper} {st:List Nat} {C:World→Prop} {fuel:Nat} {listed:Array Bool} (i:Nat) {o:Oper} (hi:ops[i]?=some o) (listed':Array Bool) (hl:listed.setIfInBounds i true=listed') (hr:Region.ready .any ops listed=[i])
  (h:Run P n Q (.ops ops [o]::.goal (NextA P n Q k ops st C fuel listed')::k) e w):RunA P n Q k ops st C (fuel+1) listed e w:=by
 subst hl
 intro a ha
 refine ⟨fun h0=>(by rw [hr] at h0;cases h0),fun j hj=>?_⟩
 rw [hr] at hj
 have:j=i:=by simpa using hj
 subst this
 exact qlI hi (h a ha)
theorem qxK {ops:Array Oper} {st:List Nat} {C:World→Prop} {fuel:Nat} {listed:Array Bool} (i j:Nat) {o o':Oper} (hi:ops[i]?=some o) (hj:ops[j]?=some o') (listed1 listed2:Array Bool) (hl1:listed.setIfInBounds i true=listed1) (hl2:listed.setIfInBounds j true=listed2) (hr:Region.ready .any ops listed=[i,j])
  (h1:Run P n Q (.ops ops [o]::.goal (NextA P n Q k ops st C fuel listed1)::k) e w) (h2:Run P n Q (.ops ops [o']::.goal (NextA P n Q k ops st C fuel listed2)::k) e w):RunA P n Q k ops st C (fuel+1) listed e w:=by
 subst hl1 hl2
 intro a ha
 refine ⟨fun h0=>(by rw [hr] at h0;cases h0),fun m hm=>?_⟩
 rw [hr] at hm
 rcases List.mem_cons.1 hm with rfl|hm
 ·exact qlI hi (h1 a ha)
 ·have:m=j:=by simpa using hm
  subst this
  exact qlI hj (h2 a ha)
theorem qxy {ops:Array Oper} {st:List Nat} {C:World→Prop} {listed:Array Bool} (hr:Region.ready .any ops listed=[]) (h:Run P n Q k e w):RunA P n Q k ops st C 0 listed e w :=
 fun a ha=>⟨hr,h a ha⟩
end
end Go.Fw


namespace Go.Fw
open Go
open Go.RowKit (Below)
abbrev W64 (x:Int):Int:=IntKind.i64.wrap x
inductive Flow (ρ σ:Type) where
 | ret (r:ρ)
 | nxt (s:σ)
def mkS {α:Type} (n:Int) (z:α):Option (List α):=if 0≤n∧n≤big then some (List.replicate n.toNat z) else none
theorem qb3 {α:Type} {n:Int} {z:α} {r:List α} (h:mkS n z=some r):0≤n∧n≤big∧List.replicate n.toNat z=r:=by
 unfold mkS at h
 split at h
 ·rename_i hh;simp only [Option.some.injEq] at h;exact ⟨hh.1,hh.2,h⟩
 ·cases h
def appS {α:Type} (xs ys:List α):Option (List α):=if xs.length+ys.length≤big then some (xs++ys) else none
theorem qae {α:Type} {xs ys r:List α} (h:appS xs ys=some r):xs.length+ys.length≤big∧xs++ys=r:=by
 unfold appS at h
 split at h
 ·rename_i hh;simp only [Option.some.injEq] at h;exact ⟨hh,h⟩
 ·cases h
def setS {α:Type} (xs:List α) (i:Int) (y:α):List α:=xs.set i.toNat y
theorem bifT {α:Type} {c:Bool} {a b:Option α} {r:α} (hc:c=true) (h:(bif c then a else b)=some r):a=some r:=by rw [hc] at h;exact h
theorem bifF {α:Type} {c:Bool} {a b:Option α} {r:α} (hc:c=false) (h:(bif c then a else b)=some r):b=some r:=by rw [hc] at h;exact h
theorem qd {α β:Type} {x:Option α} {f:α→Option β} {r:β} (h:x.bind f=some r):∃ a,x=some a∧f a=some r:=Option.bind_eq_some_iff.1 h
theorem bindE {α β:Type} {x:Option α} {f:α→Option β} {r:β} (h:x.bind f=some r):∃ g:α→Option β,g=f∧∃ a,x=some a∧g a=some r:=by
 obtain ⟨a,h1,h2⟩:=qd h
 exact ⟨f,rfl,a,h1,h2⟩
theorem qi {P:Program} {n:Nat} {Q:Exit→Act→World→Prop} {kk:List It} {e:Env} {w:World} {α:Type} {c:Operand} {x y:Code} {b:Bool} {f g:Option α} {r:α} (hc:opv e c=some (.bool b)) (hF:(bif b then f else g)=some r)
  (ht:f=some r→Run P n Q (.code x::kk) e w) (hf:g=some r→Run P n Q (.code y::kk) e w):Run P n Q (.code (.cond c x y)::kk) e w :=
 qkA hc (fun h=>ht (bifT h hF)) (fun h=>hf (bifF h hF))
theorem qxP {P:Program} {T:Tab} {n:Nat} {k:List It} {e:Env} {w0 w:World} {L:List Ch} (hT:TabOk P T) {fn:Func} {x r:Bool} (h:SH w0 w L) (hF:some x=some r) (hr:ResOk T e w fn.results.toList [.bool x]) :
  Run P n (bodyPost P fn fun e w'=>∃ v,e=.returned v∧Below w0.heap.size w0 w'∧∃ us,v=tup us∧GoVs.Vs w' (fresh w0 w') r us) (.code .ret::k) e w :=
 Option.some.inj hF ▸ qak hT (ρ:=Bool) [_] h hr (qwv _ _)
theorem qxO {P:Program} {T:Tab} {n:Nat} {k:List It} {e:Env} {w0 w:World} {L:List Ch} (hT:TabOk P T) {fn:Func} {x r:Int} (h:SH w0 w L) (hF:some x=some r) (hr:ResOk T e w fn.results.toList [.int .i64 x]) :
  Run P n (bodyPost P fn fun e w'=>∃ v,e=.returned v∧Below w0.heap.size w0 w'∧∃ us,v=tup us∧GoVs.Vs w' (fresh w0 w') r us) (.code .ret::k) e w :=
 Option.some.inj hF ▸ qak hT (ρ:=Int) [_] h hr (qu2 _ _)
abbrev tt:Bool:=true
abbrev ff:Bool:=false
theorem qb {α:Type} {a r:α} (h:some a=some r):a=r:=Option.some.inj h
theorem qx {iv:Int} {l m:Nat} (h:iv<(m:Int)) (e:l=m):iv<(l:Int):=e ▸ h
section
variable {P:Program} {T:Tab} {n:Nat} {Q:Exit→Act→World→Prop} {k:List It} {e:Env} {w0 w w':World} {L:List Ch}
theorem qwp {α:Type} [GoT α] {S:Nat→Prop}:SlR w S ([]:List α) none 0:=⟨by simp,by simp,.inl ⟨.inl rfl,rfl⟩⟩
theorem qhH {α:Type} [GoT α]:PO w L [] ([]:List α) [.slice none 0 0]:=⟨fun _=>False,⟨none,0,rfl,by simp,by simp,.inl ⟨rfl,rfl,rfl⟩⟩,fun _ h=>h.elim⟩
theorem qxE {t:Nat} {b:Bool} (hb:b=true) (ht:e.get t=some (.bool b)) (hk:Run P n Q k ((t,.bool true)::e) w):Run P n Q k e w:=by
 subst hb
 intro a ha
 refine hk a ⟨ha.defers,ha.size,fun i v hi=>?_⟩
 simp only [Env.get] at hi
 cases hbb:Nat.beq t i with
 | true=>rw [hbb] at hi;simp only [Option.some.injEq] at hi;subst hi;have:=beqT hbb;subst this;exact ha.at_ _ _ ht
 | false=>rw [hbb] at hi;exact ha.at_ _ _ hi
theorem qxo {t:Nat} {b:Bool} (hb:b=false) (ht:e.get t=some (.bool b)) (hk:Run P n Q k ((t,.bool false)::e) w):Run P n Q k e w:=by
 subst hb
 intro a ha
 refine hk a ⟨ha.defers,ha.size,fun i v hi=>?_⟩
 simp only [Env.get] at hi
 cases hbb:Nat.beq t i with
 | true=>rw [hbb] at hi;simp only [Option.some.injEq] at hi;subst hi;have:=beqT hbb;subst this;exact ha.at_ _ _ ht
 | false=>rw [hbb] at hi;exact ha.at_ _ _ hi
theorem qxB {all:Array Oper} {l:List Oper} {t:Nat} {b:Bool} (hb:b=true) (ht:e.get t=some (.bool b)) (hk:RunD P n Q k all w l ((t,.bool true)::e)):RunD P n Q k all w l e:=by
 subst hb
 intro a ha
 refine hk a ⟨ha.defers,ha.size,fun i v hi=>?_⟩
 simp only [Env.get] at hi
 cases hbb:Nat.beq t i with
 | true=>rw [hbb] at hi;simp only [Option.some.injEq] at hi;subst hi;have:=beqT hbb;subst this;exact ha.at_ _ _ ht
 | false=>rw [hbb] at hi;exact ha.at_ _ _ hi
theorem qxa {all:Array Oper} {l:List Oper} {t:Nat} {b:Bool} (hb:b=false) (ht:e.get t=some (.bool b)) (hk:RunD P n Q k all w l ((t,.bool false)::e)):RunD P n Q k all w l e:=by
 subst hb
 intro a ha
 refine hk a ⟨ha.defers,ha.size,fun i v hi=>?_⟩
 simp only [Env.get] at hi
 cases hbb:Nat.beq t i with
 | true=>rw [hbb] at hi;simp only [Option.some.injEq] at hi;subst hi;have:=beqT hbb;subst this;exact ha.at_ _ _ ht
 | false=>rw [hbb] at hi;exact ha.at_ _ _ hi
theorem qvf {x y:Operand} {t t' d ty:Nat} {ps:String} {af:Array Edge} {g:Option (Nat × Bool)} {kd kd':IntKind} {a b:Int}
  (h0:0≤b) (hx:opv e x=some (.int kd a)) (hy:opv e y=some (.int kd' b)):Val P n e ⟨some d,.binOp .shl t x y t',ty,ps,af,g⟩ w (.int kd (kd.wrap (a*2 ^ (min b.toNat kd.bits)))):=by
 intro c hc
 have h1:¬ b<0:=by omega
 simp only [execOp,hc.eval hx,hc.eval hy,jj,ql6,jh,binOp,Op.shift,h1,if_false,jl]
def Ch.rowD {α:Type} [GoT α] (w0:World) (S:Nat→Prop) (xs:List α) (p:Option Addr) (c:Nat):Ch where
 S:=S
 D _:=False
 P w:=xs.length≤c∧c≤maxLen∧((p=none∧xs=[]∧c=0)∨∃ b cur T,p=some ⟨b,0,none⟩∧S b∧w.heap[b]?=some (.cells cur T (0,0))∧cur.size=c*GoT.k α ∧
  ∀ i x,xs[i]?=some x→∃ cs,GoT.R w0 (old w0) x cs∧∀ j v,cs[j]?=some v→cur[i*GoT.k α+j]?=some v)
 loc w w' h _ hp:=by
  obtain ⟨h1,h2,h3⟩:=hp
  refine ⟨h1,h2,?_⟩
  rcases h3 with h3|⟨b,cur,T,rfl,hb,hg,hc,hx⟩
  ·exact .inl h3
  ·exact .inr ⟨b,cur,T,rfl,hb,by rw [h b hb];exact hg,hc,hx⟩
theorem SH.atD {α:Type} [GoT α] {S:Nat→Prop} {xs:List α} {p:Option Addr} {c:Nat} (h:SH w0 w L) (i:Nat) (hi:L[i]?=some (Ch.rowD w0 S xs p c)) {iv:Int} {x:α} (hx:idx xs iv=some x) :
  ∃ b o q cs,p=some ⟨b,o,none⟩∧q=o+iv.toNat*GoT.k α∧S b∧GoT.R w0 (Fw.old w0) x cs∧CellsAt w b q cs:=by
 obtain ⟨h0,hlt,hxi⟩:=qax hx
 obtain ⟨h1,h2,h3⟩:=(h.mem hi).1
 rcases h3 with ⟨rfl,rfl,_⟩|⟨b,cur,T,rfl,hb,hg,hc,hx'⟩
 ·simp at hlt;omega
 ·obtain ⟨cs,hr,hj⟩:=hx' _ _ hxi
  exact ⟨b,0,_,cs,rfl,rfl,hb,hr,CellsAt.of_block hg (by simpa using hj)⟩
theorem qn8 (hT:TabOk P T) {α:Type} [GoT α] {all:Array Oper} {l:List Oper} {d t ty el len:Nat} {ps:String} {af:Array Edge} {parts:Array (Nat × Operand)} {te te':TE} {zv:Value} (os:List Operand) (vs:List Value) (ys:List α)
  (h:SH w0 w L) (hparts:parts.toList=(os.zipIdx 0).map fun x=>(x.2,x.1)) (hvs:opvs e os=some vs) (hlen:len=vs.length)
  (hte:T.get t=some te) (hk:te.kind=.slice el) (hel:T.get el=some te') (hz:te'.zero=some zv) (hsz:te'.size=GoT.k α) (hsmall:Nat.ble (vs.length*te'.size) 16777216=true)
  (hc:Cells2 w0 (Fw.old w0) ys (vs.map cellsL)) (hn:Nat.blt d n=true)
  (hkk:∀ w' p S,SH w0 w' (Ch.rowD w0 S ys p len::L)→Run P n Q (.ops all l::k) ((d,.slice p len len)::e) w') :
  Run P n Q (.ops all (⟨some d,.buildSlice t len parts,ty,ps,af,none⟩::l)::k) e w:=by
 have hlenys:∀ {ys:List α} {cs:List (List Value)},Cells2 w0 (Fw.old w0) ys cs→ys.length=cs.length∧∀ c ∈ cs,c.length=GoT.k α:=by
  intro ys
  induction ys with
  | nil=>intro cs hc;cases cs with
   | nil=>simp
   | cons=>exact hc.elim
  | cons y ys ih =>
   intro cs hc
   cases cs with
   | nil=>exact hc.elim
   | cons c cs =>
    obtain ⟨h1,h2⟩:=hc
    have:=ih h2
    refine ⟨by simp [this.1],fun d hd=>?_⟩
    rcases List.mem_cons.1 hd with rfl|hd
    ·exact GoT.len h1
    ·exact this.2 d hd
 obtain ⟨hl1,hl2⟩:=hlenys hc
 have hcs:∀ v ∈ vs,(cellsL v).length=te'.size:=fun v hv=>by rw [hsz];exact hl2 _ (List.mem_map.2 ⟨v,hv,rfl⟩)
 have hr:=qlj hT vs hte hk hel hz (jt hsmall) hcs w
 subst hlen
 obtain ⟨hfl,hfe⟩:=hc.get
 have hl3:ys.length=vs.length:=by simpa using hl1
 refine qkg (v:=.slice (some ⟨w.heap.size,0,none⟩) vs.length vs.length) (w':=w.alloc (.cells (vs.map cellsL).flatten.toArray el)) rfl rfl hn (fun a ha=>?_)
  (hkk _ _ (fun b=>b=w.heap.size) (h.add ((Below.refl _ _).alloc (jf _) _) ?_ ?_ (fun _ hd=>hd.elim)))
 ·have hev:parts.map (fun (x:Nat × Operand)=>(x.1,a.eval x.2))=((vs.zipIdx 0).map fun x=>(x.2,x.1)).toArray:=by
   apply Array.ext'
   rw [Array.toList_map,hparts]
   have:=qif ha hvs
   subst this
   rw [List.zipIdx_map,List.map_map,List.map_map]
   rfl
  simp only [execOp,hev,jj,hr,jh,jl]
 ·have hsm:vs.length≤maxLen:=by
   have h1:=jt hsmall
   have h2:vs.length*1≤vs.length*te'.size:=Nat.mul_le_mul_left _ (by rw [hsz];exact GoT.kpos)
   simp [maxLen]
   omega
  refine ⟨by rw [hl3];exact jf _,hsm,.inr ⟨w.heap.size,_,el,rfl,rfl,heap_alloc_new w _,by rw [jQ,hfl,hl3],fun i x hi=>?_⟩⟩
  obtain ⟨cs,hR,hj⟩:=hfe i x hi
  exact ⟨cs,hR,fun j v hv=>by simpa using hj j v hv⟩
 ·intro b hb
  have:b=w.heap.size:=hb
  subst this
  exact ⟨jf _,by simp⟩
end
end Go.Fw


namespace Go.Fw
open Go
open Go.RowKit (Below)
section
variable {P:Program} {T:Tab} {n:Nat} {Q:Exit→Act→World→Prop} {k:List It} {e:Env} {w0 w w':World} {L:List Ch}
def CutJ (n:Nat) (J:Env→World→Prop) (a:Act) (w:World):Prop:=∃ e,Agree n e a∧J e w
theorem qu7 {J:Env→World→Prop} (h2:∀ e w,J e w→Run P n Q k e w):∀ ex a w,post P Q (.goal (CutJ n J)::k) ex a w→post P Q k ex a w:=by
 intro ex a w h
 cases ex with
 | normal=>obtain ⟨e,ha,hJ⟩:=h;exact h2 e w hJ a ha
 | exit id=>exact h
 | goto l=>exact h
 | ret=>exact h
 | panic c=>exact h
 | outgrown=>exact h
theorem qcB {c:Code} (J:Env→World→Prop) (h1:Run P n Q (.code c::.goal (CutJ n J)::k) e w) (h2:∀ e w,J e w→Run P n Q k e w):Run P n Q (.code c::k) e w :=
 fun a ha=>wp_mono (h1 a ha) (qu7 h2)
theorem qu0 {J:Env→World→Prop} (e':Env) (hs:subEnv e e') (hJ:J e' w):Run P n Q (.goal (CutJ n J)::k) e w :=
 fun _ ha=>⟨e',ha.sub hs,hJ⟩
def fieldPlaces (fs:List (Nat × Nat × Option Bool)) (i:Nat):Option (Nat × Nat) :=
 match fs[i]? with
 | some (o,s,_)=>some (o,s)
 | none=>none
theorem qqJ (w:World):∀ (fs:List Field),(∀ f ∈ fs,(aggO P f.type).isSome=true)→(fs.mapM fun f=>Prod.mk f.offset <$> sizeOf f.type).run P w=.ok (fs.map fun f=>(f.offset,P.cellsOf f.type)) w
 | [],_=>by simp
 | f::fs,h=>by
  have ih:=qqJ w fs (fun g hg=>h g (by simp [hg]))
  obtain ⟨b,hb⟩:=Option.isSome_iff_exists.1 (h f (by simp))
  have hs:=qoo hb rfl w
  simp [List.mapM_cons,hs,ih]
theorem qtv (hT:TabOk P T) {t:TypeId} {te:TE} {zc:Array Value} {parts:List (Nat × Value)} {cs:List Value} (hte:T.get t=some te) (hk:te.kind=.struct) (hz:te.zero=some (.agg zc)) (hag:te.fields.all (fun f=>f.2.2.isSome)=true)
  (hf:fillS (fieldPlaces te.fields) zc.toList parts=some cs) (w:World):(Instr.build t parts.toArray).run P w=.ok (.agg cs.toArray) w:=by
 have hpr:=hT _ _ hte
 obtain ⟨i,hi,_,_,hzi⟩:=qeo hpr
 obtain ⟨d,hd,hkd⟩:=qgO hpr
 rw [hk] at hkd
 cases d<;>simp at hkd
 rename_i fs
 have hfs:te.fields=fs.toList.map (fun f=>(f.offset,P.cellsOf f.type,aggO P f.type)):=by
  unfold probe at hpr
  rw [hi,hd] at hpr
  simp only [Option.some.injEq] at hpr
  rw [←hpr]
 have hall:∀ f ∈ fs.toList,(aggO P f.type).isSome=true:=by
  intro f hf'
  rw [hfs] at hag
  simp only [List.all_map,jW,Function.comp] at hag
  exact hag f hf'
 have hm:=qqJ (P:=P) w fs.toList hall
 have hfill:=qgX _ _ _ _ hf
 have hpl:∀ (n:Nat),fieldPlaces te.fields n=(fs.toList.map fun f=>(f.offset,P.cellsOf f.type)).toArray[n]?:=by
  intro n
  unfold fieldPlaces
  rw [hfs]
  simp only [List.getElem?_map,jF]
  cases fs.toList[n]?<;>rfl
 have hmm:(fs.mapM fun f=>Prod.mk f.offset <$> sizeOf f.type).run P w=.ok (fs.toList.map fun f=>(f.offset,P.cellsOf f.type)).toArray w:=by
  rw [←Array.toArray_toList (xs:=fs),List.mapM_toArray]
  simp only [Sem.run_map]
  rw [hm]
  rfl
 have hfill':Instr.fill ((fs.toList.map fun f=>(f.offset,P.cellsOf f.type)).toArray[·]?) zc parts=some cs.toArray:=by
  have:(fun n=>(fs.toList.map fun f=>(f.offset,P.cellsOf f.type)).toArray[n]?)=fieldPlaces te.fields:=funext fun n=>(hpl n).symm
  rw [this]
  simpa using hfill
 have hzz:i.zero=some (.agg zc):=hzi.trans hz
 simp only [Instr.build,zeroValue,typeInfo,jj,run_program,jh,hi,jl,hzz,run_underlying hd,Value.cells]
 have hmm':(fs.mapM fun f=>(do let __do_lift ←sizeOf f.type;pure (f.offset,__do_lift):Sem (Nat × Nat))).run P w=.ok (fs.toList.map fun f=>(f.offset,P.cellsOf f.type)).toArray w:=by
  simpa using hmm
 rw [hmm']
 simp only [jh,hfill',jl]
theorem qgI (hT:TabOk P T) {t d ty:Nat} {ps:String} {af:Array Edge} {g:Option (Nat × Bool)} {parts:Array (Nat × Operand)} {te:TE} {zc:Array Value} (is:List Nat) (os:List Operand) {vs:List Value} {cs:List Value}
  (hparts:parts.toList=is.zip os) (_:is.length=os.length) (hvs:opvs e os=some vs) (hte:T.get t=some te) (hk:te.kind=.struct) (hz:te.zero=some (.agg zc)) (hag:te.fields.all (fun f=>f.2.2.isSome)=true)
  (hf:fillS (fieldPlaces te.fields) zc.toList (is.zip vs)=some cs):Val P n e ⟨some d,.build t parts,ty,ps,af,g⟩ w (.agg cs.toArray):=by
 intro a ha
 have hev:parts.map (fun (x:Nat × Operand)=>(x.1,a.eval x.2))=(is.zip vs).toArray:=by
  apply Array.ext'
  rw [Array.toList_map,hparts]
  have:=qif ha hvs
  subst this
  simp only [List.zip_map_right]
  rfl
 have hr:=qtv hT hte hk hz hag hf w
 simp only [execOp,hev,jj,hr,jh,jl]
end
def shlS (a b:Int):Option Int:=if 0≤b then some (IntKind.i64.wrap (a*2 ^ (min b.toNat IntKind.i64.bits))) else none
theorem qnL {a b r:Int} (h:shlS a b=some r):0≤b∧IntKind.i64.wrap (a*2 ^ (min b.toNat IntKind.i64.bits))=r:=by
 unfold shlS at h;split at h
 ·rename_i hb;exact ⟨hb,Option.some.inj h⟩
 ·cases h
theorem qcJ {α:Type} [GoT α] [Flat α] {w0 w w1:World} {L:List Ch} {S S1:Nat→Prop} {xs:List α} {p:Option Addr} {ln c b o q:Nat} {iv:Int} {x:α} {cs:List Value} (h:SH w0 w L) (i:Nat) (hi:L[i]?=some (Ch.own S xs [.slice p ln c]))
  (hx:idx xs iv=some x) (hp:p=some ⟨b,o,none⟩) (hq:q=o+iv.toNat*GoT.k α) (hr:GoT.R w1 S1 x cs):CellsAt w b q cs:=by
 obtain ⟨b',o',q',cs',hp',hq',_,hr',hc'⟩:=(h.sl i hi).1.at hx
 rw [hp] at hp'
 simp only [Option.some.injEq,Addr.mk.injEq,and_true] at hp'
 obtain ⟨rfl,rfl⟩:=hp'
 subst hq hq'
 rw [Flat.det hr hr']
 exact hc'
section
variable {P:Program} {T:Tab} {n:Nat} {Q:Exit→Act→World→Prop} {k:List It} {e:Env} {w0 w w':World} {L L':List Ch}
theorem SH.pickT (m:Nat) (is:List Nat) (h:SH w0 w L) (hn:(nodupB is&&is.all (fun i=>Nat.blt i m))=true):SH w0 w (pickL L is++L.drop m):=by
 simp only [ji,jW] at hn
 have h1:=h.pick is hn.1
 refine ⟨h.below,fun c hc=>?_,fun c hc=>?_,?_⟩
 ·rcases List.mem_append.1 hc with hc|hc
  ·exact h1.holds c hc
  ·exact h.holds c (List.mem_of_mem_drop hc)
 ·rcases List.mem_append.1 hc with hc|hc
  ·exact h1.elder c hc
  ·exact h.elder c (List.mem_of_mem_drop hc)
 ·refine List.pairwise_append.2 ⟨h1.apart,h.apart.sublist (List.drop_sublist _ _),fun c hc d hd b hcb hdb=>?_⟩
  obtain ⟨i,hi,hic⟩:=qhx hc
  have him:i<m:=by simpa [Nat.blt_eq] using hn.2 i hi
  obtain ⟨j,hj,hjd⟩:=jI hd
  rw [List.getElem_drop] at hjd
  obtain ⟨hil,rfl⟩:=List.getElem?_eq_some_iff.1 hic
  have hjl:m+j<L.length:=by simp at hj;omega
  subst hjd
  exact List.pairwise_iff_getElem.1 h.apart i (m+j) hil hjl (by omega) b hcb hdb
theorem SH.headV {c:Ch} (h:SH w0 w (c::L)):SHV w0 w c.S L∧c.P w:=by
 have hpw:=List.pairwise_cons.1 h.apart
 exact ⟨⟨⟨h.below,fun d hd=>h.holds d (by simp [hd]),fun d hd=>h.elder d (by simp [hd]),hpw.2⟩,(h.holds c (by simp)).2,fun d hd b hdb hcb=>hpw.1 d hd b hcb hdb⟩,(h.holds c (by simp)).1⟩
theorem SHV.less {S S2:Nat→Prop} (h:SHV w0 w S L) (h2:∀ b,S2 b→S b):SHV w0 w S2 L :=
 ⟨h.sh,fun b hb=>h.fr b (h2 b hb),fun c hc b hcb hb=>h.ap c hc b hcb (h2 b hb)⟩
end
end Go.Fw


namespace Go.Fw
open Go
open Go.ChangeShapes Go.WideShapes Go.ChangeAt Go.RowKit
theorem qk4 {β:Type} {p:Nat→β→Prop}:∀ (n:Nat),(∀ i,i<n→∃ y,p i y)→∃ ys:List β,ys.length=n∧∀ i y,ys[i]?=some y→p i y
 | 0,_=>⟨[],rfl,fun i y h=>by simp at h⟩
 | n+1,h=>by
  obtain ⟨ys,hl,hy⟩:=qk4 n (fun i hi=>h i (by omega))
  obtain ⟨y,hp⟩:=h n (by omega)
  refine ⟨ys++[y],by simp [hl],fun i z hz=>?_⟩
  by_cases hi:i<n
  ·rw [jq (by omega)] at hz
   exact hy i z hz
  ·rw [jy (by omega)] at hz
   have:i-ys.length=0:=by
    have:=(List.getElem?_eq_some_iff.1 hz).1
    simp at this
    omega
   rw [this] at hz
   simp only [List.getElem?_cons_zero,Option.some.injEq] at hz
   subst hz
   rw [show i=n by omega]
   exact hp
def Opens (P:Program) (t:TypeId) {α:Type} (A:GoT α) (ρ:α→Prop):Prop :=
 P.cellsOf t=A.k∧∀ {H:Type} {enc:TypeId × Value→H} {w:World} {fuel:Nat} {cs:List Value} {x:DataW H × List MemPlace},
  DataW.trod enc P w 0 (fun _=>true) true fuel t cs=some x→∃ y:α,A.R w (old w) y cs∧ρ y
def rngI (x:Int):Prop:=-9223372036854775808≤x∧x≤9223372036854775807
def rngL {α:Type} (ρ:α→Prop) (xs:List α):Prop:=xs.length≤9223372036854775807∧∀ x ∈ xs,ρ x
def rngS (s:ByteArray):Prop:=s.size≤9223372036854775807
def rngB (_:Bool):Prop:=True
section
variable {P:Program} {t e:TypeId}
theorem quS (ht:P.underlying t=some (.int .i64)) (hc:P.cellsOf t=1):Opens P t instInt rngI :=
 ⟨hc,fun h=>by
  obtain ⟨n,rfl,_,hw⟩:=DataW.trod_int ht h
  exact ⟨n,rfl,by simp only [Lit.wf,IntKind.min,IntKind.max,ji] at hw;simp [IntKind.bits,IntKind.signed] at hw;unfold rngI;omega⟩⟩
theorem qty (ht:P.underlying t=some .bool) (hc:P.cellsOf t=1):Opens P t instBool rngB :=
 ⟨hc,fun h=>by obtain ⟨n,rfl,_⟩:=DataW.trod_bool ht h;exact ⟨n,rfl,trivial⟩⟩
theorem qt8 (ht:P.underlying t=some .string) (hc:P.cellsOf t=1):Opens P t instStr rngS :=
 ⟨hc,fun h=>by obtain ⟨n,rfl,_,hw⟩:=DataW.trod_string ht h;exact ⟨n,rfl,hw⟩⟩
theorem cells?_at {w:World} {a:Addr} {n:Nat} {cs:List Value} (h:w.cells? 0 a n=some cs) {j:Nat} {v:Value} (hj:cs[j]?=some v):w.cell? (a.add j)=some v:=by
 obtain ⟨_,hl,hc⟩:=World.cells?_some h
 rw [hc j (by have:=(List.getElem?_eq_some_iff.1 hj).1;omega),hj]
theorem cell?_open {w:World} {a:Addr} {v:Value} (h:w.cell? a=some v):∃ b o cur T fr,a=⟨b,o,none⟩∧b<w.heap.size∧w.heap[b]?=some (.cells cur T fr)∧cur[o]?=some v:=by
 have hlt:=World.block_lt_of_cell? w a h
 have hs:=World.cell?_spot h
 obtain ⟨b,o,s⟩:=a
 simp only at hs
 subst hs
 unfold World.cell? at h
 split at h
 ·rename_i c T fr hg
  exact ⟨b,o,c,T,fr,rfl,hlt,hg,by simpa using h⟩
 ·cases h
theorem qdV {α:Type} {A:GoT α} {ρ:α→Prop} (ht:P.underlying t=some (.slice e)) (hc:P.cellsOf t=1) (h:Opens P e A ρ):Opens P t (@instList α A) (rngL ρ):=by
 refine ⟨hc,fun {H enc w fuel cs x} hx=>?_⟩
 obtain ⟨hk,hr⟩:=h
 have hkp:0<A.k:=A.kpos
 rcases DataW.trod_slice ht hx with ⟨rfl,_⟩|⟨a,len,cap,elems,rest,n,rfl,rfl,_,_,hlc,hcm,hel,h1,h2,_⟩
 ·exact ⟨[],⟨none,0,rfl,by simp,by simp,.inl ⟨.inl rfl,rfl⟩⟩,by simp,by simp⟩
 ·obtain ⟨hrl,h2⟩:=h2 rfl
  have hcell:∀ i,i<cap→∃ cs,w.cells? 0 (a.add (i*A.k)) A.k=some cs:=by
   intro i hi
   by_cases hil:i<len
   ·have:=h1 i hil
    rw [jg (by omega)] at this
    obtain ⟨cs,hcs,_⟩:=Option.bind_eq_some_iff.1 this
    rw [hk] at hcs
    exact ⟨cs,hcs⟩
   ·have:=h2 (i-len) (by omega)
    rw [jg (by omega)] at this
    obtain ⟨cs,hcs,_⟩:=Option.bind_eq_some_iff.1 this
    rw [hk,show len+(i-len)=i by omega] at hcs
    exact ⟨cs,hcs⟩
  obtain ⟨ys,hyl,hy⟩:=qk4 (p:=fun i (y:α)=>∃ cs,w.cells? 0 (a.add (i*A.k)) A.k=some cs∧A.R w (old w) y cs∧ρ y) len (fun i hi=>by
   have:=h1 i hi
   rw [jg (by omega)] at this
   obtain ⟨cs,hcs,hd⟩:=Option.bind_eq_some_iff.1 this
   rw [hk] at hcs
   obtain ⟨y,hy1,hy2⟩:=hr hd
   exact ⟨y,cs,hcs,hy1,hy2⟩)
  have hrng:rngL ρ ys:=⟨by rw [hyl];unfold maxLen at hcm;omega,fun y hm=>by
   obtain ⟨i,hi⟩:=List.mem_iff_getElem?.1 hm
   obtain ⟨_,_,_,h⟩:=hy i y hi
   exact h⟩
  refine ⟨ys,⟨some a,cap,by rw [hyl],by omega,hcm,?_⟩,hrng⟩
  by_cases hcap:cap=0
  ·exact .inl ⟨.inr hcap,jE (by omega)⟩
  ·obtain ⟨c0,hc0⟩:=hcell 0 (by omega)
   obtain ⟨_,hl0,_⟩:=World.cells?_some hc0
   have e0:=cells?_at hc0 (j:=0) (jg (by omega))
   have ha0:(a.add (0*A.k)).add 0=a:=by simp [Addr.add]
   rw [ha0] at e0
   obtain ⟨b,o,cur,T,fr,rfl,hb,hg,_⟩:=cell?_open e0
   have hin:∀ i,i<cap→∀ j cs v,w.cells? 0 ((⟨b,o,none⟩:Addr).add (i*A.k)) A.k=some cs→cs[j]?=some v→cur[o+i*A.k+j]?=some v:=by
    intro i hi j cs v hcs hj
    have:=cells?_at hcs hj
    rw [qgm,qgm] at this
    simp only [World.cell?,hg] at this
    simpa using this
   refine .inr ⟨b,o,cur,T,fr,rfl,hb,hg,?_,fun i y hi=>?_⟩
   ·obtain ⟨cl,hcl⟩:=hcell (cap-1) (by omega)
    obtain ⟨_,hll,_⟩:=World.cells?_some hcl
    have:=hin (cap-1) (by omega) (A.k-1) cl _ hcl (jg (by omega))
    have hlt:=(Array.getElem?_eq_some_iff.1 this).1
    have hmul:cap*A.k=(cap-1)*A.k+A.k:=by
     have:cap=(cap-1)+1:=by omega
     conv=>lhs;rw [this]
     rw [jP]
    show o+cap*A.k≤cur.size
    omega
   ·obtain ⟨cs,hcs,hyR,_⟩:=hy i y hi
    have hi':=(List.getElem?_eq_some_iff.1 hi).1
    exact ⟨cs,hyR,fun j v hj=>hin i (by omega) j cs v hcs hj⟩
structure OpensF (P:Program) (fs:List Field) (off:Nat) {α:Type} (A:GoT α) (ρ:α→Prop):Prop where
 get:∀ {H:Type} {enc:TypeId × Value→H} {w:World} {fuel:Nat} {cs:List Value},cs.length=off+A.k →
  (∀ f ∈ fs,∃ x,DataW.trod enc P w 0 (fun _=>true) true fuel f.type ((cs.drop f.offset).take (P.cellsOf f.type))=some x)→∃ y:α,A.R w (old w) y (cs.drop off)∧ρ y
theorem qel {f:Field} {off:Nat} {α:Type} {A:GoT α} {ρ:α→Prop} (ho:f.offset=off) (h:Opens P f.type A ρ):OpensF P [f] off A ρ:=by
 refine ⟨?_⟩
 intro H enc w fuel cs hl hf
 obtain ⟨x,hx⟩:=hf f (by simp)
 rw [h.1,ho,List.take_of_length_le (by simp;omega)] at hx
 exact h.2 hx
theorem qT {f:Field} {fs:List Field} {off:Nat} {α β:Type} {A:GoT α} {B:GoT β} {ρ:α→Prop} {σ:β→Prop} (ho:f.offset=off) (h:Opens P f.type A ρ) (hs:OpensF P fs (off+A.k) B σ) :
  OpensF P (f::fs) off (pairT A B) (fun p=>ρ p.1∧σ p.2):=by
 refine ⟨?_⟩
 intro H enc w fuel cs hl hf
 obtain ⟨x,hx⟩:=hf f (by simp)
 rw [h.1,ho] at hx
 obtain ⟨y,hy1,hy2⟩:=h.2 hx
 obtain ⟨z,hz1,hz2⟩:=hs.get (by rw [hl];show off+(A.k+B.k)=_;omega) (fun g hg=>hf g (jm _ hg))
 exact ⟨(y,z),⟨_,_,by rw [←List.drop_drop,List.take_append_drop],hy1,hz1⟩,hy2,hz2⟩
theorem qct {fs:Array Field} {α β:Type} {A:GoT α} {ρ:α→Prop} {f:β→α} {z:β} {hz:f z=A.zero} {ag:Bool} {hag:ag=false→A.k=1} (g:α→β) (hg:∀ a,f (g a)=a)
  (ht:P.underlying t=some (.struct fs)) (hc:P.cellsOf t=A.k) (h:OpensF P fs.toList 0 A ρ):Opens P t (isoT A f z hz ag hag) (fun y=>ρ (f y)):=by
 refine ⟨hc,fun {H enc w fuel cs x} hx=>?_⟩
 obtain ⟨xs,n,rfl,_,hl,hxl,hf⟩:=DataW.trod_struct ht hx
 obtain ⟨y,hy1,hy2⟩:=h.get (by rw [hl,hc];omega) (fun fl hm=>by
  obtain ⟨i,hi⟩:=List.mem_iff_getElem?.1 hm
  have hi':fs[i]?=some fl:=by simpa using hi
  have hlt:=(Array.getElem?_eq_some_iff.1 hi').1
  have:=hf i fl hi'
  rw [jg (by omega)] at this
  exact ⟨_,this⟩)
 refine ⟨g y,?_,?_⟩
 ·show A.R w (old w) (f (g y)) cs
  rw [hg]
  simpa using hy1
 ·show ρ (f (g y))
  rw [hg]
  exact hy2
end
theorem Opens.imp {P:Program} {t:TypeId} {α:Type} {A:GoT α} {ρ σ:α→Prop} (h:Opens P t A ρ) (hi:∀ y,ρ y→σ y):Opens P t A σ :=
 ⟨h.1,fun hx=>by obtain ⟨y,h1,h2⟩:=h.2 hx;exact ⟨y,h1,hi y h2⟩⟩
theorem qvq {w:World} {S:Nat→Prop} {us:List Value} (h:(vsOne:GoVs Bool).Vs w S true us):tup us=.bool true:=by
 obtain ⟨cs,rfl,h1⟩:=h
 have:cs=[.bool true]:=h1
 subst this
 rfl
end Go.Fw


namespace Go.Fw
open Go
def Ev {α:Type} (f:Nat→Option α) (r:α):Prop:=∃ N,∀ n,N≤n→f n=some r
section
variable {α β:Type} {f g:Nat→Option α} {r:α}
theorem Ev.now {x:Option α} (h:x=some r):Ev (fun _=>x) r:=⟨0,fun _ _=>h⟩
theorem Ev.done:Ev (fun _=>some r) r:=⟨0,fun _ _=>rfl⟩
theorem Ev.bind {f:Nat→Option β} {g:Nat→β→Option α} {b:β} (h:Ev f b) (hg:Ev (fun n=>g n b) r):Ev (fun n=>(f n).bind (g n)) r:=by
 obtain ⟨N,hN⟩:=h
 obtain ⟨M,hM⟩:=hg
 exact ⟨max N M,fun n hn=>by show (f n).bind (g n)=_;rw [hN n (by omega)];exact hM n (by omega)⟩
theorem Ev.bindN {x:Option β} {g:Nat→β→Option α} {b:β} (h:x=some b) (hg:Ev (fun n=>g n b) r):Ev (fun n=>x.bind (g n)) r:=Ev.bind (.now h) hg
theorem Ev.tt {c:Bool} (hc:c=true) (h:Ev f r):Ev (fun n=>bif c then f n else g n) r:=by subst hc;exact h
theorem Ev.ff {c:Bool} (hc:c=false) (h:Ev g r):Ev (fun n=>bif c then f n else g n) r:=by subst hc;exact h
theorem Ev.bif {c:Bool} (h1:c=true→Ev f r) (h2:c=false→Ev g r):Ev (fun n=>bif c then f n else g n) r:=by
 cases c
 ·exact h2 rfl
 ·exact h1 rfl
theorem Ev.succ (h:Ev (fun n=>f (n+1)) r):Ev f r:=by
 obtain ⟨N,hN⟩:=h
 refine ⟨N+1,fun n hn=>?_⟩
 obtain ⟨m,rfl⟩:∃ m,n=m+1:=⟨n-1,by omega⟩
 exact hN m (by omega)
theorem Ev.step (hs:∀ n,f (n+1)=g n) (h:Ev g r):Ev f r:=Ev.succ (by simpa [hs] using h)
theorem Ev.congr (hs:∀ n,f n=g n) (h:Ev g r):Ev f r:=by
 obtain ⟨N,hN⟩:=h
 exact ⟨N,fun n hn=>by rw [hs,hN n hn]⟩
theorem Ev.at (h:Ev f r):∃ n,f n=some r:=⟨h.choose,h.choose_spec _ (jf _)⟩
end
theorem qau {x:Int} (h:-9223372036854775808≤x) (h':x≤9223372036854775807):W64 x=x:=by
 unfold W64
 rw [Go.IntWalk.i64_left]
 exact Go.IntWalk.wrap64_in x ⟨h,h'⟩
theorem qej {j:Nat} (h:j<9223372036854775807):W64 ((j:Int)+1)=((j+1:Nat):Int):=by rw [qau (by omega) (by omega)];omega
theorem wS (j:Nat) (h:j<9223372036854775807:=by omega):W64 ((j:Int)+1)=((j+1:Nat):Int):=qej h
theorem qwk {α:Type} {xs:List α} {j:Nat} (h:j<xs.length):idx xs (j:Int)=some xs[j]:=by
 unfold idx
 simp [h]
theorem qe {j m:Nat} (h:j<m):decide ((j:Int)<(m:Int))=true:=by simp;omega
theorem qh {j m:Nat} (h:m≤j):decide ((j:Int)<(m:Int))=false:=by simp;omega
def EvQ {α:Type} (f:Nat→Option α) (Q:α→Prop):Prop:=∃ r,Ev f r∧Q r
section
variable {α β:Type} {f g:Nat→Option α} {Q Q':α→Prop}
theorem EvQ.of {r:α} (h:Ev f r) (hq:Q r):EvQ f Q:=⟨r,h,hq⟩
theorem EvQ.mono (h:EvQ f Q) (hi:∀ r,Q r→Q' r):EvQ f Q':=by obtain ⟨r,h1,h2⟩:=h;exact ⟨r,h1,hi r h2⟩
theorem EvQ.succ (h:EvQ (fun n=>f (n+1)) Q):EvQ f Q:=by obtain ⟨r,h1,h2⟩:=h;exact ⟨r,h1.succ,h2⟩
theorem EvQ.done {r:α} (h:Q r):EvQ (fun _=>some r) Q:=⟨r,.done,h⟩
theorem EvQ.bindN {x:Option β} {g:Nat→β→Option α} {b:β} (h:x=some b) (hg:EvQ (fun n=>g n b) Q):EvQ (fun n=>x.bind (g n)) Q:=by obtain ⟨r,h1,h2⟩:=hg;exact ⟨r,Ev.bindN h h1,h2⟩
theorem EvQ.bindE {f:Nat→Option β} {g:Nat→β→Option α} {b:β} (h:Ev f b) (hg:EvQ (fun n=>g n b) Q):EvQ (fun n=>(f n).bind (g n)) Q:=by obtain ⟨r,h1,h2⟩:=hg;exact ⟨r,Ev.bind h h1,h2⟩
theorem EvQ.bind {f:Nat→Option β} {g:Nat→β→Option α} {R:β→Prop} (h:EvQ f R) (hg:∀ b,R b→EvQ (fun n=>g n b) Q):EvQ (fun n=>(f n).bind (g n)) Q:=by
 obtain ⟨b,h1,h2⟩:=h
 exact EvQ.bindE h1 (hg b h2)
theorem EvQ.tt {c:Bool} (hc:c=true) (h:EvQ f Q):EvQ (fun n=>bif c then f n else g n) Q:=by subst hc;exact h
theorem EvQ.ff {c:Bool} (hc:c=false) (h:EvQ g Q):EvQ (fun n=>bif c then f n else g n) Q:=by subst hc;exact h
theorem EvQ.bif {c:Bool} (h1:c=true→EvQ f Q) (h2:c=false→EvQ g Q):EvQ (fun n=>bif c then f n else g n) Q:=by
 cases c
 ·exact h2 rfl
 ·exact h1 rfl
end
def Sz (f:Nat→Option Int) (Q:Int→Prop):Prop:=∃ r,Ev f r∧(r<0∨(0≤r∧Q r))
theorem Sz.step {f:Nat→Option Int} {g:Nat→Int→Option Int} {Q Q':Int→Prop} (h:Sz f Q) (hg:∀ r,0≤r→Q r→Sz (fun n=>g n r) Q'):Sz (fun n=>(f n).bind fun r=>bif decide (r<0) then some (-1) else g n r) Q':=by
 obtain ⟨r,hr,hq⟩:=h
 by_cases hn:r<0
 ·exact ⟨-1,Ev.bind hr (Ev.tt (by simpa using hn) .done),.inl (by decide)⟩
 ·rcases hq with hq|⟨h0,hq⟩
  ·exact absurd hq hn
  ·obtain ⟨r',h1,h2⟩:=hg r h0 hq
   exact ⟨r',Ev.bind hr (Ev.ff (by simpa using hn) h1),h2⟩
theorem Sz.done {r:Int} {Q:Int→Prop} (h:0≤r) (hq:Q r):Sz (fun _=>some r) Q:=⟨r,.done,.inr ⟨h,hq⟩⟩
theorem Sz.less {left l:Int} {Q:Int→Prop} (h0:0≤left) (h1:left≤1048576) (h2:0≤l) (h3:l≤9223372036854775807) (hq:l≤left→Q (left-l)) :
  Sz (fun _=>bif decide (W64 (left-l)<0) then some (-1) else some (W64 (left-l))) Q:=by
 rw [qau (by omega) (by omega)]
 by_cases hn:left-l<0
 ·exact ⟨-1,Ev.tt (by simpa using hn) .done,.inl (by decide)⟩
 ·exact ⟨_,Ev.ff (by simpa using hn) .done,.inr ⟨by omega,hq (by omega)⟩⟩
end Go.Fw


namespace Go.Fw
open Go
theorem down {P:Nat→Prop} (len:Nat) (hend:P len) (hstep:∀ j,j<len→P (j+1)→P j):P 0:=by
 have:∀ k,k≤len→P (len-k):=by
  intro k
  induction k with
  | zero=>intro _;exact hend
  | succ k ih =>
   intro h
   refine hstep _ (by omega) ?_
   rw [show len-(k+1)+1=len-k by omega]
   exact ih (by omega)
 have h:=this len (jf _)
 rwa [Nat.sub_self] at h
def padS {α:Type} (a:List α) (z:α) (j:Nat):List α:=a.take j++List.replicate (a.length-j) z
theorem qvK {α:Type} {a:List α} {z:α} {j:Nat} (h:j≤a.length):(padS a z j).length=a.length:=by simp [padS];omega
theorem quZ {α:Type} {a:List α} {z:α}:padS a z 0=List.replicate a.length z:=by simp [padS]
theorem quq {α:Type} {a:List α} {z:α}:padS a z a.length=a:=by simp [padS]
theorem qvN {α:Type} {a:List α} {z:α} {j:Nat} (h:j<a.length):setS (padS a z j) (j:Int) a[j]=padS a z (j+1):=by
 unfold setS padS
 rw [jx]
 refine List.ext_getElem? fun i=>?_
 have hl:(a.take j).length=j:=by simp;omega
 by_cases hij:i=j
 ·subst hij
  rw [List.getElem?_set_self (by simp;omega),jq (by simp;omega),jr,if_pos (by omega),jg h]
 ·rw [Jf (fun e=>hij e.symm)]
  by_cases hlt:i<j
  ·rw [jq (by omega),jq (by simp;omega),jr,jr,if_pos hlt,if_pos (by omega)]
  ·rw [jy (by omega),jy (by simp;omega),List.getElem?_replicate,List.getElem?_replicate,hl]
   have:(a.take (j+1)).length=j+1:=by simp;omega
   rw [this]
   by_cases hi:i-j<a.length-j
   ·rw [if_pos hi,if_pos (by omega)]
   ·rw [if_neg hi,if_neg (by omega)]
theorem qhV {α:Type} {a:List α} {z:α} (h:a.length≤2147483648):mkS (a.length:Int) z=some (padS a z 0):=by
 unfold mkS big
 rw [if_pos ⟨by omega,by omega⟩,quZ]
 simp
theorem qi3 {α:Type} {xs:List α} {i:Int} {y:α}:(setS xs i y).length=xs.length:=by simp [setS]
theorem quP {α:Type} {xs:List α} {j:Nat} {y:α} (h:j<xs.length):(setS xs (j:Int) y)[j]'(by rw [qi3];exact h)=y:=by simp [setS]
theorem qbr {x:Int}:(x != x)=false:=by simp
theorem qrb {x:Bool}:(!(x==x))=false:=by simp
theorem qjo {x:ByteArray}:(x.toList != x.toList)=false:=by simp
def mixS {α:Type} (f:Nat→α) (a:List α) (j:Nat):List α:=(List.range j).map f++a.drop j
theorem qvi {α:Type} {f:Nat→α} {a:List α} {j:Nat} (h:j≤a.length):(mixS f a j).length=a.length:=by simp [mixS];omega
theorem quX {α:Type} {f:Nat→α} {a:List α}:mixS f a 0=a:=by simp [mixS]
theorem qt7 {α:Type} {f:Nat→α} {a:List α}:mixS f a a.length=(List.range a.length).map f:=by simp [mixS]
theorem qvS {α:Type} {f:Nat→α} {a:List α} {j:Nat} (h:j<a.length):setS (mixS f a j) (j:Int) (f j)=mixS f a (j+1):=by
 unfold setS mixS
 rw [jx]
 refine List.ext_getElem? fun i=>?_
 have hl:((List.range j).map f).length=j:=by simp
 have hl1:((List.range (j+1)).map f).length=j+1:=by simp
 by_cases hij:i=j
 ·subst hij
  rw [List.getElem?_set_self (by simp;omega),jq (by omega),List.getElem?_map,List.getElem?_range (by omega)]
  rfl
 ·rw [Jf (fun e=>hij e.symm)]
  by_cases hlt:i<j
  ·rw [jq (by omega),jq (by omega),List.getElem?_map,List.getElem?_map,List.getElem?_range hlt,List.getElem?_range (by omega)]
  ·rw [jy (by omega),jy (by omega),hl,hl1,jB,jB]
   congr 1
   omega
theorem qwy {α:Type} {f:Nat→α} {a:List α} {j:Nat} (h:j<a.length):idx (mixS f a j) (j:Int)=some a[j]:=by
 rw [qwk (by rw [qvi (by omega)];exact h)]
 simp [mixS]
def count (k:Int) (m:Nat):List Int:=(List.range m).map fun (i:Nat)=>k+(i:Int)
end Go.Fw


namespace Go.Fw
open Go
open Go.RowKit (Below)
section
variable {P:Program} {T:Tab} {n:Nat} {e:Env} {w:World}
theorem qnH (d:Nat) {t el:TypeId} (hu:P.underlying t=some (.slice el)) (p:Option Addr) (l c:Nat) (w:World):(Op.equalIn (d+1) t (.slice p l c) (.slice none 0 0)).run P w=.ok p.isNone w:=by
 cases p<;>simp [Op.equalIn,run_underlying hu]
theorem qq6 {t el:TypeId} (hu:P.underlying t=some (.slice el)) (p:Option Addr) (l c:Nat) (w:World):(Op.equal t (.slice p l c) (.slice none 0 0)).run P w=.ok p.isNone w:=by
 simp only [Op.equal,Op.maxDepth]
 exact qnH 9999 hu p l c w
theorem qpY (op:BinOp) (t:TypeId) (x y:Operand) (p q:Option Addr) (a b c d:Nat) (w:World):(eqGuard op t x y (.slice p a b) (.slice q c d)).run P w=.ok () w:=by
 unfold eqGuard;split<;>rfl
theorem qrw (hT:TabOk P T) {x y:Operand} {t t' d ty el:Nat} {ps:String} {af:Array Edge} {g:Option (Nat × Bool)} {te:TE} {p:Option Addr} {l c:Nat}
  (ht:T.get t=some te) (hk:te.kind=.slice el) (hx:opv e x=some (.slice p l c)) (hy:opv e y=some (.slice none 0 0)) {r:Bool} (hr:p.isNone=r):Val P n e ⟨some d,.binOp .eql t x y t',ty,ps,af,g⟩ w (.bool r):=by
 intro a ha
 subst hr
 have hu:=qbW (hT t te ht) hk
 simp only [execOp,ha.eval hx,ha.eval hy,jj,qpY,jh,binOp,qq6 hu,jl]
theorem qrH {α:Type} [GoT α] {S:Nat→Prop} {xs:List α} {c:Nat} (h:SlR w S xs none c):xs=[]:=by
 obtain ⟨_,_,h3⟩:=h
 rcases h3 with ⟨_,h⟩|⟨b,o,cur,T,fr,h,_⟩
 ·exact h
 ·cases h
end
end Go.Fw


namespace Go.Fw
open Go
open Go.RowKit (Below)
structure Fct where
 α:Type
 inst:GoT α
 x:α
 cs:List Value
def Fct.R (f:Fct) (w:World) (S:Nat→Prop):Prop:=f.inst.R w S f.x f.cs
def fct {α:Type} [GoT α] (x:α) (cs:List Value):Fct:=⟨α,inferInstance,x,cs⟩
def Ch.grp (D S:Nat→Prop) (fs:List Fct):Ch where
 S:=S
 D:=D
 P w:=∀ f ∈ fs,f.R w (fun b=>S b∨D b)
 loc _ _ h h' hp f hf:=GoT.loc (self:=f.inst) (hp f hf) (fun b hb=>hb.elim (h b) (h' b))
def reg (A:Nat→Prop) (w0 w:World) (b:Nat):Prop:=A b∨fresh w0 w b
section
variable {w0 w w':World} {L:List Ch} {D S S1 S2:Nat→Prop} {fs fs2:List Fct} {α:Type} [GoT α] {x:α} {cs:List Value}
theorem SH.grpS (i j:Nat) (h:SH w0 w L) (hi:L[i]?=some (Ch.grp D S fs)) (hj:fs[j]?=some (fct x cs)):GoT.R w (fun b=>S b∨D b) x cs :=
 (h.mem hi).1 _ (jA hj)
theorem SH.grpB {i:Nat} (h:SH w0 w L) (hi:L[i]?=some (Ch.grp D S fs)):∀ b,S b∨D b→Fw.old w b:=by
 intro b hb
 rcases hb with hb|hb
 ·exact ((h.mem hi).2 b hb).2
 ·exact jz (h.elder _ (jA hi) b hb) h.below.size
theorem SH.grp (i j:Nat) (h:SH w0 w L) (hi:L[i]?=some (Ch.grp D S fs)) (hj:fs[j]?=some (fct x cs)):GoT.R w (Fw.old w) x cs :=
 GoT.mono (h.grpS i j hi hj) (h.grpB hi)
theorem SH.swap {c c':Ch} (h:SH w0 w (c::L)) (hp:c'.P w) (hS:∀ b,c'.S b→c.S b) (hD:∀ b,c'.D b→b<w0.heap.size):SH w0 w (c'::L):=by
 refine ⟨h.below,fun d hd=>?_,fun d hd=>?_,?_⟩
 ·rcases List.mem_cons.1 hd with rfl|hd
  ·exact ⟨hp,fun b hb=>(h.holds c (jn ..)).2 b (hS b hb)⟩
  ·exact h.holds d (jm _ hd)
 ·rcases List.mem_cons.1 hd with rfl|hd
  ·exact hD
  ·exact h.elder d (jm _ hd)
 ·have:=List.pairwise_cons.1 h.apart
  exact List.pairwise_cons.2 ⟨fun d hd b hb=>this.1 d hd b (hS b hb),this.2⟩
theorem SH.join {c d e:Ch} (h:SH w0 w (c::d::L)) (hp:c.P w→d.P w→e.P w) (hS:∀ b,e.S b→c.S b∨d.S b) (hD:∀ b,e.D b→b<w0.heap.size):SH w0 w (e::L):=by
 have hc:=h.holds c (jn ..)
 have hd:=h.holds d (jm _ (jn ..))
 have h1:=List.pairwise_cons.1 h.apart
 have h2:=List.pairwise_cons.1 h1.2
 refine ⟨h.below,fun f hf=>?_,fun f hf=>?_,?_⟩
 ·rcases List.mem_cons.1 hf with rfl|hf
  ·exact ⟨hp hc.1 hd.1,fun b hb=>(hS b hb).elim (hc.2 b) (hd.2 b)⟩
  ·exact h.holds f (jm _ (jm _ hf))
 ·rcases List.mem_cons.1 hf with rfl|hf
  ·exact hD
  ·exact h.elder f (jm _ (jm _ hf))
 ·refine List.pairwise_cons.2 ⟨fun f hf b hb=>?_,h2.2⟩
  rcases hS b hb with hb|hb
  ·exact h1.1 f (jm _ hf) b hb
  ·exact h2.1 f hf b hb
def pickF (fs:List Fct):List Nat→List Fct
 | []=>[]
 | i::is=>match fs[i]? with
  | some f=>f::pickF fs is
  | none=>pickF fs is
theorem qnW {f:Fct}:∀ {is:List Nat},f ∈ pickF fs is→f ∈ fs
 | [],h=>by cases h
 | i::is,h=>by
  simp only [pickF] at h
  split at h
  ·rename_i g hg
   rcases List.mem_cons.1 h with rfl|h
   ·exact jA hg
   ·exact qnW h
  ·exact qnW h
theorem SH.regOld {A:Nat→Prop} (h:SH w0 w L) (hA:∀ b,A b→Fw.old w0 b) (hr:GoT.R w0 A x cs):GoT.R w A x cs:=GoT.loc hr (fun b hb=>h.below.block b (hA b hb))
end
class GoRs (ρ:Type) where
 Rs:World→(Nat→Prop)→ρ→List Value→Prop
instance rsOne {α:Type} [GoT α]:GoRs α where
 Rs w S x vs:=∃ cs,vs=[GoT.v α cs]∧GoT.R w S x cs
instance (priority:=high) rsCons {α β:Type} [GoT α] [GoRs β]:GoRs (α × β) where
 Rs w S x vs:=∃ cs us,vs=GoT.v α cs::us∧GoT.R w S x.1 cs∧GoRs.Rs w S x.2 us
def RetG {ρ:Type} [GoRs ρ] (P:Program) (f:FuncId) (vs:List Value) (w:World) (A:Nat→Prop) (r:ρ):Prop :=
 Calls P f vs.toArray w fun e w'=>∃ v,e=.returned v∧Below w.heap.size w w'∧∃ us,v=tup us∧GoRs.Rs w' (reg A w w') r us
section
variable {P:Program} {T:Tab} {n:Nat} {Q:Exit→Act→World→Prop} {k:List It} {e:Env} {w0 w w':World} {L:List Ch}
theorem qwz {ρ:Type} [GoRs ρ] (r:ρ) {A D:Nat→Prop} {all:Array Oper} {l:List Oper} {d ty:Nat} {ps:String} {af:Array Edge} {x:Operand} {args:Array Operand} {ats:Array TypeId} {f:FuncId} {fi ca:Array Value} {az vs:List Value}
  (h:SH w0 w L) (hD:∀ b,D b→b<w0.heap.size) (hcall:qe3 P f) (hc:RetG P f vs w A r) (hx:opv e x=some (.func (.func f) fi ca)) (hargs:opvs e args.toList=some az) (hvs:fi.toList++az++ca.toList=vs) (hn:Nat.blt d n=true)
  (hk:∀ w' us,Below w.heap.size w w'→SH w0 w' (Ch.grp D (fresh w w') []::L)→GoRs.Rs w' (reg A w w') r us→Run P n Q (.ops all l::k) ((d,tup us)::e) w') :
  Run P n Q (.ops all (⟨some d,.call ⟨.value x,args,ats⟩,ty,ps,af,none⟩::l)::k) e w:=by
 subst hvs
 refine qm5 (R:=fun v w'=>Below w.heap.size w w'∧∃ us,v=tup us∧GoRs.Rs w' (reg A w w') r us) rfl rfl hn (fun a ha=>qjE ha hcall hx hargs w) hc ?_
 rintro v w' ⟨hb,us,rfl,hv⟩
 exact hk w' us hb (h.add (c:=Ch.grp D (fresh w w') []) hb (fun f hf=>by cases hf) (fun _ hb=>hb) hD) hv
theorem qiZ {ρ:Type} [GoRs ρ] {f:FuncId} {fn:Func} {c:Code} {vs:List Value} {A:Nat→Prop} {r:ρ} {m:Nat} (hf:P.funcs[f]?=some fn) (hb:fn.body=some c) (hm:fn.ntmps=m) (hn:Nat.ble vs.length m=true)
  (h:SH w w []→Run P m (bodyPost P fn fun e w'=>∃ v,e=.returned v∧Below w.heap.size w w'∧∃ us,v=tup us∧GoRs.Rs w' (reg A w w') r us) [.code c] (argEnv 0 vs) w):RetG P f vs w A r:=by
 subst hm
 have hn':=jt hn
 refine calls_of_wp hf hb ?_
 have hr:=h (SH.start w)
 have hag:Agree fn.ntmps (argEnv 0 vs) { tmps:=vs.toArray++Array.replicate (fn.ntmps-vs.toArray.size) undef,defers:=[] }:=by
  refine ⟨rfl,by simp;omega,fun i v hi=>?_⟩
  obtain ⟨_,h2⟩:=qjT vs 0 i v hi
  simp only [Nat.sub_zero] at h2
  have hlt:=(List.getElem?_eq_some_iff.1 h2).1
  rw [jX (by simpa using hlt)]
  simpa using h2
 have h1:=hr _ hag
 refine wp_mono h1 ?_
 intro ex a' w' hq
 cases ex<;>exact hq
theorem qkw (hT:TabOk P T) {fn:Func} {ρ:Type} [GoRs ρ] {A:Nat→Prop} {r:ρ} (us:List Value) (h:SH w0 w L) (hr:ResOk T e w fn.results.toList us) (hv:GoRs.Rs w (reg A w0 w) r us) :
  Run P n (bodyPost P fn fun e w'=>∃ v,e=.returned v∧Below w0.heap.size w0 w'∧∃ us,v=tup us∧GoRs.Rs w' (reg A w0 w') r us) (.code .ret::k) e w :=
 qtK fun _ ha=>⟨ha.defers,tup us,qjw hT ha hr,tup us,rfl,h.below,us,rfl,hv⟩
end
end Go.Fw


namespace Go.Fw
open Go
open Go.RowKit (Below)
structure Raw (α:Type) where
 cs:List Value
instance gt_Raw {α:Type} [GoT α]:GoT (Raw α) where
 k:=GoT.k α
 agg:=GoT.agg α
 zero:=⟨GoT.zc α⟩
 zc:=GoT.zc α
 R _ _ x cs:=cs=x.cs∧cs.length=GoT.k α∧∀ c ∈ cs,c.oneCell'=true
 O _ _ x cs:=cs=x.cs∧cs.length=GoT.k α∧∀ c ∈ cs,c.oneCell'=true
 kpos:=GoT.kpos
 noagg:=GoT.noagg
 len h:=h.2.1
 one h:=h.2.2
 loc h _:=h
 mono h _:=h
 toR h:=h
 locO h _:=h
 monoO h _:=h
 zO _ _:=⟨rfl,GoT.len (GoT.toR (GoT.zO (α:=α) default (fun _=>False))),GoT.one (GoT.toR (GoT.zO (α:=α) default (fun _=>False)))⟩
instance fl_Raw {α:Type} [GoT α]:Flat (Raw α):=⟨fun h=>h,fun h h'=>h.1.trans h'.1.symm⟩
def Ch.els {α:Type} [GoT α] (S:Nat→Prop) (xs:List α) (rs:List (Raw α)):Ch where
 S:=S
 D _:=False
 P w:=xs.length=rs.length∧∃ F:Nat→Nat→Prop,(∀ i a,F i a→S a)∧(∀ i j a,i ≠ j→F i a→¬ F j a)∧∀ i x r,xs[i]?=some x→rs[i]?=some r→GoT.O w (F i) x r.cs
 loc w w' h _ hp:=by
  obtain ⟨h0,F,h1,h2,h3⟩:=hp
  exact ⟨h0,F,h1,h2,fun i x r hx hr=>GoT.locO (h3 i x r hx hr) (fun b hb=>h b (h1 i b hb))⟩
theorem qtY {α β:Type} {p:Nat→α→β→Prop}:∀ (xs:List α),(∀ i x,xs[i]?=some x→∃ r,p i x r)→∃ rs:List β,rs.length=xs.length∧∀ i x r,xs[i]?=some x→rs[i]?=some r→p i x r:=by
 intro xs h
 obtain ⟨rs,hl,hr⟩:=qk4 (p:=fun i r=>∀ x,xs[i]?=some x→p i x r) xs.length (fun i hi=>by
  obtain ⟨r,hr⟩:=h i xs[i] (jg hi)
  exact ⟨r,fun x hx=>by rw [jg hi] at hx;obtain rfl:=Option.some.inj hx;exact hr⟩)
 exact ⟨rs,hl,fun i x r hx hrr=>hr i r hrr x hx⟩
section
variable {w0 w w':World} {L:List Ch} {S:Nat→Prop} {α:Type} [GoT α]
theorem SH.splitL {xs:List α} {p:Option Addr} {ln c:Nat} (h:SH w0 w (Ch.own S xs [.slice p ln c]::L)) :
  ∃ S1 S2,∃ rs:List (Raw α),rs.length=xs.length∧SH w0 w (Ch.own S1 rs [.slice p ln c]::Ch.els S2 xs rs::L):=by
 obtain ⟨hP,hS⟩:=h.holds _ (jn ..)
 obtain ⟨p',c',he,h1,h2,h3⟩:=hP
 simp only [List.cons.injEq,Value.slice.injEq,and_true] at he
 obtain ⟨rfl,rfl,rfl⟩:=he
 have hpw:=List.pairwise_cons.1 h.apart
 have fin:∀ (S1 S2:Nat→Prop) (rs:List (Raw α)),(Ch.own S1 rs [.slice p xs.length c]).P w→(Ch.els S2 xs rs).P w→(∀ b,S1 b→S b)→(∀ b,S2 b→S b)→(∀ b,S1 b→¬ S2 b)→SH w0 w (Ch.own S1 rs [.slice p xs.length c]::Ch.els S2 xs rs::L):=by
  intro S1 S2 rs q1 q2 s1 s2 s3
  refine ⟨h.below,fun d hd=>?_,fun d hd=>?_,?_⟩
  ·rcases List.mem_cons.1 hd with rfl|hd
   ·exact ⟨q1,fun b hb=>hS b (s1 b hb)⟩
   rcases List.mem_cons.1 hd with rfl|hd
   ·exact ⟨q2,fun b hb=>hS b (s2 b hb)⟩
   ·exact h.holds d (jm _ hd)
  ·rcases List.mem_cons.1 hd with rfl|hd
   ·exact fun _ h=>h.elim
   rcases List.mem_cons.1 hd with rfl|hd
   ·exact fun _ h=>h.elim
   ·exact h.elder d (jm _ hd)
  ·refine List.pairwise_cons.2 ⟨fun d hd b hb=>?_,List.pairwise_cons.2 ⟨fun d hd b hb=>hpw.1 d hd b (s2 b hb),hpw.2⟩⟩
   rcases List.mem_cons.1 hd with rfl|hd
   ·exact s3 b hb
   ·exact hpw.1 d hd b (s1 b hb)
 rcases h3 with ⟨rfl,rfl,rfl⟩|⟨b,cur,T,F,rfl,hb,hg,hcur,hF,hd,hx⟩
 ·exact ⟨fun _=>False,fun _=>False,[],rfl,fin _ _ _ ⟨none,0,rfl,by simp,by simp,.inl ⟨rfl,rfl,rfl⟩⟩ ⟨rfl,fun _ _=>False,fun _ _ h=>h.elim,fun _ _ _ _ h=>h.elim,fun i x r hx=>by simp at hx⟩ (fun _ h=>h.elim) (fun _ h=>h.elim) (fun _ h=>h.elim)⟩
 ·obtain ⟨rs,hl,hr⟩:=qtY (p:=fun i x (r:Raw α)=>GoT.O w (F i) x r.cs∧∀ j v,r.cs[j]?=some v→cur[i*GoT.k α+j]?=some v) xs (fun i x hi=>by
   obtain ⟨cs,h1,h2⟩:=hx i x hi
   exact ⟨⟨cs⟩,h1,h2⟩)
  refine ⟨fun a=>a=b,fun a=>∃ i,F i a,rs,hl,fin _ _ _ ?_ ⟨hl.symm,F,fun i a ha=>⟨i,ha⟩,hd,fun i x r hx hrr=>(hr i x r hx hrr).1⟩ (fun a ha=>ha ▸ hb) (fun a ⟨i,ha⟩=>(hF i a ha).1) (fun a ha ⟨i,hi⟩=>(hF i a hi).2 ha)⟩
  refine ⟨some ⟨b,0,none⟩,c,by rw [hl],by rw [hl];exact h1,h2,.inr ⟨b,cur,T,fun _ _=>False,rfl,rfl,hg,hcur,fun _ _ h=>h.elim,fun _ _ _ _ h=>h.elim,fun i r hi=>?_⟩⟩
  have hi':i<xs.length:=by have:=(List.getElem?_eq_some_iff.1 hi).1;omega
  obtain ⟨q1,q2⟩:=hr i xs[i] r (jg hi') hi
  exact ⟨r.cs,⟨rfl,GoT.len (GoT.toR q1),GoT.one (GoT.toR q1)⟩,q2⟩
theorem SH.joinL {S1 S2:Nat→Prop} {xs:List α} {rs:List (Raw α)} {p:Option Addr} {ln c:Nat} (h:SH w0 w (Ch.own S1 rs [.slice p ln c]::Ch.els S2 xs rs::L)) :
  SH w0 w (Ch.own (fun b=>S1 b∨S2 b) xs [.slice p ln c]::L):=by
 have hap:=(List.pairwise_cons.1 h.apart).1 (Ch.els S2 xs rs) (jn ..)
 refine h.join (e:=Ch.own (fun b=>S1 b∨S2 b) xs [.slice p ln c]) (fun h1 h2=>?_) (fun _ hb=>hb) (fun _ h=>h.elim)
 obtain ⟨p',c',he,q1,q2,q3⟩:=h1
 obtain ⟨hl,F,f1,f2,f3⟩:=h2
 simp only [List.cons.injEq,Value.slice.injEq,and_true] at he
 obtain ⟨rfl,rfl,rfl⟩:=he
 refine ⟨p,c,by rw [hl],by rw [hl];exact q1,q2,?_⟩
 rcases q3 with ⟨rfl,hnil,rfl⟩|⟨b,cur,T,G,rfl,hb,hg,hcur,hG,hd,hx⟩
 ·exact .inl ⟨rfl,jE (by rw [hl,hnil];rfl),rfl⟩
 ·refine .inr ⟨b,cur,T,F,rfl,.inl hb,hg,hcur,fun i a ha=>⟨.inr (f1 i a ha),fun hab=>hap b hb (hab ▸ f1 i a ha)⟩,f2,fun i x hi=>?_⟩
  have hi':i<rs.length:=by have:=(List.getElem?_eq_some_iff.1 hi).1;omega
  obtain ⟨cs,⟨e1,_,_⟩,hj⟩:=hx i rs[i] (jg hi')
  subst e1
  exact ⟨_,f3 i x rs[i] hi (jg hi'),hj⟩
end
def Ch.elsB {α:Type} [GoT α] (S:Nat→Prop) (k:Nat) (xs:List α) (rs:List (Raw α)):Ch where
 S:=S
 D _:=False
 P w:=xs.length=rs.length∧∃ F:Nat→Nat→Prop,(∀ i a,F i a→S a)∧(∀ i j a,i ≠ j→F i a→¬ F j a)∧(∀ a,¬ F k a)∧∀ i x r,i ≠ k→xs[i]?=some x→rs[i]?=some r→GoT.O w (F i) x r.cs
 loc w w' h _ hp:=by
  obtain ⟨h0,F,h1,h2,h4,h3⟩:=hp
  exact ⟨h0,F,h1,h2,h4,fun i x r hi hx hr=>GoT.locO (h3 i x r hi hx hr) (fun b hb=>h b (h1 i b hb))⟩
section
variable {w0 w w':World} {L:List Ch} {S Se:Nat→Prop} {α:Type} [GoT α]
theorem SH.cons {c:Ch} (h:SH w0 w L) (hp:c.P w) (hS:∀ b,¬ c.S b) (hD:∀ b,¬ c.D b):SH w0 w (c::L):=by
 refine ⟨h.below,fun d hd=>?_,fun d hd=>?_,List.pairwise_cons.2 ⟨fun _ _ b hb=>absurd hb (hS b),h.apart⟩⟩
 ·rcases List.mem_cons.1 hd with rfl|hd
  ·exact ⟨hp,fun b hb=>absurd hb (hS b)⟩
  ·exact h.holds d hd
 ·rcases List.mem_cons.1 hd with rfl|hd
  ·exact fun b hb=>absurd hb (hD b)
  ·exact h.elder d hd
theorem SH.elsTake {xs:List α} {rs:List (Raw α)} {k:Nat} {x:α} {r:Raw α} (h:SH w0 w (Ch.els S xs rs::L)) (hx:xs[k]?=some x) (hr:rs[k]?=some r) :
  ∃ S1 S2,SH w0 w (Ch.own S1 x r.cs::Ch.elsB S2 k xs rs::L):=by
 obtain ⟨hP,hS⟩:=h.holds _ (jn ..)
 obtain ⟨hl,F,f1,f2,f3⟩:=hP
 have hpw:=List.pairwise_cons.1 h.apart
 refine ⟨F k,fun a=>∃ i,i ≠ k∧F i a,h.below,fun d hd=>?_,fun d hd=>?_,?_⟩
 ·rcases List.mem_cons.1 hd with rfl|hd
  ·exact ⟨f3 k x r hx hr,fun b hb=>hS b (f1 k b hb)⟩
  rcases List.mem_cons.1 hd with rfl|hd
  ·refine ⟨⟨hl,fun i a=>i ≠ k∧F i a,fun i a ha=>⟨i,ha⟩,fun i j a hne ha hb=>f2 i j a hne ha.2 hb.2,fun a ha=>ha.1 rfl,fun i y q hi hy hq=>GoT.monoO (f3 i y q hy hq) (fun a ha=>⟨hi,ha⟩)⟩,fun b hb=>?_⟩
   obtain ⟨i,_,hi⟩:=hb
   exact hS b (f1 i b hi)
  ·exact h.holds d (jm _ hd)
 ·rcases List.mem_cons.1 hd with rfl|hd
  ·exact fun _ h=>h.elim
  rcases List.mem_cons.1 hd with rfl|hd
  ·exact fun _ h=>h.elim
  ·exact h.elder d (jm _ hd)
 ·refine List.pairwise_cons.2 ⟨fun d hd b hb=>?_,List.pairwise_cons.2 ⟨fun d hd b hb=>?_,hpw.2⟩⟩
  ·rcases List.mem_cons.1 hd with rfl|hd
   ·rintro ⟨i,hi,hb2⟩
    exact f2 k i b (fun e=>hi e.symm) hb hb2
   ·exact hpw.1 d hd b (f1 k b hb)
  ·obtain ⟨i,_,hi⟩:=hb
   exact hpw.1 d hd b (f1 i b hi)
end
end Go.Fw


namespace Go.Fw
open Go
structure IntK (k:IntKind) where
 val:Int
instance gt_IntK {kd:IntKind}:GoT (IntK kd) where
 k:=1
 agg:=false
 zero:=⟨0⟩
 zc:=[.int kd 0]
 R _ _ x cs:=cs=[.int kd x.val]
 O _ _ x cs:=cs=[.int kd x.val]
 kpos:=by decide
 noagg _:=rfl
 len h:=by subst h;rfl
 one h:=by subst h;simp [Value.oneCell']
 loc h _:=h
 mono h _:=h
 toR h:=h
 locO h _:=h
 monoO h _:=h
 zO _ _:=rfl
instance fl_IntK {kd:IntKind}:Flat (IntK kd):=⟨fun h=>h,fun h h'=>Eq.trans h (Eq.symm h')⟩
section
variable {P:Program} {T:Tab} {n:Nat} {Q:Exit→Act→World→Prop} {k:List It} {e:Env} {w0 w w':World} {L:List Ch} {S:Nat→Prop}
end
end Go.Fw


namespace Go.Fw
open Go
open Go.RowKit (Below)
section
variable {P:Program} {T:Tab} {n:Nat} {Q:Exit→Act→World→Prop} {k:List It} {e:Env} {w0 w w' w1:World} {L:List Ch}
def Ch.two (c d:Ch):Ch where
 S b:=c.S b∨d.S b
 D b:=c.D b∨d.D b
 P w:=c.P w∧d.P w∧∀ b,c.S b→¬ d.S b
 loc w w' h h' hp:=⟨c.loc w w' (fun b hb=>h b (.inl hb)) (fun b hb=>h' b (.inl hb)) hp.1,d.loc w w' (fun b hb=>h b (.inr hb)) (fun b hb=>h' b (.inr hb)) hp.2.1,hp.2.2⟩
theorem SH.fuse {c d:Ch} (h:SH w0 w (c::d::L)):SH w0 w (Ch.two c d::L):=by
 have hap:=(List.pairwise_cons.1 h.apart).1 d (jn ..)
 exact h.join (e:=Ch.two c d) (fun h1 h2=>⟨h1,h2,hap⟩) (fun _ hb=>hb) (fun b hb=>hb.elim (h.elder c (jn ..) b) (h.elder d (jm _ (jn ..)) b))
theorem qko {i c m:Nat} (h:i<c):i*m+m≤c*m:=by
 have:(i+1)*m≤c*m:=ju _ h
 rw [jP] at this
 exact this
theorem qtA {i j m r q:Nat} (hne:i ≠ j) (hr:r<m) (_:q<m):i*m+r<j*m∨j*m+m≤i*m+r:=by
 rcases Nat.lt_or_gt_of_ne hne with h|h
 ·left
  have:(i+1)*m≤j*m:=ju _ h
  rw [jP] at this
  omega
 ·right
  have:(j+1)*m≤i*m:=ju _ h
  rw [jP] at this
  omega
theorem qr1 {cur:List Value} {q:Nat} {vs:List Value} (hfit:q+vs.length≤cur.length) {j:Nat} {v:Value} (hj:vs[j]?=some v):(splice cur q vs)[q+j]?=some v:=by
 have hjl:=(List.getElem?_eq_some_iff.1 hj).1
 rw [getElem?_splice hfit,if_neg (by omega),if_pos (by omega),show q+j-q=j by omega]
 exact hj
theorem qqk {cur:List Value} {q:Nat} {vs:List Value} (hfit:q+vs.length≤cur.length) {j:Nat} (hne:j<q∨q+vs.length≤j):(splice cur q vs)[j]?=cur[j]?:=by
 rw [getElem?_splice hfit]
 rcases hne with h|h
 ·rw [if_pos h]
 ·rw [if_neg (by omega),if_neg (by omega)]
theorem qv4 {α:Type} [GoT α] {S S1:Nat→Prop} {xs:List α} {p:Option Addr} {ln c b o q:Nat} {iv:Int} {y y':α} {cs:List Value}
  (h:SH w0 w (Ch.own S1 y' cs::Ch.own S xs [.slice p ln c]::L)) (hy:idx xs iv=some y) (hp:p=some ⟨b,o,none⟩) (hq:q=o+iv.toNat*GoT.k α) :
  ∃ cur t,w.heap[b]?=some (.cells cur t (0,0))∧q+cs.length≤cur.size∧cs.length=GoT.k α∧(∀ v ∈ cs,v.oneCell'=true) ∧
   SH w0 (w.setRow b (splice cur.toList q cs).toArray) (Ch.own (fun b=>S1 b∨S b) (setS xs iv y') [.slice p ln c]::L):=by
 have hf:=h.fuse
 obtain ⟨⟨hO1,hO2,hap⟩,hS⟩:=hf.holds _ (jn ..)
 obtain ⟨h0,hlt,hxi⟩:=qax hy
 obtain ⟨p',c',he,h1,h2,h3⟩:=hO2
 simp only [List.cons.injEq,Value.slice.injEq,and_true] at he
 obtain ⟨rfl,rfl,rfl⟩:=he
 have hO1':GoT.O w S1 y' cs:=hO1
 have hk:=GoT.len (GoT.toR hO1')
 rcases h3 with ⟨rfl,_,_⟩|⟨b',cur,t,F,hpb,hb,hg,hcur,hF,hd,hx'⟩
 ·cases hp
 ·subst hp
  simp only [Option.some.injEq,Addr.mk.injEq,and_true] at hpb
  obtain ⟨rfl,rfl⟩:=hpb
  simp only [Ji] at hq
  subst hq
  have hi':iv.toNat<xs.length:=(List.getElem?_eq_some_iff.1 hxi).1
  have hbound:iv.toNat*GoT.k α+GoT.k α≤cur.size:=by
   rw [hcur];exact qko (by omega)
  have hfit:iv.toNat*GoT.k α+cs.length≤cur.toList.length:=by simp;omega
  refine ⟨cur,t,hg,by simpa using hfit,hk,GoT.one (GoT.toR hO1'),?_⟩
  have hu:=hf.upd (i:=0) (c':=Ch.own (fun b=>S1 b∨S b) (setS xs iv y') [.slice (some ⟨b,0,none⟩) xs.length c]) (w':=w.setRow b (splice cur.toList (iv.toNat*GoT.k α) cs).toArray) rfl rfl rfl rfl (by simp)
   (fun a _ ha=>setRow_other w b a _ (fun hab=>ha (.inr (hab ▸ hb)))) ?_ (fun a ha=>.inl ha) (fun _ hd=>hd.elim)
  ·exact hu
  ·refine ⟨some ⟨b,0,none⟩,c,by simp [setS],by simpa [setS] using h1,h2,.inr ⟨b,_,t,fun i a=>(i=iv.toNat∧S1 a)∨(i ≠ iv.toNat∧F i a),rfl,.inr hb,setRow_heap w b _ _ t _ hg,?_,?_,?_,?_⟩⟩
   ·rw [jQ,qb4 hfit];simpa using hcur
   ·rintro i a (⟨_,ha⟩|⟨_,ha⟩)
    ·exact ⟨.inl ha,fun hab=>hap a ha (hab ▸ hb)⟩
    ·exact ⟨.inr (hF i a ha).1,(hF i a ha).2⟩
   ·rintro i j a hne (⟨hi,ha⟩|⟨hi,ha⟩) (⟨hj,hb'⟩|⟨hj,hb'⟩)
    ·exact hne (hi.trans hj.symm)
    ·exact hap a ha (hF j a hb').1
    ·exact hap a hb' (hF i a ha).1
    ·exact hd i j a hne ha hb'
   ·intro m x hm
    have hkp:=GoT.kpos (α:=α)
    unfold setS at hm
    rw [List.getElem?_set] at hm
    split at hm
    ·rename_i hmi
     simp only [Option.some.injEq] at hm
     subst hm
     refine ⟨cs,GoT.monoO (GoT.locO hO1' (fun a ha=>setRow_other w b a _ (fun hab=>hap a ha (hab ▸ hb)))) (fun a ha=>.inl ⟨hmi.symm,ha⟩),fun r v hr=>?_⟩
     rw [jF,←hmi]
     exact qr1 hfit hr
    ·rename_i hmi
     obtain ⟨cs',hr',hj'⟩:=hx' m x hm
     refine ⟨cs',GoT.monoO (GoT.locO hr' (fun a ha=>setRow_other w b a _ (hF m a ha).2)) (fun a ha=>.inr ⟨fun e=>hmi e.symm,ha⟩),fun r v hr=>?_⟩
     have hrk:r<GoT.k α:=by have:=GoT.len (GoT.toR hr');have:=(List.getElem?_eq_some_iff.1 hr).1;omega
     rw [jF,qqk hfit (by rw [hk];exact qtA (q:=r) (fun e=>hmi e.symm) hrk hrk)]
     simpa using hj' r v hr
theorem qkB (hT:TabOk P T) {α:Type} [GoT α] {all:Array Oper} {l:List Oper} {t ty:Nat} {ps:String} {af:Array Edge} {x v:Operand} {te:TE} {S S1:Nat→Prop} {xs:List α} {p:Option Addr} {ln c b o q:Nat} {iv:Int} {y:α} {cs:List Value} {u:Value} (y':α)
  (h:SH w0 w (Ch.own S1 y' cs::Ch.own S xs [.slice p ln c]::L)) (hy:idx xs iv=some y) (hp:p=some ⟨b,o,none⟩) (hq:q=o+iv.toNat*GoT.k α)
  (hx:opv e x=some (.pointer (some ⟨b,q,none⟩))) (hv:opv e v=some u) (hu:cellsL u=cs) (hte:T.get t=some te) (hsz:te.size=GoT.k α)
  (hk:∀ w' S2,SH w0 w' (Ch.own S2 (setS xs iv y') [.slice p ln c]::L)→Run P n Q (.ops all l::k) e w'):Run P n Q (.ops all (⟨none,.store t x v,ty,ps,af,none⟩::l)::k) e w:=by
 subst hu
 obtain ⟨cur,t',hg,hfit,hlen,hone,hsh⟩:=qv4 h hy hp hq
 refine qq8 rfl rfl (fun a ha=>?_) (hk _ _ hsh)
 have:=qkf hT hte hg (by rw [hlen,hsz]) hfit (by simpa [ones] using hone)
 simp only [execOp,ha.eval hx,ha.eval hv,jj,this,jh,jl]
theorem qvV (hT:TabOk P T) {α:Type} [GoT α] {S S1:Nat→Prop} {xs ys:List α} {p p':Option Addr} {ln ln' c c' t ty el:Nat} {te te':TE} {zv:Value}
  (h:SH w0 w (Ch.own S1 ys [.slice p' ln' c']::Ch.own S xs [.slice p ln c]::L)) (hte:T.get t=some te) (hk:te.kind=.slice el) (hel:T.get el=some te') (hz:te'.zero=some zv) (hzs:(cellsL zv).length=te'.size) (hsz:te'.size=GoT.k α)
  (hb:Nat.ble te'.bytes 65536=true) (hbig:xs.length+ys.length≤big) :
  ∃ p2 c2 S2 w',(Builtin.append_ #[t,t] ty #[.slice p ln c,.slice p' ln' c']).run P w=.ok (.slice p2 (xs.length+ys.length) c2) w'∧SH w0 w' (Ch.own S2 (xs++ys) [.slice p2 (xs.length+ys.length) c2]::L):=by
 obtain ⟨inf,hinf,hs1,hby,hz1⟩:=qeo (hT _ _ hel)
 have hu:=qbW (hT _ _ hte) hk
 have hb':=jt hb
 have hln:=(h.sl 1 rfl).2
 have hln':=(h.sl 0 rfl).2
 subst hln hln'
 have hs:=(h.sl 0 rfl).1
 have hsx:=(h.sl 1 rfl).1
 have hsize:inf.size=GoT.k α:=hs1.trans hsz
 obtain ⟨news0,_,hnR,hnD⟩:=hs.cells (P:=P)
 have hf:=h.fuse
 obtain ⟨⟨hO1,hO2,hap⟩,hS⟩:=hf.holds _ (jn ..)
 obtain ⟨p0,c0,he,h1,h2,h3⟩:=hO2
 simp only [List.cons.injEq,Value.slice.injEq,and_true,true_and] at he
 obtain ⟨rfl,rfl⟩:=he
 obtain ⟨p0,c0,he,g1,g2,g3⟩:=hO1
 simp only [List.cons.injEq,Value.slice.injEq,and_true,true_and] at he
 obtain ⟨rfl,rfl⟩:=he
 unfold big at hbig
 have hmax:(2147483648:Nat)≤maxLen:=by simp [maxLen]
 obtain ⟨Fy,news,hyS,hyd,hnl,hnO,hnR,hnD⟩:∃ Fy:Nat→Nat→Prop,∃ news:List Value,(∀ i a,Fy i a→S1 a)∧(∀ i j a,i ≠ j→Fy i a→¬ Fy j a)∧news.length=ys.length*GoT.k α ∧
   (∀ i y,ys[i]?=some y→∃ cs,GoT.O w (Fy i) y cs∧∀ j v,cs[j]?=some v→news[i*GoT.k α+j]?=some v) ∧
   (Builtin.firstCells inf.size ys.length (.slice p' ys.length c')).run P w=.ok news.toArray w∧(Builtin.firstCells inf.size ys.length (.slice p' ys.length c')).run P w.drew=.ok news.toArray w.drew:=by
  rcases g3 with ⟨rfl,rfl,rfl⟩|⟨b,cur,t',F,rfl,hSb,hg,hcur,hF,hd,hx⟩
  ·exact ⟨fun _ _=>False,[],fun _ _ h=>h.elim,fun _ _ _ _ h=>h.elim,by simp,fun i y hi=>by simp at hi,by simp [Builtin.firstCells],by simp [Builtin.firstCells]⟩
  ·have hle:ys.length*GoT.k α≤c'*GoT.k α:=ju _ g1
   have hlen:(cur.toList.take (ys.length*GoT.k α)).length=ys.length*inf.size:=by simp [hsize];omega
   have hcell:∀ (w1:World),w1.heap[b]?=w.heap[b]?→∀ j v,(cur.toList.take (ys.length*GoT.k α))[j]?=some v→w1.cell? ((⟨b,0,none⟩:Addr).add j)=some v:=by
    intro w1 hw1 j v hj
    rw [qgm]
    rw [jr] at hj
    split at hj
    ·simp only [World.cell?,hw1,hg]
     simpa using hj
    ·cases hj
   refine ⟨F,cur.toList.take (ys.length*GoT.k α),fun i a ha=>(hF i a ha).1,hd,by simp;omega,fun i y hi=>?_,run_firstCells_some w _ _ _ _ _ _ hlen (hcell w rfl),run_firstCells_some w.drew _ _ _ _ _ _ hlen (hcell w.drew rfl)⟩
   obtain ⟨cs,hO,hj⟩:=hx i y hi
   refine ⟨cs,hO,fun j v hv=>?_⟩
   have hjk:j<GoT.k α:=by have:=GoT.len (GoT.toR hO);have:=(List.getElem?_eq_some_iff.1 hv).1;omega
   have hb2:=qko (m:=GoT.k α) (List.getElem?_eq_some_iff.1 hi).1
   rw [jr,if_pos (by omega)]
   simpa using hj j v hv
 have hnone:∀ u ∈ news,u.oneCell'=true:=by
  intro v hv
  obtain ⟨r,hr,rfl⟩:=jI hv
  have hkp:=GoT.kpos (α:=α)
  have hlt:r / GoT.k α<ys.length:=by rw [Nat.div_lt_iff_lt_mul hkp,←hnl];exact hr
  obtain ⟨cs,hO,hj⟩:=hnO (r / GoT.k α) _ (jg hlt)
  have hlen:=GoT.len (GoT.toR hO)
  have hm:r % GoT.k α<cs.length:=by rw [hlen];exact Nat.mod_lt _ hkp
  have:=hj (r % GoT.k α) _ (jg hm)
  rw [Nat.mul_comm,Nat.div_add_mod] at this
  rw [jg hr,Option.some.injEq] at this
  rw [this]
  exact GoT.one (GoT.toR hO) _ (jp hm)
 have fin:∀ (w':World) (S2:Nat→Prop) (b c2:Nat) (cur:Array Value) (t':TypeId) (olds:List Value) (Fx:Nat→Nat→Prop),
   (∀ a,(S1 a∨S a)→a ≠ b→w'.heap[a]?=w.heap[a]?)→(∀ a,(S1 a∨S a)→S2 a)→S2 b→w'.heap[b]?=some (.cells cur t' (0,0))→cur.size=c2*GoT.k α→xs.length+ys.length≤c2→c2≤maxLen →
   (∀ i a,Fx i a→S a∧a ≠ b)→(¬ S1 b)→(∀ i j a,i ≠ j→Fx i a→¬ Fx j a)→olds.length=xs.length*GoT.k α →
   (∀ i x,xs[i]?=some x→∃ cs,GoT.O w (Fx i) x cs∧∀ j v,cs[j]?=some v→olds[i*GoT.k α+j]?=some v) →
   (∀ (r:Nat) (v:Value),(olds++news)[r]?=some v→cur[r]?=some v) →
   GoT.O w' S2 (xs++ys) [.slice (some ⟨b,0,none⟩) (xs.length+ys.length) c2]:=by
  intro w' S2 b c2 cur t' olds Fx hloc hS2 hSb hg hcur hl hm hFx hS1b hFd hol hxO hcells
  refine ⟨_,_,by rw [jo],by simpa using hl,hm,.inr ⟨b,cur,t',fun i a=>(i<xs.length∧Fx i a)∨(xs.length≤i∧Fy (i-xs.length) a),rfl,hSb,hg,hcur,?_,?_,?_⟩⟩
  ·rintro i a (⟨_,ha⟩|⟨_,ha⟩)
   ·exact ⟨hS2 a (.inr (hFx i a ha).1),(hFx i a ha).2⟩
   ·exact ⟨hS2 a (.inl (hyS _ a ha)),fun hab=>hS1b (hab ▸ hyS _ a ha)⟩
  ·rintro i j a hne (⟨hi,ha⟩|⟨hi,ha⟩) (⟨hj,hb⟩|⟨hj,hb⟩)
   ·exact hFd i j a hne ha hb
   ·exact hap a (hyS _ a hb) (hFx i a ha).1
   ·exact hap a (hyS _ a ha) (hFx j a hb).1
   ·exact hyd _ _ a (by omega) ha hb
  ·intro i x hi
   rw [List.getElem?_append] at hi
   split at hi
   ·rename_i hlt
    obtain ⟨cs,hO,hj⟩:=hxO i x hi
    refine ⟨cs,GoT.monoO (GoT.locO hO (fun a ha=>hloc a (.inr (hFx i a ha).1) (hFx i a ha).2)) (fun a ha=>.inl ⟨hlt,ha⟩),fun j v hv=>hcells _ _ ?_⟩
    have:=hj j v hv
    rw [jq (List.getElem?_eq_some_iff.1 this).1]
    exact this
   ·rename_i hge
    obtain ⟨cs,hO,hj⟩:=hnO _ x hi
    refine ⟨cs,GoT.monoO (GoT.locO hO (fun a ha=>hloc a (.inl (hyS _ a ha)) (fun hab=>hS1b (hab ▸ hyS _ a ha)))) (fun a ha=>.inr ⟨by omega,ha⟩),fun j v hv=>hcells _ _ ?_⟩
    have:=hj j v hv
    have hle:xs.length*GoT.k α≤i*GoT.k α:=ju _ (by omega)
    rw [jy (by rw [hol];omega),hol]
    rw [show i*GoT.k α+j-xs.length*GoT.k α=(i-xs.length)*GoT.k α+j by rw [Nat.sub_mul];omega]
    exact this
 have grow:∀ (olds:List Value) (Fx:Nat→Nat→Prop),(∀ i a,Fx i a→S a)→(∀ i j a,i ≠ j→Fx i a→¬ Fx j a)→olds.length=xs.length*GoT.k α →
   (∀ i x,xs[i]?=some x→∃ cs,GoT.O w (Fx i) x cs∧∀ j v,cs[j]?=some v→olds[i*GoT.k α+j]?=some v) →
   (Builtin.firstCells inf.size xs.length (.slice p xs.length c)).run P w.drew=.ok olds.toArray w.drew→c<xs.length+ys.length →
   ∃ p2 c2 S2 w',(Builtin.append_ #[t,t] ty #[.slice p xs.length c,.slice p' ys.length c']).run P w=.ok (.slice p2 (xs.length+ys.length) c2) w'∧SH w0 w' (Ch.own S2 (xs++ys) [.slice p2 (xs.length+ys.length) c2]::L):=by
  intro olds Fx hFx hFd hol hxO hoD hlt
  have hfit:Builtin.nextslicecap (xs.length+ys.length) c*inf.bytes≤281474976710656:=by
   refine growslice_fits hlt ?_
   have:(xs.length+ys.length)*inf.bytes≤2147483648*65536:=Nat.mul_le_mul hbig (by omega)
   omega
  have hr:=qkH (P:=P) (w:=w) t ty el inf zv hu hinf (hz1.trans hz) p p' xs.length c ys.length c' olds news hnD hoD hlt (by omega) hfit
  have hge:=grownCap_ge w (xs.length+ys.length) c el
  have hcm:=grownCap_le_maxLen w (xs.length+ys.length) c el (by omega)
  have hnew:∀ a,(S1 a∨S a)→a ≠ w.heap.size:=fun a ha hab=>by have:=(hS a ha).2;omega
  refine ⟨_,_,fun b=>(S1 b∨S b)∨b=w.heap.size,_,hr,?_⟩
  have hu:=hf.upd (i:=0) (c':=Ch.own (fun b=>(S1 b∨S b)∨b=w.heap.size) (xs++ys) [.slice (some ⟨w.heap.size,0,none⟩) (xs.length+ys.length) (grownCap w (xs.length+ys.length) c el)])
   (w':=w.drew.alloc (.cells (olds.toArray++news.toArray++Builtin.zeroCells zv.cells (grownCap w (xs.length+ys.length) c el-(xs.length+ys.length))) el)) rfl rfl rfl rfl (by simp) (fun b hb' _=>heap_alloc_old w.drew _ hb') ?_ ?_ (fun _ hd=>hd.elim)
  ·exact hu
  ·refine fin _ _ w.heap.size _ _ el olds Fx (fun a ha _=>heap_alloc_old w.drew _ (hS a ha).2) (fun a ha=>.inl ha) (.inr rfl) (heap_alloc_new w.drew _) ?_ hge hcm (fun i a ha=>⟨hFx i a ha,hnew a (.inr (hFx i a ha))⟩) (fun hb=>hnew _ (.inl hb) rfl) hFd hol hxO ?_
   ·have hzl:zv.cells.size=GoT.k α:=by rw [←hsz,←hzs,←qdb];simp
    simp only [Array.size_append,jQ,size_zeroCells,hol,hnl,hzl,←Nat.add_mul]
    congr 1
    omega
   ·intro r v hr'
    have hlt':=(List.getElem?_eq_some_iff.1 hr').1
    rw [jX (by simpa using hlt')]
    simpa using hr'
  ·rintro b (hb'|hb')
   ·exact .inl hb'
   ·subst hb'
    exact .inr ⟨jf _,by simp⟩
 rcases h3 with ⟨rfl,rfl,rfl⟩|⟨b,cur,t',F,rfl,hSb,hg,hcur,hF,hd,hx⟩
 ·by_cases hy:ys.length=0
  ·refine ⟨none,0,fun b=>S1 b∨S b,w,by simpa [hy] using qkF (P:=P) (w:=w) t ty el inf hu hinf p' c',?_⟩
   have:ys=[]:=jE hy
   subst this
   exact hf.swap (c':=Ch.own (fun b=>S1 b∨S b) ([]++[]) [.slice none (([]:List α).length+([]:List α).length) 0]) ⟨none,0,by simp,by simp,by simp,.inl ⟨rfl,by simp,rfl⟩⟩ (fun b hb=>hb) (fun _ hd=>hd.elim)
  ·exact grow [] (fun _ _=>False) (fun _ _ h=>h.elim) (fun _ _ _ _ h=>h.elim) (by simp) (fun i x hi=>by simp at hi) (by simp [Builtin.firstCells]) (by simp;omega)
 ·have hle0:xs.length*GoT.k α≤c*GoT.k α:=ju _ h1
  have hol:(cur.toList.take (xs.length*GoT.k α)).length=xs.length*GoT.k α:=by simp;omega
  have hxO:∀ i x,xs[i]?=some x→∃ cs,GoT.O w (F i) x cs∧∀ j v,cs[j]?=some v→(cur.toList.take (xs.length*GoT.k α))[i*GoT.k α+j]?=some v:=by
   intro i x hi
   obtain ⟨cs,hO,hj⟩:=hx i x hi
   refine ⟨cs,hO,fun j v hv=>?_⟩
   have hjk:j<GoT.k α:=by have:=GoT.len (GoT.toR hO);have:=(List.getElem?_eq_some_iff.1 hv).1;omega
   have hb2:=qko (m:=GoT.k α) (List.getElem?_eq_some_iff.1 hi).1
   rw [jr,if_pos (by omega)]
   simpa using hj j v hv
  by_cases hroom:xs.length+ys.length≤c
  ·have hle:(xs.length+ys.length)*GoT.k α≤c*GoT.k α:=ju _ hroom
   rw [Nat.add_mul] at hle
   have hfit:xs.length*inf.size+news.length≤cur.size:=by rw [hnl,hsize,hcur];exact hle
   have hr:=qkU (P:=P) (w:=w) t ty el inf hu hinf p' b xs.length c ys.length c' cur t' hg news hnR hnone hroom hfit
   refine ⟨_,_,fun b=>S1 b∨S b,_,hr,?_⟩
   have hu:=hf.upd (i:=0) (c':=Ch.own (fun b=>S1 b∨S b) (xs++ys) [.slice (some ⟨b,0,none⟩) (xs.length+ys.length) c])
    (w':=w.setRow b (splice cur.toList (xs.length*inf.size) news).toArray) rfl rfl rfl rfl (by simp) (fun a _ ha=>setRow_other w b a _ (fun hab=>ha (.inr (hab ▸ hSb)))) ?_ (fun a ha=>.inl ha) (fun _ hd=>hd.elim)
   ·exact hu
   ·refine fin _ _ b _ _ t' (cur.toList.take (xs.length*GoT.k α)) F (fun a _ hne=>setRow_other w b a _ hne) (fun a ha=>ha) (.inr hSb) (setRow_heap w b _ _ t' _ hg) ?_ hroom h2 hF (fun hb=>hap b hb hSb) hd hol hxO ?_
    ·rw [jQ,qb4 (by simpa using hfit)];simpa using hcur
    ·intro r v hr'
     rw [jF,hsize]
     have hlt':=(List.getElem?_eq_some_iff.1 hr').1
     have hr2:(cur.toList.take (xs.length*GoT.k α)++news++cur.toList.drop (xs.length*GoT.k α+news.length))[r]?=some v:=by
      rw [jq hlt'];exact hr'
     exact hr2
  ·have hfo:=run_firstCells_some (P:=P) w.drew inf.size xs.length ⟨b,0,none⟩ xs.length c (cur.toList.take (xs.length*GoT.k α)) (by rw [hol,hsize]) (fun j v hj=>by
    rw [qgm]
    rw [jr] at hj
    split at hj
    ·have:w.drew.heap[b]?=w.heap[b]?:=rfl
     simp only [World.cell?,this,hg]
     simpa using hj
    ·cases hj)
   exact grow _ F (fun i a ha=>(hF i a ha).1) hd hol hxO hfo (by omega)
theorem qxD (hT:TabOk P T) {α:Type} [GoT α] {all:Array Oper} {l:List Oper} {d t ty el:Nat} {ps:String} {af:Array Edge} {x y:Operand} {S S1:Nat→Prop} {xs ys:List α} {p p':Option Addr} {ln ln' c c':Nat} {te te':TE} {zv:Value}
  (h:SH w0 w (Ch.own S1 ys [.slice p' ln' c']::Ch.own S xs [.slice p ln c]::L)) (hx:opv e x=some (.slice p ln c)) (hy:opv e y=some (.slice p' ln' c'))
  (hte:T.get t=some te) (hk:te.kind=.slice el) (hel:T.get el=some te') (hz:te'.zero=some zv) (hzs:(cellsL zv).length=te'.size) (hsz:te'.size=GoT.k α)
  (hb:Nat.ble te'.bytes 65536=true) (hbig:xs.length+ys.length≤big) (hn:Nat.blt d n=true)
  (hkk:∀ w' p2 c2 S2,SH w0 w' (Ch.own S2 (xs++ys) [.slice p2 (xs.length+ys.length) c2]::L)→Run P n Q (.ops all l::k) ((d,.slice p2 (xs.length+ys.length) c2)::e) w') :
  Run P n Q (.ops all (⟨some d,.call ⟨.builtin .append,#[x,y],#[t,t]⟩,ty,ps,af,none⟩::l)::k) e w:=by
 obtain ⟨p2,c2,S2,w',hr,hsh⟩:=qvV hT (ty:=ty) h hte hk hel hz hzs hsz hb hbig
 refine qkg rfl rfl hn (fun a ha=>?_) (hkk w' p2 c2 S2 hsh)
 simp only [execOp,resolve,invoke,builtin,jj,jl,jh,List.map_toArray,jU,List.map_nil,ha.eval hx,ha.eval hy,hr]
end
end Go.Fw


namespace Go.Fw
open Go
open Go.RowKit (Below)
section
variable {P:Program} {T:Tab} {n:Nat} {Q:Exit→Act→World→Prop} {k:List It} {e:Env} {w0 w w' w1:World} {L:List Ch}
def Pos {α:Type} [GoT α] (w:World) (L:List Ch):List Nat→List α→List (List Value)→Prop
 | I,[],[]=>I=[]
 | I,x::xs,c::cs=>∃ I1 I2,I=I1++I2∧PO w L I1 x c∧Pos w L I2 xs cs∧apartB I1 I2=true
 | _,_,_=>False
theorem qwW {α:Type} [GoT α]:Pos w L [] ([]:List α) []:=rfl
theorem qu6 {α:Type} [GoT α] {x:α} {xs:List α} {c:List Value} {cs:List (List Value)} {I1 I2:List Nat} (h1:PO w L I1 x c) (h2:Pos w L I2 xs cs) (hb:apartB I1 I2=true):Pos w L (I1++I2) (x::xs) (c::cs) :=
 ⟨I1,I2,rfl,h1,h2,hb⟩
theorem Pos.get {α:Type} [GoT α] (h:SH w0 w L):∀ {I:List Nat} {xs:List α} {cs:List (List Value)},Pos w L I xs cs →
  xs.length=cs.length∧(∀ c ∈ cs,c.length=GoT.k α)∧∃ F:Nat→Nat→Prop,(∀ i a,F i a→∃ j d,j ∈ I∧L[j]?=some d∧d.S a)∧(∀ i j a,i ≠ j→F i a→¬ F j a) ∧
   ∀ i x,xs[i]?=some x→∃ c,GoT.O w (F i) x c∧∀ j v,c[j]?=some v→cs.flatten[i*GoT.k α+j]?=some v
 | I,[],[],hp=>⟨rfl,by simp,fun _ _=>False,fun _ _ h=>h.elim,fun _ _ _ _ h=>h.elim,fun i x hi=>by simp at hi⟩
 | I,x::xs,c::cs,hp=>by
  obtain ⟨I1,I2,rfl,⟨S1,hO,hW⟩,h2,hb⟩:=hp
  obtain ⟨hl,hc,F,hF,hd,hg⟩:=Pos.get h h2
  have hk:=GoT.len (GoT.toR hO)
  have hap:∀ i a,S1 a→¬ F i a:=fun i a ha hb'=>qhN h hW (S2:=F i) (fun b hb=>hF i b hb) hb a ha hb'
  refine ⟨by simp [hl],fun d hd=>?_,fun i a=>match i with|0=>S1 a|i+1=>F i a,fun i a ha=>?_,fun i j a hne ha hb'=>?_,fun i y hi=>?_⟩
  ·rcases List.mem_cons.1 hd with rfl|hd
   ·exact hk
   ·exact hc d hd
  ·cases i with
   | zero=>obtain ⟨j,d,hj,h⟩:=hW a ha;exact ⟨j,d,by simp [hj],h⟩
   | succ i=>obtain ⟨j,d,hj,h⟩:=hF i a ha;exact ⟨j,d,by simp [hj],h⟩
  ·cases i with
   | zero=>cases j with
    | zero=>exact hne rfl
    | succ j=>exact hap j a ha hb'
   | succ i=>cases j with
    | zero=>exact hap i a hb' ha
    | succ j=>exact hd i j a (by omega) ha hb'
  ·cases i with
   | zero =>
    simp only [List.getElem?_cons_zero,Option.some.injEq] at hi
    subst hi
    refine ⟨c,hO,fun j v hj=>?_⟩
    have:=(List.getElem?_eq_some_iff.1 hj).1
    rw [Nat.zero_mul,Ji,List.flatten_cons,jq this]
    exact hj
   | succ i =>
    simp only [jL] at hi
    obtain ⟨c',hc',hj'⟩:=hg i y hi
    refine ⟨c',hc',fun j v hj=>?_⟩
    rw [List.flatten_cons,jy (by rw [hk,jP];omega)]
    rw [show (i+1)*GoT.k α+j-c.length=i*GoT.k α+j by rw [hk,jP];omega]
    exact hj' j v hj
 | _,[],_::_,h=>h.elim
 | _,_::_,[],h=>h.elim
theorem quv (hT:TabOk P T) {α:Type} [GoT α] {all:Array Oper} {l:List Oper} {d t ty el len:Nat} {ps:String} {af:Array Edge} {parts:Array (Nat × Operand)} {te te':TE} {zv:Value} (os:List Operand) (vs:List Value) (ys:List α) {I:List Nat} (J:List Nat)
  (h:SH w0 w L) (hparts:parts.toList=(os.zipIdx 0).map fun x=>(x.2,x.1)) (hvs:opvs e os=some vs) (hlen:len=vs.length)
  (hte:T.get t=some te) (hk:te.kind=.slice el) (hel:T.get el=some te') (hz:te'.zero=some zv) (hsz:te'.size=GoT.k α) (hsmall:Nat.ble (vs.length*te'.size) 16777216=true)
  (hc:Pos w L I ys (vs.map cellsL)) (hJ:(apartB I J&&nodupB J)=true) (hn:Nat.blt d n=true)
  (hkk:∀ w' p S,SH w0 w' (Ch.own S ys [.slice p len len]::pickL L J)→Run P n Q (.ops all l::k) ((d,.slice p len len)::e) w') :
  Run P n Q (.ops all (⟨some d,.buildSlice t len parts,ty,ps,af,none⟩::l)::k) e w:=by
 obtain ⟨hl1,hl2,F,hF,hFd,hg⟩:=hc.get h
 have hcs:∀ v ∈ vs,(cellsL v).length=te'.size:=fun v hv=>by rw [hsz];exact hl2 _ (List.mem_map.2 ⟨v,hv,rfl⟩)
 have hr:=qlj hT vs hte hk hel hz (jt hsmall) hcs w
 have hl3:ys.length=vs.length:=by simpa using hl1
 subst hlen
 simp only [ji] at hJ
 have hfl:(vs.map cellsL).flatten.length=vs.length*GoT.k α:=by
  have:∀ (cs:List (List Value)),(∀ c ∈ cs,c.length=GoT.k α)→cs.flatten.length=cs.length*GoT.k α:=by
   intro cs
   induction cs with
   | nil=>intro _;simp
   | cons c cs ih=>intro hc;rw [List.flatten_cons,jo,hc c (by simp),ih (fun d hd=>hc d (by simp [hd])),jZ,jP];omega
  rw [this _ hl2];simp
 have hsm:vs.length≤maxLen:=by
  have h1:=jt hsmall
  have h2:vs.length*1≤vs.length*te'.size:=Nat.mul_le_mul_left _ (by rw [hsz];exact GoT.kpos)
  simp [maxLen]
  omega
 have hbe:Below w.heap.size w (w.alloc (.cells (vs.map cellsL).flatten.toArray el)):=(Below.refl _ _).alloc (jf _) _
 have hin:∀ i a,F i a→fresh w0 w a:=fun i a ha=>by obtain ⟨j,d,_,hj,hd⟩:=hF i a ha;exact (h.mem hj).2 a hd
 have h2:=(h.pick J hJ.2).ext hbe
 refine qkg (v:=.slice (some ⟨w.heap.size,0,none⟩) vs.length vs.length) (w':=w.alloc (.cells (vs.map cellsL).flatten.toArray el)) rfl rfl hn (fun a ha=>?_)
  (hkk _ _ (fun b=>b=w.heap.size∨∃ i,F i b) ⟨h2.below,fun c hc=>?_,fun c hc=>?_,List.pairwise_cons.2 ⟨fun c hc b hb hcb=>?_,h2.apart⟩⟩)
 ·have hev:parts.map (fun (x:Nat × Operand)=>(x.1,a.eval x.2))=((vs.zipIdx 0).map fun x=>(x.2,x.1)).toArray:=by
   apply Array.ext'
   rw [Array.toList_map,hparts]
   have:=qif ha hvs
   subst this
   rw [List.zipIdx_map,List.map_map,List.map_map]
   rfl
  simp only [execOp,hev,jj,hr,jh,jl]
 ·rcases List.mem_cons.1 hc with rfl|hc
  ·refine ⟨⟨some ⟨w.heap.size,0,none⟩,vs.length,by rw [hl3],by rw [hl3];exact jf _,hsm,.inr ⟨w.heap.size,_,el,F,rfl,.inl rfl,heap_alloc_new w _,by rw [jQ,hfl],fun i a ha=>⟨.inr ⟨i,ha⟩,fun hab=>by have:=(hin i a ha).2;omega⟩,hFd,fun i x hi=>?_⟩⟩,fun b hb=>?_⟩
   ·obtain ⟨cs,hO,hj⟩:=hg i x hi
    exact ⟨cs,GoT.locO hO (fun a ha=>heap_alloc_old w _ (hin i a ha).2),fun j v hv=>by simpa using hj j v hv⟩
   ·rcases hb with hb|⟨i,hb⟩
    ·subst hb;exact ⟨h.below.size,by simp⟩
    ·exact ⟨(hin i b hb).1,jz (hin i b hb).2 hbe.size⟩
  ·exact h2.holds c hc
 ·rcases List.mem_cons.1 hc with rfl|hc
  ·exact fun _ h=>h.elim
  ·exact h2.elder c hc
 ·obtain ⟨j,hj,hjc⟩:=qhx hc
  rcases hb with hb|⟨i,hb⟩
  ·subst hb
   have:=((h.mem hjc).2 _ hcb).2
   omega
  ·exact qhN h (S1:=F i) (S2:=c.S) (hF i) (fun x hx=>⟨j,c,hj,hjc,hx⟩) hJ.1 b hb hcb
def Ch.hole {α:Type} [GoT α] (S:Nat→Prop) (xs:List α) (p:Option Addr) (ln c i:Nat) (cs:List Value):Ch where
 S:=S
 D _:=False
 P w:=ln=xs.length∧xs.length≤c∧c≤maxLen∧i<xs.length∧cs.length=GoT.k α ∧
  ∃ b cur T,∃ F:Nat→Nat→Prop,p=some ⟨b,0,none⟩∧S b∧w.heap[b]?=some (.cells cur T (0,0))∧cur.size=c*GoT.k α ∧
   (∀ i a,F i a→S a∧a ≠ b)∧(∀ i j a,i ≠ j→F i a→¬ F j a)∧(∀ a,¬ F i a)∧(∀ j v,cs[j]?=some v→cur[i*GoT.k α+j]?=some v) ∧
   ∀ j x,j ≠ i→xs[j]?=some x→∃ ds,GoT.O w (F j) x ds∧∀ r v,ds[r]?=some v→cur[j*GoT.k α+r]?=some v
 loc w w' h _ hp:=by
  obtain ⟨h1,h2,h3,h4,h5,b,cur,T,F,q1,q2,q3,q4,q5,q6,q7,q8,q9⟩:=hp
  exact ⟨h1,h2,h3,h4,h5,b,cur,T,F,q1,q2,by rw [h b q2];exact q3,q4,q5,q6,q7,q8,fun j x hj hx=>by
   obtain ⟨ds,hO,hd⟩:=q9 j x hj hx
   exact ⟨ds,GoT.locO hO (fun a ha=>h a (q5 j a ha).1),hd⟩⟩
theorem SH.take {α:Type} [GoT α] {S:Nat→Prop} {xs:List α} {p:Option Addr} {ln c:Nat} {iv:Int} {x:α} (h:SH w0 w (Ch.own S xs [.slice p ln c]::L)) (hx:idx xs iv=some x) :
  ∃ S1 S2 cs,SH w0 w (Ch.own S1 x cs::Ch.hole S2 xs p ln c iv.toNat cs::L):=by
 obtain ⟨hP,hS⟩:=h.holds _ (jn ..)
 obtain ⟨h0,hlt,hxi⟩:=qax hx
 have hpw:=List.pairwise_cons.1 h.apart
 obtain ⟨p',c',he,h1,h2,h3⟩:=hP
 simp only [List.cons.injEq,Value.slice.injEq,and_true] at he
 obtain ⟨rfl,rfl,rfl⟩:=he
 have hil:=(List.getElem?_eq_some_iff.1 hxi).1
 rcases h3 with ⟨_,rfl,_⟩|⟨b,cur,t,F,rfl,hb,hg,hcur,hF,hd,hx'⟩
 ·simp at hil
 ·obtain ⟨cs,hO,hj⟩:=hx' _ _ hxi
  refine ⟨F iv.toNat,fun a=>a=b∨∃ i,i ≠ iv.toNat∧F i a,cs,h.below,fun d hd'=>?_,fun d hd'=>?_,?_⟩
  ·rcases List.mem_cons.1 hd' with rfl|hd'
   ·exact ⟨hO,fun a ha=>hS a (hF _ a ha).1⟩
   rcases List.mem_cons.1 hd' with rfl|hd'
   ·refine ⟨⟨rfl,h1,h2,hil,GoT.len (GoT.toR hO),b,cur,t,fun i a=>i ≠ iv.toNat∧F i a,rfl,.inl rfl,hg,hcur,fun i a ha=>⟨.inr ⟨i,ha⟩,(hF i a ha.2).2⟩,fun i j a hne ha hb=>hd i j a hne ha.2 hb.2,fun a ha=>ha.1 rfl,hj,fun j y hne hy=>?_⟩,fun a ha=>?_⟩
    ·obtain ⟨ds,hO',hj'⟩:=hx' j y hy
     exact ⟨ds,GoT.monoO hO' (fun a ha=>⟨hne,ha⟩),hj'⟩
    ·rcases ha with ha|⟨i,_,ha⟩
     ·exact hS a (ha ▸ hb)
     ·exact hS a (hF i a ha).1
   ·exact h.holds d (jm _ hd')
  ·rcases List.mem_cons.1 hd' with rfl|hd'
   ·exact fun _ h=>h.elim
   rcases List.mem_cons.1 hd' with rfl|hd'
   ·exact fun _ h=>h.elim
   ·exact h.elder d (jm _ hd')
  ·refine List.pairwise_cons.2 ⟨fun d hd' a ha=>?_,List.pairwise_cons.2 ⟨fun d hd' a ha=>?_,hpw.2⟩⟩
   ·rcases List.mem_cons.1 hd' with rfl|hd'
    ·rintro (hab|⟨i,hi,ha2⟩)
     ·exact (hF _ a ha).2 hab
     ·exact hd i _ a hi ha2 ha
    ·exact hpw.1 d hd' a (hF _ a ha).1
   ·rcases ha with ha|⟨i,_,ha⟩
    ·exact hpw.1 d hd' a (ha ▸ hb)
    ·exact hpw.1 d hd' a (hF i a ha).1
theorem SH.put {α:Type} [GoT α] {S1 S2:Nat→Prop} {xs:List α} {p:Option Addr} {ln c i:Nat} {x:α} {cs:List Value} (h:SH w0 w (Ch.own S1 x cs::Ch.hole S2 xs p ln c i cs::L)) :
  SH w0 w (Ch.own (fun b=>S1 b∨S2 b) (xs.set i x) [.slice p ln c]::L):=by
 have hap:=(List.pairwise_cons.1 h.apart).1 (Ch.hole S2 xs p ln c i cs) (jn ..)
 refine h.join (e:=Ch.own (fun b=>S1 b∨S2 b) (xs.set i x) [.slice p ln c]) (fun h1 h2=>?_) (fun _ hb=>hb) (fun _ h=>h.elim)
 obtain ⟨rfl,g1,g2,g3,g4,b,cur,T,F,rfl,q2,q3,q4,q5,q6,q7,q8,q9⟩:=h2
 refine ⟨_,_,by rw [List.length_set],by simpa using g1,g2,.inr ⟨b,cur,T,fun j a=>(j=i∧S1 a)∨(j ≠ i∧F j a),rfl,.inr q2,q3,q4,?_,?_,?_⟩⟩
 ·rintro j a (⟨_,ha⟩|⟨_,ha⟩)
  ·exact ⟨.inl ha,fun hab=>hap a ha (hab ▸ q2)⟩
  ·exact ⟨.inr (q5 j a ha).1,(q5 j a ha).2⟩
 ·rintro j j' a hne (⟨hj,ha⟩|⟨hj,ha⟩) (⟨hj',hb⟩|⟨hj',hb⟩)
  ·exact hne (hj.trans hj'.symm)
  ·exact hap a ha (q5 j' a hb).1
  ·exact hap a hb (q5 j a ha).1
  ·exact q6 j j' a hne ha hb
 ·intro j y hy
  rw [List.getElem?_set] at hy
  split at hy
  ·rename_i hij
   simp only [Option.some.injEq] at hy
   subst hy hij
   exact ⟨cs,GoT.monoO h1 (fun a ha=>.inl ⟨rfl,ha⟩),q8⟩
  ·rename_i hij
   obtain ⟨ds,hO,hd⟩:=q9 j y (fun e=>hij e.symm) hy
   exact ⟨ds,GoT.monoO hO (fun a ha=>.inr ⟨fun e=>hij e.symm,ha⟩),hd⟩
theorem SH.holeAt {α:Type} [GoT α] {S:Nat→Prop} {xs:List α} {p:Option Addr} {ln c i:Nat} {cs:List Value} (m:Nat) (h:SH w0 w L) (hi:L[m]?=some (Ch.hole S xs p ln c i cs)) :
  ∃ b,p=some ⟨b,0,none⟩∧CellsAt w b (i*GoT.k α) cs∧i<ln∧ln=xs.length:=by
 obtain ⟨rfl,g1,g2,g3,g4,b,cur,T,F,rfl,q2,q3,q4,q5,q6,q7,q8,q9⟩:=(h.mem hi).1
 exact ⟨b,rfl,CellsAt.of_block q3 q8,g3,rfl⟩
theorem qvj {α:Type} [GoT α] {S:Nat→Prop} {xs:List α} {p:Option Addr} {ln c i j b:Nat} {cs vs:List Value} {m:Nat} (h:SH w0 w L) (hi:L[m]?=some (Ch.hole S xs p ln c i cs)) (hp:p=some ⟨b,0,none⟩) (hle:j+vs.length≤cs.length) :
  ∃ cur t,w.heap[b]?=some (.cells cur t (0,0))∧i*GoT.k α+j+vs.length≤cur.size ∧
   SH w0 (w.setRow b (splice cur.toList (i*GoT.k α+j) vs).toArray) (L.set m (Ch.hole S xs p ln c i (splice cs j vs))):=by
 obtain ⟨hP,hS⟩:=h.mem hi
 obtain ⟨rfl,g1,g2,g3,g4,b',cur,T,F,hpb,q2,q3,q4,q5,q6,q7,q8,q9⟩:=hP
 subst hp
 simp only [Option.some.injEq,Addr.mk.injEq,and_true] at hpb
 subst hpb
 have hb1:i*GoT.k α+GoT.k α≤cur.size:=by rw [q4];exact qko (by omega)
 have hfit:i*GoT.k α+j+vs.length≤cur.toList.length:=by simp;omega
 refine ⟨cur,T,q3,by simpa using hfit,?_⟩
 refine h.upd hi rfl rfl rfl (by simp) (fun a _ ha=>setRow_other w b a _ (fun hab=>ha (hab ▸ q2))) ?_ (fun a ha=>.inl ha) (fun _ hd=>hd.elim)
 refine ⟨rfl,g1,g2,g3,by rw [qb4 hle];exact g4,b,_,T,F,rfl,q2,setRow_heap w b _ _ T _ q3,by rw [jQ,qb4 hfit];simpa using q4,q5,q6,q7,fun r v hr=>?_,fun r x hne hx=>?_⟩
 ·rw [jF]
  rw [getElem?_splice hle] at hr
  rw [getElem?_splice hfit]
  have hcell:∀ r v,cs[r]?=some v→cur.toList[i*GoT.k α+r]?=some v:=fun r v hr=>by simpa using q8 r v hr
  split at hr
  ·rw [if_pos (by omega)];exact hcell _ _ hr
  ·split at hr
   ·rw [if_neg (by omega),if_pos (by omega),show i*GoT.k α+r-(i*GoT.k α+j)=r-j by omega]
    exact hr
   ·rw [if_neg (by omega),if_neg (by omega)]
    exact hcell _ _ hr
 ·obtain ⟨ds,hO,hd⟩:=q9 r x hne hx
  refine ⟨ds,GoT.locO hO (fun a ha=>setRow_other w b a _ (q5 r a ha).2),fun q v hq=>?_⟩
  have hqk:q<GoT.k α:=by have:=GoT.len (GoT.toR hO);have:=(List.getElem?_eq_some_iff.1 hq).1;omega
  have hs:=qtA (q:=q) hne hqk hqk
  rw [jF,qqk hfit (by omega)]
  simpa using hd q v hq
theorem qfc (hT:TabOk P T) {α:Type} [GoT α] {all:Array Oper} {l:List Oper} {t ty:Nat} {ps:String} {af:Array Edge} {x v:Operand} {te:TE} {S:Nat→Prop} {xs:List α} {p:Option Addr} {ln c b m q:Nat} {cs:List Value} {u:Value} (i j:Nat)
  (h:SH w0 w L) (hi:L[i]?=some (Ch.hole S xs p ln c m cs)) (hp:p=some ⟨b,0,none⟩) (hq:q=0+m*GoT.k α) (hx:opv e x=some (.pointer (some ⟨b,q+j,none⟩))) (hv:opv e v=some u) (hte:T.get t=some te)
  (hsz:Nat.beq (cellsL u).length te.size=true) (hle:Nat.ble (j+(cellsL u).length) cs.length=true) (h1:ones (cellsL u)=true)
  (hk:∀ w',SH w0 w' (L.set i (Ch.hole S xs p ln c m (splice cs j (cellsL u))))→Run P n Q (.ops all l::k) e w'):Run P n Q (.ops all (⟨none,.store t x v,ty,ps,af,none⟩::l)::k) e w:=by
 rw [Ji] at hq
 subst hq
 obtain ⟨cur,t',hg,hfit,hsh⟩:=qvj h hi hp (jt hle)
 refine qq8 rfl rfl (fun a ha=>?_) (hk _ hsh)
 have:=qkf hT hte hg (beqT hsz) hfit h1
 simp only [execOp,ha.eval hx,ha.eval hv,jj,this,jh,jl]
def Ch.lrn {α:Type} [GoT α] (S:Nat→Prop) (x:α) (cs:List Value) (fs:List Fct):Ch where
 S:=S
 D _:=False
 P w:=GoT.O w S x cs∧∀ f ∈ fs,f.R w S
 loc _ _ h _ hp:=⟨GoT.locO hp.1 h,fun f hf=>GoT.loc (self:=f.inst) (hp.2 f hf) h⟩
theorem SH.say {c c':Ch} {i:Nat} (h:SH w0 w L) (hi:L[i]?=some c) (hp:c.P w→c'.P w) (hS:∀ b,c'.S b→c.S b) (hD:∀ b,c'.D b→b<w0.heap.size):SH w0 w (L.set i c') :=
 h.upd hi rfl rfl rfl (jf _) (fun _ _ _=>rfl) (hp (h.mem hi).1) (fun b hb=>.inl (hS b hb)) hD
variable {α β:Type} [GoT α] [GoT β] {S:Nat→Prop} {x:α} {cs:List Value} {fs:List Fct}
theorem SH.lrn0 (i:Nat) (h:SH w0 w L) (hi:L[i]?=some (Ch.own S x cs)):SH w0 w (L.set i (Ch.lrn S x cs [])) :=
 h.say hi (fun hp=>⟨hp,fun _ h=>by cases h⟩) (fun _ h=>h) (fun _ h=>h.elim)
theorem SH.unlrn (i:Nat) (h:SH w0 w L) (hi:L[i]?=some (Ch.lrn S x cs fs)):SH w0 w (L.set i (Ch.own S x cs)) :=
 h.say hi (fun hp=>hp.1) (fun _ h=>h) (fun _ h=>h.elim)
theorem SH.lrnAdd {y:β} {ds:List Value} (i:Nat) (h:SH w0 w L) (hi:L[i]?=some (Ch.lrn S x cs fs)) (hr:GoT.R w S y ds):SH w0 w (L.set i (Ch.lrn S x cs (fct y ds::fs))) :=
 h.say hi (fun hp=>⟨hp.1,fun f hf=>by
  rcases List.mem_cons.1 hf with rfl|hf
  ·exact hr
  ·exact hp.2 f hf⟩) (fun _ h=>h) (fun _ h=>h.elim)
theorem SH.lrnS (i j:Nat) {y:β} {ds:List Value} (h:SH w0 w L) (hi:L[i]?=some (Ch.lrn S x cs fs)) (hj:fs[j]?=some (fct y ds)):GoT.R w S y ds :=
 (h.mem hi).1.2 _ (jA hj)
theorem SH.lrnO (i:Nat) (h:SH w0 w L) (hi:L[i]?=some (Ch.lrn S x cs fs)):GoT.R w S x cs:=GoT.toR (h.mem hi).1.1
theorem SH.lrnB (i:Nat) (h:SH w0 w L) (hi:L[i]?=some (Ch.lrn S x cs fs)):∀ b,S b→Fw.old w b:=fun b hb=>((h.mem hi).2 b hb).2
theorem qib {xs:List α} {p:Option Addr} {ln c:Nat} (h:GoT.R w S xs [.slice p ln c]):SlR w S xs p c∧ln=xs.length:=by
 obtain ⟨p',c',he,ho⟩:=h
 simp only [List.cons.injEq,Value.slice.injEq,and_true] at he
 obtain ⟨rfl,rfl,rfl⟩:=he
 exact ⟨ho,rfl⟩
def PtR {α:Type} [GoT α] (w:World) (S:Nat→Prop) (p:Option α) (a:Option Addr):Prop:=GoT.R w S p [.pointer a]
theorem qfs {p:Option α} {cs:List Value} (h:GoT.R w S p cs):∃ a,cs=[.pointer a]∧PtR w S p a:=by
 cases p with
 | none=>exact ⟨none,h,(rfl:[Value.pointer none]=[.pointer none])⟩
 | some x =>
  obtain ⟨b,o,cur,T,fr,ds,rfl,h⟩:=h
  exact ⟨_,rfl,b,o,cur,T,fr,ds,rfl,h⟩
theorem PtR.get {p:Option α} {a:Option Addr} {x:α} (h:PtR w S p a) (hx:p=some x):∃ b o ds,a=some ⟨b,o,none⟩∧S b∧GoT.R w S x ds∧CellsAt w b o ds:=by
 subst hx
 obtain ⟨b,o,cur,T,fr,ds,he,hb,hg,hr,hj⟩:=h
 simp only [List.cons.injEq,Value.pointer.injEq,and_true] at he
 exact ⟨b,o,ds,he,hb,hr,CellsAt.of_block hg hj⟩
theorem PtR.isNone {p:Option α} {a:Option Addr} (h:PtR w S p a):a.isNone=p.isNone:=by
 cases p with
 | none=>have he:[Value.pointer a]=[.pointer none]:=h;cases he;rfl
 | some x=>obtain ⟨b,o,ds,rfl,_⟩:=h.get rfl;rfl
theorem PtR.mono {S':Nat→Prop} {p:Option α} {a:Option Addr} (h:PtR w S p a) (hs:∀ b,S b→S' b):PtR w S' p a:=GoT.mono h hs
theorem PtR.none:PtR w S (none:Option α) none:=rfl
theorem qtJ {b:Nat} {ds:List Value} {t:TypeId} (i:Nat) (h:SH w0 w L) (hi:L[i]?=some (Ch.box b ds t)) (hS:S b) (hr:GoT.R w S x ds):GoT.R w S (some x) [.pointer (some ⟨b,0,none⟩)]:=by
 have hg:w.heap[b]?=some (.cells ds.toArray t (0,0)):=(h.mem hi).1
 exact ⟨b,0,_,t,(0,0),ds,rfl,hS,hg,hr,fun j v hj=>by simpa using hj⟩
theorem qiG {b:Nat} {ds:List Value} {t:TypeId} (i:Nat) (h:SH w0 w L) (hi:L[i]?=some (Ch.box b ds t)) (hr:GoT.R w (Fw.old w) x ds):GoT.R w (Fw.old w) (some x) [.pointer (some ⟨b,0,none⟩)] :=
 qtJ i h hi ((h.mem hi).2 b rfl).2 hr
def NoD:List Ch→Prop
 | []=>True
 | c::L=>(∀ b,¬ c.D b)∧NoD L
theorem NoD.all:∀ {L:List Ch},NoD L→∀ c ∈ L,∀ b,¬ c.D b
 | [],_,_,h=>by cases h
 | d::L,h,c,hc=>by
  rcases List.mem_cons.1 hc with rfl|hc
  ·exact h.1
  ·exact NoD.all h.2 c hc
theorem SH.unbase (h:SH w1 w L) (hb:Below w0.heap.size w0 w1) (hD:NoD L):SH w0 w L :=
 ⟨hb.trans (h.below.mono hb.size),fun c hc=>⟨(h.holds c hc).1,fun b hcb=>⟨jS hb.size ((h.holds c hc).2 b hcb).1,((h.holds c hc).2 b hcb).2⟩⟩,fun c hc b hcb=>absurd hcb (hD.all c hc b),h.apart⟩
end
end Go.Fw


namespace Go.Fw
open Go
open Go.RowKit (Below)
def subS {α:Type} (xs:List α) (lo hi:Int):Option (List α):=if 0≤lo∧lo≤hi∧hi≤xs.length then some ((xs.take hi.toNat).drop lo.toNat) else none
theorem qnI {α:Type} {xs r:List α} {lo hi:Int} (h:subS xs lo hi=some r):0≤lo∧lo≤hi∧hi≤xs.length∧(xs.take hi.toNat).drop lo.toNat=r:=by
 unfold subS at h
 split at h
 ·rename_i hh;exact ⟨hh.1,hh.2.1,hh.2.2,Option.some.inj h⟩
 ·cases h
theorem qwF {α:Type} {xs:List α} {lo hi:Nat} (h1:lo≤hi) (h2:hi≤xs.length):((xs.take hi).drop lo).length=hi-lo:=by simp;omega
section
variable {P:Program} {T:Tab} {n:Nat} {Q:Exit→Act→World→Prop} {k:List It} {e:Env} {w0 w w' w1:World} {L:List Ch}
theorem qdQ {fnc:Func} {R:Ending→World→Prop} {ops:Array Oper} {st:List Nat} {C:World→Prop} {fuel:Nat} {listed:Array Bool} (i:Nat) {d:Nat} {op:Op} {t:Nat} {ps:String} {af:Array Edge} {v:Value} {g:Nat × Bool}
  (hi:ops[i]?=some ⟨some d,op,t,ps,af,some g⟩) (hg:guardOf e ops ⟨some d,op,t,ps,af,some g⟩=some true) (listed':Array Bool) (hl:listed.setIfInBounds i true=listed')
  (hb:(Region.noSelect ops&&Region.free .any ops listed i&&(Region.ready .any ops listed).contains i&&st.all (fun s=>!(Nat.beq s i)&&waitsB ops i s&&!(listed.getD s true)))=true)
  (hv:∀ w',C w'→Val P n e ⟨some d,op,t,ps,af,some g⟩ w' v) (hC:C w) (hn:Nat.blt d n=true)
  (hk:RunA P n (bodyPost P fnc R) k ops st C fuel listed' ((d,v)::e) w):RunA P n (bodyPost P fnc R) k ops st C (fuel+1) listed e w:=by
 subst hl
 simp only [ji,jW,jO] at hb
 obtain ⟨⟨⟨h1,h2⟩,h3⟩,h4⟩:=hb
 intro a ha
 refine qk5 hi (Region.noSelect_spec h1) (fun c a w h=>qnK c a w h) (fun s hs=>⟨fun h=>?_,(h4 s hs).1.2⟩) fuel listed a w (Region.free_spec hi h2) (by simpa using h3) (.inl ⟨qjd ha hg,fun w' hw'=>hv w' hw' a ha⟩) (fun s hs=>(h4 s hs).2) hC (hk _ (ha.put hn v))
 have:=(h4 s hs).1.1
 rw [h,beqR] at this
 cases this
theorem qxj {ops:Array Oper} {st:List Nat} {C:World→Prop} {fuel:Nat} {listed:Array Bool} {t:Nat} {b:Bool} (hb:b=true) (ht:e.get t=some (.bool b)) (hk:RunA P n Q k ops st C fuel listed ((t,.bool true)::e) w):RunA P n Q k ops st C fuel listed e w:=by
 subst hb
 intro a ha
 refine hk a ⟨ha.defers,ha.size,fun i v hi=>?_⟩
 simp only [Env.get] at hi
 cases hbb:Nat.beq t i with
 | true=>rw [hbb] at hi;simp only [Option.some.injEq] at hi;subst hi;have:=beqT hbb;subst this;exact ha.at_ _ _ ht
 | false=>rw [hbb] at hi;exact ha.at_ _ _ hi
theorem qxp {ops:Array Oper} {st:List Nat} {C:World→Prop} {fuel:Nat} {listed:Array Bool} {t:Nat} {b:Bool} (hb:b=false) (ht:e.get t=some (.bool b)) (hk:RunA P n Q k ops st C fuel listed ((t,.bool false)::e) w):RunA P n Q k ops st C fuel listed e w:=by
 subst hb
 intro a ha
 refine hk a ⟨ha.defers,ha.size,fun i v hi=>?_⟩
 simp only [Env.get] at hi
 cases hbb:Nat.beq t i with
 | true=>rw [hbb] at hi;simp only [Option.some.injEq] at hi;subst hi;have:=beqT hbb;subst this;exact ha.at_ _ _ ht
 | false=>rw [hbb] at hi;exact ha.at_ _ _ hi
structure Rg (A0:Nat→Prop) (w00:World) (B:Nat→Prop) (w0:World):Prop where
 below:Below w00.heap.size w00 w0
 old:∀ b,B b→Fw.old w0 b
 fin:∀ b,B b→reg A0 w00 w0 b
theorem Rg.start {A:Nat→Prop} (h:∀ b,A b→Fw.old w b):Rg A w A w:=⟨Below.refl _ _,h,fun _ hb=>.inl hb⟩
structure Up (B:Nat→Prop) (w0 w:World) (B':Nat→Prop) (w1:World):Prop where
 below:Below w.heap.size w w1
 sub:∀ b,reg B w0 w b→B' b
variable {A0 A B B':Nat→Prop} {w00:World} {α:Type} [GoT α] {x:α} {cs:List Value} {xs:List α} {p:Option Addr} {c:Nat}
theorem Up.heap (hg:Rg A0 w00 B w0) (h:SH w0 w L) (hu:Up B w0 w B' w1):∀ b,B b→w1.heap[b]?=w0.heap[b]?:=fun b hb=>by
 have h1:=hg.old b hb
 rw [hu.below.block b (jz h1 h.below.size),h.below.block b h1]
theorem Up.R (hg:Rg A0 w00 B w0) (h:SH w0 w L) (hu:Up B w0 w B' w1) (hr:GoT.R w0 B x cs):GoT.R w1 B' x cs :=
 GoT.mono (GoT.loc hr (Up.heap hg h hu)) (fun b hb=>hu.sub b (.inl hb))
theorem Up.S (hg:Rg A0 w00 B w0) (h:SH w0 w L) (hu:Up B w0 w B' w1) (hr:SlR w0 B xs p c):SlR w1 B' xs p c :=
 (hr.loc (Up.heap hg h hu)).mono (fun b hb=>hu.sub b (.inl hb))
theorem Up.C {b o:Nat} (h:SH w0 w L) (hu:Up B w0 w B' w1) (hr:CellsAt w0 b o cs):CellsAt w1 b o cs:=(hr.below h.below).below hu.below
theorem Up.own {S:Nat→Prop} (i:Nat) (h:SH w0 w L) (hu:Up B w0 w B' w1) (hi:L[i]?=some (Ch.own S x cs)):GoT.R w1 B' x cs :=
 GoT.mono (GoT.loc (GoT.toR (h.mem hi).1) (fun b hb=>hu.below.block b ((h.mem hi).2 b hb).2)) (fun b hb=>hu.sub b (.inr ((h.mem hi).2 b hb)))
theorem Up.box {b:Nat} {t:TypeId} (i:Nat) (h:SH w0 w L) (hu:Up B w0 w B' w1) (hi:L[i]?=some (Ch.box b cs t)):CellsAt w1 b 0 cs:=(h.box i hi).below hu.below
theorem Rg.inR (hg:Rg A0 w00 B w0) (h:SH w0 w L) (hr:GoT.R w0 B x cs):GoT.R w (reg B w0 w) x cs :=
 GoT.mono (GoT.loc hr (fun b hb=>h.below.block b (hg.old b hb))) (fun _ hb=>.inl hb)
theorem Rg.inS (hg:Rg A0 w00 B w0) (h:SH w0 w L) (hr:SlR w0 B xs p c):SlR w (reg B w0 w) xs p c :=
 (hr.loc (fun b hb=>h.below.block b (hg.old b hb))).mono (fun _ hb=>.inl hb)
theorem Rg.ownR {S:Nat→Prop} (i:Nat) (h:SH w0 w L) (hi:L[i]?=some (Ch.own S x cs)):GoT.R w (reg B w0 w) x cs :=
 GoT.mono (GoT.toR (h.mem hi).1) (fun b hb=>.inr ((h.mem hi).2 b hb))
theorem Rg.regOld (hg:Rg A0 w00 B w0) (h:SH w0 w L):∀ b,reg B w0 w b→Fw.old w b:=by
 rintro b (hb|hb)
 ·exact jz (hg.old b hb) h.below.size
 ·exact hb.2
theorem Rg.boxR {b:Nat} {t:TypeId} {ds:List Value} (i:Nat) (h:SH w0 w L) (hi:L[i]?=some (Ch.box b ds t)) (hr:GoT.R w (reg B w0 w) x ds):GoT.R w (reg B w0 w) (some x) [.pointer (some ⟨b,0,none⟩)] :=
 qtJ i h hi (.inr ((h.mem hi).2 b rfl)) hr
theorem Rg.outR (hg:Rg A0 w00 B w0) (h:SH w0 w L) (hr:GoT.R w (reg B w0 w) x cs):GoT.R w (reg A0 w00 w) x cs :=
 GoT.mono hr (by
  rintro b (hb|hb)
  ·rcases hg.fin b hb with hb|hb
   ·exact .inl hb
   ·exact .inr ⟨hb.1,jz hb.2 h.below.size⟩
  ·exact .inr ⟨jS hg.below.size hb.1,hb.2⟩)
class MonoRs (ρ:Type) [GoRs ρ]:Prop where
 mono:∀ {w:World} {S S':Nat→Prop} {r:ρ} {us:List Value},GoRs.Rs w S r us→(∀ b,S b→S' b)→GoRs.Rs w S' r us
instance {α:Type} [GoT α]:MonoRs α:=⟨fun h hs=>by obtain ⟨cs,rfl,h⟩:=h;exact ⟨cs,rfl,GoT.mono h hs⟩⟩
instance (priority:=high) {α β:Type} [GoT α] [GoRs β] [MonoRs β]:MonoRs (α × β):=⟨fun h hs=>by
 obtain ⟨cs,us,rfl,h1,h2⟩:=h
 exact ⟨cs,us,rfl,GoT.mono h1 hs,MonoRs.mono h2 hs⟩⟩
theorem qra {ρ:Type} [GoRs ρ] [MonoRs ρ] (r:ρ) {all:Array Oper} {l:List Oper} {d ty:Nat} {ps:String} {af:Array Edge} {x:Operand} {args:Array Operand} {ats:Array TypeId} {f:FuncId} {fi ca:Array Value} {az vs:List Value}
  (hg:Rg A0 w00 B w0) (h:SH w0 w L) (hcall:qe3 P f) (hc:RetG P f vs w (reg B w0 w) r) (hx:opv e x=some (.func (.func f) fi ca)) (hargs:opvs e args.toList=some az) (hvs:fi.toList++az++ca.toList=vs) (hn:Nat.blt d n=true)
  (hk:∀ w1 us B',Rg A0 w00 B' w1→Up B w0 w B' w1→SH w1 w1 []→GoRs.Rs w1 B' r us→Run P n Q (.ops all l::k) ((d,tup us)::e) w1) :
  Run P n Q (.ops all (⟨some d,.call ⟨.value x,args,ats⟩,ty,ps,af,none⟩::l)::k) e w:=by
 subst hvs
 refine qm5 (R:=fun v w'=>Below w.heap.size w w'∧∃ us,v=tup us∧GoRs.Rs w' (reg (reg B w0 w) w w') r us) rfl rfl hn (fun a ha=>qjE ha hcall hx hargs w) hc ?_
 rintro v w1 ⟨hb,us,rfl,hv⟩
 have hbb:Below w0.heap.size w0 w1:=h.below.trans (hb.mono h.below.size)
 refine hk w1 us (reg B w0 w1) ⟨hg.below.trans (hbb.mono hg.below.size),?_,?_⟩ ⟨hb,?_⟩ (SH.start w1) (MonoRs.mono hv ?_)
 ·rintro b (hB|hB)
  ·exact jz (hg.old b hB) hbb.size
  ·exact hB.2
 ·rintro b (hB|hB)
  ·rcases hg.fin b hB with hB|hB
   ·exact .inl hB
   ·exact .inr ⟨hB.1,jz hB.2 hbb.size⟩
  ·exact .inr ⟨jS hg.below.size hB.1,hB.2⟩
 ·rintro b (hB|hB)
  ·exact .inl hB
  ·exact .inr ⟨hB.1,jz hB.2 hb.size⟩
 ·rintro b ((hB|hB)|hB)
  ·exact .inl hB
  ·exact .inr ⟨hB.1,jz hB.2 hb.size⟩
  ·exact .inr ⟨jS h.below.size hB.1,hB.2⟩
theorem qmQ {w:World} {S:Nat→Prop} {r:α} {us:List Value} (h:(rsOne:GoRs α).Rs w S r us):∃ cs,us=[GoT.v α cs]∧GoT.R w S r cs:=h
theorem qtB {β:Type} [GoRs β] {w:World} {S:Nat→Prop} {r:α × β} {us:List Value} (h:GoRs.Rs w S r us):∃ cs vs,us=GoT.v α cs::vs∧GoT.R w S r.1 cs∧GoRs.Rs w S r.2 vs:=h
def subP (kk:Nat) (p:Option Addr) (c:Nat) (lo:Nat):Option Addr:=if c=lo then p else p.map (·.add (lo*kk))
theorem SlR.sub {S:Nat→Prop} (h:SlR w S xs p c) {lo hi:Nat} (h1:lo≤hi) (h2:hi≤xs.length):SlR w S ((xs.take hi).drop lo) (subP (GoT.k α) p c lo) (c-lo):=by
 obtain ⟨q1,q2,q3⟩:=h
 have hl:((xs.take hi).drop lo).length=hi-lo:=by simp;omega
 refine ⟨by rw [hl];omega,by omega,?_⟩
 rcases q3 with ⟨hp,rfl⟩|⟨b,o,cur,T,fr,rfl,hb,hg,hc,hx⟩
 ·left
  have:hi=0:=by simpa using h2
  have:lo=0:=by omega
  subst this
  refine ⟨?_,by simp⟩
  rcases hp with rfl|rfl
  ·left;unfold subP;split<;>rfl
  ·right;rfl
 ·by_cases hcl:c=lo
  ·left
   exact ⟨.inr (by omega),jE (by rw [hl];omega)⟩
  ·right
   have hmul:(c-lo)*GoT.k α=c*GoT.k α-lo*GoT.k α:=Nat.sub_mul ..
   have hle:lo*GoT.k α≤c*GoT.k α:=ju _ (by omega)
   refine ⟨b,o+lo*GoT.k α,cur,T,fr,?_,hb,hg,by omega,fun i y hi'=>?_⟩
   ·unfold subP;rw [if_neg hcl];simp [qgm]
   ·rw [jB,jr] at hi'
    split at hi'
    ·obtain ⟨cs,hr,hj⟩:=hx _ _ hi'
     refine ⟨cs,hr,fun j v hv=>?_⟩
     have:=hj j v hv
     rw [Nat.add_mul] at this
     rw [←this]
     congr 1
     omega
    ·cases hi'
theorem qme {x:Value} {y:Nat} {code:BoundsCode} {kd:IntKind} {i:Int} (hx:x=.int kd i) (h0:0≤i) (h1:i≤y) (w:World):(Instr.sliceBound x y code).run P w=.ok i.toNat w:=by
 subst hx
 simp [Instr.sliceBound,asIntOf,h0,h1]
def optI (e:Env):Option Operand→Int→Option Int
 | none,d=>some d
 | some x,_=>match opv e x with
  | some (.int _ i)=>some i
  | _=>none
theorem qwJ (hT:TabOk P T) {x:Operand} {lo hi:Option Operand} {t ty d el:Nat} {ps:String} {af:Array Edge} {g:Option (Nat × Bool)} {te te':TE} {ln m:Nat} {l h:Int}
  (hx:opv e x=some (.slice p ln c)) (hlo:optI e lo 0=some l) (hhi:optI e hi ln=some h) (h0:0≤l) (h1:l≤h) (h2:h≤ln) (h3:ln≤c)
  (hte:T.get t=some te) (hk:te.kind=.slice el) (hel:T.get el=some te') (hm:te'.size=m):Val P n e ⟨some d,.slice t x lo hi none,ty,ps,af,g⟩ w (.slice (subP m p c l.toNat) (h.toNat-l.toNat) (c-l.toNat)):=by
 intro a ha
 have hu:=qbW (hT _ _ hte) hk
 have hs:=qgs (hT _ _ hel) w
 subst hm
 have hb1:∀ (code:BoundsCode),(match hi.map a.eval with|some v=>Instr.sliceBound v c code|none=>pure ln:Sem Nat).run P w=.ok h.toNat w:=by
  intro code
  cases hi with
  | none=>simp only [optI,Option.some.injEq] at hhi;subst hhi;simp
  | some y =>
   simp only [optI] at hhi
   split at hhi
   ·rename_i kd i hy
    simp only [Option.some.injEq] at hhi
    subst hhi
    simp only [jV]
    exact qme (ha.eval hy) (by omega) (by omega) w
   ·cases hhi
 have hb2:∀ (code:BoundsCode),(match lo.map a.eval with|some v=>Instr.sliceBound v h.toNat code|none=>pure 0:Sem Nat).run P w=.ok l.toNat w:=by
  intro code
  cases lo with
  | none=>simp only [optI,Option.some.injEq] at hlo;subst hlo;simp
  | some y =>
   simp only [optI] at hlo
   split at hlo
   ·rename_i kd i hy
    simp only [Option.some.injEq] at hlo
    subst hlo
    simp only [jV]
    exact qme (ha.eval hy) h0 (by omega) w
   ·cases hlo
 have hbs:(Instr.sliceBounds true ln c (lo.map a.eval) (hi.map a.eval) none).run P w=.ok (l.toNat,h.toNat,c) w:=by
  have e1:=hb1 .sliceAcap
  have e2:=hb2 .sliceB
  unfold Instr.sliceBounds
  cases hi<;>cases lo<;>simp only [Option.map_none,jV,jj,jl,jh,if_true,Option.isSome_none,Bool.false_eq_true,if_false] at e1 e2 ⊢<;>simp_all
 simp only [execOp,ha.eval hx,Option.map_none,Instr.sliceAt,Instr.sureAddr,Instr.slice,jj,jl,run_underlying hu,jh,hbs,hs,subP]
def atS (s:ByteArray) (i:Int):Option Int:=if 0≤i then (s[i.toNat]?).map fun b=>(b.toNat:Int) else none
theorem qlJ {s:ByteArray} {i r:Int} (h:atS s i=some r):∃ b,(if 0≤i then s[i.toNat]? else none)=some b∧(b.toNat:Int)=r:=by
 unfold atS at h
 split at h
 ·rename_i h0
  obtain ⟨b,hb,rfl⟩:=Option.map_eq_some_iff.1 h
  exact ⟨b,by rw [if_pos h0,hb],rfl⟩
 ·cases h
theorem qlR (hT:TabOk P T) {x i:Operand} {t ty d:Nat} {ps:String} {af:Array Edge} {g:Option (Nat × Bool)} {te:TE} {s:ByteArray} {kd:IntKind} {iv r:Int}
  (hr:∃ b,(if 0≤iv then s[iv.toNat]? else none)=some b∧(b.toNat:Int)=r) (hx:opv e x=some (.string s)) (hi:opv e i=some (.int kd iv)) (hte:T.get t=some te) (hk:te.kind=.str):Val P n e ⟨some d,.index t x i,ty,ps,af,g⟩ w (.int .u8 r):=by
 intro a ha
 obtain ⟨b,hb,rfl⟩:=hr
 have hu:=qn3 (hT _ _ hte) hk
 simp only [execOp,ha.eval hx,ha.eval hi,Instr.index,asIntOf,jj,jl,jh,run_underlying hu,hb]
def catB (a b:ByteArray):Option ByteArray:=if ((a.size+b.size:Nat):Int)≤IntKind.i64.max then some (a++b) else none
theorem qqs {a b r:ByteArray} (h:catB a b=some r):((a.size+b.size:Nat):Int)≤IntKind.i64.max∧a++b=r:=by
 unfold catB at h
 split at h
 ·rename_i hh;exact ⟨hh,Option.some.inj h⟩
 ·cases h
theorem qw9 {x y:Operand} {t t' d ty:Nat} {ps:String} {af:Array Edge} {g:Option (Nat × Bool)} {a b:ByteArray}
  (h0:((a.size+b.size:Nat):Int)≤IntKind.i64.max) (hx:opv e x=some (.string a)) (hy:opv e y=some (.string b)):Val P n e ⟨some d,.binOp .add t x y t',ty,ps,af,g⟩ w (.string (a++b)):=by
 intro c hc
 have h1:¬ (((a.size+b.size:Nat):Int) > IntKind.i64.max):=by omega
 simp only [execOp,hc.eval hx,hc.eval hy,jj,qoj,jh,binOp,Op.stringOp,h1,if_false,jl]
end
end Go.Fw


namespace Go.Fw
open Go
open Go.RowKit (Below)
def guardU (e:Env) (all:Array Oper) (o:Oper):Bool :=
 match o.guard with
 | none=>false
 | some (j,_) =>
  match all[j]? with
  | none=>false
  | some p =>
   match p.dst with
   | none=>false
   | some t =>
    match e.get t with
    | some (.tuple _)=>true
    | _=>false
def notW (e:Env) (all:Array Oper) (o:Oper):Bool:=guardU e all o || (match guardOf e all o with|some false=>true|_=>false)
section
variable {P:Program} {T:Tab} {n:Nat} {Q:Exit→Act→World→Prop} {k:List It} {e:Env} {w0 w w' w1:World} {L:List Ch}
theorem qrR {all:Array Oper} {o:Oper} {a:Act} (ha:Agree n e a) (h:guardU e all o=true):Region.wanted o (yielded all a.tmps)=false:=by
 unfold guardU at h
 unfold Region.wanted
 split at h
 ·cases h
 ·rename_i j want hg
  rw [hg]
  simp only
  split at h
  ·cases h
  ·rename_i p hp
   split at h
   ·cases h
   ·rename_i t ht
    split at h
    ·rename_i c hc
     have h1:=ha.at_ t _ hc
     have hy:yielded all a.tmps j=none:=by simp [yielded,hp,ht,h1]
     rw [hy]
     rfl
    ·cases h
theorem qn5 {all:Array Oper} {o:Oper} {a:Act} (ha:Agree n e a) (h:notW e all o=true):Region.wanted o (yielded all a.tmps)=false:=by
 unfold notW at h
 rw [Bool.or_eq_true] at h
 rcases h with h|h
 ·exact qrR ha h
 ·split at h
  ·rename_i hg;exact qjd ha hg
  ·cases h
theorem qw6 {all:Array Oper} {o:Oper} {l:List Oper} {d:Nat} (h:notW e all o=true) (hd:o.dst=some d) (hn:Nat.blt d n=true)
  (hk:Run P n Q (.ops all l::k) ((d,undef)::e) w):Run P n Q (.ops all (o::l)::k) e w:=by
 intro a ha
 show wpList P all (post P Q k) (o::l) a w
 rw [wpList,if_neg (by rw [qn5 ha h];simp),hd]
 exact hk _ (ha.put hn undef)
theorem qw8 {all:Array Oper} {o:Oper} {l:List Oper} {d:Nat} (h:notW e all o=true) (hd:o.dst=some d) (hn:Nat.blt d n=true)
  (hk:RunD P n Q k all w l ((d,undef)::e)):RunD P n Q k all w (o::l) e:=by
 intro a ha
 rw [wpQuiet,if_neg (by rw [qn5 ha h];simp),hd]
 exact hk _ (ha.put hn undef)
theorem qg0 {fnc:Func} {R:Ending→World→Prop} {ops:Array Oper} {st:List Nat} {C:World→Prop} {fuel:Nat} {listed:Array Bool} (i:Nat) {o:Oper} {d:Nat}
  (hi:ops[i]?=some o) (hg:notW e ops o=true) (hd:o.dst=some d) (listed':Array Bool) (hl:listed.setIfInBounds i true=listed')
  (hb:(Region.noSelect ops&&Region.free .any ops listed i&&(Region.ready .any ops listed).contains i&&st.all (fun s=>!(Nat.beq s i)&&waitsB ops i s&&!(listed.getD s true)))=true)
  (hC:C w) (hn:Nat.blt d n=true)
  (hk:RunA P n (bodyPost P fnc R) k ops st C fuel listed' ((d,undef)::e) w):RunA P n (bodyPost P fnc R) k ops st C (fuel+1) listed e w:=by
 subst hl
 simp only [ji,jW,jO] at hb
 obtain ⟨⟨⟨h1,h2⟩,h3⟩,h4⟩:=hb
 intro a ha
 refine qk5 hi (Region.noSelect_spec h1) (fun c a w h=>qnK c a w h) (fun s hs=>⟨fun h=>?_,(h4 s hs).1.2⟩) fuel listed a w (Region.free_spec hi h2) (by simpa using h3) (.inr ⟨qn5 ha hg,rfl⟩) (fun s hs=>(h4 s hs).2) hC (hk _ (by rw [hd];exact ha.put hn undef))
 have:=(h4 s hs).1.1
 rw [h,beqR] at this
 cases this
theorem qa5 {α:Type} [GoT α] {S:Nat→Prop} {xs:List α} {p:Option Addr} {ln c i b q:Nat} {cs:List Value} (h:SH w0 w L) (m:Nat) (hi:L[m]?=some (Ch.hole S xs p ln c i cs)) (hp:p=some ⟨b,0,none⟩) (hq:q=0+i*GoT.k α):CellsAt w b q cs:=by
 obtain ⟨b',hp',hc,_⟩:=h.holeAt m hi
 rw [hp] at hp'
 simp only [Option.some.injEq,Addr.mk.injEq,and_true] at hp'
 subst hp' hq
 rw [Ji]
 exact hc
theorem ql9 {α:Type} [GoT α] {S:Nat→Prop} {x:α} {cs:List Value} (h:SH w0 w (Ch.own S x cs::L)):∃ S',SH w0 w (Ch.own S' x cs::L):=⟨S,h⟩
theorem qsF {α:Type} [GoT α] {S:Nat→Prop} {xs r:List α} {p:Option Addr} {c:Nat} {lo hi:Int} (f:SlR w S xs p c) (hx:subS xs lo hi=some r) :
  ∃ p1 k1,subP (GoT.k α) p c lo.toNat=p1∧c-lo.toNat=k1∧hi.toNat-lo.toNat=r.length∧0≤lo∧lo≤hi∧hi≤xs.length∧xs.length≤c:=by
 obtain ⟨h0,h1,h2,rfl⟩:=qnI hx
 exact ⟨_,_,rfl,rfl,(qwF (by omega) (by omega)).symm,h0,h1,h2,f.1⟩
theorem qs9 {α:Type} [GoT α] {S:Nat→Prop} {xs r:List α} {p p1:Option Addr} {c k1:Nat} {lo hi:Int} (f:SlR w S xs p c) (hx:subS xs lo hi=some r) (hp:subP (GoT.k α) p c lo.toNat=p1) (hk:c-lo.toNat=k1):SlR w S r p1 k1:=by
 obtain ⟨h0,h1,h2,rfl⟩:=qnI hx
 subst hp hk
 exact f.sub (by omega) (by omega)
theorem qsS {lo hi:Int} {m c ln:Nat} (g:0≤lo∧lo≤hi∧hi≤(m:Int)∧m≤c) (e:ln=m):0≤lo∧lo≤hi∧hi≤(ln:Int)∧ln≤c:=by subst e;exact g
theorem qdI (hT:TabOk P T) {x:Operand} {lo hi:Option Operand} {t ty d el:Nat} {ps:String} {af:Array Edge} {g:Option (Nat × Bool)} {te te':TE} {p p1:Option Addr} {c ln m k1 rl:Nat} {l h:Int}
  (hx:opv e x=some (.slice p ln c)) (hlo:optI e lo 0=some l) (hhi:optI e hi ln=some h) (hb:0≤l∧l≤h∧h≤ln∧ln≤c) (hp:subP m p c l.toNat=p1) (hk1:c-l.toNat=k1) (hl:h.toNat-l.toNat=rl)
  (hte:T.get t=some te) (hk:te.kind=.slice el) (hel:T.get el=some te') (hm:te'.size=m):Val P n e ⟨some d,.slice t x lo hi none,ty,ps,af,g⟩ w (.slice p1 rl k1):=by
 subst hp hk1 hl
 exact qwJ hT hx hlo hhi hb.1 hb.2.1 hb.2.2.1 hb.2.2.2 hte hk hel hm
def shrS (kd:IntKind) (a b:Int):Option Int:=if 0≤b then some (a.fdiv (2 ^ (min b.toNat kd.bits))) else none
theorem quh {kd:IntKind} {a b r:Int} (h:shrS kd a b=some r):0≤b∧a.fdiv (2 ^ (min b.toNat kd.bits))=r:=by
 unfold shrS at h
 split at h
 ·rename_i hh;exact ⟨hh,Option.some.inj h⟩
 ·cases h
theorem qxG {x y:Operand} {t t' d ty:Nat} {ps:String} {af:Array Edge} {g:Option (Nat × Bool)} {kd kd':IntKind} {a b:Int}
  (h0:0≤b) (hx:opv e x=some (.int kd a)) (hy:opv e y=some (.int kd' b)):Val P n e ⟨some d,.binOp .shr t x y t',ty,ps,af,g⟩ w (.int kd (a.fdiv (2 ^ (min b.toNat kd.bits)))):=by
 intro c hc
 have h1:¬ b<0:=by omega
 simp only [execOp,hc.eval hx,hc.eval hy,jj,ql6,jh,binOp,Op.shift,h1,if_false,jl]
theorem qql {t m el:Nat} {x:TE} (h:probe P t=some x) (hk:x.kind=.arr m el):P.underlying t=some (.array m el):=by
 obtain ⟨d,hd,hx⟩:=qgO h
 rw [hk] at hx
 rw [hd]
 cases d<;>simp at hx
 rw [hx.1,hx.2]
theorem qw4 (hT:TabOk P T) {x i:Operand} {t ty d el m sz b o:Nat} {ps:String} {af:Array Edge} {g:Option (Nat × Bool)} {te te':TE} {kd:IntKind} {iv:Nat}
  (hx:opv e x=some (.pointer (some ⟨b,o,none⟩))) (hi:opv e i=some (.int kd (iv:Int))) (hlt:iv<m)
  (hte:T.get t=some te∧te.kind=.arr m el) (hel:T.get el=some te') (hm:te'.size=sz):Val P n e ⟨some d,.indexAddr t x i,ty,ps,af,g⟩ w (.pointer (some ⟨b,o+iv*sz,none⟩)):=by
 intro a ha
 subst hm
 have hu:=qql (hT _ _ hte.1) hte.2
 have hs:=qgs (hT _ _ hel) w
 have hlt':0≤(iv:Int)∧(iv:Int)<(m:Int):=⟨by omega,by omega⟩
 simp only [execOp,ha.eval hx,ha.eval hi,jj,Instr.indexAt,Instr.sureAddr,asIntOf,jl,jh,run_underlying hu]
 rw [if_pos hlt']
 simp only [jj,hs,jh,jl,qgm,jx]
theorem qf3 (hT:TabOk P T) {t d ty m el sz:Nat} {ps:String} {af:Array Edge} {g:Option (Nat × Bool)} {parts:Array (Nat × Operand)} {te te':TE} {zc:Array Value} (is:List Nat) (os:List Operand) {vs:List Value} {cs:List Value}
  (hparts:parts.toList=is.zip os) (_:is.length=os.length) (hvs:opvs e os=some vs) (hte:T.get t=some te) (hk:te.kind=.arr m el) (hz:te.zero=some (.agg zc)) (hel:T.get el=some te') (hm:te'.size=sz)
  (hf:fillS (fun i=>some (i*sz,sz)) zc.toList (is.zip vs)=some cs):Val P n e ⟨some d,.build t parts,ty,ps,af,g⟩ w (.agg cs.toArray):=by
 intro a ha
 subst hm
 have hev:parts.map (fun (x:Nat × Operand)=>(x.1,a.eval x.2))=(is.zip vs).toArray:=by
  apply Array.ext'
  rw [Array.toList_map,hparts]
  have:=qif ha hvs
  subst this
  simp only [List.zip_map_right]
  rfl
 have hpr:=hT _ _ hte
 obtain ⟨i,hi,_,_,hzi⟩:=qeo hpr
 have hu:=qql hpr hk
 have hs:=qgs (hT _ _ hel) w
 have hfill:=qgX _ _ _ _ hf
 have hzz:i.zero=some (.agg zc):=hzi.trans hz
 have hfill':Instr.fill (fun i=>some (i*te'.size,te'.size)) zc (is.zip vs)=some cs.toArray:=by simpa using hfill
 simp only [execOp,hev,Instr.build,zeroValue,typeInfo,jj,run_program,jh,hi,jl,hzz,run_underlying hu,Value.cells,hs,hfill']
def strOf (xs:List (IntK .u8)):ByteArray:=(xs.map (·.val)).foldl (fun r n=>r.push (UInt8.ofNat n.toNat)) ByteArray.empty
theorem quF {α:Type} [GoT α] {S:Nat→Prop} {xs:List α} {b o c:Nat} (g:α→Value) (h:SlR w S xs (some ⟨b,o,none⟩) c) (hk:GoT.k α=1) (hg:∀ (x:α) (cs:List Value) (w:World) (S:Nat→Prop),GoT.R w S x cs→cs=[g x]) :
  (loadCells ⟨b,o,none⟩ xs.length).run P w=.ok (xs.map g).toArray w:=by
 obtain ⟨h1,h2,h3⟩:=h
 have:=run_loadCells_list (P:=P) w ⟨b,o,none⟩ (xs.map g) (fun i u hi=>by
  rw [List.getElem?_map] at hi
  obtain ⟨x,hx,rfl⟩:=Option.map_eq_some_iff.1 hi
  rcases h3 with ⟨_,rfl⟩|⟨b',o',cur,T,fr,hp,hb,hgc,hc,he⟩
  ·simp at hx
  ·simp only [Option.some.injEq,Addr.mk.injEq,and_true] at hp
   obtain ⟨rfl,rfl⟩:=hp
   obtain ⟨cs,hr,hj⟩:=he i x hx
   have:=hj 0 (g x) (by rw [hg x cs w S hr];rfl)
   rw [hk,Nat.mul_one,jY] at this
   rw [qgm]
   simp [World.cell?,hgc,this])
 rw [jN] at this
 exact this
theorem qwh (hT:TabOk P T) {x:Operand} {s d' ty d el:Nat} {ps:String} {af:Array Edge} {g:Option (Nat × Bool)} {te te' te2:TE} {p:Option Addr} {ln c:Nat} {S:Nat→Prop} {xs:List (IntK .u8)}
  (f:SlR w S xs p c) (hl:ln=xs.length) (hx:opv e x=some (.slice p ln c)) (hs:T.get s=some te∧te.kind=.slice el) (hd:T.get d'=some te'∧te'.kind=.str) (hel:T.get el=some te2) (hk:te2.kind=.int .u8) :
  Val P n e ⟨some d,.convert s d' x,ty,ps,af,g⟩ w (.string (strOf xs)):=by
 intro a ha
 subst hl
 have hu:=qbW (hT _ _ hs.1) hs.2
 have hv:=qn3 (hT _ _ hd.1) hd.2
 have hw:=qnO (hT _ _ hel) hk
 have hb:(Conv.bytesToString (.slice p xs.length c)).run P w=.ok (.string (strOf xs)) w:=by
  cases p with
  | none =>
   have:xs=[]:=qrH f
   subst this
   simp [Conv.bytesToString,strOf]
  | some ad =>
   have hcase:=f.2.2
   rcases hcase with ⟨hp,rfl⟩|⟨b,o,cur,T',fr,hp,_⟩
   ·have:=run_bytesToString (P:=P) w ad 0 c [] (by simp [loadCells,loadCellsFrom])
    simpa [strOf] using this
   ·simp only [Option.some.injEq] at hp
    subst hp
    have:=run_bytesToString (P:=P) w ⟨b,o,none⟩ xs.length c (xs.map (·.val)) (by
     have:=quF (P:=P) (fun x:IntK .u8=>.int .u8 x.val) f rfl (fun x cs w S h=>h)
     rw [this]
     simp [Function.comp_def])
    exact this
 simp only [execOp,ha.eval hx,convert,jj,run_underlying hu,run_underlying hv,jh,run_underlying hw,hb,jl]
theorem SH.gatherT {α:Type} [GoT α] {r:α} {cs:List Value} {I:List Nat} (m:Nat) (J:List Nat) (h:SH w0 w L) (hp:PO w L I r cs)
  (hb:(apartB I J&&nodupB J&&I.all (fun i=>Nat.blt i m)&&J.all (fun i=>Nat.blt i m))=true):∃ S,SH w0 w (Ch.own S r cs::(pickL L J++L.drop m)):=by
 simp only [ji,jW] at hb
 obtain ⟨⟨⟨hb1,hb2⟩,hb3⟩,hb4⟩:=hb
 obtain ⟨S,ho,hw⟩:=hp
 have h1:=h.pickT m J (by simp only [ji,jW];exact ⟨hb2,hb4⟩)
 refine ⟨S,h.below,fun d hd=>?_,fun d hd=>?_,List.pairwise_cons.2 ⟨fun d hd b hSb hdb=>?_,h1.apart⟩⟩
 ·rcases List.mem_cons.1 hd with rfl|hd
  ·exact ⟨ho,fun b hb=>by obtain ⟨i,c,_,hi,hc⟩:=hw b hb;exact (h.mem hi).2 b hc⟩
  ·exact h1.holds d hd
 ·rcases List.mem_cons.1 hd with rfl|hd
  ·exact fun _ h=>h.elim
  ·exact h1.elder d hd
 ·rcases List.mem_append.1 hd with hd|hd
  ·obtain ⟨j,hj,hjd⟩:=qhx hd
   exact qhN h hw (fun x hx=>⟨j,d,hj,hjd,hx⟩) hb1 b hSb hdb
  ·obtain ⟨i,c,hiI,hi,hc⟩:=hw b hSb
   have him:i<m:=by simpa [Nat.blt_eq] using hb3 i hiI
   obtain ⟨j,hj,hjd⟩:=jI hd
   rw [List.getElem_drop] at hjd
   obtain ⟨hil,rfl⟩:=List.getElem?_eq_some_iff.1 hi
   have hjl:m+j<L.length:=by simp at hj;omega
   subst hjd
   exact List.pairwise_iff_getElem.1 h.apart i (m+j) hil hjl (by omega) b hc hdb
end
end Go.Fw


namespace Go.Fw
open Go
open Go.RowKit (Below)
section
variable {P:Program} {T:Tab} {n:Nat} {Q:Exit→Act→World→Prop} {k:List It} {e:Env} {w0 w w' w1:World} {L:List Ch}
theorem qcg (hT:TabOk P T) {α:Type} [GoT α] [Flat α] {all:Array Oper} {l:List Oper} {d t ty el:Nat} {ps:String} {af:Array Edge} {x y:Operand} {S:Nat→Prop} {xs ys z:List α} {p p':Option Addr} {ln ln' c c':Nat} {te te':TE} {zv:Value} (i:Nat)
  (h:SH w0 w L) (hi:L[i]?=some (Ch.own S xs [.slice p ln c])) (hs:SlR w (Fw.old w) ys p' c') (hl':ln'=ys.length) (hx:opv e x=some (.slice p ln c)) (hy:opv e y=some (.slice p' ln' c'))
  (hte:T.get t=some te) (hk:te.kind=.slice el) (hel:T.get el=some te') (hz:te'.zero=some zv) (hzs:(cellsL zv).length=te'.size) (hsz:te'.size=GoT.k α)
  (hb:Nat.ble te'.bytes 65536=true) (hbig:xs.length+ys.length≤big) (hz':xs++ys=z) (hn:Nat.blt d n=true)
  (hkk:∀ w' p2 c2 S2,SH w0 w' (L.set i (Ch.own S2 z [.slice p2 z.length c2]))→Run P n Q (.ops all l::k) ((d,.slice p2 z.length c2)::e) w') :
  Run P n Q (.ops all (⟨some d,.call ⟨.builtin .append,#[x,y],#[t,t]⟩,ty,ps,af,none⟩::l)::k) e w:=by
 subst hz'
 rw [jo] at hkk
 exact qok hT i h hi hs hl' hx hy hte hk hel hz hzs hsz hb hbig hn hkk
theorem qwI (hT:TabOk P T) {α:Type} [GoT α] {all:Array Oper} {l:List Oper} {d t ty el:Nat} {ps:String} {af:Array Edge} {x y:Operand} {S S1:Nat→Prop} {xs ys z:List α} {p p':Option Addr} {ln ln' c c':Nat} {te te':TE} {zv:Value}
  (h:SH w0 w (Ch.own S1 ys [.slice p' ln' c']::Ch.own S xs [.slice p ln c]::L)) (hx:opv e x=some (.slice p ln c)) (hy:opv e y=some (.slice p' ln' c'))
  (hte:T.get t=some te) (hk:te.kind=.slice el) (hel:T.get el=some te') (hz:te'.zero=some zv) (hzs:(cellsL zv).length=te'.size) (hsz:te'.size=GoT.k α)
  (hb:Nat.ble te'.bytes 65536=true) (hbig:xs.length+ys.length≤big) (hz':xs++ys=z) (hn:Nat.blt d n=true)
  (hkk:∀ w' p2 c2 S2,SH w0 w' (Ch.own S2 z [.slice p2 z.length c2]::L)→Run P n Q (.ops all l::k) ((d,.slice p2 z.length c2)::e) w') :
  Run P n Q (.ops all (⟨some d,.call ⟨.builtin .append,#[x,y],#[t,t]⟩,ty,ps,af,none⟩::l)::k) e w:=by
 subst hz'
 rw [jo] at hkk
 exact qxD hT h hx hy hte hk hel hz hzs hsz hb hbig hn hkk
theorem qc9 (hT:TabOk P T) (α:Type) [GoT α] {all:Array Oper} {l:List Oper} {d t ty el:Nat} {ps:String} {af:Array Edge} {te te':TE} {x y:Operand} {kd kd':IntKind} {nv:Int} {zv:Value} {z:List α}
  (h:SH w0 w L) (hx:opv e x=some (.int kd nv)) (hy:opv e y=some (.int kd' nv)) (hte:T.get t=some te) (hk:te.kind=.slice el) (hel:T.get el=some te') (hz:te'.zero=some zv) (hzc:cellsL zv=GoT.zc α) (hsz:te'.size=GoT.k α)
  (hb:Nat.ble te'.bytes 65536=true) (h0:0≤nv) (hbig:nv≤big) (hz':List.replicate nv.toNat (GoT.zero:α)=z) (hn:Nat.blt d n=true)
  (hkk:∀ w' S p,SH w0 w' (Ch.own S z [.slice p z.length z.length]::L)→Run P n Q (.ops all l::k) ((d,.slice p z.length z.length)::e) w') :
  Run P n Q (.ops all (⟨some d,.makeSlice t x y,ty,ps,af,none⟩::l)::k) e w:=by
 subst hz'
 rw [List.length_replicate] at hkk
 exact qxg hT α h hx hy hte hk hel hz hzc hsz hb h0 hbig hn hkk
variable {A0 B:Nat→Prop} {w00:World} {α:Type} [GoT α] {x:α} {cs:List Value} {xs:List α} {p:Option Addr} {c:Nat} {fs:List Fct} {S:Nat→Prop}
theorem Rg.atB (hg:Rg A0 w00 B w0) (h:SH w0 w L):∀ b,B b→Fw.old w b:=fun b hb=>jz (hg.old b hb) h.below.size
theorem Rg.inBR (hg:Rg A0 w00 B w0) (h:SH w0 w L) (hr:GoT.R w0 B x cs):GoT.R w B x cs:=GoT.loc hr (fun b hb=>h.below.block b (hg.old b hb))
theorem Rg.inBS (hg:Rg A0 w00 B w0) (h:SH w0 w L) (hr:SlR w0 B xs p c):SlR w B xs p c:=hr.loc (fun b hb=>h.below.block b (hg.old b hb))
theorem qoZ {ρ:Type} [GoRs ρ] [MonoRs ρ] (r:ρ) {all:Array Oper} {l:List Oper} {d ty:Nat} {ps:String} {af:Array Edge} {x:Operand} {args:Array Operand} {ats:Array TypeId} {f:FuncId} {fi ca:Array Value} {az vs:List Value}
  (hg:Rg A0 w00 B w0) (h:SH w0 w L) (hcall:qe3 P f) (hc:RetG P f vs w B r) (hx:opv e x=some (.func (.func f) fi ca)) (hargs:opvs e args.toList=some az) (hvs:fi.toList++az++ca.toList=vs) (hn:Nat.blt d n=true)
  (hk:∀ w1 us S,SH w0 w1 (Ch.grp B S []::L)→GoRs.Rs w1 (fun b=>S b∨B b) r us→Run P n Q (.ops all l::k) ((d,tup us)::e) w1) :
  Run P n Q (.ops all (⟨some d,.call ⟨.value x,args,ats⟩,ty,ps,af,none⟩::l)::k) e w :=
 qwz r h hg.old hcall hc hx hargs hvs hn (fun w1 us _ h1 hr=>hk w1 us _ h1 (MonoRs.mono hr (fun _ hb=>hb.symm)))
theorem SH.grpAdd (i:Nat) (h:SH w0 w L) (hi:L[i]?=some (Ch.grp B S fs)) (hr:GoT.R w (fun b=>S b∨B b) x cs):SH w0 w (L.set i (Ch.grp B S (fct x cs::fs))) :=
 h.say hi (fun hp f hf=>by
  rcases List.mem_cons.1 hf with rfl|hf
  ·exact hr
  ·exact hp f hf) (fun _ h=>h) (h.elder (Ch.grp B S fs) (jA hi))
theorem SH.grpKeep (is:List Nat) (i:Nat) (h:SH w0 w L) (hi:L[i]?=some (Ch.grp B S fs)):SH w0 w (L.set i (Ch.grp B S (pickF fs is))) :=
 h.say hi (fun hp f hf=>hp f (qnW hf)) (fun _ h=>h) (h.elder (Ch.grp B S fs) (jA hi))
end
end Go.Fw


namespace Go.Fw
open Go
open Go.RowKit (Below)
section
variable {P:Program} {T:Tab} {n:Nat} {Q:Exit→Act→World→Prop} {k:List It} {e:Env} {w0 w w' w1:World} {L:List Ch}
theorem qtM {ops:Array Oper} {st:List Nat} {C:World→Prop} {fuel:Nat} {listed:Array Bool} (J:Env→World→Prop) (fuel':Nat) (listed':Array Bool)
  (h1:(∀ e w,J e w→RunA P n Q k ops st C fuel' listed' e w)→RunA P n Q k ops st C fuel listed e w) (h2:∀ e w,J e w→RunA P n Q k ops st C fuel' listed' e w):RunA P n Q k ops st C fuel listed e w:=h1 h2
theorem qtE {ops:Array Oper} {st:List Nat} {C:World→Prop} {fuel:Nat} {listed:Array Bool} (e':Env) (hs:subEnv e e') (h:RunA P n Q k ops st C fuel listed e' w):RunA P n Q k ops st C fuel listed e w :=
 fun a ha=>h a (ha.sub hs)
end
end Go.Fw


namespace Go.Fw
open Go
section
variable {α β:Type} {f g:Nat→Option α} {a b r s:α} {c:Bool}
theorem Ev.iff (h1:c=true→Ev f a) (h2:c=false→Ev g b):Ev (fun n=>bif c then f n else g n) (bif c then a else b):=by
 cases c
 ·exact h2 rfl
 ·exact h1 rfl
theorem Ev.bindB {f:Nat→Option β} {g:Nat→β→Option α} {u v:β} (h:Ev f (bif c then u else v)) (h1:c=true→Ev (fun n=>g n u) a) (h2:c=false→Ev (fun n=>g n v) b):Ev (fun n=>(f n).bind (g n)) (bif c then a else b):=by
 cases c
 ·exact Ev.bind h (h2 rfl)
 ·exact Ev.bind h (h1 rfl)
theorem Ev.cast (h:Ev f r) (e:r=s):Ev f s:=e ▸ h
theorem Ev.two (h1:c=true→Ev f a) (h2:c=false→Ev f b):Ev f (bif c then a else b):=by
 cases c
 ·exact h2 rfl
 ·exact h1 rfl
end
def allN (f:Nat→Bool) (n:Nat):Bool:=(List.range n).all f
theorem qaK {f:Nat→Bool} {n:Nat}:allN f n=true↔∀ j,j<n→f j=true:=by simp [allN,jW]
theorem qlh {f:Nat→Bool} {n:Nat}:allN f n=false↔∃ j,j<n∧f j=false:=by
 rw [←Bool.not_eq_true,qaK]
 constructor
 ·intro h
  exact Classical.byContradiction fun hn=>h (fun j hj=>by
   cases hf:f j with
   | true=>rfl
   | false=>exact absurd ⟨j,hj,hf⟩ hn)
 ·rintro ⟨j,hj,hf⟩ h
  rw [h j hj] at hf
  cases hf
theorem qhm {f g:Nat→Bool} {n:Nat} (h:∀ j,j<n→f j=g j):allN f n=allN g n:=by
 rw [jk,qaK,qaK]
 exact ⟨fun hf j hj=>h j hj ▸ hf j hj,fun hg j hj=>(h j hj).symm ▸ hg j hj⟩
theorem qkD {f g:Nat→Bool} {n:Nat}:allN (fun j=>f j&&g j) n=(allN f n&&allN g n):=by
 rw [jk,ji,qaK,qaK,qaK]
 simp only [ji]
 exact ⟨fun h=>⟨fun j hj=>(h j hj).1,fun j hj=>(h j hj).2⟩,fun h j hj=>⟨h.1 j hj,h.2 j hj⟩⟩
theorem qtN {ρ σ:Type} {Lf:Nat→Int→Option (Flow ρ σ)} {len i0:Nat} {f:Nat→Bool} {bad:ρ} {fin:Flow ρ σ} (h0:i0≤len) (hend:Ev (fun n=>Lf n (len:Int)) fin)
  (hstep:∀ j,i0≤j→j<len→∀ X,Ev (fun n=>Lf n ((j+1:Nat):Int)) X→Ev (fun n=>Lf n (j:Int)) (bif f j then X else .ret bad)) :
  Ev (fun n=>Lf n (i0:Int)) (bif allN (fun j=>f (i0+j)) (len-i0) then fin else .ret bad):=by
 obtain ⟨m,rfl⟩:∃ m,len=i0+m:=⟨len-i0,by omega⟩
 rw [show i0+m-i0=m by omega]
 clear h0
 induction m generalizing i0 with
 | zero=>exact hend
 | succ m ih =>
  have h1:=@ih (i0+1) (by rw [show i0+1+m=i0+(m+1) by omega];exact hend) (fun j h2 h3 X hX=>hstep j (by omega) (by omega) X hX)
  refine (hstep i0 (jf _) (by omega) _ h1).cast ?_
  have:allN (fun j=>f (i0+j)) (m+1)=(f i0&&allN (fun j=>f (i0+1+j)) m):=by
   rw [jk,ji,qaK,qaK]
   constructor
   ·intro h
    exact ⟨by simpa using h 0 (by omega),fun j hj=>by have:=h (j+1) (by omega);rwa [show i0+(j+1)=i0+1+j by omega] at this⟩
   ·rintro ⟨h1,h2⟩ j hj
    cases j with
    | zero=>simpa using h1
    | succ j=>have:=h2 j (by omega);rwa [show i0+1+j=i0+(j+1) by omega] at this
  rw [this]
  cases f i0<;>rfl
theorem qeZ {ρ σ:Type} {Lf:Nat→Int→Option (Flow ρ σ)} {len:Nat} {f:Nat→Bool} {bad:ρ} {fin:Flow ρ σ} (hend:Ev (fun n=>Lf n (len:Int)) fin)
  (hstep:∀ j,j<len→∀ X,Ev (fun n=>Lf n ((j+1:Nat):Int)) X→Ev (fun n=>Lf n (j:Int)) (bif f j then X else .ret bad)) :
  Ev (fun n=>Lf n 0) (bif allN f len then fin else .ret bad):=by
 have:=qtN (i0:=0) (jG _) hend (fun j _ hj X hX=>hstep j hj X hX)
 simpa using this
theorem qW {α:Type} {xs:List α} {j:Nat} {x:α} (h:xs[j]?=some x):idx xs (j:Int)=some x:=by
 unfold idx
 rw [if_pos (by omega),jx,h]
theorem qaW {α:Type} {xs:List α} {j:Nat} (h:j<xs.length):idx xs (j:Int)=some xs[j]:=qW (jg h)
def inI (x lo hi:Int):Bool:=decide (lo≤x)&&decide (x≤hi)
theorem qcU {x lo hi:Int}:inI x lo hi=true↔lo≤x∧x≤hi:=by simp [inI]
theorem qut {x lo hi:Int}:inI x lo hi=false↔¬ (lo≤x∧x≤hi):=by rw [←qcU,Bool.not_eq_true]
def at0 (xs:List Int) (j:Nat):Int:=xs.getD j 0
theorem qxb {xs:List Int} {j:Nat} (h:j<xs.length):at0 xs j=xs[j]:=by simp [at0,h]
theorem qbm {xs:List Int} {j:Nat} (h:j<xs.length):idx xs (j:Int)=some (at0 xs j):=by rw [qaW h,qxb h]
theorem qbw {α:Type} {c:Bool} {x y:α}:(bif !c then x else y)=bif c then y else x:=by cases c<;>rfl
theorem qnr {c d:Bool}:(bif c then d else false)=(c&&d):=by cases c<;>rfl
end Go.Fw


namespace Go.Fw
open Go
theorem qwT {α:Type} {a:List α} {wt:α→Nat} {Lf:Nat→Int→Int→Option (Flow Int (Int × Int))} {el:Nat→α→Int→Option Int}
    (hel:∀ x,x ∈ a→∀ left:Int,0≤left→left≤1048576→Sz (fun n=>el n x left) (fun r=>r=left-(wt x:Int)))
    (hend:∀ (acc:Int) n,Lf (n+1) acc (a.length:Int)=some (.nxt (acc,(a.length:Int))))
    (hstep:∀ (acc:Int) (n j:Nat) (x:α),a[j]?=some x→Lf (n+1) acc (j:Int)=(el n x acc).bind fun r=>bif decide (r<0) then some (.ret (-1)) else Lf n r ((j+1:Nat):Int)) :
    ∀ left:Int,0≤left→left≤1048576→∃ o,Ev (fun n=>Lf n left 0) o∧(o=.ret (-1)∨∃ r:Int,0≤r∧r=left-((a.map wt).sum:Nat)∧o=.nxt (r,(a.length:Int))):=by
  have main:∀ k j,j+k=a.length→∀ left:Int,0≤left→left≤1048576→∃ o,Ev (fun n=>Lf n left (j:Int)) o∧(o=.ret (-1)∨∃ r:Int,0≤r∧r=left-(((a.drop j).map wt).sum:Nat)∧o=.nxt (r,(a.length:Int))):=by
    intro k
    induction k with
    | zero =>
      intro j hj left h0 h1
      obtain rfl:j=a.length:=by omega
      exact ⟨_,Ev.step (hend left) .done,.inr ⟨left,h0,by simp,rfl⟩⟩
    | succ k ih =>
      intro j hj left h0 h1
      have hlt:j<a.length:=by omega
      have hx:a[j]?=some a[j]:=jg hlt
      obtain ⟨r,hr,hq⟩:=hel a[j] (jp hlt) left h0 h1
      have hd:a.drop j=a[j]::a.drop (j+1):=jD hlt
      by_cases hn:r<0
      · exact ⟨.ret (-1),Ev.step (fun n=>hstep left n j a[j] hx) (Ev.bind hr (Ev.tt (by simpa using hn) .done)),.inl rfl⟩
      · rcases hq with hq|⟨hq0,hq⟩
        · exact absurd hq hn
        · obtain ⟨o,ho,hc⟩:=ih (j+1) (by omega) r hq0 (by omega)
          refine ⟨o,Ev.step (fun n=>hstep left n j a[j] hx) (Ev.bind hr (Ev.ff (by simpa using hn) ho)),hc.imp id ?_⟩
          rintro ⟨r',h2,h3,h4⟩
          refine ⟨r',h2,?_,h4⟩
          rw [hd,jU,List.sum_cons,h3,hq]
          omega
  intro left h0 h1
  have:=main a.length 0 (by omega) left h0 h1
  simpa using this
theorem Sz.list {α:Type} {a:List α} {wt:α→Nat} {Lf:Nat→Int→Int→Option (Flow Int (Int × Int))} {el:Nat→α→Int→Option Int} {left:Int} (h0:0≤left) (h1:left≤1048576) (hl:a.length≤9223372036854775807)
    (hel:∀ x,x ∈ a→∀ left:Int,0≤left→left≤1048576→Sz (fun n=>el n x left) (fun r=>r=left-(wt x:Int)))
    (hend:∀ (acc:Int) n,Lf (n+1) acc (a.length:Int)=some (.nxt (acc,(a.length:Int))))
    (hstep:∀ (acc:Int) (n j:Nat) (x:α),a[j]?=some x→Lf (n+1) acc (j:Int)=(el n x acc).bind fun r=>bif decide (r<0) then some (.ret (-1)) else Lf n r ((j+1:Nat):Int))
    {F:Nat→Option Int} (hF:∀ n,F n=bif decide (W64 (left-(a.length:Int))<0) then some (-1) else (Lf n (W64 (left-(a.length:Int))) 0).bind fun o=>match o with|.ret r=>some r|.nxt (i1,_)=>some i1) :
    Sz F (fun r=>r=left-((a.length+(a.map wt).sum:Nat):Int)):=by
  have hw:W64 (left-(a.length:Int))=left-(a.length:Int):=qau (by omega) (by omega)
  by_cases hn:left-(a.length:Int)<0
  · exact ⟨-1,Ev.congr hF (Ev.tt (by rw [hw];simpa using hn) .done),.inl (by decide)⟩
  · obtain ⟨o,ho,hc⟩:=qwT hel hend hstep (left-(a.length:Int)) (by omega) (by omega)
    rcases hc with rfl|⟨r,hr0,hr,rfl⟩
    · refine ⟨-1,Ev.congr hF (Ev.ff (by rw [hw];simpa using hn) ?_),.inl (by decide)⟩
      rw [hw]
      exact Ev.bind ho .done
    · refine ⟨r,Ev.congr hF (Ev.ff (by rw [hw];simpa using hn) ?_),.inr ⟨hr0,by omega⟩⟩
      rw [hw]
      exact Ev.bind ho .done
theorem Sz.str {s:ByteArray} {left:Int} (h:s.size≤9223372036854775807) (h0:0≤left) (h1:left≤1048576):Sz (fun _=>some (W64 (left-(s.size:Int)))) (fun r=>r=left-(s.size:Int)):=by
  rw [qau (by omega) (by omega)]
  refine ⟨_,.done,?_⟩
  by_cases hn:left-(s.size:Int)<0
  · exact .inl hn
  · exact .inr ⟨by omega,rfl⟩
theorem Sz.strStep {s:ByteArray} {left:Int} {g:Nat→Option Int} {Q':Int→Prop} (h:s.size≤9223372036854775807) (h0:0≤left) (h1:left≤1048576) (hg:0≤W64 (left-(s.size:Int))→W64 (left-(s.size:Int))=left-(s.size:Int)→Sz (fun n=>g n) Q')
   :Sz (fun n=>bif decide (W64 (left-(s.size:Int))<0) then some (-1) else g n) Q':=by
  have hw:W64 (left-(s.size:Int))=left-(s.size:Int):=qau (by omega) (by omega)
  by_cases hn:W64 (left-(s.size:Int))<0
  · exact ⟨-1,Ev.tt (by simpa using hn) .done,.inl (by decide)⟩
  · obtain ⟨r,hr,hq⟩:=hg (by omega) hw
    exact ⟨r,Ev.ff (by simpa using hn) hr,hq⟩
theorem qiE {α:Type} {a:List α} {z:α} {Lf:Nat→List α→Int→Option (List α × Int)} {cp:Nat→α→Option α} (hcp:∀ x,x ∈ a→Ev (fun n=>cp n x) x)
    (hend:∀ acc n,Lf (n+1) acc (a.length:Int)=some (acc,(a.length:Int)))
    (hstep:∀ (acc:List α) (n j:Nat) (x y:α),a[j]?=some x→acc[j]?=some y→Lf (n+1) acc (j:Int)=(cp n x).bind fun r=>Lf n (setS acc (j:Int) r) ((j+1:Nat):Int)) :
    Ev (fun n=>Lf n (padS a z 0) 0) (a,(a.length:Int)):=by
  refine down (P:=fun j=>Ev (fun n=>Lf n (padS a z j) (j:Int)) (a,(a.length:Int))) a.length ?_ (fun j hj ih=>?_)
  · refine Ev.step (fun n=>hend _ n) ?_
    rw [quq]
    exact .done
  · have hx:a[j]?=some a[j]:=jg hj
    have hlt:j<(padS a z j).length:=by rw [qvK (by omega)];exact hj
    refine Ev.step (fun n=>hstep _ n j _ _ hx (jg hlt)) (Ev.bind (hcp _ (jp hj)) ?_)
    rw [qvN hj]
    exact ih
theorem qhU {α:Type} {a:List α} {Lf:Nat→Int→Option (Flow Bool Int)} {eqf:Nat→α→α→Option Bool} (heq:∀ x,x ∈ a→Ev (fun n=>eqf n x x) true)
    (hend:∀ n,Lf (n+1) (a.length:Int)=some (.nxt (a.length:Int)))
    (hstep:∀ (n j:Nat) (x:α),a[j]?=some x→Lf (n+1) (j:Int)=(eqf n x x).bind fun r=>bif (!r) then some (.ret false) else Lf n ((j+1:Nat):Int)) :
    Ev (fun n=>Lf n 0) (.nxt (a.length:Int)):=by
  refine down (P:=fun j=>Ev (fun n=>Lf n (j:Int)) (.nxt (a.length:Int))) a.length ?_ (fun j hj ih=>?_)
  · exact Ev.step (fun n=>hend n) .done
  · exact Ev.step (fun n=>hstep n j _ (jg hj)) (Ev.bind (heq _ (jp hj)) (Ev.ff rfl ih))
def okI (x:Int):Prop:=-9223372036854775808≤x∧x≤9223372036854775807
def okS (s:ByteArray):Prop:=s.size≤1048576
def okL {α:Type} (ok:α→Prop) (xs:List α):Prop:=xs.length≤1048576∧∀ x,x ∈ xs→ok x
def okT (_:Bool):Prop:=True
theorem okL.len {α:Type} {ok:α→Prop} {xs:List α} (h:okL ok xs):xs.length≤1048576:=h.1
theorem okL.get {α:Type} {ok:α→Prop} {xs:List α} (h:okL ok xs) {j:Nat} {x:α} (hx:xs[j]?=some x):ok x:=h.2 x (jA hx)
theorem okL.at {α:Type} {ok:α→Prop} {xs:List α} (h:okL ok xs) {j:Nat} (hj:j<xs.length):ok xs[j]:=h.2 _ (jp hj)
theorem qbM {α:Type} {wt:α→Nat} {xs:List α} {x:α} (h:x ∈ xs):wt x≤(xs.map wt).sum:=by
  induction xs with
  | nil=>cases h
  | cons y ys ih =>
    rw [jU,List.sum_cons]
    rcases List.mem_cons.1 h with rfl|h
    · omega
    · have:=ih h;omega
end Go.Fw


namespace Go.Fw
open Go
open Go.RowKit (Below)
def RetN (P:Program) (f:FuncId) (vs:List Value) (w:World) (J:World→Prop) (r:Int):Prop :=
 Calls P f vs.toArray w fun e w'=>e=.returned (.int .i64 r)∧J w'
section
variable {P:Program} {T:Tab} {n:Nat} {Q:Exit→Act→World→Prop} {k:List It} {e:Env} {w0 w w':World} {L:List Ch} {J:World→Prop}
theorem qbN (r:Int) {all:Array Oper} {l:List Oper} {d ty:Nat} {ps:String} {af:Array Edge} {x:Operand} {args:Array Operand} {ats:Array TypeId} {f:FuncId} {fi ca:Array Value} {az vs:List Value}
  (hcall:qe3 P f) (hc:RetN P f vs w J r) (hx:opv e x=some (.func (.func f) fi ca)) (hargs:opvs e args.toList=some az) (hvs:fi.toList++az++ca.toList=vs) (hn:Nat.blt d n=true)
  (hk:∀ w',J w'→Run P n Q (.ops all l::k) ((d,.int .i64 r)::e) w'):Run P n Q (.ops all (⟨some d,.call ⟨.value x,args,ats⟩,ty,ps,af,none⟩::l)::k) e w:=by
 subst hvs
 refine qm5 (R:=fun v w'=>v=.int .i64 r∧J w') rfl rfl hn (fun a ha=>qjE ha hcall hx hargs w) (hc.mono ?_) ?_
 ·rintro e w' ⟨rfl,h⟩;exact ⟨_,rfl,rfl,h⟩
 ·rintro v w' ⟨rfl,h⟩;exact hk w' h
theorem qbZ {f:FuncId} {fn:Func} {c:Code} {vs:List Value} {r:Int} {m:Nat} (hf:P.funcs[f]?=some fn) (hb:fn.body=some c) (hm:fn.ntmps=m) (hn:Nat.ble vs.length m=true)
  (h:Run P m (bodyPost P fn fun e w'=>e=.returned (.int .i64 r)∧J w') [.code c] (argEnv 0 vs) w):RetN P f vs w J r:=by
 subst hm
 have hn':=jt hn
 refine calls_of_wp hf hb ?_
 have hag:Agree fn.ntmps (argEnv 0 vs) { tmps:=vs.toArray++Array.replicate (fn.ntmps-vs.toArray.size) undef,defers:=[] }:=by
  refine ⟨rfl,by simp;omega,fun i v hi=>?_⟩
  obtain ⟨_,h2⟩:=qjT vs 0 i v hi
  simp only [Nat.sub_zero] at h2
  have hlt:=(List.getElem?_eq_some_iff.1 h2).1
  rw [jX (by simpa using hlt)]
  simpa using h2
 have h1:=h _ hag
 refine wp_mono h1 ?_
 intro ex a' w' hq
 cases ex<;>exact hq
theorem qhY (hT:TabOk P T) {fn:Func} {r:Int} (h:J w) (hr:ResOk T e w fn.results.toList [.int .i64 r]) :
  Run P n (bodyPost P fn fun e w'=>e=.returned (.int .i64 r)∧J w') (.code .ret::k) e w :=
 qtK fun _ ha=>⟨ha.defers,.int .i64 r,qjw hT ha hr,rfl,h⟩
end
end Go.Fw


namespace Go.Fw
open Go
theorem qlH {α:Type} {c:Bool} {x y:α}:(bif c then some x else some y)=some (bif c then x else y):=by cases c<;>rfl
def ixL {α:Type} (p:α→Bool) (xs:List α):Int:=match xs.findIdx? p with|some j=>(j:Int)|none=>-1
theorem qig {α:Type} {p:α→Bool} {xs:List α}:decide (ixL p xs ≥ 0)=xs.any p:=by
 unfold ixL
 cases h:xs.findIdx? p with
 | some j =>
  have:=List.findIdx?_eq_some_iff_getElem.1 h
  obtain ⟨hj,hp,_⟩:=this
  have h2:xs.any p=true:=List.any_eq_true.2 ⟨_,jp hj,hp⟩
  rw [h2];simp
 | none =>
  have:=List.findIdx?_eq_none_iff.1 h
  have h2:xs.any p=false:=by rw [List.any_eq_false];intro x hx;simp [this x hx]
  rw [h2];rfl
theorem qur {α σ:Type} {xs:List α} {p:α→Bool} {Lf:Nat→Int→Option (Flow Int σ)} {pf:Nat→α→Option Bool} {fin:σ} (hp:∀ x,x ∈ xs→Ev (fun n=>pf n x) (p x))
  (hend:∀ n,Lf (n+1) (xs.length:Int)=some (.nxt fin))
  (hstep:∀ (n j:Nat) (x:α),xs[j]?=some x→Lf (n+1) (j:Int)=(pf n x).bind fun r=>bif r then some (.ret (j:Int)) else Lf n ((j+1:Nat):Int)) :
  Ev (fun n=>Lf n 0) (match xs.findIdx? p with|some j=>.ret (j:Int)|none=>.nxt fin):=by
 have main:∀ k j,j+k=xs.length→Ev (fun n=>Lf n (j:Int)) (match (xs.drop j).findIdx? p with|some i=>.ret ((j+i:Nat):Int)|none=>.nxt fin):=by
  intro k
  induction k with
  | zero =>
   intro j hj
   obtain rfl:j=xs.length:=by omega
   rw [Ja (jf _)]
   exact Ev.step hend .done
  | succ k ih =>
   intro j hj
   have hlt:j<xs.length:=by omega
   have hd:xs.drop j=xs[j]::xs.drop (j+1):=jD hlt
   refine Ev.step (fun n=>hstep n j _ (jg hlt)) (Ev.bind (hp _ (jp hlt)) ?_)
   rw [hd,List.findIdx?_cons]
   cases hc:p xs[j] with
   | true=>exact Ev.tt rfl .done
   | false =>
    refine Ev.ff rfl ((ih (j+1) (by omega)).cast ?_)
    cases (xs.drop (j+1)).findIdx? p with
    | none=>rfl
    | some i=>simp only [Bool.false_eq_true,if_false,jV];congr 2;omega
 have:=main xs.length 0 (by omega)
 simp only [List.drop_zero,Ji] at this
 exact this
theorem qdF {α σ:Type} {xs:List α} {p:α→Bool} {Lf:Nat→Int→Option (Flow Int σ)} {pf:Nat→α→Option Bool} {fin:σ} (hp:∀ x,x ∈ xs→Ev (fun n=>pf n x) (p x))
  (hend:∀ n,Lf (n+1) (xs.length:Int)=some (.nxt fin))
  (hstep:∀ (n j:Nat) (x:α),xs[j]?=some x→Lf (n+1) (j:Int)=(pf n x).bind fun r=>bif r then some (.ret (j:Int)) else Lf n ((j+1:Nat):Int))
  {F:Nat→Option Int} (hF:∀ n,F n=(Lf n 0).bind fun o=>match o with|.ret r=>some r|.nxt _=>some (-1)):Ev F (ixL p xs):=by
 refine Ev.congr hF (Ev.bind (qur hp hend hstep) ?_)
 unfold ixL
 cases xs.findIdx? p<;>exact .done
theorem qsc {α:Type} {p:α→Bool} {xs:List α} {d:α}:xs.any p = !allN (fun j=>!p (xs.getD j d)) xs.length:=by
 rw [jk,List.any_eq_true,jO,qlh]
 constructor
 ·rintro ⟨x,hx,hp⟩
  obtain ⟨j,hj,rfl⟩:=jI hx
  exact ⟨j,hj,by simp [hj,hp]⟩
 ·rintro ⟨j,hj,hp⟩
  exact ⟨xs[j],jp hj,by simpa [hj] using hp⟩
theorem qhC {α:Type} {p:α→Bool} {xs:List α} {d:α}:xs.all p=allN (fun j=>p (xs.getD j d)) xs.length:=by
 rw [jk,jW,qaK]
 constructor
 ·intro h j hj
  simpa [hj] using h xs[j] (jp hj)
 ·intro h x hx
  obtain ⟨j,hj,rfl⟩:=jI hx
  simpa [hj] using h j hj
theorem qns {α:Type} {p:α→Bool} {xs:List α}:(!xs.any fun x=>!p x)=xs.all p:=by
 rw [jk];simp [jW]
theorem qlS {α ρ σ:Type} {xs:List α} {p:α→Bool} {Lf:Nat→Int→Option (Flow ρ σ)} {bad:ρ} {fin:σ}
  (hend:∀ n,Lf (n+1) (xs.length:Int)=some (.nxt fin))
  (hstep:∀ j,∀ h:j<xs.length,∀ X,Ev (fun n=>Lf n ((j+1:Nat):Int)) X→Ev (fun n=>Lf (n+1) (j:Int)) (bif p xs[j] then X else .ret bad)) :
  Ev (fun n=>Lf n 0) (bif xs.all p then .nxt fin else .ret bad):=by
 have main:∀ k j,j+k=xs.length→Ev (fun n=>Lf n (j:Int)) (bif (xs.drop j).all p then .nxt fin else .ret bad):=by
  intro k
  induction k with
  | zero =>
   intro j hj
   obtain rfl:j=xs.length:=by omega
   rw [Ja (jf _)]
   exact Ev.step hend .done
  | succ k ih =>
   intro j hj
   have hlt:j<xs.length:=by omega
   have hd:xs.drop j=xs[j]::xs.drop (j+1):=jD hlt
   refine (Ev.succ (hstep j hlt _ (ih (j+1) (by omega)))).cast ?_
   rw [hd,List.all_cons]
   cases p xs[j]<;>rfl
 have:=main xs.length 0 (by omega)
 simpa using this
theorem qod {α ρ τ:Type} {xs:List α} {Lf:Nat→τ→Int→Option ρ} {step:τ→α→τ} {fin:τ→ρ} (i0:Nat) (t0:τ) (Inv:Nat→τ→Prop) (hi0:i0≤xs.length) (h0:Inv i0 t0)
  (hinv:∀ j t,∀ h:j<xs.length,Inv j t→Inv (j+1) (step t xs[j]))
  (hend:∀ n t,Lf (n+1) t (xs.length:Int)=some (fin t))
  (hstep:∀ j t,∀ h:j<xs.length,Inv j t→∀ X,Ev (fun n=>Lf n (step t xs[j]) ((j+1:Nat):Int)) X→Ev (fun n=>Lf (n+1) t (j:Int)) X) :
  Ev (fun n=>Lf n t0 (i0:Int)) (fin ((xs.drop i0).foldl step t0))∧Inv xs.length ((xs.drop i0).foldl step t0):=by
 have main:∀ k j t,j+k=xs.length→Inv j t→Ev (fun n=>Lf n t (j:Int)) (fin ((xs.drop j).foldl step t))∧Inv xs.length ((xs.drop j).foldl step t):=by
  intro k
  induction k with
  | zero =>
   intro j t hj hi
   obtain rfl:j=xs.length:=by omega
   rw [Ja (jf _)]
   exact ⟨Ev.step (fun n=>hend n t) .done,hi⟩
  | succ k ih =>
   intro j t hj hi
   have hlt:j<xs.length:=by omega
   have hd:xs.drop j=xs[j]::xs.drop (j+1):=jD hlt
   obtain ⟨h1,h2⟩:=ih (j+1) (step t xs[j]) (by omega) (hinv j t hlt hi)
   rw [hd,List.foldl_cons]
   exact ⟨Ev.succ (hstep j t hlt hi _ h1),h2⟩
 exact main (xs.length-i0) i0 t0 (by omega) h0
theorem quT {α ρ τ:Type} {xs:List α} {Lf:Nat→τ→Int→Option ρ} {step:τ→α→τ} {fin:τ→ρ} (t0:τ) (Inv:Nat→τ→Prop) (h0:Inv 0 t0)
  (hinv:∀ j t,∀ h:j<xs.length,Inv j t→Inv (j+1) (step t xs[j]))
  (hend:∀ n t,Lf (n+1) t (xs.length:Int)=some (fin t))
  (hstep:∀ j t,∀ h:j<xs.length,Inv j t→∀ X,Ev (fun n=>Lf n (step t xs[j]) ((j+1:Nat):Int)) X→Ev (fun n=>Lf (n+1) t (j:Int)) X) :
  Ev (fun n=>Lf n t0 0) (fin (xs.foldl step t0))∧Inv xs.length (xs.foldl step t0):=by
 have:=qod (i0:=0) t0 Inv (jG _) h0 hinv hend hstep
 simpa using this
theorem qcc {α:Type} {xs ys:List α} (h:xs.length+ys.length≤2147483648):appS xs ys=some (xs++ys):=by
 unfold appS big;rw [if_pos h]
end Go.Fw
