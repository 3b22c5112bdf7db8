/-
 DERIVED: THE SHELF's CONTRACTS AT THIS DUMP, IN PLAIN WORDS (tools/lay-plain.mjs out of 'TryzSy.lean', which tools/lay-shelf.mjs wrote): THE SAME DECLARATIONS UNDER THE SAME NAMES: 'import', 'namespace', 'open', 'def', 'theorem' AND NOTHING ELSE: no command of the shelf's: FOR A HAND-IN. Each laying: the table of numbers ('.._ren') and one theorem, a field a fact of the dump's own or the kernel's comparison; each contract: ONE APPLICATION.
-/
import Derived.Shelf.SlGeneric
import Derived.Ground.SlgmProg
import Derived.Ground.SlgnProg
import Derived.Shelf.SortM.Plain
import Derived.Shelf.SortM.SortNone
import Derived.Shelf.SlicesG.CompactI
import Derived.Test.YtbajldmfbhaaoaaGreatDoorProg
import Derived.Test.YtbajldmfbhaaoaaGreatDoorFw38
import Derived.Sort.Grow
import Derived.Lib.SlicesCompact
import Derived.Test.YtbajldmfbhaaoaaGreatDoorChecked
import Derived.Test.YtbajldmfbhaaoaaGreatDoorS1
open Option renaming bind_some → jd, some → V, none → U
open Nat renaming le_refl → je, le_of_ble_eq_true → jp, mul_le_mul_right → js, lt_of_lt_of_le → jw, succ_mul → jO, zero_add → jW, le_trans → Jb, add_zero → Jh
open Bool renaming and_eq_true → jf, eq_iff_iff → jk, true_and → jx, not_eq_true' → jF, not_true → jV, false_or → Jj
open Go.Result renaming andThen_ok → jg
open List renaming length_append → jh, getElem?_eq_getElem → ji, mem_cons_of_mem → jo, getElem_mem → jq, append_assoc → jr, length_singleton → jt, mem_cons_self → ju, getElem?_append_left → jv, length_map → jy, getElem?_take → jz, take_succ_eq_append_getElem → jB, getElem?_append_right → jC, getD_eq_getElem?_getD → jD, take_length → jG, getElem?_toArray → jH, all_eq_true → jI, size_toArray → jJ, length_replicate → jK, eq_nil_of_length_eq_zero → jL, drop_eq_getElem_cons → jM, map_append → jN, length_take → jP, not_mem_nil → jQ, getElem_of_mem → jR, mem_append_left → jS, append_nil → jU, mem_of_getElem? → jX, mem_cons → Ja, range_succ → Jd, length_cons → Je, ext_getElem → Jf, map_cons → Jg
open Go.Sem renaming run_bind → jj, run_pure → jm
open Int renaming toNat_natCast → jn, tdiv_eq_ediv_of_nonneg → jE, mul_nonneg → jT, le_refl → jY, mul_assoc → jZ, mul_le_mul → Jc, add_zero → Ji
open Array renaming getElem?_append_left → jA

namespace Go.Proofs
open Go.Shelf
def Tryz.laysSort_ren:Go.Shelf.Ren:=⟨fun|5=>48|8=>105|7=>104|19=>180|20=>181|10=>171|11=>172|12=>173|13=>174|14=>175|15=>176|16=>177|17=>178|18=>179|30=>235|31=>236|32=>237|33=>238|34=>239|35=>212|40=>282|n=>n,fun|23=>35|25=>2|3=>3|32=>182|22=>35|0=>0|44=>267|46=>269|4=>4|36=>260|35=>259|41=>264|5=>5|9=>9|53=>311|57=>315|63=>354|64=>355|n=>n,fun|n=>n⟩
theorem Tryz.laysSort:Go.Proofs.SlLaysM.n5 Tryz.prog Tryz.laysSort_ren:={
 mixed:=by kernel_rfl
 f5:=⟨Tryz.f48.name,by decide,Tryz.func48.trans (congrArg some (by kernel_rfl))⟩
 f7:=⟨Tryz.f104.name,by decide,Tryz.func104.trans (congrArg some (by kernel_rfl))⟩
 f8:=Tryz.func105.trans (congrArg some (by kernel_rfl))
 f10:=⟨Tryz.f171.name,by decide,Tryz.func171.trans (congrArg some (by kernel_rfl))⟩
 f11:=⟨Tryz.f172.name,by decide,Tryz.func172.trans (congrArg some (by kernel_rfl))⟩
 f12:=⟨Tryz.f173.name,by decide,Tryz.func173.trans (congrArg some (by kernel_rfl))⟩
 f13:=⟨Tryz.f174.name,by decide,Tryz.func174.trans (congrArg some (by kernel_rfl))⟩
 f14:=⟨Tryz.f175.name,by decide,Tryz.func175.trans (congrArg some (by kernel_rfl))⟩
 f15:=⟨Tryz.f176.name,by decide,Tryz.func176.trans (congrArg some (by kernel_rfl))⟩
 f16:=⟨Tryz.f177.name,by decide,Tryz.func177.trans (congrArg some (by kernel_rfl))⟩
 f17:=⟨Tryz.f178.name,by decide,Tryz.func178.trans (congrArg some (by kernel_rfl))⟩
 f18:=⟨Tryz.f179.name,by decide,Tryz.func179.trans (congrArg some (by kernel_rfl))⟩
 f19:=Tryz.func180.trans (congrArg some (by kernel_rfl))
 f20:=Tryz.func181.trans (congrArg some (by kernel_rfl))
 f30:=⟨Tryz.f235.name,by decide,Tryz.func235.trans (congrArg some (by kernel_rfl))⟩
 f31:=Tryz.func236.trans (congrArg some (by kernel_rfl))
 f32:=Tryz.func237.trans (congrArg some (by kernel_rfl))
 f33:=⟨Tryz.f238.name,by decide,Tryz.func238.trans (congrArg some (by kernel_rfl))⟩
 f34:=⟨Tryz.f239.name,by decide,Tryz.func239.trans (congrArg some (by kernel_rfl))⟩
 f35:=⟨Tryz.f212.name,by decide,Tryz.func212.trans (congrArg some (by kernel_rfl))⟩
 f40:=⟨Tryz.f282.name,by decide,Tryz.func282.trans (congrArg some (by kernel_rfl))⟩
 t0:=Tryz.underlying0
 a0:=Tryz.isAgg0
 z0:=Tryz.sizeOf0
 v0:=Tryz.zeroValue0
 t3:=Tryz.underlying3
 a3:=Tryz.isAgg3
 z3:=Tryz.sizeOf3
 v3:=Tryz.zeroValue3
 t4:=Tryz.underlying4
 a4:=Tryz.isAgg4
 z4:=Tryz.sizeOf4
 v4:=Tryz.zeroValue4
 t5:=Tryz.underlying5
 a5:=Tryz.isAgg5
 z5:=Tryz.sizeOf5
 v5:=Tryz.zeroValue5
 t9:=Tryz.underlying9
 a9:=Tryz.isAgg9
 z9:=Tryz.sizeOf9
 v9:=Tryz.zeroValue9
 t22:=Tryz.underlying35
 a22:=Tryz.isAgg35
 z22:=Tryz.sizeOf35
 v22:=Tryz.zeroValue35
 t23:=Tryz.underlying35
 a23:=Tryz.isAgg35
 z23:=Tryz.sizeOf35
 v23:=Tryz.zeroValue35
 t25:=Tryz.underlying2
 a25:=Tryz.isAgg2
 z25:=Tryz.sizeOf2
 v25:=Tryz.zeroValue2
 t32:=Tryz.underlying182
 a32:=Tryz.isAgg182
 z32:=Tryz.sizeOf182
 v32:=Tryz.zeroValue182
 t35:=Tryz.underlying259
 a35:=Tryz.isAgg259
 z35:=Tryz.sizeOf259
 v35:=Tryz.zeroValue259
 t36:=Tryz.underlying260
 a36:=Tryz.isAgg260
 z36:=Tryz.sizeOf260
 v36:=Tryz.zeroValue260
 t41:=Tryz.underlying264
 a41:=Tryz.isAgg264
 z41:=Tryz.sizeOf264
 v41:=Tryz.zeroValue264
 t44:=Tryz.underlying267
 a44:=Tryz.isAgg267
 z44:=Tryz.sizeOf267
 v44:=Tryz.zeroValue267
 t46:=Tryz.underlying269
 a46:=Tryz.isAgg269
 z46:=Tryz.sizeOf269
 v46:=Tryz.zeroValue269
 t53:=Tryz.underlying311
 a53:=Tryz.isAgg311
 z53:=Tryz.sizeOf311
 v53:=Tryz.zeroValue311
 t57:=Tryz.underlying315
 a57:=Tryz.isAgg315
 z57:=Tryz.sizeOf315
 v57:=Tryz.zeroValue315
 t63:=Tryz.underlying354
 a63:=Tryz.isAgg354
 z63:=Tryz.sizeOf354
 v63:=Tryz.zeroValue354
 t64:=Tryz.underlying355
 a64:=Tryz.isAgg355
 z64:=Tryz.sizeOf355
 v64:=Tryz.zeroValue355 }
open Go.RowKit Go.Sort in
theorem Tryz.slices_Sort_any (blk off cap:Nat) (zs:List Int) (w:World) (hH:Holds (Value.int .i64) w blk off zs.toArray) (hblk:blk<w.heap.size) (hsz:zs.length<4611686018427387904) :
  Calls Tryz.prog 48 #[.slice (some ⟨blk,off,none⟩) zs.length cap] w fun e w'=>e=.returned (.tuple #[])∧∃ n os,w'=grow (putRow (Value.int .i64) (Go.Sort.ahead w n) blk off (zs.mergeSort fun x y=>decide (x≤y)).toArray) os:=AnyM.slices_Sort_int Tryz.laysSort blk off cap zs w hH hblk hsz
open Go.RowKit Go.Sort in
theorem Tryz.slices_Sort_none (p:Option Addr) (cap:Nat) (w:World):Calls Tryz.prog 48 #[.slice p 0 cap] w fun e w'=>e=.returned (.tuple #[])∧w'=w:=AnyM.slices_Sort_int_none Tryz.laysSort p cap w
def Tryz.laysComp_ren:Go.Shelf.Ren:=⟨fun|43=>49|n=>n,fun|22=>35|23=>2|3=>3|4=>4|0=>0|n=>n,fun|n=>n⟩
theorem Tryz.laysComp:Go.Proofs.SlLaysN.n43 Tryz.prog Tryz.laysComp_ren:={
 mixed:=by kernel_rfl
 f43:=⟨Tryz.f49.name,by decide,Tryz.func49.trans (congrArg some (by kernel_rfl))⟩
 t0:=Tryz.underlying0
 a0:=Tryz.isAgg0
 z0:=Tryz.sizeOf0
 v0:=Tryz.zeroValue0
 t3:=Tryz.underlying3
 a3:=Tryz.isAgg3
 z3:=Tryz.sizeOf3
 v3:=Tryz.zeroValue3
 t4:=Tryz.underlying4
 a4:=Tryz.isAgg4
 z4:=Tryz.sizeOf4
 v4:=Tryz.zeroValue4
 t22:=Tryz.underlying35
 a22:=Tryz.isAgg35
 z22:=Tryz.sizeOf35
 v22:=Tryz.zeroValue35
 t23:=Tryz.underlying2
 a23:=Tryz.isAgg2
 z23:=Tryz.sizeOf2
 v23:=Tryz.zeroValue2
 i23:=by kernel_rfl }
open Go.RowKit Go.Sort in
theorem Tryz.slices_Compact_any (blk off cap:Nat) (d:Array Int) (w:World) (hH:Holds (Value.int .i64) w blk off d) (hsz:d.size≤9223372036854775807) (hcap:d.size≤cap) :
  Calls Tryz.prog 49 #[.slice (some ⟨blk,off,none⟩) d.size cap] w fun e w'=>e=.returned (.slice (some ⟨blk,off,none⟩) (Go.Lib.compactUpTo d d.size).length cap)∧∃ q,w'=putRow (Value.int .i64) (Go.Sort.ahead w q) blk off (Go.Lib.compactUpTo d d.size++List.replicate (d.size-(Go.Lib.compactUpTo d d.size).length) 0).toArray:=AnyG.slices_Compact_int_arr Tryz.laysComp blk off cap d w hH hsz hcap
open Go.RowKit Go.Sort in
theorem Tryz.slices_Compact_none (a:Option Addr) (cap:Nat) (w:World):Calls Tryz.prog 49 #[.slice a 0 cap] w fun e w'=>e=.returned (.slice a 0 cap)∧w'=w:=AnyG.slices_Compact_int_empty Tryz.laysComp a cap w
end Go.Proofs


namespace Go.Fw
open Go
open Go.RowKit (Below)
section
variable {P:Program}{T:Tab}{n:Nat}{Q:Exit→Act→World→Prop}{k:List It}{e:Env}{w0 w w':World}{L L':List Ch}
theorem SH.append (h:SH w0 w L)(hL:SH w w' L')(hD:∀ c,c ∈ L'→∀ b,c.D b→b<w0.heap.size):SH w0 w' (L'++L):=by
 have h':=h.ext hL.below;refine⟨h'.below,fun c hc=>?_,fun c hc=>?_,?_⟩
 ·rcases List.mem_append.1 hc with hc|hc
  ·obtain⟨p,s⟩:=hL.holds c hc;exact⟨p,fun b hb=>⟨Jb h.below.size (s b hb).1,(s b hb).2⟩⟩
  ·exact h'.holds c hc
 ·rcases List.mem_append.1 hc with hc|hc
  ·exact hD c hc
  ·exact h.elder c hc
 ·refine List.pairwise_append.2 ⟨hL.apart,h.apart,fun c hc d hd b hcb hdb=>?_⟩;have h1:=((hL.holds c hc).2 b hcb).1;have h2:=((h.holds d hd).2 b hdb).2;omega
theorem SH.appendN (h:SH w0 w L)(hL:SH w w' L')(hD:NoD L'):SH w0 w' (L'++L):=
 SH.append h hL fun c hc b hb=>absurd hb (NoD.all hD c hc b)
def RetZ (P:Program)(f:FuncId)(vs:List Value)(w:World)(Φ:List Value→List Ch→Prop):Prop:=
 Calls P f vs.toArray w fun e w'=>∃ v,e=.returned v∧Below w.heap.size w w'∧∃ us L,v=tup us∧SH w w' L∧Φ us L
theorem qrZ {Φ:List Value→List Ch→Prop}{all:Array Oper}{l:List Oper}{d ty:Nat}{ps:String}{af:Array Edge}{x:Operand}{args:Array Operand}{ats:Array TypeId}{f:FuncId}{fi ca:Array Value}{az vs:List Value}
  (hcall:qfX P f) (hc:RetZ P f vs w Φ) (hx:opv e x=V (.func (.func f) fi ca)) (hargs:opvs e args.toList=V az) (hvs:fi.toList++az++ca.toList=vs) (hn:Nat.blt d n=true)
  (hk:∀ w' us L',SH w w' L'→Φ us L'→Run P n Q (.ops all l::k) ((d,tup us)::e) w') :
  Run P n Q (.ops all (⟨V d,.call ⟨.value x,args,ats⟩,ty,ps,af,U⟩::l)::k) e w:=by
 subst hvs;refine qoP (R:=fun v w'=>Below w.heap.size w w'∧∃ us L,v=tup us∧SH w w' L∧Φ us L) Z Z hn (fun a ha=>qjZ ha hcall hx hargs w) hc ?_;rintro v w' ⟨_,us,L',rfl,hL,hv⟩;exact hk w' us L' hL hv
theorem qmI {f:FuncId}{fn:Func}{c:Code}{vs:List Value}{Φ:List Value→List Ch→Prop}{m:Nat}(hf:P.funcs[f]?=V fn)(hb:fn.body=V c)(hm:fn.ntmps=m)(hn:Nat.ble vs.length m=true)
  (h:SH w w []→Run P m (bodyPost P fn fun e w'=>∃ v,e=.returned v∧Below w.heap.size w w'∧∃ us L,v=tup us∧SH w w' L∧Φ us L) [.code c] (argEnv 0 vs) w):RetZ P f vs w Φ:=by
 subst hm;have hn':=jp hn;refine calls_of_wp hf hb ?_;have hr:=h (SH.start w);have hag:Agree fn.ntmps (argEnv 0 vs) { tmps:=vs.toArray++Array.replicate (fn.ntmps-vs.toArray.size) undef,defers:=[] }:=by
  refine⟨rfl,by simp;omega,fun i v hi=>?_⟩;obtain⟨_,h2⟩:=qi8 vs 0 i v hi;simp only[Nat.sub_zero] at h2;have hlt:=(List.getElem?_eq_some_iff.1 h2).1;rw[jA (by simpa using hlt)];simpa using h2
 have h1:=hr _ hag;refine wp_mono h1 ?_;intro ex a' w' hq;cases ex<;>exact hq
theorem qmT (hT:TabOk P T){fn:Func}{Φ:List Value→List Ch→Prop}(us:List Value)(h:SH w0 w L)(hr:ResOk T e w fn.results.toList us)(hv:Φ us L) :
  Run P n (bodyPost P fn fun e w'=>∃ v,e=.returned v∧Below w0.heap.size w0 w'∧∃ us L,v=tup us∧SH w0 w' L∧Φ us L) (.code .ret::k) e w:=
 qt3 fun _ ha=>⟨ha.defers,tup us,qgx hT ha hr,tup us,rfl,h.below,us,L,rfl,h,hv⟩
end
end Go.Fw


namespace Go.Fw
open Go Go.Sort
open Go.RowKit (Below)
section
variable {P:Program}{T:Tab}{n:Nat}{Q:Exit→Act→World→Prop}{k:List It}{e:Env}{w0 w w':World}{L L':List Ch}
theorem qxM {α:Type}{L:List α}{i:Nat}{c:α}(h:L[i]?=V c):L.set i c=L:=by
 obtain⟨hi,he⟩:=List.getElem?_eq_some_iff.1 h;rw[←he,List.set_getElem_self]
abbrev encI:Int→Value:=Value.int .i64
theorem qtu {S:Nat→Prop}{xs:List Int}{b o ln c i:Nat}(h:SH w0 w L)(hi:L[i]?=V (Ch.own S xs [.slice (V ⟨b,o,U⟩) ln c])) :
  o=0∧ln=xs.length∧xs.length≤c∧xs.length≤9223372036854775807∧b<w.heap.size∧Holds encI w b o xs.toArray:=by
 obtain⟨hp,hS⟩:=h.mem hi;obtain⟨p0,c0,he,h1,h2,h3⟩:=hp;simp only[List.cons.injEq,Value.slice.injEq,and_true] at he;obtain⟨rfl,rfl,rfl⟩:=he;rcases h3 with⟨hn,_⟩|⟨b',cur,t,F,hb,hSb,hg,hc,hF,hd,hx⟩
 ·cases hn
 ·simp only[Option.some.injEq,Addr.mk.injEq,and_true] at hb;obtain⟨rfl,rfl⟩:=hb;have hmax:maxLen≤9223372036854775807:=by simp[maxLen]
  refine⟨rfl,rfl,h1,by omega,(hS b hSb).2,fun j hj=>?_⟩;have hj':j<xs.length:=by simpa using hj
  obtain⟨cs,hr,hv⟩:=hx j xs[j] (ji hj');obtain rfl:cs=[.int .i64 xs[j]]:=hr;have:=hv 0 _ Z;refine⟨?_,?_⟩
  ·simp only[World.cell?,hg,Option.isSome_none,jW,Bool.false_eq_true,if_false];have e1:j*GoT.k Int+0=j:=by show j*1+0=j;omega
   rw[e1] at this;rw[this];have hja:j<xs.toArray.size:=hj;rw[getElem!_pos xs.toArray j hja]
   rfl
  ·simp only[World.frozen?,hg];simp
theorem qwW {S:Nat→Prop}{xs:List Int}{b o ln c i m:Nat}(h:SH w0 w L)(hi:L[i]?=V (Ch.own S xs [.slice (V ⟨b,o,U⟩) ln c]))(d:Array Int)(hd:d.size=xs.length)(hm:m≤d.size)(nd:Nat)(os:Array Obj) :
  SH w0 (grow (putRow encI (Go.Sort.ahead w nd) b o d) os) (L.set i (Ch.own S (d.toList.take m) [.slice (V ⟨b,o,U⟩) m c])):=by
 obtain⟨hp,hS⟩:=h.mem hi;obtain⟨p0,c0,he,h1,h2,h3⟩:=hp;simp only[List.cons.injEq,Value.slice.injEq,and_true] at he;obtain⟨rfl,rfl,rfl⟩:=he;rcases h3 with⟨hn,_⟩|⟨b',cur,t,F,hb,hSb,hg,hc,hF,hdj,hx⟩
 ·cases hn
 ·simp only[Option.some.injEq,Addr.mk.injEq,and_true] at hb;obtain⟨rfl,rfl⟩:=hb;have hbs:b<w.heap.size:=(hS b hSb).2;have hheap:(grow (putRow encI (Go.Sort.ahead w nd) b 0 d) os).heap=w.heap.modify b (onCells (putCells encI 0 d))++os:=rfl;have hlt:∀ a,a<w.heap.size→(grow (putRow encI (Go.Sort.ahead w nd) b 0 d) os).heap[a]?=(w.heap.modify b (onCells (putCells encI 0 d)))[a]?:=fun a ha=>by
   rw[hheap,jA (by rw[Array.size_modify];exact ha)]
  have hgb:(grow (putRow encI (Go.Sort.ahead w nd) b 0 d) os).heap[b]?=V (.cells (putCells encI 0 d cur) t (0,0)):=by
   rw[hlt b hbs,Array.getElem?_modify,if_pos Z,hg];rfl
  have hk1:GoT.k Int=1:=rfl;refine h.upd hi Z Z Z ?_ (fun a ha hna=>?_) ?_ (fun a ha=>.inl ha) (fun _ hd=>hd.elim)
  ·rw[hheap];simp
  ·rw[hlt a ha,Array.getElem?_modify,if_neg (fun hab:b=a=>hna (hab ▸ hSb))]
  ·refine⟨V ⟨b,0,U⟩,c,by rw[jP,Array.length_toList,Nat.min_eq_left hm],by rw[jP,Array.length_toList];omega,h2,.inr ⟨b,_,t,F,rfl,hSb,hgb,?_,hF,hdj,fun j x hj=>⟨[.int .i64 x],rfl,fun r v hr=>?_⟩⟩⟩
   ·unfold putCells;rw[Array.size_mapIdx];exact hc
   ·have hr0:r=0:=by
     have:=(List.getElem?_eq_some_iff.1 hr).1;simpa using this
    subst hr0;obtain rfl:(.int .i64 x)=v:=by simpa using hr
    have hjm:j<m:=by
     have:=(List.getElem?_eq_some_iff.1 hj).1;rw[jP] at this;omega
    rw[jz,if_pos hjm] at hj;have hjd:j<d.size:=by omega
    have hjc:j*GoT.k Int+0<cur.size:=by rw[hc,hk1];omega
    unfold putCells;rw[Array.getElem?_mapIdx,Array.getElem?_eq_getElem hjc];have e1:j*GoT.k Int+0=j:=by rw[hk1];omega
    simp only[Option.map_some,e1,Nat.sub_zero,Nat.zero_le,jW,true_and,if_pos hjd,Option.some.injEq];rw[getElem!_pos d j hjd];rw[Array.getElem?_toList,Array.getElem?_eq_getElem hjd] at hj;rw[Option.some.inj hj]
def sortI (xs:List Int):List Int:=xs.mergeSort fun x y=>decide (x≤y)
def SortsAt (P:Program)(f:FuncId):Prop:=
 (∀ (blk off cap:Nat) (zs:List Int) (w:World),Holds encI w blk off zs.toArray→blk<w.heap.size→zs.length<4611686018427387904 →
  Calls P f #[.slice (V ⟨blk,off,U⟩) zs.length cap] w fun e w'=>e=.returned (.tuple #[])∧∃ n os,w'=grow (putRow encI (Go.Sort.ahead w n) blk off (zs.mergeSort fun x y=>decide (x≤y)).toArray) os) ∧
 ∀ (p:Option Addr) (cap:Nat) (w:World),Calls P f #[.slice p 0 cap] w fun e w'=>e=.returned (.tuple #[])∧w'=w
theorem qvO {S:Nat→Prop}{xs:List Int}{b o ln c i:Nat}{sp:Option Nat}(h:SH w0 w L)(hi:L[i]?=V (Ch.own S xs [.slice (V ⟨b,o,sp⟩) ln c])):sp=U:=by
 obtain⟨hp,_⟩:=h.mem hi;obtain⟨p0,c0,he,h1,h2,h3⟩:=hp;simp only[List.cons.injEq,Value.slice.injEq,and_true] at he;obtain⟨rfl,_,rfl⟩:=he;rcases h3 with⟨hn,_⟩|⟨b',cur,t,F,hb,_⟩
 ·cases hn
 ·simp only[Option.some.injEq,Addr.mk.injEq] at hb;exact hb.2.2
theorem qxb {S:Nat→Prop}{xs:List Int}{ln c i:Nat}(h:SH w0 w L)(hi:L[i]?=V (Ch.own S xs [.slice U ln c])):xs=[]∧ln=0∧c=0:=by
 obtain⟨hp,_⟩:=h.mem hi;obtain⟨p0,c0,he,h1,h2,h3⟩:=hp;simp only[List.cons.injEq,Value.slice.injEq,and_true] at he;obtain⟨rfl,hl,rfl⟩:=he;rcases h3 with⟨_,rfl,rfl⟩|⟨b',cur,t,F,hb,_⟩
 ·exact⟨rfl,by simpa using hl,rfl⟩
 ·cases hb
theorem qBa {f:FuncId}(hs:SortsAt P f){S:Nat→Prop}{xs:List Int}{p:Option Addr}{ln c:Nat}(i:Nat)(h:SH w0 w L)(hi:L[i]?=V (Ch.own S xs [.slice p ln c]))(hl:xs.length≤2147483648) :
  RetU P f [.slice p ln c] w fun w'=>SH w0 w' (L.set i (Ch.own S (sortI xs) [.slice p ln c])):=by
 cases p with
 | none=>
  obtain⟨rfl,rfl,rfl⟩:=qxb h hi;refine(hs.2 U 0 w).mono ?_;rintro e w' ⟨rfl,rfl⟩;refine⟨rfl,?_⟩;have e1:sortI []=[]:=by simp[sortI]
  rw[e1,qxM hi];exact h
 | some a=>
  obtain⟨b,o,sp⟩:=a;obtain rfl:=qvO h hi;obtain⟨rfl,rfl,hc,_,hbs,hH⟩:=qtu h hi;refine(hs.1 b 0 c xs w hH hbs (by omega)).mono ?_;rintro e w' ⟨rfl,nd,os,rfl⟩;refine⟨rfl,?_⟩;have hlen:(sortI xs).length=xs.length:=List.length_mergeSort _;have:=qwW h hi (sortI xs).toArray (by simpa using hlen) (m:=xs.length) (by simp[hlen]) nd os;rw[List.toList_toArray,←hlen,jG,hlen] at this;exact this
def sortS (xs:List Int):Option (List Int):=if xs.length≤2147483648 then V (sortI xs) else U
theorem qwe {xs y:List Int}(h:sortS xs=V y):xs.length≤2147483648∧sortI xs=y:=by
 unfold sortS at h;split at h
 ·rename_i hl;exact⟨hl,Option.some.inj h⟩
 ·cases h
def CompactsAt (P:Program)(f:FuncId):Prop:=
 (∀ (blk off cap:Nat) (d:Array Int) (w:World),Holds encI w blk off d→d.size≤9223372036854775807→d.size≤cap →
  Calls P f #[.slice (V ⟨blk,off,U⟩) d.size cap] w fun e w'=>e=.returned (.slice (V ⟨blk,off,U⟩) (Go.Lib.compactUpTo d d.size).length cap) ∧
   ∃ q,w'=putRow encI (Go.Sort.ahead w q) blk off (Go.Lib.compactUpTo d d.size++List.replicate (d.size-(Go.Lib.compactUpTo d d.size).length) 0).toArray) ∧
 ∀ (w:World),Calls P f #[.slice U 0 0] w fun e w'=>e=.returned (.slice U 0 0)∧w'=w
def compI (xs:List Int):List Int:=Go.Lib.compact xs
def compS (xs:List Int):Option (List Int):=V (compI xs)
theorem qwn {xs y:List Int}(h:compS xs=V y):compI xs=y:=Option.some.inj h
theorem qxQ {xs:List Int}:(compI xs).length≤xs.length:=by
 unfold compI Go.Lib.compact Go.Lib.compactUpTo;rw[jy];exact Jb (List.length_filter_le _ _) (by simp)
theorem qxS {f:FuncId}(hs:CompactsAt P f){S:Nat→Prop}{xs:List Int}{p:Option Addr}{ln c:Nat}(h:SH w0 w (Ch.own S xs [.slice p ln c]::L)):RetT P f [.slice p ln c] w w0 L (compI xs):=by
 have hi:(Ch.own S xs [.slice p ln c]::L)[0]?=V (Ch.own S xs [.slice p ln c]):=rfl;cases p with
 | none=>
  obtain⟨rfl,rfl,rfl⟩:=qxb h hi;refine(hs.2 w).mono ?_;rintro e w' ⟨rfl,rfl⟩;exact⟨S,U,0,rfl,h⟩
 | some a=>
  obtain⟨b,o,sp⟩:=a;obtain rfl:=qvO h hi;obtain⟨rfl,rfl,hc,hbig,hbs,hH⟩:=qtu h hi;have e0:xs.toArray.size=xs.length:=by simp
  have ec:Go.Lib.compactUpTo xs.toArray xs.toArray.size=compI xs:=by rw[e0];rfl
  refine(hs.1 b 0 c xs.toArray w hH (by rw[e0];exact hbig) (by rw[e0];exact hc)).mono ?_;rintro e w' ⟨rfl,q,rfl⟩;rw[ec];refine⟨S,V ⟨b,0,U⟩,c,rfl,?_⟩;have hl:=qxQ (xs:=xs);have:=qwW h hi (compI xs++List.replicate (xs.toArray.size-(compI xs).length) 0).toArray (by simp;omega) (m:=(compI xs).length) (by simp) q #[];rw[grow_empty,List.toList_toArray,List.take_left] at this;exact this
end
end Go.Fw


namespace Go.Proofs
open Go Go.Fw
theorem Tryz.slices_Sort_at:SortsAt Tryz.prog 48:=⟨fun blk off cap zs w hH hb hs=>Tryz.slices_Sort_any blk off cap zs w hH hb hs,fun p cap w=>Tryz.slices_Sort_none p cap w⟩
theorem Tryz.slices_Compact_at:CompactsAt Tryz.prog 49:=⟨fun blk off cap d w hH hs hc=>Tryz.slices_Compact_any blk off cap d w hH hs hc,fun w=>Tryz.slices_Compact_none none 0 w⟩
end Go.Proofs


namespace Go.Fw
open Go
open Go.RowKit (Below)
section
variable {w0 w w':World}{L:List Ch}{α:Type}[GoT α]
def RAll (w:World)(A:Nat→Prop):List α→List (Raw α)→Prop
 | [],[]=>True
 | x::xs,r::rs=>GoT.R w A x r.cs∧RAll w A xs rs
 | _,_=>False
theorem RAll.at {A:Nat→Prop}:∀ {xs:List α} {rs:List (Raw α)},RAll w A xs rs→xs.length=rs.length∧∀ (i:Nat) x,xs[i]?=V x→∃ r,rs[i]?=V r∧GoT.R w A x r.cs
 | [],[],_=>⟨rfl,fun i x h=>by simp at h⟩
 | x::xs,[],h=>h.elim
 | [],r::rs,h=>h.elim
 | x::xs,r::rs,h=>by
  obtain⟨hl,ha⟩:=RAll.at h.2;refine⟨by simp[hl],fun i y hy=>?_⟩;cases i with
  | zero=>simp only[List.getElem?_cons_zero,Option.some.injEq] at hy ⊢;subst hy;exact⟨r,rfl,h.1⟩
  | succ i=>simp only[List.getElem?_cons_succ] at hy ⊢;exact ha i y hy
theorem rawsR {A:Nat→Prop}{xs:List α}{rs:List (Raw α)}{p:Option Addr}{n c:Nat}(hr:GoT.R w A rs [.slice p n c])(h:RAll w A xs rs):GoT.R w A xs [.slice p n c]:=by
 obtain⟨p0,c0,he,h1,h2,h3⟩:=hr;obtain⟨hl,ha⟩:=h.at;simp only[List.cons.injEq,Value.slice.injEq,and_true] at he;obtain⟨rfl,rfl,rfl⟩:=he;refine⟨p,c,by rw[hl],by omega,h2,?_⟩;rcases h3 with⟨hp,rfl⟩|⟨b,o,cur,T,fr,rfl,hb,hg,hc,hx⟩
 ·left;exact⟨hp,List.length_eq_zero_iff.1 hl⟩
 ·refine .inr ⟨b,o,cur,T,fr,rfl,hb,hg,hc,fun i x hi=>?_⟩;obtain⟨r,hri,hR⟩:=ha i x hi;obtain⟨cs,hcs,hj⟩:=hx i r hri;obtain rfl:cs=r.cs:=hcs.1;exact⟨_,hR,hj⟩
theorem qyt {A:Nat→Prop}{β:Type}[GoT β]{p:Option Addr}{l c:Nat}:GoT.R w A (⟨[.slice p l c]⟩:Raw (List β)) [.slice p l c]:=
 ⟨rfl,rfl,fun v hv=>by
  obtain rfl:v=.slice p l c:=by simpa using hv
  rfl⟩
theorem SH.cutS {S:Nat→Prop}{xs y:List α}{p p1:Option Addr}{ln c k1:Nat}{hi:Int}(i:Nat)(h:SH w0 w L)(hL:L[i]?=V (Ch.own S xs [.slice p ln c]))(hy:subS xs 0 hi=V y)(hp:subP (GoT.k α) p c (0:Int).toNat=p1)(hk:c-(0:Int).toNat=k1) :
  SH w0 w (L.set i (Ch.own S y [.slice p1 y.length k1])):=by
 obtain⟨h0,h1,h2,rfl⟩:=qo0 hy;obtain⟨hP,hS⟩:=h.mem hL;obtain⟨p0,c0,he,q1,q2,q3⟩:=hP;simp only[List.cons.injEq,Value.slice.injEq,and_true] at he;obtain⟨rfl,rfl,rfl⟩:=he;have e0:(0:Int).toNat=0:=rfl;rw[e0] at hp hk;simp only[Nat.sub_zero] at hk;subst hk;simp only[e0,List.drop_zero];have hp1:p1=p:=by
  subst hp;unfold subP;split
  ·rfl
  ·rcases q3 with⟨rfl,_,_⟩|⟨b,cur,T,F,rfl,_⟩
   ·rfl
   ·simp[Addr.add]
 subst hp1;have hlen:(xs.take hi.toNat).length≤c:=by rw[jP];omega
 refine h.upd hL Z Z Z (je _) (fun _ _ _=>rfl) ⟨p1,c,rfl,hlen,q2,?_⟩ (fun b hb=>.inl hb) (fun _ hd=>hd.elim);rcases q3 with⟨rfl,rfl,rfl⟩|⟨b,cur,T,F,rfl,hb,hg,hc,hF,hd,hx⟩
 ·exact .inl ⟨rfl,by simp,rfl⟩
 ·refine .inr ⟨b,cur,T,F,rfl,hb,hg,hc,hF,hd,fun j x hj=>?_⟩;rw[jz] at hj;split at hj
  ·exact hx j x hj
  ·cases hj
end
theorem qAB {P:Program}{T:Tab}{n:Nat}{e:Env}{w:World}(hT:TabOk P T){x:Operand}{t ty d el:Nat}{ps:String}{af:Array Edge}{g:Option (Nat×Bool)}{te:TE}{p:Option Addr}{l c:Nat}
  (hx:opv e x=V (.slice p l c)) (hte:T.get t=V te) (hk:te.kind=.slice el):Val P n e ⟨V d,.call ⟨.builtin .cap,#[x],#[t]⟩,ty,ps,af,g⟩ w (.int .i64 c):=by
 intro a ha;have hu:=qdR (hT _ _ hte) hk;unfold execOp;simp[resolve,invoke,builtin,jj,jm,jg,ha.eval hx,Builtin.cap_,run_underlying hu,goInt]
end Go.Fw


namespace Go.Fw
open Go
theorem qvq:∀ {a b:List Int},a.Pairwise (·<·)→b.Pairwise (·<·)→(∀ x,x ∈ a↔x ∈ b)→a=b:=by
 intro a
 induction a with
 | nil=>
  intro b _ _ h;cases b with
  | nil=>rfl
  | cons y b=>exact absurd ((h y).2 (ju ..)) (by simp)
 | cons x a ih=>
  intro b ha hb h;cases b with
  | nil=>exact absurd ((h x).1 (ju ..)) (by simp)
  | cons y b=>
   rw[List.pairwise_cons] at ha hb;have hxy:x=y:=by
    have h1:=(h x).1 (ju ..);have h2:=(h y).2 (ju ..);rcases List.mem_cons.1 h1 with h1|h1
    ·exact h1
    ·rcases List.mem_cons.1 h2 with h2|h2
     ·exact h2.symm
     ·have:=hb.1 x h1;have:=ha.1 y h2;omega
   subst hxy
   congr 1
   refine ih ha.2 hb.2 fun z=>?_;constructor
   ·intro hz;rcases List.mem_cons.1 ((h z).1 (jo _ hz)) with e|hz'
    ·have:=ha.1 z hz;omega
    ·exact hz'
   ·intro hz;rcases List.mem_cons.1 ((h z).2 (jo _ hz)) with e|hz'
    ·have:=hb.1 z hz;omega
    ·exact hz'
theorem qrj {q:Nat→Bool}{m:Nat}:(ints (selN q m)).Pairwise (·<·):=by
 unfold ints selN;rw[List.pairwise_map];refine List.Pairwise.filter _ ?_;have:=List.pairwise_lt_range (n:=m);exact this.imp fun h=>by omega
theorem qlu {l:List Nat}{x:Int}:x ∈ ints l↔∃ k,k ∈ l∧(k:Int)=x:=by unfold ints;rw[List.mem_map]
theorem qz8 {d:Array Int}(hs:∀ i j,i<j→j<d.size→d[i]!≤d[j]!):∀ m,m≤d.size →
  ((Go.Lib.compactUpTo d m).Pairwise (·<·)∧(∀ x,x ∈ Go.Lib.compactUpTo d m↔∃ j,j<m∧d[j]! = x)):=by
 intro m
 induction m with
 | zero=>
  intro _;refine⟨by simp[Go.Lib.compactUpTo],fun x=>?_⟩;simp[Go.Lib.compactUpTo]
 | succ m ih=>
  intro hm;obtain⟨h1,h2⟩:=ih (by omega);rw[Go.Lib.compactUpTo_succ];cases hk:Go.Lib.keeps d m with
  | true=>
   simp only[if_true];refine⟨?_,fun x=>?_⟩
   ·rw[List.pairwise_append];refine⟨h1,by simp,fun x hx y hy=>?_⟩;obtain rfl:y=d[m]!:=by simpa using hy
    obtain⟨j,hj,rfl⟩:=(h2 x).1 hx;have hne:m=0∨d[m]! ≠ d[m-1]!:=by simpa [Go.Lib.keeps] using hk
    have hmne:d[m]! ≠ d[m-1]!:=by
     rcases hne with h|h
     ·omega
     ·exact h
    have a1:d[j]!≤d[m-1]!:=by
     rcases Nat.lt_or_ge j (m-1) with h|h
     ·exact hs j (m-1) h (by omega)
     ·have:j=m-1:=by omega
      subst this;exact jY _
    have a2:=hs (m-1) m (by omega) (by omega);omega
   ·rw[List.mem_append,h2];constructor
    ·rintro(⟨j,hj,rfl⟩|hx)
     ·exact⟨j,by omega,rfl⟩
     ·exact⟨m,by omega,by simpa using Eq.symm (by simpa using hx)⟩
    ·rintro⟨j,hj,rfl⟩;rcases Nat.lt_or_ge j m with h|h
     ·exact .inl ⟨j,h,rfl⟩
     ·have:j=m:=by omega
      subst this;exact .inr (by simp)
  | false=>
   simp only[Bool.false_eq_true,if_false,jU];refine⟨h1,fun x=>?_⟩;rw[h2];have hne:¬ (m=0∨d[m]! ≠ d[m-1]!):=by simpa [Go.Lib.keeps] using hk
   have hm0:m ≠ 0:=fun h=>hne (.inl h);have heq:d[m]! = d[m-1]!:=Classical.byContradiction fun h=>hne (.inr h);constructor
   ·rintro⟨j,hj,rfl⟩;exact⟨j,by omega,rfl⟩
   ·rintro⟨j,hj,rfl⟩;rcases Nat.lt_or_ge j m with h|h
    ·exact⟨j,h,rfl⟩
    ·have:j=m:=by omega
     subst this;exact⟨j-1,by omega,heq.symm⟩
theorem qso {xs:List Int}:(compI (sortI xs)).Pairwise (·<·)∧∀ x,x ∈ compI (sortI xs)↔x ∈ xs:=by
 have hsorted:(sortI xs).Pairwise (fun x y=>decide (x≤y)=true):=List.pairwise_mergeSort (fun a b c h1 h2=>by simp only[decide_eq_true_eq] at *;omega) (fun a b=>by simp only[Bool.or_eq_true,decide_eq_true_eq];omega) xs;have hs:∀ i j,i<j→j<(sortI xs).toArray.size→(sortI xs).toArray[i]!≤(sortI xs).toArray[j]!:=fun i j hij hj=>by
  have hj':j<(sortI xs).length:=by simpa using hj
  have:=List.pairwise_iff_getElem.1 hsorted i j (by omega) hj' hij;simp only[decide_eq_true_eq] at this;rw[getElem!_pos _ j hj,getElem!_pos _ i (by omega)];simpa using this
 obtain⟨h1,h2⟩:=qz8 hs (sortI xs).toArray.size (je _);have e:compI (sortI xs)=Go.Lib.compactUpTo (sortI xs).toArray (sortI xs).toArray.size:=by unfold compI Go.Lib.compact;simp
 rw[e];refine⟨h1,fun x=>?_⟩;rw[h2];have hp:(sortI xs).Perm xs:=List.mergeSort_perm _ _;rw[←hp.mem_iff];constructor
 ·rintro⟨j,hj,rfl⟩;rw[getElem!_pos _ j hj];simp
 ·intro hx;obtain⟨j,hj,rfl⟩:=List.mem_iff_getElem.1 hx;exact⟨j,by simpa using hj,by rw[getElem!_pos _ j (by simpa using hj)];simp⟩
theorem qwt {q r:Nat→Bool}{m:Nat}:compI (sortI (ints (selN q m)++ints (selN r m)))=ints (selN (fun k=>q k || r k) m):=by
 refine qvq qso.1 qrj fun x=>?_;rw[qso.2,List.mem_append,qlu,qlu,qlu];simp only[qky,Bool.or_eq_true];constructor
 ·rintro(⟨k,⟨h1,h2⟩,rfl⟩|⟨k,⟨h1,h2⟩,rfl⟩)
  ·exact⟨k,⟨h1,.inl h2⟩,rfl⟩
  ·exact⟨k,⟨h1,.inr h2⟩,rfl⟩
 ·rintro⟨k,⟨h1,h2|h2⟩,rfl⟩
  ·exact .inl ⟨k,⟨h1,h2⟩,rfl⟩
  ·exact .inr ⟨k,⟨h1,h2⟩,rfl⟩
end Go.Fw


namespace Go.Fw
open Go
open Go.RowKit (Below)
section
variable {P:Program}{T:Tab}{n:Nat}{Q:Exit→Act→World→Prop}{k:List It}{e:Env}{w0 w:World}{L:List Ch}
variable {α:Type}[GoT α]{S S1:Nat→Prop}{xs ys:List α}{p p':Option Addr}{c c':Nat}
end
section
variable {α β γ:Type}
def Emp (o:Option (List α)):Prop:=∀ r,o=V r→r=[]
theorem Emp.none:Emp (U:Option (List α)):=fun _ h=>by cases h
theorem Emp.noneB {f:β→Option (List α)}:Emp ((Option.none:Option β).bind f):=fun _ h=>by cases h
theorem Emp.nil:Emp (V ([]:List α)):=fun _ h=>(Option.some.inj h).symm
theorem Emp.bif {c:Bool}{a b:Option (List α)}(h1:Emp a)(h2:Emp b):Emp (bif c then a else b):=by cases c<;>assumption
theorem Emp.sub {xs:List β}{lo:Int}{f:List β→Option (List α)}(h:Emp (f [])):Emp ((subS xs lo ((0:Nat):Int)).bind f):=fun r hr=>by
 cases hs:subS xs lo ((0:Nat):Int) with
 | none=>rw[hs] at hr;cases hr
 | some y=>
  rw[hs] at hr;obtain⟨_,_,_,e⟩:=qo0 hs;have:y=[]:=by rw[←e];simp
  subst this;exact h r hr
theorem Emp.bind {x:Option β}{f:β→Option (List α)}(h:∀ y,Emp (f y)):Emp (x.bind f):=by
 cases x with
 | none=>exact Emp.noneB
 | some y=>exact h y
end
end Go.Fw


namespace Go.Fw
open Go
section
variable {ε:Type}
variable {ρ σ τ:Type}
end
end Go.Fw


namespace Go.Fw
open Go
theorem qtt {q a:Nat→Bool}{m:Nat}:(selN q m).length≤(selN (fun k=>q k || a k) m).length:=by
 unfold selN
 induction List.range m with
 | nil=>simp
 | cons x l ih=>
  rw[List.filter_cons,List.filter_cons];cases hq:q x
  ·cases a x
   ·simpa using ih
   ·simp only[Jj,if_true,Bool.false_eq_true,if_false,Je];omega
  ·simp only[Bool.true_or,if_true,Je];omega
end Go.Fw


namespace Go.Fw
open Go
open Go.RowKit (Below)
structure Same where
 w:World
 K:Nat→Prop
instance instSame:GoT Same where
 k:=1
 agg:=false
 zero:=⟨default,fun _=>False⟩
 zc:=[.bool true]
 R w S x cs:=cs=[.bool true]∧∀ b,x.K b→S b∧w.heap[b]?=x.w.heap[b]?
 O w S x cs:=cs=[.bool true]∧∀ b,x.K b→S b∧w.heap[b]?=x.w.heap[b]?
 kpos:=by decide
 noagg _:=rfl
 len h:=by obtain⟨rfl,_⟩:=h;rfl
 one h:=by obtain⟨rfl,_⟩:=h;simp[Value.oneCell']
 loc h hs:=⟨h.1,fun b hb=>⟨(h.2 b hb).1,(hs b (h.2 b hb).1).trans (h.2 b hb).2⟩⟩
 mono h hs:=⟨h.1,fun b hb=>⟨hs b (h.2 b hb).1,(h.2 b hb).2⟩⟩
 toR h:=h
 locO h hs:=⟨h.1,fun b hb=>⟨(h.2 b hb).1,(hs b (h.2 b hb).1).trans (h.2 b hb).2⟩⟩
 monoO h hs:=⟨h.1,fun b hb=>⟨hs b (h.2 b hb).1,(h.2 b hb).2⟩⟩
 zO _ _:=⟨rfl,fun _ h=>h.elim⟩
def FS (F:List Ch)(b:Nat):Prop:=∃ d,d ∈ F∧d.S b
abbrev Fr (w0:World)(F:List Ch)(b:Nat):Prop:=FS F b∨old w0 b
abbrev same (w0 w:World)(F:List Ch):Fct:=fct (⟨w,Fr w0 F⟩:Same) [.bool true]
section
variable {P:Program}{T:Tab}{n:Nat}{Q:Exit→Act→World→Prop}{k:List It}{e:Env}{w0 w w':World}{L L' F:List Ch}
theorem SH.frame (L:List Ch)(h:SH w0 w (L++F)):SH w0 w (L++[Ch.grp (Fw.old w0) (FS F) [same w0 w F]]):=by
 have hp:=List.pairwise_append.1 h.apart;refine⟨h.below,fun c hc=>?_,fun c hc=>?_,List.pairwise_append.2 ⟨hp.1,List.pairwise_singleton ..,fun c hc d hd b hb=>?_⟩⟩
 ·rcases List.mem_append.1 hc with hc|hc
  ·exact h.holds c (jS _ hc)
  ·obtain rfl:=List.mem_singleton.1 hc;refine⟨fun f hf=>?_,fun b hb=>?_⟩
   ·obtain rfl:=List.mem_singleton.1 hf;exact⟨rfl,fun b hb=>⟨hb,rfl⟩⟩
   ·obtain⟨d,hd,hb⟩:=hb;exact(h.holds d (List.mem_append_right _ hd)).2 b hb
 ·rcases List.mem_append.1 hc with hc|hc
  ·exact h.elder c (jS _ hc)
  ·obtain rfl:=List.mem_singleton.1 hc;exact fun b hb=>hb
 ·obtain rfl:=List.mem_singleton.1 hd;rintro⟨d,hd,hdb⟩;exact hp.2.2 c hc d hd b hb hdb
variable {α:Type}[GoT α]{x:α}{cs:List Value}{S D:Nat→Prop}{fs:List Fct}
end
section
open Go.ChangeShapes Go.RowKit
variable {H:Type}{enc:TypeId×Value→H}{P:Program}{w:World}{base:Nat}{spare:Nat→Bool}{held:Bool}
theorem qud {t0 t1 t2 t3 t4:TypeId}{args:Array Value}{ds:List (DataW H)}{ps:List MemPlace}(h:DataW.TrodAll enc P w base spare held [t0,t1,t2,t3,t4] args.toList ds ps) :
  ∃ v0 v1 v2 v3 v4 d0 d1 d2 d3 d4 p0 p1 p2 p3 p4,args=#[v0,v1,v2,v3,v4]∧ds=[d0,d1,d2,d3,d4]∧ps=p0++p1++p2++p3++p4∧DataW.Trod enc P w base spare held t0 v0 d0 p0∧DataW.Trod enc P w base spare held t1 v1 d1 p1∧DataW.Trod enc P w base spare held t2 v2 d2 p2∧DataW.Trod enc P w base spare held t3 v3 d3 p3∧DataW.Trod enc P w base spare held t4 v4 d4 p4:=by
 obtain⟨v0,vs0,d0,ds0,p0,q0,hargs,rfl,rfl,g0,k0⟩:=trodAll_cons h;obtain⟨v1,vs1,d1,ds1,p1,q1,rfl,rfl,rfl,g1,k1⟩:=trodAll_cons k0;obtain⟨v2,vs2,d2,ds2,p2,q2,rfl,rfl,rfl,g2,k2⟩:=trodAll_cons k1;obtain⟨v3,vs3,d3,ds3,p3,q3,rfl,rfl,rfl,g3,k3⟩:=trodAll_cons k2;obtain⟨v4,vs4,d4,ds4,p4,q4,rfl,rfl,rfl,g4,k4⟩:=trodAll_cons k3;obtain⟨rfl,rfl,rfl⟩:=trodAll_nil k4;exact⟨v0,v1,v2,v3,v4,d0,d1,d2,d3,d4,p0,p1,p2,p3,p4,by cases args;simp_all,rfl,by simp,g0,g1,g2,g3,g4⟩
end
end Go.Fw


namespace Go.Fw
open Go
open Go.RowKit (Below)
section
variable {P:Program}{T:Tab}{n:Nat}{Q:Exit→Act→World→Prop}{k:List It}{e:Env}{w0 w w':World}{L:List Ch}
variable {α β:Type}[GoT α][GoT β]{S Sr Se D:Nat→Prop}{xs ys:List α}{p p':Option Addr}{c c':Nat}{fs:List Fct}{x:α}{cs:List Value}
theorem RAll.loc {A:Nat→Prop}:∀ {xs:List α} {rs:List (Raw α)},RAll w A xs rs→(∀ b,A b→w'.heap[b]?=w.heap[b]?)→RAll w' A xs rs
 | [],[],_,_=>trivial
 | _::_,[],h,_=>h.elim
 | [],_::_,h,_=>h.elim
 | _::_,_::_,h,hb=>⟨GoT.loc h.1 hb,RAll.loc h.2 hb⟩
theorem RAll.mono {A B:Nat→Prop}(hb:∀ b,A b→B b):∀ {xs:List α} {rs:List (Raw α)},RAll w A xs rs→RAll w B xs rs
 | [],[],_=>trivial
 | _::_,[],h=>h.elim
 | [],_::_,h=>h.elim
 | _::_,_::_,h=>⟨GoT.mono h.1 hb,RAll.mono hb h.2⟩
theorem RAll.app {A:Nat→Prop}:∀ {xs:List α} {rs:List (Raw α)} {ys:List α} {qs:List (Raw α)},RAll w A xs rs→RAll w A ys qs→RAll w A (xs++ys) (rs++qs)
 | [],[],_,_,_,h=>h
 | _::_,[],_,_,h,_=>h.elim
 | [],_::_,_,_,h,_=>h.elim
 | _::_,_::_,_,_,h,h'=>⟨h.1,RAll.app h.2 h'⟩
theorem RAll.of {A:Nat→Prop}:∀ {xs:List α} {rs:List (Raw α)},xs.length=rs.length→(∀ (i:Nat) (x:α) (r:Raw α),xs[i]?=V x→rs[i]?=V r→GoT.R w A x r.cs)→RAll w A xs rs
 | [],[],_,_=>trivial
 | _::_,[],h,_=>by cases h
 | [],_::_,h,_=>by cases h
 | x::xs,r::rs,h,ha=>⟨ha 0 x r Z Z,RAll.of (by simpa using h) fun i y q hy hq=>ha (i+1) y q (by simpa using hy) (by simpa using hq)⟩
theorem RAll.len {A:Nat→Prop}{rs:List (Raw α)}(h:RAll w A xs rs):xs.length=rs.length:=h.at.1
end
end Go.Fw


namespace Go.Fw
open Go
end Go.Fw


namespace Go.Fw
open Go
open Go.RowKit (Below)
section
variable {P:Program}{T:Tab}{n:Nat}{Q:Exit→Act→World→Prop}{k:List It}{e:Env}{w0 w w':World}{L:List Ch}
theorem qsV {z:Array Value}{m:Nat}:Builtin.zeroCells z m=madeCells z (m*z.size):=rfl
theorem qqS (t t2 ty el:TypeId)(k2:IntKind)(i:TypeInfo)(z:Value)(ht:P.underlying t=V (.slice el))(ht2:P.underlying t2=V (.int k2))(hi:P.info? el=V i)(hz:i.zero=V z)(hs0:0<i.size)
  (kd:IntKind) (m:Nat) (hm:0<m) (hbig:m≤big) (hfit:m*i.bytes≤281474976710656) :
  (Builtin.append_ #[t,t2] ty #[.slice U 0 0,.int kd (m:Int)]).run P w =
   .ok (.slice (V ⟨w.heap.size,0,U⟩) m (grownCap w m 0 el))
    (w.drew.alloc (.cells (Builtin.zeroCells z.cells m++Builtin.zeroCells z.cells (grownCap w m 0 el-m)) el)):=by
 unfold big at hbig;have hw:IntKind.i64.wrap (m:Int)=(m:Int):=by
  rw[Go.IntWalk.i64_left];exact Go.IntWalk.wrap64_in _ ⟨by omega,by omega⟩
 have hneg:¬ ((m:Int)<0):=by omega
 have hfi:¬ (281474976710656<(m:Int)*(i.bytes:Int)):=by
  have:((m*i.bytes:Nat):Int)≤281474976710656:=by omega
  rw[Int.natCast_mul] at this;omega
 have hm0:¬ (m*i.size=0):=Nat.ne_of_gt (Nat.mul_pos hm hs0);have hmz:¬ (m=0):=by omega
 have hsz:¬ (i.size=0):=by omega
 have hnc:Builtin.nextslicecap m 0=m:=by simp[Builtin.nextslicecap];omega
 have h63':¬ (9223372036854775807<(m:Int)):=by omega
 have h48':¬ (281474976710656<m*i.bytes):=by omega
 simp[Builtin.append_,run_underlying ht,run_underlying ht2,sizeOf,typeInfo,zeroValue,hi,hz,asInt,asIntOf,hw,hneg,hfi,hmz,hsz,h63',hnc,h48',Question.forced,newRow,grownCap,Builtin.firstCells];intro h;exact absurd h hm0
theorem qAK (hT:TabOk P T)(α:Type)[GoT α]{all:Array Oper}{l:List Oper}{d t t2 ty el:Nat}{ps:String}{af:Array Edge}{te te' te2:TE}{x y:Operand}{kd k2:IntKind}{nv:Int}{zv:Value}{z:List α}
  (h:SH w0 w L) (hx:opv e x=V (.slice U 0 0)) (hy:opv e y=V (.int kd nv)) (hte:T.get t=V te) (hk:te.kind=.slice el) (ht2:T.get t2=V te2) (hk2:te2.kind=.int k2) (hel:T.get el=V te') (hz:te'.zero=V zv) (hzc:cellsL zv=GoT.zc α) (hsz:te'.size=GoT.k α)
  (hb:Nat.ble te'.bytes 65536=true) (h0:0≤nv) (hbig:nv≤big) (hz':List.replicate nv.toNat (GoT.zero:α)=z) (hn:Nat.blt d n=true)
  (hkk:∀ w' S p c,SH w0 w' (Ch.own S z [.slice p z.length c]::L)→Run P n Q (.ops all l::k) ((d,.slice p z.length c)::e) w') :
  Run P n Q (.ops all (⟨V d,.call ⟨.builtin .append,#[x,y],#[t,t2]⟩,ty,ps,af,U⟩::l)::k) e w:=by
 subst hz';obtain⟨m,rfl⟩:∃ m:Nat,nv=(m:Int):=⟨nv.toNat,by omega⟩;rw[jn,jK] at hkk;have hbig':m≤big:=by omega
 obtain⟨i,hi,hs,hby,hzi⟩:=qgM (hT _ _ hel);have hb':=jp hb;have hsl:=qdR (hT _ _ hte) hk;have hin:=qqr (hT _ _ ht2) hk2;have hzl:zv.cells=(GoT.zc α).toArray:=by rw[←hzc,←qdM]
 have hzl':(GoT.zc α).length=GoT.k α:=GoT.len (GoT.toR (GoT.zO w (fun _=>False) (α:=α)));have hs0:0<i.size:=by rw[hs,hsz];exact GoT.kpos
 rcases Nat.eq_zero_or_pos m with rfl|hm
 ·have hr:(Builtin.append_ #[t,t2] ty #[.slice U 0 0,.int kd ((0:Nat):Int)]).run P w=.ok (.slice U 0 0) w:=by
   have hw:IntKind.i64.wrap (0:Int)=0:=rfl;simp[Builtin.append_,run_underlying hsl,run_underlying hin,sizeOf,typeInfo,hi,asInt,asIntOf,hw]
  refine qot (v:=.slice U 0 0) (w':=w) Z Z hn (fun a ha=>?_) (hkk w (fun _=>False) U 0 (h.add (Below.refl _ _) ?_ (fun _ hb=>hb.elim) (fun _ hd=>hd.elim)))
  ·simp only[execOp,resolve,invoke,builtin,jj,jm,jg,List.map_toArray,Jg,List.map_nil,ha.eval hx,ha.eval hy,hr]
  ·exact⟨U,0,by simp,by simp,by simp,.inl ⟨rfl,by simp,rfl⟩⟩
 ·have hfit:m*i.bytes≤281474976710656:=by
   have:m*i.bytes≤2147483648*65536:=Nat.mul_le_mul hbig' (by omega);omega
  have hr:=qqS (P:=P) (w:=w) t t2 ty el k2 i zv hsl hin hi (hzi.trans hz) hs0 kd m hm hbig' hfit;have hge:=grownCap_ge w m 0 el;have hcm:=grownCap_le_maxLen w m 0 el (by unfold big at hbig';simp[maxLen];omega);rw[hzl] at hr;refine qot (v:=.slice (V ⟨w.heap.size,0,U⟩) m (grownCap w m 0 el)) Z Z hn (fun a ha=>?_) (hkk _ (fun b=>b=w.heap.size) _ _ (h.add (w':=w.drew.alloc (.cells (Builtin.zeroCells (GoT.zc α).toArray m++Builtin.zeroCells (GoT.zc α).toArray (grownCap w m 0 el-m)) el)) ?_ ?_ ?_ (fun _ hd=>hd.elim)))
  ·simp only[execOp,resolve,invoke,builtin,jj,jm,jg,List.map_toArray,Jg,List.map_nil,ha.eval hx,ha.eval hy,hr]
  ·exact(Below.refl _ w).drew.alloc (je _) _
  ·refine⟨V ⟨w.heap.size,0,U⟩,_,by simp,by simpa using hge,hcm,.inr ⟨w.heap.size,_,el,fun _ _=>False,rfl,rfl,heap_alloc_new w.drew _,?_,?_,?_,?_⟩⟩
   ·simp only[Array.size_append,size_zeroCells,jJ,hzl',←Nat.add_mul]
    congr 1
    omega
   ·intro _ _ hf;exact hf.elim
   ·intro _ _ _ _ hf;exact hf.elim
   ·intro j x hj;rw[List.getElem?_replicate] at hj;split at hj
    ·rename_i hlt
     simp only[Option.some.injEq] at hj;subst hj;refine⟨_,GoT.zO _ _,fun r v hr'=>?_⟩;have:=qp7 (z:=GoT.zc α) (m:=m) (i:=j) (j:=r) (v:=v) (by rw[hzl'];exact GoT.kpos) hlt hr';rw[hzl'] at this;rw[jA (by rw[size_zeroCells,jJ,hzl'];have h1:=(List.getElem?_eq_some_iff.1 hr').1;rw[hzl'] at h1;have:=qkG (m:=GoT.k α) hlt;omega),qsV,jJ,hzl'];exact this
    ·cases hj
  ·intro b hb;have:b=w.heap.size:=hb;subst this;exact⟨je _,by simp⟩
end
end Go.Fw


namespace Go.Fw
open Go Go.Proofs Go.Proofs.Tryz
open Go.RowKit (Below)
set_option maxRecDepth 100000
set_option maxHeartbeats 1600000
variable {n:Nat}{w:World}{S:Nat→Prop}{cs1 cs2 cs3 cs4 cs5 cs6 cs7 cs8 cs9:List Value}
structure qat where
 Az:ByteArray
 Bs:Int
 Bq:Int
 Bn:Bool
instance gt_TPin:GoT qat:=isoT (pairT instStr (pairT instInt (pairT instInt instBool))) (fun x=>(x.Az,x.Bs,x.Bq,x.Bn)) ⟨ByteArray.empty,0,0,false⟩ Z true (fun h=>by cases h)
instance fl_TPin:Flat qat:=qhV (pairT instStr (pairT instInt (pairT instInt instBool))) (fun x:qat=>(x.Az,x.Bs,x.Bq,x.Bn)) ⟨ByteArray.empty,0,0,false⟩ Z true (fun h=>by cases h) (qbe _ _ (inferInstanceAs (Flat ByteArray)) (qbe _ _ (inferInstanceAs (Flat Int)) (qbe _ _ (inferInstanceAs (Flat Int)) (inferInstanceAs (Flat Bool)))))
abbrev qqB (x:qat):List Value:=[.string x.Az,.int .i64 x.Bs,.int .i64 x.Bq,.bool x.Bn]
theorem qa5 {x:qat}{cs:List Value}(h:GoT.R w S x cs):cs=(qqB x):=by
 obtain⟨_,_,rfl,rfl,⟨_,_,rfl,rfl,⟨_,_,rfl,rfl,rfl⟩⟩⟩:=h;exact Z
theorem qev (x:qat):GoT.R w S x (qqB x):=have h:=pR (rT x.Az) (pR (rI x.Bs) (pR (rI x.Bq) (rB x.Bn)));h
structure qx where
 Bi:(List Int)
 Bb:(List Int)
 Ba:(List Int)
instance gt_TTable:GoT qx:=isoT (pairT (@instList Int instInt) (pairT (@instList Int instInt) (@instList Int instInt))) (fun x=>(x.Bi,x.Bb,x.Ba)) ⟨[],[],[]⟩ Z true (fun h=>by cases h)
abbrev qhH (x:qx)(p0 p1 p2:Option Addr)(k0 k1 k2:Nat):List Value:=[.slice p0 (x.Bi).length k0,.slice p1 (x.Bb).length k1,.slice p2 (x.Ba).length k2]
theorem qaK {x:qx}{cs:List Value}(h:GoT.R w S x cs):∃ d a f b g c,cs=(qhH x d f g a b c)∧SlR w S x.Bi d a∧SlR w S x.Bb f b∧SlR w S x.Ba g c:=by
 obtain⟨_,_,rfl,⟨d,a,rfl,i⟩,⟨_,_,rfl,⟨f,b,rfl,k⟩,⟨g,c,rfl,s2⟩⟩⟩:=h;exact⟨d,a,f,b,g,c,rfl,i,k,s2⟩
theorem qf0 (x:qx){d f g:Option Addr}{a b c:Nat}(i:SlR w S x.Bi d a)(k:SlR w S x.Bb f b)(s2:SlR w S x.Ba g c):GoT.R w S x (qhH x d f g a b c):=have h:=pR (rS i) (pR (rS k) (rS s2));h
theorem quR {w0:World}{L:List Ch}{x:qx}{l n o:Option Addr}{g a i d k f:Nat}(h:SH w0 w (Ch.own S x [.slice l g a,.slice n i d,.slice o k f]::L)):∃ p S1 S2,SH w0 w (Ch.own S2 x.Ba [.slice o k f]::Ch.own S1 x.Bb [.slice n i d]::Ch.own p x.Bi [.slice l g a]::L):=by
 obtain⟨hv,ho⟩:=h.headV;replace ho:GoT.O w S x _:=ho;obtain⟨A0,B0,_,_,he,r,ho,a0,b0⟩:=ho;obtain⟨q,m,rfl,t⟩:=r;cases he;replace hv:=hv.push (c:=Ch.own A0 x.Bi [_]) (S2:=B0) ⟨_,_,rfl,t⟩ (fun _ hd=>hd.elim) a0 b0;obtain⟨A1,B1,_,_,he,s,ho,a1,b1⟩:=ho;obtain⟨q,m,rfl,u⟩:=s;cases he;replace hv:=hv.push (c:=Ch.own A1 x.Bb [_]) (S2:=B1) ⟨_,_,rfl,u⟩ (fun _ hd=>hd.elim) a1 b1;obtain⟨q,m,he,s2⟩:=ho;cases he;replace hv:=hv.push (c:=Ch.own B1 x.Ba [_]) (S2:=(fun _=>False)) ⟨_,_,rfl,s2⟩ (fun _ hd=>hd.elim) (fun b hb=>⟨hb,fun h=>h⟩) (fun _ h=>h.elim);exact⟨A0,A1,B1,hv.sh⟩
theorem qtE {w0:World}{L:List Ch}(x:qx){I0 I1 I2:List Nat}{a b c:List Value}(h:SH w0 w L)(d:PO w L I0 x.Bi a)(f:PO w L I1 x.Bb b)(g:PO w L I2 x.Ba c)(b0:apartB I0 (I1++I2)=true)(b1:apartB I1 I2=true):PO w L (I0++(I1++I2)) x (a++(b++c)):=
 (qcR h d (qcR h f g b1) b0)
structure qL where
 Ay:Int
 Bf:Int
 To:Int
 Bl:Int
 Bj:(List qx)
 Aq:(List qx)
instance gt_TArc:GoT qL:=isoT (pairT instInt (pairT instInt (pairT instInt (pairT instInt (pairT (@instList qx gt_TTable) (@instList qx gt_TTable)))))) (fun x=>(x.Ay,x.Bf,x.To,x.Bl,x.Bj,x.Aq)) ⟨0,0,0,0,[],[]⟩ Z true (fun h=>by cases h)
abbrev qh3 (x:qL)(p0 p1:Option Addr)(k0 k1:Nat):List Value:=[.int .i64 x.Ay,.int .i64 x.Bf,.int .i64 x.To,.int .i64 x.Bl,.slice p0 (x.Bj).length k0,.slice p1 (x.Aq).length k1]
theorem qaq {x:qL}{cs:List Value}(h:GoT.R w S x cs):∃ c a d b,cs=(qh3 x c d a b)∧SlR w S x.Bj c a∧SlR w S x.Aq d b:=by
 obtain⟨_,_,rfl,rfl,⟨_,_,rfl,rfl,⟨_,_,rfl,rfl,⟨_,_,rfl,rfl,⟨_,_,rfl,⟨c,a,rfl,f⟩,⟨d,b,rfl,g⟩⟩⟩⟩⟩⟩:=h;exact⟨c,a,d,b,rfl,f,g⟩
theorem qgo (x:qL){c d:Option Addr}{a b:Nat}(f:SlR w S x.Bj c a)(g:SlR w S x.Aq d b):GoT.R w S x (qh3 x c d a b):=have h:=pR (rI x.Ay) (pR (rI x.Bf) (pR (rI x.To) (pR (rI x.Bl) (pR (rS f) (rS g)))));h
theorem qwI {w0:World}{L:List Ch}{x:qL}{i k:Option Addr}{f a g d:Nat}(h:SH w0 w (Ch.own S x [.int .i64 x.Ay,.int .i64 x.Bf,.int .i64 x.To,.int .i64 x.Bl,.slice i f a,.slice k g d]::L)):∃ l S1,SH w0 w (Ch.own S1 x.Aq [.slice k g d]::Ch.own l x.Bj [.slice i f a]::L):=by
 obtain⟨hv,ho⟩:=h.headV;replace ho:GoT.O w S x _:=ho;obtain⟨_,_,_,_,he,r,ho,_,b0⟩:=ho;obtain rfl:=r;cases he;replace hv:=hv.less b0;obtain⟨_,_,_,_,he,s,ho,_,b1⟩:=ho;obtain rfl:=s;cases he;replace hv:=hv.less b1;obtain⟨_,_,_,_,he,t,ho,_,b2⟩:=ho;obtain rfl:=t;cases he;replace hv:=hv.less b2;obtain⟨_,_,_,_,he,u,ho,_,o⟩:=ho;obtain rfl:=u;cases he;replace hv:=hv.less o;obtain⟨A4,B4,_,_,he,v,ho,n,p⟩:=ho;obtain⟨q,m,rfl,y⟩:=v;cases he;replace hv:=hv.push (c:=Ch.own A4 x.Bj [_]) (S2:=B4) ⟨_,_,rfl,y⟩ (fun _ hd=>hd.elim) n p;obtain⟨q,m,he,z⟩:=ho;cases he;replace hv:=hv.push (c:=Ch.own B4 x.Aq [_]) (S2:=(fun _=>False)) ⟨_,_,rfl,z⟩ (fun _ hd=>hd.elim) (fun b hb=>⟨hb,fun h=>h⟩) (fun _ h=>h.elim);exact⟨A4,B4,hv.sh⟩
theorem qw7 {w0:World}{L:List Ch}(x:qL){I0 I1 I2 I3 I4 I5:List Nat}{a b c d f g:List Value}(h:SH w0 w L)(l:PO w L I0 x.Ay a)(m:PO w L I1 x.Bf b)(n:PO w L I2 x.To c)(o:PO w L I3 x.Bl d)(p:PO w L I4 x.Bj f)(r:PO w L I5 x.Aq g)(b0:apartB I0 (I1++(I2++(I3++(I4++I5))))=true)(b1:apartB I1 (I2++(I3++(I4++I5)))=true)(b2:apartB I2 (I3++(I4++I5))=true)(i:apartB I3 (I4++I5)=true)(k:apartB I4 I5=true):PO w L (I0++(I1++(I2++(I3++(I4++I5))))) x (a++(b++(c++(d++(f++g))))):=
 (qcR h l (qcR h m (qcR h n (qcR h o (qcR h p r k) i) b2) b1) b0)
structure qA where
 Az:ByteArray
 Ay:Int
 Av:(List qat)
 As:(List qL)
 Bk:(List Int)
 Bx:Int
 Br:Int
instance gt_TCell:GoT qA:=isoT (pairT instStr (pairT instInt (pairT (@instList qat gt_TPin) (pairT (@instList qL gt_TArc) (pairT (@instList Int instInt) (pairT instInt instInt)))))) (fun x=>(x.Az,x.Ay,x.Av,x.As,x.Bk,x.Bx,x.Br)) ⟨ByteArray.empty,0,[],[],[],0,0⟩ Z true (fun h=>by cases h)
abbrev qeB (x:qA)(p0 p1 p2:Option Addr)(k0 k1 k2:Nat):List Value:=[.string x.Az,.int .i64 x.Ay,.slice p0 (x.Av).length k0,.slice p1 (x.As).length k1,.slice p2 (x.Bk).length k2,.int .i64 x.Bx,.int .i64 x.Br]
theorem qal {x:qA}{cs:List Value}(h:GoT.R w S x cs):∃ d a f b g c,cs=(qeB x d f g a b c)∧SlR w S x.Av d a∧SlR w S x.As f b∧SlR w S x.Bk g c:=by
 obtain⟨_,_,rfl,rfl,⟨_,_,rfl,rfl,⟨_,_,rfl,⟨d,a,rfl,i⟩,⟨_,_,rfl,⟨f,b,rfl,k⟩,⟨_,_,rfl,⟨g,c,rfl,s2⟩,⟨_,_,rfl,rfl,rfl⟩⟩⟩⟩⟩⟩:=h;exact⟨d,a,f,b,g,c,rfl,i,k,s2⟩
theorem qlq (x:qA){d f g:Option Addr}{a b c:Nat}(i:SlR w S x.Av d a)(k:SlR w S x.As f b)(s2:SlR w S x.Bk g c):GoT.R w S x (qeB x d f g a b c):=have h:=pR (rT x.Az) (pR (rI x.Ay) (pR (rS i) (pR (rS k) (pR (rS s2) (pR (rI x.Bx) (rI x.Br))))));h
theorem qvA {w0:World}{L:List Ch}{x:qA}{k l n:Option Addr}{f a g b i d:Nat}(h:SH w0 w (Ch.own S x [.string x.Az,.int .i64 x.Ay,.slice k f a,.slice l g b,.slice n i d,.int .i64 x.Bx,.int .i64 x.Br]::L)):∃ o S1 S2,SH w0 w (Ch.own S2 x.Bk [.slice n i d]::Ch.own S1 x.As [.slice l g b]::Ch.own o x.Av [.slice k f a]::L):=by
 obtain⟨hv,ho⟩:=h.headV;replace ho:GoT.O w S x _:=ho;obtain⟨_,_,_,_,he,v,ho,_,b0⟩:=ho;obtain rfl:=v;cases he;replace hv:=hv.less b0;obtain⟨_,_,_,_,he,y,ho,_,b1⟩:=ho;obtain rfl:=y;cases he;replace hv:=hv.less b1;obtain⟨A2,B2,_,_,he,z,ho,a2,b2⟩:=ho;obtain⟨q,m,rfl,D⟩:=z;cases he;replace hv:=hv.push (c:=Ch.own A2 x.Av [_]) (S2:=B2) ⟨_,_,rfl,D⟩ (fun _ hd=>hd.elim) a2 b2;obtain⟨A3,B3,_,_,he,A,ho,p,s⟩:=ho;obtain⟨q,m,rfl,F⟩:=A;cases he;replace hv:=hv.push (c:=Ch.own A3 x.As [_]) (S2:=B3) ⟨_,_,rfl,F⟩ (fun _ hd=>hd.elim) p s;obtain⟨A4,B4,_,_,he,B,ho,r,t⟩:=ho;obtain⟨q,m,rfl,s2⟩:=B;cases he;replace hv:=hv.push (c:=Ch.own A4 x.Bk [_]) (S2:=B4) ⟨_,_,rfl,s2⟩ (fun _ hd=>hd.elim) r t;obtain⟨_,_,_,_,he,C,ho,_,u⟩:=ho;obtain rfl:=C;cases he;replace hv:=hv.less u;exact⟨A2,A3,A4,hv.sh⟩
theorem qvf {w0:World}{L:List Ch}(x:qA){I0 I1 I2 I3 I4 I5 I6:List Nat}{a b c d f g i:List Value}(h:SH w0 w L)(n:PO w L I0 x.Az a)(o:PO w L I1 x.Ay b)(p:PO w L I2 x.Av c)(r:PO w L I3 x.As d)(s:PO w L I4 x.Bk f)(t:PO w L I5 x.Bx g)(u:PO w L I6 x.Br i)(b0:apartB I0 (I1++(I2++(I3++(I4++(I5++I6)))))=true)(b1:apartB I1 (I2++(I3++(I4++(I5++I6))))=true)(b2:apartB I2 (I3++(I4++(I5++I6)))=true)(k:apartB I3 (I4++(I5++I6))=true)(l:apartB I4 (I5++I6)=true)(m:apartB I5 I6=true):PO w L (I0++(I1++(I2++(I3++(I4++(I5++I6)))))) x (a++(b++(c++(d++(f++(g++i)))))):=
 (qcR h n (qcR h o (qcR h p (qcR h r (qcR h s (qcR h t u m) l) k) b2) b1) b0)
structure qt where
 Ap:(List qA)
instance gt_TLibrary:GoT qt:=isoT (@instList qA gt_TCell) (fun x=>x.Ap) ⟨[]⟩ Z true (fun h=>by cases h)
theorem qbN {x:qt}{cs:List Value}(h:GoT.R w S x cs):∃ b a,cs=[.slice b (x.Ap).length a]∧SlR w S x.Ap b a:=by
 obtain⟨b,a,rfl,c⟩:=h;exact⟨b,a,rfl,c⟩
theorem qez (x:qt){b:Option Addr}{a:Nat}(c:SlR w S x.Ap b a):GoT.R w S x [.slice b (x.Ap).length a]:=have h:=rS c;h
theorem qhM {w0:World}{L:List Ch}{x:qt}{f:Option Addr}{d a:Nat}(h:SH w0 w (Ch.own S x [.slice f d a]::L)):∃ g,SH w0 w (Ch.own g x.Ap [.slice f d a]::L):=by
 obtain⟨hv,ho⟩:=h.headV;replace ho:GoT.O w S x _:=ho;obtain⟨q,m,he,i⟩:=ho;cases he;replace hv:=hv.push (c:=Ch.own S x.Ap [_]) (S2:=(fun _=>False)) ⟨_,_,rfl,i⟩ (fun _ hd=>hd.elim) (fun b hb=>⟨hb,fun h=>h⟩) (fun _ h=>h.elim);exact⟨S,hv.sh⟩
theorem qu0 {w0:World}{L:List Ch}(x:qt){I0:List Nat}{a:List Value}(_:SH w0 w L)(b:PO w L I0 x.Ap a):PO w L I0 x a:=
 b
structure qm where
 Az:ByteArray
 Bo:Int
 Ai:(List Int)
instance gt_TInstance:GoT qm:=isoT (pairT instStr (pairT instInt (@instList Int instInt))) (fun x=>(x.Az,x.Bo,x.Ai)) ⟨ByteArray.empty,0,[]⟩ Z true (fun h=>by cases h)
abbrev qkN (x:qm)(p0:Option Addr)(k0:Nat):List Value:=[.string x.Az,.int .i64 x.Bo,.slice p0 (x.Ai).length k0]
theorem qW {x:qm}{cs:List Value}(h:GoT.R w S x cs):∃ b a,cs=(qkN x b a)∧SlR w S x.Ai b a:=by
 obtain⟨_,_,rfl,rfl,⟨_,_,rfl,rfl,⟨b,a,rfl,c⟩⟩⟩:=h;exact⟨b,a,rfl,c⟩
theorem qhl (x:qm){b:Option Addr}{a:Nat}(c:SlR w S x.Ai b a):GoT.R w S x (qkN x b a):=have h:=pR (rT x.Az) (pR (rI x.Bo) (rS c));h
theorem qru {w0:World}{L:List Ch}{x:qm}{f:Option Addr}{d a:Nat}(h:SH w0 w (Ch.own S x [.string x.Az,.int .i64 x.Bo,.slice f d a]::L)):∃ g,SH w0 w (Ch.own g x.Ai [.slice f d a]::L):=by
 obtain⟨hv,ho⟩:=h.headV;replace ho:GoT.O w S x _:=ho;obtain⟨_,_,_,_,he,i,ho,_,b0⟩:=ho;obtain rfl:=i;cases he;replace hv:=hv.less b0;obtain⟨_,B1,_,_,he,k,ho,_,b1⟩:=ho;obtain rfl:=k;cases he;replace hv:=hv.less b1;obtain⟨q,m,he,l⟩:=ho;cases he;replace hv:=hv.push (c:=Ch.own B1 x.Ai [_]) (S2:=(fun _=>False)) ⟨_,_,rfl,l⟩ (fun _ hd=>hd.elim) (fun b hb=>⟨hb,fun h=>h⟩) (fun _ h=>h.elim);exact⟨B1,hv.sh⟩
theorem qp0 {w0:World}{L:List Ch}(x:qm){I0 I1 I2:List Nat}{a b c:List Value}(h:SH w0 w L)(d:PO w L I0 x.Az a)(f:PO w L I1 x.Bo b)(g:PO w L I2 x.Ai c)(b0:apartB I0 (I1++I2)=true)(b1:apartB I1 I2=true):PO w L (I0++(I1++I2)) x (a++(b++c)):=
 (qcR h d (qcR h f g b1) b0)
structure qY where
 Az:ByteArray
 Bs:Int
 Bu:Int
instance gt_TPort:GoT qY:=isoT (pairT instStr (pairT instInt instInt)) (fun x=>(x.Az,x.Bs,x.Bu)) ⟨ByteArray.empty,0,0⟩ Z true (fun h=>by cases h)
instance fl_TPort:Flat qY:=qhV (pairT instStr (pairT instInt instInt)) (fun x:qY=>(x.Az,x.Bs,x.Bu)) ⟨ByteArray.empty,0,0⟩ Z true (fun h=>by cases h) (qbe _ _ (inferInstanceAs (Flat ByteArray)) (qbe _ _ (inferInstanceAs (Flat Int)) (inferInstanceAs (Flat Int))))
abbrev qr4 (x:qY):List Value:=[.string x.Az,.int .i64 x.Bs,.int .i64 x.Bu]
theorem qa0 {x:qY}{cs:List Value}(h:GoT.R w S x cs):cs=(qr4 x):=by
 obtain⟨_,_,rfl,rfl,⟨_,_,rfl,rfl,rfl⟩⟩:=h;exact Z
theorem qeW (x:qY):GoT.R w S x (qr4 x):=have h:=pR (rT x.Az) (pR (rI x.Bs) (rI x.Bu));h
structure qg where
 Ab:(List qm)
 Ai:(List ByteArray)
 Ah:(List qY)
instance gt_TDesign:GoT qg:=isoT (pairT (@instList qm gt_TInstance) (pairT (@instList ByteArray instStr) (@instList qY gt_TPort))) (fun x=>(x.Ab,x.Ai,x.Ah)) ⟨[],[],[]⟩ Z true (fun h=>by cases h)
abbrev qaV (x:qg)(p0 p1 p2:Option Addr)(k0 k1 k2:Nat):List Value:=[.slice p0 (x.Ab).length k0,.slice p1 (x.Ai).length k1,.slice p2 (x.Ah).length k2]
theorem qaI {x:qg}{cs:List Value}(h:GoT.R w S x cs):∃ d a f b g c,cs=(qaV x d f g a b c)∧SlR w S x.Ab d a∧SlR w S x.Ai f b∧SlR w S x.Ah g c:=by
 obtain⟨_,_,rfl,⟨d,a,rfl,i⟩,⟨_,_,rfl,⟨f,b,rfl,k⟩,⟨g,c,rfl,s2⟩⟩⟩:=h;exact⟨d,a,f,b,g,c,rfl,i,k,s2⟩
theorem qav (x:qg){d f g:Option Addr}{a b c:Nat}(i:SlR w S x.Ab d a)(k:SlR w S x.Ai f b)(s2:SlR w S x.Ah g c):GoT.R w S x (qaV x d f g a b c):=have h:=pR (rS i) (pR (rS k) (rS s2));h
theorem qiG {w0:World}{L:List Ch}{x:qg}{l n o:Option Addr}{g a i d k f:Nat}(h:SH w0 w (Ch.own S x [.slice l g a,.slice n i d,.slice o k f]::L)):∃ p S1 S2,SH w0 w (Ch.own S2 x.Ah [.slice o k f]::Ch.own S1 x.Ai [.slice n i d]::Ch.own p x.Ab [.slice l g a]::L):=by
 obtain⟨hv,ho⟩:=h.headV;replace ho:GoT.O w S x _:=ho;obtain⟨A0,B0,_,_,he,r,ho,a0,b0⟩:=ho;obtain⟨q,m,rfl,t⟩:=r;cases he;replace hv:=hv.push (c:=Ch.own A0 x.Ab [_]) (S2:=B0) ⟨_,_,rfl,t⟩ (fun _ hd=>hd.elim) a0 b0;obtain⟨A1,B1,_,_,he,s,ho,a1,b1⟩:=ho;obtain⟨q,m,rfl,u⟩:=s;cases he;replace hv:=hv.push (c:=Ch.own A1 x.Ai [_]) (S2:=B1) ⟨_,_,rfl,u⟩ (fun _ hd=>hd.elim) a1 b1;obtain⟨q,m,he,s2⟩:=ho;cases he;replace hv:=hv.push (c:=Ch.own B1 x.Ah [_]) (S2:=(fun _=>False)) ⟨_,_,rfl,s2⟩ (fun _ hd=>hd.elim) (fun b hb=>⟨hb,fun h=>h⟩) (fun _ h=>h.elim);exact⟨A0,A1,B1,hv.sh⟩
theorem qwm {w0:World}{L:List Ch}(x:qg){I0 I1 I2:List Nat}{a b c:List Value}(h:SH w0 w L)(d:PO w L I0 x.Ab a)(f:PO w L I1 x.Ai b)(g:PO w L I2 x.Ah c)(b0:apartB I0 (I1++I2)=true)(b1:apartB I1 I2=true):PO w L (I0++(I1++I2)) x (a++(b++c)):=
 (qcR h d (qcR h f g b1) b0)
structure qH where
 Ak:(List Int)
 Bt:(List Int)
 Bq:(List Int)
 Bg:(List Int)
instance gt_TWire:GoT qH:=isoT (pairT (@instList Int instInt) (pairT (@instList Int instInt) (pairT (@instList Int instInt) (@instList Int instInt)))) (fun x=>(x.Ak,x.Bt,x.Bq,x.Bg)) ⟨[],[],[],[]⟩ Z true (fun h=>by cases h)
abbrev qhs (x:qH)(p0 p1 p2 p3:Option Addr)(k0 k1 k2 k3:Nat):List Value:=[.slice p0 (x.Ak).length k0,.slice p1 (x.Bt).length k1,.slice p2 (x.Bq).length k2,.slice p3 (x.Bg).length k3]
theorem qaS {x:qH}{cs:List Value}(h:GoT.R w S x cs):∃ f a g b i c k d,cs=(qhs x f g i k a b c d)∧SlR w S x.Ak f a∧SlR w S x.Bt g b∧SlR w S x.Bq i c∧SlR w S x.Bg k d:=by
 obtain⟨_,_,rfl,⟨f,a,rfl,l⟩,⟨_,_,rfl,⟨g,b,rfl,m⟩,⟨_,_,rfl,⟨i,c,rfl,s2⟩,⟨k,d,rfl,n⟩⟩⟩⟩:=h;exact⟨f,a,g,b,i,c,k,d,rfl,l,m,s2,n⟩
theorem qlp (x:qH){f g i k:Option Addr}{a b c d:Nat}(l:SlR w S x.Ak f a)(m:SlR w S x.Bt g b)(s2:SlR w S x.Bq i c)(n:SlR w S x.Bg k d):GoT.R w S x (qhs x f g i k a b c d):=have h:=pR (rS l) (pR (rS m) (pR (rS s2) (rS n)));h
theorem quU {w0:World}{L:List Ch}{x:qH}{o p r s:Option Addr}{i a k d l f n g:Nat}(h:SH w0 w (Ch.own S x [.slice o i a,.slice p k d,.slice r l f,.slice s n g]::L)):∃ t S1 S2 u,SH w0 w (Ch.own u x.Bg [.slice s n g]::Ch.own S2 x.Bq [.slice r l f]::Ch.own S1 x.Bt [.slice p k d]::Ch.own t x.Ak [.slice o i a]::L):=by
 obtain⟨hv,ho⟩:=h.headV;replace ho:GoT.O w S x _:=ho;obtain⟨A0,B0,_,_,he,v,ho,a0,b0⟩:=ho;obtain⟨q,m,rfl,A⟩:=v;cases he;replace hv:=hv.push (c:=Ch.own A0 x.Ak [_]) (S2:=B0) ⟨_,_,rfl,A⟩ (fun _ hd=>hd.elim) a0 b0;obtain⟨A1,B1,_,_,he,y,ho,a1,b1⟩:=ho;obtain⟨q,m,rfl,B⟩:=y;cases he;replace hv:=hv.push (c:=Ch.own A1 x.Bt [_]) (S2:=B1) ⟨_,_,rfl,B⟩ (fun _ hd=>hd.elim) a1 b1;obtain⟨A2,B2,_,_,he,z,ho,a2,b2⟩:=ho;obtain⟨q,m,rfl,s2⟩:=z;cases he;replace hv:=hv.push (c:=Ch.own A2 x.Bq [_]) (S2:=B2) ⟨_,_,rfl,s2⟩ (fun _ hd=>hd.elim) a2 b2;obtain⟨q,m,he,C⟩:=ho;cases he;replace hv:=hv.push (c:=Ch.own B2 x.Bg [_]) (S2:=(fun _=>False)) ⟨_,_,rfl,C⟩ (fun _ hd=>hd.elim) (fun b hb=>⟨hb,fun h=>h⟩) (fun _ h=>h.elim);exact⟨A0,A1,A2,B2,hv.sh⟩
theorem qvS {w0:World}{L:List Ch}(x:qH){I0 I1 I2 I3:List Nat}{a b c d:List Value}(h:SH w0 w L)(f:PO w L I0 x.Ak a)(g:PO w L I1 x.Bt b)(i:PO w L I2 x.Bq c)(k:PO w L I3 x.Bg d)(b0:apartB I0 (I1++(I2++I3))=true)(b1:apartB I1 (I2++I3)=true)(b2:apartB I2 I3=true):PO w L (I0++(I1++(I2++I3))) x (a++(b++(c++d))):=
 (qcR h f (qcR h g (qcR h i k b2) b1) b0)
structure qe where
 Ar:qt
 Aa:qg
 Af:(List qH)
instance gt_TBlock:GoT qe:=isoT (pairT gt_TLibrary (pairT gt_TDesign (@instList qH gt_TWire))) (fun x=>(x.Ar,x.Aa,x.Af)) ⟨(⟨[]⟩:qt),(⟨[],[],[]⟩:qg),[]⟩ Z true (fun h=>by cases h)
abbrev qJ (x:qe)(p0 p1 p2 p3 p4:Option Addr)(k0 k1 k2 k3 k4:Nat):List Value:=[.slice p0 (x.Ar.Ap).length k0,.slice p1 (x.Aa.Ab).length k1,.slice p2 (x.Aa.Ai).length k2,.slice p3 (x.Aa.Ah).length k3,.slice p4 (x.Af).length k4]
theorem qE {x:qe}{cs:List Value}(h:GoT.R w S x cs):∃ g a i b k c l d m f,cs=(qJ x g i k l m a b c d f)∧SlR w S x.Ar.Ap g a∧SlR w S x.Aa.Ab i b∧SlR w S x.Aa.Ai k c∧SlR w S x.Aa.Ah l d∧SlR w S x.Af m f:=by
 obtain⟨_,_,rfl,⟨g,a,rfl,n⟩,⟨_,_,rfl,⟨_,_,rfl,⟨i,b,rfl,o⟩,⟨_,_,rfl,⟨k,c,rfl,s2⟩,⟨l,d,rfl,p⟩⟩⟩,⟨m,f,rfl,r⟩⟩⟩:=h;exact⟨g,a,i,b,k,c,l,d,m,f,rfl,n,o,s2,p,r⟩
theorem qsh (x:qe){g i k l m:Option Addr}{a b c d f:Nat}(n:SlR w S x.Ar.Ap g a)(o:SlR w S x.Aa.Ab i b)(s2:SlR w S x.Aa.Ai k c)(p:SlR w S x.Aa.Ah l d)(r:SlR w S x.Af m f):GoT.R w S x (qJ x g i k l m a b c d f):=have h:=pR (qez x.Ar n) (pR (qav x.Aa o s2 p) (rS r));h
theorem qiH {w0:World}{L:List Ch}{x:qe}{u n o p r:Option Addr}{t s i a k d l f m g:Nat}(h:SH w0 w (Ch.own S x [.slice u t s,.slice n i a,.slice o k d,.slice p l f,.slice r m g]::L)):∃ H S1 S2,SH w0 w (Ch.own S2 x.Af [.slice r m g]::Ch.own S1 x.Aa [.slice n i a,.slice o k d,.slice p l f]::Ch.own H x.Ar [.slice u t s]::L):=by
 obtain⟨hv,ho⟩:=h.headV;replace ho:GoT.O w S x _:=ho;obtain⟨A0,B0,v,e0,z,D,ho,a0,b0⟩:=ho;have B:v.length=1:=GoT.len (GoT.toR D);obtain⟨rfl,rfl⟩:v=[.slice u t s]∧e0=[.slice n i a,.slice o k d,.slice p l f,.slice r m g]:=by
  have:=List.append_inj (show[.slice u t s]++[.slice n i a,.slice o k d,.slice p l f,.slice r m g]=v++e0 from z) (by rw[B];rfl);exact⟨this.1.symm,this.2.symm⟩
 replace hv:=hv.push (c:=Ch.own A0 x.Ar [.slice u t s]) (S2:=B0) D (fun _ hd=>hd.elim) a0 b0;obtain⟨A1,B1,y,e1,A,F,ho,a1,b1⟩:=ho;have C:y.length=3:=GoT.len (GoT.toR F);obtain⟨rfl,rfl⟩:y=[.slice n i a,.slice o k d,.slice p l f]∧e1=[.slice r m g]:=by
  have:=List.append_inj (show[.slice n i a,.slice o k d,.slice p l f]++[.slice r m g]=y++e1 from A) (by rw[C];rfl);exact⟨this.1.symm,this.2.symm⟩
 replace hv:=hv.push (c:=Ch.own A1 x.Aa [.slice n i a,.slice o k d,.slice p l f]) (S2:=B1) F (fun _ hd=>hd.elim) a1 b1;replace hv:=hv.push (c:=Ch.own B1 x.Af [.slice r m g]) (S2:=(fun _=>False)) ho (fun _ hd=>hd.elim) (fun b hb=>⟨hb,fun h=>h⟩) (fun _ h=>h.elim);exact⟨A0,A1,B1,hv.sh⟩
theorem qx3 {w0:World}{L:List Ch}(x:qe){I0 I1 I2:List Nat}{a b c:List Value}(h:SH w0 w L)(d:PO w L I0 x.Ar a)(f:PO w L I1 x.Aa b)(g:PO w L I2 x.Af c)(b0:apartB I0 (I1++I2)=true)(b1:apartB I1 I2=true):PO w L (I0++(I1++I2)) x (a++(b++c)):=
 (qcR h d (qcR h f g b1) b0)
structure qz where
 Az:ByteArray
 Bc:Int
 Be:Int
 Bd:Int
 Bh:Int
instance gt_TCorner:GoT qz:=isoT (pairT instStr (pairT instInt (pairT instInt (pairT instInt instInt)))) (fun x=>(x.Az,x.Bc,x.Be,x.Bd,x.Bh)) ⟨ByteArray.empty,0,0,0,0⟩ Z true (fun h=>by cases h)
instance fl_TCorner:Flat qz:=qhV (pairT instStr (pairT instInt (pairT instInt (pairT instInt instInt)))) (fun x:qz=>(x.Az,x.Bc,x.Be,x.Bd,x.Bh)) ⟨ByteArray.empty,0,0,0,0⟩ Z true (fun h=>by cases h) (qbe _ _ (inferInstanceAs (Flat ByteArray)) (qbe _ _ (inferInstanceAs (Flat Int)) (qbe _ _ (inferInstanceAs (Flat Int)) (qbe _ _ (inferInstanceAs (Flat Int)) (inferInstanceAs (Flat Int))))))
abbrev qam (x:qz):List Value:=[.string x.Az,.int .i64 x.Bc,.int .i64 x.Be,.int .i64 x.Bd,.int .i64 x.Bh]
theorem qag {x:qz}{cs:List Value}(h:GoT.R w S x cs):cs=(qam x):=by
 obtain⟨_,_,rfl,rfl,⟨_,_,rfl,rfl,⟨_,_,rfl,rfl,⟨_,_,rfl,rfl,rfl⟩⟩⟩⟩:=h;exact Z
theorem qmC (x:qz):GoT.R w S x (qam x):=have h:=pR (rT x.Az) (pR (rI x.Bc) (pR (rI x.Be) (pR (rI x.Bd) (rI x.Bh))));h
structure qc where
 Am:Int
 Au:Int
instance gt_TSpan:GoT qc:=isoT (pairT instInt instInt) (fun x=>(x.Am,x.Au)) ⟨0,0⟩ Z true (fun h=>by cases h)
instance fl_TSpan:Flat qc:=qhV (pairT instInt instInt) (fun x:qc=>(x.Am,x.Au)) ⟨0,0⟩ Z true (fun h=>by cases h) (qbe _ _ (inferInstanceAs (Flat Int)) (inferInstanceAs (Flat Int)))
abbrev qdK (x:qc):List Value:=[.int .i64 x.Am,.int .i64 x.Au]
theorem qu {x:qc}{cs:List Value}(h:GoT.R w S x cs):cs=(qdK x):=by
 obtain⟨_,_,rfl,rfl,rfl⟩:=h;exact Z
theorem qB (x:qc):GoT.R w S x (qdK x):=have h:=pR (rI x.Am) (rI x.Au);h
structure qf where
 Bm:Int
 Ac:qc
 Aq:qc
instance gt_TSource:GoT qf:=isoT (pairT instInt (pairT gt_TSpan gt_TSpan)) (fun x=>(x.Bm,x.Ac,x.Aq)) ⟨0,(⟨0,0⟩:qc),(⟨0,0⟩:qc)⟩ Z true (fun h=>by cases h)
instance fl_TSource:Flat qf:=qhV (pairT instInt (pairT gt_TSpan gt_TSpan)) (fun x:qf=>(x.Bm,x.Ac,x.Aq)) ⟨0,(⟨0,0⟩:qc),(⟨0,0⟩:qc)⟩ Z true (fun h=>by cases h) (qbe _ _ (inferInstanceAs (Flat Int)) (qbe _ _ (inferInstanceAs (Flat qc)) (inferInstanceAs (Flat qc))))
abbrev qf5 (x:qf):List Value:=[.int .i64 x.Bm,.int .i64 x.Ac.Am,.int .i64 x.Ac.Au,.int .i64 x.Aq.Am,.int .i64 x.Aq.Au]
theorem qac {x:qf}{cs:List Value}(h:GoT.R w S x cs):cs=(qf5 x):=by
 obtain⟨_,_,rfl,rfl,⟨_,_,rfl,⟨_,_,rfl,rfl,rfl⟩,⟨_,_,rfl,rfl,rfl⟩⟩⟩:=h;exact Z
theorem qaP (x:qf):GoT.R w S x (qf5 x):=have h:=pR (rI x.Bm) (pR (qB x.Ac) (qB x.Aq));h
structure qh where
 A:Int
 B:Int
 Bp:Int
instance gt_TCoupling:GoT qh:=isoT (pairT instInt (pairT instInt instInt)) (fun x=>(x.A,x.B,x.Bp)) ⟨0,0,0⟩ Z true (fun h=>by cases h)
instance fl_TCoupling:Flat qh:=qhV (pairT instInt (pairT instInt instInt)) (fun x:qh=>(x.A,x.B,x.Bp)) ⟨0,0,0⟩ Z true (fun h=>by cases h) (qbe _ _ (inferInstanceAs (Flat Int)) (qbe _ _ (inferInstanceAs (Flat Int)) (inferInstanceAs (Flat Int))))
abbrev qkO (x:qh):List Value:=[.int .i64 x.A,.int .i64 x.B,.int .i64 x.Bp]
theorem qV {x:qh}{cs:List Value}(h:GoT.R w S x cs):cs=(qkO x):=by
 obtain⟨_,_,rfl,rfl,⟨_,_,rfl,rfl,rfl⟩⟩:=h;exact Z
theorem qb6 (x:qh):GoT.R w S x (qkO x):=have h:=pR (rI x.A) (pR (rI x.B) (rI x.Bp));h
structure qq where
 Aj:(List Bool)
 Ac:(List qc)
 Aq:(List qc)
instance gt_TTiming:GoT qq:=isoT (pairT (@instList Bool instBool) (pairT (@instList qc gt_TSpan) (@instList qc gt_TSpan))) (fun x=>(x.Aj,x.Ac,x.Aq)) ⟨[],[],[]⟩ Z true (fun h=>by cases h)
abbrev qI (x:qq)(p0 p1 p2:Option Addr)(k0 k1 k2:Nat):List Value:=[.slice p0 (x.Aj).length k0,.slice p1 (x.Ac).length k1,.slice p2 (x.Aq).length k2]
theorem qM {x:qq}{cs:List Value}(h:GoT.R w S x cs):∃ d a f b g c,cs=(qI x d f g a b c)∧SlR w S x.Aj d a∧SlR w S x.Ac f b∧SlR w S x.Aq g c:=by
 obtain⟨_,_,rfl,⟨d,a,rfl,i⟩,⟨_,_,rfl,⟨f,b,rfl,k⟩,⟨g,c,rfl,s2⟩⟩⟩:=h;exact⟨d,a,f,b,g,c,rfl,i,k,s2⟩
theorem quV (x:qq){d f g:Option Addr}{a b c:Nat}(i:SlR w S x.Aj d a)(k:SlR w S x.Ac f b)(s2:SlR w S x.Aq g c):GoT.R w S x (qI x d f g a b c):=have h:=pR (rS i) (pR (rS k) (rS s2));h
theorem qaz {w0:World}{L:List Ch}{x:qq}{l n o:Option Addr}{g a i d k f:Nat}(h:SH w0 w (Ch.own S x [.slice l g a,.slice n i d,.slice o k f]::L)):∃ p S1 S2,SH w0 w (Ch.own S2 x.Aq [.slice o k f]::Ch.own S1 x.Ac [.slice n i d]::Ch.own p x.Aj [.slice l g a]::L):=by
 obtain⟨hv,ho⟩:=h.headV;replace ho:GoT.O w S x _:=ho;obtain⟨A0,B0,_,_,he,r,ho,a0,b0⟩:=ho;obtain⟨q,m,rfl,t⟩:=r;cases he;replace hv:=hv.push (c:=Ch.own A0 x.Aj [_]) (S2:=B0) ⟨_,_,rfl,t⟩ (fun _ hd=>hd.elim) a0 b0;obtain⟨A1,B1,_,_,he,s,ho,a1,b1⟩:=ho;obtain⟨q,m,rfl,u⟩:=s;cases he;replace hv:=hv.push (c:=Ch.own A1 x.Ac [_]) (S2:=B1) ⟨_,_,rfl,u⟩ (fun _ hd=>hd.elim) a1 b1;obtain⟨q,m,he,s2⟩:=ho;cases he;replace hv:=hv.push (c:=Ch.own B1 x.Aq [_]) (S2:=(fun _=>False)) ⟨_,_,rfl,s2⟩ (fun _ hd=>hd.elim) (fun b hb=>⟨hb,fun h=>h⟩) (fun _ h=>h.elim);exact⟨A0,A1,B1,hv.sh⟩
theorem qe4 {w0:World}{L:List Ch}(x:qq){I0 I1 I2:List Nat}{a b c:List Value}(h:SH w0 w L)(d:PO w L I0 x.Aj a)(f:PO w L I1 x.Ac b)(g:PO w L I2 x.Aq c)(b0:apartB I0 (I1++I2)=true)(b1:apartB I1 I2=true):PO w L (I0++(I1++I2)) x (a++(b++c)):=
 (qcR h d (qcR h f g b1) b0)
structure Tplace where
 instance_:Int
 pin:Int
 net:Int
 drives:Bool
instance gt_Tplace:GoT Tplace:=isoT (pairT instInt (pairT instInt (pairT instInt instBool))) (fun x=>(x.instance_,x.pin,x.net,x.drives)) ⟨0,0,0,false⟩ Z true (fun h=>by cases h)
instance fl_Tplace:Flat Tplace:=qhV (pairT instInt (pairT instInt (pairT instInt instBool))) (fun x:Tplace=>(x.instance_,x.pin,x.net,x.drives)) ⟨0,0,0,false⟩ Z true (fun h=>by cases h) (qbe _ _ (inferInstanceAs (Flat Int)) (qbe _ _ (inferInstanceAs (Flat Int)) (qbe _ _ (inferInstanceAs (Flat Int)) (inferInstanceAs (Flat Bool)))))
abbrev qsE (x:Tplace):List Value:=[.int .i64 x.instance_,.int .i64 x.pin,.int .i64 x.net,.bool x.drives]
theorem qfL {x:Tplace}{cs:List Value}(h:GoT.R w S x cs):cs=(qsE x):=by
 obtain⟨_,_,rfl,rfl,⟨_,_,rfl,rfl,⟨_,_,rfl,rfl,rfl⟩⟩⟩:=h;exact Z
theorem qlC (x:Tplace):GoT.R w S x (qsE x):=have h:=pR (rI x.instance_) (pR (rI x.pin) (pR (rI x.net) (rB x.drives)));h
structure qv where
 Bf:Int
 To:Int
 Ay:Int
 Bw:Int
instance gt_TLink:GoT qv:=isoT (pairT instInt (pairT instInt (pairT instInt instInt))) (fun x=>(x.Bf,x.To,x.Ay,x.Bw)) ⟨0,0,0,0⟩ Z true (fun h=>by cases h)
instance fl_TLink:Flat qv:=qhV (pairT instInt (pairT instInt (pairT instInt instInt))) (fun x:qv=>(x.Bf,x.To,x.Ay,x.Bw)) ⟨0,0,0,0⟩ Z true (fun h=>by cases h) (qbe _ _ (inferInstanceAs (Flat Int)) (qbe _ _ (inferInstanceAs (Flat Int)) (qbe _ _ (inferInstanceAs (Flat Int)) (inferInstanceAs (Flat Int)))))
abbrev qki (x:qv):List Value:=[.int .i64 x.Bf,.int .i64 x.To,.int .i64 x.Ay,.int .i64 x.Bw]
theorem qbd {x:qv}{cs:List Value}(h:GoT.R w S x cs):cs=(qki x):=by
 obtain⟨_,_,rfl,rfl,⟨_,_,rfl,rfl,⟨_,_,rfl,rfl,rfl⟩⟩⟩:=h;exact Z
theorem qcm (x:qv):GoT.R w S x (qki x):=have h:=pR (rI x.Bf) (pR (rI x.To) (pR (rI x.Ay) (rI x.Bw)));h
structure Tview where
 Bv:qe
 places:(List Tplace)
 links:(List qv)
 loads:(List Int)
 delays:(List (List Int))
 extras:(List Int)
instance gt_Tview:GoT Tview:=isoT (pairT gt_TBlock (pairT (@instList Tplace gt_Tplace) (pairT (@instList qv gt_TLink) (pairT (@instList Int instInt) (pairT (@instList (List Int) (@instList Int instInt)) (@instList Int instInt)))))) (fun x=>(x.Bv,x.places,x.links,x.loads,x.delays,x.extras)) ⟨(⟨(⟨[]⟩:qt),(⟨[],[],[]⟩:qg),[]⟩:qe),[],[],[],[],[]⟩ Z true (fun h=>by cases h)
abbrev qzQ (x:Tview)(p0 p1 p2 p3 p4 p5 p6 p7 p8 p9:Option Addr)(k0 k1 k2 k3 k4 k5 k6 k7 k8 k9:Nat):List Value:=[.slice p0 (x.Bv.Ar.Ap).length k0,.slice p1 (x.Bv.Aa.Ab).length k1,.slice p2 (x.Bv.Aa.Ai).length k2,.slice p3 (x.Bv.Aa.Ah).length k3,.slice p4 (x.Bv.Af).length k4,.slice p5 (x.places).length k5,.slice p6 (x.links).length k6,.slice p7 (x.loads).length k7,.slice p8 (x.delays).length k8,.slice p9 (x.extras).length k9]
theorem qcB {x:Tview}{cs:List Value}(h:GoT.R w S x cs):∃ n a o b p c r d s f t g u i v k y l z m,cs=(qzQ x n o p r s t u v y z a b c d f g i k l m)∧SlR w S x.Bv.Ar.Ap n a∧SlR w S x.Bv.Aa.Ab o b∧SlR w S x.Bv.Aa.Ai p c∧SlR w S x.Bv.Aa.Ah r d∧SlR w S x.Bv.Af s f∧SlR w S x.places t g∧SlR w S x.links u i∧SlR w S x.loads v k∧SlR w S x.delays y l∧SlR w S x.extras z m:=by
 obtain⟨_,_,rfl,⟨_,_,rfl,⟨n,a,rfl,A⟩,⟨_,_,rfl,⟨_,_,rfl,⟨o,b,rfl,B⟩,⟨_,_,rfl,⟨p,c,rfl,s2⟩,⟨r,d,rfl,C⟩⟩⟩,⟨s,f,rfl,D⟩⟩⟩,⟨_,_,rfl,⟨t,g,rfl,F⟩,⟨_,_,rfl,⟨u,i,rfl,H⟩,⟨_,_,rfl,⟨v,k,rfl,I⟩,⟨_,_,rfl,⟨y,l,rfl,J⟩,⟨z,m,rfl,K⟩⟩⟩⟩⟩⟩:=h;exact⟨n,a,o,b,p,c,r,d,s,f,t,g,u,i,v,k,y,l,z,m,rfl,A,B,s2,C,D,F,H,I,J,K⟩
structure Tgraph where
 view:(Option Tview)
 live:(List Bool)
instance gt_Tgraph:GoT Tgraph:=isoT (pairT (@instPtr Tview gt_Tview) (@instList Bool instBool)) (fun x=>(x.view,x.live)) ⟨U,[]⟩ Z true (fun h=>by cases h)
abbrev qzp (x:Tgraph)(p0 p1:Option Addr)(k1:Nat):List Value:=[.pointer p0,.slice p1 (x.live).length k1]
theorem qjf {x:Tgraph}{cs:List Value}(h:GoT.R w S x cs):∃ b c a,cs=(qzp x b c a)∧PtR w S x.view b∧SlR w S x.live c a:=by
 obtain⟨_,_,rfl,g,⟨c,a,rfl,f⟩⟩:=h;obtain⟨b,rfl,d⟩:=qbV g;exact⟨b,c,a,rfl,d,f⟩
structure Tl05Place where
 instance_:Int
 pin:Int
 net:Int
 drives:Bool
instance gt_Tl05Place:GoT Tl05Place:=isoT (pairT instInt (pairT instInt (pairT instInt instBool))) (fun x=>(x.instance_,x.pin,x.net,x.drives)) ⟨0,0,0,false⟩ Z true (fun h=>by cases h)
instance fl_Tl05Place:Flat Tl05Place:=qhV (pairT instInt (pairT instInt (pairT instInt instBool))) (fun x:Tl05Place=>(x.instance_,x.pin,x.net,x.drives)) ⟨0,0,0,false⟩ Z true (fun h=>by cases h) (qbe _ _ (inferInstanceAs (Flat Int)) (qbe _ _ (inferInstanceAs (Flat Int)) (qbe _ _ (inferInstanceAs (Flat Int)) (inferInstanceAs (Flat Bool)))))
abbrev qmo (x:Tl05Place):List Value:=[.int .i64 x.instance_,.int .i64 x.pin,.int .i64 x.net,.bool x.drives]
theorem qb1 {x:Tl05Place}{cs:List Value}(h:GoT.R w S x cs):cs=(qmo x):=by
 obtain⟨_,_,rfl,rfl,⟨_,_,rfl,rfl,⟨_,_,rfl,rfl,rfl⟩⟩⟩:=h;exact Z
theorem qfU (x:Tl05Place):GoT.R w S x (qmo x):=have h:=pR (rI x.instance_) (pR (rI x.pin) (pR (rI x.net) (rB x.drives)));h
structure qU where
 e0:Int
 e1:Int
instance gt_TA2_Int:GoT qU:=isoT (pairT instInt instInt) (fun x=>(x.e0,x.e1)) ⟨0,0⟩ Z true (fun h=>by cases h)
instance fl_TA2_Int:Flat qU:=qhV (pairT instInt instInt) (fun x:qU=>(x.e0,x.e1)) ⟨0,0⟩ Z true (fun h=>by cases h) (qbe _ _ (inferInstanceAs (Flat Int)) (inferInstanceAs (Flat Int)))
abbrev qtB (x:qU):List Value:=[.int .i64 x.e0,.int .i64 x.e1]
theorem quG {x:qU}{cs:List Value}(h:GoT.R w S x cs):cs=(qtB x):=by
 obtain⟨_,_,rfl,rfl,rfl⟩:=h;exact Z
theorem qdh (x:qU):GoT.R w S x (qtB x):=have h:=pR (rI x.e0) (rI x.e1);h
structure Tweight where
 index:Int
 part:Int
instance gt_Tweight:GoT Tweight:=isoT (pairT instInt instInt) (fun x=>(x.index,x.part)) ⟨0,0⟩ Z true (fun h=>by cases h)
instance fl_Tweight:Flat Tweight:=qhV (pairT instInt instInt) (fun x:Tweight=>(x.index,x.part)) ⟨0,0⟩ Z true (fun h=>by cases h) (qbe _ _ (inferInstanceAs (Flat Int)) (inferInstanceAs (Flat Int)))
abbrev qqZ (x:Tweight):List Value:=[.int .i64 x.index,.int .i64 x.part]
theorem qpK {x:Tweight}{cs:List Value}(h:GoT.R w S x cs):cs=(qqZ x):=by
 obtain⟨_,_,rfl,rfl,rfl⟩:=h;exact Z
theorem qos (x:Tweight):GoT.R w S x (qqZ x):=have h:=pR (rI x.index) (rI x.part);h
def tab:Tab:=[
 (2,⟨.int .i64,1,8,V (.int .i64 0),[]⟩),
 (3,⟨.int .i64,1,8,V (.int .i64 0),[]⟩),
 (4,⟨.bool,1,1,V (.bool false),[]⟩),
 (5,⟨.int .u8,1,1,V (.int .u8 0),[]⟩),
 (9,⟨.str,1,16,V (.string ByteArray.empty),[]⟩),
 (22,⟨.slice 205,1,24,V (.slice U 0 0),[]⟩),
 (24,⟨.struct,1,24,V (.agg #[.slice U 0 0]),[(0,1,V false)]⟩),
 (25,⟨.slice 208,1,24,V (.slice U 0 0),[]⟩),
 (26,⟨.slice 9,1,24,V (.slice U 0 0),[]⟩),
 (27,⟨.slice 211,1,24,V (.slice U 0 0),[]⟩),
 (29,⟨.struct,3,72,V (.agg #[.slice U 0 0,.slice U 0 0,.slice U 0 0]),[(0,1,V false),(1,1,V false),(2,1,V false)]⟩),
 (30,⟨.slice 152,1,24,V (.slice U 0 0),[]⟩),
 (32,⟨.struct,5,120,V (.agg #[.slice U 0 0,.slice U 0 0,.slice U 0 0,.slice U 0 0,.slice U 0 0]),[(0,1,V true),(1,3,V true),(4,1,V false)]⟩),
 (34,⟨.struct,5,48,V (.agg #[.string ByteArray.empty,.int .i64 0,.int .i64 0,.int .i64 0,.int .i64 0]),[(0,1,V false),(1,1,V false),(2,1,V false),(3,1,V false),(4,1,V false)]⟩),
 (35,⟨.slice 2,1,24,V (.slice U 0 0),[]⟩),
 (36,⟨.slice 99,1,24,V (.slice U 0 0),[]⟩),
 (37,⟨.slice 103,1,24,V (.slice U 0 0),[]⟩),
 (42,⟨.slice 4,1,24,V (.slice U 0 0),[]⟩),
 (43,⟨.slice 93,1,24,V (.slice U 0 0),[]⟩),
 (45,⟨.struct,3,72,V (.agg #[.slice U 0 0,.slice U 0 0,.slice U 0 0]),[(0,1,V false),(1,1,V false),(2,1,V false)]⟩),
 (48,⟨.slice 135,1,24,V (.slice U 0 0),[]⟩),
 (50,⟨.struct,1,24,V (.agg #[.slice U 0 0]),[(0,1,V false)]⟩),
 (51,⟨.slice 217,1,24,V (.slice U 0 0),[]⟩),
 (52,⟨.slice 232,1,24,V (.slice U 0 0),[]⟩),
 (54,⟨.struct,3,72,V (.agg #[.slice U 0 0,.slice U 0 0,.slice U 0 0]),[(0,1,V false),(1,1,V false),(2,1,V false)]⟩),
 (55,⟨.slice 170,1,24,V (.slice U 0 0),[]⟩),
 (57,⟨.struct,5,120,V (.agg #[.slice U 0 0,.slice U 0 0,.slice U 0 0,.slice U 0 0,.slice U 0 0]),[(0,1,V true),(1,3,V true),(4,1,V false)]⟩),
 (59,⟨.struct,5,48,V (.agg #[.string ByteArray.empty,.int .i64 0,.int .i64 0,.int .i64 0,.int .i64 0]),[(0,1,V false),(1,1,V false),(2,1,V false),(3,1,V false),(4,1,V false)]⟩),
 (62,⟨.slice 95,1,24,V (.slice U 0 0),[]⟩),
 (64,⟨.slice 101,1,24,V (.slice U 0 0),[]⟩),
 (93,⟨.struct,2,16,V (.agg #[.int .i64 0,.int .i64 0]),[(0,1,V false),(1,1,V false)]⟩),
 (95,⟨.struct,5,40,V (.agg #[.int .i64 0,.int .i64 0,.int .i64 0,.int .i64 0,.int .i64 0]),[(0,1,V false),(1,2,V true),(3,2,V true)]⟩),
 (97,⟨.struct,2,16,V (.agg #[.int .i64 0,.int .i64 0]),[(0,1,V false),(1,1,V false)]⟩),
 (99,⟨.struct,5,40,V (.agg #[.int .i64 0,.int .i64 0,.int .i64 0,.int .i64 0,.int .i64 0]),[(0,1,V false),(1,2,V true),(3,2,V true)]⟩),
 (101,⟨.struct,3,24,V (.agg #[.int .i64 0,.int .i64 0,.int .i64 0]),[(0,1,V false),(1,1,V false),(2,1,V false)]⟩),
 (103,⟨.struct,3,24,V (.agg #[.int .i64 0,.int .i64 0,.int .i64 0]),[(0,1,V false),(1,1,V false),(2,1,V false)]⟩),
 (108,⟨.ptr,1,8,V (.pointer U),[]⟩),
 (110,⟨.struct,2,32,V (.agg #[.pointer U,.slice U 0 0]),[(0,1,V false),(1,1,V false)]⟩),
 (111,⟨.slice 197,1,24,V (.slice U 0 0),[]⟩),
 (112,⟨.slice 225,1,24,V (.slice U 0 0),[]⟩),
 (113,⟨.slice 35,1,24,V (.slice U 0 0),[]⟩),
 (115,⟨.struct,10,240,V (.agg #[.slice U 0 0,.slice U 0 0,.slice U 0 0,.slice U 0 0,.slice U 0 0,.slice U 0 0,.slice U 0 0,.slice U 0 0,.slice U 0 0,.slice U 0 0]),[(0,5,V true),(5,1,V false),(6,1,V false),(7,1,V false),(8,1,V false),(9,1,V false)]⟩),
 (132,⟨.slice 321,1,24,V (.slice U 0 0),[]⟩),
 (133,⟨.slice 138,1,24,V (.slice U 0 0),[]⟩),
 (135,⟨.struct,7,112,V (.agg #[.string ByteArray.empty,.int .i64 0,.slice U 0 0,.slice U 0 0,.slice U 0 0,.int .i64 0,.int .i64 0]),[(0,1,V false),(1,1,V false),(2,1,V false),(3,1,V false),(4,1,V false),(5,1,V false),(6,1,V false)]⟩),
 (136,⟨.slice 142,1,24,V (.slice U 0 0),[]⟩),
 (138,⟨.struct,6,80,V (.agg #[.int .i64 0,.int .i64 0,.int .i64 0,.int .i64 0,.slice U 0 0,.slice U 0 0]),[(0,1,V false),(1,1,V false),(2,1,V false),(3,1,V false),(4,1,V false),(5,1,V false)]⟩),
 (142,⟨.struct,3,72,V (.agg #[.slice U 0 0,.slice U 0 0,.slice U 0 0]),[(0,1,V false),(1,1,V false),(2,1,V false)]⟩),
 (152,⟨.struct,4,96,V (.agg #[.slice U 0 0,.slice U 0 0,.slice U 0 0,.slice U 0 0]),[(0,1,V false),(1,1,V false),(2,1,V false),(3,1,V false)]⟩),
 (170,⟨.struct,4,96,V (.agg #[.slice U 0 0,.slice U 0 0,.slice U 0 0,.slice U 0 0]),[(0,1,V false),(1,1,V false),(2,1,V false),(3,1,V false)]⟩),
 (182,⟨.int .u64,1,8,V (.int .u64 0),[]⟩),
 (197,⟨.struct,4,32,V (.agg #[.int .i64 0,.int .i64 0,.int .i64 0,.bool false]),[(0,1,V false),(1,1,V false),(2,1,V false),(3,1,V false)]⟩),
 (198,⟨.slice 136,1,24,V (.slice U 0 0),[]⟩),
 (202,⟨.slice 327,1,24,V (.slice U 0 0),[]⟩),
 (203,⟨.slice 331,1,24,V (.slice U 0 0),[]⟩),
 (205,⟨.struct,7,112,V (.agg #[.string ByteArray.empty,.int .i64 0,.slice U 0 0,.slice U 0 0,.slice U 0 0,.int .i64 0,.int .i64 0]),[(0,1,V false),(1,1,V false),(2,1,V false),(3,1,V false),(4,1,V false),(5,1,V false),(6,1,V false)]⟩),
 (208,⟨.struct,3,48,V (.agg #[.string ByteArray.empty,.int .i64 0,.slice U 0 0]),[(0,1,V false),(1,1,V false),(2,1,V false)]⟩),
 (211,⟨.struct,3,32,V (.agg #[.string ByteArray.empty,.int .i64 0,.int .i64 0]),[(0,1,V false),(1,1,V false),(2,1,V false)]⟩),
 (217,⟨.struct,3,48,V (.agg #[.string ByteArray.empty,.int .i64 0,.slice U 0 0]),[(0,1,V false),(1,1,V false),(2,1,V false)]⟩),
 (222,⟨.slice 279,1,24,V (.slice U 0 0),[]⟩),
 (225,⟨.struct,4,32,V (.agg #[.int .i64 0,.int .i64 0,.int .i64 0,.int .i64 0]),[(0,1,V false),(1,1,V false),(2,1,V false),(3,1,V false)]⟩),
 (232,⟨.struct,3,32,V (.agg #[.string ByteArray.empty,.int .i64 0,.int .i64 0]),[(0,1,V false),(1,1,V false),(2,1,V false)]⟩),
 (240,⟨.ptr,1,8,V (.pointer U),[]⟩),
 (279,⟨.struct,4,32,V (.agg #[.int .i64 0,.int .i64 0,.int .i64 0,.bool false]),[(0,1,V false),(1,1,V false),(2,1,V false),(3,1,V false)]⟩),
 (281,⟨.slice 3,1,24,V (.slice U 0 0),[]⟩),
 (319,⟨.slice 5,1,24,V (.slice U 0 0),[]⟩),
 (321,⟨.struct,4,40,V (.agg #[.string ByteArray.empty,.int .i64 0,.int .i64 0,.bool false]),[(0,1,V false),(1,1,V false),(2,1,V false),(3,1,V false)]⟩),
 (327,⟨.struct,4,40,V (.agg #[.string ByteArray.empty,.int .i64 0,.int .i64 0,.bool false]),[(0,1,V false),(1,1,V false),(2,1,V false),(3,1,V false)]⟩),
 (329,⟨.slice 386,1,24,V (.slice U 0 0),[]⟩),
 (331,⟨.struct,6,80,V (.agg #[.int .i64 0,.int .i64 0,.int .i64 0,.int .i64 0,.slice U 0 0,.slice U 0 0]),[(0,1,V false),(1,1,V false),(2,1,V false),(3,1,V false),(4,1,V false),(5,1,V false)]⟩),
 (348,⟨.slice 350,1,24,V (.slice U 0 0),[]⟩),
 (350,⟨.arr 2 2,2,16,V (.agg #[.int .i64 0,.int .i64 0]),[]⟩),
 (373,⟨.slice 377,1,24,V (.slice U 0 0),[]⟩),
 (377,⟨.struct,2,16,V (.agg #[.int .i64 0,.int .i64 0]),[(0,1,V false),(1,1,V false)]⟩),
 (386,⟨.struct,3,72,V (.agg #[.slice U 0 0,.slice U 0 0,.slice U 0 0]),[(0,1,V false),(1,1,V false),(2,1,V false)]⟩)]
theorem qa:TabOk prog tab:=TabOk.mk (by kernel_rfl)
theorem rp {n:Nat}{Q:Exit→Act→World→Prop}{k:List It}{e:Env}{w:World}{all:Array Oper}{l:List Oper}{op:Op}{d t:Nat}{ps:String}{af:Array Edge}{v:Value}
  (h:pev tab e op=V v) (hn:Nat.blt d n=true) (hk:Run prog n Q (.ops all l::k) ((d,v)::e) w):Run prog n Q (.ops all (⟨V d,op,t,ps,af,U⟩::l)::k) e w:=r_p qa h hn hk
theorem dp {n:Nat}{Q:Exit→Act→World→Prop}{k:List It}{e:Env}{w:World}{all:Array Oper}{l:List Oper}{op:Op}{d t:Nat}{ps:String}{af:Array Edge}{v:Value}
  (h:pev tab e op=V v) (hn:Nat.blt d n=true) (hk:RunD prog n Q k all w l ((d,v)::e)):RunD prog n Q k all w (⟨V d,op,t,ps,af,U⟩::l) e:=d_p qa h hn hk
section
variable {P:Program}{n:Nat}{Q:Exit→Act→World→Prop}{k:List It}{e:Env}{w:World}
theorem zSR {c:Nat}{a:List Oper}{b:Code}(h:Run P n Q (.ops a.toArray a::.code b::k) e w):Run P n Q (.code (.seq (.region c a.toArray false) b)::k) e w:=qcx <| qkH h
theorem zKSR {c:Nat}{a:List Oper}{b:Code}(h:Run P n Q (.ops a.toArray a::.code b::k) e w):Run P n Q (.code .skip::.code (.seq (.region c a.toArray false) b)::k) e w:=qhD <| qcx <| qkH h
theorem zNSR {a1:Array Oper}{c:Nat}{a:List Oper}{b:Code}(h:Run P n Q (.ops a.toArray a::.code b::k) e w):Run P n Q (.ops a1 []::.code (.seq (.region c a.toArray false) b)::k) e w:=qcU <| qcx <| qkH h
theorem zKS {a:Code}{b:Code}(h:Run P n Q (.code a::.code b::k) e w):Run P n Q (.code .skip::.code (.seq a b)::k) e w:=qhD <| qcx h
theorem zNS {a1:Array Oper}{a:Code}{b:Code}(h:Run P n Q (.code a::.code b::k) e w):Run P n Q (.ops a1 []::.code (.seq a b)::k) e w:=qcU <| qcx h
theorem zNSS {a1:Array Oper}{b:Code}{c:Code}{a:Code}(h:Run P n Q (.code b::.code c::.code a::k) e w):Run P n Q (.ops a1 []::.code (.seq (.seq b c) a)::k) e w:=qcU <| qcx <| qcx h
theorem zKSB {a:Nat}{c:Code}{b:Code}(h:Run P n Q (.code c::.blk a::.code b::k) e w):Run P n Q (.code .skip::.code (.seq (.block a c) b)::k) e w:=qhD <| qcx <| qn h
theorem zKSBSR {b:Nat}{f:Nat}{a:List Oper}{d:Code}{c:Code}(h:Run P n Q (.ops a.toArray a::.code d::.blk b::.code c::k) e w):Run P n Q (.code .skip::.code (.seq (.block b (.seq (.region f a.toArray false) d)) c)::k) e w:=qhD <| qcx <| qn <| qcx <| qkH h
theorem zSS {b:Code}{c:Code}{a:Code}(h:Run P n Q (.code b::.code c::.code a::k) e w):Run P n Q (.code (.seq (.seq b c) a)::k) e w:=qcx <| qcx h
theorem zKSS {b:Code}{c:Code}{a:Code}(h:Run P n Q (.code b::.code c::.code a::k) e w):Run P n Q (.code .skip::.code (.seq (.seq b c) a)::k) e w:=qhD <| qcx <| qcx h
end
section
variable {w0 w:World}{L:List Ch}{n:Nat}{Q:Exit→Act→World→Prop}{k k':List It}{e e':Env}{all:Array Oper}{l l':List Oper}{z:List Nat}
theorem X0 (m:Nat)(hh:xs tab n m [] k e [] []=V (k',e',z,z))(hk:Run prog n Q k' e' w):Run prog n Q k e w:=((qvj (P:=prog) (Q:=Q) (w:=w) qa m _ _ _ _ _ _ _ _ _ (fun _ h=>by cases h) rfl hh).2 rfl).2 hk
theorem Y0 (m:Nat)(hh:xd tab n all m [] l e [] []=V (l',e',z,z))(hk:RunD prog n Q k all w l' e'):RunD prog n Q k all w l e:=((qAC (P:=prog) (Q:=Q) (k:=k) (w:=w) (all:=all) qa m _ _ _ _ _ _ _ _ _ (fun _ h=>by cases h) rfl hh).2 rfl).2 hk
theorem X1 (m:Nat)(i0:Nat){b0 b:Nat}{a:List Value}(h:SH w0 w L)(hh:(L[i0]?,xs tab n m [(b0,a)] k e [] [])=(V (Ch.box b0 a b),V (k',e',z,z)))(hk:Run prog n Q k' e' w):Run prog n Q k e w:=by
 simp only[Prod.mk.injEq] at hh;exact((qvj (P:=prog) (Q:=Q) (w:=w) qa m _ _ _ _ _ _ _ _ _ (fun p hp=>by
  simp only[Ja,jQ,or_false] at hp;rcases hp with rfl
  ·exact h.box i0 hh.1) Z hh.2).2 Z).2 hk
theorem Y1 (m:Nat)(i0:Nat){b0 b:Nat}{a:List Value}(h:SH w0 w L)(hh:(L[i0]?,xd tab n all m [(b0,a)] l e [] [])=(V (Ch.box b0 a b),V (l',e',z,z)))(hk:RunD prog n Q k all w l' e'):RunD prog n Q k all w l e:=by
 simp only[Prod.mk.injEq] at hh;exact((qAC (P:=prog) (Q:=Q) (k:=k) (w:=w) (all:=all) qa m _ _ _ _ _ _ _ _ _ (fun p hp=>by
  simp only[Ja,jQ,or_false] at hp;rcases hp with rfl
  ·exact h.box i0 hh.1) Z hh.2).2 Z).2 hk
theorem X2 (m:Nat)(i0 b:Nat){b0 c:Nat}{a:List Value}{b1 d:Nat}{cs1:List Value}(h:SH w0 w L)(hh:(L[i0]?,L[b]?,xs tab n m [(b0,a),(b1,cs1)] k e [] [])=(V (Ch.box b0 a c),V (Ch.box b1 cs1 d),V (k',e',z,z)))(hk:Run prog n Q k' e' w):Run prog n Q k e w:=by
 simp only[Prod.mk.injEq] at hh;exact((qvj (P:=prog) (Q:=Q) (w:=w) qa m _ _ _ _ _ _ _ _ _ (fun p hp=>by
  simp only[Ja,jQ,or_false] at hp;rcases hp with rfl|rfl
  ·exact h.box i0 hh.1
  ·exact h.box b hh.2.1) Z hh.2.2).2 Z).2 hk
theorem X3 (m:Nat)(i0 b c:Nat){b0 d:Nat}{a:List Value}{b1 f:Nat}{cs1:List Value}{b2 g:Nat}{cs2:List Value}(h:SH w0 w L)(hh:(L[i0]?,L[b]?,L[c]?,xs tab n m [(b0,a),(b1,cs1),(b2,cs2)] k e [] [])=(V (Ch.box b0 a d),V (Ch.box b1 cs1 f),V (Ch.box b2 cs2 g),V (k',e',z,z)))(hk:Run prog n Q k' e' w):Run prog n Q k e w:=by
 simp only[Prod.mk.injEq] at hh;exact((qvj (P:=prog) (Q:=Q) (w:=w) qa m _ _ _ _ _ _ _ _ _ (fun p hp=>by
  simp only[Ja,jQ,or_false] at hp;rcases hp with rfl|rfl|rfl
  ·exact h.box i0 hh.1
  ·exact h.box b hh.2.1
  ·exact h.box c hh.2.2.1) Z hh.2.2.2).2 Z).2 hk
theorem X4 (m:Nat)(i0 c d f:Nat){b0 g:Nat}{a:List Value}{b1 i:Nat}{cs1:List Value}{b2 l:Nat}{cs2:List Value}{b o:Nat}{cs3:List Value}(h:SH w0 w L)(hh:(L[i0]?,L[c]?,L[d]?,L[f]?,xs tab n m [(b0,a),(b1,cs1),(b2,cs2),(b,cs3)] k e [] [])=(V (Ch.box b0 a g),V (Ch.box b1 cs1 i),V (Ch.box b2 cs2 l),V (Ch.box b cs3 o),V (k',e',z,z)))(hk:Run prog n Q k' e' w):Run prog n Q k e w:=by
 simp only[Prod.mk.injEq] at hh;exact((qvj (P:=prog) (Q:=Q) (w:=w) qa m _ _ _ _ _ _ _ _ _ (fun p hp=>by
  simp only[Ja,jQ,or_false] at hp;rcases hp with rfl|rfl|rfl|rfl
  ·exact h.box i0 hh.1
  ·exact h.box c hh.2.1
  ·exact h.box d hh.2.2.1
  ·exact h.box f hh.2.2.2.1) Z hh.2.2.2.2).2 Z).2 hk
end
section
variable {w0 w:World}{L:List Ch}{n:Nat}{Q:Exit→Act→World→Prop}{k:List It}{e:Env}{all:Array Oper}{l:List Oper}
theorem zp1 {a:Op}{b g:Nat}{f:String}{d:Array Edge}{c:Value}(h:(pev tab (e) a,Nat.blt b n)=(V c,true))(hk:Run prog n Q (.ops all l::k) ((b,c)::e) w):Run prog n Q (.ops all (⟨V b,a,g,f,d,U⟩::l)::k) e w:=by
 have H:=h;simp only[Prod.mk.injEq] at H;exact rp (H.1) (H.2) (hk)
theorem zd1 {a:Op}{b g:Nat}{f:String}{d:Array Edge}{c:Value}(h:(pev tab (e) a,Nat.blt b n)=(V c,true))(hk:RunD prog n Q k all w l ((b,c)::e)):RunD prog n Q k all w (⟨V b,a,g,f,d,U⟩::l) e:=by
 have H:=h;simp only[Prod.mk.injEq] at H;exact dp (H.1) (H.2) (hk)
theorem zp2 {a:Op}{c r:Nat}{o:String}{i:Array Edge}{f:Value}{b:Op}{d s:Nat}{p:String}{m:Array Edge}{g:Value}(h:(pev tab (e) a,Nat.blt c n,pev tab ((c,f)::e) b,Nat.blt d n)=(V f,true,V g,true))(hk:Run prog n Q (.ops all l::k) ((d,g)::(c,f)::e) w):Run prog n Q (.ops all (⟨V c,a,r,o,i,U⟩::⟨V d,b,s,p,m,U⟩::l)::k) e w:=by
 have H:=h;simp only[Prod.mk.injEq] at H;exact rp (H.1) (H.2.1) (rp (H.2.2.1) (H.2.2.2) (hk))
theorem zd2 {a:Op}{c r:Nat}{o:String}{i:Array Edge}{f:Value}{b:Op}{d s:Nat}{p:String}{m:Array Edge}{g:Value}(h:(pev tab (e) a,Nat.blt c n,pev tab ((c,f)::e) b,Nat.blt d n)=(V f,true,V g,true))(hk:RunD prog n Q k all w l ((d,g)::(c,f)::e)):RunD prog n Q k all w (⟨V c,a,r,o,i,U⟩::⟨V d,b,s,p,m,U⟩::l) e:=by
 have H:=h;simp only[Prod.mk.injEq] at H;exact dp (H.1) (H.2.1) (dp (H.2.2.1) (H.2.2.2) (hk))
theorem zp3 {b:Op}{a t:Nat}{r:String}{m:Array Edge}{f:Value}{c:Op}{d u:Nat}{s:String}{o:Array Edge}{g:Value}{op2:Op}{d2 v:Nat}{s2:String}{p:Array Edge}{i:Value}(h:(pev tab (e) b,Nat.blt a n,pev tab ((a,f)::e) c,Nat.blt d n,pev tab ((d,g)::(a,f)::e) op2,Nat.blt d2 n)=(V f,true,V g,true,V i,true))(hk:Run prog n Q (.ops all l::k) ((d2,i)::(d,g)::(a,f)::e) w):Run prog n Q (.ops all (⟨V a,b,t,r,m,U⟩::⟨V d,c,u,s,o,U⟩::⟨V d2,op2,v,s2,p,U⟩::l)::k) e w:=by
 have H:=h;simp only[Prod.mk.injEq] at H;exact rp (H.1) (H.2.1) (rp (H.2.2.1) (H.2.2.2.1) (rp (H.2.2.2.2.1) (H.2.2.2.2.2) (hk)))
theorem zd3 {b:Op}{a t:Nat}{r:String}{m:Array Edge}{f:Value}{c:Op}{d u:Nat}{s:String}{o:Array Edge}{g:Value}{op2:Op}{d2 v:Nat}{s2:String}{p:Array Edge}{i:Value}(h:(pev tab (e) b,Nat.blt a n,pev tab ((a,f)::e) c,Nat.blt d n,pev tab ((d,g)::(a,f)::e) op2,Nat.blt d2 n)=(V f,true,V g,true,V i,true))(hk:RunD prog n Q k all w l ((d2,i)::(d,g)::(a,f)::e)):RunD prog n Q k all w (⟨V a,b,t,r,m,U⟩::⟨V d,c,u,s,o,U⟩::⟨V d2,op2,v,s2,p,U⟩::l) e:=by
 have H:=h;simp only[Prod.mk.injEq] at H;exact dp (H.1) (H.2.1) (dp (H.2.2.1) (H.2.2.2.1) (dp (H.2.2.2.2.1) (H.2.2.2.2.2) (hk)))
theorem zp4 {c:Op}{a z:Nat}{v:String}{r:Array Edge}{g:Value}{d:Op}{b A:Nat}{x:String}{s:Array Edge}{i:Value}{op2:Op}{d2 B:Nat}{s2:String}{t:Array Edge}{o:Value}{f:Op}{m C:Nat}{y:String}{u:Array Edge}{p:Value}(h:(pev tab (e) c,Nat.blt a n,pev tab ((a,g)::e) d,Nat.blt b n,pev tab ((b,i)::(a,g)::e) op2,Nat.blt d2 n,pev tab ((d2,o)::(b,i)::(a,g)::e) f,Nat.blt m n)=(V g,true,V i,true,V o,true,V p,true))(hk:Run prog n Q (.ops all l::k) ((m,p)::(d2,o)::(b,i)::(a,g)::e) w):Run prog n Q (.ops all (⟨V a,c,z,v,r,U⟩::⟨V b,d,A,x,s,U⟩::⟨V d2,op2,B,s2,t,U⟩::⟨V m,f,C,y,u,U⟩::l)::k) e w:=by
 have H:=h;simp only[Prod.mk.injEq] at H;exact rp (H.1) (H.2.1) (rp (H.2.2.1) (H.2.2.2.1) (rp (H.2.2.2.2.1) (H.2.2.2.2.2.1) (rp (H.2.2.2.2.2.2.1) (H.2.2.2.2.2.2.2) (hk))))
theorem zd4 {c:Op}{a z:Nat}{v:String}{r:Array Edge}{g:Value}{d:Op}{b A:Nat}{x:String}{s:Array Edge}{i:Value}{op2:Op}{d2 B:Nat}{s2:String}{t:Array Edge}{o:Value}{f:Op}{m C:Nat}{y:String}{u:Array Edge}{p:Value}(h:(pev tab (e) c,Nat.blt a n,pev tab ((a,g)::e) d,Nat.blt b n,pev tab ((b,i)::(a,g)::e) op2,Nat.blt d2 n,pev tab ((d2,o)::(b,i)::(a,g)::e) f,Nat.blt m n)=(V g,true,V i,true,V o,true,V p,true))(hk:RunD prog n Q k all w l ((m,p)::(d2,o)::(b,i)::(a,g)::e)):RunD prog n Q k all w (⟨V a,c,z,v,r,U⟩::⟨V b,d,A,x,s,U⟩::⟨V d2,op2,B,s2,t,U⟩::⟨V m,f,C,y,u,U⟩::l) e:=by
 have H:=h;simp only[Prod.mk.injEq] at H;exact dp (H.1) (H.2.1) (dp (H.2.2.1) (H.2.2.2.1) (dp (H.2.2.2.2.1) (H.2.2.2.2.2.1) (dp (H.2.2.2.2.2.2.1) (H.2.2.2.2.2.2.2) (hk))))
theorem zp5 {d:Op}{a D:Nat}{z:String}{t:Array Edge}{c:Value}{f:Op}{b F:Nat}{A:String}{u:Array Edge}{i:Value}{op2:Op}{d2 I:Nat}{s2:String}{v:Array Edge}{o:Value}{g:Op}{m J:Nat}{B:String}{x:Array Edge}{r:Value}{op4:Op}{p K:Nat}{C:String}{y:Array Edge}{s:Value}(h:(pev tab (e) d,Nat.blt a n,pev tab ((a,c)::e) f,Nat.blt b n,pev tab ((b,i)::(a,c)::e) op2,Nat.blt d2 n,pev tab ((d2,o)::(b,i)::(a,c)::e) g,Nat.blt m n,pev tab ((m,r)::(d2,o)::(b,i)::(a,c)::e) op4,Nat.blt p n)=(V c,true,V i,true,V o,true,V r,true,V s,true))(hk:Run prog n Q (.ops all l::k) ((p,s)::(m,r)::(d2,o)::(b,i)::(a,c)::e) w):Run prog n Q (.ops all (⟨V a,d,D,z,t,U⟩::⟨V b,f,F,A,u,U⟩::⟨V d2,op2,I,s2,v,U⟩::⟨V m,g,J,B,x,U⟩::⟨V p,op4,K,C,y,U⟩::l)::k) e w:=by
 have H:=h;simp only[Prod.mk.injEq] at H;exact rp (H.1) (H.2.1) (rp (H.2.2.1) (H.2.2.2.1) (rp (H.2.2.2.2.1) (H.2.2.2.2.2.1) (rp (H.2.2.2.2.2.2.1) (H.2.2.2.2.2.2.2.1) (rp (H.2.2.2.2.2.2.2.2.1) (H.2.2.2.2.2.2.2.2.2) (hk)))))
theorem zd5 {d:Op}{a D:Nat}{z:String}{t:Array Edge}{c:Value}{f:Op}{b F:Nat}{A:String}{u:Array Edge}{i:Value}{op2:Op}{d2 I:Nat}{s2:String}{v:Array Edge}{o:Value}{g:Op}{m J:Nat}{B:String}{x:Array Edge}{r:Value}{op4:Op}{p K:Nat}{C:String}{y:Array Edge}{s:Value}(h:(pev tab (e) d,Nat.blt a n,pev tab ((a,c)::e) f,Nat.blt b n,pev tab ((b,i)::(a,c)::e) op2,Nat.blt d2 n,pev tab ((d2,o)::(b,i)::(a,c)::e) g,Nat.blt m n,pev tab ((m,r)::(d2,o)::(b,i)::(a,c)::e) op4,Nat.blt p n)=(V c,true,V i,true,V o,true,V r,true,V s,true))(hk:RunD prog n Q k all w l ((p,s)::(m,r)::(d2,o)::(b,i)::(a,c)::e)):RunD prog n Q k all w (⟨V a,d,D,z,t,U⟩::⟨V b,f,F,A,u,U⟩::⟨V d2,op2,I,s2,v,U⟩::⟨V m,g,J,B,x,U⟩::⟨V p,op4,K,C,y,U⟩::l) e:=by
 have H:=h;simp only[Prod.mk.injEq] at H;exact dp (H.1) (H.2.1) (dp (H.2.2.1) (H.2.2.2.1) (dp (H.2.2.2.2.1) (H.2.2.2.2.2.1) (dp (H.2.2.2.2.2.2.1) (H.2.2.2.2.2.2.2.1) (dp (H.2.2.2.2.2.2.2.2.1) (H.2.2.2.2.2.2.2.2.2) (hk)))))
theorem zl (i j:Nat){d t ty:Nat}{x:Operand}{te:TE}{ps:String}{af:Array Edge}{v:Value}{b:Nat}{cs:List Value}{t':TypeId}(h:SH w0 w L)(hh:(L[i]?,opv e x,tab.get t,ld te cs j,Nat.blt d n)=(V (Ch.box b cs t'),V (.pointer (V ⟨b,0+j,U⟩)),V te,V v,true))
  (hk:Run prog n Q (.ops all l::k) ((d,v)::e) w):Run prog n Q (.ops all (⟨V d,.load t x,ty,ps,af,U⟩::l)::k) e w:=by
 simp only[Prod.mk.injEq] at hh;exact r_v (qia qa (h.box i hh.1) (j:=j) hh.2.1 hh.2.2.1 hh.2.2.2.1) hh.2.2.2.2 hk
theorem zc (j:Nat){d t ty:Nat}{x:Operand}{te:TE}{ps:String}{af:Array Edge}{v:Value}{b o:Nat}{cs:List Value}(h:CellsAt w b o cs)(hh:(opv e x,tab.get t,ld te cs j,Nat.blt d n)=(V (.pointer (V ⟨b,o+j,U⟩)),V te,V v,true))
  (hk:Run prog n Q (.ops all l::k) ((d,v)::e) w):Run prog n Q (.ops all (⟨V d,.load t x,ty,ps,af,U⟩::l)::k) e w:=by
 simp only[Prod.mk.injEq] at hh;exact r_v (qia qa h (j:=j) hh.1 hh.2.1 hh.2.2.1) hh.2.2.2 hk
theorem zdc (j:Nat){d t ty:Nat}{x:Operand}{te:TE}{ps:String}{af:Array Edge}{v:Value}{b o:Nat}{cs:List Value}(h:CellsAt w b o cs)(hh:(opv e x,tab.get t,ld te cs j,Nat.blt d n)=(V (.pointer (V ⟨b,o+j,U⟩)),V te,V v,true))
  (hk:RunD prog n Q k all w l ((d,v)::e)):RunD prog n Q k all w (⟨V d,.load t x,ty,ps,af,U⟩::l) e:=by
 simp only[Prod.mk.injEq] at hh;exact d_v (fun _ hb=>qia qa (h.below hb) (j:=j) hh.1 hh.2.1 hh.2.2.1) hh.2.2.2 hk
theorem zx {x i:Operand}{t ty d el m:Nat}{te a:TE}{ps:String}{af:Array Edge}{p:Option Addr}{ln c:Nat}{kd:IntKind}{iv:Int}{b o q:Nat}(hp:p=V ⟨b,o,U⟩)(hq:q=o+iv.toNat*m)(hlt:0≤iv∧iv<ln)(hh:(opv e x,opv e i,tab.get t,te.kind,tab.get el,a.size,Nat.blt d n)=(V (.slice p ln c),V (.int kd iv),V te,TK.slice el,V a,m,true))(hk:Run prog n Q (.ops all l::k) ((d,.pointer (V ⟨b,q,U⟩))::e) w):Run prog n Q (.ops all (⟨V d,.indexAddr t x i,ty,ps,af,U⟩::l)::k) e w:=by
 simp only[Prod.mk.injEq] at hh;exact r_v (qv7 qa hp hq hlt hh.1 hh.2.1 hh.2.2.1 hh.2.2.2.1 hh.2.2.2.2.1 hh.2.2.2.2.2.1) hh.2.2.2.2.2.2 hk
theorem zxe {x i:Operand}{t ty d el m:Nat}{te a:TE}{ps:String}{af:Array Edge}{p:Option Addr}{ln c:Nat}{kd:IntKind}{iv:Int}{b o q:Nat}{α:Prop}(hp:p=V ⟨b,o,U⟩)(hq:q=o+iv.toNat*m)(hlt:0≤iv∧iv<ln∧α)(hh:(opv e x,opv e i,tab.get t,te.kind,tab.get el,a.size,Nat.blt d n)=(V (.slice p ln c),V (.int kd iv),V te,TK.slice el,V a,m,true))(hk:Run prog n Q (.ops all l::k) ((d,.pointer (V ⟨b,q,U⟩))::e) w):Run prog n Q (.ops all (⟨V d,.indexAddr t x i,ty,ps,af,U⟩::l)::k) e w:=zx hp hq ⟨hlt.1,hlt.2.1⟩ hh hk
theorem zdx {x i:Operand}{t ty d el m:Nat}{te a:TE}{ps:String}{af:Array Edge}{p:Option Addr}{ln c:Nat}{kd:IntKind}{iv:Int}{b o q:Nat}(hp:p=V ⟨b,o,U⟩)(hq:q=o+iv.toNat*m)(hlt:0≤iv∧iv<ln)(hh:(opv e x,opv e i,tab.get t,te.kind,tab.get el,a.size,Nat.blt d n)=(V (.slice p ln c),V (.int kd iv),V te,TK.slice el,V a,m,true))(hk:RunD prog n Q k all w l ((d,.pointer (V ⟨b,q,U⟩))::e)):RunD prog n Q k all w (⟨V d,.indexAddr t x i,ty,ps,af,U⟩::l) e:=by
 simp only[Prod.mk.injEq] at hh;exact d_v (fun _ _=>qv7 qa hp hq hlt hh.1 hh.2.1 hh.2.2.1 hh.2.2.2.1 hh.2.2.2.2.1 hh.2.2.2.2.2.1) hh.2.2.2.2.2.2 hk
theorem zdxe {x i:Operand}{t ty d el m:Nat}{te a:TE}{ps:String}{af:Array Edge}{p:Option Addr}{ln c:Nat}{kd:IntKind}{iv:Int}{b o q:Nat}{α:Prop}(hp:p=V ⟨b,o,U⟩)(hq:q=o+iv.toNat*m)(hlt:0≤iv∧iv<ln∧α)(hh:(opv e x,opv e i,tab.get t,te.kind,tab.get el,a.size,Nat.blt d n)=(V (.slice p ln c),V (.int kd iv),V te,TK.slice el,V a,m,true))(hk:RunD prog n Q k all w l ((d,.pointer (V ⟨b,q,U⟩))::e)):RunD prog n Q k all w (⟨V d,.indexAddr t x i,ty,ps,af,U⟩::l) e:=zdx hp hq ⟨hlt.1,hlt.2.1⟩ hh hk
theorem zs (i:Nat){t ty:Nat}{ps:String}{af:Array Edge}{x v:Operand}{te:TE}{b j:Nat}{cs us cs':List Value}{t':TypeId}{u:Value}{L':List Ch}(h:SH w0 w L)
  (hh:(L[i]?,opv e x,opv e v,cellsL u,tab.get t,Nat.beq us.length te.size,Nat.ble (j+us.length) cs.length,ones us,splN cs j us,setN L i (Ch.box b cs' t'))=(V (Ch.box b cs t'),V (.pointer (V ⟨b,j,U⟩)),V u,us,V te,true,true,true,V cs',V L'))
  (hk:∀ w',SH w0 w' L'→Run prog n Q (.ops all l::k) e w'):Run prog n Q (.ops all (⟨U,.store t x v,ty,ps,af,U⟩::l)::k) e w:=by
 simp only[Prod.mk.injEq] at hh;obtain⟨d,f,g,m,o,p,r,s,y,a⟩:=hh;subst m;have e1:=quc y;have c:=qxc a;subst e1 c;exact qAu qa i h d f g o p r s hk
end
section
variable {P:Program}{fnc:Func}{R:Ending→World→Prop}{n:Nat}{k:List It}{e:Env}{w0 w:World}{ops:Array Oper}{st:List Nat}{fuel:Nat}
theorem M0 (K:Nat)(is:List Nat){C:World→Prop}{m K0 f f':Nat}{e':Env}{z:List Nat}(hC:C w)(hh:xa tab n ops is [] f e [] []=V (f',e',z,z))
  (hk:RunA prog n (bodyPost prog fnc R) k ops st C f' (bits m K) e' w) (ho:oka ops st is (bits m K0) (bits m K)=true:=by kernel_rfl):RunA prog n (bodyPost prog fnc R) k ops st C f (bits m K0) e w:=by
 exact((qu1 (C:=C) (w:=w) (P:=prog) qa hC is _ _ _ _ _ _ _ _ _ _ _ (fun _ h=>by cases h) rfl hh ho).2 rfl).2 hk
theorem G0 (K:Nat)(is:List Nat){C:World→Prop}{m K0 f f':Nat}{e':Env}{z:List Nat}{all:Array Oper}(hC:C w)(hh:xa tab n ops is [] f e [] []=V (f',e',z,z))
  (hk:RunA prog n (bodyPost prog fnc R) k ops st C f' (bits m K) e' w) (ho:oka ops st is (bits m K0) (bits m K)=true:=by kernel_rfl):Run prog n (bodyPost prog fnc R) (.ops all []::.goal (NextA prog n (bodyPost prog fnc R) k ops st C f (bits m K0))::k) e w:=
 Ag hC (M0 K is (C:=C) hC hh hk ho)
theorem M1 (K:Nat)(is:List Nat)(i0:Nat){b0 b:Nat}{a:List Value}{LA:List Ch}{m K0 f f':Nat}{e':Env}{z:List Nat}(hC:SH w0 w LA)(hh:(LA[i0]?,xa tab n ops is [(b0,a)] f e [] [])=(V (Ch.box b0 a b),V (f',e',z,z)))
  (hk:RunA prog n (bodyPost prog fnc R) k ops st (fun w'=>SH w0 w' LA) f' (bits m K) e' w) (ho:oka ops st is (bits m K0) (bits m K)=true:=by kernel_rfl):RunA prog n (bodyPost prog fnc R) k ops st (fun w'=>SH w0 w' LA) f (bits m K0) e w:=by
 simp only[Prod.mk.injEq] at hh;exact((qu1 (C:=(fun w'=>SH w0 w' LA)) (w:=w) (P:=prog) qa hC is _ _ _ _ _ _ _ _ _ _ _ (fun p hp _ hw=>by
  simp only[Ja,jQ,or_false] at hp;rcases hp with rfl
  ·exact SH.box hw i0 hh.1) Z hh.2 ho).2 Z).2 hk
theorem M2 (K:Nat)(is:List Nat)(i0 b:Nat){b0 c:Nat}{a:List Value}{b1 d:Nat}{cs1:List Value}{LA:List Ch}{m K0 f f':Nat}{e':Env}{z:List Nat}(hC:SH w0 w LA)(hh:(LA[i0]?,LA[b]?,xa tab n ops is [(b0,a),(b1,cs1)] f e [] [])=(V (Ch.box b0 a c),V (Ch.box b1 cs1 d),V (f',e',z,z)))
  (hk:RunA prog n (bodyPost prog fnc R) k ops st (fun w'=>SH w0 w' LA) f' (bits m K) e' w) (ho:oka ops st is (bits m K0) (bits m K)=true:=by kernel_rfl):RunA prog n (bodyPost prog fnc R) k ops st (fun w'=>SH w0 w' LA) f (bits m K0) e w:=by
 simp only[Prod.mk.injEq] at hh;exact((qu1 (C:=(fun w'=>SH w0 w' LA)) (w:=w) (P:=prog) qa hC is _ _ _ _ _ _ _ _ _ _ _ (fun p hp _ hw=>by
  simp only[Ja,jQ,or_false] at hp;rcases hp with rfl|rfl
  ·exact SH.box hw i0 hh.1
  ·exact SH.box hw b hh.2.1) Z hh.2.2 ho).2 Z).2 hk
theorem M3 (K:Nat)(is:List Nat)(i0 b c:Nat){b0 d:Nat}{a:List Value}{b1 g:Nat}{cs1:List Value}{b2 h:Nat}{cs2:List Value}{LA:List Ch}{m K0 f f':Nat}{e':Env}{z:List Nat}(hC:SH w0 w LA)(hh:(LA[i0]?,LA[b]?,LA[c]?,xa tab n ops is [(b0,a),(b1,cs1),(b2,cs2)] f e [] [])=(V (Ch.box b0 a d),V (Ch.box b1 cs1 g),V (Ch.box b2 cs2 h),V (f',e',z,z)))
  (hk:RunA prog n (bodyPost prog fnc R) k ops st (fun w'=>SH w0 w' LA) f' (bits m K) e' w) (ho:oka ops st is (bits m K0) (bits m K)=true:=by kernel_rfl):RunA prog n (bodyPost prog fnc R) k ops st (fun w'=>SH w0 w' LA) f (bits m K0) e w:=by
 simp only[Prod.mk.injEq] at hh;exact((qu1 (C:=(fun w'=>SH w0 w' LA)) (w:=w) (P:=prog) qa hC is _ _ _ _ _ _ _ _ _ _ _ (fun p hp _ hw=>by
  simp only[Ja,jQ,or_false] at hp;rcases hp with rfl|rfl|rfl
  ·exact SH.box hw i0 hh.1
  ·exact SH.box hw b hh.2.1
  ·exact SH.box hw c hh.2.2.1) Z hh.2.2.2 ho).2 Z).2 hk
theorem M4 (K:Nat)(is:List Nat)(i0 c d g:Nat){b0 h:Nat}{a:List Value}{b1 i:Nat}{cs1:List Value}{b2 l:Nat}{cs2:List Value}{b o:Nat}{cs3:List Value}{LA:List Ch}{m K0 f f':Nat}{e':Env}{z:List Nat}(hC:SH w0 w LA)(hh:(LA[i0]?,LA[c]?,LA[d]?,LA[g]?,xa tab n ops is [(b0,a),(b1,cs1),(b2,cs2),(b,cs3)] f e [] [])=(V (Ch.box b0 a h),V (Ch.box b1 cs1 i),V (Ch.box b2 cs2 l),V (Ch.box b cs3 o),V (f',e',z,z)))
  (hk:RunA prog n (bodyPost prog fnc R) k ops st (fun w'=>SH w0 w' LA) f' (bits m K) e' w) (ho:oka ops st is (bits m K0) (bits m K)=true:=by kernel_rfl):RunA prog n (bodyPost prog fnc R) k ops st (fun w'=>SH w0 w' LA) f (bits m K0) e w:=by
 simp only[Prod.mk.injEq] at hh;exact((qu1 (C:=(fun w'=>SH w0 w' LA)) (w:=w) (P:=prog) qa hC is _ _ _ _ _ _ _ _ _ _ _ (fun p hp _ hw=>by
  simp only[Ja,jQ,or_false] at hp;rcases hp with rfl|rfl|rfl|rfl
  ·exact SH.box hw i0 hh.1
  ·exact SH.box hw c hh.2.1
  ·exact SH.box hw d hh.2.2.1
  ·exact SH.box hw g hh.2.2.2.1) Z hh.2.2.2.2 ho).2 Z).2 hk
theorem Aw (i K:Nat){C:World→Prop}{m K0 d:Nat}{op:Op}{t:Nat}{ps:String}{af:Array Edge}{v:Value}(hv:∀ w',C w'→Val prog n e ⟨V d,op,t,ps,af,U⟩ w' v)(hC:C w)(hh:(ops[i]?,Nat.blt d n)=(V (⟨V d,op,t,ps,af,U⟩:Oper),true))
  (hk:RunA prog n (bodyPost prog fnc R) k ops st C fuel (bits m K) ((d,v)::e) w) (hl:(bits m K0).setIfInBounds i true=bits m K:=by kernel_rfl)
  (hb:(Region.noSelect ops&&Region.free .any ops (bits m K0) i&&(Region.ready .any ops (bits m K0)).contains i&&st.all (fun s=>!(Nat.beq s i)&&waitsB ops i s&&!((bits m K0).getD s true)))=true:=by kernel_rfl) :
  RunA prog n (bodyPost prog fnc R) k ops st C (fuel+1) (bits m K0) e w:=by
 simp only[Prod.mk.injEq] at hh;exact qkS i hh.1 _ hl hb hv hC hh.2 hk
theorem Al (i K j:Nat){LA:List Ch}{m K0 d t ty b o:Nat}{x:Operand}{te:TE}{ps:String}{af:Array Edge}{v:Value}{cs:List Value}(hc:CellsAt w0 b o cs)(hC:SH w0 w LA)
  (hh:(ops[i]?,opv e x,tab.get t,ld te cs j,Nat.blt d n)=(V (⟨V d,.load t x,ty,ps,af,U⟩:Oper),V (.pointer (V ⟨b,o+j,U⟩)),V te,V v,true))
  (hk:RunA prog n (bodyPost prog fnc R) k ops st (fun w'=>SH w0 w' LA) fuel (bits m K) ((d,v)::e) w) (hl:(bits m K0).setIfInBounds i true=bits m K:=by kernel_rfl)
  (hb:(Region.noSelect ops&&Region.free .any ops (bits m K0) i&&(Region.ready .any ops (bits m K0)).contains i&&st.all (fun s=>!(Nat.beq s i)&&waitsB ops i s&&!((bits m K0).getD s true)))=true:=by kernel_rfl) :
  RunA prog n (bodyPost prog fnc R) k ops st (fun w'=>SH w0 w' LA) (fuel+1) (bits m K0) e w:=by
 simp only[Prod.mk.injEq] at hh;exact qkS i hh.1 _ hl hb (fun w' hw=>qia qa (hc.below hw.below) (j:=j) hh.2.1 hh.2.2.1 hh.2.2.2.1) hC hh.2.2.2.2 hk
theorem Ax (i K:Nat){C:World→Prop}{m K0 d t ty el q:Nat}{x ix:Operand}{te a:TE}{ps:String}{af:Array Edge}{p:Option Addr}{ln c sz:Nat}{kd:IntKind}{iv:Int}{b o:Nat}(hp:p=V ⟨b,o,U⟩)(hq:q=o+iv.toNat*sz)(hlt:0≤iv∧iv<ln)(hC:C w)
  (hh:(ops[i]?,opv e x,opv e ix,tab.get t,te.kind,tab.get el,a.size,Nat.blt d n)=(V (⟨V d,.indexAddr t x ix,ty,ps,af,U⟩:Oper),V (.slice p ln c),V (.int kd iv),V te,TK.slice el,V a,sz,true))
  (hk:RunA prog n (bodyPost prog fnc R) k ops st C fuel (bits m K) ((d,.pointer (V ⟨b,q,U⟩))::e) w) (hl:(bits m K0).setIfInBounds i true=bits m K:=by kernel_rfl)
  (hb:(Region.noSelect ops&&Region.free .any ops (bits m K0) i&&(Region.ready .any ops (bits m K0)).contains i&&st.all (fun s=>!(Nat.beq s i)&&waitsB ops i s&&!((bits m K0).getD s true)))=true:=by kernel_rfl) :
  RunA prog n (bodyPost prog fnc R) k ops st C (fuel+1) (bits m K0) e w:=by
 simp only[Prod.mk.injEq] at hh;exact qkS i hh.1 _ hl hb (fun w' _=>qv7 qa hp hq hlt hh.2.1 hh.2.2.1 hh.2.2.2.1 hh.2.2.2.2.1 hh.2.2.2.2.2.1 hh.2.2.2.2.2.2.1) hC hh.2.2.2.2.2.2.2 hk
theorem Ae (i K:Nat){C:World→Prop}{m K0 d t ty el q:Nat}{x ix:Operand}{te a:TE}{ps:String}{af:Array Edge}{p:Option Addr}{ln c sz:Nat}{kd:IntKind}{iv:Int}{b o:Nat}{α:Prop}(hp:p=V ⟨b,o,U⟩)(hq:q=o+iv.toNat*sz)(hlt:0≤iv∧iv<ln∧α)(hC:C w)
  (hh:(ops[i]?,opv e x,opv e ix,tab.get t,te.kind,tab.get el,a.size,Nat.blt d n)=(V (⟨V d,.indexAddr t x ix,ty,ps,af,U⟩:Oper),V (.slice p ln c),V (.int kd iv),V te,TK.slice el,V a,sz,true))
  (hk:RunA prog n (bodyPost prog fnc R) k ops st C fuel (bits m K) ((d,.pointer (V ⟨b,q,U⟩))::e) w) (hl:(bits m K0).setIfInBounds i true=bits m K:=by kernel_rfl)
  (hb:(Region.noSelect ops&&Region.free .any ops (bits m K0) i&&(Region.ready .any ops (bits m K0)).contains i&&st.all (fun s=>!(Nat.beq s i)&&waitsB ops i s&&!((bits m K0).getD s true)))=true:=by kernel_rfl) :
  RunA prog n (bodyPost prog fnc R) k ops st C (fuel+1) (bits m K0) e w:=Ax i K hp hq ⟨hlt.1,hlt.2.1⟩ hC hh hk hl hb
theorem rb {fn:Func}{L:List Ch}{x r:Bool}(h:SH w0 w L)(F:V x=V r)(hr:res1 e fn.results.toList=V (.bool x)) :
  Run prog n (bodyPost prog fn fun e w'=>∃ v,e=.returned v∧Below w0.heap.size w0 w'∧∃ us,v=tup us∧GoVs.Vs w' (fresh w0 w') r us) (.code .ret::k) e w:=qBz qa h F (qw0 hr)
theorem ri {fn:Func}{L:List Ch}{x r:Int}(h:SH w0 w L)(F:V x=V r)(hr:res1 e fn.results.toList=V (.int .i64 x)) :
  Run prog n (bodyPost prog fn fun e w'=>∃ v,e=.returned v∧Below w0.heap.size w0 w'∧∃ us,v=tup us∧GoVs.Vs w' (fresh w0 w') r us) (.code .ret::k) e w:=qBA qa h F (qw0 hr)
theorem rO {fn:Func}{L:List Ch}{α:Type}[GoT α]{r:α}{S:Nat→Prop}{cs:List Value}(i:Nat)(h:SH w0 w L)(hi:L[i]?=V (Ch.own S r cs))(hr:ResOk tab e w fn.results.toList [GoT.v α cs]) :
  Run prog n (bodyPost prog fn fun e w'=>∃ v,e=.returned v∧Below w0.heap.size w0 w'∧∃ us,v=tup us∧GoVs.Vs w' (fresh w0 w') r us) (.code .ret::k) e w:=qX qa _ h hr (PV.done h (qad (qak i h hi)))
theorem zV {ρ:Type}[GoVs ρ]{f:FuncId}{fn:Func}{c:Code}{vs:List Value}{r:ρ}(m:Nat)(hf:prog.funcs[f]?=V fn)(hh:(fn.body,fn.ntmps,Nat.ble vs.length m)=(V c,m,true))
  (h:SH w w []→Run prog m (bodyPost prog fn fun e w'=>∃ v,e=.returned v∧Below w.heap.size w w'∧∃ us,v=tup us∧GoVs.Vs w' (fresh w w') r us) [.code c] (argEnv 0 vs) w):RetV prog f vs w r:=by
 simp only[Prod.mk.injEq] at hh;exact qvs hf hh.1 hh.2.1 hh.2.2 h
end
section
variable {w0 w:World}{L:List Ch}{n:Nat}{Q:Exit→Act→World→Prop}{k:List It}{e:Env}{all:Array Oper}{l:List Oper}{d ty:Nat}{ps:String}{af:Array Edge}{x:Operand}{args:Array Operand}{ats:Array TypeId}{f:FuncId}{fi ca:Array Value}{av vs:List Value}{β:Type}{rr:β}
theorem zcI {F:Option Int}{g:Int→Option β}(h:SH w0 w L)(hF:F.bind g=V rr)(hc:∀ {r},F=V r→RetV prog f vs w r)
  (hh:(opv e x,opvs e args.toList,fi.toList++av++ca.toList,Nat.blt d n)=(V (.func (.func f) fi ca),V av,vs,true))
  (hk:∀ r w' ,SH w0 w' (L)→g r=V rr→Run prog n Q (.ops all l::k) ((d,.int .i64 r)::e) w') (hcall:qfX prog f:=by exact cA Z):Run prog n Q (.ops all (⟨V d,.call ⟨.value x,args,ats⟩,ty,ps,af,U⟩::l)::k) e w:=by
 obtain⟨r,hr,hF⟩:=qd hF;simp only[Prod.mk.injEq] at hh;exact qcw r h hcall (hc hr) hh.1 hh.2.1 hh.2.2.1 hh.2.2.2 (fun w'  h'=>hk r w'  h' hF)
theorem zcB {F:Option Bool}{g:Bool→Option β}(h:SH w0 w L)(hF:F.bind g=V rr)(hc:∀ {r},F=V r→RetV prog f vs w r)
  (hh:(opv e x,opvs e args.toList,fi.toList++av++ca.toList,Nat.blt d n)=(V (.func (.func f) fi ca),V av,vs,true))
  (hk:∀ r w' ,SH w0 w' (L)→g r=V rr→Run prog n Q (.ops all l::k) ((d,.bool r)::e) w') (hcall:qfX prog f:=by exact cA Z):Run prog n Q (.ops all (⟨V d,.call ⟨.value x,args,ats⟩,ty,ps,af,U⟩::l)::k) e w:=by
 obtain⟨r,hr,hF⟩:=qd hF;simp only[Prod.mk.injEq] at hh;exact qzE r h hcall (hc hr) hh.1 hh.2.1 hh.2.2.1 hh.2.2.2 (fun w'  h'=>hk r w'  h' hF)
theorem zcS {F:Option ByteArray}{g:ByteArray→Option β}(h:SH w0 w L)(hF:F.bind g=V rr)(hc:∀ {r},F=V r→RetV prog f vs w r)
  (hh:(opv e x,opvs e args.toList,fi.toList++av++ca.toList,Nat.blt d n)=(V (.func (.func f) fi ca),V av,vs,true))
  (hk:∀ r w' ,SH w0 w' (L)→g r=V rr→Run prog n Q (.ops all l::k) ((d,.string r)::e) w') (hcall:qfX prog f:=by exact cA Z):Run prog n Q (.ops all (⟨V d,.call ⟨.value x,args,ats⟩,ty,ps,af,U⟩::l)::k) e w:=by
 obtain⟨r,hr,hF⟩:=qd hF;simp only[Prod.mk.injEq] at hh;exact qzC r h hcall (hc hr) hh.1 hh.2.1 hh.2.2.1 hh.2.2.2 (fun w'  h'=>hk r w'  h' hF)
theorem zcL {α:Type}[GoT α]{F:Option (List α)}{g:(List α)→Option β}(h:SH w0 w L)(hF:F.bind g=V rr)(hc:∀ {r},F=V r→RetV prog f vs w r)
  (hh:(opv e x,opvs e args.toList,fi.toList++av++ca.toList,Nat.blt d n)=(V (.func (.func f) fi ca),V av,vs,true))
  (hk:∀ r w' S p c,SH w0 w' (Ch.own S r [.slice p r.length c]::L)→g r=V rr→Run prog n Q (.ops all l::k) ((d,.slice p r.length c)::e) w') (hcall:qfX prog f:=by exact cA Z):Run prog n Q (.ops all (⟨V d,.call ⟨.value x,args,ats⟩,ty,ps,af,U⟩::l)::k) e w:=by
 obtain⟨r,hr,hF⟩:=qd hF;simp only[Prod.mk.injEq] at hh;exact qa2 r h hcall (hc hr) hh.1 hh.2.1 hh.2.2.1 hh.2.2.2 (fun w' S p c h'=>hk r w' S p c h' hF)
theorem zcO {α:Type}[GoT α]{F:Option α}{g:α→Option β}(h:SH w0 w L)(hF:F.bind g=V rr)(hc:∀ {r},F=V r→RetV prog f vs w r)
  (hh:(opv e x,opvs e args.toList,fi.toList++av++ca.toList,Nat.blt d n)=(V (.func (.func f) fi ca),V av,vs,true))
  (hk:∀ r w' S cs,SH w0 w' (Ch.own S r cs::L)→g r=V rr→Run prog n Q (.ops all l::k) ((d,GoT.v α cs)::e) w') (hcall:qfX prog f:=by exact cA Z):Run prog n Q (.ops all (⟨V d,.call ⟨.value x,args,ats⟩,ty,ps,af,U⟩::l)::k) e w:=by
 obtain⟨r,hr,hF⟩:=qd hF;simp only[Prod.mk.injEq] at hh;exact qeC r h hcall (hc hr) hh.1 hh.2.1 hh.2.2.1 hh.2.2.2 (fun w' S cs h'=>hk r w' S cs h' hF)
end
def noC:List Nat:=[0,1,302,331]
theorem allC:((List.range 337).all fun f=>noC.contains f || callB prog f)=true:=by kernel_rfl
theorem cA {f:Nat}(h:(Nat.blt f 337&&!noC.contains f)=true):qfX prog f:=by
 rw[jf,Nat.blt_eq,jF] at h;have:=List.all_eq_true.1 allC f (List.mem_range.2 h.1);rw[h.2] at this;exact qyw this
theorem cB (f:Nat)(h:(Nat.blt f 337&&!noC.contains f)=true):qfX prog f:=cA h
def qcq (_:Nat)(a:(List Int))(left:Int):Option Int:=
 bif decide ((W64 (left-(a.length:Int)))<0) then V (-1) else
 V (W64 (left-(a.length:Int)))
theorem qca {a:(List Int)}{left:Int}(b:Ro w a cs1){r:Int}(F:qcq n a left=V r):RetV prog 129 [GoT.v (List Int) cs1,.int .i64 left] w r:=by
 obtain⟨_,_,rfl,_⟩:=b;refine zV 12 func129 Z fun h=>X0 18 Z (qi Z F ?_ ?_)<;>intro F
 ·exact X0 4 Z (ri h F Z)
 exact X0 6 Z (ri h F Z)
def qlS (_:Nat)(a:qat)(left:Int):Option Int:=
 bif decide ((W64 (left-(a.Az.size:Int)))<0) then V (-1) else
 V (W64 (left-(a.Az.size:Int)))
theorem qtr {a:qat}{left:Int}(b:Ro w a cs1){r:Int}(F:qlS n a left=V r):RetV prog 250 [GoT.v qat cs1,.int .i64 left] w r:=by
 obtain rfl:=qa5 b;refine zV 13 func250 Z fun h=>zSR (qw h Z Z fun _ _ h=>X1 17 0 h Z (qi Z F ?_ ?_))<;>intro F
 ·exact X0 4 Z (ri h F Z)
 exact X0 6 Z (ri h F Z)
def qgj (a:(List qat)):Nat→Int→Int→Option (Flow Int (Int×Int))
 | 0,_,_=>U
 | n+1,c,b=>
  bif decide (b<(a.length:Int)) then
   (idx a b).bind fun f=>
   (qlS n f c).bind fun d=>
   bif decide (d<0) then V (.ret (-1)) else
   qgj a n d (W64 (b+1))
  else
   V (.nxt (c,b))
def qop (n:Nat)(a:(List qat))(left:Int):Option Int:=
 bif decide ((W64 (left-(a.length:Int)))<0) then V (-1) else
 (qgj a n (W64 (left-(a.length:Int))) 0).bind fun o=>match o with
 | .ret r=>V r
 | .nxt (b,_)=>
  V b
theorem qsO {a:(List qat)}{left:Int}(c:Ro w a cs1){r:Int}(F:qop n a left=V r):RetV prog 200 [GoT.v (List qat) cs1,.int .i64 left] w r:=by
 obtain⟨u,s,rfl,v⟩:=c;refine zV 27 func200 Z fun h=>X0 18 Z (qi Z F ?_ ?_)<;>intro F
 ·exact X0 4 Z (ri h F Z)
 refine X0 6 Z ?_;obtain⟨t,F,b⟩:=qd F;refine qn (rL (fun m e w'=>∃(l:Int) (o:Int),qgj a m l o=V t∧e=[(0,.slice u a.length s),(1,.int .i64 l),(5,.int .i64 o)]∧SH w w' []) n ⟨_,_,F,rfl,h⟩ Z ?_);rintro p _ _ ⟨l,o,F,rfl,h⟩;rcases p with _|p
 ·cases F
 refine X0 8 Z (qi Z F ?_ ?_)<;>intro F
 ·refine X0 7 Z ?_;obtain⟨x,_,F,f,_,_,_,_,g,i,k,d⟩:=v.ix F;obtain rfl:=qa5 k;refine zxe g i f Z (zc 0 (d.below h.below) Z (zp1 Z (zcI h F (qtr (qev x)) Z fun _ _ h F=>X0 7 Z (qi Z F ?_ ?_))))<;>intro F
  ·refine X0 4 Z ?_;obtain rfl:=qb F;replace F:=b;exact ri h F Z
  exact X0 7 Z (rK ⟨_,_,F,rfl,h⟩ Z)
 refine qr Z ?_;obtain rfl:=qb F;replace F:=b;exact X0 5 Z (ri h F Z)
def qjE (n:Nat)(a:qx)(left:Int):Option Int:=
 (qcq n a.Bi left).bind fun b=>
 bif decide (b<0) then V (-1) else
 (qcq n a.Bb b).bind fun c=>
 bif decide (c<0) then V (-1) else
 (qcq n a.Ba c).bind fun d=>
 bif decide (d<0) then V (-1) else
 V d
theorem qrw {a:qx}{left:Int}(b:Ro w a cs1){r:Int}(F:qjE n a left=V r):RetV prog 314 [GoT.v qx cs1,.int .i64 left] w r:=by
 obtain⟨_,_,_,_,_,_,rfl,c,s2,d⟩:=qaK b;refine zV 24 func314 Z fun h=>zSR (qw h Z Z fun _ _ h=>X1 7 0 h Z (zcI h F (qca ⟨_,_,rfl,(h.oldS c)⟩) Z fun _ _ h F=>X0 8 Z (qi Z F ?_ ?_)))<;>intro F
 ·exact X0 4 Z (ri h F Z)
 refine X1 6 0 h Z (zcI h F (qca ⟨_,_,rfl,(h.oldS s2)⟩) Z fun _ _ h F=>X0 8 Z (qi Z F ?_ ?_))<;>intro F
 ·exact X0 4 Z (ri h F Z)
 refine X1 6 0 h Z (zcI h F (qca ⟨_,_,rfl,(h.oldS d)⟩) Z fun _ _ h F=>X0 8 Z (qi Z F ?_ ?_))<;>intro F
 ·exact X0 4 Z (ri h F Z)
 exact X0 6 Z (ri h F Z)
def qeR (a:(List qx)):Nat→Int→Int→Option (Flow Int (Int×Int))
 | 0,_,_=>U
 | n+1,c,b=>
  bif decide (b<(a.length:Int)) then
   (idx a b).bind fun f=>
   (qjE n f c).bind fun d=>
   bif decide (d<0) then V (.ret (-1)) else
   qeR a n d (W64 (b+1))
  else
   V (.nxt (c,b))
def qko (n:Nat)(a:(List qx))(left:Int):Option Int:=
 bif decide ((W64 (left-(a.length:Int)))<0) then V (-1) else
 (qeR a n (W64 (left-(a.length:Int))) 0).bind fun o=>match o with
 | .ret r=>V r
 | .nxt (b,_)=>
  V b
theorem qm0 {a:(List qx)}{left:Int}(c:Ro w a cs1){r:Int}(F:qko n a left=V r):RetV prog 292 [GoT.v (List qx) cs1,.int .i64 left] w r:=by
 obtain⟨u,s,rfl,v⟩:=c;refine zV 27 func292 Z fun h=>X0 18 Z (qi Z F ?_ ?_)<;>intro F
 ·exact X0 4 Z (ri h F Z)
 refine X0 6 Z ?_;obtain⟨t,F,b⟩:=qd F;refine qn (rL (fun m e w'=>∃(l:Int) (o:Int),qeR a m l o=V t∧e=[(0,.slice u a.length s),(1,.int .i64 l),(5,.int .i64 o)]∧SH w w' []) n ⟨_,_,F,rfl,h⟩ Z ?_);rintro p _ _ ⟨l,o,F,rfl,h⟩;rcases p with _|p
 ·cases F
 refine X0 8 Z (qi Z F ?_ ?_)<;>intro F
 ·refine X0 7 Z ?_;obtain⟨z,_,F,f,_,_,_,_,g,i,k,d⟩:=v.ix F;obtain⟨_,_,_,_,_,_,rfl,s2,x,y⟩:=qaK k;refine zxe g i f Z (zc 0 (d.below h.below) Z (zp1 Z (zcI h F (qrw (qf0 z (h.oldS s2) (h.oldS x) (h.oldS y))) Z fun _ _ h F=>X0 7 Z (qi Z F ?_ ?_))))<;>intro F
  ·refine X0 4 Z ?_;obtain rfl:=qb F;replace F:=b;exact ri h F Z
  exact X0 7 Z (rK ⟨_,_,F,rfl,h⟩ Z)
 refine qr Z ?_;obtain rfl:=qb F;replace F:=b;exact X0 5 Z (ri h F Z)
def qlX (n:Nat)(a:qL)(left:Int):Option Int:=
 (qko n a.Bj left).bind fun b=>
 bif decide (b<0) then V (-1) else
 (qko n a.Aq b).bind fun c=>
 bif decide (c<0) then V (-1) else
 V c
theorem qtj {a:qL}{left:Int}(b:Ro w a cs1){r:Int}(F:qlX n a left=V r):RetV prog 251 [GoT.v qL cs1,.int .i64 left] w r:=by
 obtain⟨_,_,_,_,rfl,c,s2⟩:=qaq b;refine zV 18 func251 Z fun h=>zSR (qw h Z Z fun _ _ h=>X1 7 0 h Z (zcI h F (qm0 ⟨_,_,rfl,(h.oldS c)⟩) Z fun _ _ h F=>X0 8 Z (qi Z F ?_ ?_)))<;>intro F
 ·exact X0 4 Z (ri h F Z)
 refine X1 6 0 h Z (zcI h F (qm0 ⟨_,_,rfl,(h.oldS s2)⟩) Z fun _ _ h F=>X0 8 Z (qi Z F ?_ ?_))<;>intro F
 ·exact X0 4 Z (ri h F Z)
 exact X0 6 Z (ri h F Z)
def qgb (a:(List qL)):Nat→Int→Int→Option (Flow Int (Int×Int))
 | 0,_,_=>U
 | n+1,c,b=>
  bif decide (b<(a.length:Int)) then
   (idx a b).bind fun f=>
   (qlX n f c).bind fun d=>
   bif decide (d<0) then V (.ret (-1)) else
   qgb a n d (W64 (b+1))
  else
   V (.nxt (c,b))
def qol (n:Nat)(a:(List qL))(left:Int):Option Int:=
 bif decide ((W64 (left-(a.length:Int)))<0) then V (-1) else
 (qgb a n (W64 (left-(a.length:Int))) 0).bind fun o=>match o with
 | .ret r=>V r
 | .nxt (b,_)=>
  V b
theorem qsY {a:(List qL)}{left:Int}(c:Ro w a cs1){r:Int}(F:qol n a left=V r):RetV prog 201 [GoT.v (List qL) cs1,.int .i64 left] w r:=by
 obtain⟨u,s,rfl,v⟩:=c;refine zV 27 func201 Z fun h=>X0 18 Z (qi Z F ?_ ?_)<;>intro F
 ·exact X0 4 Z (ri h F Z)
 refine X0 6 Z ?_;obtain⟨t,F,b⟩:=qd F;refine qn (rL (fun m e w'=>∃(l:Int) (o:Int),qgb a m l o=V t∧e=[(0,.slice u a.length s),(1,.int .i64 l),(5,.int .i64 o)]∧SH w w' []) n ⟨_,_,F,rfl,h⟩ Z ?_);rintro p _ _ ⟨l,o,F,rfl,h⟩;rcases p with _|p
 ·cases F
 refine X0 8 Z (qi Z F ?_ ?_)<;>intro F
 ·refine X0 7 Z ?_;obtain⟨y,_,F,f,_,_,_,_,g,i,k,d⟩:=v.ix F;obtain⟨_,_,_,_,rfl,s2,x⟩:=qaq k;refine zxe g i f Z (zc 0 (d.below h.below) Z (zp1 Z (zcI h F (qtj (qgo y (h.oldS s2) (h.oldS x))) Z fun _ _ h F=>X0 7 Z (qi Z F ?_ ?_))))<;>intro F
  ·refine X0 4 Z ?_;obtain rfl:=qb F;replace F:=b;exact ri h F Z
  exact X0 7 Z (rK ⟨_,_,F,rfl,h⟩ Z)
 refine qr Z ?_;obtain rfl:=qb F;replace F:=b;exact X0 5 Z (ri h F Z)
def qkF (n:Nat)(a:qA)(left:Int):Option Int:=
 bif decide ((W64 (left-(a.Az.size:Int)))<0) then V (-1) else
 (qop n a.Av (W64 (left-(a.Az.size:Int)))).bind fun b=>
 bif decide (b<0) then V (-1) else
 (qol n a.As b).bind fun c=>
 bif decide (c<0) then V (-1) else
 (qcq n a.Bk c).bind fun d=>
 bif decide (d<0) then V (-1) else
 V d
theorem qsI {a:qA}{left:Int}(b:Ro w a cs1){r:Int}(F:qkF n a left=V r):RetV prog 126 [GoT.v qA cs1,.int .i64 left] w r:=by
 obtain⟨_,_,_,_,_,_,rfl,c,s2,d⟩:=qal b;refine zV 31 func126 Z fun h=>zSR (qw h Z Z fun _ _ h=>X1 17 0 h Z (qi Z F ?_ ?_))<;>intro F
 ·exact X0 4 Z (ri h F Z)
 refine X1 6 0 h Z (zcI h F (qsO ⟨_,_,rfl,(h.oldS c)⟩) Z fun _ _ h F=>X0 8 Z (qi Z F ?_ ?_))<;>intro F
 ·exact X0 4 Z (ri h F Z)
 refine X1 6 0 h Z (zcI h F (qsY ⟨_,_,rfl,(h.oldS s2)⟩) Z fun _ _ h F=>X0 8 Z (qi Z F ?_ ?_))<;>intro F
 ·exact X0 4 Z (ri h F Z)
 refine X1 6 0 h Z (zcI h F (qca ⟨_,_,rfl,(h.oldS d)⟩) Z fun _ _ h F=>X0 8 Z (qi Z F ?_ ?_))<;>intro F
 ·exact X0 4 Z (ri h F Z)
 exact X0 6 Z (ri h F Z)
def qfs (a:(List qA)):Nat→Int→Int→Option (Flow Int (Int×Int))
 | 0,_,_=>U
 | n+1,c,b=>
  bif decide (b<(a.length:Int)) then
   (idx a b).bind fun f=>
   (qkF n f c).bind fun d=>
   bif decide (d<0) then V (.ret (-1)) else
   qfs a n d (W64 (b+1))
  else
   V (.nxt (c,b))
def qnv (n:Nat)(a:(List qA))(left:Int):Option Int:=
 bif decide ((W64 (left-(a.length:Int)))<0) then V (-1) else
 (qfs a n (W64 (left-(a.length:Int))) 0).bind fun o=>match o with
 | .ret r=>V r
 | .nxt (b,_)=>
  V b
theorem qry {a:(List qA)}{left:Int}(c:Ro w a cs1){r:Int}(F:qnv n a left=V r):RetV prog 72 [GoT.v (List qA) cs1,.int .i64 left] w r:=by
 obtain⟨u,s,rfl,v⟩:=c;refine zV 27 func72 Z fun h=>X0 18 Z (qi Z F ?_ ?_)<;>intro F
 ·exact X0 4 Z (ri h F Z)
 refine X0 6 Z ?_;obtain⟨t,F,b⟩:=qd F;refine qn (rL (fun m e w'=>∃(l:Int) (o:Int),qfs a m l o=V t∧e=[(0,.slice u a.length s),(1,.int .i64 l),(5,.int .i64 o)]∧SH w w' []) n ⟨_,_,F,rfl,h⟩ Z ?_);rintro p _ _ ⟨l,o,F,rfl,h⟩;rcases p with _|p
 ·cases F
 refine X0 8 Z (qi Z F ?_ ?_)<;>intro F
 ·refine X0 7 Z ?_;obtain⟨z,_,F,f,_,_,_,_,g,i,k,d⟩:=v.ix F;obtain⟨_,_,_,_,_,_,rfl,s2,x,y⟩:=qal k;refine zxe g i f Z (zc 0 (d.below h.below) Z (zp1 Z (zcI h F (qsI (qlq z (h.oldS s2) (h.oldS x) (h.oldS y))) Z fun _ _ h F=>X0 7 Z (qi Z F ?_ ?_))))<;>intro F
  ·refine X0 4 Z ?_;obtain rfl:=qb F;replace F:=b;exact ri h F Z
  exact X0 7 Z (rK ⟨_,_,F,rfl,h⟩ Z)
 refine qr Z ?_;obtain rfl:=qb F;replace F:=b;exact X0 5 Z (ri h F Z)
def qjt (n:Nat)(a:qt)(left:Int):Option Int:=
 (qnv n a.Ap left).bind fun b=>
 bif decide (b<0) then V (-1) else
 V b
theorem qpM {a:qt}{left:Int}(b:Ro w a cs1){r:Int}(F:qjt n a left=V r):RetV prog 30 [GoT.v qt cs1,.int .i64 left] w r:=by
 obtain⟨_,_,rfl,c⟩:=qbN b;refine zV 12 func30 Z fun h=>zSR (qw h Z Z fun _ _ h=>X1 7 0 h Z (zcI h F (qry ⟨_,_,rfl,(h.oldS c)⟩) Z fun _ _ h F=>X0 8 Z (qi Z F ?_ ?_)))<;>intro F
 ·exact X0 4 Z (ri h F Z)
 exact X0 6 Z (ri h F Z)
def qg5 (n:Nat)(a:qm)(left:Int):Option Int:=
 bif decide ((W64 (left-(a.Az.size:Int)))<0) then V (-1) else
 (qcq n a.Ai (W64 (left-(a.Az.size:Int)))).bind fun b=>
 bif decide (b<0) then V (-1) else
 V b
theorem qpo {a:qm}{left:Int}(b:Ro w a cs1){r:Int}(F:qg5 n a left=V r):RetV prog 127 [GoT.v qm cs1,.int .i64 left] w r:=by
 obtain⟨_,_,rfl,c⟩:=qW b;refine zV 19 func127 Z fun h=>zSR (qw h Z Z fun _ _ h=>X1 17 0 h Z (qi Z F ?_ ?_))<;>intro F
 ·exact X0 4 Z (ri h F Z)
 refine X1 6 0 h Z (zcI h F (qca ⟨_,_,rfl,(h.oldS c)⟩) Z fun _ _ h F=>X0 8 Z (qi Z F ?_ ?_))<;>intro F
 ·exact X0 4 Z (ri h F Z)
 exact X0 6 Z (ri h F Z)
def qdd (a:(List qm)):Nat→Int→Int→Option (Flow Int (Int×Int))
 | 0,_,_=>U
 | n+1,c,b=>
  bif decide (b<(a.length:Int)) then
   (idx a b).bind fun f=>
   (qg5 n f c).bind fun d=>
   bif decide (d<0) then V (.ret (-1)) else
   qdd a n d (W64 (b+1))
  else
   V (.nxt (c,b))
def qkc (n:Nat)(a:(List qm))(left:Int):Option Int:=
 bif decide ((W64 (left-(a.length:Int)))<0) then V (-1) else
 (qdd a n (W64 (left-(a.length:Int))) 0).bind fun o=>match o with
 | .ret r=>V r
 | .nxt (b,_)=>
  V b
theorem qpd {a:(List qm)}{left:Int}(c:Ro w a cs1){r:Int}(F:qkc n a left=V r):RetV prog 73 [GoT.v (List qm) cs1,.int .i64 left] w r:=by
 obtain⟨u,s,rfl,v⟩:=c;refine zV 27 func73 Z fun h=>X0 18 Z (qi Z F ?_ ?_)<;>intro F
 ·exact X0 4 Z (ri h F Z)
 refine X0 6 Z ?_;obtain⟨t,F,b⟩:=qd F;refine qn (rL (fun m e w'=>∃(l:Int) (o:Int),qdd a m l o=V t∧e=[(0,.slice u a.length s),(1,.int .i64 l),(5,.int .i64 o)]∧SH w w' []) n ⟨_,_,F,rfl,h⟩ Z ?_);rintro p _ _ ⟨l,o,F,rfl,h⟩;rcases p with _|p
 ·cases F
 refine X0 8 Z (qi Z F ?_ ?_)<;>intro F
 ·refine X0 7 Z ?_;obtain⟨x,_,F,f,_,_,_,_,g,i,k,d⟩:=v.ix F;obtain⟨_,_,rfl,s2⟩:=qW k;refine zxe g i f Z (zc 0 (d.below h.below) Z (zp1 Z (zcI h F (qpo (qhl x (h.oldS s2))) Z fun _ _ h F=>X0 7 Z (qi Z F ?_ ?_))))<;>intro F
  ·refine X0 4 Z ?_;obtain rfl:=qb F;replace F:=b;exact ri h F Z
  exact X0 7 Z (rK ⟨_,_,F,rfl,h⟩ Z)
 refine qr Z ?_;obtain rfl:=qb F;replace F:=b;exact X0 5 Z (ri h F Z)
def qd2 (a:(List ByteArray)):Nat→Int→Int→Option (Flow Int (Int×Int))
 | 0,_,_=>U
 | n+1,c,b=>
  bif decide (b<(a.length:Int)) then
   (idx a b).bind fun d=>
   bif decide ((W64 (c-(d.size:Int)))<0) then V (.ret (-1)) else
   qd2 a n (W64 (c-(d.size:Int))) (W64 (b+1))
  else
   V (.nxt (c,b))
def qlF (n:Nat)(a:(List ByteArray))(left:Int):Option Int:=
 bif decide ((W64 (left-(a.length:Int)))<0) then V (-1) else
 (qd2 a n (W64 (left-(a.length:Int))) 0).bind fun o=>match o with
 | .ret r=>V r
 | .nxt (b,_)=>
  V b
theorem qqg {a:(List ByteArray)}{left:Int}(c:Ro w a cs1){r:Int}(F:qlF n a left=V r):RetV prog 74 [GoT.v (List ByteArray) cs1,.int .i64 left] w r:=by
 obtain⟨t,p,rfl,u⟩:=c;refine zV 28 func74 Z fun h=>X0 18 Z (qi Z F ?_ ?_)<;>intro F
 ·exact X0 4 Z (ri h F Z)
 refine X0 6 Z ?_;obtain⟨s,F,b⟩:=qd F;refine qn (rL (fun m e w'=>∃(k:Int) (l:Int),qd2 a m k l=V s∧e=[(0,.slice t a.length p),(1,.int .i64 k),(5,.int .i64 l)]∧SH w w' []) n ⟨_,_,F,rfl,h⟩ Z ?_);rintro o _ _ ⟨k,l,F,rfl,h⟩;rcases o with _|o
 ·cases F
 refine X0 8 Z (qi Z F ?_ ?_)<;>intro F
 ·refine X0 8 Z ?_;obtain⟨_,_,F,f,_,_,_,_,g,i,rfl,d⟩:=u.ix F;refine zxe g i f Z (zc 0 (d.below h.below) Z (X0 9 Z (qi Z F ?_ ?_)))<;>intro F
  ·refine X0 4 Z ?_;obtain rfl:=qb F;replace F:=b;exact ri h F Z
  exact X0 7 Z (rK ⟨_,_,F,rfl,h⟩ Z)
 refine qr Z ?_;obtain rfl:=qb F;replace F:=b;exact X0 5 Z (ri h F Z)
def qkt (_:Nat)(a:qY)(left:Int):Option Int:=
 bif decide ((W64 (left-(a.Az.size:Int)))<0) then V (-1) else
 V (W64 (left-(a.Az.size:Int)))
theorem qsb {a:qY}{left:Int}(b:Ro w a cs1){r:Int}(F:qkt n a left=V r):RetV prog 128 [GoT.v qY cs1,.int .i64 left] w r:=by
 obtain rfl:=qa0 b;refine zV 13 func128 Z fun h=>zSR (qw h Z Z fun _ _ h=>X1 17 0 h Z (qi Z F ?_ ?_))<;>intro F
 ·exact X0 4 Z (ri h F Z)
 exact X0 6 Z (ri h F Z)
def qfx (a:(List qY)):Nat→Int→Int→Option (Flow Int (Int×Int))
 | 0,_,_=>U
 | n+1,c,b=>
  bif decide (b<(a.length:Int)) then
   (idx a b).bind fun f=>
   (qkt n f c).bind fun d=>
   bif decide (d<0) then V (.ret (-1)) else
   qfx a n d (W64 (b+1))
  else
   V (.nxt (c,b))
def qnB (n:Nat)(a:(List qY))(left:Int):Option Int:=
 bif decide ((W64 (left-(a.length:Int)))<0) then V (-1) else
 (qfx a n (W64 (left-(a.length:Int))) 0).bind fun o=>match o with
 | .ret r=>V r
 | .nxt (b,_)=>
  V b
theorem qrF {a:(List qY)}{left:Int}(c:Ro w a cs1){r:Int}(F:qnB n a left=V r):RetV prog 75 [GoT.v (List qY) cs1,.int .i64 left] w r:=by
 obtain⟨u,s,rfl,v⟩:=c;refine zV 27 func75 Z fun h=>X0 18 Z (qi Z F ?_ ?_)<;>intro F
 ·exact X0 4 Z (ri h F Z)
 refine X0 6 Z ?_;obtain⟨t,F,b⟩:=qd F;refine qn (rL (fun m e w'=>∃(l:Int) (o:Int),qfx a m l o=V t∧e=[(0,.slice u a.length s),(1,.int .i64 l),(5,.int .i64 o)]∧SH w w' []) n ⟨_,_,F,rfl,h⟩ Z ?_);rintro p _ _ ⟨l,o,F,rfl,h⟩;rcases p with _|p
 ·cases F
 refine X0 8 Z (qi Z F ?_ ?_)<;>intro F
 ·refine X0 7 Z ?_;obtain⟨x,_,F,f,_,_,_,_,g,i,k,d⟩:=v.ix F;obtain rfl:=qa0 k;refine zxe g i f Z (zc 0 (d.below h.below) Z (zp1 Z (zcI h F (qsb (qeW x)) Z fun _ _ h F=>X0 7 Z (qi Z F ?_ ?_))))<;>intro F
  ·refine X0 4 Z ?_;obtain rfl:=qb F;replace F:=b;exact ri h F Z
  exact X0 7 Z (rK ⟨_,_,F,rfl,h⟩ Z)
 refine qr Z ?_;obtain rfl:=qb F;replace F:=b;exact X0 5 Z (ri h F Z)
def qkf (n:Nat)(a:qg)(left:Int):Option Int:=
 (qkc n a.Ab left).bind fun b=>
 bif decide (b<0) then V (-1) else
 (qlF n a.Ai b).bind fun c=>
 bif decide (c<0) then V (-1) else
 (qnB n a.Ah c).bind fun d=>
 bif decide (d<0) then V (-1) else
 V d
theorem qqQ {a:qg}{left:Int}(b:Ro w a cs1){r:Int}(F:qkf n a left=V r):RetV prog 31 [GoT.v qg cs1,.int .i64 left] w r:=by
 obtain⟨_,_,_,_,_,_,rfl,c,s2,d⟩:=qaI b;refine zV 24 func31 Z fun h=>zSR (qw h Z Z fun _ _ h=>X1 7 0 h Z (zcI h F (qpd ⟨_,_,rfl,(h.oldS c)⟩) Z fun _ _ h F=>X0 8 Z (qi Z F ?_ ?_)))<;>intro F
 ·exact X0 4 Z (ri h F Z)
 refine X1 6 0 h Z (zcI h F (qqg ⟨_,_,rfl,(h.oldS s2)⟩) Z fun _ _ h F=>X0 8 Z (qi Z F ?_ ?_))<;>intro F
 ·exact X0 4 Z (ri h F Z)
 refine X1 6 0 h Z (zcI h F (qrF ⟨_,_,rfl,(h.oldS d)⟩) Z fun _ _ h F=>X0 8 Z (qi Z F ?_ ?_))<;>intro F
 ·exact X0 4 Z (ri h F Z)
 exact X0 6 Z (ri h F Z)
def qkw (n:Nat)(a:qH)(left:Int):Option Int:=
 (qcq n a.Ak left).bind fun b=>
 bif decide (b<0) then V (-1) else
 (qcq n a.Bt b).bind fun c=>
 bif decide (c<0) then V (-1) else
 (qcq n a.Bq c).bind fun d=>
 bif decide (d<0) then V (-1) else
 (qcq n a.Bg d).bind fun f=>
 bif decide (f<0) then V (-1) else
 V f
theorem qsv {a:qH}{left:Int}(b:Ro w a cs1){r:Int}(F:qkw n a left=V r):RetV prog 76 [GoT.v qH cs1,.int .i64 left] w r:=by
 obtain⟨_,_,_,_,_,_,_,_,rfl,c,s2,d,f⟩:=qaS b;refine zV 30 func76 Z fun h=>zSR (qw h Z Z fun _ _ h=>X1 7 0 h Z (zcI h F (qca ⟨_,_,rfl,(h.oldS c)⟩) Z fun _ _ h F=>X0 8 Z (qi Z F ?_ ?_)))<;>intro F
 ·exact X0 4 Z (ri h F Z)
 refine X1 6 0 h Z (zcI h F (qca ⟨_,_,rfl,(h.oldS s2)⟩) Z fun _ _ h F=>X0 8 Z (qi Z F ?_ ?_))<;>intro F
 ·exact X0 4 Z (ri h F Z)
 refine X1 6 0 h Z (zcI h F (qca ⟨_,_,rfl,(h.oldS d)⟩) Z fun _ _ h F=>X0 8 Z (qi Z F ?_ ?_))<;>intro F
 ·exact X0 4 Z (ri h F Z)
 refine X1 6 0 h Z (zcI h F (qca ⟨_,_,rfl,(h.oldS f)⟩) Z fun _ _ h F=>X0 8 Z (qi Z F ?_ ?_))<;>intro F
 ·exact X0 4 Z (ri h F Z)
 exact X0 6 Z (ri h F Z)
def qfv (a:(List qH)):Nat→Int→Int→Option (Flow Int (Int×Int))
 | 0,_,_=>U
 | n+1,c,b=>
  bif decide (b<(a.length:Int)) then
   (idx a b).bind fun f=>
   (qkw n f c).bind fun d=>
   bif decide (d<0) then V (.ret (-1)) else
   qfv a n d (W64 (b+1))
  else
   V (.nxt (c,b))
def qnn (n:Nat)(a:(List qH))(left:Int):Option Int:=
 bif decide ((W64 (left-(a.length:Int)))<0) then V (-1) else
 (qfv a n (W64 (left-(a.length:Int))) 0).bind fun o=>match o with
 | .ret r=>V r
 | .nxt (b,_)=>
  V b
theorem qrN {a:(List qH)}{left:Int}(c:Ro w a cs1){r:Int}(F:qnn n a left=V r):RetV prog 32 [GoT.v (List qH) cs1,.int .i64 left] w r:=by
 obtain⟨u,s,rfl,v⟩:=c;refine zV 27 func32 Z fun h=>X0 18 Z (qi Z F ?_ ?_)<;>intro F
 ·exact X0 4 Z (ri h F Z)
 refine X0 6 Z ?_;obtain⟨t,F,b⟩:=qd F;refine qn (rL (fun m e w'=>∃(l:Int) (o:Int),qfv a m l o=V t∧e=[(0,.slice u a.length s),(1,.int .i64 l),(5,.int .i64 o)]∧SH w w' []) n ⟨_,_,F,rfl,h⟩ Z ?_);rintro p _ _ ⟨l,o,F,rfl,h⟩;rcases p with _|p
 ·cases F
 refine X0 8 Z (qi Z F ?_ ?_)<;>intro F
 ·refine X0 7 Z ?_;obtain⟨A,_,F,f,_,_,_,_,g,i,k,d⟩:=v.ix F;obtain⟨_,_,_,_,_,_,_,_,rfl,s2,x,y,z⟩:=qaS k;refine zxe g i f Z (zc 0 (d.below h.below) Z (zp1 Z (zcI h F (qsv (qlp A (h.oldS s2) (h.oldS x) (h.oldS y) (h.oldS z))) Z fun _ _ h F=>X0 7 Z (qi Z F ?_ ?_))))<;>intro F
  ·refine X0 4 Z ?_;obtain rfl:=qb F;replace F:=b;exact ri h F Z
  exact X0 7 Z (rK ⟨_,_,F,rfl,h⟩ Z)
 refine qr Z ?_;obtain rfl:=qb F;replace F:=b;exact X0 5 Z (ri h F Z)
def qlc (n:Nat)(a:qe)(left:Int):Option Int:=
 (qjt n (⟨a.Ar.Ap⟩:qt) left).bind fun b=>
 bif decide (b<0) then V (-1) else
 (qkf n (⟨a.Aa.Ab,a.Aa.Ai,a.Aa.Ah⟩:qg) b).bind fun c=>
 bif decide (c<0) then V (-1) else
 (qnn n a.Af c).bind fun d=>
 bif decide (d<0) then V (-1) else
 V d
theorem qrQ {a:qe}{left:Int}(b:Ro w a cs1){r:Int}(F:qlc n a left=V r):RetV prog 5 [GoT.v qe cs1,.int .i64 left] w r:=by
 obtain⟨_,_,_,_,_,_,_,_,_,_,rfl,c,s2,d,f,g⟩:=qE b;refine zV 24 func5 Z fun h=>zSR (qw h Z Z fun _ _ h=>X1 7 0 h Z (zcI h F (qpM (qez _ (h.oldS c))) Z fun _ _ h F=>X0 8 Z (qi Z F ?_ ?_)))<;>intro F
 ·exact X0 4 Z (ri h F Z)
 refine X1 6 0 h Z (zcI h F (qqQ (qav _ (h.oldS s2) (h.oldS d) (h.oldS f))) Z fun _ _ h F=>X0 8 Z (qi Z F ?_ ?_))<;>intro F
 ·exact X0 4 Z (ri h F Z)
 refine X1 6 0 h Z (zcI h F (qrN ⟨_,_,rfl,(h.oldS g)⟩) Z fun _ _ h F=>X0 8 Z (qi Z F ?_ ?_))<;>intro F
 ·exact X0 4 Z (ri h F Z)
 exact X0 6 Z (ri h F Z)
def qgp (a:(List Int)):Nat→(List Int)→Int→Option ((List Int)×Int)
 | 0,_,_=>U
 | n+1,c,b=>
  bif decide (b<(a.length:Int)) then
   (idx a b).bind fun d=>
   (idx c b).bind fun _=>
   qgp a n (setS c b d) (W64 (b+1))
  else
   V (c,b)
def qba (n:Nat)(a:(List Int)):Option (List Int):=
 (mkS (a.length:Int) (0:Int)).bind fun b=>
 (qgp a n b 0).bind fun o=>match o with
 | (c,_)=>
  V c
theorem qar {a:(List Int)}(k:Ro w a cs1){r:(List Int)}(F:qba n a=V r):RetV prog 12 [GoT.v (List Int) cs1] w r:=by
 obtain⟨H,C,rfl,I⟩:=k;refine zV 22 func12 Z fun h=>X0 8 Z ?_;obtain⟨g,b,F⟩:=qd F;obtain⟨A,B,b⟩:=qR b;refine qas qa Int h Z Z Z Z Z Z Z Z Z A B b Z fun _ S1 z h=>X0 7 Z ?_;obtain⟨D,F,i⟩:=qd F;refine qn (rL (fun m e w'=>∃(x:(List Int)) (v:Int),qgp a m x v=V D∧e=[(0,.slice H a.length C),(3,.slice z g.length g.length),(4,.int .i64 v)]∧SH w w' [Ch.own S1 (x:List Int) [.slice z g.length g.length]]) n ⟨_,_,F,rfl,h⟩ Z ?_);rintro y _ _ ⟨x,v,F,rfl,h⟩;rcases y with _|y
 ·cases F
 refine X0 8 Z (qi Z F ?_ ?_)<;>intro F
 ·refine X0 8 Z ?_;obtain⟨J,_,F,p,_,_,_,_,s,t,rfl,l⟩:=I.ix F;refine zxe s t p Z (zc 0 (l.below h.below) Z ?_);obtain⟨_,u,F,c,_,_,_,_,d,f,rfl,o⟩:=(h.sl 0 Z).1.ix F;exact zx d f ⟨c.1,qD c.2.1 (h.sl 0 Z).2⟩ Z (qao qa 0 0 J h Z u d f Z o Z Z Z Z Z Z Z fun _ h=>X0 7 Z (rK ⟨_,_,F,rfl,h⟩ Z))
 refine qr Z ?_;obtain rfl:=qb F;replace F:=i;refine X0 5 Z ?_;obtain rfl:=qb F;exact rO 0 h Z ⟨rfl,trivial⟩
def ql9 (_:Nat)(a:qat):Option qat:=
 V (⟨a.Az,a.Bs,a.Bq,a.Bn⟩:qat)
theorem qta {a:qat}(b:Ro w a cs1){r:qat}(F:ql9 n a=V r):RetV prog 258 [GoT.v qat cs1] w r:=by
 obtain rfl:=qa5 b;refine zV 17 func258 Z fun h=>zSR (qw h Z Z fun _ _ h=>qp qa h Z Z Z fun _ _ h=>zNSR (qp qa h Z Z Z fun _ _ h=>X1 6 2 h Z (zs 0 h Z fun _ h=>X1 6 2 h Z (zs 0 h Z fun _ h=>X1 6 2 h Z (zs 0 h Z fun _ h=>X1 6 2 h Z (zs 0 h Z fun _ h=>X1 4 0 h Z (zs 1 h Z fun _ h=>qcU ?_)))))));obtain rfl:=qb F;exact qX qa (ρ:=qat) [GoT.v qat (qqB a)] h ⟨⟨_,_,_,rfl,rfl,h.box 1 Z,rfl⟩,trivial⟩ (PV.done h (qad (qy (S:=fun _=>False) (qev (⟨a.Az,a.Bs,a.Bq,a.Bn⟩:qat)))))
def qhO (a:(List qat)):Nat→(List qat)→Int→Option ((List qat)×Int)
 | 0,_,_=>U
 | n+1,c,b=>
  bif decide (b<(a.length:Int)) then
   (idx a b).bind fun f=>
   (ql9 n f).bind fun d=>
   (idx c b).bind fun _=>
   qhO a n (setS c b d) (W64 (b+1))
  else
   V (c,b)
def qmq (n:Nat)(a:(List qat)):Option (List qat):=
 (mkS (a.length:Int) ((⟨ByteArray.empty,0,0,false⟩:qat):qat)).bind fun b=>
 (qhO a n b 0).bind fun o=>match o with
 | (c,_)=>
  V c
theorem qsX {a:(List qat)}(k:Ro w a cs1){r:(List qat)}(F:qmq n a=V r):RetV prog 207 [GoT.v (List qat) cs1] w r:=by
 obtain⟨K,I,rfl,L⟩:=k;refine zV 23 func207 Z fun h=>X0 8 Z ?_;obtain⟨g,b,F⟩:=qd F;obtain⟨D,H,b⟩:=qR b;refine qas qa qat h Z Z Z Z Z Z Z Z Z D H b Z fun _ S1 B h=>X0 7 Z ?_;obtain⟨J,F,i⟩:=qd F;refine qn (rL (fun m e w'=>∃(z:(List qat)) (y:Int),qhO a m z y=V J∧e=[(0,.slice K a.length I),(3,.slice B g.length g.length),(4,.int .i64 y)]∧SH w w' [Ch.own S1 (z:List qat) [.slice B g.length g.length]]) n ⟨_,_,F,rfl,h⟩ Z ?_);rintro A _ _ ⟨z,y,F,rfl,h⟩;rcases A with _|A
 ·cases F
 refine X0 8 Z (qi Z F ?_ ?_)<;>intro F
 ·refine X0 8 Z ?_;obtain⟨M,_,F,p,_,_,_,_,s,t,u,l⟩:=L.ix F;obtain rfl:=qa5 u;refine zxe s t p Z (zc 0 (l.below h.below) Z (zcO h F (qta (qev M)) Z fun C _ _ _ h F=>?_));obtain rfl:=qa5 (h.own 0 Z);obtain⟨N,x,F,c,_,_,_,_,d,f,v,o⟩:=(h.sl 1 Z).1.ix F;obtain rfl:=qa5 v;refine zx d f ⟨c.1,qD c.2.1 (h.sl 1 Z).2⟩ Z (qao qa 1 0 C h Z x d f (qev N) o Z Z Z (qev C) Z Z Z fun _ h=>X0 7 Z ?_);replace h:=h.pick [1] Z;exact rK ⟨_,_,F,rfl,h⟩ Z
 refine qr Z ?_;obtain rfl:=qb F;replace F:=i;refine X0 5 Z ?_;obtain rfl:=qb F;exact rO 0 h Z ⟨rfl,trivial⟩
def qjI (n:Nat)(a:qx):Option qx:=
 (qba n a.Bi).bind fun b=>
 (qba n a.Bb).bind fun c=>
 (qba n a.Ba).bind fun d=>
 V (⟨b,c,d⟩:qx)
theorem qrB {a:qx}(b:Ro w a cs1){r:qx}(F:qjI n a=V r):RetV prog 317 [GoT.v qx cs1] w r:=by
 obtain⟨_,_,_,_,_,_,rfl,p,s2,s⟩:=qaK b;refine zV 17 func317 Z fun h=>zSR (qw h Z Z fun _ _ h=>qp qa h Z Z Z fun _ _ h=>zNSR (qp qa h Z Z Z fun _ _ h=>X1 5 2 h Z (zcL h F (qar ⟨_,_,rfl,(h.oldS p)⟩) Z fun c _ _ l g h F=>zp1 Z (zs 1 h Z fun _ h=>X1 5 3 h Z (zcL h F (qar ⟨_,_,rfl,(h.oldS s2)⟩) Z fun d _ _ m i h F=>zp1 Z (zs 2 h Z fun _ h=>X1 5 4 h Z (zcL h F (qar ⟨_,_,rfl,(h.oldS s)⟩) Z fun f _ _ o k h F=>zp1 Z (zs 3 h Z fun _ h=>X1 4 3 h Z (zs 4 h Z fun _ h=>qcU ?_)))))))));obtain rfl:=qb F;exact qX qa (ρ:=qx) [GoT.v qx [.slice l c.length g,.slice m d.length i,.slice o f.length k]] h ⟨⟨_,_,_,rfl,rfl,h.box 4 Z,rfl⟩,trivial⟩ (PV.done h (qad (qtE (⟨c,d,f⟩:qx) h (qak 2 h Z) (qak 1 h Z) (qak 0 h Z) (by rfl) (by rfl))))
def qgn (a:(List qx)):Nat→(List qx)→Int→Option ((List qx)×Int)
 | 0,_,_=>U
 | n+1,c,b=>
  bif decide (b<(a.length:Int)) then
   (idx a b).bind fun f=>
   (qjI n f).bind fun d=>
   (idx c b).bind fun _=>
   qgn a n (setS c b d) (W64 (b+1))
  else
   V (c,b)
def qiD (n:Nat)(a:(List qx)):Option (List qx):=
 (mkS (a.length:Int) ((⟨[],[],[]⟩:qx):qx)).bind fun b=>
 (qgn a n b 0).bind fun o=>match o with
 | (c,_)=>
  V c
theorem qna {a:(List qx)}(o:Ro w a cs1){r:(List qx)}(F:qiD n a=V r):RetV prog 297 [GoT.v (List qx) cs1] w r:=by
 obtain⟨K,H,rfl,M⟩:=o;refine zV 23 func297 Z fun h=>X0 8 Z ?_;obtain⟨k,b,F⟩:=qd F;obtain⟨C,D,b⟩:=qR b;refine qas qa qx h Z Z Z Z Z Z Z Z Z C D b Z fun _ _ B h=>X0 7 Z ?_;obtain⟨I,F,l⟩:=qd F;refine qn (rL (fun m e w'=>∃(S2:Nat→Prop) (z:(List qx)) (y:Int),qgn a m z y=V I∧e=[(0,.slice K a.length H),(3,.slice B k.length k.length),(4,.int .i64 y)]∧SH w w' [Ch.own S2 (z:List qx) [.slice B k.length k.length]]) n ⟨_,_,_,F,rfl,h⟩ Z ?_);rintro A _ _ ⟨S2,z,y,F,rfl,h⟩;rcases A with _|A
 ·cases F
 refine X0 8 Z (qi Z F ?_ ?_)<;>intro F
 ·refine X0 8 Z ?_;obtain⟨P,_,F,s,_,_,_,_,t,u,v,p⟩:=M.ix F;obtain⟨_,_,_,_,_,_,rfl,s2,N,O⟩:=qaK v;refine zxe t u s Z (zc 0 (p.below h.below) Z (zcO h F (qrB (qf0 P (h.oldS s2) (h.oldS N) (h.oldS O))) Z fun L _ _ _ h F=>?_));obtain⟨_,_,_,_,_,_,rfl,-,-,-⟩:=qaK (h.own 0 Z);obtain⟨_,c,F⟩:=qd F;have d:=qc1 c;replace h:=h.lrn0 1 Z;obtain⟨_,J,_,_,f,g,-,i,_⟩:=(qmD (h.lrnO 1 Z)).1.at c;have x:=i;obtain⟨_,_,_,_,_,_,rfl,_,_,_⟩:=qaK i;replace h:=h.lrnAdd 1 Z x;refine zx f g ⟨d.1,qD d.2.1 (qmD (h.lrnO 1 Z)).2⟩ Z ?_;replace h:=h.unlrn 1 Z;exact qok qa L h c f g Z Z Z Z Z fun _ _ h=>X0 7 Z (rK ⟨_,_,_,F,rfl,h⟩ Z)
 refine qr Z ?_;obtain rfl:=qb F;replace F:=l;refine X0 5 Z ?_;obtain rfl:=qb F;exact rO 0 h Z ⟨rfl,trivial⟩
def ql5 (n:Nat)(a:qL):Option qL:=
 (qiD n a.Bj).bind fun b=>
 (qiD n a.Aq).bind fun c=>
 V (⟨a.Ay,a.Bf,a.To,a.Bl,b,c⟩:qL)
theorem qtg {a:qL}(b:Ro w a cs1){r:qL}(F:ql5 n a=V r):RetV prog 259 [GoT.v qL cs1] w r:=by
 obtain⟨_,_,_,_,rfl,l,s2⟩:=qaq b;refine zV 25 func259 Z fun h=>zSR (qw h Z Z fun _ _ h=>qp qa h Z Z Z fun _ _ h=>zNSR (qp qa h Z Z Z fun _ _ h=>X1 6 2 h Z (zs 0 h Z fun _ h=>X1 6 2 h Z (zs 0 h Z fun _ h=>X1 6 2 h Z (zs 0 h Z fun _ h=>X1 6 2 h Z (zs 0 h Z fun _ h=>X1 5 2 h Z (zcL h F (qna ⟨_,_,rfl,(h.oldS l)⟩) Z fun c _ _ i f h F=>zp1 Z (zs 1 h Z fun _ h=>X1 5 3 h Z (zcL h F (qna ⟨_,_,rfl,(h.oldS s2)⟩) Z fun d _ _ k g h F=>zp1 Z (zs 2 h Z fun _ h=>X1 4 2 h Z (zs 3 h Z fun _ h=>qcU ?_)))))))))));obtain rfl:=qb F;exact qX qa (ρ:=qL) [GoT.v qL [.int .i64 a.Ay,.int .i64 a.Bf,.int .i64 a.To,.int .i64 a.Bl,.slice i c.length f,.slice k d.length g]] h ⟨⟨_,_,_,rfl,rfl,h.box 3 Z,rfl⟩,trivial⟩ (PV.done h (qad (qw7 (⟨a.Ay,a.Bf,a.To,a.Bl,c,d⟩:qL) h (qy (S:=fun _=>False) Z) (qy (S:=fun _=>False) Z) (qy (S:=fun _=>False) Z) (qy (S:=fun _=>False) Z) (qak 1 h Z) (qak 0 h Z) (by rfl) (by rfl) (by rfl) (by rfl) (by rfl))))
def qhU (a:(List qL)):Nat→(List qL)→Int→Option ((List qL)×Int)
 | 0,_,_=>U
 | n+1,c,b=>
  bif decide (b<(a.length:Int)) then
   (idx a b).bind fun f=>
   (ql5 n f).bind fun d=>
   (idx c b).bind fun _=>
   qhU a n (setS c b d) (W64 (b+1))
  else
   V (c,b)
def qml (n:Nat)(a:(List qL)):Option (List qL):=
 (mkS (a.length:Int) ((⟨0,0,0,0,[],[]⟩:qL):qL)).bind fun b=>
 (qhU a n b 0).bind fun o=>match o with
 | (c,_)=>
  V c
theorem qst {a:(List qL)}(o:Ro w a cs1){r:(List qL)}(F:qml n a=V r):RetV prog 208 [GoT.v (List qL) cs1] w r:=by
 obtain⟨K,H,rfl,M⟩:=o;refine zV 23 func208 Z fun h=>X0 8 Z ?_;obtain⟨k,b,F⟩:=qd F;obtain⟨C,D,b⟩:=qR b;refine qas qa qL h Z Z Z Z Z Z Z Z Z C D b Z fun _ _ B h=>X0 7 Z ?_;obtain⟨I,F,l⟩:=qd F;refine qn (rL (fun m e w'=>∃(S2:Nat→Prop) (z:(List qL)) (y:Int),qhU a m z y=V I∧e=[(0,.slice K a.length H),(3,.slice B k.length k.length),(4,.int .i64 y)]∧SH w w' [Ch.own S2 (z:List qL) [.slice B k.length k.length]]) n ⟨_,_,_,F,rfl,h⟩ Z ?_);rintro A _ _ ⟨S2,z,y,F,rfl,h⟩;rcases A with _|A
 ·cases F
 refine X0 8 Z (qi Z F ?_ ?_)<;>intro F
 ·refine X0 8 Z ?_;obtain⟨O,_,F,s,_,_,_,_,t,u,v,p⟩:=M.ix F;obtain⟨_,_,_,_,rfl,s2,N⟩:=qaq v;refine zxe t u s Z (zc 0 (p.below h.below) Z (zcO h F (qtg (qgo O (h.oldS s2) (h.oldS N))) Z fun L _ _ _ h F=>?_));obtain⟨_,_,_,_,rfl,-,-⟩:=qaq (h.own 0 Z);obtain⟨_,c,F⟩:=qd F;have d:=qc1 c;replace h:=h.lrn0 1 Z;obtain⟨_,J,_,_,f,g,-,i,_⟩:=(qmD (h.lrnO 1 Z)).1.at c;have x:=i;obtain⟨_,_,_,_,rfl,_,_⟩:=qaq i;replace h:=h.lrnAdd 1 Z x;refine zx f g ⟨d.1,qD d.2.1 (qmD (h.lrnO 1 Z)).2⟩ Z ?_;replace h:=h.unlrn 1 Z;exact qok qa L h c f g Z Z Z Z Z fun _ _ h=>X0 7 Z (rK ⟨_,_,_,F,rfl,h⟩ Z)
 refine qr Z ?_;obtain rfl:=qb F;replace F:=l;refine X0 5 Z ?_;obtain rfl:=qb F;exact rO 0 h Z ⟨rfl,trivial⟩
def qkJ (n:Nat)(a:qA):Option qA:=
 (qmq n a.Av).bind fun b=>
 (qml n a.As).bind fun c=>
 (qba n a.Bk).bind fun d=>
 V (⟨a.Az,a.Ay,b,c,d,a.Bx,a.Br⟩:qA)
theorem qsd {a:qA}(b:Ro w a cs1){r:qA}(F:qkJ n a=V r):RetV prog 143 [GoT.v qA cs1] w r:=by
 obtain⟨_,_,_,_,_,_,rfl,p,s2,s⟩:=qal b;refine zV 29 func143 Z fun h=>zSR (qw h Z Z fun _ _ h=>qp qa h Z Z Z fun _ _ h=>zNSR (qp qa h Z Z Z fun _ _ h=>X1 6 2 h Z (zs 0 h Z fun _ h=>X1 6 2 h Z (zs 0 h Z fun _ h=>X1 5 2 h Z (zcL h F (qsX ⟨_,_,rfl,(h.oldS p)⟩) Z fun c _ _ l g h F=>zp1 Z (zs 1 h Z fun _ h=>X1 5 3 h Z (zcL h F (qst ⟨_,_,rfl,(h.oldS s2)⟩) Z fun d _ _ m i h F=>zp1 Z (zs 2 h Z fun _ h=>X1 5 4 h Z (zcL h F (qar ⟨_,_,rfl,(h.oldS s)⟩) Z fun f _ _ o k h F=>zp1 Z (zs 3 h Z fun _ h=>X1 6 5 h Z (zs 3 h Z fun _ h=>X1 6 5 h Z (zs 3 h Z fun _ h=>X1 4 3 h Z (zs 4 h Z fun _ h=>qcU ?_)))))))))))));obtain rfl:=qb F;exact qX qa (ρ:=qA) [GoT.v qA [.string a.Az,.int .i64 a.Ay,.slice l c.length g,.slice m d.length i,.slice o f.length k,.int .i64 a.Bx,.int .i64 a.Br]] h ⟨⟨_,_,_,rfl,rfl,h.box 4 Z,rfl⟩,trivial⟩ (PV.done h (qad (qvf (⟨a.Az,a.Ay,c,d,f,a.Bx,a.Br⟩:qA) h (qy (S:=fun _=>False) Z) (qy (S:=fun _=>False) Z) (qak 2 h Z) (qak 1 h Z) (qak 0 h Z) (qy (S:=fun _=>False) Z) (qy (S:=fun _=>False) Z) (by rfl) (by rfl) (by rfl) (by rfl) (by rfl) (by rfl))))
def qg7 (a:(List qA)):Nat→(List qA)→Int→Option ((List qA)×Int)
 | 0,_,_=>U
 | n+1,c,b=>
  bif decide (b<(a.length:Int)) then
   (idx a b).bind fun f=>
   (qkJ n f).bind fun d=>
   (idx c b).bind fun _=>
   qg7 a n (setS c b d) (W64 (b+1))
  else
   V (c,b)
def qk6 (n:Nat)(a:(List qA)):Option (List qA):=
 (mkS (a.length:Int) ((⟨ByteArray.empty,0,[],[],[],0,0⟩:qA):qA)).bind fun b=>
 (qg7 a n b 0).bind fun o=>match o with
 | (c,_)=>
  V c
theorem qrU {a:(List qA)}(o:Ro w a cs1){r:(List qA)}(F:qk6 n a=V r):RetV prog 88 [GoT.v (List qA) cs1] w r:=by
 obtain⟨K,H,rfl,M⟩:=o;refine zV 23 func88 Z fun h=>X0 8 Z ?_;obtain⟨k,b,F⟩:=qd F;obtain⟨C,D,b⟩:=qR b;refine qas qa qA h Z Z Z Z Z Z Z Z Z C D b Z fun _ _ B h=>X0 7 Z ?_;obtain⟨I,F,l⟩:=qd F;refine qn (rL (fun m e w'=>∃(S2:Nat→Prop) (z:(List qA)) (y:Int),qg7 a m z y=V I∧e=[(0,.slice K a.length H),(3,.slice B k.length k.length),(4,.int .i64 y)]∧SH w w' [Ch.own S2 (z:List qA) [.slice B k.length k.length]]) n ⟨_,_,_,F,rfl,h⟩ Z ?_);rintro A _ _ ⟨S2,z,y,F,rfl,h⟩;rcases A with _|A
 ·cases F
 refine X0 8 Z (qi Z F ?_ ?_)<;>intro F
 ·refine X0 8 Z ?_;obtain⟨P,_,F,s,_,_,_,_,t,u,v,p⟩:=M.ix F;obtain⟨_,_,_,_,_,_,rfl,s2,N,O⟩:=qal v;refine zxe t u s Z (zc 0 (p.below h.below) Z (zcO h F (qsd (qlq P (h.oldS s2) (h.oldS N) (h.oldS O))) Z fun L _ _ _ h F=>?_));obtain⟨_,_,_,_,_,_,rfl,-,-,-⟩:=qal (h.own 0 Z);obtain⟨_,c,F⟩:=qd F;have d:=qc1 c;replace h:=h.lrn0 1 Z;obtain⟨_,J,_,_,f,g,-,i,_⟩:=(qmD (h.lrnO 1 Z)).1.at c;have x:=i;obtain⟨_,_,_,_,_,_,rfl,_,_,_⟩:=qal i;replace h:=h.lrnAdd 1 Z x;refine zx f g ⟨d.1,qD d.2.1 (qmD (h.lrnO 1 Z)).2⟩ Z ?_;replace h:=h.unlrn 1 Z;exact qok qa L h c f g Z Z Z Z Z fun _ _ h=>X0 7 Z (rK ⟨_,_,_,F,rfl,h⟩ Z)
 refine qr Z ?_;obtain rfl:=qb F;replace F:=l;refine X0 5 Z ?_;obtain rfl:=qb F;exact rO 0 h Z ⟨rfl,trivial⟩
def qjh (n:Nat)(a:qt):Option qt:=
 (qk6 n a.Ap).bind fun b=>
 V (⟨b⟩:qt)
theorem qpR {a:qt}(b:Ro w a cs1){r:qt}(F:qjh n a=V r):RetV prog 38 [GoT.v qt cs1] w r:=by
 obtain⟨_,_,rfl,g⟩:=qbN b;refine zV 9 func38 Z fun h=>zSR (qw h Z Z fun _ _ h=>qp qa h Z Z Z fun _ _ h=>zNSR (qp qa h Z Z Z fun _ _ h=>X1 5 2 h Z (zcL h F (qrU ⟨_,_,rfl,(h.oldS g)⟩) Z fun c _ _ f d h F=>zp1 Z (zs 1 h Z fun _ h=>X1 4 1 h Z (zs 2 h Z fun _ h=>qcU ?_)))));obtain rfl:=qb F;exact qX qa (ρ:=qt) [GoT.v qt [.slice f c.length d]] h ⟨⟨_,_,_,rfl,rfl,h.box 2 Z,rfl⟩,trivial⟩ (PV.done h (qad (qu0 (⟨c⟩:qt) h (qak 0 h Z) )))
def qgU (n:Nat)(a:qm):Option qm:=
 (qba n a.Ai).bind fun b=>
 V (⟨a.Az,a.Bo,b⟩:qm)
theorem qpv {a:qm}(b:Ro w a cs1){r:qm}(F:qgU n a=V r):RetV prog 144 [GoT.v qm cs1] w r:=by
 obtain⟨_,_,rfl,g⟩:=qW b;refine zV 15 func144 Z fun h=>zSR (qw h Z Z fun _ _ h=>qp qa h Z Z Z fun _ _ h=>zNSR (qp qa h Z Z Z fun _ _ h=>X1 6 2 h Z (zs 0 h Z fun _ h=>X1 6 2 h Z (zs 0 h Z fun _ h=>X1 5 2 h Z (zcL h F (qar ⟨_,_,rfl,(h.oldS g)⟩) Z fun c _ _ f d h F=>zp1 Z (zs 1 h Z fun _ h=>X1 4 1 h Z (zs 2 h Z fun _ h=>qcU ?_)))))));obtain rfl:=qb F;exact qX qa (ρ:=qm) [GoT.v qm [.string a.Az,.int .i64 a.Bo,.slice f c.length d]] h ⟨⟨_,_,_,rfl,rfl,h.box 2 Z,rfl⟩,trivial⟩ (PV.done h (qad (qp0 (⟨a.Az,a.Bo,c⟩:qm) h (qy (S:=fun _=>False) Z) (qy (S:=fun _=>False) Z) (qak 0 h Z) (by rfl) (by rfl))))
def qes (a:(List qm)):Nat→(List qm)→Int→Option ((List qm)×Int)
 | 0,_,_=>U
 | n+1,c,b=>
  bif decide (b<(a.length:Int)) then
   (idx a b).bind fun f=>
   (qgU n f).bind fun d=>
   (idx c b).bind fun _=>
   qes a n (setS c b d) (W64 (b+1))
  else
   V (c,b)
def qh6 (n:Nat)(a:(List qm)):Option (List qm):=
 (mkS (a.length:Int) ((⟨ByteArray.empty,0,[]⟩:qm):qm)).bind fun b=>
 (qes a n b 0).bind fun o=>match o with
 | (c,_)=>
  V c
theorem qpa {a:(List qm)}(o:Ro w a cs1){r:(List qm)}(F:qh6 n a=V r):RetV prog 89 [GoT.v (List qm) cs1] w r:=by
 obtain⟨K,H,rfl,M⟩:=o;refine zV 23 func89 Z fun h=>X0 8 Z ?_;obtain⟨k,b,F⟩:=qd F;obtain⟨C,D,b⟩:=qR b;refine qas qa qm h Z Z Z Z Z Z Z Z Z C D b Z fun _ _ B h=>X0 7 Z ?_;obtain⟨I,F,l⟩:=qd F;refine qn (rL (fun m e w'=>∃(S2:Nat→Prop) (z:(List qm)) (y:Int),qes a m z y=V I∧e=[(0,.slice K a.length H),(3,.slice B k.length k.length),(4,.int .i64 y)]∧SH w w' [Ch.own S2 (z:List qm) [.slice B k.length k.length]]) n ⟨_,_,_,F,rfl,h⟩ Z ?_);rintro A _ _ ⟨S2,z,y,F,rfl,h⟩;rcases A with _|A
 ·cases F
 refine X0 8 Z (qi Z F ?_ ?_)<;>intro F
 ·refine X0 8 Z ?_;obtain⟨N,_,F,s,_,_,_,_,t,u,v,p⟩:=M.ix F;obtain⟨_,_,rfl,s2⟩:=qW v;refine zxe t u s Z (zc 0 (p.below h.below) Z (zcO h F (qpv (qhl N (h.oldS s2))) Z fun L _ _ _ h F=>?_));obtain⟨_,_,rfl,-⟩:=qW (h.own 0 Z);obtain⟨_,c,F⟩:=qd F;have d:=qc1 c;replace h:=h.lrn0 1 Z;obtain⟨_,J,_,_,f,g,-,i,_⟩:=(qmD (h.lrnO 1 Z)).1.at c;have x:=i;obtain⟨_,_,rfl,_⟩:=qW i;replace h:=h.lrnAdd 1 Z x;refine zx f g ⟨d.1,qD d.2.1 (qmD (h.lrnO 1 Z)).2⟩ Z ?_;replace h:=h.unlrn 1 Z;exact qok qa L h c f g Z Z Z Z Z fun _ _ h=>X0 7 Z (rK ⟨_,_,_,F,rfl,h⟩ Z)
 refine qr Z ?_;obtain rfl:=qb F;replace F:=l;refine X0 5 Z ?_;obtain rfl:=qb F;exact rO 0 h Z ⟨rfl,trivial⟩
def qfR (a:(List ByteArray)):Nat→(List ByteArray)→Int→Option ((List ByteArray)×Int)
 | 0,_,_=>U
 | n+1,c,b=>
  bif decide (b<(a.length:Int)) then
   (idx a b).bind fun d=>
   (idx c b).bind fun _=>
   qfR a n (setS c b d) (W64 (b+1))
  else
   V (c,b)
def qjr (n:Nat)(a:(List ByteArray)):Option (List ByteArray):=
 (mkS (a.length:Int) (ByteArray.empty:ByteArray)).bind fun b=>
 (qfR a n b 0).bind fun o=>match o with
 | (c,_)=>
  V c
theorem qpO {a:(List ByteArray)}(k:Ro w a cs1){r:(List ByteArray)}(F:qjr n a=V r):RetV prog 90 [GoT.v (List ByteArray) cs1] w r:=by
 obtain⟨H,C,rfl,I⟩:=k;refine zV 22 func90 Z fun h=>X0 8 Z ?_;obtain⟨g,b,F⟩:=qd F;obtain⟨A,B,b⟩:=qR b;refine qas qa ByteArray h Z Z Z Z Z Z Z Z Z A B b Z fun _ S1 z h=>X0 7 Z ?_;obtain⟨D,F,i⟩:=qd F;refine qn (rL (fun m e w'=>∃(x:(List ByteArray)) (v:Int),qfR a m x v=V D∧e=[(0,.slice H a.length C),(3,.slice z g.length g.length),(4,.int .i64 v)]∧SH w w' [Ch.own S1 (x:List ByteArray) [.slice z g.length g.length]]) n ⟨_,_,F,rfl,h⟩ Z ?_);rintro y _ _ ⟨x,v,F,rfl,h⟩;rcases y with _|y
 ·cases F
 refine X0 8 Z (qi Z F ?_ ?_)<;>intro F
 ·refine X0 8 Z ?_;obtain⟨J,_,F,p,_,_,_,_,s,t,rfl,l⟩:=I.ix F;refine zxe s t p Z (zc 0 (l.below h.below) Z ?_);obtain⟨_,u,F,c,_,_,_,_,d,f,rfl,o⟩:=(h.sl 0 Z).1.ix F;exact zx d f ⟨c.1,qD c.2.1 (h.sl 0 Z).2⟩ Z (qao qa 0 0 J h Z u d f Z o Z Z Z Z Z Z Z fun _ h=>X0 7 Z (rK ⟨_,_,F,rfl,h⟩ Z))
 refine qr Z ?_;obtain rfl:=qb F;replace F:=i;refine X0 5 Z ?_;obtain rfl:=qb F;exact rO 0 h Z ⟨rfl,trivial⟩
def qkr (_:Nat)(a:qY):Option qY:=
 V (⟨a.Az,a.Bs,a.Bu⟩:qY)
theorem qs3 {a:qY}(b:Ro w a cs1){r:qY}(F:qkr n a=V r):RetV prog 145 [GoT.v qY cs1] w r:=by
 obtain rfl:=qa0 b;refine zV 14 func145 Z fun h=>zSR (qw h Z Z fun _ _ h=>qp qa h Z Z Z fun _ _ h=>zNSR (qp qa h Z Z Z fun _ _ h=>X1 6 2 h Z (zs 0 h Z fun _ h=>X1 6 2 h Z (zs 0 h Z fun _ h=>X1 6 2 h Z (zs 0 h Z fun _ h=>X1 4 0 h Z (zs 1 h Z fun _ h=>qcU ?_))))));obtain rfl:=qb F;exact qX qa (ρ:=qY) [GoT.v qY (qr4 a)] h ⟨⟨_,_,_,rfl,rfl,h.box 1 Z,rfl⟩,trivial⟩ (PV.done h (qad (qy (S:=fun _=>False) (qeW (⟨a.Az,a.Bs,a.Bu⟩:qY)))))
def qg9 (a:(List qY)):Nat→(List qY)→Int→Option ((List qY)×Int)
 | 0,_,_=>U
 | n+1,c,b=>
  bif decide (b<(a.length:Int)) then
   (idx a b).bind fun f=>
   (qkr n f).bind fun d=>
   (idx c b).bind fun _=>
   qg9 a n (setS c b d) (W64 (b+1))
  else
   V (c,b)
def qla (n:Nat)(a:(List qY)):Option (List qY):=
 (mkS (a.length:Int) ((⟨ByteArray.empty,0,0⟩:qY):qY)).bind fun b=>
 (qg9 a n b 0).bind fun o=>match o with
 | (c,_)=>
  V c
theorem qrO {a:(List qY)}(k:Ro w a cs1){r:(List qY)}(F:qla n a=V r):RetV prog 91 [GoT.v (List qY) cs1] w r:=by
 obtain⟨K,I,rfl,L⟩:=k;refine zV 23 func91 Z fun h=>X0 8 Z ?_;obtain⟨g,b,F⟩:=qd F;obtain⟨D,H,b⟩:=qR b;refine qas qa qY h Z Z Z Z Z Z Z Z Z D H b Z fun _ S1 B h=>X0 7 Z ?_;obtain⟨J,F,i⟩:=qd F;refine qn (rL (fun m e w'=>∃(z:(List qY)) (y:Int),qg9 a m z y=V J∧e=[(0,.slice K a.length I),(3,.slice B g.length g.length),(4,.int .i64 y)]∧SH w w' [Ch.own S1 (z:List qY) [.slice B g.length g.length]]) n ⟨_,_,F,rfl,h⟩ Z ?_);rintro A _ _ ⟨z,y,F,rfl,h⟩;rcases A with _|A
 ·cases F
 refine X0 8 Z (qi Z F ?_ ?_)<;>intro F
 ·refine X0 8 Z ?_;obtain⟨M,_,F,p,_,_,_,_,s,t,u,l⟩:=L.ix F;obtain rfl:=qa0 u;refine zxe s t p Z (zc 0 (l.below h.below) Z (zcO h F (qs3 (qeW M)) Z fun C _ _ _ h F=>?_));obtain rfl:=qa0 (h.own 0 Z);obtain⟨N,x,F,c,_,_,_,_,d,f,v,o⟩:=(h.sl 1 Z).1.ix F;obtain rfl:=qa0 v;refine zx d f ⟨c.1,qD c.2.1 (h.sl 1 Z).2⟩ Z (qao qa 1 0 C h Z x d f (qeW N) o Z Z Z (qeW C) Z Z Z fun _ h=>X0 7 Z ?_);replace h:=h.pick [1] Z;exact rK ⟨_,_,F,rfl,h⟩ Z
 refine qr Z ?_;obtain rfl:=qb F;replace F:=i;refine X0 5 Z ?_;obtain rfl:=qb F;exact rO 0 h Z ⟨rfl,trivial⟩
def qkq (n:Nat)(a:qg):Option qg:=
 (qh6 n a.Ab).bind fun b=>
 (qjr n a.Ai).bind fun c=>
 (qla n a.Ah).bind fun d=>
 V (⟨b,c,d⟩:qg)
theorem qq5 {a:qg}(b:Ro w a cs1){r:qg}(F:qkq n a=V r):RetV prog 39 [GoT.v qg cs1] w r:=by
 obtain⟨_,_,_,_,_,_,rfl,p,s2,s⟩:=qaI b;refine zV 17 func39 Z fun h=>zSR (qw h Z Z fun _ _ h=>qp qa h Z Z Z fun _ _ h=>zNSR (qp qa h Z Z Z fun _ _ h=>X1 5 2 h Z (zcL h F (qpa ⟨_,_,rfl,(h.oldS p)⟩) Z fun c _ _ l g h F=>zp1 Z (zs 1 h Z fun _ h=>X1 5 3 h Z (zcL h F (qpO ⟨_,_,rfl,(h.oldS s2)⟩) Z fun d _ _ m i h F=>zp1 Z (zs 2 h Z fun _ h=>X1 5 4 h Z (zcL h F (qrO ⟨_,_,rfl,(h.oldS s)⟩) Z fun f _ _ o k h F=>zp1 Z (zs 3 h Z fun _ h=>X1 4 3 h Z (zs 4 h Z fun _ h=>qcU ?_)))))))));obtain rfl:=qb F;exact qX qa (ρ:=qg) [GoT.v qg [.slice l c.length g,.slice m d.length i,.slice o f.length k]] h ⟨⟨_,_,_,rfl,rfl,h.box 4 Z,rfl⟩,trivial⟩ (PV.done h (qad (qwm (⟨c,d,f⟩:qg) h (qak 2 h Z) (qak 1 h Z) (qak 0 h Z) (by rfl) (by rfl))))
def qkM (n:Nat)(a:qH):Option qH:=
 (qba n a.Ak).bind fun b=>
 (qba n a.Bt).bind fun c=>
 (qba n a.Bq).bind fun d=>
 (qba n a.Bg).bind fun f=>
 V (⟨b,c,d,f⟩:qH)
theorem qsp {a:qH}(b:Ro w a cs1){r:qH}(F:qkM n a=V r):RetV prog 92 [GoT.v qH cs1] w r:=by
 obtain⟨_,_,_,_,_,_,_,_,rfl,u,s2,v,x⟩:=qaS b;refine zV 21 func92 Z fun h=>zSR (qw h Z Z fun _ _ h=>qp qa h Z Z Z fun _ _ h=>zNSR (qp qa h Z Z Z fun _ _ h=>X1 5 2 h Z (zcL h F (qar ⟨_,_,rfl,(h.oldS u)⟩) Z fun c _ _ o i h F=>zp1 Z (zs 1 h Z fun _ h=>X1 5 3 h Z (zcL h F (qar ⟨_,_,rfl,(h.oldS s2)⟩) Z fun d _ _ p k h F=>zp1 Z (zs 2 h Z fun _ h=>X1 5 4 h Z (zcL h F (qar ⟨_,_,rfl,(h.oldS v)⟩) Z fun f _ _ s l h F=>zp1 Z (zs 3 h Z fun _ h=>X1 5 5 h Z (zcL h F (qar ⟨_,_,rfl,(h.oldS x)⟩) Z fun g _ _ t m h F=>zp1 Z (zs 4 h Z fun _ h=>X1 4 4 h Z (zs 5 h Z fun _ h=>qcU ?_)))))))))));obtain rfl:=qb F;exact qX qa (ρ:=qH) [GoT.v qH [.slice o c.length i,.slice p d.length k,.slice s f.length l,.slice t g.length m]] h ⟨⟨_,_,_,rfl,rfl,h.box 5 Z,rfl⟩,trivial⟩ (PV.done h (qad (qvS (⟨c,d,f,g⟩:qH) h (qak 3 h Z) (qak 2 h Z) (qak 1 h Z) (qak 0 h Z) (by rfl) (by rfl) (by rfl))))
def qg8 (a:(List qH)):Nat→(List qH)→Int→Option ((List qH)×Int)
 | 0,_,_=>U
 | n+1,c,b=>
  bif decide (b<(a.length:Int)) then
   (idx a b).bind fun f=>
   (qkM n f).bind fun d=>
   (idx c b).bind fun _=>
   qg8 a n (setS c b d) (W64 (b+1))
  else
   V (c,b)
def qk8 (n:Nat)(a:(List qH)):Option (List qH):=
 (mkS (a.length:Int) ((⟨[],[],[],[]⟩:qH):qH)).bind fun b=>
 (qg8 a n b 0).bind fun o=>match o with
 | (c,_)=>
  V c
theorem qrK {a:(List qH)}(o:Ro w a cs1){r:(List qH)}(F:qk8 n a=V r):RetV prog 40 [GoT.v (List qH) cs1] w r:=by
 obtain⟨K,H,rfl,M⟩:=o;refine zV 23 func40 Z fun h=>X0 8 Z ?_;obtain⟨k,b,F⟩:=qd F;obtain⟨C,D,b⟩:=qR b;refine qas qa qH h Z Z Z Z Z Z Z Z Z C D b Z fun _ _ B h=>X0 7 Z ?_;obtain⟨I,F,l⟩:=qd F;refine qn (rL (fun m e w'=>∃(S2:Nat→Prop) (z:(List qH)) (y:Int),qg8 a m z y=V I∧e=[(0,.slice K a.length H),(3,.slice B k.length k.length),(4,.int .i64 y)]∧SH w w' [Ch.own S2 (z:List qH) [.slice B k.length k.length]]) n ⟨_,_,_,F,rfl,h⟩ Z ?_);rintro A _ _ ⟨S2,z,y,F,rfl,h⟩;rcases A with _|A
 ·cases F
 refine X0 8 Z (qi Z F ?_ ?_)<;>intro F
 ·refine X0 8 Z ?_;obtain⟨Q,_,F,s,_,_,_,_,t,u,v,p⟩:=M.ix F;obtain⟨_,_,_,_,_,_,_,_,rfl,s2,N,O,P⟩:=qaS v;refine zxe t u s Z (zc 0 (p.below h.below) Z (zcO h F (qsp (qlp Q (h.oldS s2) (h.oldS N) (h.oldS O) (h.oldS P))) Z fun L _ _ _ h F=>?_));obtain⟨_,_,_,_,_,_,_,_,rfl,-,-,-,-⟩:=qaS (h.own 0 Z);obtain⟨_,c,F⟩:=qd F;have d:=qc1 c;replace h:=h.lrn0 1 Z;obtain⟨_,J,_,_,f,g,-,i,_⟩:=(qmD (h.lrnO 1 Z)).1.at c;have x:=i;obtain⟨_,_,_,_,_,_,_,_,rfl,_,_,_,_⟩:=qaS i;replace h:=h.lrnAdd 1 Z x;refine zx f g ⟨d.1,qD d.2.1 (qmD (h.lrnO 1 Z)).2⟩ Z ?_;replace h:=h.unlrn 1 Z;exact qok qa L h c f g Z Z Z Z Z fun _ _ h=>X0 7 Z (rK ⟨_,_,_,F,rfl,h⟩ Z)
 refine qr Z ?_;obtain rfl:=qb F;replace F:=l;refine X0 5 Z ?_;obtain rfl:=qb F;exact rO 0 h Z ⟨rfl,trivial⟩
def qgK (n:Nat)(a:qe):Option qe:=
 (qjh n (⟨a.Ar.Ap⟩:qt)).bind fun b=>
 (qkq n (⟨a.Aa.Ab,a.Aa.Ai,a.Aa.Ah⟩:qg)).bind fun c=>
 (qk8 n a.Af).bind fun d=>
 V (⟨b,c,d⟩:qe)
theorem qft {a:qe}(c:Ro w a cs1){r:qe}(F:qgK n a=V r):RetV prog 10 [GoT.v qe cs1] w r:=by
 obtain⟨_,_,_,_,_,_,_,_,_,_,rfl,v,s2,x,y,z⟩:=qE c;refine zV 17 func10 Z fun h=>zSR (qw h Z Z fun _ _ h=>qp qa h Z Z Z fun _ _ h=>zNSR (qp qa h Z Z Z fun _ _ h=>X1 5 2 h Z (zcO h F (qpR (qez _ (h.oldS v))) Z fun g _ _ _ h F=>?_)));obtain⟨p,k,rfl,-⟩:=qbN (h.own 0 Z);refine zp1 Z (zs 1 h Z fun _ h=>X1 5 3 h Z (zcO h F (qq5 (qav _ (h.oldS s2) (h.oldS x) (h.oldS y))) Z fun b _ _ _ h F=>?_));obtain⟨s,l,t,m,u,o,rfl,-,-,-⟩:=qaI (h.own 0 Z);refine zp1 Z (zs 2 h Z fun _ h=>X1 5 4 h Z (zcL h F (qrK ⟨_,_,rfl,(h.oldS z)⟩) Z fun i _ _ f d h F=>zp1 Z (zs 3 h Z fun _ h=>X1 4 3 h Z (zs 4 h Z fun _ h=>qcU ?_))));obtain rfl:=qb F;exact qX qa (ρ:=qe) [GoT.v qe [.slice p g.Ap.length k,.slice s b.Ab.length l,.slice t b.Ai.length m,.slice u b.Ah.length o,.slice f i.length d]] h ⟨⟨_,_,_,rfl,rfl,h.box 4 Z,rfl⟩,trivial⟩ (PV.done h (qad (qx3 (⟨g,b,i⟩:qe) h (qak 2 h Z) (qak 1 h Z) (qak 0 h Z) (by rfl) (by rfl))))
def qf8 (a:(List Int))(b:(List Int)):Nat→Int→Option (Flow Bool Int)
 | 0,_=>U
 | n+1,c=>
  bif decide (c<(a.length:Int)) then
   (idx a c).bind fun d=>
   (idx b c).bind fun f=>
   bif (d != f) then V (.ret false) else
   qf8 a b n (W64 (c+1))
  else
   V (.nxt c)
def qa8 (n:Nat)(a:(List Int))(b:(List Int)):Option Bool:=
 bif ((a.length:Int) != (b.length:Int)) then V false else
 (qf8 a b n 0).bind fun o=>match o with
 | .ret r=>V r
 | .nxt _=>
  V true
theorem qaW {a:(List Int)}{b:(List Int)}(d:Ro w a cs1)(f:Ro w b cs2){r:Bool}(F:qa8 n a b=V r):RetV prog 17 [GoT.v (List Int) cs1,GoT.v (List Int) cs2] w r:=by
 obtain⟨A,x,rfl,C⟩:=d;obtain⟨B,y,rfl,s2⟩:=f;refine zV 26 func17 Z fun h=>X0 13 Z (qi Z F ?_ ?_)<;>intro F
 ·exact X0 4 Z (rb h F Z)
 refine X0 6 Z ?_;obtain⟨z,F,c⟩:=qd F;refine qn (rL (fun m e w'=>∃(u:Int),qf8 a b m u=V z∧e=[(0,.slice A a.length x),(1,.slice B b.length y),(5,.int .i64 u)]∧SH w w' []) n ⟨_,F,rfl,h⟩ Z ?_);rintro v _ _ ⟨u,F,rfl,h⟩;rcases v with _|v
 ·cases F
 refine X0 8 Z (qi Z F ?_ ?_)<;>intro F
 ·refine X0 4 Z (rD (zd2 Z ?_));obtain⟨_,_,F,k,_,_,_,_,o,s,rfl,g⟩:=C.ix F;refine zdxe o s k Z (zdc 0 (g.below h.below) Z (zd2 Z ?_));obtain⟨_,_,F,l,_,_,_,_,p,t,rfl,i⟩:=s2.ix F;refine zdxe p t l Z (zdc 0 (i.below h.below) Z (zd1 Z (dN h fun _ h=>qi Z F ?_ ?_)))<;>intro F
  ·refine X0 4 Z ?_;obtain rfl:=qb F;replace F:=c;exact rb h F Z
  exact X0 7 Z (rK ⟨_,F,rfl,h⟩ Z)
 refine qr Z ?_;obtain rfl:=qb F;replace F:=c;exact X0 4 Z (rb h F Z)
def qlV (_:Nat)(a:qat)(b:qat):Option Bool:=
 bif (a.Az.toList != b.Az.toList) then V false else
 bif (a.Bs != b.Bs) then V false else
 bif (a.Bq != b.Bq) then V false else
 bif (!(a.Bn==b.Bn)) then V false else
 V true
theorem qth {a:qat}{b:qat}(c:Ro w a cs1)(d:Ro w b cs2){r:Bool}(F:qlV n a b=V r):RetV prog 283 [GoT.v qat cs1,GoT.v qat cs2] w r:=by
 obtain rfl:=qa5 c;obtain rfl:=qa5 d;refine zV 25 func283 Z fun h=>zSR (qw h Z Z fun _ _ h=>qw h Z Z fun _ _ h=>X2 11 1 0 h Z (qi Z F ?_ ?_))<;>intro F
 ·exact X0 4 Z (rb h F Z)
 refine X2 10 1 0 h Z (qi Z F ?_ ?_)<;>intro F
 ·exact X0 4 Z (rb h F Z)
 refine X2 10 1 0 h Z (qi Z F ?_ ?_)<;>intro F
 ·exact X0 4 Z (rb h F Z)
 refine X2 10 1 0 h Z (qi Z F ?_ ?_)<;>intro F
 ·exact X0 4 Z (rb h F Z)
 exact X0 5 Z (rb h F Z)
def qh1 (a:(List qat))(b:(List qat)):Nat→Int→Option (Flow Bool Int)
 | 0,_=>U
 | n+1,c=>
  bif decide (c<(a.length:Int)) then
   (idx a c).bind fun f=>
   (idx b c).bind fun g=>
   (qlV n f g).bind fun d=>
   bif (!d) then V (.ret false) else
   qh1 a b n (W64 (c+1))
  else
   V (.nxt c)
def qmn (n:Nat)(a:(List qat))(b:(List qat)):Option Bool:=
 bif ((a.length:Int) != (b.length:Int)) then V false else
 (qh1 a b n 0).bind fun o=>match o with
 | .ret r=>V r
 | .nxt _=>
  V true
theorem qsn {a:(List qat)}{b:(List qat)}(d:Ro w a cs1)(f:Ro w b cs2){r:Bool}(F:qmn n a b=V r):RetV prog 240 [GoT.v (List qat) cs1,GoT.v (List qat) cs2] w r:=by
 obtain⟨D,A,rfl,J⟩:=d;obtain⟨H,B,rfl,s2⟩:=f;refine zV 27 func240 Z fun h=>X0 13 Z (qi Z F ?_ ?_)<;>intro F
 ·exact X0 4 Z (rb h F Z)
 refine X0 6 Z ?_;obtain⟨C,F,c⟩:=qd F;refine qn (rL (fun m e w'=>∃(y:Int),qh1 a b m y=V C∧e=[(0,.slice D a.length A),(1,.slice H b.length B),(5,.int .i64 y)]∧SH w w' []) n ⟨_,F,rfl,h⟩ Z ?_);rintro z _ _ ⟨y,F,rfl,h⟩;rcases z with _|z
 ·cases F
 refine X0 8 Z (qi Z F ?_ ?_)<;>intro F
 ·refine X0 4 Z (rD (zd2 Z ?_));obtain⟨K,_,F,k,_,_,_,_,o,s,u,g⟩:=J.ix F;obtain rfl:=qa5 u;refine zdxe o s k Z (zdc 0 (g.below h.below) Z (zd2 Z ?_));obtain⟨L,_,F,l,_,_,_,_,p,t,v,i⟩:=s2.ix F;obtain rfl:=qa5 v;refine zdxe p t l Z (zdc 0 (i.below h.below) Z ?_);obtain⟨I,x,F⟩:=qd F;refine qbn I (vsB _) (cB 283 Z) (fun _ hb=>qth (qev K) (qev L) x) Z Z Z Z (zd1 Z (dN h fun _ h=>qi Z F ?_ ?_))<;>intro F
  ·refine X0 4 Z ?_;obtain rfl:=qb F;replace F:=c;exact rb h F Z
  exact X0 7 Z (rK ⟨_,F,rfl,h⟩ Z)
 refine qr Z ?_;obtain rfl:=qb F;replace F:=c;exact X0 4 Z (rb h F Z)
def qjq (n:Nat)(a:qx)(b:qx):Option Bool:=
 (qa8 n a.Bi b.Bi).bind fun c=>
 bif (!c) then V false else
 (qa8 n a.Bb b.Bb).bind fun d=>
 bif (!d) then V false else
 (qa8 n a.Ba b.Ba).bind fun f=>
 bif (!f) then V false else
 V true
theorem qrM {a:qx}{b:qx}(c:Ro w a cs1)(d:Ro w b cs2){r:Bool}(F:qjq n a b=V r):RetV prog 322 [GoT.v qx cs1,GoT.v qx cs2] w r:=by
 obtain⟨_,_,_,_,_,_,rfl,f,s2,g⟩:=qaK c;obtain⟨_,_,_,_,_,_,rfl,i,k,l⟩:=qaK d;refine zV 23 func322 Z fun h=>zSR (qw h Z Z fun _ _ h=>qw h Z Z fun _ _ h=>X2 9 1 0 h Z (zcB h F (qaW ⟨_,_,rfl,(h.oldS f)⟩ ⟨_,_,rfl,(h.oldS i)⟩) Z fun _ _ h F=>X0 2 Z (qi Z F ?_ ?_)))<;>intro F
 ·exact X0 4 Z (rb h F Z)
 refine X2 8 1 0 h Z (zcB h F (qaW ⟨_,_,rfl,(h.oldS s2)⟩ ⟨_,_,rfl,(h.oldS k)⟩) Z fun _ _ h F=>X0 2 Z (qi Z F ?_ ?_))<;>intro F
 ·exact X0 4 Z (rb h F Z)
 refine X2 8 1 0 h Z (zcB h F (qaW ⟨_,_,rfl,(h.oldS g)⟩ ⟨_,_,rfl,(h.oldS l)⟩) Z fun _ _ h F=>X0 2 Z (qi Z F ?_ ?_))<;>intro F
 ·exact X0 4 Z (rb h F Z)
 exact X0 5 Z (rb h F Z)
def qf7 (a:(List qx))(b:(List qx)):Nat→Int→Option (Flow Bool Int)
 | 0,_=>U
 | n+1,c=>
  bif decide (c<(a.length:Int)) then
   (idx a c).bind fun f=>
   (idx b c).bind fun g=>
   (qjq n f g).bind fun d=>
   bif (!d) then V (.ret false) else
   qf7 a b n (W64 (c+1))
  else
   V (.nxt c)
def qiM (n:Nat)(a:(List qx))(b:(List qx)):Option Bool:=
 bif ((a.length:Int) != (b.length:Int)) then V false else
 (qf7 a b n 0).bind fun o=>match o with
 | .ret r=>V r
 | .nxt _=>
  V true
theorem qnd {a:(List qx)}{b:(List qx)}(d:Ro w a cs1)(f:Ro w b cs2){r:Bool}(F:qiM n a b=V r):RetV prog 305 [GoT.v (List qx) cs1,GoT.v (List qx) cs2] w r:=by
 obtain⟨D,A,rfl,J⟩:=d;obtain⟨H,B,rfl,s2⟩:=f;refine zV 27 func305 Z fun h=>X0 13 Z (qi Z F ?_ ?_)<;>intro F
 ·exact X0 4 Z (rb h F Z)
 refine X0 6 Z ?_;obtain⟨C,F,c⟩:=qd F;refine qn (rL (fun m e w'=>∃(y:Int),qf7 a b m y=V C∧e=[(0,.slice D a.length A),(1,.slice H b.length B),(5,.int .i64 y)]∧SH w w' []) n ⟨_,F,rfl,h⟩ Z ?_);rintro z _ _ ⟨y,F,rfl,h⟩;rcases z with _|z
 ·cases F
 refine X0 8 Z (qi Z F ?_ ?_)<;>intro F
 ·refine X0 4 Z (rD (zd2 Z ?_));obtain⟨Q,_,F,k,_,_,_,_,o,s,u,g⟩:=J.ix F;obtain⟨_,_,_,_,_,_,rfl,K,L,M⟩:=qaK u;refine zdxe o s k Z (zdc 0 (g.below h.below) Z (zd2 Z ?_));obtain⟨R,_,F,l,_,_,_,_,p,t,v,i⟩:=s2.ix F;obtain⟨_,_,_,_,_,_,rfl,N,O,P⟩:=qaK v;refine zdxe p t l Z (zdc 0 (i.below h.below) Z ?_);obtain⟨I,x,F⟩:=qd F;refine qbn I (vsB _) (cB 322 Z) (fun _ hb=>qrM (qf0 Q ((h.ext hb).oldS K) ((h.ext hb).oldS L) ((h.ext hb).oldS M)) (qf0 R ((h.ext hb).oldS N) ((h.ext hb).oldS O) ((h.ext hb).oldS P)) x) Z Z Z Z (zd1 Z (dN h fun _ h=>qi Z F ?_ ?_))<;>intro F
  ·refine X0 4 Z ?_;obtain rfl:=qb F;replace F:=c;exact rb h F Z
  exact X0 7 Z (rK ⟨_,F,rfl,h⟩ Z)
 refine qr Z ?_;obtain rfl:=qb F;replace F:=c;exact X0 4 Z (rb h F Z)
end Go.Fw


namespace Go.Fw
open Go Go.Proofs Go.Proofs.Tryz
open Go.RowKit (Below)
set_option maxRecDepth 100000
set_option maxHeartbeats 1600000
variable {n:Nat}{w:World}{cs1 cs2 cs3 cs4 cs5 cs6 cs7 cs8 cs9:List Value}
def qlN (n:Nat)(a:qL)(b:qL):Option Bool:=
 bif (a.Ay != b.Ay) then V false else
 bif (a.Bf != b.Bf) then V false else
 bif (a.To != b.To) then V false else
 bif (a.Bl != b.Bl) then V false else
 (qiM n a.Bj b.Bj).bind fun c=>
 bif (!c) then V false else
 (qiM n a.Aq b.Aq).bind fun d=>
 bif (!d) then V false else
 V true
theorem qs6 {a:qL}{b:qL}(c:Ro w a cs1)(d:Ro w b cs2){r:Bool}(F:qlN n a b=V r):RetV prog 284 [GoT.v qL cs1,GoT.v qL cs2] w r:=by
 obtain⟨_,_,_,_,rfl,f,s2⟩:=qaq c;obtain⟨_,_,_,_,rfl,g,i⟩:=qaq d;refine zV 37 func284 Z fun h=>zSR (qw h Z Z fun _ _ h=>qw h Z Z fun _ _ h=>X2 11 1 0 h Z (qi Z F ?_ ?_))<;>intro F
 ·exact X0 4 Z (rb h F Z)
 refine X2 10 1 0 h Z (qi Z F ?_ ?_)<;>intro F
 ·exact X0 4 Z (rb h F Z)
 refine X2 10 1 0 h Z (qi Z F ?_ ?_)<;>intro F
 ·exact X0 4 Z (rb h F Z)
 refine X2 10 1 0 h Z (qi Z F ?_ ?_)<;>intro F
 ·exact X0 4 Z (rb h F Z)
 refine X2 8 1 0 h Z (zcB h F (qnd ⟨_,_,rfl,(h.oldS f)⟩ ⟨_,_,rfl,(h.oldS g)⟩) Z fun _ _ h F=>X0 2 Z (qi Z F ?_ ?_))<;>intro F
 ·exact X0 4 Z (rb h F Z)
 refine X2 8 1 0 h Z (zcB h F (qnd ⟨_,_,rfl,(h.oldS s2)⟩ ⟨_,_,rfl,(h.oldS i)⟩) Z fun _ _ h F=>X0 2 Z (qi Z F ?_ ?_))<;>intro F
 ·exact X0 4 Z (rb h F Z)
 exact X0 5 Z (rb h F Z)
def qhR (a:(List qL))(b:(List qL)):Nat→Int→Option (Flow Bool Int)
 | 0,_=>U
 | n+1,c=>
  bif decide (c<(a.length:Int)) then
   (idx a c).bind fun f=>
   (idx b c).bind fun g=>
   (qlN n f g).bind fun d=>
   bif (!d) then V (.ret false) else
   qhR a b n (W64 (c+1))
  else
   V (.nxt c)
def qmk (n:Nat)(a:(List qL))(b:(List qL)):Option Bool:=
 bif ((a.length:Int) != (b.length:Int)) then V false else
 (qhR a b n 0).bind fun o=>match o with
 | .ret r=>V r
 | .nxt _=>
  V true
theorem qss {a:(List qL)}{b:(List qL)}(d:Ro w a cs1)(f:Ro w b cs2){r:Bool}(F:qmk n a b=V r):RetV prog 241 [GoT.v (List qL) cs1,GoT.v (List qL) cs2] w r:=by
 obtain⟨D,A,rfl,J⟩:=d;obtain⟨H,B,rfl,s2⟩:=f;refine zV 27 func241 Z fun h=>X0 13 Z (qi Z F ?_ ?_)<;>intro F
 ·exact X0 4 Z (rb h F Z)
 refine X0 6 Z ?_;obtain⟨C,F,c⟩:=qd F;refine qn (rL (fun m e w'=>∃(y:Int),qhR a b m y=V C∧e=[(0,.slice D a.length A),(1,.slice H b.length B),(5,.int .i64 y)]∧SH w w' []) n ⟨_,F,rfl,h⟩ Z ?_);rintro z _ _ ⟨y,F,rfl,h⟩;rcases z with _|z
 ·cases F
 refine X0 8 Z (qi Z F ?_ ?_)<;>intro F
 ·refine X0 4 Z (rD (zd2 Z ?_));obtain⟨O,_,F,k,_,_,_,_,o,s,u,g⟩:=J.ix F;obtain⟨_,_,_,_,rfl,K,L⟩:=qaq u;refine zdxe o s k Z (zdc 0 (g.below h.below) Z (zd2 Z ?_));obtain⟨P,_,F,l,_,_,_,_,p,t,v,i⟩:=s2.ix F;obtain⟨_,_,_,_,rfl,M,N⟩:=qaq v;refine zdxe p t l Z (zdc 0 (i.below h.below) Z ?_);obtain⟨I,x,F⟩:=qd F;refine qbn I (vsB _) (cB 284 Z) (fun _ hb=>qs6 (qgo O ((h.ext hb).oldS K) ((h.ext hb).oldS L)) (qgo P ((h.ext hb).oldS M) ((h.ext hb).oldS N)) x) Z Z Z Z (zd1 Z (dN h fun _ h=>qi Z F ?_ ?_))<;>intro F
  ·refine X0 4 Z ?_;obtain rfl:=qb F;replace F:=c;exact rb h F Z
  exact X0 7 Z (rK ⟨_,F,rfl,h⟩ Z)
 refine qr Z ?_;obtain rfl:=qb F;replace F:=c;exact X0 4 Z (rb h F Z)
def qkE (n:Nat)(a:qA)(b:qA):Option Bool:=
 bif (a.Az.toList != b.Az.toList) then V false else
 bif (a.Ay != b.Ay) then V false else
 (qmn n a.Av b.Av).bind fun c=>
 bif (!c) then V false else
 (qmk n a.As b.As).bind fun d=>
 bif (!d) then V false else
 (qa8 n a.Bk b.Bk).bind fun f=>
 bif (!f) then V false else
 bif (a.Bx != b.Bx) then V false else
 bif (a.Br != b.Br) then V false else
 V true
theorem qsc {a:qA}{b:qA}(c:Ro w a cs1)(d:Ro w b cs2){r:Bool}(F:qkE n a b=V r):RetV prog 182 [GoT.v qA cs1,GoT.v qA cs2] w r:=by
 obtain⟨_,_,_,_,_,_,rfl,f,s2,g⟩:=qal c;obtain⟨_,_,_,_,_,_,rfl,i,k,l⟩:=qal d;refine zV 43 func182 Z fun h=>zSR (qw h Z Z fun _ _ h=>qw h Z Z fun _ _ h=>X2 11 1 0 h Z (qi Z F ?_ ?_))<;>intro F
 ·exact X0 4 Z (rb h F Z)
 refine X2 10 1 0 h Z (qi Z F ?_ ?_)<;>intro F
 ·exact X0 4 Z (rb h F Z)
 refine X2 8 1 0 h Z (zcB h F (qsn ⟨_,_,rfl,(h.oldS f)⟩ ⟨_,_,rfl,(h.oldS i)⟩) Z fun _ _ h F=>X0 2 Z (qi Z F ?_ ?_))<;>intro F
 ·exact X0 4 Z (rb h F Z)
 refine X2 8 1 0 h Z (zcB h F (qss ⟨_,_,rfl,(h.oldS s2)⟩ ⟨_,_,rfl,(h.oldS k)⟩) Z fun _ _ h F=>X0 2 Z (qi Z F ?_ ?_))<;>intro F
 ·exact X0 4 Z (rb h F Z)
 refine X2 8 1 0 h Z (zcB h F (qaW ⟨_,_,rfl,(h.oldS g)⟩ ⟨_,_,rfl,(h.oldS l)⟩) Z fun _ _ h F=>X0 2 Z (qi Z F ?_ ?_))<;>intro F
 ·exact X0 4 Z (rb h F Z)
 refine X2 10 1 0 h Z (qi Z F ?_ ?_)<;>intro F
 ·exact X0 4 Z (rb h F Z)
 refine X2 10 1 0 h Z (qi Z F ?_ ?_)<;>intro F
 ·exact X0 4 Z (rb h F Z)
 exact X0 5 Z (rb h F Z)
def qgT (a:(List qA))(b:(List qA)):Nat→Int→Option (Flow Bool Int)
 | 0,_=>U
 | n+1,c=>
  bif decide (c<(a.length:Int)) then
   (idx a c).bind fun f=>
   (idx b c).bind fun g=>
   (qkE n f g).bind fun d=>
   bif (!d) then V (.ret false) else
   qgT a b n (W64 (c+1))
  else
   V (.nxt c)
def qlb (n:Nat)(a:(List qA))(b:(List qA)):Option Bool:=
 bif ((a.length:Int) != (b.length:Int)) then V false else
 (qgT a b n 0).bind fun o=>match o with
 | .ret r=>V r
 | .nxt _=>
  V true
theorem qrt {a:(List qA)}{b:(List qA)}(d:Ro w a cs1)(f:Ro w b cs2){r:Bool}(F:qlb n a b=V r):RetV prog 107 [GoT.v (List qA) cs1,GoT.v (List qA) cs2] w r:=by
 obtain⟨D,A,rfl,J⟩:=d;obtain⟨H,B,rfl,s2⟩:=f;refine zV 27 func107 Z fun h=>X0 13 Z (qi Z F ?_ ?_)<;>intro F
 ·exact X0 4 Z (rb h F Z)
 refine X0 6 Z ?_;obtain⟨C,F,c⟩:=qd F;refine qn (rL (fun m e w'=>∃(y:Int),qgT a b m y=V C∧e=[(0,.slice D a.length A),(1,.slice H b.length B),(5,.int .i64 y)]∧SH w w' []) n ⟨_,F,rfl,h⟩ Z ?_);rintro z _ _ ⟨y,F,rfl,h⟩;rcases z with _|z
 ·cases F
 refine X0 8 Z (qi Z F ?_ ?_)<;>intro F
 ·refine X0 4 Z (rD (zd2 Z ?_));obtain⟨Q,_,F,k,_,_,_,_,o,s,u,g⟩:=J.ix F;obtain⟨_,_,_,_,_,_,rfl,K,L,M⟩:=qal u;refine zdxe o s k Z (zdc 0 (g.below h.below) Z (zd2 Z ?_));obtain⟨R,_,F,l,_,_,_,_,p,t,v,i⟩:=s2.ix F;obtain⟨_,_,_,_,_,_,rfl,N,O,P⟩:=qal v;refine zdxe p t l Z (zdc 0 (i.below h.below) Z ?_);obtain⟨I,x,F⟩:=qd F;refine qbn I (vsB _) (cB 182 Z) (fun _ hb=>qsc (qlq Q ((h.ext hb).oldS K) ((h.ext hb).oldS L) ((h.ext hb).oldS M)) (qlq R ((h.ext hb).oldS N) ((h.ext hb).oldS O) ((h.ext hb).oldS P)) x) Z Z Z Z (zd1 Z (dN h fun _ h=>qi Z F ?_ ?_))<;>intro F
  ·refine X0 4 Z ?_;obtain rfl:=qb F;replace F:=c;exact rb h F Z
  exact X0 7 Z (rK ⟨_,F,rfl,h⟩ Z)
 refine qr Z ?_;obtain rfl:=qb F;replace F:=c;exact X0 4 Z (rb h F Z)
def qjB (n:Nat)(a:qt)(b:qt):Option Bool:=
 (qlb n a.Ap b.Ap).bind fun c=>
 bif (!c) then V false else
 V true
theorem qp6 {a:qt}{b:qt}(c:Ro w a cs1)(d:Ro w b cs2){r:Bool}(F:qjB n a b=V r):RetV prog 52 [GoT.v qt cs1,GoT.v qt cs2] w r:=by
 obtain⟨_,_,rfl,f⟩:=qbN c;obtain⟨_,_,rfl,s2⟩:=qbN d;refine zV 11 func52 Z fun h=>zSR (qw h Z Z fun _ _ h=>qw h Z Z fun _ _ h=>X2 9 1 0 h Z (zcB h F (qrt ⟨_,_,rfl,(h.oldS f)⟩ ⟨_,_,rfl,(h.oldS s2)⟩) Z fun _ _ h F=>X0 2 Z (qi Z F ?_ ?_)))<;>intro F
 ·exact X0 4 Z (rb h F Z)
 exact X0 5 Z (rb h F Z)
def qg0 (n:Nat)(a:qm)(b:qm):Option Bool:=
 bif (a.Az.toList != b.Az.toList) then V false else
 bif (a.Bo != b.Bo) then V false else
 (qa8 n a.Ai b.Ai).bind fun c=>
 bif (!c) then V false else
 V true
theorem qpy {a:qm}{b:qm}(c:Ro w a cs1)(d:Ro w b cs2){r:Bool}(F:qg0 n a b=V r):RetV prog 183 [GoT.v qm cs1,GoT.v qm cs2] w r:=by
 obtain⟨_,_,rfl,f⟩:=qW c;obtain⟨_,_,rfl,s2⟩:=qW d;refine zV 21 func183 Z fun h=>zSR (qw h Z Z fun _ _ h=>qw h Z Z fun _ _ h=>X2 11 1 0 h Z (qi Z F ?_ ?_))<;>intro F
 ·exact X0 4 Z (rb h F Z)
 refine X2 10 1 0 h Z (qi Z F ?_ ?_)<;>intro F
 ·exact X0 4 Z (rb h F Z)
 refine X2 8 1 0 h Z (zcB h F (qaW ⟨_,_,rfl,(h.oldS f)⟩ ⟨_,_,rfl,(h.oldS s2)⟩) Z fun _ _ h F=>X0 2 Z (qi Z F ?_ ?_))<;>intro F
 ·exact X0 4 Z (rb h F Z)
 exact X0 5 Z (rb h F Z)
def qeq (a:(List qm))(b:(List qm)):Nat→Int→Option (Flow Bool Int)
 | 0,_=>U
 | n+1,c=>
  bif decide (c<(a.length:Int)) then
   (idx a c).bind fun f=>
   (idx b c).bind fun g=>
   (qg0 n f g).bind fun d=>
   bif (!d) then V (.ret false) else
   qeq a b n (W64 (c+1))
  else
   V (.nxt c)
def qie (n:Nat)(a:(List qm))(b:(List qm)):Option Bool:=
 bif ((a.length:Int) != (b.length:Int)) then V false else
 (qeq a b n 0).bind fun o=>match o with
 | .ret r=>V r
 | .nxt _=>
  V true
theorem qo7 {a:(List qm)}{b:(List qm)}(d:Ro w a cs1)(f:Ro w b cs2){r:Bool}(F:qie n a b=V r):RetV prog 108 [GoT.v (List qm) cs1,GoT.v (List qm) cs2] w r:=by
 obtain⟨D,A,rfl,J⟩:=d;obtain⟨H,B,rfl,s2⟩:=f;refine zV 27 func108 Z fun h=>X0 13 Z (qi Z F ?_ ?_)<;>intro F
 ·exact X0 4 Z (rb h F Z)
 refine X0 6 Z ?_;obtain⟨C,F,c⟩:=qd F;refine qn (rL (fun m e w'=>∃(y:Int),qeq a b m y=V C∧e=[(0,.slice D a.length A),(1,.slice H b.length B),(5,.int .i64 y)]∧SH w w' []) n ⟨_,F,rfl,h⟩ Z ?_);rintro z _ _ ⟨y,F,rfl,h⟩;rcases z with _|z
 ·cases F
 refine X0 8 Z (qi Z F ?_ ?_)<;>intro F
 ·refine X0 4 Z (rD (zd2 Z ?_));obtain⟨M,_,F,k,_,_,_,_,o,s,u,g⟩:=J.ix F;obtain⟨_,_,rfl,K⟩:=qW u;refine zdxe o s k Z (zdc 0 (g.below h.below) Z (zd2 Z ?_));obtain⟨N,_,F,l,_,_,_,_,p,t,v,i⟩:=s2.ix F;obtain⟨_,_,rfl,L⟩:=qW v;refine zdxe p t l Z (zdc 0 (i.below h.below) Z ?_);obtain⟨I,x,F⟩:=qd F;refine qbn I (vsB _) (cB 183 Z) (fun _ hb=>qpy (qhl M ((h.ext hb).oldS K)) (qhl N ((h.ext hb).oldS L)) x) Z Z Z Z (zd1 Z (dN h fun _ h=>qi Z F ?_ ?_))<;>intro F
  ·refine X0 4 Z ?_;obtain rfl:=qb F;replace F:=c;exact rb h F Z
  exact X0 7 Z (rK ⟨_,F,rfl,h⟩ Z)
 refine qr Z ?_;obtain rfl:=qb F;replace F:=c;exact X0 4 Z (rb h F Z)
def qfG (a:(List ByteArray))(b:(List ByteArray)):Nat→Int→Option (Flow Bool Int)
 | 0,_=>U
 | n+1,c=>
  bif decide (c<(a.length:Int)) then
   (idx a c).bind fun d=>
   (idx b c).bind fun f=>
   bif (d.toList != f.toList) then V (.ret false) else
   qfG a b n (W64 (c+1))
  else
   V (.nxt c)
def qji (n:Nat)(a:(List ByteArray))(b:(List ByteArray)):Option Bool:=
 bif ((a.length:Int) != (b.length:Int)) then V false else
 (qfG a b n 0).bind fun o=>match o with
 | .ret r=>V r
 | .nxt _=>
  V true
theorem qpI {a:(List ByteArray)}{b:(List ByteArray)}(d:Ro w a cs1)(f:Ro w b cs2){r:Bool}(F:qji n a b=V r):RetV prog 109 [GoT.v (List ByteArray) cs1,GoT.v (List ByteArray) cs2] w r:=by
 obtain⟨A,x,rfl,C⟩:=d;obtain⟨B,y,rfl,s2⟩:=f;refine zV 26 func109 Z fun h=>X0 13 Z (qi Z F ?_ ?_)<;>intro F
 ·exact X0 4 Z (rb h F Z)
 refine X0 6 Z ?_;obtain⟨z,F,c⟩:=qd F;refine qn (rL (fun m e w'=>∃(u:Int),qfG a b m u=V z∧e=[(0,.slice A a.length x),(1,.slice B b.length y),(5,.int .i64 u)]∧SH w w' []) n ⟨_,F,rfl,h⟩ Z ?_);rintro v _ _ ⟨u,F,rfl,h⟩;rcases v with _|v
 ·cases F
 refine X0 8 Z (qi Z F ?_ ?_)<;>intro F
 ·refine X0 4 Z (rD (zd2 Z ?_));obtain⟨_,_,F,k,_,_,_,_,o,s,rfl,g⟩:=C.ix F;refine zdxe o s k Z (zdc 0 (g.below h.below) Z (zd2 Z ?_));obtain⟨_,_,F,l,_,_,_,_,p,t,rfl,i⟩:=s2.ix F;refine zdxe p t l Z (zdc 0 (i.below h.below) Z (zd1 Z (dN h fun _ h=>qi Z F ?_ ?_)))<;>intro F
  ·refine X0 4 Z ?_;obtain rfl:=qb F;replace F:=c;exact rb h F Z
  exact X0 7 Z (rK ⟨_,F,rfl,h⟩ Z)
 refine qr Z ?_;obtain rfl:=qb F;replace F:=c;exact X0 4 Z (rb h F Z)
def qkB (_:Nat)(a:qY)(b:qY):Option Bool:=
 bif (a.Az.toList != b.Az.toList) then V false else
 bif (a.Bs != b.Bs) then V false else
 bif (a.Bu != b.Bu) then V false else
 V true
theorem qsK {a:qY}{b:qY}(c:Ro w a cs1)(d:Ro w b cs2){r:Bool}(F:qkB n a b=V r):RetV prog 184 [GoT.v qY cs1,GoT.v qY cs2] w r:=by
 obtain rfl:=qa0 c;obtain rfl:=qa0 d;refine zV 20 func184 Z fun h=>zSR (qw h Z Z fun _ _ h=>qw h Z Z fun _ _ h=>X2 11 1 0 h Z (qi Z F ?_ ?_))<;>intro F
 ·exact X0 4 Z (rb h F Z)
 refine X2 10 1 0 h Z (qi Z F ?_ ?_)<;>intro F
 ·exact X0 4 Z (rb h F Z)
 refine X2 10 1 0 h Z (qi Z F ?_ ?_)<;>intro F
 ·exact X0 4 Z (rb h F Z)
 exact X0 5 Z (rb h F Z)
def qgZ (a:(List qY))(b:(List qY)):Nat→Int→Option (Flow Bool Int)
 | 0,_=>U
 | n+1,c=>
  bif decide (c<(a.length:Int)) then
   (idx a c).bind fun f=>
   (idx b c).bind fun g=>
   (qkB n f g).bind fun d=>
   bif (!d) then V (.ret false) else
   qgZ a b n (W64 (c+1))
  else
   V (.nxt c)
def qlf (n:Nat)(a:(List qY))(b:(List qY)):Option Bool:=
 bif ((a.length:Int) != (b.length:Int)) then V false else
 (qgZ a b n 0).bind fun o=>match o with
 | .ret r=>V r
 | .nxt _=>
  V true
theorem qrP {a:(List qY)}{b:(List qY)}(d:Ro w a cs1)(f:Ro w b cs2){r:Bool}(F:qlf n a b=V r):RetV prog 110 [GoT.v (List qY) cs1,GoT.v (List qY) cs2] w r:=by
 obtain⟨D,A,rfl,J⟩:=d;obtain⟨H,B,rfl,s2⟩:=f;refine zV 27 func110 Z fun h=>X0 13 Z (qi Z F ?_ ?_)<;>intro F
 ·exact X0 4 Z (rb h F Z)
 refine X0 6 Z ?_;obtain⟨C,F,c⟩:=qd F;refine qn (rL (fun m e w'=>∃(y:Int),qgZ a b m y=V C∧e=[(0,.slice D a.length A),(1,.slice H b.length B),(5,.int .i64 y)]∧SH w w' []) n ⟨_,F,rfl,h⟩ Z ?_);rintro z _ _ ⟨y,F,rfl,h⟩;rcases z with _|z
 ·cases F
 refine X0 8 Z (qi Z F ?_ ?_)<;>intro F
 ·refine X0 4 Z (rD (zd2 Z ?_));obtain⟨K,_,F,k,_,_,_,_,o,s,u,g⟩:=J.ix F;obtain rfl:=qa0 u;refine zdxe o s k Z (zdc 0 (g.below h.below) Z (zd2 Z ?_));obtain⟨L,_,F,l,_,_,_,_,p,t,v,i⟩:=s2.ix F;obtain rfl:=qa0 v;refine zdxe p t l Z (zdc 0 (i.below h.below) Z ?_);obtain⟨I,x,F⟩:=qd F;refine qbn I (vsB _) (cB 184 Z) (fun _ hb=>qsK (qeW K) (qeW L) x) Z Z Z Z (zd1 Z (dN h fun _ h=>qi Z F ?_ ?_))<;>intro F
  ·refine X0 4 Z ?_;obtain rfl:=qb F;replace F:=c;exact rb h F Z
  exact X0 7 Z (rK ⟨_,F,rfl,h⟩ Z)
 refine qr Z ?_;obtain rfl:=qb F;replace F:=c;exact X0 4 Z (rb h F Z)
def qkd (n:Nat)(a:qg)(b:qg):Option Bool:=
 (qie n a.Ab b.Ab).bind fun c=>
 bif (!c) then V false else
 (qji n a.Ai b.Ai).bind fun d=>
 bif (!d) then V false else
 (qlf n a.Ah b.Ah).bind fun f=>
 bif (!f) then V false else
 V true
theorem qqC {a:qg}{b:qg}(c:Ro w a cs1)(d:Ro w b cs2){r:Bool}(F:qkd n a b=V r):RetV prog 53 [GoT.v qg cs1,GoT.v qg cs2] w r:=by
 obtain⟨_,_,_,_,_,_,rfl,f,s2,g⟩:=qaI c;obtain⟨_,_,_,_,_,_,rfl,i,k,l⟩:=qaI d;refine zV 23 func53 Z fun h=>zSR (qw h Z Z fun _ _ h=>qw h Z Z fun _ _ h=>X2 9 1 0 h Z (zcB h F (qo7 ⟨_,_,rfl,(h.oldS f)⟩ ⟨_,_,rfl,(h.oldS i)⟩) Z fun _ _ h F=>X0 2 Z (qi Z F ?_ ?_)))<;>intro F
 ·exact X0 4 Z (rb h F Z)
 refine X2 8 1 0 h Z (zcB h F (qpI ⟨_,_,rfl,(h.oldS s2)⟩ ⟨_,_,rfl,(h.oldS k)⟩) Z fun _ _ h F=>X0 2 Z (qi Z F ?_ ?_))<;>intro F
 ·exact X0 4 Z (rb h F Z)
 refine X2 8 1 0 h Z (zcB h F (qrP ⟨_,_,rfl,(h.oldS g)⟩ ⟨_,_,rfl,(h.oldS l)⟩) Z fun _ _ h F=>X0 2 Z (qi Z F ?_ ?_))<;>intro F
 ·exact X0 4 Z (rb h F Z)
 exact X0 5 Z (rb h F Z)
def qkP (n:Nat)(a:qH)(b:qH):Option Bool:=
 (qa8 n a.Ak b.Ak).bind fun c=>
 bif (!c) then V false else
 (qa8 n a.Bt b.Bt).bind fun d=>
 bif (!d) then V false else
 (qa8 n a.Bq b.Bq).bind fun f=>
 bif (!f) then V false else
 (qa8 n a.Bg b.Bg).bind fun g=>
 bif (!g) then V false else
 V true
theorem qsi {a:qH}{b:qH}(c:Ro w a cs1)(d:Ro w b cs2){r:Bool}(F:qkP n a b=V r):RetV prog 111 [GoT.v qH cs1,GoT.v qH cs2] w r:=by
 obtain⟨_,_,_,_,_,_,_,_,rfl,f,s2,g,i⟩:=qaS c;obtain⟨_,_,_,_,_,_,_,_,rfl,k,l,m,o⟩:=qaS d;refine zV 29 func111 Z fun h=>zSR (qw h Z Z fun _ _ h=>qw h Z Z fun _ _ h=>X2 9 1 0 h Z (zcB h F (qaW ⟨_,_,rfl,(h.oldS f)⟩ ⟨_,_,rfl,(h.oldS k)⟩) Z fun _ _ h F=>X0 2 Z (qi Z F ?_ ?_)))<;>intro F
 ·exact X0 4 Z (rb h F Z)
 refine X2 8 1 0 h Z (zcB h F (qaW ⟨_,_,rfl,(h.oldS s2)⟩ ⟨_,_,rfl,(h.oldS l)⟩) Z fun _ _ h F=>X0 2 Z (qi Z F ?_ ?_))<;>intro F
 ·exact X0 4 Z (rb h F Z)
 refine X2 8 1 0 h Z (zcB h F (qaW ⟨_,_,rfl,(h.oldS g)⟩ ⟨_,_,rfl,(h.oldS m)⟩) Z fun _ _ h F=>X0 2 Z (qi Z F ?_ ?_))<;>intro F
 ·exact X0 4 Z (rb h F Z)
 refine X2 8 1 0 h Z (zcB h F (qaW ⟨_,_,rfl,(h.oldS i)⟩ ⟨_,_,rfl,(h.oldS o)⟩) Z fun _ _ h F=>X0 2 Z (qi Z F ?_ ?_))<;>intro F
 ·exact X0 4 Z (rb h F Z)
 exact X0 5 Z (rb h F Z)
def qg1 (a:(List qH))(b:(List qH)):Nat→Int→Option (Flow Bool Int)
 | 0,_=>U
 | n+1,c=>
  bif decide (c<(a.length:Int)) then
   (idx a c).bind fun f=>
   (idx b c).bind fun g=>
   (qkP n f g).bind fun d=>
   bif (!d) then V (.ret false) else
   qg1 a b n (W64 (c+1))
  else
   V (.nxt c)
def qk5 (n:Nat)(a:(List qH))(b:(List qH)):Option Bool:=
 bif ((a.length:Int) != (b.length:Int)) then V false else
 (qg1 a b n 0).bind fun o=>match o with
 | .ret r=>V r
 | .nxt _=>
  V true
theorem qrW {a:(List qH)}{b:(List qH)}(d:Ro w a cs1)(f:Ro w b cs2){r:Bool}(F:qk5 n a b=V r):RetV prog 54 [GoT.v (List qH) cs1,GoT.v (List qH) cs2] w r:=by
 obtain⟨H,B,rfl,K⟩:=d;obtain⟨I,C,rfl,s2⟩:=f;refine zV 27 func54 Z fun h=>X0 13 Z (qi Z F ?_ ?_)<;>intro F
 ·exact X0 4 Z (rb h F Z)
 refine X0 6 Z ?_;obtain⟨D,F,c⟩:=qd F;refine qn (rL (fun m e w'=>∃(y:Int),qg1 a b m y=V D∧e=[(0,.slice H a.length B),(1,.slice I b.length C),(5,.int .i64 y)]∧SH w w' []) n ⟨_,F,rfl,h⟩ Z ?_);rintro A _ _ ⟨y,F,rfl,h⟩;rcases A with _|A
 ·cases F
 refine X0 8 Z (qi Z F ?_ ?_)<;>intro F
 ·refine X0 4 Z (rD (zd2 Z ?_));obtain⟨S,_,F,k,_,_,_,_,o,s,u,g⟩:=K.ix F;obtain⟨_,_,_,_,_,_,_,_,rfl,L,M,N,O⟩:=qaS u;refine zdxe o s k Z (zdc 0 (g.below h.below) Z (zd2 Z ?_));obtain⟨T,_,F,l,_,_,_,_,p,t,v,i⟩:=s2.ix F;obtain⟨_,_,_,_,_,_,_,_,rfl,P,Q,R,z⟩:=qaS v;refine zdxe p t l Z (zdc 0 (i.below h.below) Z ?_);obtain⟨J,x,F⟩:=qd F;refine qbn J (vsB _) (cB 111 Z) (fun _ hb=>qsi (qlp S ((h.ext hb).oldS L) ((h.ext hb).oldS M) ((h.ext hb).oldS N) ((h.ext hb).oldS O)) (qlp T ((h.ext hb).oldS P) ((h.ext hb).oldS Q) ((h.ext hb).oldS R) ((h.ext hb).oldS z)) x) Z Z Z Z (zd1 Z (dN h fun _ h=>qi Z F ?_ ?_))<;>intro F
  ·refine X0 4 Z ?_;obtain rfl:=qb F;replace F:=c;exact rb h F Z
  exact X0 7 Z (rK ⟨_,F,rfl,h⟩ Z)
 refine qr Z ?_;obtain rfl:=qb F;replace F:=c;exact X0 4 Z (rb h F Z)
def qld (n:Nat)(a:qe)(b:qe):Option Bool:=
 (qjB n (⟨a.Ar.Ap⟩:qt) (⟨b.Ar.Ap⟩:qt)).bind fun c=>
 bif (!c) then V false else
 (qkd n (⟨a.Aa.Ab,a.Aa.Ai,a.Aa.Ah⟩:qg) (⟨b.Aa.Ab,b.Aa.Ai,b.Aa.Ah⟩:qg)).bind fun d=>
 bif (!d) then V false else
 (qk5 n a.Af b.Af).bind fun f=>
 bif (!f) then V false else
 V true
theorem qrD {a:qe}{b:qe}(c:Ro w a cs1)(d:Ro w b cs2){r:Bool}(F:qld n a b=V r):RetV prog 18 [GoT.v qe cs1,GoT.v qe cs2] w r:=by
 obtain⟨_,_,_,_,_,_,_,_,_,_,rfl,g,s2,i,k,l⟩:=qE c;obtain⟨_,_,_,_,_,_,_,_,_,_,rfl,m,o,p,s,f⟩:=qE d;refine zV 23 func18 Z fun h=>zSR (qw h Z Z fun _ _ h=>qw h Z Z fun _ _ h=>X2 9 1 0 h Z (zcB h F (qp6 (qez _ (h.oldS g)) (qez _ (h.oldS m))) Z fun _ _ h F=>X0 2 Z (qi Z F ?_ ?_)))<;>intro F
 ·exact X0 4 Z (rb h F Z)
 refine X2 8 1 0 h Z (zcB h F (qqC (qav _ (h.oldS s2) (h.oldS i) (h.oldS k)) (qav _ (h.oldS o) (h.oldS p) (h.oldS s))) Z fun _ _ h F=>X0 2 Z (qi Z F ?_ ?_))<;>intro F
 ·exact X0 4 Z (rb h F Z)
 refine X2 8 1 0 h Z (zcB h F (qrW ⟨_,_,rfl,(h.oldS l)⟩ ⟨_,_,rfl,(h.oldS f)⟩) Z fun _ _ h F=>X0 2 Z (qi Z F ?_ ?_))<;>intro F
 ·exact X0 4 Z (rb h F Z)
 exact X0 5 Z (rb h F Z)
def qaB (_:Nat)(a_n:Int)(low:Int)(high:Int):Option Bool:=
 bif decide (a_n ≥ low) then V (decide (a_n≤high)) else
 V false
theorem qah {a_n:Int}{low:Int}{high:Int}  {r:Bool}(F:qaB n a_n low high=V r):RetV prog 130 [.int .i64 a_n,.int .i64 low,.int .i64 high] w r:=by
 refine zV 15 func130 Z fun h=>X0 10 Z (qj (t:=10) F Z ?_ ?_)<;>intro F
 ·exact X0 9 Z (rb h F Z)
 exact X0 6 Z (rb h F Z)
def qeg (s:ByteArray):Nat→Int→Option (Flow Bool Int)
 | 0,_=>U
 | n+1,a=>
  bif decide (a<(s.size:Int)) then
   (
    (atS s a).bind fun d=>
    bif decide (d ≥ 97) then
     (atS s a).bind fun f=>
     V (decide (f≤122))
    else
     V false).bind fun b1=>
   (
    (atS s a).bind fun b=>
    bif decide (b ≥ 48) then
     (atS s a).bind fun c=>
     V (decide (c≤57))
    else
     V false).bind fun b2=>
   bif (!b1) then
    bif b2 then
     bif (!(decide (a > 0))) then V (.ret false) else
     qeg s n (W64 (a+1))
    else
     V (.ret false)
   else
    qeg s n (W64 (a+1))
  else
   V (.nxt a)
def qgD (n:Nat)(s:ByteArray):Option Bool:=
 (qeg s n 0).bind fun o=>match o with
 | .ret r=>V r
 | .nxt _=>
  bif decide ((s.size:Int) ≥ 1) then V (decide ((s.size:Int)≤8)) else
  V false
theorem qiP {s:ByteArray}  {r:Bool}(F:qgD n s=V r):RetV prog 131 [.string s] w r:=by
 refine zV 50 func131 Z fun h=>X0 9 Z ?_;obtain⟨v,F,a⟩:=qd F;refine qn (rL (fun m e w'=>∃(g:Int),qeg s m g=V v∧e=[(0,.string s),(3,.int .i64 g)]∧SH w w' []) n ⟨_,F,rfl,h⟩ Z ?_);rintro x _ _ ⟨g,F,rfl,h⟩;rcases x with _|x
 ·cases F
 refine X0 8 Z (qi Z F ?_ ?_)<;>intro F
 ·refine X0 4 Z ?_;obtain⟨k,f,_,F,c⟩:=bindE F;refine qaT (fun e w'=>∃(b1:Bool),k b1=V v∧e=[(0,.string s),(3,.int .i64 g),(4,.bool b1)]∧SH w w' []) ?_ ?_
  ·refine X0 3 Z ?_;obtain⟨_,p,F⟩:=qd F;have A:=qou p;refine r_v (qoO qa A Z Z Z Z) Z (zp2 Z (qj (t:=16) F Z ?_ ?_))<;>intro F
   ·refine X0 5 Z ?_;obtain⟨_,u,F⟩:=qd F;have B:=qou u;refine r_v (qoO qa B Z Z Z Z) Z (X0 5 Z ?_);obtain rfl:=qb F;exact rG ⟨_,c,rfl,h⟩ Z
   refine X0 7 Z ?_;obtain rfl:=qb F;exact rG ⟨_,c,rfl,h⟩ Z
  rintro _ _ ⟨b1,F,rfl,h⟩;subst f;refine qcx ?_;obtain⟨i,d,_,F,b⟩:=bindE F;refine qaT (fun e w'=>∃(b2:Bool),i b2=V v∧e=[(0,.string s),(3,.int .i64 g),(4,.bool b1),(5,.bool b2)]∧SH w w' []) ?_ ?_
  ·refine X0 3 Z ?_;obtain⟨_,l,F⟩:=qd F;have y:=qou l;refine r_v (qoO qa y Z Z Z Z) Z (zp2 Z (qj (t:=26) F Z ?_ ?_))<;>intro F
   ·refine X0 5 Z ?_;obtain⟨_,o,F⟩:=qd F;have z:=qou o;refine r_v (qoO qa z Z Z Z Z) Z (X0 5 Z ?_);obtain rfl:=qb F;exact rG ⟨_,b,rfl,h⟩ Z
   refine X0 7 Z ?_;obtain rfl:=qb F;exact rG ⟨_,b,rfl,h⟩ Z
  rintro _ _ ⟨b2,F,rfl,h⟩;subst d;refine X0 5 Z (qj (t:=34) F Z ?_ ?_)<;>intro F
  ·refine X0 4 Z (qj (t:=36) F Z ?_ ?_)<;>intro F
   ·refine X0 10 Z (qi Z F ?_ ?_)<;>intro F
    ·refine X0 4 Z ?_;obtain rfl:=qb F;replace F:=a;exact rb h F Z
    exact X0 7 Z (rK ⟨_,F,rfl,h⟩ Z)
   refine X0 8 Z (qb9 Z Z (X0 4 Z ?_));obtain rfl:=qb F;replace F:=a;exact rb h F Z
  exact X0 8 Z (qbL Z Z (X0 7 Z (rK ⟨_,F,rfl,h⟩ Z)))
 refine qr Z ?_;obtain rfl:=qb F;replace F:=a;refine X0 6 Z (qj (t:=45) F Z ?_ ?_)<;>intro F
 ·exact X0 9 Z (rb h F Z)
 exact X0 6 Z (rb h F Z)
def qfy (a:qA)(c:Int)(d:qat):Nat→Int→Option (Flow (Int×Bool) Int)
 | 0,_=>U
 | n+1,b=>
  bif decide (b<c) then
   (idx a.Av b).bind fun f=>
   bif (f.Az.toList==d.Az.toList) then V (.ret (0,false)) else
   qfy a c d n (W64 (b+1))
  else
   V (.nxt b)
def qdm (a:qA):Nat→Int→Int→Option (Flow (Int×Bool) (Int×Int))
 | 0,_,_=>U
 | n+1,d,b=>
  bif decide (b<(a.Av.length:Int)) then
   (idx a.Av b).bind fun c=>
   (qfy a b c n 0).bind fun o=>match o with
   | .ret r=>V (.ret r)
   | .nxt _=>
    (
     (qgD n c.Az).bind fun h=>
     bif (!h) then V true else
     (qaB n c.Bq 0 500).bind fun i=>
     V (!i)).bind fun f=>
    bif f then V (.ret (0,false)) else
    (
     bif (b==(W64 ((a.Av.length:Int)-1))) then
      bif (c.Bs != 2) then V true else
      bif (c.Bq != 0) then V true else
      bif c.Bn then V true else
      bif decide (b<(W64 ((a.Av.length:Int)-1))) then V (c.Bs != 1) else
      V false
     else
      bif decide (b<(W64 ((a.Av.length:Int)-1))) then V (c.Bs != 1) else
      V false).bind fun g=>
    bif g then V (.ret (0,false)) else
    bif c.Bn then qdm a n (W64 (d+1)) (W64 (b+1)) else
    qdm a n d (W64 (b+1))
  else
   V (.nxt (d,b))
def qk9 (n:Nat)(a:qA):Option (Int×Bool):=
 (
  bif decide ((a.Av.length:Int)<2) then V true else
  V (decide ((a.Av.length:Int) > 5))).bind fun b1=>
 bif b1 then V (0,false) else
 (qdm a n 0 0).bind fun o=>match o with
 | .ret r=>V r
 | .nxt (b,_)=>
  V (b,true)
theorem qrz {a:qA}(L:Ro w a cs1){r:(Int×Bool)}(F:qk9 n a=V r):RetV prog 285 [GoT.v qA cs1] w r:=by
 obtain⟨z,v,A,x,B,y,rfl,s1,_,_⟩:=qal L;refine zV 86 func285 Z fun h=>zSR (qw h Z Z fun _ b h=>X1 12 0 h Z ?_);obtain⟨I,u,_,F,o⟩:=bindE F;refine qaT (fun e w'=>∃(b1:Bool),I b1=V r∧e=[(1,.pointer (V ⟨b,0,U⟩)),(4,.int .i64 (a.Av.length:Int)),(17,.bool b1)]∧SH w w' [Ch.box b (qeB a z A B v x y) 135]) ?_ ?_
 ·refine X0 4 Z (qj (t:=14) F Z ?_ ?_)<;>intro F
  ·refine X0 4 Z ?_;obtain rfl:=qb F;exact rG ⟨_,o,rfl,h⟩ Z
  refine X0 6 Z ?_;obtain rfl:=qb F;exact rG ⟨_,o,rfl,h⟩ Z
 rintro _ _ ⟨b1,F,rfl,h⟩;subst u;refine qi Z F ?_ ?_<;>intro F
 ·refine X0 5 Z ?_;obtain rfl:=qb F;exact qX qa (ρ:=(Int×Bool)) [GoT.v Int [.int .i64 0],GoT.v Bool [.bool false]] h ⟨rfl,rfl,trivial⟩ (PV.done h (qP h (qy (S:=fun _=>False) Z) (qad (qy (S:=fun _=>False) Z)) (by rfl)))
 refine X0 10 Z ?_;obtain⟨o1,F,f⟩:=qd F;refine qn (rL (fun m e w'=>∃(g:Int) (i:Int),qdm a m g i=V o1∧e=[(1,.pointer (V ⟨b,0,U⟩)),(4,.int .i64 (a.Av.length:Int)),(5,.int .i64 g),(6,.int .i64 i)]∧SH w w' [Ch.box b (qeB a z A B v x y) 135]) n ⟨_,_,F,rfl,h⟩ Z ?_);rintro m1 _ _ ⟨g,i,F,rfl,h⟩;rcases m1 with _|m1
 ·cases F
 refine X0 7 Z (qi Z F ?_ ?_)<;>intro F
 ·refine X1 8 0 h Z ?_;obtain⟨C,_,F,O,_,_,_,_,Q,T,X,M⟩:=s1.ix F;obtain rfl:=qa5 X;refine zxe Q T O Z (zc 0 (M.below h.below) Z (qp qa h Z Z Z fun _ d h=>zs 0 h Z fun _ h=>X0 6 Z ?_));obtain⟨o2,F,k⟩:=qd F;refine qn (rL (fun m e w'=>∃(i3:Int),qfy a i C m i3=V o2∧e=[(1,.pointer (V ⟨b,0,U⟩)),(4,.int .i64 (a.Av.length:Int)),(5,.int .i64 g),(6,.int .i64 i),(7,.pointer (V ⟨d,0,U⟩)),(8,.int .i64 i3)]∧SH w w' [Ch.box d (qqB C) 321,Ch.box b (qeB a z A B v x y) 135]) m1 ⟨_,F,rfl,h⟩ Z ?_);rintro m2 _ _ ⟨i3,F,rfl,h⟩;rcases m2 with _|m2
  ·cases F
  refine X0 7 Z (qi Z F ?_ ?_)<;>intro F
  ·refine X0 4 Z (rD (Y1 2 1 h Z ?_));refine zd1 Z ?_;obtain⟨_,_,F,P,_,_,_,_,R,W,Y,N⟩:=s1.ix F;obtain rfl:=qa5 Y;refine zdxe R W P Z (zd1 Z (zdc 0 (N.below h.below) Z (Y1 2 0 h Z ?_)));refine zd1 Z (dN h fun _ h=>qi Z F ?_ ?_)<;>intro F
   ·refine X0 5 Z ?_;obtain rfl:=qb F;replace F:=k;obtain rfl:=qb F;replace F:=f;obtain rfl:=qb F;exact qX qa (ρ:=(Int×Bool)) [GoT.v Int [.int .i64 0],GoT.v Bool [.bool false]] h ⟨rfl,rfl,trivial⟩ (PV.done h (qP h (qy (S:=fun _=>False) Z) (qad (qy (S:=fun _=>False) Z)) (by rfl)))
   exact X0 7 Z (rK ⟨_,F,rfl,h⟩ Z)
  refine qr Z ?_;obtain rfl:=qb F;replace F:=k;refine zSS ?_;obtain⟨H,s,_,F,l⟩:=bindE F;refine qaT (fun e w'=>∃(J:Bool),H J=V o1∧e=[(1,.pointer (V ⟨b,0,U⟩)),(4,.int .i64 (a.Av.length:Int)),(5,.int .i64 g),(6,.int .i64 i),(7,.pointer (V ⟨d,0,U⟩)),(51,.bool J)]∧SH w w' [Ch.box d (qqB C) 321,Ch.box b (qeB a z A B v x y) 135]) ?_ ?_
  ·refine X1 3 0 h Z (zcB h F qiP Z fun _ _ h F=>zp2 Z (qj (t:=46) F Z ?_ ?_))<;>intro F
   ·refine X0 6 Z ?_;obtain rfl:=qb F;exact rG ⟨_,l,rfl,h⟩ Z
   refine X1 5 0 h Z (zcB h F qah Z fun _ _ h F=>X0 4 Z ?_);obtain rfl:=qb F;exact rG ⟨_,l,rfl,h⟩ Z
  rintro _ _ ⟨J,F,rfl,h⟩;subst s;refine qi Z F ?_ ?_<;>intro F
  ·refine X0 5 Z ?_;obtain rfl:=qb F;replace F:=f;obtain rfl:=qb F;exact qX qa (ρ:=(Int×Bool)) [GoT.v Int [.int .i64 0],GoT.v Bool [.bool false]] h ⟨rfl,rfl,trivial⟩ (PV.done h (qP h (qy (S:=fun _=>False) Z) (qad (qy (S:=fun _=>False) Z)) (by rfl)))
  refine zKSS ?_;obtain⟨D,p,_,F,c⟩:=bindE F;refine qaT (fun e w'=>∃(K:Bool),D K=V o1∧e=[(1,.pointer (V ⟨b,0,U⟩)),(4,.int .i64 (a.Av.length:Int)),(5,.int .i64 g),(6,.int .i64 i),(7,.pointer (V ⟨d,0,U⟩)),(80,.bool K)]∧SH w w' [Ch.box d (qqB C) 321,Ch.box b (qeB a z A B v x y) 135]) ?_ ?_
  ·refine X0 6 Z (qj (t:=56) F Z ?_ ?_)<;>intro F
   ·refine X1 8 0 h Z (qj (t:=60) F Z ?_ ?_)<;>intro F
    ·refine X0 24 Z ?_;obtain rfl:=qb F;exact rG ⟨_,c,rfl,h⟩ Z
    refine X1 10 0 h Z (qj (t:=65) F Z ?_ ?_)<;>intro F
    ·refine X0 17 Z ?_;obtain rfl:=qb F;exact rG ⟨_,c,rfl,h⟩ Z
    refine X1 8 0 h Z (qj (t:=70) F Z ?_ ?_)<;>intro F
    ·refine X0 11 Z ?_;obtain rfl:=qb F;exact rG ⟨_,c,rfl,h⟩ Z
    refine X0 10 Z (qj (t:=75) F Z ?_ ?_)<;>intro F
    ·refine X1 10 0 h Z ?_;obtain rfl:=qb F;exact rG ⟨_,c,rfl,h⟩ Z
    refine X0 7 Z ?_;obtain rfl:=qb F;exact rG ⟨_,c,rfl,h⟩ Z
   refine X0 24 Z (qj (t:=75) F Z ?_ ?_)<;>intro F
   ·refine X1 10 0 h Z ?_;obtain rfl:=qb F;exact rG ⟨_,c,rfl,h⟩ Z
   refine X0 7 Z ?_;obtain rfl:=qb F;exact rG ⟨_,c,rfl,h⟩ Z
  rintro _ _ ⟨K,F,rfl,h⟩;subst p;refine qi Z F ?_ ?_<;>intro F
  ·refine X0 5 Z ?_;obtain rfl:=qb F;replace F:=f;obtain rfl:=qb F;exact qX qa (ρ:=(Int×Bool)) [GoT.v Int [.int .i64 0],GoT.v Bool [.bool false]] h ⟨rfl,rfl,trivial⟩ (PV.done h (qP h (qy (S:=fun _=>False) Z) (qad (qy (S:=fun _=>False) Z)) (by rfl)))
  refine X1 6 0 h Z (qi Z F ?_ ?_)<;>intro F
  ·refine X0 11 Z ?_;replace h:=h.pick [1] Z;exact rK ⟨_,_,F,rfl,h⟩ Z
  refine X0 7 Z ?_;replace h:=h.pick [1] Z;exact rK ⟨_,_,F,rfl,h⟩ Z
 refine qr Z ?_;obtain rfl:=qb F;replace F:=f;refine X0 6 Z ?_;obtain rfl:=qb F;exact qX qa (ρ:=(Int×Bool)) [GoT.v Int [.int .i64 g],GoT.v Bool [.bool true]] h ⟨rfl,rfl,trivial⟩ (PV.done h (qP h (qy (S:=fun _=>False) Z) (qad (qy (S:=fun _=>False) Z)) (by rfl)))
def qen (list:(List Int)):Nat→Int→Option (Flow Bool Int)
 | 0,_=>U
 | n+1,a=>
  bif decide (a<(list.length:Int)) then
   (idx list a).bind fun c=>
   (qaB n c 0 100000).bind fun b=>
   bif (!b) then V (.ret false) else
   bif decide (a > 0) then
    (idx list (W64 (a-1))).bind fun d=>
    (idx list a).bind fun f=>
    bif decide (d ≥ f) then V (.ret false) else
    qen list n (W64 (a+1))
   else
    qen list n (W64 (a+1))
  else
   V (.nxt a)
def qjN (n:Nat)(list:(List Int)):Option Bool:=
 (qen list n 0).bind fun o=>match o with
 | .ret r=>V r
 | .nxt _=>
  bif decide ((list.length:Int) ≥ 1) then V (decide ((list.length:Int)≤4)) else
  V false
theorem qnV {list:(List Int)}(b:Ro w list cs1){r:Bool}(F:qjN n list=V r):RetV prog 244 [GoT.v (List Int) cs1] w r:=by
 obtain⟨D,B,rfl,z⟩:=b;refine zV 40 func244 Z fun h=>X0 9 Z ?_;obtain⟨C,F,a⟩:=qd F;refine qn (rL (fun m e w'=>∃(y:Int),qen list m y=V C∧e=[(0,.slice D list.length B),(3,.int .i64 y)]∧SH w w' []) n ⟨_,F,rfl,h⟩ Z ?_);rintro A _ _ ⟨y,F,rfl,h⟩;rcases A with _|A
 ·cases F
 refine X0 8 Z (qi Z F ?_ ?_)<;>intro F
 ·refine X0 4 Z (rD (zd2 Z ?_));obtain⟨_,_,F,g,_,_,_,_,l,s,rfl,c⟩:=z.ix F;refine zdxe l s g Z (zdc 0 (c.below h.below) Z ?_);obtain⟨H,x,F⟩:=qd F;refine qbn H (vsB _) (cB 130 Z) (fun _ hb=>qah  x) Z Z Z Z (zd2 Z (qaY (t:=16) F Z ?_ ?_))<;>intro F
  ·refine Y0 15 Z (dN h fun _ h=>qb9 Z Z (X0 4 Z ?_));obtain rfl:=qb F;replace F:=a;exact rb h F Z
  refine Y0 6 Z (qaY (t:=19) F Z ?_ ?_)<;>intro F
  ·refine Y0 7 Z ?_;obtain⟨_,_,F,i,_,_,_,_,o,u,rfl,d⟩:=z.ix F;refine zdxe o u i Z (Y0 1 Z (zdc 0 (d.below h.below) Z (Y0 5 Z ?_)));obtain⟨_,_,F,k,_,_,_,_,p,v,rfl,f⟩:=z.ix F;refine zdxe p v k Z (Y0 1 Z (zdc 0 (f.below h.below) Z (Y0 5 Z (dN h fun _ h=>qi Z F ?_ ?_))))<;>intro F
   ·refine X0 4 Z ?_;obtain rfl:=qb F;replace F:=a;exact rb h F Z
   exact X0 7 Z (rK ⟨_,F,rfl,h⟩ Z)
  exact Y0 13 Z (dN h fun _ h=>qbL Z Z (X0 7 Z (rK ⟨_,F,rfl,h⟩ Z)))
 refine qr Z ?_;obtain rfl:=qb F;replace F:=a;refine X0 6 Z (qj (t:=35) F Z ?_ ?_)<;>intro F
 ·exact X0 9 Z (rb h F Z)
 exact X0 6 Z (rb h F Z)
def qfw (t:qx):Nat→Int→Option (Flow Bool Int)
 | 0,_=>U
 | n+1,a=>
  bif decide (a<(t.Ba.length:Int)) then
   (idx t.Ba a).bind fun c=>
   (qaB n c (-1000000) 1000000).bind fun b=>
   bif (!b) then V (.ret false) else
   qfw t n (W64 (a+1))
  else
   V (.nxt a)
def qll (n:Nat)(t:qx):Option Bool:=
 (
  (qjN n t.Bi).bind fun a=>
  bif (!a) then V true else
  (qjN n t.Bb).bind fun b=>
  bif (!b) then V true else
  V ((t.Ba.length:Int) != (W64 ((t.Bi.length:Int)*(t.Bb.length:Int))))).bind fun b1=>
 bif b1 then V false else
 (qfw t n 0).bind fun o=>match o with
 | .ret r=>V r
 | .nxt _=>
  V true
theorem qrC {t:qx}(g:Ro w t cs1){r:Bool}(F:qll n t=V r):RetV prog 191 [GoT.v qx cs1] w r:=by
 obtain⟨y,s,z,u,A,v,rfl,C,s2,D⟩:=qaK g;refine zV 41 func191 Z fun h=>zSR (qw h Z Z fun _ a h=>X0 4 Z ?_);obtain⟨f,d,_,F,b⟩:=bindE F;refine qaT (fun e w'=>∃(b1:Bool),f b1=V r∧e=[(1,.pointer (V ⟨a,0,U⟩)),(26,.bool b1)]∧SH w w' [Ch.box a (qhH t y z A s u v) 142]) ?_ ?_
 ·refine X1 3 0 h Z (zcB h F (qnV ⟨_,_,rfl,(h.oldS C)⟩) Z fun _ _ h F=>zp2 Z (qj (t:=8) F Z ?_ ?_))<;>intro F
  ·refine X0 19 Z ?_;obtain rfl:=qb F;exact rG ⟨_,b,rfl,h⟩ Z
  refine X1 5 0 h Z (zcB h F (qnV ⟨_,_,rfl,(h.oldS s2)⟩) Z fun _ _ h F=>X0 4 Z (qj (t:=14) F Z ?_ ?_))<;>intro F
  ·refine X0 13 Z ?_;obtain rfl:=qb F;exact rG ⟨_,b,rfl,h⟩ Z
  refine X3 24 0 0 0 h Z ?_;obtain rfl:=qb F;exact rG ⟨_,b,rfl,h⟩ Z
 rintro _ _ ⟨b1,F,rfl,h⟩;subst d;refine qi Z F ?_ ?_<;>intro F
 ·exact X0 4 Z (rb h F Z)
 refine X0 6 Z ?_;obtain⟨B,F,c⟩:=qd F;refine qn (rL (fun m e w'=>∃(p:Int),qfw t m p=V B∧e=[(1,.pointer (V ⟨a,0,U⟩)),(3,.int .i64 p)]∧SH w w' [Ch.box a (qhH t y z A s u v) 142]) n ⟨_,F,rfl,h⟩ Z ?_);rintro x _ _ ⟨p,F,rfl,h⟩;rcases x with _|x
 ·cases F
 refine X1 9 0 h Z (qi Z F ?_ ?_)<;>intro F
 ·refine X1 8 0 h Z ?_;obtain⟨_,_,F,k,_,_,_,_,l,o,rfl,i⟩:=D.ix F;refine zxe l o k Z (zc 0 (i.below h.below) Z (zcB h F qah Z fun _ _ h F=>X0 2 Z (qi Z F ?_ ?_)))<;>intro F
  ·refine X0 4 Z ?_;obtain rfl:=qb F;replace F:=c;exact rb h F Z
  exact X0 7 Z (rK ⟨_,F,rfl,h⟩ Z)
 refine qr Z ?_;obtain rfl:=qb F;replace F:=c;exact X0 4 Z (rb h F Z)
def qdc (t:qx):Nat→Int→Int→Int→Option (Int×Int×Int)
 | 0,_,_,_=>U
 | n+1,b,c,a=>
  bif decide (a<(t.Ba.length:Int)) then
   (idx t.Ba a).bind fun d=>
   (idx t.Ba a).bind fun f=>
   qdc t n (if d<b then d else b) (if f > c then f else c) (W64 (a+1))
  else
   V (b,c,a)
def qh8 (n:Nat)(t:qx):Option (qc×Int):=
 (qll n t).bind fun c=>
 bif (!c) then V ((⟨0,0⟩:qc),1) else
 (idx t.Ba 0).bind fun d=>
 (idx t.Ba 0).bind fun f=>
 (qdc t n d f 1).bind fun o=>match o with
 | (a,b,_)=>
  V ((⟨a,b⟩:qc),0)
theorem qpg {t:qx}(d:Ro w t cs1){r:(qc×Int)}(F:qh8 n t=V r):RetV prog 323 [GoT.v qx cs1] w r:=by
 obtain⟨Q,M,R,N,T,O,rfl,_,_,i⟩:=qaK d;refine zV 45 func323 Z fun h=>zSR (qw h Z Z fun _ a h=>qp qa h Z Z Z fun _ b h=>X1 6 1 h Z (zcB h F (qrC (h.old d)) Z fun _ _ h F=>X0 2 Z (qi Z F ?_ ?_)))<;>intro F
 ·refine zSR (r_v (qaf qa [] [] Z Z Z Z Z Z Z Z) Z (zs 0 h Z fun _ h=>X0 2 Z ?_));obtain rfl:=qb F;exact qX qa (ρ:=(qc×Int)) [GoT.v qc [.int .i64 0,.int .i64 0],GoT.v Int [.int .i64 1]] h ⟨⟨_,_,_,rfl,rfl,h.box 0 Z,rfl⟩,rfl,trivial⟩ (PV.done h (qP h (qy (S:=fun _=>False) (qB (⟨0,0⟩:qc))) (qad (qy (S:=fun _=>False) Z)) (by rfl)))
 refine zKS (rA [] [1] h Z fun _ h=>M1 3 [0,1] 0 (h.pick [1] Z) Z ?_);obtain⟨_,_,F,u,_,_,_,_,z,D,rfl,l⟩:=i.ix F;refine Ae 2 7 z D u (h.pick [1] Z) Z (Al 3 15 0 l (h.pick [1] Z) Z (M1 63 [4,5] 0 (h.pick [1] Z) Z ?_));obtain⟨_,_,F,v,_,_,_,_,A,H,rfl,o⟩:=i.ix F;refine Ae 6 127 A H v (h.pick [1] Z) Z (Al 7 255 0 o (h.pick [1] Z) Z (Aw 8 511 (fun w' hw=>qaf qa [0,1] [.tmp 13,.tmp 17] Z Z Z Z Z Z Z Z) (h.pick [1] Z) Z ?_));refine Ao 9 1023 Z (qp qa h Z Z Z fun _ c h=>Ag (h.pick [2] Z) (Ao 10 2047 Z (zs 0 h Z fun _ h=>Ag (h.pick [2] Z) (Ad (X0 5 Z ?_)))));obtain⟨P,F,k⟩:=qd F;refine qn (rL (fun m e w'=>∃(f:Int) (g:Int) (K:Int),qdc t m f g K=V P∧e=[(1,.pointer (V ⟨a,0,U⟩)),(2,.pointer (V ⟨b,0,U⟩)),(4,.pointer (V ⟨c,0,U⟩)),(5,.int .i64 K)]∧SH w w' [Ch.box c [.int .i64 f,.int .i64 g] 93,Ch.box b [.int .i64 0,.int .i64 0] 93,Ch.box a (qhH t Q R T M N O) 142]) n ⟨_,_,_,F,rfl,h⟩ Z ?_);rintro L _ _ ⟨f,g,K,F,rfl,h⟩;rcases L with _|L
 ·cases F
 refine X1 9 2 h Z (qi Z F ?_ ?_)<;>intro F
 ·refine X0 4 Z (rA [9] [0,2] h Z fun _ h=>M2 31 [0,1,2,3,4] 0 1 (h.pick [0,2] Z) Z ?_);obtain⟨_,_,F,x,_,_,_,_,B,I,rfl,p⟩:=i.ix F;refine Ae 5 63 B I x (h.pick [0,2] Z) Z (Al 6 127 0 p (h.pick [0,2] Z) Z (M0 511 [7,8] (h.pick [0,2] Z) Z (Ao 9 1023 Z (zs 0 h Z fun _ h=>qbz (fun hs=>absurd (hs 9 (by decide)) (by decide)) (Ad (rA [9] [0,2] h Z fun _ h=>M2 31 [0,1,2,3,4] 0 1 (h.pick [0,2] Z) Z ?_))))));obtain⟨_,_,F,y,_,_,_,_,C,J,rfl,s⟩:=i.ix F;exact Ae 5 63 C J y (h.pick [0,2] Z) Z (Al 6 127 0 s (h.pick [0,2] Z) Z (M0 511 [7,8] (h.pick [0,2] Z) Z (Ao 9 1023 Z (zs 0 h Z fun _ h=>qbz (fun hs=>absurd (hs 9 (by decide)) (by decide)) (Ad (X0 6 Z (rK ⟨_,_,_,F,rfl,h⟩ Z)))))))
 refine qr Z ?_;obtain rfl:=qb F;replace F:=k;refine X1 3 0 h Z (zs 1 h Z fun _ h=>X0 2 Z ?_);obtain rfl:=qb F;exact qX qa (ρ:=(qc×Int)) [GoT.v qc [.int .i64 f,.int .i64 g],GoT.v Int [.int .i64 0]] h ⟨⟨_,_,_,rfl,rfl,h.box 1 Z,rfl⟩,rfl,trivial⟩ (PV.done h (qP h (qy (S:=fun _=>False) (qB (⟨f,g⟩:qc))) (qad (qy (S:=fun _=>False) Z)) (by rfl)))
def qc6 (list:(List qx))(positive:Bool):Nat→Int→Option (Flow Bool Int)
 | 0,_=>U
 | n+1,a=>
  bif decide (a<2) then
   (idx list a).bind fun d=>
   (qh8 n d).bind fun o=>match o with
    | (b,c)=>
     bif (c != 0) then V (.ret false) else
     bif positive then
      bif decide (b.Am<0) then V (.ret false) else
      qc6 list positive n (W64 (a+1))
     else
      qc6 list positive n (W64 (a+1))
  else
   V (.nxt a)
def qdP (n:Nat)(list:(List qx))(positive:Bool):Option Bool:=
 bif ((list.length:Int) != 2) then V false else
 (qc6 list positive n 0).bind fun o=>match o with
 | .ret r=>V r
 | .nxt _=>
  V true
theorem qfC {list:(List qx)}{positive:Bool}(c:Ro w list cs1){r:Bool}(F:qdP n list positive=V r):RetV prog 306 [GoT.v (List qx) cs1,.bool positive] w r:=by
 obtain⟨z,x,rfl,D⟩:=c;refine zV 33 func306 Z fun h=>X0 11 Z (qi Z F ?_ ?_)<;>intro F
 ·exact X0 4 Z (rb h F Z)
 refine X0 6 Z ?_;obtain⟨y,F,a⟩:=qd F;refine qn (rL (fun m e w'=>∃(u:Int),qc6 list positive m u=V y∧e=[(0,.slice z list.length x),(1,.bool positive),(5,.int .i64 u)]∧SH w w' []) n ⟨_,F,rfl,h⟩ Z ?_);rintro v _ _ ⟨u,F,rfl,h⟩;rcases v with _|v
 ·cases F
 refine X0 6 Z (qi Z F ?_ ?_)<;>intro F
 ·refine X0 7 Z ?_;obtain⟨J,_,F,f,_,_,_,_,g,i,k,d⟩:=D.ix F;obtain⟨_,_,_,_,_,_,rfl,s2,H,I⟩:=qaK k;refine zxe g i f Z (zc 0 (d.below h.below) Z ?_);obtain⟨A,l,F⟩:=qd F;obtain⟨B,C⟩:=A;refine qaF (B,C) h (cB 323 Z) (qpg (qf0 J (h.oldS s2) (h.oldS H) (h.oldS I)) l) Z Z Z Z fun _ _ _ s o=>?_;obtain⟨_,_,_,_,rfl,b,p⟩:=s.cons o;obtain rfl:=qu (b.sh.own 0 Z);obtain⟨rfl,h⟩:=b.lastI p;refine zp3 Z (qp qa h Z Z Z fun _ _ h=>zs 0 h Z fun _ h=>X0 7 Z (qj (t:=25) F Z ?_ ?_))<;>intro F
  ·refine X0 8 Z (qb9 Z Z (X0 4 Z ?_));obtain rfl:=qb F;replace F:=a;exact rb h F Z
  refine X0 4 Z (qj (t:=27) F Z ?_ ?_)<;>intro F
  ·refine X1 10 0 h Z (qi Z F ?_ ?_)<;>intro F
   ·refine X0 4 Z ?_;obtain rfl:=qb F;replace F:=a;exact rb h F Z
   refine X0 7 Z ?_;replace h:=h.pick [] Z;exact rK ⟨_,F,rfl,h⟩ Z
  refine X0 7 Z (qbL Z Z (X0 7 Z ?_));replace h:=h.pick [] Z;exact rK ⟨_,F,rfl,h⟩ Z
 refine qr Z ?_;obtain rfl:=qb F;replace F:=a;exact X0 4 Z (rb h F Z)
def qmg (n:Nat)(b:qA)(a:qL):Option Bool:=
 (
  (qaB n a.Bf 0 (W64 ((W64 ((b.Av.length:Int)-1))-1))).bind fun o=>
  bif (!o) then V true else
  (qaB n a.To 0 (W64 ((b.Av.length:Int)-1))).bind fun p=>
  V (!p)).bind fun b1=>
 bif b1 then V false else
 (idx b.Av a.Bf).bind fun c=>
 bif (a.Ay==1) then
  bif (!c.Bn) then
   bif (a.To==(W64 ((b.Av.length:Int)-1))) then
    (qaB n a.Bl 1 3).bind fun g=>
    bif g then
     (qdP n a.Bj true).bind fun h=>
     bif h then
      (qdP n a.Aq true).bind fun i=>
      V i
     else
      V false
    else
     V false
   else
    V false
  else
   V false
 else
  (
   bif (a.Ay==2) then V (a.Ay==2) else
   V (a.Ay==3)).bind fun d=>
  bif d then
   bif c.Bn then
    bif (a.To==(W64 ((b.Av.length:Int)-1))) then
     bif (a.Bl==0) then
      (qdP n a.Bj true).bind fun k=>
      bif k then
       (qdP n a.Aq true).bind fun l=>
       V l
      else
       V false
     else
      V false
    else
     V false
   else
    V false
  else
   (
    bif (a.Ay==4) then V (a.Ay==4) else
    V (a.Ay==5)).bind fun f=>
   bif f then
    bif c.Bn then
     bif decide (a.To<(W64 ((b.Av.length:Int)-1))) then
      (idx b.Av a.To).bind fun r=>
      bif (!r.Bn) then
       bif (a.Bl==0) then
        (qdP n a.Bj false).bind fun m=>
        bif m then V ((a.Aq.length:Int)==0) else
        V false
       else
        V false
      else
       V false
     else
      V false
    else
     V false
   else
    V false
theorem qs2 {a:qA}{b:qL}(x:Ro w a cs1)(y:Ro w b cs2){r:Bool}(F:qmg n a b=V r):RetV prog 286 [GoT.v qA cs1,GoT.v qL cs2] w r:=by
 obtain⟨R,M,S,N,T,O,rfl,s1,_,_⟩:=qal x;obtain⟨W,P,X,Q,rfl,Y,s5⟩:=qaq y;refine zV 119 func286 Z fun h=>zSR (qw h Z Z fun _ c h=>qw h Z Z fun _ d h=>X1 12 1 h Z ?_);obtain⟨s,m,_,F,i⟩:=bindE F;refine qaT (fun e w'=>∃(b1:Bool),s b1=V r∧e=[(2,.pointer (V ⟨c,0,U⟩)),(3,.pointer (V ⟨d,0,U⟩)),(5,.int .i64 (W64 ((a.Av.length:Int)-1))),(23,.bool b1)]∧SH w w' [Ch.box d (qh3 b W X P Q) 138,Ch.box c (qeB a R S T M N O) 135]) ?_ ?_
 ·refine X1 5 0 h Z (zcB h F qah Z fun _ _ h F=>zp2 Z (qj (t:=17) F Z ?_ ?_))<;>intro F
  ·refine X0 7 Z ?_;obtain rfl:=qb F;exact rG ⟨_,i,rfl,h⟩ Z
  refine X1 7 0 h Z (zcB h F qah Z fun _ _ h F=>X0 4 Z ?_);obtain rfl:=qb F;exact rG ⟨_,i,rfl,h⟩ Z
 rintro _ _ ⟨b1,F,rfl,h⟩;subst m;refine qi Z F ?_ ?_<;>intro F
 ·exact X0 4 Z (rb h F Z)
 refine X2 7 1 0 h Z ?_;obtain⟨y1,_,F,B,_,_,_,_,D,I,K,z⟩:=s1.ix F;obtain rfl:=qa5 K;refine zxe D I B Z (zp1 Z (zc 3 (z.below h.below) Z (X1 14 0 h Z (qi Z F ?_ ?_))))<;>intro F
 ·refine X0 5 Z (qj (t:=37) F Z ?_ ?_)<;>intro F
  ·refine X1 10 0 h Z (qj (t:=43) F Z ?_ ?_)<;>intro F
   ·refine X1 5 0 h Z (zcB h F qah Z fun _ _ h F=>zp2 Z (qj (t:=48) F Z ?_ ?_))<;>intro F
    ·refine X1 5 0 h Z (zcB h F (qfC ⟨_,_,rfl,(h.oldS Y)⟩) Z fun _ _ h F=>zp2 Z (qj (t:=53) F Z ?_ ?_))<;>intro F
     ·exact X1 5 0 h Z (zcB h F (qfC ⟨_,_,rfl,(h.oldS s5)⟩) Z fun _ _ h F=>X0 3 Z (rb h F Z))
     exact X0 6 Z (rb h F Z)
    exact X0 11 Z (rb h F Z)
   exact X0 16 Z (rb h F Z)
  exact X0 22 Z (rb h F Z)
 refine X0 6 Z ?_;obtain⟨p,l,_,F,g⟩:=bindE F;refine qaT (fun e w'=>∃(u:Bool),p u=V r∧e=[(2,.pointer (V ⟨c,0,U⟩)),(3,.pointer (V ⟨d,0,U⟩)),(5,.int .i64 (W64 ((a.Av.length:Int)-1))),(6,.bool y1.Bn),(32,.int .i64 b.Ay),(58,.bool u)]∧SH w w' [Ch.box d (qh3 b W X P Q) 138,Ch.box c (qeB a R S T M N O) 135]) ?_ ?_
 ·refine qi Z F ?_ ?_<;>intro F
  ·refine qhD ?_;obtain rfl:=qb F;exact rG ⟨_,g,rfl,h⟩ Z
  refine X0 4 Z ?_;obtain rfl:=qb F;exact rG ⟨_,g,rfl,h⟩ Z
 rintro _ _ ⟨u,F,rfl,h⟩;subst l;refine qi Z F ?_ ?_<;>intro F
 ·refine X0 4 Z (qj (t:=62) F Z ?_ ?_)<;>intro F
  ·refine X1 10 0 h Z (qj (t:=68) F Z ?_ ?_)<;>intro F
   ·refine X1 8 0 h Z (qj (t:=73) F Z ?_ ?_)<;>intro F
    ·refine X1 5 0 h Z (zcB h F (qfC ⟨_,_,rfl,(h.oldS Y)⟩) Z fun _ _ h F=>zp2 Z (qj (t:=78) F Z ?_ ?_))<;>intro F
     ·exact X1 5 0 h Z (zcB h F (qfC ⟨_,_,rfl,(h.oldS s5)⟩) Z fun _ _ h F=>X0 3 Z (rb h F Z))
     exact X0 6 Z (rb h F Z)
    exact X0 11 Z (rb h F Z)
   exact X0 16 Z (rb h F Z)
  exact X0 22 Z (rb h F Z)
 refine X0 6 Z ?_;obtain⟨o,k,_,F,f⟩:=bindE F;refine qaT (fun e w'=>∃(v:Bool),o v=V r∧e=[(2,.pointer (V ⟨c,0,U⟩)),(3,.pointer (V ⟨d,0,U⟩)),(5,.int .i64 (W64 ((a.Av.length:Int)-1))),(6,.bool y1.Bn),(83,.bool v)]∧SH w w' [Ch.box d (qh3 b W X P Q) 138,Ch.box c (qeB a R S T M N O) 135]) ?_ ?_
 ·refine qi Z F ?_ ?_<;>intro F
  ·refine qhD ?_;obtain rfl:=qb F;exact rG ⟨_,f,rfl,h⟩ Z
  refine X0 4 Z ?_;obtain rfl:=qb F;exact rG ⟨_,f,rfl,h⟩ Z
 rintro _ _ ⟨v,F,rfl,h⟩;subst k;refine qi Z F ?_ ?_<;>intro F
 ·refine X0 4 Z (qj (t:=87) F Z ?_ ?_)<;>intro F
  ·refine X1 10 0 h Z (qj (t:=93) F Z ?_ ?_)<;>intro F
   ·refine X2 9 1 0 h Z ?_;obtain⟨_,_,F,C,_,_,_,_,H,J,L,A⟩:=s1.ix F;obtain rfl:=qa5 L;refine zxe H J C Z (X0 3 Z (zc 3 (A.below h.below) Z (X0 4 Z (qj (t:=103) F Z ?_ ?_))))<;>intro F
    ·refine X1 8 0 h Z (qj (t:=108) F Z ?_ ?_)<;>intro F
     ·refine X1 5 0 h Z (zcB h F (qfC ⟨_,_,rfl,(h.oldS Y)⟩) Z fun _ _ h F=>zp2 Z (qj (t:=113) F Z ?_ ?_))<;>intro F
      ·exact X1 11 0 h Z (rb h F Z)
      exact X0 7 Z (rb h F Z)
     exact X0 12 Z (rb h F Z)
    exact X0 17 Z (rb h F Z)
   exact X0 27 Z (rb h F Z)
  exact X0 33 Z (rb h F Z)
 exact X0 6 Z (rb h F Z)
def qdt (c:qA):Nat→(List Int)→Int→Option ((List Int)×Int)
 | 0,_,_=>U
 | n+1,b,a=>
  bif decide (a<(c.As.length:Int)) then
   (idx c.As a).bind fun d=>
   (idx b d.Ay).bind fun f=>
   (idx b d.Ay).bind fun _=>
   qdt c n (setS b d.Ay (W64 (f+1))) (W64 (a+1))
  else
   V (b,a)
def qkh (n:Nat)(c:qA):Option (List Int):=
 (mkS 6 (0:Int)).bind fun a=>
 (qdt c n a 0).bind fun o=>match o with
 | (b,_)=>
  V b
theorem qra {c:qA}(o:Ro w c cs1){r:(List Int)}(F:qkh n c=V r):RetV prog 287 [GoT.v qA cs1] w r:=by
 obtain⟨P,L,Q,M,R,N,rfl,_,s2,_⟩:=qal o;refine zV 25 func287 Z fun h=>zSR (qw h Z Z fun _ b h=>X0 4 Z ?_);obtain⟨k,a,F⟩:=qd F;obtain⟨J,K,a⟩:=qR a;refine qas qa Int h Z Z Z Z Z Z Z Z Z J K a Z fun _ S1 I h=>X0 7 Z ?_;obtain⟨O,F,l⟩:=qd F;refine qn (rL (fun m e w'=>∃(D:(List Int)) (C:Int),qdt c m D C=V O∧e=[(1,.pointer (V ⟨b,0,U⟩)),(3,.slice I k.length k.length),(4,.int .i64 C)]∧SH w w' [Ch.own S1 (D:List Int) [.slice I k.length k.length],Ch.box b (qeB c P Q R L M N) 135]) n ⟨_,_,F,rfl,h⟩ Z ?_);rintro H _ _ ⟨D,C,F,rfl,h⟩;rcases H with _|H
 ·cases F
 refine X1 9 1 h Z (qi Z F ?_ ?_)<;>intro F
 ·refine X1 8 1 h Z ?_;obtain⟨_,_,F,u,_,_,_,_,v,y,A,p⟩:=s2.ix F;obtain⟨_,_,_,_,rfl,_,_⟩:=qaq A;refine zxe v y u Z (zp1 Z (zc 0 (p.below h.below) Z ?_));obtain⟨S,_,F,d,_,_,_,_,x,z,rfl,s⟩:=(h.sl 0 Z).1.ix F;refine zx x z ⟨d.1,qD d.2.1 (h.sl 0 Z).2⟩ Z (zc 0 s Z (zp1 Z ?_));obtain⟨_,B,F,f,_,_,_,_,g,i,rfl,t⟩:=(h.sl 0 Z).1.ix F;exact zx g i ⟨f.1,qD f.2.1 (h.sl 0 Z).2⟩ Z (qao qa 0 0 (W64 (S+1)) h Z B g i Z t Z Z Z Z Z Z Z fun _ h=>X0 7 Z (rK ⟨_,_,F,rfl,h⟩ Z))
 refine qr Z ?_;obtain rfl:=qb F;replace F:=l;refine X0 5 Z ?_;obtain rfl:=qb F;exact rO 0 h Z ⟨rfl,trivial⟩
def qdS (a:qA)(d:Int)(c:qL):Nat→Int→Option (Flow Bool Int)
 | 0,_=>U
 | n+1,b=>
  bif decide (b<d) then
   (idx a.As b).bind fun f=>
   bif (f.Ay==c.Ay) then
    (idx a.As b).bind fun g=>
    bif (g.Bf==c.Bf) then
     (idx a.As b).bind fun h=>
     bif (h.To==c.To) then V (.ret false) else
     qdS a d c n (W64 (b+1))
    else
     qdS a d c n (W64 (b+1))
   else
    qdS a d c n (W64 (b+1))
  else
   V (.nxt b)
def qgg (a:qA):Nat→Int→Option (Flow Bool Int)
 | 0,_=>U
 | n+1,b=>
  bif decide (b<(a.Bk.length:Int)) then
   (idx a.Bk b).bind fun d=>
   (qaB n d 0 1).bind fun c=>
   bif (!c) then V (.ret false) else
   qgg a n (W64 (b+1))
  else
   V (.nxt b)
def qf9 (a:qA):Nat→Int→Option (Flow Bool Int)
 | 0,_=>U
 | n+1,b=>
  bif decide (b<(a.As.length:Int)) then
   (idx a.As b).bind fun c=>
   (qmg n a c).bind fun d=>
   bif (!d) then V (.ret false) else
   (qdS a b c n 0).bind fun o=>match o with
   | .ret r=>V (.ret r)
   | .nxt _=>
    qf9 a n (W64 (b+1))
  else
   V (.nxt b)
def qmx (n:Nat)(a:qA):Option Bool:=
 (qk9 n a).bind fun o=>match o with
  | (c,h)=>
   (
    bif (!h) then V true else
    (qgD n a.Az).bind fun i=>
    bif (!i) then V true else
    bif decide ((a.As.length:Int) > 8) then V true else
    (qaB n a.Bx 0 100000).bind fun k=>
    bif (!k) then V true else
    (qaB n a.Br 0 100000).bind fun l=>
    V (!l)).bind fun b1=>
   bif b1 then V false else
   (qf9 a n 0).bind fun o=>match o with
   | .ret r=>V r
   | .nxt _=>
    (qkh n a).bind fun b=>
    bif (a.Ay==1) then
     (qgg a n 0).bind fun o=>match o with
     | .ret r=>V r
     | .nxt _=>
      bif (c==0) then
       (shlS 1 (IntKind.wrap .u64 (W64 ((a.Av.length:Int)-1)))).bind fun m=>
       V ((a.Bk.length:Int)==m)
      else
       V false
    else
     bif (a.Ay==2) then
      bif (c==1) then
       (idx b 1).bind fun p=>
       bif (p==0) then
        (idx b 2).bind fun s=>
        (idx b 3).bind fun t=>
        bif (!((decide (s > 0))==(decide (t > 0)))) then V ((a.Bk.length:Int)==0) else
        V false
       else
        V false
      else
       V false
     else
      bif (a.Ay==3) then
       bif (c==1) then
        (idx b 1).bind fun d=>
        bif decide (d > 0) then
         (idx b 2).bind fun f=>
         bif decide (f > 0) then
          (idx b 3).bind fun g=>
          bif (g==0) then V ((a.Bk.length:Int)==0) else
          V false
         else
          V false
        else
         V false
       else
        V false
      else
       V false
theorem qsw {a:qA}(d:Ro w a cs1){r:Bool}(F:qmx n a=V r):RetV prog 243 [GoT.v qA cs1] w r:=by
 obtain⟨S,P,T,Q,W,R,rfl,_,s2,s3⟩:=qal d;refine zV 182 func243 Z fun h=>zSR (qw h Z Z fun _ b h=>X1 5 0 h Z ?_);obtain⟨r1,d3,F⟩:=qd F;obtain⟨O,r3⟩:=r1;refine qaF (O,r3) h (cB 285 Z) (qrz (h.old d) d3) Z Z Z Z fun _ _ _ e2 d4=>?_;obtain⟨_,_,rfl,e3,d5⟩:=e2.consI d4;obtain⟨rfl,h⟩:=e3.lastB d5;refine X0 8 Z ?_;obtain⟨X,s,_,F,c⟩:=bindE F;refine qaT (fun e w'=>∃(b1:Bool),X b1=V r∧e=[(1,.pointer (V ⟨b,0,U⟩)),(3,.int .i64 O),(40,.bool b1)]∧SH w w' [Ch.box b (qeB a S T W P Q R) 135]) ?_ ?_
 ·refine X0 4 Z (qj (t:=17) F Z ?_ ?_)<;>intro F
  ·refine X0 24 Z ?_;obtain rfl:=qb F;exact rG ⟨_,c,rfl,h⟩ Z
  refine X1 5 0 h Z (zcB h F qiP Z fun _ _ h F=>X0 4 Z (qj (t:=23) F Z ?_ ?_))<;>intro F
  ·refine X0 18 Z ?_;obtain rfl:=qb F;exact rG ⟨_,c,rfl,h⟩ Z
  refine X1 10 0 h Z (qj (t:=29) F Z ?_ ?_)<;>intro F
  ·refine X0 12 Z ?_;obtain rfl:=qb F;exact rG ⟨_,c,rfl,h⟩ Z
  refine X1 5 0 h Z (zcB h F qah Z fun _ _ h F=>X0 4 Z (qj (t:=35) F Z ?_ ?_))<;>intro F
  ·refine X0 6 Z ?_;obtain rfl:=qb F;exact rG ⟨_,c,rfl,h⟩ Z
  refine X1 5 0 h Z (zcB h F qah Z fun _ _ h F=>X0 4 Z ?_);obtain rfl:=qb F;exact rG ⟨_,c,rfl,h⟩ Z
 rintro _ _ ⟨b1,F,rfl,h⟩;subst s;refine qi Z F ?_ ?_<;>intro F
 ·exact X0 4 Z (rb h F Z)
 refine X0 6 Z ?_;obtain⟨o1,F,i⟩:=qd F;refine qn (rL (fun m e w'=>∃(N:Int),qf9 a m N=V o1∧e=[(1,.pointer (V ⟨b,0,U⟩)),(3,.int .i64 O),(5,.int .i64 N)]∧SH w w' [Ch.box b (qeB a S T W P Q R) 135]) n ⟨_,F,rfl,h⟩ Z ?_);rintro m1 _ _ ⟨N,F,rfl,h⟩;rcases m1 with _|m1
 ·cases F
 refine X1 9 0 h Z (qi Z F ?_ ?_)<;>intro F
 ·refine X1 8 0 h Z ?_;obtain⟨y1,_,F,a6,_,_,_,_,b4,c3,d6,Y⟩:=s2.ix F;obtain⟨p4,k4,p5,k5,rfl,s4,s5⟩:=qaq d6;refine zxe b4 c3 a6 Z (zc 0 (Y.below h.below) Z (qp qa h Z Z Z fun _ l h=>zs 0 h Z fun _ h=>X2 6 1 0 h Z (zcB h F (qs2 (h.old d) (qgo y1 (h.oldS s4) (h.oldS s5))) Z fun _ _ h F=>X0 2 Z (qi Z F ?_ ?_))))<;>intro F
  ·refine X0 4 Z ?_;obtain rfl:=qb F;replace F:=i;exact rb h F Z
  refine X0 5 Z ?_;obtain⟨o2,F,o⟩:=qd F;refine qn (rL (fun m e w'=>∃(i2:Int),qdS a N y1 m i2=V o2∧e=[(1,.pointer (V ⟨b,0,U⟩)),(3,.int .i64 O),(5,.int .i64 N),(6,.pointer (V ⟨l,0,U⟩)),(7,.int .i64 i2)]∧SH w w' [Ch.box l (qh3 y1 p4 p5 k4 k5) 138,Ch.box b (qeB a S T W P Q R) 135]) m1 ⟨_,F,rfl,h⟩ Z ?_);rintro m2 _ _ ⟨i2,F,rfl,h⟩;rcases m2 with _|m2
  ·cases F
  refine X0 7 Z (qi Z F ?_ ?_)<;>intro F
  ·refine X0 4 Z (rD (Y1 2 1 h Z ?_));refine zd1 Z ?_;obtain⟨_,_,F,a7,_,_,_,_,b5,c4,d7,a3⟩:=s2.ix F;obtain⟨_,_,_,_,rfl,_,_⟩:=qaq d7;refine zdxe b5 c4 a7 Z (zd1 Z (zdc 0 (a3.below h.below) Z (Y1 2 0 h Z ?_)));refine zd2 Z (qaY (t:=71) F Z ?_ ?_)<;>intro F
   ·refine Y1 4 1 h Z ?_;refine Y0 3 Z ?_;obtain⟨_,_,F,a8,_,_,_,_,b6,c5,d8,a4⟩:=s2.ix F;obtain⟨_,_,_,_,rfl,_,_⟩:=qaq d8;refine zdxe b6 c5 a8 Z (Y0 3 Z (zdc 1 (a4.below h.below) Z (Y1 4 0 h Z ?_)));refine Y0 4 Z (qaY (t:=82) F Z ?_ ?_)<;>intro F
    ·refine Y1 4 1 h Z ?_;refine Y0 3 Z ?_;obtain⟨_,_,F,a9,_,_,_,_,b7,c6,d9,a5⟩:=s2.ix F;obtain⟨_,_,_,_,rfl,_,_⟩:=qaq d9;refine zdxe b7 c6 a9 Z (Y0 3 Z (zdc 2 (a5.below h.below) Z (Y1 4 0 h Z ?_)));refine Y0 3 Z (dN h fun _ h=>qi Z F ?_ ?_)<;>intro F
     ·refine X0 4 Z ?_;obtain rfl:=qb F;replace F:=o;obtain rfl:=qb F;replace F:=i;exact rb h F Z
     exact X0 7 Z (rK ⟨_,F,rfl,h⟩ Z)
    exact Y0 10 Z (dN h fun _ h=>qbL Z Z (X0 7 Z (rK ⟨_,F,rfl,h⟩ Z)))
   exact Y0 21 Z (dN h fun _ h=>qbL Z Z (X0 7 Z (rK ⟨_,F,rfl,h⟩ Z)))
  refine qr Z ?_;obtain rfl:=qb F;replace F:=o;refine X0 6 Z ?_;replace h:=h.pick [1] Z;exact rK ⟨_,F,rfl,h⟩ Z
 refine qr Z ?_;obtain rfl:=qb F;replace F:=i;refine X1 3 0 h Z (zcL h F (qra (h.old d)) Z fun _ _ _ _ _ h F=>X1 14 1 h Z (qi Z F ?_ ?_))<;>intro F
 ·refine X0 5 Z ?_;obtain⟨o3,F,p⟩:=qd F;refine qn ?_;replace h:=h.pick [1] Z;refine rL (fun m e w'=>∃(i3:Int),qgg a m i3=V o3∧e=[(1,.pointer (V ⟨b,0,U⟩)),(3,.int .i64 O),(9,.int .i64 i3)]∧SH w w' [Ch.box b (qeB a S T W P Q R) 135]) n ⟨_,F,rfl,h⟩ Z ?_;rintro m3 _ _ ⟨i3,F,rfl,h⟩;rcases m3 with _|m3
  ·cases F
  refine X1 9 0 h Z (qi Z F ?_ ?_)<;>intro F
  ·refine X1 8 0 h Z ?_;obtain⟨_,_,F,b3,_,_,_,_,b8,c7,rfl,u⟩:=s3.ix F;refine zxe b8 c7 b3 Z (zc 0 (u.below h.below) Z (zcB h F qah Z fun _ _ h F=>X0 2 Z (qi Z F ?_ ?_)))<;>intro F
   ·refine X0 4 Z ?_;obtain rfl:=qb F;replace F:=p;exact rb h F Z
   exact X0 7 Z (rK ⟨_,F,rfl,h⟩ Z)
  refine qr Z ?_;obtain rfl:=qb F;replace F:=p;refine X0 5 Z (qj (t:=115) F Z ?_ ?_)<;>intro F
  ·refine X2 17 0 0 h Z ?_;obtain⟨_,k,F⟩:=qd F;obtain⟨g1,k⟩:=qtz k;refine r_v (qAH g1 Z Z) Z ?_;rw[k];exact X0 5 Z (rb h F Z)
  exact X0 13 Z (rb h F Z)
 refine X0 5 Z (qi Z F ?_ ?_)<;>intro F
 ·refine qcx (rD (zd3 Z (qaY (t:=131) F Z ?_ ?_)))<;>intro F
  ·refine Y0 3 Z ?_;obtain⟨_,_,F,C,_,_,_,_,b9,c8,rfl,v⟩:=(h.sl 0 Z).1.ix F;refine zdx b9 c8 ⟨C.1,qD C.2.1 (h.sl 0 Z).2⟩ Z (Y0 1 Z (zdc 0 v Z (Y0 4 Z (qaY (t:=137) F Z ?_ ?_))))<;>intro F
   ·refine Y0 3 Z ?_;obtain⟨_,_,F,D,_,_,_,_,c0,c9,rfl,x⟩:=(h.sl 0 Z).1.ix F;refine zdx c0 c9 ⟨D.1,qD D.2.1 (h.sl 0 Z).2⟩ Z (Y0 1 Z (zdc 0 x Z (Y0 5 Z ?_)));obtain⟨_,_,F,H,_,_,_,_,c1,d0,rfl,y⟩:=(h.sl 0 Z).1.ix F;refine zdx c1 d0 ⟨H.1,qD H.2.1 (h.sl 0 Z).2⟩ Z (Y0 1 Z (zdc 0 y Z (Y0 6 Z (qaY (t:=148) F Z ?_ ?_))))<;>intro F
    ·refine Y1 4 1 h Z ?_;exact Y0 6 Z (dN h fun _ h=>rb h F Z)
    exact Y0 6 Z (dN h fun _ h=>rb h F Z)
   exact Y0 17 Z (dN h fun _ h=>rb h F Z)
  exact Y0 23 Z (dN h fun _ h=>rb h F Z)
 refine X0 5 Z (qi Z F ?_ ?_)<;>intro F
 ·refine X0 5 Z (qj (t:=158) F Z ?_ ?_)<;>intro F
  ·refine X0 3 Z ?_;obtain⟨_,_,F,I,_,_,_,_,c2,d1,rfl,z⟩:=(h.sl 0 Z).1.ix F;refine zx c2 d1 ⟨I.1,qD I.2.1 (h.sl 0 Z).2⟩ Z (X0 1 Z (zc 0 z Z (X0 4 Z (qj (t:=164) F Z ?_ ?_))))<;>intro F
   ·refine X0 3 Z ?_;obtain⟨_,_,F,f,_,_,_,_,J,L,rfl,A⟩:=(h.sl 0 Z).1.ix F;refine zx J L ⟨f.1,qD f.2.1 (h.sl 0 Z).2⟩ Z (X0 1 Z (zc 0 A Z (X0 4 Z (qj (t:=170) F Z ?_ ?_))))<;>intro F
    ·refine X0 3 Z ?_;obtain⟨_,_,F,g,_,_,_,_,K,M,rfl,B⟩:=(h.sl 0 Z).1.ix F;refine zx K M ⟨g.1,qD g.2.1 (h.sl 0 Z).2⟩ Z (X0 1 Z (zc 0 B Z (X0 4 Z (qj (t:=176) F Z ?_ ?_))))<;>intro F
     ·exact X1 11 1 h Z (rb h F Z)
     exact X0 7 Z (rb h F Z)
    exact X0 13 Z (rb h F Z)
   exact X0 19 Z (rb h F Z)
  exact X0 25 Z (rb h F Z)
 exact X0 6 Z (rb h F Z)
def qd5 (l:qt)(b:Int):Nat→Int→Option (Flow Bool Int)
 | 0,_=>U
 | n+1,a=>
  bif decide (a<b) then
   (idx l.Ap a).bind fun c=>
   (idx l.Ap b).bind fun d=>
   bif (c.Az.toList==d.Az.toList) then V (.ret false) else
   qd5 l b n (W64 (a+1))
  else
   V (.nxt a)
def qdZ (l:qt):Nat→Int→Option (Flow Bool Int)
 | 0,_=>U
 | n+1,a=>
  bif decide (a<(l.Ap.length:Int)) then
   (idx l.Ap a).bind fun c=>
   (qmx n c).bind fun b=>
   bif (!b) then V (.ret false) else
   (qd5 l a n 0).bind fun o=>match o with
   | .ret r=>V (.ret r)
   | .nxt _=>
    qdZ l n (W64 (a+1))
  else
   V (.nxt a)
def qjl (n:Nat)(l:qt):Option Bool:=
 (qdZ l n 0).bind fun o=>match o with
 | .ret r=>V r
 | .nxt _=>
  V (decide ((l.Ap.length:Int)≤8))
theorem qqj {l:qt}(f:Ro w l cs1){r:Bool}(F:qjl n l=V r):RetV prog 188 [GoT.v qt cs1] w r:=by
 obtain⟨L,J,rfl,I⟩:=qbN f;refine zV 41 func188 Z fun h=>zSR (qw h Z Z fun _ a h=>X0 7 Z ?_);obtain⟨M,F,b⟩:=qd F;refine qn (rL (fun m e w'=>∃(d:Int),qdZ l m d=V M∧e=[(1,.pointer (V ⟨a,0,U⟩)),(3,.int .i64 d)]∧SH w w' [Ch.box a [.slice L l.Ap.length J] 50]) n ⟨_,F,rfl,h⟩ Z ?_);rintro H _ _ ⟨d,F,rfl,h⟩;rcases H with _|H
 ·cases F
 refine X1 9 0 h Z (qi Z F ?_ ?_)<;>intro F
 ·refine X1 9 0 h Z ?_;obtain⟨Q,_,F,o,_,_,_,_,t,x,A,g⟩:=I.ix F;obtain⟨_,_,_,_,_,_,rfl,s2,O,P⟩:=qal A;refine zxe t x o Z (zc 0 (g.below h.below) Z (zcB h F (qsw (qlq Q (h.oldS s2) (h.oldS O) (h.oldS P))) Z fun _ _ h F=>X0 2 Z (qi Z F ?_ ?_)))<;>intro F
  ·refine X0 4 Z ?_;obtain rfl:=qb F;replace F:=b;exact rb h F Z
  refine X0 5 Z ?_;obtain⟨N,F,c⟩:=qd F;refine qn (rL (fun m e w'=>∃(D:Int),qd5 l d m D=V N∧e=[(1,.pointer (V ⟨a,0,U⟩)),(3,.int .i64 d),(4,.int .i64 D)]∧SH w w' [Ch.box a [.slice L l.Ap.length J] 50]) H ⟨_,F,rfl,h⟩ Z ?_);rintro K _ _ ⟨D,F,rfl,h⟩;rcases K with _|K
  ·cases F
  refine X0 7 Z (qi Z F ?_ ?_)<;>intro F
  ·refine X0 4 Z (rD (Y1 2 0 h Z ?_));refine zd1 Z ?_;obtain⟨_,_,F,p,_,_,_,_,u,y,B,i⟩:=I.ix F;obtain⟨_,_,_,_,_,_,rfl,_,_,_⟩:=qal B;refine zdxe u y p Z (zd1 Z (zdc 0 (i.below h.below) Z (Y1 2 0 h Z ?_)));refine zd1 Z ?_;obtain⟨_,_,F,s,_,_,_,_,v,z,C,k⟩:=I.ix F;obtain⟨_,_,_,_,_,_,rfl,_,_,_⟩:=qal C;refine zdxe v z s Z (zd1 Z (zdc 0 (k.below h.below) Z (zd1 Z (dN h fun _ h=>qi Z F ?_ ?_))))<;>intro F
   ·refine X0 4 Z ?_;obtain rfl:=qb F;replace F:=c;obtain rfl:=qb F;replace F:=b;exact rb h F Z
   exact X0 7 Z (rK ⟨_,F,rfl,h⟩ Z)
  refine qr Z ?_;obtain rfl:=qb F;replace F:=c;exact X0 6 Z (rK ⟨_,F,rfl,h⟩ Z)
 refine qr Z ?_;obtain rfl:=qb F;replace F:=b;exact X1 8 0 h Z (rb h F Z)
end Go.Fw
