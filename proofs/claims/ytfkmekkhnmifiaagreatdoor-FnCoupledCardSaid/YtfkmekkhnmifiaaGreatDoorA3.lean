/-
 DERIVED: THE SHELF's CONTRACTS AT THIS DUMP, IN PLAIN WORDS (tools/lay-plain.mjs out of 'TryzSy.lean', which tools/lay-shelf.mjs wrote): THE SAME DECLARATIONS UNDER THE SAME NAMES: 'import', 'namespace', 'open', 'def', 'theorem' AND NOTHING ELSE: no command of the shelf's: FOR A HAND-IN. Each laying: the table of numbers ('.._ren') and one theorem, a field a fact of the dump's own or the kernel's comparison; each contract: ONE APPLICATION.
-/
import Derived.Shelf.SlGeneric
import Derived.Ground.SlgmProg
import Derived.Ground.SlgnProg
import Derived.Shelf.SortM.Plain
import Derived.Shelf.SortM.SortNone
import Derived.Shelf.SlicesG.CompactI
import Derived.Test.YtfkmekkhnmifiaaGreatDoorProg
import Derived.Test.YtfkmekkhnmifiaaGreatDoorFw38
import Derived.Sort.Grow
import Derived.Lib.SlicesCompact
import Derived.Laws.StructEq
import Derived.Test.YtfkmekkhnmifiaaGreatDoorChecked
import Derived.Test.YtfkmekkhnmifiaaGreatDoorS1
open Option renaming some->V, none->U
open Nat renaming le_refl->je, le_of_ble_eq_true->jr, le_trans->jR, zero_le->jW, zero_add->Jf
open Bool renaming and_eq_true->jf, not_eq_true'->jA, false_or->Jj
open List renaming getElem?_eq_getElem->jn, mem_cons_of_mem->jp, mem_cons_self->js, length_map->jt, not_mem_nil->jz, mem_of_getElem?->jE, take_length->jG, length_replicate->jH, getElem?_take->jI, mem_cons->jK, length_take->jM, size_toArray->jO, mem_append_left->jP, append_nil->jY, length_cons->Ja, mem_append_right->Jc, map_cons->Ji
open Go.Result renaming andThen_ok->jh
open Go.Sem renaming run_bind->jk, run_pure->jm
open Int renaming toNat_natCast->jq, le_refl->jU
open Array renaming getElem?_append_left->jB

namespace Go.Proofs
open Go.Shelf
def Tryz.laysSort_ren:Go.Shelf.Ren:=⟨fun|5=>71|8=>132|7=>131|19=>192|20=>193|10=>183|11=>184|12=>185|13=>186|14=>187|15=>188|16=>189|17=>190|18=>191|30=>234|31=>235|32=>236|33=>237|34=>238|35=>195|40=>260|n=>n,fun|23=>37|25=>2|3=>3|32=>212|22=>37|0=>0|44=>272|46=>274|4=>4|36=>265|35=>264|41=>269|5=>5|9=>9|53=>303|57=>307|63=>329|64=>330|n=>n,fun|n=>n⟩
theorem Tryz.laysSort:Go.Proofs.SlLaysM.n5 Tryz.prog Tryz.laysSort_ren:={
 mixed:=by kernel_rfl
 f5:=⟨Tryz.f71.name,by decide,Tryz.func71.trans (congrArg some (by kernel_rfl))⟩
 f7:=⟨Tryz.f131.name,by decide,Tryz.func131.trans (congrArg some (by kernel_rfl))⟩
 f8:=Tryz.func132.trans (congrArg some (by kernel_rfl))
 f10:=⟨Tryz.f183.name,by decide,Tryz.func183.trans (congrArg some (by kernel_rfl))⟩
 f11:=⟨Tryz.f184.name,by decide,Tryz.func184.trans (congrArg some (by kernel_rfl))⟩
 f12:=⟨Tryz.f185.name,by decide,Tryz.func185.trans (congrArg some (by kernel_rfl))⟩
 f13:=⟨Tryz.f186.name,by decide,Tryz.func186.trans (congrArg some (by kernel_rfl))⟩
 f14:=⟨Tryz.f187.name,by decide,Tryz.func187.trans (congrArg some (by kernel_rfl))⟩
 f15:=⟨Tryz.f188.name,by decide,Tryz.func188.trans (congrArg some (by kernel_rfl))⟩
 f16:=⟨Tryz.f189.name,by decide,Tryz.func189.trans (congrArg some (by kernel_rfl))⟩
 f17:=⟨Tryz.f190.name,by decide,Tryz.func190.trans (congrArg some (by kernel_rfl))⟩
 f18:=⟨Tryz.f191.name,by decide,Tryz.func191.trans (congrArg some (by kernel_rfl))⟩
 f19:=Tryz.func192.trans (congrArg some (by kernel_rfl))
 f20:=Tryz.func193.trans (congrArg some (by kernel_rfl))
 f30:=⟨Tryz.f234.name,by decide,Tryz.func234.trans (congrArg some (by kernel_rfl))⟩
 f31:=Tryz.func235.trans (congrArg some (by kernel_rfl))
 f32:=Tryz.func236.trans (congrArg some (by kernel_rfl))
 f33:=⟨Tryz.f237.name,by decide,Tryz.func237.trans (congrArg some (by kernel_rfl))⟩
 f34:=⟨Tryz.f238.name,by decide,Tryz.func238.trans (congrArg some (by kernel_rfl))⟩
 f35:=⟨Tryz.f195.name,by decide,Tryz.func195.trans (congrArg some (by kernel_rfl))⟩
 f40:=⟨Tryz.f260.name,by decide,Tryz.func260.trans (congrArg some (by kernel_rfl))⟩
 t0:=Tryz.underlying0
 a0:=Tryz.isAgg0
 z0:=Tryz.sizeOf0
 v0:=Tryz.zeroValue0
 t3:=Tryz.underlying3
 a3:=Tryz.isAgg3
 z3:=Tryz.sizeOf3
 v3:=Tryz.zeroValue3
 t4:=Tryz.underlying4
 a4:=Tryz.isAgg4
 z4:=Tryz.sizeOf4
 v4:=Tryz.zeroValue4
 t5:=Tryz.underlying5
 a5:=Tryz.isAgg5
 z5:=Tryz.sizeOf5
 v5:=Tryz.zeroValue5
 t9:=Tryz.underlying9
 a9:=Tryz.isAgg9
 z9:=Tryz.sizeOf9
 v9:=Tryz.zeroValue9
 t22:=Tryz.underlying37
 a22:=Tryz.isAgg37
 z22:=Tryz.sizeOf37
 v22:=Tryz.zeroValue37
 t23:=Tryz.underlying37
 a23:=Tryz.isAgg37
 z23:=Tryz.sizeOf37
 v23:=Tryz.zeroValue37
 t25:=Tryz.underlying2
 a25:=Tryz.isAgg2
 z25:=Tryz.sizeOf2
 v25:=Tryz.zeroValue2
 t32:=Tryz.underlying212
 a32:=Tryz.isAgg212
 z32:=Tryz.sizeOf212
 v32:=Tryz.zeroValue212
 t35:=Tryz.underlying264
 a35:=Tryz.isAgg264
 z35:=Tryz.sizeOf264
 v35:=Tryz.zeroValue264
 t36:=Tryz.underlying265
 a36:=Tryz.isAgg265
 z36:=Tryz.sizeOf265
 v36:=Tryz.zeroValue265
 t41:=Tryz.underlying269
 a41:=Tryz.isAgg269
 z41:=Tryz.sizeOf269
 v41:=Tryz.zeroValue269
 t44:=Tryz.underlying272
 a44:=Tryz.isAgg272
 z44:=Tryz.sizeOf272
 v44:=Tryz.zeroValue272
 t46:=Tryz.underlying274
 a46:=Tryz.isAgg274
 z46:=Tryz.sizeOf274
 v46:=Tryz.zeroValue274
 t53:=Tryz.underlying303
 a53:=Tryz.isAgg303
 z53:=Tryz.sizeOf303
 v53:=Tryz.zeroValue303
 t57:=Tryz.underlying307
 a57:=Tryz.isAgg307
 z57:=Tryz.sizeOf307
 v57:=Tryz.zeroValue307
 t63:=Tryz.underlying329
 a63:=Tryz.isAgg329
 z63:=Tryz.sizeOf329
 v63:=Tryz.zeroValue329
 t64:=Tryz.underlying330
 a64:=Tryz.isAgg330
 z64:=Tryz.sizeOf330
 v64:=Tryz.zeroValue330 }
open Go.RowKit Go.Sort in
theorem Tryz.slices_Sort_any(blk off cap:Nat) (zs:List Int) (w:World) (hH:Holds (Value.int .i64) w blk off zs.toArray) (hblk:blk<w.heap.size) (hsz:zs.length<4611686018427387904) :
  Calls Tryz.prog 71 #[.slice (some ⟨blk,off,none⟩) zs.length cap] w fun e w'=>e=.returned (.tuple #[])/\∃n os,w'=grow (putRow (Value.int .i64) (Go.Sort.ahead w n) blk off (zs.mergeSort fun x y=>decide (x<=y)).toArray) os:=AnyM.slices_Sort_int Tryz.laysSort blk off cap zs w hH hblk hsz
open Go.RowKit Go.Sort in
theorem Tryz.slices_Sort_none(p:Option Addr) (cap:Nat) (w:World):Calls Tryz.prog 71 #[.slice p 0 cap] w fun e w'=>e=.returned (.tuple #[])/\w'=w:=AnyM.slices_Sort_int_none Tryz.laysSort p cap w
def Tryz.laysComp_ren:Go.Shelf.Ren:=⟨fun|43=>72|n=>n,fun|22=>37|23=>2|3=>3|4=>4|0=>0|n=>n,fun|n=>n⟩
theorem Tryz.laysComp:Go.Proofs.SlLaysN.n43 Tryz.prog Tryz.laysComp_ren:={
 mixed:=by kernel_rfl
 f43:=⟨Tryz.f72.name,by decide,Tryz.func72.trans (congrArg some (by kernel_rfl))⟩
 t0:=Tryz.underlying0
 a0:=Tryz.isAgg0
 z0:=Tryz.sizeOf0
 v0:=Tryz.zeroValue0
 t3:=Tryz.underlying3
 a3:=Tryz.isAgg3
 z3:=Tryz.sizeOf3
 v3:=Tryz.zeroValue3
 t4:=Tryz.underlying4
 a4:=Tryz.isAgg4
 z4:=Tryz.sizeOf4
 v4:=Tryz.zeroValue4
 t22:=Tryz.underlying37
 a22:=Tryz.isAgg37
 z22:=Tryz.sizeOf37
 v22:=Tryz.zeroValue37
 t23:=Tryz.underlying2
 a23:=Tryz.isAgg2
 z23:=Tryz.sizeOf2
 v23:=Tryz.zeroValue2
 i23:=by kernel_rfl }
open Go.RowKit Go.Sort in
theorem Tryz.slices_Compact_any(blk off cap:Nat) (d:Array Int) (w:World) (hH:Holds (Value.int .i64) w blk off d) (hsz:d.size<=9223372036854775807) (hcap:d.size<=cap) :
  Calls Tryz.prog 72 #[.slice (some ⟨blk,off,none⟩) d.size cap] w fun e w'=>e=.returned (.slice (some ⟨blk,off,none⟩) (Go.Lib.compactUpTo d d.size).length cap)/\∃q,w'=putRow (Value.int .i64) (Go.Sort.ahead w q) blk off (Go.Lib.compactUpTo d d.size++List.replicate (d.size-(Go.Lib.compactUpTo d d.size).length) 0).toArray:=AnyG.slices_Compact_int_arr Tryz.laysComp blk off cap d w hH hsz hcap
open Go.RowKit Go.Sort in
theorem Tryz.slices_Compact_none(a:Option Addr) (cap:Nat) (w:World):Calls Tryz.prog 72 #[.slice a 0 cap] w fun e w'=>e=.returned (.slice a 0 cap)/\w'=w:=AnyG.slices_Compact_int_empty Tryz.laysComp a cap w
end Go.Proofs


namespace Go.Fw
open Go
open Go.RowKit (Below)
section
variable{P:Program}{T:Tab}{n:Nat}{Q:Exit->Act->World->Prop}{k:List It}{e:Env}{w0 w w':World}{L L':List Ch}
theorem SH.append(h:SH w0 w L)(f:SH w w' L')(m:∀c,c∈L'->∀b,c.D b->b<w0.heap.size):SH w0 w' (L'++L):=by
 have k:=h.ext f.below;refine⟨k.below,fun c a=>?_,fun c a=>?_,?_⟩
 .rcases List.mem_append.1 a with a|a
  .obtain⟨p,s⟩:=f.holds c a;exact⟨p,fun b l=>⟨jR h.below.size (s b l).1,(s b l).2⟩⟩
  .exact k.holds c a
 .rcases List.mem_append.1 a with a|a
  .exact m c a
  .exact h.elder c a
 .refine List.pairwise_append.2 ⟨f.apart,h.apart,fun c a d n b g i=>?_⟩;have o:=((f.holds c a).2 b g).1;have r:=((h.holds d n).2 b i).2;omega
theorem SH.appendN(h:SH w0 w L)(d:SH w w' L')(a:NoD L'):SH w0 w' (L'++L):=
 SH.append h d fun c g b f=>absurd f (NoD.all a c g b)
def RetZ(P:Program)(f:FuncId)(a:List Value)(w:World)(Φ:List Value->List Ch->Prop):Prop:=
 Calls P f a.toArray w fun e w'=>∃v,e=.returned v/\Below w.heap.size w w'/\∃us L,v=tup us/\SH w w' L/\Φ us L
theorem qmH{Φ:List Value->List Ch->Prop}{all:Array Oper}{l:List Oper}{d ty:Nat}{ps:String}{t:Array Edge}{x:Operand}{b:Array Operand}{i:Array TypeId}{f:FuncId}{r p:Array Value}{o s:List Value}
  (g:qfd P f) (z:RetZ P f s w Φ) (D:opv e x=V (.func (.func f) r p)) (c:opvs e b.toList=V o) (m:r.toList++o++p.toList=s) (B:Nat.blt d n=true)
  (A:∀w' h L',SH w w' L'->Φ h L'->Run P n Q (.ops all l::k) ((d,tup h)::e) w') :
  Run P n Q (.ops all (⟨V d,.call ⟨.value x,b,i⟩,ty,ps,t,U⟩::l)::k) e w:=by
 subst m;refine qmp (R:=fun v w'=>Below w.heap.size w w'/\∃h L,v=tup h/\SH w w' L/\Φ h L) Z Z B (fun a y=>qiL y g D c w) z ?_;rintro v w' ⟨_,h,L',rfl,u,C⟩;exact A w' h L' u C
theorem qjZ{f:FuncId}{b:Func}{c:Code}{a:List Value}{Φ:List Value->List Ch->Prop}{m:Nat}(o:P.funcs[f]?=V b)(n:b.body=V c)(p:b.ntmps=m)(r:Nat.ble a.length m=true)
  (h:SH w w []->Run P m (bodyPost P b fun e w'=>∃v,e=.returned v/\Below w.heap.size w w'/\∃us L,v=tup us/\SH w w' L/\Φ us L) [.code c] (argEnv 0 a) w):RetZ P f a w Φ:=by
 subst p;have s:=jr r;refine calls_of_wp o n ?_;have u:=h (SH.start w);have g:Agree b.ntmps (argEnv 0 a) { tmps:=a.toArray++Array.replicate (b.ntmps-a.toArray.size) undef,defers:=[] }:=by
  refine⟨rfl,by simp;omega,fun i v hi=>?_⟩;obtain⟨_,d⟩:=qiC a 0 i v hi;simp only[Nat.sub_zero] at d;have k:=(List.getElem?_eq_some_iff.1 d).1;rw[jB (by simpa using k)];simpa using d
 have l:=u _ g;refine wp_mono l ?_;intro ex x w' t;cases ex<;>exact t
theorem qkQ(d:TabOk P T){b:Func}{Φ:List Value->List Ch->Prop}(a:List Value)(h:SH w0 w L)(f:ResOk T e w b.results.toList a)(g:Φ a L) :
  Run P n (bodyPost P b fun e w'=>∃v,e=.returned v/\Below w0.heap.size w0 w'/\∃a L,v=tup a/\SH w0 w' L/\Φ a L) (.code .ret::k) e w:=
 qrI fun _ c=>⟨c.defers,tup a,qgQ d c f,tup a,rfl,h.below,a,L,rfl,h,g⟩
end
end Go.Fw


namespace Go.Fw
open Go Go.Sort
open Go.RowKit (Below)
section
variable{P:Program}{T:Tab}{n:Nat}{Q:Exit->Act->World->Prop}{k:List It}{e:Env}{w0 w w':World}{L L':List Ch}
theorem qvm{α:Type}{L:List α}{i:Nat}{c:α}(h:L[i]?=V c):L.set i c=L:=by
 obtain⟨hi,a⟩:=List.getElem?_eq_some_iff.1 h;rw[<-a,List.set_getElem_self]
abbrev encI:Int->Value:=Value.int .i64
theorem qrM{S:Nat->Prop}{xs:List Int}{b o l c i:Nat}(h:SH w0 w L)(hi:L[i]?=V (Ch.own S xs [.slice (V ⟨b,o,U⟩) l c])) :
  o=0/\l=xs.length/\xs.length<=c/\xs.length<=9223372036854775807/\b<w.heap.size/\Holds encI w b o xs.toArray:=by
 obtain⟨r,p⟩:=h.mem hi;obtain⟨y,v,f,m,x,n⟩:=r;simp only[List.cons.injEq,Value.slice.injEq,and_true] at f;obtain⟨rfl,rfl,rfl⟩:=f;rcases n with⟨hn,_⟩|⟨b',cur,t,F,hb,hSb,hg,hc,hF,hd,hx⟩
 .cases hn
 .simp only[Option.some.injEq,Addr.mk.injEq,and_true] at hb;obtain⟨rfl,rfl⟩:=hb;have k:maxLen<=9223372036854775807:=by simp[maxLen]
  refine⟨rfl,rfl,m,by omega,(p b hSb).2,fun j g=>?_⟩;have a:j<xs.length:=by simpa using g
  obtain⟨cs,s,u⟩:=hx j xs[j] (jn a);obtain rfl:cs=[.int .i64 xs[j]]:=s;have:=u 0 _ Z;refine⟨?_,?_⟩
  .simp only[World.cell?,hg,Option.isSome_none,Jf,Bool.false_eq_true,if_false];have e1:j*GoT.k Int+0=j:=by show j*1+0=j;omega
   rw[e1] at this;rw[this];have d:j<xs.toArray.size:=g;rw[getElem!_pos xs.toArray j d]
   rfl
  .simp only[World.frozen?,hg];simp
theorem qux{S:Nat->Prop}{xs:List Int}{b o Q c i m:Nat}(h:SH w0 w L)(hi:L[i]?=V (Ch.own S xs [.slice (V ⟨b,o,U⟩) Q c]))(d:Array Int)(H:d.size=xs.length)(O:m<=d.size)(s:Nat)(os:Array Obj) :
  SH w0 (grow (putRow encI (Go.Sort.ahead w s) b o d) os) (L.set i (Ch.own S (d.toList.take m) [.slice (V ⟨b,o,U⟩) m c])):=by
 obtain⟨P,N⟩:=h.mem hi;obtain⟨W,R,I,T,K,M⟩:=P;simp only[List.cons.injEq,Value.slice.injEq,and_true] at I;obtain⟨rfl,rfl,rfl⟩:=I;rcases M with⟨hn,_⟩|⟨b',cur,t,F,hb,hSb,hg,hc,hF,hdj,hx⟩
 .cases hn
 .simp only[Option.some.injEq,Addr.mk.injEq,and_true] at hb;obtain⟨rfl,rfl⟩:=hb;have y:b<w.heap.size:=(N b hSb).2;have f:(grow (putRow encI (Go.Sort.ahead w s) b 0 d) os).heap=w.heap.modify b (onCells (putCells encI 0 d))++os:=rfl;have n:∀a,a<w.heap.size->(grow (putRow encI (Go.Sort.ahead w s) b 0 d) os).heap[a]?=(w.heap.modify b (onCells (putCells encI 0 d)))[a]?:=fun a k=>by
   rw[f,jB (by rw[Array.size_modify];exact k)]
  have z:(grow (putRow encI (Go.Sort.ahead w s) b 0 d) os).heap[b]?=V (.cells (putCells encI 0 d cur) t (0,0)):=by
   rw[n b y,Array.getElem?_modify,if_pos Z,hg];rfl
  have l:GoT.k Int=1:=rfl;refine h.upd hi Z Z Z ?_ (fun a k C=>?_) ?_ (fun a k=>.inl k) (fun _ H=>H.elim)
  .rw[f];simp
  .rw[n a k,Array.getElem?_modify,if_neg (fun u:b=a=>C (u ▸ hSb))]
  .refine⟨V ⟨b,0,U⟩,c,by rw[jM,Array.length_toList,Nat.min_eq_left O],by rw[jM,Array.length_toList];omega,K,.inr ⟨b,_,t,F,rfl,hSb,z,?_,hF,hdj,fun j x p=>⟨[.int .i64 x],rfl,fun r v J=>?_⟩⟩⟩
   .unfold putCells;rw[Array.size_mapIdx];exact hc
   .have D:r=0:=by
     have:=(List.getElem?_eq_some_iff.1 J).1;simpa using this
    subst D;obtain rfl:(.int .i64 x)=v:=by simpa using J
    have B:j<m:=by
     have:=(List.getElem?_eq_some_iff.1 p).1;rw[jM] at this;omega
    rw[jI,if_pos B] at p;have g:j<d.size:=by omega
    have A:j*GoT.k Int+0<cur.size:=by rw[hc,l];omega
    unfold putCells;rw[Array.getElem?_mapIdx,Array.getElem?_eq_getElem A];have e1:j*GoT.k Int+0=j:=by rw[l];omega
    simp only[Option.map_some,e1,Nat.sub_zero,jW,Jf,true_and,if_pos g,Option.some.injEq];rw[getElem!_pos d j g];rw[Array.getElem?_toList,Array.getElem?_eq_getElem g] at p;rw[Option.some.inj p]
def sortI(xs:List Int):List Int:=xs.mergeSort fun x y=>decide (x<=y)
def SortsAt(P:Program)(f:FuncId):Prop:=
 (∀(a off cap:Nat) (zs:List Int) (w:World),Holds encI w a off zs.toArray->a<w.heap.size->zs.length<4611686018427387904 ->
  Calls P f #[.slice (V ⟨a,off,U⟩) zs.length cap] w fun e w'=>e=.returned (.tuple #[])/\∃n os,w'=grow (putRow encI (Go.Sort.ahead w n) a off (zs.mergeSort fun x y=>decide (x<=y)).toArray) os) /\
 ∀(p:Option Addr) (cap:Nat) (w:World),Calls P f #[.slice p 0 cap] w fun e w'=>e=.returned (.tuple #[])/\w'=w
theorem qsT{S:Nat->Prop}{xs:List Int}{b o k c i:Nat}{d:Option Nat}(h:SH w0 w L)(hi:L[i]?=V (Ch.own S xs [.slice (V ⟨b,o,d⟩) k c])):d=U:=by
 obtain⟨g,_⟩:=h.mem hi;obtain⟨p,l,a,m,n,f⟩:=g;simp only[List.cons.injEq,Value.slice.injEq,and_true] at a;obtain⟨rfl,_,rfl⟩:=a;rcases f with⟨hn,_⟩|⟨b',cur,t,F,hb,_⟩
 .cases hn
 .simp only[Option.some.injEq,Addr.mk.injEq] at hb;exact hb.2.2
theorem quc{S:Nat->Prop}{xs:List Int}{b c i:Nat}(h:SH w0 w L)(hi:L[i]?=V (Ch.own S xs [.slice U b c])):xs=[]/\b=0/\c=0:=by
 obtain⟨g,_⟩:=h.mem hi;obtain⟨n,k,a,l,m,d⟩:=g;simp only[List.cons.injEq,Value.slice.injEq,and_true] at a;obtain⟨rfl,f,rfl⟩:=a;rcases d with⟨_,rfl,rfl⟩|⟨b',cur,t,F,hb,_⟩
 .exact⟨rfl,by simpa using f,rfl⟩
 .cases hb
theorem qxW{f:FuncId}(l:SortsAt P f){S:Nat->Prop}{xs:List Int}{p:Option Addr}{k c:Nat}(i:Nat)(h:SH w0 w L)(hi:L[i]?=V (Ch.own S xs [.slice p k c]))(t:xs.length<=2147483648) :
  RetU P f [.slice p k c] w fun w'=>SH w0 w' (L.set i (Ch.own S (sortI xs) [.slice p k c])):=by
 cases p with
 |none=>
  obtain⟨rfl,rfl,rfl⟩:=quc h hi;refine(l.2 U 0 w).mono ?_;rintro e w' ⟨rfl,rfl⟩;refine⟨rfl,?_⟩;have e1:sortI []=[]:=by simp[sortI]
  rw[e1,qvm hi];exact h
 |some a=>
  obtain⟨b,o,u⟩:=a;obtain rfl:=qsT h hi;obtain⟨rfl,rfl,s,_,g,n⟩:=qrM h hi;refine(l.1 b 0 c xs w n g (by omega)).mono ?_;rintro e w' ⟨rfl,r,os,rfl⟩;refine⟨rfl,?_⟩;have d:(sortI xs).length=xs.length:=List.length_mergeSort _;have:=qux h hi (sortI xs).toArray (by simpa using d) (m:=xs.length) (by simp[d]) r os;rw[List.toList_toArray,<-d,jG,d] at this;exact this
def sortS(xs:List Int):Option (List Int):=if xs.length<=2147483648 then V (sortI xs) else U
theorem qtW{xs y:List Int}(h:sortS xs=V y):xs.length<=2147483648/\sortI xs=y:=by
 unfold sortS at h;split at h
 .rename_i hl;exact⟨hl,Option.some.inj h⟩
 .cases h
def CompactsAt(P:Program)(f:FuncId):Prop:=
 (∀(a off cap:Nat) (d:Array Int) (w:World),Holds encI w a off d->d.size<=9223372036854775807->d.size<=cap ->
  Calls P f #[.slice (V ⟨a,off,U⟩) d.size cap] w fun e w'=>e=.returned (.slice (V ⟨a,off,U⟩) (Go.Lib.compactUpTo d d.size).length cap) /\
   ∃q,w'=putRow encI (Go.Sort.ahead w q) a off (Go.Lib.compactUpTo d d.size++List.replicate (d.size-(Go.Lib.compactUpTo d d.size).length) 0).toArray) /\
 ∀(w:World),Calls P f #[.slice U 0 0] w fun e w'=>e=.returned (.slice U 0 0)/\w'=w
def compI(xs:List Int):List Int:=Go.Lib.compact xs
def compS(xs:List Int):Option (List Int):=V (compI xs)
theorem qtQ{xs y:List Int}(h:compS xs=V y):compI xs=y:=Option.some.inj h
theorem quC{xs:List Int}:(compI xs).length<=xs.length:=by
 unfold compI Go.Lib.compact Go.Lib.compactUpTo;rw[jt];exact jR (List.length_filter_le _ _) (by simp)
theorem qvc{f:FuncId}(i:CompactsAt P f){S:Nat->Prop}{xs:List Int}{p:Option Addr}{g c:Nat}(h:SH w0 w (Ch.own S xs [.slice p g c]::L)):RetT P f [.slice p g c] w w0 L (compI xs):=by
 have hi:(Ch.own S xs [.slice p g c]::L)[0]?=V (Ch.own S xs [.slice p g c]):=rfl;cases p with
 |none=>
  obtain⟨rfl,rfl,rfl⟩:=quc h hi;refine(i.2 w).mono ?_;rintro e w' ⟨rfl,rfl⟩;exact⟨S,U,0,rfl,h⟩
 |some a=>
  obtain⟨b,o,t⟩:=a;obtain rfl:=qsT h hi;obtain⟨rfl,rfl,r,d,n,l⟩:=qrM h hi;have e0:xs.toArray.size=xs.length:=by simp
  have k:Go.Lib.compactUpTo xs.toArray xs.toArray.size=compI xs:=by rw[e0];rfl
  refine(i.1 b 0 c xs.toArray w l (by rw[e0];exact d) (by rw[e0];exact r)).mono ?_;rintro e w' ⟨rfl,q,rfl⟩;rw[k];refine⟨S,V ⟨b,0,U⟩,c,rfl,?_⟩;have s:=quC (xs:=xs);have:=qux h hi (compI xs++List.replicate (xs.toArray.size-(compI xs).length) 0).toArray (by simp;omega) (m:=(compI xs).length) (by simp) q #[];rw[grow_empty,List.toList_toArray,List.take_left] at this;exact this
end
end Go.Fw


namespace Go.Proofs
open Go Go.Fw
theorem Tryz.slices_Sort_at:SortsAt Tryz.prog 71:=⟨fun blk off cap zs w hH hb hs=>Tryz.slices_Sort_any blk off cap zs w hH hb hs,fun p cap w=>Tryz.slices_Sort_none p cap w⟩
theorem Tryz.slices_Compact_at:CompactsAt Tryz.prog 72:=⟨fun blk off cap d w hH hs hc=>Tryz.slices_Compact_any blk off cap d w hH hs hc,fun w=>Tryz.slices_Compact_none none 0 w⟩
end Go.Proofs


namespace Go.Fw
open Go
open Go.RowKit (Below)
section
variable{w0 w w':World}{L:List Ch}{α:Type}[GoT α]
def RAll(w:World)(A:Nat->Prop):List α->List (Raw α)->Prop
 | [],[]=>True
 |x::xs,r::rs=>GoT.R w A x r.cs/\RAll w A xs rs
 |_,_=>False
theorem RAll.at{A:Nat->Prop}:∀{xs:List α} {a:List (Raw α)},RAll w A xs a->xs.length=a.length/\∀(i:Nat) x,xs[i]?=V x->∃r,a[i]?=V r/\GoT.R w A x r.cs
 | [],[],_=>⟨rfl,fun i x h=>by simp at h⟩
 |x::xs,[],h=>h.elim
 | [],r::a,h=>h.elim
 |x::xs,r::a,h=>by
  obtain⟨d,c⟩:=RAll.at h.2;refine⟨by simp[d],fun i y b=>?_⟩;cases i with
  |zero=>simp only[List.getElem?_cons_zero,Option.some.injEq] at b⊢;subst b;exact⟨r,rfl,h.1⟩
  |succ i=>simp only[List.getElem?_cons_succ] at b⊢;exact c i y b
theorem rawsR{A:Nat->Prop}{xs:List α}{k:List (Raw α)}{p:Option Addr}{n c:Nat}(v:GoT.R w A k [.slice p n c])(h:RAll w A xs k):GoT.R w A xs [.slice p n c]:=by
 obtain⟨B,y,f,z,l,m⟩:=v;obtain⟨g,t⟩:=h.at;simp only[List.cons.injEq,Value.slice.injEq,and_true] at f;obtain⟨rfl,rfl,rfl⟩:=f;refine⟨p,c,by rw[g],by omega,l,?_⟩;rcases m with⟨hp,rfl⟩|⟨b,o,cur,T,fr,rfl,hb,hg,hc,hx⟩
 .left;exact⟨hp,List.length_eq_zero_iff.1 g⟩
 .refine .inr ⟨b,o,cur,T,fr,rfl,hb,hg,hc,fun i x hi=>?_⟩;obtain⟨r,d,s⟩:=t i x hi;obtain⟨cs,a,u⟩:=hx i r d;obtain rfl:cs=r.cs:=a.1;exact⟨_,s,u⟩
theorem qwx{A:Nat->Prop}{β:Type}[GoT β]{p:Option Addr}{l c:Nat}:GoT.R w A (⟨[.slice p l c]⟩:Raw (List β)) [.slice p l c]:=
 ⟨rfl,rfl,fun v a=>by
  obtain rfl:v=.slice p l c:=by simpa using a
  rfl⟩
theorem SH.cutS{S:Nat->Prop}{xs y:List α}{p p1:Option Addr}{v c r:Nat}{hi:Int}(i:Nat)(h:SH w0 w L)(m:L[i]?=V (Ch.own S xs [.slice p v c]))(u:subS xs 0 hi=V y)(o:subP (GoT.k α) p c (0:Int).toNat=p1)(k:c-(0:Int).toNat=r) :
  SH w0 w (L.set i (Ch.own S y [.slice p1 y.length r])):=by
 obtain⟨B,C,D,rfl⟩:=qnR u;obtain⟨t,H⟩:=h.mem m;obtain⟨I,A,n,J,z,s⟩:=t;simp only[List.cons.injEq,Value.slice.injEq,and_true] at n;obtain⟨rfl,rfl,rfl⟩:=n;have e0:(0:Int).toNat=0:=rfl;rw[e0] at o k;simp only[Nat.sub_zero] at k;subst k;simp only[e0,List.drop_zero];have l:p1=p:=by
  subst o;unfold subP;split
  .rfl
  .rcases s with⟨rfl,_,_⟩|⟨b,cur,T,F,rfl,_⟩
   .rfl
   .simp[Addr.add]
 subst l;have a:(xs.take hi.toNat).length<=c:=by rw[jM];omega
 refine h.upd m Z Z Z (je _) (fun _ _ _=>rfl) ⟨p1,c,rfl,a,z,?_⟩ (fun b f=>.inl f) (fun _ g=>g.elim);rcases s with⟨rfl,rfl,rfl⟩|⟨b,cur,T,F,rfl,f,hg,hc,hF,g,hx⟩
 .exact .inl ⟨rfl,by simp,rfl⟩
 .refine .inr ⟨b,cur,T,F,rfl,f,hg,hc,hF,g,fun j x d=>?_⟩;rw[jI] at d;split at d
  .exact hx j x d
  .cases d
end
theorem qxE{P:Program}{T:Tab}{n:Nat}{e:Env}{w:World}(i:TabOk P T){x:Operand}{t ty d el:Nat}{ps:String}{h:Array Edge}{g:Option (Nat×Bool)}{f:TE}{p:Option Addr}{l c:Nat}
  (r:opv e x=V (.slice p l c)) (b:T.get t=V f) (m:f.kind=.slice el):Val P n e ⟨V d,.call ⟨.builtin .cap,#[x],#[t]⟩,ty,ps,h,g⟩ w (.int .i64 c):=by
 intro a k;have o:=qd3 (i _ _ b) m;unfold execOp;simp[resolve,invoke,builtin,jk,jm,jh,k.eval r,Builtin.cap_,run_underlying o,goInt]
end Go.Fw


namespace Go.Fw
open Go
theorem qtj:∀{a b:List Int},a.Pairwise (·<·)->b.Pairwise (·<·)->(∀x,x∈a↔x∈b)->a=b:=by
 intro a
 induction a with
 |nil=>
  intro b _ _ h;cases b with
  |nil=>rfl
  |cons y b=>exact absurd ((h y).2 (js ..)) (by simp)
 |cons x a ih=>
  intro b g i h;cases b with
  |nil=>exact absurd ((h x).1 (js ..)) (by simp)
  |cons y b=>
   rw[List.pairwise_cons] at g i;have k:x=y:=by
    have c:=(h x).1 (js ..);have d:=(h y).2 (js ..);rcases List.mem_cons.1 c with c|c
    .exact c
    .rcases List.mem_cons.1 d with d|d
     .exact d.symm
     .have:=i.1 x c;have:=g.1 y d;omega
   subst k
   congr 1
   refine ih g.2 i.2 fun z=>?_;constructor
   .intro f;rcases List.mem_cons.1 ((h z).1 (jp _ f)) with e|hz'
    .have:=g.1 z f;omega
    .exact hz'
   .intro f;rcases List.mem_cons.1 ((h z).2 (jp _ f)) with e|hz'
    .have:=i.1 z f;omega
    .exact hz'
theorem qpJ{q:Nat->Bool}{m:Nat}:(ints (selN q m)).Pairwise (·<·):=by
 unfold ints selN;rw[List.pairwise_map];refine List.Pairwise.filter _ ?_;have:=List.pairwise_lt_range (n:=m);exact this.imp fun h=>by omega
theorem qhN{l:List Nat}{x:Int}:x∈ints l↔∃k,k∈l/\(k:Int)=x:=by unfold ints;rw[List.mem_map]
theorem qw6{d:Array Int}(n:∀i j,i<j->j<d.size->d[i]!<=d[j]!):∀m,m<=d.size ->
  ((Go.Lib.compactUpTo d m).Pairwise (·<·)/\(∀x,x∈Go.Lib.compactUpTo d m↔∃j,j<m/\d[j]! = x)):=by
 intro m
 induction m with
 |zero=>
  intro _;refine⟨by simp[Go.Lib.compactUpTo],fun x=>?_⟩;simp[Go.Lib.compactUpTo]
 |succ m ih=>
  intro r;obtain⟨k,c⟩:=ih (by omega);rw[Go.Lib.compactUpTo_succ];cases hk:Go.Lib.keeps d m with
  |true=>
   simp only[if_true];refine⟨?_,fun x=>?_⟩
   .rw[List.pairwise_append];refine⟨k,by simp,fun x g y p=>?_⟩;obtain rfl:y=d[m]!:=by simpa using p
    obtain⟨j,b,rfl⟩:=(c x).1 g;have a:m=0\/d[m]!≠d[m-1]!:=by simpa [Go.Lib.keeps] using hk
    have l:d[m]!≠d[m-1]!:=by
     rcases a with h|h
     .omega
     .exact h
    have a1:d[j]!<=d[m-1]!:=by
     rcases Nat.lt_or_ge j (m-1) with h|h
     .exact n j (m-1) h (by omega)
     .have:j=m-1:=by omega
      subst this;exact jU _
    have a2:=n (m-1) m (by omega) (by omega);omega
   .rw[List.mem_append,c];constructor
    .rintro(⟨j,b,rfl⟩|g)
     .exact⟨j,by omega,rfl⟩
     .exact⟨m,by omega,by simpa using Eq.symm (by simpa using g)⟩
    .rintro⟨j,b,rfl⟩;rcases Nat.lt_or_ge j m with h|h
     .exact .inl ⟨j,h,rfl⟩
     .have:j=m:=by omega
      subst this;exact .inr (by simp)
  |false=>
   simp only[Bool.false_eq_true,if_false,jY];refine⟨k,fun x=>?_⟩;rw[c];have a:¬ (m=0\/d[m]!≠d[m-1]!):=by simpa [Go.Lib.keeps] using hk
   have o:m≠0:=fun h=>a (.inl h);have f:d[m]! = d[m-1]!:=Classical.byContradiction fun h=>a (.inr h);constructor
   .rintro⟨j,b,rfl⟩;exact⟨j,by omega,rfl⟩
   .rintro⟨j,b,rfl⟩;rcases Nat.lt_or_ge j m with h|h
    .exact⟨j,h,rfl⟩
    .have:j=m:=by omega
     subst this;exact⟨j-1,by omega,f.symm⟩
theorem qqz{xs:List Int}:(compI (sortI xs)).Pairwise (·<·)/\∀x,x∈compI (sortI xs)↔x∈xs:=by
 have d:(sortI xs).Pairwise (fun x y=>decide (x<=y)=true):=List.pairwise_mergeSort (fun a b c k l=>by simp only[decide_eq_true_eq] at *;omega) (fun a b=>by simp only[Bool.or_eq_true,decide_eq_true_eq];omega) xs;have n:∀i j,i<j->j<(sortI xs).toArray.size->(sortI xs).toArray[i]!<=(sortI xs).toArray[j]!:=fun i j g f=>by
  have h:j<(sortI xs).length:=by simpa using f
  have:=List.pairwise_iff_getElem.1 d i j (by omega) h g;simp only[decide_eq_true_eq] at this;rw[getElem!_pos _ j f,getElem!_pos _ i (by omega)];simpa using this
 obtain⟨k,l⟩:=qw6 n (sortI xs).toArray.size (je _);have e:compI (sortI xs)=Go.Lib.compactUpTo (sortI xs).toArray (sortI xs).toArray.size:=by unfold compI Go.Lib.compact;simp
 rw[e];refine⟨k,fun x=>?_⟩;rw[l];have m:(sortI xs).Perm xs:=List.mergeSort_perm _ _;rw[<-m.mem_iff];constructor
 .rintro⟨j,f,rfl⟩;rw[getElem!_pos _ j f];simp
 .intro o;obtain⟨j,f,rfl⟩:=List.mem_iff_getElem.1 o;exact⟨j,by simpa using f,by rw[getElem!_pos _ j (by simpa using f)];simp⟩
theorem qt6{q r:Nat->Bool}{m:Nat}:compI (sortI (ints (selN q m)++ints (selN r m)))=ints (selN (fun k=>q k || r k) m):=by
 refine qtj qqz.1 qpJ fun x=>?_;rw[qqz.2,List.mem_append,qhN,qhN,qhN];simp only[qcd,Bool.or_eq_true];constructor
 .rintro(⟨k,⟨h1,h2⟩,rfl⟩|⟨k,⟨h1,h2⟩,rfl⟩)
  .exact⟨k,⟨h1,.inl h2⟩,rfl⟩
  .exact⟨k,⟨h1,.inr h2⟩,rfl⟩
 .rintro⟨k,⟨h1,h2|h2⟩,rfl⟩
  .exact .inl ⟨k,⟨h1,h2⟩,rfl⟩
  .exact .inr ⟨k,⟨h1,h2⟩,rfl⟩
end Go.Fw


namespace Go.Fw
open Go
open Go.RowKit (Below)
section
variable{P:Program}{T:Tab}{n:Nat}{Q:Exit->Act->World->Prop}{k:List It}{e:Env}{w0 w:World}{L:List Ch}
variable{α:Type}[GoT α]{S S1:Nat->Prop}{xs ys:List α}{p p':Option Addr}{c c':Nat}
end
section
variable{α β γ:Type}
def Emp(o:Option (List α)):Prop:=∀r,o=V r->r=[]
theorem Emp.none:Emp (U:Option (List α)):=fun _ h=>by cases h
theorem Emp.noneB{f:β->Option (List α)}:Emp ((Option.none:Option β).bind f):=fun _ h=>by cases h
theorem Emp.nil:Emp (V ([]:List α)):=fun _ h=>(Option.some.inj h).symm
theorem Emp.bif{c:Bool}{a b:Option (List α)}(d:Emp a)(f:Emp b):Emp (bif c then a else b):=by cases c<;>assumption
theorem Emp.sub{xs:List β}{lo:Int}{f:List β->Option (List α)}(h:Emp (f [])):Emp ((subS xs lo ((0:Nat):Int)).bind f):=fun r a=>by
 cases hs:subS xs lo ((0:Nat):Int) with
 |none=>rw[hs] at a;cases a
 |some y=>
  rw[hs] at a;obtain⟨_,_,_,e⟩:=qnR hs;have:y=[]:=by rw[<-e];simp
  subst this;exact h r a
theorem Emp.bind{x:Option β}{f:β->Option (List α)}(h:∀y,Emp (f y)):Emp (x.bind f):=by
 cases x with
 |none=>exact Emp.noneB
 |some y=>exact h y
end
end Go.Fw


namespace Go.Fw
open Go
section
variable{ε:Type}
variable{ρ σ τ:Type}
end

theorem qrA{q a:Nat->Bool}{m:Nat}:(selN q m).length<=(selN (fun k=>q k || a k) m).length:=by
 unfold selN
 induction List.range m with
 |nil=>simp
 |cons x l ih=>
  rw[List.filter_cons,List.filter_cons];cases hq:q x
  .cases a x
   .simpa using ih
   .simp only[Jj,if_true,Bool.false_eq_true,if_false,Ja];omega
  .simp only[Bool.true_or,if_true,Ja];omega
end Go.Fw


namespace Go.Fw
open Go
open Go.RowKit (Below)
structure Same where
 w:World
 K:Nat->Prop
instance instSame:GoT Same where
 k:=1
 agg:=false
 zero:=⟨default,fun _=>False⟩
 zc:=[.bool true]
 R w S x cs:=cs=[.bool true]/\∀b,x.K b->S b/\w.heap[b]?=x.w.heap[b]?
 O w S x cs:=cs=[.bool true]/\∀b,x.K b->S b/\w.heap[b]?=x.w.heap[b]?
 kpos:=by decide
 noagg _:=rfl
 len h:=by obtain⟨rfl,_⟩:=h;rfl
 one h:=by obtain⟨rfl,_⟩:=h;simp[Value.oneCell']
 loc h hs:=⟨h.1,fun b hb=>⟨(h.2 b hb).1,(hs b (h.2 b hb).1).trans (h.2 b hb).2⟩⟩
 mono h hs:=⟨h.1,fun b hb=>⟨hs b (h.2 b hb).1,(h.2 b hb).2⟩⟩
 toR h:=h
 locO h hs:=⟨h.1,fun b hb=>⟨(h.2 b hb).1,(hs b (h.2 b hb).1).trans (h.2 b hb).2⟩⟩
 monoO h hs:=⟨h.1,fun b hb=>⟨hs b (h.2 b hb).1,(h.2 b hb).2⟩⟩
 zO _ _:=⟨rfl,fun _ h=>h.elim⟩
def FS(F:List Ch)(b:Nat):Prop:=∃d,d∈F/\d.S b
abbrev Fr(w0:World)(F:List Ch)(b:Nat):Prop:=FS F b\/old w0 b
abbrev same(w0 w:World)(F:List Ch):Fct:=fct (⟨w,Fr w0 F⟩:Same) [.bool true]
section
variable{P:Program}{T:Tab}{n:Nat}{Q:Exit->Act->World->Prop}{k:List It}{e:Env}{w0 w w':World}{L L' F:List Ch}
theorem SH.frame(L:List Ch)(h:SH w0 w (L++F)):SH w0 w (L++[Ch.grp (Fw.old w0) (FS F) [same w0 w F]]):=by
 have l:=List.pairwise_append.1 h.apart;refine⟨h.below,fun c a=>?_,fun c a=>?_,List.pairwise_append.2 ⟨l.1,List.pairwise_singleton ..,fun c a d i b g=>?_⟩⟩
 .rcases List.mem_append.1 a with a|a
  .exact h.holds c (jP _ a)
  .obtain rfl:=List.mem_singleton.1 a;refine⟨fun f m=>?_,fun b g=>?_⟩
   .obtain rfl:=List.mem_singleton.1 m;exact⟨rfl,fun b g=>⟨g,rfl⟩⟩
   .obtain⟨d,i,g⟩:=g;exact(h.holds d (Jc _ i)).2 b g
 .rcases List.mem_append.1 a with a|a
  .exact h.elder c (jP _ a)
  .obtain rfl:=List.mem_singleton.1 a;exact fun b g=>g
 .obtain rfl:=List.mem_singleton.1 i;rintro⟨d,i,k⟩;exact l.2.2 c a d i b g k
theorem SH.unframe{L0:List Ch}{fs:List Fct}(j:Nat)(g:SH w0 w (L0++F))(L':List Ch)(h:SH w0 w' (L'++[Ch.grp (Fw.old w0) (FS F) fs]))(r:fs[j]?=V (same w0 w F)):SH w0 w' (L'++F):=by
 have m:=List.pairwise_append.1 h.apart;have k:=List.pairwise_append.1 g.apart;have l:=h.holds (Ch.grp (Fw.old w0) (FS F) fs) (Jc _ (List.mem_singleton.2 Z));have n:∀b,Fr w0 F b->w'.heap[b]?=w.heap[b]?:=fun b f=>((l.1 _ (jE r)).2 b f).2;refine⟨h.below,fun c a=>?_,fun c a=>?_,List.pairwise_append.2 ⟨m.1,k.2.1,fun c a d p b f i=>?_⟩⟩
 .rcases List.mem_append.1 a with a|a
  .exact h.holds c (jP _ a)
  .obtain⟨o,s⟩:=g.holds c (Jc _ a);exact⟨c.loc w w' (fun b f=>n b (.inl ⟨c,a,f⟩)) (fun b f=>n b (.inr (g.elder c (Jc _ a) b f))) o,fun b f=>l.2 b ⟨c,a,f⟩⟩
 .rcases List.mem_append.1 a with a|a
  .exact h.elder c (jP _ a)
  .exact g.elder c (Jc _ a)
 .exact m.2.2 c a _ (List.mem_singleton.2 Z) b f ⟨d,p,i⟩
variable{α:Type}[GoT α]{x:α}{cs:List Value}{S D:Nat->Prop}{fs:List Fct}
theorem SH.frB{c:Ch}(i m:Nat)(hi:L[i]?=V c)(d:Nat.ble m i=true):∀b,c.S b->FS (L.drop m) b:=fun b a=>by
 have f:=jr d;refine⟨c,jE (i:=i-m) ?_,a⟩;rw[List.getElem?_drop,show m+(i-m)=i by omega];exact hi
theorem SH.frG(i j m:Nat)(h:SH w0 w L)(hi:L[i]?=V (Ch.grp D S fs))(c:fs[j]?=V (fct x cs))(d:Nat.ble m i=true):GoT.R w (Fr w0 (L.drop m)) x cs:=
 GoT.mono (h.grpS i j hi c) fun b a=>a.elim (fun a=>.inl (SH.frB i m hi d b a)) fun a=>.inr (h.elder _ (jE hi) b a)
theorem SH.frOldS{F:List Ch}{xs:List α}{p:Option Addr}{c:Nat}(h:SH w0 w L)(d:SlR w0 (Fw.old w0) xs p c):SlR w (Fr w0 F) xs p c:=
 (d.loc fun b a=>h.below.block b a).mono fun _ a=>.inr a
def RetW(P:Program)(f:FuncId)(a:List Value)(w:World)(J:List Value->World->Prop):Prop:=
 Calls P f a.toArray w fun e w'=>∃us,e=.returned (tup us)/\J us w'
theorem qa2{J:List Value->World->Prop}{all:Array Oper}{l:List Oper}{d ty:Nat}{ps:String}{u:Array Edge}{x:Operand}{c:Array Operand}{m:Array TypeId}{f:FuncId}{s r:Array Value}{p t:List Value}
  (i:qfd P f) (z:RetW P f t w J) (C:opv e x=V (.func (.func f) s r)) (g:opvs e c.toList=V p) (o:s.toList++p++r.toList=t) (B:Nat.blt d n=true)
  (A:∀w' b,J b w'->Run P n Q (.ops all l::k) ((d,tup b)::e) w'):Run P n Q (.ops all (⟨V d,.call ⟨.value x,c,m⟩,ty,ps,u,U⟩::l)::k) e w:=by
 subst o;refine qmp (R:=fun v w'=>∃b,v=tup b/\J b w') Z Z B (fun a y=>qiL y i C g w) (z.mono ?_) ?_
 .rintro e w' ⟨b,rfl,h⟩;exact⟨_,rfl,b,rfl,h⟩
 .rintro v w' ⟨b,rfl,h⟩;exact A w' b h
theorem qbh{J:List Value->World->Prop}{f:FuncId}{b:Func}{c:Code}{a:List Value}{m:Nat}(o:P.funcs[f]?=V b)(n:b.body=V c)(p:b.ntmps=m)(r:Nat.ble a.length m=true)
  (h:Run P m (bodyPost P b fun e w'=>∃us,e=.returned (tup us)/\J us w') [.code c] (argEnv 0 a) w):RetW P f a w J:=by
 subst p;have s:=jr r;refine calls_of_wp o n ?_;have g:Agree b.ntmps (argEnv 0 a) { tmps:=a.toArray++Array.replicate (b.ntmps-a.toArray.size) undef,defers:=[] }:=by
  refine⟨rfl,by simp;omega,fun i v hi=>?_⟩;obtain⟨_,d⟩:=qiC a 0 i v hi;simp only[Nat.sub_zero] at d;have k:=(List.getElem?_eq_some_iff.1 d).1;rw[jB (by simpa using k)];simpa using d
 have l:=h _ g;refine wp_mono l ?_;intro ex u w' t;cases ex<;>exact t
theorem qaR{J:List Value->World->Prop}(d:TabOk P T){b:Func}(a:List Value)(f:ResOk T e w b.results.toList a)(h:J a w) :
  Run P n (bodyPost P b fun e w'=>∃a,e=.returned (tup a)/\J a w') (.code .ret::k) e w:=
 qrI fun _ c=>⟨c.defers,tup a,qgQ d c f,a,rfl,h⟩
end
section
open Go.ChangeShapes Go.RowKit
variable{H:Type}{enc:TypeId×Value->H}{P:Program}{w:World}{base:Nat}{spare:Nat->Bool}{held:Bool}
end

section
variable{P:Program}{T:Tab}{n:Nat}{Q:Exit->Act->World->Prop}{k:List It}{e:Env}{w0 w w':World}{L:List Ch}
variable{α β:Type}[GoT α][GoT β]{S Sr Se D:Nat->Prop}{xs ys:List α}{p p':Option Addr}{c c':Nat}{fs:List Fct}{x:α}{cs:List Value}
theorem RAll.loc{A:Nat->Prop}:∀{xs:List α} {a:List (Raw α)},RAll w A xs a->(∀b,A b->w'.heap[b]?=w.heap[b]?)->RAll w' A xs a
 | [],[],_,_=>trivial
 |_::_,[],h,_=>h.elim
 | [],_::_,h,_=>h.elim
 |_::_,_::_,h,hb=>⟨GoT.loc h.1 hb,RAll.loc h.2 hb⟩
theorem RAll.mono{A B:Nat->Prop}(a:∀b,A b->B b):∀{xs:List α} {c:List (Raw α)},RAll w A xs c->RAll w B xs c
 | [],[],_=>trivial
 |_::_,[],h=>h.elim
 | [],_::_,h=>h.elim
 |_::_,_::_,h=>⟨GoT.mono h.1 a,RAll.mono a h.2⟩
theorem RAll.app{A:Nat->Prop}:∀{xs:List α} {b:List (Raw α)} {ys:List α} {a:List (Raw α)},RAll w A xs b->RAll w A ys a->RAll w A (xs++ys) (b++a)
 | [],[],_,_,_,h=>h
 |_::_,[],_,_,h,_=>h.elim
 | [],_::_,_,_,h,_=>h.elim
 |_::_,_::_,_,_,h,h'=>⟨h.1,RAll.app h.2 h'⟩
theorem RAll.of{A:Nat->Prop}:∀{xs:List α} {a:List (Raw α)},xs.length=a.length->(∀(i:Nat) (x:α) (r:Raw α),xs[i]?=V x->a[i]?=V r->GoT.R w A x r.cs)->RAll w A xs a
 | [],[],_,_=>trivial
 |_::_,[],h,_=>by cases h
 | [],_::_,h,_=>by cases h
 |x::xs,r::a,h,ha=>⟨ha 0 x r Z Z,RAll.of (by simpa using h) fun i y q c b=>ha (i+1) y q (by simpa using c) (by simpa using b)⟩
theorem RAll.len{A:Nat->Prop}{a:List (Raw α)}(h:RAll w A xs a):xs.length=a.length:=h.at.1
theorem SH.frzI(i:Nat)(h:SH w0 w L)(hi:L[i]?=V (Ch.own S x cs)):SH w0 w (L.set i (Ch.grp (fun _=>False) S [fct x cs])):=
 h.say hi (fun g f d=>by
  obtain rfl:=List.mem_singleton.1 d;have a:GoT.O w S x cs:=g;exact GoT.mono (S':=fun b=>S b\/False) (x:=x) (cs:=cs) (GoT.toR a) (fun b c=>.inl c)) (fun _ h=>h) (fun _ h=>h.elim)
end
end Go.Fw


namespace Go.Fw
open Go
def rng8(x:IntK .u8):Prop:=0<=x.val/\x.val<=255
theorem qwa{P:Program}{t:TypeId}(c:P.underlying t=V (.int .u8))(b:P.cellsOf t=1):Opens P t (gt_IntK (kd:=.u8)) rng8:=
 ⟨b,fun h=>by
  obtain⟨n,rfl,_,a⟩:=DataW.trod_int c h;exact⟨⟨n⟩,rfl,by simp only[Lit.wf,IntKind.min,IntKind.max,jf] at a;simp[IntKind.bits,IntKind.signed] at a;unfold rng8;simp only;omega⟩⟩
end Go.Fw


namespace Go.Fw
open Go
open Go.RowKit (Below)
section
variable{P:Program}{T:Tab}{n:Nat}{Q:Exit->Act->World->Prop}{k:List It}{e:Env}{w0 w w':World}{L:List Ch}
theorem qqr{z:Array Value}{m:Nat}:Builtin.zeroCells z m=madeCells z (m*z.size):=rfl
theorem qpc(t s ty el:TypeId)(A:IntKind)(i:TypeInfo)(z:Value)(v:P.underlying t=V (.slice el))(p:P.underlying s=V (.int A))(hi:P.info? el=V i)(y:i.zero=V z)(n:0<i.size)
  (kd:IntKind) (m:Nat) (u:0<m) (c:m<=big) (r:m*i.bytes<=281474976710656) :
  (Builtin.append_ #[t,s] ty #[.slice U 0 0,.int kd (m:Int)]).run P w =
   .ok (.slice (V ⟨w.heap.size,0,U⟩) m (grownCap w m 0 el))
    (w.drew.alloc (.cells (Builtin.zeroCells z.cells m++Builtin.zeroCells z.cells (grownCap w m 0 el-m)) el)):=by
 unfold big at c;have x:IntKind.i64.wrap (m:Int)=(m:Int):=by
  rw[Go.IntWalk.i64_left];exact Go.IntWalk.wrap64_in _ ⟨by omega,by omega⟩
 have d:¬ ((m:Int)<0):=by omega
 have f:¬ (281474976710656<(m:Int)*(i.bytes:Int)):=by
  have:((m*i.bytes:Nat):Int)<=281474976710656:=by omega
  rw[Int.natCast_mul] at this;omega
 have g:¬ (m*i.size=0):=Nat.ne_of_gt (Nat.mul_pos u n);have k:¬ (m=0):=by omega
 have o:¬ (i.size=0):=by omega
 have l:Builtin.nextslicecap m 0=m:=by simp[Builtin.nextslicecap];omega
 have b:¬ (9223372036854775807<(m:Int)):=by omega
 have a:¬ (281474976710656<m*i.bytes):=by omega
 simp[Builtin.append_,run_underlying v,run_underlying p,sizeOf,typeInfo,zeroValue,hi,y,asInt,asIntOf,x,d,f,k,o,b,l,a,Question.forced,newRow,grownCap,Builtin.firstCells];intro h;exact absurd h g
theorem qx3(O:TabOk P T)(α:Type)[GoT α]{all:Array Oper}{l:List Oper}{d t M ty el:Nat}{ps:String}{af:Array Edge}{te o J:TE}{x y:Operand}{kd k2:IntKind}{u:Int}{N:Value}{z:List α}
  (h:SH w0 w L) (hx:opv e x=V (.slice U 0 0)) (hy:opv e y=V (.int kd u)) (a8:T.get t=V te) (hk:te.kind=.slice el) (a7:T.get M=V J) (a4:J.kind=.int k2) (X:T.get el=V o) (hz:o.zero=V N) (b4:cellsL N=GoT.zc α) (a6:o.size=GoT.k α)
  (B:Nat.ble o.bytes 65536=true) (h0:0<=u) (b7:u<=big) (a9:List.replicate u.toNat (GoT.zero:α)=z) (hn:Nat.blt d n=true)
  (s:∀w' S p c,SH w0 w' (Ch.own S z [.slice p z.length c]::L)->Run P n Q (.ops all l::k) ((d,.slice p z.length c)::e) w') :
  Run P n Q (.ops all (⟨V d,.call ⟨.builtin .append,#[x,y],#[t,M]⟩,ty,ps,af,U⟩::l)::k) e w:=by
 subst a9;obtain⟨m,rfl⟩:∃m:Nat,u=(m:Int):=⟨u.toNat,by omega⟩;rw[jq,jH] at s;have g:m<=big:=by omega
 obtain⟨i,hi,hs,hby,b5⟩:=qgD (O _ _ X);have hb':=jr B;have I:=qd3 (O _ _ a8) hk;have D:=qpk (O _ _ a7) a4;have b6:N.cells=(GoT.zc α).toArray:=by rw[<-b4,<-qdW]
 have f:(GoT.zc α).length=GoT.k α:=GoT.len (GoT.toR (GoT.zO w (fun _=>False) (α:=α)));have a5:0<i.size:=by rw[hs,a6];exact GoT.kpos
 rcases Nat.eq_zero_or_pos m with rfl|hm
 .have K:(Builtin.append_ #[t,M] ty #[.slice U 0 0,.int kd ((0:Nat):Int)]).run P w=.ok (.slice U 0 0) w:=by
   have hw:IntKind.i64.wrap (0:Int)=0:=rfl;simp[Builtin.append_,run_underlying I,run_underlying D,sizeOf,typeInfo,hi,asInt,asIntOf,hw]
  refine qnc (v:=.slice U 0 0) (w':=w) Z Z hn (fun a A=>?_) (s w (fun _=>False) U 0 (h.add (Below.refl _ _) ?_ (fun _ B=>B.elim) (fun _ W=>W.elim)))
  .simp only[execOp,resolve,invoke,builtin,jk,jm,jh,List.map_toArray,Ji,List.map_nil,A.eval hx,A.eval hy,K]
  .exact⟨U,0,by simp,by simp,by simp,.inl ⟨rfl,by simp,rfl⟩⟩
 .have C:m*i.bytes<=281474976710656:=by
   have:m*i.bytes<=2147483648*65536:=Nat.mul_le_mul g (by omega);omega
  have K:=qpc (P:=P) (w:=w) t M ty el k2 i N I D hi (b5.trans hz) a5 kd m hm g C;have a3:=grownCap_ge w m 0 el;have R:=grownCap_le_maxLen w m 0 el (by unfold big at g;simp[maxLen];omega);rw[b6] at K;refine qnc (v:=.slice (V ⟨w.heap.size,0,U⟩) m (grownCap w m 0 el)) Z Z hn (fun a A=>?_) (s _ (fun b=>b=w.heap.size) _ _ (h.add (w':=w.drew.alloc (.cells (Builtin.zeroCells (GoT.zc α).toArray m++Builtin.zeroCells (GoT.zc α).toArray (grownCap w m 0 el-m)) el)) ?_ ?_ ?_ (fun _ W=>W.elim)))
  .simp only[execOp,resolve,invoke,builtin,jk,jm,jh,List.map_toArray,Ji,List.map_nil,A.eval hx,A.eval hy,K]
  .exact(Below.refl _ w).drew.alloc (je _) _
  .refine⟨V ⟨w.heap.size,0,U⟩,_,by simp,by simpa using a3,R,.inr ⟨w.heap.size,_,el,fun _ _=>False,rfl,rfl,heap_alloc_new w.drew _,?_,?_,?_,?_⟩⟩
   .simp only[Array.size_append,size_zeroCells,jO,f,<-Nat.add_mul]
    congr 1
    omega
   .intro _ _ Y;exact Y.elim
   .intro _ _ _ _ Y;exact Y.elim
   .intro j x F;rw[List.getElem?_replicate] at F;split at F
    .rename_i hlt
     simp only[Option.some.injEq] at F;subst F;refine⟨_,GoT.zO _ _,fun r v H=>?_⟩;have:=qoG (z:=GoT.zc α) (m:=m) (i:=j) (j:=r) (v:=v) (by rw[f];exact GoT.kpos) hlt H;rw[f] at this;rw[jB (by rw[size_zeroCells,jO,f];have h1:=(List.getElem?_eq_some_iff.1 H).1;rw[f] at h1;have:=qld (m:=GoT.k α) hlt;omega),qqr,jO,f];exact this
    .cases F
  .intro b B;have:b=w.heap.size:=B;subst this;exact⟨je _,by simp⟩
end

section
variable{P:Program}{T:Tab}{n:Nat}{e:Env}{w:World}
def b3(a0:Bool)(a1 a2 a:Int):Array Value:=#[.bool a0,.int .i64 a1,.int .i64 a2,.int .i64 a]
end
end Go.Fw


namespace Go.Fw
open Go
section
variable{P:Program}{T:Tab}{n:Nat}{e:Env}{w:World}
theorem qsn{x y:Operand}{t l d ty:Nat}{ps:String}{c:Array Edge}{g:Option (Nat×Bool)}{a b r:Int}(f:b≠0)(h:a.tmod b=r)
  (i:opv e x=V (.int .i64 a)) (k:opv e y=V (.int .i64 b)):Val P n e ⟨V d,.binOp .rem t x y l,ty,ps,c,g⟩ w (.int .i64 r):=h ▸ qvW f i k
end
end Go.Fw


namespace Go.Fw
open Go
open Go.RowKit (Below)
section
variable{P:Program}{T:Tab}{n:Nat}{Q:Exit->Act->World->Prop}{k:List It}{e:Env}{w0 w w':World}{L:List Ch}
variable{α β:Type}[GoT α][GoT β]{S Sr Se D:Nat->Prop}{xs ys:List α}{p p':Option Addr}{c c':Nat}{fs:List Fct}{x:α}{cs:List Value}
end
end Go.Fw


namespace Go.Fw
abbrev bs0:ByteArray:=⟨#[100]⟩
abbrev bs3:ByteArray:=⟨#[102,97,115,116]⟩
abbrev bs8:ByteArray:=⟨#[110,97]⟩
abbrev bs9:ByteArray:=⟨#[110,98]⟩
abbrev bs10:ByteArray:=⟨#[110,99,107]⟩
abbrev bs11:ByteArray:=⟨#[113]⟩
abbrev bs12:ByteArray:=⟨#[115,108,111,119]⟩
abbrev bs13:ByteArray:=⟨#[116,121,112]⟩
abbrev bs15:ByteArray:=⟨#[121]⟩
abbrev bs16:ByteArray:=⟨#[122]⟩
abbrev bs17:ByteArray:=⟨#[97]⟩
abbrev bs19:ByteArray:=⟨#[98]⟩
abbrev bs20:ByteArray:=⟨#[99,107]⟩
abbrev bs21:ByteArray:=⟨#[99]⟩
abbrev zl1:List Value:=[vi 0,vi 0,vi 0,vi 0,.slice U 0 0,.slice U 0 0]
abbrev zl2:List Value:=[vi 0,vi 0,vi 0,vi 0,vi 0]
abbrev zl3:List Value:=[.slice U 0 0,.slice U 0 0,.slice U 0 0]
abbrev zl5:List Value:=[.string ByteArray.empty,vi 0,.slice U 0 0,.slice U 0 0,.slice U 0 0,vi 0,vi 0]
abbrev zl6:List Value:=[.slice U 0 0,.slice U 0 0,.slice U 0 0,.slice U 0 0]
abbrev zl7:List Value:=[.slice U 0 0,.slice U 0 0,.slice U 0 0,.slice U 0 0,.slice U 0 0]
abbrev zl8:List Value:=[.string ByteArray.empty,vi 0,vi 0,vi 0,vi 0]
open Go Go.Proofs Go.Proofs.Tryz
open Go.RowKit (Below)
open Ch renaming own->oW,box->oX,grp->oG
open GoT renaming v->oV
open Go.Value renaming slice->oS
set_option maxRecDepth 100000
set_option maxHeartbeats 6400000
variable{n:Nat}{w:World}{S:Nat->Prop}{cs1 cs2 cs3 cs4 cs5 cs6 cs7 cs8 cs9:List Value}
structure qaB where
 Ba:ByteArray
 Bs:Int
 Bl:Int
 Bo:Bool
instance gt_TPin:GoT qaB:=isoT (pairT instStr (pairT instInt (pairT instInt instBool))) (fun x=>(x.Ba,x.Bs,x.Bl,x.Bo)) ⟨ByteArray.empty,0,0,false⟩ Z true (fun h=>by cases h)
instance fl_TPin:Flat qaB:=qfN (pairT instStr (pairT instInt (pairT instInt instBool))) (fun x:qaB=>(x.Ba,x.Bs,x.Bl,x.Bo)) ⟨ByteArray.empty,0,0,false⟩ Z true (fun h=>by cases h) (qaP _ _ (inferInstanceAs (Flat ByteArray)) (qaP _ _ (inferInstanceAs (Flat Int)) (qaP _ _ (inferInstanceAs (Flat Int)) (inferInstanceAs (Flat Bool)))))
abbrev qqq(x:qaB):List Value:=[.string x.Ba,vi x.Bs,vi x.Bl,.bool x.Bo]
theorem qfG{x:qaB}{cs:List Value}(h:GoT.R w S x cs):cs=(qqq x):=by
 obtain⟨_,_,rfl,rfl,⟨_,_,rfl,rfl,⟨_,_,rfl,rfl,rfl⟩⟩⟩:=h;exact Z
theorem qlS(x:qaB):GoT.R w S x (qqq x):=have h:=pR (rT x.Ba) (pR (rI x.Bs) (pR (rI x.Bl) (rB x.Bo)));h
structure qS where
 Bj:(List Int)
 Be:(List Int)
 Az:(List Int)
instance gt_TTable:GoT qS:=isoT (pairT (@instList Int instInt) (pairT (@instList Int instInt) (@instList Int instInt))) (fun x=>(x.Bj,x.Be,x.Az)) ⟨[],[],[]⟩ Z true (fun h=>by cases h)
abbrev qfh(x:qS)(p0 p1 p2:Option Addr)(k0 k1 k2:Nat):List Value:=[oS p0 (x.Bj).length k0,oS p1 (x.Be).length k1,oS p2 (x.Az).length k2]
theorem qcz{x:qS}{cs:List Value}(h:GoT.R w S x cs):∃d a p1 b f c,cs=(qfh x d p1 f a b c)/\SlR w S x.Bj d a/\SlR w S x.Be p1 b/\SlR w S x.Az f c:=by
 obtain⟨_,_,rfl,⟨d,a,rfl,s0⟩,⟨_,_,rfl,⟨p1,b,rfl,s1⟩,⟨f,c,rfl,s2⟩⟩⟩:=h;exact⟨d,a,p1,b,f,c,rfl,s0,s1,s2⟩
theorem qjB(x:qS){d p1 f:Option Addr}{a b c:Nat}(s0:SlR w S x.Bj d a)(s1:SlR w S x.Be p1 b)(s2:SlR w S x.Az f c):GoT.R w S x (qfh x d p1 f a b c):=have h:=pR (rS s0) (pR (rS s1) (rS s2));h
theorem qvb{w0:World}{L:List Ch}(x:qS){I0 I1 I2:List Nat}{a c1 b:List Value}(h:SH w0 w L)(c:PO w L I0 x.Bj a)(d:PO w L I1 x.Be c1)(f:PO w L I2 x.Az b)(b0:apartB I0 (I1++I2)=true)(b1:apartB I1 I2=true):PO w L (I0++(I1++I2)) x (a++(c1++b)):=
 (qcW h c (qcW h d f b1) b0)
structure qaF where
 Au:Int
 Bd:Int
 To:Int
 Bk:Int
 Bn:(List qS)
 Av:(List qS)
instance gt_TArc:GoT qaF:=isoT (pairT instInt (pairT instInt (pairT instInt (pairT instInt (pairT (@instList qS gt_TTable) (@instList qS gt_TTable)))))) (fun x=>(x.Au,x.Bd,x.To,x.Bk,x.Bn,x.Av)) ⟨0,0,0,0,[],[]⟩ Z true (fun h=>by cases h)
abbrev qen(x:qaF)(p0 p1:Option Addr)(k0 k1:Nat):List Value:=[vi x.Au,vi x.Bd,vi x.To,vi x.Bk,oS p0 (x.Bn).length k0,oS p1 (x.Av).length k1]
theorem qaJ{x:qaF}{cs:List Value}(h:GoT.R w S x cs):∃c a p1 b,cs=(qen x c p1 a b)/\SlR w S x.Bn c a/\SlR w S x.Av p1 b:=by
 obtain⟨_,_,rfl,rfl,⟨_,_,rfl,rfl,⟨_,_,rfl,rfl,⟨_,_,rfl,rfl,⟨_,_,rfl,⟨c,a,rfl,s0⟩,⟨p1,b,rfl,s1⟩⟩⟩⟩⟩⟩:=h;exact⟨c,a,p1,b,rfl,s0,s1⟩
theorem qi3(x:qaF){c p1:Option Addr}{a b:Nat}(s0:SlR w S x.Bn c a)(s1:SlR w S x.Av p1 b):GoT.R w S x (qen x c p1 a b):=have h:=pR (rI x.Au) (pR (rI x.Bd) (pR (rI x.To) (pR (rI x.Bk) (pR (rS s0) (rS s1)))));h
theorem quf{w0:World}{L:List Ch}(x:qaF){I0 I1 I2 I3 I4 I5:List Nat}{a c1 b c d f:List Value}(h:SH w0 w L)(i:PO w L I0 x.Au a)(k:PO w L I1 x.Bd c1)(l:PO w L I2 x.To b)(m:PO w L I3 x.Bk c)(n:PO w L I4 x.Bn d)(o:PO w L I5 x.Av f)(b0:apartB I0 (I1++(I2++(I3++(I4++I5))))=true)(b1:apartB I1 (I2++(I3++(I4++I5)))=true)(b2:apartB I2 (I3++(I4++I5))=true)(b3:apartB I3 (I4++I5)=true)(g:apartB I4 I5=true):PO w L (I0++(I1++(I2++(I3++(I4++I5))))) x (a++(c1++(b++(c++(d++f))))):=
 (qcW h i (qcW h k (qcW h l (qcW h m (qcW h n o g) b3) b2) b1) b0)
structure qL where
 Ba:ByteArray
 Au:Int
 Ay:(List qaB)
 Ar:(List qaF)
 Bm:(List Int)
 Bx:Int
 Bt:Int
instance gt_TCell:GoT qL:=isoT (pairT instStr (pairT instInt (pairT (@instList qaB gt_TPin) (pairT (@instList qaF gt_TArc) (pairT (@instList Int instInt) (pairT instInt instInt)))))) (fun x=>(x.Ba,x.Au,x.Ay,x.Ar,x.Bm,x.Bx,x.Bt)) ⟨ByteArray.empty,0,[],[],[],0,0⟩ Z true (fun h=>by cases h)
abbrev qK(x:qL)(p0 p1 p2:Option Addr)(k0 k1 k2:Nat):List Value:=[.string x.Ba,vi x.Au,oS p0 (x.Ay).length k0,oS p1 (x.Ar).length k1,oS p2 (x.Bm).length k2,vi x.Bx,vi x.Bt]
theorem qan{x:qL}{cs:List Value}(h:GoT.R w S x cs):∃d a p1 b f c,cs=(qK x d p1 f a b c)/\SlR w S x.Ay d a/\SlR w S x.Ar p1 b/\SlR w S x.Bm f c:=by
 obtain⟨_,_,rfl,rfl,⟨_,_,rfl,rfl,⟨_,_,rfl,⟨d,a,rfl,s0⟩,⟨_,_,rfl,⟨p1,b,rfl,s1⟩,⟨_,_,rfl,⟨f,c,rfl,s2⟩,⟨_,_,rfl,rfl,rfl⟩⟩⟩⟩⟩⟩:=h;exact⟨d,a,p1,b,f,c,rfl,s0,s1,s2⟩
theorem qrO(x:qL){d p1 f:Option Addr}{a b c:Nat}(s0:SlR w S x.Ay d a)(s1:SlR w S x.Ar p1 b)(s2:SlR w S x.Bm f c):GoT.R w S x (qK x d p1 f a b c):=have h:=pR (rT x.Ba) (pR (rI x.Au) (pR (rS s0) (pR (rS s1) (pR (rS s2) (pR (rI x.Bx) (rI x.Bt))))));h
theorem qqO{w0:World}{L:List Ch}(x:qL){I0 I1 I2 I3 I4 I5 I6:List Nat}{a c1 b c d f g:List Value}(h:SH w0 w L)(l:PO w L I0 x.Ba a)(m:PO w L I1 x.Au c1)(n:PO w L I2 x.Ay b)(o:PO w L I3 x.Ar c)(p:PO w L I4 x.Bm d)(r:PO w L I5 x.Bx f)(s:PO w L I6 x.Bt g)(b0:apartB I0 (I1++(I2++(I3++(I4++(I5++I6)))))=true)(b1:apartB I1 (I2++(I3++(I4++(I5++I6))))=true)(b2:apartB I2 (I3++(I4++(I5++I6)))=true)(b3:apartB I3 (I4++(I5++I6))=true)(i:apartB I4 (I5++I6)=true)(k:apartB I5 I6=true):PO w L (I0++(I1++(I2++(I3++(I4++(I5++I6)))))) x (a++(c1++(b++(c++(d++(f++g)))))):=
 (qcW h l (qcW h m (qcW h n (qcW h o (qcW h p (qcW h r s k) i) b3) b2) b1) b0)
structure qF where
 Ap:(List qL)
instance gt_TLibrary:GoT qF:=isoT (@instList qL gt_TCell) (fun x=>x.Ap) ⟨[]⟩ Z true (fun h=>by cases h)
theorem qcY{x:qF}{cs:List Value}(h:GoT.R w S x cs):∃b a,cs=[oS b (x.Ap).length a]/\SlR w S x.Ap b a:=by
 obtain⟨b,a,rfl,s0⟩:=h;exact⟨b,a,rfl,s0⟩
theorem qks(x:qF){b:Option Addr}{a:Nat}(s0:SlR w S x.Ap b a):GoT.R w S x [oS b (x.Ap).length a]:=have h:=rS s0;h
theorem qji{x:qF}{b:Option Addr}{l0 a:Nat}(h:GoT.R w S x [oS b l0 a]):(SlR w S x.Ap b a/\l0=(x.Ap).length):=by
 obtain⟨_,_,c,s0⟩:=qcY h;cases c;exact⟨s0,rfl⟩
theorem qs4{w0:World}{L:List Ch}(x:qF){I0:List Nat}{a:List Value}(_:SH w0 w L)(b:PO w L I0 x.Ap a):PO w L I0 x a:=
 b
structure qJ where
 Ba:ByteArray
 Bq:Int
 Ah:(List Int)
instance gt_TInstance:GoT qJ:=isoT (pairT instStr (pairT instInt (@instList Int instInt))) (fun x=>(x.Ba,x.Bq,x.Ah)) ⟨ByteArray.empty,0,[]⟩ Z true (fun h=>by cases h)
abbrev qj0(x:qJ)(p0:Option Addr)(k0:Nat):List Value:=[.string x.Ba,vi x.Bq,oS p0 (x.Ah).length k0]
theorem qaH{x:qJ}{cs:List Value}(h:GoT.R w S x cs):∃b a,cs=(qj0 x b a)/\SlR w S x.Ah b a:=by
 obtain⟨_,_,rfl,rfl,⟨_,_,rfl,rfl,⟨b,a,rfl,s0⟩⟩⟩:=h;exact⟨b,a,rfl,s0⟩
theorem qlI(x:qJ){b:Option Addr}{a:Nat}(s0:SlR w S x.Ah b a):GoT.R w S x (qj0 x b a):=have h:=pR (rT x.Ba) (pR (rI x.Bq) (rS s0));h
theorem qpX{w0:World}{L:List Ch}{x:qJ}{d:Option Addr}{l0 a:Nat}(h:SH w0 w (oW S x [.string x.Ba,vi x.Bq,oS d l0 a]::L)):∃f,SH w0 w (oW f x.Ah [oS d l0 a]::L):=by
 obtain⟨k,i⟩:=h.headV;replace i:GoT.O w S x _:=i;obtain⟨_,_,_,_,l,g,i,_,b0⟩:=i;obtain rfl:=g;cases l;replace k:=k.less b0;obtain⟨_,B1,_,_,l,o1,i,_,b1⟩:=i;obtain rfl:=o1;cases l;replace k:=k.less b1;obtain⟨q,m,l,s0⟩:=i;cases l;replace k:=k.push (c:=oW B1 x.Ah [_]) (S2:=(fun _=>False)) ⟨_,_,rfl,s0⟩ (fun _ o=>o.elim) (fun b n=>⟨n,fun h=>h⟩) (fun _ h=>h.elim);exact⟨B1,k.sh⟩
theorem qoD{w0:World}{L:List Ch}(x:qJ){I0 I1 I2:List Nat}{a c1 b:List Value}(h:SH w0 w L)(c:PO w L I0 x.Ba a)(d:PO w L I1 x.Bq c1)(f:PO w L I2 x.Ah b)(b0:apartB I0 (I1++I2)=true)(b1:apartB I1 I2=true):PO w L (I0++(I1++I2)) x (a++(c1++b)):=
 (qcW h c (qcW h d f b1) b0)
structure qaD where
 Ba:ByteArray
 Bs:Int
 Bw:Int
instance gt_TPort:GoT qaD:=isoT (pairT instStr (pairT instInt instInt)) (fun x=>(x.Ba,x.Bs,x.Bw)) ⟨ByteArray.empty,0,0⟩ Z true (fun h=>by cases h)
instance fl_TPort:Flat qaD:=qfN (pairT instStr (pairT instInt instInt)) (fun x:qaD=>(x.Ba,x.Bs,x.Bw)) ⟨ByteArray.empty,0,0⟩ Z true (fun h=>by cases h) (qaP _ _ (inferInstanceAs (Flat ByteArray)) (qaP _ _ (inferInstanceAs (Flat Int)) (inferInstanceAs (Flat Int))))
abbrev qse(x:qaD):List Value:=[.string x.Ba,vi x.Bs,vi x.Bw]
theorem qfl{x:qaD}{cs:List Value}(h:GoT.R w S x cs):cs=(qse x):=by
 obtain⟨_,_,rfl,rfl,⟨_,_,rfl,rfl,rfl⟩⟩:=h;exact Z
theorem qjz(x:qaD):GoT.R w S x (qse x):=have h:=pR (rT x.Ba) (pR (rI x.Bs) (rI x.Bw));h
structure qj where
 Ab:(List qJ)
 Ah:(List ByteArray)
 Ai:(List qaD)
instance gt_TDesign:GoT qj:=isoT (pairT (@instList qJ gt_TInstance) (pairT (@instList ByteArray instStr) (@instList qaD gt_TPort))) (fun x=>(x.Ab,x.Ah,x.Ai)) ⟨[],[],[]⟩ Z true (fun h=>by cases h)
abbrev qay(x:qj)(p0 p1 p2:Option Addr)(k0 k1 k2:Nat):List Value:=[oS p0 (x.Ab).length k0,oS p1 (x.Ah).length k1,oS p2 (x.Ai).length k2]
theorem qa1{x:qj}{cs:List Value}(h:GoT.R w S x cs):∃d a p1 b f c,cs=(qay x d p1 f a b c)/\SlR w S x.Ab d a/\SlR w S x.Ah p1 b/\SlR w S x.Ai f c:=by
 obtain⟨_,_,rfl,⟨d,a,rfl,s0⟩,⟨_,_,rfl,⟨p1,b,rfl,s1⟩,⟨f,c,rfl,s2⟩⟩⟩:=h;exact⟨d,a,p1,b,f,c,rfl,s0,s1,s2⟩
theorem qaO(x:qj){d p1 f:Option Addr}{a b c:Nat}(s0:SlR w S x.Ab d a)(s1:SlR w S x.Ah p1 b)(s2:SlR w S x.Ai f c):GoT.R w S x (qay x d p1 f a b c):=have h:=pR (rS s0) (pR (rS s1) (rS s2));h
theorem qdk{x:qj}{d p1 f:Option Addr}{l0 a l1 b l2 c:Nat}(h:GoT.R w S x [oS d l0 a,oS p1 l1 b,oS f l2 c]):(SlR w S x.Ab d a/\l0=(x.Ab).length)/\(SlR w S x.Ah p1 b/\l1=(x.Ah).length)/\(SlR w S x.Ai f c/\l2=(x.Ai).length):=by
 obtain⟨_,_,_,_,_,_,g,s0,s1,s2⟩:=qa1 h;cases g;exact⟨⟨s0,rfl⟩,⟨s1,rfl⟩,⟨s2,rfl⟩⟩
theorem qq7{w0:World}{L:List Ch}{x:qj}{g p1 i:Option Addr}{l0 a l1 d l2 f:Nat}(h:SH w0 w (oW S x [oS g l0 a,oS p1 l1 d,oS i l2 f]::L)):∃k S1 S2,SH w0 w (oW S2 x.Ai [oS i l2 f]::oW S1 x.Ah [oS p1 l1 d]::oW k x.Ab [oS g l0 a]::L):=by
 obtain⟨o,n⟩:=h.headV;replace n:GoT.O w S x _:=n;obtain⟨A0,B0,_,_,r,l,n,a0,b0⟩:=n;obtain⟨q,m,rfl,s0⟩:=l;cases r;replace o:=o.push (c:=oW A0 x.Ab [_]) (S2:=B0) ⟨_,_,rfl,s0⟩ (fun _ p=>p.elim) a0 b0;obtain⟨A1,B1,_,_,r,o1,n,a1,b1⟩:=n;obtain⟨q,m,rfl,s1⟩:=o1;cases r;replace o:=o.push (c:=oW A1 x.Ah [_]) (S2:=B1) ⟨_,_,rfl,s1⟩ (fun _ p=>p.elim) a1 b1;obtain⟨q,m,r,s2⟩:=n;cases r;replace o:=o.push (c:=oW B1 x.Ai [_]) (S2:=(fun _=>False)) ⟨_,_,rfl,s2⟩ (fun _ p=>p.elim) (fun b s=>⟨s,fun h=>h⟩) (fun _ h=>h.elim);exact⟨A0,A1,B1,o.sh⟩
theorem qqw{w0:World}{L:List Ch}(x:qj){I0 I1 I2:List Nat}{a c1 b:List Value}(h:SH w0 w L)(c:PO w L I0 x.Ab a)(d:PO w L I1 x.Ah c1)(f:PO w L I2 x.Ai b)(b0:apartB I0 (I1++I2)=true)(b1:apartB I1 I2=true):PO w L (I0++(I1++I2)) x (a++(c1++b)):=
 (qcW h c (qcW h d f b1) b0)
structure qah where
 Aj:(List Int)
 Br:(List Int)
 Bl:(List Int)
 Bb:(List Int)
instance gt_TWire:GoT qah:=isoT (pairT (@instList Int instInt) (pairT (@instList Int instInt) (pairT (@instList Int instInt) (@instList Int instInt)))) (fun x=>(x.Aj,x.Br,x.Bl,x.Bb)) ⟨[],[],[],[]⟩ Z true (fun h=>by cases h)
abbrev qgV(x:qah)(p0 p1 p2 p3:Option Addr)(k0 k1 k2 k3:Nat):List Value:=[oS p0 (x.Aj).length k0,oS p1 (x.Br).length k1,oS p2 (x.Bl).length k2,oS p3 (x.Bb).length k3]
theorem qbU{x:qah}{cs:List Value}(h:GoT.R w S x cs):∃d a p1 b f c g k3,cs=(qgV x d p1 f g a b c k3)/\SlR w S x.Aj d a/\SlR w S x.Br p1 b/\SlR w S x.Bl f c/\SlR w S x.Bb g k3:=by
 obtain⟨_,_,rfl,⟨d,a,rfl,s0⟩,⟨_,_,rfl,⟨p1,b,rfl,s1⟩,⟨_,_,rfl,⟨f,c,rfl,s2⟩,⟨g,k3,rfl,i⟩⟩⟩⟩:=h;exact⟨d,a,p1,b,f,c,g,k3,rfl,s0,s1,s2,i⟩
theorem qrm(x:qah){d p1 f g:Option Addr}{a b c k3:Nat}(s0:SlR w S x.Aj d a)(s1:SlR w S x.Br p1 b)(s2:SlR w S x.Bl f c)(i:SlR w S x.Bb g k3):GoT.R w S x (qgV x d p1 f g a b c k3):=have h:=pR (rS s0) (pR (rS s1) (pR (rS s2) (rS i)));h
theorem qjW{w0:World}{L:List Ch}{x:qah}{i p1 k l:Option Addr}{l0 a l1 d l2 f g k3:Nat}(h:SH w0 w (oW S x [oS i l0 a,oS p1 l1 d,oS k l2 f,oS l g k3]::L)):∃n S1 S2 o,SH w0 w (oW o x.Bb [oS l g k3]::oW S2 x.Bl [oS k l2 f]::oW S1 x.Br [oS p1 l1 d]::oW n x.Aj [oS i l0 a]::L):=by
 obtain⟨t,s⟩:=h.headV;replace s:GoT.O w S x _:=s;obtain⟨A0,B0,_,_,v,p,s,a0,b0⟩:=s;obtain⟨q,m,rfl,s0⟩:=p;cases v;replace t:=t.push (c:=oW A0 x.Aj [_]) (S2:=B0) ⟨_,_,rfl,s0⟩ (fun _ u=>u.elim) a0 b0;obtain⟨A1,B1,_,_,v,o1,s,a1,b1⟩:=s;obtain⟨q,m,rfl,s1⟩:=o1;cases v;replace t:=t.push (c:=oW A1 x.Br [_]) (S2:=B1) ⟨_,_,rfl,s1⟩ (fun _ u=>u.elim) a1 b1;obtain⟨A2,B2,_,_,v,o2,s,a2,b2⟩:=s;obtain⟨q,m,rfl,s2⟩:=o2;cases v;replace t:=t.push (c:=oW A2 x.Bl [_]) (S2:=B2) ⟨_,_,rfl,s2⟩ (fun _ u=>u.elim) a2 b2;obtain⟨q,m,v,r⟩:=s;cases v;replace t:=t.push (c:=oW B2 x.Bb [_]) (S2:=(fun _=>False)) ⟨_,_,rfl,r⟩ (fun _ u=>u.elim) (fun b y=>⟨y,fun h=>h⟩) (fun _ h=>h.elim);exact⟨A0,A1,A2,B2,t.sh⟩
theorem qmd{w0:World}{L:List Ch}(x:qah){I0 I1 I2 I3:List Nat}{a c1 b c:List Value}(h:SH w0 w L)(d:PO w L I0 x.Aj a)(f:PO w L I1 x.Br c1)(g:PO w L I2 x.Bl b)(i:PO w L I3 x.Bb c)(b0:apartB I0 (I1++(I2++I3))=true)(b1:apartB I1 (I2++I3)=true)(b2:apartB I2 I3=true):PO w L (I0++(I1++(I2++I3))) x (a++(c1++(b++c))):=
 (qcW h d (qcW h f (qcW h g i b2) b1) b0)
structure qd where
 Am:qF
 Aa:qj
 Ac:(List qah)
instance gt_TBlock:GoT qd:=isoT (pairT gt_TLibrary (pairT gt_TDesign (@instList qah gt_TWire))) (fun x=>(x.Am,x.Aa,x.Ac)) ⟨(⟨[]⟩:qF),(⟨[],[],[]⟩:qj),[]⟩ Z true (fun h=>by cases h)
abbrev qu(x:qd)(p0 p1 p2 p3 p4:Option Addr)(k0 k1 k2 k3 k4:Nat):List Value:=[oS p0 (x.Am.Ap).length k0,oS p1 (x.Aa.Ab).length k1,oS p2 (x.Aa.Ah).length k2,oS p3 (x.Aa.Ai).length k3,oS p4 (x.Ac).length k4]
theorem qB{x:qd}{cs:List Value}(h:GoT.R w S x cs):∃f a p1 b g c i k3 k d,cs=(qu x f p1 g i k a b c k3 d)/\SlR w S x.Am.Ap f a/\SlR w S x.Aa.Ab p1 b/\SlR w S x.Aa.Ah g c/\SlR w S x.Aa.Ai i k3/\SlR w S x.Ac k d:=by
 obtain⟨_,_,rfl,⟨f,a,rfl,s0⟩,⟨_,_,rfl,⟨_,_,rfl,⟨p1,b,rfl,s1⟩,⟨_,_,rfl,⟨g,c,rfl,s2⟩,⟨i,k3,rfl,l⟩⟩⟩,⟨k,d,rfl,m⟩⟩⟩:=h;exact⟨f,a,p1,b,g,c,i,k3,k,d,rfl,s0,s1,s2,l,m⟩
theorem qf3{x:qd}{i p1 k l m:Option Addr}{l0 a l1 b l2 c f k3 g d:Nat}(h:GoT.R w S x [oS i l0 a,oS p1 l1 b,oS k l2 c,oS l f k3,oS m g d]):(SlR w S x.Am.Ap i a/\l0=(x.Am.Ap).length)/\(SlR w S x.Aa.Ab p1 b/\l1=(x.Aa.Ab).length)/\(SlR w S x.Aa.Ah k c/\l2=(x.Aa.Ah).length)/\(SlR w S x.Aa.Ai l k3/\f=(x.Aa.Ai).length)/\(SlR w S x.Ac m d/\g=(x.Ac).length):=by
 obtain⟨_,_,_,_,_,_,_,_,_,_,p,s0,s1,s2,n,o⟩:=qB h;cases p;exact⟨⟨s0,rfl⟩,⟨s1,rfl⟩,⟨s2,rfl⟩,⟨n,rfl⟩,⟨o,rfl⟩⟩
theorem qip{w0:World}{L:List Ch}{x:qd}{o p1 k l m:Option Addr}{l0 n l1 a l2 d g k3 i f:Nat}(h:SH w0 w (oW S x [oS o l0 n,oS p1 l1 a,oS k l2 d,oS l g k3,oS m i f]::L)):∃z S1 S2,SH w0 w (oW S2 x.Ac [oS m i f]::oW S1 x.Aa [oS p1 l1 a,oS k l2 d,oS l g k3]::oW z x.Am [oS o l0 n]::L):=by
 obtain⟨B,A⟩:=h.headV;replace A:GoT.O w S x _:=A;obtain⟨A0,B0,p,e0,s,y,A,a0,b0⟩:=A;have u:p.length=1:=GoT.len (GoT.toR y);obtain⟨rfl,rfl⟩:p=[oS o l0 n]/\e0=[oS p1 l1 a,oS k l2 d,oS l g k3,oS m i f]:=by
  have:=List.append_inj (show[oS o l0 n]++[oS p1 l1 a,oS k l2 d,oS l g k3,oS m i f]=p++e0 from s) (by rw[u];rfl);exact⟨this.1.symm,this.2.symm⟩
 replace B:=B.push (c:=oW A0 x.Am [oS o l0 n]) (S2:=B0) y (fun _ C=>C.elim) a0 b0;obtain⟨A1,B1,r,e1,t,o1,A,a1,b1⟩:=A;have v:r.length=3:=GoT.len (GoT.toR o1);obtain⟨rfl,rfl⟩:r=[oS p1 l1 a,oS k l2 d,oS l g k3]/\e1=[oS m i f]:=by
  have:=List.append_inj (show[oS p1 l1 a,oS k l2 d,oS l g k3]++[oS m i f]=r++e1 from t) (by rw[v];rfl);exact⟨this.1.symm,this.2.symm⟩
 replace B:=B.push (c:=oW A1 x.Aa [oS p1 l1 a,oS k l2 d,oS l g k3]) (S2:=B1) o1 (fun _ C=>C.elim) a1 b1;replace B:=B.push (c:=oW B1 x.Ac [oS m i f]) (S2:=(fun _=>False)) A (fun _ C=>C.elim) (fun b D=>⟨D,fun h=>h⟩) (fun _ h=>h.elim);exact⟨A0,A1,B1,B.sh⟩
theorem quA{w0:World}{L:List Ch}(x:qd){I0 I1 I2:List Nat}{a c1 b:List Value}(h:SH w0 w L)(c:PO w L I0 x.Am a)(d:PO w L I1 x.Aa c1)(f:PO w L I2 x.Ac b)(b0:apartB I0 (I1++I2)=true)(b1:apartB I1 I2=true):PO w L (I0++(I1++I2)) x (a++(c1++b)):=
 (qcW h c (qcW h d f b1) b0)
structure qz where
 Ba:ByteArray
 Bc:Int
 Bg:Int
 Bf:Int
 Bh:Int
instance gt_TCorner:GoT qz:=isoT (pairT instStr (pairT instInt (pairT instInt (pairT instInt instInt)))) (fun x=>(x.Ba,x.Bc,x.Bg,x.Bf,x.Bh)) ⟨ByteArray.empty,0,0,0,0⟩ Z true (fun h=>by cases h)
instance fl_TCorner:Flat qz:=qfN (pairT instStr (pairT instInt (pairT instInt (pairT instInt instInt)))) (fun x:qz=>(x.Ba,x.Bc,x.Bg,x.Bf,x.Bh)) ⟨ByteArray.empty,0,0,0,0⟩ Z true (fun h=>by cases h) (qaP _ _ (inferInstanceAs (Flat ByteArray)) (qaP _ _ (inferInstanceAs (Flat Int)) (qaP _ _ (inferInstanceAs (Flat Int)) (qaP _ _ (inferInstanceAs (Flat Int)) (inferInstanceAs (Flat Int))))))
abbrev qR(x:qz):List Value:=[.string x.Ba,vi x.Bc,vi x.Bg,vi x.Bf,vi x.Bh]
theorem qaC{x:qz}{cs:List Value}(h:GoT.R w S x cs):cs=(qR x):=by
 obtain⟨_,_,rfl,rfl,⟨_,_,rfl,rfl,⟨_,_,rfl,rfl,⟨_,_,rfl,rfl,rfl⟩⟩⟩⟩:=h;exact Z
theorem qiT(x:qz):GoT.R w S x (qR x):=have h:=pR (rT x.Ba) (pR (rI x.Bc) (pR (rI x.Bg) (pR (rI x.Bf) (rI x.Bh))));h
structure qoZ where
 Cd:Int
 Ca:Int
instance gt_TLatch:GoT qoZ:=isoT (pairT instInt instInt) (fun x=>(x.Cd,x.Ca)) ⟨0,0⟩ Z true (fun h=>by cases h)
instance fl_TLatch:Flat qoZ:=qfN (pairT instInt instInt) (fun x:qoZ=>(x.Cd,x.Ca)) ⟨0,0⟩ Z true (fun h=>by cases h) (qaP _ _ (inferInstanceAs (Flat Int)) (inferInstanceAs (Flat Int)))
structure qjA where
 Bd:Int
 To:Int
 Bn:Int
 Cb:Int
instance gt_TLatchLink:GoT qjA:=isoT (pairT instInt (pairT instInt (pairT instInt instInt))) (fun x=>(x.Bd,x.To,x.Bn,x.Cb)) ⟨0,0,0,0⟩ Z true (fun h=>by cases h)
instance fl_TLatchLink:Flat qjA:=qfN (pairT instInt (pairT instInt (pairT instInt instInt))) (fun x:qjA=>(x.Bd,x.To,x.Bn,x.Cb)) ⟨0,0,0,0⟩ Z true (fun h=>by cases h) (qaP _ _ (inferInstanceAs (Flat Int)) (qaP _ _ (inferInstanceAs (Flat Int)) (qaP _ _ (inferInstanceAs (Flat Int)) (inferInstanceAs (Flat Int)))))
structure qoy where
 Bz:(List qoZ)
 Cc:(List qjA)
instance gt_TLatchSystem:GoT qoy:=isoT (pairT (@instList qoZ gt_TLatch) (@instList qjA gt_TLatchLink)) (fun x=>(x.Bz,x.Cc)) ⟨[],[]⟩ Z true (fun h=>by cases h)
structure qf where
 Ak:Int
 As:Int
instance gt_TSpan:GoT qf:=isoT (pairT instInt instInt) (fun x=>(x.Ak,x.As)) ⟨0,0⟩ Z true (fun h=>by cases h)
instance fl_TSpan:Flat qf:=qfN (pairT instInt instInt) (fun x:qf=>(x.Ak,x.As)) ⟨0,0⟩ Z true (fun h=>by cases h) (qaP _ _ (inferInstanceAs (Flat Int)) (inferInstanceAs (Flat Int)))
abbrev qek(x:qf):List Value:=[vi x.Ak,vi x.As]
theorem qx{x:qf}{cs:List Value}(h:GoT.R w S x cs):cs=(qek x):=by
 obtain⟨_,_,rfl,rfl,rfl⟩:=h;exact Z
theorem qG(x:qf):GoT.R w S x (qek x):=have h:=pR (rI x.Ak) (rI x.As);h
structure qg where
 Bi:Int
 Af:qf
 Av:qf
instance gt_TSource:GoT qg:=isoT (pairT instInt (pairT gt_TSpan gt_TSpan)) (fun x=>(x.Bi,x.Af,x.Av)) ⟨0,(⟨0,0⟩:qf),(⟨0,0⟩:qf)⟩ Z true (fun h=>by cases h)
instance fl_TSource:Flat qg:=qfN (pairT instInt (pairT gt_TSpan gt_TSpan)) (fun x:qg=>(x.Bi,x.Af,x.Av)) ⟨0,(⟨0,0⟩:qf),(⟨0,0⟩:qf)⟩ Z true (fun h=>by cases h) (qaP _ _ (inferInstanceAs (Flat Int)) (qaP _ _ (inferInstanceAs (Flat qf)) (inferInstanceAs (Flat qf))))
abbrev qgl(x:qg):List Value:=[vi x.Bi,vi x.Af.Ak,vi x.Af.As,vi x.Av.Ak,vi x.Av.As]
theorem qaI{x:qg}{cs:List Value}(h:GoT.R w S x cs):cs=(qgl x):=by
 obtain⟨_,_,rfl,rfl,⟨_,_,rfl,⟨_,_,rfl,rfl,rfl⟩,⟨_,_,rfl,rfl,rfl⟩⟩⟩:=h;exact Z
theorem qca(x:qg):GoT.R w S x (qgl x):=have h:=pR (rI x.Bi) (pR (qG x.Af) (qG x.Av));h
structure qm where
 A:Int
 B:Int
 Bp:Int
instance gt_TCoupling:GoT qm:=isoT (pairT instInt (pairT instInt instInt)) (fun x=>(x.A,x.B,x.Bp)) ⟨0,0,0⟩ Z true (fun h=>by cases h)
instance fl_TCoupling:Flat qm:=qfN (pairT instInt (pairT instInt instInt)) (fun x:qm=>(x.A,x.B,x.Bp)) ⟨0,0,0⟩ Z true (fun h=>by cases h) (qaP _ _ (inferInstanceAs (Flat Int)) (qaP _ _ (inferInstanceAs (Flat Int)) (inferInstanceAs (Flat Int))))
abbrev qly(x:qm):List Value:=[vi x.A,vi x.B,vi x.Bp]
theorem qax{x:qm}{cs:List Value}(h:GoT.R w S x cs):cs=(qly x):=by
 obtain⟨_,_,rfl,rfl,⟨_,_,rfl,rfl,rfl⟩⟩:=h;exact Z
theorem qeS(x:qm):GoT.R w S x (qly x):=have h:=pR (rI x.A) (pR (rI x.B) (rI x.Bp));h
structure qi where
 Aq:(List Bool)
 Af:(List qf)
 Av:(List qf)
instance gt_TTiming:GoT qi:=isoT (pairT (@instList Bool instBool) (pairT (@instList qf gt_TSpan) (@instList qf gt_TSpan))) (fun x=>(x.Aq,x.Af,x.Av)) ⟨[],[],[]⟩ Z true (fun h=>by cases h)
abbrev qag(x:qi)(p0 p1 p2:Option Addr)(k0 k1 k2:Nat):List Value:=[oS p0 (x.Aq).length k0,oS p1 (x.Af).length k1,oS p2 (x.Av).length k2]
theorem qaj{x:qi}{cs:List Value}(h:GoT.R w S x cs):∃d a p1 b f c,cs=(qag x d p1 f a b c)/\SlR w S x.Aq d a/\SlR w S x.Af p1 b/\SlR w S x.Av f c:=by
 obtain⟨_,_,rfl,⟨d,a,rfl,s0⟩,⟨_,_,rfl,⟨p1,b,rfl,s1⟩,⟨f,c,rfl,s2⟩⟩⟩:=h;exact⟨d,a,p1,b,f,c,rfl,s0,s1,s2⟩
theorem qno(x:qi){d p1 f:Option Addr}{a b c:Nat}(s0:SlR w S x.Aq d a)(s1:SlR w S x.Af p1 b)(s2:SlR w S x.Av f c):GoT.R w S x (qag x d p1 f a b c):=have h:=pR (rS s0) (pR (rS s1) (rS s2));h
theorem qii{w0:World}{L:List Ch}{x:qi}{g p1 i:Option Addr}{l0 a l1 d l2 f:Nat}(h:SH w0 w (oW S x [oS g l0 a,oS p1 l1 d,oS i l2 f]::L)):∃k S1 S2,SH w0 w (oW S2 x.Av [oS i l2 f]::oW S1 x.Af [oS p1 l1 d]::oW k x.Aq [oS g l0 a]::L):=by
 obtain⟨o,n⟩:=h.headV;replace n:GoT.O w S x _:=n;obtain⟨A0,B0,_,_,r,l,n,a0,b0⟩:=n;obtain⟨q,m,rfl,s0⟩:=l;cases r;replace o:=o.push (c:=oW A0 x.Aq [_]) (S2:=B0) ⟨_,_,rfl,s0⟩ (fun _ p=>p.elim) a0 b0;obtain⟨A1,B1,_,_,r,o1,n,a1,b1⟩:=n;obtain⟨q,m,rfl,s1⟩:=o1;cases r;replace o:=o.push (c:=oW A1 x.Af [_]) (S2:=B1) ⟨_,_,rfl,s1⟩ (fun _ p=>p.elim) a1 b1;obtain⟨q,m,r,s2⟩:=n;cases r;replace o:=o.push (c:=oW B1 x.Av [_]) (S2:=(fun _=>False)) ⟨_,_,rfl,s2⟩ (fun _ p=>p.elim) (fun b s=>⟨s,fun h=>h⟩) (fun _ h=>h.elim);exact⟨A0,A1,B1,o.sh⟩
theorem qcs{w0:World}{L:List Ch}(x:qi){I0 I1 I2:List Nat}{a c1 b:List Value}(h:SH w0 w L)(c:PO w L I0 x.Aq a)(d:PO w L I1 x.Af c1)(f:PO w L I2 x.Av b)(b0:apartB I0 (I1++I2)=true)(b1:apartB I1 I2=true):PO w L (I0++(I1++I2)) x (a++(c1++b)):=
 (qcW h c (qcW h d f b1) b0)
structure Tl01Source where
 code:(List (IntK .u8))
 at_:Int
 seed:Int
instance gt_Tl01Source:GoT Tl01Source:=isoT (pairT (@instList (IntK .u8) (@gt_IntK .u8)) (pairT instInt instInt)) (fun x=>(x.code,x.at_,x.seed)) ⟨[],0,0⟩ Z true (fun h=>by cases h)
abbrev qak(x:Tl01Source)(p0:Option Addr)(k0:Nat):List Value:=[oS p0 (x.code).length k0,vi x.at_,vi x.seed]
theorem qp1{x:Tl01Source}{cs:List Value}(h:GoT.R w S x cs):∃b a,cs=(qak x b a)/\SlR w S x.code b a:=by
 obtain⟨_,_,rfl,⟨b,a,rfl,s0⟩,⟨_,_,rfl,rfl,rfl⟩⟩:=h;exact⟨b,a,rfl,s0⟩
theorem qqv(x:Tl01Source){b:Option Addr}{a:Nat}(s0:SlR w S x.code b a):GoT.R w S x (qak x b a):=have h:=pR (rS s0) (pR (rI x.at_) (rI x.seed));h
theorem qD{x:Tl01Source}{b:Option Addr}{l0 a:Nat}(h:GoT.R w S x [oS b l0 a,vi x.at_,vi x.seed]):(SlR w S x.code b a/\l0=(x.code).length):=by
 obtain⟨_,_,c,s0⟩:=qp1 h;cases c;exact⟨s0,rfl⟩
structure Tplace where
 instance_:Int
 pin:Int
 net:Int
 drives:Bool
instance gt_Tplace:GoT Tplace:=isoT (pairT instInt (pairT instInt (pairT instInt instBool))) (fun x=>(x.instance_,x.pin,x.net,x.drives)) ⟨0,0,0,false⟩ Z true (fun h=>by cases h)
instance fl_Tplace:Flat Tplace:=qfN (pairT instInt (pairT instInt (pairT instInt instBool))) (fun x:Tplace=>(x.instance_,x.pin,x.net,x.drives)) ⟨0,0,0,false⟩ Z true (fun h=>by cases h) (qaP _ _ (inferInstanceAs (Flat Int)) (qaP _ _ (inferInstanceAs (Flat Int)) (qaP _ _ (inferInstanceAs (Flat Int)) (inferInstanceAs (Flat Bool)))))
abbrev qos(x:Tplace):List Value:=[vi x.instance_,vi x.pin,vi x.net,.bool x.drives]
theorem qeW{x:Tplace}{cs:List Value}(h:GoT.R w S x cs):cs=(qos x):=by
 obtain⟨_,_,rfl,rfl,⟨_,_,rfl,rfl,⟨_,_,rfl,rfl,rfl⟩⟩⟩:=h;exact Z
theorem qkX(x:Tplace):GoT.R w S x (qos x):=have h:=pR (rI x.instance_) (pR (rI x.pin) (pR (rI x.net) (rB x.drives)));h
structure qv where
 Bd:Int
 To:Int
 Au:Int
 Bv:Int
instance gt_TLink:GoT qv:=isoT (pairT instInt (pairT instInt (pairT instInt instInt))) (fun x=>(x.Bd,x.To,x.Au,x.Bv)) ⟨0,0,0,0⟩ Z true (fun h=>by cases h)
instance fl_TLink:Flat qv:=qfN (pairT instInt (pairT instInt (pairT instInt instInt))) (fun x:qv=>(x.Bd,x.To,x.Au,x.Bv)) ⟨0,0,0,0⟩ Z true (fun h=>by cases h) (qaP _ _ (inferInstanceAs (Flat Int)) (qaP _ _ (inferInstanceAs (Flat Int)) (qaP _ _ (inferInstanceAs (Flat Int)) (inferInstanceAs (Flat Int)))))
abbrev qjQ(x:qv):List Value:=[vi x.Bd,vi x.To,vi x.Au,vi x.Bv]
theorem qaG{x:qv}{cs:List Value}(h:GoT.R w S x cs):cs=(qjQ x):=by
 obtain⟨_,_,rfl,rfl,⟨_,_,rfl,rfl,⟨_,_,rfl,rfl,rfl⟩⟩⟩:=h;exact Z
theorem qck(x:qv):GoT.R w S x (qjQ x):=have h:=pR (rI x.Bd) (pR (rI x.To) (pR (rI x.Au) (rI x.Bv)));h
structure Tview where
 Bu:qd
 places:(List Tplace)
 links:(List qv)
 loads:(List Int)
 delays:(List (List Int))
 extras:(List Int)
instance gt_Tview:GoT Tview:=isoT (pairT gt_TBlock (pairT (@instList Tplace gt_Tplace) (pairT (@instList qv gt_TLink) (pairT (@instList Int instInt) (pairT (@instList (List Int) (@instList Int instInt)) (@instList Int instInt)))))) (fun x=>(x.Bu,x.places,x.links,x.loads,x.delays,x.extras)) ⟨(⟨(⟨[]⟩:qF),(⟨[],[],[]⟩:qj),[]⟩:qd),[],[],[],[],[]⟩ Z true (fun h=>by cases h)
abbrev qw5(x:Tview)(p0 p1 p2 p3 p4 p5 p6 p7 p8 p9:Option Addr)(k0 k1 k2 k3 k4 k5 k6 k7 k8 k9:Nat):List Value:=[oS p0 (x.Bu.Am.Ap).length k0,oS p1 (x.Bu.Aa.Ab).length k1,oS p2 (x.Bu.Aa.Ah).length k2,oS p3 (x.Bu.Aa.Ai).length k3,oS p4 (x.Bu.Ac).length k4,oS p5 (x.places).length k5,oS p6 (x.links).length k6,oS p7 (x.loads).length k7,oS p8 (x.delays).length k8,oS p9 (x.extras).length k9]
theorem qct{x:Tview}{cs:List Value}(h:GoT.R w S x cs):∃m a p1 b n c o k3 p d r f s g t i u k v l,cs=(qw5 x m p1 n o p r s t u v a b c k3 d f g i k l)/\SlR w S x.Bu.Am.Ap m a/\SlR w S x.Bu.Aa.Ab p1 b/\SlR w S x.Bu.Aa.Ah n c/\SlR w S x.Bu.Aa.Ai o k3/\SlR w S x.Bu.Ac p d/\SlR w S x.places r f/\SlR w S x.links s g/\SlR w S x.loads t i/\SlR w S x.delays u k/\SlR w S x.extras v l:=by
 obtain⟨_,_,rfl,⟨_,_,rfl,⟨m,a,rfl,s0⟩,⟨_,_,rfl,⟨_,_,rfl,⟨p1,b,rfl,s1⟩,⟨_,_,rfl,⟨n,c,rfl,s2⟩,⟨o,k3,rfl,y⟩⟩⟩,⟨p,d,rfl,z⟩⟩⟩,⟨_,_,rfl,⟨r,f,rfl,A⟩,⟨_,_,rfl,⟨s,g,rfl,B⟩,⟨_,_,rfl,⟨t,i,rfl,C⟩,⟨_,_,rfl,⟨u,k,rfl,D⟩,⟨v,l,rfl,F⟩⟩⟩⟩⟩⟩:=h;exact⟨m,a,p1,b,n,c,o,k3,p,d,r,f,s,g,t,i,u,k,v,l,rfl,s0,s1,s2,y,z,A,B,C,D,F⟩
structure TlatchSite where
 instance_:Int
 first:Int
 arc:Int
instance gt_TlatchSite:GoT TlatchSite:=isoT (pairT instInt (pairT instInt instInt)) (fun x=>(x.instance_,x.first,x.arc)) ⟨0,0,0⟩ Z true (fun h=>by cases h)
instance fl_TlatchSite:Flat TlatchSite:=qfN (pairT instInt (pairT instInt instInt)) (fun x:TlatchSite=>(x.instance_,x.first,x.arc)) ⟨0,0,0⟩ Z true (fun h=>by cases h) (qaP _ _ (inferInstanceAs (Flat Int)) (qaP _ _ (inferInstanceAs (Flat Int)) (inferInstanceAs (Flat Int))))
structure Tgraph where
 view:(Option Tview)
 live:(List Bool)
instance gt_Tgraph:GoT Tgraph:=isoT (pairT (@instPtr Tview gt_Tview) (@instList Bool instBool)) (fun x=>(x.view,x.live)) ⟨U,[]⟩ Z true (fun h=>by cases h)
abbrev qwb(x:Tgraph)(p0 p1:Option Addr)(k1:Nat):List Value:=[.pointer p0,oS p1 (x.live).length k1]
theorem qiV{x:Tgraph}{cs:List Value}(h:GoT.R w S x cs):∃b p1 a,cs=(qwb x b p1 a)/\PtR w S x.view b/\SlR w S x.live p1 a:=by
 obtain⟨_,_,rfl,c,⟨p1,a,rfl,s1⟩⟩:=h;obtain⟨b,rfl,s0⟩:=qbn c;exact⟨b,p1,a,rfl,s0,s1⟩
structure Tl05Place where
 instance_:Int
 pin:Int
 net:Int
 drives:Bool
instance gt_Tl05Place:GoT Tl05Place:=isoT (pairT instInt (pairT instInt (pairT instInt instBool))) (fun x=>(x.instance_,x.pin,x.net,x.drives)) ⟨0,0,0,false⟩ Z true (fun h=>by cases h)
instance fl_Tl05Place:Flat Tl05Place:=qfN (pairT instInt (pairT instInt (pairT instInt instBool))) (fun x:Tl05Place=>(x.instance_,x.pin,x.net,x.drives)) ⟨0,0,0,false⟩ Z true (fun h=>by cases h) (qaP _ _ (inferInstanceAs (Flat Int)) (qaP _ _ (inferInstanceAs (Flat Int)) (qaP _ _ (inferInstanceAs (Flat Int)) (inferInstanceAs (Flat Bool)))))
abbrev qlv(x:Tl05Place):List Value:=[vi x.instance_,vi x.pin,vi x.net,.bool x.drives]
theorem qbD{x:Tl05Place}{cs:List Value}(h:GoT.R w S x cs):cs=(qlv x):=by
 obtain⟨_,_,rfl,rfl,⟨_,_,rfl,rfl,⟨_,_,rfl,rfl,rfl⟩⟩⟩:=h;exact Z
theorem qga(x:Tl05Place):GoT.R w S x (qlv x):=have h:=pR (rI x.instance_) (pR (rI x.pin) (pR (rI x.net) (rB x.drives)));h
structure qX where
 e0:Int
 e1:Int
instance gt_TA2_Int:GoT qX:=isoT (pairT instInt instInt) (fun x=>(x.e0,x.e1)) ⟨0,0⟩ Z true (fun h=>by cases h)
instance fl_TA2_Int:Flat qX:=qfN (pairT instInt instInt) (fun x:qX=>(x.e0,x.e1)) ⟨0,0⟩ Z true (fun h=>by cases h) (qaP _ _ (inferInstanceAs (Flat Int)) (inferInstanceAs (Flat Int)))
abbrev qrT(x:qX):List Value:=[vi x.e0,vi x.e1]
theorem qsp{x:qX}{cs:List Value}(h:GoT.R w S x cs):cs=(qrT x):=by
 obtain⟨_,_,rfl,rfl,rfl⟩:=h;exact Z
theorem qdj(x:qX):GoT.R w S x (qrT x):=have h:=pR (rI x.e0) (rI x.e1);h
structure Tweight where
 index:Int
 part:Int
instance gt_Tweight:GoT Tweight:=isoT (pairT instInt instInt) (fun x=>(x.index,x.part)) ⟨0,0⟩ Z true (fun h=>by cases h)
instance fl_Tweight:Flat Tweight:=qfN (pairT instInt instInt) (fun x:Tweight=>(x.index,x.part)) ⟨0,0⟩ Z true (fun h=>by cases h) (qaP _ _ (inferInstanceAs (Flat Int)) (inferInstanceAs (Flat Int)))
abbrev qpi(x:Tweight):List Value:=[vi x.index,vi x.part]
theorem qol{x:Tweight}{cs:List Value}(h:GoT.R w S x cs):cs=(qpi x):=by
 obtain⟨_,_,rfl,rfl,rfl⟩:=h;exact Z
theorem qnr(x:Tweight):GoT.R w S x (qpi x):=have h:=pR (rI x.index) (rI x.part);h
def tab:Tab:=[ (2,⟨.int .i64,1,8,V (vi 0),[]⟩),(3,⟨.int .i64,1,8,V (vi 0),[]⟩),(4,⟨.bool,1,1,V (.bool false),[]⟩),(5,⟨.int .u8,1,1,V (.int .u8 0),[]⟩),(9,⟨.str,1,16,V (.string ByteArray.empty),[]⟩),(22,⟨.slice 5,1,24,V (.slice U 0 0),[]⟩),(24,⟨.slice 166,1,24,V (.slice U 0 0),[]⟩),(26,⟨.struct,1,24,V (.agg #[.slice U 0 0]),[(0,1,V false)]⟩),(27,⟨.slice 77,1,24,V (.slice U 0 0),[]⟩),(28,⟨.slice 9,1,24,V (.slice U 0 0),[]⟩),(29,⟨.slice 220,1,24,V (.slice U 0 0),[]⟩),(31,⟨.struct,3,72,V (.agg #[.slice U 0 0,.slice U 0 0,.slice U 0 0]),[(0,1,V false),(1,1,V false),(2,1,V false)]⟩),(32,⟨.slice 152,1,24,V (.slice U 0 0),[]⟩),(34,⟨.struct,5,120,V (.agg #[.slice U 0 0,.slice U 0 0,.slice U 0 0,.slice U 0 0,.slice U 0 0]),[(0,1,V true),(1,3,V true),(4,1,V false)]⟩),(36,⟨.struct,5,48,V (.agg #[.string ByteArray.empty,vi 0,vi 0,vi 0,vi 0]),[(0,1,V false),(1,1,V false),(2,1,V false),(3,1,V false),(4,1,V false)]⟩),(37,⟨.slice 2,1,24,V (.slice U 0 0),[]⟩),(40,⟨.slice 104,1,24,V (.slice U 0 0),[]⟩),(41,⟨.slice 48,1,24,V (.slice U 0 0),[]⟩),(43,⟨.struct,2,48,V (.agg #[.slice U 0 0,.slice U 0 0]),[(0,1,V false),(1,1,V false)]⟩),(48,⟨.struct,4,32,V (.agg #[vi 0,vi 0,vi 0,vi 0]),[(0,1,V false),(1,1,V false),(2,1,V false),(3,1,V false)]⟩),(49,⟨.slice 118,1,24,V (.slice U 0 0),[]⟩),(50,⟨.slice 199,1,24,V (.slice U 0 0),[]⟩),(55,⟨.slice 4,1,24,V (.slice U 0 0),[]⟩),(56,⟨.slice 116,1,24,V (.slice U 0 0),[]⟩),(58,⟨.struct,3,72,V (.agg #[.slice U 0 0,.slice U 0 0,.slice U 0 0]),[(0,1,V false),(1,1,V false),(2,1,V false)]⟩),(71,⟨.ptr,1,8,V (.pointer U),[]⟩),(77,⟨.struct,3,48,V (.agg #[.string ByteArray.empty,vi 0,.slice U 0 0]),[(0,1,V false),(1,1,V false),(2,1,V false)]⟩),(81,⟨.ptr,1,8,V (.pointer U),[]⟩),(85,⟨.slice 173,1,24,V (.slice U 0 0),[]⟩),(90,⟨.struct,2,32,V (.agg #[.pointer U,.slice U 0 0]),[(0,1,V false),(1,1,V false)]⟩),(91,⟨.slice 156,1,24,V (.slice U 0 0),[]⟩),(92,⟨.slice 97,1,24,V (.slice U 0 0),[]⟩),(93,⟨.slice 37,1,24,V (.slice U 0 0),[]⟩),(95,⟨.struct,10,240,V (.agg #[.slice U 0 0,.slice U 0 0,.slice U 0 0,.slice U 0 0,.slice U 0 0,.slice U 0 0,.slice U 0 0,.slice U 0 0,.slice U 0 0,.slice U 0 0]),[(0,5,V true),(5,1,V false),(6,1,V false),(7,1,V false),(8,1,V false),(9,1,V false)]⟩),(97,⟨.struct,4,32,V (.agg #[vi 0,vi 0,vi 0,vi 0]),[(0,1,V false),(1,1,V false),(2,1,V false),(3,1,V false)]⟩),(104,⟨.struct,2,16,V (.agg #[vi 0,vi 0]),[(0,1,V false),(1,1,V false)]⟩),(116,⟨.struct,2,16,V (.agg #[vi 0,vi 0]),[(0,1,V false),(1,1,V false)]⟩),(118,⟨.struct,5,40,V (.agg #[vi 0,vi 0,vi 0,vi 0,vi 0]),[(0,1,V false),(1,2,V true),(3,2,V true)]⟩),(147,⟨.struct,3,40,V (.agg #[.slice U 0 0,vi 0,vi 0]),[(0,1,V false),(1,1,V false),(2,1,V false)]⟩),(152,⟨.struct,4,96,V (.agg #[.slice U 0 0,.slice U 0 0,.slice U 0 0,.slice U 0 0]),[(0,1,V false),(1,1,V false),(2,1,V false),(3,1,V false)]⟩),(156,⟨.struct,4,32,V (.agg #[vi 0,vi 0,vi 0,.bool false]),[(0,1,V false),(1,1,V false),(2,1,V false),(3,1,V false)]⟩),(163,⟨.slice 239,1,24,V (.slice U 0 0),[]⟩),(164,⟨.slice 170,1,24,V (.slice U 0 0),[]⟩),(166,⟨.struct,7,112,V (.agg #[.string ByteArray.empty,vi 0,.slice U 0 0,.slice U 0 0,.slice U 0 0,vi 0,vi 0]),[(0,1,V false),(1,1,V false),(2,1,V false),(3,1,V false),(4,1,V false),(5,1,V false),(6,1,V false)]⟩),(168,⟨.slice 250,1,24,V (.slice U 0 0),[]⟩),(170,⟨.struct,6,80,V (.agg #[vi 0,vi 0,vi 0,vi 0,.slice U 0 0,.slice U 0 0]),[(0,1,V false),(1,1,V false),(2,1,V false),(3,1,V false),(4,1,V false),(5,1,V false)]⟩),(173,⟨.struct,3,24,V (.agg #[vi 0,vi 0,vi 0]),[(0,1,V false),(1,1,V false),(2,1,V false)]⟩),(175,⟨.slice 3,1,24,V (.slice U 0 0),[]⟩),(186,⟨.slice 189,1,24,V (.slice U 0 0),[]⟩),(189,⟨.struct,4,32,V (.agg #[vi 0,vi 0,vi 0,.bool false]),[(0,1,V false),(1,1,V false),(2,1,V false),(3,1,V false)]⟩),(199,⟨.struct,3,24,V (.agg #[vi 0,vi 0,vi 0]),[(0,1,V false),(1,1,V false),(2,1,V false)]⟩),(212,⟨.int .u64,1,8,V (.int .u64 0),[]⟩),(216,⟨.ptr,1,8,V (.pointer U),[]⟩),(220,⟨.struct,3,32,V (.agg #[.string ByteArray.empty,vi 0,vi 0]),[(0,1,V false),(1,1,V false),(2,1,V false)]⟩),(232,⟨.slice 234,1,24,V (.slice U 0 0),[]⟩),(234,⟨.arr 2 2,2,16,V (.agg #[vi 0,vi 0]),[]⟩),(239,⟨.struct,4,40,V (.agg #[.string ByteArray.empty,vi 0,vi 0,.bool false]),[(0,1,V false),(1,1,V false),(2,1,V false),(3,1,V false)]⟩),(250,⟨.struct,3,72,V (.agg #[.slice U 0 0,.slice U 0 0,.slice U 0 0]),[(0,1,V false),(1,1,V false),(2,1,V false)]⟩),(320,⟨.slice 324,1,24,V (.slice U 0 0),[]⟩),(324,⟨.struct,2,16,V (.agg #[vi 0,vi 0]),[(0,1,V false),(1,1,V false)]⟩)]
theorem qa:TabOk prog tab:=TabOk.mk (by kernel_rfl)
theorem rp{n:Nat}{Q:Exit->Act->World->Prop}{k:List It}{e:Env}{w:World}{all:Array Oper}{l:List Oper}{a:Op}{d t:Nat}{ps:String}{af:Array Edge}{v:Value}
  (h:pev tab e a=V v) (c:Nat.blt d n=true) (b:Run prog n Q (.ops all l::k) ((d,v)::e) w):Run prog n Q (.ops all (⟨V d,a,t,ps,af,U⟩::l)::k) e w:=r_p qa h c b
theorem dp{n:Nat}{Q:Exit->Act->World->Prop}{k:List It}{e:Env}{w:World}{all:Array Oper}{l:List Oper}{a:Op}{d t:Nat}{ps:String}{af:Array Edge}{v:Value}
  (h:pev tab e a=V v) (c:Nat.blt d n=true) (b:RunD prog n Q k all w l ((d,v)::e)):RunD prog n Q k all w (⟨V d,a,t,ps,af,U⟩::l) e:=d_p qa h c b
section
variable{P:Program}{n:Nat}{Q:Exit->Act->World->Prop}{k:List It}{e:Env}{w:World}
theorem zSR{c:Nat}{a:List Oper}{b:Code}(h:Run P n Q (.ops a.toArray a::.code b::k) e w):Run P n Q (.code (.seq (.region c a.toArray false) b)::k) e w:=qb0 <|qi0 h
theorem zKSR{c:Nat}{a:List Oper}{b:Code}(h:Run P n Q (.ops a.toArray a::.code b::k) e w):Run P n Q (.code .skip::.code (.seq (.region c a.toArray false) b)::k) e w:=qfv <|qb0 <|qi0 h
theorem zNSR{a1:Array Oper}{c:Nat}{a:List Oper}{b:Code}(h:Run P n Q (.ops a.toArray a::.code b::k) e w):Run P n Q (.ops a1 []::.code (.seq (.region c a.toArray false) b)::k) e w:=qbe <|qb0 <|qi0 h
theorem zKS{a:Code}{b:Code}(h:Run P n Q (.code a::.code b::k) e w):Run P n Q (.code .skip::.code (.seq a b)::k) e w:=qfv <|qb0 h
theorem zNS{a1:Array Oper}{a:Code}{b:Code}(h:Run P n Q (.code a::.code b::k) e w):Run P n Q (.ops a1 []::.code (.seq a b)::k) e w:=qbe <|qb0 h
theorem zNSS{a1:Array Oper}{b:Code}{c:Code}{a:Code}(h:Run P n Q (.code b::.code c::.code a::k) e w):Run P n Q (.ops a1 []::.code (.seq (.seq b c) a)::k) e w:=qbe <|qb0 <|qb0 h
theorem zKSB{a:Nat}{c:Code}{b:Code}(h:Run P n Q (.code c::.blk a::.code b::k) e w):Run P n Q (.code .skip::.code (.seq (.block a c) b)::k) e w:=qfv <|qb0 <|ql h
theorem zKSBSR{b:Nat}{f:Nat}{a:List Oper}{d:Code}{c:Code}(h:Run P n Q (.ops a.toArray a::.code d::.blk b::.code c::k) e w):Run P n Q (.code .skip::.code (.seq (.block b (.seq (.region f a.toArray false) d)) c)::k) e w:=qfv <|qb0 <|ql <|qb0 <|qi0 h
theorem zNE{a1:Array Oper}{a:Nat}(h:Run P n Q (k) e w):Run P n Q (.ops a1 []::.blk a::k) e w:=qbe <|qwv h
theorem zSS{b:Code}{c:Code}{a:Code}(h:Run P n Q (.code b::.code c::.code a::k) e w):Run P n Q (.code (.seq (.seq b c) a)::k) e w:=qb0 <|qb0 h
theorem zKSS{b:Code}{c:Code}{a:Code}(h:Run P n Q (.code b::.code c::.code a::k) e w):Run P n Q (.code .skip::.code (.seq (.seq b c) a)::k) e w:=qfv <|qb0 <|qb0 h
end
section
variable{w0 w:World}{L:List Ch}{n:Nat}{Q:Exit->Act->World->Prop}{k k':List It}{e e':Env}{all:Array Oper}{l l':List Oper}{z:List Nat}
theorem X0(m:Nat)(a:xs tab n m [] k e [] []=V (k',e',z,z))(b:Run prog n Q k' e' w):Run prog n Q k e w:=((qrx (P:=prog) (Q:=Q) (w:=w) qa m _ _ _ _ _ _ _ _ _ (fun _ h=>by cases h) rfl a).2 rfl).2 b
theorem Y0(m:Nat)(a:xd tab n all m [] l e [] []=V (l',e',z,z))(b:RunD prog n Q k all w l' e'):RunD prog n Q k all w l e:=((qxB (P:=prog) (Q:=Q) (k:=k) (w:=w) (all:=all) qa m _ _ _ _ _ _ _ _ _ (fun _ h=>by cases h) rfl a).2 rfl).2 b
theorem X1(m:Nat)(i0:Nat){b0 b:Nat}{a:List Value}(h:SH w0 w L)(c:(L[i0]?,xs tab n m [(b0,a)] k e [] [])=(V (oX b0 a b),V (k',e',z,z)))(f:Run prog n Q k' e' w):Run prog n Q k e w:=by
 simp only[Prod.mk.injEq] at c;exact((qrx (P:=prog) (Q:=Q) (w:=w) qa m _ _ _ _ _ _ _ _ _ (fun p d=>by
  simp only[jK,jz,or_false] at d;rcases d with rfl
  .exact h.box i0 c.1) Z c.2).2 Z).2 f
theorem Y1(m:Nat)(i0:Nat){b0 b:Nat}{a:List Value}(h:SH w0 w L)(c:(L[i0]?,xd tab n all m [(b0,a)] l e [] [])=(V (oX b0 a b),V (l',e',z,z)))(f:RunD prog n Q k all w l' e'):RunD prog n Q k all w l e:=by
 simp only[Prod.mk.injEq] at c;exact((qxB (P:=prog) (Q:=Q) (k:=k) (w:=w) (all:=all) qa m _ _ _ _ _ _ _ _ _ (fun p d=>by
  simp only[jK,jz,or_false] at d;rcases d with rfl
  .exact h.box i0 c.1) Z c.2).2 Z).2 f
theorem X2(m:Nat)(i0 b:Nat){b0 c:Nat}{a:List Value}{b1 d:Nat}{cs1:List Value}(h:SH w0 w L)(f:(L[i0]?,L[b]?,xs tab n m [(b0,a),(b1,cs1)] k e [] [])=(V (oX b0 a c),V (oX b1 cs1 d),V (k',e',z,z)))(i:Run prog n Q k' e' w):Run prog n Q k e w:=by
 simp only[Prod.mk.injEq] at f;exact((qrx (P:=prog) (Q:=Q) (w:=w) qa m _ _ _ _ _ _ _ _ _ (fun p g=>by
  simp only[jK,jz,or_false] at g;rcases g with rfl|rfl
  .exact h.box i0 f.1
  .exact h.box b f.2.1) Z f.2.2).2 Z).2 i
theorem X3(m:Nat)(i0 b c:Nat){b0 d:Nat}{a:List Value}{b1 f:Nat}{cs1:List Value}{b2 g:Nat}{cs2:List Value}(h:SH w0 w L)(i:(L[i0]?,L[b]?,L[c]?,xs tab n m [(b0,a),(b1,cs1),(b2,cs2)] k e [] [])=(V (oX b0 a d),V (oX b1 cs1 f),V (oX b2 cs2 g),V (k',e',z,z)))(o:Run prog n Q k' e' w):Run prog n Q k e w:=by
 simp only[Prod.mk.injEq] at i;exact((qrx (P:=prog) (Q:=Q) (w:=w) qa m _ _ _ _ _ _ _ _ _ (fun p l=>by
  simp only[jK,jz,or_false] at l;rcases l with rfl|rfl|rfl
  .exact h.box i0 i.1
  .exact h.box b i.2.1
  .exact h.box c i.2.2.1) Z i.2.2.2).2 Z).2 o
theorem X4(m:Nat)(i0 b c d:Nat){b0 f:Nat}{a:List Value}{b1 g:Nat}{cs1:List Value}{b2 i:Nat}{cs2:List Value}{b3 l:Nat}{cs3:List Value}(h:SH w0 w L)(o:(L[i0]?,L[b]?,L[c]?,L[d]?,xs tab n m [(b0,a),(b1,cs1),(b2,cs2),(b3,cs3)] k e [] [])=(V (oX b0 a f),V (oX b1 cs1 g),V (oX b2 cs2 i),V (oX b3 cs3 l),V (k',e',z,z)))(s:Run prog n Q k' e' w):Run prog n Q k e w:=by
 simp only[Prod.mk.injEq] at o;exact((qrx (P:=prog) (Q:=Q) (w:=w) qa m _ _ _ _ _ _ _ _ _ (fun p r=>by
  simp only[jK,jz,or_false] at r;rcases r with rfl|rfl|rfl|rfl
  .exact h.box i0 o.1
  .exact h.box b o.2.1
  .exact h.box c o.2.2.1
  .exact h.box d o.2.2.2.1) Z o.2.2.2.2).2 Z).2 s
theorem X5(m:Nat)(i0 c d f g:Nat){b0 i:Nat}{a:List Value}{b1 l:Nat}{cs1:List Value}{b2 o:Nat}{cs2:List Value}{b3 r:Nat}{cs3:List Value}{b s:Nat}{cs4:List Value}(h:SH w0 w L)(t:(L[i0]?,L[c]?,L[d]?,L[f]?,L[g]?,xs tab n m [(b0,a),(b1,cs1),(b2,cs2),(b3,cs3),(b,cs4)] k e [] [])=(V (oX b0 a i),V (oX b1 cs1 l),V (oX b2 cs2 o),V (oX b3 cs3 r),V (oX b cs4 s),V (k',e',z,z)))(v:Run prog n Q k' e' w):Run prog n Q k e w:=by
 simp only[Prod.mk.injEq] at t;exact((qrx (P:=prog) (Q:=Q) (w:=w) qa m _ _ _ _ _ _ _ _ _ (fun p u=>by
  simp only[jK,jz,or_false] at u;rcases u with rfl|rfl|rfl|rfl|rfl
  .exact h.box i0 t.1
  .exact h.box c t.2.1
  .exact h.box d t.2.2.1
  .exact h.box f t.2.2.2.1
  .exact h.box g t.2.2.2.2.1) Z t.2.2.2.2.2).2 Z).2 v
end
section
variable{w0 w:World}{L:List Ch}{n:Nat}{Q:Exit->Act->World->Prop}{k:List It}{e:Env}{all:Array Oper}{l:List Oper}
theorem zp1{a:Op}{b f:Nat}{s0:String}{d:Array Edge}{c:Value}(h:(pev tab (e) a,Nat.blt b n)=(V c,true))(g:Run prog n Q (.ops all l::k) ((b,c)::e) w):Run prog n Q (.ops all (⟨V b,a,f,s0,d,U⟩::l)::k) e w:=by
 have H:=h;simp only[Prod.mk.injEq] at H;exact rp (H.1) (H.2) (g)
theorem zd1{a:Op}{b f:Nat}{s0:String}{d:Array Edge}{c:Value}(h:(pev tab (e) a,Nat.blt b n)=(V c,true))(g:RunD prog n Q k all w l ((b,c)::e)):RunD prog n Q k all w (⟨V b,a,f,s0,d,U⟩::l) e:=by
 have H:=h;simp only[Prod.mk.injEq] at H;exact dp (H.1) (H.2) (g)
theorem zp2{a:Op}{c m:Nat}{s0:String}{i:Array Edge}{f:Value}{b:Op}{d o:Nat}{s1:String}{f1:Array Edge}{g:Value}(h:(pev tab (e) a,Nat.blt c n,pev tab ((c,f)::e) b,Nat.blt d n)=(V f,true,V g,true))(p:Run prog n Q (.ops all l::k) ((d,g)::(c,f)::e) w):Run prog n Q (.ops all (⟨V c,a,m,s0,i,U⟩::⟨V d,b,o,s1,f1,U⟩::l)::k) e w:=by
 have H:=h;simp only[Prod.mk.injEq] at H;exact rp (H.1) (H.2.1) (rp (H.2.2.1) (H.2.2.2) (p))
theorem zd2{a:Op}{c m:Nat}{s0:String}{i:Array Edge}{f:Value}{b:Op}{d o:Nat}{s1:String}{f1:Array Edge}{g:Value}(h:(pev tab (e) a,Nat.blt c n,pev tab ((c,f)::e) b,Nat.blt d n)=(V f,true,V g,true))(p:RunD prog n Q k all w l ((d,g)::(c,f)::e)):RunD prog n Q k all w (⟨V c,a,m,s0,i,U⟩::⟨V d,b,o,s1,f1,U⟩::l) e:=by
 have H:=h;simp only[Prod.mk.injEq] at H;exact dp (H.1) (H.2.1) (dp (H.2.2.1) (H.2.2.2) (p))
theorem zp3{b:Op}{a r:Nat}{s0:String}{o:Array Edge}{g:Value}{c:Op}{f s:Nat}{s1:String}{f1:Array Edge}{i:Value}{d:Op}{d2 t:Nat}{s2:String}{p:Array Edge}{m:Value}(h:(pev tab (e) b,Nat.blt a n,pev tab ((a,g)::e) c,Nat.blt f n,pev tab ((f,i)::(a,g)::e) d,Nat.blt d2 n)=(V g,true,V i,true,V m,true))(u:Run prog n Q (.ops all l::k) ((d2,m)::(f,i)::(a,g)::e) w):Run prog n Q (.ops all (⟨V a,b,r,s0,o,U⟩::⟨V f,c,s,s1,f1,U⟩::⟨V d2,d,t,s2,p,U⟩::l)::k) e w:=by
 have H:=h;simp only[Prod.mk.injEq] at H;exact rp (H.1) (H.2.1) (rp (H.2.2.1) (H.2.2.2.1) (rp (H.2.2.2.2.1) (H.2.2.2.2.2) (u)))
theorem zd3{b:Op}{a r:Nat}{s0:String}{o:Array Edge}{g:Value}{c:Op}{f s:Nat}{s1:String}{f1:Array Edge}{i:Value}{d:Op}{d2 t:Nat}{s2:String}{p:Array Edge}{m:Value}(h:(pev tab (e) b,Nat.blt a n,pev tab ((a,g)::e) c,Nat.blt f n,pev tab ((f,i)::(a,g)::e) d,Nat.blt d2 n)=(V g,true,V i,true,V m,true))(u:RunD prog n Q k all w l ((d2,m)::(f,i)::(a,g)::e)):RunD prog n Q k all w (⟨V a,b,r,s0,o,U⟩::⟨V f,c,s,s1,f1,U⟩::⟨V d2,d,t,s2,p,U⟩::l) e:=by
 have H:=h;simp only[Prod.mk.injEq] at H;exact dp (H.1) (H.2.1) (dp (H.2.2.1) (H.2.2.2.1) (dp (H.2.2.2.2.1) (H.2.2.2.2.2) (u)))
theorem zp4{c:Op}{a x:Nat}{s0:String}{s:Array Edge}{i:Value}{d:Op}{b y:Nat}{s1:String}{f1:Array Edge}{m:Value}{f:Op}{d2 z:Nat}{s2:String}{t:Array Edge}{p:Value}{g:Op}{o A:Nat}{v:String}{u:Array Edge}{r:Value}(h:(pev tab (e) c,Nat.blt a n,pev tab ((a,i)::e) d,Nat.blt b n,pev tab ((b,m)::(a,i)::e) f,Nat.blt d2 n,pev tab ((d2,p)::(b,m)::(a,i)::e) g,Nat.blt o n)=(V i,true,V m,true,V p,true,V r,true))(B:Run prog n Q (.ops all l::k) ((o,r)::(d2,p)::(b,m)::(a,i)::e) w):Run prog n Q (.ops all (⟨V a,c,x,s0,s,U⟩::⟨V b,d,y,s1,f1,U⟩::⟨V d2,f,z,s2,t,U⟩::⟨V o,g,A,v,u,U⟩::l)::k) e w:=by
 have H:=h;simp only[Prod.mk.injEq] at H;exact rp (H.1) (H.2.1) (rp (H.2.2.1) (H.2.2.2.1) (rp (H.2.2.2.2.1) (H.2.2.2.2.2.1) (rp (H.2.2.2.2.2.2.1) (H.2.2.2.2.2.2.2) (B))))
theorem zd4{c:Op}{a x:Nat}{s0:String}{s:Array Edge}{i:Value}{d:Op}{b y:Nat}{s1:String}{f1:Array Edge}{m:Value}{f:Op}{d2 z:Nat}{s2:String}{t:Array Edge}{p:Value}{g:Op}{o A:Nat}{v:String}{u:Array Edge}{r:Value}(h:(pev tab (e) c,Nat.blt a n,pev tab ((a,i)::e) d,Nat.blt b n,pev tab ((b,m)::(a,i)::e) f,Nat.blt d2 n,pev tab ((d2,p)::(b,m)::(a,i)::e) g,Nat.blt o n)=(V i,true,V m,true,V p,true,V r,true))(B:RunD prog n Q k all w l ((o,r)::(d2,p)::(b,m)::(a,i)::e)):RunD prog n Q k all w (⟨V a,c,x,s0,s,U⟩::⟨V b,d,y,s1,f1,U⟩::⟨V d2,f,z,s2,t,U⟩::⟨V o,g,A,v,u,U⟩::l) e:=by
 have H:=h;simp only[Prod.mk.injEq] at H;exact dp (H.1) (H.2.1) (dp (H.2.2.1) (H.2.2.2.1) (dp (H.2.2.2.2.1) (H.2.2.2.2.2.1) (dp (H.2.2.2.2.2.2.1) (H.2.2.2.2.2.2.2) (B))))
theorem zp5{d:Op}{a C:Nat}{s0:String}{v:Array Edge}{c:Value}{f:Op}{b D:Nat}{s1:String}{f1:Array Edge}{o:Value}{g:Op}{d2 F:Nat}{s2:String}{x:Array Edge}{r:Value}{i:Op}{p I:Nat}{A:String}{y:Array Edge}{t:Value}{m:Op}{s J:Nat}{B:String}{z:Array Edge}{u:Value}(h:(pev tab (e) d,Nat.blt a n,pev tab ((a,c)::e) f,Nat.blt b n,pev tab ((b,o)::(a,c)::e) g,Nat.blt d2 n,pev tab ((d2,r)::(b,o)::(a,c)::e) i,Nat.blt p n,pev tab ((p,t)::(d2,r)::(b,o)::(a,c)::e) m,Nat.blt s n)=(V c,true,V o,true,V r,true,V t,true,V u,true))(K:Run prog n Q (.ops all l::k) ((s,u)::(p,t)::(d2,r)::(b,o)::(a,c)::e) w):Run prog n Q (.ops all (⟨V a,d,C,s0,v,U⟩::⟨V b,f,D,s1,f1,U⟩::⟨V d2,g,F,s2,x,U⟩::⟨V p,i,I,A,y,U⟩::⟨V s,m,J,B,z,U⟩::l)::k) e w:=by
 have H:=h;simp only[Prod.mk.injEq] at H;exact rp (H.1) (H.2.1) (rp (H.2.2.1) (H.2.2.2.1) (rp (H.2.2.2.2.1) (H.2.2.2.2.2.1) (rp (H.2.2.2.2.2.2.1) (H.2.2.2.2.2.2.2.1) (rp (H.2.2.2.2.2.2.2.2.1) (H.2.2.2.2.2.2.2.2.2) (K)))))
theorem zd5{d:Op}{a C:Nat}{s0:String}{v:Array Edge}{c:Value}{f:Op}{b D:Nat}{s1:String}{f1:Array Edge}{o:Value}{g:Op}{d2 F:Nat}{s2:String}{x:Array Edge}{r:Value}{i:Op}{p I:Nat}{A:String}{y:Array Edge}{t:Value}{m:Op}{s J:Nat}{B:String}{z:Array Edge}{u:Value}(h:(pev tab (e) d,Nat.blt a n,pev tab ((a,c)::e) f,Nat.blt b n,pev tab ((b,o)::(a,c)::e) g,Nat.blt d2 n,pev tab ((d2,r)::(b,o)::(a,c)::e) i,Nat.blt p n,pev tab ((p,t)::(d2,r)::(b,o)::(a,c)::e) m,Nat.blt s n)=(V c,true,V o,true,V r,true,V t,true,V u,true))(K:RunD prog n Q k all w l ((s,u)::(p,t)::(d2,r)::(b,o)::(a,c)::e)):RunD prog n Q k all w (⟨V a,d,C,s0,v,U⟩::⟨V b,f,D,s1,f1,U⟩::⟨V d2,g,F,s2,x,U⟩::⟨V p,i,I,A,y,U⟩::⟨V s,m,J,B,z,U⟩::l) e:=by
 have H:=h;simp only[Prod.mk.injEq] at H;exact dp (H.1) (H.2.1) (dp (H.2.2.1) (H.2.2.2.1) (dp (H.2.2.2.2.1) (H.2.2.2.2.2.1) (dp (H.2.2.2.2.2.2.1) (H.2.2.2.2.2.2.2.1) (dp (H.2.2.2.2.2.2.2.2.1) (H.2.2.2.2.2.2.2.2.2) (K)))))
theorem zl(i j:Nat){d t ty:Nat}{x:Operand}{c:TE}{ps:String}{af:Array Edge}{v:Value}{b:Nat}{cs:List Value}{g:TypeId}(h:SH w0 w L)(a:(L[i]?,opv e x,tab.get t,ld c cs j,Nat.blt d n)=(V (oX b cs g),V (.pointer (V ⟨b,0+j,U⟩)),V c,V v,true))
  (f:Run prog n Q (.ops all l::k) ((d,v)::e) w):Run prog n Q (.ops all (⟨V d,.load t x,ty,ps,af,U⟩::l)::k) e w:=by
 simp only[Prod.mk.injEq] at a;exact r_v (qbP qa (h.box i a.1) (j:=j) a.2.1 a.2.2.1 a.2.2.2.1) a.2.2.2.2 f
theorem zc(j:Nat){d t ty:Nat}{x:Operand}{c:TE}{ps:String}{af:Array Edge}{v:Value}{b o:Nat}{cs:List Value}(h:CellsAt w b o cs)(a:(opv e x,tab.get t,ld c cs j,Nat.blt d n)=(V (.pointer (V ⟨b,o+j,U⟩)),V c,V v,true))
  (f:Run prog n Q (.ops all l::k) ((d,v)::e) w):Run prog n Q (.ops all (⟨V d,.load t x,ty,ps,af,U⟩::l)::k) e w:=by
 simp only[Prod.mk.injEq] at a;exact r_v (qbP qa h (j:=j) a.1 a.2.1 a.2.2.1) a.2.2.2 f
theorem zdc(j:Nat){d t ty:Nat}{x:Operand}{c:TE}{ps:String}{af:Array Edge}{v:Value}{b o:Nat}{cs:List Value}(h:CellsAt w b o cs)(a:(opv e x,tab.get t,ld c cs j,Nat.blt d n)=(V (.pointer (V ⟨b,o+j,U⟩)),V c,V v,true))
  (g:RunD prog n Q k all w l ((d,v)::e)):RunD prog n Q k all w (⟨V d,.load t x,ty,ps,af,U⟩::l) e:=by
 simp only[Prod.mk.injEq] at a;exact d_v (fun _ f=>qbP qa (h.below f) (j:=j) a.1 a.2.1 a.2.2.1) a.2.2.2 g
theorem zx{x i:Operand}{t ty d el m:Nat}{r a:TE}{ps:String}{af:Array Edge}{p:Option Addr}{h c:Nat}{kd:IntKind}{iv:Int}{b o q:Nat}(u:p=V ⟨b,o,U⟩)(v:q=o+iv.toNat*m)(g:0<=iv/\iv<h)(f:(opv e x,opv e i,tab.get t,r.kind,tab.get el,a.size,Nat.blt d n)=(V (oS p h c),V (.int kd iv),V r,TK.slice el,V a,m,true))(s:Run prog n Q (.ops all l::k) ((d,.pointer (V ⟨b,q,U⟩))::e) w):Run prog n Q (.ops all (⟨V d,.indexAddr t x i,ty,ps,af,U⟩::l)::k) e w:=by
 simp only[Prod.mk.injEq] at f;exact r_v (qt0 qa u v g f.1 f.2.1 f.2.2.1 f.2.2.2.1 f.2.2.2.2.1 f.2.2.2.2.2.1) f.2.2.2.2.2.2 s
theorem zxe{x i:Operand}{t ty d el m:Nat}{h a:TE}{ps:String}{af:Array Edge}{p:Option Addr}{g c:Nat}{kd:IntKind}{iv:Int}{b o q:Nat}{α:Prop}(u:p=V ⟨b,o,U⟩)(v:q=o+iv.toNat*m)(f:0<=iv/\iv<g/\α)(r:(opv e x,opv e i,tab.get t,h.kind,tab.get el,a.size,Nat.blt d n)=(V (oS p g c),V (.int kd iv),V h,TK.slice el,V a,m,true))(s:Run prog n Q (.ops all l::k) ((d,.pointer (V ⟨b,q,U⟩))::e) w):Run prog n Q (.ops all (⟨V d,.indexAddr t x i,ty,ps,af,U⟩::l)::k) e w:=zx u v ⟨f.1,f.2.1⟩ r s
theorem zdx{x i:Operand}{t ty d el m:Nat}{r a:TE}{ps:String}{af:Array Edge}{p:Option Addr}{h c:Nat}{kd:IntKind}{iv:Int}{b o q:Nat}(u:p=V ⟨b,o,U⟩)(v:q=o+iv.toNat*m)(g:0<=iv/\iv<h)(f:(opv e x,opv e i,tab.get t,r.kind,tab.get el,a.size,Nat.blt d n)=(V (oS p h c),V (.int kd iv),V r,TK.slice el,V a,m,true))(s:RunD prog n Q k all w l ((d,.pointer (V ⟨b,q,U⟩))::e)):RunD prog n Q k all w (⟨V d,.indexAddr t x i,ty,ps,af,U⟩::l) e:=by
 simp only[Prod.mk.injEq] at f;exact d_v (fun _ _=>qt0 qa u v g f.1 f.2.1 f.2.2.1 f.2.2.2.1 f.2.2.2.2.1 f.2.2.2.2.2.1) f.2.2.2.2.2.2 s
theorem zdxe{x i:Operand}{t ty d el m:Nat}{h a:TE}{ps:String}{af:Array Edge}{p:Option Addr}{g c:Nat}{kd:IntKind}{iv:Int}{b o q:Nat}{α:Prop}(u:p=V ⟨b,o,U⟩)(v:q=o+iv.toNat*m)(f:0<=iv/\iv<g/\α)(r:(opv e x,opv e i,tab.get t,h.kind,tab.get el,a.size,Nat.blt d n)=(V (oS p g c),V (.int kd iv),V h,TK.slice el,V a,m,true))(s:RunD prog n Q k all w l ((d,.pointer (V ⟨b,q,U⟩))::e)):RunD prog n Q k all w (⟨V d,.indexAddr t x i,ty,ps,af,U⟩::l) e:=zdx u v ⟨f.1,f.2.1⟩ r s
theorem zs(i:Nat){t ty:Nat}{ps:String}{af:Array Edge}{x v:Operand}{D:TE}{b j:Nat}{cs A z:List Value}{C:TypeId}{u:Value}{L':List Ch}(h:SH w0 w L)
  (B:(L[i]?,opv e x,opv e v,cellsL u,tab.get t,Nat.beq A.length D.size,Nat.ble (j+A.length) cs.length,ones A,splN cs j A,setN L i (oX b z C))=(V (oX b cs C),V (.pointer (V ⟨b,j,U⟩)),V u,A,V D,true,true,true,V z,V L'))
  (F:∀w',SH w0 w' L'->Run prog n Q (.ops all l::k) e w'):Run prog n Q (.ops all (⟨U,.store t x v,ty,ps,af,U⟩::l)::k) e w:=by
 simp only[Prod.mk.injEq] at B;obtain⟨d,f,g,m,o,p,r,s,y,a⟩:=B;subst m;have e1:=qsh y;have c:=qum a;subst e1 c;exact qxy qa i h d f g o p r s F
end
section
variable{P:Program}{fnc:Func}{R:Ending->World->Prop}{n:Nat}{k:List It}{e:Env}{w0 w:World}{ops:Array Oper}{st:List Nat}{fuel:Nat}
theorem M0(K:Nat)(is:List Nat){C:World->Prop}{m K0 f a:Nat}{e':Env}{z:List Nat}(b:C w)(c:xa tab n ops is [] f e [] []=V (a,e',z,z))
  (d:RunA prog n (bodyPost prog fnc R) k ops st C a (bits m K) e' w) (g:oka ops st is (bits m K0) (bits m K)=true:=by kernel_rfl):RunA prog n (bodyPost prog fnc R) k ops st C f (bits m K0) e w:=by
 exact((qsu (C:=C) (w:=w) (P:=prog) qa b is _ _ _ _ _ _ _ _ _ _ _ (fun _ h=>by cases h) rfl c g).2 rfl).2 d
theorem G0(K:Nat)(is:List Nat){C:World->Prop}{m K0 f a:Nat}{e':Env}{z:List Nat}{all:Array Oper}(b:C w)(c:xa tab n ops is [] f e [] []=V (a,e',z,z))
  (d:RunA prog n (bodyPost prog fnc R) k ops st C a (bits m K) e' w) (g:oka ops st is (bits m K0) (bits m K)=true:=by kernel_rfl):Run prog n (bodyPost prog fnc R) (.ops all []::.goal (NextA prog n (bodyPost prog fnc R) k ops st C f (bits m K0))::k) e w:=
 Ag b (M0 K is (C:=C) b c d g)
theorem M1(K:Nat)(is:List Nat)(i0:Nat){b0 b:Nat}{a:List Value}{LA:List Ch}{m K0 f d:Nat}{e':Env}{z:List Nat}(h:SH w0 w LA)(c:(LA[i0]?,xa tab n ops is [(b0,a)] f e [] [])=(V (oX b0 a b),V (d,e',z,z)))
  (i:RunA prog n (bodyPost prog fnc R) k ops st (fun w'=>SH w0 w' LA) d (bits m K) e' w) (l:oka ops st is (bits m K0) (bits m K)=true:=by kernel_rfl):RunA prog n (bodyPost prog fnc R) k ops st (fun w'=>SH w0 w' LA) f (bits m K0) e w:=by
 simp only[Prod.mk.injEq] at c;exact((qsu (C:=(fun w'=>SH w0 w' LA)) (w:=w) (P:=prog) qa h is _ _ _ _ _ _ _ _ _ _ _ (fun p g _ o=>by
  simp only[jK,jz,or_false] at g;rcases g with rfl
  .exact SH.box o i0 c.1) Z c.2 l).2 Z).2 i
theorem M2(K:Nat)(is:List Nat)(i0 b:Nat){b0 c:Nat}{a:List Value}{b1 d:Nat}{cs1:List Value}{LA:List Ch}{m K0 f h:Nat}{e':Env}{z:List Nat}(o:SH w0 w LA)(g:(LA[i0]?,LA[b]?,xa tab n ops is [(b0,a),(b1,cs1)] f e [] [])=(V (oX b0 a c),V (oX b1 cs1 d),V (h,e',z,z)))
  (r:RunA prog n (bodyPost prog fnc R) k ops st (fun w'=>SH w0 w' LA) h (bits m K) e' w) (s:oka ops st is (bits m K0) (bits m K)=true:=by kernel_rfl):RunA prog n (bodyPost prog fnc R) k ops st (fun w'=>SH w0 w' LA) f (bits m K0) e w:=by
 simp only[Prod.mk.injEq] at g;exact((qsu (C:=(fun w'=>SH w0 w' LA)) (w:=w) (P:=prog) qa o is _ _ _ _ _ _ _ _ _ _ _ (fun p i _ l=>by
  simp only[jK,jz,or_false] at i;rcases i with rfl|rfl
  .exact SH.box l i0 g.1
  .exact SH.box l b g.2.1) Z g.2.2 s).2 Z).2 r
theorem M3(K:Nat)(is:List Nat)(i0 b c:Nat){b0 d:Nat}{a:List Value}{b1 g:Nat}{cs1:List Value}{b2 h:Nat}{cs2:List Value}{LA:List Ch}{m K0 f o:Nat}{e':Env}{z:List Nat}(s:SH w0 w LA)(i:(LA[i0]?,LA[b]?,LA[c]?,xa tab n ops is [(b0,a),(b1,cs1),(b2,cs2)] f e [] [])=(V (oX b0 a d),V (oX b1 cs1 g),V (oX b2 cs2 h),V (o,e',z,z)))
  (t:RunA prog n (bodyPost prog fnc R) k ops st (fun w'=>SH w0 w' LA) o (bits m K) e' w) (u:oka ops st is (bits m K0) (bits m K)=true:=by kernel_rfl):RunA prog n (bodyPost prog fnc R) k ops st (fun w'=>SH w0 w' LA) f (bits m K0) e w:=by
 simp only[Prod.mk.injEq] at i;exact((qsu (C:=(fun w'=>SH w0 w' LA)) (w:=w) (P:=prog) qa s is _ _ _ _ _ _ _ _ _ _ _ (fun p r _ l=>by
  simp only[jK,jz,or_false] at r;rcases r with rfl|rfl|rfl
  .exact SH.box l i0 i.1
  .exact SH.box l b i.2.1
  .exact SH.box l c i.2.2.1) Z i.2.2.2 u).2 Z).2 t
theorem M4(K:Nat)(is:List Nat)(i0 b c d:Nat){b0 g:Nat}{a:List Value}{b1 h:Nat}{cs1:List Value}{b2 i:Nat}{cs2:List Value}{b3 l:Nat}{cs3:List Value}{LA:List Ch}{m K0 f s:Nat}{e':Env}{z:List Nat}(u:SH w0 w LA)(o:(LA[i0]?,LA[b]?,LA[c]?,LA[d]?,xa tab n ops is [(b0,a),(b1,cs1),(b2,cs2),(b3,cs3)] f e [] [])=(V (oX b0 a g),V (oX b1 cs1 h),V (oX b2 cs2 i),V (oX b3 cs3 l),V (s,e',z,z)))
  (v:RunA prog n (bodyPost prog fnc R) k ops st (fun w'=>SH w0 w' LA) s (bits m K) e' w) (x:oka ops st is (bits m K0) (bits m K)=true:=by kernel_rfl):RunA prog n (bodyPost prog fnc R) k ops st (fun w'=>SH w0 w' LA) f (bits m K0) e w:=by
 simp only[Prod.mk.injEq] at o;exact((qsu (C:=(fun w'=>SH w0 w' LA)) (w:=w) (P:=prog) qa u is _ _ _ _ _ _ _ _ _ _ _ (fun p t _ r=>by
  simp only[jK,jz,or_false] at t;rcases t with rfl|rfl|rfl|rfl
  .exact SH.box r i0 o.1
  .exact SH.box r b o.2.1
  .exact SH.box r c o.2.2.1
  .exact SH.box r d o.2.2.2.1) Z o.2.2.2.2 x).2 Z).2 v
theorem Aw(i K:Nat){C:World->Prop}{m K0 d:Nat}{b:Op}{t:Nat}{ps:String}{af:Array Edge}{v:Value}(l:∀w',C w'->Val prog n e ⟨V d,b,t,ps,af,U⟩ w' v)(c:C w)(a:(ops[i]?,Nat.blt d n)=(V (⟨V d,b,t,ps,af,U⟩:Oper),true))
  (g:RunA prog n (bodyPost prog fnc R) k ops st C fuel (bits m K) ((d,v)::e) w) (h:(bits m K0).setIfInBounds i true=bits m K:=by kernel_rfl)
  (f:(Region.noSelect ops&&Region.free .any ops (bits m K0) i&&(Region.ready .any ops (bits m K0)).contains i&&st.all (fun s=>!(Nat.beq s i)&&waitsB ops i s&&!((bits m K0).getD s true)))=true:=by kernel_rfl) :
  RunA prog n (bodyPost prog fnc R) k ops st C (fuel+1) (bits m K0) e w:=by
 simp only[Prod.mk.injEq] at a;exact qkd i a.1 _ h f l c a.2 g
theorem Al(i K j:Nat){LA:List Ch}{m K0 d t ty b o:Nat}{x:Operand}{c:TE}{ps:String}{af:Array Edge}{v:Value}{cs:List Value}(h:CellsAt w0 b o cs)(f:SH w0 w LA)
  (a:(ops[i]?,opv e x,tab.get t,ld c cs j,Nat.blt d n)=(V (⟨V d,.load t x,ty,ps,af,U⟩:Oper),V (.pointer (V ⟨b,o+j,U⟩)),V c,V v,true))
  (l:RunA prog n (bodyPost prog fnc R) k ops st (fun w'=>SH w0 w' LA) fuel (bits m K) ((d,v)::e) w) (p:(bits m K0).setIfInBounds i true=bits m K:=by kernel_rfl)
  (g:(Region.noSelect ops&&Region.free .any ops (bits m K0) i&&(Region.ready .any ops (bits m K0)).contains i&&st.all (fun s=>!(Nat.beq s i)&&waitsB ops i s&&!((bits m K0).getD s true)))=true:=by kernel_rfl) :
  RunA prog n (bodyPost prog fnc R) k ops st (fun w'=>SH w0 w' LA) (fuel+1) (bits m K0) e w:=by
 simp only[Prod.mk.injEq] at a;exact qkd i a.1 _ p g (fun w' r=>qbP qa (h.below r.below) (j:=j) a.2.1 a.2.2.1 a.2.2.2.1) f a.2.2.2.2 l
theorem Ax(i K:Nat){C:World->Prop}{m K0 d t ty el q:Nat}{x ix:Operand}{r a:TE}{ps:String}{af:Array Edge}{p:Option Addr}{h c l:Nat}{kd:IntKind}{iv:Int}{b o:Nat}(A:p=V ⟨b,o,U⟩)(B:q=o+iv.toNat*l)(g:0<=iv/\iv<h)(u:C w)
  (f:(ops[i]?,opv e x,opv e ix,tab.get t,r.kind,tab.get el,a.size,Nat.blt d n)=(V (⟨V d,.indexAddr t x ix,ty,ps,af,U⟩:Oper),V (oS p h c),V (.int kd iv),V r,TK.slice el,V a,l,true))
  (y:RunA prog n (bodyPost prog fnc R) k ops st C fuel (bits m K) ((d,.pointer (V ⟨b,q,U⟩))::e) w) (z:(bits m K0).setIfInBounds i true=bits m K:=by kernel_rfl)
  (v:(Region.noSelect ops&&Region.free .any ops (bits m K0) i&&(Region.ready .any ops (bits m K0)).contains i&&st.all (fun s=>!(Nat.beq s i)&&waitsB ops i s&&!((bits m K0).getD s true)))=true:=by kernel_rfl) :
  RunA prog n (bodyPost prog fnc R) k ops st C (fuel+1) (bits m K0) e w:=by
 simp only[Prod.mk.injEq] at f;exact qkd i f.1 _ z v (fun w' _=>qt0 qa A B g f.2.1 f.2.2.1 f.2.2.2.1 f.2.2.2.2.1 f.2.2.2.2.2.1 f.2.2.2.2.2.2.1) u f.2.2.2.2.2.2.2 y
theorem Ae(i K:Nat){C:World->Prop}{m K0 d t ty el q:Nat}{x ix:Operand}{l a:TE}{ps:String}{af:Array Edge}{p:Option Addr}{g c h:Nat}{kd:IntKind}{iv:Int}{b o:Nat}{α:Prop}(A:p=V ⟨b,o,U⟩)(B:q=o+iv.toNat*h)(f:0<=iv/\iv<g/\α)(r:C w)
  (v:(ops[i]?,opv e x,opv e ix,tab.get t,l.kind,tab.get el,a.size,Nat.blt d n)=(V (⟨V d,.indexAddr t x ix,ty,ps,af,U⟩:Oper),V (oS p g c),V (.int kd iv),V l,TK.slice el,V a,h,true))
  (y:RunA prog n (bodyPost prog fnc R) k ops st C fuel (bits m K) ((d,.pointer (V ⟨b,q,U⟩))::e) w) (z:(bits m K0).setIfInBounds i true=bits m K:=by kernel_rfl)
  (u:(Region.noSelect ops&&Region.free .any ops (bits m K0) i&&(Region.ready .any ops (bits m K0)).contains i&&st.all (fun s=>!(Nat.beq s i)&&waitsB ops i s&&!((bits m K0).getD s true)))=true:=by kernel_rfl) :
  RunA prog n (bodyPost prog fnc R) k ops st C (fuel+1) (bits m K0) e w:=Ax i K A B ⟨f.1,f.2.1⟩ r v y z u
theorem rb{a:Func}{L:List Ch}{x r:Bool}(h:SH w0 w L)(F:V x=V r)(b:res1 e a.results.toList=V (.bool x)) :
  Run prog n (bodyPost prog a fun e w'=>∃v,e=.returned v/\Below w0.heap.size w0 w'/\∃us,v=tup us/\GoVs.Vs w' (fresh w0 w') r us) (.code .ret::k) e w:=qyy qa h F (qun b)
theorem ri{a:Func}{L:List Ch}{x r:Int}(h:SH w0 w L)(F:V x=V r)(b:res1 e a.results.toList=V (vi x)) :
  Run prog n (bodyPost prog a fun e w'=>∃v,e=.returned v/\Below w0.heap.size w0 w'/\∃us,v=tup us/\GoVs.Vs w' (fresh w0 w') r us) (.code .ret::k) e w:=qyz qa h F (qun b)
theorem rO{a:Func}{L:List Ch}{α:Type}[GoT α]{r:α}{S:Nat->Prop}{cs:List Value}(i:Nat)(h:SH w0 w L)(hi:L[i]?=V (oW S r cs))(b:ResOk tab e w a.results.toList [oV α cs]) :
  Run prog n (bodyPost prog a fun e w'=>∃v,e=.returned v/\Below w0.heap.size w0 w'/\∃us,v=tup us/\GoVs.Vs w' (fresh w0 w') r us) (.code .ret::k) e w:=qW qa _ h b (PV.done h (qht (qI i h hi)))
theorem zV{ρ:Type}[GoVs ρ]{f:FuncId}{a:Func}{c:Code}{vs:List Value}{r:ρ}(m:Nat)(d:prog.funcs[f]?=V a)(b:(a.body,a.ntmps,Nat.ble vs.length m)=(V c,m,true))
  (h:SH w w []->Run prog m (bodyPost prog a fun e w'=>∃v,e=.returned v/\Below w.heap.size w w'/\∃us,v=tup us/\GoVs.Vs w' (fresh w w') r us) [.code c] (argEnv 0 vs) w):RetV prog f vs w r:=by
 simp only[Prod.mk.injEq] at b;exact qsC d b.1 b.2.1 b.2.2 h
end
section
variable{w0 w:World}{L:List Ch}{n:Nat}{Q:Exit->Act->World->Prop}{k:List It}{e:Env}{all:Array Oper}{l:List Oper}{d ty:Nat}{ps:String}{af:Array Edge}{x:Operand}{args:Array Operand}{ats:Array TypeId}{f:FuncId}{fi ca:Array Value}{av vs:List Value}{β:Type}{rr:β}
theorem zcI{F:Option Int}{g:Int->Option β}(h:SH w0 w L)(c:F.bind g=V rr)(m:∀{r},F=V r->RetV prog f vs w r)
  (b:(opv e x,opvs e args.toList,fi.toList++av++ca.toList,Nat.blt d n)=(V (.func (.func f) fi ca),V av,vs,true))
  (o:∀r w' ,SH w0 w' (L)->g r=V rr->Run prog n Q (.ops all l::k) ((d,vi r)::e) w') (a:qfd prog f:=by exact cA Z):Run prog n Q (.ops all (⟨V d,.call ⟨.value x,args,ats⟩,ty,ps,af,U⟩::l)::k) e w:=by
 obtain⟨r,p,c⟩:=qc c;simp only[Prod.mk.injEq] at b;exact qcI r h a (m p) b.1 b.2.1 b.2.2.1 b.2.2.2 (fun w'  i=>o r w'  i c)
theorem zcB{F:Option Bool}{g:Bool->Option β}(h:SH w0 w L)(c:F.bind g=V rr)(m:∀{r},F=V r->RetV prog f vs w r)
  (b:(opv e x,opvs e args.toList,fi.toList++av++ca.toList,Nat.blt d n)=(V (.func (.func f) fi ca),V av,vs,true))
  (o:∀r w' ,SH w0 w' (L)->g r=V rr->Run prog n Q (.ops all l::k) ((d,.bool r)::e) w') (a:qfd prog f:=by exact cA Z):Run prog n Q (.ops all (⟨V d,.call ⟨.value x,args,ats⟩,ty,ps,af,U⟩::l)::k) e w:=by
 obtain⟨r,p,c⟩:=qc c;simp only[Prod.mk.injEq] at b;exact qwZ r h a (m p) b.1 b.2.1 b.2.2.1 b.2.2.2 (fun w'  i=>o r w'  i c)
theorem zcS{F:Option ByteArray}{g:ByteArray->Option β}(h:SH w0 w L)(c:F.bind g=V rr)(m:∀{r},F=V r->RetV prog f vs w r)
  (b:(opv e x,opvs e args.toList,fi.toList++av++ca.toList,Nat.blt d n)=(V (.func (.func f) fi ca),V av,vs,true))
  (o:∀r w' ,SH w0 w' (L)->g r=V rr->Run prog n Q (.ops all l::k) ((d,.string r)::e) w') (a:qfd prog f:=by exact cA Z):Run prog n Q (.ops all (⟨V d,.call ⟨.value x,args,ats⟩,ty,ps,af,U⟩::l)::k) e w:=by
 obtain⟨r,p,c⟩:=qc c;simp only[Prod.mk.injEq] at b;exact qqb r h a (m p) b.1 b.2.1 b.2.2.1 b.2.2.2 (fun w'  i=>o r w'  i c)
theorem zcL{α:Type}[GoT α]{F:Option (List α)}{g:(List α)->Option β}(h:SH w0 w L)(i:F.bind g=V rr)(o:∀{r},F=V r->RetV prog f vs w r)
  (b:(opv e x,opvs e args.toList,fi.toList++av++ca.toList,Nat.blt d n)=(V (.func (.func f) fi ca),V av,vs,true))
  (s:∀r w' S p c,SH w0 w' (oW S r [oS p r.length c]::L)->g r=V rr->Run prog n Q (.ops all l::k) ((d,oS p r.length c)::e) w') (a:qfd prog f:=by exact cA Z):Run prog n Q (.ops all (⟨V d,.call ⟨.value x,args,ats⟩,ty,ps,af,U⟩::l)::k) e w:=by
 obtain⟨r,t,i⟩:=qc i;simp only[Prod.mk.injEq] at b;exact qkr r h a (o t) b.1 b.2.1 b.2.2.1 b.2.2.2 (fun w' S p c m=>s r w' S p c m i)
theorem zcO{α:Type}[GoT α]{F:Option α}{g:α->Option β}(h:SH w0 w L)(c:F.bind g=V rr)(m:∀{r},F=V r->RetV prog f vs w r)
  (b:(opv e x,opvs e args.toList,fi.toList++av++ca.toList,Nat.blt d n)=(V (.func (.func f) fi ca),V av,vs,true))
  (o:∀r w' S cs,SH w0 w' (oW S r cs::L)->g r=V rr->Run prog n Q (.ops all l::k) ((d,oV α cs)::e) w') (a:qfd prog f:=by exact cA Z):Run prog n Q (.ops all (⟨V d,.call ⟨.value x,args,ats⟩,ty,ps,af,U⟩::l)::k) e w:=by
 obtain⟨r,p,c⟩:=qc c;simp only[Prod.mk.injEq] at b;exact qmD r h a (m p) b.1 b.2.1 b.2.2.1 b.2.2.2 (fun w' S cs i=>o r w' S cs i c)
end
def noC:List Nat:=[0,1,253,283]
theorem allC:((List.range 296).all fun f=>noC.contains f || callB prog f)=true:=by kernel_rfl
theorem cA{f:Nat}(h:(Nat.blt f 296&&!noC.contains f)=true):qfd prog f:=by
 rw[jf,Nat.blt_eq,jA] at h;have:=List.all_eq_true.1 allC f (List.mem_range.2 h.1);rw[h.2] at this;exact qwm this
theorem cB(f:Nat)(h:(Nat.blt f 296&&!noC.contains f)=true):qfd prog f:=cA h
def qaA(_:Nat)(a:Int)(c:Int)(b:Int):Option Bool:=bif decide (a>=c) then V (decide (a<=b)) else V false
theorem qae{a_n low high}  {r:Bool}(F:qaA n a_n low high=V r):RetV prog 43 [vi a_n,vi low,vi high] w r:=by
 refine zV 15 func43 Z fun h=>X0 10 Z (qe (t:=10) F Z ?_ ?_)<;>intro F
 .exact X0 9 Z (rb h F Z)
 exact X0 6 Z (rb h F Z)
def qew(s:ByteArray):Nat->Int->Option (Flow Bool Int)|0,_=>U|n+1,a=>bif decide (a<(s.size:Int)) then((atS s a).bind fun d=>bif decide (d>=97) then(atS s a).bind fun f=>V (decide (f<=122)) else V false).bind fun b1=>((atS s a).bind fun b=>bif decide (b>=48) then(atS s a).bind fun c=>V (decide (c<=57)) else V false).bind fun b2=>bif (!b1) then bif b2 then bif (!(decide (a > 0))) then V (.ret false) else qew s n (W64 (a+1)) else V (.ret false) else qew s n (W64 (a+1)) else V (.nxt a)
def qgJ(n:Nat)(s:ByteArray):Option Bool:=(qew s n 0).bind fun|.ret r=>V r|.nxt _=>bif decide ((s.size:Int)>=1) then V (decide ((s.size:Int)<=8)) else V false
theorem qis{s}  {r:Bool}(F:qgJ n s=V r):RetV prog 106 [.string s] w r:=by
 refine zV 50 func106 Z fun h=>X0 9 Z ?_;obtain⟨o1,F,a⟩:=qc F;refine ql (rL (fun m e w'=>∃g,qew s m g=V o1/\e=[(0,.string s),(3,vi g)]/\SH w w' []) n ⟨_,F,rfl,h⟩ Z ?_);rintro v _ _ ⟨g,F,rfl,h⟩;rcases v with _|v
 .cases F
 refine X0 8 Z (qk Z F ?_ ?_)<;>intro F
 .refine X0 4 Z ?_;obtain⟨k,f,_,F,c⟩:=bindE F;refine qau (fun e w'=>∃b1,k b1=V o1/\e=[(0,.string s),(3,vi g),(4,.bool b1)]/\SH w w' []) ?_ ?_
  .refine X0 3 Z ?_;obtain⟨_,p,F⟩:=qc F;have z:=qnn p;refine r_v (qm7 qa z Z Z Z Z) Z (zp2 Z (qe (t:=16) F Z ?_ ?_))<;>intro F
   .refine X0 5 Z ?_;obtain⟨_,u,F⟩:=qc F;have A:=qnn u;refine r_v (qm7 qa A Z Z Z Z) Z (X0 5 Z ?_);cases qb F;exact rG ⟨_,c,rfl,h⟩ Z
   refine X0 7 Z ?_;cases qb F;exact rG ⟨_,c,rfl,h⟩ Z
  rintro _ _ ⟨b1,F,rfl,h⟩;subst f;refine qb0 ?_;obtain⟨i,d,_,F,b⟩:=bindE F;refine qau (fun e w'=>∃b2,i b2=V o1/\e=[(0,.string s),(3,vi g),(4,.bool b1),(5,.bool b2)]/\SH w w' []) ?_ ?_
  .refine X0 3 Z ?_;obtain⟨_,l,F⟩:=qc F;have x:=qnn l;refine r_v (qm7 qa x Z Z Z Z) Z (zp2 Z (qe (t:=26) F Z ?_ ?_))<;>intro F
   .refine X0 5 Z ?_;obtain⟨_,o,F⟩:=qc F;have y:=qnn o;refine r_v (qm7 qa y Z Z Z Z) Z (X0 5 Z ?_);cases qb F;exact rG ⟨_,b,rfl,h⟩ Z
   refine X0 7 Z ?_;cases qb F;exact rG ⟨_,b,rfl,h⟩ Z
  rintro _ _ ⟨b2,F,rfl,h⟩;subst d;refine X0 5 Z (qe (t:=34) F Z ?_ ?_)<;>intro F
  .refine X0 4 Z (qe (t:=36) F Z ?_ ?_)<;>intro F
   .refine X0 10 Z (qk Z F ?_ ?_)<;>intro F
    .refine X0 4 Z ?_;cases qb F;exact rb h a Z
    exact X0 7 Z (rK ⟨_,F,rfl,h⟩ Z)
   refine X0 8 Z (qb5 Z Z (X0 4 Z ?_));cases qb F;exact rb h a Z
  exact X0 8 Z (qa5 Z Z (X0 7 Z (rK ⟨_,F,rfl,h⟩ Z)))
 refine qt Z ?_;cases qb F;have F:=a;refine X0 6 Z (qe (t:=45) F Z ?_ ?_)<;>intro F
 .exact X0 9 Z (rb h F Z)
 exact X0 6 Z (rb h F Z)
def qfC(a_0:qL)(b:Int)(c:qaB):Nat->Int->Option (Flow (Int×Bool) Int)|0,_=>U|n+1,a=>bif decide (a<b) then(idx a_0.Ay a).bind fun d=>bif (d.Ba.toList==c.Ba.toList) then V (.ret (0,false)) else qfC a_0 b c n (W64 (a+1)) else V (.nxt a)
def qdr(a_0:qL):Nat->Int->Int->Option (Flow (Int×Bool) (Int×Int))|0,_,_=>U|n+1,c,a=>bif decide (a<(a_0.Ay.length:Int)) then(idx a_0.Ay a).bind fun b=>(qfC a_0 a b n 0).bind fun|.ret r=>V (.ret r)|.nxt _=>((qgJ n b.Ba).bind fun r1=>bif (!r1) then V true else(qaA n b.Bl 0 500).bind fun g=>V (!g)).bind fun d=>bif d then V (.ret (0,false)) else(bif (a==(W64 ((a_0.Ay.length:Int)-1))) then bif (b.Bs != 2) then V true else bif (b.Bl != 0) then V true else bif b.Bo then V true else bif decide (a<(W64 ((a_0.Ay.length:Int)-1))) then V (b.Bs != 1) else V false else bif decide (a<(W64 ((a_0.Ay.length:Int)-1))) then V (b.Bs != 1) else V false).bind fun f=>bif f then V (.ret (0,false)) else bif b.Bo then qdr a_0 n (W64 (c+1)) (W64 (a+1)) else qdr a_0 n c (W64 (a+1)) else V (.nxt (c,a))
def qkz(n:Nat)(a_0:qL):Option (Int×Bool):=(bif decide ((a_0.Ay.length:Int)<2) then V true else V (decide ((a_0.Ay.length:Int) > 5))).bind fun b1=>bif b1 then V (0,false) else(qdr a_0 n 0 0).bind fun|.ret r=>V r|.nxt (a,_)=>V (a,true)
theorem qp6{a_0:qL}(I:Ro w a_0 cs1){r:(Int×Bool)}(F:qkz n a_0=V r):RetV prog 242 [gv a_0 cs1] w r:=by
 obtain⟨p1,u,x,v,y,k3,rfl,s1,_,_⟩:=qan I;refine zV 86 func242 Z fun h=>zSR (qA h Z Z fun _ a h=>X1 12 0 h Z ?_);obtain⟨C,s,_,F,l⟩:=bindE F;refine qau (fun e w'=>∃b1,C b1=V r/\e=[(1,vp a),(4,vi (a_0.Ay.length:Int)),(17,.bool b1)]/\SH w w' [oX a (qK a_0 p1 x y u v k3) 166]) ?_ ?_
 .refine X0 4 Z (qe (t:=14) F Z ?_ ?_)<;>intro F
  .refine X0 4 Z ?_;cases qb F;exact rG ⟨_,l,rfl,h⟩ Z
  refine X0 6 Z ?_;cases qb F;exact rG ⟨_,l,rfl,h⟩ Z
 rintro _ _ ⟨b1,F,rfl,h⟩;subst s;refine qk Z F ?_ ?_<;>intro F
 .refine X0 5 Z ?_;cases qb F;exact qW qa (ρ:=(Int×Bool)) [oV Int [vi 0],oV Bool [.bool false]] h ⟨rfl,rfl,G⟩ (PV.done h (qN h pfl pf1 (by rfl)))
 refine X0 10 Z ?_;obtain⟨o1,F,d⟩:=qc F;refine ql (rL (fun m e w'=>∃f g,qdr a_0 m f g=V o1/\e=[(1,vp a),(4,vi (a_0.Ay.length:Int)),(5,vi f),(6,vi g)]/\SH w w' [oX a (qK a_0 p1 x y u v k3) 166]) n ⟨_,_,F,rfl,h⟩ Z ?_);rintro W _ _ ⟨f,g,F,rfl,h⟩;rcases W with _|W
 .cases F
 refine X0 7 Z (qk Z F ?_ ?_)<;>intro F
 .refine X1 8 0 h Z ?_;obtain⟨z,_,F,L,_,_,_,_,N,P,R,J⟩:=s1.ix F;obtain rfl:=qfG R;refine zxe N P L Z (zc 0 (J.below h.below) Z (qh qa h Z Z Z fun _ c h=>zs 0 h Z fun _ h=>X0 6 Z ?_));obtain⟨o2,F,i⟩:=qc F;refine ql (rL (fun m e w'=>∃T,qfC a_0 g z m T=V o2/\e=[(1,vp a),(4,vi (a_0.Ay.length:Int)),(5,vi f),(6,vi g),(7,vp c),(8,vi T)]/\SH w w' [oX c (qqq z) 239,oX a (qK a_0 p1 x y u v k3) 166]) W ⟨_,F,rfl,h⟩ Z ?_);rintro X _ _ ⟨T,F,rfl,h⟩;rcases X with _|X
  .cases F
  refine X0 7 Z (qk Z F ?_ ?_)<;>intro F
  .refine X0 4 Z (rD (Y1 2 1 h Z ?_));refine zd1 Z ?_;obtain⟨_,_,F,M,_,_,_,_,O,Q,S,K⟩:=s1.ix F;obtain rfl:=qfG S;refine zdxe O Q M Z (zd1 Z (zdc 0 (K.below h.below) Z (Y1 2 0 h Z ?_)));refine zd1 Z (dN h fun _ h=>qk Z F ?_ ?_)<;>intro F
   .refine X0 5 Z ?_;cases qb F;have F:=i;cases qb F;have F:=d;cases qb F;exact qW qa (ρ:=(Int×Bool)) [oV Int [vi 0],oV Bool [.bool false]] h ⟨rfl,rfl,G⟩ (PV.done h (qN h pfl pf1 (by rfl)))
   exact X0 7 Z (rK ⟨_,F,rfl,h⟩ Z)
  refine qt Z ?_;cases qb F;have F:=i;refine zSS ?_;obtain⟨B,p,_,F,k⟩:=bindE F;refine qau (fun e w'=>∃D,B D=V o1/\e=[(1,vp a),(4,vi (a_0.Ay.length:Int)),(5,vi f),(6,vi g),(7,vp c),(51,.bool D)]/\SH w w' [oX c (qqq z) 239,oX a (qK a_0 p1 x y u v k3) 166]) ?_ ?_
  .refine X1 3 0 h Z (zcB h F qis Z fun _ _ h F=>zp2 Z (qe (t:=46) F Z ?_ ?_))<;>intro F
   .refine X0 6 Z ?_;cases qb F;exact rG ⟨_,k,rfl,h⟩ Z
   refine X1 5 0 h Z (zcB h F qae Z fun _ _ h F=>X0 4 Z ?_);cases qb F;exact rG ⟨_,k,rfl,h⟩ Z
  rintro _ _ ⟨D,F,rfl,h⟩;subst p;refine qk Z F ?_ ?_<;>intro F
  .refine X0 5 Z ?_;cases qb F;have F:=d;cases qb F;exact qW qa (ρ:=(Int×Bool)) [oV Int [vi 0],oV Bool [.bool false]] h ⟨rfl,rfl,G⟩ (PV.done h (qN h pfl pf1 (by rfl)))
  refine zKSS ?_;obtain⟨A,o,_,F,b⟩:=bindE F;refine qau (fun e w'=>∃H,A H=V o1/\e=[(1,vp a),(4,vi (a_0.Ay.length:Int)),(5,vi f),(6,vi g),(7,vp c),(80,.bool H)]/\SH w w' [oX c (qqq z) 239,oX a (qK a_0 p1 x y u v k3) 166]) ?_ ?_
  .refine X0 6 Z (qe (t:=56) F Z ?_ ?_)<;>intro F
   .refine X1 8 0 h Z (qe (t:=60) F Z ?_ ?_)<;>intro F
    .refine X0 24 Z ?_;cases qb F;exact rG ⟨_,b,rfl,h⟩ Z
    refine X1 10 0 h Z (qe (t:=65) F Z ?_ ?_)<;>intro F
    .refine X0 17 Z ?_;cases qb F;exact rG ⟨_,b,rfl,h⟩ Z
    refine X1 8 0 h Z (qe (t:=70) F Z ?_ ?_)<;>intro F
    .refine X0 11 Z ?_;cases qb F;exact rG ⟨_,b,rfl,h⟩ Z
    refine X0 10 Z (qe (t:=75) F Z ?_ ?_)<;>intro F
    .refine X1 10 0 h Z ?_;cases qb F;exact rG ⟨_,b,rfl,h⟩ Z
    refine X0 7 Z ?_;cases qb F;exact rG ⟨_,b,rfl,h⟩ Z
   refine X0 24 Z (qe (t:=75) F Z ?_ ?_)<;>intro F
   .refine X1 10 0 h Z ?_;cases qb F;exact rG ⟨_,b,rfl,h⟩ Z
   refine X0 7 Z ?_;cases qb F;exact rG ⟨_,b,rfl,h⟩ Z
  rintro _ _ ⟨H,F,rfl,h⟩;subst o;refine qk Z F ?_ ?_<;>intro F
  .refine X0 5 Z ?_;cases qb F;have F:=d;cases qb F;exact qW qa (ρ:=(Int×Bool)) [oV Int [vi 0],oV Bool [.bool false]] h ⟨rfl,rfl,G⟩ (PV.done h (qN h pfl pf1 (by rfl)))
  refine X1 6 0 h Z (qk Z F ?_ ?_)<;>intro F
  .refine X0 11 Z ?_;have h:=h.p [1] Z;exact rK ⟨_,_,F,rfl,h⟩ Z
  refine X0 7 Z ?_;have h:=h.p [1] Z;exact rK ⟨_,_,F,rfl,h⟩ Z
 refine qt Z ?_;cases qb F;have F:=d;refine X0 6 Z ?_;cases qb F;exact qW qa (ρ:=(Int×Bool)) [oV Int [vi f],oV Bool [.bool true]] h ⟨rfl,rfl,G⟩ (PV.done h (qN h pfl pf1 (by rfl)))
def qeB(list:(List Int)):Nat->Int->Option (Flow Bool Int)|0,_=>U|n+1,a=>bif decide (a<(list.length:Int)) then(idx list a).bind fun b=>(qaA n b 0 100000).bind fun r1=>bif (!r1) then V (.ret false) else bif decide (a > 0) then(idx list (W64 (a-1))).bind fun c=>(idx list a).bind fun d=>bif decide (c>=d) then V (.ret false) else qeB list n (W64 (a+1)) else qeB list n (W64 (a+1)) else V (.nxt a)
def qjd(n:Nat)(list:(List Int)):Option Bool:=(qeB list n 0).bind fun|.ret r=>V r|.nxt _=>bif decide ((list.length:Int)>=1) then V (decide ((list.length:Int)<=4)) else V false
theorem qmN{list:(List Int)}(b:Ro w list cs1){r:Bool}(F:qjd n list=V r):RetV prog 293 [gv list cs1] w r:=by
 obtain⟨p1,A,rfl,s1⟩:=b;refine zV 40 func293 Z fun h=>X0 9 Z ?_;obtain⟨o1,F,a⟩:=qc F;refine ql (rL (fun m e w'=>∃y,qeB list m y=V o1/\e=[(0,oS p1 list.length A),(3,vi y)]/\SH w w' []) n ⟨_,F,rfl,h⟩ Z ?_);rintro z _ _ ⟨y,F,rfl,h⟩;rcases z with _|z
 .cases F
 refine X0 8 Z (qk Z F ?_ ?_)<;>intro F
 .refine X0 4 Z (rD (zd2 Z ?_));obtain⟨_,_,F,g,_,_,_,_,l,s,rfl,c⟩:=s1.ix F;refine zdxe l s g Z (zdc 0 (c.below h.below) Z ?_);obtain⟨r1,x,F⟩:=qc F;refine qcn r1 (vsB _) (cB 43 Z) (fun _ B=>qae  x) Z Z Z Z (zd2 Z (qaK (t:=16) F Z ?_ ?_))<;>intro F
  .refine Y0 15 Z (dN h fun _ h=>qb5 Z Z (X0 4 Z ?_));cases qb F;exact rb h a Z
  refine Y0 6 Z (qaK (t:=19) F Z ?_ ?_)<;>intro F
  .refine Y0 7 Z ?_;obtain⟨_,_,F,i,_,_,_,_,o,u,rfl,d⟩:=s1.ix F;refine zdxe o u i Z (Y0 1 Z (zdc 0 (d.below h.below) Z (Y0 5 Z ?_)));obtain⟨_,_,F,k,_,_,_,_,p,v,rfl,f⟩:=s1.ix F;refine zdxe p v k Z (Y0 1 Z (zdc 0 (f.below h.below) Z (Y0 5 Z (dN h fun _ h=>qk Z F ?_ ?_))))<;>intro F
   .refine X0 4 Z ?_;cases qb F;exact rb h a Z
   exact X0 7 Z (rK ⟨_,F,rfl,h⟩ Z)
  exact Y0 13 Z (dN h fun _ h=>qa5 Z Z (X0 7 Z (rK ⟨_,F,rfl,h⟩ Z)))
 refine qt Z ?_;cases qb F;have F:=a;refine X0 6 Z (qe (t:=35) F Z ?_ ?_)<;>intro F
 .exact X0 9 Z (rb h F Z)
 exact X0 6 Z (rb h F Z)
def qfD(t:qS):Nat->Int->Option (Flow Bool Int)|0,_=>U|n+1,a=>bif decide (a<(t.Az.length:Int)) then(idx t.Az a).bind fun b=>(qaA n b (-1000000) 1000000).bind fun r1=>bif (!r1) then V (.ret false) else qfD t n (W64 (a+1)) else V (.nxt a)
def qkB(n:Nat)(t:qS):Option Bool:=((qjd n t.Bj).bind fun a=>bif (!a) then V true else(qjd n t.Be).bind fun b=>bif (!b) then V true else V ((t.Az.length:Int) != (W64 ((t.Bj.length:Int)*(t.Be.length:Int))))).bind fun b1=>bif b1 then V false else(qfD t n 0).bind fun|.ret r=>V r|.nxt _=>V true
theorem qpS{t:qS}(g:Ro w t cs1){r:Bool}(F:qkB n t=V r):RetV prog 286 [gv t cs1] w r:=by
 obtain⟨p1,s,x,u,y,k3,rfl,s1,s2,z⟩:=qcz g;refine zV 41 func286 Z fun h=>zSR (qA h Z Z fun _ a h=>X0 4 Z ?_);obtain⟨f,d,_,F,b⟩:=bindE F;refine qau (fun e w'=>∃b1,f b1=V r/\e=[(1,vp a),(26,.bool b1)]/\SH w w' [oX a (qfh t p1 x y s u k3) 250]) ?_ ?_
 .refine X1 3 0 h Z (zcB h F (qmN ⟨_,_,rfl,(h.oldS s1)⟩) Z fun _ _ h F=>zp2 Z (qe (t:=8) F Z ?_ ?_))<;>intro F
  .refine X0 19 Z ?_;cases qb F;exact rG ⟨_,b,rfl,h⟩ Z
  refine X1 5 0 h Z (zcB h F (qmN ⟨_,_,rfl,(h.oldS s2)⟩) Z fun _ _ h F=>X0 4 Z (qe (t:=14) F Z ?_ ?_))<;>intro F
  .refine X0 13 Z ?_;cases qb F;exact rG ⟨_,b,rfl,h⟩ Z
  refine X3 24 0 0 0 h Z ?_;cases qb F;exact rG ⟨_,b,rfl,h⟩ Z
 rintro _ _ ⟨b1,F,rfl,h⟩;subst d;refine qk Z F ?_ ?_<;>intro F
 .exact X0 4 Z (rb h F Z)
 refine X0 6 Z ?_;obtain⟨o1,F,c⟩:=qc F;refine ql (rL (fun m e w'=>∃p,qfD t m p=V o1/\e=[(1,vp a),(3,vi p)]/\SH w w' [oX a (qfh t p1 x y s u k3) 250]) n ⟨_,F,rfl,h⟩ Z ?_);rintro v _ _ ⟨p,F,rfl,h⟩;rcases v with _|v
 .cases F
 refine X1 9 0 h Z (qk Z F ?_ ?_)<;>intro F
 .refine X1 8 0 h Z ?_;obtain⟨_,_,F,k,_,_,_,_,l,o,rfl,i⟩:=z.ix F;refine zxe l o k Z (zc 0 (i.below h.below) Z (zcB h F qae Z fun _ _ h F=>X0 2 Z (qk Z F ?_ ?_)))<;>intro F
  .refine X0 4 Z ?_;cases qb F;exact rb h c Z
  exact X0 7 Z (rK ⟨_,F,rfl,h⟩ Z)
 refine qt Z ?_;cases qb F;exact X0 4 Z (rb h c Z)
def qdc(t:qS):Nat->Int->Int->Int->Option (Int×Int×Int)|0,_,_,_=>U|n+1,b,c,a=>bif decide (a<(t.Az.length:Int)) then(idx t.Az a).bind fun d=>(idx t.Az a).bind fun f=>qdc t n (if d<b then d else b) (if f > c then f else c) (W64 (a+1)) else V (b,c,a)
def qhU(n:Nat)(t:qS):Option (qf×Int):=(qkB n t).bind fun r1=>bif (!r1) then V ((⟨0,0⟩:qf),1) else(idx t.Az 0).bind fun c=>(idx t.Az 0).bind fun d=>(qdc t n c d 1).bind fun(a,b,_)=>V ((⟨a,b⟩:qf),0)
theorem qn2{t:qS}(d:Ro w t cs1){r:(qf×Int)}(F:qhU n t=V r):RetV prog 275 [gv t cs1] w r:=by
 obtain⟨p1,M,O,N,P,k3,rfl,_,_,i⟩:=qcz d;refine zV 45 func275 Z fun h=>zSR (qA h Z Z fun _ a h=>qh qa h Z Z Z fun _ b h=>X1 6 1 h Z (zcB h F (qpS (h.old d)) Z fun _ _ h F=>X0 2 Z (qk Z F ?_ ?_)))<;>intro F
 .refine zSR (r_v (qy qa [] [] z8) Z (zs 0 h Z fun _ h=>X0 2 Z ?_));cases qb F;exact qW qa (ρ:=(qf×Int)) [oV qf [vi 0,vi 0],oV Int [vi 1]] h ⟨⟨_,_,_,rfl,rfl,h.box 0 Z,rfl⟩,rfl,G⟩ (PV.done h (qN h (qeM (S:=fun _=>False) (qG (⟨0,0⟩:qf))) pf1 (by rfl)))
 refine zKS (rA [] [1] h Z fun _ h=>M1 3 [0,1] 0 (h.p [1] Z) Z ?_);obtain⟨_,_,F,u,_,_,_,_,z,D,rfl,l⟩:=i.ix F;refine Ae 2 7 z D u (h.p [1] Z) Z (Al 3 15 0 l (h.p [1] Z) Z (M1 63 [4,5] 0 (h.p [1] Z) Z ?_));obtain⟨_,_,F,v,_,_,_,_,A,H,rfl,o⟩:=i.ix F;refine Ae 6 127 A H v (h.p [1] Z) Z (Al 7 255 0 o (h.p [1] Z) Z (Aw 8 511 (fun w' R=>qy qa [0,1] [.tmp 13,.tmp 17] z8) (h.p [1] Z) Z ?_));refine Ao 9 1023 Z (qh qa h Z Z Z fun _ c h=>Ag (h.p [2] Z) (Ao 10 2047 Z (zs 0 h Z fun _ h=>Ag (h.p [2] Z) (Ad (X0 5 Z ?_)))));obtain⟨o1,F,k⟩:=qc F;refine ql (rL (fun m e w'=>∃f g K,qdc t m f g K=V o1/\e=[(1,vp a),(2,vp b),(4,vp c),(5,vi K)]/\SH w w' [oX c [vi f,vi g] 116,oX b [vi 0,vi 0] 116,oX a (qfh t p1 O P M N k3) 250]) n ⟨_,_,_,F,rfl,h⟩ Z ?_);rintro L _ _ ⟨f,g,K,F,rfl,h⟩;rcases L with _|L
 .cases F
 refine X1 9 2 h Z (qk Z F ?_ ?_)<;>intro F
 .refine X0 4 Z (rA [9] [0,2] h Z fun _ h=>M2 31 [0,1,2,3,4] 0 1 (h.p [0,2] Z) Z ?_);obtain⟨_,_,F,x,_,_,_,_,B,I,rfl,p⟩:=i.ix F;refine Ae 5 63 B I x (h.p [0,2] Z) Z (Al 6 127 0 p (h.p [0,2] Z) Z (M0 511 [7,8] (h.p [0,2] Z) Z (Ao 9 1023 Z (zs 0 h Z fun _ h=>qaS (fun Q=>absurd (Q 9 (by decide)) (by decide)) (Ad (rA [9] [0,2] h Z fun _ h=>M2 31 [0,1,2,3,4] 0 1 (h.p [0,2] Z) Z ?_))))));obtain⟨_,_,F,y,_,_,_,_,C,J,rfl,s⟩:=i.ix F;exact Ae 5 63 C J y (h.p [0,2] Z) Z (Al 6 127 0 s (h.p [0,2] Z) Z (M0 511 [7,8] (h.p [0,2] Z) Z (Ao 9 1023 Z (zs 0 h Z fun _ h=>qaS (fun Q=>absurd (Q 9 (by decide)) (by decide)) (Ad (X0 6 Z (rK ⟨_,_,_,F,rfl,h⟩ Z)))))))
 refine qt Z ?_;cases qb F;have F:=k;refine X1 3 0 h Z (zs 1 h Z fun _ h=>X0 2 Z ?_);cases qb F;exact qW qa (ρ:=(qf×Int)) [oV qf [vi f,vi g],oV Int [vi 0]] h ⟨⟨_,_,_,rfl,rfl,h.box 1 Z,rfl⟩,rfl,G⟩ (PV.done h (qN h (qeM (S:=fun _=>False) (qG (⟨f,g⟩:qf))) pf1 (by rfl)))
def qc9(list:(List qS))(f:Bool):Nat->Int->Option (Flow Bool Int)|0,_=>U|n+1,a=>bif decide (a<2) then(idx list a).bind fun d=>(qhU n d).bind fun(b,c)=>bif (c != 0) then V (.ret false) else bif f then bif decide (b.Ak<0) then V (.ret false) else qc9 list f n (W64 (a+1)) else qc9 list f n (W64 (a+1)) else V (.nxt a)
def qd8(n:Nat)(list:(List qS))(a:Bool):Option Bool:=bif ((list.length:Int) != 2) then V false else(qc9 list a n 0).bind fun|.ret r=>V r|.nxt _=>V true
theorem qfU{list:(List qS)}{positive}(c:Ro w list cs1){r:Bool}(F:qd8 n list positive=V r):RetV prog 262 [gv list cs1,.bool positive] w r:=by
 obtain⟨p1,x,rfl,s1⟩:=c;refine zV 33 func262 Z fun h=>X0 11 Z (qk Z F ?_ ?_)<;>intro F
 .exact X0 4 Z (rb h F Z)
 refine X0 6 Z ?_;obtain⟨o1,F,a⟩:=qc F;refine ql (rL (fun m e w'=>∃u,qc9 list positive m u=V o1/\e=[(0,oS p1 list.length x),(1,.bool positive),(5,vi u)]/\SH w w' []) n ⟨_,F,rfl,h⟩ Z ?_);rintro v _ _ ⟨u,F,rfl,h⟩;rcases v with _|v
 .cases F
 refine X0 6 Z (qk Z F ?_ ?_)<;>intro F
 .refine X0 7 Z ?_;obtain⟨C,_,F,f,_,_,_,_,g,i,k,d⟩:=s1.ix F;obtain⟨_,_,_,_,_,_,rfl,s2,A,B⟩:=qcz k;refine zxe g i f Z (zc 0 (d.below h.below) Z ?_);obtain⟨⟨y,z⟩,l,F⟩:=qc F;refine qaV (y,z) h (cB 275 Z) (qn2 (qjB C (h.oldS s2) (h.oldS A) (h.oldS B)) l) Z Z Z Z fun _ _ _ s o=>?_;obtain⟨_,_,_,_,rfl,b,p⟩:=s.cons o;obtain rfl:=qx (b.sh.own 0 Z);obtain⟨rfl,h⟩:=b.lastI p;refine zp3 Z (qh qa h Z Z Z fun _ _ h=>zs 0 h Z fun _ h=>X0 7 Z (qe (t:=25) F Z ?_ ?_))<;>intro F
  .refine X0 8 Z (qb5 Z Z (X0 4 Z ?_));cases qb F;exact rb h a Z
  refine X0 4 Z (qe (t:=27) F Z ?_ ?_)<;>intro F
  .refine X1 10 0 h Z (qk Z F ?_ ?_)<;>intro F
   .refine X0 4 Z ?_;cases qb F;exact rb h a Z
   refine X0 7 Z ?_;have h:=h.p [] Z;exact rK ⟨_,F,rfl,h⟩ Z
  refine X0 7 Z (qa5 Z Z (X0 7 Z ?_));have h:=h.p [] Z;exact rK ⟨_,F,rfl,h⟩ Z
 refine qt Z ?_;cases qb F;exact X0 4 Z (rb h a Z)
def qlb(n:Nat)(a_0:qL)(a_1:qaF):Option Bool:=((qaA n a_1.Bd 0 (W64 ((W64 ((a_0.Ay.length:Int)-1))-1))).bind fun i=>bif (!i) then V true else(qaA n a_1.To 0 (W64 ((a_0.Ay.length:Int)-1))).bind fun k=>V (!k)).bind fun b1=>bif b1 then V false else(idx a_0.Ay a_1.Bd).bind fun a=>bif (a_1.Au==1) then bif (!a.Bo) then bif (a_1.To==(W64 ((a_0.Ay.length:Int)-1))) then(qaA n a_1.Bk 1 3).bind fun r1=>bif r1 then(qd8 n a_1.Bn true).bind fun c=>bif c then(qd8 n a_1.Av true).bind fun d=>V d else V false else V false else V false else V false else(bif (a_1.Au==2) then V (a_1.Au==2) else V (a_1.Au==3)).bind fun b3=>bif b3 then bif a.Bo then bif (a_1.To==(W64 ((a_0.Ay.length:Int)-1))) then bif (a_1.Bk==0) then(qd8 n a_1.Bn true).bind fun f=>bif f then(qd8 n a_1.Av true).bind fun g=>V g else V false else V false else V false else V false else(bif (a_1.Au==4) then V (a_1.Au==4) else V (a_1.Au==5)).bind fun b=>bif b then bif a.Bo then bif decide (a_1.To<(W64 ((a_0.Ay.length:Int)-1))) then(idx a_0.Ay a_1.To).bind fun l=>bif (!l.Bo) then bif (a_1.Bk==0) then(qd8 n a_1.Bn false).bind fun h=>bif h then V ((a_1.Av.length:Int)==0) else V false else V false else V false else V false else V false else V false
theorem qqY{a_0:qL}{a_1:qaF}(s:Ro w a_0 cs1)(u:Ro w a_1 cs2){r:Bool}(F:qlb n a_0 a_1=V r):RetV prog 243 [gv a_0 cs1,gv a_1 cs2] w r:=by
 obtain⟨p1,J,N,K,O,k3,rfl,s1,_,_⟩:=qan s;obtain⟨P,L,Q,M,rfl,R,S⟩:=qaJ u;refine zV 119 func243 Z fun h=>zSR (qA h Z Z fun _ a h=>qA h Z Z fun _ b h=>X1 12 1 h Z ?_);obtain⟨o,k,_,F,f⟩:=bindE F;refine qau (fun e w'=>∃b1,o b1=V r/\e=[(2,vp a),(3,vp b),(5,vi (W64 ((a_0.Ay.length:Int)-1))),(23,.bool b1)]/\SH w w' [oX b (qen a_1 P Q L M) 170,oX a (qK a_0 p1 N O J K k3) 166]) ?_ ?_
 .refine X1 5 0 h Z (zcB h F qae Z fun _ _ h F=>zp2 Z (qe (t:=17) F Z ?_ ?_))<;>intro F
  .refine X0 7 Z ?_;cases qb F;exact rG ⟨_,f,rfl,h⟩ Z
  refine X1 7 0 h Z (zcB h F qae Z fun _ _ h F=>X0 4 Z ?_);cases qb F;exact rG ⟨_,f,rfl,h⟩ Z
 rintro _ _ ⟨b1,F,rfl,h⟩;subst k;refine qk Z F ?_ ?_<;>intro F
 .exact X0 4 Z (rb h F Z)
 refine X2 7 1 0 h Z ?_;obtain⟨T,_,F,y,_,_,_,_,A,C,H,v⟩:=s1.ix F;obtain rfl:=qfG H;refine zxe A C y Z (zp1 Z (zc 3 (v.below h.below) Z (X1 14 0 h Z (qk Z F ?_ ?_))))<;>intro F
 .refine X0 5 Z (qe (t:=37) F Z ?_ ?_)<;>intro F
  .refine X1 10 0 h Z (qe (t:=43) F Z ?_ ?_)<;>intro F
   .refine X1 5 0 h Z (zcB h F qae Z fun _ _ h F=>zp2 Z (qe (t:=48) F Z ?_ ?_))<;>intro F
    .refine X1 5 0 h Z (zcB h F (qfU ⟨_,_,rfl,(h.oldS R)⟩) Z fun _ _ h F=>zp2 Z (qe (t:=53) F Z ?_ ?_))<;>intro F
     .exact X1 5 0 h Z (zcB h F (qfU ⟨_,_,rfl,(h.oldS S)⟩) Z fun _ _ h F=>X0 3 Z (rb h F Z))
     exact X0 6 Z (rb h F Z)
    exact X0 11 Z (rb h F Z)
   exact X0 16 Z (rb h F Z)
  exact X0 22 Z (rb h F Z)
 refine X0 6 Z ?_;obtain⟨m,i,_,F,d⟩:=bindE F;refine qau (fun e w'=>∃b3,m b3=V r/\e=[(2,vp a),(3,vp b),(5,vi (W64 ((a_0.Ay.length:Int)-1))),(6,.bool T.Bo),(32,vi a_1.Au),(58,.bool b3)]/\SH w w' [oX b (qen a_1 P Q L M) 170,oX a (qK a_0 p1 N O J K k3) 166]) ?_ ?_
 .refine qk Z F ?_ ?_<;>intro F
  .refine qfv ?_;cases qb F;exact rG ⟨_,d,rfl,h⟩ Z
  refine X0 4 Z ?_;cases qb F;exact rG ⟨_,d,rfl,h⟩ Z
 rintro _ _ ⟨b3,F,rfl,h⟩;subst i;refine qk Z F ?_ ?_<;>intro F
 .refine X0 4 Z (qe (t:=62) F Z ?_ ?_)<;>intro F
  .refine X1 10 0 h Z (qe (t:=68) F Z ?_ ?_)<;>intro F
   .refine X1 8 0 h Z (qe (t:=73) F Z ?_ ?_)<;>intro F
    .refine X1 5 0 h Z (zcB h F (qfU ⟨_,_,rfl,(h.oldS R)⟩) Z fun _ _ h F=>zp2 Z (qe (t:=78) F Z ?_ ?_))<;>intro F
     .exact X1 5 0 h Z (zcB h F (qfU ⟨_,_,rfl,(h.oldS S)⟩) Z fun _ _ h F=>X0 3 Z (rb h F Z))
     exact X0 6 Z (rb h F Z)
    exact X0 11 Z (rb h F Z)
   exact X0 16 Z (rb h F Z)
  exact X0 22 Z (rb h F Z)
 refine X0 6 Z ?_;obtain⟨l,g,_,F,c⟩:=bindE F;refine qau (fun e w'=>∃p,l p=V r/\e=[(2,vp a),(3,vp b),(5,vi (W64 ((a_0.Ay.length:Int)-1))),(6,.bool T.Bo),(83,.bool p)]/\SH w w' [oX b (qen a_1 P Q L M) 170,oX a (qK a_0 p1 N O J K k3) 166]) ?_ ?_
 .refine qk Z F ?_ ?_<;>intro F
  .refine qfv ?_;cases qb F;exact rG ⟨_,c,rfl,h⟩ Z
  refine X0 4 Z ?_;cases qb F;exact rG ⟨_,c,rfl,h⟩ Z
 rintro _ _ ⟨p,F,rfl,h⟩;subst g;refine qk Z F ?_ ?_<;>intro F
 .refine X0 4 Z (qe (t:=87) F Z ?_ ?_)<;>intro F
  .refine X1 10 0 h Z (qe (t:=93) F Z ?_ ?_)<;>intro F
   .refine X2 9 1 0 h Z ?_;obtain⟨_,_,F,z,_,_,_,_,B,D,I,x⟩:=s1.ix F;obtain rfl:=qfG I;refine zxe B D z Z (X0 3 Z (zc 3 (x.below h.below) Z (X0 4 Z (qe (t:=103) F Z ?_ ?_))))<;>intro F
    .refine X1 8 0 h Z (qe (t:=108) F Z ?_ ?_)<;>intro F
     .refine X1 5 0 h Z (zcB h F (qfU ⟨_,_,rfl,(h.oldS R)⟩) Z fun _ _ h F=>zp2 Z (qe (t:=113) F Z ?_ ?_))<;>intro F
      .exact X1 11 0 h Z (rb h F Z)
      exact X0 7 Z (rb h F Z)
     exact X0 12 Z (rb h F Z)
    exact X0 17 Z (rb h F Z)
   exact X0 27 Z (rb h F Z)
  exact X0 33 Z (rb h F Z)
 exact X0 6 Z (rb h F Z)
def qdP(c:qL):Nat->(List Int)->Int->Option ((List Int)×Int)|0,_,_=>U|n+1,b,a=>bif decide (a<(c.Ar.length:Int)) then(idx c.Ar a).bind fun d=>(idx b d.Au).bind fun f=>(idx b d.Au).bind fun _=>qdP c n (setS b d.Au (W64 (f+1))) (W64 (a+1)) else V (b,a)
def qjK(n:Nat)(c:qL):Option (List Int):=(mkS 6 (0:Int)).bind fun a=>(qdP c n a 0).bind fun(b,_)=>V b
theorem qo3{c:qL}(o:Ro w c cs1){r:(List Int)}(F:qjK n c=V r):RetV prog 244 [gv c cs1] w r:=by
 obtain⟨p1,L,N,M,O,k3,rfl,_,s2,_⟩:=qan o;refine zV 25 func244 Z fun h=>zSR (qA h Z Z fun _ b h=>X0 4 Z ?_);obtain⟨k,a,F⟩:=qc F;obtain⟨J,K,a⟩:=qad a;refine qaz qa Int h z9 J K a Z fun _ S1 I h=>X0 7 Z ?_;obtain⟨o1,F,l⟩:=qc F;refine ql (rL (fun m e w'=>∃D C,qdP c m D C=V o1/\e=[(1,vp b),(3,oS I k.length k.length),(4,vi C)]/\SH w w' [oW S1 (D:List Int) [oS I k.length k.length],oX b (qK c p1 N O L M k3) 166]) n ⟨_,_,F,rfl,h⟩ Z ?_);rintro H _ _ ⟨D,C,F,rfl,h⟩;rcases H with _|H
 .cases F
 refine X1 9 1 h Z (qk Z F ?_ ?_)<;>intro F
 .refine X1 8 1 h Z ?_;obtain⟨_,_,F,u,_,_,_,_,v,y,A,p⟩:=s2.ix F;obtain⟨_,_,_,_,rfl,_,_⟩:=qaJ A;refine zxe v y u Z (zp1 Z (zc 0 (p.below h.below) Z ?_));obtain⟨P,_,F,d,_,_,_,_,x,z,rfl,s⟩:=(h.sl 0 Z).1.ix F;refine zx x z ⟨d.1,qC d.2.1 (h.sl 0 Z).2⟩ Z (zc 0 s Z (zp1 Z ?_));obtain⟨_,B,F,f,_,_,_,_,g,i,rfl,t⟩:=(h.sl 0 Z).1.ix F;exact zx g i ⟨f.1,qC f.2.1 (h.sl 0 Z).2⟩ Z (qav qa 0 0 (W64 (P+1)) h Z B g i Z t Z Z Z Z Z Z Z fun _ h=>X0 7 Z (rK ⟨_,_,F,rfl,h⟩ Z))
 refine qt Z ?_;cases qb F;have F:=l;refine X0 5 Z ?_;cases qb F;exact rO 0 h Z ⟨rfl,G⟩
def qd9(a_0:qL)(c:Int)(b:qaF):Nat->Int->Option (Flow Bool Int)|0,_=>U|n+1,a=>bif decide (a<c) then(idx a_0.Ar a).bind fun d=>bif (d.Au==b.Au) then(idx a_0.Ar a).bind fun f=>bif (f.Bd==b.Bd) then(idx a_0.Ar a).bind fun g=>bif (g.To==b.To) then V (.ret false) else qd9 a_0 c b n (W64 (a+1)) else qd9 a_0 c b n (W64 (a+1)) else qd9 a_0 c b n (W64 (a+1)) else V (.nxt a)
def qgg(a_0:qL):Nat->Int->Option (Flow Bool Int)|0,_=>U|n+1,a=>bif decide (a<(a_0.Bm.length:Int)) then(idx a_0.Bm a).bind fun c=>(qaA n c 0 1).bind fun b=>bif (!b) then V (.ret false) else qgg a_0 n (W64 (a+1)) else V (.nxt a)
def qgr(a_0:qL):Nat->Int->Option (Flow Bool Int)|0,_=>U|n+1,a=>bif decide (a<(a_0.Ar.length:Int)) then(idx a_0.Ar a).bind fun b=>(qlb n a_0 b).bind fun c=>bif (!c) then V (.ret false) else(qd9 a_0 a b n 0).bind fun|.ret r=>V (.ret r)|.nxt _=>qgr a_0 n (W64 (a+1)) else V (.nxt a)
def qlu(n:Nat)(a_0:qL):Option Bool:=(qkz n a_0).bind fun(b,g)=>(bif (!g) then V true else(qgJ n a_0.Ba).bind fun h=>bif (!h) then V true else bif decide ((a_0.Ar.length:Int) > 8) then V true else(qaA n a_0.Bx 0 100000).bind fun i=>bif (!i) then V true else(qaA n a_0.Bt 0 100000).bind fun k=>V (!k)).bind fun b1=>bif b1 then V false else(qgr a_0 n 0).bind fun|.ret r=>V r|.nxt _=>(qjK n a_0).bind fun a=>bif (a_0.Au==1) then(qgg a_0 n 0).bind fun|.ret r=>V r|.nxt _=>bif (b==0) then(shlS 1 (IntKind.wrap .u64 (W64 ((a_0.Ay.length:Int)-1)))).bind fun l=>V ((a_0.Bm.length:Int)==l) else V false else bif (a_0.Au==2) then bif (b==1) then(idx a 1).bind fun m=>bif (m==0) then(idx a 2).bind fun p=>(idx a 3).bind fun s=>bif (!((decide (p > 0))==(decide (s > 0)))) then V ((a_0.Bm.length:Int)==0) else V false else V false else V false else bif (a_0.Au==3) then bif (b==1) then(idx a 1).bind fun c=>bif decide (c > 0) then(idx a 2).bind fun d=>bif decide (d > 0) then(idx a 3).bind fun f=>bif (f==0) then V ((a_0.Bm.length:Int)==0) else V false else V false else V false else V false else V false
theorem qqk{a_0:qL}(c:Ro w a_0 cs1){r:Bool}(F:qlu n a_0=V r):RetV prog 204 [gv a_0 cs1] w r:=by
 obtain⟨p1,O,Q,P,R,k3,rfl,_,s2,s3⟩:=qan c;refine zV 182 func204 Z fun h=>zSR (qA h Z Z fun _ a h=>X1 5 0 h Z ?_);obtain⟨⟨N,r3⟩,d1,F⟩:=qc F;refine qaV (N,r3) h (cB 242 Z) (qp6 (h.old c) d1) Z Z Z Z fun _ _ _ d9 d3=>?_;obtain⟨_,_,rfl,e2,d4⟩:=d9.consI d3;obtain⟨rfl,h⟩:=e2.lastB d4;refine X0 8 Z ?_;obtain⟨S,p,_,F,b⟩:=bindE F;refine qau (fun e w'=>∃b1,S b1=V r/\e=[(1,vp a),(3,vi N),(40,.bool b1)]/\SH w w' [oX a (qK a_0 p1 Q R O P k3) 166]) ?_ ?_
 .refine X0 4 Z (qe (t:=17) F Z ?_ ?_)<;>intro F
  .refine X0 24 Z ?_;cases qb F;exact rG ⟨_,b,rfl,h⟩ Z
  refine X1 5 0 h Z (zcB h F qis Z fun _ _ h F=>X0 4 Z (qe (t:=23) F Z ?_ ?_))<;>intro F
  .refine X0 18 Z ?_;cases qb F;exact rG ⟨_,b,rfl,h⟩ Z
  refine X1 10 0 h Z (qe (t:=29) F Z ?_ ?_)<;>intro F
  .refine X0 12 Z ?_;cases qb F;exact rG ⟨_,b,rfl,h⟩ Z
  refine X1 5 0 h Z (zcB h F qae Z fun _ _ h F=>X0 4 Z (qe (t:=35) F Z ?_ ?_))<;>intro F
  .refine X0 6 Z ?_;cases qb F;exact rG ⟨_,b,rfl,h⟩ Z
  refine X1 5 0 h Z (zcB h F qae Z fun _ _ h F=>X0 4 Z ?_);cases qb F;exact rG ⟨_,b,rfl,h⟩ Z
 rintro _ _ ⟨b1,F,rfl,h⟩;subst p;refine qk Z F ?_ ?_<;>intro F
 .exact X0 4 Z (rb h F Z)
 refine X0 6 Z ?_;obtain⟨o1,F,g⟩:=qc F;refine ql (rL (fun m e w'=>∃M,qgr a_0 m M=V o1/\e=[(1,vp a),(3,vi N),(5,vi M)]/\SH w w' [oX a (qK a_0 p1 Q R O P k3) 166]) n ⟨_,F,rfl,h⟩ Z ?_);rintro m1 _ _ ⟨M,F,rfl,h⟩;rcases m1 with _|m1
 .cases F
 refine X1 9 0 h Z (qk Z F ?_ ?_)<;>intro F
 .refine X1 8 0 h Z ?_;obtain⟨y1,_,F,a3,_,_,_,_,a8,c2,d5,T⟩:=s2.ix F;obtain⟨p4,k4,p5,k5,rfl,s4,s5⟩:=qaJ d5;refine zxe a8 c2 a3 Z (zc 0 (T.below h.below) Z (qh qa h Z Z Z fun _ k h=>zs 0 h Z fun _ h=>X2 6 1 0 h Z (zcB h F (qqY (h.old c) (qi3 y1 (h.oldS s4) (h.oldS s5))) Z fun _ _ h F=>X0 2 Z (qk Z F ?_ ?_))))<;>intro F
  .refine X0 4 Z ?_;cases qb F;exact rb h g Z
  refine X0 5 Z ?_;obtain⟨o2,F,l⟩:=qc F;refine ql (rL (fun m e w'=>∃i2,qd9 a_0 M y1 m i2=V o2/\e=[(1,vp a),(3,vi N),(5,vi M),(6,vp k),(7,vi i2)]/\SH w w' [oX k (qen y1 p4 p5 k4 k5) 170,oX a (qK a_0 p1 Q R O P k3) 166]) m1 ⟨_,F,rfl,h⟩ Z ?_);rintro m2 _ _ ⟨i2,F,rfl,h⟩;rcases m2 with _|m2
  .cases F
  refine X0 7 Z (qk Z F ?_ ?_)<;>intro F
  .refine X0 4 Z (rD (Y1 2 1 h Z ?_));refine zd1 Z ?_;obtain⟨_,_,F,a4,_,_,_,_,a9,c3,d6,W⟩:=s2.ix F;obtain⟨_,_,_,_,rfl,_,_⟩:=qaJ d6;refine zdxe a9 c3 a4 Z (zd1 Z (zdc 0 (W.below h.below) Z (Y1 2 0 h Z ?_)));refine zd2 Z (qaK (t:=71) F Z ?_ ?_)<;>intro F
   .refine Y1 4 1 h Z ?_;refine Y0 3 Z ?_;obtain⟨_,_,F,a5,_,_,_,_,b4,c4,d7,X⟩:=s2.ix F;obtain⟨_,_,_,_,rfl,_,_⟩:=qaJ d7;refine zdxe b4 c4 a5 Z (Y0 3 Z (zdc 1 (X.below h.below) Z (Y1 4 0 h Z ?_)));refine Y0 4 Z (qaK (t:=82) F Z ?_ ?_)<;>intro F
    .refine Y1 4 1 h Z ?_;refine Y0 3 Z ?_;obtain⟨_,_,F,a6,_,_,_,_,b5,c5,d8,Y⟩:=s2.ix F;obtain⟨_,_,_,_,rfl,_,_⟩:=qaJ d8;refine zdxe b5 c5 a6 Z (Y0 3 Z (zdc 2 (Y.below h.below) Z (Y1 4 0 h Z ?_)));refine Y0 3 Z (dN h fun _ h=>qk Z F ?_ ?_)<;>intro F
     .refine X0 4 Z ?_;cases qb F;have F:=l;cases qb F;exact rb h g Z
     exact X0 7 Z (rK ⟨_,F,rfl,h⟩ Z)
    exact Y0 10 Z (dN h fun _ h=>qa5 Z Z (X0 7 Z (rK ⟨_,F,rfl,h⟩ Z)))
   exact Y0 21 Z (dN h fun _ h=>qa5 Z Z (X0 7 Z (rK ⟨_,F,rfl,h⟩ Z)))
  refine qt Z ?_;cases qb F;have F:=l;refine X0 6 Z ?_;have h:=h.p [1] Z;exact rK ⟨_,F,rfl,h⟩ Z
 refine qt Z ?_;cases qb F;have F:=g;refine X1 3 0 h Z (zcL h F (qo3 (h.old c)) Z fun _ _ _ _ _ h F=>X1 14 1 h Z (qk Z F ?_ ?_))<;>intro F
 .refine X0 5 Z ?_;obtain⟨o3,F,o⟩:=qc F;refine ql ?_;have h:=h.p [1] Z;refine rL (fun m e w'=>∃i3,qgg a_0 m i3=V o3/\e=[(1,vp a),(3,vi N),(9,vi i3)]/\SH w w' [oX a (qK a_0 p1 Q R O P k3) 166]) n ⟨_,F,rfl,h⟩ Z ?_;rintro m3 _ _ ⟨i3,F,rfl,h⟩;rcases m3 with _|m3
  .cases F
  refine X1 9 0 h Z (qk Z F ?_ ?_)<;>intro F
  .refine X1 8 0 h Z ?_;obtain⟨_,_,F,a7,_,_,_,_,b6,c6,rfl,s⟩:=s3.ix F;refine zxe b6 c6 a7 Z (zc 0 (s.below h.below) Z (zcB h F qae Z fun _ _ h F=>X0 2 Z (qk Z F ?_ ?_)))<;>intro F
   .refine X0 4 Z ?_;cases qb F;exact rb h o Z
   exact X0 7 Z (rK ⟨_,F,rfl,h⟩ Z)
  refine qt Z ?_;cases qb F;have F:=o;refine X0 5 Z (qe (t:=115) F Z ?_ ?_)<;>intro F
  .refine X2 17 0 0 h Z ?_;obtain⟨_,i,F⟩:=qc F;obtain⟨g1,i⟩:=qpF i;refine r_v (qvO g1 Z Z) Z ?_;rw[i];exact X0 5 Z (rb h F Z)
  exact X0 13 Z (rb h F Z)
 refine X0 5 Z (qk Z F ?_ ?_)<;>intro F
 .refine qb0 (rD (zd3 Z (qaK (t:=131) F Z ?_ ?_)))<;>intro F
  .refine Y0 3 Z ?_;obtain⟨_,_,F,B,_,_,_,_,b7,c7,rfl,u⟩:=(h.sl 0 Z).1.ix F;refine zdx b7 c7 ⟨B.1,qC B.2.1 (h.sl 0 Z).2⟩ Z (Y0 1 Z (zdc 0 u Z (Y0 4 Z (qaK (t:=137) F Z ?_ ?_))))<;>intro F
   .refine Y0 3 Z ?_;obtain⟨_,_,F,C,_,_,_,_,b8,c8,rfl,v⟩:=(h.sl 0 Z).1.ix F;refine zdx b8 c8 ⟨C.1,qC C.2.1 (h.sl 0 Z).2⟩ Z (Y0 1 Z (zdc 0 v Z (Y0 5 Z ?_)));obtain⟨_,_,F,D,_,_,_,_,b9,c9,rfl,x⟩:=(h.sl 0 Z).1.ix F;refine zdx b9 c9 ⟨D.1,qC D.2.1 (h.sl 0 Z).2⟩ Z (Y0 1 Z (zdc 0 x Z (Y0 6 Z (qaK (t:=148) F Z ?_ ?_))))<;>intro F
    .refine Y1 4 1 h Z ?_;exact Y0 6 Z (dN h fun _ h=>rb h F Z)
    exact Y0 6 Z (dN h fun _ h=>rb h F Z)
   exact Y0 17 Z (dN h fun _ h=>rb h F Z)
  exact Y0 23 Z (dN h fun _ h=>rb h F Z)
 refine X0 5 Z (qk Z F ?_ ?_)<;>intro F
 .refine X0 5 Z (qe (t:=158) F Z ?_ ?_)<;>intro F
  .refine X0 3 Z ?_;obtain⟨_,_,F,H,_,_,_,_,c0,d0,rfl,y⟩:=(h.sl 0 Z).1.ix F;refine zx c0 d0 ⟨H.1,qC H.2.1 (h.sl 0 Z).2⟩ Z (X0 1 Z (zc 0 y Z (X0 4 Z (qe (t:=164) F Z ?_ ?_))))<;>intro F
   .refine X0 3 Z ?_;obtain⟨_,_,F,d,_,_,_,_,I,K,rfl,z⟩:=(h.sl 0 Z).1.ix F;refine zx I K ⟨d.1,qC d.2.1 (h.sl 0 Z).2⟩ Z (X0 1 Z (zc 0 z Z (X0 4 Z (qe (t:=170) F Z ?_ ?_))))<;>intro F
    .refine X0 3 Z ?_;obtain⟨_,_,F,f,_,_,_,_,J,L,rfl,A⟩:=(h.sl 0 Z).1.ix F;refine zx J L ⟨f.1,qC f.2.1 (h.sl 0 Z).2⟩ Z (X0 1 Z (zc 0 A Z (X0 4 Z (qe (t:=176) F Z ?_ ?_))))<;>intro F
     .exact X1 11 1 h Z (rb h F Z)
     exact X0 7 Z (rb h F Z)
    exact X0 13 Z (rb h F Z)
   exact X0 19 Z (rb h F Z)
  exact X0 25 Z (rb h F Z)
 exact X0 6 Z (rb h F Z)
def qed(l:qF)(b:Int):Nat->Int->Option (Flow Bool Int)|0,_=>U|n+1,a=>bif decide (a<b) then(idx l.Ap a).bind fun c=>(idx l.Ap b).bind fun d=>bif (c.Ba.toList==d.Ba.toList) then V (.ret false) else qed l b n (W64 (a+1)) else V (.nxt a)
def qeg(l:qF):Nat->Int->Option (Flow Bool Int)|0,_=>U|n+1,a=>bif decide (a<(l.Ap.length:Int)) then(idx l.Ap a).bind fun b=>(qlu n b).bind fun r1=>bif (!r1) then V (.ret false) else(qed l a n 0).bind fun|.ret r=>V (.ret r)|.nxt _=>qeg l n (W64 (a+1)) else V (.nxt a)
def qi2(n:Nat)(l:qF):Option Bool:=(qeg l n 0).bind fun|.ret r=>V r|.nxt _=>V (decide ((l.Ap.length:Int)<=8))
theorem qoo{l:qF}(f:Ro w l cs1){r:Bool}(F:qi2 n l=V r):RetV prog 144 [gv l cs1] w r:=by
 obtain⟨p1,I,rfl,s1⟩:=qcY f;refine zV 41 func144 Z fun h=>zSR (qA h Z Z fun _ a h=>X0 7 Z ?_);obtain⟨o1,F,b⟩:=qc F;refine ql (rL (fun m e w'=>∃d,qeg l m d=V o1/\e=[(1,vp a),(3,vi d)]/\SH w w' [oX a [oS p1 l.Ap.length I] 26]) n ⟨_,F,rfl,h⟩ Z ?_);rintro H _ _ ⟨d,F,rfl,h⟩;rcases H with _|H
 .cases F
 refine X1 9 0 h Z (qk Z F ?_ ?_)<;>intro F
 .refine X1 9 0 h Z ?_;obtain⟨M,_,F,o,_,_,_,_,t,x,A,g⟩:=s1.ix F;obtain⟨_,_,_,_,_,_,rfl,s2,K,L⟩:=qan A;refine zxe t x o Z (zc 0 (g.below h.below) Z (zcB h F (qqk (qrO M (h.oldS s2) (h.oldS K) (h.oldS L))) Z fun _ _ h F=>X0 2 Z (qk Z F ?_ ?_)))<;>intro F
  .refine X0 4 Z ?_;cases qb F;exact rb h b Z
  refine X0 5 Z ?_;obtain⟨o2,F,c⟩:=qc F;refine ql (rL (fun m e w'=>∃D,qed l d m D=V o2/\e=[(1,vp a),(3,vi d),(4,vi D)]/\SH w w' [oX a [oS p1 l.Ap.length I] 26]) H ⟨_,F,rfl,h⟩ Z ?_);rintro J _ _ ⟨D,F,rfl,h⟩;rcases J with _|J
  .cases F
  refine X0 7 Z (qk Z F ?_ ?_)<;>intro F
  .refine X0 4 Z (rD (Y1 2 0 h Z ?_));refine zd1 Z ?_;obtain⟨_,_,F,p,_,_,_,_,u,y,B,i⟩:=s1.ix F;obtain⟨_,_,_,_,_,_,rfl,_,_,_⟩:=qan B;refine zdxe u y p Z (zd1 Z (zdc 0 (i.below h.below) Z (Y1 2 0 h Z ?_)));refine zd1 Z ?_;obtain⟨_,_,F,s,_,_,_,_,v,z,C,k⟩:=s1.ix F;obtain⟨_,_,_,_,_,_,rfl,_,_,_⟩:=qan C;refine zdxe v z s Z (zd1 Z (zdc 0 (k.below h.below) Z (zd1 Z (dN h fun _ h=>qk Z F ?_ ?_))))<;>intro F
   .refine X0 4 Z ?_;cases qb F;have F:=c;cases qb F;exact rb h b Z
   exact X0 7 Z (rK ⟨_,F,rfl,h⟩ Z)
  refine qt Z ?_;cases qb F;exact X0 6 Z (rK ⟨_,c,rfl,h⟩ Z)
 refine qt Z ?_;cases qb F;exact X1 8 0 h Z (rb h b Z)
end Go.Fw


namespace Go.Fw
open Go Go.Proofs Go.Proofs.Tryz
open Go.RowKit (Below)
open Ch renaming own->oW,box->oX,grp->oG
open GoT renaming v->oV
open Go.Value renaming slice->oS
set_option maxRecDepth 100000
set_option maxHeartbeats 6400000
variable{n:Nat}{w:World}{cs1 cs2 cs3 cs4 cs5 cs6 cs7 cs8 cs9:List Value}
def qe4(a_1:qj)(b:qJ):Nat->Int->Option (Flow Bool Int)|0,_=>U|n+1,a=>bif decide (a<(b.Ah.length:Int)) then(idx b.Ah a).bind fun c=>(qaA n c 0 (W64 ((a_1.Ah.length:Int)-1))).bind fun r1=>bif (!r1) then V (.ret false) else qe4 a_1 b n (W64 (a+1)) else V (.nxt a)
def qe2(a_1:qj):Nat->Int->Option (Flow Bool Int)|0,_=>U|n+1,a=>bif decide (a<(a_1.Ai.length:Int)) then(idx a_1.Ai a).bind fun d=>(qaA n d.Bs 1 2).bind fun b=>bif (!b) then V (.ret false) else(idx a_1.Ai a).bind fun f=>(qaA n f.Bw 0 (W64 ((a_1.Ah.length:Int)-1))).bind fun c=>bif (!c) then V (.ret false) else qe2 a_1 n (W64 (a+1)) else V (.nxt a)
def qfb(a_0:qF)(a_1:qj):Nat->Int->Option (Flow Bool Int)|0,_=>U|n+1,a=>bif decide (a<(a_1.Ab.length:Int)) then(idx a_1.Ab a).bind fun b=>((qaA n b.Bq 0 (W64 ((a_0.Ap.length:Int)-1))).bind fun c=>bif (!c) then V true else(idx a_0.Ap b.Bq).bind fun d=>V ((b.Ah.length:Int) != (d.Ay.length:Int))).bind fun b2=>bif b2 then V (.ret false) else(qe4 a_1 b n 0).bind fun|.ret r=>V (.ret r)|.nxt _=>qfb a_0 a_1 n (W64 (a+1)) else V (.nxt a)
def qjT(n:Nat)(a_0:qF)(a_1:qj):Option Bool:=(qfb a_0 a_1 n 0).bind fun|.ret r=>V r|.nxt _=>(qe2 a_1 n 0).bind fun|.ret r=>V r|.nxt _=>V true
theorem qpy{a_0:qF}{a_1:qj}(z:Ro w a_0 cs1)(A:Ro w a_1 cs2){r:Bool}(F:qjT n a_0 a_1=V r):RetV prog 145 [gv a_0 cs1,gv a_1 cs2] w r:=by
 obtain⟨p1,k1,rfl,s1⟩:=qcY z;obtain⟨u,p,v,k3,x,s,rfl,s2,_,s4⟩:=qa1 A;refine zV 90 func145 Z fun h=>zSR (qA h Z Z fun _ b h=>qA h Z Z fun _ a h=>X1 14 0 h Z ?_);obtain⟨o1,F,d⟩:=qc F;refine ql (rL (fun m e w'=>∃o,qfb a_0 a_1 m o=V o1/\e=[(2,vp b),(3,vp a),(5,vi (a_1.Ah.length:Int)),(6,vi o)]/\SH w w' [oX a (qay a_1 u v x p k3 s) 31,oX b [oS p1 a_0.Ap.length k1] 26]) n ⟨_,F,rfl,h⟩ Z ?_);rintro m1 _ _ ⟨o,F,rfl,h⟩;rcases m1 with _|m1
 .cases F
 refine X1 9 0 h Z (qk Z F ?_ ?_)<;>intro F
 .refine X1 8 0 h Z ?_;obtain⟨y1,_,F,I,_,_,_,_,N,S,a3,B⟩:=s2.ix F;obtain⟨p5,k5,rfl,s5⟩:=qaH a3;refine zxe N S I Z (zc 0 (B.below h.below) Z (qh qa h Z Z Z fun _ c h=>zs 0 h Z fun _ h=>zNSS ?_));obtain⟨y,k,_,F,i⟩:=bindE F;refine qau (fun e w'=>∃b2,y b2=V o1/\e=[(2,vp b),(3,vp a),(5,vi (a_1.Ah.length:Int)),(6,vi o),(7,vp c),(46,.bool b2)]/\SH w w' [oX c (qj0 y1 p5 k5) 77,oX a (qay a_1 u v x p k3 s) 31,oX b [oS p1 a_0.Ap.length k1] 26]) ?_ ?_
  .refine rD (Y1 2 0 h Z ?_);refine Y1 2 2 h Z ?_;refine zd2 Z ?_;obtain⟨r2,a4,F⟩:=qc F;refine qcn r2 (vsB _) (cB 43 Z) (fun _ hb=>qae  a4) Z Z Z Z (zd2 Z (qaK (t:=33) F Z ?_ ?_))<;>intro F
   .refine Y0 13 Z (dN h fun _ h=>?_);cases qb F;exact rG ⟨_,i,rfl,h⟩ Z
   refine Y1 4 0 h Z ?_;refine Y1 6 2 h Z ?_;refine Y1 4 0 h Z ?_;refine Y0 1 Z ?_;obtain⟨_,_,F,K,_,_,_,_,P,W,a5,D⟩:=s1.ix F;obtain⟨_,_,_,_,_,_,rfl,_,_,_⟩:=qan a5;refine zdxe P W K Z (Y0 3 Z (zdc 2 (D.below h.below) Z (Y0 5 Z (dN h fun _ h=>?_))));cases qb F;exact rG ⟨_,i,rfl,h⟩ Z
  rintro _ _ ⟨b2,F,rfl,h⟩;subst k;refine qk Z F ?_ ?_<;>intro F
  .refine X0 4 Z ?_;cases qb F;exact rb h d Z
  refine X0 5 Z ?_;obtain⟨o2,F,g⟩:=qc F;refine ql (rL (fun m e w'=>∃i2,qe4 a_1 y1 m i2=V o2/\e=[(2,vp b),(3,vp a),(5,vi (a_1.Ah.length:Int)),(6,vi o),(7,vp c),(8,vi i2)]/\SH w w' [oX c (qj0 y1 p5 k5) 77,oX a (qay a_1 u v x p k3 s) 31,oX b [oS p1 a_0.Ap.length k1] 26]) m1 ⟨_,F,rfl,h⟩ Z ?_);rintro m2 _ _ ⟨i2,F,rfl,h⟩;rcases m2 with _|m2
  .cases F
  refine X1 9 0 h Z (qk Z F ?_ ?_)<;>intro F
  .refine X1 8 0 h Z ?_;obtain⟨_,_,F,J,_,_,_,_,O,T,rfl,C⟩:=s5.ix F;refine zxe O T J Z (zc 0 (C.below h.below) Z (zp2 Z (zcB h F qae Z fun _ _ h F=>X0 2 Z (qk Z F ?_ ?_))))<;>intro F
   .refine X0 4 Z ?_;cases qb F;have F:=g;cases qb F;exact rb h d Z
   exact X0 7 Z (rK ⟨_,F,rfl,h⟩ Z)
  refine qt Z ?_;cases qb F;have F:=g;refine X0 6 Z ?_;have h:=h.p [1,2] Z;exact rK ⟨_,F,rfl,h⟩ Z
 refine qt Z ?_;cases qb F;have F:=d;refine X0 5 Z ?_;obtain⟨o4,F,f⟩:=qc F;refine ql ?_;have h:=h.p [0] Z;refine rL (fun m e w'=>∃i3,qe2 a_1 m i3=V o4/\e=[(3,vp a),(5,vi (a_1.Ah.length:Int)),(9,vi i3)]/\SH w w' [oX a (qay a_1 u v x p k3 s) 31]) n ⟨_,F,rfl,h⟩ Z ?_;rintro m3 _ _ ⟨i3,F,rfl,h⟩;rcases m3 with _|m3
 .cases F
 refine X1 9 0 h Z (qk Z F ?_ ?_)<;>intro F
 .refine X1 8 0 h Z ?_;obtain⟨_,_,F,L,_,_,_,_,Q,X,a6,H⟩:=s4.ix F;obtain rfl:=qfl a6;refine zxe Q X L Z (zp1 Z (zc 1 (H.below h.below) Z (zcB h F qae Z fun _ _ h F=>zp2 Z (qe (t:=78) F Z ?_ ?_))))<;>intro F
  .refine X0 12 Z (qb5 Z Z (X0 4 Z ?_));cases qb F;exact rb h f Z
  refine X1 7 0 h Z ?_;obtain⟨_,_,F,M,_,_,_,_,R,Y,a7,l⟩:=s4.ix F;obtain rfl:=qfl a7;refine zxe R Y M Z (X0 3 Z (zc 2 (l.below h.below) Z (X0 5 Z (zcB h F qae Z fun _ _ h F=>X0 4 Z (qk Z F ?_ ?_)))))<;>intro F
  .refine X0 4 Z ?_;cases qb F;exact rb h f Z
  exact X0 7 Z (rK ⟨_,F,rfl,h⟩ Z)
 refine qt Z ?_;cases qb F;exact X0 4 Z (rb h f Z)
def qe5(list:(List ByteArray))(b:Int):Nat->Int->Option (Flow Bool Int)|0,_=>U|n+1,a=>bif decide (a<b) then(idx list a).bind fun c=>(idx list b).bind fun d=>bif (c.toList==d.toList) then V (.ret false) else qe5 list b n (W64 (a+1)) else V (.nxt a)
def qe9(list:(List ByteArray)):Nat->Int->Option (Flow Bool Int)|0,_=>U|n+1,a=>bif decide (a<(list.length:Int)) then(idx list a).bind fun b=>(qgJ n b).bind fun r1=>bif (!r1) then V (.ret false) else(qe5 list a n 0).bind fun|.ret r=>V (.ret r)|.nxt _=>qe9 list n (W64 (a+1)) else V (.nxt a)
def qg6(n:Nat)(list:(List ByteArray)):Option Bool:=(qe9 list n 0).bind fun|.ret r=>V r|.nxt _=>V true
theorem qjD{list:(List ByteArray)}(d:Ro w list cs1){r:Bool}(F:qg6 n list=V r):RetV prog 146 [gv list cs1] w r:=by
 obtain⟨p1,A,rfl,s1⟩:=d;refine zV 31 func146 Z fun h=>X0 9 Z ?_;obtain⟨o1,F,a⟩:=qc F;refine ql (rL (fun m e w'=>∃c,qe9 list m c=V o1/\e=[(0,oS p1 list.length A),(3,vi c)]/\SH w w' []) n ⟨_,F,rfl,h⟩ Z ?_);rintro z _ _ ⟨c,F,rfl,h⟩;rcases z with _|z
 .cases F
 refine X0 8 Z (qk Z F ?_ ?_)<;>intro F
 .refine X0 8 Z ?_;obtain⟨_,_,F,k,_,_,_,_,p,u,rfl,f⟩:=s1.ix F;refine zxe p u k Z (zc 0 (f.below h.below) Z (zcB h F qis Z fun _ _ h F=>X0 2 Z (qk Z F ?_ ?_)))<;>intro F
  .refine X0 4 Z ?_;cases qb F;exact rb h a Z
  refine X0 5 Z ?_;obtain⟨o2,F,b⟩:=qc F;refine ql (rL (fun m e w'=>∃y,qe5 list c m y=V o2/\e=[(0,oS p1 list.length A),(3,vi c),(4,vi y)]/\SH w w' []) z ⟨_,F,rfl,h⟩ Z ?_);rintro B _ _ ⟨y,F,rfl,h⟩;rcases B with _|B
  .cases F
  refine X0 7 Z (qk Z F ?_ ?_)<;>intro F
  .refine X0 4 Z (rD (zd2 Z ?_));obtain⟨_,_,F,l,_,_,_,_,s,v,rfl,g⟩:=s1.ix F;refine zdxe s v l Z (zdc 0 (g.below h.below) Z (zd2 Z ?_));obtain⟨_,_,F,o,_,_,_,_,t,x,rfl,i⟩:=s1.ix F;refine zdxe t x o Z (zdc 0 (i.below h.below) Z (zd1 Z (dN h fun _ h=>qk Z F ?_ ?_)))<;>intro F
   .refine X0 4 Z ?_;cases qb F;have F:=b;cases qb F;exact rb h a Z
   exact X0 7 Z (rK ⟨_,F,rfl,h⟩ Z)
  refine qt Z ?_;cases qb F;exact X0 6 Z (rK ⟨_,b,rfl,h⟩ Z)
 refine qt Z ?_;cases qb F;exact X0 4 Z (rb h a Z)
def qe7(c:(List Int))(d:(List Int)):Nat->Int->Option (Flow Bool Int)|0,_=>U|n+1,a=>bif decide (a<(c.length:Int)) then(idx d a).bind fun b=>bif (b != 1) then V (.ret false) else qe7 c d n (W64 (a+1)) else V (.nxt a)
def qcU(a_1:qj):Nat->(List Int)->Int->Option ((List Int)×Int)|0,_,_=>U|n+1,b,a=>bif decide (a<(a_1.Ai.length:Int)) then(idx a_1.Ai a).bind fun d=>bif (d.Bs==1) then(idx a_1.Ai a).bind fun c=>(idx b c.Bw).bind fun f=>(idx b c.Bw).bind fun _=>qcU a_1 n (setS b c.Bw (W64 (f+1))) (W64 (a+1)) else qcU a_1 n b (W64 (a+1)) else V (b,a)
def qdT(a_1:qj):Nat->(List Int)->Int->Option ((List Int)×Int)|0,_,_=>U|n+1,b,a=>bif decide (a<(a_1.Ab.length:Int)) then(idx a_1.Ab a).bind fun d=>(idx d.Ah (W64 ((d.Ah.length:Int)-1))).bind fun c=>(idx b c).bind fun f=>(idx b c).bind fun _=>qdT a_1 n (setS b c (W64 (f+1))) (W64 (a+1)) else V (b,a)
def qdU(a_1:qj):Nat->(List ByteArray)->Int->Option ((List ByteArray)×Int)|0,_,_=>U|n+1,b,a=>bif decide (a<(a_1.Ai.length:Int)) then(idx a_1.Ai a).bind fun d=>(appS b ([d.Ba]:List ByteArray)).bind fun c=>qdU a_1 n c (W64 (a+1)) else V (b,a)
def qdS(a_1:qj):Nat->(List ByteArray)->Int->Option ((List ByteArray)×Int)|0,_,_=>U|n+1,b,a=>bif decide (a<(a_1.Ab.length:Int)) then(idx a_1.Ab a).bind fun d=>(appS b ([d.Ba]:List ByteArray)).bind fun c=>qdS a_1 n c (W64 (a+1)) else V (b,a)
def qjL(n:Nat)(a_0:qF)(a_1:qj):Option Bool:=((qi2 n a_0).bind fun f=>bif (!f) then V true else bif decide ((a_1.Ab.length:Int) > 14) then V true else bif decide ((a_1.Ah.length:Int) > 30) then V true else bif decide ((a_1.Ai.length:Int) > 8) then V true else(qjT n a_0 a_1).bind fun g=>V (!g)).bind fun b1=>bif b1 then V false else(qdS a_1 n ([]:List ByteArray) 0).bind fun(h,_)=>(qdU a_1 n ([]:List ByteArray) 0).bind fun(i,_)=>((qg6 n h).bind fun r1=>bif (!r1) then V true else(qg6 n i).bind fun c=>bif (!c) then V true else(qg6 n a_1.Ah).bind fun d=>V (!d)).bind fun b=>bif b then V false else(mkS (a_1.Ah.length:Int) (0:Int)).bind fun a=>(qdT a_1 n a 0).bind fun(k,_)=>(qcU a_1 n k 0).bind fun(l,_)=>(qe7 a l n 0).bind fun|.ret r=>V r|.nxt _=>V true
theorem qpn{a_0:qF}{a_1:qj}(o:Ro w a_0 cs1)(L:Ro w a_1 cs2){r:Bool}(F:qjL n a_0 a_1=V r):RetV prog 81 [gv a_0 cs1,gv a_1 cs2] w r:=by
 obtain⟨_,_,rfl,_⟩:=qcY o;obtain⟨B,z,C,k3,D,A,rfl,s2,s3,s4⟩:=qa1 L;refine zV 153 func81 Z fun h=>zSR (qA h Z Z fun _ _ h=>qA h Z Z fun _ a h=>X0 4 Z ?_);obtain⟨KF2,K,_,F,d⟩:=bindE F;refine qau (fun e w'=>∃b1,KF2 b1=V r/\e=[(3,vp a),(40,.bool b1)]/\SH w w' [oX a (qay a_1 B C D z k3 A) 31]) ?_ ?_
 .refine X1 2 1 h Z (zcB h F (qoo (h.old o)) Z fun _ _ h F=>zp2 Z (qe (t:=17) F Z ?_ ?_))<;>intro F
  .refine X0 24 Z ?_;have h:=h.p [0] Z;cases qb F;exact rG ⟨_,d,rfl,h⟩ Z
  refine X1 10 0 h Z (qe (t:=23) F Z ?_ ?_)<;>intro F
  .refine X0 18 Z ?_;have h:=h.p [0] Z;cases qb F;exact rG ⟨_,d,rfl,h⟩ Z
  refine X1 10 0 h Z (qe (t:=29) F Z ?_ ?_)<;>intro F
  .refine X0 12 Z ?_;have h:=h.p [0] Z;cases qb F;exact rG ⟨_,d,rfl,h⟩ Z
  refine X1 10 0 h Z (qe (t:=35) F Z ?_ ?_)<;>intro F
  .refine X0 6 Z ?_;have h:=h.p [0] Z;cases qb F;exact rG ⟨_,d,rfl,h⟩ Z
  refine X2 5 1 0 h Z (zcB h F (qpy (h.old o) (h.old L)) Z fun _ _ h F=>X0 4 Z ?_);have h:=h.p [0] Z;cases qb F;exact rG ⟨_,d,rfl,h⟩ Z
 rintro _ _ ⟨b1,F,rfl,h⟩;subst K;refine qk Z F ?_ ?_<;>intro F
 .exact X0 4 Z (rb h F Z)
 refine zKSR (qn qa [] _ ([]:List ByteArray) h z9 trivial Z fun _ _ _ h=>X0 7 Z ?_);obtain⟨o1,F,hK1⟩:=qc F;refine ql (rL (fun m e w'=>∃S2 p6 v k5 H i1,qdS a_1 m H i1=V o1/\e=[(3,vp a),(5,oS p6 v k5),(6,vi i1)]/\SH w w' [oW S2 (H:List ByteArray) [oS p6 v k5],oX a (qay a_1 B C D z k3 A) 31]) n ⟨_,_,_,_,_,_,F,rfl,h⟩ Z ?_);rintro m1 _ _ ⟨S2,p6,v,k5,H,i1,F,rfl,h⟩;obtain rfl:=(h.sl 0 Z).2;rcases m1 with _|m1
 .cases F
 refine X1 9 1 h Z (qk Z F ?_ ?_)<;>intro F
 .refine X1 8 1 h Z ?_;obtain⟨y1,_,F,he1,_,_,_,_,hp1,hq1,hr1,hc3⟩:=s2.ix F;obtain⟨_,_,rfl,_⟩:=qaH hr1;refine zxe hp1 hq1 he1 Z (zp1 Z (zc 0 (hc3.below h.below) Z (qn qa [.tmp 55] _ ([y1.Ba]:List ByteArray) h z9 ⟨rfl,G⟩ Z fun _ _ _ h=>?_)));obtain⟨_,p,F⟩:=qc F;obtain⟨g1,p⟩:=qE p;refine qar qa 1 h Z (h.sl 0 Z).1 (h.sl 0 Z).2 z9 g1 p Z fun _ _ _ _ h=>X0 8 Z ?_;have h:=h.p [1,2] Z;exact rK ⟨_,_,_,_,_,_,F,rfl,h⟩ Z
 refine qt Z ?_;cases qb F;have F:=hK1;refine zSR (qn qa [] _ ([]:List ByteArray) h z9 trivial Z fun _ _ _ h=>X0 7 Z ?_);obtain⟨o2,F,hK2⟩:=qc F;refine ql (rL (fun m e w'=>∃S6 y x k8 x3 i2,qdU a_1 m x3 i2=V o2/\e=[(3,vp a),(5,oS p6 H.length k5),(7,oS y x k8),(8,vi i2)]/\SH w w' [oW S6 (x3:List ByteArray) [oS y x k8],oW S2 (H:List ByteArray) [oS p6 H.length k5],oX a (qay a_1 B C D z k3 A) 31]) n ⟨_,_,_,_,_,_,F,rfl,h⟩ Z ?_);rintro m2 _ _ ⟨S6,y,x,k8,x3,i2,F,rfl,h⟩;obtain rfl:=(h.sl 0 Z).2;rcases m2 with _|m2
 .cases F
 refine X1 9 2 h Z (qk Z F ?_ ?_)<;>intro F
 .refine X1 8 2 h Z ?_;obtain⟨y2,_,F,he2,_,_,_,_,hp2,hq2,hr2,hc5⟩:=s4.ix F;obtain rfl:=qfl hr2;refine zxe hp2 hq2 he2 Z (zp1 Z (zc 0 (hc5.below h.below) Z (qn qa [.tmp 72] _ ([y2.Ba]:List ByteArray) h z9 ⟨rfl,G⟩ Z fun _ _ _ h=>?_)));obtain⟨_,s,F⟩:=qc F;obtain⟨g2,s⟩:=qE s;refine qar qa 1 h Z (h.sl 0 Z).1 (h.sl 0 Z).2 z9 g2 s Z fun _ _ _ _ h=>X0 8 Z ?_;have h:=h.p [1,2,3] Z;exact rK ⟨_,_,_,_,_,_,F,rfl,h⟩ Z
 refine qt Z ?_;cases qb F;have F:=hK2;refine zSS ?_;obtain⟨KF1,J,_,F,l⟩:=bindE F;refine qau (fun e w'=>∃b4,KF1 b4=V r/\e=[(3,vp a),(88,.bool b4)]/\SH w w' [oX a (qay a_1 B C D z k3 A) 31]) ?_ ?_
 .refine X0 2 Z (zcB h F (qjD (h.own 1 Z)) Z fun _ _ h F=>zp2 Z (qe (t:=78) F Z ?_ ?_))<;>intro F
  .refine X0 11 Z ?_;have h:=h.p [2] Z;cases qb F;exact rG ⟨_,l,rfl,h⟩ Z
  refine X0 3 Z (zcB h F (qjD (h.own 0 Z)) Z fun _ _ h F=>X0 4 Z (qe (t:=83) F Z ?_ ?_))<;>intro F
  .refine X0 6 Z ?_;have h:=h.p [2] Z;cases qb F;exact rG ⟨_,l,rfl,h⟩ Z
  refine X1 5 2 h Z (zcB h F (qjD ⟨_,_,rfl,(h.oldS s3)⟩) Z fun _ _ h F=>X0 4 Z ?_);have h:=h.p [2] Z;cases qb F;exact rG ⟨_,l,rfl,h⟩ Z
 rintro _ _ ⟨b4,F,rfl,h⟩;subst J;refine qk Z F ?_ ?_<;>intro F
 .exact X0 4 Z (rb h F Z)
 refine X1 6 0 h Z ?_;obtain⟨c,u,F⟩:=qc F;obtain⟨g3,g4,u⟩:=qad u;refine qaz qa Int h z9 g3 g4 u Z fun _ S9 b h=>X0 7 Z ?_;obtain⟨o3,F,hK3⟩:=qc F;refine ql (rL (fun m e w'=>∃x6 i3,qdT a_1 m x6 i3=V o3/\e=[(3,vp a),(9,oS b c.length c.length),(10,vi i3)]/\SH w w' [oW S9 (x6:List Int) [oS b c.length c.length],oX a (qay a_1 B C D z k3 A) 31]) n ⟨_,_,F,rfl,h⟩ Z ?_);rintro m3 _ _ ⟨x6,i3,F,rfl,h⟩;rcases m3 with _|m3
 .cases F
 refine X1 9 1 h Z (qk Z F ?_ ?_)<;>intro F
 .refine X1 8 1 h Z ?_;obtain⟨_,_,F,he3,_,_,_,_,hp3,hq3,hr3,hc8⟩:=s2.ix F;obtain⟨_,_,rfl,s6⟩:=qaH hr3;refine zxe hp3 hq3 he3 Z (zp1 Z (zc 2 (hc8.below h.below) Z (X0 8 Z ?_)));obtain⟨_,_,F,he4,_,_,_,_,hp4,hq4,rfl,hc9⟩:=s6.ix F;refine zxe hp4 hq4 he4 Z (zc 0 (hc9.below h.below) Z ?_);obtain⟨y5,_,F,T,_,_,_,_,hp5,hq5,rfl,M⟩:=(h.sl 0 Z).1.ix F;refine zx hp5 hq5 ⟨T.1,qC T.2.1 (h.sl 0 Z).2⟩ Z (zc 0 M Z (zp1 Z ?_));obtain⟨_,hy6,F,W,_,_,_,_,a3,a5,rfl,N⟩:=(h.sl 0 Z).1.ix F;exact zx a3 a5 ⟨W.1,qC W.2.1 (h.sl 0 Z).2⟩ Z (qav qa 0 0 (W64 (y5+1)) h Z hy6 a3 a5 Z N Z Z Z Z Z Z Z fun _ h=>X0 7 Z (rK ⟨_,_,F,rfl,h⟩ Z))
 refine qt Z ?_;cases qb F;have F:=hK3;refine X0 5 Z ?_;obtain⟨o4,F,hK4⟩:=qc F;refine ql (rL (fun m e w'=>∃x7 i4,qcU a_1 m x7 i4=V o4/\e=[(3,vp a),(9,oS b c.length c.length),(12,vi i4)]/\SH w w' [oW S9 (x7:List Int) [oS b c.length c.length],oX a (qay a_1 B C D z k3 A) 31]) n ⟨_,_,F,rfl,h⟩ Z ?_);rintro m4 _ _ ⟨x7,i4,F,rfl,h⟩;rcases m4 with _|m4
 .cases F
 refine X1 9 1 h Z (qk Z F ?_ ?_)<;>intro F
 .refine X1 8 1 h Z ?_;obtain⟨_,_,F,he7,_,_,_,_,hp7,hq7,hr7,O⟩:=s4.ix F;obtain rfl:=qfl hr7;refine zxe hp7 hq7 he7 Z (zp1 Z (zc 1 (O.below h.below) Z (X0 2 Z (qk Z F ?_ ?_))))<;>intro F
  .refine X1 5 1 h Z ?_;obtain⟨_,_,F,he8,_,_,_,_,hp8,hq8,hr8,P⟩:=s4.ix F;obtain rfl:=qfl hr8;refine zxe hp8 hq8 he8 Z (zp1 Z (zc 2 (P.below h.below) Z ?_));obtain⟨y9,_,F,X,_,_,_,_,hp9,hq9,rfl,Q⟩:=(h.sl 0 Z).1.ix F;refine zx hp9 hq9 ⟨X.1,qC X.2.1 (h.sl 0 Z).2⟩ Z (zc 0 Q Z (zp1 Z ?_));obtain⟨_,a6,F,f,_,_,_,_,i,k,rfl,R⟩:=(h.sl 0 Z).1.ix F;exact zx i k ⟨f.1,qC f.2.1 (h.sl 0 Z).2⟩ Z (qav qa 0 0 (W64 (y9+1)) h Z a6 i k Z R Z Z Z Z Z Z Z fun _ h=>X0 7 Z (rK ⟨_,_,F,rfl,h⟩ Z))
  exact X0 7 Z (rK ⟨_,_,F,rfl,h⟩ Z)
 refine qt Z ?_;cases qb F;have F:=hK4;refine X0 5 Z ?_;obtain⟨o5,F,I⟩:=qc F;refine ql ?_;have h:=h.p [0] Z;refine rL (fun m e w'=>∃i5,qe7 c x7 m i5=V o5/\e=[(9,oS b c.length c.length),(13,vi i5)]/\SH w w' [oW S9 (x7:List Int) [oS b c.length c.length]]) n ⟨_,F,rfl,h⟩ Z ?_;rintro m5 _ _ ⟨i5,F,rfl,h⟩;rcases m5 with _|m5
 .cases F
 refine X0 8 Z (qk Z F ?_ ?_)<;>intro F
 .refine X0 7 Z ?_;obtain⟨_,_,F,g,_,_,_,_,Y,a4,rfl,S⟩:=(h.sl 0 Z).1.ix F;refine zx Y a4 ⟨g.1,qC g.2.1 (h.sl 0 Z).2⟩ Z (zc 0 S Z (X0 2 Z (qk Z F ?_ ?_)))<;>intro F
  .refine X0 4 Z ?_;cases qb F;exact rb h I Z
  exact X0 7 Z (rK ⟨_,F,rfl,h⟩ Z)
 refine qt Z ?_;cases qb F;exact X0 4 Z (rb h I Z)
def qgy(a_0:qah):Nat->Int->Option (Flow Bool Int)|0,_=>U|n+1,a=>bif decide (a<(a_0.Bb.length:Int)) then(idx a_0.Bb a).bind fun c=>(qaA n c 0 (W64 ((a_0.Aj.length:Int)-1))).bind fun b=>bif (!b) then V (.ret false) else qgy a_0 n (W64 (a+1)) else V (.nxt a)
def qc4(a_0:qah):Nat->Int->Option (Flow Bool Int)|0,_=>U|n+1,a=>bif decide (a<(a_0.Aj.length:Int)) then((idx a_0.Bl a).bind fun k=>(qaA n k 0 500).bind fun c=>bif (!c) then V true else(idx a_0.Br a).bind fun l=>(qaA n l 0 1000).bind fun d=>V (!d)).bind fun b2=>bif b2 then V (.ret false) else bif (a==0) then(idx a_0.Aj a).bind fun f=>bif (f != (-1)) then V (.ret false) else(idx a_0.Br a).bind fun g=>bif (g != 0) then V (.ret false) else bif decide (a > 0) then(idx a_0.Aj a).bind fun h=>(qaA n h 0 (W64 (a-1))).bind fun r1=>bif (!r1) then V (.ret false) else qc4 a_0 n (W64 (a+1)) else qc4 a_0 n (W64 (a+1)) else bif decide (a > 0) then(idx a_0.Aj a).bind fun i=>(qaA n i 0 (W64 (a-1))).bind fun b=>bif (!b) then V (.ret false) else qc4 a_0 n (W64 (a+1)) else qc4 a_0 n (W64 (a+1)) else V (.nxt a)
def qle(n:Nat)(a_0:qah)(a_1:Int):Option Bool:=(bif decide ((a_0.Aj.length:Int)<1) then V true else bif decide ((a_0.Aj.length:Int) > 8) then V true else bif ((a_0.Br.length:Int) != (a_0.Aj.length:Int)) then V true else bif ((a_0.Bl.length:Int) != (a_0.Aj.length:Int)) then V true else V ((a_0.Bb.length:Int) != a_1)).bind fun b1=>bif b1 then V false else(qc4 a_0 n 0).bind fun|.ret r=>V r|.nxt _=>(qgy a_0 n 0).bind fun|.ret r=>V r|.nxt _=>V true
theorem qqn{a_0:qah}{a_1}(C:Ro w a_0 cs1){r:Bool}(F:qle n a_0 a_1=V r):RetV prog 82 [gv a_0 cs1,vi a_1] w r:=by
 obtain⟨p1,s,x,u,y,k3,z,v,rfl,s1,s2,s3,s4⟩:=qbU C;refine zV 108 func82 Z fun h=>zSR (qA h Z Z fun _ a h=>X1 11 0 h Z ?_);obtain⟨B,i,_,F,c⟩:=bindE F;refine qau (fun e w'=>∃b1,B b1=V r/\e=[(2,vp a),(5,vi (a_0.Aj.length:Int)),(37,.bool b1)]/\SH w w' [oX a (qgV a_0 p1 x y z s u k3 v) 152]) ?_ ?_
 .refine X0 4 Z (qe (t:=13) F Z ?_ ?_)<;>intro F
  .refine X0 25 Z ?_;cases qb F;exact rG ⟨_,c,rfl,h⟩ Z
  refine X0 6 Z (qe (t:=17) F Z ?_ ?_)<;>intro F
  .refine X0 21 Z ?_;cases qb F;exact rG ⟨_,c,rfl,h⟩ Z
  refine X1 12 0 h Z (qe (t:=24) F Z ?_ ?_)<;>intro F
  .refine X0 14 Z ?_;cases qb F;exact rG ⟨_,c,rfl,h⟩ Z
  refine X1 12 0 h Z (qe (t:=31) F Z ?_ ?_)<;>intro F
  .refine X0 7 Z ?_;cases qb F;exact rG ⟨_,c,rfl,h⟩ Z
  refine X1 12 0 h Z ?_;cases qb F;exact rG ⟨_,c,rfl,h⟩ Z
 rintro _ _ ⟨b1,F,rfl,h⟩;subst i;refine qk Z F ?_ ?_<;>intro F
 .exact X0 4 Z (rb h F Z)
 refine X0 6 Z ?_;obtain⟨o1,F,b⟩:=qc F;refine ql (rL (fun m e w'=>∃p,qc4 a_0 m p=V o1/\e=[(2,vp a),(5,vi (a_0.Aj.length:Int)),(6,vi p)]/\SH w w' [oX a (qgV a_0 p1 x y z s u k3 v) 152]) n ⟨_,F,rfl,h⟩ Z ?_);rintro m1 _ _ ⟨p,F,rfl,h⟩;rcases m1 with _|m1
 .cases F
 refine X0 7 Z (qk Z F ?_ ?_)<;>intro F
 .refine X0 5 Z ?_;obtain⟨A,g,_,F,d⟩:=bindE F;refine qau (fun e w'=>∃b2,A b2=V o1/\e=[(2,vp a),(5,vi (a_0.Aj.length:Int)),(6,vi p),(58,.bool b2)]/\SH w w' [oX a (qgV a_0 p1 x y z s u k3 v) 152]) ?_ ?_
  .refine X1 4 0 h Z ?_;obtain⟨_,_,F,O,_,_,_,_,X,a8,rfl,k⟩:=s3.ix F;refine zxe X a8 O Z (zc 0 (k.below h.below) Z (zcB h F qae Z fun _ _ h F=>zp2 Z (qe (t:=50) F Z ?_ ?_)))<;>intro F
   .refine X0 9 Z ?_;cases qb F;exact rG ⟨_,d,rfl,h⟩ Z
   refine X1 7 0 h Z ?_;obtain⟨_,_,F,P,_,_,_,_,Y,a9,rfl,l⟩:=s2.ix F;refine zxe Y a9 P Z (X0 1 Z (zc 0 (l.below h.below) Z (X0 1 Z (zcB h F qae Z fun _ _ h F=>X0 4 Z ?_))));cases qb F;exact rG ⟨_,d,rfl,h⟩ Z
  rintro _ _ ⟨b2,F,rfl,h⟩;subst g;refine qk Z F ?_ ?_<;>intro F
  .refine X0 4 Z ?_;cases qb F;exact rb h b Z
  refine X0 6 Z (qe (t:=61) F Z ?_ ?_)<;>intro F
  .refine X1 7 0 h Z ?_;obtain⟨_,_,F,K,_,_,_,_,R,a4,rfl,D⟩:=s1.ix F;refine zxe R a4 K Z (X0 1 Z (zc 0 (D.below h.below) Z (X0 4 Z (qe (t:=68) F Z ?_ ?_))))<;>intro F
   .refine X0 25 Z (qb5 Z Z (X0 4 Z ?_));cases qb F;exact rb h b Z
   refine X1 7 0 h Z ?_;obtain⟨_,_,F,L,_,_,_,_,S,a5,rfl,H⟩:=s2.ix F;refine zxe S a5 L Z (X0 1 Z (zc 0 (H.below h.below) Z (X0 6 Z (qe (t:=77) F Z ?_ ?_))))<;>intro F
   .refine X0 15 Z (qb5 Z Z (X0 4 Z ?_));cases qb F;exact rb h b Z
   refine X0 6 Z (qe (t:=80) F Z ?_ ?_)<;>intro F
   .refine X1 7 0 h Z ?_;obtain⟨_,_,F,M,_,_,_,_,T,a6,rfl,I⟩:=s1.ix F;refine zxe T a6 M Z (X0 1 Z (zc 0 (I.below h.below) Z (X0 5 Z (zcB h F qae Z fun _ _ h F=>X0 6 Z (qk Z F ?_ ?_)))))<;>intro F
    .refine X0 4 Z ?_;cases qb F;exact rb h b Z
    exact X0 7 Z (rK ⟨_,F,rfl,h⟩ Z)
   exact X0 13 Z (qa5 Z Z (X0 7 Z (rK ⟨_,F,rfl,h⟩ Z)))
  refine X0 22 Z (qe (t:=80) F Z ?_ ?_)<;>intro F
  .refine X1 7 0 h Z ?_;obtain⟨_,_,F,N,_,_,_,_,W,a7,rfl,J⟩:=s1.ix F;refine zxe W a7 N Z (X0 1 Z (zc 0 (J.below h.below) Z (X0 5 Z (zcB h F qae Z fun _ _ h F=>X0 6 Z (qk Z F ?_ ?_)))))<;>intro F
   .refine X0 4 Z ?_;cases qb F;exact rb h b Z
   exact X0 7 Z (rK ⟨_,F,rfl,h⟩ Z)
  exact X0 13 Z (qa5 Z Z (X0 7 Z (rK ⟨_,F,rfl,h⟩ Z)))
 refine qt Z ?_;cases qb F;have F:=b;refine X0 5 Z ?_;obtain⟨o3,F,f⟩:=qc F;refine ql (rL (fun m e w'=>∃i2,qgy a_0 m i2=V o3/\e=[(2,vp a),(5,vi (a_0.Aj.length:Int)),(7,vi i2)]/\SH w w' [oX a (qgV a_0 p1 x y z s u k3 v) 152]) n ⟨_,F,rfl,h⟩ Z ?_);rintro m2 _ _ ⟨i2,F,rfl,h⟩;rcases m2 with _|m2
 .cases F
 refine X1 9 0 h Z (qk Z F ?_ ?_)<;>intro F
 .refine X1 8 0 h Z ?_;obtain⟨_,_,F,Q,_,_,_,_,a3,b4,rfl,o⟩:=s4.ix F;refine zxe a3 b4 Q Z (zc 0 (o.below h.below) Z (zp2 Z (zcB h F qae Z fun _ _ h F=>X0 2 Z (qk Z F ?_ ?_))))<;>intro F
  .refine X0 4 Z ?_;cases qb F;exact rb h f Z
  exact X0 7 Z (rK ⟨_,F,rfl,h⟩ Z)
 refine qt Z ?_;cases qb F;exact X0 4 Z (rb h f Z)
def qc7(c:Int)(b:qJ):Nat->(List Tl05Place)->Int->Option ((List Tl05Place)×Int)|0,_,_=>U|n+1,d,a=>bif decide (a<(b.Ah.length:Int)) then(idx b.Ah a).bind fun g=>(appS d ([(⟨c,a,g,(a==(W64 ((b.Ah.length:Int)-1)))⟩:Tl05Place)]:List Tl05Place)).bind fun f=>qc7 c b n f (W64 (a+1)) else V (d,a)
def qda(a_0:qj):Nat->(List Tl05Place)->Int->Option ((List Tl05Place)×Int)|0,_,_=>U|n+1,b,a=>bif decide (a<(a_0.Ai.length:Int)) then(idx a_0.Ai a).bind fun d=>(idx a_0.Ai a).bind fun f=>(appS b ([(⟨(-1),a,d.Bw,(f.Bs==1)⟩:Tl05Place)]:List Tl05Place)).bind fun c=>qda a_0 n c (W64 (a+1)) else V (b,a)
def qdb(a_0:qj):Nat->(List Tl05Place)->Int->Option ((List Tl05Place)×Int)|0,_,_=>U|n+1,b,a=>bif decide (a<(a_0.Ab.length:Int)) then(idx a_0.Ab a).bind fun d=>(qc7 a d n b 0).bind fun(c,_)=>qdb a_0 n c (W64 (a+1)) else V (b,a)
def qcc(n:Nat)(a_0:qj):Option (List Tl05Place):=(qdb a_0 n ([]:List Tl05Place) 0).bind fun(a,_)=>(qda a_0 n a 0).bind fun(b,_)=>V b
theorem qb7{a_0:qj}(v:Ro w a_0 cs1){r:(List Tl05Place)}(F:qcc n a_0=V r):RetV prog 111 [gv a_0 cs1] w r:=by
 obtain⟨p1,T,p2,W,p3,k3,rfl,s1,_,s3⟩:=qa1 v;refine zV 69 func111 Z fun h=>zSR (qA h Z Z fun _ a h=>X0 4 Z (qn qa [] _ ([]:List Tl05Place) h z9 trivial Z fun _ _ _ h=>X0 7 Z ?_));obtain⟨o1,F,s⟩:=qc F;refine ql (rL (fun m e w'=>∃S2 p5 g X x1 d,qdb a_0 m x1 d=V o1/\e=[(1,vp a),(3,oS p5 g X),(4,vi d)]/\SH w w' [oW S2 (x1:List Tl05Place) [oS p5 g X],oX a (qay a_0 p1 p2 p3 T W k3) 31]) n ⟨_,_,_,_,_,_,F,rfl,h⟩ Z ?_);rintro m1 _ _ ⟨S2,p5,g,X,x1,d,F,rfl,h⟩;obtain rfl:=(h.sl 0 Z).2;rcases m1 with _|m1
 .cases F
 refine X1 9 1 h Z (qk Z F ?_ ?_)<;>intro F
 .refine X1 8 1 h Z ?_;obtain⟨p,_,F,B,_,_,_,_,I,M,Q,x⟩:=s1.ix F;obtain⟨p6,k5,rfl,s4⟩:=qaH Q;refine zxe I M B Z (zp1 Z (zc 2 (x.below h.below) Z (X0 6 Z ?_)));obtain⟨o2,F,t⟩:=qc F;refine ql (rL (fun m e w'=>∃S3 p7 i Y x2 f,qc7 d p m x2 f=V o2/\e=[(1,vp a),(3,oS p7 i Y),(4,vi d),(5,oS p6 p.Ah.length k5),(6,vi f)]/\SH w w' [oW S3 (x2:List Tl05Place) [oS p7 i Y],oX a (qay a_0 p1 p2 p3 T W k3) 31]) m1 ⟨_,_,_,_,_,_,F,rfl,h⟩ Z ?_);rintro m2 _ _ ⟨S3,p7,i,Y,x2,f,F,rfl,h⟩;obtain rfl:=(h.sl 0 Z).2;rcases m2 with _|m2
  .cases F
  refine X0 8 Z (qk Z F ?_ ?_)<;>intro F
  .refine X0 9 Z ?_;obtain⟨y2,_,F,C,_,_,_,_,J,N,rfl,y⟩:=s4.ix F;refine zxe J N C Z (zc 0 (y.below h.below) Z (zp5 Z (r_v (qy qa [0,1,2,3] [.tmp 29,.tmp 30,.tmp 34,.tmp 39] z8) Z (qn qa [.tmp 40] _ ([(⟨d,f,y2,(f==(W64 ((p.Ah.length:Int)-1)))⟩:Tl05Place)]:List Tl05Place) h z9 ⟨(qga (⟨d,f,y2,(f==(W64 ((p.Ah.length:Int)-1)))⟩:Tl05Place)),G⟩ Z fun _ _ _ h=>?_))));obtain⟨_,b,F⟩:=qc F;obtain⟨g1,b⟩:=qE b;refine qar qa 1 h Z (h.sl 0 Z).1 (h.sl 0 Z).2 z9 g1 b Z fun _ _ _ _ h=>X0 8 Z ?_;have h:=h.p [1,2] Z;exact rK ⟨_,_,_,_,_,_,F,rfl,h⟩ Z
  refine qt Z ?_;cases qb F;exact X0 6 Z (rK ⟨_,_,_,_,_,_,t,rfl,h⟩ Z)
 refine qt Z ?_;cases qb F;have F:=s;refine X0 5 Z ?_;obtain⟨o3,F,u⟩:=qc F;refine ql (rL (fun m e w'=>∃S6 l k k8 x4 o,qda a_0 m x4 o=V o3/\e=[(1,vp a),(3,oS l k k8),(7,vi o)]/\SH w w' [oW S6 (x4:List Tl05Place) [oS l k k8],oX a (qay a_0 p1 p2 p3 T W k3) 31]) n ⟨_,_,_,_,_,_,F,rfl,h⟩ Z ?_);rintro m3 _ _ ⟨S6,l,k,k8,x4,o,F,rfl,h⟩;obtain rfl:=(h.sl 0 Z).2;rcases m3 with _|m3
 .cases F
 refine X1 9 1 h Z (qk Z F ?_ ?_)<;>intro F
 .refine zKSB (rA [] [1] h Z fun _ h=>M1 31 [0,1,2,3,4] 0 (h.p [1] Z) Z ?_);obtain⟨y3,_,F,D,_,_,_,_,K,O,R,z⟩:=s3.ix F;obtain rfl:=qfl R;refine Ae 5 63 K O D (h.p [1] Z) Z (M0 127 [6] (h.p [1] Z) Z (Al 7 255 2 z (h.p [1] Z) Z (M1 2047 [8,9,10] 0 (h.p [1] Z) Z ?_)));obtain⟨y4,_,F,H,_,_,_,_,L,P,S,A⟩:=s3.ix F;obtain rfl:=qfl S;refine Ae 11 4095 L P H (h.p [1] Z) Z (M0 8191 [12] (h.p [1] Z) Z (Al 13 16383 1 A (h.p [1] Z) Z (M0 32767 [14] (h.p [1] Z) Z (Aw 15 65535 (fun w' hw=>qy qa [0,1,2,3] [.const (vi (-1)),.tmp 51,.tmp 57,.tmp 64] z8) (h.p [1] Z) Z ?_))));refine Ao 16 131071 Z (qn qa [.tmp 65] _ ([(⟨(-1),o,y3.Bw,(y4.Bs==1)⟩:Tl05Place)]:List Tl05Place) h z9 ⟨(qga (⟨(-1),o,y3.Bw,(y4.Bs==1)⟩:Tl05Place)),G⟩ Z fun _ _ _ h=>Ag (h.p [2] Z) (Ao 17 262143 Z ?_));obtain⟨_,c,F⟩:=qc F;obtain⟨g2,c⟩:=qE c;refine qar qa 1 h Z (h.sl 0 Z).1 (h.sl 0 Z).2 z9 g2 c Z fun _ _ _ _ h=>G0 524287 [18] (h.p [2] Z) Z (Ad (X0 6 Z ?_));have h:=h.p [1,2] Z;exact rK ⟨_,_,_,_,_,_,F,rfl,h⟩ Z
 refine qt Z ?_;cases qb F;have F:=u;refine X0 5 Z ?_;cases qb F;exact rO 0 h Z ⟨rfl,G⟩
def qcT(net:Int)(r1:(List Tl05Place)):Nat->(List Int)->Int->Option ((List Int)×Int)|0,_,_=>U|n+1,b,a=>bif decide (a<(r1.length:Int)) then((idx r1 a).bind fun d=>bif (d.net==net) then(idx r1 a).bind fun f=>V (!f.drives) else V false).bind fun b1=>bif b1 then(appS b ([a]:List Int)).bind fun c=>qcT net r1 n c (W64 (a+1)) else qcT net r1 n b (W64 (a+1)) else V (b,a)
def qf5(n:Nat)(d:qj)(net:Int):Option (List Int):=(qcc n d).bind fun r1=>(qcT net r1 n ([]:List Int) 0).bind fun(a,_)=>V a
theorem qhV{d:qj}{net}(i:Ro w d cs1){r:(List Int)}(F:qf5 n d net=V r):RetV prog 83 [gv d cs1,vi net] w r:=by
 obtain⟨_,_,_,_,_,_,rfl,_,_,_⟩:=qa1 i;refine zV 37 func83 Z fun h=>zSR (qA h Z Z fun _ _ h=>X0 4 Z (qn qa [] _ ([]:List Int) h z9 trivial Z fun _ _ _ h=>X1 5 1 h Z (zcL h F (qb7 (h.old i)) Z fun r1 _ S2 v u h F=>X0 7 Z ?_)));obtain⟨o1,F,z⟩:=qc F;refine ql ?_;have h:=h.p [0,1] Z;refine rL (fun m e w'=>∃y s b p c o,qcT net r1 m c o=V o1/\e=[(1,vi net),(5,oS s b p),(6,oS v r1.length u),(7,vi o)]/\SH w w' [oW S2 (r1:List Tl05Place) [oS v r1.length u],oW y (c:List Int) [oS s b p]]) n ⟨_,_,_,_,_,_,F,rfl,h⟩ Z ?_;rintro L _ _ ⟨y,s,b,p,c,o,F,rfl,h⟩;obtain rfl:=(h.sl 1 Z).2;rcases L with _|L
 .cases F
 refine X0 8 Z (qk Z F ?_ ?_)<;>intro F
 .refine X0 4 Z ?_;obtain⟨x,g,_,F,f⟩:=bindE F;refine qau (fun e w'=>∃b1,x b1=V o1/\e=[(1,vi net),(5,oS s c.length p),(6,oS v r1.length u),(7,vi o),(31,.bool b1)]/\SH w w' [oW S2 (r1:List Tl05Place) [oS v r1.length u],oW y (c:List Int) [oS s c.length p]]) ?_ ?_
  .refine X0 3 Z ?_;obtain⟨_,_,F,k,_,_,_,_,C,H,J,A⟩:=(h.sl 0 Z).1.ix F;obtain rfl:=qbD J;refine zx C H ⟨k.1,qC k.2.1 (h.sl 0 Z).2⟩ Z (zp1 Z (zc 2 A Z (zp3 Z (qe (t:=24) F Z ?_ ?_))))<;>intro F
   .refine X0 5 Z ?_;obtain⟨_,_,F,l,_,_,_,_,D,I,K,B⟩:=(h.sl 0 Z).1.ix F;obtain rfl:=qbD K;refine zx D I ⟨l.1,qC l.2.1 (h.sl 0 Z).2⟩ Z (X0 3 Z (zc 3 B Z (X0 4 Z ?_)));cases qb F;exact rG ⟨_,f,rfl,h⟩ Z
   refine X0 8 Z ?_;cases qb F;exact rG ⟨_,f,rfl,h⟩ Z
  rintro _ _ ⟨b1,F,rfl,h⟩;subst g;refine qk Z F ?_ ?_<;>intro F
  .refine X0 3 Z (qn qa [.tmp 33] _ ([o]:List Int) h z9 ⟨rfl,G⟩ Z fun _ _ _ h=>?_);obtain⟨_,a,F⟩:=qc F;obtain⟨M,a⟩:=qE a;refine qar qa 2 h Z (h.sl 0 Z).1 (h.sl 0 Z).2 z9 M a Z fun _ _ _ _ h=>X0 8 Z ?_;have h:=h.p [1,2] Z;exact rK ⟨_,_,_,_,_,_,F,rfl,h⟩ Z
  exact X0 7 Z (rK ⟨_,_,_,_,_,_,F,rfl,h⟩ Z)
 refine qt Z ?_;cases qb F;have F:=z;refine X0 5 Z ?_;cases qb F;exact rO 1 h Z ⟨rfl,G⟩
def qfI(b:qd):Nat->Int->Option (Flow Bool Int)|0,_=>U|n+1,a=>bif decide (a<(b.Ac.length:Int)) then(idx b.Ac a).bind fun d=>(qf5 n (⟨b.Aa.Ab,b.Aa.Ah,b.Aa.Ai⟩:qj) a).bind fun r1=>(qle n d (r1.length:Int)).bind fun c=>bif (!c) then V (.ret false) else qfI b n (W64 (a+1)) else V (.nxt a)
def qco(n:Nat)(b:qd):Option Bool:=((qjL n (⟨b.Am.Ap⟩:qF) (⟨b.Aa.Ab,b.Aa.Ah,b.Aa.Ai⟩:qj)).bind fun a=>bif (!a) then V true else V ((b.Ac.length:Int) != (b.Aa.Ah.length:Int))).bind fun b1=>bif b1 then V false else(qfI b n 0).bind fun|.ret r=>V r|.nxt _=>V true
theorem qfF{b:qd}(i:Ro w b cs1){r:Bool}(F:qco n b=V r):RetV prog 28 [gv b cs1] w r:=by
 obtain⟨p1,v,B,x,C,k3,D,y,H,z,rfl,s1,s2,I,J,K⟩:=qB i;refine zV 39 func28 Z fun h=>zSR (qA h Z Z fun _ a h=>X0 4 Z ?_);obtain⟨g,f,_,F,d⟩:=bindE F;refine qau (fun e w'=>∃b1,g b1=V r/\e=[(1,vp a),(19,.bool b1)]/\SH w w' [oX a (qu b p1 B C D H v x k3 y z) 34]) ?_ ?_
 .refine X2 5 0 0 h Z (zcB h F (qpn (qks _ (h.oldS s1)) (qaO _ (h.oldS s2) (h.oldS I) (h.oldS J))) Z fun _ _ h F=>zp2 Z (qe (t:=10) F Z ?_ ?_))<;>intro F
  .refine X0 10 Z ?_;cases qb F;exact rG ⟨_,d,rfl,h⟩ Z
  refine X2 18 0 0 h Z ?_;cases qb F;exact rG ⟨_,d,rfl,h⟩ Z
 rintro _ _ ⟨b1,F,rfl,h⟩;subst f;refine qk Z F ?_ ?_<;>intro F
 .exact X0 4 Z (rb h F Z)
 refine X0 6 Z ?_;obtain⟨o1,F,c⟩:=qc F;refine ql (rL (fun m e w'=>∃u,qfI b m u=V o1/\e=[(1,vp a),(3,vi u)]/\SH w w' [oX a (qu b p1 B C D H v x k3 y z) 34]) n ⟨_,F,rfl,h⟩ Z ?_);rintro A _ _ ⟨u,F,rfl,h⟩;rcases A with _|A
 .cases F
 refine X1 9 0 h Z (qk Z F ?_ ?_)<;>intro F
 .refine X0 4 Z (rA [] [0] h Z fun _ h=>M1 7 [0,1,2] 0 (h.p [0] Z) Z ?_);obtain⟨P,_,F,l,_,_,_,_,o,p,s,k⟩:=K.ix F;obtain⟨_,_,_,_,_,_,_,_,rfl,L,M,N,O⟩:=qbU s;refine Ae 3 15 o p l (h.p [0] Z) Z (Al 4 31 0 k (h.p [0] Z) Z (M1 255 [5,6,7] 0 (h.p [0] Z) Z (Ao 8 511 Z (zcL h F (qhV (qaO _ (h.oldS s2) (h.oldS I) (h.oldS J))) Z fun _ _ _ _ _ h F=>G0 1023 [9] (h.p [1] Z) Z (Ao 10 2047 Z (zcB h F (qqn (qrm P (h.oldS L) (h.oldS M) (h.oldS N) (h.oldS O))) Z fun _ _ h F=>G0 4095 [11] (h.p [1] Z) Z (Ad (qk Z F ?_ ?_))))))))<;>intro F
  .refine X0 4 Z ?_;cases qb F;exact rb h c Z
  refine X0 7 Z ?_;have h:=h.p [1] Z;exact rK ⟨_,F,rfl,h⟩ Z
 refine qt Z ?_;cases qb F;exact X0 4 Z (rb h c Z)
def qa3(_:Nat)(x:Int)(b:Int)(a:Int):Option Bool:=bif decide (x>=b) then V (decide (x<=a)) else V false
theorem qaN{x low high}  {r:Bool}(F:qa3 n x low high=V r):RetV prog 35 [vi x,vi low,vi high] w r:=by
 refine zV 15 func35 Z fun h=>X0 10 Z (qe (t:=10) F Z ?_ ?_)<;>intro F
 .exact X0 9 Z (rb h F Z)
 exact X0 6 Z (rb h F Z)
def qiA(_:Nat)(list:(List ByteArray)):Option Int:=V (list.length:Int)
theorem qmR{list:(List ByteArray)}(a:Ro w list cs1){r:Int}(F:qiA n list=V r):RetV prog 194 [gv list cs1] w r:=by
 obtain⟨_,_,rfl,_⟩:=a;exact zV 5 func194 Z fun h=>X0 10 Z (ri h F Z)
def qcy(n:Nat)(d:qj)(net:Int):Option Bool:=(qiA n d.Ah).bind fun r1=>(qa3 n net 0 (W64 (r1-1))).bind fun a=>V a
theorem qd5{d:qj}{net}(a:Ro w d cs1){r:Bool}(F:qcy n d net=V r):RetV prog 133 [gv d cs1,vi net] w r:=by
 obtain⟨_,_,_,_,_,_,rfl,_,s2,_⟩:=qa1 a;exact zV 11 func133 Z fun h=>zSR (qA h Z Z fun _ _ h=>X1 7 0 h Z (zcI h F (qmR ⟨_,_,rfl,(h.oldS s2)⟩) Z fun _ _ h F=>zp1 Z (zcB h F qaN Z fun _ _ h F=>X0 2 Z (rb h F Z))))
def qjp(_:Nat)(s cutset:ByteArray):Option ByteArray:=if s.size<=9223372036854775807/\cutset.size<4294967281/\cutset.data.toList.all (fun b=>decide (b.toNat<128))=true then V ⟨(Lib.trimS s.data.toList cutset.data.toList).toArray⟩ else U
theorem qp5{s cutset}{r:ByteArray}(F:qjp n s cutset=V r):RetV prog 153 [.string s,.string cutset] w r:=by
 unfold qjp at F;split at F
 .rename_i hh
  obtain rfl:=qb F;refine(Tryz.strings_Trim_any s cutset w hh.1 hh.2.1 hh.2.2).mono ?_;rintro e w' ⟨rfl,a⟩;exact⟨_,rfl,a,[.string _],rfl,qsr _ _⟩
 cases F
def qhe(_:Nat)(s:ByteArray)(c:(IntK .u8)):Option Int:=V (Lib.indexByte s.data.toList c.val.toNat.toUInt8)
theorem qm6{s}{c:(IntK .u8)}{r:Int}(F:qhe n s c=V r):RetV prog 154 [.string s,.int .u8 c.val] w r:=by
 obtain rfl:=qb F;refine(Tryz.strings_IndexByte s c.val w).mono ?_;rintro e w' ⟨rfl,rfl⟩;exact⟨_,rfl,Below.refl _ _,[vi _],rfl,qv3 _ _⟩
def qiP(n:Nat)(s:ByteArray):Option Bool:=(qa3 n (s.size:Int) 1 8).bind fun r1=>bif r1 then(qjp n s (⟨#[97,98,99,100,101,102,103,104,105,106,107,108,109,110,111,112,113,114,115,116,117,118,119,120,121,122,48,49,50,51,52,53,54,55,56,57]⟩:ByteArray)).bind fun a=>bif (a.toList==(⟨#[]⟩:ByteArray).toList) then(atS s 0).bind fun c=>(qhe n (⟨#[97,98,99,100,101,102,103,104,105,106,107,108,109,110,111,112,113,114,115,116,117,118,119,120,121,122]⟩:ByteArray) (⟨c⟩:IntK .u8)).bind fun b=>V (decide (b>=0)) else V false else V false
theorem qkR{s}  {r:Bool}(F:qiP n s=V r):RetV prog 87 [.string s] w r:=by
 refine zV 17 func87 Z fun h=>X0 8 Z (zcB h F qaN Z fun _ _ h F=>zp1 Z (qe (t:=6) F Z ?_ ?_))<;>intro F
 .refine X0 3 Z (zcS h F qp5 Z fun _ _ h F=>X0 4 Z (qe (t:=11) F Z ?_ ?_))<;>intro F
  .refine X0 3 Z ?_;obtain⟨_,a,F⟩:=qc F;have b:=qnn a;exact r_v (qm7 qa b Z Z Z Z) Z (X0 1 Z (zcI h F qm6 Z fun _ _ h F=>X0 5 Z (rb h F Z)))
  exact X0 7 Z (rb h F Z)
 exact X0 12 Z (rb h F Z)
def qcV(_:Nat)(list:(List qaB)):Option Int:=V (list.length:Int)
theorem qiO{list:(List qaB)}(a:Ro w list cs1){r:Int}(F:qcV n list=V r):RetV prog 162 [gv list cs1] w r:=by
 obtain⟨_,_,rfl,_⟩:=a;exact zV 5 func162 Z fun h=>X0 10 Z (ri h F Z)
def qcj(s:(List ByteArray))(v:ByteArray):Nat->Int->Option (Flow Int Int)|0,_=>U|n+1,a=>bif decide (a<(s.length:Int)) then(idx s a).bind fun b=>bif (v.toList==b.toList) then V (.ret a) else qcj s v n (W64 (a+1)) else V (.nxt a)
def qgf(n:Nat)(s:(List ByteArray))(v:ByteArray):Option Int:=(qcj s v n 0).bind fun|.ret r=>V r|.nxt _=>V (-1)
theorem qmj{s:(List ByteArray)}{v}(b:Ro w s cs1){r:Int}(F:qgf n s v=V r):RetV prog 267 [gv s cs1,.string v] w r:=by
 obtain⟨p1,l,rfl,s1⟩:=b;refine zV 19 func267 Z fun h=>X0 11 Z ?_;obtain⟨o1,F,a⟩:=qc F;refine ql (rL (fun m e w'=>∃i,qcj s v m i=V o1/\e=[(0,oS p1 s.length l),(1,.string v),(7,vi (s.length:Int)),(8,vi i)]/\SH w w' []) n ⟨_,F,rfl,h⟩ Z ?_);rintro k _ _ ⟨i,F,rfl,h⟩;rcases k with _|k
 .cases F
 refine X0 5 Z (qk Z F ?_ ?_)<;>intro F
 .refine X0 13 Z ?_;obtain⟨_,_,F,d,_,_,_,_,f,g,rfl,c⟩:=s1.ix F;refine zxe f g d Z (zc 0 (c.below h.below) Z (X0 2 Z (qk Z F ?_ ?_)))<;>intro F
  .refine X0 5 Z ?_;cases qb F;exact ri h a Z
  exact X0 6 Z (rK ⟨_,F,rfl,h⟩ Z)
 refine qt Z ?_;cases qb F;exact X0 4 Z (ri h a Z)
def qeP(n:Nat)(s:(List ByteArray))(v:ByteArray):Option Bool:=(qgf n s v).bind fun r1=>V (decide (r1>=0))
theorem qk8{s:(List ByteArray)}{v}(a:Ro w s cs1){r:Bool}(F:qeP n s v=V r):RetV prog 248 [gv s cs1,.string v] w r:=by
 obtain⟨_,_,rfl,s1⟩:=a;exact zV 9 func248 Z fun h=>X0 8 Z (zcI h F (qmj ⟨_,_,rfl,(h.oldS s1)⟩) Z fun _ _ h F=>X0 3 Z (rb h F Z))
def qeY(list:(List ByteArray)):Nat->Int->Option (Flow Bool Int)|0,_=>U|n+1,a=>bif decide (a<(list.length:Int)) then(idx list a).bind fun b=>(qiP n b).bind fun r1=>bif (!r1) then V (.ret false) else(subS list 0 a).bind fun d=>(qeP n d b).bind fun c=>bif c then V (.ret false) else qeY list n (W64 (a+1)) else V (.nxt a)
def qeR(n:Nat)(list:(List ByteArray)):Option Bool:=(qeY list n 0).bind fun|.ret r=>V r|.nxt _=>V true
theorem qgh{list:(List ByteArray)}(f:Ro w list cs1){r:Bool}(F:qeR n list=V r):RetV prog 206 [gv list cs1] w r:=by
 obtain⟨p1,s,rfl,s1⟩:=f;refine zV 23 func206 Z fun h=>X0 11 Z ?_;obtain⟨o1,F,a⟩:=qc F;refine ql (rL (fun m e w'=>∃p,qeY list m p=V o1/\e=[(0,oS p1 list.length s),(5,oS p1 list.length s),(6,vi (list.length:Int)),(7,vi p)]/\SH w w' []) n ⟨_,F,rfl,h⟩ Z ?_);rintro u _ _ ⟨p,F,rfl,h⟩;rcases u with _|u
 .cases F
 refine X0 5 Z (qk Z F ?_ ?_)<;>intro F
 .refine X0 6 Z ?_;obtain⟨_,_,F,i,_,_,_,_,l,o,rfl,g⟩:=s1.ix F;refine zxe l o i Z (zc 0 (g.below h.below) Z (X0 6 Z (zcB h F qkR Z fun _ _ h F=>zp2 Z (qe (t:=15) F Z ?_ ?_))))<;>intro F
  .refine X0 7 Z (qb5 Z Z (X0 4 Z ?_));cases qb F;exact rb h a Z
  refine X0 5 Z ?_;obtain⟨_,d,F⟩:=qc F;obtain⟨_,_,c,b,k,v⟩:=qsd (h.oldS s1) d;refine r_v (qnB qa Z Z Z (qsf v Z) c b k Z Z Z Z) Z ?_;have s2:=qtu s1 d c b;refine X0 3 Z (zcB h F (qk8 ⟨_,_,rfl,(h.oldS s2)⟩) Z fun _ _ h F=>X0 2 Z (qk Z F ?_ ?_))<;>intro F
  .refine X0 4 Z ?_;cases qb F;exact rb h a Z
  exact X0 6 Z (rK ⟨_,F,rfl,h⟩ Z)
 refine qt Z ?_;cases qb F;exact X0 4 Z (rb h a Z)
def qdi(list:(List qaB)):Nat->(List ByteArray)->Int->Option (Flow Bool ((List ByteArray)×Int))|0,_,_=>U|n+1,c,a=>bif decide (a<(list.length:Int)) then(idx list a).bind fun b=>(appS c ([b.Ba]:List ByteArray)).bind fun d=>bif (a==(W64 ((list.length:Int)-1))) then bif (b.Bs != 2) then V (.ret false) else bif (b.Bl != 0) then V (.ret false) else bif b.Bo then V (.ret false) else qdi list n d (W64 (a+1)) else bif (b.Bs != 1) then V (.ret false) else(qa3 n b.Bl 0 500).bind fun r1=>bif (!r1) then V (.ret false) else qdi list n d (W64 (a+1)) else V (.nxt (c,a))
def qkx(n:Nat)(list:(List qaB)):Option Bool:=(qdi list n ([]:List ByteArray) 0).bind fun|.ret r=>V r|.nxt (d,_)=>(qcV n list).bind fun a=>(qa3 n a 2 5).bind fun b=>bif b then(qeR n d).bind fun c=>V c else V false
theorem qp2{list:(List qaB)}(d:Ro w list cs1){r:Bool}(F:qkx n list=V r):RetV prog 245 [gv list cs1] w r:=by
 obtain⟨p1,v,rfl,s1⟩:=d;refine zV 52 func245 Z fun h=>X0 15 Z ?_;have h:=h.nil (α:=ByteArray);obtain⟨o1,F,a⟩:=qc F;refine ql (rL (fun m e w'=>∃S1 s c p u o,qdi list m u o=V o1/\e=[(0,oS p1 list.length v),(3,oS s c p),(6,oS p1 list.length v),(7,vi (list.length:Int)),(8,vi o)]/\SH w w' [oW S1 (u:List ByteArray) [oS s c p]]) n ⟨_,_,_,_,_,_,F,rfl,h⟩ Z ?_);rintro x _ _ ⟨S1,s,c,p,u,o,F,rfl,h⟩;obtain rfl:=(h.sl 0 Z).2;rcases x with _|x
 .cases F
 refine X0 5 Z (qk Z F ?_ ?_)<;>intro F
 .refine X0 6 Z ?_;obtain⟨z,_,F,g,_,_,_,_,i,k,l,f⟩:=s1.ix F;obtain rfl:=qfG l;refine zxe i k g Z (zc 0 (f.below h.below) Z (qh qa h Z Z Z fun _ _ h=>zp1 Z (zs 0 h Z fun _ h=>X1 6 0 h Z (qn qa [.tmp 15] _ ([z.Ba]:List ByteArray) h z9 ⟨rfl,G⟩ Z fun _ _ _ h=>?_))));obtain⟨_,b,F⟩:=qc F;obtain⟨y,b⟩:=qE b;refine qar qa 2 h Z (h.sl 0 Z).1 (h.sl 0 Z).2 z9 y b Z fun _ _ _ _ h=>X0 10 Z (qk Z F ?_ ?_)<;>intro F
  .refine X1 6 1 h Z (qe (t:=26) F Z ?_ ?_)<;>intro F
   .refine X0 9 Z (qb5 Z Z (X0 4 Z ?_));cases qb F;exact rb h a Z
   refine X1 8 1 h Z (qe (t:=31) F Z ?_ ?_)<;>intro F
   .refine X0 4 Z (qb5 Z Z (X0 4 Z ?_));cases qb F;exact rb h a Z
   refine X1 6 1 h Z (qk Z F ?_ ?_)<;>intro F
   .refine X0 4 Z ?_;cases qb F;exact rb h a Z
   refine X0 6 Z ?_;have h:=h.p [2] Z;exact rK ⟨_,_,_,_,_,_,F,rfl,h⟩ Z
  refine X1 6 1 h Z (qe (t:=38) F Z ?_ ?_)<;>intro F
  .refine X0 6 Z (qb5 Z Z (X0 4 Z ?_));cases qb F;exact rb h a Z
  refine X1 5 1 h Z (zcB h F qaN Z fun _ _ h F=>X0 4 Z (qk Z F ?_ ?_))<;>intro F
  .refine X0 4 Z ?_;cases qb F;exact rb h a Z
  refine X0 6 Z ?_;have h:=h.p [2] Z;exact rK ⟨_,_,_,_,_,_,F,rfl,h⟩ Z
 refine qt Z ?_;cases qb F;have F:=a;refine X0 3 Z (zcI h F (qiO ⟨_,_,rfl,(h.oldS s1)⟩) Z fun _ _ h F=>zcB h F qaN Z fun _ _ h F=>zp1 Z (qe (t:=48) F Z ?_ ?_))<;>intro F
 .exact X0 3 Z (zcB h F (qgh (h.own 0 Z)) Z fun _ _ h F=>X0 3 Z (rb h F Z))
 exact X0 5 Z (rb h F Z)
def qe1(n:Nat)(c:qL):Option Int:=(qcV n c.Ay).bind fun r1=>V (W64 (r1-1))
theorem qh8{c:qL}(a:Ro w c cs1){r:Int}(F:qe1 n c=V r):RetV prog 103 [gv c cs1] w r:=by
 obtain⟨_,_,_,_,_,_,rfl,s1,_,_⟩:=qan a;exact zV 7 func103 Z fun h=>zSR (qA h Z Z fun _ _ h=>X1 6 0 h Z (zcI h F (qiO ⟨_,_,rfl,(h.oldS s1)⟩) Z fun _ _ h F=>X0 3 Z (ri h F Z)))
def qkq(_:Nat)(kind:Int):Option Bool:=bif (kind==4) then V true else V (kind==5)
theorem qp7{kind}  {r:Bool}(F:qkq n kind=V r):RetV prog 276 [vi kind] w r:=by
 refine zV 9 func276 Z fun h=>X0 9 Z (qe (t:=5) F Z ?_ ?_)<;>intro F
 .exact X0 5 Z (rb h F Z)
 exact X0 7 Z (rb h F Z)
def qhP(n:Nat)(c:Int)(a:Int)(b:Int):Option Bool:=(qa3 n c a b).bind fun r1=>V (!r1)
theorem qnS{a_n k l p1}(a:Ro w (V k) [.pointer p1]){i}(b:Ro w (V l) [.pointer i]){r:Bool}(F:qhP n a_n k l=V r):RetV prog 137 [vi a_n,.pointer p1,.pointer i] w r:=by
 obtain⟨_,m,_,rfl,-,f,c⟩:=PtR.get a Z;obtain rfl:=f;obtain⟨_,o,_,rfl,-,g,d⟩:=PtR.get b Z;obtain rfl:=g;exact zV 10 func137 Z fun h=>X0 7 Z (zc 0 (c.below h.below) Z (zc 0 (d.below h.below) Z (zcB h F qaN Z fun _ _ h F=>X0 3 Z (rb h F Z))))
def qam(s:(List Int))(a:Int)(b:Int):Nat->Int->Option (Flow Int Int)|0,_=>U|n+1,c=>bif decide (c<(s.length:Int)) then(idx s c).bind fun d=>(qhP n d a b).bind fun r1=>bif r1 then V (.ret c) else qam s a b n (W64 (c+1)) else V (.nxt c)
def qbc(n:Nat)(s:(List Int))(a:Int)(b:Int):Option Int:=(qam s a b n 0).bind fun|.ret r=>V r|.nxt _=>V (-1)
theorem qgG{s:(List Int)}{a b}(g:Ro w s cs1){z}(d:Ro w (V a) [.pointer z]){A}(f:Ro w (V b) [.pointer A]){r:Int}(F:qbc n s a b=V r):RetV prog 121 [gv s cs1,.func (.func 137) #[] #[.pointer z,.pointer A]] w r:=by
 obtain⟨p1,B,rfl,s1⟩:=g;obtain⟨b1,v,_,rfl,-,p,_⟩:=PtR.get d Z;obtain rfl:=p;obtain⟨b2,x,_,rfl,-,t,_⟩:=PtR.get f Z;obtain rfl:=t;refine zV 19 func121 Z fun h=>X0 11 Z ?_;obtain⟨o1,F,c⟩:=qc F;refine ql (rL (fun m e w'=>∃u,qam s a b m u=V o1/\e=[(0,oS p1 s.length B),(1,.func (.func 137) #[] #[.pointer (V ⟨b1,v,U⟩),.pointer (V ⟨b2,x,U⟩)]),(7,vi (s.length:Int)),(8,vi u)]/\SH w w' []) n ⟨_,F,rfl,h⟩ Z ?_);rintro y _ _ ⟨u,F,rfl,h⟩;rcases y with _|y
 .cases F
 refine X0 5 Z (qk Z F ?_ ?_)<;>intro F
 .refine X0 13 Z ?_;obtain⟨_,_,F,k,_,_,_,_,l,o,rfl,i⟩:=s1.ix F;refine zxe l o k Z (zc 0 (i.below h.below) Z (zcB h F (qnS (h.old d) (h.old f)) Z fun _ _ h F=>qbe (qk Z F ?_ ?_)))<;>intro F
  .refine X0 5 Z ?_;cases qb F;exact ri h c Z
  exact X0 6 Z (rK ⟨_,F,rfl,h⟩ Z)
 refine qt Z ?_;cases qb F;exact X0 4 Z (ri h c Z)
def qbQ(n:Nat)(s:(List Int))(a:Int)(b:Int):Option Bool:=(qbc n s a b).bind fun r1=>V (decide (r1>=0))
theorem qgb{s:(List Int)}{a b}(f:Ro w s cs1){k}(c:Ro w (V a) [.pointer k]){l}(d:Ro w (V b) [.pointer l]){r:Bool}(F:qbQ n s a b=V r):RetV prog 59 [gv s cs1,.func (.func 137) #[] #[.pointer k,.pointer l]] w r:=by
 obtain⟨_,_,rfl,s1⟩:=f;obtain⟨_,m,_,rfl,-,g,_⟩:=PtR.get c Z;obtain rfl:=g;obtain⟨_,o,_,rfl,-,i,_⟩:=PtR.get d Z;obtain rfl:=i;exact zV 9 func59 Z fun h=>X0 8 Z (zcI h F (qgG ⟨_,_,rfl,(h.oldS s1)⟩ (h.old c) (h.old d)) Z fun _ _ h F=>X0 3 Z (rb h F Z))
def qbW(n:Nat)(list:(List Int))(b:Int)(a:Int):Option Bool:=(qbQ n list b a).bind fun r1=>V (!r1)
theorem qb6{list:(List Int)}{low high}(a:Ro w list cs1){r:Bool}(F:qbW n list low high=V r):RetV prog 77 [gv list cs1,vi low,vi high] w r:=by
 obtain⟨_,_,rfl,s1⟩:=a;exact zV 11 func77 Z fun h=>zSR (qA h Z Z fun _ _ h=>qA h Z Z fun _ _ h=>X0 6 Z (zcB h F (qgb ⟨_,_,rfl,(h.oldS s1)⟩ (qbX (x:=low) 1 h Z Z) (qbX (x:=high) 0 h Z Z)) Z fun _ _ h F=>X0 3 Z (rb h F Z)))
def qbH(_:Nat)(list:(List Int)):Option Int:=V (list.length:Int)
theorem qce{list:(List Int)}(a:Ro w list cs1){r:Int}(F:qbH n list=V r):RetV prog 90 [gv list cs1] w r:=by
 obtain⟨_,_,rfl,_⟩:=a;exact zV 5 func90 Z fun h=>X0 10 Z (ri h F Z)
def qbO(list:(List Int)):Nat->Int->Option (Flow Bool Int)|0,_=>U|n+1,a=>bif decide (a<(list.length:Int)) then(idx list (W64 (a-1))).bind fun b=>(idx list a).bind fun c=>bif decide (b>=c) then V (.ret false) else qbO list n (W64 (a+1)) else V (.nxt a)
def qec(n:Nat)(list:(List Int)):Option Bool:=(qbO list n 1).bind fun|.ret r=>V r|.nxt _=>V true
theorem qhy{list:(List Int)}(b:Ro w list cs1){r:Bool}(F:qec n list=V r):RetV prog 94 [gv list cs1] w r:=by
 obtain⟨p1,t,rfl,s1⟩:=b;refine zV 20 func94 Z fun h=>X0 9 Z ?_;obtain⟨o1,F,a⟩:=qc F;refine ql (rL (fun m e w'=>∃p,qbO list m p=V o1/\e=[(0,oS p1 list.length t),(3,vi p)]/\SH w w' []) n ⟨_,F,rfl,h⟩ Z ?_);rintro s _ _ ⟨p,F,rfl,h⟩;rcases s with _|s
 .cases F
 refine X0 8 Z (qk Z F ?_ ?_)<;>intro F
 .refine X0 4 Z (rD (zd3 Z ?_));obtain⟨_,_,F,f,_,_,_,_,i,l,rfl,c⟩:=s1.ix F;refine zdxe i l f Z (zdc 0 (c.below h.below) Z (zd2 Z ?_));obtain⟨_,_,F,g,_,_,_,_,k,o,rfl,d⟩:=s1.ix F;refine zdxe k o g Z (zdc 0 (d.below h.below) Z (zd1 Z (dN h fun _ h=>qk Z F ?_ ?_)))<;>intro F
  .refine X0 4 Z ?_;cases qb F;exact rb h a Z
  exact X0 7 Z (rK ⟨_,F,rfl,h⟩ Z)
 refine qt Z ?_;cases qb F;exact X0 4 Z (rb h a Z)
def qj3(n:Nat)(list:(List Int)):Option Bool:=(qbH n list).bind fun r1=>(qa3 n r1 1 4).bind fun a=>bif a then(qbW n list 0 100000).bind fun b=>bif b then(qec n list).bind fun c=>V c else V false else V false
theorem qns{list:(List Int)}(a:Ro w list cs1){r:Bool}(F:qj3 n list=V r):RetV prog 295 [gv list cs1] w r:=by
 obtain⟨_,_,rfl,s1⟩:=a;refine zV 14 func295 Z fun h=>X0 7 Z (zcI h F (qce ⟨_,_,rfl,(h.oldS s1)⟩) Z fun _ _ h F=>zcB h F qaN Z fun _ _ h F=>zp1 Z (qe (t:=6) F Z ?_ ?_))<;>intro F
 .refine X0 3 Z (zcB h F (qb6 ⟨_,_,rfl,(h.oldS s1)⟩) Z fun _ _ h F=>zp2 Z (qe (t:=10) F Z ?_ ?_))<;>intro F
  .exact X0 3 Z (zcB h F (qhy ⟨_,_,rfl,(h.oldS s1)⟩) Z fun _ _ h F=>X0 3 Z (rb h F Z))
  exact X0 5 Z (rb h F Z)
 exact X0 9 Z (rb h F Z)
def qky(n:Nat)(t:qS):Option Bool:=(qj3 n t.Bj).bind fun r1=>bif r1 then(qj3 n t.Be).bind fun a=>bif a then bif ((t.Az.length:Int)==(W64 ((t.Bj.length:Int)*(t.Be.length:Int)))) then(qbW n t.Az (-1000000) 1000000).bind fun b=>V b else V false else V false else V false
theorem qpT{t:qS}(a:Ro w t cs1){r:Bool}(F:qky n t=V r):RetV prog 289 [gv t cs1] w r:=by
 obtain⟨_,_,_,_,_,_,rfl,s1,s2,b⟩:=qcz a;refine zV 29 func289 Z fun h=>zSR (qA h Z Z fun _ _ h=>X1 6 0 h Z (zcB h F (qns ⟨_,_,rfl,(h.oldS s1)⟩) Z fun _ _ h F=>zp1 Z (qe (t:=6) F Z ?_ ?_)))<;>intro F
 .refine X1 5 0 h Z (zcB h F (qns ⟨_,_,rfl,(h.oldS s2)⟩) Z fun _ _ h F=>zp2 Z (qe (t:=11) F Z ?_ ?_))<;>intro F
  .refine X3 24 0 0 0 h Z (qe (t:=24) F Z ?_ ?_)<;>intro F
   .exact X1 5 0 h Z (zcB h F (qb6 ⟨_,_,rfl,(h.oldS b)⟩) Z fun _ _ h F=>X0 3 Z (rb h F Z))
   exact X0 6 Z (rb h F Z)
  exact X0 19 Z (rb h F Z)
 exact X0 24 Z (rb h F Z)
def qdd(x:(List Int)):Nat->Int->Int->Option (Int×Int)|0,_,_=>U|n+1,b,a=>bif decide (a<(x.length:Int)) then(idx x a).bind fun c=>qdd x n (if c<b then c else b) (W64 (a+1)) else V (b,a)
def qhZ(n:Nat)(x:(List Int)):Option Int:=(bif decide ((x.length:Int)<1) then U else V ()).bind fun _=>(idx x 0).bind fun b=>(qdd x n b 1).bind fun(a,_)=>V a
theorem qnZ{x:(List Int)}(f:Ro w x cs1){r:Int}(F:qhZ n x=V r):RetV prog 290 [gv x cs1] w r:=by
 obtain⟨p1,y,rfl,s1⟩:=f;refine zV 25 func290 Z fun h=>X0 11 Z ?_;obtain⟨b,a,_,F,d⟩:=bindE F;refine qau (fun e w'=>b ()=V r/\e=[(0,oS p1 x.length y)]/\SH w w' []) ?_ ?_
 .refine qk Z F ?_ ?_<;>intro F
  .refine qi0 ?_;cases F
  refine qfv ?_;cases qb F;exact rG ⟨d,rfl,h⟩ Z
 rintro _ _ ⟨F,rfl,h⟩;subst a;refine X0 3 Z ?_;obtain⟨_,_,F,k,_,_,_,_,o,s,rfl,g⟩:=s1.ix F;refine zxe o s k Z (zc 0 (g.below h.below) Z (X0 7 Z ?_));obtain⟨o1,F,c⟩:=qc F;refine ql (rL (fun m e w'=>∃u v,qdd x m u v=V o1/\e=[(0,oS p1 x.length y),(3,vi u),(4,vi v)]/\SH w w' []) n ⟨_,_,F,rfl,h⟩ Z ?_);rintro z _ _ ⟨u,v,F,rfl,h⟩;rcases z with _|z
 .cases F
 refine X0 8 Z (qk Z F ?_ ?_)<;>intro F
 .refine X0 7 Z ?_;obtain⟨_,_,F,l,_,_,_,_,p,t,rfl,i⟩:=s1.ix F;exact zxe p t l Z (zc 0 (i.below h.below) Z (X0 9 Z (rK ⟨_,_,F,rfl,h⟩ Z)))
 refine qt Z ?_;cases qb F;exact X0 5 Z (ri h c Z)
def qh5(n:Nat)(t:qS)(b:Bool):Option Bool:=(qky n t).bind fun r1=>bif (!r1) then V true else bif b then(qhZ n t.Az).bind fun a=>V (decide (a<0)) else V false
theorem qnU{t:qS}{g}(a:Ro w t cs1){f}(b:Ro w (V g) [.pointer f]){r:Bool}(F:qh5 n t g=V r):RetV prog 288 [gv t cs1,.pointer f] w r:=by
 obtain⟨_,_,_,_,_,_,rfl,_,_,k⟩:=qcz a;obtain⟨_,i,_,rfl,-,d,c⟩:=PtR.get b Z;obtain rfl:=d;refine zV 16 func288 Z fun h=>zSR (qA h Z Z fun _ _ h=>X1 5 0 h Z (zcB h F (qpT (h.old a)) Z fun _ _ h F=>zp2 Z (qe (t:=7) F Z ?_ ?_)))<;>intro F
 .exact X0 10 Z (rb h F Z)
 refine X0 1 Z (zc 0 (c.below h.below) Z (X0 2 Z (qe (t:=9) F Z ?_ ?_)))<;>intro F
 .exact X1 5 0 h Z (zcI h F (qnZ ⟨_,_,rfl,(h.oldS k)⟩) Z fun _ _ h F=>X0 7 Z (rb h F Z))
 exact X0 9 Z (rb h F Z)
def qaa(s:(List qS))(a:Bool):Nat->Int->Option (Flow Int Int)|0,_=>U|n+1,b=>bif decide (b<(s.length:Int)) then(idx s b).bind fun c=>(qh5 n c a).bind fun r1=>bif r1 then V (.ret b) else qaa s a n (W64 (b+1)) else V (.nxt b)
def qaU(n:Nat)(s:(List qS))(a:Bool):Option Int:=(qaa s a n 0).bind fun|.ret r=>V r|.nxt _=>V (-1)
theorem qfT{s:(List qS)}{a}(d:Ro w s cs1){v}(c:Ro w (V a) [.pointer v]){r:Int}(F:qaU n s a=V r):RetV prog 294 [gv s cs1,.func (.func 288) #[] #[.pointer v]] w r:=by
 obtain⟨p1,x,rfl,s1⟩:=d;obtain⟨b1,t,_,rfl,-,l,_⟩:=PtR.get c Z;obtain rfl:=l;refine zV 19 func294 Z fun h=>X0 11 Z ?_;obtain⟨o1,F,b⟩:=qc F;refine ql (rL (fun m e w'=>∃p,qaa s a m p=V o1/\e=[(0,oS p1 s.length x),(1,.func (.func 288) #[] #[.pointer (V ⟨b1,t,U⟩)]),(7,vi (s.length:Int)),(8,vi p)]/\SH w w' []) n ⟨_,F,rfl,h⟩ Z ?_);rintro u _ _ ⟨p,F,rfl,h⟩;rcases u with _|u
 .cases F
 refine X0 5 Z (qk Z F ?_ ?_)<;>intro F
 .refine X0 13 Z ?_;obtain⟨A,_,F,g,_,_,_,_,i,k,o,f⟩:=s1.ix F;obtain⟨_,_,_,_,_,_,rfl,s2,y,z⟩:=qcz o;refine zxe i k g Z (zc 0 (f.below h.below) Z (zcB h F (qnU (qjB A (h.oldS s2) (h.oldS y) (h.oldS z)) (h.old c)) Z fun _ _ h F=>qbe (qk Z F ?_ ?_)))<;>intro F
  .refine X0 5 Z ?_;cases qb F;exact ri h b Z
  exact X0 6 Z (rK ⟨_,F,rfl,h⟩ Z)
 refine qt Z ?_;cases qb F;exact X0 4 Z (ri h b Z)
def qbp(n:Nat)(s:(List qS))(a:Bool):Option Bool:=(qaU n s a).bind fun r1=>V (decide (r1>=0))
theorem qfn{s:(List qS)}{a}(c:Ro w s cs1){f}(b:Ro w (V a) [.pointer f]){r:Bool}(F:qbp n s a=V r):RetV prog 287 [gv s cs1,.func (.func 288) #[] #[.pointer f]] w r:=by
 obtain⟨_,_,rfl,s1⟩:=c;obtain⟨_,g,_,rfl,-,d,_⟩:=PtR.get b Z;obtain rfl:=d;exact zV 9 func287 Z fun h=>X0 8 Z (zcI h F (qfT ⟨_,_,rfl,(h.oldS s1)⟩ (h.old b)) Z fun _ _ h F=>X0 3 Z (rb h F Z))
def qgo(n:Nat)(list:(List qS))(a:Bool):Option Bool:=bif ((list.length:Int)==2) then(qbp n list a).bind fun r1=>V (!r1) else V false
theorem qjf{list:(List qS)}{positive}(a:Ro w list cs1){r:Bool}(F:qgo n list positive=V r):RetV prog 277 [gv list cs1,.bool positive] w r:=by
 obtain⟨_,_,rfl,s1⟩:=a;refine zV 14 func277 Z fun h=>zSR (qA h Z Z fun _ _ h=>X0 8 Z (qe (t:=8) F Z ?_ ?_))<;>intro F
 .exact X0 5 Z (zcB h F (qfn ⟨_,_,rfl,(h.oldS s1)⟩ (qbX (x:=positive) 0 h Z Z)) Z fun _ _ h F=>X0 5 Z (rb h F Z))
 exact X0 7 Z (rb h F Z)
def qjm(_:Nat)(p:qaB):Option Bool:=V p.Bo
theorem qm8{p:qaB}(a:Ro w p cs1){r:Bool}(F:qjm n p=V r):RetV prog 292 [gv p cs1] w r:=by
 obtain rfl:=qfG a;exact zV 5 func292 Z fun h=>zSR (qA h Z Z fun _ _ h=>X1 8 0 h Z (rb h F Z))
def qac(s:(List qaB)):Nat->Int->Option (Flow Int Int)|0,_=>U|n+1,a=>bif decide (a<(s.length:Int)) then(idx s a).bind fun b=>(qjm n b).bind fun r1=>bif r1 then V (.ret a) else qac s n (W64 (a+1)) else V (.nxt a)
def qbI(n:Nat)(s:(List qaB)):Option Int:=(qac s n 0).bind fun|.ret r=>V r|.nxt _=>V (-1)
theorem qf8{s:(List qaB)}(b:Ro w s cs1){r:Int}(F:qbI n s=V r):RetV prog 291 [gv s cs1,.func (.func 292) #[] #[]] w r:=by
 obtain⟨p1,o,rfl,s1⟩:=b;refine zV 19 func291 Z fun h=>X0 11 Z ?_;obtain⟨o1,F,a⟩:=qc F;refine ql (rL (fun m e w'=>∃k,qac s m k=V o1/\e=[(0,oS p1 s.length o),(1,.func (.func 292) #[] #[]),(7,vi (s.length:Int)),(8,vi k)]/\SH w w' []) n ⟨_,F,rfl,h⟩ Z ?_);rintro l _ _ ⟨k,F,rfl,h⟩;rcases l with _|l
 .cases F
 refine X0 5 Z (qk Z F ?_ ?_)<;>intro F
 .refine X0 13 Z ?_;obtain⟨p,_,F,d,_,_,_,_,f,g,i,c⟩:=s1.ix F;obtain rfl:=qfG i;refine zxe f g d Z (zc 0 (c.below h.below) Z (zcB h F (qm8 (qlS p)) Z fun _ _ h F=>qbe (qk Z F ?_ ?_)))<;>intro F
  .refine X0 5 Z ?_;cases qb F;exact ri h a Z
  exact X0 6 Z (rK ⟨_,F,rfl,h⟩ Z)
 refine qt Z ?_;cases qb F;exact X0 4 Z (ri h a Z)
def qiw(n:Nat)(c:qL):Option Int:=(qbI n c.Ay).bind fun r1=>V r1
theorem qn7{c:qL}(a:Ro w c cs1){r:Int}(F:qiw n c=V r):RetV prog 278 [gv c cs1] w r:=by
 obtain⟨_,_,_,_,_,_,rfl,s1,_,_⟩:=qan a;exact zV 6 func278 Z fun h=>zSR (qA h Z Z fun _ _ h=>X1 6 0 h Z (zcI h F (qf8 ⟨_,_,rfl,(h.oldS s1)⟩) Z fun _ _ h F=>X0 2 Z (ri h F Z)))
def qhi(n:Nat)(c:qL)(pin:Int):Option Bool:=(qe1 n c).bind fun r1=>(qa3 n pin 0 (W64 (r1-1))).bind fun a=>V a
theorem qj5{c:qL}{pin}(a:Ro w c cs1){r:Bool}(F:qhi n c pin=V r):RetV prog 279 [gv c cs1,vi pin] w r:=by
 obtain⟨_,_,_,_,_,_,rfl,_,_,_⟩:=qan a;exact zV 10 func279 Z fun h=>zSR (qA h Z Z fun _ _ h=>X1 6 0 h Z (zcI h F (qh8 (h.old a)) Z fun _ _ h F=>zp1 Z (zcB h F qaN Z fun _ _ h F=>X0 2 Z (rb h F Z))))
def qit(n:Nat)(a_0:qL)(a_1:qaF):Option Bool:=(qkq n a_1.Au).bind fun r1=>bif r1 then(bif (a_1.Bk==0) then bif ((a_1.Av.length:Int)==0) then(qgo n a_1.Bn false).bind fun b=>bif b then(qiw n a_0).bind fun c=>bif (a_1.Bd==c) then bif decide (a_1.Bd>=0) then(qhi n a_0 a_1.To).bind fun d=>bif d then V (a_1.To != a_1.Bd) else V false else V false else V false else V false else V false else V false).bind fun b1=>V b1 else((qgo n a_1.Bn true).bind fun g=>bif (!g) then V true else(qgo n a_1.Av true).bind fun h=>bif (!h) then V true else(qe1 n a_0).bind fun i=>bif (a_1.To != i) then V true else(qhi n a_0 a_1.Bd).bind fun k=>V (!k)).bind fun b2=>bif b2 then V false else bif (a_1.Au==1) then(idx a_0.Ay a_1.Bd).bind fun l=>bif (!l.Bo) then(qa3 n a_1.Bk 1 3).bind fun f=>V f else V false else(bif (a_1.Au==2) then V (a_1.Au==2) else V (a_1.Au==3)).bind fun a=>bif a then(idx a_0.Ay a_1.Bd).bind fun m=>bif m.Bo then V (a_1.Bk==0) else V false else V false
theorem qn6{a_0:qL}{a_1:qaF}(b:Ro w a_0 cs1)(x:Ro w a_1 cs2){r:Bool}(F:qit n a_0 a_1=V r):RetV prog 263 [gv a_0 cs1,gv a_1 cs2] w r:=by
 obtain⟨p1,Q,W,R,X,k3,rfl,s1,_,_⟩:=qan b;obtain⟨Y,S,p5,T,rfl,s4,s5⟩:=qaJ x;refine zV 103 func263 Z fun h=>zSR (qA h Z Z fun _ c h=>qA h Z Z fun _ d h=>X1 7 0 h Z (zcB h F qp7 Z fun _ _ h F=>qbe (qk Z F ?_ ?_)))<;>intro F
 .refine qb0 ?_;obtain⟨p,i,_,F,a⟩:=bindE F;refine qau (fun e w'=>∃b1,p b1=V r/\e=[(4,.bool b1)]/\SH w w' []) ?_ ?_
  .refine rD (Y1 2 0 h Z ?_);refine zd2 Z (qaK (t:=11) F Z ?_ ?_)<;>intro F
   .refine Y1 4 0 h Z ?_;refine Y0 6 Z (qaK (t:=17) F Z ?_ ?_)<;>intro F
    .refine Y1 4 0 h Z ?_;refine Y0 1 Z ?_;obtain⟨r2,J,F⟩:=qc F;refine qcn r2 (vsB _) (cB 277 Z) (fun _ hb=>qjf ⟨_,_,rfl,((h.ext hb).oldS s4)⟩ J) Z Z Z Z (zd2 Z (qaK (t:=22) F Z ?_ ?_))<;>intro F
     .refine Y1 4 0 h Z ?_;refine Y1 2 1 h Z ?_;refine Y0 1 Z ?_;obtain⟨r3,K,F⟩:=qc F;refine qcn r3 (vsI _) (cB 278 Z) (fun _ hb=>qn7 ((h.ext hb).old b) K) Z Z Z Z (Y0 4 Z (qaK (t:=29) F Z ?_ ?_))<;>intro F
      .refine Y1 4 0 h Z ?_;refine Y0 4 Z (qaK (t:=34) F Z ?_ ?_)<;>intro F
       .refine Y1 2 1 h Z ?_;refine Y1 4 0 h Z ?_;refine Y0 1 Z ?_;obtain⟨r4,L,F⟩:=qc F;refine qcn r4 (vsB _) (cB 279 Z) (fun _ hb=>qj5 ((h.ext hb).old b) L) Z Z Z Z (zd2 Z (qaK (t:=40) F Z ?_ ?_))<;>intro F
        .refine Y1 4 0 h Z ?_;refine Y1 4 0 h Z ?_;refine Y0 4 Z (dN h fun _ h=>?_);have h:=h.p [] Z;cases qb F;exact rG ⟨_,a,rfl,h⟩ Z
        refine Y0 7 Z (dN h fun _ h=>?_);have h:=h.p [] Z;cases qb F;exact rG ⟨_,a,rfl,h⟩ Z
       refine Y0 13 Z (dN h fun _ h=>?_);have h:=h.p [] Z;cases qb F;exact rG ⟨_,a,rfl,h⟩ Z
      refine Y0 18 Z (dN h fun _ h=>?_);have h:=h.p [] Z;cases qb F;exact rG ⟨_,a,rfl,h⟩ Z
     refine Y0 25 Z (dN h fun _ h=>?_);have h:=h.p [] Z;cases qb F;exact rG ⟨_,a,rfl,h⟩ Z
    refine Y0 30 Z (dN h fun _ h=>?_);have h:=h.p [] Z;cases qb F;exact rG ⟨_,a,rfl,h⟩ Z
   refine Y0 36 Z (dN h fun _ h=>?_);have h:=h.p [] Z;cases qb F;exact rG ⟨_,a,rfl,h⟩ Z
  rintro _ _ ⟨b1,F,rfl,h⟩;subst i;exact rb h F Z
 refine zKSS ?_;obtain⟨u,l,_,F,f⟩:=bindE F;refine qau (fun e w'=>∃b2,u b2=V r/\e=[(2,vp c),(3,vp d),(70,.bool b2)]/\SH w w' [oX d (qen a_1 Y p5 S T) 170,oX c (qK a_0 p1 W X Q R k3) 166]) ?_ ?_
 .refine rD (Y1 2 0 h Z ?_);obtain⟨r6,O,F⟩:=qc F;refine qcn r6 (vsB _) (cB 277 Z) (fun _ hb=>qjf ⟨_,_,rfl,((h.ext hb).oldS s4)⟩ O) Z Z Z Z (zd2 Z (qaK (t:=51) F Z ?_ ?_))<;>intro F
  .refine Y0 19 Z (dN h fun _ h=>?_);cases qb F;exact rG ⟨_,f,rfl,h⟩ Z
  refine Y1 4 0 h Z ?_;refine Y0 1 Z ?_;obtain⟨r7,P,F⟩:=qc F;refine qcn r7 (vsB _) (cB 277 Z) (fun _ hb=>qjf ⟨_,_,rfl,((h.ext hb).oldS s5)⟩ P) Z Z Z Z (Y0 4 Z (qaK (t:=57) F Z ?_ ?_))<;>intro F
  .refine Y0 13 Z (dN h fun _ h=>?_);cases qb F;exact rG ⟨_,f,rfl,h⟩ Z
  refine Y1 4 0 h Z ?_;refine Y1 2 1 h Z ?_;refine Y0 1 Z ?_;obtain⟨r8,m,F⟩:=qc F;refine qcn r8 (vsI _) (cB 103 Z) (fun _ hb=>qh8 ((h.ext hb).old b) m) Z Z Z Z (Y0 4 Z (qaK (t:=64) F Z ?_ ?_))<;>intro F
  .refine Y0 6 Z (dN h fun _ h=>?_);cases qb F;exact rG ⟨_,f,rfl,h⟩ Z
  refine Y1 2 1 h Z ?_;refine Y1 4 0 h Z ?_;refine Y0 1 Z ?_;obtain⟨r9,o,F⟩:=qc F;refine qcn r9 (vsB _) (cB 279 Z) (fun _ hb=>qj5 ((h.ext hb).old b) o) Z Z Z Z (Y0 3 Z (dN h fun _ h=>?_));cases qb F;exact rG ⟨_,f,rfl,h⟩ Z
 rintro _ _ ⟨b2,F,rfl,h⟩;subst l;refine qk Z F ?_ ?_<;>intro F
 .exact X0 4 Z (rb h F Z)
 refine X1 13 0 h Z (qk Z F ?_ ?_)<;>intro F
 .refine X2 6 1 0 h Z ?_;obtain⟨_,_,F,A,_,_,_,_,C,H,M,y⟩:=s1.ix F;obtain rfl:=qfG M;refine zxe C H A Z (zp1 Z (zc 3 (y.below h.below) Z (zp2 Z (qe (t:=83) F Z ?_ ?_))))<;>intro F
  .exact X1 5 0 h Z (zcB h F qaN Z fun _ _ h F=>X0 3 Z (rb h F Z))
  exact X0 6 Z (rb h F Z)
 refine X0 6 Z ?_;obtain⟨s,k,_,F,g⟩:=bindE F;refine qau (fun e w'=>∃v,s v=V r/\e=[(2,vp c),(3,vp d),(88,.bool v)]/\SH w w' [oX d (qen a_1 Y p5 S T) 170,oX c (qK a_0 p1 W X Q R k3) 166]) ?_ ?_
 .refine qk Z F ?_ ?_<;>intro F
  .refine qfv ?_;cases qb F;exact rG ⟨_,g,rfl,h⟩ Z
  refine X0 4 Z ?_;cases qb F;exact rG ⟨_,g,rfl,h⟩ Z
 rintro _ _ ⟨v,F,rfl,h⟩;subst k;refine qk Z F ?_ ?_<;>intro F
 .refine X2 6 1 0 h Z ?_;obtain⟨_,_,F,B,_,_,_,_,D,I,N,z⟩:=s1.ix F;obtain rfl:=qfG N;refine zxe D I B Z (zp1 Z (zc 3 (z.below h.below) Z (zp1 Z (qe (t:=98) F Z ?_ ?_))))<;>intro F
  .exact X1 9 0 h Z (rb h F Z)
  exact X0 6 Z (rb h F Z)
 exact X0 6 Z (rb h F Z)
def qge(_:Nat)(b:qaF)(a:qaF):Option Bool:=bif (b.Au==a.Au) then bif (b.Bd==a.Bd) then V (b.To==a.To) else V false else V false
theorem qmA{k:qaF}{g:qaF}(b:Ro w k cs1){f}(c:Ro w (V g) [.pointer f]){r:Bool}(F:qge n k g=V r):RetV prog 265 [gv k cs1,.pointer f] w r:=by
 obtain⟨_,_,_,_,rfl,_,_⟩:=qaJ b;obtain⟨_,i,_,rfl,-,d,a⟩:=PtR.get c Z;obtain⟨_,_,_,_,rfl,_,_⟩:=qaJ d;refine zV 23 func265 Z fun h=>zSR (qA h Z Z fun _ _ h=>X1 7 0 h Z (zc 0 (a.below h.below) Z (zp2 Z (qe (t:=9) F Z ?_ ?_))))<;>intro F
 .refine X1 7 0 h Z (zc 1 (a.below h.below) Z (X0 4 Z (qe (t:=16) F Z ?_ ?_)))<;>intro F
  .exact X1 7 0 h Z (zc 2 (a.below h.below) Z (X0 5 Z (rb h F Z)))
  exact X0 8 Z (rb h F Z)
 exact X0 15 Z (rb h F Z)
def qY(s:(List qaF))(a:qaF):Nat->Int->Option (Flow Int Int)|0,_=>U|n+1,b=>bif decide (b<(s.length:Int)) then(idx s b).bind fun c=>(qge n c a).bind fun r1=>bif r1 then V (.ret b) else qY s a n (W64 (b+1)) else V (.nxt b)
def qbr(n:Nat)(s:(List qaF))(a:qaF):Option Int:=(qY s a n 0).bind fun|.ret r=>V r|.nxt _=>V (-1)
theorem qfw{s:(List qaF)}{a:qaF}(d:Ro w s cs1){v}(c:Ro w (V a) [.pointer v]){r:Int}(F:qbr n s a=V r):RetV prog 95 [gv s cs1,.func (.func 265) #[] #[.pointer v]] w r:=by
 obtain⟨p1,x,rfl,s1⟩:=d;obtain⟨b1,t,_,rfl,-,l,_⟩:=PtR.get c Z;obtain⟨_,_,_,_,rfl,_,_⟩:=qaJ l;refine zV 19 func95 Z fun h=>X0 11 Z ?_;obtain⟨o1,F,b⟩:=qc F;refine ql (rL (fun m e w'=>∃p,qY s a m p=V o1/\e=[(0,oS p1 s.length x),(1,.func (.func 265) #[] #[.pointer (V ⟨b1,t,U⟩)]),(7,vi (s.length:Int)),(8,vi p)]/\SH w w' []) n ⟨_,F,rfl,h⟩ Z ?_);rintro u _ _ ⟨p,F,rfl,h⟩;rcases u with _|u
 .cases F
 refine X0 5 Z (qk Z F ?_ ?_)<;>intro F
 .refine X0 13 Z ?_;obtain⟨A,_,F,g,_,_,_,_,i,k,o,f⟩:=s1.ix F;obtain⟨_,_,_,_,rfl,y,z⟩:=qaJ o;refine zxe i k g Z (zc 0 (f.below h.below) Z (zcB h F (qmA (qi3 A (h.oldS y) (h.oldS z)) (h.old c)) Z fun _ _ h F=>qbe (qk Z F ?_ ?_)))<;>intro F
  .refine X0 5 Z ?_;cases qb F;exact ri h b Z
  exact X0 6 Z (rK ⟨_,F,rfl,h⟩ Z)
 refine qt Z ?_;cases qb F;exact X0 4 Z (ri h b Z)

def qaM(n:Nat)(s:(List qaF))(a:qaF):Option Bool:=(qbr n s a).bind fun r1=>V (decide (r1>=0))
theorem qfa{s:(List qaF)}{a:qaF}(c:Ro w s cs1){f}(b:Ro w (V a) [.pointer f]){r:Bool}(F:qaM n s a=V r):RetV prog 264 [gv s cs1,.func (.func 265) #[] #[.pointer f]] w r:=by
 obtain⟨_,_,rfl,s1⟩:=c;obtain⟨_,g,_,rfl,-,d,_⟩:=PtR.get b Z;obtain⟨_,_,_,_,rfl,_,_⟩:=qaJ d;exact zV 9 func264 Z fun h=>X0 8 Z (zcI h F (qfw ⟨_,_,rfl,(h.oldS s1)⟩ (h.old b)) Z fun _ _ h F=>X0 3 Z (rb h F Z))
def qcS(c:qL):Nat->Int->Option (Flow Bool Int)|0,_=>U|n+1,a=>bif decide (a<(c.Ar.length:Int)) then(idx c.Ar a).bind fun b=>(qit n c b).bind fun r1=>bif (!r1) then V (.ret false) else(subS c.Ar 0 a).bind fun f=>(qaM n f b).bind fun d=>bif d then V (.ret false) else qcS c n (W64 (a+1)) else V (.nxt a)
def qhc(n:Nat)(c:qL):Option Bool:=(qcS c n 0).bind fun|.ret r=>V r|.nxt _=>V (decide ((c.Ar.length:Int)<=8))
theorem qm2{c:qL}(d:Ro w c cs1){r:Bool}(F:qhc n c=V r):RetV prog 246 [gv c cs1] w r:=by
 obtain⟨p1,I,B,z,J,k3,rfl,_,s2,_⟩:=qan d;refine zV 30 func246 Z fun h=>zSR (qA h Z Z fun _ b h=>X1 10 0 h Z ?_);obtain⟨o1,F,a⟩:=qc F;refine ql (rL (fun m e w'=>∃v,qcS c m v=V o1/\e=[(1,vp b),(6,oS B c.Ar.length z),(7,vi (c.Ar.length:Int)),(8,vi v)]/\SH w w' [oX b (qK c p1 B J I z k3) 166]) n ⟨_,F,rfl,h⟩ Z ?_);rintro A _ _ ⟨v,F,rfl,h⟩;rcases A with _|A
 .cases F
 refine X0 5 Z (qk Z F ?_ ?_)<;>intro F
 .refine X0 6 Z ?_;obtain⟨y,_,F,l,_,_,_,_,p,s,u,k⟩:=s2.ix F;obtain⟨_,_,_,_,rfl,C,D⟩:=qaJ u;refine zxe p s l Z (zc 0 (k.below h.below) Z (qh qa h Z Z Z fun _ _ h=>zp1 Z (zs 0 h Z fun _ h=>X2 5 1 0 h Z (zcB h F (qn6 (h.old d) (qi3 y (h.oldS C) (h.oldS D))) Z fun _ _ h F=>zp2 Z (qe (t:=17) F Z ?_ ?_)))))<;>intro F
  .refine X0 8 Z (qb5 Z Z (X0 4 Z ?_));cases qb F;exact rb h a Z
  refine X1 7 1 h Z ?_;obtain⟨_,i,F⟩:=qc F;obtain⟨_,_,g,f,o,H⟩:=qsd (h.oldS s2) i;refine r_v (qnB qa Z Z Z (qsf H Z) g f o Z Z Z Z) Z ?_;have K:=qtu s2 i g f;refine X0 3 Z (zcB h F (qfa ⟨_,_,rfl,(h.oldS K)⟩ (qbX (x:=y) 0 h Z (qi3 y (h.oldS C) (h.oldS D)))) Z fun _ _ h F=>X0 2 Z (qk Z F ?_ ?_))<;>intro F
  .refine X0 4 Z ?_;cases qb F;exact rb h a Z
  refine X0 6 Z ?_;have h:=h.p [1] Z;exact rK ⟨_,F,rfl,h⟩ Z
 refine qt Z ?_;cases qb F;exact X1 8 0 h Z (rb h a Z)
def qkb(_:Nat)(a:qaF)(b:Int):Option Bool:=V (a.Au==b)
theorem qob{a:qaF}{i}(b:Ro w a cs1){g}(c:Ro w (V i) [.pointer g]){r:Bool}(F:qkb n a i=V r):RetV prog 280 [gv a cs1,.pointer g] w r:=by
 obtain⟨_,_,_,_,rfl,_,_⟩:=qaJ b;obtain⟨_,k,_,rfl,-,f,d⟩:=PtR.get c Z;obtain rfl:=f;exact zV 8 func280 Z fun h=>zSR (qA h Z Z fun _ _ h=>X1 6 0 h Z (zc 0 (d.below h.below) Z (X0 3 Z (rb h F Z))))
def qaf(s:(List qaF))(a:Int):Nat->Int->Option (Flow Int Int)|0,_=>U|n+1,b=>bif decide (b<(s.length:Int)) then(idx s b).bind fun c=>(qkb n c a).bind fun r1=>bif r1 then V (.ret b) else qaf s a n (W64 (b+1)) else V (.nxt b)
def qbY(n:Nat)(s:(List qaF))(a:Int):Option Int:=(qaf s a n 0).bind fun|.ret r=>V r|.nxt _=>V (-1)
theorem qgu{s:(List qaF)}{a}(d:Ro w s cs1){v}(c:Ro w (V a) [.pointer v]){r:Int}(F:qbY n s a=V r):RetV prog 95 [gv s cs1,.func (.func 280) #[] #[.pointer v]] w r:=by
 obtain⟨p1,x,rfl,s1⟩:=d;obtain⟨b1,t,_,rfl,-,l,_⟩:=PtR.get c Z;obtain rfl:=l;refine zV 19 func95 Z fun h=>X0 11 Z ?_;obtain⟨o1,F,b⟩:=qc F;refine ql (rL (fun m e w'=>∃p,qaf s a m p=V o1/\e=[(0,oS p1 s.length x),(1,.func (.func 280) #[] #[.pointer (V ⟨b1,t,U⟩)]),(7,vi (s.length:Int)),(8,vi p)]/\SH w w' []) n ⟨_,F,rfl,h⟩ Z ?_);rintro u _ _ ⟨p,F,rfl,h⟩;rcases u with _|u
 .cases F
 refine X0 5 Z (qk Z F ?_ ?_)<;>intro F
 .refine X0 13 Z ?_;obtain⟨z,_,F,g,_,_,_,_,i,k,o,f⟩:=s1.ix F;obtain⟨_,_,_,_,rfl,s2,y⟩:=qaJ o;refine zxe i k g Z (zc 0 (f.below h.below) Z (zcB h F (qob (qi3 z (h.oldS s2) (h.oldS y)) (h.old c)) Z fun _ _ h F=>qbe (qk Z F ?_ ?_)))<;>intro F
  .refine X0 5 Z ?_;cases qb F;exact ri h b Z
  exact X0 6 Z (rK ⟨_,F,rfl,h⟩ Z)
 refine qt Z ?_;cases qb F;exact X0 4 Z (ri h b Z)
def qbA(n:Nat)(s:(List qaF))(a:Int):Option Bool:=(qbY n s a).bind fun r1=>V (decide (r1>=0))
theorem qf1{s:(List qaF)}{a}(c:Ro w s cs1){f}(b:Ro w (V a) [.pointer f]){r:Bool}(F:qbA n s a=V r):RetV prog 264 [gv s cs1,.func (.func 280) #[] #[.pointer f]] w r:=by
 obtain⟨_,_,rfl,s1⟩:=c;obtain⟨_,g,_,rfl,-,d,_⟩:=PtR.get b Z;obtain rfl:=d;exact zV 9 func264 Z fun h=>X0 8 Z (zcI h F (qgu ⟨_,_,rfl,(h.oldS s1)⟩ (h.old b)) Z fun _ _ h F=>X0 3 Z (rb h F Z))
def qdX(n:Nat)(c:qL)(kind:Int):Option Bool:=(qbA n c.Ar kind).bind fun r1=>V r1
theorem qe3{c:qL}{kind}(a:Ro w c cs1){r:Bool}(F:qdX n c kind=V r):RetV prog 266 [gv c cs1,vi kind] w r:=by
 obtain⟨_,_,_,_,_,_,rfl,_,s2,_⟩:=qan a;exact zV 9 func266 Z fun h=>zSR (qA h Z Z fun _ _ h=>qA h Z Z fun _ _ h=>X1 7 1 h Z (zcB h F (qf1 ⟨_,_,rfl,(h.oldS s2)⟩ (qbX (x:=kind) 0 h Z Z)) Z fun _ _ h F=>X0 2 Z (rb h F Z)))
def qbs(a_0:qL):Nat->Int->Int->Option (Int×Int)|0,_,_=>U|n+1,b,a=>bif decide (a<(a_0.Ay.length:Int)) then(idx a_0.Ay a).bind fun c=>bif c.Bo then qbs a_0 n (W64 (b+1)) (W64 (a+1)) else qbs a_0 n b (W64 (a+1)) else V (b,a)
def qgX(n:Nat)(a_0:qL):Option Bool:=(qbs a_0 n 0 0).bind fun(a,_)=>bif (a_0.Au==1) then bif (a==0) then(qe1 n a_0).bind fun r1=>(shlS 1 r1).bind fun k=>bif ((a_0.Bm.length:Int)==k) then(qbW n a_0.Bm 0 1).bind fun b=>V b else V false else V false else bif (a_0.Au==2) then bif (a==1) then bif ((a_0.Bm.length:Int)==0) then(qdX n a_0 1).bind fun c=>bif (!c) then(qdX n a_0 2).bind fun d=>(qdX n a_0 3).bind fun f=>V (!(d==f)) else V false else V false else V false else bif (a_0.Au==3) then bif (a==1) then bif ((a_0.Bm.length:Int)==0) then(qdX n a_0 1).bind fun g=>bif g then(qdX n a_0 2).bind fun h=>bif h then(qdX n a_0 3).bind fun i=>V (!i) else V false else V false else V false else V false else V false
theorem qmS{a_0:qL}(a:Ro w a_0 cs1){r:Bool}(F:qgX n a_0=V r):RetV prog 247 [gv a_0 cs1] w r:=by
 obtain⟨p1,z,D,C,H,k3,rfl,s1,_,M⟩:=qan a;refine zV 83 func247 Z fun h=>zSR (qA h Z Z fun _ c h=>X1 14 0 h Z ?_);obtain⟨o1,F,d⟩:=qc F;refine ql (rL (fun m e w'=>∃x y,qbs a_0 m x y=V o1/\e=[(1,vp c),(3,vi x),(7,oS p1 a_0.Ay.length z),(8,vi (a_0.Ay.length:Int)),(9,vi y)]/\SH w w' [oX c (qK a_0 p1 D H z C k3) 166]) n ⟨_,_,F,rfl,h⟩ Z ?_);rintro A _ _ ⟨x,y,F,rfl,h⟩;rcases A with _|A
 .cases F
 refine X0 5 Z (qk Z F ?_ ?_)<;>intro F
 .refine zKSBSR ?_;obtain⟨_,_,F,g,_,_,_,_,i,k,l,f⟩:=s1.ix F;obtain rfl:=qfG l;refine zxe i k g Z (zc 0 (f.below h.below) Z (qh qa h Z Z Z fun _ _ h=>zs 0 h Z fun _ h=>X1 6 0 h Z (qk Z F ?_ ?_)))<;>intro F
  .refine X0 10 Z ?_;have h:=h.p [1] Z;exact rK ⟨_,_,F,rfl,h⟩ Z
  refine X0 6 Z ?_;have h:=h.p [1] Z;exact rK ⟨_,_,F,rfl,h⟩ Z
 refine qt Z ?_;cases qb F;have F:=d;refine X1 12 0 h Z (qk Z F ?_ ?_)<;>intro F
 .refine qb0 (rD (zd3 Z (qaK (t:=24) F Z ?_ ?_)))<;>intro F
  .refine Y1 4 0 h Z ?_;refine Y1 4 0 h Z ?_;refine Y0 1 Z ?_;obtain⟨r1,o,F⟩:=qc F;refine qcn r1 (vsI _) (cB 103 Z) (fun _ N=>qh8 ((h.ext N).old a) o) Z Z Z Z (Y0 1 Z ?_);obtain⟨_,b,F⟩:=qc F;obtain⟨B,b⟩:=qpF b;refine d_v (fun _ N=>qvO B Z Z) Z ?_;rw[b];refine Y0 4 Z (qaK (t:=33) F Z ?_ ?_)<;>intro F
   .refine Y1 4 0 h Z ?_;refine Y0 1 Z ?_;obtain⟨I,p,F⟩:=qc F;exact qcn I (vsB _) (cB 77 Z) (fun _ N=>qb6 ⟨_,_,rfl,((h.ext N).oldS M)⟩ p) Z Z Z Z (zd2 Z (dN h fun _ h=>rb h F Z))
   exact Y0 5 Z (dN h fun _ h=>rb h F Z)
  exact Y0 14 Z (dN h fun _ h=>rb h F Z)
 refine X0 5 Z (qk Z F ?_ ?_)<;>intro F
 .refine qb0 (rD (zd3 Z (qaK (t:=42) F Z ?_ ?_)))<;>intro F
  .refine Y1 4 0 h Z ?_;refine Y0 6 Z (qaK (t:=48) F Z ?_ ?_)<;>intro F
   .refine Y1 2 0 h Z ?_;refine Y0 1 Z ?_;obtain⟨J,s,F⟩:=qc F;refine qcn J (vsB _) (cB 266 Z) (fun _ N=>qe3 ((h.ext N).old a) s) Z Z Z Z (Y0 4 Z (qaK (t:=53) F Z ?_ ?_))<;>intro F
    .refine Y1 2 0 h Z ?_;refine Y0 1 Z ?_;obtain⟨K,u,F⟩:=qc F;refine qcn K (vsB _) (cB 266 Z) (fun _ N=>qe3 ((h.ext N).old a) u) Z Z Z Z (Y1 2 0 h Z ?_);refine Y0 1 Z ?_;obtain⟨L,v,F⟩:=qc F;exact qcn L (vsB _) (cB 266 Z) (fun _ N=>qe3 ((h.ext N).old a) v) Z Z Z Z (Y0 4 Z (dN h fun _ h=>rb h F Z))
    exact Y0 7 Z (dN h fun _ h=>rb h F Z)
   exact Y0 12 Z (dN h fun _ h=>rb h F Z)
  exact Y0 18 Z (dN h fun _ h=>rb h F Z)
 refine X0 5 Z (qk Z F ?_ ?_)<;>intro F
 .refine X0 5 Z (qe (t:=64) F Z ?_ ?_)<;>intro F
  .refine X1 10 0 h Z (qe (t:=70) F Z ?_ ?_)<;>intro F
   .refine X1 3 0 h Z (zcB h F (qe3 (h.old a)) Z fun _ _ h F=>zp2 Z (qe (t:=74) F Z ?_ ?_))<;>intro F
    .refine X1 3 0 h Z (zcB h F (qe3 (h.old a)) Z fun _ _ h F=>zp2 Z (qe (t:=78) F Z ?_ ?_))<;>intro F
     .exact X1 3 0 h Z (zcB h F (qe3 (h.old a)) Z fun _ _ h F=>X0 5 Z (rb h F Z))
     exact X0 6 Z (rb h F Z)
    exact X0 10 Z (rb h F Z)
   exact X0 14 Z (rb h F Z)
  exact X0 20 Z (rb h F Z)
 exact X0 6 Z (rb h F Z)
def qlf(n:Nat)(c:qL):Option Bool:=(qiP n c.Ba).bind fun r1=>bif r1 then(qkx n c.Ay).bind fun a=>bif a then(qhc n c).bind fun b=>bif b then(qa3 n c.Bx 0 100000).bind fun d=>bif d then(qa3 n c.Bt 0 100000).bind fun f=>bif f then(qgX n c).bind fun g=>V g else V false else V false else V false else V false else V false
theorem qqB{c:qL}(a:Ro w c cs1){r:Bool}(F:qlf n c=V r):RetV prog 205 [gv c cs1] w r:=by
 obtain⟨_,_,_,_,_,_,rfl,s1,_,_⟩:=qan a;refine zV 29 func205 Z fun h=>zSR (qA h Z Z fun _ _ h=>X1 6 0 h Z (zcB h F qkR Z fun _ _ h F=>zp1 Z (qe (t:=6) F Z ?_ ?_)))<;>intro F
 .refine X1 5 0 h Z (zcB h F (qp2 ⟨_,_,rfl,(h.oldS s1)⟩) Z fun _ _ h F=>zp2 Z (qe (t:=11) F Z ?_ ?_))<;>intro F
  .refine X1 3 0 h Z (zcB h F (qm2 (h.old a)) Z fun _ _ h F=>zp2 Z (qe (t:=15) F Z ?_ ?_))<;>intro F
   .refine X1 5 0 h Z (zcB h F qaN Z fun _ _ h F=>zp2 Z (qe (t:=20) F Z ?_ ?_))<;>intro F
    .refine X1 5 0 h Z (zcB h F qaN Z fun _ _ h F=>zp2 Z (qe (t:=25) F Z ?_ ?_))<;>intro F
     .exact X1 3 0 h Z (zcB h F (qmS (h.old a)) Z fun _ _ h F=>X0 3 Z (rb h F Z))
     exact X0 5 Z (rb h F Z)
    exact X0 10 Z (rb h F Z)
   exact X0 15 Z (rb h F Z)
  exact X0 19 Z (rb h F Z)
 exact X0 24 Z (rb h F Z)
def qc6(l:qF):Nat->(List ByteArray)->Int->Option (Flow Bool ((List ByteArray)×Int))|0,_,_=>U|n+1,b,a=>bif decide (a<(l.Ap.length:Int)) then(idx l.Ap a).bind fun c=>(qlf n c).bind fun r1=>bif (!r1) then V (.ret false) else(appS b ([c.Ba]:List ByteArray)).bind fun d=>qc6 l n d (W64 (a+1)) else V (.nxt (b,a))
def qjk(n:Nat)(l:qF):Option Bool:=(qc6 l n ([]:List ByteArray) 0).bind fun|.ret r=>V r|.nxt (b,_)=>bif decide ((l.Ap.length:Int)<=8) then(qeR n b).bind fun a=>V a else V false
theorem qoF{l:qF}(f:Ro w l cs1){r:Bool}(F:qjk n l=V r):RetV prog 147 [gv l cs1] w r:=by
 obtain⟨p1,y,rfl,s1⟩:=qcY f;refine zV 30 func147 Z fun h=>zSR (qA h Z Z fun _ c h=>X1 14 0 h Z ?_);have h:=h.nil (α:=ByteArray);obtain⟨o1,F,d⟩:=qc F;refine ql (rL (fun m e w'=>∃S1 v b u x s,qc6 l m x s=V o1/\e=[(1,vp c),(3,oS v b u),(7,oS p1 l.Ap.length y),(8,vi (l.Ap.length:Int)),(9,vi s)]/\SH w w' [oW S1 (x:List ByteArray) [oS v b u],oX c [oS p1 l.Ap.length y] 26]) n ⟨_,_,_,_,_,_,F,rfl,h⟩ Z ?_);rintro z _ _ ⟨S1,v,b,u,x,s,F,rfl,h⟩;obtain rfl:=(h.sl 0 Z).2;rcases z with _|z
 .cases F
 refine X0 5 Z (qk Z F ?_ ?_)<;>intro F
 .refine zKSBSR ?_;obtain⟨A,_,F,i,_,_,_,_,k,o,p,g⟩:=s1.ix F;obtain⟨_,_,_,_,_,_,rfl,s2,C,D⟩:=qan p;refine zxe k o i Z (zc 0 (g.below h.below) Z (qh qa h Z Z Z fun _ _ h=>zs 0 h Z fun _ h=>X1 5 0 h Z (zcB h F (qqB (qrO A (h.oldS s2) (h.oldS C) (h.oldS D))) Z fun _ _ h F=>X0 2 Z (qk Z F ?_ ?_))))<;>intro F
  .refine X0 4 Z ?_;cases qb F;exact rb h d Z
  refine X1 5 0 h Z (qn qa [.tmp 18] _ ([A.Ba]:List ByteArray) h z9 ⟨rfl,G⟩ Z fun _ _ _ h=>?_);obtain⟨_,a,F⟩:=qc F;obtain⟨B,a⟩:=qE a;refine qar qa 2 h Z (h.sl 0 Z).1 (h.sl 0 Z).2 z9 B a Z fun _ _ _ _ h=>X0 7 Z ?_;have h:=h.p [2,3] Z;exact rK ⟨_,_,_,_,_,_,F,rfl,h⟩ Z
 refine qt Z ?_;cases qb F;have F:=d;refine X1 7 1 h Z (qe (t:=26) F Z ?_ ?_)<;>intro F
 .exact X0 3 Z (zcB h F (qgh (h.own 0 Z)) Z fun _ _ h F=>X0 3 Z (rb h F Z))
 exact X0 5 Z (rb h F Z)
def qbB(d:qj):Nat->(List ByteArray)->Int->Option ((List ByteArray)×Int)|0,_,_=>U|n+1,b,a=>bif decide (a<(d.Ai.length:Int)) then(idx d.Ai a).bind fun f=>(appS b ([f.Ba]:List ByteArray)).bind fun c=>qbB d n c (W64 (a+1)) else V (b,a)
def qbz(d:qj):Nat->(List ByteArray)->Int->Option ((List ByteArray)×Int)|0,_,_=>U|n+1,b,a=>bif decide (a<(d.Ab.length:Int)) then(idx d.Ab a).bind fun f=>(appS b ([f.Ba]:List ByteArray)).bind fun c=>qbz d n c (W64 (a+1)) else V (b,a)
def qfQ(n:Nat)(d:qj):Option Bool:=(qbz d n ([]:List ByteArray) 0).bind fun(a,_)=>(qbB d n ([]:List ByteArray) 0).bind fun(b,_)=>bif decide ((a.length:Int)<=14) then bif decide ((d.Ah.length:Int)<=30) then bif decide ((b.length:Int)<=8) then(qeR n a).bind fun r1=>bif r1 then(qeR n d.Ah).bind fun c=>bif c then(qeR n b).bind fun f=>V f else V false else V false else V false else V false else V false
theorem ql2{d:qj}(s:Ro w d cs1){r:Bool}(F:qfQ n d=V r):RetV prog 148 [gv d cs1] w r:=by
 obtain⟨p1,K,T,Q,M,k3,rfl,s1,s2,Y⟩:=qa1 s;refine zV 62 func148 Z fun h=>zSR (qA h Z Z fun _ a h=>X1 15 0 h Z ?_);have h:=h.nil (α:=ByteArray);obtain⟨o1,F,o⟩:=qc F;refine ql (rL (fun m e w'=>∃S1 l f k i I,qbz d m i I=V o1/\e=[(1,vp a),(3,oS l f k),(4,oS U 0 0),(10,oS p1 d.Ab.length K),(11,vi (d.Ab.length:Int)),(12,vi I)]/\SH w w' [oW S1 (i:List ByteArray) [oS l f k],oX a (qay d p1 T M K Q k3) 31]) n ⟨_,_,_,_,_,_,F,rfl,h⟩ Z ?_);rintro R _ _ ⟨S1,l,f,k,i,I,F,rfl,h⟩;obtain rfl:=(h.sl 0 Z).2;rcases R with _|R
 .cases F
 refine X0 5 Z (qk Z F ?_ ?_)<;>intro F
 .refine zKSBSR ?_;obtain⟨y1,_,F,x,_,_,_,_,z,B,D,u⟩:=s1.ix F;obtain⟨_,_,rfl,_⟩:=qaH D;refine zxe z B x Z (zc 0 (u.below h.below) Z (qh qa h Z Z Z fun _ _ h=>zs 0 h Z fun _ h=>X1 5 0 h Z (qn qa [.tmp 18] _ ([y1.Ba]:List ByteArray) h z9 ⟨rfl,G⟩ Z fun _ _ _ h=>?_)));obtain⟨_,b,F⟩:=qc F;obtain⟨W,b⟩:=qE b;refine qar qa 2 h Z (h.sl 0 Z).1 (h.sl 0 Z).2 z9 W b Z fun _ _ _ _ h=>X0 7 Z ?_;have h:=h.p [2,3] Z;exact rK ⟨_,_,_,_,_,_,F,rfl,h⟩ Z
 refine qt Z ?_;cases qb F;have F:=o;refine X1 8 1 h Z ?_;have h:=h.nil (α:=ByteArray);obtain⟨o2,F,p⟩:=qc F;refine ql (rL (fun m e w'=>∃P N g L O J,qbB d m O J=V o2/\e=[(1,vp a),(3,oS l i.length k),(4,oS N g L),(23,oS M d.Ai.length k3),(24,vi (d.Ai.length:Int)),(25,vi J)]/\SH w w' [oW P (O:List ByteArray) [oS N g L],oW S1 (i:List ByteArray) [oS l i.length k],oX a (qay d p1 T M K Q k3) 31]) n ⟨_,_,_,_,_,_,F,rfl,h⟩ Z ?_);rintro S _ _ ⟨P,N,g,L,O,J,F,rfl,h⟩;obtain rfl:=(h.sl 0 Z).2;rcases S with _|S
 .cases F
 refine X0 5 Z (qk Z F ?_ ?_)<;>intro F
 .refine zKSBSR ?_;obtain⟨y2,_,F,y,_,_,_,_,A,C,H,v⟩:=Y.ix F;obtain rfl:=qfl H;refine zxe A C y Z (zc 0 (v.below h.below) Z (qh qa h Z Z Z fun _ _ h=>zs 0 h Z fun _ h=>X1 5 0 h Z (qn qa [.tmp 31] _ ([y2.Ba]:List ByteArray) h z9 ⟨rfl,G⟩ Z fun _ _ _ h=>?_)));obtain⟨_,c,F⟩:=qc F;obtain⟨X,c⟩:=qE c;refine qar qa 2 h Z (h.sl 0 Z).1 (h.sl 0 Z).2 z9 X c Z fun _ _ _ _ h=>X0 7 Z ?_;have h:=h.p [2,3,4] Z;exact rK ⟨_,_,_,_,_,_,F,rfl,h⟩ Z
 refine qt Z ?_;cases qb F;have F:=p;refine X0 6 Z (qe (t:=38) F Z ?_ ?_)<;>intro F
 .refine X1 10 2 h Z (qe (t:=44) F Z ?_ ?_)<;>intro F
  .refine X0 8 Z (qe (t:=49) F Z ?_ ?_)<;>intro F
   .refine X0 3 Z (zcB h F (qgh (h.own 1 Z)) Z fun _ _ h F=>zp2 Z (qe (t:=53) F Z ?_ ?_))<;>intro F
    .refine X1 5 2 h Z (zcB h F (qgh ⟨_,_,rfl,(h.oldS s2)⟩) Z fun _ _ h F=>zp2 Z (qe (t:=58) F Z ?_ ?_))<;>intro F
     .exact X0 3 Z (zcB h F (qgh (h.own 0 Z)) Z fun _ _ h F=>X0 3 Z (rb h F Z))
     exact X0 5 Z (rb h F Z)
    exact X0 10 Z (rb h F Z)
   exact X0 14 Z (rb h F Z)
  exact X0 19 Z (rb h F Z)
 exact X0 25 Z (rb h F Z)
def qg8(_:Nat)(list:(List qL)):Option Int:=V (list.length:Int)
theorem qlE{list:(List qL)}(a:Ro w list cs1){r:Int}(F:qg8 n list=V r):RetV prog 207 [gv list cs1] w r:=by
 obtain⟨_,_,rfl,_⟩:=a;exact zV 5 func207 Z fun h=>X0 10 Z (ri h F Z)
def qdZ(n:Nat)(net:Int)(a:qj):Option Bool:=(qcy n a net).bind fun r1=>V (!r1)
theorem qkv{net}{d:qj}{p1}(a:Ro w (V d) [.pointer p1]){r:Bool}(F:qdZ n net d=V r):RetV prog 208 [vi net,.pointer p1] w r:=by
 obtain⟨_,f,_,rfl,-,c,b⟩:=PtR.get a Z;obtain⟨_,_,_,_,_,_,rfl,s1,s2,g⟩:=qa1 c;exact zV 8 func208 Z fun h=>X0 6 Z (zc 0 (b.below h.below) Z (zp1 Z (zcB h F (qd5 (qaO d (h.oldS s1) (h.oldS s2) (h.oldS g))) Z fun _ _ h F=>X0 3 Z (rb h F Z))))
def qU(s:(List Int))(a:qj):Nat->Int->Option (Flow Int Int)|0,_=>U|n+1,b=>bif decide (b<(s.length:Int)) then(idx s b).bind fun c=>(qdZ n c a).bind fun r1=>bif r1 then V (.ret b) else qU s a n (W64 (b+1)) else V (.nxt b)
def qbo(n:Nat)(s:(List Int))(a:qj):Option Int:=(qU s a n 0).bind fun|.ret r=>V r|.nxt _=>V (-1)
theorem qff{s:(List Int)}{a:qj}(d:Ro w s cs1){u}(c:Ro w (V a) [.pointer u]){r:Int}(F:qbo n s a=V r):RetV prog 121 [gv s cs1,.func (.func 208) #[] #[.pointer u]] w r:=by
 obtain⟨p1,v,rfl,s1⟩:=d;obtain⟨b1,p,_,rfl,-,l,_⟩:=PtR.get c Z;obtain⟨_,_,_,_,_,_,rfl,_,_,_⟩:=qa1 l;refine zV 19 func121 Z fun h=>X0 11 Z ?_;obtain⟨o1,F,b⟩:=qc F;refine ql (rL (fun m e w'=>∃o,qU s a m o=V o1/\e=[(0,oS p1 s.length v),(1,.func (.func 208) #[] #[.pointer (V ⟨b1,p,U⟩)]),(7,vi (s.length:Int)),(8,vi o)]/\SH w w' []) n ⟨_,F,rfl,h⟩ Z ?_);rintro t _ _ ⟨o,F,rfl,h⟩;rcases t with _|t
 .cases F
 refine X0 5 Z (qk Z F ?_ ?_)<;>intro F
 .refine X0 13 Z ?_;obtain⟨_,_,F,g,_,_,_,_,i,k,rfl,f⟩:=s1.ix F;refine zxe i k g Z (zc 0 (f.below h.below) Z (zcB h F (qkv (h.old c)) Z fun _ _ h F=>qbe (qk Z F ?_ ?_)))<;>intro F
  .refine X0 5 Z ?_;cases qb F;exact ri h b Z
  exact X0 6 Z (rK ⟨_,F,rfl,h⟩ Z)
 refine qt Z ?_;cases qb F;exact X0 4 Z (ri h b Z)
def qa7(n:Nat)(s:(List Int))(a:qj):Option Bool:=(qbo n s a).bind fun r1=>V (decide (r1>=0))
theorem qeE{s:(List Int)}{a:qj}(c:Ro w s cs1){f}(b:Ro w (V a) [.pointer f]){r:Bool}(F:qa7 n s a=V r):RetV prog 59 [gv s cs1,.func (.func 208) #[] #[.pointer f]] w r:=by
 obtain⟨_,_,rfl,s1⟩:=c;obtain⟨_,g,_,rfl,-,d,_⟩:=PtR.get b Z;obtain⟨_,_,_,_,_,_,rfl,_,_,_⟩:=qa1 d;exact zV 9 func59 Z fun h=>X0 8 Z (zcI h F (qff ⟨_,_,rfl,(h.oldS s1)⟩ (h.old b)) Z fun _ _ h F=>X0 3 Z (rb h F Z))
def qeI(n:Nat)(d:qj)(l:qF)(x:qJ):Option Bool:=(qg8 n l.Ap).bind fun r1=>(qa3 n x.Bq 0 (W64 (r1-1))).bind fun a=>bif a then(idx l.Ap x.Bq).bind fun c=>bif ((x.Ah.length:Int)==(c.Ay.length:Int)) then(qa7 n x.Ah d).bind fun b=>V (!b) else V false else V false
theorem qk7{d:qj}{l:qF}{x:qJ}(a:Ro w d cs1)(b:Ro w l cs2)(c:Ro w x cs3){r:Bool}(F:qeI n d l x=V r):RetV prog 149 [gv d cs1,gv l cs2,gv x cs3] w r:=by
 obtain⟨_,_,_,_,_,_,rfl,_,_,_⟩:=qa1 a;obtain⟨_,_,rfl,u⟩:=qcY b;obtain⟨_,_,rfl,z⟩:=qaH c;refine zV 35 func149 Z fun h=>zSR (qA h Z Z fun _ _ h=>qA h Z Z fun _ _ h=>qA h Z Z fun _ _ h=>X0 3 Z (rD (Y1 2 0 h Z ?_)));refine Y1 2 1 h Z ?_;obtain⟨r1,m,F⟩:=qc F;refine qcn r1 (vsI _) (cB 207 Z) (fun _ A=>qlE ⟨_,_,rfl,((h.ext A).oldS u)⟩ m) Z Z Z Z (zd1 Z ?_);obtain⟨v,o,F⟩:=qc F;refine qcn v (vsB _) (cB 35 Z) (fun _ A=>qaN  o) Z Z Z Z (zd1 Z (qaK (t:=14) F Z ?_ ?_))<;>intro F
 .refine Y1 4 0 h Z ?_;refine Y1 6 1 h Z ?_;refine Y1 4 0 h Z ?_;refine Y0 1 Z ?_;obtain⟨_,_,F,g,_,_,_,_,i,k,p,f⟩:=u.ix F;obtain⟨_,_,_,_,_,_,rfl,_,_,_⟩:=qan p;refine zdxe i k g Z (Y0 3 Z (zdc 2 (f.below h.below) Z (Y0 6 Z (qaK (t:=28) F Z ?_ ?_))))<;>intro F
  .refine Y1 4 0 h Z ?_;refine Y0 3 Z ?_;obtain⟨y,s,F⟩:=qc F;exact qcn y (vsB _) (cB 59 Z) (fun _ A=>qeE ⟨_,_,rfl,((h.ext A).oldS z)⟩ (qbX (x:=d) 2 (h.ext A) Z ((h.ext A).old a)) s) Z Z Z Z (Y0 4 Z (dN h fun _ h=>rb h F Z))
  exact Y0 7 Z (dN h fun _ h=>rb h F Z)
 exact Y0 21 Z (dN h fun _ h=>rb h F Z)
def qkf(_:Nat)(a:Int):Option Bool:=V (a != 1)
theorem qoa{a_n}  {r:Bool}(F:qkf n a_n=V r):RetV prog 151 [vi a_n] w r:=by
 exact zV 5 func151 Z fun h=>X0 10 Z (rb h F Z)
def qat(s:(List Int)):Nat->Int->Option (Flow Int Int)|0,_=>U|n+1,a=>bif decide (a<(s.length:Int)) then(idx s a).bind fun b=>(qkf n b).bind fun r1=>bif r1 then V (.ret a) else qat s n (W64 (a+1)) else V (.nxt a)
def qcu(n:Nat)(s:(List Int)):Option Int:=(qat s n 0).bind fun|.ret r=>V r|.nxt _=>V (-1)
theorem qhj{s:(List Int)}(b:Ro w s cs1){r:Int}(F:qcu n s=V r):RetV prog 209 [gv s cs1,.func (.func 151) #[] #[]] w r:=by
 obtain⟨p1,l,rfl,s1⟩:=b;refine zV 19 func209 Z fun h=>X0 11 Z ?_;obtain⟨o1,F,a⟩:=qc F;refine ql (rL (fun m e w'=>∃i,qat s m i=V o1/\e=[(0,oS p1 s.length l),(1,.func (.func 151) #[] #[]),(7,vi (s.length:Int)),(8,vi i)]/\SH w w' []) n ⟨_,F,rfl,h⟩ Z ?_);rintro k _ _ ⟨i,F,rfl,h⟩;rcases k with _|k
 .cases F
 refine X0 5 Z (qk Z F ?_ ?_)<;>intro F
 .refine X0 13 Z ?_;obtain⟨_,_,F,d,_,_,_,_,f,g,rfl,c⟩:=s1.ix F;refine zxe f g d Z (zc 0 (c.below h.below) Z (zcB h F qoa Z fun _ _ h F=>qbe (qk Z F ?_ ?_)))<;>intro F
  .refine X0 5 Z ?_;cases qb F;exact ri h a Z
  exact X0 6 Z (rK ⟨_,F,rfl,h⟩ Z)
 refine qt Z ?_;cases qb F;exact X0 4 Z (ri h a Z)
def qb8(n:Nat)(s:(List Int)):Option Bool:=(qcu n s).bind fun r1=>V (decide (r1>=0))
theorem qgN{s:(List Int)}(a:Ro w s cs1){r:Bool}(F:qb8 n s=V r):RetV prog 150 [gv s cs1,.func (.func 151) #[] #[]] w r:=by
 obtain⟨_,_,rfl,s1⟩:=a;exact zV 9 func150 Z fun h=>X0 8 Z (zcI h F (qhj ⟨_,_,rfl,(h.oldS s1)⟩) Z fun _ _ h F=>X0 3 Z (rb h F Z))
def qcR(a_1:qj):Nat->(List Int)->Int->Option (Flow Bool ((List Int)×Int))|0,_,_=>U|n+1,c,b=>bif decide (b<(a_1.Ai.length:Int)) then(idx a_1.Ai b).bind fun a=>(bif (a.Bs != 1) then bif (a.Bs != 2) then V true else(qcy n a_1 a.Bw).bind fun f=>V (!f) else(qcy n a_1 a.Bw).bind fun g=>V (!g)).bind fun d=>bif d then V (.ret false) else bif (a.Bs==1) then(idx c a.Bw).bind fun h=>(idx c a.Bw).bind fun _=>qcR a_1 n (setS c a.Bw (W64 (h+1))) (W64 (b+1)) else qcR a_1 n c (W64 (b+1)) else V (.nxt (c,b))
def qdE(a_0:qF)(a_1:qj):Nat->(List Int)->Int->Option (Flow Bool ((List Int)×Int))|0,_,_=>U|n+1,b,a=>bif decide (a<(a_1.Ab.length:Int)) then(idx a_1.Ab a).bind fun c=>(qeI n a_1 a_0 c).bind fun r1=>bif (!r1) then V (.ret false) else(idx c.Ah (W64 ((c.Ah.length:Int)-1))).bind fun d=>(idx b d).bind fun f=>(idx b d).bind fun _=>qdE a_0 a_1 n (setS b d (W64 (f+1))) (W64 (a+1)) else V (.nxt (b,a))
def qjN(n:Nat)(a_0:qF)(a_1:qj):Option Bool:=((qjk n a_0).bind fun b=>bif (!b) then V true else(qfQ n a_1).bind fun c=>V (!c)).bind fun b1=>bif b1 then V false else(mkS (a_1.Ah.length:Int) (0:Int)).bind fun d=>(qdE a_0 a_1 n d 0).bind fun|.ret r=>V r|.nxt (f,_)=>(qcR a_1 n f 0).bind fun|.ret r=>V r|.nxt (g,_)=>(qb8 n g).bind fun a=>V (!a)
theorem qph{a_0:qF}{a_1:qj}(g:Ro w a_0 cs1)(c:Ro w a_1 cs2){r:Bool}(F:qjN n a_0 a_1=V r):RetV prog 84 [gv a_0 cs1,gv a_1 cs2] w r:=by
 obtain⟨p1,k1,rfl,_⟩:=qcY g;obtain⟨N,M,P,k3,l,k,rfl,s2,_,s4⟩:=qa1 c;refine zV 84 func84 Z fun h=>zSR (qA h Z Z fun _ d h=>qA h Z Z fun _ a h=>X0 4 Z ?_);obtain⟨S,y,_,F,v⟩:=bindE F;refine qau (fun e w'=>∃b1,S b1=V r/\e=[(2,vp d),(3,vp a),(17,.bool b1)]/\SH w w' [oX a (qay a_1 N P l M k3 k) 31,oX d [oS p1 a_0.Ap.length k1] 26]) ?_ ?_
 .refine X1 2 1 h Z (zcB h F (qoF (h.old g)) Z fun _ _ h F=>zp2 Z (qe (t:=13) F Z ?_ ?_))<;>intro F
  .refine X0 5 Z ?_;cases qb F;exact rG ⟨_,v,rfl,h⟩ Z
  refine X1 3 0 h Z (zcB h F (ql2 (h.old c)) Z fun _ _ h F=>X0 4 Z ?_);cases qb F;exact rG ⟨_,v,rfl,h⟩ Z
 rintro _ _ ⟨b1,F,rfl,h⟩;subst y;refine qk Z F ?_ ?_<;>intro F
 .exact X0 4 Z (rb h F Z)
 refine X1 6 0 h Z ?_;obtain⟨b,i,F⟩:=qc F;obtain⟨g1,g2,i⟩:=qad i;refine qaz qa Int h z9 g1 g2 i Z fun _ S1 o h=>X1 10 1 h Z ?_;obtain⟨o1,F,s⟩:=qc F;refine ql (rL (fun m e w'=>∃x2 i1,qdE a_0 a_1 m x2 i1=V o1/\e=[(2,vp d),(3,vp a),(5,oS o b.length b.length),(23,oS N a_1.Ab.length M),(24,vi (a_1.Ab.length:Int)),(25,vi i1)]/\SH w w' [oW S1 (x2:List Int) [oS o b.length b.length],oX a (qay a_1 N P l M k3 k) 31,oX d [oS p1 a_0.Ap.length k1] 26]) n ⟨_,_,F,rfl,h⟩ Z ?_);rintro m1 _ _ ⟨x2,i1,F,rfl,h⟩;rcases m1 with _|m1
 .cases F
 refine X0 5 Z (qk Z F ?_ ?_)<;>intro F
 .refine zKSBSR ?_;obtain⟨y1,_,F,a5,_,_,_,_,a8,b8,c4,W⟩:=s2.ix F;obtain⟨_,_,rfl,s5⟩:=qaH c4;refine zxe a8 b8 a5 Z (zc 0 (W.below h.below) Z (qh qa h Z Z Z fun _ _ h=>zs 0 h Z fun _ h=>X3 7 2 3 0 h Z (zcB h F (qk7 (h.old c) (h.old g) (qlI y1 (h.oldS s5))) Z fun _ _ h F=>X0 2 Z (qk Z F ?_ ?_))))<;>intro F
  .refine X0 4 Z ?_;cases qb F;exact rb h s Z
  refine X2 9 0 0 h Z ?_;obtain⟨_,_,F,a6,_,_,_,_,a9,b9,rfl,X⟩:=s5.ix F;refine zxe a9 b9 a6 Z (zc 0 (X.below h.below) Z ?_);obtain⟨y3,_,F,B,_,_,_,_,b4,c0,rfl,Y⟩:=(h.sl 1 Z).1.ix F;refine zx b4 c0 ⟨B.1,qC B.2.1 (h.sl 1 Z).2⟩ Z (zc 0 Y Z (zp1 Z ?_));obtain⟨_,c6,F,C,_,_,_,_,I,K,rfl,a3⟩:=(h.sl 1 Z).1.ix F;refine zx I K ⟨C.1,qC C.2.1 (h.sl 1 Z).2⟩ Z (qav qa 1 0 (W64 (y3+1)) h Z c6 I K Z a3 Z Z Z Z Z Z Z fun _ h=>X0 6 Z ?_);have h:=h.p [1,2,3] Z;exact rK ⟨_,_,F,rfl,h⟩ Z
 refine qt Z ?_;cases qb F;have F:=s;refine X1 8 1 h Z ?_;obtain⟨o2,F,u⟩:=qc F;refine ql ?_;have h:=h.p [0,1] Z;refine rL (fun m e w'=>∃Q O,qcR a_1 m Q O=V o2/\e=[(3,vp a),(5,oS o b.length b.length),(49,oS l a_1.Ai.length k),(50,vi (a_1.Ai.length:Int)),(51,vi O)]/\SH w w' [oW S1 (Q:List Int) [oS o b.length b.length],oX a (qay a_1 N P l M k3 k) 31]) n ⟨_,_,F,rfl,h⟩ Z ?_;rintro m2 _ _ ⟨Q,O,F,rfl,h⟩;rcases m2 with _|m2
 .cases F
 refine X0 5 Z (qk Z F ?_ ?_)<;>intro F
 .refine zKSBSR ?_;obtain⟨y5,_,F,a7,_,_,_,_,b5,c2,c5,a4⟩:=s4.ix F;obtain rfl:=qfl c5;refine zxe b5 c2 a7 Z (zc 0 (a4.below h.below) Z (qh qa h Z Z Z fun _ p h=>zs 0 h Z fun _ h=>zNSS ?_));obtain⟨R,x,_,F,f⟩:=bindE F;refine qau (fun e w'=>∃T,R T=V o2/\e=[(3,vp a),(5,oS o b.length b.length),(9,vp p),(49,oS l a_1.Ai.length k),(50,vi (a_1.Ai.length:Int)),(51,vi O),(69,.bool T)]/\SH w w' [oX p (qse y5) 220,oW S1 (Q:List Int) [oS o b.length b.length],oX a (qay a_1 N P l M k3 k) 31]) ?_ ?_
  .refine X1 5 0 h Z (qe (t:=58) F Z ?_ ?_)<;>intro F
   .refine X1 8 0 h Z (qe (t:=63) F Z ?_ ?_)<;>intro F
    .refine X0 7 Z ?_;cases qb F;exact rG ⟨_,f,rfl,h⟩ Z
    refine X2 7 2 0 h Z (zcB h F (qd5 (h.old c)) Z fun _ _ h F=>X0 4 Z ?_);cases qb F;exact rG ⟨_,f,rfl,h⟩ Z
   refine X2 12 2 0 h Z (zcB h F (qd5 (h.old c)) Z fun _ _ h F=>X0 4 Z ?_);cases qb F;exact rG ⟨_,f,rfl,h⟩ Z
  rintro _ _ ⟨T,F,rfl,h⟩;subst x;refine qk Z F ?_ ?_<;>intro F
  .refine X0 4 Z ?_;cases qb F;exact rb h u Z
  refine X1 7 0 h Z (qk Z F ?_ ?_)<;>intro F
  .refine X1 4 0 h Z ?_;obtain⟨y6,_,F,D,_,_,_,_,b6,c3,rfl,z⟩:=(h.sl 1 Z).1.ix F;refine zx b6 c3 ⟨D.1,qC D.2.1 (h.sl 1 Z).2⟩ Z (zc 0 z Z (zp1 Z ?_));obtain⟨_,c7,F,H,_,_,_,_,J,L,rfl,A⟩:=(h.sl 1 Z).1.ix F;refine zx J L ⟨H.1,qC H.2.1 (h.sl 1 Z).2⟩ Z (qav qa 1 0 (W64 (y6+1)) h Z c7 J L Z A Z Z Z Z Z Z Z fun _ h=>X0 6 Z ?_);have h:=h.p [1,2] Z;exact rK ⟨_,_,F,rfl,h⟩ Z
  refine X0 6 Z ?_;have h:=h.p [1,2] Z;exact rK ⟨_,_,F,rfl,h⟩ Z
 refine qt Z ?_;cases qb F;have F:=u;exact X0 3 Z (zcB h F (qgN (h.own 0 Z)) Z fun _ _ h F=>X0 3 Z (rb h F Z))
def qb3(c:Int)(b:qJ):Nat->(List Tplace)->Int->Option ((List Tplace)×Int)|0,_,_=>U|n+1,d,a=>bif decide (a<(b.Ah.length:Int)) then(idx b.Ah a).bind fun g=>(appS d ([(⟨c,a,g,(a==(W64 ((b.Ah.length:Int)-1)))⟩:Tplace)]:List Tplace)).bind fun f=>qb3 c b n f (W64 (a+1)) else V (d,a)
def qb1(d:qj):Nat->(List Tplace)->Int->Option ((List Tplace)×Int)|0,_,_=>U|n+1,b,a=>bif decide (a<(d.Ai.length:Int)) then(idx d.Ai a).bind fun c=>(appS b ([(⟨(-1),a,c.Bw,(c.Bs==1)⟩:Tplace)]:List Tplace)).bind fun f=>qb1 d n f (W64 (a+1)) else V (b,a)
def qb2(d:qj):Nat->(List Tplace)->Int->Option ((List Tplace)×Int)|0,_,_=>U|n+1,b,a=>bif decide (a<(d.Ab.length:Int)) then(idx d.Ab a).bind fun f=>(qb3 a f n b 0).bind fun(c,_)=>qb2 d n c (W64 (a+1)) else V (b,a)
def qcJ(n:Nat)(d:qj):Option (List Tplace):=(qb2 d n ([]:List Tplace) 0).bind fun(a,_)=>(qb1 d n a 0).bind fun(b,_)=>V b
theorem qdz{d:qj}(z:Ro w d cs1){r:(List Tplace)}(F:qcJ n d=V r):RetV prog 85 [gv d cs1] w r:=by
 obtain⟨p1,t,p2,k2,X,k3,rfl,s1,_,s3⟩:=qa1 z;refine zV 61 func85 Z fun h=>zSR (qA h Z Z fun _ a h=>X1 14 0 h Z ?_);have h:=h.nil (α:=Tplace);obtain⟨o1,F,v⟩:=qc F;refine ql (rL (fun m e w'=>∃S1 Y i R x1 b,qb2 d m x1 b=V o1/\e=[(1,vp a),(3,oS Y i R),(11,oS p1 d.Ab.length t),(12,vi (d.Ab.length:Int)),(13,vi b)]/\SH w w' [oW S1 (x1:List Tplace) [oS Y i R],oX a (qay d p1 p2 X t k2 k3) 31]) n ⟨_,_,_,_,_,_,F,rfl,h⟩ Z ?_);rintro W _ _ ⟨S1,Y,i,R,x1,b,F,rfl,h⟩;obtain rfl:=(h.sl 0 Z).2;rcases W with _|W
 .cases F
 refine X0 5 Z (qk Z F ?_ ?_)<;>intro F
 .refine X0 6 Z ?_;obtain⟨o,_,F,D,_,_,_,_,J,M,P,A⟩:=s1.ix F;obtain⟨p5,k5,rfl,s4⟩:=qaH P;refine zxe J M D Z (zc 0 (A.below h.below) Z (qh qa h Z Z Z fun _ p h=>zp1 Z (zs 0 h Z fun _ h=>X1 8 0 h Z ?_)));obtain⟨o2,F,x⟩:=qc F;refine ql (rL (fun m e w'=>∃S2 p6 k S x2 g,qb3 b o m x2 g=V o2/\e=[(1,vp a),(3,oS p6 k S),(4,vi b),(5,vp p),(11,oS p1 d.Ab.length t),(12,vi (d.Ab.length:Int)),(13,vi b),(19,oS p5 o.Ah.length k5),(20,vi (o.Ah.length:Int)),(21,vi g)]/\SH w w' [oX p (qj0 o p5 k5) 77,oW S2 (x2:List Tplace) [oS p6 k S],oX a (qay d p1 p2 X t k2 k3) 31]) W ⟨_,_,_,_,_,_,F,rfl,h⟩ Z ?_);rintro m2 _ _ ⟨S2,p6,k,S,x2,g,F,rfl,h⟩;obtain rfl:=(h.sl 1 Z).2;rcases m2 with _|m2
  .cases F
  refine X0 5 Z (qk Z F ?_ ?_)<;>intro F
  .refine X0 6 Z ?_;obtain⟨y2,_,F,H,_,_,_,_,K,N,rfl,B⟩:=s4.ix F;refine zxe K N H Z (zc 0 (B.below h.below) Z (X1 14 0 h Z (r_v (qy qa [0,1,2,3] [.tmp 27,.tmp 28,.tmp 29,.tmp 35] z8) Z (qn qa [.tmp 36] _ ([(⟨b,g,y2,(g==(W64 ((o.Ah.length:Int)-1)))⟩:Tplace)]:List Tplace) h z9 ⟨(qkX (⟨b,g,y2,(g==(W64 ((o.Ah.length:Int)-1)))⟩:Tplace)),G⟩ Z fun _ _ _ h=>?_))));obtain⟨_,c,F⟩:=qc F;obtain⟨g1,c⟩:=qE c;refine qar qa 2 h Z (h.sl 0 Z).1 (h.sl 0 Z).2 z9 g1 c Z fun _ _ _ _ h=>X0 7 Z ?_;have h:=h.p [1,2,3] Z;exact rK ⟨_,_,_,_,_,_,F,rfl,h⟩ Z
  refine qt Z ?_;cases qb F;have F:=x;refine X0 5 Z ?_;have h:=h.p [1,2] Z;exact rK ⟨_,_,_,_,_,_,F,rfl,h⟩ Z
 refine qt Z ?_;cases qb F;have F:=v;refine X1 8 1 h Z ?_;obtain⟨o3,F,y⟩:=qc F;refine ql ?_;have h:=h.p [0] Z;refine rL (fun m e w'=>∃S5 p9 l T x4 s,qb1 d m x4 s=V o3/\e=[(3,oS p9 l T),(42,oS X d.Ai.length k3),(43,vi (d.Ai.length:Int)),(44,vi s)]/\SH w w' [oW S5 (x4:List Tplace) [oS p9 l T]]) n ⟨_,_,_,_,_,_,F,rfl,h⟩ Z ?_;rintro m3 _ _ ⟨S5,p9,l,T,x4,s,F,rfl,h⟩;obtain rfl:=(h.sl 0 Z).2;rcases m3 with _|m3
 .cases F
 refine X0 5 Z (qk Z F ?_ ?_)<;>intro F
 .refine X0 6 Z ?_;obtain⟨u,_,F,I,_,_,_,_,L,O,Q,C⟩:=s3.ix F;obtain rfl:=qfl Q;refine zxe L O I Z (zc 0 (C.below h.below) Z (qh qa h Z Z Z fun _ _ h=>zp1 Z (zs 0 h Z fun _ h=>X2 9 0 0 h Z (r_v (qy qa [0,1,2,3] [.const (vi (-1)),.tmp 50,.tmp 52,.tmp 55] z8) Z (qn qa [.tmp 56] _ ([(⟨(-1),s,u.Bw,(u.Bs==1)⟩:Tplace)]:List Tplace) h z9 ⟨(qkX (⟨(-1),s,u.Bw,(u.Bs==1)⟩:Tplace)),G⟩ Z fun _ _ _ h=>?_)))));obtain⟨_,f,F⟩:=qc F;obtain⟨g2,f⟩:=qE f;refine qar qa 2 h Z (h.sl 0 Z).1 (h.sl 0 Z).2 z9 g2 f Z fun _ _ _ _ h=>X0 7 Z ?_;have h:=h.p [2] Z;exact rK ⟨_,_,_,_,_,_,F,rfl,h⟩ Z
 refine qt Z ?_;cases qb F;have F:=y;refine X0 5 Z ?_;cases qb F;exact rO 0 h Z ⟨rfl,G⟩
def qbu(f:qah):Nat->Int->Option (Flow Bool Int)|0,_=>U|n+1,a=>bif decide (a<(f.Aj.length:Int)) then(idx f.Aj a).bind fun b=>bif (a==0) then bif (b != (-1)) then V (.ret false) else(idx f.Br 0).bind fun d=>bif (d != 0) then V (.ret false) else bif decide (a > 0) then(qa3 n b 0 (W64 (a-1))).bind fun r1=>bif (!r1) then V (.ret false) else qbu f n (W64 (a+1)) else qbu f n (W64 (a+1)) else bif decide (a > 0) then(qa3 n b 0 (W64 (a-1))).bind fun c=>bif (!c) then V (.ret false) else qbu f n (W64 (a+1)) else qbu f n (W64 (a+1)) else V (.nxt a)
def qhS(n:Nat)(a:qah):Option Bool:=(qbu a n 0).bind fun|.ret r=>V r|.nxt _=>V true
theorem qnV{C:qah}(c:Ro w C cs1){r:Bool}(F:qhS n C=V r):RetV prog 152 [gv C cs1] w r:=by
 obtain⟨p1,u,z,x,A,k3,B,y,rfl,s1,s2,_,_⟩:=qbU c;refine zV 38 func152 Z fun h=>zSR (qA h Z Z fun _ b h=>X1 10 0 h Z ?_);obtain⟨o1,F,a⟩:=qc F;refine ql (rL (fun m e w'=>∃s,qbu C m s=V o1/\e=[(1,vp b),(6,oS p1 C.Aj.length u),(7,vi (C.Aj.length:Int)),(8,vi s)]/\SH w w' [oX b (qgV C p1 z A B u x k3 y) 152]) n ⟨_,F,rfl,h⟩ Z ?_);rintro v _ _ ⟨s,F,rfl,h⟩;rcases v with _|v
 .cases F
 refine X0 5 Z (qk Z F ?_ ?_)<;>intro F
 .refine X0 6 Z ?_;obtain⟨_,_,F,g,_,_,_,_,k,o,rfl,d⟩:=s1.ix F;refine zxe k o g Z (zc 0 (d.below h.below) Z (X0 8 Z (qe (t:=15) F Z ?_ ?_)))<;>intro F
  .refine X0 6 Z (qe (t:=18) F Z ?_ ?_)<;>intro F
   .refine X0 20 Z (qb5 Z Z (X0 4 Z ?_));cases qb F;exact rb h a Z
   refine X1 5 0 h Z ?_;obtain⟨_,_,F,i,_,_,_,_,l,p,rfl,f⟩:=s2.ix F;refine zxe l p i Z (X0 1 Z (zc 0 (f.below h.below) Z (X0 6 Z (qe (t:=26) F Z ?_ ?_))))<;>intro F
   .refine X0 11 Z (qb5 Z Z (X0 4 Z ?_));cases qb F;exact rb h a Z
   refine X0 6 Z (qe (t:=29) F Z ?_ ?_)<;>intro F
   .refine X0 7 Z (zcB h F qaN Z fun _ _ h F=>X0 6 Z (qk Z F ?_ ?_))<;>intro F
    .refine X0 4 Z ?_;cases qb F;exact rb h a Z
    exact X0 6 Z (rK ⟨_,F,rfl,h⟩ Z)
   exact X0 9 Z (qa5 Z Z (X0 6 Z (rK ⟨_,F,rfl,h⟩ Z)))
  refine X0 17 Z (qe (t:=29) F Z ?_ ?_)<;>intro F
  .refine X0 7 Z (zcB h F qaN Z fun _ _ h F=>X0 6 Z (qk Z F ?_ ?_))<;>intro F
   .refine X0 4 Z ?_;cases qb F;exact rb h a Z
   exact X0 6 Z (rK ⟨_,F,rfl,h⟩ Z)
  exact X0 9 Z (qa5 Z Z (X0 6 Z (rK ⟨_,F,rfl,h⟩ Z)))
 refine qt Z ?_;cases qb F;exact X0 4 Z (rb h a Z)
def qlm(n:Nat)(k:qah)(sinks:Int):Option Bool:=(qbH n k.Aj).bind fun r1=>(qa3 n r1 1 8).bind fun a=>bif a then(qbH n k.Br).bind fun b=>bif (b==r1) then(qbH n k.Bl).bind fun c=>bif (c==r1) then(qhS n k).bind fun d=>bif d then(qbW n k.Br 0 1000).bind fun f=>bif f then(qbW n k.Bl 0 500).bind fun g=>bif g then(qbH n k.Bb).bind fun h=>bif (h==sinks) then(qbW n k.Bb 0 (W64 (r1-1))).bind fun i=>V i else V false else V false else V false else V false else V false else V false else V false
theorem qqV{d:qah}{sinks}(a:Ro w d cs1){r:Bool}(F:qlm n d sinks=V r):RetV prog 86 [gv d cs1,vi sinks] w r:=by
 obtain⟨_,_,_,_,_,_,_,_,rfl,s1,s2,b,c⟩:=qbU a;refine zV 53 func86 Z fun h=>zSR (qA h Z Z fun _ _ h=>X1 6 0 h Z (zcI h F (qce ⟨_,_,rfl,(h.oldS s1)⟩) Z fun _ _ h F=>X0 5 Z (zcB h F qaN Z fun _ _ h F=>zp1 Z (qe (t:=11) F Z ?_ ?_))))<;>intro F
 .refine X1 5 0 h Z (zcI h F (qce ⟨_,_,rfl,(h.oldS s2)⟩) Z fun _ _ h F=>X0 6 Z (qe (t:=18) F Z ?_ ?_))<;>intro F
  .refine X1 5 0 h Z (zcI h F (qce ⟨_,_,rfl,(h.oldS b)⟩) Z fun _ _ h F=>X0 6 Z (qe (t:=25) F Z ?_ ?_))<;>intro F
   .refine X1 3 0 h Z (zcB h F (qnV (h.old a)) Z fun _ _ h F=>zp2 Z (qe (t:=29) F Z ?_ ?_))<;>intro F
    .refine X1 5 0 h Z (zcB h F (qb6 ⟨_,_,rfl,(h.oldS s2)⟩) Z fun _ _ h F=>zp2 Z (qe (t:=34) F Z ?_ ?_))<;>intro F
     .refine X1 5 0 h Z (zcB h F (qb6 ⟨_,_,rfl,(h.oldS b)⟩) Z fun _ _ h F=>zp2 Z (qe (t:=39) F Z ?_ ?_))<;>intro F
      .refine X1 5 0 h Z (zcI h F (qce ⟨_,_,rfl,(h.oldS c)⟩) Z fun _ _ h F=>X0 6 Z (qe (t:=46) F Z ?_ ?_))<;>intro F
       .exact X1 9 0 h Z (zcB h F (qb6 ⟨_,_,rfl,(h.oldS c)⟩) Z fun _ _ h F=>X0 3 Z (rb h F Z))
       exact X0 8 Z (rb h F Z)
      exact X0 15 Z (rb h F Z)
     exact X0 20 Z (rb h F Z)
    exact X0 25 Z (rb h F Z)
   exact X0 29 Z (rb h F Z)
  exact X0 36 Z (rb h F Z)
 exact X0 43 Z (rb h F Z)
def qfH(b:qd)(c:(List Int)):Nat->Int->Option (Flow Bool Int)|0,_=>U|n+1,a=>bif decide (a<(b.Ac.length:Int)) then(idx b.Ac a).bind fun f=>(idx c a).bind fun g=>(qlm n f g).bind fun d=>bif (!d) then V (.ret false) else qfH b c n (W64 (a+1)) else V (.nxt a)
def qdu(r1:(List Tplace)):Nat->(List Int)->Int->Option ((List Int)×Int)|0,_,_=>U|n+1,b,a=>bif decide (a<(r1.length:Int)) then(idx r1 a).bind fun c=>bif (!c.drives) then(idx b c.net).bind fun d=>(idx b c.net).bind fun _=>qdu r1 n (setS b c.net (W64 (d+1))) (W64 (a+1)) else qdu r1 n b (W64 (a+1)) else V (b,a)
def qeQ(n:Nat)(b:qd):Option Bool:=((qjN n (⟨b.Am.Ap⟩:qF) (⟨b.Aa.Ab,b.Aa.Ah,b.Aa.Ai⟩:qj)).bind fun a=>bif (!a) then V true else V ((b.Ac.length:Int) != (b.Aa.Ah.length:Int))).bind fun b1=>bif b1 then V false else(mkS (b.Ac.length:Int) (0:Int)).bind fun c=>(qcJ n (⟨b.Aa.Ab,b.Aa.Ah,b.Aa.Ai⟩:qj)).bind fun r1=>(qdu r1 n c 0).bind fun(d,_)=>(qfH b d n 0).bind fun|.ret r=>V r|.nxt _=>V true
theorem qgY{b:qd}(A:Ro w b cs1){r:Bool}(F:qeQ n b=V r):RetV prog 31 [gv b cs1] w r:=by
 obtain⟨p1,k1,p2,k2,p3,k3,p4,k4,p5,k5,rfl,s1,s2,s3,s4,s5⟩:=qB A;refine zV 63 func31 Z fun h=>zSR (qA h Z Z fun _ a h=>X0 4 Z ?_);obtain⟨y,i,_,F,g⟩:=bindE F;refine qau (fun e w'=>∃b1,y b1=V r/\e=[(1,vp a),(23,.bool b1)]/\SH w w' [oX a (qu b p1 p2 p3 p4 p5 k1 k2 k3 k4 k5) 34]) ?_ ?_
 .refine X2 5 0 0 h Z (zcB h F (qph (qks _ (h.oldS s1)) (qaO _ (h.oldS s2) (h.oldS s3) (h.oldS s4))) Z fun _ _ h F=>zp2 Z (qe (t:=14) F Z ?_ ?_))<;>intro F
  .refine X0 10 Z ?_;cases qb F;exact rG ⟨_,g,rfl,h⟩ Z
  refine X2 18 0 0 h Z ?_;cases qb F;exact rG ⟨_,g,rfl,h⟩ Z
 rintro _ _ ⟨b1,F,rfl,h⟩;subst i;refine qk Z F ?_ ?_<;>intro F
 .exact X0 4 Z (rb h F Z)
 refine X1 6 0 h Z ?_;obtain⟨c,d,F⟩:=qc F;obtain⟨g1,g2,d⟩:=qad d;refine qaz qa Int h z9 g1 g2 d Z fun _ S1 x h=>X1 7 1 h Z (zcL h F (qdz (qaO _ (h.oldS s2) (h.oldS s3) (h.oldS s4))) Z fun r1 _ S2 p7 k6 h F=>X0 3 Z ?_);obtain⟨o1,F,z⟩:=qc F;refine ql (rL (fun m e w'=>∃v Y,qdu r1 m v Y=V o1/\e=[(1,vp a),(3,oS x c.length c.length),(30,oS p7 r1.length k6),(31,vi (r1.length:Int)),(32,vi Y)]/\SH w w' [oW S2 (r1:List Tplace) [oS p7 r1.length k6],oW S1 (v:List Int) [oS x c.length c.length],oX a (qu b p1 p2 p3 p4 p5 k1 k2 k3 k4 k5) 34]) n ⟨_,_,F,rfl,h⟩ Z ?_);rintro m1 _ _ ⟨v,Y,F,rfl,h⟩;rcases m1 with _|m1
 .cases F
 refine X0 5 Z (qk Z F ?_ ?_)<;>intro F
 .refine zKSBSR ?_;obtain⟨_,_,F,k,_,_,_,_,K,O,S,B⟩:=(h.sl 0 Z).1.ix F;obtain rfl:=qeW S;refine zx K O ⟨k.1,qC k.2.1 (h.sl 0 Z).2⟩ Z (zc 0 B Z (qh qa h Z Z Z fun _ _ h=>zs 0 h Z fun _ h=>X1 7 0 h Z (qk Z F ?_ ?_)))<;>intro F
  .refine X1 4 0 h Z ?_;obtain⟨y2,_,F,l,_,_,_,_,L,P,rfl,C⟩:=(h.sl 2 Z).1.ix F;refine zx L P ⟨l.1,qC l.2.1 (h.sl 2 Z).2⟩ Z (zc 0 C Z (zp1 Z ?_));obtain⟨_,X,F,o,_,_,_,_,s,u,rfl,D⟩:=(h.sl 2 Z).1.ix F;refine zx s u ⟨o.1,qC o.2.1 (h.sl 2 Z).2⟩ Z (qav qa 2 0 (W64 (y2+1)) h Z X s u Z D Z Z Z Z Z Z Z fun _ h=>X0 6 Z ?_);have h:=h.p [1,2,3] Z;exact rK ⟨_,_,F,rfl,h⟩ Z
  refine X0 6 Z ?_;have h:=h.p [1,2,3] Z;exact rK ⟨_,_,F,rfl,h⟩ Z
 refine qt Z ?_;cases qb F;have F:=z;refine X1 8 2 h Z ?_;obtain⟨o2,F,f⟩:=qc F;refine ql ?_;have h:=h.p [1] Z;refine rL (fun m e w'=>∃i2,qfH b v m i2=V o2/\e=[(3,oS x c.length c.length),(48,oS p5 b.Ac.length k5),(49,vi (b.Ac.length:Int)),(50,vi i2)]/\SH w w' [oW S1 (v:List Int) [oS x c.length c.length]]) n ⟨_,F,rfl,h⟩ Z ?_;rintro m2 _ _ ⟨i2,F,rfl,h⟩;rcases m2 with _|m2
 .cases F
 refine X0 5 Z (qk Z F ?_ ?_)<;>intro F
 .refine X0 6 Z ?_;obtain⟨y4,_,F,J,_,_,_,_,M,Q,T,H⟩:=s5.ix F;obtain⟨_,_,_,_,_,_,_,_,rfl,s6,s7,s8,s9⟩:=qbU T;refine zxe M Q J Z (zc 0 (H.below h.below) Z (qh qa h Z Z Z fun _ _ h=>zp1 Z (zs 0 h Z fun _ h=>zNS (rD (Y1 1 0 h Z ?_)))));refine zd2 Z ?_;obtain⟨_,_,F,p,_,_,_,_,N,R,rfl,I⟩:=(h.sl 1 Z).1.ix F;refine zdx N R ⟨p.1,qC p.2.1 (h.sl 1 Z).2⟩ Z (zdc 0 I Z ?_);obtain⟨r2,W,F⟩:=qc F;refine qcn r2 (vsB _) (cB 86 Z) (fun _ hb=>qqV (qrm y4 ((h.ext hb).oldS s6) ((h.ext hb).oldS s7) ((h.ext hb).oldS s8) ((h.ext hb).oldS s9)) W) Z Z Z Z (zd1 Z (dN h fun _ h=>qk Z F ?_ ?_))<;>intro F
  .refine X0 4 Z ?_;cases qb F;exact rb h f Z
  refine X0 6 Z ?_;have h:=h.p [1] Z;exact rK ⟨_,F,rfl,h⟩ Z
 refine qt Z ?_;cases qb F;exact X0 4 Z (rb h f Z)
end Go.Fw
