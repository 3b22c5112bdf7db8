/-
 DERIVED: THE SHELF's CONTRACTS AT THIS DUMP, IN PLAIN WORDS (tools/lay-plain.mjs out of 'TryzSw.lean', which tools/lay-shelf.mjs wrote): THE SAME DECLARATIONS UNDER THE SAME NAMES: 'import', 'namespace', 'open', 'def', 'theorem' AND NOTHING ELSE: no command of the shelf's: FOR A HAND-IN. Each laying: the table of numbers ('.._ren') and one theorem, a field a fact of the dump's own or the kernel's comparison; each contract: ONE APPLICATION.
-/
import Derived.Shelf.SlGeneric
import Derived.Shelf.SlicesG.Reverse
import Derived.Shelf.SlSortCmp.NoneTotal
import Derived.Ground.SlsfProg
import Derived.Ground.SlgnProg
import Derived.Test.YtklmnhcgjnglhaaGreatDoorProg
import Derived.Test.YtklmnhcgjnglhaaGreatDoorB2
import Derived.Test.YtklmnhcgjnglhaaGreatDoorCX
open Option renaming bind_some->jd, some->V, none->U
open Bool renaming and_eq_true->je, eq_iff_iff->jp, not_eq_true'->jC, true->An, false->Cd, cond_true->Ci, cond_false->Cj
open Nat renaming le_refl->jf, lt_of_lt_of_le->jx, zero_le->jW, le_trans->Ja, not_lt_zero->Jm, add_zero->Jp
open List renaming length_append->jg, length_singleton->jh, getElem?_eq_getElem->jj, getElem_mem->jm, length_map->jo, mem_cons_of_mem->jr, mem_cons_self->ju, append_assoc->jv, take_succ_eq_append_getElem->jw, length_take->jy, getD_eq_getElem?_getD->jz, getElem?_append_left->jA, mem_of_getElem?->jB, getElem?_append_right->jD, drop_eq_getElem_cons->jF, take_length->jH, length_replicate->jJ, mem_append_left->jM, all_eq_true->jR, mem_append_right->jX, map_append->jY, append_nil->Jb, getElem?_drop->Je, map_cons->Jj, getElem_take->Jl, length_cons->Jn
open Int renaming toNat_natCast->jq, le_refl->jL, mul_nonneg->jS, mul_le_mul->Jf, le_trans->Jh
open Go.Fw.Ev renaming bind->Ck, succ->Cm, ff->Cp, tt->Cq, now->Cx, bindN->Cy
open Go.Fw.PV renaming done->Cr
open Go.Fw.mt renaming get->Cs
open Go.Fw.SH renaming unfr->Cv

namespace Go.Proofs
open Go.Shelf
def Tryz.laysR_ren:Go.Shelf.Ren:=⟨λ|35=>56|n=>n,λ|22=>37|23=>2|3=>3|4=>4|0=>0|n=>n,λ|n=>n⟩
theorem Tryz.laysR:Go.Proofs.SlLaysN.n35 Tryz.prog Tryz.laysR_ren:={
 mixed:=by kernel_rfl
 f35:=⟨Tryz.f56.name,by decide,Tryz.func56.trans (congrArg some (by kernel_rfl))⟩
 t0:=Tryz.underlying0
 a0:=Tryz.isAgg0
 z0:=Tryz.sizeOf0
 v0:=Tryz.zeroValue0
 t3:=Tryz.underlying3
 a3:=Tryz.isAgg3
 z3:=Tryz.sizeOf3
 v3:=Tryz.zeroValue3
 t4:=Tryz.underlying4
 a4:=Tryz.isAgg4
 z4:=Tryz.sizeOf4
 v4:=Tryz.zeroValue4
 t22:=Tryz.underlying37
 a22:=Tryz.isAgg37
 z22:=Tryz.sizeOf37
 v22:=Tryz.zeroValue37
 t23:=Tryz.underlying2
 a23:=Tryz.isAgg2
 z23:=Tryz.sizeOf2
 v23:=Tryz.zeroValue2 }
def Tryz.laysS_ren:Go.Shelf.Ren:=⟨λ|6=>58|15=>102|14=>101|28=>162|29=>163|20=>154|21=>155|22=>156|23=>157|24=>158|25=>159|26=>160|27=>161|46=>208|47=>209|48=>210|49=>211|50=>212|57=>249|n=>n,λ|22=>43|24=>56|25=>140|3=>3|39=>191|0=>0|53=>242|55=>244|4=>4|46=>235|45=>234|50=>239|5=>5|9=>9|66=>282|70=>286|76=>318|77=>319|n=>n,λ|n=>n⟩
theorem Tryz.laysS:Go.Proofs.SlLaysF0.n6 Tryz.prog Tryz.laysS_ren:={
 mixed:=by kernel_rfl
 f6:=⟨Tryz.f58.name,by decide,Tryz.func58.trans (congrArg some (by kernel_rfl))⟩
 f14:=⟨Tryz.f101.name,by decide,Tryz.func101.trans (congrArg some (by kernel_rfl))⟩
 f15:=Tryz.func102.trans (congrArg some (by kernel_rfl))
 f20:=⟨Tryz.f154.name,by decide,Tryz.func154.trans (congrArg some (by kernel_rfl))⟩
 f21:=⟨Tryz.f155.name,by decide,Tryz.func155.trans (congrArg some (by kernel_rfl))⟩
 f22:=⟨Tryz.f156.name,by decide,Tryz.func156.trans (congrArg some (by kernel_rfl))⟩
 f23:=⟨Tryz.f157.name,by decide,Tryz.func157.trans (congrArg some (by kernel_rfl))⟩
 f24:=⟨Tryz.f158.name,by decide,Tryz.func158.trans (congrArg some (by kernel_rfl))⟩
 f25:=⟨Tryz.f159.name,by decide,Tryz.func159.trans (congrArg some (by kernel_rfl))⟩
 f26:=⟨Tryz.f160.name,by decide,Tryz.func160.trans (congrArg some (by kernel_rfl))⟩
 f27:=⟨Tryz.f161.name,by decide,Tryz.func161.trans (congrArg some (by kernel_rfl))⟩
 f28:=Tryz.func162.trans (congrArg some (by kernel_rfl))
 f29:=Tryz.func163.trans (congrArg some (by kernel_rfl))
 f46:=⟨Tryz.f208.name,by decide,Tryz.func208.trans (congrArg some (by kernel_rfl))⟩
 f47:=Tryz.func209.trans (congrArg some (by kernel_rfl))
 f48:=Tryz.func210.trans (congrArg some (by kernel_rfl))
 f49:=⟨Tryz.f211.name,by decide,Tryz.func211.trans (congrArg some (by kernel_rfl))⟩
 f50:=⟨Tryz.f212.name,by decide,Tryz.func212.trans (congrArg some (by kernel_rfl))⟩
 f57:=⟨Tryz.f249.name,by decide,Tryz.func249.trans (congrArg some (by kernel_rfl))⟩
 t0:=Tryz.underlying0
 a0:=Tryz.isAgg0
 z0:=Tryz.sizeOf0
 v0:=Tryz.zeroValue0
 t3:=Tryz.underlying3
 a3:=Tryz.isAgg3
 z3:=Tryz.sizeOf3
 v3:=Tryz.zeroValue3
 t4:=Tryz.underlying4
 a4:=Tryz.isAgg4
 z4:=Tryz.sizeOf4
 v4:=Tryz.zeroValue4
 t5:=Tryz.underlying5
 a5:=Tryz.isAgg5
 z5:=Tryz.sizeOf5
 v5:=Tryz.zeroValue5
 t9:=Tryz.underlying9
 a9:=Tryz.isAgg9
 z9:=Tryz.sizeOf9
 v9:=Tryz.zeroValue9
 t22:=Tryz.underlying43
 a22:=Tryz.isAgg43
 z22:=Tryz.sizeOf43
 v22:=Tryz.zeroValue43
 t25:=Tryz.underlying140
 a25:=Tryz.isAgg140
 z25:=Tryz.sizeOf140
 v25:=Tryz.zeroValue140
 t39:=Tryz.underlying191
 a39:=Tryz.isAgg191
 z39:=Tryz.sizeOf191
 v39:=Tryz.zeroValue191
 t45:=Tryz.underlying234
 a45:=Tryz.isAgg234
 z45:=Tryz.sizeOf234
 v45:=Tryz.zeroValue234
 t46:=Tryz.underlying235
 a46:=Tryz.isAgg235
 z46:=Tryz.sizeOf235
 v46:=Tryz.zeroValue235
 t50:=Tryz.underlying239
 a50:=Tryz.isAgg239
 z50:=Tryz.sizeOf239
 v50:=Tryz.zeroValue239
 t53:=Tryz.underlying242
 a53:=Tryz.isAgg242
 z53:=Tryz.sizeOf242
 v53:=Tryz.zeroValue242
 t55:=Tryz.underlying244
 a55:=Tryz.isAgg244
 z55:=Tryz.sizeOf244
 v55:=Tryz.zeroValue244
 t66:=Tryz.underlying282
 a66:=Tryz.isAgg282
 z66:=Tryz.sizeOf282
 v66:=Tryz.zeroValue282
 t70:=Tryz.underlying286
 a70:=Tryz.isAgg286
 z70:=Tryz.sizeOf286
 v70:=Tryz.zeroValue286
 t76:=Tryz.underlying318
 a76:=Tryz.isAgg318
 z76:=Tryz.sizeOf318
 v76:=Tryz.zeroValue318
 t77:=Tryz.underlying319
 a77:=Tryz.isAgg319
 z77:=Tryz.sizeOf319
 v77:=Tryz.zeroValue319 }
open Go.RowKit Go.Sort in
theorem Tryz.slices_Reverse(blk cQ cap:Nat) (zs:List Int) (w:World) (hH:Holds (Value.int .i64) w blk cQ zs.toArray) (hsz:zs.length<=9223372036854775807) :
  Calls Tryz.prog 56 #[.slice (some ⟨blk,cQ,none⟩) zs.length cap] w λe w'=>e=.returned (.tuple #[])/\∃n,w'=putRow (Value.int .i64) (Sort.ahead w n) blk cQ zs.reverse.toArray:=AnyG.slices_Reverse_int Tryz.laysR blk cQ cap zs w hH hsz
open Go.RowKit Go.Sort in
theorem Tryz.slices_Reverse_none(p:Option Addr) (cap:Nat) (w:World) :
  Calls Tryz.prog 56 #[.slice p 0 cap] w λe w'=>e=.returned (.tuple #[])/\w'=w:=AnyG.slices_Reverse_int_empty Tryz.laysR p cap w
open Go.RowKit Go.Sort in
theorem Tryz.slices_SortFunc(enc:Nat->List Value) (hk:∀x,(enc x).length=3) (h1:∀x,∀v∈enc x,v.oneCell'=true) (cf:Nat->Nat->Int) (hO:SWO (ltOf cf)) (cb:Array Value) (blk cQ cap:Nat) (d:Array Nat) (w:World) (hcmp:CmpLays Tryz.prog 59 cb enc 3 cf blk cQ d.size w) (hH:HoldsK enc 3 w blk cQ d) (hblk:blk<w.heap.size) (hsz:d.size<4611686018427387904) :
  Calls Tryz.prog 58 #[.slice (some ⟨blk,cQ,none⟩) d.size cap,.func (.func 59) #[] cb] w λe w'=>
   e=.returned (.tuple #[])/\∃d' n os,PermIn 0 d.size d d'/\SortedIn (ltOf cf) 0 d.size d'/\w'=sortWorldK enc 3 w blk cQ n d' os:=AnyQ.slices_SortFunc Tryz.laysS 3 Tryz.isAgg56 Tryz.sizeOf56 enc hk h1 cf hO 59 cb blk cQ cap d w (enters_of Tryz.func59 (by kernel_rfl) rfl) hcmp hH hblk hsz
open Go.RowKit Go.Sort in
theorem Tryz.slices_SortFunc_none(p:Option Addr) (cap:Nat) (fv:Value) (w:World) :
  Calls Tryz.prog 58 #[.slice p 0 cap,fv] w λe w'=>e=.returned (.tuple #[])/\w'=w:=AnyF.slices_SortFunc_none Tryz.laysS p cap fv w
end Go.Proofs


namespace Go.Fw
open Go Go.Proofs Go.Sort
open Go.RowKit (Below)
set_option maxRecDepth 100000
theorem Tryz.slices_Reverse_at:OJ Tryz.prog 56:=
 ⟨λa cQ cap zs w b c=>Go.Proofs.Tryz.slices_Reverse a cQ cap zs w b c,λp cap w=>Go.Proofs.Tryz.slices_Reverse_none p cap w⟩
theorem Tryz.slices_SortFunc_at:H0 Tryz.prog 58 59 (qm.k qw):=
 ⟨λenc m h f k c b cQ cap d w a i l n=>Go.Proofs.Tryz.slices_SortFunc enc m h f k c b cQ cap d w a i l n,λp cap g w=>Go.Proofs.Tryz.slices_SortFunc_none p cap g w⟩
structure FK{α:Type}(c:α->α->Int):Prop where
 anti:∀x y,c y x=-(c x y)
 eq:∀x y z,c x y=0->c x z=c y z
 tr:∀x y z,c x y<0->c y z<0->c x z<0
theorem FK.swo{α:Type}{c:α->α->Int}(h:FK c):SWO λx y=>decide (c x y<0) where
 irrefl x:=by
  have:=h.anti x x;exact decide_eq_false (by omega)
 trans x y z a b:=decide_eq_true (h.tr x y z (of_decide_eq_true a) (of_decide_eq_true b))
 ntrans x y z a b:=by
  have a:=of_decide_eq_false a;have b:=of_decide_eq_false b;refine decide_eq_false ?_;have a1:=h.anti x y;have a2:=h.anti y z;have f:=h.anti x z;by_cases e1:c x y=0
  .have:=h.eq x y z e1;omega
  .by_cases d:c y z=0
   .have:=h.eq y z x d;omega
   .have:=h.tr z y x (by omega) (by omega);omega
theorem FK.comap{α β:Type}{c:β->β->Int}(h:FK c)(f:α->β):FK λx y=>c (f x) (f y):=⟨λ_ _=>h.anti _ _,λ_ _ _=>h.eq _ _ _,λ_ _ _=>h.tr _ _ _⟩
theorem FK.flip{α:Type}{c:α->α->Int}(h:FK c):FK λx y=>c y x:=
 ⟨λx y=>h.anti y x,λx y z e=>by
  have a1:=h.anti y x;have a2:=h.anti x z;have d:=h.anti y z;have:=h.eq x y z (by omega);show c z x=c z y;omega,λx y z a b=>h.tr z y x b a⟩
def UU{α:Type}(c d:α->α->Int)(x y:α):Int:=if c x y=0 then d x y else c x y
theorem FK.lex{α:Type}{c d:α->α->Int}(h:FK c)(k:FK d):FK (UU c d) where
 anti x y:=by
  have a:=h.anti x y;have b:=k.anti x y;unfold UU;by_cases e:c x y=0
  .rw[if_pos e,if_pos (by omega)];exact b
  .rw[if_neg e,if_neg (by omega)];exact a
 eq x y z e:=by
  unfold UU at e⊢;by_cases e1:c x y=0
  .rw[if_pos e1] at e;rw[h.eq x y z e1,k.eq x y z e]
  .rw[if_neg e1] at e;exact absurd e e1
 tr x y z h1 h2:=by
  unfold UU at h1 h2⊢;have a1:=h.anti x y;have a2:=h.anti y z;have i:=h.anti x z;by_cases e1:c x y=0
  .rw[if_pos e1] at h1;have l:=h.eq x y z e1;by_cases f:c y z=0
   .rw[if_pos f] at h2;rw[if_pos (by omega)];exact k.tr x y z h1 h2
   .rw[if_neg f] at h2;rw[if_neg (by omega)];omega
  .rw[if_neg e1] at h1;by_cases f:c y z=0
   .rw[if_pos f] at h2;have m:=h.eq y z x f;rw[if_neg (by omega)];omega
   .rw[if_neg f] at h2;have g:=h.tr x y z h1 h2;rw[if_neg (by omega)];exact g
def wY(x y:Int):Int:=if x<y then -1 else if y<x then 1 else 0
theorem yZ:FK wY where
 anti x y:=by unfold wY;(repeat' split)<;>omega
 eq x y z:=by unfold wY;(repeat' split)<;>omega
 tr x y z:=by unfold wY;(repeat' split)<;>omega
theorem VB{x y:Int}(h:wY x y=0):x=y:=by unfold wY at h;(repeat' split at h)<;>omega
def pF:List Int->List Int->Int
 | [],[]=>0
 | [],_::_=>-1
 |_::_,[]=>1
 |x::xs,y::ys=>if wY x y=0 then pF xs ys else wY x y
theorem OP:∀xs ys,pF ys xs=-(pF xs ys)
 | [],[]=>rfl
 | [],_::_=>rfl
 |_::_,[]=>rfl
 |x::xs,y::ys=>by
  have a:=yZ.anti x y;have b:=OP xs ys;simp only[pF];by_cases e:wY x y=0
  .rw[if_pos e,if_pos (by omega)];exact b
  .rw[if_neg e,if_neg (by omega)];exact a
theorem UJ:∀xs ys,pF xs ys=0->xs=ys
 | [],[],_=>rfl
 | [],_::_,h=>by simp[pF] at h
 |_::_,[],h=>by simp[pF] at h
 |x::xs,y::ys,h=>by
  simp only[pF] at h;by_cases e:wY x y=0
  .rw[if_pos e] at h;rw[VB e,UJ xs ys h]
  .rw[if_neg e] at h;exact absurd h e
theorem WZ:∀xs ys zs,pF xs ys<0->pF ys zs<0->pF xs zs<0
 | [],[],_,h,_=>by simp[pF] at h
 |_::_,[],_,h,_=>by simp[pF] at h
 |_,_::_,[],_,h=>by simp[pF] at h
 | [],_::_,_::_,_,_=>by simp[pF]
 |x::xs,y::ys,z::zs,h1,h2=>by
  simp only[pF] at h1 h2⊢;have a1:=yZ.anti x y;have a2:=yZ.anti y z;have c:=yZ.anti x z;by_cases e1:wY x y=0
  .rw[if_pos e1] at h1;have d:=yZ.eq x y z e1;by_cases a:wY y z=0
   .rw[if_pos a] at h2;rw[if_pos (by omega)];exact WZ xs ys zs h1 h2
   .rw[if_neg a] at h2;rw[if_neg (by omega)];omega
  .rw[if_neg e1] at h1;by_cases a:wY y z=0
   .rw[if_pos a] at h2;have f:=yZ.eq y z x a;rw[if_neg (by omega)];omega
   .rw[if_neg a] at h2;have b:=yZ.tr x y z h1 h2;rw[if_neg (by omega)];exact b
theorem qbG:FK pF:=⟨OP,λx y z h=>by rw[UJ x y h],WZ⟩
def PS(mode:Int)(p q:qw):Int:=if mode=1 then wY q.Af p.Af else wY p.Af q.Af
def za(mode:Int):qw->qw->Int:=UU (PS mode) (UU (λp q=>wY p.Bn q.Bn) λp q=>pF p.Bk q.Bk)
theorem qdE(mode:Int):FK (PS mode):=by
 unfold PS;by_cases h:mode=1
 .simp only[h,if_true];exact(yZ.comap qw.Af).flip
 .simp only[h,if_false];exact yZ.comap qw.Af
theorem E3(mode:Int):FK (za mode):=(qdE mode).lex ((yZ.comap qw.Bn).lex (qbG.comap qw.Bk))
theorem qdF{mode:Int}{p q:qw}(h:za mode p q=0):p=q:=by
 unfold za UU at h;by_cases e1:PS mode p q=0
 .rw[if_pos e1] at h;by_cases a:wY p.Bn q.Bn=0
  .rw[if_pos a] at h;have b:p.Af=q.Af:=by
    unfold PS at e1;split at e1
    .exact(VB e1).symm
    .exact VB e1
   have c:=VB a;have d:=UJ _ _ h;cases p;cases q;simp only at b c d;subst b;subst c;subst d
   rfl
  .rw[if_neg a] at h;exact absurd h a
 .rw[if_neg e1] at h;exact absurd h e1
def MR(n:Nat)(xs:List qw)(mode:Int):Option (List qw):=
 if xs.length<=2147483648/\∀p,p∈(qm.zero:qw)::xs->∀q,q∈(qm.zero:qw)::xs->iD n p q mode=V (za mode p q) then V (xs.mergeSort (NG (za mode))) else U
theorem F8{n:Nat}{xs y:List qw}{mode:Int}(h:MR n xs mode=V y) :
  (xs.length<=2147483648/\∀p,p∈(qm.zero:qw)::xs->∀q,q∈(qm.zero:qw)::xs->iD n p q mode=V (za mode p q))/\xs.mergeSort (NG (za mode))=y:=by
 unfold MR at h;split at h
 .rename_i hc;exact⟨hc,Option.some.inj h⟩
 .cases h
theorem MS{n:Nat}{u w:World}{L:List Ch}{S:Nat->Prop}{X y:List qw}{mode:Int}{p:Option Addr}{k c:Nat}(i:Nat)(h:SH u w L)(hi:L[i]?=V (Ch.own S X [.slice p k c]))(M:MR n X mode=V y) :
  A4 Tryz.prog 28 [.slice p k c,.int .i64 mode] w λw'=>∃S',SH u w' (L.set i (Ch.own S' y [.slice p k c])):=by
 obtain⟨⟨K,F⟩,rfl⟩:=F8 M;refine EA Tryz.func28 Z (m:=7) Z Z ?_;refine aD ?_;refine ah ?_;refine qK h Z Z ?_;intro w1 a g;refine ae ?_;refine ah ?_;refine mA qa Z Z ?_;refine mA qa Z Z ?_;have f:=g.mem (i:=0) Z;have o:w1.heap[a]?=V (.cells [Value.int .i64 mode].toArray 2 (0,0)):=f.1;have d:a<w1.heap.size:=(f.2 a Z).2;have r:¬ S a:=by
  have l:=(List.pairwise_cons.1 g.apart).1 _ (jB hi) a Z;exact l
 refine xc (cB 58 Z) (qcB (α:=qw) Tryz.slices_SortFunc_at Z (i+1) g hi [.pointer (V ⟨a,0,U⟩)] (za mode) (E3 mode).swo ?_ K ?_) Z Z Z Z ?_
 .intro x y _ _ g A;have:=(E3 mode).anti x y;exact qdF (mode:=mode) (by omega)
 .intro z t b x y B C N O Q R;have s:qm.R z (old z) (V mode) [.pointer (V ⟨a,0,U⟩)]:=
   ⟨a,0,_,_,_,[.int .i64 mode],Z,jx d t,by rw[b a d r];exact o,rI mode,λj v I=>by simpa using I⟩
  refine(DI Q R s (F x N y O)).mono ?_;rintro e w' ⟨T,rfl,rfl,D,H⟩;exact⟨Z,D,H⟩
 .intro z A;refine ae ?_;exact E6 (P:=Tryz.prog) qa (J:=λw'=>∃S',SH u w' (L.set i (Ch.own S' (X.mergeSort (NG (za mode))) [.slice p k c]))) ⟨S,A.tail⟩ trivial
end Go.Fw


namespace Go.Fw
open Go Go.Proofs Go.Proofs.Tryz
open Go.RowKit (Below)
open Ch renaming own->oW,box->oX,grp->oG
open qm renaming v->oV
open Go.Value renaming slice->oS
set_option maxRecDepth 100000
set_option maxHeartbeats 6400000
variable{n:Nat}{w:World}{cs1 cs2 cs3 cs4 cs5 cs6 cs7 cs8 cs9:List Value}
def gL(f:Option qT)(node:Int):Nat->Int->Option (eE (ql×Bool) Int)|0,_=>U|n+1,a=>(f).bind λb=>bif decide (a<(b.j.Am.length:Int)) then(qG b.j.Am a).bind λc=>bif (c.Bo==node) then(qG b.j.Am a).bind λd=>V (.ret (d,An)) else gL f node n (qj (a+1)) else V (.nxt a)
def uV(n:Nat)(a:Option qT)(node:Int):Option (ql×Bool):=(gL a node n 0).bind λ|.ret r=>V r|.nxt _=>V ((⟨0,(⟨0,0⟩:qg),(⟨0,0⟩:qg)⟩:ql),Cd)
theorem KC{D:Option qT}{node}(d:Ro w D cs1){r:ql×Bool}(F:uV n D node=V r):qN prog 66 [gv D cs1,vi node] w r:=by
 obtain⟨p1,rfl,s1⟩:=aJ d;refine zV 37 func66 Z λh=>db (qi qa h Z Z Z λ_ b h=>X0 7 Z ?_);obtain⟨o1,F,c⟩:=qc F;refine qq (rL (λm e w'=>∃y,gL D node m y=V o1/\e=[(0,.pointer p1),(1,vi node),(4,vp b),(6,vi y)]/\SH w w' [oX b V4 122]) n ⟨_,F,Z,h⟩ Z ?_);rintro z _ _ ⟨y,F,rfl,h⟩;rcases z with _|z
 .cases F
 refine X0 5 Z ?_;obtain⟨_,x,F⟩:=qc F;obtain⟨_,C,_,rfl,-,t,a⟩:=Cs s1 x;obtain⟨_,_,_,_,_,_,_,_,_,_,_,_,_,_,_,_,_,_,_,_,_,_,_,_,rfl,_,_,_,_,_,_,A,_,_,_,_,_⟩:=GM t;refine CK Z (bL 11 a h Z (X0 3 Z (qn Z F ?_ ?_)))<;>intro F
 .refine X0 9 Z (bL 11 a h Z (cr Z ?_));obtain⟨_,_,F,i,_,_,_,_,l,p,u,f⟩:=A.ix F;obtain rfl:=au u;refine ft l p i Z (cr Z (bL 0 f h Z (X0 3 Z (qn Z F ?_ ?_))))<;>intro F
  .refine X0 6 Z (bL 11 a h Z (cr Z ?_));obtain⟨B,_,F,k,_,_,_,_,o,s,v,g⟩:=A.ix F;obtain rfl:=au v;refine ft o s k Z (bL 0 g h Z (zs 0 h Z λ_ h=>X0 2 Z ?_));cases qe F;have F:=c;cases qe F;exact aC qa (ρ:=(ql×Bool)) [oV ql (nU B),oV Bool [.bool An]] h ⟨⟨_,_,_,Z,Z,h.box 0 Z,Z⟩,Z,G⟩ (Cr h (aj h (mo (S:=λ_=>False) (dE B)) ve (by rfl)))
  exact X0 7 Z (rK ⟨_,F,Z,h⟩ Z)
 refine qy Z ?_;cases qe F;have F:=c;refine db (dF (qB qa [] [] z8) Z (zs 0 h Z λ_ h=>X0 2 Z ?_));cases qe F;exact aC qa (ρ:=(ql×Bool)) [oV ql V4,oV Bool [.bool Cd]] h ⟨⟨_,_,_,Z,Z,h.box 0 Z,Z⟩,Z,G⟩ (Cr h (aj h (mo (S:=λ_=>False) (dE (⟨0,(⟨0,0⟩:qg),(⟨0,0⟩:qg)⟩:ql))) ve (by rfl)))
def fJ(b:qT)(d:List Int)(f:Int):Nat->Int->Int->Option (Int×Int)|0,_,_=>U|n+1,c,a=>bif decide (a<(b.links.length:Int)) then((qG b.live a).bind λi=>bif i then(qG b.links a).bind λk=>V (k.To==f) else V Cd).bind λb3=>bif b3 then(qG b.links a).bind λh=>(qG d h.Bm).bind λg=>fJ b d f n (if (qj (c+g))<1000000 then(qj (c+g)) else 1000000) (qj (a+1)) else fJ b d f n c (qj (a+1)) else V (c,a)
def kG(Ce:Option qT)(f:qT)(d:List Int):Nat->(List Int)->Int->Option ((List Int)×Int)|0,_,_=>U|n+1,b,a=>bif decide (a<(d.length:Int)) then(qG d a).bind λc=>(uV n Ce c).bind λ(_,i)=>(bif i then V 1 else V 0).bind λg=>(fJ f b c n g 0).bind λ(h,_)=>(qG b c).bind λ_=>kG Ce f d n (am b c h) (qj (a+1)) else V (b,a)
def oA(n:Nat)(Ce:Option qT):Option (List Int):=(Ce).bind λa=>(bV n (⟨(⟨a.j.Ac.Aq.As⟩:qD),(⟨a.j.Ac.Aa.Ab,a.j.Ac.Aa.Ap,a.j.Ac.Aa.Ai⟩:qk),a.j.Ac.Ah⟩:qf)).bind λr1=>(yW r1 (0:Int)).bind λx1=>(bV n (⟨(⟨a.j.Ac.Aq.As⟩:qD),(⟨a.j.Ac.Aa.Ab,a.j.Ac.Aa.Ap,a.j.Ac.Aa.Ai⟩:qk),a.j.Ac.Ah⟩:qf)).bind λb=>(pz n b a.links a.live).bind λ(c,_)=>(kG Ce a c n x1 0).bind λ(d,_)=>V d
theorem yL{Ce:Option qT}(T:Ro w Ce cs1){r:List Int}(F:oA n Ce=V r):qN prog 33 [gv Ce cs1] w r:=by
 obtain⟨_,rfl,s1⟩:=aJ T;refine zV 101 func33 Z λh=>X0 7 Z ?_;obtain⟨y1,d1,F⟩:=qc F;obtain⟨b1,g,_,rfl,-,c3,a⟩:=Cs s1 d1;obtain⟨_,_,_,_,_,_,_,_,_,_,_,_,_,_,_,_,_,_,_,_,_,_,_,_,rfl,s2,s3,s4,s5,s6,_,_,s9,L,_,_,_⟩:=GM c3;refine CK Z (bL 0 a h Z (mR h F (dY (tK _ (h.oldS s2) (h.oldS s3) (h.oldS s4) (h.oldS s5) (h.oldS s6))) Z λ_ _ h F=>?_));obtain⟨x1,i,F⟩:=qc F;obtain⟨g1,g2,i⟩:=aT i;refine bC qa Int h z9 g1 g2 i Z λ_ S1 c h=>X0 3 Z (rA [] [] h Z λ_ h=>M0 15 [0,1,2,3] (h.p [] Z) Z (Al 4 31 0 a (h.p [] Z) Z (M0 479 [6,7,8] (h.p [] Z) Z (Al 9 991 12 a (h.p [] Z) Z (M0 8159 [10,11,12] (h.p [] Z) Z (Al 13 16351 13 a (h.p [] Z) Z (Ao 5 16383 Z (mR h F (dY (tK _ (h.oldS s2) (h.oldS s3) (h.oldS s4) (h.oldS s5) (h.oldS s6))) Z λ_ _ h F=>Ag (h.p [] Z) (Ao 14 32767 Z ?_)))))))));obtain⟨⟨f,r5⟩,c4,F⟩:=qc F;refine bB (f,r5) h (cB 65 Z) (zX ⟨_,_,Z,(h.oldS s9)⟩ ⟨_,_,Z,(h.oldS L)⟩ c4) Z Z Z Z λ_ _ _ c8 c5=>?_;obtain⟨M,_,d,b,_,rfl,c9,c6⟩:=c8.consL c5;obtain⟨rfl,h⟩:=c9.lastB c6;refine G0 1048575 [15,16,17,18,19] (h.p [] Z) Z (Ad (X0 5 Z ?_));obtain⟨o1,F,R⟩:=qc F;refine qq (rL (λm e w'=>∃k l,kG Ce y1 f m k l=V o1/\e=[(0,.pointer (V ⟨b1,g,U⟩)),(3,oS c x1.length x1.length),(4,oL d f b),(6,vi l)]/\SH w w' [oW M (f:List Int) [oL d f b],oW S1 (k:List Int) [oS c x1.length x1.length]]) n ⟨_,_,F,Z,h⟩ Z ?_);rintro m1 _ _ ⟨k,l,F,rfl,h⟩;rcases m1 with _|m1
 .cases F
 refine X0 8 Z (qn Z F ?_ ?_)<;>intro F
 .refine X0 7 Z ?_;obtain⟨O,_,F,x,_,_,_,_,a8,b7,rfl,W⟩:=(h.sl 0 Z).1.ix F;refine zx a8 b7 ⟨x.1,qE x.2.1 (h.sl 0 Z).2⟩ Z (zc 0 W Z (X0 10 Z ?_));obtain⟨⟨r7,r8⟩,c7,F⟩:=qc F;refine bB (r7,r8) h (cB 66 Z) (KC (h.old s1) c7) Z Z Z Z λ_ _ _ d0 C=>?_;obtain⟨_,_,_,_,rfl,J,D⟩:=d0.cons C;obtain rfl:=au (J.sh.own 0 Z);obtain⟨rfl,h⟩:=J.lastB D;refine CK Z (qi qa h Z Z Z λ_ _ h=>zs 0 h Z λ_ h=>X0 7 Z ?_);obtain⟨Q,u,_,F,p⟩:=bindE F;refine bw (λe w'=>∃i2,Q i2=V o1/\e=[(0,.pointer (V ⟨b1,g,U⟩)),(3,oS c x1.length x1.length),(4,oL d f b),(6,vi l),(7,vi O),(8,vi i2)]/\SH w w' [oW M (f:List Int) [oL d f b],oW S1 (k:List Int) [oS c x1.length x1.length]]) ?_ ?_
  .refine qn Z F ?_ ?_<;>intro F
   .refine X0 3 Z ?_;have h:=h.p [2,3] Z;exact rH F p h Z
   refine eZ ?_;have h:=h.p [2,3] Z;exact rH F p h Z
  rintro _ _ ⟨i2,F,rfl,h⟩;subst u;refine X0 5 Z ?_;obtain⟨o2,F,S⟩:=qc F;refine qq (rL (λm e w'=>∃K N,fJ y1 k O m K N=V o2/\e=[(0,.pointer (V ⟨b1,g,U⟩)),(3,oS c x1.length x1.length),(4,oL d f b),(6,vi l),(7,vi O),(8,vi K),(11,vi N)]/\SH w w' [oW M (f:List Int) [oL d f b],oW S1 (k:List Int) [oS c x1.length x1.length]]) m1 ⟨_,_,F,Z,h⟩ Z ?_);rintro m2 _ _ ⟨K,N,F,rfl,h⟩;rcases m2 with _|m2
  .cases F
  refine X0 7 Z (bL 12 a h Z (X0 3 Z (qn Z F ?_ ?_)))<;>intro F
  .refine X0 4 Z ?_;obtain⟨P,s,_,F,o⟩:=bindE F;refine bw (λe w'=>∃b3,P b3=V o2/\e=[(0,.pointer (V ⟨b1,g,U⟩)),(3,oS c x1.length x1.length),(4,oL d f b),(6,vi l),(7,vi O),(8,vi K),(11,vi N),(81,.bool b3)]/\SH w w' [oW M (f:List Int) [oL d f b],oW S1 (k:List Int) [oS c x1.length x1.length]]) ?_ ?_
   .refine X0 4 Z (bL 13 a h Z (cr Z ?_));obtain⟨_,_,F,a6,_,_,_,_,b5,c0,rfl,a3⟩:=L.ix F;refine ft b5 c0 a6 Z (bL 0 a3 h Z (cr Z (qh (t:=70) F Z ?_ ?_)))<;>intro F
    .refine X0 7 Z (bL 12 a h Z (X0 3 Z ?_));obtain⟨_,_,F,a7,_,_,_,_,b6,c2,I,a4⟩:=s9.ix F;obtain rfl:=aB I;refine ft b6 c2 a7 Z (X0 3 Z (bL 1 a4 h Z (X0 6 Z ?_)));exact rH F o h Z
    refine X0 12 Z ?_;exact rH F o h Z
   rintro _ _ ⟨b3,F,rfl,h⟩;subst s;refine qn Z F ?_ ?_<;>intro F
   .refine X0 6 Z (bL 12 a h Z (cr Z ?_));obtain⟨_,_,F,a5,_,_,_,_,a9,b8,H,X⟩:=s9.ix F;obtain rfl:=aB H;refine ft a9 b8 a5 Z (cr Z (bL 0 X h Z ?_));obtain⟨_,_,F,y,_,_,_,_,b4,b9,rfl,Y⟩:=(h.sl 1 Z).1.ix F;exact zx b4 b9 ⟨y.1,qE y.2.1 (h.sl 1 Z).2⟩ Z (zc 0 Y Z (X0 10 Z (rK ⟨_,_,F,Z,h⟩ Z)))
   exact X0 7 Z (rK ⟨_,_,F,Z,h⟩ Z)
  refine qy Z ?_;cases qe F;have F:=S;refine X0 4 Z ?_;obtain⟨_,d3,F,z,_,_,_,_,A,B,rfl,v⟩:=(h.sl 1 Z).1.ix F;exact zx A B ⟨z.1,qE z.2.1 (h.sl 1 Z).2⟩ Z (bM qa 1 0 K h Z d3 A B Z v Z Z Z Z Z Z Z λ_ h=>X0 7 Z (rK ⟨_,_,F,Z,h⟩ Z))
 refine qy Z ?_;cases qe F;have F:=R;refine X0 5 Z ?_;cases qe F;exact rO 1 h Z ⟨Z,G⟩
def dJ(f:aX)(c:Int)(d:List Int):Nat->(List Int)->Int->Option ((List Int)×Int)|0,_,_=>U|n+1,a,b=>bif decide (b<(d.length:Int)) then(qG d b).bind λi=>(qG a c).bind λg=>(f.view).bind λk=>(qG k.links i).bind λl=>(qG a l.Bm).bind λh=>(qG a c).bind λ_=>dJ f c d n (am a c (if 1000000<(qj (g+h)) then 1000000 else(qj (g+h)))) (qj (b+1)) else V (a,b)
def fg(c:aS)(g:aX):Nat->(List Int)->Int->Option ((List Int)×Int)|0,_,_=>U|n+1,b,d=>bif decide (d<(c.order.length:Int)) then(qG c.order d).bind λa=>(dX n c.job.Am a).bind λ(_,h)=>(bif h then(qG b a).bind λf=>(qG b a).bind λ_=>V (am b a (qj (f+1))) else V b).bind λk=>(pr n c.graph a).bind λi=>(dJ g a i n k 0).bind λ(l,_)=>fg c g n l (qj (d+1)) else V (b,d)
def gN(n:Nat)(Ce:Option aS)(Cf:Int):Option Int:=(Ce).bind λb=>(b.graph).bind λc=>(fc n c.view).bind λr1=>(yW r1 (0:Int)).bind λx1=>(fg b c n x1 0).bind λ(d,_)=>(qG d Cf).bind λa=>V a
theorem uy{Ce:Option aS}{Cf}(a6:Ro w Ce cs1){r:Int}(F:gN n Ce Cf=V r):qN prog 24 [gv Ce cs1,vi Cf] w r:=by
 obtain⟨_,rfl,s1⟩:=aJ a6;refine zV 90 func24 Z λh=>X0 7 Z ?_;obtain⟨i,d5,F⟩:=qc F;obtain⟨b1,f,_,rfl,-,c8,b⟩:=Cs s1 d5;obtain⟨_,_,_,_,_,_,_,_,_,_,_,_,_,_,_,_,_,_,_,_,_,g,d,rfl,s2,_,_,_,_,_,_,s9,_,_,_,s13⟩:=oM c8;refine mr Z (bL 0 b h Z ?_);obtain⟨y2,d6,F⟩:=qc F;obtain⟨_,o_2,_,rfl,-,c9,u⟩:=Cs s2 d6;obtain⟨_,_,_,rfl,Y,_⟩:=eY c9;refine mr Z (bL 0 u h Z (mR h F (iE (h.old Y)) Z λ_ w1 h F=>?_));obtain⟨x1,c,F⟩:=qc F;obtain⟨g1,g2,c⟩:=aT c;refine bC qa Int h z9 g1 g2 c Z λ_ S1 a h=>X0 8 Z (bL 16 b h Z (X0 3 Z ?_));obtain⟨o1,F,a4⟩:=qc F;refine qq (rL (λm e w'=>∃x2 S,fg i y2 m x2 S=V o1/\e=[(0,.pointer (V ⟨b1,f,U⟩)),(1,vi Cf),(5,oS a x1.length x1.length),(24,oL g i.order d),(25,vi (i.order.length:Int)),(26,vi S)]/\SH w w' [oW S1 (x2:List Int) [oS a x1.length x1.length]]) n ⟨_,_,F,Z,h⟩ Z ?_);rintro m1 _ _ ⟨x2,S,F,rfl,h⟩;rcases m1 with _|m1
 .cases F
 refine X0 5 Z (qn Z F ?_ ?_)<;>intro F
 .refine ly ?_;obtain⟨y3,_,F,b5,_,_,_,_,b7,c3,rfl,a7⟩:=s13.ix F;refine ft b7 c3 b5 Z (bL 0 a7 h Z (X0 9 Z (bL 12 b h Z (cr Z ?_))));obtain⟨⟨r3,r4⟩,d0,F⟩:=qc F;refine bB (r3,r4) h (cB 52 Z) (lF ⟨_,_,Z,(h.oldS s9)⟩ d0) Z Z Z Z λ_ _ _ d4 d1=>?_;obtain⟨_,_,_,_,rfl,Q,d3⟩:=d4.cons d1;obtain rfl:=au (Q.sh.own 0 Z);obtain⟨rfl,h⟩:=Q.lastB d3;refine CK Z (qi qa h Z Z Z λ_ _ h=>zs 0 h Z λ_ h=>X0 6 Z ?_);obtain⟨a3,l,_,F,k⟩:=bindE F;refine bw (λe w'=>∃x3,a3 x3=V o1/\e=[(0,.pointer (V ⟨b1,f,U⟩)),(1,vi Cf),(5,oS a x1.length x1.length),(7,vi y3),(24,oL g i.order d),(25,vi (i.order.length:Int)),(26,vi S)]/\SH w w' [oW S1 (x3:List Int) [oS a x1.length x1.length]]) ?_ ?_
  .refine qn Z F ?_ ?_<;>intro F
   .refine X0 3 Z ?_;obtain⟨y10,_,F,A,_,_,_,_,c0,c6,rfl,p⟩:=(h.sl 2 Z).1.ix F;refine zx c0 c6 ⟨A.1,qE A.2.1 (h.sl 2 Z).2⟩ Z (zc 0 p Z (cr Z ?_));obtain⟨_,R,F,B,_,_,_,_,J,N,rfl,s⟩:=(h.sl 2 Z).1.ix F;refine zx J N ⟨B.1,qE B.2.1 (h.sl 2 Z).2⟩ Z (bM qa 2 0 (qj (y10+1)) h Z R J N Z s Z Z Z Z Z Z Z λ_ h=>ae ?_);have h:=h.p [2] Z;exact rH F k h Z
   refine eZ ?_;have h:=h.p [2] Z;exact rH F k h Z
  rintro _ _ ⟨x3,F,rfl,h⟩;subst l;refine X0 5 Z (bL 0 b h Z (cr Z (uY h F (vl (h.old s2)) Z λX _ S6 W T h F=>X0 3 Z ?_)));obtain⟨o2,F,a5⟩:=qc F;refine qq (rL (λm e w'=>∃x4 i2,dJ y2 y3 X m x4 i2=V o2/\e=[(0,.pointer (V ⟨b1,f,U⟩)),(1,vi Cf),(5,oS a x1.length x1.length),(7,vi y3),(24,oL g i.order d),(25,vi (i.order.length:Int)),(26,vi S),(52,oL W X T),(53,vi (X.length:Int)),(54,vi i2)]/\SH w w' [oW S6 (X:List Int) [oL W X T],oW S1 (x4:List Int) [oS a x1.length x1.length]]) m1 ⟨_,_,F,Z,h⟩ Z ?_);rintro m2 _ _ ⟨x4,i2,F,rfl,h⟩;rcases m2 with _|m2
  .cases F
  refine X0 5 Z (qn Z F ?_ ?_)<;>intro F
  .refine ly ?_;obtain⟨_,_,F,v,_,_,_,_,b8,c4,rfl,a8⟩:=(h.sl 0 Z).1.ix F;refine zx b8 c4 ⟨v.1,qE v.2.1 (h.sl 0 Z).2⟩ Z (zc 0 a8 Z (X0 2 Z (rA [26] [1] h Z λ_ h=>M0 15 [0,1,2,3] (h.p [1] Z) Z ?_)));obtain⟨y5,d7,F,x,_,_,_,_,D,K,rfl,_⟩:=(h.sl 1 Z).1.ix F;refine Ax 4 31 D K ⟨x.1,qE x.2.1 (h.sl 1 Z).2⟩ (h.p [1] Z) Z (Aw 5 63 (λw' hw=>da qa (qR (w1:=w) (S1:=λ_=>False) hw 0 Z d7 D K Z) (j:=0) Z Z Z) (h.p [1] Z) Z ?_);refine M0 1023 [6,7,8,9] (h.p [1] Z) Z (Al 10 2047 0 b (h.p [1] Z) Z (M0 8191 [11,12] (h.p [1] Z) Z (Al 13 16383 0 u (h.p [1] Z) Z ?_)));obtain⟨_,d8,F⟩:=qc F;obtain⟨_,o_6,_,rfl,-,O,a9⟩:=Cs Y d8;obtain⟨_,_,_,_,_,_,_,_,_,_,_,_,_,_,_,_,_,_,_,_,rfl,_,_,_,_,_,_,s22,_,_,_⟩:=cS O;refine M0 65535 [14,15] (h.p [1] Z) Z (Al 16 131071 6 a9 (h.p [1] Z) Z (M0 262143 [17] (h.p [1] Z) Z ?_));obtain⟨_,_,F,b6,_,_,_,_,b9,c5,P,b4⟩:=s22.ix F;obtain rfl:=aB P;refine Ae 18 524287 b9 c5 b6 (h.p [1] Z) Z (M0 1048575 [19] (h.p [1] Z) Z (Al 20 2097151 0 b4 (h.p [1] Z) Z ?_));obtain⟨y8,d9,F,y,_,_,_,_,H,L,rfl,_⟩:=(h.sl 1 Z).1.ix F;refine Ax 21 4194303 H L ⟨y.1,qE y.2.1 (h.sl 1 Z).2⟩ (h.p [1] Z) Z (Aw 22 8388607 (λw' hw=>da qa (qR (w1:=w) (S1:=λ_=>False) hw 0 Z d9 H L Z) (j:=0) Z Z Z) (h.p [1] Z) Z ?_);refine M0 33554431 [23,24] (h.p [1] Z) Z ?_;obtain⟨_,e2,F,z,_,_,_,_,I,M,rfl,o⟩:=(h.sl 1 Z).1.ix F;exact Ax 25 67108863 I M ⟨z.1,qE z.2.1 (h.sl 1 Z).2⟩ (h.p [1] Z) Z (Ao 26 134217727 Z (bM qa 1 0 (if 1000000<(qj (y5+y8)) then 1000000 else(qj (y5+y8))) h Z e2 I M Z o Z Z Z Z Z Z Z λ_ h=>bN (λhs=>absurd (hs 26 (by decide)) (by decide)) (Ad (X0 5 Z (rK ⟨_,_,F,Z,h⟩ Z)))))
  refine qy Z ?_;cases qe F;have F:=a5;refine X0 5 Z ?_;exact rK ⟨_,_,F,Z,h.p [1] Z⟩ Z
 refine qy Z ?_;cases qe F;have F:=a4;refine X0 4 Z ?_;obtain⟨_,_,F,C,_,_,_,_,c2,c7,rfl,t⟩:=(h.sl 0 Z).1.ix F;exact zx c2 c7 ⟨C.1,qE C.2.1 (h.sl 0 Z).2⟩ Z (zc 0 t Z (X0 2 Z (ri h F Z)))
def kz(Cg:List Int)(a:aS):Nat->(List qg)->Int->Int->Int->Option ((List qg)×Int×Int×Int)|0,_,_,_,_=>U|n+1,x1,d,f,b=>bif decide (b<(Cg.length:Int)) then(qG Cg b).bind λg=>(a.graph).bind λh=>(h.view).bind λl=>(qG l.links g).bind λm=>(qG a.timing.Ba m.Bm).bind λp=>(mF n h.view (⟨a.job.Aj.Bi,a.job.Aj.Bb,a.job.Aj.Be,a.job.Aj.Az,a.job.Aj.Bd⟩:qH) g p).bind λ(i,_)=>(rf n (⟨d,f⟩:qg) i).bind λc=>(df x1 ([c]:List qg)).bind λk=>kz Cg a n k c.Ar c.Bc (qj (b+1)) else V (x1,d,f,b)
def uz(n:Nat)(Ce:Option aS)(Cf:Int)(Cg:List Int):Option (List qg):=(Ce).bind λb=>(dX n b.job.Am Cf).bind λ(a,_)=>(kz Cg b n ([(⟨a.Af.Ar,a.Af.Bc⟩:qg)]:List qg) a.Af.Ar a.Af.Bc 0).bind λ(x1,_,_,_)=>V x1
theorem IC{Ce:Option aS}{Cf}{Cg:List Int}(a4:Ro w Ce cs1)(a5:Ro w Cg cs2){r:List qg}(F:uz n Ce Cf Cg=V r):qN prog 57 [gv Ce cs1,vi Cf,gv Cg cs2] w r:=by
 obtain⟨_,rfl,s1⟩:=aJ a4;obtain⟨p2,k1,rfl,s2⟩:=a5;refine zV 82 func57 Z λh=>X0 7 Z ?_;obtain⟨y1,d3,F⟩:=qc F;obtain⟨b1,Q,_,rfl,-,c4,u⟩:=Cs s1 d3;obtain⟨_,_,_,_,_,_,_,_,_,_,_,_,_,_,_,_,_,_,_,_,_,_,_,rfl,s3,_,_,_,_,_,_,s10,_,_,s13,_⟩:=oM c4;refine CK Z (bL 12 u h Z (cr Z ?_));obtain⟨⟨r2,r3⟩,c5,F⟩:=qc F;refine bB (r2,r3) h (cB 52 Z) (lF ⟨_,_,Z,(h.oldS s10)⟩ c5) Z Z Z Z λ_ _ _ d1 c6=>?_;obtain⟨_,_,_,_,rfl,P,c7⟩:=d1.cons c6;obtain rfl:=au (P.sh.own 0 Z);obtain⟨rfl,h⟩:=P.lastB c7;refine CK Z (qi qa h Z Z Z λ_ _ h=>zs 0 h Z λ_ h=>X1 6 0 h Z (qi qa h Z Z Z λ_ I h=>zs 0 h Z λ_ h=>X1 4 0 h Z (qt qa [.tmp 27] _ ([r2.Af]:List qg) h z9 ⟨(qI r2.Af),G⟩ Z λ_ _ _ h=>X0 9 Z ?_)));obtain⟨o1,F,a3⟩:=qc F;refine qq ?_;have h:=h.p [0,1] Z;refine rL (λm e w'=>∃S6 x L v x1 W X Y,kz Cg y1 m x1 W X Y=V o1/\e=[(0,.pointer (V ⟨b1,Q,U⟩)),(9,vp I),(10,oS x L v),(29,oL p2 Cg k1),(30,vi (Cg.length:Int)),(31,vi Y)]/\SH w w' [oW S6 (x1:List qg) [oS x L v],oX I [vi W,vi X] 59]) n ⟨_,_,_,_,_,_,_,_,F,Z,h⟩ Z ?_;rintro m1 _ _ ⟨S6,x,L,v,x1,W,X,Y,F,rfl,h⟩;obtain rfl:=(h.sl 0 Z).2;rcases m1 with _|m1
 .cases F
 refine X0 5 Z (qn Z F ?_ ?_)<;>intro F
 .refine ly ?_;obtain⟨_,_,F,b4,_,_,_,_,b7,c0,rfl,a6⟩:=s2.ix F;refine ft b7 c0 b4 Z (bL 0 a6 h Z (X0 3 Z (rA [] [] h Z λ_ h=>M0 7 [0,1,2] (h.p [] Z) Z (Al 3 15 0 u (h.p [] Z) Z ?_))));obtain⟨_,d4,F⟩:=qc F;obtain⟨_,o_3,_,rfl,-,c8,N⟩:=Cs s3 d4;obtain⟨_,_,_,rfl,p,_⟩:=eY c8;refine M0 63 [4,5] (h.p [] Z) Z (Al 6 127 0 N (h.p [] Z) Z (M0 2047 [7,8,9,10] (h.p [] Z) Z (Al 11 4095 6 u (h.p [] Z) Z (M0 131071 [12,13,14,15,16] (h.p [] Z) Z (Al 17 262143 15 u (h.p [] Z) Z (M0 2097151 [18,19,20] (h.p [] Z) Z (Al 21 4194303 0 u (h.p [] Z) Z (M0 16777215 [22,23] (h.p [] Z) Z (Al 24 33554431 0 N (h.p [] Z) Z ?_)))))))));obtain⟨_,d5,F⟩:=qc F;obtain⟨_,o_4,_,rfl,-,c9,a7⟩:=Cs p d5;obtain⟨_,_,_,_,_,_,_,_,_,_,_,_,_,_,_,_,_,_,_,_,rfl,_,_,_,_,_,_,s23,_,_,_⟩:=cS c9;refine M0 134217727 [25,26] (h.p [] Z) Z (Al 27 268435455 6 a7 (h.p [] Z) Z (M0 536870911 [28] (h.p [] Z) Z ?_));obtain⟨_,_,F,b5,_,_,_,_,b8,c2,d0,a8⟩:=s23.ix F;obtain rfl:=aB d0;refine Ae 29 1073741823 b8 c2 b5 (h.p [] Z) Z (M0 2147483647 [30] (h.p [] Z) Z (Al 31 4294967295 0 a8 (h.p [] Z) Z ?_));obtain⟨T,_,F,b6,_,_,_,_,b9,c3,O,a9⟩:=s13.ix F;obtain rfl:=qC O;refine Ae 32 8589934591 b9 c3 b6 (h.p [] Z) Z (Al 33 17179869183 0 a9 (h.p [] Z) Z ?_);obtain⟨⟨M,R⟩,g,F⟩:=qc F;refine uc (λe w'=>∃t,e=[(0,.pointer (V ⟨b1,Q,U⟩)),(10,oL x x1 v),(13,vp t),(29,oL p2 Cg k1),(30,vi (Cg.length:Int)),(31,vi Y),(9,vp I)]/\SH w w' [oX t (pE M) 59,oW S6 (x1:List qg) [oL x x1 v],oX I [vi W,vi X] 59]) 0 (bits 42 4398046511103) ?_ ?_
  .intro K;refine rN 34 38 39 Z Z Z (bits 42 34359738367) (bits 42 292057776127) (bits 42 566935683071) (by kernel_rfl) (by kernel_rfl) (by kernel_rfl) (by kernel_rfl) ?_ ?_ ?_
   .refine bB (M,R) h (cB 99 Z) (cR (h.old p) (nk _) (qI T) g) Z Z Z Z λS C l d b=>?_;obtain⟨D,H,i,o,rfl,a,c⟩:=d.cons b;obtain rfl:=qC (a.sh.own 0 Z);obtain⟨k,rfl,h⟩:=a.last c;obtain rfl:=qC (h.own 0 Z);refine G0 274877906943 [35,36,37] (h.p [] Z) Z (At 38 39 549755813887 824633720831 Z ?_ ?_)
    .refine qi qa h Z Z Z λy s h=>Ag (h.p [] Z) (Ao 39 1099511627775 Z (qi qa h Z Z Z λz f h=>Ag (h.p [] Z) (Ao 40 2199023255551 Z (zs 1 h Z λA h=>Ag (h.p [] Z) (Ao 41 4398046511103 Z (zs 0 h Z λB h=>Ag (h.p [] Z) ?_))))));have h:=h.p [1,4,5] Z;exact aK K ⟨_,Z,h⟩ Z
    refine qi qa h Z Z Z λy s h=>Ag (h.p [] Z) (Ao 38 1099511627775 Z (qi qa h Z Z Z λz f h=>Ag (h.p [] Z) (Ao 40 2199023255551 Z (zs 0 h Z λA h=>Ag (h.p [] Z) (Ao 41 4398046511103 Z (zs 1 h Z λB h=>Ag (h.p [] Z) ?_))))));have h:=h.p [0,4,5] Z;exact aK K ⟨_,Z,h⟩ Z
   .refine qi qa h Z Z Z λS s h=>Ag (h.p [] Z) (At 34 39 309237645311 841813590015 Z ?_ ?_)
    .refine bB (M,R) h (cB 99 Z) (cR (h.old p) (nk _) (qI T) g) Z Z Z Z λy C l d b=>?_;obtain⟨D,H,i,o,rfl,a,c⟩:=d.cons b;obtain rfl:=qC (a.sh.own 0 Z);obtain⟨k,rfl,h⟩:=a.last c;obtain rfl:=qC (h.own 0 Z);refine G0 549755813887 [35,36,37] (h.p [] Z) Z (Ao 39 1099511627775 Z (qi qa h Z Z Z λz f h=>Ag (h.p [] Z) (Ao 40 2199023255551 Z (zs 3 h Z λA h=>Ag (h.p [] Z) (Ao 41 4398046511103 Z (zs 0 h Z λB h=>Ag (h.p [] Z) ?_))))));have h:=h.p [3,4,5] Z;exact aK K ⟨_,Z,h⟩ Z
    refine qi qa h Z Z Z λy f h=>Ag (h.p [] Z) (Ao 34 858993459199 Z (bB (M,R) h (cB 99 Z) (cR (h.old p) (nk _) (qI T) g) Z Z Z Z λz C l d b=>?_));obtain⟨D,H,i,o,rfl,a,c⟩:=d.cons b;obtain rfl:=qC (a.sh.own 0 Z);obtain⟨k,rfl,h⟩:=a.last c;obtain rfl:=qC (h.own 0 Z);refine G0 1099511627775 [35,36,37] (h.p [] Z) Z (Ao 40 2199023255551 Z (zs 3 h Z λA h=>Ag (h.p [] Z) (Ao 41 4398046511103 Z (zs 2 h Z λB h=>Ag (h.p [] Z) ?_))));have h:=h.p [3,4,5] Z;exact aK K ⟨_,Z,h⟩ Z
   refine qi qa h Z Z Z λS s h=>Ag (h.p [] Z) (At 34 38 584115552255 841813590015 Z ?_ ?_)
   .refine bB (M,R) h (cB 99 Z) (cR (h.old p) (nk _) (qI T) g) Z Z Z Z λy C l d b=>?_;obtain⟨D,H,i,o,rfl,a,c⟩:=d.cons b;obtain rfl:=qC (a.sh.own 0 Z);obtain⟨k,rfl,h⟩:=a.last c;obtain rfl:=qC (h.own 0 Z);refine G0 824633720831 [35,36,37] (h.p [] Z) Z (Ao 38 1099511627775 Z (qi qa h Z Z Z λz f h=>Ag (h.p [] Z) (Ao 40 2199023255551 Z (zs 0 h Z λA h=>Ag (h.p [] Z) (Ao 41 4398046511103 Z (zs 3 h Z λB h=>Ag (h.p [] Z) ?_))))));have h:=h.p [0,4,5] Z;exact aK K ⟨_,Z,h⟩ Z
   refine qi qa h Z Z Z λy f h=>Ag (h.p [] Z) (Ao 34 858993459199 Z (bB (M,R) h (cB 99 Z) (cR (h.old p) (nk _) (qI T) g) Z Z Z Z λz C l d b=>?_));obtain⟨D,H,i,o,rfl,a,c⟩:=d.cons b;obtain rfl:=qC (a.sh.own 0 Z);obtain⟨k,rfl,h⟩:=a.last c;obtain rfl:=qC (h.own 0 Z);refine G0 1099511627775 [35,36,37] (h.p [] Z) Z (Ao 40 2199023255551 Z (zs 2 h Z λA h=>Ag (h.p [] Z) (Ao 41 4398046511103 Z (zs 3 h Z λB h=>Ag (h.p [] Z) ?_))));have h:=h.p [2,4,5] Z;exact aK K ⟨_,Z,h⟩ Z
  rintro _ _ ⟨t,rfl,h⟩;refine Ad (X2 4 2 0 h Z (qc6 h F (yp (qI _) (qI M)) Z λr9 _ _ _ h F=>?_));obtain rfl:=qC (h.own 0 Z);refine zs 3 h Z λ_ h=>X1 4 3 h Z (qt qa [.tmp 77] _ ([r9]:List qg) h z9 ⟨(qI r9),G⟩ Z λ_ _ _ h=>?_);obtain⟨_,J,F⟩:=qc F;obtain⟨g3,J⟩:=qJ J;refine bn qa 3 h Z (h.sl 0 Z).1 (h.sl 0 Z).2 z9 g3 J Z λ_ _ _ _ h=>X0 7 Z ?_;exact rK ⟨_,_,_,_,_,_,_,_,F,Z,h.p [3,4] Z⟩ Z
 refine qy Z ?_;cases qe F;have F:=a3;refine X0 5 Z ?_;cases qe F;exact rO 0 h Z ⟨Z,G⟩
def lr(n:Nat)(b:Option aS)(start:Int)(links:List Int):Option qg:=(uz n b start links).bind λr1=>(qG r1 (links.length:Int)).bind λa=>V a
theorem yf{l:Option aS}{start}{links:List Int}(b:Ro w l cs1)(c:Ro w links cs2){r:qg}(F:lr n l start links=V r):qN prog 26 [gv l cs1,vi start,gv links cs2] w r:=by
 obtain⟨_,rfl,s1⟩:=aJ b;obtain⟨_,_,rfl,s2⟩:=c;refine zV 15 func26 Z λh=>db (qi qa h Z Z Z λ_ _ h=>X0 6 Z (uY h F (IC (h.old s1) ⟨_,_,Z,(h.oldS s2)⟩) Z λ_ _ _ _ _ h F=>mr Z ?_));obtain⟨k,_,F,a,_,_,_,_,f,g,i,d⟩:=(h.sl 0 Z).1.ix F;obtain rfl:=qC i;refine zx f g ⟨a.1,qE a.2.1 (h.sl 0 Z).2⟩ Z (zc 0 d Z (zs 1 h Z λ_ h=>ae ?_));obtain rfl:=qe F;exact aC qa (ρ:=qg) [oV qg (pE k)] h ⟨⟨_,_,_,Z,Z,h.box 1 Z,Z⟩,G⟩ (Cr h (rv (mo (S:=λ_=>False) (qI k))))
def rR(_:Nat)(s:qg)(mode:Int):Option Int:=bif (mode==0) then V s.Ar else V s.Bc
theorem tq{s:qg}{mode}(a:Ro w s cs1){r:Int}(F:rR n s mode=V r):qN prog 27 [gv s cs1,vi mode] w r:=by
 obtain rfl:=qC a;refine zV 11 func27 Z λh=>db (qK h Z Z λ_ _ h=>X0 8 Z (qn Z F ?_ ?_))<;>intro F
 .exact X1 6 0 h Z (ri h F Z)
 exact X1 7 0 h Z (ri h F Z)
def fZ(Cg:List Int)(a:Int)(b:aS):Nat->(List Int)->Int->Int->Int->Option ((List Int)×Int×Int×Int)|0,_,_,_,_=>U|n+1,x1,d,f,c=>bif decide (c<(Cg.length:Int)) then(qG Cg c).bind λh=>(b.graph).bind λi=>(dc n i.view (⟨b.job.Aj.Bi,b.job.Aj.Bb,b.job.Aj.Be,b.job.Aj.Az,b.job.Aj.Bd⟩:qH) h f a).bind λg=>(cd n i.view h f a).bind λk=>(df x1 ([qj (d+g)]:List Int)).bind λl=>fZ Cg a b n l (qj (d+g)) k (qj (c+1)) else V (x1,d,f,c)
def nj(n:Nat)(Ce:Option aS)(Cf:Int)(Cg:List Int)(a:Int):Option ((List Int)×Int):=(Ce).bind λd=>(dX n d.job.Am Cf).bind λ(b,_)=>(rR n (⟨b.Af.Ar,b.Af.Bc⟩:qg) a).bind λc=>(rR n (⟨b.Ba.Ar,b.Ba.Bc⟩:qg) a).bind λg=>(fZ Cg a d n ([c]:List Int) c g 0).bind λ(x1,_,f,_)=>V (x1,f)
theorem we{Ce:Option aS}{Cf}{Cg:List Int}{a}(u:Ro w Ce cs1)(v:Ro w Cg cs2){r:(List Int)×Int}(F:nj n Ce Cf Cg a=V r):qN prog 42 [gv Ce cs1,vi Cf,gv Cg cs2,vi a] w r:=by
 obtain⟨_,rfl,s1⟩:=aJ u;obtain⟨p2,Y,rfl,s2⟩:=v;refine zV 79 func42 Z λh=>X0 8 Z ?_;obtain⟨y1,M,F⟩:=qc F;obtain⟨b1,P,_,rfl,-,B,b⟩:=Cs s1 M;obtain⟨_,_,_,_,_,_,_,_,_,_,_,_,_,_,_,_,_,_,_,_,_,_,_,rfl,s3,_,_,_,_,_,_,Q,_,_,_,_⟩:=oM B;refine CK Z (bL 12 b h Z (cr Z ?_));obtain⟨⟨r2,r3⟩,C,F⟩:=qc F;refine bB (r2,r3) h (cB 52 Z) (lF ⟨_,_,Z,(h.oldS Q)⟩ C) Z Z Z Z λ_ _ _ L D=>?_;obtain⟨_,_,_,_,rfl,l,H⟩:=L.cons D;obtain rfl:=au (l.sh.own 0 Z);obtain⟨rfl,h⟩:=l.lastB H;refine CK Z (qi qa h Z Z Z λ_ _ h=>zs 0 h Z λ_ h=>X0 3 Z (rD (Y1 2 0 h Z ?_)));refine xm Z ?_;obtain⟨T,I,F⟩:=qc F;refine dB T (N6 _) (cB 27 Z) (λ_ hb=>tq (qI _) I) Z Z Z Z (Y1 2 0 h Z ?_);refine xm Z ?_;obtain⟨r5,J,F⟩:=qc F;refine dB r5 (N6 _) (cB 27 Z) (λ_ hb=>tq (qI _) J) Z Z Z Z (xz Z (dN h λ_ h=>X0 3 Z (qt qa [.tmp 35] _ ([T]:List Int) h z9 ⟨Z,G⟩ Z λ_ _ _ h=>X0 9 Z ?_)));obtain⟨o1,F,t⟩:=qc F;refine qq ?_;have h:=h.p [0] Z;refine rL (λm e w'=>∃R d g c x1 p s O,fZ Cg a y1 m x1 p s O=V o1/\e=[(0,.pointer (V ⟨b1,P,U⟩)),(3,vi a),(12,vi p),(13,vi s),(14,oS d g c),(37,oL p2 Cg Y),(38,vi (Cg.length:Int)),(39,vi O)]/\SH w w' [oW R (x1:List Int) [oS d g c]]) n ⟨_,_,_,_,_,_,_,_,F,Z,h⟩ Z ?_;rintro S _ _ ⟨R,d,g,c,x1,p,s,O,F,rfl,h⟩;obtain rfl:=(h.sl 0 Z).2;rcases S with _|S
 .cases F
 refine X0 5 Z (qn Z F ?_ ?_)<;>intro F
 .refine ly ?_;obtain⟨_,_,F,y,_,_,_,_,z,A,rfl,x⟩:=s2.ix F;refine ft z A y Z (bL 0 x h Z (X0 3 Z (rD (qd7 Z (dZ 0 b h Z ?_)))));obtain⟨_,N,F⟩:=qc F;obtain⟨_,a3,_,rfl,-,K,i⟩:=Cs s3 N;obtain⟨_,_,_,rfl,o,_⟩:=eY K;refine xz Z (dZ 0 i h Z (qd7 Z (dZ 6 b h Z (qcO Z ?_))));obtain⟨W,k,F⟩:=qc F;refine dB W (N6 _) (cB 85 Z) (λ_ hb=>bg ((h.ext hb).old o) (nk _) k) Z Z Z Z (xz Z (dN h λ_ h=>X0 5 Z (bL 0 b h Z (mr Z (bL 0 i h Z (CK Z (mR h F (nb (h.old o)) Z λ_ _ h F=>X0 5 Z (qt qa [.tmp 73] _ ([qj (p+W)]:List Int) h z9 ⟨Z,G⟩ Z λ_ _ _ h=>?_))))))));obtain⟨_,f,F⟩:=qc F;obtain⟨X,f⟩:=qJ f;refine bn qa 1 h Z (h.sl 0 Z).1 (h.sl 0 Z).2 z9 X f Z λ_ _ _ _ h=>X0 7 Z ?_;exact rK ⟨_,_,_,_,_,_,_,_,F,Z,h.p [1] Z⟩ Z
 refine qy Z ?_;cases qe F;have F:=t;refine X0 7 Z ?_;cases qe F;exact aC qa (ρ:=((List Int)×Int)) [oV (List Int) [oL d x1 c],oV Int [vi s]] h ⟨Z,Z,G⟩ (Cr h (aj h (qS 0 h Z) ve (by rfl)))
def ng(n:Nat)(c:Option aS)(start:Int)(links:List Int)(mode:Int):Option Int:=(nj n c start links mode).bind λ(a,_)=>(qG a (links.length:Int)).bind λb=>V b
theorem zD{t:Option aS}{start}{links:List Int}{mode}(b:Ro w t cs1)(c:Ro w links cs2){r:Int}(F:ng n t start links mode=V r):qN prog 83 [gv t cs1,vi start,gv links cs2,vi mode] w r:=by
 obtain⟨_,rfl,s1⟩:=aJ b;obtain⟨_,_,rfl,s2⟩:=c;refine zV 24 func83 Z λh=>X0 10 Z ?_;obtain⟨⟨p,s⟩,i,F⟩:=qc F;refine bB (p,s) h (cB 42 Z) (we (h.old s1) ⟨_,_,Z,(h.oldS s2)⟩ i) Z Z Z Z λ_ _ _ m k=>?_;obtain⟨_,_,_,_,_,rfl,o,l⟩:=m.consL k;obtain⟨rfl,h⟩:=o.lastI l;refine X0 11 Z ?_;obtain⟨_,_,F,a,_,_,_,_,f,g,rfl,d⟩:=(h.sl 0 Z).1.ix F;exact zx f g ⟨a.1,qE a.2.1 (h.sl 0 Z).2⟩ Z (zc 0 d Z (X0 2 Z (ri h F Z)))
def cj(r:Option aS)(tail:List Int)(p:(Option aS)->Int->(List Int)->(List qw)->Option (List qw))(c:aS)(b:List Int):Nat->(List qw)->Int->Option ((List qw)×Int)|0,_,_=>U|n+1,d,a=>bif decide (a<(b.length:Int)) then(qG b a).bind λf=>(c.graph).bind λl=>(l.view).bind λm=>(qG m.links f).bind λg=>(qG c.timing.Au g.Bm).bind λo=>bif o then(iG n tail).bind λh=>(df h ([f]:List Int)).bind λk=>(p r g.Bm k d).bind λi=>cj r tail p c b n i (qj (a+1)) else cj r tail p c b n d (qj (a+1)) else V (d,a)
def bK:Nat->(Option aS)->Int->(List Int)->(List qw)->Option (List qw)|0,_,_,_,_=>U|n+1,wv,at_,tail,acc=>(wv).bind λa=>(dX n a.job.Am at_).bind λ(_,b)=>(bif b then(iG n tail).bind λd=>(qer d).bind λg=>(df acc ([(⟨at_,g,0⟩:qw)]:List qw)).bind λh=>V h else V acc).bind λx1=>(pr n a.graph at_).bind λc=>(cj wv tail (bK n) a c n x1 0).bind λ(f,_)=>V f
theorem zE{n}:∀{d w:World} {F:List Ch} {a c b:Nat} {pw:Option Addr} {wv:Option aS} {at_:Int} {tail:List Int} {acc:List qw} {S1 S2:Nat->Prop} {p1 x:Option Addr} {g v:Nat} {r:List qw} (_:SH d w (oX c [oL x acc v] 43::oW S2 (acc:List qw) [oL x acc v]::oW S1 (tail:List Int) [oL p1 tail g]::oX a [.pointer pw] 73::oX b [.func (.func 54) #[] #[vp a,vp c,vp b]] 133::F)) (_:mt d (old d) wv pw) (_:bK n wv at_ tail acc=V r),A4 prog 54 [vi at_,oL p1 tail g,vp a,vp c,vp b] w (λw'=>∃S p k,SH d w' (oX c [oL p r k] 43::oW S (r:List qw) [oL p r k]::oW S1 (tail:List Int) [oL p1 tail g]::oX a [.pointer pw] 73::oX b [.func (.func 54) #[] #[vp a,vp c,vp b]] 133::F)):=by
 induction n with
 |zero=>intro d w F a c b pw wv at_ tail acc S1 S2 p1 x g v r h0 hwk hF;rw[bK] at hF;cases hF
 |succ n ih=>
  intro d w F a c b pw wv at_ tail acc S1 S2 p1 x g v r h0 hwk hF;obtain⟨rc,hrc⟩:∃rc,rc=bK n:=⟨_,Z⟩;rw[<-hrc] at ih;have h:=SH.frame [oX c [oL x acc v] 43,oW S2 (acc:List qw) [oL x acc v],oW S1 (tail:List Int) [oL p1 tail g],oX a [.pointer pw] 73,oX b [.func (.func 54) #[] #[vp a,vp c,vp b]] 133] h0;replace h:SH _ _ [oX c [oL x acc v] 43,oW S2 (acc:List qw) [oL x acc v],oW S1 (tail:List Int) [oL p1 tail g],oX a [.pointer pw] 73,oX b [.func (.func 54) #[] #[vp a,vp c,vp b]] 133,oG (old d) (FS F) [same d w F]]:=h;refine EA func54 Z (m:=76) Z Z ?_;unfold bK at hF;rw[<-hrc] at hF;refine X1 4 3 h Z ?_;obtain⟨y1,hy1,hF⟩:=qc hF;obtain⟨b1,H,_,rfl,-,hr1,i⟩:=Cs hwk hy1;obtain⟨_,_,_,_,_,_,_,_,_,_,_,_,_,_,_,_,_,_,_,_,_,_,_,rfl,s1,_,_,_,_,_,_,s8,s9,_,_,_⟩:=oM hr1;refine CK Z (bL 12 i h Z (cr Z ?_));obtain⟨⟨r2,r3⟩,hr2,hF⟩:=qc hF;refine bB (r2,r3) h (cB 52 Z) (lF ⟨_,_,Z,(h.oldS s8)⟩ hr2) Z Z Z Z λ_ _ _ hv1 hr3=>?_;obtain⟨_,_,_,_,rfl,R,hr4⟩:=hv1.cons hr3;obtain rfl:=au (R.sh.own 0 Z);obtain⟨rfl,h⟩:=R.lastB hr4;refine CK Z (qi qa h Z Z Z λ_ _ h=>zs 0 h Z λ_ h=>X0 6 Z ?_);obtain⟨W,O,_,hF,N⟩:=bindE hF;refine bw (λe w'=>∃S7 I C z x1,W x1=V r/\e=[(0,vi at_),(1,oL p1 tail g),(2,vp a),(4,vp b)]/\SH d w' [oW S7 (x1:List qw) [oS I C z],oX c [oS I C z] 43,oW S1 (tail:List Int) [oL p1 tail g],oX a [.pointer (V ⟨b1,H,U⟩)] 73,oX b [.func (.func 54) #[] #[vp a,vp c,vp b]] 133,oG (old d) (FS F) [same d w F]]) ?_ ?_
  .refine qn Z hF ?_ ?_<;>intro hF
   .refine X0 3 Z (uY h hF (mp (h.own 4 Z)) Z λ_ _ _ _ _ h hF=>X0 5 Z ?_);obtain⟨x4,hx3,hF⟩:=qc hF;refine xc (cB 56 Z) (qes Tryz.slices_Reverse_at 0 h Z hx3) Z Z Z Z λ_ h=>X1 5 3 h Z (dF (qB qa [0,1] [.tmp 29,.tmp 30] z8) Z (kB qa [.tmp 31] _ ([(⟨at_,x4,0⟩:qw)]:List qw) [1,2,3,4,5,6,7,8] h Z Z Z Z Z Z Z Z Z (gb (xQ (⟨at_,x4,0⟩:qw) h sO (qS 0 h Z) sO (by rfl) (by rfl)) pN Z) Z Z λ_ _ _ h=>?_));obtain⟨_,y,hF⟩:=qc hF;obtain⟨g8,y⟩:=qJ y;have h:=h.p [0,4,1,2,3,5,6,7,8] Z;refine BD qa h Z Z Z Z Z Z Z Z Z g8 y Z λ_ _ _ _ h=>zs 3 h Z λ_ h=>ae ?_;have h:=h.p [0,3,4,5,6,7] Z;cases qe hF;exact rG ⟨_,_,_,_,_,N,Z,h⟩ Z
   .refine eZ ?_;have h:=h.p [3,2,4,5,6,7] Z;cases qe hF;exact rG ⟨_,_,_,_,_,N,Z,h⟩ Z
  .rintro _ _ ⟨S7,I,C,z,x1,hF,rfl,h⟩;subst O;obtain rfl:=(h.sl 0 Z).2;refine X1 5 3 h Z (bL 0 i h Z (cr Z (uY h hF (vl (h.old s1)) Z λs _ S8 o l h hF=>X0 3 Z ?_)));obtain⟨o1,hF,hK1⟩:=qc hF;refine qq (rL (λm e w'=>∃S9 J D A x2 T,cj wv tail rc y1 s m x2 T=V o1/\e=[(1,oL p1 tail g),(2,vp a),(4,vp b),(39,oL o s l),(40,vi (s.length:Int)),(41,vi T)]/\SH d w' [oW S8 (s:List Int) [oL o s l],oW S9 (x2:List qw) [oS J D A],oX c [oS J D A] 43,oW S1 (tail:List Int) [oL p1 tail g],oX a [.pointer (V ⟨b1,H,U⟩)] 73,oX b [.func (.func 54) #[] #[vp a,vp c,vp b]] 133,oG (old d) (FS F) [same d w F]]) n ⟨_,_,_,_,_,_,hF,Z,h⟩ Z ?_);rintro m1 _ _ ⟨S9,J,D,A,x2,T,hF,rfl,h⟩;obtain rfl:=(h.sl 1 Z).2;rcases m1 with _|m1
   .cases hF
   refine X0 5 Z (qn Z hF ?_ ?_)<;>intro hF
   .refine ly ?_;obtain⟨y2,_,hF,P,_,_,_,_,hp1,hq1,rfl,hc3⟩:=(h.sl 0 Z).1.ix hF;refine zx hp1 hq1 ⟨P.1,qE P.2.1 (h.sl 0 Z).2⟩ Z (zc 0 hc3 Z (X1 7 4 h Z (bL 0 i h Z ?_)));obtain⟨_,hy3,hF⟩:=qc hF;obtain⟨_,o_3,_,rfl,-,hr8,hc4⟩:=Cs s1 hy3;obtain⟨_,_,_,rfl,s13,_⟩:=eY hr8;refine mr Z (bL 0 hc4 h Z ?_);obtain⟨_,hy4,hF⟩:=qc hF;obtain⟨_,o_4,_,rfl,-,hr9,hc5⟩:=Cs s13 hy4;obtain⟨_,_,_,_,_,_,_,_,_,_,_,_,_,_,_,_,_,_,_,_,rfl,_,_,_,_,_,_,s21,_,_,_⟩:=cS hr9;refine mr Z (bL 6 hc5 h Z (cr Z ?_));obtain⟨_,_,hF,he2,_,_,_,_,hp2,hq2,Q,hc6⟩:=s21.ix hF;obtain rfl:=aB Q;refine ft hp2 hq2 he2 Z (cr Z (bL 0 hc6 h Z (X1 8 4 h Z (bL 13 i h Z (cr Z ?_)))));obtain⟨_,_,hF,he3,_,_,_,_,hp3,hq3,rfl,hc7⟩:=s9.ix hF;refine ft hp3 hq3 he3 Z (bL 0 hc7 h Z (ae (qn Z hF ?_ ?_)))<;>intro hF
    .refine rA [] [5] h Z λ_ h=>M1 23 [0,1,2,4] 0 (h.p [5] Z) Z ?_;obtain⟨r5,t,hF⟩:=qc hF;obtain⟨_,f,hF⟩:=qc hF;obtain⟨r6,u,hF⟩:=qc hF;refine uc (λe w'=>∃M L B,e=[(1,oL p1 tail g),(2,vp a),(39,oL o s l),(4,vp b),(40,vi (s.length:Int)),(41,vi T)]/\SH d w' [oX c [oL L r6 B] 43,oW M (r6:List qw) [oL L r6 B],oX a [.pointer (V ⟨b1,H,U⟩)] 73,oX b [.func (.func 54) #[] #[vp a,vp c,vp b]] 133,oW S8 (s:List Int) [oL o s l],oW S1 (tail:List Int) [oL p1 tail g],oG (old d) (FS F) [same d w F]]) 0 (bits 8 255) ?_ ?_
     .intro K;refine At 3 5 31 55 Z ?_ ?_
      .refine uH r5 h (cB 55 Z) (mp (h.own 3 Z) t) Z Z Z Z λw35 X p58 k50 h=>Ag (h.p [6] Z) (Ao 5 63 Z (qt qa [.tmp 71] _ ([y2]:List Int) h z9 ⟨Z,G⟩ Z λw36 p59 Y h=>Ag (h.p [7] Z) (Ao 6 127 Z ?_)));obtain⟨g7,f⟩:=qJ f;refine bn qa 1 h Z (h.sl 0 Z).1 (h.sl 0 Z).2 z9 g7 f Z λw37 p60 k51 a3 h=>Ag (h.p [7] Z) (Ao 7 255 Z ?_);have h:=h.p [4,3,1,6,7,0,2,5,8] Z;refine xc (cB 54 Z) (ih h hwk u) Z Z Z Z ?_;rintro w38 ⟨a4,p61,k52,h⟩;refine Ag (h.p [4] Z) ?_;have h:=h.p [0,1,3,4,6,7,8] Z;exact aK K ⟨_,_,_,Z,h⟩ Z
      .refine qt qa [.tmp 71] _ ([y2]:List Int) h z9 ⟨Z,G⟩ Z λw35 p58 X h=>Ag (h.p [6] Z) (Ao 3 63 Z (uH r5 h (cB 55 Z) (mp (h.own 4 Z) t) Z Z Z Z λw36 Y p59 k50 h=>Ag (h.p [7] Z) (Ao 6 127 Z ?_)));obtain⟨g7,f⟩:=qJ f;refine bn qa 0 h Z (h.sl 1 Z).1 (h.sl 1 Z).2 z9 g7 f Z λw37 p60 k51 a3 h=>Ag (h.p [7] Z) (Ao 7 255 Z ?_);have h:=h.p [4,3,0,6,7,1,2,5,8] Z;refine xc (cB 54 Z) (ih h hwk u) Z Z Z Z ?_;rintro w38 ⟨a4,p61,k52,h⟩;refine Ag (h.p [4] Z) ?_;have h:=h.p [0,1,3,4,6,7,8] Z;exact aK K ⟨_,_,_,Z,h⟩ Z
     .rintro _ _ ⟨M,L,B,rfl,h⟩;refine Ad (X0 5 Z ?_);exact rK ⟨_,_,_,_,_,_,hF,Z,h.p [4,1,0,5,2,3,6] Z⟩ Z
    .exact X0 6 Z (rK ⟨_,_,_,_,_,_,hF,Z,h⟩ Z)
   .refine qy Z ?_;cases qe hF;replace hF:=hK1;obtain rfl:=qe hF;have h:=h.p [2,1,3,4,5,6] Z;exact E6 qa ⟨_,_,_,Cv 5 0 h0 h Z Z⟩ trivial
def nh(n:Nat)(a:Option aS)(node:Int):Option (List qw):=(bK n a node ([]:List Int) ([]:List qw)).bind λr1=>V r1
theorem wd{c:Option aS}{node}(a:Ro w c cs1){r:List qw}(F:nh n c node=V r):qN prog 25 [gv c cs1,vi node] w r:=by
 obtain⟨_,rfl,s1⟩:=aJ a;refine zV 12 func25 Z λh=>db (qK h Z Z λ_ _ h=>X0 4 Z (qi qa h Z Z Z λ_ _ h=>QS (qi qa h Z Z Z λ_ _ h=>X0 4 Z (zs 0 h Z λ_ h=>X1 5 0 h Z ?_))));have h:=h.nil (α:=Int);have h:=h.nil (α:=qw);have h:=h.p [3,0,1,4,2] Z;obtain⟨_,b,F⟩:=qc F;refine xc (cB 54 Z) (zE h s1 b) Z Z Z Z ?_;rintro _ ⟨_,_,_,h⟩;refine X1 6 0 h Z ?_;cases qe F;exact rO 1 h Z ⟨Z,G⟩

def vm(n:Nat)(v:Option cU)(c:Int):Option Bool:=(v).bind λb=>(iw n b.links).bind λr1=>(bX n c 0 (qj (r1-1))).bind λa=>V a
theorem FU{v:Option cU}{link}(a:Ro w v cs1){r:Bool}(F:vm n v link=V r):qN prog 190 [gv v cs1,vi link] w r:=by
 obtain⟨_,rfl,s1⟩:=aJ a;refine zV 13 func190 Z λh=>X0 8 Z ?_;obtain⟨_,d,F⟩:=qc F;obtain⟨_,f,_,rfl,-,c,b⟩:=Cs s1 d;obtain⟨_,_,_,_,_,_,_,_,_,_,_,_,_,_,_,_,_,_,_,_,rfl,_,_,_,_,_,_,g,_,_,_⟩:=cS c;exact mr Z (bL 6 b h Z (mR h F (sV ⟨_,_,Z,(h.oldS g)⟩) Z λ_ _ h F=>cr Z (dI h F bv Z λ_ _ h F=>X0 2 Z (rb h F Z))))
def fA(v:Option cU)(links:List Int):Nat->Int->Option (eE Bool Int)|0,_=>U|n+1,a=>bif decide (a<(links.length:Int)) then(qG links a).bind λb=>(vm n v b).bind λr1=>bif (!r1) then V (.ret Cd) else bif decide (a > 0) then(v).bind λc=>(qG links (qj (a-1))).bind λd=>(qG c.links d).bind λf=>(qG c.links b).bind λg=>bif (f.To != g.Bm) then V (.ret Cd) else fA v links n (qj (a+1)) else fA v links n (qj (a+1)) else V (.nxt a)
def rY(n:Nat)(v:Option cU)(links:List Int):Option Bool:=(fA v links n 0).bind λ|.ret r=>V r|.nxt _=>V An
theorem FW{v:Option cU}{links:List Int}(c:Ro w v cs1)(d:Ro w links cs2){r:Bool}(F:rY n v links=V r):qN prog 132 [gv v cs1,gv links cs2] w r:=by
 obtain⟨p1,rfl,s1⟩:=aJ c;obtain⟨P,N,rfl,s2⟩:=d;refine zV 46 func132 Z λh=>X0 11 Z ?_;obtain⟨o1,F,a⟩:=qc F;refine qq (rL (λm e w'=>∃M,fA v links m M=V o1/\e=[(0,.pointer p1),(1,oL P links N),(7,oL P links N),(8,vi (links.length:Int)),(9,vi M)]/\SH w w' []) n ⟨_,F,Z,h⟩ Z ?_);rintro O _ _ ⟨M,F,rfl,h⟩;rcases O with _|O
 .cases F
 refine X0 5 Z (qn Z F ?_ ?_)<;>intro F
 .refine X0 6 Z ?_;obtain⟨_,_,F,l,_,_,_,_,u,A,rfl,f⟩:=s2.ix F;refine ft u A l Z (bL 0 f h Z (X0 4 Z (rD (xz Z ?_))));obtain⟨r1,H,F⟩:=qc F;refine dB r1 (MT _) (cB 190 Z) (λ_ S=>FU ((h.ext S).old s1) H) Z Z Z Z (xz Z (bu (t:=18) F Z ?_ ?_))<;>intro F
  .refine Y0 26 Z (dN h λ_ h=>dO Z Z (X0 4 Z ?_));cases qe F;exact rb h a Z
  refine Y0 6 Z (bu (t:=21) F Z ?_ ?_)<;>intro F
  .refine Y0 3 Z ?_;obtain⟨_,L,F⟩:=qc F;obtain⟨_,R,_,rfl,-,I,b⟩:=Cs s1 L;obtain⟨_,_,_,_,_,_,_,_,_,_,_,_,_,_,_,_,_,_,_,_,rfl,_,_,_,_,_,_,Q,_,_,_⟩:=cS I;refine Y0 4 Z (dZ 6 b h Z (Y0 7 Z ?_));obtain⟨_,_,F,o,_,_,_,_,x,B,rfl,g⟩:=s2.ix F;refine fU x B o Z (Y0 1 Z (dZ 0 g h Z (Y0 1 Z ?_)));obtain⟨_,_,F,p,_,_,_,_,y,C,J,i⟩:=Q.ix F;obtain rfl:=aB J;refine fU y C p Z (Y0 3 Z (dZ 1 i h Z (Y0 7 Z (dZ 6 b h Z (Y0 3 Z ?_)))));obtain⟨_,_,F,s,_,_,_,_,z,D,K,k⟩:=Q.ix F;obtain rfl:=aB K;refine fU z D s Z (Y0 3 Z (dZ 0 k h Z (Y0 5 Z (dN h λ_ h=>qn Z F ?_ ?_))))<;>intro F
   .refine X0 4 Z ?_;cases qe F;exact rb h a Z
   exact X0 6 Z (rK ⟨_,F,Z,h⟩ Z)
  exact Y0 24 Z (dN h λ_ h=>bQ Z Z (X0 6 Z (rK ⟨_,F,Z,h⟩ Z)))
 refine qy Z ?_;cases qe F;exact X0 4 Z (rb h a Z)
def nf(_:Nat)(f:Int)(a:Option aS):Option Bool:=(a).bind λb=>(b.graph).bind λc=>(qG c.live f).bind λd=>V (!d)
theorem zC{link}{u:Option aS}{p1}(a:Ro w (V u) [.pointer p1]){r:Bool}(F:nf n link u=V r):qN prog 133 [vi link,.pointer p1] w r:=by
 obtain⟨_,v,_,rfl,-,l,b⟩:=Cs a Z;obtain⟨_,rfl,s1⟩:=aJ l;refine zV 15 func133 Z λh=>X0 6 Z (bL 0 b h Z ?_);obtain⟨_,p,F⟩:=qc F;obtain⟨_,x,_,rfl,-,m,c⟩:=Cs s1 p;obtain⟨_,_,_,_,_,_,_,_,_,_,_,_,_,_,_,_,_,_,_,_,_,_,_,rfl,s2,_,_,_,_,_,_,_,_,_,_,_⟩:=oM m;refine mr Z (bL 0 c h Z ?_);obtain⟨_,s,F⟩:=qc F;obtain⟨_,y,_,rfl,-,o,d⟩:=Cs s2 s;obtain⟨_,_,_,rfl,_,t⟩:=eY o;refine mr Z (bL 1 d h Z (cr Z ?_));obtain⟨_,_,F,g,_,_,_,_,i,k,rfl,f⟩:=t.ix F;exact ft i k g Z (bL 0 f h Z (X0 3 Z (rb h F Z)))
def aH(s:List Int)(a:Option aS):Nat->Int->Option (eE Int Int)|0,_=>U|n+1,b=>bif decide (b<(s.length:Int)) then(qG s b).bind λc=>(nf n c a).bind λr1=>bif r1 then V (.ret b) else aH s a n (qj (b+1)) else V (.nxt b)
def bY(n:Nat)(s:List Int)(a:Option aS):Option Int:=(aH s a n 0).bind λ|.ret r=>V r|.nxt _=>V (-1)
theorem nK{s:List Int}{a:Option aS}(d:Ro w s cs1){u}(c:Ro w (V a) [.pointer u]){r:Int}(F:bY n s a=V r):qN prog 153 [gv s cs1,.func (.func 133) #[] #[.pointer u]] w r:=by
 obtain⟨p1,v,rfl,s1⟩:=d;obtain⟨b1,p,_,rfl,-,l,_⟩:=Cs c Z;obtain⟨_,rfl,_⟩:=aJ l;refine zV 19 func153 Z λh=>X0 11 Z ?_;obtain⟨o1,F,b⟩:=qc F;refine qq (rL (λm e w'=>∃o,aH s a m o=V o1/\e=[(0,oL p1 s v),(1,.func (.func 133) #[] #[.pointer (V ⟨b1,p,U⟩)]),(7,vi (s.length:Int)),(8,vi o)]/\SH w w' []) n ⟨_,F,Z,h⟩ Z ?_);rintro t _ _ ⟨o,F,rfl,h⟩;rcases t with _|t
 .cases F
 refine X0 5 Z (qn Z F ?_ ?_)<;>intro F
 .refine X0 13 Z ?_;obtain⟨_,_,F,g,_,_,_,_,i,k,rfl,f⟩:=s1.ix F;refine ft i k g Z (bL 0 f h Z (dI h F (zC (h.old c)) Z λ_ _ h F=>ae (qn Z F ?_ ?_)))<;>intro F
  .refine X0 5 Z ?_;cases qe F;exact ri h b Z
  exact X0 6 Z (rK ⟨_,F,Z,h⟩ Z)
 refine qy Z ?_;cases qe F;exact X0 4 Z (ri h b Z)
def aF(n:Nat)(s:List Int)(a:Option aS):Option Bool:=(bY n s a).bind λr1=>V (decide (r1>=0))
theorem fe{s:List Int}{a:Option aS}(c:Ro w s cs1){f}(b:Ro w (V a) [.pointer f]){r:Bool}(F:aF n s a=V r):qN prog 92 [gv s cs1,.func (.func 133) #[] #[.pointer f]] w r:=by
 obtain⟨_,_,rfl,s1⟩:=c;obtain⟨_,g,_,rfl,-,d,_⟩:=Cs b Z;obtain⟨_,rfl,_⟩:=aJ d;exact zV 9 func92 Z λh=>X0 8 Z (mR h F (nK ⟨_,_,Z,(h.oldS s1)⟩ (h.old b)) Z λ_ _ h F=>X0 3 Z (rb h F Z))
def oJ(n:Nat)(m:Option aS)(start:Int)(links:List Int):Option Bool:=(m).bind λa=>(dX n a.job.Am start).bind λ(_,b)=>(bif (!b) then V An else(a.graph).bind λl=>(rY n l.view links).bind λf=>V (!f)).bind λb2=>bif b2 then V Cd else bif decide ((links.length:Int) > 0) then(a.graph).bind λg=>(g.view).bind λh=>(qG links 0).bind λi=>(qG h.links i).bind λk=>bif (k.Bm != start) then V Cd else(aF n links m).bind λc=>V (!c) else(aF n links m).bind λd=>V (!d)
theorem CG{a3:Option aS}{start}{links:List Int}(k:Ro w a3 cs1)(l:Ro w links cs2){r:Bool}(F:oJ n a3 start links=V r):qN prog 81 [gv a3 cs1,vi start,gv links cs2] w r:=by
 obtain⟨_,rfl,s1⟩:=aJ k;obtain⟨p2,k1,rfl,s2⟩:=l;refine zV 60 func81 Z λh=>db (qK h Z Z λ_ b h=>X1 6 0 h Z ?_);obtain⟨_,O,F⟩:=qc F;obtain⟨b1,S,_,rfl,-,D,a⟩:=Cs s1 O;obtain⟨_,_,_,_,_,_,_,_,_,_,_,_,_,_,_,_,_,_,_,_,_,_,_,rfl,s3,_,_,_,_,_,_,T,_,_,_,_⟩:=oM D;refine CK Z (bL 12 a h Z (cr Z ?_));obtain⟨⟨r2,r3⟩,H,F⟩:=qc F;refine bB (r2,r3) h (cB 52 Z) (lF ⟨_,_,Z,(h.oldS T)⟩ H) Z Z Z Z λ_ _ _ N I=>?_;obtain⟨_,_,_,_,rfl,g,J⟩:=N.cons I;obtain rfl:=au (g.sh.own 0 Z);obtain⟨rfl,h⟩:=g.lastB J;refine CK Z (qi qa h Z Z Z λ_ _ h=>zs 0 h Z λ_ h=>X0 3 Z ?_);obtain⟨i,d,_,F,c⟩:=bindE F;refine bw (λe w'=>∃b2,i b2=V r/\e=[(1,vi start),(2,oL p2 links k1),(3,vp b),(32,.bool b2)]/\SH w w' [oX b [.pointer (V ⟨b1,S,U⟩)] 73]) ?_ ?_
 .refine X0 4 Z (qh (t:=21) F Z ?_ ?_)<;>intro F
  .refine X0 12 Z ?_;have h:=h.p [2] Z;exact rH F c h Z
  refine X1 7 2 h Z (bL 0 a h Z (X0 1 Z ?_));obtain⟨_,R,F⟩:=qc F;obtain⟨_,o_6,_,rfl,-,f,u⟩:=Cs s3 R;obtain⟨_,_,_,rfl,Y,_⟩:=eY f;refine X0 4 Z (bL 0 u h Z (X0 3 Z (dI h F (FW (h.old Y) ⟨_,_,Z,(h.oldS s2)⟩) Z λ_ _ h F=>X0 4 Z ?_)));have h:=h.p [2] Z;exact rH F c h Z
 rintro _ _ ⟨b2,F,rfl,h⟩;subst d;refine qn Z F ?_ ?_<;>intro F
 .exact X0 4 Z (rb h F Z)
 refine qbm (rD (qd7 Z (bu (t:=36) F Z ?_ ?_)))<;>intro F
 .refine Y1 2 0 h Z ?_;refine Y0 5 Z (dZ 0 a h Z (Y0 1 Z ?_));obtain⟨_,P,F⟩:=qc F;obtain⟨_,o_2,_,rfl,-,K,m⟩:=Cs s3 P;obtain⟨_,_,_,rfl,W,_⟩:=eY K;refine Y0 4 Z (dZ 0 m h Z (Y0 1 Z ?_));obtain⟨_,Q,F⟩:=qc F;obtain⟨_,o_3,_,rfl,-,L,o⟩:=Cs W Q;obtain⟨_,_,_,_,_,_,_,_,_,_,_,_,_,_,_,_,_,_,_,_,rfl,_,_,_,_,_,_,X,_,_,_⟩:=cS L;refine Y0 4 Z (dZ 6 o h Z (Y0 3 Z ?_));obtain⟨_,_,F,v,_,_,_,_,z,B,rfl,p⟩:=s2.ix F;refine fU z B v Z (Y0 1 Z (dZ 0 p h Z (Y0 1 Z ?_)));obtain⟨_,_,F,y,_,_,_,_,A,C,M,s⟩:=X.ix F;obtain rfl:=aB M;refine fU A C y Z (Y0 3 Z (dZ 0 s h Z (Y0 5 Z (dN h λ_ h=>qn Z F ?_ ?_))))<;>intro F
  .exact X0 4 Z (rb h F Z)
  exact X0 5 Z (dI h F (fe ⟨_,_,Z,(h.oldS s2)⟩ (pm (x:=a3) 0 h Z (h.old s1))) Z λ_ _ h F=>X0 3 Z (rb h F Z))
 exact Y0 19 Z (dN h λ_ h=>bQ Z Z (X0 5 Z (dI h F (fe ⟨_,_,Z,(h.oldS s2)⟩ (pm (x:=a3) 0 h Z (h.old s1))) Z λ_ _ h F=>X0 3 Z (rb h F Z))))
def gw(n:Nat)(j:aZ)(mode:Int)(start:Int)(links:List Int):Option ((Option aS)×Int):=(cL n j mode []).bind λ(a,b)=>bif (b==0) then(oJ n a start links).bind λc=>bif (!c) then V (U,5) else V (a,b) else V (a,b)
theorem zA{A}(K:∀b,A b->old w b){j:aZ}{mode start}{links:List Int}(g:qm.R w A j cs1)(l:qm.R w A links cs2){r:(Option aS)×Int}(F:gw n j mode start links=V r):yP prog 37 [gv j cs1,vi mode,vi start,gv links cs2] w A r:=by
 obtain⟨_,_,_,_,_,_,_,_,_,_,_,_,_,_,rfl,_,_,_,_,_,_,_⟩:=cF g;obtain⟨_,_,rfl,H⟩:=l;have J:=Rg.start K;refine gc func37 Z (m:=29) Z Z (λh=>?_);refine db (qK h Z Z λ_ _ h=>X1 7 0 h Z ?_);obtain⟨⟨i,c⟩,o,F⟩:=qc F;refine pO (i,c) J h (cB 22 Z) (tw (J.regOld h) (J.inR h g) ⟨_,_,Z,pP⟩ o) Z Z Z Z λ_ _ _ a d B u=>?_;have C:=h.ext d.below;have I:=Up.S J h d H;have D:=h.below.trans (d.below.mono h.below.size);have h:=B;obtain⟨_,_,rfl,p,v⟩:=dP u;obtain⟨k,rfl,f⟩:=aJ p;obtain⟨_,rfl,s⟩:=kQ v;obtain rfl:=s;refine X0 12 Z (qh (t:=20) F Z ?_ ?_)<;>intro F
 .refine X0 7 Z (dI h F (CG (h.old (qm.mono f a.old)) ⟨_,_,Z,(h.oldS (I.mono a.old))⟩) Z λ_ _ h F=>X0 4 Z (qn Z F ?_ ?_))<;>intro F
  .refine X0 5 Z ?_;obtain rfl:=qe F;have x:gk.Rs (ρ:=((Option aS)×Int)) h.wc (vJ A w h.wc) (U,5) [oV (Option aS) [.pointer U],oV Int [vi 5]]:=⟨_,_,Z,Z,⟨_,Z,Z⟩⟩;exact gn qa (ρ:=((Option aS)×Int)) (r:=(U,5)) [oV (Option aS) [.pointer U],oV Int [vi 5]] (h.unbase a.below (show HN [] from trivial)) ⟨Z,Z,G⟩ x
  refine X0 8 Z ?_;obtain rfl:=qe F;have y:gk.Rs (ρ:=((Option aS)×Int)) h.wc (vJ A w h.wc) (i,c) [oV (Option aS) [.pointer k],oV Int [vi c]]:=⟨_,_,Z,(a.outR h (a.inR h f)),⟨_,Z,Z⟩⟩;exact gn qa (ρ:=((Option aS)×Int)) (r:=(i,c)) [oV (Option aS) [.pointer k],oV Int [vi c]] (h.unbase a.below (show HN [] from trivial)) ⟨Z,Z,G⟩ y
 refine X0 7 Z (bQ Z Z (X0 8 Z ?_));obtain rfl:=qe F;have z:gk.Rs (ρ:=((Option aS)×Int)) h.wc (vJ A w h.wc) (i,c) [oV (Option aS) [.pointer k],oV Int [vi c]]:=⟨_,_,Z,(a.outR h (a.inR h f)),⟨_,Z,Z⟩⟩;exact gn qa (ρ:=((Option aS)×Int)) (r:=(i,c)) [oV (Option aS) [.pointer k],oV Int [vi c]] (h.unbase a.below (show HN [] from trivial)) ⟨Z,Z,G⟩ z
def fh(i:Option aS)(links:List Int):Nat->(List Int)->Int->Option ((List Int)×Int)|0,_,_=>U|n+1,x1,a=>bif decide (a<(links.length:Int)) then(qG links a).bind λc=>(i).bind λd=>(d.graph).bind λf=>(f.view).bind λg=>(qG g.links c).bind λh=>(df x1 ([h.To]:List Int)).bind λb=>fh i links n b (qj (a+1)) else V (x1,a)
def nR(n:Nat)(a:Option aS)(start:Int)(links:List Int):Option (List Int):=(fh a links n ([start]:List Int) 0).bind λ(x1,_)=>V x1
theorem AQ{Y:Option aS}{start}{links:List Int}(d:Ro w Y cs1)(f:Ro w links cs2){r:List Int}(F:nR n Y start links=V r):qN prog 82 [gv Y cs1,vi start,gv links cs2] w r:=by
 obtain⟨p1,rfl,s1⟩:=aJ d;obtain⟨T,P,rfl,s2⟩:=f;refine zV 37 func82 Z λh=>X0 7 Z (qt qa [.tmp 10] _ ([start]:List Int) h z9 ⟨Z,G⟩ Z λ_ _ _ h=>X0 9 Z ?_);obtain⟨o1,F,c⟩:=qc F;refine qq (rL (λm e w'=>∃S2 K b J x1 I,fh Y links m x1 I=V o1/\e=[(0,.pointer p1),(7,oS K b J),(12,oL T links P),(13,vi (links.length:Int)),(14,vi I)]/\SH w w' [oW S2 (x1:List Int) [oS K b J]]) n ⟨_,_,_,_,_,_,F,Z,h⟩ Z ?_);rintro N _ _ ⟨S2,K,b,J,x1,I,F,rfl,h⟩;obtain rfl:=(h.sl 0 Z).2;rcases N with _|N
 .cases F
 refine X0 5 Z (qn Z F ?_ ?_)<;>intro F
 .refine ly ?_;obtain⟨_,_,F,p,_,_,_,_,t,v,rfl,g⟩:=s2.ix F;refine ft t v p Z (bL 0 g h Z (X0 5 Z ?_));obtain⟨_,C,F⟩:=qc F;obtain⟨_,Q,_,rfl,-,y,i⟩:=Cs s1 C;obtain⟨_,_,_,_,_,_,_,_,_,_,_,_,_,_,_,_,_,_,_,_,_,_,_,rfl,W,_,_,_,_,_,_,_,_,_,_,_⟩:=oM y;refine mr Z (bL 0 i h Z ?_);obtain⟨_,D,F⟩:=qc F;obtain⟨_,R,_,rfl,-,z,k⟩:=Cs W D;obtain⟨_,_,_,rfl,L,_⟩:=eY z;refine mr Z (bL 0 k h Z ?_);obtain⟨_,H,F⟩:=qc F;obtain⟨_,S,_,rfl,-,A,l⟩:=Cs L H;obtain⟨_,_,_,_,_,_,_,_,_,_,_,_,_,_,_,_,_,_,_,_,rfl,_,_,_,_,_,_,M,_,_,_⟩:=cS A;refine mr Z (bL 6 l h Z (cr Z ?_));obtain⟨X,_,F,s,_,_,_,_,u,x,B,o⟩:=M.ix F;obtain rfl:=aB B;refine ft u x s Z (cr Z (bL 1 o h Z (qt qa [.tmp 32] _ ([X.To]:List Int) h z9 ⟨Z,G⟩ Z λ_ _ _ h=>?_)));obtain⟨_,a,F⟩:=qc F;obtain⟨O,a⟩:=qJ a;refine bn qa 1 h Z (h.sl 0 Z).1 (h.sl 0 Z).2 z9 O a Z λ_ _ _ _ h=>X0 7 Z ?_;exact rK ⟨_,_,_,_,_,_,F,Z,h.p [1] Z⟩ Z
 refine qy Z ?_;cases qe F;have F:=c;refine X0 5 Z ?_;cases qe F;exact rO 0 h Z ⟨Z,G⟩
def xI(n:Nat)(j:aZ)(start:Int)(links:List Int):Option ((List Int)×Int):=(gw n j 0 start links).bind λ(b,a)=>bif (a != 0) then V ([],a) else(nR n b start links).bind λc=>V (c,0)
theorem IA{j:aZ}{start}{links:List Int}(d:Ro w j cs1)(f:Ro w links cs2){r:(List Int)×Int}(F:xI n j start links=V r):qN prog 38 [gv j cs1,vi start,gv links cs2] w r:=by
 obtain⟨_,_,_,_,_,_,_,_,_,_,_,_,_,_,rfl,_,_,_,_,_,_,_⟩:=cF d;obtain⟨_,_,rfl,u⟩:=f;refine zV 24 func38 Z λh=>db (qK h Z Z λ_ _ h=>X1 8 0 h Z ?_);have a:Rg (old w) w (old w) w:=.start (λ_ h=>h);obtain⟨⟨z,t⟩,g,F⟩:=qc F;refine pO (z,t) a h (cB 37 Z) (zA (a.regOld h) (a.inR h d) ⟨_,_,Z,(a.inS h u)⟩ g) Z Z Z Z λ_ _ _ b c o l=>?_;have v:=h.ext c.below;have B:=Up.S a h c u;have x:=h.below.trans (c.below.mono h.below.size);have h:=o;obtain⟨_,_,rfl,i,m⟩:=dP l;obtain⟨_,rfl,s⟩:=aJ i;obtain⟨_,rfl,k⟩:=kQ m;obtain rfl:=k;refine X0 12 Z (qn Z F ?_ ?_)<;>intro F
 .refine X0 6 Z ?_;have h:=h.unbase b.below (show HN [] from trivial);cases qe F;exact aC qa (ρ:=((List Int)×Int)) [oV (List Int) [oS U 0 0],oV Int [vi t]] h ⟨Z,Z,G⟩ (Cr h (aj h kP ve (by rfl)))
 refine X0 6 Z (uY h F (AQ (h.old (qm.mono s b.old)) ⟨_,_,Z,(h.oldS (B.mono b.old))⟩) Z λA _ _ p y h F=>X0 3 Z ?_);have h:=h.unbase b.below ⟨λ_ h=>h,G⟩;cases qe F;exact aC qa (ρ:=((List Int)×Int)) [oV (List Int) [oL p A y],oV Int [vi 0]] h ⟨Z,Z,G⟩ (Cr h (aj h (qS 0 h Z) ve (by rfl)))
def um(n:Nat)(j:aZ)(start:Int)(links:List Int):Option (Int×Int):=(xI n j start links).bind λ(a,b)=>bif (b != 0) then V (0,b) else(qG a (qj ((a.length:Int)-1))).bind λc=>V (c,0)
theorem HY{j:aZ}{start}{links:List Int}(a:Ro w j cs1)(c:Ro w links cs2){r:Int×Int}(F:um n j start links=V r):qN prog 12 [gv j cs1,vi start,gv links cs2] w r:=by
 obtain⟨_,_,_,_,_,_,_,_,_,_,_,_,_,_,rfl,_,_,_,_,_,_,_⟩:=cF a;obtain⟨_,_,rfl,t⟩:=c;refine zV 26 func12 Z λh=>db (qK h Z Z λ_ _ h=>X1 8 0 h Z ?_);obtain⟨⟨s,p⟩,i,F⟩:=qc F;refine bB (s,p) h (cB 38 Z) (IA (h.old a) ⟨_,_,Z,(h.oldS t)⟩ i) Z Z Z Z λ_ _ _ m k=>?_;obtain⟨_,_,_,_,_,rfl,o,l⟩:=m.consL k;obtain⟨rfl,h⟩:=o.lastI l;refine X0 12 Z (qn Z F ?_ ?_)<;>intro F
 .refine X0 6 Z ?_;cases qe F;exact aC qa (ρ:=(Int×Int)) [oV Int [vi 0],oV Int [vi p]] h ⟨Z,Z,G⟩ (Cr h (aj h sO ve (by rfl)))
 refine X0 7 Z ?_;obtain⟨u,_,F,b,_,_,_,_,f,g,rfl,d⟩:=(h.sl 0 Z).1.ix F;refine zx f g ⟨b.1,qE b.2.1 (h.sl 0 Z).2⟩ Z (zc 0 d Z (X0 3 Z ?_));cases qe F;exact aC qa (ρ:=(Int×Int)) [oV Int [vi u],oV Int [vi 0]] h ⟨Z,Z,G⟩ (Cr h (aj h sO ve (by rfl)))
def pj(n:Nat)(j:aZ)(start:Int)(links:List Int)(mode:Int):Option (Int×Int×Int):=(gw n j mode start links).bind λ(b,a)=>bif (a != 0) then V (0,0,a) else(nj n b start links mode).bind λ(c,d)=>(qG c (links.length:Int)).bind λf=>V (f,d,0)
theorem tG{j:aZ}{start}{links:List Int}{mode}(d:Ro w j cs1)(g:Ro w links cs2){r:Int×Int×Int}(F:pj n j start links mode=V r):qN prog 16 [gv j cs1,vi start,gv links cs2,vi mode] w r:=by
 obtain⟨_,_,_,_,_,_,_,_,_,_,_,_,_,_,rfl,_,_,_,_,_,_,_⟩:=cF d;obtain⟨_,_,rfl,H⟩:=g;refine zV 40 func16 Z λh=>db (qK h Z Z λ_ _ h=>X1 10 0 h Z ?_);have a:Rg (old w) w (old w) w:=.start (λ_ h=>h);obtain⟨⟨K,C⟩,m,F⟩:=qc F;refine pO (K,C) a h (cB 37 Z) (zA (a.regOld h) (a.inR h d) ⟨_,_,Z,(a.inS h H)⟩ m) Z Z Z Z λ_ _ _ b c A v=>?_;have I:=h.ext c.below;have M:=Up.S a h c H;have J:=h.below.trans (c.below.mono h.below.size);have h:=A;obtain⟨_,_,rfl,o,x⟩:=dP v;obtain⟨_,rfl,B⟩:=aJ o;obtain⟨_,rfl,p⟩:=kQ x;obtain rfl:=p;refine X0 12 Z (qn Z F ?_ ?_)<;>intro F
 .refine X0 7 Z ?_;have h:=h.unbase b.below (show HN [] from trivial);cases qe F;exact aC qa (ρ:=(Int×Int×Int)) [oV Int [vi 0],oV Int [vi 0],oV Int [vi C]] h ⟨Z,Z,Z,G⟩ (Cr h (aj h sO (aj h sO ve (by rfl)) (by rfl)))
 refine X0 7 Z ?_;obtain⟨⟨L,D⟩,s,F⟩:=qc F;refine bB (L,D) h (cB 42 Z) (we (h.old (qm.mono B b.old)) ⟨_,_,Z,(h.oldS (M.mono b.old))⟩ s) Z Z Z Z λ_ _ _ y t=>?_;obtain⟨_,_,_,_,_,rfl,z,u⟩:=y.consL t;obtain⟨rfl,h⟩:=z.lastI u;refine X0 11 Z ?_;obtain⟨N,_,F,f,_,_,_,_,k,l,rfl,i⟩:=(h.sl 0 Z).1.ix F;refine zx k l ⟨f.1,qE f.2.1 (h.sl 0 Z).2⟩ Z (zc 0 i Z (X0 5 Z ?_));have h:=h.unbase b.below ⟨λ_ h=>h,G⟩;cases qe F;exact aC qa (ρ:=(Int×Int×Int)) [oV Int [vi N],oV Int [vi D],oV Int [vi 0]] h ⟨Z,Z,Z,G⟩ (Cr h (aj h sO (aj h sO ve (by rfl)) (by rfl)))
def bT(n:Nat)(j:aZ):Option ((Option qT)×Int):=(cq n (⟨(⟨j.Ac.Aq.As⟩:qD),(⟨j.Ac.Aa.Ab,j.Ac.Aa.Ap,j.Ac.Aa.Ai⟩:qk),j.Ac.Ah⟩:qf) (⟨j.Aj.Bi,j.Aj.Bb,j.Aj.Be,j.Aj.Az,j.Aj.Bd⟩:qH) j.Ay j.Am).bind λ(c,a)=>bif (a != 0) then V (U,a) else(kj n (⟨(⟨j.Ac.Aq.As⟩:qD),(⟨j.Ac.Aa.Ab,j.Ac.Aa.Ap,j.Ac.Aa.Ai⟩:qk),j.Ac.Ah⟩:qf)).bind λb=>(pe n b j.Ay).bind λd=>V ((V (⟨(⟨(⟨(⟨j.Ac.Aq.As⟩:qD),(⟨j.Ac.Aa.Ab,j.Ac.Aa.Ap,j.Ac.Aa.Ai⟩:qk),j.Ac.Ah⟩:qf),(⟨j.Aj.Bi,j.Aj.Bb,j.Aj.Be,j.Aj.Az,j.Aj.Bd⟩:qH),j.Ay,j.Am⟩:aZ),b,d,c⟩:qT)),0)
theorem AA{n w}{j:aZ}{cs1}(O:Ro w j cs1){r:(Option qT)×Int}(F:bT n j=V r):W5 prog 63 [gv j cs1] w (λus L=>(∃H,r=(U,H)/\us=[oV (Option qT) [.pointer U],oV Int [vi H]]/\L=[])\/(∃uS1 K k I N uS6 M l J t B o b f u a C p c g v D s d i x,r=((V (⟨j,x,v,(⟨u,t,N⟩:qu)⟩:qT)),0)/\us=[oV (Option qT) [vp a],oV Int [vi 0]]/\L=[oW uS1 (N:List qg) [oS K k I],oW uS6 (t:List qg) [oS M l J],oW B (u:List Bool) [oS o b f],oX a (cs1++[oS s d i,oS p c g,oS o b f,oS M l J,oS K k I]) 144,oW C (v:List Bool) [oS p c g],oW D (x:List qx) [oS s d i]])):=by
 obtain⟨_,_,_,_,_,_,_,_,_,_,_,_,_,_,rfl,s1,s2,s3,s4,s5,s6,s7⟩:=cF O;refine EB func63 Z (m:=34) Z Z (λh=>?_);refine db (qK h Z Z λ_ _ h=>X4 13 0 0 0 0 h Z ?_);obtain⟨⟨y,r3⟩,P,F⟩:=qc F;refine bB (y,r3) h (cB 105 Z) (zR (tK _ (h.oldS s1) (h.oldS s2) (h.oldS s3) (h.oldS s4) (h.oldS s5)) (nk _) ⟨_,_,Z,(h.oldS s6)⟩ ⟨_,_,Z,(h.oldS s7)⟩ P) Z Z Z Z λ_ _ _ S Q=>?_;obtain⟨_,_,_,_,rfl,A,R⟩:=S.cons Q;obtain⟨p8,k8,p9,k9,Y,T,rfl,-,-,-⟩:=gD (A.sh.own 0 Z);obtain⟨rfl,h⟩:=A.lastI R;refine CK Z (qi qa h Z Z Z λ_ _ h=>zs 0 h Z λ_ h=>X0 8 Z (qn Z F ?_ ?_))<;>intro F
 .refine X0 6 Z ?_;obtain rfl:=qe F;have h:=h.p [] Z;exact DX qa [oV (Option qT) [.pointer U],oV Int [vi r3]] h ⟨Z,Z,G⟩ (.inl ⟨r3,Z,Z,Z⟩)
 refine X1 5 2 h Z (uY h F (lQ (tK _ (h.oldS s1) (h.oldS s2) (h.oldS s3) (h.oldS s4) (h.oldS s5))) Z λr4 _ S5 e W h F=>X0 3 Z (rA [] [1,3] h Z λ_ h=>M3 95 [0,1,2,3,4,6] 1 1 0 (h.p [1,3] Z) Z (Ao 5 127 Z (uY h F (pn (h.own 0 Z) ⟨_,_,Z,(h.oldS s6)⟩) Z λr5 _ S6 a3 X h F=>Ag (h.p [2,4] Z) (Aw 7 255 (λw' hw=>qB qa [0,1,2,3] [.tmp 25,.tmp 26,.tmp 30,.tmp 31] z8) (h.p [2,4] Z) Z ?_)))));refine Ao 8 511 Z (qK h Z Z λ_ z h=>G0 2047 [9,10] (h.p [3,5] Z) Z (Ad ?_));have h:=h.p [4,0,1,2,3,5] Z;obtain⟨S7,S8,S9,h⟩:=pA h;obtain rfl:=qe F;have h:=h.p [0,1,2,3,4,5] Z;exact DX qa [oV (Option qT) [vp z],oV Int [vi 0]] h ⟨Z,Z,G⟩ (.inr ⟨S9,Y,y.Ba.length,T,y.Ba,S8,p9,y.Af.length,k9,y.Af,S7,p8,y.Au.length,k8,y.Au,z,S6,a3,r5.length,X,r5,S5,e,r4.length,W,r4,Z,Z,Z⟩)
def lT(n:Nat)(j:aZ)(node:Int):Option ((Option qT)×Int):=(bT n j).bind λ|(U,a)=>(bif (a != 0) then V (U,a) else(bV n (⟨(⟨j.Ac.Aq.As⟩:qD),(⟨j.Ac.Aa.Ab,j.Ac.Aa.Ap,j.Ac.Aa.Ai⟩:qk),j.Ac.Ah⟩:qf)).bind λb=>(bk n node 0 (qj (b-1))).bind λc=>bif (!c) then V (U,4) else V (U,0))|(V (⟨_,k,i,⟨h,g,x1⟩⟩),_)=>((bV n (⟨(⟨j.Ac.Aq.As⟩:qD),(⟨j.Ac.Aa.Ab,j.Ac.Aa.Ap,j.Ac.Aa.Ai⟩:qk),j.Ac.Ah⟩:qf)).bind λd=>(bk n node 0 (qj (d-1))).bind λf=>bif (!f) then V (U,4) else V ((V (⟨(⟨(⟨(⟨j.Ac.Aq.As⟩:qD),(⟨j.Ac.Aa.Ab,j.Ac.Aa.Ap,j.Ac.Aa.Ai⟩:qk),j.Ac.Ah⟩:qf),(⟨j.Aj.Bi,j.Aj.Bb,j.Aj.Be,j.Aj.Az,j.Aj.Bd⟩:qH),j.Ay,j.Am⟩:aZ),k,i,(⟨h,g,x1⟩:qu)⟩:qT)),0))
theorem EL{n w}{j:aZ}{node cs1}(J:Ro w j cs1){r:(Option qT)×Int}(F:lT n j node=V r):W5 prog 30 [gv j cs1,vi node] w (λus L=>(∃W,r=(U,W)/\us=[oV (Option qT) [.pointer U],oV Int [vi W]]/\L=[])\/(∃uS1 e k X a4 uS6 a3 l Y t R o b f u a S p c g v T s d i x,r=((V (⟨j,x,v,(⟨u,t,a4⟩:qu)⟩:qT)),0)/\us=[oV (Option qT) [vp a],oV Int [vi 0]]/\L=[oW uS1 (a4:List qg) [oS e k X],oW uS6 (t:List qg) [oS a3 l Y],oW R (u:List Bool) [oS o b f],oX a (cs1++[oS s d i,oS p c g,oS o b f,oS a3 l Y,oS e k X]) 144,oW S (v:List Bool) [oS p c g],oW T (x:List qx) [oS s d i]])):=by
 obtain⟨p1,k1,p2,k2,p3,k3,p4,k4,p5,k5,p6,k6,p7,k7,rfl,s1,s2,s3,s4,s5,_,_⟩:=cF J;refine EB func30 Z (m:=24) Z Z (λh=>?_);refine db (qK h Z Z λ_ I h=>X1 6 0 h Z ?_);obtain⟨_,a5,F⟩:=qc F;refine IT (cB 63 Z) (AA (h.old J) a5) Z Z Z Z ?_;rintro _ _ _ K (⟨i1,rfl,rfl,rfl⟩|⟨S1,p8,M,k8,x1,S2,p9,N,k9,x2,S3,C,O,z,x3,y,S4,D,P,A,x4,S5,H,Q,B,x5,rfl,rfl,rfl⟩)
 .replace h:SH _ _ [oX I (iy j p1 p2 p3 p4 p5 p6 p7 k1 k2 k3 k4 k5 k6 k7) 40]:=SH.appendN h K (show HN [] from trivial);refine X0 12 Z (qn Z F ?_ ?_)<;>intro F
  .refine X0 6 Z ?_;obtain rfl:=qe F;have h:=h.p [] Z;exact DX qa [oV (Option qT) [.pointer U],oV Int [vi i1]] h ⟨Z,Z,G⟩ (.inl ⟨i1,Z,Z,Z⟩)
  refine X1 7 0 h Z (mR h F (dY (tK _ (h.oldS s1) (h.oldS s2) (h.oldS s3) (h.oldS s4) (h.oldS s5))) Z λ_ _ h F=>cr Z (dI h F aQ Z λ_ _ h F=>X0 2 Z (qn Z F ?_ ?_)))<;>intro F
  .refine X0 5 Z ?_;obtain rfl:=qe F;have h:=h.p [] Z;exact DX qa [oV (Option qT) [.pointer U],oV Int [vi 4]] h ⟨Z,Z,G⟩ (.inl ⟨4,Z,Z,Z⟩)
  refine X0 7 Z ?_;obtain rfl:=qe F;have h:=h.p [] Z;exact DX qa [oV (Option qT) [.pointer U],oV Int [vi 0]] h ⟨Z,Z,G⟩ (.inl ⟨0,Z,Z,Z⟩)
 replace h:SH _ _ [oW S1 (x1:List qg) [oS p8 M k8],oW S2 (x2:List qg) [oS p9 N k9],oW S3 (x3:List Bool) [oS C O z],oX y [oL p1 j.Ac.Aq.As k1,oL p2 j.Ac.Aa.Ab k2,oL p3 j.Ac.Aa.Ap k3,oL p4 j.Ac.Aa.Ai k4,oL p5 j.Ac.Ah k5,.string j.Aj.Bi,vi j.Aj.Bb,vi j.Aj.Be,vi j.Aj.Az,vi j.Aj.Bd,oL p6 j.Ay k6,oL p7 j.Am k7,oS H Q B,oS D P A,oS C O z,oS p9 N k9,oS p8 M k8] 144,oW S4 (x4:List Bool) [oS D P A],oW S5 (x5:List qx) [oS H Q B],oX I (iy j p1 p2 p3 p4 p5 p6 p7 k1 k2 k3 k4 k5 k6 k7) 40]:=SH.appendN h K ⟨λ_ h=>h,⟨λ_ h=>h,⟨λ_ h=>h,⟨λ_ h=>h,⟨λ_ h=>h,⟨λ_ h=>h,G⟩⟩⟩⟩⟩⟩;obtain rfl:=(h.sl 0 Z).2;obtain rfl:=(h.sl 1 Z).2;obtain rfl:=(h.sl 2 Z).2;obtain rfl:=(h.sl 4 Z).2;obtain rfl:=(h.sl 5 Z).2;refine X0 12 Z (bQ Z Z (X1 7 6 h Z (mR h F (dY (tK _ (h.oldS s1) (h.oldS s2) (h.oldS s3) (h.oldS s4) (h.oldS s5))) Z λ_ _ h F=>cr Z (dI h F aQ Z λ_ _ h F=>X0 2 Z (qn Z F ?_ ?_)))))<;>intro F
 .refine X0 5 Z ?_;obtain rfl:=qe F;have h:=h.p [] Z;exact DX qa [oV (Option qT) [.pointer U],oV Int [vi 4]] h ⟨Z,Z,G⟩ (.inl ⟨4,Z,Z,Z⟩)
 refine X0 7 Z ?_;obtain rfl:=qe F;have h:=h.p [0,1,2,3,4,5] Z;exact DX qa [oV (Option qT) [vp y],oV Int [vi 0]] h ⟨Z,Z,G⟩ (.inr ⟨S1,p8,x1.length,k8,x1,S2,p9,x2.length,k9,x2,S3,C,x3.length,z,x3,y,S4,D,x4.length,A,x4,S5,H,x5.length,B,x5,Z,Z,Z⟩)
def sn(_:Nat)(mode:Int):Option Bool:=bif (mode==0) then V An else V (mode==1)
theorem BS{mode}  {r:Bool}(F:sn n mode=V r):qN prog 31 [vi mode] w r:=by
 refine zV 9 func31 Z λh=>X0 9 Z (qh (t:=5) F Z ?_ ?_)<;>intro F
 .exact X0 5 Z (rb h F Z)
 exact X0 7 Z (rb h F Z)
def vd(_:Nat)(list:List qw):Option Int:=V (list.length:Int)
theorem yV{list:List qw}(a:Ro w list cs1){r:Int}(F:vd n list=V r):qN prog 29 [gv list cs1] w r:=by
 obtain⟨_,_,rfl,_⟩:=a;exact zV 5 func29 Z λh=>X0 10 Z (ri h F Z)
def oa(Cg:Int)(b:Option aS)(c:List qw):Nat->(List qw)->Int->Option ((List qw)×Int)|0,_,_=>U|n+1,x1,a=>bif decide (a<(c.length:Int)) then(qG x1 a).bind λd=>(lr n b d.Bn d.Bk).bind λg=>(rR n g Cg).bind λh=>(qG x1 a).bind λf=>oa Cg b c n (am x1 a (⟨f.Bn,f.Bk,h⟩:qw)) (qj (a+1)) else V (x1,a)
def yo(n:Nat)(Ce:aZ)(Cf:Int)(Cg:Int)(a:Int):Option ((List qw)×Int):=(cL n Ce Cg ([Cf]:List Int)).bind λ(b,c)=>bif (c != 0) then V ([],c) else(bX n a 0 20).bind λh=>bif (!h) then V ([],2) else(gN n b Cf).bind λi=>bif decide (i > 300) then V ([],3) else(nh n b Cf).bind λd=>(oa Cg b d n d 0).bind λ(x1,_)=>(MR n x1 Cg).bind λg=>(vd n g).bind λf=>(xV g 0 (if f<a then f else a)).bind λk=>V (k,0)
theorem PC{Ce:aZ}{Cf Cg c}(i:Ro w Ce cs1){r:(List qw)×Int}(F:yo n Ce Cf Cg c=V r):qN prog 7 [gv Ce cs1,vi Cf,vi Cg,vi c] w r:=by
 obtain⟨_,_,_,_,_,_,_,_,_,_,_,_,_,_,rfl,_,_,_,_,_,_,_⟩:=cF i;refine zV 68 func7 Z λh=>db (qK h Z Z λ_ _ h=>X1 8 0 h Z (qt qa [.tmp 18] _ ([Cf]:List Int) h z9 ⟨Z,G⟩ Z λ_ _ _ h=>?_));have d:Rg (old w) w (old w) w:=.start (λ_ h=>h);obtain⟨⟨r2,r3⟩,O,F⟩:=qc F;refine pO (r2,r3) d h (cB 22 Z) (tw (d.regOld h) (d.inR h i) (Rg.ownR 0 h Z) O) Z Z Z Z λw3 _ _ a v Y T=>?_;have hL1:=h.ext v.below;have hb1:=h.below.trans (v.below.mono h.below.size);have h:=Y;obtain⟨_,_,rfl,P,W⟩:=dP T;obtain⟨p9,rfl,s8⟩:=aJ P;obtain⟨_,rfl,Q⟩:=kQ W;obtain rfl:=Q;refine X0 14 Z (qn Z F ?_ ?_)<;>intro F
 .refine X0 6 Z ?_;have h:=h.unbase a.below (show HN [] from trivial);cases qe F;exact aC qa (ρ:=((List qw)×Int)) [oV (List qw) [oS U 0 0],oV Int [vi r3]] h ⟨Z,Z,G⟩ (Cr h (aj h kP ve (by rfl)))
 refine X0 3 Z (dI h F bv Z λ_ _ h F=>X0 3 Z (qn Z F ?_ ?_))<;>intro F
 .refine X0 5 Z ?_;have h:=h.unbase a.below (show HN [] from trivial);cases qe F;exact aC qa (ρ:=((List qw)×Int)) [oV (List qw) [oS U 0 0],oV Int [vi 2]] h ⟨Z,Z,G⟩ (Cr h (aj h kP ve (by rfl)))
 refine X0 4 Z (mR h F (uy (h.old (qm.mono s8 a.old))) Z λ_ _ h F=>X0 3 Z (qn Z F ?_ ?_))<;>intro F
 .refine X0 5 Z ?_;have h:=h.unbase a.below (show HN [] from trivial);cases qe F;exact aC qa (ρ:=((List qw)×Int)) [oV (List qw) [oS U 0 0],oV Int [vi 3]] h ⟨Z,Z,G⟩ (Cr h (aj h kP ve (by rfl)))
 refine X0 6 Z (uY h F (wd (h.old (qm.mono s8 a.old))) Z λf _ _ b D h F=>X0 9 Z ?_);obtain⟨o1,F,I⟩:=qc F;refine qq (rL (λm e w'=>∃S3 x1 A,oa Cg r2 f m x1 A=V o1/\e=[(2,vi Cg),(3,vi c),(10,.pointer p9),(12,oL b f D),(39,oL b f D),(40,vi (f.length:Int)),(41,vi A)]/\SH w3 w' [oW S3 (x1:List qw) [oL b f D]]) n ⟨_,_,_,F,Z,h⟩ Z ?_);rintro m1 _ _ ⟨S3,x1,A,F,rfl,h⟩;rcases m1 with _|m1
 .cases F
 refine X0 5 Z (qn Z F ?_ ?_)<;>intro F
 .refine X0 6 Z ?_;obtain⟨y1,y,F⟩:=qc F;have k:=bJ y;have h:=h.lrn0 0 Z;obtain⟨_,o_1,_,_,M,N,-,u,J⟩:=(tV (h.lrnO 0 Z)).1.at y;have R:=u;obtain⟨a4,k9,rfl,_⟩:=eX u;have h:=h.lrnAdd 0 Z R;refine zx M N ⟨k.1,qE k.2.1 (tV (h.lrnO 0 Z)).2⟩ Z (zc 0 J Z (qi qa h Z Z Z λ_ H h=>cr Z (zs 0 h Z λ_ h=>X2 9 0 0 h Z (qc6 h F (yf (h.old (qm.mono s8 a.old)) ⟨_,_,Z,(vv (qm.mono (h.lrnS 1 0 Z Z) (h.lrnB 1 Z))).1⟩) Z λr7 _ S4 _ h F=>?_))));obtain rfl:=qC (h.own 0 Z);refine cr Z (mR h F (tq (h.own 0 Z)) Z λr8 _ h F=>?_);obtain⟨g,z,F⟩:=qc F;have l:=bJ z;have h:=h.unlrn 2 Z;have h:=h.p [2,0,1] Z;obtain⟨_,S6,_,h⟩:=h.take z;obtain⟨C,B,rfl,-⟩:=eX (h.own 0 Z);obtain⟨S7,h⟩:=EM h;obtain⟨_,p,-,-,K⟩:=h.holeAt 1 Z;obtain⟨q2,t⟩:∃q,q=0+(A).toNat*qm.k qw:=⟨_,Z⟩;refine zx p t ⟨l.1,qE l.2.1 K⟩ Z (cr Z (DY qa 1 2 h Z p t Z Z Z Z Z Z λ_ h=>?_));replace h:SH _ _ [oW S7 (g.Bk:List Int) [oL C g.Bk B],Ch.hole S6 (x1:List qw) b f.length D (A).toNat [vi g.Bn,oL C g.Bk B,vi r8],oW S4 (r7:qg) (pE r7),oX H (wL y1 a4 k9) 56]:=h;refine X0 6 Z ?_;obtain⟨_,h⟩:=h.gather [1,2,3] (xQ (⟨g.Bn,g.Bk,r8⟩:qw) h sO (qS 0 h Z) sO (by rfl) (by rfl)) Z;have h:=h.put;obtain⟨_,h⟩:=EE (S:=_) h;exact rK ⟨_,_,_,F,Z,h.p [0] Z⟩ Z
 refine qy Z ?_;cases qe F;have F:=I;refine X0 4 Z ?_;obtain⟨_,X,F⟩:=qc F;refine xc (cB 28 Z) (MS 0 h Z X) Z Z Z Z ?_;rintro _ ⟨_,h⟩;refine X0 6 Z (mR h F (yV (h.own 0 Z)) Z λ_ _ h F=>cr Z ?_);obtain⟨x3,x,F⟩:=qc F;obtain⟨a5,a3,s,o,L,g1⟩:=VT (h.sl 0 Z).1 x;refine dF (KF qa Z Z Z (VS g1 (h.sl 0 Z).2) s o L Z Z Z Z) Z ?_;have h:=h.cutS 0 Z x s o;refine X0 3 Z ?_;have h:=h.unbase a.below ⟨λ_ h=>h,G⟩;cases qe F;exact aC qa (ρ:=((List qw)×Int)) [oV (List qw) [oL a5 x3 a3],oV Int [vi 0]] h ⟨Z,Z,G⟩ (Cr h (aj h (qS 0 h Z) ve (by rfl)))
def lB(n:Nat)(Ce:aZ)(Cf:Int)(Cg:Int):Option ((Option qT)×qw×Int):=(lT n Ce Cf).bind λ|(U,a)=>(bif (a != 0) then V (U,(⟨0,[],0⟩:qw),a) else(sn n Cg).bind λd=>bif (!d) then V (U,(⟨0,[],0⟩:qw),2) else(oA n U).bind λf=>(qG f Cf).bind λb=>bif decide (b > 300) then V (U,(⟨0,[],0⟩:qw),3) else bif (b==0) then V (U,(⟨0,[],0⟩:qw),5) else U)|(V (⟨_,m,l,⟨k,i,x1⟩⟩),_)=>((sn n Cg).bind λg=>bif (!g) then V (U,(⟨0,[],0⟩:qw),2) else(oA n (V (⟨(⟨(⟨(⟨Ce.Ac.Aq.As⟩:qD),(⟨Ce.Ac.Aa.Ab,Ce.Ac.Aa.Ap,Ce.Ac.Aa.Ai⟩:qk),Ce.Ac.Ah⟩:qf),(⟨Ce.Aj.Bi,Ce.Aj.Bb,Ce.Aj.Be,Ce.Aj.Az,Ce.Aj.Bd⟩:qH),Ce.Ay,Ce.Am⟩:aZ),m,l,(⟨k,i,x1⟩:qu)⟩:qT))).bind λh=>(qG h Cf).bind λc=>bif decide (c > 300) then V (U,(⟨0,[],0⟩:qw),3) else bif (c==0) then V (U,(⟨0,[],0⟩:qw),5) else U)
theorem MA{A}(hA:∀b,A b->old w b){Ce:aZ}{Cf Cg}(P:qm.R w A Ce cs1){r:(Option qT)×qw×Int}(F:lB n Ce Cf Cg=V r):yP prog 41 [gv Ce cs1,vi Cf,vi Cg] w A r:=by
 obtain⟨p1,L,u,t,p,k3,s,l,D,y,H,z,I,B,rfl,s1,s2,s3,s4,s5,s6,s7⟩:=cF P;have hg:=Rg.start hA;refine gc func41 Z (m:=77) Z Z (λh=>?_);refine db (qK h Z Z λ_ N h=>cr Z (qi qa h Z Z Z λ_ O h=>X1 6 1 h Z ?_));obtain⟨_,hr1,F⟩:=qc F;refine IT (cB 30 Z) (EL (h.old (qm.mono P hg.old)) hr1) Z Z Z Z ?_;rintro _ _ _ S (⟨i1,rfl,rfl,rfl⟩|⟨S2,J,T,C,x1,S3,c,W,a,v,S4,f,X,d,K,bb3,S5,i,Y,g,M,S6,o,e,k,x5,rfl,rfl,rfl⟩)
 .replace h:SH _ _ [oX O TU 56,oX N (iy Ce p1 u p s D H I L t k3 l y z B) 40]:=SH.appendN h S (show HN [] from trivial);refine X0 12 Z (qn Z F ?_ ?_)<;>intro F
  .refine db (dF (qB qa [] [] z8) Z (mr Z (zs 0 h Z λ_ h=>X0 2 Z ?_)));obtain rfl:=qe F;have hv1:gk.Rs (ρ:=((Option qT)×qw×Int)) h.wc (vJ A w h.wc) (U,(⟨0,[],0⟩:qw),i1) [oV (Option qT) [.pointer U],oV qw TU,oV Int [vi i1]]:=⟨_,_,Z,Z,⟨_,_,Z,(hg.outR h (vr (⟨0,[],0⟩:qw) pP)),⟨_,Z,Z⟩⟩⟩;exact gn qa (ρ:=((Option qT)×qw×Int)) (r:=(U,(⟨0,[],0⟩:qw),i1)) [oV (Option qT) [.pointer U],oV qw TU,oV Int [vi i1]] h ⟨Z,⟨_,_,_,Z,Z,h.box 0 Z,Z⟩,Z,G⟩ hv1
  refine X0 5 Z (dI h F BS Z λ_ _ h F=>X0 2 Z (qn Z F ?_ ?_))<;>intro F
  .refine db (dF (qB qa [] [] z8) Z (cr Z (zs 0 h Z λ_ h=>X0 2 Z ?_)));obtain rfl:=qe F;have hv2:gk.Rs (ρ:=((Option qT)×qw×Int)) h.wc (vJ A w h.wc) (U,(⟨0,[],0⟩:qw),2) [oV (Option qT) [.pointer U],oV qw TU,oV Int [vi 2]]:=⟨_,_,Z,Z,⟨_,_,Z,(hg.outR h (vr (⟨0,[],0⟩:qw) pP)),⟨_,Z,Z⟩⟩⟩;exact gn qa (ρ:=((Option qT)×qw×Int)) (r:=(U,(⟨0,[],0⟩:qw),2)) [oV (Option qT) [.pointer U],oV qw TU,oV Int [vi 2]] h ⟨Z,⟨_,_,_,Z,Z,h.box 0 Z,Z⟩,Z,G⟩ hv2
  refine X0 4 Z (uY h F (yL Z) Z λ_ _ _ _ _ h F=>cr Z ?_);obtain⟨_,_,F,Q,_,_,_,_,hp1,hq1,rfl,hc3⟩:=(h.sl 0 Z).1.ix F;refine zx hp1 hq1 ⟨Q.1,qE Q.2.1 (h.sl 0 Z).2⟩ Z (zc 0 hc3 Z (X0 8 Z (qn Z F ?_ ?_)))<;>intro F
  .refine db (dF (qB qa [] [] z8) Z (cr Z (zs 1 h Z λ_ h=>X0 2 Z ?_)));obtain rfl:=qe F;have hv3:gk.Rs (ρ:=((Option qT)×qw×Int)) h.wc (vJ A w h.wc) (U,(⟨0,[],0⟩:qw),3) [oV (Option qT) [.pointer U],oV qw TU,oV Int [vi 3]]:=⟨_,_,Z,Z,⟨_,_,Z,(hg.outR h (vr (⟨0,[],0⟩:qw) pP)),⟨_,Z,Z⟩⟩⟩;exact gn qa (ρ:=((Option qT)×qw×Int)) (r:=(U,(⟨0,[],0⟩:qw),3)) [oV (Option qT) [.pointer U],oV qw TU,oV Int [vi 3]] h ⟨Z,⟨_,_,_,Z,Z,h.box 1 Z,Z⟩,Z,G⟩ hv3
  refine X0 7 Z (qn Z F ?_ ?_)<;>intro F
  .refine db (dF (qB qa [] [] z8) Z (cr Z (zs 1 h Z λ_ h=>X0 2 Z ?_)));obtain rfl:=qe F;have hv4:gk.Rs (ρ:=((Option qT)×qw×Int)) h.wc (vJ A w h.wc) (U,(⟨0,[],0⟩:qw),5) [oV (Option qT) [.pointer U],oV qw TU,oV Int [vi 5]]:=⟨_,_,Z,Z,⟨_,_,Z,(hg.outR h (vr (⟨0,[],0⟩:qw) pP)),⟨_,Z,Z⟩⟩⟩;exact gn qa (ρ:=((Option qT)×qw×Int)) (r:=(U,(⟨0,[],0⟩:qw),5)) [oV (Option qT) [.pointer U],oV qw TU,oV Int [vi 5]] h ⟨Z,⟨_,_,_,Z,Z,h.box 1 Z,Z⟩,Z,G⟩ hv4
  refine N7 ?_;cases F
 replace h:SH _ _ [oW S2 (x1:List qg) [oS J T C],oW S3 (v:List qg) [oS c W a],oW S4 (K:List Bool) [oS f X d],oX bb3 [oL p1 Ce.Ac.Aq.As L,oL u Ce.Ac.Aa.Ab t,oL p Ce.Ac.Aa.Ap k3,oL s Ce.Ac.Aa.Ai l,oL D Ce.Ac.Ah y,.string Ce.Aj.Bi,vi Ce.Aj.Bb,vi Ce.Aj.Be,vi Ce.Aj.Az,vi Ce.Aj.Bd,oL H Ce.Ay z,oL I Ce.Am B,oS o e k,oS i Y g,oS f X d,oS c W a,oS J T C] 144,oW S5 (M:List Bool) [oS i Y g],oW S6 (x5:List qx) [oS o e k],oX O TU 56,oX N (iy Ce p1 u p s D H I L t k3 l y z B) 40]:=SH.appendN h S ⟨λ_ h=>h,⟨λ_ h=>h,⟨λ_ h=>h,⟨λ_ h=>h,⟨λ_ h=>h,⟨λ_ h=>h,G⟩⟩⟩⟩⟩⟩;obtain rfl:=(h.sl 0 Z).2;obtain rfl:=(h.sl 1 Z).2;obtain rfl:=(h.sl 2 Z).2;obtain rfl:=(h.sl 4 Z).2;obtain rfl:=(h.sl 5 Z).2;refine X0 12 Z (bQ Z Z (X0 5 Z (dI h F BS Z λ_ _ h F=>X0 2 Z (qn Z F ?_ ?_))))<;>intro F
 .refine db (dF (qB qa [] [] z8) Z (cr Z (zs 6 h Z λ_ h=>X0 2 Z ?_)));obtain rfl:=qe F;have hv5:gk.Rs (ρ:=((Option qT)×qw×Int)) h.wc (vJ A w h.wc) (U,(⟨0,[],0⟩:qw),2) [oV (Option qT) [.pointer U],oV qw TU,oV Int [vi 2]]:=⟨_,_,Z,Z,⟨_,_,Z,(hg.outR h (vr (⟨0,[],0⟩:qw) pP)),⟨_,Z,Z⟩⟩⟩;exact gn qa (ρ:=((Option qT)×qw×Int)) (r:=(U,(⟨0,[],0⟩:qw),2)) [oV (Option qT) [.pointer U],oV qw TU,oV Int [vi 2]] h ⟨Z,⟨_,_,_,Z,Z,h.box 6 Z,Z⟩,Z,G⟩ hv5
 refine X0 4 Z (uY h F (yL (pm (x:=(⟨(⟨Ce.Ac,Ce.Aj,Ce.Ay,Ce.Am⟩:aZ),x5,M,(⟨K,v,x1⟩:qu)⟩:qT)) 3 h Z (show qm.R _ _ ((⟨(⟨Ce.Ac,Ce.Aj,Ce.Ay,Ce.Am⟩:aZ),x5,M,(⟨K,v,x1⟩:qu)⟩:qT):qT) _ from⟨[oL p1 Ce.Ac.Aq.As L,oL u Ce.Ac.Aa.Ab t,oL p Ce.Ac.Aa.Ap k3,oL s Ce.Ac.Aa.Ai l,oL D Ce.Ac.Ah y,.string Ce.Aj.Bi,vi Ce.Aj.Bb,vi Ce.Aj.Be,vi Ce.Aj.Az,vi Ce.Aj.Bd,oL H Ce.Ay z,oL I Ce.Am B],[oL o x5 k,oL i M g,oL f K d,oL c v a,oL J x1 C],Z,⟨[oL p1 Ce.Ac.Aq.As L,oL u Ce.Ac.Aa.Ab t,oL p Ce.Ac.Aa.Ap k3,oL s Ce.Ac.Aa.Ai l,oL D Ce.Ac.Ah y],[.string Ce.Aj.Bi,vi Ce.Aj.Bb,vi Ce.Aj.Be,vi Ce.Aj.Az,vi Ce.Aj.Bd,oL H Ce.Ay z,oL I Ce.Am B],Z,⟨[oL p1 Ce.Ac.Aq.As L],[oL u Ce.Ac.Aa.Ab t,oL p Ce.Ac.Aa.Ap k3,oL s Ce.Ac.Aa.Ai l,oL D Ce.Ac.Ah y],Z,⟨_,_,Z,(h.oldS (s1.mono hg.old))⟩,⟨[oL u Ce.Ac.Aa.Ab t,oL p Ce.Ac.Aa.Ap k3,oL s Ce.Ac.Aa.Ai l],[oL D Ce.Ac.Ah y],Z,⟨[oL u Ce.Ac.Aa.Ab t],[oL p Ce.Ac.Aa.Ap k3,oL s Ce.Ac.Aa.Ai l],Z,⟨_,_,Z,(h.oldS (s2.mono hg.old))⟩,⟨[oL p Ce.Ac.Aa.Ap k3],[oL s Ce.Ac.Aa.Ai l],Z,⟨_,_,Z,(h.oldS (s3.mono hg.old))⟩,⟨_,_,Z,(h.oldS (s4.mono hg.old))⟩⟩⟩,⟨_,_,Z,(h.oldS (s5.mono hg.old))⟩⟩⟩,⟨[.string Ce.Aj.Bi,vi Ce.Aj.Bb,vi Ce.Aj.Be,vi Ce.Aj.Az,vi Ce.Aj.Bd],[oL H Ce.Ay z,oL I Ce.Am B],Z,⟨[.string Ce.Aj.Bi],[vi Ce.Aj.Bb,vi Ce.Aj.Be,vi Ce.Aj.Az,vi Ce.Aj.Bd],Z,Z,⟨[vi Ce.Aj.Bb],[vi Ce.Aj.Be,vi Ce.Aj.Az,vi Ce.Aj.Bd],Z,Z,⟨[vi Ce.Aj.Be],[vi Ce.Aj.Az,vi Ce.Aj.Bd],Z,Z,⟨[vi Ce.Aj.Az],[vi Ce.Aj.Bd],Z,Z,Z⟩⟩⟩⟩,⟨[oL H Ce.Ay z],[oL I Ce.Am B],Z,⟨_,_,Z,(h.oldS (s6.mono hg.old))⟩,⟨_,_,Z,(h.oldS (s7.mono hg.old))⟩⟩⟩⟩,⟨[oL o x5 k],[oL i M g,oL f K d,oL c v a,oL J x1 C],Z,(h.own 5 Z),⟨[oL i M g],[oL f K d,oL c v a,oL J x1 C],Z,(h.own 4 Z),⟨[oL f K d],[oL c v a,oL J x1 C],Z,(h.own 2 Z),⟨[oL c v a],[oL J x1 C],Z,(h.own 1 Z),(h.own 0 Z)⟩⟩⟩⟩⟩))) Z λ_ _ _ _ _ h F=>cr Z ?_);obtain⟨_,_,F,R,_,_,_,_,hp2,hq2,rfl,hc7⟩:=(h.sl 0 Z).1.ix F;refine zx hp2 hq2 ⟨R.1,qE R.2.1 (h.sl 0 Z).2⟩ Z (zc 0 hc7 Z (X0 8 Z (qn Z F ?_ ?_)))<;>intro F
 .refine db (dF (qB qa [] [] z8) Z (cr Z (zs 7 h Z λ_ h=>X0 2 Z ?_)));obtain rfl:=qe F;have hv6:gk.Rs (ρ:=((Option qT)×qw×Int)) h.wc (vJ A w h.wc) (U,(⟨0,[],0⟩:qw),3) [oV (Option qT) [.pointer U],oV qw TU,oV Int [vi 3]]:=⟨_,_,Z,Z,⟨_,_,Z,(hg.outR h (vr (⟨0,[],0⟩:qw) pP)),⟨_,Z,Z⟩⟩⟩;exact gn qa (ρ:=((Option qT)×qw×Int)) (r:=(U,(⟨0,[],0⟩:qw),3)) [oV (Option qT) [.pointer U],oV qw TU,oV Int [vi 3]] h ⟨Z,⟨_,_,_,Z,Z,h.box 7 Z,Z⟩,Z,G⟩ hv6
 refine X0 7 Z (qn Z F ?_ ?_)<;>intro F
 .refine db (dF (qB qa [] [] z8) Z (cr Z (zs 7 h Z λ_ h=>X0 2 Z ?_)));obtain rfl:=qe F;have hv7:gk.Rs (ρ:=((Option qT)×qw×Int)) h.wc (vJ A w h.wc) (U,(⟨0,[],0⟩:qw),5) [oV (Option qT) [.pointer U],oV qw TU,oV Int [vi 5]]:=⟨_,_,Z,Z,⟨_,_,Z,(hg.outR h (vr (⟨0,[],0⟩:qw) pP)),⟨_,Z,Z⟩⟩⟩;exact gn qa (ρ:=((Option qT)×qw×Int)) (r:=(U,(⟨0,[],0⟩:qw),5)) [oV (Option qT) [.pointer U],oV qw TU,oV Int [vi 5]] h ⟨Z,⟨_,_,_,Z,Z,h.box 7 Z,Z⟩,Z,G⟩ hv7
 refine N7 ?_;cases F
def kE(n:Nat)(j:aZ)(node:Int)(mode:Int):Option (qw×Int):=(lB n j node mode).bind λ(_,a,b)=>V (a,b)
theorem EF{A}(C:∀b,A b->old w b){j:aZ}{node mode}(a:qm.R w A j cs1){r:qw×Int}(F:kE n j node mode=V r):yP prog 15 [gv j cs1,vi node,vi mode] w A r:=by
 obtain⟨_,_,_,_,_,_,_,_,_,_,_,_,_,_,rfl,_,_,_,_,_,_,_⟩:=cF a;have B:=Rg.start C;refine gc func15 Z (m:=21) Z Z (λh=>?_);refine db (qK h Z Z λ_ _ h=>qi qa h Z Z Z λ_ _ h=>X1 7 1 h Z ?_);obtain⟨⟨z,f,g⟩,k,F⟩:=qc F;refine vI (z,f,g) B h (cB 41 Z) (MA (B.atB h) (B.inBR h a) k) Z Z Z Z λ_ _ _ h p=>?_;obtain⟨_,_,rfl,l,s⟩:=dP p;obtain⟨_,rfl,-⟩:=aJ l;obtain⟨_,_,rfl,c,t⟩:=dP s;have o:=c;obtain⟨x,v,rfl,_⟩:=eX c;have h:=h.grpAdd 0 Z o;obtain⟨_,rfl,d⟩:=kQ t;have y:=d;obtain rfl:=d;refine qbq Z (qi qa h Z Z Z λ_ _ h=>cr Z (zs 0 h Z λ_ h=>X1 6 0 h Z (zs 2 h Z λ_ h=>X0 2 Z ?_)));obtain rfl:=qe F;have u:gk.Rs (ρ:=(qw×Int)) h.wc (vJ A w h.wc) (f,g) [oV qw (wL f x v),oV Int [vi g]]:=⟨_,_,Z,(B.outR h (Rg.grpR 1 0 h Z Z)),⟨_,Z,Z⟩⟩;have i:=h;have h:=h.p [0,2,3] Z;exact gn qa (ρ:=(qw×Int)) (r:=(f,g)) [oV qw (wL f x v),oV Int [vi g]] h ⟨⟨_,_,_,Z,Z,i.box 2 Z,Z⟩,Z,G⟩ u
def dH(g:Option aS)(mode:Int)(b:List qw):Nat->(List qw)->Int->Option ((List qw)×Int)|0,_,_=>U|n+1,x1,a=>bif decide (a<(b.length:Int)) then(qG x1 a).bind λc=>(ng n g c.Bn c.Bk mode).bind λf=>(qG x1 a).bind λd=>dH g mode b n (am x1 a (⟨d.Bn,d.Bk,f⟩:qw)) (qj (a+1)) else V (x1,a)
def ck(n:Nat)(d:Option aS)(node:Int)(mode:Int):Option (qw×Int):=(gN n d node).bind λr1=>bif decide (r1 > 300) then V ((⟨0,[],0⟩:qw),3) else(nh n d node).bind λa=>bif ((a.length:Int)==0) then V ((⟨0,[],0⟩:qw),5) else(dH d mode a n a 0).bind λ(x1,_)=>(MR n x1 mode).bind λc=>(qG c 0).bind λb=>V ((⟨b.Bn,b.Bk,b.Af⟩:qw),0)
theorem sD{W:Option aS}{node mode}(y:Ro w W cs1){r:qw×Int}(F:ck n W node mode=V r):qN prog 40 [gv W cs1,vi node,vi mode] w r:=by
 obtain⟨p1,rfl,s1⟩:=aJ y;refine zV 48 func40 Z λh=>db (qi qa h Z Z Z λ_ a h=>X0 7 Z (mR h F (uy (h.old s1)) Z λ_ _ h F=>X0 2 Z (qn Z F ?_ ?_)))<;>intro F
 .refine db (dF (qB qa [] [] z8) Z (zs 0 h Z λ_ h=>X0 2 Z ?_));cases qe F;exact aC qa (ρ:=(qw×Int)) [oV qw TU,oV Int [vi 3]] h ⟨⟨_,_,_,Z,Z,h.box 0 Z,Z⟩,Z,G⟩ (Cr h (aj h (xQ (⟨0,[],0⟩:qw) h sO kP sO (by rfl) (by rfl)) ve (by rfl)))
 refine X0 5 Z (uY h F (wd (h.old s1)) Z λt _ _ K J h F=>X0 9 Z (qn Z F ?_ ?_))<;>intro F
 .refine db (dF (qB qa [] [] z8) Z (zs 1 h Z λ_ h=>X0 2 Z ?_));cases qe F;exact aC qa (ρ:=(qw×Int)) [oV qw TU,oV Int [vi 5]] h ⟨⟨_,_,_,Z,Z,h.box 1 Z,Z⟩,Z,G⟩ (Cr h (aj h (xQ (⟨0,[],0⟩:qw) h sO kP sO (by rfl) (by rfl)) ve (by rfl)))
 refine X0 8 Z ?_;obtain⟨o1,F,x⟩:=qc F;refine qq (rL (λm e w'=>∃S2 x1 u,dH W mode t m x1 u=V o1/\e=[(0,.pointer p1),(2,vi mode),(6,vp a),(8,oL K t J),(23,oL K t J),(24,vi (t.length:Int)),(25,vi u)]/\SH w w' [oW S2 (x1:List qw) [oL K t J],oX a TU 56]) n ⟨_,_,_,F,Z,h⟩ Z ?_);rintro L _ _ ⟨S2,x1,u,F,rfl,h⟩;rcases L with _|L
 .cases F
 refine X0 5 Z (qn Z F ?_ ?_)<;>intro F
 .refine X0 6 Z ?_;obtain⟨_,o,F⟩:=qc F;have b:=bJ o;have h:=h.lrn0 0 Z;obtain⟨_,O,_,_,C,D,-,l,z⟩:=(tV (h.lrnO 0 Z)).1.at o;have H:=l;obtain⟨_,_,rfl,_⟩:=eX l;have h:=h.lrnAdd 0 Z H;refine zx C D ⟨b.1,qE b.2.1 (tV (h.lrnO 0 Z)).2⟩ Z (zc 0 z Z (qi qa h Z Z Z λ_ _ h=>cr Z (zs 0 h Z λ_ h=>X2 10 0 0 h Z (mR h F (zD (h.old s1) ⟨_,_,Z,(vv (qm.mono (h.lrnS 1 0 Z Z) (h.lrnB 1 Z))).1⟩) Z λQ _ h F=>?_))));obtain⟨M,p,F⟩:=qc F;have c:=bJ p;have h:=h.unlrn 1 Z;have h:=h.p [1,0,2] Z;obtain⟨_,_,_,h⟩:=h.take p;obtain⟨_,_,rfl,-⟩:=eX (h.own 0 Z);obtain⟨_,h⟩:=EM h;obtain⟨_,f,-,-,A⟩:=h.holeAt 1 Z;obtain⟨R,i⟩:∃q,q=0+(u).toNat*qm.k qw:=⟨_,Z⟩;refine zx f i ⟨c.1,qE c.2.1 A⟩ Z (cr Z (DY qa 1 2 h Z f i Z Z Z Z Z Z λ_ h=>X0 6 Z ?_));obtain⟨_,h⟩:=h.gather [1,2,3] (xQ (⟨M.Bn,M.Bk,Q⟩:qw) h sO (qS 0 h Z) sO (by rfl) (by rfl)) Z;have h:=h.put;obtain⟨_,h⟩:=EE (S:=_) h;exact rK ⟨_,_,_,F,Z,h.p [0,2] Z⟩ Z
 refine qy Z ?_;cases qe F;have F:=x;refine X0 4 Z ?_;obtain⟨_,I,F⟩:=qc F;refine xc (cB 28 Z) (MS 0 h Z I) Z Z Z Z ?_;rintro _ ⟨_,h⟩;refine X0 4 Z ?_;obtain⟨v,s,F⟩:=qc F;have d:=bJ s;obtain⟨_,_,_,h⟩:=h.take s;obtain⟨P,N,rfl,-⟩:=eX (h.own 0 Z);obtain⟨_,h⟩:=EM h;obtain⟨_,g,-,-,B⟩:=h.holeAt 1 Z;obtain⟨T,k⟩:∃q,q=0+(0:Int).toNat*qm.k qw:=⟨_,Z⟩;refine zx g k ⟨d.1,qE d.2.1 B⟩ Z (zc 0 (pZ h 1 Z g k) Z (zs 2 h Z λ_ h=>X0 2 Z ?_));have h:=h.p [0,2] Z;cases qe F;exact aC qa (ρ:=(qw×Int)) [oV qw (wL v P N),oV Int [vi 0]] h ⟨⟨_,_,_,Z,Z,h.box 1 Z,Z⟩,Z,G⟩ (Cr h (aj h (xQ (⟨v.Bn,v.Bk,v.Af⟩:qw) h sO (qS 0 h Z) sO (by rfl) (by rfl)) ve (by rfl)))
def fF(n:Nat)(j:aZ)(node:Int)(mode:Int):Option (qw×Int):=(cL n j mode ([node]:List Int)).bind λ(b,a)=>bif (a != 0) then V ((⟨0,[],0⟩:qw),a) else(ck n b node mode).bind λ(c,d)=>V (c,d)
theorem DD{j:aZ}{node mode}(b:Ro w j cs1){r:qw×Int}(F:fF n j node mode=V r):qN prog 14 [gv j cs1,vi node,vi mode] w r:=by
 obtain⟨_,_,_,_,_,_,_,_,_,_,_,_,_,_,rfl,_,_,_,_,_,_,_⟩:=cF b;refine zV 28 func14 Z λh=>db (qK h Z Z λ_ _ h=>qi qa h Z Z Z λ_ _ h=>X1 7 1 h Z (qt qa [.tmp 13] _ ([node]:List Int) h z9 ⟨Z,G⟩ Z λ_ _ _ h=>?_));have a:Rg (old w) w (old w) w:=.start (λ_ h=>h);obtain⟨⟨A,u⟩,g,F⟩:=qc F;refine qaW (A,u) 0 a h Z (cB 22 Z) (tw (a.atPo 0 h Z) (a.inPo h b) (h.ownG 0 Z) g) Z Z Z Z λ_ _ _ h o=>?_;obtain⟨_,_,rfl,c,p⟩:=dP o;have i:=c;obtain⟨_,rfl,_⟩:=aJ c;have h:=h.grpAdd 0 Z i;obtain⟨_,rfl,d⟩:=kQ p;have y:=d;obtain rfl:=d;refine X0 12 Z (qn Z F ?_ ?_)<;>intro F
 .refine db (dF (qB qa [] [] z8) Z (cr Z (zs 1 h Z λ_ h=>X0 2 Z ?_)));have h:=h.p [1,2] Z;cases qe F;exact aC qa (ρ:=(qw×Int)) [oV qw TU,oV Int [vi u]] h ⟨⟨_,_,_,Z,Z,h.box 0 Z,Z⟩,Z,G⟩ (Cr h (aj h (xQ (⟨0,[],0⟩:qw) h sO kP sO (by rfl) (by rfl)) ve (by rfl)))
 refine X0 6 Z ?_;obtain⟨⟨v,x⟩,k,F⟩:=qc F;refine bB (v,x) h (cB 40 Z) (sD (h.grp 0 0 Z Z) k) Z Z Z Z λ_ _ _ s l=>?_;obtain⟨_,_,_,_,rfl,f,m⟩:=s.cons l;obtain⟨t,z,rfl,-⟩:=eX (f.sh.own 0 Z);obtain⟨rfl,h⟩:=f.lastI m;refine mr Z (zs 2 h Z λ_ h=>X0 2 Z ?_);have h:=h.p [0,2,3] Z;cases qe F;exact aC qa (ρ:=(qw×Int)) [oV qw (wL v t z),oV Int [vi x]] h ⟨⟨_,_,_,Z,Z,h.box 1 Z,Z⟩,Z,G⟩ (Cr h (aj h (qS 0 h Z) ve (by rfl)))
def ux(_:Nat)(graph:Int)(own:Int)(mode:Int):Option Int:=bif (mode==1) then V (qj (graph-own)) else V (qj (own-graph))
theorem IB{graph own mode}  {r:Int}(F:ux n graph own mode=V r):qN prog 43 [vi graph,vi own,vi mode] w r:=by
 refine zV 15 func43 Z λh=>X0 10 Z (qn Z F ?_ ?_)<;>intro F
 .exact X0 7 Z (ri h F Z)
 exact X0 8 Z (ri h F Z)
def tp(n:Nat)(j:aZ)(node:Int)(mode:Int):Option (Int×Int):=(cL n j mode ([node]:List Int)).bind λ(a,b)=>bif (b != 0) then V (0,b) else(ck n a node mode).bind λ(d,c)=>bif (c != 0) then V (0,c) else(a).bind λh=>(qG h.timing.Af node).bind λi=>(rR n i mode).bind λf=>(ux n f d.Af mode).bind λg=>V (g,0)
theorem GX{j:aZ}{node mode}(c:Ro w j cs1){r:Int×Int}(F:tp n j node mode=V r):qN prog 17 [gv j cs1,vi node,vi mode] w r:=by
 obtain⟨_,_,_,_,_,_,_,_,_,_,_,_,_,_,rfl,_,_,_,_,_,_,_⟩:=cF c;refine zV 46 func17 Z λh=>db (qK h Z Z λ_ _ h=>X1 8 0 h Z (qt qa [.tmp 14] _ ([node]:List Int) h z9 ⟨Z,G⟩ Z λ_ _ _ h=>?_));have b:Rg (old w) w (old w) w:=.start (λ_ h=>h);obtain⟨⟨R,K⟩,s,F⟩:=qc F;refine pO (R,K) b h (cB 22 Z) (tw (b.regOld h) (b.inR h c) (Rg.ownR 0 h Z) s) Z Z Z Z λ_ _ _ a g I B=>?_;have O:=h.ext g.below;have P:=h.below.trans (g.below.mono h.below.size);have h:=I;obtain⟨_,_,rfl,t,C⟩:=dP B;obtain⟨_,rfl,N⟩:=aJ t;obtain⟨_,rfl,u⟩:=kQ C;obtain rfl:=u;refine X0 12 Z (qn Z F ?_ ?_)<;>intro F
 .refine X0 6 Z ?_;have h:=h.unbase a.below (show HN [] from trivial);cases qe F;exact aC qa (ρ:=(Int×Int)) [oV Int [vi 0],oV Int [vi K]] h ⟨Z,Z,G⟩ (Cr h (aj h sO ve (by rfl)))
 refine X0 6 Z ?_;obtain⟨⟨S,L⟩,v,F⟩:=qc F;refine bB (S,L) h (cB 40 Z) (sD (h.old (qm.mono N a.old)) v) Z Z Z Z λ_ _ _ D x=>?_;obtain⟨_,_,_,_,rfl,i,y⟩:=D.cons x;obtain⟨_,_,rfl,-⟩:=eX (i.sh.own 0 Z);obtain⟨rfl,h⟩:=i.lastI y;refine CK Z (qi qa h Z Z Z λ_ _ h=>zs 0 h Z λ_ h=>X0 8 Z (qn Z F ?_ ?_))<;>intro F
 .refine X0 6 Z ?_;have h:=h.unbase a.below ⟨λ_ h=>h,⟨λ_ h=>h,G⟩⟩;cases qe F;exact aC qa (ρ:=(Int×Int)) [oV Int [vi 0],oV Int [vi L]] h ⟨Z,Z,G⟩ (Cr h (aj h sO ve (by rfl)))
 refine N7 (rD (xm Z ?_));obtain⟨_,H,F⟩:=qc F;obtain⟨_,Q,_,rfl,-,z,k⟩:=Cs N H;obtain⟨_,_,_,_,_,_,_,_,_,_,_,_,_,_,_,_,_,_,_,_,_,_,_,rfl,_,_,_,_,_,_,_,_,_,J,_,_⟩:=oM z;refine qcO Z (dZ 14 k h Z (xm Z ?_));obtain⟨W,_,F,m,_,_,_,_,o,p,A,l⟩:=J.ix F;obtain rfl:=qC A;refine fU o p m Z (dZ 0 l h Z (xm Z ?_));obtain⟨T,d,F⟩:=qc F;refine dB T (N6 _) (cB 27 Z) (λ_ X=>tq (qI W) d) Z Z Z Z (Y1 2 0 h Z ?_);refine xm Z ?_;obtain⟨M,f,F⟩:=qc F;refine dB M (N6 _) (cB 43 Z) (λ_ X=>IB  f) Z Z Z Z (xz Z (dN h λ_ h=>?_));have h:=h.unbase a.below ⟨λ_ h=>h,⟨λ_ h=>h,G⟩⟩;cases qe F;exact aC qa (ρ:=(Int×Int)) [oV Int [vi M],oV Int [vi 0]] h ⟨Z,Z,G⟩ (Cr h (aj h sO ve (by rfl)))
def cw(t:qU):Nat->Int->Option (eE Bool Int)|0,_=>U|n+1,a=>bif decide (a<(t.Bg.length:Int)) then(HD a (t.Bj.length:Int)).bind λb=>bif decide (b > 0) then(qG t.Bg (qj (a-1))).bind λc=>(qG t.Bg a).bind λd=>bif decide (c > d) then V (.ret Cd) else bif decide (a>=(t.Bj.length:Int)) then(qG t.Bg (qj (a-(t.Bj.length:Int)))).bind λf=>(qG t.Bg a).bind λg=>bif decide (f > g) then V (.ret Cd) else cw t n (qj (a+1)) else cw t n (qj (a+1)) else bif decide (a>=(t.Bj.length:Int)) then(qG t.Bg (qj (a-(t.Bj.length:Int)))).bind λh=>(qG t.Bg a).bind λi=>bif decide (h > i) then V (.ret Cd) else cw t n (qj (a+1)) else cw t n (qj (a+1)) else V (.nxt a)
def tz(n:Nat)(t:qU):Option Bool:=(uM n t).bind λr1=>bif (!r1) then V Cd else(cw t n 0).bind λ|.ret r=>V r|.nxt _=>V An
theorem HI{t:qU}(f:Ro w t cs1){r:Bool}(F:tz n t=V r):qN prog 90 [gv t cs1] w r:=by
 obtain⟨p1,S,W,T,X,k3,rfl,_,_,c⟩:=ee f;refine zV 56 func90 Z λh=>db (qK h Z Z λ_ d h=>X1 6 0 h Z (dI h F (BR (h.old f)) Z λ_ _ h F=>X0 2 Z (qn Z F ?_ ?_)))<;>intro F
 .exact X0 4 Z (rb h F Z)
 refine X1 13 0 h Z ?_;obtain⟨o1,F,a⟩:=qc F;refine qq (rL (λm e w'=>∃P,cw t m P=V o1/\e=[(1,vp d),(3,vi (t.Bj.length:Int)),(4,vi P)]/\SH w w' [oX d (lc t p1 W X S T k3) 175]) n ⟨_,F,Z,h⟩ Z ?_);rintro Q _ _ ⟨P,F,rfl,h⟩;rcases Q with _|Q
 .cases F
 refine X1 9 0 h Z (qn Z F ?_ ?_)<;>intro F
 .refine X0 4 Z (rD (xz Z ?_));obtain⟨_,b,F⟩:=qc F;obtain⟨R,b⟩:=vx b;refine qbI (λ_ Y=>N5 R Z Z) Z ?_;rw[b];refine xz Z (bu (t:=22) F Z ?_ ?_)<;>intro F
  .refine Y1 4 0 h Z ?_;refine Y0 5 Z ?_;obtain⟨_,_,F,s,_,_,_,_,A,J,rfl,g⟩:=c.ix F;refine fU A J s Z (Y0 1 Z (dZ 0 g h Z (Y1 4 0 h Z ?_)));refine Y0 3 Z ?_;obtain⟨_,_,F,u,_,_,_,_,B,K,rfl,i⟩:=c.ix F;refine fU B K u Z (Y0 1 Z (dZ 0 i h Z (Y0 4 Z (bu (t:=36) F Z ?_ ?_))))<;>intro F
   .refine Y0 19 Z (dN h λ_ h=>dO Z Z (X0 4 Z ?_));cases qe F;exact rb h a Z
   refine Y0 8 Z (bu (t:=40) F Z ?_ ?_)<;>intro F
   .refine Y1 4 0 h Z ?_;refine Y0 7 Z ?_;obtain⟨_,_,F,v,_,_,_,_,C,L,rfl,k⟩:=c.ix F;refine fU C L v Z (Y0 1 Z (dZ 0 k h Z (Y1 4 0 h Z ?_)));refine Y0 3 Z ?_;obtain⟨_,_,F,x,_,_,_,_,D,M,rfl,l⟩:=c.ix F;refine fU D M x Z (Y0 1 Z (dZ 0 l h Z (Y0 5 Z (dN h λ_ h=>qn Z F ?_ ?_))))<;>intro F
    .refine X0 4 Z ?_;cases qe F;exact rb h a Z
    exact X0 7 Z (rK ⟨_,F,Z,h⟩ Z)
   exact Y0 16 Z (dN h λ_ h=>bQ Z Z (X0 7 Z (rK ⟨_,F,Z,h⟩ Z)))
  refine Y0 22 Z (bu (t:=40) F Z ?_ ?_)<;>intro F
  .refine Y1 4 0 h Z ?_;refine Y0 7 Z ?_;obtain⟨_,_,F,y,_,_,_,_,H,N,rfl,o⟩:=c.ix F;refine fU H N y Z (Y0 1 Z (dZ 0 o h Z (Y1 4 0 h Z ?_)));refine Y0 3 Z ?_;obtain⟨_,_,F,z,_,_,_,_,I,O,rfl,p⟩:=c.ix F;refine fU I O z Z (Y0 1 Z (dZ 0 p h Z (Y0 5 Z (dN h λ_ h=>qn Z F ?_ ?_))))<;>intro F
   .refine X0 4 Z ?_;cases qe F;exact rb h a Z
   exact X0 7 Z (rK ⟨_,F,Z,h⟩ Z)
  exact Y0 16 Z (dN h λ_ h=>bQ Z Z (X0 7 Z (rK ⟨_,F,Z,h⟩ Z)))
 refine qy Z ?_;cases qe F;exact X0 4 Z (rb h a Z)
def gU(list:List qU):Nat->Int->Option (eE Bool Int)|0,_=>U|n+1,a=>bif decide (a<(list.length:Int)) then(qG list a).bind λb=>(tz n b).bind λr1=>bif (!r1) then V (.ret Cd) else gU list n (qj (a+1)) else V (.nxt a)
def oB(n:Nat)(list:List qU):Option Bool:=(gU list n 0).bind λ|.ret r=>V r|.nxt _=>V An
theorem wH{list:List qU}(b:Ro w list cs1){r:Bool}(F:oB n list=V r):qN prog 45 [gv list cs1] w r:=by
 obtain⟨p1,o,rfl,s1⟩:=b;refine zV 16 func45 Z λh=>X0 9 Z ?_;obtain⟨o1,F,a⟩:=qc F;refine qq (rL (λm e w'=>∃k,gU list m k=V o1/\e=[(0,oL p1 list o),(3,vi k)]/\SH w w' []) n ⟨_,F,Z,h⟩ Z ?_);rintro l _ _ ⟨k,F,rfl,h⟩;rcases l with _|l
 .cases F
 refine X0 8 Z (qn Z F ?_ ?_)<;>intro F
 .refine X0 7 Z ?_;obtain⟨t,_,F,d,_,_,_,_,f,g,i,c⟩:=s1.ix F;obtain⟨_,_,_,_,_,_,rfl,s2,p,s⟩:=ee i;refine ft f g d Z (bL 0 c h Z (dI h F (HI (tL t (h.oldS s2) (h.oldS p) (h.oldS s))) Z λ_ _ h F=>X0 2 Z (qn Z F ?_ ?_)))<;>intro F
  .refine X0 4 Z ?_;cases qe F;exact rb h a Z
  exact X0 7 Z (rK ⟨_,F,Z,h⟩ Z)
 refine qy Z ?_;cases qe F;exact X0 4 Z (rb h a Z)
def dy(b:qQ):Nat->Int->Option (eE Bool Int)|0,_=>U|n+1,a=>bif decide (a<(b.Av.length:Int)) then(qG b.Av a).bind λf=>bif decide (f.Bf<=3) then(qG b.Av a).bind λg=>(oB n g.Bq).bind λc=>bif (!c) then V (.ret Cd) else(qG b.Av a).bind λh=>(oB n h.Ba).bind λd=>bif (!d) then V (.ret Cd) else dy b n (qj (a+1)) else dy b n (qj (a+1)) else V (.nxt a)
def eO(b:qf):Nat->Int->Option (eE Bool Int)|0,_=>U|n+1,a=>bif decide (a<(b.Aq.As.length:Int)) then(qG b.Aq.As a).bind λc=>(dy c n 0).bind λ|.ret r=>V (.ret r)|.nxt _=>eO b n (qj (a+1)) else V (.nxt a)
def nw(n:Nat)(b:qf):Option Bool:=(ki n b).bind λr1=>bif (!r1) then V Cd else(eO b n 0).bind λ|.ret r=>V r|.nxt _=>V An
theorem zQ{b:qf}(f:Ro w b cs1){r:Bool}(F:nw n b=V r):qN prog 18 [gv b cs1] w r:=by
 obtain⟨p1,R,Y,S,p3,k3,p4,T,p5,W,rfl,s1,_,_,_,_⟩:=qZ f;refine zV 54 func18 Z λh=>db (qK h Z Z λ_ a h=>X1 6 0 h Z (dI h F (mJ (h.old f)) Z λ_ _ h F=>X0 2 Z (qn Z F ?_ ?_)))<;>intro F
 .exact X0 4 Z (rb h F Z)
 refine X0 6 Z ?_;obtain⟨o1,F,c⟩:=qc F;refine qq (rL (λm e w'=>∃g,eO b m g=V o1/\e=[(1,vp a),(3,vi g)]/\SH w w' [oX a (qL b p1 Y p3 p4 p5 R S k3 T W) 34]) n ⟨_,F,Z,h⟩ Z ?_);rintro N _ _ ⟨g,F,rfl,h⟩;rcases N with _|N
 .cases F
 refine X1 10 0 h Z (qn Z F ?_ ?_)<;>intro F
 .refine X1 9 0 h Z ?_;obtain⟨y1,_,F,p,_,_,_,_,x,B,I,i⟩:=s1.ix F;obtain⟨_,_,p7,k7,_,_,rfl,_,Q,_⟩:=aV I;refine ft x B p Z (cr Z (bL 3 i h Z (X0 6 Z ?_)));obtain⟨o2,F,d⟩:=qc F;refine qq (rL (λm e w'=>∃M,dy y1 m M=V o2/\e=[(1,vp a),(3,vi g),(4,oL p7 y1.Av k7),(5,vi M)]/\SH w w' [oX a (qL b p1 Y p3 p4 p5 R S k3 T W) 34]) N ⟨_,F,Z,h⟩ Z ?_);rintro X _ _ ⟨M,F,rfl,h⟩;rcases X with _|X
  .cases F
  refine X0 8 Z (qn Z F ?_ ?_)<;>intro F
  .refine X0 7 Z ?_;obtain⟨_,_,F,s,_,_,_,_,y,C,J,k⟩:=Q.ix F;obtain⟨_,_,_,_,rfl,_,_⟩:=bd J;refine ft y C s Z (cr Z (bL 0 k h Z (mr Z (qh (t:=36) F Z ?_ ?_))))<;>intro F
   .refine X0 5 Z ?_;obtain⟨_,_,F,u,_,_,_,_,z,D,K,l⟩:=Q.ix F;obtain⟨_,_,_,_,rfl,O,_⟩:=bd K;refine ft z D u Z (X0 3 Z (bL 4 l h Z (X0 1 Z (dI h F (wH ⟨_,_,Z,(h.oldS O)⟩) Z λ_ _ h F=>X0 4 Z (qh (t:=44) F Z ?_ ?_)))))<;>intro F
    .refine X0 11 Z (dO Z Z (X0 4 Z ?_));cases qe F;have F:=d;cases qe F;exact rb h c Z
    refine X0 5 Z ?_;obtain⟨_,_,F,v,_,_,_,_,A,H,L,o⟩:=Q.ix F;obtain⟨_,_,_,_,rfl,_,P⟩:=bd L;refine ft A H v Z (X0 3 Z (bL 5 o h Z (X0 1 Z (dI h F (wH ⟨_,_,Z,(h.oldS P)⟩) Z λ_ _ h F=>X0 6 Z (qn Z F ?_ ?_)))))<;>intro F
    .refine X0 4 Z ?_;cases qe F;have F:=d;cases qe F;exact rb h c Z
    exact X0 7 Z (rK ⟨_,F,Z,h⟩ Z)
   exact X0 18 Z (bQ Z Z (X0 7 Z (rK ⟨_,F,Z,h⟩ Z)))
  refine qy Z ?_;cases qe F;exact X0 6 Z (rK ⟨_,d,Z,h⟩ Z)
 refine qy Z ?_;cases qe F;exact X0 4 Z (rb h c Z)
end Go.Fw


namespace Go.Fw
open Go
set_option maxRecDepth 100000
def NT(j:aZ)(t:qu):Option qT:=V ⟨j,qd j.Ac,rj j.Ac j.Ay,t⟩
theorem OC{j:aZ}(h:nH j) :
  (∃code:Int,code≠0/\Ev (λn=>bT n j) (U,code)/\∀mode nodes,Ev (λn=>cL n j mode nodes) (U,code)) \/
  ∃t R,pW j t R/\Ev (λn=>bT n j) (NT j t,0)/\∀mode nodes,nodes.length<=1048576->(mode=0\/mode=1) ->
   Ev (λn=>cL n j mode nodes) (bif nodes.all (λx=>gu x 0 ((vH j.Ac:Int)-1)) then(ya j t R,0) else(U,4)):=by
 have c:=h.Ay.len;unfold bT cL;rcases WA h with⟨code,hne,hs,hi⟩|⟨t,R,hw,hs,hi⟩
 .exact .inl ⟨code,hne,Ck hs (Cq (oF hne) .done),λmode nodes=>Ck hi (Cq (oF hne) .done)⟩
 .have a:=hw.tg.bl;have d:=lY a;have g:=bj (ab (aO a));have l:=rh (ls:=qd j.Ac) (br:=j.Ay) d c;refine .inr ⟨t,R,hw,Ck hs (Cp Z (Ck (hU a) (Ck l .done))),λmode nodes k i=>Ck hi (Cp Z ?_)⟩;have f:=zH (v:=mw j.Ac) g;have e1:qj (((2*(mw j.Ac).places.length:Nat):Int)-1)=(vH j.Ac:Int)-1:=by
   show qj (((2*(places j.Ac.Aa).length:Nat):Int)-1)=_;rw[qX (by omega) (by omega)]
  unfold ya WE;simp only[jd,f,e1];refine Ck (kb k) ?_;cases nodes.all λx=>gu x 0 ((vH j.Ac:Int)-1)
  .exact Cq Z .done
  .refine Cp Z ?_;rcases i with rfl|rfl<;>exact Ck (b:=An) (Cx Z) (Cp Z .done)
theorem UQ{j:aZ}{t:qu}{node:Int}(h:j.Am.length<=1048576):Ev (λn=>uV n (NT j t) node) ((bc (aE j.Am node)).2,(bc (aE j.Am node)).1):=by
 have g:Ev (λn=>gL (NT j t) node n 0) (match aE j.Am node with|some y=>.ret (y,An)|none=>.nxt (j.Am.length:Int)):=by
  have c:∀d i,i+d=j.Am.length->(j.Am.take i).find? (λs=>s.Bo==node)=U->Ev (λn=>gL (NT j t) node n (i:Int)) (match aE j.Am node with|some y=>.ret (y,An)|none=>.nxt (j.Am.length:Int)):=by
   intro d
   induction d with
   |zero=>
    intro i hi b;obtain rfl:i=j.Am.length:=by omega
    rw[jH] at b;unfold aE;rw[b];refine Cm ?_;simp only[gL,NT,jd,qr (jf _),Cj];exact .done
   |succ d ih=>
    intro i hi b;have a:i<j.Am.length:=by omega
    refine Cm ?_;simp only[gL,NT,jd,qp a,Ci,qz a,wS i];cases hq:(gt j.Am i).Bo==node
    .refine ih (i+1) (by omega) ?_;rw[jw a,List.find?_append,b,<-fd a,List.find?_cons_of_neg (by simp[hq])]
     rfl
    .have f:j.Am.drop i=gt j.Am i::j.Am.drop (i+1):=by rw[fd a];exact jF a
     have:aE j.Am node=V (gt j.Am i):=by
      generalize gt j.Am i=y at hq f;unfold aE;rw[<-List.take_append_drop i j.Am,List.find?_append,b,f,List.find?_cons_of_pos (by simpa using hq)]
      rfl
     rw[this];exact .done
  exact c j.Am.length 0 (by omega) Z
 unfold uV;refine Ck g ?_;cases aE j.Am node<;>exact .done
def UD(ls:List qx)(start:Int)(path:List Int):Nat->Int
 |0=>start
 |j+1=>(gt ls (bm path j).toNat).To
def okP(ls:List qx)(lv:List Bool)(start:Int)(path:List Int)(j:Nat):Bool:=
 gu (bm path j) 0 ((ls.length:Int)-1)&&(gt lv (bm path j).toNat&&((gt ls (bm path j).toNat).Bm==UD ls start path j))
def ma(j:aZ)(start:Int)(path:List Int):Bool:=(bc (aE j.Am start)).1&&bG (okP (qd j.Ac) (rj j.Ac j.Ay) start path) path.length
def C4(j:aZ)(start:Int)(path:List Int):Int:=UD (qd j.Ac) start path path.length
theorem vF{x:Int}{m:Nat}(h:gu x 0 ((m:Int)-1)=An):0<=x/\x<(m:Int)/\x.toNat<m:=by rw[cu] at h;omega
def BP(ls:List qx)(path:List Int)(j:Nat):Bool:=gu (bm path j) 0 ((ls.length:Int)-1)&&(decide (j=0) || (gt ls (bm path (j-1)).toNat).To==(gt ls (bm path j).toNat).Bm)
theorem Q0{v:cU}{path:List Int}(h:v.links.length<=10000)(o:path.length<=1048576):Ev (λn=>rY n (V v) path) (bG (BP v.links path) path.length):=by
 have g:=SQ (τ:=Unit) (Lf:=λn _ x=>fA (V v) path n x) (S:=λ_=>()) (p:=BP v.links path) (len:=path.length) (bad:=Cd) (fin:=(path.length:Int))
  (λn=>by simp only[fA,qr (jf _),Cj])
  (λi hi b X a=>by
   have f:qj ((v.links.length:Int)-1)=(v.links.length:Int)-1:=qX (by omega) (by omega);simp only[fA,qp hi,Ci,jd,aM hi,vm,iw,gV,f,wS i];unfold BP at a⊢;cases hr:gu (bm path i) 0 ((v.links.length:Int)-1)
   .exact .done
   .obtain⟨m,r1,r⟩:=vF hr;rw[hr] at a;refine Cp Z ?_;by_cases d:i=0
    .subst d;exact Cp Z (a Z)
    .refine Cq (decide_eq_true (by omega)) ?_;have c:=b (i-1) (by omega);unfold BP at c;rw[je] at c;obtain⟨k,l,_⟩:=vF c.1;rw[show(i:Int)-1=((i-1:Nat):Int) by omega,qX (by omega) (by omega)];simp only[aM (show i-1<path.length by omega),jd,kJ k l,kJ m r1,bne];rw[decide_eq_false d] at a⊢;cases he:(gt v.links (bm path (i-1)).toNat).To==(gt v.links (bm path i).toNat).Bm
     .exact .done
     .rw[he] at a;exact a Z)
 unfold rY;refine Ck g ?_;cases bG (BP v.links path) path.length<;>exact .done
theorem A6{j:aZ}{t:qu}{R:List Nat}{path:List Int}(g:path.length<=1048576)(d:∀x,x∈path->0<=x/\x<(yg j.Ac:Int)):Ev (λn=>aF n path (ya j t R)) (!path.all λx=>gt (rj j.Ac j.Ay) x.toNat):=by
 have b:(rj j.Ac j.Ay).length=yg j.Ac:=vG;have c:Ev (λn=>bY n path (ya j t R)) (NF (λx=>!gt (rj j.Ac j.Ay) x.toNat) path):=
  og (fin:=(path.length:Int)) (Lf:=aH path (ya j t R)) (xs:=path) (pf:=λn x=>nf n x (ya j t R)) (λx a=>by
    obtain⟨f,x1⟩:=d x a;unfold nf ya WE;simp only[jd,kJ f (show x<((rj j.Ac j.Ay).length:Int) by rw[b];exact x1)];exact .done)
   (λn=>by simp only[aH,qr (jf _),Cj])
   (λn i x a=>by
    have hi:=(List.getElem?_eq_some_iff.1 a).1;simp only[aH,qp hi,Ci,ra a,jd,wS i])
   (λn=>by unfold bY;congr 1;funext o;cases o<;>rfl)
 unfold aF;refine Ck c (Cx ?_);rw[DK,<-II,Bool.not_not]
theorem XX{j:aZ}{t:qu}{R:List Nat}{start:Int}{path:List Int}(B:aL j.Ac=An)(F:j.Am.length<=1048576)(z:path.length<=1048576):Ev (λn=>oJ n (ya j t R) start path) (ma j start path):=by
 have l:=lY B;have C:=AB (xs:=j.Am) (node:=start) F;have d:=Q0 (v:=mw j.Ac) (path:=path) l z;have A:(mw j.Ac).links=qd j.Ac:=rfl;rw[A] at d;have fr:path.length≠0->bG (BP (qd j.Ac) path) path.length=An->∃k:Nat,k<yg j.Ac/\bm path 0=(k:Int):=λc a=>by
  rw[aA] at a;have:=a 0 (by omega);unfold BP at this;rw[je] at this;obtain⟨g,r,H⟩:=vF this.1;exact⟨(bm path 0).toNat,H,fB g⟩
 have m:bG (BP (qd j.Ac) path) path.length=An->∀x,x∈path->0<=x/\x<(yg j.Ac:Int):=λa x o=>by
  obtain⟨i,hi,rfl⟩:=List.mem_iff_getElem.1 o;rw[aA] at a;have:=a i hi;unfold BP at this;rw[je] at this;obtain⟨g,r,_⟩:=vF this.1;rw[wy hi] at g r;exact⟨g,r⟩
 have p:bG (okP (qd j.Ac) (rj j.Ac j.Ay) start path) path.length=(bG (BP (qd j.Ac) path) path.length&&(bif decide (path.length=0) then An else((gt (qd j.Ac) (bm path 0).toNat).Bm==start)&&path.all λx=>gt (rj j.Ac j.Ay) x.toNat)):=by
  rw[jp,je,aA,aA];unfold okP BP;simp only[je,Bool.or_eq_true,decide_eq_true_eq,beq_iff_eq];constructor
  .intro f;refine⟨λi hi=>⟨(f i hi).1,?_⟩,?_⟩
   .cases i with
    |zero=>exact .inl Z
    |succ i=>exact .inr (f (i+1) hi).2.2.symm
   .by_cases c:path.length=0
    .rw[decide_eq_true c];rfl
    .rw[decide_eq_false c];simp only[Cj,je,beq_iff_eq,jR];refine⟨(f 0 (by omega)).2.2,λx o=>?_⟩;obtain⟨i,hi,rfl⟩:=List.mem_iff_getElem.1 o;rw[<-wy hi];exact(f i hi).2.1
  .rintro⟨y,a⟩ i hi;rw[decide_eq_false (by omega)] at a;simp only[Cj,je,beq_iff_eq,jR] at a;refine⟨(y i hi).1,by rw[wy hi];exact a.2 _ (jm hi),?_⟩;cases i with
   |zero=>exact a.1
   |succ i=>
    rcases (y (i+1) hi).2 with e|e
    .omega
    .exact e.symm
 unfold oJ ma;rw[p];show Ev (λn=>(dX n j.Am start).bind _) _;refine Ck C ?_;cases hs:(bc (aE j.Am start)).1
 .exact Ck (b:=An) (Cq Z .done) (Cq Z .done)
 .cases a:bG (BP (qd j.Ac) path) path.length
  .rw[a] at d;exact Ck (b:=An) (Cp Z (Cy Z (Ck d .done))) (Cq Z .done)
  .have u:=A6 (j:=j) (t:=t) (R:=R) z (m a);have h:=fr;rw[a] at d;refine Ck (b:=Cd) (Cp Z (Cy Z (Ck d .done))) (Cp Z ?_);by_cases c:path.length=0
   .rw[decide_eq_true c];refine Cp (decide_eq_false (by omega)) (Ck u (Cx ?_));rw[List.length_eq_zero_iff.1 c]
    rfl
   .rw[decide_eq_false c];obtain⟨k,D,s⟩:=h c a;refine Cq (decide_eq_true (by omega)) ?_;show Ev (λn=>(qG path 0).bind λJ=>(qG (qd j.Ac) J).bind λK=>bif (K.Bm != start) then V Cd else(aF n path (ya j t R)).bind λI=>V (!I)) _;rw[show qG path (0:Int)=V (k:Int) by rw[show(0:Int)=((0:Nat):Int) from rfl,aM (by omega),s]];simp only[jd,qz D,bne];rw[s,jq];cases (gt (qd j.Ac) k).Bm==start
    .exact .done
    .refine Cp Z (Ck u (Cx ?_));rw[Bool.not_not]
     rfl
theorem YP{j:aZ}{start:Int}{path:List Int}(h:nH j)(c:path.length<=1048576){mode:Int}(b:mode=0\/mode=1) :
  (∃code:Int,code≠0/\Ev (λn=>bT n j) (U,code)/\Ev (λn=>gw n j mode start path) (U,code)) \/
  ∃t R,pW j t R/\Ev (λn=>bT n j) (NT j t,0)/\Ev (λn=>gw n j mode start path) (bif ma j start path then(ya j t R,0) else(U,5)):=by
 unfold gw;rcases OC h with⟨code,hne,hs,hi⟩|⟨t,R,hw,hs,hi⟩
 .exact .inl ⟨code,hne,hs,Ck (hi mode []) (Cp (by simpa using hne) .done)⟩
 .have a:=XX (t:=t) (R:=R) (start:=start) hw.tg.bl h.Am.len c;refine .inr ⟨t,R,hw,hs,Ck (hi mode [] (jW _) b) (Cq Z (Ck a ?_))⟩;cases ma j start path<;>exact .done
theorem VD{j:aZ}{t:qu}{R:List Nat}{start:Int}{path:List Int}(k:path.length<=1048576)(a:ma j start path=An):Ev (λn=>nR n (ya j t R) start path) (pre (UD (qd j.Ac) start path) (path.length+1)):=by
 unfold ma at a;rw[je,aA] at a;have d:=fq (Lf:=λn s i=>fh (ya j t R) path n s i) (S:=λi=>pre (UD (qd j.Ac) start path) (i+1)) (len:=path.length) (fin:=(pre (UD (qd j.Ac) start path) (path.length+1),(path.length:Int)))
  (λn=>by simp only[fh,qr (jf _),Cj])
  (λi hi X g=>by
   have:=a.2 i hi;unfold okP at this;rw[je] at this;obtain⟨h,r1,_⟩:=vF this.1;have c:(mw j.Ac).links=qd j.Ac:=rfl;simp only[fh,qp hi,Ci,aM hi,jd,ya,WE,c,kJ h r1,wS i];have b:df (pre (UD (qd j.Ac) start path) (i+1)) [(gt (qd j.Ac) (bm path i).toNat).To]=V (pre (UD (qd j.Ac) start path) (i+1+1)):=FD (f:=UD (qd j.Ac) start path) (j:=i+1) (by omega);rw[b];exact g)
 unfold nR;exact Ck d .done

section
variable{L:Nat}{fr to:Nat->Int}{lv:Nat->Bool}{n:Nat}{R:List Nat}
theorem vb.ne(h:vb L fr to lv n R){i j:Nat}(a:i<j)(b:j<R.length):R[i]'(by omega)≠R[j]:=λe=>
 (h.at b).2.1 (by rw[<-e,List.mem_iff_getElem];exact⟨i,by rw[jy];omega,by rw[Jl]⟩)
theorem vb.nodup(h:vb L fr to lv n R):R.Nodup:=by
 unfold List.Nodup;rw[List.pairwise_iff_getElem];exact λi j _ b a=>h.ne a b
theorem vb.full(h:vb L fr to lv n R)(g:R.length=n){k:Nat}(c:k<n):∃i,∃hi:i<R.length,R[i]=k:=by
 refine Classical.byContradiction λb=>?_;have f:k∉R:=λd=>b (List.mem_iff_getElem.1 d);have:=IH (l:=k::R) (l':=List.range n) (List.nodup_cons.2 ⟨f,h.nodup⟩) (λx a=>by
  rw[List.mem_range];rcases List.mem_cons.1 a with rfl|a
  .exact c
  .obtain⟨i,hi,rfl⟩:=List.mem_iff_getElem.1 a;exact(h.at hi).1)
 rw[Jn,List.length_range] at this;omega
theorem vb.later(h:vb L fr to lv n R)(p:R.length=n){x a c:Nat}(s:x<L)(r:lv x=An)(m:fr x=(a:Int))(o:to x=(c:Int))(f:c<n){i:Nat}(hi:i<R.length)(b:R[i]=a):∃j,∃k:j<R.length,i<j/\R[j]=c:=by
 obtain⟨j,k,e⟩:=h.full p f;have l:=(h.at k).2.2;rw[e] at l;have:=xO.1 l x s r o;rw[m,rk,List.mem_iff_getElem] at this;obtain⟨t,g,d⟩:=this;rw[jy] at g;rw[Jl] at d;refine⟨j,k,?_,e⟩;rcases Nat.lt_trichotomy i t with hh|hh|hh
 .exact absurd (b.trans d.symm) (h.ne hh (by omega))
 .omega
 .exact absurd (d.trans b.symm) (h.ne hh hi)
end
theorem qaN{j:aZ}{t:qu}{R:List Nat}{start:Int}{path:List Int}(o:pW j t R)(k:ma j start path=An):path.length<=156:=by
 have s:=o.tg.bl;have g:=kA s;have y:=o.tg.ord;have v:=o.tg.len;have D:=bj (ab (aO s));have M:vH j.Ac<=156:=by show 2*(places j.Ac.Aa).length<=156;omega
 by_cases L:path.length=0
 .omega
 unfold ma at k;rw[je,aA] at k;have step:∀i,i<path.length->∃x a c:Nat,x<yg j.Ac/\AX (rj j.Ac j.Ay) x=An/\CL (qd j.Ac) x=(a:Int)/\FH (qd j.Ac) x=(c:Int)/\a<vH j.Ac/\c<vH j.Ac/\UD (qd j.Ac) start path i=(a:Int)/\UD (qd j.Ac) start path (i+1)=(c:Int):=by
  intro i hi;have:=k.2 i hi;unfold okP at this;simp only[je,beq_iff_eq] at this;obtain⟨H,n,l⟩:=this;obtain⟨N,r1,f⟩:=vF H;have r:=g.fr0 _ f;have K:=g.fr1 _ f;have z:=g.to0 _ f;have O:=g.to1 _ f;refine⟨(bm path i).toNat,(gt (qd j.Ac) (bm path i).toNat).Bm.toNat,(gt (qd j.Ac) (bm path i).toNat).To.toNat,f,n,fB r,fB z,?_,?_,?_,fB z⟩
  .show _<2*(places j.Ac.Aa).length;omega
  .show _<2*(places j.Ac.Aa).length;omega
  .rw[<-l];exact fB r
 have d:∀i,i<=path.length->∃p,∃b:p<R.length,i<=p/\(R[p]:Int)=UD (qd j.Ac) start path i:=by
  intro i
  induction i with
  |zero=>
   intro _;obtain⟨x,a,c,_,_,_,_,u,_,e,_⟩:=step 0 (by omega);obtain⟨p,b,h⟩:=y.full v u;exact⟨p,b,jW _,by rw[h,e]⟩
  |succ i ih=>
   intro hi;obtain⟨p,b,m,h⟩:=ih (by omega);obtain⟨x,a,c,J,n,l,I,u,B,e1,A⟩:=step i (by omega);obtain⟨q,F,C,eq⟩:=y.later v J n l I B b (by rw[e1] at h;omega);exact⟨q,F,by omega,by rw[eq,A]⟩
 obtain⟨p,b,m,_⟩:=d path.length (jf _);omega

def mu(m:Int):Bool:=(m==0) || (m==1)
theorem uE{m:Int}(h:mu m=An):m=0\/m=1:=by unfold mu at h;simpa using h
theorem qaB{m:Int}(h:mu m=Cd):(m==0)=Cd/\(m==1)=Cd:=by unfold mu at h;simpa using h
theorem SJ{n:Nat}{m:Int}:yq n m=V (mu m):=by
 unfold yq mu;cases m==0<;>rfl
theorem PG{n:Nat}{m:Int}:sn n m=V (mu m):=by
 unfold sn mu;cases m==0<;>rfl
theorem YO{j:aZ}{start:Int}{path:List Int}(h:nH j)(i:path.length<=1048576)(mode:Int) :
  (∃code:Int,code≠0/\Ev (λn=>bT n j) (U,code)/\Ev (λn=>gw n j mode start path) (U,code)) \/
  ∃t R,pW j t R/\Ev (λn=>bT n j) (NT j t,0)/\Ev (λn=>gw n j mode start path) (bif mu mode then bif ma j start path then(ya j t R,0) else(U,5) else(U,2)):=by
 cases hm:mu mode
 .obtain⟨l,m⟩:=qaB hm;have c:=h.Ay.len;unfold bT gw cL;rcases WA h with⟨code,hne,hs,hi⟩|⟨t,R,hw,hs,hi⟩
  .exact .inl ⟨code,hne,Ck hs (Cq (oF hne) .done),Ck (b:=(U,code)) (Ck hi (Cq (oF hne) .done)) (Cp (by simpa using hne) .done)⟩
  .have a:=hw.tg.bl;have d:=lY a;have g:=bj (ab (aO a));have k:=rh (ls:=qd j.Ac) (br:=j.Ay) d c;refine .inr ⟨t,R,hw,Ck hs (Cp Z (Ck (hU a) (Ck k .done))),Ck (b:=(U,2)) (Ck hi (Cp Z ?_)) .done⟩;have f:=zH (v:=mw j.Ac) g;unfold ya WE;simp only[jd,f];refine Ck (kb (jW _)) (Cp Z ?_);simp only[SJ,hm];exact .done
 .exact YP h i (uE hm)
theorem DV{j:aZ}{start:Int}{path:List Int}(a:ma j start path=An){i:Nat}(hi:i<path.length):∃k:Nat,k<yg j.Ac/\bm path i=(k:Int):=by
 unfold ma at a;rw[je,aA] at a;have:=a.2 i hi;unfold okP at this;rw[je] at this;obtain⟨b,_,c⟩:=vF this.1;exact⟨(bm path i).toNat,c,fB b⟩
def CM(m:Int)(s:qg):Int:=bif m==1 then s.Bc else s.Ar
theorem YJ{m:Int}{a b:qg}:qj (CM m a+CM m b)=CM m (uF a b):=by
 unfold CM uF;cases m==1<;>rfl
theorem qaH{n:Nat}{m:Int}{s:qg}(h:mu m=An):rR n s m=V (CM m s):=by
 rcases uE h with rfl|rfl<;>rfl
def GH(f:Nat->qg->qg×qg)(ls:List qx)(t:qu)(a0:qg)(path:List Int):Nat->qg
 |0=>a0
 |i+1=>uF (GH f ls t a0 path i) (f (bm path i).toNat (gt t.Ba (ip ls (bm path i).toNat))).1
section
variable{j:aZ}{t:qu}{R:List Nat}{start:Int}{path:List Int}{f:Nat->qg->qg×qg}
theorem qcG(h:nH j)(p:pW j t R)(z:GP j.Ac j.Aj [] f)(B:path.length<=1048575)(y:ma j start path=An) :
  Ev (λn=>uz n (ya j t R) start path) (pre (GH f (qd j.Ac) t (bc (aE j.Am start)).2.Af path) (path.length+1)):=by
 have A:=kA p.tg.bl;have o:=p.tm;obtain⟨a0,x⟩:∃a,a=(bc (aE j.Am start)).2.Af:=⟨_,Z⟩;have v:=fq (Lf:=λn (s:List qg×qg) i=>kz path ⟨WE j.Ac j.Ay,j,t,eB R⟩ n s.1 s.2.Ar s.2.Bc i) (S:=λi=>(pre (GH f (qd j.Ac) t a0 path) (i+1),GH f (qd j.Ac) t a0 path i)) (len:=path.length) (fin:=(pre (GH f (qd j.Ac) t a0 path) (path.length+1),(GH f (qd j.Ac) t a0 path path.length).Ar,(GH f (qd j.Ac) t a0 path path.length).Bc,(path.length:Int)))
  (λn=>by simp only[kz,qr (jf _),Cj])
  (λi hi X g=>by
   obtain⟨k,b,m⟩:=DV y hi;obtain⟨e1,l⟩:=uk A b;obtain⟨_,s1⟩:=z k _ b (o.sl _ l);have c:GH f (qd j.Ac) t a0 path (i+1)=uF (GH f (qd j.Ac) t a0 path i) (f k (gt t.Ba (ip (qd j.Ac) k))).1:=by
    show uF _ _=_;rw[m,jq]
   have r:(mw j.Ac).links=qd j.Ac:=rfl;have d:df (pre (GH f (qd j.Ac) t a0 path) (i+1)) [GH f (qd j.Ac) t a0 path (i+1)]=V (pre (GH f (qd j.Ac) t a0 path) (i+1+1)):=FD (by omega);simp only[kz,qp hi,Ci,aM hi,jd,m,ya,WE,r,qz b,e1,qz (show ip (qd j.Ac) k<t.Ba.length by rw[o.s];exact l),wS i];refine Ck s1 ?_;generalize (f k (gt t.Ba (ip (qd j.Ac) k))).1=q at c;generalize GH f (qd j.Ac) t a0 path i=u at c;simp only[rf,jd];rw[c] at d g;unfold uF at d g;rw[d];exact g)
 unfold uz;show Ev (λn=>(dX n j.Am start).bind _) _;refine Ck (AB h.Am.len) ?_;subst x;exact Ck v .done
theorem qbO(h:nH j)(d:pW j t R)(b:GP j.Ac j.Aj [] f)(c:path.length<=1048575)(a:ma j start path=An) :
  Ev (λn=>lr n (ya j t R) start path) (GH f (qd j.Ac) t (bc (aE j.Am start)).2.Af path path.length):=by
 unfold lr;refine Ck (qcG h d b c a) ?_;rw[oO (by omega)];exact .done
end
def GG(b:qf)(c:qH)(mode:Int)(d:Nat->Int->Int×Int):Prop:=∀k sl,k<(qd b).length->0<=sl->sl<=1000000 ->
 (0<=(d k sl).2/\(d k sl).2<=1000000)/\Ev (λn=>aI n b c (gt (qd b) k) sl mode) (d k sl).1/\Ev (λn=>dc n (V (mw b)) c (k:Int) sl mode) (d k sl).1 /\
 Ev (λn=>cP n b (gt (qd b) k) sl mode) (d k sl).2/\Ev (λn=>cd n (V (mw b)) (k:Int) sl mode) (d k sl).2
theorem qdG{b:qf}{c:qH}(h:aL b=An)(o:ke c=An){mode:Int}(t:mu mode=An):∃d,GG b c mode d:=by
 have f:∀x:Nat×Int,∃r:Int×Int,x.1<(qd b).length->0<=x.2->x.2<=1000000 ->
   (0<=r.2/\r.2<=1000000)/\Ev (λn=>aI n b c (gt (qd b) x.1) x.2 mode) r.1/\Ev (λn=>dc n (V (mw b)) c (x.1:Int) x.2 mode) r.1 /\
   Ev (λn=>cP n b (gt (qd b) x.1) x.2 mode) r.2/\Ev (λn=>cd n (V (mw b)) (x.1:Int) x.2 mode) r.2:=by
  rintro⟨k,s⟩;by_cases g:k<(qd b).length/\0<=s/\s<=1000000
  .obtain⟨g,m,a⟩:=g;obtain⟨⟨d,p1,v⟩,⟨u,y,z,A,B⟩⟩:=NY (c:=c) [] h o g m a (uE t);exact⟨(d,u),λ_ _ _=>⟨⟨y,z⟩,p1,v,A,B⟩⟩
  .exact⟨(0,0),λa i l=>absurd ⟨a,i,l⟩ g⟩
 obtain⟨d,p⟩:=Classical.axiomOfChoice f;exact⟨λk s=>d (k,s),λk s a i l=>p (k,s) a i l⟩
def yA(d:Nat->Int->Int×Int)(s0:Int×Int)(path:List Int):Nat->Int×Int
 |0=>s0
 |i+1=>(qj ((yA d s0 path i).1+(d (bm path i).toNat (yA d s0 path i).2).1),(d (bm path i).toNat (yA d s0 path i).2).2)
section
variable{j:aZ}{t:qu}{R:List Nat}{start mode:Int}{path:List Int}{d:Nat->Int->Int×Int}
theorem KD{xs:List ql}(d:HP xs)(f:mu mode=An):0<=CM mode (bc (aE xs start)).2.Ba/\CM mode (bc (aE xs start)).2.Ba<=1000000:=by
 cases hs:aE xs start with
 |none=>unfold CM bc ZU N8;cases mode==1<;>(simp only[Ci,Cj];omega)
 |some y=>
  obtain⟨⟨a,b⟩,⟨c,e⟩⟩:=d.sl y (xw hs).2;unfold CM bc;cases mode==1<;>(simp only[Ci,Cj];omega)
theorem PX(g:GG j.Ac j.Aj mode d){s0:Int×Int}(f:0<=s0.2/\s0.2<=1000000)(l:∀i,i<path.length->∃k:Nat,k<yg j.Ac/\bm path i=(k:Int)):∀i,i<=path.length->0<=(yA d s0 path i).2/\(yA d s0 path i).2<=1000000:=by
 intro i
 induction i with
 |zero=>exact λ_=>f
 |succ i ih=>
  intro hi;obtain⟨k,h,c⟩:=l i (by omega);obtain⟨a,b⟩:=ih (by omega);have:=(g k _ h a b).1;show 0<=(d (bm path i).toNat (yA d s0 path i).2).2/\(d (bm path i).toNat (yA d s0 path i).2).2<=1000000;rw[c,jq];exact this
def nI(j:aZ)(start mode:Int):Int×Int:=(CM mode (bc (aE j.Am start)).2.Af,CM mode (bc (aE j.Am start)).2.Ba)
theorem PY(h:nH j)(x:pW j t R)(m:mu mode=An)(l:GG j.Ac j.Aj mode d)(A:path.length<=1048575)(o:∀i,i<path.length->∃k:Nat,k<yg j.Ac/\bm path i=(k:Int)) :
  Ev (λn=>nj n (ya j t R) start path mode) (pre (λi=>(yA d (nI j start mode) path i).1) (path.length+1),(yA d (nI j start mode) path path.length).2):=by
 have r:=KD (start:=start) (yM h.Am.len x.tg.sr) m;have a:=PX (s0:=nI j start mode) l r o;have u:=fq (Lf:=λn (s:List Int×Int×Int) i=>fZ path mode ⟨WE j.Ac j.Ay,j,t,eB R⟩ n s.1 s.2.1 s.2.2 i) (S:=λi=>(pre (λi=>(yA d (nI j start mode) path i).1) (i+1),yA d (nI j start mode) path i)) (len:=path.length) (fin:=(pre (λi=>(yA d (nI j start mode) path i).1) (path.length+1),(yA d (nI j start mode) path path.length).1,(yA d (nI j start mode) path path.length).2,(path.length:Int)))
  (λn=>by simp only[fZ,qr (jf _),Cj])
  (λi hi X g=>by
   obtain⟨k,v,c⟩:=o i hi;obtain⟨s0,s1⟩:=a i (by omega);obtain⟨_,_,y,_,z⟩:=l k _ v s0 s1;have p:yA d (nI j start mode) path (i+1)=(qj ((yA d (nI j start mode) path i).1+(d k (yA d (nI j start mode) path i).2).1),(d k (yA d (nI j start mode) path i).2).2):=by
    show(qj _,_)=_;rw[c,jq]
   have b:df (pre (λi=>(yA d (nI j start mode) path i).1) (i+1)) [(yA d (nI j start mode) path (i+1)).1]=V (pre (λi=>(yA d (nI j start mode) path i).1) (i+1+1)):=FD (f:=λi=>(yA d (nI j start mode) path i).1) (by omega);rw[p] at g b;simp only[fZ,qp hi,Ci,aM hi,jd,c,ya,WE,wS i];refine Ck y (Ck z ?_);rw[b];exact g)
 unfold nj;show Ev (λn=>(dX n j.Am start).bind _) _;refine Ck (AB h.Am.len) ?_;simp only[qaH m,jd];exact Ck u .done
theorem R6(h:nH j)(l:pW j t R)(b:mu mode=An)(a:GG j.Ac j.Aj mode d)(c:path.length<=1048575)(g:∀i,i<path.length->∃k:Nat,k<yg j.Ac/\bm path i=(k:Int)) :
  Ev (λn=>ng n (ya j t R) start path mode) (yA d (nI j start mode) path path.length).1:=by
 unfold ng;refine Ck (PY h l b a c g) ?_;simp only[oO (f:=λi=>(yA d (nI j start mode) path i).1) (show path.length<path.length+1 by omega)];exact .done
end

def ZW(x:Int):Int:=if x<1000000 then x else 1000000
theorem qdy{x:Int}:(if 1000000<x then 1000000 else x)=ZW x:=by unfold ZW;split<;>split<;>omega
def WD(ls:List qx)(lv:List Bool)(c:List Int)(node:Int)(a:Int)(j:Nat):Int:=(lG (uZ ls lv node) j).foldl (λv k=>ZW (qj (v+gt c (ip ls k)))) a
theorem OR{ls:List qx}{lv:List Bool}{c:List Int}{node a:Int}{j:Nat}:WD ls lv c node a (j+1)=bif uZ ls lv node j then ZW (qj (WD ls lv c node a j+gt c (ip ls j))) else WD ls lv c node a j:=by
 unfold WD;rw[xu,List.foldl_append];cases uZ ls lv node j<;>rfl
theorem F5{α:Type}{xs:List α}{k:Nat}{u v:α}:am (am xs (k:Int) u) (k:Int) v=am xs (k:Int) v:=by
 unfold am;rw[List.set_set]
def F9(j:aZ)(node:Int):Int:=bif (bc (aE j.Am node)).1 then 1 else 0
theorem P3{ls:List qx}{lv:List Bool}{c c':List Int}{node a:Int}:∀j,(∀x,x<j->uZ ls lv node x=An->gt c (ip ls x)=gt c' (ip ls x))->WD ls lv c node a j=WD ls lv c' node a j:=by
 intro j
 induction j with
 |zero=>intro _;rfl
 |succ j ih=>
  intro h;rw[OR,OR,ih λx b=>h x (by omega)];cases hq:uZ ls lv node j
  .rfl
  .simp only[Ci];rw[h j (by omega) hq]
theorem B9{j:aZ}{t:qu}{R:List Nat}(h:nH j)(Q:pW j t R):∃c:List Int,c.length=vH j.Ac/\(∀k,k<vH j.Ac->gt c k=WD (qd j.Ac) (rj j.Ac j.Ay) c (k:Int) (F9 j (k:Int)) (yg j.Ac)) /\
  ∀node,node<vH j.Ac->Ev (λn=>(oA n (NT j t)).bind λr4=>(qG r4 (node:Int)).bind λy1=>V (y1,(0:Int))) (gt c node,0)/\Ev (λn=>gN n (ya j t R) (node:Int)) (gt c node):=by
 have h1:=Q.tg.bl;have W:=h.Am.len;have u:=kA h1;have hll:=u.len;have J:(rj j.Ac j.Ay).length=yg j.Ac:=vG;have hpl:=bj (ab (aO h1));have H:=tR h1;have A:=zH (v:=mw j.Ac) hpl;have epl:(mw j.Ac).places.length=(places j.Ac.Aa).length:=rfl;rw[epl] at A;have hRl:=Q.tg.len;have B:=TG (lv:=rj j.Ac j.Ay) u J;have eo:RM (qd j.Ac) (rj j.Ac j.Ay) (2*(places j.Ac.Aa).length)=(eB R,An):=by unfold RM;rw[show IL (qd j.Ac) (rj j.Ac j.Ay) (2*(places j.Ac.Aa).length) (2*(places j.Ac.Aa).length) []=V R from Q.tg.or_]
 rw[eo] at B;have eM:vH j.Ac=2*(places j.Ac.Aa).length:=rfl;have f:=Q.tg.ord;generalize hM0:vH j.Ac=M at hRl eM⊢;rw[hM0] at f;rw[<-eM] at H A B;have hM:M<=156:=by omega
 have a4:∀d i c,i+d=R.length->c.length=M->(∀k,k<M->k∉R.take i->gt c k=0)->(∀k,k<M->k∈R.take i->gt c k=WD (qd j.Ac) (rj j.Ac j.Ay) c (k:Int) (F9 j (k:Int)) (yg j.Ac))->∃c':List Int,c'.length=M/\(∀k,k<M->k∈R->gt c' k=WD (qd j.Ac) (rj j.Ac j.Ay) c' (k:Int) (F9 j (k:Int)) (yg j.Ac)) /\
   Ev (λn=>kG (NT j t) ⟨j,qd j.Ac,rj j.Ac j.Ay,t⟩ (eB R) n c (i:Int)) (c',(R.length:Int)) /\
   Ev (λn=>fg ⟨WE j.Ac j.Ay,j,t,eB R⟩ ⟨V (mw j.Ac),rj j.Ac j.Ay⟩ n c (i:Int)) (c',(R.length:Int)):=by
  intro d
  induction d with
  |zero=>
   intro i c hi hc _ C;obtain rfl:i=R.length:=by omega
   rw[jH] at C;refine⟨c,hc,C,Cm ?_,Cm ?_⟩
   .simp only[kG,du,qr (jf _),Cj];exact .done
   .simp only[fg,du,qr (jf _),Cj];exact .done
  |succ d ih=>
   intro i c hi hc hz C;have z:i<R.length:=by omega
   obtain⟨k1,k2,k3⟩:=Q.tg.ord.at z;rw[hM0] at k1;have I:=yu z;have D:R.take (i+1)=R.take i++[R[i]]:=jw z;generalize R[i]=k at k1 k2 k3 I D;have hS:=UQ (j:=j) (t:=t) (node:=(k:Int)) W;have hI:=AB (xs:=j.Am) (node:=(k:Int)) W;have a3:=hz k k1 k2;have g:k<c.length:=by omega
   obtain⟨o,L⟩:∃o:Int,o=F9 j (k:Int):=⟨_,Z⟩;have sL:Ev (λn=>fJ ⟨j,qd j.Ac,rj j.Ac j.Ay,t⟩ c (k:Int) n o 0) (WD (qd j.Ac) (rj j.Ac j.Ay) c (k:Int) o (yg j.Ac),(yg j.Ac:Int)):=by
    have:=fq (Lf:=λn s x=>fJ ⟨j,qd j.Ac,rj j.Ac j.Ay,t⟩ c (k:Int) n s x) (S:=WD (qd j.Ac) (rj j.Ac j.Ay) c (k:Int) o) (len:=yg j.Ac) (fin:=(WD (qd j.Ac) (rj j.Ac j.Ay) c (k:Int) o (yg j.Ac),(yg j.Ac:Int)))
     (λn=>by simp only[fJ,qr (jf _),Cj])
     (λx m X r=>by
      obtain⟨e1,e2⟩:=uk u m;rw[<-eM] at e2;rw[OR] at r;have F:x<(qd j.Ac).length:=m;simp only[fJ,qp F,Ci,qz F,qz (show x<(rj j.Ac j.Ay).length by rw[J];exact m),jd,e1,qz (show ip (qd j.Ac) x<c.length by omega),wS x];unfold uZ AX FH at r;cases hv:gt (rj j.Ac j.Ay) x
      .rw[hv] at r;exact r
      .rw[hv] at r;cases ht:(gt (qd j.Ac) x).To==(k:Int)
       .rw[ht] at r;exact r
       .rw[ht] at r;exact r)
    exact this
   have nz:∀x,x∈lG (uZ (qd j.Ac) (rj j.Ac j.Ay) (k:Int)) (yg j.Ac)->x<yg j.Ac/\ip (qd j.Ac) x≠k:=λx m=>by
    obtain⟨x1,N⟩:=oh.1 m;unfold uZ at N;rw[je,beq_iff_eq] at N;have:=xO.1 k3 x x1 N.1 N.2;obtain⟨e1,_⟩:=uk u x1;rw[show CL (qd j.Ac) x=(ip (qd j.Ac) x:Int) from e1,rk] at this;exact⟨x1,λe=>k2 (by rw[<-e];exact this)⟩
   have pL:Ev (λn=>dJ ⟨V (mw j.Ac),rj j.Ac j.Ay⟩ (k:Int) (eB (lG (uZ (qd j.Ac) (rj j.Ac j.Ay) (k:Int)) (yg j.Ac))) n (am c (k:Int) o) 0) (am c (k:Int) (WD (qd j.Ac) (rj j.Ac j.Ay) c (k:Int) o (yg j.Ac)),((eB (lG (uZ (qd j.Ac) (rj j.Ac j.Ay) (k:Int)) (yg j.Ac))).length:Int)):=by
    have hsl:(lG (uZ (qd j.Ac) (rj j.Ac j.Ay) (k:Int)) (yg j.Ac)).length<=10000:=Ja wm hll;have:=(RZ (τ:=Int) (xs:=lG (uZ (qd j.Ac) (rj j.Ac j.Ay) (k:Int)) (yg j.Ac)) (Lf:=λn v x=>dJ ⟨V (mw j.Ac),rj j.Ac j.Ay⟩ (k:Int) (eB (lG (uZ (qd j.Ac) (rj j.Ac j.Ay) (k:Int)) (yg j.Ac))) n (am c (k:Int) v) x)
     (step:=λv x=>ZW (qj (v+gt c (ip (qd j.Ac) x)))) (fin:=λv=>(am c (k:Int) v,((eB (lG (uZ (qd j.Ac) (rj j.Ac j.Ay) (k:Int)) (yg j.Ac))).length:Int))) o (λ_ _=>True) trivial (λ_ _ _ _=>trivial)
     (λn v=>by simp only[dJ,du,qr (jf _),Cj])
     (λx v m _ X r=>by
      have T:=yu m;obtain⟨x1,N⟩:=nz _ (jm m);generalize (lG (uZ (qd j.Ac) (rj j.Ac j.Ay) (k:Int)) (yg j.Ac))[x]=y at T x1 N r;obtain⟨e1,e2⟩:=uk u x1;rw[<-eM] at e2;have ev:(mw j.Ac).links=qd j.Ac:=rfl;have i1:qG (am c (k:Int) v) (k:Int)=V v:=by rw[qz (by rw[cg];exact g),mh g,if_pos Z]
      have i2:qG (am c (k:Int) v) (ip (qd j.Ac) y:Int)=V (gt c (ip (qd j.Ac) y)):=by rw[qz (by rw[cg];omega),mh g,if_neg N]
      simp only[dJ,du,qp m,Ci,T,jd,ev,qz x1,e1,i1,i2,qdy,F5,wS x];exact r)).1
    exact this
   have a5:∀y,y<M->y∈R.take (i+1)->∀x,x<yg j.Ac->uZ (qd j.Ac) (rj j.Ac j.Ay) (y:Int) x=An->gt c (ip (qd j.Ac) x)=gt (am c (k:Int) (WD (qd j.Ac) (rj j.Ac j.Ay) c (k:Int) o (yg j.Ac))) (ip (qd j.Ac) x):=λy Y a x m P=>by
    rw[mh g,if_neg];rw[D,List.mem_append,List.mem_singleton] at a;rcases a with a|rfl
    .intro e;obtain⟨p,hp,ep⟩:=List.mem_iff_getElem.1 a;rw[jy] at hp;rw[Jl] at ep;have h0:=(f.at (j:=p) (by omega)).2.2;rw[ep] at h0;unfold uZ at P;rw[je,beq_iff_eq] at P;have:=xO.1 h0 x m P.1 P.2;obtain⟨e1,_⟩:=uk u m;rw[show CL (qd j.Ac) x=(ip (qd j.Ac) x:Int) from e1,rk,e] at this;obtain⟨q,hq',eq⟩:=List.mem_iff_getElem.1 this;rw[jy] at hq';rw[Jl] at eq;exact k2 (List.mem_iff_getElem.2 ⟨q,by rw[jy];omega,by rw[Jl];exact eq⟩)
    .exact(nz x (oh.2 ⟨m,P⟩)).2
   have sR:=ih (i+1) (am c (k:Int) (WD (qd j.Ac) (rj j.Ac j.Ay) c (k:Int) o (yg j.Ac))) (by omega) (by rw[cg];exact hc) (λy Y K=>by
     rw[D] at K;have hne:y≠k:=λe=>K (jX _ (List.mem_singleton.2 e));rw[mh g,if_neg hne];exact hz y Y λa=>K (jM _ a)) (λy Y a=>by
     rw[<-P3 _ (a5 y Y a),mh g];split
     .next e=>rw[e,L]
     .next e=>
      rw[D,List.mem_append,List.mem_singleton] at a;rcases a with a|a
      .exact C y Y a
      .exact absurd a e)
   obtain⟨c',l',d',s',p'⟩:=sR;have ic:qG c (k:Int)=V 0:=by rw[qz g,a3]
   refine⟨c',l',d',Cm ?_,Cm ?_⟩
   .simp only[kG,du,qp z,Ci,I,jd,ic,wS i];refine Ck hS (Ck (b:=o) (Cx ?_) (Ck sL s'));rw[L];unfold F9;cases (bc (aE j.Am (k:Int))).1<;>rfl
   .simp only[fg,du,qp z,Ci,I,jd,ic,wS i];refine Ck hI (Ck (b:=am c (k:Int) o) (Cx ?_) ?_)
    .rw[L];unfold F9;cases (bc (aE j.Am (k:Int))).1
     .simp only[Cj];rw[FF g a3]
     .rfl
    .refine Ck (qbe (b:=j.Ac) (lv:=rj j.Ac j.Ay) (ps:=places j.Ac.Aa) (lo:=pre (sY j.Ac) j.Ac.Ah.length) (de:=pre (bA j.Ac) j.Ac.Ah.length) (ex:=[]) u J) (Ck pL p')
 have O:yW (M:Int) (0:Int)=V (List.replicate M 0):=yw (by omega);obtain⟨c',l',d',s',p'⟩:=a4 R.length 0 (List.replicate M 0) (by omega) jJ (λk u _=>by rw[fd (by rw[jJ];exact u)];simp) (λk _ a=>by rw[List.take_zero] at a;cases a);refine⟨c',l',λk u=>d' k u ?_,λnode hn=>⟨?_,?_⟩⟩
 .refine Classical.byContradiction λa=>?_;have A:R.Nodup:=by
   unfold List.Nodup;rw[List.pairwise_iff_getElem];exact λi j' _ hj hij e=>(f.at hj).2.1 (by rw[<-e,List.mem_iff_getElem];exact⟨i,by rw[jy];omega,by rw[Jl]⟩)
  have:=IH (l:=k::R) (l':=List.range M) (List.nodup_cons.2 ⟨a,A⟩) (λx m=>by
   rw[List.mem_range];rcases List.mem_cons.1 m with rfl|m
   .exact u
   .obtain⟨i,hi,rfl⟩:=List.mem_iff_getElem.1 m;exact(f.at hi).1)
  rw[Jn,List.length_range] at this;omega
 .have:Ev (λn=>oA n (NT j t)) c':=by
   unfold oA;show Ev (λn=>(bV n j.Ac).bind _) _;refine Ck H ?_;rw[O];simp only[jd];exact Ck H (Ck B (Ck s' .done))
  refine Ck this ?_;rw[qz (by omega)];exact .done
 .unfold gN ya WE;simp only[A,jd,O];refine Ck p' ?_;show Ev (λn=>(qG c' (node:Int)).bind _) _;rw[qz (by omega)];exact .done

instance:Inhabited qw:=⟨⟨0,[],0⟩⟩
theorem qaf{α:Type}{Q:Nat->Prop}{f:Nat->Nat->Option α}{v:Nat->α}:∀m,(∀i,i<m->Q i->Ev (f i) (v i))->∃N,∀n,N<=n->∀i,i<m->Q i->f i n=V (v i)
 |0,_=>⟨0,λ_ _ _ h=>absurd h (Jm _)⟩
 |m+1,h=>by
  obtain⟨N,b⟩:=qaf m λi hi=>h i (by omega);by_cases d:Q m
  .obtain⟨M,g⟩:=h m (by omega) d;refine⟨max N M,λn c i hi a=>?_⟩;by_cases e:i=m
   .subst e;exact g n (by omega)
   .exact b n (by omega) i (by omega) a
  .refine⟨N,λn c i hi a=>?_⟩;by_cases e:i=m
   .subst e;exact absurd a d
   .exact b n c i (by omega) a
abbrev nr(j:aZ)(k:Nat):List Nat:=lG (uZ (qd j.Ac) (rj j.Ac j.Ay) (k:Int)) (yg j.Ac)
def GE(j:aZ)(k:Nat):List qw:=bif (bc (aE j.Am (k:Int))).1 then[⟨(k:Int),[],0⟩] else[]
def ZC(i:Nat)(p:qw):qw:=⟨p.Bn,p.Bk++[(i:Int)],0⟩
def wI(tl:List Int)(p:qw):qw:=⟨p.Bn,p.Bk++tl.reverse,0⟩
def NH(t:qu)(f:Nat->List qw)(ls:List qx)(i:Nat):List qw:=bif gt t.Au (ip ls i) then(f (ip ls i)).map (ZC i) else[]
def aP(j:aZ)(t:qu):Nat->Nat->List qw
 |0,_=>[]
 |d+1,k=>GE j k++(nr j k).flatMap (NH t (aP j t d) (qd j.Ac))
theorem HU{α β:Type}{xs:List α}{x:α}{f:α->List β}:(xs++[x]).flatMap f=xs.flatMap f++f x:=by simp
theorem MZ{α β:Type}{xs:List α}{f:α->List β}(j:Nat):((xs.take j).flatMap f).length<=(xs.flatMap f).length:=by
 have h:xs.flatMap f=(xs.take j).flatMap f++(xs.drop j).flatMap f:=by rw[<-List.flatMap_append,List.take_append_drop]
 rw[h,jg];omega
theorem WN{j:aZ}{t:qu}:∀d k p,p∈aP j t d k->p.Bk.length+1<=d
 |0,_,p,h=>by simp[aP] at h
 |d+1,k,p,h=>by
  simp only[aP,List.mem_append] at h;rcases h with h|h
  .unfold GE at h;cases hs:(bc (aE j.Am (k:Int))).1<;>rw[hs] at h
   .simp at h
   .simp at h;subst h;simp
  .obtain⟨x,_,a⟩:=List.mem_flatMap.1 h;unfold NH at a;cases hr:gt t.Au (ip (qd j.Ac) x)<;>rw[hr] at a
   .simp at a
   .simp only[Ci] at a;obtain⟨c,b,rfl⟩:=List.mem_map.1 a;have:=WN d _ c b;show(c.Bk++[(x:Int)]).length+1<=d+1;rw[jg,jh];omega
def DO(t:qu)(f:Nat->List qw)(ls:List qx)(tl:List Int)(i:Nat):List qw:=bif gt t.Au (ip ls i) then(f (ip ls i)).map (wI (tl++[(i:Int)])) else[]
theorem qb4{t:qu}{f:Nat->List qw}{ls:List qx}{tl:List Int}{i:Nat}:DO t f ls tl i=(NH t f ls i).map (wI tl):=by
 unfold DO NH;cases gt t.Au (ip ls i)
 .rfl
 .simp only[Ci,List.map_map];refine List.map_congr_left λp _=>?_;simp[wI,ZC]
theorem qbV{j:aZ}{t:qu}{R:List Nat}{k:Nat}{f:Nat->List qw}{x1:List qw}{tl:List Int}(C:aL j.Ac=An)(H:GQ t (vH j.Ac))(I:tl.length<=1000000) :
  ∃N,∀n,N<=n->∀b:Option aS->Int->List Int->List qw->Option (List qw),(∀i,∀hi:i<(nr j k).length,gt t.Au (ip (qd j.Ac) (nr j k)[i])=An->b (ya j t R) (ip (qd j.Ac) (nr j k)[i]:Int) (tl++[((nr j k)[i]:Int)]) (x1++((nr j k).take i).flatMap (DO t f (qd j.Ac) tl))=V (x1++((nr j k).take (i+1)).flatMap (DO t f (qd j.Ac) tl))) ->
   cj (ya j t R) tl b ⟨WE j.Ac j.Ay,j,t,eB R⟩ (eB (nr j k)) n x1 0=V (x1++(nr j k).flatMap (DO t f (qd j.Ac) tl),((nr j k).length:Int)):=by
 have v:=kA C;have s:=v.len;have u:(nr j k).length<=10000:=Ja wm s;have a:∀x,x∈nr j k->x<yg j.Ac:=λx J=>(oh.1 J).1;generalize nr j k=sl at u a;have p:=qdj (P:=λi=>∃N,∀n,N<=n->∀b:Option aS->Int->List Int->List qw->Option (List qw),(∀i,∀hi:i<sl.length,gt t.Au (ip (qd j.Ac) sl[i])=An->b (ya j t R) (ip (qd j.Ac) sl[i]:Int) (tl++[(sl[i]:Int)]) (x1++(sl.take i).flatMap (DO t f (qd j.Ac) tl))=V (x1++(sl.take (i+1)).flatMap (DO t f (qd j.Ac) tl))) ->
   cj (ya j t R) tl b ⟨WE j.Ac j.Ay,j,t,eB R⟩ (eB sl) n (x1++(sl.take i).flatMap (DO t f (qd j.Ac) tl)) (i:Int)=V (x1++sl.flatMap (DO t f (qd j.Ac) tl),(sl.length:Int))) sl.length
  ⟨1,λn F b _=>by
   obtain⟨m,rfl⟩:∃m,n=m+1:=⟨n-1,by omega⟩;simp only[cj,du,qr (jf _),Cj,jH]⟩
  (λi hi L=>by
   obtain⟨N,D⟩:=L;have o:=yu hi;have d:=a _ (jm hi);have l:sl.take (i+1)=sl.take i++[sl[i]]:=jw hi;refine⟨N+1,λn F b h=>?_⟩;obtain⟨m,rfl⟩:∃m,n=m+1:=⟨n-1,by omega⟩;have c:=D m (by omega) b h;have g:=h i hi;generalize sl[i]=y at o d l g;obtain⟨e1,z⟩:=uk v d;have M:(mw j.Ac).links=qd j.Ac:=rfl;have r:qG t.Au (ip (qd j.Ac) y:Int)=V (gt t.Au (ip (qd j.Ac) y)):=qz (by rw[H.r];exact z);have A:df tl [(y:Int)]=V (tl++[(y:Int)]):=eG (by rw[jh];omega);have B:df ([]:List Int) tl=V tl:=by rw[eG (by rw[List.length_nil];omega),List.nil_append]
   have K:qG (mw j.Ac).links (y:Int)=V (gt (qd j.Ac) y):=qz d;simp only[cj,du,qp hi,Ci,o,jd,WE,K,e1,r,iG,B,A,wS i];cases hr:gt t.Au (ip (qd j.Ac) y)
   .simp only[Cj];rw[l,List.flatMap_append] at c;simp only[List.flatMap_cons,List.flatMap_nil,Jb] at c;unfold DO at c;rw[hr] at c;simp only[Cj,Jb] at c;exact c
   .simp only[Ci];rw[g hr];simp only[jd];exact c)
 simpa using p

section
variable{j:aZ}{t:qu}{R:List Nat}{c:List Int}
theorem rQ(c:pW j t R){i:Nat}(hi:i<R.length){x:Nat}(d:x∈nr j R[i]):x<yg j.Ac/\∃i',∃hi':i'<R.length,i'<i/\R[i']=ip (qd j.Ac) x:=by
 obtain⟨x1,a⟩:=oh.1 d;obtain⟨f,g,k3⟩:=c.tg.ord.at hi;unfold uZ at a;rw[je,beq_iff_eq] at a;have:=xO.1 k3 x x1 a.1 a.2;obtain⟨e1,_⟩:=uk (kA c.tg.bl) x1;rw[show CL (qd j.Ac) x=(ip (qd j.Ac) x:Int) from e1,rk] at this;obtain⟨q,b,eq⟩:=List.mem_iff_getElem.1 this;rw[jy] at b;rw[Jl] at eq;exact⟨x1,q,by omega,by omega,eq⟩
theorem XK{g:Nat->Int}:∀(l:List Nat) (a:Int),(∀x,x∈l->0<=g x/\g x<=1000000)->0<=a->a<=1000000 ->
  a<=l.foldl (λv k=>ZW (qj (v+g k))) a/\l.foldl (λv k=>ZW (qj (v+g k))) a<=1000000/\(l.foldl (λv k=>ZW (qj (v+g k))) a<=300->l.foldl (λv k=>ZW (qj (v+g k))) a=a+(l.map g).sum)
 | [],a,_,_,h1=>by simpa using h1
 |x::l,a,hg,h0,h1=>by
  obtain⟨n,o⟩:=hg x (ju ..);have c:qj (a+g x)=a+g x:=qX (by omega) (by omega);have b:a<=ZW (qj (a+g x))/\ZW (qj (a+g x))<=1000000/\(ZW (qj (a+g x))<=300->ZW (qj (a+g x))=a+g x):=by
   rw[c];unfold ZW;split<;>refine⟨by omega,by omega,λ_=>by omega⟩
  obtain⟨r1,f,i⟩:=XK l (ZW (qj (a+g x))) (λy d=>hg y (jr _ d)) (by omega) b.2.1;simp only[List.foldl_cons,Jj,List.sum_cons];refine⟨by omega,f,λh=>?_⟩;have e1:=i h;have m:=b.2.2 (by omega);omega
theorem qay{g:Nat->Int}:∀(l:List Nat),(∀x,x∈l->0<=g x)->0<=(l.map g).sum/\∀x,x∈l->g x<=(l.map g).sum
 | [],_=>⟨by simp,λx h=>by cases h⟩
 |y::l,hg=>by
  obtain⟨a,b⟩:=qay l λx h=>hg x (jr _ h);have:=hg y (ju ..);simp only[Jj,List.sum_cons];refine⟨by omega,λx c=>?_⟩;rcases List.mem_cons.1 c with rfl|c
  .omega
  .have:=b x c;omega
theorem I8{β:Type}{g:Nat->Int}{f:Nat->List β}:∀(l:List Nat),(∀x,x∈l->((f x).length:Int)<=g x)->((l.flatMap f).length:Int)<=(l.map g).sum
 | [],_=>by simp
 |y::l,h=>by
  have a:=I8 l λx c=>h x (jr _ c);have b:=h y (ju ..);simp only[List.flatMap_cons,jg,Jj,List.sum_cons];omega
theorem I7{β:Type}{g:Nat->Int}{f:Nat->List β}:∀(l:List Nat),(∀x,x∈l->((f x).length:Int)=g x)->((l.flatMap f).length:Int)=(l.map g).sum
 | [],_=>by simp
 |y::l,h=>by
  have a:=I7 l λx c=>h x (jr _ c);have b:=h y (ju ..);simp only[List.flatMap_cons,jg,Jj,List.sum_cons];omega
def WH(j:aZ)(c:List Int):Prop:=∀k,k<vH j.Ac->gt c k=WD (qd j.Ac) (rj j.Ac j.Ay) c (k:Int) (F9 j (k:Int)) (yg j.Ac)
theorem qbb{k:Int}:0<=F9 j k/\F9 j k<=1:=by
 unfold F9;cases (bc (aE j.Am k)).1<;>simp
theorem VR{k:Nat}:((GE j k).length:Int)=F9 j (k:Int):=by
 unfold F9 GE;cases (bc (aE j.Am (k:Int))).1<;>simp
theorem XE(d:pW j t R)(f:WH j c):∀m i,∀hi:i<R.length,i<m->0<=gt c R[i]/\gt c R[i]<=1000000/\(gt c R[i]<=300->gt c R[i]=F9 j (R[i]:Int)+((nr j R[i]).map λx=>gt c (ip (qd j.Ac) x)).sum/\∀x,x∈nr j R[i]->gt c (ip (qd j.Ac) x)<=300)
 |0,_,_,h=>absurd h (Jm _)
 |m+1,i,hi,h=>by
  have s:R[i]<vH j.Ac:=(d.tg.ord.at hi).1;have l:∀x,x∈nr j R[i]->0<=gt c (ip (qd j.Ac) x)/\gt c (ip (qd j.Ac) x)<=1000000:=λx a=>by
   obtain⟨_,y,b,u,e⟩:=rQ d hi a;have:=XE d f m y b (by omega);rw[e] at this;exact⟨this.1,this.2.1⟩
  have e:=f R[i] s;have v:=qbb (j:=j) (k:=(R[i]:Int));obtain⟨r1,n,o⟩:=XK (g:=λx=>gt c (ip (qd j.Ac) x)) (nr j R[i]) (F9 j (R[i]:Int)) l v.1 (by omega);unfold WD at e;rw[<-e] at r1 n o;refine⟨by omega,n,λr=>?_⟩;have p:=o r;obtain⟨s0,s1⟩:=qay (g:=λx=>gt c (ip (qd j.Ac) x)) (nr j R[i]) λx a=>(l x a).1;exact⟨p,λx a=>by have:=s1 x a;omega⟩
theorem UA(m:pW j t R)(n:WH j c):∀d i,∀hi:i<R.length,i<d->gt c R[i]<=300->((aP j t d R[i]).length:Int)<=gt c R[i]
 |0,_,_,h,_=>absurd h (Jm _)
 |d+1,i,hi,h,h3=>by
  obtain⟨e,o⟩:=(XE m n (i+1) i hi (by omega)).2.2 h3;have:=I8 (g:=λx=>gt c (ip (qd j.Ac) x)) (f:=NH t (aP j t d) (qd j.Ac)) (nr j R[i]) λx s=>by
   obtain⟨_,p,l,u,r⟩:=rQ m hi s;have a:=UA m n d p l (by omega) (by rw[r];exact o x s);have b:=(XE m n (p+1) p l (by omega)).1;rw[r] at a b;unfold NH;cases gt t.Au (ip (qd j.Ac) x)
   .simpa using b
   .simpa using a
  simp only[aP,jg];have:=VR (j:=j) (k:=R[i]);omega
theorem W8(h:nH j)(r:pW j t R)(D:WH j c):∀d i,∀hi:i<R.length,i<d->d<=1000->gt c R[i]<=300 ->
  ∀tl g,tl.length+i<=1000->g.length+(aP j t d R[i]).length<=1000->Ev (λn=>bK n (ya j t R) (R[i]:Int) tl g) (g++(aP j t d R[i]).map (wI tl))
 |0,_,_,h,_,_=>absurd h (Jm _)
 |d+1,i,hi,hid,hd,h3=>by
  have P:=r.tg.bl;have X:=kA P;have K:(rj j.Ac j.Ay).length=yg j.Ac:=vG;have s:=((XE r D (i+1) i hi (by omega)).2.2 h3).2;have A:=UA r D (d+1) i hi hid h3;have S:∀x,x∈nr j R[i]->∃o,∃m:o<R.length,o<i/\R[o]=ip (qd j.Ac) x/\(aP j t d (ip (qd j.Ac) x)).length<=300 /\
    ∀tl g,tl.length+o<=1000->g.length+(aP j t d (ip (qd j.Ac) x)).length<=1000->Ev (λn=>bK n (ya j t R) (ip (qd j.Ac) x:Int) tl g) (g++(aP j t d (ip (qd j.Ac) x)).map (wI tl)):=λx F=>by
   obtain⟨_,o,m,B,e⟩:=rQ r hi F;have a:=W8 h r D d o m (by omega) (by omega) (by rw[e];exact s x F);have b:=UA r D d o m (by omega) (by rw[e];exact s x F);have b3:=s x F;rw[e] at a b;exact⟨o,m,B,e,by omega,a⟩
  have H:aP j t (d+1) R[i]=GE j R[i]++(nr j R[i]).flatMap (NH t (aP j t d) (qd j.Ac)):=rfl;rw[H,jg] at A;generalize R[i]=k at S A H h3;rw[H]
  .intro tl g a6 y;rw[jg] at y;have u:∀l:List Nat,l.flatMap (DO t (aP j t d) (qd j.Ac) tl)=(l.flatMap (NH t (aP j t d) (qd j.Ac))).map (wI tl):=λl=>by
    rw[List.map_flatMap];exact congrArg (λf=>l.flatMap f) (funext λx=>qb4)
   refine Cm ?_;simp only[bK];refine Cy (x:=ya j t R) (b:=⟨WE j.Ac j.Ay,j,t,eB R⟩) Z ?_;show Ev (λn=>(dX n j.Am (k:Int)).bind _) _;refine Ck (AB h.Am.len) (Ck (b:=g++(GE j k).map (wI tl)) ?_ ?_)
   .have a5:=VR (j:=j) (k:=k);have a4:=qbb (j:=j) (k:=(k:Int));unfold GE;cases (bc (aE j.Am (k:Int))).1
    .refine Cp Z (Cx ?_);simp
    .refine Cq Z (Ck (b:=tl) (Cx ?_) (Ck (b:=tl.reverse) (Cx Z) (Ck (b:=g++[(⟨(k:Int),tl.reverse,0⟩:qw)]) (Cx ?_) .done)))
     .show df [] tl=V tl;rw[eG (by simp;omega),List.nil_append]
     .exact eG (by rw[jh];omega)
   .refine Ck (qbe (b:=j.Ac) (lv:=rj j.Ac j.Ay) (ps:=places j.Ac.Aa) (lo:=pre (sY j.Ac) j.Ac.Ah.length) (de:=pre (bA j.Ac) j.Ac.Ah.length) (ex:=[]) (node:=(k:Int)) X K) ?_;obtain⟨N,W⟩:=qbV (R:=R) (k:=k) (f:=aP j t d) (x1:=g++(GE j k).map (wI tl)) (tl:=tl) P r.tm (by omega);obtain⟨M,T⟩:=qaf (Q:=λq=>∃p:q<(nr j k).length,gt t.Au (ip (qd j.Ac) (nr j k)[q])=An)
     (f:=λq n=>bK n (ya j t R) (ip (qd j.Ac) (gt (nr j k) q):Int) (tl++[((gt (nr j k) q:Nat):Int)]) (g++(GE j k).map (wI tl)++((nr j k).take q).flatMap (DO t (aP j t d) (qd j.Ac) tl)))
     (v:=λq=>g++(GE j k).map (wI tl)++((nr j k).take (q+1)).flatMap (DO t (aP j t d) (qd j.Ac) tl)) (nr j k).length λq a3 ⟨p,L⟩=>by
      have C:(nr j k).take (q+1)=(nr j k).take q++[(nr j k)[q]]:=jw p;have z:=MZ (xs:=nr j k) (f:=DO t (aP j t d) (qd j.Ac) tl) (q+1);rw[u (nr j k),jo,C,HU,jg] at z;have Y:=jm p;have e0:=fd p;obtain⟨o,m,B,e,hl,J⟩:=S _ Y;have O:DO t (aP j t d) (qd j.Ac) tl (nr j k)[q]=(aP j t d (ip (qd j.Ac) (nr j k)[q])).map (wI (tl++[((nr j k)[q]:Int)])):=by unfold DO;rw[L];rfl
      rw[O,jo] at z;have:=J (tl++[((nr j k)[q]:Int)]) (g++(GE j k).map (wI tl)++((nr j k).take q).flatMap (DO t (aP j t d) (qd j.Ac) tl)) (by rw[jg,jh];omega) (by rw[jg,jg,jo];omega);rw[C,HU,O,<-jv,e0];exact this
    refine⟨max N M,λn hn=>?_⟩;have I:=W n (by omega) (bK n) λq p L=>by
     have:=T n (by omega) q p ⟨p,L⟩;rw[fd p] at this;exact this
    show(cj (ya j t R) tl (bK n) ⟨WE j.Ac j.Ay,j,t,eB R⟩ (eB (nr j k)) n (g++(GE j k).map (wI tl)) 0).bind _=_;rw[I,u,jv,<-jY]
    rfl
theorem UC{xs ys:List Int}{q:Nat}(h:q<xs.length):bm (xs++ys) q=bm xs q:=by
 unfold bm;rw[jz,jz,jA h]
theorem OL{xs:List Int}{y:Int}:bm (xs++[y]) xs.length=y:=by
 unfold bm;rw[jz,jD (jf _),Nat.sub_self]
 rfl
theorem H5{ls:List qx}{start:Int}{path ys:List Int}:∀q,q<=path.length->UD ls start (path++ys) q=UD ls start path q
 |0,_=>rfl
 |q+1,h=>by
  show(gt ls (bm (path++ys) q).toNat).To=(gt ls (bm path q).toNat).To;rw[UC (by omega)]
theorem T0(g:pW j t R){k x:Nat}{start:Int}{path:List Int}(b:ma j start path=An)(d:C4 j start path=(ip (qd j.Ac) x:Int))(h:x∈nr j k) :
  ma j start (path++[(x:Int)])=An/\C4 j start (path++[(x:Int)])=(k:Int):=by
 obtain⟨x1,c⟩:=oh.1 h;unfold uZ AX FH at c;rw[je,beq_iff_eq] at c;obtain⟨e1,_⟩:=uk (kA g.tg.bl) x1;unfold ma at b⊢;rw[je,aA] at b;constructor
 .rw[je,aA];refine⟨b.1,λq f=>?_⟩;rw[jg,jh] at f;by_cases a:q<path.length
  .have:=b.2 q a;unfold okP at this⊢;rw[UC a,H5 q (by omega)];exact this
  .obtain rfl:q=path.length:=by omega
   unfold okP;rw[OL,H5 _ (jf _),jq,c.1,e1];unfold C4 at d;rw[d];have:gu (x:Int) 0 (((qd j.Ac).length:Int)-1)=An:=cu.2 ⟨by omega,by have:x<(qd j.Ac).length:=x1;omega⟩;rw[this];simp
 .unfold C4;rw[jg,jh];show(gt (qd j.Ac) (bm (path++[(x:Int)]) path.length).toNat).To=(k:Int);rw[OL,jq];exact c.2
theorem NV(i:pW j t R):∀d k p,p∈aP j t d k->ma j p.Bn p.Bk=An/\C4 j p.Bn p.Bk=(k:Int)/\p.Af=0
 |0,_,p,h=>by simp[aP] at h
 |d+1,k,p,h=>by
  simp only[aP,List.mem_append] at h;rcases h with h|h
  .unfold GE at h;cases hs:(bc (aE j.Am (k:Int))).1<;>rw[hs] at h
   .simp at h
   .simp only[Ci,List.mem_singleton] at h;subst h;refine⟨?_,Z,Z⟩;unfold ma;rw[hs]
    rfl
  .obtain⟨x,g,c⟩:=List.mem_flatMap.1 h;unfold NH at c;cases hr:gt t.Au (ip (qd j.Ac) x)<;>rw[hr] at c
   .simp at c
   .simp only[Ci] at c;obtain⟨l,f,rfl⟩:=List.mem_map.1 c;obtain⟨a,b,_⟩:=NV i d _ l f;have:=T0 i a b g;exact⟨this.1,this.2,Z⟩
end
end Go.Fw


namespace Go.Fw
open Go Go.Sort
set_option maxRecDepth 100000
theorem zk{n:Nat}{x y:Int}:fE n x y=V (wY x y):=by
 unfold fE nW wY;simp only[bne_self_eq_false,jd,Cj];by_cases a:x<y
 .simp[a]
 .by_cases b:y<x<;>simp[a,b]
theorem Z7{xs ys:List Int}(u:xs.length<=1000000):Ev (λn=>ks n xs ys) (pF xs ys):=by
 have g:∀d i,i+d=xs.length->i<=ys.length->∃o,Ev (λn=>bF xs ys n (i:Int)) o /\
   match o with|.ret r=>r=pF (xs.drop i) (ys.drop i)|.nxt _=>pF (xs.drop i) (ys.drop i)=if xs.length<ys.length then -1 else 0:=by
  intro d
  induction d with
  |zero=>
   intro i hi t;obtain rfl:i=xs.length:=by omega
   refine⟨.nxt (xs.length:Int),Cm ?_,?_⟩
   .simp only[bF,qr (jf _),Cj];exact .done
   .simp only[List.drop_length];have c:(ys.drop xs.length).length=ys.length-xs.length:=List.length_drop;cases h:ys.drop xs.length with
    |nil=>rw[h] at c;simp at c;rw[if_neg (by omega)];rfl
    |cons a l=>rw[h] at c;simp at c;rw[if_pos (by omega)];rfl
  |succ d ih=>
   intro i hi t;have b:i<xs.length:=by omega
   have ex:xs.drop i=xs[i]::xs.drop (i+1):=jF b;by_cases m:i<ys.length
   .have s:ys.drop i=ys[i]::ys.drop (i+1):=jF m;by_cases k:wY xs[i] ys[i]=0
    .obtain⟨o,p,f⟩:=ih (i+1) (by omega) (by omega);refine⟨o,Cm ?_,?_⟩
     .simp only[bF,qp b,Ci,bZ b,jd,wS i];refine Cp (decide_eq_false (by omega)) (Cy (bZ m) (Ck (.now (zk (n:=0))) (Cp (by rw[k];rfl) p)))
     .rw[ex,s];simp only[pF,k,if_true];exact f
    .refine⟨.ret (wY xs[i] ys[i]),Cm ?_,?_⟩
     .simp only[bF,qp b,Ci,bZ b,jd];exact Cp (decide_eq_false (by omega)) (Cy (bZ m) (Ck (.now (zk (n:=0))) (Cq (by simpa using k) .done)))
     .rw[ex,s];simp only[pF,k,if_false]
   .refine⟨.ret 1,Cm ?_,?_⟩
    .simp only[bF,qp b,Ci,bZ b,jd];exact Cq (decide_eq_true (by omega)) .done
    .rw[ex,show ys.drop i=[] from List.drop_of_length_le (by omega)]
     rfl
 obtain⟨o,p,f⟩:=g xs.length 0 (by omega) (jW _);unfold ks;refine Ck p ?_;cases o with
 |ret r=>simp only[List.drop_zero] at f;subst f;exact .done
 |nxt i=>
  simp only[List.drop_zero] at f;rw[f];by_cases c:xs.length<ys.length
  .rw[if_pos c];exact Cq (decide_eq_true (by omega)) .done
  .rw[if_neg c];exact Cp (decide_eq_false (by omega)) .done
theorem YN{a b:Int}:Ev (λn=>vj n ([a,b]:List Int)) (if a=0 then b else a):=by
 unfold vj;by_cases c:a=0
 .by_cases d:b=0
  .refine Ck (b:=.nxt 2) (Cm ?_) ?_
   .simp only[fM];refine Cq Z (Cy (b:=a) Z (Cp (by simpa using c) (Cm ?_)));simp only[fM];refine Cq Z (Cy (b:=b) Z (Cp (by simpa using d) (Cm ?_)));simp only[fM];exact Cp Z .done
   .rw[if_pos c,d];exact .done
  .refine Ck (b:=.ret b) (Cm ?_) ?_
   .simp only[fM];refine Cq Z (Cy (b:=a) Z (Cp (by simpa using c) (Cm ?_)));simp only[fM];exact Cq Z (Cy (b:=b) Z (Cq (by simpa using d) .done))
   .rw[if_pos c];exact .done
 .refine Ck (b:=.ret a) (Cm ?_) ?_
  .simp only[fM];exact Cq Z (Cy (b:=a) Z (Cq (by simpa using c) .done))
  .rw[if_neg c];exact .done
def qep:qw->qw->Int:=UU (λp q=>wY p.Bn q.Bn) λp q=>pF p.Bk q.Bk
theorem MY{p q:qw}(a:p.Bk.length<=1000000):Ev (λn=>mX n p q) (qep p q):=by
 unfold mX;exact Ck (.now (zk (n:=0))) (Ck (Z7 a) (Ck YN .done))
theorem GS{n:Nat}{p q:qw}{mode:Int}:kp n p.Af q.Af mode=V (PS mode p q):=by
 unfold kp PS;by_cases h:mode=1
 .simp only[h,beq_self_eq_true,Ci,zk,jd,if_true]
 .have:(mode==1)=Cd:=by simpa using h
  simp only[this,Cj,zk,jd,h,if_false]
theorem RQ{p q:qw}{mode:Int}(a:p.Bk.length<=1000000):Ev (λn=>iD n p q mode) (za mode p q):=by
 unfold iD;exact Ck (.now (GS (n:=0))) (Ck (MY a) (Ck YN .done))
theorem H9{α β:Type}{f:α->Nat->Option β}{v:α->β}:∀l:List α,(∀x,x∈l->Ev (f x) (v x))->∃N,∀n,N<=n->∀x,x∈l->f x n=V (v x)
 | [],_=>⟨0,λ_ _ x h=>by cases h⟩
 |y::l,h=>by
  obtain⟨N,c⟩:=H9 l λx a=>h x (jr _ a);obtain⟨M,b⟩:=h y (ju ..);refine⟨max N M,λn d x a=>?_⟩;rcases List.mem_cons.1 a with rfl|a
  .exact b n (by omega)
  .exact c n (by omega) x a
theorem XJ{α β:Type}{f:α->α->Nat->Option β}{v:α->α->β}{m:List α}:∀l:List α,(∀x,x∈l->∀y,y∈m->Ev (f x y) (v x y))->∃N,∀n,N<=n->∀x,x∈l->∀y,y∈m->f x y n=V (v x y)
 | [],_=>⟨0,λ_ _ x h=>by cases h⟩
 |z::l,h=>by
  obtain⟨N,c⟩:=XJ l λx a=>h x (jr _ a);obtain⟨M,b⟩:=H9 m (h z (ju ..));refine⟨max N M,λn d x a=>?_⟩;rcases List.mem_cons.1 a with rfl|a
  .exact b n (by omega)
  .exact c n (by omega) x a
def ua(mode:Int)(xs:List qw):List qw:=xs.mergeSort (NG (za mode))
theorem ZD{xs:List qw}{mode:Int}(i:xs.length<=1000000)(c:∀p,p∈xs->p.Bk.length<=1000000):Ev (λn=>MR n xs mode) (ua mode xs):=by
 have b:∀p,p∈(qm.zero:qw)::xs->p.Bk.length<=1000000:=λp a=>by
  rcases List.mem_cons.1 a with rfl|a
  .exact jW _
  .exact c p a
 obtain⟨N,d⟩:=XJ (f:=λp q n=>iD n p q mode) (v:=λp q=>za mode p q) (m:=(qm.zero:qw)::xs) ((qm.zero:qw)::xs) λp a q _=>RQ (b p a);refine⟨N,λn g=>?_⟩;show MR n xs mode=_;unfold MR;rw[if_pos ⟨by omega,λp a q h=>d n g p a q h⟩]
 rfl
theorem qb3{mode:Int}{a b:qw}:NG (za mode) a b=An↔¬ za mode b a<0:=by simp[NG]
theorem ZH{mode:Int}{xs:List qw}:(ua mode xs).Pairwise λa b=>NG (za mode) a b=An:=by
 have f:=(E3 mode).swo;refine List.pairwise_mergeSort ?_ ?_ _
 .intro a b c g d;simp only[NG,jC] at g d⊢;exact f.ntrans c b a d g
 .intro a b;cases hh:decide (za mode b a<0) with
  |false=>simp[NG,hh]
  |true=>
   have:decide (za mode a b<0)=Cd:=by
    cases d:decide (za mode a b<0) with
    |false=>rfl
    |true=>
     have:=f.trans a b a d hh;rw[f.irrefl a] at this;cases this
   simp[NG,this]
end Go.Fw


namespace Go.Fw
open Go
set_option maxRecDepth 100000
theorem YH{j:aZ}{node:Int}(h:nH j)(mode:Int) :
  (∃code:Int,code≠0/\Ev (λn=>lT n j node) (U,code)/\Ev (λn=>cL n j mode [node]) (U,code)) \/
  ∃t R,pW j t R/\gu node 0 ((vH j.Ac:Int)-1)=An/\Ev (λn=>bT n j) (NT j t,0)/\Ev (λn=>lT n j node) (NT j t,0)/\Ev (λn=>cL n j mode [node]) (bif mu mode then(ya j t R,0) else(U,2)):=by
 have k:([node].all λx=>gu x 0 ((vH j.Ac:Int)-1))=gu node 0 ((vH j.Ac:Int)-1):=by simp
 have op:(∃code:Int,code≠0/\Ev (λn=>bT n j) (U,code)/\Ev (λn=>cL n j mode [node]) (U,code)) \/
   ∃t R,pW j t R/\Ev (λn=>bT n j) (NT j t,0)/\Ev (λn=>cL n j mode [node]) (bif gu node 0 ((vH j.Ac:Int)-1) then bif mu mode then(ya j t R,0) else(U,2) else(U,4)):=by
  cases hm:mu mode
  .have f:=h.Ay.len;unfold bT cL;rcases WA h with⟨code,hne,hs,hi⟩|⟨t,R,hw,hs,hi⟩
   .exact .inl ⟨code,hne,Ck hs (Cq (oF hne) .done),Ck hi (Cq (oF hne) .done)⟩
   .have d:=hw.tg.bl;have g:=lY d;have b:=bj (ab (aO d));have r:=rh (ls:=qd j.Ac) (br:=j.Ay) g f;refine .inr ⟨t,R,hw,Ck hs (Cp Z (Ck (hU d) (Ck r .done))),Ck hi (Cp Z ?_)⟩;have i:=zH (v:=mw j.Ac) b;have e1:qj (((2*(mw j.Ac).places.length:Nat):Int)-1)=(vH j.Ac:Int)-1:=by
     show qj (((2*(places j.Ac.Aa).length:Nat):Int)-1)=_;rw[qX (by omega) (by omega)]
    unfold ya WE;simp only[jd,i,e1];refine Ck (kb (by simp)) ?_;rw[k];cases gu node 0 ((vH j.Ac:Int)-1)
    .exact Cq Z .done
    .refine Cp Z ?_;simp only[SJ,hm];exact .done
  .rcases OC h with⟨code,hne,hs,hi⟩|⟨t,R,hw,hs,hi⟩
   .exact .inl ⟨code,hne,hs,hi mode [node]⟩
   .have l:=hi mode [node] (by simp) (uE hm);rw[k] at l;exact .inr ⟨t,R,hw,hs,l⟩
 unfold lT;rcases op with⟨code,hne,hs,hi⟩|⟨t,R,hw,hs,hi⟩
 .exact .inl ⟨code,hne,Ck hs (Cq (oF hne) .done),hi⟩
 .have b:=bj (ab (aO hw.tg.bl));have a:=tR hw.tg.bl;have e1:∀n,bk n node 0 (qj (((2*(places j.Ac.Aa).length:Nat):Int)-1))=V (gu node 0 ((vH j.Ac:Int)-1)):=λn=>by rw[gC,qX (by omega) (by omega)]
  obtain⟨p,o,m⟩:=t;have c:Ev (λn=>bT n j) (V (⟨j,qd j.Ac,rj j.Ac j.Ay,⟨p,o,m⟩⟩:qT),(0:Int)):=hs;cases hr:gu node 0 ((vH j.Ac:Int)-1)
  .rw[hr] at hi;refine .inl ⟨4,by decide,Ck c ?_,hi⟩;show Ev (λn=>(bV n j.Ac).bind _) _;refine Ck a ?_;simp only[e1,hr];exact .done
  .rw[hr] at hi;refine .inr ⟨⟨p,o,m⟩,R,hw,Z,hs,Ck c ?_,hi⟩;show Ev (λn=>(bV n j.Ac).bind _) _;refine Ck a ?_;simp only[e1,hr];exact .done
theorem qag{α:Type}{f:Nat->Option (List Int)}{k v:Int}{g:Nat->Int->Option α}{a:α}(h:Ev (λn=>(f n).bind λr=>(qG r k).bind λy=>V (y,(0:Int))) (v,0))(l:Ev (λn=>g n v) a):Ev (λn=>(f n).bind λr=>(qG r k).bind (g n)) a:=by
 obtain⟨N,i⟩:=h;obtain⟨M,d⟩:=l;refine⟨max N M,λn m=>?_⟩;have b:=i n (by omega);have c:=d n (by omega);simp only at b c⊢;cases hf:f n with
 |none=>rw[hf] at b;simp at b
 |some r=>
  rw[hf] at b;simp only[jd] at b⊢;cases hi:qG r k with
  |none=>rw[hi] at b;simp at b
  |some y=>
   rw[hi] at b;simp only[jd,Option.some.injEq,Prod.mk.injEq,and_true] at b;subst b;exact c
def N0{α:Type}(g:α->α)(L:List α)(i:Nat):List α:=(L.take i).map g++L.drop i
theorem ZJ{α:Type}{g:α->α}{L:List α}:N0 g L 0=L:=by simp[N0]
theorem ZI{α:Type}{g:α->α}{L:List α}:N0 g L L.length=L.map g:=by simp[N0]
section
variable{α:Type}[Inhabited α]{g:α->α}{L:List α}{i:Nat}
theorem OG(h:i<L.length):qG (N0 g L i) (i:Int)=V (gt L i):=by
 have a:i<(N0 g L i).length:=by unfold N0;rw[jg,jo,jy,List.length_drop];omega
 have e:(N0 g L i)[i]?=V L[i]:=by
  unfold N0;rw[jD (by rw[jo,jy];omega),jo,jy,Nat.min_eq_left (by omega),Nat.sub_self,Je,Jp,jj h]
 rw[bZ a,fd h];exact congrArg V (List.getElem?_eq_some_iff.1 e).2
theorem N1(h:i<L.length):am (N0 g L i) (i:Int) (g (gt L i))=N0 g L (i+1):=by
 have a:((L.take i).map g).length=i:=by rw[jo,jy];omega
 unfold am N0;rw[jq,jw h,jY,jv,List.set_append_right _ _ (by omega),a,Nat.sub_self,jF h,fd h]
 rfl
end
def lf(A:qw->Int)(p:qw):qw:=⟨p.Bn,p.Bk,A p⟩
theorem PQ{mode:Int}{l:List qw}{p:qw}:p∈ua mode l↔p∈l:=(List.mergeSort_perm l _).mem_iff
theorem PK{mode:Int}{l:List qw}:(ua mode l).length=l.length:=List.length_mergeSort _
section
variable{j:aZ}{t:qu}{R:List Nat}{c:List Int}
theorem PR(h:nH j)(f:pW j t R)(r:WH j c){node:Nat}(u:node<vH j.Ac)(o:gt c node<=300) :
  ∃L:List qw,((L.length:Int)<=gt c node)/\(∀p,p∈L->p.Bk.length<=156/\ma j p.Bn p.Bk=An/\p.Af=0)/\L=aP j t R.length node /\
   Ev (λn=>nh n (ya j t R) (node:Int)) L:=by
 obtain⟨i,hi,l⟩:=f.tg.ord.full f.tg.len u;have v:=bj (ab (aO f.tg.bl));have x:R.length<=156:=by rw[f.tg.len];show 2*(places j.Ac.Aa).length<=156;omega
 have d:=W8 h f r R.length i hi hi (by omega) (by rw[l];exact o);have g:=UA f r R.length i hi hi (by rw[l];exact o);rw[l] at d g;have s:=NV f R.length node;refine⟨aP j t R.length node,g,λp k=>?_,Z,?_⟩
 .obtain⟨a,_,b⟩:=s p k;have:=WN _ _ p k;exact⟨by omega,a,b⟩
 .have m:=d [] [] (by rw[List.length_nil];omega) (by rw[List.length_nil];omega);have e:([]:List qw)++(aP j t R.length node).map (wI [])=aP j t R.length node:=by
   rw[List.nil_append];have:(aP j t R.length node).map (wI [])=(aP j t R.length node).map id:=List.map_congr_left λp k=>by
    obtain⟨_,_,b⟩:=s p k;cases p;simp only at b;subst b;simp[wI]
   rw[this,List.map_id]
  rw[e] at m;unfold nh;exact Ck m .done
def KI(f:Nat->qg->qg×qg)(j:aZ)(t:qu)(mode:Int)(p:qw):Int:=CM mode (GH f (qd j.Ac) t (bc (aE j.Am p.Bn)).2.Af p.Bk p.Bk.length)
end

theorem xt{p f mode:Int}(d:0<=p)(p1:p<=1000000)(a:0<=f)(b:f<=5000):0<=iz (p*f) 1000 mode/\iz (p*f) 1000 mode<=5000000:=by
 have c:0<=p*f:=jS d a;have g:p*f<=1000000*5000:=Jf p1 b a (by omega);exact uh (by omega) c (by omega)
theorem YC{b:qf}{c:qH}(h:aL b=An)(t:ke c=An){k:Nat}(B:k<(qd b).length){sl mode:Int}:∃D:Int,(0<=D/\D<=5000000)/\Ev (λn=>aI n b c (gt (qd b) k) sl mode) D:=by
 obtain⟨d,_⟩:=nF h (mz B);generalize gt (qd b) k=x at d;rcases d with⟨i,j,m,net,a,d⟩|⟨j,net,q,d⟩
 .obtain⟨f,A,l,p,C⟩:=zm t (kind:=x.Bf) (mode:=mode);have s:m<(gt (bW b (i:Int)).Av a).Bq.length:=by rw[d.d2];exact d.ml
  obtain⟨r,y,r1,F,ri⟩:=PN (d.dt _ (mz s)) sl (sY b net) mode;obtain⟨c1,z⟩:=uJ (mode:=mode) y (by omega) (show 0<=f by omega) l;have g:(x.Bf==1)=An:=by rw[d.kind];rfl
  refine⟨iz (r*f) 1000 mode,xt y r1 (by omega) l,?_⟩;unfold aI;refine Cq g (Ck (vq h d) ?_);simp only[d.mod,qz s,jd,p];exact Ck F (Ck ⟨0,λn _=>c1 n⟩ .done)
 .have o:(bA b net).length=(gt b.Ah net).Bl.length:=by unfold bA;rw[jo]
  have u:q<(bA b net).length:=by rw[o];exact d.kl
  obtain⟨H,x1⟩:=xG h d.nl d.kl;obtain⟨f,A,l,p,C⟩:=zm t (kind:=x.Bf) (mode:=mode);obtain⟨v,p1⟩:=uh (a:=gt (bA b net) q) (b:=1000) (mode:=mode) (M:=344000) (by omega) H (by omega);obtain⟨c1,z⟩:=uJ (mode:=mode) v (by omega) (show 0<=f by omega) l;have g:(x.Bf==1)=Cd:=by rw[d.kind];rfl
  have hi:qG ((bA b net).map λx=>iz x 1000 mode) (q:Int)=V (iz (gt (bA b net) q) 1000 mode):=by
   rw[qz (by rw[jo];exact u),CX u]
  refine⟨iz (iz (gt (bA b net) q) 1000 mode*f) 1000 mode,xt v (by omega) (by omega) l,?_⟩;unfold aI;refine Cp g (Ck (xp h d) (Ck (rZ h d.nl) ?_));simp only[d.ix,hi,jd,p];exact Ck ⟨0,λn _=>c1 n⟩ .done
theorem KQ{a b:Int}(d:0<b)(c:0<=a):iz a b 0<=iz a b 1:=by
 rw[wP c d,wP c d];rw[if_neg (by omega)];split<;>omega
theorem KR{a c b mode:Int}(d:0<b)(g:0<=a)(h:a<=c)(m:mode=0\/mode=1):iz a b mode<=iz c b mode:=by
 rw[wP g d,wP (by omega) d];have l:a / b<=c / b:=Int.ediv_le_ediv d h;rcases m with rfl|rfl
 .rw[if_neg (by omega),if_neg (by omega)];exact l
 .by_cases i:a % b > 0
  .rw[if_pos ⟨Z,i⟩];by_cases k:c % b > 0
   .rw[if_pos ⟨Z,k⟩];omega
   .rw[if_neg (by omega)];have e1:=Int.mul_ediv_add_emod a b;have f:=Int.mul_ediv_add_emod c b;have n1:=Int.emod_nonneg c (show b≠0 by omega);have z:c % b=0:=by omega
    refine Classical.byContradiction λn=>?_;have:c / b=a / b:=by omega
    rw[this] at f;omega
  .rw[if_neg (by omega)];split<;>omega
theorem C5{c:qH}(h:ke c=An){kind:Int}:∃f g:Int,(100<=f/\f<=g/\g<=5000)/\(∀n,kv n c kind 0=V f)/\∀n,kv n c kind 1=V g:=by
 unfold ke at h;simp only[je,cu,decide_eq_true_eq] at h;obtain⟨⟨d,i,k,l⟩,_,a,b⟩:=h;unfold kv;cases kind==1
 .exact⟨c.Az,c.Bd,⟨by omega,b,by omega⟩,λ_=>rfl,λ_=>rfl⟩
 .exact⟨c.Bb,c.Be,⟨by omega,a,by omega⟩,λ_=>rfl,λ_=>rfl⟩
theorem PM{b:qf}{c:qH}(h:aL b=An)(R:ke c=An){k:Nat}(T:k<(qd b).length){sl:Int}:∃D E:Int,(0<=D/\D<=E/\E<=5000000)/\Ev (λn=>aI n b c (gt (qd b) k) sl 0) D/\Ev (λn=>aI n b c (gt (qd b) k) sl 1) E:=by
 obtain⟨d,_⟩:=nF h (mz T);generalize gt (qd b) k=x at d;obtain⟨f,g,⟨Y,O,s⟩,I,J⟩:=C5 R (kind:=x.Bf);have H:∀{p q:Int},0<=p->p<=q->q<=1000000->iz (p*f) 1000 0<=iz (q*g) 1000 1:=λ{p q} r X e=>by
  have Q:p*f<=q*g:=Jf X O (by omega) (by omega);have P:0<=p*f:=jS r (by omega);exact Jh (KR (by omega) P Q (.inl Z)) (KQ (by omega) (by omega))
 rcases d with⟨i,j,m,net,a,d⟩|⟨j,net,q,d⟩
 .have u:m<(gt (bW b (i:Int)).Av a).Bq.length:=by rw[d.d2];exact d.ml
  obtain⟨W,A⟩:=d.dt _ (mz u);obtain⟨S,D,D0,S1,_,_,_,S0,o⟩:=L3 W sl (sY b net);obtain⟨B,r1⟩:=uh (mode:=0) D0 (S0 A) S1;obtain⟨K,L⟩:=uh (mode:=1) D0 (S0 A) S1;have z:=KQ (a:=S) D0 (S0 A);obtain⟨c1,_⟩:=uJ (mode:=0) B (by omega) (show 0<=f by omega) (by omega);obtain⟨t,_⟩:=uJ (mode:=1) K (by omega) (show 0<=g by omega) s;have l:(x.Bf==1)=An:=by rw[d.kind];rfl
  refine⟨iz (iz S D 0*f) 1000 0,iz (iz S D 1*g) 1000 1,⟨(xt B r1 (by omega) (by omega)).1,H B z L,(xt K L (by omega) s).2⟩,?_,?_⟩
  .unfold aI;refine Cq l (Ck (vq h d) ?_);simp only[d.mod,qz u,jd,I];exact Ck (o 0).1 (Ck ⟨0,λn _=>c1 n⟩ .done)
  .unfold aI;refine Cq l (Ck (vq h d) ?_);simp only[d.mod,qz u,jd,J];exact Ck (o 1).1 (Ck ⟨0,λn _=>t n⟩ .done)
 .have v:(bA b net).length=(gt b.Ah net).Bl.length:=by unfold bA;rw[jo]
  have F:q<(bA b net).length:=by rw[v];exact d.kl
  obtain⟨C,x1⟩:=xG h d.nl d.kl;obtain⟨r,p1⟩:=uh (a:=gt (bA b net) q) (b:=1000) (mode:=0) (M:=344000) (by omega) C (by omega);obtain⟨N,v1⟩:=uh (a:=gt (bA b net) q) (b:=1000) (mode:=1) (M:=344000) (by omega) C (by omega);have y:=KQ (a:=gt (bA b net) q) (b:=1000) (by omega) C;obtain⟨c1,_⟩:=uJ (mode:=0) r (by omega) (show 0<=f by omega) (by omega);obtain⟨t,_⟩:=uJ (mode:=1) N (by omega) (show 0<=g by omega) s;have l:(x.Bf==1)=Cd:=by rw[d.kind];rfl
  have hi:∀mode:Int,qG ((bA b net).map λx=>iz x 1000 mode) (q:Int)=V (iz (gt (bA b net) q) 1000 mode):=λmode=>by
   rw[qz (by rw[jo];exact F),CX F]
  refine⟨iz (iz (gt (bA b net) q) 1000 0*f) 1000 0,iz (iz (gt (bA b net) q) 1000 1*g) 1000 1,⟨(xt r (by omega) (by omega) (by omega)).1,H r y (by omega),(xt N (by omega) (by omega) s).2⟩,?_,?_⟩
  .unfold aI;refine Cp l (Ck (xp h d) (Ck (rZ h d.nl) ?_));simp only[d.ix,hi,jd,I];exact Ck ⟨0,λn _=>c1 n⟩ .done
  .unfold aI;refine Cp l (Ck (xp h d) (Ck (rZ h d.nl) ?_));simp only[d.ix,hi,jd,J];exact Ck ⟨0,λn _=>t n⟩ .done
theorem ZE{b:qf}{c:qH}{f:Nat->qg->qg×qg}(h:aL b=An)(l:ke c=An)(v:xA b c f){k:Nat}(a:k<(qd b).length){s:qg}(o:QC s) :
  0<=(f k s).1.Ar/\(f k s).1.Ar<=(f k s).1.Bc/\(f k s).1.Bc<=5000000:=by
 have m:=(v k s a o).2;obtain⟨⟨e0,e1⟩,⟨l0,l1⟩⟩:=o;obtain⟨d,d2,⟨a1,a2,F⟩,p1,x⟩:=PM h l a (sl:=s.Ar);obtain⟨g,i,⟨b1,b2,b3⟩,y,z⟩:=PM h l a (sl:=s.Bc);obtain⟨_,⟨p,_,_,A,_⟩⟩:=tx h l a e0 e1 (mode:=0) (.inl Z);obtain⟨_,⟨r,_,_,B,_⟩⟩:=tx h l a e0 e1 (mode:=1) (.inr Z);obtain⟨_,⟨t,_,_,C,_⟩⟩:=tx h l a l0 l1 (mode:=0) (.inl Z);obtain⟨_,⟨u,_,_,D,_⟩⟩:=tx h l a l0 l1 (mode:=1) (.inr Z);have e:Ev (λn=>lA n b c (gt (qd b) k) s) (⟨if g<d then g else d,if i > d2 then i else d2⟩,⟨if t<p then t else p,if u > r then u else r⟩):=by
  unfold lA;exact Ck p1 (Ck x (Ck A (Ck B (Ck y (Ck z (Ck C (Ck D .done)))))))
 rw[m.uniq e];refine⟨?_,?_,?_⟩
 .show 0<=(if g<d then g else d);split<;>omega
 .show(if g<d then g else d)<=(if i > d2 then i else d2);split<;>split<;>omega
 .show(if i > d2 then i else d2)<=5000000;split<;>omega

structure qbu(x y:qg):Prop where
 e0:-5000000000<=y.Ar
 e1:y.Ar<=x.Ar
 el:x.Ar<=x.Bc
 l1:x.Bc<=y.Bc
 l0:y.Bc<=5000000000
theorem xv{s:qg}:nN s=An↔(-1000000000<=s.Ar/\s.Ar<=s.Bc/\s.Bc<=1000000000):=by
 unfold nN;simp only[je,cu,decide_eq_true_eq];omega
theorem qbu.refl{x:qg}(h:nN x=An):qbu x x:=by
 rw[xv] at h;exact⟨by omega,by omega,by omega,by omega,by omega⟩
structure qfa(s1 s2:Bool×ql):Prop where
 r:s1.1=s2.1
 sl:s1.2.Ba=s2.2.Ba
 ar:s1.1=An->qbu s1.2.Af s2.2.Af
structure Wd(t1 t2:qu)(M:Nat):Prop where
 o1:GQ t1 M
 o2:GQ t2 M
 r:∀k,k<M->gt t1.Au k=gt t2.Au k
 sl:∀k,k<M->gt t1.Ba k=gt t2.Ba k
 ar:∀k,k<M->gt t1.Au k=An->nN (gt t1.Af k)=An/\nN (gt t2.Af k)=An/\qbu (gt t1.Af k) (gt t2.Af k)
section
variable{b:qf}{c:qH}{f:Nat->qg->qg×qg}{e1 e2:Nat->Int}{lv:List Bool}{xs:List ql}{t1 t2:qu}
theorem Wd.start{M:Nat}:Wd (G8 M) (G8 M) M:=⟨QT,QT,λ_ _=>rfl,λ_ _=>rfl,λk b a=>by
 have:gt (G8 M).Au k=Cd:=OY b;rw[this] at a;cases a⟩
end

structure NU(x y:qg):Prop where
 e:y.Ar<=x.Ar
 l:x.Bc<=y.Bc
theorem NU.refl{x:qg}:NU x x:=⟨jL _,jL _⟩
theorem NU.trans{x y z:qg}(h:NU x y)(a:NU y z):NU x z:=⟨Jh a.e h.e,Jh h.l a.l⟩
theorem NU.hullL{x y:qg}:NU x (GJ x y):=by
 constructor
 .show(if y.Ar<x.Ar then y.Ar else x.Ar)<=x.Ar;split<;>omega
 .show x.Bc<=(if y.Bc > x.Bc then y.Bc else x.Bc);split<;>omega
theorem NU.hullR{x y:qg}:NU y (GJ x y):=by
 constructor
 .show(if y.Ar<x.Ar then y.Ar else x.Ar)<=y.Ar;split<;>omega
 .show y.Bc<=(if y.Bc > x.Bc then y.Bc else x.Bc);split<;>omega
section
variable{f:Nat->qg->qg×qg}{ls:List qx}{lv:List Bool}{xs:List ql}{M:Nat}
theorem Q7{t a:qu}{node:Int}{s0:Bool×ql}:∀j,(∀x,x<j->uZ ls lv node x=An->gt t.Au (ip ls x)=gt a.Au (ip ls x)/\gt t.Af (ip ls x)=gt a.Af (ip ls x)/\gt t.Ba (ip ls x)=gt a.Ba (ip ls x)) ->
  pi f ls lv t node s0 j=pi f ls lv a node s0 j:=by
 intro j
 induction j with
 |zero=>intro _;rfl
 |succ j ih=>
  intro h;unfold pi;rw[ih λx g=>h x (by omega)];cases hq:uZ ls lv node j
  .rfl
  .obtain⟨b,c,d⟩:=h j (by omega) hq;simp only[Ci];unfold oC;rw[b,c,d]
structure qbx(f:Nat->qg->qg×qg)(ls:List qx)(lv:List Bool)(xs:List ql)(t:qu)(k:Nat):Prop where
 r:gt t.Au k=(pi f ls lv t (k:Int) (bc (aE xs (k:Int))) ls.length).1
 a:gt t.Au k=An->gt t.Af k=(pi f ls lv t (k:Int) (bc (aE xs (k:Int))) ls.length).2.Af
 s:gt t.Au k=An->gt t.Ba k=(pi f ls lv t (k:Int) (bc (aE xs (k:Int))) ls.length).2.Ba
 b:gt t.Au k=An->nN (gt t.Af k)=An
theorem qdQ(h:AG ls M):∀(R l1:List Nat) (t C:qu),vb ls.length (CL ls) (FH ls) (AX lv) M (l1++R)->(t.Au.length=M/\t.Af.length=M/\t.Ba.length=M)->qbs t M l1->(∀k,k∈l1->qbx f ls lv xs t k) ->
  ZX f ls lv xs R t=V C->∀k,k∈l1++R->qbx f ls lv xs C k:=by
 intro R
 induction R with
 |nil=>
  intro l1 t C _ _ _ K e k S;obtain rfl:=Option.some.inj e;rw[Jb] at S;exact K k S
 |cons k R ih=>
  intro l1 t C H X Q K e;obtain⟨v,s,z⟩:=X;have assoc:l1++k::R=(l1++[k])++R:=by simp
  obtain⟨N,kn,k0⟩:=H l1 k R Z;have P:∀y,y∈l1++[k]->∀x,x<ls.length->uZ ls lv (y:Int) x=An->ip ls x∈l1:=by
   intro y b x L B;unfold uZ at B;rw[je,beq_iff_eq] at B;have fin:∀l a,vb ls.length (CL ls) (FH ls) (AX lv) M (l++y::a)->ip ls x∈l:=λl a F=>by
    have:=xO.1 (F l y a Z).2.2 x L B.1 B.2;rw[show CL ls x=(ip ls x:Int) from(uk h L).1,rk] at this;exact this
   rcases List.mem_append.1 b with b|b
   .obtain⟨a,c,rfl⟩:=List.append_of_mem b;have:ip ls x∈a:=fin a (c++k::R) (by simpa using H);exact jM _ this
   .obtain rfl:=List.mem_singleton.1 b;exact fin l1 R H
  have I:∀y,y∈l1->y≠k:=λy b e=>kn (e ▸ b);rw[assoc];unfold ZX at e;have m:∀{u:qu},(∀y,y≠k->gt u.Au y=gt t.Au y/\gt u.Af y=gt t.Af y/\gt u.Ba y=gt t.Ba y)->qbs u M (l1++[k]):=λhu y b T=>by
   obtain⟨u1,u2,u3⟩:=hu y (λe=>T (jX _ (List.mem_singleton.2 e)));rw[u1,u2,u3];exact Q y b λY=>T (jM _ Y)
  cases h1:(pi f ls lv t (k:Int) (bc (aE xs (k:Int))) ls.length).1
  .rw[h1] at e;refine ih (l1++[k]) t C (by rw[<-assoc];exact H) ⟨v,s,z⟩ (m λy _=>⟨Z,Z,Z⟩) (λy b=>?_) e;rcases List.mem_append.1 b with b|b
   .exact K y b
   .obtain rfl:=List.mem_singleton.1 b;have W:=(Q y N kn).1;have O:gt t.Au y≠An:=by rw[W];decide
    exact⟨by rw[W,h1],λe=>absurd e O,λe=>absurd e O,λe=>absurd e O⟩
  .rw[h1] at e;cases F:nN (pi f ls lv t (k:Int) (bc (aE xs (k:Int))) ls.length).2.Af
   .rw[F] at e;cases e
   .rw[F] at e;have g:∀y,gt (HG t k (pi f ls lv t (k:Int) (bc (aE xs (k:Int))) ls.length)).Au y=(if y=k then An else gt t.Au y)/\gt (HG t k (pi f ls lv t (k:Int) (bc (aE xs (k:Int))) ls.length)).Af y=(if y=k then(pi f ls lv t (k:Int) (bc (aE xs (k:Int))) ls.length).2.Af else gt t.Af y) /\
      gt (HG t k (pi f ls lv t (k:Int) (bc (aE xs (k:Int))) ls.length)).Ba y=(if y=k then(pi f ls lv t (k:Int) (bc (aE xs (k:Int))) ls.length).2.Ba else gt t.Ba y):=λy=>by
     refine⟨?_,?_,?_⟩
     .show gt (am _ _ _) y=_;rw[mh (by rw[v];exact N),h1]
     .show gt (am _ _ _) y=_;rw[mh (by rw[s];exact N)]
     .show gt (am _ _ _) y=_;rw[mh (by rw[z];exact N)]
    have i:∀y,y≠k->gt (HG t k (pi f ls lv t (k:Int) (bc (aE xs (k:Int))) ls.length)).Au y=gt t.Au y/\gt (HG t k (pi f ls lv t (k:Int) (bc (aE xs (k:Int))) ls.length)).Af y=gt t.Af y/\gt (HG t k (pi f ls lv t (k:Int) (bc (aE xs (k:Int))) ls.length)).Ba y=gt t.Ba y:=λy b=>by
     obtain⟨o,D,J⟩:=g y;rw[if_neg b] at o D J;exact⟨o,D,J⟩
    have len:(HG t k (pi f ls lv t (k:Int) (bc (aE xs (k:Int))) ls.length)).Au.length=M/\(HG t k (pi f ls lv t (k:Int) (bc (aE xs (k:Int))) ls.length)).Af.length=M/\(HG t k (pi f ls lv t (k:Int) (bc (aE xs (k:Int))) ls.length)).Ba.length=M:=
     ⟨by show(am _ _ _).length=_;rw[cg];exact v,by show(am _ _ _).length=_;rw[cg];exact s,by show(am _ _ _).length=_;rw[cg];exact z⟩
    obtain⟨p,d,r⟩:=g k;rw[if_pos Z] at p d r;have n:∀y,y∈l1++[k]->pi f ls lv (HG t k (pi f ls lv t (k:Int) (bc (aE xs (k:Int))) ls.length)) (y:Int) (bc (aE xs (y:Int))) ls.length=pi f ls lv t (y:Int) (bc (aE xs (y:Int))) ls.length:=λy b=>
     Q7 _ λx L B=>i _ (I _ (P y b x L B))
    generalize HG t k (pi f ls lv t (k:Int) (bc (aE xs (k:Int))) ls.length)=u at e i p d r len n;refine ih (l1++[k]) u C (by rw[<-assoc];exact H) len (m i) (λy b=>?_) e;have A:=n y b;rcases List.mem_append.1 b with b|b
    .obtain⟨o,D,J⟩:=i y (I y b);have b:=K y b;exact⟨by rw[A,o];exact b.r,λe=>by rw[A,D];exact b.a (by rw[<-o];exact e),λe=>by rw[A,J];exact b.s (by rw[<-o];exact e),λe=>by rw[D];exact b.b (by rw[<-o];exact e)⟩
    .obtain rfl:=List.mem_singleton.1 b;exact⟨by rw[A,p,h1],λ_=>by rw[A,d],λ_=>by rw[A,r],λ_=>by rw[d];exact F⟩
theorem L4{t:qu}{node:Int}{s0:Bool×ql}(d:s0.1=An):∀j,(pi f ls lv t node s0 j).1=An/\NU s0.2.Af (pi f ls lv t node s0 j).2.Af/\NU s0.2.Ba (pi f ls lv t node s0 j).2.Ba:=by
 intro j
 induction j with
 |zero=>exact⟨d,.refl,.refl⟩
 |succ j ih=>
  obtain⟨a,b,c⟩:=ih;unfold pi;cases uZ ls lv node j
  .exact⟨a,b,c⟩
  .simp only[Ci];unfold oC;cases gt t.Au (ip ls j)
   .exact⟨a,b,c⟩
   .simp only[Ci];unfold BO;rw[a];exact⟨Z,b.trans .hullL,c.trans .hullL⟩
theorem YF{t:qu}{node:Int}{s0:Bool×ql}{x:Nat}(d:uZ ls lv node x=An)(g:gt t.Au (ip ls x)=An):∀j,x<j->(pi f ls lv t node s0 j).1=An /\
  NU (uF (gt t.Af (ip ls x)) (f x (gt t.Ba (ip ls x))).1) (pi f ls lv t node s0 j).2.Af/\NU (f x (gt t.Ba (ip ls x))).2 (pi f ls lv t node s0 j).2.Ba:=by
 intro j
 induction j with
 |zero=>intro h;omega
 |succ j ih=>
  intro h;unfold pi;by_cases e:x=j
  .subst e;rw[d];simp only[Ci];unfold oC;rw[g];simp only[Ci];unfold BO;cases (pi f ls lv t node s0 x).1
   .exact⟨Z,.refl,.refl⟩
   .exact⟨Z,.hullR,.hullR⟩
  .obtain⟨a,b,c⟩:=ih (by omega);cases uZ ls lv node j
   .exact⟨a,b,c⟩
   .simp only[Ci];unfold oC;cases gt t.Au (ip ls j)
    .exact⟨a,b,c⟩
    .simp only[Ci];unfold BO;rw[a];exact⟨Z,b.trans .hullL,c.trans .hullL⟩
end
structure MU(j:aZ)(t:qu)(f:Nat->qg->qg×qg):Prop where
 ss:xA j.Ac j.Aj f
 si:GP j.Ac j.Aj [] f
 eq:∀k,k<vH j.Ac->qbx f (qd j.Ac) (rj j.Ac j.Ay) j.Am t k
 pt:Ev (λn=>cq n j.Ac j.Aj j.Ay j.Am) (t,0)
theorem qey{j:aZ}{t:qu}(h:nH j)(B:Ev (λn=>bT n j) (NT j t,0)):∃f,MU j t f:=by
 have g:=h.Ay.len;have s:=h.Am.len;have C:∀{d:qu} {code:Int},Ev (λn=>cq n j.Ac j.Aj j.Ay j.Am) (d,code)->code=0/\d=t:=by
  intro d code l;unfold bT at B;by_cases c:code=0
  .subst c;refine⟨Z,?_⟩;cases hbk:aL j.Ac
   .exfalso;unfold cq sw at l;have F:=rE h.Ac;rw[hbk] at F;have:=l.uniq (Ck (b:=([],1)) (Ck (b:=An) (Ck F (Cq Z .done)) (Cq Z .done)) (Cq Z .done));cases this
   .have u:=rh (ls:=qd j.Ac) (br:=j.Ay) (lY hbk) g;have:=B.uniq (Ck l (Cp Z (Ck (hU hbk) (Ck u .done))));unfold NT at this;injection this with a _;injection a with a;injection a with _ _ _ a;exact a.symm
  .have:=B.uniq (Ck l (Cq (oF c) .done));unfold NT at this;cases this
 have D:∃o,((∃f d ,o=(d,(0:Int))/\xA j.Ac j.Aj f/\GP j.Ac j.Aj [] f/\∀k,k<vH j.Ac->qbx f (qd j.Ac) (rj j.Ac j.Ay) j.Am d k)\/o.2≠0)/\Ev (λn=>cq n j.Ac j.Aj j.Ay j.Am) o:=by
  unfold cq;rcases qc2 h.Ac h.Aj.Bi g s with⟨code,c,hc,_⟩|⟨R,hg,hc,_⟩
  .exact⟨(zT,code),.inr c,Ck hc (Cq (oF c) .done)⟩
  .have a:=hg.bl;have A:=lY a;have z:=kA a;have u:=rh (ls:=qd j.Ac) (br:=j.Ay) A g;obtain⟨f,H,y⟩:=ZF a hg.co;have p:=y [] (.inl Z);rw[TQ] at p;have K:=bj (ab (aO a));have m:=hg.len;have v:R.length<=1000:=by rw[m];show 2*(places j.Ac.Aa).length<=1000;omega
   have x:∀k,k∈R->k<2*(places j.Ac.Aa).length:=λk r=>by
    obtain⟨i,hi,rfl⟩:=List.mem_iff_getElem.1 r;exact(hg.ord.at hi).1
   have o2:=M6 (lv:=rj j.Ac j.Ay) (R:=R) a H vG (yM s hg.sr) x v;have o1:=qdQ (f:=f) (lv:=rj j.Ac j.Ay) (xs:=j.Am) z R [] (G8 (2*(places j.Ac.Aa).length));generalize ZX f (qd j.Ac) (rj j.Ac j.Ay) j.Am R (G8 (2*(places j.Ac.Aa).length))=o at o1 o2;cases o with
   |none=>exact⟨(zT,3),.inr (by decide),Ck hc (Cp Z (Ck (hU a) (Ck u (Ck o2 (Cq Z .done)))))⟩
   |some d=>
    refine⟨(d,0),.inl ⟨f,d,Z,H,p,λk r=>?_⟩,Ck hc (Cp Z (Ck (hU a) (Ck u (Ck o2 (Cp Z .done)))))⟩;obtain⟨i,hi,e⟩:=hg.ord.full m r;exact o1 d hg.ord ⟨jJ,jJ,jJ⟩ ZV (λk r=>by cases r) rfl k (by rw[<-e];exact jm hi)
 obtain⟨o,J,l⟩:=D;obtain⟨o1,o2⟩:=o;obtain⟨I,ct⟩:=C l;subst I;subst ct;rcases J with⟨f,d,e,a,h2,h3⟩|c
 .injection e with e _;subst e;exact⟨f,a,h2,h3,l⟩
 .exact absurd Z c
structure qe4(t:qu)(a:qg)(k:Nat):Prop where
 r:gt t.Au k=An
 i:NU a (gt t.Af k)
 o:a.Ar<=a.Bc
section
variable{j:aZ}{t:qu}{R:List Nat}{f:Nat->qg->qg×qg}{start:Int}{path:List Int}
theorem ZG{xs:List ql}{M:Nat}(h:MB xs M=An){x:ql}(a:x∈xs):nN x.Af=An:=by
 unfold MB at h;rw[aA] at h;obtain⟨i,hi,rfl⟩:=List.mem_iff_getElem.1 a;have:=h i hi;rw[<-fd hi];simp only[je] at this;exact this.2.2.1
theorem PT(n:pW j t R)(f:ma j start path=An){i:Nat}(hi:i<path.length):∃k a c:Nat,k<yg j.Ac/\bm path i=(k:Int)/\gt (rj j.Ac j.Ay) k=An/\ip (qd j.Ac) k=a/\(gt (qd j.Ac) k).To=(c:Int)/\a<vH j.Ac/\c<vH j.Ac/\UD (qd j.Ac) start path i=(a:Int)/\UD (qd j.Ac) start path (i+1)=(c:Int):=by
 have d:=kA n.tg.bl;unfold ma at f;rw[je,aA] at f;have:=f.2 i hi;unfold okP at this;simp only[je,beq_iff_eq] at this;obtain⟨l,m,h⟩:=this;obtain⟨o,r1,b⟩:=vF l;have p:=d.fr0 _ b;have r:=d.fr1 _ b;have g:=d.to0 _ b;have s:=d.to1 _ b;refine⟨(bm path i).toNat,ip (qd j.Ac) (bm path i).toNat,(gt (qd j.Ac) (bm path i).toNat).To.toNat,b,fB o,m,Z,fB g,?_,?_,?_,fB g⟩
 .exact(uk d b).2
 .show _<2*(places j.Ac.Aa).length;omega
 .rw[<-h];exact(uk d b).1
theorem QJ(r:pW j t R)(n:MU j t f)(c:ma j start path=An):∃k:Nat,k<vH j.Ac/\start=(k:Int)/\∃y:ql,aE j.Am start=V y/\y∈j.Am/\y.Bo=start/\gt t.Au k=An/\NU y.Af (gt t.Af k)/\NU y.Ba (gt t.Ba k):=by
 unfold ma at c;rw[je] at c;cases ho:aE j.Am start with
 |none=>rw[ho] at c;exact absurd c.1 (by decide)
 |some y=>
  obtain⟨h,g⟩:=xw ho;have o:gu y.Bo 0 ((vH j.Ac:Int)-1)=An:=by
   have b:=r.tg.sr;unfold MB at b;rw[aA] at b;obtain⟨i,hi,e⟩:=List.mem_iff_getElem.1 g;have:=b i hi;rw[fd hi,e,je] at this;exact this.1
  obtain⟨s,r1,l⟩:=vF o;have e:start=(y.Bo.toNat:Int):=by rw[<-h];exact fB s
  have d:=n.eq _ l;have p:=L4 (f:=f) (ls:=qd j.Ac) (lv:=rj j.Ac j.Ay) (t:=t) (node:=(y.Bo.toNat:Int)) (s0:=bc (aE j.Am (y.Bo.toNat:Int))) (by rw[<-e,ho];rfl) (qd j.Ac).length;obtain⟨s1,s2,m⟩:=p;have a:gt t.Au y.Bo.toNat=An:=d.r.trans s1;rw[<-d.a a,<-e,ho] at s2;rw[<-d.s a,<-e,ho] at m;exact⟨_,l,e,y,Z,g,h,a,s2,m⟩
theorem K9(s:pW j t R)(m:MU j t f){k a c:Nat}(o:k<yg j.Ac)(r:gt (rj j.Ac j.Ay) k=An)(d:ip (qd j.Ac) k=a)(n:(gt (qd j.Ac) k).To=(c:Int))(g:c<vH j.Ac)(p:gt t.Au a=An) :
  gt t.Au c=An/\NU (uF (gt t.Af a) (f k (gt t.Ba a)).1) (gt t.Af c)/\NU (f k (gt t.Ba a)).2 (gt t.Ba c):=by
 have h:=m.eq c g;have l:uZ (qd j.Ac) (rj j.Ac j.Ay) (c:Int) k=An:=by
  unfold uZ AX FH;rw[r,n];simp
 obtain⟨s1,s2,i⟩:=YF (f:=f) (s0:=bc (aE j.Am (c:Int))) l (by rw[d];exact p) (qd j.Ac).length o;have b:gt t.Au c=An:=h.r.trans s1;rw[<-h.a b,d] at s2;rw[<-h.s b,d] at i;exact⟨b,s2,i⟩
theorem X9(g:pW j t R)(m:MU j t f)(s:ma j start path=An):∀i,i<=path.length->∃k:Nat,k<vH j.Ac/\UD (qd j.Ac) start path i=(k:Int)/\qe4 t (GH f (qd j.Ac) t (bc (aE j.Am start)).2.Af path i) k:=by
 intro i
 induction i with
 |zero=>
  intro _;obtain⟨k,n,e,y,v,H,_,I,b,_⟩:=QJ g m s;refine⟨k,n,e,I,?_,?_⟩
  .rw[v];exact b
  .rw[v];have:=ZG g.tg.sr H;rw[xv] at this;exact this.2.1
 |succ i ih=>
  intro hi;obtain⟨k,n,e,b⟩:=ih (by omega);obtain⟨l,a,c,u,el,J,d,r,F,h,M,z⟩:=PT g s (show i<path.length by omega);have o:k=a:=by omega
  subst o;obtain⟨c1,x,_⟩:=K9 g m u J d r h b.r;have p:=g.tm.sl k n;obtain⟨K,L,d2⟩:=ZE g.tg.bl g.tg.co m.ss u p;have D:=(m.eq k n).b b.r;rw[xv] at D;refine⟨c,h,z,c1,?_,?_⟩
  .refine NU.trans ?_ x;show NU (uF (GH f (qd j.Ac) t (bc (aE j.Am start)).2.Af path i) (f (bm path i).toNat (gt t.Ba (ip (qd j.Ac) (bm path i).toNat))).1) _;rw[el,jq,d];have A:=b.i.e;have B:=b.i.l;have C:=b.o;constructor
   .show qj ((gt t.Af k).Ar+(f l (gt t.Ba k)).1.Ar)<=qj ((GH f (qd j.Ac) t (bc (aE j.Am start)).2.Af path i).Ar+(f l (gt t.Ba k)).1.Ar);rw[qX (by omega) (by omega),qX (by omega) (by omega)];omega
   .show qj ((GH f (qd j.Ac) t (bc (aE j.Am start)).2.Af path i).Bc+(f l (gt t.Ba k)).1.Bc)<=qj ((gt t.Af k).Bc+(f l (gt t.Ba k)).1.Bc);rw[qX (by omega) (by omega),qX (by omega) (by omega)];omega
  .show(uF (GH f (qd j.Ac) t (bc (aE j.Am start)).2.Af path i) (f (bm path i).toNat (gt t.Ba (ip (qd j.Ac) (bm path i).toNat))).1).Ar<=(uF (GH f (qd j.Ac) t (bc (aE j.Am start)).2.Af path i) (f (bm path i).toNat (gt t.Ba (ip (qd j.Ac) (bm path i).toNat))).1).Bc;rw[el,jq,d];have A:=b.i.e;have B:=b.i.l;have C:=b.o;show qj (_+_)<=qj (_+_);rw[qX (by omega) (by omega),qX (by omega) (by omega)];omega
end
section
variable{j:aZ}{t:qu}{R:List Nat}{start mode:Int}{path:List Int}
theorem N2{a:qu}{c:Int}(h:(NT j t,(0:Int))=(NT j a,c)):t=a:=by
 unfold NT at h;injection h with h _;injection h with h;injection h with _ _ _ h
theorem qa8{c:qu}{R':List Nat}(b:pW j t R)(a:pW j c R'):R=R':=by
 have e:V R=V R':=by rw[<-b.tg.or_,<-a.tg.or_]
 injection e
theorem MO(h:nH j)(f:pW j t R)(a:Ev (λn=>bT n j) (NT j t,0))(d:path.length<=1048576)(b:ma j start path=An)(c:mu mode=An):Ev (λn=>gw n j mode start path) (ya j t R,0):=by
 rcases YO (start:=start) h d mode with⟨code,hne,hs',_⟩|⟨t',R',hw',hs',hi'⟩
 .have:=a.uniq hs';unfold NT at this;cases this
 .rw[c,b] at hi';rw[N2 (a.uniq hs'),qa8 f hw'];exact hi'
end
section
variable{j:aZ}{t:qu}{start:Int}{path:List Int}{m:Nat}
end

section
variable{j:aZ}{t:qu}{R:List Nat}{c:List Int}{f:Nat->qg->qg×qg}
theorem SB{g:Nat->Int}:∀l:List Nat,(∀x,x∈l->g x=0)->l.foldl (λv k=>ZW (qj (v+g k))) 0=0
 | [],_=>rfl
 |x::l,h=>by
  rw[List.foldl_cons,h x (ju ..)];exact SB l λy a=>h y (jr _ a)
theorem MD(k:pW j t R)(l:MU j t f)(n:WH j c):∀m i,∀hi:i<R.length,i<m->gt t.Au R[i]=Cd->gt c R[i]=0
 |0,_,_,h,_=>absurd h (Jm _)
 |m+1,i,hi,hm,hr=>by
  have o:R[i]<vH j.Ac:=(k.tg.ord.at hi).1;have e:=n R[i] o;have a:=(l.eq R[i] o).r;rw[hr] at a;have s:(bc (aE j.Am (R[i]:Int))).1=Cd:=by
   cases hs:(bc (aE j.Am (R[i]:Int))).1 with
   |false=>rfl
   |true=>
    have:=(L4 (f:=f) (ls:=qd j.Ac) (lv:=rj j.Ac j.Ay) (t:=t) (node:=(R[i]:Int)) hs (qd j.Ac).length).1;rw[this] at a;cases a
  have b:∀x,x∈nr j R[i]->gt c (ip (qd j.Ac) x)=0:=λx b=>by
   obtain⟨x1,v,d,u,r⟩:=rQ k hi b;have p:gt t.Au (ip (qd j.Ac) x)=Cd:=by
    cases hs:gt t.Au (ip (qd j.Ac) x) with
    |false=>rfl
    |true=>
     have:=(YF (f:=f) (ls:=qd j.Ac) (lv:=rj j.Ac j.Ay) (t:=t) (node:=(R[i]:Int)) (s0:=bc (aE j.Am (R[i]:Int))) (oh.1 b).2 hs (qd j.Ac).length x1).1;rw[this] at a;cases a
   rw[<-r] at p⊢;exact MD k l n m v d (by omega) p
  rw[e];unfold WD F9;rw[s];exact SB (g:=λx=>gt c (ip (qd j.Ac) x)) _ b
theorem W7(m:pW j t R)(s:MU j t f)(n:WH j c):∀d i,∀hi:i<R.length,i<d->gt c R[i]<=300->((aP j t d R[i]).length:Int)=gt c R[i]
 |0,_,_,h,_=>absurd h (Jm _)
 |d+1,i,hi,h,h3=>by
  obtain⟨e,o⟩:=(XE m n (i+1) i hi (by omega)).2.2 h3;have:=I7 (g:=λx=>gt c (ip (qd j.Ac) x)) (f:=NH t (aP j t d) (qd j.Ac)) (nr j R[i]) λx u=>by
   obtain⟨_,p,l,v,r⟩:=rQ m hi u;have a:=W7 m s n d p l (by omega) (by rw[r];exact o x u);have b:=MD m s n (p+1) p l (by omega);rw[r] at a b;unfold NH;cases hr:gt t.Au (ip (qd j.Ac) x)
   .have:=b hr;simpa using this.symm
   .simpa using a
  simp only[aP,jg];have:=VR (j:=j) (k:=R[i]);omega
def zP:qw:=⟨0,[],0⟩
def HC(d:Nat->Int->Int×Int)(j:aZ)(mode:Int)(p:qw):Int:=(yA d (nI j p.Bn mode) p.Bk p.Bk.length).1
end

section
variable{f:Nat->qg->qg×qg}{ls:List qx}{lv:List Bool}{t:qu}{m:Int}
theorem qaG{a b:qg}:CM m (GJ a b)=CM m a\/CM m (GJ a b)=CM m b:=by
 unfold CM GJ;cases m==1
 .show(if b.Ar<a.Ar then b.Ar else a.Ar)=a.Ar\/(if b.Ar<a.Ar then b.Ar else a.Ar)=b.Ar;split
  .exact .inr Z
  .exact .inl Z
 .show(if b.Bc > a.Bc then b.Bc else a.Bc)=a.Bc\/(if b.Bc > a.Bc then b.Bc else a.Bc)=b.Bc;split
  .exact .inr Z
  .exact .inl Z
theorem qaD{node:Int}{s0:Bool×ql}:∀j,(pi f ls lv t node s0 j).1=An->(s0.1=An/\CM m (pi f ls lv t node s0 j).2.Af=CM m s0.2.Af) \/
  ∃x,x<j/\uZ ls lv node x=An/\gt t.Au (ip ls x)=An/\CM m (pi f ls lv t node s0 j).2.Af=CM m (uF (gt t.Af (ip ls x)) (f x (gt t.Ba (ip ls x))).1):=by
 intro j
 induction j with
 |zero=>intro h;exact .inl ⟨h,Z⟩
 |succ j ih=>
  have old:(pi f ls lv t node s0 j).1=An->∀v,v=CM m (pi f ls lv t node s0 j).2.Af->(s0.1=An/\v=CM m s0.2.Af)\/∃x,x<j+1/\uZ ls lv node x=An/\gt t.Au (ip ls x)=An/\v=CM m (uF (gt t.Af (ip ls x)) (f x (gt t.Ba (ip ls x))).1):=λh v e=>by
   rcases ih h with h|⟨x,h1,h2,h3,h4⟩
   .exact .inl ⟨h.1,e.trans h.2⟩
   .exact .inr ⟨x,by omega,h2,h3,e.trans h4⟩
  unfold pi;cases hq:uZ ls lv node j
  .intro h;exact old h _ Z
  .simp only[Ci];unfold oC;cases hr:gt t.Au (ip ls j)
   .intro h;exact old h _ Z
   .simp only[Ci];unfold BO;cases h1:(pi f ls lv t node s0 j).1
    .intro _;exact .inr ⟨j,by omega,hq,hr,Z⟩
    .intro _;rcases qaG (m:=m) (a:=(pi f ls lv t node s0 j).2.Af) (b:=uF (gt t.Af (ip ls j)) (f j (gt t.Ba (ip ls j))).1) with e|e
     .exact old h1 _ e
     .exact .inr ⟨j,by omega,hq,hr,e⟩
end
section
variable{j:aZ}{t:qu}{R:List Nat}{c:List Int}{f:Nat->qg->qg×qg}{m:Int}
theorem qbB{ls:List qx}{a0:qg}{xs ys:List Int}:∀i,i<=xs.length->GH f ls t a0 (xs++ys) i=GH f ls t a0 xs i:=by
 intro i
 induction i with
 |zero=>intro _;rfl
 |succ i ih=>
  intro hi;unfold GH;rw[ih (by omega),UC (by omega)]
theorem X8{p:qw}{x:Nat}:KI f j t m (ZC x p)=CM m (uF (GH f (qd j.Ac) t (bc (aE j.Am p.Bn)).2.Af p.Bk p.Bk.length) (f x (gt t.Ba (ip (qd j.Ac) x))).1):=by
 unfold KI ZC;show CM m (GH f (qd j.Ac) t (bc (aE j.Am p.Bn)).2.Af (p.Bk++[(x:Int)]) (p.Bk++[(x:Int)]).length)=_;rw[jg,jh];show CM m (uF (GH f (qd j.Ac) t (bc (aE j.Am p.Bn)).2.Af (p.Bk++[(x:Int)]) p.Bk.length) (f (bm (p.Bk++[(x:Int)]) p.Bk.length).toNat (gt t.Ba (ip (qd j.Ac) (bm (p.Bk++[(x:Int)]) p.Bk.length).toNat))).1)=_;rw[qbB p.Bk.length (jf _),OL,jq]
theorem WS(o:pW j t R)(s:MU j t f)(m:Int):∀d i,∀hi:i<R.length,i<d->gt t.Au R[i]=An->∃p,p∈aP j t d R[i]/\KI f j t m p=CM m (gt t.Af R[i]):=by
 intro d
 induction d with
 |zero=>intro i hi h;omega
 |succ d ih=>
  intro i hi u n;have v:R[i]<vH j.Ac:=(o.tg.ord.at hi).1;have k:=s.eq _ v;have g:=k.a n;rcases qaD (m:=m) _ (k.r.symm.trans n) with⟨e1,e2⟩|⟨x,h2,h3,h4,h5⟩
  .refine⟨⟨(R[i]:Int),[],0⟩,?_,?_⟩
   .show _∈GE j R[i]++_;refine List.mem_append.2 (.inl ?_);unfold GE;rw[e1];exact List.mem_singleton.2 Z
   .rw[g,e2]
    rfl
  .have r:x∈nr j R[i]:=oh.2 ⟨h2,h3⟩;obtain⟨z,A,b,y,c⟩:=rQ o hi r;obtain⟨p,l,a⟩:=ih A b (by omega) (by rw[c];exact h4);rw[c] at l a;refine⟨ZC x p,?_,?_⟩
   .show _∈GE j R[i]++_;refine List.mem_append.2 (.inr (List.mem_flatMap.2 ⟨x,r,?_⟩));unfold NH;rw[h4];exact List.mem_map.2 ⟨p,l,Z⟩
   .rw[X8,g,h5,<-YJ,<-YJ];unfold KI at a;rw[a]
theorem X7(a:pW j t R)(c:MU j t f){d k:Nat}{p:qw}(i:p∈aP j t d k):NU (GH f (qd j.Ac) t (bc (aE j.Am p.Bn)).2.Af p.Bk p.Bk.length) (gt t.Af k)/\gt t.Au k=An:=by
 obtain⟨g,h,_⟩:=NV a d k p i;obtain⟨b,m,l,k3⟩:=X9 a c g p.Bk.length (jf _);have e:(k:Int)=(b:Int):=h.symm.trans l;have e:k=b:=by omega
 subst e;exact⟨k3.i,k3.r⟩
theorem GN(b:pW j t R)(d:MU j t f)(g:WH j c){k:Nat}(n:k<vH j.Ac)(m:gt c k<=300):gt t.Au k=decide (gt c k > 0)/\((aP j t R.length k).length:Int)=gt c k:=by
 obtain⟨i,hi,a⟩:=b.tg.ord.full b.tg.len n;have h:=W7 b d g R.length i hi hi (by rw[a];exact m);rw[a] at h;refine⟨?_,h⟩;cases hr:gt t.Au k
 .have:=MD b d g R.length i hi hi (by rw[a];exact hr);rw[a] at this;rw[this]
  rfl
 .obtain⟨p,l,_⟩:=WS b d 0 R.length i hi hi (by rw[a];exact hr);rw[a] at l;have:=List.length_pos_of_mem l;exact(decide_eq_true (by omega)).symm
end

section
variable{j:aZ}{t:qu}{R:List Nat}{c:List Int}
structure FJ(j:aZ)(node:Int)(t:qu)(R:List Nat)(f:Nat->qg->qg×qg)(c:List Int):Prop where
 w:pW j t R
 T:MU j t f
 ct:WH j c
 nd:0<=node/\node.toNat<vH j.Ac
 few:gt c node.toNat<=300
 op:Ev (λn=>bT n j) (NT j t,0)
 pc:Ev (λn=>gN n (ya j t R) node) (gt c node.toNat)
theorem FJ.arr{node:Int}{f:Nat->qg->qg×qg}(N:FJ j node t R f c):node=(node.toNat:Int):=fB N.nd.1
theorem G6{node mode:Int}{f:Nat->qg->qg×qg}(h:nH j)(N:FJ j node t R f c)(i:mu mode=An):Ev (λn=>cL n j mode [node]) (ya j t R,0):=by
 rcases OC h with⟨code,hne,hs,_⟩|⟨t',R',hw',hs',hi'⟩
 .have:=hs.uniq N.op;unfold NT at this;cases this
 .have e:=N2 (hs'.uniq N.op);subst e;have g:=qa8 N.w hw';subst g;have a:=hi' mode [node] (by simp) (uE i);have b:([node].all λx=>gu x 0 ((vH j.Ac:Int)-1))=gu node 0 ((vH j.Ac:Int)-1):=by simp
  have d:gu node 0 ((vH j.Ac:Int)-1)=An:=cu.2 (by have:=N.nd;omega);rw[b,d] at a;exact a
theorem O2(h:nH j){node mode count:Int}{f:Nat->qg->qg×qg}(N:FJ j node t R f c)(x:mu mode=An)(y:gu count 0 20=An) :
  Ev (λn=>yo n j node mode count) ((ua mode ((aP j t R.length node.toNat).map (lf (KI f j t mode)))).take count.toNat,0):=by
 have z:=N.w;have I:=N.T;have hi:=G6 h N x;have m:=I.si;have C:=N.pc;have F:¬ gt c node.toNat > 300:=by have:=N.few;omega
 obtain⟨P,Q⟩:=cu.1 y;obtain⟨L,H,r,D,A⟩:=PR h z N.ct N.nd.2 N.few;rw[<-N.arr] at A;rw[<-D];have J:=N.few;have K:L.length<=300:=by omega
 have a:=fq (Lf:=λn s i=>oa mode (ya j t R) L n s i) (S:=N0 (lf (KI f j t mode)) L) (len:=L.length) (fin:=(L.map (lf (KI f j t mode)),(L.length:Int)))
  (λn=>by simp only[oa,qr (jf _),Cj,ZI])
  (λi hi X u=>by
   have d:gt L i∈L:=by rw[fd hi];exact jm hi
   obtain⟨a1,a2,_⟩:=r _ d;simp only[oa];refine Cq (qp hi) (Cy (OG hi) (Ck (qbO h z m (by omega) a2) (Ck (.now (qaH (n:=0) x)) (Cy (OG hi) ?_))));rw[wS i];have e:=N1 (g:=lf (KI f j t mode)) hi;unfold lf KI at e⊢;unfold lf KI at u;rw[e];exact u)
 rw[ZJ] at a;have B:=ZD (mode:=mode) (xs:=L.map (lf (KI f j t mode))) (by rw[jo];omega) λp O=>by
  obtain⟨q,o,rfl⟩:=List.mem_map.1 O;have:=(r q o).1;show q.Bk.length<=1000000;omega
 have l:(ua mode (L.map (lf (KI f j t mode)))).length<=300:=by rw[PK,jo];exact K
 generalize ua mode (L.map (lf (KI f j t mode)))=M at B l⊢;obtain⟨k,rfl⟩:∃k:Nat,count=(k:Int):=⟨count.toNat,by omega⟩;unfold yo;refine Ck hi (Cp Z ?_);simp only[gV,y,jd];refine Cp Z (Ck C (Cp (decide_eq_false F) (Ck A (Ck a (Ck B (Cy (b:=(M.length:Int)) Z ?_))))));by_cases v:(M.length:Int)<(k:Int)
 .rw[if_pos v,MC (jf _),jH,List.take_of_length_le (by omega)];exact .done
 .rw[if_neg v,MC (by omega)];exact .done
end

section
variable{j:aZ}{t:qu}{R:List Nat}{c:List Int}{f:Nat->qg->qg×qg}
theorem V2{node mode:Int}(h:nH j) :
    (∃code:Int,code≠0/\Ev (λn=>lB n j node mode) (U,zP,code)/\Ev (λn=>cL n j mode [node]) (U,code)) \/
    ∃t R,pW j t R/\mu mode=An/\gu node 0 ((vH j.Ac:Int)-1)=An/\Ev (λn=>cL n j mode [node]) (ya j t R,0) /\
      ((∃code:Int,code≠0/\Ev (λn=>lB n j node mode) (U,zP,code)/\Ev (λn=>ck n (ya j t R) node mode) (zP,code)) \/
       ∃f c d,FJ j node t R f c/\0<gt c node.toNat/\GG j.Ac j.Aj mode d/\0<(ua mode ((aP j t R.length node.toNat).map (lf (HC d j mode)))).length /\
         Ev (λn=>ck n (ya j t R) node mode) (gt (ua mode ((aP j t R.length node.toNat).map (lf (HC d j mode)))) 0,0)):=by
  rcases YH (node:=node) h mode with⟨code,hne,hs,hi⟩|⟨t,R,hw,hr,ho,hs,hi⟩
  · exact .inl ⟨code,hne,by unfold lB;exact Ck hs (Cq (oF hne) .done),hi⟩
  obtain⟨r0,r1,K⟩:=vF hr;obtain⟨f,Y⟩:=qey h ho;obtain⟨c,cl,M,N⟩:=B9 h hw;obtain⟨cs,m⟩:=N node.toNat K;have B:=PR h hw M K;have y:gt c node.toNat<=300->((aP j t R.length node.toNat).length:Int)=gt c node.toNat:=by
    obtain⟨i,hi,ei⟩:=hw.tg.ord.full hw.tg.len K;have:=W7 hw Y M R.length i hi hi;rw[ei] at this;exact this
  rw[<-fB r0] at cs m B;have C:=λ(k:mu mode=An) d (J:GG j.Ac j.Aj mode d) (p:qw) (hb:ma j p.Bn p.Bk=An) (hl:p.Bk.length<=156)=>
    R6 h hw k J (start:=p.Bn) (path:=p.Bk) (by omega) λi hi=>DV hb hi
  obtain⟨I,H,F⟩:=t;have l:Ev (λn=>lT n j node) (V (⟨j,qd j.Ac,rj j.Ac j.Ay,⟨I,H,F⟩⟩:qT),(0:Int)):=hs;cases k:mu mode
  · rw[k] at hi
    refine .inl ⟨2,by decide,?_,hi⟩;unfold lB;refine Ck l ?_;simp only[PG,k,jd];exact Cq Z .done
  rw[k] at hi;refine .inr ⟨⟨I,H,F⟩,R,hw,Z,hr,hi,?_⟩;have sM:∀{α:Type} {g:Nat->Option α} {z a:α},Ev g a->Ev (λn=>(sn n mode).bind λr9=>bif (!r9) then V z else g n) a:=λhg=>by
    simp only[PG,k,jd];exact Cp Z hg
  by_cases o:gt c node.toNat > 300
  · exact .inl ⟨3,by decide,by unfold lB;exact Ck l (sM (qag cs (Cq (decide_eq_true o) .done))),by unfold ck;exact Ck m (Cq (decide_eq_true o) .done)⟩
  obtain⟨L,hLc,W,T,iA⟩:=B (by omega);have P:=y (by omega);rw[<-T] at P;by_cases hz:gt c node.toNat=0
  · have x:L.length=0:=by omega
    exact .inl ⟨5,by decide,by unfold lB;exact Ck l (sM (qag cs (Cp (decide_eq_false o) (Cq (by simpa using hz) .done)))),by unfold ck;exact Ck m (Cp (decide_eq_false o) (Ck iA (Cq (by rw[x];rfl) .done)))⟩
  have hl:L.length<=300:=by omega
  have x:0<L.length:=by omega
  obtain⟨d,J⟩:=qdG hw.tg.bl hw.tg.co k;have own:=C k d J;have b:=fq (Lf:=λn s i=>dH (ya j ⟨I,H,F⟩ R) mode L n s i) (S:=N0 (lf (HC d j mode)) L) (len:=L.length) (fin:=(L.map (lf (HC d j mode)),(L.length:Int)))
    (λn=>by simp only[dH,qr (jf _),Cj,ZI])
    (λi hi X hX=>by
      have A:gt L i∈L:=by rw[fd hi];exact jm hi
      obtain⟨a1,a2,_⟩:=W _ A;simp only[dH];refine Cq (qp hi) (Cy (OG hi) (Ck (own _ a2 a1) (Cy (OG hi) ?_)));rw[wS i];have e:=N1 (g:=lf (HC d j mode)) hi;unfold lf HC at e⊢;unfold lf HC at hX;rw[e];exact hX)
  rw[ZJ] at b;have r:∀p,p∈L.map (lf (HC d j mode))->p.Bk.length<=156:=λp D=>by
    obtain⟨q,Q,rfl⟩:=List.mem_map.1 D;exact(W q Q).1
  have hnl:(L.map (lf (HC d j mode))).length=L.length:=jo _;have iS:=ZD (mode:=mode) (xs:=L.map (lf (HC d j mode))) (by omega) λp D=>by have:=r p D;omega
  have u:0<(ua mode (L.map (lf (HC d j mode)))).length:=by rw[PK];omega
  have hMk:∀p,p∈ua mode (L.map (lf (HC d j mode)))->p.Bk.length<=156:=λp D=>r p (PQ.1 D);have hN:FJ j node ⟨I,H,F⟩ R f c:=⟨hw,Y,M,⟨r0,K⟩,by omega,ho,m⟩;have O:qG (ua mode (L.map (lf (HC d j mode)))) (0:Int)=V (gt (ua mode (L.map (lf (HC d j mode)))) 0):=qz u;have v:Ev (λn=>ck n (ya j ⟨I,H,F⟩ R) node mode) (gt (ua mode (L.map (lf (HC d j mode)))) 0,0):=by
    unfold ck;refine Ck m (Cp (decide_eq_false o) (Ck iA (Cp ?_ (Ck b (Ck iS (Cy O .done))))));have:(L.length:Int)≠0:=by omega
    simpa using this
  subst T;exact .inr ⟨f,c,d,hN,by omega,J,u,v⟩
end

theorem qb2{mode:Int}(a:mu mode=An){p q:qw}(h:NG (za mode) p q=An):(mode=0->p.Af<=q.Af)/\(mode=1->q.Af<=p.Af):=by
 rw[qb3] at h;unfold za UU at h;rcases uE a with rfl|rfl
 .refine⟨λ_=>?_,λe=>by omega⟩;refine Classical.byContradiction λb=>h ?_;have e:PS 0 q p=-1:=by unfold PS wY;rw[if_neg (by decide),if_pos (by omega)]
  rw[e,if_neg (by decide)];decide
 .refine⟨λe=>by omega,λ_=>?_⟩;refine Classical.byContradiction λb=>h ?_;have e:PS 1 q p=-1:=by unfold PS wY;rw[if_pos Z,if_pos (by omega)]
  rw[e,if_neg (by decide)];decide
theorem U9{mode:Int}{xs:List qw}{i k:Nat}(a:i<k)(b:k<(ua mode xs).length):NG (za mode) (gt (ua mode xs) i) (gt (ua mode xs) k)=An:=by
 rw[fd b,fd (show i<_ by omega)];exact List.pairwise_iff_getElem.1 ZH i k (by omega) b a
theorem TL{mode:Int}(b:mu mode=An){xs:List qw}{p:qw}(c:p∈xs):(mode=0->(gt (ua mode xs) 0).Af<=p.Af)/\(mode=1->p.Af<=(gt (ua mode xs) 0).Af):=by
 obtain⟨k,a,e⟩:=List.mem_iff_getElem.1 (PQ (mode:=mode).2 c);by_cases h:k=0
 .subst h;rw[fd a,e];exact⟨λ_=>jL _,λ_=>jL _⟩
 .have:=qb2 b (U9 (mode:=mode) (xs:=xs) (show 0<k by omega) a);rw[fd a,e] at this;exact this
section
variable{j:aZ}{t:qu}{R:List Nat}{c:List Int}{f:Nat->qg->qg×qg}{node:Int}{mode:Int}
theorem FJ.len(N:FJ j node t R f c):((aP j t R.length node.toNat).length:Int)=gt c node.toNat:=(GN N.w N.T N.ct N.nd.2 N.few).2
theorem FJ.reached(N:FJ j node t R f c):gt t.Au node.toNat=decide (gt c node.toNat > 0):=(GN N.w N.T N.ct N.nd.2 N.few).1
theorem UX{A:qw->Int}{L:List qw}{mode:Int}{k:Nat}(a:k<(ua mode (L.map (lf A))).length):∃p,p∈L/\gt (ua mode (L.map (lf A))) k=lf A p:=by
 have:gt (ua mode (L.map (lf A))) k∈ua mode (L.map (lf A)):=by rw[fd a];exact jm a
 obtain⟨p,b,e⟩:=List.mem_map.1 (PQ.1 this);exact⟨p,b,e.symm⟩
theorem FJ.first(N:FJ j node t R f c)(k:mu mode=An)(r:0<(ua mode ((aP j t R.length node.toNat).map (lf (KI f j t mode)))).length) :
  (gt (ua mode ((aP j t R.length node.toNat).map (lf (KI f j t mode)))) 0).Af=CM mode (gt t.Af node.toNat):=by
 obtain⟨p,s,o⟩:=UX r;obtain⟨b,u⟩:=X7 N.w N.T s;obtain⟨i,hi,h⟩:=N.w.tg.ord.full N.w.tg.len N.nd.2;obtain⟨q,l,d⟩:=WS N.w N.T mode R.length i hi hi (by rw[h];exact u);rw[h] at l d;have g:=TL k (List.mem_map_of_mem (f:=lf (KI f j t mode)) l);have n:(lf (KI f j t mode) q).Af=KI f j t mode q:=rfl;rw[n,d] at g;have e1:(gt (ua mode ((aP j t R.length node.toNat).map (lf (KI f j t mode)))) 0).Af=KI f j t mode p:=by rw[o];rfl
 rw[e1] at g⊢;have v:=b.e;have x:=b.l;rcases uE k with rfl|rfl
 .have a:=g.1 Z;have e:KI f j t 0 p=(GH f (qd j.Ac) t (bc (aE j.Am p.Bn)).2.Af p.Bk p.Bk.length).Ar:=rfl;have m:CM 0 (gt t.Af node.toNat)=(gt t.Af node.toNat).Ar:=rfl;omega
 .have a:=g.2 Z;have e:KI f j t 1 p=(GH f (qd j.Ac) t (bc (aE j.Am p.Bn)).2.Af p.Bk p.Bk.length).Bc:=rfl;have m:CM 1 (gt t.Af node.toNat)=(gt t.Af node.toNat).Bc:=rfl;omega
end

section
variable{j:aZ}{t:qu}{R:List Nat}{c:List Int}{f:Nat->qg->qg×qg}{node mode start:Int}{path:List Int}
theorem qbK(h:nH j)(N:FJ j node t R f c)(a:ma j start path=An)(g:path.length<=156):Ev (λn=>um n j start path) (C4 j start path,0):=by
 unfold um xI;have d:(pre (UD (qd j.Ac) start path) (path.length+1)).length=path.length+1:=wZ;refine Ck (b:=(pre (UD (qd j.Ac) start path) (path.length+1),0)) (Ck (MO h N.w N.op (by omega) a Z) (Cp Z (Ck (VD (t:=t) (R:=R) (by omega) a) .done))) (Cp Z (Cy ?_ .done));rw[d,qX (by omega) (by omega)];have e:((path.length+1:Nat):Int)-1=(path.length:Int):=by omega
 rw[e];exact oO (by omega)
theorem L5{d:Nat->Int->Int×Int}(h:nH j)(N:FJ j node t R f c)(b:mu mode=An)(g:GG j.Ac j.Aj mode d)(a:ma j start path=An)(k:path.length<=156) :
  Ev (λn=>pj n j start path mode) ((yA d (nI j start mode) path path.length).1,(yA d (nI j start mode) path path.length).2,0):=by
 unfold pj;refine Ck (MO h N.w N.op (by omega) a b) (Cp Z (Ck (PY (start:=start) h N.w b g (by omega) λi hi=>DV a hi) ?_));dsimp only;exact Cy (oO (by omega)) .done
theorem FJ.isPath(N:FJ j node t R f c){p:qw}(d:p∈aP j t R.length node.toNat):ma j p.Bn p.Bk=An/\C4 j p.Bn p.Bk=node/\p.Bk.length<=156:=by
 obtain⟨a,b,_⟩:=NV N.w _ _ p d;exact⟨a,by rw[b];exact N.arr.symm,qaN N.w a⟩
end
end Go.Fw
