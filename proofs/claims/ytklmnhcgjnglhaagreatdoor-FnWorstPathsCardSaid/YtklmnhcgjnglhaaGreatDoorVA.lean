/- The comparison of paths, as slices.SortFunc asks it. By a program of mine (gen.py, gr18.py). -/
import Derived.Test.YtklmnhcgjnglhaaGreatDoorB2
import Derived.Shelf.SlGeneric
import Derived.Shelf.SlicesG.Reverse
import Derived.Shelf.SlSortCmp.NoneTotal
import Derived.Ground.SlsfProg
import Derived.Ground.SlgnProg
import Derived.Test.YtklmnhcgjnglhaaGreatDoorProg
import Derived.Test.YtklmnhcgjnglhaaGreatDoorW12
open Option renaming bind_some->jd, some->V, none->U
open Bool renaming and_eq_true->je, eq_iff_iff->jn, not_eq_true'->jC, not_true->Jm, true->An, false->Cd, cond_true->Ci, cond_false->Cj
open Nat renaming le_refl->jf, lt_of_lt_of_le->jx, zero_le->jR, le_trans->jX, not_lt_zero->Ji, add_zero->Jl
open List renaming length_append->jg, length_singleton->jh, getElem?_eq_getElem->jj, getElem_mem->jo, mem_cons_of_mem->jp, length_map->jq, mem_cons_self->ju, append_assoc->jv, take_succ_eq_append_getElem->jw, length_take->jy, getD_eq_getElem?_getD->jz, getElem?_append_left->jA, mem_of_getElem?->jB, getElem?_append_right->jD, drop_eq_getElem_cons->jF, take_length->jG, length_replicate->jI, mem_append_left->jK, mem_append_right->jS, map_append->jT, append_nil->jY, getElem?_drop->Ja, all_eq_true->Jc, map_cons->Jf, getElem_take->Jh, length_cons->Jj
open Int renaming toNat_natCast->jr, mul_nonneg->jU, le_refl->jV, mul_le_mul->Jb
open Go.Fw.Ev renaming bind->Ck, succ->Cm, ff->Cp, tt->Cr, now->Cx, bindN->Cy
open Go.Fw.PV renaming done->Cq
open Go.Fw.ms renaming get->Cs
open Go.Fw.SH renaming unfr->Cv

namespace Go.Fw
open Go Go.Proofs
open Go.RowKit (Below)
set_option maxRecDepth 100000
set_option maxHeartbeats 6400000
def nr(_:Nat)(x:Int):Option Bool:=
 V (x != x)
theorem uY{n:Nat}{w:World}{x:Int}  {r:Bool}(a:nr n x=V r):RJ Tryz.prog 164 [.int .i64 x] w (.bool r):=by
 refine pN Tryz.func164 Z (m:=6) Z Z (fun h b=>?_);rw[nr] at a;refine au ?_;refine ae ?_;refine ma qa Z Z ?_;refine ac ?_;refine au ?_;refine ae ?_;refine ma qa Z Z ?_;refine ma qa Z Z ?_;refine ma qa Z Z ?_;refine ma qa Z Z ?_;refine ac ?_;obtain rfl:=qe a;exact pK h b qa ⟨Z,G⟩
def fg(n:Nat)(x:Int)(y:Int):Option Int:=
 (nr n x).bind fun r1=>
 (nr n y).bind fun a=>
 bif r1 then
  bif a then
   V 0
  else
   V (-1)
 else
  bif a then
   V 1
  else
   bif decide (x<y) then
    V (-1)
   else
    bif decide (x > y) then
     V 1
    else
     V 0
theorem lO{n:Nat}{w:World}{x:Int}{y:Int}  {r:Int}(a:fg n x y=V r):RJ Tryz.prog 103 [.int .i64 x,.int .i64 y] w (.int .i64 r):=by
 refine pN Tryz.func103 Z (m:=20) Z Z (fun h b=>?_);rw[fg] at a;refine au ?_;refine ae ?_;refine ma qa Z Z ?_;refine ac ?_;refine au ?_;refine ae ?_;refine ma qa Z Z ?_;obtain⟨r1,k,a⟩:=qc a;refine tT h b (cB 164 Z) (uY k) Z Z Z Z ?_;intro w1 h b;refine ma qa Z Z ?_;refine ac ?_;refine au ?_;refine ae ?_;refine ma qa Z Z ?_;obtain⟨o,l,a⟩:=qc a;refine tT h b (cB 164 Z) (uY l) Z Z Z Z ?_;intro p h b;refine ma qa Z Z ?_;refine ac ?_;refine au ?_;refine au ?_;refine ae ?_;refine ma qa Z Z ?_;refine ac ?_;refine uH Z (fun c=>?_) (fun c=>?_)
 .replace a:=HI c a;refine au ?_;refine au ?_;refine ae ?_;refine ma qa Z Z ?_;refine ac ?_;refine uH Z (fun d=>?_) (fun d=>?_)
  .replace a:=HI d a;refine au ?_;refine ae ?_;refine ma qa Z Z ?_;refine ac ?_;obtain rfl:=qe a;exact pK h b qa ⟨Z,G⟩
  .replace a:=HH d a;refine ez ?_;refine au ?_;refine ae ?_;refine ma qa Z Z ?_;refine ac ?_;obtain rfl:=qe a;exact pK h b qa ⟨Z,G⟩
 .replace a:=HH c a;refine ez ?_;refine au ?_;refine au ?_;refine ae ?_;refine ma qa Z Z ?_;refine ac ?_;refine uH Z (fun f=>?_) (fun f=>?_)
  .replace a:=HI f a;refine au ?_;refine ae ?_;refine ma qa Z Z ?_;refine ac ?_;obtain rfl:=qe a;exact pK h b qa ⟨Z,G⟩
  .replace a:=HH f a;refine ez ?_;refine au ?_;refine au ?_;refine ae ?_;refine ma qa Z Z ?_;refine ma qa Z Z ?_;refine ma qa Z Z ?_;refine ac ?_;refine uH Z (fun g=>?_) (fun g=>?_)
   .replace a:=HI g a;refine au ?_;refine ae ?_;refine ma qa Z Z ?_;refine ac ?_;obtain rfl:=qe a;exact pK h b qa ⟨Z,G⟩
   .replace a:=HH g a;refine ez ?_;refine au ?_;refine au ?_;refine ae ?_;refine ma qa Z Z ?_;refine ma qa Z Z ?_;refine ma qa Z Z ?_;refine ac ?_;refine uH Z (fun i=>?_) (fun i=>?_)
    .replace a:=HI i a;refine au ?_;refine ae ?_;refine ma qa Z Z ?_;refine ac ?_;obtain rfl:=qe a;exact pK h b qa ⟨Z,G⟩
    .replace a:=HH i a;refine ez ?_;refine au ?_;refine ae ?_;refine ma qa Z Z ?_;refine ac ?_;obtain rfl:=qe a;exact pK h b qa ⟨Z,G⟩
def bz(a:List Int)(b:List Int):Nat->Int->Option (eE Int Int)
 |0,_=>U
 |n+1,i1=>
  bif decide (i1<(a.length:Int)) then
   (qF a i1).bind fun c=>
   bif decide (i1>=(b.length:Int)) then
    V (.ret 1)
   else
    (qF b i1).bind fun d=>
    (fg n c d).bind fun r1=>
    bif (r1 != 0) then
     V (.ret r1)
    else
     bz a b n (qj (i1+1))
  else
   V (.nxt i1)
def iW(n:Nat)(a:List Int)(b:List Int):Option Int:=
 (bz a b n 0).bind fun|.ret r=>V r|.nxt _=>bif decide ((a.length:Int)<(b.length:Int)) then V (-1) else V 0
theorem yd{n:Nat}{w:World}{b:List Int}{c:List Int}{o:List Value}(y:Ro w b o){p:List Value}(z:Ro w c p){r:Int}(a:iW n b c=V r):RJ Tryz.prog 104 [qm.v (List Int) o,qm.v (List Int) p] w (.int .i64 r):=by
 obtain⟨p1,M,rfl,s1⟩:=y;obtain⟨S,P,rfl,s2⟩:=z;refine pN Tryz.func104 Z (m:=36) Z Z (fun h d=>?_);rw[iW] at a;refine au ?_;refine ae ?_;refine ma qa Z Z ?_;refine ac ?_;refine au ?_;refine au ?_;refine ae ?_;refine ma qa Z Z ?_;refine ma qa Z Z ?_;refine ma qa Z Z ?_;refine ac ?_;obtain⟨o1,a,f⟩:=qc a;refine qr ?_;refine W8 [(0,_),(1,_),(9,_),(10,_),(11,_)] ⟨Z,Z,Z,Z,Z,G⟩ ?_;refine YZ (fun m e w'=>∃(L:Int),bz b c m L=V o1/\e=[(0,.slice p1 b.length M),(1,.slice S c.length P),(9,.slice p1 b.length M),(10,.int .i64 (b.length:Int)),(11,.int .i64 L)]/\SH w w' []/\w.drawn<=w'.drawn) n ⟨_,a,Z,h,d⟩ ?_;rintro x e1 w1 ⟨L,a,rfl,h,d⟩;rcases x with _|x
 .rw[bz] at a;cases a
 rw[bz] at a;refine au ?_;refine ae ?_;refine ma qa Z Z ?_;refine ac ?_;refine au ?_;refine uH Z (fun g=>?_) (fun g=>?_)
 .replace a:=HI g a;refine ez ?_;refine au ?_;refine qr ?_;refine au ?_;refine ae ?_;refine ma qa Z Z ?_;obtain⟨Y,u,a⟩:=qc a;have s:=bH u;obtain⟨b1,Q,T,N,C,F,-,I,A⟩:=s1.at u;obtain rfl:=I;refine dK (WX qa C F ⟨s.1,s.2.1⟩ Z Z Z Z Z Z) Z ?_;refine dK (cR qa (A.below h.below) (j:=0) Z Z Z) Z ?_;refine ma qa Z Z ?_;refine ma qa Z Z ?_;refine ac ?_;refine au ?_;refine au ?_;refine ae ?_;refine ma qa Z Z ?_;refine ma qa Z Z ?_;refine ma qa Z Z ?_;refine ma qa Z Z ?_;refine ac ?_;refine uH Z (fun i=>?_) (fun i=>?_)
  .replace a:=HI i a;refine au ?_;refine ae ?_;refine ma qa Z Z ?_;refine ac ?_;obtain rfl:=qe a;replace a:=f;obtain rfl:=qe a;exact pK h d qa ⟨Z,G⟩
  .replace a:=HH i a;refine ez ?_;refine au ?_;refine ae ?_;refine ma qa Z Z ?_;refine ma qa Z Z ?_;obtain⟨y2,v,a⟩:=qc a;have t:=bH v;obtain⟨b2,R,W,O,D,H,-,J,B⟩:=s2.at v;obtain rfl:=J;refine dK (WX qa D H ⟨t.1,t.2.1⟩ Z Z Z Z Z Z) Z ?_;refine dK (cR qa (B.below h.below) (j:=0) Z Z Z) Z ?_;refine ma qa Z Z ?_;refine ac ?_;refine au ?_;refine ae ?_;refine ma qa Z Z ?_;refine ma qa Z Z ?_;obtain⟨r1,K,a⟩:=qc a;refine tT h d (cB 103 Z) (lO K) Z Z Z Z ?_;intro X h d;refine ma qa Z Z ?_;refine ac ?_;refine au ?_;refine ae ?_;refine ma qa Z Z ?_;refine ma qa Z Z ?_;refine ac ?_;refine uH Z (fun k=>?_) (fun k=>?_)
   .replace a:=HI k a;refine au ?_;refine ae ?_;refine ma qa Z Z ?_;refine ma qa Z Z ?_;refine ac ?_;obtain rfl:=qe a;replace a:=f;obtain rfl:=qe a;exact pK h d qa ⟨Z,G⟩
   .replace a:=HH k a;refine ez ?_;refine WF ?_;refine ae ?_;refine ma qa Z Z ?_;refine ma qa Z Z ?_;refine ac ?_;exact YX x [(0,_),(1,_),(9,_),(10,_),(11,_)] (Nat.lt_succ_self x) ⟨Z,Z,Z,Z,Z,G⟩ ⟨_,a,Z,h,d⟩
 .replace a:=HH g a;refine qx Z ?_;obtain rfl:=qe a;replace a:=f;refine au ?_;refine au ?_;refine ae ?_;refine ma qa Z Z ?_;refine ma qa Z Z ?_;refine ma qa Z Z ?_;refine ma qa Z Z ?_;refine ma qa Z Z ?_;refine ac ?_;refine uH Z (fun l=>?_) (fun l=>?_)
  .replace a:=HI l a;refine au ?_;refine ae ?_;refine ma qa Z Z ?_;refine ac ?_;obtain rfl:=qe a;exact pK h d qa ⟨Z,G⟩
  .replace a:=HH l a;refine ez ?_;refine au ?_;refine ae ?_;refine ma qa Z Z ?_;refine ac ?_;obtain rfl:=qe a;exact pK h d qa ⟨Z,G⟩
def fz(a:List Int):Nat->Int->Option (eE Int Int)
 |0,_=>U
 |n+1,i1=>
  bif decide (i1<(a.length:Int)) then
   (qF a i1).bind fun b=>
   bif (b != 0) then
    V (.ret b)
   else
    fz a n (qj (i1+1))
  else
   V (.nxt i1)
def ux(n:Nat)(a:List Int):Option Int:=
 (fz a n 0).bind fun|.ret r=>V r|.nxt _=>V 0
theorem AZ{n:Nat}{w:World}{b:List Int}{f:List Value}(p:Ro w b f){r:Int}(a:ux n b=V r):RJ Tryz.prog 60 [qm.v (List Int) f] w (.int .i64 r):=by
 obtain⟨p1,z,rfl,s1⟩:=p;refine pN Tryz.func60 Z (m:=18) Z Z (fun h i=>?_);rw[ux] at a;refine au ?_;refine ae ?_;refine ma qa Z Z ?_;refine ac ?_;refine au ?_;refine ae ?_;refine ma qa Z Z ?_;refine ac ?_;refine au ?_;refine au ?_;refine ae ?_;refine ma qa Z Z ?_;refine ma qa Z Z ?_;refine ma qa Z Z ?_;refine ac ?_;obtain⟨o1,a,g⟩:=qc a;refine qr ?_;refine W8 [(3,_),(6,_),(7,_),(8,_)] ⟨Z,Z,Z,Z,G⟩ ?_;refine YZ (fun m e w'=>∃(x:Int),fz b m x=V o1/\e=[(3,.int .i64 0),(6,.slice p1 b.length z),(7,.int .i64 (b.length:Int)),(8,.int .i64 x)]/\SH w w' []/\w.drawn<=w'.drawn) n ⟨_,a,Z,h,i⟩ ?_;rintro o e1 w1 ⟨x,a,rfl,h,i⟩;rcases o with _|o
 .rw[fz] at a;cases a
 rw[fz] at a;refine au ?_;refine ae ?_;refine ma qa Z Z ?_;refine ac ?_;refine au ?_;refine uH Z (fun c=>?_) (fun c=>?_)
 .replace a:=HI c a;refine ez ?_;refine au ?_;refine qr ?_;refine au ?_;refine ae ?_;obtain⟨C,l,a⟩:=qc a;have k:=bH l;obtain⟨b1,A,B,y,t,u,-,v,s⟩:=s1.at l;obtain rfl:=v;refine dK (WX qa t u ⟨k.1,k.2.1⟩ Z Z Z Z Z Z) Z ?_;refine dK (cR qa (s.below h.below) (j:=0) Z Z Z) Z ?_;refine ma qa Z Z ?_;refine ac ?_;refine au ?_;refine ae ?_;refine ma qa Z Z ?_;refine ma qa Z Z ?_;refine ma qa Z Z ?_;refine ac ?_;refine uH Z (fun d=>?_) (fun d=>?_)
  .replace a:=HI d a;refine au ?_;refine ae ?_;refine ma qa Z Z ?_;refine ma qa Z Z ?_;refine ac ?_;obtain rfl:=qe a;replace a:=g;obtain rfl:=qe a;exact pK h i qa ⟨Z,G⟩
  .replace a:=HH d a;refine ez ?_;refine WF ?_;refine ae ?_;refine ma qa Z Z ?_;refine ma qa Z Z ?_;refine ac ?_;exact YX o [(3,_),(6,_),(7,_),(8,_)] (Nat.lt_succ_self o) ⟨Z,Z,Z,Z,G⟩ ⟨_,a,Z,h,i⟩
 .replace a:=HH c a;refine qx Z ?_;obtain rfl:=qe a;replace a:=g;refine au ?_;refine ae ?_;refine ma qa Z Z ?_;refine ma qa Z Z ?_;refine ac ?_;obtain rfl:=qe a;exact pK h i qa ⟨Z,G⟩
def iQ(n:Nat)(a:Int)(b:Int)(mode:Int):Option Int:=
 bif (mode==1) then
  (fg n b a).bind fun r1=>
  V r1
 else
  (fg n a b).bind fun c=>
  V c
theorem xV{n:Nat}{w:World}{a:Int}{b:Int}{mode:Int}  {r:Int}(c:iQ n a b mode=V r):RJ Tryz.prog 61 [.int .i64 a,.int .i64 b,.int .i64 mode] w (.int .i64 r):=by
 refine pN Tryz.func61 Z (m:=14) Z Z (fun h f=>?_);rw[iQ] at c;refine au ?_;refine ae ?_;refine ma qa Z Z ?_;refine ac ?_;refine au ?_;refine au ?_;refine ae ?_;refine ma qa Z Z ?_;refine ma qa Z Z ?_;refine ac ?_;refine uH Z (fun d=>?_) (fun d=>?_)
 .replace c:=HI d c;refine ae ?_;refine ma qa Z Z ?_;refine ma qa Z Z ?_;refine ma qa Z Z ?_;refine ma qa Z Z ?_;refine ac ?_;refine au ?_;refine ae ?_;refine ma qa Z Z ?_;refine ma qa Z Z ?_;obtain⟨r1,g,c⟩:=qc c;refine tT h f (cB 103 Z) (lO g) Z Z Z Z ?_;intro w1 h f;refine ma qa Z Z ?_;refine ac ?_;obtain rfl:=qe c;exact pK h f qa ⟨Z,G⟩
 .replace c:=HH d c;refine ez ?_;refine au ?_;refine ae ?_;refine ma qa Z Z ?_;refine ma qa Z Z ?_;obtain⟨k,i,c⟩:=qc c;refine tT h f (cB 103 Z) (lO i) Z Z Z Z ?_;intro l h f;refine ma qa Z Z ?_;refine ac ?_;obtain rfl:=qe c;exact pK h f qa ⟨Z,G⟩
def mw(n:Nat)(p:qK)(q:qK):Option Int:=
 (fg n p.Bo q.Bo).bind fun r1=>
 (iW n p.Bl q.Bl).bind fun a=>
 (ux n ([r1,a]:List Int)).bind fun b=>
 V b
theorem AF{n:Nat}{w:World}{p:qK}{q:qK}{d:List Value}(k:Ro w p d){f:List Value}(l:Ro w q f){r:Int}(c:mw n p q=V r):RJ Tryz.prog 62 [qm.v qK d,qm.v qK f] w (.int .i64 r):=by
 obtain⟨p1,x,rfl,s1⟩:=fb k;obtain⟨z,y,rfl,s2⟩:=fb l;refine pN Tryz.func62 Z (m:=17) Z Z (fun h a=>?_);rw[mw] at c;refine au ?_;refine ae ?_;refine SR h a Z Z ?_;intro w1 g h a;refine SR h a Z Z ?_;intro D i h a;refine ma qa Z Z ?_;refine ac ?_;refine au ?_;refine W6 [] (fun w'=>SH w w' [Ch.box i [.int .i64 q.Bo,.slice z q.Bl.length y,.int .i64 q.Af] 56,Ch.box g [.int .i64 p.Bo,.slice p1 p.Bl.length x,.int .i64 p.Af] 56]) Z 13 Z #[Cd,Cd,Cd,Cd,Cd,Cd,Cd,Cd,Cd,Cd,Cd,Cd,Cd] (by kernel_rfl) (fun F u v=>?_);have h:=h.ext u;replace a:=jX a v;clear u v;refine gk 0 Z #[An,Cd,Cd,Cd,Cd,Cd,Cd,Cd,Cd,Cd,Cd,Cd,Cd] (by kernel_rfl) (by kernel_rfl) (fun w' b=>WY qa Z w') (h.p [0,1] Z) Z ?_;refine gk 1 Z #[An,An,Cd,Cd,Cd,Cd,Cd,Cd,Cd,Cd,Cd,Cd,Cd] (by kernel_rfl) (by kernel_rfl) (fun w' b=>cR qa (b.box 1 Z) (j:=0) Z Z Z) (h.p [0,1] Z) Z ?_;refine gk 2 Z #[An,An,An,Cd,Cd,Cd,Cd,Cd,Cd,Cd,Cd,Cd,Cd] (by kernel_rfl) (by kernel_rfl) (fun w' b=>WY qa Z w') (h.p [0,1] Z) Z ?_;refine gk 3 Z #[An,An,An,An,Cd,Cd,Cd,Cd,Cd,Cd,Cd,Cd,Cd] (by kernel_rfl) (by kernel_rfl) (fun w' b=>cR qa (b.box 0 Z) (j:=0) Z Z Z) (h.p [0,1] Z) Z ?_;refine gk 5 Z #[An,An,An,An,Cd,An,Cd,Cd,Cd,Cd,Cd,Cd,Cd] (by kernel_rfl) (by kernel_rfl) (fun w' b=>WY qa Z w') (h.p [0,1] Z) Z ?_;refine gk 6 Z #[An,An,An,An,Cd,An,An,Cd,Cd,Cd,Cd,Cd,Cd] (by kernel_rfl) (by kernel_rfl) (fun w' b=>cR qa (b.box 1 Z) (j:=1) Z Z Z) (h.p [0,1] Z) Z ?_;refine gk 7 Z #[An,An,An,An,Cd,An,An,An,Cd,Cd,Cd,Cd,Cd] (by kernel_rfl) (by kernel_rfl) (fun w' b=>WY qa Z w') (h.p [0,1] Z) Z ?_;refine gk 8 Z #[An,An,An,An,Cd,An,An,An,An,Cd,Cd,Cd,Cd] (by kernel_rfl) (by kernel_rfl) (fun w' b=>cR qa (b.box 0 Z) (j:=1) Z Z Z) (h.p [0,1] Z) Z ?_;refine za 4 Z #[An,An,An,An,An,An,An,An,An,Cd,Cd,Cd,Cd] (by kernel_rfl) (by kernel_rfl) ?_;obtain⟨r1,o,c⟩:=qc c;refine tT h a (cB 103 Z) (lO o) Z Z Z Z ?_;intro H h a;refine bL (fun _=>(h.p [0,1] Z)) ?_;refine za 9 Z #[An,An,An,An,An,An,An,An,An,An,Cd,Cd,Cd] (by kernel_rfl) (by kernel_rfl) ?_;obtain⟨A,s,c⟩:=qc c;refine tT h a (cB 104 Z) (yd ⟨_,_,Z,(h.oldS s1)⟩ ⟨_,_,Z,(h.oldS s2)⟩ s) Z Z Z Z ?_;intro I h a;refine bL (fun _=>(h.p [0,1] Z)) ?_;refine za 10 Z #[An,An,An,An,An,An,An,An,An,An,An,Cd,Cd] (by kernel_rfl) (by kernel_rfl) ?_;refine QP qa [.tmp 9,.tmp 14] _ ([r1,A]:List Int) h a Z Z Z Z Z Z Z Z Z ⟨Z,Z,G⟩ Z ?_;intro J B S1 h a;refine bL (fun _=>(h.p [1,2] Z)) ?_;refine za 11 Z #[An,An,An,An,An,An,An,An,An,An,An,An,Cd] (by kernel_rfl) (by kernel_rfl) ?_;obtain⟨C,t,c⟩:=qc c;refine tT h a (cB 60 Z) (AZ (h.own 0 Z) t) Z Z Z Z ?_;intro K h a;refine bL (fun _=>(h.p [1,2] Z)) ?_;refine gk 12 Z #[An,An,An,An,An,An,An,An,An,An,An,An,An] (by kernel_rfl) (by kernel_rfl) (fun w' b=>WY qa Z w') (h.p [1,2] Z) Z ?_;refine XN (by kernel_rfl) ?_;obtain rfl:=qe c;exact pK h a qa ⟨Z,G⟩
def hU(n:Nat)(p:qK)(q:qK)(c:Int):Option Int:=
 (iQ n p.Af q.Af c).bind fun r1=>
 (mw n p q).bind fun a=>
 (ux n ([r1,a]:List Int)).bind fun b=>
 V b
theorem BM{n:Nat}{w:World}{p:qK}{q:qK}{B:Int}{d:List Value}(g:Ro w p d){f:List Value}(i:Ro w q f){A:Option Addr}(o:Ro w (V B) [.pointer A]){r:Int}(c:hU n p q B=V r):RJ Tryz.prog 59 [qm.v qK d,qm.v qK f,.pointer A] w (.int .i64 r):=by
 obtain⟨p1,D,rfl,s1⟩:=fb g;obtain⟨I,F,rfl,s2⟩:=fb i;obtain⟨b1,H,C,rfl,-,t,s⟩:=Cs o Z;obtain rfl:=t;refine pN Tryz.func59 Z (m:=17) Z Z (fun h a=>?_);rw[hU] at c;refine au ?_;refine ae ?_;refine SR h a Z Z ?_;intro w1 k h a;refine SR h a Z Z ?_;intro M l h a;refine ma qa Z Z ?_;refine ac ?_;refine au ?_;refine W6 [] (fun w'=>SH w w' [Ch.box l [.int .i64 q.Bo,.slice I q.Bl.length F,.int .i64 q.Af] 56,Ch.box k [.int .i64 p.Bo,.slice p1 p.Bl.length D,.int .i64 p.Af] 56]) Z 12 Z #[Cd,Cd,Cd,Cd,Cd,Cd,Cd,Cd,Cd,Cd,Cd,Cd] (by kernel_rfl) (fun N y z=>?_);have h:=h.ext y;replace a:=jX a z;clear y z;refine gk 0 Z #[An,Cd,Cd,Cd,Cd,Cd,Cd,Cd,Cd,Cd,Cd,Cd] (by kernel_rfl) (by kernel_rfl) (fun w' b=>WY qa Z w') (h.p [0,1] Z) Z ?_;refine gk 1 Z #[An,An,Cd,Cd,Cd,Cd,Cd,Cd,Cd,Cd,Cd,Cd] (by kernel_rfl) (by kernel_rfl) (fun w' b=>cR qa (b.box 1 Z) (j:=2) Z Z Z) (h.p [0,1] Z) Z ?_;refine gk 2 Z #[An,An,An,Cd,Cd,Cd,Cd,Cd,Cd,Cd,Cd,Cd] (by kernel_rfl) (by kernel_rfl) (fun w' b=>WY qa Z w') (h.p [0,1] Z) Z ?_;refine gk 3 Z #[An,An,An,An,Cd,Cd,Cd,Cd,Cd,Cd,Cd,Cd] (by kernel_rfl) (by kernel_rfl) (fun w' b=>cR qa (b.box 0 Z) (j:=2) Z Z Z) (h.p [0,1] Z) Z ?_;refine gk 4 Z #[An,An,An,An,An,Cd,Cd,Cd,Cd,Cd,Cd,Cd] (by kernel_rfl) (by kernel_rfl) (fun w' b=>cR qa (s.below b.below) (j:=0) Z Z Z) (h.p [0,1] Z) Z ?_;refine gk 6 Z #[An,An,An,An,An,Cd,An,Cd,Cd,Cd,Cd,Cd] (by kernel_rfl) (by kernel_rfl) (fun w' b=>cR qa (b.box 1 Z) (j:=0) Z Z Z) (h.p [0,1] Z) Z ?_;refine gk 7 Z #[An,An,An,An,An,Cd,An,An,Cd,Cd,Cd,Cd] (by kernel_rfl) (by kernel_rfl) (fun w' b=>cR qa (b.box 0 Z) (j:=0) Z Z Z) (h.p [0,1] Z) Z ?_;refine za 5 Z #[An,An,An,An,An,An,An,An,Cd,Cd,Cd,Cd] (by kernel_rfl) (by kernel_rfl) ?_;obtain⟨r1,u,c⟩:=qc c;refine tT h a (cB 61 Z) (xV u) Z Z Z Z ?_;intro O h a;refine bL (fun _=>(h.p [0,1] Z)) ?_;refine za 8 Z #[An,An,An,An,An,An,An,An,An,Cd,Cd,Cd] (by kernel_rfl) (by kernel_rfl) ?_;obtain⟨J,v,c⟩:=qc c;refine tT h a (cB 62 Z) (AF (h.old g) (h.old i) v) Z Z Z Z ?_;intro P h a;refine bL (fun _=>(h.p [0,1] Z)) ?_;refine za 9 Z #[An,An,An,An,An,An,An,An,An,An,Cd,Cd] (by kernel_rfl) (by kernel_rfl) ?_;refine QP qa [.tmp 11,.tmp 14] _ ([r1,J]:List Int) h a Z Z Z Z Z Z Z Z Z ⟨Z,Z,G⟩ Z ?_;intro Q K S1 h a;refine bL (fun _=>(h.p [1,2] Z)) ?_;refine za 10 Z #[An,An,An,An,An,An,An,An,An,An,An,Cd] (by kernel_rfl) (by kernel_rfl) ?_;obtain⟨L,x,c⟩:=qc c;refine tT h a (cB 60 Z) (AZ (h.own 0 Z) x) Z Z Z Z ?_;intro R h a;refine bL (fun _=>(h.p [1,2] Z)) ?_;refine gk 11 Z #[An,An,An,An,An,An,An,An,An,An,An,An] (by kernel_rfl) (by kernel_rfl) (fun w' b=>WY qa Z w') (h.p [1,2] Z) Z ?_;refine XN (by kernel_rfl) ?_;obtain rfl:=qe c;exact pK h a qa ⟨Z,G⟩
end Go.Fw


namespace Go.Proofs
open Go.Shelf
def Tryz.laysR_ren:Go.Shelf.Ren:=⟨fun|35=>56|n=>n,fun|22=>37|23=>2|3=>3|4=>4|0=>0|n=>n,fun|n=>n⟩
theorem Tryz.laysR:Go.Proofs.SlLaysN.n35 Tryz.prog Tryz.laysR_ren:={
 mixed:=by kernel_rfl
 f35:=⟨Tryz.f56.name,by decide,Tryz.func56.trans (congrArg some (by kernel_rfl))⟩
 t0:=Tryz.underlying0
 a0:=Tryz.isAgg0
 z0:=Tryz.sizeOf0
 v0:=Tryz.zeroValue0
 t3:=Tryz.underlying3
 a3:=Tryz.isAgg3
 z3:=Tryz.sizeOf3
 v3:=Tryz.zeroValue3
 t4:=Tryz.underlying4
 a4:=Tryz.isAgg4
 z4:=Tryz.sizeOf4
 v4:=Tryz.zeroValue4
 t22:=Tryz.underlying37
 a22:=Tryz.isAgg37
 z22:=Tryz.sizeOf37
 v22:=Tryz.zeroValue37
 t23:=Tryz.underlying2
 a23:=Tryz.isAgg2
 z23:=Tryz.sizeOf2
 v23:=Tryz.zeroValue2 }
def Tryz.laysS_ren:Go.Shelf.Ren:=⟨fun|6=>58|15=>102|14=>101|28=>162|29=>163|20=>154|21=>155|22=>156|23=>157|24=>158|25=>159|26=>160|27=>161|46=>208|47=>209|48=>210|49=>211|50=>212|57=>249|n=>n,fun|22=>43|24=>56|25=>140|3=>3|39=>191|0=>0|53=>242|55=>244|4=>4|46=>235|45=>234|50=>239|5=>5|9=>9|66=>282|70=>286|76=>318|77=>319|n=>n,fun|n=>n⟩
theorem Tryz.laysS:Go.Proofs.SlLaysF0.n6 Tryz.prog Tryz.laysS_ren:={
 mixed:=by kernel_rfl
 f6:=⟨Tryz.f58.name,by decide,Tryz.func58.trans (congrArg some (by kernel_rfl))⟩
 f14:=⟨Tryz.f101.name,by decide,Tryz.func101.trans (congrArg some (by kernel_rfl))⟩
 f15:=Tryz.func102.trans (congrArg some (by kernel_rfl))
 f20:=⟨Tryz.f154.name,by decide,Tryz.func154.trans (congrArg some (by kernel_rfl))⟩
 f21:=⟨Tryz.f155.name,by decide,Tryz.func155.trans (congrArg some (by kernel_rfl))⟩
 f22:=⟨Tryz.f156.name,by decide,Tryz.func156.trans (congrArg some (by kernel_rfl))⟩
 f23:=⟨Tryz.f157.name,by decide,Tryz.func157.trans (congrArg some (by kernel_rfl))⟩
 f24:=⟨Tryz.f158.name,by decide,Tryz.func158.trans (congrArg some (by kernel_rfl))⟩
 f25:=⟨Tryz.f159.name,by decide,Tryz.func159.trans (congrArg some (by kernel_rfl))⟩
 f26:=⟨Tryz.f160.name,by decide,Tryz.func160.trans (congrArg some (by kernel_rfl))⟩
 f27:=⟨Tryz.f161.name,by decide,Tryz.func161.trans (congrArg some (by kernel_rfl))⟩
 f28:=Tryz.func162.trans (congrArg some (by kernel_rfl))
 f29:=Tryz.func163.trans (congrArg some (by kernel_rfl))
 f46:=⟨Tryz.f208.name,by decide,Tryz.func208.trans (congrArg some (by kernel_rfl))⟩
 f47:=Tryz.func209.trans (congrArg some (by kernel_rfl))
 f48:=Tryz.func210.trans (congrArg some (by kernel_rfl))
 f49:=⟨Tryz.f211.name,by decide,Tryz.func211.trans (congrArg some (by kernel_rfl))⟩
 f50:=⟨Tryz.f212.name,by decide,Tryz.func212.trans (congrArg some (by kernel_rfl))⟩
 f57:=⟨Tryz.f249.name,by decide,Tryz.func249.trans (congrArg some (by kernel_rfl))⟩
 t0:=Tryz.underlying0
 a0:=Tryz.isAgg0
 z0:=Tryz.sizeOf0
 v0:=Tryz.zeroValue0
 t3:=Tryz.underlying3
 a3:=Tryz.isAgg3
 z3:=Tryz.sizeOf3
 v3:=Tryz.zeroValue3
 t4:=Tryz.underlying4
 a4:=Tryz.isAgg4
 z4:=Tryz.sizeOf4
 v4:=Tryz.zeroValue4
 t5:=Tryz.underlying5
 a5:=Tryz.isAgg5
 z5:=Tryz.sizeOf5
 v5:=Tryz.zeroValue5
 t9:=Tryz.underlying9
 a9:=Tryz.isAgg9
 z9:=Tryz.sizeOf9
 v9:=Tryz.zeroValue9
 t22:=Tryz.underlying43
 a22:=Tryz.isAgg43
 z22:=Tryz.sizeOf43
 v22:=Tryz.zeroValue43
 t25:=Tryz.underlying140
 a25:=Tryz.isAgg140
 z25:=Tryz.sizeOf140
 v25:=Tryz.zeroValue140
 t39:=Tryz.underlying191
 a39:=Tryz.isAgg191
 z39:=Tryz.sizeOf191
 v39:=Tryz.zeroValue191
 t45:=Tryz.underlying234
 a45:=Tryz.isAgg234
 z45:=Tryz.sizeOf234
 v45:=Tryz.zeroValue234
 t46:=Tryz.underlying235
 a46:=Tryz.isAgg235
 z46:=Tryz.sizeOf235
 v46:=Tryz.zeroValue235
 t50:=Tryz.underlying239
 a50:=Tryz.isAgg239
 z50:=Tryz.sizeOf239
 v50:=Tryz.zeroValue239
 t53:=Tryz.underlying242
 a53:=Tryz.isAgg242
 z53:=Tryz.sizeOf242
 v53:=Tryz.zeroValue242
 t55:=Tryz.underlying244
 a55:=Tryz.isAgg244
 z55:=Tryz.sizeOf244
 v55:=Tryz.zeroValue244
 t66:=Tryz.underlying282
 a66:=Tryz.isAgg282
 z66:=Tryz.sizeOf282
 v66:=Tryz.zeroValue282
 t70:=Tryz.underlying286
 a70:=Tryz.isAgg286
 z70:=Tryz.sizeOf286
 v70:=Tryz.zeroValue286
 t76:=Tryz.underlying318
 a76:=Tryz.isAgg318
 z76:=Tryz.sizeOf318
 v76:=Tryz.zeroValue318
 t77:=Tryz.underlying319
 a77:=Tryz.isAgg319
 z77:=Tryz.sizeOf319
 v77:=Tryz.zeroValue319 }
open Go.RowKit Go.Sort in
theorem Tryz.slices_Reverse(blk cG cap:Nat) (zs:List Int) (w:World) (hH:Holds (Value.int .i64) w blk cG zs.toArray) (hsz:zs.length<=9223372036854775807) :
  Calls Tryz.prog 56 #[.slice (some ⟨blk,cG,none⟩) zs.length cap] w fun e w'=>e=.returned (.tuple #[])/\∃n,w'=putRow (Value.int .i64) (Sort.ahead w n) blk cG zs.reverse.toArray:=AnyG.slices_Reverse_int Tryz.laysR blk cG cap zs w hH hsz
open Go.RowKit Go.Sort in
theorem Tryz.slices_Reverse_none(p:Option Addr) (cap:Nat) (w:World) :
  Calls Tryz.prog 56 #[.slice p 0 cap] w fun e w'=>e=.returned (.tuple #[])/\w'=w:=AnyG.slices_Reverse_int_empty Tryz.laysR p cap w
open Go.RowKit Go.Sort in
theorem Tryz.slices_SortFunc(enc:Nat->List Value) (hk:∀x,(enc x).length=3) (h1:∀x,∀v∈enc x,v.oneCell'=true) (cf:Nat->Nat->Int) (hO:SWO (ltOf cf)) (cb:Array Value) (blk cG cap:Nat) (d:Array Nat) (w:World) (hcmp:CmpLays Tryz.prog 59 cb enc 3 cf blk cG d.size w) (hH:HoldsK enc 3 w blk cG d) (hblk:blk<w.heap.size) (hsz:d.size<4611686018427387904) :
  Calls Tryz.prog 58 #[.slice (some ⟨blk,cG,none⟩) d.size cap,.func (.func 59) #[] cb] w fun e w'=>
   e=.returned (.tuple #[])/\∃d' n os,PermIn 0 d.size d d'/\SortedIn (ltOf cf) 0 d.size d'/\w'=sortWorldK enc 3 w blk cG n d' os:=AnyQ.slices_SortFunc Tryz.laysS 3 Tryz.isAgg56 Tryz.sizeOf56 enc hk h1 cf hO 59 cb blk cG cap d w (enters_of Tryz.func59 (by kernel_rfl) rfl) hcmp hH hblk hsz
open Go.RowKit Go.Sort in
theorem Tryz.slices_SortFunc_none(p:Option Addr) (cap:Nat) (fv:Value) (w:World) :
  Calls Tryz.prog 58 #[.slice p 0 cap,fv] w fun e w'=>e=.returned (.tuple #[])/\w'=w:=AnyF.slices_SortFunc_none Tryz.laysS p cap fv w
end Go.Proofs


namespace Go.Fw
open Go Go.Proofs Go.Sort
open Go.RowKit (Below)
set_option maxRecDepth 100000
theorem Tryz.slices_Reverse_at:MG Tryz.prog 56:=
 ⟨fun a cG cap zs w b c=>Go.Proofs.Tryz.slices_Reverse a cG cap zs w b c,fun p cap w=>Go.Proofs.Tryz.slices_Reverse_none p cap w⟩
theorem Tryz.slices_SortFunc_at:ZW Tryz.prog 58 59 (qm.k qK):=
 ⟨fun enc m h f k c b cG cap d w a i l n=>Go.Proofs.Tryz.slices_SortFunc enc m h f k c b cG cap d w a i l n,fun p cap g w=>Go.Proofs.Tryz.slices_SortFunc_none p cap g w⟩
structure DM{α:Type}(c:α->α->Int):Prop where
 anti:∀x y,c y x=-(c x y)
 eq:∀x y z,c x y=0->c x z=c y z
 tr:∀x y z,c x y<0->c y z<0->c x z<0
theorem DM.swo{α:Type}{c:α->α->Int}(h:DM c):SWO fun x y=>decide (c x y<0) where
 irrefl x:=by
  have:=h.anti x x;exact decide_eq_false (by omega)
 trans x y z a b:=decide_eq_true (h.tr x y z (of_decide_eq_true a) (of_decide_eq_true b))
 ntrans x y z a b:=by
  have a:=of_decide_eq_false a;have b:=of_decide_eq_false b;refine decide_eq_false ?_;have a1:=h.anti x y;have a2:=h.anti y z;have f:=h.anti x z;by_cases e1:c x y=0
  .have:=h.eq x y z e1;omega
  .by_cases d:c y z=0
   .have:=h.eq y z x d;omega
   .have:=h.tr z y x (by omega) (by omega);omega
theorem DM.comap{α β:Type}{c:β->β->Int}(h:DM c)(f:α->β):DM fun x y=>c (f x) (f y):=⟨fun _ _=>h.anti _ _,fun _ _ _=>h.eq _ _ _,fun _ _ _=>h.tr _ _ _⟩
theorem DM.flip{α:Type}{c:α->α->Int}(h:DM c):DM fun x y=>c y x:=
 ⟨fun x y=>h.anti y x,fun x y z e=>by
  have a1:=h.anti y x;have a2:=h.anti x z;have d:=h.anti y z;have:=h.eq x y z (by omega);show c z x=c z y;omega,fun x y z a b=>h.tr z y x b a⟩
def SF{α:Type}(c d:α->α->Int)(x y:α):Int:=if c x y=0 then d x y else c x y
theorem DM.lex{α:Type}{c d:α->α->Int}(h:DM c)(k:DM d):DM (SF c d) where
 anti x y:=by
  have a:=h.anti x y;have b:=k.anti x y;unfold SF;by_cases e:c x y=0
  .rw[if_pos e,if_pos (by omega)];exact b
  .rw[if_neg e,if_neg (by omega)];exact a
 eq x y z e:=by
  unfold SF at e⊢;by_cases e1:c x y=0
  .rw[if_pos e1] at e;rw[h.eq x y z e1,k.eq x y z e]
  .rw[if_neg e1] at e;exact absurd e e1
 tr x y z h1 h2:=by
  unfold SF at h1 h2⊢;have a1:=h.anti x y;have a2:=h.anti y z;have i:=h.anti x z;by_cases e1:c x y=0
  .rw[if_pos e1] at h1;have l:=h.eq x y z e1;by_cases f:c y z=0
   .rw[if_pos f] at h2;rw[if_pos (by omega)];exact k.tr x y z h1 h2
   .rw[if_neg f] at h2;rw[if_neg (by omega)];omega
  .rw[if_neg e1] at h1;by_cases f:c y z=0
   .rw[if_pos f] at h2;have m:=h.eq y z x f;rw[if_neg (by omega)];omega
   .rw[if_neg f] at h2;have g:=h.tr x y z h1 h2;rw[if_neg (by omega)];exact g
def vW(x y:Int):Int:=if x<y then -1 else if y<x then 1 else 0
theorem ya:DM vW where
 anti x y:=by unfold vW;(repeat' split)<;>omega
 eq x y z:=by unfold vW;(repeat' split)<;>omega
 tr x y z:=by unfold vW;(repeat' split)<;>omega
theorem SM{x y:Int}(h:vW x y=0):x=y:=by unfold vW at h;(repeat' split at h)<;>omega
def oQ:List Int->List Int->Int
 | [],[]=>0
 | [],_::_=>-1
 |_::_,[]=>1
 |x::xs,y::ys=>if vW x y=0 then oQ xs ys else vW x y
theorem MM:∀xs ys,oQ ys xs=-(oQ xs ys)
 | [],[]=>rfl
 | [],_::_=>rfl
 |_::_,[]=>rfl
 |x::xs,y::ys=>by
  have a:=ya.anti x y;have b:=MM xs ys;simp only[oQ];by_cases e:vW x y=0
  .rw[if_pos e,if_pos (by omega)];exact b
  .rw[if_neg e,if_neg (by omega)];exact a
theorem RT:∀xs ys,oQ xs ys=0->xs=ys
 | [],[],_=>rfl
 | [],_::_,h=>by simp[oQ] at h
 |_::_,[],h=>by simp[oQ] at h
 |x::xs,y::ys,h=>by
  simp only[oQ] at h;by_cases e:vW x y=0
  .rw[if_pos e] at h;rw[SM e,RT xs ys h]
  .rw[if_neg e] at h;exact absurd h e
theorem UJ:∀xs ys zs,oQ xs ys<0->oQ ys zs<0->oQ xs zs<0
 | [],[],_,h,_=>by simp[oQ] at h
 |_::_,[],_,h,_=>by simp[oQ] at h
 |_,_::_,[],_,h=>by simp[oQ] at h
 | [],_::_,_::_,_,_=>by simp[oQ]
 |x::xs,y::ys,z::zs,h1,h2=>by
  simp only[oQ] at h1 h2⊢;have a1:=ya.anti x y;have a2:=ya.anti y z;have c:=ya.anti x z;by_cases e1:vW x y=0
  .rw[if_pos e1] at h1;have d:=ya.eq x y z e1;by_cases a:vW y z=0
   .rw[if_pos a] at h2;rw[if_pos (by omega)];exact UJ xs ys zs h1 h2
   .rw[if_neg a] at h2;rw[if_neg (by omega)];omega
  .rw[if_neg e1] at h1;by_cases a:vW y z=0
   .rw[if_pos a] at h2;have f:=ya.eq y z x a;rw[if_neg (by omega)];omega
   .rw[if_neg a] at h2;have b:=ya.tr x y z h1 h2;rw[if_neg (by omega)];exact b
theorem qax:DM oQ:=⟨MM,fun x y z h=>by rw[RT x y h],UJ⟩
def NI(mode:Int)(p q:qK):Int:=if mode=1 then vW q.Af p.Af else vW p.Af q.Af
def yb(mode:Int):qK->qK->Int:=SF (NI mode) (SF (fun p q=>vW p.Bo q.Bo) fun p q=>oQ p.Bl q.Bl)
theorem qcB(mode:Int):DM (NI mode):=by
 unfold NI;by_cases h:mode=1
 .simp only[h,if_true];exact(ya.comap qK.Af).flip
 .simp only[h,if_false];exact ya.comap qK.Af
theorem YU(mode:Int):DM (yb mode):=(qcB mode).lex ((ya.comap qK.Bo).lex (qax.comap qK.Bl))
theorem qcC{mode:Int}{p q:qK}(h:yb mode p q=0):p=q:=by
 unfold yb SF at h;by_cases e1:NI mode p q=0
 .rw[if_pos e1] at h;by_cases a:vW p.Bo q.Bo=0
  .rw[if_pos a] at h;have b:p.Af=q.Af:=by
    unfold NI at e1;split at e1
    .exact(SM e1).symm
    .exact SM e1
   have c:=SM a;have d:=RT _ _ h;cases p;cases q;simp only at b c d;subst b;subst c;subst d
   rfl
  .rw[if_neg a] at h;exact absurd h a
 .rw[if_neg e1] at h;exact absurd h e1
def NN(n:Nat)(xs:List qK)(mode:Int):Option (List qK):=
 if xs.length<=2147483648/\∀p,p∈(qm.zero:qK)::xs->∀q,q∈(qm.zero:qK)::xs->hU n p q mode=V (yb mode p q) then V (xs.mergeSort (LB (yb mode))) else U
theorem ZL{n:Nat}{xs y:List qK}{mode:Int}(h:NN n xs mode=V y) :
  (xs.length<=2147483648/\∀p,p∈(qm.zero:qK)::xs->∀q,q∈(qm.zero:qK)::xs->hU n p q mode=V (yb mode p q))/\xs.mergeSort (LB (yb mode))=y:=by
 unfold NN at h;split at h
 .rename_i hc;exact⟨hc,Option.some.inj h⟩
 .cases h
theorem WO{n:Nat}{u w:World}{L:List Ch}{S:Nat->Prop}{X y:List qK}{mode:Int}{p:Option Addr}{k c:Nat}(i:Nat)(h:SH u w L)(hi:L[i]?=V (Ch.own S X [.slice p k c]))(M:NN n X mode=V y) :
  XM Tryz.prog 28 [.slice p k c,.int .i64 mode] w fun w'=>∃S',SH u w' (L.set i (Ch.own S' y [.slice p k c])):=by
 obtain⟨⟨K,F⟩,rfl⟩:=ZL M;refine CD Tryz.func28 Z (m:=7) Z Z ?_;refine au ?_;refine ae ?_;refine qJ h Z Z ?_;intro w1 a g;refine ac ?_;refine ae ?_;refine ma qa Z Z ?_;refine ma qa Z Z ?_;have f:=g.mem (i:=0) Z;have o:w1.heap[a]?=V (.cells [Value.int .i64 mode].toArray 2 (0,0)):=f.1;have d:a<w1.heap.size:=(f.2 a Z).2;have r:¬ S a:=by
  have l:=(List.pairwise_cons.1 g.apart).1 _ (jB hi) a Z;exact l
 refine xB (cB 58 Z) (qbp (α:=qK) Tryz.slices_SortFunc_at Z (i+1) g hi [.pointer (V ⟨a,0,U⟩)] (yb mode) (YU mode).swo ?_ K ?_) Z Z Z Z ?_
 .intro x y _ _ g A;have:=(YU mode).anti x y;exact qcC (mode:=mode) (by omega)
 .intro z t b x y B C N O Q R;have s:qm.R z (old z) (V mode) [.pointer (V ⟨a,0,U⟩)]:=
   ⟨a,0,_,_,_,[.int .i64 mode],Z,jx d t,by rw[b a d r];exact o,rI mode,fun j v I=>by simpa using I⟩
  refine(BM Q R s (F x N y O)).mono ?_;rintro e w' ⟨T,rfl,rfl,D,H⟩;exact⟨Z,D,H⟩
 .intro z A;refine ac ?_;exact YY (P:=Tryz.prog) qa (J:=fun w'=>∃S',SH u w' (L.set i (Ch.own S' (X.mergeSort (LB (yb mode))) [.slice p k c]))) ⟨S,A.tail⟩ trivial
end Go.Fw


namespace Go.Fw
open Go Go.Proofs Go.Proofs.Tryz
open Go.RowKit (Below)
open Ch renaming own->oW,box->oX,grp->oG
open qm renaming v->oV
open Go.Value renaming slice->oS
set_option maxRecDepth 100000
set_option maxHeartbeats 6400000
variable{n:Nat}{w:World}{cs1 cs2 cs3 cs4 cs5 cs6 cs7 cs8 cs9:List Value}
def gz(f:Option bC)(node:Int):Nat->Int->Option (eE (ql×Bool) Int)|0,_=>U|n+1,a=>(f).bind fun b=>bif decide (a<(b.j.Ap.length:Int)) then(qF b.j.Ap a).bind fun c=>bif (c.Bn==node) then(qF b.j.Ap a).bind fun d=>V (.ret (d,An)) else gz f node n (qj (a+1)) else V (.nxt a)
def ue(n:Nat)(a:Option bC)(node:Int):Option (ql×Bool):=(gz a node n 0).bind fun|.ret r=>V r|.nxt _=>V ((⟨0,(⟨0,0⟩:qg),(⟨0,0⟩:qg)⟩:ql),Cd)
theorem HA{D:Option bC}{node}(d:Ro w D cs1){r:ql×Bool}(F:ue n D node=V r):qP prog 66 [gv D cs1,vi node] w r:=by
 obtain⟨p1,rfl,s1⟩:=aM d;refine zV 37 func66 Z fun h=>dE (qi qa h Z Z Z fun _ b h=>X0 7 Z ?_);obtain⟨o1,F,c⟩:=qc F;refine qr (rL (fun m e w'=>∃y,gz D node m y=V o1/\e=[(0,.pointer p1),(1,vi node),(4,vp b),(6,vi y)]/\SH w w' [oX b N9 122]) n ⟨_,F,Z,h⟩ Z ?_);rintro z _ _ ⟨y,F,rfl,h⟩;rcases z with _|z
 .cases F
 refine X0 5 Z ?_;obtain⟨_,x,F⟩:=qc F;obtain⟨_,C,_,rfl,-,t,a⟩:=Cs s1 x;obtain⟨_,_,_,_,_,_,_,_,_,_,_,_,_,_,_,_,_,_,_,_,_,_,_,_,rfl,_,_,_,_,_,_,A,_,_,_,_,_⟩:=EI t;refine EK Z (bN 11 a h Z (X0 3 Z (qp Z F ?_ ?_)))<;>intro F
 .refine X0 9 Z (bN 11 a h Z (cq Z ?_));obtain⟨_,_,F,i,_,_,_,_,l,p,u,f⟩:=A.ix F;obtain rfl:=aB u;refine fG l p i Z (cq Z (bN 0 f h Z (X0 3 Z (qp Z F ?_ ?_))))<;>intro F
  .refine X0 6 Z (bN 11 a h Z (cq Z ?_));obtain⟨B,_,F,k,_,_,_,_,o,s,v,g⟩:=A.ix F;obtain rfl:=aB v;refine fG o s k Z (bN 0 g h Z (zs 0 h Z fun _ h=>X0 2 Z ?_));cases qe F;have F:=c;cases qe F;exact aq qa (ρ:=(ql×Bool)) [oV ql (nk B),oV Bool [.bool An]] h ⟨⟨_,_,_,Z,Z,h.box 0 Z,Z⟩,Z,G⟩ (Cq h (ai h (lT (S:=fun _=>False) (dw B)) ul (by rfl)))
  exact X0 7 Z (rK ⟨_,F,Z,h⟩ Z)
 refine qx Z ?_;cases qe F;have F:=c;refine dE (dK (qC qa [] [] z8) Z (zs 0 h Z fun _ h=>X0 2 Z ?_));cases qe F;exact aq qa (ρ:=(ql×Bool)) [oV ql N9,oV Bool [.bool Cd]] h ⟨⟨_,_,_,Z,Z,h.box 0 Z,Z⟩,Z,G⟩ (Cq h (ai h (lT (S:=fun _=>False) (dw (⟨0,(⟨0,0⟩:qg),(⟨0,0⟩:qg)⟩:ql))) ul (by rfl)))
def ft(b:bC)(d:List Int)(f:Int):Nat->Int->Int->Option (Int×Int)|0,_,_=>U|n+1,c,a=>bif decide (a<(b.links.length:Int)) then((qF b.live a).bind fun i=>bif i then(qF b.links a).bind fun k=>V (k.To==f) else V Cd).bind fun b3=>bif b3 then(qF b.links a).bind fun h=>(qF d h.Bk).bind fun g=>ft b d f n (if (qj (c+g))<1000000 then(qj (c+g)) else 1000000) (qj (a+1)) else ft b d f n c (qj (a+1)) else V (c,a)
def kp(Ce:Option bC)(f:bC)(d:List Int):Nat->(List Int)->Int->Option ((List Int)×Int)|0,_,_=>U|n+1,b,a=>bif decide (a<(d.length:Int)) then(qF d a).bind fun c=>(ue n Ce c).bind fun(_,i)=>(bif i then V 1 else V 0).bind fun g=>(ft f b c n g 0).bind fun(h,_)=>(qF b c).bind fun _=>kp Ce f d n (ak b c h) (qj (a+1)) else V (b,a)
def nS(n:Nat)(Ce:Option bC):Option (List Int):=(Ce).bind fun a=>(bT n (⟨(⟨a.j.Ac.Ar.Au⟩:qB),(⟨a.j.Ac.Aa.Ab,a.j.Ac.Aa.Am,a.j.Ac.Aa.Ai⟩:qk),a.j.Ac.Ah⟩:qf)).bind fun r1=>(xY r1 (0:Int)).bind fun x1=>(bT n (⟨(⟨a.j.Ac.Ar.Au⟩:qB),(⟨a.j.Ac.Aa.Ab,a.j.Ac.Aa.Am,a.j.Ac.Aa.Ai⟩:qk),a.j.Ac.Ah⟩:qf)).bind fun b=>(oK n b a.links a.live).bind fun(c,_)=>(kp Ce a c n x1 0).bind fun(d,_)=>V d
theorem xN{Ce:Option bC}(T:Ro w Ce cs1){r:List Int}(F:nS n Ce=V r):qP prog 33 [gv Ce cs1] w r:=by
 obtain⟨_,rfl,s1⟩:=aM T;refine zV 101 func33 Z fun h=>X0 7 Z ?_;obtain⟨y1,d1,F⟩:=qc F;obtain⟨b1,g,_,rfl,-,c3,a⟩:=Cs s1 d1;obtain⟨_,_,_,_,_,_,_,_,_,_,_,_,_,_,_,_,_,_,_,_,_,_,_,_,rfl,s2,s3,s4,s5,s6,_,_,s9,L,_,_,_⟩:=EI c3;refine EK Z (bN 0 a h Z (mN h F (dL (sK _ (h.oldS s2) (h.oldS s3) (h.oldS s4) (h.oldS s5) (h.oldS s6))) Z fun _ _ h F=>?_));obtain⟨x1,i,F⟩:=qc F;obtain⟨g1,g2,i⟩:=aL i;refine bv qa Int h z9 g1 g2 i Z fun _ S1 c h=>X0 3 Z (rA [] [] h Z fun _ h=>M0 15 [0,1,2,3] (h.p [] Z) Z (Al 4 31 0 a (h.p [] Z) Z (M0 479 [6,7,8] (h.p [] Z) Z (Al 9 991 12 a (h.p [] Z) Z (M0 8159 [10,11,12] (h.p [] Z) Z (Al 13 16351 13 a (h.p [] Z) Z (Ao 5 16383 Z (mN h F (dL (sK _ (h.oldS s2) (h.oldS s3) (h.oldS s4) (h.oldS s5) (h.oldS s6))) Z fun _ _ h F=>Ag (h.p [] Z) (Ao 14 32767 Z ?_)))))))));obtain⟨⟨f,r5⟩,c4,F⟩:=qc F;refine bG (f,r5) h (cB 65 Z) (yP ⟨_,_,Z,(h.oldS s9)⟩ ⟨_,_,Z,(h.oldS L)⟩ c4) Z Z Z Z fun _ _ _ c8 c5=>?_;obtain⟨M,_,d,b,_,rfl,c9,c6⟩:=c8.consL c5;obtain⟨rfl,h⟩:=c9.lastB c6;refine G0 1048575 [15,16,17,18,19] (h.p [] Z) Z (Ad (X0 5 Z ?_));obtain⟨o1,F,R⟩:=qc F;refine qr (rL (fun m e w'=>∃k l,kp Ce y1 f m k l=V o1/\e=[(0,.pointer (V ⟨b1,g,U⟩)),(3,oS c x1.length x1.length),(4,oL d f b),(6,vi l)]/\SH w w' [oW M (f:List Int) [oL d f b],oW S1 (k:List Int) [oS c x1.length x1.length]]) n ⟨_,_,F,Z,h⟩ Z ?_);rintro m1 _ _ ⟨k,l,F,rfl,h⟩;rcases m1 with _|m1
 .cases F
 refine X0 8 Z (qp Z F ?_ ?_)<;>intro F
 .refine X0 7 Z ?_;obtain⟨O,_,F,x,_,_,_,_,a8,b7,rfl,W⟩:=(h.sl 0 Z).1.ix F;refine zx a8 b7 ⟨x.1,qD x.2.1 (h.sl 0 Z).2⟩ Z (zc 0 W Z (X0 10 Z ?_));obtain⟨⟨r7,r8⟩,c7,F⟩:=qc F;refine bG (r7,r8) h (cB 66 Z) (HA (h.old s1) c7) Z Z Z Z fun _ _ _ d0 C=>?_;obtain⟨_,_,_,_,rfl,J,D⟩:=d0.cons C;obtain rfl:=aB (J.sh.own 0 Z);obtain⟨rfl,h⟩:=J.lastB D;refine EK Z (qi qa h Z Z Z fun _ _ h=>zs 0 h Z fun _ h=>X0 7 Z ?_);obtain⟨Q,u,_,F,p⟩:=bindE F;refine bd (fun e w'=>∃i2,Q i2=V o1/\e=[(0,.pointer (V ⟨b1,g,U⟩)),(3,oS c x1.length x1.length),(4,oL d f b),(6,vi l),(7,vi O),(8,vi i2)]/\SH w w' [oW M (f:List Int) [oL d f b],oW S1 (k:List Int) [oS c x1.length x1.length]]) ?_ ?_
  .refine qp Z F ?_ ?_<;>intro F
   .refine X0 3 Z ?_;have h:=h.p [2,3] Z;exact rH F p h Z
   refine ez ?_;have h:=h.p [2,3] Z;exact rH F p h Z
  rintro _ _ ⟨i2,F,rfl,h⟩;subst u;refine X0 5 Z ?_;obtain⟨o2,F,S⟩:=qc F;refine qr (rL (fun m e w'=>∃K N,ft y1 k O m K N=V o2/\e=[(0,.pointer (V ⟨b1,g,U⟩)),(3,oS c x1.length x1.length),(4,oL d f b),(6,vi l),(7,vi O),(8,vi K),(11,vi N)]/\SH w w' [oW M (f:List Int) [oL d f b],oW S1 (k:List Int) [oS c x1.length x1.length]]) m1 ⟨_,_,F,Z,h⟩ Z ?_);rintro m2 _ _ ⟨K,N,F,rfl,h⟩;rcases m2 with _|m2
  .cases F
  refine X0 7 Z (bN 12 a h Z (X0 3 Z (qp Z F ?_ ?_)))<;>intro F
  .refine X0 4 Z ?_;obtain⟨P,s,_,F,o⟩:=bindE F;refine bd (fun e w'=>∃b3,P b3=V o2/\e=[(0,.pointer (V ⟨b1,g,U⟩)),(3,oS c x1.length x1.length),(4,oL d f b),(6,vi l),(7,vi O),(8,vi K),(11,vi N),(81,.bool b3)]/\SH w w' [oW M (f:List Int) [oL d f b],oW S1 (k:List Int) [oS c x1.length x1.length]]) ?_ ?_
   .refine X0 4 Z (bN 13 a h Z (cq Z ?_));obtain⟨_,_,F,a6,_,_,_,_,b5,c0,rfl,a3⟩:=L.ix F;refine fG b5 c0 a6 Z (bN 0 a3 h Z (cq Z (qh (t:=70) F Z ?_ ?_)))<;>intro F
    .refine X0 7 Z (bN 12 a h Z (X0 3 Z ?_));obtain⟨_,_,F,a7,_,_,_,_,b6,c2,I,a4⟩:=s9.ix F;obtain rfl:=aA I;refine fG b6 c2 a7 Z (X0 3 Z (bN 1 a4 h Z (X0 6 Z ?_)));exact rH F o h Z
    refine X0 12 Z ?_;exact rH F o h Z
   rintro _ _ ⟨b3,F,rfl,h⟩;subst s;refine qp Z F ?_ ?_<;>intro F
   .refine X0 6 Z (bN 12 a h Z (cq Z ?_));obtain⟨_,_,F,a5,_,_,_,_,a9,b8,H,X⟩:=s9.ix F;obtain rfl:=aA H;refine fG a9 b8 a5 Z (cq Z (bN 0 X h Z ?_));obtain⟨_,_,F,y,_,_,_,_,b4,b9,rfl,Y⟩:=(h.sl 1 Z).1.ix F;exact zx b4 b9 ⟨y.1,qD y.2.1 (h.sl 1 Z).2⟩ Z (zc 0 Y Z (X0 10 Z (rK ⟨_,_,F,Z,h⟩ Z)))
   exact X0 7 Z (rK ⟨_,_,F,Z,h⟩ Z)
  refine qx Z ?_;cases qe F;have F:=S;refine X0 4 Z ?_;obtain⟨_,d3,F,z,_,_,_,_,A,B,rfl,v⟩:=(h.sl 1 Z).1.ix F;exact zx A B ⟨z.1,qD z.2.1 (h.sl 1 Z).2⟩ Z (bK qa 1 0 K h Z d3 A B Z v Z Z Z Z Z Z Z fun _ h=>X0 7 Z (rK ⟨_,_,F,Z,h⟩ Z))
 refine qx Z ?_;cases qe F;have F:=R;refine X0 5 Z ?_;cases qe F;exact rO 1 h Z ⟨Z,G⟩
def dx(f:aS)(c:Int)(d:List Int):Nat->(List Int)->Int->Option ((List Int)×Int)|0,_,_=>U|n+1,a,b=>bif decide (b<(d.length:Int)) then(qF d b).bind fun i=>(qF a c).bind fun g=>(f.view).bind fun k=>(qF k.links i).bind fun l=>(qF a l.Bk).bind fun h=>(qF a c).bind fun _=>dx f c d n (ak a c (if 1000000<(qj (g+h)) then 1000000 else(qj (g+h)))) (qj (b+1)) else V (a,b)
def eG(c:aY)(g:aS):Nat->(List Int)->Int->Option ((List Int)×Int)|0,_,_=>U|n+1,b,d=>bif decide (d<(c.order.length:Int)) then(qF c.order d).bind fun a=>(fB n c.job.Ap a).bind fun(_,h)=>(bif h then(qF b a).bind fun f=>(qF b a).bind fun _=>V (ak b a (qj (f+1))) else V b).bind fun k=>(oH n c.graph a).bind fun i=>(dx g a i n k 0).bind fun(l,_)=>eG c g n l (qj (d+1)) else V (b,d)
def gB(n:Nat)(Ce:Option aY)(Cf:Int):Option Int:=(Ce).bind fun b=>(b.graph).bind fun c=>(eC n c.view).bind fun r1=>(xY r1 (0:Int)).bind fun x1=>(eG b c n x1 0).bind fun(d,_)=>(qF d Cf).bind fun a=>V a
theorem tI{Ce:Option aY}{Cf}(a6:Ro w Ce cs1){r:Int}(F:gB n Ce Cf=V r):qP prog 24 [gv Ce cs1,vi Cf] w r:=by
 obtain⟨_,rfl,s1⟩:=aM a6;refine zV 90 func24 Z fun h=>X0 7 Z ?_;obtain⟨i,d5,F⟩:=qc F;obtain⟨b1,f,_,rfl,-,c8,b⟩:=Cs s1 d5;obtain⟨_,_,_,_,_,_,_,_,_,_,_,_,_,_,_,_,_,_,_,_,_,g,d,rfl,s2,_,_,_,_,_,_,s9,_,_,_,s13⟩:=sM c8;refine lY Z (bN 0 b h Z ?_);obtain⟨y2,d6,F⟩:=qc F;obtain⟨_,o_2,_,rfl,-,c9,u⟩:=Cs s2 d6;obtain⟨_,_,_,rfl,Y,_⟩:=fo c9;refine lY Z (bN 0 u h Z (mN h F (hZ (h.old Y)) Z fun _ w1 h F=>?_));obtain⟨x1,c,F⟩:=qc F;obtain⟨g1,g2,c⟩:=aL c;refine bv qa Int h z9 g1 g2 c Z fun _ S1 a h=>X0 8 Z (bN 16 b h Z (X0 3 Z ?_));obtain⟨o1,F,a4⟩:=qc F;refine qr (rL (fun m e w'=>∃x2 S,eG i y2 m x2 S=V o1/\e=[(0,.pointer (V ⟨b1,f,U⟩)),(1,vi Cf),(5,oS a x1.length x1.length),(24,oL g i.order d),(25,vi (i.order.length:Int)),(26,vi S)]/\SH w w' [oW S1 (x2:List Int) [oS a x1.length x1.length]]) n ⟨_,_,F,Z,h⟩ Z ?_);rintro m1 _ _ ⟨x2,S,F,rfl,h⟩;rcases m1 with _|m1
 .cases F
 refine X0 5 Z (qp Z F ?_ ?_)<;>intro F
 .refine lN ?_;obtain⟨y3,_,F,b5,_,_,_,_,b7,c3,rfl,a7⟩:=s13.ix F;refine fG b7 c3 b5 Z (bN 0 a7 h Z (X0 9 Z (bN 12 b h Z (cq Z ?_))));obtain⟨⟨r3,r4⟩,d0,F⟩:=qc F;refine bG (r3,r4) h (cB 52 Z) (nE ⟨_,_,Z,(h.oldS s9)⟩ d0) Z Z Z Z fun _ _ _ d4 d1=>?_;obtain⟨_,_,_,_,rfl,Q,d3⟩:=d4.cons d1;obtain rfl:=aB (Q.sh.own 0 Z);obtain⟨rfl,h⟩:=Q.lastB d3;refine EK Z (qi qa h Z Z Z fun _ _ h=>zs 0 h Z fun _ h=>X0 6 Z ?_);obtain⟨a3,l,_,F,k⟩:=bindE F;refine bd (fun e w'=>∃x3,a3 x3=V o1/\e=[(0,.pointer (V ⟨b1,f,U⟩)),(1,vi Cf),(5,oS a x1.length x1.length),(7,vi y3),(24,oL g i.order d),(25,vi (i.order.length:Int)),(26,vi S)]/\SH w w' [oW S1 (x3:List Int) [oS a x1.length x1.length]]) ?_ ?_
  .refine qp Z F ?_ ?_<;>intro F
   .refine X0 3 Z ?_;obtain⟨y10,_,F,A,_,_,_,_,c0,c6,rfl,p⟩:=(h.sl 2 Z).1.ix F;refine zx c0 c6 ⟨A.1,qD A.2.1 (h.sl 2 Z).2⟩ Z (zc 0 p Z (cq Z ?_));obtain⟨_,R,F,B,_,_,_,_,J,N,rfl,s⟩:=(h.sl 2 Z).1.ix F;refine zx J N ⟨B.1,qD B.2.1 (h.sl 2 Z).2⟩ Z (bK qa 2 0 (qj (y10+1)) h Z R J N Z s Z Z Z Z Z Z Z fun _ h=>ac ?_);have h:=h.p [2] Z;exact rH F k h Z
   refine ez ?_;have h:=h.p [2] Z;exact rH F k h Z
  rintro _ _ ⟨x3,F,rfl,h⟩;subst l;refine X0 5 Z (bN 0 b h Z (cq Z (uj h F (uz (h.old s2)) Z fun X _ S6 W T h F=>X0 3 Z ?_)));obtain⟨o2,F,a5⟩:=qc F;refine qr (rL (fun m e w'=>∃x4 i2,dx y2 y3 X m x4 i2=V o2/\e=[(0,.pointer (V ⟨b1,f,U⟩)),(1,vi Cf),(5,oS a x1.length x1.length),(7,vi y3),(24,oL g i.order d),(25,vi (i.order.length:Int)),(26,vi S),(52,oL W X T),(53,vi (X.length:Int)),(54,vi i2)]/\SH w w' [oW S6 (X:List Int) [oL W X T],oW S1 (x4:List Int) [oS a x1.length x1.length]]) m1 ⟨_,_,F,Z,h⟩ Z ?_);rintro m2 _ _ ⟨x4,i2,F,rfl,h⟩;rcases m2 with _|m2
  .cases F
  refine X0 5 Z (qp Z F ?_ ?_)<;>intro F
  .refine lN ?_;obtain⟨_,_,F,v,_,_,_,_,b8,c4,rfl,a8⟩:=(h.sl 0 Z).1.ix F;refine zx b8 c4 ⟨v.1,qD v.2.1 (h.sl 0 Z).2⟩ Z (zc 0 a8 Z (X0 2 Z (rA [26] [1] h Z fun _ h=>M0 15 [0,1,2,3] (h.p [1] Z) Z ?_)));obtain⟨y5,d7,F,x,_,_,_,_,D,K,rfl,_⟩:=(h.sl 1 Z).1.ix F;refine Ax 4 31 D K ⟨x.1,qD x.2.1 (h.sl 1 Z).2⟩ (h.p [1] Z) Z (Aw 5 63 (fun w' hw=>cR qa (qQ (w1:=w) (S1:=fun _=>False) hw 0 Z d7 D K Z) (j:=0) Z Z Z) (h.p [1] Z) Z ?_);refine M0 1023 [6,7,8,9] (h.p [1] Z) Z (Al 10 2047 0 b (h.p [1] Z) Z (M0 8191 [11,12] (h.p [1] Z) Z (Al 13 16383 0 u (h.p [1] Z) Z ?_)));obtain⟨_,d8,F⟩:=qc F;obtain⟨_,o_6,_,rfl,-,O,a9⟩:=Cs Y d8;obtain⟨_,_,_,_,_,_,_,_,_,_,_,_,_,_,_,_,_,_,_,_,rfl,_,_,_,_,_,_,s22,_,_,_⟩:=cJ O;refine M0 65535 [14,15] (h.p [1] Z) Z (Al 16 131071 6 a9 (h.p [1] Z) Z (M0 262143 [17] (h.p [1] Z) Z ?_));obtain⟨_,_,F,b6,_,_,_,_,b9,c5,P,b4⟩:=s22.ix F;obtain rfl:=aA P;refine Ae 18 524287 b9 c5 b6 (h.p [1] Z) Z (M0 1048575 [19] (h.p [1] Z) Z (Al 20 2097151 0 b4 (h.p [1] Z) Z ?_));obtain⟨y8,d9,F,y,_,_,_,_,H,L,rfl,_⟩:=(h.sl 1 Z).1.ix F;refine Ax 21 4194303 H L ⟨y.1,qD y.2.1 (h.sl 1 Z).2⟩ (h.p [1] Z) Z (Aw 22 8388607 (fun w' hw=>cR qa (qQ (w1:=w) (S1:=fun _=>False) hw 0 Z d9 H L Z) (j:=0) Z Z Z) (h.p [1] Z) Z ?_);refine M0 33554431 [23,24] (h.p [1] Z) Z ?_;obtain⟨_,e2,F,z,_,_,_,_,I,M,rfl,o⟩:=(h.sl 1 Z).1.ix F;exact Ax 25 67108863 I M ⟨z.1,qD z.2.1 (h.sl 1 Z).2⟩ (h.p [1] Z) Z (Ao 26 134217727 Z (bK qa 1 0 (if 1000000<(qj (y5+y8)) then 1000000 else(qj (y5+y8))) h Z e2 I M Z o Z Z Z Z Z Z Z fun _ h=>bL (fun hs=>absurd (hs 26 (by decide)) (by decide)) (Ad (X0 5 Z (rK ⟨_,_,F,Z,h⟩ Z)))))
  refine qx Z ?_;cases qe F;have F:=a5;refine X0 5 Z ?_;exact rK ⟨_,_,F,Z,h.p [1] Z⟩ Z
 refine qx Z ?_;cases qe F;have F:=a4;refine X0 4 Z ?_;obtain⟨_,_,F,C,_,_,_,_,c2,c7,rfl,t⟩:=(h.sl 0 Z).1.ix F;exact zx c2 c7 ⟨C.1,qD C.2.1 (h.sl 0 Z).2⟩ Z (zc 0 t Z (X0 2 Z (ri h F Z)))
def ke(Cg:List Int)(a:aY):Nat->(List qg)->Int->Int->Int->Option ((List qg)×Int×Int×Int)|0,_,_,_,_=>U|n+1,x1,d,f,b=>bif decide (b<(Cg.length:Int)) then(qF Cg b).bind fun g=>(a.graph).bind fun h=>(h.view).bind fun l=>(qF l.links g).bind fun m=>(qF a.timing.Bb m.Bk).bind fun p=>(me n h.view (⟨a.job.Aj.Bh,a.job.Aj.Ba,a.job.Aj.Bd,a.job.Aj.Ay,a.job.Aj.Bc⟩:qG) g p).bind fun(i,_)=>(pv n (⟨d,f⟩:qg) i).bind fun c=>(dj x1 ([c]:List qg)).bind fun k=>ke Cg a n k c.As c.Be (qj (b+1)) else V (x1,d,f,b)
def tJ(n:Nat)(Ce:Option aY)(Cf:Int)(Cg:List Int):Option (List qg):=(Ce).bind fun b=>(fB n b.job.Ap Cf).bind fun(a,_)=>(ke Cg b n ([(⟨a.Af.As,a.Af.Be⟩:qg)]:List qg) a.Af.As a.Af.Be 0).bind fun(x1,_,_,_)=>V x1
theorem GA{Ce:Option aY}{Cf}{Cg:List Int}(a4:Ro w Ce cs1)(a5:Ro w Cg cs2){r:List qg}(F:tJ n Ce Cf Cg=V r):qP prog 57 [gv Ce cs1,vi Cf,gv Cg cs2] w r:=by
 obtain⟨_,rfl,s1⟩:=aM a4;obtain⟨p2,k1,rfl,s2⟩:=a5;refine zV 82 func57 Z fun h=>X0 7 Z ?_;obtain⟨y1,d3,F⟩:=qc F;obtain⟨b1,Q,_,rfl,-,c4,u⟩:=Cs s1 d3;obtain⟨_,_,_,_,_,_,_,_,_,_,_,_,_,_,_,_,_,_,_,_,_,_,_,rfl,s3,_,_,_,_,_,_,s10,_,_,s13,_⟩:=sM c4;refine EK Z (bN 12 u h Z (cq Z ?_));obtain⟨⟨r2,r3⟩,c5,F⟩:=qc F;refine bG (r2,r3) h (cB 52 Z) (nE ⟨_,_,Z,(h.oldS s10)⟩ c5) Z Z Z Z fun _ _ _ d1 c6=>?_;obtain⟨_,_,_,_,rfl,P,c7⟩:=d1.cons c6;obtain rfl:=aB (P.sh.own 0 Z);obtain⟨rfl,h⟩:=P.lastB c7;refine EK Z (qi qa h Z Z Z fun _ _ h=>zs 0 h Z fun _ h=>X1 6 0 h Z (qi qa h Z Z Z fun _ I h=>zs 0 h Z fun _ h=>X1 4 0 h Z (qv qa [.tmp 27] _ ([r2.Af]:List qg) h z9 ⟨(qI r2.Af),G⟩ Z fun _ _ _ h=>X0 9 Z ?_)));obtain⟨o1,F,a3⟩:=qc F;refine qr ?_;have h:=h.p [0,1] Z;refine rL (fun m e w'=>∃S6 x L v x1 W X Y,ke Cg y1 m x1 W X Y=V o1/\e=[(0,.pointer (V ⟨b1,Q,U⟩)),(9,vp I),(10,oS x L v),(29,oL p2 Cg k1),(30,vi (Cg.length:Int)),(31,vi Y)]/\SH w w' [oW S6 (x1:List qg) [oS x L v],oX I [vi W,vi X] 59]) n ⟨_,_,_,_,_,_,_,_,F,Z,h⟩ Z ?_;rintro m1 _ _ ⟨S6,x,L,v,x1,W,X,Y,F,rfl,h⟩;obtain rfl:=(h.sl 0 Z).2;rcases m1 with _|m1
 .cases F
 refine X0 5 Z (qp Z F ?_ ?_)<;>intro F
 .refine lN ?_;obtain⟨_,_,F,b4,_,_,_,_,b7,c0,rfl,a6⟩:=s2.ix F;refine fG b7 c0 b4 Z (bN 0 a6 h Z (X0 3 Z (rA [] [] h Z fun _ h=>M0 7 [0,1,2] (h.p [] Z) Z (Al 3 15 0 u (h.p [] Z) Z ?_))));obtain⟨_,d4,F⟩:=qc F;obtain⟨_,o_3,_,rfl,-,c8,N⟩:=Cs s3 d4;obtain⟨_,_,_,rfl,p,_⟩:=fo c8;refine M0 63 [4,5] (h.p [] Z) Z (Al 6 127 0 N (h.p [] Z) Z (M0 2047 [7,8,9,10] (h.p [] Z) Z (Al 11 4095 6 u (h.p [] Z) Z (M0 131071 [12,13,14,15,16] (h.p [] Z) Z (Al 17 262143 15 u (h.p [] Z) Z (M0 2097151 [18,19,20] (h.p [] Z) Z (Al 21 4194303 0 u (h.p [] Z) Z (M0 16777215 [22,23] (h.p [] Z) Z (Al 24 33554431 0 N (h.p [] Z) Z ?_)))))))));obtain⟨_,d5,F⟩:=qc F;obtain⟨_,o_4,_,rfl,-,c9,a7⟩:=Cs p d5;obtain⟨_,_,_,_,_,_,_,_,_,_,_,_,_,_,_,_,_,_,_,_,rfl,_,_,_,_,_,_,s23,_,_,_⟩:=cJ c9;refine M0 134217727 [25,26] (h.p [] Z) Z (Al 27 268435455 6 a7 (h.p [] Z) Z (M0 536870911 [28] (h.p [] Z) Z ?_));obtain⟨_,_,F,b5,_,_,_,_,b8,c2,d0,a8⟩:=s23.ix F;obtain rfl:=aA d0;refine Ae 29 1073741823 b8 c2 b5 (h.p [] Z) Z (M0 2147483647 [30] (h.p [] Z) Z (Al 31 4294967295 0 a8 (h.p [] Z) Z ?_));obtain⟨T,_,F,b6,_,_,_,_,b9,c3,O,a9⟩:=s13.ix F;obtain rfl:=qA O;refine Ae 32 8589934591 b9 c3 b6 (h.p [] Z) Z (Al 33 17179869183 0 a9 (h.p [] Z) Z ?_);obtain⟨⟨M,R⟩,g,F⟩:=qc F;refine sg (fun e w'=>∃t,e=[(0,.pointer (V ⟨b1,Q,U⟩)),(10,oL x x1 v),(13,vp t),(29,oL p2 Cg k1),(30,vi (Cg.length:Int)),(31,vi Y),(9,vp I)]/\SH w w' [oX t (oP M) 59,oW S6 (x1:List qg) [oL x x1 v],oX I [vi W,vi X] 59]) 0 (bits 42 4398046511103) ?_ ?_
  .intro K;refine pS 34 38 39 Z Z Z (bits 42 34359738367) (bits 42 292057776127) (bits 42 566935683071) (by kernel_rfl) (by kernel_rfl) (by kernel_rfl) (by kernel_rfl) ?_ ?_ ?_
   .refine bG (M,R) h (cB 99 Z) (cI (h.old p) (mD _) (qI T) g) Z Z Z Z fun S C l d b=>?_;obtain⟨D,H,i,o,rfl,a,c⟩:=d.cons b;obtain rfl:=qA (a.sh.own 0 Z);obtain⟨k,rfl,h⟩:=a.last c;obtain rfl:=qA (h.own 0 Z);refine G0 274877906943 [35,36,37] (h.p [] Z) Z (At 38 39 549755813887 824633720831 Z ?_ ?_)
    .refine qi qa h Z Z Z fun y s h=>Ag (h.p [] Z) (Ao 39 1099511627775 Z (qi qa h Z Z Z fun z f h=>Ag (h.p [] Z) (Ao 40 2199023255551 Z (zs 1 h Z fun A h=>Ag (h.p [] Z) (Ao 41 4398046511103 Z (zs 0 h Z fun B h=>Ag (h.p [] Z) ?_))))));have h:=h.p [1,4,5] Z;exact aK K ⟨_,Z,h⟩ Z
    refine qi qa h Z Z Z fun y s h=>Ag (h.p [] Z) (Ao 38 1099511627775 Z (qi qa h Z Z Z fun z f h=>Ag (h.p [] Z) (Ao 40 2199023255551 Z (zs 0 h Z fun A h=>Ag (h.p [] Z) (Ao 41 4398046511103 Z (zs 1 h Z fun B h=>Ag (h.p [] Z) ?_))))));have h:=h.p [0,4,5] Z;exact aK K ⟨_,Z,h⟩ Z
   .refine qi qa h Z Z Z fun S s h=>Ag (h.p [] Z) (At 34 39 309237645311 841813590015 Z ?_ ?_)
    .refine bG (M,R) h (cB 99 Z) (cI (h.old p) (mD _) (qI T) g) Z Z Z Z fun y C l d b=>?_;obtain⟨D,H,i,o,rfl,a,c⟩:=d.cons b;obtain rfl:=qA (a.sh.own 0 Z);obtain⟨k,rfl,h⟩:=a.last c;obtain rfl:=qA (h.own 0 Z);refine G0 549755813887 [35,36,37] (h.p [] Z) Z (Ao 39 1099511627775 Z (qi qa h Z Z Z fun z f h=>Ag (h.p [] Z) (Ao 40 2199023255551 Z (zs 3 h Z fun A h=>Ag (h.p [] Z) (Ao 41 4398046511103 Z (zs 0 h Z fun B h=>Ag (h.p [] Z) ?_))))));have h:=h.p [3,4,5] Z;exact aK K ⟨_,Z,h⟩ Z
    refine qi qa h Z Z Z fun y f h=>Ag (h.p [] Z) (Ao 34 858993459199 Z (bG (M,R) h (cB 99 Z) (cI (h.old p) (mD _) (qI T) g) Z Z Z Z fun z C l d b=>?_));obtain⟨D,H,i,o,rfl,a,c⟩:=d.cons b;obtain rfl:=qA (a.sh.own 0 Z);obtain⟨k,rfl,h⟩:=a.last c;obtain rfl:=qA (h.own 0 Z);refine G0 1099511627775 [35,36,37] (h.p [] Z) Z (Ao 40 2199023255551 Z (zs 3 h Z fun A h=>Ag (h.p [] Z) (Ao 41 4398046511103 Z (zs 2 h Z fun B h=>Ag (h.p [] Z) ?_))));have h:=h.p [3,4,5] Z;exact aK K ⟨_,Z,h⟩ Z
   refine qi qa h Z Z Z fun S s h=>Ag (h.p [] Z) (At 34 38 584115552255 841813590015 Z ?_ ?_)
   .refine bG (M,R) h (cB 99 Z) (cI (h.old p) (mD _) (qI T) g) Z Z Z Z fun y C l d b=>?_;obtain⟨D,H,i,o,rfl,a,c⟩:=d.cons b;obtain rfl:=qA (a.sh.own 0 Z);obtain⟨k,rfl,h⟩:=a.last c;obtain rfl:=qA (h.own 0 Z);refine G0 824633720831 [35,36,37] (h.p [] Z) Z (Ao 38 1099511627775 Z (qi qa h Z Z Z fun z f h=>Ag (h.p [] Z) (Ao 40 2199023255551 Z (zs 0 h Z fun A h=>Ag (h.p [] Z) (Ao 41 4398046511103 Z (zs 3 h Z fun B h=>Ag (h.p [] Z) ?_))))));have h:=h.p [0,4,5] Z;exact aK K ⟨_,Z,h⟩ Z
   refine qi qa h Z Z Z fun y f h=>Ag (h.p [] Z) (Ao 34 858993459199 Z (bG (M,R) h (cB 99 Z) (cI (h.old p) (mD _) (qI T) g) Z Z Z Z fun z C l d b=>?_));obtain⟨D,H,i,o,rfl,a,c⟩:=d.cons b;obtain rfl:=qA (a.sh.own 0 Z);obtain⟨k,rfl,h⟩:=a.last c;obtain rfl:=qA (h.own 0 Z);refine G0 1099511627775 [35,36,37] (h.p [] Z) Z (Ao 40 2199023255551 Z (zs 2 h Z fun A h=>Ag (h.p [] Z) (Ao 41 4398046511103 Z (zs 3 h Z fun B h=>Ag (h.p [] Z) ?_))));have h:=h.p [2,4,5] Z;exact aK K ⟨_,Z,h⟩ Z
  rintro _ _ ⟨t,rfl,h⟩;refine Ad (X2 4 2 0 h Z (qbE h F (xp (qI _) (qI M)) Z fun r9 _ _ _ h F=>?_));obtain rfl:=qA (h.own 0 Z);refine zs 3 h Z fun _ h=>X1 4 3 h Z (qv qa [.tmp 77] _ ([r9]:List qg) h z9 ⟨(qI r9),G⟩ Z fun _ _ _ h=>?_);obtain⟨_,J,F⟩:=qc F;obtain⟨g3,J⟩:=qH J;refine bo qa 3 h Z (h.sl 0 Z).1 (h.sl 0 Z).2 z9 g3 J Z fun _ _ _ _ h=>X0 7 Z ?_;exact rK ⟨_,_,_,_,_,_,_,_,F,Z,h.p [3,4] Z⟩ Z
 refine qx Z ?_;cases qe F;have F:=a3;refine X0 5 Z ?_;cases qe F;exact rO 0 h Z ⟨Z,G⟩
def gp(n:Nat)(b:Option aY)(start:Int)(links:List Int):Option qg:=(tJ n b start links).bind fun r1=>(qF r1 (links.length:Int)).bind fun a=>V a
theorem rE{l:Option aY}{start}{links:List Int}(b:Ro w l cs1)(c:Ro w links cs2){r:qg}(F:gp n l start links=V r):qP prog 26 [gv l cs1,vi start,gv links cs2] w r:=by
 obtain⟨_,rfl,s1⟩:=aM b;obtain⟨_,_,rfl,s2⟩:=c;refine zV 15 func26 Z fun h=>dE (qi qa h Z Z Z fun _ _ h=>X0 6 Z (uj h F (GA (h.old s1) ⟨_,_,Z,(h.oldS s2)⟩) Z fun _ _ _ _ _ h F=>lY Z ?_));obtain⟨k,_,F,a,_,_,_,_,f,g,i,d⟩:=(h.sl 0 Z).1.ix F;obtain rfl:=qA i;refine zx f g ⟨a.1,qD a.2.1 (h.sl 0 Z).2⟩ Z (zc 0 d Z (zs 1 h Z fun _ h=>ac ?_));obtain rfl:=qe F;exact aq qa (ρ:=qg) [oV qg (oP k)] h ⟨⟨_,_,_,Z,Z,h.box 1 Z,Z⟩,G⟩ (Cq h (pJ (lT (S:=fun _=>False) (qI k))))
def vR(_:Nat)(s:qg)(mode:Int):Option Int:=bif (mode==0) then V s.As else V s.Be
theorem zM{s:qg}{mode}(a:Ro w s cs1){r:Int}(F:vR n s mode=V r):qP prog 27 [gv s cs1,vi mode] w r:=by
 obtain rfl:=qA a;refine zV 11 func27 Z fun h=>dE (qJ h Z Z fun _ _ h=>X0 8 Z (qp Z F ?_ ?_))<;>intro F
 .exact X1 6 0 h Z (ri h F Z)
 exact X1 7 0 h Z (ri h F Z)
def cd(r:Option aY)(tail:List Int)(p:(Option aY)->Int->(List Int)->(List qK)->Option (List qK))(c:aY)(b:List Int):Nat->(List qK)->Int->Option ((List qK)×Int)|0,_,_=>U|n+1,d,a=>bif decide (a<(b.length:Int)) then(qF b a).bind fun f=>(c.graph).bind fun l=>(l.view).bind fun m=>(qF m.links f).bind fun g=>(qF c.timing.Aq g.Bk).bind fun o=>bif o then(ie n tail).bind fun h=>(dj h ([f]:List Int)).bind fun k=>(p r g.Bk k d).bind fun i=>cd r tail p c b n i (qj (a+1)) else cd r tail p c b n d (qj (a+1)) else V (d,a)
def bI:Nat->(Option aY)->Int->(List Int)->(List qK)->Option (List qK)|0,_,_,_,_=>U|n+1,wv,at_,tail,acc=>(wv).bind fun a=>(fB n a.job.Ap at_).bind fun(_,b)=>(bif b then(ie n tail).bind fun d=>(qdn d).bind fun g=>(dj acc ([(⟨at_,g,0⟩:qK)]:List qK)).bind fun h=>V h else V acc).bind fun x1=>(oH n a.graph at_).bind fun c=>(cd wv tail (bI n) a c n x1 0).bind fun(f,_)=>V f
theorem yA{n}:∀{d w:World} {F:List Ch} {a c b:Nat} {pw:Option Addr} {wv:Option aY} {at_:Int} {tail:List Int} {acc:List qK} {S1 S2:Nat->Prop} {p1 x:Option Addr} {g v:Nat} {r:List qK} (_:SH d w (oX c [oL x acc v] 43::oW S2 (acc:List qK) [oL x acc v]::oW S1 (tail:List Int) [oL p1 tail g]::oX a [.pointer pw] 73::oX b [.func (.func 54) #[] #[vp a,vp c,vp b]] 133::F)) (_:ms d (old d) wv pw) (_:bI n wv at_ tail acc=V r),XM prog 54 [vi at_,oL p1 tail g,vp a,vp c,vp b] w (fun w'=>∃S p k,SH d w' (oX c [oL p r k] 43::oW S (r:List qK) [oL p r k]::oW S1 (tail:List Int) [oL p1 tail g]::oX a [.pointer pw] 73::oX b [.func (.func 54) #[] #[vp a,vp c,vp b]] 133::F)):=by
 induction n with
 |zero=>intro d w F a c b pw wv at_ tail acc S1 S2 p1 x g v r h0 hwk hF;rw[bI] at hF;cases hF
 |succ n ih=>
  intro d w F a c b pw wv at_ tail acc S1 S2 p1 x g v r h0 hwk hF;obtain⟨rc,hrc⟩:∃rc,rc=bI n:=⟨_,Z⟩;rw[<-hrc] at ih;have h:=SH.frame [oX c [oL x acc v] 43,oW S2 (acc:List qK) [oL x acc v],oW S1 (tail:List Int) [oL p1 tail g],oX a [.pointer pw] 73,oX b [.func (.func 54) #[] #[vp a,vp c,vp b]] 133] h0;replace h:SH _ _ [oX c [oL x acc v] 43,oW S2 (acc:List qK) [oL x acc v],oW S1 (tail:List Int) [oL p1 tail g],oX a [.pointer pw] 73,oX b [.func (.func 54) #[] #[vp a,vp c,vp b]] 133,oG (old d) (FS F) [same d w F]]:=h;refine CD func54 Z (m:=76) Z Z ?_;unfold bI at hF;rw[<-hrc] at hF;refine X1 4 3 h Z ?_;obtain⟨y1,hy1,hF⟩:=qc hF;obtain⟨b1,H,_,rfl,-,hr1,i⟩:=Cs hwk hy1;obtain⟨_,_,_,_,_,_,_,_,_,_,_,_,_,_,_,_,_,_,_,_,_,_,_,rfl,s1,_,_,_,_,_,_,s8,s9,_,_,_⟩:=sM hr1;refine EK Z (bN 12 i h Z (cq Z ?_));obtain⟨⟨r2,r3⟩,hr2,hF⟩:=qc hF;refine bG (r2,r3) h (cB 52 Z) (nE ⟨_,_,Z,(h.oldS s8)⟩ hr2) Z Z Z Z fun _ _ _ hv1 hr3=>?_;obtain⟨_,_,_,_,rfl,R,hr4⟩:=hv1.cons hr3;obtain rfl:=aB (R.sh.own 0 Z);obtain⟨rfl,h⟩:=R.lastB hr4;refine EK Z (qi qa h Z Z Z fun _ _ h=>zs 0 h Z fun _ h=>X0 6 Z ?_);obtain⟨W,O,_,hF,N⟩:=bindE hF;refine bd (fun e w'=>∃S7 I C z x1,W x1=V r/\e=[(0,vi at_),(1,oL p1 tail g),(2,vp a),(4,vp b)]/\SH d w' [oW S7 (x1:List qK) [oS I C z],oX c [oS I C z] 43,oW S1 (tail:List Int) [oL p1 tail g],oX a [.pointer (V ⟨b1,H,U⟩)] 73,oX b [.func (.func 54) #[] #[vp a,vp c,vp b]] 133,oG (old d) (FS F) [same d w F]]) ?_ ?_
  .refine qp Z hF ?_ ?_<;>intro hF
   .refine X0 3 Z (uj h hF (lU (h.own 4 Z)) Z fun _ _ _ _ _ h hF=>X0 5 Z ?_);obtain⟨x4,hx3,hF⟩:=qc hF;refine xB (cB 56 Z) (qdo Tryz.slices_Reverse_at 0 h Z hx3) Z Z Z Z fun _ h=>X1 5 3 h Z (dK (qC qa [0,1] [.tmp 29,.tmp 30] z8) Z (kh qa [.tmp 31] _ ([(⟨at_,x4,0⟩:qK)]:List qK) [1,2,3,4,5,6,7,8] h Z Z Z Z Z Z Z Z Z (fU (WD (⟨at_,x4,0⟩:qK) h vk (qS 0 h Z) vk (by rfl) (by rfl)) pe Z) Z Z fun _ _ _ h=>?_));obtain⟨_,y,hF⟩:=qc hF;obtain⟨g8,y⟩:=qH y;have h:=h.p [0,4,1,2,3,5,6,7,8] Z;refine zA qa h Z Z Z Z Z Z Z Z Z g8 y Z fun _ _ _ _ h=>zs 3 h Z fun _ h=>ac ?_;have h:=h.p [0,3,4,5,6,7] Z;cases qe hF;exact rG ⟨_,_,_,_,_,N,Z,h⟩ Z
   .refine ez ?_;have h:=h.p [3,2,4,5,6,7] Z;cases qe hF;exact rG ⟨_,_,_,_,_,N,Z,h⟩ Z
  .rintro _ _ ⟨S7,I,C,z,x1,hF,rfl,h⟩;subst O;obtain rfl:=(h.sl 0 Z).2;refine X1 5 3 h Z (bN 0 i h Z (cq Z (uj h hF (uz (h.old s1)) Z fun s _ S8 o l h hF=>X0 3 Z ?_)));obtain⟨o1,hF,hK1⟩:=qc hF;refine qr (rL (fun m e w'=>∃S9 J D A x2 T,cd wv tail rc y1 s m x2 T=V o1/\e=[(1,oL p1 tail g),(2,vp a),(4,vp b),(39,oL o s l),(40,vi (s.length:Int)),(41,vi T)]/\SH d w' [oW S8 (s:List Int) [oL o s l],oW S9 (x2:List qK) [oS J D A],oX c [oS J D A] 43,oW S1 (tail:List Int) [oL p1 tail g],oX a [.pointer (V ⟨b1,H,U⟩)] 73,oX b [.func (.func 54) #[] #[vp a,vp c,vp b]] 133,oG (old d) (FS F) [same d w F]]) n ⟨_,_,_,_,_,_,hF,Z,h⟩ Z ?_);rintro m1 _ _ ⟨S9,J,D,A,x2,T,hF,rfl,h⟩;obtain rfl:=(h.sl 1 Z).2;rcases m1 with _|m1
   .cases hF
   refine X0 5 Z (qp Z hF ?_ ?_)<;>intro hF
   .refine lN ?_;obtain⟨y2,_,hF,P,_,_,_,_,hp1,hq1,rfl,hc3⟩:=(h.sl 0 Z).1.ix hF;refine zx hp1 hq1 ⟨P.1,qD P.2.1 (h.sl 0 Z).2⟩ Z (zc 0 hc3 Z (X1 7 4 h Z (bN 0 i h Z ?_)));obtain⟨_,hy3,hF⟩:=qc hF;obtain⟨_,o_3,_,rfl,-,hr8,hc4⟩:=Cs s1 hy3;obtain⟨_,_,_,rfl,s13,_⟩:=fo hr8;refine lY Z (bN 0 hc4 h Z ?_);obtain⟨_,hy4,hF⟩:=qc hF;obtain⟨_,o_4,_,rfl,-,hr9,hc5⟩:=Cs s13 hy4;obtain⟨_,_,_,_,_,_,_,_,_,_,_,_,_,_,_,_,_,_,_,_,rfl,_,_,_,_,_,_,s21,_,_,_⟩:=cJ hr9;refine lY Z (bN 6 hc5 h Z (cq Z ?_));obtain⟨_,_,hF,he2,_,_,_,_,hp2,hq2,Q,hc6⟩:=s21.ix hF;obtain rfl:=aA Q;refine fG hp2 hq2 he2 Z (cq Z (bN 0 hc6 h Z (X1 8 4 h Z (bN 13 i h Z (cq Z ?_)))));obtain⟨_,_,hF,he3,_,_,_,_,hp3,hq3,rfl,hc7⟩:=s9.ix hF;refine fG hp3 hq3 he3 Z (bN 0 hc7 h Z (ac (qp Z hF ?_ ?_)))<;>intro hF
    .refine rA [] [5] h Z fun _ h=>M1 23 [0,1,2,4] 0 (h.p [5] Z) Z ?_;obtain⟨r5,t,hF⟩:=qc hF;obtain⟨_,f,hF⟩:=qc hF;obtain⟨r6,u,hF⟩:=qc hF;refine sg (fun e w'=>∃M L B,e=[(1,oL p1 tail g),(2,vp a),(39,oL o s l),(4,vp b),(40,vi (s.length:Int)),(41,vi T)]/\SH d w' [oX c [oL L r6 B] 43,oW M (r6:List qK) [oL L r6 B],oX a [.pointer (V ⟨b1,H,U⟩)] 73,oX b [.func (.func 54) #[] #[vp a,vp c,vp b]] 133,oW S8 (s:List Int) [oL o s l],oW S1 (tail:List Int) [oL p1 tail g],oG (old d) (FS F) [same d w F]]) 0 (bits 8 255) ?_ ?_
     .intro K;refine At 3 5 31 55 Z ?_ ?_
      .refine tR r5 h (cB 55 Z) (lU (h.own 3 Z) t) Z Z Z Z fun w35 X p58 k50 h=>Ag (h.p [6] Z) (Ao 5 63 Z (qv qa [.tmp 71] _ ([y2]:List Int) h z9 ⟨Z,G⟩ Z fun w36 p59 Y h=>Ag (h.p [7] Z) (Ao 6 127 Z ?_)));obtain⟨g7,f⟩:=qH f;refine bo qa 1 h Z (h.sl 0 Z).1 (h.sl 0 Z).2 z9 g7 f Z fun w37 p60 k51 a3 h=>Ag (h.p [7] Z) (Ao 7 255 Z ?_);have h:=h.p [4,3,1,6,7,0,2,5,8] Z;refine xB (cB 54 Z) (ih h hwk u) Z Z Z Z ?_;rintro w38 ⟨a4,p61,k52,h⟩;refine Ag (h.p [4] Z) ?_;have h:=h.p [0,1,3,4,6,7,8] Z;exact aK K ⟨_,_,_,Z,h⟩ Z
      .refine qv qa [.tmp 71] _ ([y2]:List Int) h z9 ⟨Z,G⟩ Z fun w35 p58 X h=>Ag (h.p [6] Z) (Ao 3 63 Z (tR r5 h (cB 55 Z) (lU (h.own 4 Z) t) Z Z Z Z fun w36 Y p59 k50 h=>Ag (h.p [7] Z) (Ao 6 127 Z ?_)));obtain⟨g7,f⟩:=qH f;refine bo qa 0 h Z (h.sl 1 Z).1 (h.sl 1 Z).2 z9 g7 f Z fun w37 p60 k51 a3 h=>Ag (h.p [7] Z) (Ao 7 255 Z ?_);have h:=h.p [4,3,0,6,7,1,2,5,8] Z;refine xB (cB 54 Z) (ih h hwk u) Z Z Z Z ?_;rintro w38 ⟨a4,p61,k52,h⟩;refine Ag (h.p [4] Z) ?_;have h:=h.p [0,1,3,4,6,7,8] Z;exact aK K ⟨_,_,_,Z,h⟩ Z
     .rintro _ _ ⟨M,L,B,rfl,h⟩;refine Ad (X0 5 Z ?_);exact rK ⟨_,_,_,_,_,_,hF,Z,h.p [4,1,0,5,2,3,6] Z⟩ Z
    .exact X0 6 Z (rK ⟨_,_,_,_,_,_,hF,Z,h⟩ Z)
   .refine qx Z ?_;cases qe hF;replace hF:=hK1;obtain rfl:=qe hF;have h:=h.p [2,1,3,4,5,6] Z;exact YY qa ⟨_,_,_,Cv 5 0 h0 h Z Z⟩ trivial
def pd(n:Nat)(a:Option aY)(node:Int):Option (List qK):=(bI n a node ([]:List Int) ([]:List qK)).bind fun r1=>V r1
theorem BO{c:Option aY}{node}(a:Ro w c cs1){r:List qK}(F:pd n c node=V r):qP prog 25 [gv c cs1,vi node] w r:=by
 obtain⟨_,rfl,s1⟩:=aM a;refine zV 12 func25 Z fun h=>dE (qJ h Z Z fun _ _ h=>X0 4 Z (qi qa h Z Z Z fun _ _ h=>OF (qi qa h Z Z Z fun _ _ h=>X0 4 Z (zs 0 h Z fun _ h=>X1 5 0 h Z ?_))));have h:=h.nil (α:=Int);have h:=h.nil (α:=qK);have h:=h.p [3,0,1,4,2] Z;obtain⟨_,b,F⟩:=qc F;refine xB (cB 54 Z) (yA h s1 b) Z Z Z Z ?_;rintro _ ⟨_,_,_,h⟩;refine X1 6 0 h Z ?_;cases qe F;exact rO 1 h Z ⟨Z,G⟩

def tC(n:Nat)(j:bg)(node:Int):Option (Int×Int):=(dV n j 0 ([node]:List Int)).bind fun(b,a)=>bif (a != 0) then V (0,a) else(gB n b node).bind fun c=>V (c,0)
theorem FY{j:bg}{node}(c:Ro w j cs1){r:Int×Int}(F:tC n j node=V r):qP prog 9 [gv j cs1,vi node] w r:=by
 obtain⟨_,_,_,_,_,_,_,_,_,_,_,_,_,_,rfl,_,_,_,_,_,_,_⟩:=dJ c;refine zV 21 func9 Z fun h=>dE (qJ h Z Z fun _ _ h=>X1 7 0 h Z (qv qa [.tmp 10] _ ([node]:List Int) h z9 ⟨Z,G⟩ Z fun _ _ _ h=>?_));have a:Rg (old w) w (old w) w:=.start (fun _ h=>h);obtain⟨⟨t,o⟩,f,F⟩:=qc F;refine pg (t,o) a h (cB 22 Z) (vy (a.regOld h) (a.inR h c) (Rg.ownR 0 h Z) f) Z Z Z Z fun _ _ _ b d m k=>?_;have p:=h.ext d.below;have s:=h.below.trans (d.below.mono h.below.size);have h:=m;obtain⟨_,_,rfl,g,l⟩:=dA k;obtain⟨_,rfl,v⟩:=aM g;obtain⟨_,rfl,i⟩:=mS l;obtain rfl:=i;refine X0 12 Z (qp Z F ?_ ?_)<;>intro F
 .refine X0 6 Z ?_;have h:=h.unbase b.below (show EL [] from trivial);cases qe F;exact aq qa (ρ:=(Int×Int)) [oV Int [vi 0],oV Int [vi o]] h ⟨Z,Z,G⟩ (Cq h (ai h vk ul (by rfl)))
 refine X0 5 Z (mN h F (tI (h.old (qm.mono v b.old))) Z fun u _ h F=>X0 3 Z ?_);have h:=h.unbase b.below (show EL [] from trivial);cases qe F;exact aq qa (ρ:=(Int×Int)) [oV Int [vi u],oV Int [vi 0]] h ⟨Z,Z,G⟩ (Cq h (ai h vk ul (by rfl)))
def uA(n:Nat)(v:Option cL)(c:Int):Option Bool:=(v).bind fun b=>(gZ n b.links).bind fun r1=>(bU n c 0 (qj (r1-1))).bind fun a=>V a
theorem DT{v:Option cL}{link}(a:Ro w v cs1){r:Bool}(F:uA n v link=V r):qP prog 190 [gv v cs1,vi link] w r:=by
 obtain⟨_,rfl,s1⟩:=aM a;refine zV 13 func190 Z fun h=>X0 8 Z ?_;obtain⟨_,d,F⟩:=qc F;obtain⟨_,f,_,rfl,-,c,b⟩:=Cs s1 d;obtain⟨_,_,_,_,_,_,_,_,_,_,_,_,_,_,_,_,_,_,_,_,rfl,_,_,_,_,_,_,g,_,_,_⟩:=cJ c;exact lY Z (bN 6 b h Z (mN h F (rV ⟨_,_,Z,(h.oldS g)⟩) Z fun _ _ h F=>cq Z (dF h F bn Z fun _ _ h F=>X0 2 Z (rb h F Z))))
def eZ(v:Option cL)(links:List Int):Nat->Int->Option (eE Bool Int)|0,_=>U|n+1,a=>bif decide (a<(links.length:Int)) then(qF links a).bind fun b=>(uA n v b).bind fun r1=>bif (!r1) then V (.ret Cd) else bif decide (a > 0) then(v).bind fun c=>(qF links (qj (a-1))).bind fun d=>(qF c.links d).bind fun f=>(qF c.links b).bind fun g=>bif (f.To != g.Bk) then V (.ret Cd) else eZ v links n (qj (a+1)) else eZ v links n (qj (a+1)) else V (.nxt a)
def pZ(n:Nat)(v:Option cL)(links:List Int):Option Bool:=(eZ v links n 0).bind fun|.ret r=>V r|.nxt _=>V An
theorem DV{v:Option cL}{links:List Int}(c:Ro w v cs1)(d:Ro w links cs2){r:Bool}(F:pZ n v links=V r):qP prog 132 [gv v cs1,gv links cs2] w r:=by
 obtain⟨p1,rfl,s1⟩:=aM c;obtain⟨P,N,rfl,s2⟩:=d;refine zV 46 func132 Z fun h=>X0 11 Z ?_;obtain⟨o1,F,a⟩:=qc F;refine qr (rL (fun m e w'=>∃M,eZ v links m M=V o1/\e=[(0,.pointer p1),(1,oL P links N),(7,oL P links N),(8,vi (links.length:Int)),(9,vi M)]/\SH w w' []) n ⟨_,F,Z,h⟩ Z ?_);rintro O _ _ ⟨M,F,rfl,h⟩;rcases O with _|O
 .cases F
 refine X0 5 Z (qp Z F ?_ ?_)<;>intro F
 .refine X0 6 Z ?_;obtain⟨_,_,F,l,_,_,_,_,u,A,rfl,f⟩:=s2.ix F;refine fG u A l Z (bN 0 f h Z (X0 4 Z (rD (xQ Z ?_))));obtain⟨r1,H,F⟩:=qc F;refine en r1 (KO _) (cB 190 Z) (fun _ S=>DT ((h.ext S).old s1) H) Z Z Z Z (xQ Z (bJ (t:=18) F Z ?_ ?_))<;>intro F
  .refine Y0 26 Z (dN h fun _ h=>eI Z Z (X0 4 Z ?_));cases qe F;exact rb h a Z
  refine Y0 6 Z (bJ (t:=21) F Z ?_ ?_)<;>intro F
  .refine Y0 3 Z ?_;obtain⟨_,L,F⟩:=qc F;obtain⟨_,R,_,rfl,-,I,b⟩:=Cs s1 L;obtain⟨_,_,_,_,_,_,_,_,_,_,_,_,_,_,_,_,_,_,_,_,rfl,_,_,_,_,_,_,Q,_,_,_⟩:=cJ I;refine Y0 4 Z (fF 6 b h Z (Y0 7 Z ?_));obtain⟨_,_,F,o,_,_,_,_,x,B,rfl,g⟩:=s2.ix F;refine hG x B o Z (Y0 1 Z (fF 0 g h Z (Y0 1 Z ?_)));obtain⟨_,_,F,p,_,_,_,_,y,C,J,i⟩:=Q.ix F;obtain rfl:=aA J;refine hG y C p Z (Y0 3 Z (fF 1 i h Z (Y0 7 Z (fF 6 b h Z (Y0 3 Z ?_)))));obtain⟨_,_,F,s,_,_,_,_,z,D,K,k⟩:=Q.ix F;obtain rfl:=aA K;refine hG z D s Z (Y0 3 Z (fF 0 k h Z (Y0 5 Z (dN h fun _ h=>qp Z F ?_ ?_))))<;>intro F
   .refine X0 4 Z ?_;cases qe F;exact rb h a Z
   exact X0 6 Z (rK ⟨_,F,Z,h⟩ Z)
  exact Y0 24 Z (dN h fun _ h=>ch Z Z (X0 6 Z (rK ⟨_,F,Z,h⟩ Z)))
 refine qx Z ?_;cases qe F;exact X0 4 Z (rb h a Z)
def mC(_:Nat)(f:Int)(a:Option aY):Option Bool:=(a).bind fun b=>(b.graph).bind fun c=>(qF c.live f).bind fun d=>V (!d)
theorem yz{link}{u:Option aY}{p1}(a:Ro w (V u) [.pointer p1]){r:Bool}(F:mC n link u=V r):qP prog 133 [vi link,.pointer p1] w r:=by
 obtain⟨_,v,_,rfl,-,l,b⟩:=Cs a Z;obtain⟨_,rfl,s1⟩:=aM l;refine zV 15 func133 Z fun h=>X0 6 Z (bN 0 b h Z ?_);obtain⟨_,p,F⟩:=qc F;obtain⟨_,x,_,rfl,-,m,c⟩:=Cs s1 p;obtain⟨_,_,_,_,_,_,_,_,_,_,_,_,_,_,_,_,_,_,_,_,_,_,_,rfl,s2,_,_,_,_,_,_,_,_,_,_,_⟩:=sM m;refine lY Z (bN 0 c h Z ?_);obtain⟨_,s,F⟩:=qc F;obtain⟨_,y,_,rfl,-,o,d⟩:=Cs s2 s;obtain⟨_,_,_,rfl,_,t⟩:=fo o;refine lY Z (bN 1 d h Z (cq Z ?_));obtain⟨_,_,F,g,_,_,_,_,i,k,rfl,f⟩:=t.ix F;exact fG i k g Z (bN 0 f h Z (X0 3 Z (rb h F Z)))
def aE(s:List Int)(a:Option aY):Nat->Int->Option (eE Int Int)|0,_=>U|n+1,b=>bif decide (b<(s.length:Int)) then(qF s b).bind fun c=>(mC n c a).bind fun r1=>bif r1 then V (.ret b) else aE s a n (qj (b+1)) else V (.nxt b)
def bW(n:Nat)(s:List Int)(a:Option aY):Option Int:=(aE s a n 0).bind fun|.ret r=>V r|.nxt _=>V (-1)
theorem mU{s:List Int}{a:Option aY}(d:Ro w s cs1){u}(c:Ro w (V a) [.pointer u]){r:Int}(F:bW n s a=V r):qP prog 153 [gv s cs1,.func (.func 133) #[] #[.pointer u]] w r:=by
 obtain⟨p1,v,rfl,s1⟩:=d;obtain⟨b1,p,_,rfl,-,l,_⟩:=Cs c Z;obtain⟨_,rfl,_⟩:=aM l;refine zV 19 func153 Z fun h=>X0 11 Z ?_;obtain⟨o1,F,b⟩:=qc F;refine qr (rL (fun m e w'=>∃o,aE s a m o=V o1/\e=[(0,oL p1 s v),(1,.func (.func 133) #[] #[.pointer (V ⟨b1,p,U⟩)]),(7,vi (s.length:Int)),(8,vi o)]/\SH w w' []) n ⟨_,F,Z,h⟩ Z ?_);rintro t _ _ ⟨o,F,rfl,h⟩;rcases t with _|t
 .cases F
 refine X0 5 Z (qp Z F ?_ ?_)<;>intro F
 .refine X0 13 Z ?_;obtain⟨_,_,F,g,_,_,_,_,i,k,rfl,f⟩:=s1.ix F;refine fG i k g Z (bN 0 f h Z (dF h F (yz (h.old c)) Z fun _ _ h F=>ac (qp Z F ?_ ?_)))<;>intro F
  .refine X0 5 Z ?_;cases qe F;exact ri h b Z
  exact X0 6 Z (rK ⟨_,F,Z,h⟩ Z)
 refine qx Z ?_;cases qe F;exact X0 4 Z (ri h b Z)
def aC(n:Nat)(s:List Int)(a:Option aY):Option Bool:=(bW n s a).bind fun r1=>V (decide (r1>=0))
theorem eF{s:List Int}{a:Option aY}(c:Ro w s cs1){f}(b:Ro w (V a) [.pointer f]){r:Bool}(F:aC n s a=V r):qP prog 92 [gv s cs1,.func (.func 133) #[] #[.pointer f]] w r:=by
 obtain⟨_,_,rfl,s1⟩:=c;obtain⟨_,g,_,rfl,-,d,_⟩:=Cs b Z;obtain⟨_,rfl,_⟩:=aM d;exact zV 9 func92 Z fun h=>X0 8 Z (mN h F (mU ⟨_,_,Z,(h.oldS s1)⟩ (h.old b)) Z fun _ _ h F=>X0 3 Z (rb h F Z))
def oa(n:Nat)(m:Option aY)(start:Int)(links:List Int):Option Bool:=(m).bind fun a=>(fB n a.job.Ap start).bind fun(_,b)=>(bif (!b) then V An else(a.graph).bind fun l=>(pZ n l.view links).bind fun f=>V (!f)).bind fun b2=>bif b2 then V Cd else bif decide ((links.length:Int) > 0) then(a.graph).bind fun g=>(g.view).bind fun h=>(qF links 0).bind fun i=>(qF h.links i).bind fun k=>bif (k.Bk != start) then V Cd else(aC n links m).bind fun c=>V (!c) else(aC n links m).bind fun d=>V (!d)
theorem AK{a3:Option aY}{start}{links:List Int}(k:Ro w a3 cs1)(l:Ro w links cs2){r:Bool}(F:oa n a3 start links=V r):qP prog 81 [gv a3 cs1,vi start,gv links cs2] w r:=by
 obtain⟨_,rfl,s1⟩:=aM k;obtain⟨p2,k1,rfl,s2⟩:=l;refine zV 60 func81 Z fun h=>dE (qJ h Z Z fun _ b h=>X1 6 0 h Z ?_);obtain⟨_,O,F⟩:=qc F;obtain⟨b1,S,_,rfl,-,D,a⟩:=Cs s1 O;obtain⟨_,_,_,_,_,_,_,_,_,_,_,_,_,_,_,_,_,_,_,_,_,_,_,rfl,s3,_,_,_,_,_,_,T,_,_,_,_⟩:=sM D;refine EK Z (bN 12 a h Z (cq Z ?_));obtain⟨⟨r2,r3⟩,H,F⟩:=qc F;refine bG (r2,r3) h (cB 52 Z) (nE ⟨_,_,Z,(h.oldS T)⟩ H) Z Z Z Z fun _ _ _ N I=>?_;obtain⟨_,_,_,_,rfl,g,J⟩:=N.cons I;obtain rfl:=aB (g.sh.own 0 Z);obtain⟨rfl,h⟩:=g.lastB J;refine EK Z (qi qa h Z Z Z fun _ _ h=>zs 0 h Z fun _ h=>X0 3 Z ?_);obtain⟨i,d,_,F,c⟩:=bindE F;refine bd (fun e w'=>∃b2,i b2=V r/\e=[(1,vi start),(2,oL p2 links k1),(3,vp b),(32,.bool b2)]/\SH w w' [oX b [.pointer (V ⟨b1,S,U⟩)] 73]) ?_ ?_
 .refine X0 4 Z (qh (t:=21) F Z ?_ ?_)<;>intro F
  .refine X0 12 Z ?_;have h:=h.p [2] Z;exact rH F c h Z
  refine X1 7 2 h Z (bN 0 a h Z (X0 1 Z ?_));obtain⟨_,R,F⟩:=qc F;obtain⟨_,o_6,_,rfl,-,f,u⟩:=Cs s3 R;obtain⟨_,_,_,rfl,Y,_⟩:=fo f;refine X0 4 Z (bN 0 u h Z (X0 3 Z (dF h F (DV (h.old Y) ⟨_,_,Z,(h.oldS s2)⟩) Z fun _ _ h F=>X0 4 Z ?_)));have h:=h.p [2] Z;exact rH F c h Z
 rintro _ _ ⟨b2,F,rfl,h⟩;subst d;refine qp Z F ?_ ?_<;>intro F
 .exact X0 4 Z (rb h F Z)
 refine ZT (rD (qdC Z (bJ (t:=36) F Z ?_ ?_)))<;>intro F
 .refine Y1 2 0 h Z ?_;refine Y0 5 Z (fF 0 a h Z (Y0 1 Z ?_));obtain⟨_,P,F⟩:=qc F;obtain⟨_,o_2,_,rfl,-,K,m⟩:=Cs s3 P;obtain⟨_,_,_,rfl,W,_⟩:=fo K;refine Y0 4 Z (fF 0 m h Z (Y0 1 Z ?_));obtain⟨_,Q,F⟩:=qc F;obtain⟨_,o_3,_,rfl,-,L,o⟩:=Cs W Q;obtain⟨_,_,_,_,_,_,_,_,_,_,_,_,_,_,_,_,_,_,_,_,rfl,_,_,_,_,_,_,X,_,_,_⟩:=cJ L;refine Y0 4 Z (fF 6 o h Z (Y0 3 Z ?_));obtain⟨_,_,F,v,_,_,_,_,z,B,rfl,p⟩:=s2.ix F;refine hG z B v Z (Y0 1 Z (fF 0 p h Z (Y0 1 Z ?_)));obtain⟨_,_,F,y,_,_,_,_,A,C,M,s⟩:=X.ix F;obtain rfl:=aA M;refine hG A C y Z (Y0 3 Z (fF 0 s h Z (Y0 5 Z (dN h fun _ h=>qp Z F ?_ ?_))))<;>intro F
  .exact X0 4 Z (rb h F Z)
  exact X0 5 Z (dF h F (eF ⟨_,_,Z,(h.oldS s2)⟩ (oB (x:=a3) 0 h Z (h.old s1))) Z fun _ _ h F=>X0 3 Z (rb h F Z))
 exact Y0 19 Z (dN h fun _ h=>ch Z Z (X0 5 Z (dF h F (eF ⟨_,_,Z,(h.oldS s2)⟩ (oB (x:=a3) 0 h Z (h.old s1))) Z fun _ _ h F=>X0 3 Z (rb h F Z))))
def gh(n:Nat)(j:bg)(mode:Int)(start:Int)(links:List Int):Option ((Option aY)×Int):=(dV n j mode []).bind fun(a,b)=>bif (b==0) then(oa n a start links).bind fun c=>bif (!c) then V (U,5) else V (a,b) else V (a,b)
theorem yx{A}(K:∀b,A b->old w b){j:bg}{mode start}{links:List Int}(g:qm.R w A j cs1)(l:qm.R w A links cs2){r:(Option aY)×Int}(F:gh n j mode start links=V r):FM prog 37 [gv j cs1,vi mode,vi start,gv links cs2] w A r:=by
 obtain⟨_,_,_,_,_,_,_,_,_,_,_,_,_,_,rfl,_,_,_,_,_,_,_⟩:=dJ g;obtain⟨_,_,rfl,H⟩:=l;have J:=Rg.start K;refine kY func37 Z (m:=29) Z Z (fun h=>?_);refine dE (qJ h Z Z fun _ _ h=>X1 7 0 h Z ?_);obtain⟨⟨i,c⟩,o,F⟩:=qc F;refine pg (i,c) J h (cB 22 Z) (vy (J.regOld h) (J.inR h g) ⟨_,_,Z,uP⟩ o) Z Z Z Z fun _ _ _ a d B u=>?_;have C:=h.ext d.below;have I:=Up.S J h d H;have D:=h.below.trans (d.below.mono h.below.size);have h:=B;obtain⟨_,_,rfl,p,v⟩:=dA u;obtain⟨k,rfl,f⟩:=aM p;obtain⟨_,rfl,s⟩:=mS v;obtain rfl:=s;refine X0 12 Z (qh (t:=20) F Z ?_ ?_)<;>intro F
 .refine X0 7 Z (dF h F (AK (h.old (qm.mono f a.old)) ⟨_,_,Z,(h.oldS (I.mono a.old))⟩) Z fun _ _ h F=>X0 4 Z (qp Z F ?_ ?_))<;>intro F
  .refine X0 5 Z ?_;obtain rfl:=qe F;have x:la.Rs (ρ:=((Option aY)×Int)) h.wc (xC A w h.wc) (U,5) [oV (Option aY) [.pointer U],oV Int [vi 5]]:=⟨_,_,Z,Z,⟨_,Z,Z⟩⟩;exact mR qa (ρ:=((Option aY)×Int)) (r:=(U,5)) [oV (Option aY) [.pointer U],oV Int [vi 5]] (h.unbase a.below (show EL [] from trivial)) ⟨Z,Z,G⟩ x
  refine X0 8 Z ?_;obtain rfl:=qe F;have y:la.Rs (ρ:=((Option aY)×Int)) h.wc (xC A w h.wc) (i,c) [oV (Option aY) [.pointer k],oV Int [vi c]]:=⟨_,_,Z,(a.outR h (a.inR h f)),⟨_,Z,Z⟩⟩;exact mR qa (ρ:=((Option aY)×Int)) (r:=(i,c)) [oV (Option aY) [.pointer k],oV Int [vi c]] (h.unbase a.below (show EL [] from trivial)) ⟨Z,Z,G⟩ y
 refine X0 7 Z (ch Z Z (X0 8 Z ?_));obtain rfl:=qe F;have z:la.Rs (ρ:=((Option aY)×Int)) h.wc (xC A w h.wc) (i,c) [oV (Option aY) [.pointer k],oV Int [vi c]]:=⟨_,_,Z,(a.outR h (a.inR h f)),⟨_,Z,Z⟩⟩;exact mR qa (ρ:=((Option aY)×Int)) (r:=(i,c)) [oV (Option aY) [.pointer k],oV Int [vi c]] (h.unbase a.below (show EL [] from trivial)) ⟨Z,Z,G⟩ z
def pU(n:Nat)(j:bg)(start:Int)(links:List Int)(mode:Int):Option (Int×Int):=(gh n j mode start links).bind fun(b,a)=>bif (a != 0) then V (0,a) else(gp n b start links).bind fun c=>(vR n c mode).bind fun d=>V (d,0)
theorem vG{j:bg}{start}{links:List Int}{mode}(d:Ro w j cs1)(f:Ro w links cs2){r:Int×Int}(F:pU n j start links mode=V r):qP prog 11 [gv j cs1,vi start,gv links cs2,vi mode] w r:=by
 obtain⟨_,_,_,_,_,_,_,_,_,_,_,_,_,_,rfl,_,_,_,_,_,_,_⟩:=dJ d;obtain⟨_,_,rfl,t⟩:=f;refine zV 29 func11 Z fun h=>dE (qJ h Z Z fun _ _ h=>X1 9 0 h Z ?_);have a:Rg (old w) w (old w) w:=.start (fun _ h=>h);obtain⟨⟨x,s⟩,g,F⟩:=qc F;refine pg (x,s) a h (cB 37 Z) (yx (a.regOld h) (a.inR h d) ⟨_,_,Z,(a.inS h t)⟩ g) Z Z Z Z fun _ _ _ b c o l=>?_;have u:=h.ext c.below;have z:=Up.S a h c t;have v:=h.below.trans (c.below.mono h.below.size);have h:=o;obtain⟨_,_,rfl,i,m⟩:=dA l;obtain⟨_,rfl,p⟩:=aM i;obtain⟨_,rfl,k⟩:=mS m;obtain rfl:=k;refine X0 12 Z (qp Z F ?_ ?_)<;>intro F
 .refine X0 6 Z ?_;have h:=h.unbase b.below (show EL [] from trivial);cases qe F;exact aq qa (ρ:=(Int×Int)) [oV Int [vi 0],oV Int [vi s]] h ⟨Z,Z,G⟩ (Cq h (ai h vk ul (by rfl)))
 refine X0 6 Z (qbE h F (rE (h.old (qm.mono p b.old)) ⟨_,_,Z,(h.oldS (z.mono b.old))⟩) Z fun _ _ _ _ h F=>?_);obtain rfl:=qA (h.own 0 Z);refine cq Z (mN h F (zM (h.own 0 Z)) Z fun y _ h F=>X0 3 Z ?_);have h:=h.unbase b.below ⟨fun _ h=>h,G⟩;cases qe F;exact aq qa (ρ:=(Int×Int)) [oV Int [vi y],oV Int [vi 0]] h ⟨Z,Z,G⟩ (Cq h (ai h vk ul (by rfl)))
def eH(i:Option aY)(links:List Int):Nat->(List Int)->Int->Option ((List Int)×Int)|0,_,_=>U|n+1,x1,a=>bif decide (a<(links.length:Int)) then(qF links a).bind fun c=>(i).bind fun d=>(d.graph).bind fun f=>(f.view).bind fun g=>(qF g.links c).bind fun h=>(dj x1 ([h.To]:List Int)).bind fun b=>eH i links n b (qj (a+1)) else V (x1,a)
def ng(n:Nat)(a:Option aY)(start:Int)(links:List Int):Option (List Int):=(eH a links n ([start]:List Int) 0).bind fun(x1,_)=>V x1
theorem zm{Y:Option aY}{start}{links:List Int}(d:Ro w Y cs1)(f:Ro w links cs2){r:List Int}(F:ng n Y start links=V r):qP prog 82 [gv Y cs1,vi start,gv links cs2] w r:=by
 obtain⟨p1,rfl,s1⟩:=aM d;obtain⟨T,P,rfl,s2⟩:=f;refine zV 37 func82 Z fun h=>X0 7 Z (qv qa [.tmp 10] _ ([start]:List Int) h z9 ⟨Z,G⟩ Z fun _ _ _ h=>X0 9 Z ?_);obtain⟨o1,F,c⟩:=qc F;refine qr (rL (fun m e w'=>∃S2 K b J x1 I,eH Y links m x1 I=V o1/\e=[(0,.pointer p1),(7,oS K b J),(12,oL T links P),(13,vi (links.length:Int)),(14,vi I)]/\SH w w' [oW S2 (x1:List Int) [oS K b J]]) n ⟨_,_,_,_,_,_,F,Z,h⟩ Z ?_);rintro N _ _ ⟨S2,K,b,J,x1,I,F,rfl,h⟩;obtain rfl:=(h.sl 0 Z).2;rcases N with _|N
 .cases F
 refine X0 5 Z (qp Z F ?_ ?_)<;>intro F
 .refine lN ?_;obtain⟨_,_,F,p,_,_,_,_,t,v,rfl,g⟩:=s2.ix F;refine fG t v p Z (bN 0 g h Z (X0 5 Z ?_));obtain⟨_,C,F⟩:=qc F;obtain⟨_,Q,_,rfl,-,y,i⟩:=Cs s1 C;obtain⟨_,_,_,_,_,_,_,_,_,_,_,_,_,_,_,_,_,_,_,_,_,_,_,rfl,W,_,_,_,_,_,_,_,_,_,_,_⟩:=sM y;refine lY Z (bN 0 i h Z ?_);obtain⟨_,D,F⟩:=qc F;obtain⟨_,R,_,rfl,-,z,k⟩:=Cs W D;obtain⟨_,_,_,rfl,L,_⟩:=fo z;refine lY Z (bN 0 k h Z ?_);obtain⟨_,H,F⟩:=qc F;obtain⟨_,S,_,rfl,-,A,l⟩:=Cs L H;obtain⟨_,_,_,_,_,_,_,_,_,_,_,_,_,_,_,_,_,_,_,_,rfl,_,_,_,_,_,_,M,_,_,_⟩:=cJ A;refine lY Z (bN 6 l h Z (cq Z ?_));obtain⟨X,_,F,s,_,_,_,_,u,x,B,o⟩:=M.ix F;obtain rfl:=aA B;refine fG u x s Z (cq Z (bN 1 o h Z (qv qa [.tmp 32] _ ([X.To]:List Int) h z9 ⟨Z,G⟩ Z fun _ _ _ h=>?_)));obtain⟨_,a,F⟩:=qc F;obtain⟨O,a⟩:=qH a;refine bo qa 1 h Z (h.sl 0 Z).1 (h.sl 0 Z).2 z9 O a Z fun _ _ _ _ h=>X0 7 Z ?_;exact rK ⟨_,_,_,_,_,_,F,Z,h.p [1] Z⟩ Z
 refine qx Z ?_;cases qe F;have F:=c;refine X0 5 Z ?_;cases qe F;exact rO 0 h Z ⟨Z,G⟩
def wD(n:Nat)(j:bg)(start:Int)(links:List Int):Option ((List Int)×Int):=(gh n j 0 start links).bind fun(b,a)=>bif (a != 0) then V ([],a) else(ng n b start links).bind fun c=>V (c,0)
theorem FZ{j:bg}{start}{links:List Int}(d:Ro w j cs1)(f:Ro w links cs2){r:(List Int)×Int}(F:wD n j start links=V r):qP prog 38 [gv j cs1,vi start,gv links cs2] w r:=by
 obtain⟨_,_,_,_,_,_,_,_,_,_,_,_,_,_,rfl,_,_,_,_,_,_,_⟩:=dJ d;obtain⟨_,_,rfl,u⟩:=f;refine zV 24 func38 Z fun h=>dE (qJ h Z Z fun _ _ h=>X1 8 0 h Z ?_);have a:Rg (old w) w (old w) w:=.start (fun _ h=>h);obtain⟨⟨z,t⟩,g,F⟩:=qc F;refine pg (z,t) a h (cB 37 Z) (yx (a.regOld h) (a.inR h d) ⟨_,_,Z,(a.inS h u)⟩ g) Z Z Z Z fun _ _ _ b c o l=>?_;have v:=h.ext c.below;have B:=Up.S a h c u;have x:=h.below.trans (c.below.mono h.below.size);have h:=o;obtain⟨_,_,rfl,i,m⟩:=dA l;obtain⟨_,rfl,s⟩:=aM i;obtain⟨_,rfl,k⟩:=mS m;obtain rfl:=k;refine X0 12 Z (qp Z F ?_ ?_)<;>intro F
 .refine X0 6 Z ?_;have h:=h.unbase b.below (show EL [] from trivial);cases qe F;exact aq qa (ρ:=((List Int)×Int)) [oV (List Int) [oS U 0 0],oV Int [vi t]] h ⟨Z,Z,G⟩ (Cq h (ai h fc ul (by rfl)))
 refine X0 6 Z (uj h F (zm (h.old (qm.mono s b.old)) ⟨_,_,Z,(h.oldS (B.mono b.old))⟩) Z fun A _ _ p y h F=>X0 3 Z ?_);have h:=h.unbase b.below ⟨fun _ h=>h,G⟩;cases qe F;exact aq qa (ρ:=((List Int)×Int)) [oV (List Int) [oL p A y],oV Int [vi 0]] h ⟨Z,Z,G⟩ (Cq h (ai h (qS 0 h Z) ul (by rfl)))
def tx(n:Nat)(j:bg)(start:Int)(links:List Int):Option (Int×Int):=(wD n j start links).bind fun(a,b)=>bif (b != 0) then V (0,b) else(qF a (qj ((a.length:Int)-1))).bind fun c=>V (c,0)
theorem xm{j:bg}{start}{links:List Int}(a:Ro w j cs1)(c:Ro w links cs2){r:Int×Int}(F:tx n j start links=V r):qP prog 12 [gv j cs1,vi start,gv links cs2] w r:=by
 obtain⟨_,_,_,_,_,_,_,_,_,_,_,_,_,_,rfl,_,_,_,_,_,_,_⟩:=dJ a;obtain⟨_,_,rfl,t⟩:=c;refine zV 26 func12 Z fun h=>dE (qJ h Z Z fun _ _ h=>X1 8 0 h Z ?_);obtain⟨⟨s,p⟩,i,F⟩:=qc F;refine bG (s,p) h (cB 38 Z) (FZ (h.old a) ⟨_,_,Z,(h.oldS t)⟩ i) Z Z Z Z fun _ _ _ m k=>?_;obtain⟨_,_,_,_,_,rfl,o,l⟩:=m.consL k;obtain⟨rfl,h⟩:=o.lastI l;refine X0 12 Z (qp Z F ?_ ?_)<;>intro F
 .refine X0 6 Z ?_;cases qe F;exact aq qa (ρ:=(Int×Int)) [oV Int [vi 0],oV Int [vi p]] h ⟨Z,Z,G⟩ (Cq h (ai h vk ul (by rfl)))
 refine X0 7 Z ?_;obtain⟨u,_,F,b,_,_,_,_,f,g,rfl,d⟩:=(h.sl 0 Z).1.ix F;refine zx f g ⟨b.1,qD b.2.1 (h.sl 0 Z).2⟩ Z (zc 0 d Z (X0 3 Z ?_));cases qe F;exact aq qa (ρ:=(Int×Int)) [oV Int [vi u],oV Int [vi 0]] h ⟨Z,Z,G⟩ (Cq h (ai h vk ul (by rfl)))
def bS(n:Nat)(j:bg):Option ((Option bC)×Int):=(bM n (⟨(⟨j.Ac.Ar.Au⟩:qB),(⟨j.Ac.Aa.Ab,j.Ac.Aa.Am,j.Ac.Aa.Ai⟩:qk),j.Ac.Ah⟩:qf) (⟨j.Aj.Bh,j.Aj.Ba,j.Aj.Bd,j.Aj.Ay,j.Aj.Bc⟩:qG) j.Av j.Ap).bind fun(c,a)=>bif (a != 0) then V (U,a) else(iN n (⟨(⟨j.Ac.Ar.Au⟩:qB),(⟨j.Ac.Aa.Ab,j.Ac.Aa.Am,j.Ac.Aa.Ai⟩:qk),j.Ac.Ah⟩:qf)).bind fun b=>(ov n b j.Av).bind fun d=>V ((V (⟨(⟨(⟨(⟨j.Ac.Ar.Au⟩:qB),(⟨j.Ac.Aa.Ab,j.Ac.Aa.Am,j.Ac.Aa.Ai⟩:qk),j.Ac.Ah⟩:qf),(⟨j.Aj.Bh,j.Aj.Ba,j.Aj.Bd,j.Aj.Ay,j.Aj.Bc⟩:qG),j.Av,j.Ap⟩:bg),b,d,c⟩:bC)),0)
theorem yS{n w}{j:bg}{cs1}(O:Ro w j cs1){r:(Option bC)×Int}(F:bS n j=V r):O6 prog 63 [gv j cs1] w (fun us L=>(∃H,r=(U,H)/\us=[oV (Option bC) [.pointer U],oV Int [vi H]]/\L=[])\/(∃uS1 K k I N uS6 M l J t B o b f u a C p c g v D s d i x,r=((V (⟨j,x,v,(⟨u,t,N⟩:qn)⟩:bC)),0)/\us=[oV (Option bC) [vp a],oV Int [vi 0]]/\L=[oW uS1 (N:List qg) [oS K k I],oW uS6 (t:List qg) [oS M l J],oW B (u:List Bool) [oS o b f],oX a (cs1++[oS s d i,oS p c g,oS o b f,oS M l J,oS K k I]) 144,oW C (v:List Bool) [oS p c g],oW D (x:List qw) [oS s d i]])):=by
 obtain⟨_,_,_,_,_,_,_,_,_,_,_,_,_,_,rfl,s1,s2,s3,s4,s5,s6,s7⟩:=dJ O;refine CE func63 Z (m:=34) Z Z (fun h=>?_);refine dE (qJ h Z Z fun _ _ h=>X4 13 0 0 0 0 h Z ?_);obtain⟨⟨y,r3⟩,P,F⟩:=qc F;refine bG (y,r3) h (cB 105 Z) (yL (sK _ (h.oldS s1) (h.oldS s2) (h.oldS s3) (h.oldS s4) (h.oldS s5)) (mD _) ⟨_,_,Z,(h.oldS s6)⟩ ⟨_,_,Z,(h.oldS s7)⟩ P) Z Z Z Z fun _ _ _ S Q=>?_;obtain⟨_,_,_,_,rfl,A,R⟩:=S.cons Q;obtain⟨p8,k8,p9,k9,Y,T,rfl,-,-,-⟩:=dX (A.sh.own 0 Z);obtain⟨rfl,h⟩:=A.lastI R;refine EK Z (qi qa h Z Z Z fun _ _ h=>zs 0 h Z fun _ h=>X0 8 Z (qp Z F ?_ ?_))<;>intro F
 .refine X0 6 Z ?_;obtain rfl:=qe F;have h:=h.p [] Z;exact CB qa [oV (Option bC) [.pointer U],oV Int [vi r3]] h ⟨Z,Z,G⟩ (.inl ⟨r3,Z,Z,Z⟩)
 refine X1 5 2 h Z (uj h F (lw (sK _ (h.oldS s1) (h.oldS s2) (h.oldS s3) (h.oldS s4) (h.oldS s5))) Z fun r4 _ S5 e W h F=>X0 3 Z (rA [] [1,3] h Z fun _ h=>M3 95 [0,1,2,3,4,6] 1 1 0 (h.p [1,3] Z) Z (Ao 5 127 Z (uj h F (oD (h.own 0 Z) ⟨_,_,Z,(h.oldS s6)⟩) Z fun r5 _ S6 a3 X h F=>Ag (h.p [2,4] Z) (Aw 7 255 (fun w' hw=>qC qa [0,1,2,3] [.tmp 25,.tmp 26,.tmp 30,.tmp 31] z8) (h.p [2,4] Z) Z ?_)))));refine Ao 8 511 Z (qJ h Z Z fun _ z h=>G0 2047 [9,10] (h.p [3,5] Z) Z (Ad ?_));have h:=h.p [4,0,1,2,3,5] Z;obtain⟨S7,S8,S9,h⟩:=oM h;obtain rfl:=qe F;have h:=h.p [0,1,2,3,4,5] Z;exact CB qa [oV (Option bC) [vp z],oV Int [vi 0]] h ⟨Z,Z,G⟩ (.inr ⟨S9,Y,y.Bb.length,T,y.Bb,S8,p9,y.Af.length,k9,y.Af,S7,p8,y.Aq.length,k8,y.Aq,z,S6,a3,r5.length,X,r5,S5,e,r4.length,W,r4,Z,Z,Z⟩)
def lz(n:Nat)(j:bg)(node:Int):Option ((Option bC)×Int):=(bS n j).bind fun|(U,a)=>(bif (a != 0) then V (U,a) else(bT n (⟨(⟨j.Ac.Ar.Au⟩:qB),(⟨j.Ac.Aa.Ab,j.Ac.Aa.Am,j.Ac.Aa.Ai⟩:qk),j.Ac.Ah⟩:qf)).bind fun b=>(aW n node 0 (qj (b-1))).bind fun c=>bif (!c) then V (U,4) else V (U,0))|(V (⟨_,k,i,⟨h,g,x1⟩⟩),_)=>((bT n (⟨(⟨j.Ac.Ar.Au⟩:qB),(⟨j.Ac.Aa.Ab,j.Ac.Aa.Am,j.Ac.Aa.Ai⟩:qk),j.Ac.Ah⟩:qf)).bind fun d=>(aW n node 0 (qj (d-1))).bind fun f=>bif (!f) then V (U,4) else V ((V (⟨(⟨(⟨(⟨j.Ac.Ar.Au⟩:qB),(⟨j.Ac.Aa.Ab,j.Ac.Aa.Am,j.Ac.Aa.Ai⟩:qk),j.Ac.Ah⟩:qf),(⟨j.Aj.Bh,j.Aj.Ba,j.Aj.Bd,j.Aj.Ay,j.Aj.Bc⟩:qG),j.Av,j.Ap⟩:bg),k,i,(⟨h,g,x1⟩:qn)⟩:bC)),0))
theorem CM{n w}{j:bg}{node cs1}(J:Ro w j cs1){r:(Option bC)×Int}(F:lz n j node=V r):O6 prog 30 [gv j cs1,vi node] w (fun us L=>(∃W,r=(U,W)/\us=[oV (Option bC) [.pointer U],oV Int [vi W]]/\L=[])\/(∃uS1 e k X a4 uS6 a3 l Y t R o b f u a S p c g v T s d i x,r=((V (⟨j,x,v,(⟨u,t,a4⟩:qn)⟩:bC)),0)/\us=[oV (Option bC) [vp a],oV Int [vi 0]]/\L=[oW uS1 (a4:List qg) [oS e k X],oW uS6 (t:List qg) [oS a3 l Y],oW R (u:List Bool) [oS o b f],oX a (cs1++[oS s d i,oS p c g,oS o b f,oS a3 l Y,oS e k X]) 144,oW S (v:List Bool) [oS p c g],oW T (x:List qw) [oS s d i]])):=by
 obtain⟨p1,k1,p2,k2,p3,k3,p4,k4,p5,k5,p6,k6,p7,k7,rfl,s1,s2,s3,s4,s5,_,_⟩:=dJ J;refine CE func30 Z (m:=24) Z Z (fun h=>?_);refine dE (qJ h Z Z fun _ I h=>X1 6 0 h Z ?_);obtain⟨_,a5,F⟩:=qc F;refine GQ (cB 63 Z) (yS (h.old J) a5) Z Z Z Z ?_;rintro _ _ _ K (⟨i1,rfl,rfl,rfl⟩|⟨S1,p8,M,k8,x1,S2,p9,N,k9,x2,S3,C,O,z,x3,y,S4,D,P,A,x4,S5,H,Q,B,x5,rfl,rfl,rfl⟩)
 .replace h:SH _ _ [oX I (gl j p1 p2 p3 p4 p5 p6 p7 k1 k2 k3 k4 k5 k6 k7) 40]:=SH.appendN h K (show EL [] from trivial);refine X0 12 Z (qp Z F ?_ ?_)<;>intro F
  .refine X0 6 Z ?_;obtain rfl:=qe F;have h:=h.p [] Z;exact CB qa [oV (Option bC) [.pointer U],oV Int [vi i1]] h ⟨Z,Z,G⟩ (.inl ⟨i1,Z,Z,Z⟩)
  refine X1 7 0 h Z (mN h F (dL (sK _ (h.oldS s1) (h.oldS s2) (h.oldS s3) (h.oldS s4) (h.oldS s5))) Z fun _ _ h F=>cq Z (dF h F aF Z fun _ _ h F=>X0 2 Z (qp Z F ?_ ?_)))<;>intro F
  .refine X0 5 Z ?_;obtain rfl:=qe F;have h:=h.p [] Z;exact CB qa [oV (Option bC) [.pointer U],oV Int [vi 4]] h ⟨Z,Z,G⟩ (.inl ⟨4,Z,Z,Z⟩)
  refine X0 7 Z ?_;obtain rfl:=qe F;have h:=h.p [] Z;exact CB qa [oV (Option bC) [.pointer U],oV Int [vi 0]] h ⟨Z,Z,G⟩ (.inl ⟨0,Z,Z,Z⟩)
 replace h:SH _ _ [oW S1 (x1:List qg) [oS p8 M k8],oW S2 (x2:List qg) [oS p9 N k9],oW S3 (x3:List Bool) [oS C O z],oX y [oL p1 j.Ac.Ar.Au k1,oL p2 j.Ac.Aa.Ab k2,oL p3 j.Ac.Aa.Am k3,oL p4 j.Ac.Aa.Ai k4,oL p5 j.Ac.Ah k5,.string j.Aj.Bh,vi j.Aj.Ba,vi j.Aj.Bd,vi j.Aj.Ay,vi j.Aj.Bc,oL p6 j.Av k6,oL p7 j.Ap k7,oS H Q B,oS D P A,oS C O z,oS p9 N k9,oS p8 M k8] 144,oW S4 (x4:List Bool) [oS D P A],oW S5 (x5:List qw) [oS H Q B],oX I (gl j p1 p2 p3 p4 p5 p6 p7 k1 k2 k3 k4 k5 k6 k7) 40]:=SH.appendN h K ⟨fun _ h=>h,⟨fun _ h=>h,⟨fun _ h=>h,⟨fun _ h=>h,⟨fun _ h=>h,⟨fun _ h=>h,G⟩⟩⟩⟩⟩⟩;obtain rfl:=(h.sl 0 Z).2;obtain rfl:=(h.sl 1 Z).2;obtain rfl:=(h.sl 2 Z).2;obtain rfl:=(h.sl 4 Z).2;obtain rfl:=(h.sl 5 Z).2;refine X0 12 Z (ch Z Z (X1 7 6 h Z (mN h F (dL (sK _ (h.oldS s1) (h.oldS s2) (h.oldS s3) (h.oldS s4) (h.oldS s5))) Z fun _ _ h F=>cq Z (dF h F aF Z fun _ _ h F=>X0 2 Z (qp Z F ?_ ?_)))))<;>intro F
 .refine X0 5 Z ?_;obtain rfl:=qe F;have h:=h.p [] Z;exact CB qa [oV (Option bC) [.pointer U],oV Int [vi 4]] h ⟨Z,Z,G⟩ (.inl ⟨4,Z,Z,Z⟩)
 refine X0 7 Z ?_;obtain rfl:=qe F;have h:=h.p [0,1,2,3,4,5] Z;exact CB qa [oV (Option bC) [vp y],oV Int [vi 0]] h ⟨Z,Z,G⟩ (.inr ⟨S1,p8,x1.length,k8,x1,S2,p9,x2.length,k9,x2,S3,C,x3.length,z,x3,y,S4,D,x4.length,A,x4,S5,H,x5.length,B,x5,Z,Z,Z⟩)
def rn(_:Nat)(mode:Int):Option Bool:=bif (mode==0) then V An else V (mode==1)
theorem zU{mode}  {r:Bool}(F:rn n mode=V r):qP prog 31 [vi mode] w r:=by
 refine zV 9 func31 Z fun h=>X0 9 Z (qh (t:=5) F Z ?_ ?_)<;>intro F
 .exact X0 5 Z (rb h F Z)
 exact X0 7 Z (rb h F Z)
def xF(n:Nat)(j:bg)(node:Int)(mode:Int)(count:Int):Option ((List qK)×Int):=(lz n j node).bind fun|(U,a)=>(bif (a != 0) then V ([],a) else((rn n mode).bind fun c=>bif (!c) then V An else(aW n count 0 20).bind fun d=>V (!d)).bind fun b1=>bif b1 then V ([],2) else(nS n U).bind fun b=>(qF b node).bind fun p=>bif decide (p > 300) then V ([],3) else U)|(V (⟨_,m,l,⟨k,i,x1⟩⟩),_)=>(((rn n mode).bind fun g=>bif (!g) then V An else(aW n count 0 20).bind fun h=>V (!h)).bind fun b3=>bif b3 then V ([],2) else(nS n (V (⟨(⟨(⟨(⟨j.Ac.Ar.Au⟩:qB),(⟨j.Ac.Aa.Ab,j.Ac.Aa.Am,j.Ac.Aa.Ai⟩:qk),j.Ac.Ah⟩:qf),(⟨j.Aj.Bh,j.Aj.Ba,j.Aj.Bd,j.Aj.Ay,j.Aj.Bc⟩:qG),j.Av,j.Ap⟩:bg),m,l,(⟨k,i,x1⟩:qn)⟩:bC))).bind fun f=>(qF f node).bind fun r=>bif decide (r > 300) then V ([],3) else U)
theorem NQ{j:bg}{node mode count}(S:Ro w j cs1){r:(List qK)×Int}(F:xF n j node mode count=V r):qP prog 8 [gv j cs1,vi node,vi mode,vi count] w r:=by
 obtain⟨p1,M,y,u,o,k3,p,m,H,B,I,C,J,D,rfl,s1,s2,s3,s4,s5,s6,s7⟩:=dJ S;refine zV 48 func8 Z fun h=>dE (qJ h Z Z fun _ N h=>X1 7 0 h Z ?_);obtain⟨_,b9,F⟩:=qc F;refine GQ (cB 30 Z) (CM (h.old S) b9) Z Z Z Z ?_;rintro _ _ _ X (⟨i1,rfl,rfl,rfl⟩|⟨S2,z,Y,v,x1,S3,b,a3,a,l,S4,d,a4,c,s,L,S5,g,a5,f,A,S6,k,a6,i,K,rfl,rfl,rfl⟩)
 .replace h:SH _ _ [oX N (gl j p1 y o p H I J M u k3 m B C D) 40]:=SH.appendN h X (show EL [] from trivial);refine X0 12 Z (qp Z F ?_ ?_)<;>intro F
  .refine X0 6 Z ?_;cases qe F;exact aq qa (ρ:=((List qK)×Int)) [oV (List qK) [oS U 0 0],oV Int [vi i1]] h ⟨Z,Z,G⟩ (Cq h (ai h fc ul (by rfl)))
  refine ZT ?_;obtain⟨a7,Q,_,F,O⟩:=bindE F;refine bd (fun e w'=>∃b1,a7 b1=V r/\e=[(1,vi node),(2,vi mode),(3,vi count),(10,.pointer U),(29,.bool b1)]/\SH w w' []) ?_ ?_
  .refine X0 2 Z (dF h F zU Z fun _ _ h F=>lY Z (qh (t:=25) F Z ?_ ?_))<;>intro F
   .refine X0 5 Z ?_;have h:=h.p [] Z;exact rH F O h Z
   refine X0 3 Z (dF h F aF Z fun _ _ h F=>X0 4 Z ?_);have h:=h.p [] Z;exact rH F O h Z
  rintro _ _ ⟨b1,F,rfl,h⟩;subst Q;refine qp Z F ?_ ?_<;>intro F
  .refine X0 5 Z ?_;cases qe F;exact aq qa (ρ:=((List qK)×Int)) [oV (List qK) [oS U 0 0],oV Int [vi 2]] h ⟨Z,Z,G⟩ (Cq h (ai h fc ul (by rfl)))
  refine X0 5 Z (uj h F (xN Z) Z fun _ _ _ _ _ h F=>cq Z ?_);obtain⟨_,_,F,T,_,_,_,_,b5,b7,rfl,a9⟩:=(h.sl 0 Z).1.ix F;refine zx b5 b7 ⟨T.1,qD T.2.1 (h.sl 0 Z).2⟩ Z (zc 0 a9 Z (X0 2 Z (qp Z F ?_ ?_)))<;>intro F
  .refine X0 5 Z ?_;cases qe F;exact aq qa (ρ:=((List qK)×Int)) [oV (List qK) [oS U 0 0],oV Int [vi 3]] h ⟨Z,Z,G⟩ (Cq h (ai h fc ul (by rfl)))
  refine E1 ?_;cases F
 replace h:SH _ _ [oW S2 (x1:List qg) [oS z Y v],oW S3 (l:List qg) [oS b a3 a],oW S4 (s:List Bool) [oS d a4 c],oX L [oL p1 j.Ac.Ar.Au M,oL y j.Ac.Aa.Ab u,oL o j.Ac.Aa.Am k3,oL p j.Ac.Aa.Ai m,oL H j.Ac.Ah B,.string j.Aj.Bh,vi j.Aj.Ba,vi j.Aj.Bd,vi j.Aj.Ay,vi j.Aj.Bc,oL I j.Av C,oL J j.Ap D,oS k a6 i,oS g a5 f,oS d a4 c,oS b a3 a,oS z Y v] 144,oW S5 (A:List Bool) [oS g a5 f],oW S6 (K:List qw) [oS k a6 i],oX N (gl j p1 y o p H I J M u k3 m B C D) 40]:=SH.appendN h X ⟨fun _ h=>h,⟨fun _ h=>h,⟨fun _ h=>h,⟨fun _ h=>h,⟨fun _ h=>h,⟨fun _ h=>h,G⟩⟩⟩⟩⟩⟩;obtain rfl:=(h.sl 0 Z).2;obtain rfl:=(h.sl 1 Z).2;obtain rfl:=(h.sl 2 Z).2;obtain rfl:=(h.sl 4 Z).2;obtain rfl:=(h.sl 5 Z).2;refine X0 12 Z (ch Z Z (ZT ?_));obtain⟨a8,R,_,F,P⟩:=bindE F;refine bd (fun e w'=>∃b3,a8 b3=V r/\e=[(1,vi node),(2,vi mode),(3,vi count),(10,vp L),(29,.bool b3)]/\SH w w' [oW S2 (x1:List qg) [oL z x1 v],oW S3 (l:List qg) [oL b l a],oW S4 (s:List Bool) [oL d s c],oX L [oL p1 j.Ac.Ar.Au M,oL y j.Ac.Aa.Ab u,oL o j.Ac.Aa.Am k3,oL p j.Ac.Aa.Ai m,oL H j.Ac.Ah B,.string j.Aj.Bh,vi j.Aj.Ba,vi j.Aj.Bd,vi j.Aj.Ay,vi j.Aj.Bc,oL I j.Av C,oL J j.Ap D,oL k K i,oL g A f,oL d s c,oL b l a,oL z x1 v] 144,oW S5 (A:List Bool) [oL g A f],oW S6 (K:List qw) [oL k K i]]) ?_ ?_
 .refine X0 2 Z (dF h F zU Z fun _ _ h F=>lY Z (qh (t:=25) F Z ?_ ?_))<;>intro F
  .refine X0 5 Z ?_;have h:=h.p [0,1,2,3,4,5] Z;exact rH F P h Z
  refine X0 3 Z (dF h F aF Z fun _ _ h F=>X0 4 Z ?_);have h:=h.p [0,1,2,3,4,5] Z;exact rH F P h Z
 rintro _ _ ⟨b3,F,rfl,h⟩;subst R;refine qp Z F ?_ ?_<;>intro F
 .refine X0 5 Z ?_;cases qe F;exact aq qa (ρ:=((List qK)×Int)) [oV (List qK) [oS U 0 0],oV Int [vi 2]] h ⟨Z,Z,G⟩ (Cq h (ai h fc ul (by rfl)))
 refine X0 5 Z (uj h F (xN (oB (x:=(⟨(⟨j.Ac,j.Aj,j.Av,j.Ap⟩:bg),K,A,(⟨s,l,x1⟩:qn)⟩:bC)) 3 h Z (show qm.R _ _ ((⟨(⟨j.Ac,j.Aj,j.Av,j.Ap⟩:bg),K,A,(⟨s,l,x1⟩:qn)⟩:bC):bC) _ from⟨[oL p1 j.Ac.Ar.Au M,oL y j.Ac.Aa.Ab u,oL o j.Ac.Aa.Am k3,oL p j.Ac.Aa.Ai m,oL H j.Ac.Ah B,.string j.Aj.Bh,vi j.Aj.Ba,vi j.Aj.Bd,vi j.Aj.Ay,vi j.Aj.Bc,oL I j.Av C,oL J j.Ap D],[oL k K i,oL g A f,oL d s c,oL b l a,oL z x1 v],Z,⟨[oL p1 j.Ac.Ar.Au M,oL y j.Ac.Aa.Ab u,oL o j.Ac.Aa.Am k3,oL p j.Ac.Aa.Ai m,oL H j.Ac.Ah B],[.string j.Aj.Bh,vi j.Aj.Ba,vi j.Aj.Bd,vi j.Aj.Ay,vi j.Aj.Bc,oL I j.Av C,oL J j.Ap D],Z,⟨[oL p1 j.Ac.Ar.Au M],[oL y j.Ac.Aa.Ab u,oL o j.Ac.Aa.Am k3,oL p j.Ac.Aa.Ai m,oL H j.Ac.Ah B],Z,⟨_,_,Z,(h.oldS s1)⟩,⟨[oL y j.Ac.Aa.Ab u,oL o j.Ac.Aa.Am k3,oL p j.Ac.Aa.Ai m],[oL H j.Ac.Ah B],Z,⟨[oL y j.Ac.Aa.Ab u],[oL o j.Ac.Aa.Am k3,oL p j.Ac.Aa.Ai m],Z,⟨_,_,Z,(h.oldS s2)⟩,⟨[oL o j.Ac.Aa.Am k3],[oL p j.Ac.Aa.Ai m],Z,⟨_,_,Z,(h.oldS s3)⟩,⟨_,_,Z,(h.oldS s4)⟩⟩⟩,⟨_,_,Z,(h.oldS s5)⟩⟩⟩,⟨[.string j.Aj.Bh,vi j.Aj.Ba,vi j.Aj.Bd,vi j.Aj.Ay,vi j.Aj.Bc],[oL I j.Av C,oL J j.Ap D],Z,⟨[.string j.Aj.Bh],[vi j.Aj.Ba,vi j.Aj.Bd,vi j.Aj.Ay,vi j.Aj.Bc],Z,Z,⟨[vi j.Aj.Ba],[vi j.Aj.Bd,vi j.Aj.Ay,vi j.Aj.Bc],Z,Z,⟨[vi j.Aj.Bd],[vi j.Aj.Ay,vi j.Aj.Bc],Z,Z,⟨[vi j.Aj.Ay],[vi j.Aj.Bc],Z,Z,Z⟩⟩⟩⟩,⟨[oL I j.Av C],[oL J j.Ap D],Z,⟨_,_,Z,(h.oldS s6)⟩,⟨_,_,Z,(h.oldS s7)⟩⟩⟩⟩,⟨[oL k K i],[oL g A f,oL d s c,oL b l a,oL z x1 v],Z,(h.own 5 Z),⟨[oL g A f],[oL d s c,oL b l a,oL z x1 v],Z,(h.own 4 Z),⟨[oL d s c],[oL b l a,oL z x1 v],Z,(h.own 2 Z),⟨[oL b l a],[oL z x1 v],Z,(h.own 1 Z),(h.own 0 Z)⟩⟩⟩⟩⟩))) Z fun _ _ _ _ _ h F=>cq Z ?_);obtain⟨_,_,F,W,_,_,_,_,b6,b8,rfl,b4⟩:=(h.sl 0 Z).1.ix F;refine zx b6 b8 ⟨W.1,qD W.2.1 (h.sl 0 Z).2⟩ Z (zc 0 b4 Z (X0 2 Z (qp Z F ?_ ?_)))<;>intro F
 .refine X0 5 Z ?_;cases qe F;exact aq qa (ρ:=((List qK)×Int)) [oV (List qK) [oS U 0 0],oV Int [vi 3]] h ⟨Z,Z,G⟩ (Cq h (ai h fc ul (by rfl)))
 refine E1 ?_;cases F
def uq(_:Nat)(list:List qK):Option Int:=V (list.length:Int)
theorem xX{list:List qK}(a:Ro w list cs1){r:Int}(F:uq n list=V r):qP prog 29 [gv list cs1] w r:=by
 obtain⟨_,_,rfl,_⟩:=a;exact zV 5 func29 Z fun h=>X0 10 Z (ri h F Z)
def nA(Cg:Int)(b:Option aY)(c:List qK):Nat->(List qK)->Int->Option ((List qK)×Int)|0,_,_=>U|n+1,x1,a=>bif decide (a<(c.length:Int)) then(qF x1 a).bind fun d=>(gp n b d.Bo d.Bl).bind fun g=>(vR n g Cg).bind fun h=>(qF x1 a).bind fun f=>nA Cg b c n (ak x1 a (⟨f.Bo,f.Bl,h⟩:qK)) (qj (a+1)) else V (x1,a)
def sP(n:Nat)(Ce:bg)(Cf:Int)(Cg:Int)(a:Int):Option ((List qK)×Int):=(dV n Ce Cg ([Cf]:List Int)).bind fun(b,c)=>bif (c != 0) then V ([],c) else(bU n a 0 20).bind fun h=>bif (!h) then V ([],2) else(gB n b Cf).bind fun i=>bif decide (i > 300) then V ([],3) else(pd n b Cf).bind fun d=>(nA Cg b d n d 0).bind fun(x1,_)=>(NN n x1 Cg).bind fun g=>(uq n g).bind fun f=>(wT g 0 (if f<a then f else a)).bind fun k=>V (k,0)
theorem MZ{Ce:bg}{Cf Cg c}(i:Ro w Ce cs1){r:(List qK)×Int}(F:sP n Ce Cf Cg c=V r):qP prog 7 [gv Ce cs1,vi Cf,vi Cg,vi c] w r:=by
 obtain⟨_,_,_,_,_,_,_,_,_,_,_,_,_,_,rfl,_,_,_,_,_,_,_⟩:=dJ i;refine zV 68 func7 Z fun h=>dE (qJ h Z Z fun _ _ h=>X1 8 0 h Z (qv qa [.tmp 18] _ ([Cf]:List Int) h z9 ⟨Z,G⟩ Z fun _ _ _ h=>?_));have d:Rg (old w) w (old w) w:=.start (fun _ h=>h);obtain⟨⟨r2,r3⟩,O,F⟩:=qc F;refine pg (r2,r3) d h (cB 22 Z) (vy (d.regOld h) (d.inR h i) (Rg.ownR 0 h Z) O) Z Z Z Z fun w3 _ _ a v Y T=>?_;have hL1:=h.ext v.below;have hb1:=h.below.trans (v.below.mono h.below.size);have h:=Y;obtain⟨_,_,rfl,P,W⟩:=dA T;obtain⟨p9,rfl,s8⟩:=aM P;obtain⟨_,rfl,Q⟩:=mS W;obtain rfl:=Q;refine X0 14 Z (qp Z F ?_ ?_)<;>intro F
 .refine X0 6 Z ?_;have h:=h.unbase a.below (show EL [] from trivial);cases qe F;exact aq qa (ρ:=((List qK)×Int)) [oV (List qK) [oS U 0 0],oV Int [vi r3]] h ⟨Z,Z,G⟩ (Cq h (ai h fc ul (by rfl)))
 refine X0 3 Z (dF h F bn Z fun _ _ h F=>X0 3 Z (qp Z F ?_ ?_))<;>intro F
 .refine X0 5 Z ?_;have h:=h.unbase a.below (show EL [] from trivial);cases qe F;exact aq qa (ρ:=((List qK)×Int)) [oV (List qK) [oS U 0 0],oV Int [vi 2]] h ⟨Z,Z,G⟩ (Cq h (ai h fc ul (by rfl)))
 refine X0 4 Z (mN h F (tI (h.old (qm.mono s8 a.old))) Z fun _ _ h F=>X0 3 Z (qp Z F ?_ ?_))<;>intro F
 .refine X0 5 Z ?_;have h:=h.unbase a.below (show EL [] from trivial);cases qe F;exact aq qa (ρ:=((List qK)×Int)) [oV (List qK) [oS U 0 0],oV Int [vi 3]] h ⟨Z,Z,G⟩ (Cq h (ai h fc ul (by rfl)))
 refine X0 6 Z (uj h F (BO (h.old (qm.mono s8 a.old))) Z fun f _ _ b D h F=>X0 9 Z ?_);obtain⟨o1,F,I⟩:=qc F;refine qr (rL (fun m e w'=>∃S3 x1 A,nA Cg r2 f m x1 A=V o1/\e=[(2,vi Cg),(3,vi c),(10,.pointer p9),(12,oL b f D),(39,oL b f D),(40,vi (f.length:Int)),(41,vi A)]/\SH w3 w' [oW S3 (x1:List qK) [oL b f D]]) n ⟨_,_,_,F,Z,h⟩ Z ?_);rintro m1 _ _ ⟨S3,x1,A,F,rfl,h⟩;rcases m1 with _|m1
 .cases F
 refine X0 5 Z (qp Z F ?_ ?_)<;>intro F
 .refine X0 6 Z ?_;obtain⟨y1,y,F⟩:=qc F;have k:=bH y;have h:=h.lrn0 0 Z;obtain⟨_,o_1,_,_,M,N,-,u,J⟩:=(kZ (h.lrnO 0 Z)).1.at y;have R:=u;obtain⟨a4,k9,rfl,_⟩:=fb u;have h:=h.lrnAdd 0 Z R;refine zx M N ⟨k.1,qD k.2.1 (kZ (h.lrnO 0 Z)).2⟩ Z (zc 0 J Z (qi qa h Z Z Z fun _ H h=>cq Z (zs 0 h Z fun _ h=>X2 9 0 0 h Z (qbE h F (rE (h.old (qm.mono s8 a.old)) ⟨_,_,Z,(yF (qm.mono (h.lrnS 1 0 Z Z) (h.lrnB 1 Z))).1⟩) Z fun r7 _ S4 _ h F=>?_))));obtain rfl:=qA (h.own 0 Z);refine cq Z (mN h F (zM (h.own 0 Z)) Z fun r8 _ h F=>?_);obtain⟨g,z,F⟩:=qc F;have l:=bH z;have h:=h.unlrn 2 Z;have h:=h.p [2,0,1] Z;obtain⟨_,S6,_,h⟩:=h.take z;obtain⟨C,B,rfl,-⟩:=fb (h.own 0 Z);obtain⟨S7,h⟩:=WQ h;obtain⟨_,p,-,-,K⟩:=h.holeAt 1 Z;obtain⟨q2,t⟩:∃q,q=0+(A).toNat*qm.k qK:=⟨_,Z⟩;refine zx p t ⟨l.1,qD l.2.1 K⟩ Z (cq Z (GR qa 1 2 h Z p t Z Z Z Z Z Z fun _ h=>?_));replace h:SH _ _ [oW S7 (g.Bl:List Int) [oL C g.Bl B],Ch.hole S6 (x1:List qK) b f.length D (A).toNat [vi g.Bo,oL C g.Bl B,vi r8],oW S4 (r7:qg) (oP r7),oX H (xi y1 a4 k9) 56]:=h;refine X0 6 Z ?_;obtain⟨_,h⟩:=h.gather [1,2,3] (WD (⟨g.Bo,g.Bl,r8⟩:qK) h vk (qS 0 h Z) vk (by rfl) (by rfl)) Z;have h:=h.put;obtain⟨_,h⟩:=FF (S:=_) h;exact rK ⟨_,_,_,F,Z,h.p [0] Z⟩ Z
 refine qx Z ?_;cases qe F;have F:=I;refine X0 4 Z ?_;obtain⟨_,X,F⟩:=qc F;refine xB (cB 28 Z) (WO 0 h Z X) Z Z Z Z ?_;rintro _ ⟨_,h⟩;refine X0 6 Z (mN h F (xX (h.own 0 Z)) Z fun _ _ h F=>cq Z ?_);obtain⟨x3,x,F⟩:=qc F;obtain⟨a5,a3,s,o,L,g1⟩:=TF (h.sl 0 Z).1 x;refine dK (HC qa Z Z Z (TD g1 (h.sl 0 Z).2) s o L Z Z Z Z) Z ?_;have h:=h.cutS 0 Z x s o;refine X0 3 Z ?_;have h:=h.unbase a.below ⟨fun _ h=>h,G⟩;cases qe F;exact aq qa (ρ:=((List qK)×Int)) [oV (List qK) [oL a5 x3 a3],oV Int [vi 0]] h ⟨Z,Z,G⟩ (Cq h (ai h (qS 0 h Z) ul (by rfl)))
end Go.Fw


namespace Go.Fw
open Go
set_option maxRecDepth 100000
def LR(j:bg)(t:qn):Option bC:=V ⟨j,qd j.Ac,pB j.Ac j.Av,t⟩
theorem LY{j:bg}(h:mQ j) :
  (∃code:Int,code≠0/\Ev (fun n=>bS n j) (U,code)/\∀mode nodes,Ev (fun n=>dV n j mode nodes) (U,code)) \/
  ∃t R,sy j t R/\Ev (fun n=>bS n j) (LR j t,0)/\∀mode nodes,nodes.length<=1048576->(mode=0\/mode=1) ->
   Ev (fun n=>dV n j mode nodes) (bif nodes.all (fun x=>gd x 0 ((vt j.Ac:Int)-1)) then(yi j t R,0) else(U,4)):=by
 have c:=h.Av.len;unfold bS dV;rcases ME h with⟨code,hne,hs,hi⟩|⟨t,R,hw,hs,hi⟩
 .exact .inl ⟨code,hne,Ck hs (Cr (oR hne) .done),fun mode nodes=>Ck hi (Cr (oR hne) .done)⟩
 .have a:=hw.tg.bl;have d:=lG a;have g:=bf (qZ (aO a));have l:=pz (ls:=qd j.Ac) (br:=j.Av) d c;refine .inr ⟨t,R,hw,Ck hs (Cp Z (Ck (gL a) (Ck l .done))),fun mode nodes k i=>Ck hi (Cp Z ?_)⟩;have f:=yC (v:=nV j.Ac) g;have e1:qj (((2*(nV j.Ac).places.length:Nat):Int)-1)=(vt j.Ac:Int)-1:=by
   show qj (((2*(places j.Ac.Aa).length:Nat):Int)-1)=_;rw[qY (by omega) (by omega)]
  unfold yi XD;simp only[jd,f,e1];refine Ck (iJ k) ?_;cases nodes.all fun x=>gd x 0 ((vt j.Ac:Int)-1)
  .exact Cr Z .done
  .refine Cp Z ?_;rcases i with rfl|rfl<;>exact Ck (b:=An) (Cx Z) (Cp Z .done)
theorem SB{j:bg}{t:qn}{node:Int}(h:j.Ap.length<=1048576):Ev (fun n=>ue n (LR j t) node) ((bh (aI j.Ap node)).2,(bh (aI j.Ap node)).1):=by
 have g:Ev (fun n=>gz (LR j t) node n 0) (match aI j.Ap node with|some y=>.ret (y,An)|none=>.nxt (j.Ap.length:Int)):=by
  have c:∀d i,i+d=j.Ap.length->(j.Ap.take i).find? (fun s=>s.Bn==node)=U->Ev (fun n=>gz (LR j t) node n (i:Int)) (match aI j.Ap node with|some y=>.ret (y,An)|none=>.nxt (j.Ap.length:Int)):=by
   intro d
   induction d with
   |zero=>
    intro i hi b;obtain rfl:i=j.Ap.length:=by omega
    rw[jG] at b;unfold aI;rw[b];refine Cm ?_;simp only[gz,LR,jd,qu (jf _),Cj];exact .done
   |succ d ih=>
    intro i hi b;have a:i<j.Ap.length:=by omega
    refine Cm ?_;simp only[gz,LR,jd,qq a,Ci,qz a,wS i];cases hq:(gt j.Ap i).Bn==node
    .refine ih (i+1) (by omega) ?_;rw[jw a,List.find?_append,b,<-fh a,List.find?_cons_of_neg (by simp[hq])]
     rfl
    .have f:j.Ap.drop i=gt j.Ap i::j.Ap.drop (i+1):=by rw[fh a];exact jF a
     have:aI j.Ap node=V (gt j.Ap i):=by
      generalize gt j.Ap i=y at hq f;unfold aI;rw[<-List.take_append_drop i j.Ap,List.find?_append,b,f,List.find?_cons_of_pos (by simpa using hq)]
      rfl
     rw[this];exact .done
  exact c j.Ap.length 0 (by omega) Z
 unfold ue;refine Ck g ?_;cases aI j.Ap node<;>exact .done
def TO(ls:List qw)(start:Int)(path:List Int):Nat->Int
 |0=>start
 |j+1=>(gt ls (bO path j).toNat).To
def okP(ls:List qw)(lv:List Bool)(start:Int)(path:List Int)(j:Nat):Bool:=
 gd (bO path j) 0 ((ls.length:Int)-1)&&(gt lv (bO path j).toNat&&((gt ls (bO path j).toNat).Bk==TO ls start path j))
def mY(j:bg)(start:Int)(path:List Int):Bool:=(bh (aI j.Ap start)).1&&bE (okP (qd j.Ac) (pB j.Ac j.Av) start path) path.length
def YC(j:bg)(start:Int)(path:List Int):Int:=TO (qd j.Ac) start path path.length
theorem uN{x:Int}{m:Nat}(h:gd x 0 ((m:Int)-1)=An):0<=x/\x<(m:Int)/\x.toNat<m:=by rw[bV] at h;omega
def zR(ls:List qw)(path:List Int)(j:Nat):Bool:=gd (bO path j) 0 ((ls.length:Int)-1)&&(decide (j=0) || (gt ls (bO path (j-1)).toNat).To==(gt ls (bO path j).toNat).Bk)
theorem G6{v:cL}{path:List Int}(h:v.links.length<=10000)(o:path.length<=1048576):Ev (fun n=>pZ n (V v) path) (bE (zR v.links path) path.length):=by
 have g:=QF (τ:=Unit) (Lf:=fun n _ x=>eZ (V v) path n x) (S:=fun _=>()) (p:=zR v.links path) (len:=path.length) (bad:=Cd) (fin:=(path.length:Int))
  (fun n=>by simp only[eZ,qu (jf _),Cj])
  (fun i hi b X a=>by
   have f:qj ((v.links.length:Int)-1)=(v.links.length:Int)-1:=qY (by omega) (by omega);simp only[eZ,qq hi,Ci,jd,aX hi,uA,gZ,fx,f,wS i];unfold zR at a⊢;cases hr:gd (bO path i) 0 ((v.links.length:Int)-1)
   .exact .done
   .obtain⟨m,r1,r⟩:=uN hr;rw[hr] at a;refine Cp Z ?_;by_cases d:i=0
    .subst d;exact Cp Z (a Z)
    .refine Cr (decide_eq_true (by omega)) ?_;have c:=b (i-1) (by omega);unfold zR at c;rw[je] at c;obtain⟨k,l,_⟩:=uN c.1;rw[show(i:Int)-1=((i-1:Nat):Int) by omega,qY (by omega) (by omega)];simp only[aX (show i-1<path.length by omega),jd,kO k l,kO m r1,bne];rw[decide_eq_false d] at a⊢;cases he:(gt v.links (bO path (i-1)).toNat).To==(gt v.links (bO path i).toNat).Bk
     .exact .done
     .rw[he] at a;exact a Z)
 unfold pZ;refine Ck g ?_;cases bE (zR v.links path) path.length<;>exact .done
theorem XO{j:bg}{t:qn}{R:List Nat}{path:List Int}(g:path.length<=1048576)(d:∀x,x∈path->0<=x/\x<(yX j.Ac:Int)):Ev (fun n=>aC n path (yi j t R)) (!path.all fun x=>gt (pB j.Ac j.Av) x.toNat):=by
 have b:(pB j.Ac j.Av).length=yX j.Ac:=uO;have c:Ev (fun n=>bW n path (yi j t R)) (KZ (fun x=>!gt (pB j.Ac j.Av) x.toNat) path):=
  nF (fin:=(path.length:Int)) (Lf:=aE path (yi j t R)) (xs:=path) (pf:=fun n x=>mC n x (yi j t R)) (fun x a=>by
    obtain⟨f,x1⟩:=d x a;unfold mC yi XD;simp only[jd,kO f (show x<((pB j.Ac j.Av).length:Int) by rw[b];exact x1)];exact .done)
   (fun n=>by simp only[aE,qu (jf _),Cj])
   (fun n i x a=>by
    have hi:=(List.getElem?_eq_some_iff.1 a).1;simp only[aE,qq hi,Ci,pp a,jd,wS i])
   (fun n=>by unfold bW;congr 1;funext o;cases o<;>rfl)
 unfold aC;refine Ck c (Cx ?_);rw[BP,<-GG,Bool.not_not]
theorem VG{j:bg}{t:qn}{R:List Nat}{start:Int}{path:List Int}(B:aU j.Ac=An)(F:j.Ap.length<=1048576)(z:path.length<=1048576):Ev (fun n=>oa n (yi j t R) start path) (mY j start path):=by
 have l:=lG B;have C:=CN (xs:=j.Ap) (node:=start) F;have d:=G6 (v:=nV j.Ac) (path:=path) l z;have A:(nV j.Ac).links=qd j.Ac:=rfl;rw[A] at d;have fr:path.length≠0->bE (zR (qd j.Ac) path) path.length=An->∃k:Nat,k<yX j.Ac/\bO path 0=(k:Int):=fun c a=>by
  rw[aG] at a;have:=a 0 (by omega);unfold zR at this;rw[je] at this;obtain⟨g,r,H⟩:=uN this.1;exact⟨(bO path 0).toNat,H,fa g⟩
 have m:bE (zR (qd j.Ac) path) path.length=An->∀x,x∈path->0<=x/\x<(yX j.Ac:Int):=fun a x o=>by
  obtain⟨i,hi,rfl⟩:=List.mem_iff_getElem.1 o;rw[aG] at a;have:=a i hi;unfold zR at this;rw[je] at this;obtain⟨g,r,_⟩:=uN this.1;rw[wx hi] at g r;exact⟨g,r⟩
 have p:bE (okP (qd j.Ac) (pB j.Ac j.Av) start path) path.length=(bE (zR (qd j.Ac) path) path.length&&(bif decide (path.length=0) then An else((gt (qd j.Ac) (bO path 0).toNat).Bk==start)&&path.all fun x=>gt (pB j.Ac j.Av) x.toNat)):=by
  rw[jn,je,aG,aG];unfold okP zR;simp only[je,Bool.or_eq_true,decide_eq_true_eq,beq_iff_eq];constructor
  .intro f;refine⟨fun i hi=>⟨(f i hi).1,?_⟩,?_⟩
   .cases i with
    |zero=>exact .inl Z
    |succ i=>exact .inr (f (i+1) hi).2.2.symm
   .by_cases c:path.length=0
    .rw[decide_eq_true c];rfl
    .rw[decide_eq_false c];simp only[Cj,je,beq_iff_eq,Jc];refine⟨(f 0 (by omega)).2.2,fun x o=>?_⟩;obtain⟨i,hi,rfl⟩:=List.mem_iff_getElem.1 o;rw[<-wx hi];exact(f i hi).2.1
  .rintro⟨y,a⟩ i hi;rw[decide_eq_false (by omega)] at a;simp only[Cj,je,beq_iff_eq,Jc] at a;refine⟨(y i hi).1,by rw[wx hi];exact a.2 _ (jo hi),?_⟩;cases i with
   |zero=>exact a.1
   |succ i=>
    rcases (y (i+1) hi).2 with e|e
    .omega
    .exact e.symm
 unfold oa mY;rw[p];show Ev (fun n=>(fB n j.Ap start).bind _) _;refine Ck C ?_;cases hs:(bh (aI j.Ap start)).1
 .exact Ck (b:=An) (Cr Z .done) (Cr Z .done)
 .cases a:bE (zR (qd j.Ac) path) path.length
  .rw[a] at d;exact Ck (b:=An) (Cp Z (Cy Z (Ck d .done))) (Cr Z .done)
  .have u:=XO (j:=j) (t:=t) (R:=R) z (m a);have h:=fr;rw[a] at d;refine Ck (b:=Cd) (Cp Z (Cy Z (Ck d .done))) (Cp Z ?_);by_cases c:path.length=0
   .rw[decide_eq_true c];refine Cp (decide_eq_false (by omega)) (Ck u (Cx ?_));rw[List.length_eq_zero_iff.1 c]
    rfl
   .rw[decide_eq_false c];obtain⟨k,D,s⟩:=h c a;refine Cr (decide_eq_true (by omega)) ?_;show Ev (fun n=>(qF path 0).bind fun J=>(qF (qd j.Ac) J).bind fun K=>bif (K.Bk != start) then V Cd else(aC n path (yi j t R)).bind fun I=>V (!I)) _;rw[show qF path (0:Int)=V (k:Int) by rw[show(0:Int)=((0:Nat):Int) from rfl,aX (by omega),s]];simp only[jd,qz D,bne];rw[s,jr];cases (gt (qd j.Ac) k).Bk==start
    .exact .done
    .refine Cp Z (Ck u (Cx ?_));rw[Bool.not_not]
     rfl
theorem VY{j:bg}{start:Int}{path:List Int}(h:mQ j)(c:path.length<=1048576){mode:Int}(b:mode=0\/mode=1) :
  (∃code:Int,code≠0/\Ev (fun n=>bS n j) (U,code)/\Ev (fun n=>gh n j mode start path) (U,code)) \/
  ∃t R,sy j t R/\Ev (fun n=>bS n j) (LR j t,0)/\Ev (fun n=>gh n j mode start path) (bif mY j start path then(yi j t R,0) else(U,5)):=by
 unfold gh;rcases LY h with⟨code,hne,hs,hi⟩|⟨t,R,hw,hs,hi⟩
 .exact .inl ⟨code,hne,hs,Ck (hi mode []) (Cp (by simpa using hne) .done)⟩
 .have a:=VG (t:=t) (R:=R) (start:=start) hw.tg.bl h.Ap.len c;refine .inr ⟨t,R,hw,hs,Ck (hi mode [] (jR _) b) (Cr Z (Ck a ?_))⟩;cases mY j start path<;>exact .done
theorem SO{j:bg}{t:qn}{R:List Nat}{start:Int}{path:List Int}(k:path.length<=1048576)(a:mY j start path=An):Ev (fun n=>ng n (yi j t R) start path) (pre (TO (qd j.Ac) start path) (path.length+1)):=by
 unfold mY at a;rw[je,aG] at a;have d:=fD (Lf:=fun n s i=>eH (yi j t R) path n s i) (S:=fun i=>pre (TO (qd j.Ac) start path) (i+1)) (len:=path.length) (fin:=(pre (TO (qd j.Ac) start path) (path.length+1),(path.length:Int)))
  (fun n=>by simp only[eH,qu (jf _),Cj])
  (fun i hi X g=>by
   have:=a.2 i hi;unfold okP at this;rw[je] at this;obtain⟨h,r1,_⟩:=uN this.1;have c:(nV j.Ac).links=qd j.Ac:=rfl;simp only[eH,qq hi,Ci,aX hi,jd,yi,XD,c,kO h r1,wS i];have b:dj (pre (TO (qd j.Ac) start path) (i+1)) [(gt (qd j.Ac) (bO path i).toNat).To]=V (pre (TO (qd j.Ac) start path) (i+1+1)):=GN (f:=TO (qd j.Ac) start path) (j:=i+1) (by omega);rw[b];exact g)
 unfold ng;exact Ck d .done

section
variable{L:Nat}{fr to:Nat->Int}{lv:Nat->Bool}{n:Nat}{R:List Nat}
theorem um.ne(h:um L fr to lv n R){i j:Nat}(a:i<j)(b:j<R.length):R[i]'(by omega)≠R[j]:=fun e=>
 (h.at b).2.1 (by rw[<-e,List.mem_iff_getElem];exact⟨i,by rw[jy];omega,by rw[Jh]⟩)
theorem um.nodup(h:um L fr to lv n R):R.Nodup:=by
 unfold List.Nodup;rw[List.pairwise_iff_getElem];exact fun i j _ b a=>h.ne a b
theorem um.full(h:um L fr to lv n R)(g:R.length=n){k:Nat}(c:k<n):∃i,∃hi:i<R.length,R[i]=k:=by
 refine Classical.byContradiction fun b=>?_;have f:k∉R:=fun d=>b (List.mem_iff_getElem.1 d);have:=GF (l:=k::R) (l':=List.range n) (List.nodup_cons.2 ⟨f,h.nodup⟩) (fun x a=>by
  rw[List.mem_range];rcases List.mem_cons.1 a with rfl|a
  .exact c
  .obtain⟨i,hi,rfl⟩:=List.mem_iff_getElem.1 a;exact(h.at hi).1)
 rw[Jj,List.length_range] at this;omega
theorem um.later(h:um L fr to lv n R)(p:R.length=n){x a c:Nat}(s:x<L)(r:lv x=An)(m:fr x=(a:Int))(o:to x=(c:Int))(f:c<n){i:Nat}(hi:i<R.length)(b:R[i]=a):∃j,∃k:j<R.length,i<j/\R[j]=c:=by
 obtain⟨j,k,e⟩:=h.full p f;have l:=(h.at k).2.2;rw[e] at l;have:=wJ.1 l x s r o;rw[m,pC,List.mem_iff_getElem] at this;obtain⟨t,g,d⟩:=this;rw[jy] at g;rw[Jh] at d;refine⟨j,k,?_,e⟩;rcases Nat.lt_trichotomy i t with hh|hh|hh
 .exact absurd (b.trans d.symm) (h.ne hh (by omega))
 .omega
 .exact absurd (d.trans b.symm) (h.ne hh hi)
end
theorem V5{j:bg}{t:qn}{R:List Nat}{start:Int}{path:List Int}(o:sy j t R)(k:mY j start path=An):path.length<=156:=by
 have s:=o.tg.bl;have g:=kf s;have y:=o.tg.ord;have v:=o.tg.len;have D:=bf (qZ (aO s));have M:vt j.Ac<=156:=by show 2*(places j.Ac.Aa).length<=156;omega
 by_cases L:path.length=0
 .omega
 unfold mY at k;rw[je,aG] at k;have step:∀i,i<path.length->∃x a c:Nat,x<yX j.Ac/\zr (pB j.Ac j.Av) x=An/\AO (qd j.Ac) x=(a:Int)/\DK (qd j.Ac) x=(c:Int)/\a<vt j.Ac/\c<vt j.Ac/\TO (qd j.Ac) start path i=(a:Int)/\TO (qd j.Ac) start path (i+1)=(c:Int):=by
  intro i hi;have:=k.2 i hi;unfold okP at this;simp only[je,beq_iff_eq] at this;obtain⟨H,n,l⟩:=this;obtain⟨N,r1,f⟩:=uN H;have r:=g.fr0 _ f;have K:=g.fr1 _ f;have z:=g.to0 _ f;have O:=g.to1 _ f;refine⟨(bO path i).toNat,(gt (qd j.Ac) (bO path i).toNat).Bk.toNat,(gt (qd j.Ac) (bO path i).toNat).To.toNat,f,n,fa r,fa z,?_,?_,?_,fa z⟩
  .show _<2*(places j.Ac.Aa).length;omega
  .show _<2*(places j.Ac.Aa).length;omega
  .rw[<-l];exact fa r
 have d:∀i,i<=path.length->∃p,∃b:p<R.length,i<=p/\(R[p]:Int)=TO (qd j.Ac) start path i:=by
  intro i
  induction i with
  |zero=>
   intro _;obtain⟨x,a,c,_,_,_,_,u,_,e,_⟩:=step 0 (by omega);obtain⟨p,b,h⟩:=y.full v u;exact⟨p,b,jR _,by rw[h,e]⟩
  |succ i ih=>
   intro hi;obtain⟨p,b,m,h⟩:=ih (by omega);obtain⟨x,a,c,J,n,l,I,u,B,e1,A⟩:=step i (by omega);obtain⟨q,F,C,eq⟩:=y.later v J n l I B b (by rw[e1] at h;omega);exact⟨q,F,by omega,by rw[eq,A]⟩
 obtain⟨p,b,m,_⟩:=d path.length (jf _);omega

def pD(m:Int):Bool:=(m==0) || (m==1)
theorem vh{m:Int}(h:pD m=An):m=0\/m=1:=by unfold pD at h;simpa using h
theorem U5{m:Int}(h:pD m=Cd):(m==0)=Cd/\(m==1)=Cd:=by unfold pD at h;simpa using h
theorem QA{n:Nat}{m:Int}:xq n m=V (pD m):=by
 unfold xq pD;cases m==0<;>rfl
theorem FB{n:Nat}{m:Int}:rn n m=V (pD m):=by
 unfold rn pD;cases m==0<;>rfl
theorem VX{j:bg}{start:Int}{path:List Int}(h:mQ j)(i:path.length<=1048576)(mode:Int) :
  (∃code:Int,code≠0/\Ev (fun n=>bS n j) (U,code)/\Ev (fun n=>gh n j mode start path) (U,code)) \/
  ∃t R,sy j t R/\Ev (fun n=>bS n j) (LR j t,0)/\Ev (fun n=>gh n j mode start path) (bif pD mode then bif mY j start path then(yi j t R,0) else(U,5) else(U,2)):=by
 cases hm:pD mode
 .obtain⟨l,m⟩:=U5 hm;have c:=h.Av.len;unfold bS gh dV;rcases ME h with⟨code,hne,hs,hi⟩|⟨t,R,hw,hs,hi⟩
  .exact .inl ⟨code,hne,Ck hs (Cr (oR hne) .done),Ck (b:=(U,code)) (Ck hi (Cr (oR hne) .done)) (Cp (by simpa using hne) .done)⟩
  .have a:=hw.tg.bl;have d:=lG a;have g:=bf (qZ (aO a));have k:=pz (ls:=qd j.Ac) (br:=j.Av) d c;refine .inr ⟨t,R,hw,Ck hs (Cp Z (Ck (gL a) (Ck k .done))),Ck (b:=(U,2)) (Ck hi (Cp Z ?_)) .done⟩;have f:=yC (v:=nV j.Ac) g;unfold yi XD;simp only[jd,f];refine Ck (iJ (jR _)) (Cp Z ?_);simp only[QA,hm];exact .done
 .exact VY h i (vh hm)
theorem V4{j:bg}{start:Int}{path:List Int}(a:mY j start path=An){i:Nat}(hi:i<path.length):∃k:Nat,k<yX j.Ac/\bO path i=(k:Int):=by
 unfold mY at a;rw[je,aG] at a;have:=a.2 i hi;unfold okP at this;rw[je] at this;obtain⟨b,_,c⟩:=uN this.1;exact⟨(bO path i).toNat,c,fa b⟩
def IC(m:Int)(s:qg):Int:=bif m==1 then s.Be else s.As
theorem VS{m:Int}{a b:qg}:qj (IC m a+IC m b)=IC m (ur a b):=by
 unfold IC ur;cases m==1<;>rfl
theorem qbQ{n:Nat}{m:Int}{s:qg}(h:pD m=An):vR n s m=V (IC m s):=by
 rcases vh h with rfl|rfl<;>rfl
def ED(f:Nat->qg->qg×qg)(ls:List qw)(t:qn)(a0:qg)(path:List Int):Nat->qg
 |0=>a0
 |i+1=>ur (ED f ls t a0 path i) (f (bO path i).toNat (gt t.Bb (gY ls (bO path i).toNat))).1
section
variable{j:bg}{t:qn}{R:List Nat}{start:Int}{path:List Int}{f:Nat->qg->qg×qg}
theorem qbv(h:mQ j)(p:sy j t R)(z:EN j.Ac j.Aj [] f)(B:path.length<=1048575)(y:mY j start path=An) :
  Ev (fun n=>tJ n (yi j t R) start path) (pre (ED f (qd j.Ac) t (bh (aI j.Ap start)).2.Af path) (path.length+1)):=by
 have A:=kf p.tg.bl;have o:=p.tm;obtain⟨a0,x⟩:∃a,a=(bh (aI j.Ap start)).2.Af:=⟨_,Z⟩;have v:=fD (Lf:=fun n (s:List qg×qg) i=>ke path ⟨XD j.Ac j.Av,j,t,dW R⟩ n s.1 s.2.As s.2.Be i) (S:=fun i=>(pre (ED f (qd j.Ac) t a0 path) (i+1),ED f (qd j.Ac) t a0 path i)) (len:=path.length) (fin:=(pre (ED f (qd j.Ac) t a0 path) (path.length+1),(ED f (qd j.Ac) t a0 path path.length).As,(ED f (qd j.Ac) t a0 path path.length).Be,(path.length:Int)))
  (fun n=>by simp only[ke,qu (jf _),Cj])
  (fun i hi X g=>by
   obtain⟨k,b,m⟩:=V4 y hi;obtain⟨e1,l⟩:=tu A b;obtain⟨_,s1⟩:=z k _ b (o.sl _ l);have c:ED f (qd j.Ac) t a0 path (i+1)=ur (ED f (qd j.Ac) t a0 path i) (f k (gt t.Bb (gY (qd j.Ac) k))).1:=by
    show ur _ _=_;rw[m,jr]
   have r:(nV j.Ac).links=qd j.Ac:=rfl;have d:dj (pre (ED f (qd j.Ac) t a0 path) (i+1)) [ED f (qd j.Ac) t a0 path (i+1)]=V (pre (ED f (qd j.Ac) t a0 path) (i+1+1)):=GN (by omega);simp only[ke,qq hi,Ci,aX hi,jd,m,yi,XD,r,qz b,e1,qz (show gY (qd j.Ac) k<t.Bb.length by rw[o.s];exact l),wS i];refine Ck s1 ?_;generalize (f k (gt t.Bb (gY (qd j.Ac) k))).1=q at c;generalize ED f (qd j.Ac) t a0 path i=u at c;simp only[pv,jd];rw[c] at d g;unfold ur at d g;rw[d];exact g)
 unfold tJ;show Ev (fun n=>(fB n j.Ap start).bind _) _;refine Ck (CN h.Ap.len) ?_;subst x;exact Ck v .done
theorem B4(h:mQ j)(d:sy j t R)(b:EN j.Ac j.Aj [] f)(c:path.length<=1048575)(a:mY j start path=An) :
  Ev (fun n=>gp n (yi j t R) start path) (ED f (qd j.Ac) t (bh (aI j.Ap start)).2.Af path path.length):=by
 unfold gp;refine Ck (qbv h d b c a) ?_;rw[rg (by omega)];exact .done
end
section
variable{j:bg}{t:qn}{R:List Nat}{start mode:Int}{path:List Int}{d:Nat->Int->Int×Int}
end

def XE(x:Int):Int:=if x<1000000 then x else 1000000
theorem qcv{x:Int}:(if 1000000<x then 1000000 else x)=XE x:=by unfold XE;split<;>split<;>omega
def TP(ls:List qw)(lv:List Bool)(c:List Int)(node:Int)(a:Int)(j:Nat):Int:=(lg (uh ls lv node) j).foldl (fun v k=>XE (qj (v+gt c (gY ls k)))) a
theorem MO{ls:List qw}{lv:List Bool}{c:List Int}{node a:Int}{j:Nat}:TP ls lv c node a (j+1)=bif uh ls lv node j then XE (qj (TP ls lv c node a j+gt c (gY ls j))) else TP ls lv c node a j:=by
 unfold TP;rw[wr,List.foldl_append];cases uh ls lv node j<;>rfl
theorem ZI{α:Type}{xs:List α}{k:Nat}{u v:α}:ak (ak xs (k:Int) u) (k:Int) v=ak xs (k:Int) v:=by
 unfold ak;rw[List.set_set]
def ZM(j:bg)(node:Int):Int:=bif (bh (aI j.Ap node)).1 then 1 else 0
theorem F6{ls:List qw}{lv:List Bool}{c c':List Int}{node a:Int}:∀j,(∀x,x<j->uh ls lv node x=An->gt c (gY ls x)=gt c' (gY ls x))->TP ls lv c node a j=TP ls lv c' node a j:=by
 intro j
 induction j with
 |zero=>intro _;rfl
 |succ j ih=>
  intro h;rw[MO,MO,ih fun x b=>h x (by omega)];cases hq:uh ls lv node j
  .rfl
  .simp only[Ci];rw[h j (by omega) hq]
theorem XY{j:bg}{t:qn}{R:List Nat}(h:mQ j)(Q:sy j t R):∃c:List Int,c.length=vt j.Ac/\(∀k,k<vt j.Ac->gt c k=TP (qd j.Ac) (pB j.Ac j.Av) c (k:Int) (ZM j (k:Int)) (yX j.Ac)) /\
  ∀node,node<vt j.Ac->Ev (fun n=>(nS n (LR j t)).bind fun r4=>(qF r4 (node:Int)).bind fun y1=>V (y1,(0:Int))) (gt c node,0)/\Ev (fun n=>gB n (yi j t R) (node:Int)) (gt c node):=by
 have h1:=Q.tg.bl;have W:=h.Ap.len;have u:=kf h1;have hll:=u.len;have J:(pB j.Ac j.Av).length=yX j.Ac:=uO;have hpl:=bf (qZ (aO h1));have H:=sW h1;have A:=yC (v:=nV j.Ac) hpl;have epl:(nV j.Ac).places.length=(places j.Ac.Aa).length:=rfl;rw[epl] at A;have hRl:=Q.tg.len;have B:=QU (lv:=pB j.Ac j.Av) u J;have eo:PC (qd j.Ac) (pB j.Ac j.Av) (2*(places j.Ac.Aa).length)=(dW R,An):=by unfold PC;rw[show GJ (qd j.Ac) (pB j.Ac j.Av) (2*(places j.Ac.Aa).length) (2*(places j.Ac.Aa).length) []=V R from Q.tg.or_]
 rw[eo] at B;have eM:vt j.Ac=2*(places j.Ac.Aa).length:=rfl;have f:=Q.tg.ord;generalize hM0:vt j.Ac=M at hRl eM⊢;rw[hM0] at f;rw[<-eM] at H A B;have hM:M<=156:=by omega
 have a4:∀d i c,i+d=R.length->c.length=M->(∀k,k<M->k∉R.take i->gt c k=0)->(∀k,k<M->k∈R.take i->gt c k=TP (qd j.Ac) (pB j.Ac j.Av) c (k:Int) (ZM j (k:Int)) (yX j.Ac))->∃c':List Int,c'.length=M/\(∀k,k<M->k∈R->gt c' k=TP (qd j.Ac) (pB j.Ac j.Av) c' (k:Int) (ZM j (k:Int)) (yX j.Ac)) /\
   Ev (fun n=>kp (LR j t) ⟨j,qd j.Ac,pB j.Ac j.Av,t⟩ (dW R) n c (i:Int)) (c',(R.length:Int)) /\
   Ev (fun n=>eG ⟨XD j.Ac j.Av,j,t,dW R⟩ ⟨V (nV j.Ac),pB j.Ac j.Av⟩ n c (i:Int)) (c',(R.length:Int)):=by
  intro d
  induction d with
  |zero=>
   intro i c hi hc _ C;obtain rfl:i=R.length:=by omega
   rw[jG] at C;refine⟨c,hc,C,Cm ?_,Cm ?_⟩
   .simp only[kp,dc,qu (jf _),Cj];exact .done
   .simp only[eG,dc,qu (jf _),Cj];exact .done
  |succ d ih=>
   intro i c hi hc hz C;have z:i<R.length:=by omega
   obtain⟨k1,k2,k3⟩:=Q.tg.ord.at z;rw[hM0] at k1;have I:=xu z;have D:R.take (i+1)=R.take i++[R[i]]:=jw z;generalize R[i]=k at k1 k2 k3 I D;have hS:=SB (j:=j) (t:=t) (node:=(k:Int)) W;have hI:=CN (xs:=j.Ap) (node:=(k:Int)) W;have a3:=hz k k1 k2;have g:k<c.length:=by omega
   obtain⟨o,L⟩:∃o:Int,o=ZM j (k:Int):=⟨_,Z⟩;have sL:Ev (fun n=>ft ⟨j,qd j.Ac,pB j.Ac j.Av,t⟩ c (k:Int) n o 0) (TP (qd j.Ac) (pB j.Ac j.Av) c (k:Int) o (yX j.Ac),(yX j.Ac:Int)):=by
    have:=fD (Lf:=fun n s x=>ft ⟨j,qd j.Ac,pB j.Ac j.Av,t⟩ c (k:Int) n s x) (S:=TP (qd j.Ac) (pB j.Ac j.Av) c (k:Int) o) (len:=yX j.Ac) (fin:=(TP (qd j.Ac) (pB j.Ac j.Av) c (k:Int) o (yX j.Ac),(yX j.Ac:Int)))
     (fun n=>by simp only[ft,qu (jf _),Cj])
     (fun x m X r=>by
      obtain⟨e1,e2⟩:=tu u m;rw[<-eM] at e2;rw[MO] at r;have F:x<(qd j.Ac).length:=m;simp only[ft,qq F,Ci,qz F,qz (show x<(pB j.Ac j.Av).length by rw[J];exact m),jd,e1,qz (show gY (qd j.Ac) x<c.length by omega),wS x];unfold uh zr DK at r;cases hv:gt (pB j.Ac j.Av) x
      .rw[hv] at r;exact r
      .rw[hv] at r;cases ht:(gt (qd j.Ac) x).To==(k:Int)
       .rw[ht] at r;exact r
       .rw[ht] at r;exact r)
    exact this
   have nz:∀x,x∈lg (uh (qd j.Ac) (pB j.Ac j.Av) (k:Int)) (yX j.Ac)->x<yX j.Ac/\gY (qd j.Ac) x≠k:=fun x m=>by
    obtain⟨x1,N⟩:=nG.1 m;unfold uh at N;rw[je,beq_iff_eq] at N;have:=wJ.1 k3 x x1 N.1 N.2;obtain⟨e1,_⟩:=tu u x1;rw[show AO (qd j.Ac) x=(gY (qd j.Ac) x:Int) from e1,pC] at this;exact⟨x1,fun e=>k2 (by rw[<-e];exact this)⟩
   have pL:Ev (fun n=>dx ⟨V (nV j.Ac),pB j.Ac j.Av⟩ (k:Int) (dW (lg (uh (qd j.Ac) (pB j.Ac j.Av) (k:Int)) (yX j.Ac))) n (ak c (k:Int) o) 0) (ak c (k:Int) (TP (qd j.Ac) (pB j.Ac j.Av) c (k:Int) o (yX j.Ac)),((dW (lg (uh (qd j.Ac) (pB j.Ac j.Av) (k:Int)) (yX j.Ac))).length:Int)):=by
    have hsl:(lg (uh (qd j.Ac) (pB j.Ac j.Av) (k:Int)) (yX j.Ac)).length<=10000:=jX vl hll;have:=(PR (τ:=Int) (xs:=lg (uh (qd j.Ac) (pB j.Ac j.Av) (k:Int)) (yX j.Ac)) (Lf:=fun n v x=>dx ⟨V (nV j.Ac),pB j.Ac j.Av⟩ (k:Int) (dW (lg (uh (qd j.Ac) (pB j.Ac j.Av) (k:Int)) (yX j.Ac))) n (ak c (k:Int) v) x)
     (step:=fun v x=>XE (qj (v+gt c (gY (qd j.Ac) x)))) (fin:=fun v=>(ak c (k:Int) v,((dW (lg (uh (qd j.Ac) (pB j.Ac j.Av) (k:Int)) (yX j.Ac))).length:Int))) o (fun _ _=>True) trivial (fun _ _ _ _=>trivial)
     (fun n v=>by simp only[dx,dc,qu (jf _),Cj])
     (fun x v m _ X r=>by
      have T:=xu m;obtain⟨x1,N⟩:=nz _ (jo m);generalize (lg (uh (qd j.Ac) (pB j.Ac j.Av) (k:Int)) (yX j.Ac))[x]=y at T x1 N r;obtain⟨e1,e2⟩:=tu u x1;rw[<-eM] at e2;have ev:(nV j.Ac).links=qd j.Ac:=rfl;have i1:qF (ak c (k:Int) v) (k:Int)=V v:=by rw[qz (by rw[bY];exact g),lP g,if_pos Z]
      have i2:qF (ak c (k:Int) v) (gY (qd j.Ac) y:Int)=V (gt c (gY (qd j.Ac) y)):=by rw[qz (by rw[bY];omega),lP g,if_neg N]
      simp only[dx,dc,qq m,Ci,T,jd,ev,qz x1,e1,i1,i2,qcv,ZI,wS x];exact r)).1
    exact this
   have a5:∀y,y<M->y∈R.take (i+1)->∀x,x<yX j.Ac->uh (qd j.Ac) (pB j.Ac j.Av) (y:Int) x=An->gt c (gY (qd j.Ac) x)=gt (ak c (k:Int) (TP (qd j.Ac) (pB j.Ac j.Av) c (k:Int) o (yX j.Ac))) (gY (qd j.Ac) x):=fun y Y a x m P=>by
    rw[lP g,if_neg];rw[D,List.mem_append,List.mem_singleton] at a;rcases a with a|rfl
    .intro e;obtain⟨p,hp,ep⟩:=List.mem_iff_getElem.1 a;rw[jy] at hp;rw[Jh] at ep;have h0:=(f.at (j:=p) (by omega)).2.2;rw[ep] at h0;unfold uh at P;rw[je,beq_iff_eq] at P;have:=wJ.1 h0 x m P.1 P.2;obtain⟨e1,_⟩:=tu u m;rw[show AO (qd j.Ac) x=(gY (qd j.Ac) x:Int) from e1,pC,e] at this;obtain⟨q,hq',eq⟩:=List.mem_iff_getElem.1 this;rw[jy] at hq';rw[Jh] at eq;exact k2 (List.mem_iff_getElem.2 ⟨q,by rw[jy];omega,by rw[Jh];exact eq⟩)
    .exact(nz x (nG.2 ⟨m,P⟩)).2
   have sR:=ih (i+1) (ak c (k:Int) (TP (qd j.Ac) (pB j.Ac j.Av) c (k:Int) o (yX j.Ac))) (by omega) (by rw[bY];exact hc) (fun y Y K=>by
     rw[D] at K;have hne:y≠k:=fun e=>K (jS _ (List.mem_singleton.2 e));rw[lP g,if_neg hne];exact hz y Y fun a=>K (jK _ a)) (fun y Y a=>by
     rw[<-F6 _ (a5 y Y a),lP g];split
     .next e=>rw[e,L]
     .next e=>
      rw[D,List.mem_append,List.mem_singleton] at a;rcases a with a|a
      .exact C y Y a
      .exact absurd a e)
   obtain⟨c',l',d',s',p'⟩:=sR;have ic:qF c (k:Int)=V 0:=by rw[qz g,a3]
   refine⟨c',l',d',Cm ?_,Cm ?_⟩
   .simp only[kp,dc,qq z,Ci,I,jd,ic,wS i];refine Ck hS (Ck (b:=o) (Cx ?_) (Ck sL s'));rw[L];unfold ZM;cases (bh (aI j.Ap (k:Int))).1<;>rfl
   .simp only[eG,dc,qq z,Ci,I,jd,ic,wS i];refine Ck hI (Ck (b:=ak c (k:Int) o) (Cx ?_) ?_)
    .rw[L];unfold ZM;cases (bh (aI j.Ap (k:Int))).1
     .simp only[Cj];rw[DI g a3]
     .rfl
    .refine Ck (Z4 (b:=j.Ac) (lv:=pB j.Ac j.Av) (ps:=places j.Ac.Aa) (lo:=pre (vI j.Ac) j.Ac.Ah.length) (de:=pre (cS j.Ac) j.Ac.Ah.length) (ex:=[]) u J) (Ck pL p')
 have O:xY (M:Int) (0:Int)=V (List.replicate M 0):=xx (by omega);obtain⟨c',l',d',s',p'⟩:=a4 R.length 0 (List.replicate M 0) (by omega) jI (fun k u _=>by rw[fh (by rw[jI];exact u)];simp) (fun k _ a=>by rw[List.take_zero] at a;cases a);refine⟨c',l',fun k u=>d' k u ?_,fun node hn=>⟨?_,?_⟩⟩
 .refine Classical.byContradiction fun a=>?_;have A:R.Nodup:=by
   unfold List.Nodup;rw[List.pairwise_iff_getElem];exact fun i j' _ hj hij e=>(f.at hj).2.1 (by rw[<-e,List.mem_iff_getElem];exact⟨i,by rw[jy];omega,by rw[Jh]⟩)
  have:=GF (l:=k::R) (l':=List.range M) (List.nodup_cons.2 ⟨a,A⟩) (fun x m=>by
   rw[List.mem_range];rcases List.mem_cons.1 m with rfl|m
   .exact u
   .obtain⟨i,hi,rfl⟩:=List.mem_iff_getElem.1 m;exact(f.at hi).1)
  rw[Jj,List.length_range] at this;omega
 .have:Ev (fun n=>nS n (LR j t)) c':=by
   unfold nS;show Ev (fun n=>(bT n j.Ac).bind _) _;refine Ck H ?_;rw[O];simp only[jd];exact Ck H (Ck B (Ck s' .done))
  refine Ck this ?_;rw[qz (by omega)];exact .done
 .unfold gB yi XD;simp only[A,jd,O];refine Ck p' ?_;show Ev (fun n=>(qF c' (node:Int)).bind _) _;rw[qz (by omega)];exact .done

instance:Inhabited qK:=⟨⟨0,[],0⟩⟩
theorem R5{α:Type}{Q:Nat->Prop}{f:Nat->Nat->Option α}{v:Nat->α}:∀m,(∀i,i<m->Q i->Ev (f i) (v i))->∃N,∀n,N<=n->∀i,i<m->Q i->f i n=V (v i)
 |0,_=>⟨0,fun _ _ _ h=>absurd h (Ji _)⟩
 |m+1,h=>by
  obtain⟨N,b⟩:=R5 m fun i hi=>h i (by omega);by_cases d:Q m
  .obtain⟨M,g⟩:=h m (by omega) d;refine⟨max N M,fun n c i hi a=>?_⟩;by_cases e:i=m
   .subst e;exact g n (by omega)
   .exact b n (by omega) i (by omega) a
  .refine⟨N,fun n c i hi a=>?_⟩;by_cases e:i=m
   .subst e;exact absurd a d
   .exact b n c i (by omega) a
abbrev mF(j:bg)(k:Nat):List Nat:=lg (uh (qd j.Ac) (pB j.Ac j.Av) (k:Int)) (yX j.Ac)
def EB(j:bg)(k:Nat):List qK:=bif (bh (aI j.Ap (k:Int))).1 then[⟨(k:Int),[],0⟩] else[]
def WN(i:Nat)(p:qK):qK:=⟨p.Bo,p.Bl++[(i:Int)],0⟩
def vJ(tl:List Int)(p:qK):qK:=⟨p.Bo,p.Bl++tl.reverse,0⟩
def LC(t:qn)(f:Nat->List qK)(ls:List qw)(i:Nat):List qK:=bif gt t.Aq (gY ls i) then(f (gY ls i)).map (WN i) else[]
def aP(j:bg)(t:qn):Nat->Nat->List qK
 |0,_=>[]
 |d+1,k=>EB j k++(mF j k).flatMap (LC t (aP j t d) (qd j.Ac))
theorem FT{α β:Type}{xs:List α}{x:α}{f:α->List β}:(xs++[x]).flatMap f=xs.flatMap f++f x:=by simp
theorem KT{α β:Type}{xs:List α}{f:α->List β}(j:Nat):((xs.take j).flatMap f).length<=(xs.flatMap f).length:=by
 have h:xs.flatMap f=(xs.take j).flatMap f++(xs.drop j).flatMap f:=by rw[<-List.flatMap_append,List.take_append_drop]
 rw[h,jg];omega
theorem TX{j:bg}{t:qn}:∀d k p,p∈aP j t d k->p.Bl.length+1<=d
 |0,_,p,h=>by simp[aP] at h
 |d+1,k,p,h=>by
  simp only[aP,List.mem_append] at h;rcases h with h|h
  .unfold EB at h;cases hs:(bh (aI j.Ap (k:Int))).1<;>rw[hs] at h
   .simp at h
   .simp at h;subst h;simp
  .obtain⟨x,_,a⟩:=List.mem_flatMap.1 h;unfold LC at a;cases hr:gt t.Aq (gY (qd j.Ac) x)<;>rw[hr] at a
   .simp at a
   .simp only[Ci] at a;obtain⟨c,b,rfl⟩:=List.mem_map.1 a;have:=TX d _ c b;show(c.Bl++[(x:Int)]).length+1<=d+1;rw[jg,jh];omega
def BT(t:qn)(f:Nat->List qK)(ls:List qw)(tl:List Int)(i:Nat):List qK:=bif gt t.Aq (gY ls i) then(f (gY ls i)).map (vJ (tl++[(i:Int)])) else[]
theorem qaR{t:qn}{f:Nat->List qK}{ls:List qw}{tl:List Int}{i:Nat}:BT t f ls tl i=(LC t f ls i).map (vJ tl):=by
 unfold BT LC;cases gt t.Aq (gY ls i)
 .rfl
 .simp only[Ci,List.map_map];refine List.map_congr_left fun p _=>?_;simp[vJ,WN]
theorem qaJ{j:bg}{t:qn}{R:List Nat}{k:Nat}{f:Nat->List qK}{x1:List qK}{tl:List Int}(C:aU j.Ac=An)(H:EP t (vt j.Ac))(I:tl.length<=1000000) :
  ∃N,∀n,N<=n->∀b:Option aY->Int->List Int->List qK->Option (List qK),(∀i,∀hi:i<(mF j k).length,gt t.Aq (gY (qd j.Ac) (mF j k)[i])=An->b (yi j t R) (gY (qd j.Ac) (mF j k)[i]:Int) (tl++[((mF j k)[i]:Int)]) (x1++((mF j k).take i).flatMap (BT t f (qd j.Ac) tl))=V (x1++((mF j k).take (i+1)).flatMap (BT t f (qd j.Ac) tl))) ->
   cd (yi j t R) tl b ⟨XD j.Ac j.Av,j,t,dW R⟩ (dW (mF j k)) n x1 0=V (x1++(mF j k).flatMap (BT t f (qd j.Ac) tl),((mF j k).length:Int)):=by
 have v:=kf C;have s:=v.len;have u:(mF j k).length<=10000:=jX vl s;have a:∀x,x∈mF j k->x<yX j.Ac:=fun x J=>(nG.1 J).1;generalize mF j k=sl at u a;have p:=qcf (P:=fun i=>∃N,∀n,N<=n->∀b:Option aY->Int->List Int->List qK->Option (List qK),(∀i,∀hi:i<sl.length,gt t.Aq (gY (qd j.Ac) sl[i])=An->b (yi j t R) (gY (qd j.Ac) sl[i]:Int) (tl++[(sl[i]:Int)]) (x1++(sl.take i).flatMap (BT t f (qd j.Ac) tl))=V (x1++(sl.take (i+1)).flatMap (BT t f (qd j.Ac) tl))) ->
   cd (yi j t R) tl b ⟨XD j.Ac j.Av,j,t,dW R⟩ (dW sl) n (x1++(sl.take i).flatMap (BT t f (qd j.Ac) tl)) (i:Int)=V (x1++sl.flatMap (BT t f (qd j.Ac) tl),(sl.length:Int))) sl.length
  ⟨1,fun n F b _=>by
   obtain⟨m,rfl⟩:∃m,n=m+1:=⟨n-1,by omega⟩;simp only[cd,dc,qu (jf _),Cj,jG]⟩
  (fun i hi L=>by
   obtain⟨N,D⟩:=L;have o:=xu hi;have d:=a _ (jo hi);have l:sl.take (i+1)=sl.take i++[sl[i]]:=jw hi;refine⟨N+1,fun n F b h=>?_⟩;obtain⟨m,rfl⟩:∃m,n=m+1:=⟨n-1,by omega⟩;have c:=D m (by omega) b h;have g:=h i hi;generalize sl[i]=y at o d l g;obtain⟨e1,z⟩:=tu v d;have M:(nV j.Ac).links=qd j.Ac:=rfl;have r:qF t.Aq (gY (qd j.Ac) y:Int)=V (gt t.Aq (gY (qd j.Ac) y)):=qz (by rw[H.r];exact z);have A:dj tl [(y:Int)]=V (tl++[(y:Int)]):=dU (by rw[jh];omega);have B:dj ([]:List Int) tl=V tl:=by rw[dU (by rw[List.length_nil];omega),List.nil_append]
   have K:qF (nV j.Ac).links (y:Int)=V (gt (qd j.Ac) y):=qz d;simp only[cd,dc,qq hi,Ci,o,jd,XD,K,e1,r,ie,B,A,wS i];cases hr:gt t.Aq (gY (qd j.Ac) y)
   .simp only[Cj];rw[l,List.flatMap_append] at c;simp only[List.flatMap_cons,List.flatMap_nil,jY] at c;unfold BT at c;rw[hr] at c;simp only[Cj,jY] at c;exact c
   .simp only[Ci];rw[g hr];simp only[jd];exact c)
 simpa using p

section
variable{j:bg}{t:qn}{R:List Nat}{c:List Int}
theorem pT(c:sy j t R){i:Nat}(hi:i<R.length){x:Nat}(d:x∈mF j R[i]):x<yX j.Ac/\∃i',∃hi':i'<R.length,i'<i/\R[i']=gY (qd j.Ac) x:=by
 obtain⟨x1,a⟩:=nG.1 d;obtain⟨f,g,k3⟩:=c.tg.ord.at hi;unfold uh at a;rw[je,beq_iff_eq] at a;have:=wJ.1 k3 x x1 a.1 a.2;obtain⟨e1,_⟩:=tu (kf c.tg.bl) x1;rw[show AO (qd j.Ac) x=(gY (qd j.Ac) x:Int) from e1,pC] at this;obtain⟨q,b,eq⟩:=List.mem_iff_getElem.1 this;rw[jy] at b;rw[Jh] at eq;exact⟨x1,q,by omega,by omega,eq⟩
theorem UU{g:Nat->Int}:∀(l:List Nat) (a:Int),(∀x,x∈l->0<=g x/\g x<=1000000)->0<=a->a<=1000000 ->
  a<=l.foldl (fun v k=>XE (qj (v+g k))) a/\l.foldl (fun v k=>XE (qj (v+g k))) a<=1000000/\(l.foldl (fun v k=>XE (qj (v+g k))) a<=300->l.foldl (fun v k=>XE (qj (v+g k))) a=a+(l.map g).sum)
 | [],a,_,_,h1=>by simpa using h1
 |x::l,a,hg,h0,h1=>by
  obtain⟨n,o⟩:=hg x (ju ..);have c:qj (a+g x)=a+g x:=qY (by omega) (by omega);have b:a<=XE (qj (a+g x))/\XE (qj (a+g x))<=1000000/\(XE (qj (a+g x))<=300->XE (qj (a+g x))=a+g x):=by
   rw[c];unfold XE;split<;>refine⟨by omega,by omega,fun _=>by omega⟩
  obtain⟨r1,f,i⟩:=UU l (XE (qj (a+g x))) (fun y d=>hg y (jp _ d)) (by omega) b.2.1;simp only[List.foldl_cons,Jf,List.sum_cons];refine⟨by omega,f,fun h=>?_⟩;have e1:=i h;have m:=b.2.2 (by omega);omega
theorem U2{g:Nat->Int}:∀(l:List Nat),(∀x,x∈l->0<=g x)->0<=(l.map g).sum/\∀x,x∈l->g x<=(l.map g).sum
 | [],_=>⟨by simp,fun x h=>by cases h⟩
 |y::l,hg=>by
  obtain⟨a,b⟩:=U2 l fun x h=>hg x (jp _ h);have:=hg y (ju ..);simp only[Jf,List.sum_cons];refine⟨by omega,fun x c=>?_⟩;rcases List.mem_cons.1 c with rfl|c
  .omega
  .have:=b x c;omega
theorem B3{β:Type}{g:Nat->Int}{f:Nat->List β}:∀(l:List Nat),(∀x,x∈l->((f x).length:Int)<=g x)->((l.flatMap f).length:Int)<=(l.map g).sum
 | [],_=>by simp
 |y::l,h=>by
  have a:=B3 l fun x c=>h x (jp _ c);have b:=h y (ju ..);simp only[List.flatMap_cons,jg,Jf,List.sum_cons];omega
theorem A9{β:Type}{g:Nat->Int}{f:Nat->List β}:∀(l:List Nat),(∀x,x∈l->((f x).length:Int)=g x)->((l.flatMap f).length:Int)=(l.map g).sum
 | [],_=>by simp
 |y::l,h=>by
  have a:=A9 l fun x c=>h x (jp _ c);have b:=h y (ju ..);simp only[List.flatMap_cons,jg,Jf,List.sum_cons];omega
def TR(j:bg)(c:List Int):Prop:=∀k,k<vt j.Ac->gt c k=TP (qd j.Ac) (pB j.Ac j.Av) c (k:Int) (ZM j (k:Int)) (yX j.Ac)
theorem Y8{k:Int}:0<=ZM j k/\ZM j k<=1:=by
 unfold ZM;cases (bh (aI j.Ap k)).1<;>simp
theorem TC{k:Nat}:((EB j k).length:Int)=ZM j (k:Int):=by
 unfold ZM EB;cases (bh (aI j.Ap (k:Int))).1<;>simp
theorem UO(d:sy j t R)(f:TR j c):∀m i,∀hi:i<R.length,i<m->0<=gt c R[i]/\gt c R[i]<=1000000/\(gt c R[i]<=300->gt c R[i]=ZM j (R[i]:Int)+((mF j R[i]).map fun x=>gt c (gY (qd j.Ac) x)).sum/\∀x,x∈mF j R[i]->gt c (gY (qd j.Ac) x)<=300)
 |0,_,_,h=>absurd h (Ji _)
 |m+1,i,hi,h=>by
  have s:R[i]<vt j.Ac:=(d.tg.ord.at hi).1;have l:∀x,x∈mF j R[i]->0<=gt c (gY (qd j.Ac) x)/\gt c (gY (qd j.Ac) x)<=1000000:=fun x a=>by
   obtain⟨_,y,b,u,e⟩:=pT d hi a;have:=UO d f m y b (by omega);rw[e] at this;exact⟨this.1,this.2.1⟩
  have e:=f R[i] s;have v:=Y8 (j:=j) (k:=(R[i]:Int));obtain⟨r1,n,o⟩:=UU (g:=fun x=>gt c (gY (qd j.Ac) x)) (mF j R[i]) (ZM j (R[i]:Int)) l v.1 (by omega);unfold TP at e;rw[<-e] at r1 n o;refine⟨by omega,n,fun r=>?_⟩;have p:=o r;obtain⟨s0,s1⟩:=U2 (g:=fun x=>gt c (gY (qd j.Ac) x)) (mF j R[i]) fun x a=>(l x a).1;exact⟨p,fun x a=>by have:=s1 x a;omega⟩
theorem RL(m:sy j t R)(n:TR j c):∀d i,∀hi:i<R.length,i<d->gt c R[i]<=300->((aP j t d R[i]).length:Int)<=gt c R[i]
 |0,_,_,h,_=>absurd h (Ji _)
 |d+1,i,hi,h,h3=>by
  obtain⟨e,o⟩:=(UO m n (i+1) i hi (by omega)).2.2 h3;have:=B3 (g:=fun x=>gt c (gY (qd j.Ac) x)) (f:=LC t (aP j t d) (qd j.Ac)) (mF j R[i]) fun x s=>by
   obtain⟨_,p,l,u,r⟩:=pT m hi s;have a:=RL m n d p l (by omega) (by rw[r];exact o x s);have b:=(UO m n (p+1) p l (by omega)).1;rw[r] at a b;unfold LC;cases gt t.Aq (gY (qd j.Ac) x)
   .simpa using b
   .simpa using a
  simp only[aP,jg];have:=TC (j:=j) (k:=R[i]);omega
theorem O8(h:mQ j)(r:sy j t R)(D:TR j c):∀d i,∀hi:i<R.length,i<d->d<=1000->gt c R[i]<=300 ->
  ∀tl g,tl.length+i<=1000->g.length+(aP j t d R[i]).length<=1000->Ev (fun n=>bI n (yi j t R) (R[i]:Int) tl g) (g++(aP j t d R[i]).map (vJ tl))
 |0,_,_,h,_,_=>absurd h (Ji _)
 |d+1,i,hi,hid,hd,h3=>by
  have P:=r.tg.bl;have X:=kf P;have K:(pB j.Ac j.Av).length=yX j.Ac:=uO;have s:=((UO r D (i+1) i hi (by omega)).2.2 h3).2;have A:=RL r D (d+1) i hi hid h3;have S:∀x,x∈mF j R[i]->∃o,∃m:o<R.length,o<i/\R[o]=gY (qd j.Ac) x/\(aP j t d (gY (qd j.Ac) x)).length<=300 /\
    ∀tl g,tl.length+o<=1000->g.length+(aP j t d (gY (qd j.Ac) x)).length<=1000->Ev (fun n=>bI n (yi j t R) (gY (qd j.Ac) x:Int) tl g) (g++(aP j t d (gY (qd j.Ac) x)).map (vJ tl)):=fun x F=>by
   obtain⟨_,o,m,B,e⟩:=pT r hi F;have a:=O8 h r D d o m (by omega) (by omega) (by rw[e];exact s x F);have b:=RL r D d o m (by omega) (by rw[e];exact s x F);have b3:=s x F;rw[e] at a b;exact⟨o,m,B,e,by omega,a⟩
  have H:aP j t (d+1) R[i]=EB j R[i]++(mF j R[i]).flatMap (LC t (aP j t d) (qd j.Ac)):=rfl;rw[H,jg] at A;generalize R[i]=k at S A H h3;rw[H]
  .intro tl g a6 y;rw[jg] at y;have u:∀l:List Nat,l.flatMap (BT t (aP j t d) (qd j.Ac) tl)=(l.flatMap (LC t (aP j t d) (qd j.Ac))).map (vJ tl):=fun l=>by
    rw[List.map_flatMap];exact congrArg (fun f=>l.flatMap f) (funext fun x=>qaR)
   refine Cm ?_;simp only[bI];refine Cy (x:=yi j t R) (b:=⟨XD j.Ac j.Av,j,t,dW R⟩) Z ?_;show Ev (fun n=>(fB n j.Ap (k:Int)).bind _) _;refine Ck (CN h.Ap.len) (Ck (b:=g++(EB j k).map (vJ tl)) ?_ ?_)
   .have a5:=TC (j:=j) (k:=k);have a4:=Y8 (j:=j) (k:=(k:Int));unfold EB;cases (bh (aI j.Ap (k:Int))).1
    .refine Cp Z (Cx ?_);simp
    .refine Cr Z (Ck (b:=tl) (Cx ?_) (Ck (b:=tl.reverse) (Cx Z) (Ck (b:=g++[(⟨(k:Int),tl.reverse,0⟩:qK)]) (Cx ?_) .done)))
     .show dj [] tl=V tl;rw[dU (by simp;omega),List.nil_append]
     .exact dU (by rw[jh];omega)
   .refine Ck (Z4 (b:=j.Ac) (lv:=pB j.Ac j.Av) (ps:=places j.Ac.Aa) (lo:=pre (vI j.Ac) j.Ac.Ah.length) (de:=pre (cS j.Ac) j.Ac.Ah.length) (ex:=[]) (node:=(k:Int)) X K) ?_;obtain⟨N,W⟩:=qaJ (R:=R) (k:=k) (f:=aP j t d) (x1:=g++(EB j k).map (vJ tl)) (tl:=tl) P r.tm (by omega);obtain⟨M,T⟩:=R5 (Q:=fun q=>∃p:q<(mF j k).length,gt t.Aq (gY (qd j.Ac) (mF j k)[q])=An)
     (f:=fun q n=>bI n (yi j t R) (gY (qd j.Ac) (gt (mF j k) q):Int) (tl++[((gt (mF j k) q:Nat):Int)]) (g++(EB j k).map (vJ tl)++((mF j k).take q).flatMap (BT t (aP j t d) (qd j.Ac) tl)))
     (v:=fun q=>g++(EB j k).map (vJ tl)++((mF j k).take (q+1)).flatMap (BT t (aP j t d) (qd j.Ac) tl)) (mF j k).length fun q a3 ⟨p,L⟩=>by
      have C:(mF j k).take (q+1)=(mF j k).take q++[(mF j k)[q]]:=jw p;have z:=KT (xs:=mF j k) (f:=BT t (aP j t d) (qd j.Ac) tl) (q+1);rw[u (mF j k),jq,C,FT,jg] at z;have Y:=jo p;have e0:=fh p;obtain⟨o,m,B,e,hl,J⟩:=S _ Y;have O:BT t (aP j t d) (qd j.Ac) tl (mF j k)[q]=(aP j t d (gY (qd j.Ac) (mF j k)[q])).map (vJ (tl++[((mF j k)[q]:Int)])):=by unfold BT;rw[L];rfl
      rw[O,jq] at z;have:=J (tl++[((mF j k)[q]:Int)]) (g++(EB j k).map (vJ tl)++((mF j k).take q).flatMap (BT t (aP j t d) (qd j.Ac) tl)) (by rw[jg,jh];omega) (by rw[jg,jg,jq];omega);rw[C,FT,O,<-jv,e0];exact this
    refine⟨max N M,fun n hn=>?_⟩;have I:=W n (by omega) (bI n) fun q p L=>by
     have:=T n (by omega) q p ⟨p,L⟩;rw[fh p] at this;exact this
    show(cd (yi j t R) tl (bI n) ⟨XD j.Ac j.Av,j,t,dW R⟩ (dW (mF j k)) n (g++(EB j k).map (vJ tl)) 0).bind _=_;rw[I,u,jv,<-jT]
    rfl
theorem RN{xs ys:List Int}{q:Nat}(h:q<xs.length):bO (xs++ys) q=bO xs q:=by
 unfold bO;rw[jz,jz,jA h]
theorem MI{xs:List Int}{y:Int}:bO (xs++[y]) xs.length=y:=by
 unfold bO;rw[jz,jD (jf _),Nat.sub_self]
 rfl
theorem A4{ls:List qw}{start:Int}{path ys:List Int}:∀q,q<=path.length->TO ls start (path++ys) q=TO ls start path q
 |0,_=>rfl
 |q+1,h=>by
  show(gt ls (bO (path++ys) q).toNat).To=(gt ls (bO path q).toNat).To;rw[RN (by omega)]
theorem K5(g:sy j t R){k x:Nat}{start:Int}{path:List Int}(b:mY j start path=An)(d:YC j start path=(gY (qd j.Ac) x:Int))(h:x∈mF j k) :
  mY j start (path++[(x:Int)])=An/\YC j start (path++[(x:Int)])=(k:Int):=by
 obtain⟨x1,c⟩:=nG.1 h;unfold uh zr DK at c;rw[je,beq_iff_eq] at c;obtain⟨e1,_⟩:=tu (kf g.tg.bl) x1;unfold mY at b⊢;rw[je,aG] at b;constructor
 .rw[je,aG];refine⟨b.1,fun q f=>?_⟩;rw[jg,jh] at f;by_cases a:q<path.length
  .have:=b.2 q a;unfold okP at this⊢;rw[RN a,A4 q (by omega)];exact this
  .obtain rfl:q=path.length:=by omega
   unfold okP;rw[MI,A4 _ (jf _),jr,c.1,e1];unfold YC at d;rw[d];have:gd (x:Int) 0 (((qd j.Ac).length:Int)-1)=An:=bV.2 ⟨by omega,by have:x<(qd j.Ac).length:=x1;omega⟩;rw[this];simp
 .unfold YC;rw[jg,jh];show(gt (qd j.Ac) (bO (path++[(x:Int)]) path.length).toNat).To=(k:Int);rw[MI,jr];exact c.2
theorem LS(i:sy j t R):∀d k p,p∈aP j t d k->mY j p.Bo p.Bl=An/\YC j p.Bo p.Bl=(k:Int)/\p.Af=0
 |0,_,p,h=>by simp[aP] at h
 |d+1,k,p,h=>by
  simp only[aP,List.mem_append] at h;rcases h with h|h
  .unfold EB at h;cases hs:(bh (aI j.Ap (k:Int))).1<;>rw[hs] at h
   .simp at h
   .simp only[Ci,List.mem_singleton] at h;subst h;refine⟨?_,Z,Z⟩;unfold mY;rw[hs]
    rfl
  .obtain⟨x,g,c⟩:=List.mem_flatMap.1 h;unfold LC at c;cases hr:gt t.Aq (gY (qd j.Ac) x)<;>rw[hr] at c
   .simp at c
   .simp only[Ci] at c;obtain⟨l,f,rfl⟩:=List.mem_map.1 c;obtain⟨a,b,_⟩:=LS i d _ l f;have:=K5 i a b g;exact⟨this.1,this.2,Z⟩
end
end Go.Fw


namespace Go.Fw
open Go Go.Sort
set_option maxRecDepth 100000
theorem yl{n:Nat}{x y:Int}:fg n x y=V (vW x y):=by
 unfold fg nr vW;simp only[bne_self_eq_false,jd,Cj];by_cases a:x<y
 .simp[a]
 .by_cases b:y<x<;>simp[a,b]
theorem Q7{xs ys:List Int}(u:xs.length<=1000000):Ev (fun n=>iW n xs ys) (oQ xs ys):=by
 have g:∀d i,i+d=xs.length->i<=ys.length->∃o,Ev (fun n=>bz xs ys n (i:Int)) o /\
   match o with|.ret r=>r=oQ (xs.drop i) (ys.drop i)|.nxt _=>oQ (xs.drop i) (ys.drop i)=if xs.length<ys.length then -1 else 0:=by
  intro d
  induction d with
  |zero=>
   intro i hi t;obtain rfl:i=xs.length:=by omega
   refine⟨.nxt (xs.length:Int),Cm ?_,?_⟩
   .simp only[bz,qu (jf _),Cj];exact .done
   .simp only[List.drop_length];have c:(ys.drop xs.length).length=ys.length-xs.length:=List.length_drop;cases h:ys.drop xs.length with
    |nil=>rw[h] at c;simp at c;rw[if_neg (by omega)];rfl
    |cons a l=>rw[h] at c;simp at c;rw[if_pos (by omega)];rfl
  |succ d ih=>
   intro i hi t;have b:i<xs.length:=by omega
   have ex:xs.drop i=xs[i]::xs.drop (i+1):=jF b;by_cases m:i<ys.length
   .have s:ys.drop i=ys[i]::ys.drop (i+1):=jF m;by_cases k:vW xs[i] ys[i]=0
    .obtain⟨o,p,f⟩:=ih (i+1) (by omega) (by omega);refine⟨o,Cm ?_,?_⟩
     .simp only[bz,qq b,Ci,cj b,jd,wS i];refine Cp (decide_eq_false (by omega)) (Cy (cj m) (Ck (.now (yl (n:=0))) (Cp (by rw[k];rfl) p)))
     .rw[ex,s];simp only[oQ,k,if_true];exact f
    .refine⟨.ret (vW xs[i] ys[i]),Cm ?_,?_⟩
     .simp only[bz,qq b,Ci,cj b,jd];exact Cp (decide_eq_false (by omega)) (Cy (cj m) (Ck (.now (yl (n:=0))) (Cr (by simpa using k) .done)))
     .rw[ex,s];simp only[oQ,k,if_false]
   .refine⟨.ret 1,Cm ?_,?_⟩
    .simp only[bz,qq b,Ci,cj b,jd];exact Cr (decide_eq_true (by omega)) .done
    .rw[ex,show ys.drop i=[] from List.drop_of_length_le (by omega)]
     rfl
 obtain⟨o,p,f⟩:=g xs.length 0 (by omega) (jR _);unfold iW;refine Ck p ?_;cases o with
 |ret r=>simp only[List.drop_zero] at f;subst f;exact .done
 |nxt i=>
  simp only[List.drop_zero] at f;rw[f];by_cases c:xs.length<ys.length
  .rw[if_pos c];exact Cr (decide_eq_true (by omega)) .done
  .rw[if_neg c];exact Cp (decide_eq_false (by omega)) .done
theorem VW{a b:Int}:Ev (fun n=>ux n ([a,b]:List Int)) (if a=0 then b else a):=by
 unfold ux;by_cases c:a=0
 .by_cases d:b=0
  .refine Ck (b:=.nxt 2) (Cm ?_) ?_
   .simp only[fz];refine Cr Z (Cy (b:=a) Z (Cp (by simpa using c) (Cm ?_)));simp only[fz];refine Cr Z (Cy (b:=b) Z (Cp (by simpa using d) (Cm ?_)));simp only[fz];exact Cp Z .done
   .rw[if_pos c,d];exact .done
  .refine Ck (b:=.ret b) (Cm ?_) ?_
   .simp only[fz];refine Cr Z (Cy (b:=a) Z (Cp (by simpa using c) (Cm ?_)));simp only[fz];exact Cr Z (Cy (b:=b) Z (Cr (by simpa using d) .done))
   .rw[if_pos c];exact .done
 .refine Ck (b:=.ret a) (Cm ?_) ?_
  .simp only[fz];exact Cr Z (Cy (b:=a) Z (Cr (by simpa using c) .done))
  .rw[if_neg c];exact .done
def qdl:qK->qK->Int:=SF (fun p q=>vW p.Bo q.Bo) fun p q=>oQ p.Bl q.Bl
theorem KS{p q:qK}(a:p.Bl.length<=1000000):Ev (fun n=>mw n p q) (qdl p q):=by
 unfold mw;exact Ck (.now (yl (n:=0))) (Ck (Q7 a) (Ck VW .done))
theorem ER{n:Nat}{p q:qK}{mode:Int}:iQ n p.Af q.Af mode=V (NI mode p q):=by
 unfold iQ NI;by_cases h:mode=1
 .simp only[h,beq_self_eq_true,Ci,yl,jd,if_true]
 .have:(mode==1)=Cd:=by simpa using h
  simp only[this,Cj,yl,jd,h,if_false]
theorem PG{p q:qK}{mode:Int}(a:p.Bl.length<=1000000):Ev (fun n=>hU n p q mode) (yb mode p q):=by
 unfold hU;exact Ck (.now (ER (n:=0))) (Ck (KS a) (Ck VW .done))
theorem A8{α β:Type}{f:α->Nat->Option β}{v:α->β}:∀l:List α,(∀x,x∈l->Ev (f x) (v x))->∃N,∀n,N<=n->∀x,x∈l->f x n=V (v x)
 | [],_=>⟨0,fun _ _ x h=>by cases h⟩
 |y::l,h=>by
  obtain⟨N,c⟩:=A8 l fun x a=>h x (jp _ a);obtain⟨M,b⟩:=h y (ju ..);refine⟨max N M,fun n d x a=>?_⟩;rcases List.mem_cons.1 a with rfl|a
  .exact b n (by omega)
  .exact c n (by omega) x a
theorem UT{α β:Type}{f:α->α->Nat->Option β}{v:α->α->β}{m:List α}:∀l:List α,(∀x,x∈l->∀y,y∈m->Ev (f x y) (v x y))->∃N,∀n,N<=n->∀x,x∈l->∀y,y∈m->f x y n=V (v x y)
 | [],_=>⟨0,fun _ _ x h=>by cases h⟩
 |z::l,h=>by
  obtain⟨N,c⟩:=UT l fun x a=>h x (jp _ a);obtain⟨M,b⟩:=A8 m (h z (ju ..));refine⟨max N M,fun n d x a=>?_⟩;rcases List.mem_cons.1 a with rfl|a
  .exact b n (by omega)
  .exact c n (by omega) x a
def wj(mode:Int)(xs:List qK):List qK:=xs.mergeSort (LB (yb mode))
theorem Y4{xs:List qK}{mode:Int}(i:xs.length<=1000000)(c:∀p,p∈xs->p.Bl.length<=1000000):Ev (fun n=>NN n xs mode) (wj mode xs):=by
 have b:∀p,p∈(qm.zero:qK)::xs->p.Bl.length<=1000000:=fun p a=>by
  rcases List.mem_cons.1 a with rfl|a
  .exact jR _
  .exact c p a
 obtain⟨N,d⟩:=UT (f:=fun p q n=>hU n p q mode) (v:=fun p q=>yb mode p q) (m:=(qm.zero:qK)::xs) ((qm.zero:qK)::xs) fun p a q _=>PG (b p a);refine⟨N,fun n g=>?_⟩;show NN n xs mode=_;unfold NN;rw[if_pos ⟨by omega,fun p a q h=>d n g p a q h⟩]
 rfl
theorem qaQ{mode:Int}{a b:qK}:LB (yb mode) a b=An↔¬ yb mode b a<0:=by simp[LB]
theorem WR{mode:Int}{xs:List qK}:(wj mode xs).Pairwise fun a b=>LB (yb mode) a b=An:=by
 have f:=(YU mode).swo;refine List.pairwise_mergeSort ?_ ?_ _
 .intro a b c g d;simp only[LB,jC] at g d⊢;exact f.ntrans c b a d g
 .intro a b;cases hh:decide (yb mode b a<0) with
  |false=>simp[LB,hh]
  |true=>
   have:decide (yb mode a b<0)=Cd:=by
    cases d:decide (yb mode a b<0) with
    |false=>rfl
    |true=>
     have:=f.trans a b a d hh;rw[f.irrefl a] at this;cases this
   simp[LB,this]
end Go.Fw


namespace Go.Fw
open Go
set_option maxRecDepth 100000
theorem VQ{j:bg}{node:Int}(h:mQ j)(mode:Int) :
  (∃code:Int,code≠0/\Ev (fun n=>lz n j node) (U,code)/\Ev (fun n=>dV n j mode [node]) (U,code)) \/
  ∃t R,sy j t R/\gd node 0 ((vt j.Ac:Int)-1)=An/\Ev (fun n=>bS n j) (LR j t,0)/\Ev (fun n=>lz n j node) (LR j t,0)/\Ev (fun n=>dV n j mode [node]) (bif pD mode then(yi j t R,0) else(U,2)):=by
 have k:([node].all fun x=>gd x 0 ((vt j.Ac:Int)-1))=gd node 0 ((vt j.Ac:Int)-1):=by simp
 have op:(∃code:Int,code≠0/\Ev (fun n=>bS n j) (U,code)/\Ev (fun n=>dV n j mode [node]) (U,code)) \/
   ∃t R,sy j t R/\Ev (fun n=>bS n j) (LR j t,0)/\Ev (fun n=>dV n j mode [node]) (bif gd node 0 ((vt j.Ac:Int)-1) then bif pD mode then(yi j t R,0) else(U,2) else(U,4)):=by
  cases hm:pD mode
  .have f:=h.Av.len;unfold bS dV;rcases ME h with⟨code,hne,hs,hi⟩|⟨t,R,hw,hs,hi⟩
   .exact .inl ⟨code,hne,Ck hs (Cr (oR hne) .done),Ck hi (Cr (oR hne) .done)⟩
   .have d:=hw.tg.bl;have g:=lG d;have b:=bf (qZ (aO d));have r:=pz (ls:=qd j.Ac) (br:=j.Av) g f;refine .inr ⟨t,R,hw,Ck hs (Cp Z (Ck (gL d) (Ck r .done))),Ck hi (Cp Z ?_)⟩;have i:=yC (v:=nV j.Ac) b;have e1:qj (((2*(nV j.Ac).places.length:Nat):Int)-1)=(vt j.Ac:Int)-1:=by
     show qj (((2*(places j.Ac.Aa).length:Nat):Int)-1)=_;rw[qY (by omega) (by omega)]
    unfold yi XD;simp only[jd,i,e1];refine Ck (iJ (by simp)) ?_;rw[k];cases gd node 0 ((vt j.Ac:Int)-1)
    .exact Cr Z .done
    .refine Cp Z ?_;simp only[QA,hm];exact .done
  .rcases LY h with⟨code,hne,hs,hi⟩|⟨t,R,hw,hs,hi⟩
   .exact .inl ⟨code,hne,hs,hi mode [node]⟩
   .have l:=hi mode [node] (by simp) (vh hm);rw[k] at l;exact .inr ⟨t,R,hw,hs,l⟩
 unfold lz;rcases op with⟨code,hne,hs,hi⟩|⟨t,R,hw,hs,hi⟩
 .exact .inl ⟨code,hne,Ck hs (Cr (oR hne) .done),hi⟩
 .have b:=bf (qZ (aO hw.tg.bl));have a:=sW hw.tg.bl;have e1:∀n,aW n node 0 (qj (((2*(places j.Ac.Aa).length:Nat):Int)-1))=V (gd node 0 ((vt j.Ac:Int)-1)):=fun n=>by rw[fC,qY (by omega) (by omega)]
  obtain⟨p,o,m⟩:=t;have c:Ev (fun n=>bS n j) (V (⟨j,qd j.Ac,pB j.Ac j.Av,⟨p,o,m⟩⟩:bC),(0:Int)):=hs;cases hr:gd node 0 ((vt j.Ac:Int)-1)
  .rw[hr] at hi;refine .inl ⟨4,by decide,Ck c ?_,hi⟩;show Ev (fun n=>(bT n j.Ac).bind _) _;refine Ck a ?_;simp only[e1,hr];exact .done
  .rw[hr] at hi;refine .inr ⟨⟨p,o,m⟩,R,hw,Z,hs,Ck c ?_,hi⟩;show Ev (fun n=>(bT n j.Ac).bind _) _;refine Ck a ?_;simp only[e1,hr];exact .done
theorem qch{α:Type}{f:Nat->Option (List Int)}{k v:Int}{g:Nat->Int->Option α}{a:α}(h:Ev (fun n=>(f n).bind fun r=>(qF r k).bind fun y=>V (y,(0:Int))) (v,0))(l:Ev (fun n=>g n v) a):Ev (fun n=>(f n).bind fun r=>(qF r k).bind (g n)) a:=by
 obtain⟨N,i⟩:=h;obtain⟨M,d⟩:=l;refine⟨max N M,fun n m=>?_⟩;have b:=i n (by omega);have c:=d n (by omega);simp only at b c⊢;cases hf:f n with
 |none=>rw[hf] at b;simp at b
 |some r=>
  rw[hf] at b;simp only[jd] at b⊢;cases hi:qF r k with
  |none=>rw[hi] at b;simp at b
  |some y=>
   rw[hi] at b;simp only[jd,Option.some.injEq,Prod.mk.injEq,and_true] at b;subst b;exact c
def N2{α:Type}(g:α->α)(L:List α)(i:Nat):List α:=(L.take i).map g++L.drop i
theorem Z0{α:Type}{g:α->α}{L:List α}:N2 g L 0=L:=by simp[N2]
theorem Y9{α:Type}{g:α->α}{L:List α}:N2 g L L.length=L.map g:=by simp[N2]
section
variable{α:Type}[Inhabited α]{g:α->α}{L:List α}{i:Nat}
theorem D7(h:i<L.length):qF (N2 g L i) (i:Int)=V (gt L i):=by
 have a:i<(N2 g L i).length:=by unfold N2;rw[jg,jq,jy,List.length_drop];omega
 have e:(N2 g L i)[i]?=V L[i]:=by
  unfold N2;rw[jD (by rw[jq,jy];omega),jq,jy,Nat.min_eq_left (by omega),Nat.sub_self,Ja,Jl,jj h]
 rw[cj a,fh h];exact congrArg V (List.getElem?_eq_some_iff.1 e).2
theorem qbr(h:i<L.length):ak (N2 g L i) (i:Int) (g (gt L i))=N2 g L (i+1):=by
 have a:((L.take i).map g).length=i:=by rw[jq,jy];omega
 unfold ak N2;rw[jr,jw h,jT,jv,List.set_append_right _ _ (by omega),a,Nat.sub_self,jF h,fh h]
 rfl
end
def vA(A:qK->Int)(p:qK):qK:=⟨p.Bo,p.Bl,A p⟩
theorem VN{mode:Int}{l:List qK}{p:qK}:p∈wj mode l↔p∈l:=(List.mergeSort_perm l _).mem_iff
theorem VL{mode:Int}{l:List qK}:(wj mode l).length=l.length:=List.length_mergeSort _
section
variable{j:bg}{t:qn}{R:List Nat}{c:List Int}
theorem YS(h:mQ j)(f:sy j t R)(r:TR j c){node:Nat}(u:node<vt j.Ac)(o:gt c node<=300) :
  ∃L:List qK,((L.length:Int)<=gt c node)/\(∀p,p∈L->p.Bl.length<=156/\mY j p.Bo p.Bl=An/\p.Af=0)/\L=aP j t R.length node /\
   Ev (fun n=>pd n (yi j t R) (node:Int)) L:=by
 obtain⟨i,hi,l⟩:=f.tg.ord.full f.tg.len u;have v:=bf (qZ (aO f.tg.bl));have x:R.length<=156:=by rw[f.tg.len];show 2*(places j.Ac.Aa).length<=156;omega
 have d:=O8 h f r R.length i hi hi (by omega) (by rw[l];exact o);have g:=RL f r R.length i hi hi (by rw[l];exact o);rw[l] at d g;have s:=LS f R.length node;refine⟨aP j t R.length node,g,fun p k=>?_,Z,?_⟩
 .obtain⟨a,_,b⟩:=s p k;have:=TX _ _ p k;exact⟨by omega,a,b⟩
 .have m:=d [] [] (by rw[List.length_nil];omega) (by rw[List.length_nil];omega);have e:([]:List qK)++(aP j t R.length node).map (vJ [])=aP j t R.length node:=by
   rw[List.nil_append];have:(aP j t R.length node).map (vJ [])=(aP j t R.length node).map id:=List.map_congr_left fun p k=>by
    obtain⟨_,_,b⟩:=s p k;cases p;simp only at b;subst b;simp[vJ]
   rw[this,List.map_id]
  rw[e] at m;unfold pd;exact Ck m .done
def AR(f:Nat->qg->qg×qg)(j:bg)(t:qn)(mode:Int)(p:qK):Int:=IC mode (ED f (qd j.Ac) t (bh (aI j.Ap p.Bo)).2.Af p.Bl p.Bl.length)
end

theorem DH{p f mode:Int}(d:0<=p)(p1:p<=1000000)(a:0<=f)(b:f<=5000):0<=lW (p*f) 1000 mode/\lW (p*f) 1000 mode<=5000000:=by
 have c:0<=p*f:=jU d a;have g:p*f<=1000000*5000:=Jb p1 b a (by omega);exact xk (by omega) c (by omega)
theorem HL{a b:Int}(d:0<b)(c:0<=a):lW a b 0<=lW a b 1:=by
 rw[ze c d,ze c d];rw[if_neg (by omega)];split<;>omega
theorem F8{a c b mode:Int}(d:0<b)(g:0<=a)(h:a<=c)(m:mode=0\/mode=1):lW a b mode<=lW c b mode:=by
 rw[ze g d,ze (by omega) d];have l:a / b<=c / b:=Int.ediv_le_ediv d h;rcases m with rfl|rfl
 .rw[if_neg (by omega),if_neg (by omega)];exact l
 .by_cases i:a % b > 0
  .rw[if_pos ⟨Z,i⟩];by_cases k:c % b > 0
   .rw[if_pos ⟨Z,k⟩];omega
   .rw[if_neg (by omega)];have e1:=Int.mul_ediv_add_emod a b;have f:=Int.mul_ediv_add_emod c b;have n1:=Int.emod_nonneg c (show b≠0 by omega);have z:c % b=0:=by omega
    refine Classical.byContradiction fun n=>?_;have:c / b=a / b:=by omega
    rw[this] at f;omega
  .rw[if_neg (by omega)];split<;>omega
theorem YD{c:qG}(h:nc c=An){kind:Int}:∃f g:Int,(100<=f/\f<=g/\g<=5000)/\(∀n,iZ n c kind 0=V f)/\∀n,iZ n c kind 1=V g:=by
 unfold nc at h;simp only[je,bV,decide_eq_true_eq] at h;obtain⟨⟨d,i,k,l⟩,_,a,b⟩:=h;unfold iZ;cases kind==1
 .exact⟨c.Ay,c.Bc,⟨by omega,b,by omega⟩,fun _=>rfl,fun _=>rfl⟩
 .exact⟨c.Ba,c.Bd,⟨by omega,a,by omega⟩,fun _=>rfl,fun _=>rfl⟩
theorem NH{b:qf}{c:qG}(h:aU b=An)(R:nc c=An){k:Nat}(T:k<(qd b).length){sl:Int}:∃D E:Int,(0<=D/\D<=E/\E<=5000000)/\Ev (fun n=>cK n b c (gt (qd b) k) sl 0) D/\Ev (fun n=>cK n b c (gt (qd b) k) sl 1) E:=by
 obtain⟨d,_⟩:=pA h (uy T);generalize gt (qd b) k=x at d;obtain⟨f,g,⟨Y,O,s⟩,I,J⟩:=YD R (kind:=x.Bf);have H:∀{p q:Int},0<=p->p<=q->q<=1000000->lW (p*f) 1000 0<=lW (q*g) 1000 1:=fun {p q} r X e=>by
  have Q:p*f<=q*g:=Jb X O (by omega) (by omega);have P:0<=p*f:=jU r (by omega);exact Int.le_trans (F8 (by omega) P Q (.inl Z)) (HL (by omega) (by omega))
 rcases d with⟨i,j,m,net,a,d⟩|⟨j,net,q,d⟩
 .have u:m<(gt (cH b (i:Int)).Az a).Bu.length:=by rw[d.d2];exact d.ml
  obtain⟨W,A⟩:=d.dt _ (uy u);obtain⟨S,D,D0,S1,_,_,_,S0,o⟩:=C3 W sl (vI b net);obtain⟨B,r1⟩:=xk (mode:=0) D0 (S0 A) S1;obtain⟨K,L⟩:=xk (mode:=1) D0 (S0 A) S1;have z:=HL (a:=S) D0 (S0 A);obtain⟨c1,_⟩:=yJ (mode:=0) B (by omega) (show 0<=f by omega) (by omega);obtain⟨t,_⟩:=yJ (mode:=1) K (by omega) (show 0<=g by omega) s;have l:(x.Bf==1)=An:=by rw[d.kind];rfl
  refine⟨lW (lW S D 0*f) 1000 0,lW (lW S D 1*g) 1000 1,⟨(DH B r1 (by omega) (by omega)).1,H B z L,(DH K L (by omega) s).2⟩,?_,?_⟩
  .unfold cK;refine Cr l (Ck (DA h d) ?_);simp only[d.mod,qz u,jd,I];exact Ck (o 0).1 (Ck ⟨0,fun n _=>c1 n⟩ .done)
  .unfold cK;refine Cr l (Ck (DA h d) ?_);simp only[d.mod,qz u,jd,J];exact Ck (o 1).1 (Ck ⟨0,fun n _=>t n⟩ .done)
 .have v:(cS b net).length=(gt b.Ah net).Bj.length:=by unfold cS;rw[jq]
  have F:q<(cS b net).length:=by rw[v];exact d.kl
  obtain⟨C,x1⟩:=ES h d.nl d.kl;obtain⟨r,p1⟩:=xk (a:=gt (cS b net) q) (b:=1000) (mode:=0) (M:=344000) (by omega) C (by omega);obtain⟨N,v1⟩:=xk (a:=gt (cS b net) q) (b:=1000) (mode:=1) (M:=344000) (by omega) C (by omega);have y:=HL (a:=gt (cS b net) q) (b:=1000) (by omega) C;obtain⟨c1,_⟩:=yJ (mode:=0) r (by omega) (show 0<=f by omega) (by omega);obtain⟨t,_⟩:=yJ (mode:=1) N (by omega) (show 0<=g by omega) s;have l:(x.Bf==1)=Cd:=by rw[d.kind];rfl
  have hi:∀mode:Int,qF ((cS b net).map fun x=>lW x 1000 mode) (q:Int)=V (lW (gt (cS b net) q) 1000 mode):=fun mode=>by
   rw[qz (by rw[jq];exact F),ET F]
  refine⟨lW (lW (gt (cS b net) q) 1000 0*f) 1000 0,lW (lW (gt (cS b net) q) 1000 1*g) 1000 1,⟨(DH r (by omega) (by omega) (by omega)).1,H r y (by omega),(DH N (by omega) (by omega) s).2⟩,?_,?_⟩
  .unfold cK;refine Cp l (Ck (DB h d) (Ck (uD h d.nl) ?_));simp only[d.ix,hi,jd,I];exact Ck ⟨0,fun n _=>c1 n⟩ .done
  .unfold cK;refine Cp l (Ck (DB h d) (Ck (uD h d.nl) ?_));simp only[d.ix,hi,jd,J];exact Ck ⟨0,fun n _=>t n⟩ .done
theorem Y5{b:qf}{c:qG}{f:Nat->qg->qg×qg}(h:aU b=An)(l:nc c=An)(v:xR b c f){k:Nat}(a:k<(qd b).length){s:qg}(o:OL s) :
  0<=(f k s).1.As/\(f k s).1.As<=(f k s).1.Be/\(f k s).1.Be<=5000000:=by
 have m:=(v k s a o).2;obtain⟨⟨e0,e1⟩,⟨l0,l1⟩⟩:=o;obtain⟨d,d2,⟨a1,a2,F⟩,p1,x⟩:=NH h l a (sl:=s.As);obtain⟨g,i,⟨b1,b2,b3⟩,y,z⟩:=NH h l a (sl:=s.Be);obtain⟨_,⟨p,_,_,A,_⟩⟩:=xw h l a e0 e1 (mode:=0) (.inl Z);obtain⟨_,⟨r,_,_,B,_⟩⟩:=xw h l a e0 e1 (mode:=1) (.inr Z);obtain⟨_,⟨t,_,_,C,_⟩⟩:=xw h l a l0 l1 (mode:=0) (.inl Z);obtain⟨_,⟨u,_,_,D,_⟩⟩:=xw h l a l0 l1 (mode:=1) (.inr Z);have e:Ev (fun n=>mW n b c (gt (qd b) k) s) (⟨if g<d then g else d,if i > d2 then i else d2⟩,⟨if t<p then t else p,if u > r then u else r⟩):=by
  unfold mW;exact Ck p1 (Ck x (Ck A (Ck B (Ck y (Ck z (Ck C (Ck D .done)))))))
 rw[m.uniq e];refine⟨?_,?_,?_⟩
 .show 0<=(if g<d then g else d);split<;>omega
 .show(if g<d then g else d)<=(if i > d2 then i else d2);split<;>split<;>omega
 .show(if i > d2 then i else d2)<=5000000;split<;>omega

structure qak(x y:qg):Prop where
 e0:-5000000000<=y.As
 e1:y.As<=x.As
 el:x.As<=x.Be
 l1:x.Be<=y.Be
 l0:y.Be<=5000000000
theorem IK{s:qg}:mZ s=An↔(-1000000000<=s.As/\s.As<=s.Be/\s.Be<=1000000000):=by
 unfold mZ;simp only[je,bV,decide_eq_true_eq];omega
theorem qak.refl{x:qg}(h:mZ x=An):qak x x:=by
 rw[IK] at h;exact⟨by omega,by omega,by omega,by omega,by omega⟩
structure qd7(s1 s2:Bool×ql):Prop where
 r:s1.1=s2.1
 sl:s1.2.Bb=s2.2.Bb
 ar:s1.1=An->qak s1.2.Af s2.2.Af
structure Wd(t1 t2:qn)(M:Nat):Prop where
 o1:EP t1 M
 o2:EP t2 M
 r:∀k,k<M->gt t1.Aq k=gt t2.Aq k
 sl:∀k,k<M->gt t1.Bb k=gt t2.Bb k
 ar:∀k,k<M->gt t1.Aq k=An->mZ (gt t1.Af k)=An/\mZ (gt t2.Af k)=An/\qak (gt t1.Af k) (gt t2.Af k)
section
variable{b:qf}{c:qG}{f:Nat->qg->qg×qg}{e1 e2:Nat->Int}{lv:List Bool}{xs:List ql}{t1 t2:qn}
theorem Wd.start{M:Nat}:Wd (ZV M) (ZV M) M:=⟨OG,OG,fun _ _=>rfl,fun _ _=>rfl,fun k b a=>by
 have:gt (ZV M).Aq k=Cd:=MV b;rw[this] at a;cases a⟩
end

structure OH(x y:qg):Prop where
 e:y.As<=x.As
 l:x.Be<=y.Be
theorem OH.refl{x:qg}:OH x x:=⟨jV _,jV _⟩
theorem OH.trans{x y z:qg}(h:OH x y)(a:OH y z):OH x z:=⟨Int.le_trans a.e h.e,Int.le_trans h.l a.l⟩
theorem OH.hullL{x y:qg}:OH x (EF x y):=by
 constructor
 .show(if y.As<x.As then y.As else x.As)<=x.As;split<;>omega
 .show x.Be<=(if y.Be > x.Be then y.Be else x.Be);split<;>omega
theorem OH.hullR{x y:qg}:OH y (EF x y):=by
 constructor
 .show(if y.As<x.As then y.As else x.As)<=y.As;split<;>omega
 .show y.Be<=(if y.Be > x.Be then y.Be else x.Be);split<;>omega
section
variable{f:Nat->qg->qg×qg}{ls:List qw}{lv:List Bool}{xs:List ql}{M:Nat}
theorem H3{t a:qn}{node:Int}{s0:Bool×ql}:∀j,(∀x,x<j->uh ls lv node x=An->gt t.Aq (gY ls x)=gt a.Aq (gY ls x)/\gt t.Af (gY ls x)=gt a.Af (gY ls x)/\gt t.Bb (gY ls x)=gt a.Bb (gY ls x)) ->
  oy f ls lv t node s0 j=oy f ls lv a node s0 j:=by
 intro j
 induction j with
 |zero=>intro _;rfl
 |succ j ih=>
  intro h;unfold oy;rw[ih fun x g=>h x (by omega)];cases hq:uh ls lv node j
  .rfl
  .obtain⟨b,c,d⟩:=h j (by omega) hq;simp only[Ci];unfold nU;rw[b,c,d]
structure qan(f:Nat->qg->qg×qg)(ls:List qw)(lv:List Bool)(xs:List ql)(t:qn)(k:Nat):Prop where
 r:gt t.Aq k=(oy f ls lv t (k:Int) (bh (aI xs (k:Int))) ls.length).1
 a:gt t.Aq k=An->gt t.Af k=(oy f ls lv t (k:Int) (bh (aI xs (k:Int))) ls.length).2.Af
 s:gt t.Aq k=An->gt t.Bb k=(oy f ls lv t (k:Int) (bh (aI xs (k:Int))) ls.length).2.Bb
 b:gt t.Aq k=An->mZ (gt t.Af k)=An
theorem qcM(h:yZ ls M):∀(R l1:List Nat) (t C:qn),um ls.length (AO ls) (DK ls) (zr lv) M (l1++R)->(t.Aq.length=M/\t.Af.length=M/\t.Bb.length=M)->qah t M l1->(∀k,k∈l1->qan f ls lv xs t k) ->
  XF f ls lv xs R t=V C->∀k,k∈l1++R->qan f ls lv xs C k:=by
 intro R
 induction R with
 |nil=>
  intro l1 t C _ _ _ K e k S;obtain rfl:=Option.some.inj e;rw[jY] at S;exact K k S
 |cons k R ih=>
  intro l1 t C H X Q K e;obtain⟨v,s,z⟩:=X;have assoc:l1++k::R=(l1++[k])++R:=by simp
  obtain⟨N,kn,k0⟩:=H l1 k R Z;have P:∀y,y∈l1++[k]->∀x,x<ls.length->uh ls lv (y:Int) x=An->gY ls x∈l1:=by
   intro y b x L B;unfold uh at B;rw[je,beq_iff_eq] at B;have fin:∀l a,um ls.length (AO ls) (DK ls) (zr lv) M (l++y::a)->gY ls x∈l:=fun l a F=>by
    have:=wJ.1 (F l y a Z).2.2 x L B.1 B.2;rw[show AO ls x=(gY ls x:Int) from(tu h L).1,pC] at this;exact this
   rcases List.mem_append.1 b with b|b
   .obtain⟨a,c,rfl⟩:=List.append_of_mem b;have:gY ls x∈a:=fin a (c++k::R) (by simpa using H);exact jK _ this
   .obtain rfl:=List.mem_singleton.1 b;exact fin l1 R H
  have I:∀y,y∈l1->y≠k:=fun y b e=>kn (e ▸ b);rw[assoc];unfold XF at e;have m:∀{u:qn},(∀y,y≠k->gt u.Aq y=gt t.Aq y/\gt u.Af y=gt t.Af y/\gt u.Bb y=gt t.Bb y)->qah u M (l1++[k]):=fun hu y b T=>by
   obtain⟨u1,u2,u3⟩:=hu y (fun e=>T (jS _ (List.mem_singleton.2 e)));rw[u1,u2,u3];exact Q y b fun Y=>T (jK _ Y)
  cases h1:(oy f ls lv t (k:Int) (bh (aI xs (k:Int))) ls.length).1
  .rw[h1] at e;refine ih (l1++[k]) t C (by rw[<-assoc];exact H) ⟨v,s,z⟩ (m fun y _=>⟨Z,Z,Z⟩) (fun y b=>?_) e;rcases List.mem_append.1 b with b|b
   .exact K y b
   .obtain rfl:=List.mem_singleton.1 b;have W:=(Q y N kn).1;have O:gt t.Aq y≠An:=by rw[W];decide
    exact⟨by rw[W,h1],fun e=>absurd e O,fun e=>absurd e O,fun e=>absurd e O⟩
  .rw[h1] at e;cases F:mZ (oy f ls lv t (k:Int) (bh (aI xs (k:Int))) ls.length).2.Af
   .rw[F] at e;cases e
   .rw[F] at e;have g:∀y,gt (FE t k (oy f ls lv t (k:Int) (bh (aI xs (k:Int))) ls.length)).Aq y=(if y=k then An else gt t.Aq y)/\gt (FE t k (oy f ls lv t (k:Int) (bh (aI xs (k:Int))) ls.length)).Af y=(if y=k then(oy f ls lv t (k:Int) (bh (aI xs (k:Int))) ls.length).2.Af else gt t.Af y) /\
      gt (FE t k (oy f ls lv t (k:Int) (bh (aI xs (k:Int))) ls.length)).Bb y=(if y=k then(oy f ls lv t (k:Int) (bh (aI xs (k:Int))) ls.length).2.Bb else gt t.Bb y):=fun y=>by
     refine⟨?_,?_,?_⟩
     .show gt (ak _ _ _) y=_;rw[lP (by rw[v];exact N),h1]
     .show gt (ak _ _ _) y=_;rw[lP (by rw[s];exact N)]
     .show gt (ak _ _ _) y=_;rw[lP (by rw[z];exact N)]
    have i:∀y,y≠k->gt (FE t k (oy f ls lv t (k:Int) (bh (aI xs (k:Int))) ls.length)).Aq y=gt t.Aq y/\gt (FE t k (oy f ls lv t (k:Int) (bh (aI xs (k:Int))) ls.length)).Af y=gt t.Af y/\gt (FE t k (oy f ls lv t (k:Int) (bh (aI xs (k:Int))) ls.length)).Bb y=gt t.Bb y:=fun y b=>by
     obtain⟨o,D,J⟩:=g y;rw[if_neg b] at o D J;exact⟨o,D,J⟩
    have len:(FE t k (oy f ls lv t (k:Int) (bh (aI xs (k:Int))) ls.length)).Aq.length=M/\(FE t k (oy f ls lv t (k:Int) (bh (aI xs (k:Int))) ls.length)).Af.length=M/\(FE t k (oy f ls lv t (k:Int) (bh (aI xs (k:Int))) ls.length)).Bb.length=M:=
     ⟨by show(ak _ _ _).length=_;rw[bY];exact v,by show(ak _ _ _).length=_;rw[bY];exact s,by show(ak _ _ _).length=_;rw[bY];exact z⟩
    obtain⟨p,d,r⟩:=g k;rw[if_pos Z] at p d r;have n:∀y,y∈l1++[k]->oy f ls lv (FE t k (oy f ls lv t (k:Int) (bh (aI xs (k:Int))) ls.length)) (y:Int) (bh (aI xs (y:Int))) ls.length=oy f ls lv t (y:Int) (bh (aI xs (y:Int))) ls.length:=fun y b=>
     H3 _ fun x L B=>i _ (I _ (P y b x L B))
    generalize FE t k (oy f ls lv t (k:Int) (bh (aI xs (k:Int))) ls.length)=u at e i p d r len n;refine ih (l1++[k]) u C (by rw[<-assoc];exact H) len (m i) (fun y b=>?_) e;have A:=n y b;rcases List.mem_append.1 b with b|b
    .obtain⟨o,D,J⟩:=i y (I y b);have b:=K y b;exact⟨by rw[A,o];exact b.r,fun e=>by rw[A,D];exact b.a (by rw[<-o];exact e),fun e=>by rw[A,J];exact b.s (by rw[<-o];exact e),fun e=>by rw[D];exact b.b (by rw[<-o];exact e)⟩
    .obtain rfl:=List.mem_singleton.1 b;exact⟨by rw[A,p,h1],fun _=>by rw[A,d],fun _=>by rw[A,r],fun _=>by rw[d];exact F⟩
theorem C5{t:qn}{node:Int}{s0:Bool×ql}(d:s0.1=An):∀j,(oy f ls lv t node s0 j).1=An/\OH s0.2.Af (oy f ls lv t node s0 j).2.Af/\OH s0.2.Bb (oy f ls lv t node s0 j).2.Bb:=by
 intro j
 induction j with
 |zero=>exact⟨d,.refl,.refl⟩
 |succ j ih=>
  obtain⟨a,b,c⟩:=ih;unfold oy;cases uh ls lv node j
  .exact⟨a,b,c⟩
  .simp only[Ci];unfold nU;cases gt t.Aq (gY ls j)
   .exact⟨a,b,c⟩
   .simp only[Ci];unfold zQ;rw[a];exact⟨Z,b.trans .hullL,c.trans .hullL⟩
theorem VO{t:qn}{node:Int}{s0:Bool×ql}{x:Nat}(d:uh ls lv node x=An)(g:gt t.Aq (gY ls x)=An):∀j,x<j->(oy f ls lv t node s0 j).1=An /\
  OH (ur (gt t.Af (gY ls x)) (f x (gt t.Bb (gY ls x))).1) (oy f ls lv t node s0 j).2.Af/\OH (f x (gt t.Bb (gY ls x))).2 (oy f ls lv t node s0 j).2.Bb:=by
 intro j
 induction j with
 |zero=>intro h;omega
 |succ j ih=>
  intro h;unfold oy;by_cases e:x=j
  .subst e;rw[d];simp only[Ci];unfold nU;rw[g];simp only[Ci];unfold zQ;cases (oy f ls lv t node s0 x).1
   .exact⟨Z,.refl,.refl⟩
   .exact⟨Z,.hullR,.hullR⟩
  .obtain⟨a,b,c⟩:=ih (by omega);cases uh ls lv node j
   .exact⟨a,b,c⟩
   .simp only[Ci];unfold nU;cases gt t.Aq (gY ls j)
    .exact⟨a,b,c⟩
    .simp only[Ci];unfold zQ;rw[a];exact⟨Z,b.trans .hullL,c.trans .hullL⟩
end
structure ON(j:bg)(t:qn)(f:Nat->qg->qg×qg):Prop where
 ss:xR j.Ac j.Aj f
 si:EN j.Ac j.Aj [] f
 eq:∀k,k<vt j.Ac->qan f (qd j.Ac) (pB j.Ac j.Av) j.Ap t k
 pt:Ev (fun n=>bM n j.Ac j.Aj j.Av j.Ap) (t,0)
theorem qdu{j:bg}{t:qn}(h:mQ j)(B:Ev (fun n=>bS n j) (LR j t,0)):∃f,ON j t f:=by
 have g:=h.Av.len;have s:=h.Ap.len;have C:∀{d:qn} {code:Int},Ev (fun n=>bM n j.Ac j.Aj j.Av j.Ap) (d,code)->code=0/\d=t:=by
  intro d code l;unfold bS at B;by_cases c:code=0
  .subst c;refine⟨Z,?_⟩;cases hbk:aU j.Ac
   .exfalso;unfold bM ru at l;have F:=ta h.Ac;rw[hbk] at F;have:=l.uniq (Ck (b:=([],1)) (Ck (b:=An) (Ck F (Cr Z .done)) (Cr Z .done)) (Cr Z .done));cases this
   .have u:=pz (ls:=qd j.Ac) (br:=j.Av) (lG hbk) g;have:=B.uniq (Ck l (Cp Z (Ck (gL hbk) (Ck u .done))));unfold LR at this;injection this with a _;injection a with a;injection a with _ _ _ a;exact a.symm
  .have:=B.uniq (Ck l (Cr (oR c) .done));unfold LR at this;cases this
 have D:∃o,((∃f d ,o=(d,(0:Int))/\xR j.Ac j.Aj f/\EN j.Ac j.Aj [] f/\∀k,k<vt j.Ac->qan f (qd j.Ac) (pB j.Ac j.Av) j.Ap d k)\/o.2≠0)/\Ev (fun n=>bM n j.Ac j.Aj j.Av j.Ap) o:=by
  unfold bM;rcases qbW h.Ac h.Aj.Bh g s with⟨code,c,hc,_⟩|⟨R,hg,hc,_⟩
  .exact⟨(zT,code),.inr c,Ck hc (Cr (oR c) .done)⟩
  .have a:=hg.bl;have A:=lG a;have z:=kf a;have u:=pz (ls:=qd j.Ac) (br:=j.Av) A g;obtain⟨f,H,y⟩:=WP a hg.co;have p:=y [] (.inl Z);rw[RC] at p;have K:=bf (qZ (aO a));have m:=hg.len;have v:R.length<=1000:=by rw[m];show 2*(places j.Ac.Aa).length<=1000;omega
   have x:∀k,k∈R->k<2*(places j.Ac.Aa).length:=fun k r=>by
    obtain⟨i,hi,rfl⟩:=List.mem_iff_getElem.1 r;exact(hg.ord.at hi).1
   have o2:=D2 (lv:=pB j.Ac j.Av) (R:=R) a H uO (MC s hg.sr) x v;have o1:=qcM (f:=f) (lv:=pB j.Ac j.Av) (xs:=j.Ap) z R [] (ZV (2*(places j.Ac.Aa).length));generalize XF f (qd j.Ac) (pB j.Ac j.Av) j.Ap R (ZV (2*(places j.Ac.Aa).length))=o at o1 o2;cases o with
   |none=>exact⟨(zT,3),.inr (by decide),Ck hc (Cp Z (Ck (gL a) (Ck u (Ck o2 (Cr Z .done)))))⟩
   |some d=>
    refine⟨(d,0),.inl ⟨f,d,Z,H,p,fun k r=>?_⟩,Ck hc (Cp Z (Ck (gL a) (Ck u (Ck o2 (Cp Z .done)))))⟩;obtain⟨i,hi,e⟩:=hg.ord.full m r;exact o1 d hg.ord ⟨jI,jI,jI⟩ XC (fun k r=>by cases r) rfl k (by rw[<-e];exact jo hi)
 obtain⟨o,J,l⟩:=D;obtain⟨o1,o2⟩:=o;obtain⟨I,ct⟩:=C l;subst I;subst ct;rcases J with⟨f,d,e,a,h2,h3⟩|c
 .injection e with e _;subst e;exact⟨f,a,h2,h3,l⟩
 .exact absurd Z c
structure qd0(t:qn)(a:qg)(k:Nat):Prop where
 r:gt t.Aq k=An
 i:OH a (gt t.Af k)
 o:a.As<=a.Be
section
variable{j:bg}{t:qn}{R:List Nat}{f:Nat->qg->qg×qg}{start:Int}{path:List Int}
theorem Y7{xs:List ql}{M:Nat}(h:IX xs M=An){x:ql}(a:x∈xs):mZ x.Af=An:=by
 unfold IX at h;rw[aG] at h;obtain⟨i,hi,rfl⟩:=List.mem_iff_getElem.1 a;have:=h i hi;rw[<-fh hi];simp only[je] at this;exact this.2.2.1
theorem YV(n:sy j t R)(f:mY j start path=An){i:Nat}(hi:i<path.length):∃k a c:Nat,k<yX j.Ac/\bO path i=(k:Int)/\gt (pB j.Ac j.Av) k=An/\gY (qd j.Ac) k=a/\(gt (qd j.Ac) k).To=(c:Int)/\a<vt j.Ac/\c<vt j.Ac/\TO (qd j.Ac) start path i=(a:Int)/\TO (qd j.Ac) start path (i+1)=(c:Int):=by
 have d:=kf n.tg.bl;unfold mY at f;rw[je,aG] at f;have:=f.2 i hi;unfold okP at this;simp only[je,beq_iff_eq] at this;obtain⟨l,m,h⟩:=this;obtain⟨o,r1,b⟩:=uN l;have p:=d.fr0 _ b;have r:=d.fr1 _ b;have g:=d.to0 _ b;have s:=d.to1 _ b;refine⟨(bO path i).toNat,gY (qd j.Ac) (bO path i).toNat,(gt (qd j.Ac) (bO path i).toNat).To.toNat,b,fa o,m,Z,fa g,?_,?_,?_,fa g⟩
 .exact(tu d b).2
 .show _<2*(places j.Ac.Aa).length;omega
 .rw[<-h];exact(tu d b).1
theorem Z1(r:sy j t R)(n:ON j t f)(c:mY j start path=An):∃k:Nat,k<vt j.Ac/\start=(k:Int)/\∃y:ql,aI j.Ap start=V y/\y∈j.Ap/\y.Bn=start/\gt t.Aq k=An/\OH y.Af (gt t.Af k)/\OH y.Bb (gt t.Bb k):=by
 unfold mY at c;rw[je] at c;cases ho:aI j.Ap start with
 |none=>rw[ho] at c;exact absurd c.1 (by decide)
 |some y=>
  obtain⟨h,g⟩:=yT ho;have o:gd y.Bn 0 ((vt j.Ac:Int)-1)=An:=by
   have b:=r.tg.sr;unfold IX at b;rw[aG] at b;obtain⟨i,hi,e⟩:=List.mem_iff_getElem.1 g;have:=b i hi;rw[fh hi,e,je] at this;exact this.1
  obtain⟨s,r1,l⟩:=uN o;have e:start=(y.Bn.toNat:Int):=by rw[<-h];exact fa s
  have d:=n.eq _ l;have p:=C5 (f:=f) (ls:=qd j.Ac) (lv:=pB j.Ac j.Av) (t:=t) (node:=(y.Bn.toNat:Int)) (s0:=bh (aI j.Ap (y.Bn.toNat:Int))) (by rw[<-e,ho];rfl) (qd j.Ac).length;obtain⟨s1,s2,m⟩:=p;have a:gt t.Aq y.Bn.toNat=An:=d.r.trans s1;rw[<-d.a a,<-e,ho] at s2;rw[<-d.s a,<-e,ho] at m;exact⟨_,l,e,y,Z,g,h,a,s2,m⟩
theorem qaS(s:sy j t R)(m:ON j t f){k a c:Nat}(o:k<yX j.Ac)(r:gt (pB j.Ac j.Av) k=An)(d:gY (qd j.Ac) k=a)(n:(gt (qd j.Ac) k).To=(c:Int))(g:c<vt j.Ac)(p:gt t.Aq a=An) :
  gt t.Aq c=An/\OH (ur (gt t.Af a) (f k (gt t.Bb a)).1) (gt t.Af c)/\OH (f k (gt t.Bb a)).2 (gt t.Bb c):=by
 have h:=m.eq c g;have l:uh (qd j.Ac) (pB j.Ac j.Av) (c:Int) k=An:=by
  unfold uh zr DK;rw[r,n];simp
 obtain⟨s1,s2,i⟩:=VO (f:=f) (s0:=bh (aI j.Ap (c:Int))) l (by rw[d];exact p) (qd j.Ac).length o;have b:gt t.Aq c=An:=h.r.trans s1;rw[<-h.a b,d] at s2;rw[<-h.s b,d] at i;exact⟨b,s2,i⟩
theorem qb5(g:sy j t R)(m:ON j t f)(s:mY j start path=An):∀i,i<=path.length->∃k:Nat,k<vt j.Ac/\TO (qd j.Ac) start path i=(k:Int)/\qd0 t (ED f (qd j.Ac) t (bh (aI j.Ap start)).2.Af path i) k:=by
 intro i
 induction i with
 |zero=>
  intro _;obtain⟨k,n,e,y,v,H,_,I,b,_⟩:=Z1 g m s;refine⟨k,n,e,I,?_,?_⟩
  .rw[v];exact b
  .rw[v];have:=Y7 g.tg.sr H;rw[IK] at this;exact this.2.1
 |succ i ih=>
  intro hi;obtain⟨k,n,e,b⟩:=ih (by omega);obtain⟨l,a,c,u,el,J,d,r,F,h,M,z⟩:=YV g s (show i<path.length by omega);have o:k=a:=by omega
  subst o;obtain⟨c1,x,_⟩:=qaS g m u J d r h b.r;have p:=g.tm.sl k n;obtain⟨K,L,d2⟩:=Y5 g.tg.bl g.tg.co m.ss u p;have D:=(m.eq k n).b b.r;rw[IK] at D;refine⟨c,h,z,c1,?_,?_⟩
  .refine OH.trans ?_ x;show OH (ur (ED f (qd j.Ac) t (bh (aI j.Ap start)).2.Af path i) (f (bO path i).toNat (gt t.Bb (gY (qd j.Ac) (bO path i).toNat))).1) _;rw[el,jr,d];have A:=b.i.e;have B:=b.i.l;have C:=b.o;constructor
   .show qj ((gt t.Af k).As+(f l (gt t.Bb k)).1.As)<=qj ((ED f (qd j.Ac) t (bh (aI j.Ap start)).2.Af path i).As+(f l (gt t.Bb k)).1.As);rw[qY (by omega) (by omega),qY (by omega) (by omega)];omega
   .show qj ((ED f (qd j.Ac) t (bh (aI j.Ap start)).2.Af path i).Be+(f l (gt t.Bb k)).1.Be)<=qj ((gt t.Af k).Be+(f l (gt t.Bb k)).1.Be);rw[qY (by omega) (by omega),qY (by omega) (by omega)];omega
  .show(ur (ED f (qd j.Ac) t (bh (aI j.Ap start)).2.Af path i) (f (bO path i).toNat (gt t.Bb (gY (qd j.Ac) (bO path i).toNat))).1).As<=(ur (ED f (qd j.Ac) t (bh (aI j.Ap start)).2.Af path i) (f (bO path i).toNat (gt t.Bb (gY (qd j.Ac) (bO path i).toNat))).1).Be;rw[el,jr,d];have A:=b.i.e;have B:=b.i.l;have C:=b.o;show qj (_+_)<=qj (_+_);rw[qY (by omega) (by omega),qY (by omega) (by omega)];omega
end
section
variable{j:bg}{t:qn}{R:List Nat}{start mode:Int}{path:List Int}
theorem D8{a:qn}{c:Int}(h:(LR j t,(0:Int))=(LR j a,c)):t=a:=by
 unfold LR at h;injection h with h _;injection h with h;injection h with _ _ _ h
theorem ZG{c:qn}{R':List Nat}(b:sy j t R)(a:sy j c R'):R=R':=by
 have e:V R=V R':=by rw[<-b.tg.or_,<-a.tg.or_]
 injection e
theorem KM(h:mQ j)(f:sy j t R)(a:Ev (fun n=>bS n j) (LR j t,0))(d:path.length<=1048576)(b:mY j start path=An)(c:pD mode=An):Ev (fun n=>gh n j mode start path) (yi j t R,0):=by
 rcases VX (start:=start) h d mode with⟨code,hne,hs',_⟩|⟨t',R',hw',hs',hi'⟩
 .have:=a.uniq hs';unfold LR at this;cases this
 .rw[c,b] at hi';rw[D8 (a.uniq hs'),ZG f hw'];exact hi'
theorem N6(h:mQ j)(b:sy j t R)(a:Ev (fun n=>bM n j.Ac j.Aj j.Av j.Ap) (t,0)):Ev (fun n=>nT n j) (yi j t R,0):=by
 rcases ME h with⟨code,hne,hs',_⟩|⟨t',R',hw',hs',hi'⟩
 .have:=a.uniq hs';injection this with _ e;exact absurd e.symm hne
 .have:=a.uniq hs';injection this with e _;rw[e,ZG b hw'];exact hi'
end
section
variable{j:bg}{t:qn}{start:Int}{path:List Int}{m:Nat}
end

section
variable{j:bg}{t:qn}{R:List Nat}{c:List Int}{f:Nat->qg->qg×qg}
theorem PS{g:Nat->Int}:∀l:List Nat,(∀x,x∈l->g x=0)->l.foldl (fun v k=>XE (qj (v+g k))) 0=0
 | [],_=>rfl
 |x::l,h=>by
  rw[List.foldl_cons,h x (ju ..)];exact PS l fun y a=>h y (jp _ a)
theorem IZ(k:sy j t R)(l:ON j t f)(n:TR j c):∀m i,∀hi:i<R.length,i<m->gt t.Aq R[i]=Cd->gt c R[i]=0
 |0,_,_,h,_=>absurd h (Ji _)
 |m+1,i,hi,hm,hr=>by
  have o:R[i]<vt j.Ac:=(k.tg.ord.at hi).1;have e:=n R[i] o;have a:=(l.eq R[i] o).r;rw[hr] at a;have s:(bh (aI j.Ap (R[i]:Int))).1=Cd:=by
   cases hs:(bh (aI j.Ap (R[i]:Int))).1 with
   |false=>rfl
   |true=>
    have:=(C5 (f:=f) (ls:=qd j.Ac) (lv:=pB j.Ac j.Av) (t:=t) (node:=(R[i]:Int)) hs (qd j.Ac).length).1;rw[this] at a;cases a
  have b:∀x,x∈mF j R[i]->gt c (gY (qd j.Ac) x)=0:=fun x b=>by
   obtain⟨x1,v,d,u,r⟩:=pT k hi b;have p:gt t.Aq (gY (qd j.Ac) x)=Cd:=by
    cases hs:gt t.Aq (gY (qd j.Ac) x) with
    |false=>rfl
    |true=>
     have:=(VO (f:=f) (ls:=qd j.Ac) (lv:=pB j.Ac j.Av) (t:=t) (node:=(R[i]:Int)) (s0:=bh (aI j.Ap (R[i]:Int))) (nG.1 b).2 hs (qd j.Ac).length x1).1;rw[this] at a;cases a
   rw[<-r] at p⊢;exact IZ k l n m v d (by omega) p
  rw[e];unfold TP ZM;rw[s];exact PS (g:=fun x=>gt c (gY (qd j.Ac) x)) _ b
theorem qbG(m:sy j t R)(s:ON j t f)(n:TR j c):∀d i,∀hi:i<R.length,i<d->gt c R[i]<=300->((aP j t d R[i]).length:Int)=gt c R[i]
 |0,_,_,h,_=>absurd h (Ji _)
 |d+1,i,hi,h,h3=>by
  obtain⟨e,o⟩:=(UO m n (i+1) i hi (by omega)).2.2 h3;have:=A9 (g:=fun x=>gt c (gY (qd j.Ac) x)) (f:=LC t (aP j t d) (qd j.Ac)) (mF j R[i]) fun x u=>by
   obtain⟨_,p,l,v,r⟩:=pT m hi u;have a:=qbG m s n d p l (by omega) (by rw[r];exact o x u);have b:=IZ m s n (p+1) p l (by omega);rw[r] at a b;unfold LC;cases hr:gt t.Aq (gY (qd j.Ac) x)
   .have:=b hr;simpa using this.symm
   .simpa using a
  simp only[aP,jg];have:=TC (j:=j) (k:=R[i]);omega
end

section
variable{f:Nat->qg->qg×qg}{ls:List qw}{lv:List Bool}{t:qn}{m:Int}
theorem U9{a b:qg}:IC m (EF a b)=IC m a\/IC m (EF a b)=IC m b:=by
 unfold IC EF;cases m==1
 .show(if b.As<a.As then b.As else a.As)=a.As\/(if b.As<a.As then b.As else a.As)=b.As;split
  .exact .inr Z
  .exact .inl Z
 .show(if b.Be > a.Be then b.Be else a.Be)=a.Be\/(if b.Be > a.Be then b.Be else a.Be)=b.Be;split
  .exact .inr Z
  .exact .inl Z
theorem U6{node:Int}{s0:Bool×ql}:∀j,(oy f ls lv t node s0 j).1=An->(s0.1=An/\IC m (oy f ls lv t node s0 j).2.Af=IC m s0.2.Af) \/
  ∃x,x<j/\uh ls lv node x=An/\gt t.Aq (gY ls x)=An/\IC m (oy f ls lv t node s0 j).2.Af=IC m (ur (gt t.Af (gY ls x)) (f x (gt t.Bb (gY ls x))).1):=by
 intro j
 induction j with
 |zero=>intro h;exact .inl ⟨h,Z⟩
 |succ j ih=>
  have old:(oy f ls lv t node s0 j).1=An->∀v,v=IC m (oy f ls lv t node s0 j).2.Af->(s0.1=An/\v=IC m s0.2.Af)\/∃x,x<j+1/\uh ls lv node x=An/\gt t.Aq (gY ls x)=An/\v=IC m (ur (gt t.Af (gY ls x)) (f x (gt t.Bb (gY ls x))).1):=fun h v e=>by
   rcases ih h with h|⟨x,h1,h2,h3,h4⟩
   .exact .inl ⟨h.1,e.trans h.2⟩
   .exact .inr ⟨x,by omega,h2,h3,e.trans h4⟩
  unfold oy;cases hq:uh ls lv node j
  .intro h;exact old h _ Z
  .simp only[Ci];unfold nU;cases hr:gt t.Aq (gY ls j)
   .intro h;exact old h _ Z
   .simp only[Ci];unfold zQ;cases h1:(oy f ls lv t node s0 j).1
    .intro _;exact .inr ⟨j,by omega,hq,hr,Z⟩
    .intro _;rcases U9 (m:=m) (a:=(oy f ls lv t node s0 j).2.Af) (b:=ur (gt t.Af (gY ls j)) (f j (gt t.Bb (gY ls j))).1) with e|e
     .exact old h1 _ e
     .exact .inr ⟨j,by omega,hq,hr,e⟩
end
section
variable{j:bg}{t:qn}{R:List Nat}{c:List Int}{f:Nat->qg->qg×qg}{m:Int}
theorem qar{ls:List qw}{a0:qg}{xs ys:List Int}:∀i,i<=xs.length->ED f ls t a0 (xs++ys) i=ED f ls t a0 xs i:=by
 intro i
 induction i with
 |zero=>intro _;rfl
 |succ i ih=>
  intro hi;unfold ED;rw[ih (by omega),RN (by omega)]
theorem P1{p:qK}{x:Nat}:AR f j t m (WN x p)=IC m (ur (ED f (qd j.Ac) t (bh (aI j.Ap p.Bo)).2.Af p.Bl p.Bl.length) (f x (gt t.Bb (gY (qd j.Ac) x))).1):=by
 unfold AR WN;show IC m (ED f (qd j.Ac) t (bh (aI j.Ap p.Bo)).2.Af (p.Bl++[(x:Int)]) (p.Bl++[(x:Int)]).length)=_;rw[jg,jh];show IC m (ur (ED f (qd j.Ac) t (bh (aI j.Ap p.Bo)).2.Af (p.Bl++[(x:Int)]) p.Bl.length) (f (bO (p.Bl++[(x:Int)]) p.Bl.length).toNat (gt t.Bb (gY (qd j.Ac) (bO (p.Bl++[(x:Int)]) p.Bl.length).toNat))).1)=_;rw[qar p.Bl.length (jf _),MI,jr]
theorem UC(o:sy j t R)(s:ON j t f)(m:Int):∀d i,∀hi:i<R.length,i<d->gt t.Aq R[i]=An->∃p,p∈aP j t d R[i]/\AR f j t m p=IC m (gt t.Af R[i]):=by
 intro d
 induction d with
 |zero=>intro i hi h;omega
 |succ d ih=>
  intro i hi u n;have v:R[i]<vt j.Ac:=(o.tg.ord.at hi).1;have k:=s.eq _ v;have g:=k.a n;rcases U6 (m:=m) _ (k.r.symm.trans n) with⟨e1,e2⟩|⟨x,h2,h3,h4,h5⟩
  .refine⟨⟨(R[i]:Int),[],0⟩,?_,?_⟩
   .show _∈EB j R[i]++_;refine List.mem_append.2 (.inl ?_);unfold EB;rw[e1];exact List.mem_singleton.2 Z
   .rw[g,e2]
    rfl
  .have r:x∈mF j R[i]:=nG.2 ⟨h2,h3⟩;obtain⟨z,A,b,y,c⟩:=pT o hi r;obtain⟨p,l,a⟩:=ih A b (by omega) (by rw[c];exact h4);rw[c] at l a;refine⟨WN x p,?_,?_⟩
   .show _∈EB j R[i]++_;refine List.mem_append.2 (.inr (List.mem_flatMap.2 ⟨x,r,?_⟩));unfold LC;rw[h4];exact List.mem_map.2 ⟨p,l,Z⟩
   .rw[P1,g,h5,<-VS,<-VS];unfold AR at a;rw[a]
theorem qb4(a:sy j t R)(c:ON j t f){d k:Nat}{p:qK}(i:p∈aP j t d k):OH (ED f (qd j.Ac) t (bh (aI j.Ap p.Bo)).2.Af p.Bl p.Bl.length) (gt t.Af k)/\gt t.Aq k=An:=by
 obtain⟨g,h,_⟩:=LS a d k p i;obtain⟨b,m,l,k3⟩:=qb5 a c g p.Bl.length (jf _);have e:(k:Int)=(b:Int):=h.symm.trans l;have e:k=b:=by omega
 subst e;exact⟨k3.i,k3.r⟩
theorem EJ(b:sy j t R)(d:ON j t f)(g:TR j c){k:Nat}(n:k<vt j.Ac)(m:gt c k<=300):gt t.Aq k=decide (gt c k > 0)/\((aP j t R.length k).length:Int)=gt c k:=by
 obtain⟨i,hi,a⟩:=b.tg.ord.full b.tg.len n;have h:=qbG b d g R.length i hi hi (by rw[a];exact m);rw[a] at h;refine⟨?_,h⟩;cases hr:gt t.Aq k
 .have:=IZ b d g R.length i hi hi (by rw[a];exact hr);rw[a] at this;rw[this]
  rfl
 .obtain⟨p,l,_⟩:=UC b d 0 R.length i hi hi (by rw[a];exact hr);rw[a] at l;have:=List.length_pos_of_mem l;exact(decide_eq_true (by omega)).symm
end

section
variable{j:bg}{t:qn}{R:List Nat}{c:List Int}
structure AC(j:bg)(node:Int)(t:qn)(R:List Nat)(f:Nat->qg->qg×qg)(c:List Int):Prop where
 w:sy j t R
 T:ON j t f
 ct:TR j c
 nd:0<=node/\node.toNat<vt j.Ac
 few:gt c node.toNat<=300
 op:Ev (fun n=>bS n j) (LR j t,0)
 pc:Ev (fun n=>gB n (yi j t R) node) (gt c node.toNat)
theorem AC.arr{node:Int}{f:Nat->qg->qg×qg}(N:AC j node t R f c):node=(node.toNat:Int):=fa N.nd.1
theorem OE{node mode:Int}{f:Nat->qg->qg×qg}(h:mQ j)(N:AC j node t R f c)(i:pD mode=An):Ev (fun n=>dV n j mode [node]) (yi j t R,0):=by
 rcases LY h with⟨code,hne,hs,_⟩|⟨t',R',hw',hs',hi'⟩
 .have:=hs.uniq N.op;unfold LR at this;cases this
 .have e:=D8 (hs'.uniq N.op);subst e;have g:=ZG N.w hw';subst g;have a:=hi' mode [node] (by simp) (vh i);have b:([node].all fun x=>gd x 0 ((vt j.Ac:Int)-1))=gd node 0 ((vt j.Ac:Int)-1):=by simp
  have d:gd node 0 ((vt j.Ac:Int)-1)=An:=bV.2 (by have:=N.nd;omega);rw[b,d] at a;exact a
theorem E4(h:mQ j){node mode count:Int}{f:Nat->qg->qg×qg}(N:AC j node t R f c)(x:pD mode=An)(y:gd count 0 20=An) :
  Ev (fun n=>sP n j node mode count) ((wj mode ((aP j t R.length node.toNat).map (vA (AR f j t mode)))).take count.toNat,0):=by
 have z:=N.w;have I:=N.T;have hi:=OE h N x;have m:=I.si;have C:=N.pc;have F:¬ gt c node.toNat > 300:=by have:=N.few;omega
 obtain⟨P,Q⟩:=bV.1 y;obtain⟨L,H,r,D,A⟩:=YS h z N.ct N.nd.2 N.few;rw[<-N.arr] at A;rw[<-D];have J:=N.few;have K:L.length<=300:=by omega
 have a:=fD (Lf:=fun n s i=>nA mode (yi j t R) L n s i) (S:=N2 (vA (AR f j t mode)) L) (len:=L.length) (fin:=(L.map (vA (AR f j t mode)),(L.length:Int)))
  (fun n=>by simp only[nA,qu (jf _),Cj,Y9])
  (fun i hi X u=>by
   have d:gt L i∈L:=by rw[fh hi];exact jo hi
   obtain⟨a1,a2,_⟩:=r _ d;simp only[nA];refine Cr (qq hi) (Cy (D7 hi) (Ck (B4 h z m (by omega) a2) (Ck (.now (qbQ (n:=0) x)) (Cy (D7 hi) ?_))));rw[wS i];have e:=qbr (g:=vA (AR f j t mode)) hi;unfold vA AR at e⊢;unfold vA AR at u;rw[e];exact u)
 rw[Z0] at a;have B:=Y4 (mode:=mode) (xs:=L.map (vA (AR f j t mode))) (by rw[jq];omega) fun p O=>by
  obtain⟨q,o,rfl⟩:=List.mem_map.1 O;have:=(r q o).1;show q.Bl.length<=1000000;omega
 have l:(wj mode (L.map (vA (AR f j t mode)))).length<=300:=by rw[VL,jq];exact K
 generalize wj mode (L.map (vA (AR f j t mode)))=M at B l⊢;obtain⟨k,rfl⟩:∃k:Nat,count=(k:Int):=⟨count.toNat,by omega⟩;unfold sP;refine Ck hi (Cp Z ?_);simp only[fx,y,jd];refine Cp Z (Ck C (Cp (decide_eq_false F) (Ck A (Ck a (Ck B (Cy (b:=(M.length:Int)) Z ?_))))));by_cases v:(M.length:Int)<(k:Int)
 .rw[if_pos v,IY (jf _),jG,List.take_of_length_le (by omega)];exact .done
 .rw[if_neg v,IY (by omega)];exact .done
theorem XL{node mode count:Int}(h:mQ j):∃R:List qK×Int,Ev (fun n=>sP n j node mode count) R /\
  ((R.2≠0/\R.1=[]/\Ev (fun n=>xF n j node mode count) R)\/R.2=0/\pD mode=An/\gd count 0 20=An/\∃t S f c,AC j node t S f c/\R.1=(wj mode ((aP j t S.length node.toNat).map (vA (AR f j t mode)))).take count.toNat):=by
 unfold xF sP;rcases VQ (node:=node) h mode with⟨code,hne,hs,hi⟩|⟨t,R,hw,hr,ho,hs,hi⟩
 .exact⟨([],code),Ck hi (Cr (oR hne) .done),.inl ⟨hne,Z,Ck hs (Cr (oR hne) .done)⟩⟩
 obtain⟨p,r1,r⟩:=uN hr;obtain⟨f,u⟩:=qdu h ho;obtain⟨c,z,s,d⟩:=XY h hw;obtain⟨cs,g⟩:=d node.toNat r;rw[<-fa p] at cs g;obtain⟨l,k,i⟩:=t;have a:Ev (fun n=>lz n j node) (V (⟨j,qd j.Ac,pB j.Ac j.Av,⟨l,k,i⟩⟩:bC),(0:Int)):=hs;cases hm:pD mode
 .rw[hm] at hi;refine⟨([],2),Ck hi (Cr Z .done),.inl ⟨by decide,Z,Ck a (Ck (b:=An) ?_ (Cr Z .done))⟩⟩;simp only[FB,hm,jd];exact Cr Z .done
 rw[hm] at hi;cases hq:gd count 0 20
 .refine⟨([],2),Ck hi (Cp Z ?_),.inl ⟨by decide,Z,Ck a (Ck (b:=An) ?_ (Cr Z .done))⟩⟩
  .simp only[fx,hq,jd];exact Cr Z .done
  .simp only[FB,hm,jd,fC,hq];exact Cp Z .done
 have y:Ev (fun n=>(rn n mode).bind fun v=>bif (!v) then V An else(aW n count 0 20).bind fun x=>V (!x)) Cd:=by
  simp only[FB,hm,jd,fC,hq];exact Cp Z .done
 obtain⟨A,B⟩:=bV.1 hq;by_cases m:gt c node.toNat > 300
 .refine⟨([],3),Ck hi (Cp Z ?_),.inl ⟨by decide,Z,Ck a (Ck y (Cp Z (qch cs (Cr (decide_eq_true m) .done))))⟩⟩;simp only[fx,hq,jd];exact Cp Z (Ck g (Cr (decide_eq_true m) .done))
 have o:AC j node ⟨l,k,i⟩ R f c:=⟨hw,u,s,⟨p,r⟩,by omega,ho,g⟩;exact⟨_,E4 h o hm hq,.inr ⟨Z,Z,Z,⟨l,k,i⟩,R,f,c,o,Z⟩⟩
end

section
variable{j:bg}{t:qn}{R:List Nat}{c:List Int}{f:Nat->qg->qg×qg}
end

theorem C2{mode:Int}(a:pD mode=An){p q:qK}(h:LB (yb mode) p q=An):(mode=0->p.Af<=q.Af)/\(mode=1->q.Af<=p.Af):=by
 rw[qaQ] at h;unfold yb SF at h;rcases vh a with rfl|rfl
 .refine⟨fun _=>?_,fun e=>by omega⟩;refine Classical.byContradiction fun b=>h ?_;have e:NI 0 q p=-1:=by unfold NI vW;rw[if_neg (by decide),if_pos (by omega)]
  rw[e,if_neg (by decide)];decide
 .refine⟨fun e=>by omega,fun _=>?_⟩;refine Classical.byContradiction fun b=>h ?_;have e:NI 1 q p=-1:=by unfold NI vW;rw[if_pos Z,if_pos (by omega)]
  rw[e,if_neg (by decide)];decide
theorem QX{mode:Int}{xs:List qK}{i k:Nat}(a:i<k)(b:k<(wj mode xs).length):LB (yb mode) (gt (wj mode xs) i) (gt (wj mode xs) k)=An:=by
 rw[fh b,fh (show i<_ by omega)];exact List.pairwise_iff_getElem.1 WR i k (by omega) b a
theorem N1{mode:Int}(b:pD mode=An){xs:List qK}{p:qK}(c:p∈xs):(mode=0->(gt (wj mode xs) 0).Af<=p.Af)/\(mode=1->p.Af<=(gt (wj mode xs) 0).Af):=by
 obtain⟨k,a,e⟩:=List.mem_iff_getElem.1 (VN (mode:=mode).2 c);by_cases h:k=0
 .subst h;rw[fh a,e];exact⟨fun _=>jV _,fun _=>jV _⟩
 .have:=C2 b (QX (mode:=mode) (xs:=xs) (show 0<k by omega) a);rw[fh a,e] at this;exact this
section
variable{j:bg}{t:qn}{R:List Nat}{c:List Int}{f:Nat->qg->qg×qg}{node:Int}{mode:Int}
theorem AC.len(N:AC j node t R f c):((aP j t R.length node.toNat).length:Int)=gt c node.toNat:=(EJ N.w N.T N.ct N.nd.2 N.few).2
theorem AC.reached(N:AC j node t R f c):gt t.Aq node.toNat=decide (gt c node.toNat > 0):=(EJ N.w N.T N.ct N.nd.2 N.few).1
theorem C4{A:qK->Int}{L:List qK}{mode:Int}{k:Nat}(a:k<(wj mode (L.map (vA A))).length):∃p,p∈L/\gt (wj mode (L.map (vA A))) k=vA A p:=by
 have:gt (wj mode (L.map (vA A))) k∈wj mode (L.map (vA A)):=by rw[fh a];exact jo a
 obtain⟨p,b,e⟩:=List.mem_map.1 (VN.1 this);exact⟨p,b,e.symm⟩
theorem AC.first(N:AC j node t R f c)(k:pD mode=An)(r:0<(wj mode ((aP j t R.length node.toNat).map (vA (AR f j t mode)))).length) :
  (gt (wj mode ((aP j t R.length node.toNat).map (vA (AR f j t mode)))) 0).Af=IC mode (gt t.Af node.toNat):=by
 obtain⟨p,s,o⟩:=C4 r;obtain⟨b,u⟩:=qb4 N.w N.T s;obtain⟨i,hi,h⟩:=N.w.tg.ord.full N.w.tg.len N.nd.2;obtain⟨q,l,d⟩:=UC N.w N.T mode R.length i hi hi (by rw[h];exact u);rw[h] at l d;have g:=N1 k (List.mem_map_of_mem (f:=vA (AR f j t mode)) l);have n:(vA (AR f j t mode) q).Af=AR f j t mode q:=rfl;rw[n,d] at g;have e1:(gt (wj mode ((aP j t R.length node.toNat).map (vA (AR f j t mode)))) 0).Af=AR f j t mode p:=by rw[o];rfl
 rw[e1] at g⊢;have v:=b.e;have x:=b.l;rcases vh k with rfl|rfl
 .have a:=g.1 Z;have e:AR f j t 0 p=(ED f (qd j.Ac) t (bh (aI j.Ap p.Bo)).2.Af p.Bl p.Bl.length).As:=rfl;have m:IC 0 (gt t.Af node.toNat)=(gt t.Af node.toNat).As:=rfl;omega
 .have a:=g.2 Z;have e:AR f j t 1 p=(ED f (qd j.Ac) t (bh (aI j.Ap p.Bo)).2.Af p.Bl p.Bl.length).Be:=rfl;have m:IC 1 (gt t.Af node.toNat)=(gt t.Af node.toNat).Be:=rfl;omega
end

section
variable{j:bg}{t:qn}{R:List Nat}{c:List Int}{f:Nat->qg->qg×qg}{node mode start:Int}{path:List Int}
theorem F5(h:mQ j)(N:AC j node t R f c):Ev (fun n=>tC n j node) (gt c node.toNat,0):=by
 unfold tC;exact Ck (OE h N Z) (Cp Z (Ck N.pc .done))
theorem qa7(f:Ev (fun n=>nT n j) (yi j t R,0)):Ev (fun n=>iP n j.Ac j.Aj j.Av j.Ap) (t,0):=by
 obtain⟨⟨⟨L⟩,⟨I,Nn,P⟩,W⟩,⟨d,c1,a,b,c⟩,br,xs⟩:=j;obtain⟨N,g⟩:=f;refine⟨N,fun n i=>?_⟩;have h:=g n i;unfold nT at h;unfold iP;dsimp only at h⊢;generalize hY n ⟨⟨L⟩,⟨I,Nn,P⟩,W⟩ ⟨d,c1,a,b,c⟩ br xs U=o at h⊢;cases o with
 |none=>cases h
 |some o=>
  obtain⟨k,l,m⟩:=o;simp only[jd] at h⊢;cases h4:(m != 0)
  .rw[h4] at h;simp only[Cj] at h⊢;generalize fQ n k ⟨d,c1,a,b,c⟩ xs l=o at h⊢;cases o with
   |none=>cases h
   |some o=>
    obtain⟨r,p⟩:=o;simp only[jd] at h⊢;cases p
    .unfold yi at h;simp at h
    .unfold yi at h;simp only[Jm,Cj,Option.some.injEq,Prod.mk.injEq,aY.mk.injEq] at h⊢;exact⟨h.1.2.2.1,G⟩
  .rw[h4] at h;unfold yi at h;simp at h
theorem W5(h:mQ j)(N:AC j node t R f c):Ev (fun n=>iP n j.Ac j.Aj j.Av j.Ap) (t,0):=qa7 (N6 h N.w N.T.pt)
theorem qas(h:mQ j)(N:AC j node t R f c)(b:pD mode=An)(a:mY j start path=An)(d:path.length<=156) :
  Ev (fun n=>pU n j start path mode) (IC mode (ED f (qd j.Ac) t (bh (aI j.Ap start)).2.Af path path.length),0):=by
 unfold pU;refine Ck (KM h N.w N.op (by omega) a b) (Cp Z (Ck (B4 h N.w N.T.si (by omega) a) ?_));simp only[qbQ b];exact .done
theorem qaz(h:mQ j)(N:AC j node t R f c)(a:mY j start path=An)(g:path.length<=156):Ev (fun n=>tx n j start path) (YC j start path,0):=by
 unfold tx wD;have d:(pre (TO (qd j.Ac) start path) (path.length+1)).length=path.length+1:=vX;refine Ck (b:=(pre (TO (qd j.Ac) start path) (path.length+1),0)) (Ck (KM h N.w N.op (by omega) a Z) (Cp Z (Ck (SO (t:=t) (R:=R) (by omega) a) .done))) (Cp Z (Cy ?_ .done));rw[d,qY (by omega) (by omega)];have e:((path.length+1:Nat):Int)-1=(path.length:Int):=by omega
 rw[e];exact rg (by omega)
theorem AC.isPath(N:AC j node t R f c){p:qK}(d:p∈aP j t R.length node.toNat):mY j p.Bo p.Bl=An/\YC j p.Bo p.Bl=node/\p.Bl.length<=156:=by
 obtain⟨a,b,_⟩:=LS N.w _ _ p d;exact⟨a,by rw[b];exact N.arr.symm,V5 N.w a⟩
end
end Go.Fw
