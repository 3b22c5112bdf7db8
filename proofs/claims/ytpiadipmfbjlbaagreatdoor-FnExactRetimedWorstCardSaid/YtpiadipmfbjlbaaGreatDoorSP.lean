/- By a program of mine (gen.py): for each function a plain function and the proof that the code computes it. -/
import Derived.Test.YtpiadipmfbjlbaaGreatDoorR1
import Derived.Test.YtpiadipmfbjlbaaGreatDoorB9
import Derived.Test.YtpiadipmfbjlbaaGreatDoorA2
import Derived.Shelf.SlGeneric
import Derived.Shelf.SlicesG.Reverse
import Derived.Shelf.SlSortCmp.NoneTotal
import Derived.Ground.SlsfProg
import Derived.Ground.SlgnProg
import Derived.Test.YtpiadipmfbjlbaaGreatDoorProg
open Option renaming bind_some->jd, some->V, none->U
open Nat renaming le_refl->je, mul_le_mul_right->jv, lt_of_lt_of_le->jA, le_trans->Jb, add_zero->Jj
open Bool renaming and_eq_true->jf, eq_iff_iff->jn, true_and->jG, not_true->Ji
open List renaming length_append->jg, getElem?_eq_getElem->jh, length_singleton->jm, mem_cons_of_mem->jo, getElem_mem->jp, append_assoc->jq, take_succ_eq_append_getElem->js, length_map->ju, length_take->jw, mem_cons_self->jx, drop_eq_getElem_cons->jz, getD_eq_getElem?_getD->jD, take_length->jE, length_replicate->jH, mem_append_left->jJ, map_append->jL, mem_of_getElem?->jM, mem_append_right->jR, append_nil->jU, not_mem_nil->jV, take_append_drop->jX, all_eq_true->Jc, getElem_take->Je, mem_cons->Jf, nil_append->Jm, length_drop->Jo
open Int renaming toNat_natCast->jr, tdiv_eq_ediv_of_nonneg->jN, mul_nonneg->jZ, le_refl->Jd, mul_assoc->Jh, mul_le_mul->Jk

namespace Go.Fw
open Go Go.Proofs Go.Proofs.Tryz
open Go.RowKit (Below)
open Ch renaming own->oW,box->oX,grp->oG
open GoT renaming v->oV
open Go.Value renaming slice->oS
set_option maxRecDepth 100000
set_option maxHeartbeats 6400000
variable{n:Nat}{w:World}{cs1 cs2 cs3 cs4 cs5 cs6 cs7 cs8 cs9:List Value}
def qdr(f:qh)(g:qu)(d:(List qx))(h:(List Bool))(a:qr)(c:Int):Nat->Int->Int->Int->Int->Int->Bool->Int->Option (Int×Int×Int×Int×Int×Bool×Int)|0,_,_,_,_,_,_,_=>U|n+1,y,i8,t,i,k,s,b=>bif decide (b<(d.length:Int)) then(idx d b).bind fun l=>((idx h b).bind fun v=>bif (!v) then V true else bif (l.To != c) then V true else(idx a.Bb l.Bm).bind fun x=>V (!x)).bind fun B=>bif B then qdr f g d h a c n y i8 t i k s (W64 (b+1)) else(idx a.Be l.Bm).bind fun C=>(qiz n f g l C).bind fun(r,u)=>(idx a.Ah l.Bm).bind fun m=>(idx a.Ah l.Bm).bind fun p=>bif s then(qlp n (⟨W64 (m.Ba+r.Ba),W64 (p.Bg+r.Bg)⟩:qe) (⟨i8,t⟩:qe)).bind fun z=>(qlp n u (⟨i,k⟩:qe)).bind fun A=>qdr f g d h a c n c z.Ba z.Bg A.Ba A.Bg true (W64 (b+1)) else qdr f g d h a c n c (W64 (m.Ba+r.Ba)) (W64 (p.Bg+r.Bg)) u.Ba u.Bg true (W64 (b+1)) else V (y,i8,t,i,k,s,b)
def qdq(a:(List qf))(b:Int):Nat->Int->Int->Int->Int->Int->Bool->Int->Option (Int×Int×Int×Int×Int×Bool×Int)|0,_,_,_,_,_,_,_=>U|n+1,i1,f,g,h,i,b1,c=>bif decide (c<(a.length:Int)) then(idx a c).bind fun k=>bif (k.Bs==b) then(idx a c).bind fun d=>qdq a b n d.Bs d.Ah.Ba d.Ah.Bg d.Be.Ba d.Be.Bg true (W64 (c+1)) else qdq a b n i1 f g h i b1 (W64 (c+1)) else V (i1,f,g,h,i,b1,c)
def qjw(n:Nat)(b:qh)(c:qu)(d:(List qx))(f:(List Bool))(g:(List qf))(h:qr)(a:Int):Option (Bool×qf):=(qdq g a n 0 0 0 0 0 false 0).bind fun(i1,m,p,r,s,b1,_)=>(qdr b c d f h a n i1 m p r s b1 0).bind fun(t,i8,u,i,k,l,_)=>V (l,(⟨t,(⟨i8,u⟩:qe),(⟨i,k⟩:qe)⟩:qf))
theorem qr1{s:qh}{u:qu}{v:(List qx)}{x:(List Bool)}{a4:(List qf)}{y:qr}{f}(I:Ro w s cs1)(J:Ro w u cs2)(ha3:Ro w v cs3)(ha4:Ro w x cs4)(ha5:Ro w a4 cs5)(ha6:Ro w y cs6){r:(Bool×qf)}(F:qjw n s u v x a4 y f=V r):RetV prog 237 [oV qh cs1,oV qu cs2,oV (List qx) cs3,oV (List Bool) cs4,oV (List qf) cs5,oV qr cs6,vi f] w r:=by
 obtain⟨p1,k1,p2,k2,p3,k3,p4,k4,p5,k5,rfl,_,_,_,_,_⟩:=qaf I;obtain rfl:=qaL J;obtain⟨p6,k6,rfl,s6⟩:=ha3;obtain⟨p7,k7,rfl,s7⟩:=ha4;obtain⟨p8,k8,rfl,s8⟩:=ha5;obtain⟨p9,k9,a8,a6,a9,a7,rfl,s9,s10,s11⟩:=qdd ha6;refine zV 121 func237 Z fun h=>zSR (qw h Z Z fun _ g h=>qw h Z Z fun _ i h=>qw h Z Z fun _ k h=>zp1 Z (qq qa h Z Z Z fun _ o h=>X0 7 Z (r_v (qH qa [] [] Z Z Z Z Z Z Z Z) Z (qq qa h Z Z Z fun _ p h=>zs 0 h Z fun _ h=>X0 6 Z ?_))));obtain⟨o1,F,hK1⟩:=qc F;refine qm (rL (fun m e w'=>∃i1 i2 i3 i4 i5 b1 i6,qdq a4 f m i1 i2 i3 i4 i5 b1 i6=V o1/\e=[(2,oS p6 v.length k6),(3,oS p7 x.length k7),(4,oS p8 a4.length k8),(6,vi f),(7,vp g),(8,vp i),(12,vp k),(15,vp o),(16,.bool b1),(17,vp p),(18,vi i6)]/\SH w w' [oX p [vi i1,vi i2,vi i3,vi i4,vi i5] 128,oX o [vi 0,vi 0,vi 0,vi 0,vi 0] 128,oX k (qb2 y p9 a8 a9 k9 a6 a7) 111,oX i (qce u) 54,oX g (qa8 s p1 p2 p3 p4 p5 k1 k2 k3 k4 k5) 53]) n ⟨_,_,_,_,_,_,_,F,rfl,h⟩ Z ?_);rintro m1 _ _ ⟨i1,i2,i3,i4,i5,b1,i6,F,rfl,h⟩;rcases m1 with _|m1
 ·cases F
 refine X0 8 Z (qi Z F ?_ ?_)<;>intro F
 ·refine X0 7 Z ?_;obtain⟨_,_,F,he1,_,_,_,_,hp1,hq1,hr1,hc2⟩:=s8.ix F;obtain rfl:=qF hr1;refine zxe hp1 hq1 he1 Z (zp1 Z (zc 0 (hc2.below h.below) Z (X0 3 Z (qi Z F ?_ ?_))))<;>intro F
  ·refine X0 7 Z ?_;obtain⟨_,_,F,he2,_,_,_,_,hp2,hq2,hr2,hc4⟩:=s8.ix F;obtain rfl:=qF hr2;exact zxe hp2 hq2 he2 Z (zc 0 (hc4.below h.below) Z (zs 0 h Z fun _ h=>X0 7 Z (rK ⟨_,_,_,_,_,_,_,F,rfl,h⟩ Z)))
  exact X0 7 Z (rK ⟨_,_,_,_,_,_,_,F,rfl,h⟩ Z)
 refine qt Z ?_;obtain rfl:=qb F;replace F:=hK1;refine X0 5 Z ?_;obtain⟨o2,F,hK2⟩:=qc F;refine qm (rL (fun m e w'=>∃i7 i8 i9 z A b4 P,qdr s u v x y f m i7 i8 i9 z A b4 P=V o2/\e=[(2,oS p6 v.length k6),(3,oS p7 x.length k7),(6,vi f),(7,vp g),(8,vp i),(12,vp k),(15,vp o),(16,.bool b4),(17,vp p),(19,vi P)]/\SH w w' [oX p [vi i7,vi i8,vi i9,vi z,vi A] 128,oX o [vi 0,vi 0,vi 0,vi 0,vi 0] 128,oX k (qb2 y p9 a8 a9 k9 a6 a7) 111,oX i (qce u) 54,oX g (qa8 s p1 p2 p3 p4 p5 k1 k2 k3 k4 k5) 53]) n ⟨_,_,_,_,_,_,_,F,rfl,h⟩ Z ?_);rintro m2 _ _ ⟨i7,i8,i9,z,A,b4,P,F,rfl,h⟩;rcases m2 with _|m2
 ·cases F
 refine X0 8 Z (qi Z F ?_ ?_)<;>intro F
 ·refine X0 7 Z ?_;obtain⟨y3,_,F,he3,_,_,_,_,hp3,hq3,hr3,hc6⟩:=s6.ix F;obtain rfl:=qaw hr3;refine zxe hp3 hq3 he3 Z (zc 0 (hc6.below h.below) Z (qq qa h Z Z Z fun _ a5 h=>zs 0 h Z fun _ h=>zNSS ?_));obtain⟨KF3,hKF3,_,F,b5⟩:=bindE F;refine qa0 (fun e w'=>∃b6,KF3 b6=V o2/\e=[(2,oS p6 v.length k6),(3,oS p7 x.length k7),(6,vi f),(7,vp g),(8,vp i),(12,vp k),(15,vp o),(16,.bool b4),(17,vp p),(19,vi P),(20,vp a5),(71,.bool b6)]/\SH w w' [oX a5 (qlu y3) 154,oX p [vi i7,vi i8,vi i9,vi z,vi A] 128,oX o [vi 0,vi 0,vi 0,vi 0,vi 0] 128,oX k (qb2 y p9 a8 a9 k9 a6 a7) 111,oX i (qce u) 54,oX g (qa8 s p1 p2 p3 p4 p5 k1 k2 k3 k4 k5) 53]) ?_ ?_
  ·refine X0 3 Z ?_;obtain⟨_,_,F,he16,_,_,_,_,hp16,hq16,rfl,hc22⟩:=s7.ix F;refine zxe hp16 hq16 he16 Z (zc 0 (hc22.below h.below) Z (zp2 Z (qn (t:=57) F Z ?_ ?_)))<;>intro F
   ·refine X0 15 Z ?_;obtain rfl:=qb F;exact rG ⟨_,b5,rfl,h⟩ Z
   refine X1 10 0 h Z (qn (t:=63) F Z ?_ ?_)<;>intro F
   ·refine X0 9 Z ?_;obtain rfl:=qb F;exact rG ⟨_,b5,rfl,h⟩ Z
   refine X2 9 3 0 h Z ?_;obtain⟨_,_,F,he17,_,_,_,_,hp17,hq17,rfl,hc23⟩:=s9.ix F;refine zxe hp17 hq17 he17 Z (X0 1 Z (zc 0 (hc23.below h.below) Z (X0 4 Z ?_)));obtain rfl:=qb F;exact rG ⟨_,b5,rfl,h⟩ Z
  rintro _ _ ⟨b6,F,rfl,h⟩;subst hKF3;refine qi Z F ?_ ?_<;>intro F
  ·refine qt Z (X0 5 Z ?_);replace h:=h.p [1,2,3,4,5] Z;exact rK ⟨_,_,_,_,_,_,_,F,rfl,h⟩ Z
  refine zKS (rA [] [0,3,4,5] h Z fun _ h=>M4 63 [0,1,2,3,4,5] 3 2 0 1 (h.p [0,3,4,5] Z) Z (M1 127 [6] 0 (h.p [0,3,4,5] Z) Z ?_));obtain⟨y4,_,F,he4,_,_,_,_,hp4,hq4,hr4,hc8⟩:=s11.ix F;obtain rfl:=qB hr4;refine Ae 7 255 hp4 hq4 he4 (h.p [0,3,4,5] Z) Z (Al 8 511 0 hc8 (h.p [0,3,4,5] Z) Z ?_);obtain⟨⟨r2,r3⟩,O,F⟩:=qc F;refine qlc (fun e w'=>∃M N,e=[(12,vp k),(15,vp o),(16,.bool b4),(17,vp p),(19,vi P),(2,oS p6 v.length k6),(20,vp a5),(21,vp N),(22,vp M),(3,oS p7 x.length k7),(6,vi f),(7,vp g),(8,vp i)]/\SH w w' [oX M (qiL r3) 102,oX N (qiL r2) 102,oX a5 (qlu y3) 154,oX p [vi i7,vi i8,vi i9,vi z,vi A] 128,oX o [vi 0,vi 0,vi 0,vi 0,vi 0] 128,oX k (qb2 y p9 a8 a9 k9 a6 a7) 111,oX i (qce u) 54,oX g (qa8 s p1 p2 p3 p4 p5 k1 k2 k3 k4 k5) 53]) 0 (bits 17 131071) ?_ ?_
  ·intro K;refine qsa 9 13 14 Z Z Z (bits 17 1023) (bits 17 8703) (bits 17 16895) (by kernel_rfl) (by kernel_rfl) (by kernel_rfl) (by kernel_rfl) ?_ ?_ ?_
   ·refine qaS (r2,r3) h (cB 181 Z) (qgn (h.old I) (h.old J) (qch y3) (qD y4) O) Z Z Z Z fun w67 X D d b=>?_;obtain⟨Y,a3,B,H,rfl,a,c⟩:=d.cons b;obtain rfl:=qB (a.sh.own 0 Z);obtain⟨C,rfl,h⟩:=a.last c;obtain rfl:=qB (h.own 0 Z);refine G0 8191 [10,11,12] (h.p [2,5,6,7] Z) Z (At 13 14 16383 24575 Z ?_ ?_)
    ·refine qq qa h Z Z Z fun Q L h=>Ag (h.p [3,6,7,8] Z) (Ao 14 32767 Z (qq qa h Z Z Z fun R l h=>Ag (h.p [4,7,8,9] Z) (Ao 15 65535 Z (zs 1 h Z fun T h=>Ag (h.p [4,7,8,9] Z) (Ao 16 131071 Z (zs 0 h Z fun W h=>Ag (h.p [4,7,8,9] Z) ?_))))));replace h:=h.p [0,1,4,5,6,7,8,9] Z;exact aK K ⟨_,_,rfl,h⟩ Z
    refine qq qa h Z Z Z fun Q L h=>Ag (h.p [3,6,7,8] Z) (Ao 13 32767 Z (qq qa h Z Z Z fun R l h=>Ag (h.p [4,7,8,9] Z) (Ao 15 65535 Z (zs 0 h Z fun T h=>Ag (h.p [4,7,8,9] Z) (Ao 16 131071 Z (zs 1 h Z fun W h=>Ag (h.p [4,7,8,9] Z) ?_))))));replace h:=h.p [1,0,4,5,6,7,8,9] Z;exact aK K ⟨_,_,rfl,h⟩ Z
   ·refine qq qa h Z Z Z fun w67 L h=>Ag (h.p [1,4,5,6] Z) (At 9 14 9215 25087 Z ?_ ?_)
    ·refine qaS (r2,r3) h (cB 181 Z) (qgn (h.old I) (h.old J) (qch y3) (qD y4) O) Z Z Z Z fun Q X D d b=>?_;obtain⟨Y,a3,B,H,rfl,a,c⟩:=d.cons b;obtain rfl:=qB (a.sh.own 0 Z);obtain⟨C,rfl,h⟩:=a.last c;obtain rfl:=qB (h.own 0 Z);refine G0 16383 [10,11,12] (h.p [3,6,7,8] Z) Z (Ao 14 32767 Z (qq qa h Z Z Z fun R l h=>Ag (h.p [4,7,8,9] Z) (Ao 15 65535 Z (zs 3 h Z fun T h=>Ag (h.p [4,7,8,9] Z) (Ao 16 131071 Z (zs 0 h Z fun W h=>Ag (h.p [4,7,8,9] Z) ?_))))));replace h:=h.p [0,3,4,5,6,7,8,9] Z;exact aK K ⟨_,_,rfl,h⟩ Z
    refine qq qa h Z Z Z fun Q l h=>Ag (h.p [2,5,6,7] Z) (Ao 9 25599 Z (qaS (r2,r3) h (cB 181 Z) (qgn (h.old I) (h.old J) (qch y3) (qD y4) O) Z Z Z Z fun R X D d b=>?_));obtain⟨Y,a3,B,H,rfl,a,c⟩:=d.cons b;obtain rfl:=qB (a.sh.own 0 Z);obtain⟨C,rfl,h⟩:=a.last c;obtain rfl:=qB (h.own 0 Z);refine G0 32767 [10,11,12] (h.p [4,7,8,9] Z) Z (Ao 15 65535 Z (zs 3 h Z fun T h=>Ag (h.p [4,7,8,9] Z) (Ao 16 131071 Z (zs 2 h Z fun W h=>Ag (h.p [4,7,8,9] Z) ?_))));replace h:=h.p [2,3,4,5,6,7,8,9] Z;exact aK K ⟨_,_,rfl,h⟩ Z
   refine qq qa h Z Z Z fun w67 L h=>Ag (h.p [1,4,5,6] Z) (At 9 13 17407 25087 Z ?_ ?_)
   ·refine qaS (r2,r3) h (cB 181 Z) (qgn (h.old I) (h.old J) (qch y3) (qD y4) O) Z Z Z Z fun Q X D d b=>?_;obtain⟨Y,a3,B,H,rfl,a,c⟩:=d.cons b;obtain rfl:=qB (a.sh.own 0 Z);obtain⟨C,rfl,h⟩:=a.last c;obtain rfl:=qB (h.own 0 Z);refine G0 24575 [10,11,12] (h.p [3,6,7,8] Z) Z (Ao 13 32767 Z (qq qa h Z Z Z fun R l h=>Ag (h.p [4,7,8,9] Z) (Ao 15 65535 Z (zs 0 h Z fun T h=>Ag (h.p [4,7,8,9] Z) (Ao 16 131071 Z (zs 3 h Z fun W h=>Ag (h.p [4,7,8,9] Z) ?_))))));replace h:=h.p [3,0,4,5,6,7,8,9] Z;exact aK K ⟨_,_,rfl,h⟩ Z
   refine qq qa h Z Z Z fun Q l h=>Ag (h.p [2,5,6,7] Z) (Ao 9 25599 Z (qaS (r2,r3) h (cB 181 Z) (qgn (h.old I) (h.old J) (qch y3) (qD y4) O) Z Z Z Z fun R X D d b=>?_));obtain⟨Y,a3,B,H,rfl,a,c⟩:=d.cons b;obtain rfl:=qB (a.sh.own 0 Z);obtain⟨C,rfl,h⟩:=a.last c;obtain rfl:=qB (h.own 0 Z);refine G0 32767 [10,11,12] (h.p [4,7,8,9] Z) Z (Ao 15 65535 Z (zs 2 h Z fun T h=>Ag (h.p [4,7,8,9] Z) (Ao 16 131071 Z (zs 3 h Z fun W h=>Ag (h.p [4,7,8,9] Z) ?_))));replace h:=h.p [3,2,4,5,6,7,8,9] Z;exact aK K ⟨_,_,rfl,h⟩ Z
  rintro _ _ ⟨M,N,rfl,h⟩;refine Ad (qZ (rA [] [1,2,5] h Z fun _ h=>M2 15 [0,1,2,3] 2 1 (h.p [1,2,5] Z) Z ?_));obtain⟨_,_,F,he14,_,_,_,_,hp14,hq14,hr39,hc19⟩:=s10.ix F;obtain rfl:=qB hr39;refine Ae 4 31 hp14 hq14 he14 (h.p [1,2,5] Z) Z (M0 63 [5] (h.p [1,2,5] Z) Z (Al 6 127 0 hc19 (h.p [1,2,5] Z) Z (M3 16383 [7,8,9,10,11,12,13] 0 2 1 (h.p [1,2,5] Z) Z ?_)));obtain⟨_,_,F,he15,_,_,_,_,hp15,hq15,hr40,hc20⟩:=s10.ix F;obtain rfl:=qB hr40;refine Ae 14 32767 hp15 hq15 he15 (h.p [1,2,5] Z) Z (M0 65535 [15] (h.p [1,2,5] Z) Z (Al 16 131071 1 hc20 (h.p [1,2,5] Z) Z (M1 1048575 [17,18,19] 0 (h.p [1,2,5] Z) Z (Aw 20 2097151 (fun w' hw=>qH qa [0,1] [.tmp 94,.tmp 104] Z Z Z Z Z Z Z Z) (h.p [1,2,5] Z) Z ?_))));refine Ao 21 4194303 Z (qq qa h Z Z Z fun _ _ h=>Ag (h.p [2,3,6] Z) (Ao 22 8388607 Z (zs 0 h Z fun _ h=>Ag (h.p [2,3,6] Z) (Ad (X0 5 Z (qi Z F ?_ ?_))))))<;>intro F
  ·refine X2 5 0 4 h Z (zcO h F (qn9 (qD _) (qD _)) Z fun _ _ _ _ h F=>?_);obtain rfl:=qB (h.own 0 Z);refine zs 1 h Z fun _ h=>X2 5 2 5 h Z (zcO h F (qn9 (qD r3) (qD _)) Z fun _ _ _ _ h F=>?_);obtain rfl:=qB (h.own 0 Z);refine zs 3 h Z fun _ h=>X2 9 2 3 h Z (r_v (qH qa [0,1,2] [.tmp 115,.tmp 116,.tmp 117] Z Z Z Z Z Z Z Z) Z (zs 6 h Z fun _ h=>X0 7 Z ?_));replace h:=h.p [6,7,8,9,10] Z;exact rK ⟨_,_,_,_,_,_,_,F,rfl,h⟩ Z
  refine X2 9 0 1 h Z (r_v (qH qa [0,1,2] [.tmp 115,.tmp 116,.tmp 117] Z Z Z Z Z Z Z Z) Z (zs 4 h Z fun _ h=>X0 7 Z ?_));replace h:=h.p [4,5,6,7,8] Z;exact rK ⟨_,_,_,_,_,_,_,F,rfl,h⟩ Z
 refine qt Z ?_;obtain rfl:=qb F;replace F:=hK2;refine qZ (rA [] [0] h Z fun _ h=>M1 7 [0,1,2] 0 (h.p [0] Z) Z (Ao 3 15 Z (zs 1 h Z fun _ h=>Ag (h.p [0] Z) (Ad ?_))));obtain rfl:=qb F;exact qac qa (ρ:=(Bool×qf)) [oV Bool [.bool b4],oV qf [vi i7,vi i8,vi i9,vi z,vi A]] h ⟨rfl,⟨_,_,_,rfl,rfl,h.box 1 Z,rfl⟩,G⟩ (PV.done h (qao h (qv (S:=fun _=>False) Z) (qae (qv (S:=fun _=>False) (qaG (⟨i7,(⟨i8,i9⟩:qe),(⟨z,A⟩:qe)⟩:qf)))) (by rfl)))
def qcz(b:qh)(c:qu)(d:(List qx))(f:(List Bool))(g:(List qf))(a:(List Int)):Nat->(List qe)->(List qe)->(List Bool)->Int->Option (Flow (qr×Bool) ((List qe)×(List qe)×(List Bool)×Int))|0,_,_,_,_=>U|n+1,x1,k,x3,i1=>bif decide (i1<(a.length:Int)) then(idx a i1).bind fun h=>(qjw n b c d f g (⟨x3,k,x1⟩:qr) h).bind fun(r4,i)=>bif (!r4) then qcz b c d f g a n x1 k x3 (W64 (i1+1)) else(qi6 n (⟨i.Ah.Ba,i.Ah.Bg⟩:qe)).bind fun l=>bif (!l) then V (.ret ((⟨[],[],[]⟩:qr),false)) else(idx x3 h).bind fun _=>(idx k h).bind fun _=>(idx x1 h).bind fun _=>qcz b c d f g a n (setS x1 h (⟨i.Be.Ba,i.Be.Bg⟩:qe)) (setS k h (⟨i.Ah.Ba,i.Ah.Bg⟩:qe)) (setS x3 h true) (W64 (i1+1)) else V (.nxt (x1,k,x3,i1))
def qmu(n:Nat)(a:qh)(b:qu)(c:(List qx))(d:(List Bool))(f:(List qf))(g:(List Int)):Option (qr×Bool):=(qbQ n a).bind fun i=>(qmI n i).bind fun h=>(qcz a b c d f g n h.Be h.Ah h.Bb 0).bind fun|.ret r=>V r|.nxt (x1,k,x3,_)=>V ((⟨x3,k,x1⟩:qr),true)
theorem ql8{g:qh}{i:qu}{k:(List qx)}{l:(List Bool)}{o:(List qf)}{p:(List Int)}(v:Ro w g cs1)(C:Ro w i cs2)(T:Ro w k cs3)(W:Ro w l cs4)(X:Ro w o cs5)(Y:Ro w p cs6){r:(qr×Bool)}(F:qmu n g i k l o p=V r):RetV prog 174 [oV qh cs1,oV qu cs2,oV (List qx) cs3,oV (List Bool) cs4,oV (List qf) cs5,oV (List Int) cs6] w r:=by
 obtain⟨p1,k1,p2,k2,p3,k3,p4,k4,p5,k5,rfl,_,_,_,_,_⟩:=qaf v;obtain rfl:=qaL C;obtain⟨p6,k6,rfl,s6⟩:=T;obtain⟨p7,k7,rfl,s7⟩:=W;obtain⟨p8,k8,rfl,s8⟩:=X;obtain⟨p9,k9,rfl,s9⟩:=Y;refine zV 67 func174 Z fun h=>zSR (qw h Z Z fun _ x h=>qw h Z Z fun _ y h=>qq qa h Z Z Z fun _ z h=>X1 5 2 h Z (zcI h F (qdQ (h.old v)) Z fun _ _ h F=>zcO h F qrh Z fun f _ _ _ h F=>?_));obtain⟨t,s,c,a,d,b,rfl,-,-,-⟩:=qdd (h.own 0 Z);refine qq qa h Z Z Z fun _ A h=>zs 0 h Z fun _ h=>X0 6 Z ?_;replace h:=h.p [1,0,2,3,4] Z;obtain⟨S2,S3,S4,h⟩:=qhh h;obtain⟨o1,F,B⟩:=qc F;refine qm (rL (fun m e w'=>∃x1 R x3 i1,qcz g i k l o p m x1 R x3 i1=V o1/\e=[(2,oS p6 k.length k6),(3,oS p7 l.length k7),(4,oS p8 o.length k8),(5,oS p9 p.length k9),(6,vp x),(7,vp y),(12,vp z),(14,vp A),(15,vi i1)]/\SH w w' [oW S4 (x1:List qe) [oS d f.Be.length b],oW S3 (R:List qe) [oS c f.Ah.length a],oW S2 (x3:List Bool) [oS t f.Bb.length s],oX A (qb2 f t c d s a b) 111,oX z [oS U 0 0,oS U 0 0,oS U 0 0] 111,oX y (qce i) 54,oX x (qa8 g p1 p2 p3 p4 p5 k1 k2 k3 k4 k5) 53]) n ⟨_,_,_,_,F,rfl,h⟩ Z ?_);rintro m1 _ _ ⟨x1,R,x3,i1,F,rfl,h⟩;rcases m1 with _|m1
 ·cases F
 refine X0 8 Z (qi Z F ?_ ?_)<;>intro F
 ·refine X0 7 Z ?_;obtain⟨_,_,F,a7,_,_,_,_,a8,a9,rfl,a3⟩:=s9.ix F;refine zxe a8 a9 a7 Z (zc 0 (a3.below h.below) Z (X3 11 6 5 3 h Z ?_));obtain⟨⟨r4,u⟩,b4,F⟩:=qc F;refine qaS (r4,u) h (cB 237 Z) (qr1 (h.old v) (h.old C) ⟨_,_,rfl,(h.oldS s6)⟩ ⟨_,_,rfl,(h.oldS s7)⟩ ⟨_,_,rfl,(h.oldS s8)⟩ (show GoT.R _ _ ((⟨x3,R,x1⟩:qr):qr) _ from⟨[oS t f.Bb.length s],[oS c f.Ah.length a,oS d f.Be.length b],rfl,(h.own 2 Z),⟨[oS c f.Ah.length a],[oS d f.Be.length b],rfl,(h.own 1 Z),(h.own 0 Z)⟩⟩) b4) Z Z Z Z fun _ _ _ b7 b5=>?_;obtain⟨_,_,rfl,b8,b6⟩:=b7.consB b5;obtain⟨_,rfl,h⟩:=b8.last b6;obtain rfl:=qF (h.own 0 Z);refine zp3 Z (qq qa h Z Z Z fun _ _ h=>zp1 Z (zs 0 h Z fun _ h=>X0 7 Z (qi Z F ?_ ?_)))<;>intro F
  ·refine qt Z (X0 5 Z ?_);replace h:=h.p [2,3,4,5,6,7,8] Z;exact rK ⟨_,_,_,_,F,rfl,h⟩ Z
  refine X1 6 0 h Z (zcB h F (ql1 (qD _)) Z fun _ _ h F=>X0 2 Z (qi Z F ?_ ?_))<;>intro F
  ·refine zSR (r_v (qH qa [] [] Z Z Z Z Z Z Z Z) Z (zs 6 h Z fun _ h=>X0 2 Z ?_));obtain rfl:=qb F;replace F:=B;obtain rfl:=qb F;exact qac qa (ρ:=(qr×Bool)) [oV qr [oS U 0 0,oS U 0 0,oS U 0 0],oV Bool [.bool false]] h ⟨⟨_,_,_,rfl,rfl,h.box 6 Z,rfl⟩,rfl,G⟩ (PV.done h (qao h (qgN (⟨[],[],[]⟩:qr) h qhl qhl qhl (by rfl) (by rfl)) (qae (qv (S:=fun _=>False) Z)) (by rfl)))
  refine X1 6 5 h Z ?_;obtain⟨_,b9,F,D,_,_,_,_,J,M,rfl,a4⟩:=(h.sl 4 Z).1.ix F;refine zx J M ⟨D.1,qC D.2.1 (h.sl 4 Z).2⟩ Z (qax qa 4 0 true h Z b9 J M Z a4 Z Z Z Z Z Z Z fun _ h=>X2 8 5 0 h Z ?_);obtain⟨y3,c0,F,H,_,_,_,_,K,N,P,a5⟩:=(h.sl 3 Z).1.ix F;obtain rfl:=qB P;refine zx K N ⟨H.1,qC H.2.1 (h.sl 3 Z).2⟩ Z (qax qa 3 0 (⟨u.Ah.Ba,u.Ah.Bg⟩:qe) h Z c0 K N (qD y3) a5 Z Z Z (qD (⟨u.Ah.Ba,u.Ah.Bg⟩:qe)) Z Z Z fun _ h=>X2 7 5 0 h Z ?_);obtain⟨y4,c1,F,I,_,_,_,_,L,O,Q,a6⟩:=(h.sl 2 Z).1.ix F;obtain rfl:=qB Q;refine zx L O ⟨I.1,qC I.2.1 (h.sl 2 Z).2⟩ Z (qax qa 2 0 (⟨u.Be.Ba,u.Be.Bg⟩:qe) h Z c1 L O (qD y4) a6 Z Z Z (qD (⟨u.Be.Ba,u.Be.Bg⟩:qe)) Z Z Z fun _ h=>X0 7 Z ?_);replace h:=h.p [2,3,4,5,6,7,8] Z;exact rK ⟨_,_,_,_,F,rfl,h⟩ Z
 refine qt Z ?_;obtain rfl:=qb F;replace F:=B;refine X1 3 3 h Z (zs 4 h Z fun _ h=>X0 2 Z ?_);obtain rfl:=qb F;exact qac qa (ρ:=(qr×Bool)) [oV qr (qb2 f t c d s a b),oV Bool [.bool true]] h ⟨⟨_,_,_,rfl,rfl,h.box 4 Z,rfl⟩,rfl,G⟩ (PV.done h (qao h (qgN (⟨x3,R,x1⟩:qr) h (qab 2 h Z) (qab 1 h Z) (qab 0 h Z) (by rfl) (by rfl)) (qae (qv (S:=fun _=>False) Z)) (by rfl)))
def qe7(list:(List Int))(x:Int):Nat->Int->Option (Flow Bool Int)|0,_=>U|n+1,i1=>bif decide (i1<(list.length:Int)) then(idx list i1).bind fun a=>bif (a==x) then V (.ret true) else qe7 list x n (W64 (i1+1)) else V (.nxt i1)
def qmz(n:Nat)(list:(List Int))(x:Int):Option Bool:=(qe7 list x n 0).bind fun|.ret r=>V r|.nxt _=>V false
theorem qsB{list:(List Int)}{x}(b:Ro w list cs1){r:Bool}(F:qmz n list x=V r):RetV prog 180 [oV (List Int) cs1,vi x] w r:=by
 obtain⟨o,k,rfl,p⟩:=b;refine zV 18 func180 Z fun h=>X0 9 Z ?_;obtain⟨l,F,a⟩:=qc F;refine qm (rL (fun m e w'=>∃i1,qe7 list x m i1=V l/\e=[(0,oS o list.length k),(1,vi x),(5,vi i1)]/\SH w w' []) n ⟨_,F,rfl,h⟩ Z ?_);rintro i _ _ ⟨i1,F,rfl,h⟩;rcases i with _|i
 ·cases F
 refine X0 8 Z (qi Z F ?_ ?_)<;>intro F
 ·refine X0 7 Z ?_;obtain⟨_,_,F,d,_,_,_,_,f,g,rfl,c⟩:=p.ix F;refine zxe f g d Z (zc 0 (c.below h.below) Z (X0 3 Z (qi Z F ?_ ?_)))<;>intro F
  ·refine X0 4 Z ?_;obtain rfl:=qb F;replace F:=a;exact rb h F Z
  exact X0 7 Z (rK ⟨_,F,rfl,h⟩ Z)
 refine qt Z ?_;obtain rfl:=qb F;replace F:=a;exact X0 4 Z (rb h F Z)
def qep(links:(List qx))(c:(List Int)):Nat->(List Bool)->Int->Option ((List Bool)×Int)|0,_,_=>U|n+1,x1,i1=>bif decide (i1<(links.length:Int)) then(qmz n c i1).bind fun a=>(appS x1 ([(!a)]:List Bool)).bind fun b=>qep links c n b (W64 (i1+1)) else V (x1,i1)
def qh9(n:Nat)(links:(List qx))(a:(List Int)):Option (List Bool):=(qep links a n ([]:List Bool) 0).bind fun(x1,_)=>V x1
theorem qiN{links:(List qx)}{v:(List Int)}(d:Ro w links cs1)(f:Ro w v cs2){r:(List Bool)}(F:qh9 n links v=V r):RetV prog 126 [oV (List qx) cs1,oV (List Int) cs2] w r:=by
 obtain⟨s,l,rfl,_⟩:=d;obtain⟨t,o,rfl,s2⟩:=f;refine zV 22 func126 Z fun h=>X0 6 Z (qG qa [] _ ([]:List Bool) h Z Z Z Z Z Z Z Z Z trivial Z fun _ _ _ h=>X0 7 Z ?_);obtain⟨p,F,c⟩:=qc F;refine qm (rL (fun m e w'=>∃S2 g b k3 x1 i1,qep links v m x1 i1=V p/\e=[(0,oS s links.length l),(1,oS t v.length o),(5,oS g b k3),(6,vi i1)]/\SH w w' [oW S2 (x1:List Bool) [oS g b k3]]) n ⟨_,_,_,_,_,_,F,rfl,h⟩ Z ?_);rintro i _ _ ⟨S2,g,b,k3,x1,i1,F,rfl,h⟩;obtain rfl:=(h.sl 0 Z).2;rcases i with _|i
 ·cases F
 refine X0 8 Z (qi Z F ?_ ?_)<;>intro F
 ·refine X0 7 Z (zcB h F (qsB ⟨_,_,rfl,(h.oldS s2)⟩) Z fun u _ h F=>zp1 Z (qG qa [.tmp 18] _ ([(!u)]:List Bool) h Z Z Z Z Z Z Z Z Z ⟨rfl,G⟩ Z fun _ _ _ h=>?_));obtain⟨_,a,F⟩:=qc F;obtain⟨k,a⟩:=qO a;refine qbW qa 1 h Z (h.sl 0 Z).1 (h.sl 0 Z).2 Z Z Z Z Z Z Z Z Z k a Z fun _ _ _ _ h=>X0 8 Z ?_;replace h:=h.p [1] Z;exact rK ⟨_,_,_,_,_,_,F,rfl,h⟩ Z
 refine qt Z ?_;obtain rfl:=qb F;replace F:=c;refine X0 5 Z ?_;obtain rfl:=qb F;exact rO 0 h Z ⟨rfl,G⟩
def qfj(n:Nat)(b:qh)(h:(List Int)):Option ((List Int)×Int):=(qik n b h).bind fun a=>bif (a != 0) then V (([]:List Int),a) else(qfY n b).bind fun c=>(qbQ n b).bind fun d=>(qh9 n c h).bind fun r4=>(qha n d c r4).bind fun(f,g)=>bif (!g) then V (([]:List Int),7) else V (f,0)
theorem qmO{b:qh}{x:(List Int)}(a:Ro w b cs1)(c:Ro w x cs2){r:((List Int)×Int)}(F:qfj n b x=V r):RetV prog 235 [oV qh cs1,oV (List Int) cs2] w r:=by
 obtain⟨_,_,_,_,_,_,_,_,_,_,rfl,_,_,_,_,_⟩:=qaf a;obtain⟨_,_,rfl,p⟩:=c;refine zV 33 func235 Z fun h=>zSR (qw h Z Z fun _ _ h=>X1 8 0 h Z (zcI h F (qn1 (h.old a) ⟨_,_,rfl,(h.oldS p)⟩) Z fun u _ h F=>X0 7 Z (qi Z F ?_ ?_)))<;>intro F
 ·refine zSR (qG qa [] _ ([]:List Int) h Z Z Z Z Z Z Z Z Z trivial Z fun _ t _ h=>X0 4 Z ?_);obtain rfl:=qb F;exact qac qa (ρ:=((List Int)×Int)) [oV (List Int) [oS t 0 0],oV Int [vi u]] h ⟨rfl,rfl,G⟩ (PV.done h (qao h (qab 0 h Z) (qae (qv (S:=fun _=>False) Z)) (by rfl)))
 refine X1 4 0 h Z (zcL h F (qh7 (h.old a)) Z fun _ _ _ _ _ h F=>X1 5 1 h Z (zcI h F (qdQ (h.old a)) Z fun _ _ h F=>zp3 Z (zcL h F (qiN (h.own 0 Z) ⟨_,_,rfl,(h.oldS p)⟩) Z fun _ _ _ _ _ h F=>?_)));obtain⟨⟨o,v⟩,d,F⟩:=qc F;refine qaS (o,v) h (cB 80 Z) (qm3 (h.own 1 Z) (h.own 0 Z) d) Z Z Z Z fun _ _ _ i f=>?_;obtain⟨_,_,l,s,_,rfl,k,g⟩:=i.consL f;obtain⟨rfl,h⟩:=k.lastB g;refine X0 12 Z (qi Z F ?_ ?_)<;>intro F
 ·refine zSR (qG qa [] _ ([]:List Int) h Z Z Z Z Z Z Z Z Z trivial Z fun _ m _ h=>X0 3 Z ?_);obtain rfl:=qb F;exact qac qa (ρ:=((List Int)×Int)) [oV (List Int) [oS m 0 0],oV Int [vi 7]] h ⟨rfl,rfl,G⟩ (PV.done h (qao h (qab 0 h Z) (qae (qv (S:=fun _=>False) Z)) (by rfl)))
 refine X0 7 Z ?_;obtain rfl:=qb F;exact qac qa (ρ:=((List Int)×Int)) [oV (List Int) [oS l o.length s],oV Int [vi 0]] h ⟨rfl,rfl,G⟩ (PV.done h (qao h (qab 0 h Z) (qae (qv (S:=fun _=>False) Z)) (by rfl)))
def qhX(n:Nat)(b:qh)(c:qu)(i:(List Int))(k:(List qf)):Option ((List Int)×Int):=((qim n b).bind fun g=>bif (!g) then V true else(qiE n c).bind fun h=>V (!h)).bind fun b1=>bif b1 then V (([]:List Int),1) else((qik n b i).bind fun r4=>bif (r4 != 0) then V true else(qgX n b k).bind fun f=>V (!f)).bind fun b2=>bif b2 then V (([]:List Int),2) else(qfj n b i).bind fun(a,d)=>V (a,d)
theorem qrT{b:qh}{c:qu}{a3:(List Int)}{a4:(List qf)}(a:Ro w b cs1)(l:Ro w c cs2)(p:Ro w a3 cs3)(s:Ro w a4 cs4){r:((List Int)×Int)}(F:qhX n b c a3 a4=V r):RetV prog 173 [oV qh cs1,oV qu cs2,oV (List Int) cs3,oV (List qf) cs4] w r:=by
 obtain⟨J,B,K,C,L,k3,M,D,N,H,rfl,_,_,_,_,_⟩:=qaf a;obtain rfl:=qaL l;obtain⟨O,I,rfl,R⟩:=p;obtain⟨X,T,rfl,s7⟩:=s;refine zV 35 func173 Z fun h=>zSR (qw h Z Z fun _ d h=>qw h Z Z fun _ _ h=>X0 5 Z ?_);obtain⟨o,k,_,F,g⟩:=bindE F;refine qa0 (fun e w'=>∃b1,o b1=V r/\e=[(2,oS O a3.length I),(3,oS X a4.length T),(4,vp d),(17,.bool b1)]/\SH w w' [oX d (qa8 b J K L M N B C k3 D H) 53]) ?_ ?_
 ·refine X1 2 1 h Z (zcB h F (qob (h.old a)) Z fun _ _ h F=>zp2 Z (qn (t:=13) F Z ?_ ?_))<;>intro F
  ·refine X0 5 Z ?_;replace h:=h.p [1] Z;obtain rfl:=qb F;exact rG ⟨_,g,rfl,h⟩ Z
  refine X1 3 0 h Z (zcB h F (qrg (h.old l)) Z fun _ _ h F=>X0 4 Z ?_);replace h:=h.p [1] Z;obtain rfl:=qb F;exact rG ⟨_,g,rfl,h⟩ Z
 rintro _ _ ⟨b1,F,rfl,h⟩;subst k;refine qi Z F ?_ ?_<;>intro F
 ·refine zSR (qG qa [] _ ([]:List Int) h Z Z Z Z Z Z Z Z Z trivial Z fun _ Y _ h=>X0 3 Z ?_);obtain rfl:=qb F;exact qac qa (ρ:=((List Int)×Int)) [oV (List Int) [oS Y 0 0],oV Int [vi 1]] h ⟨rfl,rfl,G⟩ (PV.done h (qao h (qab 0 h Z) (qae (qv (S:=fun _=>False) Z)) (by rfl)))
 refine zKSS ?_;obtain⟨m,i,_,F,f⟩:=bindE F;refine qa0 (fun e w'=>∃b2,m b2=V r/\e=[(2,oS O a3.length I),(4,vp d),(28,.bool b2)]/\SH w w' [oX d (qa8 b J K L M N B C k3 D H) 53]) ?_ ?_
 ·refine X1 3 0 h Z (zcI h F (qn1 (h.old a) ⟨_,_,rfl,(h.oldS R)⟩) Z fun _ _ h F=>zp2 Z (qn (t:=23) F Z ?_ ?_))<;>intro F
  ·refine X0 6 Z ?_;obtain rfl:=qb F;exact rG ⟨_,f,rfl,h⟩ Z
  refine X1 5 0 h Z (zcB h F (qpM (h.old a) ⟨_,_,rfl,(h.oldS s7)⟩) Z fun _ _ h F=>X0 4 Z ?_);obtain rfl:=qb F;exact rG ⟨_,f,rfl,h⟩ Z
 rintro _ _ ⟨b2,F,rfl,h⟩;subst i;refine qi Z F ?_ ?_<;>intro F
 ·refine zSR (qG qa [] _ ([]:List Int) h Z Z Z Z Z Z Z Z Z trivial Z fun _ p9 _ h=>X0 3 Z ?_);obtain rfl:=qb F;exact qac qa (ρ:=((List Int)×Int)) [oV (List Int) [oS p9 0 0],oV Int [vi 2]] h ⟨rfl,rfl,G⟩ (PV.done h (qao h (qab 0 h Z) (qae (qv (S:=fun _=>False) Z)) (by rfl)))
 refine X1 5 0 h Z ?_;obtain⟨⟨P,Q⟩,u,F⟩:=qc F;refine qaS (P,Q) h (cB 235 Z) (qmO (h.old a) ⟨_,_,rfl,(h.oldS R)⟩ u) Z Z Z Z fun _ _ _ y v=>?_;obtain⟨_,_,A,W,_,rfl,z,x⟩:=y.consL v;obtain⟨rfl,h⟩:=z.lastI x;refine X0 5 Z ?_;obtain rfl:=qb F;exact qac qa (ρ:=((List Int)×Int)) [oV (List Int) [oS A P.length W],oV Int [vi Q]] h ⟨rfl,rfl,G⟩ (PV.done h (qao h (qab 0 h Z) (qae (qv (S:=fun _=>False) Z)) (by rfl)))
def qaV(n:Nat)(b:qh)(c:qu)(k:(List Int))(i:(List qf)):Option (qr×Int):=(qhX n b c k i).bind fun(f,d)=>bif (d != 0) then V ((⟨[],[],[]⟩:qr),d) else(qfY n b).bind fun r4=>(qh9 n r4 k).bind fun g=>(qmu n b c r4 g i f).bind fun(a,h)=>bif (!h) then V ((⟨[],[],[]⟩:qr),3) else V ((⟨a.Bb,a.Ah,a.Be⟩:qr),0)
theorem qmW{b:qh}{c:qu}{a5:(List Int)}{a4:(List qf)}(d:Ro w b cs1)(f:Ro w c cs2)(Q:Ro w a5 cs3)(R:Ro w a4 cs4){r:(qr×Int)}(F:qaV n b c a5 a4=V r):RetV prog 124 [oV qh cs1,oV qu cs2,oV (List Int) cs3,oV (List qf) cs4] w r:=by
 obtain⟨_,_,_,_,_,_,_,_,_,_,rfl,_,_,_,_,_⟩:=qaf d;obtain rfl:=qaL f;obtain⟨_,_,rfl,s6⟩:=Q;obtain⟨_,_,rfl,P⟩:=R;refine zV 45 func124 Z fun h=>zSR (qw h Z Z fun _ _ h=>qw h Z Z fun _ _ h=>qq qa h Z Z Z fun _ A h=>X2 8 2 1 h Z ?_);obtain⟨⟨r2,r3⟩,T,F⟩:=qc F;refine qaS (r2,r3) h (cB 173 Z) (qrT (h.old d) (h.old f) ⟨_,_,rfl,(h.oldS s6)⟩ ⟨_,_,rfl,(h.oldS P)⟩ T) Z Z Z Z fun _ _ _ Y W=>?_;obtain⟨_,_,_,_,_,rfl,a3,X⟩:=Y.consL W;obtain⟨rfl,h⟩:=a3.lastI X;refine X0 12 Z (qi Z F ?_ ?_)<;>intro F
 ·refine zSR (r_v (qH qa [] [] Z Z Z Z Z Z Z Z) Z (zp1 Z (zs 1 h Z fun _ h=>X0 2 Z ?_)));obtain rfl:=qb F;exact qac qa (ρ:=(qr×Int)) [oV qr [oS U 0 0,oS U 0 0,oS U 0 0],oV Int [vi r3]] h ⟨⟨_,_,_,rfl,rfl,h.box 1 Z,rfl⟩,rfl,G⟩ (PV.done h (qao h (qgN (⟨[],[],[]⟩:qr) h qhl qhl qhl (by rfl) (by rfl)) (qae (qv (S:=fun _=>False) Z)) (by rfl)))
 refine X1 4 3 h Z (zcL h F (qh7 (h.old d)) Z fun _ _ _ _ _ h F=>X0 3 Z ?_);obtain⟨r5,K,F⟩:=qc F;obtain⟨⟨a,O⟩,v,F⟩:=qc F;refine qa0 (fun e w'=>∃u x l g y m i z o k,e=[(8,vp A),(13,vp u),(14,.bool O)]/\SH w w' [oX u (qb2 a o m l k i g) 111,oW x (a.Be:List qe) [oS l a.Be.length g],oW y (a.Ah:List qe) [oS m a.Ah.length i],oW z (a.Bb:List Bool) [oS o a.Bb.length k],oX A [oS U 0 0,oS U 0 0,oS U 0 0] 111]) ?_ ?_
 ·refine rA [] [3,4] h Z fun _ h=>M2 223 [0,1,2,3,4,6,7] 1 0 (h.p [3,4] Z) Z (At 5 12 255 4319 Z ?_ ?_)
  ·refine qlg r5 h (cB 126 Z) (qiN (h.own 0 Z) ⟨_,_,rfl,(h.oldS s6)⟩ K) Z Z Z Z fun _ _ _ _ h=>Ag (h.p [4,5] Z) (At 8 12 511 4351 Z ?_ ?_)
   ·refine qaS (a,O) h (cB 174 Z) (ql8 (h.old d) (h.old f) (h.own 1 Z) (h.own 0 Z) ⟨_,_,rfl,(h.oldS P)⟩ (h.own 2 Z) v) Z Z Z Z fun _ _ _ L B=>?_;obtain⟨_,_,_,_,rfl,p,C⟩:=L.cons B;obtain⟨_,_,_,_,_,_,rfl,-,-,-⟩:=qdd (p.sh.own 0 Z);obtain⟨rfl,h⟩:=p.lastB C;obtain⟨_,_,_,h⟩:=qhh h;refine G0 4095 [9,10,11] (h.p [7,8] Z) Z (Ao 12 8191 Z (qq qa h Z Z Z fun _ _ h=>Ag (h.p [8,9] Z) (Ao 13 16383 Z (zs 0 h Z fun _ h=>G0 32767 [14] (h.p [8,9] Z) Z (Ad ?_)))));replace h:=h.p [0,1,2,3,7] Z;exact rG ⟨_,_,_,_,_,_,_,_,_,_,rfl,h⟩ Z
   refine qq qa h Z Z Z fun _ _ h=>Ag (h.p [5,6] Z) (Ao 8 4607 Z (qaS (a,O) h (cB 174 Z) (ql8 (h.old d) (h.old f) (h.own 2 Z) (h.own 1 Z) ⟨_,_,rfl,(h.oldS P)⟩ (h.own 3 Z) v) Z Z Z Z fun _ _ _ M D=>?_));obtain⟨_,_,_,_,rfl,s,H⟩:=M.cons D;obtain⟨_,_,_,_,_,_,rfl,-,-,-⟩:=qdd (s.sh.own 0 Z);obtain⟨rfl,h⟩:=s.lastB H;obtain⟨_,_,_,h⟩:=qhh h;refine G0 8191 [9,10,11] (h.p [8,9] Z) Z (Ao 13 16383 Z (zs 3 h Z fun _ h=>G0 32767 [14] (h.p [8,9] Z) Z (Ad ?_)));replace h:=h.p [3,0,1,2,7] Z;exact rG ⟨_,_,_,_,_,_,_,_,_,_,rfl,h⟩ Z
  refine qq qa h Z Z Z fun _ _ h=>Ag (h.p [4,5] Z) (Ao 5 4351 Z (qlg r5 h (cB 126 Z) (qiN (h.own 1 Z) ⟨_,_,rfl,(h.oldS s6)⟩ K) Z Z Z Z fun _ _ _ _ h=>Ag (h.p [5,6] Z) (Ao 8 4607 Z (qaS (a,O) h (cB 174 Z) (ql8 (h.old d) (h.old f) (h.own 2 Z) (h.own 0 Z) ⟨_,_,rfl,(h.oldS P)⟩ (h.own 3 Z) v) Z Z Z Z fun _ _ _ N I=>?_))));obtain⟨_,_,_,_,rfl,t,J⟩:=N.cons I;obtain⟨_,_,_,_,_,_,rfl,-,-,-⟩:=qdd (t.sh.own 0 Z);obtain⟨rfl,h⟩:=t.lastB J;obtain⟨_,_,_,h⟩:=qhh h;refine G0 8191 [9,10,11] (h.p [8,9] Z) Z (Ao 13 16383 Z (zs 4 h Z fun _ h=>G0 32767 [14] (h.p [8,9] Z) Z (Ad ?_)));replace h:=h.p [4,0,1,2,7] Z;exact rG ⟨_,_,_,_,_,_,_,_,_,_,rfl,h⟩ Z
 rintro _ _ ⟨u,x,l,g,y,m,i,z,o,k,rfl,h⟩;refine X0 6 Z (qi Z F ?_ ?_)<;>intro F
 ·refine zSR (r_v (qH qa [] [] Z Z Z Z Z Z Z Z) Z (zs 4 h Z fun _ h=>X0 2 Z ?_));obtain rfl:=qb F;exact qac qa (ρ:=(qr×Int)) [oV qr [oS U 0 0,oS U 0 0,oS U 0 0],oV Int [vi 3]] h ⟨⟨_,_,_,rfl,rfl,h.box 4 Z,rfl⟩,rfl,G⟩ (PV.done h (qao h (qgN (⟨[],[],[]⟩:qr) h qhl qhl qhl (by rfl) (by rfl)) (qae (qv (S:=fun _=>False) Z)) (by rfl)))
 refine X1 4 0 h Z (zs 4 h Z fun _ h=>X0 2 Z ?_);obtain rfl:=qb F;exact qac qa (ρ:=(qr×Int)) [oV qr (qb2 a o m l k i g),oV Int [vi 0]] h ⟨⟨_,_,_,rfl,rfl,h.box 4 Z,rfl⟩,rfl,G⟩ (PV.done h (qao h (qgN (⟨a.Bb,a.Ah,a.Be⟩:qr) h (qab 3 h Z) (qab 2 h Z) (qab 1 h Z) (by rfl) (by rfl)) (qae (qv (S:=fun _=>False) Z)) (by rfl)))
def qio(n:Nat)(v:(Option Tview)):Option qr:=(qcb n v).bind fun a=>(mkS a (false:Bool)).bind fun x1=>(mkS a ((⟨0,0⟩:qe):qe)).bind fun b=>(mkS a ((⟨0,0⟩:qe):qe)).bind fun x3=>V (⟨x1,b,x3⟩:qr)
theorem qnx{v:(Option Tview)}(N:Ro w v cs1){r:qr}(F:qio n v=V r):RetV prog 161 [oV (Option Tview) cs1] w r:=by
 obtain⟨_,rfl,O⟩:=qaA N;refine zV 13 func161 Z fun h=>zSR (qq qa h Z Z Z fun _ J h=>X0 4 Z (zcI h F (qdJ (h.old O)) Z fun _ _ h F=>X0 3 Z (rA [] [] h Z fun _ h=>M0 21 [0,2,4] (h.p [] Z) Z ?_)));obtain⟨x1,a,F⟩:=qc F;obtain⟨B,b,F⟩:=qc F;obtain⟨x3,c,F⟩:=qc F;refine qlc (fun e w'=>∃D y H z I A,e=[(2,vp J)]/\SH w w' [oW D (x3:List qe) [oS y x3.length x3.length],oW H (B:List qe) [oS z B.length B.length],oW I (x1:List Bool) [oS A x1.length x1.length],oX J [oS A x1.length x1.length,oS z B.length B.length,oS y x3.length x3.length] 111]) 0 (bits 8 255) ?_ ?_
 ·intro K;refine qsa 1 3 5 Z Z Z (bits 8 23) (bits 8 29) (bits 8 53) (by kernel_rfl) (by kernel_rfl) (by kernel_rfl) (by kernel_rfl) ?_ ?_ ?_
  ·obtain⟨m,o,a⟩:=qU a;refine qam qa Bool h Z Z Z Z Z Z Z Z Z m o a Z fun M C L h=>Ag (h.p [] Z) (At 3 5 31 55 Z ?_ ?_)
   ·obtain⟨d,f,b⟩:=qU b;refine qam qa qe h Z Z Z Z Z Z Z Z Z d f b Z fun t k p h=>Ag (h.p [] Z) (Ao 5 63 Z ?_);obtain⟨g,i,c⟩:=qU c;refine qam qa qe h Z Z Z Z Z Z Z Z Z g i c Z fun u l s h=>Ag (h.p [] Z) (Aw 6 127 (fun w' P=>qH qa [0,1,2] [.tmp 7,.tmp 9,.tmp 11] Z Z Z Z Z Z Z Z) (h.p [] Z) Z ?_);exact Ao 7 255 Z (zs 3 h Z fun x h=>Ag (h.p [] Z) (qrx [(2,_)] ⟨rfl,G⟩ (K _ _ ⟨_,_,_,_,_,_,rfl,h⟩)))
   obtain⟨d,f,c⟩:=qU c;refine qam qa qe h Z Z Z Z Z Z Z Z Z d f c Z fun t k p h=>Ag (h.p [] Z) (Ao 3 63 Z ?_);obtain⟨g,i,b⟩:=qU b;refine qam qa qe h Z Z Z Z Z Z Z Z Z g i b Z fun u l s h=>Ag (h.p [] Z) (Aw 6 127 (fun w' P=>qH qa [0,1,2] [.tmp 7,.tmp 9,.tmp 11] Z Z Z Z Z Z Z Z) (h.p [] Z) Z ?_);refine Ao 7 255 Z (zs 3 h Z fun x h=>Ag (h.p [] Z) ?_);replace h:=h.p [1,0,2,3] Z;exact aK K ⟨_,_,_,_,_,_,rfl,h⟩ Z
  ·obtain⟨m,o,b⟩:=qU b;refine qam qa qe h Z Z Z Z Z Z Z Z Z m o b Z fun M C L h=>Ag (h.p [] Z) (At 1 5 31 61 Z ?_ ?_)
   ·obtain⟨d,f,a⟩:=qU a;refine qam qa Bool h Z Z Z Z Z Z Z Z Z d f a Z fun t k p h=>Ag (h.p [] Z) (Ao 5 63 Z ?_);obtain⟨g,i,c⟩:=qU c;refine qam qa qe h Z Z Z Z Z Z Z Z Z g i c Z fun u l s h=>Ag (h.p [] Z) (Aw 6 127 (fun w' P=>qH qa [0,1,2] [.tmp 7,.tmp 9,.tmp 11] Z Z Z Z Z Z Z Z) (h.p [] Z) Z ?_);refine Ao 7 255 Z (zs 3 h Z fun x h=>Ag (h.p [] Z) ?_);replace h:=h.p [0,2,1,3] Z;exact aK K ⟨_,_,_,_,_,_,rfl,h⟩ Z
   obtain⟨d,f,c⟩:=qU c;refine qam qa qe h Z Z Z Z Z Z Z Z Z d f c Z fun t k p h=>Ag (h.p [] Z) (Ao 1 63 Z ?_);obtain⟨g,i,a⟩:=qU a;refine qam qa Bool h Z Z Z Z Z Z Z Z Z g i a Z fun u l s h=>Ag (h.p [] Z) (Aw 6 127 (fun w' P=>qH qa [0,1,2] [.tmp 7,.tmp 9,.tmp 11] Z Z Z Z Z Z Z Z) (h.p [] Z) Z ?_);refine Ao 7 255 Z (zs 3 h Z fun x h=>Ag (h.p [] Z) ?_);replace h:=h.p [1,2,0,3] Z;exact aK K ⟨_,_,_,_,_,_,rfl,h⟩ Z
  obtain⟨m,o,c⟩:=qU c;refine qam qa qe h Z Z Z Z Z Z Z Z Z m o c Z fun M C L h=>Ag (h.p [] Z) (At 1 3 55 61 Z ?_ ?_)
  ·obtain⟨d,f,a⟩:=qU a;refine qam qa Bool h Z Z Z Z Z Z Z Z Z d f a Z fun t k p h=>Ag (h.p [] Z) (Ao 3 63 Z ?_);obtain⟨g,i,b⟩:=qU b;refine qam qa qe h Z Z Z Z Z Z Z Z Z g i b Z fun u l s h=>Ag (h.p [] Z) (Aw 6 127 (fun w' P=>qH qa [0,1,2] [.tmp 7,.tmp 9,.tmp 11] Z Z Z Z Z Z Z Z) (h.p [] Z) Z ?_);refine Ao 7 255 Z (zs 3 h Z fun x h=>Ag (h.p [] Z) ?_);replace h:=h.p [2,0,1,3] Z;exact aK K ⟨_,_,_,_,_,_,rfl,h⟩ Z
  obtain⟨d,f,b⟩:=qU b;refine qam qa qe h Z Z Z Z Z Z Z Z Z d f b Z fun t k p h=>Ag (h.p [] Z) (Ao 1 63 Z ?_);obtain⟨g,i,a⟩:=qU a;refine qam qa Bool h Z Z Z Z Z Z Z Z Z g i a Z fun u l s h=>Ag (h.p [] Z) (Aw 6 127 (fun w' P=>qH qa [0,1,2] [.tmp 7,.tmp 9,.tmp 11] Z Z Z Z Z Z Z Z) (h.p [] Z) Z ?_);refine Ao 7 255 Z (zs 3 h Z fun x h=>Ag (h.p [] Z) ?_);replace h:=h.p [2,1,0,3] Z;exact aK K ⟨_,_,_,_,_,_,rfl,h⟩ Z
 rintro _ _ ⟨D,y,H,z,I,A,rfl,h⟩;refine Ad ?_;obtain rfl:=qb F;exact qac qa (ρ:=qr) [oV qr [oS A x1.length x1.length,oS z B.length B.length,oS y x3.length x3.length]] h ⟨⟨_,_,_,rfl,rfl,h.box 3 Z,rfl⟩,G⟩ (PV.done h (qae (qgN (⟨x1,B,x3⟩:qr) h (qab 2 h Z) (qab 1 h Z) (qab 0 h Z) (by rfl) (by rfl))))
def qk2(_:Nat)(s:qf)(a:Int):Option Bool:=V (s.Bs==a)
theorem qpN{s:qf}{g}(a:Ro w s cs1){f}(b:Ro w (V g) [.pointer f]){r:Bool}(F:qk2 n s g=V r):RetV prog 130 [oV qf cs1,.pointer f] w r:=by
 obtain rfl:=qF a;obtain⟨_,i,_,rfl,-,d,c⟩:=PtR.get b Z;obtain rfl:=d;exact zV 8 func130 Z fun h=>zSR (qw h Z Z fun _ _ h=>X1 6 0 h Z (zc 0 (c.below h.below) Z (X0 3 Z (rb h F Z))))
def qY(s:(List qf))(a:Int):Nat->Int->Option (Flow Int Int)|0,_=>U|n+1,i1=>bif decide (i1<(s.length:Int)) then(idx s i1).bind fun c=>(qk2 n c a).bind fun b=>bif b then V (.ret i1) else qY s a n (W64 (i1+1)) else V (.nxt i1)
def qaM(n:Nat)(s:(List qf))(a:Int):Option Int:=(qY s a n 0).bind fun|.ret r=>V r|.nxt _=>V (-1)
theorem qfz{s:(List qf)}{a}(d:Ro w s cs1){u}(c:Ro w (V a) [.pointer u]){r:Int}(F:qaM n s a=V r):RetV prog 129 [oV (List qf) cs1,.func (.func 130) #[] #[.pointer u]] w r:=by
 obtain⟨y,v,rfl,z⟩:=d;obtain⟨b1,p,_,rfl,-,l,_⟩:=PtR.get c Z;obtain rfl:=l;refine zV 19 func129 Z fun h=>X0 11 Z ?_;obtain⟨x,F,b⟩:=qc F;refine qm (rL (fun m e w'=>∃i1,qY s a m i1=V x/\e=[(0,oS y s.length v),(1,.func (.func 130) #[] #[.pointer (V ⟨b1,p,U⟩)]),(7,vi (s.length:Int)),(8,vi i1)]/\SH w w' []) n ⟨_,F,rfl,h⟩ Z ?_);rintro t _ _ ⟨i1,F,rfl,h⟩;rcases t with _|t
 ·cases F
 refine X0 5 Z (qi Z F ?_ ?_)<;>intro F
 ·refine X0 13 Z ?_;obtain⟨A,_,F,g,_,_,_,_,i,k,o,f⟩:=z.ix F;obtain rfl:=qF o;refine zxe i k g Z (zc 0 (f.below h.below) Z (zcB h F (qpN (qaG A) (h.old c)) Z fun _ _ h F=>qan (qi Z F ?_ ?_)))<;>intro F
  ·refine X0 5 Z ?_;obtain rfl:=qb F;replace F:=b;exact ri h F Z
  exact X0 6 Z (rK ⟨_,F,rfl,h⟩ Z)
 refine qt Z ?_;obtain rfl:=qb F;replace F:=b;exact X0 4 Z (ri h F Z)
def qdU(n:Nat)(list:(List qf))(node:Int):Option (qf×Bool):=(qaM n list node).bind fun a=>bif decide (a>=0) then(idx list a).bind fun b=>V (b,true) else V ((⟨0,(⟨0,0⟩:qe),(⟨0,0⟩:qe)⟩:qf),false)
theorem qij{list:(List qf)}{node}(a:Ro w list cs1){r:(qf×Bool)}(F:qdU n list node=V r):RetV prog 83 [oV (List qf) cs1,vi node] w r:=by
 obtain⟨_,_,rfl,i⟩:=a;refine zV 17 func83 Z fun h=>zSR (qw h Z Z fun _ _ h=>qq qa h Z Z Z fun _ _ h=>X0 7 Z (zcI h F (qfz ⟨_,_,rfl,(h.oldS i)⟩ (qf8 (x:=node) 1 h Z Z)) Z fun _ _ h F=>X0 7 Z (qi Z F ?_ ?_)))<;>intro F
 ·refine X0 4 Z ?_;obtain⟨k,_,F,c,_,_,_,_,d,f,g,b⟩:=i.ix F;obtain rfl:=qF g;refine zxe d f c Z (zc 0 (b.below h.below) Z (zs 0 h Z fun _ h=>X0 2 Z ?_));obtain rfl:=qb F;exact qac qa (ρ:=(qf×Bool)) [oV qf (qgB k),oV Bool [.bool true]] h ⟨⟨_,_,_,rfl,rfl,h.box 0 Z,rfl⟩,rfl,G⟩ (PV.done h (qao h (qv (S:=fun _=>False) (qaG k)) (qae (qv (S:=fun _=>False) Z)) (by rfl)))
 refine zKSR (r_v (qH qa [] [] Z Z Z Z Z Z Z Z) Z (zs 0 h Z fun _ h=>X0 2 Z ?_));obtain rfl:=qb F;exact qac qa (ρ:=(qf×Bool)) [oV qf [vi 0,vi 0,vi 0,vi 0,vi 0],oV Bool [.bool false]] h ⟨⟨_,_,_,rfl,rfl,h.box 0 Z,rfl⟩,rfl,G⟩ (PV.done h (qao h (qv (S:=fun _=>False) (qaG (⟨0,(⟨0,0⟩:qe),(⟨0,0⟩:qe)⟩:qf))) (qae (qv (S:=fun _=>False) Z)) (by rfl)))
def qkZ(_:Nat)(l:qx)(a:Int):Option Bool:=V (l.To==a)
theorem qpR{l:qx}{g}(a:Ro w l cs1){f}(b:Ro w (V g) [.pointer f]){r:Bool}(F:qkZ n l g=V r):RetV prog 132 [oV qx cs1,.pointer f] w r:=by
 obtain rfl:=qaw a;obtain⟨_,i,_,rfl,-,d,c⟩:=PtR.get b Z;obtain rfl:=d;exact zV 8 func132 Z fun h=>zSR (qw h Z Z fun _ _ h=>X1 6 0 h Z (zc 0 (c.below h.below) Z (X0 3 Z (rb h F Z))))
def qN(h:Int)(b:Tgraph)(a:Tview):Nat->(List Int)->Int->Option ((List Int)×Int)|0,_,_=>U|n+1,x1,i1=>bif decide (i1<(a.links.length:Int)) then(idx a.links i1).bind fun f=>(idx b.live i1).bind fun g=>bif g then(qkZ n f h).bind fun c=>bif c then(appS x1 ([i1]:List Int)).bind fun d=>qN h b a n d (W64 (i1+1)) else qN h b a n x1 (W64 (i1+1)) else qN h b a n x1 (W64 (i1+1)) else V (x1,i1)
def qcX(n:Nat)(g:(Option Tgraph))(c:Int):Option (List Int):=(g).bind fun a=>(a.view).bind fun b=>(qN c a b n ([]:List Int) 0).bind fun(x1,_)=>V x1
theorem qir{g:(Option Tgraph)}{is_0}(l:Ro w g cs1){Q}(f:Ro w (V is_0) [.pointer Q]){r:(List Int)}(F:qcX n g is_0=V r):RetV prog 131 [oV (Option Tgraph) cs1,.func (.func 132) #[] #[.pointer Q]] w r:=by
 obtain⟨_,rfl,X⟩:=qaA l;obtain⟨b1,K,_,rfl,-,B,_⟩:=PtR.get f Z;obtain rfl:=B;refine zV 39 func131 Z fun h=>X0 12 Z ?_;obtain⟨y1,I,F⟩:=qc F;obtain⟨b2,L,_,rfl,-,C,i⟩:=PtR.get X I;obtain⟨_,_,_,rfl,s2,Y⟩:=qeG C;refine zp2 Z (zc 0 (i.below h.below) Z ?_);obtain⟨O,J,F⟩:=qc F;obtain⟨_,W,_,rfl,-,D,o⟩:=PtR.get s2 J;obtain⟨_,_,_,_,_,_,_,_,_,_,_,_,M,S,_,_,_,_,_,_,rfl,_,_,_,_,_,_,N,_,_,_⟩:=qcn D;refine zp2 Z (zc 6 (o.below h.below) Z (X0 3 Z ?_));replace h:=h.nil (α:=Int);obtain⟨T,F,k⟩:=qc F;refine qm (rL (fun m e w'=>∃S1 d c b x1 i1,qN is_0 y1 O m x1 i1=V T/\e=[(0,.pointer (V ⟨b2,L,U⟩)),(1,.func (.func 132) #[] #[.pointer (V ⟨b1,K,U⟩)]),(5,oS d c b),(14,oS M O.links.length S),(15,vi (O.links.length:Int)),(16,vi i1)]/\SH w w' [oW S1 (x1:List Int) [oS d c b]]) n ⟨_,_,_,_,_,_,F,rfl,h⟩ Z ?_);rintro P _ _ ⟨S1,d,c,b,x1,i1,F,rfl,h⟩;obtain rfl:=(h.sl 0 Z).2;rcases P with _|P
 ·cases F
 refine X0 5 Z (qi Z F ?_ ?_)<;>intro F
 ·refine X0 6 Z ?_;obtain⟨y3,_,F,u,_,_,_,_,x,z,H,p⟩:=N.ix F;obtain rfl:=qaw H;refine zxe x z u Z (zc 0 (p.below h.below) Z (qq qa h Z Z Z fun _ _ h=>zp1 Z (zs 0 h Z fun _ h=>X0 6 Z (zc 1 (i.below h.below) Z (zp1 Z ?_)))));obtain⟨_,_,F,v,_,_,_,_,y,A,rfl,s⟩:=Y.ix F;refine zxe y A v Z (zc 0 (s.below h.below) Z (zp1 Z (qn (t:=28) F Z ?_ ?_)))<;>intro F
  ·refine X1 5 0 h Z (zcB h F (qpR (qch y3) (h.old f)) Z fun _ _ h F=>X0 2 Z (qi Z F ?_ ?_))<;>intro F
   ·refine X0 3 Z (qG qa [.tmp 34] _ ([i1]:List Int) h Z Z Z Z Z Z Z Z Z ⟨rfl,G⟩ Z fun _ _ _ h=>?_);obtain⟨_,a,F⟩:=qc F;obtain⟨R,a⟩:=qO a;refine qbW qa 2 h Z (h.sl 0 Z).1 (h.sl 0 Z).2 Z Z Z Z Z Z Z Z Z R a Z fun _ _ _ _ h=>X0 7 Z ?_;replace h:=h.p [2] Z;exact rK ⟨_,_,_,_,_,_,F,rfl,h⟩ Z
   refine X0 6 Z ?_;replace h:=h.p [1] Z;exact rK ⟨_,_,_,_,_,_,F,rfl,h⟩ Z
  refine X0 5 Z (qcg Z Z (X0 6 Z ?_));replace h:=h.p [1] Z;exact rK ⟨_,_,_,_,_,_,F,rfl,h⟩ Z
 refine qt Z ?_;obtain rfl:=qb F;replace F:=k;refine X0 5 Z ?_;obtain rfl:=qb F;exact rO 0 h Z ⟨rfl,G⟩
def qhk(n:Nat)(g:(Option Tgraph))(node:Int):Option (List Int):=(qcX n g node).bind fun a=>V a
theorem qj6{g:(Option Tgraph)}{node}(a:Ro w g cs1){r:(List Int)}(F:qhk n g node=V r):RetV prog 84 [oV (Option Tgraph) cs1,vi node] w r:=by
 obtain⟨_,rfl,b⟩:=qaA a;refine zV 8 func84 Z fun h=>zSR (qw h Z Z fun _ _ h=>X0 6 Z (zcL h F (qir (h.old b) (qf8 (x:=node) 0 h Z Z)) Z fun _ _ _ _ _ h F=>X0 2 Z ?_));obtain rfl:=qb F;exact rO 0 h Z ⟨rfl,G⟩
def qfo(_:Nat)(v:(Option Tview))(l:qx):Option Int:=(v).bind fun a=>(idx a.places (W64 (l.To.tdiv 2))).bind fun b=>V b.net
theorem qiW{v:(Option Tview)}{l:qx}(a:Ro w v cs1)(b:Ro w l cs2){r:Int}(F:qfo n v l=V r):RetV prog 182 [oV (Option Tview) cs1,oV qx cs2] w r:=by
 obtain⟨_,rfl,s⟩:=qaA a;obtain rfl:=qaw b;refine zV 15 func182 Z fun h=>zSR (qw h Z Z fun _ _ h=>X0 3 Z (rD (zd1 Z ?_)));obtain⟨_,o,F⟩:=qc F;obtain⟨_,p,_,rfl,-,k,c⟩:=PtR.get s o;obtain⟨_,_,_,_,_,_,_,_,_,_,_,_,_,_,_,_,_,_,_,_,rfl,_,_,_,_,_,t,_,_,_,_⟩:=qcn k;refine zd2 Z (zdc 5 (c.below h.below) Z (Y1 2 0 h Z ?_));refine zd1 Z ?_;obtain⟨_,_,F,f,_,_,_,_,g,i,m,d⟩:=t.ix F;obtain rfl:=qhT m;exact zdxe g i f Z (zd1 Z (zdc 2 (d.below h.below) Z (zd1 Z (dN h fun _ h=>ri h F Z))))
def qgZ(_:Nat)(v:(Option Tview))(l:qx):Option qJ:=(v).bind fun a=>(idx a.places (W64 (l.To.tdiv 2))).bind fun b=>(idx a.Ac.Aa.Ab b.instance_).bind fun c=>(idx a.Ac.Au.Ay c.Bv).bind fun d=>(idx d.Bc l.Cb).bind fun f=>V f
theorem qmb{A}(hA:∀b,A b->old w b){v:(Option Tview)}{l:qx}(k:GoT.R w A v cs1)(o:GoT.R w A l cs2){r:qJ}(F:qgZ n v l=V r):RetG prog 222 [oV (Option Tview) cs1,oV qx cs2] w A r:=by
 obtain⟨_,rfl,s1⟩:=qaA k;obtain rfl:=qaw o;have hg:=Rg.start hA;refine qeE func222 Z (m:=39) Z Z (fun h=>?_);refine zSR (qw h Z Z fun _ _ h=>qq qa h Z Z Z fun _ _ h=>zNS (rA [] [1] h Z fun _ h=>M0 1 [0] (h.p [1] Z) Z ?_));obtain⟨_,T,F⟩:=qc F;obtain⟨_,e,_,rfl,-,N,a⟩:=PtR.get s1 T;obtain⟨_,_,_,_,_,_,_,_,_,_,_,_,_,_,_,_,_,_,_,_,rfl,s2,s3,_,_,_,s7,_,_,_,_⟩:=qcn N;refine M0 31 [1,2,3,4] (h.p [1] Z) Z (Al 5 63 1 a (h.p [1] Z) Z (M0 511 [6,7,8] (h.p [1] Z) Z (Al 9 1023 5 a (h.p [1] Z) Z (M1 8191 [10,11,12] 0 (h.p [1] Z) Z ?_))));obtain⟨_,_,F,x,_,_,_,_,C,J,O,p⟩:=s7.ix F;obtain rfl:=qhT O;refine Ae 13 16383 C J x (h.p [1] Z) Z (M0 32767 [14] (h.p [1] Z) Z (Al 15 65535 0 p (h.p [1] Z) Z ?_));obtain⟨_,_,F,y,_,_,_,_,D,K,P,s⟩:=s3.ix F;obtain⟨_,_,rfl,_⟩:=qV P;refine Ae 16 131071 D K y (h.p [1] Z) Z (Al 17 262143 0 s (h.p [1] Z) Z (Ao 18 524287 Z (qq qa h Z Z Z fun _ _ h=>Ag (h.p [2] Z) (Ao 19 1048575 Z (zs 0 h Z fun _ h=>Ag (h.p [2] Z) (Ad (qZ (rA [] [0,2] h Z fun _ h=>M0 31 [0,1,2,3,4] (h.p [0,2] Z) Z (Al 5 63 0 a (h.p [0,2] Z) Z (M1 255 [6,7] 0 (h.p [0,2] Z) Z ?_))))))))));obtain⟨_,_,F,z,_,_,_,_,H,L,Q,t⟩:=s2.ix F;obtain⟨_,_,_,_,_,_,rfl,_,W,_⟩:=qag Q;refine Ae 8 511 H L z (h.p [0,2] Z) Z (M0 1023 [9] (h.p [0,2] Z) Z (Al 10 2047 3 t (h.p [0,2] Z) Z (M1 8191 [11,12] 1 (h.p [0,2] Z) Z ?_)));obtain⟨i,_,F,B,_,_,_,_,I,M,R,u⟩:=W.ix F;obtain⟨f,c,g,d,rfl,X,Y⟩:=qaj R;refine Ae 13 16383 I M B (h.p [0,2] Z) Z (Al 14 32767 0 u (h.p [0,2] Z) Z (Ao 15 65535 Z (zs 1 h Z fun _ h=>Ag (h.p [0,2] Z) (Ad ?_))));obtain rfl:=qb F;have S:GoRs.Rs (ρ:=qJ) h.wc (reg A w h.wc) i [oV qJ (qhH i f g c d)]:=⟨_,rfl,(hg.outR h (qgb i (hg.inS h X) (hg.inS h Y)))⟩;exact qdE qa (ρ:=qJ) (r:=i) [oV qJ (qhH i f g c d)] h ⟨⟨_,_,_,rfl,rfl,h.box 1 Z,rfl⟩,G⟩ S
def qfA(_:Nat)(a:Int)(b:Int)(mode:Int):Option Int:=(quoS a b).bind fun c=>(remS a b).bind fun d=>(bif (mode==0) then V (decide (d<0)) else V false).bind fun b1=>bif b1 then V (W64 (c-1)) else bif (mode==1) then bif decide (d > 0) then V (W64 (c+1)) else V c else V c
theorem qjl{a b mode}  {r:Int}(F:qfA n a b mode=V r):RetV prog 224 [vi a,vi b,vi mode] w r:=by
 refine zV 34 func224 Z fun h=>X0 5 Z (rD (zd2 Z ?_));obtain⟨m,c,F⟩:=qc F;obtain⟨k,c⟩:=qub c;refine d_v (fun _ p=>qBH k Z Z) Z ?_;rw[c];refine zd2 Z ?_;obtain⟨o,d,F⟩:=qc F;obtain⟨l,d⟩:=qtM d;refine d_v (fun _ p=>qBB l Z Z) Z ?_;rw[d];refine zd2 Z (dN h fun _ h=>X0 3 Z ?_);obtain⟨i,g,_,F,f⟩:=bindE F;refine qa0 (fun e w'=>∃b1,i b1=V r/\e=[(2,vi mode),(7,vi m),(8,vi o),(15,.bool b1)]/\SH w w' []) ?_ ?_
 ·refine X0 4 Z (qn (t:=18) F Z ?_ ?_)<;>intro F
  ·refine X0 7 Z ?_;obtain rfl:=qb F;exact rG ⟨_,f,rfl,h⟩ Z
  refine X0 5 Z ?_;obtain rfl:=qb F;exact rG ⟨_,f,rfl,h⟩ Z
 rintro _ _ ⟨b1,F,rfl,h⟩;subst g;refine qi Z F ?_ ?_<;>intro F
 ·exact X0 6 Z (ri h F Z)
 refine X0 5 Z (qn (t:=27) F Z ?_ ?_)<;>intro F
 ·refine X0 7 Z (qi Z F ?_ ?_)<;>intro F
  ·exact X0 6 Z (ri h F Z)
  exact X0 7 Z (ri h F Z)
 exact X0 5 Z (qcg Z Z (X0 7 Z (ri h F Z)))
def qiM(_:Nat)(x:Int):Option Bool:=V (x != x)
theorem qlT{x}  {r:Bool}(F:qiM n x=V r):RetV prog 193 [vi x] w r:=by
 exact zV 6 func193 Z fun h=>X0 11 Z (rb h F Z)
def ql9(n:Nat)(x:Int)(y:Int):Option Bool:=(qiM n x).bind fun a=>bif a then(qiM n y).bind fun b=>bif (!b) then V true else V (decide (x<y)) else V (decide (x<y))
theorem qqz{x y}  {r:Bool}(F:ql9 n x y=V r):RetV prog 309 [vi x,vi y] w r:=by
 refine zV 17 func309 Z fun h=>X0 7 Z (zcB h F qlT Z fun _ _ h F=>zp1 Z (qn (t:=7) F Z ?_ ?_))<;>intro F
 ·refine X0 3 Z (zcB h F qlT Z fun _ _ h F=>X0 4 Z (qn (t:=12) F Z ?_ ?_))<;>intro F
  ·exact X0 6 Z (rb h F Z)
  exact X0 9 Z (rb h F Z)
 exact X0 14 Z (rb h F Z)
def qgF(_:Nat)(x:Int):Option Bool:=V (x != x)
theorem qjQ{x}  {r:Bool}(F:qgF n x=V r):RetV prog 310 [vi x] w r:=by
 exact zV 6 func310 Z fun h=>X0 11 Z (rb h F Z)
def qaB(x:(List Int))(f:Int):Nat->Int->Int->Option (Int×Int)|0,_,_=>U|n+1,i1,a=>bif decide (i1<a) then(shrS .u64 (IntKind.wrap .u64 (W64 (i1+a))) 1).bind fun b=>(idx x (W64 b)).bind fun d=>(ql9 n d f).bind fun c=>bif c then qaB x f n (W64 ((W64 b)+1)) a else qaB x f n i1 (W64 b) else V (i1,a)
def qdv(n:Nat)(x:(List Int))(f:Int):Option (Int×Bool):=(qaB x f n 0 (x.length:Int)).bind fun(i1,_)=>bif decide (i1<(x.length:Int)) then(idx x i1).bind fun c=>bif (c==f) then V (i1,true) else(idx x i1).bind fun d=>(qgF n d).bind fun a=>bif a then(qgF n f).bind fun b=>V (i1,b) else V (i1,false) else V (i1,false)
theorem qk1{x:(List Int)}{target}(c:Ro w x cs1){r:(Int×Bool)}(F:qdv n x target=V r):RetV prog 293 [oV (List Int) cs1,vi target] w r:=by
 obtain⟨I,D,rfl,A⟩:=c;refine zV 54 func293 Z fun h=>X0 18 Z ?_;obtain⟨H,F,b⟩:=qc F;refine qm (rL (fun m e w'=>∃i1 z,qaB x target m i1 z=V H/\e=[(0,oS I x.length D),(1,vi target),(6,vi (x.length:Int)),(7,vi i1),(8,vi z)]/\SH w w' []) n ⟨_,_,F,rfl,h⟩ Z ?_);rintro B _ _ ⟨i1,z,F,rfl,h⟩;rcases B with _|B
 ·cases F
 refine X0 7 Z (qi Z F ?_ ?_)<;>intro F
 ·refine X0 8 Z ?_;obtain⟨_,a,F⟩:=qc F;obtain⟨C,a⟩:=qys a;refine r_v (qCr C Z Z) Z ?_;rw[a];refine X0 7 Z ?_;obtain⟨_,_,F,i,_,_,_,_,o,u,rfl,d⟩:=A.ix F;refine zxe o u i Z (zc 0 (d.below h.below) Z (zp1 Z (zcB h F qqz Z fun _ _ h F=>qan (qi Z F ?_ ?_))))<;>intro F
  ·exact X0 6 Z (rK ⟨_,_,F,rfl,h⟩ Z)
  exact X0 5 Z (rK ⟨_,_,F,rfl,h⟩ Z)
 refine qt Z ?_;obtain rfl:=qb F;replace F:=b;refine X0 7 Z (qn (t:=35) F Z ?_ ?_)<;>intro F
 ·refine X0 5 Z ?_;obtain⟨_,_,F,k,_,_,_,_,p,v,rfl,f⟩:=A.ix F;refine zxe p v k Z (X0 1 Z (zc 0 (f.below h.below) Z (X0 6 Z (qn (t:=42) F Z ?_ ?_))))<;>intro F
  ·refine X0 15 Z ?_;obtain rfl:=qb F;exact qac qa (ρ:=(Int×Bool)) [oV Int [vi i1],oV Bool [.bool true]] h ⟨rfl,rfl,G⟩ (PV.done h (qao h (qv (S:=fun _=>False) Z) (qae (qv (S:=fun _=>False) Z)) (by rfl)))
  refine X0 5 Z ?_;obtain⟨_,_,F,l,_,_,_,_,s,y,rfl,g⟩:=A.ix F;refine zxe s y l Z (X0 1 Z (zc 0 (g.below h.below) Z (X0 1 Z (zcB h F qjQ Z fun _ _ h F=>X0 2 Z (qn (t:=48) F Z ?_ ?_)))))<;>intro F
  ·refine X0 3 Z (zcB h F qjQ Z fun J _ h F=>X0 8 Z ?_);obtain rfl:=qb F;exact qac qa (ρ:=(Int×Bool)) [oV Int [vi i1],oV Bool [.bool J]] h ⟨rfl,rfl,G⟩ (PV.done h (qao h (qv (S:=fun _=>False) Z) (qae (qv (S:=fun _=>False) Z)) (by rfl)))
  refine X0 10 Z ?_;obtain rfl:=qb F;exact qac qa (ρ:=(Int×Bool)) [oV Int [vi i1],oV Bool [.bool false]] h ⟨rfl,rfl,G⟩ (PV.done h (qao h (qv (S:=fun _=>False) Z) (qae (qv (S:=fun _=>False) Z)) (by rfl)))
 refine X0 21 Z ?_;obtain rfl:=qb F;exact qac qa (ρ:=(Int×Bool)) [oV Int [vi i1],oV Bool [.bool false]] h ⟨rfl,rfl,G⟩ (PV.done h (qao h (qv (S:=fun _=>False) Z) (qae (qv (S:=fun _=>False) Z)) (by rfl)))
def qfC(n:Nat)(k:(List Int))(x:Int):Option ((List Tweight)×Int):=(idx k 0).bind fun a=>(idx k (W64 ((k.length:Int)-1))).bind fun c=>(qdv n k (if c<(if a > x then a else x) then c else(if a > x then a else x))).bind fun(b,d)=>bif d then V (([(⟨b,1⟩:Tweight)]:List Tweight),1) else(idx k b).bind fun f=>(idx k (W64 (b-1))).bind fun g=>(idx k b).bind fun h=>(idx k (W64 (b-1))).bind fun i=>V (([(⟨W64 (b-1),W64 (f-(if c<(if a > x then a else x) then c else(if a > x then a else x)))⟩:Tweight),(⟨b,W64 ((if c<(if a > x then a else x) then c else(if a > x then a else x))-g)⟩:Tweight)]:List Tweight),W64 (h-i))
theorem qoa{a3:(List Int)}{x}(f:Ro w a3 cs1){r:((List Tweight)×Int)}(F:qfC n a3 x=V r):RetV prog 266 [oV (List Int) cs1,vi x] w r:=by
 obtain⟨_,_,rfl,d⟩:=f;refine zV 59 func266 Z fun h=>X0 6 Z (rD (zd2 Z ?_));obtain⟨a,_,F,p,_,_,_,_,z,I,rfl,g⟩:=d.ix F;refine zdxe z I p Z (zdc 0 (g.below h.below) Z (zd5 Z ?_));obtain⟨b,_,F,s,_,_,_,_,A,J,rfl,i⟩:=d.ix F;refine zdxe A J s Z (zdc 0 (i.below h.below) Z (zd2 Z (dN h fun _ h=>X0 4 Z ?_)));obtain⟨⟨c,r3⟩,O,F⟩:=qc F;refine qaS (c,r3) h (cB 293 Z) (qk1 ⟨_,_,rfl,(h.oldS d)⟩ O) Z Z Z Z fun _ _ _ R P=>?_;obtain⟨_,_,rfl,T,Q⟩:=R.consI P;obtain⟨rfl,h⟩:=T.lastB Q;refine X0 11 Z (qi Z F ?_ ?_)<;>intro F
 ·refine X0 3 Z (r_v (qH qa [0,1] [.tmp 27,.const (vi (1))] Z Z Z Z Z Z Z Z) Z (qG qa [.tmp 28] _ ([(⟨c,1⟩:Tweight)]:List Tweight) h Z Z Z Z Z Z Z Z Z ⟨(qoP (⟨c,1⟩:Tweight)),G⟩ Z fun _ Y _ h=>X0 3 Z ?_));obtain rfl:=qb F;exact qac qa (ρ:=((List Tweight)×Int)) [oV (List Tweight) [oS Y 1 1],oV Int [vi 1]] h ⟨rfl,rfl,G⟩ (PV.done h (qao h (qab 0 h Z) (qae (qv (S:=fun _=>False) Z)) (by rfl)))
 refine zKS (rA [] [] h Z fun _ h=>M0 15 [0,1,2,3] (h.p [] Z) Z ?_);obtain⟨W,_,F,t,_,_,_,_,B,K,rfl,k⟩:=d.ix F;refine Ae 4 31 B K t (h.p [] Z) Z (Al 5 63 0 k (h.p [] Z) Z (M0 255 [6,7] (h.p [] Z) Z (Aw 8 511 (fun w' hw=>qH qa [0,1] [.tmp 31,.tmp 37] Z Z Z Z Z Z Z Z) (h.p [] Z) Z ?_)));refine M0 16383 [9,10,11,12,13] (h.p [] Z) Z ?_;obtain⟨X,_,F,u,_,_,_,_,C,L,rfl,l⟩:=d.ix F;refine Ae 14 32767 C L u (h.p [] Z) Z (Al 15 65535 0 l (h.p [] Z) Z (M0 131071 [16] (h.p [] Z) Z (Aw 17 262143 (fun w' hw=>qH qa [0,1] [.tmp 39,.tmp 46] Z Z Z Z Z Z Z Z) (h.p [] Z) Z ?_)));refine M0 1835007 [19,20] (h.p [] Z) Z ?_;obtain⟨y5,_,F,v,_,_,_,_,D,M,rfl,m⟩:=d.ix F;refine Ae 21 3932159 D M v (h.p [] Z) Z (Al 22 8126463 0 m (h.p [] Z) Z (M0 66846719 [23,24,25] (h.p [] Z) Z ?_));obtain⟨y6,_,F,y,_,_,_,_,H,N,rfl,o⟩:=d.ix F;refine Ae 26 133955583 H N y (h.p [] Z) Z (Al 27 268173311 0 o (h.p [] Z) Z (M0 536608767 [28] (h.p [] Z) Z (Ao 18 536870911 Z (qG qa [.tmp 38,.tmp 47] _ ([(⟨W64 (c-1),W64 (W-(if b<(if a > x then a else x) then b else(if a > x then a else x)))⟩:Tweight),(⟨c,W64 ((if b<(if a > x then a else x) then b else(if a > x then a else x))-X)⟩:Tweight)]:List Tweight) h Z Z Z Z Z Z Z Z Z ⟨(qoP (⟨W64 (c-1),W64 (W-(if b<(if a > x then a else x) then b else(if a > x then a else x)))⟩:Tweight)),(qoP (⟨c,W64 ((if b<(if a > x then a else x) then b else(if a > x then a else x))-X)⟩:Tweight)),G⟩ Z fun _ e _ h=>G0 2147483647 [29,30] (h.p [] Z) Z (Ad ?_)))));obtain rfl:=qb F;exact qac qa (ρ:=((List Tweight)×Int)) [oV (List Tweight) [oS e 2 2],oV Int [vi (W64 (y5-y6))]] h ⟨rfl,rfl,G⟩ (PV.done h (qao h (qab 0 h Z) (qae (qv (S:=fun _=>False) Z)) (by rfl)))
def qbg(a:qy)(c:(List Tweight))(d:Tweight):Nat->Int->Int->Option (Int×Int)|0,_,_=>U|n+1,f,b=>bif decide (b<(c.length:Int)) then(idx c b).bind fun g=>(idx a.Bj (W64 ((W64 (d.index*(a.Bk.length:Int)))+g.index))).bind fun h=>qbg a c d n (W64 (f+(W64 ((W64 (h*d.part))*g.part)))) (W64 (b+1)) else V (f,b)
def qbe(a:qy)(c:(List Tweight))(d:(List Tweight)):Nat->Int->Int->Option (Int×Int)|0,_,_=>U|n+1,i1,b=>bif decide (b<(c.length:Int)) then(idx c b).bind fun g=>(qbg a d g n i1 0).bind fun(f,_)=>qbe a c d n f (W64 (b+1)) else V (i1,b)
def qda(n:Nat)(a:qy)(b:Int)(c:Int)(d:Int):Option Int:=(qfC n a.Bo b).bind fun(f,g)=>(qfC n a.Bk c).bind fun(h,i)=>(qbe a f h n 0 0).bind fun(i1,_)=>(qfA n i1 (W64 (g*i)) d).bind fun k=>V k
theorem qkL{a:qy}{g i d}(A:Ro w a cs1){r:Int}(F:qda n a g i d=V r):RetV prog 223 [oV qy cs1,vi g,vi i,vi d] w r:=by
 obtain⟨p1,k1,p2,k2,p3,k3,rfl,s1,s2,s3⟩:=qaK A;refine zV 73 func223 Z fun h=>zSR (qw h Z Z fun _ f h=>X1 7 0 h Z ?_);obtain⟨⟨c,r3⟩,O,F⟩:=qc F;refine qaS (c,r3) h (cB 266 Z) (qoa ⟨_,_,rfl,(h.oldS s1)⟩ O) Z Z Z Z fun _ _ _ X P=>?_;obtain⟨S2,_,x,v,_,rfl,Y,Q⟩:=X.consL P;obtain⟨rfl,h⟩:=Y.lastI Q;refine X1 11 1 h Z ?_;obtain⟨⟨b,r6⟩,R,F⟩:=qc F;refine qaS (b,r6) h (cB 266 Z) (qoa ⟨_,_,rfl,(h.oldS s2)⟩ R) Z Z Z Z fun _ _ _ a3 S=>?_;obtain⟨S6,_,t,s,_,rfl,a4,T⟩:=a3.consL S;obtain⟨rfl,h⟩:=a4.lastI T;refine X0 17 Z ?_;obtain⟨o1,F,y⟩:=qc F;refine qm (rL (fun m e w'=>∃i1 u,qbe a c b m i1 u=V o1/\e=[(3,vi d),(4,vp f),(10,vi r3),(11,oS t b.length s),(12,vi r6),(13,vi i1),(32,oS x c.length v),(33,vi (c.length:Int)),(34,vi u)]/\SH w w' [oW S6 (b:List Tweight) [oS t b.length s],oW S2 (c:List Tweight) [oS x c.length v],oX f (qhV a p1 p2 p3 k1 k2 k3) 243]) n ⟨_,_,F,rfl,h⟩ Z ?_);rintro m1 _ _ ⟨i1,u,F,rfl,h⟩;rcases m1 with _|m1
 ·cases F
 refine X0 5 Z (qi Z F ?_ ?_)<;>intro F
 ·refine zKSBSR ?_;obtain⟨y1,_,F,l,_,_,_,_,I,L,W,B⟩:=(h.sl 1 Z).1.ix F;obtain rfl:=qqk W;refine zx I L ⟨l.1,qC l.2.1 (h.sl 1 Z).2⟩ Z (zc 0 B Z (qq qa h Z Z Z fun _ k h=>zs 0 h Z fun _ h=>X0 7 Z ?_));obtain⟨o2,F,z⟩:=qc F;refine qm (rL (fun m e w'=>∃i3 i4,qbg a b y1 m i3 i4=V o2/\e=[(3,vi d),(4,vp f),(10,vi r3),(11,oS t b.length s),(12,vi r6),(13,vi i3),(15,vp k),(32,oS x c.length v),(33,vi (c.length:Int)),(34,vi u),(38,oS t b.length s),(39,vi (b.length:Int)),(40,vi i4)]/\SH w w' [oX k (qq8 y1) 366,oW S6 (b:List Tweight) [oS t b.length s],oW S2 (c:List Tweight) [oS x c.length v],oX f (qhV a p1 p2 p3 k1 k2 k3) 243]) m1 ⟨_,_,F,rfl,h⟩ Z ?_);rintro m2 _ _ ⟨i3,i4,F,rfl,h⟩;rcases m2 with _|m2
  ·cases F
  refine X0 5 Z (qi Z F ?_ ?_)<;>intro F
  ·refine zKSBSR ?_;obtain⟨_,_,F,o,_,_,_,_,J,M,p,C⟩:=(h.sl 1 Z).1.ix F;obtain rfl:=qqk p;refine zx J M ⟨o.1,qC o.2.1 (h.sl 1 Z).2⟩ Z (zc 0 C Z (qq qa h Z Z Z fun _ _ h=>zs 0 h Z fun _ h=>qan (rD (Y1 3 4 h Z ?_))));refine Y1 2 1 h Z ?_;refine Y1 2 4 h Z ?_;refine Y1 4 0 h Z ?_;refine zd1 Z ?_;obtain⟨_,_,F,H,_,_,_,_,K,N,rfl,D⟩:=s3.ix F;refine zdxe K N H Z (zdc 0 (D.below h.below) Z (Y1 2 1 h Z ?_));refine Y1 3 0 h Z ?_;refine zd3 Z (dN h fun _ h=>X0 5 Z ?_);replace h:=h.p [1,2,3,4] Z;exact rK ⟨_,_,F,rfl,h⟩ Z
  refine qt Z ?_;obtain rfl:=qb F;replace F:=z;refine X0 5 Z ?_;replace h:=h.p [1,2,3] Z;exact rK ⟨_,_,F,rfl,h⟩ Z
 refine qt Z ?_;obtain rfl:=qb F;replace F:=y;exact X0 7 Z (zcI h F qjl Z fun _ _ h F=>X0 2 Z (ri h F Z))
def qlF(n:Nat)(t:Int)(b:Int)(mode:Int):Option Int:=(qfA n (W64 (t*b)) 1000 mode).bind fun a=>V a
theorem qpx{t thousandths mode}  {r:Int}(F:qlF n t thousandths mode=V r):RetV prog 225 [vi t,vi thousandths,vi mode] w r:=by
 exact zV 12 func225 Z fun h=>X0 10 Z (zcI h F qjl Z fun _ _ h F=>X0 2 Z (ri h F Z))
def qe4(_:Nat)(c:qu)(kind:Int)(mode:Int):Option Int:=(bif (kind==1) then V (mode==0) else V false).bind fun b1=>bif b1 then V c.Am else bif (kind==1) then V c.Ar else bif (mode==0) then V c.Aj else V c.Ap
theorem qjR{c:qu}{kind mode}(g:Ro w c cs1){r:Int}(F:qe4 n c kind mode=V r):RetV prog 226 [oV qu cs1,vi kind,vi mode] w r:=by
 obtain rfl:=qaL g;refine zV 28 func226 Z fun h=>zSR (qw h Z Z fun _ a h=>X0 5 Z ?_);obtain⟨f,d,_,F,b⟩:=bindE F;refine qa0 (fun e w'=>∃b1,f b1=V r/\e=[(1,vi kind),(2,vi mode),(3,vp a),(7,.bool b1)]/\SH w w' [oX a (qce c) 54]) ?_ ?_
 ·refine X0 4 Z (qn (t:=10) F Z ?_ ?_)<;>intro F
  ·refine X0 7 Z ?_;obtain rfl:=qb F;exact rG ⟨_,b,rfl,h⟩ Z
  refine X0 5 Z ?_;obtain rfl:=qb F;exact rG ⟨_,b,rfl,h⟩ Z
 rintro _ _ ⟨b1,F,rfl,h⟩;subst d;refine qi Z F ?_ ?_<;>intro F
 ·exact X1 6 0 h Z (ri h F Z)
 refine X0 6 Z (qi Z F ?_ ?_)<;>intro F
 ·exact X1 6 0 h Z (ri h F Z)
 refine X0 6 Z (qi Z F ?_ ?_)<;>intro F
 ·exact X1 6 0 h Z (ri h F Z)
 exact X1 8 0 h Z (ri h F Z)
def qbo(n:Nat)(b:(Option Tview))(d:qu)(f:Int)(g:Int)(a:Int):Option Int:=(b).bind fun h=>(idx h.links f).bind fun c=>(qfo n b c).bind fun i=>bif (c.Bi==1) then(idx h.loads i).bind fun s=>(qgZ n b c).bind fun k=>(idx k.Bp (c.To.tmod 2)).bind fun t=>(qda n t g s a).bind fun l=>(qe4 n d c.Bi a).bind fun r4=>(qlF n l r4 a).bind fun m=>V m else(idx h.delays i).bind fun u=>(idx u c.Cb).bind fun v=>(qfA n v 1000 a).bind fun o=>(qe4 n d c.Bi a).bind fun p=>(qlF n o p a).bind fun r=>V r
theorem qaq{k:(Option Tview)}{i:qu}{l m o}(A:Ro w k cs1)(f:Ro w i cs2){r:Int}(F:qbo n k i l m o=V r):RetV prog 165 [oV (Option Tview) cs1,oV qu cs2,vi l,vi m,vi o] w r:=by
 obtain⟨_,rfl,s1⟩:=qaA A;obtain rfl:=qaL f;refine zV 67 func165 Z fun h=>zSR (qw h Z Z fun _ _ h=>X0 5 Z ?_);obtain⟨_,a8,F⟩:=qc F;obtain⟨_,o_1,_,rfl,-,a3,g⟩:=PtR.get s1 a8;obtain⟨_,_,_,_,_,_,_,_,_,_,_,_,_,_,_,_,_,_,_,_,rfl,s2,s3,s4,s5,s6,s7,s8,s9,y,s11⟩:=qcn a3;refine zp2 Z (zc 6 (g.below h.below) Z (zp1 Z ?_));obtain⟨z,_,F,K,_,_,_,_,O,T,a4,B⟩:=s8.ix F;obtain rfl:=qaw a4;refine zxe O T K Z (zc 0 (B.below h.below) Z (qq qa h Z Z Z fun _ _ h=>zs 0 h Z fun _ h=>X1 5 0 h Z (zcI h F (qiW (h.old s1) (qch z)) Z fun _ _ h F=>X1 13 0 h Z (qi Z F ?_ ?_))))<;>intro F
 ·refine rA [] [0] h Z fun _ h=>M2 7795 [0,1,4,5,6,9,10,11,12] 0 0 (h.p [0] Z) Z (Al 13 15987 7 g (h.p [0] Z) Z (M0 32371 [14] (h.p [0] Z) Z ?_));obtain⟨_,_,F,L,_,_,_,_,P,W,rfl,C⟩:=s9.ix F;refine Ae 15 65139 P W L (h.p [0] Z) Z (Al 16 130675 0 C (h.p [0] Z) Z (M0 261747 [17] (h.p [0] Z) Z (Ao 2 261751 Z ?_)));have b:Rg (old w) w (old w) w:=.start (fun _ h=>h);obtain⟨r2,a5,F⟩:=qc F;refine qlb r2 b h (cB 222 Z) (qmb (b.regOld h) (b.inR h s1) (qch z) a5) Z Z Z Z fun _ _ _ d a a9 a7=>?_;have hL1:=h.ext a.below;have D:=Up.box 0 h a Z;have ha3:=Up.boxP (x:=z) b 0 h a Z (qch z);have H:=Up.box 1 h a Z;have s12:=Up.R b h a f;have ha4:=Up.boxP (x:=i) b 1 h a Z (b.inR h f);have hc7:=Up.C h a g;have s13:=Up.S b h a s2;have s14:=Up.S b h a s3;have s15:=Up.S b h a s4;have s16:=Up.S b h a s5;have s17:=Up.S b h a s6;have s18:=Up.S b h a s7;have s19:=Up.S b h a s8;have s20:=Up.S b h a s9;have s21:=Up.S b h a y;have s22:=Up.S b h a s11;have hb1:=h.below.trans (a.below.mono h.below.size);have c:=((h.p [0] Z)).ext a.below;replace h:=a9;obtain⟨_,rfl,v⟩:=qj1 a7;have ha5:=v;obtain⟨_,_,_,_,rfl,s23,_⟩:=qaj v;refine qa6 (fun _=>(c.ext h.below)) (qc1 3 Z (bits 20 261759) (by kernel_rfl) (by kernel_rfl) (fun w' hw=>v_p qa Z w') (c.ext h.below) Z ?_);obtain⟨y4,_,F,s,_,_,_,_,Q,X,a6,I⟩:=s23.ix F;obtain⟨_,_,_,_,_,_,rfl,s25,s26,s27⟩:=qaK a6;refine qc1 7 Z (bits 20 261887) (by kernel_rfl) (by kernel_rfl) (fun w' hw=>qv4 qa Q X ⟨s.1,s.2.1⟩ Z Z Z Z Z Z) (c.ext h.below) Z (Ao 8 262143 Z (zc 0 (I.below h.below) Z (qa6 (fun _=>(c.ext h.below)) (Ao 18 524287 Z (zcI h F (qkL (qfV y4 (h.oldS (s25.mono d.old)) (h.oldS (s26.mono d.old)) (h.oldS (s27.mono d.old)))) Z fun _ _ h F=>qa6 (fun _=>(c.ext h.below)) (qc1 19 Z (bits 20 1048575) (by kernel_rfl) (by kernel_rfl) (fun w' hw=>v_p qa Z w') (c.ext h.below) Z (Ad (X0 3 Z (zc 0 (H.below h.below) Z (zp1 Z (zc 2 (D.below h.below) Z (zp1 Z (zcI h F (qjR (h.old (GoT.mono s12 d.old))) Z fun _ _ h F=>zp1 Z (zcI h F qpx Z fun _ _ h F=>X0 2 Z ?_))))))))))))));replace h:=h.unbase d.below (show NoD [] from trivial);exact ri h F Z
 refine rD (zd3 Z (zdc 8 (g.below h.below) Z (zd1 Z ?_)));obtain⟨_,_,F,M,_,_,_,_,R,Y,t,J⟩:=y.ix F;obtain⟨_,_,rfl,s28⟩:=t;refine zdxe R Y M Z (zdc 0 (J.below h.below) Z (Y1 2 0 h Z ?_));obtain⟨_,_,F,N,_,_,_,_,S,e,rfl,p⟩:=s28.ix F;refine zdxe S e N Z (zdc 0 (p.below h.below) Z (zd1 Z ?_));obtain⟨r6,u,F⟩:=qc F;exact qa5 r6 (vsI _) (cB 224 Z) (fun _ hb=>qjl  u) Z Z Z Z (zd1 Z (dN h fun _ h=>X2 7 1 0 h Z (zcI h F (qjR (h.old f)) Z fun _ _ h F=>zp1 Z (zcI h F qpx Z fun _ _ h F=>X0 2 Z (ri h F Z)))))
def qgO(b:Int):Nat->Int->Int->Option (Int×Int)|0,_,_=>U|n+1,i1,a=>bif decide (i1<a) then bif decide ((W64 ((W64 ((W64 ((W64 (i1+a))+1)).tdiv 2))*(W64 ((W64 ((W64 (i1+a))+1)).tdiv 2))))<=b) then qgO b n (W64 ((W64 ((W64 (i1+a))+1)).tdiv 2)) a else qgO b n i1 (W64 ((W64 ((W64 ((W64 (i1+a))+1)).tdiv 2))-1)) else V (i1,a)
def qpi(n:Nat)(a:Int):Option Int:=(qgO a n 0 3000000000).bind fun(i1,_)=>V i1
theorem qve{a_n}  {r:Int}(F:qpi n a_n=V r):RetV prog 267 [vi a_n] w r:=by
 refine zV 23 func267 Z fun h=>X0 10 Z ?_;obtain⟨d,F,a⟩:=qc F;refine qm (rL (fun m e w'=>∃i1 b,qgO a_n m i1 b=V d/\e=[(0,vi a_n),(3,vi i1),(4,vi b)]/\SH w w' []) n ⟨_,_,F,rfl,h⟩ Z ?_);rintro c _ _ ⟨i1,b,F,rfl,h⟩;rcases c with _|c
 ·cases F
 refine X0 7 Z (qi Z F ?_ ?_)<;>intro F
 ·refine X0 19 Z (qi Z F ?_ ?_)<;>intro F
  ·exact X0 5 Z (rK ⟨_,_,F,rfl,h⟩ Z)
  exact X0 6 Z (rK ⟨_,_,F,rfl,h⟩ Z)
 refine qt Z ?_;obtain rfl:=qb F;replace F:=a;exact X0 5 Z (ri h F Z)
def qki(n:Nat)(d:Int)(c:Int)(mode:Int):Option Int:=(qpi n (W64 ((W64 ((W64 ((W64 (500*d))*500))*d))+(W64 (c*c))))).bind fun a=>(bif (mode==1) then V (decide ((W64 (a*a))<(W64 ((W64 ((W64 ((W64 (500*d))*500))*d))+(W64 (c*c)))))) else V false).bind fun b1=>bif b1 then V (W64 ((W64 (a.tdiv 500))+1)) else(qfA n a 500 mode).bind fun b=>V b
theorem qq4{slew delay mode}  {r:Int}(F:qki n slew delay mode=V r):RetV prog 227 [vi slew,vi delay,vi mode] w r:=by
 refine zV 35 func227 Z fun h=>X0 20 Z (zcI h F qve Z fun d _ h F=>X0 4 Z ?_);obtain⟨c,b,_,F,a⟩:=bindE F;refine qa0 (fun e w'=>∃b1,c b1=V r/\e=[(2,vi mode),(8,vi d),(28,.bool b1)]/\SH w w' []) ?_ ?_
 ·refine X0 4 Z (qn (t:=22) F Z ?_ ?_)<;>intro F
  ·refine X0 12 Z ?_;obtain rfl:=qb F;exact rG ⟨_,a,rfl,h⟩ Z
  refine X0 7 Z ?_;obtain rfl:=qb F;exact rG ⟨_,a,rfl,h⟩ Z
 rintro _ _ ⟨b1,F,rfl,h⟩;subst b;refine qi Z F ?_ ?_<;>intro F
 ·exact X0 7 Z (ri h F Z)
 exact X0 5 Z (zcI h F qjl Z fun _ _ h F=>X0 2 Z (ri h F Z))

def qaQ(n:Nat)(v:(Option Tview))(m:Int)(l:Int)(mode:Int):Option Int:=(v).bind fun b=>(idx b.links m).bind fun a=>(qfo n v a).bind fun c=>bif (a.Bi==1) then(idx b.loads c).bind fun g=>(qgZ n v a).bind fun f=>(idx f.Be (a.To.tmod 2)).bind fun h=>(qda n h l g mode).bind fun d=>V (if 1000000<d then 1000000 else d) else(idx b.delays c).bind fun i=>(idx i a.Cb).bind fun k=>(qki n l k mode).bind fun r4=>V (if 1000000<r4 then 1000000 else r4)
theorem qfP{v:(Option Tview)}{link slew mode}(m:Ro w v cs1){r:Int}(F:qaQ n v link slew mode=V r):RetV prog 166 [oV (Option Tview) cs1,vi link,vi slew,vi mode] w r:=by
 obtain⟨_,rfl,Y⟩:=qaA m;refine zV 59 func166 Z fun h=>X0 7 Z ?_;obtain⟨_,W,F⟩:=qc F;obtain⟨_,o_1,_,rfl,-,O,d⟩:=PtR.get Y W;obtain⟨_,_,_,_,_,_,_,_,_,_,_,_,_,_,_,_,_,_,_,_,rfl,s2,s3,s4,s5,s6,s7,s8,s9,l,e⟩:=qcn O;refine zp2 Z (zc 6 (d.below h.below) Z (zp1 Z ?_));obtain⟨y2,_,F,x,_,_,_,_,B,J,P,o⟩:=s8.ix F;obtain rfl:=qaw P;refine zxe B J x Z (zc 0 (o.below h.below) Z (qq qa h Z Z Z fun _ _ h=>zs 0 h Z fun _ h=>X1 5 0 h Z (zcI h F (qiW (h.old Y) (qch y2)) Z fun _ _ h F=>X1 9 0 h Z (qi Z F ?_ ?_))))<;>intro F
 ·refine qZ (rA [] [0] h Z fun _ h=>M2 7795 [0,1,4,5,6,9,10,11,12] 0 0 (h.p [0] Z) Z (Al 13 15987 7 d (h.p [0] Z) Z (M0 32371 [14] (h.p [0] Z) Z ?_)));obtain⟨_,_,F,y,_,_,_,_,C,K,rfl,p⟩:=s9.ix F;refine Ae 15 65139 C K y (h.p [0] Z) Z (Al 16 130675 0 p (h.p [0] Z) Z (M0 261747 [17] (h.p [0] Z) Z (Ao 2 261751 Z ?_)));have b:Rg (old w) w (old w) w:=.start (fun _ h=>h);obtain⟨r2,Q,F⟩:=qc F;refine qlb r2 b h (cB 222 Z) (qmb (b.regOld h) (b.inR h Y) (qch y2) Q) Z Z Z Z fun _ _ _ f a X T=>?_;have hL1:=h.ext a.below;have hc5:=Up.C h a d;have s12:=Up.S b h a s2;have s13:=Up.S b h a s3;have s14:=Up.S b h a s4;have s15:=Up.S b h a s5;have s16:=Up.S b h a s6;have s17:=Up.S b h a s7;have s18:=Up.S b h a s8;have s19:=Up.S b h a s9;have s20:=Up.S b h a l;have s21:=Up.S b h a e;have hb1:=h.below.trans (a.below.mono h.below.size);have c:=((h.p [0] Z)).ext a.below;replace h:=X;obtain⟨_,rfl,k⟩:=qj1 T;have ha2:=k;obtain⟨_,_,_,_,rfl,_,a3⟩:=qaj k;refine qa6 (fun _=>(c.ext h.below)) (qc1 3 Z (bits 21 261759) (by kernel_rfl) (by kernel_rfl) (fun w' hw=>v_p qa Z w') (c.ext h.below) Z ?_);obtain⟨y4,_,F,g,_,_,_,_,D,L,R,s⟩:=a3.ix F;obtain⟨_,_,_,_,_,_,rfl,a4,a5,a6⟩:=qaK R;refine qc1 7 Z (bits 21 261887) (by kernel_rfl) (by kernel_rfl) (fun w' hw=>qv4 qa D L ⟨g.1,g.2.1⟩ Z Z Z Z Z Z) (c.ext h.below) Z (Ao 8 262143 Z (zc 0 (s.below h.below) Z (qa6 (fun _=>(c.ext h.below)) (Ao 18 524287 Z (zcI h F (qkL (qfV y4 (h.oldS (a4.mono f.old)) (h.oldS (a5.mono f.old)) (h.oldS (a6.mono f.old)))) Z fun _ _ h F=>qa6 (fun _=>(c.ext h.below)) (qc1 19 Z (bits 21 1048575) (by kernel_rfl) (by kernel_rfl) (fun w' hw=>v_p qa Z w') (c.ext h.below) Z (qc1 20 Z (bits 21 2097151) (by kernel_rfl) (by kernel_rfl) (fun w' hw=>v_p qa Z w') (c.ext h.below) Z (Ad ?_))))))));replace h:=h.unbase f.below (show NoD [] from trivial);exact ri h F Z
 refine zKS (rD (zd4 Z (zdc 8 (d.below h.below) Z (zd1 Z ?_))));obtain⟨_,_,F,z,_,_,_,_,H,M,S,t⟩:=l.ix F;obtain⟨_,_,rfl,a7⟩:=S;refine zdxe H M z Z (zdc 0 (t.below h.below) Z (Y1 2 0 h Z ?_));obtain⟨_,_,F,A,_,_,_,_,I,N,rfl,u⟩:=a7.ix F;refine zdxe I N A Z (zdc 0 (u.below h.below) Z (zd1 Z ?_));obtain⟨r4,i,F⟩:=qc F;exact qa5 r4 (vsI _) (cB 227 Z) (fun _ hb=>qq4  i) Z Z Z Z (zd2 Z (dN h fun _ h=>ri h F Z))
def qg1(n:Nat)(a:(Option Tview))(d:qu)(b:Int)(c:qe):Option (qe×qe):=(qbo n a d b c.Ba 0).bind fun f=>(qbo n a d b c.Bg 0).bind fun g=>(qbo n a d b c.Ba 1).bind fun h=>(qbo n a d b c.Bg 1).bind fun r4=>(a).bind fun i=>(idx i.links b).bind fun r=>(bif decide ((i.extras.length:Int) > 0) then V (r.Bi==2) else V false).bind fun b3=>(bif b3 then(qfo n a r).bind fun u=>(idx i.extras u).bind fun s=>V (W64 ((if g<f then g else f)-s),W64 ((if r4 > h then r4 else h)+s)) else V ((if g<f then g else f),(if r4 > h then r4 else h))).bind fun(i1,t)=>(qaQ n a b c.Ba 0).bind fun k=>(qaQ n a b c.Bg 0).bind fun l=>(qaQ n a b c.Ba 1).bind fun m=>(qaQ n a b c.Bg 1).bind fun p=>V ((⟨i1,t⟩:qe),(⟨(if l<k then l else k),(if p > m then p else m)⟩:qe))
theorem qfb{x:(Option Tview)}{y:qu}{i}{d:qe}(Q:Ro w x cs1)(a:Ro w y cs2)(R:Ro w d cs3){r:(qe×qe)}(F:qg1 n x y i d=V r):RetV prog 133 [oV (Option Tview) cs1,oV qu cs2,vi i,oV qe cs3] w r:=by
 obtain⟨p1,rfl,c⟩:=qaA Q;obtain rfl:=qaL a;obtain rfl:=qB R;refine zV 100 func133 Z fun h=>zSR (qw h Z Z fun _ _ h=>qw h Z Z fun _ _ h=>qq qa h Z Z Z fun _ f h=>qq qa h Z Z Z fun _ g h=>zNS (rD (Y1 2 2 h Z ?_)));refine Y1 2 2 h Z ?_;refine zd2 Z (dN h fun _ h=>qZ ?_);obtain⟨v,D,F⟩:=qc F;obtain⟨u,s,F⟩:=qc F;obtain⟨o,l,F⟩:=qc F;obtain⟨r4,k,F⟩:=qc F;refine qa0 (fun e w'=>∃b,e=[(0,.pointer p1),(2,vi i),(8,vp f),(9,vp g),(10,vi d.Ba),(11,vi d.Bg),(12,vp b)]/\SH w w' [oX b [vi (if u<v then u else v),vi (if r4 > o then r4 else o)] 102,oX g [vi 0,vi 0] 102,oX f [vi 0,vi 0] 102]) ?_ ?_
 ·refine rA [24] [3] h Z fun _ h=>M4 1014255 [0,1,2,3,5,6,7,8,11,12,13,14,16,17,18,19] 0 0 0 0 (h.p [3] Z) Z (At 4 23 1014271 9402863 Z ?_ ?_)
  ·refine qcC v h (cB 165 Z) (qaq (h.old c) (h.old a) D) Z Z Z Z fun _ h=>Ag (h.p [3] Z) (At 9 23 1014783 9402879 Z ?_ ?_)
   ·refine qcC u h (cB 165 Z) (qaq (h.old c) (h.old a) s) Z Z Z Z fun _ h=>G0 1015807 [10] (h.p [3] Z) Z (At 15 23 1048575 9404415 Z ?_ ?_)
    ·refine qcC o h (cB 165 Z) (qaq (h.old c) (h.old a) l) Z Z Z Z fun _ h=>Ag (h.p [3] Z) (At 20 23 2097151 9437183 Z ?_ ?_)
     ·refine qcC r4 h (cB 165 Z) (qaq (h.old c) (h.old a) k) Z Z Z Z fun _ h=>G0 4194303 [21] (h.p [3] Z) Z (Aw 22 8388607 (fun w' hw=>qH qa [0,1] [.tmp 30,.tmp 41] Z Z Z Z Z Z Z Z) (h.p [3] Z) Z ?_);refine Ao 23 16777215 Z (qq qa h Z Z Z fun _ _ h=>Ag (h.p [4] Z) (Ao 24 33554431 Z (zs 0 h Z fun _ h=>qa6 (fun hs=>absurd (hs 24 (by decide)) (by decide)) (Ad ?_))));replace h:=h.p [0,1,2] Z;exact rG ⟨_,rfl,h⟩ Z
     refine qq qa h Z Z Z fun _ _ h=>Ag (h.p [4] Z) (Ao 20 10485759 Z (qcC r4 h (cB 165 Z) (qaq (h.old c) (h.old a) k) Z Z Z Z fun _ h=>G0 12582911 [21] (h.p [4] Z) Z (Aw 22 16777215 (fun w' hw=>qH qa [0,1] [.tmp 30,.tmp 41] Z Z Z Z Z Z Z Z) (h.p [4] Z) Z ?_)));refine Ao 24 33554431 Z (zs 0 h Z fun _ h=>qa6 (fun hs=>absurd (hs 24 (by decide)) (by decide)) (Ad ?_));replace h:=h.p [0,1,2] Z;exact rG ⟨_,rfl,h⟩ Z
    refine qq qa h Z Z Z fun _ _ h=>Ag (h.p [4] Z) (Ao 15 9437183 Z (qcC o h (cB 165 Z) (qaq (h.old c) (h.old a) l) Z Z Z Z fun _ h=>Ag (h.p [4] Z) (Ao 20 10485759 Z (qcC r4 h (cB 165 Z) (qaq (h.old c) (h.old a) k) Z Z Z Z fun _ h=>G0 12582911 [21] (h.p [4] Z) Z (Aw 22 16777215 (fun w' hw=>qH qa [0,1] [.tmp 30,.tmp 41] Z Z Z Z Z Z Z Z) (h.p [4] Z) Z ?_)))));refine Ao 24 33554431 Z (zs 0 h Z fun _ h=>qa6 (fun hs=>absurd (hs 24 (by decide)) (by decide)) (Ad ?_));replace h:=h.p [0,1,2] Z;exact rG ⟨_,rfl,h⟩ Z
   refine qq qa h Z Z Z fun _ _ h=>Ag (h.p [4] Z) (Ao 9 9403391 Z (qcC u h (cB 165 Z) (qaq (h.old c) (h.old a) s) Z Z Z Z fun _ h=>G0 9404415 [10] (h.p [4] Z) Z (Ao 15 9437183 Z (qcC o h (cB 165 Z) (qaq (h.old c) (h.old a) l) Z Z Z Z fun _ h=>Ag (h.p [4] Z) (Ao 20 10485759 Z (qcC r4 h (cB 165 Z) (qaq (h.old c) (h.old a) k) Z Z Z Z fun _ h=>G0 12582911 [21] (h.p [4] Z) Z (Aw 22 16777215 (fun w' hw=>qH qa [0,1] [.tmp 30,.tmp 41] Z Z Z Z Z Z Z Z) (h.p [4] Z) Z ?_)))))));refine Ao 24 33554431 Z (zs 0 h Z fun _ h=>qa6 (fun hs=>absurd (hs 24 (by decide)) (by decide)) (Ad ?_));replace h:=h.p [0,1,2] Z;exact rG ⟨_,rfl,h⟩ Z
  refine qq qa h Z Z Z fun _ _ h=>Ag (h.p [4] Z) (Ao 4 9402879 Z (qcC v h (cB 165 Z) (qaq (h.old c) (h.old a) D) Z Z Z Z fun _ h=>Ag (h.p [4] Z) (Ao 9 9403391 Z (qcC u h (cB 165 Z) (qaq (h.old c) (h.old a) s) Z Z Z Z fun _ h=>G0 9404415 [10] (h.p [4] Z) Z (Ao 15 9437183 Z (qcC o h (cB 165 Z) (qaq (h.old c) (h.old a) l) Z Z Z Z fun _ h=>Ag (h.p [4] Z) (Ao 20 10485759 Z (qcC r4 h (cB 165 Z) (qaq (h.old c) (h.old a) k) Z Z Z Z fun _ h=>G0 12582911 [21] (h.p [4] Z) Z (Aw 22 16777215 (fun w' hw=>qH qa [0,1] [.tmp 30,.tmp 41] Z Z Z Z Z Z Z Z) (h.p [4] Z) Z ?_)))))))));refine Ao 24 33554431 Z (zs 0 h Z fun _ h=>qa6 (fun hs=>absurd (hs 24 (by decide)) (by decide)) (Ad ?_));replace h:=h.p [0,1,2] Z;exact rG ⟨_,rfl,h⟩ Z
 rintro _ _ ⟨b,rfl,h⟩;refine X0 4 Z ?_;obtain⟨_,a9,F⟩:=qc F;obtain⟨b1,J,_,rfl,-,a7,p⟩:=PtR.get c a9;obtain⟨_,_,_,_,_,_,_,_,_,_,_,_,_,_,_,_,_,_,_,_,rfl,_,_,_,_,_,_,s8,_,_,b4⟩:=qcn a7;refine zp2 Z (zc 6 (p.below h.below) Z (zp1 Z ?_));obtain⟨y2,_,F,X,_,_,_,_,a3,a5,a8,T⟩:=s8.ix F;obtain rfl:=qaw a8;refine zxe a3 a5 X Z (zc 0 (T.below h.below) Z (qq qa h Z Z Z fun _ m h=>zs 0 h Z fun _ h=>zNS ?_));obtain⟨P,C,_,F,A⟩:=bindE F;refine qa0 (fun e w'=>∃b3,P b3=V r/\e=[(0,.pointer (V ⟨b1,J,U⟩)),(2,vi i),(8,vp f),(9,vp g),(10,vi d.Ba),(11,vi d.Bg),(12,vp b),(13,vp m),(60,.bool b3)]/\SH w w' [oX m (qlu y2) 154,oX b [vi (if u<v then u else v),vi (if r4 > o then r4 else o)] 102,oX g [vi 0,vi 0] 102,oX f [vi 0,vi 0] 102]) ?_ ?_
 ·refine X0 4 Z (zc 9 (p.below h.below) Z (zp3 Z (qn (t:=56) F Z ?_ ?_)))<;>intro F
  ·refine X1 8 0 h Z ?_;obtain rfl:=qb F;exact rG ⟨_,A,rfl,h⟩ Z
  refine X0 5 Z ?_;obtain rfl:=qb F;exact rG ⟨_,A,rfl,h⟩ Z
 rintro _ _ ⟨b3,F,rfl,h⟩;subst C;obtain⟨O,B,_,F,z⟩:=bindE F;refine qa0 (fun e w'=>∃i1 I,O (i1,I)=V r/\e=[(0,.pointer (V ⟨b1,J,U⟩)),(2,vi i),(8,vp f),(9,vp g),(10,vi d.Ba),(11,vi d.Bg),(12,vp b)]/\SH w w' [oX b [vi i1,vi I] 102,oX g [vi 0,vi 0] 102,oX f [vi 0,vi 0] 102]) ?_ ?_
 ·refine qi Z F ?_ ?_<;>intro F
  ·refine qZ (rD (zd3 Z (zdc 9 (p.below h.below) Z (Y1 2 0 h Z ?_))));obtain⟨r9,H,F⟩:=qc F;refine qa5 r9 (vsI _) (cB 182 Z) (fun _ hb=>qiW ((h.ext hb).old c) (qch y2) H) Z Z Z Z ?_;obtain⟨_,_,F,Y,_,_,_,_,a4,a6,rfl,W⟩:=b4.ix F;refine zdxe a4 a6 Y Z (zdc 0 (W.below h.below) Z (zd1 Z (dN h fun _ h=>X2 9 1 1 h Z (r_v (qH qa [0,1] [.tmp 73,.tmp 77] Z Z Z Z Z Z Z Z) Z (zs 1 h Z fun _ h=>qan ?_)))));replace h:=h.p [1,2,3] Z;obtain rfl:=qb F;exact rG ⟨_,_,z,rfl,h⟩ Z
  refine qcI ?_;replace h:=h.p [1,2,3] Z;obtain rfl:=qb F;exact rG ⟨_,_,z,rfl,h⟩ Z
 rintro _ _ ⟨i1,I,F,rfl,h⟩;subst B;refine X0 5 Z (zcI h F (qfP (h.old c)) Z fun K _ h F=>zp3 Z (zcI h F (qfP (h.old c)) Z fun L _ h F=>zp4 Z (zcI h F (qfP (h.old c)) Z fun M _ h F=>zp3 Z (zcI h F (qfP (h.old c)) Z fun N _ h F=>zp1 Z (r_v (qH qa [0,1] [.tmp 87,.tmp 96] Z Z Z Z Z Z Z Z) Z (qq qa h Z Z Z fun _ _ h=>zs 0 h Z fun _ h=>zNS (rA [] [0,1] h Z fun _ h=>M2 3 [0,1] 1 0 (h.p [0,1] Z) Z (Ao 2 7 Z (zs 3 h Z fun _ h=>Ag (h.p [0,1] Z) (Ao 3 15 Z (zs 2 h Z fun _ h=>Ag (h.p [0,1] Z) (Ad ?_))))))))))));obtain rfl:=qb F;exact qac qa (ρ:=(qe×qe)) [oV qe [vi i1,vi I],oV qe [vi (if L<K then L else K),vi (if N > M then N else M)]] h ⟨⟨_,_,_,rfl,rfl,h.box 3 Z,rfl⟩,⟨_,_,_,rfl,rfl,h.box 2 Z,rfl⟩,G⟩ (PV.done h (qao h (qv (S:=fun _=>False) (qD (⟨i1,I⟩:qe))) (qae (qv (S:=fun _=>False) (qD (⟨(if L<K then L else K),(if N > M then N else M)⟩:qe)))) (by rfl)))
def ql5(_:Nat)(s:qe)(t:qe):Option qe:=V (⟨W64 (s.Ba+t.Ba),W64 (s.Bg+t.Bg)⟩:qe)
theorem qqv{s:qe}{t:qe}(a:Ro w s cs1)(b:Ro w t cs2){r:qe}(F:ql5 n s t=V r):RetV prog 134 [oV qe cs1,oV qe cs2] w r:=by
 obtain rfl:=qB a;obtain rfl:=qB b;refine zV 16 func134 Z fun h=>zSR (qw h Z Z fun _ _ h=>qw h Z Z fun _ _ h=>qq qa h Z Z Z fun _ _ h=>X4 13 2 1 2 1 h Z (r_v (qH qa [0,1] [.tmp 9,.tmp 14] Z Z Z Z Z Z Z Z) Z (zs 0 h Z fun _ h=>qan ?_)));obtain rfl:=qb F;exact qac qa (ρ:=qe) [oV qe [vi (W64 (s.Ba+t.Ba)),vi (W64 (s.Bg+t.Bg))]] h ⟨⟨_,_,_,rfl,rfl,h.box 0 Z,rfl⟩,G⟩ (PV.done h (qae (qv (S:=fun _=>False) (qD (⟨W64 (s.Ba+t.Ba),W64 (s.Bg+t.Bg)⟩:qe)))))
def qjN(_:Nat)(s:qe)(t:qe):Option qe:=V (⟨(if t.Ba<s.Ba then t.Ba else s.Ba),(if t.Bg > s.Bg then t.Bg else s.Bg)⟩:qe)
theorem qed{s:qe}{t:qe}(a:Ro w s cs1)(b:Ro w t cs2){r:qe}(F:qjN n s t=V r):RetV prog 265 [oV qe cs1,oV qe cs2] w r:=by
 obtain rfl:=qB a;obtain rfl:=qB b;refine zV 16 func265 Z fun h=>zSR (qw h Z Z fun _ _ h=>qw h Z Z fun _ _ h=>qq qa h Z Z Z fun _ _ h=>X4 13 2 1 2 1 h Z (r_v (qH qa [0,1] [.tmp 9,.tmp 14] Z Z Z Z Z Z Z Z) Z (zs 0 h Z fun _ h=>qan ?_)));obtain rfl:=qb F;exact qac qa (ρ:=qe) [oV qe [vi (if t.Ba<s.Ba then t.Ba else s.Ba),vi (if t.Bg > s.Bg then t.Bg else s.Bg)]] h ⟨⟨_,_,_,rfl,rfl,h.box 0 Z,rfl⟩,G⟩ (PV.done h (qae (qv (S:=fun _=>False) (qD (⟨(if t.Ba<s.Ba then t.Ba else s.Ba),(if t.Bg > s.Bg then t.Bg else s.Bg)⟩:qe)))))
def qgo(n:Nat)(s:qf)(d:Bool)(c:qe)(f:qe):Option (qf×Bool):=bif (!d) then V ((⟨s.Bs,(⟨c.Ba,c.Bg⟩:qe),(⟨f.Ba,f.Bg⟩:qe)⟩:qf),true) else(qjN n (⟨s.Ah.Ba,s.Ah.Bg⟩:qe) c).bind fun a=>(qjN n (⟨s.Be.Ba,s.Be.Bg⟩:qe) f).bind fun b=>V ((⟨s.Bs,(⟨a.Ba,a.Bg⟩:qe),(⟨b.Ba,b.Bg⟩:qe)⟩:qf),d)
theorem qkE{n i w F a}{s:qf}{b reached}{k:qe}{l:qe}(h:SH i w (oX b [.bool reached] 4::oX a (qgB s) 128::F)){r:(qf×Bool)}(o:qgo n s reached k l=V r):RetU prog 220 [vp a,vp b,.agg #[vi k.Ba,vi k.Bg],.agg #[vi l.Ba,vi l.Bg]] w (fun w'=>SH i w' (oX b [.bool r.2] 4::oX a (qgB r.1) 128::F)):=by
 refine qoS func220 Z (m:=40) Z Z (zSR (qw h Z Z fun _ _ h=>qw h Z Z fun _ _ h=>X1 9 2 h Z (qi Z o ?_ ?_)))<;>intro o
 ·refine qZ (rA [] [0,1] h Z fun _ h=>M2 63 [0,1,2,3,4,5] 1 0 (h.p [0,1] Z) Z (Ao 6 127 Z (zs 2 h Z fun _ h=>G0 511 [7,8] (h.p [0,1] Z) Z (Ao 9 1023 Z (zs 3 h Z fun _ h=>G0 4095 [10,11] (h.p [0,1] Z) Z (Ao 12 8191 Z (zs 3 h Z fun _ h=>Ag (h.p [0,1] Z) (Ad ?_))))))));obtain rfl:=qb o;replace h:=h.pickT 4 [2,3] Z;exact qCe qa h trivial
 refine qcI ?_;obtain⟨f,c,o⟩:=qc o;obtain⟨g,d,o⟩:=qc o;refine qa0 (fun e w'=>e=[]/\SH i w' (oX b [.bool reached] 4::oX a [vi s.Bs,vi f.Ba,vi f.Bg,vi g.Ba,vi g.Bg] 128::F)) ?_ ?_
 ·refine rA [] [0,1] h Z fun _ h=>M2 5983 [0,1,2,3,4,6,8,9,10,12] 1 0 (h.p [0,1] Z) Z (At 5 11 6015 8031 Z ?_ ?_)
  ·refine zl 3 1 h Z (Ag (h.p [0,1] Z) (At 7 11 6143 8063 Z ?_ ?_))
   ·refine qny f h (cB 265 Z) (qed (qD _) (qD k) c) Z Z Z Z fun _ _ _ h=>?_;obtain rfl:=qB (h.own 0 Z);refine Ag (h.p [1,2] Z) (Ao 11 8191 Z (zl 4 3 h Z (Ag (h.p [1,2] Z) (Ao 13 16383 Z (qny g h (cB 265 Z) (qed (qD _) (qD l) d) Z Z Z Z fun _ _ _ h=>?_)))));obtain rfl:=qB (h.own 0 Z);refine G0 65535 [14,15] (h.p [2,3] Z) Z (Ao 16 131071 Z (zs 5 h Z fun _ h=>G0 524287 [17,18] (h.p [2,3] Z) Z (Ao 19 1048575 Z (zs 5 h Z fun _ h=>Ag (h.p [2,3] Z) (Ad ?_)))));replace h:=h.pickT 6 [4,5] Z;exact rG ⟨rfl,h⟩ Z
   refine zl 3 3 h Z (Ag (h.p [0,1] Z) (Ao 7 8191 Z (qny f h (cB 265 Z) (qed (qD _) (qD k) c) Z Z Z Z fun _ _ _ h=>?_)));obtain rfl:=qB (h.own 0 Z);refine Ag (h.p [1,2] Z) (Ao 13 16383 Z (qny g h (cB 265 Z) (qed (qD _) (qD l) d) Z Z Z Z fun _ _ _ h=>?_));obtain rfl:=qB (h.own 0 Z);refine G0 65535 [14,15] (h.p [2,3] Z) Z (Ao 16 131071 Z (zs 5 h Z fun _ h=>G0 524287 [17,18] (h.p [2,3] Z) Z (Ao 19 1048575 Z (zs 5 h Z fun _ h=>Ag (h.p [2,3] Z) (Ad ?_)))));replace h:=h.pickT 6 [4,5] Z;exact rG ⟨rfl,h⟩ Z
  refine zl 3 3 h Z (Ag (h.p [0,1] Z) (Ao 5 8063 Z (zl 3 1 h Z (Ag (h.p [0,1] Z) (Ao 7 8191 Z (qny f h (cB 265 Z) (qed (qD _) (qD k) c) Z Z Z Z fun _ _ _ h=>?_))))));obtain rfl:=qB (h.own 0 Z);refine Ag (h.p [1,2] Z) (Ao 13 16383 Z (qny g h (cB 265 Z) (qed (qD _) (qD l) d) Z Z Z Z fun _ _ _ h=>?_));obtain rfl:=qB (h.own 0 Z);refine G0 65535 [14,15] (h.p [2,3] Z) Z (Ao 16 131071 Z (zs 5 h Z fun _ h=>G0 524287 [17,18] (h.p [2,3] Z) Z (Ao 19 1048575 Z (zs 5 h Z fun _ h=>Ag (h.p [2,3] Z) (Ad ?_)))));replace h:=h.pickT 6 [4,5] Z;exact rG ⟨rfl,h⟩ Z
 rintro _ _ ⟨rfl,h⟩;obtain rfl:=qb o;exact qw6 qa h trivial
def qbv(c:(Option Tgraph))(d:qu)(a:qr)(r4:(List Int)):Nat->Bool->Int->Int->Int->Int->Int->Int->Option (Bool×Int×Int×Int×Int×Int×Int)|0,_,_,_,_,_,_,_=>U|n+1,b2,h,i,i8,k,f,b=>bif decide (b<(r4.length:Int)) then(idx r4 b).bind fun p=>(c).bind fun r=>(r.view).bind fun v=>(idx v.links p).bind fun m=>(idx a.Bb m.Bm).bind fun x=>bif x then(idx a.Be m.Bm).bind fun y=>(qg1 n r.view d p y).bind fun(s,t)=>(idx a.Ah m.Bm).bind fun z=>(ql5 n z s).bind fun l=>(qgo n (⟨h,(⟨i,i8⟩:qe),(⟨k,f⟩:qe)⟩:qf) b2 l t).bind fun(g,u)=>qbv c d a r4 n u g.Bs g.Ah.Ba g.Ah.Bg g.Be.Ba g.Be.Bg (W64 (b+1)) else qbv c d a r4 n b2 h i i8 k f (W64 (b+1)) else V (b2,h,i,i8,k,f,b)
def qdW(n:Nat)(b:(Option Tgraph))(f:qu)(g:(List qf))(h:qr)(a:Int):Option (Bool×qf):=(qdU n g a).bind fun(d,v)=>(bif v then(qgo n (⟨a,(⟨0,0⟩:qe),(⟨0,0⟩:qe)⟩:qf) false (⟨d.Ah.Ba,d.Ah.Bg⟩:qe) (⟨d.Be.Ba,d.Be.Bg⟩:qe)).bind fun(c,k)=>V (k,c.Bs,c.Ah.Ba,c.Ah.Bg,c.Be.Ba,c.Be.Bg) else V (false,a,0,0,0,0)).bind fun(b1,i1,l,m,p,r)=>(qhk n b a).bind fun r4=>(qbv b f h r4 n b1 i1 l m p r 0).bind fun(b2,s,t,i8,u,i,_)=>bif (!b2) then V (false,(⟨0,(⟨0,0⟩:qe),(⟨0,0⟩:qe)⟩:qf)) else V (true,(⟨s,(⟨t,i8⟩:qe),(⟨u,i⟩:qe)⟩:qf))
theorem qni{R:(Option Tgraph)}{f:qu}{a_2:(List qf)}{g:qr}{T}(ha1:Ro w R cs1)(B:Ro w f cs2)(ha3:Ro w a_2 cs3)(ha4:Ro w g cs4){r:(Bool×qf)}(F:qdW n R f a_2 g T=V r):RetV prog 162 [oV (Option Tgraph) cs1,oV qu cs2,oV (List qf) cs3,oV qr cs4,vi T] w r:=by
 obtain⟨p1,rfl,s1⟩:=qaA ha1;obtain rfl:=qaL B;obtain⟨_,_,rfl,s2⟩:=ha3;obtain⟨p3,k2,p4,k3,p5,k4,rfl,s3,s4,s5⟩:=qdd ha4;refine zV 88 func162 Z fun h=>zSR (qw h Z Z fun _ i h=>qw h Z Z fun _ k h=>zp1 Z (qq qa h Z Z Z fun _ l h=>X0 4 Z (r_v (qH qa [0] [.tmp 21] Z Z Z Z Z Z Z Z) Z (qq qa h Z Z Z fun _ p h=>zs 0 h Z fun _ h=>zNSR (qq qa h Z Z Z fun _ s h=>zs 0 h Z fun _ h=>X0 6 Z ?_)))));obtain⟨⟨r2,r3⟩,hr1,F⟩:=qc F;refine qaS (r2,r3) h (cB 83 Z) (qij ⟨_,_,rfl,(h.oldS s2)⟩ hr1) Z Z Z Z fun _ _ _ hv1 hr2=>?_;obtain⟨S2,_,_,_,rfl,hv2,hr3⟩:=hv1.cons hr2;obtain rfl:=qF (hv2.sh.own 0 Z);obtain⟨rfl,h⟩:=hv2.lastB hr3;refine zp3 Z (qq qa h Z Z Z fun _ bb6 h=>zs 0 h Z fun _ h=>X0 6 Z ?_);obtain⟨KF1,hKF1,_,F,hK2⟩:=bindE F;refine qa0 (fun e w'=>∃b1 i1 i2 i3 i4 i5,KF1 (b1,i1,i2,i3,i4,i5)=V r/\e=[(0,.pointer p1),(4,vi T),(6,vp i),(8,vp k),(11,vp l),(12,vp p),(13,vp s)]/\SH w w' [oX s [.bool b1] 4,oX p [vi i1,vi i2,vi i3,vi i4,vi i5] 128,oX l [vi 0,vi 0,vi 0,vi 0,vi 0] 128,oX k (qb2 g p3 p4 p5 k2 k3 k4) 111,oX i (qce f) 54]) ?_ ?_
 ·refine qi Z F ?_ ?_<;>intro F
  ·refine X2 5 0 0 h Z ?_;replace h:=h.p [2,3,0,1,4,5,6] Z;obtain⟨⟨x9,x10⟩,hr43,F⟩:=qc F;refine qmF (cB 220 Z) (qkE h hr43) Z Z Z Z fun _ h=>?_;replace h:SH _ _ [oX s [.bool x10] 4,oX p (qgB x9) 128,oX bb6 (qgB r2) 128,oW S2 (r2:qf) (qgB r2),oX l [vi 0,vi 0,vi 0,vi 0,vi 0] 128,oX k (qb2 g p3 p4 p5 k2 k3 k4) 111,oX i (qce f) 54]:=h;refine qan ?_;replace h:=h.p [0,1,4,5,6] Z;obtain rfl:=qb F;exact rG ⟨_,_,_,_,_,_,hK2,rfl,h⟩ Z
  refine qcI ?_;replace h:=h.p [2,3,4,5,6] Z;obtain rfl:=qb F;exact rG ⟨_,_,_,_,_,_,hK2,rfl,h⟩ Z
 rintro _ _ ⟨b1,i1,i2,i3,i4,i5,F,rfl,h⟩;subst hKF1;refine X0 5 Z (zcL h F (qj6 (h.old s1)) Z fun r4 _ S5 p6 k5 h F=>X0 3 Z ?_);obtain⟨o1,F,hK1⟩:=qc F;refine qm (rL (fun m e w'=>∃b2 X Y i8 i9 C P,qbv R f g r4 m b2 X Y i8 i9 C P=V o1/\e=[(0,.pointer p1),(6,vp i),(8,vp k),(11,vp l),(12,vp p),(13,vp s),(37,oS p6 r4.length k5),(38,vi (r4.length:Int)),(39,vi P)]/\SH w w' [oW S5 (r4:List Int) [oS p6 r4.length k5],oX s [.bool b2] 4,oX p [vi X,vi Y,vi i8,vi i9,vi C] 128,oX l [vi 0,vi 0,vi 0,vi 0,vi 0] 128,oX k (qb2 g p3 p4 p5 k2 k3 k4) 111,oX i (qce f) 54]) n ⟨_,_,_,_,_,_,_,F,rfl,h⟩ Z ?_);rintro m1 _ _ ⟨b2,X,Y,i8,i9,C,P,F,rfl,h⟩;rcases m1 with _|m1
 ·cases F
 refine X0 5 Z (qi Z F ?_ ?_)<;>intro F
 ·refine zKSBSR ?_;obtain⟨_,_,F,he1,_,_,_,_,hp1,hq1,rfl,hc2⟩:=(h.sl 0 Z).1.ix F;refine zx hp1 hq1 ⟨he1.1,qC he1.2.1 (h.sl 0 Z).2⟩ Z (zc 0 hc2 Z (X0 5 Z ?_));obtain⟨_,hy2,F⟩:=qc F;obtain⟨b4,o_2,_,rfl,-,hr7,hc3⟩:=PtR.get s1 hy2;obtain⟨_,_,_,rfl,s6,_⟩:=qeG hr7;refine zp2 Z (zc 0 (hc3.below h.below) Z ?_);obtain⟨_,hy3,F⟩:=qc F;obtain⟨_,o_3,_,rfl,-,hr8,hc4⟩:=PtR.get s6 hy3;obtain⟨_,_,_,_,_,_,_,_,_,_,_,_,_,_,_,_,_,_,_,_,rfl,_,_,_,_,_,_,s14,_,_,_⟩:=qcn hr8;refine zp2 Z (zc 6 (hc4.below h.below) Z (zp1 Z ?_));obtain⟨y4,_,F,he2,_,_,_,_,hp2,hq2,hr9,hc5⟩:=s14.ix F;obtain rfl:=qaw hr9;refine zxe hp2 hq2 he2 Z (zp1 Z (zc 0 (hc5.below h.below) Z (X1 7 4 h Z ?_)));obtain⟨_,_,F,he3,_,_,_,_,hp3,hq3,rfl,hc6⟩:=s3.ix F;refine zxe hp3 hq3 he3 Z (zc 0 (hc6.below h.below) Z (qan (qi Z F ?_ ?_)))<;>intro F
  ·refine qZ (rA [] [4,5] h Z fun _ h=>M0 7 [0,1,2] (h.p [4,5] Z) Z (Al 3 15 0 hc3 (h.p [4,5] Z) Z (M2 511 [4,5,6,7,8] 1 0 (h.p [4,5] Z) Z ?_)));obtain⟨y6,_,F,he4,_,_,_,_,hp4,hq4,hr11,hc8⟩:=s5.ix F;obtain rfl:=qB hr11;refine Ae 9 1023 hp4 hq4 he4 (h.p [4,5] Z) Z (Al 10 2047 0 hc8 (h.p [4,5] Z) Z ?_);obtain⟨⟨Q,W⟩,t,F⟩:=qc F;refine qlc (fun e w'=>∃u v,e=[(0,.pointer (V ⟨b4,o_2,U⟩)),(11,vp l),(12,vp p),(13,vp s),(18,vi y4.Bm),(19,vp v),(20,vp u),(37,oS p6 r4.length k5),(38,vi (r4.length:Int)),(39,vi P),(6,vp i),(8,vp k)]/\SH w w' [oX u (qiL W) 102,oX v (qiL Q) 102,oW S5 (r4:List Int) [oS p6 r4.length k5],oX s [.bool b2] 4,oX p [vi X,vi Y,vi i8,vi i9,vi C] 128,oX l [vi 0,vi 0,vi 0,vi 0,vi 0] 128,oX k (qb2 g p3 p4 p5 k2 k3 k4) 111,oX i (qce f) 54]) 0 (bits 19 524287) ?_ ?_
   ·intro K;refine qsa 11 15 16 Z Z Z (bits 19 4095) (bits 19 34815) (bits 19 67583) (by kernel_rfl) (by kernel_rfl) (by kernel_rfl) (by kernel_rfl) ?_ ?_ ?_
    ·refine qaS (Q,W) h (cB 133 Z) (qfb (h.old s6) (h.old B) (qD y6) t) Z Z Z Z fun w54 M z d b=>?_;obtain⟨N,O,x,A,rfl,a,c⟩:=d.cons b;obtain rfl:=qB (a.sh.own 0 Z);obtain⟨y,rfl,h⟩:=a.last c;obtain rfl:=qB (h.own 0 Z);refine G0 32767 [12,13,14] (h.p [6,7] Z) Z (At 15 16 65535 98303 Z ?_ ?_)
     ·refine qq qa h Z Z Z fun H D h=>Ag (h.p [7,8] Z) (Ao 16 131071 Z (qq qa h Z Z Z fun I o h=>Ag (h.p [8,9] Z) (Ao 17 262143 Z (zs 1 h Z fun J h=>Ag (h.p [8,9] Z) (Ao 18 524287 Z (zs 0 h Z fun L h=>Ag (h.p [8,9] Z) ?_))))));replace h:=h.p [0,1,4,5,6,7,8,9] Z;exact aK K ⟨_,_,rfl,h⟩ Z
     refine qq qa h Z Z Z fun H D h=>Ag (h.p [7,8] Z) (Ao 15 131071 Z (qq qa h Z Z Z fun I o h=>Ag (h.p [8,9] Z) (Ao 17 262143 Z (zs 0 h Z fun J h=>Ag (h.p [8,9] Z) (Ao 18 524287 Z (zs 1 h Z fun L h=>Ag (h.p [8,9] Z) ?_))))));replace h:=h.p [1,0,4,5,6,7,8,9] Z;exact aK K ⟨_,_,rfl,h⟩ Z
    ·refine qq qa h Z Z Z fun w54 D h=>Ag (h.p [5,6] Z) (At 11 16 36863 100351 Z ?_ ?_)
     ·refine qaS (Q,W) h (cB 133 Z) (qfb (h.old s6) (h.old B) (qD y6) t) Z Z Z Z fun H M z d b=>?_;obtain⟨N,O,x,A,rfl,a,c⟩:=d.cons b;obtain rfl:=qB (a.sh.own 0 Z);obtain⟨y,rfl,h⟩:=a.last c;obtain rfl:=qB (h.own 0 Z);refine G0 65535 [12,13,14] (h.p [7,8] Z) Z (Ao 16 131071 Z (qq qa h Z Z Z fun I o h=>Ag (h.p [8,9] Z) (Ao 17 262143 Z (zs 3 h Z fun J h=>Ag (h.p [8,9] Z) (Ao 18 524287 Z (zs 0 h Z fun L h=>Ag (h.p [8,9] Z) ?_))))));replace h:=h.p [0,3,4,5,6,7,8,9] Z;exact aK K ⟨_,_,rfl,h⟩ Z
     refine qq qa h Z Z Z fun H o h=>Ag (h.p [6,7] Z) (Ao 11 102399 Z (qaS (Q,W) h (cB 133 Z) (qfb (h.old s6) (h.old B) (qD y6) t) Z Z Z Z fun I M z d b=>?_));obtain⟨N,O,x,A,rfl,a,c⟩:=d.cons b;obtain rfl:=qB (a.sh.own 0 Z);obtain⟨y,rfl,h⟩:=a.last c;obtain rfl:=qB (h.own 0 Z);refine G0 131071 [12,13,14] (h.p [8,9] Z) Z (Ao 17 262143 Z (zs 3 h Z fun J h=>Ag (h.p [8,9] Z) (Ao 18 524287 Z (zs 2 h Z fun L h=>Ag (h.p [8,9] Z) ?_))));replace h:=h.p [2,3,4,5,6,7,8,9] Z;exact aK K ⟨_,_,rfl,h⟩ Z
    refine qq qa h Z Z Z fun w54 D h=>Ag (h.p [5,6] Z) (At 11 15 69631 100351 Z ?_ ?_)
    ·refine qaS (Q,W) h (cB 133 Z) (qfb (h.old s6) (h.old B) (qD y6) t) Z Z Z Z fun H M z d b=>?_;obtain⟨N,O,x,A,rfl,a,c⟩:=d.cons b;obtain rfl:=qB (a.sh.own 0 Z);obtain⟨y,rfl,h⟩:=a.last c;obtain rfl:=qB (h.own 0 Z);refine G0 98303 [12,13,14] (h.p [7,8] Z) Z (Ao 15 131071 Z (qq qa h Z Z Z fun I o h=>Ag (h.p [8,9] Z) (Ao 17 262143 Z (zs 0 h Z fun J h=>Ag (h.p [8,9] Z) (Ao 18 524287 Z (zs 3 h Z fun L h=>Ag (h.p [8,9] Z) ?_))))));replace h:=h.p [3,0,4,5,6,7,8,9] Z;exact aK K ⟨_,_,rfl,h⟩ Z
    refine qq qa h Z Z Z fun H o h=>Ag (h.p [6,7] Z) (Ao 11 102399 Z (qaS (Q,W) h (cB 133 Z) (qfb (h.old s6) (h.old B) (qD y6) t) Z Z Z Z fun I M z d b=>?_));obtain⟨N,O,x,A,rfl,a,c⟩:=d.cons b;obtain rfl:=qB (a.sh.own 0 Z);obtain⟨y,rfl,h⟩:=a.last c;obtain rfl:=qB (h.own 0 Z);refine G0 131071 [12,13,14] (h.p [8,9] Z) Z (Ao 17 262143 Z (zs 2 h Z fun J h=>Ag (h.p [8,9] Z) (Ao 18 524287 Z (zs 3 h Z fun L h=>Ag (h.p [8,9] Z) ?_))));replace h:=h.p [3,2,4,5,6,7,8,9] Z;exact aK K ⟨_,_,rfl,h⟩ Z
   rintro _ _ ⟨u,v,rfl,h⟩;refine Ad (rA [] [0,1,6] h Z fun _ h=>M1 7 [0,1,2] 2 (h.p [0,1,6] Z) Z ?_);obtain⟨y9,_,F,he7,_,_,_,_,hp7,hq7,hr40,hc11⟩:=s4.ix F;obtain rfl:=qB hr40;refine Ae 3 15 hp7 hq7 he7 (h.p [0,1,6] Z) Z (Al 4 31 0 hc11 (h.p [0,1,6] Z) Z (M2 191 [5,7] 1 0 (h.p [0,1,6] Z) Z (Ao 6 255 Z (zcO h F (qqv (qD y9) (qD Q)) Z fun r10 _ S36 _ h F=>?_))));obtain rfl:=qB (h.own 0 Z);refine Ag (h.p [1,2,7] Z) (Ao 8 511 Z ?_);replace h:=h.p [4,5,0,1,2,3,6,7,8] Z;obtain⟨⟨x7,x8⟩,hr42,F⟩:=qc F;refine qmF (cB 220 Z) (qkE h hr42) Z Z Z Z fun _ h=>?_;replace h:SH _ _ [oX s [.bool x8] 4,oX p (qgB x7) 128,oW S36 (r10:qe) (qiL r10),oX u (qiL W) 102,oX v (qiL Q) 102,oW S5 (r4:List Int) [oS p6 r4.length k5],oX l [vi 0,vi 0,vi 0,vi 0,vi 0] 128,oX k (qb2 g p3 p4 p5 k2 k3 k4) 111,oX i (qce f) 54]:=h;refine Ag (h.p [3,4,7] Z) (Ad (X0 5 Z ?_));replace h:=h.p [5,0,1,6,7,8] Z;exact rK ⟨_,_,_,_,_,_,_,F,rfl,h⟩ Z
  exact X0 6 Z (rK ⟨_,_,_,_,_,_,_,F,rfl,h⟩ Z)
 refine qt Z ?_;obtain rfl:=qb F;replace F:=hK1;refine X1 6 1 h Z (qi Z F ?_ ?_)<;>intro F
 ·refine zSR (r_v (qH qa [] [] Z Z Z Z Z Z Z Z) Z (zp1 Z (zs 3 h Z fun _ h=>qan ?_)));obtain rfl:=qb F;exact qac qa (ρ:=(Bool×qf)) [oV Bool [.bool false],oV qf [vi 0,vi 0,vi 0,vi 0,vi 0]] h ⟨rfl,⟨_,_,_,rfl,rfl,h.box 3 Z,rfl⟩,G⟩ (PV.done h (qao h (qv (S:=fun _=>False) Z) (qae (qv (S:=fun _=>False) (qaG (⟨0,(⟨0,0⟩:qe),(⟨0,0⟩:qe)⟩:qf)))) (by rfl)))
 refine zKS (rA [] [2] h Z fun _ h=>M1 3 [0,1] 0 (h.p [2] Z) Z (Ao 2 7 Z (zs 3 h Z fun _ h=>Ag (h.p [2] Z) (Ad ?_))));obtain rfl:=qb F;exact qac qa (ρ:=(Bool×qf)) [oV Bool [.bool true],oV qf [vi X,vi Y,vi i8,vi i9,vi C]] h ⟨rfl,⟨_,_,_,rfl,rfl,h.box 3 Z,rfl⟩,G⟩ (PV.done h (qao h (qv (S:=fun _=>False) Z) (qae (qv (S:=fun _=>False) (qaG (⟨X,(⟨Y,i8⟩:qe),(⟨i9,C⟩:qe)⟩:qf)))) (by rfl)))
def qa1(g:(Option Tgraph))(c:qu)(h:(List qf))(order:(List Int)):Nat->(List qe)->(List qe)->(List Bool)->Int->Option (Flow (qr×Bool) ((List qe)×(List qe)×(List Bool)×Int))|0,_,_,_,_=>U|n+1,x1,b,x3,i1=>bif decide (i1<(order.length:Int)) then(idx order i1).bind fun a=>(qdW n g c h (⟨x3,b,x1⟩:qr) a).bind fun(d,r4)=>(bif d then(qhW n (⟨r4.Ah.Ba,r4.Ah.Bg⟩:qe)).bind fun f=>V (!f) else V false).bind fun b3=>bif b3 then V (.ret ((⟨[],[],[]⟩:qr),false)) else(idx x3 a).bind fun _=>(idx b a).bind fun _=>(idx x1 a).bind fun _=>qa1 g c h order n (setS x1 a (⟨r4.Be.Ba,r4.Be.Bg⟩:qe)) (setS b a (⟨r4.Ah.Ba,r4.Ah.Bg⟩:qe)) (setS x3 a d) (W64 (i1+1)) else V (.nxt (x1,b,x3,i1))
def qfB(n:Nat)(g:(Option Tgraph))(c:qu)(f:(List qf))(order:(List Int)):Option (qr×Bool):=(g).bind fun d=>(qio n d.view).bind fun a=>(qa1 g c f order n a.Be a.Ah a.Bb 0).bind fun|.ret r=>V r|.nxt (x1,b,x3,_)=>V ((⟨x3,b,x1⟩:qr),true)
theorem qno{g:(Option Tgraph)}{c:qu}{c3:(List qf)}{order:(List Int)}(Q:Ro w g cs1)(A:Ro w c cs2)(R:Ro w c3 cs3)(T:Ro w order cs4){r:(qr×Bool)}(F:qfB n g c c3 order=V r):RetV prog 109 [oV (Option Tgraph) cs1,oV qu cs2,oV (List qf) cs3,oV (List Int) cs4] w r:=by
 obtain⟨_,rfl,s1⟩:=qaA Q;obtain rfl:=qaL A;obtain⟨p2,k1,rfl,s2⟩:=R;obtain⟨p3,k2,rfl,s3⟩:=T;refine zV 62 func109 Z fun h=>zSR (qw h Z Z fun _ b h=>qq qa h Z Z Z fun _ d h=>X0 5 Z ?_);obtain⟨_,b9,F⟩:=qc F;obtain⟨b1,O,_,rfl,-,a8,W⟩:=PtR.get s1 b9;obtain⟨_,_,_,rfl,s4,_⟩:=qeG a8;refine zp2 Z (zc 0 (W.below h.below) Z (zcO h F (qnx (h.old s4)) Z fun a _ _ _ h F=>?_));obtain⟨s,p,l,i,o,k,rfl,-,-,-⟩:=qdd (h.own 0 Z);refine qq qa h Z Z Z fun _ f h=>zs 0 h Z fun _ h=>X0 8 Z ?_;replace h:=h.p [1,0,2,3] Z;obtain⟨S2,S3,S4,h⟩:=qhh h;obtain⟨o1,F,x⟩:=qc F;refine qm (rL (fun m e w'=>∃x1 u x3 i1,qa1 g c c3 order m x1 u x3 i1=V o1/\e=[(0,.pointer (V ⟨b1,O,U⟩)),(2,oS p2 c3.length k1),(5,vp b),(8,vp d),(10,vp f),(20,oS p3 order.length k2),(21,vi (order.length:Int)),(22,vi i1)]/\SH w w' [oW S4 (x1:List qe) [oS o a.Be.length k],oW S3 (u:List qe) [oS l a.Ah.length i],oW S2 (x3:List Bool) [oS s a.Bb.length p],oX f (qb2 a s l o p i k) 111,oX d [oS U 0 0,oS U 0 0,oS U 0 0] 111,oX b (qce c) 54]) n ⟨_,_,_,_,F,rfl,h⟩ Z ?_);rintro m1 _ _ ⟨x1,u,x3,i1,F,rfl,h⟩;rcases m1 with _|m1
 ·cases F
 refine X0 5 Z (qi Z F ?_ ?_)<;>intro F
 ·refine zKSBSR ?_;obtain⟨y2,_,F,a5,_,_,_,_,a6,a7,rfl,X⟩:=s3.ix F;refine zxe a6 a7 a5 Z (zc 0 (X.below h.below) Z (X2 9 5 3 h Z ?_));obtain⟨⟨r3,r4⟩,a9,F⟩:=qc F;refine qaS (r3,r4) h (cB 162 Z) (qni (h.old s1) (h.old A) ⟨_,_,rfl,(h.oldS s2)⟩ (show GoT.R _ _ ((⟨x3,u,x1⟩:qr):qr) _ from⟨[oS s a.Bb.length p],[oS l a.Ah.length i,oS o a.Be.length k],rfl,(h.own 2 Z),⟨[oS l a.Ah.length i],[oS o a.Be.length k],rfl,(h.own 1 Z),(h.own 0 Z)⟩⟩) a9) Z Z Z Z fun _ _ _ b7 b4=>?_;obtain⟨_,_,rfl,b8,b5⟩:=b7.consB b4;obtain⟨_,rfl,h⟩:=b8.last b5;obtain rfl:=qF (h.own 0 Z);refine zp3 Z (qq qa h Z Z Z fun _ v h=>zp1 Z (zs 0 h Z fun _ h=>zNSS ?_));obtain⟨P,z,_,F,y⟩:=bindE F;refine qa0 (fun e w'=>∃b3,P b3=V o1/\e=[(0,.pointer (V ⟨b1,O,U⟩)),(2,oS p2 c3.length k1),(5,vp b),(8,vp d),(10,vp f),(12,vi y2),(13,.bool r3),(14,vp v),(20,oS p3 order.length k2),(21,vi (order.length:Int)),(22,vi i1),(41,.bool b3)]/\SH w w' [oX v (qgB r4) 128,oW S4 (x1:List qe) [oS o a.Be.length k],oW S3 (u:List qe) [oS l a.Ah.length i],oW S2 (x3:List Bool) [oS s a.Bb.length p],oX f (qb2 a s l o p i k) 111,oX d [oS U 0 0,oS U 0 0,oS U 0 0] 111,oX b (qce c) 54]) ?_ ?_
  ·refine X0 3 Z (qn (t:=36) F Z ?_ ?_)<;>intro F
   ·refine X1 5 0 h Z (zcB h F (qjG (qD _)) Z fun _ _ h F=>X0 4 Z ?_);replace h:=h.p [0,2,3,4,5,6,7] Z;obtain rfl:=qb F;exact rG ⟨_,y,rfl,h⟩ Z
   refine X0 6 Z ?_;replace h:=h.p [0,2,3,4,5,6,7] Z;obtain rfl:=qb F;exact rG ⟨_,y,rfl,h⟩ Z
  rintro _ _ ⟨b3,F,rfl,h⟩;subst z;refine qi Z F ?_ ?_<;>intro F
  ·refine zSR (r_v (qH qa [] [] Z Z Z Z Z Z Z Z) Z (zs 5 h Z fun _ h=>X0 2 Z ?_));obtain rfl:=qb F;replace F:=x;obtain rfl:=qb F;exact qac qa (ρ:=(qr×Bool)) [oV qr [oS U 0 0,oS U 0 0,oS U 0 0],oV Bool [.bool false]] h ⟨⟨_,_,_,rfl,rfl,h.box 5 Z,rfl⟩,rfl,G⟩ (PV.done h (qao h (qgN (⟨[],[],[]⟩:qr) h qhl qhl qhl (by rfl) (by rfl)) (qae (qv (S:=fun _=>False) Z)) (by rfl)))
  refine qcI (rA [] [0,4] h Z fun _ h=>M4 8191 [0,1,2,3,4,5,6,7,8,9,10,11,12] 1 1 1 0 (h.p [0,4] Z) Z (M1 16383 [13] 0 (h.p [0,4] Z) Z ?_));obtain⟨_,c0,F,B,_,_,_,_,H,K,rfl,Y⟩:=(h.sl 3 Z).1.ix F;refine Ax 14 32767 H K ⟨B.1,qC B.2.1 (h.sl 3 Z).2⟩ (h.p [0,4] Z) Z (Ao 15 65535 Z (qax qa 3 0 r3 h Z c0 H K Z Y Z Z Z Z Z Z Z fun _ h=>Ag (h.p [0,4] Z) ?_));obtain⟨y4,c1,F,C,_,_,_,_,I,L,b6,a3⟩:=(h.sl 2 Z).1.ix F;obtain rfl:=qB b6;refine Ax 16 131071 I L ⟨C.1,qC C.2.1 (h.sl 2 Z).2⟩ (h.p [0,4] Z) Z (Ao 17 262143 Z (qax qa 2 0 (⟨r4.Ah.Ba,r4.Ah.Bg⟩:qe) h Z c1 I L (qD y4) a3 Z Z Z (qD (⟨r4.Ah.Ba,r4.Ah.Bg⟩:qe)) Z Z Z fun _ h=>Ag (h.p [0,4] Z) ?_));obtain⟨y5,c2,F,D,_,_,_,_,J,M,N,a4⟩:=(h.sl 1 Z).1.ix F;obtain rfl:=qB N;refine Ax 18 524287 J M ⟨D.1,qC D.2.1 (h.sl 1 Z).2⟩ (h.p [0,4] Z) Z (Ao 19 1048575 Z (qax qa 1 0 (⟨r4.Be.Ba,r4.Be.Bg⟩:qe) h Z c2 J M (qD y5) a4 Z Z Z (qD (⟨r4.Be.Ba,r4.Be.Bg⟩:qe)) Z Z Z fun _ h=>Ag (h.p [0,4] Z) (Ad (X0 5 Z ?_))));replace h:=h.p [1,2,3,4,5,6] Z;exact rK ⟨_,_,_,_,F,rfl,h⟩ Z
 refine qt Z ?_;obtain rfl:=qb F;replace F:=x;refine X1 3 3 h Z (zs 4 h Z fun _ h=>X0 2 Z ?_);obtain rfl:=qb F;exact qac qa (ρ:=(qr×Bool)) [oV qr (qb2 a s l o p i k),oV Bool [.bool true]] h ⟨⟨_,_,_,rfl,rfl,h.box 4 Z,rfl⟩,rfl,G⟩ (PV.done h (qao h (qgN (⟨x3,u,x1⟩:qr) h (qab 2 h Z) (qab 1 h Z) (qab 0 h Z) (by rfl) (by rfl)) (qae (qv (S:=fun _=>False) Z)) (by rfl)))
def qkG(n:Nat)(j:qay):Option ((Option Twork)×Int):=(qgv n (⟨(⟨j.Ac.Au.Ay⟩:qp),(⟨j.Ac.Aa.Ab,j.Ac.Aa.As,j.Ac.Aa.Ak⟩:qd),j.Ac.Ai⟩:qh) (⟨j.Af.Bd,j.Af.Am,j.Af.Ar,j.Af.Aj,j.Af.Ap⟩:qu) j.Av j.Aq U).bind fun(a,b,r4)=>bif (r4 != 0) then V (U,r4) else(qfB n a (⟨j.Af.Bd,j.Af.Am,j.Af.Ar,j.Af.Aj,j.Af.Ap⟩:qu) j.Aq b).bind fun(c,d)=>bif (!d) then V (U,3) else V ((V (⟨a,(⟨(⟨(⟨j.Ac.Au.Ay⟩:qp),(⟨j.Ac.Aa.Ab,j.Ac.Aa.As,j.Ac.Aa.Ak⟩:qd),j.Ac.Ai⟩:qh),(⟨j.Af.Bd,j.Af.Am,j.Af.Ar,j.Af.Aj,j.Af.Ap⟩:qu),j.Av,j.Aq⟩:qay),c,b⟩:Twork)),0)
theorem qs6{A}(hA:∀b,A b->old w b){j:qay}(g:GoT.R w A j cs1){r:((Option Twork)×Int)}(F:qkG n j=V r):RetG prog 66 [oV qay cs1] w A r:=by
 obtain⟨R,Q,z,y,u,k3,v,o,J,D,K,H,L,I,rfl,s1,s2,s3,s4,s5,s6,s7⟩:=qdj g;have hg:=Rg.start hA;refine qeE func66 Z (m:=43) Z Z (fun h=>?_);refine zSR (qw h Z Z fun _ _ h=>X4 13 0 0 0 0 h Z ?_);obtain⟨⟨M,f,r4⟩,S,F⟩:=qc F;refine qlb (M,f,r4) hg h (cB 108 Z) (qpk (hg.regOld h) (qdM _ (hg.inS h s1) (hg.inS h s2) (hg.inS h s3) (hg.inS h s4) (hg.inS h s5)) (qd4 _) ⟨_,_,rfl,(hg.inS h s6)⟩ ⟨_,_,rfl,(hg.inS h s7)⟩ Z S) Z Z Z Z fun _ _ _ a c b5 a4=>?_;have hL1:=h.ext c.below;have i:=Up.box 0 h c Z;have s8:=Up.S hg h c s1;have s9:=Up.S hg h c s2;have s10:=Up.S hg h c s3;have s11:=Up.S hg h c s4;have s12:=Up.S hg h c s5;have s13:=Up.S hg h c s6;have N:=Up.S hg h c s7;have s15:=Up.R hg h c g;have ha2:=Up.boxP (x:=j) hg 0 h c Z (hg.inR h g);have hb1:=h.below.trans (c.below.mono h.below.size);replace h:=b5;obtain⟨_,_,rfl,T,a5⟩:=qlx a4;obtain⟨p8,rfl,O⟩:=qaA T;obtain⟨_,_,rfl,W,a6⟩:=qlx a5;obtain⟨p9,k8,rfl,P⟩:=W;obtain⟨_,rfl,X⟩:=qj1 a6;obtain rfl:=X;refine X0 14 Z (qi Z F ?_ ?_)<;>intro F
 ·refine X0 6 Z ?_;obtain rfl:=qb F;have a7:GoRs.Rs (ρ:=((Option Twork)×Int)) h.wc (reg A w h.wc) (U,r4) [oV (Option Twork) [.pointer U],oV Int [vi r4]]:=⟨_,_,rfl,rfl,⟨_,rfl,rfl⟩⟩;exact qdE qa (ρ:=((Option Twork)×Int)) (r:=(U,r4)) [oV (Option Twork) [.pointer U],oV Int [vi r4]] (h.unbase a.below (show NoD [] from trivial)) ⟨rfl,rfl,G⟩ a7
 refine X0 5 Z (zc 5 (i.below h.below) Z (zp1 Z (zc 11 (i.below h.below) Z (zp1 Z ?_))));obtain⟨⟨d,r7⟩,Y,F⟩:=qc F;refine qaS (d,r7) h (cB 109 Z) (qno (h.old (GoT.mono O a.old)) (qd4 _) ⟨_,_,rfl,(h.oldS (N.mono a.old))⟩ ⟨_,_,rfl,(h.oldS (P.mono a.old))⟩ Y) Z Z Z Z fun _ _ _ a8 e=>?_;obtain⟨_,_,_,_,rfl,C,a3⟩:=a8.cons e;obtain⟨p,k9,s,k,t,l,rfl,-,-,-⟩:=qdd (C.sh.own 0 Z);obtain⟨rfl,h⟩:=C.lastB a3;refine zp3 Z (qq qa h Z Z Z fun _ _ h=>zs 0 h Z fun _ h=>X0 8 Z (qi Z F ?_ ?_))<;>intro F
 ·refine X0 5 Z ?_;obtain rfl:=qb F;have a9:GoRs.Rs (ρ:=((Option Twork)×Int)) h.wc (reg A w h.wc) (U,3) [oV (Option Twork) [.pointer U],oV Int [vi 3]]:=⟨_,_,rfl,rfl,⟨_,rfl,rfl⟩⟩;exact qdE qa (ρ:=((Option Twork)×Int)) (r:=(U,3)) [oV (Option Twork) [.pointer U],oV Int [vi 3]] (h.unbase a.below ⟨fun _ h=>h,⟨fun _ h=>h,G⟩⟩) ⟨rfl,rfl,G⟩ a9
 refine X0 4 Z (zc 0 (i.below h.below) Z (X1 2 0 h Z (r_v (qH qa [0,1,2,3] [.tmp 37,.tmp 38,.tmp 39,.tmp 40] Z Z Z Z Z Z Z Z) Z (qw h Z Z fun _ B h=>X0 3 Z ?_))));obtain rfl:=qb F;have b4:GoRs.Rs (ρ:=((Option Twork)×Int)) h.wc (reg A w h.wc) ((V (⟨M,(⟨(⟨(⟨j.Ac.Au.Ay⟩:qp),(⟨j.Ac.Aa.Ab,j.Ac.Aa.As,j.Ac.Aa.Ak⟩:qd),j.Ac.Ai⟩:qh),(⟨j.Af.Bd,j.Af.Am,j.Af.Ar,j.Af.Aj,j.Af.Ap⟩:qu),j.Av,j.Aq⟩:qay),d,f⟩:Twork)),0) [oV (Option Twork) [vp B],oV Int [vi 0]]:=⟨_,_,rfl,(a.outR h (Rg.boxR (x:=(⟨M,(⟨(⟨(⟨j.Ac.Au.Ay⟩:qp),(⟨j.Ac.Aa.Ab,j.Ac.Aa.As,j.Ac.Aa.Ak⟩:qd),j.Ac.Ai⟩:qh),(⟨j.Af.Bd,j.Af.Am,j.Af.Ar,j.Af.Aj,j.Af.Ap⟩:qu),j.Av,j.Aq⟩:qay),d,f⟩:Twork)) 0 h Z (show GoT.R _ _ ((⟨M,(⟨(⟨(⟨j.Ac.Au.Ay⟩:qp),(⟨j.Ac.Aa.Ab,j.Ac.Aa.As,j.Ac.Aa.Ak⟩:qd),j.Ac.Ai⟩:qh),(⟨j.Af.Bd,j.Af.Am,j.Af.Ar,j.Af.Aj,j.Af.Ap⟩:qu),j.Av,j.Aq⟩:qay),d,f⟩:Twork):Twork) _ from⟨[.pointer p8],[oS R j.Ac.Au.Ay.length Q,oS z j.Ac.Aa.Ab.length y,oS u j.Ac.Aa.As.length k3,oS v j.Ac.Aa.Ak.length o,oS J j.Ac.Ai.length D,.string j.Af.Bd,vi j.Af.Am,vi j.Af.Ar,vi j.Af.Aj,vi j.Af.Ap,oS K j.Av.length H,oS L j.Aq.length I,oS p d.Bb.length k9,oS s d.Ah.length k,oS t d.Be.length l,oS p9 f.length k8],rfl,(a.inR h O),⟨[oS R j.Ac.Au.Ay.length Q,oS z j.Ac.Aa.Ab.length y,oS u j.Ac.Aa.As.length k3,oS v j.Ac.Aa.Ak.length o,oS J j.Ac.Ai.length D,.string j.Af.Bd,vi j.Af.Am,vi j.Af.Ar,vi j.Af.Aj,vi j.Af.Ap,oS K j.Av.length H,oS L j.Aq.length I],[oS p d.Bb.length k9,oS s d.Ah.length k,oS t d.Be.length l,oS p9 f.length k8],rfl,⟨[oS R j.Ac.Au.Ay.length Q,oS z j.Ac.Aa.Ab.length y,oS u j.Ac.Aa.As.length k3,oS v j.Ac.Aa.Ak.length o,oS J j.Ac.Ai.length D],[.string j.Af.Bd,vi j.Af.Am,vi j.Af.Ar,vi j.Af.Aj,vi j.Af.Ap,oS K j.Av.length H,oS L j.Aq.length I],rfl,⟨[oS R j.Ac.Au.Ay.length Q],[oS z j.Ac.Aa.Ab.length y,oS u j.Ac.Aa.As.length k3,oS v j.Ac.Aa.Ak.length o,oS J j.Ac.Ai.length D],rfl,⟨_,_,rfl,(a.inS h s8)⟩,⟨[oS z j.Ac.Aa.Ab.length y,oS u j.Ac.Aa.As.length k3,oS v j.Ac.Aa.Ak.length o],[oS J j.Ac.Ai.length D],rfl,⟨[oS z j.Ac.Aa.Ab.length y],[oS u j.Ac.Aa.As.length k3,oS v j.Ac.Aa.Ak.length o],rfl,⟨_,_,rfl,(a.inS h s9)⟩,⟨[oS u j.Ac.Aa.As.length k3],[oS v j.Ac.Aa.Ak.length o],rfl,⟨_,_,rfl,(a.inS h s10)⟩,⟨_,_,rfl,(a.inS h s11)⟩⟩⟩,⟨_,_,rfl,(a.inS h s12)⟩⟩⟩,⟨[.string j.Af.Bd,vi j.Af.Am,vi j.Af.Ar,vi j.Af.Aj,vi j.Af.Ap],[oS K j.Av.length H,oS L j.Aq.length I],rfl,⟨[.string j.Af.Bd],[vi j.Af.Am,vi j.Af.Ar,vi j.Af.Aj,vi j.Af.Ap],rfl,rfl,⟨[vi j.Af.Am],[vi j.Af.Ar,vi j.Af.Aj,vi j.Af.Ap],rfl,rfl,⟨[vi j.Af.Ar],[vi j.Af.Aj,vi j.Af.Ap],rfl,rfl,⟨[vi j.Af.Aj],[vi j.Af.Ap],rfl,rfl,rfl⟩⟩⟩⟩,⟨[oS K j.Av.length H],[oS L j.Aq.length I],rfl,⟨_,_,rfl,(a.inS h s13)⟩,⟨_,_,rfl,(a.inS h N)⟩⟩⟩⟩,⟨[oS p d.Bb.length k9,oS s d.Ah.length k,oS t d.Be.length l],[oS p9 f.length k8],rfl,(Rg.ownR 2 h Z),⟨_,_,rfl,(a.inS h P)⟩⟩⟩⟩))),⟨_,rfl,rfl⟩⟩;exact qdE qa (ρ:=((Option Twork)×Int)) (r:=((V (⟨M,(⟨(⟨(⟨j.Ac.Au.Ay⟩:qp),(⟨j.Ac.Aa.Ab,j.Ac.Aa.As,j.Ac.Aa.Ak⟩:qd),j.Ac.Ai⟩:qh),(⟨j.Af.Bd,j.Af.Am,j.Af.Ar,j.Af.Aj,j.Af.Ap⟩:qu),j.Av,j.Aq⟩:qay),d,f⟩:Twork)),0)) [oV (Option Twork) [vp B],oV Int [vi 0]] (h.unbase a.below ⟨fun _ h=>h,⟨fun _ h=>h,⟨fun _ h=>h,G⟩⟩⟩) ⟨rfl,rfl,G⟩ b4
def qmq(_:Nat)(mode:Int):Option Bool:=bif (mode==0) then V true else V (mode==1)
theorem qs0{mode}  {r:Bool}(F:qmq n mode=V r):RetV prog 69 [vi mode] w r:=by
 refine zV 9 func69 Z fun h=>X0 9 Z (qn (t:=5) F Z ?_ ?_)<;>intro F
 ·exact X0 5 Z (rb h F Z)
 exact X0 7 Z (rb h F Z)
def qcD(n:Nat)(j:qay)(mode:Int)(nodes:(List Int)):Option ((Option Twork)×Int):=(qkG n j).bind fun(a,b)=>bif (b != 0) then V (U,b) else(a).bind fun f=>(f.graph).bind fun g=>(qcb n g.view).bind fun r4=>(qb6 n nodes 0 (W64 (r4-1))).bind fun c=>bif (!c) then V (U,4) else(qmq n mode).bind fun d=>bif (!d) then V (U,2) else V (a,0)
theorem qrC{A}(T:∀b,A b->old w b){j:qay}{mode}{nodes:(List Int)}(d:GoT.R w A j cs1)(k:GoT.R w A nodes cs2){r:((Option Twork)×Int)}(F:qcD n j mode nodes=V r):RetG prog 31 [oV qay cs1,vi mode,oV (List Int) cs2] w A r:=by
 obtain⟨_,_,_,_,_,_,_,_,_,_,_,_,_,_,rfl,_,_,_,_,_,_,_⟩:=qdj d;obtain⟨_,_,rfl,Q⟩:=k;have S:=Rg.start T;refine qeE func31 Z (m:=37) Z Z (fun h=>?_);refine zSR (qw h Z Z fun _ _ h=>X1 6 0 h Z ?_);obtain⟨⟨K,g⟩,p,F⟩:=qc F;refine qlb (K,g) S h (cB 66 Z) (qs6 (S.regOld h) (S.inR h d) p) Z Z Z Z fun _ _ _ a c J x=>?_;have N:=h.ext c.below;have R:=Up.S S h c Q;have O:=h.below.trans (c.below.mono h.below.size);replace h:=J;obtain⟨_,_,rfl,s,y⟩:=qlx x;obtain⟨_,rfl,i⟩:=qaA s;obtain⟨_,rfl,t⟩:=qj1 y;obtain rfl:=t;refine X0 14 Z (qi Z F ?_ ?_)<;>intro F
 ·refine X0 6 Z ?_;obtain rfl:=qb F;have z:GoRs.Rs (ρ:=((Option Twork)×Int)) h.wc (reg A w h.wc) (U,g) [oV (Option Twork) [.pointer U],oV Int [vi g]]:=⟨_,_,rfl,rfl,⟨_,rfl,rfl⟩⟩;exact qdE qa (ρ:=((Option Twork)×Int)) (r:=(U,g)) [oV (Option Twork) [.pointer U],oV Int [vi g]] (h.unbase a.below (show NoD [] from trivial)) ⟨rfl,rfl,G⟩ z
 refine X0 4 Z ?_;obtain⟨_,H,F⟩:=qc F;obtain⟨b1,f,_,rfl,-,u,l⟩:=PtR.get i H;obtain⟨_,_,_,_,_,_,_,_,_,_,_,_,_,_,_,_,_,_,_,_,_,_,_,rfl,L,_,_,_,_,_,_,_,_,_,_,_⟩:=qnV u;refine zp2 Z (zc 0 (l.below h.below) Z ?_);obtain⟨_,I,F⟩:=qc F;obtain⟨_,P,_,rfl,-,v,o⟩:=PtR.get L I;obtain⟨_,_,_,rfl,M,_⟩:=qeG v;refine zp2 Z (zc 0 (o.below h.below) Z (zcI h F (qdJ (h.old (GoT.mono M a.old))) Z fun _ _ h F=>zp1 Z (zcB h F (qct ⟨_,_,rfl,(h.oldS (R.mono a.old))⟩) Z fun _ _ h F=>X0 3 Z (qi Z F ?_ ?_))))<;>intro F
 ·refine X0 5 Z ?_;obtain rfl:=qb F;have B:GoRs.Rs (ρ:=((Option Twork)×Int)) h.wc (reg A w h.wc) (U,4) [oV (Option Twork) [.pointer U],oV Int [vi 4]]:=⟨_,_,rfl,rfl,⟨_,rfl,rfl⟩⟩;exact qdE qa (ρ:=((Option Twork)×Int)) (r:=(U,4)) [oV (Option Twork) [.pointer U],oV Int [vi 4]] (h.unbase a.below (show NoD [] from trivial)) ⟨rfl,rfl,G⟩ B
 refine X0 3 Z (zcB h F qs0 Z fun _ _ h F=>X0 3 Z (qi Z F ?_ ?_))<;>intro F
 ·refine X0 5 Z ?_;obtain rfl:=qb F;have C:GoRs.Rs (ρ:=((Option Twork)×Int)) h.wc (reg A w h.wc) (U,2) [oV (Option Twork) [.pointer U],oV Int [vi 2]]:=⟨_,_,rfl,rfl,⟨_,rfl,rfl⟩⟩;exact qdE qa (ρ:=((Option Twork)×Int)) (r:=(U,2)) [oV (Option Twork) [.pointer U],oV Int [vi 2]] (h.unbase a.below (show NoD [] from trivial)) ⟨rfl,rfl,G⟩ C
 refine X0 8 Z ?_;obtain rfl:=qb F;have D:GoRs.Rs (ρ:=((Option Twork)×Int)) h.wc (reg A w h.wc) (K,0) [oV (Option Twork) [.pointer (V ⟨b1,f,U⟩)],oV Int [vi 0]]:=⟨_,_,rfl,(a.outR h (a.inR h i)),⟨_,rfl,rfl⟩⟩;exact qdE qa (ρ:=((Option Twork)×Int)) (r:=(K,0)) [oV (Option Twork) [.pointer (V ⟨b1,f,U⟩)],oV Int [vi 0]] (h.unbase a.below (show NoD [] from trivial)) ⟨rfl,rfl,G⟩ D
end Go.Fw


namespace Go.Fw
open Go
set_option maxRecDepth 100000
theorem quN{n m:Nat}{a b mode:Int}:qfA n a b mode=qcO m a b mode:=by
 unfold qfA qcO;cases quoS a b with
 |none=>rfl
 |some y1=>
  cases remS a b with
  |none=>rfl
  |some y2=>
   simp only[jd];generalize decide (y2<0)=p;generalize decide (y2 > 0)=q;generalize (mode==0)=m0;generalize (mode==1)=m1;cases p<;>cases q<;>cases m0<;>cases m1<;>rfl
theorem qy5{a b:Int}(f:0<b):-(if a<0 then -a else a)<=a.tdiv b/\a.tdiv b<=(if a<0 then -a else a):=by
 by_cases h:a<0
 ·rw[if_pos h];have e:a.tdiv b=-((-a).tdiv b):=by rw[Int.neg_tdiv,Int.neg_neg]
  rw[e,jN (show 0<=-a by omega)];have c:=Int.ediv_nonneg (show 0<=-a by omega) (show 0<=b by omega);have d:=Int.ediv_le_self (a:=-a) b (by omega);omega
 ·rw[if_neg h,jN (by omega)];have c:=Int.ediv_nonneg (show 0<=a by omega) (show 0<=b by omega);have d:=Int.ediv_le_self (a:=a) b (by omega);omega
theorem qlY{n:Nat}{a b mode:Int}(d:0<b)(g:-9000000000000000000<=a)(h:a<=9000000000000000000):qcO n a b mode=V (divI a b mode):=by
 have c:=qy5 (a:=a) d;have i:-9000000000000000000<=a.tdiv b/\a.tdiv b<=9000000000000000000:=by
  revert c;split<;>intro c<;>omega
 unfold qcO quoS remS divI;rw[if_neg (by omega),if_neg (by omega)];have f:IntKind.i64.wrap (a.tdiv b)=a.tdiv b:=qM (by omega) (by omega);simp only[f,jd];rw[wO (a.tdiv b-1),wO (a.tdiv b+1)];generalize decide (a.tmod b<0)=p;generalize decide (a.tmod b > 0)=q;generalize (mode==0)=m0;generalize (mode==1)=m1;cases p<;>cases q<;>cases m0<;>cases m1<;>rfl
theorem quD{a b mode M:Int}(d:0<b)(c:0<=a)(h:a<=b*M):0<=divI a b mode/\divI a b mode<=M:=by
 rw[qu1 c d];have e:=Int.emod_add_mul_ediv a b;have k:=Int.emod_nonneg a (show b≠0 by omega);have g:=Int.ediv_nonneg c (show 0<=b by omega);have i:a / b<=M:=Int.ediv_le_of_le_mul d (by rw[Int.mul_comm];exact h);split
 ·rename_i hc
  refine⟨by omega,?_⟩;have:a / b<M:=by
   refine Int.lt_of_not_ge fun l=>?_;have f:a / b=M:=by omega
   rw[f] at e;omega
  omega
 ·exact⟨g,i⟩
structure AxOk(ax:List Int):Prop where
 lo:1<=ax.length
 hi:ax.length<=4
 at_:∀j,j<ax.length->0<=at0 ax j/\at0 ax j<=100000
 inc:∀j i,i<j->j<ax.length->at0 ax i<at0 ax j
theorem qv3{b:List Int}(h:axisB b=true):AxOk b:=by
 unfold axisB lenB incB at h;simp only[jf,decide_eq_true_eq] at h;obtain⟨⟨m,n⟩,k,l⟩:=h;rw[qhC (d:=0),qau] at k;rw[qau] at l;refine⟨m,n,fun j f=>by have:=k j f;rw[qbi] at this;exact this,fun j=>?_⟩
 induction j with
 |zero=>intro i hi _;omega
 |succ j ih=>
  intro i hi f;have a:=l (j+1) f;unfold stepB at a;simp only[Bool.or_eq_true,decide_eq_true_eq,Nat.add_sub_cancel] at a;have g:at0 b j<at0 b (j+1):=by
   rcases a with a|a
   ·omega
   ·exact a
  by_cases c:i=j
  ·rw[c];exact g
  ·have:=ih i (by omega) (by omega);omega
theorem least{P:Nat->Prop}:∀m,P m->∃p,p<=m/\P p/\∀k,k<p->¬ P k:=by
 intro m
 induction m using Nat.strongRecOn with
 |ind m ih=>
  intro f;by_cases h:∃k,k<m/\P k
  ·obtain⟨k,a,b⟩:=h;obtain⟨p,g,c,d⟩:=ih k a b;exact⟨p,by omega,c,d⟩
  ·exact⟨m,je _,f,fun k a b=>h ⟨k,a,b⟩⟩
structure Wt(ax:List Int)(i:Nat)(a b:Int):Prop where
 il:i<ax.length
 a0:0<a
 a1:a<=100000
 b0:0<=b
 b1:b<=100000
 nx:0<b->i+1<ax.length
 one:b=0->a=1
def wtL(i:Nat)(a b:Int):List Tweight:=if b=0 then[⟨(i:Int),1⟩] else[⟨(i:Int),a⟩,⟨((i+1:Nat):Int),b⟩]
def clampV(a:List Int)(x:Int):Int:=if at0 a (a.length-1)<(if at0 a 0 > x then at0 a 0 else x) then at0 a (a.length-1) else(if at0 a 0 > x then at0 a 0 else x)
theorem qAG{m:Nat}(h:m<=8):shrS .u64 (IntKind.wrap .u64 (W64 (m:Int))) 1=V ((m / 2:Nat):Int):=by
 rcases (by omega:m=0\/m=1\/m=2\/m=3\/m=4\/m=5\/m=6\/m=7\/m=8) with e|e|e|e|e|e|e|e|e<;>rw[e]<;>rfl
theorem qyh{a:List Int}(h:AxOk a){c:Int}{p:Nat}(s:p<a.length)(z:c<=at0 a p)(t:∀k,k<p->at0 a k<c) :
  Ev (fun n=>qdv n a c) ((p:Int),(at0 a p==c)):=by
 have y:=h.hi;have b:∀d i j,j-i<=d->i<=p->p<=j->j<=a.length->Ev (fun n=>qaB a c n (i:Int) (j:Int)) ((p:Int),(p:Int)):=by
  intro d
  induction d with
  |zero=>
   intro i j u hi m o;refine Ev.succ ?_;simp only[qaB,qk (show j<=i by omega),cond_false];rw[show i=p by omega,show j=p by omega];exact .done
  |succ d ih=>
   intro i j u hi m o;refine Ev.succ ?_;by_cases g:i<j
   ·have r:(i+j) / 2<a.length:=by omega
    simp only[qaB,qj g,cond_true,<-Int.natCast_add,qAG (show i+j<=8 by omega),jd,qM (x:=(((i+j) / 2:Nat):Int)) (by omega) (by omega),qat r,ql9,qiM,bne_self_eq_false,cond_false,qc4 (show(i+j) / 2<9223372036854775807 by omega)];by_cases f:at0 a ((i+j) / 2)<c
    ·refine Ev.tt (by simpa using f) (ih _ _ (by omega) ?_ m o);refine Nat.lt_of_not_le fun l=>?_;by_cases v:p=(i+j) / 2
     ·rw[<-v] at f;omega
     ·have:=h.inc ((i+j) / 2) p (by omega) r;omega
    ·refine Ev.ff (by simpa using f) (ih _ _ (by omega) hi ?_ (by omega));refine Nat.le_of_not_lt fun l=>f (t _ l)
   ·simp only[qaB,qk (show j<=i by omega),cond_false];rw[show i=p by omega,show j=p by omega];exact .done
 unfold qdv;refine Ev.bind (b a.length 0 a.length (by omega) (by omega) (by omega) (je _)) ?_;simp only[qj s,cond_true,qat s,jd,qgF,bne_self_eq_false,cond_false];cases at0 a p==c<;>exact .done
def WAt(d:List Int)(i:Nat)(a b c:Int):Prop:=(b=0/\at0 d i=c)\/(0<b/\a=at0 d (i+1)-c/\b=c-at0 d i)
theorem qsy{f:List Int}(h:AxOk f)(x:Int):∃i a b,Wt f i a b/\WAt f i a b (clampV f x)/\Ev (fun n=>qds n f x) ((i:Int),a,b)/\Ev (fun n=>qfC n f x) (wtL i a b,a+b):=by
 have M:=h.lo;have I:=h.hi;have L:at0 f 0<=at0 f (f.length-1):=by
  by_cases D:f.length-1=0
  ·rw[D];exact Jd _
  ·have:=h.inc (f.length-1) 0 (by omega) (by omega);omega
 obtain⟨c,v⟩:∃c,c=clampV f x:=⟨_,rfl⟩;have y:at0 f 0<=c/\c<=at0 f (f.length-1):=by
  rw[v];unfold clampV;split<;>split at *<;>omega
 obtain⟨p,Q,s,z⟩:=least (P:=fun k=>c<=at0 f k) (f.length-1) y.2;have o:p<f.length:=by omega
 have t:∀k,k<p->at0 f k<c:=fun k K=>by have:=z k K;omega
 have C:=qyh h o s t;have l:(if at0 f (f.length-1)<(if at0 f 0 > x then at0 f 0 else x) then at0 f (f.length-1) else(if at0 f 0 > x then at0 f 0 else x))=c:=v.symm;have g:W64 ((f.length:Int)-1)=((f.length-1:Nat):Int):=by rw[qfG (by omega)];omega
 have T:=h.at_ p o;have m:∀(R:Int×Int×Int),Ev (fun n=>qbI f x (at0 f 0) (at0 f (f.length-1)) n (p:Int)) (.ret R)->Ev (fun n=>qds n f x) R:=by
  intro R F;have u:∀d j,j=p+d->j<f.length->Ev (fun n=>qbI f x (at0 f 0) (at0 f (f.length-1)) n (j:Int)) (.ret R):=by
   intro d
   induction d with
   |zero=>intro j J _;rw[show j=p by omega];exact F
   |succ d ih=>
    intro j J B;have H:=h.inc j p (by omega) B;refine Ev.succ ?_;simp only[qbI,show decide ((j:Int)>=0)=true from decide_eq_true (by omega),cond_true,qat B,jd,l];refine Ev.ff (beq_eq_false_iff_ne.2 (by omega)) (Ev.ff (decide_eq_false (by omega)) ?_);rw[show(j:Int)-1=((j-1:Nat):Int) by omega,qM (by omega) (by omega)];exact ih (j-1) (by omega) (by omega)
  unfold qds;rw[show(0:Int)=((0:Nat):Int) from rfl,qat (show 0<f.length by omega),g,qat (show f.length-1<f.length by omega)];simp only[jd];exact Ev.bind (u (f.length-1-p) (f.length-1) (by omega) (by omega)) .done
 by_cases r:at0 f p=c
 ·refine⟨p,1,0,⟨o,by omega,by omega,by omega,by omega,fun h=>absurd h (by omega),fun _=>rfl⟩,v ▸ .inl ⟨rfl,r⟩,m _ (Ev.succ ?_),?_⟩
  ·simp only[qbI,show decide ((p:Int)>=0)=true from decide_eq_true (by omega),cond_true,qat o,jd,l];exact Ev.tt (beq_iff_eq.2 r.symm) .done
  ·unfold qfC;rw[show(0:Int)=((0:Nat):Int) from rfl,qat (show 0<f.length by omega),g,qat (show f.length-1<f.length by omega)];simp only[jd,l];exact Ev.bind C (Ev.tt (beq_iff_eq.2 r) (Ev.now Z))
 ·have O:0<p:=by
   refine Nat.pos_of_ne_zero fun e=>r ?_;rw[e] at s⊢;omega
  have N:=t (p-1) (by omega);have S:=h.at_ (p-1) (by omega);have A:((p:Int)-1)=((p-1:Nat):Int):=by omega
  refine⟨p-1,at0 f p-c,c-at0 f (p-1),⟨by omega,by omega,by omega,by omega,by omega,fun _=>by omega,fun h=>absurd h (by omega)⟩,v ▸ .inr ⟨by omega,by rw[show p-1+1=p by omega],rfl⟩,m _ (Ev.succ ?_),?_⟩
  ·simp only[qbI,show decide ((p:Int)>=0)=true from decide_eq_true (by omega),cond_true,qat o,jd,l];refine Ev.ff (beq_eq_false_iff_ne.2 (by omega)) (Ev.ff (decide_eq_false (by omega)) ?_);rw[A,qM (x:=((p-1:Nat):Int)) (by omega) (by omega)];refine Ev.succ ?_;simp only[qbI,show decide (((p-1:Nat):Int)>=0)=true from decide_eq_true (by omega),cond_true,qat (show p-1<f.length by omega),jd,l];refine Ev.ff (beq_eq_false_iff_ne.2 (by omega)) (Ev.tt (decide_eq_true (by omega)) ?_);rw[qc4 (show p-1<9223372036854775807 by omega),show p-1+1=p by omega,qat o];simp only[jd];rw[wO (at0 f p-c),wO (c-at0 f (p-1))];exact .done
  ·unfold qfC;rw[show(0:Int)=((0:Nat):Int) from rfl,qat (show 0<f.length by omega),g,qat (show f.length-1<f.length by omega)];simp only[jd,l];refine Ev.bind C (Ev.ff (beq_eq_false_iff_ne.2 r) ?_);rw[qat o,A,qM (x:=((p-1:Nat):Int)) (by omega) (by omega),qat (show p-1<f.length by omega)];simp only[jd];rw[wO (at0 f p-c),wO (c-at0 f (p-1)),wO (at0 f p-at0 f (p-1))];refine Ev.now ?_;unfold wtL;rw[if_neg (by omega),show p-1+1=p by omega]
   congr 2
   omega

structure TbOk(t:qy):Prop where
 s:AxOk t.Bo
 l:AxOk t.Bk
 n:t.Bj.length=t.Bo.length*t.Bk.length
 v:∀k,-1000000<=at0 t.Bj k/\at0 t.Bj k<=1000000
theorem qxX{xs:List Int}{k:Nat}(h:¬ k<xs.length):at0 xs k=0:=by simp[at0,jD,List.getElem?_eq_none (show xs.length<=k by omega)]
theorem qy1{t:qy}(h:tableB t=true):TbOk t:=by
 unfold tableB at h;simp only[jf,decide_eq_true_eq] at h;obtain⟨c,f,g,a⟩:=h;rw[qhC (d:=0),qau] at a;refine⟨qv3 c,qv3 f,g,fun k=>?_⟩;by_cases b:k<t.Bj.length
 ·have:=a k b;rw[qbi] at this;exact this
 ·rw[qxX b];omega
def tv(t:qy)(i j:Nat):Int:=at0 t.Bj (i*t.Bk.length+j)
theorem mulA{x y Y:Int}(a:0<=x)(c:-Y<=y)(d:y<=Y):-(x*Y)<=x*y/\x*y<=x*Y:=by
 have f:=Int.mul_le_mul_of_nonneg_left d a;have b:=Int.mul_le_mul_of_nonneg_left c a;rw[Int.mul_neg] at b;exact⟨b,f⟩
theorem mulT{w q v:Int}(d:0<=w)(w1:w<=100000)(b:0<=q)(c:q<=100000)(h:-1000000<=v)(i:v<=1000000):(0<=w*q/\w*q<=10000000000)/\(-10000000000000000<=w*q*v/\w*q*v<=10000000000000000):=by
 have a:=jZ d b;have f:w*q<=100000*100000:=Jk w1 c b (by omega);have g:=mulA (x:=w*q) (y:=v) (Y:=1000000) a (by omega) (by omega);refine⟨⟨a,by omega⟩,?_,?_⟩<;>omega
theorem qBI{t:qy}{i j:Nat}(h:TbOk t)(hi:i<t.Bo.length)(f:j<t.Bk.length):i*t.Bk.length+j<t.Bj.length/\t.Bj.length<=16:=by
 have a:=h.s.hi;have b:=h.l.hi;have c:(i+1)*t.Bk.length<=t.Bo.length*t.Bk.length:=jv _ hi;have d:t.Bo.length*t.Bk.length<=4*4:=Nat.mul_le_mul a b;rw[h.n];rw[Nat.add_mul] at c;omega
theorem sTerm{t:qy}(h:TbOk t){i j c k:Nat}{a1 b1 a2 b2 w q s:Int}(H:c<2)(I:k<2)(B:w=if c=1 then b1 else a1)(f:q=if k=0 then a2 else b2)
  (F:0<=w) (w1:w<=100000) (C:0<=q) (D:q<=100000) (hi:0<w->i+c<t.Bo.length) (z:0<q->j+k<t.Bk.length) (s0:-1000000000000000000<=s) (P:s<=1000000000000000000) (n:Nat) :
  qcE t (i:Int) a1 b1 (j:Int) a2 b2 (c:Int) (n+1) s (k:Int)=qcE t (i:Int) a1 b1 (j:Int) a2 b2 (c:Int) n (s+w*q*tv t (i+c) (j+k)) ((k+1:Nat):Int):=by
 have l:=h.v ((i+c)*t.Bk.length+(j+k));obtain⟨⟨L,M⟩,N,O⟩:=mulT F w1 C D l.1 l.2;have o:(bif ((c:Int)==1) then V b1 else V a1)=V w:=by
  rw[B];by_cases a:c=1
  ·rw[if_pos a,a];rfl
  ·rw[if_neg a,show((c:Int)==1)=false from beq_eq_false_iff_ne.2 (by omega)];rfl
 have p:(bif ((k:Int)==0) then V (W64 (w*a2)) else V (W64 (w*b2)))=V (w*q):=by
  have m:W64 (w*q)=w*q:=qM (by omega) (by omega);by_cases a:k=0
  ·rw[if_pos a] at f;rw[a,<-f,m];rfl
  ·rw[if_neg a] at f;rw[show((k:Int)==0)=false from beq_eq_false_iff_ne.2 (by omega),<-f,m];rfl
 rw[qcE];simp only[show decide ((k:Int)<2)=true from decide_eq_true (by omega),cond_true,o,p,jd,wS k];by_cases d:w*q > 0
 ·have b:0<w:=by
   by_cases e:w=0
   ·rw[e,Int.zero_mul] at d;omega
   ·omega
  have g:0<q:=by
   by_cases e:q=0
   ·rw[e,Int.mul_zero] at d;omega
   ·omega
  obtain⟨x1,Q⟩:=qBI h (hi b) (z g);have J:=h.l.hi;have K:=h.s.hi;have y:=hi b;have A:((i+c:Nat):Int)*(t.Bk.length:Int)=(((i+c)*t.Bk.length:Nat):Int):=(Int.natCast_mul _ _).symm;have u:W64 (W64 (W64 (W64 ((i:Int)+(c:Int))*(t.Bk.length:Int))+(j:Int))+(k:Int))=(((i+c)*t.Bk.length+(j+k):Nat):Int):=by
   rw[wO ((i:Int)+(c:Int)),<-Int.natCast_add,A,qM (x:=(((i+c)*t.Bk.length:Nat):Int)) (by omega) (by omega),<-Int.natCast_add,qM (x:=(((i+c)*t.Bk.length+j:Nat):Int)) (by omega) (by omega),<-Int.natCast_add,qM (by omega) (by omega),Nat.add_assoc]
  rw[show decide (w*q > 0)=true from decide_eq_true d,u,qat x1];simp only[cond_true,jd];have r:W64 (s+W64 (w*q*at0 t.Bj ((i+c)*t.Bk.length+(j+k))))=s+w*q*tv t (i+c) (j+k):=by
   unfold tv;rw[qM (x:=w*q*at0 t.Bj ((i+c)*t.Bk.length+(j+k))) (by omega) (by omega),qM (by omega) (by omega)]
  rw[r]
 ·have v:w*q=0:=by omega
  rw[show decide (w*q > 0)=false from decide_eq_false d,v,Int.zero_mul,Int.add_zero]
  rfl
def rowS(t:qy)(j:Nat)(a2 b2:Int)(i:Nat):Int:=a2*tv t i j+b2*tv t i (j+1)
theorem qnU{t:qy}(h:TbOk t){i j:Nat}:-1000000<=tv t i j/\tv t i j<=1000000:=h.v _
theorem quq{t:qy}(h:TbOk t){i j:Nat}{a2 b2:Int}(a0:0<=a2)(b0:0<=b2):-((a2+b2)*1000000)<=rowS t j a2 b2 i/\rowS t j a2 b2 i<=(a2+b2)*1000000:=by
 have a:=mulA (x:=a2) (y:=tv t i j) (Y:=1000000) a0 (qnU h).1 (qnU h).2;have b:=mulA (x:=b2) (y:=tv t i (j+1)) (Y:=1000000) b0 (qnU h).1 (qnU h).2;unfold rowS;omega
theorem sRow{t:qy}(h:TbOk t){i j c:Nat}{a1 b1 a2 b2 w s:Int}(d:c<2)(f:w=if c=1 then b1 else a1)(b:0<=w)(w1:w<=100000)(hi:0<w->i+c<t.Bo.length)(a:Wt t.Bk j a2 b2)
  (s0:-100000000000000000<=s) (m:s<=100000000000000000):Ev (fun n=>qcE t (i:Int) a1 b1 (j:Int) a2 b2 (c:Int) n s 0) (s+w*rowS t j a2 b2 (i+c),2):=by
 have l:=a.a0;have g:=a.b0;have o:=(mulT b w1 (show 0<=a2 by omega) a.a1 (qnU h (i:=i+c) (j:=j)).1 (qnU h).2).2;refine Ev.step (fun n=>sTerm h d (k:=0) (w:=w) (q:=a2) (by omega) f Z b w1 (by omega) a.a1 hi (fun _=>a.il) (by omega) (by omega) n) ?_;refine Ev.step (fun n=>sTerm h d (k:=1) (w:=w) (q:=b2) (by omega) f Z b w1 g a.b1 hi a.nx (by show _<=s+w*a2*tv t (i+c) (j+0);rw[Jj];omega) (by show s+w*a2*tv t (i+c) (j+0)<=_;rw[Jj];omega) n) ?_;refine Ev.succ ?_;simp only[qcE,show decide (((1+1:Nat):Int)<2)=false from rfl,cond_false];refine Ev.now ?_;unfold rowS;rw[Int.mul_add,<-Jh,<-Jh,Int.add_assoc,Jj]
 rfl
theorem iTerm{t:qy}(h:TbOk t){a:List Tweight}{i j k:Nat}{w q s:Int}(m:k<a.length)(z:a.length<=2)(p:idx a (k:Int)=V ⟨(j:Int),q⟩)(c:0<=w)(w1:w<=100000)(r:0<=q)(u:q<=100000)
  (hi:i<t.Bo.length) (l:j<t.Bk.length) (s0:-1000000000000000000<=s) (F:s<=1000000000000000000) (n:Nat) :
  qbg t a ⟨(i:Int),w⟩ (n+1) s (k:Int)=qbg t a ⟨(i:Int),w⟩ n (s+w*q*tv t i j) ((k+1:Nat):Int):=by
 have b:=qnU h (i:=i) (j:=j);obtain⟨_,B,C⟩:=mulT c w1 r u b.1 b.2;have D:=mulA (x:=w) (y:=tv t i j) (Y:=1000000) c b.1 b.2;obtain⟨x1,H⟩:=qBI h hi l;have v:=h.l.hi;have A:=h.s.hi;have o:(i:Int)*(t.Bk.length:Int)=((i*t.Bk.length:Nat):Int):=(Int.natCast_mul _ _).symm;rw[qbg];simp only[qj m,cond_true,p,jd,wS k,o];rw[qM (x:=((i*t.Bk.length:Nat):Int)) (by omega) (by omega),<-Int.natCast_add,qM (x:=((i*t.Bk.length+j:Nat):Int)) (by omega) (by omega),qat x1];simp only[jd];have d:W64 (s+W64 (W64 (at0 t.Bj (i*t.Bk.length+j)*w)*q))=s+w*q*tv t i j:=by
  have f:at0 t.Bj (i*t.Bk.length+j)*w=w*tv t i j:=Int.mul_comm _ _;have g:w*tv t i j*q=w*q*tv t i j:=by rw[Jh,Int.mul_comm (tv t i j) q,<-Jh]
  rw[f,wO (w*tv t i j),g,wO (w*q*tv t i j),qM (by omega) (by omega)]
 rw[d]
theorem iRow{t:qy}(h:TbOk t){i j:Nat}{a2 b2 w s:Int}(b:0<=w)(w1:w<=100000)(hi:i<t.Bo.length)(a:Wt t.Bk j a2 b2)
  (s0:-100000000000000000<=s) (m:s<=100000000000000000):Ev (fun n=>qbg t (wtL j a2 b2) ⟨(i:Int),w⟩ n s 0) (s+w*rowS t j a2 b2 i,((wtL j a2 b2).length:Int)):=by
 have l:=a.a0;have g:=a.b0;have o:=(mulT b w1 (show 0<=a2 by omega) a.a1 (qnU h (i:=i) (j:=j)).1 (qnU h).2).2;by_cases c:b2=0
 ·have f:=a.one c;subst c f;have d:wtL j 1 0=[⟨(j:Int),1⟩]:=if_pos Z;rw[d];refine Ev.step (fun n=>iTerm h (k:=0) (q:=1) (by simp) (by simp) Z b w1 (by omega) (by omega) hi a.il (by omega) (by omega) n) (Ev.succ ?_);simp only[qbg];refine Ev.ff Z (Ev.now ?_);unfold rowS;rw[Int.mul_one,Int.one_mul,Int.zero_mul,Int.add_zero]
  rfl
 ·have d:wtL j a2 b2=[⟨(j:Int),a2⟩,⟨((j+1:Nat):Int),b2⟩]:=if_neg c;rw[d];refine Ev.step (fun n=>iTerm h (k:=0) (q:=a2) (by simp) (by simp) Z b w1 (by omega) a.a1 hi a.il (by omega) (by omega) n) ?_;refine Ev.step (fun n=>iTerm h (k:=1) (j:=j+1) (q:=b2) (by simp) (by simp) Z b w1 g a.b1 hi (a.nx (by omega)) (by omega) (by omega) n) (Ev.succ ?_);simp only[qbg];refine Ev.ff Z (Ev.now ?_);unfold rowS;rw[Int.mul_add,<-Jh,<-Jh,Int.add_assoc]
  rfl
def sumS(t:qy)(i j:Nat)(a1 b1 a2 b2:Int):Int:=a1*rowS t j a2 b2 i+b1*rowS t j a2 b2 (i+1)
theorem rowT{t:qy}(h:TbOk t){i j:Nat}{w a2 b2:Int}(f:0<=w)(w1:w<=100000)(a:Wt t.Bk j a2 b2):-20000000000000000<=w*rowS t j a2 b2 i/\w*rowS t j a2 b2 i<=20000000000000000:=by
 have l:=a.a0;have c:=a.b0;have b:=a.a1;have d:=a.b1;have g:=quq h (i:=i) (j:=j) (a2:=a2) (b2:=b2) (by omega) c;have k:=mulA (x:=w) (y:=rowS t j a2 b2 i) (Y:=200000000000) f (by omega) (by omega);omega
theorem qBv{t:qy}(h:TbOk t){sl ld:Int}{i j:Nat}{a1 b1 a2 b2:Int}(W1:Wt t.Bo i a1 b1)(W2:Wt t.Bk j a2 b2)
  (p:Ev (fun n=>qds n t.Bo sl) ((i:Int),a1,b1)/\Ev (fun n=>qfC n t.Bo sl) (wtL i a1 b1,a1+b1)) (C:Ev (fun n=>qds n t.Bk ld) ((j:Int),a2,b2)/\Ev (fun n=>qfC n t.Bk ld) (wtL j a2 b2,a2+b2)) :
  0<(a1+b1)*(a2+b2)/\sumS t i j a1 b1 a2 b2<=(a1+b1)*(a2+b2)*1000000/\-((a1+b1)*(a2+b2)*1000000)<=sumS t i j a1 b1 a2 b2/\-9000000000000000000<=sumS t i j a1 b1 a2 b2/\sumS t i j a1 b1 a2 b2<=9000000000000000000/\((∀k,0<=at0 t.Bj k)->0<=sumS t i j a1 b1 a2 b2) /\
  ∀mode,Ev (fun n=>qgG n t sl ld mode) (divI (sumS t i j a1 b1 a2 b2) ((a1+b1)*(a2+b2)) mode)/\Ev (fun n=>qda n t sl ld mode) (divI (sumS t i j a1 b1 a2 b2) ((a1+b1)*(a2+b2)) mode):=by
 obtain⟨D,H⟩:=p;obtain⟨F,I⟩:=C;have A:=W1.a0;have a:=W1.b0;have B:=W2.a0;have b:=W2.b0;have d:=W1.a1;have f:=W1.b1;have J:=W2.a1;have K:=W2.b1;have M:=rowT h (i:=i) (w:=a1) (by omega) d W2;have N:=rowT h (i:=i+1) (w:=b1) a f W2;have x1:=quq h (i:=i) (j:=j) (a2:=a2) (b2:=b2) (by omega) b;have v:=quq h (i:=i+1) (j:=j) (a2:=a2) (b2:=b2) (by omega) b;have O:=mulA (x:=a1) (y:=rowS t j a2 b2 i) (Y:=(a2+b2)*1000000) (by omega) x1.1 x1.2;have P:=mulA (x:=b1) (y:=rowS t j a2 b2 (i+1)) (Y:=(a2+b2)*1000000) a v.1 v.2;have L:a1*((a2+b2)*1000000)+b1*((a2+b2)*1000000)=(a1+b1)*(a2+b2)*1000000:=by rw[<-Int.add_mul,Jh]
 have D0:0<(a1+b1)*(a2+b2):=Int.mul_pos (by omega) (by omega);have D1:(a1+b1)*(a2+b2)<=200000*200000:=Jk (by omega) (by omega) (by omega) (by omega);refine⟨D0,by unfold sumS;omega,by unfold sumS;omega,by unfold sumS;omega,by unfold sumS;omega,fun u=>?_,fun mode=>⟨?_,?_⟩⟩
 ·have s:∀i,0<=rowS t j a2 b2 i:=fun i=>Int.add_nonneg (jZ (by omega) (u _)) (jZ b (u _));exact Int.add_nonneg (jZ (by omega) (s _)) (jZ a (s _))
 ·have l:Ev (fun n=>qen t (i:Int) a1 b1 (j:Int) a2 b2 n 0 0) (sumS t i j a1 b1 a2 b2,2):=by
   refine Ev.succ ?_;simp only[qen];refine Ev.tt Z (Ev.bind (sRow h (c:=0) (w:=a1) (by omega) Z (by omega) d (fun _=>W1.il) W2 (by omega) (by omega)) ?_);refine Ev.succ ?_;simp only[qen];refine Ev.tt Z (Ev.bind (sRow h (c:=1) (w:=b1) (by omega) Z a f W1.nx W2 (by rw[Jj];omega) (by rw[Jj];omega)) ?_);refine Ev.succ ?_;simp only[qen];refine Ev.ff Z (Ev.now ?_);unfold sumS;rw[Int.zero_add,Jj]
   rfl
  unfold qgG;refine Ev.bind D (Ev.bind F (Ev.bind l ?_));show Ev (fun n=>(qcO n (sumS t i j a1 b1 a2 b2) (W64 (W64 (a1+b1)*W64 (a2+b2))) mode).bind fun r=>V r) _;rw[wO (a1+b1),wO (a2+b2),wO ((a1+b1)*(a2+b2))];exact Ev.bind ⟨0,fun n _=>qlY D0 (by unfold sumS;omega) (by unfold sumS;omega)⟩ .done
 ·have l:Ev (fun n=>qbe t (wtL i a1 b1) (wtL j a2 b2) n 0 0) (sumS t i j a1 b1 a2 b2,((wtL i a1 b1).length:Int)):=by
   by_cases g:b1=0
   ·have z:=W1.one g;subst g z;have o:wtL i 1 0=[⟨(i:Int),1⟩]:=if_pos Z;rw[o];refine Ev.succ ?_;simp only[qbe];refine Ev.tt Z (Ev.bind (Ev.now Z) (Ev.bind (iRow h (i:=i) (w:=1) (by omega) (by omega) W1.il W2 (by omega) (by omega)) (Ev.succ ?_)));simp only[qbe];refine Ev.ff Z (Ev.now ?_);unfold sumS;rw[Int.zero_add,Int.zero_mul,Int.add_zero]
    rfl
   ·have o:wtL i a1 b1=[⟨(i:Int),a1⟩,⟨((i+1:Nat):Int),b1⟩]:=if_neg g;rw[o];refine Ev.succ ?_;simp only[qbe];refine Ev.tt Z (Ev.bind (Ev.now Z) (Ev.bind (iRow h (i:=i) (w:=a1) (by omega) d W1.il W2 (by omega) (by omega)) (Ev.succ ?_)));simp only[qbe];refine Ev.tt Z (Ev.bind (Ev.now Z) (Ev.bind (iRow h (i:=i+1) (w:=b1) a f (W1.nx (by omega)) W2 (by omega) (by omega)) (Ev.succ ?_)));simp only[qbe];refine Ev.ff Z (Ev.now ?_);unfold sumS;rw[Int.zero_add]
    rfl
  unfold qda;refine Ev.bind H (Ev.bind I (Ev.bind l ?_));show Ev (fun n=>(qfA n (sumS t i j a1 b1 a2 b2) (W64 ((a1+b1)*(a2+b2))) mode).bind fun r=>V r) _;rw[wO ((a1+b1)*(a2+b2))];exact Ev.bind ⟨0,fun n _=>(quN (m:=0)).trans (qlY D0 (by unfold sumS;omega) (by unfold sumS;omega))⟩ .done
theorem qBw{t:qy}(h:TbOk t)(sl ld:Int):∃S D:Int,0<D/\S<=D*1000000/\-(D*1000000)<=S/\-9000000000000000000<=S/\S<=9000000000000000000/\((∀k,0<=at0 t.Bj k)->0<=S) /\
  ∀mode,Ev (fun n=>qgG n t sl ld mode) (divI S D mode)/\Ev (fun n=>qda n t sl ld mode) (divI S D mode):=by
 obtain⟨i,a1,b1,W1,_,p⟩:=qsy h.s sl;obtain⟨j,a2,b2,W2,_,a⟩:=qsy h.l ld;exact⟨_,_,qBv h W1 W2 p a⟩

theorem qyC{b:qh}(h:blockB b=true){j:Nat}(f:j<(places b.Aa).length){n:Nat}:qmD n b.Au b.Aa (toSp (gt (places b.Aa) j))=V (capJ b j):=by
 have d:=qar h;unfold capJ pinCap;rcases qmm f with⟨i,k,hi,hk,_,e⟩|⟨i,hi,_,e⟩
 ·rw[e];obtain⟨⟨a,c⟩,g,_⟩:=qh1 d hi;unfold place1 cellAt toSp;simp only[qmD,show decide ((i:Int)<0)=false by simp,cond_false,qA hi,jd,qgq a c,jr,qA (show k<(gt b.Au.Ay (gt b.Aa.Ab i).Bv.toNat).Bh.length by omega)]
 ·rw[e];rfl
theorem qrv{b:qh}(h:blockB b=true){i:Nat}(hi:i<b.Ai.length):Ev (fun n=>qiC n b (i:Int)) (loadsL b i):=by
 have c:=qbD h hi;have p:=qQ (qar h);have x:=c.lo;have u:=c.hi;have d:=c.cap;have z:=qii h (i:=i);have e1:Ev (fun n=>qdD b (gt b.Ai i) ((places b.Aa).map toSp) (skL b i) n (gt b.Ai i).Bu 0) (ldA b (gt b.Ai i) (skL b i) (skL b i).length,((skL b i).length:Int)):=by
  refine loopF (Lf:=qdD b (gt b.Ai i) ((places b.Aa).map toSp) (skL b i)) (S:=ldA b (gt b.Ai i) (skL b i)) (len:=(skL b i).length) (fun n=>?_) (fun j a X o=>?_)
  ·simp only[qdD,qk (je _),cond_false]
  ·obtain⟨y,l,m,_⟩:=qqH a;have f:j<(gt b.Ai i).Bn.length:=by rw[c.snk];exact a
   have k:=c.sin j f;have v:=qqr (b:=b) (w:=gt b.Ai i) (sk:=skL b i) (j:=j);have g:idx ((places b.Aa).map toSp) (y:Int)=V (toSp (gt (places b.Aa) y)):=by
    refine qas ?_;rw[List.getElem?_map,jh l,qcG l];rfl
   have s:=fun n=>qyC h l (n:=n);simp only[qdD,qj a,cond_true,qat a,m,jd,qat f,qgq k.1 (show at0 (gt b.Ai i).Bn j<((ldA b (gt b.Ai i) (skL b i) j).length:Int) by omega),g,s,wS j];have:ldA b (gt b.Ai i) (skL b i) (j+1)=setS (ldA b (gt b.Ai i) (skL b i) j) (at0 (gt b.Ai i).Bn j) (W64 (gt (ldA b (gt b.Ai i) (skL b i) j) (at0 (gt b.Ai i).Bn j).toNat+capJ b y)):=by
    show addSink _ _ _ _ _=_;unfold addSink;rw[m,jr]
   rw[this] at o;exact o
 have r:∀j t,t.length=(gt b.Ai i).Az.length->j<(gt b.Ai i).Az.length->Ev (fun n=>qdH (gt b.Ai i) n t (j:Int)) (ldB (gt b.Ai i) j t,0):=by
  intro j
  induction j with
  |zero=>
   intro t _ _;refine Ev.succ ?_;show Ev (fun n=>qdH (gt b.Ai i) (n+1) t 0) _;unfold qdH;exact Ev.ff Z .done
  |succ j ih=>
   intro t A a;have g:=c.par (j+1) (by omega) a;refine Ev.succ ?_;simp only[qdH,show decide (((j+1:Nat):Int) > 0)=true from decide_eq_true (by omega),cond_true,qat a,jd,qgq g.1 (show at0 (gt b.Ai i).Az (j+1)<(t.length:Int) by omega),qA (show j+1<t.length by omega),show((j+1:Nat):Int)-1=(j:Int) by omega,qM (show -9223372036854775808<=(j:Int) by omega) (by omega)];exact ih _ (by rw[qcK];exact A) (by omega)
 unfold qiC qnB;rw[qA hi];simp only[jd,qbn (show([]:List Int).length+(gt b.Ai i).Bu.length<=2147483648 by simp;omega),Jm];refine Ev.bind (qi3 p) (Ev.bind (qoT p) (Ev.bind e1 ?_));rw[qfG (show(gt b.Ai i).Bu.length<=9223372036854775807 by omega),show((gt b.Ai i).Bu.length:Int)-1=(((gt b.Ai i).Az.length-1:Nat):Int) by omega];exact Ev.bind (r _ _ (by rw[qqr];exact d) (by omega)) .done
theorem qqo{b:qh}(h:blockB b=true){i:Nat}(hi:i<b.Ai.length):Ev (fun n=>qhJ n b (i:Int)) (delaysL b i):=by
 have f:=qbD h hi;have o:=f.lo;have m:=f.hi;have l:=f.res;have r:=qnT h hi;have c:∀d k,k+1+d=(gt b.Ai i).Az.length->Ev (fun n=>qee (gt b.Ai i) (loadsL b i) n (dlL (gt b.Ai i) (loadsL b i) k) ((k+1:Nat):Int)) (delaysL b i,((loadsL b i).length:Int)):=by
  intro d
  induction d with
  |zero=>
   intro k g;refine Ev.succ ?_;simp only[qee,qk (show(loadsL b i).length<=k+1 by omega),cond_false];refine Ev.now ?_;rw[r,<-g];unfold delaysL;rw[<-g]
   rfl
  |succ d ih=>
   intro k g;have p:=f.par (k+1) (by omega) (by omega);have a:=qqy (w:=gt b.Ai i) (ld:=loadsL b i) (k:=k);refine Ev.succ ?_;simp only[qee,qj (show k+1<(loadsL b i).length by omega),cond_true,qat (show k+1<(gt b.Ai i).Az.length by omega),jd,qgq p.1 (show at0 (gt b.Ai i).Az (k+1)<((dlL (gt b.Ai i) (loadsL b i) k).length:Int) by omega),
    qat (show k+1<(gt b.Ai i).Bz.length by omega),qA (show k+1<(loadsL b i).length by omega),qc4 (show k+1<9223372036854775807 by omega)]
   rw[qbn (by rw[a,jm];omega)];exact ih (k+1) (by omega)
 unfold qhJ;rw[qA hi];simp only[jd];refine Ev.bind (qrv h hi) ?_;exact Ev.bind (c ((gt b.Ai i).Az.length-1) 0 (by omega)) .done
theorem qqX{b:qh}(h:blockB b=true){i:Nat}(hi:i<b.Ai.length){mode:Int}:Ev (fun n=>qgK n b (i:Int) mode) ((exactL b i).map fun x=>divI x 1000 mode):=by
 have k:=qbD h hi;have r:(gt b.Ai i).Bn.length<=78:=by rw[k.snk];exact qii h
 have p:=qoW h hi;have l:Ev (fun n=>qbV b (i:Int) mode (delaysL b i) n ([]:List Int) 0) ((exactL b i).map (fun x=>divI x 1000 mode),((gt b.Ai i).Bn.length:Int)):=by
  refine loopF (Lf:=qbV b (i:Int) mode (delaysL b i)) (S:=fun j=>(((gt b.Ai i).Bn.take j).map fun s=>gt (delaysL b i) s.toNat).map fun x=>divI x 1000 mode) (len:=(gt b.Ai i).Bn.length) (fun n=>?_) (fun j c X o=>?_)
  ·simp only[qbV,qA hi,jd,qk (je _),cond_false,jE];rfl
  ·have g:=k.sin j c;have f:=qsl h hi c;have m:gt (exactL b i) j=gt (delaysL b i) (at0 (gt b.Ai i).Bn j).toNat:=by
    unfold exactL;rw[qcG (by rw[ju];exact c),List.getElem_map,qo5 c]
   rw[m] at f;have d:=fun n=>qlY (n:=n) (a:=gt (delaysL b i) (at0 (gt b.Ai i).Bn j).toNat) (b:=1000) (mode:=mode) (by omega) (by omega) (by omega);simp only[qbV,qA hi,jd,qj c,cond_true,qat c,qgq g.1 (show at0 (gt b.Ai i).Bn j<((delaysL b i).length:Int) by omega),d,wS j];rw[qbn (by rw[ju,ju,jw,jm];omega)];have:(((gt b.Ai i).Bn.take j).map (fun s=>gt (delaysL b i) s.toNat)).map (fun x=>divI x 1000 mode)++[divI (gt (delaysL b i) (at0 (gt b.Ai i).Bn j).toNat) 1000 mode]=(((gt b.Ai i).Bn.take (j+1)).map fun s=>gt (delaysL b i) s.toNat).map fun x=>divI x 1000 mode:=by
    rw[js c,jL,jL,qo5 c];rfl
   rw[this];exact o
 unfold qgK;exact Ev.bind (qqo h hi) (Ev.bind l .done)

instance:Inhabited qf:=⟨⟨0,⟨0,0⟩,⟨0,0⟩⟩⟩
instance:Inhabited qe:=⟨⟨0,0⟩⟩
def cornerB(c:qu):Bool:=(inI c.Am 100 5000&&(inI c.Ar 100 5000&&(inI c.Aj 100 5000&&inI c.Ap 100 5000)))&&(nameB c.Bd&&(decide (c.Am<=c.Ar)&&decide (c.Aj<=c.Ap)))
theorem qvc{c:qu}(h:okS c.Bd):Ev (fun n=>qiE n c) (cornerB c):=by
 have a:Ev (fun n=>qcf c n 0) (bif inI c.Am 100 5000&&(inI c.Ar 100 5000&&(inI c.Aj 100 5000&&inI c.Ap 100 5000)) then .nxt 4 else .ret false):=by
  refine Ev.succ ?_;simp only[qcf,qdb,show idx ([c.Am,c.Ar,c.Aj,c.Ap]:List Int) 0=V c.Am from rfl,jd];refine Ev.tt Z ?_;cases inI c.Am 100 5000
  ·exact .done
  refine Ev.ff Z (Ev.succ ?_);simp only[qcf,qdb,show W64 (0+1)=1 from rfl,show idx ([c.Am,c.Ar,c.Aj,c.Ap]:List Int) 1=V c.Ar from rfl,jd];refine Ev.tt Z ?_;cases inI c.Ar 100 5000
  ·exact .done
  refine Ev.ff Z (Ev.succ ?_);simp only[qcf,qdb,show W64 (1+1)=2 from rfl,show idx ([c.Am,c.Ar,c.Aj,c.Ap]:List Int) 2=V c.Aj from rfl,jd];refine Ev.tt Z ?_;cases inI c.Aj 100 5000
  ·exact .done
  refine Ev.ff Z (Ev.succ ?_);simp only[qcf,qdb,show W64 (2+1)=3 from rfl,show idx ([c.Am,c.Ar,c.Aj,c.Ap]:List Int) 3=V c.Ap from rfl,jd];refine Ev.tt Z ?_;cases inI c.Ap 100 5000
  ·exact .done
  refine Ev.ff Z (Ev.succ ?_);simp only[qcf];exact Ev.ff Z .done
 unfold qiE cornerB;refine Ev.bind a ?_;cases inI c.Am 100 5000&&(inI c.Ar 100 5000&&(inI c.Aj 100 5000&&inI c.Ap 100 5000))
 ·exact .done
 ·refine Ev.bind (qnR h) ?_;cases nameB c.Bd
  ·exact .done
  ·cases decide (c.Am<=c.Ar)<;>exact .done
theorem qtk{n:Nat}{a b:Int}:qg6 n a b=V (decide (a>=100)&&(decide (a<=b)&&decide (b<=5000))):=by
 unfold qg6;cases decide (a>=100)
 ·rfl
 ·cases decide (a<=b)<;>rfl
theorem qvP{c:qu}(h:okS c.Bd):Ev (fun n=>qiF n c) (cornerB c):=by
 have e:cornerB c=(nameB c.Bd&&((decide (c.Am>=100)&&(decide (c.Am<=c.Ar)&&decide (c.Ar<=5000)))&&(decide (c.Aj>=100)&&(decide (c.Aj<=c.Ap)&&decide (c.Ap<=5000))))):=by
  unfold cornerB;rw[jn];simp only[jf,qbi,decide_eq_true_eq];constructor
  ·rintro⟨⟨b,d,f,g⟩,a,i,k⟩;refine⟨a,⟨?_,?_,?_⟩,?_,?_,?_⟩<;>omega
  ·rintro⟨a,⟨b,d,f⟩,g,i,k⟩;refine⟨⟨⟨?_,?_⟩,⟨?_,?_⟩,⟨?_,?_⟩,?_,?_⟩,a,?_,?_⟩<;>omega
 rw[e];unfold qiF;simp only[qri h,qtk,jd];cases nameB c.Bd
 ·exact .done
 ·cases decide (c.Am>=100)&&(decide (c.Am<=c.Ar)&&decide (c.Ar<=5000))<;>exact .done
def spanB(s:qe):Bool:=inI s.Ba (-1000000000) 1000000000&&(inI s.Bg (-1000000000) 1000000000&&decide (s.Ba<=s.Bg))
def slewB(s:qe):Bool:=decide (s.Ba>=0)&&(decide (s.Ba<=s.Bg)&&decide (s.Bg<=1000000))
theorem qsL{n:Nat}{s:qe}:qi6 n s=V (spanB s):=by
 unfold qi6 spanB;simp only[qdb,jd];cases inI s.Ba (-1000000000) 1000000000
 ·rfl
 ·cases inI s.Bg (-1000000000) 1000000000<;>rfl
theorem qrk{n:Nat}{s:qe}:qhW n s=V (spanB s):=by
 unfold qhW qmp spanB;simp only[qec,jd];cases inI s.Ba (-1000000000) 1000000000
 ·rfl
 ·cases inI s.Bg (-1000000000) 1000000000<;>rfl
theorem qv7{n:Nat}{s:qe}:qiB n s=V (slewB s):=by
 unfold qiB slewB;cases decide (s.Ba>=0)
 ·rfl
 ·cases decide (s.Ba<=s.Bg)<;>rfl
theorem qvU{n:Nat}{s:qe}:qiv n s=V (slewB s):=by
 have e:slewB s=(spanB s&&(inI s.Ba 0 1000000&&inI s.Bg 0 1000000)):=by
  unfold slewB spanB;rw[jn];simp only[jf,qbi,decide_eq_true_eq];constructor
  ·rintro⟨a,b,c⟩;refine⟨⟨⟨?_,?_⟩,⟨?_,?_⟩,?_⟩,⟨?_,?_⟩,?_,?_⟩<;>omega
  ·rintro⟨⟨a,b,c⟩,d,f⟩;refine⟨?_,?_,?_⟩<;>omega
 rw[e];unfold qiv qmG;simp only[qrk,qec,jd];cases spanB s
 ·rfl
 ·cases inI s.Ba 0 1000000<;>rfl

theorem quE{b:qh}{k:Int}(h:blockB b=true){j:Nat}(c:j<(places b.Aa).length)(l:(gt (places b.Aa) j).net=k)(d:(gt (places b.Aa) j).drives=true):Ev (fun n=>qjB n b.Aa k) (j:Int):=by
 have g:=qar h;have p:=qQ g;have t:=qaU p;have e:ixL (fun q:Tl05Place=>(q.net==k)&&q.drives) ((places b.Aa).map toSp)=(j:Int):=by
  refine qz4 (by simpa using c) ?_ (fun i hi m=>?_)
  ·rw[qqI c];show(((gt (places b.Aa) j).net==k)&&(gt (places b.Aa) j).drives)=true;rw[l,d];simp
  ·have f:i<(places b.Aa).length:=by simpa using hi
   rw[qqI f] at m;have a:(((gt (places b.Aa) i).net==k)&&(gt (places b.Aa) i).drives)=true:=m;simp only[jf,beq_iff_eq] at a;exact qvv g f c (by rw[a.1,l]) a.2 d
 unfold qjB;refine Ev.bind (qi3 p) ?_;rw[<-e];exact qg0 (fin:=(((places b.Aa).map toSp).length:Int)) (Lf:=qc5 k ((places b.Aa).map toSp)) (xs:=(places b.Aa).map toSp) (pf:=fun _ (q:Tl05Place)=>V ((q.net==k)&&q.drives)) (fun _ _=>.done)
  (fun n=>by simp only[qc5,qk (je _),cond_false])
  (fun n j x r=>by
   have c:=(List.getElem?_eq_some_iff.1 r).1;have s:j<(places b.Aa).length:=by simpa using c
   simp only[qc5,qj c,cond_true,qas r,jd,wS j];cases (x.net==k)<;>cases x.drives<;>rfl)
  (fun n=>by congr 1;funext o;cases o<;>rfl)
theorem qsG{b:qh}{i k:Nat}(h:blockB b=true)(hi:i<b.Aa.Ab.length)(s:k<(gt b.Aa.Ab i).As.length):Ev (fun n=>qjP n b.Aa (i:Int) (k:Int)) ((off b.Aa i+k:Nat):Int):=by
 have p:=qar h;have f:=qQ p;have u:=qaU f;obtain⟨c,l⟩:=qlA hi s;have e:ixL (fun q:Tl05Place=>(q.instance_==(i:Int))&&(q.pin==(k:Int))) ((places b.Aa).map toSp)=((off b.Aa i+k:Nat):Int):=by
  refine qz4 (by simpa using c) ?_ (fun m t a=>?_)
  ·rw[qqI c,l];unfold place1 toSp;simp
  ·have d:m<(places b.Aa).length:=by simpa using t
   rw[qqI d] at a;rcases qmm d with⟨i',k',hi',hk',em,e'⟩|⟨i',hi',em,e'⟩
   ·rw[e'] at a;unfold place1 toSp at a;simp only[jf,beq_iff_eq] at a;obtain rfl:i'=i:=by omega
    obtain rfl:k'=k:=by omega
    exact em
   ·rw[e'] at a;unfold place2 toSp at a;simp only[jf,beq_iff_eq] at a;omega
 unfold qjP;refine Ev.bind (qi3 f) ?_;rw[<-e];exact qg0 (fin:=(((places b.Aa).map toSp).length:Int)) (Lf:=qei (i:Int) (k:Int) ((places b.Aa).map toSp)) (xs:=(places b.Aa).map toSp) (pf:=fun _ (q:Tl05Place)=>V ((q.instance_==(i:Int))&&(q.pin==(k:Int)))) (fun _ _=>.done)
  (fun n=>by simp only[qei,qk (je _),cond_false])
  (fun n j x g=>by
   have c:=(List.getElem?_eq_some_iff.1 g).1;have r:j<(places b.Aa).length:=by simpa using c
   simp only[qei,qj c,cond_true,qas g,jd,wS j];cases (x.instance_==(i:Int))<;>cases (x.pin==(k:Int))<;>rfl)
  (fun n=>by congr 1;funext o;cases o<;>rfl)
theorem qut{n:Nat}{xs:List qx}{f t a c k i:Int}(o:xs.length<=1000000)(l:0<=f)(m:f<=1000000)(p:0<=t)(r:t<=1000000)(b:b01 a)(g:b01 c):qfK n xs f t a c k i=V (xs++[⟨2*f+a,2*t+c,k,i⟩]):=by
 have d:0<=a/\a<=1:=by rcases b with e|e<;>omega
 have h:0<=c/\c<=1:=by rcases g with e|e<;>omega
 unfold qfK;rw[wO (2*f),wO (2*t),wO (2*f+a),wO (2*t+c),qbn (by rw[jm];omega)]
 rfl
def fitB(a:qJ)(i j:Int):Bool:=bif a.Bi==1 then(bif a.Br==3 then true else(a.Br==1)==(i==j)) else bif a.Bi==2 then i==0 else bif a.Bi==3 then i==1 else false
def pcL(a:qJ)(f t k i j:Int):List qx:=bif fitB a i j then[⟨2*f+i,2*t+j,1,k⟩] else[]
theorem arcStep{a:qJ}{xs:List qx}{f t k i j:Int}{X:List qx×Int}(m:xs.length<=1000000)(d:0<=f)(g:f<=1000000)(o:0<=t)(p:t<=1000000)(hi:b01 i)(c:b01 j)
  (h:Ev (fun n=>qbf a f t k i n (xs++pcL a f t k i j) (j+1)) X):Ev (fun n=>qbf a f t k i n xs j) X:=by
 have b:0<=j/\j<=1:=by rcases c with e|e<;>omega
 have l:=fun n=>qut (n:=n) (k:=1) (i:=k) m d g o p hi c;refine Ev.succ ?_;simp only[qbf,l,jd,wO (j+1)];refine Ev.tt (decide_eq_true b.2) ?_;unfold pcL fitB at h;cases h1:a.Bi==1
 ·cases h2:a.Bi==2
  ·cases h3:a.Bi==3
   ·rw[h1,h2,h3] at h;simpa using h
   ·rw[h1,h2,h3] at h;cases h4:i==1
    ·rw[h4] at h;simpa using h
    ·rw[h4] at h;simpa using h
  ·rw[h1,h2] at h;cases h4:i==0
   ·rw[h4] at h;simpa using h
   ·rw[h4] at h;simpa using h
 ·rw[h1] at h;cases h2:a.Br==3
  ·rw[h2] at h;cases h4:(a.Br==1)==(i==j)
   ·rw[h4] at h;simpa [h4] using h
   ·rw[h4] at h;simpa [h4] using h
  ·rw[h2] at h;simpa using h
theorem qBS{a:qJ}{xs:List qx}{f t k:Int}(x:xs.length<=900000)(g:0<=f)(h:f<=1000000)(l:0<=t)(m:t<=1000000) :
  Ev (fun n=>qmn n xs a f t k) (xs++pcL a f t k 0 0++pcL a f t k 0 1++pcL a f t k 1 0++pcL a f t k 1 1):=by
 have b:∀i j,(pcL a f t k i j).length<=1:=fun i j=>by unfold pcL;cases fitB a i j<;>simp
 have o:=b 0 0;have p:=b 0 1;have r:=b 1 0;have s:=b 1 1;have c:∀(i:Int) (d:List qx),b01 i->d.length<=900010->Ev (fun n=>qbf a f t k i n d 0) (d++pcL a f t k i 0++pcL a f t k i 1,2):=by
  intro i d hi y;have v:=b i 0;refine arcStep (by omega) g h l m hi (.inl Z) (arcStep (j:=0+1) (by rw[jg];omega) g h l m hi (.inr Z) (Ev.succ ?_));simp only[qbf];exact Ev.ff Z .done
 have u:Ev (fun n=>qe8 a f t k n xs 0) (xs++pcL a f t k 0 0++pcL a f t k 0 1++pcL a f t k 1 0++pcL a f t k 1 1,2):=by
  refine Ev.succ ?_;simp only[qe8];refine Ev.tt Z (Ev.bind (c 0 xs (.inl Z) (by omega)) ?_);refine Ev.succ ?_;simp only[qe8];refine Ev.tt Z (Ev.bind (c 1 _ (.inr Z) (by simp only[jg];omega)) ?_);refine Ev.succ ?_;simp only[qe8];exact Ev.ff Z .done
 unfold qmn;exact Ev.bind u .done
theorem qx7{ps:List qal}{a:qJ}(h:arcS ps a=true)(c:a.Bi<=3)(b:1<=a.Bi):(a.Bi=1/\(a.Br=1\/a.Br=2\/a.Br=3))\/a.Bi=2\/a.Bi=3:=by
 rcases (by omega:a.Bi=1\/a.Bi=2\/a.Bi=3) with e|e|e
 ·refine .inl ⟨e,?_⟩;unfold arcS at h;rw[e] at h;simp only[beq_self_eq_true,cond_true,jf,qbi] at h;have:=h.2.2.2.1;omega
 ·exact .inr (.inl e)
 ·exact .inr (.inr e)
theorem qAb{ps:List qal}{a:qJ}{first:Int}{k:Nat}(h:arcS ps a=true)(c:a.Bi<=3)(b:1<=a.Bi) :
  pcL a (first+a.Bm) (first+a.To) (k:Int) 0 0++pcL a (first+a.Bm) (first+a.To) (k:Int) 0 1++pcL a (first+a.Bm) (first+a.To) (k:Int) 1 0++pcL a (first+a.Bm) (first+a.To) (k:Int) 1 1=arcLs first k a:=by
 unfold arcLs transL pcL fitB;rcases qx7 h c b with⟨e,e2|e2|e2⟩|e|e
 ·rw[e,e2];rfl
 ·rw[e,e2];rfl
 ·rw[e,e2];rfl
 ·rw[e];rfl
 ·rw[e];rfl
theorem qrt{a:qJ}{first:Int}{k:Nat}(h:3<a.Bi):arcLs first k a=[]:=by
 unfold arcLs transL;rw[show(a.Bi==2)=false from beq_eq_false_iff_ne.2 (by omega),show(a.Bi==3)=false from beq_eq_false_iff_ne.2 (by omega),show(a.Bi != 1)=true from bne_iff_ne.2 (by omega)]
 rfl
theorem qfO{b:qh}(h:blockB b=true):Ev (fun n=>qfY n b) (linksL b):=by
 have v:=qar h;have z:=qQ v;have hl:=qaU z;have hni:=z.ni;have hnn:=z.nn;have J:=qnz h;have p:(⟨b.Aa.Ab,b.Aa.As,b.Aa.Ak⟩:qd)=b.Aa:=rfl;have e1:Ev (fun n=>qdy b n ([]:List qx) 0) (instLs b b.Aa.Ab.length,(b.Aa.Ab.length:Int)):=by
  refine loopF (Lf:=qdy b) (S:=instLs b) (len:=b.Aa.Ab.length) (fun n=>?_) (fun j m X g=>?_)
  ·simp only[qdy,qk (je _),cond_false]
  ·obtain⟨⟨Q,R⟩,r,l⟩:=qh1 v m;have M:=qpL l;have s:=(qhD (qj0 l)).1;have H:=qka h (show j<=b.Aa.Ab.length by omega);have O:=ql3 (d:=b.Aa) (i:=j);have hof:off b.Aa (j+1)<=78:=by
    rw[qhR] at hl;have:=qw5 (d:=b.Aa) (show j+1<=b.Aa.Ab.length by omega);omega
   have F:cellAt b (j:Int)=gt b.Au.Ay (gt b.Aa.Ab j).Bv.toNat:=rfl;simp only[qdy,qj m,cond_true,qA m,qgq Q R,jd,wS j];have C:Ev (fun n=>qcT b (j:Int) (cellAt b (j:Int)) n (instLs b j) 0) (instLs b (j+1),((cellAt b (j:Int)).Bc.length:Int)):=by
    rw[show instLs b (j+1)=instLs b j++cellLs (cellAt b (j:Int)) (off b.Aa j:Int) (cellAt b (j:Int)).Bc.length from qln];rw[<-F] at l r M s;generalize cellAt b (j:Int)=c at l r M s⊢;have:=loopF (Lf:=qcT b (j:Int) c) (S:=fun k=>instLs b j++cellLs c (off b.Aa j:Int) k) (len:=c.Bc.length) (fin:=(instLs b j++cellLs c (off b.Aa j:Int) c.Bc.length,(c.Bc.length:Int))) (fun n=>by simp only[qcT,qk (je _),cond_false])
     (fun k o X g=>by
      obtain⟨⟨k1,k5⟩,N,I,e⟩:=qoK l o;have a3:(cellLs c (off b.Aa j:Int) k).length<=4*k:=qqL fun _ _=>qqJ;have A:cellLs c (off b.Aa j:Int) (k+1)=cellLs c (off b.Aa j:Int) k++arcLs (off b.Aa j:Int) k (gt c.Bc k):=qln;rw[A] at g;simp only[qcT,qj o,cond_true,qA o,jd,wS k,p];by_cases B:(gt c.Bc k).Bi<=3
      ·refine Ev.tt (decide_eq_true B) ?_;have K:=qsG h m (k:=(gt c.Bc k).Bm.toNat) (by omega);have L:=qsG h m (k:=(gt c.Bc k).To.toNat) (by omega);rw[<-qgS N.1] at K;rw[<-qgS I.1] at L;refine Ev.bind K (Ev.bind L (Ev.bind (qBS (by rw[jg];omega) (by omega) (by omega) (by omega) (by omega)) ?_));have u:∀x:Int,0<=x->((off b.Aa j+x.toNat:Nat):Int)=(off b.Aa j:Int)+x:=fun x hx=>by omega
       rw[u _ N.1,u _ I.1,jq,jq,jq,<-jq (pcL _ _ _ _ _ _),<-jq (pcL _ _ _ _ _ _++_),qAb e B k1,jq];exact g
      ·refine Ev.ff (decide_eq_false B) ?_;rw[qrt (by omega),jU] at g;exact g)
    simpa [cellLs,fm] using this
   exact Ev.bind C g
 have D:∀(i:Nat) (t:List qx),i<b.Ai.length->t.length<=900000->Ev (fun n=>qdN (dvN b.Aa i:Int) (skL b i) n t 0) (t++wlN b i (skL b i).length,((skL b i).length:Int)):=by
  intro i t hi I;have hsm:=qii h (i:=i);have a4:=(qkN v (k:=i) (by omega)).1;have:=loopF (Lf:=qdN (dvN b.Aa i:Int) (skL b i)) (S:=fun k=>t++wlN b i k) (len:=(skL b i).length) (fin:=(t++wlN b i (skL b i).length,((skL b i).length:Int))) (fun n=>by simp only[qdN,qk (je _),cond_false])
   (fun k o X g=>by
    obtain⟨y,hy,ey,_⟩:=qqH o;have hwn:=quJ (b:=b) (i:=i) (j:=k);have p1:=fun n=>qut (n:=n) (xs:=t++wlN b i k) (f:=(dvN b.Aa i:Int)) (t:=at0 (skL b i) k) (a:=0) (c:=0) (k:=2) (i:=(k:Int)) (by rw[jg];omega) (by omega) (by omega) (by omega) (by omega) (.inl Z) (.inl Z);have p2:=fun n=>qut (n:=n) (xs:=t++wlN b i k++[⟨2*(dvN b.Aa i:Int)+0,2*at0 (skL b i) k+0,2,(k:Int)⟩]) (f:=(dvN b.Aa i:Int)) (t:=at0 (skL b i) k) (a:=1) (c:=1) (k:=2) (i:=(k:Int)) (by rw[jg,jg,jm];omega) (by omega) (by omega) (by omega) (by omega) (.inr Z) (.inr Z);simp only[qdN,qj o,cond_true,qat o,jd,p1,p2,wS k];have A:wlN b i (k+1)=wlN b i k++wl1 (dvN b.Aa i) (at0 (skL b i) k) k:=qln;rw[A] at g;rw[Int.add_zero,Int.add_zero,jq,jq];exact g)
  simpa [wlN,fm] using this
 have u:Ev (fun n=>qdO b n (instLs b b.Aa.Ab.length) 0) (linksL b,(b.Aa.As.length:Int)):=by
  have H:=qka h (je _);have:=loopF (Lf:=qdO b) (S:=fun j=>instLs b b.Aa.Ab.length++wireLs b j) (len:=b.Aa.As.length) (fin:=(linksL b,(b.Aa.As.length:Int))) (fun n=>by
    simp only[qdO,qk (je _),cond_false];rw[<-J];rfl)
   (fun j m X g=>by
    have P:=qpE h (j:=j);obtain⟨T,d2⟩:=qkN v m;obtain⟨W,Y⟩:=qqp.1 d2;simp only[qdO,qj m,cond_true,wS j,p];refine Ev.bind (quE h T W Y) (Ev.bind (qoT z) (Ev.bind (D j _ (by omega) (by rw[jg];omega)) ?_));rw[jq,show wireLs b j++wlN b j (skL b j).length=wireLs b (j+1) from qln.symm];exact g)
  simpa [wireLs,fm] using this
 unfold qfY;exact Ev.bind e1 (Ev.bind u .done)
def lvB(br:List Int)(m:Nat):List Bool:=pre (fun k=>!br.any fun y=>y==(k:Int)) m
theorem qnS{br:List Int}{m:Nat}:(lvB br m).length=m:=qnC
theorem qx9{br:List Int}{x:Int}(d:br.length<=1048576):Ev (fun n=>qmz n br x) (br.any fun y=>y==x):=by
 have b:Ev (fun n=>qe7 br x n 0) (bif br.any (fun y=>y==x) then .ret true else .nxt (br.length:Int)):=by
  have:=qe6 (Lf:=qe7 br x) (len:=br.length) (f:=fun j=>!(gt br j==x)) (bad:=true) (fin:=.nxt (br.length:Int)) (Ev.succ (by simp only[qe7,qk (je _),cond_false];exact .done))
   (fun j a X c=>Ev.succ (by
    simp only[qe7,qj a,cond_true,qA a,jd,wS j];cases gt br j==x
    ·exact c
    ·exact .done))
  rw[qxv];refine this.cast ?_;cases allN (fun j=>!(gt br j==x)) br.length<;>rfl
 unfold qmz;refine Ev.bind b ?_;cases br.any (fun y=>y==x)<;>exact .done
theorem qj3{ls:List qx}{br:List Int}(g:ls.length<=10000)(a:br.length<=1048576):Ev (fun n=>qh9 n ls br) (lvB br ls.length):=by
 have b:Ev (fun n=>qep ls br n ([]:List Bool) 0) (lvB br ls.length,(ls.length:Int)):=by
  refine loopF (Lf:=qep ls br) (S:=fun j=>lvB br j) (len:=ls.length) (fun n=>?_) (fun j d X c=>?_)
  ·simp only[qep,qk (je _),cond_false]
  ·simp only[qep,qj d,cond_true,wS j];refine Ev.bind (qx9 a) ?_;have e:appS (lvB br j) [!br.any fun y=>y==(j:Int)]=V (lvB br (j+1)):=qse (f:=fun k:Nat=>!br.any fun y=>y==(k:Int)) (by omega);rw[e];exact c
 unfold qh9;exact Ev.bind b .done
def brB(br:List Int)(m:Nat):Bool:=(br.all fun x=>inI x 0 ((m:Int)-1))&&incB br
theorem qw0{v:Tview}{br:List Int}(A:v.links.length<=10000)(h:brB br v.links.length=true):Ev (fun n=>qhp n (V v) br) (V ⟨V v,lvB br v.links.length⟩):=by
 unfold brB at h;rw[jf,qjp,qau] at h;have u:mkS (v.links.length:Int) false=V (pre (fun _=>false) v.links.length):=qqW (by omega);generalize hM:v.links.length=M at A h u⊢;have m:∀j i,i<j->j<br.length->gt br i<gt br j:=by
  intro j
  induction j with
  |zero=>intro i hi _;omega
  |succ j ih=>
   intro i hi b;have c:=h.2;unfold incB at c;rw[qau] at c;have c:=c (j+1) b;unfold stepB at c;simp only[Bool.or_eq_true,decide_eq_true_eq,Nat.add_sub_cancel] at c;have s:gt br j<gt br (j+1):=by
    rcases c with c|c
    ·omega
    ·exact c
   by_cases r:i=j
   ·rw[r];exact s
   ·have:=ih i (by omega) (by omega);omega
 have o:∀j,j<br.length->(j:Int)<=gt br j:=by
  intro j
  induction j with
  |zero=>
   intro b;have:=h.1 0 b;rw[qbi] at this;omega
  |succ j ih=>
   intro b;have:=ih (by omega);have:=m (j+1) j (by omega) b;omega
 have C:br.length<=M:=by
  by_cases D:br.length=0
  ·omega
  ·have F:=o (br.length-1) (by omega);have B:=h.1 (br.length-1) (by omega);rw[qbi] at B;omega
 have e1:Ev (fun n=>qb8 (pre (fun _=>false) M) n (pre (fun _=>false) M) 0) (pre (fun _=>true) M,(M:Int)):=by
  have:=loopF (Lf:=qb8 (pre (fun _=>false) M)) (S:=fun j=>pre (fun k=>decide (k<j)) M) (len:=M) (fin:=(pre (fun _=>true) M,(M:Int))) (fun n=>by
    simp only[qb8,qnC,qk (je _),cond_false];rw[qhY (g:=fun _=>true) fun k d=>decide_eq_true d])
   (fun j b X l=>by
    simp only[qb8,qnC,qj b,cond_true,qh0 (f:=fun k=>decide (k<j)) b,jd,qqA,wS j];have:pre (fun k=>decide (k<j+1)) M=pre (fun k=>if k=j then true else decide (k<j)) M:=qhY fun k _=>by
     by_cases d:k=j
     ·rw[if_pos d,d];simp
     ·rw[if_neg d,decide_eq_decide];omega
    rw[this] at l;exact l)
  simpa using this
 have z:Ev (fun n=>qb9 br n (pre (fun _=>true) M) 0) (lvB br M,(br.length:Int)):=by
  have:=loopF (Lf:=qb9 br) (S:=fun j=>pre (fun k=>!(br.take j).any fun y=>y==(k:Int)) M) (len:=br.length) (fin:=(lvB br M,(br.length:Int))) (fun n=>by
    simp only[qb9,qk (je _),cond_false,jE];rfl)
   (fun j b X l=>by
    have x:=h.1 j b;rw[qbi] at x;obtain⟨a,t⟩:∃a:Nat,gt br j=(a:Int):=⟨_,qgS x.1⟩;have p:a<M:=by omega
    simp only[qb9,qj b,cond_true,qA b,t,qh0 (f:=fun k=>!(br.take j).any fun y=>y==(k:Int)) p,jd,qqA,wS j];have:pre (fun k=>!(br.take (j+1)).any fun y=>y==(k:Int)) M=pre (fun k=>if k=a then false else !(br.take j).any fun y=>y==(k:Int)) M:=qhY fun k _=>by
     rw[js b,List.any_append,<-qcG b,t];by_cases d:k=a
     ·rw[if_pos d,d];simp
     ·rw[if_neg d];have:((a:Int)==(k:Int))=false:=by simp;omega
      simp[this]
    rw[this] at l;exact l)
  simpa using this
 unfold qhp;simp only[jd,hM,u];exact Ev.bind e1 (Ev.bind z .done)
theorem qyU{br:List Int}{m:Nat}(h:br.length<=1048576)(i:m<=10000):Ev (fun n=>qjK n br (m:Int)) (brB br m):=by
 have g:Ev (fun n=>qcq br (m:Int) n 0) (bif allN (fun j=>inI (gt br j) 0 ((m:Int)-1)&&stepB br j) br.length then .nxt (br.length:Int) else .ret false):=by
  refine qe6 (Lf:=qcq br (m:Int)) (len:=br.length) (Ev.succ (by simp only[qcq,qk (je _),cond_false];exact .done)) (fun j d X c=>Ev.succ ?_);simp only[qcq,qj d,cond_true,qA d,jd,qdb,wS j,wO ((m:Int)-1)];cases h1:inI (gt br j) 0 ((m:Int)-1)
  ·exact .done
  ·refine Ev.ff Z ?_;by_cases b:j=0
   ·subst b;exact Ev.ff Z c
   ·refine Ev.tt (decide_eq_true (by omega)) ?_;rw[show(j:Int)-1=((j-1:Nat):Int) by omega,qM (by omega) (by omega),qA (show j-1<br.length by omega)];simp only[jd];have f:stepB br j=decide (gt br (j-1)<gt br j):=by
     unfold stepB;rw[decide_eq_false b,Bool.false_or]
     rfl
    rw[f];by_cases a:gt br (j-1)<gt br j
    ·rw[decide_eq_true a];exact Ev.ff (decide_eq_false (by omega)) c
    ·rw[decide_eq_false a];exact Ev.tt (decide_eq_true (by omega)) .done
 unfold qjK;refine Ev.bind g ?_;unfold brB incB;rw[qjp,<-qmZ];cases allN (fun j=>inI (gt br j) 0 ((m:Int)-1)&&stepB br j) br.length<;>exact .done
theorem qvE{v:Tview}{br:List Int}(a:br.length<=1048576)(b:v.links.length<=10000):Ev (fun n=>qfc n (V v) br) (brB br v.links.length):=by
 unfold qfc qhm brB;simp only[jd,wO ((v.links.length:Int)-1)];exact Ev.and (qey a) fun _=>Ev.last (qn7 a)
theorem qwI{b:qh}{br:List Int}(a:qm0 b)(h:blockB b=true)(c:br.length<=1048576):Ev (fun n=>qik n b br) (bif brB br (linksL b).length then 0 else 2):=by
 unfold qik;refine Ev.bind (qo3 a) (Ev.ff (by rw[h];rfl) (Ev.bind (qfO h) (Ev.bind (qyU c (qhU h)) ?_)));cases brB br (linksL b).length<;>exact .done

theorem quF{α:Type}{f:Nat->List α}{n:Nat}{x:α}(h:x∈fm f n):∃j,j<n/\x∈f j:=by
 unfold fm at h;obtain⟨j,a,b⟩:=List.mem_flatMap.1 h;exact⟨j,List.mem_range.1 a,b⟩
theorem qxP{x:Int}{j:Nat}{t:Int}(b:b01 t)(d:j<=100000)(e:x=2*(j:Int)+t):W64 (x.tdiv 2)=(j:Int)/\x.tmod 2=t:=by
 have c:0<=t/\t<=1:=by rcases b with e|e<;>omega
 have a:0<=x:=by omega
 rw[jN a,Int.tmod_eq_emod_of_nonneg a,qM (by omega) (by omega)];omega
structure CLk(b:qh)(x:qx)(i j m net a:Nat):Prop where
 kind:x.Bi=1
 il:i<b.Aa.Ab.length
 jl:j<(places b.Aa).length
 inst:(gt (places b.Aa) j).instance_=(i:Int)
 net_:(gt (places b.Aa) j).net=(net:Int)
 nl:net<b.Ai.length
 half:W64 (x.To.tdiv 2)=(j:Int)
 mod:x.To.tmod 2=(m:Int)
 ml:m<2
 ix:x.Cb=(a:Int)
 al:a<(cellAt b (i:Int)).Bc.length
 d2:(gt (cellAt b (i:Int)).Bc a).Bp.length=2
 s2:(gt (cellAt b (i:Int)).Bc a).Be.length=2
 dt:∀t,t∈(gt (cellAt b (i:Int)).Bc a).Bp->TbOk t/\∀k,0<=at0 t.Bj k
 st:∀t,t∈(gt (cellAt b (i:Int)).Bc a).Be->TbOk t/\∀k,0<=at0 t.Bj k
 k3:(gt (cellAt b (i:Int)).Bc a).Bi<=3
structure WLk(b:qh)(x:qx)(j net k:Nat):Prop where
 kind:x.Bi=2
 jl:j<(places b.Aa).length
 net_:(gt (places b.Aa) j).net=(net:Int)
 nl:net<b.Ai.length
 half:W64 (x.To.tdiv 2)=(j:Int)
 ix:x.Cb=(k:Int)
 kl:k<(gt b.Ai net).Bn.length
theorem qCi{xs:List Int}(h:0<=mnL xs)(k:Nat):0<=at0 xs k:=by
 have b:∀(c:List Int) (a:Int),(c.foldl (fun(m y:Int)=>if y<m then y else m) a<=a)/\∀y,y∈c->c.foldl (fun(m y:Int)=>if y<m then y else m) a<=y:=by
  intro c
  induction c with
  |nil=>intro a;exact⟨Jd _,fun y i=>by cases i⟩
  |cons z c ih=>
   intro a;rw[List.foldl_cons];obtain⟨l,n⟩:=ih (if z<a then z else a);refine⟨?_,fun y i=>?_⟩
   ·split at l<;>split<;>omega
   ·rcases List.mem_cons.1 i with e|e
    ·subst e;split at l<;>split<;>omega
    ·exact n y e
 by_cases f:k<xs.length
 ·have g:xs[k]∈xs.drop 1\/k=0:=by
   by_cases d:k=0
   ·exact .inr d
   ·refine .inl ?_;have:xs[k]=(xs.drop 1)[k-1]'(by rw[Jo];omega):=by
     rw[List.getElem_drop]
     congr 1;omega
    rw[this];exact jp _
  rw[qo5 f];unfold mnL at h;rcases g with g|d
  ·exact Int.le_trans h ((b _ _).2 _ g)
  ·subst d;have:=(b (xs.drop 1) (at0 xs 0)).1;rw[<-qo5 f];exact Int.le_trans h this
 ·rw[qxX f];exact Jd _
theorem qsn{a:List qy}(h:tablesB a true=true):a.length=2/\∀t,t∈a->TbOk t/\∀k,0<=at0 t.Bj k:=by
 unfold tablesB at h;rw[jf,decide_eq_true_eq,Jc] at h;refine⟨h.1,fun t b=>?_⟩;have:=h.2 t b;unfold tabB at this;simp only[Ji,Bool.false_or,jf,decide_eq_true_eq] at this;exact⟨qy1 this.1,qCi this.2⟩
theorem qwA{ps:List qal}{a:qJ}(h:arcS ps a=true)(c:a.Bi<=3)(b:1<=a.Bi):a.To=(ps.length:Int)-1/\tablesB a.Bp true=true/\tablesB a.Be true=true:=by
 unfold arcS at h;rcases (by omega:a.Bi=1\/a.Bi=2\/a.Bi=3) with e|e|e
 ·rw[e] at h;simp only[beq_self_eq_true,cond_true,jf,beq_iff_eq] at h;exact⟨h.2.2.1,h.2.2.2.2⟩
 ·rw[e] at h;simp only[show((2:Int)==1)=false from rfl,cond_false,beq_self_eq_true,Bool.true_or,cond_true,jf,beq_iff_eq] at h;exact⟨h.2.2.1,h.2.2.2.2⟩
 ·rw[e] at h;simp only[show((3:Int)==1)=false from rfl,cond_false,beq_self_eq_true,Bool.or_true,cond_true,jf,beq_iff_eq] at h;exact⟨h.2.2.1,h.2.2.2.2⟩
theorem qwe{a:qJ}{t:qT}(h:t∈transL a):1<=a.Bi/\a.Bi<=3:=by
 refine⟨?_,?_⟩<;>refine Int.le_of_not_gt fun b=>?_
 ·have:arcLs 0 0 a=[]:=by
   unfold arcLs transL;rw[show(a.Bi==2)=false from beq_eq_false_iff_ne.2 (by omega),show(a.Bi==3)=false from beq_eq_false_iff_ne.2 (by omega),show(a.Bi != 1)=true from bne_iff_ne.2 (by omega)]
   rfl
  unfold arcLs at this;rw[List.map_eq_nil_iff] at this;rw[this] at h;cases h
 ·have:arcLs 0 0 a=[]:=qrt b;unfold arcLs at this;rw[List.map_eq_nil_iff] at this;rw[this] at h;cases h
theorem qiV{b:qh}(h:blockB b=true){x:qx}(c:x∈linksL b):((∃i j m net a,CLk b x i j m net a)\/∃j net k,WLk b x j net k)/\(0<=x.Bm/\x.Bm<2*((places b.Aa).length:Int))/\(0<=x.To/\x.To<2*((places b.Aa).length:Int)):=by
 have l:=qar h;have P:=qQ l;have hl:=qaU P;have S:=qnz h;unfold linksL at c;rcases List.mem_append.1 c with c|c
 ·obtain⟨i,hi,c⟩:=quF c;obtain⟨a,B,c⟩:=quF c;unfold arcLs at c;obtain⟨t,g,rfl⟩:=List.mem_map.1 c;obtain⟨⟨c0,c1⟩,u,f⟩:=qh1 l hi;have r:cellAt b (i:Int)=gt b.Au.Ay (gt b.Aa.Ab i).Bv.toNat:=rfl;rw[<-r] at u f;obtain⟨⟨k1,k5⟩,hf,Q,L⟩:=qoK f B;obtain⟨K,A⟩:=qwe g;obtain⟨X,o⟩:=qtU g;obtain⟨F,Y,tS⟩:=qwA L A K;obtain⟨d2,dt⟩:=qsn Y;obtain⟨s2,st⟩:=qsn tS;have O:=(qhD (qj0 f)).1;have n:(cellAt b (i:Int)).Bh.length-1<(gt b.Aa.Ab i).As.length:=by omega
  obtain⟨C,H⟩:=qlA hi n;obtain⟨W,n1⟩:=qnX l C;have e1:(al1 (off b.Aa i:Int) a (gt (cellAt b (i:Int)).Bc a) t).To=2*((off b.Aa i+((cellAt b (i:Int)).Bh.length-1):Nat):Int)+t.e1:=by
   show 2*((off b.Aa i:Int)+(gt (cellAt b (i:Int)).Bc a).To)+t.e1=_;rw[F];omega
  obtain⟨s,D⟩:=qxP o (by omega) e1;obtain⟨m,I⟩:∃m:Nat,t.e1=(m:Int):=⟨t.e1.toNat,by rcases o with e|e<;>omega⟩;have N:off b.Aa i+(gt (cellAt b (i:Int)).Bc a).Bm.toNat<(places b.Aa).length:=(qlA hi (k:=(gt (cellAt b (i:Int)).Bc a).Bm.toNat) (by omega)).1;have p:(al1 (off b.Aa i:Int) a (gt (cellAt b (i:Int)).Bc a) t).Bm=2*((off b.Aa i:Int)+(gt (cellAt b (i:Int)).Bc a).Bm)+t.e0:=rfl;refine⟨.inl ⟨i,_,m,(gt (places b.Aa) (off b.Aa i+((cellAt b (i:Int)).Bh.length-1))).net.toNat,a,⟨rfl,hi,C,by rw[H];rfl,qgS W,by omega,s,by rw[D,I],by rcases o with e|e<;>omega,rfl,B,d2,s2,dt,st,A⟩⟩,?_,?_⟩
  ·rw[p];rcases X with e|e<;>rw[e]<;>omega
  ·rw[e1];rcases o with e|e<;>rw[e]<;>omega
 ·obtain⟨i,hi,c⟩:=quF c;obtain⟨k,n,c⟩:=quF c;obtain⟨y,T,J,v⟩:=qqH n;have M:=(qkN l (k:=i) (by omega)).1;have R:=qbD h hi;have z:(gt (places b.Aa) y).net=(i:Int):=by
   unfold snkQ at v;simp only[jf,beq_iff_eq] at v;exact v.1
  have d:∀t:Int,b01 t->x=⟨2*(dvN b.Aa i:Int)+t,2*at0 (skL b i) k+t,2,(k:Int)⟩->((∃i j m net a,CLk b x i j m net a)\/∃j net k,WLk b x j net k)/\(0<=x.Bm/\x.Bm<2*((places b.Aa).length:Int))/\(0<=x.To/\x.To<2*((places b.Aa).length:Int)):=by
   intro t g e;have e1:x.To=2*(y:Int)+t:=by rw[e,J]
   have p:x.Bm=2*(dvN b.Aa i:Int)+t:=by rw[e]
   obtain⟨s,D⟩:=qxP g (by omega) e1;refine⟨.inr ⟨y,i,k,⟨by rw[e],T,z,hi,s,by rw[e],by rw[R.snk];exact n⟩⟩,?_,?_⟩
   ·rw[p];rcases g with e|e<;>rw[e]<;>omega
   ·rw[e1];rcases g with e|e<;>rw[e]<;>omega
  unfold wl1 at c;simp only[Jf,jV,or_false] at c;rcases c with c|c
  ·exact d 0 (.inl Z) (by rw[c,Int.add_zero,Int.add_zero])
  ·exact d 1 (.inr Z) c
theorem qnN{α:Type}[Inhabited α]{xs:List α}{k:Nat}(h:k<xs.length):gt xs k∈xs:=by rw[qcG h];exact jp h
theorem qgt{b:qh}(h:blockB b=true):LkOk (linksL b) (2*(places b.Aa).length) where
 len:=qhU h
 nodes:=by have:=qaU (qQ (qar h));omega
 fr0:=fun x a=>(qiV h (qnN a)).2.1.1
 fr1:=fun x a=>by have:=(qiV h (qnN a)).2.1.2;omega
 to0:=fun x a=>(qiV h (qnN a)).2.2.1
 to1:=fun x a=>by have:=(qiV h (qnN a)).2.2.2;omega
theorem qtY{c:qu}(h:cornerB c=true){kind mode:Int}:∃f:Int,100<=f/\f<=5000/\(∀n,qhO n c kind mode=V f)/\∀n,qe4 n c kind mode=V f:=by
 unfold cornerB at h;simp only[jf,qbi,decide_eq_true_eq] at h;obtain⟨⟨a,b,d,g⟩,_⟩:=h;unfold qhO qe4;cases kind==1
 ·cases mode==0
  ·exact⟨_,g.1,g.2,fun _=>rfl,fun _=>rfl⟩
  ·exact⟨_,d.1,d.2,fun _=>rfl,fun _=>rfl⟩
 ·cases mode==0
  ·exact⟨_,b.1,b.2,fun _=>rfl,fun _=>rfl⟩
  ·exact⟨_,a.1,a.2,fun _=>rfl,fun _=>rfl⟩
theorem qvs{p f mode:Int}(h:0<=p)(i:p<=400000000000)(c:0<=f)(g:f<=5000):(∀n,qcO n (W64 (p*f)) 1000 mode=V (divI (p*f) 1000 mode))/\∀n,qlF n p f mode=V (divI (p*f) 1000 mode):=by
 have k:=jZ h c;have l:p*f<=400000000000*5000:=Jk i g c (by omega);have e:W64 (p*f)=p*f:=qM (by omega) (by omega);have d:=fun n=>qlY (n:=n) (a:=p*f) (b:=1000) (mode:=mode) (by omega) (by omega) (by omega);refine⟨fun n=>by rw[e];exact d n,fun n=>?_⟩;unfold qlF;rw[e,quN (m:=0),d 0]
 rfl
theorem qzI{l h H:Int}(c:0<=l)(d:l<h)(f:h<=H)(g:H<=3000000000):W64 (W64 (W64 (l+h)+1) |>.tdiv 2)=(l+h+1) / 2/\W64 ((l+h+1) / 2*((l+h+1) / 2))=(l+h+1) / 2*((l+h+1) / 2)/\W64 ((l+h+1) / 2-1)=(l+h+1) / 2-1:=by
 have a:0<=(l+h+1) / 2/\(l+h+1) / 2<=3000000000:=by omega
 have i:(l+h+1) / 2*((l+h+1) / 2)<=3000000000*3000000000:=Jk a.2 a.2 a.1 (by omega);have b:=jZ a.1 a.1;rw[wO (l+h),wO (l+h+1),jN (by omega),wO ((l+h+1) / 2),wO ((l+h+1) / 2-1)];exact⟨rfl,qM (by omega) (by omega),rfl⟩
theorem qzg{y mode:Int}(m:0<=y)(s:y<=4000000000000000000):∃v,IsRoot y v/\v<=2000000000/\Ev (fun n=>qji n y mode) (if mode=1/\v*v<y then v+1 else v):=by
 obtain⟨v,g,f,r⟩:=quj (Lf:=fun n l h=>qer y n l h) (fin:=fun l=>(l,l)) (x:=y) (H:=2000000000) m (by omega) (by omega)
  (fun n l _ _=>by simp only[qer,show decide (l<l)=false from decide_eq_false (Int.lt_irrefl l),cond_false])
  (fun n l h a b o=>by
   obtain⟨e1,i,k⟩:=qzI a b o (by omega);simp only[qer,decide_eq_true b,cond_true,e1,i,k])
 refine⟨v,g,f,?_⟩;unfold qji;refine Ev.bind r ?_;have d:=g.pos;have t:v*v<=2000000000*2000000000:=Jk f f d (by omega);have p:=jZ d d;simp only[wO (v*v),wO (v+1)];by_cases c:mode=1
 ·refine Ev.tt (by simpa using c) ?_;by_cases a:v*v<y
  ·rw[if_pos ⟨c,a⟩];exact Ev.tt (decide_eq_true a) .done
  ·rw[if_neg fun h=>a h.2];exact Ev.ff (decide_eq_false a) .done
 ·rw[if_neg fun h=>c h.1];exact Ev.ff (by simpa using c) .done
theorem qzp{y:Int}(d:0<=y)(o:y<=4000000000000000000):∃v,IsRoot y v/\v<=3000000000/\Ev (fun n=>qpi n y) v:=by
 obtain⟨v,i,k,m⟩:=quj (Lf:=fun n l h=>qgO y n l h) (fin:=fun l=>(l,l)) (x:=y) (H:=3000000000) d (by omega) (by omega)
  (fun n l _ _=>by simp only[qgO,show decide (l<l)=false from decide_eq_false (Int.lt_irrefl l),cond_false])
  (fun n l h g a f=>by
   obtain⟨e1,b,c⟩:=qzI g a f (by omega);simp only[qgO,decide_eq_true a,cond_true,e1,b,c])
 refine⟨v,i,k,?_⟩;unfold qpi;exact Ev.bind m .done
theorem qyj{sl d mode:Int}(s0:0<=sl)(p:sl<=1000000)(g:0<=d)(l:d<=344000000)(o:mode=0\/mode=1):∃r:Int,0<=r/\(∃v,IsRoot (4*(250000*(sl*sl)+d*d)) v/\v<=2000000000/\r=divI (if mode=1/\v*v<4*(250000*(sl*sl)+d*d) then v+1 else v) 1000 mode) /\
  Ev (fun n=>(qji n (W64 (W64 (W64 (1000000*sl)*sl)+W64 (W64 (4*d)*d))) mode).bind fun A=>(qcO n A 1000 mode).bind fun B=>V B) r/\Ev (fun n=>qki n sl d mode) r:=by
 have J:=jZ s0 s0;have K:sl*sl<=1000000*1000000:=Jk p p s0 (by omega);have L:=jZ g g;have N:d*d<=344000000*344000000:=Jk l l g (by omega);have e1:W64 (W64 (W64 (1000000*sl)*sl)+W64 (W64 (4*d)*d))=4*(250000*(sl*sl)+d*d):=by
  rw[wO (1000000*sl),wO (4*d),Jh 1000000,Jh 4,wO (1000000*(sl*sl)),wO (4*(d*d)),qM (by omega) (by omega)];omega
 have t:W64 (W64 (W64 (W64 (500*sl)*500)*sl)+W64 (d*d))=250000*(sl*sl)+d*d:=by
  rw[wO (500*sl),wO (500*sl*500),show 500*sl*500*sl=250000*(sl*sl) by rw[<-Jh];congr 1;omega,wO (250000*(sl*sl)),wO (d*d),qM (by omega) (by omega)]
 obtain⟨v,k,C,D⟩:=qzg (mode:=mode) (y:=4*(250000*(sl*sl)+d*d)) (by omega) (by omega);obtain⟨w,w1,s,F⟩:=qzp (y:=250000*(sl*sl)+d*d) (by omega) (by omega);have z:=qwP w1 k o;have I:=k.pos;have f:=w1.pos;have a:0<=(if mode=1/\v*v<4*(250000*(sl*sl)+d*d) then v+1 else v)/\(if mode=1/\v*v<4*(250000*(sl*sl)+d*d) then v+1 else v)<=1000*3000000:=by split<;>omega
 refine⟨_,(quD (b:=1000) (mode:=mode) (M:=3000000) (by omega) a.1 a.2).1,⟨v,k,C,rfl⟩,?_,?_⟩
 ·rw[e1];exact Ev.bind D (Ev.bind ⟨0,fun n _=>qlY (by omega) (by omega) (by omega)⟩ .done)
 ·rw[z];unfold qki;rw[t];refine Ev.bind F ?_;have H:w*w<=3000000000*3000000000:=Jk s s f (by omega);have x:=jZ f f;have u:(fun n=>qfA n w 500 mode)=fun _=>V (divI w 500 mode):=by
   funext n
   rw[quN (m:=0),qlY (by omega) (by omega) (by omega)]
  have i:=congrFun u;simp only[wO (w*w),jN f,wO (w / 500),wO (w / 500+1),i,jd];rcases o with rfl|rfl
  ·rw[if_neg (by omega)];exact .done
  ·by_cases c:w*w<250000*(sl*sl)+d*d
   ·rw[if_pos ⟨rfl,c⟩,decide_eq_true c];exact .done
   ·rw[if_neg fun h=>c h.2,decide_eq_false c];exact .done
theorem qvO{t:qy}(h:TbOk t/\∀k,0<=at0 t.Bj k)(sl ld mode:Int):∃r:Int,0<=r/\r<=1000000/\Ev (fun n=>qgG n t sl ld mode) r/\Ev (fun n=>qda n t sl ld mode) r:=by
 obtain⟨S,D,D0,S1,_,_,_,S0,a⟩:=qBw h.1 sl ld;obtain⟨b,c⟩:=quD (mode:=mode) D0 (S0 h.2) S1;exact⟨_,b,c,a mode⟩
theorem qw2{b:qh}{ex:List Int}{x:qx}{j net:Nat}(jl:j<(places b.Aa).length)(c:(gt (places b.Aa) j).net=(net:Int))(a:W64 (x.To.tdiv 2)=(j:Int))(n:Nat):qfo n (V (viewE b ex)) x=V (net:Int):=by
 unfold qfo;show(idx (places b.Aa) (W64 (x.To.tdiv 2))).bind _=_;rw[a,qA jl];exact congrArg V c
theorem qzQ{b:qh}{ex:List Int}(h:blockB b=true){x:qx}{i j m net a:Nat}(c:CLk b x i j m net a)(n:Nat):qgZ n (V (viewE b ex)) x=V (gt (cellAt b (i:Int)).Bc a):=by
 obtain⟨⟨d,f⟩,_,_⟩:=qh1 (qar h) c.il;unfold qgZ;show(idx (places b.Aa) (W64 (x.To.tdiv 2))).bind (fun g=>(idx b.Aa.Ab g.instance_).bind fun k=>(idx b.Au.Ay k.Bv).bind fun l=>(idx l.Bc x.Cb).bind fun o=>V o)=_;rw[c.half,qA c.jl,jd,c.inst,qA c.il,jd,qgq d f,jd,c.ix];show(idx (cellAt b (i:Int)).Bc (a:Int)).bind _=_;rw[qA c.al];rfl
theorem qtW{b:qh}(h:blockB b=true){x:qx}{i j m net a:Nat}(c:CLk b x i j m net a):Ev (fun n=>qkK n b x) (gt (cellAt b (i:Int)).Bc a,load0 b net):=by
 have d:=qar h;have t:=qQ d;obtain⟨⟨f,g⟩,_,_⟩:=qh1 d c.il;have s:idx ((places b.Aa).map toSp) (j:Int)=V (toSp (gt (places b.Aa) j)):=by
  refine qas ?_;rw[List.getElem?_map,jh c.jl,qcG c.jl];rfl
 have p:=qnT h c.nl;have r:=(qbD h c.nl).lo;have k:(toSp (gt (places b.Aa) j)).instance_=(i:Int):=c.inst;have l:(toSp (gt (places b.Aa) j)).net=(net:Int):=c.net_;have o:idx (gt b.Au.Ay (gt b.Aa.Ab i).Bv.toNat).Bc (a:Int)=V (gt (cellAt b (i:Int)).Bc a):=qA c.al;unfold qkK;refine Ev.bind (qi3 t) ?_;simp only[c.half,s,jd,k,l,qA c.il,qgq f g,c.ix,o];refine Ev.bind (qrv h c.nl) ?_;rw[show idx (loadsL b net) (0:Int)=V (load0 b net) from qA (j:=0) (by omega)];exact .done
theorem qtV{b:qh}(h:blockB b=true){x:qx}{j net k:Nat}(a:WLk b x j net k):Ev (fun n=>qkU n b x) (net:Int):=by
 have f:=qQ (qar h);have d:idx ((places b.Aa).map toSp) (j:Int)=V (toSp (gt (places b.Aa) j)):=by
  refine qas ?_;rw[List.getElem?_map,jh a.jl,qcG a.jl];rfl
 have c:(toSp (gt (places b.Aa) j)).net=(net:Int):=a.net_;unfold qkU;refine Ev.bind (qi3 f) ?_;simp only[a.half,d,jd,c];exact .done
theorem qsf{b:qh}{c:qu}(ex:List Int)(h:blockB b=true)(N:cornerB c=true){k:Nat}(O:k<(linksL b).length){sl mode:Int}(s0:0<=sl)(s1:sl<=1000000)(Y:mode=0\/mode=1) :
  (∃D:Int,Ev (fun n=>qca n b c (gt (linksL b) k) sl mode) D/\Ev (fun n=>qbo n (V (viewE b ex)) c (k:Int) sl mode) D) /\
  ∃S:Int,0<=S/\S<=1000000/\Ev (fun n=>qcB n b (gt (linksL b) k) sl mode) S/\Ev (fun n=>qaQ n (V (viewE b ex)) (k:Int) sl mode) S:=by
 have t:idx (viewE b ex).links (k:Int)=V (gt (linksL b) k):=qA O;obtain⟨d,_⟩:=qiV h (qnN O);generalize gt (linksL b) k=x at d t;rcases d with⟨i,j,m,net,a,d⟩|⟨j,net,q,d⟩
 ·have l:=qw2 (ex:=ex) d.jl d.net_ d.half;have o:=qzQ (ex:=ex) h d;have s:idx (viewE b ex).loads (net:Int)=V (load0 b net):=qh0 (f:=load0 b) d.nl;obtain⟨f,W,B,I,H⟩:=qtY N (kind:=x.Bi) (mode:=mode);have A:m<(gt (cellAt b (i:Int)).Bc a).Bp.length:=by rw[d.d2];exact d.ml
  have J:m<(gt (cellAt b (i:Int)).Bc a).Be.length:=by rw[d.s2];exact d.ml
  obtain⟨r,r0,r1,rs,ri⟩:=qvO (d.dt _ (qnN A)) sl (load0 b net) mode;obtain⟨u,P,u1,L,K⟩:=qvO (d.st _ (qnN J)) sl (load0 b net) mode;obtain⟨y,z⟩:=qvs (mode:=mode) r0 (by omega) (show 0<=f by omega) B;have g:(x.Bi==1)=true:=by rw[d.kind];rfl
  refine⟨⟨divI (r*f) 1000 mode,?_,?_⟩,⟨u,P,u1,?_,?_⟩⟩
  ·unfold qca;refine Ev.tt g (Ev.bind (qtW h d) ?_);simp only[d.mod,qA A,jd,I];exact Ev.bind rs (Ev.bind ⟨0,fun n _=>y n⟩ .done)
  ·unfold qbo;simp only[jd,t,l,s,o,d.mod,qA A,H];exact Ev.tt g (Ev.bind ri (Ev.bind ⟨0,fun n _=>z n⟩ .done))
  ·unfold qcB;refine Ev.tt g (Ev.bind (qtW h d) ?_);simp only[d.mod,qA J,jd];exact Ev.bind L .done
  ·unfold qaQ;simp only[jd,t,l,s,o,d.mod,qA J];refine Ev.tt g (Ev.bind K (Ev.now ?_));rw[if_neg (by omega)]
 ·have l:=qw2 (ex:=ex) d.jl d.net_ d.half;have p:idx (viewE b ex).delays (net:Int)=V (exactL b net):=qh0 (f:=exactL b) d.nl;have C:(exactL b net).length=(gt b.Ai net).Bn.length:=by unfold exactL;rw[ju]
  have v:q<(exactL b net).length:=by rw[C];exact d.kl
  obtain⟨Q,x1⟩:=qsl h d.nl d.kl;obtain⟨f,W,B,I,H⟩:=qtY N (kind:=x.Bi) (mode:=mode);have R:=fun n=>qlY (n:=n) (a:=gt (exactL b net) q) (b:=1000) (mode:=mode) (by omega) (by omega) (by omega);obtain⟨p0,p1⟩:=quD (a:=gt (exactL b net) q) (b:=1000) (mode:=mode) (M:=344000) (by omega) Q (by omega);obtain⟨y,z⟩:=qvs (mode:=mode) p0 (by omega) (show 0<=f by omega) B;have g:(x.Bi==1)=false:=by rw[d.kind];rfl
  have hi:idx ((exactL b net).map fun x=>divI x 1000 mode) (q:Int)=V (divI (gt (exactL b net) q) 1000 mode):=by
   rw[qA (by rw[ju];exact v),qqI v]
  obtain⟨u,P,_,L,K⟩:=qyj s0 s1 Q x1 Y;refine⟨⟨divI (divI (gt (exactL b net) q) 1000 mode*f) 1000 mode,?_,?_⟩,⟨if u<1000000 then u else 1000000,by split<;>omega,by split<;>omega,?_,?_⟩⟩
  ·unfold qca;refine Ev.ff g (Ev.bind (qtV h d) (Ev.bind (qqX h d.nl) ?_));simp only[d.ix,hi,jd,I];exact Ev.bind ⟨0,fun n _=>y n⟩ .done
  ·unfold qbo;simp only[jd,t,l,p,d.ix,qA v,H];refine Ev.ff g (Ev.bind (b:=divI (gt (exactL b net) q) 1000 mode) ⟨0,fun n _=>(quN (m:=0)).trans (R 0)⟩ (Ev.bind ⟨0,fun n _=>z n⟩ .done))
  ·have e:=qbD h d.nl;have F:=e.sin q d.kl;have X:=qoW h d.nl;have T:gt (exactL b net) q=gt (delaysL b net) (at0 (gt b.Ai net).Bn q).toNat:=by
    unfold exactL;rw[qcG (by rw[ju];exact d.kl),List.getElem_map,qo5 d.kl]
   unfold qcB qnD;refine Ev.ff g (Ev.bind (qtV h d) ?_);simp only[d.ix,qA d.nl,jd,qat d.kl];refine Ev.bind (b:=u) (Ev.bind (qqo h d.nl) ?_) .done;rw[qgq F.1 (show at0 (gt b.Ai net).Bn q<((delaysL b net).length:Int) by omega)];simp only[jd];rw[<-T];exact L
  ·unfold qaQ;simp only[jd,t,l,p,d.ix,qA v];refine Ev.ff g (Ev.bind K (Ev.now ?_))
   congr 1
   split<;>split<;>omega
theorem qsh{b:qh}{c:qu}(h:blockB b=true)(g:cornerB c=true){k:Nat}(i:k<(linksL b).length){sl mode:Int}(s0:0<=sl)(m:sl<=1000000)(l:mode=0\/mode=1) :
  (∃D:Int,Ev (fun n=>qca n b c (gt (linksL b) k) sl mode) D/\∀ex,Ev (fun n=>qbo n (V (viewE b ex)) c (k:Int) sl mode) D) /\
  ∃S:Int,0<=S/\S<=1000000/\Ev (fun n=>qcB n b (gt (linksL b) k) sl mode) S/\∀ex,Ev (fun n=>qaQ n (V (viewE b ex)) (k:Int) sl mode) S:=by
 obtain⟨⟨D,o,_⟩,⟨S,a,c',d,_⟩⟩:=qsf [] h g i s0 m l;refine⟨⟨D,o,fun ex=>?_⟩,⟨S,a,c',d,fun ex=>?_⟩⟩
 ·obtain⟨⟨D',e1,f⟩,_⟩:=qsf ex h g i s0 m l;rw[o.uniq e1];exact f
 ·obtain⟨_,⟨S',_,_,e1,f⟩⟩:=qsf ex h g i s0 m l;rw[d.uniq e1];exact f

def slR(s:qe):Prop:=(0<=s.Ba/\s.Ba<=1000000)/\(0<=s.Bg/\s.Bg<=1000000)
def SpansS(b:qh)(c:qu)(f:Nat->qe->qe×qe):Prop:=∀k s,k<(linksL b).length->slR s->slR (f k s).2/\Ev (fun n=>qiz n b c (gt (linksL b) k) s) (f k s)
def SpansI(b:qh)(c:qu)(ex:List Int)(f:Nat->qe->qe×qe):Prop:=∀k s,k<(linksL b).length->slR s->slR (f k s).2/\Ev (fun n=>qg1 n (V (viewE b ex)) c (k:Int) s) (f k s)
def exK(b:qh)(ex:List Int)(k:Nat):Int:=bif (gt (linksL b) k).Bi==2 then gt ex (gt (places b.Aa) ((gt (linksL b) k).To / 2).toNat).net.toNat else 0
def wideS(e:Int)(s:qe):qe:=⟨W64 (s.Ba-e),W64 (s.Bg+e)⟩
def wideF(b:qh)(ex:List Int)(f:Nat->qe->qe×qe)(k:Nat)(s:qe):qe×qe:=bif decide (0<ex.length)&&((gt (linksL b) k).Bi==2) then(wideS (exK b ex k) (f k s).1,(f k s).2) else f k s
theorem qvp{b:qh}{c:qu}(h:blockB b=true)(D:cornerB c=true):∃f,SpansS b c f/\∀ex:List Int,ex.length=0\/ex.length=b.Ai.length->SpansI b c ex (wideF b ex f):=by
 have C:∀x:Nat×qe,∃r:qe×qe,x.1<(linksL b).length->slR x.2->slR r.2/\Ev (fun n=>qiz n b c (gt (linksL b) x.1) x.2) r/\∀ex:List Int,ex.length=0\/ex.length=b.Ai.length->Ev (fun n=>qg1 n (V (viewE b ex)) c (x.1:Int) x.2) (wideF b ex (fun _ _=>r) x.1 x.2):=by
  rintro⟨k,s⟩;by_cases d:k<(linksL b).length/\slR s
  ·obtain⟨d,⟨e0,e1⟩,⟨J,K⟩⟩:=d;obtain⟨⟨l,X,q1⟩,⟨t,a1,b1,v1,w1⟩⟩:=qsh h D d e0 e1 (mode:=0) (.inl Z);obtain⟨⟨d2,Y,q2⟩,⟨u,a2,b2,v2,w2⟩⟩:=qsh h D d e0 e1 (mode:=1) (.inr Z);obtain⟨⟨o,e,q3⟩,⟨v,a3,b3,v3,w3⟩⟩:=qsh h D d J K (mode:=0) (.inl Z);obtain⟨⟨p,p4,q4⟩,⟨y,a4,b4,v4,w4⟩⟩:=qsh h D d J K (mode:=1) (.inr Z);refine⟨(⟨if o<l then o else l,if p > d2 then p else d2⟩,⟨if v<t then v else t,if y > u then y else u⟩),fun _ _=>⟨⟨?_,?_⟩,?_,fun ex B=>?_⟩⟩
   ·show 0<=(if v<t then v else t)/\(if v<t then v else t)<=1000000;split<;>omega
   ·show 0<=(if y > u then y else u)/\(if y > u then y else u)<=1000000;split<;>omega
   ·unfold qiz;exact Ev.bind X (Ev.bind Y (Ev.bind v1 (Ev.bind v2 (Ev.bind e (Ev.bind p4 (Ev.bind v3 (Ev.bind v4 .done)))))))
   ·unfold qg1;refine Ev.bind (q1 ex) (Ev.bind (q3 ex) (Ev.bind (q2 ex) (Ev.bind (q4 ex) ?_)));have W:idx (viewE b ex).links (k:Int)=V (gt (linksL b) k):=qA d;have g:(viewE b ex).extras=ex:=rfl;simp only[jd,W,g];unfold wideF;have fin:∀r:Int×Int,Ev (fun n=>(qaQ n (V (viewE b ex)) (k:Int) s.Ba 0).bind fun L=>(qaQ n (V (viewE b ex)) (k:Int) s.Bg 0).bind fun M=>(qaQ n (V (viewE b ex)) (k:Int) s.Ba 1).bind fun N=>(qaQ n (V (viewE b ex)) (k:Int) s.Bg 1).bind fun O=>
      V ((⟨r.1,r.2⟩:qe),(⟨if M<L then M else L,if O > N then O else N⟩:qe))) ((⟨r.1,r.2⟩:qe),(⟨if v<t then v else t,if y > u then y else u⟩:qe)):=fun r=>Ev.bind (w1 ex) (Ev.bind (w3 ex) (Ev.bind (w2 ex) (Ev.bind (w4 ex) .done)))
    rw[show decide ((ex.length:Int) > 0)=decide (0<ex.length) by rw[decide_eq_decide];omega];cases hl:decide (0<ex.length)
    ·exact Ev.bind (b:=false) (Ev.now Z) (Ev.bind (b:=(if o<l then o else l,if p > d2 then p else d2)) (Ev.now Z) (fin _))
    ·cases hkd:(gt (linksL b) k).Bi==2
     ·exact Ev.bind (b:=false) (Ev.now Z) (Ev.bind (b:=(if o<l then o else l,if p > d2 then p else d2)) (Ev.now Z) (fin _))
     ·obtain⟨H,_⟩:=qiV h (qnN d);rcases H with⟨i,j,m,net,a,g⟩|⟨j,net,q,g⟩
      ·rw[g.kind] at hkd;cases hkd
      ·have S:=qw2 (ex:=ex) g.jl g.net_ g.half;have I:net<ex.length:=by
        have:=of_decide_eq_true hl;have:=g.nl;omega
       have R:=(qiV h (qnN d)).2.2;have T:=qaU (qQ (qar h));have Q:((gt (linksL b) k).To / 2).toNat=j:=by
        have:=g.half;rw[jN R.1,qM (by omega) (by omega)] at this;omega
       have P:exK b ex k=gt ex net:=by
        unfold exK;rw[hkd,Q,g.net_,jr]
        rfl
       refine Ev.bind (b:=true) (Ev.now Z) (Ev.bind (b:=(W64 ((if o<l then o else l)-gt ex net),W64 ((if p > d2 then p else d2)+gt ex net))) ?_ ?_)
       ·simp only[S,jd,qA I];exact .done
       ·rw[P];exact fin _
  ·exact⟨(s,s),fun z A=>absurd ⟨z,A⟩ d⟩
 obtain⟨f,F⟩:=Classical.axiomOfChoice C;exact⟨fun k s=>f (k,s),fun k s z A=>⟨(F (k,s) z A).1,(F (k,s) z A).2.1⟩,fun ex B k s z A=>⟨by
  have:=(F (k,s) z A).1;unfold wideF;cases decide (0<ex.length)&&((gt (linksL b) k).Bi==2)<;>exact this,(F (k,s) z A).2.2 ex B⟩⟩
theorem quc{b:qh}{f:Nat->qe->qe×qe}:wideF b [] f=f:=rfl
def zSp:qe:=⟨0,0⟩
def zSrc:qf:=⟨0,zSp,zSp⟩
def hullS(s t:qe):qe:=⟨if t.Ba<s.Ba then t.Ba else s.Ba,if t.Bg > s.Bg then t.Bg else s.Bg⟩
theorem qtT{s t:qe}:(⟨if s.Ba<t.Ba then s.Ba else t.Ba,if s.Bg > t.Bg then s.Bg else t.Bg⟩:qe)=hullS s t:=by
 unfold hullS
 congr 1
 ·split<;>split<;>omega
 ·split<;>split<;>omega
def plusS(s t:qe):qe:=⟨W64 (s.Ba+t.Ba),W64 (s.Bg+t.Bg)⟩
def joinS(node:Int)(s:Bool×qf)(a sl:qe):Bool×qf:=bif s.1 then(true,⟨node,hullS s.2.Ah a,hullS s.2.Be sl⟩) else(true,⟨node,a,sl⟩)
def frN(ls:List qx)(k:Nat):Nat:=(gt ls k).Bm.toNat
def stepS(f:Nat->qe->qe×qe)(ls:List qx)(t:qr)(node:Int)(s:Bool×qf)(k:Nat):Bool×qf:=
 bif gt t.Bb (frN ls k) then joinS node s (plusS (gt t.Ah (frN ls k)) (f k (gt t.Be (frN ls k))).1) (f k (gt t.Be (frN ls k))).2 else s
def toQ(ls:List qx)(lv:List Bool)(node:Int)(k:Nat):Bool:=lvL lv k&&(toL ls k==node)
def srcO(xs:List qf)(node:Int):Option qf:=xs.find? fun s=>s.Bs==node
def srcV(o:Option qf):Bool×qf:=match o with|some y=>(true,y)|none=>(false,zSrc)
def ndS(f:Nat->qe->qe×qe)(ls:List qx)(lv:List Bool)(t:qr)(node:Int)(s0:Bool×qf):Nat->Bool×qf
 |0=>s0
 |k+1=>bif toQ ls lv node k then stepS f ls t node (ndS f ls lv t node s0 k) k else ndS f ls lv t node s0 k
theorem qzY{f:Nat->qe->qe×qe}{ls:List qx}{lv:List Bool}{t:qr}{node:Int}{s0:Bool×qf}{j:Nat}:(selN (toQ ls lv node) j).foldl (stepS f ls t node) s0=ndS f ls lv t node s0 j:=by
 induction j with
 |zero=>rfl
 |succ j ih=>
  rw[qkc,List.foldl_append,ih];show _=bif toQ ls lv node j then stepS f ls t node (ndS f ls lv t node s0 j) j else ndS f ls lv t node s0 j;cases toQ ls lv node j<;>rfl
structure TmOk(t:qr)(M:Nat):Prop where
 r:t.Bb.length=M
 a:t.Ah.length=M
 s:t.Be.length=M
 sl:∀k,k<M->slR (gt t.Be k)
structure SrcOk(xs:List qf):Prop where
 len:xs.length<=1048576
 inc:∀j i,i<j->j<xs.length->(gt xs i).Bs<(gt xs j).Bs
 sl:∀x,x∈xs->slR x.Be
theorem qqq{xs:List qf}{node:Int}(g:xs.length<=1048576):Ev (fun n=>qdU n xs node) ((srcV (srcO xs node)).2,(srcV (srcO xs node)).1):=by
 have c:Ev (fun n=>qaM n xs node) (ixL (fun s=>s.Bs==node) xs):=
  qg0 (fin:=(xs.length:Int)) (Lf:=qY xs node) (xs:=xs) (pf:=fun n x=>qk2 n x node) (fun _ _=>.done)
   (fun n=>by simp only[qY,qk (je _),cond_false])
   (fun n j x b=>by
    have a:=(List.getElem?_eq_some_iff.1 b).1;simp only[qY,qj a,cond_true,qas b,jd,wS j])
   (fun n=>by unfold qaM;congr 1;funext o;cases o<;>rfl)
 unfold qdU;refine Ev.bind c ?_;unfold ixL srcO;cases hf:xs.findIdx? (fun s=>s.Bs==node) with
 |none=>
  have:xs.find? (fun s=>s.Bs==node)=U:=by
   rw[List.find?_eq_none];intro x b;have:=List.findIdx?_eq_none_iff.1 hf x b;simpa using this
  rw[this];exact Ev.ff Z .done
 |some j=>
  obtain⟨a,f,d⟩:=List.findIdx?_eq_some_iff_getElem.1 hf;have:xs.find? (fun s=>s.Bs==node)=V xs[j]:=by
   rw[List.find?_eq_some_iff_getElem];exact⟨f,j,a,rfl,fun i hi=>by have:=d i hi;simpa using this⟩
  rw[this];refine Ev.tt (show decide ((j:Int)>=0)=true from decide_eq_true (by omega)) ?_;show Ev (fun n=>(idx xs (j:Int)).bind _) _;rw[qdA a];exact .done
theorem qna{xs:List qf}{node:Int}{y:qf}(h:srcO xs node=V y):y.Bs=node/\y∈xs:=by
 have a:=List.find?_some h;exact⟨by simpa using a,List.mem_of_find?_eq_some h⟩
theorem qAM{xs:List qf}{node:Int}(h:SrcOk xs) :
  Ev (fun n=>qdq xs node n 0 0 0 0 0 false 0) ((srcV (srcO xs node)).2.Bs,(srcV (srcO xs node)).2.Ah.Ba,(srcV (srcO xs node)).2.Ah.Bg,(srcV (srcO xs node)).2.Be.Ba,(srcV (srcO xs node)).2.Be.Bg,(srcV (srcO xs node)).1,(xs.length:Int)):=by
 have g:=h.len;have:=loopF (τ:=Bool×qf) (Lf:=fun n s j=>qdq xs node n s.2.Bs s.2.Ah.Ba s.2.Ah.Bg s.2.Be.Ba s.2.Be.Bg s.1 j) (S:=fun j=>srcV (srcO (xs.take j) node)) (len:=xs.length)
  (fin:=((srcV (srcO xs node)).2.Bs,(srcV (srcO xs node)).2.Ah.Ba,(srcV (srcO xs node)).2.Ah.Bg,(srcV (srcO xs node)).2.Be.Ba,(srcV (srcO xs node)).2.Be.Bg,(srcV (srcO xs node)).1,(xs.length:Int)))
  (fun n=>by simp only[qdq,qk (je _),cond_false,jE])
  (fun j a X c=>by
   simp only[qdq,qj a,cond_true,qA a,jd,wS j];have e:srcO (xs.take (j+1)) node=(srcO (xs.take j) node).or (bif (gt xs j).Bs==node then V (gt xs j) else U):=by
    unfold srcO;rw[js a,List.find?_append,<-qcG a]
    congr 1
   cases hq:(gt xs j).Bs==node
   ·rw[hq] at e;have e:srcO (xs.take (j+1)) node=srcO (xs.take j) node:=by rw[e];cases srcO (xs.take j) node<;>rfl
    rw[e] at c;exact c
   ·rw[hq] at e;have d:srcO (xs.take j) node=U:=by
     unfold srcO;rw[List.find?_eq_none];intro x f b;obtain⟨i,hi,rfl⟩:=List.mem_iff_getElem.1 f;rw[jw] at hi;rw[Je,<-qcG (by omega)] at b;have:=h.inc j i (by omega) a;simp only[beq_iff_eq] at hq b;omega
    have e:srcO (xs.take (j+1)) node=V (gt xs j):=by rw[e,d];rfl
    rw[e] at c;exact c)
 exact this
theorem qk3{ls:List qx}{M:Nat}(h:LkOk ls M){k:Nat}(a:k<ls.length):(gt ls k).Bm=(frN ls k:Int)/\frN ls k<M:=by
 have b:=h.fr0 k a;have c:=h.fr1 k a;unfold frN;omega
section
variable{b:qh}{c:qu}{ex:List Int}{f:Nat->qe->qe×qe}{lv:List Bool}{t:qr}{xs:List qf}{node:Int}
theorem qAd(h:blockB b=true)(o:SpansS b c f)(v:lv.length=(linksL b).length)(i:TmOk t (2*(places b.Aa).length))(r:SrcOk xs) :
  Ev (fun n=>qjw n b c (linksL b) lv xs t node) (ndS f (linksL b) lv t node (srcV (srcO xs node)) (linksL b).length):=by
 have k:=qgt h;have p:=k.len;have m:=loopF (τ:=Bool×qf) (Lf:=fun n s j=>qdr b c (linksL b) lv t node n s.2.Bs s.2.Ah.Ba s.2.Ah.Bg s.2.Be.Ba s.2.Be.Bg s.1 j) (S:=fun j=>ndS f (linksL b) lv t node (srcV (srcO xs node)) j) (len:=(linksL b).length)
  (fin:=(fun s:Bool×qf=>(s.2.Bs,s.2.Ah.Ba,s.2.Ah.Bg,s.2.Be.Ba,s.2.Be.Bg,s.1,((linksL b).length:Int))) (ndS f (linksL b) lv t node (srcV (srcO xs node)) (linksL b).length))
  (fun n=>by simp only[qdr,qk (je _),cond_false])
  (fun j g X a=>by
   obtain⟨e1,d⟩:=qk3 k g;have l:ndS f (linksL b) lv t node (srcV (srcO xs node)) (j+1)=bif toQ (linksL b) lv node j then stepS f (linksL b) t node (ndS f (linksL b) lv t node (srcV (srcO xs node)) j) j else ndS f (linksL b) lv t node (srcV (srcO xs node)) j:=rfl;rw[l] at a;generalize ndS f (linksL b) lv t node (srcV (srcO xs node)) j=s at a⊢;simp only[qdr,qj g,cond_true,qA g,qA (show j<lv.length by omega),jd,e1,qA (show frN (linksL b) j<t.Bb.length by rw[i.r];exact d),qA (show frN (linksL b) j<t.Ah.length by rw[i.a];exact d),qA (show frN (linksL b) j<t.Be.length by rw[i.s];exact d),wS j];unfold toQ lvL toL at a;cases h1:gt lv j
   ·rw[h1] at a;exact a
   rw[h1,jG] at a;cases h2:(gt (linksL b) j).To==node
   ·rw[h2] at a;simp only[bne,h2];exact a
   rw[h2] at a;simp only[bne,h2];unfold stepS at a;cases h3:gt t.Bb (frN (linksL b) j)
   ·rw[h3] at a;exact a
   rw[h3] at a;simp only[cond_true] at a;obtain⟨_,u⟩:=o j _ g (i.sl _ d);refine Ev.bind (b:=false) (Ev.now Z) (Ev.ff Z (Ev.bind u ?_));generalize f j (gt t.Be (frN (linksL b) j))=q at a⊢;unfold joinS at a;cases h4:s.1
   ·rw[h4] at a;exact a
   ·rw[h4] at a;simp only[qlp,jd,cond_true];have a1:=qtT (s:=s.2.Ah) (t:=plusS (gt t.Ah (frN (linksL b) j)) q.1);have a2:=qtT (s:=s.2.Be) (t:=q.2);simp only[cond_true] at a;rw[<-a1,<-a2] at a;exact a)
 unfold qjw;exact Ev.bind (qAM r) (Ev.bind m .done)
theorem qzP{ls:List qx}{M:Nat}{ps:List Tplace}{lo:List Int}{de:List (List Int)}{ex:List Int}(h:LkOk ls M)(k:lv.length=ls.length):Ev (fun n=>qhk n (grV ls lv ps b lo de ex) node) (ints (selN (toQ ls lv node) ls.length)):=by
 have g:=h.len;have f:Ev (fun n=>qN node ⟨V ⟨b,ps,ls,lo,de,ex⟩,lv⟩ ⟨b,ps,ls,lo,de,ex⟩ n ([]:List Int) 0) (ints (selN (toQ ls lv node) ls.length),(ls.length:Int)):=by
  refine qqP (q:=toQ ls lv node) (Lf:=qN node ⟨V ⟨b,ps,ls,lo,de,ex⟩,lv⟩ ⟨b,ps,ls,lo,de,ex⟩) (len:=ls.length) (by omega) (Ev.succ ?_) (fun j d t i X c a=>?_)
  ·simp only[qN,qk (je _),cond_false];exact .done
  ·simp only[qN,qj d,cond_true,qA d,qA (show j<lv.length by omega),jd,qkZ,i,wS j];unfold toQ lvL toL at c a;cases hq:gt lv j
   ·simp only[cond_false];exact a (by rw[hq];rfl)
   ·simp only[cond_true];cases hw:(gt ls j).To==node
    ·simp only[cond_false];exact a (by rw[hq,hw];rfl)
    ·simp only[cond_true];exact c (by rw[hq,hw];rfl)
 unfold qhk qcX grV;simp only[jd];exact Ev.bind (Ev.bind f .done) .done
def fixS(node:Int)(s:Bool×qf):Bool×qf:=bif s.1 then s else(false,⟨node,zSp,zSp⟩)
theorem qzw(h:blockB b=true)(I:SpansI b c ex f)(K:lv.length=(linksL b).length)(v:TmOk t (2*(places b.Aa).length))(O:xs.length<=1048576) :
  Ev (fun n=>qdW n (V ⟨V (viewE b ex),lv⟩) c xs t node) (ndS f (linksL b) lv t node (srcV (srcO xs node)) (linksL b).length):=by
 have A:=qgt h;have J:=A.len;have D:=qnn (q:=toQ (linksL b) lv node) (j:=(linksL b).length);have L:∀j,(ndS f (linksL b) lv t node (srcV (srcO xs node)) j).1=true->(ndS f (linksL b) lv t node (srcV (srcO xs node)) j).2.Bs=node:=by
  intro j
  induction j with
  |zero=>
   show(srcV (srcO xs node)).1=true->(srcV (srcO xs node)).2.Bs=node;cases d:srcO xs node with
   |none=>intro e;cases e
   |some y=>exact fun _=>(qna d).1
  |succ j ih=>
   unfold ndS;cases toQ (linksL b) lv node j
   ·exact ih
   ·simp only[cond_true];unfold stepS;cases gt t.Bb (frN (linksL b) j)
    ·exact ih
    ·simp only[cond_true];unfold joinS;cases (ndS f (linksL b) lv t node (srcV (srcO xs node)) j).1<;>exact fun _=>rfl
 have hz:∀j,(ndS f (linksL b) lv t node (srcV (srcO xs node)) j).1=false->(ndS f (linksL b) lv t node (srcV (srcO xs node)) j).2=zSrc:=by
  intro j
  induction j with
  |zero=>
   show(srcV (srcO xs node)).1=false->(srcV (srcO xs node)).2=zSrc;cases srcO xs node with
   |none=>exact fun _=>rfl
   |some y=>intro e;cases e
  |succ j ih=>
   unfold ndS;cases toQ (linksL b) lv node j
   ·exact ih
   ·simp only[cond_true];unfold stepS;cases gt t.Bb (frN (linksL b) j)
    ·exact ih
    ·simp only[cond_true];unfold joinS;cases (ndS f (linksL b) lv t node (srcV (srcO xs node)) j).1<;>(intro e;cases e)
 have F:∀(l:List Nat) (s:Bool×qf),(∀k,k∈l->toQ (linksL b) lv node k=true)->l.foldl (fun s k=>fixS node (stepS f (linksL b) t node s k)) (fixS node s)=fixS node (l.foldl (stepS f (linksL b) t node) s):=by
  intro l
  induction l with
  |nil=>intro s _;rfl
  |cons k l ih=>
   intro s M;have e:fixS node (stepS f (linksL b) t node (fixS node s) k)=fixS node (stepS f (linksL b) t node s k):=by
    unfold stepS;obtain⟨m,s2⟩:=s;cases gt t.Bb (frN (linksL b) k)<;>cases m<;>rfl
   rw[List.foldl_cons,List.foldl_cons,e];exact ih _ fun P g=>M P (jo _ g)
 have C:=(qt1 (τ:=Bool×qf) (xs:=selN (toQ (linksL b) lv node) (linksL b).length) (Lf:=fun n s j=>qbv (V ⟨V (viewE b ex),lv⟩) c t (ints (selN (toQ (linksL b) lv node) (linksL b).length)) n s.1 s.2.Bs s.2.Ah.Ba s.2.Ah.Bg s.2.Be.Ba s.2.Be.Bg j)
  (step:=fun s k=>fixS node (stepS f (linksL b) t node s k)) (fin:=fun s=>(s.1,s.2.Bs,s.2.Ah.Ba,s.2.Ah.Bg,s.2.Be.Ba,s.2.Be.Bg,((ints (selN (toQ (linksL b) lv node) (linksL b).length)).length:Int))) (fixS node (srcV (srcO xs node))) (fun _ s=>s=fixS node s/\s.2.Bs=node) (by
   constructor
   ·unfold fixS;cases d:(srcV (srcO xs node)).1
    ·rfl
    ·simp only[d,cond_true]
   ·unfold fixS;cases d:srcO xs node with
    |none=>rfl
    |some y=>exact(qna d).1)
  (fun j s r d=>by
   obtain⟨Q,H⟩:=d;have B:(stepS f (linksL b) t node s (selN (toQ (linksL b) lv node) (linksL b).length)[j]).2.Bs=node:=by
    unfold stepS;cases gt t.Bb (frN (linksL b) (selN (toQ (linksL b) lv node) (linksL b).length)[j])
    ·exact H
    ·unfold joinS;cases s.1<;>rfl
   constructor
   ·unfold fixS;cases d:(stepS f (linksL b) t node s (selN (toQ (linksL b) lv node) (linksL b).length)[j]).1
    ·rfl
    ·simp only[d,cond_true]
   ·unfold fixS;cases d:(stepS f (linksL b) t node s (selN (toQ (linksL b) lv node) (linksL b).length)[j]).1
    ·rfl
    ·exact B)
  (fun n s=>by simp only[qbv,qbZ,qk (je _),cond_false])
  (fun j s r d X a=>by
   obtain⟨x,i⟩:=d;have hi:=qmH r;have u:(selN (toQ (linksL b) lv node) (linksL b).length)[j]<(linksL b).length:=(qfx.1 (jp r)).1;generalize (selN (toQ (linksL b) lv node) (linksL b).length)[j]=k at hi u a;obtain⟨e1,p⟩:=qk3 A u;have N:idx (viewE b ex).links (k:Int)=V (gt (linksL b) k):=qA u;simp only[qbv,qbZ,qj r,cond_true,hi,N,jd,e1,qA (show frN (linksL b) k<t.Bb.length by rw[v.r];exact p),qA (show frN (linksL b) k<t.Ah.length by rw[v.a];exact p),qA (show frN (linksL b) k<t.Be.length by rw[v.s];exact p),wS j];unfold stepS at a;cases h3:gt t.Bb (frN (linksL b) k)
   ·rw[h3] at a;simp only[cond_false] at a;rw[<-x] at a;exact a
   rw[h3] at a;simp only[cond_true] at a⊢;obtain⟨_,m⟩:=I k _ u (v.sl _ p);refine Ev.bind m ?_;generalize f k (gt t.Be (frN (linksL b) k))=q at a⊢;simp only[ql5,jd];unfold joinS at a;unfold qgo;cases h4:s.1
   ·rw[h4] at a;simp only[Bool.not_false,cond_true,jd];unfold fixS at a;simp only[cond_false,cond_true] at a;rw[i];exact a
   ·rw[h4] at a;simp only[Ji,cond_false,qjN,jd];unfold fixS at a;simp only[cond_true] at a;rw[i];exact a)).1
 rw[F _ _ (fun k g=>(qfx.1 g).2),qzY] at C;unfold qdW;refine Ev.bind (qqq O) ?_;have e0:(bif (srcV (srcO xs node)).1 then(qgo 0 ⟨node,⟨0,0⟩,⟨0,0⟩⟩ false ⟨(srcV (srcO xs node)).2.Ah.Ba,(srcV (srcO xs node)).2.Ah.Bg⟩ ⟨(srcV (srcO xs node)).2.Be.Ba,(srcV (srcO xs node)).2.Be.Bg⟩).bind (fun(x9,x10)=>V (x10,x9.Bs,x9.Ah.Ba,x9.Ah.Bg,x9.Be.Ba,x9.Be.Bg)) else V (false,node,(0:Int),(0:Int),(0:Int),(0:Int))) =
   V ((fixS node (srcV (srcO xs node))).1,(fixS node (srcV (srcO xs node))).2.Bs,(fixS node (srcV (srcO xs node))).2.Ah.Ba,(fixS node (srcV (srcO xs node))).2.Ah.Bg,(fixS node (srcV (srcO xs node))).2.Be.Ba,(fixS node (srcV (srcO xs node))).2.Be.Bg):=by
  cases d:srcO xs node with
  |none=>rfl
  |some y=>
   have:=(qna d).1;unfold fixS srcV;simp only[cond_true,this]
   rfl
 refine Ev.bindN e0 (Ev.bind (qzP (ps:=places b.Aa) (lo:=pre (load0 b) b.Ai.length) (de:=pre (exactL b) b.Ai.length) (ex:=ex) A K) (Ev.bind C ?_));have z:=hz (linksL b).length;generalize ndS f (linksL b) lv t node (srcV (srcO xs node)) (linksL b).length=s at z⊢;unfold fixS;obtain⟨m,s2⟩:=s;cases m
 ·have:=z Z;simp only at this;subst this;exact .done
 ·exact .done
end

theorem qkB{b:qh}(h:blockB b=true):Ev (fun n=>qbQ n b) ((2*(places b.Aa).length:Nat):Int):=by
 have a:=qQ (qar h);have c:=qaU a;unfold qbQ;refine Ev.bind (b:=(places b.Aa).map toSp) (qi3 a) (Ev.now ?_);rw[ju,qM (by omega) (by omega)]
 rfl
theorem qoE{v:Tview}(a:v.places.length<=78)(n:Nat):qcb n (V v)=V ((2*v.places.length:Nat):Int):=by
 unfold qcb qeA;simp only[jd];rw[qM (by omega) (by omega)]
 rfl
def stepN(xs:List qf)(j:Nat):Bool:=decide (j=0) || decide ((gt xs (j-1)).Bs<(gt xs j).Bs)
def srcB(xs:List qf)(M:Nat):Bool:=allN (fun j=>inI (gt xs j).Bs 0 ((M:Int)-1)&&(stepN xs j&&(spanB (gt xs j).Ah&&slewB (gt xs j).Be))) xs.length
theorem qtb{xs:List qf}{j:Nat}(h:j≠0):stepN xs j=decide ((gt xs (j-1)).Bs<(gt xs j).Bs):=by unfold stepN;rw[decide_eq_false h,Bool.false_or]
theorem qto{b:qh}{xs:List qf}(h:blockB b=true)(m:xs.length<=1048576):Ev (fun n=>qgX n b xs) (srcB xs (2*(places b.Aa).length)):=by
 have k:=qaU (qQ (qar h));have e:=qkB h;obtain⟨M,g⟩:∃M,M=2*(places b.Aa).length:=⟨_,rfl⟩;rw[<-g] at e⊢;have l:M<=156:=by omega
 have i:Ev (fun n=>qb7 xs (M:Int) n 0) (bif srcB xs M then .nxt (xs.length:Int) else .ret false):=by
  refine qe6 (Lf:=qb7 xs (M:Int)) (len:=xs.length) (Ev.succ (by simp only[qb7,qk (je _),cond_false];exact .done)) (fun j f X d=>Ev.succ ?_);simp only[qb7,qj f,cond_true,qA f,jd,qdb,qsL,qv7,wS j,wO ((M:Int)-1)];cases inI (gt xs j).Bs 0 ((M:Int)-1)
  ·exact .done
  refine Ev.ff Z ?_;by_cases c:j=0
  ·subst c;refine Ev.ff Z ?_;show Ev _ (bif (stepN xs 0&&_) then X else _);rw[show stepN xs 0=true from rfl];show Ev (fun n=>bif !spanB (gt xs 0).Ah then _ else bif !slewB (gt xs 0).Be then _ else _) _;cases spanB (gt xs 0).Ah
   ·exact .done
   ·cases slewB (gt xs 0).Be
    ·exact .done
    ·exact d
  ·refine Ev.tt (decide_eq_true (by omega)) ?_;rw[show(j:Int)-1=((j-1:Nat):Int) by omega,qM (by omega) (by omega),qA (show j-1<xs.length by omega),qtb c];simp only[jd];by_cases a:(gt xs (j-1)).Bs<(gt xs j).Bs
   ·rw[decide_eq_true a];refine Ev.ff (decide_eq_false (by omega)) ?_;show Ev (fun n=>bif !spanB (gt xs j).Ah then _ else bif !slewB (gt xs j).Be then _ else _) _;cases spanB (gt xs j).Ah
    ·exact .done
    ·cases slewB (gt xs j).Be
     ·exact .done
     ·exact d
   ·rw[decide_eq_false a];exact Ev.tt (decide_eq_true (by omega)) .done
 unfold qgX;refine Ev.bind e (Ev.bind i ?_);cases srcB xs M<;>exact .done
theorem qtC{v:Tview}{xs:List qf}(h:v.places.length<=78)(k:xs.length<=1048576):Ev (fun n=>qd1 n (V v) xs) (srcB xs (2*v.places.length)):=by
 have e:=qoE h;obtain⟨M,f⟩:∃M,M=2*v.places.length:=⟨_,rfl⟩;rw[<-f] at e⊢;have i:M<=156:=by omega
 have g:Ev (fun n=>qa3 (V v) xs n 0) (bif srcB xs M then .nxt (xs.length:Int) else .ret false):=by
  refine qe6 (Lf:=qa3 (V v) xs) (len:=xs.length) (Ev.succ (by simp only[qa3,qk (je _),cond_false];exact .done)) (fun j d X c=>Ev.succ ?_);simp only[qa3,qj d,cond_true,qA d,jd,qjW,e,qec,qrk,qvU,wS j,wO ((M:Int)-1)];cases inI (gt xs j).Bs 0 ((M:Int)-1)
  ·exact .done
  refine Ev.ff Z ?_;show Ev (fun n=>bif !spanB (gt xs j).Ah then _ else bif !slewB (gt xs j).Be then _ else _) _;rw[jG,Bool.and_comm];cases spanB (gt xs j).Ah
  ·exact .done
  ·cases slewB (gt xs j).Be
   ·exact .done
   ·refine Ev.ff Z (Ev.ff Z ?_);rw[jG,jG];by_cases b:j=0
    ·subst b;exact Ev.ff Z c
    ·refine Ev.tt (decide_eq_true (by omega)) ?_;rw[show(j:Int)-1=((j-1:Nat):Int) by omega,qM (by omega) (by omega),qA (show j-1<xs.length by omega),qtb b];simp only[jd];by_cases a:(gt xs (j-1)).Bs<(gt xs j).Bs
     ·rw[decide_eq_true a];exact Ev.ff (decide_eq_false (by omega)) c
     ·rw[decide_eq_false a];exact Ev.tt (decide_eq_true (by omega)) .done
 unfold qd1;refine Ev.bind g ?_;cases srcB xs M<;>exact .done
theorem qo9{xs:List qf}{M:Nat}(f:xs.length<=1048576)(h:srcB xs M=true):SrcOk xs:=by
 unfold srcB at h;rw[qau] at h;refine⟨f,fun j=>?_,fun x g=>?_⟩
 ·induction j with
  |zero=>intro i hi _;omega
  |succ j ih=>
   intro i hi d;have a:=h (j+1) d;rw[qtb (by omega)] at a;simp only[jf,decide_eq_true_eq,Nat.add_sub_cancel] at a;have c:=a.2.1;by_cases b:i=j
   ·rw[b];exact c
   ·have:=ih i (by omega) (by omega);omega
 ·obtain⟨i,hi,rfl⟩:=List.mem_iff_getElem.1 g;have a:=h i hi;rw[<-qcG hi];simp only[jf] at a;have:=a.2.2.2;unfold slewB at this;simp only[jf,decide_eq_true_eq] at this;exact⟨⟨this.1,by omega⟩,by omega,this.2.2⟩
section
variable{L:Nat}{fr to:Nat->Int}{lv:Nat->Bool}{n:Nat}
def OrdOk(L:Nat)(fr to:Nat->Int)(lv:Nat->Bool)(n:Nat)(R:List Nat):Prop:=∀l1 k l2,R=l1++k::l2->k<n/\k∉l1/\inN L fr to lv l1 k=0
theorem OrdOk.snoc{R:List Nat}{k:Nat}(h:OrdOk L fr to lv n R)(f:nxtN L fr to lv n R=V k):OrdOk L fr to lv n (R++[k]):=by
 intro b a g e;rcases List.eq_nil_or_concat g with rfl|⟨l2',z,rfl⟩
 ·obtain⟨rfl,d⟩:=List.append_inj' e Z;obtain rfl:k=a:=by simpa using d
  exact qq3 f
 ·have c:R++[k]=(b++a::l2')++[z]:=by rw[e];simp
  obtain⟨e1,_⟩:=List.append_inj' c Z;exact h b a l2' e1
theorem qBb:∀m R R',OrdOk L fr to lv n R->ordN L fr to lv n m R=V R'->OrdOk L fr to lv n R':=by
 intro m
 induction m with
 |zero=>intro R R' h e;obtain rfl:=Option.some.inj e;exact h
 |succ m ih=>
  intro R R' h e;unfold ordN at e;cases hn:nxtN L fr to lv n R with
  |none=>rw[hn] at e;cases e
  |some k=>
   rw[hn] at e;exact ih _ _ (h.snoc hn) e
theorem OrdOk.at{R:List Nat}(h:OrdOk L fr to lv n R){j:Nat}(a:j<R.length):R[j]<n/\R[j]∉R.take j/\inN L fr to lv (R.take j) R[j]=0:=by
 refine h (R.take j) R[j] (R.drop (j+1)) ?_;rw[<-jz a,jX]
end
theorem qpb{α:Type}[Inhabited α]{xs:List α}{k:Nat}{v:α}(a:k<xs.length)(h:gt xs k=v):setS xs (k:Int) v=xs:=by
 unfold setS;rw[jr,<-h,qcG a];exact List.set_getElem_self a
theorem qiP{α:Type}[Inhabited α]{xs:List α}{a k:Nat}{y:α}(b:a<xs.length):gt (setS xs (a:Int) y) k=if k=a then y else gt xs k:=by
 unfold setS;rw[jr];by_cases h:k=a
 ·subst h;rw[if_pos Z,qro b]
 ·rw[if_neg h,que h]
def setT(t:qr)(k:Nat)(s:Bool×qf):qr:=⟨setS t.Bb (k:Int) s.1,setS t.Ah (k:Int) s.2.Ah,setS t.Be (k:Int) s.2.Be⟩
theorem qva{t:qr}{M k:Nat}{s:Bool×qf}(h:TmOk t M)(c:k<M)(d:slR s.2.Be):TmOk (setT t k s) M where
 r:=by show(setS _ _ _).length=_;rw[qcK];exact h.r
 a:=by show(setS _ _ _).length=_;rw[qcK];exact h.a
 s:=by show(setS _ _ _).length=_;rw[qcK];exact h.s
 sl:=fun j b=>by
  show slR (gt (setS _ _ _) j);rw[qiP (by rw[h.s];exact c)];split
  ·exact d
  ·exact h.sl j b
def Bare(t:qr)(M:Nat)(l:List Nat):Prop:=∀k,k<M->k∉l->gt t.Bb k=false/\gt t.Ah k=zSp/\gt t.Be k=zSp
def zT:qr:=⟨[],[],[]⟩
theorem qy9:slR zSp:=by unfold slR zSp;exact⟨⟨Jd _,by show(0:Int)<=_;omega⟩,Jd _,by show(0:Int)<=_;omega⟩
theorem qBq{s t:qe}(a:slR s)(b:slR t):slR (hullS s t):=by
 obtain⟨⟨a1,a2⟩,c,d⟩:=a;obtain⟨⟨b1,b2⟩,b3,f⟩:=b;refine⟨⟨?_,?_⟩,?_,?_⟩
 ·show(0:Int)<=(if t.Ba<s.Ba then t.Ba else s.Ba);split<;>assumption
 ·show(if t.Ba<s.Ba then t.Ba else s.Ba)<=1000000;split<;>assumption
 ·show(0:Int)<=(if t.Bg > s.Bg then t.Bg else s.Bg);split<;>assumption
 ·show(if t.Bg > s.Bg then t.Bg else s.Bg)<=1000000;split<;>assumption
section
variable{b:qh}{c:qu}{ex:List Int}{f g:Nat->qe->qe×qe}{lv:List Bool}{t:qr}{xs:List qf}{node:Int}
theorem qud(h:blockB b=true)(m:SpansS b c g)(i:∀k s,(f k s).2=(g k s).2)(n:TmOk t (2*(places b.Aa).length))(o:SrcOk xs):∀j,j<=(linksL b).length->slR (ndS f (linksL b) lv t node (srcV (srcO xs node)) j).2.Be:=by
 intro j
 induction j with
 |zero=>
  intro _;show slR (srcV (srcO xs node)).2.Be;cases hs:srcO xs node with
  |none=>exact qy9
  |some y=>exact o.sl y (qna hs).2
 |succ j a=>
  intro p;have a:=a (by omega);obtain⟨_,l⟩:=qk3 (qgt h) (show j<(linksL b).length by omega);have d:=(m j _ (show j<(linksL b).length by omega) (n.sl _ l)).1;rw[<-i] at d;show slR (bif toQ (linksL b) lv node j then stepS f (linksL b) t node (ndS f (linksL b) lv t node (srcV (srcO xs node)) j) j else ndS f (linksL b) lv t node (srcV (srcO xs node)) j).2.Be;cases toQ (linksL b) lv node j
  ·exact a
  ·simp only[cond_true];unfold stepS;cases gt t.Bb (frN (linksL b) j)
   ·exact a
   ·simp only[cond_true];unfold joinS;cases (ndS f (linksL b) lv t node (srcV (srcO xs node)) j).1
    ·exact d
    ·exact qBq a d
theorem qwd(h:blockB b=true)(a:SpansS b c f)(d:TmOk t (2*(places b.Aa).length))(g:SrcOk xs):∀j,j<=(linksL b).length->slR (ndS f (linksL b) lv t node (srcV (srcO xs node)) j).2.Be:=qud h a (fun _ _=>rfl) d g
theorem qAz:∀j,(ndS f (linksL b) lv t node (srcV (srcO xs node)) j).1=false->(ndS f (linksL b) lv t node (srcV (srcO xs node)) j).2=zSrc:=by
 intro j
 induction j with
 |zero=>
  show(srcV (srcO xs node)).1=false->(srcV (srcO xs node)).2=zSrc;cases srcO xs node with
  |none=>exact fun _=>rfl
  |some y=>intro e;cases e
 |succ j ih=>
  unfold ndS;cases toQ (linksL b) lv node j
  ·exact ih
  ·simp only[cond_true];unfold stepS;cases gt t.Bb (frN (linksL b) j)
   ·exact ih
   ·simp only[cond_true];unfold joinS;cases (ndS f (linksL b) lv t node (srcV (srcO xs node)) j).1<;>(intro e;cases e)
def runR(o:Option qr):qr×Bool:=match o with|some t=>(t,true)|none=>(zT,false)
def rnO(f:Nat->qe->qe×qe)(ls:List qx)(lv:List Bool)(xs:List qf):List Nat->qr->Option qr
 | [],t=>V t
 |k::R,t=>bif (ndS f ls lv t (k:Int) (srcV (srcO xs (k:Int))) ls.length).1 then bif spanB (ndS f ls lv t (k:Int) (srcV (srcO xs (k:Int))) ls.length).2.Ah then rnO f ls lv xs R (setT t k (ndS f ls lv t (k:Int) (srcV (srcO xs (k:Int))) ls.length)) else U else rnO f ls lv xs R t
def zTm(M:Nat):qr:=⟨List.replicate M false,List.replicate M zSp,List.replicate M zSp⟩
theorem quv{α:Type}[Inhabited α]{v:α}{M k:Nat}(a:k<M):gt (List.replicate M v) k=v:=by rw[qcG (by rw[jH];exact a)];simp
theorem qxj{M:Nat}:TmOk (zTm M) M:=⟨jH,jH,jH,fun k a=>by
 show slR (gt (List.replicate M zSp) k);rw[quv a];exact qy9⟩
theorem qvh{M:Nat}{l:List Nat}:Bare (zTm M) M l:=fun _ a _=>⟨quv a,quv a,quv a⟩
theorem qBT(h:blockB b=true)(m:SpansS b c f)(n:SrcOk xs):∀(R:List Nat) (t d:qr),(∀k,k∈R->k<2*(places b.Aa).length)->TmOk t (2*(places b.Aa).length)->rnO f (linksL b) lv xs R t=V d->TmOk d (2*(places b.Aa).length):=by
 intro R
 induction R with
 |nil=>intro t d _ a e;obtain rfl:=Option.some.inj e;exact a
 |cons k R ih=>
  intro t d g a e;have l:=qwd (node:=(k:Int)) (lv:=lv) h m a n (linksL b).length (je _);unfold rnO at e;cases h1:(ndS f (linksL b) lv t (k:Int) (srcV (srcO xs (k:Int))) (linksL b).length).1
  ·rw[h1] at e;exact ih _ _ (fun i hi=>g i (jo _ hi)) a e
  ·rw[h1] at e;cases h2:spanB (ndS f (linksL b) lv t (k:Int) (srcV (srcO xs (k:Int))) (linksL b).length).2.Ah
   ·rw[h2] at e;cases e
   ·rw[h2] at e;exact ih _ _ (fun i hi=>g i (jo _ hi)) (qva a (g k (jx ..)) l) e
def runL(o:Option qr)(m:Nat):Flow (qr×Bool) (List qe×List qe×List Bool×Int):=match o with|some t'=>.nxt (t'.Be,t'.Ah,t'.Bb,(m:Int))|none=>.ret (zT,false)
theorem qxV(h:blockB b=true)(A:SpansS b c f)(I:lv.length=(linksL b).length)(B:SrcOk xs){R:List Nat}(D:∀k,k∈R->k<2*(places b.Aa).length)(F:R.length<=1000) :
  Ev (fun n=>qmu n b c (linksL b) lv xs (ints R)) (runR (rnO f (linksL b) lv xs R (zTm (2*(places b.Aa).length)))):=by
 have J:=qaU (qQ (qar h));have m:=qkB h;obtain⟨M,u⟩:∃M,M=2*(places b.Aa).length:=⟨_,rfl⟩;have O:M<=156:=by omega
 have r:∀d j t,j+d=R.length->TmOk t M->Ev (fun n=>qcz b c (linksL b) lv xs (ints R) n t.Be t.Ah t.Bb (j:Int)) (runL (rnO f (linksL b) lv xs (R.drop j) t) R.length):=by
  intro d
  induction d with
  |zero=>
   intro j t H g;obtain rfl:j=R.length:=by omega
   rw[List.drop_length];refine Ev.succ ?_;simp only[qcz,qbZ,qk (je _),cond_false];exact .done
  |succ d ih=>
   intro j t H g;have a:j<R.length:=by omega
   have l:=D _ (jp a);have hi:=qmH a;have z:R.drop j=R[j]::R.drop (j+1):=jz a;generalize R[j]=k at l hi z;rw[<-u] at l;have v:=qAd (node:=(k:Int)) h A I (by rw[<-u];exact g) B;have p:=qwd (node:=(k:Int)) (lv:=lv) h A (by rw[<-u];exact g) B (linksL b).length (je _);have L:idx t.Bb (k:Int)=V (gt t.Bb k):=qA (by rw[g.r];exact l);have K:idx t.Ah (k:Int)=V (gt t.Ah k):=qA (by rw[g.a];exact l);have is:idx t.Be (k:Int)=V (gt t.Be k):=qA (by rw[g.s];exact l);have i:∀n,qcz b c (linksL b) lv xs (ints R) (n+1) t.Be t.Ah t.Bb (j:Int)=(qjw n b c (linksL b) lv xs t (k:Int)).bind fun(r4,r5)=>bif (!r4) then qcz b c (linksL b) lv xs (ints R) n t.Be t.Ah t.Bb ((j+1:Nat):Int) else bif (!spanB r5.Ah) then V (.ret (zT,false)) else
     qcz b c (linksL b) lv xs (ints R) n (setS t.Be (k:Int) r5.Be) (setS t.Ah (k:Int) r5.Ah) (setS t.Bb (k:Int) true) ((j+1:Nat):Int):=fun n=>by
    simp only[qcz,qbZ,qj a,cond_true,hi,jd,qsL,L,K,is,wS j]
    rfl
   rw[z];unfold rnO;generalize ndS f (linksL b) lv t (k:Int) (srcV (srcO xs (k:Int))) (linksL b).length=s at v p⊢;obtain⟨N,s2⟩:=s;cases N
   ·exact Ev.step i (Ev.bind v (ih (j+1) t (by omega) g))
   ·cases hsp:spanB s2.Ah
    ·refine Ev.step i (Ev.bind v ?_);simp only[hsp];exact .done
    ·refine Ev.step i (Ev.bind v ?_);simp only[hsp];exact ih (j+1) (setT t k (true,s2)) (by omega) (qva g l p)
 have x:mkS (M:Int) false=V (List.replicate M false):=qns (by omega);have y:mkS (M:Int) (⟨0,0⟩:qe)=V (List.replicate M zSp):=qns (by omega);have C:=r R.length 0 (zTm M) (by omega) qxj;rw[List.drop_zero] at C;rw[<-u] at m⊢;unfold qmu qmI;refine Ev.bind m ?_;simp only[x,y,jd];refine Ev.bind C ?_;cases rnO f (linksL b) lv xs R (zTm M)<;>exact .done
theorem qA2(h:blockB b=true)(hg:SpansS b c g)(H:∀k s,(f k s).2=(g k s).2)(hf:SpansI b c ex f)(hl:lv.length=(linksL b).length)(P:SrcOk xs){R:List Nat}(X:∀j,∀O:j<R.length,R[j]<2*(places b.Aa).length/\R[j]∉R.take j)(Y:R.length<=1000) :
  Ev (fun n=>qfB n (V ⟨V (viewE b ex),lv⟩) c xs (ints R)) (runR (rnO f (linksL b) lv xs R (zTm (2*(places b.Aa).length)))):=by
 have L:=qaU (qQ (qar h));have r:=qoE (v:=viewE b ex) L;have D:(viewE b ex).places.length=(places b.Aa).length:=rfl;rw[D] at r;obtain⟨M,B⟩:∃M,M=2*(places b.Aa).length:=⟨_,rfl⟩;have hM:M<=156:=by omega
 have A:∀d j t,j+d=R.length->TmOk t M->Bare t M (R.take j)->Ev (fun n=>qa1 (V ⟨V (viewE b ex),lv⟩) c xs (ints R) n t.Be t.Ah t.Bb (j:Int)) (runL (rnO f (linksL b) lv xs (R.drop j) t) R.length):=by
  intro d
  induction d with
  |zero=>
   intro j t O a _;obtain rfl:j=R.length:=by omega
   rw[List.drop_length];refine Ev.succ ?_;simp only[qa1,qbZ,qk (je _),cond_false];exact .done
  |succ d ih=>
   intro j t O a F;have m:j<R.length:=by omega
   obtain⟨l,Q⟩:=X j m;have hi:=qmH m;have x:R.take (j+1)=R.take j++[R[j]]:=js m;have N:R.drop j=R[j]::R.drop (j+1):=jz m;generalize R[j]=k at l Q hi x N;rw[<-B] at l;have C:=qzw (node:=(k:Int)) h hf hl (by rw[<-B];exact a) P.len;have z:=qud (node:=(k:Int)) (lv:=lv) h hg H (by rw[<-B];exact a) P (linksL b).length (je _);have hz:=qAz (f:=f) (b:=b) (lv:=lv) (t:=t) (xs:=xs) (node:=(k:Int)) (linksL b).length;obtain⟨b1,b2,b3⟩:=F k l Q;have ir:idx t.Bb (k:Int)=V (gt t.Bb k):=qA (by rw[a.r];exact l);have ia:idx t.Ah (k:Int)=V (gt t.Ah k):=qA (by rw[a.a];exact l);have is:idx t.Be (k:Int)=V (gt t.Be k):=qA (by rw[a.s];exact l);have y:∀n,qa1 (V ⟨V (viewE b ex),lv⟩) c xs (ints R) (n+1) t.Be t.Ah t.Bb (j:Int)=(qdW n (V ⟨V (viewE b ex),lv⟩) c xs t (k:Int)).bind fun(r3,r4)=>(bif r3 then V (!spanB r4.Ah) else V false).bind fun b3=>bif b3 then V (.ret (zT,false)) else
     qa1 (V ⟨V (viewE b ex),lv⟩) c xs (ints R) n (setS t.Be (k:Int) r4.Be) (setS t.Ah (k:Int) r4.Ah) (setS t.Bb (k:Int) r3) ((j+1:Nat):Int):=fun n=>by
    simp only[qa1,qbZ,qj m,cond_true,hi,jd,qrk,ir,ia,is,wS j]
    rfl
   rw[N];unfold rnO;generalize ndS f (linksL b) lv t (k:Int) (srcV (srcO xs (k:Int))) (linksL b).length=s at C z hz⊢;obtain⟨s1,s2⟩:=s;cases s1
   ·have:=hz Z;simp only at this;subst this;have e1:setS t.Be (k:Int) zSrc.Be=t.Be:=qpb (by rw[a.s];exact l) b3;have T:setS t.Ah (k:Int) zSrc.Ah=t.Ah:=qpb (by rw[a.a];exact l) b2;have W:setS t.Bb (k:Int) false=t.Bb:=qpb (by rw[a.r];exact l) b1;refine Ev.step y (Ev.bind C ?_);simp only[cond_false,jd,e1,T,W];exact ih (j+1) t (by omega) a (fun i hi p=>F i hi (fun I=>p (by rw[x];exact jJ _ I)))
   ·cases hsp:spanB s2.Ah
    ·refine Ev.step y (Ev.bind C ?_);simp only[hsp];exact .done
    ·refine Ev.step y (Ev.bind C ?_);simp only[hsp];refine ih (j+1) (setT t k (true,s2)) (by omega) (qva a l z) (fun i hi p=>?_);rw[x] at p;have u:i≠k:=fun e=>p (jR _ (List.mem_singleton.2 e));have:=F i hi (fun I=>p (jJ _ I));refine⟨?_,?_,?_⟩
     ·show gt (setS _ _ _) i=_;rw[qiP (by rw[a.r];exact l),if_neg u];exact this.1
     ·show gt (setS _ _ _) i=_;rw[qiP (by rw[a.a];exact l),if_neg u];exact this.2.1
     ·show gt (setS _ _ _) i=_;rw[qiP (by rw[a.s];exact l),if_neg u];exact this.2.2
 have J:mkS (M:Int) false=V (List.replicate M false):=qns (by omega);have K:mkS (M:Int) (⟨0,0⟩:qe)=V (List.replicate M zSp):=qns (by omega);have S:=A R.length 0 (zTm M) (by omega) qxj qvh;rw[List.drop_zero] at S;rw[<-B] at r⊢;unfold qfB qio;simp only[jd,r,J,K];refine Ev.bind S ?_;cases rnO f (linksL b) lv xs R (zTm M)<;>exact .done
end
end Go.Fw


namespace Go.Fw
open Go Go.Proofs
open Go.RowKit (Below)
set_option maxRecDepth 100000
set_option maxHeartbeats 6400000
def qgr(_:Nat)(x:Int):Option Bool:=
 V (x != x)
theorem qkX{n:Nat}{w:World}{x:Int}  {r:Bool}(a:qgr n x=V r):RetX Tryz.prog 193 [.int .i64 x] w (.bool r):=by
 refine qhB Tryz.func193 Z (m:=6) Z Z (fun h b=>?_);rw[qgr] at a;refine qZ ?_;refine qS ?_;refine r_p qa Z Z ?_;refine qan ?_;refine qZ ?_;refine qS ?_;refine r_p qa Z Z ?_;refine r_p qa Z Z ?_;refine r_p qa Z Z ?_;refine r_p qa Z Z ?_;refine qan ?_;obtain rfl:=qb a;exact qhN h b qa ⟨rfl,G⟩
def qcp(n:Nat)(x:Int)(y:Int):Option Int:=
 (qgr n x).bind fun b=>
 (qgr n y).bind fun a=>
 bif b then
  bif a then
   V 0
  else
   V (-1)
 else
  bif a then
   V 1
  else
   bif decide (x<y) then
    V (-1)
   else
    bif decide (x > y) then
     V 1
    else
     V 0
theorem qfe{n:Nat}{w:World}{x:Int}{y:Int}  {r:Int}(a:qcp n x y=V r):RetX Tryz.prog 137 [.int .i64 x,.int .i64 y] w (.int .i64 r):=by
 refine qhB Tryz.func137 Z (m:=20) Z Z (fun h b=>?_);rw[qcp] at a;refine qZ ?_;refine qS ?_;refine r_p qa Z Z ?_;refine qan ?_;refine qZ ?_;refine qS ?_;refine r_p qa Z Z ?_;obtain⟨o,k,a⟩:=qc a;refine qjx h b (cB 193 Z) (qkX k) Z Z Z Z ?_;intro w1 h b;refine r_p qa Z Z ?_;refine qan ?_;refine qZ ?_;refine qS ?_;refine r_p qa Z Z ?_;obtain⟨p,l,a⟩:=qc a;refine qjx h b (cB 193 Z) (qkX l) Z Z Z Z ?_;intro s h b;refine r_p qa Z Z ?_;refine qan ?_;refine qZ ?_;refine qZ ?_;refine qS ?_;refine r_p qa Z Z ?_;refine qan ?_;refine qjU Z (fun c=>?_) (fun c=>?_)
 ·replace a:=bifT c a;refine qZ ?_;refine qZ ?_;refine qS ?_;refine r_p qa Z Z ?_;refine qan ?_;refine qjU Z (fun d=>?_) (fun d=>?_)
  ·replace a:=bifT d a;refine qZ ?_;refine qS ?_;refine r_p qa Z Z ?_;refine qan ?_;obtain rfl:=qb a;exact qhN h b qa ⟨rfl,G⟩
  ·replace a:=bifF d a;refine qcI ?_;refine qZ ?_;refine qS ?_;refine r_p qa Z Z ?_;refine qan ?_;obtain rfl:=qb a;exact qhN h b qa ⟨rfl,G⟩
 ·replace a:=bifF c a;refine qcI ?_;refine qZ ?_;refine qZ ?_;refine qS ?_;refine r_p qa Z Z ?_;refine qan ?_;refine qjU Z (fun f=>?_) (fun f=>?_)
  ·replace a:=bifT f a;refine qZ ?_;refine qS ?_;refine r_p qa Z Z ?_;refine qan ?_;obtain rfl:=qb a;exact qhN h b qa ⟨rfl,G⟩
  ·replace a:=bifF f a;refine qcI ?_;refine qZ ?_;refine qZ ?_;refine qS ?_;refine r_p qa Z Z ?_;refine r_p qa Z Z ?_;refine r_p qa Z Z ?_;refine qan ?_;refine qjU Z (fun g=>?_) (fun g=>?_)
   ·replace a:=bifT g a;refine qZ ?_;refine qS ?_;refine r_p qa Z Z ?_;refine qan ?_;obtain rfl:=qb a;exact qhN h b qa ⟨rfl,G⟩
   ·replace a:=bifF g a;refine qcI ?_;refine qZ ?_;refine qZ ?_;refine qS ?_;refine r_p qa Z Z ?_;refine r_p qa Z Z ?_;refine r_p qa Z Z ?_;refine qan ?_;refine qjU Z (fun i=>?_) (fun i=>?_)
    ·replace a:=bifT i a;refine qZ ?_;refine qS ?_;refine r_p qa Z Z ?_;refine qan ?_;obtain rfl:=qb a;exact qhN h b qa ⟨rfl,G⟩
    ·replace a:=bifF i a;refine qcI ?_;refine qZ ?_;refine qS ?_;refine r_p qa Z Z ?_;refine qan ?_;obtain rfl:=qb a;exact qhN h b qa ⟨rfl,G⟩
def qaD(a:(List Int))(b:(List Int)):Nat->Int->Option (Flow Int Int)
 |0,_=>U
 |n+1,i1=>
  bif decide (i1<(a.length:Int)) then
   (idx a i1).bind fun d=>
   bif decide (i1>=(b.length:Int)) then
    V (.ret 1)
   else
    (idx b i1).bind fun f=>
    (qcp n d f).bind fun c=>
    bif (c != 0) then
     V (.ret c)
    else
     qaD a b n (W64 (i1+1))
  else
   V (.nxt i1)
def qdX(n:Nat)(a:(List Int))(b:(List Int)):Option Int:=
 (qaD a b n 0).bind fun|.ret r=>V r|.nxt _=>bif decide ((a.length:Int)<(b.length:Int)) then V (-1) else V 0
theorem qmP{n:Nat}{w:World}{b:(List Int)}{c:(List Int)}{o:List Value}(y:Ro w b o){p:List Value}(z:Ro w c p){r:Int}(a:qdX n b c=V r):RetX Tryz.prog 138 [GoT.v (List Int) o,GoT.v (List Int) p] w (.int .i64 r):=by
 obtain⟨M,L,rfl,W⟩:=y;obtain⟨T,P,rfl,s2⟩:=z;refine qhB Tryz.func138 Z (m:=36) Z Z (fun h d=>?_);rw[qdX] at a;refine qZ ?_;refine qS ?_;refine r_p qa Z Z ?_;refine qan ?_;refine qZ ?_;refine qZ ?_;refine qS ?_;refine r_p qa Z Z ?_;refine r_p qa Z Z ?_;refine r_p qa Z Z ?_;refine qan ?_;obtain⟨Q,a,f⟩:=qc a;refine qm ?_;refine qzy [(0,_),(1,_),(9,_),(10,_),(11,_)] ⟨rfl,rfl,rfl,rfl,rfl,G⟩ ?_;refine qwL (fun m e w'=>∃(i1:Int),qaD b c m i1=V Q/\e=[(0,.slice M b.length L),(1,.slice T c.length P),(9,.slice M b.length L),(10,.int .i64 (b.length:Int)),(11,.int .i64 i1)]/\SH w w' []/\w.drawn<=w'.drawn) n ⟨_,a,rfl,h,d⟩ ?_;rintro x e1 w1 ⟨i1,a,rfl,h,d⟩;rcases x with _|x
 ·rw[qaD] at a;cases a
 rw[qaD] at a;refine qZ ?_;refine qS ?_;refine r_p qa Z Z ?_;refine qan ?_;refine qZ ?_;refine qjU Z (fun g=>?_) (fun g=>?_)
 ·replace a:=bifT g a;refine qcI ?_;refine qZ ?_;refine qm ?_;refine qZ ?_;refine qS ?_;refine r_p qa Z Z ?_;obtain⟨y1,u,a⟩:=qc a;have s:=qaO u;obtain⟨b1,R,X,N,C,F,-,I,A⟩:=W.at u;obtain rfl:=I;refine r_v (qv4 qa C F ⟨s.1,s.2.1⟩ Z Z Z Z Z Z) Z ?_;refine r_v (qf2 qa (A.below h.below) (j:=0) Z Z Z) Z ?_;refine r_p qa Z Z ?_;refine r_p qa Z Z ?_;refine qan ?_;refine qZ ?_;refine qZ ?_;refine qS ?_;refine r_p qa Z Z ?_;refine r_p qa Z Z ?_;refine r_p qa Z Z ?_;refine r_p qa Z Z ?_;refine qan ?_;refine qjU Z (fun i=>?_) (fun i=>?_)
  ·replace a:=bifT i a;refine qZ ?_;refine qS ?_;refine r_p qa Z Z ?_;refine qan ?_;obtain rfl:=qb a;replace a:=f;obtain rfl:=qb a;exact qhN h d qa ⟨rfl,G⟩
  ·replace a:=bifF i a;refine qcI ?_;refine qZ ?_;refine qS ?_;refine r_p qa Z Z ?_;refine r_p qa Z Z ?_;obtain⟨y2,v,a⟩:=qc a;have t:=qaO v;obtain⟨b2,S,Y,O,D,H,-,J,B⟩:=s2.at v;obtain rfl:=J;refine r_v (qv4 qa D H ⟨t.1,t.2.1⟩ Z Z Z Z Z Z) Z ?_;refine r_v (qf2 qa (B.below h.below) (j:=0) Z Z Z) Z ?_;refine r_p qa Z Z ?_;refine qan ?_;refine qZ ?_;refine qS ?_;refine r_p qa Z Z ?_;refine r_p qa Z Z ?_;obtain⟨r1,K,a⟩:=qc a;refine qjx h d (cB 137 Z) (qfe K) Z Z Z Z ?_;intro w2 h d;refine r_p qa Z Z ?_;refine qan ?_;refine qZ ?_;refine qS ?_;refine r_p qa Z Z ?_;refine r_p qa Z Z ?_;refine qan ?_;refine qjU Z (fun k=>?_) (fun k=>?_)
   ·replace a:=bifT k a;refine qZ ?_;refine qS ?_;refine r_p qa Z Z ?_;refine r_p qa Z Z ?_;refine qan ?_;obtain rfl:=qb a;replace a:=f;obtain rfl:=qb a;exact qhN h d qa ⟨rfl,G⟩
   ·replace a:=bifF k a;refine qcI ?_;refine qz2 ?_;refine qS ?_;refine r_p qa Z Z ?_;refine r_p qa Z Z ?_;refine qan ?_;exact qxr x [(0,_),(1,_),(9,_),(10,_),(11,_)] (Nat.lt_succ_self x) ⟨rfl,rfl,rfl,rfl,rfl,G⟩ ⟨_,a,rfl,h,d⟩
 ·replace a:=bifF g a;refine qt Z ?_;obtain rfl:=qb a;replace a:=f;refine qZ ?_;refine qZ ?_;refine qS ?_;refine r_p qa Z Z ?_;refine r_p qa Z Z ?_;refine r_p qa Z Z ?_;refine r_p qa Z Z ?_;refine r_p qa Z Z ?_;refine qan ?_;refine qjU Z (fun l=>?_) (fun l=>?_)
  ·replace a:=bifT l a;refine qZ ?_;refine qS ?_;refine r_p qa Z Z ?_;refine qan ?_;obtain rfl:=qb a;exact qhN h d qa ⟨rfl,G⟩
  ·replace a:=bifF l a;refine qcI ?_;refine qZ ?_;refine qS ?_;refine r_p qa Z Z ?_;refine qan ?_;obtain rfl:=qb a;exact qhN h d qa ⟨rfl,G⟩
def qcx(a:(List Int)):Nat->Int->Option (Flow Int Int)
 |0,_=>U
 |n+1,i1=>
  bif decide (i1<(a.length:Int)) then
   (idx a i1).bind fun b=>
   bif (b != 0) then
    V (.ret b)
   else
    qcx a n (W64 (i1+1))
  else
   V (.nxt i1)
def qjV(n:Nat)(a:(List Int)):Option Int:=
 (qcx a n 0).bind fun|.ret r=>V r|.nxt _=>V 0
theorem qoM{n:Nat}{w:World}{b:(List Int)}{f:List Value}(p:Ro w b f){r:Int}(a:qjV n b=V r):RetX Tryz.prog 91 [GoT.v (List Int) f] w (.int .i64 r):=by
 obtain⟨B,y,rfl,C⟩:=p;refine qhB Tryz.func91 Z (m:=18) Z Z (fun h i=>?_);rw[qjV] at a;refine qZ ?_;refine qS ?_;refine r_p qa Z Z ?_;refine qan ?_;refine qZ ?_;refine qS ?_;refine r_p qa Z Z ?_;refine qan ?_;refine qZ ?_;refine qZ ?_;refine qS ?_;refine r_p qa Z Z ?_;refine r_p qa Z Z ?_;refine r_p qa Z Z ?_;refine qan ?_;obtain⟨z,a,g⟩:=qc a;refine qm ?_;refine qzy [(3,_),(6,_),(7,_),(8,_)] ⟨rfl,rfl,rfl,rfl,G⟩ ?_;refine qwL (fun m e w'=>∃(i1:Int),qcx b m i1=V z/\e=[(3,.int .i64 0),(6,.slice B b.length y),(7,.int .i64 (b.length:Int)),(8,.int .i64 i1)]/\SH w w' []/\w.drawn<=w'.drawn) n ⟨_,a,rfl,h,i⟩ ?_;rintro o e1 w1 ⟨i1,a,rfl,h,i⟩;rcases o with _|o
 ·rw[qcx] at a;cases a
 rw[qcx] at a;refine qZ ?_;refine qS ?_;refine r_p qa Z Z ?_;refine qan ?_;refine qZ ?_;refine qjU Z (fun c=>?_) (fun c=>?_)
 ·replace a:=bifT c a;refine qcI ?_;refine qZ ?_;refine qm ?_;refine qZ ?_;refine qS ?_;obtain⟨F,l,a⟩:=qc a;have k:=qaO l;obtain⟨b1,A,D,x,t,u,-,v,s⟩:=C.at l;obtain rfl:=v;refine r_v (qv4 qa t u ⟨k.1,k.2.1⟩ Z Z Z Z Z Z) Z ?_;refine r_v (qf2 qa (s.below h.below) (j:=0) Z Z Z) Z ?_;refine r_p qa Z Z ?_;refine qan ?_;refine qZ ?_;refine qS ?_;refine r_p qa Z Z ?_;refine r_p qa Z Z ?_;refine r_p qa Z Z ?_;refine qan ?_;refine qjU Z (fun d=>?_) (fun d=>?_)
  ·replace a:=bifT d a;refine qZ ?_;refine qS ?_;refine r_p qa Z Z ?_;refine r_p qa Z Z ?_;refine qan ?_;obtain rfl:=qb a;replace a:=g;obtain rfl:=qb a;exact qhN h i qa ⟨rfl,G⟩
  ·replace a:=bifF d a;refine qcI ?_;refine qz2 ?_;refine qS ?_;refine r_p qa Z Z ?_;refine r_p qa Z Z ?_;refine qan ?_;exact qxr o [(3,_),(6,_),(7,_),(8,_)] (Nat.lt_succ_self o) ⟨rfl,rfl,rfl,rfl,G⟩ ⟨_,a,rfl,h,i⟩
 ·replace a:=bifF c a;refine qt Z ?_;obtain rfl:=qb a;replace a:=g;refine qZ ?_;refine qS ?_;refine r_p qa Z Z ?_;refine r_p qa Z Z ?_;refine qan ?_;obtain rfl:=qb a;exact qhN h i qa ⟨rfl,G⟩
def qdV(n:Nat)(a:Int)(b:Int)(mode:Int):Option Int:=
 bif (mode==1) then
  (qcp n b a).bind fun c=>
  V c
 else
  (qcp n a b).bind fun d=>
  V d
theorem qmQ{n:Nat}{w:World}{a:Int}{b:Int}{mode:Int}  {r:Int}(c:qdV n a b mode=V r):RetX Tryz.prog 92 [.int .i64 a,.int .i64 b,.int .i64 mode] w (.int .i64 r):=by
 refine qhB Tryz.func92 Z (m:=14) Z Z (fun h f=>?_);rw[qdV] at c;refine qZ ?_;refine qS ?_;refine r_p qa Z Z ?_;refine qan ?_;refine qZ ?_;refine qZ ?_;refine qS ?_;refine r_p qa Z Z ?_;refine r_p qa Z Z ?_;refine qan ?_;refine qjU Z (fun d=>?_) (fun d=>?_)
 ·replace c:=bifT d c;refine qS ?_;refine r_p qa Z Z ?_;refine r_p qa Z Z ?_;refine r_p qa Z Z ?_;refine r_p qa Z Z ?_;refine qan ?_;refine qZ ?_;refine qS ?_;refine r_p qa Z Z ?_;refine r_p qa Z Z ?_;obtain⟨k,g,c⟩:=qc c;refine qjx h f (cB 137 Z) (qfe g) Z Z Z Z ?_;intro w1 h f;refine r_p qa Z Z ?_;refine qan ?_;obtain rfl:=qb c;exact qhN h f qa ⟨rfl,G⟩
 ·replace c:=bifF d c;refine qcI ?_;refine qZ ?_;refine qS ?_;refine r_p qa Z Z ?_;refine r_p qa Z Z ?_;obtain⟨l,i,c⟩:=qc c;refine qjx h f (cB 137 Z) (qfe i) Z Z Z Z ?_;intro o h f;refine r_p qa Z Z ?_;refine qan ?_;obtain rfl:=qb c;exact qhN h f qa ⟨rfl,G⟩
def qfR(n:Nat)(p:qg)(q:qg):Option Int:=
 (qcp n p.Bl q.Bl).bind fun a=>
 (qdX n p.Bf q.Bf).bind fun b=>
 (qjV n ([a,b]:List Int)).bind fun c=>
 V c
theorem qoj{n:Nat}{w:World}{p:qg}{q:qg}{d:List Value}(k:Ro w p d){f:List Value}(l:Ro w q f){r:Int}(c:qfR n p q=V r):RetX Tryz.prog 93 [GoT.v qg d,GoT.v qg f] w (.int .i64 r):=by
 obtain⟨z,x,rfl,D⟩:=qak k;obtain⟨A,y,rfl,s2⟩:=qak l;refine qhB Tryz.func93 Z (m:=17) Z Z (fun h a=>?_);rw[qfR] at c;refine qZ ?_;refine qS ?_;refine quQ h a Z Z ?_;intro w1 g h a;refine quQ h a Z Z ?_;intro I i h a;refine r_p qa Z Z ?_;refine qan ?_;refine qZ ?_;refine qzR [] (fun w'=>SH w w' [Ch.box i [.int .i64 q.Bl,.slice A q.Bf.length y,.int .i64 q.Ah] 41,Ch.box g [.int .i64 p.Bl,.slice z p.Bf.length x,.int .i64 p.Ah] 41]) Z 13 Z #[false,false,false,false,false,false,false,false,false,false,false,false,false] (by kernel_rfl) (fun J u v=>?_);replace h:=h.ext u;replace a:=Jb a v;clear u v;refine qc1 0 Z #[true,false,false,false,false,false,false,false,false,false,false,false,false] (by kernel_rfl) (by kernel_rfl) (fun w' b=>v_p qa Z w') (h.p [0,1] Z) Z ?_;refine qc1 1 Z #[true,true,false,false,false,false,false,false,false,false,false,false,false] (by kernel_rfl) (by kernel_rfl) (fun w' b=>qf2 qa (b.box 1 Z) (j:=0) Z Z Z) (h.p [0,1] Z) Z ?_;refine qc1 2 Z #[true,true,true,false,false,false,false,false,false,false,false,false,false] (by kernel_rfl) (by kernel_rfl) (fun w' b=>v_p qa Z w') (h.p [0,1] Z) Z ?_;refine qc1 3 Z #[true,true,true,true,false,false,false,false,false,false,false,false,false] (by kernel_rfl) (by kernel_rfl) (fun w' b=>qf2 qa (b.box 0 Z) (j:=0) Z Z Z) (h.p [0,1] Z) Z ?_;refine qc1 5 Z #[true,true,true,true,false,true,false,false,false,false,false,false,false] (by kernel_rfl) (by kernel_rfl) (fun w' b=>v_p qa Z w') (h.p [0,1] Z) Z ?_;refine qc1 6 Z #[true,true,true,true,false,true,true,false,false,false,false,false,false] (by kernel_rfl) (by kernel_rfl) (fun w' b=>qf2 qa (b.box 1 Z) (j:=1) Z Z Z) (h.p [0,1] Z) Z ?_;refine qc1 7 Z #[true,true,true,true,false,true,true,true,false,false,false,false,false] (by kernel_rfl) (by kernel_rfl) (fun w' b=>v_p qa Z w') (h.p [0,1] Z) Z ?_;refine qc1 8 Z #[true,true,true,true,false,true,true,true,true,false,false,false,false] (by kernel_rfl) (by kernel_rfl) (fun w' b=>qf2 qa (b.box 0 Z) (j:=1) Z Z Z) (h.p [0,1] Z) Z ?_;refine qnt 4 Z #[true,true,true,true,true,true,true,true,true,false,false,false,false] (by kernel_rfl) (by kernel_rfl) ?_;obtain⟨B,o,c⟩:=qc c;refine qjx h a (cB 137 Z) (qfe o) Z Z Z Z ?_;intro K h a;refine qa6 (fun _=>(h.p [0,1] Z)) ?_;refine qnt 9 Z #[true,true,true,true,true,true,true,true,true,true,false,false,false] (by kernel_rfl) (by kernel_rfl) ?_;obtain⟨C,s,c⟩:=qc c;refine qjx h a (cB 138 Z) (qmP ⟨_,_,rfl,(h.oldS D)⟩ ⟨_,_,rfl,(h.oldS s2)⟩ s) Z Z Z Z ?_;intro L h a;refine qa6 (fun _=>(h.p [0,1] Z)) ?_;refine qnt 10 Z #[true,true,true,true,true,true,true,true,true,true,true,false,false] (by kernel_rfl) (by kernel_rfl) ?_;refine qtZ qa [.tmp 9,.tmp 14] _ ([B,C]:List Int) h a Z Z Z Z Z Z Z Z Z ⟨rfl,rfl,G⟩ Z ?_;intro M F S1 h a;refine qa6 (fun _=>(h.p [1,2] Z)) ?_;refine qnt 11 Z #[true,true,true,true,true,true,true,true,true,true,true,true,false] (by kernel_rfl) (by kernel_rfl) ?_;obtain⟨H,t,c⟩:=qc c;refine qjx h a (cB 91 Z) (qoM (h.own 0 Z) t) Z Z Z Z ?_;intro N h a;refine qa6 (fun _=>(h.p [1,2] Z)) ?_;refine qc1 12 Z #[true,true,true,true,true,true,true,true,true,true,true,true,true] (by kernel_rfl) (by kernel_rfl) (fun w' b=>v_p qa Z w') (h.p [1,2] Z) Z ?_;refine qwY (by kernel_rfl) ?_;obtain rfl:=qb c;exact qhN h a qa ⟨rfl,G⟩
def qdF(n:Nat)(p:qg)(q:qg)(d:Int):Option Int:=
 (qdV n p.Ah q.Ah d).bind fun a=>
 (qfR n p q).bind fun b=>
 (qjV n ([a,b]:List Int)).bind fun c=>
 V c
theorem qor{n:Nat}{w:World}{p:qg}{q:qg}{B:Int}{d:List Value}(g:Ro w p d){f:List Value}(i:Ro w q f){A:Option Addr}(o:Ro w (V B) [.pointer A]){r:Int}(c:qdF n p q B=V r):RetX Tryz.prog 90 [GoT.v qg d,GoT.v qg f,.pointer A] w (.int .i64 r):=by
 obtain⟨I,D,rfl,O⟩:=qak g;obtain⟨J,F,rfl,s2⟩:=qak i;obtain⟨b1,H,C,rfl,-,t,s⟩:=PtR.get o Z;obtain rfl:=t;refine qhB Tryz.func90 Z (m:=17) Z Z (fun h a=>?_);rw[qdF] at c;refine qZ ?_;refine qS ?_;refine quQ h a Z Z ?_;intro w1 k h a;refine quQ h a Z Z ?_;intro P l h a;refine r_p qa Z Z ?_;refine qan ?_;refine qZ ?_;refine qzR [] (fun w'=>SH w w' [Ch.box l [.int .i64 q.Bl,.slice J q.Bf.length F,.int .i64 q.Ah] 41,Ch.box k [.int .i64 p.Bl,.slice I p.Bf.length D,.int .i64 p.Ah] 41]) Z 12 Z #[false,false,false,false,false,false,false,false,false,false,false,false] (by kernel_rfl) (fun Q y z=>?_);replace h:=h.ext y;replace a:=Jb a z;clear y z;refine qc1 0 Z #[true,false,false,false,false,false,false,false,false,false,false,false] (by kernel_rfl) (by kernel_rfl) (fun w' b=>v_p qa Z w') (h.p [0,1] Z) Z ?_;refine qc1 1 Z #[true,true,false,false,false,false,false,false,false,false,false,false] (by kernel_rfl) (by kernel_rfl) (fun w' b=>qf2 qa (b.box 1 Z) (j:=2) Z Z Z) (h.p [0,1] Z) Z ?_;refine qc1 2 Z #[true,true,true,false,false,false,false,false,false,false,false,false] (by kernel_rfl) (by kernel_rfl) (fun w' b=>v_p qa Z w') (h.p [0,1] Z) Z ?_;refine qc1 3 Z #[true,true,true,true,false,false,false,false,false,false,false,false] (by kernel_rfl) (by kernel_rfl) (fun w' b=>qf2 qa (b.box 0 Z) (j:=2) Z Z Z) (h.p [0,1] Z) Z ?_;refine qc1 4 Z #[true,true,true,true,true,false,false,false,false,false,false,false] (by kernel_rfl) (by kernel_rfl) (fun w' b=>qf2 qa (s.below b.below) (j:=0) Z Z Z) (h.p [0,1] Z) Z ?_;refine qc1 6 Z #[true,true,true,true,true,false,true,false,false,false,false,false] (by kernel_rfl) (by kernel_rfl) (fun w' b=>qf2 qa (b.box 1 Z) (j:=0) Z Z Z) (h.p [0,1] Z) Z ?_;refine qc1 7 Z #[true,true,true,true,true,false,true,true,false,false,false,false] (by kernel_rfl) (by kernel_rfl) (fun w' b=>qf2 qa (b.box 0 Z) (j:=0) Z Z Z) (h.p [0,1] Z) Z ?_;refine qnt 5 Z #[true,true,true,true,true,true,true,true,false,false,false,false] (by kernel_rfl) (by kernel_rfl) ?_;obtain⟨K,u,c⟩:=qc c;refine qjx h a (cB 92 Z) (qmQ u) Z Z Z Z ?_;intro R h a;refine qa6 (fun _=>(h.p [0,1] Z)) ?_;refine qnt 8 Z #[true,true,true,true,true,true,true,true,true,false,false,false] (by kernel_rfl) (by kernel_rfl) ?_;obtain⟨L,v,c⟩:=qc c;refine qjx h a (cB 93 Z) (qoj (h.old g) (h.old i) v) Z Z Z Z ?_;intro S h a;refine qa6 (fun _=>(h.p [0,1] Z)) ?_;refine qnt 9 Z #[true,true,true,true,true,true,true,true,true,true,false,false] (by kernel_rfl) (by kernel_rfl) ?_;refine qtZ qa [.tmp 11,.tmp 14] _ ([K,L]:List Int) h a Z Z Z Z Z Z Z Z Z ⟨rfl,rfl,G⟩ Z ?_;intro T M S1 h a;refine qa6 (fun _=>(h.p [1,2] Z)) ?_;refine qnt 10 Z #[true,true,true,true,true,true,true,true,true,true,true,false] (by kernel_rfl) (by kernel_rfl) ?_;obtain⟨N,x,c⟩:=qc c;refine qjx h a (cB 91 Z) (qoM (h.own 0 Z) x) Z Z Z Z ?_;intro W h a;refine qa6 (fun _=>(h.p [1,2] Z)) ?_;refine qc1 11 Z #[true,true,true,true,true,true,true,true,true,true,true,true] (by kernel_rfl) (by kernel_rfl) (fun w' b=>v_p qa Z w') (h.p [1,2] Z) Z ?_;refine qwY (by kernel_rfl) ?_;obtain rfl:=qb c;exact qhN h a qa ⟨rfl,G⟩
end Go.Fw


namespace Go.Proofs
open Go.Shelf
def Tryz.laysR_ren:Go.Shelf.Ren:=⟨fun|35=>87|n=>n,fun|22=>35|23=>2|3=>3|4=>4|0=>0|n=>n,fun|n=>n⟩
theorem Tryz.laysR:Go.Proofs.SlLaysN.n35 Tryz.prog Tryz.laysR_ren:={
 mixed:=by kernel_rfl
 f35:=⟨Tryz.f87.name,by decide,Tryz.func87.trans (congrArg some (by kernel_rfl))⟩
 t0:=Tryz.underlying0
 a0:=Tryz.isAgg0
 z0:=Tryz.sizeOf0
 v0:=Tryz.zeroValue0
 t3:=Tryz.underlying3
 a3:=Tryz.isAgg3
 z3:=Tryz.sizeOf3
 v3:=Tryz.zeroValue3
 t4:=Tryz.underlying4
 a4:=Tryz.isAgg4
 z4:=Tryz.sizeOf4
 v4:=Tryz.zeroValue4
 t22:=Tryz.underlying35
 a22:=Tryz.isAgg35
 z22:=Tryz.sizeOf35
 v22:=Tryz.zeroValue35
 t23:=Tryz.underlying2
 a23:=Tryz.isAgg2
 z23:=Tryz.sizeOf2
 v23:=Tryz.zeroValue2 }
def Tryz.laysS_ren:Go.Shelf.Ren:=⟨fun|6=>89|15=>136|14=>135|28=>191|29=>192|20=>183|21=>184|22=>185|23=>186|24=>187|25=>188|26=>189|27=>190|46=>239|47=>240|48=>241|49=>242|50=>243|57=>276|n=>n,fun|22=>64|24=>41|25=>168|3=>3|39=>221|0=>0|53=>299|55=>301|4=>4|46=>292|45=>291|50=>296|5=>5|9=>9|66=>335|70=>339|76=>370|77=>371|n=>n,fun|n=>n⟩
theorem Tryz.laysS:Go.Proofs.SlLaysF0.n6 Tryz.prog Tryz.laysS_ren:={
 mixed:=by kernel_rfl
 f6:=⟨Tryz.f89.name,by decide,Tryz.func89.trans (congrArg some (by kernel_rfl))⟩
 f14:=⟨Tryz.f135.name,by decide,Tryz.func135.trans (congrArg some (by kernel_rfl))⟩
 f15:=Tryz.func136.trans (congrArg some (by kernel_rfl))
 f20:=⟨Tryz.f183.name,by decide,Tryz.func183.trans (congrArg some (by kernel_rfl))⟩
 f21:=⟨Tryz.f184.name,by decide,Tryz.func184.trans (congrArg some (by kernel_rfl))⟩
 f22:=⟨Tryz.f185.name,by decide,Tryz.func185.trans (congrArg some (by kernel_rfl))⟩
 f23:=⟨Tryz.f186.name,by decide,Tryz.func186.trans (congrArg some (by kernel_rfl))⟩
 f24:=⟨Tryz.f187.name,by decide,Tryz.func187.trans (congrArg some (by kernel_rfl))⟩
 f25:=⟨Tryz.f188.name,by decide,Tryz.func188.trans (congrArg some (by kernel_rfl))⟩
 f26:=⟨Tryz.f189.name,by decide,Tryz.func189.trans (congrArg some (by kernel_rfl))⟩
 f27:=⟨Tryz.f190.name,by decide,Tryz.func190.trans (congrArg some (by kernel_rfl))⟩
 f28:=Tryz.func191.trans (congrArg some (by kernel_rfl))
 f29:=Tryz.func192.trans (congrArg some (by kernel_rfl))
 f46:=⟨Tryz.f239.name,by decide,Tryz.func239.trans (congrArg some (by kernel_rfl))⟩
 f47:=Tryz.func240.trans (congrArg some (by kernel_rfl))
 f48:=Tryz.func241.trans (congrArg some (by kernel_rfl))
 f49:=⟨Tryz.f242.name,by decide,Tryz.func242.trans (congrArg some (by kernel_rfl))⟩
 f50:=⟨Tryz.f243.name,by decide,Tryz.func243.trans (congrArg some (by kernel_rfl))⟩
 f57:=⟨Tryz.f276.name,by decide,Tryz.func276.trans (congrArg some (by kernel_rfl))⟩
 t0:=Tryz.underlying0
 a0:=Tryz.isAgg0
 z0:=Tryz.sizeOf0
 v0:=Tryz.zeroValue0
 t3:=Tryz.underlying3
 a3:=Tryz.isAgg3
 z3:=Tryz.sizeOf3
 v3:=Tryz.zeroValue3
 t4:=Tryz.underlying4
 a4:=Tryz.isAgg4
 z4:=Tryz.sizeOf4
 v4:=Tryz.zeroValue4
 t5:=Tryz.underlying5
 a5:=Tryz.isAgg5
 z5:=Tryz.sizeOf5
 v5:=Tryz.zeroValue5
 t9:=Tryz.underlying9
 a9:=Tryz.isAgg9
 z9:=Tryz.sizeOf9
 v9:=Tryz.zeroValue9
 t22:=Tryz.underlying64
 a22:=Tryz.isAgg64
 z22:=Tryz.sizeOf64
 v22:=Tryz.zeroValue64
 t25:=Tryz.underlying168
 a25:=Tryz.isAgg168
 z25:=Tryz.sizeOf168
 v25:=Tryz.zeroValue168
 t39:=Tryz.underlying221
 a39:=Tryz.isAgg221
 z39:=Tryz.sizeOf221
 v39:=Tryz.zeroValue221
 t45:=Tryz.underlying291
 a45:=Tryz.isAgg291
 z45:=Tryz.sizeOf291
 v45:=Tryz.zeroValue291
 t46:=Tryz.underlying292
 a46:=Tryz.isAgg292
 z46:=Tryz.sizeOf292
 v46:=Tryz.zeroValue292
 t50:=Tryz.underlying296
 a50:=Tryz.isAgg296
 z50:=Tryz.sizeOf296
 v50:=Tryz.zeroValue296
 t53:=Tryz.underlying299
 a53:=Tryz.isAgg299
 z53:=Tryz.sizeOf299
 v53:=Tryz.zeroValue299
 t55:=Tryz.underlying301
 a55:=Tryz.isAgg301
 z55:=Tryz.sizeOf301
 v55:=Tryz.zeroValue301
 t66:=Tryz.underlying335
 a66:=Tryz.isAgg335
 z66:=Tryz.sizeOf335
 v66:=Tryz.zeroValue335
 t70:=Tryz.underlying339
 a70:=Tryz.isAgg339
 z70:=Tryz.sizeOf339
 v70:=Tryz.zeroValue339
 t76:=Tryz.underlying370
 a76:=Tryz.isAgg370
 z76:=Tryz.sizeOf370
 v76:=Tryz.zeroValue370
 t77:=Tryz.underlying371
 a77:=Tryz.isAgg371
 z77:=Tryz.sizeOf371
 v77:=Tryz.zeroValue371 }
open Go.RowKit Go.Sort in
theorem Tryz.slices_Reverse(blk off cap:Nat) (zs:List Int) (w:World) (hH:Holds (Value.int .i64) w blk off zs.toArray) (hsz:zs.length<=9223372036854775807) :
  Calls Tryz.prog 87 #[.slice (some ⟨blk,off,none⟩) zs.length cap] w fun e w'=>e=.returned (.tuple #[])/\∃n,w'=putRow (Value.int .i64) (Sort.ahead w n) blk off zs.reverse.toArray:=AnyG.slices_Reverse_int Tryz.laysR blk off cap zs w hH hsz
open Go.RowKit Go.Sort in
theorem Tryz.slices_Reverse_none(p:Option Addr) (cap:Nat) (w:World) :
  Calls Tryz.prog 87 #[.slice p 0 cap] w fun e w'=>e=.returned (.tuple #[])/\w'=w:=AnyG.slices_Reverse_int_empty Tryz.laysR p cap w
open Go.RowKit Go.Sort in
theorem Tryz.slices_SortFunc(enc:Nat->List Value) (hk:∀x,(enc x).length=3) (h1:∀x,∀v∈enc x,v.oneCell'=true) (cf:Nat->Nat->Int) (hO:SWO (ltOf cf)) (cb:Array Value) (blk off cap:Nat) (d:Array Nat) (w:World) (hcmp:CmpLays Tryz.prog 90 cb enc 3 cf blk off d.size w) (hH:HoldsK enc 3 w blk off d) (hblk:blk<w.heap.size) (hsz:d.size<4611686018427387904) :
  Calls Tryz.prog 89 #[.slice (some ⟨blk,off,none⟩) d.size cap,.func (.func 90) #[] cb] w fun e w'=>
   e=.returned (.tuple #[])/\∃d' n os,PermIn 0 d.size d d'/\SortedIn (ltOf cf) 0 d.size d'/\w'=sortWorldK enc 3 w blk off n d' os:=AnyQ.slices_SortFunc Tryz.laysS 3 Tryz.isAgg41 Tryz.sizeOf41 enc hk h1 cf hO 90 cb blk off cap d w (enters_of Tryz.func90 (by kernel_rfl) rfl) hcmp hH hblk hsz
open Go.RowKit Go.Sort in
theorem Tryz.slices_SortFunc_none(p:Option Addr) (cap:Nat) (fv:Value) (w:World) :
  Calls Tryz.prog 89 #[.slice p 0 cap,fv] w fun e w'=>e=.returned (.tuple #[])/\w'=w:=AnyF.slices_SortFunc_none Tryz.laysS p cap fv w
end Go.Proofs


namespace Go.Fw
open Go Go.Proofs Go.Sort
open Go.RowKit (Below)
set_option maxRecDepth 100000
theorem Tryz.slices_Reverse_at:ReversesAt Tryz.prog 87:=
 ⟨fun a off cap zs w b hz=>Go.Proofs.Tryz.slices_Reverse a off cap zs w b hz,fun p cap w=>Go.Proofs.Tryz.slices_Reverse_none p cap w⟩
theorem Tryz.slices_SortFunc_at:SortFAt Tryz.prog 89 90 (GoT.k qg):=
 ⟨fun enc m h f k c b off cap d w a i l n=>Go.Proofs.Tryz.slices_SortFunc enc m h f k c b off cap d w a i l n,fun p cap g w=>Go.Proofs.Tryz.slices_SortFunc_none p cap g w⟩
structure Ord3{α:Type}(c:α->α->Int):Prop where
 anti:∀x y,c y x=-(c x y)
 eq:∀x y z,c x y=0->c x z=c y z
 tr:∀x y z,c x y<0->c y z<0->c x z<0
theorem Ord3.swo{α:Type}{c:α->α->Int}(h:Ord3 c):SWO fun x y=>decide (c x y<0) where
 irrefl x:=by
  have:=h.anti x x;exact decide_eq_false (by omega)
 trans x y z a b:=decide_eq_true (h.tr x y z (of_decide_eq_true a) (of_decide_eq_true b))
 ntrans x y z a b:=by
  have a:=of_decide_eq_false a;have b:=of_decide_eq_false b;refine decide_eq_false ?_;have a1:=h.anti x y;have a2:=h.anti y z;have f:=h.anti x z;by_cases e1:c x y=0
  ·have:=h.eq x y z e1;omega
  ·by_cases d:c y z=0
   ·have:=h.eq y z x d;omega
   ·have:=h.tr z y x (by omega) (by omega);omega
theorem Ord3.comap{α β:Type}{c:β->β->Int}(h:Ord3 c)(f:α->β):Ord3 fun x y=>c (f x) (f y):=⟨fun _ _=>h.anti _ _,fun _ _ _=>h.eq _ _ _,fun _ _ _=>h.tr _ _ _⟩
theorem Ord3.flip{α:Type}{c:α->α->Int}(h:Ord3 c):Ord3 fun x y=>c y x:=
 ⟨fun x y=>h.anti y x,fun x y z e=>by
  have a1:=h.anti y x;have a2:=h.anti x z;have d:=h.anti y z;have:=h.eq x y z (by omega);show c z x=c z y;omega,fun x y z a b=>h.tr z y x b a⟩
def lexC{α:Type}(c d:α->α->Int)(x y:α):Int:=if c x y=0 then d x y else c x y
theorem Ord3.lex{α:Type}{c d:α->α->Int}(h:Ord3 c)(k:Ord3 d):Ord3 (lexC c d) where
 anti x y:=by
  have a:=h.anti x y;have b:=k.anti x y;unfold lexC;by_cases e:c x y=0
  ·rw[if_pos e,if_pos (by omega)];exact b
  ·rw[if_neg e,if_neg (by omega)];exact a
 eq x y z e:=by
  unfold lexC at e⊢;by_cases e1:c x y=0
  ·rw[if_pos e1] at e;rw[h.eq x y z e1,k.eq x y z e]
  ·rw[if_neg e1] at e;exact absurd e e1
 tr x y z h1 h2:=by
  unfold lexC at h1 h2⊢;have a1:=h.anti x y;have a2:=h.anti y z;have i:=h.anti x z;by_cases e1:c x y=0
  ·rw[if_pos e1] at h1;have l:=h.eq x y z e1;by_cases f:c y z=0
   ·rw[if_pos f] at h2;rw[if_pos (by omega)];exact k.tr x y z h1 h2
   ·rw[if_neg f] at h2;rw[if_neg (by omega)];omega
  ·rw[if_neg e1] at h1;by_cases f:c y z=0
   ·rw[if_pos f] at h2;have m:=h.eq y z x f;rw[if_neg (by omega)];omega
   ·rw[if_neg f] at h2;have g:=h.tr x y z h1 h2;rw[if_neg (by omega)];exact g
def ordI(x y:Int):Int:=if x<y then -1 else if y<x then 1 else 0
theorem qmN:Ord3 ordI where
 anti x y:=by unfold ordI;(repeat' split)<;>omega
 eq x y z:=by unfold ordI;(repeat' split)<;>omega
 tr x y z:=by unfold ordI;(repeat' split)<;>omega
theorem qoQ{x y:Int}(h:ordI x y=0):x=y:=by unfold ordI at h;(repeat' split at h)<;>omega
def cmpLk:List Int->List Int->Int
 | [],[]=>0
 | [],_::_=>-1
 |_::_,[]=>1
 |x::xs,y::ys=>if ordI x y=0 then cmpLk xs ys else ordI x y
theorem qss:∀xs ys,cmpLk ys xs=-(cmpLk xs ys)
 | [],[]=>rfl
 | [],_::_=>rfl
 |_::_,[]=>rfl
 |x::xs,y::ys=>by
  have a:=qmN.anti x y;have b:=qss xs ys;simp only[cmpLk];by_cases e:ordI x y=0
  ·rw[if_pos e,if_pos (by omega)];exact b
  ·rw[if_neg e,if_neg (by omega)];exact a
theorem quL:∀xs ys,cmpLk xs ys=0->xs=ys
 | [],[],_=>rfl
 | [],_::_,h=>by simp[cmpLk] at h
 |_::_,[],h=>by simp[cmpLk] at h
 |x::xs,y::ys,h=>by
  simp only[cmpLk] at h;by_cases e:ordI x y=0
  ·rw[if_pos e] at h;rw[qoQ e,quL xs ys h]
  ·rw[if_neg e] at h;exact absurd h e
theorem qvq:∀xs ys zs,cmpLk xs ys<0->cmpLk ys zs<0->cmpLk xs zs<0
 | [],[],_,h,_=>by simp[cmpLk] at h
 |_::_,[],_,h,_=>by simp[cmpLk] at h
 |_,_::_,[],_,h=>by simp[cmpLk] at h
 | [],_::_,_::_,_,_=>by simp[cmpLk]
 |x::xs,y::ys,z::zs,h1,h2=>by
  simp only[cmpLk] at h1 h2⊢;have a1:=qmN.anti x y;have a2:=qmN.anti y z;have c:=qmN.anti x z;by_cases e1:ordI x y=0
  ·rw[if_pos e1] at h1;have d:=qmN.eq x y z e1;by_cases a:ordI y z=0
   ·rw[if_pos a] at h2;rw[if_pos (by omega)];exact qvq xs ys zs h1 h2
   ·rw[if_neg a] at h2;rw[if_neg (by omega)];omega
  ·rw[if_neg e1] at h1;by_cases a:ordI y z=0
   ·rw[if_pos a] at h2;have f:=qmN.eq y z x a;rw[if_neg (by omega)];omega
   ·rw[if_neg a] at h2;have b:=qmN.tr x y z h1 h2;rw[if_neg (by omega)];exact b
theorem qBt:Ord3 cmpLk:=⟨qss,fun x y z h=>by rw[quL x y h],qvq⟩
def ordA(mode:Int)(p q:qg):Int:=if mode=1 then ordI q.Ah p.Ah else ordI p.Ah q.Ah
def ordP(mode:Int):qg->qg->Int:=lexC (ordA mode) (lexC (fun p q=>ordI p.Bl q.Bl) fun p q=>cmpLk p.Bf q.Bf)
theorem qCa(mode:Int):Ord3 (ordA mode):=by
 unfold ordA;by_cases h:mode=1
 ·simp only[h,if_true];exact(qmN.comap qg.Ah).flip
 ·simp only[h,if_false];exact qmN.comap qg.Ah
theorem qs2(mode:Int):Ord3 (ordP mode):=(qCa mode).lex ((qmN.comap qg.Bl).lex (qBt.comap qg.Bf))
theorem qzM{mode:Int}{p q:qg}(h:ordP mode p q=0):p=q:=by
 unfold ordP lexC at h;by_cases e1:ordA mode p q=0
 ·rw[if_pos e1] at h;by_cases a:ordI p.Bl q.Bl=0
  ·rw[if_pos a] at h;have b:p.Ah=q.Ah:=by
    unfold ordA at e1;split at e1
    ·exact(qoQ e1).symm
    ·exact qoQ e1
   have c:=qoQ a;have d:=quL _ _ h;cases p;cases q;simp only at b c d;subst b;subst c;subst d
   rfl
  ·rw[if_neg a] at h;exact absurd h a
 ·rw[if_neg e1] at h;exact absurd h e1
def sortP(n:Nat)(xs:List qg)(mode:Int):Option (List qg):=
 if xs.length<=2147483648/\∀p,p∈(GoT.zero:qg)::xs->∀q,q∈(GoT.zero:qg)::xs->qdF n p q mode=V (ordP mode p q) then V (xs.mergeSort (leF (ordP mode))) else U
theorem qwJ{n:Nat}{xs y:List qg}{mode:Int}(h:sortP n xs mode=V y) :
  (xs.length<=2147483648/\∀p,p∈(GoT.zero:qg)::xs->∀q,q∈(GoT.zero:qg)::xs->qdF n p q mode=V (ordP mode p q))/\xs.mergeSort (leF (ordP mode))=y:=by
 unfold sortP at h;split at h
 ·rename_i hc;exact⟨hc,Option.some.inj h⟩
 ·cases h
theorem qvz{n:Nat}{u w:World}{L:List Ch}{S:Nat->Prop}{X y:List qg}{mode:Int}{p:Option Addr}{k c:Nat}(i:Nat)(h:SH u w L)(hi:L[i]?=V (Ch.own S X [.slice p k c]))(M:sortP n X mode=V y) :
  RetU Tryz.prog 51 [.slice p k c,.int .i64 mode] w fun w'=>∃S',SH u w' (L.set i (Ch.own S' y [.slice p k c])):=by
 obtain⟨⟨K,F⟩,rfl⟩:=qwJ M;refine qoS Tryz.func51 Z (m:=7) Z Z ?_;refine qZ ?_;refine qS ?_;refine qw h Z Z ?_;intro w1 a g;refine qan ?_;refine qS ?_;refine r_p qa Z Z ?_;refine r_p qa Z Z ?_;have f:=g.mem (i:=0) Z;have o:w1.heap[a]?=V (.cells [Value.int .i64 mode].toArray 2 (0,0)):=f.1;have d:a<w1.heap.size:=(f.2 a Z).2;have r:¬ S a:=by
  have l:=(List.pairwise_cons.1 g.apart).1 _ (jM hi) a Z;exact l
 refine qmF (cB 89 Z) (qAK (α:=qg) Tryz.slices_SortFunc_at Z (i+1) g hi [.pointer (V ⟨a,0,U⟩)] (ordP mode) (qs2 mode).swo ?_ K ?_) Z Z Z Z ?_
 ·intro x y _ _ g A;have:=(qs2 mode).anti x y;exact qzM (mode:=mode) (by omega)
 ·intro z t b x y B C N O Q R;have s:GoT.R z (old z) (V mode) [.pointer (V ⟨a,0,U⟩)]:=
   ⟨a,0,_,_,_,[.int .i64 mode],rfl,jA d t,by rw[b a d r];exact o,rI mode,fun j v I=>by simpa using I⟩
  refine(qor Q R s (F x N y O)).mono ?_;rintro e w' ⟨T,rfl,rfl,D,H⟩;exact⟨rfl,D,H⟩
 ·intro z A;refine qan ?_;exact qw6 (P:=Tryz.prog) qa (J:=fun w'=>∃S',SH u w' (L.set i (Ch.own S' (X.mergeSort (leF (ordP mode))) [.slice p k c]))) ⟨S,A.tail⟩ trivial
end Go.Fw
