/- By a program of mine (gen.py): for each function a plain function and the proof that the code computes it. -/
import Derived.Test.YtbmbbkjleheokaaGreatDoorZ2
import Derived.Test.YtbmbbkjleheokaaGreatDoorA3
import Derived.Test.YtbmbbkjleheokaaGreatDoorFw35
import Derived.Test.YtbmbbkjleheokaaGreatDoorR2
open Option renaming bind_some → jd, some → V, none → U
open Nat renaming le_refl → je, le_trans → jX, zero_add → Jg, zero_le → Jh
open Bool renaming and_eq_true → jf, eq_iff_iff → jm, true_and → jz, not_eq_true' → jF, not_true → Ji
open List renaming length_append → jg, length_singleton → ji, getElem?_eq_getElem → jn, getElem_mem → jo, append_assoc → jt, take_succ_eq_append_getElem → jw, length_map → jx, not_mem_nil → jy, length_take → jB, take_length → jC, getD_eq_getElem?_getD → jD, mem_cons → jJ, length_replicate → jL, map_append → jU, getElem_of_mem → jV, append_nil → Jc
open Int renaming toNat_natCast → jr, tdiv_eq_ediv_of_nonneg → jE, le_refl → jS, mul_nonneg → jT, mul_le_mul → Ja

namespace Go.Fw
open Go Go.Proofs Go.Proofs.Tryz
open Go.RowKit (Below)
set_option maxRecDepth 100000
set_option maxHeartbeats 6400000
variable {n:Nat}{w:World}{cs1 cs2 cs3 cs4 cs5 cs6 cs7 cs8 cs9:List Value}
def qf5 (n:Nat)(s:Tl01Source):Option (qx×Int×Int) :=(qr n (⟨s.code,s.at_,s.seed⟩:Tl01Source) 3).bind fun o=>match o with| (y,z,A) =>(idx ([(⟨#[115,108,111,119]⟩:ByteArray),(⟨#[102,97,115,116]⟩:ByteArray),(⟨#[116,121,112]⟩:ByteArray)]:List ByteArray) y).bind fun h =>(qr n (⟨s.code,z,A⟩:Tl01Source) 20).bind fun o=>match o with| (c,B,C) =>(qr n (⟨s.code,B,C⟩:Tl01Source) 20).bind fun o=>match o with| (g,i8,D) =>(qr n (⟨s.code,i8,D⟩:Tl01Source) 60).bind fun o=>match o with| (d,i,k) =>(qr n (⟨s.code,i,k⟩:Tl01Source) 40).bind fun o=>match o with| (f,l,m) =>(qr n (⟨s.code,l,m⟩:Tl01Source) 30).bind fun o=>match o with| (i16,a,b) =>bif (i16==0) then V ((⟨h,W64 (800+(W64 (10*c))),W64 ((W64 (800+(W64 (10*c))))-1),W64 (900+(W64 (10*g))),W64 ((W64 (900+(W64 (10*g))))+(W64 (9*f)))⟩:qx),a,b) else bif (i16==1) then(qr n (⟨s.code,a,b⟩:Tl01Source) 3).bind fun o=>match o with| (p,r,t) =>(idx ([99,100,(-1)]:List Int) p).bind fun F =>V ((⟨h,W64 (800+(W64 (10*c))),W64 ((W64 (800+(W64 (10*c))))+(W64 (7*d))),F,W64 ((W64 (900+(W64 (10*g))))+(W64 (9*f)))⟩:qx),r,t) else bif (i16==2) then(qr n (⟨s.code,a,b⟩:Tl01Source) 2).bind fun o=>match o with| (u,v,x) =>V ((⟨h,W64 (800+(W64 (10*c))),W64 ((W64 (800+(W64 (10*c))))+(W64 (7*d))),W64 (900+(W64 (10*g))),W64 (5000+u)⟩:qx),v,x) else bif (i16==3) then V ((⟨(⟨#[]⟩:ByteArray),W64 (800+(W64 (10*c))),W64 ((W64 (800+(W64 (10*c))))+(W64 (7*d))),W64 (900+(W64 (10*g))),W64 ((W64 (900+(W64 (10*g))))+(W64 (9*f)))⟩:qx),a,b) else V ((⟨h,W64 (800+(W64 (10*c))),W64 ((W64 (800+(W64 (10*c))))+(W64 (7*d))),W64 (900+(W64 (10*g))),W64 ((W64 (900+(W64 (10*g))))+(W64 (9*f)))⟩:qx),a,b)
theorem qkY {n:Nat}{w0 w:World}{F:List Ch}{s:Tl01Source}{A:Nat}{p1:Option Addr}{k1:Nat}(h0:SH w0 w (xb A s p1 k1 s.at_ s.seed::F))(ha1:GoT.R w (Fr w0 F) s (qZ s p1 k1)){r:(qx×Int×Int)}(hF:qf5 n s=V r):RetW prog 53 [.pointer (V ⟨A,0,U⟩)] w (fun us w'=>us=[GoT.v qx (qaP r.1)]∧SH w0 w' (xb A s p1 k1 r.2.1 r.2.2::F)):=by
 have h:=SH.frm1 h0 ha1;refine qa7 func53 Z (m:=58) Z Z (zSR (qh qa h Z Z Z fun w1 bb2 h=>zNS ?_));obtain⟨⟨_,_,_⟩,N,hF⟩:=qd hF;obtain⟨y1,a,hF⟩:=qd hF;obtain⟨⟨O,_,_⟩,c,hF⟩:=qd hF;obtain⟨⟨R,i8,i9⟩,b,hF⟩:=qd hF;refine qaz (fun e w'=>∃(B:Nat),e=[(0,.pointer (V ⟨A,0,U⟩)),(2,.pointer (V ⟨bb2,0,U⟩)),(3,.pointer (V ⟨B,0,U⟩))]∧SH w0 w' [Ch.box B [.string y1,.int .i64 (W64 (800+(W64 (10*O)))),.int .i64 0,.int .i64 (W64 (900+(W64 (10*R)))),.int .i64 0] 36,xb A s p1 k1 i8 i9,Ch.box bb2 [.string ByteArray.empty,.int .i64 0,.int .i64 0,.int .i64 0,.int .i64 0] 36,xf w0 w F s p1 k1]) ?_ ?_
 ·refine rA [15] [] h Z fun _ h=>M0 546 [1,5,9] (h.pick [] Z) Z (qhC 0 2 14 Z Z Z (bits 16 547) (bits 16 550) (bits 16 16930) (by kernel_rfl) (by kernel_rfl) (by kernel_rfl)  (by kernel_rfl) ?_ ?_ ?_)
  ·refine qp qa [.const (.string (⟨#[115,108,111,119]⟩:ByteArray)),.const (.string (⟨#[102,97,115,116]⟩:ByteArray)),.const (.string (⟨#[116,121,112]⟩:ByteArray))] _ ([(⟨#[115,108,111,119]⟩:ByteArray),(⟨#[102,97,115,116]⟩:ByteArray),(⟨#[116,121,112]⟩:ByteArray)]:List ByteArray) h Z Z Z Z Z Z Z Z Z ⟨rfl,rfl,rfl,trivial⟩ Z fun _ _ _ h=>Ag (h.pick [] Z) (At 2 14 551 16931 Z ?_ ?_)
   ·replace h:=h.pick [2,0,1,3] Z;refine nxC h ((qb (h.frG 3 0 1 Z Z Z)).1) N Z Z Z fun _ h=>Ag (h.pick [] Z) ?_;have S:=qaL a;obtain⟨_,o_17,_,_,d,g,-,hr20,_⟩:=(h.sl 1 Z).1.at a;obtain rfl:=hr20;refine Ax 3 559 d g ⟨S.1,qA S.2.1 (h.sl 1 Z).2⟩ (h.pick [] Z) Z (qhC 4 6 14 Z Z Z (bits 16 575) (bits 16 623) (bits 16 16943) (by kernel_rfl) (by kernel_rfl) (by kernel_rfl)  (by kernel_rfl) ?_ ?_ ?_)
    ·refine r_v (qbc qa (qz (w1:=w) (S1:=fun _=>False) h 1 Z a d g Z) (j:=0) Z Z Z) Z (Ag (h.pick [] Z) (At 6 14 639 16959 Z ?_ ?_))
     ·refine nxC h ((qb (h.frG 3 0 1 Z Z Z)).1) c Z Z Z fun _ h=>G0 1023 [7,8] (h.pick [] Z) Z (At 10 14 2047 17407 Z ?_ ?_)
      ·refine nxC h ((qb (h.frG 3 0 1 Z Z Z)).1) b Z Z Z fun _ h=>G0 8191 [11,12] (h.pick [] Z) Z (Aw 13 16383 (fun w' hw=>qt qa [0,1,3] [.tmp 8,.tmp 12,.tmp 16] Z Z Z Z Z Z Z Z) (h.pick [] Z) Z ?_);refine Ao 14 32767 Z (qh qa h Z Z Z fun _ _ h=>Ag (h.pick [] Z) (Ao 15 65535 Z (zs 0 h Z fun _ h=>qL (fun hs=>absurd (hs 15 (by decide)) (by decide)) (Ad ?_))));replace h:=h.pick [0,1,3,4] Z;exact rG ⟨_,rfl,h⟩ Z
      refine qh qa h Z Z Z fun _ _ h=>Ag (h.pick [] Z) (Ao 10 18431 Z ?_);replace h:=h.pick [1,0,2,3,4] Z;refine nxC h ((qb (h.frG 4 0 1 Z Z Z)).1) b Z Z Z fun _ h=>G0 24575 [11,12] (h.pick [] Z) Z (Aw 13 32767 (fun w' hw=>qt qa [0,1,3] [.tmp 8,.tmp 12,.tmp 16] Z Z Z Z Z Z Z Z) (h.pick [] Z) Z ?_);refine Ao 15 65535 Z (zs 1 h Z fun _ h=>qL (fun hs=>absurd (hs 15 (by decide)) (by decide)) (Ad ?_));replace h:=h.pick [1,0,3,4] Z;exact rG ⟨_,rfl,h⟩ Z
     refine qh qa h Z Z Z fun _ _ h=>Ag (h.pick [] Z) (Ao 6 17023 Z ?_);replace h:=h.pick [1,0,2,3,4] Z;refine nxC h ((qb (h.frG 4 0 1 Z Z Z)).1) c Z Z Z fun _ h=>G0 17407 [7,8] (h.pick [] Z) Z (Ao 10 18431 Z (nxC h ((qb (h.frG 4 0 1 Z Z Z)).1) b Z Z Z fun _ h=>G0 24575 [11,12] (h.pick [] Z) Z (Aw 13 32767 (fun w' hw=>qt qa [0,1,3] [.tmp 8,.tmp 12,.tmp 16] Z Z Z Z Z Z Z Z) (h.pick [] Z) Z ?_)));refine Ao 15 65535 Z (zs 1 h Z fun _ h=>qL (fun hs=>absurd (hs 15 (by decide)) (by decide)) (Ad ?_));replace h:=h.pick [1,0,3,4] Z;exact rG ⟨_,rfl,h⟩ Z
    ·refine nxC h ((qb (h.frG 3 0 1 Z Z Z)).1) c Z Z Z fun _ h=>G0 1007 [7,8] (h.pick [] Z) Z (qhC 4 10 14 Z Z Z (bits 16 1023) (bits 16 2031) (bits 16 17391) (by kernel_rfl) (by kernel_rfl) (by kernel_rfl)  (by kernel_rfl) ?_ ?_ ?_)
     ·refine r_v (qbc qa (qz (w1:=w) (S1:=fun _=>False) h 1 Z a d g Z) (j:=0) Z Z Z) Z (Ag (h.pick [] Z) (At 10 14 2047 17407 Z ?_ ?_))
      ·refine nxC h ((qb (h.frG 3 0 1 Z Z Z)).1) b Z Z Z fun _ h=>G0 8191 [11,12] (h.pick [] Z) Z (Aw 13 16383 (fun w' hw=>qt qa [0,1,3] [.tmp 8,.tmp 12,.tmp 16] Z Z Z Z Z Z Z Z) (h.pick [] Z) Z ?_);refine Ao 14 32767 Z (qh qa h Z Z Z fun _ _ h=>Ag (h.pick [] Z) (Ao 15 65535 Z (zs 0 h Z fun _ h=>qL (fun hs=>absurd (hs 15 (by decide)) (by decide)) (Ad ?_))));replace h:=h.pick [0,1,3,4] Z;exact rG ⟨_,rfl,h⟩ Z
      refine qh qa h Z Z Z fun _ _ h=>Ag (h.pick [] Z) (Ao 10 18431 Z ?_);replace h:=h.pick [1,0,2,3,4] Z;refine nxC h ((qb (h.frG 4 0 1 Z Z Z)).1) b Z Z Z fun _ h=>G0 24575 [11,12] (h.pick [] Z) Z (Aw 13 32767 (fun w' hw=>qt qa [0,1,3] [.tmp 8,.tmp 12,.tmp 16] Z Z Z Z Z Z Z Z) (h.pick [] Z) Z ?_);refine Ao 15 65535 Z (zs 1 h Z fun _ h=>qL (fun hs=>absurd (hs 15 (by decide)) (by decide)) (Ad ?_));replace h:=h.pick [1,0,3,4] Z;exact rG ⟨_,rfl,h⟩ Z
     ·refine nxC h ((qb (h.frG 3 0 1 Z Z Z)).1) b Z Z Z fun _ h=>G0 8175 [11,12] (h.pick [] Z) Z (At 4 14 8191 24559 Z ?_ ?_)
      ·refine r_v (qbc qa (qz (w1:=w) (S1:=fun _=>False) h 1 Z a d g Z) (j:=0) Z Z Z) Z (Ag (h.pick [] Z) (Aw 13 16383 (fun w' hw=>qt qa [0,1,3] [.tmp 8,.tmp 12,.tmp 16] Z Z Z Z Z Z Z Z) (h.pick [] Z) Z ?_));refine Ao 14 32767 Z (qh qa h Z Z Z fun _ _ h=>Ag (h.pick [] Z) (Ao 15 65535 Z (zs 0 h Z fun _ h=>qL (fun hs=>absurd (hs 15 (by decide)) (by decide)) (Ad ?_))));replace h:=h.pick [0,1,3,4] Z;exact rG ⟨_,rfl,h⟩ Z
      refine qh qa h Z Z Z fun _ _ h=>Ag (h.pick [] Z) (Ao 4 24575 Z (r_v (qbc qa (qz (w1:=w) (S1:=fun _=>False) h 2 Z a d g Z) (j:=0) Z Z Z) Z (Ag (h.pick [] Z) (Aw 13 32767 (fun w' hw=>qt qa [0,1,3] [.tmp 8,.tmp 12,.tmp 16] Z Z Z Z Z Z Z Z) (h.pick [] Z) Z ?_))));refine Ao 15 65535 Z (zs 0 h Z fun _ h=>qL (fun hs=>absurd (hs 15 (by decide)) (by decide)) (Ad ?_));replace h:=h.pick [0,1,3,4] Z;exact rG ⟨_,rfl,h⟩ Z
     refine qh qa h Z Z Z fun _ _ h=>Ag (h.pick [] Z) (At 4 10 17407 18415 Z ?_ ?_)
     ·refine r_v (qbc qa (qz (w1:=w) (S1:=fun _=>False) h 2 Z a d g Z) (j:=0) Z Z Z) Z (Ag (h.pick [] Z) (Ao 10 18431 Z ?_));replace h:=h.pick [1,0,2,3,4] Z;refine nxC h ((qb (h.frG 4 0 1 Z Z Z)).1) b Z Z Z fun _ h=>G0 24575 [11,12] (h.pick [] Z) Z (Aw 13 32767 (fun w' hw=>qt qa [0,1,3] [.tmp 8,.tmp 12,.tmp 16] Z Z Z Z Z Z Z Z) (h.pick [] Z) Z ?_);refine Ao 15 65535 Z (zs 1 h Z fun _ h=>qL (fun hs=>absurd (hs 15 (by decide)) (by decide)) (Ad ?_));replace h:=h.pick [1,0,3,4] Z;exact rG ⟨_,rfl,h⟩ Z
     replace h:=h.pick [1,0,2,3,4] Z;refine nxC h ((qb (h.frG 4 0 1 Z Z Z)).1) b Z Z Z fun _ h=>G0 24559 [11,12] (h.pick [] Z) Z (Ao 4 24575 Z (r_v (qbc qa (qz (w1:=w) (S1:=fun _=>False) h 2 Z a d g Z) (j:=0) Z Z Z) Z (Ag (h.pick [] Z) (Aw 13 32767 (fun w' hw=>qt qa [0,1,3] [.tmp 8,.tmp 12,.tmp 16] Z Z Z Z Z Z Z Z) (h.pick [] Z) Z ?_))));refine Ao 15 65535 Z (zs 1 h Z fun _ h=>qL (fun hs=>absurd (hs 15 (by decide)) (by decide)) (Ad ?_));replace h:=h.pick [1,0,3,4] Z;exact rG ⟨_,rfl,h⟩ Z
    refine qh qa h Z Z Z fun _ _ h=>Ag (h.pick [] Z) (At 4 6 16959 17007 Z ?_ ?_)
    ·refine r_v (qbc qa (qz (w1:=w) (S1:=fun _=>False) h 2 Z a d g Z) (j:=0) Z Z Z) Z (Ag (h.pick [] Z) (Ao 6 17023 Z ?_));replace h:=h.pick [1,0,2,3,4] Z;refine nxC h ((qb (h.frG 4 0 1 Z Z Z)).1) c Z Z Z fun _ h=>G0 17407 [7,8] (h.pick [] Z) Z (Ao 10 18431 Z (nxC h ((qb (h.frG 4 0 1 Z Z Z)).1) b Z Z Z fun _ h=>G0 24575 [11,12] (h.pick [] Z) Z (Aw 13 32767 (fun w' hw=>qt qa [0,1,3] [.tmp 8,.tmp 12,.tmp 16] Z Z Z Z Z Z Z Z) (h.pick [] Z) Z ?_)));refine Ao 15 65535 Z (zs 1 h Z fun _ h=>qL (fun hs=>absurd (hs 15 (by decide)) (by decide)) (Ad ?_));replace h:=h.pick [1,0,3,4] Z;exact rG ⟨_,rfl,h⟩ Z
    replace h:=h.pick [1,0,2,3,4] Z;refine nxC h ((qb (h.frG 4 0 1 Z Z Z)).1) c Z Z Z fun _ h=>G0 17391 [7,8] (h.pick [] Z) Z (At 4 10 17407 18415 Z ?_ ?_)
    ·refine r_v (qbc qa (qz (w1:=w) (S1:=fun _=>False) h 2 Z a d g Z) (j:=0) Z Z Z) Z (Ag (h.pick [] Z) (Ao 10 18431 Z (nxC h ((qb (h.frG 4 0 1 Z Z Z)).1) b Z Z Z fun _ h=>G0 24575 [11,12] (h.pick [] Z) Z (Aw 13 32767 (fun w' hw=>qt qa [0,1,3] [.tmp 8,.tmp 12,.tmp 16] Z Z Z Z Z Z Z Z) (h.pick [] Z) Z ?_))));refine Ao 15 65535 Z (zs 1 h Z fun _ h=>qL (fun hs=>absurd (hs 15 (by decide)) (by decide)) (Ad ?_));replace h:=h.pick [1,0,3,4] Z;exact rG ⟨_,rfl,h⟩ Z
    refine nxC h ((qb (h.frG 4 0 1 Z Z Z)).1) b Z Z Z fun _ h=>G0 24559 [11,12] (h.pick [] Z) Z (Ao 4 24575 Z (r_v (qbc qa (qz (w1:=w) (S1:=fun _=>False) h 2 Z a d g Z) (j:=0) Z Z Z) Z (Ag (h.pick [] Z) (Aw 13 32767 (fun w' hw=>qt qa [0,1,3] [.tmp 8,.tmp 12,.tmp 16] Z Z Z Z Z Z Z Z) (h.pick [] Z) Z ?_))));refine Ao 15 65535 Z (zs 1 h Z fun _ h=>qL (fun hs=>absurd (hs 15 (by decide)) (by decide)) (Ad ?_));replace h:=h.pick [1,0,3,4] Z;exact rG ⟨_,rfl,h⟩ Z
   refine qh qa h Z Z Z fun _ _ h=>Ag (h.pick [] Z) (Ao 2 16935 Z ?_);replace h:=h.pick [3,0,1,2,4] Z;refine nxC h ((qb (h.frG 4 0 1 Z Z Z)).1) N Z Z Z fun _ h=>Ag (h.pick [] Z) ?_;have T:=qaL a;obtain⟨_,o_18,_,_,o,v,-,hr21,_⟩:=(h.sl 2 Z).1.at a;obtain rfl:=hr21;refine Ax 3 16943 o v ⟨T.1,qA T.2.1 (h.sl 2 Z).2⟩ (h.pick [] Z) Z (At 4 6 16959 17007 Z ?_ ?_)
   ·refine r_v (qbc qa (qz (w1:=w) (S1:=fun _=>False) h 2 Z a o v Z) (j:=0) Z Z Z) Z (Ag (h.pick [] Z) (Ao 6 17023 Z (nxC h ((qb (h.frG 4 0 1 Z Z Z)).1) c Z Z Z fun _ h=>G0 17407 [7,8] (h.pick [] Z) Z (Ao 10 18431 Z (nxC h ((qb (h.frG 4 0 1 Z Z Z)).1) b Z Z Z fun _ h=>G0 24575 [11,12] (h.pick [] Z) Z (Aw 13 32767 (fun w' hw=>qt qa [0,1,3] [.tmp 8,.tmp 12,.tmp 16] Z Z Z Z Z Z Z Z) (h.pick [] Z) Z ?_))))));refine Ao 15 65535 Z (zs 1 h Z fun _ h=>qL (fun hs=>absurd (hs 15 (by decide)) (by decide)) (Ad ?_));replace h:=h.pick [1,0,3,4] Z;exact rG ⟨_,rfl,h⟩ Z
   refine nxC h ((qb (h.frG 4 0 1 Z Z Z)).1) c Z Z Z fun _ h=>G0 17391 [7,8] (h.pick [] Z) Z (At 4 10 17407 18415 Z ?_ ?_)
   ·refine r_v (qbc qa (qz (w1:=w) (S1:=fun _=>False) h 2 Z a o v Z) (j:=0) Z Z Z) Z (Ag (h.pick [] Z) (Ao 10 18431 Z (nxC h ((qb (h.frG 4 0 1 Z Z Z)).1) b Z Z Z fun _ h=>G0 24575 [11,12] (h.pick [] Z) Z (Aw 13 32767 (fun w' hw=>qt qa [0,1,3] [.tmp 8,.tmp 12,.tmp 16] Z Z Z Z Z Z Z Z) (h.pick [] Z) Z ?_))));refine Ao 15 65535 Z (zs 1 h Z fun _ h=>qL (fun hs=>absurd (hs 15 (by decide)) (by decide)) (Ad ?_));replace h:=h.pick [1,0,3,4] Z;exact rG ⟨_,rfl,h⟩ Z
   refine nxC h ((qb (h.frG 4 0 1 Z Z Z)).1) b Z Z Z fun _ h=>G0 24559 [11,12] (h.pick [] Z) Z (Ao 4 24575 Z (r_v (qbc qa (qz (w1:=w) (S1:=fun _=>False) h 2 Z a o v Z) (j:=0) Z Z Z) Z (Ag (h.pick [] Z) (Aw 13 32767 (fun w' hw=>qt qa [0,1,3] [.tmp 8,.tmp 12,.tmp 16] Z Z Z Z Z Z Z Z) (h.pick [] Z) Z ?_))));refine Ao 15 65535 Z (zs 1 h Z fun _ h=>qL (fun hs=>absurd (hs 15 (by decide)) (by decide)) (Ad ?_));replace h:=h.pick [1,0,3,4] Z;exact rG ⟨_,rfl,h⟩ Z
  ·replace h:=h.pick [1,0,2] Z;refine nxC h ((qb (h.frG 2 0 1 Z Z Z)).1) N Z Z Z fun _ h=>Ag (h.pick [] Z) (qhC 0 6 14 Z Z Z (bits 16 551) (bits 16 614) (bits 16 16934) (by kernel_rfl) (by kernel_rfl) (by kernel_rfl)  (by kernel_rfl) ?_ ?_ ?_)
   ·refine qp qa [.const (.string (⟨#[115,108,111,119]⟩:ByteArray)),.const (.string (⟨#[102,97,115,116]⟩:ByteArray)),.const (.string (⟨#[116,121,112]⟩:ByteArray))] _ ([(⟨#[115,108,111,119]⟩:ByteArray),(⟨#[102,97,115,116]⟩:ByteArray),(⟨#[116,121,112]⟩:ByteArray)]:List ByteArray) h Z Z Z Z Z Z Z Z Z ⟨rfl,rfl,rfl,trivial⟩ Z fun _ _ _ h=>Ag (h.pick [] Z) ?_;have W:=qaL a;obtain⟨_,o_19,_,_,f,i,-,hr22,_⟩:=(h.sl 0 Z).1.at a;obtain rfl:=hr22;refine Ax 3 559 f i ⟨W.1,qA W.2.1 (h.sl 0 Z).2⟩ (h.pick [] Z) Z (qhC 4 6 14 Z Z Z (bits 16 575) (bits 16 623) (bits 16 16943) (by kernel_rfl) (by kernel_rfl) (by kernel_rfl)  (by kernel_rfl) ?_ ?_ ?_)
    ·refine r_v (qbc qa (qz (w1:=w) (S1:=fun _=>False) h 0 Z a f i Z) (j:=0) Z Z Z) Z (Ag (h.pick [] Z) (At 6 14 639 16959 Z ?_ ?_))
     ·replace h:=h.pick [1,0,2,3] Z;refine nxC h ((qb (h.frG 3 0 1 Z Z Z)).1) c Z Z Z fun _ h=>G0 1023 [7,8] (h.pick [] Z) Z (At 10 14 2047 17407 Z ?_ ?_)
      ·refine nxC h ((qb (h.frG 3 0 1 Z Z Z)).1) b Z Z Z fun _ h=>G0 8191 [11,12] (h.pick [] Z) Z (Aw 13 16383 (fun w' hw=>qt qa [0,1,3] [.tmp 8,.tmp 12,.tmp 16] Z Z Z Z Z Z Z Z) (h.pick [] Z) Z ?_);refine Ao 14 32767 Z (qh qa h Z Z Z fun _ _ h=>Ag (h.pick [] Z) (Ao 15 65535 Z (zs 0 h Z fun _ h=>qL (fun hs=>absurd (hs 15 (by decide)) (by decide)) (Ad ?_))));replace h:=h.pick [0,1,3,4] Z;exact rG ⟨_,rfl,h⟩ Z
      refine qh qa h Z Z Z fun _ _ h=>Ag (h.pick [] Z) (Ao 10 18431 Z ?_);replace h:=h.pick [1,0,2,3,4] Z;refine nxC h ((qb (h.frG 4 0 1 Z Z Z)).1) b Z Z Z fun _ h=>G0 24575 [11,12] (h.pick [] Z) Z (Aw 13 32767 (fun w' hw=>qt qa [0,1,3] [.tmp 8,.tmp 12,.tmp 16] Z Z Z Z Z Z Z Z) (h.pick [] Z) Z ?_);refine Ao 15 65535 Z (zs 1 h Z fun _ h=>qL (fun hs=>absurd (hs 15 (by decide)) (by decide)) (Ad ?_));replace h:=h.pick [1,0,3,4] Z;exact rG ⟨_,rfl,h⟩ Z
     refine qh qa h Z Z Z fun _ _ h=>Ag (h.pick [] Z) (Ao 6 17023 Z ?_);replace h:=h.pick [2,0,1,3,4] Z;refine nxC h ((qb (h.frG 4 0 1 Z Z Z)).1) c Z Z Z fun _ h=>G0 17407 [7,8] (h.pick [] Z) Z (Ao 10 18431 Z (nxC h ((qb (h.frG 4 0 1 Z Z Z)).1) b Z Z Z fun _ h=>G0 24575 [11,12] (h.pick [] Z) Z (Aw 13 32767 (fun w' hw=>qt qa [0,1,3] [.tmp 8,.tmp 12,.tmp 16] Z Z Z Z Z Z Z Z) (h.pick [] Z) Z ?_)));refine Ao 15 65535 Z (zs 1 h Z fun _ h=>qL (fun hs=>absurd (hs 15 (by decide)) (by decide)) (Ad ?_));replace h:=h.pick [1,0,3,4] Z;exact rG ⟨_,rfl,h⟩ Z
    ·replace h:=h.pick [1,0,2,3] Z;refine nxC h ((qb (h.frG 3 0 1 Z Z Z)).1) c Z Z Z fun _ h=>G0 1007 [7,8] (h.pick [] Z) Z (qhC 4 10 14 Z Z Z (bits 16 1023) (bits 16 2031) (bits 16 17391) (by kernel_rfl) (by kernel_rfl) (by kernel_rfl)  (by kernel_rfl) ?_ ?_ ?_)
     ·refine r_v (qbc qa (qz (w1:=w) (S1:=fun _=>False) h 1 Z a f i Z) (j:=0) Z Z Z) Z (Ag (h.pick [] Z) (At 10 14 2047 17407 Z ?_ ?_))
      ·refine nxC h ((qb (h.frG 3 0 1 Z Z Z)).1) b Z Z Z fun _ h=>G0 8191 [11,12] (h.pick [] Z) Z (Aw 13 16383 (fun w' hw=>qt qa [0,1,3] [.tmp 8,.tmp 12,.tmp 16] Z Z Z Z Z Z Z Z) (h.pick [] Z) Z ?_);refine Ao 14 32767 Z (qh qa h Z Z Z fun _ _ h=>Ag (h.pick [] Z) (Ao 15 65535 Z (zs 0 h Z fun _ h=>qL (fun hs=>absurd (hs 15 (by decide)) (by decide)) (Ad ?_))));replace h:=h.pick [0,1,3,4] Z;exact rG ⟨_,rfl,h⟩ Z
      refine qh qa h Z Z Z fun _ _ h=>Ag (h.pick [] Z) (Ao 10 18431 Z ?_);replace h:=h.pick [1,0,2,3,4] Z;refine nxC h ((qb (h.frG 4 0 1 Z Z Z)).1) b Z Z Z fun _ h=>G0 24575 [11,12] (h.pick [] Z) Z (Aw 13 32767 (fun w' hw=>qt qa [0,1,3] [.tmp 8,.tmp 12,.tmp 16] Z Z Z Z Z Z Z Z) (h.pick [] Z) Z ?_);refine Ao 15 65535 Z (zs 1 h Z fun _ h=>qL (fun hs=>absurd (hs 15 (by decide)) (by decide)) (Ad ?_));replace h:=h.pick [1,0,3,4] Z;exact rG ⟨_,rfl,h⟩ Z
     ·refine nxC h ((qb (h.frG 3 0 1 Z Z Z)).1) b Z Z Z fun _ h=>G0 8175 [11,12] (h.pick [] Z) Z (At 4 14 8191 24559 Z ?_ ?_)
      ·refine r_v (qbc qa (qz (w1:=w) (S1:=fun _=>False) h 1 Z a f i Z) (j:=0) Z Z Z) Z (Ag (h.pick [] Z) (Aw 13 16383 (fun w' hw=>qt qa [0,1,3] [.tmp 8,.tmp 12,.tmp 16] Z Z Z Z Z Z Z Z) (h.pick [] Z) Z ?_));refine Ao 14 32767 Z (qh qa h Z Z Z fun _ _ h=>Ag (h.pick [] Z) (Ao 15 65535 Z (zs 0 h Z fun _ h=>qL (fun hs=>absurd (hs 15 (by decide)) (by decide)) (Ad ?_))));replace h:=h.pick [0,1,3,4] Z;exact rG ⟨_,rfl,h⟩ Z
      refine qh qa h Z Z Z fun _ _ h=>Ag (h.pick [] Z) (Ao 4 24575 Z (r_v (qbc qa (qz (w1:=w) (S1:=fun _=>False) h 2 Z a f i Z) (j:=0) Z Z Z) Z (Ag (h.pick [] Z) (Aw 13 32767 (fun w' hw=>qt qa [0,1,3] [.tmp 8,.tmp 12,.tmp 16] Z Z Z Z Z Z Z Z) (h.pick [] Z) Z ?_))));refine Ao 15 65535 Z (zs 0 h Z fun _ h=>qL (fun hs=>absurd (hs 15 (by decide)) (by decide)) (Ad ?_));replace h:=h.pick [0,1,3,4] Z;exact rG ⟨_,rfl,h⟩ Z
     refine qh qa h Z Z Z fun _ _ h=>Ag (h.pick [] Z) (At 4 10 17407 18415 Z ?_ ?_)
     ·refine r_v (qbc qa (qz (w1:=w) (S1:=fun _=>False) h 2 Z a f i Z) (j:=0) Z Z Z) Z (Ag (h.pick [] Z) (Ao 10 18431 Z ?_));replace h:=h.pick [1,0,2,3,4] Z;refine nxC h ((qb (h.frG 4 0 1 Z Z Z)).1) b Z Z Z fun _ h=>G0 24575 [11,12] (h.pick [] Z) Z (Aw 13 32767 (fun w' hw=>qt qa [0,1,3] [.tmp 8,.tmp 12,.tmp 16] Z Z Z Z Z Z Z Z) (h.pick [] Z) Z ?_);refine Ao 15 65535 Z (zs 1 h Z fun _ h=>qL (fun hs=>absurd (hs 15 (by decide)) (by decide)) (Ad ?_));replace h:=h.pick [1,0,3,4] Z;exact rG ⟨_,rfl,h⟩ Z
     replace h:=h.pick [1,0,2,3,4] Z;refine nxC h ((qb (h.frG 4 0 1 Z Z Z)).1) b Z Z Z fun _ h=>G0 24559 [11,12] (h.pick [] Z) Z (Ao 4 24575 Z (r_v (qbc qa (qz (w1:=w) (S1:=fun _=>False) h 2 Z a f i Z) (j:=0) Z Z Z) Z (Ag (h.pick [] Z) (Aw 13 32767 (fun w' hw=>qt qa [0,1,3] [.tmp 8,.tmp 12,.tmp 16] Z Z Z Z Z Z Z Z) (h.pick [] Z) Z ?_))));refine Ao 15 65535 Z (zs 1 h Z fun _ h=>qL (fun hs=>absurd (hs 15 (by decide)) (by decide)) (Ad ?_));replace h:=h.pick [1,0,3,4] Z;exact rG ⟨_,rfl,h⟩ Z
    refine qh qa h Z Z Z fun _ _ h=>Ag (h.pick [] Z) (At 4 6 16959 17007 Z ?_ ?_)
    ·refine r_v (qbc qa (qz (w1:=w) (S1:=fun _=>False) h 1 Z a f i Z) (j:=0) Z Z Z) Z (Ag (h.pick [] Z) (Ao 6 17023 Z ?_));replace h:=h.pick [2,0,1,3,4] Z;refine nxC h ((qb (h.frG 4 0 1 Z Z Z)).1) c Z Z Z fun _ h=>G0 17407 [7,8] (h.pick [] Z) Z (Ao 10 18431 Z (nxC h ((qb (h.frG 4 0 1 Z Z Z)).1) b Z Z Z fun _ h=>G0 24575 [11,12] (h.pick [] Z) Z (Aw 13 32767 (fun w' hw=>qt qa [0,1,3] [.tmp 8,.tmp 12,.tmp 16] Z Z Z Z Z Z Z Z) (h.pick [] Z) Z ?_)));refine Ao 15 65535 Z (zs 1 h Z fun _ h=>qL (fun hs=>absurd (hs 15 (by decide)) (by decide)) (Ad ?_));replace h:=h.pick [1,0,3,4] Z;exact rG ⟨_,rfl,h⟩ Z
    replace h:=h.pick [2,0,1,3,4] Z;refine nxC h ((qb (h.frG 4 0 1 Z Z Z)).1) c Z Z Z fun _ h=>G0 17391 [7,8] (h.pick [] Z) Z (At 4 10 17407 18415 Z ?_ ?_)
    ·refine r_v (qbc qa (qz (w1:=w) (S1:=fun _=>False) h 2 Z a f i Z) (j:=0) Z Z Z) Z (Ag (h.pick [] Z) (Ao 10 18431 Z (nxC h ((qb (h.frG 4 0 1 Z Z Z)).1) b Z Z Z fun _ h=>G0 24575 [11,12] (h.pick [] Z) Z (Aw 13 32767 (fun w' hw=>qt qa [0,1,3] [.tmp 8,.tmp 12,.tmp 16] Z Z Z Z Z Z Z Z) (h.pick [] Z) Z ?_))));refine Ao 15 65535 Z (zs 1 h Z fun _ h=>qL (fun hs=>absurd (hs 15 (by decide)) (by decide)) (Ad ?_));replace h:=h.pick [1,0,3,4] Z;exact rG ⟨_,rfl,h⟩ Z
    refine nxC h ((qb (h.frG 4 0 1 Z Z Z)).1) b Z Z Z fun _ h=>G0 24559 [11,12] (h.pick [] Z) Z (Ao 4 24575 Z (r_v (qbc qa (qz (w1:=w) (S1:=fun _=>False) h 2 Z a f i Z) (j:=0) Z Z Z) Z (Ag (h.pick [] Z) (Aw 13 32767 (fun w' hw=>qt qa [0,1,3] [.tmp 8,.tmp 12,.tmp 16] Z Z Z Z Z Z Z Z) (h.pick [] Z) Z ?_))));refine Ao 15 65535 Z (zs 1 h Z fun _ h=>qL (fun hs=>absurd (hs 15 (by decide)) (by decide)) (Ad ?_));replace h:=h.pick [1,0,3,4] Z;exact rG ⟨_,rfl,h⟩ Z
   ·refine nxC h ((qb (h.frG 2 0 1 Z Z Z)).1) c Z Z Z fun _ h=>G0 998 [7,8] (h.pick [] Z) Z (qhC 0 10 14 Z Z Z (bits 16 999) (bits 16 2022) (bits 16 17382) (by kernel_rfl) (by kernel_rfl) (by kernel_rfl)  (by kernel_rfl) ?_ ?_ ?_)
    ·refine qp qa [.const (.string (⟨#[115,108,111,119]⟩:ByteArray)),.const (.string (⟨#[102,97,115,116]⟩:ByteArray)),.const (.string (⟨#[116,121,112]⟩:ByteArray))] _ ([(⟨#[115,108,111,119]⟩:ByteArray),(⟨#[102,97,115,116]⟩:ByteArray),(⟨#[116,121,112]⟩:ByteArray)]:List ByteArray) h Z Z Z Z Z Z Z Z Z ⟨rfl,rfl,rfl,trivial⟩ Z fun _ _ _ h=>Ag (h.pick [] Z) ?_;have X:=qaL a;obtain⟨_,o_20,_,_,k,l,-,hr23,_⟩:=(h.sl 0 Z).1.at a;obtain rfl:=hr23;refine Ax 3 1007 k l ⟨X.1,qA X.2.1 (h.sl 0 Z).2⟩ (h.pick [] Z) Z (qhC 4 10 14 Z Z Z (bits 16 1023) (bits 16 2031) (bits 16 17391) (by kernel_rfl) (by kernel_rfl) (by kernel_rfl)  (by kernel_rfl) ?_ ?_ ?_)
     ·refine r_v (qbc qa (qz (w1:=w) (S1:=fun _=>False) h 0 Z a k l Z) (j:=0) Z Z Z) Z (Ag (h.pick [] Z) (At 10 14 2047 17407 Z ?_ ?_))
      ·replace h:=h.pick [1,0,2,3] Z;refine nxC h ((qb (h.frG 3 0 1 Z Z Z)).1) b Z Z Z fun _ h=>G0 8191 [11,12] (h.pick [] Z) Z (Aw 13 16383 (fun w' hw=>qt qa [0,1,3] [.tmp 8,.tmp 12,.tmp 16] Z Z Z Z Z Z Z Z) (h.pick [] Z) Z ?_);refine Ao 14 32767 Z (qh qa h Z Z Z fun _ _ h=>Ag (h.pick [] Z) (Ao 15 65535 Z (zs 0 h Z fun _ h=>qL (fun hs=>absurd (hs 15 (by decide)) (by decide)) (Ad ?_))));replace h:=h.pick [0,1,3,4] Z;exact rG ⟨_,rfl,h⟩ Z
      refine qh qa h Z Z Z fun _ _ h=>Ag (h.pick [] Z) (Ao 10 18431 Z ?_);replace h:=h.pick [2,0,1,3,4] Z;refine nxC h ((qb (h.frG 4 0 1 Z Z Z)).1) b Z Z Z fun _ h=>G0 24575 [11,12] (h.pick [] Z) Z (Aw 13 32767 (fun w' hw=>qt qa [0,1,3] [.tmp 8,.tmp 12,.tmp 16] Z Z Z Z Z Z Z Z) (h.pick [] Z) Z ?_);refine Ao 15 65535 Z (zs 1 h Z fun _ h=>qL (fun hs=>absurd (hs 15 (by decide)) (by decide)) (Ad ?_));replace h:=h.pick [1,0,3,4] Z;exact rG ⟨_,rfl,h⟩ Z
     ·replace h:=h.pick [1,0,2,3] Z;refine nxC h ((qb (h.frG 3 0 1 Z Z Z)).1) b Z Z Z fun _ h=>G0 8175 [11,12] (h.pick [] Z) Z (At 4 14 8191 24559 Z ?_ ?_)
      ·refine r_v (qbc qa (qz (w1:=w) (S1:=fun _=>False) h 1 Z a k l Z) (j:=0) Z Z Z) Z (Ag (h.pick [] Z) (Aw 13 16383 (fun w' hw=>qt qa [0,1,3] [.tmp 8,.tmp 12,.tmp 16] Z Z Z Z Z Z Z Z) (h.pick [] Z) Z ?_));refine Ao 14 32767 Z (qh qa h Z Z Z fun _ _ h=>Ag (h.pick [] Z) (Ao 15 65535 Z (zs 0 h Z fun _ h=>qL (fun hs=>absurd (hs 15 (by decide)) (by decide)) (Ad ?_))));replace h:=h.pick [0,1,3,4] Z;exact rG ⟨_,rfl,h⟩ Z
      refine qh qa h Z Z Z fun _ _ h=>Ag (h.pick [] Z) (Ao 4 24575 Z (r_v (qbc qa (qz (w1:=w) (S1:=fun _=>False) h 2 Z a k l Z) (j:=0) Z Z Z) Z (Ag (h.pick [] Z) (Aw 13 32767 (fun w' hw=>qt qa [0,1,3] [.tmp 8,.tmp 12,.tmp 16] Z Z Z Z Z Z Z Z) (h.pick [] Z) Z ?_))));refine Ao 15 65535 Z (zs 0 h Z fun _ h=>qL (fun hs=>absurd (hs 15 (by decide)) (by decide)) (Ad ?_));replace h:=h.pick [0,1,3,4] Z;exact rG ⟨_,rfl,h⟩ Z
     refine qh qa h Z Z Z fun _ _ h=>Ag (h.pick [] Z) (At 4 10 17407 18415 Z ?_ ?_)
     ·refine r_v (qbc qa (qz (w1:=w) (S1:=fun _=>False) h 1 Z a k l Z) (j:=0) Z Z Z) Z (Ag (h.pick [] Z) (Ao 10 18431 Z ?_));replace h:=h.pick [2,0,1,3,4] Z;refine nxC h ((qb (h.frG 4 0 1 Z Z Z)).1) b Z Z Z fun _ h=>G0 24575 [11,12] (h.pick [] Z) Z (Aw 13 32767 (fun w' hw=>qt qa [0,1,3] [.tmp 8,.tmp 12,.tmp 16] Z Z Z Z Z Z Z Z) (h.pick [] Z) Z ?_);refine Ao 15 65535 Z (zs 1 h Z fun _ h=>qL (fun hs=>absurd (hs 15 (by decide)) (by decide)) (Ad ?_));replace h:=h.pick [1,0,3,4] Z;exact rG ⟨_,rfl,h⟩ Z
     replace h:=h.pick [2,0,1,3,4] Z;refine nxC h ((qb (h.frG 4 0 1 Z Z Z)).1) b Z Z Z fun _ h=>G0 24559 [11,12] (h.pick [] Z) Z (Ao 4 24575 Z (r_v (qbc qa (qz (w1:=w) (S1:=fun _=>False) h 2 Z a k l Z) (j:=0) Z Z Z) Z (Ag (h.pick [] Z) (Aw 13 32767 (fun w' hw=>qt qa [0,1,3] [.tmp 8,.tmp 12,.tmp 16] Z Z Z Z Z Z Z Z) (h.pick [] Z) Z ?_))));refine Ao 15 65535 Z (zs 1 h Z fun _ h=>qL (fun hs=>absurd (hs 15 (by decide)) (by decide)) (Ad ?_));replace h:=h.pick [1,0,3,4] Z;exact rG ⟨_,rfl,h⟩ Z
    ·refine nxC h ((qb (h.frG 2 0 1 Z Z Z)).1) b Z Z Z fun _ h=>G0 8166 [11,12] (h.pick [] Z) Z (At 0 14 8167 24550 Z ?_ ?_)
     ·refine qp qa [.const (.string (⟨#[115,108,111,119]⟩:ByteArray)),.const (.string (⟨#[102,97,115,116]⟩:ByteArray)),.const (.string (⟨#[116,121,112]⟩:ByteArray))] _ ([(⟨#[115,108,111,119]⟩:ByteArray),(⟨#[102,97,115,116]⟩:ByteArray),(⟨#[116,121,112]⟩:ByteArray)]:List ByteArray) h Z Z Z Z Z Z Z Z Z ⟨rfl,rfl,rfl,trivial⟩ Z fun _ _ _ h=>Ag (h.pick [] Z) ?_;have Y:=qaL a;obtain⟨_,o_21,_,_,C,J,-,hr24,_⟩:=(h.sl 0 Z).1.at a;obtain rfl:=hr24;refine Ax 3 8175 C J ⟨Y.1,qA Y.2.1 (h.sl 0 Z).2⟩ (h.pick [] Z) Z (At 4 14 8191 24559 Z ?_ ?_)
      ·refine r_v (qbc qa (qz (w1:=w) (S1:=fun _=>False) h 0 Z a C J Z) (j:=0) Z Z Z) Z (Ag (h.pick [] Z) (Aw 13 16383 (fun w' hw=>qt qa [0,1,3] [.tmp 8,.tmp 12,.tmp 16] Z Z Z Z Z Z Z Z) (h.pick [] Z) Z ?_));refine Ao 14 32767 Z (qh qa h Z Z Z fun _ _ h=>Ag (h.pick [] Z) (Ao 15 65535 Z (zs 0 h Z fun _ h=>qL (fun hs=>absurd (hs 15 (by decide)) (by decide)) (Ad ?_))));replace h:=h.pick [0,2,3,4] Z;exact rG ⟨_,rfl,h⟩ Z
      refine qh qa h Z Z Z fun _ _ h=>Ag (h.pick [] Z) (Ao 4 24575 Z (r_v (qbc qa (qz (w1:=w) (S1:=fun _=>False) h 1 Z a C J Z) (j:=0) Z Z Z) Z (Ag (h.pick [] Z) (Aw 13 32767 (fun w' hw=>qt qa [0,1,3] [.tmp 8,.tmp 12,.tmp 16] Z Z Z Z Z Z Z Z) (h.pick [] Z) Z ?_))));refine Ao 15 65535 Z (zs 0 h Z fun _ h=>qL (fun hs=>absurd (hs 15 (by decide)) (by decide)) (Ad ?_));replace h:=h.pick [0,2,3,4] Z;exact rG ⟨_,rfl,h⟩ Z
     refine qh qa h Z Z Z fun _ _ h=>Ag (h.pick [] Z) (Ao 0 24551 Z (qp qa [.const (.string (⟨#[115,108,111,119]⟩:ByteArray)),.const (.string (⟨#[102,97,115,116]⟩:ByteArray)),.const (.string (⟨#[116,121,112]⟩:ByteArray))] _ ([(⟨#[115,108,111,119]⟩:ByteArray),(⟨#[102,97,115,116]⟩:ByteArray),(⟨#[116,121,112]⟩:ByteArray)]:List ByteArray) h Z Z Z Z Z Z Z Z Z ⟨rfl,rfl,rfl,trivial⟩ Z fun _ _ _ h=>Ag (h.pick [] Z) ?_));have a3:=qaL a;obtain⟨_,o_22,_,_,b8,c3,-,hr25,_⟩:=(h.sl 0 Z).1.at a;obtain rfl:=hr25;refine Ax 3 24559 b8 c3 ⟨a3.1,qA a3.2.1 (h.sl 0 Z).2⟩ (h.pick [] Z) Z (Ao 4 24575 Z (r_v (qbc qa (qz (w1:=w) (S1:=fun _=>False) h 0 Z a b8 c3 Z) (j:=0) Z Z Z) Z (Ag (h.pick [] Z) (Aw 13 32767 (fun w' hw=>qt qa [0,1,3] [.tmp 8,.tmp 12,.tmp 16] Z Z Z Z Z Z Z Z) (h.pick [] Z) Z ?_))));refine Ao 15 65535 Z (zs 1 h Z fun _ h=>qL (fun hs=>absurd (hs 15 (by decide)) (by decide)) (Ad ?_));replace h:=h.pick [1,2,3,4] Z;exact rG ⟨_,rfl,h⟩ Z
    refine qh qa h Z Z Z fun _ _ h=>Ag (h.pick [] Z) (At 0 10 17383 18406 Z ?_ ?_)
    ·refine qp qa [.const (.string (⟨#[115,108,111,119]⟩:ByteArray)),.const (.string (⟨#[102,97,115,116]⟩:ByteArray)),.const (.string (⟨#[116,121,112]⟩:ByteArray))] _ ([(⟨#[115,108,111,119]⟩:ByteArray),(⟨#[102,97,115,116]⟩:ByteArray),(⟨#[116,121,112]⟩:ByteArray)]:List ByteArray) h Z Z Z Z Z Z Z Z Z ⟨rfl,rfl,rfl,trivial⟩ Z fun _ _ _ h=>Ag (h.pick [] Z) ?_;have a4:=qaL a;obtain⟨_,o_23,_,_,D,K,-,hr26,_⟩:=(h.sl 0 Z).1.at a;obtain rfl:=hr26;refine Ax 3 17391 D K ⟨a4.1,qA a4.2.1 (h.sl 0 Z).2⟩ (h.pick [] Z) Z (At 4 10 17407 18415 Z ?_ ?_)
     ·refine r_v (qbc qa (qz (w1:=w) (S1:=fun _=>False) h 0 Z a D K Z) (j:=0) Z Z Z) Z (Ag (h.pick [] Z) (Ao 10 18431 Z ?_));replace h:=h.pick [2,0,1,3,4] Z;refine nxC h ((qb (h.frG 4 0 1 Z Z Z)).1) b Z Z Z fun _ h=>G0 24575 [11,12] (h.pick [] Z) Z (Aw 13 32767 (fun w' hw=>qt qa [0,1,3] [.tmp 8,.tmp 12,.tmp 16] Z Z Z Z Z Z Z Z) (h.pick [] Z) Z ?_);refine Ao 15 65535 Z (zs 2 h Z fun _ h=>qL (fun hs=>absurd (hs 15 (by decide)) (by decide)) (Ad ?_));replace h:=h.pick [2,0,3,4] Z;exact rG ⟨_,rfl,h⟩ Z
     replace h:=h.pick [2,0,1,3,4] Z;refine nxC h ((qb (h.frG 4 0 1 Z Z Z)).1) b Z Z Z fun _ h=>G0 24559 [11,12] (h.pick [] Z) Z (Ao 4 24575 Z (r_v (qbc qa (qz (w1:=w) (S1:=fun _=>False) h 1 Z a D K Z) (j:=0) Z Z Z) Z (Ag (h.pick [] Z) (Aw 13 32767 (fun w' hw=>qt qa [0,1,3] [.tmp 8,.tmp 12,.tmp 16] Z Z Z Z Z Z Z Z) (h.pick [] Z) Z ?_))));refine Ao 15 65535 Z (zs 2 h Z fun _ h=>qL (fun hs=>absurd (hs 15 (by decide)) (by decide)) (Ad ?_));replace h:=h.pick [2,0,3,4] Z;exact rG ⟨_,rfl,h⟩ Z
    replace h:=h.pick [1,0,2,3] Z;refine nxC h ((qb (h.frG 3 0 1 Z Z Z)).1) b Z Z Z fun _ h=>G0 24550 [11,12] (h.pick [] Z) Z (Ao 0 24551 Z (qp qa [.const (.string (⟨#[115,108,111,119]⟩:ByteArray)),.const (.string (⟨#[102,97,115,116]⟩:ByteArray)),.const (.string (⟨#[116,121,112]⟩:ByteArray))] _ ([(⟨#[115,108,111,119]⟩:ByteArray),(⟨#[102,97,115,116]⟩:ByteArray),(⟨#[116,121,112]⟩:ByteArray)]:List ByteArray) h Z Z Z Z Z Z Z Z Z ⟨rfl,rfl,rfl,trivial⟩ Z fun _ _ _ h=>Ag (h.pick [] Z) ?_));have a5:=qaL a;obtain⟨_,o_24,_,_,b9,c4,-,hr27,_⟩:=(h.sl 0 Z).1.at a;obtain rfl:=hr27;refine Ax 3 24559 b9 c4 ⟨a5.1,qA a5.2.1 (h.sl 0 Z).2⟩ (h.pick [] Z) Z (Ao 4 24575 Z (r_v (qbc qa (qz (w1:=w) (S1:=fun _=>False) h 0 Z a b9 c4 Z) (j:=0) Z Z Z) Z (Ag (h.pick [] Z) (Aw 13 32767 (fun w' hw=>qt qa [0,1,3] [.tmp 8,.tmp 12,.tmp 16] Z Z Z Z Z Z Z Z) (h.pick [] Z) Z ?_))));refine Ao 15 65535 Z (zs 2 h Z fun _ h=>qL (fun hs=>absurd (hs 15 (by decide)) (by decide)) (Ad ?_));replace h:=h.pick [2,1,3,4] Z;exact rG ⟨_,rfl,h⟩ Z
   refine qh qa h Z Z Z fun _ _ h=>Ag (h.pick [] Z) (At 0 6 16935 16998 Z ?_ ?_)
   ·refine qp qa [.const (.string (⟨#[115,108,111,119]⟩:ByteArray)),.const (.string (⟨#[102,97,115,116]⟩:ByteArray)),.const (.string (⟨#[116,121,112]⟩:ByteArray))] _ ([(⟨#[115,108,111,119]⟩:ByteArray),(⟨#[102,97,115,116]⟩:ByteArray),(⟨#[116,121,112]⟩:ByteArray)]:List ByteArray) h Z Z Z Z Z Z Z Z Z ⟨rfl,rfl,rfl,trivial⟩ Z fun _ _ _ h=>Ag (h.pick [] Z) ?_;have a6:=qaL a;obtain⟨_,o_25,_,_,p,x,-,hr28,_⟩:=(h.sl 0 Z).1.at a;obtain rfl:=hr28;refine Ax 3 16943 p x ⟨a6.1,qA a6.2.1 (h.sl 0 Z).2⟩ (h.pick [] Z) Z (At 4 6 16959 17007 Z ?_ ?_)
    ·refine r_v (qbc qa (qz (w1:=w) (S1:=fun _=>False) h 0 Z a p x Z) (j:=0) Z Z Z) Z (Ag (h.pick [] Z) (Ao 6 17023 Z ?_));replace h:=h.pick [2,0,1,3,4] Z;refine nxC h ((qb (h.frG 4 0 1 Z Z Z)).1) c Z Z Z fun _ h=>G0 17407 [7,8] (h.pick [] Z) Z (Ao 10 18431 Z (nxC h ((qb (h.frG 4 0 1 Z Z Z)).1) b Z Z Z fun _ h=>G0 24575 [11,12] (h.pick [] Z) Z (Aw 13 32767 (fun w' hw=>qt qa [0,1,3] [.tmp 8,.tmp 12,.tmp 16] Z Z Z Z Z Z Z Z) (h.pick [] Z) Z ?_)));refine Ao 15 65535 Z (zs 2 h Z fun _ h=>qL (fun hs=>absurd (hs 15 (by decide)) (by decide)) (Ad ?_));replace h:=h.pick [2,0,3,4] Z;exact rG ⟨_,rfl,h⟩ Z
    replace h:=h.pick [2,0,1,3,4] Z;refine nxC h ((qb (h.frG 4 0 1 Z Z Z)).1) c Z Z Z fun _ h=>G0 17391 [7,8] (h.pick [] Z) Z (At 4 10 17407 18415 Z ?_ ?_)
    ·refine r_v (qbc qa (qz (w1:=w) (S1:=fun _=>False) h 1 Z a p x Z) (j:=0) Z Z Z) Z (Ag (h.pick [] Z) (Ao 10 18431 Z (nxC h ((qb (h.frG 4 0 1 Z Z Z)).1) b Z Z Z fun _ h=>G0 24575 [11,12] (h.pick [] Z) Z (Aw 13 32767 (fun w' hw=>qt qa [0,1,3] [.tmp 8,.tmp 12,.tmp 16] Z Z Z Z Z Z Z Z) (h.pick [] Z) Z ?_))));refine Ao 15 65535 Z (zs 2 h Z fun _ h=>qL (fun hs=>absurd (hs 15 (by decide)) (by decide)) (Ad ?_));replace h:=h.pick [2,0,3,4] Z;exact rG ⟨_,rfl,h⟩ Z
    refine nxC h ((qb (h.frG 4 0 1 Z Z Z)).1) b Z Z Z fun _ h=>G0 24559 [11,12] (h.pick [] Z) Z (Ao 4 24575 Z (r_v (qbc qa (qz (w1:=w) (S1:=fun _=>False) h 1 Z a p x Z) (j:=0) Z Z Z) Z (Ag (h.pick [] Z) (Aw 13 32767 (fun w' hw=>qt qa [0,1,3] [.tmp 8,.tmp 12,.tmp 16] Z Z Z Z Z Z Z Z) (h.pick [] Z) Z ?_))));refine Ao 15 65535 Z (zs 2 h Z fun _ h=>qL (fun hs=>absurd (hs 15 (by decide)) (by decide)) (Ad ?_));replace h:=h.pick [2,0,3,4] Z;exact rG ⟨_,rfl,h⟩ Z
   replace h:=h.pick [1,0,2,3] Z;refine nxC h ((qb (h.frG 3 0 1 Z Z Z)).1) c Z Z Z fun _ h=>G0 17382 [7,8] (h.pick [] Z) Z (At 0 10 17383 18406 Z ?_ ?_)
   ·refine qp qa [.const (.string (⟨#[115,108,111,119]⟩:ByteArray)),.const (.string (⟨#[102,97,115,116]⟩:ByteArray)),.const (.string (⟨#[116,121,112]⟩:ByteArray))] _ ([(⟨#[115,108,111,119]⟩:ByteArray),(⟨#[102,97,115,116]⟩:ByteArray),(⟨#[116,121,112]⟩:ByteArray)]:List ByteArray) h Z Z Z Z Z Z Z Z Z ⟨rfl,rfl,rfl,trivial⟩ Z fun _ _ _ h=>Ag (h.pick [] Z) ?_;have a7:=qaL a;obtain⟨_,o_26,_,_,H,L,-,hr29,_⟩:=(h.sl 0 Z).1.at a;obtain rfl:=hr29;refine Ax 3 17391 H L ⟨a7.1,qA a7.2.1 (h.sl 0 Z).2⟩ (h.pick [] Z) Z (At 4 10 17407 18415 Z ?_ ?_)
    ·refine r_v (qbc qa (qz (w1:=w) (S1:=fun _=>False) h 0 Z a H L Z) (j:=0) Z Z Z) Z (Ag (h.pick [] Z) (Ao 10 18431 Z ?_));replace h:=h.pick [1,0,2,3,4] Z;refine nxC h ((qb (h.frG 4 0 1 Z Z Z)).1) b Z Z Z fun _ h=>G0 24575 [11,12] (h.pick [] Z) Z (Aw 13 32767 (fun w' hw=>qt qa [0,1,3] [.tmp 8,.tmp 12,.tmp 16] Z Z Z Z Z Z Z Z) (h.pick [] Z) Z ?_);refine Ao 15 65535 Z (zs 2 h Z fun _ h=>qL (fun hs=>absurd (hs 15 (by decide)) (by decide)) (Ad ?_));replace h:=h.pick [2,0,3,4] Z;exact rG ⟨_,rfl,h⟩ Z
    replace h:=h.pick [1,0,2,3,4] Z;refine nxC h ((qb (h.frG 4 0 1 Z Z Z)).1) b Z Z Z fun _ h=>G0 24559 [11,12] (h.pick [] Z) Z (Ao 4 24575 Z (r_v (qbc qa (qz (w1:=w) (S1:=fun _=>False) h 1 Z a H L Z) (j:=0) Z Z Z) Z (Ag (h.pick [] Z) (Aw 13 32767 (fun w' hw=>qt qa [0,1,3] [.tmp 8,.tmp 12,.tmp 16] Z Z Z Z Z Z Z Z) (h.pick [] Z) Z ?_))));refine Ao 15 65535 Z (zs 2 h Z fun _ h=>qL (fun hs=>absurd (hs 15 (by decide)) (by decide)) (Ad ?_));replace h:=h.pick [2,0,3,4] Z;exact rG ⟨_,rfl,h⟩ Z
   refine nxC h ((qb (h.frG 3 0 1 Z Z Z)).1) b Z Z Z fun _ h=>G0 24550 [11,12] (h.pick [] Z) Z (Ao 0 24551 Z (qp qa [.const (.string (⟨#[115,108,111,119]⟩:ByteArray)),.const (.string (⟨#[102,97,115,116]⟩:ByteArray)),.const (.string (⟨#[116,121,112]⟩:ByteArray))] _ ([(⟨#[115,108,111,119]⟩:ByteArray),(⟨#[102,97,115,116]⟩:ByteArray),(⟨#[116,121,112]⟩:ByteArray)]:List ByteArray) h Z Z Z Z Z Z Z Z Z ⟨rfl,rfl,rfl,trivial⟩ Z fun _ _ _ h=>Ag (h.pick [] Z) ?_));have a8:=qaL a;obtain⟨_,o_27,_,_,c0,c5,-,hr30,_⟩:=(h.sl 0 Z).1.at a;obtain rfl:=hr30;refine Ax 3 24559 c0 c5 ⟨a8.1,qA a8.2.1 (h.sl 0 Z).2⟩ (h.pick [] Z) Z (Ao 4 24575 Z (r_v (qbc qa (qz (w1:=w) (S1:=fun _=>False) h 0 Z a c0 c5 Z) (j:=0) Z Z Z) Z (Ag (h.pick [] Z) (Aw 13 32767 (fun w' hw=>qt qa [0,1,3] [.tmp 8,.tmp 12,.tmp 16] Z Z Z Z Z Z Z Z) (h.pick [] Z) Z ?_))));refine Ao 15 65535 Z (zs 2 h Z fun _ h=>qL (fun hs=>absurd (hs 15 (by decide)) (by decide)) (Ad ?_));replace h:=h.pick [2,1,3,4] Z;exact rG ⟨_,rfl,h⟩ Z
  refine qh qa h Z Z Z fun _ _ h=>Ag (h.pick [] Z) (At 0 2 16931 16934 Z ?_ ?_)
  ·refine qp qa [.const (.string (⟨#[115,108,111,119]⟩:ByteArray)),.const (.string (⟨#[102,97,115,116]⟩:ByteArray)),.const (.string (⟨#[116,121,112]⟩:ByteArray))] _ ([(⟨#[115,108,111,119]⟩:ByteArray),(⟨#[102,97,115,116]⟩:ByteArray),(⟨#[116,121,112]⟩:ByteArray)]:List ByteArray) h Z Z Z Z Z Z Z Z Z ⟨rfl,rfl,rfl,trivial⟩ Z fun _ _ _ h=>Ag (h.pick [] Z) (Ao 2 16935 Z ?_);replace h:=h.pick [3,0,1,2,4] Z;refine nxC h ((qb (h.frG 4 0 1 Z Z Z)).1) N Z Z Z fun _ h=>Ag (h.pick [] Z) ?_;have a9:=qaL a;obtain⟨_,o_28,_,_,t,y,-,hr31,_⟩:=(h.sl 1 Z).1.at a;obtain rfl:=hr31;refine Ax 3 16943 t y ⟨a9.1,qA a9.2.1 (h.sl 1 Z).2⟩ (h.pick [] Z) Z (At 4 6 16959 17007 Z ?_ ?_)
   ·refine r_v (qbc qa (qz (w1:=w) (S1:=fun _=>False) h 1 Z a t y Z) (j:=0) Z Z Z) Z (Ag (h.pick [] Z) (Ao 6 17023 Z (nxC h ((qb (h.frG 4 0 1 Z Z Z)).1) c Z Z Z fun _ h=>G0 17407 [7,8] (h.pick [] Z) Z (Ao 10 18431 Z (nxC h ((qb (h.frG 4 0 1 Z Z Z)).1) b Z Z Z fun _ h=>G0 24575 [11,12] (h.pick [] Z) Z (Aw 13 32767 (fun w' hw=>qt qa [0,1,3] [.tmp 8,.tmp 12,.tmp 16] Z Z Z Z Z Z Z Z) (h.pick [] Z) Z ?_))))));refine Ao 15 65535 Z (zs 2 h Z fun _ h=>qL (fun hs=>absurd (hs 15 (by decide)) (by decide)) (Ad ?_));replace h:=h.pick [2,0,3,4] Z;exact rG ⟨_,rfl,h⟩ Z
   refine nxC h ((qb (h.frG 4 0 1 Z Z Z)).1) c Z Z Z fun _ h=>G0 17391 [7,8] (h.pick [] Z) Z (At 4 10 17407 18415 Z ?_ ?_)
   ·refine r_v (qbc qa (qz (w1:=w) (S1:=fun _=>False) h 1 Z a t y Z) (j:=0) Z Z Z) Z (Ag (h.pick [] Z) (Ao 10 18431 Z (nxC h ((qb (h.frG 4 0 1 Z Z Z)).1) b Z Z Z fun _ h=>G0 24575 [11,12] (h.pick [] Z) Z (Aw 13 32767 (fun w' hw=>qt qa [0,1,3] [.tmp 8,.tmp 12,.tmp 16] Z Z Z Z Z Z Z Z) (h.pick [] Z) Z ?_))));refine Ao 15 65535 Z (zs 2 h Z fun _ h=>qL (fun hs=>absurd (hs 15 (by decide)) (by decide)) (Ad ?_));replace h:=h.pick [2,0,3,4] Z;exact rG ⟨_,rfl,h⟩ Z
   refine nxC h ((qb (h.frG 4 0 1 Z Z Z)).1) b Z Z Z fun _ h=>G0 24559 [11,12] (h.pick [] Z) Z (Ao 4 24575 Z (r_v (qbc qa (qz (w1:=w) (S1:=fun _=>False) h 1 Z a t y Z) (j:=0) Z Z Z) Z (Ag (h.pick [] Z) (Aw 13 32767 (fun w' hw=>qt qa [0,1,3] [.tmp 8,.tmp 12,.tmp 16] Z Z Z Z Z Z Z Z) (h.pick [] Z) Z ?_))));refine Ao 15 65535 Z (zs 2 h Z fun _ h=>qL (fun hs=>absurd (hs 15 (by decide)) (by decide)) (Ad ?_));replace h:=h.pick [2,0,3,4] Z;exact rG ⟨_,rfl,h⟩ Z
  replace h:=h.pick [2,0,1,3] Z;refine nxC h ((qb (h.frG 3 0 1 Z Z Z)).1) N Z Z Z fun _ h=>Ag (h.pick [] Z) (At 0 6 16935 16998 Z ?_ ?_)
  ·refine qp qa [.const (.string (⟨#[115,108,111,119]⟩:ByteArray)),.const (.string (⟨#[102,97,115,116]⟩:ByteArray)),.const (.string (⟨#[116,121,112]⟩:ByteArray))] _ ([(⟨#[115,108,111,119]⟩:ByteArray),(⟨#[102,97,115,116]⟩:ByteArray),(⟨#[116,121,112]⟩:ByteArray)]:List ByteArray) h Z Z Z Z Z Z Z Z Z ⟨rfl,rfl,rfl,trivial⟩ Z fun _ _ _ h=>Ag (h.pick [] Z) ?_;have b4:=qaL a;obtain⟨_,o_29,_,_,u,z,-,hr32,_⟩:=(h.sl 0 Z).1.at a;obtain rfl:=hr32;refine Ax 3 16943 u z ⟨b4.1,qA b4.2.1 (h.sl 0 Z).2⟩ (h.pick [] Z) Z (At 4 6 16959 17007 Z ?_ ?_)
   ·refine r_v (qbc qa (qz (w1:=w) (S1:=fun _=>False) h 0 Z a u z Z) (j:=0) Z Z Z) Z (Ag (h.pick [] Z) (Ao 6 17023 Z ?_));replace h:=h.pick [1,0,2,3,4] Z;refine nxC h ((qb (h.frG 4 0 1 Z Z Z)).1) c Z Z Z fun _ h=>G0 17407 [7,8] (h.pick [] Z) Z (Ao 10 18431 Z (nxC h ((qb (h.frG 4 0 1 Z Z Z)).1) b Z Z Z fun _ h=>G0 24575 [11,12] (h.pick [] Z) Z (Aw 13 32767 (fun w' hw=>qt qa [0,1,3] [.tmp 8,.tmp 12,.tmp 16] Z Z Z Z Z Z Z Z) (h.pick [] Z) Z ?_)));refine Ao 15 65535 Z (zs 2 h Z fun _ h=>qL (fun hs=>absurd (hs 15 (by decide)) (by decide)) (Ad ?_));replace h:=h.pick [2,0,3,4] Z;exact rG ⟨_,rfl,h⟩ Z
   replace h:=h.pick [1,0,2,3,4] Z;refine nxC h ((qb (h.frG 4 0 1 Z Z Z)).1) c Z Z Z fun _ h=>G0 17391 [7,8] (h.pick [] Z) Z (At 4 10 17407 18415 Z ?_ ?_)
   ·refine r_v (qbc qa (qz (w1:=w) (S1:=fun _=>False) h 1 Z a u z Z) (j:=0) Z Z Z) Z (Ag (h.pick [] Z) (Ao 10 18431 Z (nxC h ((qb (h.frG 4 0 1 Z Z Z)).1) b Z Z Z fun _ h=>G0 24575 [11,12] (h.pick [] Z) Z (Aw 13 32767 (fun w' hw=>qt qa [0,1,3] [.tmp 8,.tmp 12,.tmp 16] Z Z Z Z Z Z Z Z) (h.pick [] Z) Z ?_))));refine Ao 15 65535 Z (zs 2 h Z fun _ h=>qL (fun hs=>absurd (hs 15 (by decide)) (by decide)) (Ad ?_));replace h:=h.pick [2,0,3,4] Z;exact rG ⟨_,rfl,h⟩ Z
   refine nxC h ((qb (h.frG 4 0 1 Z Z Z)).1) b Z Z Z fun _ h=>G0 24559 [11,12] (h.pick [] Z) Z (Ao 4 24575 Z (r_v (qbc qa (qz (w1:=w) (S1:=fun _=>False) h 1 Z a u z Z) (j:=0) Z Z Z) Z (Ag (h.pick [] Z) (Aw 13 32767 (fun w' hw=>qt qa [0,1,3] [.tmp 8,.tmp 12,.tmp 16] Z Z Z Z Z Z Z Z) (h.pick [] Z) Z ?_))));refine Ao 15 65535 Z (zs 2 h Z fun _ h=>qL (fun hs=>absurd (hs 15 (by decide)) (by decide)) (Ad ?_));replace h:=h.pick [2,0,3,4] Z;exact rG ⟨_,rfl,h⟩ Z
  refine nxC h ((qb (h.frG 3 0 1 Z Z Z)).1) c Z Z Z fun _ h=>G0 17382 [7,8] (h.pick [] Z) Z (At 0 10 17383 18406 Z ?_ ?_)
  ·refine qp qa [.const (.string (⟨#[115,108,111,119]⟩:ByteArray)),.const (.string (⟨#[102,97,115,116]⟩:ByteArray)),.const (.string (⟨#[116,121,112]⟩:ByteArray))] _ ([(⟨#[115,108,111,119]⟩:ByteArray),(⟨#[102,97,115,116]⟩:ByteArray),(⟨#[116,121,112]⟩:ByteArray)]:List ByteArray) h Z Z Z Z Z Z Z Z Z ⟨rfl,rfl,rfl,trivial⟩ Z fun _ _ _ h=>Ag (h.pick [] Z) ?_;have b5:=qaL a;obtain⟨_,o_30,_,_,I,M,-,hr33,_⟩:=(h.sl 0 Z).1.at a;obtain rfl:=hr33;refine Ax 3 17391 I M ⟨b5.1,qA b5.2.1 (h.sl 0 Z).2⟩ (h.pick [] Z) Z (At 4 10 17407 18415 Z ?_ ?_)
   ·refine r_v (qbc qa (qz (w1:=w) (S1:=fun _=>False) h 0 Z a I M Z) (j:=0) Z Z Z) Z (Ag (h.pick [] Z) (Ao 10 18431 Z ?_));replace h:=h.pick [1,0,2,3,4] Z;refine nxC h ((qb (h.frG 4 0 1 Z Z Z)).1) b Z Z Z fun _ h=>G0 24575 [11,12] (h.pick [] Z) Z (Aw 13 32767 (fun w' hw=>qt qa [0,1,3] [.tmp 8,.tmp 12,.tmp 16] Z Z Z Z Z Z Z Z) (h.pick [] Z) Z ?_);refine Ao 15 65535 Z (zs 2 h Z fun _ h=>qL (fun hs=>absurd (hs 15 (by decide)) (by decide)) (Ad ?_));replace h:=h.pick [2,0,3,4] Z;exact rG ⟨_,rfl,h⟩ Z
   replace h:=h.pick [1,0,2,3,4] Z;refine nxC h ((qb (h.frG 4 0 1 Z Z Z)).1) b Z Z Z fun _ h=>G0 24559 [11,12] (h.pick [] Z) Z (Ao 4 24575 Z (r_v (qbc qa (qz (w1:=w) (S1:=fun _=>False) h 1 Z a I M Z) (j:=0) Z Z Z) Z (Ag (h.pick [] Z) (Aw 13 32767 (fun w' hw=>qt qa [0,1,3] [.tmp 8,.tmp 12,.tmp 16] Z Z Z Z Z Z Z Z) (h.pick [] Z) Z ?_))));refine Ao 15 65535 Z (zs 2 h Z fun _ h=>qL (fun hs=>absurd (hs 15 (by decide)) (by decide)) (Ad ?_));replace h:=h.pick [2,0,3,4] Z;exact rG ⟨_,rfl,h⟩ Z
  refine nxC h ((qb (h.frG 3 0 1 Z Z Z)).1) b Z Z Z fun _ h=>G0 24550 [11,12] (h.pick [] Z) Z (Ao 0 24551 Z (qp qa [.const (.string (⟨#[115,108,111,119]⟩:ByteArray)),.const (.string (⟨#[102,97,115,116]⟩:ByteArray)),.const (.string (⟨#[116,121,112]⟩:ByteArray))] _ ([(⟨#[115,108,111,119]⟩:ByteArray),(⟨#[102,97,115,116]⟩:ByteArray),(⟨#[116,121,112]⟩:ByteArray)]:List ByteArray) h Z Z Z Z Z Z Z Z Z ⟨rfl,rfl,rfl,trivial⟩ Z fun _ _ _ h=>Ag (h.pick [] Z) ?_));have b6:=qaL a;obtain⟨_,o_31,_,_,c2,c6,-,hr34,_⟩:=(h.sl 0 Z).1.at a;obtain rfl:=hr34;refine Ax 3 24559 c2 c6 ⟨b6.1,qA b6.2.1 (h.sl 0 Z).2⟩ (h.pick [] Z) Z (Ao 4 24575 Z (r_v (qbc qa (qz (w1:=w) (S1:=fun _=>False) h 0 Z a c2 c6 Z) (j:=0) Z Z Z) Z (Ag (h.pick [] Z) (Aw 13 32767 (fun w' hw=>qt qa [0,1,3] [.tmp 8,.tmp 12,.tmp 16] Z Z Z Z Z Z Z Z) (h.pick [] Z) Z ?_))));refine Ao 15 65535 Z (zs 2 h Z fun _ h=>qL (fun hs=>absurd (hs 15 (by decide)) (by decide)) (Ad ?_));replace h:=h.pick [2,1,3,4] Z;exact rG ⟨_,rfl,h⟩ Z
 rintro _ _ ⟨B,rfl,h⟩;refine qck (rA [7] [0] h Z fun _ h=>M1 7 [0,1,2] 0 (h.pick [0] Z) Z (Ao 3 15 Z ?_));replace h:=h.pick [1,0,2,3] Z;obtain⟨⟨P,_,_⟩,hr35,hF⟩:=qd hF;refine nxC h ((qb (h.frG 3 0 1 Z Z Z)).1) hr35 Z Z Z fun _ h=>G0 127 [4,5,6] (h.pick [1] Z) Z (Ao 7 255 Z (zs 1 h Z fun _ h=>qL (fun hs=>absurd (hs 7 (by decide)) (by decide)) (Ad (qck (rA [7] [1] h Z fun _ h=>M1 7 [0,1,2] 0 (h.pick [1] Z) Z (Ao 3 15 Z ?_))))));obtain⟨⟨Q,_,_⟩,hr36,hF⟩:=qd hF;refine nxC h ((qb (h.frG 3 0 1 Z Z Z)).1) hr36 Z Z Z fun _ h=>G0 127 [4,5,6] (h.pick [1] Z) Z (Ao 7 255 Z (zs 1 h Z fun _ h=>qL (fun hs=>absurd (hs 7 (by decide)) (by decide)) (Ad (X0 4 Z ?_))));obtain⟨⟨_,_,_⟩,hr37,hF⟩:=qd hF;refine nxC h ((qb (h.frG 3 0 1 Z Z Z)).1) hr37 Z Z Z fun _ h=>X0 7 Z (qk Z hF ?_ ?_)<;>intro hF
 ·refine X1 5 1 h Z (zs 1 h Z fun _ h=>X1 5 1 h Z (zs 2 h Z fun _ h=>qa2 ?_));have hk1:=h;obtain rfl:=qc hF;replace h:=h.pick [0,3] Z;exact qaR qa [GoT.v qx [.string y1,.int .i64 (W64 (800+(W64 (10*O)))),.int .i64 (W64 ((W64 (800+(W64 (10*O))))-1)),.int .i64 (W64 (900+(W64 (10*R)))),.int .i64 (W64 ((W64 (900+(W64 (10*R))))+(W64 (9*Q))))]] ⟨⟨_,_,_,rfl,rfl,hk1.box 2 Z,rfl⟩,trivial⟩ ⟨rfl,SH.unfr 1 1 h0 h Z Z⟩
 refine X0 5 Z (qk Z hF ?_ ?_)<;>intro hF
 ·refine qjQ (qp qa [.const (.int .i64 (99)),.const (.int .i64 (100)),.const (.int .i64 (-1))] _ ([99,100,(-1)]:List Int) h Z Z Z Z Z Z Z Z Z ⟨rfl,rfl,rfl,trivial⟩ Z fun _ _ _ h=>zp1 Z ?_);replace h:=h.pick [1,0,2,3,4] Z;obtain⟨⟨_,_,_⟩,hr38,hF⟩:=qd hF;refine nxC h ((qb (h.frG 4 0 1 Z Z Z)).1) hr38 Z Z Z fun _ h=>?_;obtain⟨y2,_,hF,b7,_,_,_,_,hp32,hq32,rfl,hc34⟩:=(h.sl 1 Z).1.ix hF;refine zx hp32 hq32 ⟨b7.1,qA b7.2.1 (h.sl 1 Z).2⟩ Z (zc 0 hc34 Z (zp1 Z (zs 2 h Z fun _ h=>X1 5 2 h Z (zs 3 h Z fun _ h=>qa2 ?_))));have hk2:=h;obtain rfl:=qc hF;replace h:=h.pick [0,4] Z;exact qaR qa [GoT.v qx [.string y1,.int .i64 (W64 (800+(W64 (10*O)))),.int .i64 (W64 ((W64 (800+(W64 (10*O))))+(W64 (7*P)))),.int .i64 y2,.int .i64 (W64 ((W64 (900+(W64 (10*R))))+(W64 (9*Q))))]] ⟨⟨_,_,_,rfl,rfl,hk2.box 3 Z,rfl⟩,trivial⟩ ⟨rfl,SH.unfr 1 1 h0 h Z Z⟩
 refine X0 5 Z (qk Z hF ?_ ?_)<;>intro hF
 ·refine X0 2 Z ?_;obtain⟨⟨i22,_,_⟩,hr40,hF⟩:=qd hF;refine nxC h ((qb (h.frG 3 0 1 Z Z Z)).1) hr40 Z Z Z fun _ h=>zp2 Z (zs 1 h Z fun _ h=>X1 5 1 h Z (zs 2 h Z fun _ h=>qa2 ?_));have hk3:=h;obtain rfl:=qc hF;replace h:=h.pick [0,3] Z;exact qaR qa [GoT.v qx [.string y1,.int .i64 (W64 (800+(W64 (10*O)))),.int .i64 (W64 ((W64 (800+(W64 (10*O))))+(W64 (7*P)))),.int .i64 (W64 (900+(W64 (10*R)))),.int .i64 (W64 (5000+i22))]] ⟨⟨_,_,_,rfl,rfl,hk3.box 2 Z,rfl⟩,trivial⟩ ⟨rfl,SH.unfr 1 1 h0 h Z Z⟩
 refine X0 5 Z (qk Z hF ?_ ?_)<;>intro hF
 ·refine X0 2 Z (zs 1 h Z fun _ h=>X1 5 1 h Z (zs 2 h Z fun _ h=>qa2 ?_));have hk4:=h;obtain rfl:=qc hF;replace h:=h.pick [0,3] Z;exact qaR qa [GoT.v qx [.string (⟨#[]⟩:ByteArray),.int .i64 (W64 (800+(W64 (10*O)))),.int .i64 (W64 ((W64 (800+(W64 (10*O))))+(W64 (7*P)))),.int .i64 (W64 (900+(W64 (10*R)))),.int .i64 (W64 ((W64 (900+(W64 (10*R))))+(W64 (9*Q))))]] ⟨⟨_,_,_,rfl,rfl,hk4.box 2 Z,rfl⟩,trivial⟩ ⟨rfl,SH.unfr 1 1 h0 h Z Z⟩
 refine X1 5 1 h Z (zs 2 h Z fun _ h=>qa2 ?_);have hk5:=h;obtain rfl:=qc hF;replace h:=h.pick [0,3] Z;exact qaR qa [GoT.v qx [.string y1,.int .i64 (W64 (800+(W64 (10*O)))),.int .i64 (W64 ((W64 (800+(W64 (10*O))))+(W64 (7*P)))),.int .i64 (W64 (900+(W64 (10*R)))),.int .i64 (W64 ((W64 (900+(W64 (10*R))))+(W64 (9*Q))))]] ⟨⟨_,_,_,rfl,rfl,hk5.box 2 Z,rfl⟩,trivial⟩ ⟨rfl,SH.unfr 1 1 h0 h Z Z⟩
def qdm (links:(List ql))(live:(List Bool))(m:Bool):Nat→(List Bool)→Bool→Int→Option ((List Bool)×Bool×Int)| 0,_,_,_=>U| n+1,b,b3,a =>bif decide (a<(links.length:Int)) then(idx links a).bind fun d =>(idx links a).bind fun f =>(bif (!m) then V (f.To,d.Bk) else V (d.Bk,f.To)).bind fun o=>match o with| (h,c) =>((idx live a).bind fun i =>bif i then(idx b h).bind fun k =>bif k then(idx b c).bind fun l =>V (!l) else V false else V false).bind fun g =>bif g then(idx b c).bind fun _ =>qdm links live m n (setS b c true) true (W64 (a+1)) else qdm links live m n b b3 (W64 (a+1)) else V (b,b3,a)
def qes (links:(List ql))(live:(List Bool))(c:Bool):Nat→(List Bool)→Bool→Option ((List Bool)×Bool)| 0,_,_=>U| n+1,a,b2 =>bif b2 then(qdm links live c n a false 0).bind fun o=>match o with| (b,b3,_) =>qes links live c n b b3 else V (a,b2)
def qhp (n:Nat)(d:Int)(links:(List ql))(live:(List Bool))(node:Int)(c:Bool):Option (List Bool) :=(mkS d (false:Bool)).bind fun a =>(idx a node).bind fun _ =>(qes links live c n (setS a node true) true).bind fun o=>match o with| (b,_) =>V b
theorem qkL {c4:Int}{links:(List ql)}{live:(List Bool)}{node:Int}{b6:Bool}(N:Ro w links cs1)(O:Ro w live cs2){r:(List Bool)}(F:qhp n c4 links live node b6=V r):RetV prog 260 [.int .i64 c4,GoT.v (List ql) cs1,GoT.v (List Bool) cs2,.int .i64 node,.bool b6] w r:=by
 obtain⟨p1,C,rfl,s1⟩:=N;obtain⟨H,D,rfl,s2⟩:=O;refine zV 63 func260 Z fun h=>X0 7 Z ?_;obtain⟨a,d,F⟩:=qd F;obtain⟨g1,g2,d⟩:=qaf d;refine qay qa Bool h Z Z Z Z Z Z Z Z Z g1 g2 d Z fun _ S1 b h=>X0 6 Z ?_;obtain⟨_,c2,F,l,_,_,_,_,u,x,rfl,P⟩:=(h.sl 0 Z).1.ix F;refine zx u x ⟨l.1,qA l.2.1 (h.sl 0 Z).2⟩ Z (qaG qa 0 0 true h Z c2 u x Z P Z Z Z Z Z Z Z fun _ h=>X0 6 Z ?_);obtain⟨o1,F,L⟩:=qd F;refine qm (rL (fun m e w'=>∃(x2:(List Bool)) (b2:Bool),qes links live b6 m x2 b2=V o1∧e=[(1,.slice p1 links.length C),(2,.slice H live.length D),(4,.bool b6),(11,.slice b a.length a.length),(12,.bool b2)]∧SH w w' [Ch.own S1 (x2:List Bool) [.slice b a.length a.length]]) n ⟨_,_,F,rfl,h⟩ Z ?_);rintro m1 _ _ ⟨x2,b2,F,rfl,h⟩;rcases m1 with _|m1
 ·cases F
 refine X0 5 Z (qk Z F ?_ ?_)<;>intro F
 ·refine X0 10 Z ?_;obtain⟨o2,F,M⟩:=qd F;refine qm (rL (fun m e w'=>∃(A:(List Bool)) (b3:Bool) (z:Int),qdm links live b6 m A b3 z=V o2∧e=[(1,.slice p1 links.length C),(2,.slice H live.length D),(4,.bool b6),(11,.slice b a.length a.length),(12,.bool b3),(13,.int .i64 z)]∧SH w w' [Ch.own S1 (A:List Bool) [.slice b a.length a.length]]) m1 ⟨_,_,_,F,rfl,h⟩ Z ?_);rintro m2 _ _ ⟨A,b3,z,F,rfl,h⟩;rcases m2 with _|m2
  ·cases F
  refine X0 8 Z (qk Z F ?_ ?_)<;>intro F
  ·refine X0 4 Z (rD (zd2 Z ?_));obtain⟨_,_,F,X,_,_,_,_,a4,a9,b9,Q⟩:=s1.ix F;obtain rfl:=qah b9;refine zdxe a4 a9 X Z (zd1 Z (zdc 0 (Q.below h.below) Z (zd2 Z ?_)));obtain⟨_,_,F,Y,_,_,_,_,a5,b4,c0,R⟩:=s1.ix F;obtain rfl:=qah c0;refine zdxe a5 b4 Y Z (zd1 Z (zdc 1 (R.below h.below) Z (zd2 Z (dN h fun _ h=>X0 6 Z ?_))));obtain⟨J,i,_,F,f⟩:=bindE F;refine qaz (fun e w'=>∃(i2:Int) (B:Int),J (i2,B)=V o2∧e=[(1,.slice p1 links.length C),(2,.slice H live.length D),(4,.bool b6),(11,.slice b a.length a.length),(12,.bool b3),(13,.int .i64 z),(14,.int .i64 i2),(15,.int .i64 B)]∧SH w w' [Ch.own S1 (A:List Bool) [.slice b a.length a.length]]) ?_ ?_
   ·refine qk Z F ?_ ?_<;>intro F
    ·refine X0 6 Z ?_;obtain rfl:=qc F;exact rG ⟨_,_,f,rfl,h⟩ Z
    refine qeQ ?_;obtain rfl:=qc F;exact rG ⟨_,_,f,rfl,h⟩ Z
   rintro _ _ ⟨i2,B,F,rfl,h⟩;subst i;refine qck ?_;obtain⟨I,g,_,F,c⟩:=bindE F;refine qaz (fun e w'=>∃(K:Bool),I K=V o2∧e=[(1,.slice p1 links.length C),(2,.slice H live.length D),(4,.bool b6),(11,.slice b a.length a.length),(12,.bool b3),(13,.int .i64 z),(15,.int .i64 B),(58,.bool K)]∧SH w w' [Ch.own S1 (A:List Bool) [.slice b a.length a.length]]) ?_ ?_
   ·refine X0 3 Z ?_;obtain⟨_,_,F,a3,_,_,_,_,a6,b5,rfl,T⟩:=s2.ix F;refine zxe a6 b5 a3 Z (zc 0 (T.below h.below) Z (zp1 Z (qg (t:=46) F Z ?_ ?_)))<;>intro F
    ·refine X0 5 Z ?_;obtain⟨_,_,F,p,_,_,_,_,a7,b7,rfl,W⟩:=(h.sl 0 Z).1.ix F;refine zx a7 b7 ⟨p.1,qA p.2.1 (h.sl 0 Z).2⟩ Z (X0 1 Z (zc 0 W Z (zp2 Z (qg (t:=52) F Z ?_ ?_))))<;>intro F
     ·refine X0 5 Z ?_;obtain⟨_,_,F,s,_,_,_,_,a8,b8,rfl,k⟩:=(h.sl 0 Z).1.ix F;refine zx a8 b8 ⟨s.1,qA s.2.1 (h.sl 0 Z).2⟩ Z (X0 1 Z (zc 0 k Z (X0 4 Z ?_)));obtain rfl:=qc F;exact rG ⟨_,c,rfl,h⟩ Z
     refine X0 7 Z ?_;obtain rfl:=qc F;exact rG ⟨_,c,rfl,h⟩ Z
    refine X0 13 Z ?_;obtain rfl:=qc F;exact rG ⟨_,c,rfl,h⟩ Z
   rintro _ _ ⟨K,F,rfl,h⟩;subst g;refine qk Z F ?_ ?_<;>intro F
   ·refine X0 4 Z ?_;obtain⟨_,c3,F,o,_,_,_,_,v,y,rfl,S⟩:=(h.sl 0 Z).1.ix F;exact zx v y ⟨o.1,qA o.2.1 (h.sl 0 Z).2⟩ Z (qaG qa 0 0 true h Z c3 v y Z S Z Z Z Z Z Z Z fun _ h=>X0 10 Z (rK ⟨_,_,_,F,rfl,h⟩ Z))
   exact X0 7 Z (rK ⟨_,_,_,F,rfl,h⟩ Z)
  refine qv Z ?_;obtain rfl:=qc F;replace F:=M;exact qtt (rK ⟨_,_,F,rfl,h⟩ Z)
 refine qv Z ?_;obtain rfl:=qc F;replace F:=L;refine X0 5 Z ?_;obtain rfl:=qc F;exact rO 0 h Z ⟨rfl,trivial⟩
def qc9 (links:(List ql))(live:(List Bool))(v:Int):Nat→Int→Option (Flow Bool Int)| 0,_=>U| n+1,a =>bif decide (a<(links.length:Int)) then(idx live a).bind fun b =>bif b then(idx links a).bind fun c =>bif (c.Bk==v) then(idx links a).bind fun d =>bif (d.To==v) then V (.ret true) else qc9 links live v n (W64 (a+1)) else qc9 links live v n (W64 (a+1)) else qc9 links live v n (W64 (a+1)) else V (.nxt a)
def qjv (n:Nat)(links:(List ql))(live:(List Bool))(v:Int):Option Bool :=(qc9 links live v n 0).bind fun o=>match o with| .ret r=>V r| .nxt _ =>V false
theorem qof {links:(List ql)}{live:(List Bool)}{v:Int}(b:Ro w links cs1)(c:Ro w live cs2){r:Bool}(F:qjv n links live v=V r):RetV prog 261 [GoT.v (List ql) cs1,GoT.v (List Bool) cs2,.int .i64 v] w r:=by
 obtain⟨p1,D,rfl,s1⟩:=b;obtain⟨J,H,rfl,s2⟩:=c;refine zV 36 func261 Z fun h=>X0 9 Z ?_;obtain⟨I,F,a⟩:=qd F;refine qm (rL (fun m e w'=>∃(B:Int),qc9 links live v m B=V I∧e=[(0,.slice p1 links.length D),(1,.slice J live.length H),(2,.int .i64 v),(7,.int .i64 B)]∧SH w w' []) n ⟨_,F,rfl,h⟩ Z ?_);rintro C _ _ ⟨B,F,rfl,h⟩;rcases C with _|C
 ·cases F
 refine X0 8 Z (qk Z F ?_ ?_)<;>intro F
 ·refine X0 7 Z ?_;obtain⟨_,_,F,i,_,_,_,_,o,u,rfl,d⟩:=s2.ix F;refine zxe o u i Z (zc 0 (d.below h.below) Z (zp1 Z (qg (t:=18) F Z ?_ ?_)))<;>intro F
  ·refine X0 5 Z ?_;obtain⟨_,_,F,k,_,_,_,_,p,x,z,f⟩:=s1.ix F;obtain rfl:=qah z;refine zxe p x k Z (X0 3 Z (zc 0 (f.below h.below) Z (X0 6 Z (qg (t:=27) F Z ?_ ?_))))<;>intro F
   ·refine X0 5 Z ?_;obtain⟨_,_,F,l,_,_,_,_,s,y,A,g⟩:=s1.ix F;obtain rfl:=qah A;refine zxe s y l Z (X0 3 Z (zc 1 (g.below h.below) Z (X0 6 Z (qk Z F ?_ ?_))))<;>intro F
    ·refine X0 4 Z ?_;obtain rfl:=qc F;replace F:=a;exact rb h F Z
    exact X0 7 Z (rK ⟨_,F,rfl,h⟩ Z)
   exact X0 9 Z (qbB Z Z (X0 7 Z (rK ⟨_,F,rfl,h⟩ Z)))
  exact X0 18 Z (qbB Z Z (X0 7 Z (rK ⟨_,F,rfl,h⟩ Z)))
 refine qv Z ?_;obtain rfl:=qc F;replace F:=a;exact X0 4 Z (rb h F Z)
def qdu (a_0:Int)(r1:(List Bool))(c:(List Bool)):Nat→(List Int)→(List Bool)→Int→Option ((List Int)×(List Bool)×Int)| 0,_,_,_=>U| n+1,d,b,a =>bif decide (a<a_0) then((idx r1 a).bind fun g =>bif g then(idx c a).bind fun h =>V h else V false).bind fun b2 =>bif b2 then(appS d ([a]:List Int)).bind fun f =>(idx b a).bind fun _ =>qdu a_0 r1 c n f (setS b a true) (W64 (a+1)) else qdu a_0 r1 c n d b (W64 (a+1)) else V (d,b,a)
def qcG (a_0:Int)(a_1:(List ql))(a_2:(List Bool)):Nat→(List Bool)→(List (List Int))→Int→Option ((List Bool)×(List (List Int))×Int)| 0,_,_,_=>U| n+1,b,c,a =>bif decide (a<a_0) then(idx b a).bind fun l =>bif l then qcG a_0 a_1 a_2 n b c (W64 (a+1)) else(qhp n a_0 a_1 a_2 a true).bind fun r1 =>(qhp n a_0 a_1 a_2 a false).bind fun h =>(qdu a_0 r1 h n ([]:List Int) b 0).bind fun o=>match o with| (d,f,_) =>(bif decide ((d.length:Int) > 1) then V true else(qjv n a_1 a_2 a).bind fun i =>V i).bind fun g =>bif g then(appS c ([d]:List (List Int))).bind fun k =>qcG a_0 a_1 a_2 n f k (W64 (a+1)) else qcG a_0 a_1 a_2 n f c (W64 (a+1)) else V (b,c,a)
def qiN (n:Nat)(a_0:Int)(a_1:(List ql))(a_2:(List Bool)):Option (List (List Int)) :=(mkS a_0 (false:Bool)).bind fun a =>(qcG a_0 a_1 a_2 n a ([]:List (List Int)) 0).bind fun o=>match o with| (_,b,_) =>V b
theorem qnJ {a_0:Int}{a_1:(List ql)}{a_2:(List Bool)}(ha1:Ro w a_1 cs1)(ha2:Ro w a_2 cs2){r:(List (List Int))}(F:qiN n a_0 a_1 a_2=V r):RetV prog 216 [.int .i64 a_0,GoT.v (List ql) cs1,GoT.v (List Bool) cs2] w r:=by
 obtain⟨p1,P,rfl,s1⟩:=ha1;obtain⟨T,Q,rfl,s2⟩:=ha2;refine zV 73 func216 Z fun h=>X0 6 Z (qeu qa [] _ ([]:List (List Int)) [] h Z Z Z Z Z Z Z Z Z qg6 Z Z fun _ _ _ h=>X0 5 Z ?_);obtain⟨a,i,F⟩:=qd F;obtain⟨g1,g2,i⟩:=qaf i;refine qay qa Bool h Z Z Z Z Z Z Z Z Z g1 g2 i Z fun _ S2 g h=>X0 7 Z ?_;obtain⟨o1,F,hK1⟩:=qd F;refine qm (rL (fun m e w'=>∃(x2:(List Bool)) (y:Nat→Prop) (f:Option Addr) (p:Nat) (d:Nat) (b:(List (List Int))) (x:Int),qcG a_0 a_1 a_2 m x2 b x=V o1∧e=[(0,.int .i64 a_0),(1,.slice p1 a_1.length P),(2,.slice T a_2.length Q),(7,.slice f p d),(8,.slice g a.length a.length),(9,.int .i64 x)]∧SH w w' [Ch.own S2 (x2:List Bool) [.slice g a.length a.length],Ch.own y (b:List (List Int)) [.slice f p d]]) n ⟨_,_,_,_,_,_,_,F,rfl,h⟩ Z ?_);rintro m1 _ _ ⟨x2,y,f,p,d,b,x,F,rfl,h⟩;obtain rfl:=(h.sl 1 Z).2;rcases m1 with _|m1
 ·cases F
 refine X0 7 Z (qk Z F ?_ ?_)<;>intro F
 ·refine X0 8 Z ?_;obtain⟨_,_,F,D,_,_,_,_,hp1,hq1,rfl,hc2⟩:=(h.sl 0 Z).1.ix F;refine zx hp1 hq1 ⟨D.1,qA D.2.1 (h.sl 0 Z).2⟩ Z (zc 0 hc2 Z (qa2 (qk Z F ?_ ?_)))<;>intro F
  ·exact qv Z (X0 5 Z (rK ⟨_,_,_,_,_,_,_,F,rfl,h⟩ Z))
  refine X0 7 Z (zcL h F (qkL ⟨_,_,rfl,(h.oldS s1)⟩ ⟨_,_,rfl,(h.oldS s2)⟩) Z fun r1 _ S4 W R h F=>zp4 Z (zcL h F (qkL ⟨_,_,rfl,(h.oldS s1)⟩ ⟨_,_,rfl,(h.oldS s2)⟩) Z fun v _ S5 X S h F=>X0 5 Z (qp qa [] _ ([]:List Int) h Z Z Z Z Z Z Z Z Z trivial Z fun _ _ _ h=>X0 7 Z ?_)));obtain⟨o2,F,hK2⟩:=qd F;refine qm (rL (fun m e w'=>∃(O:Nat→Prop) (u:Option Addr) (s:Nat) (o:Nat) (c:(List Int)) (N:(List Bool)) (M:Int),qdu a_0 r1 v m c N M=V o2∧e=[(0,.int .i64 a_0),(1,.slice p1 a_1.length P),(2,.slice T a_2.length Q),(7,.slice f b.length d),(8,.slice g a.length a.length),(9,.int .i64 x),(10,.slice W r1.length R),(11,.slice X v.length S),(12,.slice u s o),(13,.int .i64 M)]∧SH w w' [Ch.own O (c:List Int) [.slice u s o],Ch.own S5 (v:List Bool) [.slice X v.length S],Ch.own S4 (r1:List Bool) [.slice W r1.length R],Ch.own S2 (N:List Bool) [.slice g a.length a.length],Ch.own y (b:List (List Int)) [.slice f b.length d]]) m1 ⟨_,_,_,_,_,_,_,F,rfl,h⟩ Z ?_);rintro m2 _ _ ⟨O,u,s,o,c,N,M,F,rfl,h⟩;obtain rfl:=(h.sl 0 Z).2;rcases m2 with _|m2
  ·cases F
  refine X0 7 Z (qk Z F ?_ ?_)<;>intro F
  ·refine X0 4 Z ?_;obtain⟨Y,B,_,F,z⟩:=bindE F;refine qaz (fun e w'=>∃(b2:Bool),Y b2=V o2∧e=[(0,.int .i64 a_0),(1,.slice p1 a_1.length P),(2,.slice T a_2.length Q),(7,.slice f b.length d),(8,.slice g a.length a.length),(9,.int .i64 x),(10,.slice W r1.length R),(11,.slice X v.length S),(12,.slice u c.length o),(13,.int .i64 M),(51,.bool b2)]∧SH w w' [Ch.own O (c:List Int) [.slice u c.length o],Ch.own S5 (v:List Bool) [.slice X v.length S],Ch.own S4 (r1:List Bool) [.slice W r1.length R],Ch.own S2 (N:List Bool) [.slice g a.length a.length],Ch.own y (b:List (List Int)) [.slice f b.length d]]) ?_ ?_
   ·refine X0 3 Z ?_;obtain⟨_,_,F,I,_,_,_,_,hp3,hq3,rfl,hc7⟩:=(h.sl 2 Z).1.ix F;refine zx hp3 hq3 ⟨I.1,qA I.2.1 (h.sl 2 Z).2⟩ Z (zc 0 hc7 Z (zp1 Z (qg (t:=46) F Z ?_ ?_)))<;>intro F
    ·refine X0 5 Z ?_;obtain⟨_,_,F,J,_,_,_,_,hp4,hq4,rfl,hc8⟩:=(h.sl 1 Z).1.ix F;refine zx hp4 hq4 ⟨J.1,qA J.2.1 (h.sl 1 Z).2⟩ Z (X0 1 Z (zc 0 hc8 Z (X0 2 Z ?_)));obtain rfl:=qc F;exact rG ⟨_,z,rfl,h⟩ Z
    refine X0 6 Z ?_;obtain rfl:=qc F;exact rG ⟨_,z,rfl,h⟩ Z
   rintro _ _ ⟨b2,F,rfl,h⟩;subst B;refine qk Z F ?_ ?_<;>intro F
   ·refine X0 4 Z (qp qa [.tmp 53] _ ([M]:List Int) h Z Z Z Z Z Z Z Z Z ⟨rfl,trivial⟩ Z fun _ _ _ h=>?_);obtain⟨_,k,F⟩:=qd F;obtain⟨g3,k⟩:=qG k;refine qaF qa 1 h Z (h.sl 0 Z).1 (h.sl 0 Z).2 Z Z Z Z Z Z Z Z Z g3 k Z fun _ _ _ _ h=>X0 5 Z ?_;obtain⟨_,hy2,F,H,_,_,_,_,K,L,rfl,hc6⟩:=(h.sl 4 Z).1.ix F;refine zx K L ⟨H.1,qA H.2.1 (h.sl 4 Z).2⟩ Z (qaG qa 4 0 true h Z hy2 K L Z hc6 Z Z Z Z Z Z Z fun _ h=>X0 7 Z ?_);replace h:=h.pick [1,2,3,4,5] Z;exact rK ⟨_,_,_,_,_,_,_,F,rfl,h⟩ Z
   exact X0 7 Z (rK ⟨_,_,_,_,_,_,_,F,rfl,h⟩ Z)
  refine qv Z ?_;obtain rfl:=qc F;replace F:=hK2;refine qck ?_;obtain⟨a3,C,_,F,A⟩:=bindE F;refine qaz (fun e w'=>∃(b6:Bool),a3 b6=V o1∧e=[(0,.int .i64 a_0),(1,.slice p1 a_1.length P),(2,.slice T a_2.length Q),(7,.slice f b.length d),(8,.slice g a.length a.length),(9,.int .i64 x),(12,.slice u c.length o),(67,.bool b6)]∧SH w w' [Ch.own O (c:List Int) [.slice u c.length o],Ch.own S2 (N:List Bool) [.slice g a.length a.length],Ch.own y (b:List (List Int)) [.slice f b.length d]]) ?_ ?_
  ·refine X0 5 Z (qg (t:=62) F Z ?_ ?_)<;>intro F
   ·refine X0 6 Z ?_;replace h:=h.pick [0,3,4] Z;obtain rfl:=qc F;exact rG ⟨_,A,rfl,h⟩ Z
   refine X0 7 Z (zcB h F (qof ⟨_,_,rfl,(h.oldS s1)⟩ ⟨_,_,rfl,(h.oldS s2)⟩) Z fun _ _ h F=>X0 2 Z ?_);replace h:=h.pick [0,3,4] Z;obtain rfl:=qc F;exact rG ⟨_,A,rfl,h⟩ Z
  rintro _ _ ⟨b6,F,rfl,h⟩;subst C;refine qk Z F ?_ ?_<;>intro F
  ·refine X0 3 Z (qeu qa [.tmp 69] _ ([c]:List (List Int)) [1,2] h Z Z Z Z Z Z Z Z Z (qcR (qK 0 h Z) qg6 Z) Z Z fun _ _ _ h=>?_);obtain⟨_,l,F⟩:=qd F;obtain⟨g4,l⟩:=qG l;replace h:=h.pick [0,2,1] Z;refine qmg qa h Z Z Z Z Z Z Z Z Z g4 l Z fun _ _ _ _ h=>X0 8 Z ?_;replace h:=h.pick [1,0] Z;exact rK ⟨_,_,_,_,_,_,_,F,rfl,h⟩ Z
  refine X0 7 Z ?_;replace h:=h.pick [1,2] Z;exact rK ⟨_,_,_,_,_,_,_,F,rfl,h⟩ Z
 refine qv Z ?_;obtain rfl:=qc F;replace F:=hK1;refine X0 5 Z ?_;obtain rfl:=qc F;exact rO 1 h Z ⟨rfl,trivial⟩

def qdg (b:(List Bool))(c:(List Bool)):Nat→(List Int)→Int→Option ((List Int)×Int)| 0,_,_=>U| n+1,d,a =>bif decide (a<(b.length:Int)) then(idx c a).bind fun g =>bif (!g) then(appS d ([a]:List Int)).bind fun f =>qdg b c n f (W64 (a+1)) else qdg b c n d (W64 (a+1)) else V (d,a)
def qbm (r1:(List ql))(c:(List Bool))(b:(List (List Int))):Nat→Int→Int→Option (Int×Int)| 0,_,_=>U| n+1,d,a =>bif decide (a<(r1.length:Int)) then(idx c a).bind fun h =>bif h then(idx r1 a).bind fun i =>bif (i.Bc==1) then(idx b 0).bind fun k =>(idx r1 a).bind fun l =>(qgD n k l.Bk).bind fun f =>bif f then(idx b 0).bind fun m =>(idx r1 a).bind fun o =>(qgD n m o.To).bind fun g =>bif g then qbm r1 c b n a (W64 (a+1)) else qbm r1 c b n d (W64 (a+1)) else qbm r1 c b n d (W64 (a+1)) else qbm r1 c b n d (W64 (a+1)) else qbm r1 c b n d (W64 (a+1)) else V (d,a)
def qfx (r1:(List ql))(c:Int):Nat→(List Bool)→Option (List Bool)| 0,_=>U| n+1,a =>(qiN n c r1 a).bind fun d =>bif ((d.length:Int)==0) then V a else(qbm r1 a d n (-1) 0).bind fun o=>match o with| (b,_) =>(idx a b).bind fun _ =>qfx r1 c n (setS a b false)
def qiS (n:Nat)(a_0:qe):Option (List Int) :=(qcm n a_0).bind fun r1 =>(qfQ n r1 ([]:List Int)).bind fun a =>(qaY n a_0).bind fun b =>(qfx r1 b n a).bind fun c =>(qdg a c n ([]:List Int) 0).bind fun o=>match o with| (d,_) =>V d
theorem qnS {a_0:qe}(b:Ro w a_0 cs1){r:(List Int)}(F:qiS n a_0=V r):RetV prog 155 [GoT.v qe cs1] w r:=by
 obtain⟨_,_,_,_,_,_,_,_,_,_,rfl,_,_,_,_,_⟩:=qN b;refine zV 86 func155 Z fun h=>zSR (qD h Z Z fun _ _ h=>X1 5 0 h Z (zcL h F (qb6 (h.old b)) Z fun r1 _ S1 R Q h F=>X0 5 Z (qp qa [] _ ([]:List Int) h Z Z Z Z Z Z Z Z Z trivial Z fun _ _ _ h=>zcL h F (qe2 (h.own 1 Z) (h.own 0 Z)) Z fun g _ T l k h F=>X1 5 3 h Z (zcI h F (qbJ (h.old b)) Z fun r3 _ h F=>X0 3 Z ?_))));obtain⟨o1,F,W⟩:=qd F;refine qm ?_;replace h:=h.pick [0,2] Z;refine rL (fun m e w'=>∃(i:(List Bool)),qfx r1 r3 m i=V o1∧e=[(3,.slice R r1.length Q),(4,.slice l g.length k),(5,.int .i64 r3)]∧SH w w' [Ch.own T (i:List Bool) [.slice l g.length k],Ch.own S1 (r1:List ql) [.slice R r1.length Q]]) n ⟨_,F,rfl,h⟩ Z ?_;rintro m1 _ _ ⟨i,F,rfl,h⟩;rcases m1 with _|m1
 ·cases F
 refine X0 6 Z (zcL h F (qnJ (h.own 1 Z) (h.own 0 Z)) Z fun S _ S4 p9 k8 h F=>X0 9 Z (qk Z F ?_ ?_))<;>intro F
 ·refine qv Z ?_;obtain rfl:=qc F;replace F:=W;refine zSR (qp qa [] _ ([]:List Int) h Z Z Z Z Z Z Z Z Z trivial Z fun _ _ _ h=>X0 7 Z ?_);obtain⟨o2,F,X⟩:=qd F;refine qm ?_;replace h:=h.pick [0,2] Z;refine rL (fun m e w'=>∃(S6:Nat→Prop) (f:Option Addr) (d:Nat) (k9:Nat) (x2:(List Int)) (P:Int),qdg g i m x2 P=V o2∧e=[(4,.slice l g.length k),(9,.slice f d k9),(10,.int .i64 P)]∧SH w w' [Ch.own S6 (x2:List Int) [.slice f d k9],Ch.own T (i:List Bool) [.slice l g.length k]]) n ⟨_,_,_,_,_,_,F,rfl,h⟩ Z ?_;rintro m2 _ _ ⟨S6,f,d,k9,x2,P,F,rfl,h⟩;obtain rfl:=(h.sl 0 Z).2;rcases m2 with _|m2
  ·cases F
  refine X0 8 Z (qk Z F ?_ ?_)<;>intro F
  ·refine X0 7 Z ?_;obtain⟨_,_,F,u,_,_,_,_,a8,b9,rfl,a3⟩:=(h.sl 1 Z).1.ix F;refine zx a8 b9 ⟨u.1,qA u.2.1 (h.sl 1 Z).2⟩ Z (zc 0 a3 Z (X0 2 Z (qk Z F ?_ ?_)))<;>intro F
   ·refine X0 3 Z (qp qa [.tmp 82] _ ([P]:List Int) h Z Z Z Z Z Z Z Z Z ⟨rfl,trivial⟩ Z fun _ _ _ h=>?_);obtain⟨_,c,F⟩:=qd F;obtain⟨g1,c⟩:=qG c;refine qaF qa 1 h Z (h.sl 0 Z).1 (h.sl 0 Z).2 Z Z Z Z Z Z Z Z Z g1 c Z fun _ _ _ _ h=>X0 8 Z ?_;replace h:=h.pick [1,2] Z;exact rK ⟨_,_,_,_,_,_,F,rfl,h⟩ Z
   exact X0 7 Z (rK ⟨_,_,_,_,_,_,F,rfl,h⟩ Z)
  refine qv Z ?_;obtain rfl:=qc F;replace F:=X;refine X0 5 Z ?_;obtain rfl:=qc F;exact rO 0 h Z ⟨rfl,trivial⟩
 refine X0 10 Z ?_;obtain⟨o3,F,Y⟩:=qd F;refine qm (rL (fun m e w'=>∃(i2:Int) (i3:Int),qbm r1 i S m i2 i3=V o3∧e=[(3,.slice R r1.length Q),(4,.slice l g.length k),(5,.int .i64 r3),(6,.slice p9 S.length k8),(7,.int .i64 i2),(8,.int .i64 i3)]∧SH w w' [Ch.own S4 (S:List (List Int)) [.slice p9 S.length k8],Ch.own T (i:List Bool) [.slice l g.length k],Ch.own S1 (r1:List ql) [.slice R r1.length Q]]) m1 ⟨_,_,F,rfl,h⟩ Z ?_);rintro m3 _ _ ⟨i2,i3,F,rfl,h⟩;rcases m3 with _|m3
 ·cases F
 refine X0 8 Z (qk Z F ?_ ?_)<;>intro F
 ·refine X0 4 Z (rD (zd2 Z ?_));obtain⟨_,_,F,v,_,_,_,_,a9,c0,rfl,a4⟩:=(h.sl 1 Z).1.ix F;refine zdx a9 c0 ⟨v.1,qA v.2.1 (h.sl 1 Z).2⟩ Z (zdc 0 a4 Z (zd1 Z (qaN (t:=35) F Z ?_ ?_)))<;>intro F
  ·refine Y0 5 Z ?_;obtain⟨_,_,F,x,_,_,_,_,b4,c2,c7,a5⟩:=(h.sl 2 Z).1.ix F;obtain rfl:=qah c7;refine zdx b4 c2 ⟨x.1,qA x.2.1 (h.sl 2 Z).2⟩ Z (Y0 3 Z (zdc 2 a5 Z (Y0 4 Z (qaN (t:=43) F Z ?_ ?_))))<;>intro F
   ·refine Y0 3 Z ?_;obtain⟨_,O,F⟩:=qd F;have y:=qaL O;replace h:=h.lrn0 0 Z;obtain⟨_,o_4,_,_,b5,c3,-,N,a6⟩:=(qll (h.lrnO 0 Z)).1.at O;have c8:=N;obtain⟨_,_,rfl,_⟩:=N;replace h:=h.lrnAdd 0 Z c8;refine zdx b5 c3 ⟨y.1,qA y.2.1 (qll (h.lrnO 0 Z)).2⟩ Z (Y0 1 Z (zdc 0 a6 Z (Y0 5 Z ?_)));obtain⟨_,_,F,z,_,_,_,_,b6,c4,I,a7⟩:=(h.sl 2 Z).1.ix F;obtain rfl:=qah I;refine zdx b6 c4 ⟨z.1,qA z.2.1 (h.sl 2 Z).2⟩ Z (Y0 3 Z (zdc 0 a7 Z (Y0 1 Z ?_)));obtain⟨r5,J,F⟩:=qd F;refine qb5 r5 (vsB _) (cB 90 Z) (fun _ hb=>qic (GoT.mono ((h.ext hb).lrnS 0 0 Z Z) ((h.ext hb).lrnB 0 Z)) J) Z Z Z Z (zd2 Z (qaN (t:=54) F Z ?_ ?_))<;>intro F
    ·refine Y0 3 Z ?_;obtain⟨_,_,F,A,_,_,_,_,b7,c5,a,o⟩:=(qll (h.lrnO 0 Z)).1.ix F;have K:=a;obtain⟨_,_,rfl,_⟩:=a;replace h:=h.lrnAdd 0 Z K;refine zdx b7 c5 ⟨A.1,qA A.2.1 (qll (h.lrnO 0 Z)).2⟩ Z (Y0 1 Z (zdc 0 o Z (Y0 5 Z ?_)));obtain⟨_,_,F,B,_,_,_,_,b8,c6,L,p⟩:=(h.sl 2 Z).1.ix F;obtain rfl:=qah L;refine zdx b8 c6 ⟨B.1,qA B.2.1 (h.sl 2 Z).2⟩ Z (Y0 3 Z (zdc 1 p Z (Y0 1 Z ?_)));obtain⟨r6,M,F⟩:=qd F;refine qb5 r6 (vsB _) (cB 90 Z) (fun _ hb=>qic (GoT.mono ((h.ext hb).lrnS 0 0 Z Z) ((h.ext hb).lrnB 0 Z)) M) Z Z Z Z (zd1 Z (dN h fun _ h=>qk Z F ?_ ?_))<;>intro F
     ·refine X0 10 Z ?_;replace h:=h.unlrn 0 Z;exact rK ⟨_,_,F,rfl,h⟩ Z
     refine X0 7 Z ?_;replace h:=h.unlrn 0 Z;exact rK ⟨_,_,F,rfl,h⟩ Z
    refine Y0 10 Z (dN h fun _ h=>qbB Z Z (X0 7 Z ?_));replace h:=h.unlrn 0 Z;exact rK ⟨_,_,F,rfl,h⟩ Z
   exact Y0 21 Z (dN h fun _ h=>qbB Z Z (X0 7 Z (rK ⟨_,_,F,rfl,h⟩ Z)))
  exact Y0 29 Z (dN h fun _ h=>qbB Z Z (X0 7 Z (rK ⟨_,_,F,rfl,h⟩ Z)))
 refine qv Z ?_;obtain rfl:=qc F;replace F:=Y;refine X0 3 Z ?_;obtain⟨_,c9,F,C,_,_,_,_,D,H,rfl,s⟩:=(h.sl 1 Z).1.ix F;refine zx D H ⟨C.1,qA C.2.1 (h.sl 1 Z).2⟩ Z (qaG qa 1 0 false h Z c9 D H Z s Z Z Z Z Z Z Z fun _ h=>zNE ?_);replace h:=h.pick [1,2] Z;exact rK ⟨_,F,rfl,h⟩ Z
def qbF (a_0:Tl01Source)(A:Int)(b1:Bool):Nat→(List qi)→Int→Int→Int→Option ((List qi)×Int×Int×Int)| 0,_,_,_,_=>U| n+1,D,B,C,d =>bif decide (d<2) then(bif b1 then(qr n (⟨a_0.code,B,C⟩:Tl01Source) 8).bind fun o=>match o with| (s,b,c) =>bif decide (s > 0) then V (b,c,true) else(qr n (⟨a_0.code,b,c⟩:Tl01Source) 24).bind fun o=>match o with| (t,u,v) =>V (u,v,(t==0)) else(qr n (⟨a_0.code,B,C⟩:Tl01Source) 24).bind fun o=>match o with| (x,y,z) =>V (y,z,(x==0))).bind fun o=>match o with| (F,i8,b2) =>bif b2 then(qr n (⟨a_0.code,F,i8⟩:Tl01Source) 200).bind fun o=>match o with| (H,f,g) =>(qr n (⟨a_0.code,f,g⟩:Tl01Source) 30).bind fun o=>match o with| (a,h,i) =>(qr n (⟨a_0.code,h,i⟩:Tl01Source) 40).bind fun o=>match o with| (k,i16,l) =>(qr n (⟨a_0.code,i16,l⟩:Tl01Source) 12).bind fun o=>match o with| (m,p,r) =>(appS D ([(⟨W64 ((W64 (2*A))+d),(⟨W64 (H-50),W64 ((W64 (H-50))+k)⟩:qj),(⟨a,W64 (a+m)⟩:qj)⟩:qi)]:List qi)).bind fun I =>qbF a_0 A b1 n I p r (W64 (d+1)) else qbF a_0 A b1 n D F i8 (W64 (d+1)) else V (D,B,C,d)
def qb4 (a_0:Tl01Source)(b:(List Tl05Place)):Nat→(List qi)→Int→Int→Int→Option ((List qi)×Int×Int×Int)| 0,_,_,_,_=>U| n+1,f,c,d,a =>bif decide (a<(b.length:Int)) then((idx b a).bind fun k =>bif decide (k.instance_<0) then(idx b a).bind fun l =>V l.drives else V false).bind fun b1 =>(qbF a_0 a b1 n f c d 0).bind fun o=>match o with| (i,g,h,_) =>qb4 a_0 b n i g h (W64 (a+1)) else V (f,c,d,a)
def qd3 (n:Nat)(a_0:Tl01Source)(a_1:qe):Option ((List qi)×Int×Int) :=(qdx n a_1).bind fun r1 =>bif (!r1) then V (([]:List qi),a_0.at_,a_0.seed) else(qbZ n (⟨a_1.Aa.Ab,a_1.Aa.Aj,a_1.Aa.Ah⟩:qf)).bind fun p =>(qb4 a_0 p n ([]:List qi) a_0.at_ a_0.seed 0).bind fun o=>match o with| (b,h,i,_) =>bif decide ((b.length:Int) > 0) then(qr n (⟨a_0.code,h,i⟩:Tl01Source) (b.length:Int)).bind fun o=>match o with| (a,g,i32) =>(qr n (⟨a_0.code,g,i32⟩:Tl01Source) 30).bind fun o=>match o with| (f,c,d) =>bif (f==0) then(idx b 0).bind fun r =>(idx b a).bind fun s =>V ((setS b a ({ s with Bm:=r.Bm })),c,d) else bif (f==1) then(idx b a).bind fun t =>(idx b a).bind fun k =>V ((setS b a ({ k with Ai:={ k.Ai with Ar:=W64 (t.Ai.Bg+1) } })),c,d) else bif (f==2) then(idx b a).bind fun l =>V ((setS b a ({ l with Bd:={ l.Bd with Ar:=(-1) } })),c,d) else bif (f==3) then(idx b a).bind fun m =>V ((setS b a ({ m with Ai:={ m.Ai with Bg:=1000000000 } })),c,d) else V (b,c,d) else V (b,h,i)
theorem qhO {n:Nat}{b w:World}{F:List Ch}{a_0:Tl01Source}{a:Nat}{p1:Option Addr}{c:Nat}{a_1:qe}{cs1:List Value}(p:SH b w (xb a a_0 p1 c a_0.at_ a_0.seed::F))(ha1:GoT.R w (Fr b F) a_0 (qZ a_0 p1 c))(I:GoT.R w (Fr b F) a_1 cs1){r:((List qi)×Int×Int)}(hF:qd3 n a_0 a_1=V r):RetW prog 156 [.pointer (V ⟨a,0,U⟩),GoT.v qe cs1] w (fun us w'=>∃(S1:Nat→Prop) (cs2:List Value),us=[GoT.v (List qi) cs2]∧SH b w' (Ch.own S1 (r.1:(List qi)) cs2::xb a a_0 p1 c r.2.1 r.2.2::F)):=by
 have h:=SH.frm1 p ha1;have hz1:=I;obtain⟨p2,k2,p3,k3,p4,k4,p5,k5,p6,k6,rfl,_,_,_,_,_⟩:=qN I;replace h:=h.grpAdd 1 Z hz1;replace h:SH _ _ [xb a a_0 p1 c a_0.at_ a_0.seed,Ch.grp (old b) (FS F) [fct (a_1:qe) (qH a_1 p2 p3 p4 p5 p6 k2 k3 k4 k5 k6),fct (a_0:Tl01Source) (qZ a_0 p1 c),same b w F]]:=h;refine qa7 func156 Z (m:=128) Z Z (zSR (qD h Z Z fun _ _ h=>X0 4 Z (qp qa [] _ ([]:List qi) h Z Z Z Z Z Z Z Z Z trivial Z fun _ p7 _ h=>X1 6 1 h Z (zcB h hF (qeZ (h.grp 3 0 Z Z)) Z fun _ _ h hF=>X0 2 Z (qk Z hF ?_ ?_)))))<;>intro hF
 ·refine X0 5 Z ?_;obtain rfl:=qc hF;replace h:=h.pick [0,2,3] Z;exact qaR qa [GoT.v (List qi) [.slice p7 0 0]] ⟨rfl,trivial⟩ ⟨_,_,rfl,SH.unfr 1 2 p h Z Z⟩
 refine X1 5 1 h Z (zcL h hF (qbR ⟨[.slice p3 a_1.Aa.Ab.length k3],[.slice p4 a_1.Aa.Aj.length k4,.slice p5 a_1.Aa.Ah.length k5],rfl,⟨_,_,rfl,(qcw (h.grp 3 0 Z Z)).2.1.1⟩,⟨[.slice p4 a_1.Aa.Aj.length k4],[.slice p5 a_1.Aa.Ah.length k5],rfl,⟨_,_,rfl,(qcw (h.grp 3 0 Z Z)).2.2.1.1⟩,⟨_,_,rfl,(qcw (h.grp 3 0 Z Z)).2.2.2.1.1⟩⟩⟩) Z fun d _ S3 u s h hF=>X0 7 Z ?_);replace h:=h.grpKeep [1,2] 4 Z;obtain⟨o1,hF,hK1⟩:=qd hF;refine qm ?_;replace h:=h.pick [0,1,3,4] Z;refine rL (fun m e w'=>∃(S4:Nat→Prop) (k:Option Addr) (y:Nat) (g:Nat) (f:(List qi)) (i1:Int) (i2:Int) (o:Int),qb4 a_0 d m f i1 i2 o=V o1∧e=[(0,.pointer (V ⟨a,0,U⟩)),(5,.slice k y g),(6,.slice u d.length s),(7,.int .i64 o)]∧SH b w' [Ch.own S3 (d:List Tl05Place) [.slice u d.length s],Ch.own S4 (f:List qi) [.slice k y g],xb a a_0 p1 c i1 i2,xf b w F a_0 p1 c]) n ⟨_,_,_,_,_,_,_,_,hF,rfl,h⟩ Z ?_;rintro m1 _ _ ⟨S4,k,y,g,f,i1,i2,o,hF,rfl,h⟩;obtain rfl:=(h.sl 1 Z).2;rcases m1 with _|m1
 ·cases hF
 refine X0 8 Z (qk Z hF ?_ ?_)<;>intro hF
 ·refine X0 4 Z ?_;obtain⟨KF2,H,_,hF,C⟩:=bindE hF;refine qaz (fun e w'=>∃(b1:Bool),KF2 b1=V o1∧e=[(0,.pointer (V ⟨a,0,U⟩)),(5,.slice k f.length g),(6,.slice u d.length s),(7,.int .i64 o),(8,.bool b1)]∧SH b w' [Ch.own S3 (d:List Tl05Place) [.slice u d.length s],Ch.own S4 (f:List qi) [.slice k f.length g],xb a a_0 p1 c i1 i2,xf b w F a_0 p1 c]) ?_ ?_
  ·refine X0 3 Z ?_;obtain⟨_,_,hF,O,_,_,_,_,hp1,hq1,b4,hc5⟩:=(h.sl 0 Z).1.ix hF;obtain rfl:=qbo b4;refine zx hp1 hq1 ⟨O.1,qA O.2.1 (h.sl 0 Z).2⟩ Z (zp1 Z (zc 0 hc5 Z (zp2 Z (qg (t:=33) hF Z ?_ ?_))))<;>intro hF
   ·refine X0 5 Z ?_;obtain⟨_,_,hF,P,_,_,_,_,hp2,hq2,b5,hc6⟩:=(h.sl 0 Z).1.ix hF;obtain rfl:=qbo b5;refine zx hp2 hq2 ⟨P.1,qA P.2.1 (h.sl 0 Z).2⟩ Z (X0 3 Z (zc 3 hc6 Z (X0 3 Z ?_)));obtain rfl:=qc hF;exact rG ⟨_,C,rfl,h⟩ Z
   refine X0 8 Z ?_;obtain rfl:=qc hF;exact rG ⟨_,C,rfl,h⟩ Z
  rintro _ _ ⟨b1,hF,rfl,h⟩;subst H;refine X0 4 Z ?_;obtain⟨o2,hF,hK2⟩:=qd hF;refine qm (rL (fun m e w'=>∃(S5:Nat→Prop) (i:Option Addr) (z:Nat) (k9:Nat) (B:(List qi)) (i4:Int) (i5:Int) (A:Int),qbF a_0 o b1 m B i4 i5 A=V o2∧e=[(0,.pointer (V ⟨a,0,U⟩)),(5,.slice i z k9),(6,.slice u d.length s),(7,.int .i64 o),(8,.bool b1),(9,.int .i64 A)]∧SH b w' [Ch.own S3 (d:List Tl05Place) [.slice u d.length s],Ch.own S5 (B:List qi) [.slice i z k9],xb a a_0 p1 c i4 i5,xf b w F a_0 p1 c]) m1 ⟨_,_,_,_,_,_,_,_,hF,rfl,h⟩ Z ?_);rintro m2 _ _ ⟨S5,i,z,k9,B,i4,i5,A,hF,rfl,h⟩;obtain rfl:=(h.sl 1 Z).2;rcases m2 with _|m2
  ·cases hF
  refine X0 6 Z (qk Z hF ?_ ?_)<;>intro hF
  ·refine X0 4 Z ?_;obtain⟨KF1,D,_,hF,v⟩:=bindE hF;refine qaz (fun e w'=>∃(i7:Int) (i8:Int) (b2:Bool),KF1 (i7,i8,b2)=V o2∧e=[(0,.pointer (V ⟨a,0,U⟩)),(5,.slice i B.length k9),(6,.slice u d.length s),(7,.int .i64 o),(8,.bool b1),(9,.int .i64 A),(54,.bool b2)]∧SH b w' [xb a a_0 p1 c i7 i8,Ch.own S3 (d:List Tl05Place) [.slice u d.length s],Ch.own S5 (B:List qi) [.slice i B.length k9],xf b w F a_0 p1 c]) ?_ ?_
   ·refine X0 3 Z (qg (t:=45) hF Z ?_ ?_)<;>intro hF
    ·refine X0 3 Z ?_;replace h:=h.pick [2,0,1,3] Z;obtain⟨⟨_,_,_⟩,hr7,hF⟩:=qd hF;refine nxC h ((qb (h.frG 3 0 1 Z Z Z)).1) hr7 Z Z Z fun _ h=>X0 4 Z (qg (t:=50) hF Z ?_ ?_)<;>intro hF
     ·refine X0 5 Z ?_;obtain rfl:=qc hF;exact rG ⟨_,_,_,v,rfl,h⟩ Z
     refine X0 3 Z ?_;obtain⟨⟨_,_,_⟩,hr8,hF⟩:=qd hF;refine nxC h ((qb (h.frG 3 0 1 Z Z Z)).1) hr8 Z Z Z fun _ h=>X0 4 Z ?_;obtain rfl:=qc hF;exact rG ⟨_,_,_,v,rfl,h⟩ Z
    refine X0 8 Z ?_;replace h:=h.pick [2,0,1,3] Z;obtain⟨⟨_,_,_⟩,hr9,hF⟩:=qd hF;refine nxC h ((qb (h.frG 3 0 1 Z Z Z)).1) hr9 Z Z Z fun _ h=>X0 4 Z ?_;obtain rfl:=qc hF;exact rG ⟨_,_,_,v,rfl,h⟩ Z
   rintro _ _ ⟨i7,i8,b2,hF,rfl,h⟩;subst D;refine qk Z hF ?_ ?_<;>intro hF
   ·refine X0 3 Z ?_;obtain⟨⟨i9,_,_⟩,hr3,hF⟩:=qd hF;refine nxC h ((qb (h.frG 3 0 1 Z Z Z)).1) hr3 Z Z Z fun _ h=>zp2 Z ?_;obtain⟨⟨l,_,_⟩,hr4,hF⟩:=qd hF;refine nxC h ((qb (h.frG 3 0 1 Z Z Z)).1) hr4 Z Z Z fun _ h=>X0 12 Z ?_;obtain⟨⟨c5,_,_⟩,hr5,hF⟩:=qd hF;refine nxC h ((qb (h.frG 3 0 1 Z Z Z)).1) hr5 Z Z Z fun _ h=>zp1 Z (r_v (qt qa [0,1] [.tmp 65,.tmp 69] Z Z Z Z Z Z Z Z) Z (zp3 Z ?_));obtain⟨⟨c6,_,_⟩,hr6,hF⟩:=qd hF;refine nxC h ((qb (h.frG 3 0 1 Z Z Z)).1) hr6 Z Z Z fun _ h=>zp1 Z (r_v (qt qa [0,1] [.tmp 71,.tmp 75] Z Z Z Z Z Z Z Z) Z (r_v (qt qa [0,1,2] [.tmp 64,.tmp 70,.tmp 76] Z Z Z Z Z Z Z Z) Z (qp qa [.tmp 77] _ ([(⟨W64 ((W64 (2*o))+A),(⟨W64 (i9-50),W64 ((W64 (i9-50))+c5)⟩:qj),(⟨l,W64 (l+c6)⟩:qj)⟩:qi)]:List qi) h Z Z Z Z Z Z Z Z Z ⟨(qbx (⟨W64 ((W64 (2*o))+A),(⟨W64 (i9-50),W64 ((W64 (i9-50))+c5)⟩:qj),(⟨l,W64 (l+c6)⟩:qj)⟩:qi)),trivial⟩ Z fun _ _ _ h=>?_)));obtain⟨_,x,hF⟩:=qd hF;obtain⟨g1,x⟩:=qG x;refine qaF qa 3 h Z (h.sl 0 Z).1 (h.sl 0 Z).2 Z Z Z Z Z Z Z Z Z g1 x Z fun _ _ _ _ h=>X0 8 Z ?_;replace h:=h.pick [2,3,1,4] Z;exact rK ⟨_,_,_,_,_,_,_,_,hF,rfl,h⟩ Z
   refine X0 7 Z ?_;replace h:=h.pick [1,2,0,3] Z;exact rK ⟨_,_,_,_,_,_,_,_,hF,rfl,h⟩ Z
  refine qv Z ?_;obtain rfl:=qc hF;replace hF:=hK2;exact X0 6 Z (rK ⟨_,_,_,_,_,_,_,_,hF,rfl,h⟩ Z)
 refine qv Z ?_;obtain rfl:=qc hF;replace hF:=hK1;refine X0 7 Z (qk Z hF ?_ ?_)<;>intro hF
 ·refine X0 5 Z ?_;replace h:=h.pick [2,0,1,3] Z;obtain⟨⟨_,_,_⟩,b6,hF⟩:=qd hF;refine nxC h ((qb (h.frG 3 0 1 Z Z Z)).1) b6 Z Z Z fun _ h=>X0 5 Z ?_;obtain⟨⟨_,_,_⟩,b7,hF⟩:=qd hF;refine nxC h ((qb (h.frG 3 0 1 Z Z Z)).1) b7 Z Z Z fun _ h=>X0 7 Z (qk Z hF ?_ ?_)<;>intro hF
  ·refine X0 4 Z ?_;obtain⟨y3,_,hF,Q,_,_,_,_,hp3,hq3,b8,hc9⟩:=(h.sl 2 Z).1.ix hF;obtain rfl:=qac b8;refine zx hp3 hq3 ⟨Q.1,qA Q.2.1 (h.sl 2 Z).2⟩ Z (zp1 Z (zc 0 hc9 Z ?_));obtain⟨y4,hy4,hF,R,_,_,_,_,Y,a6,b9,J⟩:=(h.sl 2 Z).1.ix hF;obtain rfl:=qac b9;refine zx Y a6 ⟨R.1,qA R.2.1 (h.sl 2 Z).2⟩ Z (zp1 Z (qaG qa 2 0 ({ y4 with Bm:=y3.Bm }:qi) h Z hy4 Y a6 (qbx y4) J Z Z Z (qbx ({ y4 with Bm:=y3.Bm })) Z Z Z fun _ h=>X0 7 Z ?_));obtain rfl:=qc hF;replace h:=h.pick [2,0,3] Z;exact qaR qa [GoT.v (List qi) [.slice k f.length g]] ⟨rfl,trivial⟩ ⟨_,_,rfl,SH.unfr 1 1 p h Z Z⟩
  refine X0 5 Z (qk Z hF ?_ ?_)<;>intro hF
  ·refine X0 5 Z ?_;obtain⟨y5,_,hF,S,_,_,_,_,hp5,hq5,c0,K⟩:=(h.sl 2 Z).1.ix hF;obtain rfl:=qac c0;refine zx hp5 hq5 ⟨S.1,qA S.2.1 (h.sl 2 Z).2⟩ Z (zp2 Z (zc 2 K Z (zp1 Z ?_)));obtain⟨y6,hy6,hF,T,_,_,_,_,a3,a7,c2,L⟩:=(h.sl 2 Z).1.ix hF;obtain rfl:=qac c2;refine zx a3 a7 ⟨T.1,qA T.2.1 (h.sl 2 Z).2⟩ Z (zp2 Z (qaG qa 2 1 ({ y6 with Ai:={ y6.Ai with Ar:=W64 (y5.Ai.Bg+1) } }:qi) h Z hy6 a3 a7 (qbx y6) L Z Z Z (qbx ({ y6 with Ai:={ y6.Ai with Ar:=W64 (y5.Ai.Bg+1) } })) Z Z Z fun _ h=>X0 7 Z ?_));obtain rfl:=qc hF;replace h:=h.pick [2,0,3] Z;exact qaR qa [GoT.v (List qi) [.slice k f.length g]] ⟨rfl,trivial⟩ ⟨_,_,rfl,SH.unfr 1 1 p h Z Z⟩
  refine X0 5 Z (qk Z hF ?_ ?_)<;>intro hF
  ·refine X0 3 Z ?_;obtain⟨y7,hy7,hF,W,_,_,_,_,a4,a8,c3,M⟩:=(h.sl 2 Z).1.ix hF;obtain rfl:=qac c3;refine zx a4 a8 ⟨W.1,qA W.2.1 (h.sl 2 Z).2⟩ Z (zp2 Z (qaG qa 2 3 ({ y7 with Bd:={ y7.Bd with Ar:=(-1) } }:qi) h Z hy7 a4 a8 (qbx y7) M Z Z Z (qbx ({ y7 with Bd:={ y7.Bd with Ar:=(-1) } })) Z Z Z fun _ h=>X0 7 Z ?_));obtain rfl:=qc hF;replace h:=h.pick [2,0,3] Z;exact qaR qa [GoT.v (List qi) [.slice k f.length g]] ⟨rfl,trivial⟩ ⟨_,_,rfl,SH.unfr 1 1 p h Z Z⟩
  refine X0 5 Z (qk Z hF ?_ ?_)<;>intro hF
  ·refine X0 3 Z ?_;obtain⟨y8,hy8,hF,X,_,_,_,_,a5,a9,c4,N⟩:=(h.sl 2 Z).1.ix hF;obtain rfl:=qac c4;refine zx a5 a9 ⟨X.1,qA X.2.1 (h.sl 2 Z).2⟩ Z (zp2 Z (qaG qa 2 2 ({ y8 with Ai:={ y8.Ai with Bg:=1000000000 } }:qi) h Z hy8 a5 a9 (qbx y8) N Z Z Z (qbx ({ y8 with Ai:={ y8.Ai with Bg:=1000000000 } })) Z Z Z fun _ h=>X0 7 Z ?_));obtain rfl:=qc hF;replace h:=h.pick [2,0,3] Z;exact qaR qa [GoT.v (List qi) [.slice k f.length g]] ⟨rfl,trivial⟩ ⟨_,_,rfl,SH.unfr 1 1 p h Z Z⟩
  refine X0 7 Z ?_;obtain rfl:=qc hF;replace h:=h.pick [2,0,3] Z;exact qaR qa [GoT.v (List qi) [.slice k f.length g]] ⟨rfl,trivial⟩ ⟨_,_,rfl,SH.unfr 1 1 p h Z Z⟩
 refine X0 6 Z ?_;obtain rfl:=qc hF;replace h:=h.pick [1,2,3] Z;exact qaR qa [GoT.v (List qi) [.slice k f.length g]] ⟨rfl,trivial⟩ ⟨_,_,rfl,SH.unfr 1 1 p h Z Z⟩
def qg5 (n:Nat)(s:Tl01Source):Option (qe×qx×(List Int)×(List qi)×Int×Int) :=(qgv n (⟨s.code,s.at_,s.seed⟩:Tl01Source)).bind fun o=>match o with| (r1,y,z) =>(qf5 n (⟨s.code,y,z⟩:Tl01Source)).bind fun o=>match o with| (v,A,B) =>(qr n (⟨s.code,A,B⟩:Tl01Source) 3).bind fun o=>match o with| (C,t,u) =>(bif (C==0) then(qee n (⟨s.code,t,u⟩:Tl01Source) 5 true).bind fun o=>match o with| (K,p,r) =>V (K,p,r) else V (r1,t,u)).bind fun o=>match o with| (c,i8,D) =>(qf4 n (⟨s.code,i8,D⟩:Tl01Source) c).bind fun o=>match o with| (x,a,b) =>((qdx n c).bind fun J =>bif J then bif ((x.length:Int)==0) then(qr n (⟨s.code,a,b⟩:Tl01Source) 6).bind fun o=>match o with| (k,l,m) =>V (l,m,decide (k > 0)) else V (a,b,false) else V (a,b,false)).bind fun o=>match o with| (d,f,b1) =>bif b1 then(qiS n c).bind fun F =>(qd3 n (⟨s.code,d,f⟩:Tl01Source) c).bind fun o=>match o with| (H,g,h) =>V (c,v,F,H,g,h) else(qd3 n (⟨s.code,d,f⟩:Tl01Source) c).bind fun o=>match o with| (I,i16,i) =>V (c,v,x,I,i16,i)
theorem qlD {n:Nat}{K w:World}{F:List Ch}{s:Tl01Source}{g:Nat}{p1:Option Addr}{k:Nat}(h0:SH K w (xb g s p1 k s.at_ s.seed::F))(ha1:GoT.R w (Fr K F) s (qZ s p1 k)){r:(qe×qx×(List Int)×(List qi)×Int×Int)}(hF:qg5 n s=V r):RetW prog 77 [.pointer (V ⟨g,0,U⟩)] w (fun us w'=>∃(S1:Nat→Prop) (cs1:List Value) (S2:Nat→Prop) (cs2:List Value) (S3:Nat→Prop) (cs3:List Value),us=[GoT.v qe cs1,GoT.v qx (qaP r.2.1),GoT.v (List Int) cs2,GoT.v (List qi) cs3]∧SH K w' (Ch.grp (fun _=>False) S1 [fct (r.1:qe) cs1]::Ch.grp (fun _=>False) S2 [fct (r.2.2.1:(List Int)) cs2]::Ch.grp (fun _=>False) S3 [fct (r.2.2.2.1:(List qi)) cs3]::xb g s p1 k r.2.2.2.2.1 r.2.2.2.2.2::F)):=by
 have h:=SH.frm1 h0 ha1;refine qa7 func77 Z (m:=41) Z Z (zSR (qh qa h Z Z Z fun _ l h=>qh qa h Z Z Z fun _ o h=>X0 6 Z ?_));replace h:=h.pick [2,0,1,3] Z;obtain⟨⟨r1,i1,i2⟩,hr1,hF⟩:=qd hF;refine qaS (cB 49 Z) (qlu (s:=(⟨s.code,s.at_,s.seed⟩:Tl01Source)) h ⟨[.slice p1 s.code.length k],[.int .i64 s.at_,.int .i64 s.seed],rfl,⟨_,_,rfl,(qb (h.frG 3 0 1 Z Z Z)).1⟩,⟨[.int .i64 s.at_],[.int .i64 s.seed],rfl,rfl,rfl⟩⟩ hr1) Z Z Z Z ?_;rintro _ _ ⟨S4,_,rfl,h⟩;have hr2:=h.grpS 0 0 Z Z;obtain⟨p2,k2,p3,k3,p4,k4,p5,k5,p6,k6,rfl,_,_,_,_,_⟩:=qN hr2;replace h:SH _ _ [Ch.grp (fun _=>False) S4 [fct (r1:qe) (qH r1 p2 p3 p4 p5 p6 k2 k3 k4 k5 k6)],xb g s p1 k i1 i2,Ch.box o [.string ByteArray.empty,.int .i64 0,.int .i64 0,.int .i64 0,.int .i64 0] 36,Ch.box l [.slice U 0 0,.slice U 0 0,.slice U 0 0,.slice U 0 0,.slice U 0 0] 34,xf K w F s p1 k]:=h;refine qh qa h Z Z Z fun _ v h=>zs 0 h Z fun _ h=>X0 4 Z ?_;replace h:=h.pick [2,0,1,3,4,5] Z;obtain⟨⟨M,_,_⟩,hr4,hF⟩:=qd hF;refine qaS (cB 53 Z) (qkY (s:=(⟨s.code,i1,i2⟩:Tl01Source)) h ⟨[.slice p1 s.code.length k],[.int .i64 i1,.int .i64 i2],rfl,⟨_,_,rfl,(qb (h.frG 5 0 1 Z Z Z)).1⟩,⟨[.int .i64 i1],[.int .i64 i2],rfl,rfl,rfl⟩⟩ hr4) Z Z Z Z ?_;rintro _ _ ⟨rfl,h⟩;dsimp only at h;refine qh qa h Z Z Z fun _ y h=>zs 0 h Z fun _ h=>X0 5 Z ?_;replace h:=h.pick [1,0,2,3,4,5,6] Z;obtain⟨⟨_,i6,i7⟩,hr5,hF⟩:=qd hF;refine nxC h ((qb (h.frG 6 0 1 Z Z Z)).1) hr5 Z Z Z fun _ h=>X0 2 Z ?_;obtain⟨KF2,S,_,hF,Q⟩:=bindE hF;refine qaz (fun e w'=>∃(O:Nat→Prop) (i:qe) (H:Option Addr) (A:Nat) (I:Option Addr) (B:Nat) (J:Option Addr) (C:Nat) (d:Option Addr) (a:Nat) (f:Option Addr) (c:Nat) (i8:Int) (P:Int),KF2 (i,i8,P)=V r∧e=[(0,.pointer (V ⟨g,0,U⟩)),(2,.pointer (V ⟨l,0,U⟩)),(3,.pointer (V ⟨o,0,U⟩)),(6,.pointer (V ⟨v,0,U⟩)),(7,.pointer (V ⟨y,0,U⟩))]∧SH K w' [Ch.grp (fun _=>False) O [fct (i:qe) (qH i H I J d f A B C a c)],xb g s p1 k i8 P,Ch.box y (qaP M) 36,Ch.box v (qH i H I J d f A B C a c) 34,Ch.box o [.string ByteArray.empty,.int .i64 0,.int .i64 0,.int .i64 0,.int .i64 0] 36,Ch.box l [.slice U 0 0,.slice U 0 0,.slice U 0 0,.slice U 0 0,.slice U 0 0] 34,xf K w F s p1 k]) ?_ ?_
 ·refine qk Z hF ?_ ?_<;>intro hF
  ·refine X0 2 Z ?_;obtain⟨⟨r9,i21,i22⟩,Y,hF⟩:=qd hF;refine qaS (cB 119 Z) (qej (s:=(⟨s.code,i6,i7⟩:Tl01Source)) (most:=5) (wild:=true) h ⟨[.slice p1 s.code.length k],[.int .i64 i6,.int .i64 i7],rfl,⟨_,_,rfl,(qb (h.frG 6 0 1 Z Z Z)).1⟩,⟨[.int .i64 i6],[.int .i64 i7],rfl,rfl,rfl⟩⟩ Y) Z Z Z Z ?_;rintro _ _ ⟨S10,_,rfl,h⟩;obtain⟨p16,k16,p17,k17,p18,k18,p19,k19,p20,k20,rfl,-,-,-,-,-⟩:=qN (h.own 0 Z);replace h:=h.frzI 0 Z;replace h:SH _ _ [Ch.grp (fun _=>False) S10 [fct (r9:qe) (qH r9 p16 p17 p18 p19 p20 k16 k17 k18 k19 k20)],xb g s p1 k i21 i22,Ch.box y (qaP M) 36,Ch.box v (qH r1 p2 p3 p4 p5 p6 k2 k3 k4 k5 k6) 34,Ch.grp (fun _=>False) S4 [fct (r1:qe) (qH r1 p2 p3 p4 p5 p6 k2 k3 k4 k5 k6)],Ch.box o [.string ByteArray.empty,.int .i64 0,.int .i64 0,.int .i64 0,.int .i64 0] 36,Ch.box l [.slice U 0 0,.slice U 0 0,.slice U 0 0,.slice U 0 0,.slice U 0 0] 34,xf K w F s p1 k]:=h;refine zs 3 h Z fun _ h=>qa2 ?_;replace h:=h.pick [0,1,2,3,5,6,7] Z;obtain rfl:=qc hF;exact rG ⟨_,_,_,_,_,_,_,_,_,_,_,_,_,_,Q,rfl,h⟩ Z
  refine qeQ ?_;replace h:=h.pick [3,0,1,2,4,5,6] Z;obtain rfl:=qc hF;exact rG ⟨_,_,_,_,_,_,_,_,_,_,_,_,_,_,Q,rfl,h⟩ Z
 rintro _ _ ⟨O,i,H,A,I,B,J,C,d,a,f,c,i8,P,hF,rfl,h⟩;subst S;refine X1 4 3 h Z ?_;replace h:=h.pick [1,0,2,3,4,5,6] Z;obtain⟨⟨L,i10,i11⟩,hr6,hF⟩:=qd hF;refine qaS (cB 52 Z) (qkX (s:=(⟨s.code,i8,P⟩:Tl01Source)) (b:=i) h ⟨[.slice p1 s.code.length k],[.int .i64 i8,.int .i64 P],rfl,⟨_,_,rfl,(qb (h.frG 6 0 1 Z Z Z)).1⟩,⟨[.int .i64 i8],[.int .i64 P],rfl,rfl,rfl⟩⟩ (h.frG 1 0 1 Z Z Z) hr6) Z Z Z Z ?_;rintro _ _ ⟨S6,_,rfl,h⟩;obtain⟨D,z,rfl,-⟩:=h.own 0 Z;replace h:SH _ _ [Ch.own S6 (L:List Int) [.slice D L.length z],xb g s p1 k i10 i11,Ch.grp (fun _=>False) O [fct (i:qe) (qH i H I J d f A B C a c)],Ch.box y (qaP M) 36,Ch.box v (qH i H I J d f A B C a c) 34,Ch.box o [.string ByteArray.empty,.int .i64 0,.int .i64 0,.int .i64 0,.int .i64 0] 36,Ch.box l [.slice U 0 0,.slice U 0 0,.slice U 0 0,.slice U 0 0,.slice U 0 0] 34,xf K w F s p1 k]:=h;refine X0 4 Z ?_;obtain⟨KF1,R,_,hF,N⟩:=bindE hF;refine qaz (fun e w'=>∃(p:Int) (u:Int) (b1:Bool),KF1 (p,u,b1)=V r∧e=[(0,.pointer (V ⟨g,0,U⟩)),(2,.pointer (V ⟨l,0,U⟩)),(3,.pointer (V ⟨o,0,U⟩)),(6,.pointer (V ⟨v,0,U⟩)),(7,.pointer (V ⟨y,0,U⟩)),(8,.slice D L.length z),(32,.bool b1)]∧SH K w' [xb g s p1 k p u,Ch.own S6 (L:List Int) [.slice D L.length z],Ch.grp (fun _=>False) O [fct (i:qe) (qH i H I J d f A B C a c)],Ch.box y (qaP M) 36,Ch.box v (qH i H I J d f A B C a c) 34,Ch.box o [.string ByteArray.empty,.int .i64 0,.int .i64 0,.int .i64 0,.int .i64 0] 36,Ch.box l [.slice U 0 0,.slice U 0 0,.slice U 0 0,.slice U 0 0,.slice U 0 0] 34,xf K w F s p1 k]) ?_ ?_
 ·refine X1 2 4 h Z (zcB h hF (qeZ (h.grp 2 0 Z Z)) Z fun _ _ h hF=>zp1 Z (qg (t:=23) hF Z ?_ ?_))<;>intro hF
  ·refine X0 8 Z (qg (t:=28) hF Z ?_ ?_)<;>intro hF
   ·refine X0 3 Z ?_;replace h:=h.pick [1,0,2,3,4,5,6,7] Z;obtain⟨⟨_,_,_⟩,X,hF⟩:=qd hF;refine nxC h ((qb (h.frG 7 0 1 Z Z Z)).1) X Z Z Z fun _ h=>X0 4 Z ?_;obtain rfl:=qc hF;exact rG ⟨_,_,_,N,rfl,h⟩ Z
   refine X0 5 Z ?_;replace h:=h.pick [1,0,2,3,4,5,6,7] Z;obtain rfl:=qc hF;exact rG ⟨_,_,_,N,rfl,h⟩ Z
  refine X0 10 Z ?_;replace h:=h.pick [1,0,2,3,4,5,6,7] Z;obtain rfl:=qc hF;exact rG ⟨_,_,_,N,rfl,h⟩ Z
 rintro _ _ ⟨p,u,b1,hF,rfl,h⟩;subst R;refine qk Z hF ?_ ?_<;>intro hF
 ·refine X1 2 4 h Z (zcL h hF (qnS (h.grp 2 0 Z Z)) Z fun r5 _ S7 a6 a3 h hF=>X0 3 Z (rA [] [4,5] h Z fun _ h=>M3 31 [0,1,2,3,4] 1 0 1 (h.pick [4,5] Z) Z (Ao 5 63 Z ?_)));replace h:=h.pick [1,0,2,3,4,5,6,7,8] Z;obtain⟨⟨r6,i14,i15⟩,hr8,hF⟩:=qd hF;refine qaS (cB 156 Z) (qhO (a_0:=(⟨s.code,p,u⟩:Tl01Source)) (a_1:=i) h ⟨[.slice p1 s.code.length k],[.int .i64 p,.int .i64 u],rfl,⟨_,_,rfl,(qb (h.frG 8 0 1 Z Z Z)).1⟩,⟨[.int .i64 p],[.int .i64 u],rfl,rfl,rfl⟩⟩ (h.frG 3 0 1 Z Z Z) hr8) Z Z Z Z ?_;rintro _ _ ⟨S8,_,rfl,h⟩;obtain⟨a7,a4,rfl,-⟩:=h.own 0 Z;replace h:SH _ _ [Ch.own S8 (r6:List qi) [.slice a7 r6.length a4],xb g s p1 k i14 i15,Ch.own S7 (r5:List Int) [.slice a6 r5.length a3],Ch.own S6 (L:List Int) [.slice D L.length z],Ch.grp (fun _=>False) O [fct (i:qe) (qH i H I J d f A B C a c)],Ch.box y (qaP M) 36,Ch.box v (qH i H I J d f A B C a c) 34,Ch.box o [.string ByteArray.empty,.int .i64 0,.int .i64 0,.int .i64 0,.int .i64 0] 36,Ch.box l [.slice U 0 0,.slice U 0 0,.slice U 0 0,.slice U 0 0,.slice U 0 0] 34,xf K w F s p1 k]:=h;refine Ag (h.pick [5,6] Z) (Ao 6 127 Z (zs 8 h Z fun _ h=>Ag (h.pick [5,6] Z) (Ao 7 255 Z (zs 7 h Z fun _ h=>G0 1023 [8,9] (h.pick [5,6] Z) Z (Ad ?_)))));have T:=h;replace h:=h.grpAdd 4 Z (x:=(i:qe)) (h.grpS 4 0 Z Z);replace h:=h.grpKeep [0] 4 Z;replace h:=h.frzI 2 Z;replace h:=h.grpAdd 2 Z (x:=(r5:(List Int))) (h.grpS 2 0 Z Z);replace h:=h.grpKeep [0] 2 Z;replace h:=h.frzI 0 Z;replace h:=h.grpAdd 0 Z (x:=(r6:(List qi))) (h.grpS 0 0 Z Z);replace h:=h.grpKeep [0] 0 Z;obtain rfl:=qc hF;replace h:=h.pick [4,2,0,1,9] Z;exact qaR qa [GoT.v qe (qH i H I J d f A B C a c),GoT.v qx (qaP M),GoT.v (List Int) [.slice a6 r5.length a3],GoT.v (List qi) [.slice a7 r6.length a4]] ⟨⟨_,_,_,rfl,rfl,T.box 8 Z,rfl⟩,⟨_,_,_,rfl,rfl,T.box 7 Z,rfl⟩,rfl,rfl,trivial⟩ ⟨_,_,_,_,_,_,rfl,SH.unfr 1 1 h0 h Z Z⟩
 refine zKS (rA [] [3,4] h Z fun _ h=>M3 31 [0,1,2,3,4] 1 0 1 (h.pick [3,4] Z) Z (Ao 5 63 Z ?_));obtain⟨⟨r7,i16,i17⟩,hr9,hF⟩:=qd hF;refine qaS (cB 156 Z) (qhO (a_0:=(⟨s.code,p,u⟩:Tl01Source)) (a_1:=i) h ⟨[.slice p1 s.code.length k],[.int .i64 p,.int .i64 u],rfl,⟨_,_,rfl,(qb (h.frG 7 0 1 Z Z Z)).1⟩,⟨[.int .i64 p],[.int .i64 u],rfl,rfl,rfl⟩⟩ (h.frG 2 0 1 Z Z Z) hr9) Z Z Z Z ?_;rintro _ _ ⟨S9,_,rfl,h⟩;obtain⟨a8,a5,rfl,-⟩:=h.own 0 Z;replace h:SH _ _ [Ch.own S9 (r7:List qi) [.slice a8 r7.length a5],xb g s p1 k i16 i17,Ch.own S6 (L:List Int) [.slice D L.length z],Ch.grp (fun _=>False) O [fct (i:qe) (qH i H I J d f A B C a c)],Ch.box y (qaP M) 36,Ch.box v (qH i H I J d f A B C a c) 34,Ch.box o [.string ByteArray.empty,.int .i64 0,.int .i64 0,.int .i64 0,.int .i64 0] 36,Ch.box l [.slice U 0 0,.slice U 0 0,.slice U 0 0,.slice U 0 0,.slice U 0 0] 34,xf K w F s p1 k]:=h;refine Ag (h.pick [4,5] Z) (Ao 6 127 Z (zs 7 h Z fun _ h=>Ag (h.pick [4,5] Z) (Ao 7 255 Z (zs 6 h Z fun _ h=>G0 1023 [8,9] (h.pick [4,5] Z) Z (Ad ?_)))));have W:=h;replace h:=h.grpAdd 3 Z (x:=(i:qe)) (h.grpS 3 0 Z Z);replace h:=h.grpKeep [0] 3 Z;replace h:=h.frzI 2 Z;replace h:=h.grpAdd 2 Z (x:=(L:(List Int))) (h.grpS 2 0 Z Z);replace h:=h.grpKeep [0] 2 Z;replace h:=h.frzI 0 Z;replace h:=h.grpAdd 0 Z (x:=(r7:(List qi))) (h.grpS 0 0 Z Z);replace h:=h.grpKeep [0] 0 Z;obtain rfl:=qc hF;replace h:=h.pick [3,2,0,1,8] Z;exact qaR qa [GoT.v qe (qH i H I J d f A B C a c),GoT.v qx (qaP M),GoT.v (List Int) [.slice D L.length z],GoT.v (List qi) [.slice a8 r7.length a5]] ⟨⟨_,_,_,rfl,rfl,W.box 7 Z,rfl⟩,⟨_,_,_,rfl,rfl,W.box 6 Z,rfl⟩,rfl,rfl,trivial⟩ ⟨_,_,_,_,_,_,rfl,SH.unfr 1 1 h0 h Z Z⟩
def qhv (n:Nat)(s:Tl01Source):Option (qbG×Int×Int) :=(qg5 n (⟨s.code,s.at_,s.seed⟩:Tl01Source)).bind fun o=>match o with| (r1,a,d,f,b,c) =>V ((⟨(⟨(⟨r1.Ap.Aq⟩:qu),(⟨r1.Aa.Ab,r1.Aa.Aj,r1.Aa.Ah⟩:qf),r1.Af⟩:qe),(⟨a.Bh,a.Av,a.Az,a.As,a.Ba⟩:qx),d,f⟩:qbG),b,c)
theorem qmD {n:Nat}{D w:World}{F:List Ch}{s:Tl01Source}{b:Nat}{p1:Option Addr}{l:Nat}(O:SH D w (xb b s p1 l s.at_ s.seed::F))(I:GoT.R w (Fr D F) s (qZ s p1 l)){r:(qbG×Int×Int)}(T:qhv n s=V r):RetW prog 83 [.pointer (V ⟨b,0,U⟩)] w (fun W w'=>∃(S1:Nat→Prop) (cs1:List Value),W=[GoT.v qbG cs1]∧SH D w' (Ch.grp (fun _=>False) S1 [fct (r.1:qbG) cs1]::xb b s p1 l r.2.1 r.2.2::F)):=by
 have h:=SH.frm1 O I;refine qa7 func83 Z (m:=19) Z Z (zSR (qh qa h Z Z Z fun _ H h=>X0 4 Z ?_));replace h:=h.pick [1,0,2] Z;obtain⟨⟨r1,a,i,k,R,S⟩,K,T⟩:=qd T;refine qaS (cB 77 Z) (qlD (s:=(⟨s.code,s.at_,s.seed⟩:Tl01Source)) h ⟨[.slice p1 s.code.length l],[.int .i64 s.at_,.int .i64 s.seed],rfl,⟨_,_,rfl,(qb (h.frG 2 0 1 Z Z Z)).1⟩,⟨[.int .i64 s.at_],[.int .i64 s.seed],rfl,rfl,rfl⟩⟩ K) Z Z Z Z ?_;rintro _ _ ⟨S2,_,P,_,Q,_,rfl,h⟩;have L:=h.grpS 0 0 Z Z;obtain⟨C,B,p,o,f,c,g,d,y,t,rfl,_,_,_,_,_⟩:=qN L;have M:=h.grpS 1 0 Z Z;obtain⟨z,u,rfl,_⟩:=M;have N:=h.grpS 2 0 Z Z;obtain⟨A,v,rfl,_⟩:=N;replace h:SH _ _ [Ch.grp (fun _=>False) S2 [fct (r1:qe) (qH r1 C p f g y B o c d t)],Ch.grp (fun _=>False) P [fct (i:(List Int)) [.slice z i.length u]],Ch.grp (fun _=>False) Q [fct (k:(List qi)) [.slice A k.length v]],xb b s p1 l R S,Ch.box H [.slice U 0 0,.slice U 0 0,.slice U 0 0,.slice U 0 0,.slice U 0 0,.string ByteArray.empty,.int .i64 0,.int .i64 0,.int .i64 0,.int .i64 0,.slice U 0 0,.slice U 0 0] 62,xf D w F s p1 l]:=h;refine zp5 Z (qh qa h Z Z Z fun _ _ h=>qh qa h Z Z Z fun _ _ h=>zs 1 h Z fun _ h=>zs 0 h Z fun _ h=>X2 9 1 0 h Z (r_v (qt qa [0,1,2,3] [.tmp 14,.tmp 15,.tmp 16,.tmp 17] Z Z Z Z Z Z Z Z) Z (zs 6 h Z fun _ h=>qa2 ?_)));have J:=h;replace h:=h.pick [2,3,0,1,4,5,6,7] Z;replace h:=SH.merge h;replace h:=h.pick [0,3,1,2,4,5,6] Z;replace h:=SH.merge h;replace h:=h.grpAdd 0 Z (x:=((⟨(⟨(⟨r1.Ap.Aq⟩:qu),(⟨r1.Aa.Ab,r1.Aa.Aj,r1.Aa.Ah⟩:qf),r1.Af⟩:qe),(⟨a.Bh,a.Av,a.Az,a.As,a.Ba⟩:qx),i,k⟩:qbG):qbG)) (⟨[.slice C r1.Ap.Aq.length B,.slice p r1.Aa.Ab.length o,.slice f r1.Aa.Aj.length c,.slice g r1.Aa.Ah.length d,.slice y r1.Af.length t],[.string a.Bh,.int .i64 a.Av,.int .i64 a.Az,.int .i64 a.As,.int .i64 a.Ba,.slice z i.length u,.slice A k.length v],rfl,⟨[.slice C r1.Ap.Aq.length B],[.slice p r1.Aa.Ab.length o,.slice f r1.Aa.Aj.length c,.slice g r1.Aa.Ah.length d,.slice y r1.Af.length t],rfl,⟨_,_,rfl,(qcw (h.grpS 0 0 Z Z)).1.1⟩,⟨[.slice p r1.Aa.Ab.length o,.slice f r1.Aa.Aj.length c,.slice g r1.Aa.Ah.length d],[.slice y r1.Af.length t],rfl,⟨[.slice p r1.Aa.Ab.length o],[.slice f r1.Aa.Aj.length c,.slice g r1.Aa.Ah.length d],rfl,⟨_,_,rfl,(qcw (h.grpS 0 0 Z Z)).2.1.1⟩,⟨[.slice f r1.Aa.Aj.length c],[.slice g r1.Aa.Ah.length d],rfl,⟨_,_,rfl,(qcw (h.grpS 0 0 Z Z)).2.2.1.1⟩,⟨_,_,rfl,(qcw (h.grpS 0 0 Z Z)).2.2.2.1.1⟩⟩⟩,⟨_,_,rfl,(qcw (h.grpS 0 0 Z Z)).2.2.2.2.1⟩⟩⟩,⟨[.string a.Bh,.int .i64 a.Av,.int .i64 a.Az,.int .i64 a.As,.int .i64 a.Ba],[.slice z i.length u,.slice A k.length v],rfl,⟨[.string a.Bh],[.int .i64 a.Av,.int .i64 a.Az,.int .i64 a.As,.int .i64 a.Ba],rfl,rfl,⟨[.int .i64 a.Av],[.int .i64 a.Az,.int .i64 a.As,.int .i64 a.Ba],rfl,rfl,⟨[.int .i64 a.Az],[.int .i64 a.As,.int .i64 a.Ba],rfl,rfl,⟨[.int .i64 a.As],[.int .i64 a.Ba],rfl,rfl,rfl⟩⟩⟩⟩,⟨[.slice z i.length u],[.slice A k.length v],rfl,(h.grpS 0 1 Z Z),(h.grpS 0 2 Z Z)⟩⟩⟩);replace h:=h.grpKeep [0] 0 Z;obtain rfl:=qc T;replace h:=h.pick [0,3,5] Z;exact qaR qa [GoT.v qbG [.slice C r1.Ap.Aq.length B,.slice p r1.Aa.Ab.length o,.slice f r1.Aa.Aj.length c,.slice g r1.Aa.Ah.length d,.slice y r1.Af.length t,.string a.Bh,.int .i64 a.Av,.int .i64 a.Az,.int .i64 a.As,.int .i64 a.Ba,.slice z i.length u,.slice A k.length v]] ⟨⟨_,_,_,rfl,rfl,J.box 6 Z,rfl⟩,trivial⟩ ⟨_,_,rfl,SH.unfr 1 1 O h Z Z⟩
def qd4 (s:Tl01Source)(p:Int)(g:Int):Nat→Int→Int→Int→Option (Int×Int)| 0,_,_,_=>U| n+1,a,b,c =>(bif decide (c<12) then bif (p==0) then(qr n (⟨s.code,a,b⟩:Tl01Source) 16).bind fun o=>match o with| (k,l,m) =>V (l,m,decide (k > 0)) else V (a,b,false) else V (a,b,false)).bind fun o=>match o with| (d,f,b1) =>bif b1 then(qr n (⟨s.code,d,f⟩:Tl01Source) (if g > 1 then g else 1)).bind fun o=>match o with| (h,i16,i) =>bif decide (h<g) then U else qd4 s p g n i16 i (W64 (c+1)) else V (d,f)
def qbL (s:Tl01Source)(l:(List Bool))(h:Int):Nat→Int→Int→Int→Int→Option (Int×Int×Int)| 0,_,_,_,_=>U| n+1,b,i32,c,a =>(bif decide (a<12) then bif (0==0) then(qr n (⟨s.code,b,i32⟩:Tl01Source) 16).bind fun o=>match o with| (m,p,r) =>V (p,r,decide (m > 0)) else V (b,i32,false) else V (b,i32,false)).bind fun o=>match o with| (i,k,b2) =>bif b2 then(qr n (⟨s.code,i,k⟩:Tl01Source) (if h > 1 then h else 1)).bind fun o=>match o with| (d,f,g) =>bif decide (d<h) then(idx l d).bind fun t =>bif t then qbL s l h n f g d (W64 (a+1)) else qbL s l h n f g c (W64 (a+1)) else qbL s l h n f g c (W64 (a+1)) else V (i,k,c)
def qg7 (n:Nat)(s:Tl01Source)(j:qbG):Option (Int×Int×Int) :=(qfT n j).bind fun o=>match o with| (U,k) =>((qaY n (⟨(⟨j.Ac.Ap.Aq⟩:qu),(⟨j.Ac.Aa.Ab,j.Ac.Aa.Aj,j.Ac.Aa.Ah⟩:qf),j.Ac.Af⟩:qe)).bind fun h =>(qr n (⟨s.code,s.at_,s.seed⟩:Tl01Source) (W64 (h+2))).bind fun o=>match o with| (l,m,p) =>(qd4 s k h n m p 0).bind fun o=>match o with| (i8,r) =>V (W64 (l-1),i8,r))| (V (⟨_,_,_,⟨t,_,_⟩⟩),_) =>((qaY n (⟨(⟨j.Ac.Ap.Aq⟩:qu),(⟨j.Ac.Aa.Ab,j.Ac.Aa.Aj,j.Ac.Aa.Ah⟩:qf),j.Ac.Af⟩:qe)).bind fun i =>(qr n (⟨s.code,s.at_,s.seed⟩:Tl01Source) (W64 (i+2))).bind fun o=>match o with| (a,b,c) =>(qbL s t i n b c (W64 (a-1)) 0).bind fun o=>match o with| (d,f,g) =>V (g,d,f))
theorem qlN {n:Nat}{b w:World}{F:List Ch}{s:Tl01Source}{a:Nat}{p1:Option Addr}{c:Nat}{j:qbG}{cs1:List Value}(h0:SH b w (xb a s p1 c s.at_ s.seed::F))(ha1:GoT.R w (Fr b F) s (qZ s p1 c))(ha2:GoT.R w (Fr b F) j cs1){r:(Int×Int×Int)}(hF:qg7 n s j=V r):RetW prog 84 [.pointer (V ⟨a,0,U⟩),GoT.v qbG cs1] w (fun us w'=>us=[.int .i64 r.1]∧SH b w' (xb a s p1 c r.2.1 r.2.2::F)):=by
 have h:=SH.frm1 h0 ha1;have hz1:=ha2;obtain⟨H,D,l,k,g,d,i,f,p,o,L,J,M,K,rfl,_,_,_,_,_,_,_⟩:=qek ha2;replace h:=h.grpAdd 1 Z hz1;replace h:SH _ _ [xb a s p1 c s.at_ s.seed,Ch.grp (old b) (FS F) [fct (j:qbG) (qhF j H l g i p L M D k d f o J K),fct (s:Tl01Source) (qZ s p1 c),same b w F]]:=h;refine qa7 func84 Z (m:=56) Z Z (zSR (qD h Z Z fun _ bb2 h=>X1 5 0 h Z ?_));obtain⟨_,hr1,hF⟩:=qd hF;refine qss (cB 95 Z) (qnv (h.grp 2 0 Z Z) hr1) Z Z Z Z ?_;rintro _ _ _ hs1 (⟨i1,rfl,rfl,rfl⟩|⟨S1,p9,ln1,k9,x1,S2,z,ln2,u,x2,S3,A,ln3,v,R,I,S4,B,ln4,x,x4,S5,C,ln5,y,x5,rfl,rfl,rfl⟩)
 ·replace h:SH _ _ [Ch.box bb2 (qhF j H l g i p L M D k d f o J K) 62,xb a s p1 c s.at_ s.seed,Ch.grp (old b) (FS F) [fct (j:qbG) (qhF j H l g i p L M D k d f o J K),fct (s:Tl01Source) (qZ s p1 c),same b w F]]:=SH.appendN h hs1 (show NoD [] from trivial);refine X1 10 0 h Z (zcI h hF (qbJ ⟨[.slice H j.Ac.Ap.Aq.length D],[.slice l j.Ac.Aa.Ab.length k,.slice g j.Ac.Aa.Aj.length d,.slice i j.Ac.Aa.Ah.length f,.slice p j.Ac.Af.length o],rfl,⟨_,_,rfl,(qbW (h.grp 2 0 Z Z)).1.1⟩,⟨[.slice l j.Ac.Aa.Ab.length k,.slice g j.Ac.Aa.Aj.length d,.slice i j.Ac.Aa.Ah.length f],[.slice p j.Ac.Af.length o],rfl,⟨[.slice l j.Ac.Aa.Ab.length k],[.slice g j.Ac.Aa.Aj.length d,.slice i j.Ac.Aa.Ah.length f],rfl,⟨_,_,rfl,(qbW (h.grp 2 0 Z Z)).2.1.1⟩,⟨[.slice g j.Ac.Aa.Aj.length d],[.slice i j.Ac.Aa.Ah.length f],rfl,⟨_,_,rfl,(qbW (h.grp 2 0 Z Z)).2.2.1.1⟩,⟨_,_,rfl,(qbW (h.grp 2 0 Z Z)).2.2.2.1.1⟩⟩⟩,⟨_,_,rfl,(qbW (h.grp 2 0 Z Z)).2.2.2.2.1.1⟩⟩⟩) Z fun r2 _ h hF=>X0 7 Z ?_);replace h:=h.pick [1,0,2] Z;obtain⟨⟨i2,_,_⟩,hr3,hF⟩:=qd hF;refine nxC h ((qb (h.frG 2 1 1 Z Z Z)).1) hr3 Z Z Z fun _ h=>X0 8 Z ?_;replace h:=h.grpKeep [1,2] 2 Z;obtain⟨KF1,hKF1,o2,hF,hK1⟩:=bindE hF;refine qaz (fun e w'=>∃(i8:Int) (i9:Int),KF1 (i8,i9)=V r∧e=[(8,.int .i64 (W64 (i2-1)))]∧SH b w' [xb a s p1 c i8 i9,xf b w F s p1 c]) ?_ ?_
  ·refine qm ?_;replace h:=h.pick [0,2] Z;refine rL (fun m e w'=>∃(W:Int) (X:Int) (N:Int),qd4 s i1 r2 m W X N=V o2∧e=[(0,.pointer (V ⟨a,0,U⟩)),(5,.pointer U),(6,.int .i64 i1),(7,.int .i64 r2),(8,.int .i64 (W64 (i2-1))),(9,.int .i64 N)]∧SH b w' [xb a s p1 c W X,xf b w F s p1 c]) n ⟨_,_,_,hF,rfl,h⟩ Z ?_;rintro m1 _ _ ⟨W,X,N,hF,rfl,h⟩;rcases m1 with _|m1
   ·cases hF
   refine zSS ?_;obtain⟨KF2,hKF2,_,hF,S⟩:=bindE hF;refine qaz (fun e w'=>∃(Y:Int) (a3:Int) (b1:Bool),KF2 (Y,a3,b1)=V o2∧e=[(0,.pointer (V ⟨a,0,U⟩)),(5,.pointer U),(6,.int .i64 i1),(7,.int .i64 r2),(8,.int .i64 (W64 (i2-1))),(9,.int .i64 N),(34,.bool b1)]∧SH b w' [xb a s p1 c Y a3,xf b w F s p1 c]) ?_ ?_
   ·refine X0 4 Z (qg (t:=26) hF Z ?_ ?_)<;>intro hF
    ·refine X0 6 Z (qg (t:=30) hF Z ?_ ?_)<;>intro hF
     ·refine X0 3 Z ?_;obtain⟨⟨_,_,_⟩,hr5,hF⟩:=qd hF;refine nxC h ((qb (h.frG 1 0 1 Z Z Z)).1) hr5 Z Z Z fun _ h=>X0 4 Z ?_;obtain rfl:=qc hF;exact rG ⟨_,_,_,S,rfl,h⟩ Z
     refine X0 5 Z ?_;obtain rfl:=qc hF;exact rG ⟨_,_,_,S,rfl,h⟩ Z
    refine X0 9 Z ?_;obtain rfl:=qc hF;exact rG ⟨_,_,_,S,rfl,h⟩ Z
   rintro _ _ ⟨Y,a3,b1,hF,rfl,h⟩;subst hKF2;refine qk Z hF ?_ ?_<;>intro hF
   ·refine X0 8 Z ?_;obtain⟨⟨_,_,_⟩,hr4,hF⟩:=qd hF;refine nxC h ((qb (h.frG 1 0 1 Z Z Z)).1) hr4 Z Z Z fun _ h=>X0 8 Z (qg (t:=44) hF Z ?_ ?_)<;>intro hF
    ·refine X0 3 Z ?_;cases hF
    exact X0 10 Z (qbB Z Z (X0 7 Z (rK ⟨_,_,_,hF,rfl,h⟩ Z)))
   refine qv Z ?_;obtain rfl:=qc hF;exact rG ⟨_,_,hK1,rfl,h⟩ Z
  rintro _ _ ⟨i8,i9,hF,rfl,h⟩;subst hKF1;refine X0 5 Z ?_;obtain rfl:=qc hF;exact qaR qa [.int .i64 (W64 (i2-1))] ⟨rfl,trivial⟩ ⟨rfl,SH.unfr 1 1 h0 h Z Z⟩
 replace h:SH _ _ [Ch.own S1 (x1:List qj) [.slice p9 ln1 k9],Ch.own S2 (x2:List qj) [.slice z ln2 u],Ch.own S3 (R:List Bool) [.slice A ln3 v],Ch.box I [.slice H j.Ac.Ap.Aq.length D,.slice l j.Ac.Aa.Ab.length k,.slice g j.Ac.Aa.Aj.length d,.slice i j.Ac.Aa.Ah.length f,.slice p j.Ac.Af.length o,.string j.Am.Bh,.int .i64 j.Am.Av,.int .i64 j.Am.Az,.int .i64 j.Am.As,.int .i64 j.Am.Ba,.slice L j.Bb.length J,.slice M j.Ay.length K,.slice C ln5 y,.slice B ln4 x,.slice A ln3 v,.slice z ln2 u,.slice p9 ln1 k9] 243,Ch.own S4 (x4:List Bool) [.slice B ln4 x],Ch.own S5 (x5:List ql) [.slice C ln5 y],Ch.box bb2 (qhF j H l g i p L M D k d f o J K) 62,xb a s p1 c s.at_ s.seed,Ch.grp (old b) (FS F) [fct (j:qbG) (qhF j H l g i p L M D k d f o J K),fct (s:Tl01Source) (qZ s p1 c),same b w F]]:=SH.appendN h hs1 ⟨fun _ h=>h,⟨fun _ h=>h,⟨fun _ h=>h,⟨fun _ h=>h,⟨fun _ h=>h,⟨fun _ h=>h,trivial⟩⟩⟩⟩⟩⟩;obtain rfl:=(h.sl 0 Z).2;obtain rfl:=(h.sl 1 Z).2;obtain rfl:=(h.sl 2 Z).2;obtain rfl:=(h.sl 4 Z).2;obtain rfl:=(h.sl 5 Z).2;refine X1 10 6 h Z (zcI h hF (qbJ ⟨[.slice H j.Ac.Ap.Aq.length D],[.slice l j.Ac.Aa.Ab.length k,.slice g j.Ac.Aa.Aj.length d,.slice i j.Ac.Aa.Ah.length f,.slice p j.Ac.Af.length o],rfl,⟨_,_,rfl,(qbW (h.grp 8 0 Z Z)).1.1⟩,⟨[.slice l j.Ac.Aa.Ab.length k,.slice g j.Ac.Aa.Aj.length d,.slice i j.Ac.Aa.Ah.length f],[.slice p j.Ac.Af.length o],rfl,⟨[.slice l j.Ac.Aa.Ab.length k],[.slice g j.Ac.Aa.Aj.length d,.slice i j.Ac.Aa.Ah.length f],rfl,⟨_,_,rfl,(qbW (h.grp 8 0 Z Z)).2.1.1⟩,⟨[.slice g j.Ac.Aa.Aj.length d],[.slice i j.Ac.Aa.Ah.length f],rfl,⟨_,_,rfl,(qbW (h.grp 8 0 Z Z)).2.2.1.1⟩,⟨_,_,rfl,(qbW (h.grp 8 0 Z Z)).2.2.2.1.1⟩⟩⟩,⟨_,_,rfl,(qbW (h.grp 8 0 Z Z)).2.2.2.2.1.1⟩⟩⟩) Z fun r3 _ h hF=>X0 7 Z ?_);replace h:=h.pick [7,0,1,2,3,4,5,6,8] Z;obtain⟨⟨_,_,_⟩,hr7,hF⟩:=qd hF;refine nxC h ((qb (h.frG 8 1 1 Z Z Z)).1) hr7 Z Z Z fun _ h=>X0 8 Z ?_;obtain⟨KF3,hKF3,o7,hF,hK3⟩:=bindE hF;refine qaz (fun e w'=>∃(a4:Int) (a5:Int) (O:Int),KF3 (a4,a5,O)=V r∧e=[(8,.int .i64 O)]∧SH b w' [xb a s p1 c a4 a5,xf b w F s p1 c]) ?_ ?_
 ·refine qm ?_;replace h:=h.pick [0,1,2,3,4,5,6,8] Z;refine rL (fun m e w'=>∃(a6:Int) (i32:Int) (P:Int) (Q:Int),qbL s R r3 m a6 i32 P Q=V o7∧e=[(0,.pointer (V ⟨a,0,U⟩)),(5,.pointer (V ⟨I,0,U⟩)),(6,.int .i64 0),(7,.int .i64 r3),(8,.int .i64 P),(9,.int .i64 Q)]∧SH b w' [xb a s p1 c a6 i32,Ch.own S1 (x1:List qj) [.slice p9 x1.length k9],Ch.own S2 (x2:List qj) [.slice z x2.length u],Ch.own S3 (R:List Bool) [.slice A R.length v],Ch.box I [.slice H j.Ac.Ap.Aq.length D,.slice l j.Ac.Aa.Ab.length k,.slice g j.Ac.Aa.Aj.length d,.slice i j.Ac.Aa.Ah.length f,.slice p j.Ac.Af.length o,.string j.Am.Bh,.int .i64 j.Am.Av,.int .i64 j.Am.Az,.int .i64 j.Am.As,.int .i64 j.Am.Ba,.slice L j.Bb.length J,.slice M j.Ay.length K,.slice C x5.length y,.slice B x4.length x,.slice A R.length v,.slice z x2.length u,.slice p9 x1.length k9] 243,Ch.own S4 (x4:List Bool) [.slice B x4.length x],Ch.own S5 (x5:List ql) [.slice C x5.length y],Ch.grp (old b) (FS F) [fct (j:qbG) (qhF j H l g i p L M D k d f o J K),fct (s:Tl01Source) (qZ s p1 c),same b w F]]) n ⟨_,_,_,_,hF,rfl,h⟩ Z ?_;rintro m2 _ _ ⟨a6,i32,P,Q,hF,rfl,h⟩;rcases m2 with _|m2
  ·cases hF
  refine zSS ?_;obtain⟨KF4,hKF4,_,hF,T⟩:=bindE hF;refine qaz (fun e w'=>∃(a7:Int) (a8:Int) (b2:Bool),KF4 (a7,a8,b2)=V o7∧e=[(0,.pointer (V ⟨a,0,U⟩)),(5,.pointer (V ⟨I,0,U⟩)),(6,.int .i64 0),(7,.int .i64 r3),(8,.int .i64 P),(9,.int .i64 Q),(34,.bool b2)]∧SH b w' [xb a s p1 c a7 a8,Ch.own S1 (x1:List qj) [.slice p9 x1.length k9],Ch.own S2 (x2:List qj) [.slice z x2.length u],Ch.own S3 (R:List Bool) [.slice A R.length v],Ch.box I [.slice H j.Ac.Ap.Aq.length D,.slice l j.Ac.Aa.Ab.length k,.slice g j.Ac.Aa.Aj.length d,.slice i j.Ac.Aa.Ah.length f,.slice p j.Ac.Af.length o,.string j.Am.Bh,.int .i64 j.Am.Av,.int .i64 j.Am.Az,.int .i64 j.Am.As,.int .i64 j.Am.Ba,.slice L j.Bb.length J,.slice M j.Ay.length K,.slice C x5.length y,.slice B x4.length x,.slice A R.length v,.slice z x2.length u,.slice p9 x1.length k9] 243,Ch.own S4 (x4:List Bool) [.slice B x4.length x],Ch.own S5 (x5:List ql) [.slice C x5.length y],Ch.grp (old b) (FS F) [fct (j:qbG) (qhF j H l g i p L M D k d f o J K),fct (s:Tl01Source) (qZ s p1 c),same b w F]]) ?_ ?_
  ·refine X0 4 Z (qg (t:=26) hF Z ?_ ?_)<;>intro hF
   ·refine X0 6 Z (qg (t:=30) hF Z ?_ ?_)<;>intro hF
    ·refine X0 3 Z ?_;obtain⟨⟨_,_,_⟩,hr10,hF⟩:=qd hF;refine nxC h ((qb (h.frG 7 1 1 Z Z Z)).1) hr10 Z Z Z fun _ h=>X0 4 Z ?_;obtain rfl:=qc hF;exact rG ⟨_,_,_,T,rfl,h⟩ Z
    refine X0 5 Z ?_;obtain rfl:=qc hF;exact rG ⟨_,_,_,T,rfl,h⟩ Z
   refine X0 9 Z ?_;obtain rfl:=qc hF;exact rG ⟨_,_,_,T,rfl,h⟩ Z
  rintro _ _ ⟨a7,a8,b2,hF,rfl,h⟩;subst hKF4;refine qk Z hF ?_ ?_<;>intro hF
  ·refine X0 8 Z ?_;obtain⟨⟨_,_,_⟩,hr8,hF⟩:=qd hF;refine nxC h ((qb (h.frG 7 1 1 Z Z Z)).1) hr8 Z Z Z fun _ h=>X0 8 Z (qg (t:=44) hF Z ?_ ?_)<;>intro hF
   ·refine X1 13 4 h Z ?_;obtain⟨_,_,hF,he1,_,_,_,_,hp1,hq1,rfl,hc3⟩:=(h.sl 3 Z).1.ix hF;refine zx hp1 hq1 ⟨he1.1,qA he1.2.1 (h.sl 3 Z).2⟩ Z (X0 1 Z (zc 0 hc3 Z (X0 2 Z (qk Z hF ?_ ?_))))<;>intro hF
    ·exact X0 10 Z (rK ⟨_,_,_,_,hF,rfl,h⟩ Z)
    exact X0 7 Z (rK ⟨_,_,_,_,hF,rfl,h⟩ Z)
   exact X0 10 Z (qbB Z Z (X0 7 Z (rK ⟨_,_,_,_,hF,rfl,h⟩ Z)))
  refine qv Z ?_;replace h:=h.grpKeep [1,2] 7 Z;replace h:=h.pick [0,7] Z;obtain rfl:=qc hF;exact rG ⟨_,_,_,hK3,rfl,h⟩ Z
 rintro _ _ ⟨a4,a5,O,hF,rfl,h⟩;subst hKF3;refine X0 5 Z ?_;obtain rfl:=qc hF;exact qaR qa [.int .i64 O] ⟨rfl,trivial⟩ ⟨rfl,SH.unfr 1 1 h0 h Z Z⟩
def qeU (code:(List (IntK .u8))):Nat→Int→Int→Option (Int×Int)| 0,_,_=>U| n+1,b,a =>(bif decide (a<(code.length:Int)) then V (decide (a<64)) else V false).bind fun b1 =>bif b1 then(idx code a).bind fun c =>qeU code n ((W64 ((W64 (b*31))+(W64 c.val))).tmod 2147483647) (W64 (a+1)) else V (b,a)
def qlj (n:Nat)(code:(List (IntK .u8))):Option (Option Tl01Source) :=(qeU code n 12345 0).bind fun o=>match o with| (a,_) =>V (V (⟨code,0,a⟩:Tl01Source))
theorem qnV {n:Nat}{w:World}{code:(List (IntK .u8))}{cs1:List Value}(p:Ro w code cs1){r:(Option Tl01Source)}(F:qlj n code=V r):RetZ prog 48 [GoT.v (List (IntK .u8)) cs1] w (fun B L=>∃(b:Nat) (g:Int),r=(V (⟨code,0,g⟩:Tl01Source))∧B=[GoT.v (Option Tl01Source) [.pointer (V ⟨b,0,U⟩)]]∧L=[Ch.box b (cs1++[.int .i64 0,.int .i64 g]) 191]):=by
 obtain⟨p1,k,rfl,s1⟩:=p;refine qn1 func48 Z (m:=34) Z Z (fun h=>?_);refine X0 7 Z (r_v (qt qa [0,2] [.tmp 5,.const (.int .i64 (12345))] Z Z Z Z Z Z Z Z) Z (qD h Z Z fun _ a h=>X0 7 Z ?_));obtain⟨z,F,o⟩:=qd F;refine qm (rL (fun m e w'=>∃(f:Int) (i:Int),qeU code m f i=V z∧e=[(0,.slice p1 code.length k),(3,.pointer (V ⟨a,0,U⟩)),(4,.int .i64 i)]∧SH w w' [Ch.box a [.slice p1 code.length k,.int .i64 0,.int .i64 f] 191]) n ⟨_,_,F,rfl,h⟩ Z ?_);rintro y _ _ ⟨f,i,F,rfl,h⟩;rcases y with _|y
 ·cases F
 refine zSS ?_;obtain⟨l,d,_,F,c⟩:=bindE F;refine qaz (fun e w'=>∃(b1:Bool),l b1=V z∧e=[(0,.slice p1 code.length k),(3,.pointer (V ⟨a,0,U⟩)),(4,.int .i64 i),(15,.bool b1)]∧SH w w' [Ch.box a [.slice p1 code.length k,.int .i64 0,.int .i64 f] 191]) ?_ ?_
 ·refine X0 6 Z (qg (t:=12) F Z ?_ ?_)<;>intro F
  ·refine X0 6 Z ?_;obtain rfl:=qc F;exact rG ⟨_,c,rfl,h⟩ Z
  refine X0 4 Z ?_;obtain rfl:=qc F;exact rG ⟨_,c,rfl,h⟩ Z
 rintro _ _ ⟨b1,F,rfl,h⟩;subst d;refine qk Z F ?_ ?_<;>intro F
 ·refine zKSB (rA [15] [0] h Z fun _ h=>M1 255 [0,1,2,3,4,5,6,7] 0 (h.pick [0] Z) Z ?_);obtain⟨_,_,F,u,_,_,_,_,v,x,rfl,s⟩:=s1.ix F;exact Ae 8 511 v x u (h.pick [0] Z) Z (Al 9 1023 0 s (h.pick [0] Z) Z (M0 8191 [10,11,12] (h.pick [0] Z) Z (Ao 13 16383 Z (zp1 Z (G0 32767 [14] (h.pick [0] Z) Z (Ao 15 65535 Z (zs 0 h Z fun _ h=>qL (fun A=>absurd (A 15 (by decide)) (by decide)) (Ad (X0 6 Z (rK ⟨_,_,F,rfl,h⟩ Z))))))))))
 refine qv Z ?_;obtain rfl:=qc F;replace F:=o;refine X0 5 Z ?_;obtain rfl:=qc F;exact qr7 qa [GoT.v (Option Tl01Source) [.pointer (V ⟨a,0,U⟩)]] h ⟨rfl,trivial⟩ ⟨a,f,rfl,rfl,rfl⟩

def qdi (n:Nat)(code:(List (IntK .u8))):Option (qbG×Int) :=(qlj n code).bind fun o=>match o with| some (⟨_,_,b⟩) =>((qhv n (⟨code,0,b⟩:Tl01Source)).bind fun o=>match o with| (a,c,d) =>(qg7 n (⟨code,c,d⟩:Tl01Source) a).bind fun o=>match o with| (f,_,_) =>V (a,f))| _=>U
theorem qgo {A:Nat→Prop}(T:∀ b,A b→old w b){code:(List (IntK .u8))}(g:GoT.R w A code cs1){r:(qbG×Int)}(F:qdi n code=V r):RetG prog 22 [GoT.v (List (IntK .u8)) cs1] w A r:=by
 obtain⟨p1,R,rfl,s1⟩:=g;have S:=Rg.start T;refine qeg func22 Z (m:=14) Z Z (fun h=>?_);refine zSR (qh qa h Z Z Z fun _ c h=>X0 5 Z ?_);obtain⟨_,k,F⟩:=qd F;refine qss (cB 48 Z) (qnV ⟨_,_,rfl,(h.oldS (s1.mono S.old))⟩ k) Z Z Z Z ?_;rintro _ _ _ t ⟨d,O,rfl,rfl,rfl⟩;replace h:SH _ _ [Ch.box d [.slice p1 code.length R,.int .i64 0,.int .i64 O] 191,Ch.box c [.slice U 0 0,.slice U 0 0,.slice U 0 0,.slice U 0 0,.slice U 0 0,.string ByteArray.empty,.int .i64 0,.int .i64 0,.int .i64 0,.int .i64 0,.slice U 0 0,.slice U 0 0] 62]:=SH.appendN h t ⟨fun _ h=>h,trivial⟩;refine X0 5 Z ?_;obtain⟨⟨a,P,Q⟩,l,F⟩:=qd F;refine qaS (cB 83 Z) (qmD (s:=(⟨code,0,O⟩:Tl01Source)) h (qlM _ (h.frOldS (s1.mono S.old))) l) Z Z Z Z ?_;rintro _ _ ⟨S1,_,rfl,h⟩;have o:=h.grpS 0 0 Z Z;obtain⟨H,v,I,x,J,y,K,z,L,B,M,C,N,D,rfl,_,_,_,_,_,_,_⟩:=qek o;replace h:SH _ _ [Ch.grp (fun _=>False) S1 [fct (a:qbG) (qhF a H I J K L M N v x y z B C D)],Ch.box d [.slice p1 code.length R,.int .i64 P,.int .i64 Q] 191,Ch.box c [.slice U 0 0,.slice U 0 0,.slice U 0 0,.slice U 0 0,.slice U 0 0,.string ByteArray.empty,.int .i64 0,.int .i64 0,.int .i64 0,.int .i64 0,.slice U 0 0,.slice U 0 0] 62]:=h;refine qh qa h Z Z Z fun _ _ h=>zs 0 h Z fun _ h=>zNS (rA [] [0] h Z fun _ h=>M2 7 [0,1,2] 0 0 (h.pick [0] Z) Z (Ao 3 15 Z ?_));replace h:=h.pick [2,0,1,3] Z;obtain⟨⟨f,_,_⟩,p,F⟩:=qd F;refine qaS (cB 84 Z) (qlN (s:=(⟨code,P,Q⟩:Tl01Source)) (j:=a) h (qlM _ (h.frOldS (s1.mono S.old))) (h.frG 2 0 1 Z Z Z) p) Z Z Z Z ?_;rintro _ _ ⟨rfl,h⟩;dsimp only at h;refine Ag (h.pick [1] Z) (Ao 4 31 Z (zs 3 h Z fun _ h=>G0 63 [5] (h.pick [1] Z) Z (Ad ?_)));obtain rfl:=qc F;have u:GoRs.Rs (ρ:=(qbG×Int)) h.wc (reg A w h.wc) (a,f) [GoT.v qbG (qhF a H I J K L M N v x y z B C D),GoT.v Int [.int .i64 f]]:=⟨_,_,rfl,(S.outR h (GoT.mono (Rg.grpR 2 0 h Z Z) (fun _ W=>W.elim (fun h=>h.elim) .inr))),⟨_,rfl,rfl⟩⟩;have i:=h;replace h:=h.pick [0,1,3] Z;exact qeP qa (ρ:=(qbG×Int)) (r:=(a,f)) [GoT.v qbG (qhF a H I J K L M N v x y z B C D),GoT.v Int [.int .i64 f]] h ⟨⟨_,_,_,rfl,rfl,i.box 3 Z,rfl⟩,rfl,trivial⟩ u
end Go.Fw


namespace Go.Fw
open Go
structure qk1 (x:qaq):Prop where
 Bh:okS x.Bh
 Bv:okI x.Bv
 Bp:okI x.Bp
 Bq:okT x.Bq
structure qip (x:qO):Prop where
 Bo:(okL okI) x.Bo
 Bl:(okL okI) x.Bl
 Bi:(okL okI) x.Bi
structure qk9 (x:qal):Prop where
 Bc:okI x.Bc
 Bk:okI x.Bk
 To:okI x.To
 Bn:okI x.Bn
 Bs:(okL qip) x.Bs
 Bd:(okL qip) x.Bd
structure qma (x:qE):Prop where
 Bh:okS x.Bh
 Bc:okI x.Bc
 Be:(okL qk1) x.Be
 Au:(okL qk9) x.Au
 Br:(okL okI) x.Br
 Ca:okI x.Ca
 Bw:okI x.Bw
structure qgN (x:qu):Prop where
 Aq:(okL qma) x.Aq
structure qn9 (x:qC):Prop where
 Bh:okS x.Bh
 Bt:okI x.Bt
 Aj:(okL okI) x.Aj
structure qqk (x:qav):Prop where
 Bh:okS x.Bh
 Bv:okI x.Bv
 Bz:okI x.Bz
structure qjC (x:qf):Prop where
 Ab:(okL qn9) x.Ab
 Aj:(okL okS) x.Aj
 Ah:(okL qqk) x.Ah
structure qnc (x:qae):Prop where
 Ak:(okL okI) x.Ak
 Bu:(okL okI) x.Bu
 Bp:(okL okI) x.Bp
 Bj:(okL okI) x.Bj
structure qil (x:qe):Prop where
 Ap:qgN x.Ap
 Aa:qjC x.Aa
 Af:(okL qnc) x.Af
structure qno (x:qx):Prop where
 Bh:okS x.Bh
 Av:okI x.Av
 Az:okI x.Az
 As:okI x.As
 Ba:okI x.Ba
structure qoy (x:qj):Prop where
 Ar:okI x.Ar
 Bg:okI x.Bg
structure qg9 (x:qi):Prop where
 Bm:okI x.Bm
 Ai:qoy x.Ai
 Bd:qoy x.Bd
structure qqg (x:qbG):Prop where
 Ac:qil x.Ac
 Am:qno x.Am
 Bb:(okL okI) x.Bb
 Ay:(okL qg9) x.Ay
structure qv8 (x:qvi):Prop where
 Cf:okI x.Cf
 Cb:(okL okI) x.Cb
 Ai:okI x.Ai
structure qvW (x:qB):Prop where
 Bf:(okL okT) x.Bf
 Ai:(okL qoy) x.Ai
 Bd:(okL qoy) x.Bd
structure qt9 (x:qnW):Prop where
 Cg:okI x.Cg
 Ce:okI x.Ce
structure qqB (x:qiD):Prop where
 Bk:okI x.Bk
 To:okI x.To
 Bs:okI x.Bs
 Cd:okI x.Cd
structure qtv (x:qna):Prop where
 Cc:(okL qt9) x.Cc
 Cb:(okL qqB) x.Cb
end Go.Fw


namespace Go.Fw
open Go
set_option maxRecDepth 100000
theorem qcB {n:Nat}{x lo hi:Int}:qar n x lo hi=V (inI x lo hi):=by
 simp only[qar,qlI,qnl];rfl
theorem qdL {n:Nat}{x lo hi:Int}:qaV n x lo hi=V (inI x lo hi):=by
 simp only[qaV,qlI,qnl];rfl
def bt (s:ByteArray)(j:Nat):Nat:=(s.data.toList.getD j 0).toNat
theorem qtJ {s:ByteArray}{j:Nat}(h:j<s.size):atS s (j:Int)=V (bt s j:Int):=by
 have a:j<s.data.size:=h;have b:j<s.data.toList.length:=by simpa using a
 unfold atS;rw[if_pos (by omega),jr];have:s[j]?=V (s.data.toList.getD j 0):=by
  rw[getElem?_pos s j h,jD,jn b]
  rfl
 rw[this]
 rfl
def letB (b:Nat):Bool:=decide (97≤b)&&decide (b≤122)
def digB (b:Nat):Bool:=decide (48≤b)&&decide (b≤57)
def chB (s:ByteArray)(j:Nat):Bool:=letB (bt s j) || digB (bt s j)&&decide (0<j)
def nameB (s:ByteArray):Bool:=(decide (1≤s.size)&&decide (s.size≤8))&&allN (chB s) s.size
theorem qlc {s:ByteArray}(h:okS s):Ev (fun n=>qf7 n s) (nameB s):=by
 unfold okS at h;have d:Ev (fun n=>qd1 s n 0) (bif allN (chB s) s.size then .nxt (s.size:Int) else .ret false):=by
  refine qeA ?_ (fun j a X f=>?_)
  ·exact Ev.succ (by simp only[qd1,qq (je _),cond_false];exact .done)
  ·refine Ev.succ ?_;simp only[qd1,qn a,cond_true,qtJ a,jd,qlI,qnl,wS j];have e1:(decide ((bt s j:Int) ≥ 97)&&decide ((bt s j:Int)≤122))=letB (bt s j):=by unfold letB;rw[jm];simp;omega
   have b:(decide ((bt s j:Int) ≥ 48)&&decide ((bt s j:Int)≤57))=digB (bt s j):=by unfold digB;rw[jm];simp;omega
   have c:decide ((j:Int) > 0)=decide (0<j):=by rw[jm];simp
   rw[e1,b,c];unfold chB;cases letB (bt s j)<;>cases digB (bt s j)<;>cases decide (0<j)<;>first|exact f|exact .done
 unfold qf7;refine Ev.cast (r:=bif allN (chB s) s.size then(decide (1≤s.size)&&decide (s.size≤8)) else false) (Ev.bindB d (fun _=>?_) (fun _=>.done)) ?_
 ·simp only[qlI,qnl];exact Ev.now (by congr 1;rw[jm];simp;omega)
 ·unfold nameB;cases allN (chB s) s.size<;>simp
def cutset:List UInt8:=[97,98,99,100,101,102,103,104,105,106,107,108,109,110,111,112,113,114,115,116,117,118,119,120,121,122,48,49,50,51,52,53,54,55,56,57]
theorem qpj (b:UInt8):cutset.contains b=(letB b.toNat || digB b.toNat):=by
 have a:(List.range 256).all (fun m=>cutset.contains (UInt8.ofNat m)==(letB (UInt8.ofNat m).toNat || digB (UInt8.ofNat m).toNat))=true:=by kernel_rfl
 have h:=List.all_eq_true.1 a b.toNat (List.mem_range.2 b.toNat_lt);rw[beq_iff_eq] at h;simpa using h
def letters:List UInt8:=[97,98,99,100,101,102,103,104,105,106,107,108,109,110,111,112,113,114,115,116,117,118,119,120,121,122]
theorem qsg (m:Nat)(b:m<256):decide ((Lib.indexByte letters m.toUInt8) ≥ 0)=letB m:=by
 have a:(List.range 256).all (fun m=>decide ((Lib.indexByte letters m.toUInt8) ≥ 0)==letB m)=true:=by kernel_rfl
 have h:=List.all_eq_true.1 a m (List.mem_range.2 b);rwa [beq_iff_eq] at h
theorem qpo {α:Type}{p:α→Bool}{l:List α}:l.dropWhile p=[]↔∀ x,x ∈ l→p x=true:=by
 induction l with
 | nil=>simp
 | cons y l ih=>
  rw[List.dropWhile_cons];by_cases h:p y=true
  ·rw[if_pos h,ih];simp[h]
  ·rw[if_neg h];simp[h]
theorem qpv {α:Type}{p:α→Bool}{l:List α}(h:∀ x,x ∈ l.dropWhile p→p x=true):∀ x,x ∈ l→p x=true:=by
 induction l with
 | nil=>simp
 | cons y l ih=>
  rw[List.dropWhile_cons] at h;by_cases b:p y=true
  ·rw[if_pos b] at h;intro x a;rcases List.mem_cons.1 a with rfl|a
   ·exact b
   ·exact ih h x a
  ·rw[if_neg b] at h;exact h
theorem qtI {l cs:List UInt8}:Lib.trimS l cs=[]↔∀ x,x ∈ l→cs.contains x=true:=by
 unfold Lib.trimS Lib.trimRightS Lib.trimLeftS;rw[qpo];constructor
 ·intro h x a;exact qpv (p:=(cs.contains ·)) (l:=l.reverse) (fun y b=>h y (List.mem_reverse.2 b)) x (List.mem_reverse.2 a)
 ·intro h x a;exact h x (List.mem_reverse.1 ((List.dropWhile_suffix _).subset (List.mem_reverse.1 a)))
theorem qhm {a b:ByteArray}:(a.toList==b.toList)=decide (a=b):=by
 rw[jm,beq_iff_eq,decide_eq_true_iff];constructor
 ·intro h;exact ByteArray.ext (by have:=congrArg List.toArray h;simpa [ByteArray.toList_eq] using this)
 ·rintro rfl;rfl

theorem qvm {s:ByteArray}{j:Nat}(h:j<s.data.toList.length):bt s j=(s.data.toList[j]).toNat:=by
 unfold bt;rw[jD,jn h];rfl
theorem qvY {s:ByteArray}{j:Nat}:bt s j<256:=UInt8.toNat_lt _
theorem qnw {n:Nat}{s:ByteArray}(h:okS s):qhS n s=V (nameB s):=by
 unfold okS at h;have z:s.data.toList.length=s.size:=by simp
 simp only[qhS,qdL,jd];cases hI:inI (s.size:Int) 1 8 with
 | false=>
  have k:(decide (1≤s.size)&&decide (s.size≤8))=false:=by rw[qtd] at hI;rw[Bool.and_eq_false_iff,decide_eq_false_iff_not,decide_eq_false_iff_not];omega
  simp[nameB,k]
 | true=>
  have k:1≤s.size∧s.size≤8:=by rw[qa5] at hI;omega
  have t:qio n s (⟨#[97,98,99,100,101,102,103,104,105,106,107,108,109,110,111,112,113,114,115,116,117,118,119,120,121,122,48,49,50,51,52,53,54,55,56,57]⟩:ByteArray)=V ⟨(Lib.trimS s.data.toList cutset).toArray⟩:=by
   unfold qio;rw[if_pos ⟨by omega,by decide,by decide⟩]
   rfl
  rw[t];simp only[cond_true,jd];have p:(((⟨(Lib.trimS s.data.toList cutset).toArray⟩:ByteArray).toList==(⟨#[]⟩:ByteArray).toList))=allN (fun j=>letB (bt s j) || digB (bt s j)) s.size:=by
   rw[qhm,jm,decide_eq_true_iff,qaA];have:((⟨(Lib.trimS s.data.toList cutset).toArray⟩:ByteArray)=⟨#[]⟩)↔Lib.trimS s.data.toList cutset=[]:=by
    constructor
    ·intro i;have:=congrArg (fun x:ByteArray=>x.data.toList) i;simpa using this
    ·intro i;rw[i]
   rw[this,qtI];constructor
   ·intro m j a;have c:j<s.data.toList.length:=by omega
    have:=m _ (jo c);rw[qpj,←qvm c] at this;exact this
   ·intro m x u;obtain⟨j,a,rfl⟩:=jV u;have:=m j (by omega);rw[qpj,←qvm a];exact this
  rw[p];have o:atS s 0=V (bt s 0:Int):=qtJ (j:=0) (by omega);have g:decide (Lib.indexByte letters (bt s 0:Int).toNat.toUInt8 ≥ 0)=letB (bt s 0):=by
   rw[jr];exact qsg _ qvY
  have r:∀ b:Bool,(bif b then(atS s 0).bind fun y=>(qgr n (⟨#[97,98,99,100,101,102,103,104,105,106,107,108,109,110,111,112,113,114,115,116,117,118,119,120,121,122]⟩:ByteArray) (⟨y⟩:IntK .u8)).bind fun v=>V (decide (v ≥ 0)) else V false)=V (b&&letB (bt s 0)):=by
   intro b;cases b with
   | false=>rfl
   | true=>
    rw[o];simp only[cond_true,jd,qgr,jz];exact congrArg V g
  rw[r]
  congr 1
  have l:(decide (1≤s.size)&&decide (s.size≤8))=true:=by simp[k]
  unfold nameB;rw[l,jz,jm,jf,qaA,qaA];simp only[chB,Bool.or_eq_true,jf,decide_eq_true_eq];constructor
  ·rintro⟨d,f⟩ j a;rcases Nat.eq_zero_or_pos j with rfl|hp
   ·exact .inl f
   ·exact(d j a).imp id (fun h=>⟨h,hp⟩)
  ·intro d;refine⟨fun j a=>(d j a).imp id (fun h=>h.1),?_⟩;rcases d 0 (by omega) with f|f
   ·exact f
   ·omega
def strAt (xs:List ByteArray)(j:Nat):ByteArray:=xs.getD j ByteArray.empty
theorem qm6 {xs:List ByteArray}{j:Nat}(h:j<xs.length):strAt xs j=xs[j]:=by simp[strAt,h]
theorem qoD {xs:List ByteArray}{j:Nat}(h:j<xs.length):idx xs (j:Int)=V (strAt xs j):=by rw[qbe h,qm6 h]
def neB (xs:List ByteArray)(j i:Nat):Bool:=!decide (strAt xs i=strAt xs j)
def namesB (xs:List ByteArray):Bool:=allN (fun j=>nameB (strAt xs j)&&allN (neB xs j) j) xs.length
theorem qlH {xs:List ByteArray}(h:okL okS xs):Ev (fun n=>qgj n xs) (namesB xs):=by
 have f:=h.len;have c:∀ j,j<xs.length→Ev (fun n=>qel xs (j:Int) n 0) (bif allN (neB xs j) j then .nxt (j:Int) else .ret false):=by
  intro j a;refine qeA ?_ (fun i hi X d=>Ev.succ ?_)
  ·exact Ev.succ (by simp only[qel,qq (je _),cond_false];exact .done)
  ·simp only[qel,qn hi,cond_true,qoD (show i<xs.length by omega),qoD a,jd,qhm,wS i];unfold neB;cases decide (strAt xs i=strAt xs j)
   ·exact d
   ·exact .done
 have b:Ev (fun n=>qex xs n 0) (bif namesB xs then .nxt (xs.length:Int) else .ret false):=by
  refine qeA ?_ (fun j a X d=>Ev.succ ?_)
  ·exact Ev.succ (by simp only[qex,qq (je _),cond_false];exact .done)
  ·simp only[qex,qn a,cond_true,qoD a,jd,wS j];refine Ev.bind (qlc (by rw[qm6 a];exact h.at a)) ?_;cases nameB (strAt xs j)
   ·exact .done
   ·refine Ev.ff Z (Ev.bind (c j a) ?_);cases allN (neB xs j) j
    ·exact .done
    ·exact d
 unfold qgj;refine Ev.bind b ?_;cases namesB xs<;>exact .done
theorem qri {xs:List ByteArray}{v:ByteArray}(c:xs.length≤1048576):Ev (fun n=>qfs n xs v) (ixL (fun x=>decide (v=x)) xs):=
 qga (fin:=(xs.length:Int)) (Lf:=qb8 xs v) (pf:=fun _ x=>V (decide (v=x))) (fun _ _=>.done)
  (fun n=>by simp only[qb8,qq (je _),cond_false])
  (fun n j x a=>by
   have b:=(List.getElem?_eq_some_iff.1 a).1;simp only[qb8,qn b,cond_true,qhd a,jd,qhm,wS j])
  (fun n=>by unfold qfs;congr 1;funext o;cases o<;>rfl)
theorem qo5 {xs:List ByteArray}{v:ByteArray}(a:xs.length≤1048576):Ev (fun n=>qea n xs v) (xs.any fun x=>decide (v=x)):=by
 unfold qea;exact Ev.bind (qri a) (Ev.now (by rw[qmK]))
theorem qi6 {xs:List ByteArray}(h:okL okS xs):Ev (fun n=>qeh n xs) (namesB xs):=by
 have g:=h.len;have b:Ev (fun n=>qem xs n 0) (bif namesB xs then .nxt (xs.length:Int) else .ret false):=by
  refine qeA ?_ (fun j a X c=>Ev.succ ?_)
  ·exact Ev.succ (by simp only[qem,qq (je _),cond_false];exact .done)
  ·have f:subS xs 0 (j:Int)=V (xs.take j):=by
    unfold subS;rw[if_pos ⟨by omega,by omega,by omega⟩];simp
   simp only[qem,qn a,cond_true,qoD a,jd,f,qnw (show okS (strAt xs j) by rw[qm6 a];exact h.at a),wS j];cases nameB (strAt xs j)
   ·exact .done
   ·refine Ev.ff Z (Ev.bind (qo5 (by simp;omega)) ?_);have:((xs.take j).any fun x=>decide (strAt xs j=x)) = !allN (neB xs j) j:=by
     rw[qq0 (d:=ByteArray.empty)]
     congr 1
     rw[jB,Nat.min_eq_left (by omega)];refine qhH (fun i hi=>?_);unfold neB strAt
     congr 1
     have:(xs.take j).getD i ByteArray.empty=xs.getD i ByteArray.empty:=by simp[jD,hi]
     rw[this];exact decide_eq_decide.2 eq_comm
    rw[this];cases allN (neB xs j) j
    ·exact .done
    ·exact c
 unfold qeh;refine Ev.bind b ?_;cases namesB xs<;>exact .done

theorem qpp {n:Nat}{x lo hi:Int}:qgU n x lo hi=V (!inI x lo hi):=by simp only[qgU,qdL,jd]
theorem qfk {xs:List Int}{lo hi:Int}(d:xs.length≤1048576):Ev (fun n=>qb0 n xs lo hi) (xs.all fun x=>inI x lo hi):=by
 have b:Ev (fun n=>qa0 n xs lo hi) (ixL (fun x=>!inI x lo hi) xs):=
  qga (fin:=(xs.length:Int)) (Lf:=qag xs lo hi) (pf:=fun _ x=>V (!inI x lo hi)) (fun _ _=>.done)
   (fun n=>by simp only[qag,qq (je _),cond_false])
   (fun n j x a=>by
    have c:=(List.getElem?_eq_some_iff.1 a).1;simp only[qag,qn c,cond_true,qhd a,jd,qpp,wS j])
   (fun n=>by unfold qa0;congr 1;funext o;cases o<;>rfl)
 unfold qb0 qbC;refine Ev.bind (Ev.bind b (Ev.now Z)) (Ev.now ?_);rw[qmK,qoB]
def stepB (xs:List Int)(j:Nat):Bool:=decide (j=0) || decide (at0 xs (j-1)<at0 xs j)
def incB (xs:List Int):Bool:=allN (stepB xs) xs.length
theorem qlq {xs:List Int}(m:xs.length≤1048576):Ev (fun n=>qfj n xs) (incB xs):=by
 have g:Ev (fun n=>qby xs n 1) (bif incB xs then .nxt (max 1 xs.length:Int) else .ret false):=by
  by_cases b:xs.length=0
  ·have k:incB xs=true:=by unfold incB;rw[b];rfl
   rw[k];refine Ev.succ ?_;have:decide ((1:Int)<(xs.length:Int))=false:=by rw[b];decide
   simp only[qby,this,cond_false];exact Ev.now (by rw[b];rfl)
  ·have:=qsr (Lf:=qby xs) (len:=xs.length) (i0:=1) (f:=stepB xs) (bad:=false) (fin:=.nxt (max 1 xs.length:Int)) (by omega)
    (Ev.succ (by
     simp only[qby,qq (je _),cond_false];exact Ev.now (by congr 2;omega)))
    (fun j l a X i=>Ev.succ (by
     simp only[qby,qn a,cond_true,wS j,show(j:Int)-1=((j-1:Nat):Int) by omega,qU (show -9223372036854775808≤((j-1:Nat):Int) by omega) (by omega),qas (show j-1<xs.length by omega),qas a,jd];unfold stepB;by_cases c:at0 xs (j-1)<at0 xs j
     ·have e1:decide (at0 xs (j-1) ≥ at0 xs j)=false:=by simp;omega
      rw[e1];simp only[c,decide_true,Bool.or_true,cond_true,cond_false];exact i
     ·have e1:decide (at0 xs (j-1) ≥ at0 xs j)=true:=by simp;omega
      have d:decide (j=0)=false:=by simp;omega
      rw[e1,d];simp only[c,decide_false,Bool.or_self,cond_true,cond_false];exact .done))
   have e:allN (fun j=>stepB xs (1+j)) (xs.length-1)=incB xs:=by
    unfold incB;rw[jm,qaA,qaA];constructor
    ·intro h j a;cases j with
     | zero=>rfl
     | succ j=>have:=h j (by omega);rwa [Nat.add_comm] at this
    ·intro h j a;exact h (1+j) (by omega)
   rw[e] at this;exact this
 unfold qfj;refine Ev.bind g ?_;cases incB xs<;>exact .done
def lenB {α:Type}(xs:List α)(lo hi:Nat):Bool:=decide (lo≤xs.length)&&decide (xs.length≤hi)
theorem qqH {α:Type}{xs:List α}{lo hi:Nat}:inI (xs.length:Int) (lo:Int) (hi:Int)=lenB xs lo hi:=by
 unfold inI lenB;rw[jm];simp
def axisB (xs:List Int):Bool:=lenB xs 1 4&&((xs.all fun x=>inI x 0 100000)&&incB xs)
theorem qp1 {xs:List Int}(a:xs.length≤1048576):Ev (fun n=>qi5 n xs) (axisB xs):=by
 simp only[qi5,qbu,jd,qdL,show inI (xs.length:Int) 1 4=lenB xs 1 4 from qqH (lo:=1) (hi:=4)];unfold axisB;cases lenB xs 1 4
 ·exact .done
 ·refine Ev.tt Z (Ev.bind (qfk a) ?_);cases (xs.all fun x=>inI x 0 100000)
  ·exact .done
  ·exact Ev.tt Z (Ev.bind (qlq a) .done)
theorem qpa {xs:List Int}(k:xs.length≤1048576):Ev (fun n=>qib n xs) (axisB xs):=by
 have i:Ev (fun n=>qdR xs n 0) (bif allN (fun j=>inI (at0 xs j) 0 100000&&stepB xs j) xs.length then .nxt (xs.length:Int) else .ret false):=by
  refine qeA ?_ (fun j c X a=>Ev.succ ?_)
  ·exact Ev.succ (by simp only[qdR,qq (je _),cond_false];exact .done)
  ·simp only[qdR,qn c,cond_true,qas c,jd,qcB,wS j];cases inI (at0 xs j) 0 100000
   ·exact .done
   ·simp only[Ji,cond_false,jz];unfold stepB;by_cases h:j=0
    ·subst h;exact Ev.ff (by decide) a
    ·simp only[show(j:Int)-1=((j-1:Nat):Int) by omega,qU (show -9223372036854775808≤((j-1:Nat):Int) by omega) (by omega),qas (show j-1<xs.length by omega),jd];have f:decide (j=0)=false:=by simp;omega
     have g:decide ((j:Int) > 0)=true:=by simp;omega
     rw[f,g];simp only[cond_true,Bool.false_or];by_cases b:at0 xs (j-1)<at0 xs j
     ·have e1:decide (at0 xs (j-1) ≥ at0 xs j)=false:=by simp;omega
      rw[e1];simp only[b,decide_true,cond_true,cond_false];exact a
     ·have e1:decide (at0 xs (j-1) ≥ at0 xs j)=true:=by simp;omega
      rw[e1];simp only[b,decide_false,cond_true,cond_false];exact .done
 have e:axisB xs=(allN (fun j=>inI (at0 xs j) 0 100000&&stepB xs j) xs.length&&lenB xs 1 4):=by
  unfold axisB incB;rw[qkK,qgE (d:=0),Bool.and_comm]
  rfl
 rw[e];unfold qib;refine Ev.bind i ?_;cases allN (fun j=>inI (at0 xs j) 0 100000&&stepB xs j) xs.length
 ·exact .done
 ·simp only[cond_true,qlI,qnl,jz];exact Ev.now (by congr 1;unfold lenB;rw[jm];simp;omega)
def tableB (t:qO):Bool:=axisB t.Bo&&(axisB t.Bl&&(decide (t.Bi.length=t.Bo.length*t.Bl.length)&&(t.Bi.all fun x=>inI x (-1000000) 1000000)))
theorem qoF {a b:Nat}(c:a≤1048576)(d:b≤1048576):W64 ((a:Int)*(b:Int))=((a*b:Nat):Int):=by
 have h:a*b≤1048576*1048576:=Nat.mul_le_mul c d;have e:(a:Int)*(b:Int)=((a*b:Nat):Int):=by simp
 rw[e];exact qU (by omega) (by omega)
theorem qrY {t:qO}(h:qip t):Ev (fun n=>qjl n t) (tableB t):=by
 unfold qjl tableB;refine Ev.bind (qp1 h.Bo.len) ?_;cases axisB t.Bo
 ·exact .done
 ·refine Ev.tt Z (Ev.bind (qp1 h.Bl.len) ?_);cases axisB t.Bl
  ·exact .done
  ·rw[qoF h.Bo.len h.Bl.len];have e:(((t.Bi.length:Nat):Int)==((t.Bo.length*t.Bl.length:Nat):Int))=decide (t.Bi.length=t.Bo.length*t.Bl.length):=by rw[jm];simp;omega
   rw[e];cases decide (t.Bi.length=t.Bo.length*t.Bl.length)
   ·exact .done
   ·exact Ev.tt Z (Ev.tt Z (Ev.bind (qfk h.Bi.len) .done))
theorem qrn {t:qO}(h:qip t):Ev (fun n=>qjr n t) (tableB t):=by
 have f:=h.Bi.len;have c:Ev (fun n=>qeX t n 0) (bif (t.Bi.all fun x=>inI x (-1000000) 1000000) then .nxt (t.Bi.length:Int) else .ret false):=
  qmW (fun n=>by simp only[qeX,qq (je _),cond_false]) (fun j a X d=>by
   simp only[qeX,qn a,cond_true,qbe a,jd,qcB,wS j];cases inI t.Bi[j] (-1000000) 1000000
   ·exact .done
   ·exact d)
 unfold qjr tableB;refine Ev.bind (b:=!(axisB t.Bo&&(axisB t.Bl&&decide (t.Bi.length=t.Bo.length*t.Bl.length)))) ?_ ?_
 ·refine Ev.bind (qpa h.Bo.len) ?_;cases axisB t.Bo
  ·exact .done
  ·refine Ev.ff Z (Ev.bind (qpa h.Bl.len) ?_);cases axisB t.Bl
   ·exact .done
   ·refine Ev.ff Z (Ev.now ?_);rw[qoF h.Bo.len h.Bl.len]
    congr 1
    rw[jm];simp;omega
 ·cases axisB t.Bo
  ·exact .done
  ·cases axisB t.Bl
   ·exact .done
   ·cases decide (t.Bi.length=t.Bo.length*t.Bl.length)
    ·exact .done
    ·refine Ev.ff Z (Ev.bind c ?_);cases (t.Bi.all fun x=>inI x (-1000000) 1000000)<;>exact .done

instance:Inhabited qaq:=⟨⟨ByteArray.empty,0,0,false⟩⟩
instance:Inhabited qO:=⟨⟨[],[],[]⟩⟩
instance:Inhabited qal:=⟨⟨0,0,0,0,[],[]⟩⟩
instance:Inhabited qE:=⟨⟨ByteArray.empty,0,[],[],[],0,0⟩⟩
instance:Inhabited qC:=⟨⟨ByteArray.empty,0,[]⟩⟩
instance:Inhabited qav:=⟨⟨ByteArray.empty,0,0⟩⟩
instance:Inhabited qae:=⟨⟨[],[],[],[]⟩⟩
theorem lastE {j m:Nat}(h:j<m)(a:m≤1048576):((j:Int)==W64 ((m:Int)-1))=decide (j+1=m):=by
 rcases quu h with h|h
 ·exact h
 ·omega
theorem qjy {α:Type}[Inhabited α]{xs:List α}{g:α→ByteArray}{j:Nat}(h:j<xs.length):strAt (xs.map g) j=g (gt xs j):=by
 rw[qm6 (by simpa using h),qef h];simp
theorem qmn {α:Type}{xs:List α}{g:α→ByteArray}{ok:α→Prop}(h:okL ok xs)(a:∀ x,ok x→okS (g x)):okL okS (xs.map g):=
 ⟨by rw[jx];exact h.1,fun y c=>by
  obtain⟨x,b,rfl⟩:=List.mem_map.1 c;exact a x (h.2 x b)⟩
theorem qkR {α β:Type}{xs:List α}{g:α→β}{j:Nat}(h:j<xs.length)(a:xs.length≤1048576){y:β}:appS ((xs.take j).map g) [y]=V ((xs.take j).map g++[y]):=
 qcI (by simp;omega)
def pinB (ps:List qaq)(j:Nat):Bool:=
 bif decide (j+1=ps.length) then((gt ps j).Bv==2)&&(((gt ps j).Bp==0)&&!(gt ps j).Bq) else((gt ps j).Bv==1)&&inI (gt ps j).Bp 0 500
def pinsB (ps:List qaq):Bool:=allN (pinB ps) ps.length&&(lenB ps 2 5&&namesB (ps.map qaq.Bh))
def clkN (ps:List qaq)(j:Nat):Nat:=cntP (fun i=>(gt ps i).Bq) j
theorem qrT {ps:List qaq}(h:okL qk1 ps):Ev (fun n=>qjh n ps) (pinsB ps):=by
 have i:=h.len;have l:Ev (fun n=>qc5 ps n ([]:List ByteArray) 0) (bif allN (pinB ps) ps.length then .nxt (ps.map qaq.Bh,(ps.length:Int)) else .ret false):=by
  refine loopN (Lf:=qc5 ps) (S:=fun j=>(ps.take j).map qaq.Bh) (pinB ps) (fun n=>?_) (fun j a o X f=>?_)
  ·simp only[qc5,qq (je _),cond_false,jC]
  ·simp only[qc5,qn a,cond_true,qw a,jd,qkR a i,qf1 (g:=qaq.Bh) a,lastE a i,bne,qdd,qdL,wS j];generalize hc:pinB ps j=c at f ⊢;unfold pinB at hc;cases hd:decide (j+1=ps.length)
   ·rw[hd] at hc;simp only[cond_false] at hc ⊢;subst hc;exact Ev.okP (fun b=>Ev.okP1 (fun d=>f (by rw[b,d];rfl)))
   ·rw[hd] at hc;simp only[cond_true] at hc ⊢;subst hc;refine Ev.okP (fun b=>Ev.okP (fun d=>Ev.chkP1 (fun k=>f (by rw[b,d,k];rfl))))
 unfold qjh pinsB;refine Ev.bind l ?_;cases allN (pinB ps) ps.length
 ·exact .done
 ·simp only[cond_true,qcx,qdL,jd,show inI (ps.length:Int) 2 5=lenB ps 2 5 from qqH (lo:=2) (hi:=5),jz];exact Ev.andP (fun _=>Ev.last (qi6 (qmn h (fun x m=>m.Bh))))
def pinS (ps:List qaq)(j:Nat):Bool:=allN (neB (ps.map qaq.Bh) j) j&&((nameB (gt ps j).Bh&&inI (gt ps j).Bp 0 500)&&(bif decide (j+1=ps.length) then((gt ps j).Bv==2)&&(((gt ps j).Bp==0)&&!(gt ps j).Bq) else((gt ps j).Bv==1)))
theorem quS {ps:List qaq}:(lenB ps 2 5&&allN (pinS ps) ps.length)=pinsB ps:=by
 have e:namesB (ps.map qaq.Bh)=allN (fun j=>nameB (gt ps j).Bh&&allN (neB (ps.map qaq.Bh) j) j) ps.length:=by
  unfold namesB;rw[jx];exact qhH (fun j a=>by rw[qjy a])
 unfold pinsB;rw[e,←Bool.and_assoc,Bool.and_comm (allN (pinB ps) ps.length),Bool.and_assoc,←qkK]
 congr 1
 refine qhH (fun j a=>?_);unfold pinS pinB;cases hd:decide (j+1=ps.length)
 ·simp only[cond_false];cases allN (neB (ps.map qaq.Bh) j) j<;>cases nameB (gt ps j).Bh<;>cases inI (gt ps j).Bp 0 500<;>cases ((gt ps j).Bv==1)<;>rfl
 ·simp only[cond_true];cases hcap:((gt ps j).Bp==0)
  ·simp
  ·have:inI (gt ps j).Bp 0 500=true:=by rw[beq_iff_eq] at hcap;rw[hcap];rfl
   rw[this];cases allN (neB (ps.map qaq.Bh) j) j<;>cases nameB (gt ps j).Bh<;>cases ((gt ps j).Bv==2)<;>cases (gt ps j).Bq<;>rfl
theorem qrC {c:qE}(h:okL qk1 c.Be):Ev (fun n=>qju n c) (bif pinsB c.Be then(((clkN c.Be c.Be.length:Nat):Int),true) else(0,false)):=by
 have s:=h.len;have l:∀ j,j<c.Be.length→Ev (fun n=>qe1 c (j:Int) (gt c.Be j) n 0) (bif allN (neB (c.Be.map qaq.Bh) j) j then .nxt (j:Int) else .ret (0,false)):=by
  intro j b;refine qeA ?_ (fun i hi X a=>Ev.succ ?_)
  ·exact Ev.succ (by simp only[qe1,qq (je _),cond_false];exact .done)
  ·simp only[qe1,qn hi,cond_true,qw (show i<c.Be.length by omega),jd,qhm,wS i];unfold neB;rw[qjy (g:=qaq.Bh) (show i<c.Be.length by omega),qjy (g:=qaq.Bh) b];exact Ev.chkP1 (fun _=>a)
 have k:Ev (fun n=>qc7 c n 0 0) (bif allN (pinS c.Be) c.Be.length then .nxt (((clkN c.Be c.Be.length:Nat):Int),(c.Be.length:Int)) else .ret (0,false)):=by
  refine loopN (Lf:=qc7 c) (S:=fun j=>((clkN c.Be j:Nat):Int)) (pinS c.Be) (fun n=>?_) (fun j b u X a=>?_)
  ·simp only[qc7,qq (je _),cond_false]
  ·have t:clkN c.Be j≤j:=qfY;have d:((j:Int)==W64 ((c.Be.length:Int)-1))=decide (j+1=c.Be.length):=lastE b s;have f:decide ((j:Int)<W64 ((c.Be.length:Int)-1)) = !decide (j+1=c.Be.length):=by
    rw[qU (by omega) (by omega),jm];simp;omega
   simp only[qc7,qn b,cond_true,qw b,jd,wS j,qgQ (show clkN c.Be j<9223372036854775807 by omega),d,f,qcB];unfold pinS;refine Ev.bind (l j b) ?_;cases ha:allN (neB (c.Be.map qaq.Bh) j) j
   ·exact .done
   ·simp only[cond_true,jz];refine Ev.chkT ?_ (fun o=>?_)
    ·exact Ev.or (qlc (qlP h b).Bh) (fun _=>.done)
    ·refine Ev.chkT1 ?_ (fun r=>?_)
     ·cases decide (j+1=c.Be.length)
      ·exact .done
      ·simp only[cond_true,Ji,cond_false,bne,qdd];cases ((gt c.Be j).Bv==2)<;>cases ((gt c.Be j).Bp==0)<;>cases (gt c.Be j).Bq<;>exact .done
     ·have a:=a (by unfold pinS;rw[ha,o,r];rfl);have m:clkN c.Be (j+1)=clkN c.Be j+(bif (gt c.Be j).Bq then 1 else 0):=rfl;rw[m] at a;cases hc:(gt c.Be j).Bq
      ·rw[hc] at a;exact Ev.ff Z a
      ·rw[hc] at a;exact Ev.tt Z a
 rw[←quS];unfold qju;refine Ev.guard ?_ (fun o=>?_)
 ·unfold lenB;have e1:decide ((c.Be.length:Int)<2) = !decide (2≤c.Be.length):=by rw[jm];simp;omega
  have p:decide ((c.Be.length:Int) > 5) = !decide (c.Be.length≤5):=by rw[jm];simp;omega
  rw[e1,p];cases decide (2≤c.Be.length)<;>cases decide (c.Be.length≤5)<;>exact .done
 ·refine Ev.bind k ?_;cases allN (pinS c.Be) c.Be.length<;>exact .done
def mnL (xs:List Int):Int:=(xs.drop 1).foldl (fun m y=>if y<m then y else m) (at0 xs 0)
def mxL (xs:List Int):Int:=(xs.drop 1).foldl (fun m y=>if y > m then y else m) (at0 xs 0)
theorem qoG {t:qO}(h:tableB t=true):1≤t.Bi.length:=by
 unfold tableB axisB lenB at h;simp only[jf,decide_eq_true_eq] at h;obtain⟨⟨⟨a,_⟩,_⟩,⟨⟨b,_⟩,_⟩,c,_⟩:=h;rw[c];exact Nat.mul_pos a b
theorem quH {xs:List Int}(b:1≤xs.length)(f:xs.length≤1048576):Ev (fun n=>qgZ n xs) (mnL xs):=by
 have c:=(qnr (Lf:=fun n t j=>qcV xs n t j) (xs:=xs) (step:=fun(m y:Int)=>if y<m then y else m) (fin:=fun t=>(t,(xs.length:Int))) 1 (at0 xs 0) (fun _ _=>True) b trivial (fun _ _ _ _=>trivial)
  (fun n t=>by simp only[qcV,qq (je _),cond_false])
  (fun j t a _ X d=>by simpa only[qcV,qn a,cond_true,qbe a,jd,wS j] using d)).1
 unfold qgZ;rw[show decide ((xs.length:Int)<1)=false by simp;omega,show idx xs (0:Int)=V (at0 xs 0) from qas (j:=0) (by omega)];simp only[cond_false,jd];exact Ev.bind c .done
theorem qr9 {t:qO}(h:qip t):Ev (fun n=>qg4 n t) (bif tableB t then(⟨mnL t.Bi,mxL t.Bi⟩,0) else(⟨0,0⟩,1)):=by
 unfold qg4;refine Ev.chk1 (qrn h) (fun k=>?_);have g:=qoG k;have o:=h.Bi.len;have d:=(qnr (Lf:=fun n (c:Int×Int) j=>qcX t n c.1 c.2 j) (xs:=t.Bi) (step:=fun(m:Int×Int) y=>(if y<m.1 then y else m.1,if y > m.2 then y else m.2)) (fin:=fun c=>(c.1,c.2,(t.Bi.length:Int))) 1 (at0 t.Bi 0,at0 t.Bi 0) (fun _ _=>True) g trivial (fun _ _ _ _=>trivial)
  (fun n t=>by simp only[qcX,qq (je _),cond_false])
  (fun j t f _ X i=>by simpa only[qcX,qn f,cond_true,qbe f,jd,wS j] using i)).1
 have l:∀ (ys:List Int) (a b:Int),ys.foldl (fun(m:Int×Int) y=>(if y<m.1 then y else m.1,if y > m.2 then y else m.2)) (a,b)=(ys.foldl (fun m y=>if y<m then y else m) a,ys.foldl (fun m y=>if y > m then y else m) b):=by
  intro ys
  induction ys with
  | nil=>intro a b;rfl
  | cons y ys ih=>intro a b;simp only[List.foldl_cons,ih]
 rw[l] at d;rw[show idx t.Bi (0:Int)=V (at0 t.Bi 0) from qas (j:=0) (by omega)];simp only[jd];exact Ev.bind d .done
def tabB (pos:Bool)(t:qO):Bool:=tableB t&&(!pos || decide (0≤mnL t.Bi))
def tablesB (a:List qO)(pos:Bool):Bool:=decide (a.length=2)&&a.all (tabB pos)
theorem qlh {a:List qO}{pos:Bool}(h:okL qip a):Ev (fun n=>qfC n a pos) (tablesB a pos):=by
 have g:=h.len;have c:Ev (fun n=>qaK n a pos) (ixL (fun x=>!tabB pos x) a):=
  qga (fin:=(a.length:Int)) (Lf:=qY a pos) (pf:=fun n x=>qg2 n x pos) (fun x b=>by
    unfold qg2 tabB;refine Ev.or (qrY (h.2 x b)) (fun d=>?_);cases pos
    ·exact .done
    ·refine Ev.tt Z (Ev.bind (quH (qoG d) (h.2 x b).Bi.len) (Ev.now ?_))
     congr 1
     rw[jm];simp)
   (fun n=>by simp only[qY,qq (je _),cond_false])
   (fun n j x b=>by
    have f:=(List.getElem?_eq_some_iff.1 b).1;simp only[qY,qn f,cond_true,qhd b,jd,wS j])
   (fun n=>by unfold qaK;congr 1;funext o;cases o<;>rfl)
 unfold qfC qa8 tablesB;rw[show((a.length:Int)==2)=decide (a.length=2) by rw[jm];simp;omega];refine Ev.andP (fun _=>Ev.bind (Ev.bind c (Ev.now Z)) (Ev.now ?_));rw[qmK,qoB]
theorem qiu {a:List qO}{pos:Bool}(h:okL qip a):Ev (fun n=>qdB n a pos) (tablesB a pos):=by
 unfold qdB tablesB;rw[show((a.length:Int) != 2) = !decide (a.length=2) by rw[jm];simp;omega];simp only[qdd];refine Ev.andP (fun b=>?_);have b:a.length=2:=by simpa using b
 have f:Ev (fun n=>qcQ a pos n 0) (bif allN (fun j=>tabB pos (gt a j)) a.length then .nxt (2:Int) else .ret false):=by
  refine qeA (len:=a.length) ?_ (fun j d X c=>Ev.succ ?_)
  ·rw[b];exact Ev.succ (by simp only[qcQ];exact .done)
  ·simp only[qcQ,show decide ((j:Int)<2)=true by simp;omega,cond_true,qw d,jd,wS j];refine Ev.bind (qr9 (qlP h d)) ?_;unfold tabB;cases tableB (gt a j)
   ·exact .done
   ·simp only[cond_true,jz];refine Ev.ff Z ?_;cases pos
    ·exact c
    ·refine Ev.tt Z ?_;rw[show decide (mnL (gt a j).Bi<0) = !decide (0≤mnL (gt a j).Bi) by rw[jm];simp];simp only[qdd];exact Ev.okP1 (fun _=>c)
 rw[qiq];refine Ev.bind f ?_;cases allN (fun j=>tabB pos (gt a j)) a.length<;>exact .done

theorem qfM {α:Type}[Inhabited α]{xs:List α}{x:Int}(a:0≤x)(b:x<xs.length):idx xs x=V (gt xs x.toNat):=by
  have:=qw (xs:=xs) (j:=x.toNat) (by omega);rwa [←qeO a] at this
theorem qp6 {q:Nat→Bool}{m n:Nat}(h:m≤n):cntP q m≤cntP q n:=by
  induction n with
  | zero=>
    obtain rfl:m=0:=by omega
    exact je _
  | succ n ih=>
    rcases Nat.lt_or_eq_of_le h with h|rfl
    · exact jX (ih (by omega)) (Nat.le_add_right _ _)
    · exact je _
theorem qmc {m k:Nat}:decide ((m:Int)≤(k:Int))=decide (m≤k):=by rw[jm];simp
theorem qrb {q:Nat→Bool}{n i j:Nat}(hi:i<j)(d:j<n)(a:q i=true)(b:q j=true):2≤cntP q n:=by
  have e1:cntP q (i+1)=cntP q i+1:=by rw[cntP,a];rfl
  have c:cntP q (j+1)=cntP q j+1:=by rw[cntP,b];rfl
  have f:=qp6 (q:=q) (show i+1≤j by omega);have g:=qp6 (q:=q) (show j+1≤n by omega);omega
theorem qrf {q:Nat→Bool}{n i j:Nat}(d:cntP q n≤1)(hi:i<n)(c:j<n)(a:q i=true)(b:q j=true):i=j:=by
  rcases Nat.lt_trichotomy i j with h|h|h
  · have:=qrb h c a b;omega
  · exact h
  · have:=qrb h hi b a;omega
def clkIx (ps:List qaq):Int:=ixL (fun p=>p.Bq) ps
def clkAt (ps:List qaq)(x:Int):Bool:=(gt ps x.toNat).Bq
theorem qtH {c:qE}(f:c.Be.length≤1048576):Ev (fun n=>qhB n c) (clkIx c.Be):=by
  unfold qhB;refine Ev.bind (b:=clkIx c.Be) ?_ .done;exact qga (fin:=(c.Be.length:Int)) (Lf:=qaa c.Be) (pf:=fun n x=>qir n x) (fun _ _=>.done)
    (fun n=>by simp only[qaa,qq (je _),cond_false])
    (fun n j x a=>by
      have d:=(List.getElem?_eq_some_iff.1 a).1;simp only[qaa,qn d,cond_true,qhd a,jd,wS j])
    (fun n=>by unfold qbv;congr 1;funext o;cases o<;>rfl)
def arcI (ps:List qaq)(a:qal):Bool:=
  bif (a.Bc==4) || (a.Bc==5) then
    (a.Bn==0)&&(((a.Bd.length:Int)==0)&&(tablesB a.Bs false&&((a.Bk==clkIx ps)&&(decide (a.Bk ≥ 0)&&(inI a.To 0 (ps.length-2)&&!(a.To==a.Bk))))))
  else
    (tablesB a.Bs true&&(tablesB a.Bd true&&((a.To==(ps.length:Int)-1)&&inI a.Bk 0 (ps.length-2)))) &&
      (bif a.Bc==1 then !clkAt ps a.Bk&&inI a.Bn 1 3 else(bif (a.Bc==2) || (a.Bc==3) then clkAt ps a.Bk&&(a.Bn==0) else false))
def arcS (ps:List qaq)(a:qal):Bool:=
  (inI a.Bk 0 (ps.length-2)&&inI a.To 0 (ps.length-1)) &&
    (bif a.Bc==1 then !clkAt ps a.Bk&&((a.To==(ps.length:Int)-1)&&(inI a.Bn 1 3&&(tablesB a.Bs true&&tablesB a.Bd true)))
     else(bif (a.Bc==2) || (a.Bc==3) then clkAt ps a.Bk&&((a.To==(ps.length:Int)-1)&&((a.Bn==0)&&(tablesB a.Bs true&&tablesB a.Bd true)))
     else(bif (a.Bc==4) || (a.Bc==5) then clkAt ps a.Bk&&(decide (a.To<(ps.length:Int)-1)&&(!clkAt ps a.To&&((a.Bn==0)&&(tablesB a.Bs false&&((a.Bd.length:Int)==0))))) else false)))
theorem qn8 {c d:Bool}:(bif c then V c else V d)=V (c || d):=by cases c<;>rfl
theorem qrs {c d:Bool}:(bif c then V true else V d)=V (c || d):=by cases c<;>rfl
theorem qsa {n:Nat}{k:Int}:qjk n k=V ((k==4) || (k==5)):=by simp only[qjk,qrs]
theorem qt0 {c:qE}{a:qal}(h:okL qk1 c.Be)(b:qk9 a)(k:2≤c.Be.length):Ev (fun n=>qhz n c a) (arcI c.Be a):=by
  have i:=h.len;have e1:W64 ((c.Be.length:Int)-1)=(c.Be.length:Int)-1:=qfg (by omega);have f:W64 ((c.Be.length:Int)-1-1)=(c.Be.length:Int)-2:=by rw[qU (by omega) (by omega)];omega
  simp only[qhz,qsa,jd,qgw,qeo,qcx,e1,f,qdL,qn8,bne];unfold arcI;refine Ev.iff (fun _=>Ev.last ?_) (fun _=>Ev.guardB ?_ (fun d=>?_))
  · exact Ev.andP fun _=>Ev.andP fun _=>Ev.and (qlh b.Bs) fun _=>Ev.bind (qtH i) (Ev.andP fun _=>Ev.andP fun _=>Ev.andP fun _=>.done)
  · refine Ev.or (qlh b.Bs) fun _=>Ev.or (qlh b.Bd) fun _=>?_
    simp only[qdd];exact Ev.orBP fun _=>.done
  · have g:0≤a.Bk∧a.Bk≤(c.Be.length:Int)-2:=by
      simp only[jf,qa5] at d;exact d.2.2.2
    simp only[qfM g.1 (show a.Bk<(c.Be.length:Int) by omega),jd];exact Ev.iff (fun _=>Ev.andP fun _=>.done) (fun _=>Ev.iff (fun _=>Ev.andP fun _=>.done) (fun _=>.done))
theorem qs5 {c:qE}{a:qal}(h:okL qk1 c.Be)(b:qk9 a)(k:2≤c.Be.length):Ev (fun n=>qkc n c a) (arcS c.Be a):=by
  have i:=h.len;have e1:W64 ((c.Be.length:Int)-1)=(c.Be.length:Int)-1:=qfg (by omega);have g:W64 ((c.Be.length:Int)-1-1)=(c.Be.length:Int)-2:=by rw[qU (by omega) (by omega)];omega
  simp only[qkc,jd,e1,g,qcB,qn8];unfold arcS;refine Ev.guardB ?_ (fun d=>?_)
  · simp only[qdd]
    exact Ev.orBP fun _=>.done
  · have f:(0≤a.Bk∧a.Bk≤(c.Be.length:Int)-2)∧(0≤a.To∧a.To≤(c.Be.length:Int)-1):=by
      simp only[jf,qa5] at d;exact d
    simp only[qfM f.1.1 (show a.Bk<(c.Be.length:Int) by omega),qfM f.2.1 (show a.To<(c.Be.length:Int) by omega),jd];refine Ev.iff (fun _=>?_) (fun _=>Ev.iff (fun _=>?_) (fun _=>Ev.iff (fun _=>?_) (fun _=>.done)))
    · exact Ev.andP fun _=>Ev.andP fun _=>Ev.andP fun _=>Ev.and (qiu b.Bs) fun _=>Ev.last (qiu b.Bd)
    · exact Ev.andP fun _=>Ev.andP fun _=>Ev.andP fun _=>Ev.and (qiu b.Bs) fun _=>Ev.last (qiu b.Bd)
    · exact Ev.andP fun _=>Ev.andP fun _=>Ev.andP fun _=>Ev.andP fun _=>Ev.and (qiu b.Bs) fun _=>.done
theorem qnn {ps:List qaq}(f:clkN ps ps.length≤1){x:Int}(k:0≤x):clkIx ps=x↔x<ps.length∧clkAt ps x=true:=by
  unfold clkIx ixL;cases hf:ps.findIdx? (fun p=>p.Bq) with
  | some j=>
    obtain⟨d,i,_⟩:=List.findIdx?_eq_some_iff_getElem.1 hf;have b:(gt ps j).Bq=true:=by rw[qef d];exact i
    constructor
    · intro e
      have e:(j:Int)=x:=e;subst e;exact⟨by omega,by unfold clkAt;rw[jr];exact b⟩
    · rintro⟨g,a⟩
      have:=qrf f d (show x.toNat<ps.length by omega) b a;show(j:Int)=x;omega
  | none=>
    have h:=List.findIdx?_eq_none_iff.1 hf;constructor
    · intro e
      have e:(-1:Int)=x:=e;omega
    · rintro⟨g,a⟩
      have c:x.toNat<ps.length:=by omega
      unfold clkAt at a;rw[qef c] at a;have:=h _ (jo c);rw[a] at this;exact absurd this (by decide)
theorem qgP {ps:List qaq}(h:pinsB ps=true):(2≤ps.length∧ps.length≤5)∧clkAt ps ((ps.length:Int)-1)=false:=by
  unfold pinsB lenB at h;simp only[jf,decide_eq_true_eq] at h;refine⟨h.2.1,?_⟩;have a:=qaA.1 h.1 (ps.length-1) (by omega);unfold pinB at a;rw[show decide (ps.length-1+1=ps.length)=true by simp;omega] at a;simp only[cond_true,jf,jF] at a;unfold clkAt;rw[show((ps.length:Int)-1).toNat=ps.length-1 by omega];exact a.2.2
theorem qtY {ps:List qaq}{a:qal}(h:pinsB ps=true)(b:clkN ps ps.length≤1):arcI ps a=arcS ps a:=by
  obtain⟨⟨D,z⟩,l⟩:=qgP h;rw[jm];unfold arcI arcS;cases h45:((a.Bc==4) || (a.Bc==5)) with
  | true=>
    have B:(a.Bc==1)=false:=by simp at h45 ⊢;omega
    have u:((a.Bc==2) || (a.Bc==3))=false:=by simp at h45 ⊢;omega
    rw[B,u];simp only[cond_true,cond_false,jf,qa5,decide_eq_true_eq,beq_iff_eq,jF,beq_eq_false_iff_ne,ne_eq];constructor
    · rintro⟨t,m,s,p,o,r,A⟩
      obtain⟨C,n⟩:=(qnn b o).1 p.symm;have x:a.Bk ≠ (ps.length:Int)-1:=by intro e;rw[e,l] at n;cases n
      refine⟨⟨⟨o,by omega⟩,⟨r.1,by omega⟩⟩,n,by omega,?_,t,s,m⟩;cases c:clkAt ps a.To with
      | false=>rfl
      | true=>
        have:=(qnn b r.1).2 ⟨by omega,c⟩;omega
    · rintro⟨⟨p,r⟩,n,y,c,t,s,m⟩
      have:=(qnn b p.1).2 ⟨by omega,n⟩;refine⟨t,m,s,this.symm,p.1,⟨r.1,by omega⟩,?_⟩;intro e;rw[e,n] at c;cases c
  | false=>
    simp only[cond_false,jf,qa5,beq_iff_eq];cases (a.Bc==1)
    · cases ((a.Bc==2) || (a.Bc==3))
      · simp
      · simp only[cond_true,cond_false,jf,beq_iff_eq]
        constructor
        · rintro⟨⟨b,d,f,g⟩,i,k⟩
          exact⟨⟨g,by omega⟩,i,f,k,b,d⟩
        · rintro⟨⟨g,v⟩,i,f,k,b,d⟩
          exact⟨⟨b,d,f,g⟩,i,k⟩
    · simp only[cond_true,jf,qa5,jF,beq_iff_eq]
      constructor
      · rintro⟨⟨b,d,f,g⟩,i,k⟩
        exact⟨⟨g,by omega⟩,i,f,k,b,d⟩
      · rintro⟨⟨g,v⟩,i,f,k,b,d⟩
        exact⟨⟨b,d,f,g⟩,i,k⟩
theorem qpN {ps:List qaq}{a:qal}(h:arcS ps a=true):1≤a.Bc∧a.Bc≤5:=by
  unfold arcS at h;rw[jf] at h;have h:=h.2;cases h1:(a.Bc==1)
  · cases h2:((a.Bc==2) || (a.Bc==3))
    · cases h4:((a.Bc==4) || (a.Bc==5))
      · rw[h1,h2,h4] at h;cases h
      · simp at h4;omega
    · simp at h2;omega
  · simp at h1;omega
def sameArc (x y:qal):Bool:=(x.Bc==y.Bc)&&((x.Bk==y.Bk)&&(x.To==y.To))
def newArc (a:List qal)(j:Nat):Bool:=allN (fun i=>!sameArc (gt a i) (gt a j)) j
theorem qrA {c:qE}(h:okL qk1 c.Be)(f:okL qk9 c.Au)(p:2≤c.Be.length):Ev (fun n=>qgq n c) (allN (fun j=>arcI c.Be (gt c.Au j)&&newArc c.Au j) c.Au.length&&decide (c.Au.length≤8)):=by
  have m:=f.len;have i:∀ (a:List qal) (y:qal),a.length≤1048576→Ev (fun n=>qaC n a y) (a.any fun x=>sameArc x y):=by
    intro a y m;unfold qaC;refine Ev.bind (b:=ixL (fun x=>sameArc x y) a) (qga (fin:=(a.length:Int)) (Lf:=qV a y) (pf:=fun n x=>qfu n x y) (fun x _=>?_)
      (fun n=>by simp only[qV,qq (je _),cond_false])
      (fun n j x g=>by
        have d:=(List.getElem?_eq_some_iff.1 g).1;simp only[qV,qn d,cond_true,qhd g,jd,wS j])
      (fun n=>by unfold qbd;congr 1;funext o;cases o<;>rfl)) (Ev.now (by rw[qmK]))
    unfold qfu sameArc;exact Ev.andP fun _=>Ev.andP fun _=>.done
  have k:Ev (fun n=>qcF c n 0) (bif allN (fun j=>arcI c.Be (gt c.Au j)&&newArc c.Au j) c.Au.length then .nxt (c.Au.length:Int) else .ret false):=by
    refine qeA ?_ (fun j d X l=>Ev.succ ?_)
    · exact Ev.succ (by simp only[qcF,qq (je _),cond_false];exact .done)
    · simp only[qcF,qn d,cond_true,qw d,jd,qta (Nat.le_of_lt d),wS j]
      refine Ev.chk (qt0 h (qlP f d) p) fun _=>Ev.chkT1 ?_ (fun _=>l);refine(i _ _ (by simp;omega)).cast ?_;rw[qtq (Nat.le_of_lt d)];rfl
  unfold qgq;refine Ev.bind k ?_;cases allN (fun j=>arcI c.Be (gt c.Au j)&&newArc c.Au j) c.Au.length
  · exact .done
  · refine Ev.now ?_
    show V (decide ((c.Au.length:Int)≤((8:Nat):Int)))=V (true&&decide (c.Au.length≤8));rw[qmc,jz]
def hasB (b:List qal)(k:Int):Bool:=b.any fun a=>a.Bc==k
theorem qnL {c:qE}{k:Int}(f:c.Au.length≤1048576):Ev (fun n=>qdy n c k) (hasB c.Au k):=by
  unfold qdy qbq;exact Ev.last (Ev.bind (b:=ixL (fun x=>x.Bc==k) c.Au) (qga (fin:=(c.Au.length:Int)) (Lf:=qab c.Au k) (pf:=fun n x=>qja n x k) (fun x _=>.done)
      (fun n=>by simp only[qab,qq (je _),cond_false])
      (fun n j x a=>by
        have d:=(List.getElem?_eq_some_iff.1 a).1;simp only[qab,qn d,cond_true,qhd a,jd,wS j])
      (fun n=>by unfold qbH;congr 1;funext o;cases o<;>rfl)) (Ev.now (by rw[qmK];rfl)))
def kindN (a:List qal)(k:Nat)(j:Nat):Nat:=cntP (fun i=>(gt a i).Bc==(k:Int)) j
theorem qp2 {a:List qal}{k:Nat}:decide (((kindN a k a.length:Nat):Int) > 0)=hasB a k:=by
  rw[show decide (((kindN a k a.length:Nat):Int) > 0)=decide (0<kindN a k a.length) by simp];unfold kindN hasB;rw[qqT,qsf]
theorem qr1 {a:List qal}{k:Nat}:(((kindN a k a.length:Nat):Int)==0) = !hasB a k:=by
  rw[←qp2,jm];simp
theorem qrz {c:qE}(g:okL qk9 c.Au)(h:∀ j,j<c.Au.length→1≤(gt c.Au j).Bc∧(gt c.Au j).Bc≤5):Ev (fun n=>qiR n c) (vecC (fun k=>kindN c.Au k c.Au.length) 6):=by
  have o:=g.len;have d:Ev (fun n=>qdr c n (vecC (fun _=>0) 6) 0) (vecC (fun k=>kindN c.Au k c.Au.length) 6,(c.Au.length:Int)):=by
    refine loopF (Lf:=qdr c) (S:=fun j=>vecC (fun k=>kindN c.Au k j) 6) (len:=c.Au.length) (fun n=>?_) (fun j a X f=>?_)
    · simp only[qdr,qq (je _),cond_false]
    · obtain⟨p,r⟩:=h j a
      have b:(gt c.Au j).Bc=(((gt c.Au j).Bc.toNat:Nat):Int):=qeO (by omega);have l:kindN c.Au (gt c.Au j).Bc.toNat j≤j:=qfY;simp only[qdr,qn a,cond_true,qw a,jd,wS j];rw[b,qjK (show(gt c.Au j).Bc.toNat<6 by omega)];simp only[jd];rw[qpH (c:=fun k=>kindN c.Au k j) (by show kindN c.Au _ j<_;omega)];have:vecC (fun i=>kindN c.Au i j+(bif decide ((gt c.Au j).Bc.toNat=i) then 1 else 0)) 6=vecC (fun k=>kindN c.Au k (j+1)) 6:=by
        refine qjP (fun k _=>?_);show _=kindN c.Au k j+(bif (gt c.Au j).Bc==(k:Int) then 1 else 0)
        congr 2
        rw[jm];simp;omega
      rw[this];exact f
  unfold qiR;rw[show mkS 6 (0:Int)=V (vecC (fun _=>0) 6) from qmj (m:=6) (by omega)];simp only[jd];exact Ev.bind d .done
def kindB (c:qE):Bool:=
  bif c.Bc==1 then(((clkN c.Be c.Be.length:Nat):Int)==0)&&(((c.Br.length:Int)==((2 ^ (c.Be.length-1):Nat):Int))&&(c.Br.all fun x=>inI x 0 1))
  else bif c.Bc==2 then(((clkN c.Be c.Be.length:Nat):Int)==1)&&(((c.Br.length:Int)==0)&&(!hasB c.Au 1&&!(hasB c.Au 2==hasB c.Au 3)))
  else bif c.Bc==3 then(((clkN c.Be c.Be.length:Nat):Int)==1)&&(((c.Br.length:Int)==0)&&(hasB c.Au 1&&(hasB c.Au 2&&!hasB c.Au 3)))
  else false
theorem qpA {c:qE}(h:kindB c=true):clkN c.Be c.Be.length≤1:=by
  unfold kindB at h;cases h1:(c.Bc==1)
  · cases h2:(c.Bc==2)
    · cases h3:(c.Bc==3)
      · rw[h1,h2,h3] at h;cases h
      · rw[h1,h2,h3] at h
        simp only[cond_true,cond_false,jf,beq_iff_eq] at h;omega
    · rw[h1,h2] at h
      simp only[cond_true,cond_false,jf,beq_iff_eq] at h;omega
  · rw[h1] at h
    simp only[cond_true,jf,beq_iff_eq] at h;omega
theorem qqY {m:Nat}(a:2≤m)(b:m≤5):shlS 1 (W64 ((m:Int)-1))=V ((2 ^ (m-1):Nat):Int)∧shlS 1 (IntKind.wrap .u64 (W64 ((m:Int)-1)))=V ((2 ^ (m-1):Nat):Int):=by
  have:m=2∨m=3∨m=4∨m=5:=by omega
  rcases this with rfl|rfl|rfl|rfl<;>exact⟨by decide,by decide⟩
theorem qqO {c:qE}(b:qma c)(k:2≤c.Be.length)(g:c.Be.length≤5):Ev (fun n=>qfR n c) (kindB c):=by
  have l:=b.Be.len;have i:Ev (fun n=>qbf c n 0 0) (((clkN c.Be c.Be.length:Nat):Int),(c.Be.length:Int)):=by
    refine loopF (Lf:=qbf c) (S:=fun j=>((clkN c.Be j:Nat):Int)) (len:=c.Be.length) (fun n=>?_) (fun j h X d=>?_)
    · simp only[qbf,qq (je _),cond_false]
    · have m:clkN c.Be j≤j:=qfY
      simp only[qbf,qn h,cond_true,qw h,jd,wS j,qgQ (show clkN c.Be j<9223372036854775807 by omega)];have f:clkN c.Be (j+1)=clkN c.Be j+(bif (gt c.Be j).Bq then 1 else 0):=rfl;rw[f] at d;cases b:(gt c.Be j).Bq
      · rw[b] at d;exact Ev.ff Z d
      · rw[b] at d;exact Ev.tt Z d
  unfold qfR kindB;refine Ev.bind i ?_;simp only[qeo,qcx,jd,(qqY k g).1];have a:=b.Au.len;refine Ev.iff (fun _=>?_) (fun _=>Ev.iff (fun _=>?_) (fun _=>Ev.iff (fun _=>?_) (fun _=>.done)))
  · exact Ev.andP fun _=>Ev.andP fun _=>Ev.last (qfk b.Br.len)
  · exact Ev.andP fun _=>Ev.andP fun _=>Ev.bind (qnL a) (Ev.andP fun _=>Ev.bind (qnL a) (Ev.bind (qnL a) .done))
  · exact Ev.andP fun _=>Ev.andP fun _=>Ev.and (qnL a) fun _=>Ev.and (qnL a) fun _=>Ev.bind (qnL a) .done
def cellB (c:qE):Bool:=
  nameB c.Bh&&(pinsB c.Be&&((allN (fun j=>arcI c.Be (gt c.Au j)&&newArc c.Au j) c.Au.length&&decide (c.Au.length≤8))&&(inI c.Ca 0 100000&&(inI c.Bw 0 100000&&kindB c))))
theorem qtk {c:qE}(a:qma c):Ev (fun n=>qj6 n c) (cellB c):=by
  simp only[qj6,qnw a.Bh,qdL,jd];unfold cellB;refine Ev.andP fun _=>Ev.and (qrT a.Be) fun f=>?_;obtain⟨⟨d,b⟩,_⟩:=qgP f;exact Ev.and (qrA a.Be a.Au d) fun _=>Ev.andP fun _=>Ev.andP fun _=>Ev.last (qqO a d b)
theorem qse {c:qE}(d:qma c):Ev (fun n=>qj7 n c) (cellB c):=by
  have p:=d.Au.len;have r:=d.Br.len;have e:cellB c=((pinsB c.Be&&(nameB c.Bh&&(decide (c.Au.length≤8)&&(inI c.Ca 0 100000&&inI c.Bw 0 100000))))&&(allN (fun j=>arcS c.Be (gt c.Au j)&&newArc c.Au j) c.Au.length&&kindB c)):=by
    unfold cellB;cases l:kindB c
    · simp
    · cases hp:pinsB c.Be
      · simp
      · rw[qhH (fun j _=>by rw[qtY hp (qpA l)])]
        cases nameB c.Bh<;>cases allN (fun j=>arcS c.Be (gt c.Au j)&&newArc c.Au j) c.Au.length<;>cases decide (c.Au.length≤8)<;>cases inI c.Ca 0 100000<;>cases inI c.Bw 0 100000<;>rfl
  rw[e];unfold qj7;refine Ev.bind (qrC d.Be) ?_;cases hp:pinsB c.Be
  · exact .done
  · obtain⟨⟨o,m⟩,_⟩:=qgP hp
    simp only[cond_true,jz,Ji,cond_false];refine Ev.guardB ?_ (fun _=>?_)
    · simp only[qcB,jd,qdd]
      refine Ev.orB (qlc d.Bh) fun _=>?_;rw[show decide ((c.Au.length:Int) > 8) = !decide (c.Au.length≤8) by rw[jm];simp;omega,qdd];exact Ev.orBP fun _=>Ev.orBP fun _=>.done
    · have g:∀ j,j<c.Au.length→Ev (fun n=>qdC c (j:Int) (gt c.Au j) n 0) (bif newArc c.Au j then .nxt (j:Int) else .ret false):=by
        intro j a;refine qeA ?_ (fun i hi X b=>Ev.succ ?_)
        · exact Ev.succ (by simp only[qdC,qq (je _),cond_false];exact .done)
        · simp only[qdC,qn hi,cond_true,qw (show i<c.Au.length by omega),jd,wS i]
          unfold sameArc;cases ((gt c.Au i).Bc==(gt c.Au j).Bc)
          · exact b
          · cases ((gt c.Au i).Bk==(gt c.Au j).Bk)
            · exact b
            · cases ((gt c.Au i).To==(gt c.Au j).To)
              · exact b
              · exact .done
      have f:Ev (fun n=>qfJ c n 0) (bif allN (fun j=>arcS c.Be (gt c.Au j)&&newArc c.Au j) c.Au.length then .nxt (c.Au.length:Int) else .ret false):=by
        refine qeA ?_ (fun j a X b=>Ev.succ ?_)
        · exact Ev.succ (by simp only[qfJ,qq (je _),cond_false];exact .done)
        · simp only[qfJ,qn a,cond_true,qw a,jd,wS j]
          refine Ev.chk (qs5 d.Be (qlP d.Au a) o) fun _=>Ev.bind (g j a) ?_;cases newArc c.Au j
          · exact .done
          · exact b
      have h:Ev (fun n=>qfF c n 0) (bif (c.Br.all fun x=>inI x 0 1) then .nxt (c.Br.length:Int) else .ret false):=
        qmW (fun n=>by simp only[qfF,qq (je _),cond_false]) (fun j a X b=>by
          simp only[qfF,qn a,cond_true,qbe a,jd,qcB,wS j,qdd];exact Ev.okP1 fun _=>b)
      refine Ev.bind f ?_;cases hA:allN (fun j=>arcS c.Be (gt c.Au j)&&newArc c.Au j) c.Au.length
      · exact .done
      · have l:∀ j,j<c.Au.length→1≤(gt c.Au j).Bc∧(gt c.Au j).Bc≤5:=fun j a=>by
          have:=qaA.1 hA j a;rw[jf] at this;exact qpN this.1
        simp only[cond_true,jz];refine Ev.bind (qrz d.Au l) ?_;simp only[(qqY o m).2,jd,
          show idx (vecC (fun k=>kindN c.Au k c.Au.length) 6) (1:Int)=V ((kindN c.Au 1 c.Au.length:Nat):Int) from qjK (k:=1) (by omega),
          show idx (vecC (fun k=>kindN c.Au k c.Au.length) 6) (2:Int)=V ((kindN c.Au 2 c.Au.length:Nat):Int) from qjK (k:=2) (by omega),
          show idx (vecC (fun k=>kindN c.Au k c.Au.length) 6) (3:Int)=V ((kindN c.Au 3 c.Au.length:Nat):Int) from qjK (k:=3) (by omega),qp2,qr1]
        unfold kindB;refine Ev.iff (fun _=>?_) (fun _=>Ev.iff (fun _=>?_) (fun _=>Ev.iff (fun _=>?_) (fun _=>.done)))
        · refine Ev.bind h ?_
          cases (c.Br.all fun x=>inI x 0 1)
          · exact Ev.now (by simp)
          · exact(Ev.andP (fun _=>.done)).cast (by rw[Bool.and_true])
        · refine(Ev.andP fun _=>Ev.andP fun _=>Ev.andP fun _=>.done).cast ?_
          cases (((clkN c.Be c.Be.length:Nat):Int)==1)<;>cases ((c.Br.length:Int)==0)<;>cases hasB c.Au ((1:Nat):Int)<;>cases hasB c.Au ((2:Nat):Int)<;>cases hasB c.Au ((3:Nat):Int)<;>rfl
        · refine(Ev.andP fun _=>Ev.andP fun _=>Ev.andP fun _=>Ev.andP fun _=>.done).cast ?_
          cases (((clkN c.Be c.Be.length:Nat):Int)==1)<;>cases ((c.Br.length:Int)==0)<;>cases hasB c.Au ((1:Nat):Int)<;>cases hasB c.Au ((2:Nat):Int)<;>cases hasB c.Au ((3:Nat):Int)<;>rfl
def libB (l:qu):Bool:=l.Aq.all cellB&&(decide (l.Aq.length≤8)&&namesB (l.Aq.map qE.Bh))
theorem qqF {l:qu}(h:qgN l):Ev (fun n=>qh2 n l) (libB l):=by
  have d:=h.Aq.len;have b:Ev (fun n=>qcU l n ([]:List ByteArray) 0) (bif allN (fun j=>cellB (gt l.Aq j)) l.Aq.length then .nxt (l.Aq.map qE.Bh,(l.Aq.length:Int)) else .ret false):=by
    refine loopN (Lf:=qcU l) (S:=fun j=>(l.Aq.take j).map qE.Bh) (fun j=>cellB (gt l.Aq j)) (fun n=>?_) (fun j a i X c=>?_)
    · simp only[qcU,qq (je _),cond_false,jC]
    · simp only[qcU,qn a,cond_true,qw a,jd,qkR a d,qf1 (g:=qE.Bh) a,wS j]
      exact Ev.chk1 (qtk (qlP h.Aq a)) c
  unfold qh2 libB;rw[qiq];refine Ev.bind b ?_;cases allN (fun j=>cellB (gt l.Aq j)) l.Aq.length
  · exact .done
  · simp only[cond_true,jz,show decide ((l.Aq.length:Int)≤8)=decide (l.Aq.length≤8) from qmc (k:=8)]
    exact Ev.andP fun _=>Ev.last (qi6 (qmn h.Aq (fun x f=>f.Bh)))

theorem qrQ {c:qE}(h:cellB c=true):nameB c.Bh=true:=by
 unfold cellB at h;rw[jf] at h;exact h.1
theorem qiC {c:qE}(h:cellB c=true):pinsB c.Be=true:=by
 unfold cellB at h;simp only[jf] at h;exact h.2.1
theorem qpr {l:qu}(h:qgN l):Ev (fun n=>qii n l) (libB l):=by
 have f:=h.Aq.len;have c:∀ j,j<l.Aq.length→Ev (fun n=>qdI l (j:Int) n 0) (bif allN (neB (l.Aq.map qE.Bh) j) j then .nxt (j:Int) else .ret false):=by
  intro j a;refine qeA ?_ (fun i hi X d=>Ev.succ ?_)
  ·exact Ev.succ (by simp only[qdI,qq (je _),cond_false];exact .done)
  ·simp only[qdI,qn hi,cond_true,qw (show i<l.Aq.length by omega),qw a,jd,qhm,wS i];unfold neB;rw[qjy (g:=qE.Bh) (show i<l.Aq.length by omega),qjy (g:=qE.Bh) a];exact Ev.chkP1 (fun _=>d)
 have b:Ev (fun n=>qdJ l n 0) (bif allN (fun j=>cellB (gt l.Aq j)&&allN (neB (l.Aq.map qE.Bh) j) j) l.Aq.length then .nxt (l.Aq.length:Int) else .ret false):=by
  refine qeA ?_ (fun j a X d=>Ev.succ ?_)
  ·exact Ev.succ (by simp only[qdJ,qq (je _),cond_false];exact .done)
  ·simp only[qdJ,qn a,cond_true,qw a,jd,wS j];refine Ev.chk (qse (qlP h.Aq a)) fun _=>Ev.bind (c j a) ?_;cases allN (neB (l.Aq.map qE.Bh) j) j
   ·exact .done
   ·exact d
 have e:libB l=(allN (fun j=>cellB (gt l.Aq j)&&allN (neB (l.Aq.map qE.Bh) j) j) l.Aq.length&&decide (l.Aq.length≤8)):=by
  unfold libB namesB;rw[qiq,jx,Bool.and_comm (decide (l.Aq.length≤8)),←Bool.and_assoc,←qkK]
  congr 1
  refine qhH (fun j a=>?_);rw[qjy (g:=qE.Bh) a];cases hc:cellB (gt l.Aq j)
  ·rfl
  ·rw[qrQ hc];rfl
 rw[e];unfold qii;refine Ev.bind b ?_;cases allN (fun j=>cellB (gt l.Aq j)&&allN (neB (l.Aq.map qE.Bh) j) j) l.Aq.length
 ·exact .done
 ·refine Ev.now ?_;show V (decide ((l.Aq.length:Int)≤((8:Nat):Int)))=V (true&&decide (l.Aq.length≤8));rw[qmc,jz]
theorem qkw {c c':Nat→Nat}{m:Nat}{x:Int}(b:0≤x)(h:x<m)(d:c x.toNat<9223372036854775807)(f:∀ k,k<m→c' k=c k+(bif x==(k:Int) then 1 else 0)) :
  idx (vecC c m) x=V (c x.toNat:Int)∧setS (vecC c m) x (W64 ((c x.toNat:Int)+1))=vecC c' m:=by
 have ex:x=(x.toNat:Int):=qeO b;have e1:=qjK (c:=c) (m:=m) (k:=x.toNat) (by omega);have a:=qpH (c:=c) (m:=m) (k:=x.toNat) d;rw[←ex] at e1 a;refine⟨e1,a.trans (qjP (fun k g=>?_))⟩;rw[f k g]
 congr 2
 rw[jm];simp;omega
def netB (d:qf)(x:Int):Bool:=inI x 0 ((d.Aj.length:Int)-1)
theorem qq8 {n:Nat}{d:qf}{x:Int}(a:d.Aj.length≤1048576):qdF n d x=V (netB d x):=by
 simp only[qdF,qhI,jd,qdL,qfg (show d.Aj.length≤9223372036854775807 by omega)];rfl
theorem qpD {n:Nat}{d:qf}{x:Int}(a:d.Aj.length≤1048576):qar n x 0 (W64 ((d.Aj.length:Int)-1))=V (netB d x):=by
 rw[qcB,qfg (show d.Aj.length≤9223372036854775807 by omega)];rfl
def hasNamesB (d:qf):Bool:=(decide (d.Ab.length≤14)&&(decide (d.Aj.length≤30)&&decide (d.Ah.length≤8)))&&(namesB (d.Ab.map qC.Bh)&&(namesB d.Aj&&namesB (d.Ah.map qav.Bh)))
theorem qq4 {d:qf}(h:qjC d):Ev (fun n=>qfi n d) (hasNamesB d):=by
 have i:=h.Ab.len;have l:=h.Ah.len;have b:Ev (fun n=>qbj d n ([]:List ByteArray) 0) (d.Ab.map qC.Bh,(d.Ab.length:Int)):=by
  refine loopF (Lf:=qbj d) (S:=fun j=>(d.Ab.take j).map qC.Bh) (len:=d.Ab.length) (fun n=>?_) (fun j a X f=>?_)
  ·simp only[qbj,qq (je _),cond_false,jC]
  ·simpa only[qbj,qn a,cond_true,qw a,jd,qkR a i,qf1 (g:=qC.Bh) a,wS j] using f
 have c:Ev (fun n=>qbs d n ([]:List ByteArray) 0) (d.Ah.map qav.Bh,(d.Ah.length:Int)):=by
  refine loopF (Lf:=qbs d) (S:=fun j=>(d.Ah.take j).map qav.Bh) (len:=d.Ah.length) (fun n=>?_) (fun j a X f=>?_)
  ·simp only[qbs,qq (je _),cond_false,jC]
  ·simpa only[qbs,qn a,cond_true,qw a,jd,qkR a l,qf1 (g:=qav.Bh) a,wS j] using f
 unfold qfi hasNamesB;refine Ev.bind b (Ev.bind c ?_);simp only[jx];rw[show decide ((d.Ab.length:Int)≤14)=decide (d.Ab.length≤14) from qmc (k:=14),show decide ((d.Aj.length:Int)≤30)=decide (d.Aj.length≤30) from qmc (k:=30),show decide ((d.Ah.length:Int)≤8)=decide (d.Ah.length≤8) from qmc (k:=8)];rw[Bool.and_assoc,Bool.and_assoc];exact Ev.andP fun _=>Ev.andP fun _=>Ev.andP fun _=>Ev.and (qi6 (qmn h.Ab (fun x m=>m.Bh))) fun _=>Ev.and (qi6 h.Aj) fun _=>Ev.last (qi6 (qmn h.Ah (fun x m=>m.Bh)))
def instB (l:qu)(d:qf)(x:qC):Bool:=inI x.Bt 0 ((l.Aq.length:Int)-1)&&(((x.Aj.length:Int)==((gt l.Aq x.Bt.toNat).Be.length:Int))&&x.Aj.all (netB d))
theorem qpx {d:qf}{l:qu}{x:qC}(g:d.Aj.length≤1048576)(h:l.Aq.length≤1048576)(a:x.Aj.length≤1048576):Ev (fun n=>qeb n d l x) (instB l d x):=by
 simp only[qeb,qgl,jd,qdL,qfg (show l.Aq.length≤9223372036854775807 by omega)];unfold instB;refine Ev.andP fun c=>?_;rw[qa5] at c;rw[qfM c.1 (by omega)];simp only[jd];refine Ev.andP fun _=>Ev.bind (b:=x.Aj.any fun y=>!netB d y) ?_ (Ev.now (by rw[qoB]));unfold qaU;exact Ev.bind (b:=ixL (fun y=>!netB d y) x.Aj) (qga (fin:=(x.Aj.length:Int)) (Lf:=qS x.Aj d) (pf:=fun n y=>qdv n y d) (fun y _=>⟨0,fun n _=>by simp only[qdv,qq8 g,jd]⟩)
   (fun n=>by simp only[qS,qq (je _),cond_false])
   (fun n j y a=>by
    have f:=(List.getElem?_eq_some_iff.1 a).1;simp only[qS,qn f,cond_true,qhd a,jd,wS j])
   (fun n=>by unfold qba;congr 1;funext o;cases o<;>rfl)) (Ev.now (by rw[qmK]))
def portB (d:qf)(p:qav):Bool:=inI p.Bv 1 2&&netB d p.Bz
theorem qvv {x:Int}:inI x 1 2=((x==1) || (x==2)):=by
 unfold inI;rw[jm];simp;omega
def lastN (x:qC):Int:=at0 x.Aj (x.Aj.length-1)
theorem qrx {x:qC}(a:1≤x.Aj.length)(b:x.Aj.length≤1048576):idx x.Aj (W64 ((x.Aj.length:Int)-1))=V (lastN x):=by
 rw[qfg (by omega),show((x.Aj.length:Int)-1)=((x.Aj.length-1:Nat):Int) by omega,qas (by omega)];rfl
theorem qti {d:qf}{x:qC}(a:1≤x.Aj.length)(h:x.Aj.all (netB d)=true):0≤lastN x∧lastN x<d.Aj.length:=by
 rw[qgE (d:=0),qaA] at h;have:=h (x.Aj.length-1) (by omega);unfold netB at this;rw[qa5] at this;unfold lastN at0;omega
theorem qo8 {l:qu}{d:qf}{x:qC}(a:libB l=true)(h:instB l d x=true):1≤x.Aj.length∧0≤lastN x∧lastN x<d.Aj.length:=by
 unfold instB at h;simp only[jf,qa5,beq_iff_eq] at h;obtain⟨g,i,f⟩:=h;unfold libB at a;simp only[jf] at a;have c:=a.1;rw[qiq,qaA] at c;have:=qgP (qiC (c x.Bt.toNat (by omega)));have b:1≤x.Aj.length:=by omega
 exact⟨b,qti b f⟩
def drvI (d:qf)(k j:Nat):Nat:=cntP (fun i=>lastN (gt d.Ab i)==(k:Int)) j
def drvP (d:qf)(k j:Nat):Nat:=cntP (fun i=>((gt d.Ah i).Bv==1)&&((gt d.Ah i).Bz==(k:Int))) j
def drvB (d:qf):Bool:=allN (fun k=>((drvI d k d.Ab.length+drvP d k d.Ah.length:Nat):Int)==1) d.Aj.length
def designB (l:qu)(d:qf):Bool:=(libB l&&hasNamesB d)&&(d.Ab.all (instB l d)&&(d.Ah.all (portB d)&&drvB d))
theorem qnt {d:qf}{k j:Nat}:drvI d k (j+1)=drvI d k j+(bif lastN (gt d.Ab j)==(k:Int) then 1 else 0):=rfl
theorem qmh {d:qf}{k j:Nat}:drvP d k (j+1)=drvP d k j+(bif ((gt d.Ah j).Bv==1)&&((gt d.Ah j).Bz==(k:Int)) then 1 else 0):=rfl
theorem qq6 {l:qu}{d:qf}(h:qgN l)(g:qjC d):Ev (fun n=>qiP n l d) (designB l d):=by
 have I:=g.Ab.len;have J:=g.Ah.len;have i:=g.Aj.len;have v:=h.Aq.len;unfold qiP designB;refine Ev.guardB (Ev.or (qqF h) fun _=>Ev.neg (qq4 g)) fun z=>?_;rw[jf] at z;rw[qmj (m:=d.Aj.length) (by omega)];simp only[jd];have t:Ev (fun n=>qds l d n (vecC (fun _=>0) d.Aj.length) 0) (bif allN (fun j=>instB l d (gt d.Ab j)) d.Ab.length then .nxt (vecC (fun k=>drvI d k d.Ab.length) d.Aj.length,(d.Ab.length:Int)) else .ret false):=by
  refine loopN (Lf:=qds l d) (S:=fun j=>vecC (fun k=>drvI d k j) d.Aj.length) (fun j=>instB l d (gt d.Ab j)) (fun n=>?_) (fun j a K X f=>?_)
  ·simp only[qds,qq (je _),cond_false]
  ·simp only[qds,qn a,cond_true,qw a,jd,wS j];have p:=(qlP g.Ab a).Aj.len;refine Ev.chk1 (qpx i v p) fun hi=>?_;obtain⟨r,B,C⟩:=qo8 z.1 hi;have L:drvI d (lastN (gt d.Ab j)).toNat j≤j:=qfY;obtain⟨e1,s⟩:=qkw (c:=fun k=>drvI d k j) (c':=fun k=>drvI d k (j+1)) B C (by show drvI _ _ _<_;omega) (fun k _=>qnt);simp only[qrx r p,jd,e1,s];exact f hi
 have u:Ev (fun n=>qcE d n (vecC (fun k=>drvI d k d.Ab.length) d.Aj.length) 0) (bif allN (fun j=>portB d (gt d.Ah j)) d.Ah.length then .nxt (vecC (fun k=>drvI d k d.Ab.length+drvP d k d.Ah.length) d.Aj.length,(d.Ah.length:Int)) else .ret false):=by
  refine loopN (Lf:=qcE d) (S:=fun j=>vecC (fun k=>drvI d k d.Ab.length+drvP d k j) d.Aj.length) (fun j=>portB d (gt d.Ah j)) (fun n=>?_) (fun j a K X f=>?_)
  ·simp only[qcE,qq (je _),cond_false]
  ·simp only[qcE,qn a,cond_true,qw a,jd,qq8 i,bne,wS j];refine Ev.chkT1 ?_ fun hi=>?_
   ·unfold portB;rw[qvv];cases ((gt d.Ah j).Bv==1)<;>cases ((gt d.Ah j).Bv==2)<;>exact .done
   ·have f:=f hi;unfold portB netB at hi;simp only[jf,qa5] at hi;have D:drvI d (gt d.Ah j).Bz.toNat d.Ab.length≤d.Ab.length:=qfY;have F:drvP d (gt d.Ah j).Bz.toNat j≤j:=qfY;cases r:((gt d.Ah j).Bv==1)
    ·have:vecC (fun k=>drvI d k d.Ab.length+drvP d k (j+1)) d.Aj.length=vecC (fun k=>drvI d k d.Ab.length+drvP d k j) d.Aj.length:=by
      refine qjP (fun k _=>?_);rw[qmh,r];rfl
     rw[this] at f;exact f
    ·obtain⟨e1,s⟩:=qkw (c:=fun k=>drvI d k d.Ab.length+drvP d k j) (c':=fun k=>drvI d k d.Ab.length+drvP d k (j+1)) (x:=(gt d.Ah j).Bz) (m:=d.Aj.length) hi.2.1 (by omega) (by show drvI _ _ _+drvP _ _ _<_;omega) (fun k _=>by rw[qmh,r,jz];omega);simp only[cond_true,jd,e1,s];exact f
 rw[qiq,qiq];refine Ev.bind t ?_;cases allN (fun j=>instB l d (gt d.Ab j)) d.Ab.length
 ·exact .done
 ·refine Ev.bind u ?_;cases allN (fun j=>portB d (gt d.Ah j)) d.Ah.length
  ·exact .done
  ·simp only[cond_true,jz];unfold qbS;refine Ev.bind (b:=(vecC (fun k=>drvI d k d.Ab.length+drvP d k d.Ah.length) d.Aj.length).any fun x=>!(x==1)) (Ev.bind (b:=ixL (fun x=>!(x==1)) (vecC (fun k=>drvI d k d.Ab.length+drvP d k d.Ah.length) d.Aj.length)) (qga (fin:=(((vecC (fun k=>drvI d k d.Ab.length+drvP d k d.Ah.length) d.Aj.length).length:Nat):Int)) (Lf:=qan (vecC (fun k=>drvI d k d.Ab.length+drvP d k d.Ah.length) d.Aj.length)) (pf:=fun n y=>qi7 n y) (fun y _=>.done)
    (fun n=>by simp only[qan,qq (je _),cond_false])
    (fun n j y A=>by
     have a:=(List.getElem?_eq_some_iff.1 A).1;have:j<d.Aj.length:=by rw[ql3] at a;exact a
     simp only[qan,qn a,cond_true,qhd A,jd,wS j])
    (fun n=>by unfold qcc;congr 1;funext o;cases o<;>rfl)) (Ev.now (by rw[qmK]))) (Ev.now ?_)
   rw[qoB,qgE (d:=0),ql3];unfold drvB
   congr 1
   exact qhH (fun k H=>by
    have:=qrt (c:=fun k=>drvI d k d.Ab.length+drvP d k d.Ah.length) H;unfold at0 at this;rw[this])
theorem qqZ {l:qu}{d:qf}(h:qgN l)(f:qjC d):Ev (fun n=>qiM n l d) (d.Ab.all (instB l d)&&d.Ah.all (portB d)):=by
 have r:=f.Ab.len;have s:=f.Ah.len;have c:=f.Aj.len;have p:=h.Aq.len;have i:∀ x:qC,x.Aj.length≤1048576→Ev (fun n=>qew d x n 0) (bif x.Aj.all (netB d) then .nxt (x.Aj.length:Int) else .ret false):=fun x t=>
  qmW (fun n=>by simp only[qew,qq (je _),cond_false]) (fun j a X b=>by
   simp only[qew,qn a,cond_true,qbe a,jd,qpD c,wS j,qdd];exact Ev.okP1 fun _=>b)
 have g:Ev (fun n=>qet l d n 0) (bif allN (fun j=>instB l d (gt d.Ab j)) d.Ab.length then .nxt (d.Ab.length:Int) else .ret false):=by
  refine qeA ?_ (fun j a X b=>Ev.succ ?_)
  ·exact Ev.succ (by simp only[qet,qq (je _),cond_false];exact .done)
  ·simp only[qet,qn a,cond_true,qw a,jd,qcB,qfg (show l.Aq.length≤9223372036854775807 by omega),wS j,bne];have m:=(qlP f.Ab a).Aj.len;unfold instB;rw[←Bool.and_assoc];refine Ev.chkT ?_ fun _=>Ev.bind (i _ m) ?_
   ·simp only[qdd];refine Ev.orBP fun o=>?_;rw[qa5] at o;rw[qfM o.1 (by omega)];exact .done
   ·cases (gt d.Ab j).Aj.all (netB d)
    ·exact .done
    ·exact b
 have k:Ev (fun n=>qeq d n 0) (bif allN (fun j=>portB d (gt d.Ah j)) d.Ah.length then .nxt (d.Ah.length:Int) else .ret false):=by
  refine qeA ?_ (fun j a X b=>Ev.succ ?_)
  ·exact Ev.succ (by simp only[qeq,qq (je _),cond_false];exact .done)
  ·simp only[qeq,qn a,cond_true,qw a,jd,qpD c,wS j];simp only[qcB,jd,qdd];unfold portB;exact Ev.okP fun _=>Ev.okP1 fun _=>b
 unfold qiM;rw[qiq,qiq];refine Ev.bind g ?_;cases allN (fun j=>instB l d (gt d.Ab j)) d.Ab.length
 ·exact .done
 ·refine Ev.bind k ?_;cases allN (fun j=>portB d (gt d.Ah j)) d.Ah.length<;>exact .done
theorem qqu {l:qu}{d:qf}(h:qgN l)(i:qjC d):Ev (fun n=>qiQ n l d) (designB l d):=by
 have J:=i.Ab.len;have K:=i.Ah.len;have W:=i.Aj.len;have T:=h.Aq.len;have e:designB l d=((libB l&&(decide (d.Ab.length≤14)&&(decide (d.Aj.length≤30)&&(decide (d.Ah.length≤8)&&(d.Ab.all (instB l d)&&d.Ah.all (portB d))))))&&((namesB (d.Ab.map qC.Bh)&&(namesB (d.Ah.map qav.Bh)&&namesB d.Aj))&&drvB d)):=by
  unfold designB hasNamesB;generalize libB l=a1;generalize decide (d.Ab.length≤14)=a2;generalize decide (d.Aj.length≤30)=a3;generalize decide (d.Ah.length≤8)=a4;generalize d.Ab.all (instB l d)=a5;generalize d.Ah.all (portB d)=a6;generalize namesB (d.Ab.map qC.Bh)=a7;generalize namesB (d.Ah.map qav.Bh)=a8;generalize namesB d.Aj=a9;generalize drvB d=a10;rw[jm];simp only[jf];constructor
  ·rintro⟨⟨f,⟨p,r,u⟩,z,B,A⟩,v,y,o⟩;exact⟨⟨f,p,r,u,v,y⟩,⟨z,A,B⟩,o⟩
  ·rintro⟨⟨f,p,r,u,v,y⟩,⟨z,A,B⟩,o⟩;exact⟨⟨f,⟨p,r,u⟩,z,B,A⟩,v,y,o⟩
 rw[e];unfold qiQ;refine Ev.guardB ?_ fun P=>?_
 ·refine Ev.or (qpr h) fun _=>?_;rw[show decide ((d.Ab.length:Int) > 14) = !decide (d.Ab.length≤14) by rw[jm];simp;omega,show decide ((d.Aj.length:Int) > 30) = !decide (d.Aj.length≤30) by rw[jm];simp;omega,show decide ((d.Ah.length:Int) > 8) = !decide (d.Ah.length≤8) by rw[jm];simp;omega];simp only[qdd];exact Ev.orBP fun _=>Ev.orBP fun _=>Ev.orBP fun _=>Ev.neg (qqZ h i)
 ·simp only[jf] at P;obtain⟨s,_,_,_,N,O⟩:=P;rw[qiq,qaA] at N O;have C:Ev (fun n=>qdn d n ([]:List ByteArray) 0) (d.Ab.map qC.Bh,(d.Ab.length:Int)):=by
   refine loopF (Lf:=qdn d) (S:=fun j=>(d.Ab.take j).map qC.Bh) (len:=d.Ab.length) (fun n=>?_) (fun j a X b=>?_)
   ·simp only[qdn,qq (je _),cond_false,jC]
   ·simpa only[qdn,qn a,cond_true,qw a,jd,qkR a J,qf1 (g:=qC.Bh) a,wS j] using b
  have D:Ev (fun n=>qdh d n ([]:List ByteArray) 0) (d.Ah.map qav.Bh,(d.Ah.length:Int)):=by
   refine loopF (Lf:=qdh d) (S:=fun j=>(d.Ah.take j).map qav.Bh) (len:=d.Ah.length) (fun n=>?_) (fun j a X b=>?_)
   ·simp only[qdh,qq (je _),cond_false,jC]
   ·simpa only[qdh,qn a,cond_true,qw a,jd,qkR a K,qf1 (g:=qav.Bh) a,wS j] using b
  have F:Ev (fun n=>qdq d n (vecC (fun _=>0) d.Aj.length) 0) (vecC (fun k=>drvI d k d.Ab.length) d.Aj.length,(d.Ab.length:Int)):=by
   refine loopF (Lf:=qdq d) (S:=fun j=>vecC (fun k=>drvI d k j) d.Aj.length) (len:=d.Ab.length) (fun n=>?_) (fun j a X b=>?_)
   ·simp only[qdq,qq (je _),cond_false]
   ·have M:=(qlP i.Ab a).Aj.len;obtain⟨f,p,r⟩:=qo8 s (N j a);have Y:drvI d (lastN (gt d.Ab j)).toNat j≤j:=qfY;obtain⟨e1,t⟩:=qkw (c:=fun k=>drvI d k j) (c':=fun k=>drvI d k (j+1)) p r (by show drvI _ _ _<_;omega) (fun k _=>qnt);simpa only[qdq,qn a,cond_true,qw a,jd,wS j,qrx f M,e1,t] using b
  have H:Ev (fun n=>qcD d n (vecC (fun k=>drvI d k d.Ab.length) d.Aj.length) 0) (vecC (fun k=>drvI d k d.Ab.length+drvP d k d.Ah.length) d.Aj.length,(d.Ah.length:Int)):=by
   refine loopF (Lf:=qcD d) (S:=fun j=>vecC (fun k=>drvI d k d.Ab.length+drvP d k j) d.Aj.length) (len:=d.Ah.length) (fun n=>?_) (fun j a X b=>?_)
   ·simp only[qcD,qq (je _),cond_false]
   ·have hi:=O j a;unfold portB netB at hi;simp only[jf,qa5] at hi;have Q:drvI d (gt d.Ah j).Bz.toNat d.Ab.length≤d.Ab.length:=qfY;have R:drvP d (gt d.Ah j).Bz.toNat j≤j:=qfY;simp only[qcD,qn a,cond_true,qw a,jd,wS j];cases f:((gt d.Ah j).Bv==1)
    ·have:vecC (fun k=>drvI d k d.Ab.length+drvP d k (j+1)) d.Aj.length=vecC (fun k=>drvI d k d.Ab.length+drvP d k j) d.Aj.length:=by
      refine qjP (fun k _=>?_);rw[qmh,f];rfl
     rw[this] at b;exact b
    ·obtain⟨e1,t⟩:=qkw (c:=fun k=>drvI d k d.Ab.length+drvP d k j) (c':=fun k=>drvI d k d.Ab.length+drvP d k (j+1)) (x:=(gt d.Ah j).Bz) (m:=d.Aj.length) hi.2.1 (by omega) (by show drvI _ _ _+drvP _ _ _<_;omega) (fun k _=>by rw[qmh,f,jz];omega);simp only[cond_true,jd,e1,t];exact b
  have I:Ev (fun n=>qev (vecC (fun _=>0) d.Aj.length) (vecC (fun k=>drvI d k d.Ab.length+drvP d k d.Ah.length) d.Aj.length) n 0) (bif drvB d then .nxt (d.Aj.length:Int) else .ret false):=by
   refine qeA ?_ (fun j a X b=>Ev.succ ?_)
   ·exact Ev.succ (by simp only[qev,ql3,qq (je _),cond_false];exact .done)
   ·simp only[qev,ql3,qn a,cond_true,qjK a,jd,bne,qdd,wS j];exact Ev.okP1 fun _=>b
  refine Ev.bind C (Ev.bind D ?_);refine Ev.guardB (Ev.or (qlH (qmn i.Ab (fun x L=>L.Bh))) fun _=>Ev.or (qlH (qmn i.Ah (fun x L=>L.Bh))) fun _=>Ev.neg (qlH i.Aj)) fun _=>?_;rw[qmj (m:=d.Aj.length) (by omega)];simp only[jd];refine Ev.bind F (Ev.bind H (Ev.bind I ?_));cases drvB d<;>exact .done

theorem qus {m k:Nat}:decide ((m:Int)<(k:Int)) = !decide (k≤m):=by rw[jm];simp
theorem quT {m k:Nat}:decide ((m:Int) > (k:Int)) = !decide (m≤k):=by rw[jm];simp
def treeB (w:qae)(j:Nat):Bool:=bif decide (j=0) then(at0 w.Ak j==-1)&&(at0 w.Bu j==0) else inI (at0 w.Ak j) 0 ((j:Int)-1)
def wireB (w:qae)(s:Int):Bool:=
 lenB w.Ak 1 8&&(((w.Bu.length:Int)==(w.Ak.length:Int))&&(((w.Bp.length:Int)==(w.Ak.length:Int))&&(allN (treeB w) w.Ak.length &&
  ((w.Bu.all fun x=>inI x 0 1000)&&((w.Bp.all fun x=>inI x 0 500)&&(((w.Bj.length:Int)==s)&&(w.Bj.all fun x=>inI x 0 ((w.Ak.length:Int)-1))))))))
theorem qsY {w:qae}(i:w.Ak.length≤1048576)(h:((w.Bu.length:Int)==(w.Ak.length:Int))=true):Ev (fun n=>qgW n w) (allN (treeB w) w.Ak.length):=by
 rw[beq_iff_eq] at h;have g:Ev (fun n=>qbg w n 0) (bif allN (treeB w) w.Ak.length then .nxt (w.Ak.length:Int) else .ret false):=by
  refine qeA ?_ (fun j b X a=>Ev.succ ?_)
  ·exact Ev.succ (by simp only[qbg,qq (je _),cond_false];exact .done)
  ·simp only[qbg,qn b,cond_true,qas b,jd,qdL,wS j,bne,qdd];unfold treeB;by_cases f:j=0
   ·subst f;rw[show idx w.Bu (0:Int)=V (at0 w.Bu 0) from qas (j:=0) (by omega)];simp only[jd];refine Ev.tt (by simp) (Ev.okP fun _=>Ev.okP1 fun _=>Ev.ff (by simp) a)
   ·have e1:decide (j=0)=false:=by simp;omega
    have c:((j:Int)==0)=false:=by simp;omega
    have d:decide ((j:Int) > 0)=true:=by simp;omega
    rw[e1,c,d,qfg (show j≤9223372036854775807 by omega)];simp only[cond_false,cond_true];exact Ev.okP1 fun _=>a
 unfold qgW;refine Ev.bind g ?_;cases allN (treeB w) w.Ak.length<;>exact .done
theorem qsP {w:qae}{s:Int}(h:qnc w):Ev (fun n=>qj9 n w s) (wireB w s):=by
 have a:=h.Ak.len;simp only[qj9,qbu,jd,qdL,qfg (show w.Ak.length≤9223372036854775807 by omega)];unfold wireB;rw[show inI (w.Ak.length:Int) 1 8=lenB w.Ak 1 8 from qqH (lo:=1) (hi:=8)];exact Ev.andP fun _=>Ev.andP fun b=>Ev.andP fun _=>Ev.and (qsY a b) fun _=>Ev.and (qfk h.Bu.len) fun _=>Ev.and (qfk h.Bp.len) fun _=>Ev.andP fun _=>Ev.last (qfk h.Bj.len)
theorem qrS {w:qae}{s:Int}(h:qnc w):Ev (fun n=>qka n w s) (wireB w s):=by
 have r:=h.Ak.len;have o:=h.Bj.len;have e:wireB w s=((decide (1≤w.Ak.length)&&(decide (w.Ak.length≤8)&&(((w.Bu.length:Int)==(w.Ak.length:Int))&&(((w.Bp.length:Int)==(w.Ak.length:Int))&&((w.Bj.length:Int)==s)))))&&(allN (fun j=>(inI (at0 w.Bp j) 0 500&&inI (at0 w.Bu j) 0 1000)&&treeB w j) w.Ak.length&&(w.Bj.all fun x=>inI x 0 ((w.Ak.length:Int)-1)))):=by
  unfold wireB lenB;cases h1:((w.Bu.length:Int)==(w.Ak.length:Int))
  ·simp
  ·cases h2:((w.Bp.length:Int)==(w.Ak.length:Int))
   ·simp
   ·rw[beq_iff_eq] at h1 h2;rw[qkK,qkK];rw[qgE (p:=fun x=>inI x 0 1000) (d:=0),qgE (p:=fun x=>inI x 0 500) (d:=0),show w.Bu.length=w.Ak.length by omega,show w.Bp.length=w.Ak.length by omega];show _=(_&&((allN (fun j=>inI (w.Bp.getD j 0) 0 500) _&&allN (fun j=>inI (w.Bu.getD j 0) 0 1000) _&&_)&&_));generalize allN (fun j=>inI (w.Bp.getD j 0) 0 500) w.Ak.length=a1;generalize allN (fun j=>inI (w.Bu.getD j 0) 0 1000) w.Ak.length=a2;generalize allN (fun j=>treeB w j) w.Ak.length=a3;generalize ((w.Bj.length:Int)==s)=a4;generalize decide (1≤w.Ak.length)=a5;generalize decide (w.Ak.length≤8)=a6;generalize (w.Bj.all fun x=>inI x 0 ((w.Ak.length:Int)-1))=a7;cases a1<;>cases a2<;>cases a3<;>cases a4<;>cases a5<;>cases a6<;>rfl
 rw[e];unfold qka;refine Ev.guardB ?_ fun m=>?_
 ·rw[show decide ((w.Ak.length:Int)<1) = !decide (1≤w.Ak.length) from qus (k:=1),show decide ((w.Ak.length:Int) > 8) = !decide (w.Ak.length≤8) from quT (k:=8)];simp only[bne,qdd];exact Ev.orBP fun _=>Ev.orBP fun _=>Ev.orBP fun _=>Ev.orBP fun _=>.done
 ·simp only[jf,beq_iff_eq] at m;have c:Ev (fun n=>qcO w n 0) (bif allN (fun j=>(inI (at0 w.Bp j) 0 500&&inI (at0 w.Bu j) 0 1000)&&treeB w j) w.Ak.length then .nxt (w.Ak.length:Int) else .ret false):=by
   refine qeA ?_ (fun j a X b=>Ev.succ ?_)
   ·exact Ev.succ (by simp only[qcO,qq (je _),cond_false];exact .done)
   ·simp only[qcO,qn a,cond_true,qas a,qas (show j<w.Bp.length by omega),qas (show j<w.Bu.length by omega),jd,qcB,wS j,bne,qdd];refine Ev.chkT (Ev.orBP fun _=>.done) fun _=>?_;unfold treeB;by_cases l:j=0
    ·subst l;refine Ev.tt (by simp) (Ev.okP fun _=>Ev.okP1 fun _=>Ev.ff (by simp) b)
    ·have e1:decide (j=0)=false:=by simp;omega
     have g:((j:Int)==0)=false:=by simp;omega
     have i:decide ((j:Int) > 0)=true:=by simp;omega
     rw[e1,g,i,qfg (show j≤9223372036854775807 by omega)];simp only[cond_false,cond_true];exact Ev.okP1 fun _=>b
  have f:Ev (fun n=>qfL w n 0) (bif (w.Bj.all fun x=>inI x 0 ((w.Ak.length:Int)-1)) then .nxt (w.Bj.length:Int) else .ret false):=
   qmW (fun n=>by simp only[qfL,qq (je _),cond_false]) (fun j a X b=>by
    simp only[qfL,qn a,cond_true,qbe a,jd,qcB,qfg (show w.Ak.length≤9223372036854775807 by omega),wS j,qdd];exact Ev.okP1 fun _=>b)
  refine Ev.bind c ?_;cases allN (fun j=>(inI (at0 w.Bp j) 0 500&&inI (at0 w.Bu j) 0 1000)&&treeB w j) w.Ak.length
  ·exact .done
  ·refine Ev.bind f ?_;cases (w.Bj.all fun x=>inI x 0 ((w.Ak.length:Int)-1))<;>exact .done
instance:Inhabited Tplace:=⟨⟨0,0,0,false⟩⟩
instance:Inhabited Tl05Place:=⟨⟨0,0,0,false⟩⟩
def toSp (p:Tplace):Tl05Place:=⟨p.instance_,p.pin,p.net,p.drives⟩
def plX (i:Nat)(x:qC)(j:Nat):List Tplace:=(List.range j).map fun(k:Nat)=>⟨(i:Int),(k:Int),at0 x.Aj k,decide (k+1=x.Aj.length)⟩
def plI (d:qf)(j:Nat):List Tplace:=(List.range j).flatMap fun(i:Nat)=>plX i (gt d.Ab i) (gt d.Ab i).Aj.length
def plP (d:qf)(j:Nat):List Tplace:=(List.range j).map fun(i:Nat)=>⟨-1,(i:Int),(gt d.Ah i).Bz,(gt d.Ah i).Bv==1⟩
def places (d:qf):List Tplace:=plI d d.Ab.length++plP d d.Ah.length
theorem qqS {i:Nat}{x:qC}{j:Nat}:plX i x (j+1)=plX i x j++[⟨(i:Int),(j:Int),at0 x.Aj j,decide (j+1=x.Aj.length)⟩]:=by
 unfold plX;rw[List.range_succ,jU];rfl
theorem qlB {d:qf}{j:Nat}:plI d (j+1)=plI d j++plX j (gt d.Ab j) (gt d.Ab j).Aj.length:=by
 unfold plI;rw[List.range_succ,List.flatMap_append];simp
theorem qrm {d:qf}{j:Nat}:plP d (j+1)=plP d j++[⟨-1,(j:Int),(gt d.Ah j).Bz,(gt d.Ah j).Bv==1⟩]:=by
 unfold plP;rw[List.range_succ,jU];rfl
theorem qov {i:Nat}{x:qC}{j:Nat}:(plX i x j).length=j:=by simp[plX]
theorem qoC {d:qf}{j:Nat}:(plP d j).length=j:=by simp[plP]
structure smallD (d:qf):Prop where
 ni:d.Ab.length≤14
 nn:d.Aj.length≤30
 np:d.Ah.length≤8
 nx:∀ i,i<d.Ab.length→2≤(gt d.Ab i).Aj.length∧(gt d.Ab i).Aj.length≤5
theorem qW {l:qu}{d:qf}(h:designB l d=true):smallD d:=by
 unfold designB hasNamesB libB at h;simp only[jf,decide_eq_true_eq] at h;obtain⟨⟨⟨b,_⟩,⟨c,f,g⟩,_⟩,a,_⟩:=h;refine⟨c,f,g,fun i hi=>?_⟩;rw[qiq,qaA] at a b;have:=a i hi;unfold instB at this;simp only[jf,qa5,beq_iff_eq] at this;have k:=qgP (qiC (b (gt d.Ab i).Bt.toNat (by omega)));omega
theorem qm9 {d:qf}(h:smallD d){j:Nat}(a:j≤d.Ab.length):(plI d j).length≤5*j:=by
 induction j with
 | zero=>exact je _
 | succ j ih=>
  rw[qlB,jg,qov];have:=ih (by omega);have:=h.nx j (by omega);omega
theorem qaE {d:qf}(h:smallD d):(places d).length≤78:=by
 unfold places;rw[jg,qoC];have:=qm9 h (je _);have:=h.ni;have:=h.np;omega
theorem qmf {d:qf}(h:smallD d):Ev (fun n=>qcu n d) (places d):=by
 have l:=h.ni;have m:=h.np;have f:∀ i,i<d.Ab.length→∀ pre:List Tplace,pre.length≤100→Ev (fun n=>qbN (i:Int) (gt d.Ab i) n pre 0) (pre++plX i (gt d.Ab i) (gt d.Ab i).Aj.length,((gt d.Ab i).Aj.length:Int)):=by
  intro i hi pre p;have o:=h.nx i hi;have:=loopF (Lf:=qbN (i:Int) (gt d.Ab i)) (S:=fun j=>pre++plX i (gt d.Ab i) j) (len:=(gt d.Ab i).Aj.length) (fin:=(pre++plX i (gt d.Ab i) (gt d.Ab i).Aj.length,((gt d.Ab i).Aj.length:Int))) (fun n=>by
    simp only[qbN,qq (je _),cond_false])
   (fun j a X b=>by
    have k:(pre++plX i (gt d.Ab i) j).length+[(⟨(i:Int),(j:Int),at0 (gt d.Ab i).Aj j,decide (j+1=(gt d.Ab i).Aj.length)⟩:Tplace)].length≤2147483648:=by
     rw[jg,qov];simp;omega
    simp only[qbN,qn a,cond_true,qas a,jd,lastE a (show(gt d.Ab i).Aj.length≤1048576 by omega),qcI k,jt,←qqS,wS j];exact b)
  simpa [plX] using this
 have c:Ev (fun n=>qbO d n ([]:List Tplace) 0) (plI d d.Ab.length,(d.Ab.length:Int)):=by
  refine loopF (Lf:=qbO d) (S:=fun j=>plI d j) (len:=d.Ab.length) (fun n=>?_) (fun j a X b=>?_)
  ·simp only[qbO,qq (je _),cond_false]
  ·simp only[qbO,qn a,cond_true,qw a,jd,wS j];refine Ev.bind (f j a _ (by have:=qm9 h (Nat.le_of_lt a);omega)) ?_;rw[←qlB];exact b
 have g:Ev (fun n=>qbP d n (plI d d.Ab.length) 0) (places d,(d.Ah.length:Int)):=by
  have:=loopF (Lf:=qbP d) (S:=fun j=>plI d d.Ab.length++plP d j) (len:=d.Ah.length) (fin:=(places d,(d.Ah.length:Int))) (fun n=>by
    simp only[qbP,qq (je _),cond_false];rfl)
   (fun j a X b=>by
    have k:(plI d d.Ab.length++plP d j).length+[(⟨-1,(j:Int),(gt d.Ah j).Bz,(gt d.Ah j).Bv==1⟩:Tplace)].length≤2147483648:=by
     rw[jg,qoC];have:=qm9 h (je _);simp;omega
    simp only[qbP,qn a,cond_true,qw a,jd,qcI k,jt,←qrm,wS j];exact b)
  simpa [plP] using this
 unfold qcu;exact Ev.bind c (Ev.bind g .done)
theorem qf3 {d:qf}(h:smallD d):Ev (fun n=>qbZ n d) ((places d).map toSp):=by
 have l:=h.ni;have m:=h.np;have f:∀ i,i<d.Ab.length→∀ pre:List Tplace,pre.length≤100→Ev (fun n=>qcS (i:Int) (gt d.Ab i) n (pre.map toSp) 0) ((pre++plX i (gt d.Ab i) (gt d.Ab i).Aj.length).map toSp,((gt d.Ab i).Aj.length:Int)):=by
  intro i hi pre p;have o:=h.nx i hi;have:=loopF (Lf:=qcS (i:Int) (gt d.Ab i)) (S:=fun j=>(pre++plX i (gt d.Ab i) j).map toSp) (len:=(gt d.Ab i).Aj.length) (fin:=((pre++plX i (gt d.Ab i) (gt d.Ab i).Aj.length).map toSp,((gt d.Ab i).Aj.length:Int))) (fun n=>by
    simp only[qcS,qq (je _),cond_false])
   (fun j a X b=>by
    have k:((pre++plX i (gt d.Ab i) j).map toSp).length+[(⟨(i:Int),(j:Int),at0 (gt d.Ab i).Aj j,decide (j+1=(gt d.Ab i).Aj.length)⟩:Tl05Place)].length≤2147483648:=by
     rw[jx,jg,qov];simp;omega
    simp only[qcS,qn a,cond_true,qas a,jd,lastE a (show(gt d.Ab i).Aj.length≤1048576 by omega),qcI k,wS j];rw[qqS,←jt,jU] at b;exact b)
  simpa [plX] using this
 have c:Ev (fun n=>qcP d n ([]:List Tl05Place) 0) ((plI d d.Ab.length).map toSp,(d.Ab.length:Int)):=by
  refine loopF (Lf:=qcP d) (S:=fun j=>(plI d j).map toSp) (len:=d.Ab.length) (fun n=>?_) (fun j a X b=>?_)
  ·simp only[qcP,qq (je _),cond_false]
  ·simp only[qcP,qn a,cond_true,qw a,jd,wS j];refine Ev.bind (f j a _ (by have:=qm9 h (Nat.le_of_lt a);omega)) ?_;rw[←qlB];exact b
 have g:Ev (fun n=>qcM d n ((plI d d.Ab.length).map toSp) 0) ((places d).map toSp,(d.Ah.length:Int)):=by
  have:=loopF (Lf:=qcM d) (S:=fun j=>(plI d d.Ab.length++plP d j).map toSp) (len:=d.Ah.length) (fin:=((places d).map toSp,(d.Ah.length:Int))) (fun n=>by
    simp only[qcM,qq (je _),cond_false];rfl)
   (fun j a X b=>by
    have k:((plI d d.Ab.length++plP d j).map toSp).length+[(⟨-1,(j:Int),(gt d.Ah j).Bz,(gt d.Ah j).Bv==1⟩:Tl05Place)].length≤2147483648:=by
     rw[jx,jg,qoC];have:=qm9 h (je _);simp;omega
    simp only[qcM,qn a,cond_true,qw a,jd,qcI k,wS j];rw[qrm,←jt,jU] at b;exact b)
  simpa [plP] using this
 unfold qbZ;exact Ev.bind c (Ev.bind g .done)
def snkQ (d:qf)(k:Int)(i:Nat):Bool:=((gt (places d) i).net==k)&&!(gt (places d) i).drives
def sinksL (d:qf)(k:Int)(j:Nat):List Int:=((List.range j).filter (snkQ d k)).map fun(i:Nat)=>(i:Int)
def snkN (d:qf)(k:Int):Nat:=cntP (snkQ d k) (places d).length
theorem qiY {d:qf}{k:Int}{j:Nat}:sinksL d k (j+1)=sinksL d k j++(bif snkQ d k j then[(j:Int)] else[]):=by
 unfold sinksL;rw[List.range_succ,List.filter_append,jU]
 congr 1
 cases h:snkQ d k j<;>simp[h]
theorem qiF {d:qf}{k:Int}{j:Nat}:(sinksL d k j).length=cntP (snkQ d k) j:=by
 induction j with
 | zero=>rfl
 | succ j ih=>
  rw[qiY,jg,ih];show _=cntP (snkQ d k) j+_
  congr 1
  cases snkQ d k j<;>rfl
theorem qnR {α β:Type}[Inhabited α][Inhabited β]{xs:List α}{g:α→β}{j:Nat}(h:j<xs.length):gt (xs.map g) j=g (gt xs j):=by
 rw[qef (by simpa using h),qef h];simp
theorem qkl {d:qf}{k:Int}(h:smallD d):Ev (fun n=>qfn n d k) (sinksL d k (places d).length):=by
 have l:=qaE h;have g:Ev (fun n=>qcH k ((places d).map toSp) n ([]:List Int) 0) (sinksL d k (places d).length,((places d).length:Int)):=by
  refine loopF (Lf:=qcH k ((places d).map toSp)) (S:=fun j=>sinksL d k j) (len:=(places d).length) (fun n=>?_) (fun j f X a=>?_)
  ·simp only[qcH,jx,qq (je _),cond_false]
  ·have c:j<((places d).map toSp).length:=by simpa using f
   have i:(sinksL d k j).length+[(j:Int)].length≤2147483648:=by
    rw[qiF];have:cntP (snkQ d k) j≤j:=qfY;simp;omega
   simp only[qcH,qn c,cond_true,qw c,qnR f,jd,wS j];rw[show ∀ p:Tplace,(toSp p).net=p.net from fun _=>rfl,show ∀ p:Tplace,(toSp p).drives=p.drives from fun _=>rfl];refine Ev.bind (b:=snkQ d k j) (Ev.andP fun _=>.done) ?_;rw[qiY] at a;cases hq:snkQ d k j
   ·rw[hq] at a;simp only[cond_false,Jc] at a ⊢;exact a
   ·rw[hq] at a;simp only[cond_true,qcI i,jd] at a ⊢;exact a
 unfold qfn;exact Ev.bind (qf3 h) (Ev.bind g .done)
theorem qkW {l:qu}{d:qf}(h:designB l d=true){i:Nat}(hi:i<(places d).length):0≤(gt (places d) i).net∧(gt (places d) i).net<d.Aj.length:=by
 unfold designB at h;simp only[jf] at h;obtain⟨_,f,g,_⟩:=h;rw[qiq,qaA] at f g;have a:gt (places d) i ∈ places d:=by rw[qef hi];exact jo hi
 generalize gt (places d) i=p at a;unfold places at a;rcases List.mem_append.1 a with a|a
 ·unfold plI at a;obtain⟨i,hi,a⟩:=List.mem_flatMap.1 a;unfold plX at a;obtain⟨k,m,rfl⟩:=List.mem_map.1 a;have:=f i (List.mem_range.1 hi);unfold instB at this;simp only[jf] at this;have b:=this.2.2;rw[qgE (d:=0),qaA] at b;have c:=b k (List.mem_range.1 m);unfold netB at c;rw[qa5] at c;show 0≤at0 _ _∧at0 _ _<_;unfold at0;omega
 ·unfold plP at a;obtain⟨i,hi,rfl⟩:=List.mem_map.1 a;have:=g i (List.mem_range.1 hi);unfold portB netB at this;simp only[jf,qa5] at this;show 0≤(gt d.Ah i).Bz∧(gt d.Ah i).Bz<_;omega
def blockB (b:qe):Bool:=(designB b.Ap b.Aa&&((b.Af.length:Int)==(b.Aa.Aj.length:Int)))&&allN (fun j=>wireB (gt b.Af j) (snkN b.Aa (j:Int))) b.Af.length
theorem qrD {b:qe}(h:qil b):Ev (fun n=>qhZ n b) (blockB b):=by
 have r:=h.Af.len;unfold qhZ blockB;refine Ev.guardB (Ev.or (qq6 h.Ap h.Aa) fun _=>.done) fun l=>?_;rw[jf,beq_iff_eq] at l;obtain⟨o,y⟩:=l;have i:=qW o;have u:=qaE i;have v:=i.nn;rw[qmj (m:=b.Af.length) (by omega)];simp only[jd];have f:Ev (fun n=>qc3 (places b.Aa) n (vecC (fun _=>0) b.Af.length) 0) (vecC (fun k=>snkN b.Aa (k:Int)) b.Af.length,((places b.Aa).length:Int)):=by
  refine loopF (Lf:=qc3 (places b.Aa)) (S:=fun j=>vecC (fun k=>cntP (snkQ b.Aa (k:Int)) j) b.Af.length) (len:=(places b.Aa).length) (fun n=>?_) (fun j a X d=>?_)
  ·simp only[qc3,qq (je _),cond_false];rfl
  ·simp only[qc3,qn a,cond_true,qw a,jd,wS j];obtain⟨s,n1⟩:=qkW o a;cases h1:(gt (places b.Aa) j).drives
   ·have t:cntP (snkQ b.Aa (((gt (places b.Aa) j).net.toNat:Nat):Int)) j≤j:=qfY;obtain⟨e1,p⟩:=qkw (c:=fun k=>cntP (snkQ b.Aa (k:Int)) j) (c':=fun k=>cntP (snkQ b.Aa (k:Int)) (j+1)) (x:=(gt (places b.Aa) j).net) (m:=b.Af.length) s (by omega) (by show cntP _ _<_;omega) (fun k _=>by
     show cntP _ j+(bif snkQ b.Aa (k:Int) j then 1 else 0)=_;unfold snkQ;rw[h1,Bool.not_false,Bool.and_true])
    simp only[Bool.not_false,cond_true,jd,e1,p];exact d
   ·have:vecC (fun k=>cntP (snkQ b.Aa (k:Int)) (j+1)) b.Af.length=vecC (fun k=>cntP (snkQ b.Aa (k:Int)) j) b.Af.length:=by
     refine qjP (fun k _=>?_);show cntP _ j+(bif snkQ b.Aa (k:Int) j then 1 else 0)=_;unfold snkQ;rw[h1,Ji,Bool.and_false];rfl
    rw[this] at d;exact d
 have g:Ev (fun n=>qe0 b (vecC (fun k=>snkN b.Aa (k:Int)) b.Af.length) n 0) (bif allN (fun j=>wireB (gt b.Af j) (snkN b.Aa (j:Int))) b.Af.length then .nxt (b.Af.length:Int) else .ret false):=by
  refine qeA ?_ (fun j a X d=>Ev.succ ?_)
  ·exact Ev.succ (by simp only[qe0,qq (je _),cond_false];exact .done)
  ·simp only[qe0,qn a,cond_true,qw a,qjK a,jd,wS j];exact Ev.chk1 (qsP (qlP h.Af a)) fun _=>d
 refine Ev.bind (qmf i) (Ev.bind f (Ev.bind g ?_));cases allN (fun j=>wireB (gt b.Af j) (snkN b.Aa (j:Int))) b.Af.length<;>exact .done
theorem qhM {b:qe}(h:qil b):Ev (fun n=>qdx n b) (blockB b):=by
 have i:=h.Af.len;unfold qdx blockB;refine Ev.guardB (Ev.or (qqu h.Ap h.Aa) fun _=>.done) fun c=>?_;rw[jf] at c;have g:=qW c.1;have d:Ev (fun n=>qeW b n 0) (bif allN (fun j=>wireB (gt b.Af j) (snkN b.Aa (j:Int))) b.Af.length then .nxt (b.Af.length:Int) else .ret false):=by
  refine qeA ?_ (fun j a X f=>Ev.succ ?_)
  ·exact Ev.succ (by simp only[qeW,qq (je _),cond_false];exact .done)
  ·simp only[qeW,qn a,cond_true,qw a,jd,wS j];refine Ev.bind (qkl g) ?_;rw[qiF];exact Ev.chk1 (qrS (qlP h.Af a)) fun _=>f
 refine Ev.bind d ?_;cases allN (fun j=>wireB (gt b.Af j) (snkN b.Aa (j:Int))) b.Af.length<;>exact .done

def off (d:qf)(i:Nat):Nat:=(plI d i).length
def place1 (d:qf)(i k:Nat):Tplace:=⟨(i:Int),(k:Int),at0 (gt d.Ab i).Aj k,decide (k+1=(gt d.Ab i).Aj.length)⟩
def place2 (d:qf)(i:Nat):Tplace:=⟨-1,(i:Int),(gt d.Ah i).Bz,(gt d.Ah i).Bv==1⟩
theorem qjM {d:qf}{i:Nat}:off d (i+1)=off d i+(gt d.Ab i).Aj.length:=by
 unfold off;rw[qlB,jg,qov]
theorem qr2 {d:qf}{i j:Nat}(h:i≤j):off d i≤off d j:=by
 induction j with
 | zero=>
  obtain rfl:i=0:=by omega
  exact je _
 | succ j ih=>
  rcases Nat.lt_or_eq_of_le h with h|rfl
  ·rw[qjM];have:=ih (by omega);omega
  ·exact je _
theorem qgM {d:qf}:(places d).length=off d d.Ab.length+d.Ah.length:=by
 unfold places off;rw[jg,qoC]
theorem qvM {d:qf}{n i k:Nat}(hi:i<n)(c:k<(gt d.Ab i).Aj.length):off d i+k<off d n∧gt (plI d n) (off d i+k)=place1 d i k:=by
 induction n with
 | zero=>omega
 | succ n ih=>
  rw[qlB,qkB];rcases Nat.lt_succ_iff_lt_or_eq.1 hi with h|rfl
  ·obtain⟨a,b⟩:=ih h;refine⟨by rw[qjM];omega,?_⟩;rw[if_pos (show off d i+k<(plI d n).length from a),b]
  ·refine⟨by rw[qjM];omega,?_⟩;rw[if_neg (by unfold off;omega),show off d i+k-(plI d i).length=k by unfold off;omega];exact qoO c
theorem qjx {d:qf}{i k:Nat}(hi:i<d.Ab.length)(c:k<(gt d.Ab i).Aj.length):off d i+k<(places d).length∧gt (places d) (off d i+k)=place1 d i k:=by
 obtain⟨a,b⟩:=qvM hi c;refine⟨by rw[qgM];omega,?_⟩;unfold places;rw[qkB,if_pos (show off d i+k<(plI d d.Ab.length).length from a),b]
theorem qp4 {d:qf}{i:Nat}(hi:i<d.Ah.length):off d d.Ab.length+i<(places d).length∧gt (places d) (off d d.Ab.length+i)=place2 d i:=by
 refine⟨by rw[qgM];omega,?_⟩;unfold places;rw[qkB,if_neg (by unfold off;omega),show off d d.Ab.length+i-(plI d d.Ab.length).length=i by unfold off;omega];exact qoO hi
theorem qs9 {d:qf}{n j:Nat}(a:j<off d n):∃ i k,i<n∧k<(gt d.Ab i).Aj.length∧j=off d i+k:=by
 induction n with
 | zero=>exact absurd a (Nat.not_lt_zero _)
 | succ n ih=>
  by_cases h:j<off d n
  ·obtain⟨i,k,f,b,c⟩:=ih h;exact⟨i,k,by omega,b,c⟩
  ·rw[qjM] at a;exact⟨n,j-off d n,by omega,by omega,by omega⟩
theorem qkn {d:qf}{j:Nat}(c:j<(places d).length) :
  (∃ i k,i<d.Ab.length∧k<(gt d.Ab i).Aj.length∧j=off d i+k∧gt (places d) j=place1 d i k) ∨
  (∃ i,i<d.Ah.length∧j=off d d.Ab.length+i∧gt (places d) j=place2 d i):=by
 rw[qgM] at c;by_cases h:j<off d d.Ab.length
 ·obtain⟨i,k,a,b,rfl⟩:=qs9 h;exact .inl ⟨i,k,a,b,rfl,(qjx a b).2⟩
 ·refine .inr ⟨j-off d d.Ab.length,by omega,by omega,?_⟩;have:=(qp4 (d:=d) (i:=j-off d d.Ab.length) (by omega)).2;rwa [show off d d.Ab.length+(j-off d d.Ab.length)=j by omega] at this
def drvQ (d:qf)(k:Int)(j:Nat):Bool:=((gt (places d) j).net==k)&&(gt (places d) j).drives
theorem qqP {q:Nat→Bool}{m n:Nat}:cntP q (m+n)=cntP q m+cntP (fun j=>q (m+j)) n:=by
 induction n with
 | zero=>rfl
 | succ n ih=>
  show cntP q (m+n)+(bif q (m+n) then 1 else 0)=cntP q m+(cntP (fun j=>q (m+j)) n+(bif q (m+n) then 1 else 0));rw[ih];omega
theorem qtb {q:Nat→Bool}{n:Nat}{b:Bool}(h:1≤n)(a:∀ j,j+1<n→q j=false)(c:q (n-1)=b):cntP q n=bif b then 1 else 0:=by
 obtain⟨m,rfl⟩:∃ m,n=m+1:=⟨n-1,by omega⟩;show cntP q m+(bif q m then 1 else 0)=_;rw[qmo.2 (fun j d=>a j (by omega)),show m=m+1-1 by omega,c,Jg]
theorem qrZ {d:qf}{k:Nat}(b:smallD d):cntP (drvQ d (k:Int)) (places d).length=drvI d k d.Ab.length+drvP d k d.Ah.length:=by
 rw[qgM,qqP]
 congr 1
 ·have:∀ n,n≤d.Ab.length→cntP (drvQ d (k:Int)) (off d n)=drvI d k n:=by
   intro n
   induction n with
   | zero=>intro _;rfl
   | succ n ih=>
    intro f;rw[qjM,qqP,ih (by omega),qnt]
    congr 1
    have c:=(b.nx n (by omega)).1;refine qtb (by omega) (fun j a=>?_) ?_
    ·show drvQ d _ (off d n+j)=false;unfold drvQ;rw[(qjx (by omega) (by omega)).2];unfold place1;simp;omega
    ·show drvQ d _ (off d n+_)=_;unfold drvQ;rw[(qjx (by omega) (by omega)).2];unfold place1 lastN;simp;omega
  exact this _ (je _)
 ·refine qoX (fun j a=>?_);show drvQ d _ (off d _+j)=_;unfold drvQ;rw[(qp4 a).2];unfold place2;exact Bool.and_comm _ _
theorem qsk {l:qu}{d:qf}(h:designB l d=true){k:Nat}(a:k<d.Aj.length):cntP (drvQ d (k:Int)) (places d).length=1:=by
 rw[qrZ (qW h)];unfold designB drvB at h;simp only[jf] at h;have:=qaA.1 h.2.2.2 k a;rw[beq_iff_eq] at this;omega
theorem qrk {l:qu}{d:qf}(h:designB l d=true){i j:Nat}(hi:i<(places d).length)(f:j<(places d).length)(c:(gt (places d) i).net=(gt (places d) j).net)(a:(gt (places d) i).drives=true)(b:(gt (places d) j).drives=true):i=j:=by
 obtain⟨g,n1⟩:=qkW h hi;have e:=qeO g;have:=qsk h (k:=(gt (places d) i).net.toNat) (by omega);refine qrf (Nat.le_of_eq this) hi f ?_ ?_
 ·unfold drvQ;rw[←e,a];simp
 ·unfold drvQ;rw[←e,b,c];simp
theorem qvT {l:qu}{d:qf}(h:designB l d=true){k:Int}(c:0≤k)(g:k<d.Aj.length):∃ j,j<(places d).length∧(gt (places d) j).net=k∧(gt (places d) j).drives=true:=by
 have e:=qeO c;have:=qsk h (k:=k.toNat) (by omega);have b:decide (0<cntP (drvQ d ((k.toNat:Nat):Int)) (places d).length)=true:=by rw[this];rfl
 rw[qqT,jF,qk0] at b;obtain⟨j,f,a⟩:=b;rw[Bool.not_eq_false',←e] at a;unfold drvQ at a;simp only[jf,beq_iff_eq] at a;exact⟨j,f,a.1,a.2⟩
def cellAt (b:qe)(i:Int):qE:=gt b.Ap.Aq (gt b.Aa.Ab i.toNat).Bt.toNat
theorem qha {l:qu}{d:qf}(h:designB l d=true){i:Nat}(hi:i<d.Ab.length) :
  (0≤(gt d.Ab i).Bt∧(gt d.Ab i).Bt<l.Aq.length)∧(gt d.Ab i).Aj.length=(gt l.Aq (gt d.Ab i).Bt.toNat).Be.length∧cellB (gt l.Aq (gt d.Ab i).Bt.toNat)=true:=by
 unfold designB libB at h;simp only[jf] at h;obtain⟨⟨⟨b,_⟩,_⟩,a,_⟩:=h;rw[qiq,qaA] at a b;have:=a i hi;unfold instB at this;simp only[jf,qa5,beq_iff_eq] at this;exact⟨⟨this.1.1,by omega⟩,by omega,b _ (by omega)⟩
theorem ql5 {c:qE}(h:cellB c=true){j:Nat}(f:j<c.Au.length):(1≤(gt c.Au j).Bc∧(gt c.Au j).Bc≤5)∧(0≤(gt c.Au j).Bk∧(gt c.Au j).Bk<(c.Be.length:Int)-1)∧(0≤(gt c.Au j).To∧(gt c.Au j).To≤(c.Be.length:Int)-1)∧arcS c.Be (gt c.Au j)=true:=by
 unfold cellB at h;simp only[jf] at h;obtain⟨_,i,⟨d,_⟩,_,_,g⟩:=h;have:=qaA.1 d j f;rw[jf,qtY i (qpA g)] at this;have b:=this.1;refine⟨qpN b,?_⟩;have a:=b;unfold arcS at a;simp only[jf,qa5] at a;refine⟨⟨a.1.1.1,by omega⟩,a.1.2,b⟩
theorem qmS {c:qE}(h:cellB c=true):c.Au.length≤8:=by
 unfold cellB at h;simp only[jf,decide_eq_true_eq] at h;exact h.2.2.1.2
theorem qao {b:qe}(h:blockB b=true):designB b.Ap b.Aa=true:=by
 unfold blockB at h;simp only[jf] at h;exact h.1.1

theorem qsI {d:qf}{k:Int}{n i:Nat}(hi:i<(sinksL d k n).length):∃ y:Nat,y<n∧idx (sinksL d k n) (i:Int)=V (y:Int)∧snkQ d k y=true:=by
 rw[qbe hi];have a:(sinksL d k n)[i] ∈ sinksL d k n:=jo hi;generalize (sinksL d k n)[i]=z at a;unfold sinksL at a;obtain⟨y,f,rfl⟩:=List.mem_map.1 a;obtain⟨b,c⟩:=List.mem_filter.1 f;exact⟨y,List.mem_range.1 b,rfl,c⟩
theorem qpt {d:qf}{k:Int}(h:smallD d):Ev (fun n=>qgp n d k) (sinksL d k (places d).length):=by
 have g:=qaE h;have c:Ev (fun n=>qbb k (places d) n ([]:List Int) 0) (sinksL d k (places d).length,((places d).length:Int)):=by
  refine loopF (Lf:=qbb k (places d)) (S:=fun j=>sinksL d k j) (len:=(places d).length) (fun n=>?_) (fun j b X a=>?_)
  ·simp only[qbb,qq (je _),cond_false]
  ·have f:(sinksL d k j).length+[(j:Int)].length≤2147483648:=by
    rw[qiF];have:cntP (snkQ d k) j≤j:=qfY;simp;omega
   simp only[qbb,qn b,cond_true,qw b,jd,wS j];rw[qiY] at a;unfold snkQ at a;cases h1:((gt (places d) j).net==k)
   ·rw[h1] at a;simp only[Bool.false_and,cond_false,Jc] at a ⊢;exact a
   ·cases h2:(gt (places d) j).drives
    ·rw[h1,h2] at a;simp only[Bool.not_false,Bool.and_self,cond_true,qcI f,jd] at a ⊢;exact a
    ·rw[h1,h2] at a;simp only[Ji,Bool.and_false,cond_false,Jc,cond_true] at a ⊢;exact a
 unfold qgp;exact Ev.bind (qmf h) (Ev.bind c .done)
structure wireOk (b:qe)(i:Nat):Prop where
 lo:1≤(gt b.Af i).Ak.length
 hi:(gt b.Af i).Ak.length≤8
 res:(gt b.Af i).Bu.length=(gt b.Af i).Ak.length
 cap:(gt b.Af i).Bp.length=(gt b.Af i).Ak.length
 par:∀ j,0<j→j<(gt b.Af i).Ak.length→0≤at0 (gt b.Af i).Ak j∧at0 (gt b.Af i).Ak j<j
 snk:(gt b.Af i).Bj.length=(sinksL b.Aa (i:Int) (places b.Aa).length).length
 sin:∀ j,j<(gt b.Af i).Bj.length→0≤at0 (gt b.Af i).Bj j∧at0 (gt b.Af i).Bj j<(gt b.Af i).Ak.length
theorem qbw {b:qe}(h:blockB b=true){i:Nat}(hi:i<b.Af.length):wireOk b i:=by
 unfold blockB at h;rw[jf,qaA] at h;have:=h.2 i hi;unfold wireB lenB at this;simp only[jf,decide_eq_true_eq,beq_iff_eq] at this;obtain⟨⟨f,g⟩,n,o,k,_,_,l,c⟩:=this;refine⟨f,g,by omega,by omega,fun j m a=>?_,?_,fun j a=>?_⟩
 ·have:=qaA.1 k j a;unfold treeB at this;rw[show decide (j=0)=false by simp;omega] at this;simp only[cond_false,qa5] at this;omega
 ·rw[qiF];unfold snkN at l;omega
 ·rw[qgE (d:=0),qaA] at c;have:=c j a;rw[qa5] at this;unfold at0;omega
theorem qjE {b:qe}(h:blockB b=true):b.Af.length=b.Aa.Aj.length:=by
 unfold blockB at h;simp only[jf,beq_iff_eq] at h;omega

instance:Inhabited ql:=⟨⟨0,0,0,0⟩⟩
instance:Inhabited qT:=⟨⟨0,0⟩⟩
theorem qj1 {α:Type}{m:Nat}{z:α}(h:m≤2147483648):mkS (m:Int) z=V (List.replicate m z):=by
 unfold mkS big;rw[if_pos ⟨by omega,by omega⟩,jr]
theorem qpF {α:Type}[Inhabited α]{xs:List α}{a k:Nat}{y:α}(h:k ≠ a):gt (xs.set a y) k=gt xs k:=by
 unfold gt;rw[jD,List.getElem?_set_ne (by omega),←jD]
theorem qn3 {α:Type}[Inhabited α]{xs:List α}{a:Nat}{y:α}(h:a<xs.length):gt (xs.set a y) a=y:=by
 rw[qef (by rw[List.length_set];exact h),List.getElem_set_self]

def CodeOk (code:List (IntK .u8)):Prop:=code.length≤1048576∧∀ x,x ∈ code→rng8 x
structure SrcI (code:List (IntK .u8))(a s:Int):Prop where
 a0:0≤a
 a1:a≤(code.length:Int)
 s0:0≤s
 s1:s≤2147483646
theorem tm31 {x:Int}(h:0≤x):0≤x.tmod 2147483647∧x.tmod 2147483647≤2147483646:=by
 have a:=Int.tmod_nonneg 2147483647 h;have b:=Int.tmod_lt_of_pos x (show(0:Int)<2147483647 by decide);omega
theorem qmZ {x k:Int}(a:0<k):remS x k=V (x.tmod k):=by unfold remS;rw[if_neg (by omega)]
theorem qaJ (x:Int):okI (W64 x):=by
 unfold okI W64;rw[Go.IntWalk.i64_left];unfold Go.RowKit.wrap64;omega
theorem qax {x:Int}(a:-4611686018427387904≤x)(b:x≤4611686018427387904):okI x:=by unfold okI;omega
theorem qrX {code:List (IntK .u8)}(g:CodeOk code):∃ s,Ev (fun n=>qlj n code) (V ⟨code,0,s⟩)∧SrcI code 0 s:=by
 have c:∀ k j i,j+k=code.length→0≤i→i≤2147483646→EvQ (fun n=>qeU code n i (j:Int)) (fun o=>0≤o.1∧o.1≤2147483646):=by
  intro k
  induction k with
  | zero=>
   intro j i p f b;refine EvQ.succ ?_;simp only[qeU,qq (show code.length≤j by omega),cond_false,jd];exact EvQ.done ⟨f,b⟩
  | succ k ih=>
   intro j i p f b;have a:j<code.length:=by omega
   have t:=g.1;have r:=g.2 _ (jo a);unfold rng8 at r;refine EvQ.succ ?_;simp only[qeU,qn a,cond_true,jd,qbe a,wS j];refine EvQ.bif (fun _=>?_) (fun _=>EvQ.done ⟨f,b⟩);have e1:W64 (i*31)=i*31:=qU (by omega) (by omega);have h:W64 code[j].val=code[j].val:=qU (by omega) (by omega);have l:W64 (i*31+code[j].val)=i*31+code[j].val:=qU (by omega) (by omega);rw[e1,h,l];have d:=tm31 (show 0≤i*31+code[j].val by omega);exact ih (j+1) _ (by omega) d.1 d.2
 obtain⟨⟨s,j⟩,b,d,m⟩:=c code.length 0 12345 (by omega) (by decide) (by decide);exact⟨s,Ev.bind b .done,⟨jS _,by omega,d,m⟩⟩
theorem qam {code:List (IntK .u8)}{a s:Int}(k:Int)(l:CodeOk code)(h:SrcI code a s) :
  EvQ (fun n=>qr n ⟨code,a,s⟩ k) (fun o=>((0≤o.1∧(1≤k→o.1<k))∧(k≤1→o.1=0))∧SrcI code o.2.1 o.2.2):=by
 obtain⟨a0,a1,s0,s1⟩:=h;have z:=l.1;unfold qr;refine EvQ.bif (fun g=>EvQ.done ⟨⟨⟨jS _,fun h=>by omega⟩,fun _=>rfl⟩,⟨a0,a1,s0,s1⟩⟩) (fun g=>?_);have g:1<k:=by have:=of_decide_eq_false g;omega
 refine EvQ.bif (fun i=>?_) (fun _=>?_)
 ·have i:a<(code.length:Int):=of_decide_eq_true i;obtain⟨j,rfl⟩:∃ j:Nat,a=(j:Int):=⟨a.toNat,by omega⟩;have c:j<code.length:=by omega
  have m:=l.2 _ (jo c);unfold rng8 at m;have p:W64 code[j].val=code[j].val:=qU (by omega) (by omega);have t:W64 ((j:Int)+1)=((j+1:Nat):Int):=qgQ (by omega);refine EvQ.bindN (qbe c) ?_;rw[p,t];refine EvQ.bif (fun u=>?_) (fun u=>?_)
  ·refine EvQ.bindN (qmZ (by omega)) (EvQ.done ⟨⟨⟨Int.tmod_nonneg _ m.1,fun _=>Int.tmod_lt_of_pos _ (by omega)⟩,fun h=>by omega⟩,⟨by show(0:Int)≤((j+1:Nat):Int);omega,by show((j+1:Nat):Int)≤_;omega,s0,s1⟩⟩)
  ·have d:W64 (s*48271)=s*48271:=qU (by omega) (by omega);have f:W64 (s*48271+code[j].val)=s*48271+code[j].val:=qU (by omega) (by omega);have r:W64 (s*48271+code[j].val+1)=s*48271+code[j].val+1:=qU (by omega) (by omega);rw[d,f,r];have b:=tm31 (show 0≤s*48271+code[j].val+1 by omega);exact EvQ.bindN (qmZ (by omega)) (EvQ.done ⟨⟨⟨Int.tmod_nonneg _ b.1,fun _=>Int.tmod_lt_of_pos _ (by omega)⟩,fun h=>by omega⟩,⟨by show(0:Int)≤((j+1:Nat):Int);omega,by show((j+1:Nat):Int)≤_;omega,b.1,b.2⟩⟩)
 ·have d:W64 (s*48271)=s*48271:=qU (by omega) (by omega);have f:W64 (s*48271+11)=s*48271+11:=qU (by omega) (by omega);rw[d,f];have b:=tm31 (show 0≤s*48271+11 by omega);have v:0≤((s*48271+11).tmod 2147483647).tdiv 7:=Int.tdiv_nonneg b.1 (by decide);have y:((s*48271+11).tmod 2147483647).tdiv 7≤2147483646:=by
   rw[jE b.1];omega
  rw[qU (x:=((s*48271+11).tmod 2147483647).tdiv 7) (by omega) (by omega)];exact EvQ.bindN (qmZ (by omega)) (EvQ.done ⟨⟨⟨Int.tmod_nonneg _ v,fun _=>Int.tmod_lt_of_pos _ (by omega)⟩,fun h=>by omega⟩,⟨a0,a1,b.1,b.2⟩⟩)
theorem qbQ {α:Type}{ok:α→Prop}{xs:List α}{y:α}(h:∀ x,x ∈ xs→ok x)(b:ok y):∀ x,x ∈ xs++[y]→ok x:=by
 intro x a;rcases List.mem_append.1 a with a|a
 ·exact h x a
 ·obtain rfl:=List.mem_singleton.1 a;exact b
theorem qcq {α:Type}{xs:List α}{y:α}(h:xs.length≤1048576):appS xs [y]=V (xs++[y]):=qcI (by simp;omega)
section
variable {code:List (IntK .u8)}{a s:Int}
theorem qtO {step:Int}(A:1≤step)(N:step≤1000)(i:CodeOk code)(h:SrcI code a s) :
  EvQ (fun n=>qfv n ⟨code,a,s⟩ step) (fun o=>(1≤o.1.length∧o.1.length≤3∧∀ x,x ∈ o.1→okI x)∧SrcI code o.2.1 o.2.2):=by
 have d:∀ (r:Nat) (x:List Int) (f g c:Int),SrcI code f g→x.length+r≤3→(∀ y,y ∈ x→okI y)→okI c →
   EvQ (fun n=>qcY ⟨code,a,s⟩ step n x f g c (r:Int)) (fun o=>(o.1.length=x.length+r∧∀ y,y ∈ o.1→okI y)∧SrcI code o.2.1 o.2.2.1):=by
  intro r
  induction r with
  | zero=>
   intro x f g c b B p hi;refine EvQ.succ ?_;simp only[qcY];exact EvQ.ff Z (EvQ.done ⟨⟨rfl,p⟩,b⟩)
  | succ r ih=>
   intro x f g c b B p hi;refine EvQ.succ ?_;simp only[qcY];refine EvQ.tt (by simp) (EvQ.bindN (qcq (by omega)) (EvQ.bind (qam step i b) ?_));rintro⟨H,t,u⟩ ⟨_,l⟩;have e:W64 (((r+1:Nat):Int)-1)=(r:Int):=by rw[qU (by omega) (by omega)];omega
   dsimp only;rw[e];exact(ih (x++[c]) t u _ l (by rw[jg,ji];omega) (qbQ p hi) (qaJ _)).mono (fun o k=>⟨⟨by rw[k.1.1,jg,ji];omega,k.1.2⟩,k.2⟩)
 unfold qfv;refine EvQ.bind (qam step i h) ?_;rintro⟨D,O,P⟩ ⟨⟨⟨K,p1⟩,_⟩,b⟩;refine EvQ.bind (qam 3 i b) ?_;rintro⟨v,I,J⟩ ⟨⟨⟨L,z⟩,_⟩,b⟩;dsimp only at K p1 L z b ⊢;have T:=z (by decide);have S:=p1 A;obtain⟨m,C⟩:∃ m:Nat,1+v=((m+1:Nat):Int):=⟨v.toNat,by omega⟩;rw[wO (1+v),C];refine EvQ.bind (d (m+1) [] I J D b (by simp;omega) (fun _ h=>by cases h) (qax (by omega) (by omega))) ?_;rintro⟨W,Q,R,c,F⟩ ⟨⟨r1,M⟩,b⟩;exact EvQ.done ⟨⟨by simp only at r1;simp at r1;dsimp only;omega,by simp only at r1;simp at r1;dsimp only;omega,M⟩,b⟩
theorem qun {c:Prop}[Decidable c]{x y:Int}(a:okI x)(b:okI y):okI (if c then x else y):=by split<;>assumption
theorem qsl {base:Int}(k:CodeOk code)(h:SrcI code a s) :
  EvQ (fun n=>qhY n ⟨code,a,s⟩ base) (fun o=>qip o.1∧SrcI code o.2.1 o.2.2):=by
 unfold qhY;refine EvQ.bind (qtO (by decide) (by decide) k h) ?_;rintro⟨r1,i1,i2⟩ ⟨⟨T,l2,r⟩,c⟩;refine EvQ.bind (qtO (by decide) (by decide) k c) ?_;rintro⟨f,Q,S⟩ ⟨⟨W,t,u⟩,c⟩;dsimp only at T l2 r W t u c ⊢;have e:r1.length*f.length≤3*3:=Nat.mul_le_mul l2 t;have l:∀ (d j:Nat) (x:List Int) (m p:Int),SrcI code m p→j+d=r1.length*f.length→x.length=j→(∀ y,y ∈ x→okI y) →
   EvQ (fun n=>qdU ⟨code,a,s⟩ base r1 f n x m p (j:Int)) (fun o=>(o.1.length≤9∧∀ y,y ∈ o.1→okI y)∧SrcI code o.2.1 o.2.2.1):=by
  intro d
  induction d with
  | zero=>
   intro j x m p c B D g;refine EvQ.succ ?_;simp only[qdU,qoF (show r1.length≤1048576 by omega) (show f.length≤1048576 by omega)];have z:x.length≤9:=by omega
   exact EvQ.ff (qq (by omega)) (EvQ.done ⟨⟨z,g⟩,c⟩)
  | succ d ih=>
   intro j x m p c B D g;refine EvQ.succ ?_;simp only[qdU,qoF (show r1.length≤1048576 by omega) (show f.length≤1048576 by omega)];refine EvQ.tt (qn (by omega)) (EvQ.bind (qam 10 k c) ?_);rintro⟨i8,i9,F⟩ ⟨⟨⟨X,Y⟩,_⟩,c⟩;dsimp only at X Y c ⊢;refine EvQ.bindN (b:=((j % f.length:Nat):Int)) (by rw[qmZ (by omega),Int.ofNat_tmod]) ?_;refine EvQ.bind (R:=fun o:Int×Int×Int=>SrcI code o.1 o.2.1∧okI o.2.2) ?_ ?_
   ·refine EvQ.bif (fun i=>?_) (fun _=>EvQ.done ⟨c,qaJ _⟩);have C:1≤j:=by
     rcases Nat.eq_zero_or_pos j with rfl|h2
     ·simp at i
     ·exact h2
    have e1:W64 ((j:Int)-1)=((j-1:Nat):Int):=by rw[qU (by omega) (by omega)];omega
    rw[e1];refine EvQ.bindN (qbe (show j-1<x.length by omega)) (EvQ.bind (qam 20 k c) ?_);rintro⟨N,O,P⟩ ⟨_,c⟩;exact EvQ.done ⟨c,qun (qaJ _) (qaJ _)⟩
   ·rintro⟨H,I,J⟩ ⟨c,hi⟩;dsimp only at c hi ⊢;rw[wS j];refine EvQ.bif (fun i=>?_) (fun _=>?_)
    ·have A:f.length≤j:=by have:=of_decide_eq_true i;omega
     have e1:W64 ((j:Int)-(f.length:Int))=((j-f.length:Nat):Int):=by rw[qU (by omega) (by omega)];omega
     rw[e1];refine EvQ.bindN (qbe (show j-f.length<x.length by omega)) (EvQ.bind (qam 20 k c) ?_);rintro⟨K,L,M⟩ ⟨_,c⟩;refine EvQ.bindN (qcq (by omega)) ?_;exact ih (j+1) _ _ _ c (by omega) (by rw[jg,ji];omega) (qbQ g (qun (qaJ _) hi))
    ·refine EvQ.bindN (qcq (by omega)) ?_;exact ih (j+1) _ _ _ c (by omega) (by rw[jg,ji];omega) (qbQ g hi)
 refine EvQ.bind (l (r1.length*f.length) 0 [] Q S c (by omega) Z (fun _ h=>by cases h)) ?_;rintro⟨x1,i5,i6,i7⟩ ⟨⟨n1,v⟩,c⟩;dsimp only at n1 v c;exact EvQ.done ⟨⟨⟨by dsimp only;omega,r⟩,⟨by dsimp only;omega,u⟩,⟨by dsimp only;omega,v⟩⟩,c⟩
theorem qpb {base:Int}(d:CodeOk code)(h:SrcI code a s) :
  EvQ (fun n=>qdp n ⟨code,a,s⟩ base) (fun o=>okL qip o.1∧SrcI code o.2.1 o.2.2):=by
 unfold qdp;refine EvQ.bind (qsl d h) ?_;rintro⟨r1,i,k⟩ ⟨f,b⟩;refine EvQ.bind (qsl d b) ?_;rintro⟨p,l,m⟩ ⟨g,b⟩;refine EvQ.done ⟨⟨by simp,fun x c=>?_⟩,b⟩;rcases List.mem_cons.1 c with rfl|c
 ·exact f
 ·obtain rfl:=List.mem_singleton.1 c;exact g
theorem qro {kind f t sense:Int}(i:okI kind)(g:okI f)(k:okI t)(d:okI sense)(c:CodeOk code)(h:SrcI code a s) :
  EvQ (fun n=>qdb n ⟨code,a,s⟩ kind f t sense) (fun o=>qk9 o.1∧SrcI code o.2.1 o.2.2):=by
 unfold qdb;refine EvQ.bif (fun _=>?_) (fun _=>?_)
 ·refine EvQ.bind (qam 10 c h) ?_;rintro⟨y,z,A⟩ ⟨_,b⟩;refine EvQ.bind (qpb c b) ?_;rintro⟨r1,B,C⟩ ⟨l,b⟩;exact EvQ.done ⟨⟨i,g,k,qax (x:=0) (by decide) (by decide),l,⟨Jh _,fun _ h=>by cases h⟩⟩,b⟩
 ·refine EvQ.bind (qam 20 c h) ?_;rintro⟨D,F,H⟩ ⟨_,b⟩;refine EvQ.bind (qpb c b) ?_;rintro⟨J,I,r⟩ ⟨m,b⟩;refine EvQ.bind (qpb c b) ?_;rintro⟨K,u,v⟩ ⟨p,b⟩;exact EvQ.done ⟨⟨i,g,k,d,m,p⟩,b⟩
end

section
variable {code:List (IntK .u8)}{a s:Int}
theorem quL {q:Nat}(h:q≤8):W64 (2*(q:Int))=((q*2:Nat):Int):=by rw[qU (by omega) (by omega)];omega
theorem Ev.add {α:Type}{f:Nat→Option α}{r:α}(k:Nat)(h:∀ m,f (m+k)=V r):Ev f r:=
 ⟨k,fun n a=>by obtain⟨m,rfl⟩:∃ m,n=m+k:=⟨n-k,by omega⟩;exact h m⟩
def SenseOk (k:Nat)(a:List Int):Prop:=∀ (b:ByteArray) (ps:List qaq) (i j:Int) (p:Nat),p<k→EvQ (fun n=>qkp n ⟨b,1,ps,[],a,i,j⟩ (p:Int)) okI
theorem qoU {k:Nat}{J:ByteArray}{c:List Int}(Q:k≤3)(hl:c.length=2 ^ k)(D:SenseOk k c)(B:okS J)(F:∀ x,x ∈ c→okI x)(z:CodeOk code)(h:SrcI code a s) :
  EvQ (fun n=>qfc n ⟨code,a,s⟩ J c) (fun o=>qma o.1∧SrcI code o.2.1 o.2.2):=by
 have R:(2:Nat) ^ k≤8:=by
  have:(2:Nat) ^ k≤2 ^ 3:=Nat.pow_le_pow_right (by decide) Q;simpa using this
 have v:∀ (d j:Nat) (x:List qaq) (i l:Int),SrcI code i l→j+d=k→x.length=j→(∀ y,y ∈ x→qk1 y) →
   EvQ (fun n=>qe6 ⟨code,a,s⟩ c n x i l ((2 ^ j:Nat):Int)) (fun o=>(o.1.length=k∧∀ y,y ∈ o.1→qk1 y)∧SrcI code o.2.1 o.2.2.1):=by
  intro d
  induction d with
  | zero=>
   intro j x i l f A u g;refine EvQ.succ ?_;simp only[qe6];have:j=k:=by omega
   subst this;exact EvQ.ff (qq (by omega)) (EvQ.done ⟨⟨u,g⟩,f⟩)
  | succ d ih=>
   intro j x i l f A u g;refine EvQ.succ ?_;simp only[qe6];have S:(2:Nat) ^ j<2 ^ k:=Nat.pow_lt_pow_right (by decide) (by omega);refine EvQ.tt (qn (by omega)) ?_;have t:j<4:=by omega
   refine EvQ.bindN (b:=([(⟨#[97]⟩:ByteArray),(⟨#[98]⟩:ByteArray),(⟨#[99]⟩:ByteArray),(⟨#[100]⟩:ByteArray)]:List ByteArray)[j]'(by simpa using t)) (by rw[u];exact qbe (by simpa using t)) (EvQ.bind (qam 9 z f) ?_);rintro⟨T,W,X⟩ ⟨_,f⟩;refine EvQ.bindN (qcq (by omega)) ?_;have e:W64 (2*((2 ^ j:Nat):Int))=((2 ^ (j+1):Nat):Int):=by
    rw[Nat.pow_succ];exact quL (by omega)
   dsimp only;rw[e];refine ih (j+1) _ _ _ f (by omega) (by rw[jg,ji];omega) (qbQ g ⟨?_,qax (x:=1) (by decide) (by decide),qaJ _,trivial⟩);rcases j with _|_|_|_|j
   ·show(1:Nat)≤1048576;decide
   ·show(1:Nat)≤1048576;decide
   ·show(1:Nat)≤1048576;decide
   ·show(1:Nat)≤1048576;decide
   ·omega
 unfold qfc;refine EvQ.bind (qam 50 z h) ?_;rintro⟨L,i2,i3⟩ ⟨⟨⟨p0,p1⟩,_⟩,f⟩;refine EvQ.bind (qam 80 z f) ?_;rintro⟨M,i5,i6⟩ ⟨⟨⟨q0,N⟩,_⟩,f⟩;dsimp only at p0 p1 q0 N;have p2:=p1 (by decide);have q2:=N (by decide);refine EvQ.bind (v k 0 [] i5 i6 f (by omega) Z (fun _ h=>by cases h)) ?_;rintro⟨K,i7,i8,i9⟩ ⟨⟨H,m⟩,f⟩;dsimp only at H m f ⊢;refine EvQ.bindN (qcq (by omega)) ?_;have r:∀ (d j:Nat) (x:List qal) (i l:Int),SrcI code i l→j+d=k→x.length≤j→(∀ y,y ∈ x→qk9 y) →
   EvQ (fun n=>qd0 ⟨code,a,s⟩ J c L M K (K++[(⟨(⟨#[121]⟩:ByteArray),2,0,false⟩:qaq)]) n x i l (j:Int)) (fun o=>(o.1.length≤k∧∀ y,y ∈ o.1→qk9 y)∧SrcI code o.2.1 o.2.2.1):=by
  intro d
  induction d with
  | zero=>
   intro j x i l f A u g;refine EvQ.succ ?_;simp only[qd0];have P:x.length≤k:=by omega
   exact EvQ.ff (qq (by omega)) (EvQ.done ⟨⟨P,g⟩,f⟩)
  | succ d ih=>
   intro j x i l f A u g;refine EvQ.succ ?_;simp only[qd0,wS j];refine EvQ.tt (qn (by omega)) (EvQ.bind (D _ _ _ _ j (by omega)) (fun r1 C=>?_));refine EvQ.bif (fun _=>?_) (fun _=>ih (j+1) x i l f (by omega) (by omega) g);refine EvQ.bind (qro (qax (by decide) (by decide)) (qax (by omega) (by omega)) (qax (by omega) (by omega)) C z f) ?_;rintro⟨r2,a5,a6⟩ ⟨O,f⟩;refine EvQ.bindN (qcq (by omega)) ?_;exact ih (j+1) _ _ _ f (by omega) (by rw[jg,ji];omega) (qbQ g O)
 refine EvQ.bind (r k 0 [] i7 i8 f (by omega) (Jh _) (fun _ h=>by cases h)) ?_;rintro⟨x4,Y,a3,a4⟩ ⟨⟨I,p⟩,f⟩;dsimp only at I p f;refine EvQ.done ⟨⟨B,qax (x:=1) (by decide) (by decide),⟨?_,?_⟩,⟨?_,p⟩,⟨?_,F⟩,qax (x:=L) (by omega) (by omega),qax (x:=M) (by omega) (by omega)⟩,f⟩
 ·show(K++_).length≤_;rw[jg,ji];omega
 ·exact qbQ m ⟨by show(1:Nat)≤1048576;decide,qax (x:=2) (by decide) (by decide),qax (x:=0) (by decide) (by decide),trivial⟩
 ·show x4.length≤_;omega
 ·show c.length≤_;omega
theorem ql4 {xs:List Int}(h:xs.all (fun x=>decide (-1000≤x)&&decide (x≤1000))=true):∀ x,x ∈ xs→okI x:=by
 intro x a;have:=List.all_eq_true.1 h x a;simp only[jf,decide_eq_true_eq] at this;exact qax (by omega) (by omega)
theorem qrW {u:ByteArray}{kind edge:Int}(d:okS u)(m:okI kind)(B:okI edge)(c:CodeOk code)(h:SrcI code a s) :
  EvQ (fun n=>qer n ⟨code,a,s⟩ u kind edge) (fun o=>qma o.1∧SrcI code o.2.1 o.2.2):=by
 have z:∀ x:Int,-1000≤x→x≤1000→okI x:=fun x i k=>qax (by omega) (by omega);unfold qer;refine EvQ.bind (qam 50 c h) ?_;rintro⟨r,T,W⟩ ⟨⟨⟨P,p1⟩,_⟩,b⟩;refine EvQ.bind (qam 80 c b) ?_;rintro⟨t,X,Y⟩ ⟨⟨⟨Q,v⟩,_⟩,b⟩;dsimp only at P p1 Q v;have p2:=p1 (by decide);have q2:=v (by decide);refine EvQ.bind (qam 9 c b) ?_;rintro⟨O,e,i9⟩ ⟨_,b⟩;refine EvQ.bind (qam 9 c b) ?_;rintro⟨g,C,D⟩ ⟨_,b⟩;refine EvQ.bind (qro B (z _ (by decide) (by decide)) (z _ (by decide) (by decide)) (z _ (by decide) (by decide)) c b) ?_;rintro⟨r1,F,H⟩ ⟨i,b⟩;refine EvQ.bind (qro (z _ (by decide) (by decide)) (z _ (by decide) (by decide)) (z _ (by decide) (by decide)) (z _ (by decide) (by decide)) c b) ?_;rintro⟨R,I,J⟩ ⟨k,b⟩;refine EvQ.bind (qro (z _ (by decide) (by decide)) (z _ (by decide) (by decide)) (z _ (by decide) (by decide)) (z _ (by decide) (by decide)) c b) ?_;rintro⟨S,K,L⟩ ⟨y,b⟩;dsimp only at i k y b ⊢;have l:∀ x,x ∈ [r1,R,S]→qk9 x:=by
  intro x f;simp only[jJ,jy,or_false] at f;rcases f with rfl|rfl|rfl<;>assumption
 have p:∀ x,x ∈ [(⟨(⟨#[100]⟩:ByteArray),1,W64 (1+O),false⟩:qaq),(⟨(⟨#[99,107]⟩:ByteArray),1,W64 (1+g),true⟩:qaq),(⟨(⟨#[113]⟩:ByteArray),2,0,false⟩:qaq)]→qk1 x:=by
  intro x f;simp only[jJ,jy,or_false] at f;rcases f with rfl|rfl|rfl
  ·exact⟨by show(1:Nat)≤1048576;decide,z 1 (by decide) (by decide),qaJ _,trivial⟩
  ·exact⟨by show(2:Nat)≤1048576;decide,z 1 (by decide) (by decide),qaJ _,trivial⟩
  ·exact⟨by show(1:Nat)≤1048576;decide,z 2 (by decide) (by decide),z 0 (by decide) (by decide),trivial⟩
 refine EvQ.bif (fun _=>?_) (fun _=>?_)
 ·refine EvQ.bind (qro (z _ (by decide) (by decide)) (z _ (by decide) (by decide)) (z _ (by decide) (by decide)) (z _ (by decide) (by decide)) c b) ?_;rintro⟨r4,M,N⟩ ⟨A,b⟩;refine EvQ.bindN (qcq (by simp)) ?_;exact EvQ.done ⟨⟨d,m,⟨by simp,p⟩,⟨by simp,qbQ l A⟩,⟨Jh _,fun _ h=>by cases h⟩,z r (by omega) (by omega),z t (by omega) (by omega)⟩,b⟩
 ·exact EvQ.done ⟨⟨d,m,⟨by simp,p⟩,⟨by simp,l⟩,⟨Jh _,fun _ h=>by cases h⟩,z r (by omega) (by omega),z t (by omega) (by omega)⟩,b⟩
theorem sense1a:SenseOk 1 [1,0]:=by
 intro b ps i j p a;obtain rfl:p=0:=by omega
 exact⟨_,Ev.add 4 (fun m=>rfl),qax (by decide) (by decide)⟩
theorem sense1b:SenseOk 1 [0,1]:=by
 intro b ps i j p a;obtain rfl:p=0:=by omega
 exact⟨_,Ev.add 4 (fun m=>rfl),qax (by decide) (by decide)⟩
theorem sense2a:SenseOk 2 [1,1,1,0]:=by
 intro b ps i j p a;rcases p with _|_|p
 ·exact⟨_,Ev.add 8 (fun m=>rfl),qax (by decide) (by decide)⟩
 ·exact⟨_,Ev.add 8 (fun m=>rfl),qax (by decide) (by decide)⟩
 ·omega
theorem sense2b:SenseOk 2 [0,1,1,0]:=by
 intro b ps i j p a;rcases p with _|_|p
 ·exact⟨_,Ev.add 8 (fun m=>rfl),qax (by decide) (by decide)⟩
 ·exact⟨_,Ev.add 8 (fun m=>rfl),qax (by decide) (by decide)⟩
 ·omega
theorem sense3:SenseOk 3 [0,1,0,1,0,0,1,1]:=by
 intro b ps i j p a;rcases p with _|_|_|p
 ·exact⟨_,Ev.add 12 (fun m=>rfl),qax (by decide) (by decide)⟩
 ·exact⟨_,Ev.add 12 (fun m=>rfl),qax (by decide) (by decide)⟩
 ·exact⟨_,Ev.add 12 (fun m=>rfl),qax (by decide) (by decide)⟩
 ·omega
theorem qv0 (c:CodeOk code)(h:SrcI code a s):EvQ (fun n=>qjt n ⟨code,a,s⟩) (fun o=>qgN o.1∧SrcI code o.2.1 o.2.2):=by
 have z:∀ x:Int,-1000≤x→x≤1000→okI x:=fun x f g=>qax (by omega) (by omega);unfold qjt;refine EvQ.bind (qoU (k:=1) (by decide) Z sense1a (by show(3:Nat)≤1048576;decide) (ql4 Z) c h) ?_;rintro⟨r1,F,H⟩ ⟨f,b⟩;refine EvQ.bind (qoU (k:=1) (by decide) Z sense1b (by show(3:Nat)≤1048576;decide) (ql4 Z) c b) ?_;rintro⟨P,I,J⟩ ⟨g,b⟩;refine EvQ.bind (qoU (k:=2) (by decide) Z sense2a (by show(4:Nat)≤1048576;decide) (ql4 Z) c b) ?_;rintro⟨Q,K,L⟩ ⟨v,b⟩;refine EvQ.bind (qoU (k:=2) (by decide) Z sense2b (by show(3:Nat)≤1048576;decide) (ql4 Z) c b) ?_;rintro⟨R,M,N⟩ ⟨y,b⟩;refine EvQ.bind (qoU (k:=3) (by decide) Z sense3 (by show(3:Nat)≤1048576;decide) (ql4 Z) c b) ?_;rintro⟨S,O,i⟩ ⟨A,b⟩;refine EvQ.bind (qrW (by show(4:Nat)≤1048576;decide) (z _ (by decide) (by decide)) (z _ (by decide) (by decide)) c b) ?_;rintro⟨T,l,m⟩ ⟨B,b⟩;refine EvQ.bind (qrW (by show(5:Nat)≤1048576;decide) (z _ (by decide) (by decide)) (z _ (by decide) (by decide)) c b) ?_;rintro⟨W,p,r⟩ ⟨C,b⟩;refine EvQ.bind (qrW (by show(5:Nat)≤1048576;decide) (z _ (by decide) (by decide)) (z _ (by decide) (by decide)) c b) ?_;rintro⟨X,t,u⟩ ⟨D,b⟩;refine EvQ.done ⟨⟨⟨by simp,fun x d=>?_⟩⟩,b⟩;simp only[jJ,jy,or_false] at d;rcases d with rfl|rfl|rfl|rfl|rfl|rfl|rfl|rfl<;>assumption
end

section
variable {code:List (IntK .u8)}{a s:Int}
theorem qmk (b:IntK .u8):(strOf [b]).size=1:=rfl
theorem qqh {x y:ByteArray}(h:x.size+y.size≤1048576):catB x y=V (x++y):=by
 unfold catB;rw[if_pos];have:IntKind.i64.max=9223372036854775807:=rfl;omega
theorem qtV:∀ (d:Nat) (k:Int),d≤15→0≤k→k<((10 ^ (d+1):Nat):Int)→EvQ (fun n=>qbI n k) (fun z=>z.size≤d+1):=by
 intro d
 induction d with
 | zero=>
  intro k f b c;refine EvQ.succ ?_;simp only[qbI];refine EvQ.ff (by simp;omega) (EvQ.tt (by simp;omega) (EvQ.done ?_));rw[qmk];exact je _
 | succ d ih=>
  intro k f b c;refine EvQ.succ ?_;simp only[qbI];refine EvQ.ff (by simp;omega) (EvQ.bif (fun _=>EvQ.done (by rw[qmk];omega)) (fun h=>?_));have l:(10:Nat) ^ (d+1+1)≤10 ^ 17:=Nat.pow_le_pow_right (by decide) (by omega);have i:k≤9223372036854775807:=by
   have:(10:Nat) ^ 17≤9223372036854775807:=by decide
   omega
  have e:k.tdiv 10=k / 10:=jE b;have e1:W64 (k.tdiv 10)=k / 10:=by rw[e];exact qU (by omega) (by omega)
  rw[e1];have a:k / 10<((10 ^ (d+1):Nat):Int):=by rw[Nat.pow_succ] at c;omega
  refine EvQ.bind (ih (k / 10) (by omega) (by omega) a) (fun m g=>?_);refine EvQ.bindN (qqh (by rw[qmk];omega)) (EvQ.done ?_);rw[ByteArray.size_append,qmk];omega
theorem qsv {k:Nat}(h:k≤1000):EvQ (fun n=>qbI n (k:Int)) (fun z=>z.size≤4):=qtV 3 k (by decide) (by omega) (by omega)
theorem qvc {y:Int}(a:0≤y)(b:y≤7):∃ p:Nat,idx ([2,2,3,3,4,3,3,3]:List Int) y=V (p:Int)∧2≤p∧p≤4:=by
 have:y=0∨y=1∨y=2∨y=3∨y=4∨y=5∨y=6∨y=7:=by omega
 rcases this with rfl|rfl|rfl|rfl|rfl|rfl|rfl|rfl
 ·exact⟨2,rfl,by decide,by decide⟩
 ·exact⟨2,rfl,by decide,by decide⟩
 ·exact⟨3,rfl,by decide,by decide⟩
 ·exact⟨3,rfl,by decide,by decide⟩
 ·exact⟨4,rfl,by decide,by decide⟩
 ·exact⟨3,rfl,by decide,by decide⟩
 ·exact⟨3,rfl,by decide,by decide⟩
 ·exact⟨3,rfl,by decide,by decide⟩
theorem quG {y:Int}(a:0≤y)(b:y<12):∃ p:Int,idx ([0,1,2,2,3,4,5,5,5,6,7,1]:List Int) y=V p∧0≤p∧p≤7:=by
 have:y=0∨y=1∨y=2∨y=3∨y=4∨y=5∨y=6∨y=7∨y=8∨y=9∨y=10∨y=11:=by omega
 rcases this with rfl|rfl|rfl|rfl|rfl|rfl|rfl|rfl|rfl|rfl|rfl|rfl<;>exact⟨_,rfl,by decide,by decide⟩
theorem ql9 {α:Type}{xs:List α}(h:xs.length≤1048576):appS ([]:List α) xs=V xs:=by
 have:=qcI (xs:=([]:List α)) (ys:=xs) (by simp;omega);rwa [List.nil_append] at this
theorem qvO {l:List ByteArray}{m:Int}{p:Nat}(k:idx ([2,2,3,3,4,3,3,3]:List Int) m=V (p:Int))(H:2≤p)(I:p≤4)(u:l.length≤100)(i:CodeOk code) :
  ∀ (d j:Nat) (x:List Int) (f g:Int),SrcI code f g→j+d+1=p→x.length=j→(∀ y,y ∈ x→okI y) →
   EvQ (fun n=>qdZ ⟨code,a,s⟩ l m n x f g (j:Int)) (fun o=>(o.1.length+1=p∧∀ y,y ∈ o.1→okI y)∧SrcI code o.2.1 o.2.2.1):=by
 have h:W64 ((p:Int)-1)=((p-1:Nat):Int):=by rw[qU (by omega) (by omega)];omega
 intro d
 induction d with
 | zero=>
  intro j x f g c r t b;refine EvQ.succ ?_;simp only[qdZ];refine EvQ.bindN k ?_;rw[h];exact EvQ.ff (qq (by omega)) (EvQ.done ⟨⟨by dsimp only;omega,b⟩,c⟩)
 | succ d ih=>
  intro j x f g c r t b;refine EvQ.succ ?_;simp only[qdZ];refine EvQ.bindN k ?_;rw[h];refine EvQ.tt (qn (by omega)) (EvQ.bind (qam _ i c) ?_);rintro⟨v,z,A⟩ ⟨_,c⟩;refine EvQ.bind (qam 3 i c) ?_;rintro⟨B,C,D⟩ ⟨_,c⟩;refine EvQ.bind (R:=okI) (EvQ.bif (fun _=>EvQ.done (qaJ _)) (fun _=>EvQ.done (qaJ _))) (fun F hi=>?_);refine EvQ.bind (R:=fun _=>True) (EvQ.bif (fun _=>EvQ.done trivial) (fun _=>EvQ.done trivial)) (fun b3 _=>?_);rw[wS j];refine EvQ.bif (fun _=>?_) (fun _=>?_)
  ·exact EvQ.bindN (ql9 (by omega)) (EvQ.bindN (qcq (by omega)) (ih (j+1) _ _ _ c (by omega) (by rw[jg,ji];omega) (qbQ b (qax (by decide) (by decide)))))
  ·exact EvQ.bindN (ql9 (by omega)) (EvQ.bindN (qcq (by omega)) (ih (j+1) _ _ _ c (by omega) (by rw[jg,ji];omega) (qbQ b hi)))
structure InsI (x:qC):Prop where
 ok:qn9 x
 l2:2≤x.Aj.length
 l5:x.Aj.length≤5
theorem quC (B:CodeOk code):∀ (r:Nat) (f:List ByteArray) (d:List qC) (i l:Int),SrcI code i l→d.length+r≤14→f.length=d.length+3→(∀ y,y ∈ f→okS y)→(∀ y,y ∈ d→InsI y) →
  EvQ (fun n=>qe4 ⟨code,a,s⟩ n f d i l (r:Int)) (fun o=>(o.1.length=o.2.1.length+3∧o.2.1.length=d.length+r∧(∀ y,y ∈ o.1→okS y)∧∀ y,y ∈ o.2.1→InsI y)∧SrcI code o.2.2.1 o.2.2.2.1):=by
 intro r
 induction r with
 | zero=>
  intro f d i l b I g m t;refine EvQ.succ ?_;simp only[qe4];exact EvQ.ff Z (EvQ.done ⟨⟨g,rfl,m,t⟩,b⟩)
 | succ r ih=>
  intro f d i l b I g m t;refine EvQ.succ ?_;simp only[qe4];refine EvQ.tt (by simp) (EvQ.bind (qam 12 B b) ?_);rintro⟨W,P,Q⟩ ⟨⟨⟨C,D⟩,_⟩,b⟩;dsimp only at C D b ⊢;obtain⟨T,v,z,A⟩:=quG C (D (by decide));obtain⟨p,J,R,S⟩:=qvc z A;refine EvQ.bindN v (EvQ.bind (qsv (show d.length≤1000 by omega)) (fun r1 K=>?_));have F:(⟨#[117]⟩:ByteArray).size=1:=rfl;have H:(⟨#[110]⟩:ByteArray).size=1:=rfl;refine EvQ.bindN (qqh (by rw[F];omega)) (EvQ.bind (qvO J R S (by omega) B (p-1) 0 [] P Q b (by omega) Z (fun _ h=>by cases h)) ?_);rintro⟨Y,M,N,O⟩ ⟨⟨u,c⟩,b⟩;dsimp only at u c b ⊢;refine EvQ.bindN (ql9 (by omega)) (EvQ.bindN (qcq (by omega)) (EvQ.bind (qsv (show f.length≤1000 by omega)) (fun X L=>?_)));refine EvQ.bindN (qqh (by rw[H];omega)) (EvQ.bindN (qcq (by omega)) (EvQ.bindN (qcq (by omega)) ?_));have e:W64 (((r+1:Nat):Int)-1)=(r:Int):=by rw[qU (by omega) (by omega)];omega
  rw[e];refine(ih _ _ _ _ b (by rw[jg,ji];omega) (by rw[jg,jg,ji,ji];omega) (qbQ m (by show(_++_:ByteArray).size≤_;rw[ByteArray.size_append,H];omega))
   (qbQ t ⟨⟨by show(_++_:ByteArray).size≤_;rw[ByteArray.size_append,F];omega,qax (x:=T) (by omega) (by omega),⟨by show(_++_:List Int).length≤_;rw[jg,ji];omega,qbQ c (qax (by omega) (by omega))⟩⟩,by show _≤(_++_:List Int).length;rw[jg,ji];omega,by show(_++_:List Int).length≤_;rw[jg,ji];omega⟩)).mono (fun o k=>⟨⟨k.1.1,by rw[k.1.2.1,jg,ji];omega,k.1.2.2⟩,k.2⟩)
theorem qij {α:Type}{ok:α→Prop}{xs:List α}{j:Int}{y:α}(h:∀ x,x ∈ xs→ok x)(b:ok y):∀ x,x ∈ setS xs j y→ok x:=by
 intro x a;unfold setS at a;rcases List.mem_or_eq_of_mem_set a with a|rfl
 ·exact h x a
 ·exact b
theorem qv1 {wild:Bool}{p:List ByteArray}{h:List qC}(J:h.length≤14)(u:p.length≤100)(m:CodeOk code):∀ (d j:Nat) (x:List qC) (i l:Int),SrcI code i l→j+d=h.length→x.length=h.length→(∀ y,y ∈ x→InsI y) →
  EvQ (fun n=>qdX ⟨code,a,s⟩ wild p h n x i l (j:Int)) (fun o=>(o.1.length=h.length∧∀ y,y ∈ o.1→InsI y)∧SrcI code o.2.1 o.2.2.1):=by
 intro d
 induction d with
 | zero=>
  intro j x i l c t k f;refine EvQ.succ ?_;simp only[qdX];exact EvQ.ff (qq (by omega)) (EvQ.done ⟨⟨k,f⟩,c⟩)
 | succ d ih=>
  intro j x i l c t k f;have g:j<x.length:=by omega
  refine EvQ.succ ?_;simp only[qdX,wS j];refine EvQ.tt (qn (by omega)) (EvQ.bind (R:=fun o:Int×Int×Bool=>SrcI code o.1 o.2.1) (EvQ.bind (qam 4 m c) ?_) ?_)
  ·rintro⟨D,F,H⟩ ⟨_,c⟩;refine EvQ.bif (fun _=>?_) (fun _=>EvQ.done c);refine EvQ.bindN (qbe g) (EvQ.bif (fun _=>EvQ.done c) (fun _=>EvQ.bindN (qbe g) (EvQ.bif (fun _=>EvQ.done c) (fun _=>EvQ.done c))))
  ·rintro⟨v,z,I⟩ c;dsimp only at c ⊢;refine EvQ.bif (fun _=>?_) (fun _=>ih (j+1) x _ _ c (by omega) k f);refine EvQ.bindN (qbe g) (EvQ.bind (qam _ m c) ?_);rintro⟨A,B,C⟩ ⟨_,c⟩;have hi:=f _ (jo g);have r:0<x[j].Aj.length:=by have:=hi.l2;omega
   refine EvQ.bindN (b:=x[j].Aj[0]) (qbe (j:=0) r) ?_;refine ih (j+1) _ _ _ c (by omega) (by rw[qaZ];exact k) (qij f ⟨⟨hi.ok.Bh,hi.ok.Bt,⟨by show(setS _ _ _).length≤_;rw[qaZ];exact hi.ok.Aj.1,qij hi.ok.Aj.2 (qaJ _)⟩⟩,by show _≤(setS _ _ _).length;rw[qaZ];exact hi.l2,by show(setS _ _ _).length≤_;rw[qaZ];exact hi.l5⟩)
structure DesI (d:qf):Prop where
 ok:qjC d
 sm:smallD d
 n1:1≤d.Aj.length
 p1:1≤d.Ah.length
theorem qtS {most:Int}{wild:Bool}(K:2≤most)(J:most≤14)(g:CodeOk code)(h:SrcI code a s) :
  EvQ (fun n=>qjq n ⟨code,a,s⟩ most wild) (fun o=>DesI o.1∧SrcI code o.2.1 o.2.2):=by
 have z:∀ x:Int,-1000≤x→x≤1000→okI x:=fun x F K=>qax (by omega) (by omega);unfold qjq;refine EvQ.bindN (ql9 (by simp)) (EvQ.bind (qam _ g h) ?_);rintro⟨u,O,S⟩ ⟨⟨⟨q0,C⟩,_⟩,b⟩;have I:W64 (most-1)=most-1:=qU (by omega) (by omega);rw[I] at C;dsimp only at q0 C b ⊢;have q2:=C (by omega);obtain⟨m,M⟩:∃ m:Nat,2+u=(m:Int):=⟨(2+u).toNat,by omega⟩;rw[wO (2+u),M];have r:∀ y,y ∈ [(⟨#[110,99,107]⟩:ByteArray),(⟨#[110,97]⟩:ByteArray),(⟨#[110,98]⟩:ByteArray)]→okS y:=by
  intro y f;simp only[jJ,jy,or_false] at f;rcases f with rfl|rfl|rfl
  ·show(3:Nat)≤1048576;decide
  ·show(2:Nat)≤1048576;decide
  ·show(2:Nat)≤1048576;decide
 refine EvQ.bind (quC g m _ [] O S b (by simp;omega) Z r (fun _ h=>by cases h)) ?_;rintro⟨p,D,i4,i5,i6⟩ ⟨⟨A,B,H,hi⟩,b⟩;dsimp only at A B H hi b ⊢;have B:D.length=m:=by simpa using B
 refine EvQ.bind (qv1 (wild:=wild) (by omega) (by omega) g D.length 0 D i4 i5 b (by omega) Z hi) ?_;rintro⟨c,P,Q,R⟩ ⟨⟨v,d⟩,b⟩;dsimp only at v d b ⊢;have N:∀ y,y ∈ [(⟨(⟨#[99,107]⟩:ByteArray),1,0⟩:qav),(⟨(⟨#[97]⟩:ByteArray),1,1⟩:qav),(⟨(⟨#[98]⟩:ByteArray),1,2⟩:qav)]→qqk y:=by
  intro y f;simp only[jJ,jy,or_false] at f;rcases f with rfl|rfl|rfl
  ·exact⟨by show(2:Nat)≤1048576;decide,z _ (by decide) (by decide),z _ (by decide) (by decide)⟩
  ·exact⟨by show(1:Nat)≤1048576;decide,z _ (by decide) (by decide),z _ (by decide) (by decide)⟩
  ·exact⟨by show(1:Nat)≤1048576;decide,z _ (by decide) (by decide),z _ (by decide) (by decide)⟩
 refine EvQ.bindN (ql9 (by simp)) (EvQ.bindN (qcq (by simp)) (EvQ.bind (qam 2 g b) ?_));have l:=qbQ (y:=(⟨(⟨#[121]⟩:ByteArray),2,W64 ((p.length:Int)-1)⟩:qav)) N ⟨by show(1:Nat)≤1048576;decide,z 2 (by decide) (by decide),qaJ _⟩;have fin:∀ {ps:List qav},1≤ps.length→ps.length≤8→(∀ y,y ∈ ps→qqk y)→DesI ⟨c,p,ps⟩:=fun {ps} F L t=>by
  refine⟨⟨⟨by show c.length≤_;omega,fun y f=>(d y f).ok⟩,⟨by show p.length≤_;omega,H⟩,⟨by show ps.length≤_;omega,t⟩⟩,⟨by show c.length≤_;omega,by show p.length≤_;omega,L,fun i hi=>?_⟩,by show 1≤p.length;omega,F⟩;have k:i<c.length:=hi;have:=d _ (jo k);show 2≤(gt c i).Aj.length∧(gt c i).Aj.length≤5;rw[qef k];exact⟨this.l2,this.l5⟩
 rintro⟨T,W,X⟩ ⟨_,b⟩;refine EvQ.bif (fun _=>?_) (fun _=>EvQ.done ⟨fin (by simp) (by simp) l,b⟩);refine EvQ.bind (qam _ g b) ?_;rintro⟨Y,e,a3⟩ ⟨_,b⟩;exact EvQ.bindN (qcq (by simp)) (EvQ.done ⟨fin (by simp) (by simp) (qbQ l ⟨by show(1:Nat)≤1048576;decide,z 2 (by decide) (by decide),qaJ _⟩),b⟩)
end

section
variable {code:List (IntK .u8)}{a s:Int}
structure WirI (x:qae):Prop where
 ok:qnc x
 p1:1≤x.Ak.length∧x.Ak.length≤100
 r1:1≤x.Bu.length
 c1:1≤x.Bp.length
 s1:x.Bj.length≤100
theorem qow {xs:List Int}(h:xs.length≤1048576):Ev (fun n=>qd9 n xs) xs:=by
 unfold qd9;exact Ev.bindN (ql9 h) .done
theorem quX (t:CodeOk code):∀ (r:Nat) (d f g:List Int) (h m:Int),SrcI code h m→r≤10→(1≤d.length∧d.length+r≤50)→(1≤f.length∧f.length+r≤50)→(1≤g.length∧g.length+r≤50) →
  (∀ y,y ∈ d→okI y)→(∀ y,y ∈ f→okI y)→(∀ y,y ∈ g→okI y) →
  EvQ (fun n=>qcZ ⟨code,a,s⟩ n d f g h m (r:Int)) (fun o=>(((1≤o.1.length∧o.1.length≤50)∧∀ y,y ∈ o.1→okI y)∧((1≤o.2.1.length∧o.2.1.length≤50)∧∀ y,y ∈ o.2.1→okI y)∧(1≤o.2.2.1.length∧o.2.2.1.length≤50)∧∀ y,y ∈ o.2.2.1→okI y)∧SrcI code o.2.2.2.1 o.2.2.2.2.1):=by
 intro r
 induction r with
 | zero=>
  intro d f g h m c F u l2 v i l p;refine EvQ.succ ?_;simp only[qcZ];exact EvQ.ff Z (EvQ.done ⟨⟨⟨⟨u.1,by dsimp only;omega⟩,i⟩,⟨⟨l2.1,by dsimp only;omega⟩,l⟩,⟨v.1,by dsimp only;omega⟩,p⟩,c⟩)
 | succ r ih=>
  intro d f g h m c F u l2 v i l p;have e:W64 (((r+1:Nat):Int)-1)=(r:Int):=by rw[qU (by omega) (by omega)];omega
  have b:∀ {x:Int} {k:Int},0≤x→x<k→k≤1000→okI x:=fun Q i l=>qax (by omega) (by omega);refine EvQ.succ ?_;simp only[qcZ,e];refine EvQ.tt (by simp) (EvQ.bindE (qow (by omega)) (EvQ.bind (qam _ t c) ?_));rintro⟨H,I,J⟩ ⟨⟨⟨z,p1⟩,_⟩,c⟩;refine EvQ.bindN (qcq (by omega)) (EvQ.bindE (qow (by omega)) (EvQ.bind (qam _ t c) ?_));rintro⟨K,L,M⟩ ⟨⟨⟨A,B⟩,_⟩,c⟩;refine EvQ.bindN (qcq (by omega)) (EvQ.bindE (qow (by omega)) (EvQ.bind (qam _ t c) ?_));rintro⟨N,O,P⟩ ⟨⟨⟨C,D⟩,_⟩,c⟩;dsimp only at z p1 A B C D c;refine EvQ.bindN (qcq (by omega)) ?_;exact ih _ _ _ _ _ c (by omega) (by rw[jg,ji];omega) (by rw[jg,ji];omega) (by rw[jg,ji];omega)
   (qbQ i (b C (D (by decide)) (by decide))) (qbQ l (b A (B (by decide)) (by decide))) (qbQ p (b z (p1 (by omega)) (by omega)))
theorem quA {r1:qae}{i:List Int}(l:CodeOk code)(z:r1.Bj.length≤100)(v:1≤i.length∧i.length≤50):∀ (d j:Nat) (x:List Int) (f g:Int),SrcI code f g→j+d=r1.Bj.length→x.length=r1.Bj.length→(∀ y,y ∈ x→okI y) →
  EvQ (fun n=>qcW ⟨code,a,s⟩ r1 i n x f g (j:Int)) (fun o=>(o.1.length=r1.Bj.length∧∀ y,y ∈ o.1→okI y)∧SrcI code o.2.1 o.2.2.1):=by
 intro d
 induction d with
 | zero=>
  intro j x f g c m h b;refine EvQ.succ ?_;simp only[qcW];exact EvQ.ff (qq (by omega)) (EvQ.done ⟨⟨h,b⟩,c⟩)
 | succ d ih=>
  intro j x f g c m h b;refine EvQ.succ ?_;simp only[qcW,wS j];refine EvQ.tt (qn (by omega)) (EvQ.bind (qam _ l c) ?_);rintro⟨p,r,t⟩ ⟨⟨⟨u,k⟩,_⟩,c⟩;dsimp only at u k c ⊢;have A:=k (by omega);exact EvQ.bindN (qbe (show j<x.length by omega)) (ih (j+1) _ _ _ c (by omega) (by rw[qaZ];exact h) (qij b (qax (by omega) (by omega))))
theorem qvE {m:Nat}(S:m≤100)(c:CodeOk code)(h:SrcI code a s):EvQ (fun n=>qg3 n ⟨code,a,s⟩ (m:Int)) (fun o=>WirI o.1∧SrcI code o.2.1 o.2.2):=by
 have z:∀ x:Int,-1000≤x→x≤1000→okI x:=fun x f g=>qax (by omega) (by omega);unfold qg3;refine EvQ.bind (qam 6 c h) ?_;rintro⟨d,T,W⟩ ⟨⟨⟨O,p1⟩,_⟩,b⟩;dsimp only at O p1 b ⊢;have Y:=p1 (by decide);have D:Ev (fun n=>qin n (m:Int) d) (⟨[-1],[0],[d],List.replicate m 0⟩:qae):=by
  unfold qin;exact Ev.bindN (qj1 (by omega)) .done
 refine EvQ.bindE D (EvQ.bind (qam 4 c b) ?_);rintro⟨t,K,L⟩ ⟨⟨⟨P,A⟩,_⟩,b⟩;dsimp only at P A b ⊢;have e:=A (by decide);obtain⟨r,rfl⟩:∃ r:Nat,t=(r:Int):=⟨t.toNat,by omega⟩;have one:∀ {x:Int},okI x→∀ y,y ∈ [x]→okI y:=fun F y i=>by obtain rfl:=List.mem_singleton.1 i;exact F
 refine EvQ.bind (quX c r [d] [0] [-1] K L b (by omega) (by simp;omega) (by simp;omega) (by simp;omega) (one (z _ (by omega) (by omega))) (one (z _ (by decide) (by decide))) (one (z _ (by decide) (by decide)))) ?_;rintro⟨Q,R,B,M,N,X⟩ ⟨⟨⟨u,f⟩,⟨l2,g⟩,k,p⟩,b⟩;dsimp only at u f l2 g k p b ⊢;refine EvQ.bind (quA (r1:=⟨[-1],[0],[d],List.replicate m 0⟩) c (by simp;omega) k m 0 (List.replicate m 0) M N b (by simp) Z (fun y i=>by obtain⟨_,rfl⟩:=List.mem_replicate.1 i;exact z _ (by decide) (by decide))) ?_;rintro⟨l,H,I,J⟩ ⟨⟨v,C⟩,b⟩;have v:l.length=m:=by simpa using v
 exact EvQ.done ⟨⟨⟨⟨by show B.length≤_;omega,p⟩,⟨by show R.length≤_;omega,g⟩,⟨by show Q.length≤_;omega,f⟩,⟨by show l.length≤_;omega,C⟩⟩,⟨k.1,by show B.length≤_;omega⟩,l2.1,u.1,by show l.length≤_;omega⟩,b⟩
structure BlkI (b:qe):Prop where
 lib:qgN b.Ap
 des:DesI b.Aa
 wl:b.Af.length=b.Aa.Aj.length
 wi:∀ y,y ∈ b.Af→WirI y
theorem BlkI.ok {b:qe}(h:BlkI b):qil b:=⟨h.lib,h.des.ok,⟨by rw[h.wl];exact h.des.ok.Aj.1,fun y a=>(h.wi y a).ok⟩⟩
theorem qme {most:Int}{wild:Bool}(u:2≤most)(m:most≤14)(p:CodeOk code)(h:SrcI code a s) :
  EvQ (fun n=>qee n ⟨code,a,s⟩ most wild) (fun o=>BlkI o.1∧SrcI code o.2.1 o.2.2):=by
 unfold qee;refine EvQ.bind (qv0 p h) ?_;rintro⟨r1,J,K⟩ ⟨r,b⟩;refine EvQ.bind (qtS u m p b) ?_;rintro⟨c,F,H⟩ ⟨g,b⟩;dsimp only at r g b ⊢;have A:=g.sm.nn;have B:=qaE g.sm;have i:∀ (d j:Nat) (x:List qae) (k l:Int),SrcI code k l→j+d=c.Aj.length→x.length=j→(∀ y,y ∈ x→WirI y) →
   EvQ (fun n=>qeT ⟨code,a,s⟩ c n x k l (j:Int)) (fun o=>(o.1.length=c.Aj.length∧∀ y,y ∈ o.1→WirI y)∧SrcI code o.2.1 o.2.2.1):=by
  intro d
  induction d with
  | zero=>
   intro j x k l b z D f;refine EvQ.succ ?_;simp only[qeT];exact EvQ.ff (qq (by omega)) (EvQ.done ⟨⟨by dsimp only;omega,f⟩,b⟩)
  | succ d ih=>
   intro j x k l b z D f;refine EvQ.succ ?_;simp only[qeT,wS j];have C:(sinksL c (j:Int) (places c).length).length≤78:=by
    have:(sinksL c (j:Int) (places c).length).length≤(places c).length:=by
     unfold sinksL;rw[jx];refine jX (List.length_filter_le _ _) ?_;rw[List.length_range];exact je _
    omega
   refine EvQ.tt (qn (by omega)) (EvQ.bindE (qkl g.sm) (EvQ.bind (qvE (by omega) p b) ?_));rintro⟨Q,O,P⟩ ⟨v,b⟩;exact EvQ.bindN (qcq (by omega)) (ih (j+1) _ _ _ b (by omega) (by rw[jg,ji];omega) (qbQ f v))
 refine EvQ.bind (i c.Aj.length 0 [] F H b (by omega) Z (fun _ h=>by cases h)) ?_;rintro⟨R,L,M,N⟩ ⟨⟨I,t⟩,b⟩;exact EvQ.done ⟨⟨r,g,I,t⟩,b⟩
structure BlkO (b:qe):Prop where
 ok:qil b
 sm:smallD b.Aa
theorem qrH (g:CodeOk code)(h:SrcI code a s):EvQ (fun n=>qhx n ⟨code,a,s⟩) (fun o=>BlkO o.1∧SrcI code o.2.1 o.2.2):=by
 unfold qhx;refine EvQ.bind (qam 3 g h) ?_;rintro⟨X,Y,i3⟩ ⟨_,d⟩;refine EvQ.bind (qme (by decide) (by decide) g d) ?_;rintro⟨r1,i4,i5⟩ ⟨b,d⟩;dsimp only at b d ⊢;have D:1≤r1.Af.length:=by rw[b.wl];exact b.des.n1
 have F:r1.Af.length≤30:=by rw[b.wl];exact b.des.sm.nn
 refine EvQ.bind (qam _ g d) ?_;rintro⟨p,i7,i8⟩ ⟨⟨⟨O,r⟩,_⟩,d⟩;dsimp only at O r d ⊢;have q2:=r (by omega);obtain⟨k,rfl⟩:∃ k:Nat,p=(k:Int):=⟨p.toNat,by omega⟩;have i:k<r1.Af.length:=by omega
 have c:=b.wi _ (jo i);have W:∀ {y:qae},qnc y→BlkO ⟨r1.Ap,r1.Aa,setS r1.Af (k:Int) y⟩:=fun {y} h=>⟨⟨b.lib,b.des.ok,⟨by show(setS _ _ _).length≤_;rw[qaZ];omega,qij (fun y c=>(b.wi y c).ok) h⟩⟩,b.des.sm⟩;have z:∀ x:Int,-1000≤x→x≤1000→okI x:=fun x Q R=>qax (by omega) (by omega);have S:=c.p1;have T:=c.r1;have u:=c.c1;have B:=c.s1;refine EvQ.bind (qam 20 g d) ?_;rintro⟨i9,H,I⟩ ⟨_,d⟩;dsimp only at d ⊢;refine EvQ.bif (fun _=>?_) (fun _=>EvQ.bif (fun _=>?_) (fun _=>EvQ.bif (fun _=>?_) (fun _=>EvQ.bif (fun _=>?_) (fun _=>EvQ.bif (fun _=>?_) (fun _=>EvQ.bif (fun _=>?_) (fun _=>EvQ.done ⟨⟨b.ok,b.des.sm⟩,d⟩))))))
 ·have e:subS r1.Af 1 (r1.Af.length:Int)=V (r1.Af.drop 1):=by
   unfold subS;rw[if_pos (by omega)];simp
  refine EvQ.bindN e (EvQ.done ⟨⟨⟨b.lib,b.des.ok,⟨by show(r1.Af.drop 1).length≤_;rw[List.length_drop];omega,fun y c=>(b.wi y (List.mem_of_mem_drop c)).ok⟩⟩,b.des.sm⟩,d⟩)
 ·refine EvQ.bindN (qbe i) (EvQ.bindE (qow (by omega)) (EvQ.bindN (qcq (by omega)) (EvQ.done ⟨W ⟨c.ok.Ak,c.ok.Bu,c.ok.Bp,⟨by show(_++_:List Int).length≤_;rw[jg,ji];omega,qbQ c.ok.Bj.2 (z _ (by decide) (by decide))⟩⟩,d⟩)))
 ·refine EvQ.bindN (qbe i) (EvQ.bindN (qbe (j:=0) (show 0<r1.Af[k].Bu.length by omega)) (EvQ.done ⟨W ⟨c.ok.Ak,⟨by show(setS _ _ _).length≤_;rw[qaZ];exact c.ok.Bu.1,qij c.ok.Bu.2 (z _ (by decide) (by decide))⟩,c.ok.Bp,c.ok.Bj⟩,d⟩))
 ·refine EvQ.bindN (qbe i) (EvQ.bind (qam 3 g d) ?_);rintro⟨f,J,K⟩ ⟨⟨⟨P,t⟩,_⟩,d⟩;dsimp only at P t d ⊢;have t2:=t (by decide);have:f=0∨f=1∨f=2:=by omega
  have C:∃ v:Int,idx ([(-1),500,501]:List Int) f=V v∧okI v:=by
   rcases this with rfl|rfl|rfl
   ·exact⟨_,rfl,z _ (by decide) (by decide)⟩
   ·exact⟨_,rfl,z _ (by decide) (by decide)⟩
   ·exact⟨_,rfl,z _ (by decide) (by decide)⟩
  obtain⟨v,l,m⟩:=C;exact EvQ.bindN l (EvQ.bindN (qbe (j:=0) (show 0<r1.Af[k].Bp.length by omega)) (EvQ.done ⟨W ⟨c.ok.Ak,c.ok.Bu,⟨by show(setS _ _ _).length≤_;rw[qaZ];exact c.ok.Bp.1,qij c.ok.Bp.2 m⟩,c.ok.Bj⟩,d⟩))
 ·refine EvQ.bindN (qbe i) (EvQ.bind (qam 5 g d) ?_);rintro⟨L,M,N⟩ ⟨_,d⟩;have e:W64 ((r1.Af[k].Ak.length:Int)-1)=((r1.Af[k].Ak.length-1:Nat):Int):=by rw[qU (by omega) (by omega)];omega
  dsimp only;rw[e];exact EvQ.bindN (qbe (show r1.Af[k].Ak.length-1<r1.Af[k].Ak.length by omega)) (EvQ.done ⟨W ⟨⟨by show(setS _ _ _).length≤_;rw[qaZ];exact c.ok.Ak.1,qij c.ok.Ak.2 (qaJ _)⟩,c.ok.Bu,c.ok.Bp,c.ok.Bj⟩,d⟩)
 ·have A:=b.des.p1;refine EvQ.bindN (qbe (j:=0) (show 0<r1.Aa.Ah.length by omega)) (EvQ.done ⟨⟨⟨b.lib,⟨b.des.ok.Ab,b.des.ok.Aj,⟨by show(setS _ _ _).length≤_;rw[qaZ];exact b.des.ok.Ah.1,qij b.des.ok.Ah.2 ⟨(b.des.ok.Ah.2 _ (jo _)).Bh,z 3 (by decide) (by decide),(b.des.ok.Ah.2 _ (jo _)).Bz⟩⟩⟩,b.ok.Af⟩,⟨b.des.sm.ni,b.des.sm.nn,by show(setS _ _ _).length≤_;rw[qaZ];exact b.des.sm.np,b.des.sm.nx⟩⟩,d⟩)
end

def sumZ (f:Nat→Int):Nat→Int
 | 0=>0
 | n+1=>sumZ f n+f n
theorem qsd {f g:Nat→Int}{n:Nat}(h:∀ u,u<n→f u=g u):sumZ f n=sumZ g n:=by
 induction n with
 | zero=>rfl
 | succ n ih=>unfold sumZ;rw[ih (fun u a=>h u (by omega)),h n (by omega)]
theorem qrh {f g:Nat→Int}{a n:Nat}(d:a<n)(h:∀ u,u<n→u ≠ a→f u=g u):sumZ f n=sumZ g n+(f a-g a):=by
 induction n with
 | zero=>omega
 | succ n ih=>
  unfold sumZ;by_cases b:a=n
  ·subst b;rw[qsd (fun u c=>h u (by omega) (by omega))];omega
  ·rw[ih (by omega) (fun u c=>h u (by omega)),h n (by omega) (by omega)];omega
theorem quB {f:Nat→Int}{n:Nat}(h:∀ u,u<n→0≤f u):0≤sumZ f n:=by
 induction n with
 | zero=>exact jS _
 | succ n ih=>unfold sumZ;have:=ih (fun u a=>h u (by omega));have:=h n (by omega);omega
theorem qqb {f:Nat→Int}{a n:Nat}(h:∀ u,u<n→0≤f u)(d:a<n):f a≤sumZ f n:=by
 induction n with
 | zero=>omega
 | succ n ih=>
  unfold sumZ;by_cases b:a=n
  ·subst b;have:=quB (fun u (c:u<a)=>h u (by omega));omega
  ·have:=ih (fun u c=>h u (by omega)) (by omega);have:=h n (by omega);omega
theorem qur {f:Nat→Int}{n:Nat}{c:Int}(h:∀ u,u<n→f u≤c):sumZ f n≤n*c:=by
 induction n with
 | zero=>simp[sumZ]
 | succ n ih=>
  unfold sumZ;have:=ih (fun u a=>h u (by omega));have:=h n (by omega);rw[Int.natCast_succ,Int.add_mul];omega
def pinCap (b:qe)(p:Tplace):Int:=bif decide (p.instance_<0) then 0 else(gt (cellAt b p.instance_).Be p.pin.toNat).Bp
def capJ (b:qe)(j:Nat):Int:=pinCap b (gt (places b.Aa) j)
theorem qts {b:qe}(h:blockB b=true){j:Nat}(d:j<(places b.Aa).length){n:Nat}:qgs n b.Aa b.Ap (gt (places b.Aa) j)=V (capJ b j):=by
 have c:=qao h;unfold capJ pinCap;rcases qkn d with⟨i,k,hi,hk,_,e⟩|⟨i,hi,_,e⟩
 ·rw[e];obtain⟨⟨a,c1⟩,f,_⟩:=qha c hi;unfold place1 cellAt;simp only[qgs,show decide ((i:Int)<0)=false by simp,cond_false,qw hi,jd,qfM a c1,jr,qw (show k<(gt b.Ap.Aq (gt b.Aa.Ab i).Bt.toNat).Be.length by omega)]
 ·rw[e];rfl
theorem qtG {b:qe}(h:blockB b=true){j:Nat}(f:j<(places b.Aa).length):0≤capJ b j∧capJ b j≤500:=by
 have d:=qao h;unfold capJ pinCap;rcases qkn f with⟨i,k,hi,hk,_,e⟩|⟨i,hi,_,e⟩
 ·rw[e];obtain⟨⟨g,c1⟩,l,c⟩:=qha d hi;unfold place1 cellAt;simp only[show decide ((i:Int)<0)=false by simp,cond_false,jr];have a:=qiC c;unfold pinsB at a;rw[jf,qaA] at a;have:=a.1 k (by omega);unfold pinB at this;cases hl:decide (k+1=(gt b.Ap.Aq (gt b.Aa.Ab i).Bt.toNat).Be.length)
  ·rw[hl] at this;simp only[cond_false,jf,qa5] at this;exact this.2
  ·rw[hl] at this;simp only[cond_true,jf,beq_iff_eq] at this;omega
 ·rw[e];exact⟨jS _,show(0:Int)≤500 by omega⟩
def skL (b:qe)(i:Nat):List Int:=sinksL b.Aa (i:Int) (places b.Aa).length
def addSink (b:qe)(w:qae)(sk:List Int)(t:List Int)(j:Nat):List Int:=setS t (at0 w.Bj j) (W64 (gt t (at0 w.Bj j).toNat+capJ b (at0 sk j).toNat))
def ldA (b:qe)(w:qae)(sk:List Int):Nat→List Int
 | 0=>w.Bp
 | j+1=>addSink b w sk (ldA b w sk j) j
def addUp (w:qae)(t:List Int)(j:Nat):List Int:=setS t (at0 w.Ak j) (W64 (gt t (at0 w.Ak j).toNat+gt t j))
def ldB (w:qae):Nat→List Int→List Int
 | 0,t=>t
 | j+1,t=>ldB w j (addUp w t (j+1))
def loadsL (b:qe)(i:Nat):List Int:=ldB (gt b.Af i) ((gt b.Af i).Ak.length-1) (ldA b (gt b.Af i) (skL b i) (skL b i).length)
theorem qnh {b:qe}{w:qae}{sk:List Int}{j:Nat}:(ldA b w sk j).length=w.Bp.length:=by
 induction j with
 | zero=>rfl
 | succ j ih=>unfold ldA addSink;rw[qaZ,ih]
theorem qu7 {w:qae}{j:Nat}{t:List Int}:(ldB w j t).length=t.length:=by
 induction j generalizing t with
 | zero=>rfl
 | succ j ih=>unfold ldB addUp;rw[ih,qaZ]
theorem qlb {b:qe}(h:blockB b=true){i:Nat}(hi:i<b.Af.length):(loadsL b i).length=(gt b.Af i).Ak.length:=by
 unfold loadsL;rw[qu7,qnh,(qbw h hi).cap]
theorem qgV {b:qe}(h:blockB b=true){i:Nat}:(skL b i).length≤78:=by
 have a:=qaE (qW (qao h));unfold skL;rw[qiF];have:cntP (snkQ b.Aa (i:Int)) (places b.Aa).length≤(places b.Aa).length:=qfY;omega
theorem qmR {b:qe}{i j:Nat}(a:j<(skL b i).length):∃ y:Nat,y<(places b.Aa).length∧at0 (skL b i) j=(y:Int)∧snkQ b.Aa (i:Int) y=true:=by
 obtain⟨y,c,d,f⟩:=qsI a;exact⟨y,c,by have:=d;rw[show(sinksL b.Aa (i:Int) (places b.Aa).length)=skL b i from rfl,qas a] at this;exact Option.some.inj this,f⟩
theorem qmV {b:qe}(h:blockB b=true){i:Nat}(hi:i<b.Af.length):Ev (fun n=>qdE n b (i:Int)) (loadsL b i):=by
 have c:=qbw h hi;have m:=qW (qao h);have u:=c.lo;have r:=c.hi;have d:=c.cap;have x:=qgV h (i:=i);have e1:Ev (fun n=>qbk b (gt b.Af i) (places b.Aa) (skL b i) n (gt b.Af i).Bp 0) (ldA b (gt b.Af i) (skL b i) (skL b i).length,((skL b i).length:Int)):=by
  refine loopF (Lf:=qbk b (gt b.Af i) (places b.Aa) (skL b i)) (S:=ldA b (gt b.Af i) (skL b i)) (len:=(skL b i).length) (fun n=>?_) (fun j a X l=>?_)
  ·simp only[qbk,qq (je _),cond_false]
  ·obtain⟨y,o,k,_⟩:=qmR a;have f:j<(gt b.Af i).Bj.length:=by rw[c.snk];exact a
   have g:=c.sin j f;have s:=qnh (b:=b) (w:=gt b.Af i) (sk:=skL b i) (j:=j);simp only[qbk,qn a,cond_true,qas a,k,jd,qas f,qfM g.1 (show at0 (gt b.Af i).Bj j<((ldA b (gt b.Af i) (skL b i) j).length:Int) by omega),qw o,qts h o,wS j];have:ldA b (gt b.Af i) (skL b i) (j+1)=setS (ldA b (gt b.Af i) (skL b i) j) (at0 (gt b.Af i).Bj j) (W64 (gt (ldA b (gt b.Af i) (skL b i) j) (at0 (gt b.Af i).Bj j).toNat+capJ b y)):=by
    show addSink _ _ _ _ _=_;unfold addSink;rw[k,jr]
   rw[this] at l;exact l
 have p:∀ j t,t.length=(gt b.Af i).Ak.length→j<(gt b.Af i).Ak.length→Ev (fun n=>qbl (gt b.Af i) n t (j:Int)) (ldB (gt b.Af i) j t,0):=by
  intro j
  induction j with
  | zero=>
   intro t _ _;refine Ev.succ ?_;show Ev (fun n=>qbl (gt b.Af i) (n+1) t 0) _;unfold qbl;exact Ev.ff Z .done
  | succ j ih=>
   intro t z a;have v:=c.par (j+1) (by omega) a;refine Ev.succ ?_;simp only[qbl,show decide (((j+1:Nat):Int) > 0)=true from decide_eq_true (by omega),cond_true,qas a,jd,qfM v.1 (show at0 (gt b.Af i).Ak (j+1)<(t.length:Int) by omega),qw (show j+1<t.length by omega),show((j+1:Nat):Int)-1=(j:Int) by omega,qU (show -9223372036854775808≤(j:Int) by omega) (by omega)];exact ih _ (by rw[qaZ];exact z) (by omega)
 unfold qdE qhL;rw[qw hi];simp only[jd,qcI (show([]:List Int).length+(gt b.Af i).Bp.length≤2147483648 by simp;omega),List.nil_append];refine Ev.bind (qmf m) (Ev.bind (qpt m) (Ev.bind e1 ?_));rw[qfg (show(gt b.Af i).Bp.length≤9223372036854775807 by omega),show((gt b.Af i).Bp.length:Int)-1=(((gt b.Af i).Ak.length-1:Nat):Int) by omega];exact Ev.bind (p _ _ (by rw[qnh];exact d) (by omega)) .done
structure LdOk (t:List Int)(L:Nat)(S:Int):Prop where
 len:t.length=L
 nn:∀ k,k<L→0≤gt t k
 sum:sumZ (gt t) L≤S
theorem qla {t:List Int}{a:Nat}{y:Int}{k:Nat}(b:a<t.length):gt (setS t (a:Int) y) k=if k=a then y else gt t k:=by
 unfold setS;rw[jr];by_cases h:k=a
 ·subst h;rw[if_pos Z,qn3 b]
 ·rw[if_neg h,qpF h]
theorem qvA {b:qe}(h:blockB b=true){i:Nat}(hi:i<b.Af.length)(m:∀ k,k<(gt b.Af i).Bp.length→0≤gt (gt b.Af i).Bp k∧gt (gt b.Af i).Bp k≤500) :
  ∀ j,j≤(skL b i).length→LdOk (ldA b (gt b.Af i) (skL b i) j) (gt b.Af i).Ak.length (4000+500*j):=by
 have p:=qbw h hi;have z:=p.hi;have l:=p.cap;have A:=qgV h (i:=i);intro j
 induction j with
 | zero=>
  intro _;refine⟨l,fun k t=>(m k (by omega)).1,?_⟩;have:=qur (f:=gt (gt b.Af i).Bp) (n:=(gt b.Af i).Ak.length) (c:=500) (fun u I=>(m u (by omega)).2);show sumZ (gt (gt b.Af i).Bp) _≤_;omega
 | succ j ih=>
  intro F;obtain⟨C,n1,s1⟩:=ih (by omega);obtain⟨y,B,v,_⟩:=qmR (show j<(skL b i).length by omega);have D:=qtG h B;have o:=p.sin j (by rw[p.snk];exact(show j<(skL b i).length by omega));obtain⟨a,s⟩:∃ a:Nat,at0 (gt b.Af i).Bj j=(a:Int):=⟨_,qeO o.1⟩;rw[s] at o;have d:a<(gt b.Af i).Ak.length:=by omega
  have x:=qqb n1 d;have H:=n1 a d;have e:ldA b (gt b.Af i) (skL b i) (j+1)=setS (ldA b (gt b.Af i) (skL b i) j) (a:Int) (gt (ldA b (gt b.Af i) (skL b i) j) a+capJ b y):=by
   show addSink _ _ _ _ _=_;unfold addSink;rw[v,s,jr,jr,qU (by omega) (by omega)]
  rw[e];refine⟨by rw[qaZ];exact C,fun k t=>?_,?_⟩
  ·rw[qla (by omega)];split
   ·omega
   ·exact n1 k t
  ·rw[qrh (g:=gt (ldA b (gt b.Af i) (skL b i) j)) d (fun u _ r=>by rw[qla (by omega),if_neg r]),qla (by omega),if_pos Z];omega
theorem qvx {b:qe}(h:blockB b=true){i:Nat}(hi:i<b.Af.length){S:Int}(A:S≤1000000000):∀ j t,j<(gt b.Af i).Ak.length→t.length=(gt b.Af i).Ak.length→(∀ k,k<t.length→0≤gt t k∧gt t k≤S)→sumZ (gt t) (j+1)≤S →
  ∀ k,k<t.length→0≤gt (ldB (gt b.Af i) j t) k∧gt (ldB (gt b.Af i) j t) k≤S:=by
 have x:=qbw h hi;intro j
 induction j with
 | zero=>intro t _ _ c _;exact c
 | succ j ih=>
  intro t s v c r;have p:=x.par (j+1) (by omega) s;obtain⟨a,o⟩:∃ a:Nat,at0 (gt b.Af i).Ak (j+1)=(a:Int):=⟨_,qeO p.1⟩;rw[o] at p;have y:=c a (by omega);have z:=c (j+1) (by omega);have e:addUp (gt b.Af i) t (j+1)=setS t (a:Int) (gt t a+gt t (j+1)):=by
   unfold addUp;rw[o,jr,qU (by omega) (by omega)]
  have n:sumZ (gt (setS t (a:Int) (gt t a+gt t (j+1)))) (j+1)≤S:=by
   rw[qrh (g:=gt t) (a:=a) (by omega) (fun u _ l=>by rw[qla (by omega),if_neg l]),qla (by omega),if_pos Z];have:sumZ (gt t) (j+1+1)=sumZ (gt t) (j+1)+gt t (j+1):=rfl;omega
  unfold ldB;rw[e];have:=ih (setS t (a:Int) (gt t a+gt t (j+1))) (by omega) (by rw[qaZ];exact v) (fun k f=>by
   rw[qaZ] at f;have m:∀ u,u<j+1→0≤gt (setS t (a:Int) (gt t a+gt t (j+1))) u:=fun u B=>by
    rw[qla (by omega)];split
    ·omega
    ·exact(c u (by omega)).1
   have d:=qqb m (show a<j+1 by omega);rw[qla (by omega)] at d ⊢;rw[if_pos Z] at d;split
   ·omega
   ·exact c k f) n
  rw[qaZ] at this;exact this
theorem qn7 {b:qe}(h:blockB b=true){i:Nat}(hi:i<b.Af.length):(∀ k,k<(gt b.Af i).Bp.length→0≤gt (gt b.Af i).Bp k∧gt (gt b.Af i).Bp k≤500)∧(∀ k,k<(gt b.Af i).Bu.length→0≤at0 (gt b.Af i).Bu k∧at0 (gt b.Af i).Bu k≤1000):=by
 unfold blockB at h;rw[jf,qaA] at h;have:=h.2 i hi;unfold wireB lenB at this;simp only[jf,decide_eq_true_eq,beq_iff_eq] at this;obtain⟨_,_,_,_,f,c,_⟩:=this;rw[qgE (d:=0),qaA] at f c;exact⟨fun k a=>by have:=c k a;rw[qa5] at this;exact this,fun k a=>by have:=f k a;rw[qa5] at this;exact this⟩
theorem qrK {b:qe}(h:blockB b=true){i:Nat}(hi:i<b.Af.length){k:Nat}(c:k<(gt b.Af i).Ak.length):0≤gt (loadsL b i) k∧gt (loadsL b i) k≤43000:=by
 have g:=qbw h hi;have d:=g.lo;have f:=qgV h (i:=i);obtain⟨l,n1,s1⟩:=qvA h hi (qn7 h hi).1 (skL b i).length (je _);have:=qvx h hi (S:=43000) (by omega) ((gt b.Af i).Ak.length-1) (ldA b (gt b.Af i) (skL b i) (skL b i).length) (by omega) l (fun k c=>by
  have a:=n1 k (by omega);have m:=qqb n1 (show k<(gt b.Af i).Ak.length by omega);exact⟨a,by omega⟩) (by rw[show(gt b.Af i).Ak.length-1+1=(gt b.Af i).Ak.length by omega];omega) k (by omega)
 exact this
def dlL (w:qae)(ld:List Int):Nat→List Int
 | 0=>[0]
 | k+1=>dlL w ld k++[W64 (gt (dlL w ld k) (at0 w.Ak (k+1)).toNat+W64 (at0 w.Bu (k+1)*gt ld (k+1)))]
theorem qne {w:qae}{ld:List Int}{k:Nat}:(dlL w ld k).length=k+1:=by
 induction k with
 | zero=>rfl
 | succ k ih=>unfold dlL;rw[jg,ih];rfl
def delaysL (b:qe)(i:Nat):List Int:=dlL (gt b.Af i) (loadsL b i) ((gt b.Af i).Ak.length-1)
def exactL (b:qe)(i:Nat):List Int:=(gt b.Af i).Bj.map fun s=>gt (delaysL b i) s.toNat
theorem qlZ {b:qe}(h:blockB b=true){i:Nat}(hi:i<b.Af.length):(delaysL b i).length=(gt b.Af i).Ak.length:=by
 unfold delaysL;rw[qne];have:=(qbw h hi).lo;omega
theorem quE {w:qae}{ld:List Int}{k m:Nat}(b:k+1<m)(c:at0 w.Ak (k+1)<((k+1:Nat):Int))(_:0≤at0 w.Ak (k+1)) :
  setS (dlL w ld k++List.replicate (m-(k+1)) 0) ((k+1:Nat):Int) (W64 (gt (dlL w ld k++List.replicate (m-(k+1)) 0) (at0 w.Ak (k+1)).toNat+W64 (at0 w.Bu (k+1)*gt ld (k+1))))=dlL w ld (k+1)++List.replicate (m-(k+1+1)) 0:=by
 have a:=qne (w:=w) (ld:=ld) (k:=k);have e1:gt (dlL w ld k++List.replicate (m-(k+1)) 0) (at0 w.Ak (k+1)).toNat=gt (dlL w ld k) (at0 w.Ak (k+1)).toNat:=by
  rw[qkB,if_pos (by omega)]
 rw[e1];unfold setS;rw[jr,List.set_append,if_neg (by omega),a,Nat.sub_self,show m-(k+1)=(m-(k+1+1))+1 by omega,List.replicate_succ,List.set_cons_zero];show _=(dlL w ld k++[_])++_;rw[jt]
 rfl
theorem qpz {b:qe}(h:blockB b=true){i:Nat}(hi:i<b.Af.length):Ev (fun n=>qeM n b (i:Int)) (delaysL b i):=by
 have f:=qbw h hi;have t:=f.lo;have r:=f.hi;have o:=f.res;have p:=qlb h hi;have l:mkS ((loadsL b i).length:Int) (0:Int)=V (List.replicate (loadsL b i).length 0):=qu2 (by omega);have c:∀ d k,k+1+d=(gt b.Af i).Ak.length→Ev (fun n=>qbK (gt b.Af i) (loadsL b i) (List.replicate (loadsL b i).length 0) n (dlL (gt b.Af i) (loadsL b i) k++List.replicate ((gt b.Af i).Ak.length-(k+1)) 0) ((k+1:Nat):Int)) (delaysL b i,((loadsL b i).length:Int)):=by
  intro d
  induction d with
  | zero=>
   intro k g;refine Ev.succ ?_;simp only[qbK,jL,qq (show(loadsL b i).length≤k+1 by omega),cond_false];refine Ev.now ?_;rw[show(gt b.Af i).Ak.length-(k+1)=0 by omega,List.replicate_zero,Jc,p,←g];unfold delaysL;rw[←g]
   rfl
  | succ d ih=>
   intro k g;have m:=f.par (k+1) (by omega) (by omega);have a:=qne (w:=gt b.Af i) (ld:=loadsL b i) (k:=k);have s:(dlL (gt b.Af i) (loadsL b i) k++List.replicate ((gt b.Af i).Ak.length-(k+1)) 0).length=(gt b.Af i).Ak.length:=by rw[jg,jL,a];omega
   refine Ev.succ ?_;simp only[qbK,jL,qn (show k+1<(loadsL b i).length by omega),cond_true,qas (show k+1<(gt b.Af i).Ak.length by omega),jd,qfM m.1 (show at0 (gt b.Af i).Ak (k+1)<((dlL (gt b.Af i) (loadsL b i) k++List.replicate ((gt b.Af i).Ak.length-(k+1)) 0).length:Int) by omega),
    qas (show k+1<(gt b.Af i).Bu.length by omega),qw (show k+1<(loadsL b i).length by omega),qw (show k+1<(dlL (gt b.Af i) (loadsL b i) k++List.replicate ((gt b.Af i).Ak.length-(k+1)) 0).length by omega),qgQ (show k+1<9223372036854775807 by omega)]
   rw[quE (by omega) m.2 m.1];exact ih (k+1) (by omega)
 unfold qeM;rw[qw hi];simp only[jd];refine Ev.bind (qmV h hi) ?_;rw[l];simp only[jd];have:=c ((gt b.Af i).Ak.length-1) 0 (by omega);have e0:dlL (gt b.Af i) (loadsL b i) 0++List.replicate ((gt b.Af i).Ak.length-(0+1)) 0=List.replicate (loadsL b i).length 0:=by
  rw[p];show[(0:Int)]++_=_;rw[show(gt b.Af i).Ak.length=((gt b.Af i).Ak.length-(0+1))+1 by omega,List.replicate_succ]
  rfl
 rw[e0] at this;exact Ev.bind this .done
theorem qoJ {b:qe}(h:blockB b=true){i:Nat}(hi:i<b.Af.length):Ev (fun n=>qd8 n b (i:Int)) (exactL b i):=by
 have d:=qbw h hi;have l:(gt b.Af i).Bj.length≤78:=by rw[d.snk];exact qgV h
 have k:=qlZ h hi;have f:Ev (fun n=>qa1 (delaysL b i) (gt b.Af i) n ([]:List Int) 0) (exactL b i,((gt b.Af i).Bj.length:Int)):=by
  refine loopF (Lf:=qa1 (delaysL b i) (gt b.Af i)) (S:=fun j=>((gt b.Af i).Bj.take j).map fun s=>gt (delaysL b i) s.toNat) (len:=(gt b.Af i).Bj.length) (fun n=>?_) (fun j a X g=>?_)
  ·simp only[qa1,qq (je _),cond_false,jC];rfl
  ·have c:=d.sin j a;simp only[qa1,qn a,cond_true,qas a,jd,qfM c.1 (show at0 (gt b.Af i).Bj j<((delaysL b i).length:Int) by omega),wS j];rw[qcI (by rw[jx,jB,ji];omega)];have:((gt b.Af i).Bj.take j).map (fun s=>gt (delaysL b i) s.toNat)++[gt (delaysL b i) (at0 (gt b.Af i).Bj j).toNat]=((gt b.Af i).Bj.take (j+1)).map fun s=>gt (delaysL b i) s.toNat:=by
    rw[jw a,jU,qlL a];rfl
   rw[this];exact g
 unfold qd8;refine Ev.bind (qpz h hi) ?_;rw[qw hi];simp only[jd];exact Ev.bind f .done
theorem qqU {b:qe}(h:blockB b=true){i:Nat}(hi:i<b.Af.length):∀ k,k<(gt b.Af i).Ak.length→∀ m,m≤k→0≤gt (dlL (gt b.Af i) (loadsL b i) k) m∧gt (dlL (gt b.Af i) (loadsL b i) k) m≤43000000*k:=by
 have l:=qbw h hi;have t:=l.hi;have r:=l.res;intro k
 induction k with
 | zero=>
  intro _ m u;have f:m=0:=by omega
  subst f;exact⟨jS _,jS _⟩
 | succ k ih=>
  intro o m u;have c:=qne (w:=gt b.Af i) (ld:=loadsL b i) (k:=k);unfold dlL;rw[qkB];split
  ·have:=ih (by omega) m (by omega);omega
  ·have g:m=k+1:=by omega
   subst g;rw[c,Nat.sub_self];show 0≤W64 _∧W64 _≤_;have p:=l.par (k+1) (by omega) o;obtain⟨a,s⟩:∃ a:Nat,at0 (gt b.Af i).Ak (k+1)=(a:Int):=⟨_,qeO p.1⟩;rw[s] at p ⊢;rw[jr];have v:=ih (by omega) a (by omega);have n:=(qn7 h hi).2 (k+1) (by omega);have d:=qrK h hi o;have x:at0 (gt b.Af i).Bu (k+1)*gt (loadsL b i) (k+1)≤1000*43000:=Ja n.2 d.2 d.1 (by omega);have y:0≤at0 (gt b.Af i).Bu (k+1)*gt (loadsL b i) (k+1):=jT n.1 d.1;rw[wO (at0 (gt b.Af i).Bu (k+1)*gt (loadsL b i) (k+1)),qU (by omega) (by omega)];omega
theorem qoV {b:qe}(h:blockB b=true){i:Nat}(hi:i<b.Af.length){j:Nat}(a:j<(gt b.Af i).Bj.length):0≤gt (exactL b i) j∧gt (exactL b i) j≤344000000:=by
 have c:=qbw h hi;have d:=c.hi;have f:=c.sin j a;have e:gt (exactL b i) j=gt (delaysL b i) (at0 (gt b.Af i).Bj j).toNat:=by
  unfold exactL;rw[qef (by rw[jx];exact a),List.getElem_map,qlL a]
 rw[e];have:=qqU h hi ((gt b.Af i).Ak.length-1) (by omega) (at0 (gt b.Af i).Bj j).toNat (by omega);show 0≤gt (dlL _ _ _) _∧gt (dlL _ _ _) _≤_;omega
end Go.Fw
