/- By a program of mine (gen.py): for each function a plain function and the proof that the code computes it. -/
import Derived.Test.YtbmbbkjleheokaaGreatDoorZ2
import Derived.Test.YtbmbbkjleheokaaGreatDoorA3
import Derived.Test.YtbmbbkjleheokaaGreatDoorFw35
import Derived.Test.YtbmbbkjleheokaaGreatDoorR2
open Option renaming bind_some → jd, some → V, none → U
open Nat renaming le_refl → je, zero_le → jZ, le_trans → Je, zero_add → Jf
open Bool renaming and_eq_true → jf, eq_iff_iff → jk, true_and → jB, not_eq_true' → jD, not_true → Jg
open List renaming length_append → jg, length_singleton → ji, getElem?_eq_getElem → jn, getElem_mem → jo, append_assoc → jt, length_map → jv, getD_eq_getElem?_getD → jx, not_mem_nil → jy, length_replicate → jC, take_succ_eq_append_getElem → jE, mem_cons → jG, take_length → jJ, map_append → jT, getElem_of_mem → jV, append_nil → Jc, length_take → Jd
open Int renaming toNat_natCast → jr, tdiv_eq_ediv_of_nonneg → jz, mul_nonneg → jP, le_refl → jR, mul_le_mul → jS

namespace Go.Fw
open Go Go.Proofs Go.Proofs.Tryz
open Go.RowKit (Below)
set_option maxRecDepth 100000
set_option maxHeartbeats 6400000
variable {n:Nat}{w:World}{cs1 cs2 cs3 cs4 cs5 cs6 cs7 cs8 cs9:List Value}
def qfV (n:Nat)(s:Tl01Source):Option (qv×Int×Int) :=(qu n (⟨s.code,s.at_,s.seed⟩:Tl01Source) 3).bind fun o=>match o with| (y,z,A) =>(idx ([(⟨#[115,108,111,119]⟩:ByteArray),(⟨#[102,97,115,116]⟩:ByteArray),(⟨#[116,121,112]⟩:ByteArray)]:List ByteArray) y).bind fun h =>(qu n (⟨s.code,z,A⟩:Tl01Source) 20).bind fun o=>match o with| (c,B,C) =>(qu n (⟨s.code,B,C⟩:Tl01Source) 20).bind fun o=>match o with| (g,i8,D) =>(qu n (⟨s.code,i8,D⟩:Tl01Source) 60).bind fun o=>match o with| (d,i,k) =>(qu n (⟨s.code,i,k⟩:Tl01Source) 40).bind fun o=>match o with| (f,l,m) =>(qu n (⟨s.code,l,m⟩:Tl01Source) 30).bind fun o=>match o with| (i16,a,b) =>bif (i16==0) then V ((⟨h,W64 (800+(W64 (10*c))),W64 ((W64 (800+(W64 (10*c))))-1),W64 (900+(W64 (10*g))),W64 ((W64 (900+(W64 (10*g))))+(W64 (9*f)))⟩:qv),a,b) else bif (i16==1) then(qu n (⟨s.code,a,b⟩:Tl01Source) 3).bind fun o=>match o with| (p,r,t) =>(idx ([99,100,(-1)]:List Int) p).bind fun F =>V ((⟨h,W64 (800+(W64 (10*c))),W64 ((W64 (800+(W64 (10*c))))+(W64 (7*d))),F,W64 ((W64 (900+(W64 (10*g))))+(W64 (9*f)))⟩:qv),r,t) else bif (i16==2) then(qu n (⟨s.code,a,b⟩:Tl01Source) 2).bind fun o=>match o with| (u,v,x) =>V ((⟨h,W64 (800+(W64 (10*c))),W64 ((W64 (800+(W64 (10*c))))+(W64 (7*d))),W64 (900+(W64 (10*g))),W64 (5000+u)⟩:qv),v,x) else bif (i16==3) then V ((⟨(⟨#[]⟩:ByteArray),W64 (800+(W64 (10*c))),W64 ((W64 (800+(W64 (10*c))))+(W64 (7*d))),W64 (900+(W64 (10*g))),W64 ((W64 (900+(W64 (10*g))))+(W64 (9*f)))⟩:qv),a,b) else V ((⟨h,W64 (800+(W64 (10*c))),W64 ((W64 (800+(W64 (10*c))))+(W64 (7*d))),W64 (900+(W64 (10*g))),W64 ((W64 (900+(W64 (10*g))))+(W64 (9*f)))⟩:qv),a,b)
theorem qk1 {n:Nat}{w0 w:World}{F:List Ch}{s:Tl01Source}{A:Nat}{p1:Option Addr}{k1:Nat}(h0:SH w0 w (xb A s p1 k1 s.at_ s.seed::F))(ha1:GoT.R w (Fr w0 F) s (qaw s p1 k1)){r:(qv×Int×Int)}(hF:qfV n s=V r):RetW prog 53 [.pointer (V ⟨A,0,U⟩)] w (fun us w'=>us=[GoT.v qv (qW r.1)]∧SH w0 w' (xb A s p1 k1 r.2.1 r.2.2::F)):=by
 have h:=SH.frm1 h0 ha1;refine qbA func53 Z (m:=58) Z Z (zSR (qj qa h Z Z Z fun w1 bb2 h=>zNS ?_));obtain⟨⟨_,_,_⟩,N,hF⟩:=qd hF;obtain⟨y1,a,hF⟩:=qd hF;obtain⟨⟨O,_,_⟩,c,hF⟩:=qd hF;obtain⟨⟨R,i8,i9⟩,b,hF⟩:=qd hF;refine qaF (fun e w'=>∃(B:Nat),e=[(0,.pointer (V ⟨A,0,U⟩)),(2,.pointer (V ⟨bb2,0,U⟩)),(3,.pointer (V ⟨B,0,U⟩))]∧SH w0 w' [Ch.box B [.string y1,.int .i64 (W64 (800+(W64 (10*O)))),.int .i64 0,.int .i64 (W64 (900+(W64 (10*R)))),.int .i64 0] 36,xb A s p1 k1 i8 i9,Ch.box bb2 [.string ByteArray.empty,.int .i64 0,.int .i64 0,.int .i64 0,.int .i64 0] 36,xf w0 w F s p1 k1]) ?_ ?_
 ·refine rA [15] [] h Z fun _ h=>M0 546 [1,5,9] (h.pick [] Z) Z (qht 0 2 14 Z Z Z (bits 16 547) (bits 16 550) (bits 16 16930) (by kernel_rfl) (by kernel_rfl) (by kernel_rfl)  (by kernel_rfl) ?_ ?_ ?_)
  ·refine qp qa [.const (.string (⟨#[115,108,111,119]⟩:ByteArray)),.const (.string (⟨#[102,97,115,116]⟩:ByteArray)),.const (.string (⟨#[116,121,112]⟩:ByteArray))] _ ([(⟨#[115,108,111,119]⟩:ByteArray),(⟨#[102,97,115,116]⟩:ByteArray),(⟨#[116,121,112]⟩:ByteArray)]:List ByteArray) h Z Z Z Z Z Z Z Z Z ⟨rfl,rfl,rfl,trivial⟩ Z fun _ _ _ h=>Ag (h.pick [] Z) (At 2 14 551 16931 Z ?_ ?_)
   ·replace h:=h.pick [2,0,1,3] Z;refine nxC h ((qb (h.frG 3 0 1 Z Z Z)).1) N Z Z Z fun _ h=>Ag (h.pick [] Z) ?_;have S:=qaI a;obtain⟨_,o_17,_,_,d,g,-,hr20,_⟩:=(h.sl 1 Z).1.at a;obtain rfl:=hr20;refine Ax 3 559 d g ⟨S.1,qC S.2.1 (h.sl 1 Z).2⟩ (h.pick [] Z) Z (qht 4 6 14 Z Z Z (bits 16 575) (bits 16 623) (bits 16 16943) (by kernel_rfl) (by kernel_rfl) (by kernel_rfl)  (by kernel_rfl) ?_ ?_ ?_)
    ·refine r_v (qbf qa (qB (w1:=w) (S1:=fun _=>False) h 1 Z a d g Z) (j:=0) Z Z Z) Z (Ag (h.pick [] Z) (At 6 14 639 16959 Z ?_ ?_))
     ·refine nxC h ((qb (h.frG 3 0 1 Z Z Z)).1) c Z Z Z fun _ h=>G0 1023 [7,8] (h.pick [] Z) Z (At 10 14 2047 17407 Z ?_ ?_)
      ·refine nxC h ((qb (h.frG 3 0 1 Z Z Z)).1) b Z Z Z fun _ h=>G0 8191 [11,12] (h.pick [] Z) Z (Aw 13 16383 (fun w' hw=>qq qa [0,1,3] [.tmp 8,.tmp 12,.tmp 16] Z Z Z Z Z Z Z Z) (h.pick [] Z) Z ?_);refine Ao 14 32767 Z (qj qa h Z Z Z fun _ _ h=>Ag (h.pick [] Z) (Ao 15 65535 Z (zs 0 h Z fun _ h=>qJ (fun hs=>absurd (hs 15 (by decide)) (by decide)) (Ad ?_))));replace h:=h.pick [0,1,3,4] Z;exact rG ⟨_,rfl,h⟩ Z
      refine qj qa h Z Z Z fun _ _ h=>Ag (h.pick [] Z) (Ao 10 18431 Z ?_);replace h:=h.pick [1,0,2,3,4] Z;refine nxC h ((qb (h.frG 4 0 1 Z Z Z)).1) b Z Z Z fun _ h=>G0 24575 [11,12] (h.pick [] Z) Z (Aw 13 32767 (fun w' hw=>qq qa [0,1,3] [.tmp 8,.tmp 12,.tmp 16] Z Z Z Z Z Z Z Z) (h.pick [] Z) Z ?_);refine Ao 15 65535 Z (zs 1 h Z fun _ h=>qJ (fun hs=>absurd (hs 15 (by decide)) (by decide)) (Ad ?_));replace h:=h.pick [1,0,3,4] Z;exact rG ⟨_,rfl,h⟩ Z
     refine qj qa h Z Z Z fun _ _ h=>Ag (h.pick [] Z) (Ao 6 17023 Z ?_);replace h:=h.pick [1,0,2,3,4] Z;refine nxC h ((qb (h.frG 4 0 1 Z Z Z)).1) c Z Z Z fun _ h=>G0 17407 [7,8] (h.pick [] Z) Z (Ao 10 18431 Z (nxC h ((qb (h.frG 4 0 1 Z Z Z)).1) b Z Z Z fun _ h=>G0 24575 [11,12] (h.pick [] Z) Z (Aw 13 32767 (fun w' hw=>qq qa [0,1,3] [.tmp 8,.tmp 12,.tmp 16] Z Z Z Z Z Z Z Z) (h.pick [] Z) Z ?_)));refine Ao 15 65535 Z (zs 1 h Z fun _ h=>qJ (fun hs=>absurd (hs 15 (by decide)) (by decide)) (Ad ?_));replace h:=h.pick [1,0,3,4] Z;exact rG ⟨_,rfl,h⟩ Z
    ·refine nxC h ((qb (h.frG 3 0 1 Z Z Z)).1) c Z Z Z fun _ h=>G0 1007 [7,8] (h.pick [] Z) Z (qht 4 10 14 Z Z Z (bits 16 1023) (bits 16 2031) (bits 16 17391) (by kernel_rfl) (by kernel_rfl) (by kernel_rfl)  (by kernel_rfl) ?_ ?_ ?_)
     ·refine r_v (qbf qa (qB (w1:=w) (S1:=fun _=>False) h 1 Z a d g Z) (j:=0) Z Z Z) Z (Ag (h.pick [] Z) (At 10 14 2047 17407 Z ?_ ?_))
      ·refine nxC h ((qb (h.frG 3 0 1 Z Z Z)).1) b Z Z Z fun _ h=>G0 8191 [11,12] (h.pick [] Z) Z (Aw 13 16383 (fun w' hw=>qq qa [0,1,3] [.tmp 8,.tmp 12,.tmp 16] Z Z Z Z Z Z Z Z) (h.pick [] Z) Z ?_);refine Ao 14 32767 Z (qj qa h Z Z Z fun _ _ h=>Ag (h.pick [] Z) (Ao 15 65535 Z (zs 0 h Z fun _ h=>qJ (fun hs=>absurd (hs 15 (by decide)) (by decide)) (Ad ?_))));replace h:=h.pick [0,1,3,4] Z;exact rG ⟨_,rfl,h⟩ Z
      refine qj qa h Z Z Z fun _ _ h=>Ag (h.pick [] Z) (Ao 10 18431 Z ?_);replace h:=h.pick [1,0,2,3,4] Z;refine nxC h ((qb (h.frG 4 0 1 Z Z Z)).1) b Z Z Z fun _ h=>G0 24575 [11,12] (h.pick [] Z) Z (Aw 13 32767 (fun w' hw=>qq qa [0,1,3] [.tmp 8,.tmp 12,.tmp 16] Z Z Z Z Z Z Z Z) (h.pick [] Z) Z ?_);refine Ao 15 65535 Z (zs 1 h Z fun _ h=>qJ (fun hs=>absurd (hs 15 (by decide)) (by decide)) (Ad ?_));replace h:=h.pick [1,0,3,4] Z;exact rG ⟨_,rfl,h⟩ Z
     ·refine nxC h ((qb (h.frG 3 0 1 Z Z Z)).1) b Z Z Z fun _ h=>G0 8175 [11,12] (h.pick [] Z) Z (At 4 14 8191 24559 Z ?_ ?_)
      ·refine r_v (qbf qa (qB (w1:=w) (S1:=fun _=>False) h 1 Z a d g Z) (j:=0) Z Z Z) Z (Ag (h.pick [] Z) (Aw 13 16383 (fun w' hw=>qq qa [0,1,3] [.tmp 8,.tmp 12,.tmp 16] Z Z Z Z Z Z Z Z) (h.pick [] Z) Z ?_));refine Ao 14 32767 Z (qj qa h Z Z Z fun _ _ h=>Ag (h.pick [] Z) (Ao 15 65535 Z (zs 0 h Z fun _ h=>qJ (fun hs=>absurd (hs 15 (by decide)) (by decide)) (Ad ?_))));replace h:=h.pick [0,1,3,4] Z;exact rG ⟨_,rfl,h⟩ Z
      refine qj qa h Z Z Z fun _ _ h=>Ag (h.pick [] Z) (Ao 4 24575 Z (r_v (qbf qa (qB (w1:=w) (S1:=fun _=>False) h 2 Z a d g Z) (j:=0) Z Z Z) Z (Ag (h.pick [] Z) (Aw 13 32767 (fun w' hw=>qq qa [0,1,3] [.tmp 8,.tmp 12,.tmp 16] Z Z Z Z Z Z Z Z) (h.pick [] Z) Z ?_))));refine Ao 15 65535 Z (zs 0 h Z fun _ h=>qJ (fun hs=>absurd (hs 15 (by decide)) (by decide)) (Ad ?_));replace h:=h.pick [0,1,3,4] Z;exact rG ⟨_,rfl,h⟩ Z
     refine qj qa h Z Z Z fun _ _ h=>Ag (h.pick [] Z) (At 4 10 17407 18415 Z ?_ ?_)
     ·refine r_v (qbf qa (qB (w1:=w) (S1:=fun _=>False) h 2 Z a d g Z) (j:=0) Z Z Z) Z (Ag (h.pick [] Z) (Ao 10 18431 Z ?_));replace h:=h.pick [1,0,2,3,4] Z;refine nxC h ((qb (h.frG 4 0 1 Z Z Z)).1) b Z Z Z fun _ h=>G0 24575 [11,12] (h.pick [] Z) Z (Aw 13 32767 (fun w' hw=>qq qa [0,1,3] [.tmp 8,.tmp 12,.tmp 16] Z Z Z Z Z Z Z Z) (h.pick [] Z) Z ?_);refine Ao 15 65535 Z (zs 1 h Z fun _ h=>qJ (fun hs=>absurd (hs 15 (by decide)) (by decide)) (Ad ?_));replace h:=h.pick [1,0,3,4] Z;exact rG ⟨_,rfl,h⟩ Z
     replace h:=h.pick [1,0,2,3,4] Z;refine nxC h ((qb (h.frG 4 0 1 Z Z Z)).1) b Z Z Z fun _ h=>G0 24559 [11,12] (h.pick [] Z) Z (Ao 4 24575 Z (r_v (qbf qa (qB (w1:=w) (S1:=fun _=>False) h 2 Z a d g Z) (j:=0) Z Z Z) Z (Ag (h.pick [] Z) (Aw 13 32767 (fun w' hw=>qq qa [0,1,3] [.tmp 8,.tmp 12,.tmp 16] Z Z Z Z Z Z Z Z) (h.pick [] Z) Z ?_))));refine Ao 15 65535 Z (zs 1 h Z fun _ h=>qJ (fun hs=>absurd (hs 15 (by decide)) (by decide)) (Ad ?_));replace h:=h.pick [1,0,3,4] Z;exact rG ⟨_,rfl,h⟩ Z
    refine qj qa h Z Z Z fun _ _ h=>Ag (h.pick [] Z) (At 4 6 16959 17007 Z ?_ ?_)
    ·refine r_v (qbf qa (qB (w1:=w) (S1:=fun _=>False) h 2 Z a d g Z) (j:=0) Z Z Z) Z (Ag (h.pick [] Z) (Ao 6 17023 Z ?_));replace h:=h.pick [1,0,2,3,4] Z;refine nxC h ((qb (h.frG 4 0 1 Z Z Z)).1) c Z Z Z fun _ h=>G0 17407 [7,8] (h.pick [] Z) Z (Ao 10 18431 Z (nxC h ((qb (h.frG 4 0 1 Z Z Z)).1) b Z Z Z fun _ h=>G0 24575 [11,12] (h.pick [] Z) Z (Aw 13 32767 (fun w' hw=>qq qa [0,1,3] [.tmp 8,.tmp 12,.tmp 16] Z Z Z Z Z Z Z Z) (h.pick [] Z) Z ?_)));refine Ao 15 65535 Z (zs 1 h Z fun _ h=>qJ (fun hs=>absurd (hs 15 (by decide)) (by decide)) (Ad ?_));replace h:=h.pick [1,0,3,4] Z;exact rG ⟨_,rfl,h⟩ Z
    replace h:=h.pick [1,0,2,3,4] Z;refine nxC h ((qb (h.frG 4 0 1 Z Z Z)).1) c Z Z Z fun _ h=>G0 17391 [7,8] (h.pick [] Z) Z (At 4 10 17407 18415 Z ?_ ?_)
    ·refine r_v (qbf qa (qB (w1:=w) (S1:=fun _=>False) h 2 Z a d g Z) (j:=0) Z Z Z) Z (Ag (h.pick [] Z) (Ao 10 18431 Z (nxC h ((qb (h.frG 4 0 1 Z Z Z)).1) b Z Z Z fun _ h=>G0 24575 [11,12] (h.pick [] Z) Z (Aw 13 32767 (fun w' hw=>qq qa [0,1,3] [.tmp 8,.tmp 12,.tmp 16] Z Z Z Z Z Z Z Z) (h.pick [] Z) Z ?_))));refine Ao 15 65535 Z (zs 1 h Z fun _ h=>qJ (fun hs=>absurd (hs 15 (by decide)) (by decide)) (Ad ?_));replace h:=h.pick [1,0,3,4] Z;exact rG ⟨_,rfl,h⟩ Z
    refine nxC h ((qb (h.frG 4 0 1 Z Z Z)).1) b Z Z Z fun _ h=>G0 24559 [11,12] (h.pick [] Z) Z (Ao 4 24575 Z (r_v (qbf qa (qB (w1:=w) (S1:=fun _=>False) h 2 Z a d g Z) (j:=0) Z Z Z) Z (Ag (h.pick [] Z) (Aw 13 32767 (fun w' hw=>qq qa [0,1,3] [.tmp 8,.tmp 12,.tmp 16] Z Z Z Z Z Z Z Z) (h.pick [] Z) Z ?_))));refine Ao 15 65535 Z (zs 1 h Z fun _ h=>qJ (fun hs=>absurd (hs 15 (by decide)) (by decide)) (Ad ?_));replace h:=h.pick [1,0,3,4] Z;exact rG ⟨_,rfl,h⟩ Z
   refine qj qa h Z Z Z fun _ _ h=>Ag (h.pick [] Z) (Ao 2 16935 Z ?_);replace h:=h.pick [3,0,1,2,4] Z;refine nxC h ((qb (h.frG 4 0 1 Z Z Z)).1) N Z Z Z fun _ h=>Ag (h.pick [] Z) ?_;have T:=qaI a;obtain⟨_,o_18,_,_,o,v,-,hr21,_⟩:=(h.sl 2 Z).1.at a;obtain rfl:=hr21;refine Ax 3 16943 o v ⟨T.1,qC T.2.1 (h.sl 2 Z).2⟩ (h.pick [] Z) Z (At 4 6 16959 17007 Z ?_ ?_)
   ·refine r_v (qbf qa (qB (w1:=w) (S1:=fun _=>False) h 2 Z a o v Z) (j:=0) Z Z Z) Z (Ag (h.pick [] Z) (Ao 6 17023 Z (nxC h ((qb (h.frG 4 0 1 Z Z Z)).1) c Z Z Z fun _ h=>G0 17407 [7,8] (h.pick [] Z) Z (Ao 10 18431 Z (nxC h ((qb (h.frG 4 0 1 Z Z Z)).1) b Z Z Z fun _ h=>G0 24575 [11,12] (h.pick [] Z) Z (Aw 13 32767 (fun w' hw=>qq qa [0,1,3] [.tmp 8,.tmp 12,.tmp 16] Z Z Z Z Z Z Z Z) (h.pick [] Z) Z ?_))))));refine Ao 15 65535 Z (zs 1 h Z fun _ h=>qJ (fun hs=>absurd (hs 15 (by decide)) (by decide)) (Ad ?_));replace h:=h.pick [1,0,3,4] Z;exact rG ⟨_,rfl,h⟩ Z
   refine nxC h ((qb (h.frG 4 0 1 Z Z Z)).1) c Z Z Z fun _ h=>G0 17391 [7,8] (h.pick [] Z) Z (At 4 10 17407 18415 Z ?_ ?_)
   ·refine r_v (qbf qa (qB (w1:=w) (S1:=fun _=>False) h 2 Z a o v Z) (j:=0) Z Z Z) Z (Ag (h.pick [] Z) (Ao 10 18431 Z (nxC h ((qb (h.frG 4 0 1 Z Z Z)).1) b Z Z Z fun _ h=>G0 24575 [11,12] (h.pick [] Z) Z (Aw 13 32767 (fun w' hw=>qq qa [0,1,3] [.tmp 8,.tmp 12,.tmp 16] Z Z Z Z Z Z Z Z) (h.pick [] Z) Z ?_))));refine Ao 15 65535 Z (zs 1 h Z fun _ h=>qJ (fun hs=>absurd (hs 15 (by decide)) (by decide)) (Ad ?_));replace h:=h.pick [1,0,3,4] Z;exact rG ⟨_,rfl,h⟩ Z
   refine nxC h ((qb (h.frG 4 0 1 Z Z Z)).1) b Z Z Z fun _ h=>G0 24559 [11,12] (h.pick [] Z) Z (Ao 4 24575 Z (r_v (qbf qa (qB (w1:=w) (S1:=fun _=>False) h 2 Z a o v Z) (j:=0) Z Z Z) Z (Ag (h.pick [] Z) (Aw 13 32767 (fun w' hw=>qq qa [0,1,3] [.tmp 8,.tmp 12,.tmp 16] Z Z Z Z Z Z Z Z) (h.pick [] Z) Z ?_))));refine Ao 15 65535 Z (zs 1 h Z fun _ h=>qJ (fun hs=>absurd (hs 15 (by decide)) (by decide)) (Ad ?_));replace h:=h.pick [1,0,3,4] Z;exact rG ⟨_,rfl,h⟩ Z
  ·replace h:=h.pick [1,0,2] Z;refine nxC h ((qb (h.frG 2 0 1 Z Z Z)).1) N Z Z Z fun _ h=>Ag (h.pick [] Z) (qht 0 6 14 Z Z Z (bits 16 551) (bits 16 614) (bits 16 16934) (by kernel_rfl) (by kernel_rfl) (by kernel_rfl)  (by kernel_rfl) ?_ ?_ ?_)
   ·refine qp qa [.const (.string (⟨#[115,108,111,119]⟩:ByteArray)),.const (.string (⟨#[102,97,115,116]⟩:ByteArray)),.const (.string (⟨#[116,121,112]⟩:ByteArray))] _ ([(⟨#[115,108,111,119]⟩:ByteArray),(⟨#[102,97,115,116]⟩:ByteArray),(⟨#[116,121,112]⟩:ByteArray)]:List ByteArray) h Z Z Z Z Z Z Z Z Z ⟨rfl,rfl,rfl,trivial⟩ Z fun _ _ _ h=>Ag (h.pick [] Z) ?_;have W:=qaI a;obtain⟨_,o_19,_,_,f,i,-,hr22,_⟩:=(h.sl 0 Z).1.at a;obtain rfl:=hr22;refine Ax 3 559 f i ⟨W.1,qC W.2.1 (h.sl 0 Z).2⟩ (h.pick [] Z) Z (qht 4 6 14 Z Z Z (bits 16 575) (bits 16 623) (bits 16 16943) (by kernel_rfl) (by kernel_rfl) (by kernel_rfl)  (by kernel_rfl) ?_ ?_ ?_)
    ·refine r_v (qbf qa (qB (w1:=w) (S1:=fun _=>False) h 0 Z a f i Z) (j:=0) Z Z Z) Z (Ag (h.pick [] Z) (At 6 14 639 16959 Z ?_ ?_))
     ·replace h:=h.pick [1,0,2,3] Z;refine nxC h ((qb (h.frG 3 0 1 Z Z Z)).1) c Z Z Z fun _ h=>G0 1023 [7,8] (h.pick [] Z) Z (At 10 14 2047 17407 Z ?_ ?_)
      ·refine nxC h ((qb (h.frG 3 0 1 Z Z Z)).1) b Z Z Z fun _ h=>G0 8191 [11,12] (h.pick [] Z) Z (Aw 13 16383 (fun w' hw=>qq qa [0,1,3] [.tmp 8,.tmp 12,.tmp 16] Z Z Z Z Z Z Z Z) (h.pick [] Z) Z ?_);refine Ao 14 32767 Z (qj qa h Z Z Z fun _ _ h=>Ag (h.pick [] Z) (Ao 15 65535 Z (zs 0 h Z fun _ h=>qJ (fun hs=>absurd (hs 15 (by decide)) (by decide)) (Ad ?_))));replace h:=h.pick [0,1,3,4] Z;exact rG ⟨_,rfl,h⟩ Z
      refine qj qa h Z Z Z fun _ _ h=>Ag (h.pick [] Z) (Ao 10 18431 Z ?_);replace h:=h.pick [1,0,2,3,4] Z;refine nxC h ((qb (h.frG 4 0 1 Z Z Z)).1) b Z Z Z fun _ h=>G0 24575 [11,12] (h.pick [] Z) Z (Aw 13 32767 (fun w' hw=>qq qa [0,1,3] [.tmp 8,.tmp 12,.tmp 16] Z Z Z Z Z Z Z Z) (h.pick [] Z) Z ?_);refine Ao 15 65535 Z (zs 1 h Z fun _ h=>qJ (fun hs=>absurd (hs 15 (by decide)) (by decide)) (Ad ?_));replace h:=h.pick [1,0,3,4] Z;exact rG ⟨_,rfl,h⟩ Z
     refine qj qa h Z Z Z fun _ _ h=>Ag (h.pick [] Z) (Ao 6 17023 Z ?_);replace h:=h.pick [2,0,1,3,4] Z;refine nxC h ((qb (h.frG 4 0 1 Z Z Z)).1) c Z Z Z fun _ h=>G0 17407 [7,8] (h.pick [] Z) Z (Ao 10 18431 Z (nxC h ((qb (h.frG 4 0 1 Z Z Z)).1) b Z Z Z fun _ h=>G0 24575 [11,12] (h.pick [] Z) Z (Aw 13 32767 (fun w' hw=>qq qa [0,1,3] [.tmp 8,.tmp 12,.tmp 16] Z Z Z Z Z Z Z Z) (h.pick [] Z) Z ?_)));refine Ao 15 65535 Z (zs 1 h Z fun _ h=>qJ (fun hs=>absurd (hs 15 (by decide)) (by decide)) (Ad ?_));replace h:=h.pick [1,0,3,4] Z;exact rG ⟨_,rfl,h⟩ Z
    ·replace h:=h.pick [1,0,2,3] Z;refine nxC h ((qb (h.frG 3 0 1 Z Z Z)).1) c Z Z Z fun _ h=>G0 1007 [7,8] (h.pick [] Z) Z (qht 4 10 14 Z Z Z (bits 16 1023) (bits 16 2031) (bits 16 17391) (by kernel_rfl) (by kernel_rfl) (by kernel_rfl)  (by kernel_rfl) ?_ ?_ ?_)
     ·refine r_v (qbf qa (qB (w1:=w) (S1:=fun _=>False) h 1 Z a f i Z) (j:=0) Z Z Z) Z (Ag (h.pick [] Z) (At 10 14 2047 17407 Z ?_ ?_))
      ·refine nxC h ((qb (h.frG 3 0 1 Z Z Z)).1) b Z Z Z fun _ h=>G0 8191 [11,12] (h.pick [] Z) Z (Aw 13 16383 (fun w' hw=>qq qa [0,1,3] [.tmp 8,.tmp 12,.tmp 16] Z Z Z Z Z Z Z Z) (h.pick [] Z) Z ?_);refine Ao 14 32767 Z (qj qa h Z Z Z fun _ _ h=>Ag (h.pick [] Z) (Ao 15 65535 Z (zs 0 h Z fun _ h=>qJ (fun hs=>absurd (hs 15 (by decide)) (by decide)) (Ad ?_))));replace h:=h.pick [0,1,3,4] Z;exact rG ⟨_,rfl,h⟩ Z
      refine qj qa h Z Z Z fun _ _ h=>Ag (h.pick [] Z) (Ao 10 18431 Z ?_);replace h:=h.pick [1,0,2,3,4] Z;refine nxC h ((qb (h.frG 4 0 1 Z Z Z)).1) b Z Z Z fun _ h=>G0 24575 [11,12] (h.pick [] Z) Z (Aw 13 32767 (fun w' hw=>qq qa [0,1,3] [.tmp 8,.tmp 12,.tmp 16] Z Z Z Z Z Z Z Z) (h.pick [] Z) Z ?_);refine Ao 15 65535 Z (zs 1 h Z fun _ h=>qJ (fun hs=>absurd (hs 15 (by decide)) (by decide)) (Ad ?_));replace h:=h.pick [1,0,3,4] Z;exact rG ⟨_,rfl,h⟩ Z
     ·refine nxC h ((qb (h.frG 3 0 1 Z Z Z)).1) b Z Z Z fun _ h=>G0 8175 [11,12] (h.pick [] Z) Z (At 4 14 8191 24559 Z ?_ ?_)
      ·refine r_v (qbf qa (qB (w1:=w) (S1:=fun _=>False) h 1 Z a f i Z) (j:=0) Z Z Z) Z (Ag (h.pick [] Z) (Aw 13 16383 (fun w' hw=>qq qa [0,1,3] [.tmp 8,.tmp 12,.tmp 16] Z Z Z Z Z Z Z Z) (h.pick [] Z) Z ?_));refine Ao 14 32767 Z (qj qa h Z Z Z fun _ _ h=>Ag (h.pick [] Z) (Ao 15 65535 Z (zs 0 h Z fun _ h=>qJ (fun hs=>absurd (hs 15 (by decide)) (by decide)) (Ad ?_))));replace h:=h.pick [0,1,3,4] Z;exact rG ⟨_,rfl,h⟩ Z
      refine qj qa h Z Z Z fun _ _ h=>Ag (h.pick [] Z) (Ao 4 24575 Z (r_v (qbf qa (qB (w1:=w) (S1:=fun _=>False) h 2 Z a f i Z) (j:=0) Z Z Z) Z (Ag (h.pick [] Z) (Aw 13 32767 (fun w' hw=>qq qa [0,1,3] [.tmp 8,.tmp 12,.tmp 16] Z Z Z Z Z Z Z Z) (h.pick [] Z) Z ?_))));refine Ao 15 65535 Z (zs 0 h Z fun _ h=>qJ (fun hs=>absurd (hs 15 (by decide)) (by decide)) (Ad ?_));replace h:=h.pick [0,1,3,4] Z;exact rG ⟨_,rfl,h⟩ Z
     refine qj qa h Z Z Z fun _ _ h=>Ag (h.pick [] Z) (At 4 10 17407 18415 Z ?_ ?_)
     ·refine r_v (qbf qa (qB (w1:=w) (S1:=fun _=>False) h 2 Z a f i Z) (j:=0) Z Z Z) Z (Ag (h.pick [] Z) (Ao 10 18431 Z ?_));replace h:=h.pick [1,0,2,3,4] Z;refine nxC h ((qb (h.frG 4 0 1 Z Z Z)).1) b Z Z Z fun _ h=>G0 24575 [11,12] (h.pick [] Z) Z (Aw 13 32767 (fun w' hw=>qq qa [0,1,3] [.tmp 8,.tmp 12,.tmp 16] Z Z Z Z Z Z Z Z) (h.pick [] Z) Z ?_);refine Ao 15 65535 Z (zs 1 h Z fun _ h=>qJ (fun hs=>absurd (hs 15 (by decide)) (by decide)) (Ad ?_));replace h:=h.pick [1,0,3,4] Z;exact rG ⟨_,rfl,h⟩ Z
     replace h:=h.pick [1,0,2,3,4] Z;refine nxC h ((qb (h.frG 4 0 1 Z Z Z)).1) b Z Z Z fun _ h=>G0 24559 [11,12] (h.pick [] Z) Z (Ao 4 24575 Z (r_v (qbf qa (qB (w1:=w) (S1:=fun _=>False) h 2 Z a f i Z) (j:=0) Z Z Z) Z (Ag (h.pick [] Z) (Aw 13 32767 (fun w' hw=>qq qa [0,1,3] [.tmp 8,.tmp 12,.tmp 16] Z Z Z Z Z Z Z Z) (h.pick [] Z) Z ?_))));refine Ao 15 65535 Z (zs 1 h Z fun _ h=>qJ (fun hs=>absurd (hs 15 (by decide)) (by decide)) (Ad ?_));replace h:=h.pick [1,0,3,4] Z;exact rG ⟨_,rfl,h⟩ Z
    refine qj qa h Z Z Z fun _ _ h=>Ag (h.pick [] Z) (At 4 6 16959 17007 Z ?_ ?_)
    ·refine r_v (qbf qa (qB (w1:=w) (S1:=fun _=>False) h 1 Z a f i Z) (j:=0) Z Z Z) Z (Ag (h.pick [] Z) (Ao 6 17023 Z ?_));replace h:=h.pick [2,0,1,3,4] Z;refine nxC h ((qb (h.frG 4 0 1 Z Z Z)).1) c Z Z Z fun _ h=>G0 17407 [7,8] (h.pick [] Z) Z (Ao 10 18431 Z (nxC h ((qb (h.frG 4 0 1 Z Z Z)).1) b Z Z Z fun _ h=>G0 24575 [11,12] (h.pick [] Z) Z (Aw 13 32767 (fun w' hw=>qq qa [0,1,3] [.tmp 8,.tmp 12,.tmp 16] Z Z Z Z Z Z Z Z) (h.pick [] Z) Z ?_)));refine Ao 15 65535 Z (zs 1 h Z fun _ h=>qJ (fun hs=>absurd (hs 15 (by decide)) (by decide)) (Ad ?_));replace h:=h.pick [1,0,3,4] Z;exact rG ⟨_,rfl,h⟩ Z
    replace h:=h.pick [2,0,1,3,4] Z;refine nxC h ((qb (h.frG 4 0 1 Z Z Z)).1) c Z Z Z fun _ h=>G0 17391 [7,8] (h.pick [] Z) Z (At 4 10 17407 18415 Z ?_ ?_)
    ·refine r_v (qbf qa (qB (w1:=w) (S1:=fun _=>False) h 2 Z a f i Z) (j:=0) Z Z Z) Z (Ag (h.pick [] Z) (Ao 10 18431 Z (nxC h ((qb (h.frG 4 0 1 Z Z Z)).1) b Z Z Z fun _ h=>G0 24575 [11,12] (h.pick [] Z) Z (Aw 13 32767 (fun w' hw=>qq qa [0,1,3] [.tmp 8,.tmp 12,.tmp 16] Z Z Z Z Z Z Z Z) (h.pick [] Z) Z ?_))));refine Ao 15 65535 Z (zs 1 h Z fun _ h=>qJ (fun hs=>absurd (hs 15 (by decide)) (by decide)) (Ad ?_));replace h:=h.pick [1,0,3,4] Z;exact rG ⟨_,rfl,h⟩ Z
    refine nxC h ((qb (h.frG 4 0 1 Z Z Z)).1) b Z Z Z fun _ h=>G0 24559 [11,12] (h.pick [] Z) Z (Ao 4 24575 Z (r_v (qbf qa (qB (w1:=w) (S1:=fun _=>False) h 2 Z a f i Z) (j:=0) Z Z Z) Z (Ag (h.pick [] Z) (Aw 13 32767 (fun w' hw=>qq qa [0,1,3] [.tmp 8,.tmp 12,.tmp 16] Z Z Z Z Z Z Z Z) (h.pick [] Z) Z ?_))));refine Ao 15 65535 Z (zs 1 h Z fun _ h=>qJ (fun hs=>absurd (hs 15 (by decide)) (by decide)) (Ad ?_));replace h:=h.pick [1,0,3,4] Z;exact rG ⟨_,rfl,h⟩ Z
   ·refine nxC h ((qb (h.frG 2 0 1 Z Z Z)).1) c Z Z Z fun _ h=>G0 998 [7,8] (h.pick [] Z) Z (qht 0 10 14 Z Z Z (bits 16 999) (bits 16 2022) (bits 16 17382) (by kernel_rfl) (by kernel_rfl) (by kernel_rfl)  (by kernel_rfl) ?_ ?_ ?_)
    ·refine qp qa [.const (.string (⟨#[115,108,111,119]⟩:ByteArray)),.const (.string (⟨#[102,97,115,116]⟩:ByteArray)),.const (.string (⟨#[116,121,112]⟩:ByteArray))] _ ([(⟨#[115,108,111,119]⟩:ByteArray),(⟨#[102,97,115,116]⟩:ByteArray),(⟨#[116,121,112]⟩:ByteArray)]:List ByteArray) h Z Z Z Z Z Z Z Z Z ⟨rfl,rfl,rfl,trivial⟩ Z fun _ _ _ h=>Ag (h.pick [] Z) ?_;have X:=qaI a;obtain⟨_,o_20,_,_,k,l,-,hr23,_⟩:=(h.sl 0 Z).1.at a;obtain rfl:=hr23;refine Ax 3 1007 k l ⟨X.1,qC X.2.1 (h.sl 0 Z).2⟩ (h.pick [] Z) Z (qht 4 10 14 Z Z Z (bits 16 1023) (bits 16 2031) (bits 16 17391) (by kernel_rfl) (by kernel_rfl) (by kernel_rfl)  (by kernel_rfl) ?_ ?_ ?_)
     ·refine r_v (qbf qa (qB (w1:=w) (S1:=fun _=>False) h 0 Z a k l Z) (j:=0) Z Z Z) Z (Ag (h.pick [] Z) (At 10 14 2047 17407 Z ?_ ?_))
      ·replace h:=h.pick [1,0,2,3] Z;refine nxC h ((qb (h.frG 3 0 1 Z Z Z)).1) b Z Z Z fun _ h=>G0 8191 [11,12] (h.pick [] Z) Z (Aw 13 16383 (fun w' hw=>qq qa [0,1,3] [.tmp 8,.tmp 12,.tmp 16] Z Z Z Z Z Z Z Z) (h.pick [] Z) Z ?_);refine Ao 14 32767 Z (qj qa h Z Z Z fun _ _ h=>Ag (h.pick [] Z) (Ao 15 65535 Z (zs 0 h Z fun _ h=>qJ (fun hs=>absurd (hs 15 (by decide)) (by decide)) (Ad ?_))));replace h:=h.pick [0,1,3,4] Z;exact rG ⟨_,rfl,h⟩ Z
      refine qj qa h Z Z Z fun _ _ h=>Ag (h.pick [] Z) (Ao 10 18431 Z ?_);replace h:=h.pick [2,0,1,3,4] Z;refine nxC h ((qb (h.frG 4 0 1 Z Z Z)).1) b Z Z Z fun _ h=>G0 24575 [11,12] (h.pick [] Z) Z (Aw 13 32767 (fun w' hw=>qq qa [0,1,3] [.tmp 8,.tmp 12,.tmp 16] Z Z Z Z Z Z Z Z) (h.pick [] Z) Z ?_);refine Ao 15 65535 Z (zs 1 h Z fun _ h=>qJ (fun hs=>absurd (hs 15 (by decide)) (by decide)) (Ad ?_));replace h:=h.pick [1,0,3,4] Z;exact rG ⟨_,rfl,h⟩ Z
     ·replace h:=h.pick [1,0,2,3] Z;refine nxC h ((qb (h.frG 3 0 1 Z Z Z)).1) b Z Z Z fun _ h=>G0 8175 [11,12] (h.pick [] Z) Z (At 4 14 8191 24559 Z ?_ ?_)
      ·refine r_v (qbf qa (qB (w1:=w) (S1:=fun _=>False) h 1 Z a k l Z) (j:=0) Z Z Z) Z (Ag (h.pick [] Z) (Aw 13 16383 (fun w' hw=>qq qa [0,1,3] [.tmp 8,.tmp 12,.tmp 16] Z Z Z Z Z Z Z Z) (h.pick [] Z) Z ?_));refine Ao 14 32767 Z (qj qa h Z Z Z fun _ _ h=>Ag (h.pick [] Z) (Ao 15 65535 Z (zs 0 h Z fun _ h=>qJ (fun hs=>absurd (hs 15 (by decide)) (by decide)) (Ad ?_))));replace h:=h.pick [0,1,3,4] Z;exact rG ⟨_,rfl,h⟩ Z
      refine qj qa h Z Z Z fun _ _ h=>Ag (h.pick [] Z) (Ao 4 24575 Z (r_v (qbf qa (qB (w1:=w) (S1:=fun _=>False) h 2 Z a k l Z) (j:=0) Z Z Z) Z (Ag (h.pick [] Z) (Aw 13 32767 (fun w' hw=>qq qa [0,1,3] [.tmp 8,.tmp 12,.tmp 16] Z Z Z Z Z Z Z Z) (h.pick [] Z) Z ?_))));refine Ao 15 65535 Z (zs 0 h Z fun _ h=>qJ (fun hs=>absurd (hs 15 (by decide)) (by decide)) (Ad ?_));replace h:=h.pick [0,1,3,4] Z;exact rG ⟨_,rfl,h⟩ Z
     refine qj qa h Z Z Z fun _ _ h=>Ag (h.pick [] Z) (At 4 10 17407 18415 Z ?_ ?_)
     ·refine r_v (qbf qa (qB (w1:=w) (S1:=fun _=>False) h 1 Z a k l Z) (j:=0) Z Z Z) Z (Ag (h.pick [] Z) (Ao 10 18431 Z ?_));replace h:=h.pick [2,0,1,3,4] Z;refine nxC h ((qb (h.frG 4 0 1 Z Z Z)).1) b Z Z Z fun _ h=>G0 24575 [11,12] (h.pick [] Z) Z (Aw 13 32767 (fun w' hw=>qq qa [0,1,3] [.tmp 8,.tmp 12,.tmp 16] Z Z Z Z Z Z Z Z) (h.pick [] Z) Z ?_);refine Ao 15 65535 Z (zs 1 h Z fun _ h=>qJ (fun hs=>absurd (hs 15 (by decide)) (by decide)) (Ad ?_));replace h:=h.pick [1,0,3,4] Z;exact rG ⟨_,rfl,h⟩ Z
     replace h:=h.pick [2,0,1,3,4] Z;refine nxC h ((qb (h.frG 4 0 1 Z Z Z)).1) b Z Z Z fun _ h=>G0 24559 [11,12] (h.pick [] Z) Z (Ao 4 24575 Z (r_v (qbf qa (qB (w1:=w) (S1:=fun _=>False) h 2 Z a k l Z) (j:=0) Z Z Z) Z (Ag (h.pick [] Z) (Aw 13 32767 (fun w' hw=>qq qa [0,1,3] [.tmp 8,.tmp 12,.tmp 16] Z Z Z Z Z Z Z Z) (h.pick [] Z) Z ?_))));refine Ao 15 65535 Z (zs 1 h Z fun _ h=>qJ (fun hs=>absurd (hs 15 (by decide)) (by decide)) (Ad ?_));replace h:=h.pick [1,0,3,4] Z;exact rG ⟨_,rfl,h⟩ Z
    ·refine nxC h ((qb (h.frG 2 0 1 Z Z Z)).1) b Z Z Z fun _ h=>G0 8166 [11,12] (h.pick [] Z) Z (At 0 14 8167 24550 Z ?_ ?_)
     ·refine qp qa [.const (.string (⟨#[115,108,111,119]⟩:ByteArray)),.const (.string (⟨#[102,97,115,116]⟩:ByteArray)),.const (.string (⟨#[116,121,112]⟩:ByteArray))] _ ([(⟨#[115,108,111,119]⟩:ByteArray),(⟨#[102,97,115,116]⟩:ByteArray),(⟨#[116,121,112]⟩:ByteArray)]:List ByteArray) h Z Z Z Z Z Z Z Z Z ⟨rfl,rfl,rfl,trivial⟩ Z fun _ _ _ h=>Ag (h.pick [] Z) ?_;have Y:=qaI a;obtain⟨_,o_21,_,_,C,J,-,hr24,_⟩:=(h.sl 0 Z).1.at a;obtain rfl:=hr24;refine Ax 3 8175 C J ⟨Y.1,qC Y.2.1 (h.sl 0 Z).2⟩ (h.pick [] Z) Z (At 4 14 8191 24559 Z ?_ ?_)
      ·refine r_v (qbf qa (qB (w1:=w) (S1:=fun _=>False) h 0 Z a C J Z) (j:=0) Z Z Z) Z (Ag (h.pick [] Z) (Aw 13 16383 (fun w' hw=>qq qa [0,1,3] [.tmp 8,.tmp 12,.tmp 16] Z Z Z Z Z Z Z Z) (h.pick [] Z) Z ?_));refine Ao 14 32767 Z (qj qa h Z Z Z fun _ _ h=>Ag (h.pick [] Z) (Ao 15 65535 Z (zs 0 h Z fun _ h=>qJ (fun hs=>absurd (hs 15 (by decide)) (by decide)) (Ad ?_))));replace h:=h.pick [0,2,3,4] Z;exact rG ⟨_,rfl,h⟩ Z
      refine qj qa h Z Z Z fun _ _ h=>Ag (h.pick [] Z) (Ao 4 24575 Z (r_v (qbf qa (qB (w1:=w) (S1:=fun _=>False) h 1 Z a C J Z) (j:=0) Z Z Z) Z (Ag (h.pick [] Z) (Aw 13 32767 (fun w' hw=>qq qa [0,1,3] [.tmp 8,.tmp 12,.tmp 16] Z Z Z Z Z Z Z Z) (h.pick [] Z) Z ?_))));refine Ao 15 65535 Z (zs 0 h Z fun _ h=>qJ (fun hs=>absurd (hs 15 (by decide)) (by decide)) (Ad ?_));replace h:=h.pick [0,2,3,4] Z;exact rG ⟨_,rfl,h⟩ Z
     refine qj qa h Z Z Z fun _ _ h=>Ag (h.pick [] Z) (Ao 0 24551 Z (qp qa [.const (.string (⟨#[115,108,111,119]⟩:ByteArray)),.const (.string (⟨#[102,97,115,116]⟩:ByteArray)),.const (.string (⟨#[116,121,112]⟩:ByteArray))] _ ([(⟨#[115,108,111,119]⟩:ByteArray),(⟨#[102,97,115,116]⟩:ByteArray),(⟨#[116,121,112]⟩:ByteArray)]:List ByteArray) h Z Z Z Z Z Z Z Z Z ⟨rfl,rfl,rfl,trivial⟩ Z fun _ _ _ h=>Ag (h.pick [] Z) ?_));have a3:=qaI a;obtain⟨_,o_22,_,_,b8,c3,-,hr25,_⟩:=(h.sl 0 Z).1.at a;obtain rfl:=hr25;refine Ax 3 24559 b8 c3 ⟨a3.1,qC a3.2.1 (h.sl 0 Z).2⟩ (h.pick [] Z) Z (Ao 4 24575 Z (r_v (qbf qa (qB (w1:=w) (S1:=fun _=>False) h 0 Z a b8 c3 Z) (j:=0) Z Z Z) Z (Ag (h.pick [] Z) (Aw 13 32767 (fun w' hw=>qq qa [0,1,3] [.tmp 8,.tmp 12,.tmp 16] Z Z Z Z Z Z Z Z) (h.pick [] Z) Z ?_))));refine Ao 15 65535 Z (zs 1 h Z fun _ h=>qJ (fun hs=>absurd (hs 15 (by decide)) (by decide)) (Ad ?_));replace h:=h.pick [1,2,3,4] Z;exact rG ⟨_,rfl,h⟩ Z
    refine qj qa h Z Z Z fun _ _ h=>Ag (h.pick [] Z) (At 0 10 17383 18406 Z ?_ ?_)
    ·refine qp qa [.const (.string (⟨#[115,108,111,119]⟩:ByteArray)),.const (.string (⟨#[102,97,115,116]⟩:ByteArray)),.const (.string (⟨#[116,121,112]⟩:ByteArray))] _ ([(⟨#[115,108,111,119]⟩:ByteArray),(⟨#[102,97,115,116]⟩:ByteArray),(⟨#[116,121,112]⟩:ByteArray)]:List ByteArray) h Z Z Z Z Z Z Z Z Z ⟨rfl,rfl,rfl,trivial⟩ Z fun _ _ _ h=>Ag (h.pick [] Z) ?_;have a4:=qaI a;obtain⟨_,o_23,_,_,D,K,-,hr26,_⟩:=(h.sl 0 Z).1.at a;obtain rfl:=hr26;refine Ax 3 17391 D K ⟨a4.1,qC a4.2.1 (h.sl 0 Z).2⟩ (h.pick [] Z) Z (At 4 10 17407 18415 Z ?_ ?_)
     ·refine r_v (qbf qa (qB (w1:=w) (S1:=fun _=>False) h 0 Z a D K Z) (j:=0) Z Z Z) Z (Ag (h.pick [] Z) (Ao 10 18431 Z ?_));replace h:=h.pick [2,0,1,3,4] Z;refine nxC h ((qb (h.frG 4 0 1 Z Z Z)).1) b Z Z Z fun _ h=>G0 24575 [11,12] (h.pick [] Z) Z (Aw 13 32767 (fun w' hw=>qq qa [0,1,3] [.tmp 8,.tmp 12,.tmp 16] Z Z Z Z Z Z Z Z) (h.pick [] Z) Z ?_);refine Ao 15 65535 Z (zs 2 h Z fun _ h=>qJ (fun hs=>absurd (hs 15 (by decide)) (by decide)) (Ad ?_));replace h:=h.pick [2,0,3,4] Z;exact rG ⟨_,rfl,h⟩ Z
     replace h:=h.pick [2,0,1,3,4] Z;refine nxC h ((qb (h.frG 4 0 1 Z Z Z)).1) b Z Z Z fun _ h=>G0 24559 [11,12] (h.pick [] Z) Z (Ao 4 24575 Z (r_v (qbf qa (qB (w1:=w) (S1:=fun _=>False) h 1 Z a D K Z) (j:=0) Z Z Z) Z (Ag (h.pick [] Z) (Aw 13 32767 (fun w' hw=>qq qa [0,1,3] [.tmp 8,.tmp 12,.tmp 16] Z Z Z Z Z Z Z Z) (h.pick [] Z) Z ?_))));refine Ao 15 65535 Z (zs 2 h Z fun _ h=>qJ (fun hs=>absurd (hs 15 (by decide)) (by decide)) (Ad ?_));replace h:=h.pick [2,0,3,4] Z;exact rG ⟨_,rfl,h⟩ Z
    replace h:=h.pick [1,0,2,3] Z;refine nxC h ((qb (h.frG 3 0 1 Z Z Z)).1) b Z Z Z fun _ h=>G0 24550 [11,12] (h.pick [] Z) Z (Ao 0 24551 Z (qp qa [.const (.string (⟨#[115,108,111,119]⟩:ByteArray)),.const (.string (⟨#[102,97,115,116]⟩:ByteArray)),.const (.string (⟨#[116,121,112]⟩:ByteArray))] _ ([(⟨#[115,108,111,119]⟩:ByteArray),(⟨#[102,97,115,116]⟩:ByteArray),(⟨#[116,121,112]⟩:ByteArray)]:List ByteArray) h Z Z Z Z Z Z Z Z Z ⟨rfl,rfl,rfl,trivial⟩ Z fun _ _ _ h=>Ag (h.pick [] Z) ?_));have a5:=qaI a;obtain⟨_,o_24,_,_,b9,c4,-,hr27,_⟩:=(h.sl 0 Z).1.at a;obtain rfl:=hr27;refine Ax 3 24559 b9 c4 ⟨a5.1,qC a5.2.1 (h.sl 0 Z).2⟩ (h.pick [] Z) Z (Ao 4 24575 Z (r_v (qbf qa (qB (w1:=w) (S1:=fun _=>False) h 0 Z a b9 c4 Z) (j:=0) Z Z Z) Z (Ag (h.pick [] Z) (Aw 13 32767 (fun w' hw=>qq qa [0,1,3] [.tmp 8,.tmp 12,.tmp 16] Z Z Z Z Z Z Z Z) (h.pick [] Z) Z ?_))));refine Ao 15 65535 Z (zs 2 h Z fun _ h=>qJ (fun hs=>absurd (hs 15 (by decide)) (by decide)) (Ad ?_));replace h:=h.pick [2,1,3,4] Z;exact rG ⟨_,rfl,h⟩ Z
   refine qj qa h Z Z Z fun _ _ h=>Ag (h.pick [] Z) (At 0 6 16935 16998 Z ?_ ?_)
   ·refine qp qa [.const (.string (⟨#[115,108,111,119]⟩:ByteArray)),.const (.string (⟨#[102,97,115,116]⟩:ByteArray)),.const (.string (⟨#[116,121,112]⟩:ByteArray))] _ ([(⟨#[115,108,111,119]⟩:ByteArray),(⟨#[102,97,115,116]⟩:ByteArray),(⟨#[116,121,112]⟩:ByteArray)]:List ByteArray) h Z Z Z Z Z Z Z Z Z ⟨rfl,rfl,rfl,trivial⟩ Z fun _ _ _ h=>Ag (h.pick [] Z) ?_;have a6:=qaI a;obtain⟨_,o_25,_,_,p,x,-,hr28,_⟩:=(h.sl 0 Z).1.at a;obtain rfl:=hr28;refine Ax 3 16943 p x ⟨a6.1,qC a6.2.1 (h.sl 0 Z).2⟩ (h.pick [] Z) Z (At 4 6 16959 17007 Z ?_ ?_)
    ·refine r_v (qbf qa (qB (w1:=w) (S1:=fun _=>False) h 0 Z a p x Z) (j:=0) Z Z Z) Z (Ag (h.pick [] Z) (Ao 6 17023 Z ?_));replace h:=h.pick [2,0,1,3,4] Z;refine nxC h ((qb (h.frG 4 0 1 Z Z Z)).1) c Z Z Z fun _ h=>G0 17407 [7,8] (h.pick [] Z) Z (Ao 10 18431 Z (nxC h ((qb (h.frG 4 0 1 Z Z Z)).1) b Z Z Z fun _ h=>G0 24575 [11,12] (h.pick [] Z) Z (Aw 13 32767 (fun w' hw=>qq qa [0,1,3] [.tmp 8,.tmp 12,.tmp 16] Z Z Z Z Z Z Z Z) (h.pick [] Z) Z ?_)));refine Ao 15 65535 Z (zs 2 h Z fun _ h=>qJ (fun hs=>absurd (hs 15 (by decide)) (by decide)) (Ad ?_));replace h:=h.pick [2,0,3,4] Z;exact rG ⟨_,rfl,h⟩ Z
    replace h:=h.pick [2,0,1,3,4] Z;refine nxC h ((qb (h.frG 4 0 1 Z Z Z)).1) c Z Z Z fun _ h=>G0 17391 [7,8] (h.pick [] Z) Z (At 4 10 17407 18415 Z ?_ ?_)
    ·refine r_v (qbf qa (qB (w1:=w) (S1:=fun _=>False) h 1 Z a p x Z) (j:=0) Z Z Z) Z (Ag (h.pick [] Z) (Ao 10 18431 Z (nxC h ((qb (h.frG 4 0 1 Z Z Z)).1) b Z Z Z fun _ h=>G0 24575 [11,12] (h.pick [] Z) Z (Aw 13 32767 (fun w' hw=>qq qa [0,1,3] [.tmp 8,.tmp 12,.tmp 16] Z Z Z Z Z Z Z Z) (h.pick [] Z) Z ?_))));refine Ao 15 65535 Z (zs 2 h Z fun _ h=>qJ (fun hs=>absurd (hs 15 (by decide)) (by decide)) (Ad ?_));replace h:=h.pick [2,0,3,4] Z;exact rG ⟨_,rfl,h⟩ Z
    refine nxC h ((qb (h.frG 4 0 1 Z Z Z)).1) b Z Z Z fun _ h=>G0 24559 [11,12] (h.pick [] Z) Z (Ao 4 24575 Z (r_v (qbf qa (qB (w1:=w) (S1:=fun _=>False) h 1 Z a p x Z) (j:=0) Z Z Z) Z (Ag (h.pick [] Z) (Aw 13 32767 (fun w' hw=>qq qa [0,1,3] [.tmp 8,.tmp 12,.tmp 16] Z Z Z Z Z Z Z Z) (h.pick [] Z) Z ?_))));refine Ao 15 65535 Z (zs 2 h Z fun _ h=>qJ (fun hs=>absurd (hs 15 (by decide)) (by decide)) (Ad ?_));replace h:=h.pick [2,0,3,4] Z;exact rG ⟨_,rfl,h⟩ Z
   replace h:=h.pick [1,0,2,3] Z;refine nxC h ((qb (h.frG 3 0 1 Z Z Z)).1) c Z Z Z fun _ h=>G0 17382 [7,8] (h.pick [] Z) Z (At 0 10 17383 18406 Z ?_ ?_)
   ·refine qp qa [.const (.string (⟨#[115,108,111,119]⟩:ByteArray)),.const (.string (⟨#[102,97,115,116]⟩:ByteArray)),.const (.string (⟨#[116,121,112]⟩:ByteArray))] _ ([(⟨#[115,108,111,119]⟩:ByteArray),(⟨#[102,97,115,116]⟩:ByteArray),(⟨#[116,121,112]⟩:ByteArray)]:List ByteArray) h Z Z Z Z Z Z Z Z Z ⟨rfl,rfl,rfl,trivial⟩ Z fun _ _ _ h=>Ag (h.pick [] Z) ?_;have a7:=qaI a;obtain⟨_,o_26,_,_,H,L,-,hr29,_⟩:=(h.sl 0 Z).1.at a;obtain rfl:=hr29;refine Ax 3 17391 H L ⟨a7.1,qC a7.2.1 (h.sl 0 Z).2⟩ (h.pick [] Z) Z (At 4 10 17407 18415 Z ?_ ?_)
    ·refine r_v (qbf qa (qB (w1:=w) (S1:=fun _=>False) h 0 Z a H L Z) (j:=0) Z Z Z) Z (Ag (h.pick [] Z) (Ao 10 18431 Z ?_));replace h:=h.pick [1,0,2,3,4] Z;refine nxC h ((qb (h.frG 4 0 1 Z Z Z)).1) b Z Z Z fun _ h=>G0 24575 [11,12] (h.pick [] Z) Z (Aw 13 32767 (fun w' hw=>qq qa [0,1,3] [.tmp 8,.tmp 12,.tmp 16] Z Z Z Z Z Z Z Z) (h.pick [] Z) Z ?_);refine Ao 15 65535 Z (zs 2 h Z fun _ h=>qJ (fun hs=>absurd (hs 15 (by decide)) (by decide)) (Ad ?_));replace h:=h.pick [2,0,3,4] Z;exact rG ⟨_,rfl,h⟩ Z
    replace h:=h.pick [1,0,2,3,4] Z;refine nxC h ((qb (h.frG 4 0 1 Z Z Z)).1) b Z Z Z fun _ h=>G0 24559 [11,12] (h.pick [] Z) Z (Ao 4 24575 Z (r_v (qbf qa (qB (w1:=w) (S1:=fun _=>False) h 1 Z a H L Z) (j:=0) Z Z Z) Z (Ag (h.pick [] Z) (Aw 13 32767 (fun w' hw=>qq qa [0,1,3] [.tmp 8,.tmp 12,.tmp 16] Z Z Z Z Z Z Z Z) (h.pick [] Z) Z ?_))));refine Ao 15 65535 Z (zs 2 h Z fun _ h=>qJ (fun hs=>absurd (hs 15 (by decide)) (by decide)) (Ad ?_));replace h:=h.pick [2,0,3,4] Z;exact rG ⟨_,rfl,h⟩ Z
   refine nxC h ((qb (h.frG 3 0 1 Z Z Z)).1) b Z Z Z fun _ h=>G0 24550 [11,12] (h.pick [] Z) Z (Ao 0 24551 Z (qp qa [.const (.string (⟨#[115,108,111,119]⟩:ByteArray)),.const (.string (⟨#[102,97,115,116]⟩:ByteArray)),.const (.string (⟨#[116,121,112]⟩:ByteArray))] _ ([(⟨#[115,108,111,119]⟩:ByteArray),(⟨#[102,97,115,116]⟩:ByteArray),(⟨#[116,121,112]⟩:ByteArray)]:List ByteArray) h Z Z Z Z Z Z Z Z Z ⟨rfl,rfl,rfl,trivial⟩ Z fun _ _ _ h=>Ag (h.pick [] Z) ?_));have a8:=qaI a;obtain⟨_,o_27,_,_,c0,c5,-,hr30,_⟩:=(h.sl 0 Z).1.at a;obtain rfl:=hr30;refine Ax 3 24559 c0 c5 ⟨a8.1,qC a8.2.1 (h.sl 0 Z).2⟩ (h.pick [] Z) Z (Ao 4 24575 Z (r_v (qbf qa (qB (w1:=w) (S1:=fun _=>False) h 0 Z a c0 c5 Z) (j:=0) Z Z Z) Z (Ag (h.pick [] Z) (Aw 13 32767 (fun w' hw=>qq qa [0,1,3] [.tmp 8,.tmp 12,.tmp 16] Z Z Z Z Z Z Z Z) (h.pick [] Z) Z ?_))));refine Ao 15 65535 Z (zs 2 h Z fun _ h=>qJ (fun hs=>absurd (hs 15 (by decide)) (by decide)) (Ad ?_));replace h:=h.pick [2,1,3,4] Z;exact rG ⟨_,rfl,h⟩ Z
  refine qj qa h Z Z Z fun _ _ h=>Ag (h.pick [] Z) (At 0 2 16931 16934 Z ?_ ?_)
  ·refine qp qa [.const (.string (⟨#[115,108,111,119]⟩:ByteArray)),.const (.string (⟨#[102,97,115,116]⟩:ByteArray)),.const (.string (⟨#[116,121,112]⟩:ByteArray))] _ ([(⟨#[115,108,111,119]⟩:ByteArray),(⟨#[102,97,115,116]⟩:ByteArray),(⟨#[116,121,112]⟩:ByteArray)]:List ByteArray) h Z Z Z Z Z Z Z Z Z ⟨rfl,rfl,rfl,trivial⟩ Z fun _ _ _ h=>Ag (h.pick [] Z) (Ao 2 16935 Z ?_);replace h:=h.pick [3,0,1,2,4] Z;refine nxC h ((qb (h.frG 4 0 1 Z Z Z)).1) N Z Z Z fun _ h=>Ag (h.pick [] Z) ?_;have a9:=qaI a;obtain⟨_,o_28,_,_,t,y,-,hr31,_⟩:=(h.sl 1 Z).1.at a;obtain rfl:=hr31;refine Ax 3 16943 t y ⟨a9.1,qC a9.2.1 (h.sl 1 Z).2⟩ (h.pick [] Z) Z (At 4 6 16959 17007 Z ?_ ?_)
   ·refine r_v (qbf qa (qB (w1:=w) (S1:=fun _=>False) h 1 Z a t y Z) (j:=0) Z Z Z) Z (Ag (h.pick [] Z) (Ao 6 17023 Z (nxC h ((qb (h.frG 4 0 1 Z Z Z)).1) c Z Z Z fun _ h=>G0 17407 [7,8] (h.pick [] Z) Z (Ao 10 18431 Z (nxC h ((qb (h.frG 4 0 1 Z Z Z)).1) b Z Z Z fun _ h=>G0 24575 [11,12] (h.pick [] Z) Z (Aw 13 32767 (fun w' hw=>qq qa [0,1,3] [.tmp 8,.tmp 12,.tmp 16] Z Z Z Z Z Z Z Z) (h.pick [] Z) Z ?_))))));refine Ao 15 65535 Z (zs 2 h Z fun _ h=>qJ (fun hs=>absurd (hs 15 (by decide)) (by decide)) (Ad ?_));replace h:=h.pick [2,0,3,4] Z;exact rG ⟨_,rfl,h⟩ Z
   refine nxC h ((qb (h.frG 4 0 1 Z Z Z)).1) c Z Z Z fun _ h=>G0 17391 [7,8] (h.pick [] Z) Z (At 4 10 17407 18415 Z ?_ ?_)
   ·refine r_v (qbf qa (qB (w1:=w) (S1:=fun _=>False) h 1 Z a t y Z) (j:=0) Z Z Z) Z (Ag (h.pick [] Z) (Ao 10 18431 Z (nxC h ((qb (h.frG 4 0 1 Z Z Z)).1) b Z Z Z fun _ h=>G0 24575 [11,12] (h.pick [] Z) Z (Aw 13 32767 (fun w' hw=>qq qa [0,1,3] [.tmp 8,.tmp 12,.tmp 16] Z Z Z Z Z Z Z Z) (h.pick [] Z) Z ?_))));refine Ao 15 65535 Z (zs 2 h Z fun _ h=>qJ (fun hs=>absurd (hs 15 (by decide)) (by decide)) (Ad ?_));replace h:=h.pick [2,0,3,4] Z;exact rG ⟨_,rfl,h⟩ Z
   refine nxC h ((qb (h.frG 4 0 1 Z Z Z)).1) b Z Z Z fun _ h=>G0 24559 [11,12] (h.pick [] Z) Z (Ao 4 24575 Z (r_v (qbf qa (qB (w1:=w) (S1:=fun _=>False) h 1 Z a t y Z) (j:=0) Z Z Z) Z (Ag (h.pick [] Z) (Aw 13 32767 (fun w' hw=>qq qa [0,1,3] [.tmp 8,.tmp 12,.tmp 16] Z Z Z Z Z Z Z Z) (h.pick [] Z) Z ?_))));refine Ao 15 65535 Z (zs 2 h Z fun _ h=>qJ (fun hs=>absurd (hs 15 (by decide)) (by decide)) (Ad ?_));replace h:=h.pick [2,0,3,4] Z;exact rG ⟨_,rfl,h⟩ Z
  replace h:=h.pick [2,0,1,3] Z;refine nxC h ((qb (h.frG 3 0 1 Z Z Z)).1) N Z Z Z fun _ h=>Ag (h.pick [] Z) (At 0 6 16935 16998 Z ?_ ?_)
  ·refine qp qa [.const (.string (⟨#[115,108,111,119]⟩:ByteArray)),.const (.string (⟨#[102,97,115,116]⟩:ByteArray)),.const (.string (⟨#[116,121,112]⟩:ByteArray))] _ ([(⟨#[115,108,111,119]⟩:ByteArray),(⟨#[102,97,115,116]⟩:ByteArray),(⟨#[116,121,112]⟩:ByteArray)]:List ByteArray) h Z Z Z Z Z Z Z Z Z ⟨rfl,rfl,rfl,trivial⟩ Z fun _ _ _ h=>Ag (h.pick [] Z) ?_;have b4:=qaI a;obtain⟨_,o_29,_,_,u,z,-,hr32,_⟩:=(h.sl 0 Z).1.at a;obtain rfl:=hr32;refine Ax 3 16943 u z ⟨b4.1,qC b4.2.1 (h.sl 0 Z).2⟩ (h.pick [] Z) Z (At 4 6 16959 17007 Z ?_ ?_)
   ·refine r_v (qbf qa (qB (w1:=w) (S1:=fun _=>False) h 0 Z a u z Z) (j:=0) Z Z Z) Z (Ag (h.pick [] Z) (Ao 6 17023 Z ?_));replace h:=h.pick [1,0,2,3,4] Z;refine nxC h ((qb (h.frG 4 0 1 Z Z Z)).1) c Z Z Z fun _ h=>G0 17407 [7,8] (h.pick [] Z) Z (Ao 10 18431 Z (nxC h ((qb (h.frG 4 0 1 Z Z Z)).1) b Z Z Z fun _ h=>G0 24575 [11,12] (h.pick [] Z) Z (Aw 13 32767 (fun w' hw=>qq qa [0,1,3] [.tmp 8,.tmp 12,.tmp 16] Z Z Z Z Z Z Z Z) (h.pick [] Z) Z ?_)));refine Ao 15 65535 Z (zs 2 h Z fun _ h=>qJ (fun hs=>absurd (hs 15 (by decide)) (by decide)) (Ad ?_));replace h:=h.pick [2,0,3,4] Z;exact rG ⟨_,rfl,h⟩ Z
   replace h:=h.pick [1,0,2,3,4] Z;refine nxC h ((qb (h.frG 4 0 1 Z Z Z)).1) c Z Z Z fun _ h=>G0 17391 [7,8] (h.pick [] Z) Z (At 4 10 17407 18415 Z ?_ ?_)
   ·refine r_v (qbf qa (qB (w1:=w) (S1:=fun _=>False) h 1 Z a u z Z) (j:=0) Z Z Z) Z (Ag (h.pick [] Z) (Ao 10 18431 Z (nxC h ((qb (h.frG 4 0 1 Z Z Z)).1) b Z Z Z fun _ h=>G0 24575 [11,12] (h.pick [] Z) Z (Aw 13 32767 (fun w' hw=>qq qa [0,1,3] [.tmp 8,.tmp 12,.tmp 16] Z Z Z Z Z Z Z Z) (h.pick [] Z) Z ?_))));refine Ao 15 65535 Z (zs 2 h Z fun _ h=>qJ (fun hs=>absurd (hs 15 (by decide)) (by decide)) (Ad ?_));replace h:=h.pick [2,0,3,4] Z;exact rG ⟨_,rfl,h⟩ Z
   refine nxC h ((qb (h.frG 4 0 1 Z Z Z)).1) b Z Z Z fun _ h=>G0 24559 [11,12] (h.pick [] Z) Z (Ao 4 24575 Z (r_v (qbf qa (qB (w1:=w) (S1:=fun _=>False) h 1 Z a u z Z) (j:=0) Z Z Z) Z (Ag (h.pick [] Z) (Aw 13 32767 (fun w' hw=>qq qa [0,1,3] [.tmp 8,.tmp 12,.tmp 16] Z Z Z Z Z Z Z Z) (h.pick [] Z) Z ?_))));refine Ao 15 65535 Z (zs 2 h Z fun _ h=>qJ (fun hs=>absurd (hs 15 (by decide)) (by decide)) (Ad ?_));replace h:=h.pick [2,0,3,4] Z;exact rG ⟨_,rfl,h⟩ Z
  refine nxC h ((qb (h.frG 3 0 1 Z Z Z)).1) c Z Z Z fun _ h=>G0 17382 [7,8] (h.pick [] Z) Z (At 0 10 17383 18406 Z ?_ ?_)
  ·refine qp qa [.const (.string (⟨#[115,108,111,119]⟩:ByteArray)),.const (.string (⟨#[102,97,115,116]⟩:ByteArray)),.const (.string (⟨#[116,121,112]⟩:ByteArray))] _ ([(⟨#[115,108,111,119]⟩:ByteArray),(⟨#[102,97,115,116]⟩:ByteArray),(⟨#[116,121,112]⟩:ByteArray)]:List ByteArray) h Z Z Z Z Z Z Z Z Z ⟨rfl,rfl,rfl,trivial⟩ Z fun _ _ _ h=>Ag (h.pick [] Z) ?_;have b5:=qaI a;obtain⟨_,o_30,_,_,I,M,-,hr33,_⟩:=(h.sl 0 Z).1.at a;obtain rfl:=hr33;refine Ax 3 17391 I M ⟨b5.1,qC b5.2.1 (h.sl 0 Z).2⟩ (h.pick [] Z) Z (At 4 10 17407 18415 Z ?_ ?_)
   ·refine r_v (qbf qa (qB (w1:=w) (S1:=fun _=>False) h 0 Z a I M Z) (j:=0) Z Z Z) Z (Ag (h.pick [] Z) (Ao 10 18431 Z ?_));replace h:=h.pick [1,0,2,3,4] Z;refine nxC h ((qb (h.frG 4 0 1 Z Z Z)).1) b Z Z Z fun _ h=>G0 24575 [11,12] (h.pick [] Z) Z (Aw 13 32767 (fun w' hw=>qq qa [0,1,3] [.tmp 8,.tmp 12,.tmp 16] Z Z Z Z Z Z Z Z) (h.pick [] Z) Z ?_);refine Ao 15 65535 Z (zs 2 h Z fun _ h=>qJ (fun hs=>absurd (hs 15 (by decide)) (by decide)) (Ad ?_));replace h:=h.pick [2,0,3,4] Z;exact rG ⟨_,rfl,h⟩ Z
   replace h:=h.pick [1,0,2,3,4] Z;refine nxC h ((qb (h.frG 4 0 1 Z Z Z)).1) b Z Z Z fun _ h=>G0 24559 [11,12] (h.pick [] Z) Z (Ao 4 24575 Z (r_v (qbf qa (qB (w1:=w) (S1:=fun _=>False) h 1 Z a I M Z) (j:=0) Z Z Z) Z (Ag (h.pick [] Z) (Aw 13 32767 (fun w' hw=>qq qa [0,1,3] [.tmp 8,.tmp 12,.tmp 16] Z Z Z Z Z Z Z Z) (h.pick [] Z) Z ?_))));refine Ao 15 65535 Z (zs 2 h Z fun _ h=>qJ (fun hs=>absurd (hs 15 (by decide)) (by decide)) (Ad ?_));replace h:=h.pick [2,0,3,4] Z;exact rG ⟨_,rfl,h⟩ Z
  refine nxC h ((qb (h.frG 3 0 1 Z Z Z)).1) b Z Z Z fun _ h=>G0 24550 [11,12] (h.pick [] Z) Z (Ao 0 24551 Z (qp qa [.const (.string (⟨#[115,108,111,119]⟩:ByteArray)),.const (.string (⟨#[102,97,115,116]⟩:ByteArray)),.const (.string (⟨#[116,121,112]⟩:ByteArray))] _ ([(⟨#[115,108,111,119]⟩:ByteArray),(⟨#[102,97,115,116]⟩:ByteArray),(⟨#[116,121,112]⟩:ByteArray)]:List ByteArray) h Z Z Z Z Z Z Z Z Z ⟨rfl,rfl,rfl,trivial⟩ Z fun _ _ _ h=>Ag (h.pick [] Z) ?_));have b6:=qaI a;obtain⟨_,o_31,_,_,c2,c6,-,hr34,_⟩:=(h.sl 0 Z).1.at a;obtain rfl:=hr34;refine Ax 3 24559 c2 c6 ⟨b6.1,qC b6.2.1 (h.sl 0 Z).2⟩ (h.pick [] Z) Z (Ao 4 24575 Z (r_v (qbf qa (qB (w1:=w) (S1:=fun _=>False) h 0 Z a c2 c6 Z) (j:=0) Z Z Z) Z (Ag (h.pick [] Z) (Aw 13 32767 (fun w' hw=>qq qa [0,1,3] [.tmp 8,.tmp 12,.tmp 16] Z Z Z Z Z Z Z Z) (h.pick [] Z) Z ?_))));refine Ao 15 65535 Z (zs 2 h Z fun _ h=>qJ (fun hs=>absurd (hs 15 (by decide)) (by decide)) (Ad ?_));replace h:=h.pick [2,1,3,4] Z;exact rG ⟨_,rfl,h⟩ Z
 rintro _ _ ⟨B,rfl,h⟩;refine qb8 (rA [7] [0] h Z fun _ h=>M1 7 [0,1,2] 0 (h.pick [0] Z) Z (Ao 3 15 Z ?_));replace h:=h.pick [1,0,2,3] Z;obtain⟨⟨P,_,_⟩,hr35,hF⟩:=qd hF;refine nxC h ((qb (h.frG 3 0 1 Z Z Z)).1) hr35 Z Z Z fun _ h=>G0 127 [4,5,6] (h.pick [1] Z) Z (Ao 7 255 Z (zs 1 h Z fun _ h=>qJ (fun hs=>absurd (hs 7 (by decide)) (by decide)) (Ad (qb8 (rA [7] [1] h Z fun _ h=>M1 7 [0,1,2] 0 (h.pick [1] Z) Z (Ao 3 15 Z ?_))))));obtain⟨⟨Q,_,_⟩,hr36,hF⟩:=qd hF;refine nxC h ((qb (h.frG 3 0 1 Z Z Z)).1) hr36 Z Z Z fun _ h=>G0 127 [4,5,6] (h.pick [1] Z) Z (Ao 7 255 Z (zs 1 h Z fun _ h=>qJ (fun hs=>absurd (hs 7 (by decide)) (by decide)) (Ad (X0 4 Z ?_))));obtain⟨⟨_,_,_⟩,hr37,hF⟩:=qd hF;refine nxC h ((qb (h.frG 3 0 1 Z Z Z)).1) hr37 Z Z Z fun _ h=>X0 7 Z (ql Z hF ?_ ?_)<;>intro hF
 ·refine X1 5 1 h Z (zs 1 h Z fun _ h=>X1 5 1 h Z (zs 2 h Z fun _ h=>qbe ?_));have hk1:=h;obtain rfl:=qc hF;replace h:=h.pick [0,3] Z;exact qaZ qa [GoT.v qv [.string y1,.int .i64 (W64 (800+(W64 (10*O)))),.int .i64 (W64 ((W64 (800+(W64 (10*O))))-1)),.int .i64 (W64 (900+(W64 (10*R)))),.int .i64 (W64 ((W64 (900+(W64 (10*R))))+(W64 (9*Q))))]] ⟨⟨_,_,_,rfl,rfl,hk1.box 2 Z,rfl⟩,trivial⟩ ⟨rfl,SH.unfr 1 1 h0 h Z Z⟩
 refine X0 5 Z (ql Z hF ?_ ?_)<;>intro hF
 ·refine qjJ (qp qa [.const (.int .i64 (99)),.const (.int .i64 (100)),.const (.int .i64 (-1))] _ ([99,100,(-1)]:List Int) h Z Z Z Z Z Z Z Z Z ⟨rfl,rfl,rfl,trivial⟩ Z fun _ _ _ h=>zp1 Z ?_);replace h:=h.pick [1,0,2,3,4] Z;obtain⟨⟨_,_,_⟩,hr38,hF⟩:=qd hF;refine nxC h ((qb (h.frG 4 0 1 Z Z Z)).1) hr38 Z Z Z fun _ h=>?_;obtain⟨y2,_,hF,b7,_,_,_,_,hp32,hq32,rfl,hc34⟩:=(h.sl 1 Z).1.ix hF;refine zx hp32 hq32 ⟨b7.1,qC b7.2.1 (h.sl 1 Z).2⟩ Z (zc 0 hc34 Z (zp1 Z (zs 2 h Z fun _ h=>X1 5 2 h Z (zs 3 h Z fun _ h=>qbe ?_))));have hk2:=h;obtain rfl:=qc hF;replace h:=h.pick [0,4] Z;exact qaZ qa [GoT.v qv [.string y1,.int .i64 (W64 (800+(W64 (10*O)))),.int .i64 (W64 ((W64 (800+(W64 (10*O))))+(W64 (7*P)))),.int .i64 y2,.int .i64 (W64 ((W64 (900+(W64 (10*R))))+(W64 (9*Q))))]] ⟨⟨_,_,_,rfl,rfl,hk2.box 3 Z,rfl⟩,trivial⟩ ⟨rfl,SH.unfr 1 1 h0 h Z Z⟩
 refine X0 5 Z (ql Z hF ?_ ?_)<;>intro hF
 ·refine X0 2 Z ?_;obtain⟨⟨i22,_,_⟩,hr40,hF⟩:=qd hF;refine nxC h ((qb (h.frG 3 0 1 Z Z Z)).1) hr40 Z Z Z fun _ h=>zp2 Z (zs 1 h Z fun _ h=>X1 5 1 h Z (zs 2 h Z fun _ h=>qbe ?_));have hk3:=h;obtain rfl:=qc hF;replace h:=h.pick [0,3] Z;exact qaZ qa [GoT.v qv [.string y1,.int .i64 (W64 (800+(W64 (10*O)))),.int .i64 (W64 ((W64 (800+(W64 (10*O))))+(W64 (7*P)))),.int .i64 (W64 (900+(W64 (10*R)))),.int .i64 (W64 (5000+i22))]] ⟨⟨_,_,_,rfl,rfl,hk3.box 2 Z,rfl⟩,trivial⟩ ⟨rfl,SH.unfr 1 1 h0 h Z Z⟩
 refine X0 5 Z (ql Z hF ?_ ?_)<;>intro hF
 ·refine X0 2 Z (zs 1 h Z fun _ h=>X1 5 1 h Z (zs 2 h Z fun _ h=>qbe ?_));have hk4:=h;obtain rfl:=qc hF;replace h:=h.pick [0,3] Z;exact qaZ qa [GoT.v qv [.string (⟨#[]⟩:ByteArray),.int .i64 (W64 (800+(W64 (10*O)))),.int .i64 (W64 ((W64 (800+(W64 (10*O))))+(W64 (7*P)))),.int .i64 (W64 (900+(W64 (10*R)))),.int .i64 (W64 ((W64 (900+(W64 (10*R))))+(W64 (9*Q))))]] ⟨⟨_,_,_,rfl,rfl,hk4.box 2 Z,rfl⟩,trivial⟩ ⟨rfl,SH.unfr 1 1 h0 h Z Z⟩
 refine X1 5 1 h Z (zs 2 h Z fun _ h=>qbe ?_);have hk5:=h;obtain rfl:=qc hF;replace h:=h.pick [0,3] Z;exact qaZ qa [GoT.v qv [.string y1,.int .i64 (W64 (800+(W64 (10*O)))),.int .i64 (W64 ((W64 (800+(W64 (10*O))))+(W64 (7*P)))),.int .i64 (W64 (900+(W64 (10*R)))),.int .i64 (W64 ((W64 (900+(W64 (10*R))))+(W64 (9*Q))))]] ⟨⟨_,_,_,rfl,rfl,hk5.box 2 Z,rfl⟩,trivial⟩ ⟨rfl,SH.unfr 1 1 h0 h Z Z⟩
def qdh (links:(List qm))(live:(List Bool))(m:Bool):Nat→(List Bool)→Bool→Int→Option ((List Bool)×Bool×Int)| 0,_,_,_=>U| n+1,b,b3,a =>bif decide (a<(links.length:Int)) then(idx links a).bind fun d =>(idx links a).bind fun f =>(bif (!m) then V (f.To,d.Bd) else V (d.Bd,f.To)).bind fun o=>match o with| (h,c) =>((idx live a).bind fun i =>bif i then(idx b h).bind fun k =>bif k then(idx b c).bind fun l =>V (!l) else V false else V false).bind fun g =>bif g then(idx b c).bind fun _ =>qdh links live m n (setS b c true) true (W64 (a+1)) else qdh links live m n b b3 (W64 (a+1)) else V (b,b3,a)
def qeo (links:(List qm))(live:(List Bool))(c:Bool):Nat→(List Bool)→Bool→Option ((List Bool)×Bool)| 0,_,_=>U| n+1,a,b2 =>bif b2 then(qdh links live c n a false 0).bind fun o=>match o with| (b,b3,_) =>qeo links live c n b b3 else V (a,b2)
def qhi (n:Nat)(d:Int)(links:(List qm))(live:(List Bool))(node:Int)(c:Bool):Option (List Bool) :=(mkS d (false:Bool)).bind fun a =>(idx a node).bind fun _ =>(qeo links live c n (setS a node true) true).bind fun o=>match o with| (b,_) =>V b
theorem qkz {c4:Int}{links:(List qm)}{live:(List Bool)}{node:Int}{b6:Bool}(N:Ro w links cs1)(O:Ro w live cs2){r:(List Bool)}(F:qhi n c4 links live node b6=V r):RetV prog 260 [.int .i64 c4,GoT.v (List qm) cs1,GoT.v (List Bool) cs2,.int .i64 node,.bool b6] w r:=by
 obtain⟨p1,C,rfl,s1⟩:=N;obtain⟨H,D,rfl,s2⟩:=O;refine zV 63 func260 Z fun h=>X0 7 Z ?_;obtain⟨a,d,F⟩:=qd F;obtain⟨g1,g2,d⟩:=qab d;refine qaq qa Bool h Z Z Z Z Z Z Z Z Z g1 g2 d Z fun _ S1 b h=>X0 6 Z ?_;obtain⟨_,c2,F,l,_,_,_,_,u,x,rfl,P⟩:=(h.sl 0 Z).1.ix F;refine zx u x ⟨l.1,qC l.2.1 (h.sl 0 Z).2⟩ Z (qaH qa 0 0 true h Z c2 u x Z P Z Z Z Z Z Z Z fun _ h=>X0 6 Z ?_);obtain⟨o1,F,L⟩:=qd F;refine qn (rL (fun m e w'=>∃(x2:(List Bool)) (b2:Bool),qeo links live b6 m x2 b2=V o1∧e=[(1,.slice p1 links.length C),(2,.slice H live.length D),(4,.bool b6),(11,.slice b a.length a.length),(12,.bool b2)]∧SH w w' [Ch.own S1 (x2:List Bool) [.slice b a.length a.length]]) n ⟨_,_,F,rfl,h⟩ Z ?_);rintro m1 _ _ ⟨x2,b2,F,rfl,h⟩;rcases m1 with _|m1
 ·cases F
 refine X0 5 Z (ql Z F ?_ ?_)<;>intro F
 ·refine X0 10 Z ?_;obtain⟨o2,F,M⟩:=qd F;refine qn (rL (fun m e w'=>∃(A:(List Bool)) (b3:Bool) (z:Int),qdh links live b6 m A b3 z=V o2∧e=[(1,.slice p1 links.length C),(2,.slice H live.length D),(4,.bool b6),(11,.slice b a.length a.length),(12,.bool b3),(13,.int .i64 z)]∧SH w w' [Ch.own S1 (A:List Bool) [.slice b a.length a.length]]) m1 ⟨_,_,_,F,rfl,h⟩ Z ?_);rintro m2 _ _ ⟨A,b3,z,F,rfl,h⟩;rcases m2 with _|m2
  ·cases F
  refine X0 8 Z (ql Z F ?_ ?_)<;>intro F
  ·refine X0 4 Z (rD (zd2 Z ?_));obtain⟨_,_,F,X,_,_,_,_,a4,a9,b9,Q⟩:=s1.ix F;obtain rfl:=qaz b9;refine zdxe a4 a9 X Z (zd1 Z (zdc 0 (Q.below h.below) Z (zd2 Z ?_)));obtain⟨_,_,F,Y,_,_,_,_,a5,b4,c0,R⟩:=s1.ix F;obtain rfl:=qaz c0;refine zdxe a5 b4 Y Z (zd1 Z (zdc 1 (R.below h.below) Z (zd2 Z (dN h fun _ h=>X0 6 Z ?_))));obtain⟨J,i,_,F,f⟩:=bindE F;refine qaF (fun e w'=>∃(i2:Int) (B:Int),J (i2,B)=V o2∧e=[(1,.slice p1 links.length C),(2,.slice H live.length D),(4,.bool b6),(11,.slice b a.length a.length),(12,.bool b3),(13,.int .i64 z),(14,.int .i64 i2),(15,.int .i64 B)]∧SH w w' [Ch.own S1 (A:List Bool) [.slice b a.length a.length]]) ?_ ?_
   ·refine ql Z F ?_ ?_<;>intro F
    ·refine X0 6 Z ?_;obtain rfl:=qc F;exact rG ⟨_,_,f,rfl,h⟩ Z
    refine qfk ?_;obtain rfl:=qc F;exact rG ⟨_,_,f,rfl,h⟩ Z
   rintro _ _ ⟨i2,B,F,rfl,h⟩;subst i;refine qb8 ?_;obtain⟨I,g,_,F,c⟩:=bindE F;refine qaF (fun e w'=>∃(K:Bool),I K=V o2∧e=[(1,.slice p1 links.length C),(2,.slice H live.length D),(4,.bool b6),(11,.slice b a.length a.length),(12,.bool b3),(13,.int .i64 z),(15,.int .i64 B),(58,.bool K)]∧SH w w' [Ch.own S1 (A:List Bool) [.slice b a.length a.length]]) ?_ ?_
   ·refine X0 3 Z ?_;obtain⟨_,_,F,a3,_,_,_,_,a6,b5,rfl,T⟩:=s2.ix F;refine zxe a6 b5 a3 Z (zc 0 (T.below h.below) Z (zp1 Z (qg (t:=46) F Z ?_ ?_)))<;>intro F
    ·refine X0 5 Z ?_;obtain⟨_,_,F,p,_,_,_,_,a7,b7,rfl,W⟩:=(h.sl 0 Z).1.ix F;refine zx a7 b7 ⟨p.1,qC p.2.1 (h.sl 0 Z).2⟩ Z (X0 1 Z (zc 0 W Z (zp2 Z (qg (t:=52) F Z ?_ ?_))))<;>intro F
     ·refine X0 5 Z ?_;obtain⟨_,_,F,s,_,_,_,_,a8,b8,rfl,k⟩:=(h.sl 0 Z).1.ix F;refine zx a8 b8 ⟨s.1,qC s.2.1 (h.sl 0 Z).2⟩ Z (X0 1 Z (zc 0 k Z (X0 4 Z ?_)));obtain rfl:=qc F;exact rG ⟨_,c,rfl,h⟩ Z
     refine X0 7 Z ?_;obtain rfl:=qc F;exact rG ⟨_,c,rfl,h⟩ Z
    refine X0 13 Z ?_;obtain rfl:=qc F;exact rG ⟨_,c,rfl,h⟩ Z
   rintro _ _ ⟨K,F,rfl,h⟩;subst g;refine ql Z F ?_ ?_<;>intro F
   ·refine X0 4 Z ?_;obtain⟨_,c3,F,o,_,_,_,_,v,y,rfl,S⟩:=(h.sl 0 Z).1.ix F;exact zx v y ⟨o.1,qC o.2.1 (h.sl 0 Z).2⟩ Z (qaH qa 0 0 true h Z c3 v y Z S Z Z Z Z Z Z Z fun _ h=>X0 10 Z (rK ⟨_,_,_,F,rfl,h⟩ Z))
   exact X0 7 Z (rK ⟨_,_,_,F,rfl,h⟩ Z)
  refine qw Z ?_;obtain rfl:=qc F;replace F:=M;exact qtu (rK ⟨_,_,F,rfl,h⟩ Z)
 refine qw Z ?_;obtain rfl:=qc F;replace F:=L;refine X0 5 Z ?_;obtain rfl:=qc F;exact rO 0 h Z ⟨rfl,trivial⟩
def qdb (links:(List qm))(live:(List Bool))(v:Int):Nat→Int→Option (Flow Bool Int)| 0,_=>U| n+1,a =>bif decide (a<(links.length:Int)) then(idx live a).bind fun b =>bif b then(idx links a).bind fun c =>bif (c.Bd==v) then(idx links a).bind fun d =>bif (d.To==v) then V (.ret true) else qdb links live v n (W64 (a+1)) else qdb links live v n (W64 (a+1)) else qdb links live v n (W64 (a+1)) else V (.nxt a)
def qi8 (n:Nat)(links:(List qm))(live:(List Bool))(v:Int):Option Bool :=(qdb links live v n 0).bind fun o=>match o with| .ret r=>V r| .nxt _ =>V false
theorem qoj {links:(List qm)}{live:(List Bool)}{v:Int}(b:Ro w links cs1)(c:Ro w live cs2){r:Bool}(F:qi8 n links live v=V r):RetV prog 261 [GoT.v (List qm) cs1,GoT.v (List Bool) cs2,.int .i64 v] w r:=by
 obtain⟨p1,D,rfl,s1⟩:=b;obtain⟨I,H,rfl,s2⟩:=c;refine zV 36 func261 Z fun h=>X0 9 Z ?_;obtain⟨o1,F,a⟩:=qd F;refine qn (rL (fun m e w'=>∃(B:Int),qdb links live v m B=V o1∧e=[(0,.slice p1 links.length D),(1,.slice I live.length H),(2,.int .i64 v),(7,.int .i64 B)]∧SH w w' []) n ⟨_,F,rfl,h⟩ Z ?_);rintro C _ _ ⟨B,F,rfl,h⟩;rcases C with _|C
 ·cases F
 refine X0 8 Z (ql Z F ?_ ?_)<;>intro F
 ·refine X0 7 Z ?_;obtain⟨_,_,F,i,_,_,_,_,o,u,rfl,d⟩:=s2.ix F;refine zxe o u i Z (zc 0 (d.below h.below) Z (zp1 Z (qg (t:=18) F Z ?_ ?_)))<;>intro F
  ·refine X0 5 Z ?_;obtain⟨_,_,F,k,_,_,_,_,p,x,z,f⟩:=s1.ix F;obtain rfl:=qaz z;refine zxe p x k Z (X0 3 Z (zc 0 (f.below h.below) Z (X0 6 Z (qg (t:=27) F Z ?_ ?_))))<;>intro F
   ·refine X0 5 Z ?_;obtain⟨_,_,F,l,_,_,_,_,s,y,A,g⟩:=s1.ix F;obtain rfl:=qaz A;refine zxe s y l Z (X0 3 Z (zc 1 (g.below h.below) Z (X0 6 Z (ql Z F ?_ ?_))))<;>intro F
    ·refine X0 4 Z ?_;obtain rfl:=qc F;replace F:=a;exact rb h F Z
    exact X0 7 Z (rK ⟨_,F,rfl,h⟩ Z)
   exact X0 9 Z (qbE Z Z (X0 7 Z (rK ⟨_,F,rfl,h⟩ Z)))
  exact X0 18 Z (qbE Z Z (X0 7 Z (rK ⟨_,F,rfl,h⟩ Z)))
 refine qw Z ?_;obtain rfl:=qc F;replace F:=a;exact X0 4 Z (rb h F Z)
def qds (a_0:Int)(r1:(List Bool))(c:(List Bool)):Nat→(List Int)→(List Bool)→Int→Option ((List Int)×(List Bool)×Int)| 0,_,_,_=>U| n+1,d,b,a =>bif decide (a<a_0) then((idx r1 a).bind fun g =>bif g then(idx c a).bind fun h =>V h else V false).bind fun b2 =>bif b2 then(appS d ([a]:List Int)).bind fun f =>(idx b a).bind fun _ =>qds a_0 r1 c n f (setS b a true) (W64 (a+1)) else qds a_0 r1 c n d b (W64 (a+1)) else V (d,b,a)
def qct (a_0:Int)(a_1:(List qm))(a_2:(List Bool)):Nat→(List Bool)→(List (List Int))→Int→Option ((List Bool)×(List (List Int))×Int)| 0,_,_,_=>U| n+1,b,c,a =>bif decide (a<a_0) then(idx b a).bind fun l =>bif l then qct a_0 a_1 a_2 n b c (W64 (a+1)) else(qhi n a_0 a_1 a_2 a true).bind fun r1 =>(qhi n a_0 a_1 a_2 a false).bind fun h =>(qds a_0 r1 h n ([]:List Int) b 0).bind fun o=>match o with| (d,f,_) =>(bif decide ((d.length:Int) > 1) then V true else(qi8 n a_1 a_2 a).bind fun i =>V i).bind fun g =>bif g then(appS c ([d]:List (List Int))).bind fun k =>qct a_0 a_1 a_2 n f k (W64 (a+1)) else qct a_0 a_1 a_2 n f c (W64 (a+1)) else V (b,c,a)
def qiz (n:Nat)(a_0:Int)(a_1:(List qm))(a_2:(List Bool)):Option (List (List Int)) :=(mkS a_0 (false:Bool)).bind fun a =>(qct a_0 a_1 a_2 n a ([]:List (List Int)) 0).bind fun o=>match o with| (_,b,_) =>V b
theorem qns {a_0:Int}{a_1:(List qm)}{a_2:(List Bool)}(ha1:Ro w a_1 cs1)(ha2:Ro w a_2 cs2){r:(List (List Int))}(F:qiz n a_0 a_1 a_2=V r):RetV prog 216 [.int .i64 a_0,GoT.v (List qm) cs1,GoT.v (List Bool) cs2] w r:=by
 obtain⟨p1,P,rfl,s1⟩:=ha1;obtain⟨T,Q,rfl,s2⟩:=ha2;refine zV 73 func216 Z fun h=>X0 6 Z (qdI qa [] _ ([]:List (List Int)) [] h Z Z Z Z Z Z Z Z Z qgl Z Z fun _ _ _ h=>X0 5 Z ?_);obtain⟨a,i,F⟩:=qd F;obtain⟨g1,g2,i⟩:=qab i;refine qaq qa Bool h Z Z Z Z Z Z Z Z Z g1 g2 i Z fun _ S2 g h=>X0 7 Z ?_;obtain⟨o1,F,hK1⟩:=qd F;refine qn (rL (fun m e w'=>∃(x2:(List Bool)) (y:Nat→Prop) (f:Option Addr) (p:Nat) (d:Nat) (b:(List (List Int))) (x:Int),qct a_0 a_1 a_2 m x2 b x=V o1∧e=[(0,.int .i64 a_0),(1,.slice p1 a_1.length P),(2,.slice T a_2.length Q),(7,.slice f p d),(8,.slice g a.length a.length),(9,.int .i64 x)]∧SH w w' [Ch.own S2 (x2:List Bool) [.slice g a.length a.length],Ch.own y (b:List (List Int)) [.slice f p d]]) n ⟨_,_,_,_,_,_,_,F,rfl,h⟩ Z ?_);rintro m1 _ _ ⟨x2,y,f,p,d,b,x,F,rfl,h⟩;obtain rfl:=(h.sl 1 Z).2;rcases m1 with _|m1
 ·cases F
 refine X0 7 Z (ql Z F ?_ ?_)<;>intro F
 ·refine X0 8 Z ?_;obtain⟨_,_,F,D,_,_,_,_,hp1,hq1,rfl,hc2⟩:=(h.sl 0 Z).1.ix F;refine zx hp1 hq1 ⟨D.1,qC D.2.1 (h.sl 0 Z).2⟩ Z (zc 0 hc2 Z (qbe (ql Z F ?_ ?_)))<;>intro F
  ·exact qw Z (X0 5 Z (rK ⟨_,_,_,_,_,_,_,F,rfl,h⟩ Z))
  refine X0 7 Z (zcL h F (qkz ⟨_,_,rfl,(h.oldS s1)⟩ ⟨_,_,rfl,(h.oldS s2)⟩) Z fun r1 _ S4 W R h F=>zp4 Z (zcL h F (qkz ⟨_,_,rfl,(h.oldS s1)⟩ ⟨_,_,rfl,(h.oldS s2)⟩) Z fun v _ S5 X S h F=>X0 5 Z (qp qa [] _ ([]:List Int) h Z Z Z Z Z Z Z Z Z trivial Z fun _ _ _ h=>X0 7 Z ?_)));obtain⟨o2,F,hK2⟩:=qd F;refine qn (rL (fun m e w'=>∃(O:Nat→Prop) (u:Option Addr) (s:Nat) (o:Nat) (c:(List Int)) (N:(List Bool)) (M:Int),qds a_0 r1 v m c N M=V o2∧e=[(0,.int .i64 a_0),(1,.slice p1 a_1.length P),(2,.slice T a_2.length Q),(7,.slice f b.length d),(8,.slice g a.length a.length),(9,.int .i64 x),(10,.slice W r1.length R),(11,.slice X v.length S),(12,.slice u s o),(13,.int .i64 M)]∧SH w w' [Ch.own O (c:List Int) [.slice u s o],Ch.own S5 (v:List Bool) [.slice X v.length S],Ch.own S4 (r1:List Bool) [.slice W r1.length R],Ch.own S2 (N:List Bool) [.slice g a.length a.length],Ch.own y (b:List (List Int)) [.slice f b.length d]]) m1 ⟨_,_,_,_,_,_,_,F,rfl,h⟩ Z ?_);rintro m2 _ _ ⟨O,u,s,o,c,N,M,F,rfl,h⟩;obtain rfl:=(h.sl 0 Z).2;rcases m2 with _|m2
  ·cases F
  refine X0 7 Z (ql Z F ?_ ?_)<;>intro F
  ·refine X0 4 Z ?_;obtain⟨Y,B,_,F,z⟩:=bindE F;refine qaF (fun e w'=>∃(b2:Bool),Y b2=V o2∧e=[(0,.int .i64 a_0),(1,.slice p1 a_1.length P),(2,.slice T a_2.length Q),(7,.slice f b.length d),(8,.slice g a.length a.length),(9,.int .i64 x),(10,.slice W r1.length R),(11,.slice X v.length S),(12,.slice u c.length o),(13,.int .i64 M),(51,.bool b2)]∧SH w w' [Ch.own O (c:List Int) [.slice u c.length o],Ch.own S5 (v:List Bool) [.slice X v.length S],Ch.own S4 (r1:List Bool) [.slice W r1.length R],Ch.own S2 (N:List Bool) [.slice g a.length a.length],Ch.own y (b:List (List Int)) [.slice f b.length d]]) ?_ ?_
   ·refine X0 3 Z ?_;obtain⟨_,_,F,I,_,_,_,_,hp3,hq3,rfl,hc7⟩:=(h.sl 2 Z).1.ix F;refine zx hp3 hq3 ⟨I.1,qC I.2.1 (h.sl 2 Z).2⟩ Z (zc 0 hc7 Z (zp1 Z (qg (t:=46) F Z ?_ ?_)))<;>intro F
    ·refine X0 5 Z ?_;obtain⟨_,_,F,J,_,_,_,_,hp4,hq4,rfl,hc8⟩:=(h.sl 1 Z).1.ix F;refine zx hp4 hq4 ⟨J.1,qC J.2.1 (h.sl 1 Z).2⟩ Z (X0 1 Z (zc 0 hc8 Z (X0 2 Z ?_)));obtain rfl:=qc F;exact rG ⟨_,z,rfl,h⟩ Z
    refine X0 6 Z ?_;obtain rfl:=qc F;exact rG ⟨_,z,rfl,h⟩ Z
   rintro _ _ ⟨b2,F,rfl,h⟩;subst B;refine ql Z F ?_ ?_<;>intro F
   ·refine X0 4 Z (qp qa [.tmp 53] _ ([M]:List Int) h Z Z Z Z Z Z Z Z Z ⟨rfl,trivial⟩ Z fun _ _ _ h=>?_);obtain⟨_,k,F⟩:=qd F;obtain⟨g3,k⟩:=qE k;refine qat qa 1 h Z (h.sl 0 Z).1 (h.sl 0 Z).2 Z Z Z Z Z Z Z Z Z g3 k Z fun _ _ _ _ h=>X0 5 Z ?_;obtain⟨_,hy2,F,H,_,_,_,_,K,L,rfl,hc6⟩:=(h.sl 4 Z).1.ix F;refine zx K L ⟨H.1,qC H.2.1 (h.sl 4 Z).2⟩ Z (qaH qa 4 0 true h Z hy2 K L Z hc6 Z Z Z Z Z Z Z fun _ h=>X0 7 Z ?_);replace h:=h.pick [1,2,3,4,5] Z;exact rK ⟨_,_,_,_,_,_,_,F,rfl,h⟩ Z
   exact X0 7 Z (rK ⟨_,_,_,_,_,_,_,F,rfl,h⟩ Z)
  refine qw Z ?_;obtain rfl:=qc F;replace F:=hK2;refine qb8 ?_;obtain⟨a3,C,_,F,A⟩:=bindE F;refine qaF (fun e w'=>∃(b6:Bool),a3 b6=V o1∧e=[(0,.int .i64 a_0),(1,.slice p1 a_1.length P),(2,.slice T a_2.length Q),(7,.slice f b.length d),(8,.slice g a.length a.length),(9,.int .i64 x),(12,.slice u c.length o),(67,.bool b6)]∧SH w w' [Ch.own O (c:List Int) [.slice u c.length o],Ch.own S2 (N:List Bool) [.slice g a.length a.length],Ch.own y (b:List (List Int)) [.slice f b.length d]]) ?_ ?_
  ·refine X0 5 Z (qg (t:=62) F Z ?_ ?_)<;>intro F
   ·refine X0 6 Z ?_;replace h:=h.pick [0,3,4] Z;obtain rfl:=qc F;exact rG ⟨_,A,rfl,h⟩ Z
   refine X0 7 Z (zcB h F (qoj ⟨_,_,rfl,(h.oldS s1)⟩ ⟨_,_,rfl,(h.oldS s2)⟩) Z fun _ _ h F=>X0 2 Z ?_);replace h:=h.pick [0,3,4] Z;obtain rfl:=qc F;exact rG ⟨_,A,rfl,h⟩ Z
  rintro _ _ ⟨b6,F,rfl,h⟩;subst C;refine ql Z F ?_ ?_<;>intro F
  ·refine X0 3 Z (qdI qa [.tmp 69] _ ([c]:List (List Int)) [1,2] h Z Z Z Z Z Z Z Z Z (qcy (qN 0 h Z) qgl Z) Z Z fun _ _ _ h=>?_);obtain⟨_,l,F⟩:=qd F;obtain⟨g4,l⟩:=qE l;replace h:=h.pick [0,2,1] Z;refine qkT qa h Z Z Z Z Z Z Z Z Z g4 l Z fun _ _ _ _ h=>X0 8 Z ?_;replace h:=h.pick [1,0] Z;exact rK ⟨_,_,_,_,_,_,_,F,rfl,h⟩ Z
  refine X0 7 Z ?_;replace h:=h.pick [1,2] Z;exact rK ⟨_,_,_,_,_,_,_,F,rfl,h⟩ Z
 refine qw Z ?_;obtain rfl:=qc F;replace F:=hK1;refine X0 5 Z ?_;obtain rfl:=qc F;exact rO 1 h Z ⟨rfl,trivial⟩

def qdo (b:(List Bool))(c:(List Bool)):Nat→(List Int)→Int→Option ((List Int)×Int)| 0,_,_=>U| n+1,d,a =>bif decide (a<(b.length:Int)) then(idx c a).bind fun g =>bif (!g) then(appS d ([a]:List Int)).bind fun f =>qdo b c n f (W64 (a+1)) else qdo b c n d (W64 (a+1)) else V (d,a)
def qbm (r1:(List qm))(c:(List Bool))(b:(List (List Int))):Nat→Int→Int→Option (Int×Int)| 0,_,_=>U| n+1,d,a =>bif decide (a<(r1.length:Int)) then(idx c a).bind fun h =>bif h then(idx r1 a).bind fun i =>bif (i.Au==1) then(idx b 0).bind fun k =>(idx r1 a).bind fun l =>(qhE n k l.Bd).bind fun f =>bif f then(idx b 0).bind fun m =>(idx r1 a).bind fun o =>(qhE n m o.To).bind fun g =>bif g then qbm r1 c b n a (W64 (a+1)) else qbm r1 c b n d (W64 (a+1)) else qbm r1 c b n d (W64 (a+1)) else qbm r1 c b n d (W64 (a+1)) else qbm r1 c b n d (W64 (a+1)) else V (d,a)
def qfJ (r1:(List qm))(c:Int):Nat→(List Bool)→Option (List Bool)| 0,_=>U| n+1,a =>(qiz n c r1 a).bind fun d =>bif ((d.length:Int)==0) then V a else(qbm r1 a d n (-1) 0).bind fun o=>match o with| (b,_) =>(idx a b).bind fun _ =>qfJ r1 c n (setS a b false)
def qiB (n:Nat)(a_0:qe):Option (List Int) :=(qei n a_0).bind fun r1 =>(qgO n r1 ([]:List Int)).bind fun a =>(qfl n a_0).bind fun b =>(qfJ r1 b n a).bind fun c =>(qdo a c n ([]:List Int) 0).bind fun o=>match o with| (d,_) =>V d
theorem qnQ {a_0:qe}(b:Ro w a_0 cs1){r:(List Int)}(F:qiB n a_0=V r):RetV prog 155 [GoT.v qe cs1] w r:=by
 obtain⟨_,_,_,_,_,_,_,_,_,_,rfl,_,_,_,_,_⟩:=qL b;refine zV 86 func155 Z fun h=>zSR (qH h Z Z fun _ _ h=>X1 5 0 h Z (zcL h F (qfH (h.old b)) Z fun r1 _ S1 R Q h F=>X0 5 Z (qp qa [] _ ([]:List Int) h Z Z Z Z Z Z Z Z Z trivial Z fun _ _ _ h=>zcL h F (qi3 (h.own 1 Z) (h.own 0 Z)) Z fun g _ T l k h F=>X1 5 3 h Z (zcI h F (qg2 (h.old b)) Z fun r3 _ h F=>X0 3 Z ?_))));obtain⟨o1,F,W⟩:=qd F;refine qn ?_;replace h:=h.pick [0,2] Z;refine rL (fun m e w'=>∃(i:(List Bool)),qfJ r1 r3 m i=V o1∧e=[(3,.slice R r1.length Q),(4,.slice l g.length k),(5,.int .i64 r3)]∧SH w w' [Ch.own T (i:List Bool) [.slice l g.length k],Ch.own S1 (r1:List qm) [.slice R r1.length Q]]) n ⟨_,F,rfl,h⟩ Z ?_;rintro m1 _ _ ⟨i,F,rfl,h⟩;rcases m1 with _|m1
 ·cases F
 refine X0 6 Z (zcL h F (qns (h.own 1 Z) (h.own 0 Z)) Z fun S _ S4 p9 k8 h F=>X0 9 Z (ql Z F ?_ ?_))<;>intro F
 ·refine qw Z ?_;obtain rfl:=qc F;replace F:=W;refine zSR (qp qa [] _ ([]:List Int) h Z Z Z Z Z Z Z Z Z trivial Z fun _ _ _ h=>X0 7 Z ?_);obtain⟨o2,F,X⟩:=qd F;refine qn ?_;replace h:=h.pick [0,2] Z;refine rL (fun m e w'=>∃(S6:Nat→Prop) (f:Option Addr) (d:Nat) (k9:Nat) (x2:(List Int)) (P:Int),qdo g i m x2 P=V o2∧e=[(4,.slice l g.length k),(9,.slice f d k9),(10,.int .i64 P)]∧SH w w' [Ch.own S6 (x2:List Int) [.slice f d k9],Ch.own T (i:List Bool) [.slice l g.length k]]) n ⟨_,_,_,_,_,_,F,rfl,h⟩ Z ?_;rintro m2 _ _ ⟨S6,f,d,k9,x2,P,F,rfl,h⟩;obtain rfl:=(h.sl 0 Z).2;rcases m2 with _|m2
  ·cases F
  refine X0 8 Z (ql Z F ?_ ?_)<;>intro F
  ·refine X0 7 Z ?_;obtain⟨_,_,F,u,_,_,_,_,a8,b9,rfl,a3⟩:=(h.sl 1 Z).1.ix F;refine zx a8 b9 ⟨u.1,qC u.2.1 (h.sl 1 Z).2⟩ Z (zc 0 a3 Z (X0 2 Z (ql Z F ?_ ?_)))<;>intro F
   ·refine X0 3 Z (qp qa [.tmp 82] _ ([P]:List Int) h Z Z Z Z Z Z Z Z Z ⟨rfl,trivial⟩ Z fun _ _ _ h=>?_);obtain⟨_,c,F⟩:=qd F;obtain⟨g1,c⟩:=qE c;refine qat qa 1 h Z (h.sl 0 Z).1 (h.sl 0 Z).2 Z Z Z Z Z Z Z Z Z g1 c Z fun _ _ _ _ h=>X0 8 Z ?_;replace h:=h.pick [1,2] Z;exact rK ⟨_,_,_,_,_,_,F,rfl,h⟩ Z
   exact X0 7 Z (rK ⟨_,_,_,_,_,_,F,rfl,h⟩ Z)
  refine qw Z ?_;obtain rfl:=qc F;replace F:=X;refine X0 5 Z ?_;obtain rfl:=qc F;exact rO 0 h Z ⟨rfl,trivial⟩
 refine X0 10 Z ?_;obtain⟨o3,F,Y⟩:=qd F;refine qn (rL (fun m e w'=>∃(i2:Int) (i3:Int),qbm r1 i S m i2 i3=V o3∧e=[(3,.slice R r1.length Q),(4,.slice l g.length k),(5,.int .i64 r3),(6,.slice p9 S.length k8),(7,.int .i64 i2),(8,.int .i64 i3)]∧SH w w' [Ch.own S4 (S:List (List Int)) [.slice p9 S.length k8],Ch.own T (i:List Bool) [.slice l g.length k],Ch.own S1 (r1:List qm) [.slice R r1.length Q]]) m1 ⟨_,_,F,rfl,h⟩ Z ?_);rintro m3 _ _ ⟨i2,i3,F,rfl,h⟩;rcases m3 with _|m3
 ·cases F
 refine X0 8 Z (ql Z F ?_ ?_)<;>intro F
 ·refine X0 4 Z (rD (zd2 Z ?_));obtain⟨_,_,F,v,_,_,_,_,a9,c0,rfl,a4⟩:=(h.sl 1 Z).1.ix F;refine zdx a9 c0 ⟨v.1,qC v.2.1 (h.sl 1 Z).2⟩ Z (zdc 0 a4 Z (zd1 Z (qaJ (t:=35) F Z ?_ ?_)))<;>intro F
  ·refine Y0 5 Z ?_;obtain⟨_,_,F,x,_,_,_,_,b4,c2,c7,a5⟩:=(h.sl 2 Z).1.ix F;obtain rfl:=qaz c7;refine zdx b4 c2 ⟨x.1,qC x.2.1 (h.sl 2 Z).2⟩ Z (Y0 3 Z (zdc 2 a5 Z (Y0 4 Z (qaJ (t:=43) F Z ?_ ?_))))<;>intro F
   ·refine Y0 3 Z ?_;obtain⟨_,O,F⟩:=qd F;have y:=qaI O;replace h:=h.lrn0 0 Z;obtain⟨_,o_4,_,_,b5,c3,-,N,a6⟩:=(qiM (h.lrnO 0 Z)).1.at O;have c8:=N;obtain⟨_,_,rfl,_⟩:=N;replace h:=h.lrnAdd 0 Z c8;refine zdx b5 c3 ⟨y.1,qC y.2.1 (qiM (h.lrnO 0 Z)).2⟩ Z (Y0 1 Z (zdc 0 a6 Z (Y0 5 Z ?_)));obtain⟨_,_,F,z,_,_,_,_,b6,c4,I,a7⟩:=(h.sl 2 Z).1.ix F;obtain rfl:=qaz I;refine zdx b6 c4 ⟨z.1,qC z.2.1 (h.sl 2 Z).2⟩ Z (Y0 3 Z (zdc 0 a7 Z (Y0 1 Z ?_)));obtain⟨r5,J,F⟩:=qd F;refine qb3 r5 (vsB _) (cB 90 Z) (fun _ hb=>qjD (GoT.mono ((h.ext hb).lrnS 0 0 Z Z) ((h.ext hb).lrnB 0 Z)) J) Z Z Z Z (zd2 Z (qaJ (t:=54) F Z ?_ ?_))<;>intro F
    ·refine Y0 3 Z ?_;obtain⟨_,_,F,A,_,_,_,_,b7,c5,a,o⟩:=(qiM (h.lrnO 0 Z)).1.ix F;have K:=a;obtain⟨_,_,rfl,_⟩:=a;replace h:=h.lrnAdd 0 Z K;refine zdx b7 c5 ⟨A.1,qC A.2.1 (qiM (h.lrnO 0 Z)).2⟩ Z (Y0 1 Z (zdc 0 o Z (Y0 5 Z ?_)));obtain⟨_,_,F,B,_,_,_,_,b8,c6,L,p⟩:=(h.sl 2 Z).1.ix F;obtain rfl:=qaz L;refine zdx b8 c6 ⟨B.1,qC B.2.1 (h.sl 2 Z).2⟩ Z (Y0 3 Z (zdc 1 p Z (Y0 1 Z ?_)));obtain⟨r6,M,F⟩:=qd F;refine qb3 r6 (vsB _) (cB 90 Z) (fun _ hb=>qjD (GoT.mono ((h.ext hb).lrnS 0 0 Z Z) ((h.ext hb).lrnB 0 Z)) M) Z Z Z Z (zd1 Z (dN h fun _ h=>ql Z F ?_ ?_))<;>intro F
     ·refine X0 10 Z ?_;replace h:=h.unlrn 0 Z;exact rK ⟨_,_,F,rfl,h⟩ Z
     refine X0 7 Z ?_;replace h:=h.unlrn 0 Z;exact rK ⟨_,_,F,rfl,h⟩ Z
    refine Y0 10 Z (dN h fun _ h=>qbE Z Z (X0 7 Z ?_));replace h:=h.unlrn 0 Z;exact rK ⟨_,_,F,rfl,h⟩ Z
   exact Y0 21 Z (dN h fun _ h=>qbE Z Z (X0 7 Z (rK ⟨_,_,F,rfl,h⟩ Z)))
  exact Y0 29 Z (dN h fun _ h=>qbE Z Z (X0 7 Z (rK ⟨_,_,F,rfl,h⟩ Z)))
 refine qw Z ?_;obtain rfl:=qc F;replace F:=Y;refine X0 3 Z ?_;obtain⟨_,c9,F,C,_,_,_,_,D,H,rfl,s⟩:=(h.sl 1 Z).1.ix F;refine zx D H ⟨C.1,qC C.2.1 (h.sl 1 Z).2⟩ Z (qaH qa 1 0 false h Z c9 D H Z s Z Z Z Z Z Z Z fun _ h=>zNE ?_);replace h:=h.pick [1,2] Z;exact rK ⟨_,F,rfl,h⟩ Z
def qbG (a_0:Tl01Source)(A:Int)(b1:Bool):Nat→(List qf)→Int→Int→Int→Option ((List qf)×Int×Int×Int)| 0,_,_,_,_=>U| n+1,D,B,C,d =>bif decide (d<2) then(bif b1 then(qu n (⟨a_0.code,B,C⟩:Tl01Source) 8).bind fun o=>match o with| (s,b,c) =>bif decide (s > 0) then V (b,c,true) else(qu n (⟨a_0.code,b,c⟩:Tl01Source) 24).bind fun o=>match o with| (t,u,v) =>V (u,v,(t==0)) else(qu n (⟨a_0.code,B,C⟩:Tl01Source) 24).bind fun o=>match o with| (x,y,z) =>V (y,z,(x==0))).bind fun o=>match o with| (F,i8,b2) =>bif b2 then(qu n (⟨a_0.code,F,i8⟩:Tl01Source) 200).bind fun o=>match o with| (H,f,g) =>(qu n (⟨a_0.code,f,g⟩:Tl01Source) 30).bind fun o=>match o with| (a,h,i) =>(qu n (⟨a_0.code,h,i⟩:Tl01Source) 40).bind fun o=>match o with| (k,i16,l) =>(qu n (⟨a_0.code,i16,l⟩:Tl01Source) 12).bind fun o=>match o with| (m,p,r) =>(appS D ([(⟨W64 ((W64 (2*A))+d),(⟨W64 (H-50),W64 ((W64 (H-50))+k)⟩:qh),(⟨a,W64 (a+m)⟩:qh)⟩:qf)]:List qf)).bind fun I =>qbG a_0 A b1 n I p r (W64 (d+1)) else qbG a_0 A b1 n D F i8 (W64 (d+1)) else V (D,B,C,d)
def qb5 (a_0:Tl01Source)(b:(List Tl05Place)):Nat→(List qf)→Int→Int→Int→Option ((List qf)×Int×Int×Int)| 0,_,_,_,_=>U| n+1,f,c,d,a =>bif decide (a<(b.length:Int)) then((idx b a).bind fun k =>bif decide (k.instance_<0) then(idx b a).bind fun l =>V l.drives else V false).bind fun b1 =>(qbG a_0 a b1 n f c d 0).bind fun o=>match o with| (i,g,h,_) =>qb5 a_0 b n i g h (W64 (a+1)) else V (f,c,d,a)
def qd3 (n:Nat)(a_0:Tl01Source)(a_1:qe):Option ((List qf)×Int×Int) :=(qcH n a_1).bind fun r1 =>bif (!r1) then V (([]:List qf),a_0.at_,a_0.seed) else(qb1 n (⟨a_1.Aa.Ab,a_1.Aa.Aj,a_1.Aa.Ah⟩:qi)).bind fun p =>(qb5 a_0 p n ([]:List qf) a_0.at_ a_0.seed 0).bind fun o=>match o with| (b,h,i,_) =>bif decide ((b.length:Int) > 0) then(qu n (⟨a_0.code,h,i⟩:Tl01Source) (b.length:Int)).bind fun o=>match o with| (a,g,i32) =>(qu n (⟨a_0.code,g,i32⟩:Tl01Source) 30).bind fun o=>match o with| (f,c,d) =>bif (f==0) then(idx b 0).bind fun r =>(idx b a).bind fun s =>V ((setS b a ({ s with Bi:=r.Bi })),c,d) else bif (f==1) then(idx b a).bind fun t =>(idx b a).bind fun k =>V ((setS b a ({ k with Af:={ k.Af with Ak:=W64 (t.Af.Ar+1) } })),c,d) else bif (f==2) then(idx b a).bind fun l =>V ((setS b a ({ l with Av:={ l.Av with Ak:=(-1) } })),c,d) else bif (f==3) then(idx b a).bind fun m =>V ((setS b a ({ m with Af:={ m.Af with Ar:=1000000000 } })),c,d) else V (b,c,d) else V (b,h,i)
theorem qhM {n:Nat}{b w:World}{F:List Ch}{a_0:Tl01Source}{a:Nat}{p1:Option Addr}{c:Nat}{a_1:qe}{cs1:List Value}(p:SH b w (xb a a_0 p1 c a_0.at_ a_0.seed::F))(ha1:GoT.R w (Fr b F) a_0 (qaw a_0 p1 c))(I:GoT.R w (Fr b F) a_1 cs1){r:((List qf)×Int×Int)}(hF:qd3 n a_0 a_1=V r):RetW prog 156 [.pointer (V ⟨a,0,U⟩),GoT.v qe cs1] w (fun us w'=>∃(S1:Nat→Prop) (cs2:List Value),us=[GoT.v (List qf) cs2]∧SH b w' (Ch.own S1 (r.1:(List qf)) cs2::xb a a_0 p1 c r.2.1 r.2.2::F)):=by
 have h:=SH.frm1 p ha1;have hz1:=I;obtain⟨p2,k2,p3,k3,p4,k4,p5,k5,p6,k6,rfl,_,_,_,_,_⟩:=qL I;replace h:=h.grpAdd 1 Z hz1;replace h:SH _ _ [xb a a_0 p1 c a_0.at_ a_0.seed,Ch.grp (old b) (FS F) [fct (a_1:qe) (qx a_1 p2 p3 p4 p5 p6 k2 k3 k4 k5 k6),fct (a_0:Tl01Source) (qaw a_0 p1 c),same b w F]]:=h;refine qbA func156 Z (m:=128) Z Z (zSR (qH h Z Z fun _ _ h=>X0 4 Z (qp qa [] _ ([]:List qf) h Z Z Z Z Z Z Z Z Z trivial Z fun _ p7 _ h=>X1 6 1 h Z (zcB h hF (qeO (h.grp 3 0 Z Z)) Z fun _ _ h hF=>X0 2 Z (ql Z hF ?_ ?_)))))<;>intro hF
 ·refine X0 5 Z ?_;obtain rfl:=qc hF;replace h:=h.pick [0,2,3] Z;exact qaZ qa [GoT.v (List qf) [.slice p7 0 0]] ⟨rfl,trivial⟩ ⟨_,_,rfl,SH.unfr 1 2 p h Z Z⟩
 refine X1 5 1 h Z (zcL h hF (qbV ⟨[.slice p3 a_1.Aa.Ab.length k3],[.slice p4 a_1.Aa.Aj.length k4,.slice p5 a_1.Aa.Ah.length k5],rfl,⟨_,_,rfl,(qfn (h.grp 3 0 Z Z)).2.1.1⟩,⟨[.slice p4 a_1.Aa.Aj.length k4],[.slice p5 a_1.Aa.Ah.length k5],rfl,⟨_,_,rfl,(qfn (h.grp 3 0 Z Z)).2.2.1.1⟩,⟨_,_,rfl,(qfn (h.grp 3 0 Z Z)).2.2.2.1.1⟩⟩⟩) Z fun d _ S3 u s h hF=>X0 7 Z ?_);replace h:=h.grpKeep [1,2] 4 Z;obtain⟨o1,hF,hK1⟩:=qd hF;refine qn ?_;replace h:=h.pick [0,1,3,4] Z;refine rL (fun m e w'=>∃(S4:Nat→Prop) (k:Option Addr) (y:Nat) (g:Nat) (f:(List qf)) (i1:Int) (i2:Int) (o:Int),qb5 a_0 d m f i1 i2 o=V o1∧e=[(0,.pointer (V ⟨a,0,U⟩)),(5,.slice k y g),(6,.slice u d.length s),(7,.int .i64 o)]∧SH b w' [Ch.own S3 (d:List Tl05Place) [.slice u d.length s],Ch.own S4 (f:List qf) [.slice k y g],xb a a_0 p1 c i1 i2,xf b w F a_0 p1 c]) n ⟨_,_,_,_,_,_,_,_,hF,rfl,h⟩ Z ?_;rintro m1 _ _ ⟨S4,k,y,g,f,i1,i2,o,hF,rfl,h⟩;obtain rfl:=(h.sl 1 Z).2;rcases m1 with _|m1
 ·cases hF
 refine X0 8 Z (ql Z hF ?_ ?_)<;>intro hF
 ·refine X0 4 Z ?_;obtain⟨KF2,H,_,hF,C⟩:=bindE hF;refine qaF (fun e w'=>∃(b1:Bool),KF2 b1=V o1∧e=[(0,.pointer (V ⟨a,0,U⟩)),(5,.slice k f.length g),(6,.slice u d.length s),(7,.int .i64 o),(8,.bool b1)]∧SH b w' [Ch.own S3 (d:List Tl05Place) [.slice u d.length s],Ch.own S4 (f:List qf) [.slice k f.length g],xb a a_0 p1 c i1 i2,xf b w F a_0 p1 c]) ?_ ?_
  ·refine X0 3 Z ?_;obtain⟨_,_,hF,O,_,_,_,_,hp1,hq1,b4,hc5⟩:=(h.sl 0 Z).1.ix hF;obtain rfl:=qbs b4;refine zx hp1 hq1 ⟨O.1,qC O.2.1 (h.sl 0 Z).2⟩ Z (zp1 Z (zc 0 hc5 Z (zp2 Z (qg (t:=33) hF Z ?_ ?_))))<;>intro hF
   ·refine X0 5 Z ?_;obtain⟨_,_,hF,P,_,_,_,_,hp2,hq2,b5,hc6⟩:=(h.sl 0 Z).1.ix hF;obtain rfl:=qbs b5;refine zx hp2 hq2 ⟨P.1,qC P.2.1 (h.sl 0 Z).2⟩ Z (X0 3 Z (zc 3 hc6 Z (X0 3 Z ?_)));obtain rfl:=qc hF;exact rG ⟨_,C,rfl,h⟩ Z
   refine X0 8 Z ?_;obtain rfl:=qc hF;exact rG ⟨_,C,rfl,h⟩ Z
  rintro _ _ ⟨b1,hF,rfl,h⟩;subst H;refine X0 4 Z ?_;obtain⟨o2,hF,hK2⟩:=qd hF;refine qn (rL (fun m e w'=>∃(S5:Nat→Prop) (i:Option Addr) (z:Nat) (k9:Nat) (B:(List qf)) (i4:Int) (i5:Int) (A:Int),qbG a_0 o b1 m B i4 i5 A=V o2∧e=[(0,.pointer (V ⟨a,0,U⟩)),(5,.slice i z k9),(6,.slice u d.length s),(7,.int .i64 o),(8,.bool b1),(9,.int .i64 A)]∧SH b w' [Ch.own S3 (d:List Tl05Place) [.slice u d.length s],Ch.own S5 (B:List qf) [.slice i z k9],xb a a_0 p1 c i4 i5,xf b w F a_0 p1 c]) m1 ⟨_,_,_,_,_,_,_,_,hF,rfl,h⟩ Z ?_);rintro m2 _ _ ⟨S5,i,z,k9,B,i4,i5,A,hF,rfl,h⟩;obtain rfl:=(h.sl 1 Z).2;rcases m2 with _|m2
  ·cases hF
  refine X0 6 Z (ql Z hF ?_ ?_)<;>intro hF
  ·refine X0 4 Z ?_;obtain⟨KF1,D,_,hF,v⟩:=bindE hF;refine qaF (fun e w'=>∃(i7:Int) (i8:Int) (b2:Bool),KF1 (i7,i8,b2)=V o2∧e=[(0,.pointer (V ⟨a,0,U⟩)),(5,.slice i B.length k9),(6,.slice u d.length s),(7,.int .i64 o),(8,.bool b1),(9,.int .i64 A),(54,.bool b2)]∧SH b w' [xb a a_0 p1 c i7 i8,Ch.own S3 (d:List Tl05Place) [.slice u d.length s],Ch.own S5 (B:List qf) [.slice i B.length k9],xf b w F a_0 p1 c]) ?_ ?_
   ·refine X0 3 Z (qg (t:=45) hF Z ?_ ?_)<;>intro hF
    ·refine X0 3 Z ?_;replace h:=h.pick [2,0,1,3] Z;obtain⟨⟨_,_,_⟩,hr7,hF⟩:=qd hF;refine nxC h ((qb (h.frG 3 0 1 Z Z Z)).1) hr7 Z Z Z fun _ h=>X0 4 Z (qg (t:=50) hF Z ?_ ?_)<;>intro hF
     ·refine X0 5 Z ?_;obtain rfl:=qc hF;exact rG ⟨_,_,_,v,rfl,h⟩ Z
     refine X0 3 Z ?_;obtain⟨⟨_,_,_⟩,hr8,hF⟩:=qd hF;refine nxC h ((qb (h.frG 3 0 1 Z Z Z)).1) hr8 Z Z Z fun _ h=>X0 4 Z ?_;obtain rfl:=qc hF;exact rG ⟨_,_,_,v,rfl,h⟩ Z
    refine X0 8 Z ?_;replace h:=h.pick [2,0,1,3] Z;obtain⟨⟨_,_,_⟩,hr9,hF⟩:=qd hF;refine nxC h ((qb (h.frG 3 0 1 Z Z Z)).1) hr9 Z Z Z fun _ h=>X0 4 Z ?_;obtain rfl:=qc hF;exact rG ⟨_,_,_,v,rfl,h⟩ Z
   rintro _ _ ⟨i7,i8,b2,hF,rfl,h⟩;subst D;refine ql Z hF ?_ ?_<;>intro hF
   ·refine X0 3 Z ?_;obtain⟨⟨i9,_,_⟩,hr3,hF⟩:=qd hF;refine nxC h ((qb (h.frG 3 0 1 Z Z Z)).1) hr3 Z Z Z fun _ h=>zp2 Z ?_;obtain⟨⟨l,_,_⟩,hr4,hF⟩:=qd hF;refine nxC h ((qb (h.frG 3 0 1 Z Z Z)).1) hr4 Z Z Z fun _ h=>X0 12 Z ?_;obtain⟨⟨c5,_,_⟩,hr5,hF⟩:=qd hF;refine nxC h ((qb (h.frG 3 0 1 Z Z Z)).1) hr5 Z Z Z fun _ h=>zp1 Z (r_v (qq qa [0,1] [.tmp 65,.tmp 69] Z Z Z Z Z Z Z Z) Z (zp3 Z ?_));obtain⟨⟨c6,_,_⟩,hr6,hF⟩:=qd hF;refine nxC h ((qb (h.frG 3 0 1 Z Z Z)).1) hr6 Z Z Z fun _ h=>zp1 Z (r_v (qq qa [0,1] [.tmp 71,.tmp 75] Z Z Z Z Z Z Z Z) Z (r_v (qq qa [0,1,2] [.tmp 64,.tmp 70,.tmp 76] Z Z Z Z Z Z Z Z) Z (qp qa [.tmp 77] _ ([(⟨W64 ((W64 (2*o))+A),(⟨W64 (i9-50),W64 ((W64 (i9-50))+c5)⟩:qh),(⟨l,W64 (l+c6)⟩:qh)⟩:qf)]:List qf) h Z Z Z Z Z Z Z Z Z ⟨(qb0 (⟨W64 ((W64 (2*o))+A),(⟨W64 (i9-50),W64 ((W64 (i9-50))+c5)⟩:qh),(⟨l,W64 (l+c6)⟩:qh)⟩:qf)),trivial⟩ Z fun _ _ _ h=>?_)));obtain⟨_,x,hF⟩:=qd hF;obtain⟨g1,x⟩:=qE x;refine qat qa 3 h Z (h.sl 0 Z).1 (h.sl 0 Z).2 Z Z Z Z Z Z Z Z Z g1 x Z fun _ _ _ _ h=>X0 8 Z ?_;replace h:=h.pick [2,3,1,4] Z;exact rK ⟨_,_,_,_,_,_,_,_,hF,rfl,h⟩ Z
   refine X0 7 Z ?_;replace h:=h.pick [1,2,0,3] Z;exact rK ⟨_,_,_,_,_,_,_,_,hF,rfl,h⟩ Z
  refine qw Z ?_;obtain rfl:=qc hF;replace hF:=hK2;exact X0 6 Z (rK ⟨_,_,_,_,_,_,_,_,hF,rfl,h⟩ Z)
 refine qw Z ?_;obtain rfl:=qc hF;replace hF:=hK1;refine X0 7 Z (ql Z hF ?_ ?_)<;>intro hF
 ·refine X0 5 Z ?_;replace h:=h.pick [2,0,1,3] Z;obtain⟨⟨_,_,_⟩,b6,hF⟩:=qd hF;refine nxC h ((qb (h.frG 3 0 1 Z Z Z)).1) b6 Z Z Z fun _ h=>X0 5 Z ?_;obtain⟨⟨_,_,_⟩,b7,hF⟩:=qd hF;refine nxC h ((qb (h.frG 3 0 1 Z Z Z)).1) b7 Z Z Z fun _ h=>X0 7 Z (ql Z hF ?_ ?_)<;>intro hF
  ·refine X0 4 Z ?_;obtain⟨y3,_,hF,Q,_,_,_,_,hp3,hq3,b8,hc9⟩:=(h.sl 2 Z).1.ix hF;obtain rfl:=qax b8;refine zx hp3 hq3 ⟨Q.1,qC Q.2.1 (h.sl 2 Z).2⟩ Z (zp1 Z (zc 0 hc9 Z ?_));obtain⟨y4,hy4,hF,R,_,_,_,_,Y,a6,b9,J⟩:=(h.sl 2 Z).1.ix hF;obtain rfl:=qax b9;refine zx Y a6 ⟨R.1,qC R.2.1 (h.sl 2 Z).2⟩ Z (zp1 Z (qaH qa 2 0 ({ y4 with Bi:=y3.Bi }:qf) h Z hy4 Y a6 (qb0 y4) J Z Z Z (qb0 ({ y4 with Bi:=y3.Bi })) Z Z Z fun _ h=>X0 7 Z ?_));obtain rfl:=qc hF;replace h:=h.pick [2,0,3] Z;exact qaZ qa [GoT.v (List qf) [.slice k f.length g]] ⟨rfl,trivial⟩ ⟨_,_,rfl,SH.unfr 1 1 p h Z Z⟩
  refine X0 5 Z (ql Z hF ?_ ?_)<;>intro hF
  ·refine X0 5 Z ?_;obtain⟨y5,_,hF,S,_,_,_,_,hp5,hq5,c0,K⟩:=(h.sl 2 Z).1.ix hF;obtain rfl:=qax c0;refine zx hp5 hq5 ⟨S.1,qC S.2.1 (h.sl 2 Z).2⟩ Z (zp2 Z (zc 2 K Z (zp1 Z ?_)));obtain⟨y6,hy6,hF,T,_,_,_,_,a3,a7,c2,L⟩:=(h.sl 2 Z).1.ix hF;obtain rfl:=qax c2;refine zx a3 a7 ⟨T.1,qC T.2.1 (h.sl 2 Z).2⟩ Z (zp2 Z (qaH qa 2 1 ({ y6 with Af:={ y6.Af with Ak:=W64 (y5.Af.Ar+1) } }:qf) h Z hy6 a3 a7 (qb0 y6) L Z Z Z (qb0 ({ y6 with Af:={ y6.Af with Ak:=W64 (y5.Af.Ar+1) } })) Z Z Z fun _ h=>X0 7 Z ?_));obtain rfl:=qc hF;replace h:=h.pick [2,0,3] Z;exact qaZ qa [GoT.v (List qf) [.slice k f.length g]] ⟨rfl,trivial⟩ ⟨_,_,rfl,SH.unfr 1 1 p h Z Z⟩
  refine X0 5 Z (ql Z hF ?_ ?_)<;>intro hF
  ·refine X0 3 Z ?_;obtain⟨y7,hy7,hF,W,_,_,_,_,a4,a8,c3,M⟩:=(h.sl 2 Z).1.ix hF;obtain rfl:=qax c3;refine zx a4 a8 ⟨W.1,qC W.2.1 (h.sl 2 Z).2⟩ Z (zp2 Z (qaH qa 2 3 ({ y7 with Av:={ y7.Av with Ak:=(-1) } }:qf) h Z hy7 a4 a8 (qb0 y7) M Z Z Z (qb0 ({ y7 with Av:={ y7.Av with Ak:=(-1) } })) Z Z Z fun _ h=>X0 7 Z ?_));obtain rfl:=qc hF;replace h:=h.pick [2,0,3] Z;exact qaZ qa [GoT.v (List qf) [.slice k f.length g]] ⟨rfl,trivial⟩ ⟨_,_,rfl,SH.unfr 1 1 p h Z Z⟩
  refine X0 5 Z (ql Z hF ?_ ?_)<;>intro hF
  ·refine X0 3 Z ?_;obtain⟨y8,hy8,hF,X,_,_,_,_,a5,a9,c4,N⟩:=(h.sl 2 Z).1.ix hF;obtain rfl:=qax c4;refine zx a5 a9 ⟨X.1,qC X.2.1 (h.sl 2 Z).2⟩ Z (zp2 Z (qaH qa 2 2 ({ y8 with Af:={ y8.Af with Ar:=1000000000 } }:qf) h Z hy8 a5 a9 (qb0 y8) N Z Z Z (qb0 ({ y8 with Af:={ y8.Af with Ar:=1000000000 } })) Z Z Z fun _ h=>X0 7 Z ?_));obtain rfl:=qc hF;replace h:=h.pick [2,0,3] Z;exact qaZ qa [GoT.v (List qf) [.slice k f.length g]] ⟨rfl,trivial⟩ ⟨_,_,rfl,SH.unfr 1 1 p h Z Z⟩
  refine X0 7 Z ?_;obtain rfl:=qc hF;replace h:=h.pick [2,0,3] Z;exact qaZ qa [GoT.v (List qf) [.slice k f.length g]] ⟨rfl,trivial⟩ ⟨_,_,rfl,SH.unfr 1 1 p h Z Z⟩
 refine X0 6 Z ?_;obtain rfl:=qc hF;replace h:=h.pick [1,2,3] Z;exact qaZ qa [GoT.v (List qf) [.slice k f.length g]] ⟨rfl,trivial⟩ ⟨_,_,rfl,SH.unfr 1 1 p h Z Z⟩
def qg0 (n:Nat)(s:Tl01Source):Option (qe×qv×(List Int)×(List qf)×Int×Int) :=(qgp n (⟨s.code,s.at_,s.seed⟩:Tl01Source)).bind fun o=>match o with| (r1,y,z) =>(qfV n (⟨s.code,y,z⟩:Tl01Source)).bind fun o=>match o with| (v,A,B) =>(qu n (⟨s.code,A,B⟩:Tl01Source) 3).bind fun o=>match o with| (C,t,u) =>(bif (C==0) then(qef n (⟨s.code,t,u⟩:Tl01Source) 5 true).bind fun o=>match o with| (K,p,r) =>V (K,p,r) else V (r1,t,u)).bind fun o=>match o with| (c,i8,D) =>(qfY n (⟨s.code,i8,D⟩:Tl01Source) c).bind fun o=>match o with| (x,a,b) =>((qcH n c).bind fun J =>bif J then bif ((x.length:Int)==0) then(qu n (⟨s.code,a,b⟩:Tl01Source) 6).bind fun o=>match o with| (k,l,m) =>V (l,m,decide (k > 0)) else V (a,b,false) else V (a,b,false)).bind fun o=>match o with| (d,f,b1) =>bif b1 then(qiB n c).bind fun F =>(qd3 n (⟨s.code,d,f⟩:Tl01Source) c).bind fun o=>match o with| (H,g,h) =>V (c,v,F,H,g,h) else(qd3 n (⟨s.code,d,f⟩:Tl01Source) c).bind fun o=>match o with| (I,i16,i) =>V (c,v,x,I,i16,i)
theorem ql3 {n:Nat}{K w:World}{F:List Ch}{s:Tl01Source}{g:Nat}{p1:Option Addr}{k:Nat}(h0:SH K w (xb g s p1 k s.at_ s.seed::F))(ha1:GoT.R w (Fr K F) s (qaw s p1 k)){r:(qe×qv×(List Int)×(List qf)×Int×Int)}(hF:qg0 n s=V r):RetW prog 77 [.pointer (V ⟨g,0,U⟩)] w (fun us w'=>∃(S1:Nat→Prop) (cs1:List Value) (S2:Nat→Prop) (cs2:List Value) (S3:Nat→Prop) (cs3:List Value),us=[GoT.v qe cs1,GoT.v qv (qW r.2.1),GoT.v (List Int) cs2,GoT.v (List qf) cs3]∧SH K w' (Ch.grp (fun _=>False) S1 [fct (r.1:qe) cs1]::Ch.grp (fun _=>False) S2 [fct (r.2.2.1:(List Int)) cs2]::Ch.grp (fun _=>False) S3 [fct (r.2.2.2.1:(List qf)) cs3]::xb g s p1 k r.2.2.2.2.1 r.2.2.2.2.2::F)):=by
 have h:=SH.frm1 h0 ha1;refine qbA func77 Z (m:=41) Z Z (zSR (qj qa h Z Z Z fun _ l h=>qj qa h Z Z Z fun _ o h=>X0 6 Z ?_));replace h:=h.pick [2,0,1,3] Z;obtain⟨⟨r1,i1,i2⟩,hr1,hF⟩:=qd hF;refine qaO (cB 49 Z) (qls (s:=(⟨s.code,s.at_,s.seed⟩:Tl01Source)) h ⟨[.slice p1 s.code.length k],[.int .i64 s.at_,.int .i64 s.seed],rfl,⟨_,_,rfl,(qb (h.frG 3 0 1 Z Z Z)).1⟩,⟨[.int .i64 s.at_],[.int .i64 s.seed],rfl,rfl,rfl⟩⟩ hr1) Z Z Z Z ?_;rintro _ _ ⟨S4,_,rfl,h⟩;have hr2:=h.grpS 0 0 Z Z;obtain⟨p2,k2,p3,k3,p4,k4,p5,k5,p6,k6,rfl,_,_,_,_,_⟩:=qL hr2;replace h:SH _ _ [Ch.grp (fun _=>False) S4 [fct (r1:qe) (qx r1 p2 p3 p4 p5 p6 k2 k3 k4 k5 k6)],xb g s p1 k i1 i2,Ch.box o [.string ByteArray.empty,.int .i64 0,.int .i64 0,.int .i64 0,.int .i64 0] 36,Ch.box l [.slice U 0 0,.slice U 0 0,.slice U 0 0,.slice U 0 0,.slice U 0 0] 34,xf K w F s p1 k]:=h;refine qj qa h Z Z Z fun _ v h=>zs 0 h Z fun _ h=>X0 4 Z ?_;replace h:=h.pick [2,0,1,3,4,5] Z;obtain⟨⟨M,_,_⟩,hr4,hF⟩:=qd hF;refine qaO (cB 53 Z) (qk1 (s:=(⟨s.code,i1,i2⟩:Tl01Source)) h ⟨[.slice p1 s.code.length k],[.int .i64 i1,.int .i64 i2],rfl,⟨_,_,rfl,(qb (h.frG 5 0 1 Z Z Z)).1⟩,⟨[.int .i64 i1],[.int .i64 i2],rfl,rfl,rfl⟩⟩ hr4) Z Z Z Z ?_;rintro _ _ ⟨rfl,h⟩;dsimp only at h;refine qj qa h Z Z Z fun _ y h=>zs 0 h Z fun _ h=>X0 5 Z ?_;replace h:=h.pick [1,0,2,3,4,5,6] Z;obtain⟨⟨_,i6,i7⟩,hr5,hF⟩:=qd hF;refine nxC h ((qb (h.frG 6 0 1 Z Z Z)).1) hr5 Z Z Z fun _ h=>X0 2 Z ?_;obtain⟨KF2,S,_,hF,Q⟩:=bindE hF;refine qaF (fun e w'=>∃(O:Nat→Prop) (i:qe) (H:Option Addr) (A:Nat) (I:Option Addr) (B:Nat) (J:Option Addr) (C:Nat) (d:Option Addr) (a:Nat) (f:Option Addr) (c:Nat) (i8:Int) (P:Int),KF2 (i,i8,P)=V r∧e=[(0,.pointer (V ⟨g,0,U⟩)),(2,.pointer (V ⟨l,0,U⟩)),(3,.pointer (V ⟨o,0,U⟩)),(6,.pointer (V ⟨v,0,U⟩)),(7,.pointer (V ⟨y,0,U⟩))]∧SH K w' [Ch.grp (fun _=>False) O [fct (i:qe) (qx i H I J d f A B C a c)],xb g s p1 k i8 P,Ch.box y (qW M) 36,Ch.box v (qx i H I J d f A B C a c) 34,Ch.box o [.string ByteArray.empty,.int .i64 0,.int .i64 0,.int .i64 0,.int .i64 0] 36,Ch.box l [.slice U 0 0,.slice U 0 0,.slice U 0 0,.slice U 0 0,.slice U 0 0] 34,xf K w F s p1 k]) ?_ ?_
 ·refine ql Z hF ?_ ?_<;>intro hF
  ·refine X0 2 Z ?_;obtain⟨⟨r9,i21,i22⟩,Y,hF⟩:=qd hF;refine qaO (cB 119 Z) (qes (s:=(⟨s.code,i6,i7⟩:Tl01Source)) (most:=5) (wild:=true) h ⟨[.slice p1 s.code.length k],[.int .i64 i6,.int .i64 i7],rfl,⟨_,_,rfl,(qb (h.frG 6 0 1 Z Z Z)).1⟩,⟨[.int .i64 i6],[.int .i64 i7],rfl,rfl,rfl⟩⟩ Y) Z Z Z Z ?_;rintro _ _ ⟨S10,_,rfl,h⟩;obtain⟨p16,k16,p17,k17,p18,k18,p19,k19,p20,k20,rfl,-,-,-,-,-⟩:=qL (h.own 0 Z);replace h:=h.frzI 0 Z;replace h:SH _ _ [Ch.grp (fun _=>False) S10 [fct (r9:qe) (qx r9 p16 p17 p18 p19 p20 k16 k17 k18 k19 k20)],xb g s p1 k i21 i22,Ch.box y (qW M) 36,Ch.box v (qx r1 p2 p3 p4 p5 p6 k2 k3 k4 k5 k6) 34,Ch.grp (fun _=>False) S4 [fct (r1:qe) (qx r1 p2 p3 p4 p5 p6 k2 k3 k4 k5 k6)],Ch.box o [.string ByteArray.empty,.int .i64 0,.int .i64 0,.int .i64 0,.int .i64 0] 36,Ch.box l [.slice U 0 0,.slice U 0 0,.slice U 0 0,.slice U 0 0,.slice U 0 0] 34,xf K w F s p1 k]:=h;refine zs 3 h Z fun _ h=>qbe ?_;replace h:=h.pick [0,1,2,3,5,6,7] Z;obtain rfl:=qc hF;exact rG ⟨_,_,_,_,_,_,_,_,_,_,_,_,_,_,Q,rfl,h⟩ Z
  refine qfk ?_;replace h:=h.pick [3,0,1,2,4,5,6] Z;obtain rfl:=qc hF;exact rG ⟨_,_,_,_,_,_,_,_,_,_,_,_,_,_,Q,rfl,h⟩ Z
 rintro _ _ ⟨O,i,H,A,I,B,J,C,d,a,f,c,i8,P,hF,rfl,h⟩;subst S;refine X1 4 3 h Z ?_;replace h:=h.pick [1,0,2,3,4,5,6] Z;obtain⟨⟨L,i10,i11⟩,hr6,hF⟩:=qd hF;refine qaO (cB 52 Z) (qla (s:=(⟨s.code,i8,P⟩:Tl01Source)) (b:=i) h ⟨[.slice p1 s.code.length k],[.int .i64 i8,.int .i64 P],rfl,⟨_,_,rfl,(qb (h.frG 6 0 1 Z Z Z)).1⟩,⟨[.int .i64 i8],[.int .i64 P],rfl,rfl,rfl⟩⟩ (h.frG 1 0 1 Z Z Z) hr6) Z Z Z Z ?_;rintro _ _ ⟨S6,_,rfl,h⟩;obtain⟨D,z,rfl,-⟩:=h.own 0 Z;replace h:SH _ _ [Ch.own S6 (L:List Int) [.slice D L.length z],xb g s p1 k i10 i11,Ch.grp (fun _=>False) O [fct (i:qe) (qx i H I J d f A B C a c)],Ch.box y (qW M) 36,Ch.box v (qx i H I J d f A B C a c) 34,Ch.box o [.string ByteArray.empty,.int .i64 0,.int .i64 0,.int .i64 0,.int .i64 0] 36,Ch.box l [.slice U 0 0,.slice U 0 0,.slice U 0 0,.slice U 0 0,.slice U 0 0] 34,xf K w F s p1 k]:=h;refine X0 4 Z ?_;obtain⟨KF1,R,_,hF,N⟩:=bindE hF;refine qaF (fun e w'=>∃(p:Int) (u:Int) (b1:Bool),KF1 (p,u,b1)=V r∧e=[(0,.pointer (V ⟨g,0,U⟩)),(2,.pointer (V ⟨l,0,U⟩)),(3,.pointer (V ⟨o,0,U⟩)),(6,.pointer (V ⟨v,0,U⟩)),(7,.pointer (V ⟨y,0,U⟩)),(8,.slice D L.length z),(32,.bool b1)]∧SH K w' [xb g s p1 k p u,Ch.own S6 (L:List Int) [.slice D L.length z],Ch.grp (fun _=>False) O [fct (i:qe) (qx i H I J d f A B C a c)],Ch.box y (qW M) 36,Ch.box v (qx i H I J d f A B C a c) 34,Ch.box o [.string ByteArray.empty,.int .i64 0,.int .i64 0,.int .i64 0,.int .i64 0] 36,Ch.box l [.slice U 0 0,.slice U 0 0,.slice U 0 0,.slice U 0 0,.slice U 0 0] 34,xf K w F s p1 k]) ?_ ?_
 ·refine X1 2 4 h Z (zcB h hF (qeO (h.grp 2 0 Z Z)) Z fun _ _ h hF=>zp1 Z (qg (t:=23) hF Z ?_ ?_))<;>intro hF
  ·refine X0 8 Z (qg (t:=28) hF Z ?_ ?_)<;>intro hF
   ·refine X0 3 Z ?_;replace h:=h.pick [1,0,2,3,4,5,6,7] Z;obtain⟨⟨_,_,_⟩,X,hF⟩:=qd hF;refine nxC h ((qb (h.frG 7 0 1 Z Z Z)).1) X Z Z Z fun _ h=>X0 4 Z ?_;obtain rfl:=qc hF;exact rG ⟨_,_,_,N,rfl,h⟩ Z
   refine X0 5 Z ?_;replace h:=h.pick [1,0,2,3,4,5,6,7] Z;obtain rfl:=qc hF;exact rG ⟨_,_,_,N,rfl,h⟩ Z
  refine X0 10 Z ?_;replace h:=h.pick [1,0,2,3,4,5,6,7] Z;obtain rfl:=qc hF;exact rG ⟨_,_,_,N,rfl,h⟩ Z
 rintro _ _ ⟨p,u,b1,hF,rfl,h⟩;subst R;refine ql Z hF ?_ ?_<;>intro hF
 ·refine X1 2 4 h Z (zcL h hF (qnQ (h.grp 2 0 Z Z)) Z fun r5 _ S7 a6 a3 h hF=>X0 3 Z (rA [] [4,5] h Z fun _ h=>M3 31 [0,1,2,3,4] 1 0 1 (h.pick [4,5] Z) Z (Ao 5 63 Z ?_)));replace h:=h.pick [1,0,2,3,4,5,6,7,8] Z;obtain⟨⟨r6,i14,i15⟩,hr8,hF⟩:=qd hF;refine qaO (cB 156 Z) (qhM (a_0:=(⟨s.code,p,u⟩:Tl01Source)) (a_1:=i) h ⟨[.slice p1 s.code.length k],[.int .i64 p,.int .i64 u],rfl,⟨_,_,rfl,(qb (h.frG 8 0 1 Z Z Z)).1⟩,⟨[.int .i64 p],[.int .i64 u],rfl,rfl,rfl⟩⟩ (h.frG 3 0 1 Z Z Z) hr8) Z Z Z Z ?_;rintro _ _ ⟨S8,_,rfl,h⟩;obtain⟨a7,a4,rfl,-⟩:=h.own 0 Z;replace h:SH _ _ [Ch.own S8 (r6:List qf) [.slice a7 r6.length a4],xb g s p1 k i14 i15,Ch.own S7 (r5:List Int) [.slice a6 r5.length a3],Ch.own S6 (L:List Int) [.slice D L.length z],Ch.grp (fun _=>False) O [fct (i:qe) (qx i H I J d f A B C a c)],Ch.box y (qW M) 36,Ch.box v (qx i H I J d f A B C a c) 34,Ch.box o [.string ByteArray.empty,.int .i64 0,.int .i64 0,.int .i64 0,.int .i64 0] 36,Ch.box l [.slice U 0 0,.slice U 0 0,.slice U 0 0,.slice U 0 0,.slice U 0 0] 34,xf K w F s p1 k]:=h;refine Ag (h.pick [5,6] Z) (Ao 6 127 Z (zs 8 h Z fun _ h=>Ag (h.pick [5,6] Z) (Ao 7 255 Z (zs 7 h Z fun _ h=>G0 1023 [8,9] (h.pick [5,6] Z) Z (Ad ?_)))));have T:=h;replace h:=h.grpAdd 4 Z (x:=(i:qe)) (h.grpS 4 0 Z Z);replace h:=h.grpKeep [0] 4 Z;replace h:=h.frzI 2 Z;replace h:=h.grpAdd 2 Z (x:=(r5:(List Int))) (h.grpS 2 0 Z Z);replace h:=h.grpKeep [0] 2 Z;replace h:=h.frzI 0 Z;replace h:=h.grpAdd 0 Z (x:=(r6:(List qf))) (h.grpS 0 0 Z Z);replace h:=h.grpKeep [0] 0 Z;obtain rfl:=qc hF;replace h:=h.pick [4,2,0,1,9] Z;exact qaZ qa [GoT.v qe (qx i H I J d f A B C a c),GoT.v qv (qW M),GoT.v (List Int) [.slice a6 r5.length a3],GoT.v (List qf) [.slice a7 r6.length a4]] ⟨⟨_,_,_,rfl,rfl,T.box 8 Z,rfl⟩,⟨_,_,_,rfl,rfl,T.box 7 Z,rfl⟩,rfl,rfl,trivial⟩ ⟨_,_,_,_,_,_,rfl,SH.unfr 1 1 h0 h Z Z⟩
 refine zKS (rA [] [3,4] h Z fun _ h=>M3 31 [0,1,2,3,4] 1 0 1 (h.pick [3,4] Z) Z (Ao 5 63 Z ?_));obtain⟨⟨r7,i16,i17⟩,hr9,hF⟩:=qd hF;refine qaO (cB 156 Z) (qhM (a_0:=(⟨s.code,p,u⟩:Tl01Source)) (a_1:=i) h ⟨[.slice p1 s.code.length k],[.int .i64 p,.int .i64 u],rfl,⟨_,_,rfl,(qb (h.frG 7 0 1 Z Z Z)).1⟩,⟨[.int .i64 p],[.int .i64 u],rfl,rfl,rfl⟩⟩ (h.frG 2 0 1 Z Z Z) hr9) Z Z Z Z ?_;rintro _ _ ⟨S9,_,rfl,h⟩;obtain⟨a8,a5,rfl,-⟩:=h.own 0 Z;replace h:SH _ _ [Ch.own S9 (r7:List qf) [.slice a8 r7.length a5],xb g s p1 k i16 i17,Ch.own S6 (L:List Int) [.slice D L.length z],Ch.grp (fun _=>False) O [fct (i:qe) (qx i H I J d f A B C a c)],Ch.box y (qW M) 36,Ch.box v (qx i H I J d f A B C a c) 34,Ch.box o [.string ByteArray.empty,.int .i64 0,.int .i64 0,.int .i64 0,.int .i64 0] 36,Ch.box l [.slice U 0 0,.slice U 0 0,.slice U 0 0,.slice U 0 0,.slice U 0 0] 34,xf K w F s p1 k]:=h;refine Ag (h.pick [4,5] Z) (Ao 6 127 Z (zs 7 h Z fun _ h=>Ag (h.pick [4,5] Z) (Ao 7 255 Z (zs 6 h Z fun _ h=>G0 1023 [8,9] (h.pick [4,5] Z) Z (Ad ?_)))));have W:=h;replace h:=h.grpAdd 3 Z (x:=(i:qe)) (h.grpS 3 0 Z Z);replace h:=h.grpKeep [0] 3 Z;replace h:=h.frzI 2 Z;replace h:=h.grpAdd 2 Z (x:=(L:(List Int))) (h.grpS 2 0 Z Z);replace h:=h.grpKeep [0] 2 Z;replace h:=h.frzI 0 Z;replace h:=h.grpAdd 0 Z (x:=(r7:(List qf))) (h.grpS 0 0 Z Z);replace h:=h.grpKeep [0] 0 Z;obtain rfl:=qc hF;replace h:=h.pick [3,2,0,1,8] Z;exact qaZ qa [GoT.v qe (qx i H I J d f A B C a c),GoT.v qv (qW M),GoT.v (List Int) [.slice D L.length z],GoT.v (List qf) [.slice a8 r7.length a5]] ⟨⟨_,_,_,rfl,rfl,W.box 7 Z,rfl⟩,⟨_,_,_,rfl,rfl,W.box 6 Z,rfl⟩,rfl,rfl,trivial⟩ ⟨_,_,_,_,_,_,rfl,SH.unfr 1 1 h0 h Z Z⟩
def qeW (code:(List (IntK .u8))):Nat→Int→Int→Option (Int×Int)| 0,_,_=>U| n+1,b,a =>(bif decide (a<(code.length:Int)) then V (decide (a<64)) else V false).bind fun b1 =>bif b1 then(idx code a).bind fun c =>qeW code n ((W64 ((W64 (b*31))+(W64 c.val))).tmod 2147483647) (W64 (a+1)) else V (b,a)
def qkZ (n:Nat)(code:(List (IntK .u8))):Option (Option Tl01Source) :=(qeW code n 12345 0).bind fun o=>match o with| (a,_) =>V (V (⟨code,0,a⟩:Tl01Source))
theorem qnJ {n:Nat}{w:World}{code:(List (IntK .u8))}{cs1:List Value}(p:Ro w code cs1){r:(Option Tl01Source)}(F:qkZ n code=V r):RetZ prog 48 [GoT.v (List (IntK .u8)) cs1] w (fun A L=>∃(b:Nat) (g:Int),r=(V (⟨code,0,g⟩:Tl01Source))∧A=[GoT.v (Option Tl01Source) [.pointer (V ⟨b,0,U⟩)]]∧L=[Ch.box b (cs1++[.int .i64 0,.int .i64 g]) 191]):=by
 obtain⟨p1,k,rfl,s1⟩:=p;refine qj6 func48 Z (m:=34) Z Z (fun h=>?_);refine X0 7 Z (r_v (qq qa [0,2] [.tmp 5,.const (.int .i64 (12345))] Z Z Z Z Z Z Z Z) Z (qH h Z Z fun _ a h=>X0 7 Z ?_));obtain⟨o1,F,o⟩:=qd F;refine qn (rL (fun m e w'=>∃(f:Int) (i:Int),qeW code m f i=V o1∧e=[(0,.slice p1 code.length k),(3,.pointer (V ⟨a,0,U⟩)),(4,.int .i64 i)]∧SH w w' [Ch.box a [.slice p1 code.length k,.int .i64 0,.int .i64 f] 191]) n ⟨_,_,F,rfl,h⟩ Z ?_);rintro y _ _ ⟨f,i,F,rfl,h⟩;rcases y with _|y
 ·cases F
 refine zSS ?_;obtain⟨l,d,_,F,c⟩:=bindE F;refine qaF (fun e w'=>∃(b1:Bool),l b1=V o1∧e=[(0,.slice p1 code.length k),(3,.pointer (V ⟨a,0,U⟩)),(4,.int .i64 i),(15,.bool b1)]∧SH w w' [Ch.box a [.slice p1 code.length k,.int .i64 0,.int .i64 f] 191]) ?_ ?_
 ·refine X0 6 Z (qg (t:=12) F Z ?_ ?_)<;>intro F
  ·refine X0 6 Z ?_;obtain rfl:=qc F;exact rG ⟨_,c,rfl,h⟩ Z
  refine X0 4 Z ?_;obtain rfl:=qc F;exact rG ⟨_,c,rfl,h⟩ Z
 rintro _ _ ⟨b1,F,rfl,h⟩;subst d;refine ql Z F ?_ ?_<;>intro F
 ·refine zKSB (rA [15] [0] h Z fun _ h=>M1 255 [0,1,2,3,4,5,6,7] 0 (h.pick [0] Z) Z ?_);obtain⟨_,_,F,u,_,_,_,_,v,x,rfl,s⟩:=s1.ix F;exact Ae 8 511 v x u (h.pick [0] Z) Z (Al 9 1023 0 s (h.pick [0] Z) Z (M0 8191 [10,11,12] (h.pick [0] Z) Z (Ao 13 16383 Z (zp1 Z (G0 32767 [14] (h.pick [0] Z) Z (Ao 15 65535 Z (zs 0 h Z fun _ h=>qJ (fun z=>absurd (z 15 (by decide)) (by decide)) (Ad (X0 6 Z (rK ⟨_,_,F,rfl,h⟩ Z))))))))))
 refine qw Z ?_;obtain rfl:=qc F;replace F:=o;refine X0 5 Z ?_;obtain rfl:=qc F;exact qlR qa [GoT.v (Option Tl01Source) [.pointer (V ⟨a,0,U⟩)]] h ⟨rfl,trivial⟩ ⟨a,f,rfl,rfl,rfl⟩

def qa3 (code:(List (IntK .u8)))(h:qe):Nat→(List Int)→Int→Int→Int→Option ((List Int)×Int×Int×Int)| 0,_,_,_,_=>U| n+1,i,f,g,d =>bif decide (d<(h.Aa.Aj.length:Int)) then(qu n (⟨code,f,g⟩:Tl01Source) 20).bind fun o=>match o with| (k,i8,l) =>(qu n (⟨code,i8,l⟩:Tl01Source) 2).bind fun o=>match o with| (a,b,c) =>(appS i ([W64 (k*a)]:List Int)).bind fun m =>qa3 code h n m b c (W64 (d+1)) else V (i,f,g,d)
def qdc (n:Nat)(code:(List (IntK .u8))):Option (qe×qv×(List Int)×(List qf)×(List Int)) :=(qkZ n code).bind fun o=>match o with| some (⟨_,_,k⟩) =>((qg0 n (⟨code,0,k⟩:Tl01Source)).bind fun o=>match o with| (c,d,f,g,l,m) =>(qa3 code c n ([]:List Int) l m 0).bind fun o=>match o with| (a,p,r,_) =>bif decide ((a.length:Int) > 0) then(qu n (⟨code,p,r⟩:Tl01Source) 24).bind fun o=>match o with| (b,h,i) =>bif (b==0) then(qu n (⟨code,h,i⟩:Tl01Source) 3).bind fun o=>match o with| (i16,_,_) =>(idx ([(-1),1000000000,1000000001]:List Int) i16).bind fun t =>(idx a 0).bind fun _ =>V (c,d,f,g,(setS a 0 t)) else bif (b==1) then(subS a 1 (a.length:Int)).bind fun s =>V (c,d,f,g,s) else V (c,d,f,g,a) else V (c,d,f,g,a))| _=>U
theorem qi5 {A:Nat→Prop}(hA:∀ b,A b→old w b){code:(List (IntK .u8))}(ha1:GoT.R w A code cs1){r:(qe×qv×(List Int)×(List qf)×(List Int))}(F:qdc n code=V r):RetG prog 15 [GoT.v (List (IntK .u8)) cs1] w A r:=by
 obtain⟨p1,k1,rfl,s1⟩:=ha1;have hg:=Rg.start hA;refine qhC func15 Z (m:=63) Z Z (fun h=>?_);refine zSR (qj qa h Z Z Z fun _ I h=>qj qa h Z Z Z fun _ J h=>X0 7 Z ?_);obtain⟨_,hr1,F⟩:=qd F;refine qox (cB 48 Z) (qnJ ⟨_,_,rfl,(h.oldS (s1.mono hg.old))⟩ hr1) Z Z Z Z ?_;rintro _ _ _ hs1 ⟨K,i1,rfl,rfl,rfl⟩;replace h:SH _ _ [Ch.box K [.slice p1 code.length k1,.int .i64 0,.int .i64 i1] 191,Ch.box J [.string ByteArray.empty,.int .i64 0,.int .i64 0,.int .i64 0,.int .i64 0] 36,Ch.box I [.slice U 0 0,.slice U 0 0,.slice U 0 0,.slice U 0 0,.slice U 0 0] 34]:=SH.appendN h hs1 ⟨fun _ h=>h,trivial⟩;refine X0 5 Z ?_;obtain⟨⟨a,c,d,f,i2,i3⟩,hr2,F⟩:=qd F;refine qaO (cB 77 Z) (ql3 (s:=(⟨code,0,i1⟩:Tl01Source)) h (qgv _ (h.frOldS (s1.mono hg.old))) hr2) Z Z Z Z ?_;rintro _ _ ⟨S1,_,S2,_,S3,_,rfl,h⟩;have hr3:=h.grpS 0 0 Z Z;obtain⟨x,k,y,l,z,o,B,p,C,t,rfl,_,_,_,_,_⟩:=qL hr3;have hr5:=h.grpS 1 0 Z Z;obtain⟨D,u,rfl,_⟩:=hr5;have hr7:=h.grpS 2 0 Z Z;obtain⟨H,v,rfl,_⟩:=hr7;replace h:SH _ _ [Ch.grp (fun _=>False) S1 [fct (a:qe) (qx a x y z B C k l o p t)],Ch.grp (fun _=>False) S2 [fct (d:(List Int)) [.slice D d.length u]],Ch.grp (fun _=>False) S3 [fct (f:(List qf)) [.slice H f.length v]],Ch.box K [.slice p1 code.length k1,.int .i64 i2,.int .i64 i3] 191,Ch.box J [.string ByteArray.empty,.int .i64 0,.int .i64 0,.int .i64 0,.int .i64 0] 36,Ch.box I [.slice U 0 0,.slice U 0 0,.slice U 0 0,.slice U 0 0,.slice U 0 0] 34]:=h;refine zp5 Z (qj qa h Z Z Z fun _ O h=>qj qa h Z Z Z fun _ P h=>zs 1 h Z fun _ h=>zs 0 h Z fun _ h=>X0 5 Z (qp qa [] _ ([]:List Int) h Z Z Z Z Z Z Z Z Z trivial Z fun _ _ _ h=>X0 7 Z ?_));obtain⟨o2,F,hK1⟩:=qd F;refine qn (rL (fun m e w'=>∃(S5:Nat→Prop) (g:Option Addr) (N:Nat) (L:Nat) (i:(List Int)) (i4:Int) (i5:Int) (i6:Int),qa3 code a m i i4 i5 i6=V o2∧e=[(2,.pointer (V ⟨I,0,U⟩)),(3,.pointer (V ⟨J,0,U⟩)),(7,.pointer (V ⟨K,0,U⟩)),(8,.pointer (V ⟨O,0,U⟩)),(9,.pointer (V ⟨P,0,U⟩)),(10,.slice D d.length u),(11,.slice H f.length v),(12,.slice g N L),(13,.int .i64 i6)]∧SH w w' [Ch.own S5 (i:List Int) [.slice g N L],Ch.box P (qW c) 36,Ch.box O (qx a x y z B C k l o p t) 34,Ch.grp (fun _=>False) S1 [fct (a:qe) (qx a x y z B C k l o p t)],Ch.grp (fun _=>False) S2 [fct (d:(List Int)) [.slice D d.length u]],Ch.grp (fun _=>False) S3 [fct (f:(List qf)) [.slice H f.length v]],Ch.box K [.slice p1 code.length k1,.int .i64 i4,.int .i64 i5] 191,Ch.box J [.string ByteArray.empty,.int .i64 0,.int .i64 0,.int .i64 0,.int .i64 0] 36,Ch.box I [.slice U 0 0,.slice U 0 0,.slice U 0 0,.slice U 0 0,.slice U 0 0] 34]) n ⟨_,_,_,_,_,_,_,_,F,rfl,h⟩ Z ?_);rintro m1 _ _ ⟨S5,g,N,L,i,i4,i5,i6,F,rfl,h⟩;obtain rfl:=(h.sl 0 Z).2;rcases m1 with _|m1
 ·cases F
 refine X1 10 2 h Z (ql Z F ?_ ?_)<;>intro F
 ·refine X0 6 Z ?_;replace h:=h.pick [6,0,1,2,3,4,5,7,8] Z;obtain⟨⟨i7,i8,i9⟩,hr9,F⟩:=qd F;refine qaO (cB 50 Z) (qfF (a_0:=(⟨code,i4,i5⟩:Tl01Source)) (a_1:=20) h (qgv _ (h.frOldS (s1.mono hg.old))) hr9) Z Z Z Z ?_;rintro _ _ ⟨rfl,h⟩;dsimp only at h;refine zp1 Z ?_;obtain⟨⟨i10,_,_⟩,a6,F⟩:=qd F;refine qaO (cB 50 Z) (qfF (a_0:=(⟨code,i8,i9⟩:Tl01Source)) (a_1:=2) h (qgv _ (h.frOldS (s1.mono hg.old))) a6) Z Z Z Z ?_;rintro _ _ ⟨rfl,h⟩;dsimp only at h;refine zp1 Z (qp qa [.tmp 37] _ ([W64 (i7*i10)]:List Int) h Z Z Z Z Z Z Z Z Z ⟨rfl,trivial⟩ Z fun _ _ _ h=>?_);obtain⟨_,M,F⟩:=qd F;obtain⟨g1,M⟩:=qE M;refine qat qa 2 h Z (h.sl 0 Z).1 (h.sl 0 Z).2 Z Z Z Z Z Z Z Z Z g1 M Z fun _ _ _ _ h=>X0 8 Z ?_;replace h:=h.pick [2,3,4,5,6,7,1,8,9] Z;exact rK ⟨_,_,_,_,_,_,_,_,F,rfl,h⟩ Z
 refine qw Z ?_;obtain rfl:=qc F;replace F:=hK1;refine X0 7 Z (ql Z F ?_ ?_)<;>intro F
 ·refine X0 3 Z ?_;replace h:=h.pick [6,0,1,2,3,4,5,7,8] Z;obtain⟨⟨_,i14,i15⟩,a7,F⟩:=qd F;refine qaO (cB 50 Z) (qfF (a_0:=(⟨code,i4,i5⟩:Tl01Source)) (a_1:=24) h (qgv _ (h.frOldS (s1.mono hg.old))) a7) Z Z Z Z ?_;rintro _ _ ⟨rfl,h⟩;dsimp only at h;refine X0 7 Z (ql Z F ?_ ?_)<;>intro F
  ·refine X0 2 Z (qp qa [.const (.int .i64 (-1)),.const (.int .i64 (1000000000)),.const (.int .i64 (1000000001))] _ ([(-1),1000000000,1000000001]:List Int) h Z Z Z Z Z Z Z Z Z ⟨rfl,rfl,rfl,trivial⟩ Z fun _ _ _ h=>zp1 Z ?_);replace h:=h.pick [1,0,2,3,4,5,6,7,8,9] Z;obtain⟨⟨_,_,_⟩,a8,F⟩:=qd F;refine qaO (cB 50 Z) (qfF (a_0:=(⟨code,i14,i15⟩:Tl01Source)) (a_1:=3) h (qgv _ (h.frOldS (s1.mono hg.old))) a8) Z Z Z Z ?_;rintro _ _ ⟨rfl,h⟩;dsimp only at h;obtain⟨y1,_,F,Q,_,_,_,_,hp1,hq1,rfl,hc4⟩:=(h.sl 1 Z).1.ix F;refine zx hp1 hq1 ⟨Q.1,qC Q.2.1 (h.sl 1 Z).2⟩ Z (zc 0 hc4 Z ?_);obtain⟨_,hy2,F,R,_,_,_,_,a3,a5,rfl,hc5⟩:=(h.sl 2 Z).1.ix F;refine zx a3 a5 ⟨R.1,qC R.2.1 (h.sl 2 Z).2⟩ Z (qaH qa 2 0 y1 h Z hy2 a3 a5 Z hc5 Z Z Z Z Z Z Z fun _ h=>X0 3 Z (rA [] [3,4] h Z fun _ h=>M2 31 [0,1,2,3,4] 1 0 (h.pick [3,4] Z) Z (Ao 5 63 Z (zs 9 h Z fun _ h=>Ag (h.pick [3,4] Z) (Ao 6 127 Z (zs 8 h Z fun _ h=>G0 1023 [7,8,9] (h.pick [3,4] Z) Z (Ad ?_)))))));obtain rfl:=qc F;have hv1:GoRs.Rs (ρ:=(qe×qv×(List Int)×(List qf)×(List Int))) h.wc (reg A w h.wc) (a,c,d,f,(setS i 0 y1)) [GoT.v qe (qx a x y z B C k l o p t),GoT.v qv (qW c),GoT.v (List Int) [.slice D d.length u],GoT.v (List qf) [.slice H f.length v],GoT.v (List Int) [.slice g i.length L]]:=⟨_,_,rfl,(hg.outR h (GoT.mono (Rg.grpR 5 0 h Z Z) (fun _ hb=>hb.elim (fun h=>h.elim) .inr))),⟨_,_,rfl,(hg.outR h (qeg c)),⟨_,_,rfl,(hg.outR h (GoT.mono (Rg.grpR 6 0 h Z Z) (fun _ hb=>hb.elim (fun h=>h.elim) .inr))),⟨_,_,rfl,(hg.outR h (GoT.mono (Rg.grpR 7 0 h Z Z) (fun _ hb=>hb.elim (fun h=>h.elim) .inr))),⟨_,rfl,(hg.outR h (Rg.ownR 2 h Z))⟩⟩⟩⟩⟩;have S:=h;replace h:=h.pick [0,1,2,3,4,8,9] Z;exact qio qa (ρ:=(qe×qv×(List Int)×(List qf)×(List Int))) (r:=(a,c,d,f,(setS i 0 y1))) [GoT.v qe (qx a x y z B C k l o p t),GoT.v qv (qW c),GoT.v (List Int) [.slice D d.length u],GoT.v (List qf) [.slice H f.length v],GoT.v (List Int) [.slice g i.length L]] h ⟨⟨_,_,_,rfl,rfl,S.box 9 Z,rfl⟩,⟨_,_,_,rfl,rfl,S.box 8 Z,rfl⟩,rfl,rfl,rfl,trivial⟩ hv1
  refine X0 5 Z (ql Z F ?_ ?_)<;>intro F
  ·refine X0 2 Z ?_;obtain⟨x3,a9,F⟩:=qd F;obtain⟨p14,k11,a4,T,hl1,g2⟩:=qqk (h.sl 1 Z).1 a9;refine r_v (qm4 qa Z Z Z (qqn g2 (h.sl 1 Z).2) a4 T hl1 Z Z Z Z) Z (X0 4 Z (rA [] [2,3] h Z fun _ h=>M2 31 [0,1,2,3,4] 1 0 (h.pick [2,3] Z) Z (Ao 5 63 Z (zs 8 h Z fun _ h=>Ag (h.pick [2,3] Z) (Ao 6 127 Z (zs 7 h Z fun _ h=>G0 1023 [7,8,9] (h.pick [2,3] Z) Z (Ad ?_)))))));obtain rfl:=qc F;have hv2:GoRs.Rs (ρ:=(qe×qv×(List Int)×(List qf)×(List Int))) h.wc (reg A w h.wc) (a,c,d,f,x3) [GoT.v qe (qx a x y z B C k l o p t),GoT.v qv (qW c),GoT.v (List Int) [.slice D d.length u],GoT.v (List qf) [.slice H f.length v],GoT.v (List Int) [.slice p14 x3.length k11]]:=⟨_,_,rfl,(hg.outR h (GoT.mono (Rg.grpR 4 0 h Z Z) (fun _ hb=>hb.elim (fun h=>h.elim) .inr))),⟨_,_,rfl,(hg.outR h (qeg c)),⟨_,_,rfl,(hg.outR h (GoT.mono (Rg.grpR 5 0 h Z Z) (fun _ hb=>hb.elim (fun h=>h.elim) .inr))),⟨_,_,rfl,(hg.outR h (GoT.mono (Rg.grpR 6 0 h Z Z) (fun _ hb=>hb.elim (fun h=>h.elim) .inr))),⟨_,rfl,(hg.outR h (⟨_,_,rfl,(qqd (qiM (Rg.ownR 1 h Z)).1 a9 a4 T)⟩))⟩⟩⟩⟩⟩;have W:=h;replace h:=h.pick [0,1,2,3,7,8] Z;exact qio qa (ρ:=(qe×qv×(List Int)×(List qf)×(List Int))) (r:=(a,c,d,f,x3)) [GoT.v qe (qx a x y z B C k l o p t),GoT.v qv (qW c),GoT.v (List Int) [.slice D d.length u],GoT.v (List qf) [.slice H f.length v],GoT.v (List Int) [.slice p14 x3.length k11]] h ⟨⟨_,_,_,rfl,rfl,W.box 8 Z,rfl⟩,⟨_,_,_,rfl,rfl,W.box 7 Z,rfl⟩,rfl,rfl,rfl,trivial⟩ hv2
  refine X0 3 Z (rA [] [2,3] h Z fun _ h=>M2 31 [0,1,2,3,4] 1 0 (h.pick [2,3] Z) Z (Ao 5 63 Z (zs 8 h Z fun _ h=>Ag (h.pick [2,3] Z) (Ao 6 127 Z (zs 7 h Z fun _ h=>G0 1023 [7,8,9] (h.pick [2,3] Z) Z (Ad ?_))))));obtain rfl:=qc F;have hv3:GoRs.Rs (ρ:=(qe×qv×(List Int)×(List qf)×(List Int))) h.wc (reg A w h.wc) (a,c,d,f,i) [GoT.v qe (qx a x y z B C k l o p t),GoT.v qv (qW c),GoT.v (List Int) [.slice D d.length u],GoT.v (List qf) [.slice H f.length v],GoT.v (List Int) [.slice g i.length L]]:=⟨_,_,rfl,(hg.outR h (GoT.mono (Rg.grpR 4 0 h Z Z) (fun _ hb=>hb.elim (fun h=>h.elim) .inr))),⟨_,_,rfl,(hg.outR h (qeg c)),⟨_,_,rfl,(hg.outR h (GoT.mono (Rg.grpR 5 0 h Z Z) (fun _ hb=>hb.elim (fun h=>h.elim) .inr))),⟨_,_,rfl,(hg.outR h (GoT.mono (Rg.grpR 6 0 h Z Z) (fun _ hb=>hb.elim (fun h=>h.elim) .inr))),⟨_,rfl,(hg.outR h (Rg.ownR 1 h Z))⟩⟩⟩⟩⟩;have X:=h;replace h:=h.pick [0,1,2,3,7,8] Z;exact qio qa (ρ:=(qe×qv×(List Int)×(List qf)×(List Int))) (r:=(a,c,d,f,i)) [GoT.v qe (qx a x y z B C k l o p t),GoT.v qv (qW c),GoT.v (List Int) [.slice D d.length u],GoT.v (List qf) [.slice H f.length v],GoT.v (List Int) [.slice g i.length L]] h ⟨⟨_,_,_,rfl,rfl,X.box 8 Z,rfl⟩,⟨_,_,_,rfl,rfl,X.box 7 Z,rfl⟩,rfl,rfl,rfl,trivial⟩ hv3
 refine zKS (rA [] [1,2] h Z fun _ h=>M2 31 [0,1,2,3,4] 1 0 (h.pick [1,2] Z) Z (Ao 5 63 Z (zs 8 h Z fun _ h=>Ag (h.pick [1,2] Z) (Ao 6 127 Z (zs 7 h Z fun _ h=>G0 1023 [7,8,9] (h.pick [1,2] Z) Z (Ad ?_))))));obtain rfl:=qc F;have hv4:GoRs.Rs (ρ:=(qe×qv×(List Int)×(List qf)×(List Int))) h.wc (reg A w h.wc) (a,c,d,f,i) [GoT.v qe (qx a x y z B C k l o p t),GoT.v qv (qW c),GoT.v (List Int) [.slice D d.length u],GoT.v (List qf) [.slice H f.length v],GoT.v (List Int) [.slice g i.length L]]:=⟨_,_,rfl,(hg.outR h (GoT.mono (Rg.grpR 3 0 h Z Z) (fun _ hb=>hb.elim (fun h=>h.elim) .inr))),⟨_,_,rfl,(hg.outR h (qeg c)),⟨_,_,rfl,(hg.outR h (GoT.mono (Rg.grpR 4 0 h Z Z) (fun _ hb=>hb.elim (fun h=>h.elim) .inr))),⟨_,_,rfl,(hg.outR h (GoT.mono (Rg.grpR 5 0 h Z Z) (fun _ hb=>hb.elim (fun h=>h.elim) .inr))),⟨_,rfl,(hg.outR h (Rg.ownR 0 h Z))⟩⟩⟩⟩⟩;have Y:=h;replace h:=h.pick [0,1,2,6,7,8] Z;exact qio qa (ρ:=(qe×qv×(List Int)×(List qf)×(List Int))) (r:=(a,c,d,f,i)) [GoT.v qe (qx a x y z B C k l o p t),GoT.v qv (qW c),GoT.v (List Int) [.slice D d.length u],GoT.v (List qf) [.slice H f.length v],GoT.v (List Int) [.slice g i.length L]] h ⟨⟨_,_,_,rfl,rfl,Y.box 8 Z,rfl⟩,⟨_,_,_,rfl,rfl,Y.box 7 Z,rfl⟩,rfl,rfl,rfl,trivial⟩ hv4
end Go.Fw


namespace Go.Fw
open Go
structure qkU (x:qap):Prop where
 Ba:okS x.Ba
 Bs:okI x.Bs
 Bl:okI x.Bl
 Bo:okT x.Bo
structure qhZ (x:qO):Prop where
 Bj:(okL okI) x.Bj
 Be:(okL okI) x.Be
 Az:(okL okI) x.Az
structure qld (x:qak):Prop where
 Au:okI x.Au
 Bd:okI x.Bd
 To:okI x.To
 Bk:okI x.Bk
 Bm:(okL qhZ) x.Bm
 Av:(okL qhZ) x.Av
structure qmi (x:qG):Prop where
 Ba:okS x.Ba
 Au:okI x.Au
 Ay:(okL qkU) x.Ay
 Aq:(okL qld) x.Aq
 Bn:(okL okI) x.Bn
 Bw:okI x.Bw
 Bt:okI x.Bt
structure qgH (x:qz):Prop where
 Ap:(okL qmi) x.Ap
structure qn4 (x:qF):Prop where
 Ba:okS x.Ba
 Bp:okI x.Bp
 Aj:(okL okI) x.Aj
structure qpX (x:qau):Prop where
 Ba:okS x.Ba
 Bs:okI x.Bs
 Bv:okI x.Bv
structure qjm (x:qi):Prop where
 Ab:(okL qn4) x.Ab
 Aj:(okL okS) x.Aj
 Ah:(okL qpX) x.Ah
structure qm6 (x:qad):Prop where
 Ai:(okL okI) x.Ai
 Bq:(okL okI) x.Bq
 Bl:(okL okI) x.Bl
 Bb:(okL okI) x.Bb
structure qha (x:qe):Prop where
 Am:qgH x.Am
 Aa:qjm x.Aa
 Ac:(okL qm6) x.Ac
structure qnk (x:qv):Prop where
 Ba:okS x.Ba
 Bc:okI x.Bc
 Bg:okI x.Bg
 Bf:okI x.Bf
 Bh:okI x.Bh
structure qoz (x:qh):Prop where
 Ak:okI x.Ak
 Ar:okI x.Ar
structure qgK (x:qf):Prop where
 Bi:okI x.Bi
 Af:qoz x.Af
 Av:qoz x.Av
structure qu8 (x:qqA):Prop where
 Br:qha x.Br
 Cb:qnk x.Cb
 Bz:(okL okI) x.Bz
 Bx:(okL qgK) x.Bx
structure qvQ (x:quZ):Prop where
 Cf:okI x.Cf
 Ca:(okL okI) x.Ca
 Af:okI x.Af
structure qvE (x:qk):Prop where
 As:(okL okT) x.As
 Af:(okL qoz) x.Af
 Av:(okL qoz) x.Av
structure qs6 (x:qnS):Prop where
 Cg:okI x.Cg
 Cd:okI x.Cd
structure qp4 (x:qiy):Prop where
 Bd:okI x.Bd
 To:okI x.To
 Bm:okI x.Bm
 Ce:okI x.Ce
structure qtx (x:qnb):Prop where
 Cc:(okL qs6) x.Cc
 Ca:(okL qp4) x.Ca
end Go.Fw


namespace Go.Fw
open Go
set_option maxRecDepth 100000
theorem qcQ {n:Nat}{x lo hi:Int}:qaE n x lo hi=V (inI x lo hi):=by
 simp only[qaE,ql0,qmV];rfl
theorem qdH {n:Nat}{x lo hi:Int}:qaW n x lo hi=V (inI x lo hi):=by
 simp only[qaW,ql0,qmV];rfl
def bt (s:ByteArray)(j:Nat):Nat:=(s.data.toList.getD j 0).toNat
theorem qtk {s:ByteArray}{j:Nat}(h:j<s.size):atS s (j:Int)=V (bt s j:Int):=by
 have a:j<s.data.size:=h;have b:j<s.data.toList.length:=by simpa using a
 unfold atS;rw[if_pos (by omega),jr];have:s[j]?=V (s.data.toList.getD j 0):=by
  rw[getElem?_pos s j h,jx,jn b]
  rfl
 rw[this]
 rfl
def letB (b:Nat):Bool:=decide (97≤b)&&decide (b≤122)
def digB (b:Nat):Bool:=decide (48≤b)&&decide (b≤57)
def chB (s:ByteArray)(j:Nat):Bool:=letB (bt s j) || digB (bt s j)&&decide (0<j)
def nameB (s:ByteArray):Bool:=(decide (1≤s.size)&&decide (s.size≤8))&&allN (chB s) s.size
theorem qle {s:ByteArray}(h:okS s):Ev (fun n=>qfX n s) (nameB s):=by
 unfold okS at h;have d:Ev (fun n=>qd0 s n 0) (bif allN (chB s) s.size then .nxt (s.size:Int) else .ret false):=by
  refine qed ?_ (fun j a X f=>?_)
  ·exact Ev.succ (by simp only[qd0,qt (je _),cond_false];exact .done)
  ·refine Ev.succ ?_;simp only[qd0,qr a,cond_true,qtk a,jd,ql0,qmV,wS j];have e1:(decide ((bt s j:Int) ≥ 97)&&decide ((bt s j:Int)≤122))=letB (bt s j):=by unfold letB;rw[jk];simp;omega
   have b:(decide ((bt s j:Int) ≥ 48)&&decide ((bt s j:Int)≤57))=digB (bt s j):=by unfold digB;rw[jk];simp;omega
   have c:decide ((j:Int) > 0)=decide (0<j):=by rw[jk];simp
   rw[e1,b,c];unfold chB;cases letB (bt s j)<;>cases digB (bt s j)<;>cases decide (0<j)<;>first|exact f|exact .done
 unfold qfX;refine Ev.cast (r:=bif allN (chB s) s.size then(decide (1≤s.size)&&decide (s.size≤8)) else false) (Ev.bindB d (fun _=>?_) (fun _=>.done)) ?_
 ·simp only[ql0,qmV];exact Ev.now (by congr 1;rw[jk];simp;omega)
 ·unfold nameB;cases allN (chB s) s.size<;>simp
def cutset:List UInt8:=[97,98,99,100,101,102,103,104,105,106,107,108,109,110,111,112,113,114,115,116,117,118,119,120,121,122,48,49,50,51,52,53,54,55,56,57]
theorem qoB (b:UInt8):cutset.contains b=(letB b.toNat || digB b.toNat):=by
 have a:(List.range 256).all (fun m=>cutset.contains (UInt8.ofNat m)==(letB (UInt8.ofNat m).toNat || digB (UInt8.ofNat m).toNat))=true:=by kernel_rfl
 have h:=List.all_eq_true.1 a b.toNat (List.mem_range.2 b.toNat_lt);rw[beq_iff_eq] at h;simpa using h
def letters:List UInt8:=[97,98,99,100,101,102,103,104,105,106,107,108,109,110,111,112,113,114,115,116,117,118,119,120,121,122]
theorem qrt (m:Nat)(b:m<256):decide ((Lib.indexByte letters m.toUInt8) ≥ 0)=letB m:=by
 have a:(List.range 256).all (fun m=>decide ((Lib.indexByte letters m.toUInt8) ≥ 0)==letB m)=true:=by kernel_rfl
 have h:=List.all_eq_true.1 a m (List.mem_range.2 b);rwa [beq_iff_eq] at h
theorem qpc {α:Type}{p:α→Bool}{l:List α}:l.dropWhile p=[]↔∀ x,x ∈ l→p x=true:=by
 induction l with
 | nil=>simp
 | cons y l ih=>
  rw[List.dropWhile_cons];by_cases h:p y=true
  ·rw[if_pos h,ih];simp[h]
  ·rw[if_neg h];simp[h]
theorem qpk {α:Type}{p:α→Bool}{l:List α}(h:∀ x,x ∈ l.dropWhile p→p x=true):∀ x,x ∈ l→p x=true:=by
 induction l with
 | nil=>simp
 | cons y l ih=>
  rw[List.dropWhile_cons] at h;by_cases b:p y=true
  ·rw[if_pos b] at h;intro x a;rcases List.mem_cons.1 a with rfl|a
   ·exact b
   ·exact ih h x a
  ·rw[if_neg b] at h;exact h
theorem qtv {l cs:List UInt8}:Lib.trimS l cs=[]↔∀ x,x ∈ l→cs.contains x=true:=by
 unfold Lib.trimS Lib.trimRightS Lib.trimLeftS;rw[qpc];constructor
 ·intro h x a;exact qpk (p:=(cs.contains ·)) (l:=l.reverse) (fun y b=>h y (List.mem_reverse.2 b)) x (List.mem_reverse.2 a)
 ·intro h x a;exact h x (List.mem_reverse.1 ((List.dropWhile_suffix _).subset (List.mem_reverse.1 a)))
theorem qhd {a b:ByteArray}:(a.toList==b.toList)=decide (a=b):=by
 rw[jk,beq_iff_eq,decide_eq_true_iff];constructor
 ·intro h;exact ByteArray.ext (by have:=congrArg List.toArray h;simpa [ByteArray.toList_eq] using this)
 ·rintro rfl;rfl

theorem qu0 {s:ByteArray}{j:Nat}(h:j<s.data.toList.length):bt s j=(s.data.toList[j]).toNat:=by
 unfold bt;rw[jx,jn h];rfl
theorem qvF {s:ByteArray}{j:Nat}:bt s j<256:=UInt8.toNat_lt _
theorem qnA {n:Nat}{s:ByteArray}(h:okS s):qhF n s=V (nameB s):=by
 unfold okS at h;have z:s.data.toList.length=s.size:=by simp
 simp only[qhF,qdH,jd];cases hI:inI (s.size:Int) 1 8 with
 | false=>
  have k:(decide (1≤s.size)&&decide (s.size≤8))=false:=by rw[qsx] at hI;rw[Bool.and_eq_false_iff,decide_eq_false_iff_not,decide_eq_false_iff_not];omega
  simp[nameB,k]
 | true=>
  have k:1≤s.size∧s.size≤8:=by rw[qa5] at hI;omega
  have t:qh0 n s (⟨#[97,98,99,100,101,102,103,104,105,106,107,108,109,110,111,112,113,114,115,116,117,118,119,120,121,122,48,49,50,51,52,53,54,55,56,57]⟩:ByteArray)=V ⟨(Lib.trimS s.data.toList cutset).toArray⟩:=by
   unfold qh0;rw[if_pos ⟨by omega,by decide,by decide⟩]
   rfl
  rw[t];simp only[cond_true,jd];have p:(((⟨(Lib.trimS s.data.toList cutset).toArray⟩:ByteArray).toList==(⟨#[]⟩:ByteArray).toList))=allN (fun j=>letB (bt s j) || digB (bt s j)) s.size:=by
   rw[qhd,jk,decide_eq_true_iff,qai];have:((⟨(Lib.trimS s.data.toList cutset).toArray⟩:ByteArray)=⟨#[]⟩)↔Lib.trimS s.data.toList cutset=[]:=by
    constructor
    ·intro i;have:=congrArg (fun x:ByteArray=>x.data.toList) i;simpa using this
    ·intro i;rw[i]
   rw[this,qtv];constructor
   ·intro m j a;have c:j<s.data.toList.length:=by omega
    have:=m _ (jo c);rw[qoB,←qu0 c] at this;exact this
   ·intro m x u;obtain⟨j,a,rfl⟩:=jV u;have:=m j (by omega);rw[qoB,←qu0 a];exact this
  rw[p];have o:atS s 0=V (bt s 0:Int):=qtk (j:=0) (by omega);have g:decide (Lib.indexByte letters (bt s 0:Int).toNat.toUInt8 ≥ 0)=letB (bt s 0):=by
   rw[jr];exact qrt _ qvF
  have r:∀ b:Bool,(bif b then(atS s 0).bind fun y=>(qgk n (⟨#[97,98,99,100,101,102,103,104,105,106,107,108,109,110,111,112,113,114,115,116,117,118,119,120,121,122]⟩:ByteArray) (⟨y⟩:IntK .u8)).bind fun v=>V (decide (v ≥ 0)) else V false)=V (b&&letB (bt s 0)):=by
   intro b;cases b with
   | false=>rfl
   | true=>
    rw[o];simp only[cond_true,jd,qgk,jB];exact congrArg V g
  rw[r]
  congr 1
  have l:(decide (1≤s.size)&&decide (s.size≤8))=true:=by simp[k]
  unfold nameB;rw[l,jB,jk,jf,qai,qai];simp only[chB,Bool.or_eq_true,jf,decide_eq_true_eq];constructor
  ·rintro⟨d,f⟩ j a;rcases Nat.eq_zero_or_pos j with rfl|hp
   ·exact .inl f
   ·exact(d j a).imp id (fun h=>⟨h,hp⟩)
  ·intro d;refine⟨fun j a=>(d j a).imp id (fun h=>h.1),?_⟩;rcases d 0 (by omega) with f|f
   ·exact f
   ·omega
def strAt (xs:List ByteArray)(j:Nat):ByteArray:=xs.getD j ByteArray.empty
theorem qm8 {xs:List ByteArray}{j:Nat}(h:j<xs.length):strAt xs j=xs[j]:=by simp[strAt,h]
theorem qot {xs:List ByteArray}{j:Nat}(h:j<xs.length):idx xs (j:Int)=V (strAt xs j):=by rw[qa2 h,qm8 h]
def neB (xs:List ByteArray)(j i:Nat):Bool:=!decide (strAt xs i=strAt xs j)
def namesB (xs:List ByteArray):Bool:=allN (fun j=>nameB (strAt xs j)&&allN (neB xs j) j) xs.length
theorem qly {xs:List ByteArray}(h:okL okS xs):Ev (fun n=>qgc n xs) (namesB xs):=by
 have f:=h.len;have c:∀ j,j<xs.length→Ev (fun n=>qep xs (j:Int) n 0) (bif allN (neB xs j) j then .nxt (j:Int) else .ret false):=by
  intro j a;refine qed ?_ (fun i hi X d=>Ev.succ ?_)
  ·exact Ev.succ (by simp only[qep,qt (je _),cond_false];exact .done)
  ·simp only[qep,qr hi,cond_true,qot (show i<xs.length by omega),qot a,jd,qhd,wS i];unfold neB;cases decide (strAt xs i=strAt xs j)
   ·exact d
   ·exact .done
 have b:Ev (fun n=>qek xs n 0) (bif namesB xs then .nxt (xs.length:Int) else .ret false):=by
  refine qed ?_ (fun j a X d=>Ev.succ ?_)
  ·exact Ev.succ (by simp only[qek,qt (je _),cond_false];exact .done)
  ·simp only[qek,qr a,cond_true,qot a,jd,wS j];refine Ev.bind (qle (by rw[qm8 a];exact h.at a)) ?_;cases nameB (strAt xs j)
   ·exact .done
   ·refine Ev.ff Z (Ev.bind (c j a) ?_);cases allN (neB xs j) j
    ·exact .done
    ·exact d
 unfold qgc;refine Ev.bind b ?_;cases namesB xs<;>exact .done
theorem qq7 {xs:List ByteArray}{v:ByteArray}(c:xs.length≤1048576):Ev (fun n=>qfv n xs v) (ixL (fun x=>decide (v=x)) xs):=
 qf8 (fin:=(xs.length:Int)) (Lf:=qb4 xs v) (pf:=fun _ x=>V (decide (v=x))) (fun _ _=>.done)
  (fun n=>by simp only[qb4,qt (je _),cond_false])
  (fun n j x a=>by
   have b:=(List.getElem?_eq_some_iff.1 a).1;simp only[qb4,qr b,cond_true,qg5 a,jd,qhd,wS j])
  (fun n=>by unfold qfv;congr 1;funext o;cases o<;>rfl)
theorem qoI {xs:List ByteArray}{v:ByteArray}(a:xs.length≤1048576):Ev (fun n=>qd6 n xs v) (xs.any fun x=>decide (v=x)):=by
 unfold qd6;exact Ev.bind (qq7 a) (Ev.now (by rw[qmP]))
theorem qiS {xs:List ByteArray}(h:okL okS xs):Ev (fun n=>qej n xs) (namesB xs):=by
 have g:=h.len;have b:Ev (fun n=>qeq xs n 0) (bif namesB xs then .nxt (xs.length:Int) else .ret false):=by
  refine qed ?_ (fun j a X c=>Ev.succ ?_)
  ·exact Ev.succ (by simp only[qeq,qt (je _),cond_false];exact .done)
  ·have f:subS xs 0 (j:Int)=V (xs.take j):=by
    unfold subS;rw[if_pos ⟨by omega,by omega,by omega⟩];simp
   simp only[qeq,qr a,cond_true,qot a,jd,f,qnA (show okS (strAt xs j) by rw[qm8 a];exact h.at a),wS j];cases nameB (strAt xs j)
   ·exact .done
   ·refine Ev.ff Z (Ev.bind (qoI (by simp;omega)) ?_);have:((xs.take j).any fun x=>decide (strAt xs j=x)) = !allN (neB xs j) j:=by
     rw[qqK (d:=ByteArray.empty)]
     congr 1
     rw[Jd,Nat.min_eq_left (by omega)];refine qhw (fun i hi=>?_);unfold neB strAt
     congr 1
     have:(xs.take j).getD i ByteArray.empty=xs.getD i ByteArray.empty:=by simp[jx,hi]
     rw[this];exact decide_eq_decide.2 eq_comm
    rw[this];cases allN (neB xs j) j
    ·exact .done
    ·exact c
 unfold qej;refine Ev.bind b ?_;cases namesB xs<;>exact .done

theorem qpi {n:Nat}{x lo hi:Int}:qg1 n x lo hi=V (!inI x lo hi):=by simp only[qg1,qdH,jd]
theorem qeb {xs:List Int}{lo hi:Int}(d:xs.length≤1048576):Ev (fun n=>qbN n xs lo hi) (xs.all fun x=>inI x lo hi):=by
 have b:Ev (fun n=>qa0 n xs lo hi) (ixL (fun x=>!inI x lo hi) xs):=
  qf8 (fin:=(xs.length:Int)) (Lf:=qae xs lo hi) (pf:=fun _ x=>V (!inI x lo hi)) (fun _ _=>.done)
   (fun n=>by simp only[qae,qt (je _),cond_false])
   (fun n j x a=>by
    have c:=(List.getElem?_eq_some_iff.1 a).1;simp only[qae,qr c,cond_true,qg5 a,jd,qpi,wS j])
   (fun n=>by unfold qa0;congr 1;funext o;cases o<;>rfl)
 unfold qbN qbJ;refine Ev.bind (Ev.bind b (Ev.now Z)) (Ev.now ?_);rw[qmP,qow]
def stepB (xs:List Int)(j:Nat):Bool:=decide (j=0) || decide (at0 xs (j-1)<at0 xs j)
def incB (xs:List Int):Bool:=allN (stepB xs) xs.length
theorem qlk {xs:List Int}(m:xs.length≤1048576):Ev (fun n=>qe8 n xs) (incB xs):=by
 have g:Ev (fun n=>qbC xs n 1) (bif incB xs then .nxt (max 1 xs.length:Int) else .ret false):=by
  by_cases b:xs.length=0
  ·have k:incB xs=true:=by unfold incB;rw[b];rfl
   rw[k];refine Ev.succ ?_;have:decide ((1:Int)<(xs.length:Int))=false:=by rw[b];decide
   simp only[qbC,this,cond_false];exact Ev.now (by rw[b];rfl)
  ·have:=qsd (Lf:=qbC xs) (len:=xs.length) (i0:=1) (f:=stepB xs) (bad:=false) (fin:=.nxt (max 1 xs.length:Int)) (by omega)
    (Ev.succ (by
     simp only[qbC,qt (je _),cond_false];exact Ev.now (by congr 2;omega)))
    (fun j l a X i=>Ev.succ (by
     simp only[qbC,qr a,cond_true,wS j,show(j:Int)-1=((j-1:Nat):Int) by omega,qU (show -9223372036854775808≤((j-1:Nat):Int) by omega) (by omega),qar (show j-1<xs.length by omega),qar a,jd];unfold stepB;by_cases c:at0 xs (j-1)<at0 xs j
     ·have e1:decide (at0 xs (j-1) ≥ at0 xs j)=false:=by simp;omega
      rw[e1];simp only[c,decide_true,Bool.or_true,cond_true,cond_false];exact i
     ·have e1:decide (at0 xs (j-1) ≥ at0 xs j)=true:=by simp;omega
      have d:decide (j=0)=false:=by simp;omega
      rw[e1,d];simp only[c,decide_false,Bool.or_self,cond_true,cond_false];exact .done))
   have e:allN (fun j=>stepB xs (1+j)) (xs.length-1)=incB xs:=by
    unfold incB;rw[jk,qai,qai];constructor
    ·intro h j a;cases j with
     | zero=>rfl
     | succ j=>have:=h j (by omega);rwa [Nat.add_comm] at this
    ·intro h j a;exact h (1+j) (by omega)
   rw[e] at this;exact this
 unfold qe8;refine Ev.bind g ?_;cases incB xs<;>exact .done
def lenB {α:Type}(xs:List α)(lo hi:Nat):Bool:=decide (lo≤xs.length)&&decide (xs.length≤hi)
theorem qqj {α:Type}{xs:List α}{lo hi:Nat}:inI (xs.length:Int) (lo:Int) (hi:Int)=lenB xs lo hi:=by
 unfold inI lenB;rw[jk];simp
def axisB (xs:List Int):Bool:=lenB xs 1 4&&((xs.all fun x=>inI x 0 100000)&&incB xs)
theorem qpz {xs:List Int}(a:xs.length≤1048576):Ev (fun n=>qiL n xs) (axisB xs):=by
 simp only[qiL,qbx,jd,qdH,show inI (xs.length:Int) 1 4=lenB xs 1 4 from qqj (lo:=1) (hi:=4)];unfold axisB;cases lenB xs 1 4
 ·exact .done
 ·refine Ev.tt Z (Ev.bind (qeb a) ?_);cases (xs.all fun x=>inI x 0 100000)
  ·exact .done
  ·exact Ev.tt Z (Ev.bind (qlk a) .done)
theorem qo0 {xs:List Int}(k:xs.length≤1048576):Ev (fun n=>qhY n xs) (axisB xs):=by
 have i:Ev (fun n=>qdV xs n 0) (bif allN (fun j=>inI (at0 xs j) 0 100000&&stepB xs j) xs.length then .nxt (xs.length:Int) else .ret false):=by
  refine qed ?_ (fun j c X a=>Ev.succ ?_)
  ·exact Ev.succ (by simp only[qdV,qt (je _),cond_false];exact .done)
  ·simp only[qdV,qr c,cond_true,qar c,jd,qcQ,wS j];cases inI (at0 xs j) 0 100000
   ·exact .done
   ·simp only[Jg,cond_false,jB];unfold stepB;by_cases h:j=0
    ·subst h;exact Ev.ff (by decide) a
    ·simp only[show(j:Int)-1=((j-1:Nat):Int) by omega,qU (show -9223372036854775808≤((j-1:Nat):Int) by omega) (by omega),qar (show j-1<xs.length by omega),jd];have f:decide (j=0)=false:=by simp;omega
     have g:decide ((j:Int) > 0)=true:=by simp;omega
     rw[f,g];simp only[cond_true,Bool.false_or];by_cases b:at0 xs (j-1)<at0 xs j
     ·have e1:decide (at0 xs (j-1) ≥ at0 xs j)=false:=by simp;omega
      rw[e1];simp only[b,decide_true,cond_true,cond_false];exact a
     ·have e1:decide (at0 xs (j-1) ≥ at0 xs j)=true:=by simp;omega
      rw[e1];simp only[b,decide_false,cond_true,cond_false];exact .done
 have e:axisB xs=(allN (fun j=>inI (at0 xs j) 0 100000&&stepB xs j) xs.length&&lenB xs 1 4):=by
  unfold axisB incB;rw[qkC,qgI (d:=0),Bool.and_comm]
  rfl
 rw[e];unfold qhY;refine Ev.bind i ?_;cases allN (fun j=>inI (at0 xs j) 0 100000&&stepB xs j) xs.length
 ·exact .done
 ·simp only[cond_true,ql0,qmV,jB];exact Ev.now (by congr 1;unfold lenB;rw[jk];simp;omega)
def tableB (t:qO):Bool:=axisB t.Bj&&(axisB t.Be&&(decide (t.Az.length=t.Bj.length*t.Be.length)&&(t.Az.all fun x=>inI x (-1000000) 1000000)))
theorem qor {a b:Nat}(c:a≤1048576)(d:b≤1048576):W64 ((a:Int)*(b:Int))=((a*b:Nat):Int):=by
 have h:a*b≤1048576*1048576:=Nat.mul_le_mul c d;have e:(a:Int)*(b:Int)=((a*b:Nat):Int):=by simp
 rw[e];exact qU (by omega) (by omega)
theorem qrp {t:qO}(h:qhZ t):Ev (fun n=>qjb n t) (tableB t):=by
 unfold qjb tableB;refine Ev.bind (qpz h.Bj.len) ?_;cases axisB t.Bj
 ·exact .done
 ·refine Ev.tt Z (Ev.bind (qpz h.Be.len) ?_);cases axisB t.Be
  ·exact .done
  ·rw[qor h.Bj.len h.Be.len];have e:(((t.Az.length:Nat):Int)==((t.Bj.length*t.Be.length:Nat):Int))=decide (t.Az.length=t.Bj.length*t.Be.length):=by rw[jk];simp;omega
   rw[e];cases decide (t.Az.length=t.Bj.length*t.Be.length)
   ·exact .done
   ·exact Ev.tt Z (Ev.tt Z (Ev.bind (qeb h.Az.len) .done))
theorem qqL {t:qO}(h:qhZ t):Ev (fun n=>qjd n t) (tableB t):=by
 have f:=h.Az.len;have c:Ev (fun n=>qeR t n 0) (bif (t.Az.all fun x=>inI x (-1000000) 1000000) then .nxt (t.Az.length:Int) else .ret false):=
  qm1 (fun n=>by simp only[qeR,qt (je _),cond_false]) (fun j a X d=>by
   simp only[qeR,qr a,cond_true,qa2 a,jd,qcQ,wS j];cases inI t.Az[j] (-1000000) 1000000
   ·exact .done
   ·exact d)
 unfold qjd tableB;refine Ev.bind (b:=!(axisB t.Bj&&(axisB t.Be&&decide (t.Az.length=t.Bj.length*t.Be.length)))) ?_ ?_
 ·refine Ev.bind (qo0 h.Bj.len) ?_;cases axisB t.Bj
  ·exact .done
  ·refine Ev.ff Z (Ev.bind (qo0 h.Be.len) ?_);cases axisB t.Be
   ·exact .done
   ·refine Ev.ff Z (Ev.now ?_);rw[qor h.Bj.len h.Be.len]
    congr 1
    rw[jk];simp;omega
 ·cases axisB t.Bj
  ·exact .done
  ·cases axisB t.Be
   ·exact .done
   ·cases decide (t.Az.length=t.Bj.length*t.Be.length)
    ·exact .done
    ·refine Ev.ff Z (Ev.bind c ?_);cases (t.Az.all fun x=>inI x (-1000000) 1000000)<;>exact .done

instance:Inhabited qap:=⟨⟨ByteArray.empty,0,0,false⟩⟩
instance:Inhabited qO:=⟨⟨[],[],[]⟩⟩
instance:Inhabited qak:=⟨⟨0,0,0,0,[],[]⟩⟩
instance:Inhabited qG:=⟨⟨ByteArray.empty,0,[],[],[],0,0⟩⟩
instance:Inhabited qF:=⟨⟨ByteArray.empty,0,[]⟩⟩
instance:Inhabited qau:=⟨⟨ByteArray.empty,0,0⟩⟩
instance:Inhabited qad:=⟨⟨[],[],[],[]⟩⟩
theorem lastE {j m:Nat}(h:j<m)(a:m≤1048576):((j:Int)==W64 ((m:Int)-1))=decide (j+1=m):=by
 rcases quz h with h|h
 ·exact h
 ·omega
theorem qjp {α:Type}[Inhabited α]{xs:List α}{g:α→ByteArray}{j:Nat}(h:j<xs.length):strAt (xs.map g) j=g (gt xs j):=by
 rw[qm8 (by simpa using h),qdz h];simp
theorem qmc {α:Type}{xs:List α}{g:α→ByteArray}{ok:α→Prop}(h:okL ok xs)(a:∀ x,ok x→okS (g x)):okL okS (xs.map g):=
 ⟨by rw[jv];exact h.1,fun y c=>by
  obtain⟨x,b,rfl⟩:=List.mem_map.1 c;exact a x (h.2 x b)⟩
theorem qkN {α β:Type}{xs:List α}{g:α→β}{j:Nat}(h:j<xs.length)(a:xs.length≤1048576){y:β}:appS ((xs.take j).map g) [y]=V ((xs.take j).map g++[y]):=
 qcE (by simp;omega)
def pinB (ps:List qap)(j:Nat):Bool:=
 bif decide (j+1=ps.length) then((gt ps j).Bs==2)&&(((gt ps j).Bl==0)&&!(gt ps j).Bo) else((gt ps j).Bs==1)&&inI (gt ps j).Bl 0 500
def pinsB (ps:List qap):Bool:=allN (pinB ps) ps.length&&(lenB ps 2 5&&namesB (ps.map qap.Ba))
def clkN (ps:List qap)(j:Nat):Nat:=cntP (fun i=>(gt ps i).Bo) j
theorem qrL {ps:List qap}(h:okL qkU ps):Ev (fun n=>qjj n ps) (pinsB ps):=by
 have i:=h.len;have l:Ev (fun n=>qc9 ps n ([]:List ByteArray) 0) (bif allN (pinB ps) ps.length then .nxt (ps.map qap.Ba,(ps.length:Int)) else .ret false):=by
  refine loopN (Lf:=qc9 ps) (S:=fun j=>(ps.take j).map qap.Ba) (pinB ps) (fun n=>?_) (fun j a o X f=>?_)
  ·simp only[qc9,qt (je _),cond_false,jJ]
  ·simp only[qc9,qr a,cond_true,qy a,jd,qkN a i,qf4 (g:=qap.Ba) a,lastE a i,bne,qde,qdH,wS j];generalize hc:pinB ps j=c at f ⊢;unfold pinB at hc;cases hd:decide (j+1=ps.length)
   ·rw[hd] at hc;simp only[cond_false] at hc ⊢;subst hc;exact Ev.okP (fun b=>Ev.okP1 (fun d=>f (by rw[b,d];rfl)))
   ·rw[hd] at hc;simp only[cond_true] at hc ⊢;subst hc;refine Ev.okP (fun b=>Ev.okP (fun d=>Ev.chkP1 (fun k=>f (by rw[b,d,k];rfl))))
 unfold qjj pinsB;refine Ev.bind l ?_;cases allN (pinB ps) ps.length
 ·exact .done
 ·simp only[cond_true,qcz,qdH,jd,show inI (ps.length:Int) 2 5=lenB ps 2 5 from qqj (lo:=2) (hi:=5),jB];exact Ev.andP (fun _=>Ev.last (qiS (qmc h (fun x m=>m.Ba))))
def pinS (ps:List qap)(j:Nat):Bool:=allN (neB (ps.map qap.Ba) j) j&&((nameB (gt ps j).Ba&&inI (gt ps j).Bl 0 500)&&(bif decide (j+1=ps.length) then((gt ps j).Bs==2)&&(((gt ps j).Bl==0)&&!(gt ps j).Bo) else((gt ps j).Bs==1)))
theorem quO {ps:List qap}:(lenB ps 2 5&&allN (pinS ps) ps.length)=pinsB ps:=by
 have e:namesB (ps.map qap.Ba)=allN (fun j=>nameB (gt ps j).Ba&&allN (neB (ps.map qap.Ba) j) j) ps.length:=by
  unfold namesB;rw[jv];exact qhw (fun j a=>by rw[qjp a])
 unfold pinsB;rw[e,←Bool.and_assoc,Bool.and_comm (allN (pinB ps) ps.length),Bool.and_assoc,←qkC]
 congr 1
 refine qhw (fun j a=>?_);unfold pinS pinB;cases hd:decide (j+1=ps.length)
 ·simp only[cond_false];cases allN (neB (ps.map qap.Ba) j) j<;>cases nameB (gt ps j).Ba<;>cases inI (gt ps j).Bl 0 500<;>cases ((gt ps j).Bs==1)<;>rfl
 ·simp only[cond_true];cases hcap:((gt ps j).Bl==0)
  ·simp
  ·have:inI (gt ps j).Bl 0 500=true:=by rw[beq_iff_eq] at hcap;rw[hcap];rfl
   rw[this];cases allN (neB (ps.map qap.Ba) j) j<;>cases nameB (gt ps j).Ba<;>cases ((gt ps j).Bs==2)<;>cases (gt ps j).Bo<;>rfl
theorem qrI {c:qG}(h:okL qkU c.Ay):Ev (fun n=>qjc n c) (bif pinsB c.Ay then(((clkN c.Ay c.Ay.length:Nat):Int),true) else(0,false)):=by
 have s:=h.len;have l:∀ j,j<c.Ay.length→Ev (fun n=>qe1 c (j:Int) (gt c.Ay j) n 0) (bif allN (neB (c.Ay.map qap.Ba) j) j then .nxt (j:Int) else .ret (0,false)):=by
  intro j b;refine qed ?_ (fun i hi X a=>Ev.succ ?_)
  ·exact Ev.succ (by simp only[qe1,qt (je _),cond_false];exact .done)
  ·simp only[qe1,qr hi,cond_true,qy (show i<c.Ay.length by omega),jd,qhd,wS i];unfold neB;rw[qjp (g:=qap.Ba) (show i<c.Ay.length by omega),qjp (g:=qap.Ba) b];exact Ev.chkP1 (fun _=>a)
 have k:Ev (fun n=>qc2 c n 0 0) (bif allN (pinS c.Ay) c.Ay.length then .nxt (((clkN c.Ay c.Ay.length:Nat):Int),(c.Ay.length:Int)) else .ret (0,false)):=by
  refine loopN (Lf:=qc2 c) (S:=fun j=>((clkN c.Ay j:Nat):Int)) (pinS c.Ay) (fun n=>?_) (fun j b u X a=>?_)
  ·simp only[qc2,qt (je _),cond_false]
  ·have t:clkN c.Ay j≤j:=qf2;have d:((j:Int)==W64 ((c.Ay.length:Int)-1))=decide (j+1=c.Ay.length):=lastE b s;have f:decide ((j:Int)<W64 ((c.Ay.length:Int)-1)) = !decide (j+1=c.Ay.length):=by
    rw[qU (by omega) (by omega),jk];simp;omega
   simp only[qc2,qr b,cond_true,qy b,jd,wS j,qhh (show clkN c.Ay j<9223372036854775807 by omega),d,f,qcQ];unfold pinS;refine Ev.bind (l j b) ?_;cases ha:allN (neB (c.Ay.map qap.Ba) j) j
   ·exact .done
   ·simp only[cond_true,jB];refine Ev.chkT ?_ (fun o=>?_)
    ·exact Ev.or (qle (qlV h b).Ba) (fun _=>.done)
    ·refine Ev.chkT1 ?_ (fun r=>?_)
     ·cases decide (j+1=c.Ay.length)
      ·exact .done
      ·simp only[cond_true,Jg,cond_false,bne,qde];cases ((gt c.Ay j).Bs==2)<;>cases ((gt c.Ay j).Bl==0)<;>cases (gt c.Ay j).Bo<;>exact .done
     ·have a:=a (by unfold pinS;rw[ha,o,r];rfl);have m:clkN c.Ay (j+1)=clkN c.Ay j+(bif (gt c.Ay j).Bo then 1 else 0):=rfl;rw[m] at a;cases hc:(gt c.Ay j).Bo
      ·rw[hc] at a;exact Ev.ff Z a
      ·rw[hc] at a;exact Ev.tt Z a
 rw[←quO];unfold qjc;refine Ev.guard ?_ (fun o=>?_)
 ·unfold lenB;have e1:decide ((c.Ay.length:Int)<2) = !decide (2≤c.Ay.length):=by rw[jk];simp;omega
  have p:decide ((c.Ay.length:Int) > 5) = !decide (c.Ay.length≤5):=by rw[jk];simp;omega
  rw[e1,p];cases decide (2≤c.Ay.length)<;>cases decide (c.Ay.length≤5)<;>exact .done
 ·refine Ev.bind k ?_;cases allN (pinS c.Ay) c.Ay.length<;>exact .done
def mnL (xs:List Int):Int:=(xs.drop 1).foldl (fun m y=>if y<m then y else m) (at0 xs 0)
def mxL (xs:List Int):Int:=(xs.drop 1).foldl (fun m y=>if y > m then y else m) (at0 xs 0)
theorem qoH {t:qO}(h:tableB t=true):1≤t.Az.length:=by
 unfold tableB axisB lenB at h;simp only[jf,decide_eq_true_eq] at h;obtain⟨⟨⟨a,_⟩,_⟩,⟨⟨b,_⟩,_⟩,c,_⟩:=h;rw[c];exact Nat.mul_pos a b
theorem quu {xs:List Int}(b:1≤xs.length)(f:xs.length≤1048576):Ev (fun n=>qgM n xs) (mnL xs):=by
 have c:=(qnT (Lf:=fun n t j=>qcU xs n t j) (xs:=xs) (step:=fun(m y:Int)=>if y<m then y else m) (fin:=fun t=>(t,(xs.length:Int))) 1 (at0 xs 0) (fun _ _=>True) b trivial (fun _ _ _ _=>trivial)
  (fun n t=>by simp only[qcU,qt (je _),cond_false])
  (fun j t a _ X d=>by simpa only[qcU,qr a,cond_true,qa2 a,jd,wS j] using d)).1
 unfold qgM;rw[show decide ((xs.length:Int)<1)=false by simp;omega,show idx xs (0:Int)=V (at0 xs 0) from qar (j:=0) (by omega)];simp only[cond_false,jd];exact Ev.bind c .done
theorem qro {t:qO}(h:qhZ t):Ev (fun n=>qgY n t) (bif tableB t then(⟨mnL t.Az,mxL t.Az⟩,0) else(⟨0,0⟩,1)):=by
 unfold qgY;refine Ev.chk1 (qqL h) (fun k=>?_);have g:=qoH k;have o:=h.Az.len;have d:=(qnT (Lf:=fun n (c:Int×Int) j=>qcT t n c.1 c.2 j) (xs:=t.Az) (step:=fun(m:Int×Int) y=>(if y<m.1 then y else m.1,if y > m.2 then y else m.2)) (fin:=fun c=>(c.1,c.2,(t.Az.length:Int))) 1 (at0 t.Az 0,at0 t.Az 0) (fun _ _=>True) g trivial (fun _ _ _ _=>trivial)
  (fun n t=>by simp only[qcT,qt (je _),cond_false])
  (fun j t f _ X i=>by simpa only[qcT,qr f,cond_true,qa2 f,jd,wS j] using i)).1
 have l:∀ (ys:List Int) (a b:Int),ys.foldl (fun(m:Int×Int) y=>(if y<m.1 then y else m.1,if y > m.2 then y else m.2)) (a,b)=(ys.foldl (fun m y=>if y<m then y else m) a,ys.foldl (fun m y=>if y > m then y else m) b):=by
  intro ys
  induction ys with
  | nil=>intro a b;rfl
  | cons y ys ih=>intro a b;simp only[List.foldl_cons,ih]
 rw[l] at d;rw[show idx t.Az (0:Int)=V (at0 t.Az 0) from qar (j:=0) (by omega)];simp only[jd];exact Ev.bind d .done
def tabB (pos:Bool)(t:qO):Bool:=tableB t&&(!pos || decide (0≤mnL t.Az))
def tablesB (a:List qO)(pos:Bool):Bool:=decide (a.length=2)&&a.all (tabB pos)
theorem qkX {a:List qO}{pos:Bool}(h:okL qhZ a):Ev (fun n=>qfD n a pos) (tablesB a pos):=by
 have g:=h.len;have c:Ev (fun n=>qaM n a pos) (ixL (fun x=>!tabB pos x) a):=
  qf8 (fin:=(a.length:Int)) (Lf:=qZ a pos) (pf:=fun n x=>qgV n x pos) (fun x b=>by
    unfold qgV tabB;refine Ev.or (qrp (h.2 x b)) (fun d=>?_);cases pos
    ·exact .done
    ·refine Ev.tt Z (Ev.bind (quu (qoH d) (h.2 x b).Az.len) (Ev.now ?_))
     congr 1
     rw[jk];simp)
   (fun n=>by simp only[qZ,qt (je _),cond_false])
   (fun n j x b=>by
    have f:=(List.getElem?_eq_some_iff.1 b).1;simp only[qZ,qr f,cond_true,qg5 b,jd,wS j])
   (fun n=>by unfold qaM;congr 1;funext o;cases o<;>rfl)
 unfold qfD qa8 tablesB;rw[show((a.length:Int)==2)=decide (a.length=2) by rw[jk];simp;omega];refine Ev.andP (fun _=>Ev.bind (Ev.bind c (Ev.now Z)) (Ev.now ?_));rw[qmP,qow]
theorem qhV {a:List qO}{pos:Bool}(h:okL qhZ a):Ev (fun n=>qdD n a pos) (tablesB a pos):=by
 unfold qdD tablesB;rw[show((a.length:Int) != 2) = !decide (a.length=2) by rw[jk];simp;omega];simp only[qde];refine Ev.andP (fun b=>?_);have b:a.length=2:=by simpa using b
 have f:Ev (fun n=>qcK a pos n 0) (bif allN (fun j=>tabB pos (gt a j)) a.length then .nxt (2:Int) else .ret false):=by
  refine qed (len:=a.length) ?_ (fun j d X c=>Ev.succ ?_)
  ·rw[b];exact Ev.succ (by simp only[qcK];exact .done)
  ·simp only[qcK,show decide ((j:Int)<2)=true by simp;omega,cond_true,qy d,jd,wS j];refine Ev.bind (qro (qlV h d)) ?_;unfold tabB;cases tableB (gt a j)
   ·exact .done
   ·simp only[cond_true,jB];refine Ev.ff Z ?_;cases pos
    ·exact c
    ·refine Ev.tt Z ?_;rw[show decide (mnL (gt a j).Az<0) = !decide (0≤mnL (gt a j).Az) by rw[jk];simp];simp only[qde];exact Ev.okP1 (fun _=>c)
 rw[qhP];refine Ev.bind f ?_;cases allN (fun j=>tabB pos (gt a j)) a.length<;>exact .done

theorem qfw {α:Type}[Inhabited α]{xs:List α}{x:Int}(a:0≤x)(b:x<xs.length):idx xs x=V (gt xs x.toNat):=by
  have:=qy (xs:=xs) (j:=x.toNat) (by omega);rwa [←qfm a] at this
theorem qpK {q:Nat→Bool}{m n:Nat}(h:m≤n):cntP q m≤cntP q n:=by
  induction n with
  | zero=>
    obtain rfl:m=0:=by omega
    exact je _
  | succ n ih=>
    rcases Nat.lt_or_eq_of_le h with h|rfl
    · exact Je (ih (by omega)) (Nat.le_add_right _ _)
    · exact je _
theorem qmb {m k:Nat}:decide ((m:Int)≤(k:Int))=decide (m≤k):=by rw[jk];simp
theorem qqX {q:Nat→Bool}{n i j:Nat}(hi:i<j)(d:j<n)(a:q i=true)(b:q j=true):2≤cntP q n:=by
  have e1:cntP q (i+1)=cntP q i+1:=by rw[cntP,a];rfl
  have c:cntP q (j+1)=cntP q j+1:=by rw[cntP,b];rfl
  have f:=qpK (q:=q) (show i+1≤j by omega);have g:=qpK (q:=q) (show j+1≤n by omega);omega
theorem qqV {q:Nat→Bool}{n i j:Nat}(d:cntP q n≤1)(hi:i<n)(c:j<n)(a:q i=true)(b:q j=true):i=j:=by
  rcases Nat.lt_trichotomy i j with h|h|h
  · have:=qqX h c a b;omega
  · exact h
  · have:=qqX h hi b a;omega
def clkIx (ps:List qap):Int:=ixL (fun p=>p.Bo) ps
def clkAt (ps:List qap)(x:Int):Bool:=(gt ps x.toNat).Bo
theorem qt2 {c:qG}(f:c.Ay.length≤1048576):Ev (fun n=>qho n c) (clkIx c.Ay):=by
  unfold qho;refine Ev.bind (b:=clkIx c.Ay) ?_ .done;exact qf8 (fin:=(c.Ay.length:Int)) (Lf:=qaa c.Ay) (pf:=fun n x=>qh9 n x) (fun _ _=>.done)
    (fun n=>by simp only[qaa,qt (je _),cond_false])
    (fun n j x a=>by
      have d:=(List.getElem?_eq_some_iff.1 a).1;simp only[qaa,qr d,cond_true,qg5 a,jd,wS j])
    (fun n=>by unfold qby;congr 1;funext o;cases o<;>rfl)
def arcI (ps:List qap)(a:qak):Bool:=
  bif (a.Au==4) || (a.Au==5) then
    (a.Bk==0)&&(((a.Av.length:Int)==0)&&(tablesB a.Bm false&&((a.Bd==clkIx ps)&&(decide (a.Bd ≥ 0)&&(inI a.To 0 (ps.length-2)&&!(a.To==a.Bd))))))
  else
    (tablesB a.Bm true&&(tablesB a.Av true&&((a.To==(ps.length:Int)-1)&&inI a.Bd 0 (ps.length-2)))) &&
      (bif a.Au==1 then !clkAt ps a.Bd&&inI a.Bk 1 3 else(bif (a.Au==2) || (a.Au==3) then clkAt ps a.Bd&&(a.Bk==0) else false))
def arcS (ps:List qap)(a:qak):Bool:=
  (inI a.Bd 0 (ps.length-2)&&inI a.To 0 (ps.length-1)) &&
    (bif a.Au==1 then !clkAt ps a.Bd&&((a.To==(ps.length:Int)-1)&&(inI a.Bk 1 3&&(tablesB a.Bm true&&tablesB a.Av true)))
     else(bif (a.Au==2) || (a.Au==3) then clkAt ps a.Bd&&((a.To==(ps.length:Int)-1)&&((a.Bk==0)&&(tablesB a.Bm true&&tablesB a.Av true)))
     else(bif (a.Au==4) || (a.Au==5) then clkAt ps a.Bd&&(decide (a.To<(ps.length:Int)-1)&&(!clkAt ps a.To&&((a.Bk==0)&&(tablesB a.Bm false&&((a.Av.length:Int)==0))))) else false)))
theorem qn2 {c d:Bool}:(bif c then V c else V d)=V (c || d):=by cases c<;>rfl
theorem qrc {c d:Bool}:(bif c then V true else V d)=V (c || d):=by cases c<;>rfl
theorem qrM {n:Nat}{k:Int}:qjf n k=V ((k==4) || (k==5)):=by simp only[qjf,qrc]
theorem qs8 {c:qG}{a:qak}(h:okL qkU c.Ay)(b:qld a)(k:2≤c.Ay.length):Ev (fun n=>qhs n c a) (arcI c.Ay a):=by
  have i:=h.len;have e1:W64 ((c.Ay.length:Int)-1)=(c.Ay.length:Int)-1:=qfb (by omega);have f:W64 ((c.Ay.length:Int)-1-1)=(c.Ay.length:Int)-2:=by rw[qU (by omega) (by omega)];omega
  simp only[qhs,qrM,jd,qgj,qex,qcz,e1,f,qdH,qn2,bne];unfold arcI;refine Ev.iff (fun _=>Ev.last ?_) (fun _=>Ev.guardB ?_ (fun d=>?_))
  · exact Ev.andP fun _=>Ev.andP fun _=>Ev.and (qkX b.Bm) fun _=>Ev.bind (qt2 i) (Ev.andP fun _=>Ev.andP fun _=>Ev.andP fun _=>.done)
  · refine Ev.or (qkX b.Bm) fun _=>Ev.or (qkX b.Av) fun _=>?_
    simp only[qde];exact Ev.orBP fun _=>.done
  · have g:0≤a.Bd∧a.Bd≤(c.Ay.length:Int)-2:=by
      simp only[jf,qa5] at d;exact d.2.2.2
    simp only[qfw g.1 (show a.Bd<(c.Ay.length:Int) by omega),jd];exact Ev.iff (fun _=>Ev.andP fun _=>.done) (fun _=>Ev.iff (fun _=>Ev.andP fun _=>.done) (fun _=>.done))
theorem qsI {c:qG}{a:qak}(h:okL qkU c.Ay)(b:qld a)(k:2≤c.Ay.length):Ev (fun n=>qj2 n c a) (arcS c.Ay a):=by
  have i:=h.len;have e1:W64 ((c.Ay.length:Int)-1)=(c.Ay.length:Int)-1:=qfb (by omega);have g:W64 ((c.Ay.length:Int)-1-1)=(c.Ay.length:Int)-2:=by rw[qU (by omega) (by omega)];omega
  simp only[qj2,jd,e1,g,qcQ,qn2];unfold arcS;refine Ev.guardB ?_ (fun d=>?_)
  · simp only[qde]
    exact Ev.orBP fun _=>.done
  · have f:(0≤a.Bd∧a.Bd≤(c.Ay.length:Int)-2)∧(0≤a.To∧a.To≤(c.Ay.length:Int)-1):=by
      simp only[jf,qa5] at d;exact d
    simp only[qfw f.1.1 (show a.Bd<(c.Ay.length:Int) by omega),qfw f.2.1 (show a.To<(c.Ay.length:Int) by omega),jd];refine Ev.iff (fun _=>?_) (fun _=>Ev.iff (fun _=>?_) (fun _=>Ev.iff (fun _=>?_) (fun _=>.done)))
    · exact Ev.andP fun _=>Ev.andP fun _=>Ev.andP fun _=>Ev.and (qhV b.Bm) fun _=>Ev.last (qhV b.Av)
    · exact Ev.andP fun _=>Ev.andP fun _=>Ev.andP fun _=>Ev.and (qhV b.Bm) fun _=>Ev.last (qhV b.Av)
    · exact Ev.andP fun _=>Ev.andP fun _=>Ev.andP fun _=>Ev.andP fun _=>Ev.and (qhV b.Bm) fun _=>.done
theorem qnp {ps:List qap}(f:clkN ps ps.length≤1){x:Int}(k:0≤x):clkIx ps=x↔x<ps.length∧clkAt ps x=true:=by
  unfold clkIx ixL;cases hf:ps.findIdx? (fun p=>p.Bo) with
  | some j=>
    obtain⟨d,i,_⟩:=List.findIdx?_eq_some_iff_getElem.1 hf;have b:(gt ps j).Bo=true:=by rw[qdz d];exact i
    constructor
    · intro e
      have e:(j:Int)=x:=e;subst e;exact⟨by omega,by unfold clkAt;rw[jr];exact b⟩
    · rintro⟨g,a⟩
      have:=qqV f d (show x.toNat<ps.length by omega) b a;show(j:Int)=x;omega
  | none=>
    have h:=List.findIdx?_eq_none_iff.1 hf;constructor
    · intro e
      have e:(-1:Int)=x:=e;omega
    · rintro⟨g,a⟩
      have c:x.toNat<ps.length:=by omega
      unfold clkAt at a;rw[qdz c] at a;have:=h _ (jo c);rw[a] at this;exact absurd this (by decide)
theorem qgy {ps:List qap}(h:pinsB ps=true):(2≤ps.length∧ps.length≤5)∧clkAt ps ((ps.length:Int)-1)=false:=by
  unfold pinsB lenB at h;simp only[jf,decide_eq_true_eq] at h;refine⟨h.2.1,?_⟩;have a:=qai.1 h.1 (ps.length-1) (by omega);unfold pinB at a;rw[show decide (ps.length-1+1=ps.length)=true by simp;omega] at a;simp only[cond_true,jf,jD] at a;unfold clkAt;rw[show((ps.length:Int)-1).toNat=ps.length-1 by omega];exact a.2.2
theorem qtQ {ps:List qap}{a:qak}(h:pinsB ps=true)(b:clkN ps ps.length≤1):arcI ps a=arcS ps a:=by
  obtain⟨⟨D,z⟩,l⟩:=qgy h;rw[jk];unfold arcI arcS;cases h45:((a.Au==4) || (a.Au==5)) with
  | true=>
    have B:(a.Au==1)=false:=by simp at h45 ⊢;omega
    have u:((a.Au==2) || (a.Au==3))=false:=by simp at h45 ⊢;omega
    rw[B,u];simp only[cond_true,cond_false,jf,qa5,decide_eq_true_eq,beq_iff_eq,jD,beq_eq_false_iff_ne,ne_eq];constructor
    · rintro⟨t,m,s,p,o,r,A⟩
      obtain⟨C,n⟩:=(qnp b o).1 p.symm;have x:a.Bd ≠ (ps.length:Int)-1:=by intro e;rw[e,l] at n;cases n
      refine⟨⟨⟨o,by omega⟩,⟨r.1,by omega⟩⟩,n,by omega,?_,t,s,m⟩;cases c:clkAt ps a.To with
      | false=>rfl
      | true=>
        have:=(qnp b r.1).2 ⟨by omega,c⟩;omega
    · rintro⟨⟨p,r⟩,n,y,c,t,s,m⟩
      have:=(qnp b p.1).2 ⟨by omega,n⟩;refine⟨t,m,s,this.symm,p.1,⟨r.1,by omega⟩,?_⟩;intro e;rw[e,n] at c;cases c
  | false=>
    simp only[cond_false,jf,qa5,beq_iff_eq];cases (a.Au==1)
    · cases ((a.Au==2) || (a.Au==3))
      · simp
      · simp only[cond_true,cond_false,jf,beq_iff_eq]
        constructor
        · rintro⟨⟨b,d,f,g⟩,i,k⟩
          exact⟨⟨g,by omega⟩,i,f,k,b,d⟩
        · rintro⟨⟨g,v⟩,i,f,k,b,d⟩
          exact⟨⟨b,d,f,g⟩,i,k⟩
    · simp only[cond_true,jf,qa5,jD,beq_iff_eq]
      constructor
      · rintro⟨⟨b,d,f,g⟩,i,k⟩
        exact⟨⟨g,by omega⟩,i,f,k,b,d⟩
      · rintro⟨⟨g,v⟩,i,f,k,b,d⟩
        exact⟨⟨b,d,f,g⟩,i,k⟩
theorem qpr {ps:List qap}{a:qak}(h:arcS ps a=true):1≤a.Au∧a.Au≤5:=by
  unfold arcS at h;rw[jf] at h;have h:=h.2;cases h1:(a.Au==1)
  · cases h2:((a.Au==2) || (a.Au==3))
    · cases h4:((a.Au==4) || (a.Au==5))
      · rw[h1,h2,h4] at h;cases h
      · simp at h4;omega
    · simp at h2;omega
  · simp at h1;omega
def sameArc (x y:qak):Bool:=(x.Au==y.Au)&&((x.Bd==y.Bd)&&(x.To==y.To))
def newArc (ar:List qak)(j:Nat):Bool:=allN (fun i=>!sameArc (gt ar i) (gt ar j)) j
theorem qrm {c:qG}(h:okL qkU c.Ay)(d:okL qld c.Aq)(m:2≤c.Ay.length):Ev (fun n=>qgn n c) (allN (fun j=>arcI c.Ay (gt c.Aq j)&&newArc c.Aq j) c.Aq.length&&decide (c.Aq.length≤8)):=by
  have l:=d.len;have g:∀ (ar:List qak) (y:qak),ar.length≤1048576→Ev (fun n=>qaG n ar y) (ar.any fun x=>sameArc x y):=by
    intro ar y l;unfold qaG;refine Ev.bind (b:=ixL (fun x=>sameArc x y) ar) (qf8 (fin:=(ar.length:Int)) (Lf:=qV ar y) (pf:=fun n x=>qfu n x y) (fun x _=>?_)
      (fun n=>by simp only[qV,qt (je _),cond_false])
      (fun n j x f=>by
        have a:=(List.getElem?_eq_some_iff.1 f).1;simp only[qV,qr a,cond_true,qg5 f,jd,wS j])
      (fun n=>by unfold qbh;congr 1;funext o;cases o<;>rfl)) (Ev.now (by rw[qmP]))
    unfold qfu sameArc;exact Ev.andP fun _=>Ev.andP fun _=>.done
  have i:Ev (fun n=>qcB c n 0) (bif allN (fun j=>arcI c.Ay (gt c.Aq j)&&newArc c.Aq j) c.Aq.length then .nxt (c.Aq.length:Int) else .ret false):=by
    refine qed ?_ (fun j a X k=>Ev.succ ?_)
    · exact Ev.succ (by simp only[qcB,qt (je _),cond_false];exact .done)
    · simp only[qcB,qr a,cond_true,qy a,jd,qsv (Nat.le_of_lt a),wS j]
      refine Ev.chk (qs8 h (qlV d a) m) fun _=>Ev.chkT1 ?_ (fun _=>k);refine(g _ _ (by simp;omega)).cast ?_;rw[qtD (Nat.le_of_lt a)];rfl
  unfold qgn;refine Ev.bind i ?_;cases allN (fun j=>arcI c.Ay (gt c.Aq j)&&newArc c.Aq j) c.Aq.length
  · exact .done
  · refine Ev.now ?_
    show V (decide ((c.Aq.length:Int)≤((8:Nat):Int)))=V (true&&decide (c.Aq.length≤8));rw[qmb,jB]
def hasB (ar:List qak)(k:Int):Bool:=ar.any fun a=>a.Au==k
theorem qnV {c:qG}{k:Int}(f:c.Aq.length≤1048576):Ev (fun n=>qdw n c k) (hasB c.Aq k):=by
  unfold qdw qbo;exact Ev.last (Ev.bind (b:=ixL (fun x=>x.Au==k) c.Aq) (qf8 (fin:=(c.Aq.length:Int)) (Lf:=qac c.Aq k) (pf:=fun n x=>qi2 n x k) (fun x _=>.done)
      (fun n=>by simp only[qac,qt (je _),cond_false])
      (fun n j x a=>by
        have d:=(List.getElem?_eq_some_iff.1 a).1;simp only[qac,qr d,cond_true,qg5 a,jd,wS j])
      (fun n=>by unfold qbM;congr 1;funext o;cases o<;>rfl)) (Ev.now (by rw[qmP];rfl)))
def kindN (ar:List qak)(k:Nat)(j:Nat):Nat:=cntP (fun i=>(gt ar i).Au==(k:Int)) j
theorem qpF {ar:List qak}{k:Nat}:decide (((kindN ar k ar.length:Nat):Int) > 0)=hasB ar k:=by
  rw[show decide (((kindN ar k ar.length:Nat):Int) > 0)=decide (0<kindN ar k ar.length) by simp];unfold kindN hasB;rw[qqQ,qrW]
theorem qrB {ar:List qak}{k:Nat}:(((kindN ar k ar.length:Nat):Int)==0) = !hasB ar k:=by
  rw[←qpF,jk];simp
theorem qqM {c:qG}(g:okL qld c.Aq)(h:∀ j,j<c.Aq.length→1≤(gt c.Aq j).Au∧(gt c.Aq j).Au≤5):Ev (fun n=>qiC n c) (vecC (fun k=>kindN c.Aq k c.Aq.length) 6):=by
  have o:=g.len;have d:Ev (fun n=>qdq c n (vecC (fun _=>0) 6) 0) (vecC (fun k=>kindN c.Aq k c.Aq.length) 6,(c.Aq.length:Int)):=by
    refine loopF (Lf:=qdq c) (S:=fun j=>vecC (fun k=>kindN c.Aq k j) 6) (len:=c.Aq.length) (fun n=>?_) (fun j a X f=>?_)
    · simp only[qdq,qt (je _),cond_false]
    · obtain⟨p,r⟩:=h j a
      have b:(gt c.Aq j).Au=(((gt c.Aq j).Au.toNat:Nat):Int):=qfm (by omega);have l:kindN c.Aq (gt c.Aq j).Au.toNat j≤j:=qf2;simp only[qdq,qr a,cond_true,qy a,jd,wS j];rw[b,qjE (show(gt c.Aq j).Au.toNat<6 by omega)];simp only[jd];rw[qpI (c:=fun k=>kindN c.Aq k j) (by show kindN c.Aq _ j<_;omega)];have:vecC (fun i=>kindN c.Aq i j+(bif decide ((gt c.Aq j).Au.toNat=i) then 1 else 0)) 6=vecC (fun k=>kindN c.Aq k (j+1)) 6:=by
        refine qjH (fun k _=>?_);show _=kindN c.Aq k j+(bif (gt c.Aq j).Au==(k:Int) then 1 else 0)
        congr 2
        rw[jk];simp;omega
      rw[this];exact f
  unfold qiC;rw[show mkS 6 (0:Int)=V (vecC (fun _=>0) 6) from qmj (m:=6) (by omega)];simp only[jd];exact Ev.bind d .done
def kindB (c:qG):Bool:=
  bif c.Au==1 then(((clkN c.Ay c.Ay.length:Nat):Int)==0)&&(((c.Bn.length:Int)==((2 ^ (c.Ay.length-1):Nat):Int))&&(c.Bn.all fun x=>inI x 0 1))
  else bif c.Au==2 then(((clkN c.Ay c.Ay.length:Nat):Int)==1)&&(((c.Bn.length:Int)==0)&&(!hasB c.Aq 1&&!(hasB c.Aq 2==hasB c.Aq 3)))
  else bif c.Au==3 then(((clkN c.Ay c.Ay.length:Nat):Int)==1)&&(((c.Bn.length:Int)==0)&&(hasB c.Aq 1&&(hasB c.Aq 2&&!hasB c.Aq 3)))
  else false
theorem qpC {c:qG}(h:kindB c=true):clkN c.Ay c.Ay.length≤1:=by
  unfold kindB at h;cases h1:(c.Au==1)
  · cases h2:(c.Au==2)
    · cases h3:(c.Au==3)
      · rw[h1,h2,h3] at h;cases h
      · rw[h1,h2,h3] at h
        simp only[cond_true,cond_false,jf,beq_iff_eq] at h;omega
    · rw[h1,h2] at h
      simp only[cond_true,cond_false,jf,beq_iff_eq] at h;omega
  · rw[h1] at h
    simp only[cond_true,jf,beq_iff_eq] at h;omega
theorem qrg {m:Nat}(a:2≤m)(b:m≤5):shlS 1 (W64 ((m:Int)-1))=V ((2 ^ (m-1):Nat):Int)∧shlS 1 (IntKind.wrap .u64 (W64 ((m:Int)-1)))=V ((2 ^ (m-1):Nat):Int):=by
  have:m=2∨m=3∨m=4∨m=5:=by omega
  rcases this with rfl|rfl|rfl|rfl<;>exact⟨by decide,by decide⟩
theorem qq3 {c:qG}(b:qmi c)(k:2≤c.Ay.length)(g:c.Ay.length≤5):Ev (fun n=>qfP n c) (kindB c):=by
  have l:=b.Ay.len;have i:Ev (fun n=>qbi c n 0 0) (((clkN c.Ay c.Ay.length:Nat):Int),(c.Ay.length:Int)):=by
    refine loopF (Lf:=qbi c) (S:=fun j=>((clkN c.Ay j:Nat):Int)) (len:=c.Ay.length) (fun n=>?_) (fun j h X d=>?_)
    · simp only[qbi,qt (je _),cond_false]
    · have m:clkN c.Ay j≤j:=qf2
      simp only[qbi,qr h,cond_true,qy h,jd,wS j,qhh (show clkN c.Ay j<9223372036854775807 by omega)];have f:clkN c.Ay (j+1)=clkN c.Ay j+(bif (gt c.Ay j).Bo then 1 else 0):=rfl;rw[f] at d;cases b:(gt c.Ay j).Bo
      · rw[b] at d;exact Ev.ff Z d
      · rw[b] at d;exact Ev.tt Z d
  unfold qfP kindB;refine Ev.bind i ?_;simp only[qex,qcz,jd,(qrg k g).1];have a:=b.Aq.len;refine Ev.iff (fun _=>?_) (fun _=>Ev.iff (fun _=>?_) (fun _=>Ev.iff (fun _=>?_) (fun _=>.done)))
  · exact Ev.andP fun _=>Ev.andP fun _=>Ev.last (qeb b.Bn.len)
  · exact Ev.andP fun _=>Ev.andP fun _=>Ev.bind (qnV a) (Ev.andP fun _=>Ev.bind (qnV a) (Ev.bind (qnV a) .done))
  · exact Ev.andP fun _=>Ev.andP fun _=>Ev.and (qnV a) fun _=>Ev.and (qnV a) fun _=>Ev.bind (qnV a) .done
def cellB (c:qG):Bool:=
  nameB c.Ba&&(pinsB c.Ay&&((allN (fun j=>arcI c.Ay (gt c.Aq j)&&newArc c.Aq j) c.Aq.length&&decide (c.Aq.length≤8))&&(inI c.Bw 0 100000&&(inI c.Bt 0 100000&&kindB c))))
theorem qsB {c:qG}(a:qmi c):Ev (fun n=>qj3 n c) (cellB c):=by
  simp only[qj3,qnA a.Ba,qdH,jd];unfold cellB;refine Ev.andP fun _=>Ev.and (qrL a.Ay) fun f=>?_;obtain⟨⟨d,b⟩,_⟩:=qgy f;exact Ev.and (qrm a.Ay a.Aq d) fun _=>Ev.andP fun _=>Ev.andP fun _=>Ev.last (qq3 a d b)
theorem qrK {c:qG}(d:qmi c):Ev (fun n=>qj8 n c) (cellB c):=by
  have p:=d.Aq.len;have r:=d.Bn.len;have e:cellB c=((pinsB c.Ay&&(nameB c.Ba&&(decide (c.Aq.length≤8)&&(inI c.Bw 0 100000&&inI c.Bt 0 100000))))&&(allN (fun j=>arcS c.Ay (gt c.Aq j)&&newArc c.Aq j) c.Aq.length&&kindB c)):=by
    unfold cellB;cases l:kindB c
    · simp
    · cases hp:pinsB c.Ay
      · simp
      · rw[qhw (fun j _=>by rw[qtQ hp (qpC l)])]
        cases nameB c.Ba<;>cases allN (fun j=>arcS c.Ay (gt c.Aq j)&&newArc c.Aq j) c.Aq.length<;>cases decide (c.Aq.length≤8)<;>cases inI c.Bw 0 100000<;>cases inI c.Bt 0 100000<;>rfl
  rw[e];unfold qj8;refine Ev.bind (qrI d.Ay) ?_;cases hp:pinsB c.Ay
  · exact .done
  · obtain⟨⟨o,m⟩,_⟩:=qgy hp
    simp only[cond_true,jB,Jg,cond_false];refine Ev.guardB ?_ (fun _=>?_)
    · simp only[qcQ,jd,qde]
      refine Ev.orB (qle d.Ba) fun _=>?_;rw[show decide ((c.Aq.length:Int) > 8) = !decide (c.Aq.length≤8) by rw[jk];simp;omega,qde];exact Ev.orBP fun _=>Ev.orBP fun _=>.done
    · have g:∀ j,j<c.Aq.length→Ev (fun n=>qdF c (j:Int) (gt c.Aq j) n 0) (bif newArc c.Aq j then .nxt (j:Int) else .ret false):=by
        intro j a;refine qed ?_ (fun i hi X b=>Ev.succ ?_)
        · exact Ev.succ (by simp only[qdF,qt (je _),cond_false];exact .done)
        · simp only[qdF,qr hi,cond_true,qy (show i<c.Aq.length by omega),jd,wS i]
          unfold sameArc;cases ((gt c.Aq i).Au==(gt c.Aq j).Au)
          · exact b
          · cases ((gt c.Aq i).Bd==(gt c.Aq j).Bd)
            · exact b
            · cases ((gt c.Aq i).To==(gt c.Aq j).To)
              · exact b
              · exact .done
      have f:Ev (fun n=>qfx c n 0) (bif allN (fun j=>arcS c.Ay (gt c.Aq j)&&newArc c.Aq j) c.Aq.length then .nxt (c.Aq.length:Int) else .ret false):=by
        refine qed ?_ (fun j a X b=>Ev.succ ?_)
        · exact Ev.succ (by simp only[qfx,qt (je _),cond_false];exact .done)
        · simp only[qfx,qr a,cond_true,qy a,jd,wS j]
          refine Ev.chk (qsI d.Ay (qlV d.Aq a) o) fun _=>Ev.bind (g j a) ?_;cases newArc c.Aq j
          · exact .done
          · exact b
      have h:Ev (fun n=>qfN c n 0) (bif (c.Bn.all fun x=>inI x 0 1) then .nxt (c.Bn.length:Int) else .ret false):=
        qm1 (fun n=>by simp only[qfN,qt (je _),cond_false]) (fun j a X b=>by
          simp only[qfN,qr a,cond_true,qa2 a,jd,qcQ,wS j,qde];exact Ev.okP1 fun _=>b)
      refine Ev.bind f ?_;cases hA:allN (fun j=>arcS c.Ay (gt c.Aq j)&&newArc c.Aq j) c.Aq.length
      · exact .done
      · have l:∀ j,j<c.Aq.length→1≤(gt c.Aq j).Au∧(gt c.Aq j).Au≤5:=fun j a=>by
          have:=qai.1 hA j a;rw[jf] at this;exact qpr this.1
        simp only[cond_true,jB];refine Ev.bind (qqM d.Aq l) ?_;simp only[(qrg o m).2,jd,
          show idx (vecC (fun k=>kindN c.Aq k c.Aq.length) 6) (1:Int)=V ((kindN c.Aq 1 c.Aq.length:Nat):Int) from qjE (k:=1) (by omega),
          show idx (vecC (fun k=>kindN c.Aq k c.Aq.length) 6) (2:Int)=V ((kindN c.Aq 2 c.Aq.length:Nat):Int) from qjE (k:=2) (by omega),
          show idx (vecC (fun k=>kindN c.Aq k c.Aq.length) 6) (3:Int)=V ((kindN c.Aq 3 c.Aq.length:Nat):Int) from qjE (k:=3) (by omega),qpF,qrB]
        unfold kindB;refine Ev.iff (fun _=>?_) (fun _=>Ev.iff (fun _=>?_) (fun _=>Ev.iff (fun _=>?_) (fun _=>.done)))
        · refine Ev.bind h ?_
          cases (c.Bn.all fun x=>inI x 0 1)
          · exact Ev.now (by simp)
          · exact(Ev.andP (fun _=>.done)).cast (by rw[Bool.and_true])
        · refine(Ev.andP fun _=>Ev.andP fun _=>Ev.andP fun _=>.done).cast ?_
          cases (((clkN c.Ay c.Ay.length:Nat):Int)==1)<;>cases ((c.Bn.length:Int)==0)<;>cases hasB c.Aq ((1:Nat):Int)<;>cases hasB c.Aq ((2:Nat):Int)<;>cases hasB c.Aq ((3:Nat):Int)<;>rfl
        · refine(Ev.andP fun _=>Ev.andP fun _=>Ev.andP fun _=>Ev.andP fun _=>.done).cast ?_
          cases (((clkN c.Ay c.Ay.length:Nat):Int)==1)<;>cases ((c.Bn.length:Int)==0)<;>cases hasB c.Aq ((1:Nat):Int)<;>cases hasB c.Aq ((2:Nat):Int)<;>cases hasB c.Aq ((3:Nat):Int)<;>rfl
def libB (l:qz):Bool:=l.Ap.all cellB&&(decide (l.Ap.length≤8)&&namesB (l.Ap.map qG.Ba))
theorem qp5 {l:qz}(h:qgH l):Ev (fun n=>qig n l) (libB l):=by
  have d:=h.Ap.len;have b:Ev (fun n=>qcL l n ([]:List ByteArray) 0) (bif allN (fun j=>cellB (gt l.Ap j)) l.Ap.length then .nxt (l.Ap.map qG.Ba,(l.Ap.length:Int)) else .ret false):=by
    refine loopN (Lf:=qcL l) (S:=fun j=>(l.Ap.take j).map qG.Ba) (fun j=>cellB (gt l.Ap j)) (fun n=>?_) (fun j a i X c=>?_)
    · simp only[qcL,qt (je _),cond_false,jJ]
    · simp only[qcL,qr a,cond_true,qy a,jd,qkN a d,qf4 (g:=qG.Ba) a,wS j]
      exact Ev.chk1 (qsB (qlV h.Ap a)) c
  unfold qig libB;rw[qhP];refine Ev.bind b ?_;cases allN (fun j=>cellB (gt l.Ap j)) l.Ap.length
  · exact .done
  · simp only[cond_true,jB,show decide ((l.Ap.length:Int)≤8)=decide (l.Ap.length≤8) from qmb (k:=8)]
    exact Ev.andP fun _=>Ev.last (qiS (qmc h.Ap (fun x f=>f.Ba)))

theorem qrk {c:qG}(h:cellB c=true):nameB c.Ba=true:=by
 unfold cellB at h;rw[jf] at h;exact h.1
theorem qis {c:qG}(h:cellB c=true):pinsB c.Ay=true:=by
 unfold cellB at h;simp only[jf] at h;exact h.2.1
theorem qpl {l:qz}(h:qgH l):Ev (fun n=>qhT n l) (libB l):=by
 have f:=h.Ap.len;have c:∀ j,j<l.Ap.length→Ev (fun n=>qdL l (j:Int) n 0) (bif allN (neB (l.Ap.map qG.Ba) j) j then .nxt (j:Int) else .ret false):=by
  intro j a;refine qed ?_ (fun i hi X d=>Ev.succ ?_)
  ·exact Ev.succ (by simp only[qdL,qt (je _),cond_false];exact .done)
  ·simp only[qdL,qr hi,cond_true,qy (show i<l.Ap.length by omega),qy a,jd,qhd,wS i];unfold neB;rw[qjp (g:=qG.Ba) (show i<l.Ap.length by omega),qjp (g:=qG.Ba) a];exact Ev.chkP1 (fun _=>d)
 have b:Ev (fun n=>qdO l n 0) (bif allN (fun j=>cellB (gt l.Ap j)&&allN (neB (l.Ap.map qG.Ba) j) j) l.Ap.length then .nxt (l.Ap.length:Int) else .ret false):=by
  refine qed ?_ (fun j a X d=>Ev.succ ?_)
  ·exact Ev.succ (by simp only[qdO,qt (je _),cond_false];exact .done)
  ·simp only[qdO,qr a,cond_true,qy a,jd,wS j];refine Ev.chk (qrK (qlV h.Ap a)) fun _=>Ev.bind (c j a) ?_;cases allN (neB (l.Ap.map qG.Ba) j) j
   ·exact .done
   ·exact d
 have e:libB l=(allN (fun j=>cellB (gt l.Ap j)&&allN (neB (l.Ap.map qG.Ba) j) j) l.Ap.length&&decide (l.Ap.length≤8)):=by
  unfold libB namesB;rw[qhP,jv,Bool.and_comm (decide (l.Ap.length≤8)),←Bool.and_assoc,←qkC]
  congr 1
  refine qhw (fun j a=>?_);rw[qjp (g:=qG.Ba) a];cases hc:cellB (gt l.Ap j)
  ·rfl
  ·rw[qrk hc];rfl
 rw[e];unfold qhT;refine Ev.bind b ?_;cases allN (fun j=>cellB (gt l.Ap j)&&allN (neB (l.Ap.map qG.Ba) j) j) l.Ap.length
 ·exact .done
 ·refine Ev.now ?_;show V (decide ((l.Ap.length:Int)≤((8:Nat):Int)))=V (true&&decide (l.Ap.length≤8));rw[qmb,jB]
theorem qky {c c':Nat→Nat}{m:Nat}{x:Int}(b:0≤x)(h:x<m)(d:c x.toNat<9223372036854775807)(f:∀ k,k<m→c' k=c k+(bif x==(k:Int) then 1 else 0)) :
  idx (vecC c m) x=V (c x.toNat:Int)∧setS (vecC c m) x (W64 ((c x.toNat:Int)+1))=vecC c' m:=by
 have ex:x=(x.toNat:Int):=qfm b;have e1:=qjE (c:=c) (m:=m) (k:=x.toNat) (by omega);have a:=qpI (c:=c) (m:=m) (k:=x.toNat) d;rw[←ex] at e1 a;refine⟨e1,a.trans (qjH (fun k g=>?_))⟩;rw[f k g]
 congr 2
 rw[jk];simp;omega
def netB (d:qi)(x:Int):Bool:=inI x 0 ((d.Aj.length:Int)-1)
theorem qre {n:Nat}{d:qi}{x:Int}(a:d.Aj.length≤1048576):qdM n d x=V (netB d x):=by
 simp only[qdM,qhA,jd,qdH,qfb (show d.Aj.length≤9223372036854775807 by omega)];rfl
theorem qpv {n:Nat}{d:qi}{x:Int}(a:d.Aj.length≤1048576):qaE n x 0 (W64 ((d.Aj.length:Int)-1))=V (netB d x):=by
 rw[qcQ,qfb (show d.Aj.length≤9223372036854775807 by omega)];rfl
def hasNamesB (d:qi):Bool:=(decide (d.Ab.length≤14)&&(decide (d.Aj.length≤30)&&decide (d.Ah.length≤8)))&&(namesB (d.Ab.map qF.Ba)&&(namesB d.Aj&&namesB (d.Ah.map qau.Ba)))
theorem qqN {d:qi}(h:qjm d):Ev (fun n=>qe5 n d) (hasNamesB d):=by
 have i:=h.Ab.len;have l:=h.Ah.len;have b:Ev (fun n=>qbv d n ([]:List ByteArray) 0) (d.Ab.map qF.Ba,(d.Ab.length:Int)):=by
  refine loopF (Lf:=qbv d) (S:=fun j=>(d.Ab.take j).map qF.Ba) (len:=d.Ab.length) (fun n=>?_) (fun j a X f=>?_)
  ·simp only[qbv,qt (je _),cond_false,jJ]
  ·simpa only[qbv,qr a,cond_true,qy a,jd,qkN a i,qf4 (g:=qF.Ba) a,wS j] using f
 have c:Ev (fun n=>qbq d n ([]:List ByteArray) 0) (d.Ah.map qau.Ba,(d.Ah.length:Int)):=by
  refine loopF (Lf:=qbq d) (S:=fun j=>(d.Ah.take j).map qau.Ba) (len:=d.Ah.length) (fun n=>?_) (fun j a X f=>?_)
  ·simp only[qbq,qt (je _),cond_false,jJ]
  ·simpa only[qbq,qr a,cond_true,qy a,jd,qkN a l,qf4 (g:=qau.Ba) a,wS j] using f
 unfold qe5 hasNamesB;refine Ev.bind b (Ev.bind c ?_);simp only[jv];rw[show decide ((d.Ab.length:Int)≤14)=decide (d.Ab.length≤14) from qmb (k:=14),show decide ((d.Aj.length:Int)≤30)=decide (d.Aj.length≤30) from qmb (k:=30),show decide ((d.Ah.length:Int)≤8)=decide (d.Ah.length≤8) from qmb (k:=8)];rw[Bool.and_assoc,Bool.and_assoc];exact Ev.andP fun _=>Ev.andP fun _=>Ev.andP fun _=>Ev.and (qiS (qmc h.Ab (fun x m=>m.Ba))) fun _=>Ev.and (qiS h.Aj) fun _=>Ev.last (qiS (qmc h.Ah (fun x m=>m.Ba)))
def instB (l:qz)(d:qi)(x:qF):Bool:=inI x.Bp 0 ((l.Ap.length:Int)-1)&&(((x.Aj.length:Int)==((gt l.Ap x.Bp.toNat).Ay.length:Int))&&x.Aj.all (netB d))
theorem qph {d:qi}{l:qz}{x:qF}(g:d.Aj.length≤1048576)(h:l.Ap.length≤1048576)(a:x.Aj.length≤1048576):Ev (fun n=>qd8 n d l x) (instB l d x):=by
 simp only[qd8,qgg,jd,qdH,qfb (show l.Ap.length≤9223372036854775807 by omega)];unfold instB;refine Ev.andP fun c=>?_;rw[qa5] at c;rw[qfw c.1 (by omega)];simp only[jd];refine Ev.andP fun _=>Ev.bind (b:=x.Aj.any fun y=>!netB d y) ?_ (Ev.now (by rw[qow]));unfold qaV;exact Ev.bind (b:=ixL (fun y=>!netB d y) x.Aj) (qf8 (fin:=(x.Aj.length:Int)) (Lf:=qS x.Aj d) (pf:=fun n y=>qdx n y d) (fun y _=>⟨0,fun n _=>by simp only[qdx,qre g,jd]⟩)
   (fun n=>by simp only[qS,qt (je _),cond_false])
   (fun n j y a=>by
    have f:=(List.getElem?_eq_some_iff.1 a).1;simp only[qS,qr f,cond_true,qg5 a,jd,wS j])
   (fun n=>by unfold qa9;congr 1;funext o;cases o<;>rfl)) (Ev.now (by rw[qmP]))
def portB (d:qi)(p:qau):Bool:=inI p.Bs 1 2&&netB d p.Bv
theorem qvB {x:Int}:inI x 1 2=((x==1) || (x==2)):=by
 unfold inI;rw[jk];simp;omega
def lastN (x:qF):Int:=at0 x.Aj (x.Aj.length-1)
theorem qq9 {x:qF}(a:1≤x.Aj.length)(b:x.Aj.length≤1048576):idx x.Aj (W64 ((x.Aj.length:Int)-1))=V (lastN x):=by
 rw[qfb (by omega),show((x.Aj.length:Int)-1)=((x.Aj.length-1:Nat):Int) by omega,qar (by omega)];rfl
theorem qsF {d:qi}{x:qF}(a:1≤x.Aj.length)(h:x.Aj.all (netB d)=true):0≤lastN x∧lastN x<d.Aj.length:=by
 rw[qgI (d:=0),qai] at h;have:=h (x.Aj.length-1) (by omega);unfold netB at this;rw[qa5] at this;unfold lastN at0;omega
theorem qoR {l:qz}{d:qi}{x:qF}(a:libB l=true)(h:instB l d x=true):1≤x.Aj.length∧0≤lastN x∧lastN x<d.Aj.length:=by
 unfold instB at h;simp only[jf,qa5,beq_iff_eq] at h;obtain⟨g,i,f⟩:=h;unfold libB at a;simp only[jf] at a;have c:=a.1;rw[qhP,qai] at c;have:=qgy (qis (c x.Bp.toNat (by omega)));have b:1≤x.Aj.length:=by omega
 exact⟨b,qsF b f⟩
def drvI (d:qi)(k j:Nat):Nat:=cntP (fun i=>lastN (gt d.Ab i)==(k:Int)) j
def drvP (d:qi)(k j:Nat):Nat:=cntP (fun i=>((gt d.Ah i).Bs==1)&&((gt d.Ah i).Bv==(k:Int))) j
def drvB (d:qi):Bool:=allN (fun k=>((drvI d k d.Ab.length+drvP d k d.Ah.length:Nat):Int)==1) d.Aj.length
def designB (l:qz)(d:qi):Bool:=(libB l&&hasNamesB d)&&(d.Ab.all (instB l d)&&(d.Ah.all (portB d)&&drvB d))
theorem qnY {d:qi}{k j:Nat}:drvI d k (j+1)=drvI d k j+(bif lastN (gt d.Ab j)==(k:Int) then 1 else 0):=rfl
theorem qmd {d:qi}{k j:Nat}:drvP d k (j+1)=drvP d k j+(bif ((gt d.Ah j).Bs==1)&&((gt d.Ah j).Bv==(k:Int)) then 1 else 0):=rfl
theorem qq6 {l:qz}{d:qi}(h:qgH l)(g:qjm d):Ev (fun n=>qiA n l d) (designB l d):=by
 have I:=g.Ab.len;have J:=g.Ah.len;have i:=g.Aj.len;have v:=h.Ap.len;unfold qiA designB;refine Ev.guardB (Ev.or (qp5 h) fun _=>Ev.neg (qqN g)) fun z=>?_;rw[jf] at z;rw[qmj (m:=d.Aj.length) (by omega)];simp only[jd];have t:Ev (fun n=>qdl l d n (vecC (fun _=>0) d.Aj.length) 0) (bif allN (fun j=>instB l d (gt d.Ab j)) d.Ab.length then .nxt (vecC (fun k=>drvI d k d.Ab.length) d.Aj.length,(d.Ab.length:Int)) else .ret false):=by
  refine loopN (Lf:=qdl l d) (S:=fun j=>vecC (fun k=>drvI d k j) d.Aj.length) (fun j=>instB l d (gt d.Ab j)) (fun n=>?_) (fun j a K X f=>?_)
  ·simp only[qdl,qt (je _),cond_false]
  ·simp only[qdl,qr a,cond_true,qy a,jd,wS j];have p:=(qlV g.Ab a).Aj.len;refine Ev.chk1 (qph i v p) fun hi=>?_;obtain⟨r,B,C⟩:=qoR z.1 hi;have L:drvI d (lastN (gt d.Ab j)).toNat j≤j:=qf2;obtain⟨e1,s⟩:=qky (c:=fun k=>drvI d k j) (c':=fun k=>drvI d k (j+1)) B C (by show drvI _ _ _<_;omega) (fun k _=>qnY);simp only[qq9 r p,jd,e1,s];exact f hi
 have u:Ev (fun n=>qcC d n (vecC (fun k=>drvI d k d.Ab.length) d.Aj.length) 0) (bif allN (fun j=>portB d (gt d.Ah j)) d.Ah.length then .nxt (vecC (fun k=>drvI d k d.Ab.length+drvP d k d.Ah.length) d.Aj.length,(d.Ah.length:Int)) else .ret false):=by
  refine loopN (Lf:=qcC d) (S:=fun j=>vecC (fun k=>drvI d k d.Ab.length+drvP d k j) d.Aj.length) (fun j=>portB d (gt d.Ah j)) (fun n=>?_) (fun j a K X f=>?_)
  ·simp only[qcC,qt (je _),cond_false]
  ·simp only[qcC,qr a,cond_true,qy a,jd,qre i,bne,wS j];refine Ev.chkT1 ?_ fun hi=>?_
   ·unfold portB;rw[qvB];cases ((gt d.Ah j).Bs==1)<;>cases ((gt d.Ah j).Bs==2)<;>exact .done
   ·have f:=f hi;unfold portB netB at hi;simp only[jf,qa5] at hi;have D:drvI d (gt d.Ah j).Bv.toNat d.Ab.length≤d.Ab.length:=qf2;have F:drvP d (gt d.Ah j).Bv.toNat j≤j:=qf2;cases r:((gt d.Ah j).Bs==1)
    ·have:vecC (fun k=>drvI d k d.Ab.length+drvP d k (j+1)) d.Aj.length=vecC (fun k=>drvI d k d.Ab.length+drvP d k j) d.Aj.length:=by
      refine qjH (fun k _=>?_);rw[qmd,r];rfl
     rw[this] at f;exact f
    ·obtain⟨e1,s⟩:=qky (c:=fun k=>drvI d k d.Ab.length+drvP d k j) (c':=fun k=>drvI d k d.Ab.length+drvP d k (j+1)) (x:=(gt d.Ah j).Bv) (m:=d.Aj.length) hi.2.1 (by omega) (by show drvI _ _ _+drvP _ _ _<_;omega) (fun k _=>by rw[qmd,r,jB];omega);simp only[cond_true,jd,e1,s];exact f
 rw[qhP,qhP];refine Ev.bind t ?_;cases allN (fun j=>instB l d (gt d.Ab j)) d.Ab.length
 ·exact .done
 ·refine Ev.bind u ?_;cases allN (fun j=>portB d (gt d.Ah j)) d.Ah.length
  ·exact .done
  ·simp only[cond_true,jB];unfold qbW;refine Ev.bind (b:=(vecC (fun k=>drvI d k d.Ab.length+drvP d k d.Ah.length) d.Aj.length).any fun x=>!(x==1)) (Ev.bind (b:=ixL (fun x=>!(x==1)) (vecC (fun k=>drvI d k d.Ab.length+drvP d k d.Ah.length) d.Aj.length)) (qf8 (fin:=(((vecC (fun k=>drvI d k d.Ab.length+drvP d k d.Ah.length) d.Aj.length).length:Nat):Int)) (Lf:=qam (vecC (fun k=>drvI d k d.Ab.length+drvP d k d.Ah.length) d.Aj.length)) (pf:=fun n y=>qi6 n y) (fun y _=>.done)
    (fun n=>by simp only[qam,qt (je _),cond_false])
    (fun n j y A=>by
     have a:=(List.getElem?_eq_some_iff.1 A).1;have:j<d.Aj.length:=by rw[qlT] at a;exact a
     simp only[qam,qr a,cond_true,qg5 A,jd,wS j])
    (fun n=>by unfold qca;congr 1;funext o;cases o<;>rfl)) (Ev.now (by rw[qmP]))) (Ev.now ?_)
   rw[qow,qgI (d:=0),qlT];unfold drvB
   congr 1
   exact qhw (fun k H=>by
    have:=qqx (c:=fun k=>drvI d k d.Ab.length+drvP d k d.Ah.length) H;unfold at0 at this;rw[this])
theorem qqF {l:qz}{d:qi}(h:qgH l)(f:qjm d):Ev (fun n=>qiE n l d) (d.Ab.all (instB l d)&&d.Ah.all (portB d)):=by
 have r:=f.Ab.len;have s:=f.Ah.len;have c:=f.Aj.len;have p:=h.Ap.len;have i:∀ x:qF,x.Aj.length≤1048576→Ev (fun n=>qet d x n 0) (bif x.Aj.all (netB d) then .nxt (x.Aj.length:Int) else .ret false):=fun x t=>
  qm1 (fun n=>by simp only[qet,qt (je _),cond_false]) (fun j a X b=>by
   simp only[qet,qr a,cond_true,qa2 a,jd,qpv c,wS j,qde];exact Ev.okP1 fun _=>b)
 have g:Ev (fun n=>qev l d n 0) (bif allN (fun j=>instB l d (gt d.Ab j)) d.Ab.length then .nxt (d.Ab.length:Int) else .ret false):=by
  refine qed ?_ (fun j a X b=>Ev.succ ?_)
  ·exact Ev.succ (by simp only[qev,qt (je _),cond_false];exact .done)
  ·simp only[qev,qr a,cond_true,qy a,jd,qcQ,qfb (show l.Ap.length≤9223372036854775807 by omega),wS j,bne];have m:=(qlV f.Ab a).Aj.len;unfold instB;rw[←Bool.and_assoc];refine Ev.chkT ?_ fun _=>Ev.bind (i _ m) ?_
   ·simp only[qde];refine Ev.orBP fun o=>?_;rw[qa5] at o;rw[qfw o.1 (by omega)];exact .done
   ·cases (gt d.Ab j).Aj.all (netB d)
    ·exact .done
    ·exact b
 have k:Ev (fun n=>qeu d n 0) (bif allN (fun j=>portB d (gt d.Ah j)) d.Ah.length then .nxt (d.Ah.length:Int) else .ret false):=by
  refine qed ?_ (fun j a X b=>Ev.succ ?_)
  ·exact Ev.succ (by simp only[qeu,qt (je _),cond_false];exact .done)
  ·simp only[qeu,qr a,cond_true,qy a,jd,qpv c,wS j];simp only[qcQ,jd,qde];unfold portB;exact Ev.okP fun _=>Ev.okP1 fun _=>b
 unfold qiE;rw[qhP,qhP];refine Ev.bind g ?_;cases allN (fun j=>instB l d (gt d.Ab j)) d.Ab.length
 ·exact .done
 ·refine Ev.bind k ?_;cases allN (fun j=>portB d (gt d.Ah j)) d.Ah.length<;>exact .done
theorem qqu {l:qz}{d:qi}(h:qgH l)(i:qjm d):Ev (fun n=>qiD n l d) (designB l d):=by
 have J:=i.Ab.len;have K:=i.Ah.len;have W:=i.Aj.len;have T:=h.Ap.len;have e:designB l d=((libB l&&(decide (d.Ab.length≤14)&&(decide (d.Aj.length≤30)&&(decide (d.Ah.length≤8)&&(d.Ab.all (instB l d)&&d.Ah.all (portB d))))))&&((namesB (d.Ab.map qF.Ba)&&(namesB (d.Ah.map qau.Ba)&&namesB d.Aj))&&drvB d)):=by
  unfold designB hasNamesB;generalize libB l=a1;generalize decide (d.Ab.length≤14)=a2;generalize decide (d.Aj.length≤30)=a3;generalize decide (d.Ah.length≤8)=a4;generalize d.Ab.all (instB l d)=a5;generalize d.Ah.all (portB d)=a6;generalize namesB (d.Ab.map qF.Ba)=a7;generalize namesB (d.Ah.map qau.Ba)=a8;generalize namesB d.Aj=a9;generalize drvB d=a10;rw[jk];simp only[jf];constructor
  ·rintro⟨⟨f,⟨p,r,u⟩,z,B,A⟩,v,y,o⟩;exact⟨⟨f,p,r,u,v,y⟩,⟨z,A,B⟩,o⟩
  ·rintro⟨⟨f,p,r,u,v,y⟩,⟨z,A,B⟩,o⟩;exact⟨⟨f,⟨p,r,u⟩,z,B,A⟩,v,y,o⟩
 rw[e];unfold qiD;refine Ev.guardB ?_ fun P=>?_
 ·refine Ev.or (qpl h) fun _=>?_;rw[show decide ((d.Ab.length:Int) > 14) = !decide (d.Ab.length≤14) by rw[jk];simp;omega,show decide ((d.Aj.length:Int) > 30) = !decide (d.Aj.length≤30) by rw[jk];simp;omega,show decide ((d.Ah.length:Int) > 8) = !decide (d.Ah.length≤8) by rw[jk];simp;omega];simp only[qde];exact Ev.orBP fun _=>Ev.orBP fun _=>Ev.orBP fun _=>Ev.neg (qqF h i)
 ·simp only[jf] at P;obtain⟨s,_,_,_,N,O⟩:=P;rw[qhP,qai] at N O;have C:Ev (fun n=>qdp d n ([]:List ByteArray) 0) (d.Ab.map qF.Ba,(d.Ab.length:Int)):=by
   refine loopF (Lf:=qdp d) (S:=fun j=>(d.Ab.take j).map qF.Ba) (len:=d.Ab.length) (fun n=>?_) (fun j a X b=>?_)
   ·simp only[qdp,qt (je _),cond_false,jJ]
   ·simpa only[qdp,qr a,cond_true,qy a,jd,qkN a J,qf4 (g:=qF.Ba) a,wS j] using b
  have D:Ev (fun n=>qdk d n ([]:List ByteArray) 0) (d.Ah.map qau.Ba,(d.Ah.length:Int)):=by
   refine loopF (Lf:=qdk d) (S:=fun j=>(d.Ah.take j).map qau.Ba) (len:=d.Ah.length) (fun n=>?_) (fun j a X b=>?_)
   ·simp only[qdk,qt (je _),cond_false,jJ]
   ·simpa only[qdk,qr a,cond_true,qy a,jd,qkN a K,qf4 (g:=qau.Ba) a,wS j] using b
  have F:Ev (fun n=>qdu d n (vecC (fun _=>0) d.Aj.length) 0) (vecC (fun k=>drvI d k d.Ab.length) d.Aj.length,(d.Ab.length:Int)):=by
   refine loopF (Lf:=qdu d) (S:=fun j=>vecC (fun k=>drvI d k j) d.Aj.length) (len:=d.Ab.length) (fun n=>?_) (fun j a X b=>?_)
   ·simp only[qdu,qt (je _),cond_false]
   ·have M:=(qlV i.Ab a).Aj.len;obtain⟨f,p,r⟩:=qoR s (N j a);have Y:drvI d (lastN (gt d.Ab j)).toNat j≤j:=qf2;obtain⟨e1,t⟩:=qky (c:=fun k=>drvI d k j) (c':=fun k=>drvI d k (j+1)) p r (by show drvI _ _ _<_;omega) (fun k _=>qnY);simpa only[qdu,qr a,cond_true,qy a,jd,wS j,qq9 f M,e1,t] using b
  have H:Ev (fun n=>qcu d n (vecC (fun k=>drvI d k d.Ab.length) d.Aj.length) 0) (vecC (fun k=>drvI d k d.Ab.length+drvP d k d.Ah.length) d.Aj.length,(d.Ah.length:Int)):=by
   refine loopF (Lf:=qcu d) (S:=fun j=>vecC (fun k=>drvI d k d.Ab.length+drvP d k j) d.Aj.length) (len:=d.Ah.length) (fun n=>?_) (fun j a X b=>?_)
   ·simp only[qcu,qt (je _),cond_false]
   ·have hi:=O j a;unfold portB netB at hi;simp only[jf,qa5] at hi;have Q:drvI d (gt d.Ah j).Bv.toNat d.Ab.length≤d.Ab.length:=qf2;have R:drvP d (gt d.Ah j).Bv.toNat j≤j:=qf2;simp only[qcu,qr a,cond_true,qy a,jd,wS j];cases f:((gt d.Ah j).Bs==1)
    ·have:vecC (fun k=>drvI d k d.Ab.length+drvP d k (j+1)) d.Aj.length=vecC (fun k=>drvI d k d.Ab.length+drvP d k j) d.Aj.length:=by
      refine qjH (fun k _=>?_);rw[qmd,f];rfl
     rw[this] at b;exact b
    ·obtain⟨e1,t⟩:=qky (c:=fun k=>drvI d k d.Ab.length+drvP d k j) (c':=fun k=>drvI d k d.Ab.length+drvP d k (j+1)) (x:=(gt d.Ah j).Bv) (m:=d.Aj.length) hi.2.1 (by omega) (by show drvI _ _ _+drvP _ _ _<_;omega) (fun k _=>by rw[qmd,f,jB];omega);simp only[cond_true,jd,e1,t];exact b
  have I:Ev (fun n=>qew (vecC (fun _=>0) d.Aj.length) (vecC (fun k=>drvI d k d.Ab.length+drvP d k d.Ah.length) d.Aj.length) n 0) (bif drvB d then .nxt (d.Aj.length:Int) else .ret false):=by
   refine qed ?_ (fun j a X b=>Ev.succ ?_)
   ·exact Ev.succ (by simp only[qew,qlT,qt (je _),cond_false];exact .done)
   ·simp only[qew,qlT,qr a,cond_true,qjE a,jd,bne,qde,wS j];exact Ev.okP1 fun _=>b
  refine Ev.bind C (Ev.bind D ?_);refine Ev.guardB (Ev.or (qly (qmc i.Ab (fun x L=>L.Ba))) fun _=>Ev.or (qly (qmc i.Ah (fun x L=>L.Ba))) fun _=>Ev.neg (qly i.Aj)) fun _=>?_;rw[qmj (m:=d.Aj.length) (by omega)];simp only[jd];refine Ev.bind F (Ev.bind H (Ev.bind I ?_));cases drvB d<;>exact .done

theorem qui {m k:Nat}:decide ((m:Int)<(k:Int)) = !decide (k≤m):=by rw[jk];simp
theorem quK {m k:Nat}:decide ((m:Int) > (k:Int)) = !decide (m≤k):=by rw[jk];simp
def treeB (w:qad)(j:Nat):Bool:=bif decide (j=0) then(at0 w.Ai j==-1)&&(at0 w.Bq j==0) else inI (at0 w.Ai j) 0 ((j:Int)-1)
def wireB (w:qad)(s:Int):Bool:=
 lenB w.Ai 1 8&&(((w.Bq.length:Int)==(w.Ai.length:Int))&&(((w.Bl.length:Int)==(w.Ai.length:Int))&&(allN (treeB w) w.Ai.length &&
  ((w.Bq.all fun x=>inI x 0 1000)&&((w.Bl.all fun x=>inI x 0 500)&&(((w.Bb.length:Int)==s)&&(w.Bb.all fun x=>inI x 0 ((w.Ai.length:Int)-1))))))))
theorem qsV {w:qad}(i:w.Ai.length≤1048576)(h:((w.Bq.length:Int)==(w.Ai.length:Int))=true):Ev (fun n=>qgJ n w) (allN (treeB w) w.Ai.length):=by
 rw[beq_iff_eq] at h;have g:Ev (fun n=>qbk w n 0) (bif allN (treeB w) w.Ai.length then .nxt (w.Ai.length:Int) else .ret false):=by
  refine qed ?_ (fun j b X a=>Ev.succ ?_)
  ·exact Ev.succ (by simp only[qbk,qt (je _),cond_false];exact .done)
  ·simp only[qbk,qr b,cond_true,qar b,jd,qdH,wS j,bne,qde];unfold treeB;by_cases f:j=0
   ·subst f;rw[show idx w.Bq (0:Int)=V (at0 w.Bq 0) from qar (j:=0) (by omega)];simp only[jd];refine Ev.tt (by simp) (Ev.okP fun _=>Ev.okP1 fun _=>Ev.ff (by simp) a)
   ·have e1:decide (j=0)=false:=by simp;omega
    have c:((j:Int)==0)=false:=by simp;omega
    have d:decide ((j:Int) > 0)=true:=by simp;omega
    rw[e1,c,d,qfb (show j≤9223372036854775807 by omega)];simp only[cond_false,cond_true];exact Ev.okP1 fun _=>a
 unfold qgJ;refine Ev.bind g ?_;cases allN (treeB w) w.Ai.length<;>exact .done
theorem qs1 {w:qad}{s:Int}(h:qm6 w):Ev (fun n=>qjT n w s) (wireB w s):=by
 have a:=h.Ai.len;simp only[qjT,qbx,jd,qdH,qfb (show w.Ai.length≤9223372036854775807 by omega)];unfold wireB;rw[show inI (w.Ai.length:Int) 1 8=lenB w.Ai 1 8 from qqj (lo:=1) (hi:=8)];exact Ev.andP fun _=>Ev.andP fun b=>Ev.andP fun _=>Ev.and (qsV a b) fun _=>Ev.and (qeb h.Bq.len) fun _=>Ev.and (qeb h.Bl.len) fun _=>Ev.andP fun _=>Ev.last (qeb h.Bb.len)
theorem qrO {w:qad}{s:Int}(h:qm6 w):Ev (fun n=>qjY n w s) (wireB w s):=by
 have r:=h.Ai.len;have o:=h.Bb.len;have e:wireB w s=((decide (1≤w.Ai.length)&&(decide (w.Ai.length≤8)&&(((w.Bq.length:Int)==(w.Ai.length:Int))&&(((w.Bl.length:Int)==(w.Ai.length:Int))&&((w.Bb.length:Int)==s)))))&&(allN (fun j=>(inI (at0 w.Bl j) 0 500&&inI (at0 w.Bq j) 0 1000)&&treeB w j) w.Ai.length&&(w.Bb.all fun x=>inI x 0 ((w.Ai.length:Int)-1)))):=by
  unfold wireB lenB;cases h1:((w.Bq.length:Int)==(w.Ai.length:Int))
  ·simp
  ·cases h2:((w.Bl.length:Int)==(w.Ai.length:Int))
   ·simp
   ·rw[beq_iff_eq] at h1 h2;rw[qkC,qkC];rw[qgI (p:=fun x=>inI x 0 1000) (d:=0),qgI (p:=fun x=>inI x 0 500) (d:=0),show w.Bq.length=w.Ai.length by omega,show w.Bl.length=w.Ai.length by omega];show _=(_&&((allN (fun j=>inI (w.Bl.getD j 0) 0 500) _&&allN (fun j=>inI (w.Bq.getD j 0) 0 1000) _&&_)&&_));generalize allN (fun j=>inI (w.Bl.getD j 0) 0 500) w.Ai.length=a1;generalize allN (fun j=>inI (w.Bq.getD j 0) 0 1000) w.Ai.length=a2;generalize allN (fun j=>treeB w j) w.Ai.length=a3;generalize ((w.Bb.length:Int)==s)=a4;generalize decide (1≤w.Ai.length)=a5;generalize decide (w.Ai.length≤8)=a6;generalize (w.Bb.all fun x=>inI x 0 ((w.Ai.length:Int)-1))=a7;cases a1<;>cases a2<;>cases a3<;>cases a4<;>cases a5<;>cases a6<;>rfl
 rw[e];unfold qjY;refine Ev.guardB ?_ fun m=>?_
 ·rw[show decide ((w.Ai.length:Int)<1) = !decide (1≤w.Ai.length) from qui (k:=1),show decide ((w.Ai.length:Int) > 8) = !decide (w.Ai.length≤8) from quK (k:=8)];simp only[bne,qde];exact Ev.orBP fun _=>Ev.orBP fun _=>Ev.orBP fun _=>Ev.orBP fun _=>.done
 ·simp only[jf,beq_iff_eq] at m;have c:Ev (fun n=>qcP w n 0) (bif allN (fun j=>(inI (at0 w.Bl j) 0 500&&inI (at0 w.Bq j) 0 1000)&&treeB w j) w.Ai.length then .nxt (w.Ai.length:Int) else .ret false):=by
   refine qed ?_ (fun j a X b=>Ev.succ ?_)
   ·exact Ev.succ (by simp only[qcP,qt (je _),cond_false];exact .done)
   ·simp only[qcP,qr a,cond_true,qar a,qar (show j<w.Bl.length by omega),qar (show j<w.Bq.length by omega),jd,qcQ,wS j,bne,qde];refine Ev.chkT (Ev.orBP fun _=>.done) fun _=>?_;unfold treeB;by_cases l:j=0
    ·subst l;refine Ev.tt (by simp) (Ev.okP fun _=>Ev.okP1 fun _=>Ev.ff (by simp) b)
    ·have e1:decide (j=0)=false:=by simp;omega
     have g:((j:Int)==0)=false:=by simp;omega
     have i:decide ((j:Int) > 0)=true:=by simp;omega
     rw[e1,g,i,qfb (show j≤9223372036854775807 by omega)];simp only[cond_false,cond_true];exact Ev.okP1 fun _=>b
  have f:Ev (fun n=>qfG w n 0) (bif (w.Bb.all fun x=>inI x 0 ((w.Ai.length:Int)-1)) then .nxt (w.Bb.length:Int) else .ret false):=
   qm1 (fun n=>by simp only[qfG,qt (je _),cond_false]) (fun j a X b=>by
    simp only[qfG,qr a,cond_true,qa2 a,jd,qcQ,qfb (show w.Ai.length≤9223372036854775807 by omega),wS j,qde];exact Ev.okP1 fun _=>b)
  refine Ev.bind c ?_;cases allN (fun j=>(inI (at0 w.Bl j) 0 500&&inI (at0 w.Bq j) 0 1000)&&treeB w j) w.Ai.length
  ·exact .done
  ·refine Ev.bind f ?_;cases (w.Bb.all fun x=>inI x 0 ((w.Ai.length:Int)-1))<;>exact .done
instance:Inhabited Tplace:=⟨⟨0,0,0,false⟩⟩
instance:Inhabited Tl05Place:=⟨⟨0,0,0,false⟩⟩
def toSp (p:Tplace):Tl05Place:=⟨p.instance_,p.pin,p.net,p.drives⟩
def plX (i:Nat)(x:qF)(j:Nat):List Tplace:=(List.range j).map fun(k:Nat)=>⟨(i:Int),(k:Int),at0 x.Aj k,decide (k+1=x.Aj.length)⟩
def plI (d:qi)(j:Nat):List Tplace:=(List.range j).flatMap fun(i:Nat)=>plX i (gt d.Ab i) (gt d.Ab i).Aj.length
def plP (d:qi)(j:Nat):List Tplace:=(List.range j).map fun(i:Nat)=>⟨-1,(i:Int),(gt d.Ah i).Bv,(gt d.Ah i).Bs==1⟩
def places (d:qi):List Tplace:=plI d d.Ab.length++plP d d.Ah.length
theorem qq2 {i:Nat}{x:qF}{j:Nat}:plX i x (j+1)=plX i x j++[⟨(i:Int),(j:Int),at0 x.Aj j,decide (j+1=x.Aj.length)⟩]:=by
 unfold plX;rw[List.range_succ,jT];rfl
theorem qlP {d:qi}{j:Nat}:plI d (j+1)=plI d j++plX j (gt d.Ab j) (gt d.Ab j).Aj.length:=by
 unfold plI;rw[List.range_succ,List.flatMap_append];simp
theorem qqY {d:qi}{j:Nat}:plP d (j+1)=plP d j++[⟨-1,(j:Int),(gt d.Ah j).Bv,(gt d.Ah j).Bs==1⟩]:=by
 unfold plP;rw[List.range_succ,jT];rfl
theorem qou {i:Nat}{x:qF}{j:Nat}:(plX i x j).length=j:=by simp[plX]
theorem qoy {d:qi}{j:Nat}:(plP d j).length=j:=by simp[plP]
structure smallD (d:qi):Prop where
 ni:d.Ab.length≤14
 nn:d.Aj.length≤30
 np:d.Ah.length≤8
 nx:∀ i,i<d.Ab.length→2≤(gt d.Ab i).Aj.length∧(gt d.Ab i).Aj.length≤5
theorem qX {l:qz}{d:qi}(h:designB l d=true):smallD d:=by
 unfold designB hasNamesB libB at h;simp only[jf,decide_eq_true_eq] at h;obtain⟨⟨⟨b,_⟩,⟨c,f,g⟩,_⟩,a,_⟩:=h;refine⟨c,f,g,fun i hi=>?_⟩;rw[qhP,qai] at a b;have:=a i hi;unfold instB at this;simp only[jf,qa5,beq_iff_eq] at this;have k:=qgy (qis (b (gt d.Ab i).Bp.toNat (by omega)));omega
theorem qm0 {d:qi}(h:smallD d){j:Nat}(a:j≤d.Ab.length):(plI d j).length≤5*j:=by
 induction j with
 | zero=>exact je _
 | succ j ih=>
  rw[qlP,jg,qou];have:=ih (by omega);have:=h.nx j (by omega);omega
theorem qaQ {d:qi}(h:smallD d):(places d).length≤78:=by
 unfold places;rw[jg,qoy];have:=qm0 h (je _);have:=h.ni;have:=h.np;omega
theorem qme {d:qi}(h:smallD d):Ev (fun n=>qcp n d) (places d):=by
 have l:=h.ni;have m:=h.np;have f:∀ i,i<d.Ab.length→∀ pre:List Tplace,pre.length≤100→Ev (fun n=>qbU (i:Int) (gt d.Ab i) n pre 0) (pre++plX i (gt d.Ab i) (gt d.Ab i).Aj.length,((gt d.Ab i).Aj.length:Int)):=by
  intro i hi pre p;have o:=h.nx i hi;have:=loopF (Lf:=qbU (i:Int) (gt d.Ab i)) (S:=fun j=>pre++plX i (gt d.Ab i) j) (len:=(gt d.Ab i).Aj.length) (fin:=(pre++plX i (gt d.Ab i) (gt d.Ab i).Aj.length,((gt d.Ab i).Aj.length:Int))) (fun n=>by
    simp only[qbU,qt (je _),cond_false])
   (fun j a X b=>by
    have k:(pre++plX i (gt d.Ab i) j).length+[(⟨(i:Int),(j:Int),at0 (gt d.Ab i).Aj j,decide (j+1=(gt d.Ab i).Aj.length)⟩:Tplace)].length≤2147483648:=by
     rw[jg,qou];simp;omega
    simp only[qbU,qr a,cond_true,qar a,jd,lastE a (show(gt d.Ab i).Aj.length≤1048576 by omega),qcE k,jt,←qq2,wS j];exact b)
  simpa [plX] using this
 have c:Ev (fun n=>qbR d n ([]:List Tplace) 0) (plI d d.Ab.length,(d.Ab.length:Int)):=by
  refine loopF (Lf:=qbR d) (S:=fun j=>plI d j) (len:=d.Ab.length) (fun n=>?_) (fun j a X b=>?_)
  ·simp only[qbR,qt (je _),cond_false]
  ·simp only[qbR,qr a,cond_true,qy a,jd,wS j];refine Ev.bind (f j a _ (by have:=qm0 h (Nat.le_of_lt a);omega)) ?_;rw[←qlP];exact b
 have g:Ev (fun n=>qbT d n (plI d d.Ab.length) 0) (places d,(d.Ah.length:Int)):=by
  have:=loopF (Lf:=qbT d) (S:=fun j=>plI d d.Ab.length++plP d j) (len:=d.Ah.length) (fin:=(places d,(d.Ah.length:Int))) (fun n=>by
    simp only[qbT,qt (je _),cond_false];rfl)
   (fun j a X b=>by
    have k:(plI d d.Ab.length++plP d j).length+[(⟨-1,(j:Int),(gt d.Ah j).Bv,(gt d.Ah j).Bs==1⟩:Tplace)].length≤2147483648:=by
     rw[jg,qoy];have:=qm0 h (je _);simp;omega
    simp only[qbT,qr a,cond_true,qy a,jd,qcE k,jt,←qqY,wS j];exact b)
  simpa [plP] using this
 unfold qcp;exact Ev.bind c (Ev.bind g .done)
theorem qgx {d:qi}(h:smallD d):Ev (fun n=>qb1 n d) ((places d).map toSp):=by
 have l:=h.ni;have m:=h.np;have f:∀ i,i<d.Ab.length→∀ pre:List Tplace,pre.length≤100→Ev (fun n=>qcN (i:Int) (gt d.Ab i) n (pre.map toSp) 0) ((pre++plX i (gt d.Ab i) (gt d.Ab i).Aj.length).map toSp,((gt d.Ab i).Aj.length:Int)):=by
  intro i hi pre p;have o:=h.nx i hi;have:=loopF (Lf:=qcN (i:Int) (gt d.Ab i)) (S:=fun j=>(pre++plX i (gt d.Ab i) j).map toSp) (len:=(gt d.Ab i).Aj.length) (fin:=((pre++plX i (gt d.Ab i) (gt d.Ab i).Aj.length).map toSp,((gt d.Ab i).Aj.length:Int))) (fun n=>by
    simp only[qcN,qt (je _),cond_false])
   (fun j a X b=>by
    have k:((pre++plX i (gt d.Ab i) j).map toSp).length+[(⟨(i:Int),(j:Int),at0 (gt d.Ab i).Aj j,decide (j+1=(gt d.Ab i).Aj.length)⟩:Tl05Place)].length≤2147483648:=by
     rw[jv,jg,qou];simp;omega
    simp only[qcN,qr a,cond_true,qar a,jd,lastE a (show(gt d.Ab i).Aj.length≤1048576 by omega),qcE k,wS j];rw[qq2,←jt,jT] at b;exact b)
  simpa [plX] using this
 have c:Ev (fun n=>qcI d n ([]:List Tl05Place) 0) ((plI d d.Ab.length).map toSp,(d.Ab.length:Int)):=by
  refine loopF (Lf:=qcI d) (S:=fun j=>(plI d j).map toSp) (len:=d.Ab.length) (fun n=>?_) (fun j a X b=>?_)
  ·simp only[qcI,qt (je _),cond_false]
  ·simp only[qcI,qr a,cond_true,qy a,jd,wS j];refine Ev.bind (f j a _ (by have:=qm0 h (Nat.le_of_lt a);omega)) ?_;rw[←qlP];exact b
 have g:Ev (fun n=>qcM d n ((plI d d.Ab.length).map toSp) 0) ((places d).map toSp,(d.Ah.length:Int)):=by
  have:=loopF (Lf:=qcM d) (S:=fun j=>(plI d d.Ab.length++plP d j).map toSp) (len:=d.Ah.length) (fin:=((places d).map toSp,(d.Ah.length:Int))) (fun n=>by
    simp only[qcM,qt (je _),cond_false];rfl)
   (fun j a X b=>by
    have k:((plI d d.Ab.length++plP d j).map toSp).length+[(⟨-1,(j:Int),(gt d.Ah j).Bv,(gt d.Ah j).Bs==1⟩:Tl05Place)].length≤2147483648:=by
     rw[jv,jg,qoy];have:=qm0 h (je _);simp;omega
    simp only[qcM,qr a,cond_true,qy a,jd,qcE k,wS j];rw[qqY,←jt,jT] at b;exact b)
  simpa [plP] using this
 unfold qb1;exact Ev.bind c (Ev.bind g .done)
def snkQ (d:qi)(k:Int)(i:Nat):Bool:=((gt (places d) i).net==k)&&!(gt (places d) i).drives
def sinksL (d:qi)(k:Int)(j:Nat):List Int:=((List.range j).filter (snkQ d k)).map fun(i:Nat)=>(i:Int)
def snkN (d:qi)(k:Int):Nat:=cntP (snkQ d k) (places d).length
theorem qiW {d:qi}{k:Int}{j:Nat}:sinksL d k (j+1)=sinksL d k j++(bif snkQ d k j then[(j:Int)] else[]):=by
 unfold sinksL;rw[List.range_succ,List.filter_append,jT]
 congr 1
 cases h:snkQ d k j<;>simp[h]
theorem qix {d:qi}{k:Int}{j:Nat}:(sinksL d k j).length=cntP (snkQ d k) j:=by
 induction j with
 | zero=>rfl
 | succ j ih=>
  rw[qiW,jg,ih];show _=cntP (snkQ d k) j+_
  congr 1
  cases snkQ d k j<;>rfl
theorem qmF {α β:Type}[Inhabited α][Inhabited β]{xs:List α}{g:α→β}{j:Nat}(h:j<xs.length):gt (xs.map g) j=g (gt xs j):=by
 rw[qdz (by simpa using h),qdz h];simp
theorem qj9 {d:qi}{k:Int}(h:smallD d):Ev (fun n=>qfq n d k) (sinksL d k (places d).length):=by
 have l:=qaQ h;have g:Ev (fun n=>qcv k ((places d).map toSp) n ([]:List Int) 0) (sinksL d k (places d).length,((places d).length:Int)):=by
  refine loopF (Lf:=qcv k ((places d).map toSp)) (S:=fun j=>sinksL d k j) (len:=(places d).length) (fun n=>?_) (fun j f X a=>?_)
  ·simp only[qcv,jv,qt (je _),cond_false]
  ·have c:j<((places d).map toSp).length:=by simpa using f
   have i:(sinksL d k j).length+[(j:Int)].length≤2147483648:=by
    rw[qix];have:cntP (snkQ d k) j≤j:=qf2;simp;omega
   simp only[qcv,qr c,cond_true,qy c,qmF f,jd,wS j];rw[show ∀ p:Tplace,(toSp p).net=p.net from fun _=>rfl,show ∀ p:Tplace,(toSp p).drives=p.drives from fun _=>rfl];refine Ev.bind (b:=snkQ d k j) (Ev.andP fun _=>.done) ?_;rw[qiW] at a;cases hq:snkQ d k j
   ·rw[hq] at a;simp only[cond_false,Jc] at a ⊢;exact a
   ·rw[hq] at a;simp only[cond_true,qcE i,jd] at a ⊢;exact a
 unfold qfq;exact Ev.bind (qgx h) (Ev.bind g .done)
theorem qk5 {l:qz}{d:qi}(h:designB l d=true){i:Nat}(hi:i<(places d).length):0≤(gt (places d) i).net∧(gt (places d) i).net<d.Aj.length:=by
 unfold designB at h;simp only[jf] at h;obtain⟨_,f,g,_⟩:=h;rw[qhP,qai] at f g;have a:gt (places d) i ∈ places d:=by rw[qdz hi];exact jo hi
 generalize gt (places d) i=p at a;unfold places at a;rcases List.mem_append.1 a with a|a
 ·unfold plI at a;obtain⟨i,hi,a⟩:=List.mem_flatMap.1 a;unfold plX at a;obtain⟨k,m,rfl⟩:=List.mem_map.1 a;have:=f i (List.mem_range.1 hi);unfold instB at this;simp only[jf] at this;have b:=this.2.2;rw[qgI (d:=0),qai] at b;have c:=b k (List.mem_range.1 m);unfold netB at c;rw[qa5] at c;show 0≤at0 _ _∧at0 _ _<_;unfold at0;omega
 ·unfold plP at a;obtain⟨i,hi,rfl⟩:=List.mem_map.1 a;have:=g i (List.mem_range.1 hi);unfold portB netB at this;simp only[jf,qa5] at this;show 0≤(gt d.Ah i).Bv∧(gt d.Ah i).Bv<_;omega
def blockB (b:qe):Bool:=(designB b.Am b.Aa&&((b.Ac.length:Int)==(b.Aa.Aj.length:Int)))&&allN (fun j=>wireB (gt b.Ac j) (snkN b.Aa (j:Int))) b.Ac.length
theorem qmE {b:qe}(h:qha b):Ev (fun n=>qf0 n b) (blockB b):=by
 have r:=h.Ac.len;unfold qf0 blockB;refine Ev.guardB (Ev.or (qq6 h.Am h.Aa) fun _=>.done) fun l=>?_;rw[jf,beq_iff_eq] at l;obtain⟨o,y⟩:=l;have i:=qX o;have u:=qaQ i;have v:=i.nn;rw[qmj (m:=b.Ac.length) (by omega)];simp only[jd];have f:Ev (fun n=>qc1 (places b.Aa) n (vecC (fun _=>0) b.Ac.length) 0) (vecC (fun k=>snkN b.Aa (k:Int)) b.Ac.length,((places b.Aa).length:Int)):=by
  refine loopF (Lf:=qc1 (places b.Aa)) (S:=fun j=>vecC (fun k=>cntP (snkQ b.Aa (k:Int)) j) b.Ac.length) (len:=(places b.Aa).length) (fun n=>?_) (fun j a X d=>?_)
  ·simp only[qc1,qt (je _),cond_false];rfl
  ·simp only[qc1,qr a,cond_true,qy a,jd,wS j];obtain⟨s,n1⟩:=qk5 o a;cases h1:(gt (places b.Aa) j).drives
   ·have t:cntP (snkQ b.Aa (((gt (places b.Aa) j).net.toNat:Nat):Int)) j≤j:=qf2;obtain⟨e1,p⟩:=qky (c:=fun k=>cntP (snkQ b.Aa (k:Int)) j) (c':=fun k=>cntP (snkQ b.Aa (k:Int)) (j+1)) (x:=(gt (places b.Aa) j).net) (m:=b.Ac.length) s (by omega) (by show cntP _ _<_;omega) (fun k _=>by
     show cntP _ j+(bif snkQ b.Aa (k:Int) j then 1 else 0)=_;unfold snkQ;rw[h1,Bool.not_false,Bool.and_true])
    simp only[Bool.not_false,cond_true,jd,e1,p];exact d
   ·have:vecC (fun k=>cntP (snkQ b.Aa (k:Int)) (j+1)) b.Ac.length=vecC (fun k=>cntP (snkQ b.Aa (k:Int)) j) b.Ac.length:=by
     refine qjH (fun k _=>?_);show cntP _ j+(bif snkQ b.Aa (k:Int) j then 1 else 0)=_;unfold snkQ;rw[h1,Jg,Bool.and_false];rfl
    rw[this] at d;exact d
 have g:Ev (fun n=>qeV b (vecC (fun k=>snkN b.Aa (k:Int)) b.Ac.length) n 0) (bif allN (fun j=>wireB (gt b.Ac j) (snkN b.Aa (j:Int))) b.Ac.length then .nxt (b.Ac.length:Int) else .ret false):=by
  refine qed ?_ (fun j a X d=>Ev.succ ?_)
  ·exact Ev.succ (by simp only[qeV,qt (je _),cond_false];exact .done)
  ·simp only[qeV,qr a,cond_true,qy a,qjE a,jd,wS j];exact Ev.chk1 (qs1 (qlV h.Ac a)) fun _=>d
 refine Ev.bind (qme i) (Ev.bind f (Ev.bind g ?_));cases allN (fun j=>wireB (gt b.Ac j) (snkN b.Aa (j:Int))) b.Ac.length<;>exact .done
theorem qgu {b:qe}(h:qha b):Ev (fun n=>qcH n b) (blockB b):=by
 have i:=h.Ac.len;unfold qcH blockB;refine Ev.guardB (Ev.or (qqu h.Am h.Aa) fun _=>.done) fun c=>?_;rw[jf] at c;have g:=qX c.1;have d:Ev (fun n=>qeY b n 0) (bif allN (fun j=>wireB (gt b.Ac j) (snkN b.Aa (j:Int))) b.Ac.length then .nxt (b.Ac.length:Int) else .ret false):=by
  refine qed ?_ (fun j a X f=>Ev.succ ?_)
  ·exact Ev.succ (by simp only[qeY,qt (je _),cond_false];exact .done)
  ·simp only[qeY,qr a,cond_true,qy a,jd,wS j];refine Ev.bind (qj9 g) ?_;rw[qix];exact Ev.chk1 (qrO (qlV h.Ac a)) fun _=>f
 refine Ev.bind d ?_;cases allN (fun j=>wireB (gt b.Ac j) (snkN b.Aa (j:Int))) b.Ac.length<;>exact .done

def off (d:qi)(i:Nat):Nat:=(plI d i).length
def place1 (d:qi)(i k:Nat):Tplace:=⟨(i:Int),(k:Int),at0 (gt d.Ab i).Aj k,decide (k+1=(gt d.Ab i).Aj.length)⟩
def place2 (d:qi)(i:Nat):Tplace:=⟨-1,(i:Int),(gt d.Ah i).Bv,(gt d.Ah i).Bs==1⟩
theorem qjC {d:qi}{i:Nat}:off d (i+1)=off d i+(gt d.Ab i).Aj.length:=by
 unfold off;rw[qlP,jg,qou]
theorem qrw {d:qi}{i j:Nat}(h:i≤j):off d i≤off d j:=by
 induction j with
 | zero=>
  obtain rfl:i=0:=by omega
  exact je _
 | succ j ih=>
  rcases Nat.lt_or_eq_of_le h with h|rfl
  ·rw[qjC];have:=ih (by omega);omega
  ·exact je _
theorem qgG {d:qi}:(places d).length=off d d.Ab.length+d.Ah.length:=by
 unfold places off;rw[jg,qoy]
theorem qvf {d:qi}{n i k:Nat}(hi:i<n)(c:k<(gt d.Ab i).Aj.length):off d i+k<off d n∧gt (plI d n) (off d i+k)=place1 d i k:=by
 induction n with
 | zero=>omega
 | succ n ih=>
  rw[qlP,qkx];rcases Nat.lt_succ_iff_lt_or_eq.1 hi with h|rfl
  ·obtain⟨a,b⟩:=ih h;refine⟨by rw[qjC];omega,?_⟩;rw[if_pos (show off d i+k<(plI d n).length from a),b]
  ·refine⟨by rw[qjC];omega,?_⟩;rw[if_neg (by unfold off;omega),show off d i+k-(plI d i).length=k by unfold off;omega];exact qoY c
theorem qjr {d:qi}{i k:Nat}(hi:i<d.Ab.length)(c:k<(gt d.Ab i).Aj.length):off d i+k<(places d).length∧gt (places d) (off d i+k)=place1 d i k:=by
 obtain⟨a,b⟩:=qvf hi c;refine⟨by rw[qgG];omega,?_⟩;unfold places;rw[qkx,if_pos (show off d i+k<(plI d d.Ab.length).length from a),b]
theorem qpA {d:qi}{i:Nat}(hi:i<d.Ah.length):off d d.Ab.length+i<(places d).length∧gt (places d) (off d d.Ab.length+i)=place2 d i:=by
 refine⟨by rw[qgG];omega,?_⟩;unfold places;rw[qkx,if_neg (by unfold off;omega),show off d d.Ab.length+i-(plI d d.Ab.length).length=i by unfold off;omega];exact qoY hi
theorem qsR {d:qi}{n j:Nat}(a:j<off d n):∃ i k,i<n∧k<(gt d.Ab i).Aj.length∧j=off d i+k:=by
 induction n with
 | zero=>exact absurd a (Nat.not_lt_zero _)
 | succ n ih=>
  by_cases h:j<off d n
  ·obtain⟨i,k,f,b,c⟩:=ih h;exact⟨i,k,by omega,b,c⟩
  ·rw[qjC] at a;exact⟨n,j-off d n,by omega,by omega,by omega⟩
theorem qjV {d:qi}{j:Nat}(c:j<(places d).length) :
  (∃ i k,i<d.Ab.length∧k<(gt d.Ab i).Aj.length∧j=off d i+k∧gt (places d) j=place1 d i k) ∨
  (∃ i,i<d.Ah.length∧j=off d d.Ab.length+i∧gt (places d) j=place2 d i):=by
 rw[qgG] at c;by_cases h:j<off d d.Ab.length
 ·obtain⟨i,k,a,b,rfl⟩:=qsR h;exact .inl ⟨i,k,a,b,rfl,(qjr a b).2⟩
 ·refine .inr ⟨j-off d d.Ab.length,by omega,by omega,?_⟩;have:=(qpA (d:=d) (i:=j-off d d.Ab.length) (by omega)).2;rwa [show off d d.Ab.length+(j-off d d.Ab.length)=j by omega] at this
def drvQ (d:qi)(k:Int)(j:Nat):Bool:=((gt (places d) j).net==k)&&(gt (places d) j).drives
theorem qq5 {q:Nat→Bool}{m n:Nat}:cntP q (m+n)=cntP q m+cntP (fun j=>q (m+j)) n:=by
 induction n with
 | zero=>rfl
 | succ n ih=>
  show cntP q (m+n)+(bif q (m+n) then 1 else 0)=cntP q m+(cntP (fun j=>q (m+j)) n+(bif q (m+n) then 1 else 0));rw[ih];omega
theorem qsG {q:Nat→Bool}{n:Nat}{b:Bool}(h:1≤n)(a:∀ j,j+1<n→q j=false)(c:q (n-1)=b):cntP q n=bif b then 1 else 0:=by
 obtain⟨m,rfl⟩:∃ m,n=m+1:=⟨n-1,by omega⟩;show cntP q m+(bif q m then 1 else 0)=_;rw[ql9.2 (fun j d=>a j (by omega)),show m=m+1-1 by omega,c,Jf]
theorem qrN {d:qi}{k:Nat}(b:smallD d):cntP (drvQ d (k:Int)) (places d).length=drvI d k d.Ab.length+drvP d k d.Ah.length:=by
 rw[qgG,qq5]
 congr 1
 ·have:∀ n,n≤d.Ab.length→cntP (drvQ d (k:Int)) (off d n)=drvI d k n:=by
   intro n
   induction n with
   | zero=>intro _;rfl
   | succ n ih=>
    intro f;rw[qjC,qq5,ih (by omega),qnY]
    congr 1
    have c:=(b.nx n (by omega)).1;refine qsG (by omega) (fun j a=>?_) ?_
    ·show drvQ d _ (off d n+j)=false;unfold drvQ;rw[(qjr (by omega) (by omega)).2];unfold place1;simp;omega
    ·show drvQ d _ (off d n+_)=_;unfold drvQ;rw[(qjr (by omega) (by omega)).2];unfold place1 lastN;simp;omega
  exact this _ (je _)
 ·refine qoL (fun j a=>?_);show drvQ d _ (off d _+j)=_;unfold drvQ;rw[(qpA a).2];unfold place2;exact Bool.and_comm _ _
theorem qsg {l:qz}{d:qi}(h:designB l d=true){k:Nat}(a:k<d.Aj.length):cntP (drvQ d (k:Int)) (places d).length=1:=by
 rw[qrN (qX h)];unfold designB drvB at h;simp only[jf] at h;have:=qai.1 h.2.2.2 k a;rw[beq_iff_eq] at this;omega
theorem qq1 {l:qz}{d:qi}(h:designB l d=true){i j:Nat}(hi:i<(places d).length)(f:j<(places d).length)(c:(gt (places d) i).net=(gt (places d) j).net)(a:(gt (places d) i).drives=true)(b:(gt (places d) j).drives=true):i=j:=by
 obtain⟨g,n1⟩:=qk5 h hi;have e:=qfm g;have:=qsg h (k:=(gt (places d) i).net.toNat) (by omega);refine qqV (Nat.le_of_eq this) hi f ?_ ?_
 ·unfold drvQ;rw[←e,a];simp
 ·unfold drvQ;rw[←e,b,c];simp
theorem qvw {l:qz}{d:qi}(h:designB l d=true){k:Int}(c:0≤k)(g:k<d.Aj.length):∃ j,j<(places d).length∧(gt (places d) j).net=k∧(gt (places d) j).drives=true:=by
 have e:=qfm c;have:=qsg h (k:=k.toNat) (by omega);have b:decide (0<cntP (drvQ d ((k.toNat:Nat):Int)) (places d).length)=true:=by rw[this];rfl
 rw[qqQ,jD,qk8] at b;obtain⟨j,f,a⟩:=b;rw[Bool.not_eq_false',←e] at a;unfold drvQ at a;simp only[jf,beq_iff_eq] at a;exact⟨j,f,a.1,a.2⟩
def cellAt (b:qe)(i:Int):qG:=gt b.Am.Ap (gt b.Aa.Ab i.toNat).Bp.toNat
theorem qgQ {l:qz}{d:qi}(h:designB l d=true){i:Nat}(hi:i<d.Ab.length) :
  (0≤(gt d.Ab i).Bp∧(gt d.Ab i).Bp<l.Ap.length)∧(gt d.Ab i).Aj.length=(gt l.Ap (gt d.Ab i).Bp.toNat).Ay.length∧cellB (gt l.Ap (gt d.Ab i).Bp.toNat)=true:=by
 unfold designB libB at h;simp only[jf] at h;obtain⟨⟨⟨b,_⟩,_⟩,a,_⟩:=h;rw[qhP,qai] at a b;have:=a i hi;unfold instB at this;simp only[jf,qa5,beq_iff_eq] at this;exact⟨⟨this.1.1,by omega⟩,by omega,b _ (by omega)⟩
theorem qlQ {c:qG}(h:cellB c=true){j:Nat}(f:j<c.Aq.length):(1≤(gt c.Aq j).Au∧(gt c.Aq j).Au≤5)∧(0≤(gt c.Aq j).Bd∧(gt c.Aq j).Bd<(c.Ay.length:Int)-1)∧(0≤(gt c.Aq j).To∧(gt c.Aq j).To≤(c.Ay.length:Int)-1)∧arcS c.Ay (gt c.Aq j)=true:=by
 unfold cellB at h;simp only[jf] at h;obtain⟨_,i,⟨d,_⟩,_,_,g⟩:=h;have:=qai.1 d j f;rw[jf,qtQ i (qpC g)] at this;have b:=this.1;refine⟨qpr b,?_⟩;have a:=b;unfold arcS at a;simp only[jf,qa5] at a;refine⟨⟨a.1.1.1,by omega⟩,a.1.2,b⟩
theorem qmJ {c:qG}(h:cellB c=true):c.Aq.length≤8:=by
 unfold cellB at h;simp only[jf,decide_eq_true_eq] at h;exact h.2.2.1.2
theorem qan {b:qe}(h:blockB b=true):designB b.Am b.Aa=true:=by
 unfold blockB at h;simp only[jf] at h;exact h.1.1

theorem qsp {d:qi}{k:Int}{n i:Nat}(hi:i<(sinksL d k n).length):∃ y:Nat,y<n∧idx (sinksL d k n) (i:Int)=V (y:Int)∧snkQ d k y=true:=by
 rw[qa2 hi];have a:(sinksL d k n)[i] ∈ sinksL d k n:=jo hi;generalize (sinksL d k n)[i]=z at a;unfold sinksL at a;obtain⟨y,f,rfl⟩:=List.mem_map.1 a;obtain⟨b,c⟩:=List.mem_filter.1 f;exact⟨y,List.mem_range.1 b,rfl,c⟩
theorem qpo {d:qi}{k:Int}(h:smallD d):Ev (fun n=>qgo n d k) (sinksL d k (places d).length):=by
 have g:=qaQ h;have c:Ev (fun n=>qa7 k (places d) n ([]:List Int) 0) (sinksL d k (places d).length,((places d).length:Int)):=by
  refine loopF (Lf:=qa7 k (places d)) (S:=fun j=>sinksL d k j) (len:=(places d).length) (fun n=>?_) (fun j b X a=>?_)
  ·simp only[qa7,qt (je _),cond_false]
  ·have f:(sinksL d k j).length+[(j:Int)].length≤2147483648:=by
    rw[qix];have:cntP (snkQ d k) j≤j:=qf2;simp;omega
   simp only[qa7,qr b,cond_true,qy b,jd,wS j];rw[qiW] at a;unfold snkQ at a;cases h1:((gt (places d) j).net==k)
   ·rw[h1] at a;simp only[Bool.false_and,cond_false,Jc] at a ⊢;exact a
   ·cases h2:(gt (places d) j).drives
    ·rw[h1,h2] at a;simp only[Bool.not_false,Bool.and_self,cond_true,qcE f,jd] at a ⊢;exact a
    ·rw[h1,h2] at a;simp only[Jg,Bool.and_false,cond_false,Jc,cond_true] at a ⊢;exact a
 unfold qgo;exact Ev.bind (qme h) (Ev.bind c .done)
structure wireOk (b:qe)(i:Nat):Prop where
 lo:1≤(gt b.Ac i).Ai.length
 hi:(gt b.Ac i).Ai.length≤8
 res:(gt b.Ac i).Bq.length=(gt b.Ac i).Ai.length
 cap:(gt b.Ac i).Bl.length=(gt b.Ac i).Ai.length
 par:∀ j,0<j→j<(gt b.Ac i).Ai.length→0≤at0 (gt b.Ac i).Ai j∧at0 (gt b.Ac i).Ai j<j
 snk:(gt b.Ac i).Bb.length=(sinksL b.Aa (i:Int) (places b.Aa).length).length
 sin:∀ j,j<(gt b.Ac i).Bb.length→0≤at0 (gt b.Ac i).Bb j∧at0 (gt b.Ac i).Bb j<(gt b.Ac i).Ai.length
theorem qbz {b:qe}(h:blockB b=true){i:Nat}(hi:i<b.Ac.length):wireOk b i:=by
 unfold blockB at h;rw[jf,qai] at h;have:=h.2 i hi;unfold wireB lenB at this;simp only[jf,decide_eq_true_eq,beq_iff_eq] at this;obtain⟨⟨f,g⟩,n,o,k,_,_,l,c⟩:=this;refine⟨f,g,by omega,by omega,fun j m a=>?_,?_,fun j a=>?_⟩
 ·have:=qai.1 k j a;unfold treeB at this;rw[show decide (j=0)=false by simp;omega] at this;simp only[cond_false,qa5] at this;omega
 ·rw[qix];unfold snkN at l;omega
 ·rw[qgI (d:=0),qai] at c;have:=c j a;rw[qa5] at this;unfold at0;omega
theorem qiq {b:qe}(h:blockB b=true):b.Ac.length=b.Aa.Aj.length:=by
 unfold blockB at h;simp only[jf,beq_iff_eq] at h;omega

instance:Inhabited qm:=⟨⟨0,0,0,0⟩⟩
instance:Inhabited qT:=⟨⟨0,0⟩⟩
theorem qjX {α:Type}{m:Nat}{z:α}(h:m≤2147483648):mkS (m:Int) z=V (List.replicate m z):=by
 unfold mkS big;rw[if_pos ⟨by omega,by omega⟩,jr]
theorem qpJ {α:Type}[Inhabited α]{xs:List α}{a k:Nat}{y:α}(h:k ≠ a):gt (xs.set a y) k=gt xs k:=by
 unfold gt;rw[jx,List.getElem?_set_ne (by omega),←jx]
theorem qn6 {α:Type}[Inhabited α]{xs:List α}{a:Nat}{y:α}(h:a<xs.length):gt (xs.set a y) a=y:=by
 rw[qdz (by rw[List.length_set];exact h),List.getElem_set_self]

def CodeOk (code:List (IntK .u8)):Prop:=code.length≤1048576∧∀ x,x ∈ code→rng8 x
structure SrcI (code:List (IntK .u8))(a s:Int):Prop where
 a0:0≤a
 a1:a≤(code.length:Int)
 s0:0≤s
 s1:s≤2147483646
theorem tm31 {x:Int}(h:0≤x):0≤x.tmod 2147483647∧x.tmod 2147483647≤2147483646:=by
 have a:=Int.tmod_nonneg 2147483647 h;have b:=Int.tmod_lt_of_pos x (show(0:Int)<2147483647 by decide);omega
theorem qm7 {x k:Int}(a:0<k):remS x k=V (x.tmod k):=by unfold remS;rw[if_neg (by omega)]
theorem qaR (x:Int):okI (W64 x):=by
 unfold okI W64;rw[Go.IntWalk.i64_left];unfold Go.RowKit.wrap64;omega
theorem qaC {x:Int}(a:-4611686018427387904≤x)(b:x≤4611686018427387904):okI x:=by unfold okI;omega
theorem qrE {code:List (IntK .u8)}(g:CodeOk code):∃ s,Ev (fun n=>qkZ n code) (V ⟨code,0,s⟩)∧SrcI code 0 s:=by
 have c:∀ k j i,j+k=code.length→0≤i→i≤2147483646→EvQ (fun n=>qeW code n i (j:Int)) (fun o=>0≤o.1∧o.1≤2147483646):=by
  intro k
  induction k with
  | zero=>
   intro j i p f b;refine EvQ.succ ?_;simp only[qeW,qt (show code.length≤j by omega),cond_false,jd];exact EvQ.done ⟨f,b⟩
  | succ k ih=>
   intro j i p f b;have a:j<code.length:=by omega
   have t:=g.1;have r:=g.2 _ (jo a);unfold rng8 at r;refine EvQ.succ ?_;simp only[qeW,qr a,cond_true,jd,qa2 a,wS j];refine EvQ.bif (fun _=>?_) (fun _=>EvQ.done ⟨f,b⟩);have e1:W64 (i*31)=i*31:=qU (by omega) (by omega);have h:W64 code[j].val=code[j].val:=qU (by omega) (by omega);have l:W64 (i*31+code[j].val)=i*31+code[j].val:=qU (by omega) (by omega);rw[e1,h,l];have d:=tm31 (show 0≤i*31+code[j].val by omega);exact ih (j+1) _ (by omega) d.1 d.2
 obtain⟨⟨s,j⟩,b,d,m⟩:=c code.length 0 12345 (by omega) (by decide) (by decide);exact⟨s,Ev.bind b .done,⟨jR _,by omega,d,m⟩⟩
theorem qal {code:List (IntK .u8)}{a s:Int}(k:Int)(l:CodeOk code)(h:SrcI code a s) :
  EvQ (fun n=>qu n ⟨code,a,s⟩ k) (fun o=>((0≤o.1∧(1≤k→o.1<k))∧(k≤1→o.1=0))∧SrcI code o.2.1 o.2.2):=by
 obtain⟨a0,a1,s0,s1⟩:=h;have z:=l.1;unfold qu;refine EvQ.bif (fun g=>EvQ.done ⟨⟨⟨jR _,fun h=>by omega⟩,fun _=>rfl⟩,⟨a0,a1,s0,s1⟩⟩) (fun g=>?_);have g:1<k:=by have:=of_decide_eq_false g;omega
 refine EvQ.bif (fun i=>?_) (fun _=>?_)
 ·have i:a<(code.length:Int):=of_decide_eq_true i;obtain⟨j,rfl⟩:∃ j:Nat,a=(j:Int):=⟨a.toNat,by omega⟩;have c:j<code.length:=by omega
  have m:=l.2 _ (jo c);unfold rng8 at m;have p:W64 code[j].val=code[j].val:=qU (by omega) (by omega);have t:W64 ((j:Int)+1)=((j+1:Nat):Int):=qhh (by omega);refine EvQ.bindN (qa2 c) ?_;rw[p,t];refine EvQ.bif (fun u=>?_) (fun u=>?_)
  ·refine EvQ.bindN (qm7 (by omega)) (EvQ.done ⟨⟨⟨Int.tmod_nonneg _ m.1,fun _=>Int.tmod_lt_of_pos _ (by omega)⟩,fun h=>by omega⟩,⟨by show(0:Int)≤((j+1:Nat):Int);omega,by show((j+1:Nat):Int)≤_;omega,s0,s1⟩⟩)
  ·have d:W64 (s*48271)=s*48271:=qU (by omega) (by omega);have f:W64 (s*48271+code[j].val)=s*48271+code[j].val:=qU (by omega) (by omega);have r:W64 (s*48271+code[j].val+1)=s*48271+code[j].val+1:=qU (by omega) (by omega);rw[d,f,r];have b:=tm31 (show 0≤s*48271+code[j].val+1 by omega);exact EvQ.bindN (qm7 (by omega)) (EvQ.done ⟨⟨⟨Int.tmod_nonneg _ b.1,fun _=>Int.tmod_lt_of_pos _ (by omega)⟩,fun h=>by omega⟩,⟨by show(0:Int)≤((j+1:Nat):Int);omega,by show((j+1:Nat):Int)≤_;omega,b.1,b.2⟩⟩)
 ·have d:W64 (s*48271)=s*48271:=qU (by omega) (by omega);have f:W64 (s*48271+11)=s*48271+11:=qU (by omega) (by omega);rw[d,f];have b:=tm31 (show 0≤s*48271+11 by omega);have v:0≤((s*48271+11).tmod 2147483647).tdiv 7:=Int.tdiv_nonneg b.1 (by decide);have y:((s*48271+11).tmod 2147483647).tdiv 7≤2147483646:=by
   rw[jz b.1];omega
  rw[qU (x:=((s*48271+11).tmod 2147483647).tdiv 7) (by omega) (by omega)];exact EvQ.bindN (qm7 (by omega)) (EvQ.done ⟨⟨⟨Int.tmod_nonneg _ v,fun _=>Int.tmod_lt_of_pos _ (by omega)⟩,fun h=>by omega⟩,⟨a0,a1,b.1,b.2⟩⟩)
theorem qbL {α:Type}{ok:α→Prop}{xs:List α}{y:α}(h:∀ x,x ∈ xs→ok x)(b:ok y):∀ x,x ∈ xs++[y]→ok x:=by
 intro x a;rcases List.mem_append.1 a with a|a
 ·exact h x a
 ·obtain rfl:=List.mem_singleton.1 a;exact b
theorem qce {α:Type}{xs:List α}{y:α}(h:xs.length≤1048576):appS xs [y]=V (xs++[y]):=qcE (by simp;omega)
section
variable {code:List (IntK .u8)}{a s:Int}
theorem qt1 {step:Int}(A:1≤step)(N:step≤1000)(i:CodeOk code)(h:SrcI code a s) :
  EvQ (fun n=>qfA n ⟨code,a,s⟩ step) (fun o=>(1≤o.1.length∧o.1.length≤3∧∀ x,x ∈ o.1→okI x)∧SrcI code o.2.1 o.2.2):=by
 have d:∀ (r:Nat) (x:List Int) (f g c:Int),SrcI code f g→x.length+r≤3→(∀ y,y ∈ x→okI y)→okI c →
   EvQ (fun n=>qcV ⟨code,a,s⟩ step n x f g c (r:Int)) (fun o=>(o.1.length=x.length+r∧∀ y,y ∈ o.1→okI y)∧SrcI code o.2.1 o.2.2.1):=by
  intro r
  induction r with
  | zero=>
   intro x f g c b B p hi;refine EvQ.succ ?_;simp only[qcV];exact EvQ.ff Z (EvQ.done ⟨⟨rfl,p⟩,b⟩)
  | succ r ih=>
   intro x f g c b B p hi;refine EvQ.succ ?_;simp only[qcV];refine EvQ.tt (by simp) (EvQ.bindN (qce (by omega)) (EvQ.bind (qal step i b) ?_));rintro⟨H,t,u⟩ ⟨_,l⟩;have e:W64 (((r+1:Nat):Int)-1)=(r:Int):=by rw[qU (by omega) (by omega)];omega
   dsimp only;rw[e];exact(ih (x++[c]) t u _ l (by rw[jg,ji];omega) (qbL p hi) (qaR _)).mono (fun o k=>⟨⟨by rw[k.1.1,jg,ji];omega,k.1.2⟩,k.2⟩)
 unfold qfA;refine EvQ.bind (qal step i h) ?_;rintro⟨D,O,P⟩ ⟨⟨⟨K,p1⟩,_⟩,b⟩;refine EvQ.bind (qal 3 i b) ?_;rintro⟨v,I,J⟩ ⟨⟨⟨L,z⟩,_⟩,b⟩;dsimp only at K p1 L z b ⊢;have T:=z (by decide);have S:=p1 A;obtain⟨m,C⟩:∃ m:Nat,1+v=((m+1:Nat):Int):=⟨v.toNat,by omega⟩;rw[wO (1+v),C];refine EvQ.bind (d (m+1) [] I J D b (by simp;omega) (fun _ h=>by cases h) (qaC (by omega) (by omega))) ?_;rintro⟨W,Q,R,c,F⟩ ⟨⟨r1,M⟩,b⟩;exact EvQ.done ⟨⟨by simp only at r1;simp at r1;dsimp only;omega,by simp only at r1;simp at r1;dsimp only;omega,M⟩,b⟩
theorem qtc {c:Prop}[Decidable c]{x y:Int}(a:okI x)(b:okI y):okI (if c then x else y):=by split<;>assumption
theorem qr1 {base:Int}(k:CodeOk code)(h:SrcI code a s) :
  EvQ (fun n=>qh3 n ⟨code,a,s⟩ base) (fun o=>qhZ o.1∧SrcI code o.2.1 o.2.2):=by
 unfold qh3;refine EvQ.bind (qt1 (by decide) (by decide) k h) ?_;rintro⟨r1,e,i2⟩ ⟨⟨l1,l2,r⟩,c⟩;refine EvQ.bind (qt1 (by decide) (by decide) k c) ?_;rintro⟨f,Q,S⟩ ⟨⟨T,t,u⟩,c⟩;dsimp only at l1 l2 r T t u c ⊢;have Y:r1.length*f.length≤3*3:=Nat.mul_le_mul l2 t;have l:∀ (d j:Nat) (x:List Int) (m p:Int),SrcI code m p→j+d=r1.length*f.length→x.length=j→(∀ y,y ∈ x→okI y) →
   EvQ (fun n=>qd2 ⟨code,a,s⟩ base r1 f n x m p (j:Int)) (fun o=>(o.1.length≤9∧∀ y,y ∈ o.1→okI y)∧SrcI code o.2.1 o.2.2.1):=by
  intro d
  induction d with
  | zero=>
   intro j x m p c B D g;refine EvQ.succ ?_;simp only[qd2,qor (show r1.length≤1048576 by omega) (show f.length≤1048576 by omega)];have z:x.length≤9:=by omega
   exact EvQ.ff (qt (by omega)) (EvQ.done ⟨⟨z,g⟩,c⟩)
  | succ d ih=>
   intro j x m p c B D g;refine EvQ.succ ?_;simp only[qd2,qor (show r1.length≤1048576 by omega) (show f.length≤1048576 by omega)];refine EvQ.tt (qr (by omega)) (EvQ.bind (qal 10 k c) ?_);rintro⟨i8,i9,F⟩ ⟨⟨⟨W,X⟩,_⟩,c⟩;dsimp only at W X c ⊢;refine EvQ.bindN (b:=((j % f.length:Nat):Int)) (by rw[qm7 (by omega),Int.ofNat_tmod]) ?_;refine EvQ.bind (R:=fun o:Int×Int×Int=>SrcI code o.1 o.2.1∧okI o.2.2) ?_ ?_
   ·refine EvQ.bif (fun i=>?_) (fun _=>EvQ.done ⟨c,qaR _⟩);have C:1≤j:=by
     rcases Nat.eq_zero_or_pos j with rfl|h2
     ·simp at i
     ·exact h2
    have e1:W64 ((j:Int)-1)=((j-1:Nat):Int):=by rw[qU (by omega) (by omega)];omega
    rw[e1];refine EvQ.bindN (qa2 (show j-1<x.length by omega)) (EvQ.bind (qal 20 k c) ?_);rintro⟨N,O,P⟩ ⟨_,c⟩;exact EvQ.done ⟨c,qtc (qaR _) (qaR _)⟩
   ·rintro⟨H,I,J⟩ ⟨c,hi⟩;dsimp only at c hi ⊢;rw[wS j];refine EvQ.bif (fun i=>?_) (fun _=>?_)
    ·have A:f.length≤j:=by have:=of_decide_eq_true i;omega
     have e1:W64 ((j:Int)-(f.length:Int))=((j-f.length:Nat):Int):=by rw[qU (by omega) (by omega)];omega
     rw[e1];refine EvQ.bindN (qa2 (show j-f.length<x.length by omega)) (EvQ.bind (qal 20 k c) ?_);rintro⟨K,L,M⟩ ⟨_,c⟩;refine EvQ.bindN (qce (by omega)) ?_;exact ih (j+1) _ _ _ c (by omega) (by rw[jg,ji];omega) (qbL g (qtc (qaR _) hi))
    ·refine EvQ.bindN (qce (by omega)) ?_;exact ih (j+1) _ _ _ c (by omega) (by rw[jg,ji];omega) (qbL g hi)
 refine EvQ.bind (l (r1.length*f.length) 0 [] Q S c (by omega) Z (fun _ h=>by cases h)) ?_;rintro⟨x1,i5,i6,i7⟩ ⟨⟨n1,v⟩,c⟩;dsimp only at n1 v c;exact EvQ.done ⟨⟨⟨by dsimp only;omega,r⟩,⟨by dsimp only;omega,u⟩,⟨by dsimp only;omega,v⟩⟩,c⟩
theorem qoW {base:Int}(d:CodeOk code)(h:SrcI code a s) :
  EvQ (fun n=>qdt n ⟨code,a,s⟩ base) (fun o=>okL qhZ o.1∧SrcI code o.2.1 o.2.2):=by
 unfold qdt;refine EvQ.bind (qr1 d h) ?_;rintro⟨r1,i,k⟩ ⟨f,b⟩;refine EvQ.bind (qr1 d b) ?_;rintro⟨p,l,m⟩ ⟨g,b⟩;refine EvQ.done ⟨⟨by simp,fun x c=>?_⟩,b⟩;rcases List.mem_cons.1 c with rfl|c
 ·exact f
 ·obtain rfl:=List.mem_singleton.1 c;exact g
theorem qri {kind f t sense:Int}(i:okI kind)(g:okI f)(k:okI t)(d:okI sense)(c:CodeOk code)(h:SrcI code a s) :
  EvQ (fun n=>qc5 n ⟨code,a,s⟩ kind f t sense) (fun o=>qld o.1∧SrcI code o.2.1 o.2.2):=by
 unfold qc5;refine EvQ.bif (fun _=>?_) (fun _=>?_)
 ·refine EvQ.bind (qal 10 c h) ?_;rintro⟨y,z,A⟩ ⟨_,b⟩;refine EvQ.bind (qoW c b) ?_;rintro⟨r1,B,C⟩ ⟨l,b⟩;exact EvQ.done ⟨⟨i,g,k,qaC (x:=0) (by decide) (by decide),l,⟨jZ _,fun _ h=>by cases h⟩⟩,b⟩
 ·refine EvQ.bind (qal 20 c h) ?_;rintro⟨D,F,H⟩ ⟨_,b⟩;refine EvQ.bind (qoW c b) ?_;rintro⟨J,I,r⟩ ⟨m,b⟩;refine EvQ.bind (qoW c b) ?_;rintro⟨K,u,v⟩ ⟨p,b⟩;exact EvQ.done ⟨⟨i,g,k,d,m,p⟩,b⟩
end

section
variable {code:List (IntK .u8)}{a s:Int}
theorem quQ {q:Nat}(h:q≤8):W64 (2*(q:Int))=((q*2:Nat):Int):=by rw[qU (by omega) (by omega)];omega
theorem Ev.add {α:Type}{f:Nat→Option α}{r:α}(k:Nat)(h:∀ m,f (m+k)=V r):Ev f r:=
 ⟨k,fun n a=>by obtain⟨m,rfl⟩:∃ m,n=m+k:=⟨n-k,by omega⟩;exact h m⟩
def SenseOk (k:Nat)(a:List Int):Prop:=∀ (b:ByteArray) (ps:List qap) (i j:Int) (p:Nat),p<k→EvQ (fun n=>qkj n ⟨b,1,ps,[],a,i,j⟩ (p:Int)) okI
theorem qoV {k:Nat}{J:ByteArray}{c:List Int}(Q:k≤3)(hl:c.length=2 ^ k)(D:SenseOk k c)(B:okS J)(F:∀ x,x ∈ c→okI x)(z:CodeOk code)(h:SrcI code a s) :
  EvQ (fun n=>qe4 n ⟨code,a,s⟩ J c) (fun o=>qmi o.1∧SrcI code o.2.1 o.2.2):=by
 have R:(2:Nat) ^ k≤8:=by
  have:(2:Nat) ^ k≤2 ^ 3:=Nat.pow_le_pow_right (by decide) Q;simpa using this
 have v:∀ (d j:Nat) (x:List qap) (i l:Int),SrcI code i l→j+d=k→x.length=j→(∀ y,y ∈ x→qkU y) →
   EvQ (fun n=>qeU ⟨code,a,s⟩ c n x i l ((2 ^ j:Nat):Int)) (fun o=>(o.1.length=k∧∀ y,y ∈ o.1→qkU y)∧SrcI code o.2.1 o.2.2.1):=by
  intro d
  induction d with
  | zero=>
   intro j x i l f A u g;refine EvQ.succ ?_;simp only[qeU];have:j=k:=by omega
   subst this;exact EvQ.ff (qt (by omega)) (EvQ.done ⟨⟨u,g⟩,f⟩)
  | succ d ih=>
   intro j x i l f A u g;refine EvQ.succ ?_;simp only[qeU];have S:(2:Nat) ^ j<2 ^ k:=Nat.pow_lt_pow_right (by decide) (by omega);refine EvQ.tt (qr (by omega)) ?_;have t:j<4:=by omega
   refine EvQ.bindN (b:=([(⟨#[97]⟩:ByteArray),(⟨#[98]⟩:ByteArray),(⟨#[99]⟩:ByteArray),(⟨#[100]⟩:ByteArray)]:List ByteArray)[j]'(by simpa using t)) (by rw[u];exact qa2 (by simpa using t)) (EvQ.bind (qal 9 z f) ?_);rintro⟨T,W,X⟩ ⟨_,f⟩;refine EvQ.bindN (qce (by omega)) ?_;have e:W64 (2*((2 ^ j:Nat):Int))=((2 ^ (j+1):Nat):Int):=by
    rw[Nat.pow_succ];exact quQ (by omega)
   dsimp only;rw[e];refine ih (j+1) _ _ _ f (by omega) (by rw[jg,ji];omega) (qbL g ⟨?_,qaC (x:=1) (by decide) (by decide),qaR _,trivial⟩);rcases j with _|_|_|_|j
   ·show(1:Nat)≤1048576;decide
   ·show(1:Nat)≤1048576;decide
   ·show(1:Nat)≤1048576;decide
   ·show(1:Nat)≤1048576;decide
   ·omega
 unfold qe4;refine EvQ.bind (qal 50 z h) ?_;rintro⟨L,i2,i3⟩ ⟨⟨⟨p0,p1⟩,_⟩,f⟩;refine EvQ.bind (qal 80 z f) ?_;rintro⟨M,i5,i6⟩ ⟨⟨⟨q0,N⟩,_⟩,f⟩;dsimp only at p0 p1 q0 N;have p2:=p1 (by decide);have q2:=N (by decide);refine EvQ.bind (v k 0 [] i5 i6 f (by omega) Z (fun _ h=>by cases h)) ?_;rintro⟨K,i7,i8,i9⟩ ⟨⟨H,m⟩,f⟩;dsimp only at H m f ⊢;refine EvQ.bindN (qce (by omega)) ?_;have r:∀ (d j:Nat) (x:List qak) (i l:Int),SrcI code i l→j+d=k→x.length≤j→(∀ y,y ∈ x→qld y) →
   EvQ (fun n=>qdZ ⟨code,a,s⟩ J c L M K (K++[(⟨(⟨#[121]⟩:ByteArray),2,0,false⟩:qap)]) n x i l (j:Int)) (fun o=>(o.1.length≤k∧∀ y,y ∈ o.1→qld y)∧SrcI code o.2.1 o.2.2.1):=by
  intro d
  induction d with
  | zero=>
   intro j x i l f A u g;refine EvQ.succ ?_;simp only[qdZ];have P:x.length≤k:=by omega
   exact EvQ.ff (qt (by omega)) (EvQ.done ⟨⟨P,g⟩,f⟩)
  | succ d ih=>
   intro j x i l f A u g;refine EvQ.succ ?_;simp only[qdZ,wS j];refine EvQ.tt (qr (by omega)) (EvQ.bind (D _ _ _ _ j (by omega)) (fun r1 C=>?_));refine EvQ.bif (fun _=>?_) (fun _=>ih (j+1) x i l f (by omega) (by omega) g);refine EvQ.bind (qri (qaC (by decide) (by decide)) (qaC (by omega) (by omega)) (qaC (by omega) (by omega)) C z f) ?_;rintro⟨r2,a5,a6⟩ ⟨O,f⟩;refine EvQ.bindN (qce (by omega)) ?_;exact ih (j+1) _ _ _ f (by omega) (by rw[jg,ji];omega) (qbL g O)
 refine EvQ.bind (r k 0 [] i7 i8 f (by omega) (jZ _) (fun _ h=>by cases h)) ?_;rintro⟨x4,Y,a3,a4⟩ ⟨⟨I,p⟩,f⟩;dsimp only at I p f;refine EvQ.done ⟨⟨B,qaC (x:=1) (by decide) (by decide),⟨?_,?_⟩,⟨?_,p⟩,⟨?_,F⟩,qaC (x:=L) (by omega) (by omega),qaC (x:=M) (by omega) (by omega)⟩,f⟩
 ·show(K++_).length≤_;rw[jg,ji];omega
 ·exact qbL m ⟨by show(1:Nat)≤1048576;decide,qaC (x:=2) (by decide) (by decide),qaC (x:=0) (by decide) (by decide),trivial⟩
 ·show x4.length≤_;omega
 ·show c.length≤_;omega
theorem ql6 {xs:List Int}(h:xs.all (fun x=>decide (-1000≤x)&&decide (x≤1000))=true):∀ x,x ∈ xs→okI x:=by
 intro x a;have:=List.all_eq_true.1 h x a;simp only[jf,decide_eq_true_eq] at this;exact qaC (by omega) (by omega)
theorem qrF {u:ByteArray}{kind edge:Int}(d:okS u)(m:okI kind)(B:okI edge)(c:CodeOk code)(h:SrcI code a s) :
  EvQ (fun n=>qem n ⟨code,a,s⟩ u kind edge) (fun o=>qmi o.1∧SrcI code o.2.1 o.2.2):=by
 have z:∀ x:Int,-1000≤x→x≤1000→okI x:=fun x i k=>qaC (by omega) (by omega);unfold qem;refine EvQ.bind (qal 50 c h) ?_;rintro⟨r,T,W⟩ ⟨⟨⟨P,p1⟩,_⟩,b⟩;refine EvQ.bind (qal 80 c b) ?_;rintro⟨t,X,Y⟩ ⟨⟨⟨Q,v⟩,_⟩,b⟩;dsimp only at P p1 Q v;have p2:=p1 (by decide);have q2:=v (by decide);refine EvQ.bind (qal 9 c b) ?_;rintro⟨O,e,i9⟩ ⟨_,b⟩;refine EvQ.bind (qal 9 c b) ?_;rintro⟨g,C,D⟩ ⟨_,b⟩;refine EvQ.bind (qri B (z _ (by decide) (by decide)) (z _ (by decide) (by decide)) (z _ (by decide) (by decide)) c b) ?_;rintro⟨r1,F,H⟩ ⟨i,b⟩;refine EvQ.bind (qri (z _ (by decide) (by decide)) (z _ (by decide) (by decide)) (z _ (by decide) (by decide)) (z _ (by decide) (by decide)) c b) ?_;rintro⟨R,I,J⟩ ⟨k,b⟩;refine EvQ.bind (qri (z _ (by decide) (by decide)) (z _ (by decide) (by decide)) (z _ (by decide) (by decide)) (z _ (by decide) (by decide)) c b) ?_;rintro⟨S,K,L⟩ ⟨y,b⟩;dsimp only at i k y b ⊢;have l:∀ x,x ∈ [r1,R,S]→qld x:=by
  intro x f;simp only[jG,jy,or_false] at f;rcases f with rfl|rfl|rfl<;>assumption
 have p:∀ x,x ∈ [(⟨(⟨#[100]⟩:ByteArray),1,W64 (1+O),false⟩:qap),(⟨(⟨#[99,107]⟩:ByteArray),1,W64 (1+g),true⟩:qap),(⟨(⟨#[113]⟩:ByteArray),2,0,false⟩:qap)]→qkU x:=by
  intro x f;simp only[jG,jy,or_false] at f;rcases f with rfl|rfl|rfl
  ·exact⟨by show(1:Nat)≤1048576;decide,z 1 (by decide) (by decide),qaR _,trivial⟩
  ·exact⟨by show(2:Nat)≤1048576;decide,z 1 (by decide) (by decide),qaR _,trivial⟩
  ·exact⟨by show(1:Nat)≤1048576;decide,z 2 (by decide) (by decide),z 0 (by decide) (by decide),trivial⟩
 refine EvQ.bif (fun _=>?_) (fun _=>?_)
 ·refine EvQ.bind (qri (z _ (by decide) (by decide)) (z _ (by decide) (by decide)) (z _ (by decide) (by decide)) (z _ (by decide) (by decide)) c b) ?_;rintro⟨r4,M,N⟩ ⟨A,b⟩;refine EvQ.bindN (qce (by simp)) ?_;exact EvQ.done ⟨⟨d,m,⟨by simp,p⟩,⟨by simp,qbL l A⟩,⟨jZ _,fun _ h=>by cases h⟩,z r (by omega) (by omega),z t (by omega) (by omega)⟩,b⟩
 ·exact EvQ.done ⟨⟨d,m,⟨by simp,p⟩,⟨by simp,l⟩,⟨jZ _,fun _ h=>by cases h⟩,z r (by omega) (by omega),z t (by omega) (by omega)⟩,b⟩
theorem sense1a:SenseOk 1 [1,0]:=by
 intro b ps i j p a;obtain rfl:p=0:=by omega
 exact⟨_,Ev.add 4 (fun m=>rfl),qaC (by decide) (by decide)⟩
theorem sense1b:SenseOk 1 [0,1]:=by
 intro b ps i j p a;obtain rfl:p=0:=by omega
 exact⟨_,Ev.add 4 (fun m=>rfl),qaC (by decide) (by decide)⟩
theorem sense2a:SenseOk 2 [1,1,1,0]:=by
 intro b ps i j p a;rcases p with _|_|p
 ·exact⟨_,Ev.add 8 (fun m=>rfl),qaC (by decide) (by decide)⟩
 ·exact⟨_,Ev.add 8 (fun m=>rfl),qaC (by decide) (by decide)⟩
 ·omega
theorem sense2b:SenseOk 2 [0,1,1,0]:=by
 intro b ps i j p a;rcases p with _|_|p
 ·exact⟨_,Ev.add 8 (fun m=>rfl),qaC (by decide) (by decide)⟩
 ·exact⟨_,Ev.add 8 (fun m=>rfl),qaC (by decide) (by decide)⟩
 ·omega
theorem sense3:SenseOk 3 [0,1,0,1,0,0,1,1]:=by
 intro b ps i j p a;rcases p with _|_|_|p
 ·exact⟨_,Ev.add 12 (fun m=>rfl),qaC (by decide) (by decide)⟩
 ·exact⟨_,Ev.add 12 (fun m=>rfl),qaC (by decide) (by decide)⟩
 ·exact⟨_,Ev.add 12 (fun m=>rfl),qaC (by decide) (by decide)⟩
 ·omega
theorem qvP (c:CodeOk code)(h:SrcI code a s):EvQ (fun n=>qjg n ⟨code,a,s⟩) (fun o=>qgH o.1∧SrcI code o.2.1 o.2.2):=by
 have z:∀ x:Int,-1000≤x→x≤1000→okI x:=fun x f g=>qaC (by omega) (by omega);unfold qjg;refine EvQ.bind (qoV (k:=1) (by decide) Z sense1a (by show(3:Nat)≤1048576;decide) (ql6 Z) c h) ?_;rintro⟨r1,F,H⟩ ⟨f,b⟩;refine EvQ.bind (qoV (k:=1) (by decide) Z sense1b (by show(3:Nat)≤1048576;decide) (ql6 Z) c b) ?_;rintro⟨P,I,J⟩ ⟨g,b⟩;refine EvQ.bind (qoV (k:=2) (by decide) Z sense2a (by show(4:Nat)≤1048576;decide) (ql6 Z) c b) ?_;rintro⟨Q,K,L⟩ ⟨v,b⟩;refine EvQ.bind (qoV (k:=2) (by decide) Z sense2b (by show(3:Nat)≤1048576;decide) (ql6 Z) c b) ?_;rintro⟨R,M,N⟩ ⟨y,b⟩;refine EvQ.bind (qoV (k:=3) (by decide) Z sense3 (by show(3:Nat)≤1048576;decide) (ql6 Z) c b) ?_;rintro⟨S,O,i⟩ ⟨A,b⟩;refine EvQ.bind (qrF (by show(4:Nat)≤1048576;decide) (z _ (by decide) (by decide)) (z _ (by decide) (by decide)) c b) ?_;rintro⟨T,l,m⟩ ⟨B,b⟩;refine EvQ.bind (qrF (by show(5:Nat)≤1048576;decide) (z _ (by decide) (by decide)) (z _ (by decide) (by decide)) c b) ?_;rintro⟨W,p,r⟩ ⟨C,b⟩;refine EvQ.bind (qrF (by show(5:Nat)≤1048576;decide) (z _ (by decide) (by decide)) (z _ (by decide) (by decide)) c b) ?_;rintro⟨X,t,u⟩ ⟨D,b⟩;refine EvQ.done ⟨⟨⟨by simp,fun x d=>?_⟩⟩,b⟩;simp only[jG,jy,or_false] at d;rcases d with rfl|rfl|rfl|rfl|rfl|rfl|rfl|rfl<;>assumption
end

section
variable {code:List (IntK .u8)}{a s:Int}
theorem qml (b:IntK .u8):(strOf [b]).size=1:=rfl
theorem qp0 {x y:ByteArray}(h:x.size+y.size≤1048576):catB x y=V (x++y):=by
 unfold catB;rw[if_pos];have:IntKind.i64.max=9223372036854775807:=rfl;omega
theorem qta:∀ (d:Nat) (k:Int),d≤15→0≤k→k<((10 ^ (d+1):Nat):Int)→EvQ (fun n=>qbK n k) (fun z=>z.size≤d+1):=by
 intro d
 induction d with
 | zero=>
  intro k f b c;refine EvQ.succ ?_;simp only[qbK];refine EvQ.ff (by simp;omega) (EvQ.tt (by simp;omega) (EvQ.done ?_));rw[qml];exact je _
 | succ d ih=>
  intro k f b c;refine EvQ.succ ?_;simp only[qbK];refine EvQ.ff (by simp;omega) (EvQ.bif (fun _=>EvQ.done (by rw[qml];omega)) (fun h=>?_));have l:(10:Nat) ^ (d+1+1)≤10 ^ 17:=Nat.pow_le_pow_right (by decide) (by omega);have i:k≤9223372036854775807:=by
   have:(10:Nat) ^ 17≤9223372036854775807:=by decide
   omega
  have e:k.tdiv 10=k / 10:=jz b;have e1:W64 (k.tdiv 10)=k / 10:=by rw[e];exact qU (by omega) (by omega)
  rw[e1];have a:k / 10<((10 ^ (d+1):Nat):Int):=by rw[Nat.pow_succ] at c;omega
  refine EvQ.bind (ih (k / 10) (by omega) (by omega) a) (fun m g=>?_);refine EvQ.bindN (qp0 (by rw[qml];omega)) (EvQ.done ?_);rw[ByteArray.size_append,qml];omega
theorem qr2 {k:Nat}(h:k≤1000):EvQ (fun n=>qbK n (k:Int)) (fun z=>z.size≤4):=qta 3 k (by decide) (by omega) (by omega)
theorem quJ {y:Int}(a:0≤y)(b:y≤7):∃ p:Nat,idx ([2,2,3,3,4,3,3,3]:List Int) y=V (p:Int)∧2≤p∧p≤4:=by
 have:y=0∨y=1∨y=2∨y=3∨y=4∨y=5∨y=6∨y=7:=by omega
 rcases this with rfl|rfl|rfl|rfl|rfl|rfl|rfl|rfl
 ·exact⟨2,rfl,by decide,by decide⟩
 ·exact⟨2,rfl,by decide,by decide⟩
 ·exact⟨3,rfl,by decide,by decide⟩
 ·exact⟨3,rfl,by decide,by decide⟩
 ·exact⟨4,rfl,by decide,by decide⟩
 ·exact⟨3,rfl,by decide,by decide⟩
 ·exact⟨3,rfl,by decide,by decide⟩
 ·exact⟨3,rfl,by decide,by decide⟩
theorem quS {y:Int}(a:0≤y)(b:y<12):∃ p:Int,idx ([0,1,2,2,3,4,5,5,5,6,7,1]:List Int) y=V p∧0≤p∧p≤7:=by
 have:y=0∨y=1∨y=2∨y=3∨y=4∨y=5∨y=6∨y=7∨y=8∨y=9∨y=10∨y=11:=by omega
 rcases this with rfl|rfl|rfl|rfl|rfl|rfl|rfl|rfl|rfl|rfl|rfl|rfl<;>exact⟨_,rfl,by decide,by decide⟩
theorem ql7 {α:Type}{xs:List α}(h:xs.length≤1048576):appS ([]:List α) xs=V xs:=by
 have:=qcE (xs:=([]:List α)) (ys:=xs) (by simp;omega);rwa [List.nil_append] at this
theorem qvs {l:List ByteArray}{m:Int}{p:Nat}(k:idx ([2,2,3,3,4,3,3,3]:List Int) m=V (p:Int))(H:2≤p)(I:p≤4)(u:l.length≤100)(i:CodeOk code) :
  ∀ (d j:Nat) (x:List Int) (f g:Int),SrcI code f g→j+d+1=p→x.length=j→(∀ y,y ∈ x→okI y) →
   EvQ (fun n=>qdU ⟨code,a,s⟩ l m n x f g (j:Int)) (fun o=>(o.1.length+1=p∧∀ y,y ∈ o.1→okI y)∧SrcI code o.2.1 o.2.2.1):=by
 have h:W64 ((p:Int)-1)=((p-1:Nat):Int):=by rw[qU (by omega) (by omega)];omega
 intro d
 induction d with
 | zero=>
  intro j x f g c r t b;refine EvQ.succ ?_;simp only[qdU];refine EvQ.bindN k ?_;rw[h];exact EvQ.ff (qt (by omega)) (EvQ.done ⟨⟨by dsimp only;omega,b⟩,c⟩)
 | succ d ih=>
  intro j x f g c r t b;refine EvQ.succ ?_;simp only[qdU];refine EvQ.bindN k ?_;rw[h];refine EvQ.tt (qr (by omega)) (EvQ.bind (qal _ i c) ?_);rintro⟨v,z,A⟩ ⟨_,c⟩;refine EvQ.bind (qal 3 i c) ?_;rintro⟨B,C,D⟩ ⟨_,c⟩;refine EvQ.bind (R:=okI) (EvQ.bif (fun _=>EvQ.done (qaR _)) (fun _=>EvQ.done (qaR _))) (fun F hi=>?_);refine EvQ.bind (R:=fun _=>True) (EvQ.bif (fun _=>EvQ.done trivial) (fun _=>EvQ.done trivial)) (fun b3 _=>?_);rw[wS j];refine EvQ.bif (fun _=>?_) (fun _=>?_)
  ·exact EvQ.bindN (ql7 (by omega)) (EvQ.bindN (qce (by omega)) (ih (j+1) _ _ _ c (by omega) (by rw[jg,ji];omega) (qbL b (qaC (by decide) (by decide)))))
  ·exact EvQ.bindN (ql7 (by omega)) (EvQ.bindN (qce (by omega)) (ih (j+1) _ _ _ c (by omega) (by rw[jg,ji];omega) (qbL b hi)))
structure InsI (x:qF):Prop where
 ok:qn4 x
 l2:2≤x.Aj.length
 l5:x.Aj.length≤5
theorem quV (B:CodeOk code):∀ (r:Nat) (f:List ByteArray) (d:List qF) (i l:Int),SrcI code i l→d.length+r≤14→f.length=d.length+3→(∀ y,y ∈ f→okS y)→(∀ y,y ∈ d→InsI y) →
  EvQ (fun n=>qeZ ⟨code,a,s⟩ n f d i l (r:Int)) (fun o=>(o.1.length=o.2.1.length+3∧o.2.1.length=d.length+r∧(∀ y,y ∈ o.1→okS y)∧∀ y,y ∈ o.2.1→InsI y)∧SrcI code o.2.2.1 o.2.2.2.1):=by
 intro r
 induction r with
 | zero=>
  intro f d i l b I g m t;refine EvQ.succ ?_;simp only[qeZ];exact EvQ.ff Z (EvQ.done ⟨⟨g,rfl,m,t⟩,b⟩)
 | succ r ih=>
  intro f d i l b I g m t;refine EvQ.succ ?_;simp only[qeZ];refine EvQ.tt (by simp) (EvQ.bind (qal 12 B b) ?_);rintro⟨W,P,Q⟩ ⟨⟨⟨C,D⟩,_⟩,b⟩;dsimp only at C D b ⊢;obtain⟨T,v,z,A⟩:=quS C (D (by decide));obtain⟨p,J,R,S⟩:=quJ z A;refine EvQ.bindN v (EvQ.bind (qr2 (show d.length≤1000 by omega)) (fun r1 K=>?_));have F:(⟨#[117]⟩:ByteArray).size=1:=rfl;have H:(⟨#[110]⟩:ByteArray).size=1:=rfl;refine EvQ.bindN (qp0 (by rw[F];omega)) (EvQ.bind (qvs J R S (by omega) B (p-1) 0 [] P Q b (by omega) Z (fun _ h=>by cases h)) ?_);rintro⟨Y,M,N,O⟩ ⟨⟨u,c⟩,b⟩;dsimp only at u c b ⊢;refine EvQ.bindN (ql7 (by omega)) (EvQ.bindN (qce (by omega)) (EvQ.bind (qr2 (show f.length≤1000 by omega)) (fun X L=>?_)));refine EvQ.bindN (qp0 (by rw[H];omega)) (EvQ.bindN (qce (by omega)) (EvQ.bindN (qce (by omega)) ?_));have e:W64 (((r+1:Nat):Int)-1)=(r:Int):=by rw[qU (by omega) (by omega)];omega
  rw[e];refine(ih _ _ _ _ b (by rw[jg,ji];omega) (by rw[jg,jg,ji,ji];omega) (qbL m (by show(_++_:ByteArray).size≤_;rw[ByteArray.size_append,H];omega))
   (qbL t ⟨⟨by show(_++_:ByteArray).size≤_;rw[ByteArray.size_append,F];omega,qaC (x:=T) (by omega) (by omega),⟨by show(_++_:List Int).length≤_;rw[jg,ji];omega,qbL c (qaC (by omega) (by omega))⟩⟩,by show _≤(_++_:List Int).length;rw[jg,ji];omega,by show(_++_:List Int).length≤_;rw[jg,ji];omega⟩)).mono (fun o k=>⟨⟨k.1.1,by rw[k.1.2.1,jg,ji];omega,k.1.2.2⟩,k.2⟩)
theorem qhe {α:Type}{ok:α→Prop}{xs:List α}{j:Int}{y:α}(h:∀ x,x ∈ xs→ok x)(b:ok y):∀ x,x ∈ setS xs j y→ok x:=by
 intro x a;unfold setS at a;rcases List.mem_or_eq_of_mem_set a with a|rfl
 ·exact h x a
 ·exact b
theorem qvN {wild:Bool}{p:List ByteArray}{h:List qF}(J:h.length≤14)(u:p.length≤100)(m:CodeOk code):∀ (d j:Nat) (x:List qF) (i l:Int),SrcI code i l→j+d=h.length→x.length=h.length→(∀ y,y ∈ x→InsI y) →
  EvQ (fun n=>qdX ⟨code,a,s⟩ wild p h n x i l (j:Int)) (fun o=>(o.1.length=h.length∧∀ y,y ∈ o.1→InsI y)∧SrcI code o.2.1 o.2.2.1):=by
 intro d
 induction d with
 | zero=>
  intro j x i l c t k f;refine EvQ.succ ?_;simp only[qdX];exact EvQ.ff (qt (by omega)) (EvQ.done ⟨⟨k,f⟩,c⟩)
 | succ d ih=>
  intro j x i l c t k f;have g:j<x.length:=by omega
  refine EvQ.succ ?_;simp only[qdX,wS j];refine EvQ.tt (qr (by omega)) (EvQ.bind (R:=fun o:Int×Int×Bool=>SrcI code o.1 o.2.1) (EvQ.bind (qal 4 m c) ?_) ?_)
  ·rintro⟨D,F,H⟩ ⟨_,c⟩;refine EvQ.bif (fun _=>?_) (fun _=>EvQ.done c);refine EvQ.bindN (qa2 g) (EvQ.bif (fun _=>EvQ.done c) (fun _=>EvQ.bindN (qa2 g) (EvQ.bif (fun _=>EvQ.done c) (fun _=>EvQ.done c))))
  ·rintro⟨v,z,I⟩ c;dsimp only at c ⊢;refine EvQ.bif (fun _=>?_) (fun _=>ih (j+1) x _ _ c (by omega) k f);refine EvQ.bindN (qa2 g) (EvQ.bind (qal _ m c) ?_);rintro⟨A,B,C⟩ ⟨_,c⟩;have hi:=f _ (jo g);have r:0<x[j].Aj.length:=by have:=hi.l2;omega
   refine EvQ.bindN (b:=x[j].Aj[0]) (qa2 (j:=0) r) ?_;refine ih (j+1) _ _ _ c (by omega) (by rw[qbd];exact k) (qhe f ⟨⟨hi.ok.Ba,hi.ok.Bp,⟨by show(setS _ _ _).length≤_;rw[qbd];exact hi.ok.Aj.1,qhe hi.ok.Aj.2 (qaR _)⟩⟩,by show _≤(setS _ _ _).length;rw[qbd];exact hi.l2,by show(setS _ _ _).length≤_;rw[qbd];exact hi.l5⟩)
structure DesI (d:qi):Prop where
 ok:qjm d
 sm:smallD d
 n1:1≤d.Aj.length
 p1:1≤d.Ah.length
theorem qtO {most:Int}{wild:Bool}(K:2≤most)(J:most≤14)(g:CodeOk code)(h:SrcI code a s) :
  EvQ (fun n=>qjh n ⟨code,a,s⟩ most wild) (fun o=>DesI o.1∧SrcI code o.2.1 o.2.2):=by
 have z:∀ x:Int,-1000≤x→x≤1000→okI x:=fun x F K=>qaC (by omega) (by omega);unfold qjh;refine EvQ.bindN (ql7 (by simp)) (EvQ.bind (qal _ g h) ?_);rintro⟨u,O,S⟩ ⟨⟨⟨q0,C⟩,_⟩,b⟩;have I:W64 (most-1)=most-1:=qU (by omega) (by omega);rw[I] at C;dsimp only at q0 C b ⊢;have q2:=C (by omega);obtain⟨m,M⟩:∃ m:Nat,2+u=(m:Int):=⟨(2+u).toNat,by omega⟩;rw[wO (2+u),M];have r:∀ y,y ∈ [(⟨#[110,99,107]⟩:ByteArray),(⟨#[110,97]⟩:ByteArray),(⟨#[110,98]⟩:ByteArray)]→okS y:=by
  intro y f;simp only[jG,jy,or_false] at f;rcases f with rfl|rfl|rfl
  ·show(3:Nat)≤1048576;decide
  ·show(2:Nat)≤1048576;decide
  ·show(2:Nat)≤1048576;decide
 refine EvQ.bind (quV g m _ [] O S b (by simp;omega) Z r (fun _ h=>by cases h)) ?_;rintro⟨p,D,i4,i5,i6⟩ ⟨⟨A,B,H,hi⟩,b⟩;dsimp only at A B H hi b ⊢;have B:D.length=m:=by simpa using B
 refine EvQ.bind (qvN (wild:=wild) (by omega) (by omega) g D.length 0 D i4 i5 b (by omega) Z hi) ?_;rintro⟨c,P,Q,R⟩ ⟨⟨v,d⟩,b⟩;dsimp only at v d b ⊢;have N:∀ y,y ∈ [(⟨(⟨#[99,107]⟩:ByteArray),1,0⟩:qau),(⟨(⟨#[97]⟩:ByteArray),1,1⟩:qau),(⟨(⟨#[98]⟩:ByteArray),1,2⟩:qau)]→qpX y:=by
  intro y f;simp only[jG,jy,or_false] at f;rcases f with rfl|rfl|rfl
  ·exact⟨by show(2:Nat)≤1048576;decide,z _ (by decide) (by decide),z _ (by decide) (by decide)⟩
  ·exact⟨by show(1:Nat)≤1048576;decide,z _ (by decide) (by decide),z _ (by decide) (by decide)⟩
  ·exact⟨by show(1:Nat)≤1048576;decide,z _ (by decide) (by decide),z _ (by decide) (by decide)⟩
 refine EvQ.bindN (ql7 (by simp)) (EvQ.bindN (qce (by simp)) (EvQ.bind (qal 2 g b) ?_));have l:=qbL (y:=(⟨(⟨#[121]⟩:ByteArray),2,W64 ((p.length:Int)-1)⟩:qau)) N ⟨by show(1:Nat)≤1048576;decide,z 2 (by decide) (by decide),qaR _⟩;have fin:∀ {ps:List qau},1≤ps.length→ps.length≤8→(∀ y,y ∈ ps→qpX y)→DesI ⟨c,p,ps⟩:=fun {ps} F L t=>by
  refine⟨⟨⟨by show c.length≤_;omega,fun y f=>(d y f).ok⟩,⟨by show p.length≤_;omega,H⟩,⟨by show ps.length≤_;omega,t⟩⟩,⟨by show c.length≤_;omega,by show p.length≤_;omega,L,fun i hi=>?_⟩,by show 1≤p.length;omega,F⟩;have k:i<c.length:=hi;have:=d _ (jo k);show 2≤(gt c i).Aj.length∧(gt c i).Aj.length≤5;rw[qdz k];exact⟨this.l2,this.l5⟩
 rintro⟨T,W,X⟩ ⟨_,b⟩;refine EvQ.bif (fun _=>?_) (fun _=>EvQ.done ⟨fin (by simp) (by simp) l,b⟩);refine EvQ.bind (qal _ g b) ?_;rintro⟨Y,e,a3⟩ ⟨_,b⟩;exact EvQ.bindN (qce (by simp)) (EvQ.done ⟨fin (by simp) (by simp) (qbL l ⟨by show(1:Nat)≤1048576;decide,z 2 (by decide) (by decide),qaR _⟩),b⟩)
end

section
variable {code:List (IntK .u8)}{a s:Int}
structure WirI (x:qad):Prop where
 ok:qm6 x
 p1:1≤x.Ai.length∧x.Ai.length≤100
 r1:1≤x.Bq.length
 c1:1≤x.Bl.length
 s1:x.Bb.length≤100
theorem qov {xs:List Int}(h:xs.length≤1048576):Ev (fun n=>qea n xs) xs:=by
 unfold qea;exact Ev.bindN (ql7 h) .done
theorem quH (t:CodeOk code):∀ (r:Nat) (d f g:List Int) (h m:Int),SrcI code h m→r≤10→(1≤d.length∧d.length+r≤50)→(1≤f.length∧f.length+r≤50)→(1≤g.length∧g.length+r≤50) →
  (∀ y,y ∈ d→okI y)→(∀ y,y ∈ f→okI y)→(∀ y,y ∈ g→okI y) →
  EvQ (fun n=>qcW ⟨code,a,s⟩ n d f g h m (r:Int)) (fun o=>(((1≤o.1.length∧o.1.length≤50)∧∀ y,y ∈ o.1→okI y)∧((1≤o.2.1.length∧o.2.1.length≤50)∧∀ y,y ∈ o.2.1→okI y)∧(1≤o.2.2.1.length∧o.2.2.1.length≤50)∧∀ y,y ∈ o.2.2.1→okI y)∧SrcI code o.2.2.2.1 o.2.2.2.2.1):=by
 intro r
 induction r with
 | zero=>
  intro d f g h m c D l1 l2 u i l p;refine EvQ.succ ?_;simp only[qcW];exact EvQ.ff Z (EvQ.done ⟨⟨⟨⟨l1.1,by dsimp only;omega⟩,i⟩,⟨⟨l2.1,by dsimp only;omega⟩,l⟩,⟨u.1,by dsimp only;omega⟩,p⟩,c⟩)
 | succ r ih=>
  intro d f g h m c D l1 l2 u i l p;have e:W64 (((r+1:Nat):Int)-1)=(r:Int):=by rw[qU (by omega) (by omega)];omega
  have b:∀ {x:Int} {k:Int},0≤x→x<k→k≤1000→okI x:=fun P i l=>qaC (by omega) (by omega);refine EvQ.succ ?_;simp only[qcW,e];refine EvQ.tt (by simp) (EvQ.bindE (qov (by omega)) (EvQ.bind (qal _ t c) ?_));rintro⟨F,H,I⟩ ⟨⟨⟨v,p1⟩,_⟩,c⟩;refine EvQ.bindN (qce (by omega)) (EvQ.bindE (qov (by omega)) (EvQ.bind (qal _ t c) ?_));rintro⟨J,K,L⟩ ⟨⟨⟨z,A⟩,_⟩,c⟩;refine EvQ.bindN (qce (by omega)) (EvQ.bindE (qov (by omega)) (EvQ.bind (qal _ t c) ?_));rintro⟨M,N,O⟩ ⟨⟨⟨B,C⟩,_⟩,c⟩;dsimp only at v p1 z A B C c;refine EvQ.bindN (qce (by omega)) ?_;exact ih _ _ _ _ _ c (by omega) (by rw[jg,ji];omega) (by rw[jg,ji];omega) (by rw[jg,ji];omega)
   (qbL i (b B (C (by decide)) (by decide))) (qbL l (b z (A (by decide)) (by decide))) (qbL p (b v (p1 (by omega)) (by omega)))
theorem quT {r1:qad}{i:List Int}(l:CodeOk code)(z:r1.Bb.length≤100)(v:1≤i.length∧i.length≤50):∀ (d j:Nat) (x:List Int) (f g:Int),SrcI code f g→j+d=r1.Bb.length→x.length=r1.Bb.length→(∀ y,y ∈ x→okI y) →
  EvQ (fun n=>qcX ⟨code,a,s⟩ r1 i n x f g (j:Int)) (fun o=>(o.1.length=r1.Bb.length∧∀ y,y ∈ o.1→okI y)∧SrcI code o.2.1 o.2.2.1):=by
 intro d
 induction d with
 | zero=>
  intro j x f g c m h b;refine EvQ.succ ?_;simp only[qcX];exact EvQ.ff (qt (by omega)) (EvQ.done ⟨⟨h,b⟩,c⟩)
 | succ d ih=>
  intro j x f g c m h b;refine EvQ.succ ?_;simp only[qcX,wS j];refine EvQ.tt (qr (by omega)) (EvQ.bind (qal _ l c) ?_);rintro⟨p,r,t⟩ ⟨⟨⟨u,k⟩,_⟩,c⟩;dsimp only at u k c ⊢;have A:=k (by omega);exact EvQ.bindN (qa2 (show j<x.length by omega)) (ih (j+1) _ _ _ c (by omega) (by rw[qbd];exact h) (qhe b (qaC (by omega) (by omega))))
theorem qvp {m:Nat}(R:m≤100)(c:CodeOk code)(h:SrcI code a s):EvQ (fun n=>qgS n ⟨code,a,s⟩ (m:Int)) (fun o=>WirI o.1∧SrcI code o.2.1 o.2.2):=by
 have z:∀ x:Int,-1000≤x→x≤1000→okI x:=fun x f g=>qaC (by omega) (by omega);unfold qgS;refine EvQ.bind (qal 6 c h) ?_;rintro⟨d,S,T⟩ ⟨⟨⟨N,p1⟩,_⟩,b⟩;dsimp only at N p1 b ⊢;have X:=p1 (by decide);have C:Ev (fun n=>qhU n (m:Int) d) (⟨[-1],[0],[d],List.replicate m 0⟩:qad):=by
  unfold qhU;exact Ev.bindN (qjX (by omega)) .done
 refine EvQ.bindE C (EvQ.bind (qal 4 c b) ?_);rintro⟨t,J,K⟩ ⟨⟨⟨O,v⟩,_⟩,b⟩;dsimp only at O v b ⊢;have Y:=v (by decide);obtain⟨r,rfl⟩:∃ r:Nat,t=(r:Int):=⟨t.toNat,by omega⟩;have one:∀ {x:Int},okI x→∀ y,y ∈ [x]→okI y:=fun D y i=>by obtain rfl:=List.mem_singleton.1 i;exact D
 refine EvQ.bind (quH c r [d] [0] [-1] J K b (by omega) (by simp;omega) (by simp;omega) (by simp;omega) (one (z _ (by omega) (by omega))) (one (z _ (by decide) (by decide))) (one (z _ (by decide) (by decide)))) ?_;rintro⟨P,Q,A,L,M,W⟩ ⟨⟨⟨l1,f⟩,⟨l2,g⟩,k,p⟩,b⟩;dsimp only at l1 f l2 g k p b ⊢;refine EvQ.bind (quT (r1:=⟨[-1],[0],[d],List.replicate m 0⟩) c (by simp;omega) k m 0 (List.replicate m 0) L M b (by simp) Z (fun y i=>by obtain⟨_,rfl⟩:=List.mem_replicate.1 i;exact z _ (by decide) (by decide))) ?_;rintro⟨l,F,H,I⟩ ⟨⟨u,B⟩,b⟩;have u:l.length=m:=by simpa using u
 exact EvQ.done ⟨⟨⟨⟨by show A.length≤_;omega,p⟩,⟨by show Q.length≤_;omega,g⟩,⟨by show P.length≤_;omega,f⟩,⟨by show l.length≤_;omega,B⟩⟩,⟨k.1,by show A.length≤_;omega⟩,l2.1,l1.1,by show l.length≤_;omega⟩,b⟩
structure BlkI (b:qe):Prop where
 lib:qgH b.Am
 des:DesI b.Aa
 wl:b.Ac.length=b.Aa.Aj.length
 wi:∀ y,y ∈ b.Ac→WirI y
theorem BlkI.ok {b:qe}(h:BlkI b):qha b:=⟨h.lib,h.des.ok,⟨by rw[h.wl];exact h.des.ok.Aj.1,fun y a=>(h.wi y a).ok⟩⟩
theorem qmg {most:Int}{wild:Bool}(u:2≤most)(m:most≤14)(p:CodeOk code)(h:SrcI code a s) :
  EvQ (fun n=>qef n ⟨code,a,s⟩ most wild) (fun o=>BlkI o.1∧SrcI code o.2.1 o.2.2):=by
 unfold qef;refine EvQ.bind (qvP p h) ?_;rintro⟨r1,I,J⟩ ⟨r,b⟩;refine EvQ.bind (qtO u m p b) ?_;rintro⟨c,F,H⟩ ⟨g,b⟩;dsimp only at r g b ⊢;have A:=g.sm.nn;have B:=qaQ g.sm;have i:∀ (d j:Nat) (x:List qad) (k l:Int),SrcI code k l→j+d=c.Aj.length→x.length=j→(∀ y,y ∈ x→WirI y) →
   EvQ (fun n=>qeT ⟨code,a,s⟩ c n x k l (j:Int)) (fun o=>(o.1.length=c.Aj.length∧∀ y,y ∈ o.1→WirI y)∧SrcI code o.2.1 o.2.2.1):=by
  intro d
  induction d with
  | zero=>
   intro j x k l b z D f;refine EvQ.succ ?_;simp only[qeT];exact EvQ.ff (qt (by omega)) (EvQ.done ⟨⟨by dsimp only;omega,f⟩,b⟩)
  | succ d ih=>
   intro j x k l b z D f;refine EvQ.succ ?_;simp only[qeT,wS j];have C:(sinksL c (j:Int) (places c).length).length≤78:=by
    have:(sinksL c (j:Int) (places c).length).length≤(places c).length:=by
     unfold sinksL;rw[jv];refine Je (List.length_filter_le _ _) ?_;rw[List.length_range];exact je _
    omega
   refine EvQ.tt (qr (by omega)) (EvQ.bindE (qj9 g.sm) (EvQ.bind (qvp (by omega) p b) ?_));rintro⟨P,N,O⟩ ⟨v,b⟩;exact EvQ.bindN (qce (by omega)) (ih (j+1) _ _ _ b (by omega) (by rw[jg,ji];omega) (qbL f v))
 refine EvQ.bind (i c.Aj.length 0 [] F H b (by omega) Z (fun _ h=>by cases h)) ?_;rintro⟨Q,K,L,M⟩ ⟨⟨l1,t⟩,b⟩;exact EvQ.done ⟨⟨r,g,l1,t⟩,b⟩
structure BlkO (b:qe):Prop where
 ok:qha b
 sm:smallD b.Aa
theorem qrJ (g:CodeOk code)(h:SrcI code a s):EvQ (fun n=>qhp n ⟨code,a,s⟩) (fun o=>BlkO o.1∧SrcI code o.2.1 o.2.2):=by
 unfold qhp;refine EvQ.bind (qal 3 g h) ?_;rintro⟨X,Y,i3⟩ ⟨_,d⟩;refine EvQ.bind (qmg (by decide) (by decide) g d) ?_;rintro⟨r1,i4,i5⟩ ⟨b,d⟩;dsimp only at b d ⊢;have D:1≤r1.Ac.length:=by rw[b.wl];exact b.des.n1
 have F:r1.Ac.length≤30:=by rw[b.wl];exact b.des.sm.nn
 refine EvQ.bind (qal _ g d) ?_;rintro⟨p,i7,i8⟩ ⟨⟨⟨O,r⟩,_⟩,d⟩;dsimp only at O r d ⊢;have q2:=r (by omega);obtain⟨k,rfl⟩:∃ k:Nat,p=(k:Int):=⟨p.toNat,by omega⟩;have i:k<r1.Ac.length:=by omega
 have c:=b.wi _ (jo i);have W:∀ {y:qad},qm6 y→BlkO ⟨r1.Am,r1.Aa,setS r1.Ac (k:Int) y⟩:=fun {y} h=>⟨⟨b.lib,b.des.ok,⟨by show(setS _ _ _).length≤_;rw[qbd];omega,qhe (fun y c=>(b.wi y c).ok) h⟩⟩,b.des.sm⟩;have z:∀ x:Int,-1000≤x→x≤1000→okI x:=fun x Q R=>qaC (by omega) (by omega);have S:=c.p1;have T:=c.r1;have u:=c.c1;have B:=c.s1;refine EvQ.bind (qal 20 g d) ?_;rintro⟨i9,H,I⟩ ⟨_,d⟩;dsimp only at d ⊢;refine EvQ.bif (fun _=>?_) (fun _=>EvQ.bif (fun _=>?_) (fun _=>EvQ.bif (fun _=>?_) (fun _=>EvQ.bif (fun _=>?_) (fun _=>EvQ.bif (fun _=>?_) (fun _=>EvQ.bif (fun _=>?_) (fun _=>EvQ.done ⟨⟨b.ok,b.des.sm⟩,d⟩))))))
 ·have e:subS r1.Ac 1 (r1.Ac.length:Int)=V (r1.Ac.drop 1):=by
   unfold subS;rw[if_pos (by omega)];simp
  refine EvQ.bindN e (EvQ.done ⟨⟨⟨b.lib,b.des.ok,⟨by show(r1.Ac.drop 1).length≤_;rw[List.length_drop];omega,fun y c=>(b.wi y (List.mem_of_mem_drop c)).ok⟩⟩,b.des.sm⟩,d⟩)
 ·refine EvQ.bindN (qa2 i) (EvQ.bindE (qov (by omega)) (EvQ.bindN (qce (by omega)) (EvQ.done ⟨W ⟨c.ok.Ai,c.ok.Bq,c.ok.Bl,⟨by show(_++_:List Int).length≤_;rw[jg,ji];omega,qbL c.ok.Bb.2 (z _ (by decide) (by decide))⟩⟩,d⟩)))
 ·refine EvQ.bindN (qa2 i) (EvQ.bindN (qa2 (j:=0) (show 0<r1.Ac[k].Bq.length by omega)) (EvQ.done ⟨W ⟨c.ok.Ai,⟨by show(setS _ _ _).length≤_;rw[qbd];exact c.ok.Bq.1,qhe c.ok.Bq.2 (z _ (by decide) (by decide))⟩,c.ok.Bl,c.ok.Bb⟩,d⟩))
 ·refine EvQ.bindN (qa2 i) (EvQ.bind (qal 3 g d) ?_);rintro⟨f,J,K⟩ ⟨⟨⟨P,t⟩,_⟩,d⟩;dsimp only at P t d ⊢;have t2:=t (by decide);have:f=0∨f=1∨f=2:=by omega
  have C:∃ v:Int,idx ([(-1),500,501]:List Int) f=V v∧okI v:=by
   rcases this with rfl|rfl|rfl
   ·exact⟨_,rfl,z _ (by decide) (by decide)⟩
   ·exact⟨_,rfl,z _ (by decide) (by decide)⟩
   ·exact⟨_,rfl,z _ (by decide) (by decide)⟩
  obtain⟨v,l,m⟩:=C;exact EvQ.bindN l (EvQ.bindN (qa2 (j:=0) (show 0<r1.Ac[k].Bl.length by omega)) (EvQ.done ⟨W ⟨c.ok.Ai,c.ok.Bq,⟨by show(setS _ _ _).length≤_;rw[qbd];exact c.ok.Bl.1,qhe c.ok.Bl.2 m⟩,c.ok.Bb⟩,d⟩))
 ·refine EvQ.bindN (qa2 i) (EvQ.bind (qal 5 g d) ?_);rintro⟨L,M,N⟩ ⟨_,d⟩;have e:W64 ((r1.Ac[k].Ai.length:Int)-1)=((r1.Ac[k].Ai.length-1:Nat):Int):=by rw[qU (by omega) (by omega)];omega
  dsimp only;rw[e];exact EvQ.bindN (qa2 (show r1.Ac[k].Ai.length-1<r1.Ac[k].Ai.length by omega)) (EvQ.done ⟨W ⟨⟨by show(setS _ _ _).length≤_;rw[qbd];exact c.ok.Ai.1,qhe c.ok.Ai.2 (qaR _)⟩,c.ok.Bq,c.ok.Bl,c.ok.Bb⟩,d⟩)
 ·have A:=b.des.p1;refine EvQ.bindN (qa2 (j:=0) (show 0<r1.Aa.Ah.length by omega)) (EvQ.done ⟨⟨⟨b.lib,⟨b.des.ok.Ab,b.des.ok.Aj,⟨by show(setS _ _ _).length≤_;rw[qbd];exact b.des.ok.Ah.1,qhe b.des.ok.Ah.2 ⟨(b.des.ok.Ah.2 _ (jo _)).Ba,z 3 (by decide) (by decide),(b.des.ok.Ah.2 _ (jo _)).Bv⟩⟩⟩,b.ok.Ac⟩,⟨b.des.sm.ni,b.des.sm.nn,by show(setS _ _ _).length≤_;rw[qbd];exact b.des.sm.np,b.des.sm.nx⟩⟩,d⟩)
end

def sumZ (f:Nat→Int):Nat→Int
 | 0=>0
 | n+1=>sumZ f n+f n
theorem qru {f g:Nat→Int}{n:Nat}(h:∀ u,u<n→f u=g u):sumZ f n=sumZ g n:=by
 induction n with
 | zero=>rfl
 | succ n ih=>unfold sumZ;rw[ih (fun u a=>h u (by omega)),h n (by omega)]
theorem qq8 {f g:Nat→Int}{a n:Nat}(d:a<n)(h:∀ u,u<n→u ≠ a→f u=g u):sumZ f n=sumZ g n+(f a-g a):=by
 induction n with
 | zero=>omega
 | succ n ih=>
  unfold sumZ;by_cases b:a=n
  ·subst b;rw[qru (fun u c=>h u (by omega) (by omega))];omega
  ·rw[ih (by omega) (fun u c=>h u (by omega)),h n (by omega) (by omega)];omega
theorem qug {f:Nat→Int}{n:Nat}(h:∀ u,u<n→0≤f u):0≤sumZ f n:=by
 induction n with
 | zero=>exact jR _
 | succ n ih=>unfold sumZ;have:=ih (fun u a=>h u (by omega));have:=h n (by omega);omega
theorem qqc {f:Nat→Int}{a n:Nat}(h:∀ u,u<n→0≤f u)(d:a<n):f a≤sumZ f n:=by
 induction n with
 | zero=>omega
 | succ n ih=>
  unfold sumZ;by_cases b:a=n
  ·subst b;have:=qug (fun u (c:u<a)=>h u (by omega));omega
  ·have:=ih (fun u c=>h u (by omega)) (by omega);have:=h n (by omega);omega
theorem quv {f:Nat→Int}{n:Nat}{c:Int}(h:∀ u,u<n→f u≤c):sumZ f n≤n*c:=by
 induction n with
 | zero=>simp[sumZ]
 | succ n ih=>
  unfold sumZ;have:=ih (fun u a=>h u (by omega));have:=h n (by omega);rw[Int.natCast_succ,Int.add_mul];omega
def pinCap (b:qe)(p:Tplace):Int:=bif decide (p.instance_<0) then 0 else(gt (cellAt b p.instance_).Ay p.pin.toNat).Bl
def capJ (b:qe)(j:Nat):Int:=pinCap b (gt (places b.Aa) j)
theorem qtL {b:qe}(h:blockB b=true){j:Nat}(d:j<(places b.Aa).length){n:Nat}:qgi n b.Aa b.Am (gt (places b.Aa) j)=V (capJ b j):=by
 have c:=qan h;unfold capJ pinCap;rcases qjV d with⟨i,k,hi,hk,_,e⟩|⟨i,hi,_,e⟩
 ·rw[e];obtain⟨⟨a,c1⟩,f,_⟩:=qgQ c hi;unfold place1 cellAt;simp only[qgi,show decide ((i:Int)<0)=false by simp,cond_false,qy hi,jd,qfw a c1,jr,qy (show k<(gt b.Am.Ap (gt b.Aa.Ab i).Bp.toNat).Ay.length by omega)]
 ·rw[e];rfl
theorem qt4 {b:qe}(h:blockB b=true){j:Nat}(f:j<(places b.Aa).length):0≤capJ b j∧capJ b j≤500:=by
 have d:=qan h;unfold capJ pinCap;rcases qjV f with⟨i,k,hi,hk,_,e⟩|⟨i,hi,_,e⟩
 ·rw[e];obtain⟨⟨g,c1⟩,l,c⟩:=qgQ d hi;unfold place1 cellAt;simp only[show decide ((i:Int)<0)=false by simp,cond_false,jr];have a:=qis c;unfold pinsB at a;rw[jf,qai] at a;have:=a.1 k (by omega);unfold pinB at this;cases hl:decide (k+1=(gt b.Am.Ap (gt b.Aa.Ab i).Bp.toNat).Ay.length)
  ·rw[hl] at this;simp only[cond_false,jf,qa5] at this;exact this.2
  ·rw[hl] at this;simp only[cond_true,jf,beq_iff_eq] at this;omega
 ·rw[e];exact⟨jR _,show(0:Int)≤500 by omega⟩
def skL (b:qe)(i:Nat):List Int:=sinksL b.Aa (i:Int) (places b.Aa).length
def addSink (b:qe)(w:qad)(sk:List Int)(t:List Int)(j:Nat):List Int:=setS t (at0 w.Bb j) (W64 (gt t (at0 w.Bb j).toNat+capJ b (at0 sk j).toNat))
def ldA (b:qe)(w:qad)(sk:List Int):Nat→List Int
 | 0=>w.Bl
 | j+1=>addSink b w sk (ldA b w sk j) j
def addUp (w:qad)(t:List Int)(j:Nat):List Int:=setS t (at0 w.Ai j) (W64 (gt t (at0 w.Ai j).toNat+gt t j))
def ldB (w:qad):Nat→List Int→List Int
 | 0,t=>t
 | j+1,t=>ldB w j (addUp w t (j+1))
def loadsL (b:qe)(i:Nat):List Int:=ldB (gt b.Ac i) ((gt b.Ac i).Ai.length-1) (ldA b (gt b.Ac i) (skL b i) (skL b i).length)
theorem qni {b:qe}{w:qad}{sk:List Int}{j:Nat}:(ldA b w sk j).length=w.Bl.length:=by
 induction j with
 | zero=>rfl
 | succ j ih=>unfold ldA addSink;rw[qbd,ih]
theorem quU {w:qad}{j:Nat}{t:List Int}:(ldB w j t).length=t.length:=by
 induction j generalizing t with
 | zero=>rfl
 | succ j ih=>unfold ldB addUp;rw[ih,qbd]
theorem qkS {b:qe}(h:blockB b=true){i:Nat}(hi:i<b.Ac.length):(loadsL b i).length=(gt b.Ac i).Ai.length:=by
 unfold loadsL;rw[quU,qni,(qbz h hi).cap]
theorem qgW {b:qe}(h:blockB b=true){i:Nat}:(skL b i).length≤78:=by
 have a:=qaQ (qX (qan h));unfold skL;rw[qix];have:cntP (snkQ b.Aa (i:Int)) (places b.Aa).length≤(places b.Aa).length:=qf2;omega
theorem qmN {b:qe}{i j:Nat}(a:j<(skL b i).length):∃ y:Nat,y<(places b.Aa).length∧at0 (skL b i) j=(y:Int)∧snkQ b.Aa (i:Int) y=true:=by
 obtain⟨y,c,d,f⟩:=qsp a;exact⟨y,c,by have:=d;rw[show(sinksL b.Aa (i:Int) (places b.Aa).length)=skL b i from rfl,qar a] at this;exact Option.some.inj this,f⟩
theorem qmR {b:qe}(h:blockB b=true){i:Nat}(hi:i<b.Ac.length):Ev (fun n=>qdC n b (i:Int)) (loadsL b i):=by
 have c:=qbz h hi;have m:=qX (qan h);have u:=c.lo;have r:=c.hi;have d:=c.cap;have x:=qgW h (i:=i);have e1:Ev (fun n=>qbw b (gt b.Ac i) (places b.Aa) (skL b i) n (gt b.Ac i).Bl 0) (ldA b (gt b.Ac i) (skL b i) (skL b i).length,((skL b i).length:Int)):=by
  refine loopF (Lf:=qbw b (gt b.Ac i) (places b.Aa) (skL b i)) (S:=ldA b (gt b.Ac i) (skL b i)) (len:=(skL b i).length) (fun n=>?_) (fun j a X l=>?_)
  ·simp only[qbw,qt (je _),cond_false]
  ·obtain⟨y,o,k,_⟩:=qmN a;have f:j<(gt b.Ac i).Bb.length:=by rw[c.snk];exact a
   have g:=c.sin j f;have s:=qni (b:=b) (w:=gt b.Ac i) (sk:=skL b i) (j:=j);simp only[qbw,qr a,cond_true,qar a,k,jd,qar f,qfw g.1 (show at0 (gt b.Ac i).Bb j<((ldA b (gt b.Ac i) (skL b i) j).length:Int) by omega),qy o,qtL h o,wS j];have:ldA b (gt b.Ac i) (skL b i) (j+1)=setS (ldA b (gt b.Ac i) (skL b i) j) (at0 (gt b.Ac i).Bb j) (W64 (gt (ldA b (gt b.Ac i) (skL b i) j) (at0 (gt b.Ac i).Bb j).toNat+capJ b y)):=by
    show addSink _ _ _ _ _=_;unfold addSink;rw[k,jr]
   rw[this] at l;exact l
 have p:∀ j t,t.length=(gt b.Ac i).Ai.length→j<(gt b.Ac i).Ai.length→Ev (fun n=>qbn (gt b.Ac i) n t (j:Int)) (ldB (gt b.Ac i) j t,0):=by
  intro j
  induction j with
  | zero=>
   intro t _ _;refine Ev.succ ?_;show Ev (fun n=>qbn (gt b.Ac i) (n+1) t 0) _;unfold qbn;exact Ev.ff Z .done
  | succ j ih=>
   intro t z a;have v:=c.par (j+1) (by omega) a;refine Ev.succ ?_;simp only[qbn,show decide (((j+1:Nat):Int) > 0)=true from decide_eq_true (by omega),cond_true,qar a,jd,qfw v.1 (show at0 (gt b.Ac i).Ai (j+1)<(t.length:Int) by omega),qy (show j+1<t.length by omega),show((j+1:Nat):Int)-1=(j:Int) by omega,qU (show -9223372036854775808≤(j:Int) by omega) (by omega)];exact ih _ (by rw[qbd];exact z) (by omega)
 unfold qdC qhy;rw[qy hi];simp only[jd,qcE (show([]:List Int).length+(gt b.Ac i).Bl.length≤2147483648 by simp;omega),List.nil_append];refine Ev.bind (qme m) (Ev.bind (qpo m) (Ev.bind e1 ?_));rw[qfb (show(gt b.Ac i).Bl.length≤9223372036854775807 by omega),show((gt b.Ac i).Bl.length:Int)-1=(((gt b.Ac i).Ai.length-1:Nat):Int) by omega];exact Ev.bind (p _ _ (by rw[qni];exact d) (by omega)) .done
structure LdOk (t:List Int)(L:Nat)(S:Int):Prop where
 len:t.length=L
 nn:∀ k,k<L→0≤gt t k
 sum:sumZ (gt t) L≤S
theorem qkR {t:List Int}{a:Nat}{y:Int}{k:Nat}(b:a<t.length):gt (setS t (a:Int) y) k=if k=a then y else gt t k:=by
 unfold setS;rw[jr];by_cases h:k=a
 ·subst h;rw[if_pos Z,qn6 b]
 ·rw[if_neg h,qpJ h]
theorem qvn {b:qe}(h:blockB b=true){i:Nat}(hi:i<b.Ac.length)(m:∀ k,k<(gt b.Ac i).Bl.length→0≤gt (gt b.Ac i).Bl k∧gt (gt b.Ac i).Bl k≤500) :
  ∀ j,j≤(skL b i).length→LdOk (ldA b (gt b.Ac i) (skL b i) j) (gt b.Ac i).Ai.length (4000+500*j):=by
 have p:=qbz h hi;have z:=p.hi;have l:=p.cap;have A:=qgW h (i:=i);intro j
 induction j with
 | zero=>
  intro _;refine⟨l,fun k t=>(m k (by omega)).1,?_⟩;have:=quv (f:=gt (gt b.Ac i).Bl) (n:=(gt b.Ac i).Ai.length) (c:=500) (fun u H=>(m u (by omega)).2);show sumZ (gt (gt b.Ac i).Bl) _≤_;omega
 | succ j ih=>
  intro D;obtain⟨l1,n1,s1⟩:=ih (by omega);obtain⟨y,B,v,_⟩:=qmN (show j<(skL b i).length by omega);have C:=qt4 h B;have o:=p.sin j (by rw[p.snk];exact(show j<(skL b i).length by omega));obtain⟨a,s⟩:∃ a:Nat,at0 (gt b.Ac i).Bb j=(a:Int):=⟨_,qfm o.1⟩;rw[s] at o;have d:a<(gt b.Ac i).Ai.length:=by omega
  have x:=qqc n1 d;have F:=n1 a d;have e:ldA b (gt b.Ac i) (skL b i) (j+1)=setS (ldA b (gt b.Ac i) (skL b i) j) (a:Int) (gt (ldA b (gt b.Ac i) (skL b i) j) a+capJ b y):=by
   show addSink _ _ _ _ _=_;unfold addSink;rw[v,s,jr,jr,qU (by omega) (by omega)]
  rw[e];refine⟨by rw[qbd];exact l1,fun k t=>?_,?_⟩
  ·rw[qkR (by omega)];split
   ·omega
   ·exact n1 k t
  ·rw[qq8 (g:=gt (ldA b (gt b.Ac i) (skL b i) j)) d (fun u _ r=>by rw[qkR (by omega),if_neg r]),qkR (by omega),if_pos Z];omega
theorem qvo {b:qe}(h:blockB b=true){i:Nat}(hi:i<b.Ac.length){S:Int}(A:S≤1000000000):∀ j t,j<(gt b.Ac i).Ai.length→t.length=(gt b.Ac i).Ai.length→(∀ k,k<t.length→0≤gt t k∧gt t k≤S)→sumZ (gt t) (j+1)≤S →
  ∀ k,k<t.length→0≤gt (ldB (gt b.Ac i) j t) k∧gt (ldB (gt b.Ac i) j t) k≤S:=by
 have x:=qbz h hi;intro j
 induction j with
 | zero=>intro t _ _ c _;exact c
 | succ j ih=>
  intro t s v c r;have p:=x.par (j+1) (by omega) s;obtain⟨a,o⟩:∃ a:Nat,at0 (gt b.Ac i).Ai (j+1)=(a:Int):=⟨_,qfm p.1⟩;rw[o] at p;have y:=c a (by omega);have z:=c (j+1) (by omega);have e:addUp (gt b.Ac i) t (j+1)=setS t (a:Int) (gt t a+gt t (j+1)):=by
   unfold addUp;rw[o,jr,qU (by omega) (by omega)]
  have n:sumZ (gt (setS t (a:Int) (gt t a+gt t (j+1)))) (j+1)≤S:=by
   rw[qq8 (g:=gt t) (a:=a) (by omega) (fun u _ l=>by rw[qkR (by omega),if_neg l]),qkR (by omega),if_pos Z];have:sumZ (gt t) (j+1+1)=sumZ (gt t) (j+1)+gt t (j+1):=rfl;omega
  unfold ldB;rw[e];have:=ih (setS t (a:Int) (gt t a+gt t (j+1))) (by omega) (by rw[qbd];exact v) (fun k f=>by
   rw[qbd] at f;have m:∀ u,u<j+1→0≤gt (setS t (a:Int) (gt t a+gt t (j+1))) u:=fun u B=>by
    rw[qkR (by omega)];split
    ·omega
    ·exact(c u (by omega)).1
   have d:=qqc m (show a<j+1 by omega);rw[qkR (by omega)] at d ⊢;rw[if_pos Z] at d;split
   ·omega
   ·exact c k f) n
  rw[qbd] at this;exact this
theorem qn7 {b:qe}(h:blockB b=true){i:Nat}(hi:i<b.Ac.length):(∀ k,k<(gt b.Ac i).Bl.length→0≤gt (gt b.Ac i).Bl k∧gt (gt b.Ac i).Bl k≤500)∧(∀ k,k<(gt b.Ac i).Bq.length→0≤at0 (gt b.Ac i).Bq k∧at0 (gt b.Ac i).Bq k≤1000):=by
 unfold blockB at h;rw[jf,qai] at h;have:=h.2 i hi;unfold wireB lenB at this;simp only[jf,decide_eq_true_eq,beq_iff_eq] at this;obtain⟨_,_,_,_,f,c,_⟩:=this;rw[qgI (d:=0),qai] at f c;exact⟨fun k a=>by have:=c k a;rw[qa5] at this;exact this,fun k a=>by have:=f k a;rw[qa5] at this;exact this⟩
theorem qrU {b:qe}(h:blockB b=true){i:Nat}(hi:i<b.Ac.length){k:Nat}(c:k<(gt b.Ac i).Ai.length):0≤gt (loadsL b i) k∧gt (loadsL b i) k≤43000:=by
 have g:=qbz h hi;have d:=g.lo;have f:=qgW h (i:=i);obtain⟨l1,n1,s1⟩:=qvn h hi (qn7 h hi).1 (skL b i).length (je _);have:=qvo h hi (S:=43000) (by omega) ((gt b.Ac i).Ai.length-1) (ldA b (gt b.Ac i) (skL b i) (skL b i).length) (by omega) l1 (fun k c=>by
  have a:=n1 k (by omega);have l:=qqc n1 (show k<(gt b.Ac i).Ai.length by omega);exact⟨a,by omega⟩) (by rw[show(gt b.Ac i).Ai.length-1+1=(gt b.Ac i).Ai.length by omega];omega) k (by omega)
 exact this
def dlL (w:qad)(ld:List Int):Nat→List Int
 | 0=>[0]
 | k+1=>dlL w ld k++[W64 (gt (dlL w ld k) (at0 w.Ai (k+1)).toNat+W64 (at0 w.Bq (k+1)*gt ld (k+1)))]
theorem qm5 {w:qad}{ld:List Int}{k:Nat}:(dlL w ld k).length=k+1:=by
 induction k with
 | zero=>rfl
 | succ k ih=>unfold dlL;rw[jg,ih];rfl
def delaysL (b:qe)(i:Nat):List Int:=dlL (gt b.Ac i) (loadsL b i) ((gt b.Ac i).Ai.length-1)
def exactL (b:qe)(i:Nat):List Int:=(gt b.Ac i).Bb.map fun s=>gt (delaysL b i) s.toNat
theorem qlS {b:qe}(h:blockB b=true){i:Nat}(hi:i<b.Ac.length):(delaysL b i).length=(gt b.Ac i).Ai.length:=by
 unfold delaysL;rw[qm5];have:=(qbz h hi).lo;omega
theorem qut {w:qad}{ld:List Int}{k m:Nat}(b:k+1<m)(c:at0 w.Ai (k+1)<((k+1:Nat):Int))(_:0≤at0 w.Ai (k+1)) :
  setS (dlL w ld k++List.replicate (m-(k+1)) 0) ((k+1:Nat):Int) (W64 (gt (dlL w ld k++List.replicate (m-(k+1)) 0) (at0 w.Ai (k+1)).toNat+W64 (at0 w.Bq (k+1)*gt ld (k+1))))=dlL w ld (k+1)++List.replicate (m-(k+1+1)) 0:=by
 have a:=qm5 (w:=w) (ld:=ld) (k:=k);have e1:gt (dlL w ld k++List.replicate (m-(k+1)) 0) (at0 w.Ai (k+1)).toNat=gt (dlL w ld k) (at0 w.Ai (k+1)).toNat:=by
  rw[qkx,if_pos (by omega)]
 rw[e1];unfold setS;rw[jr,List.set_append,if_neg (by omega),a,Nat.sub_self,show m-(k+1)=(m-(k+1+1))+1 by omega,List.replicate_succ,List.set_cons_zero];show _=(dlL w ld k++[_])++_;rw[jt]
 rfl
theorem qpd {b:qe}(h:blockB b=true){i:Nat}(hi:i<b.Ac.length):Ev (fun n=>qeJ n b (i:Int)) (delaysL b i):=by
 have f:=qbz h hi;have s:=f.lo;have p:=f.hi;have o:=f.res;have l1:=qkS h hi;have l:mkS ((loadsL b i).length:Int) (0:Int)=V (List.replicate (loadsL b i).length 0):=que (by omega);have c:∀ d k,k+1+d=(gt b.Ac i).Ai.length→Ev (fun n=>qbO (gt b.Ac i) (loadsL b i) (List.replicate (loadsL b i).length 0) n (dlL (gt b.Ac i) (loadsL b i) k++List.replicate ((gt b.Ac i).Ai.length-(k+1)) 0) ((k+1:Nat):Int)) (delaysL b i,((loadsL b i).length:Int)):=by
  intro d
  induction d with
  | zero=>
   intro k g;refine Ev.succ ?_;simp only[qbO,jC,qt (show(loadsL b i).length≤k+1 by omega),cond_false];refine Ev.now ?_;rw[show(gt b.Ac i).Ai.length-(k+1)=0 by omega,List.replicate_zero,Jc,l1,←g];unfold delaysL;rw[←g]
   rfl
  | succ d ih=>
   intro k g;have m:=f.par (k+1) (by omega) (by omega);have a:=qm5 (w:=gt b.Ac i) (ld:=loadsL b i) (k:=k);have r:(dlL (gt b.Ac i) (loadsL b i) k++List.replicate ((gt b.Ac i).Ai.length-(k+1)) 0).length=(gt b.Ac i).Ai.length:=by rw[jg,jC,a];omega
   refine Ev.succ ?_;simp only[qbO,jC,qr (show k+1<(loadsL b i).length by omega),cond_true,qar (show k+1<(gt b.Ac i).Ai.length by omega),jd,qfw m.1 (show at0 (gt b.Ac i).Ai (k+1)<((dlL (gt b.Ac i) (loadsL b i) k++List.replicate ((gt b.Ac i).Ai.length-(k+1)) 0).length:Int) by omega),
    qar (show k+1<(gt b.Ac i).Bq.length by omega),qy (show k+1<(loadsL b i).length by omega),qy (show k+1<(dlL (gt b.Ac i) (loadsL b i) k++List.replicate ((gt b.Ac i).Ai.length-(k+1)) 0).length by omega),qhh (show k+1<9223372036854775807 by omega)]
   rw[qut (by omega) m.2 m.1];exact ih (k+1) (by omega)
 unfold qeJ;rw[qy hi];simp only[jd];refine Ev.bind (qmR h hi) ?_;rw[l];simp only[jd];have:=c ((gt b.Ac i).Ai.length-1) 0 (by omega);have e0:dlL (gt b.Ac i) (loadsL b i) 0++List.replicate ((gt b.Ac i).Ai.length-(0+1)) 0=List.replicate (loadsL b i).length 0:=by
  rw[l1];show[(0:Int)]++_=_;rw[show(gt b.Ac i).Ai.length=((gt b.Ac i).Ai.length-(0+1))+1 by omega,List.replicate_succ]
  rfl
 rw[e0] at this;exact Ev.bind this .done
theorem qoM {b:qe}(h:blockB b=true){i:Nat}(hi:i<b.Ac.length):Ev (fun n=>qec n b (i:Int)) (exactL b i):=by
 have d:=qbz h hi;have l:(gt b.Ac i).Bb.length≤78:=by rw[d.snk];exact qgW h
 have k:=qlS h hi;have f:Ev (fun n=>qa1 (delaysL b i) (gt b.Ac i) n ([]:List Int) 0) (exactL b i,((gt b.Ac i).Bb.length:Int)):=by
  refine loopF (Lf:=qa1 (delaysL b i) (gt b.Ac i)) (S:=fun j=>((gt b.Ac i).Bb.take j).map fun s=>gt (delaysL b i) s.toNat) (len:=(gt b.Ac i).Bb.length) (fun n=>?_) (fun j a X g=>?_)
  ·simp only[qa1,qt (je _),cond_false,jJ];rfl
  ·have c:=d.sin j a;simp only[qa1,qr a,cond_true,qar a,jd,qfw c.1 (show at0 (gt b.Ac i).Bb j<((delaysL b i).length:Int) by omega),wS j];rw[qcE (by rw[jv,Jd,ji];omega)];have:((gt b.Ac i).Bb.take j).map (fun s=>gt (delaysL b i) s.toNat)++[gt (delaysL b i) (at0 (gt b.Ac i).Bb j).toNat]=((gt b.Ac i).Bb.take (j+1)).map fun s=>gt (delaysL b i) s.toNat:=by
    rw[jE a,jT,ql1 a];rfl
   rw[this];exact g
 unfold qec;refine Ev.bind (qpd h hi) ?_;rw[qy hi];simp only[jd];exact Ev.bind f .done
theorem qqP {b:qe}(h:blockB b=true){i:Nat}(hi:i<b.Ac.length):∀ k,k<(gt b.Ac i).Ai.length→∀ m,m≤k→0≤gt (dlL (gt b.Ac i) (loadsL b i) k) m∧gt (dlL (gt b.Ac i) (loadsL b i) k) m≤43000000*k:=by
 have l:=qbz h hi;have t:=l.hi;have r:=l.res;intro k
 induction k with
 | zero=>
  intro _ m u;have f:m=0:=by omega
  subst f;exact⟨jR _,jR _⟩
 | succ k ih=>
  intro o m u;have c:=qm5 (w:=gt b.Ac i) (ld:=loadsL b i) (k:=k);unfold dlL;rw[qkx];split
  ·have:=ih (by omega) m (by omega);omega
  ·have g:m=k+1:=by omega
   subst g;rw[c,Nat.sub_self];show 0≤W64 _∧W64 _≤_;have p:=l.par (k+1) (by omega) o;obtain⟨a,s⟩:∃ a:Nat,at0 (gt b.Ac i).Ai (k+1)=(a:Int):=⟨_,qfm p.1⟩;rw[s] at p ⊢;rw[jr];have v:=ih (by omega) a (by omega);have n:=(qn7 h hi).2 (k+1) (by omega);have d:=qrU h hi o;have x:at0 (gt b.Ac i).Bq (k+1)*gt (loadsL b i) (k+1)≤1000*43000:=jS n.2 d.2 d.1 (by omega);have y:0≤at0 (gt b.Ac i).Bq (k+1)*gt (loadsL b i) (k+1):=jP n.1 d.1;rw[wO (at0 (gt b.Ac i).Bq (k+1)*gt (loadsL b i) (k+1)),qU (by omega) (by omega)];omega
theorem qmH {b:qe}(h:blockB b=true){i:Nat}(hi:i<b.Ac.length){j:Nat}(a:j<(gt b.Ac i).Bb.length):0≤gt (exactL b i) j∧gt (exactL b i) j≤344000000:=by
 have c:=qbz h hi;have d:=c.hi;have f:=c.sin j a;have e:gt (exactL b i) j=gt (delaysL b i) (at0 (gt b.Ac i).Bb j).toNat:=by
  unfold exactL;rw[qdz (by rw[jv];exact a),List.getElem_map,ql1 a]
 rw[e];have:=qqP h hi ((gt b.Ac i).Ai.length-1) (by omega) (at0 (gt b.Ac i).Bb j).toNat (by omega);show 0≤gt (dlL _ _ _) _∧gt (dlL _ _ _) _≤_;omega
end Go.Fw
