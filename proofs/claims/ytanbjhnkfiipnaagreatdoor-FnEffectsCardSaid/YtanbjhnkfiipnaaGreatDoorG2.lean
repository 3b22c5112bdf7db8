/- By a program of mine (gen.py): for each function a plain function and the proof that the code computes it. -/
import Derived.Test.YtanbjhnkfiipnaaGreatDoorZ2
import Derived.Test.YtanbjhnkfiipnaaGreatDoorG1
import Derived.Test.YtanbjhnkfiipnaaGreatDoorFw30
open Option renaming bind_some → je
open Nat renaming le_refl → jf, le_of_ble_eq_true → jr, lt_of_lt_of_le → js, mul_le_mul_right → jt, zero_le → jw, succ_mul → jE, le_trans → jR, zero_add → jS
open List renaming length_append → jg, length_singleton → jj, getElem?_eq_getElem → jm, mem_cons_of_mem → jo, mem_cons_self → jp, getElem_mem → jq, mem_of_getElem? → ju, eq_nil_of_length_eq_zero → jx, getD_eq_getElem?_getD → jy, not_mem_nil → jz, length_map → jB, getElem?_append_left → jC, getElem?_take → jF, getElem?_toArray → jG, getElem?_append_right → jH, mem_cons → jI, size_toArray → jJ, append_nil → jL, getElem_of_mem → jM, take_length → jN, append_assoc → jO, all_eq_true → jQ
open Bool renaming and_eq_true → jh, eq_iff_iff → jk, true_and → jv, not_eq_true' → jD, and_assoc → jP, not_true → jT
open Go.Result renaming andThen_ok → ji
open Go.Sem renaming run_bind → jl, run_pure → jn
open Int renaming toNat_natCast → jA
open Array renaming getElem?_append_left → jK

namespace Go.Fw
open Go Go.Proofs
open Go.RowKit (Below)
set_option maxRecDepth 100000
set_option maxHeartbeats 6400000
variable {n:Nat} {w:World} {cs1 cs2 cs3 cs4 cs5 cs6 cs7 cs8 cs9:List Value}
def qaR (a_0:Tl01Source) (a_2:(List Int)):Nat→(List Int)→Int→Int→Int→Option ((List Int) × Int × Int × Int)
 | 0,_,_,_,_=>none
 | n+1,x3,i13,i14,i15 =>
  bif decide (i15<(a_2.length:Int)) then
   (
    bif decide ((x3.length:Int)<2) then
     (ql n (⟨a_0.code,i13,i14⟩:Tl01Source) 5).bind fun o=>match o with
      | (i18,i19,i20) =>
       some (i19,i20,(i18==0))
    else
     some (i13,i14,false)).bind fun o=>match o with
    | (i16,i17,b1) =>
     bif b1 then
      (idx a_2 i15).bind fun y1 =>
      (appS x3 ([y1]:List Int)).bind fun x4 =>
      (appS ([]:List Int) x4).bind fun x5 =>
      qaR a_0 a_2 n x5 i16 i17 (W64 (i15+1))
     else
      qaR a_0 a_2 n x3 i16 i17 (W64 (i15+1))
  else
   some (x3,i13,i14,i15)
def qdE (n:Nat) (a_0:Tl01Source) (a_1:qc) (a_2:(List Int)):Option (qa × Int × Int) :=
 (ql n (⟨a_0.code,a_0.at_,a_0.seed⟩:Tl01Source) 4).bind fun o=>match o with
  | (i1,i2,i3) =>
   (
    bif ((W64 (1+i1))==2) then
     (ql n (⟨a_0.code,i2,i3⟩:Tl01Source) 4).bind fun o=>match o with
      | (i33,i34,i35) =>
       some (i34,i35,W64 (1+i33))
    else
     bif ((W64 (1+i1))==3) then
      bif ((W64 (1+i1))==3) then
       (ql n (⟨a_0.code,i2,i3⟩:Tl01Source) 40).bind fun o=>match o with
        | (i36,i37,i38) =>
         some (i37,i38,W64 (10*i36))
      else
       some (i2,i3,0)
     else
      bif ((W64 (1+i1))==4) then
       (ql n (⟨a_0.code,i2,i3⟩:Tl01Source) 40).bind fun o=>match o with
        | (i39,i40,i41) =>
         some (i40,i41,W64 (10*i39))
      else
       some (i2,i3,0)).bind fun o=>match o with
    | (i4,i5,i6) =>
     (ql n (⟨a_0.code,i4,i5⟩:Tl01Source) 2).bind fun o=>match o with
      | (i7,i8,i9) =>
       (
        bif (i7==0) then
         (idx a_2 0).bind fun y3 =>
         some ([y3]:List Int)
        else
         some ([]:List Int)).bind fun x1 =>
       (ql n (⟨a_0.code,i8,i9⟩:Tl01Source) 2).bind fun o=>match o with
        | (i10,i11,i12) =>
         (
          bif (i10==0) then
           (idx a_2 (W64 ((a_2.length:Int)-1))).bind fun y2 =>
           some ([y2]:List Int)
          else
           some ([]:List Int)).bind fun x2 =>
         (qaR a_0 a_2 n ([]:List Int) i11 i12 0).bind fun o=>match o with
         | (x3,i13,i14,_) =>
          (ql n (⟨a_0.code,i13,i14⟩:Tl01Source) 12).bind fun o=>match o with
           | (i21,i22,i23) =>
            bif (i21==0) then
             (qaw n a_1).bind fun r1 =>
             (ql n (⟨a_0.code,i22,i23⟩:Tl01Source) r1).bind fun o=>match o with
              | (i24,i25,i26) =>
               some ((⟨W64 (1+i1),i6,([i24]:List Int),x3,x2⟩:qa),i25,i26)
            else
             bif (i21==1) then
              (qaw n a_1).bind fun r2 =>
              (ql n (⟨a_0.code,i22,i23⟩:Tl01Source) r2).bind fun o=>match o with
               | (i27,i28,i29) =>
                some ((⟨W64 (1+i1),i6,x1,x3,([i27]:List Int)⟩:qa),i28,i29)
             else
              bif (i21==2) then
               (qaw n a_1).bind fun r3 =>
               (ql n (⟨a_0.code,i22,i23⟩:Tl01Source) r3).bind fun o=>match o with
                | (i30,i31,i32) =>
                 some ((⟨W64 (1+i1),i6,x1,([i30]:List Int),x2⟩:qa),i31,i32)
              else
               some ((⟨W64 (1+i1),i6,x1,x3,x2⟩:qa),i22,i23)
theorem qhE {n:Nat} {w0 w:World} {F:List Ch} {a_0:Tl01Source} {bb1:Nat} {p1:Option Addr} {k1:Nat} {a_1:qc} {cs1:List Value} {a_2:(List Int)} {cs2:List Value} (h0:SH w0 w (Ch.box bb1 (qh a_0 p1 k1) 108::F)) (ha1:GoT.R w (Fr w0 F) a_0 [.slice p1 a_0.code.length k1,.int .i64 a_0.at_,.int .i64 a_0.seed]) (ha2:GoT.R w (Fr w0 F) a_1 cs1) (ha3:GoT.R w (Fr w0 F) a_2 cs2) {r:(qa × Int × Int)} (hF:qdE n a_0 a_1 a_2=some r):RetW Tryz.prog 134 [.pointer (some ⟨bb1,0,none⟩),GoT.v qc cs1,GoT.v (List Int) cs2] w (fun us w'=>∃ (S1:Nat→Prop) (cs3:List Value),us=[GoT.v qa cs3]∧SH w0 w' (Ch.own S1 (r.1:qa) cs3::Ch.box bb1 [.slice p1 a_0.code.length k1,.int .i64 r.2.1,.int .i64 r.2.2] 108::F)):=by
 have h:=SH.frame [Ch.box bb1 (qh a_0 p1 k1) 108] h0
 replace h:=h.grpAdd 1 rfl ha1
 have hz1:=ha2
 obtain ⟨p2,k2,p3,k3,p4,k4,p5,k5,p6,k6,rfl,s1,s2,s3,s4,s5⟩:=qJ ha2
 replace h:=h.grpAdd 1 rfl hz1
 have hz2:=ha3
 obtain ⟨p7,k7,rfl,s6⟩:=ha3
 replace h:=h.grpAdd 1 rfl hz2
 replace h:SH _ _ [Ch.box bb1 (qh a_0 p1 k1) 108,Ch.grp (old w0) (FS F) [fct (a_2:(List Int)) [.slice p7 a_2.length k7],fct (a_1:qc) [.slice p2 a_1.Ac.Ai.length k2,.slice p3 a_1.Aa.Ab.length k3,.slice p4 a_1.Aa.Aj.length k4,.slice p5 a_1.Aa.Af.length k5,.slice p6 a_1.Ah.length k6],fct (a_0:Tl01Source) [.slice p1 a_0.code.length k1,.int .i64 a_0.at_,.int .i64 a_0.seed],same w0 w F]]:=h
 refine qbi Tryz.func134 rfl (m:=108) rfl rfl (zSR (qS h rfl rfl fun w1 bb2 h=>qx qb h rfl rfl rfl fun w2 bb3 h=>X0 4 rfl ?_))
 replace h:=h.pick [2,0,1,3] rfl
 obtain ⟨o1,hr1,hF⟩:=qe hF
 obtain ⟨i1,i2,i3⟩:=o1
 refine qz (cB 32 rfl) (qi (a_0:=(⟨a_0.code,a_0.at_,a_0.seed⟩:Tl01Source)) (a_1:=4) h ⟨[.slice p1 a_0.code.length k1],[.int .i64 a_0.at_,.int .i64 a_0.seed],rfl,⟨_,_,rfl,(qf (h.frG 3 2 1 rfl rfl rfl)).1⟩,⟨[.int .i64 a_0.at_],[.int .i64 a_0.seed],rfl,rfl,rfl⟩⟩ hr1) rfl rfl rfl rfl ?_
 rintro w3 us1 ⟨rfl,h⟩
 replace h:SH _ _ [Ch.box bb1 [.slice p1 a_0.code.length k1,.int .i64 i2,.int .i64 i3] 108,Ch.box bb3 [.int .i64 0,.int .i64 0,.slice none 0 0,.slice none 0 0,.slice none 0 0] 59,Ch.box bb2 (qp a_1 p2 p3 p4 p5 p6 k2 k3 k4 k5 k6) 34,Ch.grp (old w0) (FS F) [fct (a_2:(List Int)) [.slice p7 a_2.length k7],fct (a_1:qc) [.slice p2 a_1.Ac.Ai.length k2,.slice p3 a_1.Aa.Ab.length k3,.slice p4 a_1.Aa.Aj.length k4,.slice p5 a_1.Aa.Af.length k5,.slice p6 a_1.Ah.length k6],fct (a_0:Tl01Source) [.slice p1 a_0.code.length k1,.int .i64 a_0.at_,.int .i64 a_0.seed],same w0 w F]]:=h
 refine zp1 rfl (r_v (qai qb [0] [.tmp 11] rfl rfl rfl rfl rfl rfl rfl rfl) rfl (qx qb h rfl rfl rfl fun w4 bb4 h=>zs 0 h rfl fun w5 h=>X1 13 0 h rfl ?_))
 obtain ⟨KF4,hKF4,o13,hF,hK5⟩:=bindE hF
 refine qaV (fun e w'=>∃ (i4:Int) (i5:Int) (i6:Int),KF4 (i4,i5,i6)=some r∧e=[(0,.pointer (some ⟨bb1,0,none⟩)),(2,.slice p7 a_2.length k7),(4,.pointer (some ⟨bb2,0,none⟩)),(6,.pointer (some ⟨bb3,0,none⟩)),(7,.pointer (some ⟨bb4,0,none⟩))]∧SH w0 w' [Ch.box bb1 [.slice p1 a_0.code.length k1,.int .i64 i4,.int .i64 i5] 108,Ch.box bb4 [.int .i64 (W64 (1+i1)),.int .i64 i6,.slice none 0 0,.slice none 0 0,.slice none 0 0] 59,Ch.box bb3 [.int .i64 0,.int .i64 0,.slice none 0 0,.slice none 0 0,.slice none 0 0] 59,Ch.box bb2 (qp a_1 p2 p3 p4 p5 p6 k2 k3 k4 k5 k6) 34,Ch.grp (old w0) (FS F) [fct (a_2:(List Int)) [.slice p7 a_2.length k7],fct (a_1:qc) [.slice p2 a_1.Ac.Ai.length k2,.slice p3 a_1.Aa.Ab.length k3,.slice p4 a_1.Aa.Aj.length k4,.slice p5 a_1.Aa.Af.length k5,.slice p6 a_1.Ah.length k6],fct (a_0:Tl01Source) [.slice p1 a_0.code.length k1,.int .i64 a_0.at_,.int .i64 a_0.seed],same w0 w F]]) ?_ ?_
 ·refine qm rfl hF ?_ ?_<;>intro hF
  ·refine X0 2 rfl ?_
   replace h:=h.pick [1,0,2,3,4] rfl
   obtain ⟨o14,hr17,hF⟩:=qe hF
   obtain ⟨i33,i34,i35⟩:=o14
   refine qz (cB 32 rfl) (qi (a_0:=(⟨a_0.code,i2,i3⟩:Tl01Source)) (a_1:=4) h ⟨[.slice p1 a_0.code.length k1],[.int .i64 i2,.int .i64 i3],rfl,⟨_,_,rfl,(qf (h.frG 4 2 1 rfl rfl rfl)).1⟩,⟨[.int .i64 i2],[.int .i64 i3],rfl,rfl,rfl⟩⟩ hr17) rfl rfl rfl rfl ?_
   rintro w79 us9 ⟨rfl,h⟩
   replace h:SH _ _ [Ch.box bb1 [.slice p1 a_0.code.length k1,.int .i64 i34,.int .i64 i35] 108,Ch.box bb4 [.int .i64 (W64 (1+i1)),.int .i64 0,.slice none 0 0,.slice none 0 0,.slice none 0 0] 59,Ch.box bb3 [.int .i64 0,.int .i64 0,.slice none 0 0,.slice none 0 0,.slice none 0 0] 59,Ch.box bb2 (qp a_1 p2 p3 p4 p5 p6 k2 k3 k4 k5 k6) 34,Ch.grp (old w0) (FS F) [fct (a_2:(List Int)) [.slice p7 a_2.length k7],fct (a_1:qc) [.slice p2 a_1.Ac.Ai.length k2,.slice p3 a_1.Aa.Ab.length k3,.slice p4 a_1.Aa.Aj.length k4,.slice p5 a_1.Aa.Af.length k5,.slice p6 a_1.Ah.length k6],fct (a_0:Tl01Source) [.slice p1 a_0.code.length k1,.int .i64 a_0.at_,.int .i64 a_0.seed],same w0 w F]]:=h
   refine zp2 rfl (zs 1 h rfl fun w80 h=>qaW ?_)
   obtain rfl:=qd hF
   exact rG ⟨_,_,_,hK5,rfl,h⟩ rfl
  refine X0 6 rfl (qm rfl hF ?_ ?_)<;>intro hF
  ·refine qdy (qm rfl hF ?_ ?_)<;>intro hF
   ·refine X0 2 rfl ?_
    replace h:=h.pick [1,0,2,3,4] rfl
    obtain ⟨o15,hr18,hF⟩:=qe hF
    obtain ⟨i36,i37,i38⟩:=o15
    refine qz (cB 32 rfl) (qi (a_0:=(⟨a_0.code,i2,i3⟩:Tl01Source)) (a_1:=40) h ⟨[.slice p1 a_0.code.length k1],[.int .i64 i2,.int .i64 i3],rfl,⟨_,_,rfl,(qf (h.frG 4 2 1 rfl rfl rfl)).1⟩,⟨[.int .i64 i2],[.int .i64 i3],rfl,rfl,rfl⟩⟩ hr18) rfl rfl rfl rfl ?_
    rintro w81 us10 ⟨rfl,h⟩
    replace h:SH _ _ [Ch.box bb1 [.slice p1 a_0.code.length k1,.int .i64 i37,.int .i64 i38] 108,Ch.box bb4 [.int .i64 (W64 (1+i1)),.int .i64 0,.slice none 0 0,.slice none 0 0,.slice none 0 0] 59,Ch.box bb3 [.int .i64 0,.int .i64 0,.slice none 0 0,.slice none 0 0,.slice none 0 0] 59,Ch.box bb2 (qp a_1 p2 p3 p4 p5 p6 k2 k3 k4 k5 k6) 34,Ch.grp (old w0) (FS F) [fct (a_2:(List Int)) [.slice p7 a_2.length k7],fct (a_1:qc) [.slice p2 a_1.Ac.Ai.length k2,.slice p3 a_1.Aa.Ab.length k3,.slice p4 a_1.Aa.Aj.length k4,.slice p5 a_1.Aa.Af.length k5,.slice p6 a_1.Ah.length k6],fct (a_0:Tl01Source) [.slice p1 a_0.code.length k1,.int .i64 a_0.at_,.int .i64 a_0.seed],same w0 w F]]:=h
    refine zp2 rfl (zs 1 h rfl fun w82 h=>qaW ?_)
    obtain rfl:=qd hF
    exact rG ⟨_,_,_,hK5,rfl,h⟩ rfl
   refine qdy ?_
   replace h:=h.pick [1,0,2,3,4] rfl
   obtain rfl:=qd hF
   exact rG ⟨_,_,_,hK5,rfl,h⟩ rfl
  refine X0 4 rfl (qm rfl hF ?_ ?_)<;>intro hF
  ·refine X0 2 rfl ?_
   replace h:=h.pick [1,0,2,3,4] rfl
   obtain ⟨o16,hr19,hF⟩:=qe hF
   obtain ⟨i39,i40,i41⟩:=o16
   refine qz (cB 32 rfl) (qi (a_0:=(⟨a_0.code,i2,i3⟩:Tl01Source)) (a_1:=40) h ⟨[.slice p1 a_0.code.length k1],[.int .i64 i2,.int .i64 i3],rfl,⟨_,_,rfl,(qf (h.frG 4 2 1 rfl rfl rfl)).1⟩,⟨[.int .i64 i2],[.int .i64 i3],rfl,rfl,rfl⟩⟩ hr19) rfl rfl rfl rfl ?_
   rintro w83 us11 ⟨rfl,h⟩
   replace h:SH _ _ [Ch.box bb1 [.slice p1 a_0.code.length k1,.int .i64 i40,.int .i64 i41] 108,Ch.box bb4 [.int .i64 (W64 (1+i1)),.int .i64 0,.slice none 0 0,.slice none 0 0,.slice none 0 0] 59,Ch.box bb3 [.int .i64 0,.int .i64 0,.slice none 0 0,.slice none 0 0,.slice none 0 0] 59,Ch.box bb2 (qp a_1 p2 p3 p4 p5 p6 k2 k3 k4 k5 k6) 34,Ch.grp (old w0) (FS F) [fct (a_2:(List Int)) [.slice p7 a_2.length k7],fct (a_1:qc) [.slice p2 a_1.Ac.Ai.length k2,.slice p3 a_1.Aa.Ab.length k3,.slice p4 a_1.Aa.Aj.length k4,.slice p5 a_1.Aa.Af.length k5,.slice p6 a_1.Ah.length k6],fct (a_0:Tl01Source) [.slice p1 a_0.code.length k1,.int .i64 a_0.at_,.int .i64 a_0.seed],same w0 w F]]:=h
   refine zp2 rfl (zs 1 h rfl fun w84 h=>qaW ?_)
   obtain rfl:=qd hF
   exact rG ⟨_,_,_,hK5,rfl,h⟩ rfl
  refine qdy ?_
  replace h:=h.pick [1,0,2,3,4] rfl
  obtain rfl:=qd hF
  exact rG ⟨_,_,_,hK5,rfl,h⟩ rfl
 rintro e6 w85 ⟨i4,i5,i6,hF,rfl,h⟩
 subst hKF4
 refine X0 5 rfl ?_
 obtain ⟨o2,hr2,hF⟩:=qe hF
 obtain ⟨i7,i8,i9⟩:=o2
 refine qz (cB 32 rfl) (qi (a_0:=(⟨a_0.code,i4,i5⟩:Tl01Source)) (a_1:=2) h ⟨[.slice p1 a_0.code.length k1],[.int .i64 i4,.int .i64 i5],rfl,⟨_,_,rfl,(qf (h.frG 4 2 1 rfl rfl rfl)).1⟩,⟨[.int .i64 i4],[.int .i64 i5],rfl,rfl,rfl⟩⟩ hr2) rfl rfl rfl rfl ?_
 rintro w6 us2 ⟨rfl,h⟩
 replace h:SH _ _ [Ch.box bb1 [.slice p1 a_0.code.length k1,.int .i64 i8,.int .i64 i9] 108,Ch.box bb4 [.int .i64 (W64 (1+i1)),.int .i64 i6,.slice none 0 0,.slice none 0 0,.slice none 0 0] 59,Ch.box bb3 [.int .i64 0,.int .i64 0,.slice none 0 0,.slice none 0 0,.slice none 0 0] 59,Ch.box bb2 (qp a_1 p2 p3 p4 p5 p6 k2 k3 k4 k5 k6) 34,Ch.grp (old w0) (FS F) [fct (a_2:(List Int)) [.slice p7 a_2.length k7],fct (a_1:qc) [.slice p2 a_1.Ac.Ai.length k2,.slice p3 a_1.Aa.Ab.length k3,.slice p4 a_1.Aa.Aj.length k4,.slice p5 a_1.Aa.Af.length k5,.slice p6 a_1.Ah.length k6],fct (a_0:Tl01Source) [.slice p1 a_0.code.length k1,.int .i64 a_0.at_,.int .i64 a_0.seed],same w0 w F]]:=h
 refine X0 2 rfl ?_
 replace h:=h.nil (α:=Int)
 obtain ⟨KF3,hKF3,o12,hF,hK4⟩:=bindE hF
 refine qaV (fun e w'=>∃ (S2:Nat→Prop) (p8:Option Addr) (ln1:Nat) (k8:Nat) (x1:(List Int)),KF3 x1=some r∧e=[(0,.pointer (some ⟨bb1,0,none⟩)),(2,.slice p7 a_2.length k7),(4,.pointer (some ⟨bb2,0,none⟩)),(6,.pointer (some ⟨bb3,0,none⟩)),(7,.pointer (some ⟨bb4,0,none⟩))]∧SH w0 w' [Ch.own S2 (x1:List Int) [.slice p8 ln1 k8],Ch.box bb1 [.slice p1 a_0.code.length k1,.int .i64 i8,.int .i64 i9] 108,Ch.box bb4 [.int .i64 (W64 (1+i1)),.int .i64 i6,.slice p8 ln1 k8,.slice none 0 0,.slice none 0 0] 59,Ch.box bb3 [.int .i64 0,.int .i64 0,.slice none 0 0,.slice none 0 0,.slice none 0 0] 59,Ch.box bb2 (qp a_1 p2 p3 p4 p5 p6 k2 k3 k4 k5 k6) 34,Ch.grp (old w0) (FS F) [fct (a_2:(List Int)) [.slice p7 a_2.length k7],fct (a_1:qc) [.slice p2 a_1.Ac.Ai.length k2,.slice p3 a_1.Aa.Ab.length k3,.slice p4 a_1.Aa.Aj.length k4,.slice p5 a_1.Aa.Af.length k5,.slice p6 a_1.Ah.length k6],fct (a_0:Tl01Source) [.slice p1 a_0.code.length k1,.int .i64 a_0.at_,.int .i64 a_0.seed],same w0 w F]]) ?_ ?_
 ·refine qm rfl hF ?_ ?_<;>intro hF
  ·refine X0 2 rfl ?_
   obtain ⟨y3,hy3,hF,he5,b6,_,q5,cs8,hp5,hq5,rfl,hc12⟩:=(qap (h.grp 5 0 rfl rfl)).1.ix hF
   refine zx hp5 hq5 ⟨he5.1,qab he5.2.1 (qap (h.grp 5 0 rfl rfl)).2⟩ rfl (zc 0 hc12 rfl (qn qb [.tmp 33] _ ([y3]:List Int) h rfl rfl rfl rfl rfl rfl rfl rfl rfl ⟨rfl,trivial⟩ rfl fun w76 p50 S48 h=>zp1 rfl (zs 3 h rfl fun w77 h=>qaW ?_)))
   replace h:=h.pick [0,2,3,4,5,6] rfl
   obtain rfl:=qd hF
   exact rG ⟨_,_,_,_,_,hK4,rfl,h⟩ rfl
  refine qdy ?_
  obtain rfl:=qd hF
  exact rG ⟨_,_,_,_,_,hK4,rfl,h⟩ rfl
 rintro e5 w78 ⟨S2,p8,ln1,k8,x1,hF,rfl,h⟩
 subst hKF3
 obtain rfl:=(h.sl 0 rfl).2
 refine X0 4 rfl ?_
 replace h:=h.pick [1,0,2,3,4,5] rfl
 obtain ⟨o3,hr3,hF⟩:=qe hF
 obtain ⟨i10,i11,i12⟩:=o3
 refine qz (cB 32 rfl) (qi (a_0:=(⟨a_0.code,i8,i9⟩:Tl01Source)) (a_1:=2) h ⟨[.slice p1 a_0.code.length k1],[.int .i64 i8,.int .i64 i9],rfl,⟨_,_,rfl,(qf (h.frG 5 2 1 rfl rfl rfl)).1⟩,⟨[.int .i64 i8],[.int .i64 i9],rfl,rfl,rfl⟩⟩ hr3) rfl rfl rfl rfl ?_
 rintro w7 us3 ⟨rfl,h⟩
 replace h:SH _ _ [Ch.box bb1 [.slice p1 a_0.code.length k1,.int .i64 i11,.int .i64 i12] 108,Ch.own S2 (x1:List Int) [.slice p8 x1.length k8],Ch.box bb4 [.int .i64 (W64 (1+i1)),.int .i64 i6,.slice p8 x1.length k8,.slice none 0 0,.slice none 0 0] 59,Ch.box bb3 [.int .i64 0,.int .i64 0,.slice none 0 0,.slice none 0 0,.slice none 0 0] 59,Ch.box bb2 (qp a_1 p2 p3 p4 p5 p6 k2 k3 k4 k5 k6) 34,Ch.grp (old w0) (FS F) [fct (a_2:(List Int)) [.slice p7 a_2.length k7],fct (a_1:qc) [.slice p2 a_1.Ac.Ai.length k2,.slice p3 a_1.Aa.Ab.length k3,.slice p4 a_1.Aa.Aj.length k4,.slice p5 a_1.Aa.Af.length k5,.slice p6 a_1.Ah.length k6],fct (a_0:Tl01Source) [.slice p1 a_0.code.length k1,.int .i64 a_0.at_,.int .i64 a_0.seed],same w0 w F]]:=h
 refine X0 2 rfl ?_
 replace h:=h.nil (α:=Int)
 obtain ⟨KF2,hKF2,o11,hF,hK3⟩:=bindE hF
 refine qaV (fun e w'=>∃ (S3:Nat→Prop) (p9:Option Addr) (ln2:Nat) (k9:Nat) (x2:(List Int)),KF2 x2=some r∧e=[(0,.pointer (some ⟨bb1,0,none⟩)),(2,.slice p7 a_2.length k7),(4,.pointer (some ⟨bb2,0,none⟩)),(6,.pointer (some ⟨bb3,0,none⟩)),(7,.pointer (some ⟨bb4,0,none⟩))]∧SH w0 w' [Ch.own S3 (x2:List Int) [.slice p9 ln2 k9],Ch.box bb1 [.slice p1 a_0.code.length k1,.int .i64 i11,.int .i64 i12] 108,Ch.own S2 (x1:List Int) [.slice p8 x1.length k8],Ch.box bb4 [.int .i64 (W64 (1+i1)),.int .i64 i6,.slice p8 x1.length k8,.slice none 0 0,.slice p9 ln2 k9] 59,Ch.box bb3 [.int .i64 0,.int .i64 0,.slice none 0 0,.slice none 0 0,.slice none 0 0] 59,Ch.box bb2 (qp a_1 p2 p3 p4 p5 p6 k2 k3 k4 k5 k6) 34,Ch.grp (old w0) (FS F) [fct (a_2:(List Int)) [.slice p7 a_2.length k7],fct (a_1:qc) [.slice p2 a_1.Ac.Ai.length k2,.slice p3 a_1.Aa.Ab.length k3,.slice p4 a_1.Aa.Aj.length k4,.slice p5 a_1.Aa.Af.length k5,.slice p6 a_1.Ah.length k6],fct (a_0:Tl01Source) [.slice p1 a_0.code.length k1,.int .i64 a_0.at_,.int .i64 a_0.seed],same w0 w F]]) ?_ ?_
 ·refine qm rfl hF ?_ ?_<;>intro hF
  ·refine X0 5 rfl ?_
   obtain ⟨y2,hy2,hF,he4,b5,_,q4,cs7,hp4,hq4,rfl,hc10⟩:=(qap (h.grp 6 0 rfl rfl)).1.ix hF
   refine zx hp4 hq4 ⟨he4.1,qab he4.2.1 (qap (h.grp 6 0 rfl rfl)).2⟩ rfl (zc 0 hc10 rfl (qn qb [.tmp 44] _ ([y2]:List Int) h rfl rfl rfl rfl rfl rfl rfl rfl rfl ⟨rfl,trivial⟩ rfl fun w73 p49 S47 h=>zp1 rfl (zs 4 h rfl fun w74 h=>qaW ?_)))
   replace h:=h.pick [0,2,3,4,5,6,7] rfl
   obtain rfl:=qd hF
   exact rG ⟨_,_,_,_,_,hK3,rfl,h⟩ rfl
  refine qdy ?_
  obtain rfl:=qd hF
  exact rG ⟨_,_,_,_,_,hK3,rfl,h⟩ rfl
 rintro e4 w75 ⟨S3,p9,ln2,k9,x2,hF,rfl,h⟩
 subst hKF2
 obtain rfl:=(h.sl 0 rfl).2
 refine X0 5 rfl ?_
 replace h:=h.nil (α:=Int)
 obtain ⟨o4,hF,hK1⟩:=qe hF
 refine qu (rL (fun m e w'=>∃ (S4:Nat→Prop) (p10:Option Addr) (ln3:Nat) (k10:Nat) (x3:(List Int)) (i13:Int) (i14:Int) (i15:Int),qaR a_0 a_2 m x3 i13 i14 i15=some o4∧e=[(0,.pointer (some ⟨bb1,0,none⟩)),(2,.slice p7 a_2.length k7),(4,.pointer (some ⟨bb2,0,none⟩)),(6,.pointer (some ⟨bb3,0,none⟩)),(7,.pointer (some ⟨bb4,0,none⟩)),(8,.int .i64 i15)]∧SH w0 w' [Ch.own S4 (x3:List Int) [.slice p10 ln3 k10],Ch.own S3 (x2:List Int) [.slice p9 x2.length k9],Ch.box bb1 [.slice p1 a_0.code.length k1,.int .i64 i13,.int .i64 i14] 108,Ch.own S2 (x1:List Int) [.slice p8 x1.length k8],Ch.box bb4 [.int .i64 (W64 (1+i1)),.int .i64 i6,.slice p8 x1.length k8,.slice p10 ln3 k10,.slice p9 x2.length k9] 59,Ch.box bb3 [.int .i64 0,.int .i64 0,.slice none 0 0,.slice none 0 0,.slice none 0 0] 59,Ch.box bb2 (qp a_1 p2 p3 p4 p5 p6 k2 k3 k4 k5 k6) 34,Ch.grp (old w0) (FS F) [fct (a_2:(List Int)) [.slice p7 a_2.length k7],fct (a_1:qc) [.slice p2 a_1.Ac.Ai.length k2,.slice p3 a_1.Aa.Ab.length k3,.slice p4 a_1.Aa.Aj.length k4,.slice p5 a_1.Aa.Af.length k5,.slice p6 a_1.Ah.length k6],fct (a_0:Tl01Source) [.slice p1 a_0.code.length k1,.int .i64 a_0.at_,.int .i64 a_0.seed],same w0 w F]]) n ⟨_,_,_,_,_,_,_,_,hF,rfl,h⟩ rfl ?_)
 rintro m1 e1 w8 ⟨S4,p10,ln3,k10,x3,i13,i14,i15,hF,rfl,h⟩
 obtain rfl:=(h.sl 0 rfl).2
 rcases m1 with _|m1
 ·cases hF
 refine X0 8 rfl (qm rfl hF ?_ ?_)<;>intro hF
 ·refine X0 4 rfl ?_
  obtain ⟨KF1,hKF1,o5,hF,hK2⟩:=bindE hF
  refine qaV (fun e w'=>∃ (i16:Int) (i17:Int) (b1:Bool),KF1 (i16,i17,b1)=some o4∧e=[(0,.pointer (some ⟨bb1,0,none⟩)),(2,.slice p7 a_2.length k7),(4,.pointer (some ⟨bb2,0,none⟩)),(6,.pointer (some ⟨bb3,0,none⟩)),(7,.pointer (some ⟨bb4,0,none⟩)),(8,.int .i64 i15),(61,.bool b1)]∧SH w0 w' [Ch.box bb1 [.slice p1 a_0.code.length k1,.int .i64 i16,.int .i64 i17] 108,Ch.own S4 (x3:List Int) [.slice p10 x3.length k10],Ch.own S3 (x2:List Int) [.slice p9 x2.length k9],Ch.own S2 (x1:List Int) [.slice p8 x1.length k8],Ch.box bb4 [.int .i64 (W64 (1+i1)),.int .i64 i6,.slice p8 x1.length k8,.slice p10 x3.length k10,.slice p9 x2.length k9] 59,Ch.box bb3 [.int .i64 0,.int .i64 0,.slice none 0 0,.slice none 0 0,.slice none 0 0] 59,Ch.box bb2 (qp a_1 p2 p3 p4 p5 p6 k2 k3 k4 k5 k6) 34,Ch.grp (old w0) (FS F) [fct (a_2:(List Int)) [.slice p7 a_2.length k7],fct (a_1:qc) [.slice p2 a_1.Ac.Ai.length k2,.slice p3 a_1.Aa.Ab.length k3,.slice p4 a_1.Aa.Aj.length k4,.slice p5 a_1.Aa.Af.length k5,.slice p6 a_1.Ah.length k6],fct (a_0:Tl01Source) [.slice p1 a_0.code.length k1,.int .i64 a_0.at_,.int .i64 a_0.seed],same w0 w F]]) ?_ ?_
  ·refine X1 6 4 h rfl (qj (t:=57) hF rfl ?_ ?_)<;>intro hF
   ·refine X0 3 rfl ?_
    replace h:=h.pick [2,0,1,3,4,5,6,7] rfl
    obtain ⟨o6,hr7,hF⟩:=qe hF
    obtain ⟨i18,i19,i20⟩:=o6
    refine qz (cB 32 rfl) (qi (a_0:=(⟨a_0.code,i13,i14⟩:Tl01Source)) (a_1:=5) h ⟨[.slice p1 a_0.code.length k1],[.int .i64 i13,.int .i64 i14],rfl,⟨_,_,rfl,(qf (h.frG 7 2 1 rfl rfl rfl)).1⟩,⟨[.int .i64 i13],[.int .i64 i14],rfl,rfl,rfl⟩⟩ hr7) rfl rfl rfl rfl ?_
    rintro w54 us4 ⟨rfl,h⟩
    replace h:SH _ _ [Ch.box bb1 [.slice p1 a_0.code.length k1,.int .i64 i19,.int .i64 i20] 108,Ch.own S4 (x3:List Int) [.slice p10 x3.length k10],Ch.own S3 (x2:List Int) [.slice p9 x2.length k9],Ch.own S2 (x1:List Int) [.slice p8 x1.length k8],Ch.box bb4 [.int .i64 (W64 (1+i1)),.int .i64 i6,.slice p8 x1.length k8,.slice p10 x3.length k10,.slice p9 x2.length k9] 59,Ch.box bb3 [.int .i64 0,.int .i64 0,.slice none 0 0,.slice none 0 0,.slice none 0 0] 59,Ch.box bb2 (qp a_1 p2 p3 p4 p5 p6 k2 k3 k4 k5 k6) 34,Ch.grp (old w0) (FS F) [fct (a_2:(List Int)) [.slice p7 a_2.length k7],fct (a_1:qc) [.slice p2 a_1.Ac.Ai.length k2,.slice p3 a_1.Aa.Ab.length k3,.slice p4 a_1.Aa.Aj.length k4,.slice p5 a_1.Aa.Af.length k5,.slice p6 a_1.Ah.length k6],fct (a_0:Tl01Source) [.slice p1 a_0.code.length k1,.int .i64 a_0.at_,.int .i64 a_0.seed],same w0 w F]]:=h
    refine X0 4 rfl ?_
    obtain rfl:=qd hF
    exact rG ⟨_,_,_,hK2,rfl,h⟩ rfl
   refine X0 5 rfl ?_
   replace h:=h.pick [2,0,1,3,4,5,6,7] rfl
   obtain rfl:=qd hF
   exact rG ⟨_,_,_,hK2,rfl,h⟩ rfl
  rintro e3 w55 ⟨i16,i17,b1,hF,rfl,h⟩
  subst hKF1
  refine qm rfl hF ?_ ?_<;>intro hF
  ·obtain ⟨y1,hy1,hF⟩:=qe hF
   obtain ⟨x4,hx1,hF⟩:=qe hF
   obtain ⟨x5,hx2,hF⟩:=qe hF
   refine qaV (fun e w'=>∃ (S24:Nat→Prop) (p30:Option Addr) (k21:Nat),e=[(0,.pointer (some ⟨bb1,0,none⟩)),(2,.slice p7 a_2.length k7),(4,.pointer (some ⟨bb2,0,none⟩)),(6,.pointer (some ⟨bb3,0,none⟩)),(7,.pointer (some ⟨bb4,0,none⟩)),(8,.int .i64 i15)]∧SH w0 w' [Ch.own S24 (x5:List Int) [.slice p30 x5.length k21],Ch.box bb1 [.slice p1 a_0.code.length k1,.int .i64 i16,.int .i64 i17] 108,Ch.own S3 (x2:List Int) [.slice p9 x2.length k9],Ch.own S2 (x1:List Int) [.slice p8 x1.length k8],Ch.box bb4 [.int .i64 (W64 (1+i1)),.int .i64 i6,.slice p8 x1.length k8,.slice p30 x5.length k21,.slice p9 x2.length k9] 59,Ch.box bb3 [.int .i64 0,.int .i64 0,.slice none 0 0,.slice none 0 0,.slice none 0 0] 59,Ch.box bb2 (qp a_1 p2 p3 p4 p5 p6 k2 k3 k4 k5 k6) 34,Ch.grp (old w0) (FS F) [fct (a_2:(List Int)) [.slice p7 a_2.length k7],fct (a_1:qc) [.slice p2 a_1.Ac.Ai.length k2,.slice p3 a_1.Aa.Ab.length k3,.slice p4 a_1.Aa.Aj.length k4,.slice p5 a_1.Aa.Af.length k5,.slice p6 a_1.Ah.length k6],fct (a_0:Tl01Source) [.slice p1 a_0.code.length k1,.int .i64 a_0.at_,.int .i64 a_0.seed],same w0 w F]]) ?_ ?_
   ·refine rA [19] [4] h rfl fun w14 h=>M4 1983 [0,1,2,3,4,5,7,8,9,10] 0 0 0 0 (h.pick [4] rfl) rfl ?_
    have he3:=qbd hy1
    obtain ⟨b4,o_3,q3,cs6,hp3,hq3,-,hr6,hc5⟩:=(qap (h.grp 7 0 rfl rfl)).1.at hy1
    obtain rfl:=hr6
    refine Ax 11 4031 hp3 hq3 ⟨he3.1,qab he3.2.1 (qap (h.grp 7 0 rfl rfl)).2⟩ (h.pick [4] rfl) rfl (M1 200639 [16,17] 0 (h.pick [4] rfl) rfl (At 6 12 200703 204735 rfl ?_ ?_))
    ·refine qn qb [] _ ([]:List Int) h rfl rfl rfl rfl rfl rfl rfl rfl rfl trivial rfl fun w34 p31 S25 h=>Ag (h.pick [5] rfl) (Ao 12 204799 rfl (r_v (qe2 qb (qm3 (w1:=w) (S1:=fun _=>False) (qap (h.grp 8 0 rfl rfl)).1 hy1 hp3 hq3 rfl) (j:=0) rfl rfl rfl) rfl (Ag (h.pick [5] rfl) (Ao 13 212991 rfl (qn qb [.tmp 74] _ ([y1]:List Int) h rfl rfl rfl rfl rfl rfl rfl rfl rfl ⟨rfl,trivial⟩ rfl fun w35 p32 S26 h=>Ag (h.pick [6] rfl) (Ao 14 229375 rfl ?_))))))
     obtain ⟨g11,hx1⟩:=qk hx1
     refine qau qb 3 h rfl (h.sl 0 rfl).1 (h.sl 0 rfl).2 rfl rfl rfl rfl rfl rfl rfl rfl rfl g11 hx1 rfl fun w36 p33 k22 S27 h=>Ag (h.pick [6] rfl) (Ao 15 262143 rfl ?_)
     obtain ⟨g12,hx2⟩:=qk hx2
     refine qau qb 1 h rfl (h.sl 3 rfl).1 (h.sl 3 rfl).2 rfl rfl rfl rfl rfl rfl rfl rfl rfl g12 hx2 rfl fun w37 p34 k23 S28 h=>Ag (h.pick [6] rfl) (Aw 18 524287 (fun w' hw=>qai qb [0,1,2,3,4] [.tmp 63,.tmp 65,.tmp 67,.tmp 77,.tmp 79] rfl rfl rfl rfl rfl rfl rfl rfl) (h.pick [6] rfl) rfl ?_)
     refine Ao 19 1048575 rfl (zs 6 h rfl fun w38 h=>qeB (fun hs=>absurd (hs 19 (by decide)) (by decide)) (Ad ?_))
     replace h:=h.pick [1,2,4,5,6,7,8,9] rfl
     exact rG ⟨_,_,_,rfl,h⟩ rfl
    refine r_v (qe2 qb (qm3 (w1:=w) (S1:=fun _=>False) (qap (h.grp 7 0 rfl rfl)).1 hy1 hp3 hq3 rfl) (j:=0) rfl rfl rfl) rfl (Ag (h.pick [4] rfl) (At 6 13 204799 212927 rfl ?_ ?_))
    ·refine qn qb [] _ ([]:List Int) h rfl rfl rfl rfl rfl rfl rfl rfl rfl trivial rfl fun w39 p35 S29 h=>Ag (h.pick [5] rfl) (Ao 13 212991 rfl (qn qb [.tmp 74] _ ([y1]:List Int) h rfl rfl rfl rfl rfl rfl rfl rfl rfl ⟨rfl,trivial⟩ rfl fun w40 p36 S30 h=>Ag (h.pick [6] rfl) (Ao 14 229375 rfl ?_)))
     obtain ⟨g13,hx1⟩:=qk hx1
     refine qau qb 3 h rfl (h.sl 0 rfl).1 (h.sl 0 rfl).2 rfl rfl rfl rfl rfl rfl rfl rfl rfl g13 hx1 rfl fun w41 p37 k24 S31 h=>Ag (h.pick [6] rfl) (Ao 15 262143 rfl ?_)
     obtain ⟨g14,hx2⟩:=qk hx2
     refine qau qb 1 h rfl (h.sl 3 rfl).1 (h.sl 3 rfl).2 rfl rfl rfl rfl rfl rfl rfl rfl rfl g14 hx2 rfl fun w42 p38 k25 S32 h=>Ag (h.pick [6] rfl) (Aw 18 524287 (fun w' hw=>qai qb [0,1,2,3,4] [.tmp 63,.tmp 65,.tmp 67,.tmp 77,.tmp 79] rfl rfl rfl rfl rfl rfl rfl rfl) (h.pick [6] rfl) rfl ?_)
     refine Ao 19 1048575 rfl (zs 6 h rfl fun w43 h=>qeB (fun hs=>absurd (hs 19 (by decide)) (by decide)) (Ad ?_))
     replace h:=h.pick [1,2,4,5,6,7,8,9] rfl
     exact rG ⟨_,_,_,rfl,h⟩ rfl
    refine qn qb [.tmp 74] _ ([y1]:List Int) h rfl rfl rfl rfl rfl rfl rfl rfl rfl ⟨rfl,trivial⟩ rfl fun w44 p39 S33 h=>Ag (h.pick [5] rfl) (At 6 14 212991 229311 rfl ?_ ?_)
    ·refine qn qb [] _ ([]:List Int) h rfl rfl rfl rfl rfl rfl rfl rfl rfl trivial rfl fun w45 p40 S34 h=>Ag (h.pick [6] rfl) (Ao 14 229375 rfl ?_)
     obtain ⟨g15,hx1⟩:=qk hx1
     refine qau qb 3 h rfl (h.sl 1 rfl).1 (h.sl 1 rfl).2 rfl rfl rfl rfl rfl rfl rfl rfl rfl g15 hx1 rfl fun w46 p41 k26 S35 h=>Ag (h.pick [6] rfl) (Ao 15 262143 rfl ?_)
     obtain ⟨g16,hx2⟩:=qk hx2
     refine qau qb 0 h rfl (h.sl 3 rfl).1 (h.sl 3 rfl).2 rfl rfl rfl rfl rfl rfl rfl rfl rfl g16 hx2 rfl fun w47 p42 k27 S36 h=>Ag (h.pick [6] rfl) (Aw 18 524287 (fun w' hw=>qai qb [0,1,2,3,4] [.tmp 63,.tmp 65,.tmp 67,.tmp 77,.tmp 79] rfl rfl rfl rfl rfl rfl rfl rfl) (h.pick [6] rfl) rfl ?_)
     refine Ao 19 1048575 rfl (zs 6 h rfl fun w48 h=>qeB (fun hs=>absurd (hs 19 (by decide)) (by decide)) (Ad ?_))
     replace h:=h.pick [0,2,4,5,6,7,8,9] rfl
     exact rG ⟨_,_,_,rfl,h⟩ rfl
    obtain ⟨g17,hx1⟩:=qk hx1
    refine qau qb 2 h rfl (h.sl 0 rfl).1 (h.sl 0 rfl).2 rfl rfl rfl rfl rfl rfl rfl rfl rfl g17 hx1 rfl fun w49 p43 k28 S37 h=>Ag (h.pick [5] rfl) (Ao 6 229375 rfl (qn qb [] _ ([]:List Int) h rfl rfl rfl rfl rfl rfl rfl rfl rfl trivial rfl fun w50 p44 S38 h=>Ag (h.pick [6] rfl) (Ao 15 262143 rfl ?_)))
    obtain ⟨g18,hx2⟩:=qk hx2
    refine qau qb 0 h rfl (h.sl 3 rfl).1 (h.sl 3 rfl).2 rfl rfl rfl rfl rfl rfl rfl rfl rfl g18 hx2 rfl fun w51 p45 k29 S39 h=>Ag (h.pick [6] rfl) (Aw 18 524287 (fun w' hw=>qai qb [0,1,2,3,4] [.tmp 63,.tmp 65,.tmp 67,.tmp 77,.tmp 79] rfl rfl rfl rfl rfl rfl rfl rfl) (h.pick [6] rfl) rfl ?_)
    refine Ao 19 1048575 rfl (zs 6 h rfl fun w52 h=>qeB (fun hs=>absurd (hs 19 (by decide)) (by decide)) (Ad ?_))
    replace h:=h.pick [0,2,4,5,6,7,8,9] rfl
    exact rG ⟨_,_,_,rfl,h⟩ rfl
   rintro e2 w53 ⟨S24,p30,k21,rfl,h⟩
   refine X0 6 rfl ?_
   replace h:=h.pick [0,2,1,3,4,5,6,7] rfl
   exact rK ⟨_,_,_,_,_,_,_,_,hF,rfl,h⟩ rfl
  refine X0 7 rfl ?_
  replace h:=h.pick [1,2,0,3,4,5,6,7] rfl
  exact rK ⟨_,_,_,_,_,_,_,_,hF,rfl,h⟩ rfl
 refine qA rfl ?_
 obtain rfl:=qd hF;replace hF:=hK1
 refine X0 4 rfl ?_
 replace h:=h.pick [2,0,1,3,4,5,6,7] rfl
 obtain ⟨o7,hr8,hF⟩:=qe hF
 obtain ⟨i21,i22,i23⟩:=o7
 refine qz (cB 32 rfl) (qi (a_0:=(⟨a_0.code,i13,i14⟩:Tl01Source)) (a_1:=12) h ⟨[.slice p1 a_0.code.length k1],[.int .i64 i13,.int .i64 i14],rfl,⟨_,_,rfl,(qf (h.frG 7 2 1 rfl rfl rfl)).1⟩,⟨[.int .i64 i13],[.int .i64 i14],rfl,rfl,rfl⟩⟩ hr8) rfl rfl rfl rfl ?_
 rintro w56 us5 ⟨rfl,h⟩
 replace h:SH _ _ [Ch.box bb1 [.slice p1 a_0.code.length k1,.int .i64 i22,.int .i64 i23] 108,Ch.own S4 (x3:List Int) [.slice p10 x3.length k10],Ch.own S3 (x2:List Int) [.slice p9 x2.length k9],Ch.own S2 (x1:List Int) [.slice p8 x1.length k8],Ch.box bb4 [.int .i64 (W64 (1+i1)),.int .i64 i6,.slice p8 x1.length k8,.slice p10 x3.length k10,.slice p9 x2.length k9] 59,Ch.box bb3 [.int .i64 0,.int .i64 0,.slice none 0 0,.slice none 0 0,.slice none 0 0] 59,Ch.box bb2 (qp a_1 p2 p3 p4 p5 p6 k2 k3 k4 k5 k6) 34,Ch.grp (old w0) (FS F) [fct (a_2:(List Int)) [.slice p7 a_2.length k7],fct (a_1:qc) [.slice p2 a_1.Ac.Ai.length k2,.slice p3 a_1.Aa.Ab.length k3,.slice p4 a_1.Aa.Aj.length k4,.slice p5 a_1.Aa.Af.length k5,.slice p6 a_1.Ah.length k6],fct (a_0:Tl01Source) [.slice p1 a_0.code.length k1,.int .i64 a_0.at_,.int .i64 a_0.seed],same w0 w F]]:=h
 refine X0 7 rfl (qm rfl hF ?_ ?_)<;>intro hF
 ·refine X1 3 6 h rfl (zcI h hF (qbh (h.grp 7 1 rfl rfl)) rfl fun r1 w57 h hF=>?_)
  obtain ⟨o8,hr10,hF⟩:=qe hF
  obtain ⟨i24,i25,i26⟩:=o8
  refine qz (cB 32 rfl) (qi (a_0:=(⟨a_0.code,i22,i23⟩:Tl01Source)) (a_1:=r1) h ⟨[.slice p1 a_0.code.length k1],[.int .i64 i22,.int .i64 i23],rfl,⟨_,_,rfl,(qf (h.frG 7 2 1 rfl rfl rfl)).1⟩,⟨[.int .i64 i22],[.int .i64 i23],rfl,rfl,rfl⟩⟩ hr10) rfl rfl rfl rfl ?_
  rintro w58 us6 ⟨rfl,h⟩
  replace h:SH _ _ [Ch.box bb1 [.slice p1 a_0.code.length k1,.int .i64 i25,.int .i64 i26] 108,Ch.own S4 (x3:List Int) [.slice p10 x3.length k10],Ch.own S3 (x2:List Int) [.slice p9 x2.length k9],Ch.own S2 (x1:List Int) [.slice p8 x1.length k8],Ch.box bb4 [.int .i64 (W64 (1+i1)),.int .i64 i6,.slice p8 x1.length k8,.slice p10 x3.length k10,.slice p9 x2.length k9] 59,Ch.box bb3 [.int .i64 0,.int .i64 0,.slice none 0 0,.slice none 0 0,.slice none 0 0] 59,Ch.box bb2 (qp a_1 p2 p3 p4 p5 p6 k2 k3 k4 k5 k6) 34,Ch.grp (old w0) (FS F) [fct (a_2:(List Int)) [.slice p7 a_2.length k7],fct (a_1:qc) [.slice p2 a_1.Ac.Ai.length k2,.slice p3 a_1.Aa.Ab.length k3,.slice p4 a_1.Aa.Aj.length k4,.slice p5 a_1.Aa.Af.length k5,.slice p6 a_1.Ah.length k6],fct (a_0:Tl01Source) [.slice p1 a_0.code.length k1,.int .i64 a_0.at_,.int .i64 a_0.seed],same w0 w F]]:=h
  refine qn qb [.tmp 88] _ ([i24]:List Int) h rfl rfl rfl rfl rfl rfl rfl rfl rfl ⟨rfl,trivial⟩ rfl fun w59 p46 S40 h=>zp1 rfl (zs 5 h rfl fun w60 h=>X1 5 5 h rfl (zs 6 h rfl fun w61 h=>qaW ?_))
  have hk1:=h
  obtain ⟨S41,h⟩:=h.gather [1,4,5,6,7,8] (qea (⟨W64 (1+i1),i6,([i24]:List Int),x3,x2⟩:qa) h (qD (S:=fun _=>False) rfl) (qD (S:=fun _=>False) rfl) (qE 0 h rfl) (qE 2 h rfl) (qE 3 h rfl) (by rfl) (by rfl) (by rfl) (by rfl)) rfl
  obtain rfl:=qd hF
  replace h:=h.pick [0,1,6] rfl
  replace h:SH _ _ [Ch.own S41 ((⟨W64 (1+i1),i6,([i24]:List Int),x3,x2⟩:qa):qa) [.int .i64 (W64 (1+i1)),.int .i64 i6,.slice p46 1 1,.slice p10 x3.length k10,.slice p9 x2.length k9],Ch.box bb1 [.slice p1 a_0.code.length k1,.int .i64 i25,.int .i64 i26] 108,Ch.grp (old w0) (FS F) [fct (a_2:(List Int)) [.slice p7 a_2.length k7],fct (a_1:qc) [.slice p2 a_1.Ac.Ai.length k2,.slice p3 a_1.Aa.Ab.length k3,.slice p4 a_1.Aa.Aj.length k4,.slice p5 a_1.Aa.Af.length k5,.slice p6 a_1.Ah.length k6],fct (a_0:Tl01Source) [.slice p1 a_0.code.length k1,.int .i64 a_0.at_,.int .i64 a_0.seed],same w0 w F]]:=h
  exact qbp qb [GoT.v qa [.int .i64 (W64 (1+i1)),.int .i64 i6,.slice p46 1 1,.slice p10 x3.length k10,.slice p9 x2.length k9]] ⟨⟨_,_,_,rfl,rfl,hk1.box 6 rfl,rfl⟩,trivial⟩ ⟨_,_,rfl,SH.unframe 3 (L0:=[Ch.box bb1 (qh a_0 p1 k1) 108]) h0 [Ch.own S41 ((⟨W64 (1+i1),i6,([i24]:List Int),x3,x2⟩:qa):qa) [.int .i64 (W64 (1+i1)),.int .i64 i6,.slice p46 1 1,.slice p10 x3.length k10,.slice p9 x2.length k9],Ch.box bb1 [.slice p1 a_0.code.length k1,.int .i64 i25,.int .i64 i26] 108] h rfl⟩
 refine X0 5 rfl (qm rfl hF ?_ ?_)<;>intro hF
 ·refine X1 3 6 h rfl (zcI h hF (qbh (h.grp 7 1 rfl rfl)) rfl fun r2 w62 h hF=>?_)
  obtain ⟨o9,hr12,hF⟩:=qe hF
  obtain ⟨i27,i28,i29⟩:=o9
  refine qz (cB 32 rfl) (qi (a_0:=(⟨a_0.code,i22,i23⟩:Tl01Source)) (a_1:=r2) h ⟨[.slice p1 a_0.code.length k1],[.int .i64 i22,.int .i64 i23],rfl,⟨_,_,rfl,(qf (h.frG 7 2 1 rfl rfl rfl)).1⟩,⟨[.int .i64 i22],[.int .i64 i23],rfl,rfl,rfl⟩⟩ hr12) rfl rfl rfl rfl ?_
  rintro w63 us7 ⟨rfl,h⟩
  replace h:SH _ _ [Ch.box bb1 [.slice p1 a_0.code.length k1,.int .i64 i28,.int .i64 i29] 108,Ch.own S4 (x3:List Int) [.slice p10 x3.length k10],Ch.own S3 (x2:List Int) [.slice p9 x2.length k9],Ch.own S2 (x1:List Int) [.slice p8 x1.length k8],Ch.box bb4 [.int .i64 (W64 (1+i1)),.int .i64 i6,.slice p8 x1.length k8,.slice p10 x3.length k10,.slice p9 x2.length k9] 59,Ch.box bb3 [.int .i64 0,.int .i64 0,.slice none 0 0,.slice none 0 0,.slice none 0 0] 59,Ch.box bb2 (qp a_1 p2 p3 p4 p5 p6 k2 k3 k4 k5 k6) 34,Ch.grp (old w0) (FS F) [fct (a_2:(List Int)) [.slice p7 a_2.length k7],fct (a_1:qc) [.slice p2 a_1.Ac.Ai.length k2,.slice p3 a_1.Aa.Ab.length k3,.slice p4 a_1.Aa.Aj.length k4,.slice p5 a_1.Aa.Af.length k5,.slice p6 a_1.Ah.length k6],fct (a_0:Tl01Source) [.slice p1 a_0.code.length k1,.int .i64 a_0.at_,.int .i64 a_0.seed],same w0 w F]]:=h
  refine qn qb [.tmp 96] _ ([i27]:List Int) h rfl rfl rfl rfl rfl rfl rfl rfl rfl ⟨rfl,trivial⟩ rfl fun w64 p47 S42 h=>zp1 rfl (zs 5 h rfl fun w65 h=>X1 5 5 h rfl (zs 6 h rfl fun w66 h=>qaW ?_))
  have hk2:=h
  obtain ⟨S43,h⟩:=h.gather [1,3,5,6,7,8] (qea (⟨W64 (1+i1),i6,x1,x3,([i27]:List Int)⟩:qa) h (qD (S:=fun _=>False) rfl) (qD (S:=fun _=>False) rfl) (qE 4 h rfl) (qE 2 h rfl) (qE 0 h rfl) (by rfl) (by rfl) (by rfl) (by rfl)) rfl
  obtain rfl:=qd hF
  replace h:=h.pick [0,1,6] rfl
  replace h:SH _ _ [Ch.own S43 ((⟨W64 (1+i1),i6,x1,x3,([i27]:List Int)⟩:qa):qa) [.int .i64 (W64 (1+i1)),.int .i64 i6,.slice p8 x1.length k8,.slice p10 x3.length k10,.slice p47 1 1],Ch.box bb1 [.slice p1 a_0.code.length k1,.int .i64 i28,.int .i64 i29] 108,Ch.grp (old w0) (FS F) [fct (a_2:(List Int)) [.slice p7 a_2.length k7],fct (a_1:qc) [.slice p2 a_1.Ac.Ai.length k2,.slice p3 a_1.Aa.Ab.length k3,.slice p4 a_1.Aa.Aj.length k4,.slice p5 a_1.Aa.Af.length k5,.slice p6 a_1.Ah.length k6],fct (a_0:Tl01Source) [.slice p1 a_0.code.length k1,.int .i64 a_0.at_,.int .i64 a_0.seed],same w0 w F]]:=h
  exact qbp qb [GoT.v qa [.int .i64 (W64 (1+i1)),.int .i64 i6,.slice p8 x1.length k8,.slice p10 x3.length k10,.slice p47 1 1]] ⟨⟨_,_,_,rfl,rfl,hk2.box 6 rfl,rfl⟩,trivial⟩ ⟨_,_,rfl,SH.unframe 3 (L0:=[Ch.box bb1 (qh a_0 p1 k1) 108]) h0 [Ch.own S43 ((⟨W64 (1+i1),i6,x1,x3,([i27]:List Int)⟩:qa):qa) [.int .i64 (W64 (1+i1)),.int .i64 i6,.slice p8 x1.length k8,.slice p10 x3.length k10,.slice p47 1 1],Ch.box bb1 [.slice p1 a_0.code.length k1,.int .i64 i28,.int .i64 i29] 108] h rfl⟩
 refine X0 5 rfl (qm rfl hF ?_ ?_)<;>intro hF
 ·refine X1 3 6 h rfl (zcI h hF (qbh (h.grp 7 1 rfl rfl)) rfl fun r3 w67 h hF=>?_)
  obtain ⟨o10,hr14,hF⟩:=qe hF
  obtain ⟨i30,i31,i32⟩:=o10
  refine qz (cB 32 rfl) (qi (a_0:=(⟨a_0.code,i22,i23⟩:Tl01Source)) (a_1:=r3) h ⟨[.slice p1 a_0.code.length k1],[.int .i64 i22,.int .i64 i23],rfl,⟨_,_,rfl,(qf (h.frG 7 2 1 rfl rfl rfl)).1⟩,⟨[.int .i64 i22],[.int .i64 i23],rfl,rfl,rfl⟩⟩ hr14) rfl rfl rfl rfl ?_
  rintro w68 us8 ⟨rfl,h⟩
  replace h:SH _ _ [Ch.box bb1 [.slice p1 a_0.code.length k1,.int .i64 i31,.int .i64 i32] 108,Ch.own S4 (x3:List Int) [.slice p10 x3.length k10],Ch.own S3 (x2:List Int) [.slice p9 x2.length k9],Ch.own S2 (x1:List Int) [.slice p8 x1.length k8],Ch.box bb4 [.int .i64 (W64 (1+i1)),.int .i64 i6,.slice p8 x1.length k8,.slice p10 x3.length k10,.slice p9 x2.length k9] 59,Ch.box bb3 [.int .i64 0,.int .i64 0,.slice none 0 0,.slice none 0 0,.slice none 0 0] 59,Ch.box bb2 (qp a_1 p2 p3 p4 p5 p6 k2 k3 k4 k5 k6) 34,Ch.grp (old w0) (FS F) [fct (a_2:(List Int)) [.slice p7 a_2.length k7],fct (a_1:qc) [.slice p2 a_1.Ac.Ai.length k2,.slice p3 a_1.Aa.Ab.length k3,.slice p4 a_1.Aa.Aj.length k4,.slice p5 a_1.Aa.Af.length k5,.slice p6 a_1.Ah.length k6],fct (a_0:Tl01Source) [.slice p1 a_0.code.length k1,.int .i64 a_0.at_,.int .i64 a_0.seed],same w0 w F]]:=h
  refine qn qb [.tmp 104] _ ([i30]:List Int) h rfl rfl rfl rfl rfl rfl rfl rfl rfl ⟨rfl,trivial⟩ rfl fun w69 p48 S44 h=>zp1 rfl (zs 5 h rfl fun w70 h=>X1 5 5 h rfl (zs 6 h rfl fun w71 h=>qaW ?_))
  have hk3:=h
  obtain ⟨S45,h⟩:=h.gather [1,2,5,6,7,8] (qea (⟨W64 (1+i1),i6,x1,([i30]:List Int),x2⟩:qa) h (qD (S:=fun _=>False) rfl) (qD (S:=fun _=>False) rfl) (qE 4 h rfl) (qE 0 h rfl) (qE 3 h rfl) (by rfl) (by rfl) (by rfl) (by rfl)) rfl
  obtain rfl:=qd hF
  replace h:=h.pick [0,1,6] rfl
  replace h:SH _ _ [Ch.own S45 ((⟨W64 (1+i1),i6,x1,([i30]:List Int),x2⟩:qa):qa) [.int .i64 (W64 (1+i1)),.int .i64 i6,.slice p8 x1.length k8,.slice p48 1 1,.slice p9 x2.length k9],Ch.box bb1 [.slice p1 a_0.code.length k1,.int .i64 i31,.int .i64 i32] 108,Ch.grp (old w0) (FS F) [fct (a_2:(List Int)) [.slice p7 a_2.length k7],fct (a_1:qc) [.slice p2 a_1.Ac.Ai.length k2,.slice p3 a_1.Aa.Ab.length k3,.slice p4 a_1.Aa.Aj.length k4,.slice p5 a_1.Aa.Af.length k5,.slice p6 a_1.Ah.length k6],fct (a_0:Tl01Source) [.slice p1 a_0.code.length k1,.int .i64 a_0.at_,.int .i64 a_0.seed],same w0 w F]]:=h
  exact qbp qb [GoT.v qa [.int .i64 (W64 (1+i1)),.int .i64 i6,.slice p8 x1.length k8,.slice p48 1 1,.slice p9 x2.length k9]] ⟨⟨_,_,_,rfl,rfl,hk3.box 6 rfl,rfl⟩,trivial⟩ ⟨_,_,rfl,SH.unframe 3 (L0:=[Ch.box bb1 (qh a_0 p1 k1) 108]) h0 [Ch.own S45 ((⟨W64 (1+i1),i6,x1,([i30]:List Int),x2⟩:qa):qa) [.int .i64 (W64 (1+i1)),.int .i64 i6,.slice p8 x1.length k8,.slice p48 1 1,.slice p9 x2.length k9],Ch.box bb1 [.slice p1 a_0.code.length k1,.int .i64 i31,.int .i64 i32] 108] h rfl⟩
 refine X1 5 4 h rfl (zs 5 h rfl fun w72 h=>qaW ?_)
 have hk4:=h
 obtain ⟨S46,h⟩:=h.gather [0,4,5,6,7] (qea (⟨W64 (1+i1),i6,x1,x3,x2⟩:qa) h (qD (S:=fun _=>False) rfl) (qD (S:=fun _=>False) rfl) (qE 3 h rfl) (qE 1 h rfl) (qE 2 h rfl) (by rfl) (by rfl) (by rfl) (by rfl)) rfl
 obtain rfl:=qd hF
 replace h:=h.pick [0,1,5] rfl
 replace h:SH _ _ [Ch.own S46 ((⟨W64 (1+i1),i6,x1,x3,x2⟩:qa):qa) [.int .i64 (W64 (1+i1)),.int .i64 i6,.slice p8 x1.length k8,.slice p10 x3.length k10,.slice p9 x2.length k9],Ch.box bb1 [.slice p1 a_0.code.length k1,.int .i64 i22,.int .i64 i23] 108,Ch.grp (old w0) (FS F) [fct (a_2:(List Int)) [.slice p7 a_2.length k7],fct (a_1:qc) [.slice p2 a_1.Ac.Ai.length k2,.slice p3 a_1.Aa.Ab.length k3,.slice p4 a_1.Aa.Aj.length k4,.slice p5 a_1.Aa.Af.length k5,.slice p6 a_1.Ah.length k6],fct (a_0:Tl01Source) [.slice p1 a_0.code.length k1,.int .i64 a_0.at_,.int .i64 a_0.seed],same w0 w F]]:=h
 exact qbp qb [GoT.v qa [.int .i64 (W64 (1+i1)),.int .i64 i6,.slice p8 x1.length k8,.slice p10 x3.length k10,.slice p9 x2.length k9]] ⟨⟨_,_,_,rfl,rfl,hk4.box 5 rfl,rfl⟩,trivial⟩ ⟨_,_,rfl,SH.unframe 3 (L0:=[Ch.box bb1 (qh a_0 p1 k1) 108]) h0 [Ch.own S46 ((⟨W64 (1+i1),i6,x1,x3,x2⟩:qa):qa) [.int .i64 (W64 (1+i1)),.int .i64 i6,.slice p8 x1.length k8,.slice p10 x3.length k10,.slice p9 x2.length k9],Ch.box bb1 [.slice p1 a_0.code.length k1,.int .i64 i22,.int .i64 i23] 108] h rfl⟩
def qcg:Nat→(List qa)→Option (List qa)
 | 0,_=>none
 | n+1,x3 =>
  bif decide ((x3.length:Int)≤6) then
   (idx x3 0).bind fun y4 =>
   (appS x3 ([y4]:List qa)).bind fun x4 =>
   qcg n x4
  else
   some x3
def qci (s:Tl01Source) (b:qc) (path:(List Int)):Nat→(List qa)→Int→Int→Int→Option ((List qa) × Int × Int × Int)
 | 0,_,_,_,_=>none
 | n+1,x1,i4,i5,i6 =>
  bif decide (i6 > 0) then
   (qdE n (⟨s.code,i4,i5⟩:Tl01Source) b path).bind fun o=>match o with
    | (r1,i7,i8) =>
     (appS x1 ([r1]:List qa)).bind fun x2 =>
     qci s b path n x2 i7 i8 (W64 (i6-1))
  else
   some (x1,i4,i5,i6)
def qfm (n:Nat) (s:Tl01Source) (b:qc) (path:(List Int)):Option ((List qa) × Int × Int) :=
 (ql n (⟨s.code,s.at_,s.seed⟩:Tl01Source) 5).bind fun o=>match o with
  | (i1,i2,i3) =>
   (qci s b path n ([]:List qa) i2 i3 i1).bind fun o=>match o with
   | (x1,i4,i5,_) =>
    (
     bif decide ((x1.length:Int) > 0) then
      (ql n (⟨s.code,i4,i5⟩:Tl01Source) 16).bind fun o=>match o with
       | (i17,i18,i19) =>
        some (i18,i19,(i17==0))
     else
      some (i4,i5,false)).bind fun o=>match o with
     | (i9,i10,b1) =>
      bif b1 then
       (ql n (⟨s.code,i9,i10⟩:Tl01Source) 4).bind fun o=>match o with
        | (i11,i12,i13) =>
         bif (i11==0) then
          (ql n (⟨s.code,i12,i13⟩:Tl01Source) 2).bind fun o=>match o with
           | (i14,i15,i16) =>
            (idx x1 0).bind fun y1 =>
            some ((setS x1 0 (⟨W64 (5*i14),y1.Ba,y1.As,y1.Am,y1.To⟩:qa)),i15,i16)
         else
          bif (i11==1) then
           (idx x1 0).bind fun y2 =>
           some ((setS x1 0 (⟨y2.Ar,(-1),y2.As,y2.Am,y2.To⟩:qa)),i12,i13)
          else
           bif (i11==2) then
            (qaw n b).bind fun r2 =>
            (idx x1 0).bind fun y3 =>
            some ((setS x1 0 (⟨y3.Ar,y3.Ba,y3.As,y3.Am,([r2]:List Int)⟩:qa)),i12,i13)
           else
            (qcg n x1).bind fun x3 =>
            some (x3,i12,i13)
      else
       some (x1,i9,i10)
theorem qje {n:Nat} {w0 w:World} {F:List Ch} {s:Tl01Source} {bb1:Nat} {p1:Option Addr} {k1:Nat} {b:qc} {cs1:List Value} {path:(List Int)} {cs2:List Value} (h0:SH w0 w (Ch.box bb1 (qh s p1 k1) 108::F)) (ha1:GoT.R w (Fr w0 F) s [.slice p1 s.code.length k1,.int .i64 s.at_,.int .i64 s.seed]) (ha2:GoT.R w (Fr w0 F) b cs1) (ha3:GoT.R w (Fr w0 F) path cs2) {r:((List qa) × Int × Int)} (hF:qfm n s b path=some r):RetW Tryz.prog 97 [.pointer (some ⟨bb1,0,none⟩),GoT.v qc cs1,GoT.v (List Int) cs2] w (fun us w'=>∃ (S1:Nat→Prop) (cs3:List Value),us=[GoT.v (List qa) cs3]∧SH w0 w' (Ch.grp (fun _=>False) S1 [fct (r.1:(List qa)) cs3]::Ch.box bb1 [.slice p1 s.code.length k1,.int .i64 r.2.1,.int .i64 r.2.2] 108::F)):=by
 have h:=SH.frame [Ch.box bb1 (qh s p1 k1) 108] h0
 replace h:=h.grpAdd 1 rfl ha1
 have hz1:=ha2
 obtain ⟨p2,k2,p3,k3,p4,k4,p5,k5,p6,k6,rfl,s1,s2,s3,s4,s5⟩:=qJ ha2
 replace h:=h.grpAdd 1 rfl hz1
 have hz2:=ha3
 obtain ⟨p7,k7,rfl,s6⟩:=ha3
 replace h:=h.grpAdd 1 rfl hz2
 replace h:SH _ _ [Ch.box bb1 (qh s p1 k1) 108,Ch.grp (old w0) (FS F) [fct (path:(List Int)) [.slice p7 path.length k7],fct (b:qc) [.slice p2 b.Ac.Ai.length k2,.slice p3 b.Aa.Ab.length k3,.slice p4 b.Aa.Aj.length k4,.slice p5 b.Aa.Af.length k5,.slice p6 b.Ah.length k6],fct (s:Tl01Source) [.slice p1 s.code.length k1,.int .i64 s.at_,.int .i64 s.seed],same w0 w F]]:=h
 refine qbi Tryz.func97 rfl (m:=64) rfl rfl (zSR (qS h rfl rfl fun w1 bb2 h=>X0 4 rfl (qbz qb [] _ ([]:List qa) [0,1,2] h rfl rfl rfl rfl rfl rfl rfl rfl rfl qc6 rfl rfl fun w2 p8 S2 h=>X0 6 rfl ?_)))
 replace h:=h.pick [2,0,1,3] rfl
 obtain ⟨o1,hr1,hF⟩:=qe hF
 obtain ⟨i1,i2,i3⟩:=o1
 refine qz (cB 32 rfl) (qi (a_0:=(⟨s.code,s.at_,s.seed⟩:Tl01Source)) (a_1:=5) h ⟨[.slice p1 s.code.length k1],[.int .i64 s.at_,.int .i64 s.seed],rfl,⟨_,_,rfl,(qf (h.frG 3 2 1 rfl rfl rfl)).1⟩,⟨[.int .i64 s.at_],[.int .i64 s.seed],rfl,rfl,rfl⟩⟩ hr1) rfl rfl rfl rfl ?_
 rintro w3 us1 ⟨rfl,h⟩
 replace h:SH _ _ [Ch.box bb1 [.slice p1 s.code.length k1,.int .i64 i2,.int .i64 i3] 108,Ch.own S2 (([]:List qa):List qa) [.slice p8 0 0],Ch.box bb2 (qp b p2 p3 p4 p5 p6 k2 k3 k4 k5 k6) 34,Ch.grp (old w0) (FS F) [fct (path:(List Int)) [.slice p7 path.length k7],fct (b:qc) [.slice p2 b.Ac.Ai.length k2,.slice p3 b.Aa.Ab.length k3,.slice p4 b.Aa.Aj.length k4,.slice p5 b.Aa.Af.length k5,.slice p6 b.Ah.length k6],fct (s:Tl01Source) [.slice p1 s.code.length k1,.int .i64 s.at_,.int .i64 s.seed],same w0 w F]]:=h
 refine X0 2 rfl ?_
 obtain ⟨o2,hF,hK1⟩:=qe hF
 refine qu (rL (fun m e w'=>∃ (S3:Nat→Prop) (p9:Option Addr) (ln1:Nat) (k8:Nat) (x1:(List qa)) (i4:Int) (i5:Int) (i6:Int),qci s b path m x1 i4 i5 i6=some o2∧e=[(0,.pointer (some ⟨bb1,0,none⟩)),(2,.slice p7 path.length k7),(4,.pointer (some ⟨bb2,0,none⟩)),(7,.slice p9 ln1 k8),(8,.int .i64 i6)]∧SH w0 w' [Ch.box bb1 [.slice p1 s.code.length k1,.int .i64 i4,.int .i64 i5] 108,Ch.own S3 (x1:List qa) [.slice p9 ln1 k8],Ch.box bb2 (qp b p2 p3 p4 p5 p6 k2 k3 k4 k5 k6) 34,Ch.grp (old w0) (FS F) [fct (path:(List Int)) [.slice p7 path.length k7],fct (b:qc) [.slice p2 b.Ac.Ai.length k2,.slice p3 b.Aa.Ab.length k3,.slice p4 b.Aa.Aj.length k4,.slice p5 b.Aa.Af.length k5,.slice p6 b.Ah.length k6],fct (s:Tl01Source) [.slice p1 s.code.length k1,.int .i64 s.at_,.int .i64 s.seed],same w0 w F]]) n ⟨_,_,_,_,_,_,_,_,hF,rfl,h⟩ rfl ?_)
 rintro m1 e1 w4 ⟨S3,p9,ln1,k8,x1,i4,i5,i6,hF,rfl,h⟩
 obtain rfl:=(h.sl 1 rfl).2
 rcases m1 with _|m1
 ·cases hF
 refine X0 6 rfl (qm rfl hF ?_ ?_)<;>intro hF
 ·refine X1 8 2 h rfl ?_
  obtain ⟨o3,hr2,hF⟩:=qe hF
  obtain ⟨r1,i7,i8⟩:=o3
  refine qz (cB 134 rfl) (qhE (a_0:=(⟨s.code,i4,i5⟩:Tl01Source)) (a_1:=b) (a_2:=path) h ⟨[.slice p1 s.code.length k1],[.int .i64 i4,.int .i64 i5],rfl,⟨_,_,rfl,(qf (h.frG 3 2 1 rfl rfl rfl)).1⟩,⟨[.int .i64 i4],[.int .i64 i5],rfl,rfl,rfl⟩⟩ (h.frG 3 1 1 rfl rfl rfl) (h.frG 3 0 1 rfl rfl rfl) hr2) rfl rfl rfl rfl ?_
  rintro w5 us2 ⟨S4,cs4,rfl,h⟩
  obtain ⟨p10,k9,p11,k10,p12,k11,rfl,-,-,-⟩:=qB (h.own 0 rfl)
  replace h:SH _ _ [Ch.own S4 (r1:qa) (qdd r1 p10 p11 p12 k9 k10 k11),Ch.box bb1 [.slice p1 s.code.length k1,.int .i64 i7,.int .i64 i8] 108,Ch.own S3 (x1:List qa) [.slice p9 x1.length k8],Ch.box bb2 (qp b p2 p3 p4 p5 p6 k2 k3 k4 k5 k6) 34,Ch.grp (old w0) (FS F) [fct (path:(List Int)) [.slice p7 path.length k7],fct (b:qc) [.slice p2 b.Ac.Ai.length k2,.slice p3 b.Aa.Ab.length k3,.slice p4 b.Aa.Aj.length k4,.slice p5 b.Aa.Af.length k5,.slice p6 b.Ah.length k6],fct (s:Tl01Source) [.slice p1 s.code.length k1,.int .i64 s.at_,.int .i64 s.seed],same w0 w F]]:=h
  refine qbz qb [.tmp 20] _ ([r1]:List qa) [1,2,3,4] h rfl rfl rfl rfl rfl rfl rfl rfl rfl (qb7 (qE 0 h rfl) qc6 rfl) rfl rfl fun w6 p13 S5 h=>?_
  obtain ⟨x2,hx1,hF⟩:=qe hF
  obtain ⟨g1,hx1⟩:=qk hx1
  replace h:=h.pick [0,2,1,3,4] rfl
  refine qjg qb h rfl rfl rfl rfl rfl rfl rfl rfl rfl g1 hx1 rfl fun w7 p14 k12 S6 h=>X0 8 rfl ?_
  replace h:=h.pick [1,0,2,3] rfl
  exact rK ⟨_,_,_,_,_,_,_,_,hF,rfl,h⟩ rfl
 refine qA rfl ?_
 obtain rfl:=qd hF;replace hF:=hK1
 refine zSS ?_
 obtain ⟨KF1,hKF1,o7,hF,hK3⟩:=bindE hF
 refine qaV (fun e w'=>∃ (i9:Int) (i10:Int) (b1:Bool),KF1 (i9,i10,b1)=some r∧e=[(0,.pointer (some ⟨bb1,0,none⟩)),(4,.pointer (some ⟨bb2,0,none⟩)),(7,.slice p9 x1.length k8),(30,.bool b1)]∧SH w0 w' [Ch.box bb1 [.slice p1 s.code.length k1,.int .i64 i9,.int .i64 i10] 108,Ch.own S3 (x1:List qa) [.slice p9 x1.length k8],Ch.box bb2 (qp b p2 p3 p4 p5 p6 k2 k3 k4 k5 k6) 34,Ch.grp (old w0) (FS F) [fct (b:qc) [.slice p2 b.Ac.Ai.length k2,.slice p3 b.Aa.Ab.length k3,.slice p4 b.Aa.Aj.length k4,.slice p5 b.Aa.Af.length k5,.slice p6 b.Ah.length k6],fct (s:Tl01Source) [.slice p1 s.code.length k1,.int .i64 s.at_,.int .i64 s.seed],same w0 w F]]) ?_ ?_
 ·refine X0 5 rfl (qj (t:=26) hF rfl ?_ ?_)<;>intro hF
  ·refine X0 3 rfl ?_
   obtain ⟨o8,hr8,hF⟩:=qe hF
   obtain ⟨i17,i18,i19⟩:=o8
   refine qz (cB 32 rfl) (qi (a_0:=(⟨s.code,i4,i5⟩:Tl01Source)) (a_1:=16) h ⟨[.slice p1 s.code.length k1],[.int .i64 i4,.int .i64 i5],rfl,⟨_,_,rfl,(qf (h.frG 3 2 1 rfl rfl rfl)).1⟩,⟨[.int .i64 i4],[.int .i64 i5],rfl,rfl,rfl⟩⟩ hr8) rfl rfl rfl rfl ?_
   rintro w18 us5 ⟨rfl,h⟩
   replace h:SH _ _ [Ch.box bb1 [.slice p1 s.code.length k1,.int .i64 i18,.int .i64 i19] 108,Ch.own S3 (x1:List qa) [.slice p9 x1.length k8],Ch.box bb2 (qp b p2 p3 p4 p5 p6 k2 k3 k4 k5 k6) 34,Ch.grp (old w0) (FS F) [fct (path:(List Int)) [.slice p7 path.length k7],fct (b:qc) [.slice p2 b.Ac.Ai.length k2,.slice p3 b.Aa.Ab.length k3,.slice p4 b.Aa.Aj.length k4,.slice p5 b.Aa.Af.length k5,.slice p6 b.Ah.length k6],fct (s:Tl01Source) [.slice p1 s.code.length k1,.int .i64 s.at_,.int .i64 s.seed],same w0 w F]]:=h
   refine X0 4 rfl ?_
   replace h:=h.grpKeep [1,2,3] 3 rfl
   obtain rfl:=qd hF
   exact rG ⟨_,_,_,hK3,rfl,h⟩ rfl
  refine X0 5 rfl ?_
  replace h:=h.grpKeep [1,2,3] 3 rfl
  obtain rfl:=qd hF
  exact rG ⟨_,_,_,hK3,rfl,h⟩ rfl
 rintro e3 w19 ⟨i9,i10,b1,hF,rfl,h⟩
 subst hKF1
 refine qm rfl hF ?_ ?_<;>intro hF
 ·refine X0 3 rfl ?_
  obtain ⟨o4,hr3,hF⟩:=qe hF
  obtain ⟨i11,i12,i13⟩:=o4
  refine qz (cB 32 rfl) (qi (a_0:=(⟨s.code,i9,i10⟩:Tl01Source)) (a_1:=4) h ⟨[.slice p1 s.code.length k1],[.int .i64 i9,.int .i64 i10],rfl,⟨_,_,rfl,(qf (h.frG 3 1 1 rfl rfl rfl)).1⟩,⟨[.int .i64 i9],[.int .i64 i10],rfl,rfl,rfl⟩⟩ hr3) rfl rfl rfl rfl ?_
  rintro w8 us3 ⟨rfl,h⟩
  replace h:SH _ _ [Ch.box bb1 [.slice p1 s.code.length k1,.int .i64 i12,.int .i64 i13] 108,Ch.own S3 (x1:List qa) [.slice p9 x1.length k8],Ch.box bb2 (qp b p2 p3 p4 p5 p6 k2 k3 k4 k5 k6) 34,Ch.grp (old w0) (FS F) [fct (b:qc) [.slice p2 b.Ac.Ai.length k2,.slice p3 b.Aa.Ab.length k3,.slice p4 b.Aa.Aj.length k4,.slice p5 b.Aa.Af.length k5,.slice p6 b.Ah.length k6],fct (s:Tl01Source) [.slice p1 s.code.length k1,.int .i64 s.at_,.int .i64 s.seed],same w0 w F]]:=h
  refine X0 7 rfl (qm rfl hF ?_ ?_)<;>intro hF
  ·refine X0 3 rfl ?_
   obtain ⟨o5,hr4,hF⟩:=qe hF
   obtain ⟨i14,i15,i16⟩:=o5
   refine qz (cB 32 rfl) (qi (a_0:=(⟨s.code,i12,i13⟩:Tl01Source)) (a_1:=2) h ⟨[.slice p1 s.code.length k1],[.int .i64 i12,.int .i64 i13],rfl,⟨_,_,rfl,(qf (h.frG 3 1 1 rfl rfl rfl)).1⟩,⟨[.int .i64 i12],[.int .i64 i13],rfl,rfl,rfl⟩⟩ hr4) rfl rfl rfl rfl ?_
   rintro w9 us4 ⟨rfl,h⟩
   replace h:SH _ _ [Ch.box bb1 [.slice p1 s.code.length k1,.int .i64 i15,.int .i64 i16] 108,Ch.own S3 (x1:List qa) [.slice p9 x1.length k8],Ch.box bb2 (qp b p2 p3 p4 p5 p6 k2 k3 k4 k5 k6) 34,Ch.grp (old w0) (FS F) [fct (b:qc) [.slice p2 b.Ac.Ai.length k2,.slice p3 b.Aa.Ab.length k3,.slice p4 b.Aa.Aj.length k4,.slice p5 b.Aa.Af.length k5,.slice p6 b.Ah.length k6],fct (s:Tl01Source) [.slice p1 s.code.length k1,.int .i64 s.at_,.int .i64 s.seed],same w0 w F]]:=h
   refine zp1 rfl ?_
   obtain ⟨y1,hy1,hF⟩:=qe hF
   have he1:=qbd hy1
   replace h:=h.pick [1,0,2,3] rfl
   obtain ⟨S7,S8,cs5,h⟩:=h.take hy1
   obtain ⟨p15,k13,p16,k14,p17,k15,rfl,-,-,-⟩:=qB (h.own 0 rfl)
   obtain ⟨S9,S10,S11,h⟩:=qgB h
   obtain ⟨b2,hp1,-,-,hl2⟩:=h.holeAt 3 rfl
   obtain ⟨q1,hq1⟩:∃ q,q=0+(0:Int).toNat*GoT.k qa:=⟨_,rfl⟩
   refine zx hp1 hq1 ⟨he1.1,qab he1.2.1 hl2⟩ rfl (zp1 rfl (qh5 qb 3 0 h rfl hp1 hq1 rfl rfl rfl rfl rfl rfl fun w10 h=>X0 7 rfl ?_))
   obtain ⟨S12,h⟩:=h.gather [3,4,5,6] (qea (⟨W64 (5*i14),y1.Ba,y1.As,y1.Am,y1.To⟩:qa) h (qD (S:=fun _=>False) rfl) (qD (S:=fun _=>False) rfl) (qE 2 h rfl) (qE 1 h rfl) (qE 0 h rfl) (by rfl) (by rfl) (by rfl) (by rfl)) rfl
   replace h:=h.put
   obtain ⟨S13,h⟩:=qin (S:=_) h
   replace h:=h.frzI 0 rfl
   replace h:=h.grpAdd 0 rfl (x:=((setS x1 0 (⟨W64 (5*i14),y1.Ba,y1.As,y1.Am,y1.To⟩:qa)):(List qa))) (h.grpS 0 0 rfl rfl)
   replace h:=h.grpKeep [0] 0 rfl
   obtain rfl:=qd hF
   replace h:=h.pick [0,1,3] rfl
   replace h:SH _ _ [Ch.grp (fun _=>False) S13 [fct ((setS x1 0 (⟨W64 (5*i14),y1.Ba,y1.As,y1.Am,y1.To⟩:qa)):(List qa)) [.slice p9 x1.length k8]],Ch.box bb1 [.slice p1 s.code.length k1,.int .i64 i15,.int .i64 i16] 108,Ch.grp (old w0) (FS F) [fct (b:qc) [.slice p2 b.Ac.Ai.length k2,.slice p3 b.Aa.Ab.length k3,.slice p4 b.Aa.Aj.length k4,.slice p5 b.Aa.Af.length k5,.slice p6 b.Ah.length k6],fct (s:Tl01Source) [.slice p1 s.code.length k1,.int .i64 s.at_,.int .i64 s.seed],same w0 w F]]:=h
   exact qbp qb [GoT.v (List qa) [.slice p9 x1.length k8]] ⟨rfl,trivial⟩ ⟨_,_,rfl,SH.unframe 2 (L0:=[Ch.box bb1 (qh s p1 k1) 108]) h0 [Ch.grp (fun _=>False) S13 [fct ((setS x1 0 (⟨W64 (5*i14),y1.Ba,y1.As,y1.Am,y1.To⟩:qa)):(List qa)) [.slice p9 x1.length k8]],Ch.box bb1 [.slice p1 s.code.length k1,.int .i64 i15,.int .i64 i16] 108] h rfl⟩
  refine X0 5 rfl (qm rfl hF ?_ ?_)<;>intro hF
  ·refine X0 2 rfl ?_
   obtain ⟨y2,hy2,hF⟩:=qe hF
   have he2:=qbd hy2
   replace h:=h.pick [1,0,2,3] rfl
   obtain ⟨S14,S15,cs6,h⟩:=h.take hy2
   obtain ⟨p18,k16,p19,k17,p20,k18,rfl,-,-,-⟩:=qB (h.own 0 rfl)
   obtain ⟨S16,S17,S18,h⟩:=qgB h
   obtain ⟨b3,hp2,-,-,hl4⟩:=h.holeAt 3 rfl
   obtain ⟨q2,hq2⟩:∃ q,q=0+(0:Int).toNat*GoT.k qa:=⟨_,rfl⟩
   refine zx hp2 hq2 ⟨he2.1,qab he2.2.1 hl4⟩ rfl (zp1 rfl (qh5 qb 3 1 h rfl hp2 hq2 rfl rfl rfl rfl rfl rfl fun w11 h=>X0 7 rfl ?_))
   obtain ⟨S19,h⟩:=h.gather [3,4,5,6] (qea (⟨y2.Ar,(-1),y2.As,y2.Am,y2.To⟩:qa) h (qD (S:=fun _=>False) rfl) (qD (S:=fun _=>False) rfl) (qE 2 h rfl) (qE 1 h rfl) (qE 0 h rfl) (by rfl) (by rfl) (by rfl) (by rfl)) rfl
   replace h:=h.put
   obtain ⟨S20,h⟩:=qin (S:=_) h
   replace h:=h.frzI 0 rfl
   replace h:=h.grpAdd 0 rfl (x:=((setS x1 0 (⟨y2.Ar,(-1),y2.As,y2.Am,y2.To⟩:qa)):(List qa))) (h.grpS 0 0 rfl rfl)
   replace h:=h.grpKeep [0] 0 rfl
   obtain rfl:=qd hF
   replace h:=h.pick [0,1,3] rfl
   replace h:SH _ _ [Ch.grp (fun _=>False) S20 [fct ((setS x1 0 (⟨y2.Ar,(-1),y2.As,y2.Am,y2.To⟩:qa)):(List qa)) [.slice p9 x1.length k8]],Ch.box bb1 [.slice p1 s.code.length k1,.int .i64 i12,.int .i64 i13] 108,Ch.grp (old w0) (FS F) [fct (b:qc) [.slice p2 b.Ac.Ai.length k2,.slice p3 b.Aa.Ab.length k3,.slice p4 b.Aa.Aj.length k4,.slice p5 b.Aa.Af.length k5,.slice p6 b.Ah.length k6],fct (s:Tl01Source) [.slice p1 s.code.length k1,.int .i64 s.at_,.int .i64 s.seed],same w0 w F]]:=h
   exact qbp qb [GoT.v (List qa) [.slice p9 x1.length k8]] ⟨rfl,trivial⟩ ⟨_,_,rfl,SH.unframe 2 (L0:=[Ch.box bb1 (qh s p1 k1) 108]) h0 [Ch.grp (fun _=>False) S20 [fct ((setS x1 0 (⟨y2.Ar,(-1),y2.As,y2.Am,y2.To⟩:qa)):(List qa)) [.slice p9 x1.length k8]],Ch.box bb1 [.slice p1 s.code.length k1,.int .i64 i12,.int .i64 i13] 108] h rfl⟩
  refine X0 5 rfl (qm rfl hF ?_ ?_)<;>intro hF
  ·refine X1 3 2 h rfl (zcI h hF (qbh (h.grp 3 0 rfl rfl)) rfl fun r2 w12 h hF=>qn qb [.tmp 59] _ ([r2]:List Int) h rfl rfl rfl rfl rfl rfl rfl rfl rfl ⟨rfl,trivial⟩ rfl fun w13 p21 S21 h=>?_)
   obtain ⟨y3,hy3,hF⟩:=qe hF
   have he3:=qbd hy3
   replace h:=h.pick [2,0,1,3,4] rfl
   obtain ⟨S22,S23,cs7,h⟩:=h.take hy3
   obtain ⟨p22,k19,p23,k20,p24,k21,rfl,-,-,-⟩:=qB (h.own 0 rfl)
   obtain ⟨S24,S25,S26,h⟩:=qgB h
   obtain ⟨b4,hp3,-,-,hl6⟩:=h.holeAt 3 rfl
   obtain ⟨q3,hq3⟩:∃ q,q=0+(0:Int).toNat*GoT.k qa:=⟨_,rfl⟩
   refine zx hp3 hq3 ⟨he3.1,qab he3.2.1 hl6⟩ rfl (zp1 rfl (qh5 qb 3 4 h rfl hp3 hq3 rfl rfl rfl rfl rfl rfl fun w14 h=>?_))
   replace h:SH _ _ [Ch.own S26 (y3.To:List Int) [.slice p24 y3.To.length k21],Ch.own S25 (y3.Am:List Int) [.slice p23 y3.Am.length k20],Ch.own S24 (y3.As:List Int) [.slice p22 y3.As.length k19],Ch.hole S23 (x1:List qa) p9 x1.length k8 (0:Int).toNat [.int .i64 y3.Ar,.int .i64 y3.Ba,.slice p22 y3.As.length k19,.slice p23 y3.Am.length k20,.slice p21 1 1],Ch.own S21 (([r2]:List Int):List Int) [.slice p21 1 1],Ch.box bb1 [.slice p1 s.code.length k1,.int .i64 i12,.int .i64 i13] 108,Ch.box bb2 (qp b p2 p3 p4 p5 p6 k2 k3 k4 k5 k6) 34,Ch.grp (old w0) (FS F) [fct (b:qc) [.slice p2 b.Ac.Ai.length k2,.slice p3 b.Aa.Ab.length k3,.slice p4 b.Aa.Aj.length k4,.slice p5 b.Aa.Af.length k5,.slice p6 b.Ah.length k6],fct (s:Tl01Source) [.slice p1 s.code.length k1,.int .i64 s.at_,.int .i64 s.seed],same w0 w F]]:=h
   refine X0 7 rfl ?_
   obtain ⟨S27,h⟩:=h.gather [0,3,5,6,7] (qea (⟨y3.Ar,y3.Ba,y3.As,y3.Am,([r2]:List Int)⟩:qa) h (qD (S:=fun _=>False) rfl) (qD (S:=fun _=>False) rfl) (qE 2 h rfl) (qE 1 h rfl) (qE 4 h rfl) (by rfl) (by rfl) (by rfl) (by rfl)) rfl
   replace h:=h.pick [0,2,1,3,4,5] rfl
   replace h:=h.put
   obtain ⟨S28,h⟩:=qin (S:=_) h
   replace h:=h.frzI 0 rfl
   replace h:=h.grpAdd 0 rfl (x:=((setS x1 0 (⟨y3.Ar,y3.Ba,y3.As,y3.Am,([r2]:List Int)⟩:qa)):(List qa))) (h.grpS 0 0 rfl rfl)
   replace h:=h.grpKeep [0] 0 rfl
   obtain rfl:=qd hF
   replace h:=h.pick [0,2,4] rfl
   replace h:SH _ _ [Ch.grp (fun _=>False) S28 [fct ((setS x1 0 (⟨y3.Ar,y3.Ba,y3.As,y3.Am,([r2]:List Int)⟩:qa)):(List qa)) [.slice p9 x1.length k8]],Ch.box bb1 [.slice p1 s.code.length k1,.int .i64 i12,.int .i64 i13] 108,Ch.grp (old w0) (FS F) [fct (b:qc) [.slice p2 b.Ac.Ai.length k2,.slice p3 b.Aa.Ab.length k3,.slice p4 b.Aa.Aj.length k4,.slice p5 b.Aa.Af.length k5,.slice p6 b.Ah.length k6],fct (s:Tl01Source) [.slice p1 s.code.length k1,.int .i64 s.at_,.int .i64 s.seed],same w0 w F]]:=h
   exact qbp qb [GoT.v (List qa) [.slice p9 x1.length k8]] ⟨rfl,trivial⟩ ⟨_,_,rfl,SH.unframe 2 (L0:=[Ch.box bb1 (qh s p1 k1) 108]) h0 [Ch.grp (fun _=>False) S28 [fct ((setS x1 0 (⟨y3.Ar,y3.Ba,y3.As,y3.Am,([r2]:List Int)⟩:qa)):(List qa)) [.slice p9 x1.length k8]],Ch.box bb1 [.slice p1 s.code.length k1,.int .i64 i12,.int .i64 i13] 108] h rfl⟩
  replace h:=h.grpKeep [1,2] 3 rfl
  replace h:=h.pick [1,0,2,3] rfl
  obtain ⟨S29,S30,h,-⟩:=h.toRowX
  obtain ⟨o6,hF,hK2⟩:=qe hF
  refine qu ?_
  replace h:=h.pick [0,1,3] rfl
  refine rL (fun m e w'=>∃ (S31:Nat→Prop) (S32:Nat→Prop) (p25:Option Addr) (k22:Nat) (x3:(List qa)),qcg m x3=some o6∧e=[(7,.slice p25 x3.length k22)]∧SH w0 w' [Ch.rowX S31 S32 (x3:List qa) p25 k22 [],Ch.box bb1 [.slice p1 s.code.length k1,.int .i64 i12,.int .i64 i13] 108,Ch.grp (old w0) (FS F) [fct (s:Tl01Source) [.slice p1 s.code.length k1,.int .i64 s.at_,.int .i64 s.seed],same w0 w F]]) n ⟨_,_,_,_,_,hF,rfl,h⟩ rfl ?_
  rintro m2 e2 w15 ⟨S31,S32,p25,k22,x3,hF,rfl,h⟩
  rcases m2 with _|m2
  ·cases hF
  refine X0 7 rfl (qm rfl hF ?_ ?_)<;>intro hF
  ·refine X0 5 rfl ?_
   obtain ⟨y4,hy4,hF⟩:=qe hF
   have he4:=qbd hy4
   obtain ⟨b5,o_1,q4,cs8,hp4,hq4,-,hr6,hc7⟩:=h.atX 0 rfl hy4
   have hr7:=hr6
   obtain ⟨p26,k23,p27,k24,p28,k25,rfl,s16,s17,s18⟩:=qB hr6
   replace h:=h.xAdd 0 rfl hr7
   refine zxe hp4 hq4 he4 rfl (zc 0 hc7 rfl (qn qb [.tmp 39] _ ([⟨[.int .i64 y4.Ar,.int .i64 y4.Ba,.slice p26 y4.As.length k23,.slice p27 y4.Am.length k24,.slice p28 y4.To.length k25]⟩]:List (Raw qa)) h rfl rfl rfl rfl rfl rfl rfl rfl rfl ⟨qqc (h.xS 0 0 rfl rfl),trivial⟩ rfl fun w16 p29 S33 h=>?_))
   obtain ⟨x4,hx2,hF⟩:=qe hF
   obtain ⟨g2,hx2⟩:=qk hx2
   replace h:=h.pick [1,0,2,3] rfl
   refine qqs (ys:=([y4]:List qa)) qb h ⟨(h.xS 0 0 rfl rfl),trivial⟩ rfl rfl rfl rfl rfl rfl rfl rfl rfl rfl g2 hx2 rfl fun w17 p30 k26 S34 h=>X0 3 rfl ?_
   replace h:=h.xKeep [] 0 rfl
   exact rK ⟨_,_,_,_,_,hF,rfl,h⟩ rfl
  refine qA rfl ?_
  obtain rfl:=qd hF;replace hF:=hK2
  refine X0 6 rfl ?_
  replace h:=h.frzX 0 rfl
  replace h:=h.grpAdd 0 rfl (x:=(x3:(List qa))) (h.grpS 0 0 rfl rfl)
  replace h:=h.grpKeep [0] 0 rfl
  obtain rfl:=qd hF
  replace h:SH _ _ [Ch.grp (fun _=>False) (fun b=>S31 b∨S32 b) [fct (x3:(List qa)) [.slice p25 x3.length k22]],Ch.box bb1 [.slice p1 s.code.length k1,.int .i64 i12,.int .i64 i13] 108,Ch.grp (old w0) (FS F) [fct (s:Tl01Source) [.slice p1 s.code.length k1,.int .i64 s.at_,.int .i64 s.seed],same w0 w F]]:=h
  exact qbp qb [GoT.v (List qa) [.slice p25 x3.length k22]] ⟨rfl,trivial⟩ ⟨_,_,rfl,SH.unframe 1 (L0:=[Ch.box bb1 (qh s p1 k1) 108]) h0 [Ch.grp (fun _=>False) (fun b=>S31 b∨S32 b) [fct (x3:(List qa)) [.slice p25 x3.length k22]],Ch.box bb1 [.slice p1 s.code.length k1,.int .i64 i12,.int .i64 i13] 108] h rfl⟩
 refine X0 6 rfl ?_
 replace h:=h.frzI 1 rfl
 replace h:=h.grpAdd 1 rfl (x:=(x1:(List qa))) (h.grpS 1 0 rfl rfl)
 replace h:=h.grpKeep [0] 1 rfl
 obtain rfl:=qd hF
 replace h:=h.pick [1,0,3] rfl
 replace h:SH _ _ [Ch.grp (fun _=>False) S3 [fct (x1:(List qa)) [.slice p9 x1.length k8]],Ch.box bb1 [.slice p1 s.code.length k1,.int .i64 i9,.int .i64 i10] 108,Ch.grp (old w0) (FS F) [fct (b:qc) [.slice p2 b.Ac.Ai.length k2,.slice p3 b.Aa.Ab.length k3,.slice p4 b.Aa.Aj.length k4,.slice p5 b.Aa.Af.length k5,.slice p6 b.Ah.length k6],fct (s:Tl01Source) [.slice p1 s.code.length k1,.int .i64 s.at_,.int .i64 s.seed],same w0 w F]]:=h
 exact qbp qb [GoT.v (List qa) [.slice p9 x1.length k8]] ⟨rfl,trivial⟩ ⟨_,_,rfl,SH.unframe 2 (L0:=[Ch.box bb1 (qh s p1 k1) 108]) h0 [Ch.grp (fun _=>False) S3 [fct (x1:(List qa)) [.slice p9 x1.length k8]],Ch.box bb1 [.slice p1 s.code.length k1,.int .i64 i9,.int .i64 i10] 108] h rfl⟩
def qfo (n:Nat) (code:(List (IntK .u8))):Option (qc × (List qa) × (List Int)) :=
 (qim n code).bind fun o=>match o with
  | some (⟨_,_,i1⟩) =>
   ((qhm n (⟨code,0,i1⟩:Tl01Source)).bind fun o=>match o with
    | (r2,i2,i3) =>
     (
      (qeH n r2).bind fun r7 =>
      bif (!r7) then some true else
      (qaw n r2).bind fun r8 =>
      some (r8==0)).bind fun b1 =>
     bif b1 then some (r2,[],([0]:List Int)) else
     (qew n (⟨code,i2,i3⟩:Tl01Source) r2).bind fun o=>match o with
      | (r3,i4,i5) =>
       (qfm n (⟨code,i4,i5⟩:Tl01Source) r2 r3).bind fun o=>match o with
        | (r4,i6,i7) =>
         (ql n (⟨code,i6,i7⟩:Tl01Source) 3).bind fun o=>match o with
          | (i8,i9,i10) =>
           (
            bif (i8==0) then
             (qew n (⟨code,i9,i10⟩:Tl01Source) r2).bind fun o=>match o with
              | (r6,i19,i20) =>
               some (r6,i19,i20)
            else
             some (r3,i9,i10)).bind fun o=>match o with
            | (x1,i11,i12) =>
             (ql n (⟨code,i11,i12⟩:Tl01Source) 14).bind fun o=>match o with
              | (i13,i14,i15) =>
               bif (i13==0) then
                (qaw n r2).bind fun r5 =>
                (ql n (⟨code,i14,i15⟩:Tl01Source) r5).bind fun o=>match o with
                 | (i16,_,_) =>
                  (appS x1 ([i16]:List Int)).bind fun x2 =>
                  some (r2,r4,x2)
               else
                some (r2,r4,x1))
  | _=>none
theorem qjx {A:Nat→Prop} (hA:∀ b,A b→old w b) {code:(List (IntK .u8))} (ha1:GoT.R w A code cs1) {r:(qc × (List qa) × (List Int))} (hF:qfo n code=some r):RetG Tryz.prog 46 [GoT.v (List (IntK .u8)) cs1] w A r:=by
 obtain ⟨p1,k1,rfl,s1⟩:=ha1
 have hg:=Rg.start hA
 refine qfY Tryz.func46 rfl (m:=49) rfl rfl (fun h=>?_)
 refine zSR (qx qb h rfl rfl rfl fun w1 bb1 h=>X0 6 rfl ?_)
 obtain ⟨r1,hr1,hF⟩:=qe hF
 refine qpJ (cB 30 rfl) (qky ⟨_,_,rfl,(h.oldS (s1.mono hg.old))⟩ hr1) rfl rfl rfl rfl ?_
 rintro w2 us1 L1 hs1 ⟨bb2,i1,rfl,rfl,rfl⟩
 replace h:SH _ _ [Ch.box bb2 [.slice p1 code.length k1,.int .i64 0,.int .i64 i1] 108,Ch.box bb1 [.slice none 0 0,.slice none 0 0,.slice none 0 0,.slice none 0 0,.slice none 0 0] 34]:=SH.appendN h hs1 ⟨fun _ h=>h,trivial⟩
 refine X0 5 rfl ?_
 obtain ⟨o1,hr2,hF⟩:=qe hF
 obtain ⟨r2,i2,i3⟩:=o1
 refine qz (cB 31 rfl) (qkJ (s:=(⟨code,0,i1⟩:Tl01Source)) h (qdv _ (h.frOldS (s1.mono hg.old))) hr2) rfl rfl rfl rfl ?_
 rintro w3 us2 ⟨S1,cs2,rfl,h⟩
 have hr3:=h.grpS 0 0 rfl rfl
 obtain ⟨p2,k2,p3,k3,p4,k4,p5,k5,p6,k6,rfl,s2,s3,s4,s5,s6⟩:=qJ hr3
 replace h:SH _ _ [Ch.grp (fun _=>False) S1 [fct (r2:qc) [.slice p2 r2.Ac.Ai.length k2,.slice p3 r2.Aa.Ab.length k3,.slice p4 r2.Aa.Aj.length k4,.slice p5 r2.Aa.Af.length k5,.slice p6 r2.Ah.length k6]],Ch.box bb2 [.slice p1 code.length k1,.int .i64 i2,.int .i64 i3] 108,Ch.box bb1 [.slice none 0 0,.slice none 0 0,.slice none 0 0,.slice none 0 0,.slice none 0 0] 34]:=h
 refine qx qb h rfl rfl rfl fun w4 bb3 h=>zs 0 h rfl fun w5 h=>zNSS ?_
 obtain ⟨KF2,hKF2,o9,hF,hK2⟩:=bindE hF
 refine qaV (fun e w'=>∃ (b1:Bool),KF2 b1=some r∧e=[(2,.pointer (some ⟨bb1,0,none⟩)),(5,.pointer (some ⟨bb2,0,none⟩)),(6,.pointer (some ⟨bb3,0,none⟩)),(20,.bool b1)]∧SH w w' [Ch.box bb3 (qp r2 p2 p3 p4 p5 p6 k2 k3 k4 k5 k6) 34,Ch.grp (fun _=>False) S1 [fct (r2:qc) [.slice p2 r2.Ac.Ai.length k2,.slice p3 r2.Aa.Ab.length k3,.slice p4 r2.Aa.Aj.length k4,.slice p5 r2.Aa.Af.length k5,.slice p6 r2.Ah.length k6]],Ch.box bb2 [.slice p1 code.length k1,.int .i64 i2,.int .i64 i3] 108,Ch.box bb1 [.slice none 0 0,.slice none 0 0,.slice none 0 0,.slice none 0 0,.slice none 0 0] 34]) ?_ ?_
 ·refine X1 2 0 h rfl (zcB h hF (qfJ (h.grp 1 0 rfl rfl)) rfl fun r7 w20 h hF=>zp2 rfl (qj (t:=16) hF rfl ?_ ?_))<;>intro hF
  ·refine X0 5 rfl ?_
   obtain rfl:=qd hF
   exact rG ⟨_,hK2,rfl,h⟩ rfl
  refine X1 3 0 h rfl (zcI h hF (qbh (h.grp 1 0 rfl rfl)) rfl fun r8 w21 h hF=>X0 4 rfl ?_)
  obtain rfl:=qd hF
  exact rG ⟨_,hK2,rfl,h⟩ rfl
 rintro e2 w22 ⟨b1,hF,rfl,h⟩
 subst hKF2
 refine qm rfl hF ?_ ?_<;>intro hF
 ·refine X1 3 0 h rfl (qn qb [.const (.int .i64 (0))] _ ([0]:List Int) h rfl rfl rfl rfl rfl rfl rfl rfl rfl ⟨rfl,trivial⟩ rfl fun w6 p7 S2 h=>zs 4 h rfl fun w7 h=>X0 3 rfl ?_)
  obtain rfl:=qd hF
  have hv1:GoRs.Rs (ρ:=(qc × (List qa) × (List Int))) h.wc (reg A w h.wc) (r2,[],([0]:List Int)) [GoT.v qc (qp r2 p2 p3 p4 p5 p6 k2 k3 k4 k5 k6),GoT.v (List qa) [.slice none 0 0],GoT.v (List Int) [.slice p7 1 1]]:=⟨_,_,rfl,(hg.outR h (GoT.mono (Rg.grpR 2 0 h rfl rfl) (fun _ hb=>hb.elim (fun h=>h.elim) .inr))),⟨_,_,rfl,(hg.outR h (⟨_,_,rfl,qbf⟩)),⟨_,rfl,(hg.outR h (Rg.ownR 0 h rfl))⟩⟩⟩
  have hk1:=h
  replace h:=h.pick [0,1,3,4] rfl
  exact qhB qb (ρ:=(qc × (List qa) × (List Int))) (r:=(r2,[],([0]:List Int))) [GoT.v qc (qp r2 p2 p3 p4 p5 p6 k2 k3 k4 k5 k6),GoT.v (List qa) [.slice none 0 0],GoT.v (List Int) [.slice p7 1 1]] h ⟨⟨_,_,_,rfl,rfl,hk1.box 4 rfl,rfl⟩,rfl,rfl,trivial⟩ hv1
 refine X1 5 0 h rfl ?_
 replace h:=h.pick [2,0,1,3] rfl
 obtain ⟨o2,hr5,hF⟩:=qe hF
 obtain ⟨r3,i4,i5⟩:=o2
 refine qz (cB 96 rfl) (qgN (s:=(⟨code,i2,i3⟩:Tl01Source)) (b:=r2) h (qdv _ (h.frOldS (s1.mono hg.old))) (h.frG 2 0 1 rfl rfl rfl) hr5) rfl rfl rfl rfl ?_
 rintro w8 us3 ⟨S3,cs3,rfl,h⟩
 obtain ⟨p8,k7,rfl,-⟩:=h.own 0 rfl
 replace h:SH _ _ [Ch.own S3 (r3:List Int) [.slice p8 r3.length k7],Ch.box bb2 [.slice p1 code.length k1,.int .i64 i4,.int .i64 i5] 108,Ch.box bb3 (qp r2 p2 p3 p4 p5 p6 k2 k3 k4 k5 k6) 34,Ch.grp (fun _=>False) S1 [fct (r2:qc) [.slice p2 r2.Ac.Ai.length k2,.slice p3 r2.Aa.Ab.length k3,.slice p4 r2.Aa.Aj.length k4,.slice p5 r2.Aa.Af.length k5,.slice p6 r2.Ah.length k6]],Ch.box bb1 [.slice none 0 0,.slice none 0 0,.slice none 0 0,.slice none 0 0,.slice none 0 0] 34]:=h
 refine X1 7 2 h rfl ?_
 replace h:=h.pick [1,0,2,3,4] rfl
 obtain ⟨o3,hr6,hF⟩:=qe hF
 obtain ⟨r4,i6,i7⟩:=o3
 refine qz (cB 97 rfl) (qje (s:=(⟨code,i4,i5⟩:Tl01Source)) (b:=r2) (path:=r3) h (qdv _ (h.frOldS (s1.mono hg.old))) (h.frG 3 0 1 rfl rfl rfl) (h.frO 1 1 rfl rfl) hr6) rfl rfl rfl rfl ?_
 rintro w9 us4 ⟨S4,cs4,rfl,h⟩
 have hr7:=h.grpS 0 0 rfl rfl
 obtain ⟨p9,k8,rfl,s7⟩:=hr7
 replace h:SH _ _ [Ch.grp (fun _=>False) S4 [fct (r4:(List qa)) [.slice p9 r4.length k8]],Ch.box bb2 [.slice p1 code.length k1,.int .i64 i6,.int .i64 i7] 108,Ch.own S3 (r3:List Int) [.slice p8 r3.length k7],Ch.box bb3 (qp r2 p2 p3 p4 p5 p6 k2 k3 k4 k5 k6) 34,Ch.grp (fun _=>False) S1 [fct (r2:qc) [.slice p2 r2.Ac.Ai.length k2,.slice p3 r2.Aa.Ab.length k3,.slice p4 r2.Aa.Aj.length k4,.slice p5 r2.Aa.Af.length k5,.slice p6 r2.Ah.length k6]],Ch.box bb1 [.slice none 0 0,.slice none 0 0,.slice none 0 0,.slice none 0 0,.slice none 0 0] 34]:=h
 refine X0 6 rfl ?_
 replace h:=h.pick [1,0,2,3,4,5] rfl
 obtain ⟨o4,hr9,hF⟩:=qe hF
 obtain ⟨i8,i9,i10⟩:=o4
 refine qz (cB 32 rfl) (qi (a_0:=(⟨code,i6,i7⟩:Tl01Source)) (a_1:=3) h (qdv _ (h.frOldS (s1.mono hg.old))) hr9) rfl rfl rfl rfl ?_
 rintro w10 us5 ⟨rfl,h⟩
 replace h:SH _ _ [Ch.box bb2 [.slice p1 code.length k1,.int .i64 i9,.int .i64 i10] 108,Ch.grp (fun _=>False) S4 [fct (r4:(List qa)) [.slice p9 r4.length k8]],Ch.own S3 (r3:List Int) [.slice p8 r3.length k7],Ch.box bb3 (qp r2 p2 p3 p4 p5 p6 k2 k3 k4 k5 k6) 34,Ch.grp (fun _=>False) S1 [fct (r2:qc) [.slice p2 r2.Ac.Ai.length k2,.slice p3 r2.Aa.Ab.length k3,.slice p4 r2.Aa.Aj.length k4,.slice p5 r2.Aa.Af.length k5,.slice p6 r2.Ah.length k6]],Ch.box bb1 [.slice none 0 0,.slice none 0 0,.slice none 0 0,.slice none 0 0,.slice none 0 0] 34]:=h
 refine X0 2 rfl ?_
 obtain ⟨KF1,hKF1,o7,hF,hK1⟩:=bindE hF
 refine qaV (fun e w'=>∃ (S5:Nat→Prop) (p10:Option Addr) (ln1:Nat) (k9:Nat) (x1:(List Int)) (i11:Int) (i12:Int),KF1 (x1,i11,i12)=some r∧e=[(2,.pointer (some ⟨bb1,0,none⟩)),(5,.pointer (some ⟨bb2,0,none⟩)),(6,.pointer (some ⟨bb3,0,none⟩)),(7,.slice p10 ln1 k9),(8,.slice p9 r4.length k8)]∧SH w w' [Ch.own S5 (x1:List Int) [.slice p10 ln1 k9],Ch.box bb2 [.slice p1 code.length k1,.int .i64 i11,.int .i64 i12] 108,Ch.grp (fun _=>False) S4 [fct (r4:(List qa)) [.slice p9 r4.length k8]],Ch.box bb3 (qp r2 p2 p3 p4 p5 p6 k2 k3 k4 k5 k6) 34,Ch.grp (fun _=>False) S1 [fct (r2:qc) [.slice p2 r2.Ac.Ai.length k2,.slice p3 r2.Aa.Ab.length k3,.slice p4 r2.Aa.Aj.length k4,.slice p5 r2.Aa.Af.length k5,.slice p6 r2.Ah.length k6]],Ch.box bb1 [.slice none 0 0,.slice none 0 0,.slice none 0 0,.slice none 0 0,.slice none 0 0] 34]) ?_ ?_
 ·refine qm rfl hF ?_ ?_<;>intro hF
  ·refine X1 3 3 h rfl ?_
   obtain ⟨o8,hr13,hF⟩:=qe hF
   obtain ⟨r6,i19,i20⟩:=o8
   refine qz (cB 96 rfl) (qgN (s:=(⟨code,i9,i10⟩:Tl01Source)) (b:=r2) h (qdv _ (h.frOldS (s1.mono hg.old))) (h.frG 4 0 1 rfl rfl rfl) hr13) rfl rfl rfl rfl ?_
   rintro w18 us8 ⟨S8,cs5,rfl,h⟩
   obtain ⟨p13,k11,rfl,-⟩:=h.own 0 rfl
   replace h:SH _ _ [Ch.own S8 (r6:List Int) [.slice p13 r6.length k11],Ch.box bb2 [.slice p1 code.length k1,.int .i64 i19,.int .i64 i20] 108,Ch.grp (fun _=>False) S4 [fct (r4:(List qa)) [.slice p9 r4.length k8]],Ch.own S3 (r3:List Int) [.slice p8 r3.length k7],Ch.box bb3 (qp r2 p2 p3 p4 p5 p6 k2 k3 k4 k5 k6) 34,Ch.grp (fun _=>False) S1 [fct (r2:qc) [.slice p2 r2.Ac.Ai.length k2,.slice p3 r2.Aa.Ab.length k3,.slice p4 r2.Aa.Aj.length k4,.slice p5 r2.Aa.Af.length k5,.slice p6 r2.Ah.length k6]],Ch.box bb1 [.slice none 0 0,.slice none 0 0,.slice none 0 0,.slice none 0 0,.slice none 0 0] 34]:=h
   refine X0 2 rfl ?_
   replace h:=h.pick [0,1,2,4,5,6] rfl
   obtain rfl:=qd hF
   exact rG ⟨_,_,_,_,_,_,_,hK1,rfl,h⟩ rfl
  refine qdy ?_
  replace h:=h.pick [2,0,1,3,4,5] rfl
  obtain rfl:=qd hF
  exact rG ⟨_,_,_,_,_,_,_,hK1,rfl,h⟩ rfl
 rintro e1 w19 ⟨S5,p10,ln1,k9,x1,i11,i12,hF,rfl,h⟩
 subst hKF1
 obtain rfl:=(h.sl 0 rfl).2
 refine X0 4 rfl ?_
 replace h:=h.pick [1,0,2,3,4,5] rfl
 obtain ⟨o5,hr10,hF⟩:=qe hF
 obtain ⟨i13,i14,i15⟩:=o5
 refine qz (cB 32 rfl) (qi (a_0:=(⟨code,i11,i12⟩:Tl01Source)) (a_1:=14) h (qdv _ (h.frOldS (s1.mono hg.old))) hr10) rfl rfl rfl rfl ?_
 rintro w11 us6 ⟨rfl,h⟩
 replace h:SH _ _ [Ch.box bb2 [.slice p1 code.length k1,.int .i64 i14,.int .i64 i15] 108,Ch.own S5 (x1:List Int) [.slice p10 x1.length k9],Ch.grp (fun _=>False) S4 [fct (r4:(List qa)) [.slice p9 r4.length k8]],Ch.box bb3 (qp r2 p2 p3 p4 p5 p6 k2 k3 k4 k5 k6) 34,Ch.grp (fun _=>False) S1 [fct (r2:qc) [.slice p2 r2.Ac.Ai.length k2,.slice p3 r2.Aa.Ab.length k3,.slice p4 r2.Aa.Aj.length k4,.slice p5 r2.Aa.Af.length k5,.slice p6 r2.Ah.length k6]],Ch.box bb1 [.slice none 0 0,.slice none 0 0,.slice none 0 0,.slice none 0 0,.slice none 0 0] 34]:=h
 refine X0 2 rfl (qm rfl hF ?_ ?_)<;>intro hF
 ·refine X1 4 3 h rfl (zcI h hF (qbh (h.grp 4 0 rfl rfl)) rfl fun r5 w12 h hF=>?_)
  obtain ⟨o6,hr12,hF⟩:=qe hF
  obtain ⟨i16,i17,i18⟩:=o6
  refine qz (cB 32 rfl) (qi (a_0:=(⟨code,i14,i15⟩:Tl01Source)) (a_1:=r5) h (qdv _ (h.frOldS (s1.mono hg.old))) hr12) rfl rfl rfl rfl ?_
  rintro w13 us7 ⟨rfl,h⟩
  replace h:SH _ _ [Ch.box bb2 [.slice p1 code.length k1,.int .i64 i17,.int .i64 i18] 108,Ch.own S5 (x1:List Int) [.slice p10 x1.length k9],Ch.grp (fun _=>False) S4 [fct (r4:(List qa)) [.slice p9 r4.length k8]],Ch.box bb3 (qp r2 p2 p3 p4 p5 p6 k2 k3 k4 k5 k6) 34,Ch.grp (fun _=>False) S1 [fct (r2:qc) [.slice p2 r2.Ac.Ai.length k2,.slice p3 r2.Aa.Ab.length k3,.slice p4 r2.Aa.Aj.length k4,.slice p5 r2.Aa.Af.length k5,.slice p6 r2.Ah.length k6]],Ch.box bb1 [.slice none 0 0,.slice none 0 0,.slice none 0 0,.slice none 0 0,.slice none 0 0] 34]:=h
  refine qn qb [.tmp 43] _ ([i16]:List Int) h rfl rfl rfl rfl rfl rfl rfl rfl rfl ⟨rfl,trivial⟩ rfl fun w14 p11 S6 h=>?_
  obtain ⟨x2,hx1,hF⟩:=qe hF
  obtain ⟨g1,hx1⟩:=qk hx1
  refine qau qb 2 h rfl (h.sl 0 rfl).1 (h.sl 0 rfl).2 rfl rfl rfl rfl rfl rfl rfl rfl rfl g1 hx1 rfl fun w15 p12 k10 S7 h=>X1 7 4 h rfl (zs 6 h rfl fun w16 h=>X0 3 rfl ?_)
  obtain rfl:=qd hF
  have hv2:GoRs.Rs (ρ:=(qc × (List qa) × (List Int))) h.wc (reg A w h.wc) (r2,r4,x2) [GoT.v qc (qp r2 p2 p3 p4 p5 p6 k2 k3 k4 k5 k6),GoT.v (List qa) [.slice p9 r4.length k8],GoT.v (List Int) [.slice p12 x2.length k10]]:=⟨_,_,rfl,(hg.outR h (GoT.mono (Rg.grpR 5 0 h rfl rfl) (fun _ hb=>hb.elim (fun h=>h.elim) .inr))),⟨_,_,rfl,(hg.outR h (GoT.mono (Rg.grpR 3 0 h rfl rfl) (fun _ hb=>hb.elim (fun h=>h.elim) .inr))),⟨_,rfl,(hg.outR h (Rg.ownR 2 h rfl))⟩⟩⟩
  have hk2:=h
  replace h:=h.pick [0,1,2,4,6] rfl
  exact qhB qb (ρ:=(qc × (List qa) × (List Int))) (r:=(r2,r4,x2)) [GoT.v qc (qp r2 p2 p3 p4 p5 p6 k2 k3 k4 k5 k6),GoT.v (List qa) [.slice p9 r4.length k8],GoT.v (List Int) [.slice p12 x2.length k10]] h ⟨⟨_,_,_,rfl,rfl,hk2.box 6 rfl,rfl⟩,rfl,rfl,trivial⟩ hv2
 refine X1 6 3 h rfl (zs 5 h rfl fun w17 h=>X0 3 rfl ?_)
 obtain rfl:=qd hF
 have hv3:GoRs.Rs (ρ:=(qc × (List qa) × (List Int))) h.wc (reg A w h.wc) (r2,r4,x1) [GoT.v qc (qp r2 p2 p3 p4 p5 p6 k2 k3 k4 k5 k6),GoT.v (List qa) [.slice p9 r4.length k8],GoT.v (List Int) [.slice p10 x1.length k9]]:=⟨_,_,rfl,(hg.outR h (GoT.mono (Rg.grpR 4 0 h rfl rfl) (fun _ hb=>hb.elim (fun h=>h.elim) .inr))),⟨_,_,rfl,(hg.outR h (GoT.mono (Rg.grpR 2 0 h rfl rfl) (fun _ hb=>hb.elim (fun h=>h.elim) .inr))),⟨_,rfl,(hg.outR h (Rg.ownR 1 h rfl))⟩⟩⟩
 have hk3:=h
 replace h:=h.pick [0,1,3,5] rfl
 exact qhB qb (ρ:=(qc × (List qa) × (List Int))) (r:=(r2,r4,x1)) [GoT.v qc (qp r2 p2 p3 p4 p5 p6 k2 k3 k4 k5 k6),GoT.v (List qa) [.slice p9 r4.length k8],GoT.v (List Int) [.slice p10 x1.length k9]] h ⟨⟨_,_,_,rfl,rfl,hk3.box 5 rfl,rfl⟩,rfl,rfl,trivial⟩ hv3
def qbo (n:Nat) (code:(List (IntK .u8))):Option (qc × (List qa) × (List Int)) :=
 (qfo n code).bind fun o=>match o with
  | (r2,r3,r4) =>
   some (r2,r3,r4)
theorem qcH {A:Nat→Prop} (hA:∀ b,A b→old w b) {code:(List (IntK .u8))} (ha1:GoT.R w A code cs1) {r:(qc × (List qa) × (List Int))} (hF:qbo n code=some r):RetG Tryz.prog 26 [GoT.v (List (IntK .u8)) cs1] w A r:=by
 obtain ⟨p1,k1,rfl,s1⟩:=ha1
 have hg:=Rg.start hA
 refine qfY Tryz.func26 rfl (m:=10) rfl rfl (fun h=>?_)
 refine zSR (qx qb h rfl rfl rfl fun w1 bb1 h=>X0 6 rfl ?_)
 obtain ⟨r1,hr1,hF⟩:=qe hF
 obtain ⟨r2,r3,r4⟩:=r1
 refine qgF (r2,r3,r4) hg h (cB 46 rfl) (qjx (hg.atB h) ⟨_,_,rfl,(hg.inBS h s1)⟩ hr1) rfl rfl rfl rfl fun w2 us1 S1 h hv1=>?_
 obtain ⟨cs2,us2,rfl,hr2,hv2⟩:=qfq hv1
 have hr3:=hr2
 obtain ⟨p2,k2,p3,k3,p4,k4,p5,k5,p6,k6,rfl,s2,s3,s4,s5,s6⟩:=qJ hr2
 replace h:=h.grpAdd 0 rfl hr3
 obtain ⟨cs3,us3,rfl,hr4,hv3⟩:=qfq hv2
 have hr5:=hr4
 obtain ⟨p7,k7,rfl,s7⟩:=hr4
 replace h:=h.grpAdd 0 rfl hr5
 obtain ⟨cs4,rfl,hr6⟩:=qgA hv3
 have hr7:=hr6
 obtain ⟨p8,k8,rfl,s8⟩:=hr6
 replace h:=h.grpAdd 0 rfl hr7
 refine zp3 rfl (zs 1 h rfl fun w3 h=>X0 3 rfl ?_)
 obtain rfl:=qd hF
 have hv4:GoRs.Rs (ρ:=(qc × (List qa) × (List Int))) h.wc (reg A w h.wc) (r2,r3,r4) [GoT.v qc (qp r2 p2 p3 p4 p5 p6 k2 k3 k4 k5 k6),GoT.v (List qa) [.slice p7 r3.length k7],GoT.v (List Int) [.slice p8 r4.length k8]]:=⟨_,_,rfl,(hg.outR h (Rg.grpR 0 2 h rfl rfl)),⟨_,_,rfl,(hg.outR h (Rg.grpR 0 1 h rfl rfl)),⟨_,rfl,(hg.outR h (Rg.grpR 0 0 h rfl rfl))⟩⟩⟩
 have hk1:=h
 replace h:=h.pick [1] rfl
 exact qhB qb (ρ:=(qc × (List qa) × (List Int))) (r:=(r2,r3,r4)) [GoT.v qc (qp r2 p2 p3 p4 p5 p6 k2 k3 k4 k5 k6),GoT.v (List qa) [.slice p7 r3.length k7],GoT.v (List Int) [.slice p8 r4.length k8]] h ⟨⟨_,_,_,rfl,rfl,hk1.box 1 rfl,rfl⟩,rfl,rfl,trivial⟩ hv4
end Go.Fw


namespace Go.Fw
open Go
structure qiw (x:qY):Prop where
 Au:okS x.Au
 Bn:okI x.Bn
 Bd:okI x.Bd
 Bc:okT x.Bc
structure qgd (x:qN):Prop where
 Bf:(okL okI) x.Bf
 Bg:(okL okI) x.Bg
 Ay:(okL okI) x.Ay
structure qiu (x:qag):Prop where
 Ar:okI x.Ar
 As:okI x.As
 To:okI x.To
 Bi:okI x.Bi
 Bj:(okL qgd) x.Bj
 Bp:(okL qgd) x.Bp
structure qjf (x:qv):Prop where
 Au:okS x.Au
 Ar:okI x.Ar
 Ap:(okL qiw) x.Ap
 Aq:(okL qiu) x.Aq
 Bb:(okL okI) x.Bb
 Br:okI x.Br
 Bm:okI x.Bm
structure qfe (x:qq):Prop where
 Ai:(okL qjf) x.Ai
structure qkK (x:qw):Prop where
 Au:okS x.Au
 Az:okI x.Az
 Aj:(okL okI) x.Aj
structure qmr (x:qC):Prop where
 Au:okS x.Au
 Bn:okI x.Bn
 Bq:okI x.Bq
structure qhn (x:qg):Prop where
 Ab:(okL qkK) x.Ab
 Aj:(okL okS) x.Aj
 Af:(okL qmr) x.Af
structure qj7 (x:qR):Prop where
 Ak:(okL okI) x.Ak
 Be:(okL okI) x.Be
 Bd:(okL okI) x.Bd
 Av:(okL okI) x.Av
structure qct (x:qc):Prop where
 Ac:qfe x.Ac
 Aa:qhn x.Aa
 Ah:(okL qj7) x.Ah
structure qal (x:qa):Prop where
 Ar:okI x.Ar
 Ba:okI x.Ba
 As:(okL okI) x.As
 Am:(okL okI) x.Am
 To:(okL okI) x.To
end Go.Fw


namespace Go.Fw
open Go
set_option maxRecDepth 100000
theorem qdx {n:Nat} {x lo hi:Int}:qaq n x lo hi=some (inI x lo hi):=by
 simp only [qaq,qjd,qjS];rfl
theorem qdo {n:Nat} {x lo hi:Int}:qaD n x lo hi=some (inI x lo hi):=by
 simp only [qaD,qjd,qjS];rfl
def bt (s:ByteArray) (j:Nat):Nat:=(s.data.toList.getD j 0).toNat
theorem qoP {s:ByteArray} {j:Nat} (h:j<s.size):atS s (j:Int)=some (bt s j:Int):=by
 have h':j<s.data.size:=h
 have hl:j<s.data.toList.length:=by simpa using h'
 unfold atS
 rw [if_pos (by omega),jA]
 have:s[j]?=some (s.data.toList.getD j 0):=by
  rw [getElem?_pos s j h,jy,jm hl]
  rfl
 rw [this]
 rfl
def letB (b:Nat):Bool:=decide (97≤b)&&decide (b≤122)
def digB (b:Nat):Bool:=decide (48≤b)&&decide (b≤57)
def chB (s:ByteArray) (j:Nat):Bool:=letB (bt s j) || digB (bt s j)&&decide (0<j)
def nameB (s:ByteArray):Bool:=(decide (1≤s.size)&&decide (s.size≤8))&&allN (chB s) s.size
theorem qjN {s:ByteArray} (h:okS s):Ev (fun n=>qfp n s) (nameB s):=by
 unfold okS at h
 have hL:Ev (fun n=>qc2 s n 0) (bif allN (chB s) s.size then .nxt (s.size:Int) else .ret false):=by
  refine qed ?_ (fun j hj X hX=>?_)
  ·exact Ev.succ (by simp only [qc2,qt (jf _),cond_false];exact .done)
  ·refine Ev.succ ?_
   simp only [qc2,qr hj,cond_true,qoP hj,je,qjd,qjS,wS j]
   have e1:(decide ((bt s j:Int) ≥ 97)&&decide ((bt s j:Int)≤122))=letB (bt s j):=by unfold letB;rw [jk];simp;omega
   have e2:(decide ((bt s j:Int) ≥ 48)&&decide ((bt s j:Int)≤57))=digB (bt s j):=by unfold digB;rw [jk];simp;omega
   have e3:decide ((j:Int) > 0)=decide (0<j):=by rw [jk];simp
   rw [e1,e2,e3]
   unfold chB
   cases letB (bt s j)<;>cases digB (bt s j)<;>cases decide (0<j)<;>first|exact hX|exact .done
 unfold qfp
 refine Ev.cast (r:=bif allN (chB s) s.size then (decide (1≤s.size)&&decide (s.size≤8)) else false) (Ev.bindB hL (fun _=>?_) (fun _=>.done)) ?_
 ·simp only [qjd,qjS]
  exact Ev.now (by congr 1;rw [jk];simp;omega)
 ·unfold nameB
  cases allN (chB s) s.size<;>simp
def cutset:List UInt8:=[97,98,99,100,101,102,103,104,105,106,107,108,109,110,111,112,113,114,115,116,117,118,119,120,121,122,48,49,50,51,52,53,54,55,56,57]
theorem qle (b:UInt8):cutset.contains b=(letB b.toNat || digB b.toNat):=by
 have h0:(List.range 256).all (fun m=>cutset.contains (UInt8.ofNat m)==(letB (UInt8.ofNat m).toNat || digB (UInt8.ofNat m).toNat))=true:=by kernel_rfl
 have h:=List.all_eq_true.1 h0 b.toNat (List.mem_range.2 b.toNat_lt)
 rw [beq_iff_eq] at h
 simpa using h
def letters:List UInt8:=[97,98,99,100,101,102,103,104,105,106,107,108,109,110,111,112,113,114,115,116,117,118,119,120,121,122]
theorem qnx (m:Nat) (hm:m<256):decide ((Lib.indexByte letters m.toUInt8) ≥ 0)=letB m:=by
 have h0:(List.range 256).all (fun m=>decide ((Lib.indexByte letters m.toUInt8) ≥ 0)==letB m)=true:=by kernel_rfl
 have h:=List.all_eq_true.1 h0 m (List.mem_range.2 hm)
 rwa [beq_iff_eq] at h
theorem qlL {α:Type} {p:α→Bool} {l:List α}:l.dropWhile p=[]↔∀ x,x ∈ l→p x=true:=by
 induction l with
 | nil=>simp
 | cons y l ih =>
  rw [List.dropWhile_cons]
  by_cases h:p y=true
  ·rw [if_pos h,ih];simp [h]
  ·rw [if_neg h];simp [h]
theorem qlK {α:Type} {p:α→Bool} {l:List α} (h:∀ x,x ∈ l.dropWhile p→p x=true):∀ x,x ∈ l→p x=true:=by
 induction l with
 | nil=>simp
 | cons y l ih =>
  rw [List.dropWhile_cons] at h
  by_cases hy:p y=true
  ·rw [if_pos hy] at h
   intro x hx
   rcases List.mem_cons.1 hx with rfl|hx
   ·exact hy
   ·exact ih h x hx
  ·rw [if_neg hy] at h
   exact h
theorem qpl {l cs:List UInt8}:Lib.trimS l cs=[]↔∀ x,x ∈ l→cs.contains x=true:=by
 unfold Lib.trimS Lib.trimRightS Lib.trimLeftS
 rw [qlL]
 constructor
 ·intro h x hx
  exact qlK (p:=(cs.contains ·)) (l:=l.reverse) (fun y hy=>h y (List.mem_reverse.2 hy)) x (List.mem_reverse.2 hx)
 ·intro h x hx
  exact h x (List.mem_reverse.1 ((List.dropWhile_suffix _).subset (List.mem_reverse.1 hx)))
theorem qfC {a b:ByteArray}:(a.toList==b.toList)=decide (a=b):=by
 rw [jk,beq_iff_eq,decide_eq_true_iff]
 constructor
 ·intro h
  exact ByteArray.ext (by have:=congrArg List.toArray h;simpa [ByteArray.toList_eq] using this)
 ·rintro rfl;rfl
end Go.Fw


namespace Go.Fw
open Go
set_option maxRecDepth 100000
theorem qpV {s:ByteArray} {j:Nat} (h:j<s.data.toList.length):bt s j=(s.data.toList[j]).toNat:=by
 unfold bt;rw [jy,jm h];rfl
theorem qqF {s:ByteArray} {j:Nat}:bt s j<256:=UInt8.toNat_lt _
theorem qmd {n:Nat} {s:ByteArray} (h:okS s):qgZ n s=some (nameB s):=by
 unfold okS at h
 have hl:s.data.toList.length=s.size:=by simp
 simp only [qgZ,qdo,je]
 cases hI:inI (s.size:Int) 1 8 with
 | false =>
  have hs:(decide (1≤s.size)&&decide (s.size≤8))=false:=by rw [qoB] at hI;rw [Bool.and_eq_false_iff,decide_eq_false_iff_not,decide_eq_false_iff_not];omega
  simp [nameB,hs]
 | true =>
  have hs:1≤s.size∧s.size≤8:=by rw [qb3] at hI;omega
  have hT:qgq n s (⟨#[97,98,99,100,101,102,103,104,105,106,107,108,109,110,111,112,113,114,115,116,117,118,119,120,121,122,48,49,50,51,52,53,54,55,56,57]⟩:ByteArray)=some ⟨(Lib.trimS s.data.toList cutset).toArray⟩:=by
   unfold qgq
   rw [if_pos ⟨by omega,by decide,by decide⟩]
   rfl
  rw [hT]
  simp only [cond_true,je]
  have hE:(((⟨(Lib.trimS s.data.toList cutset).toArray⟩:ByteArray).toList==(⟨#[]⟩:ByteArray).toList))=allN (fun j=>letB (bt s j) || digB (bt s j)) s.size:=by
   rw [qfC,jk,decide_eq_true_iff,qaB]
   have:((⟨(Lib.trimS s.data.toList cutset).toArray⟩:ByteArray)=⟨#[]⟩)↔Lib.trimS s.data.toList cutset=[]:=by
    constructor
    ·intro he
     have:=congrArg (fun x:ByteArray=>x.data.toList) he
     simpa using this
    ·intro he;rw [he]
   rw [this,qpl]
   constructor
   ·intro hx j hj
    have hj':j<s.data.toList.length:=by omega
    have:=hx _ (jq hj')
    rw [qle,←qpV hj'] at this
    exact this
   ·intro hx x hm
    obtain ⟨j,hj,rfl⟩:=jM hm
    have:=hx j (by omega)
    rw [qle,←qpV hj]
    exact this
  rw [hE]
  have h0:atS s 0=some (bt s 0:Int):=qoP (j:=0) (by omega)
  have hI2:decide (Lib.indexByte letters (bt s 0:Int).toNat.toUInt8 ≥ 0)=letB (bt s 0):=by
   rw [jA];exact qnx _ qqF
  have hF:∀ b:Bool,(bif b then (atS s 0).bind fun y1=>(qeV n (⟨#[97,98,99,100,101,102,103,104,105,106,107,108,109,110,111,112,113,114,115,116,117,118,119,120,121,122]⟩:ByteArray) (⟨y1⟩:IntK .u8)).bind fun r3=>some (decide (r3 ≥ 0)) else some false)=some (b&&letB (bt s 0)):=by
   intro b
   cases b with
   | false=>rfl
   | true =>
    rw [h0]
    simp only [cond_true,je,qeV,jv]
    exact congrArg some hI2
  rw [hF]
  congr 1
  have hs':(decide (1≤s.size)&&decide (s.size≤8))=true:=by simp [hs]
  unfold nameB
  rw [hs',jv,jk,jh,qaB,qaB]
  simp only [chB,Bool.or_eq_true,jh,decide_eq_true_eq]
  constructor
  ·rintro ⟨h1,h2⟩ j hj
   rcases Nat.eq_zero_or_pos j with rfl|hp
   ·exact .inl h2
   ·exact (h1 j hj).imp id (fun h=>⟨h,hp⟩)
  ·intro h1
   refine ⟨fun j hj=>(h1 j hj).imp id (fun h=>h.1),?_⟩
   rcases h1 0 (by omega) with h2|h2
   ·exact h2
   ·omega
def strAt (xs:List ByteArray) (j:Nat):ByteArray:=xs.getD j ByteArray.empty
theorem qj2 {xs:List ByteArray} {j:Nat} (h:j<xs.length):strAt xs j=xs[j]:=by simp [strAt,h]
theorem qk4 {xs:List ByteArray} {j:Nat} (h:j<xs.length):idx xs (j:Int)=some (strAt xs j):=by rw [qaS h,qj2 h]
def neB (xs:List ByteArray) (j i:Nat):Bool:=!decide (strAt xs i=strAt xs j)
def namesB (xs:List ByteArray):Bool:=allN (fun j=>nameB (strAt xs j)&&allN (neB xs j) j) xs.length
theorem qiT {xs:List ByteArray} (h:okL okS xs):Ev (fun n=>qeR n xs) (namesB xs):=by
 have hl:=h.len
 have hL2:∀ j,j<xs.length→Ev (fun n=>qdn xs (j:Int) n 0) (bif allN (neB xs j) j then .nxt (j:Int) else .ret false):=by
  intro j hj
  refine qed ?_ (fun i hi X hX=>Ev.succ ?_)
  ·exact Ev.succ (by simp only [qdn,qt (jf _),cond_false];exact .done)
  ·simp only [qdn,qr hi,cond_true,qk4 (show i<xs.length by omega),qk4 hj,je,qfC,wS i]
   unfold neB
   cases decide (strAt xs i=strAt xs j)
   ·exact hX
   ·exact .done
 have hL1:Ev (fun n=>qdt xs n 0) (bif namesB xs then .nxt (xs.length:Int) else .ret false):=by
  refine qed ?_ (fun j hj X hX=>Ev.succ ?_)
  ·exact Ev.succ (by simp only [qdt,qt (jf _),cond_false];exact .done)
  ·simp only [qdt,qr hj,cond_true,qk4 hj,je,wS j]
   refine Ev.bind (qjN (by rw [qj2 hj];exact h.at hj)) ?_
   cases nameB (strAt xs j)
   ·exact .done
   ·refine Ev.ff rfl (Ev.bind (hL2 j hj) ?_)
    cases allN (neB xs j) j
    ·exact .done
    ·exact hX
 unfold qeR
 refine Ev.bind hL1 ?_
 cases namesB xs<;>exact .done
theorem qm5 {xs:List ByteArray} {v:ByteArray} (hl:xs.length≤1048576):Ev (fun n=>qej n xs v) (ixL (fun x=>decide (v=x)) xs) :=
 qdA (fin:=(xs.length:Int)) (Lf:=qbC xs v) (pf:=fun _ x=>some (decide (v=x))) (fun _ _=>.done)
  (fun n=>by simp only [qbC,qt (jf _),cond_false])
  (fun n j x hx=>by
   have hj:=(List.getElem?_eq_some_iff.1 hx).1
   simp only [qbC,qr hj,cond_true,qfx hx,je,qfC,wS j])
  (fun n=>by unfold qej;congr 1;funext o;cases o<;>rfl)
theorem qlh {xs:List ByteArray} {v:ByteArray} (hl:xs.length≤1048576):Ev (fun n=>qc7 n xs v) (xs.any fun x=>decide (v=x)):=by
 unfold qc7
 exact Ev.bind (qm5 hl) (Ev.now (by rw [qg0]))
theorem qgR {xs:List ByteArray} (h:okL okS xs):Ev (fun n=>qdf n xs) (namesB xs):=by
 have hl:=h.len
 have hL1:Ev (fun n=>qdi xs n 0) (bif namesB xs then .nxt (xs.length:Int) else .ret false):=by
  refine qed ?_ (fun j hj X hX=>Ev.succ ?_)
  ·exact Ev.succ (by simp only [qdi,qt (jf _),cond_false];exact .done)
  ·have hs:subS xs 0 (j:Int)=some (xs.take j):=by
    unfold subS
    rw [if_pos ⟨by omega,by omega,by omega⟩]
    simp
   simp only [qdi,qr hj,cond_true,qk4 hj,je,hs,qmd (show okS (strAt xs j) by rw [qj2 hj];exact h.at hj),wS j]
   cases nameB (strAt xs j)
   ·exact .done
   ·refine Ev.ff rfl (Ev.bind (qlh (by simp;omega)) ?_)
    have:((xs.take j).any fun x=>decide (strAt xs j=x)) = !allN (neB xs j) j:=by
     rw [qnc (d:=ByteArray.empty)]
     congr 1
     rw [List.length_take,Nat.min_eq_left (by omega)]
     refine qfP (fun i hi=>?_)
     unfold neB strAt
     congr 1
     have:(xs.take j).getD i ByteArray.empty=xs.getD i ByteArray.empty:=by simp [jy,hi]
     rw [this]
     exact decide_eq_decide.2 eq_comm
    rw [this]
    cases allN (neB xs j) j
    ·exact .done
    ·exact hX
 unfold qdf
 refine Ev.bind hL1 ?_
 cases namesB xs<;>exact .done
end Go.Fw


namespace Go.Fw
open Go
set_option maxRecDepth 100000
theorem qlW {n:Nat} {x lo hi:Int}:qfs n x lo hi=some (!inI x lo hi):=by simp only [qfs,qdo,je]
theorem qd1 {xs:List Int} {lo hi:Int} (hl:xs.length≤1048576):Ev (fun n=>qbe n xs lo hi) (xs.all fun x=>inI x lo hi):=by
 have h1:Ev (fun n=>qaH n xs lo hi) (ixL (fun x=>!inI x lo hi) xs) :=
  qdA (fin:=(xs.length:Int)) (Lf:=qX xs lo hi) (pf:=fun _ x=>some (!inI x lo hi)) (fun _ _=>.done)
   (fun n=>by simp only [qX,qt (jf _),cond_false])
   (fun n j x hx=>by
    have hj:=(List.getElem?_eq_some_iff.1 hx).1
    simp only [qX,qr hj,cond_true,qfx hx,je,qlW,wS j])
   (fun n=>by unfold qaH;congr 1;funext o;cases o<;>rfl)
 unfold qbe qa9
 refine Ev.bind (Ev.bind h1 (Ev.now rfl)) (Ev.now ?_)
 rw [qg0,qj3]
def stepB (xs:List Int) (j:Nat):Bool:=decide (j=0) || decide (at0 xs (j-1)<at0 xs j)
def incB (xs:List Int):Bool:=allN (stepB xs) xs.length
theorem qg2 {xs:List Int} (hl:xs.length≤1048576):Ev (fun n=>qcN n xs) (incB xs):=by
 have hL:Ev (fun n=>qa7 xs n 1) (bif incB xs then .nxt (max 1 xs.length:Int) else .ret false):=by
  by_cases h0:xs.length=0
  ·have hb:incB xs=true:=by unfold incB;rw [h0];rfl
   rw [hb]
   refine Ev.succ ?_
   have:decide ((1:Int)<(xs.length:Int))=false:=by rw [h0];decide
   simp only [qa7,this,cond_false]
   exact Ev.now (by rw [h0];rfl)
  ·have:=qmm (Lf:=qa7 xs) (len:=xs.length) (i0:=1) (f:=stepB xs) (bad:=false) (fin:=.nxt (max 1 xs.length:Int)) (by omega)
    (Ev.succ (by
     simp only [qa7,qt (jf _),cond_false]
     exact Ev.now (by congr 2;omega)))
    (fun j h1 hj X hX=>Ev.succ (by
     simp only [qa7,qr hj,cond_true,wS j,show (j:Int)-1=((j-1:Nat):Int) by omega,qaT (show -9223372036854775808≤((j-1:Nat):Int) by omega) (by omega),qa5 (show j-1<xs.length by omega),qa5 hj,je]
     unfold stepB
     by_cases hc:at0 xs (j-1)<at0 xs j
     ·have e1:decide (at0 xs (j-1) ≥ at0 xs j)=false:=by simp;omega
      rw [e1];simp only [hc,decide_true,Bool.or_true,cond_true,cond_false];exact hX
     ·have e1:decide (at0 xs (j-1) ≥ at0 xs j)=true:=by simp;omega
      have e2:decide (j=0)=false:=by simp;omega
      rw [e1,e2];simp only [hc,decide_false,Bool.or_self,cond_true,cond_false];exact .done))
   have e:allN (fun j=>stepB xs (1+j)) (xs.length-1)=incB xs:=by
    unfold incB
    rw [jk,qaB,qaB]
    constructor
    ·intro h j hj
     cases j with
     | zero=>rfl
     | succ j=>have:=h j (by omega);rwa [Nat.add_comm] at this
    ·intro h j hj
     exact h (1+j) (by omega)
   rw [e] at this
   exact this
 unfold qcN
 refine Ev.bind hL ?_
 cases incB xs<;>exact .done
def lenB {α:Type} (xs:List α) (lo hi:Nat):Bool:=decide (lo≤xs.length)&&decide (xs.length≤hi)
theorem qk5 {α:Type} {xs:List α} {lo hi:Nat}:inI (xs.length:Int) (lo:Int) (hi:Int)=lenB xs lo hi:=by
 unfold inI lenB;rw [jk];simp
def axisB (xs:List Int):Bool:=lenB xs 1 4&&((xs.all fun x=>inI x 0 100000)&&incB xs)
theorem qma {xs:List Int} (hl:xs.length≤1048576):Ev (fun n=>qgP n xs) (axisB xs):=by
 simp only [qgP,qaf,je,qdo,show inI (xs.length:Int) 1 4=lenB xs 1 4 from qk5 (lo:=1) (hi:=4)]
 unfold axisB
 cases lenB xs 1 4
 ·exact .done
 ·refine Ev.tt rfl (Ev.bind (qd1 hl) ?_)
  cases (xs.all fun x=>inI x 0 100000)
  ·exact .done
  ·exact Ev.tt rfl (Ev.bind (qg2 hl) .done)
theorem qlp {xs:List Int} (hl:xs.length≤1048576):Ev (fun n=>qge n xs) (axisB xs):=by
 have hL:Ev (fun n=>qcV xs n 0) (bif allN (fun j=>inI (at0 xs j) 0 100000&&stepB xs j) xs.length then .nxt (xs.length:Int) else .ret false):=by
  refine qed ?_ (fun j hj X hX=>Ev.succ ?_)
  ·exact Ev.succ (by simp only [qcV,qt (jf _),cond_false];exact .done)
  ·simp only [qcV,qr hj,cond_true,qa5 hj,je,qdx,wS j]
   cases inI (at0 xs j) 0 100000
   ·exact .done
   ·simp only [jT,cond_false,jv]
    unfold stepB
    by_cases h0:j=0
    ·subst h0
     exact Ev.ff (by decide) hX
    ·simp only [show (j:Int)-1=((j-1:Nat):Int) by omega,qaT (show -9223372036854775808≤((j-1:Nat):Int) by omega) (by omega),qa5 (show j-1<xs.length by omega),je]
     have e2:decide (j=0)=false:=by simp;omega
     have e3:decide ((j:Int) > 0)=true:=by simp;omega
     rw [e2,e3]
     simp only [cond_true,Bool.false_or]
     by_cases hc:at0 xs (j-1)<at0 xs j
     ·have e1:decide (at0 xs (j-1) ≥ at0 xs j)=false:=by simp;omega
      rw [e1];simp only [hc,decide_true,cond_true,cond_false];exact hX
     ·have e1:decide (at0 xs (j-1) ≥ at0 xs j)=true:=by simp;omega
      rw [e1];simp only [hc,decide_false,cond_true,cond_false];exact .done
 have e:axisB xs=(allN (fun j=>inI (at0 xs j) 0 100000&&stepB xs j) xs.length&&lenB xs 1 4):=by
  unfold axisB incB
  rw [qhv,qfy (d:=0),Bool.and_comm]
  rfl
 rw [e]
 unfold qge
 refine Ev.bind hL ?_
 cases allN (fun j=>inI (at0 xs j) 0 100000&&stepB xs j) xs.length
 ·exact .done
 ·simp only [cond_true,qjd,qjS,jv]
  exact Ev.now (by congr 1;unfold lenB;rw [jk];simp;omega)
def tableB (t:qN):Bool:=axisB t.Bf&&(axisB t.Bg&&(decide (t.Ay.length=t.Bf.length*t.Bg.length)&&(t.Ay.all fun x=>inI x (-1000000) 1000000)))
theorem qla {a b:Nat} (ha:a≤1048576) (hb:b≤1048576):W64 ((a:Int)*(b:Int))=((a*b:Nat):Int):=by
 have h:a*b≤1048576*1048576:=Nat.mul_le_mul ha hb
 have e:(a:Int)*(b:Int)=((a*b:Nat):Int):=by simp
 rw [e]
 exact qaT (by omega) (by omega)
theorem qnD {t:qN} (h:qgd t):Ev (fun n=>qhd n t) (tableB t):=by
 unfold qhd tableB
 refine Ev.bind (qma h.Bf.len) ?_
 cases axisB t.Bf
 ·exact .done
 ·refine Ev.tt rfl (Ev.bind (qma h.Bg.len) ?_)
  cases axisB t.Bg
  ·exact .done
  ·rw [qla h.Bf.len h.Bg.len]
   have e:(((t.Ay.length:Nat):Int)==((t.Bf.length*t.Bg.length:Nat):Int))=decide (t.Ay.length=t.Bf.length*t.Bg.length):=by rw [jk];simp;omega
   rw [e]
   cases decide (t.Ay.length=t.Bf.length*t.Bg.length)
   ·exact .done
   ·exact Ev.tt rfl (Ev.tt rfl (Ev.bind (qd1 h.Ay.len) .done))
theorem qmX {t:qN} (h:qgd t):Ev (fun n=>qhk n t) (tableB t):=by
 have hl:=h.Ay.len
 have hL:Ev (fun n=>qdJ t n 0) (bif (t.Ay.all fun x=>inI x (-1000000) 1000000) then .nxt (t.Ay.length:Int) else .ret false) :=
  qi8 (fun n=>by simp only [qdJ,qt (jf _),cond_false]) (fun j hj X hX=>by
   simp only [qdJ,qr hj,cond_true,qaS hj,je,qdx,wS j]
   cases inI t.Ay[j] (-1000000) 1000000
   ·exact .done
   ·exact hX)
 unfold qhk tableB
 refine Ev.bind (b:=!(axisB t.Bf&&(axisB t.Bg&&decide (t.Ay.length=t.Bf.length*t.Bg.length)))) ?_ ?_
 ·refine Ev.bind (qlp h.Bf.len) ?_
  cases axisB t.Bf
  ·exact .done
  ·refine Ev.ff rfl (Ev.bind (qlp h.Bg.len) ?_)
   cases axisB t.Bg
   ·exact .done
   ·refine Ev.ff rfl (Ev.now ?_)
    rw [qla h.Bf.len h.Bg.len]
    congr 1
    rw [jk];simp;omega
 ·cases axisB t.Bf
  ·exact .done
  ·cases axisB t.Bg
   ·exact .done
   ·cases decide (t.Ay.length=t.Bf.length*t.Bg.length)
    ·exact .done
    ·refine Ev.ff rfl (Ev.bind hL ?_)
     cases (t.Ay.all fun x=>inI x (-1000000) 1000000)<;>exact .done
end Go.Fw


namespace Go.Fw
open Go
set_option maxRecDepth 100000
instance:Inhabited qY:=⟨⟨ByteArray.empty,0,0,false⟩⟩
instance:Inhabited qN:=⟨⟨[],[],[]⟩⟩
instance:Inhabited qag:=⟨⟨0,0,0,0,[],[]⟩⟩
instance:Inhabited qv:=⟨⟨ByteArray.empty,0,[],[],[],0,0⟩⟩
instance:Inhabited qw:=⟨⟨ByteArray.empty,0,[]⟩⟩
instance:Inhabited qC:=⟨⟨ByteArray.empty,0,0⟩⟩
instance:Inhabited qR:=⟨⟨[],[],[],[]⟩⟩
theorem lastE {j m:Nat} (h:j<m) (hm:m≤1048576):((j:Int)==W64 ((m:Int)-1))=decide (j+1=m):=by
 rcases qpn h with h|h
 ·exact h
 ·omega
theorem qhq {α:Type} [Inhabited α] {xs:List α} {g:α→ByteArray} {j:Nat} (h:j<xs.length):strAt (xs.map g) j=g (gt xs j):=by
 rw [qj2 (by simpa using h),qg8 h];simp
theorem qjp {α:Type} {xs:List α} {g:α→ByteArray} {ok:α→Prop} (h:okL ok xs) (hg:∀ x,ok x→okS (g x)):okL okS (xs.map g) :=
 ⟨by rw [jB];exact h.1,fun y hy=>by
  obtain ⟨x,hx,rfl⟩:=List.mem_map.1 hy
  exact hg x (h.2 x hx)⟩
theorem qih {α β:Type} {xs:List α} {g:α→β} {j:Nat} (h:j<xs.length) (hl:xs.length≤1048576) {y:β}:appS ((xs.take j).map g) [y]=some ((xs.take j).map g++[y]) :=
 qb8 (by simp;omega)
def pinB (ps:List qY) (j:Nat):Bool :=
 bif decide (j+1=ps.length) then ((gt ps j).Bn==2)&&(((gt ps j).Bd==0)&&!(gt ps j).Bc) else ((gt ps j).Bn==1)&&inI (gt ps j).Bd 0 500
def pinsB (ps:List qY):Bool:=allN (pinB ps) ps.length&&(lenB ps 2 5&&namesB (ps.map qY.Au))
def clkN (ps:List qY) (j:Nat):Nat:=cntP (fun i=>(gt ps i).Bc) j
theorem qnv {ps:List qY} (h:okL qiw ps):Ev (fun n=>qhg n ps) (pinsB ps):=by
 have hl:=h.len
 have hL:Ev (fun n=>qck ps n ([]:List ByteArray) 0) (bif allN (pinB ps) ps.length then .nxt (ps.map qY.Au,(ps.length:Int)) else .ret false):=by
  refine loopN (Lf:=qck ps) (S:=fun j=>(ps.take j).map qY.Au) (pinB ps) (fun n=>?_) (fun j hj hp X hX=>?_)
  ·simp only [qck,qt (jf _),cond_false,jN]
  ·simp only [qck,qr hj,cond_true,qae hj,je,qih hj hl,qeD (g:=qY.Au) hj,lastE hj hl,bne,qa0,qdo,wS j]
   generalize hc:pinB ps j=c at hX ⊢
   unfold pinB at hc
   cases hd:decide (j+1=ps.length)
   ·rw [hd] at hc
    simp only [cond_false] at hc ⊢
    subst hc
    exact Ev.okP (fun h1=>Ev.okP1 (fun h2=>hX (by rw [h1,h2];rfl)))
   ·rw [hd] at hc
    simp only [cond_true] at hc ⊢
    subst hc
    refine Ev.okP (fun h1=>Ev.okP (fun h2=>Ev.chkP1 (fun h3=>hX (by rw [h1,h2,h3];rfl))))
 unfold qhg pinsB
 refine Ev.bind hL ?_
 cases allN (pinB ps) ps.length
 ·exact .done
 ·simp only [cond_true,qbw,qdo,je,show inI (ps.length:Int) 2 5=lenB ps 2 5 from qk5 (lo:=2) (hi:=5),jv]
  exact Ev.andP (fun _=>Ev.last (qgR (qjp h (fun x hx=>hx.Au))))
def pinS (ps:List qY) (j:Nat):Bool:=allN (neB (ps.map qY.Au) j) j&&((nameB (gt ps j).Au&&inI (gt ps j).Bd 0 500)&&(bif decide (j+1=ps.length) then ((gt ps j).Bn==2)&&(((gt ps j).Bd==0)&&!(gt ps j).Bc) else ((gt ps j).Bn==1)))
theorem qpH {ps:List qY}:(lenB ps 2 5&&allN (pinS ps) ps.length)=pinsB ps:=by
 have e:namesB (ps.map qY.Au)=allN (fun j=>nameB (gt ps j).Au&&allN (neB (ps.map qY.Au) j) j) ps.length:=by
  unfold namesB
  rw [jB]
  exact qfP (fun j hj=>by rw [qhq hj])
 unfold pinsB
 rw [e,←jP,Bool.and_comm (allN (pinB ps) ps.length),jP,←qhv]
 congr 1
 refine qfP (fun j hj=>?_)
 unfold pinS pinB
 cases hd:decide (j+1=ps.length)
 ·simp only [cond_false]
  cases allN (neB (ps.map qY.Au) j) j<;>cases nameB (gt ps j).Au<;>cases inI (gt ps j).Bd 0 500<;>cases ((gt ps j).Bn==1)<;>rfl
 ·simp only [cond_true]
  cases hcap:((gt ps j).Bd==0)
  ·simp
  ·have:inI (gt ps j).Bd 0 500=true:=by rw [beq_iff_eq] at hcap;rw [hcap];rfl
   rw [this]
   cases allN (neB (ps.map qY.Au) j) j<;>cases nameB (gt ps j).Au<;>cases ((gt ps j).Bn==2)<;>cases (gt ps j).Bc<;>rfl
theorem qnU {c:qv} (h:okL qiw c.Ap):Ev (fun n=>qhi n c) (bif pinsB c.Ap then (((clkN c.Ap c.Ap.length:Nat):Int),true) else (0,false)):=by
 have hl:=h.len
 have hL2:∀ j,j<c.Ap.length→Ev (fun n=>qdR c (j:Int) (gt c.Ap j) n 0) (bif allN (neB (c.Ap.map qY.Au) j) j then .nxt (j:Int) else .ret (0,false)):=by
  intro j hj
  refine qed ?_ (fun i hi X hX=>Ev.succ ?_)
  ·exact Ev.succ (by simp only [qdR,qt (jf _),cond_false];exact .done)
  ·simp only [qdR,qr hi,cond_true,qae (show i<c.Ap.length by omega),je,qfC,wS i]
   unfold neB
   rw [qhq (g:=qY.Au) (show i<c.Ap.length by omega),qhq (g:=qY.Au) hj]
   exact Ev.chkP1 (fun _=>hX)
 have hL1:Ev (fun n=>qcj c n 0 0) (bif allN (pinS c.Ap) c.Ap.length then .nxt (((clkN c.Ap c.Ap.length:Nat):Int),(c.Ap.length:Int)) else .ret (0,false)):=by
  refine loopN (Lf:=qcj c) (S:=fun j=>((clkN c.Ap j:Nat):Int)) (pinS c.Ap) (fun n=>?_) (fun j hj hp X hX=>?_)
  ·simp only [qcj,qt (jf _),cond_false]
  ·have hn:clkN c.Ap j≤j:=qdV
   have ejl:((j:Int)==W64 ((c.Ap.length:Int)-1))=decide (j+1=c.Ap.length):=lastE hj hl
   have elt:decide ((j:Int)<W64 ((c.Ap.length:Int)-1)) = !decide (j+1=c.Ap.length):=by
    rw [qaT (by omega) (by omega),jk];simp;omega
   simp only [qcj,qr hj,cond_true,qae hj,je,wS j,qhZ (show clkN c.Ap j<9223372036854775807 by omega),ejl,elt,qdx]
   unfold pinS
   refine Ev.bind (hL2 j hj) ?_
   cases ha:allN (neB (c.Ap.map qY.Au) j) j
   ·exact .done
   ·simp only [cond_true,jv]
    refine Ev.chkT ?_ (fun h1=>?_)
    ·exact Ev.or (qjN (qhx h hj).Au) (fun _=>.done)
    ·refine Ev.chkT1 ?_ (fun h2=>?_)
     ·cases decide (j+1=c.Ap.length)
      ·exact .done
      ·simp only [cond_true,jT,cond_false,bne,qa0]
       cases ((gt c.Ap j).Bn==2)<;>cases ((gt c.Ap j).Bd==0)<;>cases (gt c.Ap j).Bc<;>exact .done
     ·have hX:=hX (by unfold pinS;rw [ha,h1,h2];rfl)
      have hck:clkN c.Ap (j+1)=clkN c.Ap j+(bif (gt c.Ap j).Bc then 1 else 0):=rfl
      rw [hck] at hX
      cases hc:(gt c.Ap j).Bc
      ·rw [hc] at hX;exact Ev.ff rfl hX
      ·rw [hc] at hX;exact Ev.tt rfl hX
 rw [←qpH]
 unfold qhi
 refine Ev.guard ?_ (fun h1=>?_)
 ·unfold lenB
  have e1:decide ((c.Ap.length:Int)<2) = !decide (2≤c.Ap.length):=by rw [jk];simp;omega
  have e2:decide ((c.Ap.length:Int) > 5) = !decide (c.Ap.length≤5):=by rw [jk];simp;omega
  rw [e1,e2]
  cases decide (2≤c.Ap.length)<;>cases decide (c.Ap.length≤5)<;>exact .done
 ·refine Ev.bind hL1 ?_
  cases allN (pinS c.Ap) c.Ap.length<;>exact .done
def mnL (xs:List Int):Int:=(xs.drop 1).foldl (fun m y=>if y<m then y else m) (at0 xs 0)
def mxL (xs:List Int):Int:=(xs.drop 1).foldl (fun m y=>if y > m then y else m) (at0 xs 0)
theorem qlo {t:qN} (h:tableB t=true):1≤t.Ay.length:=by
 unfold tableB axisB lenB at h
 simp only [jh,decide_eq_true_eq] at h
 obtain ⟨⟨⟨h1,_⟩,_⟩,⟨⟨h2,_⟩,_⟩,h3,_⟩:=h
 rw [h3]
 exact Nat.mul_pos h1 h2
theorem qpE {xs:List Int} (h1:1≤xs.length) (hl:xs.length≤1048576):Ev (fun n=>qff n xs) (mnL xs):=by
 have hL:=(qkx (Lf:=fun n t j=>qcd xs n t j) (xs:=xs) (step:=fun (m y:Int)=>if y<m then y else m) (fin:=fun t=>(t,(xs.length:Int))) 1 (at0 xs 0) (fun _ _=>True) h1 trivial (fun _ _ _ _=>trivial)
  (fun n t=>by simp only [qcd,qt (jf _),cond_false])
  (fun j t hj _ X hX=>by simpa only [qcd,qr hj,cond_true,qaS hj,je,wS j] using hX)).1
 unfold qff
 rw [show decide ((xs.length:Int)<1)=false by simp;omega,show idx xs (0:Int)=some (at0 xs 0) from qa5 (j:=0) (by omega)]
 simp only [cond_false,je]
 exact Ev.bind hL .done
theorem qnI {t:qN} (h:qgd t):Ev (fun n=>qfi n t) (bif tableB t then (⟨mnL t.Ay,mxL t.Ay⟩,0) else (⟨0,0⟩,1)):=by
 unfold qfi
 refine Ev.chk1 (qmX h) (fun hb=>?_)
 have h1:=qlo hb
 have hl:=h.Ay.len
 have hL:=(qkx (Lf:=fun n (t':Int × Int) j=>qcf t n t'.1 t'.2 j) (xs:=t.Ay) (step:=fun (m:Int × Int) y=>(if y<m.1 then y else m.1,if y > m.2 then y else m.2)) (fin:=fun t'=>(t'.1,t'.2,(t.Ay.length:Int))) 1 (at0 t.Ay 0,at0 t.Ay 0) (fun _ _=>True) h1 trivial (fun _ _ _ _=>trivial)
  (fun n t=>by simp only [qcf,qt (jf _),cond_false])
  (fun j t hj _ X hX=>by simpa only [qcf,qr hj,cond_true,qaS hj,je,wS j] using hX)).1
 have hf:∀ (ys:List Int) (a b:Int),ys.foldl (fun (m:Int × Int) y=>(if y<m.1 then y else m.1,if y > m.2 then y else m.2)) (a,b)=(ys.foldl (fun m y=>if y<m then y else m) a,ys.foldl (fun m y=>if y > m then y else m) b):=by
  intro ys
  induction ys with
  | nil=>intro a b;rfl
  | cons y ys ih=>intro a b;simp only [List.foldl_cons,ih]
 rw [hf] at hL
 rw [show idx t.Ay (0:Int)=some (at0 t.Ay 0) from qa5 (j:=0) (by omega)]
 simp only [je]
 exact Ev.bind hL .done
def tabB (pos:Bool) (t:qN):Bool:=tableB t&&(!pos || decide (0≤mnL t.Ay))
def tablesB (ts:List qN) (pos:Bool):Bool:=decide (ts.length=2)&&ts.all (tabB pos)
theorem qiz {ts:List qN} {pos:Bool} (h:okL qgd ts):Ev (fun n=>qer n ts pos) (tablesB ts pos):=by
 have hl:=h.len
 have h1:Ev (fun n=>qaA n ts pos) (ixL (fun x=>!tabB pos x) ts) :=
  qdA (fin:=(ts.length:Int)) (Lf:=qM ts pos) (pf:=fun n x=>qfl n x pos) (fun x hx=>by
    unfold qfl tabB
    refine Ev.or (qnD (h.2 x hx)) (fun hb=>?_)
    cases pos
    ·exact .done
    ·refine Ev.tt rfl (Ev.bind (qpE (qlo hb) (h.2 x hx).Ay.len) (Ev.now ?_))
     congr 1
     rw [jk];simp)
   (fun n=>by simp only [qM,qt (jf _),cond_false])
   (fun n j x hx=>by
    have hj:=(List.getElem?_eq_some_iff.1 hx).1
    simp only [qM,qr hj,cond_true,qfx hx,je,wS j])
   (fun n=>by unfold qaA;congr 1;funext o;cases o<;>rfl)
 unfold qer qaO tablesB
 rw [show ((ts.length:Int)==2)=decide (ts.length=2) by rw [jk];simp;omega]
 refine Ev.andP (fun _=>Ev.bind (Ev.bind h1 (Ev.now rfl)) (Ev.now ?_))
 rw [qg0,qj3]
theorem qgo {ts:List qN} {pos:Bool} (h:okL qgd ts):Ev (fun n=>qcF n ts pos) (tablesB ts pos):=by
 unfold qcF tablesB
 rw [show ((ts.length:Int) != 2) = !decide (ts.length=2) by rw [jk];simp;omega]
 simp only [qa0]
 refine Ev.andP (fun h2=>?_)
 have h2:ts.length=2:=by simpa using h2
 have hL:Ev (fun n=>qb5 ts pos n 0) (bif allN (fun j=>tabB pos (gt ts j)) ts.length then .nxt (2:Int) else .ret false):=by
  refine qed (len:=ts.length) ?_ (fun j hj X hX=>Ev.succ ?_)
  ·rw [h2];exact Ev.succ (by simp only [qb5];exact .done)
  ·simp only [qb5,show decide ((j:Int)<2)=true by simp;omega,cond_true,qae hj,je,wS j]
   refine Ev.bind (qnI (qhx h hj)) ?_
   unfold tabB
   cases tableB (gt ts j)
   ·exact .done
   ·simp only [cond_true,jv]
    refine Ev.ff rfl ?_
    cases pos
    ·exact hX
    ·refine Ev.tt rfl ?_
     rw [show decide (mnL (gt ts j).Ay<0) = !decide (0≤mnL (gt ts j).Ay) by rw [jk];simp]
     simp only [qa0]
     exact Ev.okP1 (fun _=>hX)
 rw [qgz]
 refine Ev.bind hL ?_
 cases allN (fun j=>tabB pos (gt ts j)) ts.length<;>exact .done
end Go.Fw


namespace Go.Fw
open Go
set_option maxRecDepth 100000
theorem qe4 {α:Type} [Inhabited α] {xs:List α} {x:Int} (h0:0≤x) (h1:x<xs.length):idx xs x=some (gt xs x.toNat):=by
  have:=qae (xs:=xs) (j:=x.toNat) (by omega)
  rwa [←qjD h0] at this
theorem qmk {q:Nat→Bool} {m n:Nat} (h:m≤n):cntP q m≤cntP q n:=by
  induction n with
  | zero =>
    obtain rfl:m=0:=by omega
    exact jf _
  | succ n ih =>
    rcases Nat.lt_or_eq_of_le h with h|rfl
    · exact jR (ih (by omega)) (Nat.le_add_right _ _)
    · exact jf _
theorem qiA {m k:Nat}:decide ((m:Int)≤(k:Int))=decide (m≤k):=by rw [jk];simp
theorem qnk {q:Nat→Bool} {n i j:Nat} (hi:i<j) (hj:j<n) (h1:q i=true) (h2:q j=true):2≤cntP q n:=by
  have e1:cntP q (i+1)=cntP q i+1:=by rw [cntP,h1];rfl
  have e2:cntP q (j+1)=cntP q j+1:=by rw [cntP,h2];rfl
  have m1:=qmk (q:=q) (show i+1≤j by omega)
  have m2:=qmk (q:=q) (show j+1≤n by omega)
  omega
theorem qm7 {q:Nat→Bool} {n i j:Nat} (hn:cntP q n≤1) (hi:i<n) (hj:j<n) (h1:q i=true) (h2:q j=true):i=j:=by
  rcases Nat.lt_trichotomy i j with h|h|h
  · have:=qnk h hj h1 h2;omega
  · exact h
  · have:=qnk h hi h2 h1;omega
def clkIx (ps:List qY):Int:=ixL (fun p=>p.Bc) ps
def clkAt (ps:List qY) (x:Int):Bool:=(gt ps x.toNat).Bc
theorem qo3 {c:qv} (hl:c.Ap.length≤1048576):Ev (fun n=>qfM n c) (clkIx c.Ap):=by
  unfold qfM
  refine Ev.bind (b:=clkIx c.Ap) ?_ .done
  exact qdA (fin:=(c.Ap.length:Int)) (Lf:=qO c.Ap) (pf:=fun n x=>qgl n x) (fun _ _=>.done)
    (fun n=>by simp only [qO,qt (jf _),cond_false])
    (fun n j x hx=>by
      have hj:=(List.getElem?_eq_some_iff.1 hx).1
      simp only [qO,qr hj,cond_true,qfx hx,je,wS j])
    (fun n=>by unfold qa6;congr 1;funext o;cases o<;>rfl)
def arcI (ps:List qY) (a:qag):Bool :=
  bif (a.Ar==4) || (a.Ar==5) then
    (a.Bi==0)&&(((a.Bp.length:Int)==0)&&(tablesB a.Bj false&&((a.As==clkIx ps)&&(decide (a.As ≥ 0)&&(inI a.To 0 (ps.length-2)&&!(a.To==a.As))))))
  else
    (tablesB a.Bj true&&(tablesB a.Bp true&&((a.To==(ps.length:Int)-1)&&inI a.As 0 (ps.length-2)))) &&
      (bif a.Ar==1 then !clkAt ps a.As&&inI a.Bi 1 3 else (bif (a.Ar==2) || (a.Ar==3) then clkAt ps a.As&&(a.Bi==0) else false))
def arcS (ps:List qY) (a:qag):Bool :=
  (inI a.As 0 (ps.length-2)&&inI a.To 0 (ps.length-1)) &&
    (bif a.Ar==1 then !clkAt ps a.As&&((a.To==(ps.length:Int)-1)&&(inI a.Bi 1 3&&(tablesB a.Bj true&&tablesB a.Bp true)))
     else (bif (a.Ar==2) || (a.Ar==3) then clkAt ps a.As&&((a.To==(ps.length:Int)-1)&&((a.Bi==0)&&(tablesB a.Bj true&&tablesB a.Bp true)))
     else (bif (a.Ar==4) || (a.Ar==5) then clkAt ps a.As&&(decide (a.To<(ps.length:Int)-1)&&(!clkAt ps a.To&&((a.Bi==0)&&(tablesB a.Bj false&&((a.Bp.length:Int)==0))))) else false)))
theorem qkL {c d:Bool}:(bif c then some c else some d)=some (c || d):=by cases c<;>rfl
theorem qm4 {c d:Bool}:(bif c then some true else some d)=some (c || d):=by cases c<;>rfl
theorem qnW {n:Nat} {k:Int}:qg9 n k=some ((k==4) || (k==5)):=by simp only [qg9,qm4]
theorem qo9 {c:qv} {a:qag} (h:okL qiw c.Ap) (ha:qiu a) (hm:2≤c.Ap.length):Ev (fun n=>qfN n c a) (arcI c.Ap a):=by
  have hl:=h.len
  have e1:W64 ((c.Ap.length:Int)-1)=(c.Ap.length:Int)-1:=qbn (by omega)
  have e2:W64 ((c.Ap.length:Int)-1-1)=(c.Ap.length:Int)-2:=by rw [qaT (by omega) (by omega)];omega
  simp only [qfN,qnW,je,qeZ,qbV,qbw,e1,e2,qdo,qkL,bne]
  unfold arcI
  refine Ev.iff (fun _=>Ev.last ?_) (fun _=>Ev.guardB ?_ (fun hb=>?_))
  · exact Ev.andP fun _=>Ev.andP fun _=>Ev.and (qiz ha.Bj) fun _=>Ev.bind (qo3 hl) (Ev.andP fun _=>Ev.andP fun _=>Ev.andP fun _=>.done)
  · refine Ev.or (qiz ha.Bj) fun _=>Ev.or (qiz ha.Bp) fun _=>?_
    simp only [qa0]
    exact Ev.orBP fun _=>.done
  · have hf:0≤a.As∧a.As≤(c.Ap.length:Int)-2:=by
      simp only [jh,qb3] at hb
      exact hb.2.2.2
    simp only [qe4 hf.1 (show a.As<(c.Ap.length:Int) by omega),je]
    exact Ev.iff (fun _=>Ev.andP fun _=>.done) (fun _=>Ev.iff (fun _=>Ev.andP fun _=>.done) (fun _=>.done))
theorem qow {c:qv} {a:qag} (h:okL qiw c.Ap) (ha:qiu a) (hm:2≤c.Ap.length):Ev (fun n=>qhO n c a) (arcS c.Ap a):=by
  have hl:=h.len
  have e1:W64 ((c.Ap.length:Int)-1)=(c.Ap.length:Int)-1:=qbn (by omega)
  have e2:W64 ((c.Ap.length:Int)-1-1)=(c.Ap.length:Int)-2:=by rw [qaT (by omega) (by omega)];omega
  simp only [qhO,je,e1,e2,qdx,qkL]
  unfold arcS
  refine Ev.guardB ?_ (fun hb=>?_)
  · simp only [qa0]
    exact Ev.orBP fun _=>.done
  · have hf:(0≤a.As∧a.As≤(c.Ap.length:Int)-2)∧(0≤a.To∧a.To≤(c.Ap.length:Int)-1):=by
      simp only [jh,qb3] at hb
      exact hb
    simp only [qe4 hf.1.1 (show a.As<(c.Ap.length:Int) by omega),qe4 hf.2.1 (show a.To<(c.Ap.length:Int) by omega),je]
    refine Ev.iff (fun _=>?_) (fun _=>Ev.iff (fun _=>?_) (fun _=>Ev.iff (fun _=>?_) (fun _=>.done)))
    · exact Ev.andP fun _=>Ev.andP fun _=>Ev.andP fun _=>Ev.and (qgo ha.Bj) fun _=>Ev.last (qgo ha.Bp)
    · exact Ev.andP fun _=>Ev.andP fun _=>Ev.andP fun _=>Ev.and (qgo ha.Bj) fun _=>Ev.last (qgo ha.Bp)
    · exact Ev.andP fun _=>Ev.andP fun _=>Ev.andP fun _=>Ev.andP fun _=>Ev.and (qgo ha.Bj) fun _=>.done
theorem qkG {ps:List qY} (h1:clkN ps ps.length≤1) {x:Int} (hx:0≤x):clkIx ps=x↔x<ps.length∧clkAt ps x=true:=by
  unfold clkIx ixL
  cases hf:ps.findIdx? (fun p=>p.Bc) with
  | some j =>
    obtain ⟨hj,hp,_⟩:=List.findIdx?_eq_some_iff_getElem.1 hf
    have hpj:(gt ps j).Bc=true:=by rw [qg8 hj];exact hp
    constructor
    · intro e
      have e:(j:Int)=x:=e
      subst e
      exact ⟨by omega,by unfold clkAt;rw [jA];exact hpj⟩
    · rintro ⟨hl,hc⟩
      have:=qm7 h1 hj (show x.toNat<ps.length by omega) hpj hc
      show (j:Int)=x
      omega
  | none =>
    have hn:=List.findIdx?_eq_none_iff.1 hf
    constructor
    · intro e
      have e:(-1:Int)=x:=e
      omega
    · rintro ⟨hl,hc⟩
      have hxl:x.toNat<ps.length:=by omega
      unfold clkAt at hc
      rw [qg8 hxl] at hc
      have:=hn _ (jq hxl)
      rw [hc] at this
      exact absurd this (by decide)
theorem qhy {ps:List qY} (h:pinsB ps=true):(2≤ps.length∧ps.length≤5)∧clkAt ps ((ps.length:Int)-1)=false:=by
  unfold pinsB lenB at h
  simp only [jh,decide_eq_true_eq] at h
  refine ⟨h.2.1,?_⟩
  have h1:=qaB.1 h.1 (ps.length-1) (by omega)
  unfold pinB at h1
  rw [show decide (ps.length-1+1=ps.length)=true by simp;omega] at h1
  simp only [cond_true,jh,jD] at h1
  unfold clkAt
  rw [show ((ps.length:Int)-1).toNat=ps.length-1 by omega]
  exact h1.2.2
theorem qo1 {ps:List qY} {a:qag} (h:pinsB ps=true) (h1:clkN ps ps.length≤1):arcI ps a=arcS ps a:=by
  obtain ⟨⟨hm,hm5⟩,hlast⟩:=qhy h
  rw [jk]
  unfold arcI arcS
  cases h45:((a.Ar==4) || (a.Ar==5)) with
  | true =>
    have k1:(a.Ar==1)=false:=by simp at h45 ⊢;omega
    have k23:((a.Ar==2) || (a.Ar==3))=false:=by simp at h45 ⊢;omega
    rw [k1,k23]
    simp only [cond_true,cond_false,jh,qb3,decide_eq_true_eq,beq_iff_eq,jD,beq_eq_false_iff_ne,ne_eq]
    constructor
    · rintro ⟨hs,hsl,hd,hf,hf0,ht,hne⟩
      obtain ⟨hl,hc⟩:=(qkG h1 hf0).1 hf.symm
      have hfl:a.As ≠ (ps.length:Int)-1:=by intro e;rw [e,hlast] at hc;cases hc
      refine ⟨⟨⟨hf0,by omega⟩,⟨ht.1,by omega⟩⟩,hc,by omega,?_,hs,hd,hsl⟩
      cases hct:clkAt ps a.To with
      | false=>rfl
      | true =>
        have:=(qkG h1 ht.1).2 ⟨by omega,hct⟩
        omega
    · rintro ⟨⟨hf,ht⟩,hc,hlt,hct,hs,hd,hsl⟩
      have:=(qkG h1 hf.1).2 ⟨by omega,hc⟩
      refine ⟨hs,hsl,hd,this.symm,hf.1,⟨ht.1,by omega⟩,?_⟩
      intro e
      rw [e,hc] at hct
      cases hct
  | false =>
    simp only [cond_false,jh,qb3,beq_iff_eq]
    cases (a.Ar==1)
    · cases ((a.Ar==2) || (a.Ar==3))
      · simp
      · simp only [cond_true,cond_false,jh,beq_iff_eq]
        constructor
        · rintro ⟨⟨h1,h2,h3,h4⟩,h5,h6⟩
          exact ⟨⟨h4,by omega⟩,h5,h3,h6,h1,h2⟩
        · rintro ⟨⟨h4,h7⟩,h5,h3,h6,h1,h2⟩
          exact ⟨⟨h1,h2,h3,h4⟩,h5,h6⟩
    · simp only [cond_true,jh,qb3,jD,beq_iff_eq]
      constructor
      · rintro ⟨⟨h1,h2,h3,h4⟩,h5,h6⟩
        exact ⟨⟨h4,by omega⟩,h5,h3,h6,h1,h2⟩
      · rintro ⟨⟨h4,h7⟩,h5,h3,h6,h1,h2⟩
        exact ⟨⟨h1,h2,h3,h4⟩,h5,h6⟩
theorem qmf {ps:List qY} {a:qag} (h:arcS ps a=true):1≤a.Ar∧a.Ar≤5:=by
  unfold arcS at h
  rw [jh] at h
  have h:=h.2
  cases h1:(a.Ar==1)
  · cases h2:((a.Ar==2) || (a.Ar==3))
    · cases h4:((a.Ar==4) || (a.Ar==5))
      · rw [h1,h2,h4] at h;cases h
      · simp at h4;omega
    · simp at h2;omega
  · simp at h1;omega
def sameArc (x y:qag):Bool:=(x.Ar==y.Ar)&&((x.As==y.As)&&(x.To==y.To))
def newArc (ar:List qag) (j:Nat):Bool:=allN (fun i=>!sameArc (gt ar i) (gt ar j)) j
theorem qnT {c:qv} (h:okL qiw c.Ap) (ha:okL qiu c.Aq) (hm:2≤c.Ap.length):Ev (fun n=>qeX n c) (allN (fun j=>arcI c.Ap (gt c.Aq j)&&newArc c.Aq j) c.Aq.length&&decide (c.Aq.length≤8)):=by
  have hl:=ha.len
  have h1:∀ (ar:List qag) (y:qag),ar.length≤1048576→Ev (fun n=>qas n ar y) (ar.any fun x=>sameArc x y):=by
    intro ar y hl
    unfold qas
    refine Ev.bind (b:=ixL (fun x=>sameArc x y) ar) (qdA (fin:=(ar.length:Int)) (Lf:=qK ar y) (pf:=fun n x=>qei n x y) (fun x _=>?_)
      (fun n=>by simp only [qK,qt (jf _),cond_false])
      (fun n j x hx=>by
        have hj:=(List.getElem?_eq_some_iff.1 hx).1
        simp only [qK,qr hj,cond_true,qfx hx,je,wS j])
      (fun n=>by unfold qaU;congr 1;funext o;cases o<;>rfl)) (Ev.now (by rw [qg0]))
    unfold qei sameArc
    exact Ev.andP fun _=>Ev.andP fun _=>.done
  have hL:Ev (fun n=>qbQ c n 0) (bif allN (fun j=>arcI c.Ap (gt c.Aq j)&&newArc c.Aq j) c.Aq.length then .nxt (c.Aq.length:Int) else .ret false):=by
    refine qed ?_ (fun j hj X hX=>Ev.succ ?_)
    · exact Ev.succ (by simp only [qbQ,qt (jf _),cond_false];exact .done)
    · simp only [qbQ,qr hj,cond_true,qae hj,je,qmc (Nat.le_of_lt hj),wS j]
      refine Ev.chk (qo9 h (qhx ha hj) hm) fun _=>Ev.chkT1 ?_ (fun _=>hX)
      refine (h1 _ _ (by simp;omega)).cast ?_
      rw [qo6 (Nat.le_of_lt hj)];rfl
  unfold qeX
  refine Ev.bind hL ?_
  cases allN (fun j=>arcI c.Ap (gt c.Aq j)&&newArc c.Aq j) c.Aq.length
  · exact .done
  · refine Ev.now ?_
    show some (decide ((c.Aq.length:Int)≤((8:Nat):Int)))=some (true&&decide (c.Aq.length≤8))
    rw [qiA,jv]
def hasB (ar:List qag) (k:Int):Bool:=ar.any fun a=>a.Ar==k
theorem qks {c:qv} {k:Int} (hl:c.Aq.length≤1048576):Ev (fun n=>qcB n c k) (hasB c.Aq k):=by
  unfold qcB qa2
  exact Ev.last (Ev.bind (b:=ixL (fun x=>x.Ar==k) c.Aq) (qdA (fin:=(c.Aq.length:Int)) (Lf:=qT c.Aq k) (pf:=fun n x=>qg6 n x k) (fun x _=>.done)
      (fun n=>by simp only [qT,qt (jf _),cond_false])
      (fun n j x hx=>by
        have hj:=(List.getElem?_eq_some_iff.1 hx).1
        simp only [qT,qr hj,cond_true,qfx hx,je,wS j])
      (fun n=>by unfold qbb;congr 1;funext o;cases o<;>rfl)) (Ev.now (by rw [qg0];rfl)))
def kindN (ar:List qag) (k:Nat) (j:Nat):Nat:=cntP (fun i=>(gt ar i).Ar==(k:Int)) j
theorem qmh {ar:List qag} {k:Nat}:decide (((kindN ar k ar.length:Nat):Int) > 0)=hasB ar k:=by
  rw [show decide (((kindN ar k ar.length:Nat):Int) > 0)=decide (0<kindN ar k ar.length) by simp]
  unfold kindN hasB
  rw [qmY,qoS]
theorem qnM {ar:List qag} {k:Nat}:(((kindN ar k ar.length:Nat):Int)==0) = !hasB ar k:=by
  rw [←qmh,jk];simp
theorem qmU {c:qv} (ha:okL qiu c.Aq) (hk:∀ j,j<c.Aq.length→1≤(gt c.Aq j).Ar∧(gt c.Aq j).Ar≤5):Ev (fun n=>qgI n c) (vecC (fun k=>kindN c.Aq k c.Aq.length) 6):=by
  have hl:=ha.len
  have hL:Ev (fun n=>qcv c n (vecC (fun _=>0) 6) 0) (vecC (fun k=>kindN c.Aq k c.Aq.length) 6,(c.Aq.length:Int)):=by
    refine loopF (Lf:=qcv c) (S:=fun j=>vecC (fun k=>kindN c.Aq k j) 6) (len:=c.Aq.length) (fun n=>?_) (fun j hj X hX=>?_)
    · simp only [qcv,qt (jf _),cond_false]
    · obtain ⟨k1,k5⟩:=hk j hj
      have ek:(gt c.Aq j).Ar=(((gt c.Aq j).Ar.toNat:Nat):Int):=qjD (by omega)
      have hc:kindN c.Aq (gt c.Aq j).Ar.toNat j≤j:=qdV
      simp only [qcv,qr hj,cond_true,qae hj,je,wS j]
      rw [ek,qhz (show (gt c.Aq j).Ar.toNat<6 by omega)]
      simp only [je]
      rw [ql4 (c:=fun k=>kindN c.Aq k j) (by show kindN c.Aq _ j<_;omega)]
      have:vecC (fun i=>kindN c.Aq i j+(bif decide ((gt c.Aq j).Ar.toNat=i) then 1 else 0)) 6=vecC (fun k=>kindN c.Aq k (j+1)) 6:=by
        refine qhA (fun k _=>?_)
        show _=kindN c.Aq k j+(bif (gt c.Aq j).Ar==(k:Int) then 1 else 0)
        congr 2
        rw [jk];simp;omega
      rw [this]
      exact hX
  unfold qgI
  rw [show mkS 6 (0:Int)=some (vecC (fun _=>0) 6) from qjl (m:=6) (by omega)]
  simp only [je]
  exact Ev.bind hL .done
def kindB (c:qv):Bool :=
  bif c.Ar==1 then (((clkN c.Ap c.Ap.length:Nat):Int)==0)&&(((c.Bb.length:Int)==((2 ^ (c.Ap.length-1):Nat):Int))&&(c.Bb.all fun x=>inI x 0 1))
  else bif c.Ar==2 then (((clkN c.Ap c.Ap.length:Nat):Int)==1)&&(((c.Bb.length:Int)==0)&&(!hasB c.Aq 1&&!(hasB c.Aq 2==hasB c.Aq 3)))
  else bif c.Ar==3 then (((clkN c.Ap c.Ap.length:Nat):Int)==1)&&(((c.Bb.length:Int)==0)&&(hasB c.Aq 1&&(hasB c.Aq 2&&!hasB c.Aq 3)))
  else false
theorem ql8 {c:qv} (h:kindB c=true):clkN c.Ap c.Ap.length≤1:=by
  unfold kindB at h
  cases h1:(c.Ar==1)
  · cases h2:(c.Ar==2)
    · cases h3:(c.Ar==3)
      · rw [h1,h2,h3] at h;cases h
      · rw [h1,h2,h3] at h
        simp only [cond_true,cond_false,jh,beq_iff_eq] at h
        omega
    · rw [h1,h2] at h
      simp only [cond_true,cond_false,jh,beq_iff_eq] at h
      omega
  · rw [h1] at h
    simp only [cond_true,jh,beq_iff_eq] at h
    omega
theorem qng {m:Nat} (h1:2≤m) (h2:m≤5):shlS 1 (W64 ((m:Int)-1))=some ((2 ^ (m-1):Nat):Int)∧shlS 1 (IntKind.wrap .u64 (W64 ((m:Int)-1)))=some ((2 ^ (m-1):Nat):Int):=by
  have:m=2∨m=3∨m=4∨m=5:=by omega
  rcases this with rfl|rfl|rfl|rfl<;>exact ⟨by decide,by decide⟩
theorem qnn {c:qv} (hc:qjf c) (hm:2≤c.Ap.length) (hm5:c.Ap.length≤5):Ev (fun n=>qeC n c) (kindB c):=by
  have hl:=hc.Ap.len
  have hL:Ev (fun n=>qaY c n 0 0) (((clkN c.Ap c.Ap.length:Nat):Int),(c.Ap.length:Int)):=by
    refine loopF (Lf:=qaY c) (S:=fun j=>((clkN c.Ap j:Nat):Int)) (len:=c.Ap.length) (fun n=>?_) (fun j hj X hX=>?_)
    · simp only [qaY,qt (jf _),cond_false]
    · have hn:clkN c.Ap j≤j:=qdV
      simp only [qaY,qr hj,cond_true,qae hj,je,wS j,qhZ (show clkN c.Ap j<9223372036854775807 by omega)]
      have hck:clkN c.Ap (j+1)=clkN c.Ap j+(bif (gt c.Ap j).Bc then 1 else 0):=rfl
      rw [hck] at hX
      cases hc:(gt c.Ap j).Bc
      · rw [hc] at hX;exact Ev.ff rfl hX
      · rw [hc] at hX;exact Ev.tt rfl hX
  unfold qeC kindB
  refine Ev.bind hL ?_
  simp only [qbV,qbw,je,(qng hm hm5).1]
  have hal:=hc.Aq.len
  refine Ev.iff (fun _=>?_) (fun _=>Ev.iff (fun _=>?_) (fun _=>Ev.iff (fun _=>?_) (fun _=>.done)))
  · exact Ev.andP fun _=>Ev.andP fun _=>Ev.last (qd1 hc.Bb.len)
  · exact Ev.andP fun _=>Ev.andP fun _=>Ev.bind (qks hal) (Ev.andP fun _=>Ev.bind (qks hal) (Ev.bind (qks hal) .done))
  · exact Ev.andP fun _=>Ev.andP fun _=>Ev.and (qks hal) fun _=>Ev.and (qks hal) fun _=>Ev.bind (qks hal) .done
def cellB (c:qv):Bool :=
  nameB c.Au&&(pinsB c.Ap&&((allN (fun j=>arcI c.Ap (gt c.Aq j)&&newArc c.Aq j) c.Aq.length&&decide (c.Aq.length≤8))&&(inI c.Br 0 100000&&(inI c.Bm 0 100000&&kindB c))))
theorem qom {c:qv} (hc:qjf c):Ev (fun n=>qhN n c) (cellB c):=by
  simp only [qhN,qmd hc.Au,qdo,je]
  unfold cellB
  refine Ev.andP fun _=>Ev.and (qnv hc.Ap) fun hp=>?_
  obtain ⟨⟨hm,hm5⟩,_⟩:=qhy hp
  exact Ev.and (qnT hc.Ap hc.Aq hm) fun _=>Ev.andP fun _=>Ev.andP fun _=>Ev.last (qnn hc hm hm5)
theorem qnF {c:qv} (hc:qjf c):Ev (fun n=>qhK n c) (cellB c):=by
  have hal:=hc.Aq.len
  have htl:=hc.Bb.len
  have e:cellB c=((pinsB c.Ap&&(nameB c.Au&&(decide (c.Aq.length≤8)&&(inI c.Br 0 100000&&inI c.Bm 0 100000))))&&(allN (fun j=>arcS c.Ap (gt c.Aq j)&&newArc c.Aq j) c.Aq.length&&kindB c)):=by
    unfold cellB
    cases hk:kindB c
    · simp
    · cases hp:pinsB c.Ap
      · simp
      · rw [qfP (fun j _=>by rw [qo1 hp (ql8 hk)])]
        cases nameB c.Au<;>cases allN (fun j=>arcS c.Ap (gt c.Aq j)&&newArc c.Aq j) c.Aq.length<;>cases decide (c.Aq.length≤8)<;>cases inI c.Br 0 100000<;>cases inI c.Bm 0 100000<;>rfl
  rw [e]
  unfold qhK
  refine Ev.bind (qnU hc.Ap) ?_
  cases hp:pinsB c.Ap
  · exact .done
  · obtain ⟨⟨hm,hm5⟩,_⟩:=qhy hp
    simp only [cond_true,jv,jT,cond_false]
    refine Ev.guardB ?_ (fun _=>?_)
    · simp only [qdx,je,qa0]
      refine Ev.orB (qjN hc.Au) fun _=>?_
      rw [show decide ((c.Aq.length:Int) > 8) = !decide (c.Aq.length≤8) by rw [jk];simp;omega,qa0]
      exact Ev.orBP fun _=>Ev.orBP fun _=>.done
    · have hL2:∀ j,j<c.Aq.length→Ev (fun n=>qcD c (j:Int) (gt c.Aq j) n 0) (bif newArc c.Aq j then .nxt (j:Int) else .ret false):=by
        intro j hj
        refine qed ?_ (fun i hi X hX=>Ev.succ ?_)
        · exact Ev.succ (by simp only [qcD,qt (jf _),cond_false];exact .done)
        · simp only [qcD,qr hi,cond_true,qae (show i<c.Aq.length by omega),je,wS i]
          unfold sameArc
          cases ((gt c.Aq i).Ar==(gt c.Aq j).Ar)
          · exact hX
          · cases ((gt c.Aq i).As==(gt c.Aq j).As)
            · exact hX
            · cases ((gt c.Aq i).To==(gt c.Aq j).To)
              · exact hX
              · exact .done
      have hL1:Ev (fun n=>qeq c n 0) (bif allN (fun j=>arcS c.Ap (gt c.Aq j)&&newArc c.Aq j) c.Aq.length then .nxt (c.Aq.length:Int) else .ret false):=by
        refine qed ?_ (fun j hj X hX=>Ev.succ ?_)
        · exact Ev.succ (by simp only [qeq,qt (jf _),cond_false];exact .done)
        · simp only [qeq,qr hj,cond_true,qae hj,je,wS j]
          refine Ev.chk (qow hc.Ap (qhx hc.Aq hj) hm) fun _=>Ev.bind (hL2 j hj) ?_
          cases newArc c.Aq j
          · exact .done
          · exact hX
      have hL3:Ev (fun n=>qet c n 0) (bif (c.Bb.all fun x=>inI x 0 1) then .nxt (c.Bb.length:Int) else .ret false) :=
        qi8 (fun n=>by simp only [qet,qt (jf _),cond_false]) (fun j hj X hX=>by
          simp only [qet,qr hj,cond_true,qaS hj,je,qdx,wS j,qa0]
          exact Ev.okP1 fun _=>hX)
      refine Ev.bind hL1 ?_
      cases hA:allN (fun j=>arcS c.Ap (gt c.Aq j)&&newArc c.Aq j) c.Aq.length
      · exact .done
      · have hk:∀ j,j<c.Aq.length→1≤(gt c.Aq j).Ar∧(gt c.Aq j).Ar≤5:=fun j hj=>by
          have:=qaB.1 hA j hj
          rw [jh] at this
          exact qmf this.1
        simp only [cond_true,jv]
        refine Ev.bind (qmU hc.Aq hk) ?_
        simp only [(qng hm hm5).2,je,
          show idx (vecC (fun k=>kindN c.Aq k c.Aq.length) 6) (1:Int)=some ((kindN c.Aq 1 c.Aq.length:Nat):Int) from qhz (k:=1) (by omega),
          show idx (vecC (fun k=>kindN c.Aq k c.Aq.length) 6) (2:Int)=some ((kindN c.Aq 2 c.Aq.length:Nat):Int) from qhz (k:=2) (by omega),
          show idx (vecC (fun k=>kindN c.Aq k c.Aq.length) 6) (3:Int)=some ((kindN c.Aq 3 c.Aq.length:Nat):Int) from qhz (k:=3) (by omega),qmh,qnM]
        unfold kindB
        refine Ev.iff (fun _=>?_) (fun _=>Ev.iff (fun _=>?_) (fun _=>Ev.iff (fun _=>?_) (fun _=>.done)))
        · refine Ev.bind hL3 ?_
          cases (c.Bb.all fun x=>inI x 0 1)
          · exact Ev.now (by simp)
          · exact (Ev.andP (fun _=>.done)).cast (by rw [Bool.and_true])
        · refine (Ev.andP fun _=>Ev.andP fun _=>Ev.andP fun _=>.done).cast ?_
          cases (((clkN c.Ap c.Ap.length:Nat):Int)==1)<;>cases ((c.Bb.length:Int)==0)<;>cases hasB c.Aq ((1:Nat):Int)<;>cases hasB c.Aq ((2:Nat):Int)<;>cases hasB c.Aq ((3:Nat):Int)<;>rfl
        · refine (Ev.andP fun _=>Ev.andP fun _=>Ev.andP fun _=>Ev.andP fun _=>.done).cast ?_
          cases (((clkN c.Ap c.Ap.length:Nat):Int)==1)<;>cases ((c.Bb.length:Int)==0)<;>cases hasB c.Aq ((1:Nat):Int)<;>cases hasB c.Aq ((2:Nat):Int)<;>cases hasB c.Aq ((3:Nat):Int)<;>rfl
def libB (l:qq):Bool:=l.Ai.all cellB&&(decide (l.Ai.length≤8)&&namesB (l.Ai.map qv.Au))
theorem qmn {l:qq} (h:qfe l):Ev (fun n=>qgn n l) (libB l):=by
  have hl:=h.Ai.len
  have hL:Ev (fun n=>qb9 l n ([]:List ByteArray) 0) (bif allN (fun j=>cellB (gt l.Ai j)) l.Ai.length then .nxt (l.Ai.map qv.Au,(l.Ai.length:Int)) else .ret false):=by
    refine loopN (Lf:=qb9 l) (S:=fun j=>(l.Ai.take j).map qv.Au) (fun j=>cellB (gt l.Ai j)) (fun n=>?_) (fun j hj hp X hX=>?_)
    · simp only [qb9,qt (jf _),cond_false,jN]
    · simp only [qb9,qr hj,cond_true,qae hj,je,qih hj hl,qeD (g:=qv.Au) hj,wS j]
      exact Ev.chk1 (qom (qhx h.Ai hj)) hX
  unfold qgn libB
  rw [qgz]
  refine Ev.bind hL ?_
  cases allN (fun j=>cellB (gt l.Ai j)) l.Ai.length
  · exact .done
  · simp only [cond_true,jv,show decide ((l.Ai.length:Int)≤8)=decide (l.Ai.length≤8) from qiA (k:=8)]
    exact Ev.andP fun _=>Ev.last (qgR (qjp h.Ai (fun x hx=>hx.Au)))
end Go.Fw


namespace Go.Fw
open Go
set_option maxRecDepth 100000
theorem qnu {c:qv} (h:cellB c=true):nameB c.Au=true:=by
 unfold cellB at h;rw [jh] at h;exact h.1
theorem qlc {c:qv} (h:cellB c=true):pinsB c.Ap=true:=by
 unfold cellB at h;simp only [jh] at h;exact h.2.1
theorem qlS {l:qq} (h:qfe l):Ev (fun n=>qf7 n l) (libB l):=by
 have hl:=h.Ai.len
 have hL2:∀ j,j<l.Ai.length→Ev (fun n=>qcP l (j:Int) n 0) (bif allN (neB (l.Ai.map qv.Au) j) j then .nxt (j:Int) else .ret false):=by
  intro j hj
  refine qed ?_ (fun i hi X hX=>Ev.succ ?_)
  ·exact Ev.succ (by simp only [qcP,qt (jf _),cond_false];exact .done)
  ·simp only [qcP,qr hi,cond_true,qae (show i<l.Ai.length by omega),qae hj,je,qfC,wS i]
   unfold neB
   rw [qhq (g:=qv.Au) (show i<l.Ai.length by omega),qhq (g:=qv.Au) hj]
   exact Ev.chkP1 (fun _=>hX)
 have hL1:Ev (fun n=>qcR l n 0) (bif allN (fun j=>cellB (gt l.Ai j)&&allN (neB (l.Ai.map qv.Au) j) j) l.Ai.length then .nxt (l.Ai.length:Int) else .ret false):=by
  refine qed ?_ (fun j hj X hX=>Ev.succ ?_)
  ·exact Ev.succ (by simp only [qcR,qt (jf _),cond_false];exact .done)
  ·simp only [qcR,qr hj,cond_true,qae hj,je,wS j]
   refine Ev.chk (qnF (qhx h.Ai hj)) fun _=>Ev.bind (hL2 j hj) ?_
   cases allN (neB (l.Ai.map qv.Au) j) j
   ·exact .done
   ·exact hX
 have e:libB l=(allN (fun j=>cellB (gt l.Ai j)&&allN (neB (l.Ai.map qv.Au) j) j) l.Ai.length&&decide (l.Ai.length≤8)):=by
  unfold libB namesB
  rw [qgz,jB,Bool.and_comm (decide (l.Ai.length≤8)),←jP,←qhv]
  congr 1
  refine qfP (fun j hj=>?_)
  rw [qhq (g:=qv.Au) hj]
  cases hc:cellB (gt l.Ai j)
  ·rfl
  ·rw [qnu hc];rfl
 rw [e]
 unfold qf7
 refine Ev.bind hL1 ?_
 cases allN (fun j=>cellB (gt l.Ai j)&&allN (neB (l.Ai.map qv.Au) j) j) l.Ai.length
 ·exact .done
 ·refine Ev.now ?_
  show some (decide ((l.Ai.length:Int)≤((8:Nat):Int)))=some (true&&decide (l.Ai.length≤8))
  rw [qiA,jv]
theorem qii {c c':Nat→Nat} {m:Nat} {x:Int} (h0:0≤x) (h1:x<m) (hc:c x.toNat<9223372036854775807) (he:∀ k,k<m→c' k=c k+(bif x==(k:Int) then 1 else 0)) :
  idx (vecC c m) x=some (c x.toNat:Int)∧setS (vecC c m) x (W64 ((c x.toNat:Int)+1))=vecC c' m:=by
 have ex:x=(x.toNat:Int):=qjD h0
 have e1:=qhz (c:=c) (m:=m) (k:=x.toNat) (by omega)
 have e2:=ql4 (c:=c) (m:=m) (k:=x.toNat) hc
 rw [←ex] at e1 e2
 refine ⟨e1,e2.trans (qhA (fun k hk=>?_))⟩
 rw [he k hk]
 congr 2
 rw [jk];simp;omega
def netB (d:qg) (x:Int):Bool:=inI x 0 ((d.Aj.length:Int)-1)
theorem qmP {n:Nat} {d:qg} {x:Int} (hl:d.Aj.length≤1048576):qcQ n d x=some (netB d x):=by
 simp only [qcQ,qfQ,je,qdo,qbn (show d.Aj.length≤9223372036854775807 by omega)];rfl
theorem ql1 {n:Nat} {d:qg} {x:Int} (hl:d.Aj.length≤1048576):qaq n x 0 (W64 ((d.Aj.length:Int)-1))=some (netB d x):=by
 rw [qdx,qbn (show d.Aj.length≤9223372036854775807 by omega)];rfl
def hasNamesB (d:qg):Bool:=(decide (d.Ab.length≤14)&&(decide (d.Aj.length≤30)&&decide (d.Af.length≤8)))&&(namesB (d.Ab.map qw.Au)&&(namesB d.Aj&&namesB (d.Af.map qC.Au)))
theorem qna {d:qg} (h:qhn d):Ev (fun n=>qd0 n d) (hasNamesB d):=by
 have hli:=h.Ab.len
 have hlp:=h.Af.len
 have hL1:Ev (fun n=>qa4 d n ([]:List ByteArray) 0) (d.Ab.map qw.Au,(d.Ab.length:Int)):=by
  refine loopF (Lf:=qa4 d) (S:=fun j=>(d.Ab.take j).map qw.Au) (len:=d.Ab.length) (fun n=>?_) (fun j hj X hX=>?_)
  ·simp only [qa4,qt (jf _),cond_false,jN]
  ·simpa only [qa4,qr hj,cond_true,qae hj,je,qih hj hli,qeD (g:=qw.Au) hj,wS j] using hX
 have hL2:Ev (fun n=>qa1 d n ([]:List ByteArray) 0) (d.Af.map qC.Au,(d.Af.length:Int)):=by
  refine loopF (Lf:=qa1 d) (S:=fun j=>(d.Af.take j).map qC.Au) (len:=d.Af.length) (fun n=>?_) (fun j hj X hX=>?_)
  ·simp only [qa1,qt (jf _),cond_false,jN]
  ·simpa only [qa1,qr hj,cond_true,qae hj,je,qih hj hlp,qeD (g:=qC.Au) hj,wS j] using hX
 unfold qd0 hasNamesB
 refine Ev.bind hL1 (Ev.bind hL2 ?_)
 simp only [jB]
 rw [show decide ((d.Ab.length:Int)≤14)=decide (d.Ab.length≤14) from qiA (k:=14),show decide ((d.Aj.length:Int)≤30)=decide (d.Aj.length≤30) from qiA (k:=30),show decide ((d.Af.length:Int)≤8)=decide (d.Af.length≤8) from qiA (k:=8)]
 rw [jP,jP]
 exact Ev.andP fun _=>Ev.andP fun _=>Ev.andP fun _=>Ev.and (qgR (qjp h.Ab (fun x hx=>hx.Au))) fun _=>Ev.and (qgR h.Aj) fun _=>Ev.last (qgR (qjp h.Af (fun x hx=>hx.Au)))
def instB (l:qq) (d:qg) (x:qw):Bool:=inI x.Az 0 ((l.Ai.length:Int)-1)&&(((x.Aj.length:Int)==((gt l.Ai x.Az.toNat).Ap.length:Int))&&x.Aj.all (netB d))
theorem qlO {d:qg} {l:qq} {x:qw} (hn:d.Aj.length≤1048576) (hc:l.Ai.length≤1048576) (hx:x.Aj.length≤1048576):Ev (fun n=>qc9 n d l x) (instB l d x):=by
 simp only [qc9,qeT,je,qdo,qbn (show l.Ai.length≤9223372036854775807 by omega)]
 unfold instB
 refine Ev.andP fun hI=>?_
 rw [qb3] at hI
 rw [qe4 hI.1 (by omega)]
 simp only [je]
 refine Ev.andP fun _=>Ev.bind (b:=x.Aj.any fun y=>!netB d y) ?_ (Ev.now (by rw [qj3]))
 unfold qaF
 exact Ev.bind (b:=ixL (fun y=>!netB d y) x.Aj) (qdA (fin:=(x.Aj.length:Int)) (Lf:=qH x.Aj d) (pf:=fun n y=>qcC n y d) (fun y _=>⟨0,fun n _=>by simp only [qcC,qmP hn,je]⟩)
   (fun n=>by simp only [qH,qt (jf _),cond_false])
   (fun n j y hx=>by
    have hj:=(List.getElem?_eq_some_iff.1 hx).1
    simp only [qH,qr hj,cond_true,qfx hx,je,wS j])
   (fun n=>by unfold qaL;congr 1;funext o;cases o<;>rfl)) (Ev.now (by rw [qg0]))
def portB (d:qg) (p:qC):Bool:=inI p.Bn 1 2&&netB d p.Bq
theorem qqk {x:Int}:inI x 1 2=((x==1) || (x==2)):=by
 unfold inI;rw [jk];simp;omega
def lastN (x:qw):Int:=at0 x.Aj (x.Aj.length-1)
theorem qm9 {x:qw} (h1:1≤x.Aj.length) (h2:x.Aj.length≤1048576):idx x.Aj (W64 ((x.Aj.length:Int)-1))=some (lastN x):=by
 rw [qbn (by omega),show ((x.Aj.length:Int)-1)=((x.Aj.length-1:Nat):Int) by omega,qa5 (by omega)];rfl
theorem qoC {d:qg} {x:qw} (h1:1≤x.Aj.length) (h:x.Aj.all (netB d)=true):0≤lastN x∧lastN x<d.Aj.length:=by
 rw [qfy (d:=0),qaB] at h
 have:=h (x.Aj.length-1) (by omega)
 unfold netB at this
 rw [qb3] at this
 unfold lastN at0
 omega
theorem qlu {l:qq} {d:qg} {x:qw} (hl:libB l=true) (h:instB l d x=true):1≤x.Aj.length∧0≤lastN x∧lastN x<d.Aj.length:=by
 unfold instB at h
 simp only [jh,qb3,beq_iff_eq] at h
 obtain ⟨h1,h2,h3⟩:=h
 unfold libB at hl
 simp only [jh] at hl
 have hc:=hl.1
 rw [qgz,qaB] at hc
 have:=qhy (qlc (hc x.Az.toNat (by omega)))
 have h4:1≤x.Aj.length:=by omega
 exact ⟨h4,qoC h4 h3⟩
def drvI (d:qg) (k j:Nat):Nat:=cntP (fun i=>lastN (gt d.Ab i)==(k:Int)) j
def drvP (d:qg) (k j:Nat):Nat:=cntP (fun i=>((gt d.Af i).Bn==1)&&((gt d.Af i).Bq==(k:Int))) j
def drvB (d:qg):Bool:=allN (fun k=>((drvI d k d.Ab.length+drvP d k d.Af.length:Nat):Int)==1) d.Aj.length
def designB (l:qq) (d:qg):Bool:=(libB l&&hasNamesB d)&&(d.Ab.all (instB l d)&&(d.Af.all (portB d)&&drvB d))
theorem qkn {d:qg} {k j:Nat}:drvI d k (j+1)=drvI d k j+(bif lastN (gt d.Ab j)==(k:Int) then 1 else 0):=rfl
theorem qjj {d:qg} {k j:Nat}:drvP d k (j+1)=drvP d k j+(bif ((gt d.Af j).Bn==1)&&((gt d.Af j).Bq==(k:Int)) then 1 else 0):=rfl
theorem qnp {l:qq} {d:qg} (h:qfe l) (hd:qhn d):Ev (fun n=>qgK n l d) (designB l d):=by
 have hli:=hd.Ab.len
 have hlp:=hd.Af.len
 have hln:=hd.Aj.len
 have hlc:=h.Ai.len
 unfold qgK designB
 refine Ev.guardB (Ev.or (qmn h) fun _=>Ev.neg (qna hd)) fun hb=>?_
 rw [jh] at hb
 rw [qjl (m:=d.Aj.length) (by omega)]
 simp only [je]
 have hL1:Ev (fun n=>qcA l d n (vecC (fun _=>0) d.Aj.length) 0) (bif allN (fun j=>instB l d (gt d.Ab j)) d.Ab.length then .nxt (vecC (fun k=>drvI d k d.Ab.length) d.Aj.length,(d.Ab.length:Int)) else .ret false):=by
  refine loopN (Lf:=qcA l d) (S:=fun j=>vecC (fun k=>drvI d k j) d.Aj.length) (fun j=>instB l d (gt d.Ab j)) (fun n=>?_) (fun j hj hp X hX=>?_)
  ·simp only [qcA,qt (jf _),cond_false]
  ·simp only [qcA,qr hj,cond_true,qae hj,je,wS j]
   have hxl:=(qhx hd.Ab hj).Aj.len
   refine Ev.chk1 (qlO hln hlc hxl) fun hi=>?_
   obtain ⟨h1,h2,h3⟩:=qlu hb.1 hi
   have hc:drvI d (lastN (gt d.Ab j)).toNat j≤j:=qdV
   obtain ⟨e1,e2⟩:=qii (c:=fun k=>drvI d k j) (c':=fun k=>drvI d k (j+1)) h2 h3 (by show drvI _ _ _<_;omega) (fun k _=>qkn)
   simp only [qm9 h1 hxl,je,e1,e2]
   exact hX hi
 have hL2:Ev (fun n=>qbW d n (vecC (fun k=>drvI d k d.Ab.length) d.Aj.length) 0) (bif allN (fun j=>portB d (gt d.Af j)) d.Af.length then .nxt (vecC (fun k=>drvI d k d.Ab.length+drvP d k d.Af.length) d.Aj.length,(d.Af.length:Int)) else .ret false):=by
  refine loopN (Lf:=qbW d) (S:=fun j=>vecC (fun k=>drvI d k d.Ab.length+drvP d k j) d.Aj.length) (fun j=>portB d (gt d.Af j)) (fun n=>?_) (fun j hj hp X hX=>?_)
  ·simp only [qbW,qt (jf _),cond_false]
  ·simp only [qbW,qr hj,cond_true,qae hj,je,qmP hln,bne,wS j]
   refine Ev.chkT1 ?_ fun hi=>?_
   ·unfold portB
    rw [qqk]
    cases ((gt d.Af j).Bn==1)<;>cases ((gt d.Af j).Bn==2)<;>exact .done
   ·have hX:=hX hi
    unfold portB netB at hi
    simp only [jh,qb3] at hi
    have hc1:drvI d (gt d.Af j).Bq.toNat d.Ab.length≤d.Ab.length:=qdV
    have hc2:drvP d (gt d.Af j).Bq.toNat j≤j:=qdV
    cases h1:((gt d.Af j).Bn==1)
    ·have:vecC (fun k=>drvI d k d.Ab.length+drvP d k (j+1)) d.Aj.length=vecC (fun k=>drvI d k d.Ab.length+drvP d k j) d.Aj.length:=by
      refine qhA (fun k _=>?_)
      rw [qjj,h1];rfl
     rw [this] at hX
     exact hX
    ·obtain ⟨e1,e2⟩:=qii (c:=fun k=>drvI d k d.Ab.length+drvP d k j) (c':=fun k=>drvI d k d.Ab.length+drvP d k (j+1)) (x:=(gt d.Af j).Bq) (m:=d.Aj.length) hi.2.1 (by omega) (by show drvI _ _ _+drvP _ _ _<_;omega) (fun k _=>by rw [qjj,h1,jv];omega)
     simp only [cond_true,je,e1,e2]
     exact hX
 rw [qgz,qgz]
 refine Ev.bind hL1 ?_
 cases allN (fun j=>instB l d (gt d.Ab j)) d.Ab.length
 ·exact .done
 ·refine Ev.bind hL2 ?_
  cases allN (fun j=>portB d (gt d.Af j)) d.Af.length
  ·exact .done
  ·simp only [cond_true,jv]
   unfold qbq
   refine Ev.bind (b:=(vecC (fun k=>drvI d k d.Ab.length+drvP d k d.Af.length) d.Aj.length).any fun x=>!(x==1)) (Ev.bind (b:=ixL (fun x=>!(x==1)) (vecC (fun k=>drvI d k d.Ab.length+drvP d k d.Af.length) d.Aj.length)) (qdA (fin:=(((vecC (fun k=>drvI d k d.Ab.length+drvP d k d.Af.length) d.Aj.length).length:Nat):Int)) (Lf:=qad (vecC (fun k=>drvI d k d.Ab.length+drvP d k d.Af.length) d.Aj.length)) (pf:=fun n y=>qg5 n y) (fun y _=>.done)
    (fun n=>by simp only [qad,qt (jf _),cond_false])
    (fun n j y hx=>by
     have hj:=(List.getElem?_eq_some_iff.1 hx).1
     have:j<d.Aj.length:=by rw [qjb] at hj;exact hj
     simp only [qad,qr hj,cond_true,qfx hx,je,wS j])
    (fun n=>by unfold qbD;congr 1;funext o;cases o<;>rfl)) (Ev.now (by rw [qg0]))) (Ev.now ?_)
   rw [qj3,qfy (d:=0),qjb]
   unfold drvB
   congr 1
   exact qfP (fun k hk=>by
    have:=qmV (c:=fun k=>drvI d k d.Ab.length+drvP d k d.Af.length) hk
    unfold at0 at this
    rw [this])
theorem qmR {l:qq} {d:qg} (h:qfe l) (hd:qhn d):Ev (fun n=>qgL n l d) (d.Ab.all (instB l d)&&d.Af.all (portB d)):=by
 have hli:=hd.Ab.len
 have hlp:=hd.Af.len
 have hln:=hd.Aj.len
 have hlc:=h.Ai.len
 have hL2:∀ x:qw,x.Aj.length≤1048576→Ev (fun n=>qdk d x n 0) (bif x.Aj.all (netB d) then .nxt (x.Aj.length:Int) else .ret false):=fun x hx =>
  qi8 (fun n=>by simp only [qdk,qt (jf _),cond_false]) (fun j hj X hX=>by
   simp only [qdk,qr hj,cond_true,qaS hj,je,ql1 hln,wS j,qa0]
   exact Ev.okP1 fun _=>hX)
 have hL1:Ev (fun n=>qdh l d n 0) (bif allN (fun j=>instB l d (gt d.Ab j)) d.Ab.length then .nxt (d.Ab.length:Int) else .ret false):=by
  refine qed ?_ (fun j hj X hX=>Ev.succ ?_)
  ·exact Ev.succ (by simp only [qdh,qt (jf _),cond_false];exact .done)
  ·simp only [qdh,qr hj,cond_true,qae hj,je,qdx,qbn (show l.Ai.length≤9223372036854775807 by omega),wS j,bne]
   have hxl:=(qhx hd.Ab hj).Aj.len
   unfold instB
   rw [←jP]
   refine Ev.chkT ?_ fun _=>Ev.bind (hL2 _ hxl) ?_
   ·simp only [qa0]
    refine Ev.orBP fun hI=>?_
    rw [qb3] at hI
    rw [qe4 hI.1 (by omega)]
    exact .done
   ·cases (gt d.Ab j).Aj.all (netB d)
    ·exact .done
    ·exact hX
 have hL3:Ev (fun n=>qdl d n 0) (bif allN (fun j=>portB d (gt d.Af j)) d.Af.length then .nxt (d.Af.length:Int) else .ret false):=by
  refine qed ?_ (fun j hj X hX=>Ev.succ ?_)
  ·exact Ev.succ (by simp only [qdl,qt (jf _),cond_false];exact .done)
  ·simp only [qdl,qr hj,cond_true,qae hj,je,ql1 hln,wS j]
   simp only [qdx,je,qa0]
   unfold portB
   exact Ev.okP fun _=>Ev.okP1 fun _=>hX
 unfold qgL
 rw [qgz,qgz]
 refine Ev.bind hL1 ?_
 cases allN (fun j=>instB l d (gt d.Ab j)) d.Ab.length
 ·exact .done
 ·refine Ev.bind hL3 ?_
  cases allN (fun j=>portB d (gt d.Af j)) d.Af.length<;>exact .done
theorem qj9 {l:qq} {d:qg} (h:qfe l) (hd:qhn d):Ev (fun n=>qfB n l d) (designB l d):=by
 have hli:=hd.Ab.len
 have hlp:=hd.Af.len
 have hln:=hd.Aj.len
 have hlc:=h.Ai.len
 have e:designB l d=((libB l&&(decide (d.Ab.length≤14)&&(decide (d.Aj.length≤30)&&(decide (d.Af.length≤8)&&(d.Ab.all (instB l d)&&d.Af.all (portB d))))))&&((namesB (d.Ab.map qw.Au)&&(namesB (d.Af.map qC.Au)&&namesB d.Aj))&&drvB d)):=by
  unfold designB hasNamesB
  generalize libB l=a1
  generalize decide (d.Ab.length≤14)=a2
  generalize decide (d.Aj.length≤30)=a3
  generalize decide (d.Af.length≤8)=a4
  generalize d.Ab.all (instB l d)=a5
  generalize d.Af.all (portB d)=a6
  generalize namesB (d.Ab.map qw.Au)=a7
  generalize namesB (d.Af.map qC.Au)=a8
  generalize namesB d.Aj=a9
  generalize drvB d=a10
  rw [jk]
  simp only [jh]
  constructor
  ·rintro ⟨⟨h1,⟨h2,h3,h4⟩,h7,h9,h8⟩,h5,h6,h10⟩
   exact ⟨⟨h1,h2,h3,h4,h5,h6⟩,⟨h7,h8,h9⟩,h10⟩
  ·rintro ⟨⟨h1,h2,h3,h4,h5,h6⟩,⟨h7,h8,h9⟩,h10⟩
   exact ⟨⟨h1,⟨h2,h3,h4⟩,h7,h9,h8⟩,h5,h6,h10⟩
 rw [e]
 unfold qfB
 refine Ev.guardB ?_ fun hb=>?_
 ·refine Ev.or (qlS h) fun _=>?_
  rw [show decide ((d.Ab.length:Int) > 14) = !decide (d.Ab.length≤14) by rw [jk];simp;omega,show decide ((d.Aj.length:Int) > 30) = !decide (d.Aj.length≤30) by rw [jk];simp;omega,show decide ((d.Af.length:Int) > 8) = !decide (d.Af.length≤8) by rw [jk];simp;omega]
  simp only [qa0]
  exact Ev.orBP fun _=>Ev.orBP fun _=>Ev.orBP fun _=>Ev.neg (qmR h hd)
 ·simp only [jh] at hb
  obtain ⟨hlib,_,_,_,hI,hP⟩:=hb
  rw [qgz,qaB] at hI hP
  have hL1:Ev (fun n=>qcz d n ([]:List ByteArray) 0) (d.Ab.map qw.Au,(d.Ab.length:Int)):=by
   refine loopF (Lf:=qcz d) (S:=fun j=>(d.Ab.take j).map qw.Au) (len:=d.Ab.length) (fun n=>?_) (fun j hj X hX=>?_)
   ·simp only [qcz,qt (jf _),cond_false,jN]
   ·simpa only [qcz,qr hj,cond_true,qae hj,je,qih hj hli,qeD (g:=qw.Au) hj,wS j] using hX
  have hL2:Ev (fun n=>qcw d n ([]:List ByteArray) 0) (d.Af.map qC.Au,(d.Af.length:Int)):=by
   refine loopF (Lf:=qcw d) (S:=fun j=>(d.Af.take j).map qC.Au) (len:=d.Af.length) (fun n=>?_) (fun j hj X hX=>?_)
   ·simp only [qcw,qt (jf _),cond_false,jN]
   ·simpa only [qcw,qr hj,cond_true,qae hj,je,qih hj hlp,qeD (g:=qC.Au) hj,wS j] using hX
  have hL3:Ev (fun n=>qcy d n (vecC (fun _=>0) d.Aj.length) 0) (vecC (fun k=>drvI d k d.Ab.length) d.Aj.length,(d.Ab.length:Int)):=by
   refine loopF (Lf:=qcy d) (S:=fun j=>vecC (fun k=>drvI d k j) d.Aj.length) (len:=d.Ab.length) (fun n=>?_) (fun j hj X hX=>?_)
   ·simp only [qcy,qt (jf _),cond_false]
   ·have hxl:=(qhx hd.Ab hj).Aj.len
    obtain ⟨h1,h2,h3⟩:=qlu hlib (hI j hj)
    have hc:drvI d (lastN (gt d.Ab j)).toNat j≤j:=qdV
    obtain ⟨e1,e2⟩:=qii (c:=fun k=>drvI d k j) (c':=fun k=>drvI d k (j+1)) h2 h3 (by show drvI _ _ _<_;omega) (fun k _=>qkn)
    simpa only [qcy,qr hj,cond_true,qae hj,je,wS j,qm9 h1 hxl,e1,e2] using hX
  have hL4:Ev (fun n=>qbT d n (vecC (fun k=>drvI d k d.Ab.length) d.Aj.length) 0) (vecC (fun k=>drvI d k d.Ab.length+drvP d k d.Af.length) d.Aj.length,(d.Af.length:Int)):=by
   refine loopF (Lf:=qbT d) (S:=fun j=>vecC (fun k=>drvI d k d.Ab.length+drvP d k j) d.Aj.length) (len:=d.Af.length) (fun n=>?_) (fun j hj X hX=>?_)
   ·simp only [qbT,qt (jf _),cond_false]
   ·have hi:=hP j hj
    unfold portB netB at hi
    simp only [jh,qb3] at hi
    have hc1:drvI d (gt d.Af j).Bq.toNat d.Ab.length≤d.Ab.length:=qdV
    have hc2:drvP d (gt d.Af j).Bq.toNat j≤j:=qdV
    simp only [qbT,qr hj,cond_true,qae hj,je,wS j]
    cases h1:((gt d.Af j).Bn==1)
    ·have:vecC (fun k=>drvI d k d.Ab.length+drvP d k (j+1)) d.Aj.length=vecC (fun k=>drvI d k d.Ab.length+drvP d k j) d.Aj.length:=by
      refine qhA (fun k _=>?_)
      rw [qjj,h1];rfl
     rw [this] at hX
     exact hX
    ·obtain ⟨e1,e2⟩:=qii (c:=fun k=>drvI d k d.Ab.length+drvP d k j) (c':=fun k=>drvI d k d.Ab.length+drvP d k (j+1)) (x:=(gt d.Af j).Bq) (m:=d.Aj.length) hi.2.1 (by omega) (by show drvI _ _ _+drvP _ _ _<_;omega) (fun k _=>by rw [qjj,h1,jv];omega)
     simp only [cond_true,je,e1,e2]
     exact hX
  have hL5:Ev (fun n=>qdu (vecC (fun _=>0) d.Aj.length) (vecC (fun k=>drvI d k d.Ab.length+drvP d k d.Af.length) d.Aj.length) n 0) (bif drvB d then .nxt (d.Aj.length:Int) else .ret false):=by
   refine qed ?_ (fun j hj X hX=>Ev.succ ?_)
   ·exact Ev.succ (by simp only [qdu,qjb,qt (jf _),cond_false];exact .done)
   ·simp only [qdu,qjb,qr hj,cond_true,qhz hj,je,bne,qa0,wS j]
    exact Ev.okP1 fun _=>hX
  refine Ev.bind hL1 (Ev.bind hL2 ?_)
  refine Ev.guardB (Ev.or (qiT (qjp hd.Ab (fun x hx=>hx.Au))) fun _=>Ev.or (qiT (qjp hd.Af (fun x hx=>hx.Au))) fun _=>Ev.neg (qiT hd.Aj)) fun _=>?_
  rw [qjl (m:=d.Aj.length) (by omega)]
  simp only [je]
  refine Ev.bind hL3 (Ev.bind hL4 (Ev.bind hL5 ?_))
  cases drvB d<;>exact .done
end Go.Fw


namespace Go.Fw
open Go
set_option maxRecDepth 100000
theorem qoa {m k:Nat}:decide ((m:Int)<(k:Int)) = !decide (k≤m):=by rw [jk];simp
theorem qiC {m k:Nat}:decide ((m:Int) > (k:Int)) = !decide (m≤k):=by rw [jk];simp
def treeB (w:qR) (j:Nat):Bool:=bif decide (j=0) then (at0 w.Ak j==-1)&&(at0 w.Be j==0) else inI (at0 w.Ak j) 0 ((j:Int)-1)
def wireB (w:qR) (s:Int):Bool :=
 lenB w.Ak 1 8&&(((w.Be.length:Int)==(w.Ak.length:Int))&&(((w.Bd.length:Int)==(w.Ak.length:Int))&&(allN (treeB w) w.Ak.length &&
  ((w.Be.all fun x=>inI x 0 1000)&&((w.Bd.all fun x=>inI x 0 500)&&(((w.Av.length:Int)==s)&&(w.Av.all fun x=>inI x 0 ((w.Ak.length:Int)-1))))))))
theorem qoi {w:qR} (hl:w.Ak.length≤1048576) (hr:((w.Be.length:Int)==(w.Ak.length:Int))=true):Ev (fun n=>qfr n w) (allN (treeB w) w.Ak.length):=by
 rw [beq_iff_eq] at hr
 have hL:Ev (fun n=>qaZ w n 0) (bif allN (treeB w) w.Ak.length then .nxt (w.Ak.length:Int) else .ret false):=by
  refine qed ?_ (fun j hj X hX=>Ev.succ ?_)
  ·exact Ev.succ (by simp only [qaZ,qt (jf _),cond_false];exact .done)
  ·simp only [qaZ,qr hj,cond_true,qa5 hj,je,qdo,wS j,bne,qa0]
   unfold treeB
   by_cases h0:j=0
   ·subst h0
    rw [show idx w.Be (0:Int)=some (at0 w.Be 0) from qa5 (j:=0) (by omega)]
    simp only [je]
    refine Ev.tt (by simp) (Ev.okP fun _=>Ev.okP1 fun _=>Ev.ff (by simp) hX)
   ·have e1:decide (j=0)=false:=by simp;omega
    have e2:((j:Int)==0)=false:=by simp;omega
    have e3:decide ((j:Int) > 0)=true:=by simp;omega
    rw [e1,e2,e3,qbn (show j≤9223372036854775807 by omega)]
    simp only [cond_false,cond_true]
    exact Ev.okP1 fun _=>hX
 unfold qfr
 refine Ev.bind hL ?_
 cases allN (treeB w) w.Ak.length<;>exact .done
theorem qoI {w:qR} {s:Int} (h:qj7 w):Ev (fun n=>qhR n w s) (wireB w s):=by
 have hl:=h.Ak.len
 simp only [qhR,qaf,je,qdo,qbn (show w.Ak.length≤9223372036854775807 by omega)]
 unfold wireB
 rw [show inI (w.Ak.length:Int) 1 8=lenB w.Ak 1 8 from qk5 (lo:=1) (hi:=8)]
 exact Ev.andP fun _=>Ev.andP fun hr=>Ev.andP fun _=>Ev.and (qoi hl hr) fun _=>Ev.and (qd1 h.Be.len) fun _=>Ev.and (qd1 h.Bd.len) fun _=>Ev.andP fun _=>Ev.last (qd1 h.Av.len)
theorem qnt {w:qR} {s:Int} (h:qj7 w):Ev (fun n=>qhJ n w s) (wireB w s):=by
 have hl:=h.Ak.len
 have hsl:=h.Av.len
 have e:wireB w s=((decide (1≤w.Ak.length)&&(decide (w.Ak.length≤8)&&(((w.Be.length:Int)==(w.Ak.length:Int))&&(((w.Bd.length:Int)==(w.Ak.length:Int))&&((w.Av.length:Int)==s)))))&&(allN (fun j=>(inI (at0 w.Bd j) 0 500&&inI (at0 w.Be j) 0 1000)&&treeB w j) w.Ak.length&&(w.Av.all fun x=>inI x 0 ((w.Ak.length:Int)-1)))):=by
  unfold wireB lenB
  cases h1:((w.Be.length:Int)==(w.Ak.length:Int))
  ·simp
  ·cases h2:((w.Bd.length:Int)==(w.Ak.length:Int))
   ·simp
   ·rw [beq_iff_eq] at h1 h2
    rw [qhv,qhv]
    rw [qfy (p:=fun x=>inI x 0 1000) (d:=0),qfy (p:=fun x=>inI x 0 500) (d:=0),show w.Be.length=w.Ak.length by omega,show w.Bd.length=w.Ak.length by omega]
    show _=(_&&((allN (fun j=>inI (w.Bd.getD j 0) 0 500) _&&allN (fun j=>inI (w.Be.getD j 0) 0 1000) _&&_)&&_))
    generalize allN (fun j=>inI (w.Bd.getD j 0) 0 500) w.Ak.length=a1
    generalize allN (fun j=>inI (w.Be.getD j 0) 0 1000) w.Ak.length=a2
    generalize allN (fun j=>treeB w j) w.Ak.length=a3
    generalize ((w.Av.length:Int)==s)=a4
    generalize decide (1≤w.Ak.length)=a5
    generalize decide (w.Ak.length≤8)=a6
    generalize (w.Av.all fun x=>inI x 0 ((w.Ak.length:Int)-1))=a7
    cases a1<;>cases a2<;>cases a3<;>cases a4<;>cases a5<;>cases a6<;>rfl
 rw [e]
 unfold qhJ
 refine Ev.guardB ?_ fun hb=>?_
 ·rw [show decide ((w.Ak.length:Int)<1) = !decide (1≤w.Ak.length) from qoa (k:=1),show decide ((w.Ak.length:Int) > 8) = !decide (w.Ak.length≤8) from qiC (k:=8)]
  simp only [bne,qa0]
  exact Ev.orBP fun _=>Ev.orBP fun _=>Ev.orBP fun _=>Ev.orBP fun _=>.done
 ·simp only [jh,beq_iff_eq] at hb
  have hL1:Ev (fun n=>qbX w n 0) (bif allN (fun j=>(inI (at0 w.Bd j) 0 500&&inI (at0 w.Be j) 0 1000)&&treeB w j) w.Ak.length then .nxt (w.Ak.length:Int) else .ret false):=by
   refine qed ?_ (fun j hj X hX=>Ev.succ ?_)
   ·exact Ev.succ (by simp only [qbX,qt (jf _),cond_false];exact .done)
   ·simp only [qbX,qr hj,cond_true,qa5 hj,qa5 (show j<w.Bd.length by omega),qa5 (show j<w.Be.length by omega),je,qdx,wS j,bne,qa0]
    refine Ev.chkT (Ev.orBP fun _=>.done) fun _=>?_
    unfold treeB
    by_cases h0:j=0
    ·subst h0
     refine Ev.tt (by simp) (Ev.okP fun _=>Ev.okP1 fun _=>Ev.ff (by simp) hX)
    ·have e1:decide (j=0)=false:=by simp;omega
     have e2:((j:Int)==0)=false:=by simp;omega
     have e3:decide ((j:Int) > 0)=true:=by simp;omega
     rw [e1,e2,e3,qbn (show j≤9223372036854775807 by omega)]
     simp only [cond_false,cond_true]
     exact Ev.okP1 fun _=>hX
  have hL2:Ev (fun n=>qex w n 0) (bif (w.Av.all fun x=>inI x 0 ((w.Ak.length:Int)-1)) then .nxt (w.Av.length:Int) else .ret false) :=
   qi8 (fun n=>by simp only [qex,qt (jf _),cond_false]) (fun j hj X hX=>by
    simp only [qex,qr hj,cond_true,qaS hj,je,qdx,qbn (show w.Ak.length≤9223372036854775807 by omega),wS j,qa0]
    exact Ev.okP1 fun _=>hX)
  refine Ev.bind hL1 ?_
  cases allN (fun j=>(inI (at0 w.Bd j) 0 500&&inI (at0 w.Be j) 0 1000)&&treeB w j) w.Ak.length
  ·exact .done
  ·refine Ev.bind hL2 ?_
   cases (w.Av.all fun x=>inI x 0 ((w.Ak.length:Int)-1))<;>exact .done
instance:Inhabited Tplace:=⟨⟨0,0,0,false⟩⟩
instance:Inhabited Tl05Place:=⟨⟨0,0,0,false⟩⟩
def toSp (p:Tplace):Tl05Place:=⟨p.instance_,p.pin,p.net,p.drives⟩
def plX (i:Nat) (x:qw) (j:Nat):List Tplace:=(List.range j).map fun (k:Nat)=>⟨(i:Int),(k:Int),at0 x.Aj k,decide (k+1=x.Aj.length)⟩
def plI (d:qg) (j:Nat):List Tplace:=(List.range j).flatMap fun (i:Nat)=>plX i (gt d.Ab i) (gt d.Ab i).Aj.length
def plP (d:qg) (j:Nat):List Tplace:=(List.range j).map fun (i:Nat)=>⟨-1,(i:Int),(gt d.Af i).Bq,(gt d.Af i).Bn==1⟩
def places (d:qg):List Tplace:=plI d d.Ab.length++plP d d.Af.length
theorem qmK {i:Nat} {x:qw} {j:Nat}:plX i x (j+1)=plX i x j++[⟨(i:Int),(j:Int),at0 x.Aj j,decide (j+1=x.Aj.length)⟩]:=by
 unfold plX;rw [List.range_succ,List.map_append];rfl
theorem qiS {d:qg} {j:Nat}:plI d (j+1)=plI d j++plX j (gt d.Ab j) (gt d.Ab j).Aj.length:=by
 unfold plI;rw [List.range_succ,List.flatMap_append];simp
theorem qnh {d:qg} {j:Nat}:plP d (j+1)=plP d j++[⟨-1,(j:Int),(gt d.Af j).Bq,(gt d.Af j).Bn==1⟩]:=by
 unfold plP;rw [List.range_succ,List.map_append];rfl
theorem qk3 {i:Nat} {x:qw} {j:Nat}:(plX i x j).length=j:=by simp [plX]
theorem qk2 {d:qg} {j:Nat}:(plP d j).length=j:=by simp [plP]
structure smallD (d:qg):Prop where
 ni:d.Ab.length≤14
 nn:d.Aj.length≤30
 np:d.Af.length≤8
 nx:∀ i,i<d.Ab.length→2≤(gt d.Ab i).Aj.length∧(gt d.Ab i).Aj.length≤5
theorem qW {l:qq} {d:qg} (h:designB l d=true):smallD d:=by
 unfold designB hasNamesB libB at h
 simp only [jh,decide_eq_true_eq] at h
 obtain ⟨⟨⟨hc,_⟩,⟨h1,h2,h3⟩,_⟩,hI,_⟩:=h
 refine ⟨h1,h2,h3,fun i hi=>?_⟩
 rw [qgz,qaB] at hI hc
 have:=hI i hi
 unfold instB at this
 simp only [jh,qb3,beq_iff_eq] at this
 have h5:=qhy (qlc (hc (gt d.Ab i).Az.toNat (by omega)))
 omega
theorem qj8 {d:qg} (h:smallD d) {j:Nat} (hj:j≤d.Ab.length):(plI d j).length≤5*j:=by
 induction j with
 | zero=>exact jf _
 | succ j ih =>
  rw [qiS,jg,qk3]
  have:=ih (by omega)
  have:=h.nx j (by omega)
  omega
theorem qaG {d:qg} (h:smallD d):(places d).length≤78:=by
 unfold places
 rw [jg,qk2]
 have:=qj8 h (jf _)
 have:=h.ni
 have:=h.np
 omega
theorem qjk {d:qg} (h:smallD d):Ev (fun n=>qbP n d) (places d):=by
 have h1:=h.ni
 have h2:=h.np
 have hL2:∀ i,i<d.Ab.length→∀ pre:List Tplace,pre.length≤100→Ev (fun n=>qbk (i:Int) (gt d.Ab i) n pre 0) (pre++plX i (gt d.Ab i) (gt d.Ab i).Aj.length,((gt d.Ab i).Aj.length:Int)):=by
  intro i hi pre hp
  have h5:=h.nx i hi
  have:=loopF (Lf:=qbk (i:Int) (gt d.Ab i)) (S:=fun j=>pre++plX i (gt d.Ab i) j) (len:=(gt d.Ab i).Aj.length) (fin:=(pre++plX i (gt d.Ab i) (gt d.Ab i).Aj.length,((gt d.Ab i).Aj.length:Int))) (fun n=>by
    simp only [qbk,qt (jf _),cond_false])
   (fun j hj X hX=>by
    have hc:(pre++plX i (gt d.Ab i) j).length+[(⟨(i:Int),(j:Int),at0 (gt d.Ab i).Aj j,decide (j+1=(gt d.Ab i).Aj.length)⟩:Tplace)].length≤2147483648:=by
     rw [jg,qk3];simp;omega
    simp only [qbk,qr hj,cond_true,qa5 hj,je,lastE hj (show (gt d.Ab i).Aj.length≤1048576 by omega),qb8 hc,jO,←qmK,wS j]
    exact hX)
  simpa [plX] using this
 have hL1:Ev (fun n=>qbl d n ([]:List Tplace) 0) (plI d d.Ab.length,(d.Ab.length:Int)):=by
  refine loopF (Lf:=qbl d) (S:=fun j=>plI d j) (len:=d.Ab.length) (fun n=>?_) (fun j hj X hX=>?_)
  ·simp only [qbl,qt (jf _),cond_false]
  ·simp only [qbl,qr hj,cond_true,qae hj,je,wS j]
   refine Ev.bind (hL2 j hj _ (by have:=qj8 h (Nat.le_of_lt hj);omega)) ?_
   rw [←qiS]
   exact hX
 have hL3:Ev (fun n=>qbj d n (plI d d.Ab.length) 0) (places d,(d.Af.length:Int)):=by
  have:=loopF (Lf:=qbj d) (S:=fun j=>plI d d.Ab.length++plP d j) (len:=d.Af.length) (fin:=(places d,(d.Af.length:Int))) (fun n=>by
    simp only [qbj,qt (jf _),cond_false];rfl)
   (fun j hj X hX=>by
    have hc:(plI d d.Ab.length++plP d j).length+[(⟨-1,(j:Int),(gt d.Af j).Bq,(gt d.Af j).Bn==1⟩:Tplace)].length≤2147483648:=by
     rw [jg,qk2];have:=qj8 h (jf _);simp;omega
    simp only [qbj,qr hj,cond_true,qae hj,je,qb8 hc,jO,←qnh,wS j]
    exact hX)
  simpa [plP] using this
 unfold qbP
 exact Ev.bind hL1 (Ev.bind hL3 .done)
theorem qe9 {d:qg} (h:smallD d):Ev (fun n=>qcL n d) ((places d).map toSp):=by
 have h1:=h.ni
 have h2:=h.np
 have hL2:∀ i,i<d.Ab.length→∀ pre:List Tplace,pre.length≤100→Ev (fun n=>qb4 (i:Int) (gt d.Ab i) n (pre.map toSp) 0) ((pre++plX i (gt d.Ab i) (gt d.Ab i).Aj.length).map toSp,((gt d.Ab i).Aj.length:Int)):=by
  intro i hi pre hp
  have h5:=h.nx i hi
  have:=loopF (Lf:=qb4 (i:Int) (gt d.Ab i)) (S:=fun j=>(pre++plX i (gt d.Ab i) j).map toSp) (len:=(gt d.Ab i).Aj.length) (fin:=((pre++plX i (gt d.Ab i) (gt d.Ab i).Aj.length).map toSp,((gt d.Ab i).Aj.length:Int))) (fun n=>by
    simp only [qb4,qt (jf _),cond_false])
   (fun j hj X hX=>by
    have hc:((pre++plX i (gt d.Ab i) j).map toSp).length+[(⟨(i:Int),(j:Int),at0 (gt d.Ab i).Aj j,decide (j+1=(gt d.Ab i).Aj.length)⟩:Tl05Place)].length≤2147483648:=by
     rw [jB,jg,qk3];simp;omega
    simp only [qb4,qr hj,cond_true,qa5 hj,je,lastE hj (show (gt d.Ab i).Aj.length≤1048576 by omega),qb8 hc,wS j]
    rw [qmK,←jO,List.map_append] at hX
    exact hX)
  simpa [plX] using this
 have hL1:Ev (fun n=>qb6 d n ([]:List Tl05Place) 0) ((plI d d.Ab.length).map toSp,(d.Ab.length:Int)):=by
  refine loopF (Lf:=qb6 d) (S:=fun j=>(plI d j).map toSp) (len:=d.Ab.length) (fun n=>?_) (fun j hj X hX=>?_)
  ·simp only [qb6,qt (jf _),cond_false]
  ·simp only [qb6,qr hj,cond_true,qae hj,je,wS j]
   refine Ev.bind (hL2 j hj _ (by have:=qj8 h (Nat.le_of_lt hj);omega)) ?_
   rw [←qiS]
   exact hX
 have hL3:Ev (fun n=>qbZ d n ((plI d d.Ab.length).map toSp) 0) ((places d).map toSp,(d.Af.length:Int)):=by
  have:=loopF (Lf:=qbZ d) (S:=fun j=>(plI d d.Ab.length++plP d j).map toSp) (len:=d.Af.length) (fin:=((places d).map toSp,(d.Af.length:Int))) (fun n=>by
    simp only [qbZ,qt (jf _),cond_false];rfl)
   (fun j hj X hX=>by
    have hc:((plI d d.Ab.length++plP d j).map toSp).length+[(⟨-1,(j:Int),(gt d.Af j).Bq,(gt d.Af j).Bn==1⟩:Tl05Place)].length≤2147483648:=by
     rw [jB,jg,qk2];have:=qj8 h (jf _);simp;omega
    simp only [qbZ,qr hj,cond_true,qae hj,je,qb8 hc,wS j]
    rw [qnh,←jO,List.map_append] at hX
    exact hX)
  simpa [plP] using this
 unfold qcL
 exact Ev.bind hL1 (Ev.bind hL3 .done)
def snkQ (d:qg) (k:Int) (i:Nat):Bool:=((gt (places d) i).net==k)&&!(gt (places d) i).drives
def sinksL (d:qg) (k:Int) (j:Nat):List Int:=((List.range j).filter (snkQ d k)).map fun (i:Nat)=>(i:Int)
def snkN (d:qg) (k:Int):Nat:=cntP (snkQ d k) (places d).length
theorem qhQ {d:qg} {k:Int} {j:Nat}:sinksL d k (j+1)=sinksL d k j++(bif snkQ d k j then [(j:Int)] else []):=by
 unfold sinksL
 rw [List.range_succ,List.filter_append,List.map_append]
 congr 1
 cases h:snkQ d k j<;>simp [h]
theorem qeF {d:qg} {k:Int} {j:Nat}:(sinksL d k j).length=cntP (snkQ d k) j:=by
 induction j with
 | zero=>rfl
 | succ j ih =>
  rw [qhQ,jg,ih]
  show _=cntP (snkQ d k) j+_
  congr 1
  cases snkQ d k j<;>rfl
theorem qkH {α β:Type} [Inhabited α] [Inhabited β] {xs:List α} {g:α→β} {j:Nat} (h:j<xs.length):gt (xs.map g) j=g (gt xs j):=by
 rw [qg8 (by simpa using h),qg8 h];simp
theorem qiO {d:qg} {k:Int} (h:smallD d):Ev (fun n=>qeQ n d k) (sinksL d k (places d).length):=by
 have hl:=qaG h
 have hL:Ev (fun n=>qbU k ((places d).map toSp) n ([]:List Int) 0) (sinksL d k (places d).length,((places d).length:Int)):=by
  refine loopF (Lf:=qbU k ((places d).map toSp)) (S:=fun j=>sinksL d k j) (len:=(places d).length) (fun n=>?_) (fun j hj X hX=>?_)
  ·simp only [qbU,jB,qt (jf _),cond_false]
  ·have hj':j<((places d).map toSp).length:=by simpa using hj
   have hc:(sinksL d k j).length+[(j:Int)].length≤2147483648:=by
    rw [qeF]
    have:cntP (snkQ d k) j≤j:=qdV
    simp;omega
   simp only [qbU,qr hj',cond_true,qae hj',qkH hj,je,wS j]
   rw [show ∀ p:Tplace,(toSp p).net=p.net from fun _=>rfl,show ∀ p:Tplace,(toSp p).drives=p.drives from fun _=>rfl]
   refine Ev.bind (b:=snkQ d k j) (Ev.andP fun _=>.done) ?_
   rw [qhQ] at hX
   cases hq:snkQ d k j
   ·rw [hq] at hX
    simp only [cond_false,jL] at hX ⊢
    exact hX
   ·rw [hq] at hX
    simp only [cond_true,qb8 hc,je] at hX ⊢
    exact hX
 unfold qeQ
 exact Ev.bind (qe9 h) (Ev.bind hL .done)
theorem qiy {l:qq} {d:qg} (h:designB l d=true) {i:Nat} (hi:i<(places d).length):0≤(gt (places d) i).net∧(gt (places d) i).net<d.Aj.length:=by
 unfold designB at h
 simp only [jh] at h
 obtain ⟨_,hI,hP,_⟩:=h
 rw [qgz,qaB] at hI hP
 have hm:gt (places d) i ∈ places d:=by rw [qg8 hi];exact jq hi
 generalize gt (places d) i=p at hm
 unfold places at hm
 rcases List.mem_append.1 hm with hm|hm
 ·unfold plI at hm
  obtain ⟨i,hi,hm⟩:=List.mem_flatMap.1 hm
  unfold plX at hm
  obtain ⟨k,hk,rfl⟩:=List.mem_map.1 hm
  have:=hI i (List.mem_range.1 hi)
  unfold instB at this
  simp only [jh] at this
  have h3:=this.2.2
  rw [qfy (d:=0),qaB] at h3
  have h4:=h3 k (List.mem_range.1 hk)
  unfold netB at h4
  rw [qb3] at h4
  show 0≤at0 _ _∧at0 _ _<_
  unfold at0
  omega
 ·unfold plP at hm
  obtain ⟨i,hi,rfl⟩:=List.mem_map.1 hm
  have:=hP i (List.mem_range.1 hi)
  unfold portB netB at this
  simp only [jh,qb3] at this
  show 0≤(gt d.Af i).Bq∧(gt d.Af i).Bq<_
  omega
def blockB (b:qc):Bool:=(designB b.Ac b.Aa&&((b.Ah.length:Int)==(b.Aa.Aj.length:Int)))&&allN (fun j=>wireB (gt b.Ah j) (snkN b.Aa (j:Int))) b.Ah.length
theorem qjH {b:qc} (h:qct b):Ev (fun n=>qf9 n b) (blockB b):=by
 have hwl:=h.Ah.len
 unfold qf9 blockB
 refine Ev.guardB (Ev.or (qnp h.Ac h.Aa) fun _=>.done) fun hb=>?_
 rw [jh,beq_iff_eq] at hb
 obtain ⟨hd,hw⟩:=hb
 have hs:=qW hd
 have hl:=qaG hs
 have hn:=hs.nn
 rw [qjl (m:=b.Ah.length) (by omega)]
 simp only [je]
 have hL1:Ev (fun n=>qcm (places b.Aa) n (vecC (fun _=>0) b.Ah.length) 0) (vecC (fun k=>snkN b.Aa (k:Int)) b.Ah.length,((places b.Aa).length:Int)):=by
  refine loopF (Lf:=qcm (places b.Aa)) (S:=fun j=>vecC (fun k=>cntP (snkQ b.Aa (k:Int)) j) b.Ah.length) (len:=(places b.Aa).length) (fun n=>?_) (fun j hj X hX=>?_)
  ·simp only [qcm,qt (jf _),cond_false];rfl
  ·simp only [qcm,qr hj,cond_true,qae hj,je,wS j]
   obtain ⟨n0,n1⟩:=qiy hd hj
   cases h1:(gt (places b.Aa) j).drives
   ·have hc:cntP (snkQ b.Aa (((gt (places b.Aa) j).net.toNat:Nat):Int)) j≤j:=qdV
    obtain ⟨e1,e2⟩:=qii (c:=fun k=>cntP (snkQ b.Aa (k:Int)) j) (c':=fun k=>cntP (snkQ b.Aa (k:Int)) (j+1)) (x:=(gt (places b.Aa) j).net) (m:=b.Ah.length) n0 (by omega) (by show cntP _ _<_;omega) (fun k _=>by
     show cntP _ j+(bif snkQ b.Aa (k:Int) j then 1 else 0)=_
     unfold snkQ
     rw [h1,Bool.not_false,Bool.and_true])
    simp only [Bool.not_false,cond_true,je,e1,e2]
    exact hX
   ·have:vecC (fun k=>cntP (snkQ b.Aa (k:Int)) (j+1)) b.Ah.length=vecC (fun k=>cntP (snkQ b.Aa (k:Int)) j) b.Ah.length:=by
     refine qhA (fun k _=>?_)
     show cntP _ j+(bif snkQ b.Aa (k:Int) j then 1 else 0)=_
     unfold snkQ
     rw [h1,jT,Bool.and_false];rfl
    rw [this] at hX
    exact hX
 have hL2:Ev (fun n=>qdO b (vecC (fun k=>snkN b.Aa (k:Int)) b.Ah.length) n 0) (bif allN (fun j=>wireB (gt b.Ah j) (snkN b.Aa (j:Int))) b.Ah.length then .nxt (b.Ah.length:Int) else .ret false):=by
  refine qed ?_ (fun j hj X hX=>Ev.succ ?_)
  ·exact Ev.succ (by simp only [qdO,qt (jf _),cond_false];exact .done)
  ·simp only [qdO,qr hj,cond_true,qae hj,qhz hj,je,wS j]
   exact Ev.chk1 (qoI (qhx h.Ah hj)) fun _=>hX
 refine Ev.bind (qjk hs) (Ev.bind hL1 (Ev.bind hL2 ?_))
 cases allN (fun j=>wireB (gt b.Ah j) (snkN b.Aa (j:Int))) b.Ah.length<;>exact .done
theorem qhI {b:qc} (h:qct b):Ev (fun n=>qeH n b) (blockB b):=by
 have hwl:=h.Ah.len
 unfold qeH blockB
 refine Ev.guardB (Ev.or (qj9 h.Ac h.Aa) fun _=>.done) fun hb=>?_
 rw [jh] at hb
 have hs:=qW hb.1
 have hL:Ev (fun n=>qdN b n 0) (bif allN (fun j=>wireB (gt b.Ah j) (snkN b.Aa (j:Int))) b.Ah.length then .nxt (b.Ah.length:Int) else .ret false):=by
  refine qed ?_ (fun j hj X hX=>Ev.succ ?_)
  ·exact Ev.succ (by simp only [qdN,qt (jf _),cond_false];exact .done)
  ·simp only [qdN,qr hj,cond_true,qae hj,je,wS j]
   refine Ev.bind (qiO hs) ?_
   rw [qeF]
   exact Ev.chk1 (qnt (qhx h.Ah hj)) fun _=>hX
 refine Ev.bind hL ?_
 cases allN (fun j=>wireB (gt b.Ah j) (snkN b.Aa (j:Int))) b.Ah.length<;>exact .done
end Go.Fw


namespace Go.Fw
open Go
set_option maxRecDepth 100000
def off (d:qg) (i:Nat):Nat:=(plI d i).length
def place1 (d:qg) (i k:Nat):Tplace:=⟨(i:Int),(k:Int),at0 (gt d.Ab i).Aj k,decide (k+1=(gt d.Ab i).Aj.length)⟩
def place2 (d:qg) (i:Nat):Tplace:=⟨-1,(i:Int),(gt d.Af i).Bq,(gt d.Af i).Bn==1⟩
theorem qj6 {d:qg} {i:Nat}:off d (i+1)=off d i+(gt d.Ab i).Aj.length:=by
 unfold off;rw [qiS,jg,qk3]
theorem qhP {d:qg}:(places d).length=off d d.Ab.length+d.Af.length:=by
 unfold places off;rw [jg,qk2]
theorem qqb {d:qg} {n i k:Nat} (hi:i<n) (hk:k<(gt d.Ab i).Aj.length):off d i+k<off d n∧gt (plI d n) (off d i+k)=place1 d i k:=by
 induction n with
 | zero=>omega
 | succ n ih =>
  rw [qiS,qkC]
  rcases Nat.lt_succ_iff_lt_or_eq.1 hi with h|rfl
  ·obtain ⟨h1,h2⟩:=ih h
   refine ⟨by rw [qj6];omega,?_⟩
   rw [if_pos (show off d i+k<(plI d n).length from h1),h2]
  ·refine ⟨by rw [qj6];omega,?_⟩
   rw [if_neg (by unfold off;omega),show off d i+k-(plI d i).length=k by unfold off;omega]
   exact qns hk
theorem qik {d:qg} {i k:Nat} (hi:i<d.Ab.length) (hk:k<(gt d.Ab i).Aj.length):off d i+k<(places d).length∧gt (places d) (off d i+k)=place1 d i k:=by
 obtain ⟨h1,h2⟩:=qqb hi hk
 refine ⟨by rw [qhP];omega,?_⟩
 unfold places
 rw [qkC,if_pos (show off d i+k<(plI d d.Ab.length).length from h1),h2]
theorem qmi {d:qg} {i:Nat} (hi:i<d.Af.length):off d d.Ab.length+i<(places d).length∧gt (places d) (off d d.Ab.length+i)=place2 d i:=by
 refine ⟨by rw [qhP];omega,?_⟩
 unfold places
 rw [qkC,if_neg (by unfold off;omega),show off d d.Ab.length+i-(plI d d.Ab.length).length=i by unfold off;omega]
 exact qns hi
theorem qoh {d:qg} {n j:Nat} (hj:j<off d n):∃ i k,i<n∧k<(gt d.Ab i).Aj.length∧j=off d i+k:=by
 induction n with
 | zero=>exact absurd hj (Nat.not_lt_zero _)
 | succ n ih =>
  by_cases h:j<off d n
  ·obtain ⟨i,k,h1,h2,h3⟩:=ih h
   exact ⟨i,k,by omega,h2,h3⟩
  ·rw [qj6] at hj
   exact ⟨n,j-off d n,by omega,by omega,by omega⟩
theorem qeA {d:qg} {j:Nat} (hj:j<(places d).length) :
  (∃ i k,i<d.Ab.length∧k<(gt d.Ab i).Aj.length∧j=off d i+k∧gt (places d) j=place1 d i k) ∨
  (∃ i,i<d.Af.length∧j=off d d.Ab.length+i∧gt (places d) j=place2 d i):=by
 rw [qhP] at hj
 by_cases h:j<off d d.Ab.length
 ·obtain ⟨i,k,h1,h2,rfl⟩:=qoh h
  exact .inl ⟨i,k,h1,h2,rfl,(qik h1 h2).2⟩
 ·refine .inr ⟨j-off d d.Ab.length,by omega,by omega,?_⟩
  have:=(qmi (d:=d) (i:=j-off d d.Ab.length) (by omega)).2
  rwa [show off d d.Ab.length+(j-off d d.Ab.length)=j by omega] at this
def drvQ (d:qg) (k:Int) (j:Nat):Bool:=((gt (places d) j).net==k)&&(gt (places d) j).drives
theorem qmO {q:Nat→Bool} {m n:Nat}:cntP q (m+n)=cntP q m+cntP (fun j=>q (m+j)) n:=by
 induction n with
 | zero=>rfl
 | succ n ih =>
  show cntP q (m+n)+(bif q (m+n) then 1 else 0)=cntP q m+(cntP (fun j=>q (m+j)) n+(bif q (m+n) then 1 else 0))
  rw [ih];omega
theorem qot {q:Nat→Bool} {n:Nat} {b:Bool} (h:1≤n) (h1:∀ j,j+1<n→q j=false) (h2:q (n-1)=b):cntP q n=bif b then 1 else 0:=by
 obtain ⟨m,rfl⟩:∃ m,n=m+1:=⟨n-1,by omega⟩
 show cntP q m+(bif q m then 1 else 0)=_
 rw [qkE.2 (fun j hj=>h1 j (by omega)),show m=m+1-1 by omega,h2,jS]
theorem qnP {d:qg} {k:Nat} (hs:smallD d):cntP (drvQ d (k:Int)) (places d).length=drvI d k d.Ab.length+drvP d k d.Af.length:=by
 rw [qhP,qmO]
 congr 1
 ·have:∀ n,n≤d.Ab.length→cntP (drvQ d (k:Int)) (off d n)=drvI d k n:=by
   intro n
   induction n with
   | zero=>intro _;rfl
   | succ n ih =>
    intro hn
    rw [qj6,qmO,ih (by omega),qkn]
    congr 1
    have h2:=(hs.nx n (by omega)).1
    refine qot (by omega) (fun j hj=>?_) ?_
    ·show drvQ d _ (off d n+j)=false
     unfold drvQ
     rw [(qik (by omega) (by omega)).2]
     unfold place1
     simp;omega
    ·show drvQ d _ (off d n+_)=_
     unfold drvQ
     rw [(qik (by omega) (by omega)).2]
     unfold place1 lastN
     simp;omega
  exact this _ (jf _)
 ·refine qnN (fun j hj=>?_)
  show drvQ d _ (off d _+j)=_
  unfold drvQ
  rw [(qmi hj).2]
  unfold place2
  exact Bool.and_comm _ _
theorem qn9 {l:qq} {d:qg} (h:designB l d=true) {k:Nat} (hk:k<d.Aj.length):cntP (drvQ d (k:Int)) (places d).length=1:=by
 rw [qnP (qW h)]
 unfold designB drvB at h
 simp only [jh] at h
 have:=qaB.1 h.2.2.2 k hk
 rw [beq_iff_eq] at this
 omega
theorem qne {l:qq} {d:qg} (h:designB l d=true) {i j:Nat} (hi:i<(places d).length) (hj:j<(places d).length) (he:(gt (places d) i).net=(gt (places d) j).net) (h1:(gt (places d) i).drives=true) (h2:(gt (places d) j).drives=true):i=j:=by
 obtain ⟨n0,n1⟩:=qiy h hi
 have e:=qjD n0
 have:=qn9 h (k:=(gt (places d) i).net.toNat) (by omega)
 refine qm7 (Nat.le_of_eq this) hi hj ?_ ?_
 ·unfold drvQ;rw [←e,h1];simp
 ·unfold drvQ;rw [←e,h2,he];simp
theorem qqo {l:qq} {d:qg} (h:designB l d=true) {k:Int} (h0:0≤k) (h1:k<d.Aj.length):∃ j,j<(places d).length∧(gt (places d) j).net=k∧(gt (places d) j).drives=true:=by
 have e:=qjD h0
 have:=qn9 h (k:=k.toNat) (by omega)
 have hp:decide (0<cntP (drvQ d ((k.toNat:Nat):Int)) (places d).length)=true:=by rw [this];rfl
 rw [qmY,jD,qiq] at hp
 obtain ⟨j,hj,hq⟩:=hp
 rw [Bool.not_eq_false',←e] at hq
 unfold drvQ at hq
 simp only [jh,beq_iff_eq] at hq
 exact ⟨j,hj,hq.1,hq.2⟩
def cellAt (b:qc) (i:Int):qv:=gt b.Ac.Ai (gt b.Aa.Ab i.toNat).Az.toNat
theorem qgw {l:qq} {d:qg} (h:designB l d=true) {i:Nat} (hi:i<d.Ab.length) :
  (0≤(gt d.Ab i).Az∧(gt d.Ab i).Az<l.Ai.length)∧(gt d.Ab i).Aj.length=(gt l.Ai (gt d.Ab i).Az.toNat).Ap.length∧cellB (gt l.Ai (gt d.Ab i).Az.toNat)=true:=by
 unfold designB libB at h
 simp only [jh] at h
 obtain ⟨⟨⟨hc,_⟩,_⟩,hI,_⟩:=h
 rw [qgz,qaB] at hI hc
 have:=hI i hi
 unfold instB at this
 simp only [jh,qb3,beq_iff_eq] at this
 exact ⟨⟨this.1.1,by omega⟩,by omega,hc _ (by omega)⟩
theorem qnm {c:qv} (h:cellB c=true) {j:Nat} (hj:j<c.Aq.length):(1≤(gt c.Aq j).Ar∧(gt c.Aq j).Ar≤5)∧(0≤(gt c.Aq j).As∧(gt c.Aq j).As<(c.Ap.length:Int)-1)∧(0≤(gt c.Aq j).To∧(gt c.Aq j).To≤(c.Ap.length:Int)-1)∧arcS c.Ap (gt c.Aq j)=true:=by
 unfold cellB at h
 simp only [jh] at h
 obtain ⟨_,hp,⟨ha,_⟩,_,_,hk⟩:=h
 have:=qaB.1 ha j hj
 rw [jh,qo1 hp (ql8 hk)] at this
 have h1:=this.1
 refine ⟨qmf h1,?_⟩
 have h2:=h1
 unfold arcS at h2
 simp only [jh,qb3] at h2
 refine ⟨⟨h2.1.1.1,by omega⟩,h2.1.2,h1⟩
theorem qjG {c:qv} (h:cellB c=true):c.Aq.length≤8:=by
 unfold cellB at h
 simp only [jh,decide_eq_true_eq] at h
 exact h.2.2.1.2
theorem qav {b:qc} (h:blockB b=true):designB b.Ac b.Aa=true:=by
 unfold blockB at h;simp only [jh] at h;exact h.1.1
end Go.Fw


namespace Go.Fw
open Go
set_option maxRecDepth 100000
theorem ql7 {d:qg} {k:Int} {n i:Nat} (hi:i<(sinksL d k n).length):∃ y:Nat,y<n∧idx (sinksL d k n) (i:Int)=some (y:Int)∧snkQ d k y=true:=by
 rw [qaS hi]
 have hm:(sinksL d k n)[i] ∈ sinksL d k n:=jq hi
 generalize (sinksL d k n)[i]=z at hm
 unfold sinksL at hm
 obtain ⟨y,hy,rfl⟩:=List.mem_map.1 hm
 obtain ⟨h1,h2⟩:=List.mem_filter.1 hy
 exact ⟨y,List.mem_range.1 h1,rfl,h2⟩
theorem qlQ {d:qg} {k:Int} (h:smallD d):Ev (fun n=>qeW n d k) (sinksL d k (places d).length):=by
 have hl:=qaG h
 have hL:Ev (fun n=>qaN k (places d) n ([]:List Int) 0) (sinksL d k (places d).length,((places d).length:Int)):=by
  refine loopF (Lf:=qaN k (places d)) (S:=fun j=>sinksL d k j) (len:=(places d).length) (fun n=>?_) (fun j hj X hX=>?_)
  ·simp only [qaN,qt (jf _),cond_false]
  ·have hc:(sinksL d k j).length+[(j:Int)].length≤2147483648:=by
    rw [qeF]
    have:cntP (snkQ d k) j≤j:=qdV
    simp;omega
   simp only [qaN,qr hj,cond_true,qae hj,je,wS j]
   rw [qhQ] at hX
   unfold snkQ at hX
   cases h1:((gt (places d) j).net==k)
   ·rw [h1] at hX
    simp only [Bool.false_and,cond_false,jL] at hX ⊢
    exact hX
   ·cases h2:(gt (places d) j).drives
    ·rw [h1,h2] at hX
     simp only [Bool.not_false,Bool.and_self,cond_true,qb8 hc,je] at hX ⊢
     exact hX
    ·rw [h1,h2] at hX
     simp only [jT,Bool.and_false,cond_false,jL,cond_true] at hX ⊢
     exact hX
 unfold qeW
 exact Ev.bind (qjk h) (Ev.bind hL .done)
structure wireOk (b:qc) (i:Nat):Prop where
 lo:1≤(gt b.Ah i).Ak.length
 hi:(gt b.Ah i).Ak.length≤8
 res:(gt b.Ah i).Be.length=(gt b.Ah i).Ak.length
 cap:(gt b.Ah i).Bd.length=(gt b.Ah i).Ak.length
 par:∀ j,0<j→j<(gt b.Ah i).Ak.length→0≤at0 (gt b.Ah i).Ak j∧at0 (gt b.Ah i).Ak j<j
 snk:(gt b.Ah i).Av.length=(sinksL b.Aa (i:Int) (places b.Aa).length).length
 sin:∀ j,j<(gt b.Ah i).Av.length→0≤at0 (gt b.Ah i).Av j∧at0 (gt b.Ah i).Av j<(gt b.Ah i).Ak.length
theorem qiV {b:qc} (h:blockB b=true) {i:Nat} (hi:i<b.Ah.length):wireOk b i:=by
 unfold blockB at h
 rw [jh,qaB] at h
 have:=h.2 i hi
 unfold wireB lenB at this
 simp only [jh,decide_eq_true_eq,beq_iff_eq] at this
 obtain ⟨⟨h1,h2⟩,h3,h4,h5,_,_,h6,h7⟩:=this
 refine ⟨h1,h2,by omega,by omega,fun j hj0 hj=>?_,?_,fun j hj=>?_⟩
 ·have:=qaB.1 h5 j hj
  unfold treeB at this
  rw [show decide (j=0)=false by simp;omega] at this
  simp only [cond_false,qb3] at this
  omega
 ·rw [qeF]
  unfold snkN at h6
  omega
 ·rw [qfy (d:=0),qaB] at h7
  have:=h7 j hj
  rw [qb3] at this
  unfold at0
  omega
theorem qnK {b:qc} (h:blockB b=true):b.Ah.length=b.Aa.Aj.length:=by
 unfold blockB at h
 simp only [jh,beq_iff_eq] at h
 omega
theorem qo5 {b:qc} (h:blockB b=true) {j:Nat} (hj:j<(places b.Aa).length):∃ c,∀ n,qe0 n b.Aa b.Ac (gt (places b.Aa) j)=some c:=by
 have hd:=qav h
 rcases qeA hj with ⟨i,k,hi,hk,_,e⟩|⟨i,hi,_,e⟩
 ·rw [e]
  obtain ⟨⟨c0,c1⟩,hn,_⟩:=qgw hd hi
  refine ⟨(gt (gt b.Ac.Ai (gt b.Aa.Ab i).Az.toNat).Ap k).Bd,fun n=>?_⟩
  unfold place1
  simp only [qe0,show decide ((i:Int)<0)=false by simp,cond_false,qae hi,je,qe4 c0 c1,qae (show k<(gt b.Ac.Ai (gt b.Aa.Ab i).Az.toNat).Ap.length by omega)]
 ·rw [e]
  exact ⟨0,fun n=>rfl⟩
theorem qjY {b:qc} (h:blockB b=true) {i:Nat} (hi:i<b.Ah.length):∃ r:List Int,r.length=(gt b.Ah i).Ak.length∧Ev (fun n=>qcJ n b (i:Int)) r:=by
 have hw:=qiV h hi
 have hs:=qW (qav h)
 have hlo:=hw.lo
 have hhi:=hw.hi
 have hcap:=hw.cap
 have hl:=qaG hs
 obtain ⟨x1,i1,e1⟩:=loopE (Lf:=qbv b (gt b.Ah i) (places b.Aa) (sinksL b.Aa (i:Int) (places b.Aa).length)) (fin:=fun t=>(t,((sinksL b.Aa (i:Int) (places b.Aa).length).length:Int))) (fun _ t=>t.length=(gt b.Ah i).Ak.length) (len:=(sinksL b.Aa (i:Int) (places b.Aa).length).length)
  (fun n t=>by simp only [qbv,qt (jf _),cond_false])
  (fun j t hj ht=>by
   obtain ⟨y,hy,ey,_⟩:=ql7 hj
   obtain ⟨c,hc⟩:=qo5 h hy
   have hjs:j<(gt b.Ah i).Av.length:=by rw [hw.snk];exact hj
   have hsn:=hw.sin j hjs
   have hb:j<9223372036854775807:=by
    rw [qeF] at hj
    have:cntP (snkQ b.Aa (i:Int)) (places b.Aa).length≤(places b.Aa).length:=qdV
    omega
   refine ⟨setS t (at0 (gt b.Ah i).Av j) (W64 (gt t (at0 (gt b.Ah i).Av j).toNat+c)),by rw [qcI];exact ht,fun X hX=>?_⟩
   simp only [qbv,qr hj,cond_true,ey,je,qa5 hjs,qe4 hsn.1 (show at0 (gt b.Ah i).Av j<(t.length:Int) by omega),qae hy,qhZ hb]
   exact Ev.bind ⟨0,fun n _=>hc n⟩ hX) 0 (jw _) (gt b.Ah i).Bd hcap
 obtain ⟨x2,i2,e2⟩:=loopDn (Lf:=qbs (gt b.Ah i)) (fin:=fun t=>(t,(0:Int))) (fun t=>t.length=(gt b.Ah i).Ak.length) ((gt b.Ah i).Ak.length-1)
  (fun n t=>by simp only [qbs,show decide ((0:Int) > 0)=false from rfl,cond_false])
  (fun j t h0 hj ht=>by
   have hp:=hw.par j h0 (by omega)
   refine ⟨setS t (at0 (gt b.Ah i).Ak j) (W64 (gt t (at0 (gt b.Ah i).Ak j).toNat+gt t j)),by rw [qcI];exact ht,fun X hX=>?_⟩
   simp only [qbs,show decide ((j:Int) > 0)=true by simp;omega,cond_true,qa5 (show j<(gt b.Ah i).Ak.length by omega),je,qe4 hp.1 (show at0 (gt b.Ah i).Ak j<(t.length:Int) by omega),qae (show j<t.length by omega),show (j:Int)-1=((j-1:Nat):Int) by omega,qaT (show -9223372036854775808≤((j-1:Nat):Int) by omega) (by omega)]
   exact hX) x1 i1
 refine ⟨x2,i2,?_⟩
 unfold qcJ qfT
 rw [qae hi]
 simp only [je,qb8 (show ([]:List Int).length+(gt b.Ah i).Bd.length≤2147483648 by simp;omega),List.nil_append]
 refine Ev.bind (qjk hs) (Ev.bind (qlQ hs) (Ev.bind e1 ?_))
 rw [qbn (show (gt b.Ah i).Bd.length≤9223372036854775807 by omega),show ((gt b.Ah i).Bd.length:Int)-1=(((gt b.Ah i).Ak.length-1:Nat):Int) by omega]
 exact Ev.bind e2 .done
theorem qln {b:qc} (h:blockB b=true) {i:Nat} (hi:i<b.Ah.length):∃ r:List Int,r.length=(gt b.Ah i).Av.length∧Ev (fun n=>qc8 n b (i:Int)) r:=by
 have hw:=qiV h hi
 have hs:=qW (qav h)
 have hlo:=hw.lo
 have hhi:=hw.hi
 have hres:=hw.res
 have hl:=qaG hs
 have hsl:(gt b.Ah i).Av.length≤78:=by
  rw [hw.snk,qeF]
  have:cntP (snkQ b.Aa (i:Int)) (places b.Aa).length≤(places b.Aa).length:=qdV
  omega
 obtain ⟨r1,l1,e1⟩:=qjY h hi
 have hmk:mkS (r1.length:Int) (0:Int)=some (List.replicate r1.length 0):=qpt (by omega)
 obtain ⟨x2,i2,e2⟩:=loopE (Lf:=qbg (gt b.Ah i) r1 (List.replicate r1.length 0)) (fin:=fun t=>(t,(r1.length:Int))) (fun j t=>1≤j∧t.length=(gt b.Ah i).Ak.length) (len:=r1.length)
  (fun n t=>by simp only [qbg,List.length_replicate,qt (jf _),cond_false])
  (fun j t hj ht=>by
   obtain ⟨h1,ht⟩:=ht
   have hp:=hw.par j (by omega) (by omega)
   refine ⟨setS t (j:Int) (W64 (gt t (at0 (gt b.Ah i).Ak j).toNat+W64 (at0 (gt b.Ah i).Be j*gt r1 j))),⟨by omega,by rw [qcI];exact ht⟩,fun X hX=>?_⟩
   simp only [qbg,List.length_replicate,qr hj,cond_true,qa5 (show j<(gt b.Ah i).Ak.length by omega),je,qe4 hp.1 (show at0 (gt b.Ah i).Ak j<(t.length:Int) by omega),qa5 (show j<(gt b.Ah i).Be.length by omega),qae hj,qae (show j<t.length by omega),wS j]
   exact hX) 1 (by omega) (List.replicate r1.length 0) ⟨jf _,by rw [List.length_replicate];exact l1⟩
 obtain ⟨x3,i3,e3⟩:=loopE (Lf:=qa8 x2 (gt b.Ah i)) (fin:=fun t=>(t,((gt b.Ah i).Av.length:Int))) (fun j t=>t.length=j) (len:=(gt b.Ah i).Av.length)
  (fun n t=>by simp only [qa8,qt (jf _),cond_false])
  (fun j t hj ht=>by
   have hsn:=hw.sin j hj
   have hx2:=i2.2
   refine ⟨t++[gt x2 (at0 (gt b.Ah i).Av j).toNat],by simp [ht],fun X hX=>?_⟩
   simp only [qa8,qr hj,cond_true,qa5 hj,je,qe4 hsn.1 (show at0 (gt b.Ah i).Av j<(x2.length:Int) by omega),qb8 (show t.length+[gt x2 (at0 (gt b.Ah i).Av j).toNat].length≤2147483648 by simp;omega),wS j]
   exact hX) 0 (jw _) [] rfl
 refine ⟨x3,i3,?_⟩
 unfold qc8 qeS
 rw [qae hi]
 simp only [je]
 refine Ev.bind (b:=x2) (Ev.bind e1 ?_) (Ev.bind e3 .done)
 rw [hmk]
 simp only [je]
 exact Ev.bind e2 .done
end Go.Fw


namespace Go.Fw
open Go
set_option maxRecDepth 100000
instance:Inhabited qa3:=⟨⟨0,0,0,0⟩⟩
instance:Inhabited qP:=⟨⟨0,0⟩⟩
theorem qmA {α:Type} {m:Nat} {z:α} (h:m≤2147483648):mkS (m:Int) z=some (List.replicate m z):=by
 unfold mkS big
 rw [if_pos ⟨by omega,by omega⟩,jA]
theorem qoF {α:Type} [Inhabited α] {xs:List α} {a k:Nat} {y:α} (h:k ≠ a):gt (xs.set a y) k=gt xs k:=by
 unfold gt
 rw [jy,List.getElem?_set_ne (by omega),←jy]
theorem qni {α:Type} [Inhabited α] {xs:List α} {a:Nat} {y:α} (h:a<xs.length):gt (xs.set a y) a=y:=by
 rw [qg8 (by rw [List.length_set];exact h),List.getElem_set_self]
theorem qpg {a:qag}:∃ r:List qP,r.length≤4∧∀ n,qdS n a=some r:=by
 unfold qdS
 simp only [bne,qa0]
 cases (a.Ar==2)
 ·cases (a.Ar==3)
  ·cases (a.Ar==1)
   ·exact ⟨_,by decide,fun _=>rfl⟩
   ·cases (a.Bi==1)
    ·cases (a.Bi==2)
     ·exact ⟨[⟨0,0⟩,⟨0,1⟩,⟨1,0⟩,⟨1,1⟩],by decide,fun _=>rfl⟩
     ·exact ⟨[⟨0,1⟩,⟨1,0⟩],by decide,fun _=>rfl⟩
    ·exact ⟨[⟨0,0⟩,⟨1,1⟩],by decide,fun _=>rfl⟩
  ·exact ⟨[⟨1,0⟩,⟨1,1⟩],by decide,fun _=>rfl⟩
 ·exact ⟨[⟨0,0⟩,⟨0,1⟩],by decide,fun _=>rfl⟩
theorem qmo {b:qc} {first:Int} (h:blockB b=true) {i:Nat} (hi:i<b.Aa.Ab.length):∃ r:List qa3,r.length≤32∧Ev (fun n=>qdW n b (gt b.Aa.Ab i) first) r:=by
 obtain ⟨⟨c0,c1⟩,_,hcb⟩:=qgw (qav h) hi
 have ha:=qjG hcb
 obtain ⟨x1,i1,e1⟩:=loopE (Lf:=qbr first (gt b.Ac.Ai (gt b.Aa.Ab i).Az.toNat)) (fin:=fun t=>(t,((gt b.Ac.Ai (gt b.Aa.Ab i).Az.toNat).Aq.length:Int))) (fun j t=>t.length≤4*j) (len:=(gt b.Ac.Ai (gt b.Aa.Ab i).Az.toNat).Aq.length)
  (fun n t=>by simp only [qbr,qt (jf _),cond_false])
  (fun j t hj ht=>by
   obtain ⟨r,hr,er⟩:=qpg (a:=gt (gt b.Ac.Ai (gt b.Aa.Ab i).Az.toNat).Aq j)
   obtain ⟨x2,i2,e2⟩:=loopE (Lf:=qbt first (j:Int) (gt (gt b.Ac.Ai (gt b.Aa.Ab i).Az.toNat).Aq j) r) (fin:=fun t=>(t,(r.length:Int))) (fun k t'=>t'.length=t.length+k) (len:=r.length)
    (fun n t=>by simp only [qbt,qt (jf _),cond_false])
    (fun k t' hk ht'=>⟨t'++[_],by rw [jg,ht',jj];omega,fun X hX=>by
     simp only [qbt,qr hk,cond_true,qae hk,je,wS k]
     rw [qb8 (by rw [jj];omega)]
     exact hX⟩) 0 (jw _) t rfl
   refine ⟨x2,by omega,fun X hX=>?_⟩
   simp only [qbr,qr hj,cond_true,qae hj,je,er,wS j]
   exact Ev.bind e2 hX) 0 (jw _) [] (jf _)
 refine ⟨x1,by omega,?_⟩
 unfold qdW
 rw [qe4 c0 c1]
 simp only [je]
 exact Ev.bind e1 .done
theorem qlf {b:qc} (h:blockB b=true):∃ ls lo de,Ev (fun n=>qf4 n b) (some ⟨b,places b.Aa,ls,lo,de,[]⟩):=by
 have hd:=qav h
 have hs:=qW hd
 have hl:=qaG hs
 have hni:=hs.ni
 have hnn:=hs.nn
 have hwl:=qnK h
 obtain ⟨⟨x1,z1⟩,i1,e1⟩:=loopE (τ:=List qa3 × Int) (Lf:=fun n t j=>qdG b n t.1 t.2 j) (fin:=fun t=>(t.1,t.2,(b.Aa.Ab.length:Int))) (fun j t=>t.1.length≤32*j) (len:=b.Aa.Ab.length)
  (fun n t=>by simp only [qdG,qt (jf _),cond_false])
  (fun j t hj ht=>by
   obtain ⟨r,hr,er⟩:=qmo (first:=t.2) h hj
   refine ⟨(t.1++r,W64 (t.2+((gt b.Aa.Ab j).Aj.length:Int))),by rw [jg];omega,fun X hX=>?_⟩
   simp only [qdG,qr hj,cond_true,qae hj,je,qaf,wS j]
   have ht':t.1.length≤32*j:=ht
   refine Ev.bind er ?_
   rw [qb8 (show t.1.length+r.length≤2147483648 by omega)]
   exact hX) 0 (jw _) ([],0) (jf _)
 have hm1:mkS (b.Ah.length:Int) (0:Int)=some (List.replicate b.Ah.length 0):=qmA (by omega)
 have hm2:mkS (b.Ah.length:Int) ([]:List Int)=some (List.replicate b.Ah.length []):=qmA (by omega)
 obtain ⟨⟨x5,x6⟩,⟨i5,i6,i56⟩,e2⟩:=loopE (τ:=List (List Int) × List Int) (Lf:=fun n t j=>qcl (places b.Aa) n t.1 t.2 j) (fin:=fun t=>(t.1,t.2,((places b.Aa).length:Int))) (fun j t=>t.1.length=b.Ah.length∧t.2.length=b.Ah.length∧∀ k,(gt t.1 k).length≤j) (len:=(places b.Aa).length)
  (fun n t=>by simp only [qcl,qt (jf _),cond_false])
  (fun j t hj ht=>by
   obtain ⟨h1,h2,h3⟩:=ht
   obtain ⟨n0,n1⟩:=qiy hd hj
   cases hdr:(gt (places b.Aa) j).drives
   ·refine ⟨(setS t.1 (gt (places b.Aa) j).net (gt t.1 (gt (places b.Aa) j).net.toNat++[(j:Int)]),t.2),⟨by rw [qcI];exact h1,h2,fun k=>?_⟩,fun X hX=>?_⟩
    ·show (gt (t.1.set _ _) k).length≤j+1
     by_cases hk:k=(gt (places b.Aa) j).net.toNat
     ·subst hk
      rw [qni (by omega),jg,jj]
      have:=h3 (gt (places b.Aa) j).net.toNat
      omega
     ·rw [qoF hk]
      have:=h3 k
      omega
    ·have:=h3 (gt (places b.Aa) j).net.toNat
     simp only [qcl,qr hj,cond_true,qae hj,je,hdr,cond_false,qe4 n0 (show (gt (places b.Aa) j).net<(t.1.length:Int) by omega),wS j]
     rw [qb8 (by rw [jj];omega)]
     exact hX
   ·refine ⟨(t.1,setS t.2 (gt (places b.Aa) j).net (j:Int)),⟨h1,by rw [qcI];exact h2,fun k=>Nat.le_succ_of_le (h3 k)⟩,fun X hX=>?_⟩
    simp only [qcl,qr hj,cond_true,qae hj,je,hdr,qe4 n0 (show (gt (places b.Aa) j).net<(t.2.length:Int) by omega),wS j]
    exact hX) 0 (jw _) (List.replicate b.Ah.length [],List.replicate b.Ah.length 0) ⟨by simp,by simp,fun k=>by
   have:gt (List.replicate b.Ah.length ([]:List Int)) k=[]:=by
    unfold gt
    rw [jy,List.getElem?_replicate]
    by_cases hk:k<b.Ah.length<;>simp [hk]<;>rfl
   rw [this];exact jf _⟩
 have i5:x5.length=b.Ah.length:=i5
 have i6:x6.length=b.Ah.length:=i6
 have i56:∀ k,(gt x5 k).length≤(places b.Aa).length:=i56
 have hL5:∀ (i4 i5 y7:Int) (y8:Int) (t:List qa3),idx x6 i4=some y8→t.length≤1000000→∃ t',t'.length=t.length+2∧Ev (fun n=>qcZ x6 i4 i5 y7 n t 0) (t',2):=by
  intro i4 i5 y7 y8 t hy ht
  obtain ⟨t',h1,h2⟩:=loopE (Lf:=qcZ x6 i4 i5 y7) (fin:=fun t=>(t,(2:Int))) (fun k t'=>t'.length=t.length+k) (len:=2)
   (fun n t=>by simp only [qcZ];rfl)
   (fun k t' hk ht'=>⟨t'++[_],by rw [jg,ht',jj];omega,fun X hX=>by
    simp only [qcZ,show decide ((k:Int)<2)=true by simp;omega,cond_true,hy,je,wS k]
    rw [qb8 (by rw [jj];omega)]
    exact hX⟩) 0 (jw _) t rfl
  exact ⟨t',h1,h2⟩
 have hL4:∀ (i4 y8:Int) (y6:List Int) (t:List qa3),idx x6 i4=some y8→y6.length≤78→t.length≤900000→∃ t',t'.length=t.length+2*y6.length∧Ev (fun n=>qc1 x6 i4 y6 n t 0) (t',(y6.length:Int)):=by
  intro i4 y8 y6 t hy hy6 ht
  obtain ⟨t',h1,h2⟩:=loopE (Lf:=qc1 x6 i4 y6) (fin:=fun t=>(t,(y6.length:Int))) (fun k t'=>t'.length=t.length+2*k) (len:=y6.length)
   (fun n t=>by simp only [qc1,qt (jf _),cond_false])
   (fun k t' hk ht'=>by
    obtain ⟨t2,q1,q2⟩:=hL5 i4 (k:Int) (gt y6 k) y8 t' hy (by omega)
    refine ⟨t2,by omega,fun X hX=>?_⟩
    simp only [qc1,qr hk,cond_true,qae hk,je,wS k]
    exact Ev.bind q2 hX) 0 (jw _) t rfl
  exact ⟨t',h1,h2⟩
 obtain ⟨⟨x8,x9,x10⟩,_,e3⟩:=loopE (τ:=List (List Int) × List Int × List qa3) (Lf:=fun n t j=>qdH b x5 x6 n t.1 t.2.1 t.2.2 j) (fin:=fun t=>(t.1,t.2.1,t.2.2,(b.Ah.length:Int))) (fun j t=>t.1.length=j∧t.2.1.length=j∧t.2.2.length≤448+156*j) (len:=b.Ah.length)
  (fun n t=>by simp only [qdH,qt (jf _),cond_false])
  (fun j t hj ht=>by
   obtain ⟨h1,h2,h3⟩:=ht
   have h1:t.1.length=j:=h1
   have h2:t.2.1.length=j:=h2
   have h3:t.2.2.length≤448+156*j:=h3
   have hw:=qiV h hj
   have hlo:=hw.lo
   obtain ⟨r4,l4,e4⟩:=qjY h hj
   obtain ⟨r5,l5,e5⟩:=qln h hj
   have h6:=i56 j
   have hy8:idx x6 (j:Int)=some (gt x6 j):=qae (by omega)
   obtain ⟨t',q1,q2⟩:=hL4 (j:Int) (gt x6 j) (gt x5 j) t.2.2 hy8 (by omega) (by omega)
   refine ⟨(t.1++[r5],t.2.1++[gt r4 0],t'),⟨by simp [h1],by simp [h2],?_⟩,fun X hX=>?_⟩
   ·show t'.length≤_
    omega
   ·simp only [qdH,qr hj,cond_true,wS j]
    refine Ev.bind e4 ?_
    rw [show idx r4 (0:Int)=some (gt r4 0) from qae (j:=0) (by omega)]
    simp only [je]
    rw [qb8 (by rw [jj];omega)]
    simp only [je]
    refine Ev.bind e5 ?_
    rw [qb8 (by rw [jj];omega),qae (show j<x5.length by omega)]
    simp only [je]
    exact Ev.bind q2 hX) 0 (jw _) ([],[],x1) ⟨rfl,rfl,by show x1.length≤_;have:x1.length≤32*b.Aa.Ab.length:=i1;omega⟩
 refine ⟨x10,x9,x8,?_⟩
 unfold qf4
 refine Ev.bind (qjk hs) (Ev.bind e1 ?_)
 rw [hm1,hm2]
 simp only [je]
 exact Ev.bind e2 (Ev.bind e3 .done)
end Go.Fw


namespace Go.Fw
open Go
set_option maxRecDepth 100000
def clkB (b:qc) (p:Tplace):Bool:=bif decide (p.instance_ ≥ 0) then clkAt (cellAt b p.instance_).Ap p.pin else false
theorem qlN {b:qc} {V:Tview} {n j:Nat} (h:blockB b=true) (hV:V.Bh=b) (hj:j<(places b.Aa).length):qd2 n (some V) (gt (places b.Aa) j)=some (clkB b (gt (places b.Aa) j)):=by
 rcases qeA hj with ⟨i,k,hi,hk,_,e⟩|⟨i,hi,_,e⟩
 ·obtain ⟨⟨c0,c1⟩,hn,_⟩:=qgw (qav h) hi
  rw [e]
  unfold place1 clkB clkAt cellAt
  simp only [qd2,show decide ((i:Int) ≥ 0)=true by simp,cond_true,je,hV,qae hi,qe4 c0 c1,qae (show k<(gt b.Ac.Ai (gt b.Aa.Ab i).Az.toNat).Ap.length by omega),jA]
 ·rw [e];rfl
theorem qkf {b:qc} {j:Nat} (hok:qct b) (h:blockB b=true) (hj:j<(places b.Aa).length):Ev (fun n=>qfR n b.Ac b.Aa (j:Int)) (toSp (gt (places b.Aa) j),true):=by
 have hd:=qav h
 have hs:=qW hd
 have hl:=qaG hs
 unfold qfR
 refine Ev.bind (qj9 hok.Ac hok.Aa) (Ev.ff (by rw [hd];rfl) (Ev.bind (qe9 hs) ?_))
 simp only [qdx,je,jB,qbn (show (places b.Aa).length≤9223372036854775807 by omega)]
 rw [show inI (j:Int) 0 (((places b.Aa).length:Int)-1)=true from qb3.2 ⟨by omega,by omega⟩]
 simp only [jT,cond_false]
 rw [qae (show j<((places b.Aa).map toSp).length by simpa using hj),qkH hj]
 exact .done
theorem qiX {b:qc} {j:Nat} (hok:qct b) (h:blockB b=true) (hj:j<(places b.Aa).length):Ev (fun n=>qeP n b (j:Int)) (clkB b (gt (places b.Aa) j)):=by
 unfold qeP
 refine Ev.bind (qkf hok h hj) ?_
 rcases qeA hj with ⟨i,k,hi,hk,_,e⟩|⟨i,hi,_,e⟩
 ·obtain ⟨⟨c0,c1⟩,hn,_⟩:=qgw (qav h) hi
  rw [e]
  unfold place1 clkB clkAt cellAt toSp
  simp only [qfu,show decide ((i:Int) ≥ 0)=true by simp,cond_true,je,qae hi,qe4 c0 c1,qae (show k<(gt b.Ac.Ai (gt b.Aa.Ab i).Az.toNat).Ap.length by omega),jA]
  exact .done
 ·rw [e];exact .done
theorem qlR {b:qc} {j:Nat} (hok:qct b) (h:blockB b=true) (hj:j<(places b.Aa).length):Ev (fun n=>qfK n b.Ac b.Aa (j:Int)) (gt (places b.Aa) j).net:=by
 unfold qfK
 exact Ev.bind (qkf hok h hj) .done
theorem qmH {b:qc} {k:Int} (h:blockB b=true) {j:Nat} (hj:j<(places b.Aa).length) (hk:(gt (places b.Aa) j).net=k) (hdr:(gt (places b.Aa) j).drives=true):Ev (fun n=>qf8 n b.Aa k) (j:Int):=by
 have hd:=qav h
 have hs:=qW hd
 have hl:=qaG hs
 have e:ixL (fun q:Tl05Place=>(q.net==k)&&q.drives) ((places b.Aa).map toSp)=(j:Int):=by
  refine qo8 (by simpa using hj) ?_ (fun i hi hq=>?_)
  ·rw [qkH hj]
   show (((gt (places b.Aa) j).net==k)&&(gt (places b.Aa) j).drives)=true
   rw [hk,hdr];simp
  ·have hi':i<(places b.Aa).length:=by simpa using hi
   rw [qkH hi'] at hq
   have hq':(((gt (places b.Aa) i).net==k)&&(gt (places b.Aa) i).drives)=true:=hq
   simp only [jh,beq_iff_eq] at hq'
   exact qne hd hi' hj (by rw [hq'.1,hk]) hq'.2 hdr
 unfold qf8
 refine Ev.bind (qe9 hs) ?_
 rw [←e]
 exact qdA (fin:=(((places b.Aa).map toSp).length:Int)) (Lf:=qb2 k ((places b.Aa).map toSp)) (pf:=fun _ q=>some ((q.net==k)&&q.drives)) (fun _ _=>.done)
  (fun n=>by simp only [qb2,qt (jf _),cond_false])
  (fun n j x hx=>by
   have hj:=(List.getElem?_eq_some_iff.1 hx).1
   have hj':j<(places b.Aa).length:=by simpa using hj
   simp only [qb2,qr hj,cond_true,qfx hx,je,wS j]
   cases (x.net==k)<;>cases x.drives<;>rfl)
  (fun n=>by congr 1;funext o;cases o<;>rfl)
theorem qnX {b:qc} {i k:Nat} (h:blockB b=true) (hi:i<b.Aa.Ab.length) (hk:k<(gt b.Aa.Ab i).Aj.length):Ev (fun n=>qf2 n b.Aa (i:Int) (k:Int)) ((off b.Aa i+k:Nat):Int):=by
 have hd:=qav h
 have hs:=qW hd
 have hl:=qaG hs
 obtain ⟨hj,ej⟩:=qik hi hk
 have e:ixL (fun q:Tl05Place=>(q.instance_==(i:Int))&&(q.pin==(k:Int))) ((places b.Aa).map toSp)=((off b.Aa i+k:Nat):Int):=by
  refine qo8 (by simpa using hj) ?_ (fun m hm hq=>?_)
  ·rw [qkH hj,ej]
   unfold place1 toSp
   simp
  ·have hm':m<(places b.Aa).length:=by simpa using hm
   rw [qkH hm'] at hq
   rcases qeA hm' with ⟨i',k',hi',hk',em,e'⟩|⟨i',hi',em,e'⟩
   ·rw [e'] at hq
    unfold place1 toSp at hq
    simp only [jh,beq_iff_eq] at hq
    obtain rfl:i'=i:=by omega
    obtain rfl:k'=k:=by omega
    exact em
   ·rw [e'] at hq
    unfold place2 toSp at hq
    simp only [jh,beq_iff_eq] at hq
    omega
 unfold qf2
 refine Ev.bind (qe9 hs) ?_
 rw [←e]
 exact qdA (fin:=(((places b.Aa).map toSp).length:Int)) (Lf:=qcY (i:Int) (k:Int) ((places b.Aa).map toSp)) (pf:=fun _ q=>some ((q.instance_==(i:Int))&&(q.pin==(k:Int)))) (fun _ _=>.done)
  (fun n=>by simp only [qcY,qt (jf _),cond_false])
  (fun n j x hx=>by
   have hj:=(List.getElem?_eq_some_iff.1 hx).1
   have hj':j<(places b.Aa).length:=by simpa using hj
   simp only [qcY,qr hj,cond_true,qfx hx,je,wS j]
   cases (x.instance_==(i:Int))<;>cases (x.pin==(k:Int))<;>rfl)
  (fun n=>by congr 1;funext o;cases o<;>rfl)
def freeB (b:qc) (y:Int):Bool:=!clkB b (gt (places b.Aa) y.toNat)
def dataB (c:qv) (pin:Int):Bool:=c.Aq.any fun a=>(a.As==pin)&&decide (a.Ar≤3)
def succL (b:qc) (j:Nat):List Int :=
 bif (gt (places b.Aa) j).drives then (sinksL b.Aa (gt (places b.Aa) j).net (places b.Aa).length).filter (freeB b)
 else bif decide ((gt (places b.Aa) j).instance_<0) then []
 else bif dataB (cellAt b (gt (places b.Aa) j).instance_) (gt (places b.Aa) j).pin then [(j:Int)-(gt (places b.Aa) j).pin+(((cellAt b (gt (places b.Aa) j).instance_).Ap.length:Int)-1)] else []
theorem qnS {c:qv} {p:Tplace} (hc:cellB c=true):Ev (fun n=>qah n c.Aq p) (dataB c p.pin):=by
 have ha:=qjG hc
 unfold qah
 refine Ev.bind (b:=ixL (fun a:qag=>(a.As==p.pin)&&decide (a.Ar≤3)) c.Aq) (qdA (fin:=(c.Aq.length:Int)) (Lf:=qG c.Aq p) (pf:=fun n x=>qdc n x p) (fun x hx=>?_)
  (fun n=>by simp only [qG,qt (jf _),cond_false])
  (fun n j x hx=>by
   have hj:=(List.getElem?_eq_some_iff.1 hx).1
   simp only [qG,qr hj,cond_true,qfx hx,je,wS j])
  (fun n=>by unfold qaK;congr 1;funext o;cases o<;>rfl)) (Ev.now (by rw [qg0];rfl))
 obtain ⟨j,hj,rfl⟩:=jM hx
 have hk:=(qnm hc hj).1
 rw [qg8 hj] at hk
 refine ⟨0,fun n _=>?_⟩
 have e:decide (c.Aq[j].Ar≤3)=((c.Aq[j].Ar==1) || ((c.Aq[j].Ar==2) || (c.Aq[j].Ar==3))):=by
  rw [jk];simp;omega
 rw [e]
 unfold qdc qht
 cases (c.Aq[j].Ar==1)<;>cases (c.Aq[j].Ar==2)<;>cases (c.Aq[j].Ar==3)<;>simp
theorem qlY {b:qc} {V:Tview} {j:Nat} (h:blockB b=true) (hV:V.Bh=b) (hP:V.places=places b.Aa) (hj:j<(places b.Aa).length):Ev (fun n=>qdX n (some V) (j:Int)) (succL b j):=by
 have hd:=qav h
 have hs:=qW hd
 have hl:=qaG hs
 unfold qdX succL
 simp only [je,hP,qae hj]
 refine Ev.iff (fun _=>?_) (fun _=>Ev.iff (fun _=>.done) (fun h0=>?_))
 ·have hL:Ev (fun n=>qar (some V) V (gt (places b.Aa) j) n ([]:List Int) 0) ((sinksL b.Aa (gt (places b.Aa) j).net (places b.Aa).length).filter (freeB b),((places b.Aa).length:Int)):=by
   refine loopF (Lf:=qar (some V) V (gt (places b.Aa) j)) (S:=fun m=>(sinksL b.Aa (gt (places b.Aa) j).net m).filter (freeB b)) (len:=(places b.Aa).length) (fun n=>?_) (fun m hm X hX=>?_)
   ·simp only [qar,hP,qt (jf _),cond_false]
   ·have hc:((sinksL b.Aa (gt (places b.Aa) j).net m).filter (freeB b)).length+[(m:Int)].length≤2147483648:=by
     have h1:=List.length_filter_le (freeB b) (sinksL b.Aa (gt (places b.Aa) j).net m)
     rw [qeF] at h1
     have:cntP (snkQ b.Aa (gt (places b.Aa) j).net) m≤m:=qdV
     rw [jj];omega
    simp only [qar,hP,qr hm,cond_true,qae hm,je,qlN h hV hm,wS m]
    rw [qhQ] at hX
    unfold snkQ at hX
    cases h1:((gt (places b.Aa) m).net==(gt (places b.Aa) j).net)
    ·rw [h1] at hX
     simp only [Bool.false_and,cond_false,jL] at hX ⊢
     exact hX
    ·cases h2:(gt (places b.Aa) m).drives
     ·rw [h1,h2] at hX
      simp only [Bool.not_false,Bool.and_self,cond_true,List.filter_append] at hX ⊢
      have hf:freeB b (m:Int) = !clkB b (gt (places b.Aa) m):=by unfold freeB;rw [jA]
      cases h3:clkB b (gt (places b.Aa) m)
      ·rw [h3] at hf
       rw [List.filter_cons_of_pos (by rw [hf];rfl),List.filter_nil] at hX
       simp only [Bool.not_false,cond_true,qb8 hc,je]
       exact hX
      ·rw [h3] at hf
       rw [List.filter_cons_of_neg (by rw [hf];decide),List.filter_nil,jL] at hX
       exact hX
     ·rw [h1,h2] at hX
      simp only [jT,Bool.and_false,cond_false,jL,cond_true] at hX ⊢
      exact hX
  exact Ev.bind hL .done
 ·rcases qeA hj with ⟨i,k,hi,hk,ej,e⟩|⟨i,hi,_,e⟩
  ·obtain ⟨⟨c0,c1⟩,hn,hcb⟩:=qgw hd hi
   have hxs:=hs.nx i hi
   rw [e]
   have ec:cellAt b (place1 b.Aa i k).instance_=gt b.Ac.Ai (gt b.Aa.Ab i).Az.toNat:=by
    unfold cellAt place1;rw [jA]
   rw [ec]
   have e1:∀ n,qeU n V.Bh (place1 b.Aa i k).instance_=some (gt b.Ac.Ai (gt b.Aa.Ab i).Az.toNat):=by
    intro n
    rw [hV]
    unfold place1
    simp only [qeU,qae hi,qe4 c0 c1,je]
   refine Ev.bind ⟨0,fun n _=>e1 n⟩ (Ev.bind (qnS hcb) (Ev.iff (fun _=>?_) (fun _=>.done)))
   simp only [qbV,qbw,je]
   refine Ev.now ?_
   have ep:(place1 b.Aa i k).pin=(k:Int):=rfl
   rw [ep,qbn (by omega),qaT (show -9223372036854775808≤(j:Int)-(k:Int) by omega) (by omega),qaT (by omega) (by omega)]
  ·rw [e] at h0
   exact absurd h0 (by show ¬ decide ((-1:Int)<0)=false;decide)
theorem qkP {b:qc} {j:Nat} (hok:qct b) (h:blockB b=true) (hj:j<(places b.Aa).length):Ev (fun n=>qfA n b (j:Int)) (succL b j):=by
 have hd:=qav h
 have hs:=qW hd
 have hl:=qaG hs
 obtain ⟨n0,n1⟩:=qiy hd hj
 obtain ⟨jd,hjd,nd,dd⟩:=qqo hd n0 n1
 have hsl:(sinksL b.Aa (gt (places b.Aa) j).net (places b.Aa).length).length≤78:=by
  rw [qeF]
  have:cntP (snkQ b.Aa (gt (places b.Aa) j).net) (places b.Aa).length≤(places b.Aa).length:=qdV
  omega
 unfold qfA
 refine Ev.bind (qkf hok h hj) (Ev.bind (qlR hok h hj) (Ev.bind (qmH h hjd nd dd) ?_))
 have e0:((jd:Int)==(j:Int))=(gt (places b.Aa) j).drives:=by
  rw [jk,beq_iff_eq]
  constructor
  ·intro e
   obtain rfl:jd=j:=by omega
   exact dd
  ·intro hdj
   have:=qne hd hjd hj nd dd hdj
   omega
 rw [e0]
 unfold succL
 refine Ev.iff (fun _=>?_) (fun _=>Ev.iff (fun _=>.done) (fun h0=>?_))
 ·refine Ev.bind (qiO hs) ?_
  have hL:Ev (fun n=>qbS b (sinksL b.Aa (gt (places b.Aa) j).net (places b.Aa).length) n ([]:List Int) 0) ((sinksL b.Aa (gt (places b.Aa) j).net (places b.Aa).length).filter (freeB b),((sinksL b.Aa (gt (places b.Aa) j).net (places b.Aa).length).length:Int)):=by
   refine loopF (Lf:=qbS b (sinksL b.Aa (gt (places b.Aa) j).net (places b.Aa).length)) (S:=fun m=>((sinksL b.Aa (gt (places b.Aa) j).net (places b.Aa).length).take m).filter (freeB b)) (len:=(sinksL b.Aa (gt (places b.Aa) j).net (places b.Aa).length).length) (fun n=>?_) (fun m hm X hX=>?_)
   ·simp only [qbS,qt (jf _),cond_false,jN]
   ·obtain ⟨y,hy,ey,_⟩:=ql7 hm
    have hc:(((sinksL b.Aa (gt (places b.Aa) j).net (places b.Aa).length).take m).filter (freeB b)).length+[(y:Int)].length≤2147483648:=by
     have h1:=List.length_filter_le (freeB b) ((sinksL b.Aa (gt (places b.Aa) j).net (places b.Aa).length).take m)
     rw [List.length_take] at h1
     rw [jj];omega
    have eg:(sinksL b.Aa (gt (places b.Aa) j).net (places b.Aa).length)[m]=(y:Int):=by
     rw [qaS hm] at ey;exact Option.some.inj ey
    rw [List.take_succ_eq_append_getElem hm,List.filter_append,eg] at hX
    simp only [qbS,qr hm,cond_true,ey,je,wS m]
    refine Ev.bind (qiX hok h hy) ?_
    have hf:freeB b (y:Int) = !clkB b (gt (places b.Aa) y):=by unfold freeB;rw [jA]
    cases h3:clkB b (gt (places b.Aa) y)
    ·rw [h3] at hf
     rw [List.filter_cons_of_pos (by rw [hf];rfl),List.filter_nil] at hX
     simp only [Bool.not_false,cond_true,qb8 hc,je]
     exact hX
    ·rw [h3] at hf
     rw [List.filter_cons_of_neg (by rw [hf];decide),List.filter_nil,jL] at hX
     exact hX
  exact Ev.bind hL .done
 ·rcases qeA hj with ⟨i,k,hi,hk,ej,e⟩|⟨i,hi,_,e⟩
  ·obtain ⟨⟨c0,c1⟩,hn,hcb⟩:=qgw hd hi
   have hxs:=hs.nx i hi
   rw [e]
   have ec:cellAt b (place1 b.Aa i k).instance_=gt b.Ac.Ai (gt b.Aa.Ab i).Az.toNat:=by
    unfold cellAt place1;rw [jA]
   rw [ec]
   have hA:=qjG hcb
   have e1:∀ n,qfu n b (toSp (place1 b.Aa i k)).instance_=some (gt b.Ac.Ai (gt b.Aa.Ab i).Az.toNat):=by
    intro n
    unfold place1 toSp
    simp only [qfu,qae hi,qe4 c0 c1,je]
   have e2:Ev (fun n=>qf2 n b.Aa (toSp (place1 b.Aa i k)).instance_ (W64 (((gt b.Ac.Ai (gt b.Aa.Ab i).Az.toNat).Ap.length:Int)-1))) ((j:Int)-(k:Int)+(((gt b.Ac.Ai (gt b.Aa.Ab i).Az.toNat).Ap.length:Int)-1)):=by
    have:=qnX h hi (k:=(gt b.Ac.Ai (gt b.Aa.Ab i).Az.toNat).Ap.length-1) (by omega)
    rw [qbn (by omega),show ((gt b.Ac.Ai (gt b.Aa.Ab i).Az.toNat).Ap.length:Int)-1=(((gt b.Ac.Ai (gt b.Aa.Ab i).Az.toNat).Ap.length-1:Nat):Int) by omega]
    refine this.cast ?_
    omega
   have hL2:Ev (fun n=>qds b (toSp (place1 b.Aa i k)) (gt b.Ac.Ai (gt b.Aa.Ab i).Az.toNat) n 0) (bif ((gt b.Ac.Ai (gt b.Aa.Ab i).Az.toNat).Aq.all fun a=>!((a.As==(k:Int))&&decide (a.Ar≤3))) then .nxt ((gt b.Ac.Ai (gt b.Aa.Ab i).Az.toNat).Aq.length:Int) else .ret [(j:Int)-(k:Int)+(((gt b.Ac.Ai (gt b.Aa.Ab i).Az.toNat).Ap.length:Int)-1)]) :=
    qi8 (fun n=>by simp only [qds,qt (jf _),cond_false]) (fun m hm X hX=>by
     simp only [qds,qr hm,cond_true,qaS hm,je,wS m]
     rw [show (toSp (place1 b.Aa i k)).pin=(k:Int) from rfl]
     refine Ev.bind (b:=((gt b.Ac.Ai (gt b.Aa.Ab i).Az.toNat).Aq[m].As==(k:Int))&&decide ((gt b.Ac.Ai (gt b.Aa.Ab i).Az.toNat).Aq[m].Ar≤3)) (Ev.andP fun _=>.done) ?_
     cases (((gt b.Ac.Ai (gt b.Aa.Ab i).Az.toNat).Aq[m].As==(k:Int))&&decide ((gt b.Ac.Ai (gt b.Aa.Ab i).Az.toNat).Aq[m].Ar≤3))
     ·exact hX
     ·exact Ev.bind e2 .done)
   refine Ev.bind ⟨0,fun n _=>e1 n⟩ (Ev.bind hL2 ?_)
   have e3:dataB (gt b.Ac.Ai (gt b.Aa.Ab i).Az.toNat) (place1 b.Aa i k).pin = !((gt b.Ac.Ai (gt b.Aa.Ab i).Az.toNat).Aq.all fun a=>!((a.As==(k:Int))&&decide (a.Ar≤3))):=by
    unfold dataB
    rw [show (place1 b.Aa i k).pin=(k:Int) from rfl,jk]
    simp
   rw [e3,show (place1 b.Aa i k).pin=(k:Int) from rfl]
   cases ((gt b.Ac.Ai (gt b.Aa.Ab i).Az.toNat).Aq.all fun a=>!((a.As==(k:Int))&&decide (a.Ar≤3)))<;>exact .done
  ·rw [e] at h0
   exact absurd h0 (by show ¬ decide ((-1:Int)<0)=false;decide)
theorem qkj {b:qc} (h:blockB b=true) {j:Nat}:(succL b j).length≤78:=by
 have hs:=qW (qav h)
 have hl:=qaG hs
 unfold succL
 cases (gt (places b.Aa) j).drives
 ·cases decide ((gt (places b.Aa) j).instance_<0)
  ·cases dataB (cellAt b (gt (places b.Aa) j).instance_) (gt (places b.Aa) j).pin
   ·exact jw _
   ·show 1≤78;omega
  ·exact jw _
 ·have h1:=List.length_filter_le (freeB b) (sinksL b.Aa (gt (places b.Aa) j).net (places b.Aa).length)
  rw [qeF] at h1
  have:cntP (snkQ b.Aa (gt (places b.Aa) j).net) (places b.Aa).length≤(places b.Aa).length:=qdV
  simp only [cond_true]
  omega
def inPl (b:qc) (x:Int):Bool:=inI x 0 (((places b.Aa).length:Int)-1)
end Go.Fw


namespace Go.Fw
open Go
set_option maxRecDepth 100000
def CodeOk (code:List (IntK .u8)):Prop:=code.length≤1048576∧∀ x,x ∈ code→rng8 x
structure SrcI (code:List (IntK .u8)) (a s:Int):Prop where
 a0:0≤a
 a1:a≤(code.length:Int)
 s0:0≤s
 s1:s≤2147483646
theorem tm31 {x:Int} (h:0≤x):0≤x.tmod 2147483647∧x.tmod 2147483647≤2147483646:=by
 have h1:=Int.tmod_nonneg 2147483647 h
 have h2:=Int.tmod_lt_of_pos x (show (0:Int)<2147483647 by decide)
 omega
theorem qke {x k:Int} (hk:0<k):remS x k=some (x.tmod k):=by unfold remS;rw [if_neg (by omega)]
theorem qcO (x:Int):okI (W64 x):=by
 unfold okI W64
 rw [Go.IntWalk.i64_left]
 unfold Go.RowKit.wrap64
 omega
theorem qV {x:Int} (h0:-4611686018427387904≤x) (h1:x≤4611686018427387904):okI x:=by unfold okI;omega
theorem qpA {code:List (IntK .u8)} (hc:CodeOk code):∃ s,Ev (fun n=>qim n code) (some ⟨code,0,s⟩)∧SrcI code 0 s:=by
 have main:∀ k j i,j+k=code.length→0≤i→i≤2147483646→EvQ (fun n=>qdL code n i (j:Int)) (fun o=>0≤o.1∧o.1≤2147483646):=by
  intro k
  induction k with
  | zero =>
   intro j i hj h0 h1
   refine EvQ.succ ?_
   simp only [qdL,qt (show code.length≤j by omega),cond_false,je]
   exact EvQ.done ⟨h0,h1⟩
  | succ k ih =>
   intro j i hj h0 h1
   have hlt:j<code.length:=by omega
   have hl:=hc.1
   have hy:=hc.2 _ (jq hlt)
   unfold rng8 at hy
   refine EvQ.succ ?_
   simp only [qdL,qr hlt,cond_true,je,qaS hlt,wS j]
   refine EvQ.bif (fun _=>?_) (fun _=>EvQ.done ⟨h0,h1⟩)
   have e1:W64 (i*31)=i*31:=qaT (by omega) (by omega)
   have e2:W64 code[j].val=code[j].val:=qaT (by omega) (by omega)
   have e3:W64 (i*31+code[j].val)=i*31+code[j].val:=qaT (by omega) (by omega)
   rw [e1,e2,e3]
   have h2:=tm31 (show 0≤i*31+code[j].val by omega)
   exact ih (j+1) _ (by omega) h2.1 h2.2
 obtain ⟨⟨s,j⟩,h1,h2,h3⟩:=main code.length 0 12345 (by omega) (by decide) (by decide)
 exact ⟨s,Ev.bind h1 .done,⟨Int.le_refl _,by omega,h2,h3⟩⟩
theorem qao {code:List (IntK .u8)} {a s:Int} (k:Int) (hc:CodeOk code) (h:SrcI code a s) :
  EvQ (fun n=>ql n ⟨code,a,s⟩ k) (fun o=>((0≤o.1∧(1≤k→o.1<k))∧(k≤1→o.1=0))∧SrcI code o.2.1 o.2.2):=by
 obtain ⟨a0,a1,s0,s1⟩:=h
 have hl:=hc.1
 unfold ql
 refine EvQ.bif (fun h1=>EvQ.done ⟨⟨⟨Int.le_refl _,fun h=>by omega⟩,fun _=>rfl⟩,⟨a0,a1,s0,s1⟩⟩) (fun h1=>?_)
 have h1:1<k:=by have:=of_decide_eq_false h1;omega
 refine EvQ.bif (fun h2=>?_) (fun _=>?_)
 ·have h2:a<(code.length:Int):=of_decide_eq_true h2
  obtain ⟨j,rfl⟩:∃ j:Nat,a=(j:Int):=⟨a.toNat,by omega⟩
  have hlt:j<code.length:=by omega
  have hy:=hc.2 _ (jq hlt)
  unfold rng8 at hy
  have e2:W64 code[j].val=code[j].val:=qaT (by omega) (by omega)
  have ea:W64 ((j:Int)+1)=((j+1:Nat):Int):=qhZ (by omega)
  refine EvQ.bindN (qaS hlt) ?_
  rw [e2,ea]
  refine EvQ.bif (fun h3=>?_) (fun h3=>?_)
  ·refine EvQ.bindN (qke (by omega)) (EvQ.done ⟨⟨⟨Int.tmod_nonneg _ hy.1,fun _=>Int.tmod_lt_of_pos _ (by omega)⟩,fun h=>by omega⟩,⟨by show (0:Int)≤((j+1:Nat):Int);omega,by show ((j+1:Nat):Int)≤_;omega,s0,s1⟩⟩)
  ·have e3:W64 (s*48271)=s*48271:=qaT (by omega) (by omega)
   have e4:W64 (s*48271+code[j].val)=s*48271+code[j].val:=qaT (by omega) (by omega)
   have e5:W64 (s*48271+code[j].val+1)=s*48271+code[j].val+1:=qaT (by omega) (by omega)
   rw [e3,e4,e5]
   have h4:=tm31 (show 0≤s*48271+code[j].val+1 by omega)
   exact EvQ.bindN (qke (by omega)) (EvQ.done ⟨⟨⟨Int.tmod_nonneg _ h4.1,fun _=>Int.tmod_lt_of_pos _ (by omega)⟩,fun h=>by omega⟩,⟨by show (0:Int)≤((j+1:Nat):Int);omega,by show ((j+1:Nat):Int)≤_;omega,h4.1,h4.2⟩⟩)
 ·have e3:W64 (s*48271)=s*48271:=qaT (by omega) (by omega)
  have e4:W64 (s*48271+11)=s*48271+11:=qaT (by omega) (by omega)
  rw [e3,e4]
  have h4:=tm31 (show 0≤s*48271+11 by omega)
  have h5:0≤((s*48271+11).tmod 2147483647).tdiv 7:=Int.tdiv_nonneg h4.1 (by decide)
  have h6:((s*48271+11).tmod 2147483647).tdiv 7≤2147483646:=by
   rw [Int.tdiv_eq_ediv_of_nonneg h4.1];omega
  rw [qaT (x:=((s*48271+11).tmod 2147483647).tdiv 7) (by omega) (by omega)]
  exact EvQ.bindN (qke (by omega)) (EvQ.done ⟨⟨⟨Int.tmod_nonneg _ h5,fun _=>Int.tmod_lt_of_pos _ (by omega)⟩,fun h=>by omega⟩,⟨a0,a1,h4.1,h4.2⟩⟩)
theorem qbm {α:Type} {ok:α→Prop} {xs:List α} {y:α} (h:∀ x,x ∈ xs→ok x) (hy:ok y):∀ x,x ∈ xs++[y]→ok x:=by
 intro x hx
 rcases List.mem_append.1 hx with hx|hx
 ·exact h x hx
 ·obtain rfl:=List.mem_singleton.1 hx;exact hy
theorem qbN {α:Type} {xs:List α} {y:α} (h:xs.length≤1048576):appS xs [y]=some (xs++[y]):=qb8 (by simp;omega)
section
variable {code:List (IntK .u8)} {a s:Int}
theorem qpk {step:Int} (h0:1≤step) (h1:step≤1000) (hc:CodeOk code) (h:SrcI code a s) :
  EvQ (fun n=>qes n ⟨code,a,s⟩ step) (fun o=>(1≤o.1.length∧o.1.length≤3∧∀ x,x ∈ o.1→okI x)∧SrcI code o.2.1 o.2.2):=by
 have main:∀ (r:Nat) (x:List Int) (a' s' i9:Int),SrcI code a' s'→x.length+r≤3→(∀ y,y ∈ x→okI y)→okI i9 →
   EvQ (fun n=>qce ⟨code,a,s⟩ step n x a' s' i9 (r:Int)) (fun o=>(o.1.length=x.length+r∧∀ y,y ∈ o.1→okI y)∧SrcI code o.2.1 o.2.2.1):=by
  intro r
  induction r with
  | zero =>
   intro x a' s' i9 hs hl hx hi
   refine EvQ.succ ?_
   simp only [qce]
   exact EvQ.ff rfl (EvQ.done ⟨⟨rfl,hx⟩,hs⟩)
  | succ r ih =>
   intro x a' s' i9 hs hl hx hi
   refine EvQ.succ ?_
   simp only [qce]
   refine EvQ.tt (by simp) (EvQ.bindN (qbN (by omega)) (EvQ.bind (qao step hc hs) ?_))
   rintro ⟨i11,i12,i13⟩ ⟨_,hs'⟩
   have e:W64 (((r+1:Nat):Int)-1)=(r:Int):=by rw [qaT (by omega) (by omega)];omega
   dsimp only
   rw [e]
   exact (ih (x++[i9]) i12 i13 _ hs' (by rw [jg,jj];omega) (qbm hx hi) (qcO _)).mono (fun o ho=>⟨⟨by rw [ho.1.1,jg,jj];omega,ho.1.2⟩,ho.2⟩)
 unfold qes
 refine EvQ.bind (qao step hc h) ?_
 rintro ⟨i1,i2,i3⟩ ⟨⟨⟨p0,p1⟩,_⟩,hs⟩
 refine EvQ.bind (qao 3 hc hs) ?_
 rintro ⟨i4,i5,i6⟩ ⟨⟨⟨q0,q1⟩,_⟩,hs⟩
 dsimp only at p0 p1 q0 q1 hs ⊢
 have q2:=q1 (by decide)
 have p2:=p1 h0
 obtain ⟨m,hm⟩:∃ m:Nat,1+i4=((m+1:Nat):Int):=⟨i4.toNat,by omega⟩
 rw [wO (1+i4),hm]
 refine EvQ.bind (main (m+1) [] i5 i6 i1 hs (by simp;omega) (fun _ h=>by cases h) (qV (by omega) (by omega))) ?_
 rintro ⟨x1,i7,i8,i9,i10⟩ ⟨⟨r1,r2⟩,hs⟩
 exact EvQ.done ⟨⟨by simp only at r1;simp at r1;dsimp only;omega,by simp only at r1;simp at r1;dsimp only;omega,r2⟩,hs⟩
theorem qpm {c:Prop} [Decidable c] {x y:Int} (hx:okI x) (hy:okI y):okI (if c then x else y):=by split<;>assumption
theorem qn3 {base:Int} (hc:CodeOk code) (h:SrcI code a s) :
  EvQ (fun n=>qgp n ⟨code,a,s⟩ base) (fun o=>qgd o.1∧SrcI code o.2.1 o.2.2):=by
 unfold qgp
 refine EvQ.bind (qpk (by decide) (by decide) hc h) ?_
 rintro ⟨r1,i1,i2⟩ ⟨⟨l1,l2,l3⟩,hs⟩
 refine EvQ.bind (qpk (by decide) (by decide) hc hs) ?_
 rintro ⟨r2,i3,i4⟩ ⟨⟨m1,m2,m3⟩,hs⟩
 dsimp only at l1 l2 l3 m1 m2 m3 hs ⊢
 have hM:r1.length*r2.length≤3*3:=Nat.mul_le_mul l2 m2
 have main:∀ (d j:Nat) (x:List Int) (a' s':Int),SrcI code a' s'→j+d=r1.length*r2.length→x.length=j→(∀ y,y ∈ x→okI y) →
   EvQ (fun n=>qcU ⟨code,a,s⟩ base r1 r2 n x a' s' (j:Int)) (fun o=>(o.1.length≤9∧∀ y,y ∈ o.1→okI y)∧SrcI code o.2.1 o.2.2.1):=by
  intro d
  induction d with
  | zero =>
   intro j x a' s' hs hj hx hok
   refine EvQ.succ ?_
   simp only [qcU,qla (show r1.length≤1048576 by omega) (show r2.length≤1048576 by omega)]
   have h9:x.length≤9:=by omega
   exact EvQ.ff (qt (by omega)) (EvQ.done ⟨⟨h9,hok⟩,hs⟩)
  | succ d ih =>
   intro j x a' s' hs hj hx hok
   refine EvQ.succ ?_
   simp only [qcU,qla (show r1.length≤1048576 by omega) (show r2.length≤1048576 by omega)]
   refine EvQ.tt (qr (by omega)) (EvQ.bind (qao 10 hc hs) ?_)
   rintro ⟨i8,i9,i10⟩ ⟨⟨⟨q0,q1⟩,_⟩,hs⟩
   dsimp only at q0 q1 hs ⊢
   refine EvQ.bindN (b:=((j % r2.length:Nat):Int)) (by rw [qke (by omega),Int.ofNat_tmod]) ?_
   refine EvQ.bind (R:=fun o:Int × Int × Int=>SrcI code o.1 o.2.1∧okI o.2.2) ?_ ?_
   ·refine EvQ.bif (fun hc1=>?_) (fun _=>EvQ.done ⟨hs,qcO _⟩)
    have hj1:1≤j:=by
     rcases Nat.eq_zero_or_pos j with rfl|h2
     ·simp at hc1
     ·exact h2
    have e1:W64 ((j:Int)-1)=((j-1:Nat):Int):=by rw [qaT (by omega) (by omega)];omega
    rw [e1]
    refine EvQ.bindN (qaS (show j-1<x.length by omega)) (EvQ.bind (qao 20 hc hs) ?_)
    rintro ⟨i17,i18,i19⟩ ⟨_,hs⟩
    exact EvQ.done ⟨hs,qpm (qcO _) (qcO _)⟩
   ·rintro ⟨i11,i12,i13⟩ ⟨hs,hi⟩
    dsimp only at hs hi ⊢
    rw [wS j]
    refine EvQ.bif (fun hc1=>?_) (fun _=>?_)
    ·have hge:r2.length≤j:=by have:=of_decide_eq_true hc1;omega
     have e1:W64 ((j:Int)-(r2.length:Int))=((j-r2.length:Nat):Int):=by rw [qaT (by omega) (by omega)];omega
     rw [e1]
     refine EvQ.bindN (qaS (show j-r2.length<x.length by omega)) (EvQ.bind (qao 20 hc hs) ?_)
     rintro ⟨i14,i15,i16⟩ ⟨_,hs⟩
     refine EvQ.bindN (qbN (by omega)) ?_
     exact ih (j+1) _ _ _ hs (by omega) (by rw [jg,jj];omega) (qbm hok (qpm (qcO _) hi))
    ·refine EvQ.bindN (qbN (by omega)) ?_
     exact ih (j+1) _ _ _ hs (by omega) (by rw [jg,jj];omega) (qbm hok hi)
 refine EvQ.bind (main (r1.length*r2.length) 0 [] i3 i4 hs (by omega) rfl (fun _ h=>by cases h)) ?_
 rintro ⟨x1,i5,i6,i7⟩ ⟨⟨n1,n2⟩,hs⟩
 dsimp only at n1 n2 hs
 exact EvQ.done ⟨⟨⟨by dsimp only;omega,l3⟩,⟨by dsimp only;omega,m3⟩,⟨by dsimp only;omega,n2⟩⟩,hs⟩
theorem qlA {base:Int} (hc:CodeOk code) (h:SrcI code a s) :
  EvQ (fun n=>qcu n ⟨code,a,s⟩ base) (fun o=>okL qgd o.1∧SrcI code o.2.1 o.2.2):=by
 unfold qcu
 refine EvQ.bind (qn3 hc h) ?_
 rintro ⟨r1,i1,i2⟩ ⟨h1,hs⟩
 refine EvQ.bind (qn3 hc hs) ?_
 rintro ⟨r2,i3,i4⟩ ⟨h2,hs⟩
 refine EvQ.done ⟨⟨by simp,fun x hx=>?_⟩,hs⟩
 rcases List.mem_cons.1 hx with rfl|hx
 ·exact h1
 ·obtain rfl:=List.mem_singleton.1 hx;exact h2
theorem qmZ {kind f t sense:Int} (hk:okI kind) (hf:okI f) (ht:okI t) (hse:okI sense) (hc:CodeOk code) (h:SrcI code a s) :
  EvQ (fun n=>qcp n ⟨code,a,s⟩ kind f t sense) (fun o=>qiu o.1∧SrcI code o.2.1 o.2.2):=by
 unfold qcp
 refine EvQ.bif (fun _=>?_) (fun _=>?_)
 ·refine EvQ.bind (qao 10 hc h) ?_
  rintro ⟨i1,i2,i3⟩ ⟨_,hs⟩
  refine EvQ.bind (qlA hc hs) ?_
  rintro ⟨r1,i4,i5⟩ ⟨h1,hs⟩
  exact EvQ.done ⟨⟨hk,hf,ht,qV (x:=0) (by decide) (by decide),h1,⟨jw _,fun _ h=>by cases h⟩⟩,hs⟩
 ·refine EvQ.bind (qao 20 hc h) ?_
  rintro ⟨i6,i7,i8⟩ ⟨_,hs⟩
  refine EvQ.bind (qlA hc hs) ?_
  rintro ⟨r2,i9,i10⟩ ⟨h2,hs⟩
  refine EvQ.bind (qlA hc hs) ?_
  rintro ⟨r3,i11,i12⟩ ⟨h3,hs⟩
  exact EvQ.done ⟨⟨hk,hf,ht,hse,h2,h3⟩,hs⟩
end
end Go.Fw


namespace Go.Fw
open Go
set_option maxRecDepth 100000
section
variable {code:List (IntK .u8)} {a s:Int}
theorem qpD {q:Nat} (h:q≤8):W64 (2*(q:Int))=((q*2:Nat):Int):=by rw [qaT (by omega) (by omega)];omega
theorem Ev.add {α:Type} {f:Nat→Option α} {r:α} (k:Nat) (h:∀ m,f (m+k)=some r):Ev f r :=
 ⟨k,fun n hn=>by obtain ⟨m,rfl⟩:∃ m,n=m+k:=⟨n-k,by omega⟩;exact h m⟩
def SenseOk (k:Nat) (truth:List Int):Prop:=∀ (nm:ByteArray) (ps:List qY) (i j:Int) (p:Nat),p<k→EvQ (fun n=>qhU n ⟨nm,1,ps,[],truth,i,j⟩ (p:Int)) okI
theorem qlr {k:Nat} {nm:ByteArray} {truth:List Int} (hk:k≤3) (hl:truth.length=2 ^ k) (hs0:SenseOk k truth) (hnm:okS nm) (htr:∀ x,x ∈ truth→okI x) (hc:CodeOk code) (h:SrcI code a s) :
  EvQ (fun n=>qd3 n ⟨code,a,s⟩ nm truth) (fun o=>qjf o.1∧SrcI code o.2.1 o.2.2):=by
 have hk8:(2:Nat) ^ k≤8:=by
  have:(2:Nat) ^ k≤2 ^ 3:=Nat.pow_le_pow_right (by decide) hk
  simpa using this
 have pins:∀ (d j:Nat) (x:List qY) (a' s':Int),SrcI code a' s'→j+d=k→x.length=j→(∀ y,y ∈ x→qiw y) →
   EvQ (fun n=>qdK ⟨code,a,s⟩ truth n x a' s' ((2 ^ j:Nat):Int)) (fun o=>(o.1.length=k∧∀ y,y ∈ o.1→qiw y)∧SrcI code o.2.1 o.2.2.1):=by
  intro d
  induction d with
  | zero =>
   intro j x a' s' hs hj hx hok
   refine EvQ.succ ?_
   simp only [qdK]
   have:j=k:=by omega
   subst this
   exact EvQ.ff (qt (by omega)) (EvQ.done ⟨⟨hx,hok⟩,hs⟩)
  | succ d ih =>
   intro j x a' s' hs hj hx hok
   refine EvQ.succ ?_
   simp only [qdK]
   have hlt:(2:Nat) ^ j<2 ^ k:=Nat.pow_lt_pow_right (by decide) (by omega)
   refine EvQ.tt (qr (by omega)) ?_
   have hj4:j<4:=by omega
   refine EvQ.bindN (b:=([(⟨#[97]⟩:ByteArray),(⟨#[98]⟩:ByteArray),(⟨#[99]⟩:ByteArray),(⟨#[100]⟩:ByteArray)]:List ByteArray)[j]'(by simpa using hj4)) (by rw [hx];exact qaS (by simpa using hj4)) (EvQ.bind (qao 9 hc hs) ?_)
   rintro ⟨i10,i11,i12⟩ ⟨_,hs⟩
   refine EvQ.bindN (qbN (by omega)) ?_
   have e:W64 (2*((2 ^ j:Nat):Int))=((2 ^ (j+1):Nat):Int):=by
    rw [Nat.pow_succ];exact qpD (by omega)
   dsimp only
   rw [e]
   refine ih (j+1) _ _ _ hs (by omega) (by rw [jg,jj];omega) (qbm hok ⟨?_,qV (x:=1) (by decide) (by decide),qcO _,trivial⟩)
   rcases j with _|_|_|_|j
   ·show (1:Nat)≤1048576;decide
   ·show (1:Nat)≤1048576;decide
   ·show (1:Nat)≤1048576;decide
   ·show (1:Nat)≤1048576;decide
   ·omega
 unfold qd3
 refine EvQ.bind (qao 50 hc h) ?_
 rintro ⟨i1,i2,i3⟩ ⟨⟨⟨p0,p1⟩,_⟩,hs⟩
 refine EvQ.bind (qao 80 hc hs) ?_
 rintro ⟨i4,i5,i6⟩ ⟨⟨⟨q0,q1⟩,_⟩,hs⟩
 dsimp only at p0 p1 q0 q1
 have p2:=p1 (by decide)
 have q2:=q1 (by decide)
 refine EvQ.bind (pins k 0 [] i5 i6 hs (by omega) rfl (fun _ h=>by cases h)) ?_
 rintro ⟨x1,i7,i8,i9⟩ ⟨⟨hx1,hok1⟩,hs⟩
 dsimp only at hx1 hok1 hs ⊢
 refine EvQ.bindN (qbN (by omega)) ?_
 have arcs:∀ (d j:Nat) (x:List qag) (a' s':Int),SrcI code a' s'→j+d=k→x.length≤j→(∀ y,y ∈ x→qiu y) →
   EvQ (fun n=>qcT ⟨code,a,s⟩ nm truth i1 i4 x1 (x1++[(⟨(⟨#[121]⟩:ByteArray),2,0,false⟩:qY)]) n x a' s' (j:Int)) (fun o=>(o.1.length≤k∧∀ y,y ∈ o.1→qiu y)∧SrcI code o.2.1 o.2.2.1):=by
  intro d
  induction d with
  | zero =>
   intro j x a' s' hs hj hx hok
   refine EvQ.succ ?_
   simp only [qcT]
   have h9:x.length≤k:=by omega
   exact EvQ.ff (qt (by omega)) (EvQ.done ⟨⟨h9,hok⟩,hs⟩)
  | succ d ih =>
   intro j x a' s' hs hj hx hok
   refine EvQ.succ ?_
   simp only [qcT,wS j]
   refine EvQ.tt (qr (by omega)) (EvQ.bind (hs0 _ _ _ _ j (by omega)) (fun r1 hr1=>?_))
   refine EvQ.bif (fun _=>?_) (fun _=>ih (j+1) x a' s' hs (by omega) (by omega) hok)
   refine EvQ.bind (qmZ (qV (by decide) (by decide)) (qV (by omega) (by omega)) (qV (by omega) (by omega)) hr1 hc hs) ?_
   rintro ⟨r2,i16,i17⟩ ⟨h2,hs⟩
   refine EvQ.bindN (qbN (by omega)) ?_
   exact ih (j+1) _ _ _ hs (by omega) (by rw [jg,jj];omega) (qbm hok h2)
 refine EvQ.bind (arcs k 0 [] i7 i8 hs (by omega) (jw _) (fun _ h=>by cases h)) ?_
 rintro ⟨x4,i13,i14,i15⟩ ⟨⟨hx4,hok4⟩,hs⟩
 dsimp only at hx4 hok4 hs
 refine EvQ.done ⟨⟨hnm,qV (x:=1) (by decide) (by decide),⟨?_,?_⟩,⟨?_,hok4⟩,⟨?_,htr⟩,qV (x:=i1) (by omega) (by omega),qV (x:=i4) (by omega) (by omega)⟩,hs⟩
 ·show (x1++_).length≤_
  rw [jg,jj];omega
 ·exact qbm hok1 ⟨by show (1:Nat)≤1048576;decide,qV (x:=2) (by decide) (by decide),qV (x:=0) (by decide) (by decide),trivial⟩
 ·show x4.length≤_;omega
 ·show truth.length≤_;omega
theorem qiZ {xs:List Int} (h:xs.all (fun x=>decide (-1000≤x)&&decide (x≤1000))=true):∀ x,x ∈ xs→okI x:=by
 intro x hx
 have:=List.all_eq_true.1 h x hx
 simp only [jh,decide_eq_true_eq] at this
 exact qV (by omega) (by omega)
theorem qnV {nm:ByteArray} {kind edge:Int} (hnm:okS nm) (hk:okI kind) (he:okI edge) (hc:CodeOk code) (h:SrcI code a s) :
  EvQ (fun n=>qdq n ⟨code,a,s⟩ nm kind edge) (fun o=>qjf o.1∧SrcI code o.2.1 o.2.2):=by
 have z:∀ x:Int,-1000≤x→x≤1000→okI x:=fun x h1 h2=>qV (by omega) (by omega)
 unfold qdq
 refine EvQ.bind (qao 50 hc h) ?_
 rintro ⟨i1,i2,i3⟩ ⟨⟨⟨p0,p1⟩,_⟩,hs⟩
 refine EvQ.bind (qao 80 hc hs) ?_
 rintro ⟨i4,i5,i6⟩ ⟨⟨⟨q0,q1⟩,_⟩,hs⟩
 dsimp only at p0 p1 q0 q1
 have p2:=p1 (by decide)
 have q2:=q1 (by decide)
 refine EvQ.bind (qao 9 hc hs) ?_
 rintro ⟨i7,i8,i9⟩ ⟨_,hs⟩
 refine EvQ.bind (qao 9 hc hs) ?_
 rintro ⟨i10,i11,i12⟩ ⟨_,hs⟩
 refine EvQ.bind (qmZ he (z _ (by decide) (by decide)) (z _ (by decide) (by decide)) (z _ (by decide) (by decide)) hc hs) ?_
 rintro ⟨r1,i13,i14⟩ ⟨h1,hs⟩
 refine EvQ.bind (qmZ (z _ (by decide) (by decide)) (z _ (by decide) (by decide)) (z _ (by decide) (by decide)) (z _ (by decide) (by decide)) hc hs) ?_
 rintro ⟨r2,i15,i16⟩ ⟨h2,hs⟩
 refine EvQ.bind (qmZ (z _ (by decide) (by decide)) (z _ (by decide) (by decide)) (z _ (by decide) (by decide)) (z _ (by decide) (by decide)) hc hs) ?_
 rintro ⟨r3,i17,i18⟩ ⟨h3,hs⟩
 dsimp only at h1 h2 h3 hs ⊢
 have ha:∀ x,x ∈ [r1,r2,r3]→qiu x:=by
  intro x hx
  simp only [jI,jz,or_false] at hx
  rcases hx with rfl|rfl|rfl<;>assumption
 have hp:∀ x,x ∈ [(⟨(⟨#[100]⟩:ByteArray),1,W64 (1+i7),false⟩:qY),(⟨(⟨#[99,107]⟩:ByteArray),1,W64 (1+i10),true⟩:qY),(⟨(⟨#[113]⟩:ByteArray),2,0,false⟩:qY)]→qiw x:=by
  intro x hx
  simp only [jI,jz,or_false] at hx
  rcases hx with rfl|rfl|rfl
  ·exact ⟨by show (1:Nat)≤1048576;decide,z 1 (by decide) (by decide),qcO _,trivial⟩
  ·exact ⟨by show (2:Nat)≤1048576;decide,z 1 (by decide) (by decide),qcO _,trivial⟩
  ·exact ⟨by show (1:Nat)≤1048576;decide,z 2 (by decide) (by decide),z 0 (by decide) (by decide),trivial⟩
 refine EvQ.bif (fun _=>?_) (fun _=>?_)
 ·refine EvQ.bind (qmZ (z _ (by decide) (by decide)) (z _ (by decide) (by decide)) (z _ (by decide) (by decide)) (z _ (by decide) (by decide)) hc hs) ?_
  rintro ⟨r4,i19,i20⟩ ⟨h4,hs⟩
  refine EvQ.bindN (qbN (by simp)) ?_
  exact EvQ.done ⟨⟨hnm,hk,⟨by simp,hp⟩,⟨by simp,qbm ha h4⟩,⟨jw _,fun _ h=>by cases h⟩,z i1 (by omega) (by omega),z i4 (by omega) (by omega)⟩,hs⟩
 ·exact EvQ.done ⟨⟨hnm,hk,⟨by simp,hp⟩,⟨by simp,ha⟩,⟨jw _,fun _ h=>by cases h⟩,z i1 (by omega) (by omega),z i4 (by omega) (by omega)⟩,hs⟩
theorem sense1a:SenseOk 1 [1,0]:=by
 intro nm ps i j p hp
 obtain rfl:p=0:=by omega
 exact ⟨_,Ev.add 4 (fun m=>rfl),qV (by decide) (by decide)⟩
theorem sense1b:SenseOk 1 [0,1]:=by
 intro nm ps i j p hp
 obtain rfl:p=0:=by omega
 exact ⟨_,Ev.add 4 (fun m=>rfl),qV (by decide) (by decide)⟩
theorem sense2a:SenseOk 2 [1,1,1,0]:=by
 intro nm ps i j p hp
 rcases p with _|_|p
 ·exact ⟨_,Ev.add 8 (fun m=>rfl),qV (by decide) (by decide)⟩
 ·exact ⟨_,Ev.add 8 (fun m=>rfl),qV (by decide) (by decide)⟩
 ·omega
theorem sense2b:SenseOk 2 [0,1,1,0]:=by
 intro nm ps i j p hp
 rcases p with _|_|p
 ·exact ⟨_,Ev.add 8 (fun m=>rfl),qV (by decide) (by decide)⟩
 ·exact ⟨_,Ev.add 8 (fun m=>rfl),qV (by decide) (by decide)⟩
 ·omega
theorem sense3:SenseOk 3 [0,1,0,1,0,0,1,1]:=by
 intro nm ps i j p hp
 rcases p with _|_|_|p
 ·exact ⟨_,Ev.add 12 (fun m=>rfl),qV (by decide) (by decide)⟩
 ·exact ⟨_,Ev.add 12 (fun m=>rfl),qV (by decide) (by decide)⟩
 ·exact ⟨_,Ev.add 12 (fun m=>rfl),qV (by decide) (by decide)⟩
 ·omega
theorem qqD (hc:CodeOk code) (h:SrcI code a s):EvQ (fun n=>qhc n ⟨code,a,s⟩) (fun o=>qfe o.1∧SrcI code o.2.1 o.2.2):=by
 have z:∀ x:Int,-1000≤x→x≤1000→okI x:=fun x h1 h2=>qV (by omega) (by omega)
 unfold qhc
 refine EvQ.bind (qlr (k:=1) (by decide) rfl sense1a (by show (3:Nat)≤1048576;decide) (qiZ rfl) hc h) ?_
 rintro ⟨r1,i1,i2⟩ ⟨h1,hs⟩
 refine EvQ.bind (qlr (k:=1) (by decide) rfl sense1b (by show (3:Nat)≤1048576;decide) (qiZ rfl) hc hs) ?_
 rintro ⟨r2,i3,i4⟩ ⟨h2,hs⟩
 refine EvQ.bind (qlr (k:=2) (by decide) rfl sense2a (by show (4:Nat)≤1048576;decide) (qiZ rfl) hc hs) ?_
 rintro ⟨r3,i5,i6⟩ ⟨h3,hs⟩
 refine EvQ.bind (qlr (k:=2) (by decide) rfl sense2b (by show (3:Nat)≤1048576;decide) (qiZ rfl) hc hs) ?_
 rintro ⟨r4,i7,i8⟩ ⟨h4,hs⟩
 refine EvQ.bind (qlr (k:=3) (by decide) rfl sense3 (by show (3:Nat)≤1048576;decide) (qiZ rfl) hc hs) ?_
 rintro ⟨r5,i9,i10⟩ ⟨h5,hs⟩
 refine EvQ.bind (qnV (by show (4:Nat)≤1048576;decide) (z _ (by decide) (by decide)) (z _ (by decide) (by decide)) hc hs) ?_
 rintro ⟨r6,i11,i12⟩ ⟨h6,hs⟩
 refine EvQ.bind (qnV (by show (5:Nat)≤1048576;decide) (z _ (by decide) (by decide)) (z _ (by decide) (by decide)) hc hs) ?_
 rintro ⟨r7,i13,i14⟩ ⟨h7,hs⟩
 refine EvQ.bind (qnV (by show (5:Nat)≤1048576;decide) (z _ (by decide) (by decide)) (z _ (by decide) (by decide)) hc hs) ?_
 rintro ⟨r8,i15,i16⟩ ⟨h8,hs⟩
 refine EvQ.done ⟨⟨⟨by simp,fun x hx=>?_⟩⟩,hs⟩
 simp only [jI,jz,or_false] at hx
 rcases hx with rfl|rfl|rfl|rfl|rfl|rfl|rfl|rfl<;>assumption
end
end Go.Fw


namespace Go.Fw
open Go
set_option maxRecDepth 100000
section
variable {code:List (IntK .u8)} {a s:Int}
theorem qjm (b:IntK .u8):(strOf [b]).size=1:=rfl
theorem qmB {x y:ByteArray} (h:x.size+y.size≤1048576):catB x y=some (x++y):=by
 unfold catB
 rw [if_pos]
 have:IntKind.i64.max=9223372036854775807:=rfl
 omega
theorem qoU:∀ (d:Nat) (k:Int),d≤15→0≤k→k<((10 ^ (d+1):Nat):Int)→EvQ (fun n=>qbc n k) (fun z=>z.size≤d+1):=by
 intro d
 induction d with
 | zero =>
  intro k hd h0 h1
  refine EvQ.succ ?_
  simp only [qbc]
  refine EvQ.ff (by simp;omega) (EvQ.tt (by simp;omega) (EvQ.done ?_))
  rw [qjm]
  exact jf _
 | succ d ih =>
  intro k hd h0 h1
  refine EvQ.succ ?_
  simp only [qbc]
  refine EvQ.ff (by simp;omega) (EvQ.bif (fun _=>EvQ.done (by rw [qjm];omega)) (fun h2=>?_))
  have hp:(10:Nat) ^ (d+1+1)≤10 ^ 17:=Nat.pow_le_pow_right (by decide) (by omega)
  have hk:k≤9223372036854775807:=by
   have:(10:Nat) ^ 17≤9223372036854775807:=by decide
   omega
  have e:k.tdiv 10=k / 10:=Int.tdiv_eq_ediv_of_nonneg h0
  have e1:W64 (k.tdiv 10)=k / 10:=by rw [e];exact qaT (by omega) (by omega)
  rw [e1]
  have hlt:k / 10<((10 ^ (d+1):Nat):Int):=by rw [Nat.pow_succ] at h1;omega
  refine EvQ.bind (ih (k / 10) (by omega) (by omega) hlt) (fun r2 hr2=>?_)
  refine EvQ.bindN (qmB (by rw [qjm];omega)) (EvQ.done ?_)
  rw [ByteArray.size_append,qjm]
  omega
theorem qn8 {k:Nat} (h:k≤1000):EvQ (fun n=>qbc n (k:Int)) (fun z=>z.size≤4):=qoU 3 k (by decide) (by omega) (by omega)
theorem qps {y:Int} (h0:0≤y) (h1:y≤7):∃ p:Nat,idx ([2,2,3,3,4,3,3,3]:List Int) y=some (p:Int)∧2≤p∧p≤4:=by
 have:y=0∨y=1∨y=2∨y=3∨y=4∨y=5∨y=6∨y=7:=by omega
 rcases this with rfl|rfl|rfl|rfl|rfl|rfl|rfl|rfl
 ·exact ⟨2,rfl,by decide,by decide⟩
 ·exact ⟨2,rfl,by decide,by decide⟩
 ·exact ⟨3,rfl,by decide,by decide⟩
 ·exact ⟨3,rfl,by decide,by decide⟩
 ·exact ⟨4,rfl,by decide,by decide⟩
 ·exact ⟨3,rfl,by decide,by decide⟩
 ·exact ⟨3,rfl,by decide,by decide⟩
 ·exact ⟨3,rfl,by decide,by decide⟩
theorem qpN {y:Int} (h0:0≤y) (h1:y<12):∃ p:Int,idx ([0,1,2,2,3,4,5,5,5,6,7,1]:List Int) y=some p∧0≤p∧p≤7:=by
 have:y=0∨y=1∨y=2∨y=3∨y=4∨y=5∨y=6∨y=7∨y=8∨y=9∨y=10∨y=11:=by omega
 rcases this with rfl|rfl|rfl|rfl|rfl|rfl|rfl|rfl|rfl|rfl|rfl|rfl<;>exact ⟨_,rfl,by decide,by decide⟩
theorem qhe {α:Type} {xs:List α} (h:xs.length≤1048576):appS ([]:List α) xs=some xs:=by
 have:=qb8 (xs:=([]:List α)) (ys:=xs) (by simp;omega)
 rwa [List.nil_append] at this
theorem qp0 {x2:List ByteArray} {y1:Int} {p:Nat} (hp:idx ([2,2,3,3,4,3,3,3]:List Int) y1=some (p:Int)) (h2:2≤p) (h4:p≤4) (hx2:x2.length≤100) (hc:CodeOk code) :
  ∀ (d j:Nat) (x:List Int) (a' s':Int),SrcI code a' s'→j+d+1=p→x.length=j→(∀ y,y ∈ x→okI y) →
   EvQ (fun n=>qcW ⟨code,a,s⟩ x2 y1 n x a' s' (j:Int)) (fun o=>(o.1.length+1=p∧∀ y,y ∈ o.1→okI y)∧SrcI code o.2.1 o.2.2.1):=by
 have ep:W64 ((p:Int)-1)=((p-1:Nat):Int):=by rw [qaT (by omega) (by omega)];omega
 intro d
 induction d with
 | zero =>
  intro j x a' s' hs hj hx hok
  refine EvQ.succ ?_
  simp only [qcW]
  refine EvQ.bindN hp ?_
  rw [ep]
  exact EvQ.ff (qt (by omega)) (EvQ.done ⟨⟨by dsimp only;omega,hok⟩,hs⟩)
 | succ d ih =>
  intro j x a' s' hs hj hx hok
  refine EvQ.succ ?_
  simp only [qcW]
  refine EvQ.bindN hp ?_
  rw [ep]
  refine EvQ.tt (qr (by omega)) (EvQ.bind (qao _ hc hs) ?_)
  rintro ⟨i13,i14,i15⟩ ⟨_,hs⟩
  refine EvQ.bind (qao 3 hc hs) ?_
  rintro ⟨i16,i17,i18⟩ ⟨_,hs⟩
  refine EvQ.bind (R:=okI) (EvQ.bif (fun _=>EvQ.done (qcO _)) (fun _=>EvQ.done (qcO _))) (fun i19 hi=>?_)
  refine EvQ.bind (R:=fun _=>True) (EvQ.bif (fun _=>EvQ.done trivial) (fun _=>EvQ.done trivial)) (fun b3 _=>?_)
  rw [wS j]
  refine EvQ.bif (fun _=>?_) (fun _=>?_)
  ·exact EvQ.bindN (qhe (by omega)) (EvQ.bindN (qbN (by omega)) (ih (j+1) _ _ _ hs (by omega) (by rw [jg,jj];omega) (qbm hok (qV (by decide) (by decide)))))
  ·exact EvQ.bindN (qhe (by omega)) (EvQ.bindN (qbN (by omega)) (ih (j+1) _ _ _ hs (by omega) (by rw [jg,jj];omega) (qbm hok hi)))
structure InsI (x:qw):Prop where
 ok:qkK x
 l2:2≤x.Aj.length
 l5:x.Aj.length≤5
theorem qpL (hc:CodeOk code):∀ (r:Nat) (x2:List ByteArray) (x3:List qw) (a' s':Int),SrcI code a' s'→x3.length+r≤14→x2.length=x3.length+3→(∀ y,y ∈ x2→okS y)→(∀ y,y ∈ x3→InsI y) →
  EvQ (fun n=>qdQ ⟨code,a,s⟩ n x2 x3 a' s' (r:Int)) (fun o=>(o.1.length=o.2.1.length+3∧o.2.1.length=x3.length+r∧(∀ y,y ∈ o.1→okS y)∧∀ y,y ∈ o.2.1→InsI y)∧SrcI code o.2.2.1 o.2.2.2.1):=by
 intro r
 induction r with
 | zero =>
  intro x2 x3 a' s' hs hl h23 h2 h3
  refine EvQ.succ ?_
  simp only [qdQ]
  exact EvQ.ff rfl (EvQ.done ⟨⟨h23,rfl,h2,h3⟩,hs⟩)
 | succ r ih =>
  intro x2 x3 a' s' hs hl h23 h2 h3
  refine EvQ.succ ?_
  simp only [qdQ]
  refine EvQ.tt (by simp) (EvQ.bind (qao 12 hc hs) ?_)
  rintro ⟨i7,i8,i9⟩ ⟨⟨⟨q0,q1⟩,_⟩,hs⟩
  dsimp only at q0 q1 hs ⊢
  obtain ⟨y1,hy1,y10,y17⟩:=qpN q0 (q1 (by decide))
  obtain ⟨p,hp,p2,p4⟩:=qps y10 y17
  refine EvQ.bindN hy1 (EvQ.bind (qn8 (show x3.length≤1000 by omega)) (fun r1 hr1=>?_))
  have z1:(⟨#[117]⟩:ByteArray).size=1:=rfl
  have z2:(⟨#[110]⟩:ByteArray).size=1:=rfl
  refine EvQ.bindN (qmB (by rw [z1];omega)) (EvQ.bind (qp0 hp p2 p4 (by omega) hc (p-1) 0 [] i8 i9 hs (by omega) rfl (fun _ h=>by cases h)) ?_)
  rintro ⟨x4,i10,i11,i12⟩ ⟨⟨hx4,hok4⟩,hs⟩
  dsimp only at hx4 hok4 hs ⊢
  refine EvQ.bindN (qhe (by omega)) (EvQ.bindN (qbN (by omega)) (EvQ.bind (qn8 (show x2.length≤1000 by omega)) (fun r2 hr2=>?_)))
  refine EvQ.bindN (qmB (by rw [z2];omega)) (EvQ.bindN (qbN (by omega)) (EvQ.bindN (qbN (by omega)) ?_))
  have e:W64 (((r+1:Nat):Int)-1)=(r:Int):=by rw [qaT (by omega) (by omega)];omega
  rw [e]
  refine (ih _ _ _ _ hs (by rw [jg,jj];omega) (by rw [jg,jg,jj,jj];omega) (qbm h2 (by show (_++_:ByteArray).size≤_;rw [ByteArray.size_append,z2];omega))
   (qbm h3 ⟨⟨by show (_++_:ByteArray).size≤_;rw [ByteArray.size_append,z1];omega,qV (x:=y1) (by omega) (by omega),⟨by show (_++_:List Int).length≤_;rw [jg,jj];omega,qbm hok4 (qV (by omega) (by omega))⟩⟩,by show _≤(_++_:List Int).length;rw [jg,jj];omega,by show (_++_:List Int).length≤_;rw [jg,jj];omega⟩)).mono (fun o ho=>⟨⟨ho.1.1,by rw [ho.1.2.1,jg,jj];omega,ho.1.2.2⟩,ho.2⟩)
theorem qf3 {α:Type} {ok:α→Prop} {xs:List α} {j:Int} {y:α} (h:∀ x,x ∈ xs→ok x) (hy:ok y):∀ x,x ∈ setS xs j y→ok x:=by
 intro x hx
 unfold setS at hx
 rcases List.mem_or_eq_of_mem_set hx with hx|rfl
 ·exact h x hx
 ·exact hy
theorem qqG {wild:Bool} {x2:List ByteArray} {x3:List qw} (hl:x3.length≤14) (hx2:x2.length≤100) (hc:CodeOk code):∀ (d j:Nat) (x:List qw) (a' s':Int),SrcI code a' s'→j+d=x3.length→x.length=x3.length→(∀ y,y ∈ x→InsI y) →
  EvQ (fun n=>qcX ⟨code,a,s⟩ wild x2 x3 n x a' s' (j:Int)) (fun o=>(o.1.length=x3.length∧∀ y,y ∈ o.1→InsI y)∧SrcI code o.2.1 o.2.2.1):=by
 intro d
 induction d with
 | zero =>
  intro j x a' s' hs hj hx hok
  refine EvQ.succ ?_
  simp only [qcX]
  exact EvQ.ff (qt (by omega)) (EvQ.done ⟨⟨hx,hok⟩,hs⟩)
 | succ d ih =>
  intro j x a' s' hs hj hx hok
  have hjx:j<x.length:=by omega
  refine EvQ.succ ?_
  simp only [qcX,wS j]
  refine EvQ.tt (qr (by omega)) (EvQ.bind (R:=fun o:Int × Int × Bool=>SrcI code o.1 o.2.1) (EvQ.bind (qao 4 hc hs) ?_) ?_)
  ·rintro ⟨i28,i29,i30⟩ ⟨_,hs⟩
   refine EvQ.bif (fun _=>?_) (fun _=>EvQ.done hs)
   refine EvQ.bindN (qaS hjx) (EvQ.bif (fun _=>EvQ.done hs) (fun _=>EvQ.bindN (qaS hjx) (EvQ.bif (fun _=>EvQ.done hs) (fun _=>EvQ.done hs))))
  ·rintro ⟨i23,i24,b4⟩ hs
   dsimp only at hs ⊢
   refine EvQ.bif (fun _=>?_) (fun _=>ih (j+1) x _ _ hs (by omega) hx hok)
   refine EvQ.bindN (qaS hjx) (EvQ.bind (qao _ hc hs) ?_)
   rintro ⟨i25,i26,i27⟩ ⟨_,hs⟩
   have hi:=hok _ (jq hjx)
   have h0:0<x[j].Aj.length:=by have:=hi.l2;omega
   refine EvQ.bindN (b:=x[j].Aj[0]) (qaS (j:=0) h0) ?_
   refine ih (j+1) _ _ _ hs (by omega) (by rw [qcI];exact hx) (qf3 hok ⟨⟨hi.ok.Au,hi.ok.Az,⟨by show (setS _ _ _).length≤_;rw [qcI];exact hi.ok.Aj.1,qf3 hi.ok.Aj.2 (qcO _)⟩⟩,by show _≤(setS _ _ _).length;rw [qcI];exact hi.l2,by show (setS _ _ _).length≤_;rw [qcI];exact hi.l5⟩)
structure DesI (d:qg):Prop where
 ok:qhn d
 sm:smallD d
 n1:1≤d.Aj.length
 p1:1≤d.Af.length
theorem qpi {most:Int} {wild:Bool} (h2:2≤most) (h14:most≤14) (hc:CodeOk code) (h:SrcI code a s) :
  EvQ (fun n=>qhf n ⟨code,a,s⟩ most wild) (fun o=>DesI o.1∧SrcI code o.2.1 o.2.2):=by
 have z:∀ x:Int,-1000≤x→x≤1000→okI x:=fun x h1 h2=>qV (by omega) (by omega)
 unfold qhf
 refine EvQ.bindN (qhe (by simp)) (EvQ.bind (qao _ hc h) ?_)
 rintro ⟨i1,i2,i3⟩ ⟨⟨⟨q0,q1⟩,_⟩,hs⟩
 have em:W64 (most-1)=most-1:=qaT (by omega) (by omega)
 rw [em] at q1
 dsimp only at q0 q1 hs ⊢
 have q2:=q1 (by omega)
 obtain ⟨m,hm⟩:∃ m:Nat,2+i1=(m:Int):=⟨(2+i1).toNat,by omega⟩
 rw [wO (2+i1),hm]
 have hn0:∀ y,y ∈ [(⟨#[110,99,107]⟩:ByteArray),(⟨#[110,97]⟩:ByteArray),(⟨#[110,98]⟩:ByteArray)]→okS y:=by
  intro y hy
  simp only [jI,jz,or_false] at hy
  rcases hy with rfl|rfl|rfl
  ·show (3:Nat)≤1048576;decide
  ·show (2:Nat)≤1048576;decide
  ·show (2:Nat)≤1048576;decide
 refine EvQ.bind (qpL hc m _ [] i2 i3 hs (by simp;omega) rfl hn0 (fun _ h=>by cases h)) ?_
 rintro ⟨x2,x3,i4,i5,i6⟩ ⟨⟨l23,l3,hn,hi⟩,hs⟩
 dsimp only at l23 l3 hn hi hs ⊢
 have l3:x3.length=m:=by simpa using l3
 refine EvQ.bind (qqG (wild:=wild) (by omega) (by omega) hc x3.length 0 x3 i4 i5 hs (by omega) rfl hi) ?_
 rintro ⟨x13,i20,i21,i22⟩ ⟨⟨l13,h13⟩,hs⟩
 dsimp only at l13 h13 hs ⊢
 have hp:∀ y,y ∈ [(⟨(⟨#[99,107]⟩:ByteArray),1,0⟩:qC),(⟨(⟨#[97]⟩:ByteArray),1,1⟩:qC),(⟨(⟨#[98]⟩:ByteArray),1,2⟩:qC)]→qmr y:=by
  intro y hy
  simp only [jI,jz,or_false] at hy
  rcases hy with rfl|rfl|rfl
  ·exact ⟨by show (2:Nat)≤1048576;decide,z _ (by decide) (by decide),z _ (by decide) (by decide)⟩
  ·exact ⟨by show (1:Nat)≤1048576;decide,z _ (by decide) (by decide),z _ (by decide) (by decide)⟩
  ·exact ⟨by show (1:Nat)≤1048576;decide,z _ (by decide) (by decide),z _ (by decide) (by decide)⟩
 refine EvQ.bindN (qhe (by simp)) (EvQ.bindN (qbN (by simp)) (EvQ.bind (qao 2 hc hs) ?_))
 have hp2:=qbm (y:=(⟨(⟨#[121]⟩:ByteArray),2,W64 ((x2.length:Int)-1)⟩:qC)) hp ⟨by show (1:Nat)≤1048576;decide,z 2 (by decide) (by decide),qcO _⟩
 have fin:∀ {ps:List qC},1≤ps.length→ps.length≤8→(∀ y,y ∈ ps→qmr y)→DesI ⟨x13,x2,ps⟩:=fun {ps} h1 h8 hps=>by
  refine ⟨⟨⟨by show x13.length≤_;omega,fun y hy=>(h13 y hy).ok⟩,⟨by show x2.length≤_;omega,hn⟩,⟨by show ps.length≤_;omega,hps⟩⟩,⟨by show x13.length≤_;omega,by show x2.length≤_;omega,h8,fun i hi=>?_⟩,by show 1≤x2.length;omega,h1⟩
  have hi':i<x13.length:=hi
  have:=h13 _ (jq hi')
  show 2≤(gt x13 i).Aj.length∧(gt x13 i).Aj.length≤5
  rw [qg8 hi']
  exact ⟨this.l2,this.l5⟩
 rintro ⟨i31,i32,i33⟩ ⟨_,hs⟩
 refine EvQ.bif (fun _=>?_) (fun _=>EvQ.done ⟨fin (by simp) (by simp) hp2,hs⟩)
 refine EvQ.bind (qao _ hc hs) ?_
 rintro ⟨i34,i35,i36⟩ ⟨_,hs⟩
 exact EvQ.bindN (qbN (by simp)) (EvQ.done ⟨fin (by simp) (by simp) (qbm hp2 ⟨by show (1:Nat)≤1048576;decide,z 2 (by decide) (by decide),qcO _⟩),hs⟩)
end
end Go.Fw


namespace Go.Fw
open Go
set_option maxRecDepth 100000
section
variable {code:List (IntK .u8)} {a s:Int}
structure WirI (x:qR):Prop where
 ok:qj7 x
 p1:1≤x.Ak.length∧x.Ak.length≤100
 r1:1≤x.Be.length
 c1:1≤x.Bd.length
 s1:x.Av.length≤100
theorem qlb {xs:List Int} (h:xs.length≤1048576):Ev (fun n=>qeE n xs) xs:=by
 unfold qeE
 exact Ev.bindN (qhe h) .done
theorem qpG (hc:CodeOk code):∀ (r:Nat) (x1 x2 x3:List Int) (a' s':Int),SrcI code a' s'→r≤10→(1≤x1.length∧x1.length+r≤50)→(1≤x2.length∧x2.length+r≤50)→(1≤x3.length∧x3.length+r≤50) →
  (∀ y,y ∈ x1→okI y)→(∀ y,y ∈ x2→okI y)→(∀ y,y ∈ x3→okI y) →
  EvQ (fun n=>qca ⟨code,a,s⟩ n x1 x2 x3 a' s' (r:Int)) (fun o=>(((1≤o.1.length∧o.1.length≤50)∧∀ y,y ∈ o.1→okI y)∧((1≤o.2.1.length∧o.2.1.length≤50)∧∀ y,y ∈ o.2.1→okI y)∧(1≤o.2.2.1.length∧o.2.2.1.length≤50)∧∀ y,y ∈ o.2.2.1→okI y)∧SrcI code o.2.2.2.1 o.2.2.2.2.1):=by
 intro r
 induction r with
 | zero =>
  intro x1 x2 x3 a' s' hs hr l1 l2 l3 h1 h2 h3
  refine EvQ.succ ?_
  simp only [qca]
  exact EvQ.ff rfl (EvQ.done ⟨⟨⟨⟨l1.1,by dsimp only;omega⟩,h1⟩,⟨⟨l2.1,by dsimp only;omega⟩,h2⟩,⟨l3.1,by dsimp only;omega⟩,h3⟩,hs⟩)
 | succ r ih =>
  intro x1 x2 x3 a' s' hs hr l1 l2 l3 h1 h2 h3
  have e:W64 (((r+1:Nat):Int)-1)=(r:Int):=by rw [qaT (by omega) (by omega)];omega
  have ok_n:∀ {x:Int} {k:Int},0≤x→x<k→k≤1000→okI x:=fun h0 h1 h2=>qV (by omega) (by omega)
  refine EvQ.succ ?_
  simp only [qca,e]
  refine EvQ.tt (by simp) (EvQ.bindE (qlb (by omega)) (EvQ.bind (qao _ hc hs) ?_))
  rintro ⟨i10,i11,i12⟩ ⟨⟨⟨p0,p1⟩,_⟩,hs⟩
  refine EvQ.bindN (qbN (by omega)) (EvQ.bindE (qlb (by omega)) (EvQ.bind (qao _ hc hs) ?_))
  rintro ⟨i13,i14,i15⟩ ⟨⟨⟨q0,q1⟩,_⟩,hs⟩
  refine EvQ.bindN (qbN (by omega)) (EvQ.bindE (qlb (by omega)) (EvQ.bind (qao _ hc hs) ?_))
  rintro ⟨i16,i17,i18⟩ ⟨⟨⟨t0,t1⟩,_⟩,hs⟩
  dsimp only at p0 p1 q0 q1 t0 t1 hs
  refine EvQ.bindN (qbN (by omega)) ?_
  exact ih _ _ _ _ _ hs (by omega) (by rw [jg,jj];omega) (by rw [jg,jj];omega) (by rw [jg,jj];omega)
   (qbm h1 (ok_n t0 (t1 (by decide)) (by decide))) (qbm h2 (ok_n q0 (q1 (by decide)) (by decide))) (qbm h3 (ok_n p0 (p1 (by omega)) (by omega)))
theorem qpT {r1:qR} {x3:List Int} (hc:CodeOk code) (hl:r1.Av.length≤100) (h3:1≤x3.length∧x3.length≤50):∀ (d j:Nat) (x:List Int) (a' s':Int),SrcI code a' s'→j+d=r1.Av.length→x.length=r1.Av.length→(∀ y,y ∈ x→okI y) →
  EvQ (fun n=>qcb ⟨code,a,s⟩ r1 x3 n x a' s' (j:Int)) (fun o=>(o.1.length=r1.Av.length∧∀ y,y ∈ o.1→okI y)∧SrcI code o.2.1 o.2.2.1):=by
 intro d
 induction d with
 | zero =>
  intro j x a' s' hs hj hx hok
  refine EvQ.succ ?_
  simp only [qcb]
  exact EvQ.ff (qt (by omega)) (EvQ.done ⟨⟨hx,hok⟩,hs⟩)
 | succ d ih =>
  intro j x a' s' hs hj hx hok
  refine EvQ.succ ?_
  simp only [qcb,wS j]
  refine EvQ.tt (qr (by omega)) (EvQ.bind (qao _ hc hs) ?_)
  rintro ⟨i22,i23,i24⟩ ⟨⟨⟨q0,q1⟩,_⟩,hs⟩
  dsimp only at q0 q1 hs ⊢
  have q2:=q1 (by omega)
  exact EvQ.bindN (qaS (show j<x.length by omega)) (ih (j+1) _ _ _ hs (by omega) (by rw [qcI];exact hx) (qf3 hok (qV (by omega) (by omega))))
theorem qqm {m:Nat} (hm:m≤100) (hc:CodeOk code) (h:SrcI code a s):EvQ (fun n=>qfg n ⟨code,a,s⟩ (m:Int)) (fun o=>WirI o.1∧SrcI code o.2.1 o.2.2):=by
 have z:∀ x:Int,-1000≤x→x≤1000→okI x:=fun x h1 h2=>qV (by omega) (by omega)
 unfold qfg
 refine EvQ.bind (qao 6 hc h) ?_
 rintro ⟨i1,i2,i3⟩ ⟨⟨⟨p0,p1⟩,_⟩,hs⟩
 dsimp only at p0 p1 hs ⊢
 have p2:=p1 (by decide)
 have hL:Ev (fun n=>qga n (m:Int) i1) (⟨[-1],[0],[i1],List.replicate m 0⟩:qR):=by
  unfold qga
  exact Ev.bindN (qmA (by omega)) .done
 refine EvQ.bindE hL (EvQ.bind (qao 4 hc hs) ?_)
 rintro ⟨i4,i5,i6⟩ ⟨⟨⟨q0,q1⟩,_⟩,hs⟩
 dsimp only at q0 q1 hs ⊢
 have q2:=q1 (by decide)
 obtain ⟨r,rfl⟩:∃ r:Nat,i4=(r:Int):=⟨i4.toNat,by omega⟩
 have one:∀ {x:Int},okI x→∀ y,y ∈ [x]→okI y:=fun hx y hy=>by obtain rfl:=List.mem_singleton.1 hy;exact hx
 refine EvQ.bind (qpG hc r [i1] [0] [-1] i5 i6 hs (by omega) (by simp;omega) (by simp;omega) (by simp;omega) (one (z _ (by omega) (by omega))) (one (z _ (by decide) (by decide))) (one (z _ (by decide) (by decide)))) ?_
 rintro ⟨x1,x2,x3,i7,i8,i9⟩ ⟨⟨⟨l1,h1⟩,⟨l2,h2⟩,l3,h3⟩,hs⟩
 dsimp only at l1 h1 l2 h2 l3 h3 hs ⊢
 refine EvQ.bind (qpT (r1:=⟨[-1],[0],[i1],List.replicate m 0⟩) hc (by simp;omega) l3 m 0 (List.replicate m 0) i7 i8 hs (by simp) rfl (fun y hy=>by obtain ⟨_,rfl⟩:=List.mem_replicate.1 hy;exact z _ (by decide) (by decide))) ?_
 rintro ⟨x7,i19,i20,i21⟩ ⟨⟨l7,h7⟩,hs⟩
 have l7:x7.length=m:=by simpa using l7
 exact EvQ.done ⟨⟨⟨⟨by show x3.length≤_;omega,h3⟩,⟨by show x2.length≤_;omega,h2⟩,⟨by show x1.length≤_;omega,h1⟩,⟨by show x7.length≤_;omega,h7⟩⟩,⟨l3.1,by show x3.length≤_;omega⟩,l2.1,l1.1,by show x7.length≤_;omega⟩,hs⟩
structure BlkI (b:qc):Prop where
 lib:qfe b.Ac
 des:DesI b.Aa
 wl:b.Ah.length=b.Aa.Aj.length
 wi:∀ y,y ∈ b.Ah→WirI y
theorem BlkI.ok {b:qc} (h:BlkI b):qct b:=⟨h.lib,h.des.ok,⟨by rw [h.wl];exact h.des.ok.Aj.1,fun y hy=>(h.wi y hy).ok⟩⟩
theorem qoc {most:Int} {wild:Bool} (h2:2≤most) (h14:most≤14) (hc:CodeOk code) (h:SrcI code a s) :
  EvQ (fun n=>qgj n ⟨code,a,s⟩ most wild) (fun o=>BlkI o.1∧SrcI code o.2.1 o.2.2):=by
 unfold qgj
 refine EvQ.bind (qqD hc h) ?_
 rintro ⟨r1,i1,i2⟩ ⟨hl,hs⟩
 refine EvQ.bind (qpi h2 h14 hc hs) ?_
 rintro ⟨r2,i3,i4⟩ ⟨hd,hs⟩
 dsimp only at hl hd hs ⊢
 have hnn:=hd.sm.nn
 have hpl:=qaG hd.sm
 have main:∀ (d j:Nat) (x:List qR) (a' s':Int),SrcI code a' s'→j+d=r2.Aj.length→x.length=j→(∀ y,y ∈ x→WirI y) →
   EvQ (fun n=>qdI ⟨code,a,s⟩ r2 n x a' s' (j:Int)) (fun o=>(o.1.length=r2.Aj.length∧∀ y,y ∈ o.1→WirI y)∧SrcI code o.2.1 o.2.2.1):=by
  intro d
  induction d with
  | zero =>
   intro j x a' s' hs hj hx hok
   refine EvQ.succ ?_
   simp only [qdI]
   exact EvQ.ff (qt (by omega)) (EvQ.done ⟨⟨by dsimp only;omega,hok⟩,hs⟩)
  | succ d ih =>
   intro j x a' s' hs hj hx hok
   refine EvQ.succ ?_
   simp only [qdI,wS j]
   have hsl:(sinksL r2 (j:Int) (places r2).length).length≤78:=by
    have:(sinksL r2 (j:Int) (places r2).length).length≤(places r2).length:=by
     unfold sinksL
     rw [jB]
     refine jR (List.length_filter_le _ _) ?_
     rw [List.length_range];exact jf _
    omega
   refine EvQ.tt (qr (by omega)) (EvQ.bindE (qiO hd.sm) (EvQ.bind (qqm (by omega) hc hs) ?_))
   rintro ⟨r4,i8,i9⟩ ⟨h4,hs⟩
   exact EvQ.bindN (qbN (by omega)) (ih (j+1) _ _ _ hs (by omega) (by rw [jg,jj];omega) (qbm hok h4))
 refine EvQ.bind (main r2.Aj.length 0 [] i3 i4 hs (by omega) rfl (fun _ h=>by cases h)) ?_
 rintro ⟨x1,i5,i6,i7⟩ ⟨⟨l1,h1⟩,hs⟩
 exact EvQ.done ⟨⟨hl,hd,l1,h1⟩,hs⟩
structure BlkO (b:qc):Prop where
 ok:qct b
 sm:smallD b.Aa
theorem qnz (hc:CodeOk code) (h:SrcI code a s):EvQ (fun n=>qfI n ⟨code,a,s⟩) (fun o=>BlkO o.1∧SrcI code o.2.1 o.2.2):=by
 unfold qfI
 refine EvQ.bind (qao 3 hc h) ?_
 rintro ⟨i1,i2,i3⟩ ⟨_,hs⟩
 refine EvQ.bind (qoc (by decide) (by decide) hc hs) ?_
 rintro ⟨r1,i4,i5⟩ ⟨hb,hs⟩
 dsimp only at hb hs ⊢
 have hw1:1≤r1.Ah.length:=by rw [hb.wl];exact hb.des.n1
 have hw2:r1.Ah.length≤30:=by rw [hb.wl];exact hb.des.sm.nn
 refine EvQ.bind (qao _ hc hs) ?_
 rintro ⟨i6,i7,i8⟩ ⟨⟨⟨q0,q1⟩,_⟩,hs⟩
 dsimp only at q0 q1 hs ⊢
 have q2:=q1 (by omega)
 obtain ⟨k,rfl⟩:∃ k:Nat,i6=(k:Int):=⟨i6.toNat,by omega⟩
 have hk:k<r1.Ah.length:=by omega
 have hy:=hb.wi _ (jq hk)
 have W:∀ {y:qR},qj7 y→BlkO ⟨r1.Ac,r1.Aa,setS r1.Ah (k:Int) y⟩:=fun {y} h=>⟨⟨hb.lib,hb.des.ok,⟨by show (setS _ _ _).length≤_;rw [qcI];omega,qf3 (fun y hy=>(hb.wi y hy).ok) h⟩⟩,hb.des.sm⟩
 have z:∀ x:Int,-1000≤x→x≤1000→okI x:=fun x h1 h2=>qV (by omega) (by omega)
 have hp:=hy.p1
 have hr:=hy.r1
 have hcp:=hy.c1
 have hsk:=hy.s1
 refine EvQ.bind (qao 20 hc hs) ?_
 rintro ⟨i9,i10,i11⟩ ⟨_,hs⟩
 dsimp only at hs ⊢
 refine EvQ.bif (fun _=>?_) (fun _=>EvQ.bif (fun _=>?_) (fun _=>EvQ.bif (fun _=>?_) (fun _=>EvQ.bif (fun _=>?_) (fun _=>EvQ.bif (fun _=>?_) (fun _=>EvQ.bif (fun _=>?_) (fun _=>EvQ.done ⟨⟨hb.ok,hb.des.sm⟩,hs⟩))))))
 ·have e:subS r1.Ah 1 (r1.Ah.length:Int)=some (r1.Ah.drop 1):=by
   unfold subS
   rw [if_pos (by omega)]
   simp
  refine EvQ.bindN e (EvQ.done ⟨⟨⟨hb.lib,hb.des.ok,⟨by show (r1.Ah.drop 1).length≤_;rw [List.length_drop];omega,fun y hy=>(hb.wi y (List.mem_of_mem_drop hy)).ok⟩⟩,hb.des.sm⟩,hs⟩)
 ·refine EvQ.bindN (qaS hk) (EvQ.bindE (qlb (by omega)) (EvQ.bindN (qbN (by omega)) (EvQ.done ⟨W ⟨hy.ok.Ak,hy.ok.Be,hy.ok.Bd,⟨by show (_++_:List Int).length≤_;rw [jg,jj];omega,qbm hy.ok.Av.2 (z _ (by decide) (by decide))⟩⟩,hs⟩)))
 ·refine EvQ.bindN (qaS hk) (EvQ.bindN (qaS (j:=0) (show 0<r1.Ah[k].Be.length by omega)) (EvQ.done ⟨W ⟨hy.ok.Ak,⟨by show (setS _ _ _).length≤_;rw [qcI];exact hy.ok.Be.1,qf3 hy.ok.Be.2 (z _ (by decide) (by decide))⟩,hy.ok.Bd,hy.ok.Av⟩,hs⟩))
 ·refine EvQ.bindN (qaS hk) (EvQ.bind (qao 3 hc hs) ?_)
  rintro ⟨i12,i13,i14⟩ ⟨⟨⟨t0,t1⟩,_⟩,hs⟩
  dsimp only at t0 t1 hs ⊢
  have t2:=t1 (by decide)
  have:i12=0∨i12=1∨i12=2:=by omega
  have hv:∃ v:Int,idx ([(-1),500,501]:List Int) i12=some v∧okI v:=by
   rcases this with rfl|rfl|rfl
   ·exact ⟨_,rfl,z _ (by decide) (by decide)⟩
   ·exact ⟨_,rfl,z _ (by decide) (by decide)⟩
   ·exact ⟨_,rfl,z _ (by decide) (by decide)⟩
  obtain ⟨v,hv1,hv2⟩:=hv
  exact EvQ.bindN hv1 (EvQ.bindN (qaS (j:=0) (show 0<r1.Ah[k].Bd.length by omega)) (EvQ.done ⟨W ⟨hy.ok.Ak,hy.ok.Be,⟨by show (setS _ _ _).length≤_;rw [qcI];exact hy.ok.Bd.1,qf3 hy.ok.Bd.2 hv2⟩,hy.ok.Av⟩,hs⟩))
 ·refine EvQ.bindN (qaS hk) (EvQ.bind (qao 5 hc hs) ?_)
  rintro ⟨i15,i16,i17⟩ ⟨_,hs⟩
  have e:W64 ((r1.Ah[k].Ak.length:Int)-1)=((r1.Ah[k].Ak.length-1:Nat):Int):=by rw [qaT (by omega) (by omega)];omega
  dsimp only
  rw [e]
  exact EvQ.bindN (qaS (show r1.Ah[k].Ak.length-1<r1.Ah[k].Ak.length by omega)) (EvQ.done ⟨W ⟨⟨by show (setS _ _ _).length≤_;rw [qcI];exact hy.ok.Ak.1,qf3 hy.ok.Ak.2 (qcO _)⟩,hy.ok.Be,hy.ok.Bd,hy.ok.Av⟩,hs⟩)
 ·have hp1:=hb.des.p1
  refine EvQ.bindN (qaS (j:=0) (show 0<r1.Aa.Af.length by omega)) (EvQ.done ⟨⟨⟨hb.lib,⟨hb.des.ok.Ab,hb.des.ok.Aj,⟨by show (setS _ _ _).length≤_;rw [qcI];exact hb.des.ok.Af.1,qf3 hb.des.ok.Af.2 ⟨(hb.des.ok.Af.2 _ (jq _)).Au,z 3 (by decide) (by decide),(hb.des.ok.Af.2 _ (jq _)).Bq⟩⟩⟩,hb.ok.Ah⟩,⟨hb.des.sm.ni,hb.des.sm.nn,by show (setS _ _ _).length≤_;rw [qcI];exact hb.des.sm.np,hb.des.sm.nx⟩⟩,hs⟩)
theorem qqh (hc:CodeOk code) (h:SrcI code a s):EvQ (fun n=>qhm n ⟨code,a,s⟩) (fun o=>BlkO o.1∧SrcI code o.2.1 o.2.2):=by
 unfold qhm
 refine EvQ.bind (qao 16 hc h) ?_
 rintro ⟨i1,i2,i3⟩ ⟨_,hs⟩
 refine EvQ.bif (fun _=>EvQ.bind (qnz hc hs) ?_) (fun _=>EvQ.bind (qao 7 hc hs) ?_)
 ·rintro ⟨r1,i4,i5⟩ h1
  exact EvQ.done h1
 rintro ⟨i6,i7,i8⟩ ⟨⟨⟨q0,q1⟩,_⟩,hs⟩
 dsimp only at q0 q1 hs ⊢
 have q2:=q1 (by decide)
 refine EvQ.bind (qao 8 hc hs) ?_
 rintro ⟨i9,i10,i11⟩ ⟨_,hs⟩
 dsimp only at hs ⊢
 rw [wO (2+i6)]
 refine EvQ.bind (qoc (by omega) (by omega) hc hs) ?_
 rintro ⟨r2,i12,i13⟩ ⟨hb,hs⟩
 exact EvQ.done ⟨⟨hb.ok,hb.des.sm⟩,hs⟩
end
end Go.Fw


namespace Go.Fw
open Go
set_option maxRecDepth 100000
theorem qe8 {b:qc} (h:blockB b=true):Ev (fun n=>qaw n b) ((places b.Aa).length:Int):=by
 unfold qaw
 exact Ev.bind (qe9 (qW (qav h))) (Ev.now (by rw [jB]))
end Go.Fw
