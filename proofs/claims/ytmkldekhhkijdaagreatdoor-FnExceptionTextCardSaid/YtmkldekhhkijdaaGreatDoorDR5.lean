/- By a program of mine (gen.py): for each function a plain function and the proof that the code computes it. -/
import Derived.Test.YtmkldekhhkijdaaGreatDoorGC
import Derived.Test.YtmkldekhhkijdaaGreatDoorP1
import Derived.Test.YtmkldekhhkijdaaGreatDoorFw33
open Option renaming bind_some → je
open Nat renaming le_refl → jf, le_of_ble_eq_true → js, mul_le_mul_right → jt, lt_of_lt_of_le → jw, zero_le → jB, succ_mul → jJ, le_trans → jV, zero_add → jW
open List renaming length_append → jg, length_singleton → ji, mem_cons_of_mem → jk, getElem?_eq_getElem → jm, mem_cons_self → jq, getElem_mem → jr, mem_of_getElem? → ju, length_cons → jv, getD_eq_getElem?_getD → jx, length_map → jy, not_mem_nil → jA, getElem?_append_left → jD, drop_eq_getElem_cons → jE, getElem?_take → jF, eq_nil_of_length_eq_zero → jG, append_assoc → jI, getElem?_toArray → jK, getElem?_append_right → jL, mem_cons → jM, size_toArray → jO, getElem_of_mem → jQ, append_nil → jR, all_eq_true → jS, take_length → jT
open Bool renaming and_eq_true → jh, eq_iff_iff → jp, true_and → jC, not_eq_true' → jH, not_true → jU
open Go.Result renaming andThen_ok → jj
open Go.Sem renaming run_bind → jl, run_pure → jo
open Int renaming toNat_natCast → jz
open Array renaming length_toList → jN, getElem?_append_left → jP

namespace Go.Fw
open Go Go.Proofs
open Go.RowKit (Below)
set_option maxRecDepth 100000
set_option maxHeartbeats 6400000
variable {n:Nat} {w:World} {cs1 cs2 cs3 cs4 cs5 cs6 cs7 cs8 cs9:List Value}
def qaL (a_0:Tl01Source) (a_2:(List Int)):Nat→(List Int)→Int→Int→Int→Option ((List Int) × Int × Int × Int)
 | 0,_,_,_,_=>none
 | n+1,x3,i13,i14,i15 =>
  bif decide (i15<(a_2.length:Int)) then
   (
    bif decide ((x3.length:Int)<2) then
     (qk n (⟨a_0.code,i13,i14⟩:Tl01Source) 5).bind fun o=>match o with
      | (i18,i19,i20) =>
       some (i19,i20,(i18==0))
    else
     some (i13,i14,false)).bind fun o=>match o with
    | (i16,i17,b1) =>
     bif b1 then
      (idx a_2 i15).bind fun y1 =>
      (appS x3 ([y1]:List Int)).bind fun x4 =>
      (appS ([]:List Int) x4).bind fun x5 =>
      qaL a_0 a_2 n x5 i16 i17 (W64 (i15+1))
     else
      qaL a_0 a_2 n x3 i16 i17 (W64 (i15+1))
  else
   some (x3,i13,i14,i15)
def qdn (n:Nat) (a_0:Tl01Source) (a_1:qc) (a_2:(List Int)):Option (qa × Int × Int) :=
 (qk n (⟨a_0.code,a_0.at_,a_0.seed⟩:Tl01Source) 4).bind fun o=>match o with
  | (i1,i2,i3) =>
   (
    bif ((W64 (1+i1))==2) then
     (qk n (⟨a_0.code,i2,i3⟩:Tl01Source) 4).bind fun o=>match o with
      | (i33,i34,i35) =>
       some (i34,i35,W64 (1+i33))
    else
     bif ((W64 (1+i1))==3) then
      bif ((W64 (1+i1))==3) then
       (qk n (⟨a_0.code,i2,i3⟩:Tl01Source) 40).bind fun o=>match o with
        | (i36,i37,i38) =>
         some (i37,i38,W64 (10*i36))
      else
       some (i2,i3,0)
     else
      bif ((W64 (1+i1))==4) then
       (qk n (⟨a_0.code,i2,i3⟩:Tl01Source) 40).bind fun o=>match o with
        | (i39,i40,i41) =>
         some (i40,i41,W64 (10*i39))
      else
       some (i2,i3,0)).bind fun o=>match o with
    | (i4,i5,i6) =>
     (qk n (⟨a_0.code,i4,i5⟩:Tl01Source) 2).bind fun o=>match o with
      | (i7,i8,i9) =>
       (
        bif (i7==0) then
         (idx a_2 0).bind fun y3 =>
         some ([y3]:List Int)
        else
         some ([]:List Int)).bind fun x1 =>
       (qk n (⟨a_0.code,i8,i9⟩:Tl01Source) 2).bind fun o=>match o with
        | (i10,i11,i12) =>
         (
          bif (i10==0) then
           (idx a_2 (W64 ((a_2.length:Int)-1))).bind fun y2 =>
           some ([y2]:List Int)
          else
           some ([]:List Int)).bind fun x2 =>
         (qaL a_0 a_2 n ([]:List Int) i11 i12 0).bind fun o=>match o with
         | (x3,i13,i14,_) =>
          (qk n (⟨a_0.code,i13,i14⟩:Tl01Source) 12).bind fun o=>match o with
           | (i21,i22,i23) =>
            bif (i21==0) then
             (qaB n a_1).bind fun r1 =>
             (qk n (⟨a_0.code,i22,i23⟩:Tl01Source) r1).bind fun o=>match o with
              | (i24,i25,i26) =>
               some ((⟨W64 (1+i1),i6,([i24]:List Int),x3,x2⟩:qa),i25,i26)
            else
             bif (i21==1) then
              (qaB n a_1).bind fun r2 =>
              (qk n (⟨a_0.code,i22,i23⟩:Tl01Source) r2).bind fun o=>match o with
               | (i27,i28,i29) =>
                some ((⟨W64 (1+i1),i6,x1,x3,([i27]:List Int)⟩:qa),i28,i29)
             else
              bif (i21==2) then
               (qaB n a_1).bind fun r3 =>
               (qk n (⟨a_0.code,i22,i23⟩:Tl01Source) r3).bind fun o=>match o with
                | (i30,i31,i32) =>
                 some ((⟨W64 (1+i1),i6,x1,([i30]:List Int),x2⟩:qa),i31,i32)
              else
               some ((⟨W64 (1+i1),i6,x1,x3,x2⟩:qa),i22,i23)
theorem qha {n:Nat} {w0 w:World} {F:List Ch} {a_0:Tl01Source} {bb1:Nat} {p1:Option Addr} {k1:Nat} {a_1:qc} {cs1:List Value} {a_2:(List Int)} {cs2:List Value} (h0:SH w0 w (Ch.box bb1 (qaf a_0 p1 k1) 225::F)) (ha1:GoT.R w (Fr w0 F) a_0 [.slice p1 a_0.code.length k1,.int .i64 a_0.at_,.int .i64 a_0.seed]) (ha2:GoT.R w (Fr w0 F) a_1 cs1) (ha3:GoT.R w (Fr w0 F) a_2 cs2) {r:(qa × Int × Int)} (hF:qdn n a_0 a_1 a_2=some r):RetW Tryz.prog 163 [.pointer (some ⟨bb1,0,none⟩),GoT.v qc cs1,GoT.v (List Int) cs2] w (fun us w'=>∃ (S1:Nat→Prop) (cs3:List Value),us=[GoT.v qa cs3]∧SH w0 w' (Ch.own S1 (r.1:qa) cs3::Ch.box bb1 [.slice p1 a_0.code.length k1,.int .i64 r.2.1,.int .i64 r.2.2] 225::F)):=by
 have h:=SH.frm1 h0 ha1
 have hz1:=ha2
 obtain ⟨p2,k2,p3,k3,p4,k4,p5,k5,p6,k6,rfl,s1,s2,s3,s4,s5⟩:=qT ha2
 replace h:=h.grpAdd 1 rfl hz1
 have hz2:=ha3
 obtain ⟨p7,k7,rfl,s6⟩:=ha3
 replace h:=h.grpAdd 1 rfl hz2
 replace h:SH _ _ [Ch.box bb1 (qaf a_0 p1 k1) 225,Ch.grp (old w0) (FS F) [fct (a_2:(List Int)) [.slice p7 a_2.length k7],fct (a_1:qc) [.slice p2 a_1.Ac.Ai.length k2,.slice p3 a_1.Aa.Ab.length k3,.slice p4 a_1.Aa.Aj.length k4,.slice p5 a_1.Aa.Af.length k5,.slice p6 a_1.Ah.length k6],fct (a_0:Tl01Source) [.slice p1 a_0.code.length k1,.int .i64 a_0.at_,.int .i64 a_0.seed],same w0 w F]]:=h
 refine qa7 Tryz.func163 rfl (m:=108) rfl rfl (zSR (qO h rfl rfl fun w1 bb2 h=>qx qb h rfl rfl rfl fun w2 bb3 h=>X0 4 rfl ?_))
 replace h:=h.pick [2,0,1,3] rfl
 obtain ⟨o1,hr1,hF⟩:=qe hF
 obtain ⟨i1,i2,i3⟩:=o1
 refine qt (cB 132 rfl) (qh (a_0:=(⟨a_0.code,a_0.at_,a_0.seed⟩:Tl01Source)) (a_1:=4) h (show GoT.R _ _ ((⟨a_0.code,a_0.at_,a_0.seed⟩:Tl01Source):Tl01Source) _ from ⟨[.slice p1 a_0.code.length k1],[.int .i64 a_0.at_,.int .i64 a_0.seed],rfl,⟨_,_,rfl,(qf (h.frG 3 2 1 rfl rfl rfl)).1⟩,⟨[.int .i64 a_0.at_],[.int .i64 a_0.seed],rfl,rfl,rfl⟩⟩) hr1) rfl rfl rfl rfl ?_
 rintro w3 us1 ⟨rfl,h⟩
 dsimp only at h
 refine zp1 rfl (r_v (qah qb [0] [.tmp 11] rfl rfl rfl rfl rfl rfl rfl rfl) rfl (qx qb h rfl rfl rfl fun w4 bb4 h=>zs 0 h rfl fun w5 h=>X1 13 0 h rfl ?_))
 obtain ⟨KF4,hKF4,o13,hF,hK5⟩:=bindE hF
 refine qa2 (fun e w'=>∃ (i4:Int) (i5:Int) (i6:Int),KF4 (i4,i5,i6)=some r∧e=[(0,.pointer (some ⟨bb1,0,none⟩)),(2,.slice p7 a_2.length k7),(4,.pointer (some ⟨bb2,0,none⟩)),(6,.pointer (some ⟨bb3,0,none⟩)),(7,.pointer (some ⟨bb4,0,none⟩))]∧SH w0 w' [Ch.box bb1 [.slice p1 a_0.code.length k1,.int .i64 i4,.int .i64 i5] 225,Ch.box bb4 [.int .i64 (W64 (1+i1)),.int .i64 i6,.slice none 0 0,.slice none 0 0,.slice none 0 0] 50,Ch.box bb3 [.int .i64 0,.int .i64 0,.slice none 0 0,.slice none 0 0,.slice none 0 0] 50,Ch.box bb2 (qz a_1 p2 p3 p4 p5 p6 k2 k3 k4 k5 k6) 48,Ch.grp (old w0) (FS F) [fct (a_2:(List Int)) [.slice p7 a_2.length k7],fct (a_1:qc) [.slice p2 a_1.Ac.Ai.length k2,.slice p3 a_1.Aa.Ab.length k3,.slice p4 a_1.Aa.Aj.length k4,.slice p5 a_1.Aa.Af.length k5,.slice p6 a_1.Ah.length k6],fct (a_0:Tl01Source) [.slice p1 a_0.code.length k1,.int .i64 a_0.at_,.int .i64 a_0.seed],same w0 w F]]) ?_ ?_
 ·refine qm rfl hF ?_ ?_<;>intro hF
  ·refine X0 2 rfl ?_
   replace h:=h.pick [1,0,2,3,4] rfl
   obtain ⟨o14,hr17,hF⟩:=qe hF
   obtain ⟨i33,i34,i35⟩:=o14
   refine qt (cB 132 rfl) (qh (a_0:=(⟨a_0.code,i2,i3⟩:Tl01Source)) (a_1:=4) h (show GoT.R _ _ ((⟨a_0.code,i2,i3⟩:Tl01Source):Tl01Source) _ from ⟨[.slice p1 a_0.code.length k1],[.int .i64 i2,.int .i64 i3],rfl,⟨_,_,rfl,(qf (h.frG 4 2 1 rfl rfl rfl)).1⟩,⟨[.int .i64 i2],[.int .i64 i3],rfl,rfl,rfl⟩⟩) hr17) rfl rfl rfl rfl ?_
   rintro w79 us9 ⟨rfl,h⟩
   dsimp only at h
   refine zp2 rfl (zs 1 h rfl fun w80 h=>qa5 ?_)
   obtain rfl:=qd hF
   exact rG ⟨_,_,_,hK5,rfl,h⟩ rfl
  refine X0 6 rfl (qm rfl hF ?_ ?_)<;>intro hF
  ·refine qcV (qm rfl hF ?_ ?_)<;>intro hF
   ·refine X0 2 rfl ?_
    replace h:=h.pick [1,0,2,3,4] rfl
    obtain ⟨o15,hr18,hF⟩:=qe hF
    obtain ⟨i36,i37,i38⟩:=o15
    refine qt (cB 132 rfl) (qh (a_0:=(⟨a_0.code,i2,i3⟩:Tl01Source)) (a_1:=40) h (show GoT.R _ _ ((⟨a_0.code,i2,i3⟩:Tl01Source):Tl01Source) _ from ⟨[.slice p1 a_0.code.length k1],[.int .i64 i2,.int .i64 i3],rfl,⟨_,_,rfl,(qf (h.frG 4 2 1 rfl rfl rfl)).1⟩,⟨[.int .i64 i2],[.int .i64 i3],rfl,rfl,rfl⟩⟩) hr18) rfl rfl rfl rfl ?_
    rintro w81 us10 ⟨rfl,h⟩
    dsimp only at h
    refine zp2 rfl (zs 1 h rfl fun w82 h=>qa5 ?_)
    obtain rfl:=qd hF
    exact rG ⟨_,_,_,hK5,rfl,h⟩ rfl
   refine qcV ?_
   replace h:=h.pick [1,0,2,3,4] rfl
   obtain rfl:=qd hF
   exact rG ⟨_,_,_,hK5,rfl,h⟩ rfl
  refine X0 4 rfl (qm rfl hF ?_ ?_)<;>intro hF
  ·refine X0 2 rfl ?_
   replace h:=h.pick [1,0,2,3,4] rfl
   obtain ⟨o16,hr19,hF⟩:=qe hF
   obtain ⟨i39,i40,i41⟩:=o16
   refine qt (cB 132 rfl) (qh (a_0:=(⟨a_0.code,i2,i3⟩:Tl01Source)) (a_1:=40) h (show GoT.R _ _ ((⟨a_0.code,i2,i3⟩:Tl01Source):Tl01Source) _ from ⟨[.slice p1 a_0.code.length k1],[.int .i64 i2,.int .i64 i3],rfl,⟨_,_,rfl,(qf (h.frG 4 2 1 rfl rfl rfl)).1⟩,⟨[.int .i64 i2],[.int .i64 i3],rfl,rfl,rfl⟩⟩) hr19) rfl rfl rfl rfl ?_
   rintro w83 us11 ⟨rfl,h⟩
   dsimp only at h
   refine zp2 rfl (zs 1 h rfl fun w84 h=>qa5 ?_)
   obtain rfl:=qd hF
   exact rG ⟨_,_,_,hK5,rfl,h⟩ rfl
  refine qcV ?_
  replace h:=h.pick [1,0,2,3,4] rfl
  obtain rfl:=qd hF
  exact rG ⟨_,_,_,hK5,rfl,h⟩ rfl
 rintro e6 w85 ⟨i4,i5,i6,hF,rfl,h⟩
 subst hKF4
 refine X0 5 rfl ?_
 obtain ⟨o2,hr2,hF⟩:=qe hF
 obtain ⟨i7,i8,i9⟩:=o2
 refine qt (cB 132 rfl) (qh (a_0:=(⟨a_0.code,i4,i5⟩:Tl01Source)) (a_1:=2) h (show GoT.R _ _ ((⟨a_0.code,i4,i5⟩:Tl01Source):Tl01Source) _ from ⟨[.slice p1 a_0.code.length k1],[.int .i64 i4,.int .i64 i5],rfl,⟨_,_,rfl,(qf (h.frG 4 2 1 rfl rfl rfl)).1⟩,⟨[.int .i64 i4],[.int .i64 i5],rfl,rfl,rfl⟩⟩) hr2) rfl rfl rfl rfl ?_
 rintro w6 us2 ⟨rfl,h⟩
 dsimp only at h
 refine X0 2 rfl ?_
 replace h:=h.nil (α:=Int)
 obtain ⟨KF3,hKF3,o12,hF,hK4⟩:=bindE hF
 refine qa2 (fun e w'=>∃ (S2:Nat→Prop) (p8:Option Addr) (ln1:Nat) (k8:Nat) (x1:(List Int)),KF3 x1=some r∧e=[(0,.pointer (some ⟨bb1,0,none⟩)),(2,.slice p7 a_2.length k7),(4,.pointer (some ⟨bb2,0,none⟩)),(6,.pointer (some ⟨bb3,0,none⟩)),(7,.pointer (some ⟨bb4,0,none⟩))]∧SH w0 w' [Ch.own S2 (x1:List Int) [.slice p8 ln1 k8],Ch.box bb1 [.slice p1 a_0.code.length k1,.int .i64 i8,.int .i64 i9] 225,Ch.box bb4 [.int .i64 (W64 (1+i1)),.int .i64 i6,.slice p8 ln1 k8,.slice none 0 0,.slice none 0 0] 50,Ch.box bb3 [.int .i64 0,.int .i64 0,.slice none 0 0,.slice none 0 0,.slice none 0 0] 50,Ch.box bb2 (qz a_1 p2 p3 p4 p5 p6 k2 k3 k4 k5 k6) 48,Ch.grp (old w0) (FS F) [fct (a_2:(List Int)) [.slice p7 a_2.length k7],fct (a_1:qc) [.slice p2 a_1.Ac.Ai.length k2,.slice p3 a_1.Aa.Ab.length k3,.slice p4 a_1.Aa.Aj.length k4,.slice p5 a_1.Aa.Af.length k5,.slice p6 a_1.Ah.length k6],fct (a_0:Tl01Source) [.slice p1 a_0.code.length k1,.int .i64 a_0.at_,.int .i64 a_0.seed],same w0 w F]]) ?_ ?_
 ·refine qm rfl hF ?_ ?_<;>intro hF
  ·refine X0 2 rfl ?_
   obtain ⟨y3,hy3,hF,he5,b6,_,q5,cs8,hp5,hq5,rfl,hc12⟩:=(qfT (h.grp 5 0 rfl rfl)).1.ix hF
   refine zx hp5 hq5 ⟨he5.1,qN he5.2.1 (qfT (h.grp 5 0 rfl rfl)).2⟩ rfl (zc 0 hc12 rfl (ql qb [.tmp 33] _ ([y3]:List Int) h rfl rfl rfl rfl rfl rfl rfl rfl rfl ⟨rfl,trivial⟩ rfl fun w76 p50 S48 h=>zp1 rfl (zs 3 h rfl fun w77 h=>qa5 ?_)))
   replace h:=h.pick [0,2,3,4,5,6] rfl
   obtain rfl:=qd hF
   exact rG ⟨_,_,_,_,_,hK4,rfl,h⟩ rfl
  refine qcV ?_
  obtain rfl:=qd hF
  exact rG ⟨_,_,_,_,_,hK4,rfl,h⟩ rfl
 rintro e5 w78 ⟨S2,p8,ln1,k8,x1,hF,rfl,h⟩
 subst hKF3
 obtain rfl:=(h.sl 0 rfl).2
 refine X0 4 rfl ?_
 replace h:=h.pick [1,0,2,3,4,5] rfl
 obtain ⟨o3,hr3,hF⟩:=qe hF
 obtain ⟨i10,i11,i12⟩:=o3
 refine qt (cB 132 rfl) (qh (a_0:=(⟨a_0.code,i8,i9⟩:Tl01Source)) (a_1:=2) h (show GoT.R _ _ ((⟨a_0.code,i8,i9⟩:Tl01Source):Tl01Source) _ from ⟨[.slice p1 a_0.code.length k1],[.int .i64 i8,.int .i64 i9],rfl,⟨_,_,rfl,(qf (h.frG 5 2 1 rfl rfl rfl)).1⟩,⟨[.int .i64 i8],[.int .i64 i9],rfl,rfl,rfl⟩⟩) hr3) rfl rfl rfl rfl ?_
 rintro w7 us3 ⟨rfl,h⟩
 dsimp only at h
 refine X0 2 rfl ?_
 replace h:=h.nil (α:=Int)
 obtain ⟨KF2,hKF2,o11,hF,hK3⟩:=bindE hF
 refine qa2 (fun e w'=>∃ (S3:Nat→Prop) (p9:Option Addr) (ln2:Nat) (k9:Nat) (x2:(List Int)),KF2 x2=some r∧e=[(0,.pointer (some ⟨bb1,0,none⟩)),(2,.slice p7 a_2.length k7),(4,.pointer (some ⟨bb2,0,none⟩)),(6,.pointer (some ⟨bb3,0,none⟩)),(7,.pointer (some ⟨bb4,0,none⟩))]∧SH w0 w' [Ch.own S3 (x2:List Int) [.slice p9 ln2 k9],Ch.box bb1 [.slice p1 a_0.code.length k1,.int .i64 i11,.int .i64 i12] 225,Ch.own S2 (x1:List Int) [.slice p8 x1.length k8],Ch.box bb4 [.int .i64 (W64 (1+i1)),.int .i64 i6,.slice p8 x1.length k8,.slice none 0 0,.slice p9 ln2 k9] 50,Ch.box bb3 [.int .i64 0,.int .i64 0,.slice none 0 0,.slice none 0 0,.slice none 0 0] 50,Ch.box bb2 (qz a_1 p2 p3 p4 p5 p6 k2 k3 k4 k5 k6) 48,Ch.grp (old w0) (FS F) [fct (a_2:(List Int)) [.slice p7 a_2.length k7],fct (a_1:qc) [.slice p2 a_1.Ac.Ai.length k2,.slice p3 a_1.Aa.Ab.length k3,.slice p4 a_1.Aa.Aj.length k4,.slice p5 a_1.Aa.Af.length k5,.slice p6 a_1.Ah.length k6],fct (a_0:Tl01Source) [.slice p1 a_0.code.length k1,.int .i64 a_0.at_,.int .i64 a_0.seed],same w0 w F]]) ?_ ?_
 ·refine qm rfl hF ?_ ?_<;>intro hF
  ·refine X0 5 rfl ?_
   obtain ⟨y2,hy2,hF,he4,b5,_,q4,cs7,hp4,hq4,rfl,hc10⟩:=(qfT (h.grp 6 0 rfl rfl)).1.ix hF
   refine zx hp4 hq4 ⟨he4.1,qN he4.2.1 (qfT (h.grp 6 0 rfl rfl)).2⟩ rfl (zc 0 hc10 rfl (ql qb [.tmp 44] _ ([y2]:List Int) h rfl rfl rfl rfl rfl rfl rfl rfl rfl ⟨rfl,trivial⟩ rfl fun w73 p49 S47 h=>zp1 rfl (zs 4 h rfl fun w74 h=>qa5 ?_)))
   replace h:=h.pick [0,2,3,4,5,6,7] rfl
   obtain rfl:=qd hF
   exact rG ⟨_,_,_,_,_,hK3,rfl,h⟩ rfl
  refine qcV ?_
  obtain rfl:=qd hF
  exact rG ⟨_,_,_,_,_,hK3,rfl,h⟩ rfl
 rintro e4 w75 ⟨S3,p9,ln2,k9,x2,hF,rfl,h⟩
 subst hKF2
 obtain rfl:=(h.sl 0 rfl).2
 refine X0 5 rfl ?_
 replace h:=h.nil (α:=Int)
 obtain ⟨o4,hF,hK1⟩:=qe hF
 refine qq (rL (fun m e w'=>∃ (S4:Nat→Prop) (p10:Option Addr) (ln3:Nat) (k10:Nat) (x3:(List Int)) (i13:Int) (i14:Int) (i15:Int),qaL a_0 a_2 m x3 i13 i14 i15=some o4∧e=[(0,.pointer (some ⟨bb1,0,none⟩)),(2,.slice p7 a_2.length k7),(4,.pointer (some ⟨bb2,0,none⟩)),(6,.pointer (some ⟨bb3,0,none⟩)),(7,.pointer (some ⟨bb4,0,none⟩)),(8,.int .i64 i15)]∧SH w0 w' [Ch.own S4 (x3:List Int) [.slice p10 ln3 k10],Ch.own S3 (x2:List Int) [.slice p9 x2.length k9],Ch.box bb1 [.slice p1 a_0.code.length k1,.int .i64 i13,.int .i64 i14] 225,Ch.own S2 (x1:List Int) [.slice p8 x1.length k8],Ch.box bb4 [.int .i64 (W64 (1+i1)),.int .i64 i6,.slice p8 x1.length k8,.slice p10 ln3 k10,.slice p9 x2.length k9] 50,Ch.box bb3 [.int .i64 0,.int .i64 0,.slice none 0 0,.slice none 0 0,.slice none 0 0] 50,Ch.box bb2 (qz a_1 p2 p3 p4 p5 p6 k2 k3 k4 k5 k6) 48,Ch.grp (old w0) (FS F) [fct (a_2:(List Int)) [.slice p7 a_2.length k7],fct (a_1:qc) [.slice p2 a_1.Ac.Ai.length k2,.slice p3 a_1.Aa.Ab.length k3,.slice p4 a_1.Aa.Aj.length k4,.slice p5 a_1.Aa.Af.length k5,.slice p6 a_1.Ah.length k6],fct (a_0:Tl01Source) [.slice p1 a_0.code.length k1,.int .i64 a_0.at_,.int .i64 a_0.seed],same w0 w F]]) n ⟨_,_,_,_,_,_,_,_,hF,rfl,h⟩ rfl ?_)
 rintro m1 e1 w8 ⟨S4,p10,ln3,k10,x3,i13,i14,i15,hF,rfl,h⟩
 obtain rfl:=(h.sl 0 rfl).2
 rcases m1 with _|m1
 ·cases hF
 refine X0 8 rfl (qm rfl hF ?_ ?_)<;>intro hF
 ·refine X0 4 rfl ?_
  obtain ⟨KF1,hKF1,o5,hF,hK2⟩:=bindE hF
  refine qa2 (fun e w'=>∃ (i16:Int) (i17:Int) (b1:Bool),KF1 (i16,i17,b1)=some o4∧e=[(0,.pointer (some ⟨bb1,0,none⟩)),(2,.slice p7 a_2.length k7),(4,.pointer (some ⟨bb2,0,none⟩)),(6,.pointer (some ⟨bb3,0,none⟩)),(7,.pointer (some ⟨bb4,0,none⟩)),(8,.int .i64 i15),(61,.bool b1)]∧SH w0 w' [Ch.box bb1 [.slice p1 a_0.code.length k1,.int .i64 i16,.int .i64 i17] 225,Ch.own S4 (x3:List Int) [.slice p10 x3.length k10],Ch.own S3 (x2:List Int) [.slice p9 x2.length k9],Ch.own S2 (x1:List Int) [.slice p8 x1.length k8],Ch.box bb4 [.int .i64 (W64 (1+i1)),.int .i64 i6,.slice p8 x1.length k8,.slice p10 x3.length k10,.slice p9 x2.length k9] 50,Ch.box bb3 [.int .i64 0,.int .i64 0,.slice none 0 0,.slice none 0 0,.slice none 0 0] 50,Ch.box bb2 (qz a_1 p2 p3 p4 p5 p6 k2 k3 k4 k5 k6) 48,Ch.grp (old w0) (FS F) [fct (a_2:(List Int)) [.slice p7 a_2.length k7],fct (a_1:qc) [.slice p2 a_1.Ac.Ai.length k2,.slice p3 a_1.Aa.Ab.length k3,.slice p4 a_1.Aa.Aj.length k4,.slice p5 a_1.Aa.Af.length k5,.slice p6 a_1.Ah.length k6],fct (a_0:Tl01Source) [.slice p1 a_0.code.length k1,.int .i64 a_0.at_,.int .i64 a_0.seed],same w0 w F]]) ?_ ?_
  ·refine X1 6 4 h rfl (qi (t:=57) hF rfl ?_ ?_)<;>intro hF
   ·refine X0 3 rfl ?_
    replace h:=h.pick [2,0,1,3,4,5,6,7] rfl
    obtain ⟨o6,hr7,hF⟩:=qe hF
    obtain ⟨i18,i19,i20⟩:=o6
    refine qt (cB 132 rfl) (qh (a_0:=(⟨a_0.code,i13,i14⟩:Tl01Source)) (a_1:=5) h (show GoT.R _ _ ((⟨a_0.code,i13,i14⟩:Tl01Source):Tl01Source) _ from ⟨[.slice p1 a_0.code.length k1],[.int .i64 i13,.int .i64 i14],rfl,⟨_,_,rfl,(qf (h.frG 7 2 1 rfl rfl rfl)).1⟩,⟨[.int .i64 i13],[.int .i64 i14],rfl,rfl,rfl⟩⟩) hr7) rfl rfl rfl rfl ?_
    rintro w54 us4 ⟨rfl,h⟩
    dsimp only at h
    refine X0 4 rfl ?_
    obtain rfl:=qd hF
    exact rG ⟨_,_,_,hK2,rfl,h⟩ rfl
   refine X0 5 rfl ?_
   replace h:=h.pick [2,0,1,3,4,5,6,7] rfl
   obtain rfl:=qd hF
   exact rG ⟨_,_,_,hK2,rfl,h⟩ rfl
  rintro e3 w55 ⟨i16,i17,b1,hF,rfl,h⟩
  subst hKF1
  refine qm rfl hF ?_ ?_<;>intro hF
  ·obtain ⟨y1,hy1,hF⟩:=qe hF
   obtain ⟨x4,hx1,hF⟩:=qe hF
   obtain ⟨x5,hx2,hF⟩:=qe hF
   refine qa2 (fun e w'=>∃ (S24:Nat→Prop) (p30:Option Addr) (k21:Nat),e=[(0,.pointer (some ⟨bb1,0,none⟩)),(2,.slice p7 a_2.length k7),(4,.pointer (some ⟨bb2,0,none⟩)),(6,.pointer (some ⟨bb3,0,none⟩)),(7,.pointer (some ⟨bb4,0,none⟩)),(8,.int .i64 i15)]∧SH w0 w' [Ch.own S24 (x5:List Int) [.slice p30 x5.length k21],Ch.box bb1 [.slice p1 a_0.code.length k1,.int .i64 i16,.int .i64 i17] 225,Ch.own S3 (x2:List Int) [.slice p9 x2.length k9],Ch.own S2 (x1:List Int) [.slice p8 x1.length k8],Ch.box bb4 [.int .i64 (W64 (1+i1)),.int .i64 i6,.slice p8 x1.length k8,.slice p30 x5.length k21,.slice p9 x2.length k9] 50,Ch.box bb3 [.int .i64 0,.int .i64 0,.slice none 0 0,.slice none 0 0,.slice none 0 0] 50,Ch.box bb2 (qz a_1 p2 p3 p4 p5 p6 k2 k3 k4 k5 k6) 48,Ch.grp (old w0) (FS F) [fct (a_2:(List Int)) [.slice p7 a_2.length k7],fct (a_1:qc) [.slice p2 a_1.Ac.Ai.length k2,.slice p3 a_1.Aa.Ab.length k3,.slice p4 a_1.Aa.Aj.length k4,.slice p5 a_1.Aa.Af.length k5,.slice p6 a_1.Ah.length k6],fct (a_0:Tl01Source) [.slice p1 a_0.code.length k1,.int .i64 a_0.at_,.int .i64 a_0.seed],same w0 w F]]) ?_ ?_
   ·refine rA [19] [4] h rfl fun w14 h=>M4 1983 [0,1,2,3,4,5,7,8,9,10] 0 0 0 0 (h.pick [4] rfl) rfl ?_
    have he3:=qax hy1
    obtain ⟨b4,o_3,q3,cs6,hp3,hq3,-,hr6,hc5⟩:=(qfT (h.grp 7 0 rfl rfl)).1.at hy1
    obtain rfl:=hr6
    refine Ax 11 4031 hp3 hq3 ⟨he3.1,qN he3.2.1 (qfT (h.grp 7 0 rfl rfl)).2⟩ (h.pick [4] rfl) rfl (M1 200639 [16,17] 0 (h.pick [4] rfl) rfl (At 6 12 200703 204735 rfl ?_ ?_))
    ·refine ql qb [] _ ([]:List Int) h rfl rfl rfl rfl rfl rfl rfl rfl rfl trivial rfl fun w34 p31 S25 h=>Ag (h.pick [5] rfl) (Ao 12 204799 rfl (r_v (qeJ qb (qmY (w1:=w) (S1:=fun _=>False) (qfT (h.grp 8 0 rfl rfl)).1 hy1 hp3 hq3 rfl) (j:=0) rfl rfl rfl) rfl (Ag (h.pick [5] rfl) (Ao 13 212991 rfl (ql qb [.tmp 74] _ ([y1]:List Int) h rfl rfl rfl rfl rfl rfl rfl rfl rfl ⟨rfl,trivial⟩ rfl fun w35 p32 S26 h=>Ag (h.pick [6] rfl) (Ao 14 229375 rfl ?_))))))
     obtain ⟨g11,hx1⟩:=qw hx1
     refine qak qb 3 h rfl (h.sl 0 rfl).1 (h.sl 0 rfl).2 rfl rfl rfl rfl rfl rfl rfl rfl rfl g11 hx1 rfl fun w36 p33 k22 S27 h=>Ag (h.pick [6] rfl) (Ao 15 262143 rfl ?_)
     obtain ⟨g12,hx2⟩:=qw hx2
     refine qak qb 1 h rfl (h.sl 3 rfl).1 (h.sl 3 rfl).2 rfl rfl rfl rfl rfl rfl rfl rfl rfl g12 hx2 rfl fun w37 p34 k23 S28 h=>Ag (h.pick [6] rfl) (Aw 18 524287 (fun w' hw=>qah qb [0,1,2,3,4] [.tmp 63,.tmp 65,.tmp 67,.tmp 77,.tmp 79] rfl rfl rfl rfl rfl rfl rfl rfl) (h.pick [6] rfl) rfl ?_)
     refine Ao 19 1048575 rfl (zs 6 h rfl fun w38 h=>qdR (fun hs=>absurd (hs 19 (by decide)) (by decide)) (Ad ?_))
     replace h:=h.pick [1,2,4,5,6,7,8,9] rfl
     exact rG ⟨_,_,_,rfl,h⟩ rfl
    refine r_v (qeJ qb (qmY (w1:=w) (S1:=fun _=>False) (qfT (h.grp 7 0 rfl rfl)).1 hy1 hp3 hq3 rfl) (j:=0) rfl rfl rfl) rfl (Ag (h.pick [4] rfl) (At 6 13 204799 212927 rfl ?_ ?_))
    ·refine ql qb [] _ ([]:List Int) h rfl rfl rfl rfl rfl rfl rfl rfl rfl trivial rfl fun w39 p35 S29 h=>Ag (h.pick [5] rfl) (Ao 13 212991 rfl (ql qb [.tmp 74] _ ([y1]:List Int) h rfl rfl rfl rfl rfl rfl rfl rfl rfl ⟨rfl,trivial⟩ rfl fun w40 p36 S30 h=>Ag (h.pick [6] rfl) (Ao 14 229375 rfl ?_)))
     obtain ⟨g13,hx1⟩:=qw hx1
     refine qak qb 3 h rfl (h.sl 0 rfl).1 (h.sl 0 rfl).2 rfl rfl rfl rfl rfl rfl rfl rfl rfl g13 hx1 rfl fun w41 p37 k24 S31 h=>Ag (h.pick [6] rfl) (Ao 15 262143 rfl ?_)
     obtain ⟨g14,hx2⟩:=qw hx2
     refine qak qb 1 h rfl (h.sl 3 rfl).1 (h.sl 3 rfl).2 rfl rfl rfl rfl rfl rfl rfl rfl rfl g14 hx2 rfl fun w42 p38 k25 S32 h=>Ag (h.pick [6] rfl) (Aw 18 524287 (fun w' hw=>qah qb [0,1,2,3,4] [.tmp 63,.tmp 65,.tmp 67,.tmp 77,.tmp 79] rfl rfl rfl rfl rfl rfl rfl rfl) (h.pick [6] rfl) rfl ?_)
     refine Ao 19 1048575 rfl (zs 6 h rfl fun w43 h=>qdR (fun hs=>absurd (hs 19 (by decide)) (by decide)) (Ad ?_))
     replace h:=h.pick [1,2,4,5,6,7,8,9] rfl
     exact rG ⟨_,_,_,rfl,h⟩ rfl
    refine ql qb [.tmp 74] _ ([y1]:List Int) h rfl rfl rfl rfl rfl rfl rfl rfl rfl ⟨rfl,trivial⟩ rfl fun w44 p39 S33 h=>Ag (h.pick [5] rfl) (At 6 14 212991 229311 rfl ?_ ?_)
    ·refine ql qb [] _ ([]:List Int) h rfl rfl rfl rfl rfl rfl rfl rfl rfl trivial rfl fun w45 p40 S34 h=>Ag (h.pick [6] rfl) (Ao 14 229375 rfl ?_)
     obtain ⟨g15,hx1⟩:=qw hx1
     refine qak qb 3 h rfl (h.sl 1 rfl).1 (h.sl 1 rfl).2 rfl rfl rfl rfl rfl rfl rfl rfl rfl g15 hx1 rfl fun w46 p41 k26 S35 h=>Ag (h.pick [6] rfl) (Ao 15 262143 rfl ?_)
     obtain ⟨g16,hx2⟩:=qw hx2
     refine qak qb 0 h rfl (h.sl 3 rfl).1 (h.sl 3 rfl).2 rfl rfl rfl rfl rfl rfl rfl rfl rfl g16 hx2 rfl fun w47 p42 k27 S36 h=>Ag (h.pick [6] rfl) (Aw 18 524287 (fun w' hw=>qah qb [0,1,2,3,4] [.tmp 63,.tmp 65,.tmp 67,.tmp 77,.tmp 79] rfl rfl rfl rfl rfl rfl rfl rfl) (h.pick [6] rfl) rfl ?_)
     refine Ao 19 1048575 rfl (zs 6 h rfl fun w48 h=>qdR (fun hs=>absurd (hs 19 (by decide)) (by decide)) (Ad ?_))
     replace h:=h.pick [0,2,4,5,6,7,8,9] rfl
     exact rG ⟨_,_,_,rfl,h⟩ rfl
    obtain ⟨g17,hx1⟩:=qw hx1
    refine qak qb 2 h rfl (h.sl 0 rfl).1 (h.sl 0 rfl).2 rfl rfl rfl rfl rfl rfl rfl rfl rfl g17 hx1 rfl fun w49 p43 k28 S37 h=>Ag (h.pick [5] rfl) (Ao 6 229375 rfl (ql qb [] _ ([]:List Int) h rfl rfl rfl rfl rfl rfl rfl rfl rfl trivial rfl fun w50 p44 S38 h=>Ag (h.pick [6] rfl) (Ao 15 262143 rfl ?_)))
    obtain ⟨g18,hx2⟩:=qw hx2
    refine qak qb 0 h rfl (h.sl 3 rfl).1 (h.sl 3 rfl).2 rfl rfl rfl rfl rfl rfl rfl rfl rfl g18 hx2 rfl fun w51 p45 k29 S39 h=>Ag (h.pick [6] rfl) (Aw 18 524287 (fun w' hw=>qah qb [0,1,2,3,4] [.tmp 63,.tmp 65,.tmp 67,.tmp 77,.tmp 79] rfl rfl rfl rfl rfl rfl rfl rfl) (h.pick [6] rfl) rfl ?_)
    refine Ao 19 1048575 rfl (zs 6 h rfl fun w52 h=>qdR (fun hs=>absurd (hs 19 (by decide)) (by decide)) (Ad ?_))
    replace h:=h.pick [0,2,4,5,6,7,8,9] rfl
    exact rG ⟨_,_,_,rfl,h⟩ rfl
   rintro e2 w53 ⟨S24,p30,k21,rfl,h⟩
   refine X0 6 rfl ?_
   replace h:=h.pick [0,2,1,3,4,5,6,7] rfl
   exact rK ⟨_,_,_,_,_,_,_,_,hF,rfl,h⟩ rfl
  refine X0 7 rfl ?_
  replace h:=h.pick [1,2,0,3,4,5,6,7] rfl
  exact rK ⟨_,_,_,_,_,_,_,_,hF,rfl,h⟩ rfl
 refine qy rfl ?_
 obtain rfl:=qd hF;replace hF:=hK1
 refine X0 4 rfl ?_
 replace h:=h.pick [2,0,1,3,4,5,6,7] rfl
 obtain ⟨o7,hr8,hF⟩:=qe hF
 obtain ⟨i21,i22,i23⟩:=o7
 refine qt (cB 132 rfl) (qh (a_0:=(⟨a_0.code,i13,i14⟩:Tl01Source)) (a_1:=12) h (show GoT.R _ _ ((⟨a_0.code,i13,i14⟩:Tl01Source):Tl01Source) _ from ⟨[.slice p1 a_0.code.length k1],[.int .i64 i13,.int .i64 i14],rfl,⟨_,_,rfl,(qf (h.frG 7 2 1 rfl rfl rfl)).1⟩,⟨[.int .i64 i13],[.int .i64 i14],rfl,rfl,rfl⟩⟩) hr8) rfl rfl rfl rfl ?_
 rintro w56 us5 ⟨rfl,h⟩
 dsimp only at h
 refine X0 7 rfl (qm rfl hF ?_ ?_)<;>intro hF
 ·refine X1 3 6 h rfl (zcI h hF (qbm (h.grp 7 1 rfl rfl)) rfl fun r1 w57 h hF=>?_)
  obtain ⟨o8,hr10,hF⟩:=qe hF
  obtain ⟨i24,i25,i26⟩:=o8
  refine qt (cB 132 rfl) (qh (a_0:=(⟨a_0.code,i22,i23⟩:Tl01Source)) (a_1:=r1) h (show GoT.R _ _ ((⟨a_0.code,i22,i23⟩:Tl01Source):Tl01Source) _ from ⟨[.slice p1 a_0.code.length k1],[.int .i64 i22,.int .i64 i23],rfl,⟨_,_,rfl,(qf (h.frG 7 2 1 rfl rfl rfl)).1⟩,⟨[.int .i64 i22],[.int .i64 i23],rfl,rfl,rfl⟩⟩) hr10) rfl rfl rfl rfl ?_
  rintro w58 us6 ⟨rfl,h⟩
  dsimp only at h
  refine ql qb [.tmp 88] _ ([i24]:List Int) h rfl rfl rfl rfl rfl rfl rfl rfl rfl ⟨rfl,trivial⟩ rfl fun w59 p46 S40 h=>zp1 rfl (zs 5 h rfl fun w60 h=>X1 5 5 h rfl (zs 6 h rfl fun w61 h=>qa5 ?_))
  have hk1:=h
  obtain ⟨S41,h⟩:=h.gather [1,4,5,6,7,8] (qbu (⟨W64 (1+i1),i6,([i24]:List Int),x3,x2⟩:qa) h (qC (S:=fun _=>False) rfl) (qC (S:=fun _=>False) rfl) (qB 0 h rfl) (qB 2 h rfl) (qB 3 h rfl) (by rfl) (by rfl) (by rfl) (by rfl)) rfl
  obtain rfl:=qd hF
  replace h:=h.pick [0,1,6] rfl
  exact qbd qb [GoT.v qa [.int .i64 (W64 (1+i1)),.int .i64 i6,.slice p46 1 1,.slice p10 x3.length k10,.slice p9 x2.length k9]] ⟨⟨_,_,_,rfl,rfl,hk1.box 6 rfl,rfl⟩,trivial⟩ ⟨_,_,rfl,SH.unfr 1 3 h0 h rfl rfl⟩
 refine X0 5 rfl (qm rfl hF ?_ ?_)<;>intro hF
 ·refine X1 3 6 h rfl (zcI h hF (qbm (h.grp 7 1 rfl rfl)) rfl fun r2 w62 h hF=>?_)
  obtain ⟨o9,hr12,hF⟩:=qe hF
  obtain ⟨i27,i28,i29⟩:=o9
  refine qt (cB 132 rfl) (qh (a_0:=(⟨a_0.code,i22,i23⟩:Tl01Source)) (a_1:=r2) h (show GoT.R _ _ ((⟨a_0.code,i22,i23⟩:Tl01Source):Tl01Source) _ from ⟨[.slice p1 a_0.code.length k1],[.int .i64 i22,.int .i64 i23],rfl,⟨_,_,rfl,(qf (h.frG 7 2 1 rfl rfl rfl)).1⟩,⟨[.int .i64 i22],[.int .i64 i23],rfl,rfl,rfl⟩⟩) hr12) rfl rfl rfl rfl ?_
  rintro w63 us7 ⟨rfl,h⟩
  dsimp only at h
  refine ql qb [.tmp 96] _ ([i27]:List Int) h rfl rfl rfl rfl rfl rfl rfl rfl rfl ⟨rfl,trivial⟩ rfl fun w64 p47 S42 h=>zp1 rfl (zs 5 h rfl fun w65 h=>X1 5 5 h rfl (zs 6 h rfl fun w66 h=>qa5 ?_))
  have hk2:=h
  obtain ⟨S43,h⟩:=h.gather [1,3,5,6,7,8] (qbu (⟨W64 (1+i1),i6,x1,x3,([i27]:List Int)⟩:qa) h (qC (S:=fun _=>False) rfl) (qC (S:=fun _=>False) rfl) (qB 4 h rfl) (qB 2 h rfl) (qB 0 h rfl) (by rfl) (by rfl) (by rfl) (by rfl)) rfl
  obtain rfl:=qd hF
  replace h:=h.pick [0,1,6] rfl
  exact qbd qb [GoT.v qa [.int .i64 (W64 (1+i1)),.int .i64 i6,.slice p8 x1.length k8,.slice p10 x3.length k10,.slice p47 1 1]] ⟨⟨_,_,_,rfl,rfl,hk2.box 6 rfl,rfl⟩,trivial⟩ ⟨_,_,rfl,SH.unfr 1 3 h0 h rfl rfl⟩
 refine X0 5 rfl (qm rfl hF ?_ ?_)<;>intro hF
 ·refine X1 3 6 h rfl (zcI h hF (qbm (h.grp 7 1 rfl rfl)) rfl fun r3 w67 h hF=>?_)
  obtain ⟨o10,hr14,hF⟩:=qe hF
  obtain ⟨i30,i31,i32⟩:=o10
  refine qt (cB 132 rfl) (qh (a_0:=(⟨a_0.code,i22,i23⟩:Tl01Source)) (a_1:=r3) h (show GoT.R _ _ ((⟨a_0.code,i22,i23⟩:Tl01Source):Tl01Source) _ from ⟨[.slice p1 a_0.code.length k1],[.int .i64 i22,.int .i64 i23],rfl,⟨_,_,rfl,(qf (h.frG 7 2 1 rfl rfl rfl)).1⟩,⟨[.int .i64 i22],[.int .i64 i23],rfl,rfl,rfl⟩⟩) hr14) rfl rfl rfl rfl ?_
  rintro w68 us8 ⟨rfl,h⟩
  dsimp only at h
  refine ql qb [.tmp 104] _ ([i30]:List Int) h rfl rfl rfl rfl rfl rfl rfl rfl rfl ⟨rfl,trivial⟩ rfl fun w69 p48 S44 h=>zp1 rfl (zs 5 h rfl fun w70 h=>X1 5 5 h rfl (zs 6 h rfl fun w71 h=>qa5 ?_))
  have hk3:=h
  obtain ⟨S45,h⟩:=h.gather [1,2,5,6,7,8] (qbu (⟨W64 (1+i1),i6,x1,([i30]:List Int),x2⟩:qa) h (qC (S:=fun _=>False) rfl) (qC (S:=fun _=>False) rfl) (qB 4 h rfl) (qB 0 h rfl) (qB 3 h rfl) (by rfl) (by rfl) (by rfl) (by rfl)) rfl
  obtain rfl:=qd hF
  replace h:=h.pick [0,1,6] rfl
  exact qbd qb [GoT.v qa [.int .i64 (W64 (1+i1)),.int .i64 i6,.slice p8 x1.length k8,.slice p48 1 1,.slice p9 x2.length k9]] ⟨⟨_,_,_,rfl,rfl,hk3.box 6 rfl,rfl⟩,trivial⟩ ⟨_,_,rfl,SH.unfr 1 3 h0 h rfl rfl⟩
 refine X1 5 4 h rfl (zs 5 h rfl fun w72 h=>qa5 ?_)
 have hk4:=h
 obtain ⟨S46,h⟩:=h.gather [0,4,5,6,7] (qbu (⟨W64 (1+i1),i6,x1,x3,x2⟩:qa) h (qC (S:=fun _=>False) rfl) (qC (S:=fun _=>False) rfl) (qB 3 h rfl) (qB 1 h rfl) (qB 2 h rfl) (by rfl) (by rfl) (by rfl) (by rfl)) rfl
 obtain rfl:=qd hF
 replace h:=h.pick [0,1,5] rfl
 exact qbd qb [GoT.v qa [.int .i64 (W64 (1+i1)),.int .i64 i6,.slice p8 x1.length k8,.slice p10 x3.length k10,.slice p9 x2.length k9]] ⟨⟨_,_,_,rfl,rfl,hk4.box 5 rfl,rfl⟩,trivial⟩ ⟨_,_,rfl,SH.unfr 1 3 h0 h rfl rfl⟩
def qbZ:Nat→(List qa)→Option (List qa)
 | 0,_=>none
 | n+1,x3 =>
  bif decide ((x3.length:Int)≤6) then
   (idx x3 0).bind fun y4 =>
   (appS x3 ([y4]:List qa)).bind fun x4 =>
   qbZ n x4
  else
   some x3
def qb0 (s:Tl01Source) (b:qc) (path:(List Int)):Nat→(List qa)→Int→Int→Int→Option ((List qa) × Int × Int × Int)
 | 0,_,_,_,_=>none
 | n+1,x1,i4,i5,i6 =>
  bif decide (i6 > 0) then
   (qdn n (⟨s.code,i4,i5⟩:Tl01Source) b path).bind fun o=>match o with
    | (r1,i7,i8) =>
     (appS x1 ([r1]:List qa)).bind fun x2 =>
     qb0 s b path n x2 i7 i8 (W64 (i6-1))
  else
   some (x1,i4,i5,i6)
def qfe (n:Nat) (s:Tl01Source) (b:qc) (path:(List Int)):Option ((List qa) × Int × Int) :=
 (qk n (⟨s.code,s.at_,s.seed⟩:Tl01Source) 5).bind fun o=>match o with
  | (i1,i2,i3) =>
   (qb0 s b path n ([]:List qa) i2 i3 i1).bind fun o=>match o with
   | (x1,i4,i5,_) =>
    (
     bif decide ((x1.length:Int) > 0) then
      (qk n (⟨s.code,i4,i5⟩:Tl01Source) 16).bind fun o=>match o with
       | (i17,i18,i19) =>
        some (i18,i19,(i17==0))
     else
      some (i4,i5,false)).bind fun o=>match o with
     | (i9,i10,b1) =>
      bif b1 then
       (qk n (⟨s.code,i9,i10⟩:Tl01Source) 4).bind fun o=>match o with
        | (i11,i12,i13) =>
         bif (i11==0) then
          (qk n (⟨s.code,i12,i13⟩:Tl01Source) 2).bind fun o=>match o with
           | (i14,i15,i16) =>
            (idx x1 0).bind fun y1 =>
            some ((setS x1 0 (⟨W64 (5*i14),y1.Az,y1.Au,y1.Ap,y1.To⟩:qa)),i15,i16)
         else
          bif (i11==1) then
           (idx x1 0).bind fun y2 =>
           some ((setS x1 0 (⟨y2.Am,(-1),y2.Au,y2.Ap,y2.To⟩:qa)),i12,i13)
          else
           bif (i11==2) then
            (qaB n b).bind fun r2 =>
            (idx x1 0).bind fun y3 =>
            some ((setS x1 0 (⟨y3.Am,y3.Az,y3.Au,y3.Ap,([r2]:List Int)⟩:qa)),i12,i13)
           else
            (qbZ n x1).bind fun x3 =>
            some (x3,i12,i13)
      else
       some (x1,i9,i10)
theorem qiN {n:Nat} {w0 w:World} {F:List Ch} {s:Tl01Source} {bb1:Nat} {p1:Option Addr} {k1:Nat} {b:qc} {cs1:List Value} {path:(List Int)} {cs2:List Value} (h0:SH w0 w (Ch.box bb1 (qaf s p1 k1) 225::F)) (ha1:GoT.R w (Fr w0 F) s [.slice p1 s.code.length k1,.int .i64 s.at_,.int .i64 s.seed]) (ha2:GoT.R w (Fr w0 F) b cs1) (ha3:GoT.R w (Fr w0 F) path cs2) {r:((List qa) × Int × Int)} (hF:qfe n s b path=some r):RetW Tryz.prog 131 [.pointer (some ⟨bb1,0,none⟩),GoT.v qc cs1,GoT.v (List Int) cs2] w (fun us w'=>∃ (S1:Nat→Prop) (cs3:List Value),us=[GoT.v (List qa) cs3]∧SH w0 w' (Ch.grp (fun _=>False) S1 [fct (r.1:(List qa)) cs3]::Ch.box bb1 [.slice p1 s.code.length k1,.int .i64 r.2.1,.int .i64 r.2.2] 225::F)):=by
 have h:=SH.frm1 h0 ha1
 have hz1:=ha2
 obtain ⟨p2,k2,p3,k3,p4,k4,p5,k5,p6,k6,rfl,s1,s2,s3,s4,s5⟩:=qT ha2
 replace h:=h.grpAdd 1 rfl hz1
 have hz2:=ha3
 obtain ⟨p7,k7,rfl,s6⟩:=ha3
 replace h:=h.grpAdd 1 rfl hz2
 replace h:SH _ _ [Ch.box bb1 (qaf s p1 k1) 225,Ch.grp (old w0) (FS F) [fct (path:(List Int)) [.slice p7 path.length k7],fct (b:qc) [.slice p2 b.Ac.Ai.length k2,.slice p3 b.Aa.Ab.length k3,.slice p4 b.Aa.Aj.length k4,.slice p5 b.Aa.Af.length k5,.slice p6 b.Ah.length k6],fct (s:Tl01Source) [.slice p1 s.code.length k1,.int .i64 s.at_,.int .i64 s.seed],same w0 w F]]:=h
 refine qa7 Tryz.func131 rfl (m:=64) rfl rfl (zSR (qO h rfl rfl fun w1 bb2 h=>X0 4 rfl (qdf qb [] _ ([]:List qa) [0,1,2] h rfl rfl rfl rfl rfl rfl rfl rfl rfl qe6 rfl rfl fun w2 p8 S2 h=>X0 6 rfl ?_)))
 replace h:=h.pick [2,0,1,3] rfl
 obtain ⟨o1,hr1,hF⟩:=qe hF
 obtain ⟨i1,i2,i3⟩:=o1
 refine qt (cB 132 rfl) (qh (a_0:=(⟨s.code,s.at_,s.seed⟩:Tl01Source)) (a_1:=5) h (show GoT.R _ _ ((⟨s.code,s.at_,s.seed⟩:Tl01Source):Tl01Source) _ from ⟨[.slice p1 s.code.length k1],[.int .i64 s.at_,.int .i64 s.seed],rfl,⟨_,_,rfl,(qf (h.frG 3 2 1 rfl rfl rfl)).1⟩,⟨[.int .i64 s.at_],[.int .i64 s.seed],rfl,rfl,rfl⟩⟩) hr1) rfl rfl rfl rfl ?_
 rintro w3 us1 ⟨rfl,h⟩
 dsimp only at h
 refine X0 2 rfl ?_
 obtain ⟨o2,hF,hK1⟩:=qe hF
 refine qq (rL (fun m e w'=>∃ (S3:Nat→Prop) (p9:Option Addr) (ln1:Nat) (k8:Nat) (x1:(List qa)) (i4:Int) (i5:Int) (i6:Int),qb0 s b path m x1 i4 i5 i6=some o2∧e=[(0,.pointer (some ⟨bb1,0,none⟩)),(2,.slice p7 path.length k7),(4,.pointer (some ⟨bb2,0,none⟩)),(7,.slice p9 ln1 k8),(8,.int .i64 i6)]∧SH w0 w' [Ch.box bb1 [.slice p1 s.code.length k1,.int .i64 i4,.int .i64 i5] 225,Ch.own S3 (x1:List qa) [.slice p9 ln1 k8],Ch.box bb2 (qz b p2 p3 p4 p5 p6 k2 k3 k4 k5 k6) 48,Ch.grp (old w0) (FS F) [fct (path:(List Int)) [.slice p7 path.length k7],fct (b:qc) [.slice p2 b.Ac.Ai.length k2,.slice p3 b.Aa.Ab.length k3,.slice p4 b.Aa.Aj.length k4,.slice p5 b.Aa.Af.length k5,.slice p6 b.Ah.length k6],fct (s:Tl01Source) [.slice p1 s.code.length k1,.int .i64 s.at_,.int .i64 s.seed],same w0 w F]]) n ⟨_,_,_,_,_,_,_,_,hF,rfl,h⟩ rfl ?_)
 rintro m1 e1 w4 ⟨S3,p9,ln1,k8,x1,i4,i5,i6,hF,rfl,h⟩
 obtain rfl:=(h.sl 1 rfl).2
 rcases m1 with _|m1
 ·cases hF
 refine X0 6 rfl (qm rfl hF ?_ ?_)<;>intro hF
 ·refine X1 8 2 h rfl ?_
  obtain ⟨o3,hr2,hF⟩:=qe hF
  obtain ⟨r1,i7,i8⟩:=o3
  refine qt (cB 163 rfl) (qha (a_0:=(⟨s.code,i4,i5⟩:Tl01Source)) (a_1:=b) (a_2:=path) h (show GoT.R _ _ ((⟨s.code,i4,i5⟩:Tl01Source):Tl01Source) _ from ⟨[.slice p1 s.code.length k1],[.int .i64 i4,.int .i64 i5],rfl,⟨_,_,rfl,(qf (h.frG 3 2 1 rfl rfl rfl)).1⟩,⟨[.int .i64 i4],[.int .i64 i5],rfl,rfl,rfl⟩⟩) (h.frG 3 1 1 rfl rfl rfl) (h.frG 3 0 1 rfl rfl rfl) hr2) rfl rfl rfl rfl ?_
  rintro w5 us2 ⟨S4,cs4,rfl,h⟩
  obtain ⟨p10,k9,p11,k10,p12,k11,rfl,-,-,-⟩:=qX (h.own 0 rfl)
  replace h:SH _ _ [Ch.own S4 (r1:qa) (qbo r1 p10 p11 p12 k9 k10 k11),Ch.box bb1 [.slice p1 s.code.length k1,.int .i64 i7,.int .i64 i8] 225,Ch.own S3 (x1:List qa) [.slice p9 x1.length k8],Ch.box bb2 (qz b p2 p3 p4 p5 p6 k2 k3 k4 k5 k6) 48,Ch.grp (old w0) (FS F) [fct (path:(List Int)) [.slice p7 path.length k7],fct (b:qc) [.slice p2 b.Ac.Ai.length k2,.slice p3 b.Aa.Ab.length k3,.slice p4 b.Aa.Aj.length k4,.slice p5 b.Aa.Af.length k5,.slice p6 b.Ah.length k6],fct (s:Tl01Source) [.slice p1 s.code.length k1,.int .i64 s.at_,.int .i64 s.seed],same w0 w F]]:=h
  refine qdf qb [.tmp 20] _ ([r1]:List qa) [1,2,3,4] h rfl rfl rfl rfl rfl rfl rfl rfl rfl (qbQ (qB 0 h rfl) qe6 rfl) rfl rfl fun w6 p13 S5 h=>?_
  obtain ⟨x2,hx1,hF⟩:=qe hF
  obtain ⟨g1,hx1⟩:=qw hx1
  replace h:=h.pick [0,2,1,3,4] rfl
  refine qi0 qb h rfl rfl rfl rfl rfl rfl rfl rfl rfl g1 hx1 rfl fun w7 p14 k12 S6 h=>X0 8 rfl ?_
  replace h:=h.pick [1,0,2,3] rfl
  exact rK ⟨_,_,_,_,_,_,_,_,hF,rfl,h⟩ rfl
 refine qy rfl ?_
 obtain rfl:=qd hF;replace hF:=hK1
 refine zSS ?_
 obtain ⟨KF1,hKF1,o7,hF,hK3⟩:=bindE hF
 refine qa2 (fun e w'=>∃ (i9:Int) (i10:Int) (b1:Bool),KF1 (i9,i10,b1)=some r∧e=[(0,.pointer (some ⟨bb1,0,none⟩)),(4,.pointer (some ⟨bb2,0,none⟩)),(7,.slice p9 x1.length k8),(30,.bool b1)]∧SH w0 w' [Ch.box bb1 [.slice p1 s.code.length k1,.int .i64 i9,.int .i64 i10] 225,Ch.own S3 (x1:List qa) [.slice p9 x1.length k8],Ch.box bb2 (qz b p2 p3 p4 p5 p6 k2 k3 k4 k5 k6) 48,Ch.grp (old w0) (FS F) [fct (b:qc) [.slice p2 b.Ac.Ai.length k2,.slice p3 b.Aa.Ab.length k3,.slice p4 b.Aa.Aj.length k4,.slice p5 b.Aa.Af.length k5,.slice p6 b.Ah.length k6],fct (s:Tl01Source) [.slice p1 s.code.length k1,.int .i64 s.at_,.int .i64 s.seed],same w0 w F]]) ?_ ?_
 ·refine X0 5 rfl (qi (t:=26) hF rfl ?_ ?_)<;>intro hF
  ·refine X0 3 rfl ?_
   obtain ⟨o8,hr8,hF⟩:=qe hF
   obtain ⟨i17,i18,i19⟩:=o8
   refine qt (cB 132 rfl) (qh (a_0:=(⟨s.code,i4,i5⟩:Tl01Source)) (a_1:=16) h (show GoT.R _ _ ((⟨s.code,i4,i5⟩:Tl01Source):Tl01Source) _ from ⟨[.slice p1 s.code.length k1],[.int .i64 i4,.int .i64 i5],rfl,⟨_,_,rfl,(qf (h.frG 3 2 1 rfl rfl rfl)).1⟩,⟨[.int .i64 i4],[.int .i64 i5],rfl,rfl,rfl⟩⟩) hr8) rfl rfl rfl rfl ?_
   rintro w18 us5 ⟨rfl,h⟩
   dsimp only at h
   refine X0 4 rfl ?_
   replace h:=h.grpKeep [1,2,3] 3 rfl
   obtain rfl:=qd hF
   exact rG ⟨_,_,_,hK3,rfl,h⟩ rfl
  refine X0 5 rfl ?_
  replace h:=h.grpKeep [1,2,3] 3 rfl
  obtain rfl:=qd hF
  exact rG ⟨_,_,_,hK3,rfl,h⟩ rfl
 rintro e3 w19 ⟨i9,i10,b1,hF,rfl,h⟩
 subst hKF1
 refine qm rfl hF ?_ ?_<;>intro hF
 ·refine X0 3 rfl ?_
  obtain ⟨o4,hr3,hF⟩:=qe hF
  obtain ⟨i11,i12,i13⟩:=o4
  refine qt (cB 132 rfl) (qh (a_0:=(⟨s.code,i9,i10⟩:Tl01Source)) (a_1:=4) h (show GoT.R _ _ ((⟨s.code,i9,i10⟩:Tl01Source):Tl01Source) _ from ⟨[.slice p1 s.code.length k1],[.int .i64 i9,.int .i64 i10],rfl,⟨_,_,rfl,(qf (h.frG 3 1 1 rfl rfl rfl)).1⟩,⟨[.int .i64 i9],[.int .i64 i10],rfl,rfl,rfl⟩⟩) hr3) rfl rfl rfl rfl ?_
  rintro w8 us3 ⟨rfl,h⟩
  dsimp only at h
  refine X0 7 rfl (qm rfl hF ?_ ?_)<;>intro hF
  ·refine X0 3 rfl ?_
   obtain ⟨o5,hr4,hF⟩:=qe hF
   obtain ⟨i14,i15,i16⟩:=o5
   refine qt (cB 132 rfl) (qh (a_0:=(⟨s.code,i12,i13⟩:Tl01Source)) (a_1:=2) h (show GoT.R _ _ ((⟨s.code,i12,i13⟩:Tl01Source):Tl01Source) _ from ⟨[.slice p1 s.code.length k1],[.int .i64 i12,.int .i64 i13],rfl,⟨_,_,rfl,(qf (h.frG 3 1 1 rfl rfl rfl)).1⟩,⟨[.int .i64 i12],[.int .i64 i13],rfl,rfl,rfl⟩⟩) hr4) rfl rfl rfl rfl ?_
   rintro w9 us4 ⟨rfl,h⟩
   dsimp only at h
   refine zp1 rfl ?_
   obtain ⟨y1,hy1,hF⟩:=qe hF
   have he1:=qax hy1
   replace h:=h.pick [1,0,2,3] rfl
   obtain ⟨S7,S8,cs5,h⟩:=h.take hy1
   obtain ⟨p15,k13,p16,k14,p17,k15,rfl,-,-,-⟩:=qX (h.own 0 rfl)
   obtain ⟨S9,S10,S11,h⟩:=qf7 h
   obtain ⟨b2,hp1,-,-,hl2⟩:=h.holeAt 3 rfl
   obtain ⟨q1,hq1⟩:∃ q,q=0+(0:Int).toNat*GoT.k qa:=⟨_,rfl⟩
   refine zx hp1 hq1 ⟨he1.1,qN he1.2.1 hl2⟩ rfl (zp1 rfl (qhQ qb 3 0 h rfl hp1 hq1 rfl rfl rfl rfl rfl rfl fun w10 h=>X0 7 rfl ?_))
   obtain ⟨S12,h⟩:=h.gather [3,4,5,6] (qbu (⟨W64 (5*i14),y1.Az,y1.Au,y1.Ap,y1.To⟩:qa) h (qC (S:=fun _=>False) rfl) (qC (S:=fun _=>False) rfl) (qB 2 h rfl) (qB 1 h rfl) (qB 0 h rfl) (by rfl) (by rfl) (by rfl) (by rfl)) rfl
   replace h:=h.put
   obtain ⟨S13,h⟩:=qh1 (S:=_) h
   replace h:=h.frzI 0 rfl
   replace h:=h.grpAdd 0 rfl (x:=((setS x1 0 (⟨W64 (5*i14),y1.Az,y1.Au,y1.Ap,y1.To⟩:qa)):(List qa))) (h.grpS 0 0 rfl rfl)
   replace h:=h.grpKeep [0] 0 rfl
   obtain rfl:=qd hF
   replace h:=h.pick [0,1,3] rfl
   exact qbd qb [GoT.v (List qa) [.slice p9 x1.length k8]] ⟨rfl,trivial⟩ ⟨_,_,rfl,SH.unfr 1 2 h0 h rfl rfl⟩
  refine X0 5 rfl (qm rfl hF ?_ ?_)<;>intro hF
  ·refine X0 2 rfl ?_
   obtain ⟨y2,hy2,hF⟩:=qe hF
   have he2:=qax hy2
   replace h:=h.pick [1,0,2,3] rfl
   obtain ⟨S14,S15,cs6,h⟩:=h.take hy2
   obtain ⟨p18,k16,p19,k17,p20,k18,rfl,-,-,-⟩:=qX (h.own 0 rfl)
   obtain ⟨S16,S17,S18,h⟩:=qf7 h
   obtain ⟨b3,hp2,-,-,hl4⟩:=h.holeAt 3 rfl
   obtain ⟨q2,hq2⟩:∃ q,q=0+(0:Int).toNat*GoT.k qa:=⟨_,rfl⟩
   refine zx hp2 hq2 ⟨he2.1,qN he2.2.1 hl4⟩ rfl (zp1 rfl (qhQ qb 3 1 h rfl hp2 hq2 rfl rfl rfl rfl rfl rfl fun w11 h=>X0 7 rfl ?_))
   obtain ⟨S19,h⟩:=h.gather [3,4,5,6] (qbu (⟨y2.Am,(-1),y2.Au,y2.Ap,y2.To⟩:qa) h (qC (S:=fun _=>False) rfl) (qC (S:=fun _=>False) rfl) (qB 2 h rfl) (qB 1 h rfl) (qB 0 h rfl) (by rfl) (by rfl) (by rfl) (by rfl)) rfl
   replace h:=h.put
   obtain ⟨S20,h⟩:=qh1 (S:=_) h
   replace h:=h.frzI 0 rfl
   replace h:=h.grpAdd 0 rfl (x:=((setS x1 0 (⟨y2.Am,(-1),y2.Au,y2.Ap,y2.To⟩:qa)):(List qa))) (h.grpS 0 0 rfl rfl)
   replace h:=h.grpKeep [0] 0 rfl
   obtain rfl:=qd hF
   replace h:=h.pick [0,1,3] rfl
   exact qbd qb [GoT.v (List qa) [.slice p9 x1.length k8]] ⟨rfl,trivial⟩ ⟨_,_,rfl,SH.unfr 1 2 h0 h rfl rfl⟩
  refine X0 5 rfl (qm rfl hF ?_ ?_)<;>intro hF
  ·refine X1 3 2 h rfl (zcI h hF (qbm (h.grp 3 0 rfl rfl)) rfl fun r2 w12 h hF=>ql qb [.tmp 59] _ ([r2]:List Int) h rfl rfl rfl rfl rfl rfl rfl rfl rfl ⟨rfl,trivial⟩ rfl fun w13 p21 S21 h=>?_)
   obtain ⟨y3,hy3,hF⟩:=qe hF
   have he3:=qax hy3
   replace h:=h.pick [2,0,1,3,4] rfl
   obtain ⟨S22,S23,cs7,h⟩:=h.take hy3
   obtain ⟨p22,k19,p23,k20,p24,k21,rfl,-,-,-⟩:=qX (h.own 0 rfl)
   obtain ⟨S24,S25,S26,h⟩:=qf7 h
   obtain ⟨b4,hp3,-,-,hl6⟩:=h.holeAt 3 rfl
   obtain ⟨q3,hq3⟩:∃ q,q=0+(0:Int).toNat*GoT.k qa:=⟨_,rfl⟩
   refine zx hp3 hq3 ⟨he3.1,qN he3.2.1 hl6⟩ rfl (zp1 rfl (qhQ qb 3 4 h rfl hp3 hq3 rfl rfl rfl rfl rfl rfl fun w14 h=>?_))
   replace h:SH _ _ [Ch.own S26 (y3.To:List Int) [.slice p24 y3.To.length k21],Ch.own S25 (y3.Ap:List Int) [.slice p23 y3.Ap.length k20],Ch.own S24 (y3.Au:List Int) [.slice p22 y3.Au.length k19],Ch.hole S23 (x1:List qa) p9 x1.length k8 (0:Int).toNat [.int .i64 y3.Am,.int .i64 y3.Az,.slice p22 y3.Au.length k19,.slice p23 y3.Ap.length k20,.slice p21 1 1],Ch.own S21 (([r2]:List Int):List Int) [.slice p21 1 1],Ch.box bb1 [.slice p1 s.code.length k1,.int .i64 i12,.int .i64 i13] 225,Ch.box bb2 (qz b p2 p3 p4 p5 p6 k2 k3 k4 k5 k6) 48,Ch.grp (old w0) (FS F) [fct (b:qc) [.slice p2 b.Ac.Ai.length k2,.slice p3 b.Aa.Ab.length k3,.slice p4 b.Aa.Aj.length k4,.slice p5 b.Aa.Af.length k5,.slice p6 b.Ah.length k6],fct (s:Tl01Source) [.slice p1 s.code.length k1,.int .i64 s.at_,.int .i64 s.seed],same w0 w F]]:=h
   refine X0 7 rfl ?_
   obtain ⟨S27,h⟩:=h.gather [0,3,5,6,7] (qbu (⟨y3.Am,y3.Az,y3.Au,y3.Ap,([r2]:List Int)⟩:qa) h (qC (S:=fun _=>False) rfl) (qC (S:=fun _=>False) rfl) (qB 2 h rfl) (qB 1 h rfl) (qB 4 h rfl) (by rfl) (by rfl) (by rfl) (by rfl)) rfl
   replace h:=h.pick [0,2,1,3,4,5] rfl
   replace h:=h.put
   obtain ⟨S28,h⟩:=qh1 (S:=_) h
   replace h:=h.frzI 0 rfl
   replace h:=h.grpAdd 0 rfl (x:=((setS x1 0 (⟨y3.Am,y3.Az,y3.Au,y3.Ap,([r2]:List Int)⟩:qa)):(List qa))) (h.grpS 0 0 rfl rfl)
   replace h:=h.grpKeep [0] 0 rfl
   obtain rfl:=qd hF
   replace h:=h.pick [0,2,4] rfl
   exact qbd qb [GoT.v (List qa) [.slice p9 x1.length k8]] ⟨rfl,trivial⟩ ⟨_,_,rfl,SH.unfr 1 2 h0 h rfl rfl⟩
  replace h:=h.grpKeep [1,2] 3 rfl
  replace h:=h.pick [1,0,2,3] rfl
  obtain ⟨S29,S30,h,-⟩:=h.toRowX
  obtain ⟨o6,hF,hK2⟩:=qe hF
  refine qq ?_
  replace h:=h.pick [0,1,3] rfl
  refine rL (fun m e w'=>∃ (S31:Nat→Prop) (S32:Nat→Prop) (p25:Option Addr) (k22:Nat) (x3:(List qa)),qbZ m x3=some o6∧e=[(7,.slice p25 x3.length k22)]∧SH w0 w' [Ch.rowX S31 S32 (x3:List qa) p25 k22 [],Ch.box bb1 [.slice p1 s.code.length k1,.int .i64 i12,.int .i64 i13] 225,Ch.grp (old w0) (FS F) [fct (s:Tl01Source) [.slice p1 s.code.length k1,.int .i64 s.at_,.int .i64 s.seed],same w0 w F]]) n ⟨_,_,_,_,_,hF,rfl,h⟩ rfl ?_
  rintro m2 e2 w15 ⟨S31,S32,p25,k22,x3,hF,rfl,h⟩
  rcases m2 with _|m2
  ·cases hF
  refine X0 7 rfl (qm rfl hF ?_ ?_)<;>intro hF
  ·refine X0 5 rfl ?_
   obtain ⟨y4,hy4,hF⟩:=qe hF
   have he4:=qax hy4
   obtain ⟨b5,o_1,q4,cs8,hp4,hq4,-,hr6,hc7⟩:=h.atX 0 rfl hy4
   have hr7:=hr6
   obtain ⟨p26,k23,p27,k24,p28,k25,rfl,s16,s17,s18⟩:=qX hr6
   replace h:=h.xAdd 0 rfl hr7
   refine zxe hp4 hq4 he4 rfl (zc 0 hc7 rfl (ql qb [.tmp 39] _ ([⟨[.int .i64 y4.Am,.int .i64 y4.Az,.slice p26 y4.Au.length k23,.slice p27 y4.Ap.length k24,.slice p28 y4.To.length k25]⟩]:List (Raw qa)) h rfl rfl rfl rfl rfl rfl rfl rfl rfl ⟨qqI (h.xS 0 0 rfl rfl),trivial⟩ rfl fun w16 p29 S33 h=>?_))
   obtain ⟨x4,hx2,hF⟩:=qe hF
   obtain ⟨g2,hx2⟩:=qw hx2
   replace h:=h.pick [1,0,2,3] rfl
   refine qqz (ys:=([y4]:List qa)) qb h ⟨(h.xS 0 0 rfl rfl),trivial⟩ rfl rfl rfl rfl rfl rfl rfl rfl rfl rfl g2 hx2 rfl fun w17 p30 k26 S34 h=>X0 3 rfl ?_
   replace h:=h.xKeep [] 0 rfl
   exact rK ⟨_,_,_,_,_,hF,rfl,h⟩ rfl
  refine qy rfl ?_
  obtain rfl:=qd hF;replace hF:=hK2
  refine X0 6 rfl ?_
  replace h:=h.frzX 0 rfl
  replace h:=h.grpAdd 0 rfl (x:=(x3:(List qa))) (h.grpS 0 0 rfl rfl)
  replace h:=h.grpKeep [0] 0 rfl
  obtain rfl:=qd hF
  exact qbd qb [GoT.v (List qa) [.slice p25 x3.length k22]] ⟨rfl,trivial⟩ ⟨_,_,rfl,SH.unfr 1 1 h0 h rfl rfl⟩
 refine X0 6 rfl ?_
 replace h:=h.frzI 1 rfl
 replace h:=h.grpAdd 1 rfl (x:=(x1:(List qa))) (h.grpS 1 0 rfl rfl)
 replace h:=h.grpKeep [0] 1 rfl
 obtain rfl:=qd hF
 replace h:=h.pick [1,0,3] rfl
 exact qbd qb [GoT.v (List qa) [.slice p9 x1.length k8]] ⟨rfl,trivial⟩ ⟨_,_,rfl,SH.unfr 1 2 h0 h rfl rfl⟩
def qe0 (n:Nat) (code:(List (IntK .u8))):Option (qc × (List qa) × (List Int)) :=
 (qid n code).bind fun o=>match o with
  | some (⟨_,_,i1⟩) =>
   ((qgO n (⟨code,0,i1⟩:Tl01Source)).bind fun o=>match o with
    | (r2,i2,i3) =>
     (
      (qfY n r2).bind fun r7 =>
      bif (!r7) then some true else
      (qaB n r2).bind fun r8 =>
      some (r8==0)).bind fun b1 =>
     bif b1 then some (r2,[],([0]:List Int)) else
     (qee n (⟨code,i2,i3⟩:Tl01Source) r2).bind fun o=>match o with
      | (r3,i4,i5) =>
       (qfe n (⟨code,i4,i5⟩:Tl01Source) r2 r3).bind fun o=>match o with
        | (r4,i6,i7) =>
         (qk n (⟨code,i6,i7⟩:Tl01Source) 3).bind fun o=>match o with
          | (i8,i9,i10) =>
           (
            bif (i8==0) then
             (qee n (⟨code,i9,i10⟩:Tl01Source) r2).bind fun o=>match o with
              | (r6,i19,i20) =>
               some (r6,i19,i20)
            else
             some (r3,i9,i10)).bind fun o=>match o with
            | (x1,i11,i12) =>
             (qk n (⟨code,i11,i12⟩:Tl01Source) 14).bind fun o=>match o with
              | (i13,i14,i15) =>
               bif (i13==0) then
                (qaB n r2).bind fun r5 =>
                (qk n (⟨code,i14,i15⟩:Tl01Source) r5).bind fun o=>match o with
                 | (i16,_,_) =>
                  (appS x1 ([i16]:List Int)).bind fun x2 =>
                  some (r2,r4,x2)
               else
                some (r2,r4,x1))
  | _=>none
theorem qje {A:Nat→Prop} (hA:∀ b,A b→old w b) {code:(List (IntK .u8))} (ha1:GoT.R w A code cs1) {r:(qc × (List qa) × (List Int))} (hF:qe0 n code=some r):RetG Tryz.prog 87 [GoT.v (List (IntK .u8)) cs1] w A r:=by
 obtain ⟨p1,k1,rfl,s1⟩:=ha1
 have hg:=Rg.start hA
 refine qgo Tryz.func87 rfl (m:=49) rfl rfl (fun h=>?_)
 refine zSR (qx qb h rfl rfl rfl fun w1 bb1 h=>X0 6 rfl ?_)
 obtain ⟨r1,hr1,hF⟩:=qe hF
 refine qpL (cB 128 rfl) (qkl ⟨_,_,rfl,(h.oldS (s1.mono hg.old))⟩ hr1) rfl rfl rfl rfl ?_
 rintro w2 us1 L1 hs1 ⟨bb2,i1,rfl,rfl,rfl⟩
 replace h:SH _ _ [Ch.box bb2 [.slice p1 code.length k1,.int .i64 0,.int .i64 i1] 225,Ch.box bb1 [.slice none 0 0,.slice none 0 0,.slice none 0 0,.slice none 0 0,.slice none 0 0] 48]:=SH.appendN h hs1 ⟨fun _ h=>h,trivial⟩
 refine X0 5 rfl ?_
 obtain ⟨o1,hr2,hF⟩:=qe hF
 obtain ⟨r2,i2,i3⟩:=o1
 refine qt (cB 129 rfl) (qjU (s:=(⟨code,0,i1⟩:Tl01Source)) h (qdm _ (h.frOldS (s1.mono hg.old))) hr2) rfl rfl rfl rfl ?_
 rintro w3 us2 ⟨S1,cs2,rfl,h⟩
 have hr3:=h.grpS 0 0 rfl rfl
 obtain ⟨p2,k2,p3,k3,p4,k4,p5,k5,p6,k6,rfl,s2,s3,s4,s5,s6⟩:=qT hr3
 replace h:SH _ _ [Ch.grp (fun _=>False) S1 [fct (r2:qc) [.slice p2 r2.Ac.Ai.length k2,.slice p3 r2.Aa.Ab.length k3,.slice p4 r2.Aa.Aj.length k4,.slice p5 r2.Aa.Af.length k5,.slice p6 r2.Ah.length k6]],Ch.box bb2 [.slice p1 code.length k1,.int .i64 i2,.int .i64 i3] 225,Ch.box bb1 [.slice none 0 0,.slice none 0 0,.slice none 0 0,.slice none 0 0,.slice none 0 0] 48]:=h
 refine qx qb h rfl rfl rfl fun w4 bb3 h=>zs 0 h rfl fun w5 h=>zNSS ?_
 obtain ⟨KF2,hKF2,o9,hF,hK2⟩:=bindE hF
 refine qa2 (fun e w'=>∃ (b1:Bool),KF2 b1=some r∧e=[(2,.pointer (some ⟨bb1,0,none⟩)),(5,.pointer (some ⟨bb2,0,none⟩)),(6,.pointer (some ⟨bb3,0,none⟩)),(20,.bool b1)]∧SH w w' [Ch.box bb3 (qz r2 p2 p3 p4 p5 p6 k2 k3 k4 k5 k6) 48,Ch.grp (fun _=>False) S1 [fct (r2:qc) [.slice p2 r2.Ac.Ai.length k2,.slice p3 r2.Aa.Ab.length k3,.slice p4 r2.Aa.Aj.length k4,.slice p5 r2.Aa.Af.length k5,.slice p6 r2.Ah.length k6]],Ch.box bb2 [.slice p1 code.length k1,.int .i64 i2,.int .i64 i3] 225,Ch.box bb1 [.slice none 0 0,.slice none 0 0,.slice none 0 0,.slice none 0 0,.slice none 0 0] 48]) ?_ ?_
 ·refine X1 2 0 h rfl (zcB h hF (qii (h.grp 1 0 rfl rfl)) rfl fun r7 w20 h hF=>zp2 rfl (qi (t:=16) hF rfl ?_ ?_))<;>intro hF
  ·refine X0 5 rfl ?_
   obtain rfl:=qd hF
   exact rG ⟨_,hK2,rfl,h⟩ rfl
  refine X1 3 0 h rfl (zcI h hF (qbm (h.grp 1 0 rfl rfl)) rfl fun r8 w21 h hF=>X0 4 rfl ?_)
  obtain rfl:=qd hF
  exact rG ⟨_,hK2,rfl,h⟩ rfl
 rintro e2 w22 ⟨b1,hF,rfl,h⟩
 subst hKF2
 refine qm rfl hF ?_ ?_<;>intro hF
 ·refine X1 3 0 h rfl (ql qb [.const (.int .i64 (0))] _ ([0]:List Int) h rfl rfl rfl rfl rfl rfl rfl rfl rfl ⟨rfl,trivial⟩ rfl fun w6 p7 S2 h=>zs 4 h rfl fun w7 h=>X0 3 rfl ?_)
  obtain rfl:=qd hF
  have hv1:GoRs.Rs (ρ:=(qc × (List qa) × (List Int))) h.wc (reg A w h.wc) (r2,[],([0]:List Int)) [GoT.v qc (qz r2 p2 p3 p4 p5 p6 k2 k3 k4 k5 k6),GoT.v (List qa) [.slice none 0 0],GoT.v (List Int) [.slice p7 1 1]]:=⟨_,_,rfl,(hg.outR h (GoT.mono (Rg.grpR 2 0 h rfl rfl) (fun _ hb=>hb.elim (fun h=>h.elim) .inr))),⟨_,_,rfl,(hg.outR h (⟨_,_,rfl,qgS⟩)),⟨_,rfl,(hg.outR h (Rg.ownR 0 h rfl))⟩⟩⟩
  have hk1:=h
  replace h:=h.pick [0,1,3,4] rfl
  exact qiV qb (ρ:=(qc × (List qa) × (List Int))) (r:=(r2,[],([0]:List Int))) [GoT.v qc (qz r2 p2 p3 p4 p5 p6 k2 k3 k4 k5 k6),GoT.v (List qa) [.slice none 0 0],GoT.v (List Int) [.slice p7 1 1]] h ⟨⟨_,_,_,rfl,rfl,hk1.box 4 rfl,rfl⟩,rfl,rfl,trivial⟩ hv1
 refine X1 5 0 h rfl ?_
 replace h:=h.pick [2,0,1,3] rfl
 obtain ⟨o2,hr5,hF⟩:=qe hF
 obtain ⟨r3,i4,i5⟩:=o2
 refine qt (cB 130 rfl) (qgj (s:=(⟨code,i2,i3⟩:Tl01Source)) (b:=r2) h (qdm _ (h.frOldS (s1.mono hg.old))) (h.frG 2 0 1 rfl rfl rfl) hr5) rfl rfl rfl rfl ?_
 rintro w8 us3 ⟨S3,cs3,rfl,h⟩
 obtain ⟨p8,k7,rfl,-⟩:=h.own 0 rfl
 replace h:SH _ _ [Ch.own S3 (r3:List Int) [.slice p8 r3.length k7],Ch.box bb2 [.slice p1 code.length k1,.int .i64 i4,.int .i64 i5] 225,Ch.box bb3 (qz r2 p2 p3 p4 p5 p6 k2 k3 k4 k5 k6) 48,Ch.grp (fun _=>False) S1 [fct (r2:qc) [.slice p2 r2.Ac.Ai.length k2,.slice p3 r2.Aa.Ab.length k3,.slice p4 r2.Aa.Aj.length k4,.slice p5 r2.Aa.Af.length k5,.slice p6 r2.Ah.length k6]],Ch.box bb1 [.slice none 0 0,.slice none 0 0,.slice none 0 0,.slice none 0 0,.slice none 0 0] 48]:=h
 refine X1 7 2 h rfl ?_
 replace h:=h.pick [1,0,2,3,4] rfl
 obtain ⟨o3,hr6,hF⟩:=qe hF
 obtain ⟨r4,i6,i7⟩:=o3
 refine qt (cB 131 rfl) (qiN (s:=(⟨code,i4,i5⟩:Tl01Source)) (b:=r2) (path:=r3) h (qdm _ (h.frOldS (s1.mono hg.old))) (h.frG 3 0 1 rfl rfl rfl) (h.frO 1 1 rfl rfl) hr6) rfl rfl rfl rfl ?_
 rintro w9 us4 ⟨S4,cs4,rfl,h⟩
 have hr7:=h.grpS 0 0 rfl rfl
 obtain ⟨p9,k8,rfl,s7⟩:=hr7
 replace h:SH _ _ [Ch.grp (fun _=>False) S4 [fct (r4:(List qa)) [.slice p9 r4.length k8]],Ch.box bb2 [.slice p1 code.length k1,.int .i64 i6,.int .i64 i7] 225,Ch.own S3 (r3:List Int) [.slice p8 r3.length k7],Ch.box bb3 (qz r2 p2 p3 p4 p5 p6 k2 k3 k4 k5 k6) 48,Ch.grp (fun _=>False) S1 [fct (r2:qc) [.slice p2 r2.Ac.Ai.length k2,.slice p3 r2.Aa.Ab.length k3,.slice p4 r2.Aa.Aj.length k4,.slice p5 r2.Aa.Af.length k5,.slice p6 r2.Ah.length k6]],Ch.box bb1 [.slice none 0 0,.slice none 0 0,.slice none 0 0,.slice none 0 0,.slice none 0 0] 48]:=h
 refine X0 6 rfl ?_
 replace h:=h.pick [1,0,2,3,4,5] rfl
 obtain ⟨o4,hr9,hF⟩:=qe hF
 obtain ⟨i8,i9,i10⟩:=o4
 refine qt (cB 132 rfl) (qh (a_0:=(⟨code,i6,i7⟩:Tl01Source)) (a_1:=3) h (qdm _ (h.frOldS (s1.mono hg.old))) hr9) rfl rfl rfl rfl ?_
 rintro w10 us5 ⟨rfl,h⟩
 dsimp only at h
 refine X0 2 rfl ?_
 obtain ⟨KF1,hKF1,o7,hF,hK1⟩:=bindE hF
 refine qa2 (fun e w'=>∃ (S5:Nat→Prop) (p10:Option Addr) (ln1:Nat) (k9:Nat) (x1:(List Int)) (i11:Int) (i12:Int),KF1 (x1,i11,i12)=some r∧e=[(2,.pointer (some ⟨bb1,0,none⟩)),(5,.pointer (some ⟨bb2,0,none⟩)),(6,.pointer (some ⟨bb3,0,none⟩)),(7,.slice p10 ln1 k9),(8,.slice p9 r4.length k8)]∧SH w w' [Ch.own S5 (x1:List Int) [.slice p10 ln1 k9],Ch.box bb2 [.slice p1 code.length k1,.int .i64 i11,.int .i64 i12] 225,Ch.grp (fun _=>False) S4 [fct (r4:(List qa)) [.slice p9 r4.length k8]],Ch.box bb3 (qz r2 p2 p3 p4 p5 p6 k2 k3 k4 k5 k6) 48,Ch.grp (fun _=>False) S1 [fct (r2:qc) [.slice p2 r2.Ac.Ai.length k2,.slice p3 r2.Aa.Ab.length k3,.slice p4 r2.Aa.Aj.length k4,.slice p5 r2.Aa.Af.length k5,.slice p6 r2.Ah.length k6]],Ch.box bb1 [.slice none 0 0,.slice none 0 0,.slice none 0 0,.slice none 0 0,.slice none 0 0] 48]) ?_ ?_
 ·refine qm rfl hF ?_ ?_<;>intro hF
  ·refine X1 3 3 h rfl ?_
   obtain ⟨o8,hr13,hF⟩:=qe hF
   obtain ⟨r6,i19,i20⟩:=o8
   refine qt (cB 130 rfl) (qgj (s:=(⟨code,i9,i10⟩:Tl01Source)) (b:=r2) h (qdm _ (h.frOldS (s1.mono hg.old))) (h.frG 4 0 1 rfl rfl rfl) hr13) rfl rfl rfl rfl ?_
   rintro w18 us8 ⟨S8,cs5,rfl,h⟩
   obtain ⟨p13,k11,rfl,-⟩:=h.own 0 rfl
   replace h:SH _ _ [Ch.own S8 (r6:List Int) [.slice p13 r6.length k11],Ch.box bb2 [.slice p1 code.length k1,.int .i64 i19,.int .i64 i20] 225,Ch.grp (fun _=>False) S4 [fct (r4:(List qa)) [.slice p9 r4.length k8]],Ch.own S3 (r3:List Int) [.slice p8 r3.length k7],Ch.box bb3 (qz r2 p2 p3 p4 p5 p6 k2 k3 k4 k5 k6) 48,Ch.grp (fun _=>False) S1 [fct (r2:qc) [.slice p2 r2.Ac.Ai.length k2,.slice p3 r2.Aa.Ab.length k3,.slice p4 r2.Aa.Aj.length k4,.slice p5 r2.Aa.Af.length k5,.slice p6 r2.Ah.length k6]],Ch.box bb1 [.slice none 0 0,.slice none 0 0,.slice none 0 0,.slice none 0 0,.slice none 0 0] 48]:=h
   refine X0 2 rfl ?_
   replace h:=h.pick [0,1,2,4,5,6] rfl
   obtain rfl:=qd hF
   exact rG ⟨_,_,_,_,_,_,_,hK1,rfl,h⟩ rfl
  refine qcV ?_
  replace h:=h.pick [2,0,1,3,4,5] rfl
  obtain rfl:=qd hF
  exact rG ⟨_,_,_,_,_,_,_,hK1,rfl,h⟩ rfl
 rintro e1 w19 ⟨S5,p10,ln1,k9,x1,i11,i12,hF,rfl,h⟩
 subst hKF1
 obtain rfl:=(h.sl 0 rfl).2
 refine X0 4 rfl ?_
 replace h:=h.pick [1,0,2,3,4,5] rfl
 obtain ⟨o5,hr10,hF⟩:=qe hF
 obtain ⟨i13,i14,i15⟩:=o5
 refine qt (cB 132 rfl) (qh (a_0:=(⟨code,i11,i12⟩:Tl01Source)) (a_1:=14) h (qdm _ (h.frOldS (s1.mono hg.old))) hr10) rfl rfl rfl rfl ?_
 rintro w11 us6 ⟨rfl,h⟩
 dsimp only at h
 refine X0 2 rfl (qm rfl hF ?_ ?_)<;>intro hF
 ·refine X1 4 3 h rfl (zcI h hF (qbm (h.grp 4 0 rfl rfl)) rfl fun r5 w12 h hF=>?_)
  obtain ⟨o6,hr12,hF⟩:=qe hF
  obtain ⟨i16,i17,i18⟩:=o6
  refine qt (cB 132 rfl) (qh (a_0:=(⟨code,i14,i15⟩:Tl01Source)) (a_1:=r5) h (qdm _ (h.frOldS (s1.mono hg.old))) hr12) rfl rfl rfl rfl ?_
  rintro w13 us7 ⟨rfl,h⟩
  dsimp only at h
  refine ql qb [.tmp 43] _ ([i16]:List Int) h rfl rfl rfl rfl rfl rfl rfl rfl rfl ⟨rfl,trivial⟩ rfl fun w14 p11 S6 h=>?_
  obtain ⟨x2,hx1,hF⟩:=qe hF
  obtain ⟨g1,hx1⟩:=qw hx1
  refine qak qb 2 h rfl (h.sl 0 rfl).1 (h.sl 0 rfl).2 rfl rfl rfl rfl rfl rfl rfl rfl rfl g1 hx1 rfl fun w15 p12 k10 S7 h=>X1 7 4 h rfl (zs 6 h rfl fun w16 h=>X0 3 rfl ?_)
  obtain rfl:=qd hF
  have hv2:GoRs.Rs (ρ:=(qc × (List qa) × (List Int))) h.wc (reg A w h.wc) (r2,r4,x2) [GoT.v qc (qz r2 p2 p3 p4 p5 p6 k2 k3 k4 k5 k6),GoT.v (List qa) [.slice p9 r4.length k8],GoT.v (List Int) [.slice p12 x2.length k10]]:=⟨_,_,rfl,(hg.outR h (GoT.mono (Rg.grpR 5 0 h rfl rfl) (fun _ hb=>hb.elim (fun h=>h.elim) .inr))),⟨_,_,rfl,(hg.outR h (GoT.mono (Rg.grpR 3 0 h rfl rfl) (fun _ hb=>hb.elim (fun h=>h.elim) .inr))),⟨_,rfl,(hg.outR h (Rg.ownR 2 h rfl))⟩⟩⟩
  have hk2:=h
  replace h:=h.pick [0,1,2,4,6] rfl
  exact qiV qb (ρ:=(qc × (List qa) × (List Int))) (r:=(r2,r4,x2)) [GoT.v qc (qz r2 p2 p3 p4 p5 p6 k2 k3 k4 k5 k6),GoT.v (List qa) [.slice p9 r4.length k8],GoT.v (List Int) [.slice p12 x2.length k10]] h ⟨⟨_,_,_,rfl,rfl,hk2.box 6 rfl,rfl⟩,rfl,rfl,trivial⟩ hv2
 refine X1 6 3 h rfl (zs 5 h rfl fun w17 h=>X0 3 rfl ?_)
 obtain rfl:=qd hF
 have hv3:GoRs.Rs (ρ:=(qc × (List qa) × (List Int))) h.wc (reg A w h.wc) (r2,r4,x1) [GoT.v qc (qz r2 p2 p3 p4 p5 p6 k2 k3 k4 k5 k6),GoT.v (List qa) [.slice p9 r4.length k8],GoT.v (List Int) [.slice p10 x1.length k9]]:=⟨_,_,rfl,(hg.outR h (GoT.mono (Rg.grpR 4 0 h rfl rfl) (fun _ hb=>hb.elim (fun h=>h.elim) .inr))),⟨_,_,rfl,(hg.outR h (GoT.mono (Rg.grpR 2 0 h rfl rfl) (fun _ hb=>hb.elim (fun h=>h.elim) .inr))),⟨_,rfl,(hg.outR h (Rg.ownR 1 h rfl))⟩⟩⟩
 have hk3:=h
 replace h:=h.pick [0,1,3,5] rfl
 exact qiV qb (ρ:=(qc × (List qa) × (List Int))) (r:=(r2,r4,x1)) [GoT.v qc (qz r2 p2 p3 p4 p5 p6 k2 k3 k4 k5 k6),GoT.v (List qa) [.slice p9 r4.length k8],GoT.v (List Int) [.slice p10 x1.length k9]] h ⟨⟨_,_,_,rfl,rfl,hk3.box 5 rfl,rfl⟩,rfl,rfl,trivial⟩ hv3
def qeM (n:Nat) (code:(List (IntK .u8))):Option (qc × qa) :=
 (qe0 n code).bind fun o=>match o with
  | (r2,r3,_) =>
   bif ((r3.length:Int)==0) then some (r2,(⟨0,0,[],[],[]⟩:qa)) else
   (idx r3 0).bind fun y1 =>
   some (r2,y1)
theorem qhI {A:Nat→Prop} (hA:∀ b,A b→old w b) {code:(List (IntK .u8))} (ha1:GoT.R w A code cs1) {r:(qc × qa)} (hF:qeM n code=some r):RetG Tryz.prog 44 [GoT.v (List (IntK .u8)) cs1] w A r:=by
 obtain ⟨p1,k1,rfl,s1⟩:=ha1
 have hg:=Rg.start hA
 refine qgo Tryz.func44 rfl (m:=22) rfl rfl (fun h=>?_)
 refine zSR (qx qb h rfl rfl rfl fun w1 bb1 h=>qx qb h rfl rfl rfl fun w2 bb2 h=>X0 4 rfl ?_)
 obtain ⟨r1,hr1,hF⟩:=qe hF
 obtain ⟨r2,r3,r4⟩:=r1
 refine qi3 (r2,r3,r4) hg h (cB 87 rfl) (qje (hg.atB h) ⟨_,_,rfl,(hg.inBS h s1)⟩ hr1) rfl rfl rfl rfl fun w3 us1 S1 h hv1=>?_
 obtain ⟨cs2,us2,rfl,hr2,hv2⟩:=qjQ hv1
 have hr3:=hr2
 obtain ⟨p2,k2,p3,k3,p4,k4,p5,k5,p6,k6,rfl,s2,s3,s4,s5,s6⟩:=qT hr2
 replace h:=h.grpAdd 0 rfl hr3
 obtain ⟨cs3,us3,rfl,hr4,hv3⟩:=qjQ hv2
 have hr5:=hr4
 obtain ⟨p7,k7,rfl,s7⟩:=hr4
 replace h:=h.grpAdd 0 rfl hr5
 obtain ⟨cs4,rfl,hr6⟩:=qh2 hv3
 have hr7:=hr6
 obtain ⟨p8,k8,rfl,s8⟩:=hr6
 replace h:=h.grpAdd 0 rfl hr7
 refine zp4 rfl (qx qb h rfl rfl rfl fun w4 bb3 h=>zs 0 h rfl fun w5 h=>X0 10 rfl (qm rfl hF ?_ ?_))<;>intro hF
 ·refine X1 3 0 h rfl (r_v (qah qb [] [] rfl rfl rfl rfl rfl rfl rfl rfl) rfl (zs 3 h rfl fun w6 h=>zs 2 h rfl fun w7 h=>qa5 ?_))
  obtain rfl:=qd hF
  have hv4:GoRs.Rs (ρ:=(qc × qa)) h.wc (reg A w h.wc) (r2,(⟨0,0,[],[],[]⟩:qa)) [GoT.v qc (qz r2 p2 p3 p4 p5 p6 k2 k3 k4 k5 k6),GoT.v qa [.int .i64 0,.int .i64 0,.slice none 0 0,.slice none 0 0,.slice none 0 0]]:=⟨_,_,rfl,(hg.outR h (Rg.grpR 1 2 h rfl rfl)),⟨_,rfl,(hg.outR h (qiP (⟨0,0,[],[],[]⟩:qa) qgS qgS qgS))⟩⟩
  have hk1:=h
  replace h:=h.pick [0,2,3] rfl
  exact qiV qb (ρ:=(qc × qa)) (r:=(r2,(⟨0,0,[],[],[]⟩:qa))) [GoT.v qc (qz r2 p2 p3 p4 p5 p6 k2 k3 k4 k5 k6),GoT.v qa [.int .i64 0,.int .i64 0,.slice none 0 0,.slice none 0 0,.slice none 0 0]] h ⟨⟨_,_,_,rfl,rfl,hk1.box 3 rfl,rfl⟩,⟨_,_,_,rfl,rfl,hk1.box 2 rfl,rfl⟩,trivial⟩ hv4
 refine zKS (rA [] [0] h rfl fun w8 h=>M1 3 [0,1] 0 (h.pick [0] rfl) rfl ?_)
 obtain ⟨y1,hy1,hF,he1,b1,_,q1,cs5,hp1,hq1,hS9,hr8,hc2⟩:=(qfT (h.grpS 1 1 rfl rfl)).1.ixS hF
 have hr9:=hr8
 obtain ⟨p9,k9,p10,k10,p11,k11,rfl,s9,s10,s11⟩:=qX hr8
 replace h:=h.grpAdd 1 rfl hr9
 replace h:=h.grpAdd 1 rfl (gcell hS9 hc2)
 refine Ax 2 7 hp1 hq1 ⟨he1.1,qN he1.2.1 (qfT (h.grpS 1 3 rfl rfl)).2⟩ (h.pick [0] rfl) rfl (qjx (fun e w'=>e=[(2,.pointer (some ⟨bb1,0,none⟩)),(3,.pointer (some ⟨bb2,0,none⟩))]∧SH w w' [Ch.box bb3 (qz r2 p2 p3 p4 p5 p6 k2 k3 k4 k5 k6) 48,Ch.grp A S1 [fct (⟨true⟩:GCell b1 q1 [.int .i64 y1.Am,.int .i64 y1.Az,.slice p9 y1.Au.length k9,.slice p10 y1.Ap.length k10,.slice p11 y1.To.length k11]) [.pointer none],fct (y1:qa) [.int .i64 y1.Am,.int .i64 y1.Az,.slice p9 y1.Au.length k9,.slice p10 y1.Ap.length k10,.slice p11 y1.To.length k11],fct (r4:(List Int)) [.slice p8 r4.length k8],fct (r3:(List qa)) [.slice p7 r3.length k7],fct (r2:qc) [.slice p2 r2.Ac.Ai.length k2,.slice p3 r2.Aa.Ab.length k3,.slice p4 r2.Aa.Aj.length k4,.slice p5 r2.Aa.Af.length k5,.slice p6 r2.Ah.length k6]],Ch.box bb2 (qbo y1 p9 p10 p11 k9 k10 k11) 50,Ch.box bb1 (qz r2 p2 p3 p4 p5 p6 k2 k3 k4 k5 k6) 48]) 0 (bits 6 63) ?_ ?_)
 ·intro K
  refine At 3 4 15 23 rfl ?_ ?_
  ·exact zc 0 hc2 rfl (Ag (h.pick [0] rfl) (Ao 4 31 rfl (zs 3 h rfl fun w14 h=>Ag (h.pick [0] rfl) (Ao 5 63 rfl (zs 2 h rfl fun w15 h=>Ag (h.pick [0] rfl) (qjj [(2,_),(3,_)] ⟨rfl,rfl,trivial⟩ (K _ _ ⟨rfl,h⟩)))))))
  exact zs 3 h rfl fun w14 h=>Ag (h.pick [0] rfl) (Ao 3 31 rfl (zc 0 (gcellAt (h.grpS 1 0 rfl rfl)) rfl (Ag (h.pick [0] rfl) (Ao 5 63 rfl (zs 2 h rfl fun w15 h=>Ag (h.pick [0] rfl) (qjj [(2,_),(3,_)] ⟨rfl,rfl,trivial⟩ (K _ _ ⟨rfl,h⟩)))))))
 rintro e2 w16 ⟨rfl,h⟩
 replace h:=h.grpKeep [1,2,3,4] 1 rfl
 refine Ad ?_
 obtain rfl:=qd hF
 have hv5:GoRs.Rs (ρ:=(qc × qa)) h.wc (reg A w h.wc) (r2,y1) [GoT.v qc (qz r2 p2 p3 p4 p5 p6 k2 k3 k4 k5 k6),GoT.v qa (qbo y1 p9 p10 p11 k9 k10 k11)]:=⟨_,_,rfl,(hg.outR h (Rg.grpR 1 3 h rfl rfl)),⟨_,rfl,(hg.outR h (⟨[.int .i64 y1.Am],[.int .i64 y1.Az,.slice p9 y1.Au.length k9,.slice p10 y1.Ap.length k10,.slice p11 y1.To.length k11],rfl,rfl,⟨[.int .i64 y1.Az],[.slice p9 y1.Au.length k9,.slice p10 y1.Ap.length k10,.slice p11 y1.To.length k11],rfl,rfl,⟨[.slice p9 y1.Au.length k9],[.slice p10 y1.Ap.length k10,.slice p11 y1.To.length k11],rfl,⟨_,_,rfl,(qbL (Rg.grpR 1 0 h rfl rfl)).1.1⟩,⟨[.slice p10 y1.Ap.length k10],[.slice p11 y1.To.length k11],rfl,⟨_,_,rfl,(qbL (Rg.grpR 1 0 h rfl rfl)).2.1.1⟩,⟨_,_,rfl,(qbL (Rg.grpR 1 0 h rfl rfl)).2.2.1⟩⟩⟩⟩⟩))⟩⟩
 have hk2:=h
 replace h:=h.pick [0,2,3] rfl
 exact qiV qb (ρ:=(qc × qa)) (r:=(r2,y1)) [GoT.v qc (qz r2 p2 p3 p4 p5 p6 k2 k3 k4 k5 k6),GoT.v qa (qbo y1 p9 p10 p11 k9 k10 k11)] h ⟨⟨_,_,_,rfl,rfl,hk2.box 3 rfl,rfl⟩,⟨_,_,_,rfl,rfl,hk2.box 2 rfl,rfl⟩,trivial⟩ hv5
def qbW (n:Nat) (code:(List (IntK .u8))):Option (qc × qa) :=
 (qeM n code).bind fun o=>match o with
  | (r2,r3) =>
   some (r2,r3)
theorem qfg {A:Nat→Prop} (hA:∀ b,A b→old w b) {code:(List (IntK .u8))} (ha1:GoT.R w A code cs1) {r:(qc × qa)} (hF:qbW n code=some r):RetG Tryz.prog 15 [GoT.v (List (IntK .u8)) cs1] w A r:=by
 obtain ⟨p1,k1,rfl,s1⟩:=ha1
 have hg:=Rg.start hA
 refine qgo Tryz.func15 rfl (m:=8) rfl rfl (fun h=>?_)
 refine zSR (qx qb h rfl rfl rfl fun w1 bb1 h=>qx qb h rfl rfl rfl fun w2 bb2 h=>X0 4 rfl ?_)
 obtain ⟨r1,hr1,hF⟩:=qe hF
 obtain ⟨r2,r3⟩:=r1
 refine qi3 (r2,r3) hg h (cB 44 rfl) (qhI (hg.atB h) ⟨_,_,rfl,(hg.inBS h s1)⟩ hr1) rfl rfl rfl rfl fun w3 us1 S1 h hv1=>?_
 obtain ⟨cs2,us2,rfl,hr2,hv2⟩:=qjQ hv1
 have hr3:=hr2
 obtain ⟨p2,k2,p3,k3,p4,k4,p5,k5,p6,k6,rfl,s2,s3,s4,s5,s6⟩:=qT hr2
 replace h:=h.grpAdd 0 rfl hr3
 obtain ⟨cs3,rfl,hr4⟩:=qh2 hv2
 have hr5:=hr4
 obtain ⟨p7,k7,p8,k8,p9,k9,rfl,s7,s8,s9⟩:=qX hr4
 replace h:=h.grpAdd 0 rfl hr5
 refine zp2 rfl (zs 2 h rfl fun w4 h=>zs 1 h rfl fun w5 h=>qa5 ?_)
 obtain rfl:=qd hF
 have hv3:GoRs.Rs (ρ:=(qc × qa)) h.wc (reg A w h.wc) (r2,r3) [GoT.v qc (qz r2 p2 p3 p4 p5 p6 k2 k3 k4 k5 k6),GoT.v qa (qbo r3 p7 p8 p9 k7 k8 k9)]:=⟨_,_,rfl,(hg.outR h (Rg.grpR 0 1 h rfl rfl)),⟨_,rfl,(hg.outR h (Rg.grpR 0 0 h rfl rfl))⟩⟩
 have hk1:=h
 replace h:=h.pick [1,2] rfl
 exact qiV qb (ρ:=(qc × qa)) (r:=(r2,r3)) [GoT.v qc (qz r2 p2 p3 p4 p5 p6 k2 k3 k4 k5 k6),GoT.v qa (qbo r3 p7 p8 p9 k7 k8 k9)] h ⟨⟨_,_,_,rfl,rfl,hk1.box 2 rfl,rfl⟩,⟨_,_,_,rfl,rfl,hk1.box 1 rfl,rfl⟩,trivial⟩ hv3
end Go.Fw


namespace Go.Fw
open Go
def qg4 (a:(List Int)):Nat:=a.length
structure qf0 (x:qR):Prop where
 Bg:(okL okI) x.Bg
 Bf:(okL okI) x.Bf
 Av:(okL okI) x.Av
structure qhY (x:qaw):Prop where
 Am:okI x.Am
 Au:okI x.Au
 To:okI x.To
 Bj:okI x.Bj
 Bi:(okL qf0) x.Bi
 Bm:(okL qf0) x.Bm
structure qh5 (x:qaa):Prop where
 As:okS x.As
 Bl:okI x.Bl
 Be:okI x.Be
 Bc:okT x.Bc
structure qi5 (x:qr):Prop where
 As:okS x.As
 Am:okI x.Am
 Aq:(okL qh5) x.Aq
 Ar:(okL qhY) x.Ar
 Bb:(okL okI) x.Bb
 Bo:okI x.Bo
 Bk:okI x.Bk
structure qeP (x:qj):Prop where
 Ai:(okL qi5) x.Ai
structure qkq (x:qu):Prop where
 As:okS x.As
 Ba:okI x.Ba
 Aj:(okL okI) x.Aj
structure qmr (x:qac):Prop where
 As:okS x.As
 Bl:okI x.Bl
 Bn:okI x.Bn
structure qgX (x:qg):Prop where
 Ab:(okL qkq) x.Ab
 Aj:(okL okS) x.Aj
 Af:(okL qmr) x.Af
structure qjP (x:qW):Prop where
 Ak:(okL okI) x.Ak
 Bh:(okL okI) x.Bh
 Be:(okL okI) x.Be
 Ay:(okL okI) x.Ay
structure qaI (x:qc):Prop where
 Ac:qeP x.Ac
 Aa:qgX x.Aa
 Ah:(okL qjP) x.Ah
end Go.Fw


namespace Go.Fw
open Go
set_option maxRecDepth 100000
theorem qdE {n:Nat} {x lo hi:Int}:qam n x lo hi=some (inI x lo hi):=by
 simp only [qam,qiJ,qjR];rfl
theorem qdv {n:Nat} {x lo hi:Int}:qaA n x lo hi=some (inI x lo hi):=by
 simp only [qaA,qiJ,qjR];rfl
def bt (s:ByteArray) (j:Nat):Nat:=(s.data.toList.getD j 0).toNat
theorem qlf {s:ByteArray} {j:Nat} (h:j<s.size):atS s (j:Int)=some (bt s j:Int):=by
 have h':j<s.data.size:=h
 have hl:j<s.data.toList.length:=by simpa using h'
 unfold atS
 rw [if_pos (by omega),jz]
 have:s[j]?=some (s.data.toList.getD j 0):=by
  rw [getElem?_pos s j h,jx,jm hl]
  rfl
 rw [this]
 rfl
def letB (b:Nat):Bool:=decide (97≤b)&&decide (b≤122)
def digB (b:Nat):Bool:=decide (48≤b)&&decide (b≤57)
def chB (s:ByteArray) (j:Nat):Bool:=letB (bt s j) || digB (bt s j)&&decide (0<j)
def nameB (s:ByteArray):Bool:=(decide (1≤s.size)&&decide (s.size≤8))&&allN (chB s) s.size
theorem qjr {s:ByteArray} (h:okS s):Ev (fun n=>qe7 n s) (nameB s):=by
 unfold okS at h
 have hL:Ev (fun n=>qcK s n 0) (bif allN (chB s) s.size then .nxt (s.size:Int) else .ret false):=by
  refine qd1 ?_ (fun j hj X hX=>?_)
  ·exact Ev.succ (by simp only [qcK,qp (jf _),cond_false];exact .done)
  ·refine Ev.succ ?_
   simp only [qcK,qn hj,cond_true,qlf hj,je,qiJ,qjR,wS j]
   have e1:(decide ((bt s j:Int) ≥ 97)&&decide ((bt s j:Int)≤122))=letB (bt s j):=by unfold letB;rw [jp];simp;omega
   have e2:(decide ((bt s j:Int) ≥ 48)&&decide ((bt s j:Int)≤57))=digB (bt s j):=by unfold digB;rw [jp];simp;omega
   have e3:decide ((j:Int) > 0)=decide (0<j):=by rw [jp];simp
   rw [e1,e2,e3]
   unfold chB
   cases letB (bt s j)<;>cases digB (bt s j)<;>cases decide (0<j)<;>first|exact hX|exact .done
 unfold qe7
 refine Ev.cast (r:=bif allN (chB s) s.size then (decide (1≤s.size)&&decide (s.size≤8)) else false) (Ev.bindB hL (fun _=>?_) (fun _=>.done)) ?_
 ·simp only [qiJ,qjR]
  exact Ev.now (by congr 1;rw [jp];simp;omega)
 ·unfold nameB
  cases allN (chB s) s.size<;>simp
def cutset:List UInt8:=[97,98,99,100,101,102,103,104,105,106,107,108,109,110,111,112,113,114,115,116,117,118,119,120,121,122,48,49,50,51,52,53,54,55,56,57]
theorem qk1 (b:UInt8):cutset.contains b=(letB b.toNat || digB b.toNat):=by
 have h0:(List.range 256).all (fun m=>cutset.contains (UInt8.ofNat m)==(letB (UInt8.ofNat m).toNat || digB (UInt8.ofNat m).toNat))=true:=by kernel_rfl
 have h:=List.all_eq_true.1 h0 b.toNat (List.mem_range.2 b.toNat_lt)
 rw [beq_iff_eq] at h
 simpa using h
def letters:List UInt8:=[97,98,99,100,101,102,103,104,105,106,107,108,109,110,111,112,113,114,115,116,117,118,119,120,121,122]
theorem qnm (m:Nat) (hm:m<256):decide ((Lib.indexByte letters m.toUInt8) ≥ 0)=letB m:=by
 have h0:(List.range 256).all (fun m=>decide ((Lib.indexByte letters m.toUInt8) ≥ 0)==letB m)=true:=by kernel_rfl
 have h:=List.all_eq_true.1 h0 m (List.mem_range.2 hm)
 rwa [beq_iff_eq] at h
theorem qlx {α:Type} {p:α→Bool} {l:List α}:l.dropWhile p=[]↔∀ x,x ∈ l→p x=true:=by
 induction l with
 | nil=>simp
 | cons y l ih =>
  rw [List.dropWhile_cons]
  by_cases h:p y=true
  ·rw [if_pos h,ih];simp [h]
  ·rw [if_neg h];simp [h]
theorem qlw {α:Type} {p:α→Bool} {l:List α} (h:∀ x,x ∈ l.dropWhile p→p x=true):∀ x,x ∈ l→p x=true:=by
 induction l with
 | nil=>simp
 | cons y l ih =>
  rw [List.dropWhile_cons] at h
  by_cases hy:p y=true
  ·rw [if_pos hy] at h
   intro x hx
   rcases List.mem_cons.1 hx with rfl|hx
   ·exact hy
   ·exact ih h x hx
  ·rw [if_neg hy] at h
   exact h
theorem qo3 {l cs:List UInt8}:Lib.trimS l cs=[]↔∀ x,x ∈ l→cs.contains x=true:=by
 unfold Lib.trimS Lib.trimRightS Lib.trimLeftS
 rw [qlx]
 constructor
 ·intro h x hx
  exact qlw (p:=(cs.contains ·)) (l:=l.reverse) (fun y hy=>h y (List.mem_reverse.2 hy)) x (List.mem_reverse.2 hx)
 ·intro h x hx
  exact h x (List.mem_reverse.1 ((List.dropWhile_suffix _).subset (List.mem_reverse.1 hx)))
theorem qV {a b:ByteArray}:(a.toList==b.toList)=decide (a=b):=by
 rw [jp,beq_iff_eq,decide_eq_true_iff]
 constructor
 ·intro h
  exact ByteArray.ext (by have:=congrArg List.toArray h;simpa [ByteArray.toList_eq] using this)
 ·rintro rfl;rfl
end Go.Fw


namespace Go.Fw
open Go
set_option maxRecDepth 100000
theorem qqi {s:ByteArray} {j:Nat} (h:j<s.data.toList.length):bt s j=(s.data.toList[j]).toNat:=by
 unfold bt;rw [jx,jm h];rfl
theorem qq0 {s:ByteArray} {j:Nat}:bt s j<256:=UInt8.toNat_lt _
theorem qlF {n:Nat} {s:ByteArray} (h:okS s):qgi n s=some (nameB s):=by
 unfold okS at h
 have hl:s.data.toList.length=s.size:=by simp
 simp only [qgi,qdv,je]
 cases hI:inI (s.size:Int) 1 8 with
 | false =>
  have hs:(decide (1≤s.size)&&decide (s.size≤8))=false:=by rw [qoy] at hI;rw [Bool.and_eq_false_iff,decide_eq_false_iff_not,decide_eq_false_iff_not];omega
  simp [nameB,hs]
 | true =>
  have hs:1≤s.size∧s.size≤8:=by rw [qbv] at hI;omega
  have hT:qfX n s (⟨#[97,98,99,100,101,102,103,104,105,106,107,108,109,110,111,112,113,114,115,116,117,118,119,120,121,122,48,49,50,51,52,53,54,55,56,57]⟩:ByteArray)=some ⟨(Lib.trimS s.data.toList cutset).toArray⟩:=by
   unfold qfX
   rw [if_pos ⟨by omega,by decide,by decide⟩]
   rfl
  rw [hT]
  simp only [cond_true,je]
  have hE:(((⟨(Lib.trimS s.data.toList cutset).toArray⟩:ByteArray).toList==(⟨#[]⟩:ByteArray).toList))=allN (fun j=>letB (bt s j) || digB (bt s j)) s.size:=by
   rw [qV,jp,decide_eq_true_iff,qai]
   have:((⟨(Lib.trimS s.data.toList cutset).toArray⟩:ByteArray)=⟨#[]⟩)↔Lib.trimS s.data.toList cutset=[]:=by
    constructor
    ·intro he
     have:=congrArg (fun x:ByteArray=>x.data.toList) he
     simpa using this
    ·intro he;rw [he]
   rw [this,qo3]
   constructor
   ·intro hx j hj
    have hj':j<s.data.toList.length:=by omega
    have:=hx _ (jr hj')
    rw [qk1,←qqi hj'] at this
    exact this
   ·intro hx x hm
    obtain ⟨j,hj,rfl⟩:=jQ hm
    have:=hx j (by omega)
    rw [qk1,←qqi hj]
    exact this
  rw [hE]
  have h0:atS s 0=some (bt s 0:Int):=qlf (j:=0) (by omega)
  have hI2:decide (Lib.indexByte letters (bt s 0:Int).toNat.toUInt8 ≥ 0)=letB (bt s 0):=by
   rw [jz];exact qnm _ qq0
  have hF:∀ b:Bool,(bif b then (atS s 0).bind fun y1=>(qeC n (⟨#[97,98,99,100,101,102,103,104,105,106,107,108,109,110,111,112,113,114,115,116,117,118,119,120,121,122]⟩:ByteArray) (⟨y1⟩:IntK .u8)).bind fun r3=>some (decide (r3 ≥ 0)) else some false)=some (b&&letB (bt s 0)):=by
   intro b
   cases b with
   | false=>rfl
   | true =>
    rw [h0]
    simp only [cond_true,je,qeC,jC]
    exact congrArg some hI2
  rw [hF]
  congr 1
  have hs':(decide (1≤s.size)&&decide (s.size≤8))=true:=by simp [hs]
  unfold nameB
  rw [hs',jC,jp,jh,qai,qai]
  simp only [chB,Bool.or_eq_true,jh,decide_eq_true_eq]
  constructor
  ·rintro ⟨h1,h2⟩ j hj
   rcases Nat.eq_zero_or_pos j with rfl|hp
   ·exact .inl h2
   ·exact (h1 j hj).imp id (fun h=>⟨h,hp⟩)
  ·intro h1
   refine ⟨fun j hj=>(h1 j hj).imp id (fun h=>h.1),?_⟩
   rcases h1 0 (by omega) with h2|h2
   ·exact h2
   ·omega
def strAt (xs:List ByteArray) (j:Nat):ByteArray:=xs.getD j ByteArray.empty
theorem qiz {xs:List ByteArray} {j:Nat} (h:j<xs.length):strAt xs j=xs[j]:=by simp [strAt,h]
theorem qkO {xs:List ByteArray} {j:Nat} (h:j<xs.length):idx xs (j:Int)=some (strAt xs j):=by rw [qaq h,qiz h]
def neB (xs:List ByteArray) (j i:Nat):Bool:=!decide (strAt xs i=strAt xs j)
def namesB (xs:List ByteArray):Bool:=allN (fun j=>nameB (strAt xs j)&&allN (neB xs j) j) xs.length
theorem qiO {xs:List ByteArray} (h:okL okS xs):Ev (fun n=>qeu n xs) (namesB xs):=by
 have hl:=h.len
 have hL2:∀ j,j<xs.length→Ev (fun n=>qde xs (j:Int) n 0) (bif allN (neB xs j) j then .nxt (j:Int) else .ret false):=by
  intro j hj
  refine qd1 ?_ (fun i hi X hX=>Ev.succ ?_)
  ·exact Ev.succ (by simp only [qde,qp (jf _),cond_false];exact .done)
  ·simp only [qde,qn hi,cond_true,qkO (show i<xs.length by omega),qkO hj,je,qV,wS i]
   unfold neB
   cases decide (strAt xs i=strAt xs j)
   ·exact hX
   ·exact .done
 have hL1:Ev (fun n=>qda xs n 0) (bif namesB xs then .nxt (xs.length:Int) else .ret false):=by
  refine qd1 ?_ (fun j hj X hX=>Ev.succ ?_)
  ·exact Ev.succ (by simp only [qda,qp (jf _),cond_false];exact .done)
  ·simp only [qda,qn hj,cond_true,qkO hj,je,wS j]
   refine Ev.bind (qjr (by rw [qiz hj];exact h.at hj)) ?_
   cases nameB (strAt xs j)
   ·exact .done
   ·refine Ev.ff rfl (Ev.bind (hL2 j hj) ?_)
    cases allN (neB xs j) j
    ·exact .done
    ·exact hX
 unfold qeu
 refine Ev.bind hL1 ?_
 cases namesB xs<;>exact .done
theorem qmI {xs:List ByteArray} {v:ByteArray} (hl:xs.length≤1048576):Ev (fun n=>qa6 n xs v) (ixL (fun x=>decide (v=x)) xs) :=
 qd5 (fin:=(xs.length:Int)) (Lf:=qaJ xs v) (pf:=fun _ x=>some (decide (v=x))) (fun _ _=>.done)
  (fun n=>by simp only [qaJ,qp (jf _),cond_false])
  (fun n j x hx=>by
   have hj:=(List.getElem?_eq_some_iff.1 hx).1
   simp only [qaJ,qn hj,cond_true,qg0 hx,je,qV,wS j])
  (fun n=>by unfold qa6;congr 1;funext o;cases o<;>rfl)
theorem qkU {xs:List ByteArray} {v:ByteArray} (hl:xs.length≤1048576):Ev (fun n=>qcY n xs v) (xs.any fun x=>decide (v=x)):=by
 unfold qcY
 exact Ev.bind (qmI hl) (Ev.now (by rw [qjn]))
theorem qgk {xs:List ByteArray} (h:okL okS xs):Ev (fun n=>qcZ n xs) (namesB xs):=by
 have hl:=h.len
 have hL1:Ev (fun n=>qc7 xs n 0) (bif namesB xs then .nxt (xs.length:Int) else .ret false):=by
  refine qd1 ?_ (fun j hj X hX=>Ev.succ ?_)
  ·exact Ev.succ (by simp only [qc7,qp (jf _),cond_false];exact .done)
  ·have hs:subS xs 0 (j:Int)=some (xs.take j):=by
    unfold subS
    rw [if_pos ⟨by omega,by omega,by omega⟩]
    simp
   simp only [qc7,qn hj,cond_true,qkO hj,je,hs,qlF (show okS (strAt xs j) by rw [qiz hj];exact h.at hj),wS j]
   cases nameB (strAt xs j)
   ·exact .done
   ·refine Ev.ff rfl (Ev.bind (qkU (by simp;omega)) ?_)
    have:((xs.take j).any fun x=>decide (strAt xs j=x)) = !allN (neB xs j) j:=by
     rw [qmQ (d:=ByteArray.empty)]
     congr 1
     rw [List.length_take,Nat.min_eq_left (by omega)]
     refine qfu (fun i hi=>?_)
     unfold neB strAt
     congr 1
     have:(xs.take j).getD i ByteArray.empty=xs.getD i ByteArray.empty:=by simp [jx,hi]
     rw [this]
     exact decide_eq_decide.2 eq_comm
    rw [this]
    cases allN (neB xs j) j
    ·exact .done
    ·exact hX
 unfold qcZ
 refine Ev.bind hL1 ?_
 cases namesB xs<;>exact .done
end Go.Fw


namespace Go.Fw
open Go
set_option maxRecDepth 100000
theorem qlE {n:Nat} {x lo hi:Int}:qeZ n x lo hi=some (!inI x lo hi):=by simp only [qeZ,qdv,je]
theorem qek {xs:List Int} {lo hi:Int} (hl:xs.length≤1048576):Ev (fun n=>qbl n xs lo hi) (xs.all fun x=>inI x lo hi):=by
 have h1:Ev (fun n=>qaC n xs lo hi) (ixL (fun x=>!inI x lo hi) xs) :=
  qd5 (fin:=(xs.length:Int)) (Lf:=qP xs lo hi) (pf:=fun _ x=>some (!inI x lo hi)) (fun _ _=>.done)
   (fun n=>by simp only [qP,qp (jf _),cond_false])
   (fun n j x hx=>by
    have hj:=(List.getElem?_eq_some_iff.1 hx).1
    simp only [qP,qn hj,cond_true,qg0 hx,je,qlE,wS j])
   (fun n=>by unfold qaC;congr 1;funext o;cases o<;>rfl)
 unfold qbl qa0
 refine Ev.bind (Ev.bind h1 (Ev.now rfl)) (Ev.now ?_)
 rw [qjn,qkG]
def stepB (xs:List Int) (j:Nat):Bool:=decide (j=0) || decide (at0 xs (j-1)<at0 xs j)
def incB (xs:List Int):Bool:=allN (stepB xs) xs.length
theorem qgv {xs:List Int} (hl:xs.length≤1048576):Ev (fun n=>qcG n xs) (incB xs):=by
 have hL:Ev (fun n=>qaY xs n 1) (bif incB xs then .nxt (max 1 xs.length:Int) else .ret false):=by
  by_cases h0:xs.length=0
  ·have hb:incB xs=true:=by unfold incB;rw [h0];rfl
   rw [hb]
   refine Ev.succ ?_
   have:decide ((1:Int)<(xs.length:Int))=false:=by rw [h0];decide
   simp only [qaY,this,cond_false]
   exact Ev.now (by rw [h0];rfl)
  ·have:=qnV (Lf:=qaY xs) (len:=xs.length) (i0:=1) (f:=stepB xs) (bad:=false) (fin:=.nxt (max 1 xs.length:Int)) (by omega)
    (Ev.succ (by
     simp only [qaY,qp (jf _),cond_false]
     exact Ev.now (by congr 2;omega)))
    (fun j h1 hj X hX=>Ev.succ (by
     simp only [qaY,qn hj,cond_true,wS j,show (j:Int)-1=((j-1:Nat):Int) by omega,qaE (show -9223372036854775808≤((j-1:Nat):Int) by omega) (by omega),qbJ (show j-1<xs.length by omega),qbJ hj,je]
     unfold stepB
     by_cases hc:at0 xs (j-1)<at0 xs j
     ·have e1:decide (at0 xs (j-1) ≥ at0 xs j)=false:=by simp;omega
      rw [e1];simp only [hc,decide_true,Bool.or_true,cond_true,cond_false];exact hX
     ·have e1:decide (at0 xs (j-1) ≥ at0 xs j)=true:=by simp;omega
      have e2:decide (j=0)=false:=by simp;omega
      rw [e1,e2];simp only [hc,decide_false,Bool.or_self,cond_true,cond_false];exact .done))
   have e:allN (fun j=>stepB xs (1+j)) (xs.length-1)=incB xs:=by
    unfold incB
    rw [jp,qai,qai]
    constructor
    ·intro h j hj
     cases j with
     | zero=>rfl
     | succ j=>have:=h j (by omega);rwa [Nat.add_comm] at this
    ·intro h j hj
     exact h (1+j) (by omega)
   rw [e] at this
   exact this
 unfold qcG
 refine Ev.bind hL ?_
 cases incB xs<;>exact .done
def lenB {α:Type} (xs:List α) (lo hi:Nat):Bool:=decide (lo≤xs.length)&&decide (xs.length≤hi)
theorem qmk {α:Type} {xs:List α} {lo hi:Nat}:inI (xs.length:Int) (lo:Int) (hi:Int)=lenB xs lo hi:=by
 unfold inI lenB;rw [jp];simp
def axisB (xs:List Int):Bool:=lenB xs 1 4&&((xs.all fun x=>inI x 0 100000)&&incB xs)
theorem qlP {xs:List Int} (hl:xs.length≤1048576):Ev (fun n=>qgt n xs) (axisB xs):=by
 simp only [qgt,qaW,je,qdv,show inI (xs.length:Int) 1 4=lenB xs 1 4 from qmk (lo:=1) (hi:=4)]
 unfold axisB
 cases lenB xs 1 4
 ·exact .done
 ·refine Ev.tt rfl (Ev.bind (qek hl) ?_)
  cases (xs.all fun x=>inI x 0 100000)
  ·exact .done
  ·exact Ev.tt rfl (Ev.bind (qgv hl) .done)
theorem qlc {xs:List Int} (hl:xs.length≤1048576):Ev (fun n=>qfL n xs) (axisB xs):=by
 have hL:Ev (fun n=>qcR xs n 0) (bif allN (fun j=>inI (at0 xs j) 0 100000&&stepB xs j) xs.length then .nxt (xs.length:Int) else .ret false):=by
  refine qd1 ?_ (fun j hj X hX=>Ev.succ ?_)
  ·exact Ev.succ (by simp only [qcR,qp (jf _),cond_false];exact .done)
  ·simp only [qcR,qn hj,cond_true,qbJ hj,je,qdE,wS j]
   cases inI (at0 xs j) 0 100000
   ·exact .done
   ·simp only [jU,cond_false,jC]
    unfold stepB
    by_cases h0:j=0
    ·subst h0
     exact Ev.ff (by decide) hX
    ·simp only [show (j:Int)-1=((j-1:Nat):Int) by omega,qaE (show -9223372036854775808≤((j-1:Nat):Int) by omega) (by omega),qbJ (show j-1<xs.length by omega),je]
     have e2:decide (j=0)=false:=by simp;omega
     have e3:decide ((j:Int) > 0)=true:=by simp;omega
     rw [e2,e3]
     simp only [cond_true,Bool.false_or]
     by_cases hc:at0 xs (j-1)<at0 xs j
     ·have e1:decide (at0 xs (j-1) ≥ at0 xs j)=false:=by simp;omega
      rw [e1];simp only [hc,decide_true,cond_true,cond_false];exact hX
     ·have e1:decide (at0 xs (j-1) ≥ at0 xs j)=true:=by simp;omega
      rw [e1];simp only [hc,decide_false,cond_true,cond_false];exact .done
 have e:axisB xs=(allN (fun j=>inI (at0 xs j) 0 100000&&stepB xs j) xs.length&&lenB xs 1 4):=by
  unfold axisB incB
  rw [qhx,qfO (d:=0),Bool.and_comm]
  rfl
 rw [e]
 unfold qfL
 refine Ev.bind hL ?_
 cases allN (fun j=>inI (at0 xs j) 0 100000&&stepB xs j) xs.length
 ·exact .done
 ·simp only [cond_true,qiJ,qjR,jC]
  exact Ev.now (by congr 1;unfold lenB;rw [jp];simp;omega)
def tableB (t:qR):Bool:=axisB t.Bg&&(axisB t.Bf&&(decide (t.Av.length=t.Bg.length*t.Bf.length)&&(t.Av.all fun x=>inI x (-1000000) 1000000)))
theorem qkH {a b:Nat} (ha:a≤1048576) (hb:b≤1048576):W64 ((a:Int)*(b:Int))=((a*b:Nat):Int):=by
 have h:a*b≤1048576*1048576:=Nat.mul_le_mul ha hb
 have e:(a:Int)*(b:Int)=((a*b:Nat):Int):=by simp
 rw [e]
 exact qaE (by omega) (by omega)
theorem qnE {t:qR} (h:qf0 t):Ev (fun n=>qgQ n t) (tableB t):=by
 unfold qgQ tableB
 refine Ev.bind (qlP h.Bg.len) ?_
 cases axisB t.Bg
 ·exact .done
 ·refine Ev.tt rfl (Ev.bind (qlP h.Bf.len) ?_)
  cases axisB t.Bf
  ·exact .done
  ·rw [qkH h.Bg.len h.Bf.len]
   have e:(((t.Av.length:Nat):Int)==((t.Bg.length*t.Bf.length:Nat):Int))=decide (t.Av.length=t.Bg.length*t.Bf.length):=by rw [jp];simp;omega
   rw [e]
   cases decide (t.Av.length=t.Bg.length*t.Bf.length)
   ·exact .done
   ·exact Ev.tt rfl (Ev.tt rfl (Ev.bind (qek h.Av.len) .done))
theorem qmN {t:qR} (h:qf0 t):Ev (fun n=>qgL n t) (tableB t):=by
 have hl:=h.Av.len
 have hL:Ev (fun n=>qdu t n 0) (bif (t.Av.all fun x=>inI x (-1000000) 1000000) then .nxt (t.Av.length:Int) else .ret false) :=
  qiS (fun n=>by simp only [qdu,qp (jf _),cond_false]) (fun j hj X hX=>by
   simp only [qdu,qn hj,cond_true,qaq hj,je,qdE,wS j]
   cases inI t.Av[j] (-1000000) 1000000
   ·exact .done
   ·exact hX)
 unfold qgL tableB
 refine Ev.bind (b:=!(axisB t.Bg&&(axisB t.Bf&&decide (t.Av.length=t.Bg.length*t.Bf.length)))) ?_ ?_
 ·refine Ev.bind (qlc h.Bg.len) ?_
  cases axisB t.Bg
  ·exact .done
  ·refine Ev.ff rfl (Ev.bind (qlc h.Bf.len) ?_)
   cases axisB t.Bf
   ·exact .done
   ·refine Ev.ff rfl (Ev.now ?_)
    rw [qkH h.Bg.len h.Bf.len]
    congr 1
    rw [jp];simp;omega
 ·cases axisB t.Bg
  ·exact .done
  ·cases axisB t.Bf
   ·exact .done
   ·cases decide (t.Av.length=t.Bg.length*t.Bf.length)
    ·exact .done
    ·refine Ev.ff rfl (Ev.bind hL ?_)
     cases (t.Av.all fun x=>inI x (-1000000) 1000000)<;>exact .done
end Go.Fw


namespace Go.Fw
open Go
set_option maxRecDepth 100000
instance:Inhabited qaa:=⟨⟨ByteArray.empty,0,0,false⟩⟩
instance:Inhabited qR:=⟨⟨[],[],[]⟩⟩
instance:Inhabited qaw:=⟨⟨0,0,0,0,[],[]⟩⟩
instance:Inhabited qr:=⟨⟨ByteArray.empty,0,[],[],[],0,0⟩⟩
instance:Inhabited qu:=⟨⟨ByteArray.empty,0,[]⟩⟩
instance:Inhabited qac:=⟨⟨ByteArray.empty,0,0⟩⟩
instance:Inhabited qW:=⟨⟨[],[],[],[]⟩⟩
theorem lastE {j m:Nat} (h:j<m) (hm:m≤1048576):((j:Int)==W64 ((m:Int)-1))=decide (j+1=m):=by
 rcases qqd h with h|h
 ·exact h
 ·omega
theorem qgW {α:Type} [Inhabited α] {xs:List α} {g:α→ByteArray} {j:Nat} (h:j<xs.length):strAt (xs.map g) j=g (gt xs j):=by
 rw [qiz (by simpa using h),qgE h];simp
theorem qiY {α:Type} {xs:List α} {g:α→ByteArray} {ok:α→Prop} (h:okL ok xs) (hg:∀ x,ok x→okS (g x)):okL okS (xs.map g) :=
 ⟨by rw [jy];exact h.1,fun y hy=>by
  obtain ⟨x,hx,rfl⟩:=List.mem_map.1 hy
  exact hg x (h.2 x hx)⟩
theorem qhT {α β:Type} {xs:List α} {g:α→β} {j:Nat} (h:j<xs.length) (hl:xs.length≤1048576) {y:β}:appS ((xs.take j).map g) [y]=some ((xs.take j).map g++[y]) :=
 qbN (by simp;omega)
def pinB (ps:List qaa) (j:Nat):Bool :=
 bif decide (j+1=ps.length) then ((gt ps j).Bl==2)&&(((gt ps j).Be==0)&&!(gt ps j).Bc) else ((gt ps j).Bl==1)&&inI (gt ps j).Be 0 500
def pinsB (ps:List qaa):Bool:=allN (pinB ps) ps.length&&(lenB ps 2 5&&namesB (ps.map qaa.As))
def clkN (ps:List qaa) (j:Nat):Nat:=cntP (fun i=>(gt ps i).Bc) j
theorem qnn {ps:List qaa} (h:okL qh5 ps):Ev (fun n=>qgG n ps) (pinsB ps):=by
 have hl:=h.len
 have hL:Ev (fun n=>qca ps n ([]:List ByteArray) 0) (bif allN (pinB ps) ps.length then .nxt (ps.map qaa.As,(ps.length:Int)) else .ret false):=by
  refine loopN (Lf:=qca ps) (S:=fun j=>(ps.take j).map qaa.As) (pinB ps) (fun n=>?_) (fun j hj hp X hX=>?_)
  ·simp only [qca,qp (jf _),cond_false,jT]
  ·simp only [qca,qn hj,cond_true,qab hj,je,qhT hj hl,qe9 (g:=qaa.As) hj,lastE hj hl,bne,qbp,qdv,wS j]
   generalize hc:pinB ps j=c at hX ⊢
   unfold pinB at hc
   cases hd:decide (j+1=ps.length)
   ·rw [hd] at hc
    simp only [cond_false] at hc ⊢
    subst hc
    exact Ev.okP (fun h1=>Ev.okP1 (fun h2=>hX (by rw [h1,h2];rfl)))
   ·rw [hd] at hc
    simp only [cond_true] at hc ⊢
    subst hc
    refine Ev.okP (fun h1=>Ev.okP (fun h2=>Ev.chkP1 (fun h3=>hX (by rw [h1,h2,h3];rfl))))
 unfold qgG pinsB
 refine Ev.bind hL ?_
 cases allN (pinB ps) ps.length
 ·exact .done
 ·simp only [cond_true,qbE,qdv,je,show inI (ps.length:Int) 2 5=lenB ps 2 5 from qmk (lo:=2) (hi:=5),jC]
  exact Ev.andP (fun _=>Ev.last (qgk (qiY h (fun x hx=>hx.As))))
def pinS (ps:List qaa) (j:Nat):Bool:=allN (neB (ps.map qaa.As) j) j&&((nameB (gt ps j).As&&inI (gt ps j).Be 0 500)&&(bif decide (j+1=ps.length) then ((gt ps j).Bl==2)&&(((gt ps j).Be==0)&&!(gt ps j).Bc) else ((gt ps j).Bl==1)))
theorem qpR {ps:List qaa}:(lenB ps 2 5&&allN (pinS ps) ps.length)=pinsB ps:=by
 have e:namesB (ps.map qaa.As)=allN (fun j=>nameB (gt ps j).As&&allN (neB (ps.map qaa.As) j) j) ps.length:=by
  unfold namesB
  rw [jy]
  exact qfu (fun j hj=>by rw [qgW hj])
 unfold pinsB
 rw [e,←Bool.and_assoc,Bool.and_comm (allN (pinB ps) ps.length),Bool.and_assoc,←qhx]
 congr 1
 refine qfu (fun j hj=>?_)
 unfold pinS pinB
 cases hd:decide (j+1=ps.length)
 ·simp only [cond_false]
  cases allN (neB (ps.map qaa.As) j) j<;>cases nameB (gt ps j).As<;>cases inI (gt ps j).Be 0 500<;>cases ((gt ps j).Bl==1)<;>rfl
 ·simp only [cond_true]
  cases hcap:((gt ps j).Be==0)
  ·simp
  ·have:inI (gt ps j).Be 0 500=true:=by rw [beq_iff_eq] at hcap;rw [hcap];rfl
   rw [this]
   cases allN (neB (ps.map qaa.As) j) j<;>cases nameB (gt ps j).As<;>cases ((gt ps j).Bl==2)<;>cases (gt ps j).Bc<;>rfl
theorem qnA {c:qr} (h:okL qh5 c.Aq):Ev (fun n=>qgK n c) (bif pinsB c.Aq then (((clkN c.Aq c.Aq.length:Nat):Int),true) else (0,false)):=by
 have hl:=h.len
 have hL2:∀ j,j<c.Aq.length→Ev (fun n=>qdr c (j:Int) (gt c.Aq j) n 0) (bif allN (neB (c.Aq.map qaa.As) j) j then .nxt (j:Int) else .ret (0,false)):=by
  intro j hj
  refine qd1 ?_ (fun i hi X hX=>Ev.succ ?_)
  ·exact Ev.succ (by simp only [qdr,qp (jf _),cond_false];exact .done)
  ·simp only [qdr,qn hi,cond_true,qab (show i<c.Aq.length by omega),je,qV,wS i]
   unfold neB
   rw [qgW (g:=qaa.As) (show i<c.Aq.length by omega),qgW (g:=qaa.As) hj]
   exact Ev.chkP1 (fun _=>hX)
 have hL1:Ev (fun n=>qcd c n 0 0) (bif allN (pinS c.Aq) c.Aq.length then .nxt (((clkN c.Aq c.Aq.length:Nat):Int),(c.Aq.length:Int)) else .ret (0,false)):=by
  refine loopN (Lf:=qcd c) (S:=fun j=>((clkN c.Aq j:Nat):Int)) (pinS c.Aq) (fun n=>?_) (fun j hj hp X hX=>?_)
  ·simp only [qcd,qp (jf _),cond_false]
  ·have hn:clkN c.Aq j≤j:=qdY
   have ejl:((j:Int)==W64 ((c.Aq.length:Int)-1))=decide (j+1=c.Aq.length):=lastE hj hl
   have elt:decide ((j:Int)<W64 ((c.Aq.length:Int)-1)) = !decide (j+1=c.Aq.length):=by
    rw [qaE (by omega) (by omega),jp];simp;omega
   simp only [qcd,qn hj,cond_true,qab hj,je,wS j,qfk (show clkN c.Aq j<9223372036854775807 by omega),ejl,elt,qdE]
   unfold pinS
   refine Ev.bind (hL2 j hj) ?_
   cases ha:allN (neB (c.Aq.map qaa.As) j) j
   ·exact .done
   ·simp only [cond_true,jC]
    refine Ev.chkT ?_ (fun h1=>?_)
    ·exact Ev.or (qjr (qg6 h hj).As) (fun _=>.done)
    ·refine Ev.chkT1 ?_ (fun h2=>?_)
     ·cases decide (j+1=c.Aq.length)
      ·exact .done
      ·simp only [cond_true,jU,cond_false,bne,qbp]
       cases ((gt c.Aq j).Bl==2)<;>cases ((gt c.Aq j).Be==0)<;>cases (gt c.Aq j).Bc<;>exact .done
     ·have hX:=hX (by unfold pinS;rw [ha,h1,h2];rfl)
      have hck:clkN c.Aq (j+1)=clkN c.Aq j+(bif (gt c.Aq j).Bc then 1 else 0):=rfl
      rw [hck] at hX
      cases hc:(gt c.Aq j).Bc
      ·rw [hc] at hX;exact Ev.ff rfl hX
      ·rw [hc] at hX;exact Ev.tt rfl hX
 rw [←qpR]
 unfold qgK
 refine Ev.guard ?_ (fun h1=>?_)
 ·unfold lenB
  have e1:decide ((c.Aq.length:Int)<2) = !decide (2≤c.Aq.length):=by rw [jp];simp;omega
  have e2:decide ((c.Aq.length:Int) > 5) = !decide (c.Aq.length≤5):=by rw [jp];simp;omega
  rw [e1,e2]
  cases decide (2≤c.Aq.length)<;>cases decide (c.Aq.length≤5)<;>exact .done
 ·refine Ev.bind hL1 ?_
  cases allN (pinS c.Aq) c.Aq.length<;>exact .done
def mnL (xs:List Int):Int:=(xs.drop 1).foldl (fun m y=>if y<m then y else m) (at0 xs 0)
def mxL (xs:List Int):Int:=(xs.drop 1).foldl (fun m y=>if y > m then y else m) (at0 xs 0)
theorem qle {t:qR} (h:tableB t=true):1≤t.Av.length:=by
 unfold tableB axisB lenB at h
 simp only [jh,decide_eq_true_eq] at h
 obtain ⟨⟨⟨h1,_⟩,_⟩,⟨⟨h2,_⟩,_⟩,h3,_⟩:=h
 rw [h3]
 exact Nat.mul_pos h1 h2
theorem qqf {xs:List Int} (h1:1≤xs.length) (hl:xs.length≤1048576):Ev (fun n=>qfc n xs) (mnL xs):=by
 have hL:=(qlY (Lf:=fun n t j=>qb5 xs n t j) (xs:=xs) (step:=fun (m y:Int)=>if y<m then y else m) (fin:=fun t=>(t,(xs.length:Int))) 1 (at0 xs 0) (fun _ _=>True) h1 trivial (fun _ _ _ _=>trivial)
  (fun n t=>by simp only [qb5,qp (jf _),cond_false])
  (fun j t hj _ X hX=>by simpa only [qb5,qn hj,cond_true,qaq hj,je,wS j] using hX)).1
 unfold qfc
 rw [show decide ((xs.length:Int)<1)=false by simp;omega,show idx xs (0:Int)=some (at0 xs 0) from qbJ (j:=0) (by omega)]
 simp only [cond_false,je]
 exact Ev.bind hL .done
theorem qnr {t:qR} (h:qf0 t):Ev (fun n=>qeY n t) (bif tableB t then (⟨mnL t.Av,mxL t.Av⟩,0) else (⟨0,0⟩,1)):=by
 unfold qeY
 refine Ev.chk1 (qmN h) (fun hb=>?_)
 have h1:=qle hb
 have hl:=h.Av.len
 have hL:=(qlY (Lf:=fun n (t':Int × Int) j=>qb3 t n t'.1 t'.2 j) (xs:=t.Av) (step:=fun (m:Int × Int) y=>(if y<m.1 then y else m.1,if y > m.2 then y else m.2)) (fin:=fun t'=>(t'.1,t'.2,(t.Av.length:Int))) 1 (at0 t.Av 0,at0 t.Av 0) (fun _ _=>True) h1 trivial (fun _ _ _ _=>trivial)
  (fun n t=>by simp only [qb3,qp (jf _),cond_false])
  (fun j t hj _ X hX=>by simpa only [qb3,qn hj,cond_true,qaq hj,je,wS j] using hX)).1
 have hf:∀ (ys:List Int) (a b:Int),ys.foldl (fun (m:Int × Int) y=>(if y<m.1 then y else m.1,if y > m.2 then y else m.2)) (a,b)=(ys.foldl (fun m y=>if y<m then y else m) a,ys.foldl (fun m y=>if y > m then y else m) b):=by
  intro ys
  induction ys with
  | nil=>intro a b;rfl
  | cons y ys ih=>intro a b;simp only [List.foldl_cons,ih]
 rw [hf] at hL
 rw [show idx t.Av (0:Int)=some (at0 t.Av 0) from qbJ (j:=0) (by omega)]
 simp only [je]
 exact Ev.bind hL .done
def tabB (pos:Bool) (t:qR):Bool:=tableB t&&(!pos || decide (0≤mnL t.Av))
def tablesB (ts:List qR) (pos:Bool):Bool:=decide (ts.length=2)&&ts.all (tabB pos)
theorem qh9 {ts:List qR} {pos:Bool} (h:okL qf0 ts):Ev (fun n=>qd8 n ts pos) (tablesB ts pos):=by
 have hl:=h.len
 have h1:Ev (fun n=>qas n ts pos) (ixL (fun x=>!tabB pos x) ts) :=
  qd5 (fin:=(ts.length:Int)) (Lf:=qG ts pos) (pf:=fun n x=>qe2 n x pos) (fun x hx=>by
    unfold qe2 tabB
    refine Ev.or (qnE (h.2 x hx)) (fun hb=>?_)
    cases pos
    ·exact .done
    ·refine Ev.tt rfl (Ev.bind (qqf (qle hb) (h.2 x hx).Av.len) (Ev.now ?_))
     congr 1
     rw [jp];simp)
   (fun n=>by simp only [qG,qp (jf _),cond_false])
   (fun n j x hx=>by
    have hj:=(List.getElem?_eq_some_iff.1 hx).1
    simp only [qG,qn hj,cond_true,qg0 hx,je,wS j])
   (fun n=>by unfold qas;congr 1;funext o;cases o<;>rfl)
 unfold qd8 qaG tablesB
 rw [show ((ts.length:Int)==2)=decide (ts.length=2) by rw [jp];simp;omega]
 refine Ev.andP (fun _=>Ev.bind (Ev.bind h1 (Ev.now rfl)) (Ev.now ?_))
 rw [qjn,qkG]
theorem qfQ {ts:List qR} {pos:Bool} (h:okL qf0 ts):Ev (fun n=>qcA n ts pos) (tablesB ts pos):=by
 unfold qcA tablesB
 rw [show ((ts.length:Int) != 2) = !decide (ts.length=2) by rw [jp];simp;omega]
 simp only [qbp]
 refine Ev.andP (fun h2=>?_)
 have h2:ts.length=2:=by simpa using h2
 have hL:Ev (fun n=>qbK ts pos n 0) (bif allN (fun j=>tabB pos (gt ts j)) ts.length then .nxt (2:Int) else .ret false):=by
  refine qd1 (len:=ts.length) ?_ (fun j hj X hX=>Ev.succ ?_)
  ·rw [h2];exact Ev.succ (by simp only [qbK];exact .done)
  ·simp only [qbK,show decide ((j:Int)<2)=true by simp;omega,cond_true,qab hj,je,wS j]
   refine Ev.bind (qnr (qg6 h hj)) ?_
   unfold tabB
   cases tableB (gt ts j)
   ·exact .done
   ·simp only [cond_true,jC]
    refine Ev.ff rfl ?_
    cases pos
    ·exact hX
    ·refine Ev.tt rfl ?_
     rw [show decide (mnL (gt ts j).Av<0) = !decide (0≤mnL (gt ts j).Av) by rw [jp];simp]
     simp only [qbp]
     exact Ev.okP1 (fun _=>hX)
 rw [qgz]
 refine Ev.bind hL ?_
 cases allN (fun j=>tabB pos (gt ts j)) ts.length<;>exact .done
end Go.Fw


namespace Go.Fw
open Go
set_option maxRecDepth 100000
theorem qeN {α:Type} [Inhabited α] {xs:List α} {x:Int} (h0:0≤x) (h1:x<xs.length):idx xs x=some (gt xs x.toNat):=by
  have:=qab (xs:=xs) (j:=x.toNat) (by omega)
  rwa [←qh3 h0] at this
theorem qlW {q:Nat→Bool} {m n:Nat} (h:m≤n):cntP q m≤cntP q n:=by
  induction n with
  | zero =>
    obtain rfl:m=0:=by omega
    exact jf _
  | succ n ih =>
    rcases Nat.lt_or_eq_of_le h with h|rfl
    · exact jV (ih (by omega)) (Nat.le_add_right _ _)
    · exact jf _
theorem qhX {m k:Nat}:decide ((m:Int)≤(k:Int))=decide (m≤k):=by rw [jp];simp
theorem qm3 {q:Nat→Bool} {n i j:Nat} (hi:i<j) (hj:j<n) (h1:q i=true) (h2:q j=true):2≤cntP q n:=by
  have e1:cntP q (i+1)=cntP q i+1:=by rw [cntP,h1];rfl
  have e2:cntP q (j+1)=cntP q j+1:=by rw [cntP,h2];rfl
  have m1:=qlW (q:=q) (show i+1≤j by omega)
  have m2:=qlW (q:=q) (show j+1≤n by omega)
  omega
theorem qnj {q:Nat→Bool} {n i j:Nat} (hn:cntP q n≤1) (hi:i<n) (hj:j<n) (h1:q i=true) (h2:q j=true):i=j:=by
  rcases Nat.lt_trichotomy i j with h|h|h
  · have:=qm3 h hj h1 h2;omega
  · exact h
  · have:=qm3 h hi h2 h1;omega
def clkIx (ps:List qaa):Int:=ixL (fun p=>p.Bc) ps
def clkAt (ps:List qaa) (x:Int):Bool:=(gt ps x.toNat).Bc
theorem qoT {c:qr} (hl:c.Aq.length≤1048576):Ev (fun n=>qfp n c) (clkIx c.Aq):=by
  unfold qfp
  refine Ev.bind (b:=clkIx c.Aq) ?_ .done
  exact qd5 (fin:=(c.Aq.length:Int)) (Lf:=qH c.Aq) (pf:=fun n x=>qfD n x) (fun _ _=>.done)
    (fun n=>by simp only [qH,qp (jf _),cond_false])
    (fun n j x hx=>by
      have hj:=(List.getElem?_eq_some_iff.1 hx).1
      simp only [qH,qn hj,cond_true,qg0 hx,je,wS j])
    (fun n=>by unfold qaX;congr 1;funext o;cases o<;>rfl)
def arcI (ps:List qaa) (a:qaw):Bool :=
  bif (a.Am==4) || (a.Am==5) then
    (a.Bj==0)&&(((a.Bm.length:Int)==0)&&(tablesB a.Bi false&&((a.Au==clkIx ps)&&(decide (a.Au ≥ 0)&&(inI a.To 0 (ps.length-2)&&!(a.To==a.Au))))))
  else
    (tablesB a.Bi true&&(tablesB a.Bm true&&((a.To==(ps.length:Int)-1)&&inI a.Au 0 (ps.length-2)))) &&
      (bif a.Am==1 then !clkAt ps a.Au&&inI a.Bj 1 3 else (bif (a.Am==2) || (a.Am==3) then clkAt ps a.Au&&(a.Bj==0) else false))
def arcS (ps:List qaa) (a:qaw):Bool :=
  (inI a.Au 0 (ps.length-2)&&inI a.To 0 (ps.length-1)) &&
    (bif a.Am==1 then !clkAt ps a.Au&&((a.To==(ps.length:Int)-1)&&(inI a.Bj 1 3&&(tablesB a.Bi true&&tablesB a.Bm true)))
     else (bif (a.Am==2) || (a.Am==3) then clkAt ps a.Au&&((a.To==(ps.length:Int)-1)&&((a.Bj==0)&&(tablesB a.Bi true&&tablesB a.Bm true)))
     else (bif (a.Am==4) || (a.Am==5) then clkAt ps a.Au&&(decide (a.To<(ps.length:Int)-1)&&(!clkAt ps a.To&&((a.Bj==0)&&(tablesB a.Bi false&&((a.Bm.length:Int)==0))))) else false)))
theorem qko {c d:Bool}:(bif c then some c else some d)=some (c || d):=by cases c<;>rfl
theorem qm7 {c d:Bool}:(bif c then some true else some d)=some (c || d):=by cases c<;>rfl
theorem qnJ {n:Nat} {k:Int}:qgM n k=some ((k==4) || (k==5)):=by simp only [qgM,qm7]
theorem qoO {c:qr} {a:qaw} (h:okL qh5 c.Aq) (ha:qhY a) (hm:2≤c.Aq.length):Ev (fun n=>qft n c a) (arcI c.Aq a):=by
  have hl:=h.len
  have e1:W64 ((c.Aq.length:Int)-1)=(c.Aq.length:Int)-1:=qch (by omega)
  have e2:W64 ((c.Aq.length:Int)-1-1)=(c.Aq.length:Int)-2:=by rw [qaE (by omega) (by omega)];omega
  simp only [qft,qnJ,je,qeB,qc8,qbE,e1,e2,qdv,qko,bne]
  unfold arcI
  refine Ev.iff (fun _=>Ev.last ?_) (fun _=>Ev.guardB ?_ (fun hb=>?_))
  · exact Ev.andP fun _=>Ev.andP fun _=>Ev.and (qh9 ha.Bi) fun _=>Ev.bind (qoT hl) (Ev.andP fun _=>Ev.andP fun _=>Ev.andP fun _=>.done)
  · refine Ev.or (qh9 ha.Bi) fun _=>Ev.or (qh9 ha.Bm) fun _=>?_
    simp only [qbp]
    exact Ev.orBP fun _=>.done
  · have hf:0≤a.Au∧a.Au≤(c.Aq.length:Int)-2:=by
      simp only [jh,qbv] at hb
      exact hb.2.2.2
    simp only [qeN hf.1 (show a.Au<(c.Aq.length:Int) by omega),je]
    exact Ev.iff (fun _=>Ev.andP fun _=>.done) (fun _=>Ev.iff (fun _=>Ev.andP fun _=>.done) (fun _=>.done))
theorem qoD {c:qr} {a:qaw} (h:okL qh5 c.Aq) (ha:qhY a) (hm:2≤c.Aq.length):Ev (fun n=>qhk n c a) (arcS c.Aq a):=by
  have hl:=h.len
  have e1:W64 ((c.Aq.length:Int)-1)=(c.Aq.length:Int)-1:=qch (by omega)
  have e2:W64 ((c.Aq.length:Int)-1-1)=(c.Aq.length:Int)-2:=by rw [qaE (by omega) (by omega)];omega
  simp only [qhk,je,e1,e2,qdE,qko]
  unfold arcS
  refine Ev.guardB ?_ (fun hb=>?_)
  · simp only [qbp]
    exact Ev.orBP fun _=>.done
  · have hf:(0≤a.Au∧a.Au≤(c.Aq.length:Int)-2)∧(0≤a.To∧a.To≤(c.Aq.length:Int)-1):=by
      simp only [jh,qbv] at hb
      exact hb
    simp only [qeN hf.1.1 (show a.Au<(c.Aq.length:Int) by omega),qeN hf.2.1 (show a.To<(c.Aq.length:Int) by omega),je]
    refine Ev.iff (fun _=>?_) (fun _=>Ev.iff (fun _=>?_) (fun _=>Ev.iff (fun _=>?_) (fun _=>.done)))
    · exact Ev.andP fun _=>Ev.andP fun _=>Ev.andP fun _=>Ev.and (qfQ ha.Bi) fun _=>Ev.last (qfQ ha.Bm)
    · exact Ev.andP fun _=>Ev.andP fun _=>Ev.andP fun _=>Ev.and (qfQ ha.Bi) fun _=>Ev.last (qfQ ha.Bm)
    · exact Ev.andP fun _=>Ev.andP fun _=>Ev.andP fun _=>Ev.andP fun _=>Ev.and (qfQ ha.Bi) fun _=>.done
theorem qkd {ps:List qaa} (h1:clkN ps ps.length≤1) {x:Int} (hx:0≤x):clkIx ps=x↔x<ps.length∧clkAt ps x=true:=by
  unfold clkIx ixL
  cases hf:ps.findIdx? (fun p=>p.Bc) with
  | some j =>
    obtain ⟨hj,hp,_⟩:=List.findIdx?_eq_some_iff_getElem.1 hf
    have hpj:(gt ps j).Bc=true:=by rw [qgE hj];exact hp
    constructor
    · intro e
      have e:(j:Int)=x:=e
      subst e
      exact ⟨by omega,by unfold clkAt;rw [jz];exact hpj⟩
    · rintro ⟨hl,hc⟩
      have:=qnj h1 hj (show x.toNat<ps.length by omega) hpj hc
      show (j:Int)=x
      omega
  | none =>
    have hn:=List.findIdx?_eq_none_iff.1 hf
    constructor
    · intro e
      have e:(-1:Int)=x:=e
      omega
    · rintro ⟨hl,hc⟩
      have hxl:x.toNat<ps.length:=by omega
      unfold clkAt at hc
      rw [qgE hxl] at hc
      have:=hn _ (jr hxl)
      rw [hc] at this
      exact absurd this (by decide)
theorem qgY {ps:List qaa} (h:pinsB ps=true):(2≤ps.length∧ps.length≤5)∧clkAt ps ((ps.length:Int)-1)=false:=by
  unfold pinsB lenB at h
  simp only [jh,decide_eq_true_eq] at h
  refine ⟨h.2.1,?_⟩
  have h1:=qai.1 h.1 (ps.length-1) (by omega)
  unfold pinB at h1
  rw [show decide (ps.length-1+1=ps.length)=true by simp;omega] at h1
  simp only [cond_true,jh,jH] at h1
  unfold clkAt
  rw [show ((ps.length:Int)-1).toNat=ps.length-1 by omega]
  exact h1.2.2
theorem qqS {ps:List qaa} {a:qaw} (h:pinsB ps=true) (h1:clkN ps ps.length≤1):arcI ps a=arcS ps a:=by
  obtain ⟨⟨hm,hm5⟩,hlast⟩:=qgY h
  rw [jp]
  unfold arcI arcS
  cases h45:((a.Am==4) || (a.Am==5)) with
  | true =>
    have k1:(a.Am==1)=false:=by simp at h45 ⊢;omega
    have k23:((a.Am==2) || (a.Am==3))=false:=by simp at h45 ⊢;omega
    rw [k1,k23]
    simp only [cond_true,cond_false,jh,qbv,decide_eq_true_eq,beq_iff_eq,jH,beq_eq_false_iff_ne,ne_eq]
    constructor
    · rintro ⟨hs,hsl,hd,hf,hf0,ht,hne⟩
      obtain ⟨hl,hc⟩:=(qkd h1 hf0).1 hf.symm
      have hfl:a.Au ≠ (ps.length:Int)-1:=by intro e;rw [e,hlast] at hc;cases hc
      refine ⟨⟨⟨hf0,by omega⟩,⟨ht.1,by omega⟩⟩,hc,by omega,?_,hs,hd,hsl⟩
      cases hct:clkAt ps a.To with
      | false=>rfl
      | true =>
        have:=(qkd h1 ht.1).2 ⟨by omega,hct⟩
        omega
    · rintro ⟨⟨hf,ht⟩,hc,hlt,hct,hs,hd,hsl⟩
      have:=(qkd h1 hf.1).2 ⟨by omega,hc⟩
      refine ⟨hs,hsl,hd,this.symm,hf.1,⟨ht.1,by omega⟩,?_⟩
      intro e
      rw [e,hc] at hct
      cases hct
  | false =>
    simp only [cond_false,jh,qbv,beq_iff_eq]
    cases (a.Am==1)
    · cases ((a.Am==2) || (a.Am==3))
      · simp
      · simp only [cond_true,cond_false,jh,beq_iff_eq]
        constructor
        · rintro ⟨⟨h1,h2,h3,h4⟩,h5,h6⟩
          exact ⟨⟨h4,by omega⟩,h5,h3,h6,h1,h2⟩
        · rintro ⟨⟨h4,h7⟩,h5,h3,h6,h1,h2⟩
          exact ⟨⟨h1,h2,h3,h4⟩,h5,h6⟩
    · simp only [cond_true,jh,qbv,jH,beq_iff_eq]
      constructor
      · rintro ⟨⟨h1,h2,h3,h4⟩,h5,h6⟩
        exact ⟨⟨h4,by omega⟩,h5,h3,h6,h1,h2⟩
      · rintro ⟨⟨h4,h7⟩,h5,h3,h6,h1,h2⟩
        exact ⟨⟨h1,h2,h3,h4⟩,h5,h6⟩
theorem qoE {ps:List qaa} {a:qaw} (h:arcS ps a=true):1≤a.Am∧a.Am≤5:=by
  unfold arcS at h
  rw [jh] at h
  have h:=h.2
  cases h1:(a.Am==1)
  · cases h2:((a.Am==2) || (a.Am==3))
    · cases h4:((a.Am==4) || (a.Am==5))
      · rw [h1,h2,h4] at h;cases h
      · simp at h4;omega
    · simp at h2;omega
  · simp at h1;omega
def sameArc (x y:qaw):Bool:=(x.Am==y.Am)&&((x.Au==y.Au)&&(x.To==y.To))
def newArc (ar:List qaw) (j:Nat):Bool:=allN (fun i=>!sameArc (gt ar i) (gt ar j)) j
theorem qnx {c:qr} (h:okL qh5 c.Aq) (ha:okL qhY c.Ar) (hm:2≤c.Aq.length):Ev (fun n=>qeD n c) (allN (fun j=>arcI c.Aq (gt c.Ar j)&&newArc c.Ar j) c.Ar.length&&decide (c.Ar.length≤8)):=by
  have hl:=ha.len
  have h1:∀ (ar:List qaw) (y:qaw),ar.length≤1048576→Ev (fun n=>qaj n ar y) (ar.any fun x=>sameArc x y):=by
    intro ar y hl
    unfold qaj
    refine Ev.bind (b:=ixL (fun x=>sameArc x y) ar) (qd5 (fin:=(ar.length:Int)) (Lf:=qF ar y) (pf:=fun n x=>qdX n x y) (fun x _=>?_)
      (fun n=>by simp only [qF,qp (jf _),cond_false])
      (fun n j x hx=>by
        have hj:=(List.getElem?_eq_some_iff.1 hx).1
        simp only [qF,qn hj,cond_true,qg0 hx,je,wS j])
      (fun n=>by unfold qaN;congr 1;funext o;cases o<;>rfl)) (Ev.now (by rw [qjn]))
    unfold qdX sameArc
    exact Ev.andP fun _=>Ev.andP fun _=>.done
  have hL:Ev (fun n=>qbA c n 0) (bif allN (fun j=>arcI c.Aq (gt c.Ar j)&&newArc c.Ar j) c.Ar.length then .nxt (c.Ar.length:Int) else .ret false):=by
    refine qd1 ?_ (fun j hj X hX=>Ev.succ ?_)
    · exact Ev.succ (by simp only [qbA,qp (jf _),cond_false];exact .done)
    · simp only [qbA,qn hj,cond_true,qab hj,je,qov (Nat.le_of_lt hj),wS j]
      refine Ev.chk (qoO h (qg6 ha hj) hm) fun _=>Ev.chkT1 ?_ (fun _=>hX)
      refine (h1 _ _ (by simp;omega)).cast ?_
      rw [qpC (Nat.le_of_lt hj)];rfl
  unfold qeD
  refine Ev.bind hL ?_
  cases allN (fun j=>arcI c.Aq (gt c.Ar j)&&newArc c.Ar j) c.Ar.length
  · exact .done
  · refine Ev.now ?_
    show some (decide ((c.Ar.length:Int)≤((8:Nat):Int)))=some (true&&decide (c.Ar.length≤8))
    rw [qhX,jC]
def hasB (ar:List qaw) (k:Int):Bool:=ar.any fun a=>a.Am==k
theorem qj2 {c:qr} {k:Int} (hl:c.Ar.length≤1048576):Ev (fun n=>qcu n c k) (hasB c.Ar k):=by
  unfold qcu qaR
  exact Ev.last (Ev.bind (b:=ixL (fun x=>x.Am==k) c.Ar) (qd5 (fin:=(c.Ar.length:Int)) (Lf:=qK c.Ar k) (pf:=fun n x=>qgA n x k) (fun x _=>.done)
      (fun n=>by simp only [qK,qp (jf _),cond_false])
      (fun n j x hx=>by
        have hj:=(List.getElem?_eq_some_iff.1 hx).1
        simp only [qK,qn hj,cond_true,qg0 hx,je,wS j])
      (fun n=>by unfold qa3;congr 1;funext o;cases o<;>rfl)) (Ev.now (by rw [qjn];rfl)))
def kindN (ar:List qaw) (k:Nat) (j:Nat):Nat:=cntP (fun i=>(gt ar i).Am==(k:Int)) j
theorem qlL {ar:List qaw} {k:Nat}:decide (((kindN ar k ar.length:Nat):Int) > 0)=hasB ar k:=by
  rw [show decide (((kindN ar k ar.length:Nat):Int) > 0)=decide (0<kindN ar k ar.length) by simp]
  unfold kindN hasB
  rw [qmH,qoX]
theorem qnI {ar:List qaw} {k:Nat}:(((kindN ar k ar.length:Nat):Int)==0) = !hasB ar k:=by
  rw [←qlL,jp];simp
theorem qmZ {c:qr} (ha:okL qhY c.Ar) (hk:∀ j,j<c.Ar.length→1≤(gt c.Ar j).Am∧(gt c.Ar j).Am≤5):Ev (fun n=>qgd n c) (vecC (fun k=>kindN c.Ar k c.Ar.length) 6):=by
  have hl:=ha.len
  have hL:Ev (fun n=>qco c n (vecC (fun _=>0) 6) 0) (vecC (fun k=>kindN c.Ar k c.Ar.length) 6,(c.Ar.length:Int)):=by
    refine loopF (Lf:=qco c) (S:=fun j=>vecC (fun k=>kindN c.Ar k j) 6) (len:=c.Ar.length) (fun n=>?_) (fun j hj X hX=>?_)
    · simp only [qco,qp (jf _),cond_false]
    · obtain ⟨k1,k5⟩:=hk j hj
      have ek:(gt c.Ar j).Am=(((gt c.Ar j).Am.toNat:Nat):Int):=qh3 (by omega)
      have hc:kindN c.Ar (gt c.Ar j).Am.toNat j≤j:=qdY
      simp only [qco,qn hj,cond_true,qab hj,je,wS j]
      rw [ek,qgZ (show (gt c.Ar j).Am.toNat<6 by omega)]
      simp only [je]
      rw [qlS (c:=fun k=>kindN c.Ar k j) (by show kindN c.Ar _ j<_;omega)]
      have:vecC (fun i=>kindN c.Ar i j+(bif decide ((gt c.Ar j).Am.toNat=i) then 1 else 0)) 6=vecC (fun k=>kindN c.Ar k (j+1)) 6:=by
        refine qg7 (fun k _=>?_)
        show _=kindN c.Ar k j+(bif (gt c.Ar j).Am==(k:Int) then 1 else 0)
        congr 2
        rw [jp];simp;omega
      rw [this]
      exact hX
  unfold qgd
  rw [show mkS 6 (0:Int)=some (vecC (fun _=>0) 6) from qi7 (m:=6) (by omega)]
  simp only [je]
  exact Ev.bind hL .done
def kindB (c:qr):Bool :=
  bif c.Am==1 then (((clkN c.Aq c.Aq.length:Nat):Int)==0)&&(((c.Bb.length:Int)==((2 ^ (c.Aq.length-1):Nat):Int))&&(c.Bb.all fun x=>inI x 0 1))
  else bif c.Am==2 then (((clkN c.Aq c.Aq.length:Nat):Int)==1)&&(((c.Bb.length:Int)==0)&&(!hasB c.Ar 1&&!(hasB c.Ar 2==hasB c.Ar 3)))
  else bif c.Am==3 then (((clkN c.Aq c.Aq.length:Nat):Int)==1)&&(((c.Bb.length:Int)==0)&&(hasB c.Ar 1&&(hasB c.Ar 2&&!hasB c.Ar 3)))
  else false
theorem qoH {c:qr} (h:kindB c=true):clkN c.Aq c.Aq.length≤1:=by
  unfold kindB at h
  cases h1:(c.Am==1)
  · cases h2:(c.Am==2)
    · cases h3:(c.Am==3)
      · rw [h1,h2,h3] at h;cases h
      · rw [h1,h2,h3] at h
        simp only [cond_true,cond_false,jh,beq_iff_eq] at h
        omega
    · rw [h1,h2] at h
      simp only [cond_true,cond_false,jh,beq_iff_eq] at h
      omega
  · rw [h1] at h
    simp only [cond_true,jh,beq_iff_eq] at h
    omega
theorem qm2 {m:Nat} (h1:2≤m) (h2:m≤5):shlS 1 (W64 ((m:Int)-1))=some ((2 ^ (m-1):Nat):Int)∧shlS 1 (IntKind.wrap .u64 (W64 ((m:Int)-1)))=some ((2 ^ (m-1):Nat):Int):=by
  have:m=2∨m=3∨m=4∨m=5:=by omega
  rcases this with rfl|rfl|rfl|rfl<;>exact ⟨by decide,by decide⟩
theorem qmL {c:qr} (hc:qi5 c) (hm:2≤c.Aq.length) (hm5:c.Aq.length≤5):Ev (fun n=>qeg n c) (kindB c):=by
  have hl:=hc.Aq.len
  have hL:Ev (fun n=>qaP c n 0 0) (((clkN c.Aq c.Aq.length:Nat):Int),(c.Aq.length:Int)):=by
    refine loopF (Lf:=qaP c) (S:=fun j=>((clkN c.Aq j:Nat):Int)) (len:=c.Aq.length) (fun n=>?_) (fun j hj X hX=>?_)
    · simp only [qaP,qp (jf _),cond_false]
    · have hn:clkN c.Aq j≤j:=qdY
      simp only [qaP,qn hj,cond_true,qab hj,je,wS j,qfk (show clkN c.Aq j<9223372036854775807 by omega)]
      have hck:clkN c.Aq (j+1)=clkN c.Aq j+(bif (gt c.Aq j).Bc then 1 else 0):=rfl
      rw [hck] at hX
      cases hc:(gt c.Aq j).Bc
      · rw [hc] at hX;exact Ev.ff rfl hX
      · rw [hc] at hX;exact Ev.tt rfl hX
  unfold qeg kindB
  refine Ev.bind hL ?_
  simp only [qc8,qbE,je,(qm2 hm hm5).1]
  have hal:=hc.Ar.len
  refine Ev.iff (fun _=>?_) (fun _=>Ev.iff (fun _=>?_) (fun _=>Ev.iff (fun _=>?_) (fun _=>.done)))
  · exact Ev.andP fun _=>Ev.andP fun _=>Ev.last (qek hc.Bb.len)
  · exact Ev.andP fun _=>Ev.andP fun _=>Ev.bind (qj2 hal) (Ev.andP fun _=>Ev.bind (qj2 hal) (Ev.bind (qj2 hal) .done))
  · exact Ev.andP fun _=>Ev.andP fun _=>Ev.and (qj2 hal) fun _=>Ev.and (qj2 hal) fun _=>Ev.bind (qj2 hal) .done
def cellB (c:qr):Bool :=
  nameB c.As&&(pinsB c.Aq&&((allN (fun j=>arcI c.Aq (gt c.Ar j)&&newArc c.Ar j) c.Ar.length&&decide (c.Ar.length≤8))&&(inI c.Bo 0 100000&&(inI c.Bk 0 100000&&kindB c))))
theorem qou {c:qr} (hc:qi5 c):Ev (fun n=>qhe n c) (cellB c):=by
  simp only [qhe,qlF hc.As,qdv,je]
  unfold cellB
  refine Ev.andP fun _=>Ev.and (qnn hc.Aq) fun hp=>?_
  obtain ⟨⟨hm,hm5⟩,_⟩:=qgY hp
  exact Ev.and (qnx hc.Aq hc.Ar hm) fun _=>Ev.andP fun _=>Ev.andP fun _=>Ev.last (qmL hc hm hm5)
theorem qnN {c:qr} (hc:qi5 c):Ev (fun n=>qhl n c) (cellB c):=by
  have hal:=hc.Ar.len
  have htl:=hc.Bb.len
  have e:cellB c=((pinsB c.Aq&&(nameB c.As&&(decide (c.Ar.length≤8)&&(inI c.Bo 0 100000&&inI c.Bk 0 100000))))&&(allN (fun j=>arcS c.Aq (gt c.Ar j)&&newArc c.Ar j) c.Ar.length&&kindB c)):=by
    unfold cellB
    cases hk:kindB c
    · simp
    · cases hp:pinsB c.Aq
      · simp
      · rw [qfu (fun j _=>by rw [qqS hp (qoH hk)])]
        cases nameB c.As<;>cases allN (fun j=>arcS c.Aq (gt c.Ar j)&&newArc c.Ar j) c.Ar.length<;>cases decide (c.Ar.length≤8)<;>cases inI c.Bo 0 100000<;>cases inI c.Bk 0 100000<;>rfl
  rw [e]
  unfold qhl
  refine Ev.bind (qnA hc.Aq) ?_
  cases hp:pinsB c.Aq
  · exact .done
  · obtain ⟨⟨hm,hm5⟩,_⟩:=qgY hp
    simp only [cond_true,jC,jU,cond_false]
    refine Ev.guardB ?_ (fun _=>?_)
    · simp only [qdE,je,qbp]
      refine Ev.orB (qjr hc.As) fun _=>?_
      rw [show decide ((c.Ar.length:Int) > 8) = !decide (c.Ar.length≤8) by rw [jp];simp;omega,qbp]
      exact Ev.orBP fun _=>Ev.orBP fun _=>.done
    · have hL2:∀ j,j<c.Ar.length→Ev (fun n=>qcz c (j:Int) (gt c.Ar j) n 0) (bif newArc c.Ar j then .nxt (j:Int) else .ret false):=by
        intro j hj
        refine qd1 ?_ (fun i hi X hX=>Ev.succ ?_)
        · exact Ev.succ (by simp only [qcz,qp (jf _),cond_false];exact .done)
        · simp only [qcz,qn hi,cond_true,qab (show i<c.Ar.length by omega),je,wS i]
          unfold sameArc
          cases ((gt c.Ar i).Am==(gt c.Ar j).Am)
          · exact hX
          · cases ((gt c.Ar i).Au==(gt c.Ar j).Au)
            · exact hX
            · cases ((gt c.Ar i).To==(gt c.Ar j).To)
              · exact hX
              · exact .done
      have hL1:Ev (fun n=>qed c n 0) (bif allN (fun j=>arcS c.Aq (gt c.Ar j)&&newArc c.Ar j) c.Ar.length then .nxt (c.Ar.length:Int) else .ret false):=by
        refine qd1 ?_ (fun j hj X hX=>Ev.succ ?_)
        · exact Ev.succ (by simp only [qed,qp (jf _),cond_false];exact .done)
        · simp only [qed,qn hj,cond_true,qab hj,je,wS j]
          refine Ev.chk (qoD hc.Aq (qg6 hc.Ar hj) hm) fun _=>Ev.bind (hL2 j hj) ?_
          cases newArc c.Ar j
          · exact .done
          · exact hX
      have hL3:Ev (fun n=>qec c n 0) (bif (c.Bb.all fun x=>inI x 0 1) then .nxt (c.Bb.length:Int) else .ret false) :=
        qiS (fun n=>by simp only [qec,qp (jf _),cond_false]) (fun j hj X hX=>by
          simp only [qec,qn hj,cond_true,qaq hj,je,qdE,wS j,qbp]
          exact Ev.okP1 fun _=>hX)
      refine Ev.bind hL1 ?_
      cases hA:allN (fun j=>arcS c.Aq (gt c.Ar j)&&newArc c.Ar j) c.Ar.length
      · exact .done
      · have hk:∀ j,j<c.Ar.length→1≤(gt c.Ar j).Am∧(gt c.Ar j).Am≤5:=fun j hj=>by
          have:=qai.1 hA j hj
          rw [jh] at this
          exact qoE this.1
        simp only [cond_true,jC]
        refine Ev.bind (qmZ hc.Ar hk) ?_
        simp only [(qm2 hm hm5).2,je,
          show idx (vecC (fun k=>kindN c.Ar k c.Ar.length) 6) (1:Int)=some ((kindN c.Ar 1 c.Ar.length:Nat):Int) from qgZ (k:=1) (by omega),
          show idx (vecC (fun k=>kindN c.Ar k c.Ar.length) 6) (2:Int)=some ((kindN c.Ar 2 c.Ar.length:Nat):Int) from qgZ (k:=2) (by omega),
          show idx (vecC (fun k=>kindN c.Ar k c.Ar.length) 6) (3:Int)=some ((kindN c.Ar 3 c.Ar.length:Nat):Int) from qgZ (k:=3) (by omega),qlL,qnI]
        unfold kindB
        refine Ev.iff (fun _=>?_) (fun _=>Ev.iff (fun _=>?_) (fun _=>Ev.iff (fun _=>?_) (fun _=>.done)))
        · refine Ev.bind hL3 ?_
          cases (c.Bb.all fun x=>inI x 0 1)
          · exact Ev.now (by simp)
          · exact (Ev.andP (fun _=>.done)).cast (by rw [Bool.and_true])
        · refine (Ev.andP fun _=>Ev.andP fun _=>Ev.andP fun _=>.done).cast ?_
          cases (((clkN c.Aq c.Aq.length:Nat):Int)==1)<;>cases ((c.Bb.length:Int)==0)<;>cases hasB c.Ar ((1:Nat):Int)<;>cases hasB c.Ar ((2:Nat):Int)<;>cases hasB c.Ar ((3:Nat):Int)<;>rfl
        · refine (Ev.andP fun _=>Ev.andP fun _=>Ev.andP fun _=>Ev.andP fun _=>.done).cast ?_
          cases (((clkN c.Aq c.Aq.length:Nat):Int)==1)<;>cases ((c.Bb.length:Int)==0)<;>cases hasB c.Ar ((1:Nat):Int)<;>cases hasB c.Ar ((2:Nat):Int)<;>cases hasB c.Ar ((3:Nat):Int)<;>rfl
def libB (l:qj):Bool:=l.Ai.all cellB&&(decide (l.Ai.length≤8)&&namesB (l.Ai.map qr.As))
theorem qma {l:qj} (h:qeP l):Ev (fun n=>qfE n l) (libB l):=by
  have hl:=h.Ai.len
  have hL:Ev (fun n=>qbO l n ([]:List ByteArray) 0) (bif allN (fun j=>cellB (gt l.Ai j)) l.Ai.length then .nxt (l.Ai.map qr.As,(l.Ai.length:Int)) else .ret false):=by
    refine loopN (Lf:=qbO l) (S:=fun j=>(l.Ai.take j).map qr.As) (fun j=>cellB (gt l.Ai j)) (fun n=>?_) (fun j hj hp X hX=>?_)
    · simp only [qbO,qp (jf _),cond_false,jT]
    · simp only [qbO,qn hj,cond_true,qab hj,je,qhT hj hl,qe9 (g:=qr.As) hj,wS j]
      exact Ev.chk1 (qou (qg6 h.Ai hj)) hX
  unfold qfE libB
  rw [qgz]
  refine Ev.bind hL ?_
  cases allN (fun j=>cellB (gt l.Ai j)) l.Ai.length
  · exact .done
  · simp only [cond_true,jC,show decide ((l.Ai.length:Int)≤8)=decide (l.Ai.length≤8) from qhX (k:=8)]
    exact Ev.andP fun _=>Ev.last (qgk (qiY h.Ai (fun x hx=>hx.As)))
end Go.Fw


namespace Go.Fw
open Go
set_option maxRecDepth 100000
theorem qnp {c:qr} (h:cellB c=true):nameB c.As=true:=by
 unfold cellB at h;rw [jh] at h;exact h.1
theorem qlo {c:qr} (h:cellB c=true):pinsB c.Aq=true:=by
 unfold cellB at h;simp only [jh] at h;exact h.2.1
theorem qlB {l:qj} (h:qeP l):Ev (fun n=>qfF n l) (libB l):=by
 have hl:=h.Ai.len
 have hL2:∀ j,j<l.Ai.length→Ev (fun n=>qcD l (j:Int) n 0) (bif allN (neB (l.Ai.map qr.As) j) j then .nxt (j:Int) else .ret false):=by
  intro j hj
  refine qd1 ?_ (fun i hi X hX=>Ev.succ ?_)
  ·exact Ev.succ (by simp only [qcD,qp (jf _),cond_false];exact .done)
  ·simp only [qcD,qn hi,cond_true,qab (show i<l.Ai.length by omega),qab hj,je,qV,wS i]
   unfold neB
   rw [qgW (g:=qr.As) (show i<l.Ai.length by omega),qgW (g:=qr.As) hj]
   exact Ev.chkP1 (fun _=>hX)
 have hL1:Ev (fun n=>qcC l n 0) (bif allN (fun j=>cellB (gt l.Ai j)&&allN (neB (l.Ai.map qr.As) j) j) l.Ai.length then .nxt (l.Ai.length:Int) else .ret false):=by
  refine qd1 ?_ (fun j hj X hX=>Ev.succ ?_)
  ·exact Ev.succ (by simp only [qcC,qp (jf _),cond_false];exact .done)
  ·simp only [qcC,qn hj,cond_true,qab hj,je,wS j]
   refine Ev.chk (qnN (qg6 h.Ai hj)) fun _=>Ev.bind (hL2 j hj) ?_
   cases allN (neB (l.Ai.map qr.As) j) j
   ·exact .done
   ·exact hX
 have e:libB l=(allN (fun j=>cellB (gt l.Ai j)&&allN (neB (l.Ai.map qr.As) j) j) l.Ai.length&&decide (l.Ai.length≤8)):=by
  unfold libB namesB
  rw [qgz,jy,Bool.and_comm (decide (l.Ai.length≤8)),←Bool.and_assoc,←qhx]
  congr 1
  refine qfu (fun j hj=>?_)
  rw [qgW (g:=qr.As) hj]
  cases hc:cellB (gt l.Ai j)
  ·rfl
  ·rw [qnp hc];rfl
 rw [e]
 unfold qfF
 refine Ev.bind hL1 ?_
 cases allN (fun j=>cellB (gt l.Ai j)&&allN (neB (l.Ai.map qr.As) j) j) l.Ai.length
 ·exact .done
 ·refine Ev.now ?_
  show some (decide ((l.Ai.length:Int)≤((8:Nat):Int)))=some (true&&decide (l.Ai.length≤8))
  rw [qhX,jC]
theorem qhD {c c':Nat→Nat} {m:Nat} {x:Int} (h0:0≤x) (h1:x<m) (hc:c x.toNat<9223372036854775807) (he:∀ k,k<m→c' k=c k+(bif x==(k:Int) then 1 else 0)) :
  idx (vecC c m) x=some (c x.toNat:Int)∧setS (vecC c m) x (W64 ((c x.toNat:Int)+1))=vecC c' m:=by
 have ex:x=(x.toNat:Int):=qh3 h0
 have e1:=qgZ (c:=c) (m:=m) (k:=x.toNat) (by omega)
 have e2:=qlS (c:=c) (m:=m) (k:=x.toNat) hc
 rw [←ex] at e1 e2
 refine ⟨e1,e2.trans (qg7 (fun k hk=>?_))⟩
 rw [he k hk]
 congr 2
 rw [jp];simp;omega
def netB (d:qg) (x:Int):Bool:=inI x 0 ((d.Aj.length:Int)-1)
theorem qmC {n:Nat} {d:qg} {x:Int} (hl:d.Aj.length≤1048576):qcH n d x=some (netB d x):=by
 simp only [qcH,qfx,je,qdv,qch (show d.Aj.length≤9223372036854775807 by omega)];rfl
theorem qlM {n:Nat} {d:qg} {x:Int} (hl:d.Aj.length≤1048576):qam n x 0 (W64 ((d.Aj.length:Int)-1))=some (netB d x):=by
 rw [qdE,qch (show d.Aj.length≤9223372036854775807 by omega)];rfl
def hasNamesB (d:qg):Bool:=(decide (d.Ab.length≤14)&&(decide (d.Aj.length≤30)&&decide (d.Af.length≤8)))&&(namesB (d.Ab.map qu.As)&&(namesB d.Aj&&namesB (d.Af.map qac.As)))
theorem qmR {d:qg} (h:qgX d):Ev (fun n=>qdN n d) (hasNamesB d):=by
 have hli:=h.Ab.len
 have hlp:=h.Af.len
 have hL1:Ev (fun n=>qaU d n ([]:List ByteArray) 0) (d.Ab.map qu.As,(d.Ab.length:Int)):=by
  refine loopF (Lf:=qaU d) (S:=fun j=>(d.Ab.take j).map qu.As) (len:=d.Ab.length) (fun n=>?_) (fun j hj X hX=>?_)
  ·simp only [qaU,qp (jf _),cond_false,jT]
  ·simpa only [qaU,qn hj,cond_true,qab hj,je,qhT hj hli,qe9 (g:=qu.As) hj,wS j] using hX
 have hL2:Ev (fun n=>qaV d n ([]:List ByteArray) 0) (d.Af.map qac.As,(d.Af.length:Int)):=by
  refine loopF (Lf:=qaV d) (S:=fun j=>(d.Af.take j).map qac.As) (len:=d.Af.length) (fun n=>?_) (fun j hj X hX=>?_)
  ·simp only [qaV,qp (jf _),cond_false,jT]
  ·simpa only [qaV,qn hj,cond_true,qab hj,je,qhT hj hlp,qe9 (g:=qac.As) hj,wS j] using hX
 unfold qdN hasNamesB
 refine Ev.bind hL1 (Ev.bind hL2 ?_)
 simp only [jy]
 rw [show decide ((d.Ab.length:Int)≤14)=decide (d.Ab.length≤14) from qhX (k:=14),show decide ((d.Aj.length:Int)≤30)=decide (d.Aj.length≤30) from qhX (k:=30),show decide ((d.Af.length:Int)≤8)=decide (d.Af.length≤8) from qhX (k:=8)]
 rw [Bool.and_assoc,Bool.and_assoc]
 exact Ev.andP fun _=>Ev.andP fun _=>Ev.andP fun _=>Ev.and (qgk (qiY h.Ab (fun x hx=>hx.As))) fun _=>Ev.and (qgk h.Aj) fun _=>Ev.last (qgk (qiY h.Af (fun x hx=>hx.As)))
def instB (l:qj) (d:qg) (x:qu):Bool:=inI x.Ba 0 ((l.Ai.length:Int)-1)&&(((x.Aj.length:Int)==((gt l.Ai x.Ba.toNat).Aq.length:Int))&&x.Aj.all (netB d))
theorem qlA {d:qg} {l:qj} {x:qu} (hn:d.Aj.length≤1048576) (hc:l.Ai.length≤1048576) (hx:x.Aj.length≤1048576):Ev (fun n=>qcU n d l x) (instB l d x):=by
 simp only [qcU,qex,je,qdv,qch (show l.Ai.length≤9223372036854775807 by omega)]
 unfold instB
 refine Ev.andP fun hI=>?_
 rw [qbv] at hI
 rw [qeN hI.1 (by omega)]
 simp only [je]
 refine Ev.andP fun _=>Ev.bind (b:=x.Aj.any fun y=>!netB d y) ?_ (Ev.now (by rw [qkG]))
 unfold qay
 exact Ev.bind (b:=ixL (fun y=>!netB d y) x.Aj) (qd5 (fin:=(x.Aj.length:Int)) (Lf:=qE x.Aj d) (pf:=fun n y=>qcv n y d) (fun y _=>⟨0,fun n _=>by simp only [qcv,qmC hn,je]⟩)
   (fun n=>by simp only [qE,qp (jf _),cond_false])
   (fun n j y hx=>by
    have hj:=(List.getElem?_eq_some_iff.1 hx).1
    simp only [qE,qn hj,cond_true,qg0 hx,je,wS j])
   (fun n=>by unfold qaH;congr 1;funext o;cases o<;>rfl)) (Ev.now (by rw [qjn]))
def portB (d:qg) (p:qac):Bool:=inI p.Bl 1 2&&netB d p.Bn
theorem qqs {x:Int}:inI x 1 2=((x==1) || (x==2)):=by
 unfold inI;rw [jp];simp;omega
def lastN (x:qu):Int:=at0 x.Aj (x.Aj.length-1)
theorem qm6 {x:qu} (h1:1≤x.Aj.length) (h2:x.Aj.length≤1048576):idx x.Aj (W64 ((x.Aj.length:Int)-1))=some (lastN x):=by
 rw [qch (by omega),show ((x.Aj.length:Int)-1)=((x.Aj.length-1:Nat):Int) by omega,qbJ (by omega)];rfl
theorem qoB {d:qg} {x:qu} (h1:1≤x.Aj.length) (h:x.Aj.all (netB d)=true):0≤lastN x∧lastN x<d.Aj.length:=by
 rw [qfO (d:=0),qai] at h
 have:=h (x.Aj.length-1) (by omega)
 unfold netB at this
 rw [qbv] at this
 unfold lastN at0
 omega
theorem qlq {l:qj} {d:qg} {x:qu} (hl:libB l=true) (h:instB l d x=true):1≤x.Aj.length∧0≤lastN x∧lastN x<d.Aj.length:=by
 unfold instB at h
 simp only [jh,qbv,beq_iff_eq] at h
 obtain ⟨h1,h2,h3⟩:=h
 unfold libB at hl
 simp only [jh] at hl
 have hc:=hl.1
 rw [qgz,qai] at hc
 have:=qgY (qlo (hc x.Ba.toNat (by omega)))
 have h4:1≤x.Aj.length:=by omega
 exact ⟨h4,qoB h4 h3⟩
def drvI (d:qg) (k j:Nat):Nat:=cntP (fun i=>lastN (gt d.Ab i)==(k:Int)) j
def drvP (d:qg) (k j:Nat):Nat:=cntP (fun i=>((gt d.Af i).Bl==1)&&((gt d.Af i).Bn==(k:Int))) j
def drvB (d:qg):Bool:=allN (fun k=>((drvI d k d.Ab.length+drvP d k d.Af.length:Nat):Int)==1) d.Aj.length
def designB (l:qj) (d:qg):Bool:=(libB l&&hasNamesB d)&&(d.Ab.all (instB l d)&&(d.Af.all (portB d)&&drvB d))
theorem qj1 {d:qg} {k j:Nat}:drvI d k (j+1)=drvI d k j+(bif lastN (gt d.Ab j)==(k:Int) then 1 else 0):=rfl
theorem qiZ {d:qg} {k j:Nat}:drvP d k (j+1)=drvP d k j+(bif ((gt d.Af j).Bl==1)&&((gt d.Af j).Bn==(k:Int)) then 1 else 0):=rfl
theorem qmB {l:qj} {d:qg} (h:qeP l) (hd:qgX d):Ev (fun n=>qgc n l d) (designB l d):=by
 have hli:=hd.Ab.len
 have hlp:=hd.Af.len
 have hln:=hd.Aj.len
 have hlc:=h.Ai.len
 unfold qgc designB
 refine Ev.guardB (Ev.or (qma h) fun _=>Ev.neg (qmR hd)) fun hb=>?_
 rw [jh] at hb
 rw [qi7 (m:=d.Aj.length) (by omega)]
 simp only [je]
 have hL1:Ev (fun n=>qcj l d n (vecC (fun _=>0) d.Aj.length) 0) (bif allN (fun j=>instB l d (gt d.Ab j)) d.Ab.length then .nxt (vecC (fun k=>drvI d k d.Ab.length) d.Aj.length,(d.Ab.length:Int)) else .ret false):=by
  refine loopN (Lf:=qcj l d) (S:=fun j=>vecC (fun k=>drvI d k j) d.Aj.length) (fun j=>instB l d (gt d.Ab j)) (fun n=>?_) (fun j hj hp X hX=>?_)
  ·simp only [qcj,qp (jf _),cond_false]
  ·simp only [qcj,qn hj,cond_true,qab hj,je,wS j]
   have hxl:=(qg6 hd.Ab hj).Aj.len
   refine Ev.chk1 (qlA hln hlc hxl) fun hi=>?_
   obtain ⟨h1,h2,h3⟩:=qlq hb.1 hi
   have hc:drvI d (lastN (gt d.Ab j)).toNat j≤j:=qdY
   obtain ⟨e1,e2⟩:=qhD (c:=fun k=>drvI d k j) (c':=fun k=>drvI d k (j+1)) h2 h3 (by show drvI _ _ _<_;omega) (fun k _=>qj1)
   simp only [qm6 h1 hxl,je,e1,e2]
   exact hX hi
 have hL2:Ev (fun n=>qbF d n (vecC (fun k=>drvI d k d.Ab.length) d.Aj.length) 0) (bif allN (fun j=>portB d (gt d.Af j)) d.Af.length then .nxt (vecC (fun k=>drvI d k d.Ab.length+drvP d k d.Af.length) d.Aj.length,(d.Af.length:Int)) else .ret false):=by
  refine loopN (Lf:=qbF d) (S:=fun j=>vecC (fun k=>drvI d k d.Ab.length+drvP d k j) d.Aj.length) (fun j=>portB d (gt d.Af j)) (fun n=>?_) (fun j hj hp X hX=>?_)
  ·simp only [qbF,qp (jf _),cond_false]
  ·simp only [qbF,qn hj,cond_true,qab hj,je,qmC hln,bne,wS j]
   refine Ev.chkT1 ?_ fun hi=>?_
   ·unfold portB
    rw [qqs]
    cases ((gt d.Af j).Bl==1)<;>cases ((gt d.Af j).Bl==2)<;>exact .done
   ·have hX:=hX hi
    unfold portB netB at hi
    simp only [jh,qbv] at hi
    have hc1:drvI d (gt d.Af j).Bn.toNat d.Ab.length≤d.Ab.length:=qdY
    have hc2:drvP d (gt d.Af j).Bn.toNat j≤j:=qdY
    cases h1:((gt d.Af j).Bl==1)
    ·have:vecC (fun k=>drvI d k d.Ab.length+drvP d k (j+1)) d.Aj.length=vecC (fun k=>drvI d k d.Ab.length+drvP d k j) d.Aj.length:=by
      refine qg7 (fun k _=>?_)
      rw [qiZ,h1];rfl
     rw [this] at hX
     exact hX
    ·obtain ⟨e1,e2⟩:=qhD (c:=fun k=>drvI d k d.Ab.length+drvP d k j) (c':=fun k=>drvI d k d.Ab.length+drvP d k (j+1)) (x:=(gt d.Af j).Bn) (m:=d.Aj.length) hi.2.1 (by omega) (by show drvI _ _ _+drvP _ _ _<_;omega) (fun k _=>by rw [qiZ,h1,jC];omega)
     simp only [cond_true,je,e1,e2]
     exact hX
 rw [qgz,qgz]
 refine Ev.bind hL1 ?_
 cases allN (fun j=>instB l d (gt d.Ab j)) d.Ab.length
 ·exact .done
 ·refine Ev.bind hL2 ?_
  cases allN (fun j=>portB d (gt d.Af j)) d.Af.length
  ·exact .done
  ·simp only [cond_true,jC]
   unfold qbc
   refine Ev.bind (b:=(vecC (fun k=>drvI d k d.Ab.length+drvP d k d.Af.length) d.Aj.length).any fun x=>!(x==1)) (Ev.bind (b:=ixL (fun x=>!(x==1)) (vecC (fun k=>drvI d k d.Ab.length+drvP d k d.Af.length) d.Aj.length)) (qd5 (fin:=(((vecC (fun k=>drvI d k d.Ab.length+drvP d k d.Af.length) d.Aj.length).length:Nat):Int)) (Lf:=qY (vecC (fun k=>drvI d k d.Ab.length+drvP d k d.Af.length) d.Aj.length)) (pf:=fun n y=>qgu n y) (fun y _=>.done)
    (fun n=>by simp only [qY,qp (jf _),cond_false])
    (fun n j y hx=>by
     have hj:=(List.getElem?_eq_some_iff.1 hx).1
     have:j<d.Aj.length:=by rw [qiM] at hj;exact hj
     simp only [qY,qn hj,cond_true,qg0 hx,je,wS j])
    (fun n=>by unfold qbq;congr 1;funext o;cases o<;>rfl)) (Ev.now (by rw [qjn]))) (Ev.now ?_)
   rw [qkG,qfO (d:=0),qiM]
   unfold drvB
   congr 1
   exact qfu (fun k hk=>by
    have:=qnb (c:=fun k=>drvI d k d.Ab.length+drvP d k d.Af.length) hk
    unfold at0 at this
    rw [this])
theorem qmM {l:qj} {d:qg} (h:qeP l) (hd:qgX d):Ev (fun n=>qge n l d) (d.Ab.all (instB l d)&&d.Af.all (portB d)):=by
 have hli:=hd.Ab.len
 have hlp:=hd.Af.len
 have hln:=hd.Aj.len
 have hlc:=h.Ai.len
 have hL2:∀ x:qu,x.Aj.length≤1048576→Ev (fun n=>qc5 d x n 0) (bif x.Aj.all (netB d) then .nxt (x.Aj.length:Int) else .ret false):=fun x hx =>
  qiS (fun n=>by simp only [qc5,qp (jf _),cond_false]) (fun j hj X hX=>by
   simp only [qc5,qn hj,cond_true,qaq hj,je,qlM hln,wS j,qbp]
   exact Ev.okP1 fun _=>hX)
 have hL1:Ev (fun n=>qc9 l d n 0) (bif allN (fun j=>instB l d (gt d.Ab j)) d.Ab.length then .nxt (d.Ab.length:Int) else .ret false):=by
  refine qd1 ?_ (fun j hj X hX=>Ev.succ ?_)
  ·exact Ev.succ (by simp only [qc9,qp (jf _),cond_false];exact .done)
  ·simp only [qc9,qn hj,cond_true,qab hj,je,qdE,qch (show l.Ai.length≤9223372036854775807 by omega),wS j,bne]
   have hxl:=(qg6 hd.Ab hj).Aj.len
   unfold instB
   rw [←Bool.and_assoc]
   refine Ev.chkT ?_ fun _=>Ev.bind (hL2 _ hxl) ?_
   ·simp only [qbp]
    refine Ev.orBP fun hI=>?_
    rw [qbv] at hI
    rw [qeN hI.1 (by omega)]
    exact .done
   ·cases (gt d.Ab j).Aj.all (netB d)
    ·exact .done
    ·exact hX
 have hL3:Ev (fun n=>qc3 d n 0) (bif allN (fun j=>portB d (gt d.Af j)) d.Af.length then .nxt (d.Af.length:Int) else .ret false):=by
  refine qd1 ?_ (fun j hj X hX=>Ev.succ ?_)
  ·exact Ev.succ (by simp only [qc3,qp (jf _),cond_false];exact .done)
  ·simp only [qc3,qn hj,cond_true,qab hj,je,qlM hln,wS j]
   simp only [qdE,je,qbp]
   unfold portB
   exact Ev.okP fun _=>Ev.okP1 fun _=>hX
 unfold qge
 rw [qgz,qgz]
 refine Ev.bind hL1 ?_
 cases allN (fun j=>instB l d (gt d.Ab j)) d.Ab.length
 ·exact .done
 ·refine Ev.bind hL3 ?_
  cases allN (fun j=>portB d (gt d.Af j)) d.Af.length<;>exact .done
theorem qgP {l:qj} {d:qg} (h:qeP l) (hd:qgX d):Ev (fun n=>qev n l d) (designB l d):=by
 have hli:=hd.Ab.len
 have hlp:=hd.Af.len
 have hln:=hd.Aj.len
 have hlc:=h.Ai.len
 have e:designB l d=((libB l&&(decide (d.Ab.length≤14)&&(decide (d.Aj.length≤30)&&(decide (d.Af.length≤8)&&(d.Ab.all (instB l d)&&d.Af.all (portB d))))))&&((namesB (d.Ab.map qu.As)&&(namesB (d.Af.map qac.As)&&namesB d.Aj))&&drvB d)):=by
  unfold designB hasNamesB
  generalize libB l=a1
  generalize decide (d.Ab.length≤14)=a2
  generalize decide (d.Aj.length≤30)=a3
  generalize decide (d.Af.length≤8)=a4
  generalize d.Ab.all (instB l d)=a5
  generalize d.Af.all (portB d)=a6
  generalize namesB (d.Ab.map qu.As)=a7
  generalize namesB (d.Af.map qac.As)=a8
  generalize namesB d.Aj=a9
  generalize drvB d=a10
  rw [jp]
  simp only [jh]
  constructor
  ·rintro ⟨⟨h1,⟨h2,h3,h4⟩,h7,h9,h8⟩,h5,h6,h10⟩
   exact ⟨⟨h1,h2,h3,h4,h5,h6⟩,⟨h7,h8,h9⟩,h10⟩
  ·rintro ⟨⟨h1,h2,h3,h4,h5,h6⟩,⟨h7,h8,h9⟩,h10⟩
   exact ⟨⟨h1,⟨h2,h3,h4⟩,h7,h9,h8⟩,h5,h6,h10⟩
 rw [e]
 unfold qev
 refine Ev.guardB ?_ fun hb=>?_
 ·refine Ev.or (qlB h) fun _=>?_
  rw [show decide ((d.Ab.length:Int) > 14) = !decide (d.Ab.length≤14) by rw [jp];simp;omega,show decide ((d.Aj.length:Int) > 30) = !decide (d.Aj.length≤30) by rw [jp];simp;omega,show decide ((d.Af.length:Int) > 8) = !decide (d.Af.length≤8) by rw [jp];simp;omega]
  simp only [qbp]
  exact Ev.orBP fun _=>Ev.orBP fun _=>Ev.orBP fun _=>Ev.neg (qmM h hd)
 ·simp only [jh] at hb
  obtain ⟨hlib,_,_,_,hI,hP⟩:=hb
  rw [qgz,qai] at hI hP
  have hL1:Ev (fun n=>qcq d n ([]:List ByteArray) 0) (d.Ab.map qu.As,(d.Ab.length:Int)):=by
   refine loopF (Lf:=qcq d) (S:=fun j=>(d.Ab.take j).map qu.As) (len:=d.Ab.length) (fun n=>?_) (fun j hj X hX=>?_)
   ·simp only [qcq,qp (jf _),cond_false,jT]
   ·simpa only [qcq,qn hj,cond_true,qab hj,je,qhT hj hli,qe9 (g:=qu.As) hj,wS j] using hX
  have hL2:Ev (fun n=>qcm d n ([]:List ByteArray) 0) (d.Af.map qac.As,(d.Af.length:Int)):=by
   refine loopF (Lf:=qcm d) (S:=fun j=>(d.Af.take j).map qac.As) (len:=d.Af.length) (fun n=>?_) (fun j hj X hX=>?_)
   ·simp only [qcm,qp (jf _),cond_false,jT]
   ·simpa only [qcm,qn hj,cond_true,qab hj,je,qhT hj hlp,qe9 (g:=qac.As) hj,wS j] using hX
  have hL3:Ev (fun n=>qck d n (vecC (fun _=>0) d.Aj.length) 0) (vecC (fun k=>drvI d k d.Ab.length) d.Aj.length,(d.Ab.length:Int)):=by
   refine loopF (Lf:=qck d) (S:=fun j=>vecC (fun k=>drvI d k j) d.Aj.length) (len:=d.Ab.length) (fun n=>?_) (fun j hj X hX=>?_)
   ·simp only [qck,qp (jf _),cond_false]
   ·have hxl:=(qg6 hd.Ab hj).Aj.len
    obtain ⟨h1,h2,h3⟩:=qlq hlib (hI j hj)
    have hc:drvI d (lastN (gt d.Ab j)).toNat j≤j:=qdY
    obtain ⟨e1,e2⟩:=qhD (c:=fun k=>drvI d k j) (c':=fun k=>drvI d k (j+1)) h2 h3 (by show drvI _ _ _<_;omega) (fun k _=>qj1)
    simpa only [qck,qn hj,cond_true,qab hj,je,wS j,qm6 h1 hxl,e1,e2] using hX
  have hL4:Ev (fun n=>qbG d n (vecC (fun k=>drvI d k d.Ab.length) d.Aj.length) 0) (vecC (fun k=>drvI d k d.Ab.length+drvP d k d.Af.length) d.Aj.length,(d.Af.length:Int)):=by
   refine loopF (Lf:=qbG d) (S:=fun j=>vecC (fun k=>drvI d k d.Ab.length+drvP d k j) d.Aj.length) (len:=d.Af.length) (fun n=>?_) (fun j hj X hX=>?_)
   ·simp only [qbG,qp (jf _),cond_false]
   ·have hi:=hP j hj
    unfold portB netB at hi
    simp only [jh,qbv] at hi
    have hc1:drvI d (gt d.Af j).Bn.toNat d.Ab.length≤d.Ab.length:=qdY
    have hc2:drvP d (gt d.Af j).Bn.toNat j≤j:=qdY
    simp only [qbG,qn hj,cond_true,qab hj,je,wS j]
    cases h1:((gt d.Af j).Bl==1)
    ·have:vecC (fun k=>drvI d k d.Ab.length+drvP d k (j+1)) d.Aj.length=vecC (fun k=>drvI d k d.Ab.length+drvP d k j) d.Aj.length:=by
      refine qg7 (fun k _=>?_)
      rw [qiZ,h1];rfl
     rw [this] at hX
     exact hX
    ·obtain ⟨e1,e2⟩:=qhD (c:=fun k=>drvI d k d.Ab.length+drvP d k j) (c':=fun k=>drvI d k d.Ab.length+drvP d k (j+1)) (x:=(gt d.Af j).Bn) (m:=d.Aj.length) hi.2.1 (by omega) (by show drvI _ _ _+drvP _ _ _<_;omega) (fun k _=>by rw [qiZ,h1,jC];omega)
     simp only [cond_true,je,e1,e2]
     exact hX
  have hL5:Ev (fun n=>qdh (vecC (fun _=>0) d.Aj.length) (vecC (fun k=>drvI d k d.Ab.length+drvP d k d.Af.length) d.Aj.length) n 0) (bif drvB d then .nxt (d.Aj.length:Int) else .ret false):=by
   refine qd1 ?_ (fun j hj X hX=>Ev.succ ?_)
   ·exact Ev.succ (by simp only [qdh,qiM,qp (jf _),cond_false];exact .done)
   ·simp only [qdh,qiM,qn hj,cond_true,qgZ hj,je,bne,qbp,wS j]
    exact Ev.okP1 fun _=>hX
  refine Ev.bind hL1 (Ev.bind hL2 ?_)
  refine Ev.guardB (Ev.or (qiO (qiY hd.Ab (fun x hx=>hx.As))) fun _=>Ev.or (qiO (qiY hd.Af (fun x hx=>hx.As))) fun _=>Ev.neg (qiO hd.Aj)) fun _=>?_
  rw [qi7 (m:=d.Aj.length) (by omega)]
  simp only [je]
  refine Ev.bind hL3 (Ev.bind hL4 (Ev.bind hL5 ?_))
  cases drvB d<;>exact .done
end Go.Fw


namespace Go.Fw
open Go
set_option maxRecDepth 100000
theorem qp8 {m k:Nat}:decide ((m:Int)<(k:Int)) = !decide (k≤m):=by rw [jp];simp
theorem qn8 {m k:Nat}:decide ((m:Int) > (k:Int)) = !decide (m≤k):=by rw [jp];simp
def treeB (w:qW) (j:Nat):Bool:=bif decide (j=0) then (at0 w.Ak j==-1)&&(at0 w.Bh j==0) else inI (at0 w.Ak j) 0 ((j:Int)-1)
def wireB (w:qW) (s:Int):Bool :=
 lenB w.Ak 1 8&&(((w.Bh.length:Int)==(w.Ak.length:Int))&&(((w.Be.length:Int)==(w.Ak.length:Int))&&(allN (treeB w) w.Ak.length &&
  ((w.Bh.all fun x=>inI x 0 1000)&&((w.Be.all fun x=>inI x 0 500)&&(((w.Ay.length:Int)==s)&&(w.Ay.all fun x=>inI x 0 ((w.Ak.length:Int)-1))))))))
theorem qom {w:qW} (hl:w.Ak.length≤1048576) (hr:((w.Bh.length:Int)==(w.Ak.length:Int))=true):Ev (fun n=>qe8 n w) (allN (treeB w) w.Ak.length):=by
 rw [beq_iff_eq] at hr
 have hL:Ev (fun n=>qaQ w n 0) (bif allN (treeB w) w.Ak.length then .nxt (w.Ak.length:Int) else .ret false):=by
  refine qd1 ?_ (fun j hj X hX=>Ev.succ ?_)
  ·exact Ev.succ (by simp only [qaQ,qp (jf _),cond_false];exact .done)
  ·simp only [qaQ,qn hj,cond_true,qbJ hj,je,qdv,wS j,bne,qbp]
   unfold treeB
   by_cases h0:j=0
   ·subst h0
    rw [show idx w.Bh (0:Int)=some (at0 w.Bh 0) from qbJ (j:=0) (by omega)]
    simp only [je]
    refine Ev.tt (by simp) (Ev.okP fun _=>Ev.okP1 fun _=>Ev.ff (by simp) hX)
   ·have e1:decide (j=0)=false:=by simp;omega
    have e2:((j:Int)==0)=false:=by simp;omega
    have e3:decide ((j:Int) > 0)=true:=by simp;omega
    rw [e1,e2,e3,qch (show j≤9223372036854775807 by omega)]
    simp only [cond_false,cond_true]
    exact Ev.okP1 fun _=>hX
 unfold qe8
 refine Ev.bind hL ?_
 cases allN (treeB w) w.Ak.length<;>exact .done
theorem qoI {w:qW} {s:Int} (h:qjP w):Ev (fun n=>qhh n w s) (wireB w s):=by
 have hl:=h.Ak.len
 simp only [qhh,qaW,je,qdv,qch (show w.Ak.length≤9223372036854775807 by omega)]
 unfold wireB
 rw [show inI (w.Ak.length:Int) 1 8=lenB w.Ak 1 8 from qmk (lo:=1) (hi:=8)]
 exact Ev.andP fun _=>Ev.andP fun hr=>Ev.andP fun _=>Ev.and (qom hl hr) fun _=>Ev.and (qek h.Bh.len) fun _=>Ev.and (qek h.Be.len) fun _=>Ev.andP fun _=>Ev.last (qek h.Ay.len)
theorem qnF {w:qW} {s:Int} (h:qjP w):Ev (fun n=>qho n w s) (wireB w s):=by
 have hl:=h.Ak.len
 have hsl:=h.Ay.len
 have e:wireB w s=((decide (1≤w.Ak.length)&&(decide (w.Ak.length≤8)&&(((w.Bh.length:Int)==(w.Ak.length:Int))&&(((w.Be.length:Int)==(w.Ak.length:Int))&&((w.Ay.length:Int)==s)))))&&(allN (fun j=>(inI (at0 w.Be j) 0 500&&inI (at0 w.Bh j) 0 1000)&&treeB w j) w.Ak.length&&(w.Ay.all fun x=>inI x 0 ((w.Ak.length:Int)-1)))):=by
  unfold wireB lenB
  cases h1:((w.Bh.length:Int)==(w.Ak.length:Int))
  ·simp
  ·cases h2:((w.Be.length:Int)==(w.Ak.length:Int))
   ·simp
   ·rw [beq_iff_eq] at h1 h2
    rw [qhx,qhx]
    rw [qfO (p:=fun x=>inI x 0 1000) (d:=0),qfO (p:=fun x=>inI x 0 500) (d:=0),show w.Bh.length=w.Ak.length by omega,show w.Be.length=w.Ak.length by omega]
    show _=(_&&((allN (fun j=>inI (w.Be.getD j 0) 0 500) _&&allN (fun j=>inI (w.Bh.getD j 0) 0 1000) _&&_)&&_))
    generalize allN (fun j=>inI (w.Be.getD j 0) 0 500) w.Ak.length=a1
    generalize allN (fun j=>inI (w.Bh.getD j 0) 0 1000) w.Ak.length=a2
    generalize allN (fun j=>treeB w j) w.Ak.length=a3
    generalize ((w.Ay.length:Int)==s)=a4
    generalize decide (1≤w.Ak.length)=a5
    generalize decide (w.Ak.length≤8)=a6
    generalize (w.Ay.all fun x=>inI x 0 ((w.Ak.length:Int)-1))=a7
    cases a1<;>cases a2<;>cases a3<;>cases a4<;>cases a5<;>cases a6<;>rfl
 rw [e]
 unfold qho
 refine Ev.guardB ?_ fun hb=>?_
 ·rw [show decide ((w.Ak.length:Int)<1) = !decide (1≤w.Ak.length) from qp8 (k:=1),show decide ((w.Ak.length:Int) > 8) = !decide (w.Ak.length≤8) from qn8 (k:=8)]
  simp only [bne,qbp]
  exact Ev.orBP fun _=>Ev.orBP fun _=>Ev.orBP fun _=>Ev.orBP fun _=>.done
 ·simp only [jh,beq_iff_eq] at hb
  have hL1:Ev (fun n=>qbX w n 0) (bif allN (fun j=>(inI (at0 w.Be j) 0 500&&inI (at0 w.Bh j) 0 1000)&&treeB w j) w.Ak.length then .nxt (w.Ak.length:Int) else .ret false):=by
   refine qd1 ?_ (fun j hj X hX=>Ev.succ ?_)
   ·exact Ev.succ (by simp only [qbX,qp (jf _),cond_false];exact .done)
   ·simp only [qbX,qn hj,cond_true,qbJ hj,qbJ (show j<w.Be.length by omega),qbJ (show j<w.Bh.length by omega),je,qdE,wS j,bne,qbp]
    refine Ev.chkT (Ev.orBP fun _=>.done) fun _=>?_
    unfold treeB
    by_cases h0:j=0
    ·subst h0
     refine Ev.tt (by simp) (Ev.okP fun _=>Ev.okP1 fun _=>Ev.ff (by simp) hX)
    ·have e1:decide (j=0)=false:=by simp;omega
     have e2:((j:Int)==0)=false:=by simp;omega
     have e3:decide ((j:Int) > 0)=true:=by simp;omega
     rw [e1,e2,e3,qch (show j≤9223372036854775807 by omega)]
     simp only [cond_false,cond_true]
     exact Ev.okP1 fun _=>hX
  have hL2:Ev (fun n=>qd6 w n 0) (bif (w.Ay.all fun x=>inI x 0 ((w.Ak.length:Int)-1)) then .nxt (w.Ay.length:Int) else .ret false) :=
   qiS (fun n=>by simp only [qd6,qp (jf _),cond_false]) (fun j hj X hX=>by
    simp only [qd6,qn hj,cond_true,qaq hj,je,qdE,qch (show w.Ak.length≤9223372036854775807 by omega),wS j,qbp]
    exact Ev.okP1 fun _=>hX)
  refine Ev.bind hL1 ?_
  cases allN (fun j=>(inI (at0 w.Be j) 0 500&&inI (at0 w.Bh j) 0 1000)&&treeB w j) w.Ak.length
  ·exact .done
  ·refine Ev.bind hL2 ?_
   cases (w.Ay.all fun x=>inI x 0 ((w.Ak.length:Int)-1))<;>exact .done
instance:Inhabited Tplace:=⟨⟨0,0,0,false⟩⟩
instance:Inhabited Tl05Place:=⟨⟨0,0,0,false⟩⟩
def toSp (p:Tplace):Tl05Place:=⟨p.instance_,p.pin,p.net,p.drives⟩
def plX (i:Nat) (x:qu) (j:Nat):List Tplace:=(List.range j).map fun (k:Nat)=>⟨(i:Int),(k:Int),at0 x.Aj k,decide (k+1=x.Aj.length)⟩
def plI (d:qg) (j:Nat):List Tplace:=(List.range j).flatMap fun (i:Nat)=>plX i (gt d.Ab i) (gt d.Ab i).Aj.length
def plP (d:qg) (j:Nat):List Tplace:=(List.range j).map fun (i:Nat)=>⟨-1,(i:Int),(gt d.Af i).Bn,(gt d.Af i).Bl==1⟩
def places (d:qg):List Tplace:=plI d d.Ab.length++plP d d.Af.length
theorem qng {i:Nat} {x:qu} {j:Nat}:plX i x (j+1)=plX i x j++[⟨(i:Int),(j:Int),at0 x.Aj j,decide (j+1=x.Aj.length)⟩]:=by
 unfold plX;rw [List.range_succ,List.map_append];rfl
theorem qio {d:qg} {j:Nat}:plI d (j+1)=plI d j++plX j (gt d.Ab j) (gt d.Ab j).Aj.length:=by
 unfold plI;rw [List.range_succ,List.flatMap_append];simp
theorem qna {d:qg} {j:Nat}:plP d (j+1)=plP d j++[⟨-1,(j:Int),(gt d.Af j).Bn,(gt d.Af j).Bl==1⟩]:=by
 unfold plP;rw [List.range_succ,List.map_append];rfl
theorem qkJ {i:Nat} {x:qu} {j:Nat}:(plX i x j).length=j:=by simp [plX]
theorem qkL {d:qg} {j:Nat}:(plP d j).length=j:=by simp [plP]
structure smallD (d:qg):Prop where
 ni:d.Ab.length≤14
 nn:d.Aj.length≤30
 np:d.Af.length≤8
 nx:∀ i,i<d.Ab.length→2≤(gt d.Ab i).Aj.length∧(gt d.Ab i).Aj.length≤5
theorem qI {l:qj} {d:qg} (h:designB l d=true):smallD d:=by
 unfold designB hasNamesB libB at h
 simp only [jh,decide_eq_true_eq] at h
 obtain ⟨⟨⟨hc,_⟩,⟨h1,h2,h3⟩,_⟩,hI,_⟩:=h
 refine ⟨h1,h2,h3,fun i hi=>?_⟩
 rw [qgz,qai] at hI hc
 have:=hI i hi
 unfold instB at this
 simp only [jh,qbv,beq_iff_eq] at this
 have h5:=qgY (qlo (hc (gt d.Ab i).Ba.toNat (by omega)))
 omega
theorem qjD {d:qg} (h:smallD d) {j:Nat} (hj:j≤d.Ab.length):(plI d j).length≤5*j:=by
 induction j with
 | zero=>exact jf _
 | succ j ih =>
  rw [qio,jg,qkJ]
  have:=ih (by omega)
  have:=h.nx j (by omega)
  omega
theorem qaz {d:qg} (h:smallD d):(places d).length≤78:=by
 unfold places
 rw [jg,qkL]
 have:=qjD h (jf _)
 have:=h.ni
 have:=h.np
 omega
theorem qhJ {d:qg} (h:smallD d):Ev (fun n=>qbj n d) (places d):=by
 have h1:=h.ni
 have h2:=h.np
 have hL2:∀ i,i<d.Ab.length→∀ pre:List Tplace,pre.length≤100→Ev (fun n=>qa8 (i:Int) (gt d.Ab i) n pre 0) (pre++plX i (gt d.Ab i) (gt d.Ab i).Aj.length,((gt d.Ab i).Aj.length:Int)):=by
  intro i hi pre hp
  have h5:=h.nx i hi
  have:=loopF (Lf:=qa8 (i:Int) (gt d.Ab i)) (S:=fun j=>pre++plX i (gt d.Ab i) j) (len:=(gt d.Ab i).Aj.length) (fin:=(pre++plX i (gt d.Ab i) (gt d.Ab i).Aj.length,((gt d.Ab i).Aj.length:Int))) (fun n=>by
    simp only [qa8,qp (jf _),cond_false])
   (fun j hj X hX=>by
    have hc:(pre++plX i (gt d.Ab i) j).length+[(⟨(i:Int),(j:Int),at0 (gt d.Ab i).Aj j,decide (j+1=(gt d.Ab i).Aj.length)⟩:Tplace)].length≤2147483648:=by
     rw [jg,qkJ];simp;omega
    simp only [qa8,qn hj,cond_true,qbJ hj,je,lastE hj (show (gt d.Ab i).Aj.length≤1048576 by omega),qbN hc,jI,←qng,wS j]
    exact hX)
  simpa [plX] using this
 have hL1:Ev (fun n=>qa9 d n ([]:List Tplace) 0) (plI d d.Ab.length,(d.Ab.length:Int)):=by
  refine loopF (Lf:=qa9 d) (S:=fun j=>plI d j) (len:=d.Ab.length) (fun n=>?_) (fun j hj X hX=>?_)
  ·simp only [qa9,qp (jf _),cond_false]
  ·simp only [qa9,qn hj,cond_true,qab hj,je,wS j]
   refine Ev.bind (hL2 j hj _ (by have:=qjD h (Nat.le_of_lt hj);omega)) ?_
   rw [←qio]
   exact hX
 have hL3:Ev (fun n=>qba d n (plI d d.Ab.length) 0) (places d,(d.Af.length:Int)):=by
  have:=loopF (Lf:=qba d) (S:=fun j=>plI d d.Ab.length++plP d j) (len:=d.Af.length) (fin:=(places d,(d.Af.length:Int))) (fun n=>by
    simp only [qba,qp (jf _),cond_false];rfl)
   (fun j hj X hX=>by
    have hc:(plI d d.Ab.length++plP d j).length+[(⟨-1,(j:Int),(gt d.Af j).Bn,(gt d.Af j).Bl==1⟩:Tplace)].length≤2147483648:=by
     rw [jg,qkL];have:=qjD h (jf _);simp;omega
    simp only [qba,qn hj,cond_true,qab hj,je,qbN hc,jI,←qna,wS j]
    exact hX)
  simpa [plP] using this
 unfold qbj
 exact Ev.bind hL1 (Ev.bind hL3 .done)
theorem qeR {d:qg} (h:smallD d):Ev (fun n=>qbS n d) ((places d).map toSp):=by
 have h1:=h.ni
 have h2:=h.np
 have hL2:∀ i,i<d.Ab.length→∀ pre:List Tplace,pre.length≤100→Ev (fun n=>qbU (i:Int) (gt d.Ab i) n (pre.map toSp) 0) ((pre++plX i (gt d.Ab i) (gt d.Ab i).Aj.length).map toSp,((gt d.Ab i).Aj.length:Int)):=by
  intro i hi pre hp
  have h5:=h.nx i hi
  have:=loopF (Lf:=qbU (i:Int) (gt d.Ab i)) (S:=fun j=>(pre++plX i (gt d.Ab i) j).map toSp) (len:=(gt d.Ab i).Aj.length) (fin:=((pre++plX i (gt d.Ab i) (gt d.Ab i).Aj.length).map toSp,((gt d.Ab i).Aj.length:Int))) (fun n=>by
    simp only [qbU,qp (jf _),cond_false])
   (fun j hj X hX=>by
    have hc:((pre++plX i (gt d.Ab i) j).map toSp).length+[(⟨(i:Int),(j:Int),at0 (gt d.Ab i).Aj j,decide (j+1=(gt d.Ab i).Aj.length)⟩:Tl05Place)].length≤2147483648:=by
     rw [jy,jg,qkJ];simp;omega
    simp only [qbU,qn hj,cond_true,qbJ hj,je,lastE hj (show (gt d.Ab i).Aj.length≤1048576 by omega),qbN hc,wS j]
    rw [qng,←jI,List.map_append] at hX
    exact hX)
  simpa [plX] using this
 have hL1:Ev (fun n=>qbM d n ([]:List Tl05Place) 0) ((plI d d.Ab.length).map toSp,(d.Ab.length:Int)):=by
  refine loopF (Lf:=qbM d) (S:=fun j=>(plI d j).map toSp) (len:=d.Ab.length) (fun n=>?_) (fun j hj X hX=>?_)
  ·simp only [qbM,qp (jf _),cond_false]
  ·simp only [qbM,qn hj,cond_true,qab hj,je,wS j]
   refine Ev.bind (hL2 j hj _ (by have:=qjD h (Nat.le_of_lt hj);omega)) ?_
   rw [←qio]
   exact hX
 have hL3:Ev (fun n=>qbT d n ((plI d d.Ab.length).map toSp) 0) ((places d).map toSp,(d.Af.length:Int)):=by
  have:=loopF (Lf:=qbT d) (S:=fun j=>(plI d d.Ab.length++plP d j).map toSp) (len:=d.Af.length) (fin:=((places d).map toSp,(d.Af.length:Int))) (fun n=>by
    simp only [qbT,qp (jf _),cond_false];rfl)
   (fun j hj X hX=>by
    have hc:((plI d d.Ab.length++plP d j).map toSp).length+[(⟨-1,(j:Int),(gt d.Af j).Bn,(gt d.Af j).Bl==1⟩:Tl05Place)].length≤2147483648:=by
     rw [jy,jg,qkL];have:=qjD h (jf _);simp;omega
    simp only [qbT,qn hj,cond_true,qab hj,je,qbN hc,wS j]
    rw [qna,←jI,List.map_append] at hX
    exact hX)
  simpa [plP] using this
 unfold qbS
 exact Ev.bind hL1 (Ev.bind hL3 .done)
def snkQ (d:qg) (k:Int) (i:Nat):Bool:=((gt (places d) i).net==k)&&!(gt (places d) i).drives
def sinksL (d:qg) (k:Int) (j:Nat):List Int:=((List.range j).filter (snkQ d k)).map fun (i:Nat)=>(i:Int)
def snkN (d:qg) (k:Int):Nat:=cntP (snkQ d k) (places d).length
theorem qiU {d:qg} {k:Int} {j:Nat}:sinksL d k (j+1)=sinksL d k j++(bif snkQ d k j then [(j:Int)] else []):=by
 unfold sinksL
 rw [List.range_succ,List.filter_append,List.map_append]
 congr 1
 cases h:snkQ d k j<;>simp [h]
theorem qeO {d:qg} {k:Int} {j:Nat}:(sinksL d k j).length=cntP (snkQ d k) j:=by
 induction j with
 | zero=>rfl
 | succ j ih =>
  rw [qiU,jg,ih]
  show _=cntP (snkQ d k) j+_
  congr 1
  cases snkQ d k j<;>rfl
theorem qj5 {α β:Type} [Inhabited α] [Inhabited β] {xs:List α} {g:α→β} {j:Nat} (h:j<xs.length):gt (xs.map g) j=g (gt xs j):=by
 rw [qgE (by simpa using h),qgE h];simp
theorem qis {d:qg} {k:Int} (h:smallD d):Ev (fun n=>qes n d k) (sinksL d k (places d).length):=by
 have hl:=qaz h
 have hL:Ev (fun n=>qbC k ((places d).map toSp) n ([]:List Int) 0) (sinksL d k (places d).length,((places d).length:Int)):=by
  refine loopF (Lf:=qbC k ((places d).map toSp)) (S:=fun j=>sinksL d k j) (len:=(places d).length) (fun n=>?_) (fun j hj X hX=>?_)
  ·simp only [qbC,jy,qp (jf _),cond_false]
  ·have hj':j<((places d).map toSp).length:=by simpa using hj
   have hc:(sinksL d k j).length+[(j:Int)].length≤2147483648:=by
    rw [qeO]
    have:cntP (snkQ d k) j≤j:=qdY
    simp;omega
   simp only [qbC,qn hj',cond_true,qab hj',qj5 hj,je,wS j]
   rw [show ∀ p:Tplace,(toSp p).net=p.net from fun _=>rfl,show ∀ p:Tplace,(toSp p).drives=p.drives from fun _=>rfl]
   refine Ev.bind (b:=snkQ d k j) (Ev.andP fun _=>.done) ?_
   rw [qiU] at hX
   cases hq:snkQ d k j
   ·rw [hq] at hX
    simp only [cond_false,jR] at hX ⊢
    exact hX
   ·rw [hq] at hX
    simp only [cond_true,qbN hc,je] at hX ⊢
    exact hX
 unfold qes
 exact Ev.bind (qeR h) (Ev.bind hL .done)
theorem qib {l:qj} {d:qg} (h:designB l d=true) {i:Nat} (hi:i<(places d).length):0≤(gt (places d) i).net∧(gt (places d) i).net<d.Aj.length:=by
 unfold designB at h
 simp only [jh] at h
 obtain ⟨_,hI,hP,_⟩:=h
 rw [qgz,qai] at hI hP
 have hm:gt (places d) i ∈ places d:=by rw [qgE hi];exact jr hi
 generalize gt (places d) i=p at hm
 unfold places at hm
 rcases List.mem_append.1 hm with hm|hm
 ·unfold plI at hm
  obtain ⟨i,hi,hm⟩:=List.mem_flatMap.1 hm
  unfold plX at hm
  obtain ⟨k,hk,rfl⟩:=List.mem_map.1 hm
  have:=hI i (List.mem_range.1 hi)
  unfold instB at this
  simp only [jh] at this
  have h3:=this.2.2
  rw [qfO (d:=0),qai] at h3
  have h4:=h3 k (List.mem_range.1 hk)
  unfold netB at h4
  rw [qbv] at h4
  show 0≤at0 _ _∧at0 _ _<_
  unfold at0
  omega
 ·unfold plP at hm
  obtain ⟨i,hi,rfl⟩:=List.mem_map.1 hm
  have:=hP i (List.mem_range.1 hi)
  unfold portB netB at this
  simp only [jh,qbv] at this
  show 0≤(gt d.Af i).Bn∧(gt d.Af i).Bn<_
  omega
def blockB (b:qc):Bool:=(designB b.Ac b.Aa&&((b.Ah.length:Int)==(b.Aa.Aj.length:Int)))&&allN (fun j=>wireB (gt b.Ah j) (snkN b.Aa (j:Int))) b.Ah.length
theorem qh8 {b:qc} (h:qaI b):Ev (fun n=>qff n b) (blockB b):=by
 have hwl:=h.Ah.len
 unfold qff blockB
 refine Ev.guardB (Ev.or (qmB h.Ac h.Aa) fun _=>.done) fun hb=>?_
 rw [jh,beq_iff_eq] at hb
 obtain ⟨hd,hw⟩:=hb
 have hs:=qI hd
 have hl:=qaz hs
 have hn:=hs.nn
 rw [qi7 (m:=b.Ah.length) (by omega)]
 simp only [je]
 have hL1:Ev (fun n=>qb9 (places b.Aa) n (vecC (fun _=>0) b.Ah.length) 0) (vecC (fun k=>snkN b.Aa (k:Int)) b.Ah.length,((places b.Aa).length:Int)):=by
  refine loopF (Lf:=qb9 (places b.Aa)) (S:=fun j=>vecC (fun k=>cntP (snkQ b.Aa (k:Int)) j) b.Ah.length) (len:=(places b.Aa).length) (fun n=>?_) (fun j hj X hX=>?_)
  ·simp only [qb9,qp (jf _),cond_false];rfl
  ·simp only [qb9,qn hj,cond_true,qab hj,je,wS j]
   obtain ⟨n0,n1⟩:=qib hd hj
   cases h1:(gt (places b.Aa) j).drives
   ·have hc:cntP (snkQ b.Aa (((gt (places b.Aa) j).net.toNat:Nat):Int)) j≤j:=qdY
    obtain ⟨e1,e2⟩:=qhD (c:=fun k=>cntP (snkQ b.Aa (k:Int)) j) (c':=fun k=>cntP (snkQ b.Aa (k:Int)) (j+1)) (x:=(gt (places b.Aa) j).net) (m:=b.Ah.length) n0 (by omega) (by show cntP _ _<_;omega) (fun k _=>by
     show cntP _ j+(bif snkQ b.Aa (k:Int) j then 1 else 0)=_
     unfold snkQ
     rw [h1,Bool.not_false,Bool.and_true])
    simp only [Bool.not_false,cond_true,je,e1,e2]
    exact hX
   ·have:vecC (fun k=>cntP (snkQ b.Aa (k:Int)) (j+1)) b.Ah.length=vecC (fun k=>cntP (snkQ b.Aa (k:Int)) j) b.Ah.length:=by
     refine qg7 (fun k _=>?_)
     show cntP _ j+(bif snkQ b.Aa (k:Int) j then 1 else 0)=_
     unfold snkQ
     rw [h1,jU,Bool.and_false];rfl
    rw [this] at hX
    exact hX
 have hL2:Ev (fun n=>qdy b (vecC (fun k=>snkN b.Aa (k:Int)) b.Ah.length) n 0) (bif allN (fun j=>wireB (gt b.Ah j) (snkN b.Aa (j:Int))) b.Ah.length then .nxt (b.Ah.length:Int) else .ret false):=by
  refine qd1 ?_ (fun j hj X hX=>Ev.succ ?_)
  ·exact Ev.succ (by simp only [qdy,qp (jf _),cond_false];exact .done)
  ·simp only [qdy,qn hj,cond_true,qab hj,qgZ hj,je,wS j]
   exact Ev.chk1 (qoI (qg6 h.Ah hj)) fun _=>hX
 refine Ev.bind (qhJ hs) (Ev.bind hL1 (Ev.bind hL2 ?_))
 cases allN (fun j=>wireB (gt b.Ah j) (snkN b.Aa (j:Int))) b.Ah.length<;>exact .done
theorem qks {b:qc} (h:qaI b):Ev (fun n=>qfY n b) (blockB b):=by
 have hwl:=h.Ah.len
 unfold qfY blockB
 refine Ev.guardB (Ev.or (qgP h.Ac h.Aa) fun _=>.done) fun hb=>?_
 rw [jh] at hb
 have hs:=qI hb.1
 have hL:Ev (fun n=>qdz b n 0) (bif allN (fun j=>wireB (gt b.Ah j) (snkN b.Aa (j:Int))) b.Ah.length then .nxt (b.Ah.length:Int) else .ret false):=by
  refine qd1 ?_ (fun j hj X hX=>Ev.succ ?_)
  ·exact Ev.succ (by simp only [qdz,qp (jf _),cond_false];exact .done)
  ·simp only [qdz,qn hj,cond_true,qab hj,je,wS j]
   refine Ev.bind (qis hs) ?_
   rw [qeO]
   exact Ev.chk1 (qnF (qg6 h.Ah hj)) fun _=>hX
 refine Ev.bind hL ?_
 cases allN (fun j=>wireB (gt b.Ah j) (snkN b.Aa (j:Int))) b.Ah.length<;>exact .done
end Go.Fw


namespace Go.Fw
open Go
set_option maxRecDepth 100000
def off (d:qg) (i:Nat):Nat:=(plI d i).length
def place1 (d:qg) (i k:Nat):Tplace:=⟨(i:Int),(k:Int),at0 (gt d.Ab i).Aj k,decide (k+1=(gt d.Ab i).Aj.length)⟩
def place2 (d:qg) (i:Nat):Tplace:=⟨-1,(i:Int),(gt d.Af i).Bn,(gt d.Af i).Bl==1⟩
theorem qjI {d:qg} {i:Nat}:off d (i+1)=off d i+(gt d.Ab i).Aj.length:=by
 unfold off;rw [qio,jg,qkJ]
theorem qhg {d:qg}:(places d).length=off d d.Ab.length+d.Af.length:=by
 unfold places off;rw [jg,qkL]
theorem qqB {d:qg} {n i k:Nat} (hi:i<n) (hk:k<(gt d.Ab i).Aj.length):off d i+k<off d n∧gt (plI d n) (off d i+k)=place1 d i k:=by
 induction n with
 | zero=>omega
 | succ n ih =>
  rw [qio,qkg]
  rcases Nat.lt_succ_iff_lt_or_eq.1 hi with h|rfl
  ·obtain ⟨h1,h2⟩:=ih h
   refine ⟨by rw [qjI];omega,?_⟩
   rw [if_pos (show off d i+k<(plI d n).length from h1),h2]
  ·refine ⟨by rw [qjI];omega,?_⟩
   rw [if_neg (by unfold off;omega),show off d i+k-(plI d i).length=k by unfold off;omega]
   exact qmE hk
theorem qhP {d:qg} {i k:Nat} (hi:i<d.Ab.length) (hk:k<(gt d.Ab i).Aj.length):off d i+k<(places d).length∧gt (places d) (off d i+k)=place1 d i k:=by
 obtain ⟨h1,h2⟩:=qqB hi hk
 refine ⟨by rw [qhg];omega,?_⟩
 unfold places
 rw [qkg,if_pos (show off d i+k<(plI d d.Ab.length).length from h1),h2]
theorem ql4 {d:qg} {i:Nat} (hi:i<d.Af.length):off d d.Ab.length+i<(places d).length∧gt (places d) (off d d.Ab.length+i)=place2 d i:=by
 refine ⟨by rw [qhg];omega,?_⟩
 unfold places
 rw [qkg,if_neg (by unfold off;omega),show off d d.Ab.length+i-(plI d d.Ab.length).length=i by unfold off;omega]
 exact qmE hi
theorem qoG {d:qg} {n j:Nat} (hj:j<off d n):∃ i k,i<n∧k<(gt d.Ab i).Aj.length∧j=off d i+k:=by
 induction n with
 | zero=>exact absurd hj (Nat.not_lt_zero _)
 | succ n ih =>
  by_cases h:j<off d n
  ·obtain ⟨i,k,h1,h2,h3⟩:=ih h
   exact ⟨i,k,by omega,h2,h3⟩
  ·rw [qjI] at hj
   exact ⟨n,j-off d n,by omega,by omega,by omega⟩
theorem qc0 {d:qg} {j:Nat} (hj:j<(places d).length) :
  (∃ i k,i<d.Ab.length∧k<(gt d.Ab i).Aj.length∧j=off d i+k∧gt (places d) j=place1 d i k) ∨
  (∃ i,i<d.Af.length∧j=off d d.Ab.length+i∧gt (places d) j=place2 d i):=by
 rw [qhg] at hj
 by_cases h:j<off d d.Ab.length
 ·obtain ⟨i,k,h1,h2,rfl⟩:=qoG h
  exact .inl ⟨i,k,h1,h2,rfl,(qhP h1 h2).2⟩
 ·refine .inr ⟨j-off d d.Ab.length,by omega,by omega,?_⟩
  have:=(ql4 (d:=d) (i:=j-off d d.Ab.length) (by omega)).2
  rwa [show off d d.Ab.length+(j-off d d.Ab.length)=j by omega] at this
def drvQ (d:qg) (k:Int) (j:Nat):Bool:=((gt (places d) j).net==k)&&(gt (places d) j).drives
theorem qm9 {q:Nat→Bool} {m n:Nat}:cntP q (m+n)=cntP q m+cntP (fun j=>q (m+j)) n:=by
 induction n with
 | zero=>rfl
 | succ n ih =>
  show cntP q (m+n)+(bif q (m+n) then 1 else 0)=cntP q m+(cntP (fun j=>q (m+j)) n+(bif q (m+n) then 1 else 0))
  rw [ih];omega
theorem qod {q:Nat→Bool} {n:Nat} {b:Bool} (h:1≤n) (h1:∀ j,j+1<n→q j=false) (h2:q (n-1)=b):cntP q n=bif b then 1 else 0:=by
 obtain ⟨m,rfl⟩:∃ m,n=m+1:=⟨n-1,by omega⟩
 show cntP q m+(bif q m then 1 else 0)=_
 rw [qkb.2 (fun j hj=>h1 j (by omega)),show m=m+1-1 by omega,h2,jW]
theorem qnM {d:qg} {k:Nat} (hs:smallD d):cntP (drvQ d (k:Int)) (places d).length=drvI d k d.Ab.length+drvP d k d.Af.length:=by
 rw [qhg,qm9]
 congr 1
 ·have:∀ n,n≤d.Ab.length→cntP (drvQ d (k:Int)) (off d n)=drvI d k n:=by
   intro n
   induction n with
   | zero=>intro _;rfl
   | succ n ih =>
    intro hn
    rw [qjI,qm9,ih (by omega),qj1]
    congr 1
    have h2:=(hs.nx n (by omega)).1
    refine qod (by omega) (fun j hj=>?_) ?_
    ·show drvQ d _ (off d n+j)=false
     unfold drvQ
     rw [(qhP (by omega) (by omega)).2]
     unfold place1
     simp;omega
    ·show drvQ d _ (off d n+_)=_
     unfold drvQ
     rw [(qhP (by omega) (by omega)).2]
     unfold place1 lastN
     simp;omega
  exact this _ (jf _)
 ·refine qnG (fun j hj=>?_)
  show drvQ d _ (off d _+j)=_
  unfold drvQ
  rw [(ql4 hj).2]
  unfold place2
  exact Bool.and_comm _ _
theorem qn2 {l:qj} {d:qg} (h:designB l d=true) {k:Nat} (hk:k<d.Aj.length):cntP (drvQ d (k:Int)) (places d).length=1:=by
 rw [qnM (qI h)]
 unfold designB drvB at h
 simp only [jh] at h
 have:=qai.1 h.2.2.2 k hk
 rw [beq_iff_eq] at this
 omega
theorem qm4 {l:qj} {d:qg} (h:designB l d=true) {i j:Nat} (hi:i<(places d).length) (hj:j<(places d).length) (he:(gt (places d) i).net=(gt (places d) j).net) (h1:(gt (places d) i).drives=true) (h2:(gt (places d) j).drives=true):i=j:=by
 obtain ⟨n0,n1⟩:=qib h hi
 have e:=qh3 n0
 have:=qn2 h (k:=(gt (places d) i).net.toNat) (by omega)
 refine qnj (Nat.le_of_eq this) hi hj ?_ ?_
 ·unfold drvQ;rw [←e,h1];simp
 ·unfold drvQ;rw [←e,h2,he];simp
theorem qqx {l:qj} {d:qg} (h:designB l d=true) {k:Int} (h0:0≤k) (h1:k<d.Aj.length):∃ j,j<(places d).length∧(gt (places d) j).net=k∧(gt (places d) j).drives=true:=by
 have e:=qh3 h0
 have:=qn2 h (k:=k.toNat) (by omega)
 have hp:decide (0<cntP (drvQ d ((k.toNat:Nat):Int)) (places d).length)=true:=by rw [this];rfl
 rw [qmH,jH,qh0] at hp
 obtain ⟨j,hj,hq⟩:=hp
 rw [Bool.not_eq_false',←e] at hq
 unfold drvQ at hq
 simp only [jh,beq_iff_eq] at hq
 exact ⟨j,hj,hq.1,hq.2⟩
def cellAt (b:qc) (i:Int):qr:=gt b.Ac.Ai (gt b.Aa.Ab i.toNat).Ba.toNat
theorem qfa {l:qj} {d:qg} (h:designB l d=true) {i:Nat} (hi:i<d.Ab.length) :
  (0≤(gt d.Ab i).Ba∧(gt d.Ab i).Ba<l.Ai.length)∧(gt d.Ab i).Aj.length=(gt l.Ai (gt d.Ab i).Ba.toNat).Aq.length∧cellB (gt l.Ai (gt d.Ab i).Ba.toNat)=true:=by
 unfold designB libB at h
 simp only [jh] at h
 obtain ⟨⟨⟨hc,_⟩,_⟩,hI,_⟩:=h
 rw [qgz,qai] at hI hc
 have:=hI i hi
 unfold instB at this
 simp only [jh,qbv,beq_iff_eq] at this
 exact ⟨⟨this.1.1,by omega⟩,by omega,hc _ (by omega)⟩
theorem qlj {c:qr} (h:cellB c=true):c.Ar.length≤8:=by
 unfold cellB at h
 simp only [jh,decide_eq_true_eq] at h
 exact h.2.2.1.2
theorem qae {b:qc} (h:blockB b=true):designB b.Ac b.Aa=true:=by
 unfold blockB at h;simp only [jh] at h;exact h.1.1
end Go.Fw


namespace Go.Fw
open Go
set_option maxRecDepth 100000
theorem ql5 {d:qg} {k:Int} {n i:Nat} (hi:i<(sinksL d k n).length):∃ y:Nat,y<n∧idx (sinksL d k n) (i:Int)=some (y:Int)∧snkQ d k y=true:=by
 rw [qaq hi]
 have hm:(sinksL d k n)[i] ∈ sinksL d k n:=jr hi
 generalize (sinksL d k n)[i]=z at hm
 unfold sinksL at hm
 obtain ⟨y,hy,rfl⟩:=List.mem_map.1 hm
 obtain ⟨h1,h2⟩:=List.mem_filter.1 hy
 exact ⟨y,List.mem_range.1 h1,rfl,h2⟩
theorem qlv {d:qg} {k:Int} (h:smallD d):Ev (fun n=>qeA n d k) (sinksL d k (places d).length):=by
 have hl:=qaz h
 have hL:Ev (fun n=>qaF k (places d) n ([]:List Int) 0) (sinksL d k (places d).length,((places d).length:Int)):=by
  refine loopF (Lf:=qaF k (places d)) (S:=fun j=>sinksL d k j) (len:=(places d).length) (fun n=>?_) (fun j hj X hX=>?_)
  ·simp only [qaF,qp (jf _),cond_false]
  ·have hc:(sinksL d k j).length+[(j:Int)].length≤2147483648:=by
    rw [qeO]
    have:cntP (snkQ d k) j≤j:=qdY
    simp;omega
   simp only [qaF,qn hj,cond_true,qab hj,je,wS j]
   rw [qiU] at hX
   unfold snkQ at hX
   cases h1:((gt (places d) j).net==k)
   ·rw [h1] at hX
    simp only [Bool.false_and,cond_false,jR] at hX ⊢
    exact hX
   ·cases h2:(gt (places d) j).drives
    ·rw [h1,h2] at hX
     simp only [Bool.not_false,Bool.and_self,cond_true,qbN hc,je] at hX ⊢
     exact hX
    ·rw [h1,h2] at hX
     simp only [jU,Bool.and_false,cond_false,jR,cond_true] at hX ⊢
     exact hX
 unfold qeA
 exact Ev.bind (qhJ h) (Ev.bind hL .done)
structure wireOk (b:qc) (i:Nat):Prop where
 lo:1≤(gt b.Ah i).Ak.length
 hi:(gt b.Ah i).Ak.length≤8
 res:(gt b.Ah i).Bh.length=(gt b.Ah i).Ak.length
 cap:(gt b.Ah i).Be.length=(gt b.Ah i).Ak.length
 par:∀ j,0<j→j<(gt b.Ah i).Ak.length→0≤at0 (gt b.Ah i).Ak j∧at0 (gt b.Ah i).Ak j<j
 snk:(gt b.Ah i).Ay.length=(sinksL b.Aa (i:Int) (places b.Aa).length).length
 sin:∀ j,j<(gt b.Ah i).Ay.length→0≤at0 (gt b.Ah i).Ay j∧at0 (gt b.Ah i).Ay j<(gt b.Ah i).Ak.length
theorem qir {b:qc} (h:blockB b=true) {i:Nat} (hi:i<b.Ah.length):wireOk b i:=by
 unfold blockB at h
 rw [jh,qai] at h
 have:=h.2 i hi
 unfold wireB lenB at this
 simp only [jh,decide_eq_true_eq,beq_iff_eq] at this
 obtain ⟨⟨h1,h2⟩,h3,h4,h5,_,_,h6,h7⟩:=this
 refine ⟨h1,h2,by omega,by omega,fun j hj0 hj=>?_,?_,fun j hj=>?_⟩
 ·have:=qai.1 h5 j hj
  unfold treeB at this
  rw [show decide (j=0)=false by simp;omega] at this
  simp only [cond_false,qbv] at this
  omega
 ·rw [qeO]
  unfold snkN at h6
  omega
 ·rw [qfO (d:=0),qai] at h7
  have:=h7 j hj
  rw [qbv] at this
  unfold at0
  omega
theorem qnv {b:qc} (h:blockB b=true):b.Ah.length=b.Aa.Aj.length:=by
 unfold blockB at h
 simp only [jh,beq_iff_eq] at h
 omega
theorem qpx {b:qc} (h:blockB b=true) {j:Nat} (hj:j<(places b.Aa).length):∃ c,∀ n,qez n b.Aa b.Ac (gt (places b.Aa) j)=some c:=by
 have hd:=qae h
 rcases qc0 hj with ⟨i,k,hi,hk,_,e⟩|⟨i,hi,_,e⟩
 ·rw [e]
  obtain ⟨⟨c0,c1⟩,hn,_⟩:=qfa hd hi
  refine ⟨(gt (gt b.Ac.Ai (gt b.Aa.Ab i).Ba.toNat).Aq k).Be,fun n=>?_⟩
  unfold place1
  simp only [qez,show decide ((i:Int)<0)=false by simp,cond_false,qab hi,je,qeN c0 c1,qab (show k<(gt b.Ac.Ai (gt b.Aa.Ab i).Ba.toNat).Aq.length by omega)]
 ·rw [e]
  exact ⟨0,fun n=>rfl⟩
theorem qjO {b:qc} (h:blockB b=true) {i:Nat} (hi:i<b.Ah.length):∃ r:List Int,r.length=(gt b.Ah i).Ak.length∧Ev (fun n=>qcx n b (i:Int)) r:=by
 have hw:=qir h hi
 have hs:=qI (qae h)
 have hlo:=hw.lo
 have hhi:=hw.hi
 have hcap:=hw.cap
 have hl:=qaz hs
 obtain ⟨x1,i1,e1⟩:=loopE (Lf:=qbe b (gt b.Ah i) (places b.Aa) (sinksL b.Aa (i:Int) (places b.Aa).length)) (fin:=fun t=>(t,((sinksL b.Aa (i:Int) (places b.Aa).length).length:Int))) (fun _ t=>t.length=(gt b.Ah i).Ak.length) (len:=(sinksL b.Aa (i:Int) (places b.Aa).length).length)
  (fun n t=>by simp only [qbe,qp (jf _),cond_false])
  (fun j t hj ht=>by
   obtain ⟨y,hy,ey,_⟩:=ql5 hj
   obtain ⟨c,hc⟩:=qpx h hy
   have hjs:j<(gt b.Ah i).Ay.length:=by rw [hw.snk];exact hj
   have hsn:=hw.sin j hjs
   have hb:j<9223372036854775807:=by
    rw [qeO] at hj
    have:cntP (snkQ b.Aa (i:Int)) (places b.Aa).length≤(places b.Aa).length:=qdY
    omega
   refine ⟨setS t (at0 (gt b.Ah i).Ay j) (W64 (gt t (at0 (gt b.Ah i).Ay j).toNat+c)),by rw [qcy];exact ht,fun X hX=>?_⟩
   simp only [qbe,qn hj,cond_true,ey,je,qbJ hjs,qeN hsn.1 (show at0 (gt b.Ah i).Ay j<(t.length:Int) by omega),qab hy,qfk hb]
   exact Ev.bind ⟨0,fun n _=>hc n⟩ hX) 0 (jB _) (gt b.Ah i).Be hcap
 obtain ⟨x2,i2,e2⟩:=loopDn (Lf:=qbf (gt b.Ah i)) (fin:=fun t=>(t,(0:Int))) (fun t=>t.length=(gt b.Ah i).Ak.length) ((gt b.Ah i).Ak.length-1)
  (fun n t=>by simp only [qbf,show decide ((0:Int) > 0)=false from rfl,cond_false])
  (fun j t h0 hj ht=>by
   have hp:=hw.par j h0 (by omega)
   refine ⟨setS t (at0 (gt b.Ah i).Ak j) (W64 (gt t (at0 (gt b.Ah i).Ak j).toNat+gt t j)),by rw [qcy];exact ht,fun X hX=>?_⟩
   simp only [qbf,show decide ((j:Int) > 0)=true by simp;omega,cond_true,qbJ (show j<(gt b.Ah i).Ak.length by omega),je,qeN hp.1 (show at0 (gt b.Ah i).Ak j<(t.length:Int) by omega),qab (show j<t.length by omega),show (j:Int)-1=((j-1:Nat):Int) by omega,qaE (show -9223372036854775808≤((j-1:Nat):Int) by omega) (by omega)]
   exact hX) x1 i1
 refine ⟨x2,i2,?_⟩
 unfold qcx qfw
 rw [qab hi]
 simp only [je,qbN (show ([]:List Int).length+(gt b.Ah i).Be.length≤2147483648 by simp;omega),List.nil_append]
 refine Ev.bind (qhJ hs) (Ev.bind (qlv hs) (Ev.bind e1 ?_))
 rw [qch (show (gt b.Ah i).Be.length≤9223372036854775807 by omega),show ((gt b.Ah i).Be.length:Int)-1=(((gt b.Ah i).Ak.length-1:Nat):Int) by omega]
 exact Ev.bind e2 .done
theorem qkR {b:qc} (h:blockB b=true) {i:Nat} (hi:i<b.Ah.length):∃ r:List Int,r.length=(gt b.Ah i).Ay.length∧Ev (fun n=>qcW n b (i:Int)) r:=by
 have hw:=qir h hi
 have hs:=qI (qae h)
 have hlo:=hw.lo
 have hhi:=hw.hi
 have hres:=hw.res
 have hl:=qaz hs
 have hsl:(gt b.Ah i).Ay.length≤78:=by
  rw [hw.snk,qeO]
  have:cntP (snkQ b.Aa (i:Int)) (places b.Aa).length≤(places b.Aa).length:=qdY
  omega
 obtain ⟨r1,l1,e1⟩:=qjO h hi
 have hmk:mkS (r1.length:Int) (0:Int)=some (List.replicate r1.length 0):=qpQ (by omega)
 obtain ⟨x2,i2,e2⟩:=loopE (Lf:=qa4 (gt b.Ah i) r1 (List.replicate r1.length 0)) (fin:=fun t=>(t,(r1.length:Int))) (fun j t=>1≤j∧t.length=(gt b.Ah i).Ak.length) (len:=r1.length)
  (fun n t=>by simp only [qa4,List.length_replicate,qp (jf _),cond_false])
  (fun j t hj ht=>by
   obtain ⟨h1,ht⟩:=ht
   have hp:=hw.par j (by omega) (by omega)
   refine ⟨setS t (j:Int) (W64 (gt t (at0 (gt b.Ah i).Ak j).toNat+W64 (at0 (gt b.Ah i).Bh j*gt r1 j))),⟨by omega,by rw [qcy];exact ht⟩,fun X hX=>?_⟩
   simp only [qa4,List.length_replicate,qn hj,cond_true,qbJ (show j<(gt b.Ah i).Ak.length by omega),je,qeN hp.1 (show at0 (gt b.Ah i).Ak j<(t.length:Int) by omega),qbJ (show j<(gt b.Ah i).Bh.length by omega),qab hj,qab (show j<t.length by omega),wS j]
   exact hX) 1 (by omega) (List.replicate r1.length 0) ⟨jf _,by rw [List.length_replicate];exact l1⟩
 obtain ⟨x3,i3,e3⟩:=loopE (Lf:=qaZ x2 (gt b.Ah i)) (fin:=fun t=>(t,((gt b.Ah i).Ay.length:Int))) (fun j t=>t.length=j) (len:=(gt b.Ah i).Ay.length)
  (fun n t=>by simp only [qaZ,qp (jf _),cond_false])
  (fun j t hj ht=>by
   have hsn:=hw.sin j hj
   have hx2:=i2.2
   refine ⟨t++[gt x2 (at0 (gt b.Ah i).Ay j).toNat],by simp [ht],fun X hX=>?_⟩
   simp only [qaZ,qn hj,cond_true,qbJ hj,je,qeN hsn.1 (show at0 (gt b.Ah i).Ay j<(x2.length:Int) by omega),qbN (show t.length+[gt x2 (at0 (gt b.Ah i).Ay j).toNat].length≤2147483648 by simp;omega),wS j]
   exact hX) 0 (jB _) [] rfl
 refine ⟨x3,i3,?_⟩
 unfold qcW qey
 rw [qab hi]
 simp only [je]
 refine Ev.bind (b:=x2) (Ev.bind e1 ?_) (Ev.bind e3 .done)
 rw [hmk]
 simp only [je]
 exact Ev.bind e2 .done
end Go.Fw


namespace Go.Fw
open Go
set_option maxRecDepth 100000
instance:Inhabited qaT:=⟨⟨0,0,0,0⟩⟩
instance:Inhabited qJ:=⟨⟨0,0⟩⟩
theorem qmp {α:Type} {m:Nat} {z:α} (h:m≤2147483648):mkS (m:Int) z=some (List.replicate m z):=by
 unfold mkS big
 rw [if_pos ⟨by omega,by omega⟩,jz]
theorem qoj {α:Type} [Inhabited α] {xs:List α} {a k:Nat} {y:α} (h:k ≠ a):gt (xs.set a y) k=gt xs k:=by
 unfold gt
 rw [jx,List.getElem?_set_ne (by omega),←jx]
theorem qnf {α:Type} [Inhabited α] {xs:List α} {a:Nat} {y:α} (h:a<xs.length):gt (xs.set a y) a=y:=by
 rw [qgE (by rw [List.length_set];exact h),List.getElem_set_self]
theorem qpm {a:qaw}:∃ r:List qJ,r.length≤4∧∀ n,qdM n a=some r:=by
 unfold qdM
 simp only [bne,qbp]
 cases (a.Am==2)
 ·cases (a.Am==3)
  ·cases (a.Am==1)
   ·exact ⟨_,by decide,fun _=>rfl⟩
   ·cases (a.Bj==1)
    ·cases (a.Bj==2)
     ·exact ⟨[⟨0,0⟩,⟨0,1⟩,⟨1,0⟩,⟨1,1⟩],by decide,fun _=>rfl⟩
     ·exact ⟨[⟨0,1⟩,⟨1,0⟩],by decide,fun _=>rfl⟩
    ·exact ⟨[⟨0,0⟩,⟨1,1⟩],by decide,fun _=>rfl⟩
  ·exact ⟨[⟨1,0⟩,⟨1,1⟩],by decide,fun _=>rfl⟩
 ·exact ⟨[⟨0,0⟩,⟨0,1⟩],by decide,fun _=>rfl⟩
theorem qmb {b:qc} {first:Int} (h:blockB b=true) {i:Nat} (hi:i<b.Aa.Ab.length):∃ r:List qaT,r.length≤32∧Ev (fun n=>qdD n b (gt b.Aa.Ab i) first) r:=by
 obtain ⟨⟨c0,c1⟩,_,hcb⟩:=qfa (qae h) hi
 have ha:=qlj hcb
 obtain ⟨x1,i1,e1⟩:=loopE (Lf:=qbi first (gt b.Ac.Ai (gt b.Aa.Ab i).Ba.toNat)) (fin:=fun t=>(t,((gt b.Ac.Ai (gt b.Aa.Ab i).Ba.toNat).Ar.length:Int))) (fun j t=>t.length≤4*j) (len:=(gt b.Ac.Ai (gt b.Aa.Ab i).Ba.toNat).Ar.length)
  (fun n t=>by simp only [qbi,qp (jf _),cond_false])
  (fun j t hj ht=>by
   obtain ⟨r,hr,er⟩:=qpm (a:=gt (gt b.Ac.Ai (gt b.Aa.Ab i).Ba.toNat).Ar j)
   obtain ⟨x2,i2,e2⟩:=loopE (Lf:=qbg first (j:Int) (gt (gt b.Ac.Ai (gt b.Aa.Ab i).Ba.toNat).Ar j) r) (fin:=fun t=>(t,(r.length:Int))) (fun k t'=>t'.length=t.length+k) (len:=r.length)
    (fun n t=>by simp only [qbg,qp (jf _),cond_false])
    (fun k t' hk ht'=>⟨t'++[_],by rw [jg,ht',ji];omega,fun X hX=>by
     simp only [qbg,qn hk,cond_true,qab hk,je,wS k]
     rw [qbN (by rw [ji];omega)]
     exact hX⟩) 0 (jB _) t rfl
   refine ⟨x2,by omega,fun X hX=>?_⟩
   simp only [qbi,qn hj,cond_true,qab hj,je,er,wS j]
   exact Ev.bind e2 hX) 0 (jB _) [] (jf _)
 refine ⟨x1,by omega,?_⟩
 unfold qdD
 rw [qeN c0 c1]
 simp only [je]
 exact Ev.bind e1 .done
theorem qjw {b:qc} (h:blockB b=true):∃ ls lo de,Ev (fun n=>qfb n b) (some ⟨b,places b.Aa,ls,lo,de,[]⟩):=by
 have hd:=qae h
 have hs:=qI hd
 have hl:=qaz hs
 have hni:=hs.ni
 have hnn:=hs.nn
 have hwl:=qnv h
 obtain ⟨⟨x1,z1⟩,i1,e1⟩:=loopE (τ:=List qaT × Int) (Lf:=fun n t j=>qdw b n t.1 t.2 j) (fin:=fun t=>(t.1,t.2,(b.Aa.Ab.length:Int))) (fun j t=>t.1.length≤32*j) (len:=b.Aa.Ab.length)
  (fun n t=>by simp only [qdw,qp (jf _),cond_false])
  (fun j t hj ht=>by
   obtain ⟨r,hr,er⟩:=qmb (first:=t.2) h hj
   refine ⟨(t.1++r,W64 (t.2+((gt b.Aa.Ab j).Aj.length:Int))),by rw [jg];omega,fun X hX=>?_⟩
   simp only [qdw,qn hj,cond_true,qab hj,je,qaW,wS j]
   have ht':t.1.length≤32*j:=ht
   refine Ev.bind er ?_
   rw [qbN (show t.1.length+r.length≤2147483648 by omega)]
   exact hX) 0 (jB _) ([],0) (jf _)
 have hm1:mkS (b.Ah.length:Int) (0:Int)=some (List.replicate b.Ah.length 0):=qmp (by omega)
 have hm2:mkS (b.Ah.length:Int) ([]:List Int)=some (List.replicate b.Ah.length []):=qmp (by omega)
 obtain ⟨⟨x5,x6⟩,⟨i5,i6,i56⟩,e2⟩:=loopE (τ:=List (List Int) × List Int) (Lf:=fun n t j=>qcc (places b.Aa) n t.1 t.2 j) (fin:=fun t=>(t.1,t.2,((places b.Aa).length:Int))) (fun j t=>t.1.length=b.Ah.length∧t.2.length=b.Ah.length∧∀ k,(gt t.1 k).length≤j) (len:=(places b.Aa).length)
  (fun n t=>by simp only [qcc,qp (jf _),cond_false])
  (fun j t hj ht=>by
   obtain ⟨h1,h2,h3⟩:=ht
   obtain ⟨n0,n1⟩:=qib hd hj
   cases hdr:(gt (places b.Aa) j).drives
   ·refine ⟨(setS t.1 (gt (places b.Aa) j).net (gt t.1 (gt (places b.Aa) j).net.toNat++[(j:Int)]),t.2),⟨by rw [qcy];exact h1,h2,fun k=>?_⟩,fun X hX=>?_⟩
    ·show (gt (t.1.set _ _) k).length≤j+1
     by_cases hk:k=(gt (places b.Aa) j).net.toNat
     ·subst hk
      rw [qnf (by omega),jg,ji]
      have:=h3 (gt (places b.Aa) j).net.toNat
      omega
     ·rw [qoj hk]
      have:=h3 k
      omega
    ·have:=h3 (gt (places b.Aa) j).net.toNat
     simp only [qcc,qn hj,cond_true,qab hj,je,hdr,cond_false,qeN n0 (show (gt (places b.Aa) j).net<(t.1.length:Int) by omega),wS j]
     rw [qbN (by rw [ji];omega)]
     exact hX
   ·refine ⟨(t.1,setS t.2 (gt (places b.Aa) j).net (j:Int)),⟨h1,by rw [qcy];exact h2,fun k=>Nat.le_succ_of_le (h3 k)⟩,fun X hX=>?_⟩
    simp only [qcc,qn hj,cond_true,qab hj,je,hdr,qeN n0 (show (gt (places b.Aa) j).net<(t.2.length:Int) by omega),wS j]
    exact hX) 0 (jB _) (List.replicate b.Ah.length [],List.replicate b.Ah.length 0) ⟨by simp,by simp,fun k=>by
   have:gt (List.replicate b.Ah.length ([]:List Int)) k=[]:=by
    unfold gt
    rw [jx,List.getElem?_replicate]
    by_cases hk:k<b.Ah.length<;>simp [hk]<;>rfl
   rw [this];exact jf _⟩
 have i5:x5.length=b.Ah.length:=i5
 have i6:x6.length=b.Ah.length:=i6
 have i56:∀ k,(gt x5 k).length≤(places b.Aa).length:=i56
 have hL5:∀ (i4 i5 y7:Int) (y8:Int) (t:List qaT),idx x6 i4=some y8→t.length≤1000000→∃ t',t'.length=t.length+2∧Ev (fun n=>qcO x6 i4 i5 y7 n t 0) (t',2):=by
  intro i4 i5 y7 y8 t hy ht
  obtain ⟨t',h1,h2⟩:=loopE (Lf:=qcO x6 i4 i5 y7) (fin:=fun t=>(t,(2:Int))) (fun k t'=>t'.length=t.length+k) (len:=2)
   (fun n t=>by simp only [qcO];rfl)
   (fun k t' hk ht'=>⟨t'++[_],by rw [jg,ht',ji];omega,fun X hX=>by
    simp only [qcO,show decide ((k:Int)<2)=true by simp;omega,cond_true,hy,je,wS k]
    rw [qbN (by rw [ji];omega)]
    exact hX⟩) 0 (jB _) t rfl
  exact ⟨t',h1,h2⟩
 have hL4:∀ (i4 y8:Int) (y6:List Int) (t:List qaT),idx x6 i4=some y8→y6.length≤78→t.length≤900000→∃ t',t'.length=t.length+2*y6.length∧Ev (fun n=>qcJ x6 i4 y6 n t 0) (t',(y6.length:Int)):=by
  intro i4 y8 y6 t hy hy6 ht
  obtain ⟨t',h1,h2⟩:=loopE (Lf:=qcJ x6 i4 y6) (fin:=fun t=>(t,(y6.length:Int))) (fun k t'=>t'.length=t.length+2*k) (len:=y6.length)
   (fun n t=>by simp only [qcJ,qp (jf _),cond_false])
   (fun k t' hk ht'=>by
    obtain ⟨t2,q1,q2⟩:=hL5 i4 (k:Int) (gt y6 k) y8 t' hy (by omega)
    refine ⟨t2,by omega,fun X hX=>?_⟩
    simp only [qcJ,qn hk,cond_true,qab hk,je,wS k]
    exact Ev.bind q2 hX) 0 (jB _) t rfl
  exact ⟨t',h1,h2⟩
 obtain ⟨⟨x8,x9,x10⟩,_,e3⟩:=loopE (τ:=List (List Int) × List Int × List qaT) (Lf:=fun n t j=>qdB b x5 x6 n t.1 t.2.1 t.2.2 j) (fin:=fun t=>(t.1,t.2.1,t.2.2,(b.Ah.length:Int))) (fun j t=>t.1.length=j∧t.2.1.length=j∧t.2.2.length≤448+156*j) (len:=b.Ah.length)
  (fun n t=>by simp only [qdB,qp (jf _),cond_false])
  (fun j t hj ht=>by
   obtain ⟨h1,h2,h3⟩:=ht
   have h1:t.1.length=j:=h1
   have h2:t.2.1.length=j:=h2
   have h3:t.2.2.length≤448+156*j:=h3
   have hw:=qir h hj
   have hlo:=hw.lo
   obtain ⟨r4,l4,e4⟩:=qjO h hj
   obtain ⟨r5,l5,e5⟩:=qkR h hj
   have h6:=i56 j
   have hy8:idx x6 (j:Int)=some (gt x6 j):=qab (by omega)
   obtain ⟨t',q1,q2⟩:=hL4 (j:Int) (gt x6 j) (gt x5 j) t.2.2 hy8 (by omega) (by omega)
   refine ⟨(t.1++[r5],t.2.1++[gt r4 0],t'),⟨by simp [h1],by simp [h2],?_⟩,fun X hX=>?_⟩
   ·show t'.length≤_
    omega
   ·simp only [qdB,qn hj,cond_true,wS j]
    refine Ev.bind e4 ?_
    rw [show idx r4 (0:Int)=some (gt r4 0) from qab (j:=0) (by omega)]
    simp only [je]
    rw [qbN (by rw [ji];omega)]
    simp only [je]
    refine Ev.bind e5 ?_
    rw [qbN (by rw [ji];omega),qab (show j<x5.length by omega)]
    simp only [je]
    exact Ev.bind q2 hX) 0 (jB _) ([],[],x1) ⟨rfl,rfl,by show x1.length≤_;have:x1.length≤32*b.Aa.Ab.length:=i1;omega⟩
 refine ⟨x10,x9,x8,?_⟩
 unfold qfb
 refine Ev.bind (qhJ hs) (Ev.bind e1 ?_)
 rw [hm1,hm2]
 simp only [je]
 exact Ev.bind e2 (Ev.bind e3 .done)
end Go.Fw


namespace Go.Fw
open Go
set_option maxRecDepth 100000
def clkB (b:qc) (p:Tplace):Bool:=bif decide (p.instance_ ≥ 0) then clkAt (cellAt b p.instance_).Aq p.pin else false
theorem qit {b:qc} {j:Nat} (hok:qaI b) (h:blockB b=true) (hj:j<(places b.Aa).length):Ev (fun n=>qeH n b.Ac b.Aa (j:Int)) (toSp (gt (places b.Aa) j),true):=by
 have hd:=qae h
 have hs:=qI hd
 have hl:=qaz hs
 unfold qeH
 refine Ev.bind (qgP hok.Ac hok.Aa) (Ev.ff (by rw [hd];rfl) (Ev.bind (qeR hs) ?_))
 simp only [qdE,je,jy,qch (show (places b.Aa).length≤9223372036854775807 by omega)]
 rw [show inI (j:Int) 0 (((places b.Aa).length:Int)-1)=true from qbv.2 ⟨by omega,by omega⟩]
 simp only [jU,cond_false]
 rw [qab (show j<((places b.Aa).map toSp).length by simpa using hj),qj5 hj]
 exact .done
theorem qiD {b:qc} {j:Nat} (hok:qaI b) (h:blockB b=true) (hj:j<(places b.Aa).length):Ev (fun n=>qet n b (j:Int)) (clkB b (gt (places b.Aa) j)):=by
 unfold qet
 refine Ev.bind (qit hok h hj) ?_
 rcases qc0 hj with ⟨i,k,hi,hk,_,e⟩|⟨i,hi,_,e⟩
 ·obtain ⟨⟨c0,c1⟩,hn,_⟩:=qfa (qae h) hi
  rw [e]
  unfold place1 clkB clkAt cellAt toSp
  simp only [qe4,show decide ((i:Int) ≥ 0)=true by simp,cond_true,je,qab hi,qeN c0 c1,qab (show k<(gt b.Ac.Ai (gt b.Aa.Ab i).Ba.toNat).Aq.length by omega),jz]
  exact .done
 ·rw [e];exact .done
theorem qlr {b:qc} {j:Nat} (hok:qaI b) (h:blockB b=true) (hj:j<(places b.Aa).length):Ev (fun n=>qfs n b.Ac b.Aa (j:Int)) (gt (places b.Aa) j).net:=by
 unfold qfs
 exact Ev.bind (qit hok h hj) .done
theorem qmn {b:qc} {k:Int} (h:blockB b=true) {j:Nat} (hj:j<(places b.Aa).length) (hk:(gt (places b.Aa) j).net=k) (hdr:(gt (places b.Aa) j).drives=true):Ev (fun n=>qfM n b.Aa k) (j:Int):=by
 have hd:=qae h
 have hs:=qI hd
 have hl:=qaz hs
 have e:ixL (fun q:Tl05Place=>(q.net==k)&&q.drives) ((places b.Aa).map toSp)=(j:Int):=by
  refine qnO (by simpa using hj) ?_ (fun i hi hq=>?_)
  ·rw [qj5 hj]
   show (((gt (places b.Aa) j).net==k)&&(gt (places b.Aa) j).drives)=true
   rw [hk,hdr];simp
  ·have hi':i<(places b.Aa).length:=by simpa using hi
   rw [qj5 hi'] at hq
   have hq':(((gt (places b.Aa) i).net==k)&&(gt (places b.Aa) i).drives)=true:=hq
   simp only [jh,beq_iff_eq] at hq'
   exact qm4 hd hi' hj (by rw [hq'.1,hk]) hq'.2 hdr
 unfold qfM
 refine Ev.bind (qeR hs) ?_
 rw [←e]
 exact qd5 (fin:=(((places b.Aa).map toSp).length:Int)) (Lf:=qbP k ((places b.Aa).map toSp)) (pf:=fun _ q=>some ((q.net==k)&&q.drives)) (fun _ _=>.done)
  (fun n=>by simp only [qbP,qp (jf _),cond_false])
  (fun n j x hx=>by
   have hj:=(List.getElem?_eq_some_iff.1 hx).1
   have hj':j<(places b.Aa).length:=by simpa using hj
   simp only [qbP,qn hj,cond_true,qg0 hx,je,wS j]
   cases (x.net==k)<;>cases x.drives<;>rfl)
  (fun n=>by congr 1;funext o;cases o<;>rfl)
theorem qnt {b:qc} {i k:Nat} (h:blockB b=true) (hi:i<b.Aa.Ab.length) (hk:k<(gt b.Aa.Ab i).Aj.length):Ev (fun n=>qfC n b.Aa (i:Int) (k:Int)) ((off b.Aa i+k:Nat):Int):=by
 have hd:=qae h
 have hs:=qI hd
 have hl:=qaz hs
 obtain ⟨hj,ej⟩:=qhP hi hk
 have e:ixL (fun q:Tl05Place=>(q.instance_==(i:Int))&&(q.pin==(k:Int))) ((places b.Aa).map toSp)=((off b.Aa i+k:Nat):Int):=by
  refine qnO (by simpa using hj) ?_ (fun m hm hq=>?_)
  ·rw [qj5 hj,ej]
   unfold place1 toSp
   simp
  ·have hm':m<(places b.Aa).length:=by simpa using hm
   rw [qj5 hm'] at hq
   rcases qc0 hm' with ⟨i',k',hi',hk',em,e'⟩|⟨i',hi',em,e'⟩
   ·rw [e'] at hq
    unfold place1 toSp at hq
    simp only [jh,beq_iff_eq] at hq
    obtain rfl:i'=i:=by omega
    obtain rfl:k'=k:=by omega
    exact em
   ·rw [e'] at hq
    unfold place2 toSp at hq
    simp only [jh,beq_iff_eq] at hq
    omega
 unfold qfC
 refine Ev.bind (qeR hs) ?_
 rw [←e]
 exact qd5 (fin:=(((places b.Aa).map toSp).length:Int)) (Lf:=qcI (i:Int) (k:Int) ((places b.Aa).map toSp)) (pf:=fun _ q=>some ((q.instance_==(i:Int))&&(q.pin==(k:Int)))) (fun _ _=>.done)
  (fun n=>by simp only [qcI,qp (jf _),cond_false])
  (fun n j x hx=>by
   have hj:=(List.getElem?_eq_some_iff.1 hx).1
   have hj':j<(places b.Aa).length:=by simpa using hj
   simp only [qcI,qn hj,cond_true,qg0 hx,je,wS j]
   cases (x.instance_==(i:Int))<;>cases (x.pin==(k:Int))<;>rfl)
  (fun n=>by congr 1;funext o;cases o<;>rfl)
def freeB (b:qc) (y:Int):Bool:=!clkB b (gt (places b.Aa) y.toNat)
def dataB (c:qr) (pin:Int):Bool:=c.Ar.any fun a=>(a.Au==pin)&&decide (a.Am≤3)
def succL (b:qc) (j:Nat):List Int :=
 bif (gt (places b.Aa) j).drives then (sinksL b.Aa (gt (places b.Aa) j).net (places b.Aa).length).filter (freeB b)
 else bif decide ((gt (places b.Aa) j).instance_<0) then []
 else bif dataB (cellAt b (gt (places b.Aa) j).instance_) (gt (places b.Aa) j).pin then [(j:Int)-(gt (places b.Aa) j).pin+(((cellAt b (gt (places b.Aa) j).instance_).Aq.length:Int)-1)] else []
theorem qmV {b:qc} {j:Nat} (hok:qaI b) (h:blockB b=true) (hj:j<(places b.Aa).length):Ev (fun n=>qgh n b (j:Int)) (succL b j):=by
 have hd:=qae h
 have hs:=qI hd
 have hl:=qaz hs
 obtain ⟨n0,n1⟩:=qib hd hj
 obtain ⟨jd,hjd,nd,dd⟩:=qqx hd n0 n1
 have hsl:(sinksL b.Aa (gt (places b.Aa) j).net (places b.Aa).length).length≤78:=by
  rw [qeO]
  have:cntP (snkQ b.Aa (gt (places b.Aa) j).net) (places b.Aa).length≤(places b.Aa).length:=qdY
  omega
 unfold qgh
 refine Ev.bind (qit hok h hj) (Ev.bind (qlr hok h hj) (Ev.bind (qmn h hjd nd dd) ?_))
 have e0:((jd:Int)==(j:Int))=(gt (places b.Aa) j).drives:=by
  rw [jp,beq_iff_eq]
  constructor
  ·intro e
   obtain rfl:jd=j:=by omega
   exact dd
  ·intro hdj
   have:=qm4 hd hjd hj nd dd hdj
   omega
 rw [e0]
 unfold succL
 refine Ev.iff (fun _=>?_) (fun _=>Ev.iff (fun _=>.done) (fun h0=>?_))
 ·refine Ev.bind (qis hs) ?_
  have hL:Ev (fun n=>qby b (sinksL b.Aa (gt (places b.Aa) j).net (places b.Aa).length) n ([]:List Int) 0) ((sinksL b.Aa (gt (places b.Aa) j).net (places b.Aa).length).filter (freeB b),((sinksL b.Aa (gt (places b.Aa) j).net (places b.Aa).length).length:Int)):=by
   refine loopF (Lf:=qby b (sinksL b.Aa (gt (places b.Aa) j).net (places b.Aa).length)) (S:=fun m=>((sinksL b.Aa (gt (places b.Aa) j).net (places b.Aa).length).take m).filter (freeB b)) (len:=(sinksL b.Aa (gt (places b.Aa) j).net (places b.Aa).length).length) (fun n=>?_) (fun m hm X hX=>?_)
   ·simp only [qby,qp (jf _),cond_false,jT]
   ·obtain ⟨y,hy,ey,_⟩:=ql5 hm
    have hc:(((sinksL b.Aa (gt (places b.Aa) j).net (places b.Aa).length).take m).filter (freeB b)).length+[(y:Int)].length≤2147483648:=by
     have h1:=List.length_filter_le (freeB b) ((sinksL b.Aa (gt (places b.Aa) j).net (places b.Aa).length).take m)
     rw [List.length_take] at h1
     rw [ji];omega
    have eg:(sinksL b.Aa (gt (places b.Aa) j).net (places b.Aa).length)[m]=(y:Int):=by
     rw [qaq hm] at ey;exact Option.some.inj ey
    rw [List.take_succ_eq_append_getElem hm,List.filter_append,eg] at hX
    simp only [qby,qn hm,cond_true,ey,je,wS m]
    refine Ev.bind (qiD hok h hy) ?_
    have hf:freeB b (y:Int) = !clkB b (gt (places b.Aa) y):=by unfold freeB;rw [jz]
    cases h3:clkB b (gt (places b.Aa) y)
    ·rw [h3] at hf
     rw [List.filter_cons_of_pos (by rw [hf];rfl),List.filter_nil] at hX
     simp only [Bool.not_false,cond_true,qbN hc,je]
     exact hX
    ·rw [h3] at hf
     rw [List.filter_cons_of_neg (by rw [hf];decide),List.filter_nil,jR] at hX
     exact hX
  exact Ev.bind hL .done
 ·rcases qc0 hj with ⟨i,k,hi,hk,ej,e⟩|⟨i,hi,_,e⟩
  ·obtain ⟨⟨c0,c1⟩,hn,hcb⟩:=qfa hd hi
   have hxs:=hs.nx i hi
   rw [e]
   have ec:cellAt b (place1 b.Aa i k).instance_=gt b.Ac.Ai (gt b.Aa.Ab i).Ba.toNat:=by
    unfold cellAt place1;rw [jz]
   rw [ec]
   have hA:=qlj hcb
   have e1:∀ n,qe4 n b (toSp (place1 b.Aa i k)).instance_=some (gt b.Ac.Ai (gt b.Aa.Ab i).Ba.toNat):=by
    intro n
    unfold place1 toSp
    simp only [qe4,qab hi,qeN c0 c1,je]
   have e2:Ev (fun n=>qfC n b.Aa (toSp (place1 b.Aa i k)).instance_ (W64 (((gt b.Ac.Ai (gt b.Aa.Ab i).Ba.toNat).Aq.length:Int)-1))) ((j:Int)-(k:Int)+(((gt b.Ac.Ai (gt b.Aa.Ab i).Ba.toNat).Aq.length:Int)-1)):=by
    have:=qnt h hi (k:=(gt b.Ac.Ai (gt b.Aa.Ab i).Ba.toNat).Aq.length-1) (by omega)
    rw [qch (by omega),show ((gt b.Ac.Ai (gt b.Aa.Ab i).Ba.toNat).Aq.length:Int)-1=(((gt b.Ac.Ai (gt b.Aa.Ab i).Ba.toNat).Aq.length-1:Nat):Int) by omega]
    refine this.cast ?_
    omega
   have hL2:Ev (fun n=>qdc b (toSp (place1 b.Aa i k)) (gt b.Ac.Ai (gt b.Aa.Ab i).Ba.toNat) n 0) (bif ((gt b.Ac.Ai (gt b.Aa.Ab i).Ba.toNat).Ar.all fun a=>!((a.Au==(k:Int))&&decide (a.Am≤3))) then .nxt ((gt b.Ac.Ai (gt b.Aa.Ab i).Ba.toNat).Ar.length:Int) else .ret [(j:Int)-(k:Int)+(((gt b.Ac.Ai (gt b.Aa.Ab i).Ba.toNat).Aq.length:Int)-1)]) :=
    qiS (fun n=>by simp only [qdc,qp (jf _),cond_false]) (fun m hm X hX=>by
     simp only [qdc,qn hm,cond_true,qaq hm,je,wS m]
     rw [show (toSp (place1 b.Aa i k)).pin=(k:Int) from rfl]
     refine Ev.bind (b:=((gt b.Ac.Ai (gt b.Aa.Ab i).Ba.toNat).Ar[m].Au==(k:Int))&&decide ((gt b.Ac.Ai (gt b.Aa.Ab i).Ba.toNat).Ar[m].Am≤3)) (Ev.andP fun _=>.done) ?_
     cases (((gt b.Ac.Ai (gt b.Aa.Ab i).Ba.toNat).Ar[m].Au==(k:Int))&&decide ((gt b.Ac.Ai (gt b.Aa.Ab i).Ba.toNat).Ar[m].Am≤3))
     ·exact hX
     ·exact Ev.bind e2 .done)
   refine Ev.bind ⟨0,fun n _=>e1 n⟩ (Ev.bind hL2 ?_)
   have e3:dataB (gt b.Ac.Ai (gt b.Aa.Ab i).Ba.toNat) (place1 b.Aa i k).pin = !((gt b.Ac.Ai (gt b.Aa.Ab i).Ba.toNat).Ar.all fun a=>!((a.Au==(k:Int))&&decide (a.Am≤3))):=by
    unfold dataB
    rw [show (place1 b.Aa i k).pin=(k:Int) from rfl,jp]
    simp
   rw [e3,show (place1 b.Aa i k).pin=(k:Int) from rfl]
   cases ((gt b.Ac.Ai (gt b.Aa.Ab i).Ba.toNat).Ar.all fun a=>!((a.Au==(k:Int))&&decide (a.Am≤3)))<;>exact .done
  ·rw [e] at h0
   exact absurd h0 (by show ¬ decide ((-1:Int)<0)=false;decide)
theorem qor {b:qc} (h:blockB b=true) {j:Nat}:(succL b j).length≤78:=by
 have hs:=qI (qae h)
 have hl:=qaz hs
 unfold succL
 cases (gt (places b.Aa) j).drives
 ·cases decide ((gt (places b.Aa) j).instance_<0)
  ·cases dataB (cellAt b (gt (places b.Aa) j).instance_) (gt (places b.Aa) j).pin
   ·exact jB _
   ·show 1≤78;omega
  ·exact jB _
 ·have h1:=List.length_filter_le (freeB b) (sinksL b.Aa (gt (places b.Aa) j).net (places b.Aa).length)
  rw [qeO] at h1
  have:cntP (snkQ b.Aa (gt (places b.Aa) j).net) (places b.Aa).length≤(places b.Aa).length:=qdY
  simp only [cond_true]
  omega
def inPl (b:qc) (x:Int):Bool:=inI x 0 (((places b.Aa).length:Int)-1)
end Go.Fw


namespace Go.Fw
open Go
set_option maxRecDepth 100000
def CodeOk (code:List (IntK .u8)):Prop:=code.length≤1048576∧∀ x,x ∈ code→rng8 x
structure SrcI (code:List (IntK .u8)) (a s:Int):Prop where
 a0:0≤a
 a1:a≤(code.length:Int)
 s0:0≤s
 s1:s≤2147483646
theorem tm31 {x:Int} (h:0≤x):0≤x.tmod 2147483647∧x.tmod 2147483647≤2147483646:=by
 have h1:=Int.tmod_nonneg 2147483647 h
 have h2:=Int.tmod_lt_of_pos x (show (0:Int)<2147483647 by decide)
 omega
theorem qjT {x k:Int} (hk:0<k):remS x k=some (x.tmod k):=by unfold remS;rw [if_neg (by omega)]
theorem qcF (x:Int):okI (W64 x):=by
 unfold okI W64
 rw [Go.IntWalk.i64_left]
 unfold Go.RowKit.wrap64
 omega
theorem qL {x:Int} (h0:-4611686018427387904≤x) (h1:x≤4611686018427387904):okI x:=by unfold okI;omega
theorem qpW {code:List (IntK .u8)} (hc:CodeOk code):∃ s,Ev (fun n=>qid n code) (some ⟨code,0,s⟩)∧SrcI code 0 s:=by
 have main:∀ k j i,j+k=code.length→0≤i→i≤2147483646→EvQ (fun n=>qdx code n i (j:Int)) (fun o=>0≤o.1∧o.1≤2147483646):=by
  intro k
  induction k with
  | zero =>
   intro j i hj h0 h1
   refine EvQ.succ ?_
   simp only [qdx,qp (show code.length≤j by omega),cond_false,je]
   exact EvQ.done ⟨h0,h1⟩
  | succ k ih =>
   intro j i hj h0 h1
   have hlt:j<code.length:=by omega
   have hl:=hc.1
   have hy:=hc.2 _ (jr hlt)
   unfold rng8 at hy
   refine EvQ.succ ?_
   simp only [qdx,qn hlt,cond_true,je,qaq hlt,wS j]
   refine EvQ.bif (fun _=>?_) (fun _=>EvQ.done ⟨h0,h1⟩)
   have e1:W64 (i*31)=i*31:=qaE (by omega) (by omega)
   have e2:W64 code[j].val=code[j].val:=qaE (by omega) (by omega)
   have e3:W64 (i*31+code[j].val)=i*31+code[j].val:=qaE (by omega) (by omega)
   rw [e1,e2,e3]
   have h2:=tm31 (show 0≤i*31+code[j].val by omega)
   exact ih (j+1) _ (by omega) h2.1 h2.2
 obtain ⟨⟨s,j⟩,h1,h2,h3⟩:=main code.length 0 12345 (by omega) (by decide) (by decide)
 exact ⟨s,Ev.bind h1 .done,⟨Int.le_refl _,by omega,h2,h3⟩⟩
theorem qag {code:List (IntK .u8)} {a s:Int} (k:Int) (hc:CodeOk code) (h:SrcI code a s) :
  EvQ (fun n=>qk n ⟨code,a,s⟩ k) (fun o=>((0≤o.1∧(1≤k→o.1<k))∧(k≤1→o.1=0))∧SrcI code o.2.1 o.2.2):=by
 obtain ⟨a0,a1,s0,s1⟩:=h
 have hl:=hc.1
 unfold qk
 refine EvQ.bif (fun h1=>EvQ.done ⟨⟨⟨Int.le_refl _,fun h=>by omega⟩,fun _=>rfl⟩,⟨a0,a1,s0,s1⟩⟩) (fun h1=>?_)
 have h1:1<k:=by have:=of_decide_eq_false h1;omega
 refine EvQ.bif (fun h2=>?_) (fun _=>?_)
 ·have h2:a<(code.length:Int):=of_decide_eq_true h2
  obtain ⟨j,rfl⟩:∃ j:Nat,a=(j:Int):=⟨a.toNat,by omega⟩
  have hlt:j<code.length:=by omega
  have hy:=hc.2 _ (jr hlt)
  unfold rng8 at hy
  have e2:W64 code[j].val=code[j].val:=qaE (by omega) (by omega)
  have ea:W64 ((j:Int)+1)=((j+1:Nat):Int):=qfk (by omega)
  refine EvQ.bindN (qaq hlt) ?_
  rw [e2,ea]
  refine EvQ.bif (fun h3=>?_) (fun h3=>?_)
  ·refine EvQ.bindN (qjT (by omega)) (EvQ.done ⟨⟨⟨Int.tmod_nonneg _ hy.1,fun _=>Int.tmod_lt_of_pos _ (by omega)⟩,fun h=>by omega⟩,⟨by show (0:Int)≤((j+1:Nat):Int);omega,by show ((j+1:Nat):Int)≤_;omega,s0,s1⟩⟩)
  ·have e3:W64 (s*48271)=s*48271:=qaE (by omega) (by omega)
   have e4:W64 (s*48271+code[j].val)=s*48271+code[j].val:=qaE (by omega) (by omega)
   have e5:W64 (s*48271+code[j].val+1)=s*48271+code[j].val+1:=qaE (by omega) (by omega)
   rw [e3,e4,e5]
   have h4:=tm31 (show 0≤s*48271+code[j].val+1 by omega)
   exact EvQ.bindN (qjT (by omega)) (EvQ.done ⟨⟨⟨Int.tmod_nonneg _ h4.1,fun _=>Int.tmod_lt_of_pos _ (by omega)⟩,fun h=>by omega⟩,⟨by show (0:Int)≤((j+1:Nat):Int);omega,by show ((j+1:Nat):Int)≤_;omega,h4.1,h4.2⟩⟩)
 ·have e3:W64 (s*48271)=s*48271:=qaE (by omega) (by omega)
  have e4:W64 (s*48271+11)=s*48271+11:=qaE (by omega) (by omega)
  rw [e3,e4]
  have h4:=tm31 (show 0≤s*48271+11 by omega)
  have h5:0≤((s*48271+11).tmod 2147483647).tdiv 7:=Int.tdiv_nonneg h4.1 (by decide)
  have h6:((s*48271+11).tmod 2147483647).tdiv 7≤2147483646:=by
   rw [Int.tdiv_eq_ediv_of_nonneg h4.1];omega
  rw [qaE (x:=((s*48271+11).tmod 2147483647).tdiv 7) (by omega) (by omega)]
  exact EvQ.bindN (qjT (by omega)) (EvQ.done ⟨⟨⟨Int.tmod_nonneg _ h5,fun _=>Int.tmod_lt_of_pos _ (by omega)⟩,fun h=>by omega⟩,⟨a0,a1,h4.1,h4.2⟩⟩)
theorem qbb {α:Type} {ok:α→Prop} {xs:List α} {y:α} (h:∀ x,x ∈ xs→ok x) (hy:ok y):∀ x,x ∈ xs++[y]→ok x:=by
 intro x hx
 rcases List.mem_append.1 hx with hx|hx
 ·exact h x hx
 ·obtain rfl:=List.mem_singleton.1 hx;exact hy
theorem qbI {α:Type} {xs:List α} {y:α} (h:xs.length≤1048576):appS xs [y]=some (xs++[y]):=qbN (by simp;omega)
section
variable {code:List (IntK .u8)} {a s:Int}
theorem qpz {step:Int} (h0:1≤step) (h1:step≤1000) (hc:CodeOk code) (h:SrcI code a s) :
  EvQ (fun n=>qd2 n ⟨code,a,s⟩ step) (fun o=>(1≤o.1.length∧o.1.length≤3∧∀ x,x ∈ o.1→okI x)∧SrcI code o.2.1 o.2.2):=by
 have main:∀ (r:Nat) (x:List Int) (a' s' i9:Int),SrcI code a' s'→x.length+r≤3→(∀ y,y ∈ x→okI y)→okI i9 →
   EvQ (fun n=>qb1 ⟨code,a,s⟩ step n x a' s' i9 (r:Int)) (fun o=>(o.1.length=x.length+r∧∀ y,y ∈ o.1→okI y)∧SrcI code o.2.1 o.2.2.1):=by
  intro r
  induction r with
  | zero =>
   intro x a' s' i9 hs hl hx hi
   refine EvQ.succ ?_
   simp only [qb1]
   exact EvQ.ff rfl (EvQ.done ⟨⟨rfl,hx⟩,hs⟩)
  | succ r ih =>
   intro x a' s' i9 hs hl hx hi
   refine EvQ.succ ?_
   simp only [qb1]
   refine EvQ.tt (by simp) (EvQ.bindN (qbI (by omega)) (EvQ.bind (qag step hc hs) ?_))
   rintro ⟨i11,i12,i13⟩ ⟨_,hs'⟩
   have e:W64 (((r+1:Nat):Int)-1)=(r:Int):=by rw [qaE (by omega) (by omega)];omega
   dsimp only
   rw [e]
   exact (ih (x++[i9]) i12 i13 _ hs' (by rw [jg,ji];omega) (qbb hx hi) (qcF _)).mono (fun o ho=>⟨⟨by rw [ho.1.1,jg,ji];omega,ho.1.2⟩,ho.2⟩)
 unfold qd2
 refine EvQ.bind (qag step hc h) ?_
 rintro ⟨i1,i2,i3⟩ ⟨⟨⟨p0,p1⟩,_⟩,hs⟩
 refine EvQ.bind (qag 3 hc hs) ?_
 rintro ⟨i4,i5,i6⟩ ⟨⟨⟨q0,q1⟩,_⟩,hs⟩
 dsimp only at p0 p1 q0 q1 hs ⊢
 have q2:=q1 (by decide)
 have p2:=p1 h0
 obtain ⟨m,hm⟩:∃ m:Nat,1+i4=((m+1:Nat):Int):=⟨i4.toNat,by omega⟩
 rw [wO (1+i4),hm]
 refine EvQ.bind (main (m+1) [] i5 i6 i1 hs (by simp;omega) (fun _ h=>by cases h) (qL (by omega) (by omega))) ?_
 rintro ⟨x1,i7,i8,i9,i10⟩ ⟨⟨r1,r2⟩,hs⟩
 exact EvQ.done ⟨⟨by simp only at r1;simp at r1;dsimp only;omega,by simp only at r1;simp at r1;dsimp only;omega,r2⟩,hs⟩
theorem qoM {c:Prop} [Decidable c] {x y:Int} (hx:okI x) (hy:okI y):okI (if c then x else y):=by split<;>assumption
theorem qoa {base:Int} (hc:CodeOk code) (h:SrcI code a s) :
  EvQ (fun n=>qfZ n ⟨code,a,s⟩ base) (fun o=>qf0 o.1∧SrcI code o.2.1 o.2.2):=by
 unfold qfZ
 refine EvQ.bind (qpz (by decide) (by decide) hc h) ?_
 rintro ⟨r1,i1,i2⟩ ⟨⟨l1,l2,l3⟩,hs⟩
 refine EvQ.bind (qpz (by decide) (by decide) hc hs) ?_
 rintro ⟨r2,i3,i4⟩ ⟨⟨m1,m2,m3⟩,hs⟩
 dsimp only at l1 l2 l3 m1 m2 m3 hs ⊢
 have hM:r1.length*r2.length≤3*3:=Nat.mul_le_mul l2 m2
 have main:∀ (d j:Nat) (x:List Int) (a' s':Int),SrcI code a' s'→j+d=r1.length*r2.length→x.length=j→(∀ y,y ∈ x→okI y) →
   EvQ (fun n=>qcP ⟨code,a,s⟩ base r1 r2 n x a' s' (j:Int)) (fun o=>(o.1.length≤9∧∀ y,y ∈ o.1→okI y)∧SrcI code o.2.1 o.2.2.1):=by
  intro d
  induction d with
  | zero =>
   intro j x a' s' hs hj hx hok
   refine EvQ.succ ?_
   simp only [qcP,qkH (show r1.length≤1048576 by omega) (show r2.length≤1048576 by omega)]
   have h9:x.length≤9:=by omega
   exact EvQ.ff (qp (by omega)) (EvQ.done ⟨⟨h9,hok⟩,hs⟩)
  | succ d ih =>
   intro j x a' s' hs hj hx hok
   refine EvQ.succ ?_
   simp only [qcP,qkH (show r1.length≤1048576 by omega) (show r2.length≤1048576 by omega)]
   refine EvQ.tt (qn (by omega)) (EvQ.bind (qag 10 hc hs) ?_)
   rintro ⟨i8,i9,i10⟩ ⟨⟨⟨q0,q1⟩,_⟩,hs⟩
   dsimp only at q0 q1 hs ⊢
   refine EvQ.bindN (b:=((j % r2.length:Nat):Int)) (by rw [qjT (by omega),Int.ofNat_tmod]) ?_
   refine EvQ.bind (R:=fun o:Int × Int × Int=>SrcI code o.1 o.2.1∧okI o.2.2) ?_ ?_
   ·refine EvQ.bif (fun hc1=>?_) (fun _=>EvQ.done ⟨hs,qcF _⟩)
    have hj1:1≤j:=by
     rcases Nat.eq_zero_or_pos j with rfl|h2
     ·simp at hc1
     ·exact h2
    have e1:W64 ((j:Int)-1)=((j-1:Nat):Int):=by rw [qaE (by omega) (by omega)];omega
    rw [e1]
    refine EvQ.bindN (qaq (show j-1<x.length by omega)) (EvQ.bind (qag 20 hc hs) ?_)
    rintro ⟨i17,i18,i19⟩ ⟨_,hs⟩
    exact EvQ.done ⟨hs,qoM (qcF _) (qcF _)⟩
   ·rintro ⟨i11,i12,i13⟩ ⟨hs,hi⟩
    dsimp only at hs hi ⊢
    rw [wS j]
    refine EvQ.bif (fun hc1=>?_) (fun _=>?_)
    ·have hge:r2.length≤j:=by have:=of_decide_eq_true hc1;omega
     have e1:W64 ((j:Int)-(r2.length:Int))=((j-r2.length:Nat):Int):=by rw [qaE (by omega) (by omega)];omega
     rw [e1]
     refine EvQ.bindN (qaq (show j-r2.length<x.length by omega)) (EvQ.bind (qag 20 hc hs) ?_)
     rintro ⟨i14,i15,i16⟩ ⟨_,hs⟩
     refine EvQ.bindN (qbI (by omega)) ?_
     exact ih (j+1) _ _ _ hs (by omega) (by rw [jg,ji];omega) (qbb hok (qoM (qcF _) hi))
    ·refine EvQ.bindN (qbI (by omega)) ?_
     exact ih (j+1) _ _ _ hs (by omega) (by rw [jg,ji];omega) (qbb hok hi)
 refine EvQ.bind (main (r1.length*r2.length) 0 [] i3 i4 hs (by omega) rfl (fun _ h=>by cases h)) ?_
 rintro ⟨x1,i5,i6,i7⟩ ⟨⟨n1,n2⟩,hs⟩
 dsimp only at n1 n2 hs
 exact EvQ.done ⟨⟨⟨by dsimp only;omega,l3⟩,⟨by dsimp only;omega,m3⟩,⟨by dsimp only;omega,n2⟩⟩,hs⟩
theorem qkX {base:Int} (hc:CodeOk code) (h:SrcI code a s) :
  EvQ (fun n=>qct n ⟨code,a,s⟩ base) (fun o=>okL qf0 o.1∧SrcI code o.2.1 o.2.2):=by
 unfold qct
 refine EvQ.bind (qoa hc h) ?_
 rintro ⟨r1,i1,i2⟩ ⟨h1,hs⟩
 refine EvQ.bind (qoa hc hs) ?_
 rintro ⟨r2,i3,i4⟩ ⟨h2,hs⟩
 refine EvQ.done ⟨⟨by simp,fun x hx=>?_⟩,hs⟩
 rcases List.mem_cons.1 hx with rfl|hx
 ·exact h1
 ·obtain rfl:=List.mem_singleton.1 hx;exact h2
theorem qmG {kind f t sense:Int} (hk:okI kind) (hf:okI f) (ht:okI t) (hse:okI sense) (hc:CodeOk code) (h:SrcI code a s) :
  EvQ (fun n=>qb8 n ⟨code,a,s⟩ kind f t sense) (fun o=>qhY o.1∧SrcI code o.2.1 o.2.2):=by
 unfold qb8
 refine EvQ.bif (fun _=>?_) (fun _=>?_)
 ·refine EvQ.bind (qag 10 hc h) ?_
  rintro ⟨i1,i2,i3⟩ ⟨_,hs⟩
  refine EvQ.bind (qkX hc hs) ?_
  rintro ⟨r1,i4,i5⟩ ⟨h1,hs⟩
  exact EvQ.done ⟨⟨hk,hf,ht,qL (x:=0) (by decide) (by decide),h1,⟨jB _,fun _ h=>by cases h⟩⟩,hs⟩
 ·refine EvQ.bind (qag 20 hc h) ?_
  rintro ⟨i6,i7,i8⟩ ⟨_,hs⟩
  refine EvQ.bind (qkX hc hs) ?_
  rintro ⟨r2,i9,i10⟩ ⟨h2,hs⟩
  refine EvQ.bind (qkX hc hs) ?_
  rintro ⟨r3,i11,i12⟩ ⟨h3,hs⟩
  exact EvQ.done ⟨⟨hk,hf,ht,hse,h2,h3⟩,hs⟩
end
end Go.Fw


namespace Go.Fw
open Go
set_option maxRecDepth 100000
section
variable {code:List (IntK .u8)} {a s:Int}
theorem qpK {q:Nat} (h:q≤8):W64 (2*(q:Int))=((q*2:Nat):Int):=by rw [qaE (by omega) (by omega)];omega
theorem Ev.add {α:Type} {f:Nat→Option α} {r:α} (k:Nat) (h:∀ m,f (m+k)=some r):Ev f r :=
 ⟨k,fun n hn=>by obtain ⟨m,rfl⟩:∃ m,n=m+k:=⟨n-k,by omega⟩;exact h m⟩
def SenseOk (k:Nat) (truth:List Int):Prop:=∀ (nm:ByteArray) (ps:List qaa) (i j:Int) (p:Nat),p<k→EvQ (fun n=>qhv n ⟨nm,1,ps,[],truth,i,j⟩ (p:Int)) okI
theorem qkS {k:Nat} {nm:ByteArray} {truth:List Int} (hk:k≤3) (hl:truth.length=2 ^ k) (hs0:SenseOk k truth) (hnm:okS nm) (htr:∀ x,x ∈ truth→okI x) (hc:CodeOk code) (h:SrcI code a s) :
  EvQ (fun n=>qdO n ⟨code,a,s⟩ nm truth) (fun o=>qi5 o.1∧SrcI code o.2.1 o.2.2):=by
 have hk8:(2:Nat) ^ k≤8:=by
  have:(2:Nat) ^ k≤2 ^ 3:=Nat.pow_le_pow_right (by decide) hk
  simpa using this
 have pins:∀ (d j:Nat) (x:List qaa) (a' s':Int),SrcI code a' s'→j+d=k→x.length=j→(∀ y,y ∈ x→qh5 y) →
   EvQ (fun n=>qds ⟨code,a,s⟩ truth n x a' s' ((2 ^ j:Nat):Int)) (fun o=>(o.1.length=k∧∀ y,y ∈ o.1→qh5 y)∧SrcI code o.2.1 o.2.2.1):=by
  intro d
  induction d with
  | zero =>
   intro j x a' s' hs hj hx hok
   refine EvQ.succ ?_
   simp only [qds]
   have:j=k:=by omega
   subst this
   exact EvQ.ff (qp (by omega)) (EvQ.done ⟨⟨hx,hok⟩,hs⟩)
  | succ d ih =>
   intro j x a' s' hs hj hx hok
   refine EvQ.succ ?_
   simp only [qds]
   have hlt:(2:Nat) ^ j<2 ^ k:=Nat.pow_lt_pow_right (by decide) (by omega)
   refine EvQ.tt (qn (by omega)) ?_
   have hj4:j<4:=by omega
   refine EvQ.bindN (b:=([(⟨#[97]⟩:ByteArray),(⟨#[98]⟩:ByteArray),(⟨#[99]⟩:ByteArray),(⟨#[100]⟩:ByteArray)]:List ByteArray)[j]'(by simpa using hj4)) (by rw [hx];exact qaq (by simpa using hj4)) (EvQ.bind (qag 9 hc hs) ?_)
   rintro ⟨i10,i11,i12⟩ ⟨_,hs⟩
   refine EvQ.bindN (qbI (by omega)) ?_
   have e:W64 (2*((2 ^ j:Nat):Int))=((2 ^ (j+1):Nat):Int):=by
    rw [Nat.pow_succ];exact qpK (by omega)
   dsimp only
   rw [e]
   refine ih (j+1) _ _ _ hs (by omega) (by rw [jg,ji];omega) (qbb hok ⟨?_,qL (x:=1) (by decide) (by decide),qcF _,trivial⟩)
   rcases j with _|_|_|_|j
   ·show (1:Nat)≤1048576;decide
   ·show (1:Nat)≤1048576;decide
   ·show (1:Nat)≤1048576;decide
   ·show (1:Nat)≤1048576;decide
   ·omega
 unfold qdO
 refine EvQ.bind (qag 50 hc h) ?_
 rintro ⟨i1,i2,i3⟩ ⟨⟨⟨p0,p1⟩,_⟩,hs⟩
 refine EvQ.bind (qag 80 hc hs) ?_
 rintro ⟨i4,i5,i6⟩ ⟨⟨⟨q0,q1⟩,_⟩,hs⟩
 dsimp only at p0 p1 q0 q1
 have p2:=p1 (by decide)
 have q2:=q1 (by decide)
 refine EvQ.bind (pins k 0 [] i5 i6 hs (by omega) rfl (fun _ h=>by cases h)) ?_
 rintro ⟨x1,i7,i8,i9⟩ ⟨⟨hx1,hok1⟩,hs⟩
 dsimp only at hx1 hok1 hs ⊢
 refine EvQ.bindN (qbI (by omega)) ?_
 have arcs:∀ (d j:Nat) (x:List qaw) (a' s':Int),SrcI code a' s'→j+d=k→x.length≤j→(∀ y,y ∈ x→qhY y) →
   EvQ (fun n=>qcN ⟨code,a,s⟩ nm truth i1 i4 x1 (x1++[(⟨(⟨#[121]⟩:ByteArray),2,0,false⟩:qaa)]) n x a' s' (j:Int)) (fun o=>(o.1.length≤k∧∀ y,y ∈ o.1→qhY y)∧SrcI code o.2.1 o.2.2.1):=by
  intro d
  induction d with
  | zero =>
   intro j x a' s' hs hj hx hok
   refine EvQ.succ ?_
   simp only [qcN]
   have h9:x.length≤k:=by omega
   exact EvQ.ff (qp (by omega)) (EvQ.done ⟨⟨h9,hok⟩,hs⟩)
  | succ d ih =>
   intro j x a' s' hs hj hx hok
   refine EvQ.succ ?_
   simp only [qcN,wS j]
   refine EvQ.tt (qn (by omega)) (EvQ.bind (hs0 _ _ _ _ j (by omega)) (fun r1 hr1=>?_))
   refine EvQ.bif (fun _=>?_) (fun _=>ih (j+1) x a' s' hs (by omega) (by omega) hok)
   refine EvQ.bind (qmG (qL (by decide) (by decide)) (qL (by omega) (by omega)) (qL (by omega) (by omega)) hr1 hc hs) ?_
   rintro ⟨r2,i16,i17⟩ ⟨h2,hs⟩
   refine EvQ.bindN (qbI (by omega)) ?_
   exact ih (j+1) _ _ _ hs (by omega) (by rw [jg,ji];omega) (qbb hok h2)
 refine EvQ.bind (arcs k 0 [] i7 i8 hs (by omega) (jB _) (fun _ h=>by cases h)) ?_
 rintro ⟨x4,i13,i14,i15⟩ ⟨⟨hx4,hok4⟩,hs⟩
 dsimp only at hx4 hok4 hs
 refine EvQ.done ⟨⟨hnm,qL (x:=1) (by decide) (by decide),⟨?_,?_⟩,⟨?_,hok4⟩,⟨?_,htr⟩,qL (x:=i1) (by omega) (by omega),qL (x:=i4) (by omega) (by omega)⟩,hs⟩
 ·show (x1++_).length≤_
  rw [jg,ji];omega
 ·exact qbb hok1 ⟨by show (1:Nat)≤1048576;decide,qL (x:=2) (by decide) (by decide),qL (x:=0) (by decide) (by decide),trivial⟩
 ·show x4.length≤_;omega
 ·show truth.length≤_;omega
theorem qix {xs:List Int} (h:xs.all (fun x=>decide (-1000≤x)&&decide (x≤1000))=true):∀ x,x ∈ xs→okI x:=by
 intro x hx
 have:=List.all_eq_true.1 h x hx
 simp only [jh,decide_eq_true_eq] at this
 exact qL (by omega) (by omega)
theorem qnH {nm:ByteArray} {kind edge:Int} (hnm:okS nm) (hk:okI kind) (he:okI edge) (hc:CodeOk code) (h:SrcI code a s) :
  EvQ (fun n=>qdd n ⟨code,a,s⟩ nm kind edge) (fun o=>qi5 o.1∧SrcI code o.2.1 o.2.2):=by
 have z:∀ x:Int,-1000≤x→x≤1000→okI x:=fun x h1 h2=>qL (by omega) (by omega)
 unfold qdd
 refine EvQ.bind (qag 50 hc h) ?_
 rintro ⟨i1,i2,i3⟩ ⟨⟨⟨p0,p1⟩,_⟩,hs⟩
 refine EvQ.bind (qag 80 hc hs) ?_
 rintro ⟨i4,i5,i6⟩ ⟨⟨⟨q0,q1⟩,_⟩,hs⟩
 dsimp only at p0 p1 q0 q1
 have p2:=p1 (by decide)
 have q2:=q1 (by decide)
 refine EvQ.bind (qag 9 hc hs) ?_
 rintro ⟨i7,i8,i9⟩ ⟨_,hs⟩
 refine EvQ.bind (qag 9 hc hs) ?_
 rintro ⟨i10,i11,i12⟩ ⟨_,hs⟩
 refine EvQ.bind (qmG he (z _ (by decide) (by decide)) (z _ (by decide) (by decide)) (z _ (by decide) (by decide)) hc hs) ?_
 rintro ⟨r1,i13,i14⟩ ⟨h1,hs⟩
 refine EvQ.bind (qmG (z _ (by decide) (by decide)) (z _ (by decide) (by decide)) (z _ (by decide) (by decide)) (z _ (by decide) (by decide)) hc hs) ?_
 rintro ⟨r2,i15,i16⟩ ⟨h2,hs⟩
 refine EvQ.bind (qmG (z _ (by decide) (by decide)) (z _ (by decide) (by decide)) (z _ (by decide) (by decide)) (z _ (by decide) (by decide)) hc hs) ?_
 rintro ⟨r3,i17,i18⟩ ⟨h3,hs⟩
 dsimp only at h1 h2 h3 hs ⊢
 have ha:∀ x,x ∈ [r1,r2,r3]→qhY x:=by
  intro x hx
  simp only [jM,jA,or_false] at hx
  rcases hx with rfl|rfl|rfl<;>assumption
 have hp:∀ x,x ∈ [(⟨(⟨#[100]⟩:ByteArray),1,W64 (1+i7),false⟩:qaa),(⟨(⟨#[99,107]⟩:ByteArray),1,W64 (1+i10),true⟩:qaa),(⟨(⟨#[113]⟩:ByteArray),2,0,false⟩:qaa)]→qh5 x:=by
  intro x hx
  simp only [jM,jA,or_false] at hx
  rcases hx with rfl|rfl|rfl
  ·exact ⟨by show (1:Nat)≤1048576;decide,z 1 (by decide) (by decide),qcF _,trivial⟩
  ·exact ⟨by show (2:Nat)≤1048576;decide,z 1 (by decide) (by decide),qcF _,trivial⟩
  ·exact ⟨by show (1:Nat)≤1048576;decide,z 2 (by decide) (by decide),z 0 (by decide) (by decide),trivial⟩
 refine EvQ.bif (fun _=>?_) (fun _=>?_)
 ·refine EvQ.bind (qmG (z _ (by decide) (by decide)) (z _ (by decide) (by decide)) (z _ (by decide) (by decide)) (z _ (by decide) (by decide)) hc hs) ?_
  rintro ⟨r4,i19,i20⟩ ⟨h4,hs⟩
  refine EvQ.bindN (qbI (by simp)) ?_
  exact EvQ.done ⟨⟨hnm,hk,⟨by simp,hp⟩,⟨by simp,qbb ha h4⟩,⟨jB _,fun _ h=>by cases h⟩,z i1 (by omega) (by omega),z i4 (by omega) (by omega)⟩,hs⟩
 ·exact EvQ.done ⟨⟨hnm,hk,⟨by simp,hp⟩,⟨by simp,ha⟩,⟨jB _,fun _ h=>by cases h⟩,z i1 (by omega) (by omega),z i4 (by omega) (by omega)⟩,hs⟩
theorem sense1a:SenseOk 1 [1,0]:=by
 intro nm ps i j p hp
 obtain rfl:p=0:=by omega
 exact ⟨_,Ev.add 4 (fun m=>rfl),qL (by decide) (by decide)⟩
theorem sense1b:SenseOk 1 [0,1]:=by
 intro nm ps i j p hp
 obtain rfl:p=0:=by omega
 exact ⟨_,Ev.add 4 (fun m=>rfl),qL (by decide) (by decide)⟩
theorem sense2a:SenseOk 2 [1,1,1,0]:=by
 intro nm ps i j p hp
 rcases p with _|_|p
 ·exact ⟨_,Ev.add 8 (fun m=>rfl),qL (by decide) (by decide)⟩
 ·exact ⟨_,Ev.add 8 (fun m=>rfl),qL (by decide) (by decide)⟩
 ·omega
theorem sense2b:SenseOk 2 [0,1,1,0]:=by
 intro nm ps i j p hp
 rcases p with _|_|p
 ·exact ⟨_,Ev.add 8 (fun m=>rfl),qL (by decide) (by decide)⟩
 ·exact ⟨_,Ev.add 8 (fun m=>rfl),qL (by decide) (by decide)⟩
 ·omega
theorem sense3:SenseOk 3 [0,1,0,1,0,0,1,1]:=by
 intro nm ps i j p hp
 rcases p with _|_|_|p
 ·exact ⟨_,Ev.add 12 (fun m=>rfl),qL (by decide) (by decide)⟩
 ·exact ⟨_,Ev.add 12 (fun m=>rfl),qL (by decide) (by decide)⟩
 ·exact ⟨_,Ev.add 12 (fun m=>rfl),qL (by decide) (by decide)⟩
 ·omega
theorem qq4 (hc:CodeOk code) (h:SrcI code a s):EvQ (fun n=>qgR n ⟨code,a,s⟩) (fun o=>qeP o.1∧SrcI code o.2.1 o.2.2):=by
 have z:∀ x:Int,-1000≤x→x≤1000→okI x:=fun x h1 h2=>qL (by omega) (by omega)
 unfold qgR
 refine EvQ.bind (qkS (k:=1) (by decide) rfl sense1a (by show (3:Nat)≤1048576;decide) (qix rfl) hc h) ?_
 rintro ⟨r1,i1,i2⟩ ⟨h1,hs⟩
 refine EvQ.bind (qkS (k:=1) (by decide) rfl sense1b (by show (3:Nat)≤1048576;decide) (qix rfl) hc hs) ?_
 rintro ⟨r2,i3,i4⟩ ⟨h2,hs⟩
 refine EvQ.bind (qkS (k:=2) (by decide) rfl sense2a (by show (4:Nat)≤1048576;decide) (qix rfl) hc hs) ?_
 rintro ⟨r3,i5,i6⟩ ⟨h3,hs⟩
 refine EvQ.bind (qkS (k:=2) (by decide) rfl sense2b (by show (3:Nat)≤1048576;decide) (qix rfl) hc hs) ?_
 rintro ⟨r4,i7,i8⟩ ⟨h4,hs⟩
 refine EvQ.bind (qkS (k:=3) (by decide) rfl sense3 (by show (3:Nat)≤1048576;decide) (qix rfl) hc hs) ?_
 rintro ⟨r5,i9,i10⟩ ⟨h5,hs⟩
 refine EvQ.bind (qnH (by show (4:Nat)≤1048576;decide) (z _ (by decide) (by decide)) (z _ (by decide) (by decide)) hc hs) ?_
 rintro ⟨r6,i11,i12⟩ ⟨h6,hs⟩
 refine EvQ.bind (qnH (by show (5:Nat)≤1048576;decide) (z _ (by decide) (by decide)) (z _ (by decide) (by decide)) hc hs) ?_
 rintro ⟨r7,i13,i14⟩ ⟨h7,hs⟩
 refine EvQ.bind (qnH (by show (5:Nat)≤1048576;decide) (z _ (by decide) (by decide)) (z _ (by decide) (by decide)) hc hs) ?_
 rintro ⟨r8,i15,i16⟩ ⟨h8,hs⟩
 refine EvQ.done ⟨⟨⟨by simp,fun x hx=>?_⟩⟩,hs⟩
 simp only [jM,jA,or_false] at hx
 rcases hx with rfl|rfl|rfl|rfl|rfl|rfl|rfl|rfl<;>assumption
end
end Go.Fw


namespace Go.Fw
open Go
set_option maxRecDepth 100000
section
variable {code:List (IntK .u8)} {a s:Int}
theorem qiX (b:IntK .u8):(strOf [b]).size=1:=rfl
theorem qmc {x y:ByteArray} (h:x.size+y.size≤1048576):catB x y=some (x++y):=by
 unfold catB
 rw [if_pos]
 have:IntKind.i64.max=9223372036854775807:=rfl
 omega
theorem qpB:∀ (d:Nat) (k:Int),d≤15→0≤k→k<((10 ^ (d+1):Nat):Int)→EvQ (fun n=>qS n k) (fun z=>z.size≤d+1):=by
 intro d
 induction d with
 | zero =>
  intro k hd h0 h1
  refine EvQ.succ ?_
  simp only [qS]
  refine EvQ.ff (by simp;omega) (EvQ.tt (by simp;omega) (EvQ.done ?_))
  rw [qiX]
  exact jf _
 | succ d ih =>
  intro k hd h0 h1
  refine EvQ.succ ?_
  simp only [qS]
  refine EvQ.ff (by simp;omega) (EvQ.bif (fun _=>EvQ.done (by rw [qiX];omega)) (fun h2=>?_))
  have hp:(10:Nat) ^ (d+1+1)≤10 ^ 17:=Nat.pow_le_pow_right (by decide) (by omega)
  have hk:k≤9223372036854775807:=by
   have:(10:Nat) ^ 17≤9223372036854775807:=by decide
   omega
  have e:k.tdiv 10=k / 10:=Int.tdiv_eq_ediv_of_nonneg h0
  have e1:W64 (k.tdiv 10)=k / 10:=by rw [e];exact qaE (by omega) (by omega)
  rw [e1]
  have hlt:k / 10<((10 ^ (d+1):Nat):Int):=by rw [Nat.pow_succ] at h1;omega
  refine EvQ.bind (ih (k / 10) (by omega) (by omega) hlt) (fun r2 hr2=>?_)
  refine EvQ.bindN (qmc (by rw [qiX];omega)) (EvQ.done ?_)
  rw [ByteArray.size_append,qiX]
  omega
theorem qnZ {k:Nat} (h:k≤1000):EvQ (fun n=>qS n (k:Int)) (fun z=>z.size≤4):=qpB 3 k (by decide) (by omega) (by omega)
theorem qp9 {y:Int} (h0:0≤y) (h1:y≤7):∃ p:Nat,idx ([2,2,3,3,4,3,3,3]:List Int) y=some (p:Int)∧2≤p∧p≤4:=by
 have:y=0∨y=1∨y=2∨y=3∨y=4∨y=5∨y=6∨y=7:=by omega
 rcases this with rfl|rfl|rfl|rfl|rfl|rfl|rfl|rfl
 ·exact ⟨2,rfl,by decide,by decide⟩
 ·exact ⟨2,rfl,by decide,by decide⟩
 ·exact ⟨3,rfl,by decide,by decide⟩
 ·exact ⟨3,rfl,by decide,by decide⟩
 ·exact ⟨4,rfl,by decide,by decide⟩
 ·exact ⟨3,rfl,by decide,by decide⟩
 ·exact ⟨3,rfl,by decide,by decide⟩
 ·exact ⟨3,rfl,by decide,by decide⟩
theorem qqb {y:Int} (h0:0≤y) (h1:y<12):∃ p:Int,idx ([0,1,2,2,3,4,5,5,5,6,7,1]:List Int) y=some p∧0≤p∧p≤7:=by
 have:y=0∨y=1∨y=2∨y=3∨y=4∨y=5∨y=6∨y=7∨y=8∨y=9∨y=10∨y=11:=by omega
 rcases this with rfl|rfl|rfl|rfl|rfl|rfl|rfl|rfl|rfl|rfl|rfl|rfl<;>exact ⟨_,rfl,by decide,by decide⟩
theorem qhU {α:Type} {xs:List α} (h:xs.length≤1048576):appS ([]:List α) xs=some xs:=by
 have:=qbN (xs:=([]:List α)) (ys:=xs) (by simp;omega)
 rwa [List.nil_append] at this
theorem qqp {x2:List ByteArray} {y1:Int} {p:Nat} (hp:idx ([2,2,3,3,4,3,3,3]:List Int) y1=some (p:Int)) (h2:2≤p) (h4:p≤4) (hx2:x2.length≤100) (hc:CodeOk code) :
  ∀ (d j:Nat) (x:List Int) (a' s':Int),SrcI code a' s'→j+d+1=p→x.length=j→(∀ y,y ∈ x→okI y) →
   EvQ (fun n=>qcQ ⟨code,a,s⟩ x2 y1 n x a' s' (j:Int)) (fun o=>(o.1.length+1=p∧∀ y,y ∈ o.1→okI y)∧SrcI code o.2.1 o.2.2.1):=by
 have ep:W64 ((p:Int)-1)=((p-1:Nat):Int):=by rw [qaE (by omega) (by omega)];omega
 intro d
 induction d with
 | zero =>
  intro j x a' s' hs hj hx hok
  refine EvQ.succ ?_
  simp only [qcQ]
  refine EvQ.bindN hp ?_
  rw [ep]
  exact EvQ.ff (qp (by omega)) (EvQ.done ⟨⟨by dsimp only;omega,hok⟩,hs⟩)
 | succ d ih =>
  intro j x a' s' hs hj hx hok
  refine EvQ.succ ?_
  simp only [qcQ]
  refine EvQ.bindN hp ?_
  rw [ep]
  refine EvQ.tt (qn (by omega)) (EvQ.bind (qag _ hc hs) ?_)
  rintro ⟨i13,i14,i15⟩ ⟨_,hs⟩
  refine EvQ.bind (qag 3 hc hs) ?_
  rintro ⟨i16,i17,i18⟩ ⟨_,hs⟩
  refine EvQ.bind (R:=okI) (EvQ.bif (fun _=>EvQ.done (qcF _)) (fun _=>EvQ.done (qcF _))) (fun i19 hi=>?_)
  refine EvQ.bind (R:=fun _=>True) (EvQ.bif (fun _=>EvQ.done trivial) (fun _=>EvQ.done trivial)) (fun b3 _=>?_)
  rw [wS j]
  refine EvQ.bif (fun _=>?_) (fun _=>?_)
  ·exact EvQ.bindN (qhU (by omega)) (EvQ.bindN (qbI (by omega)) (ih (j+1) _ _ _ hs (by omega) (by rw [jg,ji];omega) (qbb hok (qL (by decide) (by decide)))))
  ·exact EvQ.bindN (qhU (by omega)) (EvQ.bindN (qbI (by omega)) (ih (j+1) _ _ _ hs (by omega) (by rw [jg,ji];omega) (qbb hok hi)))
structure InsI (x:qu):Prop where
 ok:qkq x
 l2:2≤x.Aj.length
 l5:x.Aj.length≤5
theorem qp1 (hc:CodeOk code):∀ (r:Nat) (x2:List ByteArray) (x3:List qu) (a' s':Int),SrcI code a' s'→x3.length+r≤14→x2.length=x3.length+3→(∀ y,y ∈ x2→okS y)→(∀ y,y ∈ x3→InsI y) →
  EvQ (fun n=>qdA ⟨code,a,s⟩ n x2 x3 a' s' (r:Int)) (fun o=>(o.1.length=o.2.1.length+3∧o.2.1.length=x3.length+r∧(∀ y,y ∈ o.1→okS y)∧∀ y,y ∈ o.2.1→InsI y)∧SrcI code o.2.2.1 o.2.2.2.1):=by
 intro r
 induction r with
 | zero =>
  intro x2 x3 a' s' hs hl h23 h2 h3
  refine EvQ.succ ?_
  simp only [qdA]
  exact EvQ.ff rfl (EvQ.done ⟨⟨h23,rfl,h2,h3⟩,hs⟩)
 | succ r ih =>
  intro x2 x3 a' s' hs hl h23 h2 h3
  refine EvQ.succ ?_
  simp only [qdA]
  refine EvQ.tt (by simp) (EvQ.bind (qag 12 hc hs) ?_)
  rintro ⟨i7,i8,i9⟩ ⟨⟨⟨q0,q1⟩,_⟩,hs⟩
  dsimp only at q0 q1 hs ⊢
  obtain ⟨y1,hy1,y10,y17⟩:=qqb q0 (q1 (by decide))
  obtain ⟨p,hp,p2,p4⟩:=qp9 y10 y17
  refine EvQ.bindN hy1 (EvQ.bind (qnZ (show x3.length≤1000 by omega)) (fun r1 hr1=>?_))
  have z1:(⟨#[117]⟩:ByteArray).size=1:=rfl
  have z2:(⟨#[110]⟩:ByteArray).size=1:=rfl
  refine EvQ.bindN (qmc (by rw [z1];omega)) (EvQ.bind (qqp hp p2 p4 (by omega) hc (p-1) 0 [] i8 i9 hs (by omega) rfl (fun _ h=>by cases h)) ?_)
  rintro ⟨x4,i10,i11,i12⟩ ⟨⟨hx4,hok4⟩,hs⟩
  dsimp only at hx4 hok4 hs ⊢
  refine EvQ.bindN (qhU (by omega)) (EvQ.bindN (qbI (by omega)) (EvQ.bind (qnZ (show x2.length≤1000 by omega)) (fun r2 hr2=>?_)))
  refine EvQ.bindN (qmc (by rw [z2];omega)) (EvQ.bindN (qbI (by omega)) (EvQ.bindN (qbI (by omega)) ?_))
  have e:W64 (((r+1:Nat):Int)-1)=(r:Int):=by rw [qaE (by omega) (by omega)];omega
  rw [e]
  refine (ih _ _ _ _ hs (by rw [jg,ji];omega) (by rw [jg,jg,ji,ji];omega) (qbb h2 (by show (_++_:ByteArray).size≤_;rw [ByteArray.size_append,z2];omega))
   (qbb h3 ⟨⟨by show (_++_:ByteArray).size≤_;rw [ByteArray.size_append,z1];omega,qL (x:=y1) (by omega) (by omega),⟨by show (_++_:List Int).length≤_;rw [jg,ji];omega,qbb hok4 (qL (by omega) (by omega))⟩⟩,by show _≤(_++_:List Int).length;rw [jg,ji];omega,by show (_++_:List Int).length≤_;rw [jg,ji];omega⟩)).mono (fun o ho=>⟨⟨ho.1.1,by rw [ho.1.2.1,jg,ji];omega,ho.1.2.2⟩,ho.2⟩)
theorem qfG {α:Type} {ok:α→Prop} {xs:List α} {j:Int} {y:α} (h:∀ x,x ∈ xs→ok x) (hy:ok y):∀ x,x ∈ setS xs j y→ok x:=by
 intro x hx
 unfold setS at hx
 rcases List.mem_or_eq_of_mem_set hx with hx|rfl
 ·exact h x hx
 ·exact hy
theorem qq7 {wild:Bool} {x2:List ByteArray} {x3:List qu} (hl:x3.length≤14) (hx2:x2.length≤100) (hc:CodeOk code):∀ (d j:Nat) (x:List qu) (a' s':Int),SrcI code a' s'→j+d=x3.length→x.length=x3.length→(∀ y,y ∈ x→InsI y) →
  EvQ (fun n=>qcL ⟨code,a,s⟩ wild x2 x3 n x a' s' (j:Int)) (fun o=>(o.1.length=x3.length∧∀ y,y ∈ o.1→InsI y)∧SrcI code o.2.1 o.2.2.1):=by
 intro d
 induction d with
 | zero =>
  intro j x a' s' hs hj hx hok
  refine EvQ.succ ?_
  simp only [qcL]
  exact EvQ.ff (qp (by omega)) (EvQ.done ⟨⟨hx,hok⟩,hs⟩)
 | succ d ih =>
  intro j x a' s' hs hj hx hok
  have hjx:j<x.length:=by omega
  refine EvQ.succ ?_
  simp only [qcL,wS j]
  refine EvQ.tt (qn (by omega)) (EvQ.bind (R:=fun o:Int × Int × Bool=>SrcI code o.1 o.2.1) (EvQ.bind (qag 4 hc hs) ?_) ?_)
  ·rintro ⟨i28,i29,i30⟩ ⟨_,hs⟩
   refine EvQ.bif (fun _=>?_) (fun _=>EvQ.done hs)
   refine EvQ.bindN (qaq hjx) (EvQ.bif (fun _=>EvQ.done hs) (fun _=>EvQ.bindN (qaq hjx) (EvQ.bif (fun _=>EvQ.done hs) (fun _=>EvQ.done hs))))
  ·rintro ⟨i23,i24,b4⟩ hs
   dsimp only at hs ⊢
   refine EvQ.bif (fun _=>?_) (fun _=>ih (j+1) x _ _ hs (by omega) hx hok)
   refine EvQ.bindN (qaq hjx) (EvQ.bind (qag _ hc hs) ?_)
   rintro ⟨i25,i26,i27⟩ ⟨_,hs⟩
   have hi:=hok _ (jr hjx)
   have h0:0<x[j].Aj.length:=by have:=hi.l2;omega
   refine EvQ.bindN (b:=x[j].Aj[0]) (qaq (j:=0) h0) ?_
   refine ih (j+1) _ _ _ hs (by omega) (by rw [qcy];exact hx) (qfG hok ⟨⟨hi.ok.As,hi.ok.Ba,⟨by show (setS _ _ _).length≤_;rw [qcy];exact hi.ok.Aj.1,qfG hi.ok.Aj.2 (qcF _)⟩⟩,by show _≤(setS _ _ _).length;rw [qcy];exact hi.l2,by show (setS _ _ _).length≤_;rw [qcy];exact hi.l5⟩)
structure DesI (d:qg):Prop where
 ok:qgX d
 sm:smallD d
 n1:1≤d.Aj.length
 p1:1≤d.Af.length
theorem qoW {most:Int} {wild:Bool} (h2:2≤most) (h14:most≤14) (hc:CodeOk code) (h:SrcI code a s) :
  EvQ (fun n=>qgJ n ⟨code,a,s⟩ most wild) (fun o=>DesI o.1∧SrcI code o.2.1 o.2.2):=by
 have z:∀ x:Int,-1000≤x→x≤1000→okI x:=fun x h1 h2=>qL (by omega) (by omega)
 unfold qgJ
 refine EvQ.bindN (qhU (by simp)) (EvQ.bind (qag _ hc h) ?_)
 rintro ⟨i1,i2,i3⟩ ⟨⟨⟨q0,q1⟩,_⟩,hs⟩
 have em:W64 (most-1)=most-1:=qaE (by omega) (by omega)
 rw [em] at q1
 dsimp only at q0 q1 hs ⊢
 have q2:=q1 (by omega)
 obtain ⟨m,hm⟩:∃ m:Nat,2+i1=(m:Int):=⟨(2+i1).toNat,by omega⟩
 rw [wO (2+i1),hm]
 have hn0:∀ y,y ∈ [(⟨#[110,99,107]⟩:ByteArray),(⟨#[110,97]⟩:ByteArray),(⟨#[110,98]⟩:ByteArray)]→okS y:=by
  intro y hy
  simp only [jM,jA,or_false] at hy
  rcases hy with rfl|rfl|rfl
  ·show (3:Nat)≤1048576;decide
  ·show (2:Nat)≤1048576;decide
  ·show (2:Nat)≤1048576;decide
 refine EvQ.bind (qp1 hc m _ [] i2 i3 hs (by simp;omega) rfl hn0 (fun _ h=>by cases h)) ?_
 rintro ⟨x2,x3,i4,i5,i6⟩ ⟨⟨l23,l3,hn,hi⟩,hs⟩
 dsimp only at l23 l3 hn hi hs ⊢
 have l3:x3.length=m:=by simpa using l3
 refine EvQ.bind (qq7 (wild:=wild) (by omega) (by omega) hc x3.length 0 x3 i4 i5 hs (by omega) rfl hi) ?_
 rintro ⟨x13,i20,i21,i22⟩ ⟨⟨l13,h13⟩,hs⟩
 dsimp only at l13 h13 hs ⊢
 have hp:∀ y,y ∈ [(⟨(⟨#[99,107]⟩:ByteArray),1,0⟩:qac),(⟨(⟨#[97]⟩:ByteArray),1,1⟩:qac),(⟨(⟨#[98]⟩:ByteArray),1,2⟩:qac)]→qmr y:=by
  intro y hy
  simp only [jM,jA,or_false] at hy
  rcases hy with rfl|rfl|rfl
  ·exact ⟨by show (2:Nat)≤1048576;decide,z _ (by decide) (by decide),z _ (by decide) (by decide)⟩
  ·exact ⟨by show (1:Nat)≤1048576;decide,z _ (by decide) (by decide),z _ (by decide) (by decide)⟩
  ·exact ⟨by show (1:Nat)≤1048576;decide,z _ (by decide) (by decide),z _ (by decide) (by decide)⟩
 refine EvQ.bindN (qhU (by simp)) (EvQ.bindN (qbI (by simp)) (EvQ.bind (qag 2 hc hs) ?_))
 have hp2:=qbb (y:=(⟨(⟨#[121]⟩:ByteArray),2,W64 ((x2.length:Int)-1)⟩:qac)) hp ⟨by show (1:Nat)≤1048576;decide,z 2 (by decide) (by decide),qcF _⟩
 have fin:∀ {ps:List qac},1≤ps.length→ps.length≤8→(∀ y,y ∈ ps→qmr y)→DesI ⟨x13,x2,ps⟩:=fun {ps} h1 h8 hps=>by
  refine ⟨⟨⟨by show x13.length≤_;omega,fun y hy=>(h13 y hy).ok⟩,⟨by show x2.length≤_;omega,hn⟩,⟨by show ps.length≤_;omega,hps⟩⟩,⟨by show x13.length≤_;omega,by show x2.length≤_;omega,h8,fun i hi=>?_⟩,by show 1≤x2.length;omega,h1⟩
  have hi':i<x13.length:=hi
  have:=h13 _ (jr hi')
  show 2≤(gt x13 i).Aj.length∧(gt x13 i).Aj.length≤5
  rw [qgE hi']
  exact ⟨this.l2,this.l5⟩
 rintro ⟨i31,i32,i33⟩ ⟨_,hs⟩
 refine EvQ.bif (fun _=>?_) (fun _=>EvQ.done ⟨fin (by simp) (by simp) hp2,hs⟩)
 refine EvQ.bind (qag _ hc hs) ?_
 rintro ⟨i34,i35,i36⟩ ⟨_,hs⟩
 exact EvQ.bindN (qbI (by simp)) (EvQ.done ⟨fin (by simp) (by simp) (qbb hp2 ⟨by show (1:Nat)≤1048576;decide,z 2 (by decide) (by decide),qcF _⟩),hs⟩)
end
end Go.Fw


namespace Go.Fw
open Go
set_option maxRecDepth 100000
section
variable {code:List (IntK .u8)} {a s:Int}
structure WirI (x:qW):Prop where
 ok:qjP x
 p1:1≤x.Ak.length∧x.Ak.length≤100
 r1:1≤x.Bh.length
 c1:1≤x.Be.length
 s1:x.Ay.length≤100
theorem qkK {xs:List Int} (h:xs.length≤1048576):Ev (fun n=>qen n xs) xs:=by
 unfold qen
 exact Ev.bindN (qhU h) .done
theorem qp2 (hc:CodeOk code):∀ (r:Nat) (x1 x2 x3:List Int) (a' s':Int),SrcI code a' s'→r≤10→(1≤x1.length∧x1.length+r≤50)→(1≤x2.length∧x2.length+r≤50)→(1≤x3.length∧x3.length+r≤50) →
  (∀ y,y ∈ x1→okI y)→(∀ y,y ∈ x2→okI y)→(∀ y,y ∈ x3→okI y) →
  EvQ (fun n=>qb7 ⟨code,a,s⟩ n x1 x2 x3 a' s' (r:Int)) (fun o=>(((1≤o.1.length∧o.1.length≤50)∧∀ y,y ∈ o.1→okI y)∧((1≤o.2.1.length∧o.2.1.length≤50)∧∀ y,y ∈ o.2.1→okI y)∧(1≤o.2.2.1.length∧o.2.2.1.length≤50)∧∀ y,y ∈ o.2.2.1→okI y)∧SrcI code o.2.2.2.1 o.2.2.2.2.1):=by
 intro r
 induction r with
 | zero =>
  intro x1 x2 x3 a' s' hs hr l1 l2 l3 h1 h2 h3
  refine EvQ.succ ?_
  simp only [qb7]
  exact EvQ.ff rfl (EvQ.done ⟨⟨⟨⟨l1.1,by dsimp only;omega⟩,h1⟩,⟨⟨l2.1,by dsimp only;omega⟩,h2⟩,⟨l3.1,by dsimp only;omega⟩,h3⟩,hs⟩)
 | succ r ih =>
  intro x1 x2 x3 a' s' hs hr l1 l2 l3 h1 h2 h3
  have e:W64 (((r+1:Nat):Int)-1)=(r:Int):=by rw [qaE (by omega) (by omega)];omega
  have ok_n:∀ {x:Int} {k:Int},0≤x→x<k→k≤1000→okI x:=fun h0 h1 h2=>qL (by omega) (by omega)
  refine EvQ.succ ?_
  simp only [qb7,e]
  refine EvQ.tt (by simp) (EvQ.bindE (qkK (by omega)) (EvQ.bind (qag _ hc hs) ?_))
  rintro ⟨i10,i11,i12⟩ ⟨⟨⟨p0,p1⟩,_⟩,hs⟩
  refine EvQ.bindN (qbI (by omega)) (EvQ.bindE (qkK (by omega)) (EvQ.bind (qag _ hc hs) ?_))
  rintro ⟨i13,i14,i15⟩ ⟨⟨⟨q0,q1⟩,_⟩,hs⟩
  refine EvQ.bindN (qbI (by omega)) (EvQ.bindE (qkK (by omega)) (EvQ.bind (qag _ hc hs) ?_))
  rintro ⟨i16,i17,i18⟩ ⟨⟨⟨t0,t1⟩,_⟩,hs⟩
  dsimp only at p0 p1 q0 q1 t0 t1 hs
  refine EvQ.bindN (qbI (by omega)) ?_
  exact ih _ _ _ _ _ hs (by omega) (by rw [jg,ji];omega) (by rw [jg,ji];omega) (by rw [jg,ji];omega)
   (qbb h1 (ok_n t0 (t1 (by decide)) (by decide))) (qbb h2 (ok_n q0 (q1 (by decide)) (by decide))) (qbb h3 (ok_n p0 (p1 (by omega)) (by omega)))
theorem qqa {r1:qW} {x3:List Int} (hc:CodeOk code) (hl:r1.Ay.length≤100) (h3:1≤x3.length∧x3.length≤50):∀ (d j:Nat) (x:List Int) (a' s':Int),SrcI code a' s'→j+d=r1.Ay.length→x.length=r1.Ay.length→(∀ y,y ∈ x→okI y) →
  EvQ (fun n=>qb6 ⟨code,a,s⟩ r1 x3 n x a' s' (j:Int)) (fun o=>(o.1.length=r1.Ay.length∧∀ y,y ∈ o.1→okI y)∧SrcI code o.2.1 o.2.2.1):=by
 intro d
 induction d with
 | zero =>
  intro j x a' s' hs hj hx hok
  refine EvQ.succ ?_
  simp only [qb6]
  exact EvQ.ff (qp (by omega)) (EvQ.done ⟨⟨hx,hok⟩,hs⟩)
 | succ d ih =>
  intro j x a' s' hs hj hx hok
  refine EvQ.succ ?_
  simp only [qb6,wS j]
  refine EvQ.tt (qn (by omega)) (EvQ.bind (qag _ hc hs) ?_)
  rintro ⟨i22,i23,i24⟩ ⟨⟨⟨q0,q1⟩,_⟩,hs⟩
  dsimp only at q0 q1 hs ⊢
  have q2:=q1 (by omega)
  exact EvQ.bindN (qaq (show j<x.length by omega)) (ih (j+1) _ _ _ hs (by omega) (by rw [qcy];exact hx) (qfG hok (qL (by omega) (by omega))))
theorem qqA {m:Nat} (hm:m≤100) (hc:CodeOk code) (h:SrcI code a s):EvQ (fun n=>qe3 n ⟨code,a,s⟩ (m:Int)) (fun o=>WirI o.1∧SrcI code o.2.1 o.2.2):=by
 have z:∀ x:Int,-1000≤x→x≤1000→okI x:=fun x h1 h2=>qL (by omega) (by omega)
 unfold qe3
 refine EvQ.bind (qag 6 hc h) ?_
 rintro ⟨i1,i2,i3⟩ ⟨⟨⟨p0,p1⟩,_⟩,hs⟩
 dsimp only at p0 p1 hs ⊢
 have p2:=p1 (by decide)
 have hL:Ev (fun n=>qfJ n (m:Int) i1) (⟨[-1],[0],[i1],List.replicate m 0⟩:qW):=by
  unfold qfJ
  exact Ev.bindN (qmp (by omega)) .done
 refine EvQ.bindE hL (EvQ.bind (qag 4 hc hs) ?_)
 rintro ⟨i4,i5,i6⟩ ⟨⟨⟨q0,q1⟩,_⟩,hs⟩
 dsimp only at q0 q1 hs ⊢
 have q2:=q1 (by decide)
 obtain ⟨r,rfl⟩:∃ r:Nat,i4=(r:Int):=⟨i4.toNat,by omega⟩
 have one:∀ {x:Int},okI x→∀ y,y ∈ [x]→okI y:=fun hx y hy=>by obtain rfl:=List.mem_singleton.1 hy;exact hx
 refine EvQ.bind (qp2 hc r [i1] [0] [-1] i5 i6 hs (by omega) (by simp;omega) (by simp;omega) (by simp;omega) (one (z _ (by omega) (by omega))) (one (z _ (by decide) (by decide))) (one (z _ (by decide) (by decide)))) ?_
 rintro ⟨x1,x2,x3,i7,i8,i9⟩ ⟨⟨⟨l1,h1⟩,⟨l2,h2⟩,l3,h3⟩,hs⟩
 dsimp only at l1 h1 l2 h2 l3 h3 hs ⊢
 refine EvQ.bind (qqa (r1:=⟨[-1],[0],[i1],List.replicate m 0⟩) hc (by simp;omega) l3 m 0 (List.replicate m 0) i7 i8 hs (by simp) rfl (fun y hy=>by obtain ⟨_,rfl⟩:=List.mem_replicate.1 hy;exact z _ (by decide) (by decide))) ?_
 rintro ⟨x7,i19,i20,i21⟩ ⟨⟨l7,h7⟩,hs⟩
 have l7:x7.length=m:=by simpa using l7
 exact EvQ.done ⟨⟨⟨⟨by show x3.length≤_;omega,h3⟩,⟨by show x2.length≤_;omega,h2⟩,⟨by show x1.length≤_;omega,h1⟩,⟨by show x7.length≤_;omega,h7⟩⟩,⟨l3.1,by show x3.length≤_;omega⟩,l2.1,l1.1,by show x7.length≤_;omega⟩,hs⟩
structure BlkI (b:qc):Prop where
 lib:qeP b.Ac
 des:DesI b.Aa
 wl:b.Ah.length=b.Aa.Aj.length
 wi:∀ y,y ∈ b.Ah→WirI y
theorem BlkI.ok {b:qc} (h:BlkI b):qaI b:=⟨h.lib,h.des.ok,⟨by rw [h.wl];exact h.des.ok.Aj.1,fun y hy=>(h.wi y hy).ok⟩⟩
theorem qnU {most:Int} {wild:Bool} (h2:2≤most) (h14:most≤14) (hc:CodeOk code) (h:SrcI code a s) :
  EvQ (fun n=>qfK n ⟨code,a,s⟩ most wild) (fun o=>BlkI o.1∧SrcI code o.2.1 o.2.2):=by
 unfold qfK
 refine EvQ.bind (qq4 hc h) ?_
 rintro ⟨r1,i1,i2⟩ ⟨hl,hs⟩
 refine EvQ.bind (qoW h2 h14 hc hs) ?_
 rintro ⟨r2,i3,i4⟩ ⟨hd,hs⟩
 dsimp only at hl hd hs ⊢
 have hnn:=hd.sm.nn
 have hpl:=qaz hd.sm
 have main:∀ (d j:Nat) (x:List qW) (a' s':Int),SrcI code a' s'→j+d=r2.Aj.length→x.length=j→(∀ y,y ∈ x→WirI y) →
   EvQ (fun n=>qdt ⟨code,a,s⟩ r2 n x a' s' (j:Int)) (fun o=>(o.1.length=r2.Aj.length∧∀ y,y ∈ o.1→WirI y)∧SrcI code o.2.1 o.2.2.1):=by
  intro d
  induction d with
  | zero =>
   intro j x a' s' hs hj hx hok
   refine EvQ.succ ?_
   simp only [qdt]
   exact EvQ.ff (qp (by omega)) (EvQ.done ⟨⟨by dsimp only;omega,hok⟩,hs⟩)
  | succ d ih =>
   intro j x a' s' hs hj hx hok
   refine EvQ.succ ?_
   simp only [qdt,wS j]
   have hsl:(sinksL r2 (j:Int) (places r2).length).length≤78:=by
    have:(sinksL r2 (j:Int) (places r2).length).length≤(places r2).length:=by
     unfold sinksL
     rw [jy]
     refine jV (List.length_filter_le _ _) ?_
     rw [List.length_range];exact jf _
    omega
   refine EvQ.tt (qn (by omega)) (EvQ.bindE (qis hd.sm) (EvQ.bind (qqA (by omega) hc hs) ?_))
   rintro ⟨r4,i8,i9⟩ ⟨h4,hs⟩
   exact EvQ.bindN (qbI (by omega)) (ih (j+1) _ _ _ hs (by omega) (by rw [jg,ji];omega) (qbb hok h4))
 refine EvQ.bind (main r2.Aj.length 0 [] i3 i4 hs (by omega) rfl (fun _ h=>by cases h)) ?_
 rintro ⟨x1,i5,i6,i7⟩ ⟨⟨l1,h1⟩,hs⟩
 exact EvQ.done ⟨⟨hl,hd,l1,h1⟩,hs⟩
structure BlkO (b:qc):Prop where
 ok:qaI b
 sm:smallD b.Aa
theorem qnu (hc:CodeOk code) (h:SrcI code a s):EvQ (fun n=>qfr n ⟨code,a,s⟩) (fun o=>BlkO o.1∧SrcI code o.2.1 o.2.2):=by
 unfold qfr
 refine EvQ.bind (qag 3 hc h) ?_
 rintro ⟨i1,i2,i3⟩ ⟨_,hs⟩
 refine EvQ.bind (qnU (by decide) (by decide) hc hs) ?_
 rintro ⟨r1,i4,i5⟩ ⟨hb,hs⟩
 dsimp only at hb hs ⊢
 have hw1:1≤r1.Ah.length:=by rw [hb.wl];exact hb.des.n1
 have hw2:r1.Ah.length≤30:=by rw [hb.wl];exact hb.des.sm.nn
 refine EvQ.bind (qag _ hc hs) ?_
 rintro ⟨i6,i7,i8⟩ ⟨⟨⟨q0,q1⟩,_⟩,hs⟩
 dsimp only at q0 q1 hs ⊢
 have q2:=q1 (by omega)
 obtain ⟨k,rfl⟩:∃ k:Nat,i6=(k:Int):=⟨i6.toNat,by omega⟩
 have hk:k<r1.Ah.length:=by omega
 have hy:=hb.wi _ (jr hk)
 have W:∀ {y:qW},qjP y→BlkO ⟨r1.Ac,r1.Aa,setS r1.Ah (k:Int) y⟩:=fun {y} h=>⟨⟨hb.lib,hb.des.ok,⟨by show (setS _ _ _).length≤_;rw [qcy];omega,qfG (fun y hy=>(hb.wi y hy).ok) h⟩⟩,hb.des.sm⟩
 have z:∀ x:Int,-1000≤x→x≤1000→okI x:=fun x h1 h2=>qL (by omega) (by omega)
 have hp:=hy.p1
 have hr:=hy.r1
 have hcp:=hy.c1
 have hsk:=hy.s1
 refine EvQ.bind (qag 20 hc hs) ?_
 rintro ⟨i9,i10,i11⟩ ⟨_,hs⟩
 dsimp only at hs ⊢
 refine EvQ.bif (fun _=>?_) (fun _=>EvQ.bif (fun _=>?_) (fun _=>EvQ.bif (fun _=>?_) (fun _=>EvQ.bif (fun _=>?_) (fun _=>EvQ.bif (fun _=>?_) (fun _=>EvQ.bif (fun _=>?_) (fun _=>EvQ.done ⟨⟨hb.ok,hb.des.sm⟩,hs⟩))))))
 ·have e:subS r1.Ah 1 (r1.Ah.length:Int)=some (r1.Ah.drop 1):=by
   unfold subS
   rw [if_pos (by omega)]
   simp
  refine EvQ.bindN e (EvQ.done ⟨⟨⟨hb.lib,hb.des.ok,⟨by show (r1.Ah.drop 1).length≤_;rw [List.length_drop];omega,fun y hy=>(hb.wi y (List.mem_of_mem_drop hy)).ok⟩⟩,hb.des.sm⟩,hs⟩)
 ·refine EvQ.bindN (qaq hk) (EvQ.bindE (qkK (by omega)) (EvQ.bindN (qbI (by omega)) (EvQ.done ⟨W ⟨hy.ok.Ak,hy.ok.Bh,hy.ok.Be,⟨by show (_++_:List Int).length≤_;rw [jg,ji];omega,qbb hy.ok.Ay.2 (z _ (by decide) (by decide))⟩⟩,hs⟩)))
 ·refine EvQ.bindN (qaq hk) (EvQ.bindN (qaq (j:=0) (show 0<r1.Ah[k].Bh.length by omega)) (EvQ.done ⟨W ⟨hy.ok.Ak,⟨by show (setS _ _ _).length≤_;rw [qcy];exact hy.ok.Bh.1,qfG hy.ok.Bh.2 (z _ (by decide) (by decide))⟩,hy.ok.Be,hy.ok.Ay⟩,hs⟩))
 ·refine EvQ.bindN (qaq hk) (EvQ.bind (qag 3 hc hs) ?_)
  rintro ⟨i12,i13,i14⟩ ⟨⟨⟨t0,t1⟩,_⟩,hs⟩
  dsimp only at t0 t1 hs ⊢
  have t2:=t1 (by decide)
  have:i12=0∨i12=1∨i12=2:=by omega
  have hv:∃ v:Int,idx ([(-1),500,501]:List Int) i12=some v∧okI v:=by
   rcases this with rfl|rfl|rfl
   ·exact ⟨_,rfl,z _ (by decide) (by decide)⟩
   ·exact ⟨_,rfl,z _ (by decide) (by decide)⟩
   ·exact ⟨_,rfl,z _ (by decide) (by decide)⟩
  obtain ⟨v,hv1,hv2⟩:=hv
  exact EvQ.bindN hv1 (EvQ.bindN (qaq (j:=0) (show 0<r1.Ah[k].Be.length by omega)) (EvQ.done ⟨W ⟨hy.ok.Ak,hy.ok.Bh,⟨by show (setS _ _ _).length≤_;rw [qcy];exact hy.ok.Be.1,qfG hy.ok.Be.2 hv2⟩,hy.ok.Ay⟩,hs⟩))
 ·refine EvQ.bindN (qaq hk) (EvQ.bind (qag 5 hc hs) ?_)
  rintro ⟨i15,i16,i17⟩ ⟨_,hs⟩
  have e:W64 ((r1.Ah[k].Ak.length:Int)-1)=((r1.Ah[k].Ak.length-1:Nat):Int):=by rw [qaE (by omega) (by omega)];omega
  dsimp only
  rw [e]
  exact EvQ.bindN (qaq (show r1.Ah[k].Ak.length-1<r1.Ah[k].Ak.length by omega)) (EvQ.done ⟨W ⟨⟨by show (setS _ _ _).length≤_;rw [qcy];exact hy.ok.Ak.1,qfG hy.ok.Ak.2 (qcF _)⟩,hy.ok.Bh,hy.ok.Be,hy.ok.Ay⟩,hs⟩)
 ·have hp1:=hb.des.p1
  refine EvQ.bindN (qaq (j:=0) (show 0<r1.Aa.Af.length by omega)) (EvQ.done ⟨⟨⟨hb.lib,⟨hb.des.ok.Ab,hb.des.ok.Aj,⟨by show (setS _ _ _).length≤_;rw [qcy];exact hb.des.ok.Af.1,qfG hb.des.ok.Af.2 ⟨(hb.des.ok.Af.2 _ (jr _)).As,z 3 (by decide) (by decide),(hb.des.ok.Af.2 _ (jr _)).Bn⟩⟩⟩,hb.ok.Ah⟩,⟨hb.des.sm.ni,hb.des.sm.nn,by show (setS _ _ _).length≤_;rw [qcy];exact hb.des.sm.np,hb.des.sm.nx⟩⟩,hs⟩)
theorem qqC (hc:CodeOk code) (h:SrcI code a s):EvQ (fun n=>qgO n ⟨code,a,s⟩) (fun o=>BlkO o.1∧SrcI code o.2.1 o.2.2):=by
 unfold qgO
 refine EvQ.bind (qag 16 hc h) ?_
 rintro ⟨i1,i2,i3⟩ ⟨_,hs⟩
 refine EvQ.bif (fun _=>EvQ.bind (qnu hc hs) ?_) (fun _=>EvQ.bind (qag 7 hc hs) ?_)
 ·rintro ⟨r1,i4,i5⟩ h1
  exact EvQ.done h1
 rintro ⟨i6,i7,i8⟩ ⟨⟨⟨q0,q1⟩,_⟩,hs⟩
 dsimp only at q0 q1 hs ⊢
 have q2:=q1 (by decide)
 refine EvQ.bind (qag 8 hc hs) ?_
 rintro ⟨i9,i10,i11⟩ ⟨_,hs⟩
 dsimp only at hs ⊢
 rw [wO (2+i6)]
 refine EvQ.bind (qnU (by omega) (by omega) hc hs) ?_
 rintro ⟨r2,i12,i13⟩ ⟨hb,hs⟩
 exact EvQ.done ⟨⟨hb.ok,hb.des.sm⟩,hs⟩
end
end Go.Fw


namespace Go.Fw
open Go
def qip (x:qa):Nat:=qg4 x.Au+qg4 x.Ap+qg4 x.To
structure qan (x:qa):Prop where
 Am:okI x.Am
 Az:okI x.Az
 Au:(okL okI) x.Au
 Ap:(okL okI) x.Ap
 To:(okL okI) x.To
end Go.Fw


namespace Go.Fw
open Go
set_option maxRecDepth 100000
theorem qmh {b:qc} (h:blockB b=true):Ev (fun n=>qaB n b) ((places b.Aa).length:Int):=by
 unfold qaB
 exact Ev.bind (qeR (qI (qae h))) (Ev.now (by rw [jy]))
def plsB (b:qc) (xs:List Int):Bool:=decide (xs.length≤4)&&allN (fun j=>inPl b (at0 xs j)) xs.length
def valB (k v:Int):Bool:=bif k==1 then v==0 else bif k==2 then inI v 1 10 else bif (k==3) || (k==4) then inI v 0 1000000000 else false
def excB (b:qc) (e:qa):Bool:=(plsB b e.Au&&(plsB b e.Ap&&plsB b e.To))&&(valB e.Am e.Az&&(incB e.Au&&incB e.To))
theorem qhZ {b:qc} {xs:List Int} {sorted:Bool} (h:blockB b=true) (hl:xs.length≤1048576):Ev (fun n=>qd9 n b xs sorted) (plsB b xs&&(!sorted || incB xs)):=by
 have hpl:=qaz (qI (qae h))
 have hL:Ev (fun n=>qbr b xs sorted n 0) (bif allN (fun j=>inPl b (at0 xs j)&&(!sorted || stepB xs j)) xs.length then .nxt (xs.length:Int) else .ret false):=by
  refine qd1 ?_ (fun j hj X hX=>Ev.succ ?_)
  ·exact Ev.succ (by simp only [qbr,qp (jf _),cond_false];exact .done)
  ·simp only [qbr,qn hj,cond_true,qbJ hj,je,qdE,wS j]
   refine Ev.bind (qmh h) ?_
   rw [qch (show (places b.Aa).length≤9223372036854775807 by omega)]
   simp only [qbp]
   refine Ev.okP (a:=inPl b (at0 xs j)) fun _=>?_
   cases sorted
   ·exact hX
   ·refine Ev.tt rfl ?_
    unfold stepB
    by_cases h0:j=0
    ·subst h0
     exact Ev.ff (by decide) hX
    ·refine Ev.tt (by simp;omega) ?_
     simp only [show (j:Int)-1=((j-1:Nat):Int) by omega,qaE (show -9223372036854775808≤((j-1:Nat):Int) by omega) (by omega),qbJ (show j-1<xs.length by omega),je]
     rw [show decide (at0 xs (j-1) ≥ at0 xs j) = !decide (at0 xs (j-1)<at0 xs j) by rw [jp];simp,show decide (j=0)=false by simp;omega]
     simp only [qbp,jU,Bool.false_or]
     exact Ev.okP1 fun _=>hX
 unfold qd9
 have e:(plsB b xs&&(!sorted || incB xs))=(allN (fun j=>inPl b (at0 xs j)&&(!sorted || stepB xs j)) xs.length&&decide (xs.length≤4)):=by
  unfold plsB incB
  rw [qhx]
  cases sorted
  ·simp only [Bool.not_false,Bool.true_or,Bool.and_true]
   rw [show allN (fun _=>true) xs.length=true from qai.2 (fun _ _=>rfl),Bool.and_true,Bool.and_comm]
  ·simp only [jU,Bool.false_or]
   rw [Bool.and_assoc,Bool.and_comm]
 rw [e]
 refine Ev.bind hL ?_
 cases allN (fun j=>inPl b (at0 xs j)&&(!sorted || stepB xs j)) xs.length
 ·exact .done
 ·refine Ev.now ?_
  show some (decide ((xs.length:Int)≤((4:Nat):Int)))=some (true&&decide (xs.length≤4))
  rw [qhX,jC]
theorem qnD {n:Nat} {k v:Int}:qgH n k v=some (valB k v):=by
 simp only [qgH,qdv,je]
 unfold valB
 cases (k==1)<;>cases (k==2)<;>cases (k==3)<;>cases (k==4)<;>rfl
theorem qg5 {b:qc} {V:Tview} {e:qa} (h:blockB b=true) (hP:V.places=places b.Aa) (he:qan e):Ev (fun n=>qaO n (some V) e) (excB b e):=by
 have hpl:=qaz (qI (qae h))
 have one:∀ xs:List Int,xs.length≤1048576→∀ {F:Nat→Option (Flow Bool Int)} {X:Flow Bool Int},Ev F X →
   Ev (fun n=>bif decide ((xs.length:Int) > 4) then some (.ret false) else (qbl n xs 0 (((places b.Aa).length:Int)-1)).bind fun r2=>bif (!r2) then some (.ret false) else F n) (bif plsB b xs then X else .ret false):=by
  intro xs hx F X hX
  unfold plsB
  rw [show decide ((xs.length:Int) > 4) = !decide (xs.length≤4) from qn8 (k:=4)]
  simp only [qbp]
  refine Ev.okP fun _=>Ev.ok1 ((qek hx).cast (by rw [qfO (d:=0)];rfl)) fun _=>hX
 have hL:Ev (fun n=>qad (some V) e n 0) (bif plsB b e.Au then (bif plsB b e.Ap then (bif plsB b e.To then .nxt 3 else .ret false) else .ret false) else .ret false):=by
  refine Ev.succ ?_
  simp only [qad,je,qbY,hP,qch (show (places b.Aa).length≤9223372036854775807 by omega)]
  refine one e.Au he.Au.len (F:=fun n=>qad (some V) e n 1) (Ev.succ ?_)
  simp only [qad,je,qbY,hP,qch (show (places b.Aa).length≤9223372036854775807 by omega)]
  refine one e.Ap he.Ap.len (F:=fun n=>qad (some V) e n 2) (Ev.succ ?_)
  simp only [qad,je,qbY,hP,qch (show (places b.Aa).length≤9223372036854775807 by omega)]
  refine one e.To he.To.len (F:=fun n=>qad (some V) e n 3) (Ev.succ ?_)
  exact .done
 unfold qaO excB
 refine Ev.bind hL ?_
 cases plsB b e.Au
 ·exact .done
 ·cases plsB b e.Ap
  ·exact .done
  ·cases plsB b e.To
   ·exact .done
   ·simp only [cond_true,qnD,je,Bool.and_self,jC]
    exact Ev.andP fun _=>Ev.and (qgv he.Au.len) fun _=>Ev.last (qgv he.To.len)
theorem qih {b:qc} {e:qa} (hok:qaI b) (he:qan e):Ev (fun n=>qea n b e) (blockB b&&excB b e):=by
 have eq:(blockB b&&excB b e)=((blockB b&&((plsB b e.Au&&(!true || incB e.Au))&&((plsB b e.Ap&&(!false || incB e.Ap))&&(plsB b e.To&&(!true || incB e.To)))))&&valB e.Am e.Az):=by
  unfold excB
  generalize blockB b=a1
  generalize plsB b e.Au=a2
  generalize plsB b e.Ap=a3
  generalize plsB b e.To=a4
  generalize valB e.Am e.Az=a5
  generalize incB e.Au=a6
  generalize incB e.To=a7
  cases a1<;>cases a2<;>cases a3<;>cases a4<;>cases a5<;>cases a6<;>cases a7<;>rfl
 rw [eq]
 unfold qea
 refine Ev.guardB (Ev.or (qks hok) fun h=>Ev.or (qhZ h he.Au.len) fun _=>Ev.or (qhZ h he.Ap.len) fun _=>Ev.neg (qhZ h he.To.len)) fun _=>?_
 simp only [qdE,je]
 unfold valB
 cases (e.Am==1)<;>cases (e.Am==2)<;>cases (e.Am==3)<;>cases (e.Am==4)<;>exact .done
end Go.Fw


namespace Go.Fw
open Go
set_option maxRecDepth 100000
theorem qeW {b:qc} (h:blockB b=true):Ev (fun n=>qaB n b) ((places b.Aa).length:Int):=by
 unfold qaB
 exact Ev.bind (qeR (qI (qae h))) (Ev.now (by rw [jy]))
end Go.Fw


namespace Go.Fw
open Go
set_option maxRecDepth 100000
theorem qjB {b:qc} (h:blockB b=true):Ev (fun n=>qaB n b) ((places b.Aa).length:Int):=by
 unfold qaB
 exact Ev.bind (qeR (qI (qae h))) (Ev.now (by rw [jy]))
theorem ql7 {d:qg} {k:Int} {n:Nat}:qmv (sinksL d k n) n:=by
 intro y hy
 unfold sinksL at hy
 obtain ⟨i,hi,rfl⟩:=List.mem_map.1 hy
 exact ⟨i,List.mem_range.1 (List.mem_filter.1 hi).1,rfl⟩
theorem qmS {b:qc} (h:blockB b=true) {j:Nat} (hj:j<(places b.Aa).length):qmv (succL b j) (places b.Aa).length:=by
 have hd:=qae h
 unfold succL
 cases (gt (places b.Aa) j).drives
 ·cases h0:decide ((gt (places b.Aa) j).instance_<0)
  ·cases dataB (cellAt b (gt (places b.Aa) j).instance_) (gt (places b.Aa) j).pin
   ·intro y hy;cases hy
   ·intro y hy
    rcases qc0 hj with ⟨i,k,hi,hk,ej,e⟩|⟨i,hi,_,e⟩
    ·obtain ⟨⟨c0,c1⟩,hn,hcb⟩:=qfa hd hi
     rw [e] at hy
     have ec:cellAt b (place1 b.Aa i k).instance_=gt b.Ac.Ai (gt b.Aa.Ab i).Ba.toNat:=by
      unfold cellAt place1;rw [jz]
     rw [ec,show (place1 b.Aa i k).pin=(k:Int) from rfl] at hy
     have hy:y=(j:Int)-(k:Int)+(((gt b.Ac.Ai (gt b.Aa.Ab i).Ba.toNat).Aq.length:Int)-1):=by simpa using hy
     obtain ⟨hp,_⟩:=qhP (k:=(gt b.Aa.Ab i).Aj.length-1) hi (by omega)
     exact ⟨off b.Aa i+((gt b.Aa.Ab i).Aj.length-1),hp,by omega⟩
    ·rw [e] at h0
     exact absurd h0 (by show ¬ decide ((-1:Int)<0)=false;decide)
  ·intro y hy;cases hy
 ·intro y hy
  exact ql7 y ((List.mem_filter.1 hy).1)
abbrev npl (b:qc):Nat:=(places b.Aa).length
structure Mid (b:qc) (k i:Nat) (c:Nat) (out:List Nat):Prop where
 topo:Topo (succL b) (npl b) out
 klt:k<out.length
 cur:out[k]?=some c
 zero:∀ j,j<npl b→(j ∈ out↔inC (succL b) (npl b) (out.take (k+1)) j+((succL b c).drop i).count (j:Int)=0)
end Go.Fw


namespace Go.Fw
open Go
set_option maxRecDepth 100000
def startB (b:qc) (p:Tplace):Bool:=bif decide (p.instance_<0) then p.drives || clkB b p else clkB b p
def startN (b:qc) (j:Nat):List Nat:=selN (fun i=>startB b (gt (places b.Aa) i)) j
theorem qnz {b:qc} (hok:qaI b) (h:blockB b=true):Ev (fun n=>qfW n b) (ints (startN b (npl b))):=by
 have hl:npl b≤78:=qaz (qI (qae h))
 have hL:Ev (fun n=>qbt b n ([]:List Int) 0) (ints (startN b (npl b)),(npl b:Int)):=by
  refine qof (Lf:=qbt b) (q:=fun i=>startB b (gt (places b.Aa) i)) (len:=npl b) (by omega) (Ev.succ ?_) (fun j hj t ht X h1 h2=>?_)
  ·simp only [qbt]
   exact Ev.bind (qjB h) (Ev.ff (qp (jf _)) .done)
  ·simp only [qbt,wS j,ht,je]
   refine Ev.bind (qjB h) (Ev.tt (qn hj) (Ev.bind (qit hok h hj) ?_))
   refine Ev.bind (b:=startB b (gt (places b.Aa) j)) ?_ ?_
   ·unfold startB
    refine Ev.iff (fun h0=>?_) (fun _=>Ev.last (qiD hok h hj))
    rcases qc0 hj with ⟨i,k,hi,hk,ej,e⟩|⟨i,hi,_,e⟩
    ·rw [e] at h0
     exact absurd h0 (by show ¬ decide ((i:Int)<0)=true;simp)
    ·have hc:=qiD hok h hj
     rw [e] at hc ⊢
     rw [show (toSp (place2 b.Aa i)).pin=(i:Int) from rfl,qab hi]
     simp only [je]
     rw [show (place2 b.Aa i).drives=((gt b.Aa.Af i).Bl==1) from rfl]
     cases ((gt b.Aa.Af i).Bl==1)
     ·exact Ev.last hc
     ·exact .done
   ·cases hq:startB b (gt (places b.Aa) j)
    ·exact h2 hq
    ·exact h1 hq
 unfold qfW
 exact Ev.bind hL .done
end Go.Fw


namespace Go.Fw
open Go
set_option maxRecDepth 100000
section
variable {code:List (IntK .u8)} {a s:Int}
def PlI (b:qc) (p:Int):Prop:=0≤p∧p<((places b.Aa).length:Int)
theorem qo7 {b:qc} (h:blockB b=true) {j:Nat} (hj:j<(places b.Aa).length):∀ y,y ∈ succL b j→PlI b y:=by
 intro y hy
 obtain ⟨k,hk,e⟩:=qmS h hj y hy
 unfold PlI;omega
theorem qpG {b:qc} (hok:qaI b) (h:blockB b=true) (h0:1≤(places b.Aa).length) (hc:CodeOk code) (hs:SrcI code a s) :
  EvQ (fun n=>qee n ⟨code,a,s⟩ b) (fun o=>((1≤o.1.length∧o.1.length≤20)∧∀ y,y ∈ o.1→PlI b y)∧SrcI code o.2.1 o.2.2):=by
 have hpl:=qaz (qI (qae h))
 have main:∀ (r:Nat) (x:List Int) (a' s' p:Int),SrcI code a' s'→(1≤x.length∧x.length+r≤20)→(∀ y,y ∈ x→PlI b y)→PlI b p →
   EvQ (fun n=>qb4 ⟨code,a,s⟩ b n x a' s' p (r:Int)) (fun o=>((1≤o.1.length∧o.1.length≤20)∧∀ y,y ∈ o.1→PlI b y)∧SrcI code o.2.1 o.2.2):=by
  intro r
  induction r with
  | zero =>
   intro x a' s' p hs hl hx hp
   refine EvQ.succ ?_
   simp only [qb4]
   exact EvQ.ff rfl (EvQ.done ⟨⟨⟨hl.1,by dsimp only;omega⟩,hx⟩,hs⟩)
  | succ r ih =>
   intro x a' s' p hs hl hx hp
   refine EvQ.succ ?_
   simp only [qb4]
   obtain ⟨j,rfl⟩:∃ j:Nat,p=(j:Int):=⟨p.toNat,by have:=hp.1;omega⟩
   have hj:j<(places b.Aa).length:=by have:=hp.2;omega
   have hsl:=qor h (j:=j)
   refine EvQ.tt (by simp) (EvQ.bindE (qmV hok h hj) (EvQ.bif (fun _=>EvQ.done ⟨⟨⟨hl.1,by dsimp only;omega⟩,hx⟩,hs⟩) (fun h1=>?_)))
   have h1:1≤(succL b j).length:=by cases hq:succL b j with
    | nil=>rw [hq] at h1;simp at h1
    | cons y ys=>exact Nat.succ_le_succ (jB _)
   refine EvQ.bind (qag _ hc hs) ?_
   rintro ⟨i22,i23,i24⟩ ⟨⟨⟨q0,q1⟩,_⟩,hs⟩
   dsimp only at q0 q1 hs ⊢
   have q2:=q1 (by omega)
   obtain ⟨k,rfl⟩:∃ k:Nat,i22=(k:Int):=⟨i22.toNat,by omega⟩
   have hk:k<(succL b j).length:=by omega
   have e:W64 (((r+1:Nat):Int)-1)=(r:Int):=by rw [qaE (by omega) (by omega)];omega
   have hpk:=qo7 h hj _ (jr hk)
   rw [e]
   exact EvQ.bindN (qaq hk) (EvQ.bindN (qbI (by omega)) (ih _ _ _ _ hs ⟨by rw [jg,ji];omega,by rw [jg,ji];omega⟩ (qbb hx hpk) hpk))
 unfold qee
 refine EvQ.bindE (qnz hok h) (EvQ.bindE (qeW h) (EvQ.bind (qag _ hc hs) ?_))
 rintro ⟨i1,i2,i3⟩ ⟨⟨⟨q0,q1⟩,_⟩,hs⟩
 dsimp only at q0 q1 hs ⊢
 have p1:PlI b i1:=by
  refine ⟨q0,?_⟩
  by_cases h2:((places b.Aa).length:Int) > 1
  ·rw [if_pos h2] at q1
   exact q1 (by omega)
  ·rw [if_neg h2] at q1
   have:=q1 (by decide)
   omega
 have st:∀ y,y ∈ ints (startN b (npl b))→PlI b y:=by
  intro y hy
  unfold ints startN selN at hy
  obtain ⟨k,hk,rfl⟩:=List.mem_map.1 hy
  have:=List.mem_range.1 (List.mem_filter.1 hk).1
  unfold npl at this
  unfold PlI
  omega
 refine EvQ.bind (R:=fun o:Int × Int × Bool=>SrcI code o.1 o.2.1∧(o.2.2=true→1≤(ints (startN b (npl b))).length)) (EvQ.bif (fun h1=>EvQ.bind (qag 6 hc hs) ?_) (fun _=>EvQ.done ⟨hs,fun h=>by cases h⟩)) ?_
 ·rintro ⟨i28,i29,i30⟩ ⟨_,hs⟩
  exact EvQ.done ⟨hs,fun _=>by have:=of_decide_eq_true h1;omega⟩
 rintro ⟨i4,i5,b1⟩ ⟨hs,hb1⟩
 dsimp only at hs hb1 ⊢
 refine EvQ.bind (R:=fun o:Int × Int × Int=>SrcI code o.1 o.2.1∧PlI b o.2.2) (EvQ.bif (fun h1=>EvQ.bind (qag _ hc hs) ?_) (fun _=>EvQ.done ⟨hs,p1⟩)) ?_
 ·rintro ⟨i25,i26,i27⟩ ⟨⟨⟨t0,t1⟩,_⟩,hs⟩
  dsimp only at t0 t1 hs ⊢
  have hn:=hb1 h1
  have t2:=t1 (by omega)
  obtain ⟨k,rfl⟩:∃ k:Nat,i25=(k:Int):=⟨i25.toNat,by omega⟩
  have hk:k<(ints (startN b (npl b))).length:=by omega
  exact EvQ.bindN (qaq hk) (EvQ.done ⟨hs,st _ (jr hk)⟩)
 rintro ⟨i6,i7,i8⟩ ⟨hs,hp⟩
 dsimp only at hs hp ⊢
 refine EvQ.bind (qag 10 hc hs) ?_
 rintro ⟨i9,i10,i11⟩ ⟨⟨⟨t0,t1⟩,_⟩,hs⟩
 dsimp only at t0 t1 hs ⊢
 have t2:=t1 (by decide)
 obtain ⟨m,hm⟩:∃ m:Nat,2+i9=(m:Int):=⟨(2+i9).toNat,by omega⟩
 rw [wO (2+i9),hm]
 refine EvQ.bind (main m [i8] i10 i11 i8 hs (by simp;omega) (fun y hy=>by obtain rfl:=List.mem_singleton.1 hy;exact hp) hp) ?_
 rintro ⟨x2,i16,i17⟩ h2
 exact EvQ.done h2
theorem PlI.ok {b:qc} (h:blockB b=true) {p:Int} (hp:PlI b p):okI p:=by
 have hpl:=qaz (qI (qae h))
 unfold PlI at hp
 exact qL (by omega) (by omega)
theorem qra {b:qc} {path:List Int} (h:blockB b=true) (h0:1≤(places b.Aa).length) (hl:1≤path.length∧path.length≤20) (hp:∀ y,y ∈ path→PlI b y) (hc:CodeOk code) (hs:SrcI code a s) :
  EvQ (fun n=>qdn n ⟨code,a,s⟩ b path) (fun o=>qan o.1∧SrcI code o.2.1 o.2.2):=by
 have hpl:=qaz (qI (qae h))
 have one:∀ {x:Int},okI x→okL okI [x]:=fun hx=>⟨by simp,fun y hy=>by obtain rfl:=List.mem_singleton.1 hy;exact hx⟩
 have none_:okL okI ([]:List Int):=⟨jB _,fun _ h=>by cases h⟩
 have main:∀ (d j:Nat) (x:List Int) (a' s':Int),SrcI code a' s'→j+d=path.length→x.length≤j→(∀ y,y ∈ x→okI y) →
   EvQ (fun n=>qaL ⟨code,a,s⟩ path n x a' s' (j:Int)) (fun o=>okL okI o.1∧SrcI code o.2.1 o.2.2.1):=by
  intro d
  induction d with
  | zero =>
   intro j x a' s' hs hj hx hok
   refine EvQ.succ ?_
   simp only [qaL]
   exact EvQ.ff (qp (by omega)) (EvQ.done ⟨⟨by dsimp only;omega,hok⟩,hs⟩)
  | succ d ih =>
   intro j x a' s' hs hj hx hok
   have hjl:j<path.length:=by omega
   refine EvQ.succ ?_
   simp only [qaL,wS j]
   refine EvQ.tt (qn hjl) (EvQ.bind (R:=fun o:Int × Int × Bool=>SrcI code o.1 o.2.1) (EvQ.bif (fun _=>EvQ.bind (qag 5 hc hs) ?_) (fun _=>EvQ.done hs)) ?_)
   ·rintro ⟨i18,i19,i20⟩ ⟨_,hs⟩
    exact EvQ.done hs
   ·rintro ⟨i16,i17,b1⟩ hs
    dsimp only at hs ⊢
    refine EvQ.bif (fun _=>?_) (fun _=>ih (j+1) x _ _ hs (by omega) (by omega) hok)
    have hl1:(x++[path[j]]).length≤j+1:=by rw [jg,ji];omega
    exact EvQ.bindN (qaq hjl) (EvQ.bindN (qbI (by omega)) (EvQ.bindN (qhU (by omega)) (ih (j+1) _ _ _ hs (by omega) hl1 (qbb hok ((hp _ (jr hjl)).ok h)))))
 have cnt:∀ {a' s':Int},SrcI code a' s'→EvQ (fun n=>qk n ⟨code,a',s'⟩ ((places b.Aa).length:Int)) (fun o=>okI o.1∧SrcI code o.2.1 o.2.2):=fun {a' s'} hs=>(qag _ hc hs).mono (fun o ho=>⟨by have h1:=ho.1.1.1;have h2:=ho.1.1.2 (by omega);exact qL (by omega) (by omega),ho.2⟩)
 unfold qdn
 refine EvQ.bind (qag 4 hc hs) ?_
 rintro ⟨i1,i2,i3⟩ ⟨_,hs⟩
 dsimp only at hs ⊢
 refine EvQ.bind (R:=fun o:Int × Int × Int=>SrcI code o.1 o.2.1∧okI o.2.2) ?_ ?_
 ·have z0:okI 0:=qL (by decide) (by decide)
  refine EvQ.bif (fun _=>EvQ.bind (qag 4 hc hs) ?_) (fun _=>EvQ.bif (fun _=>EvQ.bif (fun _=>EvQ.bind (qag 40 hc hs) ?_) (fun _=>EvQ.done ⟨hs,z0⟩)) (fun _=>EvQ.bif (fun _=>EvQ.bind (qag 40 hc hs) ?_) (fun _=>EvQ.done ⟨hs,z0⟩)))
  all_goals
   rintro ⟨j1,j2,j3⟩ ⟨_,hs⟩
   exact EvQ.done ⟨hs,qcF _⟩
 rintro ⟨i4,i5,i6⟩ ⟨hs,hi6⟩
 dsimp only at hs hi6 ⊢
 refine EvQ.bind (qag 2 hc hs) ?_
 rintro ⟨i7,i8,i9⟩ ⟨_,hs⟩
 dsimp only at hs ⊢
 refine EvQ.bind (R:=fun o:List Int=>okL okI o) (EvQ.bif (fun _=>EvQ.bindN (qaq (j:=0) (show 0<path.length by omega)) (EvQ.done (one ((hp _ (jr _)).ok h)))) (fun _=>EvQ.done none_)) (fun x1 hx1=>?_)
 refine EvQ.bind (qag 2 hc hs) ?_
 rintro ⟨i10,i11,i12⟩ ⟨_,hs⟩
 dsimp only at hs ⊢
 have e:W64 ((path.length:Int)-1)=((path.length-1:Nat):Int):=by rw [qaE (by omega) (by omega)];omega
 rw [e]
 refine EvQ.bind (R:=fun o:List Int=>okL okI o) (EvQ.bif (fun _=>EvQ.bindN (qaq (show path.length-1<path.length by omega)) (EvQ.done (one ((hp _ (jr _)).ok h)))) (fun _=>EvQ.done none_)) (fun x2 hx2=>?_)
 refine EvQ.bind (main path.length 0 [] i11 i12 hs (by omega) (jB _) (fun _ h=>by cases h)) ?_
 rintro ⟨x3,i13,i14,i15⟩ ⟨hx3,hs⟩
 dsimp only at hx3 hs ⊢
 refine EvQ.bind (qag 12 hc hs) ?_
 rintro ⟨i21,i22,i23⟩ ⟨_,hs⟩
 dsimp only at hs ⊢
 refine EvQ.bif (fun _=>EvQ.bindE (qeW h) (EvQ.bind (cnt hs) ?_)) (fun _=>EvQ.bif (fun _=>EvQ.bindE (qeW h) (EvQ.bind (cnt hs) ?_)) (fun _=>EvQ.bif (fun _=>EvQ.bindE (qeW h) (EvQ.bind (cnt hs) ?_)) (fun _=>EvQ.done ⟨⟨qcF _,hi6,hx1,hx3,hx2⟩,hs⟩)))
 ·rintro ⟨j1,j2,j3⟩ ⟨hj,hs⟩
  exact EvQ.done ⟨⟨qcF _,hi6,one hj,hx3,hx2⟩,hs⟩
 ·rintro ⟨j1,j2,j3⟩ ⟨hj,hs⟩
  exact EvQ.done ⟨⟨qcF _,hi6,hx1,hx3,one hj⟩,hs⟩
 ·rintro ⟨j1,j2,j3⟩ ⟨hj,hs⟩
  exact EvQ.done ⟨⟨qcF _,hi6,hx1,one hj,hx2⟩,hs⟩
theorem qqu {b:qc} {path:List Int} (h:blockB b=true) (h0:1≤(places b.Aa).length) (hl:1≤path.length∧path.length≤20) (hp:∀ y,y ∈ path→PlI b y) (hc:CodeOk code) (hs:SrcI code a s) :
  EvQ (fun n=>qfe n ⟨code,a,s⟩ b path) (fun o=>okL qan o.1∧SrcI code o.2.1 o.2.2):=by
 have hpl:=qaz (qI (qae h))
 have main:∀ (r:Nat) (x:List qa) (a' s':Int),SrcI code a' s'→x.length+r≤10→(∀ y,y ∈ x→qan y) →
   EvQ (fun n=>qb0 ⟨code,a,s⟩ b path n x a' s' (r:Int)) (fun o=>(o.1.length≤10∧∀ y,y ∈ o.1→qan y)∧SrcI code o.2.1 o.2.2.1):=by
  intro r
  induction r with
  | zero =>
   intro x a' s' hs hx hok
   refine EvQ.succ ?_
   simp only [qb0]
   exact EvQ.ff rfl (EvQ.done ⟨⟨by dsimp only;omega,hok⟩,hs⟩)
  | succ r ih =>
   intro x a' s' hs hx hok
   have e:W64 (((r+1:Nat):Int)-1)=(r:Int):=by rw [qaE (by omega) (by omega)];omega
   refine EvQ.succ ?_
   simp only [qb0,e]
   refine EvQ.tt (by simp) (EvQ.bind (qra h h0 hl hp hc hs) ?_)
   rintro ⟨r1,i7,i8⟩ ⟨h1,hs⟩
   exact EvQ.bindN (qbI (by omega)) (ih _ _ _ hs (by rw [jg,ji];omega) (qbb hok h1))
 have grow:∀ (d:Nat) (x:List qa),x.length+d=11→1≤x.length→(∀ y,y ∈ x→qan y)→EvQ (fun n=>qbZ n x) (fun o=>o.length≤11∧∀ y,y ∈ o→qan y):=by
  intro d
  induction d with
  | zero =>
   intro x hx h1 hok
   refine EvQ.succ ?_
   simp only [qbZ]
   exact EvQ.ff (by simp;omega) (EvQ.done ⟨by omega,hok⟩)
  | succ d ih =>
   intro x hx h1 hok
   refine EvQ.succ ?_
   simp only [qbZ]
   refine EvQ.bif (fun _=>EvQ.bindN (qaq (j:=0) (show 0<x.length by omega)) (EvQ.bindN (qbI (by omega)) (ih _ (by rw [jg,ji];omega) (by rw [jg,ji];omega) (qbb hok (hok _ (jr _)))))) (fun _=>EvQ.done ⟨by omega,hok⟩)
 unfold qfe
 refine EvQ.bind (qag 5 hc hs) ?_
 rintro ⟨i1,i2,i3⟩ ⟨⟨⟨q0,q1⟩,_⟩,hs⟩
 dsimp only at q0 q1 hs ⊢
 have q2:=q1 (by decide)
 obtain ⟨m,rfl⟩:∃ m:Nat,i1=(m:Int):=⟨i1.toNat,by omega⟩
 refine EvQ.bind (main m [] i2 i3 hs (by simp;omega) (fun _ h=>by cases h)) ?_
 rintro ⟨x1,i4,i5,i6⟩ ⟨⟨l1,h1⟩,hs⟩
 dsimp only at l1 h1 hs ⊢
 refine EvQ.bind (R:=fun o:Int × Int × Bool=>SrcI code o.1 o.2.1∧(o.2.2=true→1≤x1.length)) (EvQ.bif (fun hp=>EvQ.bind (qag 16 hc hs) ?_) (fun _=>EvQ.done ⟨hs,fun h=>by cases h⟩)) ?_
 ·rintro ⟨j1,j2,j3⟩ ⟨_,hs⟩
  exact EvQ.done ⟨hs,fun _=>by have:=of_decide_eq_true hp;omega⟩
 rintro ⟨i9,i10,b1⟩ ⟨hs,hb⟩
 dsimp only at hs hb ⊢
 refine EvQ.bif (fun hb1=>?_) (fun _=>EvQ.done ⟨⟨by dsimp only;omega,h1⟩,hs⟩)
 have hn:=hb hb1
 have h00:0<x1.length:=by omega
 have hx0:=h1 _ (jr h00)
 have set0:∀ {y:qa},qan y→okL qan (setS x1 0 y):=fun {y} hy=>⟨by rw [qcy];omega,qfG h1 hy⟩
 refine EvQ.bind (qag 4 hc hs) ?_
 rintro ⟨i11,i12,i13⟩ ⟨_,hs⟩
 dsimp only at hs ⊢
 refine EvQ.bif (fun _=>EvQ.bind (qag 2 hc hs) ?_) (fun _=>EvQ.bif (fun _=>?_) (fun _=>EvQ.bif (fun _=>?_) (fun _=>?_)))
 ·rintro ⟨i14,i15,i16⟩ ⟨_,hs⟩
  exact EvQ.bindN (qaq (j:=0) h00) (EvQ.done ⟨set0 ⟨qcF _,hx0.Az,hx0.Au,hx0.Ap,hx0.To⟩,hs⟩)
 ·exact EvQ.bindN (qaq (j:=0) h00) (EvQ.done ⟨set0 ⟨hx0.Am,qL (x:=-1) (by decide) (by decide),hx0.Au,hx0.Ap,hx0.To⟩,hs⟩)
 ·exact EvQ.bindE (qeW h) (EvQ.bindN (qaq (j:=0) h00) (EvQ.done ⟨set0 ⟨hx0.Am,hx0.Az,hx0.Au,hx0.Ap,⟨by simp,fun y hy=>by obtain rfl:=List.mem_singleton.1 hy;exact qL (by omega) (by omega)⟩⟩,hs⟩))
 ·refine EvQ.bind (grow (11-x1.length) x1 (by omega) hn h1) (fun x3 hx3=>EvQ.done ⟨⟨by dsimp only;omega,hx3.2⟩,hs⟩)
structure CaseI (b:qc) (es:List qa) (path:List Int):Prop where
 blk:BlkO b
 es:okL qan es
 l1:1≤path.length
 l2:path.length≤30
 pk:∀ y,y ∈ path→okI y
theorem qqq (hc:CodeOk code):EvQ (fun n=>qe0 n code) (fun o=>CaseI o.1 o.2.1 o.2.2):=by
 obtain ⟨s,h1,hs⟩:=qpW hc
 unfold qe0
 refine EvQ.bindE h1 (EvQ.bind (qqC hc hs) ?_)
 rintro ⟨b,i2,i3⟩ ⟨hb,hs⟩
 dsimp only at hb hs ⊢
 have bad:CaseI b [] [0]:=⟨hb,⟨jB _,fun _ h=>by cases h⟩,by simp,by simp,fun y hy=>by obtain rfl:=List.mem_singleton.1 hy;exact qL (by decide) (by decide)⟩
 refine EvQ.bind (R:=fun o:Bool=>o=true∨(blockB b=true∧1≤(places b.Aa).length)) ?_ ?_
 ·refine EvQ.bindE (qks hb.ok) ?_
  cases h:blockB b
  ·exact EvQ.tt rfl (EvQ.done (.inl rfl))
  ·refine EvQ.ff rfl (EvQ.bindE (qeW h) (EvQ.done ?_))
   rcases Nat.eq_zero_or_pos (places b.Aa).length with h0|h0
   ·exact .inl (by rw [h0];rfl)
   ·exact .inr ⟨rfl,h0⟩
 intro b1 hb1
 refine EvQ.bif (fun _=>EvQ.done bad) (fun hf=>?_)
 obtain ⟨h,h0⟩:blockB b=true∧1≤(places b.Aa).length:=by
  rcases hb1 with rfl|h
  ·cases hf
  ·exact h
 have hpl:=qaz (qI (qae h))
 refine EvQ.bind (qpG hb.ok h h0 hc hs) ?_
 rintro ⟨r3,i4,i5⟩ ⟨⟨l3,h3⟩,hs⟩
 refine EvQ.bind (qqu h h0 l3 h3 hc hs) ?_
 rintro ⟨r4,i6,i7⟩ ⟨h4,hs⟩
 refine EvQ.bind (qag 3 hc hs) ?_
 rintro ⟨i8,i9,i10⟩ ⟨_,hs⟩
 dsimp only at l3 h3 h4 hs ⊢
 refine EvQ.bind (R:=fun o:List Int × Int × Int=>((1≤o.1.length∧o.1.length≤20)∧∀ y,y ∈ o.1→PlI b y)∧SrcI code o.2.1 o.2.2) (EvQ.bif (fun _=>EvQ.bind (qpG hb.ok h h0 hc hs) ?_) (fun _=>EvQ.done ⟨⟨l3,h3⟩,hs⟩)) ?_
 ·rintro ⟨r6,i19,i20⟩ h6
  exact EvQ.done h6
 rintro ⟨x1,i11,i12⟩ ⟨⟨lx,hx⟩,hs⟩
 dsimp only at lx hx hs ⊢
 refine EvQ.bind (qag 14 hc hs) ?_
 rintro ⟨i13,i14,i15⟩ ⟨_,hs⟩
 dsimp only at hs ⊢
 refine EvQ.bif (fun _=>EvQ.bindE (qeW h) (EvQ.bind (qag _ hc hs) ?_)) (fun _=>EvQ.done ⟨hb,h4,lx.1,by dsimp only;omega,fun y hy=>(hx y hy).ok h⟩)
 rintro ⟨i16,i17,i18⟩ ⟨⟨⟨t0,t1⟩,_⟩,hs⟩
 dsimp only at t0 t1
 have t2:=t1 (by omega)
 exact EvQ.bindN (qbI (by omega)) (EvQ.done ⟨hb,h4,by show 1≤(_++_:List Int).length;rw [jg,ji];omega,by show (_++_:List Int).length≤_;rw [jg,ji];omega,qbb (fun y hy=>(hx y hy).ok h) (qL (by omega) (by omega))⟩)
end
end Go.Fw
