/- By a program of mine (gen.py): for each function a plain function and the proof that the code computes it. -/
import Derived.Test.YtanbjhnkfiipnaaGreatDoorZ1
import Derived.Test.YtanbjhnkfiipnaaGreatDoorA3
import Derived.Test.YtanbjhnkfiipnaaGreatDoorFw37
open Option renaming bind_some → je
open Nat renaming le_refl → jf, mul_le_mul_right → jo, le_of_ble_eq_true → jp, lt_of_lt_of_le → jr, succ_mul → jB, zero_le → jJ, le_trans → jN, zero_add → jQ
open Bool renaming and_eq_true → jg, eq_iff_iff → jk, not_eq_true' → jA, true_and → jF
open Go.Result renaming andThen_ok → jh
open List renaming length_append → ji, length_singleton → jj, getElem?_eq_getElem → jn, getElem_mem → jq, mem_cons_of_mem → js, mem_cons_self → jt, mem_of_getElem? → ju, getD_eq_getElem?_getD → jw, getElem?_append_left → jx, not_mem_nil → jy, eq_nil_of_length_eq_zero → jz, getElem?_take → jC, getElem?_toArray → jD, getElem?_append_right → jE, length_map → jG, mem_cons → jH, getElem_of_mem → jI, size_toArray → jL, append_nil → jM, append_assoc → jO, all_eq_true → jP
open Go.Sem renaming run_bind → jl, run_pure → jm
open Int renaming toNat_natCast → jv
open Array renaming getElem?_append_left → jK

namespace Go.Fw
open Go Go.Proofs
open Go.RowKit (Below)
set_option maxRecDepth 100000
set_option maxHeartbeats 6400000
variable {n:Nat} {w:World} {cs1 cs2 cs3 cs4 cs5 cs6 cs7 cs8 cs9:List Value}
def qbI (s:Tl01Source) (r1:qK) (x3:(List Int)):Nat→(List Int)→Int→Int→Int→Option ((List Int) × Int × Int × Int)
 | 0,_,_,_,_=>none
 | n+1,x7,i19,i20,i21 =>
  bif decide (i21<(r1.As.length:Int)) then
   (qu n (⟨s.code,i19,i20⟩:Tl01Source) (x3.length:Int)).bind fun o=>match o with
    | (i22,i23,i24) =>
     (idx x7 i21).bind fun _ =>
     qbI s r1 x3 n (setS x7 i21 i22) i23 i24 (W64 (i21+1))
  else
   some (x7,i19,i20,i21)
def qbL (s:Tl01Source):Nat→(List Int)→(List Int)→(List Int)→Int→Int→Int→Option ((List Int) × (List Int) × (List Int) × Int × Int × Int)
 | 0,_,_,_,_,_,_=>none
 | n+1,x1,x2,x3,i7,i8,i9 =>
  bif decide (i9 > 0) then
   (qd0 n x3).bind fun r2 =>
   (qu n (⟨s.code,i7,i8⟩:Tl01Source) (x3.length:Int)).bind fun o=>match o with
    | (i10,i11,i12) =>
     (appS r2 ([i10]:List Int)).bind fun x4 =>
     (qd0 n x2).bind fun r3 =>
     (qu n (⟨s.code,i11,i12⟩:Tl01Source) 400).bind fun o=>match o with
      | (i13,i14,i15) =>
       (appS r3 ([i13]:List Int)).bind fun x5 =>
       (qd0 n x1).bind fun r4 =>
       (qu n (⟨s.code,i14,i15⟩:Tl01Source) 8).bind fun o=>match o with
        | (i16,i17,i18) =>
         (appS r4 ([i16]:List Int)).bind fun x6 =>
         qbL s n x6 x5 x4 i17 i18 (W64 (i9-1))
  else
   some (x1,x2,x3,i7,i8,i9)
def qeu (n:Nat) (s:Tl01Source) (sinks:Int):Option (qK × Int × Int) :=
 (qu n (⟨s.code,s.at_,s.seed⟩:Tl01Source) 6).bind fun o=>match o with
  | (i1,i2,i3) =>
   (qe5 n sinks i1).bind fun r1 =>
   (qu n (⟨s.code,i2,i3⟩:Tl01Source) 4).bind fun o=>match o with
    | (i4,i5,i6) =>
     (qbL s n r1.Bb r1.Bc r1.Aj i5 i6 i4).bind fun o=>match o with
     | (x1,x2,x3,i7,i8,_) =>
      (qbI s r1 x3 n r1.As i7 i8 0).bind fun o=>match o with
      | (x7,i19,i20,_) =>
       some ((⟨x3,x2,x1,x7⟩:qK),i19,i20)
theorem qhN {n:Nat} {w0 w:World} {F:List Ch} {s:Tl01Source} {bb1:Nat} {p1:Option Addr} {k1:Nat} {sinks:Int} (h0:SH w0 w (Ch.box bb1 (qg s p1 k1) 108::F)) (ha1:GoT.R w (Fr w0 F) s [.slice p1 s.code.length k1,.int .i64 s.at_,.int .i64 s.seed]) {r:(qK × Int × Int)} (hF:qeu n s sinks=some r):RetW Tryz.prog 117 [.pointer (some ⟨bb1,0,none⟩),.int .i64 sinks] w (fun us w'=>∃ (S1:Nat→Prop) (cs1:List Value),us=[GoT.v qK cs1]∧SH w0 w' (Ch.own S1 (r.1:qK) cs1::Ch.box bb1 [.slice p1 s.code.length k1,.int .i64 r.2.1,.int .i64 r.2.2] 108::F)):=by
 have h:=SH.frame [Ch.box bb1 (qg s p1 k1) 108] h0
 replace h:=h.grpAdd 1 rfl ha1
 replace h:SH _ _ [Ch.box bb1 (qg s p1 k1) 108,Ch.grp (old w0) (FS F) [fct (s:Tl01Source) [.slice p1 s.code.length k1,.int .i64 s.at_,.int .i64 s.seed],same w0 w F]]:=h
 refine qbn Tryz.func117 rfl (m:=64) rfl rfl (zSR (qy qa h rfl rfl rfl fun w1 bb2 h=>X0 5 rfl ?_))
 replace h:=h.pick [1,0,2] rfl
 obtain ⟨o1,hr1,hF⟩:=qe hF
 obtain ⟨i1,i2,i3⟩:=o1
 refine qB (cB 32 rfl) (qj (a_0:=(⟨s.code,s.at_,s.seed⟩:Tl01Source)) (a_1:=6) h ⟨[.slice p1 s.code.length k1],[.int .i64 s.at_,.int .i64 s.seed],rfl,⟨_,_,rfl,(qf (h.frG 2 0 1 rfl rfl rfl)).1⟩,⟨[.int .i64 s.at_],[.int .i64 s.seed],rfl,rfl,rfl⟩⟩ hr1) rfl rfl rfl rfl ?_
 rintro w2 us1 ⟨rfl,h⟩
 replace h:SH _ _ [Ch.box bb1 [.slice p1 s.code.length k1,.int .i64 i2,.int .i64 i3] 108,Ch.box bb2 [.slice none 0 0,.slice none 0 0,.slice none 0 0,.slice none 0 0] 118,Ch.grp (old w0) (FS F) [fct (s:Tl01Source) [.slice p1 s.code.length k1,.int .i64 s.at_,.int .i64 s.seed],same w0 w F]]:=h
 refine zcO h hF qiA rfl fun r1 w3 S2 cs2 h hF=>?_
 obtain ⟨p2,k2,p3,k3,p4,k4,p5,k5,rfl,-,-,-,-⟩:=qbt (h.own 0 rfl)
 refine qy qa h rfl rfl rfl fun w4 bb3 h=>zs 0 h rfl fun w5 h=>X0 5 rfl ?_
 replace h:=h.pick [2,0,1,3,4] rfl
 obtain ⟨o2,hr3,hF⟩:=qe hF
 obtain ⟨i4,i5,i6⟩:=o2
 refine qB (cB 32 rfl) (qj (a_0:=(⟨s.code,i2,i3⟩:Tl01Source)) (a_1:=4) h ⟨[.slice p1 s.code.length k1],[.int .i64 i2,.int .i64 i3],rfl,⟨_,_,rfl,(qf (h.frG 4 0 1 rfl rfl rfl)).1⟩,⟨[.int .i64 i2],[.int .i64 i3],rfl,rfl,rfl⟩⟩ hr3) rfl rfl rfl rfl ?_
 rintro w6 us2 ⟨rfl,h⟩
 replace h:SH _ _ [Ch.box bb1 [.slice p1 s.code.length k1,.int .i64 i5,.int .i64 i6] 108,Ch.box bb3 (qef r1 p2 p3 p4 p5 k2 k3 k4 k5) 118,Ch.own S2 (r1:qK) (qef r1 p2 p3 p4 p5 k2 k3 k4 k5),Ch.box bb2 [.slice none 0 0,.slice none 0 0,.slice none 0 0,.slice none 0 0] 118,Ch.grp (old w0) (FS F) [fct (s:Tl01Source) [.slice p1 s.code.length k1,.int .i64 s.at_,.int .i64 s.seed],same w0 w F]]:=h
 refine X0 2 rfl ?_
 replace h:=h.pick [2,0,1,3,4] rfl
 obtain ⟨S3,S4,S5,S6,h⟩:=qfP h
 obtain ⟨o3,hF,hK1⟩:=qe hF
 refine qq (rL (fun m e w'=>∃ (S7:Nat→Prop) (p6:Option Addr) (ln1:Nat) (k6:Nat) (x1:(List Int)) (S8:Nat→Prop) (p7:Option Addr) (ln2:Nat) (k7:Nat) (x2:(List Int)) (S9:Nat→Prop) (p8:Option Addr) (ln3:Nat) (k8:Nat) (x3:(List Int)) (i7:Int) (i8:Int) (i9:Int),qbL s m x1 x2 x3 i7 i8 i9=some o3∧e=[(0,.pointer (some ⟨bb1,0,none⟩)),(4,.pointer (some ⟨bb2,0,none⟩)),(5,.pointer (some ⟨bb3,0,none⟩)),(6,.int .i64 i9)]∧SH w0 w' [Ch.own S6 (r1.As:List Int) [.slice p5 r1.As.length k5],Ch.own S7 (x1:List Int) [.slice p6 ln1 k6],Ch.own S8 (x2:List Int) [.slice p7 ln2 k7],Ch.own S9 (x3:List Int) [.slice p8 ln3 k8],Ch.box bb1 [.slice p1 s.code.length k1,.int .i64 i7,.int .i64 i8] 108,Ch.box bb3 [.slice p8 ln3 k8,.slice p7 ln2 k7,.slice p6 ln1 k6,.slice p5 r1.As.length k5] 118,Ch.box bb2 [.slice none 0 0,.slice none 0 0,.slice none 0 0,.slice none 0 0] 118,Ch.grp (old w0) (FS F) [fct (s:Tl01Source) [.slice p1 s.code.length k1,.int .i64 s.at_,.int .i64 s.seed],same w0 w F]]) n ⟨_,_,_,_,_,_,_,_,_,_,_,_,_,_,_,_,_,_,hF,rfl,h⟩ rfl ?_)
 rintro m1 e1 w7 ⟨S7,p6,ln1,k6,x1,S8,p7,ln2,k7,x2,S9,p8,ln3,k8,x3,i7,i8,i9,hF,rfl,h⟩
 obtain rfl:=(h.sl 1 rfl).2
 obtain rfl:=(h.sl 2 rfl).2
 obtain rfl:=(h.sl 3 rfl).2
 rcases m1 with _|m1
 ·cases hF
 refine X0 6 rfl (qr rfl hF ?_ ?_)<;>intro hF
 ·refine X1 10 5 h rfl (rA [25] [5] h rfl fun w8 h=>M4 12946203 [0,1,3,4,8,9,11,15,16,18,22,23] 0 0 0 0 (h.pick [5] rfl) rfl (Ao 2 12946207 rfl (zcL h hF (qd2 (h.own 3 rfl)) rfl fun r2 w9 S10 p9 k9 h hF=>Ag (h.pick [6] rfl) (Ao 5 12946239 rfl ?_))))
  replace h:=h.pick [5,0,1,2,3,4,6,7,8] rfl
  obtain ⟨o4,hr5,hF⟩:=qe hF
  obtain ⟨i10,i11,i12⟩:=o4
  refine qB (cB 32 rfl) (qj (a_0:=(⟨s.code,i7,i8⟩:Tl01Source)) (a_1:=(x3.length:Int)) h ⟨[.slice p1 s.code.length k1],[.int .i64 i7,.int .i64 i8],rfl,⟨_,_,rfl,(qf (h.frG 8 0 1 rfl rfl rfl)).1⟩,⟨[.int .i64 i7],[.int .i64 i8],rfl,rfl,rfl⟩⟩ hr5) rfl rfl rfl rfl ?_
  rintro w10 us3 ⟨rfl,h⟩
  replace h:SH _ _ [Ch.box bb1 [.slice p1 s.code.length k1,.int .i64 i11,.int .i64 i12] 108,Ch.own S10 (r2:List Int) [.slice p9 r2.length k9],Ch.own S6 (r1.As:List Int) [.slice p5 r1.As.length k5],Ch.own S7 (x1:List Int) [.slice p6 x1.length k6],Ch.own S8 (x2:List Int) [.slice p7 x2.length k7],Ch.own S9 (x3:List Int) [.slice p8 x3.length k8],Ch.box bb3 [.slice p8 x3.length k8,.slice p7 x2.length k7,.slice p6 x1.length k6,.slice p5 r1.As.length k5] 118,Ch.box bb2 [.slice none 0 0,.slice none 0 0,.slice none 0 0,.slice none 0 0] 118,Ch.grp (old w0) (FS F) [fct (s:Tl01Source) [.slice p1 s.code.length k1,.int .i64 s.at_,.int .i64 s.seed],same w0 w F]]:=h
  refine Ag (h.pick [6] rfl) (Ao 6 12946303 rfl (qp qa [.tmp 27] _ ([i10]:List Int) h rfl rfl rfl rfl rfl rfl rfl rfl rfl ⟨rfl,trivial⟩ rfl fun w11 p10 S11 h=>Ag (h.pick [7] rfl) (Ao 7 12946431 rfl ?_)))
  obtain ⟨x4,hx1,hF⟩:=qe hF
  obtain ⟨g1,hx1⟩:=qx hx1
  refine qaq qa 2 h rfl (h.sl 0 rfl).1 (h.sl 0 rfl).2 rfl rfl rfl rfl rfl rfl rfl rfl rfl g1 hx1 rfl fun w12 p11 k10 S12 h=>Ag (h.pick [7] rfl) (Ao 10 12947455 rfl (zcL h hF (qd2 (h.own 5 rfl)) rfl fun r3 w13 S13 p12 k11 h hF=>Ag (h.pick [8] rfl) (Ao 12 12951551 rfl ?_)))
  replace h:=h.pick [2,0,1,3,4,5,6,7,8,9,10] rfl
  obtain ⟨o5,hr7,hF⟩:=qe hF
  obtain ⟨i13,i14,i15⟩:=o5
  refine qB (cB 32 rfl) (qj (a_0:=(⟨s.code,i11,i12⟩:Tl01Source)) (a_1:=400) h ⟨[.slice p1 s.code.length k1],[.int .i64 i11,.int .i64 i12],rfl,⟨_,_,rfl,(qf (h.frG 10 0 1 rfl rfl rfl)).1⟩,⟨[.int .i64 i11],[.int .i64 i12],rfl,rfl,rfl⟩⟩ hr7) rfl rfl rfl rfl ?_
  rintro w14 us4 ⟨rfl,h⟩
  replace h:SH _ _ [Ch.box bb1 [.slice p1 s.code.length k1,.int .i64 i14,.int .i64 i15] 108,Ch.own S13 (r3:List Int) [.slice p12 r3.length k11],Ch.own S11 (([i10]:List Int):List Int) [.slice p10 1 1],Ch.own S12 (x4:List Int) [.slice p11 x4.length k10],Ch.own S6 (r1.As:List Int) [.slice p5 r1.As.length k5],Ch.own S7 (x1:List Int) [.slice p6 x1.length k6],Ch.own S8 (x2:List Int) [.slice p7 x2.length k7],Ch.own S9 (x3:List Int) [.slice p8 x3.length k8],Ch.box bb3 [.slice p8 x3.length k8,.slice p7 x2.length k7,.slice p6 x1.length k6,.slice p5 r1.As.length k5] 118,Ch.box bb2 [.slice none 0 0,.slice none 0 0,.slice none 0 0,.slice none 0 0] 118,Ch.grp (old w0) (FS F) [fct (s:Tl01Source) [.slice p1 s.code.length k1,.int .i64 s.at_,.int .i64 s.seed],same w0 w F]]:=h
  refine Ag (h.pick [8] rfl) (Ao 13 12959743 rfl (qp qa [.tmp 34] _ ([i13]:List Int) h rfl rfl rfl rfl rfl rfl rfl rfl rfl ⟨rfl,trivial⟩ rfl fun w15 p13 S14 h=>Ag (h.pick [9] rfl) (Ao 14 12976127 rfl ?_)))
  obtain ⟨x5,hx2,hF⟩:=qe hF
  obtain ⟨g2,hx2⟩:=qx hx2
  refine qaq qa 2 h rfl (h.sl 0 rfl).1 (h.sl 0 rfl).2 rfl rfl rfl rfl rfl rfl rfl rfl rfl g2 hx2 rfl fun w16 p14 k12 S15 h=>Ag (h.pick [9] rfl) (Ao 17 13107199 rfl (zcL h hF (qd2 (h.own 6 rfl)) rfl fun r4 w17 S16 p15 k13 h hF=>Ag (h.pick [10] rfl) (Ao 19 13631487 rfl ?_)))
  replace h:=h.pick [2,0,1,3,4,5,6,7,8,9,10,11,12] rfl
  obtain ⟨o6,hr9,hF⟩:=qe hF
  obtain ⟨i16,i17,i18⟩:=o6
  refine qB (cB 32 rfl) (qj (a_0:=(⟨s.code,i14,i15⟩:Tl01Source)) (a_1:=8) h ⟨[.slice p1 s.code.length k1],[.int .i64 i14,.int .i64 i15],rfl,⟨_,_,rfl,(qf (h.frG 12 0 1 rfl rfl rfl)).1⟩,⟨[.int .i64 i14],[.int .i64 i15],rfl,rfl,rfl⟩⟩ hr9) rfl rfl rfl rfl ?_
  rintro w18 us5 ⟨rfl,h⟩
  replace h:SH _ _ [Ch.box bb1 [.slice p1 s.code.length k1,.int .i64 i17,.int .i64 i18] 108,Ch.own S16 (r4:List Int) [.slice p15 r4.length k13],Ch.own S14 (([i13]:List Int):List Int) [.slice p13 1 1],Ch.own S15 (x5:List Int) [.slice p14 x5.length k12],Ch.own S11 (([i10]:List Int):List Int) [.slice p10 1 1],Ch.own S12 (x4:List Int) [.slice p11 x4.length k10],Ch.own S6 (r1.As:List Int) [.slice p5 r1.As.length k5],Ch.own S7 (x1:List Int) [.slice p6 x1.length k6],Ch.own S8 (x2:List Int) [.slice p7 x2.length k7],Ch.own S9 (x3:List Int) [.slice p8 x3.length k8],Ch.box bb3 [.slice p8 x3.length k8,.slice p7 x2.length k7,.slice p6 x1.length k6,.slice p5 r1.As.length k5] 118,Ch.box bb2 [.slice none 0 0,.slice none 0 0,.slice none 0 0,.slice none 0 0] 118,Ch.grp (old w0) (FS F) [fct (s:Tl01Source) [.slice p1 s.code.length k1,.int .i64 s.at_,.int .i64 s.seed],same w0 w F]]:=h
  refine Ag (h.pick [10] rfl) (Ao 20 14680063 rfl (qp qa [.tmp 41] _ ([i16]:List Int) h rfl rfl rfl rfl rfl rfl rfl rfl rfl ⟨rfl,trivial⟩ rfl fun w19 p16 S17 h=>Ag (h.pick [11] rfl) (Ao 21 16777215 rfl ?_)))
  obtain ⟨x6,hx3,hF⟩:=qe hF
  obtain ⟨g3,hx3⟩:=qx hx3
  refine qaq qa 2 h rfl (h.sl 0 rfl).1 (h.sl 0 rfl).2 rfl rfl rfl rfl rfl rfl rfl rfl rfl g3 hx3 rfl fun w20 p17 k14 S18 h=>Ag (h.pick [11] rfl) (Aw 24 33554431 (fun w' hw=>qay qa [0,1,2,3] [.tmp 29,.tmp 36,.tmp 43,.tmp 45] rfl rfl rfl rfl rfl rfl rfl rfl) (h.pick [11] rfl) rfl ?_)
  refine Ao 25 67108863 rfl (zs 11 h rfl fun w21 h=>qen (fun hs=>absurd (hs 25 (by decide)) (by decide)) (Ad (X0 6 rfl ?_)))
  replace h:=h.pick [7,2,4,6,1,11,12,13] rfl
  exact rK ⟨_,_,_,_,_,_,_,_,_,_,_,_,_,_,_,_,_,_,hF,rfl,h⟩ rfl
 refine qw rfl ?_
 obtain rfl:=qb hF;replace hF:=hK1
 refine X0 5 rfl ?_
 obtain ⟨o7,hF,hK2⟩:=qe hF
 refine qq (rL (fun m e w'=>∃ (x7:(List Int)) (i19:Int) (i20:Int) (i21:Int),qbI s r1 x3 m x7 i19 i20 i21=some o7∧e=[(0,.pointer (some ⟨bb1,0,none⟩)),(4,.pointer (some ⟨bb2,0,none⟩)),(5,.pointer (some ⟨bb3,0,none⟩)),(8,.int .i64 i21)]∧SH w0 w' [Ch.own S6 (x7:List Int) [.slice p5 r1.As.length k5],Ch.own S7 (x1:List Int) [.slice p6 x1.length k6],Ch.own S8 (x2:List Int) [.slice p7 x2.length k7],Ch.own S9 (x3:List Int) [.slice p8 x3.length k8],Ch.box bb1 [.slice p1 s.code.length k1,.int .i64 i19,.int .i64 i20] 108,Ch.box bb3 [.slice p8 x3.length k8,.slice p7 x2.length k7,.slice p6 x1.length k6,.slice p5 r1.As.length k5] 118,Ch.box bb2 [.slice none 0 0,.slice none 0 0,.slice none 0 0,.slice none 0 0] 118,Ch.grp (old w0) (FS F) [fct (s:Tl01Source) [.slice p1 s.code.length k1,.int .i64 s.at_,.int .i64 s.seed],same w0 w F]]) n ⟨_,_,_,_,hF,rfl,h⟩ rfl ?_)
 rintro m2 e2 w22 ⟨x7,i19,i20,i21,hF,rfl,h⟩
 rcases m2 with _|m2
 ·cases hF
 refine X1 9 5 h rfl (qr rfl hF ?_ ?_)<;>intro hF
 ·refine zKSB (rA [] [5] h rfl fun w23 h=>M2 127 [0,1,2,3,4,5,6] 0 0 (h.pick [5] rfl) rfl (Ao 7 255 rfl ?_))
  replace h:=h.pick [4,0,1,2,3,5,6,7] rfl
  obtain ⟨o8,hr10,hF⟩:=qe hF
  obtain ⟨i22,i23,i24⟩:=o8
  refine qB (cB 32 rfl) (qj (a_0:=(⟨s.code,i19,i20⟩:Tl01Source)) (a_1:=(x3.length:Int)) h ⟨[.slice p1 s.code.length k1],[.int .i64 i19,.int .i64 i20],rfl,⟨_,_,rfl,(qf (h.frG 7 0 1 rfl rfl rfl)).1⟩,⟨[.int .i64 i19],[.int .i64 i20],rfl,rfl,rfl⟩⟩ hr10) rfl rfl rfl rfl ?_
  rintro w24 us6 ⟨rfl,h⟩
  replace h:SH _ _ [Ch.box bb1 [.slice p1 s.code.length k1,.int .i64 i23,.int .i64 i24] 108,Ch.own S6 (x7:List Int) [.slice p5 r1.As.length k5],Ch.own S7 (x1:List Int) [.slice p6 x1.length k6],Ch.own S8 (x2:List Int) [.slice p7 x2.length k7],Ch.own S9 (x3:List Int) [.slice p8 x3.length k8],Ch.box bb3 [.slice p8 x3.length k8,.slice p7 x2.length k7,.slice p6 x1.length k6,.slice p5 r1.As.length k5] 118,Ch.box bb2 [.slice none 0 0,.slice none 0 0,.slice none 0 0,.slice none 0 0] 118,Ch.grp (old w0) (FS F) [fct (s:Tl01Source) [.slice p1 s.code.length k1,.int .i64 s.at_,.int .i64 s.seed],same w0 w F]]:=h
  refine Ag (h.pick [5] rfl) ?_
  obtain ⟨y1,hy1,hF,he1,b1,_,q1,cs3,hp1,hq1,rfl,hc3⟩:=(h.sl 1 rfl).1.ix hF
  refine Ax 8 511 hp1 hq1 ⟨he1.1,qY he1.2.1 (h.sl 1 rfl).2⟩ (h.pick [5] rfl) rfl (Ao 9 1023 rfl (qde qa 1 0 i22 h rfl hy1 hp1 hq1 rfl hc3 rfl rfl rfl rfl rfl rfl rfl fun w25 h=>Ag (h.pick [5] rfl) (Ad (X0 6 rfl ?_))))
  replace h:=h.pick [1,2,3,4,0,5,6,7] rfl
  exact rK ⟨_,_,_,_,hF,rfl,h⟩ rfl
 refine qw rfl ?_
 obtain rfl:=qb hF;replace hF:=hK2
 refine X1 3 5 h rfl (zs 6 h rfl fun w26 h=>qbs ?_)
 have hk1:=h
 obtain ⟨S19,h⟩:=h.gather [4,5,6,7] (qgP (⟨x3,x2,x1,x7⟩:qK) h (qJ 3 h rfl) (qJ 2 h rfl) (qJ 1 h rfl) (qJ 0 h rfl) (by rfl) (by rfl) (by rfl)) rfl
 obtain rfl:=qb hF
 replace h:=h.pick [0,1,4] rfl
 replace h:SH _ _ [Ch.own S19 ((⟨x3,x2,x1,x7⟩:qK):qK) [.slice p8 x3.length k8,.slice p7 x2.length k7,.slice p6 x1.length k6,.slice p5 r1.As.length k5],Ch.box bb1 [.slice p1 s.code.length k1,.int .i64 i19,.int .i64 i20] 108,Ch.grp (old w0) (FS F) [fct (s:Tl01Source) [.slice p1 s.code.length k1,.int .i64 s.at_,.int .i64 s.seed],same w0 w F]]:=h
 exact qce qa [GoT.v qK [.slice p8 x3.length k8,.slice p7 x2.length k7,.slice p6 x1.length k6,.slice p5 r1.As.length k5]] ⟨⟨_,_,_,rfl,rfl,hk1.box 6 rfl,rfl⟩,trivial⟩ ⟨_,_,rfl,SH.unframe 1 (L0:=[Ch.box bb1 (qg s p1 k1) 108]) h0 [Ch.own S19 ((⟨x3,x2,x1,x7⟩:qK):qK) [.slice p8 x3.length k8,.slice p7 x2.length k7,.slice p6 x1.length k6,.slice p5 r1.As.length k5],Ch.box bb1 [.slice p1 s.code.length k1,.int .i64 i19,.int .i64 i20] 108] h rfl⟩
def qc5 (s:Tl01Source) (r2:qc):Nat→(List qK)→Int→Int→Int→Option ((List qK) × Int × Int × Int)
 | 0,_,_,_,_=>none
 | n+1,x1,i5,i6,i7 =>
  bif decide (i7<(r2.Ai.length:Int)) then
   (qd5 n r2 i7).bind fun r3 =>
   (qeu n (⟨s.code,i5,i6⟩:Tl01Source) (r3.length:Int)).bind fun o=>match o with
    | (r4,i8,i9) =>
     (appS x1 ([r4]:List qK)).bind fun x2 =>
     qc5 s r2 n x2 i8 i9 (W64 (i7+1))
  else
   some (x1,i5,i6,i7)
def qfe (n:Nat) (s:Tl01Source) (most:Int) (wild:Bool):Option (qd × Int × Int) :=
 (qgd n (⟨s.code,s.at_,s.seed⟩:Tl01Source)).bind fun o=>match o with
  | (r1,i1,i2) =>
   (qf9 n (⟨s.code,i1,i2⟩:Tl01Source) most wild).bind fun o=>match o with
    | (r2,i3,i4) =>
     (qc5 s r2 n ([]:List qK) i3 i4 0).bind fun o=>match o with
     | (x1,i5,i6,_) =>
      some ((⟨r1,r2,x1⟩:qd),i5,i6)
theorem qgO {n:Nat} {w0 w:World} {F:List Ch} {s:Tl01Source} {bb1:Nat} {p1:Option Addr} {k1:Nat} {most:Int} {wild:Bool} (h0:SH w0 w (Ch.box bb1 (qg s p1 k1) 108::F)) (ha1:GoT.R w (Fr w0 F) s [.slice p1 s.code.length k1,.int .i64 s.at_,.int .i64 s.seed]) {r:(qd × Int × Int)} (hF:qfe n s most wild=some r):RetW Tryz.prog 68 [.pointer (some ⟨bb1,0,none⟩),.int .i64 most,.bool wild] w (fun us w'=>∃ (S1:Nat→Prop) (cs1:List Value),us=[GoT.v qd cs1]∧SH w0 w' (Ch.own S1 (r.1:qd) cs1::Ch.box bb1 [.slice p1 s.code.length k1,.int .i64 r.2.1,.int .i64 r.2.2] 108::F)):=by
 have h:=SH.frame [Ch.box bb1 (qg s p1 k1) 108] h0
 replace h:=h.grpAdd 1 rfl ha1
 replace h:SH _ _ [Ch.box bb1 (qg s p1 k1) 108,Ch.grp (old w0) (FS F) [fct (s:Tl01Source) [.slice p1 s.code.length k1,.int .i64 s.at_,.int .i64 s.seed],same w0 w F]]:=h
 refine qbn Tryz.func68 rfl (m:=38) rfl rfl (zSR (qy qa h rfl rfl rfl fun w1 bb2 h=>X0 4 rfl ?_))
 replace h:=h.pick [1,0,2] rfl
 obtain ⟨o1,hr1,hF⟩:=qe hF
 obtain ⟨r1,i1,i2⟩:=o1
 refine qB (cB 115 rfl) (qiS (s:=(⟨s.code,s.at_,s.seed⟩:Tl01Source)) h ⟨[.slice p1 s.code.length k1],[.int .i64 s.at_,.int .i64 s.seed],rfl,⟨_,_,rfl,(qf (h.frG 2 0 1 rfl rfl rfl)).1⟩,⟨[.int .i64 s.at_],[.int .i64 s.seed],rfl,rfl,rfl⟩⟩ hr1) rfl rfl rfl rfl ?_
 rintro w2 us1 ⟨S2,cs2,rfl,h⟩
 obtain ⟨p2,k2,rfl,-⟩:=qbg (h.own 0 rfl)
 replace h:SH _ _ [Ch.own S2 (r1:qi) [.slice p2 r1.Ak.length k2],Ch.box bb1 [.slice p1 s.code.length k1,.int .i64 i1,.int .i64 i2] 108,Ch.box bb2 [.slice none 0 0,.slice none 0 0,.slice none 0 0,.slice none 0 0,.slice none 0 0] 34,Ch.grp (old w0) (FS F) [fct (s:Tl01Source) [.slice p1 s.code.length k1,.int .i64 s.at_,.int .i64 s.seed],same w0 w F]]:=h
 refine qy qa h rfl rfl rfl fun w3 bb3 h=>zs 0 h rfl fun w4 h=>X0 6 rfl ?_
 replace h:=h.pick [2,0,1,3,4] rfl
 obtain ⟨o2,hr2,hF⟩:=qe hF
 obtain ⟨r2,i3,i4⟩:=o2
 refine qB (cB 116 rfl) (qi0 (a_0:=(⟨s.code,i1,i2⟩:Tl01Source)) (a_1:=most) (a_2:=wild) h ⟨[.slice p1 s.code.length k1],[.int .i64 i1,.int .i64 i2],rfl,⟨_,_,rfl,(qf (h.frG 4 0 1 rfl rfl rfl)).1⟩,⟨[.int .i64 i1],[.int .i64 i2],rfl,rfl,rfl⟩⟩ hr2) rfl rfl rfl rfl ?_
 rintro w5 us2 ⟨S3,cs3,rfl,h⟩
 obtain ⟨p3,k3,p4,k4,p5,k5,rfl,-,-,-⟩:=qak (h.own 0 rfl)
 replace h:SH _ _ [Ch.own S3 (r2:qc) (qaa r2 p3 p4 p5 k3 k4 k5),Ch.box bb1 [.slice p1 s.code.length k1,.int .i64 i3,.int .i64 i4] 108,Ch.box bb3 [.slice p2 r1.Ak.length k2] 26,Ch.own S2 (r1:qi) [.slice p2 r1.Ak.length k2],Ch.box bb2 [.slice none 0 0,.slice none 0 0,.slice none 0 0,.slice none 0 0,.slice none 0 0] 34,Ch.grp (old w0) (FS F) [fct (s:Tl01Source) [.slice p1 s.code.length k1,.int .i64 s.at_,.int .i64 s.seed],same w0 w F]]:=h
 refine qy qa h rfl rfl rfl fun w6 bb4 h=>zs 0 h rfl fun w7 h=>zNSR (qdC qa [] _ ([]:List qK) [0,1,2,3,4,5,6] h rfl rfl rfl rfl rfl rfl rfl rfl rfl qfn rfl rfl fun w8 p6 S4 h=>X0 7 rfl ?_)
 obtain ⟨o3,hF,hK1⟩:=qe hF
 refine qq (rL (fun m e w'=>∃ (S5:Nat→Prop) (p7:Option Addr) (ln1:Nat) (k6:Nat) (x1:(List qK)) (i5:Int) (i6:Int) (i7:Int),qc5 s r2 m x1 i5 i6 i7=some o3∧e=[(0,.pointer (some ⟨bb1,0,none⟩)),(6,.pointer (some ⟨bb2,0,none⟩)),(7,.pointer (some ⟨bb3,0,none⟩)),(8,.pointer (some ⟨bb4,0,none⟩)),(9,.slice p7 ln1 k6),(10,.int .i64 i7)]∧SH w0 w' [Ch.own S5 (x1:List qK) [.slice p7 ln1 k6],Ch.box bb4 (qaa r2 p3 p4 p5 k3 k4 k5) 31,Ch.own S3 (r2:qc) (qaa r2 p3 p4 p5 k3 k4 k5),Ch.box bb1 [.slice p1 s.code.length k1,.int .i64 i5,.int .i64 i6] 108,Ch.box bb3 [.slice p2 r1.Ak.length k2] 26,Ch.own S2 (r1:qi) [.slice p2 r1.Ak.length k2],Ch.box bb2 [.slice none 0 0,.slice none 0 0,.slice none 0 0,.slice none 0 0,.slice none 0 0] 34,Ch.grp (old w0) (FS F) [fct (s:Tl01Source) [.slice p1 s.code.length k1,.int .i64 s.at_,.int .i64 s.seed],same w0 w F]]) n ⟨_,_,_,_,_,_,_,_,hF,rfl,h⟩ rfl ?_)
 rintro m1 e1 w9 ⟨S5,p7,ln1,k6,x1,i5,i6,i7,hF,rfl,h⟩
 obtain rfl:=(h.sl 0 rfl).2
 rcases m1 with _|m1
 ·cases hF
 refine X1 9 1 h rfl (qr rfl hF ?_ ?_)<;>intro hF
 ·refine X1 8 1 h rfl (zcL h hF (qfB (h.own 2 rfl)) rfl fun r3 w10 S6 p8 k7 h hF=>zp1 rfl ?_)
  replace h:=h.pick [4,0,1,2,3,5,6,7,8] rfl
  obtain ⟨o4,hr4,hF⟩:=qe hF
  obtain ⟨r4,i8,i9⟩:=o4
  refine qB (cB 117 rfl) (qhN (s:=(⟨s.code,i5,i6⟩:Tl01Source)) (sinks:=(r3.length:Int)) h ⟨[.slice p1 s.code.length k1],[.int .i64 i5,.int .i64 i6],rfl,⟨_,_,rfl,(qf (h.frG 8 0 1 rfl rfl rfl)).1⟩,⟨[.int .i64 i5],[.int .i64 i6],rfl,rfl,rfl⟩⟩ hr4) rfl rfl rfl rfl ?_
  rintro w11 us3 ⟨S7,cs4,rfl,h⟩
  obtain ⟨p9,k8,p10,k9,p11,k10,p12,k11,rfl,-,-,-,-⟩:=qbt (h.own 0 rfl)
  replace h:SH _ _ [Ch.own S7 (r4:qK) (qef r4 p9 p10 p11 p12 k8 k9 k10 k11),Ch.box bb1 [.slice p1 s.code.length k1,.int .i64 i8,.int .i64 i9] 108,Ch.own S6 (r3:List Int) [.slice p8 r3.length k7],Ch.own S5 (x1:List qK) [.slice p7 x1.length k6],Ch.box bb4 (qaa r2 p3 p4 p5 k3 k4 k5) 31,Ch.own S3 (r2:qc) (qaa r2 p3 p4 p5 k3 k4 k5),Ch.box bb3 [.slice p2 r1.Ak.length k2] 26,Ch.own S2 (r1:qi) [.slice p2 r1.Ak.length k2],Ch.box bb2 [.slice none 0 0,.slice none 0 0,.slice none 0 0,.slice none 0 0,.slice none 0 0] 34,Ch.grp (old w0) (FS F) [fct (s:Tl01Source) [.slice p1 s.code.length k1,.int .i64 s.at_,.int .i64 s.seed],same w0 w F]]:=h
  refine qdC qa [.tmp 31] _ ([r4]:List qK) [1,2,3,4,5,6,7,8,9] h rfl rfl rfl rfl rfl rfl rfl rfl rfl (qbY (qJ 0 h rfl) qfn rfl) rfl rfl fun w12 p13 S8 h=>?_
  obtain ⟨x2,hx1,hF⟩:=qe hF
  obtain ⟨g1,hx1⟩:=qx hx1
  replace h:=h.pick [0,3,1,2,4,5,6,7,8,9] rfl
  refine qiN qa h rfl rfl rfl rfl rfl rfl rfl rfl rfl g1 hx1 rfl fun w13 p14 k12 S9 h=>X0 8 rfl ?_
  replace h:=h.pick [0,3,4,1,5,6,7,8] rfl
  exact rK ⟨_,_,_,_,_,_,_,_,hF,rfl,h⟩ rfl
 refine qw rfl ?_
 obtain rfl:=qb hF;replace hF:=hK1
 refine X2 5 4 1 h rfl (r_v (qay qa [0,1,2] [.tmp 34,.tmp 35,.tmp 36] rfl rfl rfl rfl rfl rfl rfl rfl) rfl (zs 6 h rfl fun w14 h=>qbs ?_))
 have hk1:=h
 obtain ⟨S10,h⟩:=h.gather [1,3,4,6,7] (qmS (⟨r1,r2,x1⟩:qd) h (qJ 5 h rfl) (qJ 2 h rfl) (qJ 0 h rfl) (by rfl) (by rfl)) rfl
 obtain rfl:=qb hF
 replace h:=h.pick [0,2,5] rfl
 replace h:SH _ _ [Ch.own S10 ((⟨r1,r2,x1⟩:qd):qd) [.slice p2 r1.Ak.length k2,.slice p3 r2.Ab.length k3,.slice p4 r2.Ai.length k4,.slice p5 r2.Af.length k5,.slice p7 x1.length k6],Ch.box bb1 [.slice p1 s.code.length k1,.int .i64 i5,.int .i64 i6] 108,Ch.grp (old w0) (FS F) [fct (s:Tl01Source) [.slice p1 s.code.length k1,.int .i64 s.at_,.int .i64 s.seed],same w0 w F]]:=h
 exact qce qa [GoT.v qd [.slice p2 r1.Ak.length k2,.slice p3 r2.Ab.length k3,.slice p4 r2.Ai.length k4,.slice p5 r2.Af.length k5,.slice p7 x1.length k6]] ⟨⟨_,_,_,rfl,rfl,hk1.box 6 rfl,rfl⟩,trivial⟩ ⟨_,_,rfl,SH.unframe 1 (L0:=[Ch.box bb1 (qg s p1 k1) 108]) h0 [Ch.own S10 ((⟨r1,r2,x1⟩:qd):qd) [.slice p2 r1.Ak.length k2,.slice p3 r2.Ab.length k3,.slice p4 r2.Ai.length k4,.slice p5 r2.Af.length k5,.slice p7 x1.length k6],Ch.box bb1 [.slice p1 s.code.length k1,.int .i64 i5,.int .i64 i6] 108] h rfl⟩
def qeO (n:Nat) (a_0:Tl01Source):Option (qd × Int × Int) :=
 (qu n (⟨a_0.code,a_0.at_,a_0.seed⟩:Tl01Source) 3).bind fun o=>match o with
  | (i1,i2,i3) =>
   (qfe n (⟨a_0.code,i2,i3⟩:Tl01Source) 6 (i1==0)).bind fun o=>match o with
    | (r1,i4,i5) =>
     (qu n (⟨a_0.code,i4,i5⟩:Tl01Source) (r1.Ah.length:Int)).bind fun o=>match o with
      | (i6,i7,i8) =>
       (qu n (⟨a_0.code,i7,i8⟩:Tl01Source) 20).bind fun o=>match o with
        | (i9,i10,i11) =>
         bif (i9==0) then
          (subS r1.Ah 1 (r1.Ah.length:Int)).bind fun x1 =>
          some ((⟨(⟨r1.Ac.Ak⟩:qi),(⟨r1.Aa.Ab,r1.Aa.Ai,r1.Aa.Af⟩:qc),x1⟩:qd),i10,i11)
         else
          bif (i9==1) then
           (idx r1.Ah i6).bind fun y1 =>
           (qd0 n y1.As).bind fun r2 =>
           (appS r2 ([0]:List Int)).bind fun x2 =>
           some ((⟨r1.Ac,r1.Aa,(setS r1.Ah i6 (⟨y1.Aj,y1.Bc,y1.Bb,x2⟩:qK))⟩:qd),i10,i11)
          else
           bif (i9==2) then
            (idx r1.Ah i6).bind fun y2 =>
            (idx y2.Bc 0).bind fun _ =>
            some ((⟨r1.Ac,r1.Aa,(setS r1.Ah i6 (⟨y2.Aj,(setS y2.Bc 0 1),y2.Bb,y2.As⟩:qK))⟩:qd),i10,i11)
           else
            bif (i9==3) then
             (idx r1.Ah i6).bind fun y4 =>
             (qu n (⟨a_0.code,i10,i11⟩:Tl01Source) 3).bind fun o=>match o with
              | (i12,i13,i14) =>
               (idx ([(-1),500,501]:List Int) i12).bind fun y5 =>
               (idx y4.Bb 0).bind fun _ =>
               some ((⟨r1.Ac,r1.Aa,(setS r1.Ah i6 (⟨y4.Aj,y4.Bc,(setS y4.Bb 0 y5),y4.As⟩:qK))⟩:qd),i13,i14)
            else
             bif (i9==4) then
              (idx r1.Ah i6).bind fun y7 =>
              (qu n (⟨a_0.code,i10,i11⟩:Tl01Source) 5).bind fun o=>match o with
               | (i15,i16,i17) =>
                (idx y7.Aj (W64 ((y7.Aj.length:Int)-1))).bind fun _ =>
                some ((⟨r1.Ac,r1.Aa,(setS r1.Ah i6 (⟨(setS y7.Aj (W64 ((y7.Aj.length:Int)-1)) (W64 (i15-1))),y7.Bc,y7.Bb,y7.As⟩:qK))⟩:qd),i16,i17)
             else
              bif (i9==5) then
               (idx r1.Aa.Af 0).bind fun y9 =>
               some ((⟨r1.Ac,(⟨r1.Aa.Ab,r1.Aa.Ai,(setS r1.Aa.Af 0 ({ y9 with Bj:=3 }))⟩:qc),r1.Ah⟩:qd),i10,i11)
              else
               some (r1,i10,i11)
theorem qh8 {n:Nat} {w0 w:World} {F:List Ch} {a_0:Tl01Source} {bb1:Nat} {p1:Option Addr} {k1:Nat} (h0:SH w0 w (Ch.box bb1 (qg a_0 p1 k1) 108::F)) (ha1:GoT.R w (Fr w0 F) a_0 [.slice p1 a_0.code.length k1,.int .i64 a_0.at_,.int .i64 a_0.seed]) {r:(qd × Int × Int)} (hF:qeO n a_0=some r):RetW Tryz.prog 67 [.pointer (some ⟨bb1,0,none⟩)] w (fun us w'=>∃ (S1:Nat→Prop) (cs1:List Value),us=[GoT.v qd cs1]∧SH w0 w' (Ch.grp (fun _=>False) S1 [fct (r.1:qd) cs1]::Ch.box bb1 [.slice p1 a_0.code.length k1,.int .i64 r.2.1,.int .i64 r.2.2] 108::F)):=by
 have h:=SH.frame [Ch.box bb1 (qg a_0 p1 k1) 108] h0
 replace h:=h.grpAdd 1 rfl ha1
 replace h:SH _ _ [Ch.box bb1 (qg a_0 p1 k1) 108,Ch.grp (old w0) (FS F) [fct (a_0:Tl01Source) [.slice p1 a_0.code.length k1,.int .i64 a_0.at_,.int .i64 a_0.seed],same w0 w F]]:=h
 refine qbn Tryz.func67 rfl (m:=90) rfl rfl (zSR (qy qa h rfl rfl rfl fun w1 bb2 h=>X0 5 rfl ?_))
 replace h:=h.pick [1,0,2] rfl
 obtain ⟨o1,hr1,hF⟩:=qe hF
 obtain ⟨i1,i2,i3⟩:=o1
 refine qB (cB 32 rfl) (qj (a_0:=(⟨a_0.code,a_0.at_,a_0.seed⟩:Tl01Source)) (a_1:=3) h ⟨[.slice p1 a_0.code.length k1],[.int .i64 a_0.at_,.int .i64 a_0.seed],rfl,⟨_,_,rfl,(qf (h.frG 2 0 1 rfl rfl rfl)).1⟩,⟨[.int .i64 a_0.at_],[.int .i64 a_0.seed],rfl,rfl,rfl⟩⟩ hr1) rfl rfl rfl rfl ?_
 rintro w2 us1 ⟨rfl,h⟩
 replace h:SH _ _ [Ch.box bb1 [.slice p1 a_0.code.length k1,.int .i64 i2,.int .i64 i3] 108,Ch.box bb2 [.slice none 0 0,.slice none 0 0,.slice none 0 0,.slice none 0 0,.slice none 0 0] 34,Ch.grp (old w0) (FS F) [fct (a_0:Tl01Source) [.slice p1 a_0.code.length k1,.int .i64 a_0.at_,.int .i64 a_0.seed],same w0 w F]]:=h
 refine zp1 rfl ?_
 obtain ⟨o2,hr2,hF⟩:=qe hF
 obtain ⟨r1,i4,i5⟩:=o2
 refine qB (cB 68 rfl) (qgO (s:=(⟨a_0.code,i2,i3⟩:Tl01Source)) (most:=6) (wild:=(i1==0)) h ⟨[.slice p1 a_0.code.length k1],[.int .i64 i2,.int .i64 i3],rfl,⟨_,_,rfl,(qf (h.frG 2 0 1 rfl rfl rfl)).1⟩,⟨[.int .i64 i2],[.int .i64 i3],rfl,rfl,rfl⟩⟩ hr2) rfl rfl rfl rfl ?_
 rintro w3 us2 ⟨S2,cs2,rfl,h⟩
 obtain ⟨p2,k2,p3,k3,p4,k4,p5,k5,p6,k6,rfl,-,-,-,-,-⟩:=qP (h.own 0 rfl)
 replace h:SH _ _ [Ch.own S2 (r1:qd) (qT r1 p2 p3 p4 p5 p6 k2 k3 k4 k5 k6),Ch.box bb1 [.slice p1 a_0.code.length k1,.int .i64 i4,.int .i64 i5] 108,Ch.box bb2 [.slice none 0 0,.slice none 0 0,.slice none 0 0,.slice none 0 0,.slice none 0 0] 34,Ch.grp (old w0) (FS F) [fct (a_0:Tl01Source) [.slice p1 a_0.code.length k1,.int .i64 a_0.at_,.int .i64 a_0.seed],same w0 w F]]:=h
 refine qy qa h rfl rfl rfl fun w4 bb3 h=>zs 0 h rfl fun w5 h=>X1 7 0 h rfl ?_
 replace h:=h.pick [2,0,1,3,4] rfl
 obtain ⟨o3,hr3,hF⟩:=qe hF
 obtain ⟨i6,i7,i8⟩:=o3
 refine qB (cB 32 rfl) (qj (a_0:=(⟨a_0.code,i4,i5⟩:Tl01Source)) (a_1:=(r1.Ah.length:Int)) h ⟨[.slice p1 a_0.code.length k1],[.int .i64 i4,.int .i64 i5],rfl,⟨_,_,rfl,(qf (h.frG 4 0 1 rfl rfl rfl)).1⟩,⟨[.int .i64 i4],[.int .i64 i5],rfl,rfl,rfl⟩⟩ hr3) rfl rfl rfl rfl ?_
 rintro w6 us3 ⟨rfl,h⟩
 replace h:SH _ _ [Ch.box bb1 [.slice p1 a_0.code.length k1,.int .i64 i7,.int .i64 i8] 108,Ch.box bb3 (qT r1 p2 p3 p4 p5 p6 k2 k3 k4 k5 k6) 34,Ch.own S2 (r1:qd) (qT r1 p2 p3 p4 p5 p6 k2 k3 k4 k5 k6),Ch.box bb2 [.slice none 0 0,.slice none 0 0,.slice none 0 0,.slice none 0 0,.slice none 0 0] 34,Ch.grp (old w0) (FS F) [fct (a_0:Tl01Source) [.slice p1 a_0.code.length k1,.int .i64 a_0.at_,.int .i64 a_0.seed],same w0 w F]]:=h
 refine X0 6 rfl ?_
 obtain ⟨o4,hr4,hF⟩:=qe hF
 obtain ⟨i9,i10,i11⟩:=o4
 refine qB (cB 32 rfl) (qj (a_0:=(⟨a_0.code,i7,i8⟩:Tl01Source)) (a_1:=20) h ⟨[.slice p1 a_0.code.length k1],[.int .i64 i7,.int .i64 i8],rfl,⟨_,_,rfl,(qf (h.frG 4 0 1 rfl rfl rfl)).1⟩,⟨[.int .i64 i7],[.int .i64 i8],rfl,rfl,rfl⟩⟩ hr4) rfl rfl rfl rfl ?_
 rintro w7 us4 ⟨rfl,h⟩
 replace h:SH _ _ [Ch.box bb1 [.slice p1 a_0.code.length k1,.int .i64 i10,.int .i64 i11] 108,Ch.box bb3 (qT r1 p2 p3 p4 p5 p6 k2 k3 k4 k5 k6) 34,Ch.own S2 (r1:qd) (qT r1 p2 p3 p4 p5 p6 k2 k3 k4 k5 k6),Ch.box bb2 [.slice none 0 0,.slice none 0 0,.slice none 0 0,.slice none 0 0,.slice none 0 0] 34,Ch.grp (old w0) (FS F) [fct (a_0:Tl01Source) [.slice p1 a_0.code.length k1,.int .i64 a_0.at_,.int .i64 a_0.seed],same w0 w F]]:=h
 refine X0 7 rfl (qr rfl hF ?_ ?_)<;>intro hF
 ·refine X1 3 1 h rfl ?_
  obtain ⟨x1,hx1,hF⟩:=qe hF
  obtain ⟨p7,k7,hp1,hk1,hl1,g1⟩:=ql2 (qdq (h.own 2 rfl)).2.2.2.2.1 hx1
  refine r_v (qjM qa rfl rfl rfl (qlY g1 (qdq (h.own 2 rfl)).2.2.2.2.2) hp1 hk1 hl1 rfl rfl rfl rfl) rfl (zp1 rfl (zs 1 h rfl fun w8 h=>X1 5 1 h rfl (zs 3 h rfl fun w9 h=>qbs ?_)))
  have hk2:=h
  replace h:=h.frzI 2 rfl
  replace h:=h.grpAdd 2 rfl (x:=((⟨(⟨r1.Ac.Ak⟩:qi),(⟨r1.Aa.Ab,r1.Aa.Ai,r1.Aa.Af⟩:qc),x1⟩:qd):qd)) (⟨[.slice p2 r1.Ac.Ak.length k2],[.slice p3 r1.Aa.Ab.length k3,.slice p4 r1.Aa.Ai.length k4,.slice p5 r1.Aa.Af.length k5,.slice p7 x1.length k7],rfl,⟨_,_,rfl,(qdq (h.grpS 2 0 rfl rfl)).1.1⟩,⟨[.slice p3 r1.Aa.Ab.length k3,.slice p4 r1.Aa.Ai.length k4,.slice p5 r1.Aa.Af.length k5],[.slice p7 x1.length k7],rfl,⟨[.slice p3 r1.Aa.Ab.length k3],[.slice p4 r1.Aa.Ai.length k4,.slice p5 r1.Aa.Af.length k5],rfl,⟨_,_,rfl,(qdq (h.grpS 2 0 rfl rfl)).2.1.1⟩,⟨[.slice p4 r1.Aa.Ai.length k4],[.slice p5 r1.Aa.Af.length k5],rfl,⟨_,_,rfl,(qdq (h.grpS 2 0 rfl rfl)).2.2.1.1⟩,⟨_,_,rfl,(qdq (h.grpS 2 0 rfl rfl)).2.2.2.1.1⟩⟩⟩,⟨_,_,rfl,(qlW (qdq (h.grpS 2 0 rfl rfl)).2.2.2.2.1 hx1 hp1 hk1)⟩⟩⟩)
  replace h:=h.grpKeep [0] 2 rfl
  obtain rfl:=qb hF
  replace h:=h.pick [2,0,4] rfl
  replace h:SH _ _ [Ch.grp (fun _=>False) S2 [fct ((⟨(⟨r1.Ac.Ak⟩:qi),(⟨r1.Aa.Ab,r1.Aa.Ai,r1.Aa.Af⟩:qc),x1⟩:qd):qd) [.slice p2 r1.Ac.Ak.length k2,.slice p3 r1.Aa.Ab.length k3,.slice p4 r1.Aa.Ai.length k4,.slice p5 r1.Aa.Af.length k5,.slice p7 x1.length k7]],Ch.box bb1 [.slice p1 a_0.code.length k1,.int .i64 i10,.int .i64 i11] 108,Ch.grp (old w0) (FS F) [fct (a_0:Tl01Source) [.slice p1 a_0.code.length k1,.int .i64 a_0.at_,.int .i64 a_0.seed],same w0 w F]]:=h
  exact qce qa [GoT.v qd [.slice p2 r1.Ac.Ak.length k2,.slice p3 r1.Aa.Ab.length k3,.slice p4 r1.Aa.Ai.length k4,.slice p5 r1.Aa.Af.length k5,.slice p7 x1.length k7]] ⟨⟨_,_,_,rfl,rfl,hk2.box 3 rfl,rfl⟩,trivial⟩ ⟨_,_,rfl,SH.unframe 1 (L0:=[Ch.box bb1 (qg a_0 p1 k1) 108]) h0 [Ch.grp (fun _=>False) S2 [fct ((⟨(⟨r1.Ac.Ak⟩:qi),(⟨r1.Aa.Ab,r1.Aa.Ai,r1.Aa.Af⟩:qc),x1⟩:qd):qd) [.slice p2 r1.Ac.Ak.length k2,.slice p3 r1.Aa.Ab.length k3,.slice p4 r1.Aa.Ai.length k4,.slice p5 r1.Aa.Af.length k5,.slice p7 x1.length k7]],Ch.box bb1 [.slice p1 a_0.code.length k1,.int .i64 i10,.int .i64 i11] 108] h rfl⟩
 refine X0 5 rfl (qr rfl hF ?_ ?_)<;>intro hF
 ·replace h:=h.pick [2,0,1,3,4] rfl
  obtain ⟨S3,S4,S5,h⟩:=qeL h
  obtain ⟨y1,hy1,hF⟩:=qe hF
  have he1:=qcw hy1
  obtain ⟨S6,S7,cs3,h⟩:=h.take hy1
  obtain ⟨p8,k8,p9,k9,p10,k10,p11,k11,rfl,-,-,-,-⟩:=qbt (h.own 0 rfl)
  obtain ⟨S8,S9,S10,S11,h⟩:=qfP h
  refine rA [14] [4,8] h rfl fun w10 h=>M2 63 [0,1,2,3,4,5] 1 1 (h.pick [4,8] rfl) rfl ?_
  obtain ⟨b1,hp2,-,-,hl3⟩:=h.holeAt 4 rfl
  obtain ⟨q1,hq1⟩:∃ q,q=0+(i6).toNat*GoT.k qK:=⟨_,rfl⟩
  refine Ax 6 127 hp2 hq1 ⟨he1.1,qY he1.2.1 hl3⟩ (h.pick [4,8] rfl) rfl (M0 255 [7] (h.pick [4,8] rfl) rfl (Aw 8 511 (fun w' hw=>qfq qa (qeU hw 0 rfl hp2 hq1) (j:=3) rfl rfl rfl) (h.pick [4,8] rfl) rfl ?_))
  obtain ⟨r2,hr5,hF⟩:=qe hF
  obtain ⟨x2,hx2,hF⟩:=qe hF
  refine qjD (fun e w'=>∃ (S22:Nat→Prop) (p22:Option Addr) (k19:Nat),e=[(2,.pointer (some ⟨bb2,0,none⟩)),(3,.pointer (some ⟨bb3,0,none⟩))]∧SH w0 w' [Ch.own S22 (x2:List Int) [.slice p22 x2.length k19],Ch.own S10 (y1.Bb:List Int) [.slice p10 y1.Bb.length k10],Ch.own S9 (y1.Bc:List Int) [.slice p9 y1.Bc.length k9],Ch.own S8 (y1.Aj:List Int) [.slice p8 y1.Aj.length k8],Ch.hole S7 (r1.Ah:List qK) p6 r1.Ah.length k6 (i6).toNat [.slice p8 y1.Aj.length k8,.slice p9 y1.Bc.length k9,.slice p10 y1.Bb.length k10,.slice p22 x2.length k19],Ch.own S4 (r1.Aa:qc) (qaa r1.Aa p3 p4 p5 k3 k4 k5),Ch.own S3 (r1.Ac:qi) [.slice p2 r1.Ac.Ak.length k2],Ch.box bb1 [.slice p1 a_0.code.length k1,.int .i64 i10,.int .i64 i11] 108,Ch.box bb3 (qT r1 p2 p3 p4 p5 p6 k2 k3 k4 k5 k6) 34,Ch.box bb2 [.slice none 0 0,.slice none 0 0,.slice none 0 0,.slice none 0 0,.slice none 0 0] 34,Ch.grp (old w0) (FS F) [fct (a_0:Tl01Source) [.slice p1 a_0.code.length k1,.int .i64 a_0.at_,.int .i64 a_0.seed],same w0 w F]]) 0 (bits 15 32767) ?_ ?_
  ·intro K
   refine At 9 10 1023 1535 rfl ?_ ?_
   ·refine qiy r2 h (cB 114 rfl) (qd2 (h.own 0 rfl) hr5) rfl rfl rfl rfl fun w20 S19 p19 k17 h=>Ag (h.pick [5,9] rfl) (Ao 10 2047 rfl (qp qa [.const (.int .i64 (0))] _ ([0]:List Int) h rfl rfl rfl rfl rfl rfl rfl rfl rfl ⟨rfl,trivial⟩ rfl fun w21 p20 S20 h=>Ag (h.pick [6,10] rfl) (Ao 11 4095 rfl ?_)))
    obtain ⟨g4,hx2⟩:=qx hx2
    refine qaq qa 1 h rfl (h.sl 0 rfl).1 (h.sl 0 rfl).2 rfl rfl rfl rfl rfl rfl rfl rfl rfl g4 hx2 rfl fun w22 p21 k18 S21 h=>Ag (h.pick [6,10] rfl) (Ao 12 8191 rfl ?_)
    obtain ⟨b4,hp5,-,-,hl9⟩:=h.holeAt 6 rfl
    obtain ⟨q4,hq4⟩:∃ q,q=0+(i6).toNat*GoT.k qK:=⟨_,rfl⟩
    refine zx hp5 hq4 ⟨he1.1,qY he1.2.1 hl9⟩ rfl (G0 16383 [13] (h.pick [6,10] rfl) rfl (Ao 14 32767 rfl (qjV qa 6 3 h rfl hp5 hq4 rfl rfl rfl rfl rfl rfl fun w23 h=>qen (fun hs=>absurd (hs 14 (by decide)) (by decide)) ?_)))
    replace h:=h.pick [1,3,4,5,6,7,8,9,10,11,12] rfl
    exact qjl [(2,_),(3,_)] ⟨rfl,rfl,trivial⟩ (K _ _ ⟨_,_,_,rfl,h⟩)
   refine qp qa [.const (.int .i64 (0))] _ ([0]:List Int) h rfl rfl rfl rfl rfl rfl rfl rfl rfl ⟨rfl,trivial⟩ rfl fun w20 p19 S19 h=>Ag (h.pick [5,9] rfl) (Ao 9 2047 rfl (qiy r2 h (cB 114 rfl) (qd2 (h.own 1 rfl) hr5) rfl rfl rfl rfl fun w21 S20 p20 k17 h=>Ag (h.pick [6,10] rfl) (Ao 11 4095 rfl ?_)))
   obtain ⟨g4,hx2⟩:=qx hx2
   refine qaq qa 0 h rfl (h.sl 1 rfl).1 (h.sl 1 rfl).2 rfl rfl rfl rfl rfl rfl rfl rfl rfl g4 hx2 rfl fun w22 p21 k18 S21 h=>Ag (h.pick [6,10] rfl) (Ao 12 8191 rfl ?_)
   obtain ⟨b4,hp5,-,-,hl9⟩:=h.holeAt 6 rfl
   obtain ⟨q4,hq4⟩:∃ q,q=0+(i6).toNat*GoT.k qK:=⟨_,rfl⟩
   refine zx hp5 hq4 ⟨he1.1,qY he1.2.1 hl9⟩ rfl (G0 16383 [13] (h.pick [6,10] rfl) rfl (Ao 14 32767 rfl (qjV qa 6 3 h rfl hp5 hq4 rfl rfl rfl rfl rfl rfl fun w23 h=>?_)))
   replace h:SH _ _ [Ch.own S21 (x2:List Int) [.slice p21 x2.length k18],Ch.own S19 (([0]:List Int):List Int) [.slice p19 1 1],Ch.own S11 (y1.As:List Int) [.slice p11 y1.As.length k11],Ch.own S10 (y1.Bb:List Int) [.slice p10 y1.Bb.length k10],Ch.own S9 (y1.Bc:List Int) [.slice p9 y1.Bc.length k9],Ch.own S8 (y1.Aj:List Int) [.slice p8 y1.Aj.length k8],Ch.hole S7 (r1.Ah:List qK) p6 r1.Ah.length k6 (i6).toNat [.slice p8 y1.Aj.length k8,.slice p9 y1.Bc.length k9,.slice p10 y1.Bb.length k10,.slice p21 x2.length k18],Ch.own S4 (r1.Aa:qc) (qaa r1.Aa p3 p4 p5 k3 k4 k5),Ch.own S3 (r1.Ac:qi) [.slice p2 r1.Ac.Ak.length k2],Ch.box bb1 [.slice p1 a_0.code.length k1,.int .i64 i10,.int .i64 i11] 108,Ch.box bb3 (qT r1 p2 p3 p4 p5 p6 k2 k3 k4 k5 k6) 34,Ch.box bb2 [.slice none 0 0,.slice none 0 0,.slice none 0 0,.slice none 0 0,.slice none 0 0] 34,Ch.grp (old w0) (FS F) [fct (a_0:Tl01Source) [.slice p1 a_0.code.length k1,.int .i64 a_0.at_,.int .i64 a_0.seed],same w0 w F]]:=h
   refine qen (fun hs=>absurd (hs 14 (by decide)) (by decide)) ?_
   replace h:=h.pick [0,3,4,5,6,7,8,9,10,11,12] rfl
   exact qjl [(2,_),(3,_)] ⟨rfl,rfl,trivial⟩ (K _ _ ⟨_,_,_,rfl,h⟩)
  rintro e2 w24 ⟨S22,p22,k19,rfl,h⟩
  refine Ad (X1 4 8 h rfl (zs 9 h rfl fun w25 h=>qbs ?_))
  have hk3:=h
  obtain ⟨S23,h⟩:=h.gather [4,5,6,7,8,9,10] (qgP (⟨y1.Aj,y1.Bc,y1.Bb,x2⟩:qK) h (qJ 3 h rfl) (qJ 2 h rfl) (qJ 1 h rfl) (qJ 0 h rfl) (by rfl) (by rfl) (by rfl)) rfl
  replace h:=h.put
  obtain ⟨S24,h⟩:=qjh (S:=_) h
  replace h:=h.frzI 2 rfl
  replace h:=h.frzI 1 rfl
  replace h:=h.frzI 0 rfl
  replace h:=h.pick [2,1,0,3,4,5,6] rfl
  replace h:=SH.merge h
  replace h:=SH.merge h
  replace h:=h.grpAdd 0 rfl (x:=((⟨r1.Ac,r1.Aa,(setS r1.Ah i6 (⟨y1.Aj,y1.Bc,y1.Bb,x2⟩:qK))⟩:qd):qd)) (⟨[.slice p2 r1.Ac.Ak.length k2],[.slice p3 r1.Aa.Ab.length k3,.slice p4 r1.Aa.Ai.length k4,.slice p5 r1.Aa.Af.length k5,.slice p6 r1.Ah.length k6],rfl,⟨_,_,rfl,(qfl (h.grpS 0 0 rfl rfl)).1⟩,⟨[.slice p3 r1.Aa.Ab.length k3,.slice p4 r1.Aa.Ai.length k4,.slice p5 r1.Aa.Af.length k5],[.slice p6 r1.Ah.length k6],rfl,⟨[.slice p3 r1.Aa.Ab.length k3],[.slice p4 r1.Aa.Ai.length k4,.slice p5 r1.Aa.Af.length k5],rfl,⟨_,_,rfl,(qbN (h.grpS 0 1 rfl rfl)).1.1⟩,⟨[.slice p4 r1.Aa.Ai.length k4],[.slice p5 r1.Aa.Af.length k5],rfl,⟨_,_,rfl,(qbN (h.grpS 0 1 rfl rfl)).2.1.1⟩,⟨_,_,rfl,(qbN (h.grpS 0 1 rfl rfl)).2.2.1⟩⟩⟩,(h.grpS 0 2 rfl rfl)⟩⟩)
  replace h:=h.grpKeep [0] 0 rfl
  obtain rfl:=qb hF
  replace h:=h.pick [0,1,4] rfl
  replace h:SH _ _ [Ch.grp (fun _=>False) (fun b=>(fun b=>S3 b∨S4 b) b∨S24 b) [fct ((⟨r1.Ac,r1.Aa,(setS r1.Ah i6 (⟨y1.Aj,y1.Bc,y1.Bb,x2⟩:qK))⟩:qd):qd) [.slice p2 r1.Ac.Ak.length k2,.slice p3 r1.Aa.Ab.length k3,.slice p4 r1.Aa.Ai.length k4,.slice p5 r1.Aa.Af.length k5,.slice p6 r1.Ah.length k6]],Ch.box bb1 [.slice p1 a_0.code.length k1,.int .i64 i10,.int .i64 i11] 108,Ch.grp (old w0) (FS F) [fct (a_0:Tl01Source) [.slice p1 a_0.code.length k1,.int .i64 a_0.at_,.int .i64 a_0.seed],same w0 w F]]:=h
  exact qce qa [GoT.v qd (qT r1 p2 p3 p4 p5 p6 k2 k3 k4 k5 k6)] ⟨⟨_,_,_,rfl,rfl,hk3.box 9 rfl,rfl⟩,trivial⟩ ⟨_,_,rfl,SH.unframe 1 (L0:=[Ch.box bb1 (qg a_0 p1 k1) 108]) h0 [Ch.grp (fun _=>False) (fun b=>(fun b=>S3 b∨S4 b) b∨S24 b) [fct ((⟨r1.Ac,r1.Aa,(setS r1.Ah i6 (⟨y1.Aj,y1.Bc,y1.Bb,x2⟩:qK))⟩:qd):qd) [.slice p2 r1.Ac.Ak.length k2,.slice p3 r1.Aa.Ab.length k3,.slice p4 r1.Aa.Ai.length k4,.slice p5 r1.Aa.Af.length k5,.slice p6 r1.Ah.length k6]],Ch.box bb1 [.slice p1 a_0.code.length k1,.int .i64 i10,.int .i64 i11] 108] h rfl⟩
 refine X0 5 rfl (qr rfl hF ?_ ?_)<;>intro hF
 ·refine X1 4 1 h rfl ?_
  replace h:=h.pick [2,0,1,3,4] rfl
  obtain ⟨S25,S26,S27,h⟩:=qeL h
  obtain ⟨y2,hy2,hF⟩:=qe hF
  have he2:=qcw hy2
  obtain ⟨S28,S29,cs4,h⟩:=h.take hy2
  obtain ⟨p23,k20,p24,k21,p25,k22,p26,k23,rfl,-,-,-,-⟩:=qbt (h.own 0 rfl)
  obtain ⟨S30,S31,S32,S33,h⟩:=qfP h
  obtain ⟨b5,hp6,-,-,hl11⟩:=h.holeAt 4 rfl
  obtain ⟨q5,hq5⟩:∃ q,q=0+(i6).toNat*GoT.k qK:=⟨_,rfl⟩
  refine zx hp6 hq5 ⟨he2.1,qY he2.2.1 hl11⟩ rfl (zp1 rfl (zc 1 (qeU h 4 rfl hp6 hq5) rfl ?_))
  obtain ⟨y3,hy3,hF,he3,b6,_,q6,cs5,hp7,hq6,rfl,hc5⟩:=(h.sl 2 rfl).1.ix hF
  refine zx hp7 hq6 ⟨he3.1,qY he3.2.1 (h.sl 2 rfl).2⟩ rfl (qde qa 2 0 1 h rfl hy3 hp7 hq6 rfl hc5 rfl rfl rfl rfl rfl rfl rfl fun w26 h=>X1 5 8 h rfl (zs 9 h rfl fun w27 h=>qbs ?_))
  have hk4:=h
  obtain ⟨S34,h⟩:=h.gather [4,5,6,7,8,9,10] (qgP (⟨y2.Aj,(setS y2.Bc 0 1),y2.Bb,y2.As⟩:qK) h (qJ 3 h rfl) (qJ 2 h rfl) (qJ 1 h rfl) (qJ 0 h rfl) (by rfl) (by rfl) (by rfl)) rfl
  replace h:=h.put
  obtain ⟨S35,h⟩:=qjh (S:=_) h
  replace h:=h.frzI 2 rfl
  replace h:=h.frzI 1 rfl
  replace h:=h.frzI 0 rfl
  replace h:=h.pick [2,1,0,3,4,5,6] rfl
  replace h:=SH.merge h
  replace h:=SH.merge h
  replace h:=h.grpAdd 0 rfl (x:=((⟨r1.Ac,r1.Aa,(setS r1.Ah i6 (⟨y2.Aj,(setS y2.Bc 0 1),y2.Bb,y2.As⟩:qK))⟩:qd):qd)) (⟨[.slice p2 r1.Ac.Ak.length k2],[.slice p3 r1.Aa.Ab.length k3,.slice p4 r1.Aa.Ai.length k4,.slice p5 r1.Aa.Af.length k5,.slice p6 r1.Ah.length k6],rfl,⟨_,_,rfl,(qfl (h.grpS 0 0 rfl rfl)).1⟩,⟨[.slice p3 r1.Aa.Ab.length k3,.slice p4 r1.Aa.Ai.length k4,.slice p5 r1.Aa.Af.length k5],[.slice p6 r1.Ah.length k6],rfl,⟨[.slice p3 r1.Aa.Ab.length k3],[.slice p4 r1.Aa.Ai.length k4,.slice p5 r1.Aa.Af.length k5],rfl,⟨_,_,rfl,(qbN (h.grpS 0 1 rfl rfl)).1.1⟩,⟨[.slice p4 r1.Aa.Ai.length k4],[.slice p5 r1.Aa.Af.length k5],rfl,⟨_,_,rfl,(qbN (h.grpS 0 1 rfl rfl)).2.1.1⟩,⟨_,_,rfl,(qbN (h.grpS 0 1 rfl rfl)).2.2.1⟩⟩⟩,(h.grpS 0 2 rfl rfl)⟩⟩)
  replace h:=h.grpKeep [0] 0 rfl
  obtain rfl:=qb hF
  replace h:=h.pick [0,1,4] rfl
  replace h:SH _ _ [Ch.grp (fun _=>False) (fun b=>(fun b=>S25 b∨S26 b) b∨S35 b) [fct ((⟨r1.Ac,r1.Aa,(setS r1.Ah i6 (⟨y2.Aj,(setS y2.Bc 0 1),y2.Bb,y2.As⟩:qK))⟩:qd):qd) [.slice p2 r1.Ac.Ak.length k2,.slice p3 r1.Aa.Ab.length k3,.slice p4 r1.Aa.Ai.length k4,.slice p5 r1.Aa.Af.length k5,.slice p6 r1.Ah.length k6]],Ch.box bb1 [.slice p1 a_0.code.length k1,.int .i64 i10,.int .i64 i11] 108,Ch.grp (old w0) (FS F) [fct (a_0:Tl01Source) [.slice p1 a_0.code.length k1,.int .i64 a_0.at_,.int .i64 a_0.seed],same w0 w F]]:=h
  exact qce qa [GoT.v qd (qT r1 p2 p3 p4 p5 p6 k2 k3 k4 k5 k6)] ⟨⟨_,_,_,rfl,rfl,hk4.box 9 rfl,rfl⟩,trivial⟩ ⟨_,_,rfl,SH.unframe 1 (L0:=[Ch.box bb1 (qg a_0 p1 k1) 108]) h0 [Ch.grp (fun _=>False) (fun b=>(fun b=>S25 b∨S26 b) b∨S35 b) [fct ((⟨r1.Ac,r1.Aa,(setS r1.Ah i6 (⟨y2.Aj,(setS y2.Bc 0 1),y2.Bb,y2.As⟩:qK))⟩:qd):qd) [.slice p2 r1.Ac.Ak.length k2,.slice p3 r1.Aa.Ab.length k3,.slice p4 r1.Aa.Ai.length k4,.slice p5 r1.Aa.Af.length k5,.slice p6 r1.Ah.length k6]],Ch.box bb1 [.slice p1 a_0.code.length k1,.int .i64 i10,.int .i64 i11] 108] h rfl⟩
 refine X0 5 rfl (qr rfl hF ?_ ?_)<;>intro hF
 ·replace h:=h.pick [2,0,1,3,4] rfl
  obtain ⟨S36,S37,S38,h⟩:=qeL h
  obtain ⟨y4,hy4,hF⟩:=qe hF
  have he4:=qcw hy4
  obtain ⟨S39,S40,cs6,h⟩:=h.take hy4
  obtain ⟨p27,k24,p28,k25,p29,k26,p30,k27,rfl,-,-,-,-⟩:=qbt (h.own 0 rfl)
  obtain ⟨S41,S42,S43,S44,h⟩:=qfP h
  refine rA [] [4,8] h rfl fun w28 h=>M1 7 [0,1,2] 1 (h.pick [4,8] rfl) rfl ?_
  obtain ⟨b7,hp8,-,-,hl13⟩:=h.holeAt 4 rfl
  obtain ⟨q7,hq7⟩:∃ q,q=0+(i6).toNat*GoT.k qK:=⟨_,rfl⟩
  refine Ax 3 15 hp8 hq7 ⟨he4.1,qY he4.2.1 hl13⟩ (h.pick [4,8] rfl) rfl (M0 31 [4] (h.pick [4,8] rfl) rfl (Aw 5 63 (fun w' hw=>qfq qa (qeU hw 0 rfl hp8 hq7) (j:=2) rfl rfl rfl) (h.pick [4,8] rfl) rfl ?_))
  refine M0 191 [7] (h.pick [4,8] rfl) rfl ?_
  obtain ⟨o5,hr9,hF⟩:=qe hF
  obtain ⟨i12,i13,i14⟩:=o5
  obtain ⟨y5,hy5,hF⟩:=qe hF
  obtain ⟨y6,hy6,hF⟩:=qe hF
  refine qjD (fun e w'=>e=[(2,.pointer (some ⟨bb2,0,none⟩)),(3,.pointer (some ⟨bb3,0,none⟩))]∧SH w0 w' [Ch.box bb1 [.slice p1 a_0.code.length k1,.int .i64 i13,.int .i64 i14] 108,Ch.own S44 (y4.As:List Int) [.slice p30 y4.As.length k27],Ch.own S43 ((setS y4.Bb 0 y5):List Int) [.slice p29 y4.Bb.length k26],Ch.own S42 (y4.Bc:List Int) [.slice p28 y4.Bc.length k25],Ch.own S41 (y4.Aj:List Int) [.slice p27 y4.Aj.length k24],Ch.hole S40 (r1.Ah:List qK) p6 r1.Ah.length k6 (i6).toNat [.slice p27 y4.Aj.length k24,.slice p28 y4.Bc.length k25,.slice p29 y4.Bb.length k26,.slice p30 y4.As.length k27],Ch.own S37 (r1.Aa:qc) (qaa r1.Aa p3 p4 p5 k3 k4 k5),Ch.own S36 (r1.Ac:qi) [.slice p2 r1.Ac.Ak.length k2],Ch.box bb3 (qT r1 p2 p3 p4 p5 p6 k2 k3 k4 k5 k6) 34,Ch.box bb2 [.slice none 0 0,.slice none 0 0,.slice none 0 0,.slice none 0 0,.slice none 0 0] 34,Ch.grp (old w0) (FS F) [fct (a_0:Tl01Source) [.slice p1 a_0.code.length k1,.int .i64 a_0.at_,.int .i64 a_0.seed],same w0 w F]]) 0 (bits 13 8191) ?_ ?_
  ·intro K
   refine At 6 8 255 447 rfl ?_ ?_
   ·refine qp qa [.const (.int .i64 (-1)),.const (.int .i64 (500)),.const (.int .i64 (501))] _ ([(-1),500,501]:List Int) h rfl rfl rfl rfl rfl rfl rfl rfl rfl ⟨rfl,rfl,rfl,trivial⟩ rfl fun w36 p33 S47 h=>Ag (h.pick [5,9] rfl) (Ao 8 511 rfl ?_)
    replace h:=h.pick [8,0,1,2,3,4,5,6,7,9,10,11] rfl
    refine qB (cB 32 rfl) (qj (a_0:=(⟨a_0.code,i10,i11⟩:Tl01Source)) (a_1:=3) h ⟨[.slice p1 a_0.code.length k1],[.int .i64 i10,.int .i64 i11],rfl,⟨_,_,rfl,(qf (h.frG 11 0 1 rfl rfl rfl)).1⟩,⟨[.int .i64 i10],[.int .i64 i11],rfl,rfl,rfl⟩⟩ hr9) rfl rfl rfl rfl ?_
    rintro w37 us7 ⟨rfl,h⟩
    replace h:SH _ _ [Ch.box bb1 [.slice p1 a_0.code.length k1,.int .i64 i13,.int .i64 i14] 108,Ch.own S47 (([(-1),500,501]:List Int):List Int) [.slice p33 3 3],Ch.own S44 (y4.As:List Int) [.slice p30 y4.As.length k27],Ch.own S43 (y4.Bb:List Int) [.slice p29 y4.Bb.length k26],Ch.own S42 (y4.Bc:List Int) [.slice p28 y4.Bc.length k25],Ch.own S41 (y4.Aj:List Int) [.slice p27 y4.Aj.length k24],Ch.hole S40 (r1.Ah:List qK) p6 r1.Ah.length k6 (i6).toNat [.slice p27 y4.Aj.length k24,.slice p28 y4.Bc.length k25,.slice p29 y4.Bb.length k26,.slice p30 y4.As.length k27],Ch.own S37 (r1.Aa:qc) (qaa r1.Aa p3 p4 p5 k3 k4 k5),Ch.own S36 (r1.Ac:qi) [.slice p2 r1.Ac.Ak.length k2],Ch.box bb3 (qT r1 p2 p3 p4 p5 p6 k2 k3 k4 k5 k6) 34,Ch.box bb2 [.slice none 0 0,.slice none 0 0,.slice none 0 0,.slice none 0 0,.slice none 0 0] 34,Ch.grp (old w0) (FS F) [fct (a_0:Tl01Source) [.slice p1 a_0.code.length k1,.int .i64 a_0.at_,.int .i64 a_0.seed],same w0 w F]]:=h
    refine Ag (h.pick [6,9] rfl) ?_
    have he9:=qcw hy5
    obtain ⟨b12,o_7,q12,cs11,hp13,hq12,-,hr14,hc11⟩:=(h.sl 1 rfl).1.at hy5
    obtain rfl:=hr14
    refine Ax 9 1023 hp13 hq12 ⟨he9.1,qY he9.2.1 (h.sl 1 rfl).2⟩ (h.pick [6,9] rfl) rfl (Ao 10 2047 rfl (r_v (qfq qa (qcj (w1:=w) (S1:=fun _=>False) h 1 rfl hy5 hp13 hq12 rfl) (j:=0) rfl rfl rfl) rfl (Ag (h.pick [6,9] rfl) ?_)))
    have he10:=qcw hy6
    obtain ⟨b13,o_8,q13,cs12,hp14,hq13,-,hr15,hc12⟩:=(h.sl 3 rfl).1.at hy6
    obtain rfl:=hr15
    refine Ax 11 4095 hp14 hq13 ⟨he10.1,qY he10.2.1 (h.sl 3 rfl).2⟩ (h.pick [6,9] rfl) rfl (Ao 12 8191 rfl (qde qa 3 0 y5 h rfl hy6 hp14 hq13 rfl hc12 rfl rfl rfl rfl rfl rfl rfl fun w38 h=>Ag (h.pick [6,9] rfl) ?_))
    replace h:=h.pick [0,2,3,4,5,6,7,8,9,10,11] rfl
    exact qjl [(2,_),(3,_)] ⟨rfl,rfl,trivial⟩ (K _ _ ⟨rfl,h⟩)
   replace h:=h.pick [7,0,1,2,3,4,5,6,8,9,10] rfl
   refine qB (cB 32 rfl) (qj (a_0:=(⟨a_0.code,i10,i11⟩:Tl01Source)) (a_1:=3) h ⟨[.slice p1 a_0.code.length k1],[.int .i64 i10,.int .i64 i11],rfl,⟨_,_,rfl,(qf (h.frG 10 0 1 rfl rfl rfl)).1⟩,⟨[.int .i64 i10],[.int .i64 i11],rfl,rfl,rfl⟩⟩ hr9) rfl rfl rfl rfl ?_
   rintro w36 us7 ⟨rfl,h⟩
   replace h:SH _ _ [Ch.box bb1 [.slice p1 a_0.code.length k1,.int .i64 i13,.int .i64 i14] 108,Ch.own S44 (y4.As:List Int) [.slice p30 y4.As.length k27],Ch.own S43 (y4.Bb:List Int) [.slice p29 y4.Bb.length k26],Ch.own S42 (y4.Bc:List Int) [.slice p28 y4.Bc.length k25],Ch.own S41 (y4.Aj:List Int) [.slice p27 y4.Aj.length k24],Ch.hole S40 (r1.Ah:List qK) p6 r1.Ah.length k6 (i6).toNat [.slice p27 y4.Aj.length k24,.slice p28 y4.Bc.length k25,.slice p29 y4.Bb.length k26,.slice p30 y4.As.length k27],Ch.own S37 (r1.Aa:qc) (qaa r1.Aa p3 p4 p5 k3 k4 k5),Ch.own S36 (r1.Ac:qi) [.slice p2 r1.Ac.Ak.length k2],Ch.box bb3 (qT r1 p2 p3 p4 p5 p6 k2 k3 k4 k5 k6) 34,Ch.box bb2 [.slice none 0 0,.slice none 0 0,.slice none 0 0,.slice none 0 0,.slice none 0 0] 34,Ch.grp (old w0) (FS F) [fct (a_0:Tl01Source) [.slice p1 a_0.code.length k1,.int .i64 a_0.at_,.int .i64 a_0.seed],same w0 w F]]:=h
   refine Ag (h.pick [5,8] rfl) (Ao 6 511 rfl (qp qa [.const (.int .i64 (-1)),.const (.int .i64 (500)),.const (.int .i64 (501))] _ ([(-1),500,501]:List Int) h rfl rfl rfl rfl rfl rfl rfl rfl rfl ⟨rfl,rfl,rfl,trivial⟩ rfl fun w37 p33 S47 h=>Ag (h.pick [6,9] rfl) ?_))
   have he9:=qcw hy5
   obtain ⟨b12,o_7,q12,cs11,hp13,hq12,-,hr14,hc11⟩:=(h.sl 0 rfl).1.at hy5
   obtain rfl:=hr14
   refine Ax 9 1023 hp13 hq12 ⟨he9.1,qY he9.2.1 (h.sl 0 rfl).2⟩ (h.pick [6,9] rfl) rfl (Ao 10 2047 rfl (r_v (qfq qa (qcj (w1:=w) (S1:=fun _=>False) h 0 rfl hy5 hp13 hq12 rfl) (j:=0) rfl rfl rfl) rfl (Ag (h.pick [6,9] rfl) ?_)))
   have he10:=qcw hy6
   obtain ⟨b13,o_8,q13,cs12,hp14,hq13,-,hr15,hc12⟩:=(h.sl 3 rfl).1.at hy6
   obtain rfl:=hr15
   refine Ax 11 4095 hp14 hq13 ⟨he10.1,qY he10.2.1 (h.sl 3 rfl).2⟩ (h.pick [6,9] rfl) rfl (Ao 12 8191 rfl (qde qa 3 0 y5 h rfl hy6 hp14 hq13 rfl hc12 rfl rfl rfl rfl rfl rfl rfl fun w38 h=>Ag (h.pick [6,9] rfl) ?_))
   replace h:=h.pick [1,2,3,4,5,6,7,8,9,10,11] rfl
   exact qjl [(2,_),(3,_)] ⟨rfl,rfl,trivial⟩ (K _ _ ⟨rfl,h⟩)
  rintro e4 w39 ⟨rfl,h⟩
  refine Ad (X1 4 8 h rfl (zs 9 h rfl fun w40 h=>qbs ?_))
  have hk5:=h
  obtain ⟨S48,h⟩:=h.gather [0,5,6,7,8,9,10] (qgP (⟨y4.Aj,y4.Bc,(setS y4.Bb 0 y5),y4.As⟩:qK) h (qJ 4 h rfl) (qJ 3 h rfl) (qJ 2 h rfl) (qJ 1 h rfl) (by rfl) (by rfl) (by rfl)) rfl
  replace h:=h.pick [0,2,1,3,4,5,6,7] rfl
  replace h:=h.put
  obtain ⟨S49,h⟩:=qjh (S:=_) h
  replace h:=h.frzI 3 rfl
  replace h:=h.frzI 2 rfl
  replace h:=h.frzI 0 rfl
  replace h:=h.pick [3,2,0,1,4,5,6] rfl
  replace h:=SH.merge h
  replace h:=SH.merge h
  replace h:=h.grpAdd 0 rfl (x:=((⟨r1.Ac,r1.Aa,(setS r1.Ah i6 (⟨y4.Aj,y4.Bc,(setS y4.Bb 0 y5),y4.As⟩:qK))⟩:qd):qd)) (⟨[.slice p2 r1.Ac.Ak.length k2],[.slice p3 r1.Aa.Ab.length k3,.slice p4 r1.Aa.Ai.length k4,.slice p5 r1.Aa.Af.length k5,.slice p6 r1.Ah.length k6],rfl,⟨_,_,rfl,(qfl (h.grpS 0 0 rfl rfl)).1⟩,⟨[.slice p3 r1.Aa.Ab.length k3,.slice p4 r1.Aa.Ai.length k4,.slice p5 r1.Aa.Af.length k5],[.slice p6 r1.Ah.length k6],rfl,⟨[.slice p3 r1.Aa.Ab.length k3],[.slice p4 r1.Aa.Ai.length k4,.slice p5 r1.Aa.Af.length k5],rfl,⟨_,_,rfl,(qbN (h.grpS 0 1 rfl rfl)).1.1⟩,⟨[.slice p4 r1.Aa.Ai.length k4],[.slice p5 r1.Aa.Af.length k5],rfl,⟨_,_,rfl,(qbN (h.grpS 0 1 rfl rfl)).2.1.1⟩,⟨_,_,rfl,(qbN (h.grpS 0 1 rfl rfl)).2.2.1⟩⟩⟩,(h.grpS 0 2 rfl rfl)⟩⟩)
  replace h:=h.grpKeep [0] 0 rfl
  obtain rfl:=qb hF
  replace h:=h.pick [0,1,4] rfl
  replace h:SH _ _ [Ch.grp (fun _=>False) (fun b=>(fun b=>S36 b∨S37 b) b∨S49 b) [fct ((⟨r1.Ac,r1.Aa,(setS r1.Ah i6 (⟨y4.Aj,y4.Bc,(setS y4.Bb 0 y5),y4.As⟩:qK))⟩:qd):qd) [.slice p2 r1.Ac.Ak.length k2,.slice p3 r1.Aa.Ab.length k3,.slice p4 r1.Aa.Ai.length k4,.slice p5 r1.Aa.Af.length k5,.slice p6 r1.Ah.length k6]],Ch.box bb1 [.slice p1 a_0.code.length k1,.int .i64 i13,.int .i64 i14] 108,Ch.grp (old w0) (FS F) [fct (a_0:Tl01Source) [.slice p1 a_0.code.length k1,.int .i64 a_0.at_,.int .i64 a_0.seed],same w0 w F]]:=h
  exact qce qa [GoT.v qd (qT r1 p2 p3 p4 p5 p6 k2 k3 k4 k5 k6)] ⟨⟨_,_,_,rfl,rfl,hk5.box 9 rfl,rfl⟩,trivial⟩ ⟨_,_,rfl,SH.unframe 1 (L0:=[Ch.box bb1 (qg a_0 p1 k1) 108]) h0 [Ch.grp (fun _=>False) (fun b=>(fun b=>S36 b∨S37 b) b∨S49 b) [fct ((⟨r1.Ac,r1.Aa,(setS r1.Ah i6 (⟨y4.Aj,y4.Bc,(setS y4.Bb 0 y5),y4.As⟩:qK))⟩:qd):qd) [.slice p2 r1.Ac.Ak.length k2,.slice p3 r1.Aa.Ab.length k3,.slice p4 r1.Aa.Ai.length k4,.slice p5 r1.Aa.Af.length k5,.slice p6 r1.Ah.length k6]],Ch.box bb1 [.slice p1 a_0.code.length k1,.int .i64 i13,.int .i64 i14] 108] h rfl⟩
 refine X0 5 rfl (qr rfl hF ?_ ?_)<;>intro hF
 ·replace h:=h.pick [2,0,1,3,4] rfl
  obtain ⟨S50,S51,S52,h⟩:=qeL h
  obtain ⟨y7,hy7,hF⟩:=qe hF
  have he11:=qcw hy7
  obtain ⟨S53,S54,cs13,h⟩:=h.take hy7
  obtain ⟨p34,k28,p35,k29,p36,k30,p37,k31,rfl,-,-,-,-⟩:=qbt (h.own 0 rfl)
  obtain ⟨S55,S56,S57,S58,h⟩:=qfP h
  refine rA [] [4,8] h rfl fun w41 h=>M1 7 [0,1,2] 1 (h.pick [4,8] rfl) rfl ?_
  obtain ⟨b14,hp15,-,-,hl15⟩:=h.holeAt 4 rfl
  obtain ⟨q14,hq14⟩:∃ q,q=0+(i6).toNat*GoT.k qK:=⟨_,rfl⟩
  refine Ax 3 15 hp15 hq14 ⟨he11.1,qY he11.2.1 hl15⟩ (h.pick [4,8] rfl) rfl (M0 31 [4] (h.pick [4,8] rfl) rfl (Aw 5 63 (fun w' hw=>qfq qa (qeU hw 0 rfl hp15 hq14) (j:=0) rfl rfl rfl) (h.pick [4,8] rfl) rfl ?_))
  refine M1 511 [6,7,8] 1 (h.pick [4,8] rfl) rfl ?_
  obtain ⟨b15,hp16,-,-,hl17⟩:=h.holeAt 4 rfl
  obtain ⟨q15,hq15⟩:∃ q,q=0+(i6).toNat*GoT.k qK:=⟨_,rfl⟩
  refine Ax 9 1023 hp16 hq15 ⟨he11.1,qY he11.2.1 hl17⟩ (h.pick [4,8] rfl) rfl (M0 2047 [10] (h.pick [4,8] rfl) rfl (Aw 11 4095 (fun w' hw=>qfq qa (qeU hw 0 rfl hp16 hq15) (j:=0) rfl rfl rfl) (h.pick [4,8] rfl) rfl ?_))
  refine M0 32767 [12,13,14] (h.pick [4,8] rfl) rfl (Ao 15 65535 rfl ?_)
  replace h:=h.pick [7,0,1,2,3,4,5,6,8,9,10] rfl
  obtain ⟨o6,hr16,hF⟩:=qe hF
  obtain ⟨i15,i16,i17⟩:=o6
  refine qB (cB 32 rfl) (qj (a_0:=(⟨a_0.code,i10,i11⟩:Tl01Source)) (a_1:=5) h ⟨[.slice p1 a_0.code.length k1],[.int .i64 i10,.int .i64 i11],rfl,⟨_,_,rfl,(qf (h.frG 10 0 1 rfl rfl rfl)).1⟩,⟨[.int .i64 i10],[.int .i64 i11],rfl,rfl,rfl⟩⟩ hr16) rfl rfl rfl rfl ?_
  rintro w42 us8 ⟨rfl,h⟩
  replace h:SH _ _ [Ch.box bb1 [.slice p1 a_0.code.length k1,.int .i64 i16,.int .i64 i17] 108,Ch.own S58 (y7.As:List Int) [.slice p37 y7.As.length k31],Ch.own S57 (y7.Bb:List Int) [.slice p36 y7.Bb.length k30],Ch.own S56 (y7.Bc:List Int) [.slice p35 y7.Bc.length k29],Ch.own S55 (y7.Aj:List Int) [.slice p34 y7.Aj.length k28],Ch.hole S54 (r1.Ah:List qK) p6 r1.Ah.length k6 (i6).toNat [.slice p34 y7.Aj.length k28,.slice p35 y7.Bc.length k29,.slice p36 y7.Bb.length k30,.slice p37 y7.As.length k31],Ch.own S51 (r1.Aa:qc) (qaa r1.Aa p3 p4 p5 k3 k4 k5),Ch.own S50 (r1.Ac:qi) [.slice p2 r1.Ac.Ak.length k2],Ch.box bb3 (qT r1 p2 p3 p4 p5 p6 k2 k3 k4 k5 k6) 34,Ch.box bb2 [.slice none 0 0,.slice none 0 0,.slice none 0 0,.slice none 0 0,.slice none 0 0] 34,Ch.grp (old w0) (FS F) [fct (a_0:Tl01Source) [.slice p1 a_0.code.length k1,.int .i64 a_0.at_,.int .i64 a_0.seed],same w0 w F]]:=h
  refine G0 131071 [16] (h.pick [5,8] rfl) rfl ?_
  obtain ⟨y8,hy8,hF,he12,b16,_,q16,cs14,hp17,hq16,rfl,hc14⟩:=(h.sl 4 rfl).1.ix hF
  refine Ax 17 262143 hp17 hq16 ⟨he12.1,qY he12.2.1 (h.sl 4 rfl).2⟩ (h.pick [5,8] rfl) rfl (Ao 18 524287 rfl (qde qa 4 0 (W64 (i15-1)) h rfl hy8 hp17 hq16 rfl hc14 rfl rfl rfl rfl rfl rfl rfl fun w43 h=>Ag (h.pick [5,8] rfl) (Ad (X1 4 8 h rfl (zs 9 h rfl fun w44 h=>qbs ?_)))))
  have hk6:=h
  obtain ⟨S59,h⟩:=h.gather [0,5,6,7,8,9,10] (qgP (⟨(setS y7.Aj (W64 ((y7.Aj.length:Int)-1)) (W64 (i15-1))),y7.Bc,y7.Bb,y7.As⟩:qK) h (qJ 4 h rfl) (qJ 3 h rfl) (qJ 2 h rfl) (qJ 1 h rfl) (by rfl) (by rfl) (by rfl)) rfl
  replace h:=h.pick [0,2,1,3,4,5,6,7] rfl
  replace h:=h.put
  obtain ⟨S60,h⟩:=qjh (S:=_) h
  replace h:=h.frzI 3 rfl
  replace h:=h.frzI 2 rfl
  replace h:=h.frzI 0 rfl
  replace h:=h.pick [3,2,0,1,4,5,6] rfl
  replace h:=SH.merge h
  replace h:=SH.merge h
  replace h:=h.grpAdd 0 rfl (x:=((⟨r1.Ac,r1.Aa,(setS r1.Ah i6 (⟨(setS y7.Aj (W64 ((y7.Aj.length:Int)-1)) (W64 (i15-1))),y7.Bc,y7.Bb,y7.As⟩:qK))⟩:qd):qd)) (⟨[.slice p2 r1.Ac.Ak.length k2],[.slice p3 r1.Aa.Ab.length k3,.slice p4 r1.Aa.Ai.length k4,.slice p5 r1.Aa.Af.length k5,.slice p6 r1.Ah.length k6],rfl,⟨_,_,rfl,(qfl (h.grpS 0 0 rfl rfl)).1⟩,⟨[.slice p3 r1.Aa.Ab.length k3,.slice p4 r1.Aa.Ai.length k4,.slice p5 r1.Aa.Af.length k5],[.slice p6 r1.Ah.length k6],rfl,⟨[.slice p3 r1.Aa.Ab.length k3],[.slice p4 r1.Aa.Ai.length k4,.slice p5 r1.Aa.Af.length k5],rfl,⟨_,_,rfl,(qbN (h.grpS 0 1 rfl rfl)).1.1⟩,⟨[.slice p4 r1.Aa.Ai.length k4],[.slice p5 r1.Aa.Af.length k5],rfl,⟨_,_,rfl,(qbN (h.grpS 0 1 rfl rfl)).2.1.1⟩,⟨_,_,rfl,(qbN (h.grpS 0 1 rfl rfl)).2.2.1⟩⟩⟩,(h.grpS 0 2 rfl rfl)⟩⟩)
  replace h:=h.grpKeep [0] 0 rfl
  obtain rfl:=qb hF
  replace h:=h.pick [0,1,4] rfl
  replace h:SH _ _ [Ch.grp (fun _=>False) (fun b=>(fun b=>S50 b∨S51 b) b∨S60 b) [fct ((⟨r1.Ac,r1.Aa,(setS r1.Ah i6 (⟨(setS y7.Aj (W64 ((y7.Aj.length:Int)-1)) (W64 (i15-1))),y7.Bc,y7.Bb,y7.As⟩:qK))⟩:qd):qd) [.slice p2 r1.Ac.Ak.length k2,.slice p3 r1.Aa.Ab.length k3,.slice p4 r1.Aa.Ai.length k4,.slice p5 r1.Aa.Af.length k5,.slice p6 r1.Ah.length k6]],Ch.box bb1 [.slice p1 a_0.code.length k1,.int .i64 i16,.int .i64 i17] 108,Ch.grp (old w0) (FS F) [fct (a_0:Tl01Source) [.slice p1 a_0.code.length k1,.int .i64 a_0.at_,.int .i64 a_0.seed],same w0 w F]]:=h
  exact qce qa [GoT.v qd (qT r1 p2 p3 p4 p5 p6 k2 k3 k4 k5 k6)] ⟨⟨_,_,_,rfl,rfl,hk6.box 9 rfl,rfl⟩,trivial⟩ ⟨_,_,rfl,SH.unframe 1 (L0:=[Ch.box bb1 (qg a_0 p1 k1) 108]) h0 [Ch.grp (fun _=>False) (fun b=>(fun b=>S50 b∨S51 b) b∨S60 b) [fct ((⟨r1.Ac,r1.Aa,(setS r1.Ah i6 (⟨(setS y7.Aj (W64 ((y7.Aj.length:Int)-1)) (W64 (i15-1))),y7.Bc,y7.Bb,y7.As⟩:qK))⟩:qd):qd) [.slice p2 r1.Ac.Ak.length k2,.slice p3 r1.Aa.Ab.length k3,.slice p4 r1.Aa.Ai.length k4,.slice p5 r1.Aa.Af.length k5,.slice p6 r1.Ah.length k6]],Ch.box bb1 [.slice p1 a_0.code.length k1,.int .i64 i16,.int .i64 i17] 108] h rfl⟩
 refine X0 5 rfl (qr rfl hF ?_ ?_)<;>intro hF
 ·refine X1 4 1 h rfl ?_
  replace h:=h.pick [2,0,1,3,4] rfl
  obtain ⟨S61,S62,S63,h⟩:=qeL h
  replace h:=h.pick [1,0,2,3,4,5,6] rfl
  obtain ⟨S64,S65,S66,h⟩:=qkk h
  obtain ⟨y9,hy9,hF,he13,b17,_,q17,cs15,hp18,hq17,hr18,hc16⟩:=(h.sl 0 rfl).1.ix hF
  obtain rfl:=qcV hr18
  refine zx hp18 hq17 ⟨he13.1,qY he13.2.1 (h.sl 0 rfl).2⟩ rfl (zp1 rfl (qde qa 0 1 ({ y9 with Bj:=3 }:qv) h rfl hy9 hp18 hq17 (qfv y9) hc16 rfl rfl rfl (qfv ({ y9 with Bj:=3 })) rfl rfl rfl fun w45 h=>X1 5 6 h rfl (zs 7 h rfl fun w46 h=>qbs ?_)))
  have hk7:=h
  replace h:=h.frzI 4 rfl
  replace h:=h.frzI 2 rfl
  replace h:=h.frzI 1 rfl
  replace h:=h.frzI 0 rfl
  replace h:=h.frzI 3 rfl
  replace h:=h.pick [4,2,0,1,3,5,6,7,8] rfl
  replace h:=SH.merge h
  replace h:=h.pick [0,2,1,3,4,5,6,7] rfl
  replace h:=SH.merge h
  replace h:=SH.merge h
  replace h:=SH.merge h
  replace h:=h.grpAdd 0 rfl (x:=((⟨r1.Ac,(⟨r1.Aa.Ab,r1.Aa.Ai,(setS r1.Aa.Af 0 ({ y9 with Bj:=3 }))⟩:qc),r1.Ah⟩:qd):qd)) (⟨[.slice p2 r1.Ac.Ak.length k2],[.slice p3 r1.Aa.Ab.length k3,.slice p4 r1.Aa.Ai.length k4,.slice p5 r1.Aa.Af.length k5,.slice p6 r1.Ah.length k6],rfl,⟨_,_,rfl,(qfl (h.grpS 0 0 rfl rfl)).1⟩,⟨[.slice p3 r1.Aa.Ab.length k3,.slice p4 r1.Aa.Ai.length k4,.slice p5 r1.Aa.Af.length k5],[.slice p6 r1.Ah.length k6],rfl,⟨[.slice p3 r1.Aa.Ab.length k3],[.slice p4 r1.Aa.Ai.length k4,.slice p5 r1.Aa.Af.length k5],rfl,(h.grpS 0 1 rfl rfl),⟨[.slice p4 r1.Aa.Ai.length k4],[.slice p5 r1.Aa.Af.length k5],rfl,(h.grpS 0 2 rfl rfl),(h.grpS 0 3 rfl rfl)⟩⟩,(h.grpS 0 4 rfl rfl)⟩⟩)
  replace h:=h.grpKeep [0] 0 rfl
  obtain rfl:=qb hF
  replace h:=h.pick [0,1,4] rfl
  replace h:SH _ _ [Ch.grp (fun _=>False) (fun b=>(fun b=>(fun b=>(fun b=>S61 b∨S64 b) b∨S65 b) b∨S66 b) b∨S63 b) [fct ((⟨r1.Ac,(⟨r1.Aa.Ab,r1.Aa.Ai,(setS r1.Aa.Af 0 ({ y9 with Bj:=3 }))⟩:qc),r1.Ah⟩:qd):qd) [.slice p2 r1.Ac.Ak.length k2,.slice p3 r1.Aa.Ab.length k3,.slice p4 r1.Aa.Ai.length k4,.slice p5 r1.Aa.Af.length k5,.slice p6 r1.Ah.length k6]],Ch.box bb1 [.slice p1 a_0.code.length k1,.int .i64 i10,.int .i64 i11] 108,Ch.grp (old w0) (FS F) [fct (a_0:Tl01Source) [.slice p1 a_0.code.length k1,.int .i64 a_0.at_,.int .i64 a_0.seed],same w0 w F]]:=h
  exact qce qa [GoT.v qd (qT r1 p2 p3 p4 p5 p6 k2 k3 k4 k5 k6)] ⟨⟨_,_,_,rfl,rfl,hk7.box 7 rfl,rfl⟩,trivial⟩ ⟨_,_,rfl,SH.unframe 1 (L0:=[Ch.box bb1 (qg a_0 p1 k1) 108]) h0 [Ch.grp (fun _=>False) (fun b=>(fun b=>(fun b=>(fun b=>S61 b∨S64 b) b∨S65 b) b∨S66 b) b∨S63 b) [fct ((⟨r1.Ac,(⟨r1.Aa.Ab,r1.Aa.Ai,(setS r1.Aa.Af 0 ({ y9 with Bj:=3 }))⟩:qc),r1.Ah⟩:qd):qd) [.slice p2 r1.Ac.Ak.length k2,.slice p3 r1.Aa.Ab.length k3,.slice p4 r1.Aa.Ai.length k4,.slice p5 r1.Aa.Af.length k5,.slice p6 r1.Ah.length k6]],Ch.box bb1 [.slice p1 a_0.code.length k1,.int .i64 i10,.int .i64 i11] 108] h rfl⟩
 refine X1 5 1 h rfl (zs 3 h rfl fun w47 h=>qbs ?_)
 have hk8:=h
 replace h:=h.frzI 2 rfl
 replace h:=h.grpAdd 2 rfl (x:=(r1:qd)) (h.grpS 2 0 rfl rfl)
 replace h:=h.grpKeep [0] 2 rfl
 obtain rfl:=qb hF
 replace h:=h.pick [2,0,4] rfl
 replace h:SH _ _ [Ch.grp (fun _=>False) S2 [fct (r1:qd) [.slice p2 r1.Ac.Ak.length k2,.slice p3 r1.Aa.Ab.length k3,.slice p4 r1.Aa.Ai.length k4,.slice p5 r1.Aa.Af.length k5,.slice p6 r1.Ah.length k6]],Ch.box bb1 [.slice p1 a_0.code.length k1,.int .i64 i10,.int .i64 i11] 108,Ch.grp (old w0) (FS F) [fct (a_0:Tl01Source) [.slice p1 a_0.code.length k1,.int .i64 a_0.at_,.int .i64 a_0.seed],same w0 w F]]:=h
 exact qce qa [GoT.v qd (qT r1 p2 p3 p4 p5 p6 k2 k3 k4 k5 k6)] ⟨⟨_,_,_,rfl,rfl,hk8.box 3 rfl,rfl⟩,trivial⟩ ⟨_,_,rfl,SH.unframe 1 (L0:=[Ch.box bb1 (qg a_0 p1 k1) 108]) h0 [Ch.grp (fun _=>False) S2 [fct (r1:qd) [.slice p2 r1.Ac.Ak.length k2,.slice p3 r1.Aa.Ab.length k3,.slice p4 r1.Aa.Ai.length k4,.slice p5 r1.Aa.Af.length k5,.slice p6 r1.Ah.length k6]],Ch.box bb1 [.slice p1 a_0.code.length k1,.int .i64 i10,.int .i64 i11] 108] h rfl⟩
def qgc (n:Nat) (s:Tl01Source):Option (qd × Int × Int) :=
 (qu n (⟨s.code,s.at_,s.seed⟩:Tl01Source) 16).bind fun o=>match o with
  | (i1,i2,i3) =>
   bif (i1==0) then
    (qeO n (⟨s.code,i2,i3⟩:Tl01Source)).bind fun o=>match o with
     | (r1,i4,i5) =>
      some (r1,i4,i5)
   else
    (qu n (⟨s.code,i2,i3⟩:Tl01Source) 7).bind fun o=>match o with
     | (i6,i7,i8) =>
      (qu n (⟨s.code,i7,i8⟩:Tl01Source) 8).bind fun o=>match o with
       | (i9,i10,i11) =>
        (qfe n (⟨s.code,i10,i11⟩:Tl01Source) (W64 (2+i6)) (i9==0)).bind fun o=>match o with
         | (r2,i12,i13) =>
          some (r2,i12,i13)
theorem qiT {n:Nat} {w0 w:World} {F:List Ch} {s:Tl01Source} {bb1:Nat} {p1:Option Addr} {k1:Nat} (h0:SH w0 w (Ch.box bb1 (qg s p1 k1) 108::F)) (ha1:GoT.R w (Fr w0 F) s [.slice p1 s.code.length k1,.int .i64 s.at_,.int .i64 s.seed]) {r:(qd × Int × Int)} (hF:qgc n s=some r):RetW Tryz.prog 31 [.pointer (some ⟨bb1,0,none⟩)] w (fun us w'=>∃ (S1:Nat→Prop) (cs1:List Value),us=[GoT.v qd cs1]∧SH w0 w' (Ch.grp (fun _=>False) S1 [fct (r.1:qd) cs1]::Ch.box bb1 [.slice p1 s.code.length k1,.int .i64 r.2.1,.int .i64 r.2.2] 108::F)):=by
 have h:=SH.frame [Ch.box bb1 (qg s p1 k1) 108] h0
 replace h:=h.grpAdd 1 rfl ha1
 replace h:SH _ _ [Ch.box bb1 (qg s p1 k1) 108,Ch.grp (old w0) (FS F) [fct (s:Tl01Source) [.slice p1 s.code.length k1,.int .i64 s.at_,.int .i64 s.seed],same w0 w F]]:=h
 refine qbn Tryz.func31 rfl (m:=16) rfl rfl (zSR (qy qa h rfl rfl rfl fun w1 bb2 h=>X0 5 rfl ?_))
 replace h:=h.pick [1,0,2] rfl
 obtain ⟨o1,hr1,hF⟩:=qe hF
 obtain ⟨i1,i2,i3⟩:=o1
 refine qB (cB 32 rfl) (qj (a_0:=(⟨s.code,s.at_,s.seed⟩:Tl01Source)) (a_1:=16) h ⟨[.slice p1 s.code.length k1],[.int .i64 s.at_,.int .i64 s.seed],rfl,⟨_,_,rfl,(qf (h.frG 2 0 1 rfl rfl rfl)).1⟩,⟨[.int .i64 s.at_],[.int .i64 s.seed],rfl,rfl,rfl⟩⟩ hr1) rfl rfl rfl rfl ?_
 rintro w2 us1 ⟨rfl,h⟩
 replace h:SH _ _ [Ch.box bb1 [.slice p1 s.code.length k1,.int .i64 i2,.int .i64 i3] 108,Ch.box bb2 [.slice none 0 0,.slice none 0 0,.slice none 0 0,.slice none 0 0,.slice none 0 0] 34,Ch.grp (old w0) (FS F) [fct (s:Tl01Source) [.slice p1 s.code.length k1,.int .i64 s.at_,.int .i64 s.seed],same w0 w F]]:=h
 refine X0 2 rfl (qr rfl hF ?_ ?_)<;>intro hF
 ·refine X0 3 rfl ?_
  obtain ⟨o2,hr2,hF⟩:=qe hF
  obtain ⟨r1,i4,i5⟩:=o2
  refine qB (cB 67 rfl) (qh8 (a_0:=(⟨s.code,i2,i3⟩:Tl01Source)) h ⟨[.slice p1 s.code.length k1],[.int .i64 i2,.int .i64 i3],rfl,⟨_,_,rfl,(qf (h.frG 2 0 1 rfl rfl rfl)).1⟩,⟨[.int .i64 i2],[.int .i64 i3],rfl,rfl,rfl⟩⟩ hr2) rfl rfl rfl rfl ?_
  rintro w3 us2 ⟨S2,cs2,rfl,h⟩
  have hr3:=h.grpS 0 0 rfl rfl
  obtain ⟨p2,k2,p3,k3,p4,k4,p5,k5,p6,k6,rfl,s1,s2,s3,s4,s5⟩:=qP hr3
  replace h:SH _ _ [Ch.grp (fun _=>False) S2 [fct (r1:qd) [.slice p2 r1.Ac.Ak.length k2,.slice p3 r1.Aa.Ab.length k3,.slice p4 r1.Aa.Ai.length k4,.slice p5 r1.Aa.Af.length k5,.slice p6 r1.Ah.length k6]],Ch.box bb1 [.slice p1 s.code.length k1,.int .i64 i4,.int .i64 i5] 108,Ch.box bb2 [.slice none 0 0,.slice none 0 0,.slice none 0 0,.slice none 0 0,.slice none 0 0] 34,Ch.grp (old w0) (FS F) [fct (s:Tl01Source) [.slice p1 s.code.length k1,.int .i64 s.at_,.int .i64 s.seed],same w0 w F]]:=h
  refine zs 2 h rfl fun w4 h=>qbs ?_
  have hk1:=h
  replace h:=h.grpAdd 0 rfl (x:=(r1:qd)) (h.grpS 0 0 rfl rfl)
  replace h:=h.grpKeep [0] 0 rfl
  obtain rfl:=qb hF
  replace h:=h.pick [0,1,3] rfl
  replace h:SH _ _ [Ch.grp (fun _=>False) S2 [fct (r1:qd) [.slice p2 r1.Ac.Ak.length k2,.slice p3 r1.Aa.Ab.length k3,.slice p4 r1.Aa.Ai.length k4,.slice p5 r1.Aa.Af.length k5,.slice p6 r1.Ah.length k6]],Ch.box bb1 [.slice p1 s.code.length k1,.int .i64 i4,.int .i64 i5] 108,Ch.grp (old w0) (FS F) [fct (s:Tl01Source) [.slice p1 s.code.length k1,.int .i64 s.at_,.int .i64 s.seed],same w0 w F]]:=h
  exact qce qa [GoT.v qd (qT r1 p2 p3 p4 p5 p6 k2 k3 k4 k5 k6)] ⟨⟨_,_,_,rfl,rfl,hk1.box 2 rfl,rfl⟩,trivial⟩ ⟨_,_,rfl,SH.unframe 1 (L0:=[Ch.box bb1 (qg s p1 k1) 108]) h0 [Ch.grp (fun _=>False) S2 [fct (r1:qd) [.slice p2 r1.Ac.Ak.length k2,.slice p3 r1.Aa.Ab.length k3,.slice p4 r1.Aa.Ai.length k4,.slice p5 r1.Aa.Af.length k5,.slice p6 r1.Ah.length k6]],Ch.box bb1 [.slice p1 s.code.length k1,.int .i64 i4,.int .i64 i5] 108] h rfl⟩
 refine X0 5 rfl ?_
 obtain ⟨o3,hr5,hF⟩:=qe hF
 obtain ⟨i6,i7,i8⟩:=o3
 refine qB (cB 32 rfl) (qj (a_0:=(⟨s.code,i2,i3⟩:Tl01Source)) (a_1:=7) h ⟨[.slice p1 s.code.length k1],[.int .i64 i2,.int .i64 i3],rfl,⟨_,_,rfl,(qf (h.frG 2 0 1 rfl rfl rfl)).1⟩,⟨[.int .i64 i2],[.int .i64 i3],rfl,rfl,rfl⟩⟩ hr5) rfl rfl rfl rfl ?_
 rintro w5 us3 ⟨rfl,h⟩
 replace h:SH _ _ [Ch.box bb1 [.slice p1 s.code.length k1,.int .i64 i7,.int .i64 i8] 108,Ch.box bb2 [.slice none 0 0,.slice none 0 0,.slice none 0 0,.slice none 0 0,.slice none 0 0] 34,Ch.grp (old w0) (FS F) [fct (s:Tl01Source) [.slice p1 s.code.length k1,.int .i64 s.at_,.int .i64 s.seed],same w0 w F]]:=h
 refine zp2 rfl ?_
 obtain ⟨o4,hr6,hF⟩:=qe hF
 obtain ⟨i9,i10,i11⟩:=o4
 refine qB (cB 32 rfl) (qj (a_0:=(⟨s.code,i7,i8⟩:Tl01Source)) (a_1:=8) h ⟨[.slice p1 s.code.length k1],[.int .i64 i7,.int .i64 i8],rfl,⟨_,_,rfl,(qf (h.frG 2 0 1 rfl rfl rfl)).1⟩,⟨[.int .i64 i7],[.int .i64 i8],rfl,rfl,rfl⟩⟩ hr6) rfl rfl rfl rfl ?_
 rintro w6 us4 ⟨rfl,h⟩
 replace h:SH _ _ [Ch.box bb1 [.slice p1 s.code.length k1,.int .i64 i10,.int .i64 i11] 108,Ch.box bb2 [.slice none 0 0,.slice none 0 0,.slice none 0 0,.slice none 0 0,.slice none 0 0] 34,Ch.grp (old w0) (FS F) [fct (s:Tl01Source) [.slice p1 s.code.length k1,.int .i64 s.at_,.int .i64 s.seed],same w0 w F]]:=h
 refine zp1 rfl ?_
 obtain ⟨o5,hr7,hF⟩:=qe hF
 obtain ⟨r2,i12,i13⟩:=o5
 refine qB (cB 68 rfl) (qgO (s:=(⟨s.code,i10,i11⟩:Tl01Source)) (most:=(W64 (2+i6))) (wild:=(i9==0)) h ⟨[.slice p1 s.code.length k1],[.int .i64 i10,.int .i64 i11],rfl,⟨_,_,rfl,(qf (h.frG 2 0 1 rfl rfl rfl)).1⟩,⟨[.int .i64 i10],[.int .i64 i11],rfl,rfl,rfl⟩⟩ hr7) rfl rfl rfl rfl ?_
 rintro w7 us5 ⟨S3,cs3,rfl,h⟩
 obtain ⟨p7,k7,p8,k8,p9,k9,p10,k10,p11,k11,rfl,-,-,-,-,-⟩:=qP (h.own 0 rfl)
 replace h:SH _ _ [Ch.own S3 (r2:qd) (qT r2 p7 p8 p9 p10 p11 k7 k8 k9 k10 k11),Ch.box bb1 [.slice p1 s.code.length k1,.int .i64 i12,.int .i64 i13] 108,Ch.box bb2 [.slice none 0 0,.slice none 0 0,.slice none 0 0,.slice none 0 0,.slice none 0 0] 34,Ch.grp (old w0) (FS F) [fct (s:Tl01Source) [.slice p1 s.code.length k1,.int .i64 s.at_,.int .i64 s.seed],same w0 w F]]:=h
 refine zs 2 h rfl fun w8 h=>qbs ?_
 have hk2:=h
 replace h:=h.frzI 0 rfl
 replace h:=h.grpAdd 0 rfl (x:=(r2:qd)) (h.grpS 0 0 rfl rfl)
 replace h:=h.grpKeep [0] 0 rfl
 obtain rfl:=qb hF
 replace h:=h.pick [0,1,3] rfl
 replace h:SH _ _ [Ch.grp (fun _=>False) S3 [fct (r2:qd) [.slice p7 r2.Ac.Ak.length k7,.slice p8 r2.Aa.Ab.length k8,.slice p9 r2.Aa.Ai.length k9,.slice p10 r2.Aa.Af.length k10,.slice p11 r2.Ah.length k11]],Ch.box bb1 [.slice p1 s.code.length k1,.int .i64 i12,.int .i64 i13] 108,Ch.grp (old w0) (FS F) [fct (s:Tl01Source) [.slice p1 s.code.length k1,.int .i64 s.at_,.int .i64 s.seed],same w0 w F]]:=h
 exact qce qa [GoT.v qd (qT r2 p7 p8 p9 p10 p11 k7 k8 k9 k10 k11)] ⟨⟨_,_,_,rfl,rfl,hk2.box 2 rfl,rfl⟩,trivial⟩ ⟨_,_,rfl,SH.unframe 1 (L0:=[Ch.box bb1 (qg s p1 k1) 108]) h0 [Ch.grp (fun _=>False) S3 [fct (r2:qd) [.slice p7 r2.Ac.Ak.length k7,.slice p8 r2.Aa.Ab.length k8,.slice p9 r2.Aa.Ai.length k9,.slice p10 r2.Aa.Af.length k10,.slice p11 r2.Ah.length k11]],Ch.box bb1 [.slice p1 s.code.length k1,.int .i64 i12,.int .i64 i13] 108] h rfl⟩
def qda (code:(List (IntK .u8))):Nat→Int→Int→Option (Int × Int)
 | 0,_,_=>none
 | n+1,i1,i2 =>
  (
   bif decide (i2<(code.length:Int)) then some (decide (i2<64)) else
   some false).bind fun b1 =>
  bif b1 then
   (idx code i2).bind fun y1 =>
   qda code n ((W64 ((W64 (i1*31))+(W64 y1.val))).tmod 2147483647) (W64 (i2+1))
  else
   some (i1,i2)
def qhf (n:Nat) (code:(List (IntK .u8))):Option (Option Tl01Source) :=
 (qda code n 12345 0).bind fun o=>match o with
 | (i1,_) =>
  some (some (⟨code,0,i1⟩:Tl01Source))
theorem qjb {n:Nat} {w:World} {code:(List (IntK .u8))} {cs1:List Value} (ha1:GoT.R w (old w) code cs1) {r:(Option Tl01Source)} (hF:qhf n code=some r):RetZ Tryz.prog 30 [GoT.v (List (IntK .u8)) cs1] w (fun us L=>∃ (ubb1:Nat) (ui2:Int),r=(some (⟨code,0,ui2⟩:Tl01Source))∧us=[GoT.v (Option Tl01Source) [.pointer (some ⟨ubb1,0,none⟩)]]∧L=[Ch.box ubb1 (cs1++[.int .i64 0,.int .i64 ui2]) 108]):=by
 obtain ⟨p1,k1,rfl,s1⟩:=ha1
 refine qlC Tryz.func30 rfl (m:=34) rfl rfl (fun h=>?_)
 refine X0 7 rfl (r_v (qay qa [0,2] [.tmp 5,.const (.int .i64 (12345))] rfl rfl rfl rfl rfl rfl rfl rfl) rfl (qV h rfl rfl fun w1 bb1 h=>X0 7 rfl ?_))
 obtain ⟨o1,hF,hK1⟩:=qe hF
 refine qq (rL (fun m e w'=>∃ (i1:Int) (i2:Int),qda code m i1 i2=some o1∧e=[(0,.slice p1 code.length k1),(3,.pointer (some ⟨bb1,0,none⟩)),(4,.int .i64 i2)]∧SH w w' [Ch.box bb1 [.slice p1 code.length k1,.int .i64 0,.int .i64 i1] 108]) n ⟨_,_,hF,rfl,h⟩ rfl ?_)
 rintro m1 e1 w2 ⟨i1,i2,hF,rfl,h⟩
 rcases m1 with _|m1
 ·cases hF
 refine zSS ?_
 obtain ⟨KF1,hKF1,o2,hF,hK2⟩:=bindE hF
 refine qb5 (fun e w'=>∃ (b1:Bool),KF1 b1=some o1∧e=[(0,.slice p1 code.length k1),(3,.pointer (some ⟨bb1,0,none⟩)),(4,.int .i64 i2),(15,.bool b1)]∧SH w w' [Ch.box bb1 [.slice p1 code.length k1,.int .i64 0,.int .i64 i1] 108]) ?_ ?_
 ·refine X0 6 rfl (qh (t:=12) hF rfl ?_ ?_)<;>intro hF
  ·refine X0 6 rfl ?_
   obtain rfl:=qb hF
   exact rG ⟨_,hK2,rfl,h⟩ rfl
  refine X0 4 rfl ?_
  obtain rfl:=qb hF
  exact rG ⟨_,hK2,rfl,h⟩ rfl
 rintro e2 w5 ⟨b1,hF,rfl,h⟩
 subst hKF1
 refine qr rfl hF ?_ ?_<;>intro hF
 ·refine zKSB (rA [15] [0] h rfl fun w3 h=>M1 255 [0,1,2,3,4,5,6,7] 0 (h.pick [0] rfl) rfl ?_)
  obtain ⟨y1,hy1,hF,he1,b2,_,q1,cs2,hp1,hq1,rfl,hc2⟩:=s1.ix hF
  exact Ae 8 511 hp1 hq1 he1 (h.pick [0] rfl) rfl (Al 9 1023 0 hc2 (h.pick [0] rfl) rfl (M0 8191 [10,11,12] (h.pick [0] rfl) rfl (Ao 13 16383 rfl (zp1 rfl (G0 32767 [14] (h.pick [0] rfl) rfl (Ao 15 65535 rfl (zs 0 h rfl fun w4 h=>qen (fun hs=>absurd (hs 15 (by decide)) (by decide)) (Ad (X0 6 rfl (rK ⟨_,_,hF,rfl,h⟩ rfl))))))))))
 refine qw rfl ?_
 obtain rfl:=qb hF;replace hF:=hK1
 refine X0 5 rfl ?_
 obtain rfl:=qb hF
 exact qoh qa [GoT.v (Option Tl01Source) [.pointer (some ⟨bb1,0,none⟩)]] h ⟨rfl,trivial⟩ ⟨bb1,i1,rfl,rfl,rfl⟩
def qW (n:Nat) (code:(List (IntK .u8))):Option (qd × Int) :=
 (qhf n code).bind fun o=>match o with
  | some (⟨_,_,i1⟩) =>
   ((qgc n (⟨code,0,i1⟩:Tl01Source)).bind fun o=>match o with
    | (r2,i2,i3) =>
     (qbD n (⟨r2.Aa.Ab,r2.Aa.Ai,r2.Aa.Af⟩:qc)).bind fun r3 =>
     (qu n (⟨code,i2,i3⟩:Tl01Source) (W64 ((r3.length:Int)+2))).bind fun o=>match o with
      | (i4,_,_) =>
       some (r2,W64 (i4-1)))
  | _=>none
theorem qaE {A:Nat→Prop} (hA:∀ b,A b→old w b) {code:(List (IntK .u8))} (ha1:GoT.R w A code cs1) {r:(qd × Int)} (hF:qW n code=some r):RetG Tryz.prog 8 [GoT.v (List (IntK .u8)) cs1] w A r:=by
 obtain ⟨p1,k1,rfl,s1⟩:=ha1
 have hg:=Rg.start hA
 refine qgB Tryz.func8 rfl (m:=19) rfl rfl (fun h=>?_)
 refine zSR (qy qa h rfl rfl rfl fun w1 bb1 h=>X0 5 rfl ?_)
 obtain ⟨r1,hr1,hF⟩:=qe hF
 refine qnS (cB 30 rfl) (qjb ⟨_,_,rfl,(h.oldS (s1.mono hg.old))⟩ hr1) rfl rfl rfl rfl ?_
 rintro w2 us1 L1 hs1 ⟨bb2,i1,rfl,rfl,rfl⟩
 replace h:SH _ _ [Ch.box bb2 [.slice p1 code.length k1,.int .i64 0,.int .i64 i1] 108,Ch.box bb1 [.slice none 0 0,.slice none 0 0,.slice none 0 0,.slice none 0 0,.slice none 0 0] 34]:=SH.appendN h hs1 ⟨fun _ h=>h,trivial⟩
 refine X0 5 rfl ?_
 obtain ⟨o1,hr2,hF⟩:=qe hF
 obtain ⟨r2,i2,i3⟩:=o1
 refine qB (cB 31 rfl) (qiT (s:=(⟨code,0,i1⟩:Tl01Source)) h (qhL _ (h.frOldS (s1.mono hg.old))) hr2) rfl rfl rfl rfl ?_
 rintro w3 us2 ⟨S1,cs2,rfl,h⟩
 have hr3:=h.grpS 0 0 rfl rfl
 obtain ⟨p2,k2,p3,k3,p4,k4,p5,k5,p6,k6,rfl,s2,s3,s4,s5,s6⟩:=qP hr3
 replace h:SH _ _ [Ch.grp (fun _=>False) S1 [fct (r2:qd) [.slice p2 r2.Ac.Ak.length k2,.slice p3 r2.Aa.Ab.length k3,.slice p4 r2.Aa.Ai.length k4,.slice p5 r2.Aa.Af.length k5,.slice p6 r2.Ah.length k6]],Ch.box bb2 [.slice p1 code.length k1,.int .i64 i2,.int .i64 i3] 108,Ch.box bb1 [.slice none 0 0,.slice none 0 0,.slice none 0 0,.slice none 0 0,.slice none 0 0] 34]:=h
 refine qy qa h rfl rfl rfl fun w4 bb3 h=>zs 0 h rfl fun w5 h=>zNS (rA [] [0] h rfl fun w6 h=>M2 15 [0,1,2,3] 0 0 (h.pick [0] rfl) rfl (Ao 4 31 rfl (zcL h hF (qci ⟨[.slice p3 r2.Aa.Ab.length k3],[.slice p4 r2.Aa.Ai.length k4,.slice p5 r2.Aa.Af.length k5],rfl,⟨_,_,rfl,(qdq (h.grp 1 0 rfl rfl)).2.1.1⟩,⟨[.slice p4 r2.Aa.Ai.length k4],[.slice p5 r2.Aa.Af.length k5],rfl,⟨_,_,rfl,(qdq (h.grp 1 0 rfl rfl)).2.2.1.1⟩,⟨_,_,rfl,(qdq (h.grp 1 0 rfl rfl)).2.2.2.1.1⟩⟩⟩) rfl fun r3 w7 S2 p7 k7 h hF=>G0 127 [5,6] (h.pick [1] rfl) rfl (Ao 7 255 rfl ?_))))
 replace h:=h.pick [3,0,1,2,4] rfl
 obtain ⟨o2,hr6,hF⟩:=qe hF
 obtain ⟨i4,i5,i6⟩:=o2
 refine qB (cB 32 rfl) (qj (a_0:=(⟨code,i2,i3⟩:Tl01Source)) (a_1:=(W64 ((r3.length:Int)+2))) h (qhL _ (h.frOldS (s1.mono hg.old))) hr6) rfl rfl rfl rfl ?_
 rintro w8 us3 ⟨rfl,h⟩
 replace h:SH _ _ [Ch.box bb2 [.slice p1 code.length k1,.int .i64 i5,.int .i64 i6] 108,Ch.own S2 (r3:List Tl05Place) [.slice p7 r3.length k7],Ch.box bb3 (qT r2 p2 p3 p4 p5 p6 k2 k3 k4 k5 k6) 34,Ch.grp (fun _=>False) S1 [fct (r2:qd) [.slice p2 r2.Ac.Ak.length k2,.slice p3 r2.Aa.Ab.length k3,.slice p4 r2.Aa.Ai.length k4,.slice p5 r2.Aa.Af.length k5,.slice p6 r2.Ah.length k6]],Ch.box bb1 [.slice none 0 0,.slice none 0 0,.slice none 0 0,.slice none 0 0,.slice none 0 0] 34]:=h
 refine G0 511 [8] (h.pick [2] rfl) rfl (Ao 9 1023 rfl (zs 4 h rfl fun w9 h=>G0 2047 [10] (h.pick [2] rfl) rfl (Ad ?_)))
 obtain rfl:=qb hF
 have hv1:GoRs.Rs (ρ:=(qd × Int)) h.wc (reg A w h.wc) (r2,W64 (i4-1)) [GoT.v qd (qT r2 p2 p3 p4 p5 p6 k2 k3 k4 k5 k6),GoT.v Int [.int .i64 (W64 (i4-1))]]:=⟨_,_,rfl,(hg.outR h (GoT.mono (Rg.grpR 3 0 h rfl rfl) (fun _ hb=>hb.elim (fun h=>h.elim) .inr))),⟨_,rfl,rfl⟩⟩
 have hk1:=h
 replace h:=h.pick [0,1,2,4] rfl
 exact qk1 qa (ρ:=(qd × Int)) (r:=(r2,W64 (i4-1))) [GoT.v qd (qT r2 p2 p3 p4 p5 p6 k2 k3 k4 k5 k6),GoT.v Int [.int .i64 (W64 (i4-1))]] h ⟨⟨_,_,_,rfl,rfl,hk1.box 4 rfl,rfl⟩,rfl,trivial⟩ hv1
end Go.Fw


namespace Go.Fw
open Go Go.Proofs
open Go.RowKit (Below)
set_option maxRecDepth 100000
set_option maxHeartbeats 6400000
variable {n:Nat} {w:World} {cs1 cs2 cs3 cs4 cs5 cs6 cs7 cs8 cs9:List Value}
end Go.Fw


namespace Go.Fw
open Go
structure qhd (x:qQ):Prop where
 Ar:okS x.Ar
 Bj:okI x.Bj
 Bb:okI x.Bb
 Ba:okT x.Ba
structure qfa (x:qF):Prop where
 Bf:(okL okI) x.Bf
 Be:(okL okI) x.Be
 Au:(okL okI) x.Au
structure qhi (x:qS):Prop where
 Aq:okI x.Aq
 Ay:okI x.Ay
 To:okI x.To
 Bg:okI x.Bg
 Bh:(okL qfa) x.Bh
 Bk:(okL qfa) x.Bk
structure qhZ (x:qk):Prop where
 Ar:okS x.Ar
 Aq:okI x.Aq
 Ap:(okL qhd) x.Ap
 Am:(okL qhi) x.Am
 Az:(okL okI) x.Az
 Bm:okI x.Bm
 Bi:okI x.Bi
structure qek (x:qi):Prop where
 Ak:(okL qhZ) x.Ak
structure qjm (x:ql):Prop where
 Ar:okS x.Ar
 Av:okI x.Av
 Ai:(okL okI) x.Ai
structure qk7 (x:qv):Prop where
 Ar:okS x.Ar
 Bj:okI x.Bj
 Bl:okI x.Bl
structure qgj (x:qc):Prop where
 Ab:(okL qjm) x.Ab
 Ai:(okL okS) x.Ai
 Af:(okL qk7) x.Af
structure qiP (x:qK):Prop where
 Aj:(okL okI) x.Aj
 Bc:(okL okI) x.Bc
 Bb:(okL okI) x.Bb
 As:(okL okI) x.As
structure qcW (x:qd):Prop where
 Ac:qek x.Ac
 Aa:qgj x.Aa
 Ah:(okL qiP) x.Ah
structure qkT (x:qhe):Prop where
 Aq:okI x.Aq
 Bu:okI x.Bu
 Ay:(okL okI) x.Ay
 Br:(okL okI) x.Br
 To:(okL okI) x.To
end Go.Fw


namespace Go.Fw
open Go
set_option maxRecDepth 100000
theorem qdB {n:Nat} {x lo hi:Int}:qan n x lo hi=some (inI x lo hi):=by
 simp only [qan,qhO,qiF];rfl
theorem qcT {n:Nat} {x lo hi:Int}:qau n x lo hi=some (inI x lo hi):=by
 simp only [qau,qhO,qiF];rfl
def bt (s:ByteArray) (j:Nat):Nat:=(s.data.toList.getD j 0).toNat
theorem qm0 {s:ByteArray} {j:Nat} (h:j<s.size):atS s (j:Int)=some (bt s j:Int):=by
 have h':j<s.data.size:=h
 have hl:j<s.data.toList.length:=by simpa using h'
 unfold atS
 rw [if_pos (by omega),jv]
 have:s[j]?=some (s.data.toList.getD j 0):=by
  rw [getElem?_pos s j h,jw,jn hl]
  rfl
 rw [this]
 rfl
def letB (b:Nat):Bool:=decide (97≤b)&&decide (b≤122)
def digB (b:Nat):Bool:=decide (48≤b)&&decide (b≤57)
def chB (s:ByteArray) (j:Nat):Bool:=letB (bt s j) || digB (bt s j)&&decide (0<j)
def nameB (s:ByteArray):Bool:=(decide (1≤s.size)&&decide (s.size≤8))&&allN (chB s) s.size
theorem qir {s:ByteArray} (h:okS s):Ev (fun n=>qeE n s) (nameB s):=by
 unfold okS at h
 have hL:Ev (fun n=>qcl s n 0) (bif allN (chB s) s.size then .nxt (s.size:Int) else .ret false):=by
  refine qdV ?_ (fun j hj X hX=>?_)
  ·exact Ev.succ (by simp only [qcl,qn (jf _),cond_false];exact .done)
  ·refine Ev.succ ?_
   simp only [qcl,qm hj,cond_true,qm0 hj,je,qhO,qiF,wS j]
   have e1:(decide ((bt s j:Int) ≥ 97)&&decide ((bt s j:Int)≤122))=letB (bt s j):=by unfold letB;rw [jk];simp;omega
   have e2:(decide ((bt s j:Int) ≥ 48)&&decide ((bt s j:Int)≤57))=digB (bt s j):=by unfold digB;rw [jk];simp;omega
   have e3:decide ((j:Int) > 0)=decide (0<j):=by rw [jk];simp
   rw [e1,e2,e3]
   unfold chB
   cases letB (bt s j)<;>cases digB (bt s j)<;>cases decide (0<j)<;>first|exact hX|exact .done
 unfold qeE
 refine Ev.cast (r:=bif allN (chB s) s.size then (decide (1≤s.size)&&decide (s.size≤8)) else false) (Ev.bindB hL (fun _=>?_) (fun _=>.done)) ?_
 ·simp only [qhO,qiF]
  exact Ev.now (by congr 1;rw [jk];simp;omega)
 ·unfold nameB
  cases allN (chB s) s.size<;>simp
def cutset:List UInt8:=[97,98,99,100,101,102,103,104,105,106,107,108,109,110,111,112,113,114,115,116,117,118,119,120,121,122,48,49,50,51,52,53,54,55,56,57]
theorem qj4 (b:UInt8):cutset.contains b=(letB b.toNat || digB b.toNat):=by
 have h0:(List.range 256).all (fun m=>cutset.contains (UInt8.ofNat m)==(letB (UInt8.ofNat m).toNat || digB (UInt8.ofNat m).toNat))=true:=by kernel_rfl
 have h:=List.all_eq_true.1 h0 b.toNat (List.mem_range.2 b.toNat_lt)
 rw [beq_iff_eq] at h
 simpa using h
def letters:List UInt8:=[97,98,99,100,101,102,103,104,105,106,107,108,109,110,111,112,113,114,115,116,117,118,119,120,121,122]
theorem ql7 (m:Nat) (hm:m<256):decide ((Lib.indexByte letters m.toUInt8) ≥ 0)=letB m:=by
 have h0:(List.range 256).all (fun m=>decide ((Lib.indexByte letters m.toUInt8) ≥ 0)==letB m)=true:=by kernel_rfl
 have h:=List.all_eq_true.1 h0 m (List.mem_range.2 hm)
 rwa [beq_iff_eq] at h
theorem qko {α:Type} {p:α→Bool} {l:List α}:l.dropWhile p=[]↔∀ x,x ∈ l→p x=true:=by
 induction l with
 | nil=>simp
 | cons y l ih =>
  rw [List.dropWhile_cons]
  by_cases h:p y=true
  ·rw [if_pos h,ih];simp [h]
  ·rw [if_neg h];simp [h]
theorem qkl {α:Type} {p:α→Bool} {l:List α} (h:∀ x,x ∈ l.dropWhile p→p x=true):∀ x,x ∈ l→p x=true:=by
 induction l with
 | nil=>simp
 | cons y l ih =>
  rw [List.dropWhile_cons] at h
  by_cases hy:p y=true
  ·rw [if_pos hy] at h
   intro x hx
   rcases List.mem_cons.1 hx with rfl|hx
   ·exact hy
   ·exact ih h x hx
  ·rw [if_neg hy] at h
   exact h
theorem qnj {l cs:List UInt8}:Lib.trimS l cs=[]↔∀ x,x ∈ l→cs.contains x=true:=by
 unfold Lib.trimS Lib.trimRightS Lib.trimLeftS
 rw [qko]
 constructor
 ·intro h x hx
  exact qkl (p:=(cs.contains ·)) (l:=l.reverse) (fun y hy=>h y (List.mem_reverse.2 hy)) x (List.mem_reverse.2 hx)
 ·intro h x hx
  exact h x (List.mem_reverse.1 ((List.dropWhile_suffix _).subset (List.mem_reverse.1 hx)))
theorem qeH {a b:ByteArray}:(a.toList==b.toList)=decide (a=b):=by
 rw [jk,beq_iff_eq,decide_eq_true_iff]
 constructor
 ·intro h
  exact ByteArray.ext (by have:=congrArg List.toArray h;simpa [ByteArray.toList_eq] using this)
 ·rintro rfl;rfl
end Go.Fw


namespace Go.Fw
open Go
set_option maxRecDepth 100000
theorem qn7 {s:ByteArray} {j:Nat} (h:j<s.data.toList.length):bt s j=(s.data.toList[j]).toNat:=by
 unfold bt;rw [jw,jn h];rfl
theorem qoB {s:ByteArray} {j:Nat}:bt s j<256:=UInt8.toNat_lt _
theorem qkq {n:Nat} {s:ByteArray} (h:okS s):qfO n s=some (nameB s):=by
 unfold okS at h
 have hl:s.data.toList.length=s.size:=by simp
 simp only [qfO,qcT,je]
 cases hI:inI (s.size:Int) 1 8 with
 | false =>
  have hs:(decide (1≤s.size)&&decide (s.size≤8))=false:=by rw [qmM] at hI;rw [Bool.and_eq_false_iff,decide_eq_false_iff_not,decide_eq_false_iff_not];omega
  simp [nameB,hs]
 | true =>
  have hs:1≤s.size∧s.size≤8:=by rw [qbe] at hI;omega
  have hT:qe7 n s (⟨#[97,98,99,100,101,102,103,104,105,106,107,108,109,110,111,112,113,114,115,116,117,118,119,120,121,122,48,49,50,51,52,53,54,55,56,57]⟩:ByteArray)=some ⟨(Lib.trimS s.data.toList cutset).toArray⟩:=by
   unfold qe7
   rw [if_pos ⟨by omega,by decide,by decide⟩]
   rfl
  rw [hT]
  simp only [cond_true,je]
  have hE:(((⟨(Lib.trimS s.data.toList cutset).toArray⟩:ByteArray).toList==(⟨#[]⟩:ByteArray).toList))=allN (fun j=>letB (bt s j) || digB (bt s j)) s.size:=by
   rw [qeH,jk,decide_eq_true_iff,qag]
   have:((⟨(Lib.trimS s.data.toList cutset).toArray⟩:ByteArray)=⟨#[]⟩)↔Lib.trimS s.data.toList cutset=[]:=by
    constructor
    ·intro he
     have:=congrArg (fun x:ByteArray=>x.data.toList) he
     simpa using this
    ·intro he;rw [he]
   rw [this,qnj]
   constructor
   ·intro hx j hj
    have hj':j<s.data.toList.length:=by omega
    have:=hx _ (jq hj')
    rw [qj4,←qn7 hj'] at this
    exact this
   ·intro hx x hm
    obtain ⟨j,hj,rfl⟩:=jI hm
    have:=hx j (by omega)
    rw [qj4,←qn7 hj]
    exact this
  rw [hE]
  have h0:atS s 0=some (bt s 0:Int):=qm0 (j:=0) (by omega)
  have hI2:decide (Lib.indexByte letters (bt s 0:Int).toNat.toUInt8 ≥ 0)=letB (bt s 0):=by
   rw [jv];exact ql7 _ qoB
  have hF:∀ b:Bool,(bif b then (atS s 0).bind fun y1=>(qeg n (⟨#[97,98,99,100,101,102,103,104,105,106,107,108,109,110,111,112,113,114,115,116,117,118,119,120,121,122]⟩:ByteArray) (⟨y1⟩:IntK .u8)).bind fun r3=>some (decide (r3 ≥ 0)) else some false)=some (b&&letB (bt s 0)):=by
   intro b
   cases b with
   | false=>rfl
   | true =>
    rw [h0]
    simp only [cond_true,je,qeg,jF]
    exact congrArg some hI2
  rw [hF]
  congr 1
  have hs':(decide (1≤s.size)&&decide (s.size≤8))=true:=by simp [hs]
  unfold nameB
  rw [hs',jF,jk,jg,qag,qag]
  simp only [chB,Bool.or_eq_true,jg,decide_eq_true_eq]
  constructor
  ·rintro ⟨h1,h2⟩ j hj
   rcases Nat.eq_zero_or_pos j with rfl|hp
   ·exact .inl h2
   ·exact (h1 j hj).imp id (fun h=>⟨h,hp⟩)
  ·intro h1
   refine ⟨fun j hj=>(h1 j hj).imp id (fun h=>h.1),?_⟩
   rcases h1 0 (by omega) with h2|h2
   ·exact h2
   ·omega
def strAt (xs:List ByteArray) (j:Nat):ByteArray:=xs.getD j ByteArray.empty
theorem qiO {xs:List ByteArray} {j:Nat} (h:j<xs.length):strAt xs j=xs[j]:=by simp [strAt,h]
theorem qjG {xs:List ByteArray} {j:Nat} (h:j<xs.length):idx xs (j:Int)=some (strAt xs j):=by rw [qa8 h,qiO h]
def neB (xs:List ByteArray) (j i:Nat):Bool:=!decide (strAt xs i=strAt xs j)
def namesB (xs:List ByteArray):Bool:=allN (fun j=>nameB (strAt xs j)&&allN (neB xs j) j) xs.length
theorem qhV {xs:List ByteArray} (h:okL okS xs):Ev (fun n=>qd6 n xs) (namesB xs):=by
 have hl:=h.len
 have hL2:∀ j,j<xs.length→Ev (fun n=>qcG xs (j:Int) n 0) (bif allN (neB xs j) j then .nxt (j:Int) else .ret false):=by
  intro j hj
  refine qdV ?_ (fun i hi X hX=>Ev.succ ?_)
  ·exact Ev.succ (by simp only [qcG,qn (jf _),cond_false];exact .done)
  ·simp only [qcG,qm hi,cond_true,qjG (show i<xs.length by omega),qjG hj,je,qeH,wS i]
   unfold neB
   cases decide (strAt xs i=strAt xs j)
   ·exact hX
   ·exact .done
 have hL1:Ev (fun n=>qcI xs n 0) (bif namesB xs then .nxt (xs.length:Int) else .ret false):=by
  refine qdV ?_ (fun j hj X hX=>Ev.succ ?_)
  ·exact Ev.succ (by simp only [qcI,qn (jf _),cond_false];exact .done)
  ·simp only [qcI,qm hj,cond_true,qjG hj,je,wS j]
   refine Ev.bind (qir (by rw [qiO hj];exact h.at hj)) ?_
   cases nameB (strAt xs j)
   ·exact .done
   ·refine Ev.ff rfl (Ev.bind (hL2 j hj) ?_)
    cases allN (neB xs j) j
    ·exact .done
    ·exact hX
 unfold qd6
 refine Ev.bind hL1 ?_
 cases namesB xs<;>exact .done
theorem qlk {xs:List ByteArray} {v:ByteArray} (hl:xs.length≤1048576):Ev (fun n=>qdt n xs v) (ixL (fun x=>decide (v=x)) xs) :=
 qdz (fin:=(xs.length:Int)) (Lf:=qa7 xs v) (pf:=fun _ x=>some (decide (v=x))) (fun _ _=>.done)
  (fun n=>by simp only [qa7,qn (jf _),cond_false])
  (fun n j x hx=>by
   have hj:=(List.getElem?_eq_some_iff.1 hx).1
   simp only [qa7,qm hj,cond_true,qe4 hx,je,qeH,wS j])
  (fun n=>by unfold qdt;congr 1;funext o;cases o<;>rfl)
theorem qjX {xs:List ByteArray} {v:ByteArray} (hl:xs.length≤1048576):Ev (fun n=>qcB n xs v) (xs.any fun x=>decide (v=x)):=by
 unfold qcB
 exact Ev.bind (qlk hl) (Ev.now (by rw [qgN]))
theorem qfW {xs:List ByteArray} (h:okL okS xs):Ev (fun n=>qcF n xs) (namesB xs):=by
 have hl:=h.len
 have hL1:Ev (fun n=>qcO xs n 0) (bif namesB xs then .nxt (xs.length:Int) else .ret false):=by
  refine qdV ?_ (fun j hj X hX=>Ev.succ ?_)
  ·exact Ev.succ (by simp only [qcO,qn (jf _),cond_false];exact .done)
  ·have hs:subS xs 0 (j:Int)=some (xs.take j):=by
    unfold subS
    rw [if_pos ⟨by omega,by omega,by omega⟩]
    simp
   simp only [qcO,qm hj,cond_true,qjG hj,je,hs,qkq (show okS (strAt xs j) by rw [qiO hj];exact h.at hj),wS j]
   cases nameB (strAt xs j)
   ·exact .done
   ·refine Ev.ff rfl (Ev.bind (qjX (by simp;omega)) ?_)
    have:((xs.take j).any fun x=>decide (strAt xs j=x)) = !allN (neB xs j) j:=by
     rw [qlb (d:=ByteArray.empty)]
     congr 1
     rw [List.length_take,Nat.min_eq_left (by omega)]
     refine qeT (fun i hi=>?_)
     unfold neB strAt
     congr 1
     have:(xs.take j).getD i ByteArray.empty=xs.getD i ByteArray.empty:=by simp [jw,hi]
     rw [this]
     exact decide_eq_decide.2 eq_comm
    rw [this]
    cases allN (neB xs j) j
    ·exact .done
    ·exact hX
 unfold qcF
 refine Ev.bind hL1 ?_
 cases namesB xs<;>exact .done
end Go.Fw


namespace Go.Fw
open Go
set_option maxRecDepth 100000
theorem qkd {n:Nat} {x lo hi:Int}:qey n x lo hi=some (!inI x lo hi):=by simp only [qey,qcT,je]
theorem qd1 {xs:List Int} {lo hi:Int} (hl:xs.length≤1048576):Ev (fun n=>qbi n xs lo hi) (xs.all fun x=>inI x lo hi):=by
 have h1:Ev (fun n=>qar n xs lo hi) (ixL (fun x=>!inI x lo hi) xs) :=
  qdz (fin:=(xs.length:Int)) (Lf:=qO xs lo hi) (pf:=fun _ x=>some (!inI x lo hi)) (fun _ _=>.done)
   (fun n=>by simp only [qO,qn (jf _),cond_false])
   (fun n j x hx=>by
    have hj:=(List.getElem?_eq_some_iff.1 hx).1
    simp only [qO,qm hj,cond_true,qe4 hx,je,qkd,wS j])
   (fun n=>by unfold qar;congr 1;funext o;cases o<;>rfl)
 unfold qbi qaO
 refine Ev.bind (Ev.bind h1 (Ev.now rfl)) (Ev.now ?_)
 rw [qgN,qjI]
def stepB (xs:List Int) (j:Nat):Bool:=decide (j=0) || decide (at0 xs (j-1)<at0 xs j)
def incB (xs:List Int):Bool:=allN (stepB xs) xs.length
theorem qjt {xs:List Int} (hl:xs.length≤1048576):Ev (fun n=>qeb n xs) (incB xs):=by
 have hL:Ev (fun n=>qaM xs n 1) (bif incB xs then .nxt (max 1 xs.length:Int) else .ret false):=by
  by_cases h0:xs.length=0
  ·have hb:incB xs=true:=by unfold incB;rw [h0];rfl
   rw [hb]
   refine Ev.succ ?_
   have:decide ((1:Int)<(xs.length:Int))=false:=by rw [h0];decide
   simp only [qaM,this,cond_false]
   exact Ev.now (by rw [h0];rfl)
  ·have:=qk0 (Lf:=qaM xs) (len:=xs.length) (i0:=1) (f:=stepB xs) (bad:=false) (fin:=.nxt (max 1 xs.length:Int)) (by omega)
    (Ev.succ (by
     simp only [qaM,qn (jf _),cond_false]
     exact Ev.now (by congr 2;omega)))
    (fun j h1 hj X hX=>Ev.succ (by
     simp only [qaM,qm hj,cond_true,wS j,show (j:Int)-1=((j-1:Nat):Int) by omega,qaP (show -9223372036854775808≤((j-1:Nat):Int) by omega) (by omega),qbW (show j-1<xs.length by omega),qbW hj,je]
     unfold stepB
     by_cases hc:at0 xs (j-1)<at0 xs j
     ·have e1:decide (at0 xs (j-1) ≥ at0 xs j)=false:=by simp;omega
      rw [e1];simp only [hc,decide_true,Bool.or_true,cond_true,cond_false];exact hX
     ·have e1:decide (at0 xs (j-1) ≥ at0 xs j)=true:=by simp;omega
      have e2:decide (j=0)=false:=by simp;omega
      rw [e1,e2];simp only [hc,decide_false,Bool.or_self,cond_true,cond_false];exact .done))
   have e:allN (fun j=>stepB xs (1+j)) (xs.length-1)=incB xs:=by
    unfold incB
    rw [jk,qag,qag]
    constructor
    ·intro h j hj
     cases j with
     | zero=>rfl
     | succ j=>have:=h j (by omega);rwa [Nat.add_comm] at this
    ·intro h j hj
     exact h (1+j) (by omega)
   rw [e] at this
   exact this
 unfold qeb
 refine Ev.bind hL ?_
 cases incB xs<;>exact .done
def lenB {α:Type} (xs:List α) (lo hi:Nat):Bool:=decide (lo≤xs.length)&&decide (xs.length≤hi)
theorem qjB {α:Type} {xs:List α} {lo hi:Nat}:inI (xs.length:Int) (lo:Int) (hi:Int)=lenB xs lo hi:=by
 unfold inI lenB;rw [jk];simp
def axisB (xs:List Int):Bool:=lenB xs 1 4&&((xs.all fun x=>inI x 0 100000)&&incB xs)
theorem qky {xs:List Int} (hl:xs.length≤1048576):Ev (fun n=>qfT n xs) (axisB xs):=by
 simp only [qfT,qao,je,qcT,show inI (xs.length:Int) 1 4=lenB xs 1 4 from qjB (lo:=1) (hi:=4)]
 unfold axisB
 cases lenB xs 1 4
 ·exact .done
 ·refine Ev.tt rfl (Ev.bind (qd1 hl) ?_)
  cases (xs.all fun x=>inI x 0 100000)
  ·exact .done
  ·exact Ev.tt rfl (Ev.bind (qjt hl) .done)
theorem qjW {xs:List Int} (hl:xs.length≤1048576):Ev (fun n=>qfp n xs) (axisB xs):=by
 have hL:Ev (fun n=>qcr xs n 0) (bif allN (fun j=>inI (at0 xs j) 0 100000&&stepB xs j) xs.length then .nxt (xs.length:Int) else .ret false):=by
  refine qdV ?_ (fun j hj X hX=>Ev.succ ?_)
  ·exact Ev.succ (by simp only [qcr,qn (jf _),cond_false];exact .done)
  ·simp only [qcr,qm hj,cond_true,qbW hj,je,qdB,wS j]
   cases inI (at0 xs j) 0 100000
   ·exact .done
   ·simp only [Bool.not_true,cond_false,jF]
    unfold stepB
    by_cases h0:j=0
    ·subst h0
     exact Ev.ff (by decide) hX
    ·simp only [show (j:Int)-1=((j-1:Nat):Int) by omega,qaP (show -9223372036854775808≤((j-1:Nat):Int) by omega) (by omega),qbW (show j-1<xs.length by omega),je]
     have e2:decide (j=0)=false:=by simp;omega
     have e3:decide ((j:Int) > 0)=true:=by simp;omega
     rw [e2,e3]
     simp only [cond_true,Bool.false_or]
     by_cases hc:at0 xs (j-1)<at0 xs j
     ·have e1:decide (at0 xs (j-1) ≥ at0 xs j)=false:=by simp;omega
      rw [e1];simp only [hc,decide_true,cond_true,cond_false];exact hX
     ·have e1:decide (at0 xs (j-1) ≥ at0 xs j)=true:=by simp;omega
      rw [e1];simp only [hc,decide_false,cond_true,cond_false];exact .done
 have e:axisB xs=(allN (fun j=>inI (at0 xs j) 0 100000&&stepB xs j) xs.length&&lenB xs 1 4):=by
  unfold axisB incB
  rw [qhH,qfr (d:=0),Bool.and_comm]
  rfl
 rw [e]
 unfold qfp
 refine Ev.bind hL ?_
 cases allN (fun j=>inI (at0 xs j) 0 100000&&stepB xs j) xs.length
 ·exact .done
 ·simp only [cond_true,qhO,qiF,jF]
  exact Ev.now (by congr 1;unfold lenB;rw [jk];simp;omega)
def tableB (t:qF):Bool:=axisB t.Bf&&(axisB t.Be&&(decide (t.Au.length=t.Bf.length*t.Be.length)&&(t.Au.all fun x=>inI x (-1000000) 1000000)))
theorem qjJ {a b:Nat} (ha:a≤1048576) (hb:b≤1048576):W64 ((a:Int)*(b:Int))=((a*b:Nat):Int):=by
 have h:a*b≤1048576*1048576:=Nat.mul_le_mul ha hb
 have e:(a:Int)*(b:Int)=((a*b:Nat):Int):=by simp
 rw [e]
 exact qaP (by omega) (by omega)
theorem ql5 {t:qF} (h:qfa t):Ev (fun n=>qf8 n t) (tableB t):=by
 unfold qf8 tableB
 refine Ev.bind (qky h.Bf.len) ?_
 cases axisB t.Bf
 ·exact .done
 ·refine Ev.tt rfl (Ev.bind (qky h.Be.len) ?_)
  cases axisB t.Be
  ·exact .done
  ·rw [qjJ h.Bf.len h.Be.len]
   have e:(((t.Au.length:Nat):Int)==((t.Bf.length*t.Be.length:Nat):Int))=decide (t.Au.length=t.Bf.length*t.Be.length):=by rw [jk];simp;omega
   rw [e]
   cases decide (t.Au.length=t.Bf.length*t.Be.length)
   ·exact .done
   ·exact Ev.tt rfl (Ev.tt rfl (Ev.bind (qd1 h.Au.len) .done))
theorem qlu {t:qF} (h:qfa t):Ev (fun n=>qf5 n t) (tableB t):=by
 have hl:=h.Au.len
 have hL:Ev (fun n=>qc6 t n 0) (bif (t.Au.all fun x=>inI x (-1000000) 1000000) then .nxt (t.Au.length:Int) else .ret false) :=
  qhW (fun n=>by simp only [qc6,qn (jf _),cond_false]) (fun j hj X hX=>by
   simp only [qc6,qm hj,cond_true,qa8 hj,je,qdB,wS j]
   cases inI t.Au[j] (-1000000) 1000000
   ·exact .done
   ·exact hX)
 unfold qf5 tableB
 refine Ev.bind (b:=!(axisB t.Bf&&(axisB t.Be&&decide (t.Au.length=t.Bf.length*t.Be.length)))) ?_ ?_
 ·refine Ev.bind (qjW h.Bf.len) ?_
  cases axisB t.Bf
  ·exact .done
  ·refine Ev.ff rfl (Ev.bind (qjW h.Be.len) ?_)
   cases axisB t.Be
   ·exact .done
   ·refine Ev.ff rfl (Ev.now ?_)
    rw [qjJ h.Bf.len h.Be.len]
    congr 1
    rw [jk];simp;omega
 ·cases axisB t.Bf
  ·exact .done
  ·cases axisB t.Be
   ·exact .done
   ·cases decide (t.Au.length=t.Bf.length*t.Be.length)
    ·exact .done
    ·refine Ev.ff rfl (Ev.bind hL ?_)
     cases (t.Au.all fun x=>inI x (-1000000) 1000000)<;>exact .done
end Go.Fw


namespace Go.Fw
open Go
set_option maxRecDepth 100000
instance:Inhabited qQ:=⟨⟨ByteArray.empty,0,0,false⟩⟩
instance:Inhabited qF:=⟨⟨[],[],[]⟩⟩
instance:Inhabited qS:=⟨⟨0,0,0,0,[],[]⟩⟩
instance:Inhabited qk:=⟨⟨ByteArray.empty,0,[],[],[],0,0⟩⟩
instance:Inhabited ql:=⟨⟨ByteArray.empty,0,[]⟩⟩
instance:Inhabited qv:=⟨⟨ByteArray.empty,0,0⟩⟩
instance:Inhabited qK:=⟨⟨[],[],[],[]⟩⟩
theorem lastE {j m:Nat} (h:j<m) (hm:m≤1048576):((j:Int)==W64 ((m:Int)-1))=decide (j+1=m):=by
 rcases qnV h with h|h
 ·exact h
 ·omega
theorem qgf {α:Type} [Inhabited α] {xs:List α} {g:α→ByteArray} {j:Nat} (h:j<xs.length):strAt (xs.map g) j=g (gt xs j):=by
 rw [qiO (by simpa using h),qgl h];simp
theorem qh2 {α:Type} {xs:List α} {g:α→ByteArray} {ok:α→Prop} (h:okL ok xs) (hg:∀ x,ok x→okS (g x)):okL okS (xs.map g) :=
 ⟨by rw [jG];exact h.1,fun y hy=>by
  obtain ⟨x,hx,rfl⟩:=List.mem_map.1 hy
  exact hg x (h.2 x hx)⟩
theorem qgZ {α β:Type} {xs:List α} {g:α→β} {j:Nat} (h:j<xs.length) (hl:xs.length≤1048576) {y:β}:appS ((xs.take j).map g) [y]=some ((xs.take j).map g++[y]) :=
 qb6 (by simp;omega)
def pinB (ps:List qQ) (j:Nat):Bool :=
 bif decide (j+1=ps.length) then ((gt ps j).Bj==2)&&(((gt ps j).Bb==0)&&!(gt ps j).Ba) else ((gt ps j).Bj==1)&&inI (gt ps j).Bb 0 500
def pinsB (ps:List qQ):Bool:=allN (pinB ps) ps.length&&(lenB ps 2 5&&namesB (ps.map qQ.Ar))
def clkN (ps:List qQ) (j:Nat):Nat:=cntP (fun i=>(gt ps i).Ba) j
theorem qmh {ps:List qQ} (h:okL qhd ps):Ev (fun n=>qge n ps) (pinsB ps):=by
 have hl:=h.len
 have hL:Ev (fun n=>qbS ps n ([]:List ByteArray) 0) (bif allN (pinB ps) ps.length then .nxt (ps.map qQ.Ar,(ps.length:Int)) else .ret false):=by
  refine loopN (Lf:=qbS ps) (S:=fun j=>(ps.take j).map qQ.Ar) (pinB ps) (fun n=>?_) (fun j hj hp X hX=>?_)
  ·simp only [qbS,qn (jf _),cond_false,List.take_length]
  ·simp only [qbS,qm hj,cond_true,qX hj,je,qgZ hj hl,qeB (g:=qQ.Ar) hj,lastE hj hl,bne,qbb,qcT,wS j]
   generalize hc:pinB ps j=c at hX ⊢
   unfold pinB at hc
   cases hd:decide (j+1=ps.length)
   ·rw [hd] at hc
    simp only [cond_false] at hc ⊢
    subst hc
    exact Ev.okP (fun h1=>Ev.okP1 (fun h2=>hX (by rw [h1,h2];rfl)))
   ·rw [hd] at hc
    simp only [cond_true] at hc ⊢
    subst hc
    refine Ev.okP (fun h1=>Ev.okP (fun h2=>Ev.chkP1 (fun h3=>hX (by rw [h1,h2,h3];rfl))))
 unfold qge pinsB
 refine Ev.bind hL ?_
 cases allN (pinB ps) ps.length
 ·exact .done
 ·simp only [cond_true,qa5,qcT,je,show inI (ps.length:Int) 2 5=lenB ps 2 5 from qjB (lo:=2) (hi:=5),jF]
  exact Ev.andP (fun _=>Ev.last (qfW (qh2 h (fun x hx=>hx.Ar))))
def pinS (ps:List qQ) (j:Nat):Bool:=allN (neB (ps.map qQ.Ar) j) j&&((nameB (gt ps j).Ar&&inI (gt ps j).Bb 0 500)&&(bif decide (j+1=ps.length) then ((gt ps j).Bj==2)&&(((gt ps j).Bb==0)&&!(gt ps j).Ba) else ((gt ps j).Bj==1)))
theorem qnE {ps:List qQ}:(lenB ps 2 5&&allN (pinS ps) ps.length)=pinsB ps:=by
 have e:namesB (ps.map qQ.Ar)=allN (fun j=>nameB (gt ps j).Ar&&allN (neB (ps.map qQ.Ar) j) j) ps.length:=by
  unfold namesB
  rw [jG]
  exact qeT (fun j hj=>by rw [qgf hj])
 unfold pinsB
 rw [e,←Bool.and_assoc,Bool.and_comm (allN (pinB ps) ps.length),Bool.and_assoc,←qhH]
 congr 1
 refine qeT (fun j hj=>?_)
 unfold pinS pinB
 cases hd:decide (j+1=ps.length)
 ·simp only [cond_false]
  cases allN (neB (ps.map qQ.Ar) j) j<;>cases nameB (gt ps j).Ar<;>cases inI (gt ps j).Bb 0 500<;>cases ((gt ps j).Bj==1)<;>rfl
 ·simp only [cond_true]
  cases hcap:((gt ps j).Bb==0)
  ·simp
  ·have:inI (gt ps j).Bb 0 500=true:=by rw [beq_iff_eq] at hcap;rw [hcap];rfl
   rw [this]
   cases allN (neB (ps.map qQ.Ar) j) j<;>cases nameB (gt ps j).Ar<;>cases ((gt ps j).Bj==2)<;>cases (gt ps j).Ba<;>rfl
theorem qmc {c:qk} (h:okL qhd c.Ap):Ev (fun n=>qf4 n c) (bif pinsB c.Ap then (((clkN c.Ap c.Ap.length:Nat):Int),true) else (0,false)):=by
 have hl:=h.len
 have hL2:∀ j,j<c.Ap.length→Ev (fun n=>qc7 c (j:Int) (gt c.Ap j) n 0) (bif allN (neB (c.Ap.map qQ.Ar) j) j then .nxt (j:Int) else .ret (0,false)):=by
  intro j hj
  refine qdV ?_ (fun i hi X hX=>Ev.succ ?_)
  ·exact Ev.succ (by simp only [qc7,qn (jf _),cond_false];exact .done)
  ·simp only [qc7,qm hi,cond_true,qX (show i<c.Ap.length by omega),je,qeH,wS i]
   unfold neB
   rw [qgf (g:=qQ.Ar) (show i<c.Ap.length by omega),qgf (g:=qQ.Ar) hj]
   exact Ev.chkP1 (fun _=>hX)
 have hL1:Ev (fun n=>qbR c n 0 0) (bif allN (pinS c.Ap) c.Ap.length then .nxt (((clkN c.Ap c.Ap.length:Nat):Int),(c.Ap.length:Int)) else .ret (0,false)):=by
  refine loopN (Lf:=qbR c) (S:=fun j=>((clkN c.Ap j:Nat):Int)) (pinS c.Ap) (fun n=>?_) (fun j hj hp X hX=>?_)
  ·simp only [qbR,qn (jf _),cond_false]
  ·have hn:clkN c.Ap j≤j:=qdg
   have ejl:((j:Int)==W64 ((c.Ap.length:Int)-1))=decide (j+1=c.Ap.length):=lastE hj hl
   have elt:decide ((j:Int)<W64 ((c.Ap.length:Int)-1)) = !decide (j+1=c.Ap.length):=by
    rw [qaP (by omega) (by omega),jk];simp;omega
   simp only [qbR,qm hj,cond_true,qX hj,je,wS j,qgX (show clkN c.Ap j<9223372036854775807 by omega),ejl,elt,qdB]
   unfold pinS
   refine Ev.bind (hL2 j hj) ?_
   cases ha:allN (neB (c.Ap.map qQ.Ar) j) j
   ·exact .done
   ·simp only [cond_true,jF]
    refine Ev.chkT ?_ (fun h1=>?_)
    ·exact Ev.or (qir (qhP h hj).Ar) (fun _=>.done)
    ·refine Ev.chkT1 ?_ (fun h2=>?_)
     ·cases decide (j+1=c.Ap.length)
      ·exact .done
      ·simp only [cond_true,Bool.not_true,cond_false,bne,qbb]
       cases ((gt c.Ap j).Bj==2)<;>cases ((gt c.Ap j).Bb==0)<;>cases (gt c.Ap j).Ba<;>exact .done
     ·have hX:=hX (by unfold pinS;rw [ha,h1,h2];rfl)
      have hck:clkN c.Ap (j+1)=clkN c.Ap j+(bif (gt c.Ap j).Ba then 1 else 0):=rfl
      rw [hck] at hX
      cases hc:(gt c.Ap j).Ba
      ·rw [hc] at hX;exact Ev.ff rfl hX
      ·rw [hc] at hX;exact Ev.tt rfl hX
 rw [←qnE]
 unfold qf4
 refine Ev.guard ?_ (fun h1=>?_)
 ·unfold lenB
  have e1:decide ((c.Ap.length:Int)<2) = !decide (2≤c.Ap.length):=by rw [jk];simp;omega
  have e2:decide ((c.Ap.length:Int) > 5) = !decide (c.Ap.length≤5):=by rw [jk];simp;omega
  rw [e1,e2]
  cases decide (2≤c.Ap.length)<;>cases decide (c.Ap.length≤5)<;>exact .done
 ·refine Ev.bind hL1 ?_
  cases allN (pinS c.Ap) c.Ap.length<;>exact .done
def mnL (xs:List Int):Int:=(xs.drop 1).foldl (fun m y=>if y<m then y else m) (at0 xs 0)
def mxL (xs:List Int):Int:=(xs.drop 1).foldl (fun m y=>if y > m then y else m) (at0 xs 0)
theorem qjO {t:qF} (h:tableB t=true):1≤t.Au.length:=by
 unfold tableB axisB lenB at h
 simp only [jg,decide_eq_true_eq] at h
 obtain ⟨⟨⟨h1,_⟩,_⟩,⟨⟨h2,_⟩,_⟩,h3,_⟩:=h
 rw [h3]
 exact Nat.mul_pos h1 h2
theorem qnM {xs:List Int} (h1:1≤xs.length) (hl:xs.length≤1048576):Ev (fun n=>qex n xs) (mnL xs):=by
 have hL:=(qkB (Lf:=fun n t j=>qbJ xs n t j) (xs:=xs) (step:=fun (m y:Int)=>if y<m then y else m) (fin:=fun t=>(t,(xs.length:Int))) 1 (at0 xs 0) (fun _ _=>True) h1 trivial (fun _ _ _ _=>trivial)
  (fun n t=>by simp only [qbJ,qn (jf _),cond_false])
  (fun j t hj _ X hX=>by simpa only [qbJ,qm hj,cond_true,qa8 hj,je,wS j] using hX)).1
 unfold qex
 rw [show decide ((xs.length:Int)<1)=false by simp;omega,show idx xs (0:Int)=some (at0 xs 0) from qbW (j:=0) (by omega)]
 simp only [cond_false,je]
 exact Ev.bind hL .done
theorem ql9 {t:qF} (h:qfa t):Ev (fun n=>qev n t) (bif tableB t then (⟨mnL t.Au,mxL t.Au⟩,0) else (⟨0,0⟩,1)):=by
 unfold qev
 refine Ev.chk1 (qlu h) (fun hb=>?_)
 have h1:=qjO hb
 have hl:=h.Au.len
 have hL:=(qkB (Lf:=fun n (t':Int × Int) j=>qbH t n t'.1 t'.2 j) (xs:=t.Au) (step:=fun (m:Int × Int) y=>(if y<m.1 then y else m.1,if y > m.2 then y else m.2)) (fin:=fun t'=>(t'.1,t'.2,(t.Au.length:Int))) 1 (at0 t.Au 0,at0 t.Au 0) (fun _ _=>True) h1 trivial (fun _ _ _ _=>trivial)
  (fun n t=>by simp only [qbH,qn (jf _),cond_false])
  (fun j t hj _ X hX=>by simpa only [qbH,qm hj,cond_true,qa8 hj,je,wS j] using hX)).1
 have hf:∀ (ys:List Int) (a b:Int),ys.foldl (fun (m:Int × Int) y=>(if y<m.1 then y else m.1,if y > m.2 then y else m.2)) (a,b)=(ys.foldl (fun m y=>if y<m then y else m) a,ys.foldl (fun m y=>if y > m then y else m) b):=by
  intro ys
  induction ys with
  | nil=>intro a b;rfl
  | cons y ys ih=>intro a b;simp only [List.foldl_cons,ih]
 rw [hf] at hL
 rw [show idx t.Au (0:Int)=some (at0 t.Au 0) from qbW (j:=0) (by omega)]
 simp only [je]
 exact Ev.bind hL .done
def tabB (pos:Bool) (t:qF):Bool:=tableB t&&(!pos || decide (0≤mnL t.Au))
def tablesB (ts:List qF) (pos:Bool):Bool:=decide (ts.length=2)&&ts.all (tabB pos)
theorem qhk {ts:List qF} {pos:Bool} (h:okL qfa ts):Ev (fun n=>qdy n ts pos) (tablesB ts pos):=by
 have hl:=h.len
 have h1:Ev (fun n=>qal n ts pos) (ixL (fun x=>!tabB pos x) ts) :=
  qdz (fin:=(ts.length:Int)) (Lf:=qD ts pos) (pf:=fun n x=>qeD n x pos) (fun x hx=>by
    unfold qeD tabB
    refine Ev.or (ql5 (h.2 x hx)) (fun hb=>?_)
    cases pos
    ·exact .done
    ·refine Ev.tt rfl (Ev.bind (qnM (qjO hb) (h.2 x hx).Au.len) (Ev.now ?_))
     congr 1
     rw [jk];simp)
   (fun n=>by simp only [qD,qn (jf _),cond_false])
   (fun n j x hx=>by
    have hj:=(List.getElem?_eq_some_iff.1 hx).1
    simp only [qD,qm hj,cond_true,qe4 hx,je,wS j])
   (fun n=>by unfold qal;congr 1;funext o;cases o<;>rfl)
 unfold qdy qax tablesB
 rw [show ((ts.length:Int)==2)=decide (ts.length=2) by rw [jk];simp;omega]
 refine Ev.andP (fun _=>Ev.bind (Ev.bind h1 (Ev.now rfl)) (Ev.now ?_))
 rw [qgN,qjI]
theorem qff {ts:List qF} {pos:Bool} (h:okL qfa ts):Ev (fun n=>qcc n ts pos) (tablesB ts pos):=by
 unfold qcc tablesB
 rw [show ((ts.length:Int) != 2) = !decide (ts.length=2) by rw [jk];simp;omega]
 simp only [qbb]
 refine Ev.andP (fun h2=>?_)
 have h2:ts.length=2:=by simpa using h2
 have hL:Ev (fun n=>qbx ts pos n 0) (bif allN (fun j=>tabB pos (gt ts j)) ts.length then .nxt (2:Int) else .ret false):=by
  refine qdV (len:=ts.length) ?_ (fun j hj X hX=>Ev.succ ?_)
  ·rw [h2];exact Ev.succ (by simp only [qbx];exact .done)
  ·simp only [qbx,show decide ((j:Int)<2)=true by simp;omega,cond_true,qX hj,je,wS j]
   refine Ev.bind (ql9 (qhP h hj)) ?_
   unfold tabB
   cases tableB (gt ts j)
   ·exact .done
   ·simp only [cond_true,jF]
    refine Ev.ff rfl ?_
    cases pos
    ·exact hX
    ·refine Ev.tt rfl ?_
     rw [show decide (mnL (gt ts j).Au<0) = !decide (0≤mnL (gt ts j).Au) by rw [jk];simp]
     simp only [qbb]
     exact Ev.okP1 (fun _=>hX)
 rw [qfX]
 refine Ev.bind hL ?_
 cases allN (fun j=>tabB pos (gt ts j)) ts.length<;>exact .done
end Go.Fw


namespace Go.Fw
open Go
set_option maxRecDepth 100000
theorem qd8 {α:Type} [Inhabited α] {xs:List α} {x:Int} (h0:0≤x) (h1:x<xs.length):idx xs x=some (gt xs x.toNat):=by
  have:=qX (xs:=xs) (j:=x.toNat) (by omega)
  rwa [←qhS h0] at this
theorem qkx {q:Nat→Bool} {m n:Nat} (h:m≤n):cntP q m≤cntP q n:=by
  induction n with
  | zero =>
    obtain rfl:m=0:=by omega
    exact jf _
  | succ n ih =>
    rcases Nat.lt_or_eq_of_le h with h|rfl
    · exact jN (ih (by omega)) (Nat.le_add_right _ _)
    · exact jf _
theorem qh0 {m k:Nat}:decide ((m:Int)≤(k:Int))=decide (m≤k):=by rw [jk];simp
theorem qlJ {q:Nat→Bool} {n i j:Nat} (hi:i<j) (hj:j<n) (h1:q i=true) (h2:q j=true):2≤cntP q n:=by
  have e1:cntP q (i+1)=cntP q i+1:=by rw [cntP,h1];rfl
  have e2:cntP q (j+1)=cntP q j+1:=by rw [cntP,h2];rfl
  have m1:=qkx (q:=q) (show i+1≤j by omega)
  have m2:=qkx (q:=q) (show j+1≤n by omega)
  omega
theorem qly {q:Nat→Bool} {n i j:Nat} (hn:cntP q n≤1) (hi:i<n) (hj:j<n) (h1:q i=true) (h2:q j=true):i=j:=by
  rcases Nat.lt_trichotomy i j with h|h|h
  · have:=qlJ h hj h1 h2;omega
  · exact h
  · have:=qlJ h hi h2 h1;omega
def clkIx (ps:List qQ):Int:=ixL (fun p=>p.Ba) ps
def clkAt (ps:List qQ) (x:Int):Bool:=(gt ps x.toNat).Ba
theorem qnf {c:qk} (hl:c.Ap.length≤1048576):Ev (fun n=>qeQ n c) (clkIx c.Ap):=by
  unfold qeQ
  refine Ev.bind (b:=clkIx c.Ap) ?_ .done
  exact qdz (fin:=(c.Ap.length:Int)) (Lf:=qG c.Ap) (pf:=fun n x=>qfj n x) (fun _ _=>.done)
    (fun n=>by simp only [qG,qn (jf _),cond_false])
    (fun n j x hx=>by
      have hj:=(List.getElem?_eq_some_iff.1 hx).1
      simp only [qG,qm hj,cond_true,qe4 hx,je,wS j])
    (fun n=>by unfold qaK;congr 1;funext o;cases o<;>rfl)
def arcI (ps:List qQ) (a:qS):Bool :=
  bif (a.Aq==4) || (a.Aq==5) then
    (a.Bg==0)&&(((a.Bk.length:Int)==0)&&(tablesB a.Bh false&&((a.Ay==clkIx ps)&&(decide (a.Ay ≥ 0)&&(inI a.To 0 (ps.length-2)&&!(a.To==a.Ay))))))
  else
    (tablesB a.Bh true&&(tablesB a.Bk true&&((a.To==(ps.length:Int)-1)&&inI a.Ay 0 (ps.length-2)))) &&
      (bif a.Aq==1 then !clkAt ps a.Ay&&inI a.Bg 1 3 else (bif (a.Aq==2) || (a.Aq==3) then clkAt ps a.Ay&&(a.Bg==0) else false))
def arcS (ps:List qQ) (a:qS):Bool :=
  (inI a.Ay 0 (ps.length-2)&&inI a.To 0 (ps.length-1)) &&
    (bif a.Aq==1 then !clkAt ps a.Ay&&((a.To==(ps.length:Int)-1)&&(inI a.Bg 1 3&&(tablesB a.Bh true&&tablesB a.Bk true)))
     else (bif (a.Aq==2) || (a.Aq==3) then clkAt ps a.Ay&&((a.To==(ps.length:Int)-1)&&((a.Bg==0)&&(tablesB a.Bh true&&tablesB a.Bk true)))
     else (bif (a.Aq==4) || (a.Aq==5) then clkAt ps a.Ay&&(decide (a.To<(ps.length:Int)-1)&&(!clkAt ps a.To&&((a.Bg==0)&&(tablesB a.Bh false&&((a.Bk.length:Int)==0))))) else false)))
theorem qjo {c d:Bool}:(bif c then some c else some d)=some (c || d):=by cases c<;>rfl
theorem qlq {c d:Bool}:(bif c then some true else some d)=some (c || d):=by cases c<;>rfl
theorem qjQ {n:Nat} {k:Int}:qe6 n k=some ((k==4) || (k==5)):=by simp only [qe6,qlq]
theorem qmX {c:qk} {a:qS} (h:okL qhd c.Ap) (ha:qhi a) (hm:2≤c.Ap.length):Ev (fun n=>qeS n c a) (arcI c.Ap a):=by
  have hl:=h.len
  have e1:W64 ((c.Ap.length:Int)-1)=(c.Ap.length:Int)-1:=qbX (by omega)
  have e2:W64 ((c.Ap.length:Int)-1-1)=(c.Ap.length:Int)-2:=by rw [qaP (by omega) (by omega)];omega
  simp only [qeS,qjQ,je,qea,qbk,qa5,e1,e2,qcT,qjo,bne]
  unfold arcI
  refine Ev.iff (fun _=>Ev.last ?_) (fun _=>Ev.guardB ?_ (fun hb=>?_))
  · exact Ev.andP fun _=>Ev.andP fun _=>Ev.and (qhk ha.Bh) fun _=>Ev.bind (qnf hl) (Ev.andP fun _=>Ev.andP fun _=>Ev.andP fun _=>.done)
  · refine Ev.or (qhk ha.Bh) fun _=>Ev.or (qhk ha.Bk) fun _=>?_
    simp only [qbb]
    exact Ev.orBP fun _=>.done
  · have hf:0≤a.Ay∧a.Ay≤(c.Ap.length:Int)-2:=by
      simp only [jg,qbe] at hb
      exact hb.2.2.2
    simp only [qd8 hf.1 (show a.Ay<(c.Ap.length:Int) by omega),je]
    exact Ev.iff (fun _=>Ev.andP fun _=>.done) (fun _=>Ev.iff (fun _=>Ev.andP fun _=>.done) (fun _=>.done))
theorem qmL {c:qk} {a:qS} (h:okL qhd c.Ap) (ha:qhi a) (hm:2≤c.Ap.length):Ev (fun n=>qgH n c a) (arcS c.Ap a):=by
  have hl:=h.len
  have e1:W64 ((c.Ap.length:Int)-1)=(c.Ap.length:Int)-1:=qbX (by omega)
  have e2:W64 ((c.Ap.length:Int)-1-1)=(c.Ap.length:Int)-2:=by rw [qaP (by omega) (by omega)];omega
  simp only [qgH,je,e1,e2,qdB,qjo]
  unfold arcS
  refine Ev.guardB ?_ (fun hb=>?_)
  · simp only [qbb]
    exact Ev.orBP fun _=>.done
  · have hf:(0≤a.Ay∧a.Ay≤(c.Ap.length:Int)-2)∧(0≤a.To∧a.To≤(c.Ap.length:Int)-1):=by
      simp only [jg,qbe] at hb
      exact hb
    simp only [qd8 hf.1.1 (show a.Ay<(c.Ap.length:Int) by omega),qd8 hf.2.1 (show a.To<(c.Ap.length:Int) by omega),je]
    refine Ev.iff (fun _=>?_) (fun _=>Ev.iff (fun _=>?_) (fun _=>Ev.iff (fun _=>?_) (fun _=>.done)))
    · exact Ev.andP fun _=>Ev.andP fun _=>Ev.andP fun _=>Ev.and (qff ha.Bh) fun _=>Ev.last (qff ha.Bk)
    · exact Ev.andP fun _=>Ev.andP fun _=>Ev.andP fun _=>Ev.and (qff ha.Bh) fun _=>Ev.last (qff ha.Bk)
    · exact Ev.andP fun _=>Ev.andP fun _=>Ev.andP fun _=>Ev.andP fun _=>Ev.and (qff ha.Bh) fun _=>.done
theorem qi8 {ps:List qQ} (h1:clkN ps ps.length≤1) {x:Int} (hx:0≤x):clkIx ps=x↔x<ps.length∧clkAt ps x=true:=by
  unfold clkIx ixL
  cases hf:ps.findIdx? (fun p=>p.Ba) with
  | some j =>
    obtain ⟨hj,hp,_⟩:=List.findIdx?_eq_some_iff_getElem.1 hf
    have hpj:(gt ps j).Ba=true:=by rw [qgl hj];exact hp
    constructor
    · intro e
      have e:(j:Int)=x:=e
      subst e
      exact ⟨by omega,by unfold clkAt;rw [jv];exact hpj⟩
    · rintro ⟨hl,hc⟩
      have:=qly h1 hj (show x.toNat<ps.length by omega) hpj hc
      show (j:Int)=x
      omega
  | none =>
    have hn:=List.findIdx?_eq_none_iff.1 hf
    constructor
    · intro e
      have e:(-1:Int)=x:=e
      omega
    · rintro ⟨hl,hc⟩
      have hxl:x.toNat<ps.length:=by omega
      unfold clkAt at hc
      rw [qgl hxl] at hc
      have:=hn _ (jq hxl)
      rw [hc] at this
      exact absurd this (by decide)
theorem qgn {ps:List qQ} (h:pinsB ps=true):(2≤ps.length∧ps.length≤5)∧clkAt ps ((ps.length:Int)-1)=false:=by
  unfold pinsB lenB at h
  simp only [jg,decide_eq_true_eq] at h
  refine ⟨h.2.1,?_⟩
  have h1:=qag.1 h.1 (ps.length-1) (by omega)
  unfold pinB at h1
  rw [show decide (ps.length-1+1=ps.length)=true by simp;omega] at h1
  simp only [cond_true,jg,jA] at h1
  unfold clkAt
  rw [show ((ps.length:Int)-1).toNat=ps.length-1 by omega]
  exact h1.2.2
theorem qnq {ps:List qQ} {a:qS} (h:pinsB ps=true) (h1:clkN ps ps.length≤1):arcI ps a=arcS ps a:=by
  obtain ⟨⟨hm,hm5⟩,hlast⟩:=qgn h
  rw [jk]
  unfold arcI arcS
  cases h45:((a.Aq==4) || (a.Aq==5)) with
  | true =>
    have k1:(a.Aq==1)=false:=by simp at h45 ⊢;omega
    have k23:((a.Aq==2) || (a.Aq==3))=false:=by simp at h45 ⊢;omega
    rw [k1,k23]
    simp only [cond_true,cond_false,jg,qbe,decide_eq_true_eq,beq_iff_eq,jA,beq_eq_false_iff_ne,ne_eq]
    constructor
    · rintro ⟨hs,hsl,hd,hf,hf0,ht,hne⟩
      obtain ⟨hl,hc⟩:=(qi8 h1 hf0).1 hf.symm
      have hfl:a.Ay ≠ (ps.length:Int)-1:=by intro e;rw [e,hlast] at hc;cases hc
      refine ⟨⟨⟨hf0,by omega⟩,⟨ht.1,by omega⟩⟩,hc,by omega,?_,hs,hd,hsl⟩
      cases hct:clkAt ps a.To with
      | false=>rfl
      | true =>
        have:=(qi8 h1 ht.1).2 ⟨by omega,hct⟩
        omega
    · rintro ⟨⟨hf,ht⟩,hc,hlt,hct,hs,hd,hsl⟩
      have:=(qi8 h1 hf.1).2 ⟨by omega,hc⟩
      refine ⟨hs,hsl,hd,this.symm,hf.1,⟨ht.1,by omega⟩,?_⟩
      intro e
      rw [e,hc] at hct
      cases hct
  | false =>
    simp only [cond_false,jg,qbe,beq_iff_eq]
    cases (a.Aq==1)
    · cases ((a.Aq==2) || (a.Aq==3))
      · simp
      · simp only [cond_true,cond_false,jg,beq_iff_eq]
        constructor
        · rintro ⟨⟨h1,h2,h3,h4⟩,h5,h6⟩
          exact ⟨⟨h4,by omega⟩,h5,h3,h6,h1,h2⟩
        · rintro ⟨⟨h4,h7⟩,h5,h3,h6,h1,h2⟩
          exact ⟨⟨h1,h2,h3,h4⟩,h5,h6⟩
    · simp only [cond_true,jg,qbe,jA,beq_iff_eq]
      constructor
      · rintro ⟨⟨h1,h2,h3,h4⟩,h5,h6⟩
        exact ⟨⟨h4,by omega⟩,h5,h3,h6,h1,h2⟩
      · rintro ⟨⟨h4,h7⟩,h5,h3,h6,h1,h2⟩
        exact ⟨⟨h1,h2,h3,h4⟩,h5,h6⟩
theorem qkw {ps:List qQ} {a:qS} (h:arcS ps a=true):1≤a.Aq∧a.Aq≤5:=by
  unfold arcS at h
  rw [jg] at h
  have h:=h.2
  cases h1:(a.Aq==1)
  · cases h2:((a.Aq==2) || (a.Aq==3))
    · cases h4:((a.Aq==4) || (a.Aq==5))
      · rw [h1,h2,h4] at h;cases h
      · simp at h4;omega
    · simp at h2;omega
  · simp at h1;omega
def sameArc (x y:qS):Bool:=(x.Aq==y.Aq)&&((x.Ay==y.Ay)&&(x.To==y.To))
def newArc (ar:List qS) (j:Nat):Bool:=allN (fun i=>!sameArc (gt ar i) (gt ar j)) j
theorem qma {c:qk} (h:okL qhd c.Ap) (ha:okL qhi c.Am) (hm:2≤c.Ap.length):Ev (fun n=>qed n c) (allN (fun j=>arcI c.Ap (gt c.Am j)&&newArc c.Am j) c.Am.length&&decide (c.Am.length≤8)):=by
  have hl:=ha.len
  have h1:∀ (ar:List qS) (y:qS),ar.length≤1048576→Ev (fun n=>qaf n ar y) (ar.any fun x=>sameArc x y):=by
    intro ar y hl
    unfold qaf
    refine Ev.bind (b:=ixL (fun x=>sameArc x y) ar) (qdz (fin:=(ar.length:Int)) (Lf:=qC ar y) (pf:=fun n x=>qdw n x y) (fun x _=>?_)
      (fun n=>by simp only [qC,qn (jf _),cond_false])
      (fun n j x hx=>by
        have hj:=(List.getElem?_eq_some_iff.1 hx).1
        simp only [qC,qm hj,cond_true,qe4 hx,je,wS j])
      (fun n=>by unfold qaz;congr 1;funext o;cases o<;>rfl)) (Ev.now (by rw [qgN]))
    unfold qdw sameArc
    exact Ev.andP fun _=>Ev.andP fun _=>.done
  have hL:Ev (fun n=>qbo c n 0) (bif allN (fun j=>arcI c.Ap (gt c.Am j)&&newArc c.Am j) c.Am.length then .nxt (c.Am.length:Int) else .ret false):=by
    refine qdV ?_ (fun j hj X hX=>Ev.succ ?_)
    · exact Ev.succ (by simp only [qbo,qn (jf _),cond_false];exact .done)
    · simp only [qbo,qm hj,cond_true,qX hj,je,qmv (Nat.le_of_lt hj),wS j]
      refine Ev.chk (qmX h (qhP ha hj) hm) fun _=>Ev.chkT1 ?_ (fun _=>hX)
      refine (h1 _ _ (by simp;omega)).cast ?_
      rw [qm4 (Nat.le_of_lt hj)];rfl
  unfold qed
  refine Ev.bind hL ?_
  cases allN (fun j=>arcI c.Ap (gt c.Am j)&&newArc c.Am j) c.Am.length
  · exact .done
  · refine Ev.now ?_
    show some (decide ((c.Am.length:Int)≤((8:Nat):Int)))=some (true&&decide (c.Am.length≤8))
    rw [qh0,jF]
def hasB (ar:List qS) (k:Int):Bool:=ar.any fun a=>a.Aq==k
theorem qiY {c:qk} {k:Int} (hl:c.Am.length≤1048576):Ev (fun n=>qb7 n c k) (hasB c.Am k):=by
  unfold qb7 qaH
  exact Ev.last (Ev.bind (b:=ixL (fun x=>x.Aq==k) c.Am) (qdz (fin:=(c.Am.length:Int)) (Lf:=qL c.Am k) (pf:=fun n x=>qf2 n x k) (fun x _=>.done)
      (fun n=>by simp only [qL,qn (jf _),cond_false])
      (fun n j x hx=>by
        have hj:=(List.getElem?_eq_some_iff.1 hx).1
        simp only [qL,qm hj,cond_true,qe4 hx,je,wS j])
      (fun n=>by unfold qaR;congr 1;funext o;cases o<;>rfl)) (Ev.now (by rw [qgN];rfl)))
def kindN (ar:List qS) (k:Nat) (j:Nat):Nat:=cntP (fun i=>(gt ar i).Aq==(k:Int)) j
theorem qkv {ar:List qS} {k:Nat}:decide (((kindN ar k ar.length:Nat):Int) > 0)=hasB ar k:=by
  rw [show decide (((kindN ar k ar.length:Nat):Int) > 0)=decide (0<kindN ar k ar.length) by simp]
  unfold kindN hasB
  rw [qlo,qmW]
theorem qlX {ar:List qS} {k:Nat}:(((kindN ar k ar.length:Nat):Int)==0) = !hasB ar k:=by
  rw [←qkv,jk];simp
theorem qls {c:qk} (ha:okL qhi c.Am) (hk:∀ j,j<c.Am.length→1≤(gt c.Am j).Aq∧(gt c.Am j).Aq≤5):Ev (fun n=>qfG n c) (vecC (fun k=>kindN c.Am k c.Am.length) 6):=by
  have hl:=ha.len
  have hL:Ev (fun n=>qb2 c n (vecC (fun _=>0) 6) 0) (vecC (fun k=>kindN c.Am k c.Am.length) 6,(c.Am.length:Int)):=by
    refine loopF (Lf:=qb2 c) (S:=fun j=>vecC (fun k=>kindN c.Am k j) 6) (len:=c.Am.length) (fun n=>?_) (fun j hj X hX=>?_)
    · simp only [qb2,qn (jf _),cond_false]
    · obtain ⟨k1,k5⟩:=hk j hj
      have ek:(gt c.Am j).Aq=(((gt c.Am j).Aq.toNat:Nat):Int):=qhS (by omega)
      have hc:kindN c.Am (gt c.Am j).Aq.toNat j≤j:=qdg
      simp only [qb2,qm hj,cond_true,qX hj,je,wS j]
      rw [ek,qgp (show (gt c.Am j).Aq.toNat<6 by omega)]
      simp only [je]
      rw [qkJ (c:=fun k=>kindN c.Am k j) (by show kindN c.Am _ j<_;omega)]
      have:vecC (fun i=>kindN c.Am i j+(bif decide ((gt c.Am j).Aq.toNat=i) then 1 else 0)) 6=vecC (fun k=>kindN c.Am k (j+1)) 6:=by
        refine qgq (fun k _=>?_)
        show _=kindN c.Am k j+(bif (gt c.Am j).Aq==(k:Int) then 1 else 0)
        congr 2
        rw [jk];simp;omega
      rw [this]
      exact hX
  unfold qfG
  rw [show mkS 6 (0:Int)=some (vecC (fun _=>0) 6) from qh4 (m:=6) (by omega)]
  simp only [je]
  exact Ev.bind hL .done
def kindB (c:qk):Bool :=
  bif c.Aq==1 then (((clkN c.Ap c.Ap.length:Nat):Int)==0)&&(((c.Az.length:Int)==((2 ^ (c.Ap.length-1):Nat):Int))&&(c.Az.all fun x=>inI x 0 1))
  else bif c.Aq==2 then (((clkN c.Ap c.Ap.length:Nat):Int)==1)&&(((c.Az.length:Int)==0)&&(!hasB c.Am 1&&!(hasB c.Am 2==hasB c.Am 3)))
  else bif c.Aq==3 then (((clkN c.Ap c.Ap.length:Nat):Int)==1)&&(((c.Az.length:Int)==0)&&(hasB c.Am 1&&(hasB c.Am 2&&!hasB c.Am 3)))
  else false
theorem qkG {c:qk} (h:kindB c=true):clkN c.Ap c.Ap.length≤1:=by
  unfold kindB at h
  cases h1:(c.Aq==1)
  · cases h2:(c.Aq==2)
    · cases h3:(c.Aq==3)
      · rw [h1,h2,h3] at h;cases h
      · rw [h1,h2,h3] at h
        simp only [cond_true,cond_false,jg,beq_iff_eq] at h
        omega
    · rw [h1,h2] at h
      simp only [cond_true,cond_false,jg,beq_iff_eq] at h
      omega
  · rw [h1] at h
    simp only [cond_true,jg,beq_iff_eq] at h
    omega
theorem qlB {m:Nat} (h1:2≤m) (h2:m≤5):shlS 1 (W64 ((m:Int)-1))=some ((2 ^ (m-1):Nat):Int)∧shlS 1 (IntKind.wrap .u64 (W64 ((m:Int)-1)))=some ((2 ^ (m-1):Nat):Int):=by
  have:m=2∨m=3∨m=4∨m=5:=by omega
  rcases this with rfl|rfl|rfl|rfl<;>exact ⟨by decide,by decide⟩
theorem qlK {c:qk} (hc:qhZ c) (hm:2≤c.Ap.length) (hm5:c.Ap.length≤5):Ev (fun n=>qdT n c) (kindB c):=by
  have hl:=hc.Ap.len
  have hL:Ev (fun n=>qaB c n 0 0) (((clkN c.Ap c.Ap.length:Nat):Int),(c.Ap.length:Int)):=by
    refine loopF (Lf:=qaB c) (S:=fun j=>((clkN c.Ap j:Nat):Int)) (len:=c.Ap.length) (fun n=>?_) (fun j hj X hX=>?_)
    · simp only [qaB,qn (jf _),cond_false]
    · have hn:clkN c.Ap j≤j:=qdg
      simp only [qaB,qm hj,cond_true,qX hj,je,wS j,qgX (show clkN c.Ap j<9223372036854775807 by omega)]
      have hck:clkN c.Ap (j+1)=clkN c.Ap j+(bif (gt c.Ap j).Ba then 1 else 0):=rfl
      rw [hck] at hX
      cases hc:(gt c.Ap j).Ba
      · rw [hc] at hX;exact Ev.ff rfl hX
      · rw [hc] at hX;exact Ev.tt rfl hX
  unfold qdT kindB
  refine Ev.bind hL ?_
  simp only [qbk,qa5,je,(qlB hm hm5).1]
  have hal:=hc.Am.len
  refine Ev.iff (fun _=>?_) (fun _=>Ev.iff (fun _=>?_) (fun _=>Ev.iff (fun _=>?_) (fun _=>.done)))
  · exact Ev.andP fun _=>Ev.andP fun _=>Ev.last (qd1 hc.Az.len)
  · exact Ev.andP fun _=>Ev.andP fun _=>Ev.bind (qiY hal) (Ev.andP fun _=>Ev.bind (qiY hal) (Ev.bind (qiY hal) .done))
  · exact Ev.andP fun _=>Ev.andP fun _=>Ev.and (qiY hal) fun _=>Ev.and (qiY hal) fun _=>Ev.bind (qiY hal) .done
def cellB (c:qk):Bool :=
  nameB c.Ar&&(pinsB c.Ap&&((allN (fun j=>arcI c.Ap (gt c.Am j)&&newArc c.Am j) c.Am.length&&decide (c.Am.length≤8))&&(inI c.Bm 0 100000&&(inI c.Bi 0 100000&&kindB c))))
theorem qmD {c:qk} (hc:qhZ c):Ev (fun n=>qgG n c) (cellB c):=by
  simp only [qgG,qkq hc.Ar,qcT,je]
  unfold cellB
  refine Ev.andP fun _=>Ev.and (qmh hc.Ap) fun hp=>?_
  obtain ⟨⟨hm,hm5⟩,_⟩:=qgn hp
  exact Ev.and (qma hc.Ap hc.Am hm) fun _=>Ev.andP fun _=>Ev.andP fun _=>Ev.last (qlK hc hm hm5)
theorem ql0 {c:qk} (hc:qhZ c):Ev (fun n=>qgx n c) (cellB c):=by
  have hal:=hc.Am.len
  have htl:=hc.Az.len
  have e:cellB c=((pinsB c.Ap&&(nameB c.Ar&&(decide (c.Am.length≤8)&&(inI c.Bm 0 100000&&inI c.Bi 0 100000))))&&(allN (fun j=>arcS c.Ap (gt c.Am j)&&newArc c.Am j) c.Am.length&&kindB c)):=by
    unfold cellB
    cases hk:kindB c
    · simp
    · cases hp:pinsB c.Ap
      · simp
      · rw [qeT (fun j _=>by rw [qnq hp (qkG hk)])]
        cases nameB c.Ar<;>cases allN (fun j=>arcS c.Ap (gt c.Am j)&&newArc c.Am j) c.Am.length<;>cases decide (c.Am.length≤8)<;>cases inI c.Bm 0 100000<;>cases inI c.Bi 0 100000<;>rfl
  rw [e]
  unfold qgx
  refine Ev.bind (qmc hc.Ap) ?_
  cases hp:pinsB c.Ap
  · exact .done
  · obtain ⟨⟨hm,hm5⟩,_⟩:=qgn hp
    simp only [cond_true,jF,Bool.not_true,cond_false]
    refine Ev.guardB ?_ (fun _=>?_)
    · simp only [qdB,je,qbb]
      refine Ev.orB (qir hc.Ar) fun _=>?_
      rw [show decide ((c.Am.length:Int) > 8) = !decide (c.Am.length≤8) by rw [jk];simp;omega,qbb]
      exact Ev.orBP fun _=>Ev.orBP fun _=>.done
    · have hL2:∀ j,j<c.Am.length→Ev (fun n=>qca c (j:Int) (gt c.Am j) n 0) (bif newArc c.Am j then .nxt (j:Int) else .ret false):=by
        intro j hj
        refine qdV ?_ (fun i hi X hX=>Ev.succ ?_)
        · exact Ev.succ (by simp only [qca,qn (jf _),cond_false];exact .done)
        · simp only [qca,qm hi,cond_true,qX (show i<c.Am.length by omega),je,wS i]
          unfold sameArc
          cases ((gt c.Am i).Aq==(gt c.Am j).Aq)
          · exact hX
          · cases ((gt c.Am i).Ay==(gt c.Am j).Ay)
            · exact hX
            · cases ((gt c.Am i).To==(gt c.Am j).To)
              · exact hX
              · exact .done
      have hL1:Ev (fun n=>qdG c n 0) (bif allN (fun j=>arcS c.Ap (gt c.Am j)&&newArc c.Am j) c.Am.length then .nxt (c.Am.length:Int) else .ret false):=by
        refine qdV ?_ (fun j hj X hX=>Ev.succ ?_)
        · exact Ev.succ (by simp only [qdG,qn (jf _),cond_false];exact .done)
        · simp only [qdG,qm hj,cond_true,qX hj,je,wS j]
          refine Ev.chk (qmL hc.Ap (qhP hc.Am hj) hm) fun _=>Ev.bind (hL2 j hj) ?_
          cases newArc c.Am j
          · exact .done
          · exact hX
      have hL3:Ev (fun n=>qdF c n 0) (bif (c.Az.all fun x=>inI x 0 1) then .nxt (c.Az.length:Int) else .ret false) :=
        qhW (fun n=>by simp only [qdF,qn (jf _),cond_false]) (fun j hj X hX=>by
          simp only [qdF,qm hj,cond_true,qa8 hj,je,qdB,wS j,qbb]
          exact Ev.okP1 fun _=>hX)
      refine Ev.bind hL1 ?_
      cases hA:allN (fun j=>arcS c.Ap (gt c.Am j)&&newArc c.Am j) c.Am.length
      · exact .done
      · have hk:∀ j,j<c.Am.length→1≤(gt c.Am j).Aq∧(gt c.Am j).Aq≤5:=fun j hj=>by
          have:=qag.1 hA j hj
          rw [jg] at this
          exact qkw this.1
        simp only [cond_true,jF]
        refine Ev.bind (qls hc.Am hk) ?_
        simp only [(qlB hm hm5).2,je,
          show idx (vecC (fun k=>kindN c.Am k c.Am.length) 6) (1:Int)=some ((kindN c.Am 1 c.Am.length:Nat):Int) from qgp (k:=1) (by omega),
          show idx (vecC (fun k=>kindN c.Am k c.Am.length) 6) (2:Int)=some ((kindN c.Am 2 c.Am.length:Nat):Int) from qgp (k:=2) (by omega),
          show idx (vecC (fun k=>kindN c.Am k c.Am.length) 6) (3:Int)=some ((kindN c.Am 3 c.Am.length:Nat):Int) from qgp (k:=3) (by omega),qkv,qlX]
        unfold kindB
        refine Ev.iff (fun _=>?_) (fun _=>Ev.iff (fun _=>?_) (fun _=>Ev.iff (fun _=>?_) (fun _=>.done)))
        · refine Ev.bind hL3 ?_
          cases (c.Az.all fun x=>inI x 0 1)
          · exact Ev.now (by simp)
          · exact (Ev.andP (fun _=>.done)).cast (by rw [Bool.and_true])
        · refine (Ev.andP fun _=>Ev.andP fun _=>Ev.andP fun _=>.done).cast ?_
          cases (((clkN c.Ap c.Ap.length:Nat):Int)==1)<;>cases ((c.Az.length:Int)==0)<;>cases hasB c.Am ((1:Nat):Int)<;>cases hasB c.Am ((2:Nat):Int)<;>cases hasB c.Am ((3:Nat):Int)<;>rfl
        · refine (Ev.andP fun _=>Ev.andP fun _=>Ev.andP fun _=>Ev.andP fun _=>.done).cast ?_
          cases (((clkN c.Ap c.Ap.length:Nat):Int)==1)<;>cases ((c.Az.length:Int)==0)<;>cases hasB c.Am ((1:Nat):Int)<;>cases hasB c.Am ((2:Nat):Int)<;>cases hasB c.Am ((3:Nat):Int)<;>rfl
def libB (l:qi):Bool:=l.Ak.all cellB&&(decide (l.Ak.length≤8)&&namesB (l.Ak.map qk.Ar))
theorem qkP {l:qi} (h:qek l):Ev (fun n=>qfb n l) (libB l):=by
  have hl:=h.Ak.len
  have hL:Ev (fun n=>qbF l n ([]:List ByteArray) 0) (bif allN (fun j=>cellB (gt l.Ak j)) l.Ak.length then .nxt (l.Ak.map qk.Ar,(l.Ak.length:Int)) else .ret false):=by
    refine loopN (Lf:=qbF l) (S:=fun j=>(l.Ak.take j).map qk.Ar) (fun j=>cellB (gt l.Ak j)) (fun n=>?_) (fun j hj hp X hX=>?_)
    · simp only [qbF,qn (jf _),cond_false,List.take_length]
    · simp only [qbF,qm hj,cond_true,qX hj,je,qgZ hj hl,qeB (g:=qk.Ar) hj,wS j]
      exact Ev.chk1 (qmD (qhP h.Ak hj)) hX
  unfold qfb libB
  rw [qfX]
  refine Ev.bind hL ?_
  cases allN (fun j=>cellB (gt l.Ak j)) l.Ak.length
  · exact .done
  · simp only [cond_true,jF,show decide ((l.Ak.length:Int)≤8)=decide (l.Ak.length≤8) from qh0 (k:=8)]
    exact Ev.andP fun _=>Ev.last (qfW (qh2 h.Ak (fun x hx=>hx.Ar)))
end Go.Fw


namespace Go.Fw
open Go
set_option maxRecDepth 100000
theorem qlZ {c:qk} (h:cellB c=true):nameB c.Ar=true:=by
 unfold cellB at h;rw [jg] at h;exact h.1
theorem qjN {c:qk} (h:cellB c=true):pinsB c.Ap=true:=by
 unfold cellB at h;simp only [jg] at h;exact h.2.1
theorem qkm {l:qi} (h:qek l):Ev (fun n=>qe8 n l) (libB l):=by
 have hl:=h.Ak.len
 have hL2:∀ j,j<l.Ak.length→Ev (fun n=>qcf l (j:Int) n 0) (bif allN (neB (l.Ak.map qk.Ar) j) j then .nxt (j:Int) else .ret false):=by
  intro j hj
  refine qdV ?_ (fun i hi X hX=>Ev.succ ?_)
  ·exact Ev.succ (by simp only [qcf,qn (jf _),cond_false];exact .done)
  ·simp only [qcf,qm hi,cond_true,qX (show i<l.Ak.length by omega),qX hj,je,qeH,wS i]
   unfold neB
   rw [qgf (g:=qk.Ar) (show i<l.Ak.length by omega),qgf (g:=qk.Ar) hj]
   exact Ev.chkP1 (fun _=>hX)
 have hL1:Ev (fun n=>qcg l n 0) (bif allN (fun j=>cellB (gt l.Ak j)&&allN (neB (l.Ak.map qk.Ar) j) j) l.Ak.length then .nxt (l.Ak.length:Int) else .ret false):=by
  refine qdV ?_ (fun j hj X hX=>Ev.succ ?_)
  ·exact Ev.succ (by simp only [qcg,qn (jf _),cond_false];exact .done)
  ·simp only [qcg,qm hj,cond_true,qX hj,je,wS j]
   refine Ev.chk (ql0 (qhP h.Ak hj)) fun _=>Ev.bind (hL2 j hj) ?_
   cases allN (neB (l.Ak.map qk.Ar) j) j
   ·exact .done
   ·exact hX
 have e:libB l=(allN (fun j=>cellB (gt l.Ak j)&&allN (neB (l.Ak.map qk.Ar) j) j) l.Ak.length&&decide (l.Ak.length≤8)):=by
  unfold libB namesB
  rw [qfX,jG,Bool.and_comm (decide (l.Ak.length≤8)),←Bool.and_assoc,←qhH]
  congr 1
  refine qeT (fun j hj=>?_)
  rw [qgf (g:=qk.Ar) hj]
  cases hc:cellB (gt l.Ak j)
  ·rfl
  ·rw [qlZ hc];rfl
 rw [e]
 unfold qe8
 refine Ev.bind hL1 ?_
 cases allN (fun j=>cellB (gt l.Ak j)&&allN (neB (l.Ak.map qk.Ar) j) j) l.Ak.length
 ·exact .done
 ·refine Ev.now ?_
  show some (decide ((l.Ak.length:Int)≤((8:Nat):Int)))=some (true&&decide (l.Ak.length≤8))
  rw [qh0,jF]
theorem qgR {c c':Nat→Nat} {m:Nat} {x:Int} (h0:0≤x) (h1:x<m) (hc:c x.toNat<9223372036854775807) (he:∀ k,k<m→c' k=c k+(bif x==(k:Int) then 1 else 0)) :
  idx (vecC c m) x=some (c x.toNat:Int)∧setS (vecC c m) x (W64 ((c x.toNat:Int)+1))=vecC c' m:=by
 have ex:x=(x.toNat:Int):=qhS h0
 have e1:=qgp (c:=c) (m:=m) (k:=x.toNat) (by omega)
 have e2:=qkJ (c:=c) (m:=m) (k:=x.toNat) hc
 rw [←ex] at e1 e2
 refine ⟨e1,e2.trans (qgq (fun k hk=>?_))⟩
 rw [he k hk]
 congr 2
 rw [jk];simp;omega
def netB (d:qc) (x:Int):Bool:=inI x 0 ((d.Ai.length:Int)-1)
theorem qlt {n:Nat} {d:qc} {x:Int} (hl:d.Ai.length≤1048576):qch n d x=some (netB d x):=by
 simp only [qch,qe0,je,qcT,qbX (show d.Ai.length≤9223372036854775807 by omega)];rfl
theorem qkt {n:Nat} {d:qc} {x:Int} (hl:d.Ai.length≤1048576):qan n x 0 (W64 ((d.Ai.length:Int)-1))=some (netB d x):=by
 rw [qdB,qbX (show d.Ai.length≤9223372036854775807 by omega)];rfl
def hasNamesB (d:qc):Bool:=(decide (d.Ab.length≤14)&&(decide (d.Ai.length≤30)&&decide (d.Af.length≤8)))&&(namesB (d.Ab.map ql.Ar)&&(namesB d.Ai&&namesB (d.Af.map qv.Ar)))
theorem qlr {d:qc} (h:qgj d):Ev (fun n=>qdl n d) (hasNamesB d):=by
 have hli:=h.Ab.len
 have hlp:=h.Af.len
 have hL1:Ev (fun n=>qaI d n ([]:List ByteArray) 0) (d.Ab.map ql.Ar,(d.Ab.length:Int)):=by
  refine loopF (Lf:=qaI d) (S:=fun j=>(d.Ab.take j).map ql.Ar) (len:=d.Ab.length) (fun n=>?_) (fun j hj X hX=>?_)
  ·simp only [qaI,qn (jf _),cond_false,List.take_length]
  ·simpa only [qaI,qm hj,cond_true,qX hj,je,qgZ hj hli,qeB (g:=ql.Ar) hj,wS j] using hX
 have hL2:Ev (fun n=>qaG d n ([]:List ByteArray) 0) (d.Af.map qv.Ar,(d.Af.length:Int)):=by
  refine loopF (Lf:=qaG d) (S:=fun j=>(d.Af.take j).map qv.Ar) (len:=d.Af.length) (fun n=>?_) (fun j hj X hX=>?_)
  ·simp only [qaG,qn (jf _),cond_false,List.take_length]
  ·simpa only [qaG,qm hj,cond_true,qX hj,je,qgZ hj hlp,qeB (g:=qv.Ar) hj,wS j] using hX
 unfold qdl hasNamesB
 refine Ev.bind hL1 (Ev.bind hL2 ?_)
 simp only [jG]
 rw [show decide ((d.Ab.length:Int)≤14)=decide (d.Ab.length≤14) from qh0 (k:=14),show decide ((d.Ai.length:Int)≤30)=decide (d.Ai.length≤30) from qh0 (k:=30),show decide ((d.Af.length:Int)≤8)=decide (d.Af.length≤8) from qh0 (k:=8)]
 rw [Bool.and_assoc,Bool.and_assoc]
 exact Ev.andP fun _=>Ev.andP fun _=>Ev.andP fun _=>Ev.and (qfW (qh2 h.Ab (fun x hx=>hx.Ar))) fun _=>Ev.and (qfW h.Ai) fun _=>Ev.last (qfW (qh2 h.Af (fun x hx=>hx.Ar)))
def instB (l:qi) (d:qc) (x:ql):Bool:=inI x.Av 0 ((l.Ak.length:Int)-1)&&(((x.Ai.length:Int)==((gt l.Ak x.Av.toNat).Ap.length:Int))&&x.Ai.all (netB d))
theorem qkf {d:qc} {l:qi} {x:ql} (hn:d.Ai.length≤1048576) (hc:l.Ak.length≤1048576) (hx:x.Ai.length≤1048576):Ev (fun n=>qcD n d l x) (instB l d x):=by
 simp only [qcD,qd7,je,qcT,qbX (show l.Ak.length≤9223372036854775807 by omega)]
 unfold instB
 refine Ev.andP fun hI=>?_
 rw [qbe] at hI
 rw [qd8 hI.1 (by omega)]
 simp only [je]
 refine Ev.andP fun _=>Ev.bind (b:=x.Ai.any fun y=>!netB d y) ?_ (Ev.now (by rw [qjI]))
 unfold qap
 exact Ev.bind (b:=ixL (fun y=>!netB d y) x.Ai) (qdz (fin:=(x.Ai.length:Int)) (Lf:=qA x.Ai d) (pf:=fun n y=>qb8 n y d) (fun y _=>⟨0,fun n _=>by simp only [qb8,qlt hn,je]⟩)
   (fun n=>by simp only [qA,qn (jf _),cond_false])
   (fun n j y hx=>by
    have hj:=(List.getElem?_eq_some_iff.1 hx).1
    simp only [qA,qm hj,cond_true,qe4 hx,je,wS j])
   (fun n=>by unfold qaw;congr 1;funext o;cases o<;>rfl)) (Ev.now (by rw [qgN]))
def portB (d:qc) (p:qv):Bool:=inI p.Bj 1 2&&netB d p.Bl
theorem qov {x:Int}:inI x 1 2=((x==1) || (x==2)):=by
 unfold inI;rw [jk];simp;omega
def lastN (x:ql):Int:=at0 x.Ai (x.Ai.length-1)
theorem qlp {x:ql} (h1:1≤x.Ai.length) (h2:x.Ai.length≤1048576):idx x.Ai (W64 ((x.Ai.length:Int)-1))=some (lastN x):=by
 rw [qbX (by omega),show ((x.Ai.length:Int)-1)=((x.Ai.length-1:Nat):Int) by omega,qbW (by omega)];rfl
theorem qmN {d:qc} {x:ql} (h1:1≤x.Ai.length) (h:x.Ai.all (netB d)=true):0≤lastN x∧lastN x<d.Ai.length:=by
 rw [qfr (d:=0),qag] at h
 have:=h (x.Ai.length-1) (by omega)
 unfold netB at this
 rw [qbe] at this
 unfold lastN at0
 omega
theorem qj6 {l:qi} {d:qc} {x:ql} (hl:libB l=true) (h:instB l d x=true):1≤x.Ai.length∧0≤lastN x∧lastN x<d.Ai.length:=by
 unfold instB at h
 simp only [jg,qbe,beq_iff_eq] at h
 obtain ⟨h1,h2,h3⟩:=h
 unfold libB at hl
 simp only [jg] at hl
 have hc:=hl.1
 rw [qfX,qag] at hc
 have:=qgn (qjN (hc x.Av.toNat (by omega)))
 have h4:1≤x.Ai.length:=by omega
 exact ⟨h4,qmN h4 h3⟩
def drvI (d:qc) (k j:Nat):Nat:=cntP (fun i=>lastN (gt d.Ab i)==(k:Int)) j
def drvP (d:qc) (k j:Nat):Nat:=cntP (fun i=>((gt d.Af i).Bj==1)&&((gt d.Af i).Bl==(k:Int))) j
def drvB (d:qc):Bool:=allN (fun k=>((drvI d k d.Ab.length+drvP d k d.Af.length:Nat):Int)==1) d.Ai.length
def designB (l:qi) (d:qc):Bool:=(libB l&&hasNamesB d)&&(d.Ab.all (instB l d)&&(d.Af.all (portB d)&&drvB d))
theorem qi4 {d:qc} {k j:Nat}:drvI d k (j+1)=drvI d k j+(bif lastN (gt d.Ab j)==(k:Int) then 1 else 0):=rfl
theorem qh5 {d:qc} {k j:Nat}:drvP d k (j+1)=drvP d k j+(bif ((gt d.Af j).Bj==1)&&((gt d.Af j).Bl==(k:Int)) then 1 else 0):=rfl
theorem qlE {l:qi} {d:qc} (h:qek l) (hd:qgj d):Ev (fun n=>qfH n l d) (designB l d):=by
 have hli:=hd.Ab.len
 have hlp:=hd.Af.len
 have hln:=hd.Ai.len
 have hlc:=h.Ak.len
 unfold qfH designB
 refine Ev.guardB (Ev.or (qkP h) fun _=>Ev.neg (qlr hd)) fun hb=>?_
 rw [jg] at hb
 rw [qh4 (m:=d.Ai.length) (by omega)]
 simp only [je]
 have hL1:Ev (fun n=>qb3 l d n (vecC (fun _=>0) d.Ai.length) 0) (bif allN (fun j=>instB l d (gt d.Ab j)) d.Ab.length then .nxt (vecC (fun k=>drvI d k d.Ab.length) d.Ai.length,(d.Ab.length:Int)) else .ret false):=by
  refine loopN (Lf:=qb3 l d) (S:=fun j=>vecC (fun k=>drvI d k j) d.Ai.length) (fun j=>instB l d (gt d.Ab j)) (fun n=>?_) (fun j hj hp X hX=>?_)
  ·simp only [qb3,qn (jf _),cond_false]
  ·simp only [qb3,qm hj,cond_true,qX hj,je,wS j]
   have hxl:=(qhP hd.Ab hj).Ai.len
   refine Ev.chk1 (qkf hln hlc hxl) fun hi=>?_
   obtain ⟨h1,h2,h3⟩:=qj6 hb.1 hi
   have hc:drvI d (lastN (gt d.Ab j)).toNat j≤j:=qdg
   obtain ⟨e1,e2⟩:=qgR (c:=fun k=>drvI d k j) (c':=fun k=>drvI d k (j+1)) h2 h3 (by show drvI _ _ _<_;omega) (fun k _=>qi4)
   simp only [qlp h1 hxl,je,e1,e2]
   exact hX hi
 have hL2:Ev (fun n=>qbm d n (vecC (fun k=>drvI d k d.Ab.length) d.Ai.length) 0) (bif allN (fun j=>portB d (gt d.Af j)) d.Af.length then .nxt (vecC (fun k=>drvI d k d.Ab.length+drvP d k d.Af.length) d.Ai.length,(d.Af.length:Int)) else .ret false):=by
  refine loopN (Lf:=qbm d) (S:=fun j=>vecC (fun k=>drvI d k d.Ab.length+drvP d k j) d.Ai.length) (fun j=>portB d (gt d.Af j)) (fun n=>?_) (fun j hj hp X hX=>?_)
  ·simp only [qbm,qn (jf _),cond_false]
  ·simp only [qbm,qm hj,cond_true,qX hj,je,qlt hln,bne,wS j]
   refine Ev.chkT1 ?_ fun hi=>?_
   ·unfold portB
    rw [qov]
    cases ((gt d.Af j).Bj==1)<;>cases ((gt d.Af j).Bj==2)<;>exact .done
   ·have hX:=hX hi
    unfold portB netB at hi
    simp only [jg,qbe] at hi
    have hc1:drvI d (gt d.Af j).Bl.toNat d.Ab.length≤d.Ab.length:=qdg
    have hc2:drvP d (gt d.Af j).Bl.toNat j≤j:=qdg
    cases h1:((gt d.Af j).Bj==1)
    ·have:vecC (fun k=>drvI d k d.Ab.length+drvP d k (j+1)) d.Ai.length=vecC (fun k=>drvI d k d.Ab.length+drvP d k j) d.Ai.length:=by
      refine qgq (fun k _=>?_)
      rw [qh5,h1];rfl
     rw [this] at hX
     exact hX
    ·obtain ⟨e1,e2⟩:=qgR (c:=fun k=>drvI d k d.Ab.length+drvP d k j) (c':=fun k=>drvI d k d.Ab.length+drvP d k (j+1)) (x:=(gt d.Af j).Bl) (m:=d.Ai.length) hi.2.1 (by omega) (by show drvI _ _ _+drvP _ _ _<_;omega) (fun k _=>by rw [qh5,h1,jF];omega)
     simp only [cond_true,je,e1,e2]
     exact hX
 rw [qfX,qfX]
 refine Ev.bind hL1 ?_
 cases allN (fun j=>instB l d (gt d.Ab j)) d.Ab.length
 ·exact .done
 ·refine Ev.bind hL2 ?_
  cases allN (fun j=>portB d (gt d.Af j)) d.Af.length
  ·exact .done
  ·simp only [cond_true,jF]
   unfold qaZ
   refine Ev.bind (b:=(vecC (fun k=>drvI d k d.Ab.length+drvP d k d.Af.length) d.Ai.length).any fun x=>!(x==1)) (Ev.bind (b:=ixL (fun x=>!(x==1)) (vecC (fun k=>drvI d k d.Ab.length+drvP d k d.Af.length) d.Ai.length)) (qdz (fin:=(((vecC (fun k=>drvI d k d.Ab.length+drvP d k d.Af.length) d.Ai.length).length:Nat):Int)) (Lf:=qU (vecC (fun k=>drvI d k d.Ab.length+drvP d k d.Af.length) d.Ai.length)) (pf:=fun n y=>qfY n y) (fun y _=>.done)
    (fun n=>by simp only [qU,qn (jf _),cond_false])
    (fun n j y hx=>by
     have hj:=(List.getElem?_eq_some_iff.1 hx).1
     have:j<d.Ai.length:=by rw [qhR] at hj;exact hj
     simp only [qU,qm hj,cond_true,qe4 hx,je,wS j])
    (fun n=>by unfold qbd;congr 1;funext o;cases o<;>rfl)) (Ev.now (by rw [qgN]))) (Ev.now ?_)
   rw [qjI,qfr (d:=0),qhR]
   unfold drvB
   congr 1
   exact qeT (fun k hk=>by
    have:=qlx (c:=fun k=>drvI d k d.Ab.length+drvP d k d.Af.length) hk
    unfold at0 at this
    rw [this])
theorem qlj {l:qi} {d:qc} (h:qek l) (hd:qgj d):Ev (fun n=>qfJ n l d) (d.Ab.all (instB l d)&&d.Af.all (portB d)):=by
 have hli:=hd.Ab.len
 have hlp:=hd.Af.len
 have hln:=hd.Ai.len
 have hlc:=h.Ak.len
 have hL2:∀ x:ql,x.Ai.length≤1048576→Ev (fun n=>qcL d x n 0) (bif x.Ai.all (netB d) then .nxt (x.Ai.length:Int) else .ret false):=fun x hx =>
  qhW (fun n=>by simp only [qcL,qn (jf _),cond_false]) (fun j hj X hX=>by
   simp only [qcL,qm hj,cond_true,qa8 hj,je,qkt hln,wS j,qbb]
   exact Ev.okP1 fun _=>hX)
 have hL1:Ev (fun n=>qcR l d n 0) (bif allN (fun j=>instB l d (gt d.Ab j)) d.Ab.length then .nxt (d.Ab.length:Int) else .ret false):=by
  refine qdV ?_ (fun j hj X hX=>Ev.succ ?_)
  ·exact Ev.succ (by simp only [qcR,qn (jf _),cond_false];exact .done)
  ·simp only [qcR,qm hj,cond_true,qX hj,je,qdB,qbX (show l.Ak.length≤9223372036854775807 by omega),wS j,bne]
   have hxl:=(qhP hd.Ab hj).Ai.len
   unfold instB
   rw [←Bool.and_assoc]
   refine Ev.chkT ?_ fun _=>Ev.bind (hL2 _ hxl) ?_
   ·simp only [qbb]
    refine Ev.orBP fun hI=>?_
    rw [qbe] at hI
    rw [qd8 hI.1 (by omega)]
    exact .done
   ·cases (gt d.Ab j).Ai.all (netB d)
    ·exact .done
    ·exact hX
 have hL3:Ev (fun n=>qcQ d n 0) (bif allN (fun j=>portB d (gt d.Af j)) d.Af.length then .nxt (d.Af.length:Int) else .ret false):=by
  refine qdV ?_ (fun j hj X hX=>Ev.succ ?_)
  ·exact Ev.succ (by simp only [qcQ,qn (jf _),cond_false];exact .done)
  ·simp only [qcQ,qm hj,cond_true,qX hj,je,qkt hln,wS j]
   simp only [qdB,je,qbb]
   unfold portB
   exact Ev.okP fun _=>Ev.okP1 fun _=>hX
 unfold qfJ
 rw [qfX,qfX]
 refine Ev.bind hL1 ?_
 cases allN (fun j=>instB l d (gt d.Ab j)) d.Ab.length
 ·exact .done
 ·refine Ev.bind hL3 ?_
  cases allN (fun j=>portB d (gt d.Af j)) d.Af.length<;>exact .done
theorem qiv {l:qi} {d:qc} (h:qek l) (hd:qgj d):Ev (fun n=>qeI n l d) (designB l d):=by
 have hli:=hd.Ab.len
 have hlp:=hd.Af.len
 have hln:=hd.Ai.len
 have hlc:=h.Ak.len
 have e:designB l d=((libB l&&(decide (d.Ab.length≤14)&&(decide (d.Ai.length≤30)&&(decide (d.Af.length≤8)&&(d.Ab.all (instB l d)&&d.Af.all (portB d))))))&&((namesB (d.Ab.map ql.Ar)&&(namesB (d.Af.map qv.Ar)&&namesB d.Ai))&&drvB d)):=by
  unfold designB hasNamesB
  generalize libB l=a1
  generalize decide (d.Ab.length≤14)=a2
  generalize decide (d.Ai.length≤30)=a3
  generalize decide (d.Af.length≤8)=a4
  generalize d.Ab.all (instB l d)=a5
  generalize d.Af.all (portB d)=a6
  generalize namesB (d.Ab.map ql.Ar)=a7
  generalize namesB (d.Af.map qv.Ar)=a8
  generalize namesB d.Ai=a9
  generalize drvB d=a10
  rw [jk]
  simp only [jg]
  constructor
  ·rintro ⟨⟨h1,⟨h2,h3,h4⟩,h7,h9,h8⟩,h5,h6,h10⟩
   exact ⟨⟨h1,h2,h3,h4,h5,h6⟩,⟨h7,h8,h9⟩,h10⟩
  ·rintro ⟨⟨h1,h2,h3,h4,h5,h6⟩,⟨h7,h8,h9⟩,h10⟩
   exact ⟨⟨h1,⟨h2,h3,h4⟩,h7,h9,h8⟩,h5,h6,h10⟩
 rw [e]
 unfold qeI
 refine Ev.guardB ?_ fun hb=>?_
 ·refine Ev.or (qkm h) fun _=>?_
  rw [show decide ((d.Ab.length:Int) > 14) = !decide (d.Ab.length≤14) by rw [jk];simp;omega,show decide ((d.Ai.length:Int) > 30) = !decide (d.Ai.length≤30) by rw [jk];simp;omega,show decide ((d.Af.length:Int) > 8) = !decide (d.Af.length≤8) by rw [jk];simp;omega]
  simp only [qbb]
  exact Ev.orBP fun _=>Ev.orBP fun _=>Ev.orBP fun _=>Ev.neg (qlj h hd)
 ·simp only [jg] at hb
  obtain ⟨hlib,_,_,_,hI,hP⟩:=hb
  rw [qfX,qag] at hI hP
  have hL1:Ev (fun n=>qb0 d n ([]:List ByteArray) 0) (d.Ab.map ql.Ar,(d.Ab.length:Int)):=by
   refine loopF (Lf:=qb0 d) (S:=fun j=>(d.Ab.take j).map ql.Ar) (len:=d.Ab.length) (fun n=>?_) (fun j hj X hX=>?_)
   ·simp only [qb0,qn (jf _),cond_false,List.take_length]
   ·simpa only [qb0,qm hj,cond_true,qX hj,je,qgZ hj hli,qeB (g:=ql.Ar) hj,wS j] using hX
  have hL2:Ev (fun n=>qb4 d n ([]:List ByteArray) 0) (d.Af.map qv.Ar,(d.Af.length:Int)):=by
   refine loopF (Lf:=qb4 d) (S:=fun j=>(d.Af.take j).map qv.Ar) (len:=d.Af.length) (fun n=>?_) (fun j hj X hX=>?_)
   ·simp only [qb4,qn (jf _),cond_false,List.take_length]
   ·simpa only [qb4,qm hj,cond_true,qX hj,je,qgZ hj hlp,qeB (g:=qv.Ar) hj,wS j] using hX
  have hL3:Ev (fun n=>qbZ d n (vecC (fun _=>0) d.Ai.length) 0) (vecC (fun k=>drvI d k d.Ab.length) d.Ai.length,(d.Ab.length:Int)):=by
   refine loopF (Lf:=qbZ d) (S:=fun j=>vecC (fun k=>drvI d k j) d.Ai.length) (len:=d.Ab.length) (fun n=>?_) (fun j hj X hX=>?_)
   ·simp only [qbZ,qn (jf _),cond_false]
   ·have hxl:=(qhP hd.Ab hj).Ai.len
    obtain ⟨h1,h2,h3⟩:=qj6 hlib (hI j hj)
    have hc:drvI d (lastN (gt d.Ab j)).toNat j≤j:=qdg
    obtain ⟨e1,e2⟩:=qgR (c:=fun k=>drvI d k j) (c':=fun k=>drvI d k (j+1)) h2 h3 (by show drvI _ _ _<_;omega) (fun k _=>qi4)
    simpa only [qbZ,qm hj,cond_true,qX hj,je,wS j,qlp h1 hxl,e1,e2] using hX
  have hL4:Ev (fun n=>qbl d n (vecC (fun k=>drvI d k d.Ab.length) d.Ai.length) 0) (vecC (fun k=>drvI d k d.Ab.length+drvP d k d.Af.length) d.Ai.length,(d.Af.length:Int)):=by
   refine loopF (Lf:=qbl d) (S:=fun j=>vecC (fun k=>drvI d k d.Ab.length+drvP d k j) d.Ai.length) (len:=d.Af.length) (fun n=>?_) (fun j hj X hX=>?_)
   ·simp only [qbl,qn (jf _),cond_false]
   ·have hi:=hP j hj
    unfold portB netB at hi
    simp only [jg,qbe] at hi
    have hc1:drvI d (gt d.Af j).Bl.toNat d.Ab.length≤d.Ab.length:=qdg
    have hc2:drvP d (gt d.Af j).Bl.toNat j≤j:=qdg
    simp only [qbl,qm hj,cond_true,qX hj,je,wS j]
    cases h1:((gt d.Af j).Bj==1)
    ·have:vecC (fun k=>drvI d k d.Ab.length+drvP d k (j+1)) d.Ai.length=vecC (fun k=>drvI d k d.Ab.length+drvP d k j) d.Ai.length:=by
      refine qgq (fun k _=>?_)
      rw [qh5,h1];rfl
     rw [this] at hX
     exact hX
    ·obtain ⟨e1,e2⟩:=qgR (c:=fun k=>drvI d k d.Ab.length+drvP d k j) (c':=fun k=>drvI d k d.Ab.length+drvP d k (j+1)) (x:=(gt d.Af j).Bl) (m:=d.Ai.length) hi.2.1 (by omega) (by show drvI _ _ _+drvP _ _ _<_;omega) (fun k _=>by rw [qh5,h1,jF];omega)
     simp only [cond_true,je,e1,e2]
     exact hX
  have hL5:Ev (fun n=>qcH (vecC (fun _=>0) d.Ai.length) (vecC (fun k=>drvI d k d.Ab.length+drvP d k d.Af.length) d.Ai.length) n 0) (bif drvB d then .nxt (d.Ai.length:Int) else .ret false):=by
   refine qdV ?_ (fun j hj X hX=>Ev.succ ?_)
   ·exact Ev.succ (by simp only [qcH,qhR,qn (jf _),cond_false];exact .done)
   ·simp only [qcH,qhR,qm hj,cond_true,qgp hj,je,bne,qbb,wS j]
    exact Ev.okP1 fun _=>hX
  refine Ev.bind hL1 (Ev.bind hL2 ?_)
  refine Ev.guardB (Ev.or (qhV (qh2 hd.Ab (fun x hx=>hx.Ar))) fun _=>Ev.or (qhV (qh2 hd.Af (fun x hx=>hx.Ar))) fun _=>Ev.neg (qhV hd.Ai)) fun _=>?_
  rw [qh4 (m:=d.Ai.length) (by omega)]
  simp only [je]
  refine Ev.bind hL3 (Ev.bind hL4 (Ev.bind hL5 ?_))
  cases drvB d<;>exact .done
end Go.Fw


namespace Go.Fw
open Go
set_option maxRecDepth 100000
theorem qnF {m k:Nat}:decide ((m:Int)<(k:Int)) = !decide (k≤m):=by rw [jk];simp
theorem qnR {m k:Nat}:decide ((m:Int) > (k:Int)) = !decide (m≤k):=by rw [jk];simp
def treeB (w:qK) (j:Nat):Bool:=bif decide (j=0) then (at0 w.Aj j==-1)&&(at0 w.Bc j==0) else inI (at0 w.Aj j) 0 ((j:Int)-1)
def wireB (w:qK) (s:Int):Bool :=
 lenB w.Aj 1 8&&(((w.Bc.length:Int)==(w.Aj.length:Int))&&(((w.Bb.length:Int)==(w.Aj.length:Int))&&(allN (treeB w) w.Aj.length &&
  ((w.Bc.all fun x=>inI x 0 1000)&&((w.Bb.all fun x=>inI x 0 500)&&(((w.As.length:Int)==s)&&(w.As.all fun x=>inI x 0 ((w.Aj.length:Int)-1))))))))
theorem qmT {w:qK} (hl:w.Aj.length≤1048576) (hr:((w.Bc.length:Int)==(w.Aj.length:Int))=true):Ev (fun n=>qeA n w) (allN (treeB w) w.Aj.length):=by
 rw [beq_iff_eq] at hr
 have hL:Ev (fun n=>qaC w n 0) (bif allN (treeB w) w.Aj.length then .nxt (w.Aj.length:Int) else .ret false):=by
  refine qdV ?_ (fun j hj X hX=>Ev.succ ?_)
  ·exact Ev.succ (by simp only [qaC,qn (jf _),cond_false];exact .done)
  ·simp only [qaC,qm hj,cond_true,qbW hj,je,qcT,wS j,bne,qbb]
   unfold treeB
   by_cases h0:j=0
   ·subst h0
    rw [show idx w.Bc (0:Int)=some (at0 w.Bc 0) from qbW (j:=0) (by omega)]
    simp only [je]
    refine Ev.tt (by simp) (Ev.okP fun _=>Ev.okP1 fun _=>Ev.ff (by simp) hX)
   ·have e1:decide (j=0)=false:=by simp;omega
    have e2:((j:Int)==0)=false:=by simp;omega
    have e3:decide ((j:Int) > 0)=true:=by simp;omega
    rw [e1,e2,e3,qbX (show j≤9223372036854775807 by omega)]
    simp only [cond_false,cond_true]
    exact Ev.okP1 fun _=>hX
 unfold qeA
 refine Ev.bind hL ?_
 cases allN (treeB w) w.Aj.length<;>exact .done
theorem qmH {w:qK} {s:Int} (h:qiP w):Ev (fun n=>qgz n w s) (wireB w s):=by
 have hl:=h.Aj.len
 simp only [qgz,qao,je,qcT,qbX (show w.Aj.length≤9223372036854775807 by omega)]
 unfold wireB
 rw [show inI (w.Aj.length:Int) 1 8=lenB w.Aj 1 8 from qjB (lo:=1) (hi:=8)]
 exact Ev.andP fun _=>Ev.andP fun hr=>Ev.andP fun _=>Ev.and (qmT hl hr) fun _=>Ev.and (qd1 h.Bc.len) fun _=>Ev.and (qd1 h.Bb.len) fun _=>Ev.andP fun _=>Ev.last (qd1 h.As.len)
theorem qmb {w:qK} {s:Int} (h:qiP w):Ev (fun n=>qgD n w s) (wireB w s):=by
 have hl:=h.Aj.len
 have hsl:=h.As.len
 have e:wireB w s=((decide (1≤w.Aj.length)&&(decide (w.Aj.length≤8)&&(((w.Bc.length:Int)==(w.Aj.length:Int))&&(((w.Bb.length:Int)==(w.Aj.length:Int))&&((w.As.length:Int)==s)))))&&(allN (fun j=>(inI (at0 w.Bb j) 0 500&&inI (at0 w.Bc j) 0 1000)&&treeB w j) w.Aj.length&&(w.As.all fun x=>inI x 0 ((w.Aj.length:Int)-1)))):=by
  unfold wireB lenB
  cases h1:((w.Bc.length:Int)==(w.Aj.length:Int))
  ·simp
  ·cases h2:((w.Bb.length:Int)==(w.Aj.length:Int))
   ·simp
   ·rw [beq_iff_eq] at h1 h2
    rw [qhH,qhH]
    rw [qfr (p:=fun x=>inI x 0 1000) (d:=0),qfr (p:=fun x=>inI x 0 500) (d:=0),show w.Bc.length=w.Aj.length by omega,show w.Bb.length=w.Aj.length by omega]
    show _=(_&&((allN (fun j=>inI (w.Bb.getD j 0) 0 500) _&&allN (fun j=>inI (w.Bc.getD j 0) 0 1000) _&&_)&&_))
    generalize allN (fun j=>inI (w.Bb.getD j 0) 0 500) w.Aj.length=a1
    generalize allN (fun j=>inI (w.Bc.getD j 0) 0 1000) w.Aj.length=a2
    generalize allN (fun j=>treeB w j) w.Aj.length=a3
    generalize ((w.As.length:Int)==s)=a4
    generalize decide (1≤w.Aj.length)=a5
    generalize decide (w.Aj.length≤8)=a6
    generalize (w.As.all fun x=>inI x 0 ((w.Aj.length:Int)-1))=a7
    cases a1<;>cases a2<;>cases a3<;>cases a4<;>cases a5<;>cases a6<;>rfl
 rw [e]
 unfold qgD
 refine Ev.guardB ?_ fun hb=>?_
 ·rw [show decide ((w.Aj.length:Int)<1) = !decide (1≤w.Aj.length) from qnF (k:=1),show decide ((w.Aj.length:Int) > 8) = !decide (w.Aj.length≤8) from qnR (k:=8)]
  simp only [bne,qbb]
  exact Ev.orBP fun _=>Ev.orBP fun _=>Ev.orBP fun _=>Ev.orBP fun _=>.done
 ·simp only [jg,beq_iff_eq] at hb
  have hL1:Ev (fun n=>qby w n 0) (bif allN (fun j=>(inI (at0 w.Bb j) 0 500&&inI (at0 w.Bc j) 0 1000)&&treeB w j) w.Aj.length then .nxt (w.Aj.length:Int) else .ret false):=by
   refine qdV ?_ (fun j hj X hX=>Ev.succ ?_)
   ·exact Ev.succ (by simp only [qby,qn (jf _),cond_false];exact .done)
   ·simp only [qby,qm hj,cond_true,qbW hj,qbW (show j<w.Bb.length by omega),qbW (show j<w.Bc.length by omega),je,qdB,wS j,bne,qbb]
    refine Ev.chkT (Ev.orBP fun _=>.done) fun _=>?_
    unfold treeB
    by_cases h0:j=0
    ·subst h0
     refine Ev.tt (by simp) (Ev.okP fun _=>Ev.okP1 fun _=>Ev.ff (by simp) hX)
    ·have e1:decide (j=0)=false:=by simp;omega
     have e2:((j:Int)==0)=false:=by simp;omega
     have e3:decide ((j:Int) > 0)=true:=by simp;omega
     rw [e1,e2,e3,qbX (show j≤9223372036854775807 by omega)]
     simp only [cond_false,cond_true]
     exact Ev.okP1 fun _=>hX
  have hL2:Ev (fun n=>qdH w n 0) (bif (w.As.all fun x=>inI x 0 ((w.Aj.length:Int)-1)) then .nxt (w.As.length:Int) else .ret false) :=
   qhW (fun n=>by simp only [qdH,qn (jf _),cond_false]) (fun j hj X hX=>by
    simp only [qdH,qm hj,cond_true,qa8 hj,je,qdB,qbX (show w.Aj.length≤9223372036854775807 by omega),wS j,qbb]
    exact Ev.okP1 fun _=>hX)
  refine Ev.bind hL1 ?_
  cases allN (fun j=>(inI (at0 w.Bb j) 0 500&&inI (at0 w.Bc j) 0 1000)&&treeB w j) w.Aj.length
  ·exact .done
  ·refine Ev.bind hL2 ?_
   cases (w.As.all fun x=>inI x 0 ((w.Aj.length:Int)-1))<;>exact .done
instance:Inhabited Tplace:=⟨⟨0,0,0,false⟩⟩
instance:Inhabited Tl05Place:=⟨⟨0,0,0,false⟩⟩
def toSp (p:Tplace):Tl05Place:=⟨p.instance_,p.pin,p.net,p.drives⟩
def plX (i:Nat) (x:ql) (j:Nat):List Tplace:=(List.range j).map fun (k:Nat)=>⟨(i:Int),(k:Int),at0 x.Ai k,decide (k+1=x.Ai.length)⟩
def plI (d:qc) (j:Nat):List Tplace:=(List.range j).flatMap fun (i:Nat)=>plX i (gt d.Ab i) (gt d.Ab i).Ai.length
def plP (d:qc) (j:Nat):List Tplace:=(List.range j).map fun (i:Nat)=>⟨-1,(i:Int),(gt d.Af i).Bl,(gt d.Af i).Bj==1⟩
def places (d:qc):List Tplace:=plI d d.Ab.length++plP d d.Af.length
theorem qlg {i:Nat} {x:ql} {j:Nat}:plX i x (j+1)=plX i x j++[⟨(i:Int),(j:Int),at0 x.Ai j,decide (j+1=x.Ai.length)⟩]:=by
 unfold plX;rw [List.range_succ,List.map_append];rfl
theorem qhB {d:qc} {j:Nat}:plI d (j+1)=plI d j++plX j (gt d.Ab j) (gt d.Ab j).Ai.length:=by
 unfold plI;rw [List.range_succ,List.flatMap_append];simp
theorem qld {d:qc} {j:Nat}:plP d (j+1)=plP d j++[⟨-1,(j:Int),(gt d.Af j).Bl,(gt d.Af j).Bj==1⟩]:=by
 unfold plP;rw [List.range_succ,List.map_append];rfl
theorem qjE {i:Nat} {x:ql} {j:Nat}:(plX i x j).length=j:=by simp [plX]
theorem qjK {d:qc} {j:Nat}:(plP d j).length=j:=by simp [plP]
structure smallD (d:qc):Prop where
 ni:d.Ab.length≤14
 nn:d.Ai.length≤30
 np:d.Af.length≤8
 nx:∀ i,i<d.Ab.length→2≤(gt d.Ab i).Ai.length∧(gt d.Ab i).Ai.length≤5
theorem qab {l:qi} {d:qc} (h:designB l d=true):smallD d:=by
 unfold designB hasNamesB libB at h
 simp only [jg,decide_eq_true_eq] at h
 obtain ⟨⟨⟨hc,_⟩,⟨h1,h2,h3⟩,_⟩,hI,_⟩:=h
 refine ⟨h1,h2,h3,fun i hi=>?_⟩
 rw [qfX,qag] at hI hc
 have:=hI i hi
 unfold instB at this
 simp only [jg,qbe,beq_iff_eq] at this
 have h5:=qgn (qjN (hc (gt d.Ab i).Av.toNat (by omega)))
 omega
theorem qiB {d:qc} (h:smallD d) {j:Nat} (hj:j≤d.Ab.length):(plI d j).length≤5*j:=by
 induction j with
 | zero=>exact jf _
 | succ j ih =>
  rw [qhB,ji,qjE]
  have:=ih (by omega)
  have:=h.nx j (by omega)
  omega
theorem qaF {d:qc} (h:smallD d):(places d).length≤78:=by
 unfold places
 rw [ji,qjK]
 have:=qiB h (jf _)
 have:=h.ni
 have:=h.np
 omega
theorem qhY {d:qc} (h:smallD d):Ev (fun n=>qbj n d) (places d):=by
 have h1:=h.ni
 have h2:=h.np
 have hL2:∀ i,i<d.Ab.length→∀ pre:List Tplace,pre.length≤100→Ev (fun n=>qaX (i:Int) (gt d.Ab i) n pre 0) (pre++plX i (gt d.Ab i) (gt d.Ab i).Ai.length,((gt d.Ab i).Ai.length:Int)):=by
  intro i hi pre hp
  have h5:=h.nx i hi
  have:=loopF (Lf:=qaX (i:Int) (gt d.Ab i)) (S:=fun j=>pre++plX i (gt d.Ab i) j) (len:=(gt d.Ab i).Ai.length) (fin:=(pre++plX i (gt d.Ab i) (gt d.Ab i).Ai.length,((gt d.Ab i).Ai.length:Int))) (fun n=>by
    simp only [qaX,qn (jf _),cond_false])
   (fun j hj X hX=>by
    have hc:(pre++plX i (gt d.Ab i) j).length+[(⟨(i:Int),(j:Int),at0 (gt d.Ab i).Ai j,decide (j+1=(gt d.Ab i).Ai.length)⟩:Tplace)].length≤2147483648:=by
     rw [ji,qjE];simp;omega
    simp only [qaX,qm hj,cond_true,qbW hj,je,lastE hj (show (gt d.Ab i).Ai.length≤1048576 by omega),qb6 hc,jO,←qlg,wS j]
    exact hX)
  simpa [plX] using this
 have hL1:Ev (fun n=>qaY d n ([]:List Tplace) 0) (plI d d.Ab.length,(d.Ab.length:Int)):=by
  refine loopF (Lf:=qaY d) (S:=fun j=>plI d j) (len:=d.Ab.length) (fun n=>?_) (fun j hj X hX=>?_)
  ·simp only [qaY,qn (jf _),cond_false]
  ·simp only [qaY,qm hj,cond_true,qX hj,je,wS j]
   refine Ev.bind (hL2 j hj _ (by have:=qiB h (Nat.le_of_lt hj);omega)) ?_
   rw [←qhB]
   exact hX
 have hL3:Ev (fun n=>qaW d n (plI d d.Ab.length) 0) (places d,(d.Af.length:Int)):=by
  have:=loopF (Lf:=qaW d) (S:=fun j=>plI d d.Ab.length++plP d j) (len:=d.Af.length) (fin:=(places d,(d.Af.length:Int))) (fun n=>by
    simp only [qaW,qn (jf _),cond_false];rfl)
   (fun j hj X hX=>by
    have hc:(plI d d.Ab.length++plP d j).length+[(⟨-1,(j:Int),(gt d.Af j).Bl,(gt d.Af j).Bj==1⟩:Tplace)].length≤2147483648:=by
     rw [ji,qjK];have:=qiB h (jf _);simp;omega
    simp only [qaW,qm hj,cond_true,qX hj,je,qb6 hc,jO,←qld,wS j]
    exact hX)
  simpa [plP] using this
 unfold qbj
 exact Ev.bind hL1 (Ev.bind hL3 .done)
theorem qfz {d:qc} (h:smallD d):Ev (fun n=>qbD n d) ((places d).map toSp):=by
 have h1:=h.ni
 have h2:=h.np
 have hL2:∀ i,i<d.Ab.length→∀ pre:List Tplace,pre.length≤100→Ev (fun n=>qbw (i:Int) (gt d.Ab i) n (pre.map toSp) 0) ((pre++plX i (gt d.Ab i) (gt d.Ab i).Ai.length).map toSp,((gt d.Ab i).Ai.length:Int)):=by
  intro i hi pre hp
  have h5:=h.nx i hi
  have:=loopF (Lf:=qbw (i:Int) (gt d.Ab i)) (S:=fun j=>(pre++plX i (gt d.Ab i) j).map toSp) (len:=(gt d.Ab i).Ai.length) (fin:=((pre++plX i (gt d.Ab i) (gt d.Ab i).Ai.length).map toSp,((gt d.Ab i).Ai.length:Int))) (fun n=>by
    simp only [qbw,qn (jf _),cond_false])
   (fun j hj X hX=>by
    have hc:((pre++plX i (gt d.Ab i) j).map toSp).length+[(⟨(i:Int),(j:Int),at0 (gt d.Ab i).Ai j,decide (j+1=(gt d.Ab i).Ai.length)⟩:Tl05Place)].length≤2147483648:=by
     rw [jG,ji,qjE];simp;omega
    simp only [qbw,qm hj,cond_true,qbW hj,je,lastE hj (show (gt d.Ab i).Ai.length≤1048576 by omega),qb6 hc,wS j]
    rw [qlg,←jO,List.map_append] at hX
    exact hX)
  simpa [plX] using this
 have hL1:Ev (fun n=>qbB d n ([]:List Tl05Place) 0) ((plI d d.Ab.length).map toSp,(d.Ab.length:Int)):=by
  refine loopF (Lf:=qbB d) (S:=fun j=>(plI d j).map toSp) (len:=d.Ab.length) (fun n=>?_) (fun j hj X hX=>?_)
  ·simp only [qbB,qn (jf _),cond_false]
  ·simp only [qbB,qm hj,cond_true,qX hj,je,wS j]
   refine Ev.bind (hL2 j hj _ (by have:=qiB h (Nat.le_of_lt hj);omega)) ?_
   rw [←qhB]
   exact hX
 have hL3:Ev (fun n=>qbG d n ((plI d d.Ab.length).map toSp) 0) ((places d).map toSp,(d.Af.length:Int)):=by
  have:=loopF (Lf:=qbG d) (S:=fun j=>(plI d d.Ab.length++plP d j).map toSp) (len:=d.Af.length) (fin:=((places d).map toSp,(d.Af.length:Int))) (fun n=>by
    simp only [qbG,qn (jf _),cond_false];rfl)
   (fun j hj X hX=>by
    have hc:((plI d d.Ab.length++plP d j).map toSp).length+[(⟨-1,(j:Int),(gt d.Af j).Bl,(gt d.Af j).Bj==1⟩:Tl05Place)].length≤2147483648:=by
     rw [jG,ji,qjK];have:=qiB h (jf _);simp;omega
    simp only [qbG,qm hj,cond_true,qX hj,je,qb6 hc,wS j]
    rw [qld,←jO,List.map_append] at hX
    exact hX)
  simpa [plP] using this
 unfold qbD
 exact Ev.bind hL1 (Ev.bind hL3 .done)
def snkQ (d:qc) (k:Int) (i:Nat):Bool:=((gt (places d) i).net==k)&&!(gt (places d) i).drives
def sinksL (d:qc) (k:Int) (j:Nat):List Int:=((List.range j).filter (snkQ d k)).map fun (i:Nat)=>(i:Int)
def snkN (d:qc) (k:Int):Nat:=cntP (snkQ d k) (places d).length
theorem qgA {d:qc} {k:Int} {j:Nat}:sinksL d k (j+1)=sinksL d k j++(bif snkQ d k j then [(j:Int)] else []):=by
 unfold sinksL
 rw [List.range_succ,List.filter_append,List.map_append]
 congr 1
 cases h:snkQ d k j<;>simp [h]
theorem qdY {d:qc} {k:Int} {j:Nat}:(sinksL d k j).length=cntP (snkQ d k) j:=by
 induction j with
 | zero=>rfl
 | succ j ih =>
  rw [qgA,ji,ih]
  show _=cntP (snkQ d k) j+_
  congr 1
  cases snkQ d k j<;>rfl
theorem qja {α β:Type} [Inhabited α] [Inhabited β] {xs:List α} {g:α→β} {j:Nat} (h:j<xs.length):gt (xs.map g) j=g (gt xs j):=by
 rw [qgl (by simpa using h),qgl h];simp
theorem qhF {d:qc} {k:Int} (h:smallD d):Ev (fun n=>qd5 n d k) (sinksL d k (places d).length):=by
 have hl:=qaF h
 have hL:Ev (fun n=>qbq k ((places d).map toSp) n ([]:List Int) 0) (sinksL d k (places d).length,((places d).length:Int)):=by
  refine loopF (Lf:=qbq k ((places d).map toSp)) (S:=fun j=>sinksL d k j) (len:=(places d).length) (fun n=>?_) (fun j hj X hX=>?_)
  ·simp only [qbq,jG,qn (jf _),cond_false]
  ·have hj':j<((places d).map toSp).length:=by simpa using hj
   have hc:(sinksL d k j).length+[(j:Int)].length≤2147483648:=by
    rw [qdY]
    have:cntP (snkQ d k) j≤j:=qdg
    simp;omega
   simp only [qbq,qm hj',cond_true,qX hj',qja hj,je,wS j]
   rw [show ∀ p:Tplace,(toSp p).net=p.net from fun _=>rfl,show ∀ p:Tplace,(toSp p).drives=p.drives from fun _=>rfl]
   refine Ev.bind (b:=snkQ d k j) (Ev.andP fun _=>.done) ?_
   rw [qgA] at hX
   cases hq:snkQ d k j
   ·rw [hq] at hX
    simp only [cond_false,jM] at hX ⊢
    exact hX
   ·rw [hq] at hX
    simp only [cond_true,qb6 hc,je] at hX ⊢
    exact hX
 unfold qd5
 exact Ev.bind (qfz h) (Ev.bind hL .done)
theorem qhb {l:qi} {d:qc} (h:designB l d=true) {i:Nat} (hi:i<(places d).length):0≤(gt (places d) i).net∧(gt (places d) i).net<d.Ai.length:=by
 unfold designB at h
 simp only [jg] at h
 obtain ⟨_,hI,hP,_⟩:=h
 rw [qfX,qag] at hI hP
 have hm:gt (places d) i ∈ places d:=by rw [qgl hi];exact jq hi
 generalize gt (places d) i=p at hm
 unfold places at hm
 rcases List.mem_append.1 hm with hm|hm
 ·unfold plI at hm
  obtain ⟨i,hi,hm⟩:=List.mem_flatMap.1 hm
  unfold plX at hm
  obtain ⟨k,hk,rfl⟩:=List.mem_map.1 hm
  have:=hI i (List.mem_range.1 hi)
  unfold instB at this
  simp only [jg] at this
  have h3:=this.2.2
  rw [qfr (d:=0),qag] at h3
  have h4:=h3 k (List.mem_range.1 hk)
  unfold netB at h4
  rw [qbe] at h4
  show 0≤at0 _ _∧at0 _ _<_
  unfold at0
  omega
 ·unfold plP at hm
  obtain ⟨i,hi,rfl⟩:=List.mem_map.1 hm
  have:=hP i (List.mem_range.1 hi)
  unfold portB netB at this
  simp only [jg,qbe] at this
  show 0≤(gt d.Af i).Bl∧(gt d.Af i).Bl<_
  omega
def blockB (b:qd):Bool:=(designB b.Ac b.Aa&&((b.Ah.length:Int)==(b.Aa.Ai.length:Int)))&&allN (fun j=>wireB (gt b.Ah j) (snkN b.Aa (j:Int))) b.Ah.length
theorem qhj {b:qd} (h:qcW b):Ev (fun n=>qdS n b) (blockB b):=by
 have hwl:=h.Ah.len
 unfold qdS blockB
 refine Ev.guardB (Ev.or (qlE h.Ac h.Aa) fun _=>.done) fun hb=>?_
 rw [jg,beq_iff_eq] at hb
 obtain ⟨hd,hw⟩:=hb
 have hs:=qab hd
 have hl:=qaF hs
 have hn:=hs.nn
 rw [qh4 (m:=b.Ah.length) (by omega)]
 simp only [je]
 have hL1:Ev (fun n=>qbM (places b.Aa) n (vecC (fun _=>0) b.Ah.length) 0) (vecC (fun k=>snkN b.Aa (k:Int)) b.Ah.length,((places b.Aa).length:Int)):=by
  refine loopF (Lf:=qbM (places b.Aa)) (S:=fun j=>vecC (fun k=>cntP (snkQ b.Aa (k:Int)) j) b.Ah.length) (len:=(places b.Aa).length) (fun n=>?_) (fun j hj X hX=>?_)
  ·simp only [qbM,qn (jf _),cond_false];rfl
  ·simp only [qbM,qm hj,cond_true,qX hj,je,wS j]
   obtain ⟨n0,n1⟩:=qhb hd hj
   cases h1:(gt (places b.Aa) j).drives
   ·have hc:cntP (snkQ b.Aa (((gt (places b.Aa) j).net.toNat:Nat):Int)) j≤j:=qdg
    obtain ⟨e1,e2⟩:=qgR (c:=fun k=>cntP (snkQ b.Aa (k:Int)) j) (c':=fun k=>cntP (snkQ b.Aa (k:Int)) (j+1)) (x:=(gt (places b.Aa) j).net) (m:=b.Ah.length) n0 (by omega) (by show cntP _ _<_;omega) (fun k _=>by
     show cntP _ j+(bif snkQ b.Aa (k:Int) j then 1 else 0)=_
     unfold snkQ
     rw [h1,Bool.not_false,Bool.and_true])
    simp only [Bool.not_false,cond_true,je,e1,e2]
    exact hX
   ·have:vecC (fun k=>cntP (snkQ b.Aa (k:Int)) (j+1)) b.Ah.length=vecC (fun k=>cntP (snkQ b.Aa (k:Int)) j) b.Ah.length:=by
     refine qgq (fun k _=>?_)
     show cntP _ j+(bif snkQ b.Aa (k:Int) j then 1 else 0)=_
     unfold snkQ
     rw [h1,Bool.not_true,Bool.and_false];rfl
    rw [this] at hX
    exact hX
 have hL2:Ev (fun n=>qc9 b (vecC (fun k=>snkN b.Aa (k:Int)) b.Ah.length) n 0) (bif allN (fun j=>wireB (gt b.Ah j) (snkN b.Aa (j:Int))) b.Ah.length then .nxt (b.Ah.length:Int) else .ret false):=by
  refine qdV ?_ (fun j hj X hX=>Ev.succ ?_)
  ·exact Ev.succ (by simp only [qc9,qn (jf _),cond_false];exact .done)
  ·simp only [qc9,qm hj,cond_true,qX hj,qgp hj,je,wS j]
   exact Ev.chk1 (qmH (qhP h.Ah hj)) fun _=>hX
 refine Ev.bind (qhY hs) (Ev.bind hL1 (Ev.bind hL2 ?_))
 cases allN (fun j=>wireB (gt b.Ah j) (snkN b.Aa (j:Int))) b.Ah.length<;>exact .done
theorem qlF {b:qd} (h:qcW b):Ev (fun n=>qf7 n b) (blockB b):=by
 have hwl:=h.Ah.len
 unfold qf7 blockB
 refine Ev.guardB (Ev.or (qiv h.Ac h.Aa) fun _=>.done) fun hb=>?_
 rw [jg] at hb
 have hs:=qab hb.1
 have hL:Ev (fun n=>qc4 b n 0) (bif allN (fun j=>wireB (gt b.Ah j) (snkN b.Aa (j:Int))) b.Ah.length then .nxt (b.Ah.length:Int) else .ret false):=by
  refine qdV ?_ (fun j hj X hX=>Ev.succ ?_)
  ·exact Ev.succ (by simp only [qc4,qn (jf _),cond_false];exact .done)
  ·simp only [qc4,qm hj,cond_true,qX hj,je,wS j]
   refine Ev.bind (qhF hs) ?_
   rw [qdY]
   exact Ev.chk1 (qmb (qhP h.Ah hj)) fun _=>hX
 refine Ev.bind hL ?_
 cases allN (fun j=>wireB (gt b.Ah j) (snkN b.Aa (j:Int))) b.Ah.length<;>exact .done
end Go.Fw


namespace Go.Fw
open Go
set_option maxRecDepth 100000
def off (d:qc) (i:Nat):Nat:=(plI d i).length
def place1 (d:qc) (i k:Nat):Tplace:=⟨(i:Int),(k:Int),at0 (gt d.Ab i).Ai k,decide (k+1=(gt d.Ab i).Ai.length)⟩
def place2 (d:qc) (i:Nat):Tplace:=⟨-1,(i:Int),(gt d.Af i).Bl,(gt d.Af i).Bj==1⟩
theorem qiw {d:qc} {i:Nat}:off d (i+1)=off d i+(gt d.Ab i).Ai.length:=by
 unfold off;rw [qhB,ji,qjE]
theorem qgE {d:qc}:(places d).length=off d d.Ab.length+d.Af.length:=by
 unfold places off;rw [ji,qjK]
theorem qox {d:qc} {n i k:Nat} (hi:i<n) (hk:k<(gt d.Ab i).Ai.length):off d i+k<off d n∧gt (plI d n) (off d i+k)=place1 d i k:=by
 induction n with
 | zero=>omega
 | succ n ih =>
  rw [qhB,qjg]
  rcases Nat.lt_succ_iff_lt_or_eq.1 hi with h|rfl
  ·obtain ⟨h1,h2⟩:=ih h
   refine ⟨by rw [qiw];omega,?_⟩
   rw [if_pos (show off d i+k<(plI d n).length from h1),h2]
  ·refine ⟨by rw [qiw];omega,?_⟩
   rw [if_neg (by unfold off;omega),show off d i+k-(plI d i).length=k by unfold off;omega]
   exact qlm hk
theorem qgU {d:qc} {i k:Nat} (hi:i<d.Ab.length) (hk:k<(gt d.Ab i).Ai.length):off d i+k<(places d).length∧gt (places d) (off d i+k)=place1 d i k:=by
 obtain ⟨h1,h2⟩:=qox hi hk
 refine ⟨by rw [qgE];omega,?_⟩
 unfold places
 rw [qjg,if_pos (show off d i+k<(plI d d.Ab.length).length from h1),h2]
theorem qkL {d:qc} {i:Nat} (hi:i<d.Af.length):off d d.Ab.length+i<(places d).length∧gt (places d) (off d d.Ab.length+i)=place2 d i:=by
 refine ⟨by rw [qgE];omega,?_⟩
 unfold places
 rw [qjg,if_neg (by unfold off;omega),show off d d.Ab.length+i-(plI d d.Ab.length).length=i by unfold off;omega]
 exact qlm hi
theorem qmu {d:qc} {n j:Nat} (hj:j<off d n):∃ i k,i<n∧k<(gt d.Ab i).Ai.length∧j=off d i+k:=by
 induction n with
 | zero=>exact absurd hj (Nat.not_lt_zero _)
 | succ n ih =>
  by_cases h:j<off d n
  ·obtain ⟨i,k,h1,h2,h3⟩:=ih h
   exact ⟨i,k,by omega,h2,h3⟩
  ·rw [qiw] at hj
   exact ⟨n,j-off d n,by omega,by omega,by omega⟩
theorem qdM {d:qc} {j:Nat} (hj:j<(places d).length) :
  (∃ i k,i<d.Ab.length∧k<(gt d.Ab i).Ai.length∧j=off d i+k∧gt (places d) j=place1 d i k) ∨
  (∃ i,i<d.Af.length∧j=off d d.Ab.length+i∧gt (places d) j=place2 d i):=by
 rw [qgE] at hj
 by_cases h:j<off d d.Ab.length
 ·obtain ⟨i,k,h1,h2,rfl⟩:=qmu h
  exact .inl ⟨i,k,h1,h2,rfl,(qgU h1 h2).2⟩
 ·refine .inr ⟨j-off d d.Ab.length,by omega,by omega,?_⟩
  have:=(qkL (d:=d) (i:=j-off d d.Ab.length) (by omega)).2
  rwa [show off d d.Ab.length+(j-off d d.Ab.length)=j by omega] at this
def drvQ (d:qc) (k:Int) (j:Nat):Bool:=((gt (places d) j).net==k)&&(gt (places d) j).drives
theorem qlG {q:Nat→Bool} {m n:Nat}:cntP q (m+n)=cntP q m+cntP (fun j=>q (m+j)) n:=by
 induction n with
 | zero=>rfl
 | succ n ih =>
  show cntP q (m+n)+(bif q (m+n) then 1 else 0)=cntP q m+(cntP (fun j=>q (m+j)) n+(bif q (m+n) then 1 else 0))
  rw [ih];omega
theorem qmR {q:Nat→Bool} {n:Nat} {b:Bool} (h:1≤n) (h1:∀ j,j+1<n→q j=false) (h2:q (n-1)=b):cntP q n=bif b then 1 else 0:=by
 obtain ⟨m,rfl⟩:∃ m,n=m+1:=⟨n-1,by omega⟩
 show cntP q m+(bif q m then 1 else 0)=_
 rw [qi3.2 (fun j hj=>h1 j (by omega)),show m=m+1-1 by omega,h2,jQ]
theorem qmf {d:qc} {k:Nat} (hs:smallD d):cntP (drvQ d (k:Int)) (places d).length=drvI d k d.Ab.length+drvP d k d.Af.length:=by
 rw [qgE,qlG]
 congr 1
 ·have:∀ n,n≤d.Ab.length→cntP (drvQ d (k:Int)) (off d n)=drvI d k n:=by
   intro n
   induction n with
   | zero=>intro _;rfl
   | succ n ih =>
    intro hn
    rw [qiw,qlG,ih (by omega),qi4]
    congr 1
    have h2:=(hs.nx n (by omega)).1
    refine qmR (by omega) (fun j hj=>?_) ?_
    ·show drvQ d _ (off d n+j)=false
     unfold drvQ
     rw [(qgU (by omega) (by omega)).2]
     unfold place1
     simp;omega
    ·show drvQ d _ (off d n+_)=_
     unfold drvQ
     rw [(qgU (by omega) (by omega)).2]
     unfold place1 lastN
     simp;omega
  exact this _ (jf _)
 ·refine qlS (fun j hj=>?_)
  show drvQ d _ (off d _+j)=_
  unfold drvQ
  rw [(qkL hj).2]
  unfold place2
  exact Bool.and_comm _ _
theorem qml {l:qi} {d:qc} (h:designB l d=true) {k:Nat} (hk:k<d.Ai.length):cntP (drvQ d (k:Int)) (places d).length=1:=by
 rw [qmf (qab h)]
 unfold designB drvB at h
 simp only [jg] at h
 have:=qag.1 h.2.2.2 k hk
 rw [beq_iff_eq] at this
 omega
theorem qlv {l:qi} {d:qc} (h:designB l d=true) {i j:Nat} (hi:i<(places d).length) (hj:j<(places d).length) (he:(gt (places d) i).net=(gt (places d) j).net) (h1:(gt (places d) i).drives=true) (h2:(gt (places d) j).drives=true):i=j:=by
 obtain ⟨n0,n1⟩:=qhb h hi
 have e:=qhS n0
 have:=qml h (k:=(gt (places d) i).net.toNat) (by omega)
 refine qly (Nat.le_of_eq this) hi hj ?_ ?_
 ·unfold drvQ;rw [←e,h1];simp
 ·unfold drvQ;rw [←e,h2,he];simp
theorem qop {l:qi} {d:qc} (h:designB l d=true) {k:Int} (h0:0≤k) (h1:k<d.Ai.length):∃ j,j<(places d).length∧(gt (places d) j).net=k∧(gt (places d) j).drives=true:=by
 have e:=qhS h0
 have:=qml h (k:=k.toNat) (by omega)
 have hp:decide (0<cntP (drvQ d ((k.toNat:Nat):Int)) (places d).length)=true:=by rw [this];rfl
 rw [qlo,jA,qg7] at hp
 obtain ⟨j,hj,hq⟩:=hp
 rw [Bool.not_eq_false',←e] at hq
 unfold drvQ at hq
 simp only [jg,beq_iff_eq] at hq
 exact ⟨j,hj,hq.1,hq.2⟩
def cellAt (b:qd) (i:Int):qk:=gt b.Ac.Ak (gt b.Aa.Ab i.toNat).Av.toNat
theorem qe2 {l:qi} {d:qc} (h:designB l d=true) {i:Nat} (hi:i<d.Ab.length) :
  (0≤(gt d.Ab i).Av∧(gt d.Ab i).Av<l.Ak.length)∧(gt d.Ab i).Ai.length=(gt l.Ak (gt d.Ab i).Av.toNat).Ap.length∧cellB (gt l.Ak (gt d.Ab i).Av.toNat)=true:=by
 unfold designB libB at h
 simp only [jg] at h
 obtain ⟨⟨⟨hc,_⟩,_⟩,hI,_⟩:=h
 rw [qfX,qag] at hI hc
 have:=hI i hi
 unfold instB at this
 simp only [jg,qbe,beq_iff_eq] at this
 exact ⟨⟨this.1.1,by omega⟩,by omega,hc _ (by omega)⟩
theorem qjk {c:qk} (h:cellB c=true) {j:Nat} (hj:j<c.Am.length):(1≤(gt c.Am j).Aq∧(gt c.Am j).Aq≤5)∧(0≤(gt c.Am j).Ay∧(gt c.Am j).Ay<(c.Ap.length:Int)-1)∧(0≤(gt c.Am j).To∧(gt c.Am j).To≤(c.Ap.length:Int)-1)∧arcS c.Ap (gt c.Am j)=true:=by
 unfold cellB at h
 simp only [jg] at h
 obtain ⟨_,hp,⟨ha,_⟩,_,_,hk⟩:=h
 have:=qag.1 ha j hj
 rw [jg,qnq hp (qkG hk)] at this
 have h1:=this.1
 refine ⟨qkw h1,?_⟩
 have h2:=h1
 unfold arcS at h2
 simp only [jg,qbe] at h2
 refine ⟨⟨h2.1.1.1,by omega⟩,h2.1.2,h1⟩
theorem qhc {c:qk} (h:cellB c=true):c.Am.length≤8:=by
 unfold cellB at h
 simp only [jg,decide_eq_true_eq] at h
 exact h.2.2.1.2
theorem qas {b:qd} (h:blockB b=true):designB b.Ac b.Aa=true:=by
 unfold blockB at h;simp only [jg] at h;exact h.1.1
end Go.Fw


namespace Go.Fw
open Go
set_option maxRecDepth 100000
theorem qks {d:qc} {k:Int} {n i:Nat} (hi:i<(sinksL d k n).length):∃ y:Nat,y<n∧idx (sinksL d k n) (i:Int)=some (y:Int)∧snkQ d k y=true:=by
 rw [qa8 hi]
 have hm:(sinksL d k n)[i] ∈ sinksL d k n:=jq hi
 generalize (sinksL d k n)[i]=z at hm
 unfold sinksL at hm
 obtain ⟨y,hy,rfl⟩:=List.mem_map.1 hm
 obtain ⟨h1,h2⟩:=List.mem_filter.1 hy
 exact ⟨y,List.mem_range.1 h1,rfl,h2⟩
theorem qkg {d:qc} {k:Int} (h:smallD d):Ev (fun n=>qeh n d k) (sinksL d k (places d).length):=by
 have hl:=qaF h
 have hL:Ev (fun n=>qav k (places d) n ([]:List Int) 0) (sinksL d k (places d).length,((places d).length:Int)):=by
  refine loopF (Lf:=qav k (places d)) (S:=fun j=>sinksL d k j) (len:=(places d).length) (fun n=>?_) (fun j hj X hX=>?_)
  ·simp only [qav,qn (jf _),cond_false]
  ·have hc:(sinksL d k j).length+[(j:Int)].length≤2147483648:=by
    rw [qdY]
    have:cntP (snkQ d k) j≤j:=qdg
    simp;omega
   simp only [qav,qm hj,cond_true,qX hj,je,wS j]
   rw [qgA] at hX
   unfold snkQ at hX
   cases h1:((gt (places d) j).net==k)
   ·rw [h1] at hX
    simp only [Bool.false_and,cond_false,jM] at hX ⊢
    exact hX
   ·cases h2:(gt (places d) j).drives
    ·rw [h1,h2] at hX
     simp only [Bool.not_false,Bool.and_self,cond_true,qb6 hc,je] at hX ⊢
     exact hX
    ·rw [h1,h2] at hX
     simp only [Bool.not_true,Bool.and_false,cond_false,jM,cond_true] at hX ⊢
     exact hX
 unfold qeh
 exact Ev.bind (qhY h) (Ev.bind hL .done)
structure wireOk (b:qd) (i:Nat):Prop where
 lo:1≤(gt b.Ah i).Aj.length
 hi:(gt b.Ah i).Aj.length≤8
 res:(gt b.Ah i).Bc.length=(gt b.Ah i).Aj.length
 cap:(gt b.Ah i).Bb.length=(gt b.Ah i).Aj.length
 par:∀ j,0<j→j<(gt b.Ah i).Aj.length→0≤at0 (gt b.Ah i).Aj j∧at0 (gt b.Ah i).Aj j<j
 snk:(gt b.Ah i).As.length=(sinksL b.Aa (i:Int) (places b.Aa).length).length
 sin:∀ j,j<(gt b.Ah i).As.length→0≤at0 (gt b.Ah i).As j∧at0 (gt b.Ah i).As j<(gt b.Ah i).Aj.length
theorem qhw {b:qd} (h:blockB b=true) {i:Nat} (hi:i<b.Ah.length):wireOk b i:=by
 unfold blockB at h
 rw [jg,qag] at h
 have:=h.2 i hi
 unfold wireB lenB at this
 simp only [jg,decide_eq_true_eq,beq_iff_eq] at this
 obtain ⟨⟨h1,h2⟩,h3,h4,h5,_,_,h6,h7⟩:=this
 refine ⟨h1,h2,by omega,by omega,fun j hj0 hj=>?_,?_,fun j hj=>?_⟩
 ·have:=qag.1 h5 j hj
  unfold treeB at this
  rw [show decide (j=0)=false by simp;omega] at this
  simp only [cond_false,qbe] at this
  omega
 ·rw [qdY]
  unfold snkN at h6
  omega
 ·rw [qfr (d:=0),qag] at h7
  have:=h7 j hj
  rw [qbe] at this
  unfold at0
  omega
theorem qlU {b:qd} (h:blockB b=true):b.Ah.length=b.Aa.Ai.length:=by
 unfold blockB at h
 simp only [jg,beq_iff_eq] at h
 omega
theorem qnc {b:qd} (h:blockB b=true) {j:Nat} (hj:j<(places b.Aa).length):∃ c,∀ n,qee n b.Aa b.Ac (gt (places b.Aa) j)=some c:=by
 have hd:=qas h
 rcases qdM hj with ⟨i,k,hi,hk,_,e⟩|⟨i,hi,_,e⟩
 ·rw [e]
  obtain ⟨⟨c0,c1⟩,hn,_⟩:=qe2 hd hi
  refine ⟨(gt (gt b.Ac.Ak (gt b.Aa.Ab i).Av.toNat).Ap k).Bb,fun n=>?_⟩
  unfold place1
  simp only [qee,show decide ((i:Int)<0)=false by simp,cond_false,qX hi,je,qd8 c0 c1,qX (show k<(gt b.Ac.Ak (gt b.Aa.Ab i).Av.toNat).Ap.length by omega)]
 ·rw [e]
  exact ⟨0,fun n=>rfl⟩
theorem qiJ {b:qd} (h:blockB b=true) {i:Nat} (hi:i<b.Ah.length):∃ r:List Int,r.length=(gt b.Ah i).Aj.length∧Ev (fun n=>qb9 n b (i:Int)) r:=by
 have hw:=qhw h hi
 have hs:=qab (qas h)
 have hlo:=hw.lo
 have hhi:=hw.hi
 have hcap:=hw.cap
 have hl:=qaF hs
 obtain ⟨x1,i1,e1⟩:=loopE (Lf:=qa2 b (gt b.Ah i) (places b.Aa) (sinksL b.Aa (i:Int) (places b.Aa).length)) (fin:=fun t=>(t,((sinksL b.Aa (i:Int) (places b.Aa).length).length:Int))) (fun _ t=>t.length=(gt b.Ah i).Aj.length) (len:=(sinksL b.Aa (i:Int) (places b.Aa).length).length)
  (fun n t=>by simp only [qa2,qn (jf _),cond_false])
  (fun j t hj ht=>by
   obtain ⟨y,hy,ey,_⟩:=qks hj
   obtain ⟨c,hc⟩:=qnc h hy
   have hjs:j<(gt b.Ah i).As.length:=by rw [hw.snk];exact hj
   have hsn:=hw.sin j hjs
   have hb:j<9223372036854775807:=by
    rw [qdY] at hj
    have:cntP (snkQ b.Aa (i:Int)) (places b.Aa).length≤(places b.Aa).length:=qdg
    omega
   refine ⟨setS t (at0 (gt b.Ah i).As j) (W64 (gt t (at0 (gt b.Ah i).As j).toNat+c)),by rw [qcx];exact ht,fun X hX=>?_⟩
   simp only [qa2,qm hj,cond_true,ey,je,qbW hjs,qd8 hsn.1 (show at0 (gt b.Ah i).As j<(t.length:Int) by omega),qX hy,qgX hb]
   exact Ev.bind ⟨0,fun n _=>hc n⟩ hX) 0 (jJ _) (gt b.Ah i).Bb hcap
 obtain ⟨x2,i2,e2⟩:=loopDn (Lf:=qa1 (gt b.Ah i)) (fin:=fun t=>(t,(0:Int))) (fun t=>t.length=(gt b.Ah i).Aj.length) ((gt b.Ah i).Aj.length-1)
  (fun n t=>by simp only [qa1,show decide ((0:Int) > 0)=false from rfl,cond_false])
  (fun j t h0 hj ht=>by
   have hp:=hw.par j h0 (by omega)
   refine ⟨setS t (at0 (gt b.Ah i).Aj j) (W64 (gt t (at0 (gt b.Ah i).Aj j).toNat+gt t j)),by rw [qcx];exact ht,fun X hX=>?_⟩
   simp only [qa1,show decide ((j:Int) > 0)=true by simp;omega,cond_true,qbW (show j<(gt b.Ah i).Aj.length by omega),je,qd8 hp.1 (show at0 (gt b.Ah i).Aj j<(t.length:Int) by omega),qX (show j<t.length by omega),show (j:Int)-1=((j-1:Nat):Int) by omega,qaP (show -9223372036854775808≤((j-1:Nat):Int) by omega) (by omega)]
   exact hX) x1 i1
 refine ⟨x2,i2,?_⟩
 unfold qb9 qeZ
 rw [qX hi]
 simp only [je,qb6 (show ([]:List Int).length+(gt b.Ah i).Bb.length≤2147483648 by simp;omega),List.nil_append]
 refine Ev.bind (qhY hs) (Ev.bind (qkg hs) (Ev.bind e1 ?_))
 rw [qbX (show (gt b.Ah i).Bb.length≤9223372036854775807 by omega),show ((gt b.Ah i).Bb.length:Int)-1=(((gt b.Ah i).Aj.length-1:Nat):Int) by omega]
 exact Ev.bind e2 .done
theorem qj3 {b:qd} (h:blockB b=true) {i:Nat} (hi:i<b.Ah.length):∃ r:List Int,r.length=(gt b.Ah i).As.length∧Ev (fun n=>qcz n b (i:Int)) r:=by
 have hw:=qhw h hi
 have hs:=qab (qas h)
 have hlo:=hw.lo
 have hhi:=hw.hi
 have hres:=hw.res
 have hl:=qaF hs
 have hsl:(gt b.Ah i).As.length≤78:=by
  rw [hw.snk,qdY]
  have:cntP (snkQ b.Aa (i:Int)) (places b.Aa).length≤(places b.Aa).length:=qdg
  omega
 obtain ⟨r1,l1,e1⟩:=qiJ h hi
 have hmk:mkS (r1.length:Int) (0:Int)=some (List.replicate r1.length 0):=qny (by omega)
 obtain ⟨x2,i2,e2⟩:=loopE (Lf:=qaU (gt b.Ah i) r1 (List.replicate r1.length 0)) (fin:=fun t=>(t,(r1.length:Int))) (fun j t=>1≤j∧t.length=(gt b.Ah i).Aj.length) (len:=r1.length)
  (fun n t=>by simp only [qaU,List.length_replicate,qn (jf _),cond_false])
  (fun j t hj ht=>by
   obtain ⟨h1,ht⟩:=ht
   have hp:=hw.par j (by omega) (by omega)
   refine ⟨setS t (j:Int) (W64 (gt t (at0 (gt b.Ah i).Aj j).toNat+W64 (at0 (gt b.Ah i).Bc j*gt r1 j))),⟨by omega,by rw [qcx];exact ht⟩,fun X hX=>?_⟩
   simp only [qaU,List.length_replicate,qm hj,cond_true,qbW (show j<(gt b.Ah i).Aj.length by omega),je,qd8 hp.1 (show at0 (gt b.Ah i).Aj j<(t.length:Int) by omega),qbW (show j<(gt b.Ah i).Bc.length by omega),qX hj,qX (show j<t.length by omega),wS j]
   exact hX) 1 (by omega) (List.replicate r1.length 0) ⟨jf _,by rw [List.length_replicate];exact l1⟩
 obtain ⟨x3,i3,e3⟩:=loopE (Lf:=qaN x2 (gt b.Ah i)) (fin:=fun t=>(t,((gt b.Ah i).As.length:Int))) (fun j t=>t.length=j) (len:=(gt b.Ah i).As.length)
  (fun n t=>by simp only [qaN,qn (jf _),cond_false])
  (fun j t hj ht=>by
   have hsn:=hw.sin j hj
   have hx2:=i2.2
   refine ⟨t++[gt x2 (at0 (gt b.Ah i).As j).toNat],by simp [ht],fun X hX=>?_⟩
   simp only [qaN,qm hj,cond_true,qbW hj,je,qd8 hsn.1 (show at0 (gt b.Ah i).As j<(x2.length:Int) by omega),qb6 (show t.length+[gt x2 (at0 (gt b.Ah i).As j).toNat].length≤2147483648 by simp;omega),wS j]
   exact hX) 0 (jJ _) [] rfl
 refine ⟨x3,i3,?_⟩
 unfold qcz qd9
 rw [qX hi]
 simp only [je]
 refine Ev.bind (b:=x2) (Ev.bind e1 ?_) (Ev.bind e3 .done)
 rw [hmk]
 simp only [je]
 exact Ev.bind e2 .done
end Go.Fw


namespace Go.Fw
open Go
set_option maxRecDepth 100000
instance:Inhabited qaD:=⟨⟨0,0,0,0⟩⟩
instance:Inhabited qI:=⟨⟨0,0⟩⟩
theorem qkM {α:Type} {m:Nat} {z:α} (h:m≤2147483648):mkS (m:Int) z=some (List.replicate m z):=by
 unfold mkS big
 rw [if_pos ⟨by omega,by omega⟩,jv]
theorem qmP {α:Type} [Inhabited α] {xs:List α} {a k:Nat} {y:α} (h:k ≠ a):gt (xs.set a y) k=gt xs k:=by
 unfold gt
 rw [jw,List.getElem?_set_ne (by omega),←jw]
theorem qlw {α:Type} [Inhabited α] {xs:List α} {a:Nat} {y:α} (h:a<xs.length):gt (xs.set a y) a=y:=by
 rw [qgl (by rw [List.length_set];exact h),List.getElem_set_self]
theorem qns {a:qS}:∃ r:List qI,r.length≤4∧∀ n,qdd n a=some r:=by
 unfold qdd
 simp only [bne,qbb]
 cases (a.Aq==2)
 ·cases (a.Aq==3)
  ·cases (a.Aq==1)
   ·exact ⟨_,by decide,fun _=>rfl⟩
   ·cases (a.Bg==1)
    ·cases (a.Bg==2)
     ·exact ⟨[⟨0,0⟩,⟨0,1⟩,⟨1,0⟩,⟨1,1⟩],by decide,fun _=>rfl⟩
     ·exact ⟨[⟨0,1⟩,⟨1,0⟩],by decide,fun _=>rfl⟩
    ·exact ⟨[⟨0,0⟩,⟨1,1⟩],by decide,fun _=>rfl⟩
  ·exact ⟨[⟨1,0⟩,⟨1,1⟩],by decide,fun _=>rfl⟩
 ·exact ⟨[⟨0,0⟩,⟨0,1⟩],by decide,fun _=>rfl⟩
theorem qkQ {b:qd} {first:Int} (h:blockB b=true) {i:Nat} (hi:i<b.Aa.Ab.length):∃ r:List qaD,r.length≤32∧Ev (fun n=>qdf n b (gt b.Aa.Ab i) first) r:=by
 obtain ⟨⟨c0,c1⟩,_,hcb⟩:=qe2 (qas h) hi
 have ha:=qhc hcb
 obtain ⟨x1,i1,e1⟩:=loopE (Lf:=qa0 first (gt b.Ac.Ak (gt b.Aa.Ab i).Av.toNat)) (fin:=fun t=>(t,((gt b.Ac.Ak (gt b.Aa.Ab i).Av.toNat).Am.length:Int))) (fun j t=>t.length≤4*j) (len:=(gt b.Ac.Ak (gt b.Aa.Ab i).Av.toNat).Am.length)
  (fun n t=>by simp only [qa0,qn (jf _),cond_false])
  (fun j t hj ht=>by
   obtain ⟨r,hr,er⟩:=qns (a:=gt (gt b.Ac.Ak (gt b.Aa.Ab i).Av.toNat).Am j)
   obtain ⟨x2,i2,e2⟩:=loopE (Lf:=qa3 first (j:Int) (gt (gt b.Ac.Ak (gt b.Aa.Ab i).Av.toNat).Am j) r) (fin:=fun t=>(t,(r.length:Int))) (fun k t'=>t'.length=t.length+k) (len:=r.length)
    (fun n t=>by simp only [qa3,qn (jf _),cond_false])
    (fun k t' hk ht'=>⟨t'++[_],by rw [ji,ht',jj];omega,fun X hX=>by
     simp only [qa3,qm hk,cond_true,qX hk,je,wS k]
     rw [qb6 (by rw [jj];omega)]
     exact hX⟩) 0 (jJ _) t rfl
   refine ⟨x2,by omega,fun X hX=>?_⟩
   simp only [qa0,qm hj,cond_true,qX hj,je,er,wS j]
   exact Ev.bind e2 hX) 0 (jJ _) [] (jf _)
 refine ⟨x1,by omega,?_⟩
 unfold qdf
 rw [qd8 c0 c1]
 simp only [je]
 exact Ev.bind e1 .done
theorem qha {b:qd} (h:blockB b=true):∃ ls lo de,Ev (fun n=>qdX n b) (some ⟨b,places b.Aa,ls,lo,de,[]⟩):=by
 have hd:=qas h
 have hs:=qab hd
 have hl:=qaF hs
 have hni:=hs.ni
 have hnn:=hs.nn
 have hwl:=qlU h
 obtain ⟨⟨x1,z1⟩,i1,e1⟩:=loopE (τ:=List qaD × Int) (Lf:=fun n t j=>qc8 b n t.1 t.2 j) (fin:=fun t=>(t.1,t.2,(b.Aa.Ab.length:Int))) (fun j t=>t.1.length≤32*j) (len:=b.Aa.Ab.length)
  (fun n t=>by simp only [qc8,qn (jf _),cond_false])
  (fun j t hj ht=>by
   obtain ⟨r,hr,er⟩:=qkQ (first:=t.2) h hj
   refine ⟨(t.1++r,W64 (t.2+((gt b.Aa.Ab j).Ai.length:Int))),by rw [ji];omega,fun X hX=>?_⟩
   simp only [qc8,qm hj,cond_true,qX hj,je,qao,wS j]
   have ht':t.1.length≤32*j:=ht
   refine Ev.bind er ?_
   rw [qb6 (show t.1.length+r.length≤2147483648 by omega)]
   exact hX) 0 (jJ _) ([],0) (jf _)
 have hm1:mkS (b.Ah.length:Int) (0:Int)=some (List.replicate b.Ah.length 0):=qkM (by omega)
 have hm2:mkS (b.Ah.length:Int) ([]:List Int)=some (List.replicate b.Ah.length []):=qkM (by omega)
 obtain ⟨⟨x5,x6⟩,⟨i5,i6,i56⟩,e2⟩:=loopE (τ:=List (List Int) × List Int) (Lf:=fun n t j=>qbP (places b.Aa) n t.1 t.2 j) (fin:=fun t=>(t.1,t.2,((places b.Aa).length:Int))) (fun j t=>t.1.length=b.Ah.length∧t.2.length=b.Ah.length∧∀ k,(gt t.1 k).length≤j) (len:=(places b.Aa).length)
  (fun n t=>by simp only [qbP,qn (jf _),cond_false])
  (fun j t hj ht=>by
   obtain ⟨h1,h2,h3⟩:=ht
   obtain ⟨n0,n1⟩:=qhb hd hj
   cases hdr:(gt (places b.Aa) j).drives
   ·refine ⟨(setS t.1 (gt (places b.Aa) j).net (gt t.1 (gt (places b.Aa) j).net.toNat++[(j:Int)]),t.2),⟨by rw [qcx];exact h1,h2,fun k=>?_⟩,fun X hX=>?_⟩
    ·show (gt (t.1.set _ _) k).length≤j+1
     by_cases hk:k=(gt (places b.Aa) j).net.toNat
     ·subst hk
      rw [qlw (by omega),ji,jj]
      have:=h3 (gt (places b.Aa) j).net.toNat
      omega
     ·rw [qmP hk]
      have:=h3 k
      omega
    ·have:=h3 (gt (places b.Aa) j).net.toNat
     simp only [qbP,qm hj,cond_true,qX hj,je,hdr,cond_false,qd8 n0 (show (gt (places b.Aa) j).net<(t.1.length:Int) by omega),wS j]
     rw [qb6 (by rw [jj];omega)]
     exact hX
   ·refine ⟨(t.1,setS t.2 (gt (places b.Aa) j).net (j:Int)),⟨h1,by rw [qcx];exact h2,fun k=>Nat.le_succ_of_le (h3 k)⟩,fun X hX=>?_⟩
    simp only [qbP,qm hj,cond_true,qX hj,je,hdr,qd8 n0 (show (gt (places b.Aa) j).net<(t.2.length:Int) by omega),wS j]
    exact hX) 0 (jJ _) (List.replicate b.Ah.length [],List.replicate b.Ah.length 0) ⟨by simp,by simp,fun k=>by
   have:gt (List.replicate b.Ah.length ([]:List Int)) k=[]:=by
    unfold gt
    rw [jw,List.getElem?_replicate]
    by_cases hk:k<b.Ah.length<;>simp [hk]<;>rfl
   rw [this];exact jf _⟩
 have i5:x5.length=b.Ah.length:=i5
 have i6:x6.length=b.Ah.length:=i6
 have i56:∀ k,(gt x5 k).length≤(places b.Aa).length:=i56
 have hL5:∀ (i4 i5 y7:Int) (y8:Int) (t:List qaD),idx x6 i4=some y8→t.length≤1000000→∃ t',t'.length=t.length+2∧Ev (fun n=>qcm x6 i4 i5 y7 n t 0) (t',2):=by
  intro i4 i5 y7 y8 t hy ht
  obtain ⟨t',h1,h2⟩:=loopE (Lf:=qcm x6 i4 i5 y7) (fin:=fun t=>(t,(2:Int))) (fun k t'=>t'.length=t.length+k) (len:=2)
   (fun n t=>by simp only [qcm];rfl)
   (fun k t' hk ht'=>⟨t'++[_],by rw [ji,ht',jj];omega,fun X hX=>by
    simp only [qcm,show decide ((k:Int)<2)=true by simp;omega,cond_true,hy,je,wS k]
    rw [qb6 (by rw [jj];omega)]
    exact hX⟩) 0 (jJ _) t rfl
  exact ⟨t',h1,h2⟩
 have hL4:∀ (i4 y8:Int) (y6:List Int) (t:List qaD),idx x6 i4=some y8→y6.length≤78→t.length≤900000→∃ t',t'.length=t.length+2*y6.length∧Ev (fun n=>qcs x6 i4 y6 n t 0) (t',(y6.length:Int)):=by
  intro i4 y8 y6 t hy hy6 ht
  obtain ⟨t',h1,h2⟩:=loopE (Lf:=qcs x6 i4 y6) (fin:=fun t=>(t,(y6.length:Int))) (fun k t'=>t'.length=t.length+2*k) (len:=y6.length)
   (fun n t=>by simp only [qcs,qn (jf _),cond_false])
   (fun k t' hk ht'=>by
    obtain ⟨t2,q1,q2⟩:=hL5 i4 (k:Int) (gt y6 k) y8 t' hy (by omega)
    refine ⟨t2,by omega,fun X hX=>?_⟩
    simp only [qcs,qm hk,cond_true,qX hk,je,wS k]
    exact Ev.bind q2 hX) 0 (jJ _) t rfl
  exact ⟨t',h1,h2⟩
 obtain ⟨⟨x8,x9,x10⟩,_,e3⟩:=loopE (τ:=List (List Int) × List Int × List qaD) (Lf:=fun n t j=>qdb b x5 x6 n t.1 t.2.1 t.2.2 j) (fin:=fun t=>(t.1,t.2.1,t.2.2,(b.Ah.length:Int))) (fun j t=>t.1.length=j∧t.2.1.length=j∧t.2.2.length≤448+156*j) (len:=b.Ah.length)
  (fun n t=>by simp only [qdb,qn (jf _),cond_false])
  (fun j t hj ht=>by
   obtain ⟨h1,h2,h3⟩:=ht
   have h1:t.1.length=j:=h1
   have h2:t.2.1.length=j:=h2
   have h3:t.2.2.length≤448+156*j:=h3
   have hw:=qhw h hj
   have hlo:=hw.lo
   obtain ⟨r4,l4,e4⟩:=qiJ h hj
   obtain ⟨r5,l5,e5⟩:=qj3 h hj
   have h6:=i56 j
   have hy8:idx x6 (j:Int)=some (gt x6 j):=qX (by omega)
   obtain ⟨t',q1,q2⟩:=hL4 (j:Int) (gt x6 j) (gt x5 j) t.2.2 hy8 (by omega) (by omega)
   refine ⟨(t.1++[r5],t.2.1++[gt r4 0],t'),⟨by simp [h1],by simp [h2],?_⟩,fun X hX=>?_⟩
   ·show t'.length≤_
    omega
   ·simp only [qdb,qm hj,cond_true,wS j]
    refine Ev.bind e4 ?_
    rw [show idx r4 (0:Int)=some (gt r4 0) from qX (j:=0) (by omega)]
    simp only [je]
    rw [qb6 (by rw [jj];omega)]
    simp only [je]
    refine Ev.bind e5 ?_
    rw [qb6 (by rw [jj];omega),qX (show j<x5.length by omega)]
    simp only [je]
    exact Ev.bind q2 hX) 0 (jJ _) ([],[],x1) ⟨rfl,rfl,by show x1.length≤_;have:x1.length≤32*b.Aa.Ab.length:=i1;omega⟩
 refine ⟨x10,x9,x8,?_⟩
 unfold qdX
 refine Ev.bind (qhY hs) (Ev.bind e1 ?_)
 rw [hm1,hm2]
 simp only [je]
 exact Ev.bind e2 (Ev.bind e3 .done)
end Go.Fw


namespace Go.Fw
open Go
set_option maxRecDepth 100000
def clkB (b:qd) (p:Tplace):Bool:=bif decide (p.instance_ ≥ 0) then clkAt (cellAt b p.instance_).Ap p.pin else false
theorem qig {b:qd} {V:Tview} {n j:Nat} (h:blockB b=true) (hV:V.Bd=b) (hj:j<(places b.Aa).length):qbp n (some V) (gt (places b.Aa) j)=some (clkB b (gt (places b.Aa) j)):=by
 rcases qdM hj with ⟨i,k,hi,hk,_,e⟩|⟨i,hi,_,e⟩
 ·obtain ⟨⟨c0,c1⟩,hn,_⟩:=qe2 (qas h) hi
  rw [e]
  unfold place1 clkB clkAt cellAt
  simp only [qbp,show decide ((i:Int) ≥ 0)=true by simp,cond_true,je,hV,qX hi,qd8 c0 c1,qX (show k<(gt b.Ac.Ak (gt b.Aa.Ab i).Av.toNat).Ap.length by omega),jv]
 ·rw [e];rfl
theorem qj1 {b:qd} {j:Nat} (hok:qcW b) (h:blockB b=true) (hj:j<(places b.Aa).length):Ev (fun n=>qfu n b.Ac b.Aa (j:Int)) (toSp (gt (places b.Aa) j),true):=by
 have hd:=qas h
 have hs:=qab hd
 have hl:=qaF hs
 unfold qfu
 refine Ev.bind (qiv hok.Ac hok.Aa) (Ev.ff (by rw [hd];rfl) (Ev.bind (qfz hs) ?_))
 simp only [qdB,je,jG,qbX (show (places b.Aa).length≤9223372036854775807 by omega)]
 rw [show inI (j:Int) 0 (((places b.Aa).length:Int)-1)=true from qbe.2 ⟨by omega,by omega⟩]
 simp only [Bool.not_true,cond_false]
 rw [qX (show j<((places b.Aa).map toSp).length by simpa using hj),qja hj]
 exact .done
theorem qln {b:qd} {j:Nat} (hok:qcW b) (h:blockB b=true) (hj:j<(places b.Aa).length):Ev (fun n=>qfF n b (j:Int)) (clkB b (gt (places b.Aa) j)):=by
 unfold qfF
 refine Ev.bind (qj1 hok h hj) ?_
 rcases qdM hj with ⟨i,k,hi,hk,_,e⟩|⟨i,hi,_,e⟩
 ·obtain ⟨⟨c0,c1⟩,hn,_⟩:=qe2 (qas h) hi
  rw [e]
  unfold place1 clkB clkAt cellAt toSp
  simp only [qeC,show decide ((i:Int) ≥ 0)=true by simp,cond_true,je,qX hi,qd8 c0 c1,qX (show k<(gt b.Ac.Ak (gt b.Aa.Ab i).Av.toNat).Ap.length by omega),jv]
  exact .done
 ·rw [e];exact .done
theorem qke {b:qd} {j:Nat} (hok:qcW b) (h:blockB b=true) (hj:j<(places b.Aa).length):Ev (fun n=>qeP n b.Ac b.Aa (j:Int)) (gt (places b.Aa) j).net:=by
 unfold qeP
 exact Ev.bind (qj1 hok h hj) .done
theorem qla {b:qd} {k:Int} (h:blockB b=true) {j:Nat} (hj:j<(places b.Aa).length) (hk:(gt (places b.Aa) j).net=k) (hdr:(gt (places b.Aa) j).drives=true):Ev (fun n=>qfs n b.Aa k) (j:Int):=by
 have hd:=qas h
 have hs:=qab hd
 have hl:=qaF hs
 have e:ixL (fun q:Tl05Place=>(q.net==k)&&q.drives) ((places b.Aa).map toSp)=(j:Int):=by
  refine qng (by simpa using hj) ?_ (fun i hi hq=>?_)
  ·rw [qja hj]
   show (((gt (places b.Aa) j).net==k)&&(gt (places b.Aa) j).drives)=true
   rw [hk,hdr];simp
  ·have hi':i<(places b.Aa).length:=by simpa using hi
   rw [qja hi'] at hq
   have hq':(((gt (places b.Aa) i).net==k)&&(gt (places b.Aa) i).drives)=true:=hq
   simp only [jg,beq_iff_eq] at hq'
   exact qlv hd hi' hj (by rw [hq'.1,hk]) hq'.2 hdr
 unfold qfs
 refine Ev.bind (qfz hs) ?_
 rw [←e]
 exact qdz (fin:=(((places b.Aa).map toSp).length:Int)) (Lf:=qbv k ((places b.Aa).map toSp)) (pf:=fun _ q=>some ((q.net==k)&&q.drives)) (fun _ _=>.done)
  (fun n=>by simp only [qbv,qn (jf _),cond_false])
  (fun n j x hx=>by
   have hj:=(List.getElem?_eq_some_iff.1 hx).1
   have hj':j<(places b.Aa).length:=by simpa using hj
   simp only [qbv,qm hj,cond_true,qe4 hx,je,wS j]
   cases (x.net==k)<;>cases x.drives<;>rfl)
  (fun n=>by congr 1;funext o;cases o<;>rfl)
theorem qmg {b:qd} {i k:Nat} (h:blockB b=true) (hi:i<b.Aa.Ab.length) (hk:k<(gt b.Aa.Ab i).Ai.length):Ev (fun n=>qfo n b.Aa (i:Int) (k:Int)) ((off b.Aa i+k:Nat):Int):=by
 have hd:=qas h
 have hs:=qab hd
 have hl:=qaF hs
 obtain ⟨hj,ej⟩:=qgU hi hk
 have e:ixL (fun q:Tl05Place=>(q.instance_==(i:Int))&&(q.pin==(k:Int))) ((places b.Aa).map toSp)=((off b.Aa i+k:Nat):Int):=by
  refine qng (by simpa using hj) ?_ (fun m hm hq=>?_)
  ·rw [qja hj,ej]
   unfold place1 toSp
   simp
  ·have hm':m<(places b.Aa).length:=by simpa using hm
   rw [qja hm'] at hq
   rcases qdM hm' with ⟨i',k',hi',hk',em,e'⟩|⟨i',hi',em,e'⟩
   ·rw [e'] at hq
    unfold place1 toSp at hq
    simp only [jg,beq_iff_eq] at hq
    obtain rfl:i'=i:=by omega
    obtain rfl:k'=k:=by omega
    exact em
   ·rw [e'] at hq
    unfold place2 toSp at hq
    simp only [jg,beq_iff_eq] at hq
    omega
 unfold qfo
 refine Ev.bind (qfz hs) ?_
 rw [←e]
 exact qdz (fin:=(((places b.Aa).map toSp).length:Int)) (Lf:=qcp (i:Int) (k:Int) ((places b.Aa).map toSp)) (pf:=fun _ q=>some ((q.instance_==(i:Int))&&(q.pin==(k:Int)))) (fun _ _=>.done)
  (fun n=>by simp only [qcp,qn (jf _),cond_false])
  (fun n j x hx=>by
   have hj:=(List.getElem?_eq_some_iff.1 hx).1
   have hj':j<(places b.Aa).length:=by simpa using hj
   simp only [qcp,qm hj,cond_true,qe4 hx,je,wS j]
   cases (x.instance_==(i:Int))<;>cases (x.pin==(k:Int))<;>rfl)
  (fun n=>by congr 1;funext o;cases o<;>rfl)
def freeB (b:qd) (y:Int):Bool:=!clkB b (gt (places b.Aa) y.toNat)
def dataB (c:qk) (pin:Int):Bool:=c.Am.any fun a=>(a.Ay==pin)&&decide (a.Aq≤3)
def succL (b:qd) (j:Nat):List Int :=
 bif (gt (places b.Aa) j).drives then (sinksL b.Aa (gt (places b.Aa) j).net (places b.Aa).length).filter (freeB b)
 else bif decide ((gt (places b.Aa) j).instance_<0) then []
 else bif dataB (cellAt b (gt (places b.Aa) j).instance_) (gt (places b.Aa) j).pin then [(j:Int)-(gt (places b.Aa) j).pin+(((cellAt b (gt (places b.Aa) j).instance_).Ap.length:Int)-1)] else []
theorem ql4 {c:qk} {p:Tplace} (hc:cellB c=true):Ev (fun n=>qZ n c.Am p) (dataB c p.pin):=by
 have ha:=qhc hc
 unfold qZ
 refine Ev.bind (b:=ixL (fun a:qS=>(a.Ay==p.pin)&&decide (a.Aq≤3)) c.Am) (qdz (fin:=(c.Am.length:Int)) (Lf:=qz c.Am p) (pf:=fun n x=>qcA n x p) (fun x hx=>?_)
  (fun n=>by simp only [qz,qn (jf _),cond_false])
  (fun n j x hx=>by
   have hj:=(List.getElem?_eq_some_iff.1 hx).1
   simp only [qz,qm hj,cond_true,qe4 hx,je,wS j])
  (fun n=>by unfold qat;congr 1;funext o;cases o<;>rfl)) (Ev.now (by rw [qgN];rfl))
 obtain ⟨j,hj,rfl⟩:=jI hx
 have hk:=(qjk hc hj).1
 rw [qgl hj] at hk
 refine ⟨0,fun n _=>?_⟩
 have e:decide (c.Am[j].Aq≤3)=((c.Am[j].Aq==1) || ((c.Am[j].Aq==2) || (c.Am[j].Aq==3))):=by
  rw [jk];simp;omega
 rw [e]
 unfold qcA qgr
 cases (c.Am[j].Aq==1)<;>cases (c.Am[j].Aq==2)<;>cases (c.Am[j].Aq==3)<;>simp
theorem qii {b:qd} {V:Tview} {j:Nat} (h:blockB b=true) (hV:V.Bd=b) (hP:V.places=places b.Aa) (hj:j<(places b.Aa).length):Ev (fun n=>qcd n (some V) (j:Int)) (succL b j):=by
 have hd:=qas h
 have hs:=qab hd
 have hl:=qaF hs
 unfold qcd succL
 simp only [je,hP,qX hj]
 refine Ev.iff (fun _=>?_) (fun _=>Ev.iff (fun _=>.done) (fun h0=>?_))
 ·have hL:Ev (fun n=>qae (some V) V (gt (places b.Aa) j) n ([]:List Int) 0) ((sinksL b.Aa (gt (places b.Aa) j).net (places b.Aa).length).filter (freeB b),((places b.Aa).length:Int)):=by
   refine loopF (Lf:=qae (some V) V (gt (places b.Aa) j)) (S:=fun m=>(sinksL b.Aa (gt (places b.Aa) j).net m).filter (freeB b)) (len:=(places b.Aa).length) (fun n=>?_) (fun m hm X hX=>?_)
   ·simp only [qae,hP,qn (jf _),cond_false]
   ·have hc:((sinksL b.Aa (gt (places b.Aa) j).net m).filter (freeB b)).length+[(m:Int)].length≤2147483648:=by
     have h1:=List.length_filter_le (freeB b) (sinksL b.Aa (gt (places b.Aa) j).net m)
     rw [qdY] at h1
     have:cntP (snkQ b.Aa (gt (places b.Aa) j).net) m≤m:=qdg
     rw [jj];omega
    simp only [qae,hP,qm hm,cond_true,qX hm,je,qig h hV hm,wS m]
    rw [qgA] at hX
    unfold snkQ at hX
    cases h1:((gt (places b.Aa) m).net==(gt (places b.Aa) j).net)
    ·rw [h1] at hX
     simp only [Bool.false_and,cond_false,jM] at hX ⊢
     exact hX
    ·cases h2:(gt (places b.Aa) m).drives
     ·rw [h1,h2] at hX
      simp only [Bool.not_false,Bool.and_self,cond_true,List.filter_append] at hX ⊢
      have hf:freeB b (m:Int) = !clkB b (gt (places b.Aa) m):=by unfold freeB;rw [jv]
      cases h3:clkB b (gt (places b.Aa) m)
      ·rw [h3] at hf
       rw [List.filter_cons_of_pos (by rw [hf];rfl),List.filter_nil] at hX
       simp only [Bool.not_false,cond_true,qb6 hc,je]
       exact hX
      ·rw [h3] at hf
       rw [List.filter_cons_of_neg (by rw [hf];decide),List.filter_nil,jM] at hX
       exact hX
     ·rw [h1,h2] at hX
      simp only [Bool.not_true,Bool.and_false,cond_false,jM,cond_true] at hX ⊢
      exact hX
  exact Ev.bind hL .done
 ·rcases qdM hj with ⟨i,k,hi,hk,ej,e⟩|⟨i,hi,_,e⟩
  ·obtain ⟨⟨c0,c1⟩,hn,hcb⟩:=qe2 hd hi
   have hxs:=hs.nx i hi
   rw [e]
   have ec:cellAt b (place1 b.Aa i k).instance_=gt b.Ac.Ak (gt b.Aa.Ab i).Av.toNat:=by
    unfold cellAt place1;rw [jv]
   rw [ec]
   have e1:∀ n,qbu n V.Bd (place1 b.Aa i k).instance_=some (gt b.Ac.Ak (gt b.Aa.Ab i).Av.toNat):=by
    intro n
    rw [hV]
    unfold place1
    simp only [qbu,qX hi,qd8 c0 c1,je]
   refine Ev.bind ⟨0,fun n _=>e1 n⟩ (Ev.bind (ql4 hcb) (Ev.iff (fun _=>?_) (fun _=>.done)))
   simp only [qbk,qa5,je]
   refine Ev.now ?_
   have ep:(place1 b.Aa i k).pin=(k:Int):=rfl
   rw [ep,qbX (by omega),qaP (show -9223372036854775808≤(j:Int)-(k:Int) by omega) (by omega),qaP (by omega) (by omega)]
  ·rw [e] at h0
   exact absurd h0 (by show ¬ decide ((-1:Int)<0)=false;decide)
theorem qlz {b:qd} {j:Nat} (hok:qcW b) (h:blockB b=true) (hj:j<(places b.Aa).length):Ev (fun n=>qfE n b (j:Int)) (succL b j):=by
 have hd:=qas h
 have hs:=qab hd
 have hl:=qaF hs
 obtain ⟨n0,n1⟩:=qhb hd hj
 obtain ⟨jd,hjd,nd,dd⟩:=qop hd n0 n1
 have hsl:(sinksL b.Aa (gt (places b.Aa) j).net (places b.Aa).length).length≤78:=by
  rw [qdY]
  have:cntP (snkQ b.Aa (gt (places b.Aa) j).net) (places b.Aa).length≤(places b.Aa).length:=qdg
  omega
 unfold qfE
 refine Ev.bind (qj1 hok h hj) (Ev.bind (qke hok h hj) (Ev.bind (qla h hjd nd dd) ?_))
 have e0:((jd:Int)==(j:Int))=(gt (places b.Aa) j).drives:=by
  rw [jk,beq_iff_eq]
  constructor
  ·intro e
   obtain rfl:jd=j:=by omega
   exact dd
  ·intro hdj
   have:=qlv hd hjd hj nd dd hdj
   omega
 rw [e0]
 unfold succL
 refine Ev.iff (fun _=>?_) (fun _=>Ev.iff (fun _=>.done) (fun h0=>?_))
 ·refine Ev.bind (qhF hs) ?_
  have hL:Ev (fun n=>qbr b (sinksL b.Aa (gt (places b.Aa) j).net (places b.Aa).length) n ([]:List Int) 0) ((sinksL b.Aa (gt (places b.Aa) j).net (places b.Aa).length).filter (freeB b),((sinksL b.Aa (gt (places b.Aa) j).net (places b.Aa).length).length:Int)):=by
   refine loopF (Lf:=qbr b (sinksL b.Aa (gt (places b.Aa) j).net (places b.Aa).length)) (S:=fun m=>((sinksL b.Aa (gt (places b.Aa) j).net (places b.Aa).length).take m).filter (freeB b)) (len:=(sinksL b.Aa (gt (places b.Aa) j).net (places b.Aa).length).length) (fun n=>?_) (fun m hm X hX=>?_)
   ·simp only [qbr,qn (jf _),cond_false,List.take_length]
   ·obtain ⟨y,hy,ey,_⟩:=qks hm
    have hc:(((sinksL b.Aa (gt (places b.Aa) j).net (places b.Aa).length).take m).filter (freeB b)).length+[(y:Int)].length≤2147483648:=by
     have h1:=List.length_filter_le (freeB b) ((sinksL b.Aa (gt (places b.Aa) j).net (places b.Aa).length).take m)
     rw [List.length_take] at h1
     rw [jj];omega
    have eg:(sinksL b.Aa (gt (places b.Aa) j).net (places b.Aa).length)[m]=(y:Int):=by
     rw [qa8 hm] at ey;exact Option.some.inj ey
    rw [List.take_succ_eq_append_getElem hm,List.filter_append,eg] at hX
    simp only [qbr,qm hm,cond_true,ey,je,wS m]
    refine Ev.bind (qln hok h hy) ?_
    have hf:freeB b (y:Int) = !clkB b (gt (places b.Aa) y):=by unfold freeB;rw [jv]
    cases h3:clkB b (gt (places b.Aa) y)
    ·rw [h3] at hf
     rw [List.filter_cons_of_pos (by rw [hf];rfl),List.filter_nil] at hX
     simp only [Bool.not_false,cond_true,qb6 hc,je]
     exact hX
    ·rw [h3] at hf
     rw [List.filter_cons_of_neg (by rw [hf];decide),List.filter_nil,jM] at hX
     exact hX
  exact Ev.bind hL .done
 ·rcases qdM hj with ⟨i,k,hi,hk,ej,e⟩|⟨i,hi,_,e⟩
  ·obtain ⟨⟨c0,c1⟩,hn,hcb⟩:=qe2 hd hi
   have hxs:=hs.nx i hi
   rw [e]
   have ec:cellAt b (place1 b.Aa i k).instance_=gt b.Ac.Ak (gt b.Aa.Ab i).Av.toNat:=by
    unfold cellAt place1;rw [jv]
   rw [ec]
   have hA:=qhc hcb
   have e1:∀ n,qeC n b (toSp (place1 b.Aa i k)).instance_=some (gt b.Ac.Ak (gt b.Aa.Ab i).Av.toNat):=by
    intro n
    unfold place1 toSp
    simp only [qeC,qX hi,qd8 c0 c1,je]
   have e2:Ev (fun n=>qfo n b.Aa (toSp (place1 b.Aa i k)).instance_ (W64 (((gt b.Ac.Ak (gt b.Aa.Ab i).Av.toNat).Ap.length:Int)-1))) ((j:Int)-(k:Int)+(((gt b.Ac.Ak (gt b.Aa.Ab i).Av.toNat).Ap.length:Int)-1)):=by
    have:=qmg h hi (k:=(gt b.Ac.Ak (gt b.Aa.Ab i).Av.toNat).Ap.length-1) (by omega)
    rw [qbX (by omega),show ((gt b.Ac.Ak (gt b.Aa.Ab i).Av.toNat).Ap.length:Int)-1=(((gt b.Ac.Ak (gt b.Aa.Ab i).Av.toNat).Ap.length-1:Nat):Int) by omega]
    refine this.cast ?_
    omega
   have hL2:Ev (fun n=>qcM b (toSp (place1 b.Aa i k)) (gt b.Ac.Ak (gt b.Aa.Ab i).Av.toNat) n 0) (bif ((gt b.Ac.Ak (gt b.Aa.Ab i).Av.toNat).Am.all fun a=>!((a.Ay==(k:Int))&&decide (a.Aq≤3))) then .nxt ((gt b.Ac.Ak (gt b.Aa.Ab i).Av.toNat).Am.length:Int) else .ret [(j:Int)-(k:Int)+(((gt b.Ac.Ak (gt b.Aa.Ab i).Av.toNat).Ap.length:Int)-1)]) :=
    qhW (fun n=>by simp only [qcM,qn (jf _),cond_false]) (fun m hm X hX=>by
     simp only [qcM,qm hm,cond_true,qa8 hm,je,wS m]
     rw [show (toSp (place1 b.Aa i k)).pin=(k:Int) from rfl]
     refine Ev.bind (b:=((gt b.Ac.Ak (gt b.Aa.Ab i).Av.toNat).Am[m].Ay==(k:Int))&&decide ((gt b.Ac.Ak (gt b.Aa.Ab i).Av.toNat).Am[m].Aq≤3)) (Ev.andP fun _=>.done) ?_
     cases (((gt b.Ac.Ak (gt b.Aa.Ab i).Av.toNat).Am[m].Ay==(k:Int))&&decide ((gt b.Ac.Ak (gt b.Aa.Ab i).Av.toNat).Am[m].Aq≤3))
     ·exact hX
     ·exact Ev.bind e2 .done)
   refine Ev.bind ⟨0,fun n _=>e1 n⟩ (Ev.bind hL2 ?_)
   have e3:dataB (gt b.Ac.Ak (gt b.Aa.Ab i).Av.toNat) (place1 b.Aa i k).pin = !((gt b.Ac.Ak (gt b.Aa.Ab i).Av.toNat).Am.all fun a=>!((a.Ay==(k:Int))&&decide (a.Aq≤3))):=by
    unfold dataB
    rw [show (place1 b.Aa i k).pin=(k:Int) from rfl,jk]
    simp
   rw [e3,show (place1 b.Aa i k).pin=(k:Int) from rfl]
   cases ((gt b.Ac.Ak (gt b.Aa.Ab i).Av.toNat).Am.all fun a=>!((a.Ay==(k:Int))&&decide (a.Aq≤3)))<;>exact .done
  ·rw [e] at h0
   exact absurd h0 (by show ¬ decide ((-1:Int)<0)=false;decide)
theorem qkE {b:qd} (h:blockB b=true) {j:Nat}:(succL b j).length≤78:=by
 have hs:=qab (qas h)
 have hl:=qaF hs
 unfold succL
 cases (gt (places b.Aa) j).drives
 ·cases decide ((gt (places b.Aa) j).instance_<0)
  ·cases dataB (cellAt b (gt (places b.Aa) j).instance_) (gt (places b.Aa) j).pin
   ·exact jJ _
   ·show 1≤78;omega
  ·exact jJ _
 ·have h1:=List.length_filter_le (freeB b) (sinksL b.Aa (gt (places b.Aa) j).net (places b.Aa).length)
  rw [qdY] at h1
  have:cntP (snkQ b.Aa (gt (places b.Aa) j).net) (places b.Aa).length≤(places b.Aa).length:=qdg
  simp only [cond_true]
  omega
def inPl (b:qd) (x:Int):Bool:=inI x 0 (((places b.Aa).length:Int)-1)
end Go.Fw


namespace Go.Fw
open Go
set_option maxRecDepth 100000
def CodeOk (code:List (IntK .u8)):Prop:=code.length≤1048576∧∀ x,x ∈ code→rng8 x
structure SrcI (code:List (IntK .u8)) (a s:Int):Prop where
 a0:0≤a
 a1:a≤(code.length:Int)
 s0:0≤s
 s1:s≤2147483646
theorem tm31 {x:Int} (h:0≤x):0≤x.tmod 2147483647∧x.tmod 2147483647≤2147483646:=by
 have h1:=Int.tmod_nonneg 2147483647 h
 have h2:=Int.tmod_lt_of_pos x (show (0:Int)<2147483647 by decide)
 omega
theorem qiK {x k:Int} (hk:0<k):remS x k=some (x.tmod k):=by unfold remS;rw [if_neg (by omega)]
theorem qdQ (x:Int):okI (W64 x):=by
 unfold okI W64
 rw [Go.IntWalk.i64_left]
 unfold Go.RowKit.wrap64
 omega
theorem qad {x:Int} (h0:-4611686018427387904≤x) (h1:x≤4611686018427387904):okI x:=by unfold okI;omega
theorem qnX {code:List (IntK .u8)} (hc:CodeOk code):∃ s,Ev (fun n=>qhf n code) (some ⟨code,0,s⟩)∧SrcI code 0 s:=by
 have main:∀ k j i,j+k=code.length→0≤i→i≤2147483646→EvQ (fun n=>qda code n i (j:Int)) (fun o=>0≤o.1∧o.1≤2147483646):=by
  intro k
  induction k with
  | zero =>
   intro j i hj h0 h1
   refine EvQ.succ ?_
   simp only [qda,qn (show code.length≤j by omega),cond_false,je]
   exact EvQ.done ⟨h0,h1⟩
  | succ k ih =>
   intro j i hj h0 h1
   have hlt:j<code.length:=by omega
   have hl:=hc.1
   have hy:=hc.2 _ (jq hlt)
   unfold rng8 at hy
   refine EvQ.succ ?_
   simp only [qda,qm hlt,cond_true,je,qa8 hlt,wS j]
   refine EvQ.bif (fun _=>?_) (fun _=>EvQ.done ⟨h0,h1⟩)
   have e1:W64 (i*31)=i*31:=qaP (by omega) (by omega)
   have e2:W64 code[j].val=code[j].val:=qaP (by omega) (by omega)
   have e3:W64 (i*31+code[j].val)=i*31+code[j].val:=qaP (by omega) (by omega)
   rw [e1,e2,e3]
   have h2:=tm31 (show 0≤i*31+code[j].val by omega)
   exact ih (j+1) _ (by omega) h2.1 h2.2
 obtain ⟨⟨s,j⟩,h1,h2,h3⟩:=main code.length 0 12345 (by omega) (by decide) (by decide)
 exact ⟨s,Ev.bind h1 .done,⟨Int.le_refl _,by omega,h2,h3⟩⟩
theorem qaQ {code:List (IntK .u8)} {a s:Int} (k:Int) (hc:CodeOk code) (h:SrcI code a s) :
  EvQ (fun n=>qu n ⟨code,a,s⟩ k) (fun o=>((0≤o.1∧(1≤k→o.1<k))∧(k≤1→o.1=0))∧SrcI code o.2.1 o.2.2):=by
 obtain ⟨a0,a1,s0,s1⟩:=h
 have hl:=hc.1
 unfold qu
 refine EvQ.bif (fun h1=>EvQ.done ⟨⟨⟨Int.le_refl _,fun h=>by omega⟩,fun _=>rfl⟩,⟨a0,a1,s0,s1⟩⟩) (fun h1=>?_)
 have h1:1<k:=by have:=of_decide_eq_false h1;omega
 refine EvQ.bif (fun h2=>?_) (fun _=>?_)
 ·have h2:a<(code.length:Int):=of_decide_eq_true h2
  obtain ⟨j,rfl⟩:∃ j:Nat,a=(j:Int):=⟨a.toNat,by omega⟩
  have hlt:j<code.length:=by omega
  have hy:=hc.2 _ (jq hlt)
  unfold rng8 at hy
  have e2:W64 code[j].val=code[j].val:=qaP (by omega) (by omega)
  have ea:W64 ((j:Int)+1)=((j+1:Nat):Int):=qgX (by omega)
  refine EvQ.bindN (qa8 hlt) ?_
  rw [e2,ea]
  refine EvQ.bif (fun h3=>?_) (fun h3=>?_)
  ·refine EvQ.bindN (qiK (by omega)) (EvQ.done ⟨⟨⟨Int.tmod_nonneg _ hy.1,fun _=>Int.tmod_lt_of_pos _ (by omega)⟩,fun h=>by omega⟩,⟨by show (0:Int)≤((j+1:Nat):Int);omega,by show ((j+1:Nat):Int)≤_;omega,s0,s1⟩⟩)
  ·have e3:W64 (s*48271)=s*48271:=qaP (by omega) (by omega)
   have e4:W64 (s*48271+code[j].val)=s*48271+code[j].val:=qaP (by omega) (by omega)
   have e5:W64 (s*48271+code[j].val+1)=s*48271+code[j].val+1:=qaP (by omega) (by omega)
   rw [e3,e4,e5]
   have h4:=tm31 (show 0≤s*48271+code[j].val+1 by omega)
   exact EvQ.bindN (qiK (by omega)) (EvQ.done ⟨⟨⟨Int.tmod_nonneg _ h4.1,fun _=>Int.tmod_lt_of_pos _ (by omega)⟩,fun h=>by omega⟩,⟨by show (0:Int)≤((j+1:Nat):Int);omega,by show ((j+1:Nat):Int)≤_;omega,h4.1,h4.2⟩⟩)
 ·have e3:W64 (s*48271)=s*48271:=qaP (by omega) (by omega)
  have e4:W64 (s*48271+11)=s*48271+11:=qaP (by omega) (by omega)
  rw [e3,e4]
  have h4:=tm31 (show 0≤s*48271+11 by omega)
  have h5:0≤((s*48271+11).tmod 2147483647).tdiv 7:=Int.tdiv_nonneg h4.1 (by decide)
  have h6:((s*48271+11).tmod 2147483647).tdiv 7≤2147483646:=by
   rw [Int.tdiv_eq_ediv_of_nonneg h4.1];omega
  rw [qaP (x:=((s*48271+11).tmod 2147483647).tdiv 7) (by omega) (by omega)]
  exact EvQ.bindN (qiK (by omega)) (EvQ.done ⟨⟨⟨Int.tmod_nonneg _ h5,fun _=>Int.tmod_lt_of_pos _ (by omega)⟩,fun h=>by omega⟩,⟨a0,a1,h4.1,h4.2⟩⟩)
theorem qbC {α:Type} {ok:α→Prop} {xs:List α} {y:α} (h:∀ x,x ∈ xs→ok x) (hy:ok y):∀ x,x ∈ xs++[y]→ok x:=by
 intro x hx
 rcases List.mem_append.1 hx with hx|hx
 ·exact h x hx
 ·obtain rfl:=List.mem_singleton.1 hx;exact hy
theorem qcE {α:Type} {xs:List α} {y:α} (h:xs.length≤1048576):appS xs [y]=some (xs++[y]):=qb6 (by simp;omega)
section
variable {code:List (IntK .u8)} {a s:Int}
theorem qm2 {step:Int} (h0:1≤step) (h1:step≤1000) (hc:CodeOk code) (h:SrcI code a s) :
  EvQ (fun n=>qdJ n ⟨code,a,s⟩ step) (fun o=>(1≤o.1.length∧o.1.length≤3∧∀ x,x ∈ o.1→okI x)∧SrcI code o.2.1 o.2.2):=by
 have main:∀ (r:Nat) (x:List Int) (a' s' i9:Int),SrcI code a' s'→x.length+r≤3→(∀ y,y ∈ x→okI y)→okI i9 →
   EvQ (fun n=>qbK ⟨code,a,s⟩ step n x a' s' i9 (r:Int)) (fun o=>(o.1.length=x.length+r∧∀ y,y ∈ o.1→okI y)∧SrcI code o.2.1 o.2.2.1):=by
  intro r
  induction r with
  | zero =>
   intro x a' s' i9 hs hl hx hi
   refine EvQ.succ ?_
   simp only [qbK]
   exact EvQ.ff rfl (EvQ.done ⟨⟨rfl,hx⟩,hs⟩)
  | succ r ih =>
   intro x a' s' i9 hs hl hx hi
   refine EvQ.succ ?_
   simp only [qbK]
   refine EvQ.tt (by simp) (EvQ.bindN (qcE (by omega)) (EvQ.bind (qaQ step hc hs) ?_))
   rintro ⟨i11,i12,i13⟩ ⟨_,hs'⟩
   have e:W64 (((r+1:Nat):Int)-1)=(r:Int):=by rw [qaP (by omega) (by omega)];omega
   dsimp only
   rw [e]
   exact (ih (x++[i9]) i12 i13 _ hs' (by rw [ji,jj];omega) (qbC hx hi) (qdQ _)).mono (fun o ho=>⟨⟨by rw [ho.1.1,ji,jj];omega,ho.1.2⟩,ho.2⟩)
 unfold qdJ
 refine EvQ.bind (qaQ step hc h) ?_
 rintro ⟨i1,i2,i3⟩ ⟨⟨⟨p0,p1⟩,_⟩,hs⟩
 refine EvQ.bind (qaQ 3 hc hs) ?_
 rintro ⟨i4,i5,i6⟩ ⟨⟨⟨q0,q1⟩,_⟩,hs⟩
 dsimp only at p0 p1 q0 q1 hs ⊢
 have q2:=q1 (by decide)
 have p2:=p1 h0
 obtain ⟨m,hm⟩:∃ m:Nat,1+i4=((m+1:Nat):Int):=⟨i4.toNat,by omega⟩
 rw [wO (1+i4),hm]
 refine EvQ.bind (main (m+1) [] i5 i6 i1 hs (by simp;omega) (fun _ h=>by cases h) (qad (by omega) (by omega))) ?_
 rintro ⟨x1,i7,i8,i9,i10⟩ ⟨⟨r1,r2⟩,hs⟩
 exact EvQ.done ⟨⟨by simp only at r1;simp at r1;dsimp only;omega,by simp only at r1;simp at r1;dsimp only;omega,r2⟩,hs⟩
theorem qmU {c:Prop} [Decidable c] {x y:Int} (hx:okI x) (hy:okI y):okI (if c then x else y):=by split<;>assumption
theorem qmm {base:Int} (hc:CodeOk code) (h:SrcI code a s) :
  EvQ (fun n=>qfh n ⟨code,a,s⟩ base) (fun o=>qfa o.1∧SrcI code o.2.1 o.2.2):=by
 unfold qfh
 refine EvQ.bind (qm2 (by decide) (by decide) hc h) ?_
 rintro ⟨r1,i1,i2⟩ ⟨⟨l1,l2,l3⟩,hs⟩
 refine EvQ.bind (qm2 (by decide) (by decide) hc hs) ?_
 rintro ⟨r2,i3,i4⟩ ⟨⟨m1,m2,m3⟩,hs⟩
 dsimp only at l1 l2 l3 m1 m2 m3 hs ⊢
 have hM:r1.length*r2.length≤3*3:=Nat.mul_le_mul l2 m2
 have main:∀ (d j:Nat) (x:List Int) (a' s':Int),SrcI code a' s'→j+d=r1.length*r2.length→x.length=j→(∀ y,y ∈ x→okI y) →
   EvQ (fun n=>qcn ⟨code,a,s⟩ base r1 r2 n x a' s' (j:Int)) (fun o=>(o.1.length≤9∧∀ y,y ∈ o.1→okI y)∧SrcI code o.2.1 o.2.2.1):=by
  intro d
  induction d with
  | zero =>
   intro j x a' s' hs hj hx hok
   refine EvQ.succ ?_
   simp only [qcn,qjJ (show r1.length≤1048576 by omega) (show r2.length≤1048576 by omega)]
   have h9:x.length≤9:=by omega
   exact EvQ.ff (qn (by omega)) (EvQ.done ⟨⟨h9,hok⟩,hs⟩)
  | succ d ih =>
   intro j x a' s' hs hj hx hok
   refine EvQ.succ ?_
   simp only [qcn,qjJ (show r1.length≤1048576 by omega) (show r2.length≤1048576 by omega)]
   refine EvQ.tt (qm (by omega)) (EvQ.bind (qaQ 10 hc hs) ?_)
   rintro ⟨i8,i9,i10⟩ ⟨⟨⟨q0,q1⟩,_⟩,hs⟩
   dsimp only at q0 q1 hs ⊢
   refine EvQ.bindN (b:=((j % r2.length:Nat):Int)) (by rw [qiK (by omega),Int.ofNat_tmod]) ?_
   refine EvQ.bind (R:=fun o:Int × Int × Int=>SrcI code o.1 o.2.1∧okI o.2.2) ?_ ?_
   ·refine EvQ.bif (fun hc1=>?_) (fun _=>EvQ.done ⟨hs,qdQ _⟩)
    have hj1:1≤j:=by
     rcases Nat.eq_zero_or_pos j with rfl|h2
     ·simp at hc1
     ·exact h2
    have e1:W64 ((j:Int)-1)=((j-1:Nat):Int):=by rw [qaP (by omega) (by omega)];omega
    rw [e1]
    refine EvQ.bindN (qa8 (show j-1<x.length by omega)) (EvQ.bind (qaQ 20 hc hs) ?_)
    rintro ⟨i17,i18,i19⟩ ⟨_,hs⟩
    exact EvQ.done ⟨hs,qmU (qdQ _) (qdQ _)⟩
   ·rintro ⟨i11,i12,i13⟩ ⟨hs,hi⟩
    dsimp only at hs hi ⊢
    rw [wS j]
    refine EvQ.bif (fun hc1=>?_) (fun _=>?_)
    ·have hge:r2.length≤j:=by have:=of_decide_eq_true hc1;omega
     have e1:W64 ((j:Int)-(r2.length:Int))=((j-r2.length:Nat):Int):=by rw [qaP (by omega) (by omega)];omega
     rw [e1]
     refine EvQ.bindN (qa8 (show j-r2.length<x.length by omega)) (EvQ.bind (qaQ 20 hc hs) ?_)
     rintro ⟨i14,i15,i16⟩ ⟨_,hs⟩
     refine EvQ.bindN (qcE (by omega)) ?_
     exact ih (j+1) _ _ _ hs (by omega) (by rw [ji,jj];omega) (qbC hok (qmU (qdQ _) hi))
    ·refine EvQ.bindN (qcE (by omega)) ?_
     exact ih (j+1) _ _ _ hs (by omega) (by rw [ji,jj];omega) (qbC hok hi)
 refine EvQ.bind (main (r1.length*r2.length) 0 [] i3 i4 hs (by omega) rfl (fun _ h=>by cases h)) ?_
 rintro ⟨x1,i5,i6,i7⟩ ⟨⟨n1,n2⟩,hs⟩
 dsimp only at n1 n2 hs
 exact EvQ.done ⟨⟨⟨by dsimp only;omega,l3⟩,⟨by dsimp only;omega,m3⟩,⟨by dsimp only;omega,n2⟩⟩,hs⟩
theorem qka {base:Int} (hc:CodeOk code) (h:SrcI code a s) :
  EvQ (fun n=>qb1 n ⟨code,a,s⟩ base) (fun o=>okL qfa o.1∧SrcI code o.2.1 o.2.2):=by
 unfold qb1
 refine EvQ.bind (qmm hc h) ?_
 rintro ⟨r1,i1,i2⟩ ⟨h1,hs⟩
 refine EvQ.bind (qmm hc hs) ?_
 rintro ⟨r2,i3,i4⟩ ⟨h2,hs⟩
 refine EvQ.done ⟨⟨by simp,fun x hx=>?_⟩,hs⟩
 rcases List.mem_cons.1 hx with rfl|hx
 ·exact h1
 ·obtain rfl:=List.mem_singleton.1 hx;exact h2
theorem qle {kind f t sense:Int} (hk:okI kind) (hf:okI f) (ht:okI t) (hse:okI sense) (hc:CodeOk code) (h:SrcI code a s) :
  EvQ (fun n=>qbQ n ⟨code,a,s⟩ kind f t sense) (fun o=>qhi o.1∧SrcI code o.2.1 o.2.2):=by
 unfold qbQ
 refine EvQ.bif (fun _=>?_) (fun _=>?_)
 ·refine EvQ.bind (qaQ 10 hc h) ?_
  rintro ⟨i1,i2,i3⟩ ⟨_,hs⟩
  refine EvQ.bind (qka hc hs) ?_
  rintro ⟨r1,i4,i5⟩ ⟨h1,hs⟩
  exact EvQ.done ⟨⟨hk,hf,ht,qad (x:=0) (by decide) (by decide),h1,⟨jJ _,fun _ h=>by cases h⟩⟩,hs⟩
 ·refine EvQ.bind (qaQ 20 hc h) ?_
  rintro ⟨i6,i7,i8⟩ ⟨_,hs⟩
  refine EvQ.bind (qka hc hs) ?_
  rintro ⟨r2,i9,i10⟩ ⟨h2,hs⟩
  refine EvQ.bind (qka hc hs) ?_
  rintro ⟨r3,i11,i12⟩ ⟨h3,hs⟩
  exact EvQ.done ⟨⟨hk,hf,ht,hse,h2,h3⟩,hs⟩
end
end Go.Fw


namespace Go.Fw
open Go
set_option maxRecDepth 100000
section
variable {code:List (IntK .u8)} {a s:Int}
theorem qnL {q:Nat} (h:q≤8):W64 (2*(q:Int))=((q*2:Nat):Int):=by rw [qaP (by omega) (by omega)];omega
theorem Ev.add {α:Type} {f:Nat→Option α} {r:α} (k:Nat) (h:∀ m,f (m+k)=some r):Ev f r :=
 ⟨k,fun n hn=>by obtain ⟨m,rfl⟩:∃ m,n=m+k:=⟨n-k,by omega⟩;exact h m⟩
def SenseOk (k:Nat) (truth:List Int):Prop:=∀ (nm:ByteArray) (ps:List qQ) (i j:Int) (p:Nat),p<k→EvQ (fun n=>qgM n ⟨nm,1,ps,[],truth,i,j⟩ (p:Int)) okI
theorem qj8 {k:Nat} {nm:ByteArray} {truth:List Int} (hk:k≤3) (hl:truth.length=2 ^ k) (hs0:SenseOk k truth) (hnm:okS nm) (htr:∀ x,x ∈ truth→okI x) (hc:CodeOk code) (h:SrcI code a s) :
  EvQ (fun n=>qdn n ⟨code,a,s⟩ nm truth) (fun o=>qhZ o.1∧SrcI code o.2.1 o.2.2):=by
 have hk8:(2:Nat) ^ k≤8:=by
  have:(2:Nat) ^ k≤2 ^ 3:=Nat.pow_le_pow_right (by decide) hk
  simpa using this
 have pins:∀ (d j:Nat) (x:List qQ) (a' s':Int),SrcI code a' s'→j+d=k→x.length=j→(∀ y,y ∈ x→qhd y) →
   EvQ (fun n=>qc2 ⟨code,a,s⟩ truth n x a' s' ((2 ^ j:Nat):Int)) (fun o=>(o.1.length=k∧∀ y,y ∈ o.1→qhd y)∧SrcI code o.2.1 o.2.2.1):=by
  intro d
  induction d with
  | zero =>
   intro j x a' s' hs hj hx hok
   refine EvQ.succ ?_
   simp only [qc2]
   have:j=k:=by omega
   subst this
   exact EvQ.ff (qn (by omega)) (EvQ.done ⟨⟨hx,hok⟩,hs⟩)
  | succ d ih =>
   intro j x a' s' hs hj hx hok
   refine EvQ.succ ?_
   simp only [qc2]
   have hlt:(2:Nat) ^ j<2 ^ k:=Nat.pow_lt_pow_right (by decide) (by omega)
   refine EvQ.tt (qm (by omega)) ?_
   have hj4:j<4:=by omega
   refine EvQ.bindN (b:=([(⟨#[97]⟩:ByteArray),(⟨#[98]⟩:ByteArray),(⟨#[99]⟩:ByteArray),(⟨#[100]⟩:ByteArray)]:List ByteArray)[j]'(by simpa using hj4)) (by rw [hx];exact qa8 (by simpa using hj4)) (EvQ.bind (qaQ 9 hc hs) ?_)
   rintro ⟨i10,i11,i12⟩ ⟨_,hs⟩
   refine EvQ.bindN (qcE (by omega)) ?_
   have e:W64 (2*((2 ^ j:Nat):Int))=((2 ^ (j+1):Nat):Int):=by
    rw [Nat.pow_succ];exact qnL (by omega)
   dsimp only
   rw [e]
   refine ih (j+1) _ _ _ hs (by omega) (by rw [ji,jj];omega) (qbC hok ⟨?_,qad (x:=1) (by decide) (by decide),qdQ _,trivial⟩)
   rcases j with _|_|_|_|j
   ·show (1:Nat)≤1048576;decide
   ·show (1:Nat)≤1048576;decide
   ·show (1:Nat)≤1048576;decide
   ·show (1:Nat)≤1048576;decide
   ·omega
 unfold qdn
 refine EvQ.bind (qaQ 50 hc h) ?_
 rintro ⟨i1,i2,i3⟩ ⟨⟨⟨p0,p1⟩,_⟩,hs⟩
 refine EvQ.bind (qaQ 80 hc hs) ?_
 rintro ⟨i4,i5,i6⟩ ⟨⟨⟨q0,q1⟩,_⟩,hs⟩
 dsimp only at p0 p1 q0 q1
 have p2:=p1 (by decide)
 have q2:=q1 (by decide)
 refine EvQ.bind (pins k 0 [] i5 i6 hs (by omega) rfl (fun _ h=>by cases h)) ?_
 rintro ⟨x1,i7,i8,i9⟩ ⟨⟨hx1,hok1⟩,hs⟩
 dsimp only at hx1 hok1 hs ⊢
 refine EvQ.bindN (qcE (by omega)) ?_
 have arcs:∀ (d j:Nat) (x:List qS) (a' s':Int),SrcI code a' s'→j+d=k→x.length≤j→(∀ y,y ∈ x→qhi y) →
   EvQ (fun n=>qct ⟨code,a,s⟩ nm truth i1 i4 x1 (x1++[(⟨(⟨#[121]⟩:ByteArray),2,0,false⟩:qQ)]) n x a' s' (j:Int)) (fun o=>(o.1.length≤k∧∀ y,y ∈ o.1→qhi y)∧SrcI code o.2.1 o.2.2.1):=by
  intro d
  induction d with
  | zero =>
   intro j x a' s' hs hj hx hok
   refine EvQ.succ ?_
   simp only [qct]
   have h9:x.length≤k:=by omega
   exact EvQ.ff (qn (by omega)) (EvQ.done ⟨⟨h9,hok⟩,hs⟩)
  | succ d ih =>
   intro j x a' s' hs hj hx hok
   refine EvQ.succ ?_
   simp only [qct,wS j]
   refine EvQ.tt (qm (by omega)) (EvQ.bind (hs0 _ _ _ _ j (by omega)) (fun r1 hr1=>?_))
   refine EvQ.bif (fun _=>?_) (fun _=>ih (j+1) x a' s' hs (by omega) (by omega) hok)
   refine EvQ.bind (qle (qad (by decide) (by decide)) (qad (by omega) (by omega)) (qad (by omega) (by omega)) hr1 hc hs) ?_
   rintro ⟨r2,i16,i17⟩ ⟨h2,hs⟩
   refine EvQ.bindN (qcE (by omega)) ?_
   exact ih (j+1) _ _ _ hs (by omega) (by rw [ji,jj];omega) (qbC hok h2)
 refine EvQ.bind (arcs k 0 [] i7 i8 hs (by omega) (jJ _) (fun _ h=>by cases h)) ?_
 rintro ⟨x4,i13,i14,i15⟩ ⟨⟨hx4,hok4⟩,hs⟩
 dsimp only at hx4 hok4 hs
 refine EvQ.done ⟨⟨hnm,qad (x:=1) (by decide) (by decide),⟨?_,?_⟩,⟨?_,hok4⟩,⟨?_,htr⟩,qad (x:=i1) (by omega) (by omega),qad (x:=i4) (by omega) (by omega)⟩,hs⟩
 ·show (x1++_).length≤_
  rw [ji,jj];omega
 ·exact qbC hok1 ⟨by show (1:Nat)≤1048576;decide,qad (x:=2) (by decide) (by decide),qad (x:=0) (by decide) (by decide),trivial⟩
 ·show x4.length≤_;omega
 ·show truth.length≤_;omega
theorem qhU {xs:List Int} (h:xs.all (fun x=>decide (-1000≤x)&&decide (x≤1000))=true):∀ x,x ∈ xs→okI x:=by
 intro x hx
 have:=List.all_eq_true.1 h x hx
 simp only [jg,decide_eq_true_eq] at this
 exact qad (by omega) (by omega)
theorem qlT {nm:ByteArray} {kind edge:Int} (hnm:okS nm) (hk:okI kind) (he:okI edge) (hc:CodeOk code) (h:SrcI code a s) :
  EvQ (fun n=>qcJ n ⟨code,a,s⟩ nm kind edge) (fun o=>qhZ o.1∧SrcI code o.2.1 o.2.2):=by
 have z:∀ x:Int,-1000≤x→x≤1000→okI x:=fun x h1 h2=>qad (by omega) (by omega)
 unfold qcJ
 refine EvQ.bind (qaQ 50 hc h) ?_
 rintro ⟨i1,i2,i3⟩ ⟨⟨⟨p0,p1⟩,_⟩,hs⟩
 refine EvQ.bind (qaQ 80 hc hs) ?_
 rintro ⟨i4,i5,i6⟩ ⟨⟨⟨q0,q1⟩,_⟩,hs⟩
 dsimp only at p0 p1 q0 q1
 have p2:=p1 (by decide)
 have q2:=q1 (by decide)
 refine EvQ.bind (qaQ 9 hc hs) ?_
 rintro ⟨i7,i8,i9⟩ ⟨_,hs⟩
 refine EvQ.bind (qaQ 9 hc hs) ?_
 rintro ⟨i10,i11,i12⟩ ⟨_,hs⟩
 refine EvQ.bind (qle he (z _ (by decide) (by decide)) (z _ (by decide) (by decide)) (z _ (by decide) (by decide)) hc hs) ?_
 rintro ⟨r1,i13,i14⟩ ⟨h1,hs⟩
 refine EvQ.bind (qle (z _ (by decide) (by decide)) (z _ (by decide) (by decide)) (z _ (by decide) (by decide)) (z _ (by decide) (by decide)) hc hs) ?_
 rintro ⟨r2,i15,i16⟩ ⟨h2,hs⟩
 refine EvQ.bind (qle (z _ (by decide) (by decide)) (z _ (by decide) (by decide)) (z _ (by decide) (by decide)) (z _ (by decide) (by decide)) hc hs) ?_
 rintro ⟨r3,i17,i18⟩ ⟨h3,hs⟩
 dsimp only at h1 h2 h3 hs ⊢
 have ha:∀ x,x ∈ [r1,r2,r3]→qhi x:=by
  intro x hx
  simp only [jH,jy,or_false] at hx
  rcases hx with rfl|rfl|rfl<;>assumption
 have hp:∀ x,x ∈ [(⟨(⟨#[100]⟩:ByteArray),1,W64 (1+i7),false⟩:qQ),(⟨(⟨#[99,107]⟩:ByteArray),1,W64 (1+i10),true⟩:qQ),(⟨(⟨#[113]⟩:ByteArray),2,0,false⟩:qQ)]→qhd x:=by
  intro x hx
  simp only [jH,jy,or_false] at hx
  rcases hx with rfl|rfl|rfl
  ·exact ⟨by show (1:Nat)≤1048576;decide,z 1 (by decide) (by decide),qdQ _,trivial⟩
  ·exact ⟨by show (2:Nat)≤1048576;decide,z 1 (by decide) (by decide),qdQ _,trivial⟩
  ·exact ⟨by show (1:Nat)≤1048576;decide,z 2 (by decide) (by decide),z 0 (by decide) (by decide),trivial⟩
 refine EvQ.bif (fun _=>?_) (fun _=>?_)
 ·refine EvQ.bind (qle (z _ (by decide) (by decide)) (z _ (by decide) (by decide)) (z _ (by decide) (by decide)) (z _ (by decide) (by decide)) hc hs) ?_
  rintro ⟨r4,i19,i20⟩ ⟨h4,hs⟩
  refine EvQ.bindN (qcE (by simp)) ?_
  exact EvQ.done ⟨⟨hnm,hk,⟨by simp,hp⟩,⟨by simp,qbC ha h4⟩,⟨jJ _,fun _ h=>by cases h⟩,z i1 (by omega) (by omega),z i4 (by omega) (by omega)⟩,hs⟩
 ·exact EvQ.done ⟨⟨hnm,hk,⟨by simp,hp⟩,⟨by simp,ha⟩,⟨jJ _,fun _ h=>by cases h⟩,z i1 (by omega) (by omega),z i4 (by omega) (by omega)⟩,hs⟩
theorem sense1a:SenseOk 1 [1,0]:=by
 intro nm ps i j p hp
 obtain rfl:p=0:=by omega
 exact ⟨_,Ev.add 4 (fun m=>rfl),qad (by decide) (by decide)⟩
theorem sense1b:SenseOk 1 [0,1]:=by
 intro nm ps i j p hp
 obtain rfl:p=0:=by omega
 exact ⟨_,Ev.add 4 (fun m=>rfl),qad (by decide) (by decide)⟩
theorem sense2a:SenseOk 2 [1,1,1,0]:=by
 intro nm ps i j p hp
 rcases p with _|_|p
 ·exact ⟨_,Ev.add 8 (fun m=>rfl),qad (by decide) (by decide)⟩
 ·exact ⟨_,Ev.add 8 (fun m=>rfl),qad (by decide) (by decide)⟩
 ·omega
theorem sense2b:SenseOk 2 [0,1,1,0]:=by
 intro nm ps i j p hp
 rcases p with _|_|p
 ·exact ⟨_,Ev.add 8 (fun m=>rfl),qad (by decide) (by decide)⟩
 ·exact ⟨_,Ev.add 8 (fun m=>rfl),qad (by decide) (by decide)⟩
 ·omega
theorem sense3:SenseOk 3 [0,1,0,1,0,0,1,1]:=by
 intro nm ps i j p hp
 rcases p with _|_|_|p
 ·exact ⟨_,Ev.add 12 (fun m=>rfl),qad (by decide) (by decide)⟩
 ·exact ⟨_,Ev.add 12 (fun m=>rfl),qad (by decide) (by decide)⟩
 ·exact ⟨_,Ev.add 12 (fun m=>rfl),qad (by decide) (by decide)⟩
 ·omega
theorem qoE (hc:CodeOk code) (h:SrcI code a s):EvQ (fun n=>qgd n ⟨code,a,s⟩) (fun o=>qek o.1∧SrcI code o.2.1 o.2.2):=by
 have z:∀ x:Int,-1000≤x→x≤1000→okI x:=fun x h1 h2=>qad (by omega) (by omega)
 unfold qgd
 refine EvQ.bind (qj8 (k:=1) (by decide) rfl sense1a (by show (3:Nat)≤1048576;decide) (qhU rfl) hc h) ?_
 rintro ⟨r1,i1,i2⟩ ⟨h1,hs⟩
 refine EvQ.bind (qj8 (k:=1) (by decide) rfl sense1b (by show (3:Nat)≤1048576;decide) (qhU rfl) hc hs) ?_
 rintro ⟨r2,i3,i4⟩ ⟨h2,hs⟩
 refine EvQ.bind (qj8 (k:=2) (by decide) rfl sense2a (by show (4:Nat)≤1048576;decide) (qhU rfl) hc hs) ?_
 rintro ⟨r3,i5,i6⟩ ⟨h3,hs⟩
 refine EvQ.bind (qj8 (k:=2) (by decide) rfl sense2b (by show (3:Nat)≤1048576;decide) (qhU rfl) hc hs) ?_
 rintro ⟨r4,i7,i8⟩ ⟨h4,hs⟩
 refine EvQ.bind (qj8 (k:=3) (by decide) rfl sense3 (by show (3:Nat)≤1048576;decide) (qhU rfl) hc hs) ?_
 rintro ⟨r5,i9,i10⟩ ⟨h5,hs⟩
 refine EvQ.bind (qlT (by show (4:Nat)≤1048576;decide) (z _ (by decide) (by decide)) (z _ (by decide) (by decide)) hc hs) ?_
 rintro ⟨r6,i11,i12⟩ ⟨h6,hs⟩
 refine EvQ.bind (qlT (by show (5:Nat)≤1048576;decide) (z _ (by decide) (by decide)) (z _ (by decide) (by decide)) hc hs) ?_
 rintro ⟨r7,i13,i14⟩ ⟨h7,hs⟩
 refine EvQ.bind (qlT (by show (5:Nat)≤1048576;decide) (z _ (by decide) (by decide)) (z _ (by decide) (by decide)) hc hs) ?_
 rintro ⟨r8,i15,i16⟩ ⟨h8,hs⟩
 refine EvQ.done ⟨⟨⟨by simp,fun x hx=>?_⟩⟩,hs⟩
 simp only [jH,jy,or_false] at hx
 rcases hx with rfl|rfl|rfl|rfl|rfl|rfl|rfl|rfl<;>assumption
end
end Go.Fw


namespace Go.Fw
open Go
set_option maxRecDepth 100000
section
variable {code:List (IntK .u8)} {a s:Int}
theorem qh7 (b:IntK .u8):(strOf [b]).size=1:=rfl
theorem qkX {x y:ByteArray} (h:x.size+y.size≤1048576):catB x y=some (x++y):=by
 unfold catB
 rw [if_pos]
 have:IntKind.i64.max=9223372036854775807:=rfl
 omega
theorem qm8:∀ (d:Nat) (k:Int),d≤15→0≤k→k<((10 ^ (d+1):Nat):Int)→EvQ (fun n=>qaS n k) (fun z=>z.size≤d+1):=by
 intro d
 induction d with
 | zero =>
  intro k hd h0 h1
  refine EvQ.succ ?_
  simp only [qaS]
  refine EvQ.ff (by simp;omega) (EvQ.tt (by simp;omega) (EvQ.done ?_))
  rw [qh7]
  exact jf _
 | succ d ih =>
  intro k hd h0 h1
  refine EvQ.succ ?_
  simp only [qaS]
  refine EvQ.ff (by simp;omega) (EvQ.bif (fun _=>EvQ.done (by rw [qh7];omega)) (fun h2=>?_))
  have hp:(10:Nat) ^ (d+1+1)≤10 ^ 17:=Nat.pow_le_pow_right (by decide) (by omega)
  have hk:k≤9223372036854775807:=by
   have:(10:Nat) ^ 17≤9223372036854775807:=by decide
   omega
  have e:k.tdiv 10=k / 10:=Int.tdiv_eq_ediv_of_nonneg h0
  have e1:W64 (k.tdiv 10)=k / 10:=by rw [e];exact qaP (by omega) (by omega)
  rw [e1]
  have hlt:k / 10<((10 ^ (d+1):Nat):Int):=by rw [Nat.pow_succ] at h1;omega
  refine EvQ.bind (ih (k / 10) (by omega) (by omega) hlt) (fun r2 hr2=>?_)
  refine EvQ.bindN (qkX (by rw [qh7];omega)) (EvQ.done ?_)
  rw [ByteArray.size_append,qh7]
  omega
theorem qmk {k:Nat} (h:k≤1000):EvQ (fun n=>qaS n (k:Int)) (fun z=>z.size≤4):=qm8 3 k (by decide) (by omega) (by omega)
theorem qnG {y:Int} (h0:0≤y) (h1:y≤7):∃ p:Nat,idx ([2,2,3,3,4,3,3,3]:List Int) y=some (p:Int)∧2≤p∧p≤4:=by
 have:y=0∨y=1∨y=2∨y=3∨y=4∨y=5∨y=6∨y=7:=by omega
 rcases this with rfl|rfl|rfl|rfl|rfl|rfl|rfl|rfl
 ·exact ⟨2,rfl,by decide,by decide⟩
 ·exact ⟨2,rfl,by decide,by decide⟩
 ·exact ⟨3,rfl,by decide,by decide⟩
 ·exact ⟨3,rfl,by decide,by decide⟩
 ·exact ⟨4,rfl,by decide,by decide⟩
 ·exact ⟨3,rfl,by decide,by decide⟩
 ·exact ⟨3,rfl,by decide,by decide⟩
 ·exact ⟨3,rfl,by decide,by decide⟩
theorem qnx {y:Int} (h0:0≤y) (h1:y<12):∃ p:Int,idx ([0,1,2,2,3,4,5,5,5,6,7,1]:List Int) y=some p∧0≤p∧p≤7:=by
 have:y=0∨y=1∨y=2∨y=3∨y=4∨y=5∨y=6∨y=7∨y=8∨y=9∨y=10∨y=11:=by omega
 rcases this with rfl|rfl|rfl|rfl|rfl|rfl|rfl|rfl|rfl|rfl|rfl|rfl<;>exact ⟨_,rfl,by decide,by decide⟩
theorem qg8 {α:Type} {xs:List α} (h:xs.length≤1048576):appS ([]:List α) xs=some xs:=by
 have:=qb6 (xs:=([]:List α)) (ys:=xs) (by simp;omega)
 rwa [List.nil_append] at this
theorem qog {x2:List ByteArray} {y1:Int} {p:Nat} (hp:idx ([2,2,3,3,4,3,3,3]:List Int) y1=some (p:Int)) (h2:2≤p) (h4:p≤4) (hx2:x2.length≤100) (hc:CodeOk code) :
  ∀ (d j:Nat) (x:List Int) (a' s':Int),SrcI code a' s'→j+d+1=p→x.length=j→(∀ y,y ∈ x→okI y) →
   EvQ (fun n=>qck ⟨code,a,s⟩ x2 y1 n x a' s' (j:Int)) (fun o=>(o.1.length+1=p∧∀ y,y ∈ o.1→okI y)∧SrcI code o.2.1 o.2.2.1):=by
 have ep:W64 ((p:Int)-1)=((p-1:Nat):Int):=by rw [qaP (by omega) (by omega)];omega
 intro d
 induction d with
 | zero =>
  intro j x a' s' hs hj hx hok
  refine EvQ.succ ?_
  simp only [qck]
  refine EvQ.bindN hp ?_
  rw [ep]
  exact EvQ.ff (qn (by omega)) (EvQ.done ⟨⟨by dsimp only;omega,hok⟩,hs⟩)
 | succ d ih =>
  intro j x a' s' hs hj hx hok
  refine EvQ.succ ?_
  simp only [qck]
  refine EvQ.bindN hp ?_
  rw [ep]
  refine EvQ.tt (qm (by omega)) (EvQ.bind (qaQ _ hc hs) ?_)
  rintro ⟨i13,i14,i15⟩ ⟨_,hs⟩
  refine EvQ.bind (qaQ 3 hc hs) ?_
  rintro ⟨i16,i17,i18⟩ ⟨_,hs⟩
  refine EvQ.bind (R:=okI) (EvQ.bif (fun _=>EvQ.done (qdQ _)) (fun _=>EvQ.done (qdQ _))) (fun i19 hi=>?_)
  refine EvQ.bind (R:=fun _=>True) (EvQ.bif (fun _=>EvQ.done trivial) (fun _=>EvQ.done trivial)) (fun b3 _=>?_)
  rw [wS j]
  refine EvQ.bif (fun _=>?_) (fun _=>?_)
  ·exact EvQ.bindN (qg8 (by omega)) (EvQ.bindN (qcE (by omega)) (ih (j+1) _ _ _ hs (by omega) (by rw [ji,jj];omega) (qbC hok (qad (by decide) (by decide)))))
  ·exact EvQ.bindN (qg8 (by omega)) (EvQ.bindN (qcE (by omega)) (ih (j+1) _ _ _ hs (by omega) (by rw [ji,jj];omega) (qbC hok hi)))
structure InsI (x:ql):Prop where
 ok:qjm x
 l2:2≤x.Ai.length
 l5:x.Ai.length≤5
theorem qnY (hc:CodeOk code):∀ (r:Nat) (x2:List ByteArray) (x3:List ql) (a' s':Int),SrcI code a' s'→x3.length+r≤14→x2.length=x3.length+3→(∀ y,y ∈ x2→okS y)→(∀ y,y ∈ x3→InsI y) →
  EvQ (fun n=>qc3 ⟨code,a,s⟩ n x2 x3 a' s' (r:Int)) (fun o=>(o.1.length=o.2.1.length+3∧o.2.1.length=x3.length+r∧(∀ y,y ∈ o.1→okS y)∧∀ y,y ∈ o.2.1→InsI y)∧SrcI code o.2.2.1 o.2.2.2.1):=by
 intro r
 induction r with
 | zero =>
  intro x2 x3 a' s' hs hl h23 h2 h3
  refine EvQ.succ ?_
  simp only [qc3]
  exact EvQ.ff rfl (EvQ.done ⟨⟨h23,rfl,h2,h3⟩,hs⟩)
 | succ r ih =>
  intro x2 x3 a' s' hs hl h23 h2 h3
  refine EvQ.succ ?_
  simp only [qc3]
  refine EvQ.tt (by simp) (EvQ.bind (qaQ 12 hc hs) ?_)
  rintro ⟨i7,i8,i9⟩ ⟨⟨⟨q0,q1⟩,_⟩,hs⟩
  dsimp only at q0 q1 hs ⊢
  obtain ⟨y1,hy1,y10,y17⟩:=qnx q0 (q1 (by decide))
  obtain ⟨p,hp,p2,p4⟩:=qnG y10 y17
  refine EvQ.bindN hy1 (EvQ.bind (qmk (show x3.length≤1000 by omega)) (fun r1 hr1=>?_))
  have z1:(⟨#[117]⟩:ByteArray).size=1:=rfl
  have z2:(⟨#[110]⟩:ByteArray).size=1:=rfl
  refine EvQ.bindN (qkX (by rw [z1];omega)) (EvQ.bind (qog hp p2 p4 (by omega) hc (p-1) 0 [] i8 i9 hs (by omega) rfl (fun _ h=>by cases h)) ?_)
  rintro ⟨x4,i10,i11,i12⟩ ⟨⟨hx4,hok4⟩,hs⟩
  dsimp only at hx4 hok4 hs ⊢
  refine EvQ.bindN (qg8 (by omega)) (EvQ.bindN (qcE (by omega)) (EvQ.bind (qmk (show x2.length≤1000 by omega)) (fun r2 hr2=>?_)))
  refine EvQ.bindN (qkX (by rw [z2];omega)) (EvQ.bindN (qcE (by omega)) (EvQ.bindN (qcE (by omega)) ?_))
  have e:W64 (((r+1:Nat):Int)-1)=(r:Int):=by rw [qaP (by omega) (by omega)];omega
  rw [e]
  refine (ih _ _ _ _ hs (by rw [ji,jj];omega) (by rw [ji,ji,jj,jj];omega) (qbC h2 (by show (_++_:ByteArray).size≤_;rw [ByteArray.size_append,z2];omega))
   (qbC h3 ⟨⟨by show (_++_:ByteArray).size≤_;rw [ByteArray.size_append,z1];omega,qad (x:=y1) (by omega) (by omega),⟨by show (_++_:List Int).length≤_;rw [ji,jj];omega,qbC hok4 (qad (by omega) (by omega))⟩⟩,by show _≤(_++_:List Int).length;rw [ji,jj];omega,by show (_++_:List Int).length≤_;rw [ji,jj];omega⟩)).mono (fun o ho=>⟨⟨ho.1.1,by rw [ho.1.2.1,ji,jj];omega,ho.1.2.2⟩,ho.2⟩)
theorem qfM {α:Type} {ok:α→Prop} {xs:List α} {j:Int} {y:α} (h:∀ x,x ∈ xs→ok x) (hy:ok y):∀ x,x ∈ setS xs j y→ok x:=by
 intro x hx
 unfold setS at hx
 rcases List.mem_or_eq_of_mem_set hx with hx|rfl
 ·exact h x hx
 ·exact hy
theorem qoA {wild:Bool} {x2:List ByteArray} {x3:List ql} (hl:x3.length≤14) (hx2:x2.length≤100) (hc:CodeOk code):∀ (d j:Nat) (x:List ql) (a' s':Int),SrcI code a' s'→j+d=x3.length→x.length=x3.length→(∀ y,y ∈ x→InsI y) →
  EvQ (fun n=>qcq ⟨code,a,s⟩ wild x2 x3 n x a' s' (j:Int)) (fun o=>(o.1.length=x3.length∧∀ y,y ∈ o.1→InsI y)∧SrcI code o.2.1 o.2.2.1):=by
 intro d
 induction d with
 | zero =>
  intro j x a' s' hs hj hx hok
  refine EvQ.succ ?_
  simp only [qcq]
  exact EvQ.ff (qn (by omega)) (EvQ.done ⟨⟨hx,hok⟩,hs⟩)
 | succ d ih =>
  intro j x a' s' hs hj hx hok
  have hjx:j<x.length:=by omega
  refine EvQ.succ ?_
  simp only [qcq,wS j]
  refine EvQ.tt (qm (by omega)) (EvQ.bind (R:=fun o:Int × Int × Bool=>SrcI code o.1 o.2.1) (EvQ.bind (qaQ 4 hc hs) ?_) ?_)
  ·rintro ⟨i28,i29,i30⟩ ⟨_,hs⟩
   refine EvQ.bif (fun _=>?_) (fun _=>EvQ.done hs)
   refine EvQ.bindN (qa8 hjx) (EvQ.bif (fun _=>EvQ.done hs) (fun _=>EvQ.bindN (qa8 hjx) (EvQ.bif (fun _=>EvQ.done hs) (fun _=>EvQ.done hs))))
  ·rintro ⟨i23,i24,b4⟩ hs
   dsimp only at hs ⊢
   refine EvQ.bif (fun _=>?_) (fun _=>ih (j+1) x _ _ hs (by omega) hx hok)
   refine EvQ.bindN (qa8 hjx) (EvQ.bind (qaQ _ hc hs) ?_)
   rintro ⟨i25,i26,i27⟩ ⟨_,hs⟩
   have hi:=hok _ (jq hjx)
   have h0:0<x[j].Ai.length:=by have:=hi.l2;omega
   refine EvQ.bindN (b:=x[j].Ai[0]) (qa8 (j:=0) h0) ?_
   refine ih (j+1) _ _ _ hs (by omega) (by rw [qcx];exact hx) (qfM hok ⟨⟨hi.ok.Ar,hi.ok.Av,⟨by show (setS _ _ _).length≤_;rw [qcx];exact hi.ok.Ai.1,qfM hi.ok.Ai.2 (qdQ _)⟩⟩,by show _≤(setS _ _ _).length;rw [qcx];exact hi.l2,by show (setS _ _ _).length≤_;rw [qcx];exact hi.l5⟩)
structure DesI (d:qc):Prop where
 ok:qgj d
 sm:smallD d
 n1:1≤d.Ai.length
 p1:1≤d.Af.length
theorem qmV {most:Int} {wild:Bool} (h2:2≤most) (h14:most≤14) (hc:CodeOk code) (h:SrcI code a s) :
  EvQ (fun n=>qf9 n ⟨code,a,s⟩ most wild) (fun o=>DesI o.1∧SrcI code o.2.1 o.2.2):=by
 have z:∀ x:Int,-1000≤x→x≤1000→okI x:=fun x h1 h2=>qad (by omega) (by omega)
 unfold qf9
 refine EvQ.bindN (qg8 (by simp)) (EvQ.bind (qaQ _ hc h) ?_)
 rintro ⟨i1,i2,i3⟩ ⟨⟨⟨q0,q1⟩,_⟩,hs⟩
 have em:W64 (most-1)=most-1:=qaP (by omega) (by omega)
 rw [em] at q1
 dsimp only at q0 q1 hs ⊢
 have q2:=q1 (by omega)
 obtain ⟨m,hm⟩:∃ m:Nat,2+i1=(m:Int):=⟨(2+i1).toNat,by omega⟩
 rw [wO (2+i1),hm]
 have hn0:∀ y,y ∈ [(⟨#[110,99,107]⟩:ByteArray),(⟨#[110,97]⟩:ByteArray),(⟨#[110,98]⟩:ByteArray)]→okS y:=by
  intro y hy
  simp only [jH,jy,or_false] at hy
  rcases hy with rfl|rfl|rfl
  ·show (3:Nat)≤1048576;decide
  ·show (2:Nat)≤1048576;decide
  ·show (2:Nat)≤1048576;decide
 refine EvQ.bind (qnY hc m _ [] i2 i3 hs (by simp;omega) rfl hn0 (fun _ h=>by cases h)) ?_
 rintro ⟨x2,x3,i4,i5,i6⟩ ⟨⟨l23,l3,hn,hi⟩,hs⟩
 dsimp only at l23 l3 hn hi hs ⊢
 have l3:x3.length=m:=by simpa using l3
 refine EvQ.bind (qoA (wild:=wild) (by omega) (by omega) hc x3.length 0 x3 i4 i5 hs (by omega) rfl hi) ?_
 rintro ⟨x13,i20,i21,i22⟩ ⟨⟨l13,h13⟩,hs⟩
 dsimp only at l13 h13 hs ⊢
 have hp:∀ y,y ∈ [(⟨(⟨#[99,107]⟩:ByteArray),1,0⟩:qv),(⟨(⟨#[97]⟩:ByteArray),1,1⟩:qv),(⟨(⟨#[98]⟩:ByteArray),1,2⟩:qv)]→qk7 y:=by
  intro y hy
  simp only [jH,jy,or_false] at hy
  rcases hy with rfl|rfl|rfl
  ·exact ⟨by show (2:Nat)≤1048576;decide,z _ (by decide) (by decide),z _ (by decide) (by decide)⟩
  ·exact ⟨by show (1:Nat)≤1048576;decide,z _ (by decide) (by decide),z _ (by decide) (by decide)⟩
  ·exact ⟨by show (1:Nat)≤1048576;decide,z _ (by decide) (by decide),z _ (by decide) (by decide)⟩
 refine EvQ.bindN (qg8 (by simp)) (EvQ.bindN (qcE (by simp)) (EvQ.bind (qaQ 2 hc hs) ?_))
 have hp2:=qbC (y:=(⟨(⟨#[121]⟩:ByteArray),2,W64 ((x2.length:Int)-1)⟩:qv)) hp ⟨by show (1:Nat)≤1048576;decide,z 2 (by decide) (by decide),qdQ _⟩
 have fin:∀ {ps:List qv},1≤ps.length→ps.length≤8→(∀ y,y ∈ ps→qk7 y)→DesI ⟨x13,x2,ps⟩:=fun {ps} h1 h8 hps=>by
  refine ⟨⟨⟨by show x13.length≤_;omega,fun y hy=>(h13 y hy).ok⟩,⟨by show x2.length≤_;omega,hn⟩,⟨by show ps.length≤_;omega,hps⟩⟩,⟨by show x13.length≤_;omega,by show x2.length≤_;omega,h8,fun i hi=>?_⟩,by show 1≤x2.length;omega,h1⟩
  have hi':i<x13.length:=hi
  have:=h13 _ (jq hi')
  show 2≤(gt x13 i).Ai.length∧(gt x13 i).Ai.length≤5
  rw [qgl hi']
  exact ⟨this.l2,this.l5⟩
 rintro ⟨i31,i32,i33⟩ ⟨_,hs⟩
 refine EvQ.bif (fun _=>?_) (fun _=>EvQ.done ⟨fin (by simp) (by simp) hp2,hs⟩)
 refine EvQ.bind (qaQ _ hc hs) ?_
 rintro ⟨i34,i35,i36⟩ ⟨_,hs⟩
 exact EvQ.bindN (qcE (by simp)) (EvQ.done ⟨fin (by simp) (by simp) (qbC hp2 ⟨by show (1:Nat)≤1048576;decide,z 2 (by decide) (by decide),qdQ _⟩),hs⟩)
end
end Go.Fw


namespace Go.Fw
open Go
set_option maxRecDepth 100000
section
variable {code:List (IntK .u8)} {a s:Int}
structure WirI (x:qK):Prop where
 ok:qiP x
 p1:1≤x.Aj.length∧x.Aj.length≤100
 r1:1≤x.Bc.length
 c1:1≤x.Bb.length
 s1:x.As.length≤100
theorem qjF {xs:List Int} (h:xs.length≤1048576):Ev (fun n=>qd0 n xs) xs:=by
 unfold qd0
 exact Ev.bindN (qg8 h) .done
theorem qn1 (hc:CodeOk code):∀ (r:Nat) (x1 x2 x3:List Int) (a' s':Int),SrcI code a' s'→r≤10→(1≤x1.length∧x1.length+r≤50)→(1≤x2.length∧x2.length+r≤50)→(1≤x3.length∧x3.length+r≤50) →
  (∀ y,y ∈ x1→okI y)→(∀ y,y ∈ x2→okI y)→(∀ y,y ∈ x3→okI y) →
  EvQ (fun n=>qbL ⟨code,a,s⟩ n x1 x2 x3 a' s' (r:Int)) (fun o=>(((1≤o.1.length∧o.1.length≤50)∧∀ y,y ∈ o.1→okI y)∧((1≤o.2.1.length∧o.2.1.length≤50)∧∀ y,y ∈ o.2.1→okI y)∧(1≤o.2.2.1.length∧o.2.2.1.length≤50)∧∀ y,y ∈ o.2.2.1→okI y)∧SrcI code o.2.2.2.1 o.2.2.2.2.1):=by
 intro r
 induction r with
 | zero =>
  intro x1 x2 x3 a' s' hs hr l1 l2 l3 h1 h2 h3
  refine EvQ.succ ?_
  simp only [qbL]
  exact EvQ.ff rfl (EvQ.done ⟨⟨⟨⟨l1.1,by dsimp only;omega⟩,h1⟩,⟨⟨l2.1,by dsimp only;omega⟩,h2⟩,⟨l3.1,by dsimp only;omega⟩,h3⟩,hs⟩)
 | succ r ih =>
  intro x1 x2 x3 a' s' hs hr l1 l2 l3 h1 h2 h3
  have e:W64 (((r+1:Nat):Int)-1)=(r:Int):=by rw [qaP (by omega) (by omega)];omega
  have ok_n:∀ {x:Int} {k:Int},0≤x→x<k→k≤1000→okI x:=fun h0 h1 h2=>qad (by omega) (by omega)
  refine EvQ.succ ?_
  simp only [qbL,e]
  refine EvQ.tt (by simp) (EvQ.bindE (qjF (by omega)) (EvQ.bind (qaQ _ hc hs) ?_))
  rintro ⟨i10,i11,i12⟩ ⟨⟨⟨p0,p1⟩,_⟩,hs⟩
  refine EvQ.bindN (qcE (by omega)) (EvQ.bindE (qjF (by omega)) (EvQ.bind (qaQ _ hc hs) ?_))
  rintro ⟨i13,i14,i15⟩ ⟨⟨⟨q0,q1⟩,_⟩,hs⟩
  refine EvQ.bindN (qcE (by omega)) (EvQ.bindE (qjF (by omega)) (EvQ.bind (qaQ _ hc hs) ?_))
  rintro ⟨i16,i17,i18⟩ ⟨⟨⟨t0,t1⟩,_⟩,hs⟩
  dsimp only at p0 p1 q0 q1 t0 t1 hs
  refine EvQ.bindN (qcE (by omega)) ?_
  exact ih _ _ _ _ _ hs (by omega) (by rw [ji,jj];omega) (by rw [ji,jj];omega) (by rw [ji,jj];omega)
   (qbC h1 (ok_n t0 (t1 (by decide)) (by decide))) (qbC h2 (ok_n q0 (q1 (by decide)) (by decide))) (qbC h3 (ok_n p0 (p1 (by omega)) (by omega)))
theorem qnN {r1:qK} {x3:List Int} (hc:CodeOk code) (hl:r1.As.length≤100) (h3:1≤x3.length∧x3.length≤50):∀ (d j:Nat) (x:List Int) (a' s':Int),SrcI code a' s'→j+d=r1.As.length→x.length=r1.As.length→(∀ y,y ∈ x→okI y) →
  EvQ (fun n=>qbI ⟨code,a,s⟩ r1 x3 n x a' s' (j:Int)) (fun o=>(o.1.length=r1.As.length∧∀ y,y ∈ o.1→okI y)∧SrcI code o.2.1 o.2.2.1):=by
 intro d
 induction d with
 | zero =>
  intro j x a' s' hs hj hx hok
  refine EvQ.succ ?_
  simp only [qbI]
  exact EvQ.ff (qn (by omega)) (EvQ.done ⟨⟨hx,hok⟩,hs⟩)
 | succ d ih =>
  intro j x a' s' hs hj hx hok
  refine EvQ.succ ?_
  simp only [qbI,wS j]
  refine EvQ.tt (qm (by omega)) (EvQ.bind (qaQ _ hc hs) ?_)
  rintro ⟨i22,i23,i24⟩ ⟨⟨⟨q0,q1⟩,_⟩,hs⟩
  dsimp only at q0 q1 hs ⊢
  have q2:=q1 (by omega)
  exact EvQ.bindN (qa8 (show j<x.length by omega)) (ih (j+1) _ _ _ hs (by omega) (by rw [qcx];exact hx) (qfM hok (qad (by omega) (by omega))))
theorem qoi {m:Nat} (hm:m≤100) (hc:CodeOk code) (h:SrcI code a s):EvQ (fun n=>qeu n ⟨code,a,s⟩ (m:Int)) (fun o=>WirI o.1∧SrcI code o.2.1 o.2.2):=by
 have z:∀ x:Int,-1000≤x→x≤1000→okI x:=fun x h1 h2=>qad (by omega) (by omega)
 unfold qeu
 refine EvQ.bind (qaQ 6 hc h) ?_
 rintro ⟨i1,i2,i3⟩ ⟨⟨⟨p0,p1⟩,_⟩,hs⟩
 dsimp only at p0 p1 hs ⊢
 have p2:=p1 (by decide)
 have hL:Ev (fun n=>qe5 n (m:Int) i1) (⟨[-1],[0],[i1],List.replicate m 0⟩:qK):=by
  unfold qe5
  exact Ev.bindN (qkM (by omega)) .done
 refine EvQ.bindE hL (EvQ.bind (qaQ 4 hc hs) ?_)
 rintro ⟨i4,i5,i6⟩ ⟨⟨⟨q0,q1⟩,_⟩,hs⟩
 dsimp only at q0 q1 hs ⊢
 have q2:=q1 (by decide)
 obtain ⟨r,rfl⟩:∃ r:Nat,i4=(r:Int):=⟨i4.toNat,by omega⟩
 have one:∀ {x:Int},okI x→∀ y,y ∈ [x]→okI y:=fun hx y hy=>by obtain rfl:=List.mem_singleton.1 hy;exact hx
 refine EvQ.bind (qn1 hc r [i1] [0] [-1] i5 i6 hs (by omega) (by simp;omega) (by simp;omega) (by simp;omega) (one (z _ (by omega) (by omega))) (one (z _ (by decide) (by decide))) (one (z _ (by decide) (by decide)))) ?_
 rintro ⟨x1,x2,x3,i7,i8,i9⟩ ⟨⟨⟨l1,h1⟩,⟨l2,h2⟩,l3,h3⟩,hs⟩
 dsimp only at l1 h1 l2 h2 l3 h3 hs ⊢
 refine EvQ.bind (qnN (r1:=⟨[-1],[0],[i1],List.replicate m 0⟩) hc (by simp;omega) l3 m 0 (List.replicate m 0) i7 i8 hs (by simp) rfl (fun y hy=>by obtain ⟨_,rfl⟩:=List.mem_replicate.1 hy;exact z _ (by decide) (by decide))) ?_
 rintro ⟨x7,i19,i20,i21⟩ ⟨⟨l7,h7⟩,hs⟩
 have l7:x7.length=m:=by simpa using l7
 exact EvQ.done ⟨⟨⟨⟨by show x3.length≤_;omega,h3⟩,⟨by show x2.length≤_;omega,h2⟩,⟨by show x1.length≤_;omega,h1⟩,⟨by show x7.length≤_;omega,h7⟩⟩,⟨l3.1,by show x3.length≤_;omega⟩,l2.1,l1.1,by show x7.length≤_;omega⟩,hs⟩
structure BlkI (b:qd):Prop where
 lib:qek b.Ac
 des:DesI b.Aa
 wl:b.Ah.length=b.Aa.Ai.length
 wi:∀ y,y ∈ b.Ah→WirI y
theorem BlkI.ok {b:qd} (h:BlkI b):qcW b:=⟨h.lib,h.des.ok,⟨by rw [h.wl];exact h.des.ok.Ai.1,fun y hy=>(h.wi y hy).ok⟩⟩
theorem qmr {most:Int} {wild:Bool} (h2:2≤most) (h14:most≤14) (hc:CodeOk code) (h:SrcI code a s) :
  EvQ (fun n=>qfe n ⟨code,a,s⟩ most wild) (fun o=>BlkI o.1∧SrcI code o.2.1 o.2.2):=by
 unfold qfe
 refine EvQ.bind (qoE hc h) ?_
 rintro ⟨r1,i1,i2⟩ ⟨hl,hs⟩
 refine EvQ.bind (qmV h2 h14 hc hs) ?_
 rintro ⟨r2,i3,i4⟩ ⟨hd,hs⟩
 dsimp only at hl hd hs ⊢
 have hnn:=hd.sm.nn
 have hpl:=qaF hd.sm
 have main:∀ (d j:Nat) (x:List qK) (a' s':Int),SrcI code a' s'→j+d=r2.Ai.length→x.length=j→(∀ y,y ∈ x→WirI y) →
   EvQ (fun n=>qc5 ⟨code,a,s⟩ r2 n x a' s' (j:Int)) (fun o=>(o.1.length=r2.Ai.length∧∀ y,y ∈ o.1→WirI y)∧SrcI code o.2.1 o.2.2.1):=by
  intro d
  induction d with
  | zero =>
   intro j x a' s' hs hj hx hok
   refine EvQ.succ ?_
   simp only [qc5]
   exact EvQ.ff (qn (by omega)) (EvQ.done ⟨⟨by dsimp only;omega,hok⟩,hs⟩)
  | succ d ih =>
   intro j x a' s' hs hj hx hok
   refine EvQ.succ ?_
   simp only [qc5,wS j]
   have hsl:(sinksL r2 (j:Int) (places r2).length).length≤78:=by
    have:(sinksL r2 (j:Int) (places r2).length).length≤(places r2).length:=by
     unfold sinksL
     rw [jG]
     refine jN (List.length_filter_le _ _) ?_
     rw [List.length_range];exact jf _
    omega
   refine EvQ.tt (qm (by omega)) (EvQ.bindE (qhF hd.sm) (EvQ.bind (qoi (by omega) hc hs) ?_))
   rintro ⟨r4,i8,i9⟩ ⟨h4,hs⟩
   exact EvQ.bindN (qcE (by omega)) (ih (j+1) _ _ _ hs (by omega) (by rw [ji,jj];omega) (qbC hok h4))
 refine EvQ.bind (main r2.Ai.length 0 [] i3 i4 hs (by omega) rfl (fun _ h=>by cases h)) ?_
 rintro ⟨x1,i5,i6,i7⟩ ⟨⟨l1,h1⟩,hs⟩
 exact EvQ.done ⟨⟨hl,hd,l1,h1⟩,hs⟩
structure BlkO (b:qd):Prop where
 ok:qcW b
 sm:smallD b.Aa
theorem qmd (hc:CodeOk code) (h:SrcI code a s):EvQ (fun n=>qeO n ⟨code,a,s⟩) (fun o=>BlkO o.1∧SrcI code o.2.1 o.2.2):=by
 unfold qeO
 refine EvQ.bind (qaQ 3 hc h) ?_
 rintro ⟨i1,i2,i3⟩ ⟨_,hs⟩
 refine EvQ.bind (qmr (by decide) (by decide) hc hs) ?_
 rintro ⟨r1,i4,i5⟩ ⟨hb,hs⟩
 dsimp only at hb hs ⊢
 have hw1:1≤r1.Ah.length:=by rw [hb.wl];exact hb.des.n1
 have hw2:r1.Ah.length≤30:=by rw [hb.wl];exact hb.des.sm.nn
 refine EvQ.bind (qaQ _ hc hs) ?_
 rintro ⟨i6,i7,i8⟩ ⟨⟨⟨q0,q1⟩,_⟩,hs⟩
 dsimp only at q0 q1 hs ⊢
 have q2:=q1 (by omega)
 obtain ⟨k,rfl⟩:∃ k:Nat,i6=(k:Int):=⟨i6.toNat,by omega⟩
 have hk:k<r1.Ah.length:=by omega
 have hy:=hb.wi _ (jq hk)
 have W:∀ {y:qK},qiP y→BlkO ⟨r1.Ac,r1.Aa,setS r1.Ah (k:Int) y⟩:=fun {y} h=>⟨⟨hb.lib,hb.des.ok,⟨by show (setS _ _ _).length≤_;rw [qcx];omega,qfM (fun y hy=>(hb.wi y hy).ok) h⟩⟩,hb.des.sm⟩
 have z:∀ x:Int,-1000≤x→x≤1000→okI x:=fun x h1 h2=>qad (by omega) (by omega)
 have hp:=hy.p1
 have hr:=hy.r1
 have hcp:=hy.c1
 have hsk:=hy.s1
 refine EvQ.bind (qaQ 20 hc hs) ?_
 rintro ⟨i9,i10,i11⟩ ⟨_,hs⟩
 dsimp only at hs ⊢
 refine EvQ.bif (fun _=>?_) (fun _=>EvQ.bif (fun _=>?_) (fun _=>EvQ.bif (fun _=>?_) (fun _=>EvQ.bif (fun _=>?_) (fun _=>EvQ.bif (fun _=>?_) (fun _=>EvQ.bif (fun _=>?_) (fun _=>EvQ.done ⟨⟨hb.ok,hb.des.sm⟩,hs⟩))))))
 ·have e:subS r1.Ah 1 (r1.Ah.length:Int)=some (r1.Ah.drop 1):=by
   unfold subS
   rw [if_pos (by omega)]
   simp
  refine EvQ.bindN e (EvQ.done ⟨⟨⟨hb.lib,hb.des.ok,⟨by show (r1.Ah.drop 1).length≤_;rw [List.length_drop];omega,fun y hy=>(hb.wi y (List.mem_of_mem_drop hy)).ok⟩⟩,hb.des.sm⟩,hs⟩)
 ·refine EvQ.bindN (qa8 hk) (EvQ.bindE (qjF (by omega)) (EvQ.bindN (qcE (by omega)) (EvQ.done ⟨W ⟨hy.ok.Aj,hy.ok.Bc,hy.ok.Bb,⟨by show (_++_:List Int).length≤_;rw [ji,jj];omega,qbC hy.ok.As.2 (z _ (by decide) (by decide))⟩⟩,hs⟩)))
 ·refine EvQ.bindN (qa8 hk) (EvQ.bindN (qa8 (j:=0) (show 0<r1.Ah[k].Bc.length by omega)) (EvQ.done ⟨W ⟨hy.ok.Aj,⟨by show (setS _ _ _).length≤_;rw [qcx];exact hy.ok.Bc.1,qfM hy.ok.Bc.2 (z _ (by decide) (by decide))⟩,hy.ok.Bb,hy.ok.As⟩,hs⟩))
 ·refine EvQ.bindN (qa8 hk) (EvQ.bind (qaQ 3 hc hs) ?_)
  rintro ⟨i12,i13,i14⟩ ⟨⟨⟨t0,t1⟩,_⟩,hs⟩
  dsimp only at t0 t1 hs ⊢
  have t2:=t1 (by decide)
  have:i12=0∨i12=1∨i12=2:=by omega
  have hv:∃ v:Int,idx ([(-1),500,501]:List Int) i12=some v∧okI v:=by
   rcases this with rfl|rfl|rfl
   ·exact ⟨_,rfl,z _ (by decide) (by decide)⟩
   ·exact ⟨_,rfl,z _ (by decide) (by decide)⟩
   ·exact ⟨_,rfl,z _ (by decide) (by decide)⟩
  obtain ⟨v,hv1,hv2⟩:=hv
  exact EvQ.bindN hv1 (EvQ.bindN (qa8 (j:=0) (show 0<r1.Ah[k].Bb.length by omega)) (EvQ.done ⟨W ⟨hy.ok.Aj,hy.ok.Bc,⟨by show (setS _ _ _).length≤_;rw [qcx];exact hy.ok.Bb.1,qfM hy.ok.Bb.2 hv2⟩,hy.ok.As⟩,hs⟩))
 ·refine EvQ.bindN (qa8 hk) (EvQ.bind (qaQ 5 hc hs) ?_)
  rintro ⟨i15,i16,i17⟩ ⟨_,hs⟩
  have e:W64 ((r1.Ah[k].Aj.length:Int)-1)=((r1.Ah[k].Aj.length-1:Nat):Int):=by rw [qaP (by omega) (by omega)];omega
  dsimp only
  rw [e]
  exact EvQ.bindN (qa8 (show r1.Ah[k].Aj.length-1<r1.Ah[k].Aj.length by omega)) (EvQ.done ⟨W ⟨⟨by show (setS _ _ _).length≤_;rw [qcx];exact hy.ok.Aj.1,qfM hy.ok.Aj.2 (qdQ _)⟩,hy.ok.Bc,hy.ok.Bb,hy.ok.As⟩,hs⟩)
 ·have hp1:=hb.des.p1
  refine EvQ.bindN (qa8 (j:=0) (show 0<r1.Aa.Af.length by omega)) (EvQ.done ⟨⟨⟨hb.lib,⟨hb.des.ok.Ab,hb.des.ok.Ai,⟨by show (setS _ _ _).length≤_;rw [qcx];exact hb.des.ok.Af.1,qfM hb.des.ok.Af.2 ⟨(hb.des.ok.Af.2 _ (jq _)).Ar,z 3 (by decide) (by decide),(hb.des.ok.Af.2 _ (jq _)).Bl⟩⟩⟩,hb.ok.Ah⟩,⟨hb.des.sm.ni,hb.des.sm.nn,by show (setS _ _ _).length≤_;rw [qcx];exact hb.des.sm.np,hb.des.sm.nx⟩⟩,hs⟩)
theorem qod (hc:CodeOk code) (h:SrcI code a s):EvQ (fun n=>qgc n ⟨code,a,s⟩) (fun o=>BlkO o.1∧SrcI code o.2.1 o.2.2):=by
 unfold qgc
 refine EvQ.bind (qaQ 16 hc h) ?_
 rintro ⟨i1,i2,i3⟩ ⟨_,hs⟩
 refine EvQ.bif (fun _=>EvQ.bind (qmd hc hs) ?_) (fun _=>EvQ.bind (qaQ 7 hc hs) ?_)
 ·rintro ⟨r1,i4,i5⟩ h1
  exact EvQ.done h1
 rintro ⟨i6,i7,i8⟩ ⟨⟨⟨q0,q1⟩,_⟩,hs⟩
 dsimp only at q0 q1 hs ⊢
 have q2:=q1 (by decide)
 refine EvQ.bind (qaQ 8 hc hs) ?_
 rintro ⟨i9,i10,i11⟩ ⟨_,hs⟩
 dsimp only at hs ⊢
 rw [wO (2+i6)]
 refine EvQ.bind (qmr (by omega) (by omega) hc hs) ?_
 rintro ⟨r2,i12,i13⟩ ⟨hb,hs⟩
 exact EvQ.done ⟨⟨hb.ok,hb.des.sm⟩,hs⟩
end
end Go.Fw


namespace Go.Fw
open Go
set_option maxRecDepth 100000
theorem qlD {b:qd} (h:blockB b=true):Ev (fun n=>qfK n b) ((places b.Aa).length:Int):=by
 unfold qfK
 exact Ev.bind (qfz (qab (qas h))) (Ev.now (by rw [jG]))
def dsR (b:qd) (p:Int):List Int × Int:=bif blockB b then (bif inPl b p then (succL b p.toNat,0) else ([],2)) else ([],1)
theorem qil {b:qd} {p:Int} (hok:qcW b):Ev (fun n=>qcu n b p) (dsR b p):=by
 unfold qcu dsR
 refine Ev.chk1 (qlF hok) fun h=>Ev.bind (qlD h) ?_
 have hl:=qaF (qab (qas h))
 simp only [qdB,je,qbX (show (places b.Aa).length≤9223372036854775807 by omega),qbb]
 refine Ev.okP1 (a:=inPl b p) fun hp=>?_
 have hq:=hp
 unfold inPl at hq
 rw [qbe] at hq
 have e:=qlz hok h (j:=p.toNat) (by omega)
 rw [←qhS hq.1] at e
 exact Ev.bind e .done
theorem qiC {b:qd} {p:Int} (hok:qcW b):Ev (fun n=>qdu n b p) (dsR b p):=by
 unfold qdu dsR
 refine Ev.chk1 (qhj hok) fun h=>?_
 obtain ⟨ls,lo,de,e⟩:=qha h
 have hl:=qaF (qab (qas h))
 refine Ev.bind e ?_
 simp only [qfg,qbz,qcT,je,qbX (show (places b.Aa).length≤9223372036854775807 by omega),qbb]
 refine Ev.okP1 (a:=inPl b p) fun hp=>?_
 have hq:=hp
 unfold inPl at hq
 rw [qbe] at hq
 have e:=qii (V:=⟨b,places b.Aa,ls,lo,de,[]⟩) h rfl rfl (j:=p.toNat) (by omega)
 rw [←qhS hq.1] at e
 exact Ev.bind e .done
end Go.Fw


namespace Go.Fw
open Go Go.Proofs
open Go.RowKit (Below)
set_option maxRecDepth 100000
set_option maxHeartbeats 6400000
variable {n:Nat} {w:World} {cs1 cs2 cs3 cs4 cs5 cs6 cs7 cs8 cs9:List Value}
end Go.Fw


namespace Go.Fw
open Go Go.Proofs
open Go.RowKit (Below)
set_option maxRecDepth 100000
set_option maxHeartbeats 6400000
variable {n:Nat} {w:World} {cs1 cs2 cs3 cs4 cs5 cs6 cs7 cs8 cs9:List Value}
end Go.Fw


namespace Go.Fw
open Go
set_option maxRecDepth 100000
theorem qkU {d:qc} {k:Int} {n:Nat}:qk3 (sinksL d k n) n:=by
 intro y hy
 unfold sinksL at hy
 obtain ⟨i,hi,rfl⟩:=List.mem_map.1 hy
 exact ⟨i,List.mem_range.1 (List.mem_filter.1 hi).1,rfl⟩
theorem qll {b:qd} (h:blockB b=true) {j:Nat} (hj:j<(places b.Aa).length):qk3 (succL b j) (places b.Aa).length:=by
 have hd:=qas h
 unfold succL
 cases (gt (places b.Aa) j).drives
 ·cases h0:decide ((gt (places b.Aa) j).instance_<0)
  ·cases dataB (cellAt b (gt (places b.Aa) j).instance_) (gt (places b.Aa) j).pin
   ·intro y hy;cases hy
   ·intro y hy
    rcases qdM hj with ⟨i,k,hi,hk,ej,e⟩|⟨i,hi,_,e⟩
    ·obtain ⟨⟨c0,c1⟩,hn,hcb⟩:=qe2 hd hi
     rw [e] at hy
     have ec:cellAt b (place1 b.Aa i k).instance_=gt b.Ac.Ak (gt b.Aa.Ab i).Av.toNat:=by
      unfold cellAt place1;rw [jv]
     rw [ec,show (place1 b.Aa i k).pin=(k:Int) from rfl] at hy
     have hy:y=(j:Int)-(k:Int)+(((gt b.Ac.Ak (gt b.Aa.Ab i).Av.toNat).Ap.length:Int)-1):=by simpa using hy
     obtain ⟨hp,_⟩:=qgU (k:=(gt b.Aa.Ab i).Ai.length-1) hi (by omega)
     exact ⟨off b.Aa i+((gt b.Aa.Ab i).Ai.length-1),hp,by omega⟩
    ·rw [e] at h0
     exact absurd h0 (by show ¬ decide ((-1:Int)<0)=false;decide)
  ·intro y hy;cases hy
 ·intro y hy
  exact qkU y ((List.mem_filter.1 hy).1)
abbrev npl (b:qd):Nat:=(places b.Aa).length
structure Mid (b:qd) (k i:Nat) (c:Nat) (out:List Nat):Prop where
 topo:Topo (succL b) (npl b) out
 klt:k<out.length
 cur:out[k]?=some c
 zero:∀ j,j<npl b→(j ∈ out↔inC (succL b) (npl b) (out.take (k+1)) j+((succL b c).drop i).count (j:Int)=0)
end Go.Fw


namespace Go.Fw
open Go
set_option maxRecDepth 100000
def startB (b:qd) (p:Tplace):Bool:=bif decide (p.instance_<0) then p.drives || clkB b p else clkB b p
end Go.Fw


namespace Go.Fw
open Go
set_option maxRecDepth 100000
section
variable {code:List (IntK .u8)} {a s:Int}
def PlI (b:qd) (p:Int):Prop:=0≤p∧p<((places b.Aa).length:Int)
theorem qm6 {b:qd} (h:blockB b=true) {j:Nat} (hj:j<(places b.Aa).length):∀ y,y ∈ succL b j→PlI b y:=by
 intro y hy
 obtain ⟨k,hk,e⟩:=qll h hj y hy
 unfold PlI;omega
theorem PlI.ok {b:qd} (h:blockB b=true) {p:Int} (hp:PlI b p):okI p:=by
 have hpl:=qaF (qab (qas h))
 unfold PlI at hp
 exact qad (by omega) (by omega)
structure CaseI (b:qd) (es:List qhe) (path:List Int):Prop where
 blk:BlkO b
 es:okL qkT es
 l1:1≤path.length
 l2:path.length≤30
 pk:∀ y,y ∈ path→okI y
theorem qn3 (hc:CodeOk code):EvQ (fun n=>qW n code) (fun o=>BlkO o.1∧okI o.2):=by
 obtain ⟨s,h1,hs⟩:=qnX hc
 unfold qW
 refine EvQ.bindE h1 (EvQ.bind (qod hc hs) ?_)
 rintro ⟨b,i2,i3⟩ ⟨hb,hs⟩
 dsimp only at hb hs ⊢
 refine EvQ.bindE (qfz hb.sm) (EvQ.bind (qaQ _ hc hs) ?_)
 rintro ⟨i4,i5,i6⟩ _
 exact EvQ.done ⟨hb,qdQ _⟩
end
end Go.Fw


namespace Go.Fw
open Go
set_option maxRecDepth 100000
def selL (q:Nat→Bool) (m:Nat):List Int:=((List.range m).filter q).map fun (i:Nat)=>(i:Int)
theorem qkC {q:Nat→Bool} {j:Nat}:selL q (j+1)=selL q j++(bif q j then [(j:Int)] else []):=by
 unfold selL
 rw [List.range_succ,List.filter_append,List.map_append]
 congr 1
 cases h:q j<;>simp [h]
theorem qjT {q:Nat→Bool} {j:Nat}:(selL q j).length≤j:=by
 unfold selL
 rw [jG]
 exact jN (List.length_filter_le _ _) (by rw [List.length_range];exact jf _)
theorem qnr {q:Nat→Bool} {j:Nat} (h:j<1048576):appS (selL q j) [(j:Int)]=some (selL q j++[(j:Int)]) :=
 qb6 (by have:=qjT (q:=q) (j:=j);rw [jj];omega)
theorem qlO {ρ:Type} {Lf:Nat→List Int→Int→Option ρ} {q:Nat→Bool} {len:Nat} {fin:ρ} (hl:len≤1048576) (hend:Ev (fun n=>Lf n (selL q len) (len:Int)) fin)
  (hstep:∀ j,j<len→∀ t:List Int,appS t [(j:Int)]=some (t++[(j:Int)])→∀ X,(q j=true→Ev (fun n=>Lf n (t++[(j:Int)]) ((j+1:Nat):Int)) X)→(q j=false→Ev (fun n=>Lf n t ((j+1:Nat):Int)) X)→Ev (fun n=>Lf (n+1) t (j:Int)) X) :
  Ev (fun n=>Lf n [] 0) fin :=
 down (P:=fun j=>Ev (fun n=>Lf n (selL q j) (j:Int)) fin) len hend (fun j hj ih=>Ev.succ (hstep j hj _ (qnr (by omega)) _
  (fun h=>by rw [qkC,h] at ih;exact ih) (fun h=>by rw [qkC,h] at ih;simpa using ih)))
def startsL (b:qd):List Int:=selL (fun i=>startB b (gt (places b.Aa) i)) (places b.Aa).length
def startsR (b:qd):List Int × Int:=bif blockB b then (startsL b,0) else ([],1)
theorem qj2 {b:qd} (hok:qcW b):Ev (fun n=>qew n b) (startsR b):=by
 unfold qew
 refine Ev.bind (b:=startsR b) ?_ .done
 unfold qbT startsR
 refine Ev.chk1 (qhj hok) fun h=>?_
 obtain ⟨ls,lo,de,e⟩:=qha h
 have hl:=qaF (qab (qas h))
 refine Ev.bind e ?_
 simp only [je]
 have hL:Ev (fun n=>qM (some ⟨b,places b.Aa,ls,lo,de,[]⟩) ⟨b,places b.Aa,ls,lo,de,[]⟩ n ([]:List Int) 0) (startsL b,((places b.Aa).length:Int)):=by
  refine qlO (Lf:=qM (some ⟨b,places b.Aa,ls,lo,de,[]⟩) ⟨b,places b.Aa,ls,lo,de,[]⟩) (q:=fun i=>startB b (gt (places b.Aa) i)) (len:=(places b.Aa).length) (by omega) (Ev.succ ?_) (fun j hj t ht X h1 h2=>?_)
  ·simp only [qM]
   exact Ev.ff (qn (jf _)) .done
  ·simp only [qM,wS j,ht,je,qm hj,cond_true,qX hj]
   refine Ev.bind (b:=startB b (gt (places b.Aa) j)) ?_ ?_
   ·refine ⟨0,fun n _=>?_⟩
    show qec n (some ⟨b,places b.Aa,ls,lo,de,[]⟩) _=some _
    unfold qec startB
    rw [qig (V:=⟨b,places b.Aa,ls,lo,de,[]⟩) h rfl hj]
    cases decide ((gt (places b.Aa) j).instance_<0)<;>cases (gt (places b.Aa) j).drives<;>rfl
   ·cases hq:startB b (gt (places b.Aa) j)
    ·exact h2 hq
    ·exact h1 hq
 exact Ev.bind hL .done
def chkB (c:qk) (pin:Int):Bool:=c.Am.any fun a=>(a.To==pin)&&decide (a.Aq ≥ 4)
theorem qob {c:qk} {p:Tplace} (hc:cellB c=true):Ev (fun n=>qah n c.Am p) (chkB c p.pin):=by
 have ha:=qhc hc
 unfold qah
 refine Ev.bind (b:=ixL (fun a:qS=>(a.To==p.pin)&&decide (a.Aq ≥ 4)) c.Am) (qdz (fin:=(c.Am.length:Int)) (Lf:=qH c.Am p) (pf:=fun n x=>qdk n x p) (fun x hx=>?_)
  (fun n=>by simp only [qH,qn (jf _),cond_false])
  (fun n j x hx=>by
   have hj:=(List.getElem?_eq_some_iff.1 hx).1
   simp only [qH,qm hj,cond_true,qe4 hx,je,wS j])
  (fun n=>by unfold qaJ;congr 1;funext o;cases o<;>rfl)) (Ev.now (by rw [qgN];rfl))
 obtain ⟨j,hj,rfl⟩:=jI hx
 have hk:=(qjk hc hj).1
 rw [qgl hj] at hk
 refine ⟨0,fun n _=>?_⟩
 have e:decide (c.Am[j].Aq ≥ 4)=((c.Am[j].Aq==4) || (c.Am[j].Aq==5)):=by
  rw [jk];simp;omega
 rw [e]
 show qdk n c.Am[j] p=some _
 unfold qdk
 rw [qjQ]
 cases (c.Am[j].Aq==4)<;>cases (c.Am[j].Aq==5)<;>simp
def endB (b:qd) (p:Tplace):Bool:=bif decide (p.instance_<0) then !p.drives else chkB (cellAt b p.instance_) p.pin
def endsL (b:qd):List Int:=selL (fun i=>endB b (gt (places b.Aa) i)) (places b.Aa).length
def endsR (b:qd):List Int × Int:=bif blockB b then (endsL b,0) else ([],1)
theorem qkV {b:qd} (hok:qcW b):Ev (fun n=>qe9 n b) (endsR b):=by
 unfold qe9
 refine Ev.bind (b:=endsR b) ?_ .done
 unfold qcb endsR
 refine Ev.chk1 (qhj hok) fun h=>?_
 obtain ⟨ls,lo,de,e⟩:=qha h
 have hd:=qas h
 have hl:=qaF (qab hd)
 refine Ev.bind e ?_
 simp only [je]
 have hL:Ev (fun n=>qR (some ⟨b,places b.Aa,ls,lo,de,[]⟩) ⟨b,places b.Aa,ls,lo,de,[]⟩ n ([]:List Int) 0) (endsL b,((places b.Aa).length:Int)):=by
  refine qlO (Lf:=qR (some ⟨b,places b.Aa,ls,lo,de,[]⟩) ⟨b,places b.Aa,ls,lo,de,[]⟩) (q:=fun i=>endB b (gt (places b.Aa) i)) (len:=(places b.Aa).length) (by omega) (Ev.succ ?_) (fun j hj t ht X h1 h2=>?_)
  ·simp only [qR]
   exact Ev.ff (qn (jf _)) .done
  ·simp only [qR,wS j,ht,je,qm hj,cond_true,qX hj]
   refine Ev.bind (b:=endB b (gt (places b.Aa) j)) ?_ ?_
   ·unfold qfZ endB
    refine Ev.iff (fun _=>.done) (fun h0=>?_)
    rcases qdM hj with ⟨i,k,hi,hk,ej,e⟩|⟨i,hi,_,e⟩
    ·obtain ⟨⟨c0,c1⟩,hn,hcb⟩:=qe2 hd hi
     rw [e]
     simp only [je]
     have e1:∀ n,qbu n b (place1 b.Aa i k).instance_=some (gt b.Ac.Ak (gt b.Aa.Ab i).Av.toNat):=by
      intro n
      unfold place1
      simp only [qbu,qX hi,qd8 c0 c1,je]
     refine Ev.bind ⟨0,fun n _=>e1 n⟩ (Ev.last ((qob hcb).cast ?_))
     unfold cellAt place1
     simp only [jv]
    ·rw [e] at h0
     exact absurd h0 (by show ¬ decide ((-1:Int)<0)=false;decide)
   ·cases hq:endB b (gt (places b.Aa) j)
    ·exact h2 hq
    ·exact h1 hq
 exact Ev.bind hL .done
end Go.Fw


namespace Go.Fw
open Go
set_option maxRecDepth 100000
end Go.Fw


namespace Go.Fw
open Go
set_option maxRecDepth 100000
def hasI (xs:List Int) (y:Int):Bool:=xs.any fun x=>x==y
theorem qlh {xs:List Int} {y:Int} (hl:xs.length≤1048576):Ev (fun n=>qcZ n xs y) (hasI xs y):=by
 unfold qcZ
 refine Ev.bind (b:=ixL (fun x=>y==x) xs) (qdz (fin:=(xs.length:Int)) (Lf:=qbf xs y) (pf:=fun _ x=>some (y==x)) (fun _ _=>.done)
  (fun n=>by simp only [qbf,qn (jf _),cond_false])
  (fun n j x hx=>by
   have hj:=(List.getElem?_eq_some_iff.1 hx).1
   simp only [qbf,qm hj,cond_true,qe4 hx,je,wS j])
  (fun n=>by unfold qeX;congr 1;funext o;cases o<;>rfl)) (Ev.now ?_)
 rw [qgN]
 unfold hasI
 congr 2
 funext x
 rw [jk,beq_iff_eq,beq_iff_eq]
 exact eq_comm
def stepP (b:qd) (path:List Int) (j:Nat):Bool:=decide (j=0) || hasI (succL b (at0 path (j-1)).toNat) (at0 path j)
def dpathB (b:qd) (path:List Int):Bool:=lenB path 1 60&&(allN (fun j=>inPl b (at0 path j)) path.length&&allN (stepP b path) path.length)
theorem qkj {b:qd} {V:Tview} {path:List Int} (h:blockB b=true) (hV:V.Bd=b) (hP:V.places=places b.Aa) (hl:path.length≤1048576):Ev (fun n=>qdc n (some V) path) (dpathB b path):=by
 have hs:=qab (qas h)
 have hpl:=qaF hs
 unfold qdc dpathB
 simp only [qao,qbz,qcT,je,hP,qbX (show (places b.Aa).length≤9223372036854775807 by omega),qbb]
 rw [←Bool.and_assoc,show inI (path.length:Int) 1 60=lenB path 1 60 from qjB (lo:=1) (hi:=60)]
 refine Ev.guardB (Ev.orBP fun _=>Ev.neg ((qd1 hl).cast (by rw [qfr (d:=0)];rfl))) fun hb=>?_
 rw [jg,qag] at hb
 obtain ⟨hlen,hin⟩:=hb
 have hlen':1≤path.length:=by unfold lenB at hlen;simp only [jg,decide_eq_true_eq] at hlen;exact hlen.1
 have hL:=qk0 (Lf:=qa4 (some V) path) (len:=path.length) (i0:=1) (f:=stepP b path) (bad:=false) (fin:=.nxt (path.length:Int)) hlen'
  (Ev.succ (by simp only [qa4,qn (jf _),cond_false];exact .done))
  (fun j h1 hj X hX=>Ev.succ (by
   have hp:inPl b (at0 path (j-1))=true:=hin (j-1) (by omega)
   unfold inPl at hp
   rw [qbe] at hp
   have ep:=qhS hp.1
   simp only [qa4,qm hj,cond_true,show (j:Int)-1=((j-1:Nat):Int) by omega,qaP (show -9223372036854775808≤((j-1:Nat):Int) by omega) (by omega),wS j,qbW (show j-1<path.length by omega),qbW hj,je]
   unfold stepP
   rw [show decide (j=0)=false by simp;omega,Bool.false_or]
   refine Ev.bind (b:=succL b (at0 path (j-1)).toNat) ?_ ?_
   ·have:=qii h hV hP (j:=(at0 path (j-1)).toNat) (by omega)
    rw [←ep] at this
    exact this
   ·exact Ev.chk1 (qlh (by have:=qkE h (j:=(at0 path (j-1)).toNat);omega)) fun _=>hX))
 have e:allN (fun j=>stepP b path (1+j)) (path.length-1)=allN (stepP b path) path.length:=by
  rw [jk,qag,qag]
  constructor
  ·intro h j hj
   cases j with
   | zero=>rfl
   | succ j=>have:=h j (by omega);rwa [Nat.add_comm] at this
  ·intro h j hj
   exact h (1+j) (by omega)
 rw [e] at hL
 refine Ev.bind hL ?_
 cases allN (stepP b path) path.length<;>exact .done
instance:Inhabited qhe:=⟨⟨0,0,[],[],[]⟩⟩
end Go.Fw


namespace Go.Fw
open Go Go.Proofs
open Go.RowKit (Below)
set_option maxRecDepth 100000
set_option maxHeartbeats 6400000
variable {n:Nat} {w:World} {cs1 cs2 cs3 cs4 cs5 cs6 cs7 cs8 cs9:List Value}
end Go.Fw
