/- By a program of mine (gen.py): for each function a plain function and the proof that the code computes it. -/
import Derived.Test.YtmkldekhhkijdaaGreatDoorP1
import Derived.Test.YtmkldekhhkijdaaGreatDoorA3
open Option renaming bind_some → je
open Nat renaming le_refl → jf, le_of_ble_eq_true → js, mul_le_mul_right → jt, lt_of_lt_of_le → jw, zero_le → jB, succ_mul → jJ, le_trans → jV, zero_add → jW
open List renaming length_append → jg, length_singleton → ji, mem_cons_of_mem → jk, getElem?_eq_getElem → jm, mem_cons_self → jq, getElem_mem → jr, mem_of_getElem? → ju, length_cons → jv, getD_eq_getElem?_getD → jx, length_map → jy, not_mem_nil → jA, getElem?_append_left → jD, drop_eq_getElem_cons → jE, getElem?_take → jF, eq_nil_of_length_eq_zero → jG, append_assoc → jI, getElem?_toArray → jK, getElem?_append_right → jL, mem_cons → jM, size_toArray → jO, getElem_of_mem → jQ, append_nil → jR, all_eq_true → jS, take_length → jT
open Bool renaming and_eq_true → jh, eq_iff_iff → jp, true_and → jC, not_eq_true' → jH, not_true → jU
open Go.Result renaming andThen_ok → jj
open Go.Sem renaming run_bind → jl, run_pure → jo
open Int renaming toNat_natCast → jz
open Array renaming length_toList → jN, getElem?_append_left → jP

namespace Go.Fw
open Go Go.Proofs
open Go.RowKit (Below)
set_option maxRecDepth 100000
set_option maxHeartbeats 6400000
variable {n:Nat} {w:World} {cs1 cs2 cs3 cs4 cs5 cs6 cs7 cs8 cs9:List Value}
def qk (_:Nat) (a_0:Tl01Source) (a_1:Int):Option (Int × Int × Int) :=
 bif decide (a_1≤1) then some (0,a_0.at_,a_0.seed) else
 bif decide (a_0.at_<(a_0.code.length:Int)) then
  (idx a_0.code a_0.at_).bind fun y1 =>
  bif decide (a_1≤256) then
   (remS (W64 y1.val) a_1).bind fun y2 =>
   some (y2,W64 (a_0.at_+1),a_0.seed)
  else
   (remS ((W64 ((W64 ((W64 (a_0.seed*48271))+(W64 y1.val)))+1)).tmod 2147483647) a_1).bind fun y3 =>
   some (y3,W64 (a_0.at_+1),(W64 ((W64 ((W64 (a_0.seed*48271))+(W64 y1.val)))+1)).tmod 2147483647)
 else
  (remS (W64 (((W64 ((W64 (a_0.seed*48271))+11)).tmod 2147483647).tdiv 7)) a_1).bind fun y4 =>
  some (y4,a_0.at_,(W64 ((W64 (a_0.seed*48271))+11)).tmod 2147483647)
theorem qh {n:Nat} {w0 w:World} {F:List Ch} {a_0:Tl01Source} {bb1:Nat} {p1:Option Addr} {k1:Nat} {a_1:Int} (h0:SH w0 w (Ch.box bb1 (qaf a_0 p1 k1) 225::F)) (ha1:GoT.R w (Fr w0 F) a_0 [.slice p1 a_0.code.length k1,.int .i64 a_0.at_,.int .i64 a_0.seed]) {r:(Int × Int × Int)} (hF:qk n a_0 a_1=some r):RetW Tryz.prog 132 [.pointer (some ⟨bb1,0,none⟩),.int .i64 a_1] w (fun us w'=>us=[.int .i64 r.1]∧SH w0 w' (Ch.box bb1 [.slice p1 a_0.code.length k1,.int .i64 r.2.1,.int .i64 r.2.2] 225::F)):=by
 have h:=SH.frm1 h0 ha1
 refine qa7 Tryz.func132 rfl (m:=76) rfl rfl (X0 10 rfl (qm rfl hF ?_ ?_))<;>intro hF
 ·refine X0 4 rfl ?_
  obtain rfl:=qd hF
  exact qbd qb [.int .i64 0] ⟨rfl,trivial⟩ ⟨rfl,SH.unfr 1 1 h0 h rfl rfl⟩
 refine zKSS (rD (Y1 4 0 h rfl ?_))
 refine Y1 4 0 h rfl ?_
 refine zd2 rfl (dN h fun w1 h=>qm rfl hF ?_ ?_)<;>intro hF
 ·refine qeK (rD (Y1 4 0 h rfl ?_))
  refine Y1 4 0 h rfl ?_
  obtain ⟨y1,hy1,hF,he1,b1,_,q1,cs1,hp1,hq1,rfl,hc3⟩:=(qf (h.grp 1 0 rfl rfl)).1.ix hF
  refine zdx hp1 hq1 ⟨he1.1,qN he1.2.1 (qf (h.grp 1 0 rfl rfl)).2⟩ rfl (zdc 0 hc3 rfl (zd2 rfl (dN h fun w2 h=>X1 9 0 h rfl (zs 0 h rfl fun w3 h=>X0 7 rfl (qm rfl hF ?_ ?_)))))<;>intro hF
  ·refine X0 4 rfl ?_
   obtain ⟨y2,hx1,hF⟩:=qe hF
   obtain ⟨g1,hx1⟩:=qiW hx1
   refine r_v (ql9 g1 hx1 rfl rfl) rfl (X0 2 rfl ?_)
   obtain rfl:=qd hF
   exact qbd qb [.int .i64 y2] ⟨rfl,trivial⟩ ⟨rfl,SH.unfr 1 1 h0 h rfl rfl⟩
  refine X1 15 0 h rfl (zs 0 h rfl fun w4 h=>X1 8 0 h rfl ?_)
  obtain ⟨y3,hx2,hF⟩:=qe hF
  obtain ⟨g2,hx2⟩:=qiW hx2
  refine r_v (ql9 g2 hx2 rfl rfl) rfl (X0 2 rfl ?_)
  obtain rfl:=qd hF
  exact qbd qb [.int .i64 y3] ⟨rfl,trivial⟩ ⟨rfl,SH.unfr 1 1 h0 h rfl rfl⟩
 refine X1 13 0 h rfl (zs 0 h rfl fun w5 h=>X1 9 0 h rfl ?_)
 obtain ⟨y4,hx3,hF⟩:=qe hF
 obtain ⟨g3,hx3⟩:=qiW hx3
 refine r_v (ql9 g3 hx3 rfl rfl) rfl (X0 2 rfl ?_)
 obtain rfl:=qd hF
 exact qbd qb [.int .i64 y4] ⟨rfl,trivial⟩ ⟨rfl,SH.unfr 1 1 h0 h rfl rfl⟩
def qd4 (c:qr) (y1:Int):Nat→Bool→Bool→Int→Option (Bool × Bool × Int)
 | 0,_,_,_=>none
 | n+1,b1,b2,i1 =>
  bif decide (i1<(c.Bb.length:Int)) then
   bif ((bitS .and .i64 i1 y1) != 0) then qd4 c y1 n b1 b2 (W64 (i1+1)) else
   (
    bif b1 then some true else
    (idx c.Bb i1).bind fun y4 =>
    (idx c.Bb (W64 (i1+y1))).bind fun y5 =>
    some (decide (y4<y5))).bind fun b3 =>
   bif b2 then qd4 c y1 n b3 true (W64 (i1+1)) else
   (idx c.Bb i1).bind fun y2 =>
   (idx c.Bb (W64 (i1+y1))).bind fun y3 =>
   qd4 c y1 n b3 (decide (y2 > y3)) (W64 (i1+1))
  else
   some (b1,b2,i1)
def qhv (n:Nat) (c:qr) (pin:Int):Option Int :=
 (shlS 1 (IntKind.wrap .u64 pin)).bind fun y1 =>
 (qd4 c y1 n false false 0).bind fun o=>match o with
 | (b1,b2,_) =>
  (
   bif b1 then some b2 else
   some false).bind fun b8 =>
  bif b8 then some 3 else
  bif b1 then some 1 else
  bif b2 then some 2 else
  some 0
theorem qkc {c:qr} {pin:Int} (ha1:GoT.R w (old w) c cs1) {r:Int} (hF:qhv n c pin=some r):RetV Tryz.prog 255 [GoT.v qr cs1,.int .i64 pin] w r:=by
 obtain ⟨p1,k1,p2,k2,p3,k3,rfl,s1,s2,s3⟩:=qQ ha1
 refine zV 64 Tryz.func255 rfl fun h=>zSR (qO h rfl rfl fun w1 bb1 h=>X0 11 rfl ?_)
 obtain ⟨y1,hx1,hF⟩:=qe hF
 obtain ⟨g1,hx1⟩:=qi4 hx1
 refine r_v (qn3 g1 rfl rfl) rfl ?_
 rw [hx1]
 refine X0 7 rfl ?_
 obtain ⟨o1,hF,hK1⟩:=qe hF
 refine qq (rL (fun m e w'=>∃ (b1:Bool) (b2:Bool) (i1:Int),qd4 c y1 m b1 b2 i1=some o1∧e=[(2,.pointer (some ⟨bb1,0,none⟩)),(5,.bool b1),(6,.bool b2),(7,.int .i64 y1),(8,.int .i64 i1)]∧SH w w' [Ch.box bb1 (qv c p1 p2 p3 k1 k2 k3) 169]) n ⟨_,_,_,hF,rfl,h⟩ rfl ?_)
 rintro m1 e1 w2 ⟨b1,b2,i1,hF,rfl,h⟩
 rcases m1 with _|m1
 ·cases hF
 refine X1 9 0 h rfl (qm rfl hF ?_ ?_)<;>intro hF
 ·refine X0 8 rfl (r_v (qqE rfl rfl rfl) rfl (X0 2 rfl (qm rfl hF ?_ ?_)))<;>intro hF
  ·exact qy rfl (X0 5 rfl (rK ⟨_,_,_,hF,rfl,h⟩ rfl))
  refine zKS ?_
  obtain ⟨KF1,hKF1,o2,hF,hK2⟩:=bindE hF
  refine qa2 (fun e w'=>∃ (b3:Bool),KF1 b3=some o1∧e=[(2,.pointer (some ⟨bb1,0,none⟩)),(5,.bool b3),(6,.bool b2),(7,.int .i64 y1),(8,.int .i64 i1)]∧SH w w' [Ch.box bb1 (qv c p1 p2 p3 k1 k2 k3) 169]) ?_ ?_
  ·refine rD (zd2 rfl (qaD (t:=24) hF rfl ?_ ?_))<;>intro hF
   ·refine Y0 15 rfl (dN h fun w5 h=>?_)
    obtain rfl:=qd hF
    exact rG ⟨_,hK2,rfl,h⟩ rfl
   refine Y1 4 0 h rfl ?_
   refine Y0 3 rfl ?_
   obtain ⟨y4,hy3,hF,he3,b6,_,q3,cs4,hp3,hq3,rfl,hc5⟩:=s3.ix hF
   refine zdxe hp3 hq3 he3 rfl (Y0 1 rfl (zdc 0 (hc5.below h.below) rfl (Y1 4 0 h rfl ?_)))
   refine Y0 7 rfl ?_
   obtain ⟨y5,hy4,hF,he4,b7,_,q4,cs5,hp4,hq4,rfl,hc6⟩:=s3.ix hF
   refine zdxe hp4 hq4 he4 rfl (Y0 1 rfl (zdc 0 (hc6.below h.below) rfl (Y0 4 rfl (dN h fun w6 h=>?_))))
   obtain rfl:=qd hF
   exact rG ⟨_,hK2,rfl,h⟩ rfl
  rintro e2 w7 ⟨b3,hF,rfl,h⟩
  subst hKF1
  refine rD (zd2 rfl (qaD (t:=40) hF rfl ?_ ?_))<;>intro hF
  ·exact Y0 15 rfl (dN h fun w3 h=>X0 6 rfl (rK ⟨_,_,_,hF,rfl,h⟩ rfl))
  refine Y1 4 0 h rfl ?_
  refine Y0 3 rfl ?_
  obtain ⟨y2,hy1,hF,he1,b4,_,q1,cs2,hp1,hq1,rfl,hc3⟩:=s3.ix hF
  refine zdxe hp1 hq1 he1 rfl (Y0 1 rfl (zdc 0 (hc3.below h.below) rfl (Y1 4 0 h rfl ?_)))
  refine Y0 7 rfl ?_
  obtain ⟨y3,hy2,hF,he2,b5,_,q2,cs3,hp2,hq2,rfl,hc4⟩:=s3.ix hF
  exact zdxe hp2 hq2 he2 rfl (Y0 1 rfl (zdc 0 (hc4.below h.below) rfl (Y0 4 rfl (dN h fun w4 h=>X0 6 rfl (rK ⟨_,_,_,hF,rfl,h⟩ rfl)))))
 refine qy rfl ?_
 obtain rfl:=qd hF;replace hF:=hK1
 refine X0 3 rfl ?_
 obtain ⟨KF2,hKF2,o3,hF,hK3⟩:=bindE hF
 refine qa2 (fun e w'=>∃ (b8:Bool),KF2 b8=some r∧e=[(5,.bool b1),(6,.bool b2),(55,.bool b8)]∧SH w w' []) ?_ ?_
 ·refine X0 3 rfl (qi (t:=57) hF rfl ?_ ?_)<;>intro hF
  ·refine X0 5 rfl ?_
   replace h:=h.pick [] rfl
   obtain rfl:=qd hF
   exact rG ⟨_,hK3,rfl,h⟩ rfl
  refine X0 4 rfl ?_
  replace h:=h.pick [] rfl
  obtain rfl:=qd hF
  exact rG ⟨_,hK3,rfl,h⟩ rfl
 rintro e3 w8 ⟨b8,hF,rfl,h⟩
 subst hKF2
 refine qm rfl hF ?_ ?_<;>intro hF
 ·exact X0 4 rfl (ri h hF rfl)
 refine X0 5 rfl (qm rfl hF ?_ ?_)<;>intro hF
 ·exact X0 4 rfl (ri h hF rfl)
 refine X0 5 rfl (qm rfl hF ?_ ?_)<;>intro hF
 ·exact X0 4 rfl (ri h hF rfl)
 exact X0 6 rfl (ri h hF rfl)
def qb1 (s:Tl01Source) (step:Int):Nat→(List Int)→Int→Int→Int→Int→Option ((List Int) × Int × Int × Int × Int)
 | 0,_,_,_,_,_=>none
 | n+1,x1,i7,i8,i9,i10 =>
  bif decide (i10 > 0) then
   (appS x1 ([i9]:List Int)).bind fun x2 =>
   (qk n (⟨s.code,i7,i8⟩:Tl01Source) step).bind fun o=>match o with
    | (i11,i12,i13) =>
     qb1 s step n x2 i12 i13 (W64 ((W64 (i9+1))+i11)) (W64 (i10-1))
  else
   some (x1,i7,i8,i9,i10)
def qd2 (n:Nat) (s:Tl01Source) (step:Int):Option ((List Int) × Int × Int) :=
 (qk n (⟨s.code,s.at_,s.seed⟩:Tl01Source) step).bind fun o=>match o with
  | (i1,i2,i3) =>
   (qk n (⟨s.code,i2,i3⟩:Tl01Source) 3).bind fun o=>match o with
    | (i4,i5,i6) =>
     (qb1 s step n ([]:List Int) i5 i6 i1 (W64 (1+i4))).bind fun o=>match o with
     | (x1,i7,i8,_,_) =>
      some (x1,i7,i8)
theorem qgn {n:Nat} {w0 w:World} {F:List Ch} {s:Tl01Source} {bb1:Nat} {p1:Option Addr} {k1:Nat} {step:Int} (h0:SH w0 w (Ch.box bb1 (qaf s p1 k1) 225::F)) (ha1:GoT.R w (Fr w0 F) s [.slice p1 s.code.length k1,.int .i64 s.at_,.int .i64 s.seed]) {r:((List Int) × Int × Int)} (hF:qd2 n s step=some r):RetW Tryz.prog 277 [.pointer (some ⟨bb1,0,none⟩),.int .i64 step] w (fun us w'=>∃ (S1:Nat→Prop) (cs1:List Value),us=[GoT.v (List Int) cs1]∧SH w0 w' (Ch.own S1 (r.1:(List Int)) cs1::Ch.box bb1 [.slice p1 s.code.length k1,.int .i64 r.2.1,.int .i64 r.2.2] 225::F)):=by
 have h:=SH.frm1 h0 ha1
 refine qa7 Tryz.func277 rfl (m:=30) rfl rfl (X0 6 rfl (ql qb [] _ ([]:List Int) h rfl rfl rfl rfl rfl rfl rfl rfl rfl trivial rfl fun w1 p2 S2 h=>X0 6 rfl ?_))
 replace h:=h.pick [1,0,2] rfl
 obtain ⟨o1,hr1,hF⟩:=qe hF
 obtain ⟨i1,i2,i3⟩:=o1
 refine qt (cB 132 rfl) (qh (a_0:=(⟨s.code,s.at_,s.seed⟩:Tl01Source)) (a_1:=step) h (show GoT.R _ _ ((⟨s.code,s.at_,s.seed⟩:Tl01Source):Tl01Source) _ from ⟨[.slice p1 s.code.length k1],[.int .i64 s.at_,.int .i64 s.seed],rfl,⟨_,_,rfl,(qf (h.frG 2 0 1 rfl rfl rfl)).1⟩,⟨[.int .i64 s.at_],[.int .i64 s.seed],rfl,rfl,rfl⟩⟩) hr1) rfl rfl rfl rfl ?_
 rintro w2 us1 ⟨rfl,h⟩
 dsimp only at h
 refine X0 6 rfl ?_
 obtain ⟨o2,hr2,hF⟩:=qe hF
 obtain ⟨i4,i5,i6⟩:=o2
 refine qt (cB 132 rfl) (qh (a_0:=(⟨s.code,i2,i3⟩:Tl01Source)) (a_1:=3) h (show GoT.R _ _ ((⟨s.code,i2,i3⟩:Tl01Source):Tl01Source) _ from ⟨[.slice p1 s.code.length k1],[.int .i64 i2,.int .i64 i3],rfl,⟨_,_,rfl,(qf (h.frG 2 0 1 rfl rfl rfl)).1⟩,⟨[.int .i64 i2],[.int .i64 i3],rfl,rfl,rfl⟩⟩) hr2) rfl rfl rfl rfl ?_
 rintro w3 us2 ⟨rfl,h⟩
 dsimp only at h
 refine X0 3 rfl ?_
 obtain ⟨o3,hF,hK1⟩:=qe hF
 refine qq (rL (fun m e w'=>∃ (S3:Nat→Prop) (p3:Option Addr) (ln1:Nat) (k2:Nat) (x1:(List Int)) (i7:Int) (i8:Int) (i9:Int) (i10:Int),qb1 s step m x1 i7 i8 i9 i10=some o3∧e=[(0,.pointer (some ⟨bb1,0,none⟩)),(1,.int .i64 step),(5,.slice p3 ln1 k2),(6,.int .i64 i9),(7,.int .i64 i10)]∧SH w0 w' [Ch.box bb1 [.slice p1 s.code.length k1,.int .i64 i7,.int .i64 i8] 225,Ch.own S3 (x1:List Int) [.slice p3 ln1 k2],Ch.grp (old w0) (FS F) [fct (s:Tl01Source) [.slice p1 s.code.length k1,.int .i64 s.at_,.int .i64 s.seed],same w0 w F]]) n ⟨_,_,_,_,_,_,_,_,_,hF,rfl,h⟩ rfl ?_)
 rintro m1 e1 w4 ⟨S3,p3,ln1,k2,x1,i7,i8,i9,i10,hF,rfl,h⟩
 obtain rfl:=(h.sl 1 rfl).2
 rcases m1 with _|m1
 ·cases hF
 refine X0 6 rfl (qm rfl hF ?_ ?_)<;>intro hF
 ·refine X0 7 rfl (ql qb [.tmp 20] _ ([i9]:List Int) h rfl rfl rfl rfl rfl rfl rfl rfl rfl ⟨rfl,trivial⟩ rfl fun w5 p4 S4 h=>?_)
  obtain ⟨x2,hx1,hF⟩:=qe hF
  obtain ⟨g1,hx1⟩:=qw hx1
  refine qak qb 2 h rfl (h.sl 0 rfl).1 (h.sl 0 rfl).2 rfl rfl rfl rfl rfl rfl rfl rfl rfl g1 hx1 rfl fun w6 p5 k3 S5 h=>X0 7 rfl ?_
  replace h:=h.pick [1,0,2,3] rfl
  obtain ⟨o4,hr3,hF⟩:=qe hF
  obtain ⟨i11,i12,i13⟩:=o4
  refine qt (cB 132 rfl) (qh (a_0:=(⟨s.code,i7,i8⟩:Tl01Source)) (a_1:=step) h (show GoT.R _ _ ((⟨s.code,i7,i8⟩:Tl01Source):Tl01Source) _ from ⟨[.slice p1 s.code.length k1],[.int .i64 i7,.int .i64 i8],rfl,⟨_,_,rfl,(qf (h.frG 3 0 1 rfl rfl rfl)).1⟩,⟨[.int .i64 i7],[.int .i64 i8],rfl,rfl,rfl⟩⟩) hr3) rfl rfl rfl rfl ?_
  rintro w7 us3 ⟨rfl,h⟩
  dsimp only at h
  refine X0 9 rfl ?_
  replace h:=h.pick [0,2,3] rfl
  exact rK ⟨_,_,_,_,_,_,_,_,_,hF,rfl,h⟩ rfl
 refine qy rfl ?_
 obtain rfl:=qd hF;replace hF:=hK1
 refine X0 5 rfl ?_
 obtain rfl:=qd hF
 replace h:=h.pick [1,0,2] rfl
 exact qbd qb [GoT.v (List Int) [.slice p3 x1.length k2]] ⟨rfl,trivial⟩ ⟨_,_,rfl,SH.unfr 1 1 h0 h rfl rfl⟩
def qcP (a_0:Tl01Source) (a_1:Int) (r1:(List Int)) (r2:(List Int)):Nat→(List Int)→Int→Int→Int→Option ((List Int) × Int × Int × Int)
 | 0,_,_,_,_=>none
 | n+1,x1,i5,i6,i7 =>
  bif decide (i7<(W64 ((r1.length:Int)*(r2.length:Int)))) then
   (qk n (⟨a_0.code,i5,i6⟩:Tl01Source) 10).bind fun o=>match o with
    | (i8,i9,i10) =>
     (remS i7 (r2.length:Int)).bind fun y1 =>
     (
      bif decide (y1 > 0) then
       (idx x1 (W64 (i7-1))).bind fun y3 =>
       (qk n (⟨a_0.code,i9,i10⟩:Tl01Source) 20).bind fun o=>match o with
        | (i17,i18,i19) =>
         some (i18,i19,(if (W64 (y3+i17)) > (W64 (a_1+i8)) then (W64 (y3+i17)) else (W64 (a_1+i8))))
      else
       some (i9,i10,W64 (a_1+i8))).bind fun o=>match o with
      | (i11,i12,i13) =>
       bif decide (i7 ≥ (r2.length:Int)) then
        (idx x1 (W64 (i7-(r2.length:Int)))).bind fun y2 =>
        (qk n (⟨a_0.code,i11,i12⟩:Tl01Source) 20).bind fun o=>match o with
         | (i14,i15,i16) =>
          (appS x1 ([(if (W64 (y2+i14)) > i13 then (W64 (y2+i14)) else i13)]:List Int)).bind fun x2 =>
          qcP a_0 a_1 r1 r2 n x2 i15 i16 (W64 (i7+1))
       else
        (appS x1 ([i13]:List Int)).bind fun x3 =>
        qcP a_0 a_1 r1 r2 n x3 i11 i12 (W64 (i7+1))
  else
   some (x1,i5,i6,i7)
def qfZ (n:Nat) (a_0:Tl01Source) (a_1:Int):Option (qR × Int × Int) :=
 (qd2 n (⟨a_0.code,a_0.at_,a_0.seed⟩:Tl01Source) 60).bind fun o=>match o with
  | (r1,i1,i2) =>
   (qd2 n (⟨a_0.code,i1,i2⟩:Tl01Source) 40).bind fun o=>match o with
    | (r2,i3,i4) =>
     (qcP a_0 a_1 r1 r2 n ([]:List Int) i3 i4 0).bind fun o=>match o with
     | (x1,i5,i6,_) =>
      some ((⟨r1,r2,x1⟩:qR),i5,i6)
theorem qhN {n:Nat} {w0 w:World} {F:List Ch} {a_0:Tl01Source} {bb1:Nat} {p1:Option Addr} {k1:Nat} {a_1:Int} (h0:SH w0 w (Ch.box bb1 (qaf a_0 p1 k1) 225::F)) (ha1:GoT.R w (Fr w0 F) a_0 [.slice p1 a_0.code.length k1,.int .i64 a_0.at_,.int .i64 a_0.seed]) {r:(qR × Int × Int)} (hF:qfZ n a_0 a_1=some r):RetW Tryz.prog 274 [.pointer (some ⟨bb1,0,none⟩),.int .i64 a_1] w (fun us w'=>∃ (S1:Nat→Prop) (cs1:List Value),us=[GoT.v qR cs1]∧SH w0 w' (Ch.own S1 (r.1:qR) cs1::Ch.box bb1 [.slice p1 a_0.code.length k1,.int .i64 r.2.1,.int .i64 r.2.2] 225::F)):=by
 have h:=SH.frm1 h0 ha1
 refine qa7 Tryz.func274 rfl (m:=66) rfl rfl (zSR (qx qb h rfl rfl rfl fun w1 bb2 h=>X0 4 rfl ?_))
 replace h:=h.pick [1,0,2] rfl
 obtain ⟨o1,hr1,hF⟩:=qe hF
 obtain ⟨r1,i1,i2⟩:=o1
 refine qt (cB 277 rfl) (qgn (s:=(⟨a_0.code,a_0.at_,a_0.seed⟩:Tl01Source)) (step:=60) h (show GoT.R _ _ ((⟨a_0.code,a_0.at_,a_0.seed⟩:Tl01Source):Tl01Source) _ from ⟨[.slice p1 a_0.code.length k1],[.int .i64 a_0.at_,.int .i64 a_0.seed],rfl,⟨_,_,rfl,(qf (h.frG 2 0 1 rfl rfl rfl)).1⟩,⟨[.int .i64 a_0.at_],[.int .i64 a_0.seed],rfl,rfl,rfl⟩⟩) hr1) rfl rfl rfl rfl ?_
 rintro w2 us1 ⟨S2,cs2,rfl,h⟩
 obtain ⟨p2,k2,rfl,-⟩:=h.own 0 rfl
 replace h:SH _ _ [Ch.own S2 (r1:List Int) [.slice p2 r1.length k2],Ch.box bb1 [.slice p1 a_0.code.length k1,.int .i64 i1,.int .i64 i2] 225,Ch.box bb2 [.slice none 0 0,.slice none 0 0,.slice none 0 0] 276,Ch.grp (old w0) (FS F) [fct (a_0:Tl01Source) [.slice p1 a_0.code.length k1,.int .i64 a_0.at_,.int .i64 a_0.seed],same w0 w F]]:=h
 refine X0 5 rfl ?_
 replace h:=h.pick [1,0,2,3] rfl
 obtain ⟨o2,hr2,hF⟩:=qe hF
 obtain ⟨r2,i3,i4⟩:=o2
 refine qt (cB 277 rfl) (qgn (s:=(⟨a_0.code,i1,i2⟩:Tl01Source)) (step:=40) h (show GoT.R _ _ ((⟨a_0.code,i1,i2⟩:Tl01Source):Tl01Source) _ from ⟨[.slice p1 a_0.code.length k1],[.int .i64 i1,.int .i64 i2],rfl,⟨_,_,rfl,(qf (h.frG 3 0 1 rfl rfl rfl)).1⟩,⟨[.int .i64 i1],[.int .i64 i2],rfl,rfl,rfl⟩⟩) hr2) rfl rfl rfl rfl ?_
 rintro w3 us2 ⟨S3,cs3,rfl,h⟩
 obtain ⟨p3,k3,rfl,-⟩:=h.own 0 rfl
 replace h:SH _ _ [Ch.own S3 (r2:List Int) [.slice p3 r2.length k3],Ch.box bb1 [.slice p1 a_0.code.length k1,.int .i64 i3,.int .i64 i4] 225,Ch.own S2 (r1:List Int) [.slice p2 r1.length k2],Ch.box bb2 [.slice none 0 0,.slice none 0 0,.slice none 0 0] 276,Ch.grp (old w0) (FS F) [fct (a_0:Tl01Source) [.slice p1 a_0.code.length k1,.int .i64 a_0.at_,.int .i64 a_0.seed],same w0 w F]]:=h
 refine X0 4 rfl (ql qb [] _ ([]:List Int) h rfl rfl rfl rfl rfl rfl rfl rfl rfl trivial rfl fun w4 p4 S4 h=>X0 13 rfl ?_)
 obtain ⟨o3,hF,hK1⟩:=qe hF
 refine qq (rL (fun m e w'=>∃ (S5:Nat→Prop) (p5:Option Addr) (ln1:Nat) (k4:Nat) (x1:(List Int)) (i5:Int) (i6:Int) (i7:Int),qcP a_0 a_1 r1 r2 m x1 i5 i6 i7=some o3∧e=[(0,.pointer (some ⟨bb1,0,none⟩)),(1,.int .i64 a_1),(4,.pointer (some ⟨bb2,0,none⟩)),(5,.slice p2 r1.length k2),(6,.slice p3 r2.length k3),(7,.slice p5 ln1 k4),(8,.int .i64 (r2.length:Int)),(9,.int .i64 i7)]∧SH w0 w' [Ch.own S5 (x1:List Int) [.slice p5 ln1 k4],Ch.own S3 (r2:List Int) [.slice p3 r2.length k3],Ch.box bb1 [.slice p1 a_0.code.length k1,.int .i64 i5,.int .i64 i6] 225,Ch.own S2 (r1:List Int) [.slice p2 r1.length k2],Ch.box bb2 [.slice none 0 0,.slice none 0 0,.slice none 0 0] 276,Ch.grp (old w0) (FS F) [fct (a_0:Tl01Source) [.slice p1 a_0.code.length k1,.int .i64 a_0.at_,.int .i64 a_0.seed],same w0 w F]]) n ⟨_,_,_,_,_,_,_,_,hF,rfl,h⟩ rfl ?_)
 rintro m1 e1 w5 ⟨S5,p5,ln1,k4,x1,i5,i6,i7,hF,rfl,h⟩
 obtain rfl:=(h.sl 0 rfl).2
 rcases m1 with _|m1
 ·cases hF
 refine X0 10 rfl (qm rfl hF ?_ ?_)<;>intro hF
 ·refine X0 7 rfl ?_
  replace h:=h.pick [2,0,1,3,4,5] rfl
  obtain ⟨o4,hr3,hF⟩:=qe hF
  obtain ⟨i8,i9,i10⟩:=o4
  refine qt (cB 132 rfl) (qh (a_0:=(⟨a_0.code,i5,i6⟩:Tl01Source)) (a_1:=10) h (show GoT.R _ _ ((⟨a_0.code,i5,i6⟩:Tl01Source):Tl01Source) _ from ⟨[.slice p1 a_0.code.length k1],[.int .i64 i5,.int .i64 i6],rfl,⟨_,_,rfl,(qf (h.frG 5 0 1 rfl rfl rfl)).1⟩,⟨[.int .i64 i5],[.int .i64 i6],rfl,rfl,rfl⟩⟩) hr3) rfl rfl rfl rfl ?_
  rintro w6 us3 ⟨rfl,h⟩
  dsimp only at h
  refine X0 8 rfl ?_
  obtain ⟨y1,hx1,hF⟩:=qe hF
  obtain ⟨g1,hx1⟩:=qiW hx1
  refine r_v (ql9 g1 hx1 rfl rfl) rfl (X0 2 rfl ?_)
  obtain ⟨KF1,hKF1,o6,hF,hK2⟩:=bindE hF
  refine qa2 (fun e w'=>∃ (i11:Int) (i12:Int) (i13:Int),KF1 (i11,i12,i13)=some o3∧e=[(0,.pointer (some ⟨bb1,0,none⟩)),(1,.int .i64 a_1),(4,.pointer (some ⟨bb2,0,none⟩)),(5,.slice p2 r1.length k2),(6,.slice p3 r2.length k3),(7,.slice p5 x1.length k4),(8,.int .i64 (r2.length:Int)),(9,.int .i64 i7),(10,.int .i64 i13)]∧SH w0 w' [Ch.box bb1 [.slice p1 a_0.code.length k1,.int .i64 i11,.int .i64 i12] 225,Ch.own S5 (x1:List Int) [.slice p5 x1.length k4],Ch.own S3 (r2:List Int) [.slice p3 r2.length k3],Ch.own S2 (r1:List Int) [.slice p2 r1.length k2],Ch.box bb2 [.slice none 0 0,.slice none 0 0,.slice none 0 0] 276,Ch.grp (old w0) (FS F) [fct (a_0:Tl01Source) [.slice p1 a_0.code.length k1,.int .i64 a_0.at_,.int .i64 a_0.seed],same w0 w F]]) ?_ ?_
  ·refine qm rfl hF ?_ ?_<;>intro hF
   ·refine rA [] [1] h rfl fun w13 h=>M0 15 [0,1,2,3] (h.pick [1] rfl) rfl ?_
    obtain ⟨y3,hy2,hF,he2,b2,_,q2,cs5,hp2,hq2,rfl,hc5⟩:=(h.sl 1 rfl).1.ix hF
    refine Ax 4 31 hp2 hq2 ⟨he2.1,qN he2.2.1 (h.sl 1 rfl).2⟩ (h.pick [1] rfl) rfl (Aw 5 63 (fun w' hw=>qeJ qb (qcl (w1:=w) (S1:=fun _=>False) hw 0 rfl hy2 hp2 hq2 rfl) (j:=0) rfl rfl rfl) (h.pick [1] rfl) rfl ?_)
    refine M0 127 [6] (h.pick [1] rfl) rfl (Ao 7 255 rfl ?_)
    obtain ⟨o7,hr7,hF⟩:=qe hF
    obtain ⟨i17,i18,i19⟩:=o7
    refine qt (cB 132 rfl) (qh (a_0:=(⟨a_0.code,i9,i10⟩:Tl01Source)) (a_1:=20) h (show GoT.R _ _ ((⟨a_0.code,i9,i10⟩:Tl01Source):Tl01Source) _ from ⟨[.slice p1 a_0.code.length k1],[.int .i64 i9,.int .i64 i10],rfl,⟨_,_,rfl,(qf (h.frG 5 0 1 rfl rfl rfl)).1⟩,⟨[.int .i64 i9],[.int .i64 i10],rfl,rfl,rfl⟩⟩) hr7) rfl rfl rfl rfl ?_
    rintro w14 us5 ⟨rfl,h⟩
    dsimp only at h
    refine G0 2047 [8,9,10] (h.pick [1] rfl) rfl (Ad ?_)
    obtain rfl:=qd hF
    exact rG ⟨_,_,_,hK2,rfl,h⟩ rfl
   refine qcV ?_
   obtain rfl:=qd hF
   exact rG ⟨_,_,_,hK2,rfl,h⟩ rfl
  rintro e2 w15 ⟨i11,i12,i13,hF,rfl,h⟩
  subst hKF1
  refine X0 7 rfl (qm rfl hF ?_ ?_)<;>intro hF
  ·refine rA [] [1] h rfl fun w7 h=>M0 31 [0,1,2,3,4] (h.pick [1] rfl) rfl ?_
   obtain ⟨y2,hy1,hF,he1,b1,_,q1,cs4,hp1,hq1,rfl,hc3⟩:=(h.sl 1 rfl).1.ix hF
   refine Ax 5 63 hp1 hq1 ⟨he1.1,qN he1.2.1 (h.sl 1 rfl).2⟩ (h.pick [1] rfl) rfl (Aw 6 127 (fun w' hw=>qeJ qb (qcl (w1:=w) (S1:=fun _=>False) hw 0 rfl hy1 hp1 hq1 rfl) (j:=0) rfl rfl rfl) (h.pick [1] rfl) rfl ?_)
   refine M0 255 [7] (h.pick [1] rfl) rfl (Ao 8 511 rfl ?_)
   obtain ⟨o5,hr5,hF⟩:=qe hF
   obtain ⟨i14,i15,i16⟩:=o5
   refine qt (cB 132 rfl) (qh (a_0:=(⟨a_0.code,i11,i12⟩:Tl01Source)) (a_1:=20) h (show GoT.R _ _ ((⟨a_0.code,i11,i12⟩:Tl01Source):Tl01Source) _ from ⟨[.slice p1 a_0.code.length k1],[.int .i64 i11,.int .i64 i12],rfl,⟨_,_,rfl,(qf (h.frG 5 0 1 rfl rfl rfl)).1⟩,⟨[.int .i64 i11],[.int .i64 i12],rfl,rfl,rfl⟩⟩) hr5) rfl rfl rfl rfl ?_
   rintro w8 us4 ⟨rfl,h⟩
   dsimp only at h
   refine G0 4095 [9,10,11] (h.pick [1] rfl) rfl (Ad (X0 3 rfl (ql qb [.tmp 59] _ ([(if (W64 (y2+i14)) > i13 then (W64 (y2+i14)) else i13)]:List Int) h rfl rfl rfl rfl rfl rfl rfl rfl rfl ⟨rfl,trivial⟩ rfl fun w9 p6 S6 h=>?_)))
   obtain ⟨x2,hx2,hF⟩:=qe hF
   obtain ⟨g2,hx2⟩:=qw hx2
   refine qak qb 2 h rfl (h.sl 0 rfl).1 (h.sl 0 rfl).2 rfl rfl rfl rfl rfl rfl rfl rfl rfl g2 hx2 rfl fun w10 p7 k5 S7 h=>X0 8 rfl ?_
   replace h:=h.pick [2,3,1,4,5,6] rfl
   exact rK ⟨_,_,_,_,_,_,_,_,hF,rfl,h⟩ rfl
  refine X0 4 rfl (ql qb [.tmp 59] _ ([i13]:List Int) h rfl rfl rfl rfl rfl rfl rfl rfl rfl ⟨rfl,trivial⟩ rfl fun w11 p8 S8 h=>?_)
  obtain ⟨x3,hx3,hF⟩:=qe hF
  obtain ⟨g3,hx3⟩:=qw hx3
  refine qak qb 2 h rfl (h.sl 0 rfl).1 (h.sl 0 rfl).2 rfl rfl rfl rfl rfl rfl rfl rfl rfl g3 hx3 rfl fun w12 p9 k6 S9 h=>X0 8 rfl ?_
  replace h:=h.pick [2,3,1,4,5,6] rfl
  exact rK ⟨_,_,_,_,_,_,_,_,hF,rfl,h⟩ rfl
 refine qy rfl ?_
 obtain rfl:=qd hF;replace hF:=hK1
 refine X0 5 rfl (r_v (qah qb [0,1,2] [.tmp 62,.tmp 63,.tmp 64] rfl rfl rfl rfl rfl rfl rfl rfl) rfl (zs 4 h rfl fun w16 h=>qa5 ?_))
 have hk1:=h
 obtain ⟨S10,h⟩:=h.gather [2,4,5] (qox (⟨r1,r2,x1⟩:qR) h (qB 3 h rfl) (qB 1 h rfl) (qB 0 h rfl) (by rfl) (by rfl)) rfl
 obtain rfl:=qd hF
 replace h:=h.pick [0,1,3] rfl
 exact qbd qb [GoT.v qR [.slice p2 r1.length k2,.slice p3 r2.length k3,.slice p5 x1.length k4]] ⟨⟨_,_,_,rfl,rfl,hk1.box 4 rfl,rfl⟩,trivial⟩ ⟨_,_,rfl,SH.unfr 1 1 h0 h rfl rfl⟩
def qct (n:Nat) (s:Tl01Source) (base:Int):Option ((List qR) × Int × Int) :=
 (qfZ n (⟨s.code,s.at_,s.seed⟩:Tl01Source) base).bind fun o=>match o with
  | (r1,i1,i2) =>
   (qfZ n (⟨s.code,i1,i2⟩:Tl01Source) base).bind fun o=>match o with
    | (r2,i3,i4) =>
     some (([r1,r2]:List qR),i3,i4)
theorem qei {n:Nat} {w0 w:World} {F:List Ch} {s:Tl01Source} {bb1:Nat} {p1:Option Addr} {k1:Nat} {base:Int} (h0:SH w0 w (Ch.box bb1 (qaf s p1 k1) 225::F)) (ha1:GoT.R w (Fr w0 F) s [.slice p1 s.code.length k1,.int .i64 s.at_,.int .i64 s.seed]) {r:((List qR) × Int × Int)} (hF:qct n s base=some r):RetW Tryz.prog 268 [.pointer (some ⟨bb1,0,none⟩),.int .i64 base] w (fun us w'=>∃ (S1:Nat→Prop) (cs1:List Value),us=[GoT.v (List qR) cs1]∧SH w0 w' (Ch.own S1 (r.1:(List qR)) cs1::Ch.box bb1 [.slice p1 s.code.length k1,.int .i64 r.2.1,.int .i64 r.2.2] 225::F)):=by
 have h:=SH.frm1 h0 ha1
 refine qa7 Tryz.func268 rfl (m:=14) rfl rfl (X0 8 rfl ?_)
 obtain ⟨o1,hr1,hF⟩:=qe hF
 obtain ⟨r1,i1,i2⟩:=o1
 refine qt (cB 274 rfl) (qhN (a_0:=(⟨s.code,s.at_,s.seed⟩:Tl01Source)) (a_1:=base) h (show GoT.R _ _ ((⟨s.code,s.at_,s.seed⟩:Tl01Source):Tl01Source) _ from ⟨[.slice p1 s.code.length k1],[.int .i64 s.at_,.int .i64 s.seed],rfl,⟨_,_,rfl,(qf (h.frG 1 0 1 rfl rfl rfl)).1⟩,⟨[.int .i64 s.at_],[.int .i64 s.seed],rfl,rfl,rfl⟩⟩) hr1) rfl rfl rfl rfl ?_
 rintro w1 us1 ⟨S2,cs2,rfl,h⟩
 obtain ⟨p2,k2,p3,k3,p4,k4,rfl,-,-,-⟩:=qef (h.own 0 rfl)
 replace h:SH _ _ [Ch.own S2 (r1:qR) (qfU r1 p2 p3 p4 k2 k3 k4),Ch.box bb1 [.slice p1 s.code.length k1,.int .i64 i1,.int .i64 i2] 225,Ch.grp (old w0) (FS F) [fct (s:Tl01Source) [.slice p1 s.code.length k1,.int .i64 s.at_,.int .i64 s.seed],same w0 w F]]:=h
 refine qx qb h rfl rfl rfl fun w2 bb2 h=>zs 0 h rfl fun w3 h=>zNS (rA [] [0] h rfl fun w4 h=>M1 7 [0,1,2] 0 (h.pick [0] rfl) rfl (Ao 3 15 rfl ?_))
 replace h:=h.pick [2,0,1,3] rfl
 obtain ⟨o2,hr2,hF⟩:=qe hF
 obtain ⟨r2,i3,i4⟩:=o2
 refine qt (cB 274 rfl) (qhN (a_0:=(⟨s.code,i1,i2⟩:Tl01Source)) (a_1:=base) h (show GoT.R _ _ ((⟨s.code,i1,i2⟩:Tl01Source):Tl01Source) _ from ⟨[.slice p1 s.code.length k1],[.int .i64 i1,.int .i64 i2],rfl,⟨_,_,rfl,(qf (h.frG 3 0 1 rfl rfl rfl)).1⟩,⟨[.int .i64 i1],[.int .i64 i2],rfl,rfl,rfl⟩⟩) hr2) rfl rfl rfl rfl ?_
 rintro w5 us2 ⟨S3,cs3,rfl,h⟩
 obtain ⟨p5,k5,p6,k6,p7,k7,rfl,-,-,-⟩:=qef (h.own 0 rfl)
 replace h:SH _ _ [Ch.own S3 (r2:qR) (qfU r2 p5 p6 p7 k5 k6 k7),Ch.box bb1 [.slice p1 s.code.length k1,.int .i64 i3,.int .i64 i4] 225,Ch.box bb2 (qfU r1 p2 p3 p4 k2 k3 k4) 276,Ch.own S2 (r1:qR) (qfU r1 p2 p3 p4 k2 k3 k4),Ch.grp (old w0) (FS F) [fct (s:Tl01Source) [.slice p1 s.code.length k1,.int .i64 s.at_,.int .i64 s.seed],same w0 w F]]:=h
 refine Ag (h.pick [2] rfl) (Ao 4 31 rfl (qdf qb [.tmp 9,.tmp 12] _ ([r1,r2]:List qR) [1,2,4] h rfl rfl rfl rfl rfl rfl rfl rfl rfl (qbQ (qB 3 h rfl) (qbQ (qB 0 h rfl) qe6 rfl) rfl) rfl rfl fun w6 p8 S4 h=>G0 63 [5] (h.pick [2] rfl) rfl (Ad ?_)))
 obtain rfl:=qd hF
 replace h:=h.pick [0,1,3] rfl
 exact qbd qb [GoT.v (List qR) [.slice p8 2 2]] ⟨rfl,trivial⟩ ⟨_,_,rfl,SH.unfr 1 1 h0 h rfl rfl⟩
def qb8 (n:Nat) (s:Tl01Source) (kind:Int) (a_from:Int) (a_to:Int) (sense:Int):Option (qaw × Int × Int) :=
 bif decide (kind ≥ 4) then
  (qk n (⟨s.code,s.at_,s.seed⟩:Tl01Source) 10).bind fun o=>match o with
   | (i1,i2,i3) =>
    (qct n (⟨s.code,i2,i3⟩:Tl01Source) (W64 (5-i1))).bind fun o=>match o with
     | (r1,i4,i5) =>
      some ((⟨kind,a_from,a_to,0,r1,[]⟩:qaw),i4,i5)
 else
  (qk n (⟨s.code,s.at_,s.seed⟩:Tl01Source) 20).bind fun o=>match o with
   | (i6,i7,i8) =>
    (qct n (⟨s.code,i7,i8⟩:Tl01Source) (W64 (5+i6))).bind fun o=>match o with
     | (r2,i9,i10) =>
      (qct n (⟨s.code,i9,i10⟩:Tl01Source) 10).bind fun o=>match o with
       | (r3,i11,i12) =>
        some ((⟨kind,a_from,a_to,sense,r2,r3⟩:qaw),i11,i12)
theorem qcT {n:Nat} {w0 w:World} {F:List Ch} {s:Tl01Source} {bb1:Nat} {p1:Option Addr} {k1:Nat} {kind:Int} {a_from:Int} {a_to:Int} {sense:Int} (h0:SH w0 w (Ch.box bb1 (qaf s p1 k1) 225::F)) (ha1:GoT.R w (Fr w0 F) s [.slice p1 s.code.length k1,.int .i64 s.at_,.int .i64 s.seed]) {r:(qaw × Int × Int)} (hF:qb8 n s kind a_from a_to sense=some r):RetW Tryz.prog 256 [.pointer (some ⟨bb1,0,none⟩),.int .i64 kind,.int .i64 a_from,.int .i64 a_to,.int .i64 sense] w (fun us w'=>∃ (S1:Nat→Prop) (cs1:List Value),us=[GoT.v qaw cs1]∧SH w0 w' (Ch.own S1 (r.1:qaw) cs1::Ch.box bb1 [.slice p1 s.code.length k1,.int .i64 r.2.1,.int .i64 r.2.2] 225::F)):=by
 have h:=SH.frm1 h0 ha1
 refine qa7 Tryz.func256 rfl (m:=36) rfl rfl (zSR (qx qb h rfl rfl rfl fun w1 bb2 h=>X0 7 rfl (qm rfl hF ?_ ?_)))<;>intro hF
 ·refine X0 7 rfl ?_
  replace h:=h.pick [1,0,2] rfl
  obtain ⟨o1,hr1,hF⟩:=qe hF
  obtain ⟨i1,i2,i3⟩:=o1
  refine qt (cB 132 rfl) (qh (a_0:=(⟨s.code,s.at_,s.seed⟩:Tl01Source)) (a_1:=10) h (show GoT.R _ _ ((⟨s.code,s.at_,s.seed⟩:Tl01Source):Tl01Source) _ from ⟨[.slice p1 s.code.length k1],[.int .i64 s.at_,.int .i64 s.seed],rfl,⟨_,_,rfl,(qf (h.frG 2 0 1 rfl rfl rfl)).1⟩,⟨[.int .i64 s.at_],[.int .i64 s.seed],rfl,rfl,rfl⟩⟩) hr1) rfl rfl rfl rfl ?_
  rintro w2 us1 ⟨rfl,h⟩
  dsimp only at h
  refine zp1 rfl ?_
  obtain ⟨o2,hr2,hF⟩:=qe hF
  obtain ⟨r1,i4,i5⟩:=o2
  refine qt (cB 268 rfl) (qei (s:=(⟨s.code,i2,i3⟩:Tl01Source)) (base:=(W64 (5-i1))) h (show GoT.R _ _ ((⟨s.code,i2,i3⟩:Tl01Source):Tl01Source) _ from ⟨[.slice p1 s.code.length k1],[.int .i64 i2,.int .i64 i3],rfl,⟨_,_,rfl,(qf (h.frG 2 0 1 rfl rfl rfl)).1⟩,⟨[.int .i64 i2],[.int .i64 i3],rfl,rfl,rfl⟩⟩) hr2) rfl rfl rfl rfl ?_
  rintro w3 us2 ⟨S2,cs2,rfl,h⟩
  obtain ⟨p2,k2,rfl,-⟩:=h.own 0 rfl
  replace h:SH _ _ [Ch.own S2 (r1:List qR) [.slice p2 r1.length k2],Ch.box bb1 [.slice p1 s.code.length k1,.int .i64 i4,.int .i64 i5] 225,Ch.box bb2 [.int .i64 0,.int .i64 0,.int .i64 0,.int .i64 0,.slice none 0 0,.slice none 0 0] 183,Ch.grp (old w0) (FS F) [fct (s:Tl01Source) [.slice p1 s.code.length k1,.int .i64 s.at_,.int .i64 s.seed],same w0 w F]]:=h
  refine r_v (qah qb [0,1,2,4] [.tmp 14,.tmp 15,.tmp 16,.tmp 21] rfl rfl rfl rfl rfl rfl rfl rfl) rfl (zs 2 h rfl fun w4 h=>qa5 ?_)
  have hk1:=h
  obtain ⟨S3,h⟩:=h.gather [1,2,3] (qnS (⟨kind,a_from,a_to,0,r1,[]⟩:qaw) h (qC (S:=fun _=>False) rfl) (qC (S:=fun _=>False) rfl) (qC (S:=fun _=>False) rfl) (qC (S:=fun _=>False) rfl) (qB 0 h rfl) qfP (by rfl) (by rfl) (by rfl) (by rfl) (by rfl)) rfl
  obtain rfl:=qd hF
  replace h:=h.pick [0,1,3] rfl
  exact qbd qb [GoT.v qaw [.int .i64 kind,.int .i64 a_from,.int .i64 a_to,.int .i64 0,.slice p2 r1.length k2,.slice none 0 0]] ⟨⟨_,_,_,rfl,rfl,hk1.box 2 rfl,rfl⟩,trivial⟩ ⟨_,_,rfl,SH.unfr 1 1 h0 h rfl rfl⟩
 refine X0 5 rfl ?_
 replace h:=h.pick [1,0,2] rfl
 obtain ⟨o3,hr3,hF⟩:=qe hF
 obtain ⟨i6,i7,i8⟩:=o3
 refine qt (cB 132 rfl) (qh (a_0:=(⟨s.code,s.at_,s.seed⟩:Tl01Source)) (a_1:=20) h (show GoT.R _ _ ((⟨s.code,s.at_,s.seed⟩:Tl01Source):Tl01Source) _ from ⟨[.slice p1 s.code.length k1],[.int .i64 s.at_,.int .i64 s.seed],rfl,⟨_,_,rfl,(qf (h.frG 2 0 1 rfl rfl rfl)).1⟩,⟨[.int .i64 s.at_],[.int .i64 s.seed],rfl,rfl,rfl⟩⟩) hr3) rfl rfl rfl rfl ?_
 rintro w5 us3 ⟨rfl,h⟩
 dsimp only at h
 refine zp1 rfl ?_
 obtain ⟨o4,hr4,hF⟩:=qe hF
 obtain ⟨r2,i9,i10⟩:=o4
 refine qt (cB 268 rfl) (qei (s:=(⟨s.code,i7,i8⟩:Tl01Source)) (base:=(W64 (5+i6))) h (show GoT.R _ _ ((⟨s.code,i7,i8⟩:Tl01Source):Tl01Source) _ from ⟨[.slice p1 s.code.length k1],[.int .i64 i7,.int .i64 i8],rfl,⟨_,_,rfl,(qf (h.frG 2 0 1 rfl rfl rfl)).1⟩,⟨[.int .i64 i7],[.int .i64 i8],rfl,rfl,rfl⟩⟩) hr4) rfl rfl rfl rfl ?_
 rintro w6 us4 ⟨S4,cs3,rfl,h⟩
 obtain ⟨p3,k3,rfl,-⟩:=h.own 0 rfl
 replace h:SH _ _ [Ch.own S4 (r2:List qR) [.slice p3 r2.length k3],Ch.box bb1 [.slice p1 s.code.length k1,.int .i64 i9,.int .i64 i10] 225,Ch.box bb2 [.int .i64 0,.int .i64 0,.int .i64 0,.int .i64 0,.slice none 0 0,.slice none 0 0] 183,Ch.grp (old w0) (FS F) [fct (s:Tl01Source) [.slice p1 s.code.length k1,.int .i64 s.at_,.int .i64 s.seed],same w0 w F]]:=h
 refine X0 10 rfl ?_
 replace h:=h.pick [1,0,2,3] rfl
 obtain ⟨o5,hr5,hF⟩:=qe hF
 obtain ⟨r3,i11,i12⟩:=o5
 refine qt (cB 268 rfl) (qei (s:=(⟨s.code,i9,i10⟩:Tl01Source)) (base:=10) h (show GoT.R _ _ ((⟨s.code,i9,i10⟩:Tl01Source):Tl01Source) _ from ⟨[.slice p1 s.code.length k1],[.int .i64 i9,.int .i64 i10],rfl,⟨_,_,rfl,(qf (h.frG 3 0 1 rfl rfl rfl)).1⟩,⟨[.int .i64 i9],[.int .i64 i10],rfl,rfl,rfl⟩⟩) hr5) rfl rfl rfl rfl ?_
 rintro w7 us5 ⟨S5,cs4,rfl,h⟩
 obtain ⟨p4,k4,rfl,-⟩:=h.own 0 rfl
 replace h:SH _ _ [Ch.own S5 (r3:List qR) [.slice p4 r3.length k4],Ch.box bb1 [.slice p1 s.code.length k1,.int .i64 i11,.int .i64 i12] 225,Ch.own S4 (r2:List qR) [.slice p3 r2.length k3],Ch.box bb2 [.int .i64 0,.int .i64 0,.int .i64 0,.int .i64 0,.slice none 0 0,.slice none 0 0] 183,Ch.grp (old w0) (FS F) [fct (s:Tl01Source) [.slice p1 s.code.length k1,.int .i64 s.at_,.int .i64 s.seed],same w0 w F]]:=h
 refine r_v (qah qb [0,1,2,3,4,5] [.tmp 28,.tmp 29,.tmp 30,.tmp 31,.tmp 32,.tmp 34] rfl rfl rfl rfl rfl rfl rfl rfl) rfl (zs 3 h rfl fun w8 h=>qa5 ?_)
 have hk2:=h
 obtain ⟨S6,h⟩:=h.gather [1,3,4] (qnS (⟨kind,a_from,a_to,sense,r2,r3⟩:qaw) h (qC (S:=fun _=>False) rfl) (qC (S:=fun _=>False) rfl) (qC (S:=fun _=>False) rfl) (qC (S:=fun _=>False) rfl) (qB 2 h rfl) (qB 0 h rfl) (by rfl) (by rfl) (by rfl) (by rfl) (by rfl)) rfl
 obtain rfl:=qd hF
 replace h:=h.pick [0,1,3] rfl
 exact qbd qb [GoT.v qaw [.int .i64 kind,.int .i64 a_from,.int .i64 a_to,.int .i64 sense,.slice p3 r2.length k3,.slice p4 r3.length k4]] ⟨⟨_,_,_,rfl,rfl,hk2.box 3 rfl,rfl⟩,trivial⟩ ⟨_,_,rfl,SH.unfr 1 1 h0 h rfl rfl⟩
def qcN (a_0:Tl01Source) (a_1:ByteArray) (a_2:(List Int)) (i1:Int) (i4:Int) (x1:(List qaa)) (x3:(List qaa)):Nat→(List qaw)→Int→Int→Int→Option ((List qaw) × Int × Int × Int)
 | 0,_,_,_,_=>none
 | n+1,x4,i13,i14,i15 =>
  bif decide (i15<(x1.length:Int)) then
   (qhv n (⟨a_1,1,x3,[],a_2,i1,i4⟩:qr) i15).bind fun r1 =>
   bif (r1 != 0) then
    (qb8 n (⟨a_0.code,i13,i14⟩:Tl01Source) 1 i15 (x1.length:Int) r1).bind fun o=>match o with
     | (r2,i16,i17) =>
      (appS x4 ([r2]:List qaw)).bind fun x5 =>
      qcN a_0 a_1 a_2 i1 i4 x1 x3 n x5 i16 i17 (W64 (i15+1))
   else
    qcN a_0 a_1 a_2 i1 i4 x1 x3 n x4 i13 i14 (W64 (i15+1))
  else
   some (x4,i13,i14,i15)
def qds (a_0:Tl01Source) (a_2:(List Int)):Nat→(List qaa)→Int→Int→Int→Option ((List qaa) × Int × Int × Int)
 | 0,_,_,_,_=>none
 | n+1,x1,i7,i8,i9 =>
  bif decide (i9<(a_2.length:Int)) then
   (idx ([(⟨#[97]⟩:ByteArray),(⟨#[98]⟩:ByteArray),(⟨#[99]⟩:ByteArray),(⟨#[100]⟩:ByteArray)]:List ByteArray) (x1.length:Int)).bind fun y1 =>
   (qk n (⟨a_0.code,i7,i8⟩:Tl01Source) 9).bind fun o=>match o with
    | (i10,i11,i12) =>
     (appS x1 ([(⟨y1,1,W64 (1+i10),false⟩:qaa)]:List qaa)).bind fun x2 =>
     qds a_0 a_2 n x2 i11 i12 (W64 (2*i9))
  else
   some (x1,i7,i8,i9)
def qdO (n:Nat) (a_0:Tl01Source) (a_1:ByteArray) (a_2:(List Int)):Option (qr × Int × Int) :=
 (qk n (⟨a_0.code,a_0.at_,a_0.seed⟩:Tl01Source) 50).bind fun o=>match o with
  | (i1,i2,i3) =>
   (qk n (⟨a_0.code,i2,i3⟩:Tl01Source) 80).bind fun o=>match o with
    | (i4,i5,i6) =>
     (qds a_0 a_2 n ([]:List qaa) i5 i6 1).bind fun o=>match o with
     | (x1,i7,i8,_) =>
      (appS x1 ([(⟨(⟨#[121]⟩:ByteArray),2,0,false⟩:qaa)]:List qaa)).bind fun x3 =>
      (qcN a_0 a_1 a_2 i1 i4 x1 x3 n ([]:List qaw) i7 i8 0).bind fun o=>match o with
      | (x4,i13,i14,_) =>
       some ((⟨a_1,1,x3,x4,a_2,i1,i4⟩:qr),i13,i14)
theorem qd3 {n:Nat} {w0 w:World} {F:List Ch} {a_0:Tl01Source} {bb1:Nat} {p1:Option Addr} {k1:Nat} {a_1:ByteArray} {a_2:(List Int)} {S1:Nat→Prop} {p2:Option Addr} {k2:Nat} (h0:SH w0 w (Ch.box bb1 (qaf a_0 p1 k1) 225::Ch.own S1 (a_2:List Int) [.slice p2 a_2.length k2]::F)) (ha1:GoT.R w (Fr w0 F) a_0 [.slice p1 a_0.code.length k1,.int .i64 a_0.at_,.int .i64 a_0.seed]) {r:(qr × Int × Int)} (hF:qdO n a_0 a_1 a_2=some r):RetW Tryz.prog 226 [.pointer (some ⟨bb1,0,none⟩),.string a_1,.slice p2 a_2.length k2] w (fun us w'=>∃ (S2:Nat→Prop) (cs1:List Value),us=[GoT.v qr cs1]∧SH w0 w' (Ch.own S2 (r.1:qr) cs1::Ch.box bb1 [.slice p1 a_0.code.length k1,.int .i64 r.2.1,.int .i64 r.2.2] 225::F)):=by
 have h:=SH.frame [Ch.box bb1 (qaf a_0 p1 k1) 225,Ch.own S1 (a_2:List Int) [.slice p2 a_2.length k2]] h0
 replace h:=h.grpAdd 2 rfl ha1
 replace h:SH _ _ [Ch.box bb1 (qaf a_0 p1 k1) 225,Ch.own S1 (a_2:List Int) [.slice p2 a_2.length k2],Ch.grp (old w0) (FS F) [fct (a_0:Tl01Source) [.slice p1 a_0.code.length k1,.int .i64 a_0.at_,.int .i64 a_0.seed],same w0 w F]]:=h
 refine qa7 Tryz.func226 rfl (m:=71) rfl rfl (zSR (qx qb h rfl rfl rfl fun w1 bb2 h=>zNSR (ql qb [.const (.string (⟨#[97]⟩:ByteArray)),.const (.string (⟨#[98]⟩:ByteArray)),.const (.string (⟨#[99]⟩:ByteArray)),.const (.string (⟨#[100]⟩:ByteArray))] _ ([(⟨#[97]⟩:ByteArray),(⟨#[98]⟩:ByteArray),(⟨#[99]⟩:ByteArray),(⟨#[100]⟩:ByteArray)]:List ByteArray) h rfl rfl rfl rfl rfl rfl rfl rfl rfl ⟨rfl,rfl,rfl,rfl,trivial⟩ rfl fun w2 p3 S3 h=>X0 7 rfl ?_)))
 replace h:=h.pick [2,0,1,3,4] rfl
 obtain ⟨o1,hr1,hF⟩:=qe hF
 obtain ⟨i1,i2,i3⟩:=o1
 refine qt (cB 132 rfl) (qh (a_0:=(⟨a_0.code,a_0.at_,a_0.seed⟩:Tl01Source)) (a_1:=50) h (show GoT.R _ _ ((⟨a_0.code,a_0.at_,a_0.seed⟩:Tl01Source):Tl01Source) _ from ⟨[.slice p1 a_0.code.length k1],[.int .i64 a_0.at_,.int .i64 a_0.seed],rfl,⟨_,_,rfl,(qf (h.frG 4 0 1 rfl rfl rfl)).1⟩,⟨[.int .i64 a_0.at_],[.int .i64 a_0.seed],rfl,rfl,rfl⟩⟩) hr1) rfl rfl rfl rfl ?_
 rintro w3 us1 ⟨rfl,h⟩
 dsimp only at h
 refine zp1 rfl ?_
 obtain ⟨o2,hr2,hF⟩:=qe hF
 obtain ⟨i4,i5,i6⟩:=o2
 refine qt (cB 132 rfl) (qh (a_0:=(⟨a_0.code,i2,i3⟩:Tl01Source)) (a_1:=80) h (show GoT.R _ _ ((⟨a_0.code,i2,i3⟩:Tl01Source):Tl01Source) _ from ⟨[.slice p1 a_0.code.length k1],[.int .i64 i2,.int .i64 i3],rfl,⟨_,_,rfl,(qf (h.frG 4 0 1 rfl rfl rfl)).1⟩,⟨[.int .i64 i2],[.int .i64 i3],rfl,rfl,rfl⟩⟩) hr2) rfl rfl rfl rfl ?_
 rintro w4 us2 ⟨rfl,h⟩
 dsimp only at h
 refine r_v (qah qb [0,1,4,5,6] [.tmp 16,.const (.int .i64 (1)),.tmp 17,.tmp 19,.tmp 21] rfl rfl rfl rfl rfl rfl rfl rfl) rfl (qx qb h rfl rfl rfl fun w5 bb3 h=>zs 0 h rfl fun w6 h=>zNSR (ql qb [] _ ([]:List qaa) h rfl rfl rfl rfl rfl rfl rfl rfl rfl trivial rfl fun w7 p4 S4 h=>X0 7 rfl ?_))
 obtain ⟨o3,hF,hK1⟩:=qe hF
 refine qq (rL (fun m e w'=>∃ (S5:Nat→Prop) (p5:Option Addr) (ln1:Nat) (k3:Nat) (x1:(List qaa)) (i7:Int) (i8:Int) (i9:Int),qds a_0 a_2 m x1 i7 i8 i9=some o3∧e=[(0,.pointer (some ⟨bb1,0,none⟩)),(2,.slice p2 a_2.length k2),(6,.pointer (some ⟨bb2,0,none⟩)),(7,.slice p3 4 4),(8,.pointer (some ⟨bb3,0,none⟩)),(9,.slice p5 ln1 k3),(10,.int .i64 i9)]∧SH w0 w' [Ch.own S5 (x1:List qaa) [.slice p5 ln1 k3],Ch.box bb3 [.string a_1,.int .i64 1,.slice none 0 0,.slice none 0 0,.slice p2 a_2.length k2,.int .i64 i1,.int .i64 i4] 169,Ch.box bb1 [.slice p1 a_0.code.length k1,.int .i64 i7,.int .i64 i8] 225,Ch.own S3 (([(⟨#[97]⟩:ByteArray),(⟨#[98]⟩:ByteArray),(⟨#[99]⟩:ByteArray),(⟨#[100]⟩:ByteArray)]:List ByteArray):List ByteArray) [.slice p3 4 4],Ch.box bb2 [.string ByteArray.empty,.int .i64 0,.slice none 0 0,.slice none 0 0,.slice none 0 0,.int .i64 0,.int .i64 0] 169,Ch.own S1 (a_2:List Int) [.slice p2 a_2.length k2],Ch.grp (old w0) (FS F) [fct (a_0:Tl01Source) [.slice p1 a_0.code.length k1,.int .i64 a_0.at_,.int .i64 a_0.seed],same w0 w F]]) n ⟨_,_,_,_,_,_,_,_,hF,rfl,h⟩ rfl ?_)
 rintro m1 e1 w8 ⟨S5,p5,ln1,k3,x1,i7,i8,i9,hF,rfl,h⟩
 obtain rfl:=(h.sl 0 rfl).2
 rcases m1 with _|m1
 ·cases hF
 refine X0 8 rfl (qm rfl hF ?_ ?_)<;>intro hF
 ·refine zKSB (rA [] [3] h rfl fun w9 h=>M0 15 [0,1,2,3] (h.pick [3] rfl) rfl ?_)
  obtain ⟨y1,hy1,hF,he1,b1,_,q1,cs2,hp1,hq1,rfl,hc2⟩:=(h.sl 3 rfl).1.ix hF
  refine Ax 4 31 hp1 hq1 ⟨he1.1,qN he1.2.1 (h.sl 3 rfl).2⟩ (h.pick [3] rfl) rfl (Aw 5 63 (fun w' hw=>qeJ qb (qcl (w1:=w) (S1:=fun _=>False) hw 0 rfl hy1 hp1 hq1 rfl) (j:=0) rfl rfl rfl) (h.pick [3] rfl) rfl ?_)
  refine M0 127 [6] (h.pick [3] rfl) rfl (Ao 7 255 rfl ?_)
  replace h:=h.pick [2,0,1,3,4,5,6] rfl
  obtain ⟨o4,hr4,hF⟩:=qe hF
  obtain ⟨i10,i11,i12⟩:=o4
  refine qt (cB 132 rfl) (qh (a_0:=(⟨a_0.code,i7,i8⟩:Tl01Source)) (a_1:=9) h (show GoT.R _ _ ((⟨a_0.code,i7,i8⟩:Tl01Source):Tl01Source) _ from ⟨[.slice p1 a_0.code.length k1],[.int .i64 i7,.int .i64 i8],rfl,⟨_,_,rfl,(qf (h.frG 6 0 1 rfl rfl rfl)).1⟩,⟨[.int .i64 i7],[.int .i64 i8],rfl,rfl,rfl⟩⟩) hr4) rfl rfl rfl rfl ?_
  rintro w10 us3 ⟨rfl,h⟩
  dsimp only at h
  refine G0 511 [8] (h.pick [3] rfl) rfl (Aw 9 1023 (fun w' hw=>qah qb [0,1,2] [.tmp 35,.const (.int .i64 (1)),.tmp 38] rfl rfl rfl rfl rfl rfl rfl rfl) (h.pick [3] rfl) rfl ?_)
  refine Ao 10 2047 rfl (ql qb [.tmp 39] _ ([(⟨y1,1,W64 (1+i10),false⟩:qaa)]:List qaa) h rfl rfl rfl rfl rfl rfl rfl rfl rfl ⟨(qhF (⟨y1,1,W64 (1+i10),false⟩:qaa)),trivial⟩ rfl fun w11 p6 S6 h=>Ag (h.pick [4] rfl) (Ao 11 4095 rfl ?_))
  obtain ⟨x2,hx1,hF⟩:=qe hF
  obtain ⟨g1,hx1⟩:=qw hx1
  refine qak qb 2 h rfl (h.sl 0 rfl).1 (h.sl 0 rfl).2 rfl rfl rfl rfl rfl rfl rfl rfl rfl g1 hx1 rfl fun w12 p7 k4 S7 h=>G0 8191 [12] (h.pick [4] rfl) rfl (Ad (X0 6 rfl ?_))
  replace h:=h.pick [2,3,1,4,5,6,7] rfl
  exact rK ⟨_,_,_,_,_,_,_,_,hF,rfl,h⟩ rfl
 refine qy rfl ?_
 obtain rfl:=qd hF;replace hF:=hK1
 refine X0 9 rfl (r_v (qah qb [0,1] [.const (.string (⟨#[121]⟩:ByteArray)),.const (.int .i64 (2))] rfl rfl rfl rfl rfl rfl rfl rfl) rfl (ql qb [.tmp 45] _ ([(⟨(⟨#[121]⟩:ByteArray),2,0,false⟩:qaa)]:List qaa) h rfl rfl rfl rfl rfl rfl rfl rfl rfl ⟨(qhF (⟨(⟨#[121]⟩:ByteArray),2,0,false⟩:qaa)),trivial⟩ rfl fun w13 p8 S8 h=>?_))
 obtain ⟨x3,hx2,hF⟩:=qe hF
 obtain ⟨g2,hx2⟩:=qw hx2
 refine qak qb 1 h rfl (h.sl 0 rfl).1 (h.sl 0 rfl).2 rfl rfl rfl rfl rfl rfl rfl rfl rfl g2 hx2 rfl fun w14 p9 k5 S9 h=>zp1 rfl (zs 2 h rfl fun w15 h=>zNSR (qdf qb [] _ ([]:List qaw) [0,1,2,3,4,5,6,7] h rfl rfl rfl rfl rfl rfl rfl rfl rfl qe6 rfl rfl fun w16 p10 S10 h=>X0 7 rfl ?_))
 obtain ⟨o5,hF,hK2⟩:=qe hF
 refine qq ?_
 replace h:=h.pick [0,2,3,4,6,7,8] rfl
 refine rL (fun m e w'=>∃ (S11:Nat→Prop) (p11:Option Addr) (ln2:Nat) (k6:Nat) (x4:(List qaw)) (i13:Int) (i14:Int) (i15:Int),qcN a_0 a_1 a_2 i1 i4 x1 x3 m x4 i13 i14 i15=some o5∧e=[(0,.pointer (some ⟨bb1,0,none⟩)),(6,.pointer (some ⟨bb2,0,none⟩)),(8,.pointer (some ⟨bb3,0,none⟩)),(11,.int .i64 (x1.length:Int)),(12,.slice p11 ln2 k6),(13,.int .i64 i15)]∧SH w0 w' [Ch.own S11 (x4:List qaw) [.slice p11 ln2 k6],Ch.own S9 (x3:List qaa) [.slice p9 x3.length k5],Ch.box bb3 [.string a_1,.int .i64 1,.slice p9 x3.length k5,.slice none 0 0,.slice p2 a_2.length k2,.int .i64 i1,.int .i64 i4] 169,Ch.box bb1 [.slice p1 a_0.code.length k1,.int .i64 i13,.int .i64 i14] 225,Ch.box bb2 [.string ByteArray.empty,.int .i64 0,.slice none 0 0,.slice none 0 0,.slice none 0 0,.int .i64 0,.int .i64 0] 169,Ch.own S1 (a_2:List Int) [.slice p2 a_2.length k2],Ch.grp (old w0) (FS F) [fct (a_0:Tl01Source) [.slice p1 a_0.code.length k1,.int .i64 a_0.at_,.int .i64 a_0.seed],same w0 w F]]) n ⟨_,_,_,_,_,_,_,_,hF,rfl,h⟩ rfl ?_
 rintro m2 e2 w17 ⟨S11,p11,ln2,k6,x4,i13,i14,i15,hF,rfl,h⟩
 obtain rfl:=(h.sl 0 rfl).2
 rcases m2 with _|m2
 ·cases hF
 refine X0 7 rfl (qm rfl hF ?_ ?_)<;>intro hF
 ·refine X1 7 2 h rfl (zcI h hF (qkc (show GoT.R _ _ ((⟨a_1,1,x3,[],a_2,i1,i4⟩:qr):qr) _ from ⟨[.string a_1],[.int .i64 1,.slice p9 x3.length k5,.slice none 0 0,.slice p2 a_2.length k2,.int .i64 i1,.int .i64 i4],rfl,rfl,⟨[.int .i64 1],[.slice p9 x3.length k5,.slice none 0 0,.slice p2 a_2.length k2,.int .i64 i1,.int .i64 i4],rfl,rfl,⟨[.slice p9 x3.length k5],[.slice none 0 0,.slice p2 a_2.length k2,.int .i64 i1,.int .i64 i4],rfl,(h.own 1 rfl),⟨[.slice none 0 0],[.slice p2 a_2.length k2,.int .i64 i1,.int .i64 i4],rfl,⟨_,_,rfl,qgS⟩,⟨[.slice p2 a_2.length k2],[.int .i64 i1,.int .i64 i4],rfl,(h.own 5 rfl),⟨[.int .i64 i1],[.int .i64 i4],rfl,rfl,rfl⟩⟩⟩⟩⟩⟩)) rfl fun r1 w18 h hF=>X0 7 rfl (qm rfl hF ?_ ?_))<;>intro hF
  ·refine X0 6 rfl ?_
   replace h:=h.pick [3,0,1,2,4,5,6] rfl
   obtain ⟨o6,hr6,hF⟩:=qe hF
   obtain ⟨r2,i16,i17⟩:=o6
   refine qt (cB 256 rfl) (qcT (s:=(⟨a_0.code,i13,i14⟩:Tl01Source)) (kind:=1) (a_from:=i15) (a_to:=(x1.length:Int)) (sense:=r1) h (show GoT.R _ _ ((⟨a_0.code,i13,i14⟩:Tl01Source):Tl01Source) _ from ⟨[.slice p1 a_0.code.length k1],[.int .i64 i13,.int .i64 i14],rfl,⟨_,_,rfl,(qf (h.frG 6 0 1 rfl rfl rfl)).1⟩,⟨[.int .i64 i13],[.int .i64 i14],rfl,rfl,rfl⟩⟩) hr6) rfl rfl rfl rfl ?_
   rintro w19 us4 ⟨S12,cs3,rfl,h⟩
   obtain ⟨p12,k7,p13,k8,rfl,-,-⟩:=qaM (h.own 0 rfl)
   replace h:SH _ _ [Ch.own S12 (r2:qaw) (qeQ r2 p12 p13 k7 k8),Ch.box bb1 [.slice p1 a_0.code.length k1,.int .i64 i16,.int .i64 i17] 225,Ch.own S11 (x4:List qaw) [.slice p11 x4.length k6],Ch.own S9 (x3:List qaa) [.slice p9 x3.length k5],Ch.box bb3 [.string a_1,.int .i64 1,.slice p9 x3.length k5,.slice none 0 0,.slice p2 a_2.length k2,.int .i64 i1,.int .i64 i4] 169,Ch.box bb2 [.string ByteArray.empty,.int .i64 0,.slice none 0 0,.slice none 0 0,.slice none 0 0,.int .i64 0,.int .i64 0] 169,Ch.own S1 (a_2:List Int) [.slice p2 a_2.length k2],Ch.grp (old w0) (FS F) [fct (a_0:Tl01Source) [.slice p1 a_0.code.length k1,.int .i64 a_0.at_,.int .i64 a_0.seed],same w0 w F]]:=h
   refine qdf qb [.tmp 65] _ ([r2]:List qaw) [1,2,3,4,5,6,7] h rfl rfl rfl rfl rfl rfl rfl rfl rfl (qbQ (qB 0 h rfl) qe6 rfl) rfl rfl fun w20 p14 S13 h=>?_
   obtain ⟨x5,hx3,hF⟩:=qe hF
   obtain ⟨g3,hx3⟩:=qw hx3
   replace h:=h.pick [0,2,1,3,4,5,6,7] rfl
   refine qi0 qb h rfl rfl rfl rfl rfl rfl rfl rfl rfl g3 hx3 rfl fun w21 p15 k9 S14 h=>X0 8 rfl ?_
   replace h:=h.pick [0,2,3,1,4,5,6] rfl
   exact rK ⟨_,_,_,_,_,_,_,_,hF,rfl,h⟩ rfl
  exact X0 7 rfl (rK ⟨_,_,_,_,_,_,_,_,hF,rfl,h⟩ rfl)
 refine qy rfl ?_
 obtain rfl:=qd hF;replace hF:=hK2
 refine X0 4 rfl (zs 2 h rfl fun w22 h=>X1 4 2 h rfl (zs 4 h rfl fun w23 h=>qa5 ?_))
 have hk1:=h
 obtain ⟨S15,h⟩:=h.gather [2,3,4,6] (qk9 (⟨a_1,1,x3,x4,a_2,i1,i4⟩:qr) h (qC (S:=fun _=>False) rfl) (qC (S:=fun _=>False) rfl) (qB 1 h rfl) (qB 0 h rfl) (qB 5 h rfl) (qC (S:=fun _=>False) rfl) (qC (S:=fun _=>False) rfl) (by rfl) (by rfl) (by rfl) (by rfl) (by rfl) (by rfl)) rfl
 obtain rfl:=qd hF
 replace h:=h.pick [0,2,4] rfl
 exact qbd qb [GoT.v qr [.string a_1,.int .i64 1,.slice p9 x3.length k5,.slice p11 x4.length k6,.slice p2 a_2.length k2,.int .i64 i1,.int .i64 i4]] ⟨⟨_,_,_,rfl,rfl,hk1.box 4 rfl,rfl⟩,trivial⟩ ⟨_,_,rfl,SH.unfr 2 1 h0 h rfl rfl⟩
def qdd (n:Nat) (s:Tl01Source) (name:ByteArray) (kind:Int) (edge:Int):Option (qr × Int × Int) :=
 (qk n (⟨s.code,s.at_,s.seed⟩:Tl01Source) 50).bind fun o=>match o with
  | (i1,i2,i3) =>
   (qk n (⟨s.code,i2,i3⟩:Tl01Source) 80).bind fun o=>match o with
    | (i4,i5,i6) =>
     (qk n (⟨s.code,i5,i6⟩:Tl01Source) 9).bind fun o=>match o with
      | (i7,i8,i9) =>
       (qk n (⟨s.code,i8,i9⟩:Tl01Source) 9).bind fun o=>match o with
        | (i10,i11,i12) =>
         (qb8 n (⟨s.code,i11,i12⟩:Tl01Source) edge 1 2 0).bind fun o=>match o with
          | (r1,i13,i14) =>
           (qb8 n (⟨s.code,i13,i14⟩:Tl01Source) 4 1 0 0).bind fun o=>match o with
            | (r2,i15,i16) =>
             (qb8 n (⟨s.code,i15,i16⟩:Tl01Source) 5 1 0 0).bind fun o=>match o with
              | (r3,i17,i18) =>
               bif (kind==3) then
                (qb8 n (⟨s.code,i17,i18⟩:Tl01Source) 1 0 2 1).bind fun o=>match o with
                 | (r4,i19,i20) =>
                  (appS ([r1,r2,r3]:List qaw) ([r4]:List qaw)).bind fun x1 =>
                  some ((⟨name,kind,([(⟨(⟨#[100]⟩:ByteArray),1,W64 (1+i7),false⟩:qaa),(⟨(⟨#[99,107]⟩:ByteArray),1,W64 (1+i10),true⟩:qaa),(⟨(⟨#[113]⟩:ByteArray),2,0,false⟩:qaa)]:List qaa),x1,[],i1,i4⟩:qr),i19,i20)
               else
                some ((⟨name,kind,([(⟨(⟨#[100]⟩:ByteArray),1,W64 (1+i7),false⟩:qaa),(⟨(⟨#[99,107]⟩:ByteArray),1,W64 (1+i10),true⟩:qaa),(⟨(⟨#[113]⟩:ByteArray),2,0,false⟩:qaa)]:List qaa),([r1,r2,r3]:List qaw),[],i1,i4⟩:qr),i17,i18)
theorem qeT {n:Nat} {w0 w:World} {F:List Ch} {s:Tl01Source} {bb1:Nat} {p1:Option Addr} {k1:Nat} {name:ByteArray} {kind:Int} {edge:Int} (h0:SH w0 w (Ch.box bb1 (qaf s p1 k1) 225::F)) (ha1:GoT.R w (Fr w0 F) s [.slice p1 s.code.length k1,.int .i64 s.at_,.int .i64 s.seed]) {r:(qr × Int × Int)} (hF:qdd n s name kind edge=some r):RetW Tryz.prog 227 [.pointer (some ⟨bb1,0,none⟩),.string name,.int .i64 kind,.int .i64 edge] w (fun us w'=>∃ (S1:Nat→Prop) (cs1:List Value),us=[GoT.v qr cs1]∧SH w0 w' (Ch.own S1 (r.1:qr) cs1::Ch.box bb1 [.slice p1 s.code.length k1,.int .i64 r.2.1,.int .i64 r.2.2] 225::F)):=by
 have h:=SH.frm1 h0 ha1
 refine qa7 Tryz.func227 rfl (m:=47) rfl rfl (zSR (qx qb h rfl rfl rfl fun w1 bb2 h=>X0 6 rfl ?_))
 replace h:=h.pick [1,0,2] rfl
 obtain ⟨o1,hr1,hF⟩:=qe hF
 obtain ⟨i1,i2,i3⟩:=o1
 refine qt (cB 132 rfl) (qh (a_0:=(⟨s.code,s.at_,s.seed⟩:Tl01Source)) (a_1:=50) h (show GoT.R _ _ ((⟨s.code,s.at_,s.seed⟩:Tl01Source):Tl01Source) _ from ⟨[.slice p1 s.code.length k1],[.int .i64 s.at_,.int .i64 s.seed],rfl,⟨_,_,rfl,(qf (h.frG 2 0 1 rfl rfl rfl)).1⟩,⟨[.int .i64 s.at_],[.int .i64 s.seed],rfl,rfl,rfl⟩⟩) hr1) rfl rfl rfl rfl ?_
 rintro w2 us1 ⟨rfl,h⟩
 dsimp only at h
 refine zp1 rfl ?_
 obtain ⟨o2,hr2,hF⟩:=qe hF
 obtain ⟨i4,i5,i6⟩:=o2
 refine qt (cB 132 rfl) (qh (a_0:=(⟨s.code,i2,i3⟩:Tl01Source)) (a_1:=80) h (show GoT.R _ _ ((⟨s.code,i2,i3⟩:Tl01Source):Tl01Source) _ from ⟨[.slice p1 s.code.length k1],[.int .i64 i2,.int .i64 i3],rfl,⟨_,_,rfl,(qf (h.frG 2 0 1 rfl rfl rfl)).1⟩,⟨[.int .i64 i2],[.int .i64 i3],rfl,rfl,rfl⟩⟩) hr2) rfl rfl rfl rfl ?_
 rintro w3 us2 ⟨rfl,h⟩
 dsimp only at h
 refine r_v (qah qb [0,1,5,6] [.tmp 11,.tmp 12,.tmp 14,.tmp 16] rfl rfl rfl rfl rfl rfl rfl rfl) rfl (qx qb h rfl rfl rfl fun w4 bb3 h=>zs 0 h rfl fun w5 h=>X0 4 rfl ?_)
 replace h:=h.pick [1,0,2,3] rfl
 obtain ⟨o3,hr3,hF⟩:=qe hF
 obtain ⟨i7,i8,i9⟩:=o3
 refine qt (cB 132 rfl) (qh (a_0:=(⟨s.code,i5,i6⟩:Tl01Source)) (a_1:=9) h (show GoT.R _ _ ((⟨s.code,i5,i6⟩:Tl01Source):Tl01Source) _ from ⟨[.slice p1 s.code.length k1],[.int .i64 i5,.int .i64 i6],rfl,⟨_,_,rfl,(qf (h.frG 3 0 1 rfl rfl rfl)).1⟩,⟨[.int .i64 i5],[.int .i64 i6],rfl,rfl,rfl⟩⟩) hr3) rfl rfl rfl rfl ?_
 rintro w6 us3 ⟨rfl,h⟩
 dsimp only at h
 refine zp1 rfl (r_v (qah qb [0,1,2] [.const (.string (⟨#[100]⟩:ByteArray)),.const (.int .i64 (1)),.tmp 20] rfl rfl rfl rfl rfl rfl rfl rfl) rfl (zp1 rfl ?_))
 obtain ⟨o4,hr4,hF⟩:=qe hF
 obtain ⟨i10,i11,i12⟩:=o4
 refine qt (cB 132 rfl) (qh (a_0:=(⟨s.code,i8,i9⟩:Tl01Source)) (a_1:=9) h (show GoT.R _ _ ((⟨s.code,i8,i9⟩:Tl01Source):Tl01Source) _ from ⟨[.slice p1 s.code.length k1],[.int .i64 i8,.int .i64 i9],rfl,⟨_,_,rfl,(qf (h.frG 3 0 1 rfl rfl rfl)).1⟩,⟨[.int .i64 i8],[.int .i64 i9],rfl,rfl,rfl⟩⟩) hr4) rfl rfl rfl rfl ?_
 rintro w7 us4 ⟨rfl,h⟩
 dsimp only at h
 refine zp1 rfl (r_v (qah qb [0,1,2,3] [.const (.string (⟨#[99,107]⟩:ByteArray)),.const (.int .i64 (1)),.tmp 24,.const (.bool true)] rfl rfl rfl rfl rfl rfl rfl rfl) rfl (r_v (qah qb [0,1] [.const (.string (⟨#[113]⟩:ByteArray)),.const (.int .i64 (2))] rfl rfl rfl rfl rfl rfl rfl rfl) rfl (ql qb [.tmp 21,.tmp 25,.tmp 26] _ ([(⟨(⟨#[100]⟩:ByteArray),1,W64 (1+i7),false⟩:qaa),(⟨(⟨#[99,107]⟩:ByteArray),1,W64 (1+i10),true⟩:qaa),(⟨(⟨#[113]⟩:ByteArray),2,0,false⟩:qaa)]:List qaa) h rfl rfl rfl rfl rfl rfl rfl rfl rfl ⟨(qhF (⟨(⟨#[100]⟩:ByteArray),1,W64 (1+i7),false⟩:qaa)),(qhF (⟨(⟨#[99,107]⟩:ByteArray),1,W64 (1+i10),true⟩:qaa)),(qhF (⟨(⟨#[113]⟩:ByteArray),2,0,false⟩:qaa)),trivial⟩ rfl fun w8 p2 S2 h=>zp1 rfl (zs 2 h rfl fun w9 h=>X0 5 rfl ?_))))
 replace h:=h.pick [1,0,2,3,4] rfl
 obtain ⟨o5,hr5,hF⟩:=qe hF
 obtain ⟨r1,i13,i14⟩:=o5
 refine qt (cB 256 rfl) (qcT (s:=(⟨s.code,i11,i12⟩:Tl01Source)) (kind:=edge) (a_from:=1) (a_to:=2) (sense:=0) h (show GoT.R _ _ ((⟨s.code,i11,i12⟩:Tl01Source):Tl01Source) _ from ⟨[.slice p1 s.code.length k1],[.int .i64 i11,.int .i64 i12],rfl,⟨_,_,rfl,(qf (h.frG 4 0 1 rfl rfl rfl)).1⟩,⟨[.int .i64 i11],[.int .i64 i12],rfl,rfl,rfl⟩⟩) hr5) rfl rfl rfl rfl ?_
 rintro w10 us5 ⟨S3,cs2,rfl,h⟩
 obtain ⟨p3,k2,p4,k3,rfl,-,-⟩:=qaM (h.own 0 rfl)
 replace h:SH _ _ [Ch.own S3 (r1:qaw) (qeQ r1 p3 p4 k2 k3),Ch.box bb1 [.slice p1 s.code.length k1,.int .i64 i13,.int .i64 i14] 225,Ch.own S2 (([(⟨(⟨#[100]⟩:ByteArray),1,W64 (1+i7),false⟩:qaa),(⟨(⟨#[99,107]⟩:ByteArray),1,W64 (1+i10),true⟩:qaa),(⟨(⟨#[113]⟩:ByteArray),2,0,false⟩:qaa)]:List qaa):List qaa) [.slice p2 3 3],Ch.box bb3 [.string name,.int .i64 kind,.slice p2 3 3,.slice none 0 0,.slice none 0 0,.int .i64 i1,.int .i64 i4] 169,Ch.box bb2 [.string ByteArray.empty,.int .i64 0,.slice none 0 0,.slice none 0 0,.slice none 0 0,.int .i64 0,.int .i64 0] 169,Ch.grp (old w0) (FS F) [fct (s:Tl01Source) [.slice p1 s.code.length k1,.int .i64 s.at_,.int .i64 s.seed],same w0 w F]]:=h
 refine zp1 rfl ?_
 replace h:=h.pick [1,0,2,3,4,5] rfl
 obtain ⟨o6,hr6,hF⟩:=qe hF
 obtain ⟨r2,i15,i16⟩:=o6
 refine qt (cB 256 rfl) (qcT (s:=(⟨s.code,i13,i14⟩:Tl01Source)) (kind:=4) (a_from:=1) (a_to:=0) (sense:=0) h (show GoT.R _ _ ((⟨s.code,i13,i14⟩:Tl01Source):Tl01Source) _ from ⟨[.slice p1 s.code.length k1],[.int .i64 i13,.int .i64 i14],rfl,⟨_,_,rfl,(qf (h.frG 5 0 1 rfl rfl rfl)).1⟩,⟨[.int .i64 i13],[.int .i64 i14],rfl,rfl,rfl⟩⟩) hr6) rfl rfl rfl rfl ?_
 rintro w11 us6 ⟨S4,cs3,rfl,h⟩
 obtain ⟨p5,k4,p6,k5,rfl,-,-⟩:=qaM (h.own 0 rfl)
 replace h:SH _ _ [Ch.own S4 (r2:qaw) (qeQ r2 p5 p6 k4 k5),Ch.box bb1 [.slice p1 s.code.length k1,.int .i64 i15,.int .i64 i16] 225,Ch.own S3 (r1:qaw) (qeQ r1 p3 p4 k2 k3),Ch.own S2 (([(⟨(⟨#[100]⟩:ByteArray),1,W64 (1+i7),false⟩:qaa),(⟨(⟨#[99,107]⟩:ByteArray),1,W64 (1+i10),true⟩:qaa),(⟨(⟨#[113]⟩:ByteArray),2,0,false⟩:qaa)]:List qaa):List qaa) [.slice p2 3 3],Ch.box bb3 [.string name,.int .i64 kind,.slice p2 3 3,.slice none 0 0,.slice none 0 0,.int .i64 i1,.int .i64 i4] 169,Ch.box bb2 [.string ByteArray.empty,.int .i64 0,.slice none 0 0,.slice none 0 0,.slice none 0 0,.int .i64 0,.int .i64 0] 169,Ch.grp (old w0) (FS F) [fct (s:Tl01Source) [.slice p1 s.code.length k1,.int .i64 s.at_,.int .i64 s.seed],same w0 w F]]:=h
 refine zp1 rfl ?_
 replace h:=h.pick [1,0,2,3,4,5,6] rfl
 obtain ⟨o7,hr7,hF⟩:=qe hF
 obtain ⟨r3,i17,i18⟩:=o7
 refine qt (cB 256 rfl) (qcT (s:=(⟨s.code,i15,i16⟩:Tl01Source)) (kind:=5) (a_from:=1) (a_to:=0) (sense:=0) h (show GoT.R _ _ ((⟨s.code,i15,i16⟩:Tl01Source):Tl01Source) _ from ⟨[.slice p1 s.code.length k1],[.int .i64 i15,.int .i64 i16],rfl,⟨_,_,rfl,(qf (h.frG 6 0 1 rfl rfl rfl)).1⟩,⟨[.int .i64 i15],[.int .i64 i16],rfl,rfl,rfl⟩⟩) hr7) rfl rfl rfl rfl ?_
 rintro w12 us7 ⟨S5,cs4,rfl,h⟩
 obtain ⟨p7,k6,p8,k7,rfl,-,-⟩:=qaM (h.own 0 rfl)
 replace h:SH _ _ [Ch.own S5 (r3:qaw) (qeQ r3 p7 p8 k6 k7),Ch.box bb1 [.slice p1 s.code.length k1,.int .i64 i17,.int .i64 i18] 225,Ch.own S4 (r2:qaw) (qeQ r2 p5 p6 k4 k5),Ch.own S3 (r1:qaw) (qeQ r1 p3 p4 k2 k3),Ch.own S2 (([(⟨(⟨#[100]⟩:ByteArray),1,W64 (1+i7),false⟩:qaa),(⟨(⟨#[99,107]⟩:ByteArray),1,W64 (1+i10),true⟩:qaa),(⟨(⟨#[113]⟩:ByteArray),2,0,false⟩:qaa)]:List qaa):List qaa) [.slice p2 3 3],Ch.box bb3 [.string name,.int .i64 kind,.slice p2 3 3,.slice none 0 0,.slice none 0 0,.int .i64 i1,.int .i64 i4] 169,Ch.box bb2 [.string ByteArray.empty,.int .i64 0,.slice none 0 0,.slice none 0 0,.slice none 0 0,.int .i64 0,.int .i64 0] 169,Ch.grp (old w0) (FS F) [fct (s:Tl01Source) [.slice p1 s.code.length k1,.int .i64 s.at_,.int .i64 s.seed],same w0 w F]]:=h
 refine qdf qb [.tmp 31,.tmp 33,.tmp 35] _ ([r1,r2,r3]:List qaw) [1,4,5,6,7] h rfl rfl rfl rfl rfl rfl rfl rfl rfl (qbQ (qB 3 h rfl) (qbQ (qB 2 h rfl) (qbQ (qB 0 h rfl) qe6 rfl) rfl) rfl) rfl rfl fun w13 p9 S6 h=>X0 8 rfl (qm rfl hF ?_ ?_)<;>intro hF
 ·refine X0 3 rfl ?_
  replace h:=h.pick [1,0,2,3,4,5] rfl
  obtain ⟨o8,hr8,hF⟩:=qe hF
  obtain ⟨r4,i19,i20⟩:=o8
  refine qt (cB 256 rfl) (qcT (s:=(⟨s.code,i17,i18⟩:Tl01Source)) (kind:=1) (a_from:=0) (a_to:=2) (sense:=1) h (show GoT.R _ _ ((⟨s.code,i17,i18⟩:Tl01Source):Tl01Source) _ from ⟨[.slice p1 s.code.length k1],[.int .i64 i17,.int .i64 i18],rfl,⟨_,_,rfl,(qf (h.frG 5 0 1 rfl rfl rfl)).1⟩,⟨[.int .i64 i17],[.int .i64 i18],rfl,rfl,rfl⟩⟩) hr8) rfl rfl rfl rfl ?_
  rintro w14 us8 ⟨S7,cs5,rfl,h⟩
  obtain ⟨p10,k8,p11,k9,rfl,-,-⟩:=qaM (h.own 0 rfl)
  replace h:SH _ _ [Ch.own S7 (r4:qaw) (qeQ r4 p10 p11 k8 k9),Ch.box bb1 [.slice p1 s.code.length k1,.int .i64 i19,.int .i64 i20] 225,Ch.own S6 (([r1,r2,r3]:List qaw):List qaw) [.slice p9 3 3],Ch.own S2 (([(⟨(⟨#[100]⟩:ByteArray),1,W64 (1+i7),false⟩:qaa),(⟨(⟨#[99,107]⟩:ByteArray),1,W64 (1+i10),true⟩:qaa),(⟨(⟨#[113]⟩:ByteArray),2,0,false⟩:qaa)]:List qaa):List qaa) [.slice p2 3 3],Ch.box bb3 [.string name,.int .i64 kind,.slice p2 3 3,.slice none 0 0,.slice none 0 0,.int .i64 i1,.int .i64 i4] 169,Ch.box bb2 [.string ByteArray.empty,.int .i64 0,.slice none 0 0,.slice none 0 0,.slice none 0 0,.int .i64 0,.int .i64 0] 169,Ch.grp (old w0) (FS F) [fct (s:Tl01Source) [.slice p1 s.code.length k1,.int .i64 s.at_,.int .i64 s.seed],same w0 w F]]:=h
  refine qdf qb [.tmp 41] _ ([r4]:List qaw) [1,2,3,4,5,6] h rfl rfl rfl rfl rfl rfl rfl rfl rfl (qbQ (qB 0 h rfl) qe6 rfl) rfl rfl fun w15 p12 S8 h=>?_
  obtain ⟨x1,hx1,hF⟩:=qe hF
  obtain ⟨g1,hx1⟩:=qw hx1
  replace h:=h.pick [0,2,1,3,4,5,6] rfl
  refine qi0 qb h rfl rfl rfl rfl rfl rfl rfl rfl rfl g1 hx1 rfl fun w16 p13 k10 S9 h=>X0 6 rfl (zs 3 h rfl fun w17 h=>X1 4 3 h rfl (zs 4 h rfl fun w18 h=>qa5 ?_))
  have hk1:=h
  obtain ⟨S10,h⟩:=h.gather [1,3,4,5] (qk9 (⟨name,kind,([(⟨(⟨#[100]⟩:ByteArray),1,W64 (1+i7),false⟩:qaa),(⟨(⟨#[99,107]⟩:ByteArray),1,W64 (1+i10),true⟩:qaa),(⟨(⟨#[113]⟩:ByteArray),2,0,false⟩:qaa)]:List qaa),x1,[],i1,i4⟩:qr) h (qC (S:=fun _=>False) rfl) (qC (S:=fun _=>False) rfl) (qB 2 h rfl) (qB 0 h rfl) qfP (qC (S:=fun _=>False) rfl) (qC (S:=fun _=>False) rfl) (by rfl) (by rfl) (by rfl) (by rfl) (by rfl) (by rfl)) rfl
  obtain rfl:=qd hF
  replace h:=h.pick [0,1,4] rfl
  exact qbd qb [GoT.v qr [.string name,.int .i64 kind,.slice p2 3 3,.slice p13 x1.length k10,.slice none 0 0,.int .i64 i1,.int .i64 i4]] ⟨⟨_,_,_,rfl,rfl,hk1.box 4 rfl,rfl⟩,trivial⟩ ⟨_,_,rfl,SH.unfr 1 1 h0 h rfl rfl⟩
 refine X0 5 rfl (zs 3 h rfl fun w19 h=>X1 4 3 h rfl (zs 4 h rfl fun w20 h=>qa5 ?_))
 have hk2:=h
 obtain ⟨S11,h⟩:=h.gather [1,3,4,5] (qk9 (⟨name,kind,([(⟨(⟨#[100]⟩:ByteArray),1,W64 (1+i7),false⟩:qaa),(⟨(⟨#[99,107]⟩:ByteArray),1,W64 (1+i10),true⟩:qaa),(⟨(⟨#[113]⟩:ByteArray),2,0,false⟩:qaa)]:List qaa),([r1,r2,r3]:List qaw),[],i1,i4⟩:qr) h (qC (S:=fun _=>False) rfl) (qC (S:=fun _=>False) rfl) (qB 2 h rfl) (qB 0 h rfl) qfP (qC (S:=fun _=>False) rfl) (qC (S:=fun _=>False) rfl) (by rfl) (by rfl) (by rfl) (by rfl) (by rfl) (by rfl)) rfl
 obtain rfl:=qd hF
 replace h:=h.pick [0,1,4] rfl
 exact qbd qb [GoT.v qr [.string name,.int .i64 kind,.slice p2 3 3,.slice p9 3 3,.slice none 0 0,.int .i64 i1,.int .i64 i4]] ⟨⟨_,_,_,rfl,rfl,hk2.box 4 rfl,rfl⟩,trivial⟩ ⟨_,_,rfl,SH.unfr 1 1 h0 h rfl rfl⟩
def qgR (n:Nat) (s:Tl01Source):Option (qj × Int × Int) :=
 (qdO n (⟨s.code,s.at_,s.seed⟩:Tl01Source) (⟨#[105,110,118]⟩:ByteArray) ([1,0]:List Int)).bind fun o=>match o with
  | (r1,i1,i2) =>
   (qdO n (⟨s.code,i1,i2⟩:Tl01Source) (⟨#[98,117,102]⟩:ByteArray) ([0,1]:List Int)).bind fun o=>match o with
    | (r2,i3,i4) =>
     (qdO n (⟨s.code,i3,i4⟩:Tl01Source) (⟨#[110,97,110,100]⟩:ByteArray) ([1,1,1,0]:List Int)).bind fun o=>match o with
      | (r3,i5,i6) =>
       (qdO n (⟨s.code,i5,i6⟩:Tl01Source) (⟨#[120,111,114]⟩:ByteArray) ([0,1,1,0]:List Int)).bind fun o=>match o with
        | (r4,i7,i8) =>
         (qdO n (⟨s.code,i7,i8⟩:Tl01Source) (⟨#[109,117,120]⟩:ByteArray) ([0,1,0,1,0,0,1,1]:List Int)).bind fun o=>match o with
          | (r5,i9,i10) =>
           (qdd n (⟨s.code,i9,i10⟩:Tl01Source) (⟨#[102,108,111,112]⟩:ByteArray) 2 2).bind fun o=>match o with
            | (r6,i11,i12) =>
             (qdd n (⟨s.code,i11,i12⟩:Tl01Source) (⟨#[102,108,111,112,110]⟩:ByteArray) 2 3).bind fun o=>match o with
              | (r7,i13,i14) =>
               (qdd n (⟨s.code,i13,i14⟩:Tl01Source) (⟨#[108,97,116,99,104]⟩:ByteArray) 3 2).bind fun o=>match o with
                | (r8,i15,i16) =>
                 some ((⟨([r1,r2,r3,r4,r5,r6,r7,r8]:List qr)⟩:qj),i15,i16)
theorem qjX {n:Nat} {w0 w:World} {F:List Ch} {s:Tl01Source} {bb1:Nat} {p1:Option Addr} {k1:Nat} (h0:SH w0 w (Ch.box bb1 (qaf s p1 k1) 225::F)) (ha1:GoT.R w (Fr w0 F) s [.slice p1 s.code.length k1,.int .i64 s.at_,.int .i64 s.seed]) {r:(qj × Int × Int)} (hF:qgR n s=some r):RetW Tryz.prog 189 [.pointer (some ⟨bb1,0,none⟩)] w (fun us w'=>∃ (S1:Nat→Prop) (cs1:List Value),us=[GoT.v qj cs1]∧SH w0 w' (Ch.own S1 (r.1:qj) cs1::Ch.box bb1 [.slice p1 s.code.length k1,.int .i64 r.2.1,.int .i64 r.2.2] 225::F)):=by
 have h:=SH.frm1 h0 ha1
 refine qa7 Tryz.func189 rfl (m:=45) rfl rfl (zSR (qx qb h rfl rfl rfl fun w1 bb2 h=>zNSR (r_v (qah qb [] [] rfl rfl rfl rfl rfl rfl rfl rfl) rfl (qx qb h rfl rfl rfl fun w2 bb3 h=>zs 0 h rfl fun w3 h=>X0 4 rfl (ql qb [.const (.int .i64 (1)),.const (.int .i64 (0))] _ ([1,0]:List Int) h rfl rfl rfl rfl rfl rfl rfl rfl rfl ⟨rfl,rfl,trivial⟩ rfl fun w4 p2 S2 h=>?_)))))
 replace h:=h.pick [3,0,1,2,4] rfl
 obtain ⟨o1,hr1,hF⟩:=qe hF
 obtain ⟨r1,i1,i2⟩:=o1
 refine qt (cB 226 rfl) (qd3 (a_0:=(⟨s.code,s.at_,s.seed⟩:Tl01Source)) (a_1:=(⟨#[105,110,118]⟩:ByteArray)) (a_2:=([1,0]:List Int)) h (show GoT.R _ _ ((⟨s.code,s.at_,s.seed⟩:Tl01Source):Tl01Source) _ from ⟨[.slice p1 s.code.length k1],[.int .i64 s.at_,.int .i64 s.seed],rfl,⟨_,_,rfl,(qf (h.frG 4 0 2 rfl rfl rfl)).1⟩,⟨[.int .i64 s.at_],[.int .i64 s.seed],rfl,rfl,rfl⟩⟩) hr1) rfl rfl rfl rfl ?_
 rintro w5 us1 ⟨S3,cs2,rfl,h⟩
 obtain ⟨p3,k2,p4,k3,p5,k4,rfl,-,-,-⟩:=qQ (h.own 0 rfl)
 replace h:SH _ _ [Ch.own S3 (r1:qr) (qv r1 p3 p4 p5 k2 k3 k4),Ch.box bb1 [.slice p1 s.code.length k1,.int .i64 i1,.int .i64 i2] 225,Ch.box bb3 [.slice none 0 0] 41,Ch.box bb2 [.slice none 0 0] 41,Ch.grp (old w0) (FS F) [fct (s:Tl01Source) [.slice p1 s.code.length k1,.int .i64 s.at_,.int .i64 s.seed],same w0 w F]]:=h
 refine qx qb h rfl rfl rfl fun w6 bb4 h=>zs 0 h rfl fun w7 h=>X0 4 rfl (ql qb [.const (.int .i64 (0)),.const (.int .i64 (1))] _ ([0,1]:List Int) h rfl rfl rfl rfl rfl rfl rfl rfl rfl ⟨rfl,rfl,trivial⟩ rfl fun w8 p6 S4 h=>?_)
 replace h:=h.pick [3,0,1,2,4,5,6] rfl
 obtain ⟨o2,hr2,hF⟩:=qe hF
 obtain ⟨r2,i3,i4⟩:=o2
 refine qt (cB 226 rfl) (qd3 (a_0:=(⟨s.code,i1,i2⟩:Tl01Source)) (a_1:=(⟨#[98,117,102]⟩:ByteArray)) (a_2:=([0,1]:List Int)) h (show GoT.R _ _ ((⟨s.code,i1,i2⟩:Tl01Source):Tl01Source) _ from ⟨[.slice p1 s.code.length k1],[.int .i64 i1,.int .i64 i2],rfl,⟨_,_,rfl,(qf (h.frG 6 0 2 rfl rfl rfl)).1⟩,⟨[.int .i64 i1],[.int .i64 i2],rfl,rfl,rfl⟩⟩) hr2) rfl rfl rfl rfl ?_
 rintro w9 us2 ⟨S5,cs3,rfl,h⟩
 obtain ⟨p7,k5,p8,k6,p9,k7,rfl,-,-,-⟩:=qQ (h.own 0 rfl)
 replace h:SH _ _ [Ch.own S5 (r2:qr) (qv r2 p7 p8 p9 k5 k6 k7),Ch.box bb1 [.slice p1 s.code.length k1,.int .i64 i3,.int .i64 i4] 225,Ch.box bb4 (qv r1 p3 p4 p5 k2 k3 k4) 169,Ch.own S3 (r1:qr) (qv r1 p3 p4 p5 k2 k3 k4),Ch.box bb3 [.slice none 0 0] 41,Ch.box bb2 [.slice none 0 0] 41,Ch.grp (old w0) (FS F) [fct (s:Tl01Source) [.slice p1 s.code.length k1,.int .i64 s.at_,.int .i64 s.seed],same w0 w F]]:=h
 refine qx qb h rfl rfl rfl fun w10 bb5 h=>zs 0 h rfl fun w11 h=>X0 4 rfl (ql qb [.const (.int .i64 (1)),.const (.int .i64 (1)),.const (.int .i64 (1)),.const (.int .i64 (0))] _ ([1,1,1,0]:List Int) h rfl rfl rfl rfl rfl rfl rfl rfl rfl ⟨rfl,rfl,rfl,rfl,trivial⟩ rfl fun w12 p10 S6 h=>?_)
 replace h:=h.pick [3,0,1,2,4,5,6,7,8] rfl
 obtain ⟨o3,hr3,hF⟩:=qe hF
 obtain ⟨r3,i5,i6⟩:=o3
 refine qt (cB 226 rfl) (qd3 (a_0:=(⟨s.code,i3,i4⟩:Tl01Source)) (a_1:=(⟨#[110,97,110,100]⟩:ByteArray)) (a_2:=([1,1,1,0]:List Int)) h (show GoT.R _ _ ((⟨s.code,i3,i4⟩:Tl01Source):Tl01Source) _ from ⟨[.slice p1 s.code.length k1],[.int .i64 i3,.int .i64 i4],rfl,⟨_,_,rfl,(qf (h.frG 8 0 2 rfl rfl rfl)).1⟩,⟨[.int .i64 i3],[.int .i64 i4],rfl,rfl,rfl⟩⟩) hr3) rfl rfl rfl rfl ?_
 rintro w13 us3 ⟨S7,cs4,rfl,h⟩
 obtain ⟨p11,k8,p12,k9,p13,k10,rfl,-,-,-⟩:=qQ (h.own 0 rfl)
 replace h:SH _ _ [Ch.own S7 (r3:qr) (qv r3 p11 p12 p13 k8 k9 k10),Ch.box bb1 [.slice p1 s.code.length k1,.int .i64 i5,.int .i64 i6] 225,Ch.box bb5 (qv r2 p7 p8 p9 k5 k6 k7) 169,Ch.own S5 (r2:qr) (qv r2 p7 p8 p9 k5 k6 k7),Ch.box bb4 (qv r1 p3 p4 p5 k2 k3 k4) 169,Ch.own S3 (r1:qr) (qv r1 p3 p4 p5 k2 k3 k4),Ch.box bb3 [.slice none 0 0] 41,Ch.box bb2 [.slice none 0 0] 41,Ch.grp (old w0) (FS F) [fct (s:Tl01Source) [.slice p1 s.code.length k1,.int .i64 s.at_,.int .i64 s.seed],same w0 w F]]:=h
 refine qx qb h rfl rfl rfl fun w14 bb6 h=>zs 0 h rfl fun w15 h=>X0 4 rfl (ql qb [.const (.int .i64 (0)),.const (.int .i64 (1)),.const (.int .i64 (1)),.const (.int .i64 (0))] _ ([0,1,1,0]:List Int) h rfl rfl rfl rfl rfl rfl rfl rfl rfl ⟨rfl,rfl,rfl,rfl,trivial⟩ rfl fun w16 p14 S8 h=>?_)
 replace h:=h.pick [3,0,1,2,4,5,6,7,8,9,10] rfl
 obtain ⟨o4,hr4,hF⟩:=qe hF
 obtain ⟨r4,i7,i8⟩:=o4
 refine qt (cB 226 rfl) (qd3 (a_0:=(⟨s.code,i5,i6⟩:Tl01Source)) (a_1:=(⟨#[120,111,114]⟩:ByteArray)) (a_2:=([0,1,1,0]:List Int)) h (show GoT.R _ _ ((⟨s.code,i5,i6⟩:Tl01Source):Tl01Source) _ from ⟨[.slice p1 s.code.length k1],[.int .i64 i5,.int .i64 i6],rfl,⟨_,_,rfl,(qf (h.frG 10 0 2 rfl rfl rfl)).1⟩,⟨[.int .i64 i5],[.int .i64 i6],rfl,rfl,rfl⟩⟩) hr4) rfl rfl rfl rfl ?_
 rintro w17 us4 ⟨S9,cs5,rfl,h⟩
 obtain ⟨p15,k11,p16,k12,p17,k13,rfl,-,-,-⟩:=qQ (h.own 0 rfl)
 replace h:SH _ _ [Ch.own S9 (r4:qr) (qv r4 p15 p16 p17 k11 k12 k13),Ch.box bb1 [.slice p1 s.code.length k1,.int .i64 i7,.int .i64 i8] 225,Ch.box bb6 (qv r3 p11 p12 p13 k8 k9 k10) 169,Ch.own S7 (r3:qr) (qv r3 p11 p12 p13 k8 k9 k10),Ch.box bb5 (qv r2 p7 p8 p9 k5 k6 k7) 169,Ch.own S5 (r2:qr) (qv r2 p7 p8 p9 k5 k6 k7),Ch.box bb4 (qv r1 p3 p4 p5 k2 k3 k4) 169,Ch.own S3 (r1:qr) (qv r1 p3 p4 p5 k2 k3 k4),Ch.box bb3 [.slice none 0 0] 41,Ch.box bb2 [.slice none 0 0] 41,Ch.grp (old w0) (FS F) [fct (s:Tl01Source) [.slice p1 s.code.length k1,.int .i64 s.at_,.int .i64 s.seed],same w0 w F]]:=h
 refine qx qb h rfl rfl rfl fun w18 bb7 h=>zs 0 h rfl fun w19 h=>X0 4 rfl (ql qb [.const (.int .i64 (0)),.const (.int .i64 (1)),.const (.int .i64 (0)),.const (.int .i64 (1)),.const (.int .i64 (0)),.const (.int .i64 (0)),.const (.int .i64 (1)),.const (.int .i64 (1))] _ ([0,1,0,1,0,0,1,1]:List Int) h rfl rfl rfl rfl rfl rfl rfl rfl rfl ⟨rfl,rfl,rfl,rfl,rfl,rfl,rfl,rfl,trivial⟩ rfl fun w20 p18 S10 h=>?_)
 replace h:=h.pick [3,0,1,2,4,5,6,7,8,9,10,11,12] rfl
 obtain ⟨o5,hr5,hF⟩:=qe hF
 obtain ⟨r5,i9,i10⟩:=o5
 refine qt (cB 226 rfl) (qd3 (a_0:=(⟨s.code,i7,i8⟩:Tl01Source)) (a_1:=(⟨#[109,117,120]⟩:ByteArray)) (a_2:=([0,1,0,1,0,0,1,1]:List Int)) h (show GoT.R _ _ ((⟨s.code,i7,i8⟩:Tl01Source):Tl01Source) _ from ⟨[.slice p1 s.code.length k1],[.int .i64 i7,.int .i64 i8],rfl,⟨_,_,rfl,(qf (h.frG 12 0 2 rfl rfl rfl)).1⟩,⟨[.int .i64 i7],[.int .i64 i8],rfl,rfl,rfl⟩⟩) hr5) rfl rfl rfl rfl ?_
 rintro w21 us5 ⟨S11,cs6,rfl,h⟩
 obtain ⟨p19,k14,p20,k15,p21,k16,rfl,-,-,-⟩:=qQ (h.own 0 rfl)
 replace h:SH _ _ [Ch.own S11 (r5:qr) (qv r5 p19 p20 p21 k14 k15 k16),Ch.box bb1 [.slice p1 s.code.length k1,.int .i64 i9,.int .i64 i10] 225,Ch.box bb7 (qv r4 p15 p16 p17 k11 k12 k13) 169,Ch.own S9 (r4:qr) (qv r4 p15 p16 p17 k11 k12 k13),Ch.box bb6 (qv r3 p11 p12 p13 k8 k9 k10) 169,Ch.own S7 (r3:qr) (qv r3 p11 p12 p13 k8 k9 k10),Ch.box bb5 (qv r2 p7 p8 p9 k5 k6 k7) 169,Ch.own S5 (r2:qr) (qv r2 p7 p8 p9 k5 k6 k7),Ch.box bb4 (qv r1 p3 p4 p5 k2 k3 k4) 169,Ch.own S3 (r1:qr) (qv r1 p3 p4 p5 k2 k3 k4),Ch.box bb3 [.slice none 0 0] 41,Ch.box bb2 [.slice none 0 0] 41,Ch.grp (old w0) (FS F) [fct (s:Tl01Source) [.slice p1 s.code.length k1,.int .i64 s.at_,.int .i64 s.seed],same w0 w F]]:=h
 refine qx qb h rfl rfl rfl fun w22 bb8 h=>zs 0 h rfl fun w23 h=>X0 4 rfl ?_
 replace h:=h.pick [2,0,1,3,4,5,6,7,8,9,10,11,12,13] rfl
 obtain ⟨o6,hr6,hF⟩:=qe hF
 obtain ⟨r6,i11,i12⟩:=o6
 refine qt (cB 227 rfl) (qeT (s:=(⟨s.code,i9,i10⟩:Tl01Source)) (name:=(⟨#[102,108,111,112]⟩:ByteArray)) (kind:=2) (edge:=2) h (show GoT.R _ _ ((⟨s.code,i9,i10⟩:Tl01Source):Tl01Source) _ from ⟨[.slice p1 s.code.length k1],[.int .i64 i9,.int .i64 i10],rfl,⟨_,_,rfl,(qf (h.frG 13 0 1 rfl rfl rfl)).1⟩,⟨[.int .i64 i9],[.int .i64 i10],rfl,rfl,rfl⟩⟩) hr6) rfl rfl rfl rfl ?_
 rintro w24 us6 ⟨S12,cs7,rfl,h⟩
 obtain ⟨p22,k17,p23,k18,p24,k19,rfl,-,-,-⟩:=qQ (h.own 0 rfl)
 replace h:SH _ _ [Ch.own S12 (r6:qr) (qv r6 p22 p23 p24 k17 k18 k19),Ch.box bb1 [.slice p1 s.code.length k1,.int .i64 i11,.int .i64 i12] 225,Ch.box bb8 (qv r5 p19 p20 p21 k14 k15 k16) 169,Ch.own S11 (r5:qr) (qv r5 p19 p20 p21 k14 k15 k16),Ch.box bb7 (qv r4 p15 p16 p17 k11 k12 k13) 169,Ch.own S9 (r4:qr) (qv r4 p15 p16 p17 k11 k12 k13),Ch.box bb6 (qv r3 p11 p12 p13 k8 k9 k10) 169,Ch.own S7 (r3:qr) (qv r3 p11 p12 p13 k8 k9 k10),Ch.box bb5 (qv r2 p7 p8 p9 k5 k6 k7) 169,Ch.own S5 (r2:qr) (qv r2 p7 p8 p9 k5 k6 k7),Ch.box bb4 (qv r1 p3 p4 p5 k2 k3 k4) 169,Ch.own S3 (r1:qr) (qv r1 p3 p4 p5 k2 k3 k4),Ch.box bb3 [.slice none 0 0] 41,Ch.box bb2 [.slice none 0 0] 41,Ch.grp (old w0) (FS F) [fct (s:Tl01Source) [.slice p1 s.code.length k1,.int .i64 s.at_,.int .i64 s.seed],same w0 w F]]:=h
 refine qx qb h rfl rfl rfl fun w25 bb9 h=>zs 0 h rfl fun w26 h=>X0 4 rfl ?_
 replace h:=h.pick [2,0,1,3,4,5,6,7,8,9,10,11,12,13,14,15] rfl
 obtain ⟨o7,hr7,hF⟩:=qe hF
 obtain ⟨r7,i13,i14⟩:=o7
 refine qt (cB 227 rfl) (qeT (s:=(⟨s.code,i11,i12⟩:Tl01Source)) (name:=(⟨#[102,108,111,112,110]⟩:ByteArray)) (kind:=2) (edge:=3) h (show GoT.R _ _ ((⟨s.code,i11,i12⟩:Tl01Source):Tl01Source) _ from ⟨[.slice p1 s.code.length k1],[.int .i64 i11,.int .i64 i12],rfl,⟨_,_,rfl,(qf (h.frG 15 0 1 rfl rfl rfl)).1⟩,⟨[.int .i64 i11],[.int .i64 i12],rfl,rfl,rfl⟩⟩) hr7) rfl rfl rfl rfl ?_
 rintro w27 us7 ⟨S13,cs8,rfl,h⟩
 obtain ⟨p25,k20,p26,k21,p27,k22,rfl,-,-,-⟩:=qQ (h.own 0 rfl)
 replace h:SH _ _ [Ch.own S13 (r7:qr) (qv r7 p25 p26 p27 k20 k21 k22),Ch.box bb1 [.slice p1 s.code.length k1,.int .i64 i13,.int .i64 i14] 225,Ch.box bb9 (qv r6 p22 p23 p24 k17 k18 k19) 169,Ch.own S12 (r6:qr) (qv r6 p22 p23 p24 k17 k18 k19),Ch.box bb8 (qv r5 p19 p20 p21 k14 k15 k16) 169,Ch.own S11 (r5:qr) (qv r5 p19 p20 p21 k14 k15 k16),Ch.box bb7 (qv r4 p15 p16 p17 k11 k12 k13) 169,Ch.own S9 (r4:qr) (qv r4 p15 p16 p17 k11 k12 k13),Ch.box bb6 (qv r3 p11 p12 p13 k8 k9 k10) 169,Ch.own S7 (r3:qr) (qv r3 p11 p12 p13 k8 k9 k10),Ch.box bb5 (qv r2 p7 p8 p9 k5 k6 k7) 169,Ch.own S5 (r2:qr) (qv r2 p7 p8 p9 k5 k6 k7),Ch.box bb4 (qv r1 p3 p4 p5 k2 k3 k4) 169,Ch.own S3 (r1:qr) (qv r1 p3 p4 p5 k2 k3 k4),Ch.box bb3 [.slice none 0 0] 41,Ch.box bb2 [.slice none 0 0] 41,Ch.grp (old w0) (FS F) [fct (s:Tl01Source) [.slice p1 s.code.length k1,.int .i64 s.at_,.int .i64 s.seed],same w0 w F]]:=h
 refine qx qb h rfl rfl rfl fun w28 bb10 h=>zs 0 h rfl fun w29 h=>X0 4 rfl ?_
 replace h:=h.pick [2,0,1,3,4,5,6,7,8,9,10,11,12,13,14,15,16,17] rfl
 obtain ⟨o8,hr8,hF⟩:=qe hF
 obtain ⟨r8,i15,i16⟩:=o8
 refine qt (cB 227 rfl) (qeT (s:=(⟨s.code,i13,i14⟩:Tl01Source)) (name:=(⟨#[108,97,116,99,104]⟩:ByteArray)) (kind:=3) (edge:=2) h (show GoT.R _ _ ((⟨s.code,i13,i14⟩:Tl01Source):Tl01Source) _ from ⟨[.slice p1 s.code.length k1],[.int .i64 i13,.int .i64 i14],rfl,⟨_,_,rfl,(qf (h.frG 17 0 1 rfl rfl rfl)).1⟩,⟨[.int .i64 i13],[.int .i64 i14],rfl,rfl,rfl⟩⟩) hr8) rfl rfl rfl rfl ?_
 rintro w30 us8 ⟨S14,cs9,rfl,h⟩
 obtain ⟨p28,k23,p29,k24,p30,k25,rfl,-,-,-⟩:=qQ (h.own 0 rfl)
 replace h:SH _ _ [Ch.own S14 (r8:qr) (qv r8 p28 p29 p30 k23 k24 k25),Ch.box bb1 [.slice p1 s.code.length k1,.int .i64 i15,.int .i64 i16] 225,Ch.box bb10 (qv r7 p25 p26 p27 k20 k21 k22) 169,Ch.own S13 (r7:qr) (qv r7 p25 p26 p27 k20 k21 k22),Ch.box bb9 (qv r6 p22 p23 p24 k17 k18 k19) 169,Ch.own S12 (r6:qr) (qv r6 p22 p23 p24 k17 k18 k19),Ch.box bb8 (qv r5 p19 p20 p21 k14 k15 k16) 169,Ch.own S11 (r5:qr) (qv r5 p19 p20 p21 k14 k15 k16),Ch.box bb7 (qv r4 p15 p16 p17 k11 k12 k13) 169,Ch.own S9 (r4:qr) (qv r4 p15 p16 p17 k11 k12 k13),Ch.box bb6 (qv r3 p11 p12 p13 k8 k9 k10) 169,Ch.own S7 (r3:qr) (qv r3 p11 p12 p13 k8 k9 k10),Ch.box bb5 (qv r2 p7 p8 p9 k5 k6 k7) 169,Ch.own S5 (r2:qr) (qv r2 p7 p8 p9 k5 k6 k7),Ch.box bb4 (qv r1 p3 p4 p5 k2 k3 k4) 169,Ch.own S3 (r1:qr) (qv r1 p3 p4 p5 k2 k3 k4),Ch.box bb3 [.slice none 0 0] 41,Ch.box bb2 [.slice none 0 0] 41,Ch.grp (old w0) (FS F) [fct (s:Tl01Source) [.slice p1 s.code.length k1,.int .i64 s.at_,.int .i64 s.seed],same w0 w F]]:=h
 refine qx qb h rfl rfl rfl fun w31 bb11 h=>zs 0 h rfl fun w32 h=>X5 8 15 13 11 9 7 h rfl (X3 3 5 3 0 h rfl (qdf qb [.tmp 34,.tmp 35,.tmp 36,.tmp 37,.tmp 38,.tmp 39,.tmp 40,.tmp 41] _ ([r1,r2,r3,r4,r5,r6,r7,r8]:List qr) [0,2,3,5,7,9,11,13,15,17,18,19] h rfl rfl rfl rfl rfl rfl rfl rfl rfl (qbQ (qB 16 h rfl) (qbQ (qB 14 h rfl) (qbQ (qB 12 h rfl) (qbQ (qB 10 h rfl) (qbQ (qB 8 h rfl) (qbQ (qB 6 h rfl) (qbQ (qB 4 h rfl) (qbQ (qB 1 h rfl) qe6 rfl) rfl) rfl) rfl) rfl) rfl) rfl) rfl) rfl rfl fun w33 p31 S15 h=>zp1 rfl (zs 10 h rfl fun w34 h=>X1 4 10 h rfl (zs 11 h rfl fun w35 h=>qa5 ?_))))
 have hk1:=h
 obtain ⟨S16,h⟩:=h.gather [1,2,3,4,5,6,7,8,9,10,11,12] (qne (⟨([r1,r2,r3,r4,r5,r6,r7,r8]:List qr)⟩:qj) h (qB 0 h rfl) ) rfl
 obtain rfl:=qd hF
 replace h:=h.pick [0,2,12] rfl
 exact qbd qb [GoT.v qj [.slice p31 8 8]] ⟨⟨_,_,_,rfl,rfl,hk1.box 11 rfl,rfl⟩,trivial⟩ ⟨_,_,rfl,SH.unfr 1 1 h0 h rfl rfl⟩
def qcQ (a_0:Tl01Source) (x2:(List ByteArray)) (y1:Int):Nat→(List Int)→Int→Int→Int→Option ((List Int) × Int × Int × Int)
 | 0,_,_,_,_=>none
 | n+1,x4,i10,i11,i12 =>
  (idx ([2,2,3,3,4,3,3,3]:List Int) y1).bind fun y2 =>
  bif decide (i12<(W64 (y2-1))) then
   (qk n (⟨a_0.code,i10,i11⟩:Tl01Source) (W64 ((x2.length:Int)-1))).bind fun o=>match o with
    | (i13,i14,i15) =>
     (qk n (⟨a_0.code,i14,i15⟩:Tl01Source) 3).bind fun o=>match o with
      | (i16,i17,i18) =>
       (
        bif (i16==0) then some (W64 ((x2.length:Int)-1)) else
        some (W64 (1+i13))).bind fun i19 =>
       (
        bif decide (y1 ≥ 5) then some (i12==1) else
        some false).bind fun b3 =>
       bif b3 then
        (appS ([]:List Int) x4).bind fun x5 =>
        (appS x5 ([0]:List Int)).bind fun x6 =>
        qcQ a_0 x2 y1 n x6 i17 i18 (W64 (i12+1))
       else
        (appS ([]:List Int) x4).bind fun x7 =>
        (appS x7 ([i19]:List Int)).bind fun x8 =>
        qcQ a_0 x2 y1 n x8 i17 i18 (W64 (i12+1))
  else
   some (x4,i10,i11,i12)
def qcL (a_0:Tl01Source) (a_2:Bool) (x2:(List ByteArray)) (x3:(List qu)):Nat→(List qu)→Int→Int→Int→Option ((List qu) × Int × Int × Int)
 | 0,_,_,_,_=>none
 | n+1,x13,i20,i21,i22 =>
  bif decide (i22<(x3.length:Int)) then
   (
    (qk n (⟨a_0.code,i20,i21⟩:Tl01Source) 4).bind fun o=>match o with
     | (i28,i29,i30) =>
      bif (i28==0) then
       (idx x13 i22).bind fun y5 =>
       bif (y5.Ba==5) then some (i29,i30,true) else
       (idx x13 i22).bind fun y6 =>
       bif (y6.Ba==6) then some (i29,i30,true) else
       some (i29,i30,a_2)
      else
       some (i29,i30,false)).bind fun o=>match o with
    | (i23,i24,b4) =>
     bif b4 then
      (idx x13 i22).bind fun y3 =>
      (qk n (⟨a_0.code,i23,i24⟩:Tl01Source) (W64 ((x2.length:Int)-1))).bind fun o=>match o with
       | (i25,i26,i27) =>
        (idx y3.Aj 0).bind fun _ =>
        qcL a_0 a_2 x2 x3 n (setS x13 i22 (⟨y3.As,y3.Ba,(setS y3.Aj 0 (W64 (1+i25)))⟩:qu)) i26 i27 (W64 (i22+1))
     else
      qcL a_0 a_2 x2 x3 n x13 i23 i24 (W64 (i22+1))
  else
   some (x13,i20,i21,i22)
def qdA (a_0:Tl01Source):Nat→(List ByteArray)→(List qu)→Int→Int→Int→Option ((List ByteArray) × (List qu) × Int × Int × Int)
 | 0,_,_,_,_,_=>none
 | n+1,x2,x3,i4,i5,i6 =>
  bif decide (i6 > 0) then
   (qk n (⟨a_0.code,i4,i5⟩:Tl01Source) 12).bind fun o=>match o with
    | (i7,i8,i9) =>
     (idx ([0,1,2,2,3,4,5,5,5,6,7,1]:List Int) i7).bind fun y1 =>
     (qS n (x3.length:Int)).bind fun r1 =>
     (catB (⟨#[117]⟩:ByteArray) r1).bind fun z1 =>
     (qcQ a_0 x2 y1 n ([]:List Int) i8 i9 0).bind fun o=>match o with
     | (x4,i10,i11,_) =>
      (appS ([]:List Int) x4).bind fun x9 =>
      (appS x9 ([(x2.length:Int)]:List Int)).bind fun x10 =>
      (qS n (x2.length:Int)).bind fun r2 =>
      (catB (⟨#[110]⟩:ByteArray) r2).bind fun z2 =>
      (appS x2 ([z2]:List ByteArray)).bind fun x11 =>
      (appS x3 ([(⟨z1,y1,x10⟩:qu)]:List qu)).bind fun x12 =>
      qdA a_0 n x11 x12 i10 i11 (W64 (i6-1))
  else
   some (x2,x3,i4,i5,i6)
def qgJ (n:Nat) (a_0:Tl01Source) (a_1:Int) (a_2:Bool):Option (qg × Int × Int) :=
 (appS ([]:List ByteArray) ([(⟨#[110,99,107]⟩:ByteArray),(⟨#[110,97]⟩:ByteArray),(⟨#[110,98]⟩:ByteArray)]:List ByteArray)).bind fun x1 =>
 (qk n (⟨a_0.code,a_0.at_,a_0.seed⟩:Tl01Source) (W64 (a_1-1))).bind fun o=>match o with
  | (i1,i2,i3) =>
   (qdA a_0 n x1 ([]:List qu) i2 i3 (W64 (2+i1))).bind fun o=>match o with
   | (x2,x3,i4,i5,_) =>
    (qcL a_0 a_2 x2 x3 n x3 i4 i5 0).bind fun o=>match o with
    | (x13,i20,i21,_) =>
     (appS ([]:List qac) ([(⟨(⟨#[99,107]⟩:ByteArray),1,0⟩:qac),(⟨(⟨#[97]⟩:ByteArray),1,1⟩:qac),(⟨(⟨#[98]⟩:ByteArray),1,2⟩:qac)]:List qac)).bind fun x14 =>
     (appS x14 ([(⟨(⟨#[121]⟩:ByteArray),2,W64 ((x2.length:Int)-1)⟩:qac)]:List qac)).bind fun x15 =>
     (qk n (⟨a_0.code,i20,i21⟩:Tl01Source) 2).bind fun o=>match o with
      | (i31,i32,i33) =>
       bif (i31==0) then
        (qk n (⟨a_0.code,i32,i33⟩:Tl01Source) (W64 ((x2.length:Int)-1))).bind fun o=>match o with
         | (i34,i35,i36) =>
          (appS x15 ([(⟨(⟨#[122]⟩:ByteArray),2,W64 (1+i34)⟩:qac)]:List qac)).bind fun x16 =>
          some ((⟨x13,x2,x16⟩:qg),i35,i36)
       else
        some ((⟨x13,x2,x15⟩:qg),i32,i33)
theorem qjW {n:Nat} {w0 w:World} {F:List Ch} {a_0:Tl01Source} {bb1:Nat} {p1:Option Addr} {k1:Nat} {a_1:Int} {a_2:Bool} (h0:SH w0 w (Ch.box bb1 (qaf a_0 p1 k1) 225::F)) (ha1:GoT.R w (Fr w0 F) a_0 [.slice p1 a_0.code.length k1,.int .i64 a_0.at_,.int .i64 a_0.seed]) {r:(qg × Int × Int)} (hF:qgJ n a_0 a_1 a_2=some r):RetW Tryz.prog 190 [.pointer (some ⟨bb1,0,none⟩),.int .i64 a_1,.bool a_2] w (fun us w'=>∃ (S1:Nat→Prop) (cs1:List Value),us=[GoT.v qg cs1]∧SH w0 w' (Ch.own S1 (r.1:qg) cs1::Ch.box bb1 [.slice p1 a_0.code.length k1,.int .i64 r.2.1,.int .i64 r.2.2] 225::F)):=by
 have h:=SH.frm1 h0 ha1
 refine qa7 Tryz.func190 rfl (m:=174) rfl rfl (zSR (qx qb h rfl rfl rfl fun w1 bb2 h=>zNSR (ql qb [.const (.string (⟨#[110,99,107]⟩:ByteArray)),.const (.string (⟨#[110,97]⟩:ByteArray)),.const (.string (⟨#[110,98]⟩:ByteArray))] _ ([(⟨#[110,99,107]⟩:ByteArray),(⟨#[110,97]⟩:ByteArray),(⟨#[110,98]⟩:ByteArray)]:List ByteArray) h rfl rfl rfl rfl rfl rfl rfl rfl rfl ⟨rfl,rfl,rfl,trivial⟩ rfl fun w2 p2 S2 h=>r_v (qah qb [1] [.tmp 18] rfl rfl rfl rfl rfl rfl rfl rfl) rfl (qx qb h rfl rfl rfl fun w3 bb3 h=>zs 0 h rfl fun w4 h=>zNSR (r_v (qah qb [0,1] [.const (.string (⟨#[99,107]⟩:ByteArray)),.const (.int .i64 (1))] rfl rfl rfl rfl rfl rfl rfl rfl) rfl (r_v (qah qb [0,1,2] [.const (.string (⟨#[97]⟩:ByteArray)),.const (.int .i64 (1)),.const (.int .i64 (1))] rfl rfl rfl rfl rfl rfl rfl rfl) rfl (r_v (qah qb [0,1,2] [.const (.string (⟨#[98]⟩:ByteArray)),.const (.int .i64 (1)),.const (.int .i64 (2))] rfl rfl rfl rfl rfl rfl rfl rfl) rfl (ql qb [.tmp 20,.tmp 21,.tmp 22] _ ([(⟨(⟨#[99,107]⟩:ByteArray),1,0⟩:qac),(⟨(⟨#[97]⟩:ByteArray),1,1⟩:qac),(⟨(⟨#[98]⟩:ByteArray),1,2⟩:qac)]:List qac) h rfl rfl rfl rfl rfl rfl rfl rfl rfl ⟨(qf1 (⟨(⟨#[99,107]⟩:ByteArray),1,0⟩:qac)),(qf1 (⟨(⟨#[97]⟩:ByteArray),1,1⟩:qac)),(qf1 (⟨(⟨#[98]⟩:ByteArray),1,2⟩:qac)),trivial⟩ rfl fun w5 p3 S3 h=>zp1 rfl (zs 1 h rfl fun w6 h=>zNSR (ql qb [.const (.int .i64 (2)),.const (.int .i64 (2)),.const (.int .i64 (3)),.const (.int .i64 (3)),.const (.int .i64 (4)),.const (.int .i64 (3)),.const (.int .i64 (3)),.const (.int .i64 (3))] _ ([2,2,3,3,4,3,3,3]:List Int) h rfl rfl rfl rfl rfl rfl rfl rfl rfl ⟨rfl,rfl,rfl,rfl,rfl,rfl,rfl,rfl,trivial⟩ rfl fun w7 p4 S4 h=>X0 4 rfl (qdf qb [] _ ([]:List qu) [0,1,2,3,4,5,6] h rfl rfl rfl rfl rfl rfl rfl rfl rfl qe6 rfl rfl fun w8 p5 S5 h=>X0 4 rfl (ql qb [] _ ([]:List ByteArray) h rfl rfl rfl rfl rfl rfl rfl rfl rfl trivial rfl fun w9 p6 S6 h=>X1 2 4 h rfl ?_))))))))))))
 obtain ⟨x1,hx1,hF⟩:=qe hF
 obtain ⟨g1,hx1⟩:=qw hx1
 refine qak qb 0 h rfl (h.sl 5 rfl).1 (h.sl 5 rfl).2 rfl rfl rfl rfl rfl rfl rfl rfl rfl g1 hx1 rfl fun w10 p7 k2 S7 h=>X0 8 rfl ?_
 replace h:=h.pick [7,0,1,2,3,4,5,6,8] rfl
 obtain ⟨o1,hr1,hF⟩:=qe hF
 obtain ⟨i1,i2,i3⟩:=o1
 refine qt (cB 132 rfl) (qh (a_0:=(⟨a_0.code,a_0.at_,a_0.seed⟩:Tl01Source)) (a_1:=(W64 (a_1-1))) h (show GoT.R _ _ ((⟨a_0.code,a_0.at_,a_0.seed⟩:Tl01Source):Tl01Source) _ from ⟨[.slice p1 a_0.code.length k1],[.int .i64 a_0.at_,.int .i64 a_0.seed],rfl,⟨_,_,rfl,(qf (h.frG 8 0 1 rfl rfl rfl)).1⟩,⟨[.int .i64 a_0.at_],[.int .i64 a_0.seed],rfl,rfl,rfl⟩⟩) hr1) rfl rfl rfl rfl ?_
 rintro w11 us1 ⟨rfl,h⟩
 dsimp only at h
 refine X0 3 rfl ?_
 obtain ⟨o2,hF,hK1⟩:=qe hF
 refine qq (rL (fun m e w'=>∃ (S8:Nat→Prop) (p8:Option Addr) (ln1:Nat) (k3:Nat) (x2:(List ByteArray)) (S9:Nat→Prop) (p9:Option Addr) (ln2:Nat) (k4:Nat) (x3:(List qu)) (i4:Int) (i5:Int) (i6:Int),qdA a_0 m x2 x3 i4 i5 i6=some o2∧e=[(0,.pointer (some ⟨bb1,0,none⟩)),(2,.bool a_2),(6,.pointer (some ⟨bb2,0,none⟩)),(7,.pointer (some ⟨bb3,0,none⟩)),(8,.slice p4 8 8),(9,.slice p9 ln2 k4),(10,.slice p8 ln1 k3),(11,.int .i64 i6)]∧SH w0 w' [Ch.box bb1 [.slice p1 a_0.code.length k1,.int .i64 i4,.int .i64 i5] 225,Ch.own S8 (x2:List ByteArray) [.slice p8 ln1 k3],Ch.own S9 (x3:List qu) [.slice p9 ln2 k4],Ch.own S4 (([2,2,3,3,4,3,3,3]:List Int):List Int) [.slice p4 8 8],Ch.own S3 (([(⟨(⟨#[99,107]⟩:ByteArray),1,0⟩:qac),(⟨(⟨#[97]⟩:ByteArray),1,1⟩:qac),(⟨(⟨#[98]⟩:ByteArray),1,2⟩:qac)]:List qac):List qac) [.slice p3 3 3],Ch.box bb3 [.slice none 0 0,.slice p2 3 3,.slice p3 3 3] 45,Ch.own S2 (([(⟨#[110,99,107]⟩:ByteArray),(⟨#[110,97]⟩:ByteArray),(⟨#[110,98]⟩:ByteArray)]:List ByteArray):List ByteArray) [.slice p2 3 3],Ch.box bb2 [.slice none 0 0,.slice none 0 0,.slice none 0 0] 45,Ch.grp (old w0) (FS F) [fct (a_0:Tl01Source) [.slice p1 a_0.code.length k1,.int .i64 a_0.at_,.int .i64 a_0.seed],same w0 w F]]) n ⟨_,_,_,_,_,_,_,_,_,_,_,_,_,hF,rfl,h⟩ rfl ?_)
 rintro m1 e1 w12 ⟨S8,p8,ln1,k3,x2,S9,p9,ln2,k4,x3,i4,i5,i6,hF,rfl,h⟩
 obtain rfl:=(h.sl 1 rfl).2
 obtain rfl:=(h.sl 2 rfl).2
 rcases m1 with _|m1
 ·cases hF
 refine X0 6 rfl (qm rfl hF ?_ ?_)<;>intro hF
 ·refine zKSBSR (ql qb [.const (.int .i64 (0)),.const (.int .i64 (1)),.const (.int .i64 (2)),.const (.int .i64 (2)),.const (.int .i64 (3)),.const (.int .i64 (4)),.const (.int .i64 (5)),.const (.int .i64 (5)),.const (.int .i64 (5)),.const (.int .i64 (6)),.const (.int .i64 (7)),.const (.int .i64 (1))] _ ([0,1,2,2,3,4,5,5,5,6,7,1]:List Int) h rfl rfl rfl rfl rfl rfl rfl rfl rfl ⟨rfl,rfl,rfl,rfl,rfl,rfl,rfl,rfl,rfl,rfl,rfl,rfl,trivial⟩ rfl fun w13 p10 S10 h=>zp1 rfl ?_)
  replace h:=h.pick [1,0,2,3,4,5,6,7,8,9] rfl
  obtain ⟨o3,hr2,hF⟩:=qe hF
  obtain ⟨i7,i8,i9⟩:=o3
  refine qt (cB 132 rfl) (qh (a_0:=(⟨a_0.code,i4,i5⟩:Tl01Source)) (a_1:=12) h (show GoT.R _ _ ((⟨a_0.code,i4,i5⟩:Tl01Source):Tl01Source) _ from ⟨[.slice p1 a_0.code.length k1],[.int .i64 i4,.int .i64 i5],rfl,⟨_,_,rfl,(qf (h.frG 9 0 1 rfl rfl rfl)).1⟩,⟨[.int .i64 i4],[.int .i64 i5],rfl,rfl,rfl⟩⟩) hr2) rfl rfl rfl rfl ?_
  rintro w14 us2 ⟨rfl,h⟩
  dsimp only at h
  obtain ⟨y1,hy1,hF,he1,b1,_,q1,cs2,hp1,hq1,rfl,hc2⟩:=(h.sl 1 rfl).1.ix hF
  refine zx hp1 hq1 ⟨he1.1,qN he1.2.1 (h.sl 1 rfl).2⟩ rfl (zc 0 hc2 rfl (X0 6 rfl (zcS h hF qhn rfl fun r1 w15 h hF=>?_)))
  obtain ⟨z1,hx2,hF⟩:=qe hF
  obtain ⟨g2,hx2⟩:=qb2 hx2
  refine r_v (qgD g2 rfl rfl) rfl ?_
  rw [hx2]
  refine zp1 rfl (r_v (qah qb [0,1] [.tmp 48,.tmp 49] rfl rfl rfl rfl rfl rfl rfl rfl) rfl (qx qb h rfl rfl rfl fun w16 bb4 h=>zs 0 h rfl fun w17 h=>X0 6 rfl ?_))
  replace h:=h.nil (α:=Int)
  obtain ⟨o4,hF,hK2⟩:=qe hF
  refine qq ?_
  replace h:=h.pick [0,1,2,4,5,6,7,8,9,10,11] rfl
  refine rL (fun m e w'=>∃ (S11:Nat→Prop) (p11:Option Addr) (ln3:Nat) (k5:Nat) (x4:(List Int)) (i10:Int) (i11:Int) (i12:Int),qcQ a_0 x2 y1 m x4 i10 i11 i12=some o4∧e=[(0,.pointer (some ⟨bb1,0,none⟩)),(2,.bool a_2),(6,.pointer (some ⟨bb2,0,none⟩)),(7,.pointer (some ⟨bb3,0,none⟩)),(8,.slice p4 8 8),(9,.slice p9 x3.length k4),(10,.slice p8 x2.length k3),(11,.int .i64 i6),(12,.int .i64 y1),(13,.pointer (some ⟨bb4,0,none⟩)),(14,.int .i64 i12)]∧SH w0 w' [Ch.own S11 (x4:List Int) [.slice p11 ln3 k5],Ch.box bb4 [.string z1,.int .i64 y1,.slice p11 ln3 k5] 121,Ch.box bb1 [.slice p1 a_0.code.length k1,.int .i64 i10,.int .i64 i11] 225,Ch.own S8 (x2:List ByteArray) [.slice p8 x2.length k3],Ch.own S9 (x3:List qu) [.slice p9 x3.length k4],Ch.own S4 (([2,2,3,3,4,3,3,3]:List Int):List Int) [.slice p4 8 8],Ch.own S3 (([(⟨(⟨#[99,107]⟩:ByteArray),1,0⟩:qac),(⟨(⟨#[97]⟩:ByteArray),1,1⟩:qac),(⟨(⟨#[98]⟩:ByteArray),1,2⟩:qac)]:List qac):List qac) [.slice p3 3 3],Ch.box bb3 [.slice none 0 0,.slice p2 3 3,.slice p3 3 3] 45,Ch.own S2 (([(⟨#[110,99,107]⟩:ByteArray),(⟨#[110,97]⟩:ByteArray),(⟨#[110,98]⟩:ByteArray)]:List ByteArray):List ByteArray) [.slice p2 3 3],Ch.box bb2 [.slice none 0 0,.slice none 0 0,.slice none 0 0] 45,Ch.grp (old w0) (FS F) [fct (a_0:Tl01Source) [.slice p1 a_0.code.length k1,.int .i64 a_0.at_,.int .i64 a_0.seed],same w0 w F]]) m1 ⟨_,_,_,_,_,_,_,_,hF,rfl,h⟩ rfl ?_
  rintro m2 e2 w18 ⟨S11,p11,ln3,k5,x4,i10,i11,i12,hF,rfl,h⟩
  obtain rfl:=(h.sl 0 rfl).2
  rcases m2 with _|m2
  ·cases hF
  refine X0 6 rfl ?_
  obtain ⟨y2,hy2,hF,he2,b2,_,q2,cs3,hp2,hq2,rfl,hc3⟩:=(h.sl 5 rfl).1.ix hF
  refine zx hp2 hq2 ⟨he2.1,qN he2.2.1 (h.sl 5 rfl).2⟩ rfl (zc 0 hc3 rfl (X0 3 rfl (qm rfl hF ?_ ?_)))<;>intro hF
  ·refine X0 9 rfl ?_
   replace h:=h.pick [2,0,1,3,4,5,6,7,8,9,10] rfl
   obtain ⟨o5,hr6,hF⟩:=qe hF
   obtain ⟨i13,i14,i15⟩:=o5
   refine qt (cB 132 rfl) (qh (a_0:=(⟨a_0.code,i10,i11⟩:Tl01Source)) (a_1:=(W64 ((x2.length:Int)-1))) h (show GoT.R _ _ ((⟨a_0.code,i10,i11⟩:Tl01Source):Tl01Source) _ from ⟨[.slice p1 a_0.code.length k1],[.int .i64 i10,.int .i64 i11],rfl,⟨_,_,rfl,(qf (h.frG 10 0 1 rfl rfl rfl)).1⟩,⟨[.int .i64 i10],[.int .i64 i11],rfl,rfl,rfl⟩⟩) hr6) rfl rfl rfl rfl ?_
   rintro w19 us3 ⟨rfl,h⟩
   dsimp only at h
   refine X0 7 rfl ?_
   obtain ⟨o6,hr7,hF⟩:=qe hF
   obtain ⟨i16,i17,i18⟩:=o6
   refine qt (cB 132 rfl) (qh (a_0:=(⟨a_0.code,i14,i15⟩:Tl01Source)) (a_1:=3) h (show GoT.R _ _ ((⟨a_0.code,i14,i15⟩:Tl01Source):Tl01Source) _ from ⟨[.slice p1 a_0.code.length k1],[.int .i64 i14,.int .i64 i15],rfl,⟨_,_,rfl,(qf (h.frG 10 0 1 rfl rfl rfl)).1⟩,⟨[.int .i64 i14],[.int .i64 i15],rfl,rfl,rfl⟩⟩) hr7) rfl rfl rfl rfl ?_
   rintro w20 us4 ⟨rfl,h⟩
   dsimp only at h
   refine X0 2 rfl ?_
   obtain ⟨KF2,hKF2,o8,hF,hK4⟩:=bindE hF
   refine qa2 (fun e w'=>∃ (i19:Int),KF2 i19=some o4∧e=[(0,.pointer (some ⟨bb1,0,none⟩)),(2,.bool a_2),(6,.pointer (some ⟨bb2,0,none⟩)),(7,.pointer (some ⟨bb3,0,none⟩)),(8,.slice p4 8 8),(9,.slice p9 x3.length k4),(10,.slice p8 x2.length k3),(11,.int .i64 i6),(12,.int .i64 y1),(13,.pointer (some ⟨bb4,0,none⟩)),(14,.int .i64 i12),(15,.int .i64 i19)]∧SH w0 w' [Ch.box bb1 [.slice p1 a_0.code.length k1,.int .i64 i17,.int .i64 i18] 225,Ch.own S11 (x4:List Int) [.slice p11 x4.length k5],Ch.box bb4 [.string z1,.int .i64 y1,.slice p11 x4.length k5] 121,Ch.own S8 (x2:List ByteArray) [.slice p8 x2.length k3],Ch.own S9 (x3:List qu) [.slice p9 x3.length k4],Ch.own S4 (([2,2,3,3,4,3,3,3]:List Int):List Int) [.slice p4 8 8],Ch.own S3 (([(⟨(⟨#[99,107]⟩:ByteArray),1,0⟩:qac),(⟨(⟨#[97]⟩:ByteArray),1,1⟩:qac),(⟨(⟨#[98]⟩:ByteArray),1,2⟩:qac)]:List qac):List qac) [.slice p3 3 3],Ch.box bb3 [.slice none 0 0,.slice p2 3 3,.slice p3 3 3] 45,Ch.own S2 (([(⟨#[110,99,107]⟩:ByteArray),(⟨#[110,97]⟩:ByteArray),(⟨#[110,98]⟩:ByteArray)]:List ByteArray):List ByteArray) [.slice p2 3 3],Ch.box bb2 [.slice none 0 0,.slice none 0 0,.slice none 0 0] 45,Ch.grp (old w0) (FS F) [fct (a_0:Tl01Source) [.slice p1 a_0.code.length k1,.int .i64 a_0.at_,.int .i64 a_0.seed],same w0 w F]]) ?_ ?_
   ·refine qm rfl hF ?_ ?_<;>intro hF
    ·refine X0 6 rfl ?_
     obtain rfl:=qd hF
     exact rG ⟨_,hK4,rfl,h⟩ rfl
    refine qcV ?_
    obtain rfl:=qd hF
    exact rG ⟨_,hK4,rfl,h⟩ rfl
   rintro e4 w32 ⟨i19,hF,rfl,h⟩
   subst hKF2
   refine zSS ?_
   obtain ⟨KF1,hKF1,o7,hF,hK3⟩:=bindE hF
   refine qa2 (fun e w'=>∃ (b3:Bool),KF1 b3=some o4∧e=[(0,.pointer (some ⟨bb1,0,none⟩)),(2,.bool a_2),(6,.pointer (some ⟨bb2,0,none⟩)),(7,.pointer (some ⟨bb3,0,none⟩)),(8,.slice p4 8 8),(9,.slice p9 x3.length k4),(10,.slice p8 x2.length k3),(11,.int .i64 i6),(12,.int .i64 y1),(13,.pointer (some ⟨bb4,0,none⟩)),(14,.int .i64 i12),(15,.int .i64 i19),(77,.bool b3)]∧SH w0 w' [Ch.box bb1 [.slice p1 a_0.code.length k1,.int .i64 i17,.int .i64 i18] 225,Ch.own S11 (x4:List Int) [.slice p11 x4.length k5],Ch.box bb4 [.string z1,.int .i64 y1,.slice p11 x4.length k5] 121,Ch.own S8 (x2:List ByteArray) [.slice p8 x2.length k3],Ch.own S9 (x3:List qu) [.slice p9 x3.length k4],Ch.own S4 (([2,2,3,3,4,3,3,3]:List Int):List Int) [.slice p4 8 8],Ch.own S3 (([(⟨(⟨#[99,107]⟩:ByteArray),1,0⟩:qac),(⟨(⟨#[97]⟩:ByteArray),1,1⟩:qac),(⟨(⟨#[98]⟩:ByteArray),1,2⟩:qac)]:List qac):List qac) [.slice p3 3 3],Ch.box bb3 [.slice none 0 0,.slice p2 3 3,.slice p3 3 3] 45,Ch.own S2 (([(⟨#[110,99,107]⟩:ByteArray),(⟨#[110,97]⟩:ByteArray),(⟨#[110,98]⟩:ByteArray)]:List ByteArray):List ByteArray) [.slice p2 3 3],Ch.box bb2 [.slice none 0 0,.slice none 0 0,.slice none 0 0] 45,Ch.grp (old w0) (FS F) [fct (a_0:Tl01Source) [.slice p1 a_0.code.length k1,.int .i64 a_0.at_,.int .i64 a_0.seed],same w0 w F]]) ?_ ?_
   ·refine X0 4 rfl (qi (t:=74) hF rfl ?_ ?_)<;>intro hF
    ·refine X0 6 rfl ?_
     obtain rfl:=qd hF
     exact rG ⟨_,hK3,rfl,h⟩ rfl
    refine X0 4 rfl ?_
    obtain rfl:=qd hF
    exact rG ⟨_,hK3,rfl,h⟩ rfl
   rintro e3 w31 ⟨b3,hF,rfl,h⟩
   subst hKF1
   refine qm rfl hF ?_ ?_<;>intro hF
   ·refine X0 4 rfl (ql qb [] _ ([]:List Int) h rfl rfl rfl rfl rfl rfl rfl rfl rfl trivial rfl fun w21 p12 S12 h=>X1 2 3 h rfl ?_)
    obtain ⟨x5,hx3,hF⟩:=qe hF
    obtain ⟨g3,hx3⟩:=qw hx3
    refine qak qb 0 h rfl (h.sl 2 rfl).1 (h.sl 2 rfl).2 rfl rfl rfl rfl rfl rfl rfl rfl rfl g3 hx3 rfl fun w22 p13 k6 S13 h=>zp1 rfl (ql qb [.tmp 82] _ ([0]:List Int) h rfl rfl rfl rfl rfl rfl rfl rfl rfl ⟨rfl,trivial⟩ rfl fun w23 p14 S14 h=>?_)
    obtain ⟨x6,hx4,hF⟩:=qe hF
    obtain ⟨g4,hx4⟩:=qw hx4
    refine qak qb 1 h rfl (h.sl 0 rfl).1 (h.sl 0 rfl).2 rfl rfl rfl rfl rfl rfl rfl rfl rfl g4 hx4 rfl fun w24 p15 k7 S15 h=>zp1 rfl (zs 4 h rfl fun w25 h=>X0 7 rfl ?_)
    replace h:=h.pick [1,4,2,5,6,7,8,9,10,11,12] rfl
    exact rK ⟨_,_,_,_,_,_,_,_,hF,rfl,h⟩ rfl
   refine X0 2 rfl (ql qb [] _ ([]:List Int) h rfl rfl rfl rfl rfl rfl rfl rfl rfl trivial rfl fun w26 p16 S16 h=>X1 2 3 h rfl ?_)
   obtain ⟨x7,hx5,hF⟩:=qe hF
   obtain ⟨g5,hx5⟩:=qw hx5
   refine qak qb 0 h rfl (h.sl 2 rfl).1 (h.sl 2 rfl).2 rfl rfl rfl rfl rfl rfl rfl rfl rfl g5 hx5 rfl fun w27 p17 k8 S17 h=>zp1 rfl (ql qb [.tmp 82] _ ([i19]:List Int) h rfl rfl rfl rfl rfl rfl rfl rfl rfl ⟨rfl,trivial⟩ rfl fun w28 p18 S18 h=>?_)
   obtain ⟨x8,hx6,hF⟩:=qe hF
   obtain ⟨g6,hx6⟩:=qw hx6
   refine qak qb 1 h rfl (h.sl 0 rfl).1 (h.sl 0 rfl).2 rfl rfl rfl rfl rfl rfl rfl rfl rfl g6 hx6 rfl fun w29 p19 k9 S19 h=>zp1 rfl (zs 4 h rfl fun w30 h=>X0 7 rfl ?_)
   replace h:=h.pick [1,4,2,5,6,7,8,9,10,11,12] rfl
   exact rK ⟨_,_,_,_,_,_,_,_,hF,rfl,h⟩ rfl
  refine qy rfl ?_
  obtain rfl:=qd hF;replace hF:=hK2
  refine zSR (ql qb [] _ ([]:List Int) h rfl rfl rfl rfl rfl rfl rfl rfl rfl trivial rfl fun w33 p20 S20 h=>X1 2 2 h rfl ?_)
  obtain ⟨x9,hx7,hF⟩:=qe hF
  obtain ⟨g7,hx7⟩:=qw hx7
  refine qak qb 0 h rfl (h.sl 1 rfl).1 (h.sl 1 rfl).2 rfl rfl rfl rfl rfl rfl rfl rfl rfl g7 hx7 rfl fun w34 p21 k10 S21 h=>zp2 rfl (ql qb [.tmp 91] _ ([(x2.length:Int)]:List Int) h rfl rfl rfl rfl rfl rfl rfl rfl rfl ⟨rfl,trivial⟩ rfl fun w35 p22 S22 h=>?_)
  obtain ⟨x10,hx8,hF⟩:=qe hF
  obtain ⟨g8,hx8⟩:=qw hx8
  refine qak qb 1 h rfl (h.sl 0 rfl).1 (h.sl 0 rfl).2 rfl rfl rfl rfl rfl rfl rfl rfl rfl g8 hx8 rfl fun w36 p23 k11 S23 h=>zp1 rfl (zs 3 h rfl fun w37 h=>X0 6 rfl (zcS h hF qhn rfl fun r2 w38 h hF=>?_))
  obtain ⟨z2,hx9,hF⟩:=qe hF
  obtain ⟨g9,hx9⟩:=qb2 hx9
  refine r_v (qgD g9 rfl rfl) rfl ?_
  rw [hx9]
  refine ql qb [.tmp 99] _ ([z2]:List ByteArray) h rfl rfl rfl rfl rfl rfl rfl rfl rfl ⟨rfl,trivial⟩ rfl fun w39 p24 S24 h=>?_
  obtain ⟨x11,hx10,hF⟩:=qe hF
  obtain ⟨g10,hx10⟩:=qw hx10
  refine qak qb 6 h rfl (h.sl 0 rfl).1 (h.sl 0 rfl).2 rfl rfl rfl rfl rfl rfl rfl rfl rfl g10 hx10 rfl fun w40 p25 k12 S25 h=>X1 5 4 h rfl (qdf qb [.tmp 103] _ ([(⟨z1,y1,x10⟩:qu)]:List qu) [0,1,3,4,5,6,7,8,9,10,11,12,13] h rfl rfl rfl rfl rfl rfl rfl rfl rfl (qbQ (qjH (⟨z1,y1,x10⟩:qu) h (qC (S:=fun _=>False) rfl) (qC (S:=fun _=>False) rfl) (qB 2 h rfl) (by rfl) (by rfl)) qe6 rfl) rfl rfl fun w41 p26 S26 h=>?_)
  obtain ⟨x12,hx11,hF⟩:=qe hF
  obtain ⟨g11,hx11⟩:=qw hx11
  replace h:=h.pick [0,7,1,2,3,4,5,6,8,9,10,11,12,13] rfl
  refine qi0 qb h rfl rfl rfl rfl rfl rfl rfl rfl rfl g11 hx11 rfl fun w42 p27 k13 S27 h=>X0 8 rfl ?_
  replace h:=h.pick [5,6,0,7,8,9,10,11,12] rfl
  exact rK ⟨_,_,_,_,_,_,_,_,_,_,_,_,_,hF,rfl,h⟩ rfl
 refine qy rfl ?_
 obtain rfl:=qd hF;replace hF:=hK1
 refine X0 5 rfl ?_
 obtain ⟨o9,hF,hK5⟩:=qe hF
 refine qq ?_
 replace h:=h.pick [0,1,2,4,5,6,7,8] rfl
 refine rL (fun m e w'=>∃ (S28:Nat→Prop) (x13:(List qu)) (i20:Int) (i21:Int) (i22:Int),qcL a_0 a_2 x2 x3 m x13 i20 i21 i22=some o9∧e=[(0,.pointer (some ⟨bb1,0,none⟩)),(2,.bool a_2),(6,.pointer (some ⟨bb2,0,none⟩)),(7,.pointer (some ⟨bb3,0,none⟩)),(9,.slice p9 x3.length k4),(10,.slice p8 x2.length k3),(16,.int .i64 i22)]∧SH w0 w' [Ch.box bb1 [.slice p1 a_0.code.length k1,.int .i64 i20,.int .i64 i21] 225,Ch.own S8 (x2:List ByteArray) [.slice p8 x2.length k3],Ch.own S28 (x13:List qu) [.slice p9 x3.length k4],Ch.own S3 (([(⟨(⟨#[99,107]⟩:ByteArray),1,0⟩:qac),(⟨(⟨#[97]⟩:ByteArray),1,1⟩:qac),(⟨(⟨#[98]⟩:ByteArray),1,2⟩:qac)]:List qac):List qac) [.slice p3 3 3],Ch.box bb3 [.slice none 0 0,.slice p2 3 3,.slice p3 3 3] 45,Ch.own S2 (([(⟨#[110,99,107]⟩:ByteArray),(⟨#[110,97]⟩:ByteArray),(⟨#[110,98]⟩:ByteArray)]:List ByteArray):List ByteArray) [.slice p2 3 3],Ch.box bb2 [.slice none 0 0,.slice none 0 0,.slice none 0 0] 45,Ch.grp (old w0) (FS F) [fct (a_0:Tl01Source) [.slice p1 a_0.code.length k1,.int .i64 a_0.at_,.int .i64 a_0.seed],same w0 w F]]) n ⟨_,_,_,_,_,hF,rfl,h⟩ rfl ?_
 rintro m3 e5 w43 ⟨S28,x13,i20,i21,i22,hF,rfl,h⟩
 rcases m3 with _|m3
 ·cases hF
 refine X0 8 rfl (qm rfl hF ?_ ?_)<;>intro hF
 ·refine X0 4 rfl ?_
  obtain ⟨KF3,hKF3,o11,hF,hK6⟩:=bindE hF
  refine qa2 (fun e w'=>∃ (i23:Int) (i24:Int) (b4:Bool),KF3 (i23,i24,b4)=some o9∧e=[(0,.pointer (some ⟨bb1,0,none⟩)),(2,.bool a_2),(6,.pointer (some ⟨bb2,0,none⟩)),(7,.pointer (some ⟨bb3,0,none⟩)),(9,.slice p9 x3.length k4),(10,.slice p8 x2.length k3),(16,.int .i64 i22),(133,.bool b4)]∧SH w0 w' [Ch.box bb1 [.slice p1 a_0.code.length k1,.int .i64 i23,.int .i64 i24] 225,Ch.own S8 (x2:List ByteArray) [.slice p8 x2.length k3],Ch.own S28 (x13:List qu) [.slice p9 x3.length k4],Ch.own S3 (([(⟨(⟨#[99,107]⟩:ByteArray),1,0⟩:qac),(⟨(⟨#[97]⟩:ByteArray),1,1⟩:qac),(⟨(⟨#[98]⟩:ByteArray),1,2⟩:qac)]:List qac):List qac) [.slice p3 3 3],Ch.box bb3 [.slice none 0 0,.slice p2 3 3,.slice p3 3 3] 45,Ch.own S2 (([(⟨#[110,99,107]⟩:ByteArray),(⟨#[110,97]⟩:ByteArray),(⟨#[110,98]⟩:ByteArray)]:List ByteArray):List ByteArray) [.slice p2 3 3],Ch.box bb2 [.slice none 0 0,.slice none 0 0,.slice none 0 0] 45,Ch.grp (old w0) (FS F) [fct (a_0:Tl01Source) [.slice p1 a_0.code.length k1,.int .i64 a_0.at_,.int .i64 a_0.seed],same w0 w F]]) ?_ ?_
  ·refine X0 2 rfl ?_
   obtain ⟨o12,hr11,hF⟩:=qe hF
   obtain ⟨i28,i29,i30⟩:=o12
   refine qt (cB 132 rfl) (qh (a_0:=(⟨a_0.code,i20,i21⟩:Tl01Source)) (a_1:=4) h (show GoT.R _ _ ((⟨a_0.code,i20,i21⟩:Tl01Source):Tl01Source) _ from ⟨[.slice p1 a_0.code.length k1],[.int .i64 i20,.int .i64 i21],rfl,⟨_,_,rfl,(qf (h.frG 7 0 1 rfl rfl rfl)).1⟩,⟨[.int .i64 i20],[.int .i64 i21],rfl,rfl,rfl⟩⟩) hr11) rfl rfl rfl rfl ?_
   rintro w47 us6 ⟨rfl,h⟩
   dsimp only at h
   refine zp2 rfl (qi (t:=115) hF rfl ?_ ?_)<;>intro hF
   ·refine X0 5 rfl ?_
    obtain ⟨y5,hy5,hF⟩:=qe hF
    have he5:=qax hy5
    replace h:=h.lrn0 2 rfl
    obtain ⟨b7,o_4,q5,cs6,hp5,hq5,-,hr12,hc10⟩:=(qfT (h.lrnO 2 rfl)).1.at hy5
    have hr13:=hr12
    obtain ⟨p29,k15,rfl,s2⟩:=qau hr12
    replace h:=h.lrnAdd 2 rfl hr13
    refine zx hp5 hq5 ⟨he5.1,qN he5.2.1 (qfT (h.lrnO 2 rfl)).2⟩ rfl (X0 3 rfl (zc 1 hc10 rfl (X0 4 rfl (qi (t:=122) hF rfl ?_ ?_))))<;>intro hF
    ·refine X0 15 rfl ?_
     replace h:=h.unlrn 2 rfl
     obtain rfl:=qd hF
     exact rG ⟨_,_,_,hK6,rfl,h⟩ rfl
    refine X0 5 rfl ?_
    obtain ⟨y6,hy6,hF,he6,b8,_,q6,cs7,hp6,hq6,hr14,hc11⟩:=(qfT (h.lrnO 2 rfl)).1.ix hF
    have hr15:=hr14
    obtain ⟨p30,k16,rfl,s3⟩:=qau hr14
    replace h:=h.lrnAdd 2 rfl hr15
    refine zx hp6 hq6 ⟨he6.1,qN he6.2.1 (qfT (h.lrnO 2 rfl)).2⟩ rfl (X0 3 rfl (zc 1 hc11 rfl (X0 6 rfl (qi (t:=130) hF rfl ?_ ?_))))<;>intro hF
    ·refine X0 5 rfl ?_
     replace h:=h.unlrn 2 rfl
     obtain rfl:=qd hF
     exact rG ⟨_,_,_,hK6,rfl,h⟩ rfl
    refine X0 6 rfl ?_
    replace h:=h.unlrn 2 rfl
    obtain rfl:=qd hF
    exact rG ⟨_,_,_,hK6,rfl,h⟩ rfl
   refine X0 19 rfl ?_
   obtain rfl:=qd hF
   exact rG ⟨_,_,_,hK6,rfl,h⟩ rfl
  rintro e6 w48 ⟨i23,i24,b4,hF,rfl,h⟩
  subst hKF3
  refine qm rfl hF ?_ ?_<;>intro hF
  ·obtain ⟨y3,hy3,hF⟩:=qe hF
   have he3:=qax hy3
   replace h:=h.pick [2,0,1,3,4,5,6,7] rfl
   obtain ⟨S29,S30,cs4,h⟩:=h.take hy3
   obtain ⟨p28,k14,rfl,-⟩:=qau (h.own 0 rfl)
   obtain ⟨S31,h⟩:=qkA h
   refine rA [] [1] h rfl fun w44 h=>M0 3 [0,1] (h.pick [1] rfl) rfl ?_
   obtain ⟨b5,hp3,-,-,hl2⟩:=h.holeAt 1 rfl
   obtain ⟨q3,hq3⟩:∃ q,q=0+(i22).toNat*GoT.k qu:=⟨_,rfl⟩
   refine Ax 2 7 hp3 hq3 ⟨he3.1,qN he3.2.1 hl2⟩ (h.pick [1] rfl) rfl (M0 15 [3] (h.pick [1] rfl) rfl (Aw 4 31 (fun w' hw=>qeJ qb (qfy hw 0 rfl hp3 hq3) (j:=2) rfl rfl rfl) (h.pick [1] rfl) rfl ?_))
   refine M0 511 [5,6,7,8] (h.pick [1] rfl) rfl (Ao 9 1023 rfl ?_)
   replace h:=h.pick [2,0,1,3,4,5,6,7,8] rfl
   obtain ⟨o10,hr9,hF⟩:=qe hF
   obtain ⟨i25,i26,i27⟩:=o10
   refine qt (cB 132 rfl) (qh (a_0:=(⟨a_0.code,i23,i24⟩:Tl01Source)) (a_1:=(W64 ((x2.length:Int)-1))) h (show GoT.R _ _ ((⟨a_0.code,i23,i24⟩:Tl01Source):Tl01Source) _ from ⟨[.slice p1 a_0.code.length k1],[.int .i64 i23,.int .i64 i24],rfl,⟨_,_,rfl,(qf (h.frG 8 0 1 rfl rfl rfl)).1⟩,⟨[.int .i64 i23],[.int .i64 i24],rfl,rfl,rfl⟩⟩) hr9) rfl rfl rfl rfl ?_
   rintro w45 us5 ⟨rfl,h⟩
   dsimp only at h
   refine G0 2047 [10] (h.pick [2] rfl) rfl ?_
   obtain ⟨y4,hy4,hF,he4,b6,_,q4,cs5,hp4,hq4,rfl,hc9⟩:=(h.sl 1 rfl).1.ix hF
   refine Ax 11 4095 hp4 hq4 ⟨he4.1,qN he4.2.1 (h.sl 1 rfl).2⟩ (h.pick [2] rfl) rfl (Ao 12 8191 rfl (qdF qb 1 0 (W64 (1+i25)) h rfl hy4 hp4 hq4 rfl hc9 rfl rfl rfl rfl rfl rfl rfl fun w46 h=>Ag (h.pick [2] rfl) (Ad (X0 6 rfl ?_))))
   obtain ⟨S32,h⟩:=h.gather [0,2,3,4,5,6,7,8] (qjH (⟨y3.As,y3.Ba,(setS y3.Aj 0 (W64 (1+i25)))⟩:qu) h (qC (S:=fun _=>False) rfl) (qC (S:=fun _=>False) rfl) (qB 1 h rfl) (by rfl) (by rfl)) rfl
   replace h:=h.pick [0,2,1,3,4,5,6,7,8] rfl
   replace h:=h.put
   obtain ⟨S33,h⟩:=qh1 (S:=_) h
   replace h:=h.pick [1,2,0,3,4,5,6,7] rfl
   exact rK ⟨_,_,_,_,_,hF,rfl,h⟩ rfl
  exact X0 7 rfl (rK ⟨_,_,_,_,_,hF,rfl,h⟩ rfl)
 refine qy rfl ?_
 obtain rfl:=qd hF;replace hF:=hK5
 refine zSR (ql qb [] _ ([]:List qac) h rfl rfl rfl rfl rfl rfl rfl rfl rfl trivial rfl fun w49 p31 S34 h=>X1 2 5 h rfl ?_)
 obtain ⟨x14,hx12,hF⟩:=qe hF
 obtain ⟨g12,hx12⟩:=qw hx12
 refine qak qb 0 h rfl (h.sl 4 rfl).1 (h.sl 4 rfl).2 rfl rfl rfl rfl rfl rfl rfl rfl rfl g12 hx12 rfl fun w50 p32 k17 S35 h=>X0 8 rfl (r_v (qah qb [0,1,2] [.const (.string (⟨#[121]⟩:ByteArray)),.const (.int .i64 (2)),.tmp 153] rfl rfl rfl rfl rfl rfl rfl rfl) rfl (ql qb [.tmp 154] _ ([(⟨(⟨#[121]⟩:ByteArray),2,W64 ((x2.length:Int)-1)⟩:qac)]:List qac) h rfl rfl rfl rfl rfl rfl rfl rfl rfl ⟨(qf1 (⟨(⟨#[121]⟩:ByteArray),2,W64 ((x2.length:Int)-1)⟩:qac)),trivial⟩ rfl fun w51 p33 S36 h=>?_))
 obtain ⟨x15,hx13,hF⟩:=qe hF
 obtain ⟨g13,hx13⟩:=qw hx13
 refine qak qb 1 h rfl (h.sl 0 rfl).1 (h.sl 0 rfl).2 rfl rfl rfl rfl rfl rfl rfl rfl rfl g13 hx13 rfl fun w52 p34 k18 S37 h=>X0 6 rfl ?_
 replace h:=h.pick [2,0,1,3,4,5,6,7,8,9] rfl
 obtain ⟨o13,hr16,hF⟩:=qe hF
 obtain ⟨i31,i32,i33⟩:=o13
 refine qt (cB 132 rfl) (qh (a_0:=(⟨a_0.code,i20,i21⟩:Tl01Source)) (a_1:=2) h (show GoT.R _ _ ((⟨a_0.code,i20,i21⟩:Tl01Source):Tl01Source) _ from ⟨[.slice p1 a_0.code.length k1],[.int .i64 i20,.int .i64 i21],rfl,⟨_,_,rfl,(qf (h.frG 9 0 1 rfl rfl rfl)).1⟩,⟨[.int .i64 i20],[.int .i64 i21],rfl,rfl,rfl⟩⟩) hr16) rfl rfl rfl rfl ?_
 rintro w53 us7 ⟨rfl,h⟩
 dsimp only at h
 refine X0 2 rfl (qm rfl hF ?_ ?_)<;>intro hF
 ·refine X0 6 rfl ?_
  obtain ⟨o14,hr17,hF⟩:=qe hF
  obtain ⟨i34,i35,i36⟩:=o14
  refine qt (cB 132 rfl) (qh (a_0:=(⟨a_0.code,i32,i33⟩:Tl01Source)) (a_1:=(W64 ((x2.length:Int)-1))) h (show GoT.R _ _ ((⟨a_0.code,i32,i33⟩:Tl01Source):Tl01Source) _ from ⟨[.slice p1 a_0.code.length k1],[.int .i64 i32,.int .i64 i33],rfl,⟨_,_,rfl,(qf (h.frG 9 0 1 rfl rfl rfl)).1⟩,⟨[.int .i64 i32],[.int .i64 i33],rfl,rfl,rfl⟩⟩) hr17) rfl rfl rfl rfl ?_
  rintro w54 us8 ⟨rfl,h⟩
  dsimp only at h
  refine zp1 rfl (r_v (qah qb [0,1,2] [.const (.string (⟨#[122]⟩:ByteArray)),.const (.int .i64 (2)),.tmp 166] rfl rfl rfl rfl rfl rfl rfl rfl) rfl (ql qb [.tmp 167] _ ([(⟨(⟨#[122]⟩:ByteArray),2,W64 (1+i34)⟩:qac)]:List qac) h rfl rfl rfl rfl rfl rfl rfl rfl rfl ⟨(qf1 (⟨(⟨#[122]⟩:ByteArray),2,W64 (1+i34)⟩:qac)),trivial⟩ rfl fun w55 p35 S38 h=>?_))
  obtain ⟨x16,hx14,hF⟩:=qe hF
  obtain ⟨g14,hx14⟩:=qw hx14
  refine qak qb 3 h rfl (h.sl 0 rfl).1 (h.sl 0 rfl).2 rfl rfl rfl rfl rfl rfl rfl rfl rfl g14 hx14 rfl fun w56 p36 k19 S39 h=>X0 7 rfl (r_v (qah qb [0,1,2] [.tmp 170,.tmp 171,.tmp 172] rfl rfl rfl rfl rfl rfl rfl rfl) rfl (zs 9 h rfl fun w57 h=>qa5 ?_))
  have hk1:=h
  obtain ⟨S40,h⟩:=h.gather [0,1,2,6,7,8,9,10] (qlp (⟨x13,x2,x16⟩:qg) h (qB 5 h rfl) (qB 4 h rfl) (qB 3 h rfl) (by rfl) (by rfl)) rfl
  obtain rfl:=qd hF
  replace h:=h.pick [0,2,8] rfl
  exact qbd qb [GoT.v qg [.slice p9 x3.length k4,.slice p8 x2.length k3,.slice p36 x16.length k19]] ⟨⟨_,_,_,rfl,rfl,hk1.box 9 rfl,rfl⟩,trivial⟩ ⟨_,_,rfl,SH.unfr 1 1 h0 h rfl rfl⟩
 refine X0 6 rfl (r_v (qah qb [0,1,2] [.tmp 170,.tmp 171,.tmp 172] rfl rfl rfl rfl rfl rfl rfl rfl) rfl (zs 8 h rfl fun w58 h=>qa5 ?_))
 have hk2:=h
 obtain ⟨S41,h⟩:=h.gather [0,1,5,6,7,8,9] (qlp (⟨x13,x2,x15⟩:qg) h (qB 4 h rfl) (qB 3 h rfl) (qB 2 h rfl) (by rfl) (by rfl)) rfl
 obtain rfl:=qd hF
 replace h:=h.pick [0,1,7] rfl
 exact qbd qb [GoT.v qg [.slice p9 x3.length k4,.slice p8 x2.length k3,.slice p34 x15.length k18]] ⟨⟨_,_,_,rfl,rfl,hk2.box 8 rfl,rfl⟩,trivial⟩ ⟨_,_,rfl,SH.unfr 1 1 h0 h rfl rfl⟩
def qen (_:Nat) (list:(List Int)):Option (List Int) :=
 (appS ([]:List Int) list).bind fun x1 =>
 some x1
theorem qer {list:(List Int)} (ha1:GoT.R w (old w) list cs1) {r:(List Int)} (hF:qen n list=some r):RetV Tryz.prog 188 [GoT.v (List Int) cs1] w r:=by
 obtain ⟨p1,k1,rfl,s1⟩:=ha1
 refine zV 6 Tryz.func188 rfl fun h=>X0 6 rfl (ql qb [] _ ([]:List Int) h rfl rfl rfl rfl rfl rfl rfl rfl rfl trivial rfl fun w1 p2 S1 h=>zp1 rfl ?_)
 obtain ⟨x1,hx1,hF⟩:=qe hF
 obtain ⟨g1,hx1⟩:=qw hx1
 refine qak qb 0 h rfl (h.oldS s1) rfl rfl rfl rfl rfl rfl rfl rfl rfl rfl g1 hx1 rfl fun w2 p3 k2 S2 h=>X0 2 rfl ?_
 obtain rfl:=qd hF
 exact rO 0 h rfl ⟨rfl,trivial⟩
def qfJ (_:Nat) (sinks:Int) (load:Int):Option qW :=
 (mkS sinks (0:Int)).bind fun x1 =>
 some (⟨([(-1)]:List Int),([0]:List Int),([load]:List Int),x1⟩:qW)
theorem qjS {sinks:Int} {load:Int}  {r:qW} (hF:qfJ n sinks load=some r):RetV Tryz.prog 228 [.int .i64 sinks,.int .i64 load] w r:=by
 refine zV 12 Tryz.func228 rfl fun h=>zSR (qx qb h rfl rfl rfl fun w1 bb1 h=>zNSR (ql qb [.const (.int .i64 (-1))] _ ([(-1)]:List Int) h rfl rfl rfl rfl rfl rfl rfl rfl rfl ⟨rfl,trivial⟩ rfl fun w2 p1 S1 h=>ql qb [.const (.int .i64 (0))] _ ([0]:List Int) h rfl rfl rfl rfl rfl rfl rfl rfl rfl ⟨rfl,trivial⟩ rfl fun w3 p2 S2 h=>zp1 rfl (ql qb [.tmp 7] _ ([load]:List Int) h rfl rfl rfl rfl rfl rfl rfl rfl rfl ⟨rfl,trivial⟩ rfl fun w4 p3 S3 h=>zp1 rfl ?_)))
 obtain ⟨x1,hx1,hF⟩:=qe hF
 obtain ⟨g1,g2,hx1⟩:=qgr hx1
 refine qhq qb Int h rfl rfl rfl rfl rfl rfl rfl rfl rfl g1 g2 hx1 rfl fun w5 S4 p4 h=>r_v (qah qb [0,1,2,3] [.tmp 5,.tmp 6,.tmp 8,.tmp 10] rfl rfl rfl rfl rfl rfl rfl rfl) rfl (zs 4 h rfl fun w6 h=>qa5 ?_)
 obtain rfl:=qd hF
 exact qbn qb (ρ:=qW) [GoT.v qW [.slice p1 1 1,.slice p2 1 1,.slice p3 1 1,.slice p4 x1.length x1.length]] h ⟨⟨_,_,_,rfl,rfl,h.box 4 rfl,rfl⟩,trivial⟩ (PV.done h (qdq (qhS (⟨([(-1)]:List Int),([0]:List Int),([load]:List Int),x1⟩:qW) h (qB 3 h rfl) (qB 2 h rfl) (qB 1 h rfl) (qB 0 h rfl) (by rfl) (by rfl) (by rfl))))
def qb6 (s:Tl01Source) (r1:qW) (x3:(List Int)):Nat→(List Int)→Int→Int→Int→Option ((List Int) × Int × Int × Int)
 | 0,_,_,_,_=>none
 | n+1,x7,i19,i20,i21 =>
  bif decide (i21<(r1.Ay.length:Int)) then
   (qk n (⟨s.code,i19,i20⟩:Tl01Source) (x3.length:Int)).bind fun o=>match o with
    | (i22,i23,i24) =>
     (idx x7 i21).bind fun _ =>
     qb6 s r1 x3 n (setS x7 i21 i22) i23 i24 (W64 (i21+1))
  else
   some (x7,i19,i20,i21)
def qb7 (s:Tl01Source):Nat→(List Int)→(List Int)→(List Int)→Int→Int→Int→Option ((List Int) × (List Int) × (List Int) × Int × Int × Int)
 | 0,_,_,_,_,_,_=>none
 | n+1,x1,x2,x3,i7,i8,i9 =>
  bif decide (i9 > 0) then
   (qen n x3).bind fun r2 =>
   (qk n (⟨s.code,i7,i8⟩:Tl01Source) (x3.length:Int)).bind fun o=>match o with
    | (i10,i11,i12) =>
     (appS r2 ([i10]:List Int)).bind fun x4 =>
     (qen n x2).bind fun r3 =>
     (qk n (⟨s.code,i11,i12⟩:Tl01Source) 400).bind fun o=>match o with
      | (i13,i14,i15) =>
       (appS r3 ([i13]:List Int)).bind fun x5 =>
       (qen n x1).bind fun r4 =>
       (qk n (⟨s.code,i14,i15⟩:Tl01Source) 8).bind fun o=>match o with
        | (i16,i17,i18) =>
         (appS r4 ([i16]:List Int)).bind fun x6 =>
         qb7 s n x6 x5 x4 i17 i18 (W64 (i9-1))
  else
   some (x1,x2,x3,i7,i8,i9)
def qe3 (n:Nat) (s:Tl01Source) (sinks:Int):Option (qW × Int × Int) :=
 (qk n (⟨s.code,s.at_,s.seed⟩:Tl01Source) 6).bind fun o=>match o with
  | (i1,i2,i3) =>
   (qfJ n sinks i1).bind fun r1 =>
   (qk n (⟨s.code,i2,i3⟩:Tl01Source) 4).bind fun o=>match o with
    | (i4,i5,i6) =>
     (qb7 s n r1.Be r1.Bh r1.Ak i5 i6 i4).bind fun o=>match o with
     | (x1,x2,x3,i7,i8,_) =>
      (qb6 s r1 x3 n r1.Ay i7 i8 0).bind fun o=>match o with
      | (x7,i19,i20,_) =>
       some ((⟨x3,x2,x1,x7⟩:qW),i19,i20)
theorem qiv {n:Nat} {w0 w:World} {F:List Ch} {s:Tl01Source} {bb1:Nat} {p1:Option Addr} {k1:Nat} {sinks:Int} (h0:SH w0 w (Ch.box bb1 (qaf s p1 k1) 225::F)) (ha1:GoT.R w (Fr w0 F) s [.slice p1 s.code.length k1,.int .i64 s.at_,.int .i64 s.seed]) {r:(qW × Int × Int)} (hF:qe3 n s sinks=some r):RetW Tryz.prog 191 [.pointer (some ⟨bb1,0,none⟩),.int .i64 sinks] w (fun us w'=>∃ (S1:Nat→Prop) (cs1:List Value),us=[GoT.v qW cs1]∧SH w0 w' (Ch.own S1 (r.1:qW) cs1::Ch.box bb1 [.slice p1 s.code.length k1,.int .i64 r.2.1,.int .i64 r.2.2] 225::F)):=by
 have h:=SH.frm1 h0 ha1
 refine qa7 Tryz.func191 rfl (m:=64) rfl rfl (zSR (qx qb h rfl rfl rfl fun w1 bb2 h=>X0 5 rfl ?_))
 replace h:=h.pick [1,0,2] rfl
 obtain ⟨o1,hr1,hF⟩:=qe hF
 obtain ⟨i1,i2,i3⟩:=o1
 refine qt (cB 132 rfl) (qh (a_0:=(⟨s.code,s.at_,s.seed⟩:Tl01Source)) (a_1:=6) h (show GoT.R _ _ ((⟨s.code,s.at_,s.seed⟩:Tl01Source):Tl01Source) _ from ⟨[.slice p1 s.code.length k1],[.int .i64 s.at_,.int .i64 s.seed],rfl,⟨_,_,rfl,(qf (h.frG 2 0 1 rfl rfl rfl)).1⟩,⟨[.int .i64 s.at_],[.int .i64 s.seed],rfl,rfl,rfl⟩⟩) hr1) rfl rfl rfl rfl ?_
 rintro w2 us1 ⟨rfl,h⟩
 dsimp only at h
 refine zcO h hF qjS rfl fun r1 w3 S2 cs2 h hF=>?_
 obtain ⟨p2,k2,p3,k3,p4,k4,p5,k5,rfl,-,-,-,-⟩:=qbR (h.own 0 rfl)
 refine qx qb h rfl rfl rfl fun w4 bb3 h=>zs 0 h rfl fun w5 h=>X0 5 rfl ?_
 replace h:=h.pick [2,0,1,3,4] rfl
 obtain ⟨o2,hr3,hF⟩:=qe hF
 obtain ⟨i4,i5,i6⟩:=o2
 refine qt (cB 132 rfl) (qh (a_0:=(⟨s.code,i2,i3⟩:Tl01Source)) (a_1:=4) h (show GoT.R _ _ ((⟨s.code,i2,i3⟩:Tl01Source):Tl01Source) _ from ⟨[.slice p1 s.code.length k1],[.int .i64 i2,.int .i64 i3],rfl,⟨_,_,rfl,(qf (h.frG 4 0 1 rfl rfl rfl)).1⟩,⟨[.int .i64 i2],[.int .i64 i3],rfl,rfl,rfl⟩⟩) hr3) rfl rfl rfl rfl ?_
 rintro w6 us2 ⟨rfl,h⟩
 dsimp only at h
 refine X0 2 rfl ?_
 replace h:=h.pick [2,0,1,3,4] rfl
 obtain ⟨S3,S4,S5,S6,h⟩:=qgm h
 obtain ⟨o3,hF,hK1⟩:=qe hF
 refine qq (rL (fun m e w'=>∃ (S7:Nat→Prop) (p6:Option Addr) (ln1:Nat) (k6:Nat) (x1:(List Int)) (S8:Nat→Prop) (p7:Option Addr) (ln2:Nat) (k7:Nat) (x2:(List Int)) (S9:Nat→Prop) (p8:Option Addr) (ln3:Nat) (k8:Nat) (x3:(List Int)) (i7:Int) (i8:Int) (i9:Int),qb7 s m x1 x2 x3 i7 i8 i9=some o3∧e=[(0,.pointer (some ⟨bb1,0,none⟩)),(4,.pointer (some ⟨bb2,0,none⟩)),(5,.pointer (some ⟨bb3,0,none⟩)),(6,.int .i64 i9)]∧SH w0 w' [Ch.own S6 (r1.Ay:List Int) [.slice p5 r1.Ay.length k5],Ch.own S7 (x1:List Int) [.slice p6 ln1 k6],Ch.own S8 (x2:List Int) [.slice p7 ln2 k7],Ch.own S9 (x3:List Int) [.slice p8 ln3 k8],Ch.box bb1 [.slice p1 s.code.length k1,.int .i64 i7,.int .i64 i8] 225,Ch.box bb3 [.slice p8 ln3 k8,.slice p7 ln2 k7,.slice p6 ln1 k6,.slice p5 r1.Ay.length k5] 109,Ch.box bb2 [.slice none 0 0,.slice none 0 0,.slice none 0 0,.slice none 0 0] 109,Ch.grp (old w0) (FS F) [fct (s:Tl01Source) [.slice p1 s.code.length k1,.int .i64 s.at_,.int .i64 s.seed],same w0 w F]]) n ⟨_,_,_,_,_,_,_,_,_,_,_,_,_,_,_,_,_,_,hF,rfl,h⟩ rfl ?_)
 rintro m1 e1 w7 ⟨S7,p6,ln1,k6,x1,S8,p7,ln2,k7,x2,S9,p8,ln3,k8,x3,i7,i8,i9,hF,rfl,h⟩
 obtain rfl:=(h.sl 1 rfl).2
 obtain rfl:=(h.sl 2 rfl).2
 obtain rfl:=(h.sl 3 rfl).2
 rcases m1 with _|m1
 ·cases hF
 refine X0 6 rfl (qm rfl hF ?_ ?_)<;>intro hF
 ·refine X1 10 5 h rfl (rA [25] [5] h rfl fun w8 h=>M4 12946203 [0,1,3,4,8,9,11,15,16,18,22,23] 0 0 0 0 (h.pick [5] rfl) rfl (Ao 2 12946207 rfl (zcL h hF (qer (h.own 3 rfl)) rfl fun r2 w9 S10 p9 k9 h hF=>Ag (h.pick [6] rfl) (Ao 5 12946239 rfl ?_))))
  replace h:=h.pick [5,0,1,2,3,4,6,7,8] rfl
  obtain ⟨o4,hr5,hF⟩:=qe hF
  obtain ⟨i10,i11,i12⟩:=o4
  refine qt (cB 132 rfl) (qh (a_0:=(⟨s.code,i7,i8⟩:Tl01Source)) (a_1:=(x3.length:Int)) h (show GoT.R _ _ ((⟨s.code,i7,i8⟩:Tl01Source):Tl01Source) _ from ⟨[.slice p1 s.code.length k1],[.int .i64 i7,.int .i64 i8],rfl,⟨_,_,rfl,(qf (h.frG 8 0 1 rfl rfl rfl)).1⟩,⟨[.int .i64 i7],[.int .i64 i8],rfl,rfl,rfl⟩⟩) hr5) rfl rfl rfl rfl ?_
  rintro w10 us3 ⟨rfl,h⟩
  dsimp only at h
  refine Ag (h.pick [6] rfl) (Ao 6 12946303 rfl (ql qb [.tmp 27] _ ([i10]:List Int) h rfl rfl rfl rfl rfl rfl rfl rfl rfl ⟨rfl,trivial⟩ rfl fun w11 p10 S11 h=>Ag (h.pick [7] rfl) (Ao 7 12946431 rfl ?_)))
  obtain ⟨x4,hx1,hF⟩:=qe hF
  obtain ⟨g1,hx1⟩:=qw hx1
  refine qak qb 2 h rfl (h.sl 0 rfl).1 (h.sl 0 rfl).2 rfl rfl rfl rfl rfl rfl rfl rfl rfl g1 hx1 rfl fun w12 p11 k10 S12 h=>Ag (h.pick [7] rfl) (Ao 10 12947455 rfl (zcL h hF (qer (h.own 5 rfl)) rfl fun r3 w13 S13 p12 k11 h hF=>Ag (h.pick [8] rfl) (Ao 12 12951551 rfl ?_)))
  replace h:=h.pick [2,0,1,3,4,5,6,7,8,9,10] rfl
  obtain ⟨o5,hr7,hF⟩:=qe hF
  obtain ⟨i13,i14,i15⟩:=o5
  refine qt (cB 132 rfl) (qh (a_0:=(⟨s.code,i11,i12⟩:Tl01Source)) (a_1:=400) h (show GoT.R _ _ ((⟨s.code,i11,i12⟩:Tl01Source):Tl01Source) _ from ⟨[.slice p1 s.code.length k1],[.int .i64 i11,.int .i64 i12],rfl,⟨_,_,rfl,(qf (h.frG 10 0 1 rfl rfl rfl)).1⟩,⟨[.int .i64 i11],[.int .i64 i12],rfl,rfl,rfl⟩⟩) hr7) rfl rfl rfl rfl ?_
  rintro w14 us4 ⟨rfl,h⟩
  dsimp only at h
  refine Ag (h.pick [8] rfl) (Ao 13 12959743 rfl (ql qb [.tmp 34] _ ([i13]:List Int) h rfl rfl rfl rfl rfl rfl rfl rfl rfl ⟨rfl,trivial⟩ rfl fun w15 p13 S14 h=>Ag (h.pick [9] rfl) (Ao 14 12976127 rfl ?_)))
  obtain ⟨x5,hx2,hF⟩:=qe hF
  obtain ⟨g2,hx2⟩:=qw hx2
  refine qak qb 2 h rfl (h.sl 0 rfl).1 (h.sl 0 rfl).2 rfl rfl rfl rfl rfl rfl rfl rfl rfl g2 hx2 rfl fun w16 p14 k12 S15 h=>Ag (h.pick [9] rfl) (Ao 17 13107199 rfl (zcL h hF (qer (h.own 6 rfl)) rfl fun r4 w17 S16 p15 k13 h hF=>Ag (h.pick [10] rfl) (Ao 19 13631487 rfl ?_)))
  replace h:=h.pick [2,0,1,3,4,5,6,7,8,9,10,11,12] rfl
  obtain ⟨o6,hr9,hF⟩:=qe hF
  obtain ⟨i16,i17,i18⟩:=o6
  refine qt (cB 132 rfl) (qh (a_0:=(⟨s.code,i14,i15⟩:Tl01Source)) (a_1:=8) h (show GoT.R _ _ ((⟨s.code,i14,i15⟩:Tl01Source):Tl01Source) _ from ⟨[.slice p1 s.code.length k1],[.int .i64 i14,.int .i64 i15],rfl,⟨_,_,rfl,(qf (h.frG 12 0 1 rfl rfl rfl)).1⟩,⟨[.int .i64 i14],[.int .i64 i15],rfl,rfl,rfl⟩⟩) hr9) rfl rfl rfl rfl ?_
  rintro w18 us5 ⟨rfl,h⟩
  dsimp only at h
  refine Ag (h.pick [10] rfl) (Ao 20 14680063 rfl (ql qb [.tmp 41] _ ([i16]:List Int) h rfl rfl rfl rfl rfl rfl rfl rfl rfl ⟨rfl,trivial⟩ rfl fun w19 p16 S17 h=>Ag (h.pick [11] rfl) (Ao 21 16777215 rfl ?_)))
  obtain ⟨x6,hx3,hF⟩:=qe hF
  obtain ⟨g3,hx3⟩:=qw hx3
  refine qak qb 2 h rfl (h.sl 0 rfl).1 (h.sl 0 rfl).2 rfl rfl rfl rfl rfl rfl rfl rfl rfl g3 hx3 rfl fun w20 p17 k14 S18 h=>Ag (h.pick [11] rfl) (Aw 24 33554431 (fun w' hw=>qah qb [0,1,2,3] [.tmp 29,.tmp 36,.tmp 43,.tmp 45] rfl rfl rfl rfl rfl rfl rfl rfl) (h.pick [11] rfl) rfl ?_)
  refine Ao 25 67108863 rfl (zs 11 h rfl fun w21 h=>qdR (fun hs=>absurd (hs 25 (by decide)) (by decide)) (Ad (X0 6 rfl ?_)))
  replace h:=h.pick [7,2,4,6,1,11,12,13] rfl
  exact rK ⟨_,_,_,_,_,_,_,_,_,_,_,_,_,_,_,_,_,_,hF,rfl,h⟩ rfl
 refine qy rfl ?_
 obtain rfl:=qd hF;replace hF:=hK1
 refine X0 5 rfl ?_
 obtain ⟨o7,hF,hK2⟩:=qe hF
 refine qq (rL (fun m e w'=>∃ (x7:(List Int)) (i19:Int) (i20:Int) (i21:Int),qb6 s r1 x3 m x7 i19 i20 i21=some o7∧e=[(0,.pointer (some ⟨bb1,0,none⟩)),(4,.pointer (some ⟨bb2,0,none⟩)),(5,.pointer (some ⟨bb3,0,none⟩)),(8,.int .i64 i21)]∧SH w0 w' [Ch.own S6 (x7:List Int) [.slice p5 r1.Ay.length k5],Ch.own S7 (x1:List Int) [.slice p6 x1.length k6],Ch.own S8 (x2:List Int) [.slice p7 x2.length k7],Ch.own S9 (x3:List Int) [.slice p8 x3.length k8],Ch.box bb1 [.slice p1 s.code.length k1,.int .i64 i19,.int .i64 i20] 225,Ch.box bb3 [.slice p8 x3.length k8,.slice p7 x2.length k7,.slice p6 x1.length k6,.slice p5 r1.Ay.length k5] 109,Ch.box bb2 [.slice none 0 0,.slice none 0 0,.slice none 0 0,.slice none 0 0] 109,Ch.grp (old w0) (FS F) [fct (s:Tl01Source) [.slice p1 s.code.length k1,.int .i64 s.at_,.int .i64 s.seed],same w0 w F]]) n ⟨_,_,_,_,hF,rfl,h⟩ rfl ?_)
 rintro m2 e2 w22 ⟨x7,i19,i20,i21,hF,rfl,h⟩
 rcases m2 with _|m2
 ·cases hF
 refine X1 9 5 h rfl (qm rfl hF ?_ ?_)<;>intro hF
 ·refine zKSB (rA [] [5] h rfl fun w23 h=>M2 127 [0,1,2,3,4,5,6] 0 0 (h.pick [5] rfl) rfl (Ao 7 255 rfl ?_))
  replace h:=h.pick [4,0,1,2,3,5,6,7] rfl
  obtain ⟨o8,hr10,hF⟩:=qe hF
  obtain ⟨i22,i23,i24⟩:=o8
  refine qt (cB 132 rfl) (qh (a_0:=(⟨s.code,i19,i20⟩:Tl01Source)) (a_1:=(x3.length:Int)) h (show GoT.R _ _ ((⟨s.code,i19,i20⟩:Tl01Source):Tl01Source) _ from ⟨[.slice p1 s.code.length k1],[.int .i64 i19,.int .i64 i20],rfl,⟨_,_,rfl,(qf (h.frG 7 0 1 rfl rfl rfl)).1⟩,⟨[.int .i64 i19],[.int .i64 i20],rfl,rfl,rfl⟩⟩) hr10) rfl rfl rfl rfl ?_
  rintro w24 us6 ⟨rfl,h⟩
  dsimp only at h
  refine Ag (h.pick [5] rfl) ?_
  obtain ⟨y1,hy1,hF,he1,b1,_,q1,cs3,hp1,hq1,rfl,hc3⟩:=(h.sl 1 rfl).1.ix hF
  refine Ax 8 511 hp1 hq1 ⟨he1.1,qN he1.2.1 (h.sl 1 rfl).2⟩ (h.pick [5] rfl) rfl (Ao 9 1023 rfl (qdF qb 1 0 i22 h rfl hy1 hp1 hq1 rfl hc3 rfl rfl rfl rfl rfl rfl rfl fun w25 h=>Ag (h.pick [5] rfl) (Ad (X0 6 rfl ?_))))
  replace h:=h.pick [1,2,3,4,0,5,6,7] rfl
  exact rK ⟨_,_,_,_,hF,rfl,h⟩ rfl
 refine qy rfl ?_
 obtain rfl:=qd hF;replace hF:=hK2
 refine X1 3 5 h rfl (zs 6 h rfl fun w26 h=>qa5 ?_)
 have hk1:=h
 obtain ⟨S19,h⟩:=h.gather [4,5,6,7] (qhS (⟨x3,x2,x1,x7⟩:qW) h (qB 3 h rfl) (qB 2 h rfl) (qB 1 h rfl) (qB 0 h rfl) (by rfl) (by rfl) (by rfl)) rfl
 obtain rfl:=qd hF
 replace h:=h.pick [0,1,4] rfl
 exact qbd qb [GoT.v qW [.slice p8 x3.length k8,.slice p7 x2.length k7,.slice p6 x1.length k6,.slice p5 r1.Ay.length k5]] ⟨⟨_,_,_,rfl,rfl,hk1.box 6 rfl,rfl⟩,trivial⟩ ⟨_,_,rfl,SH.unfr 1 1 h0 h rfl rfl⟩
end Go.Fw


namespace Go.Fw
open Go Go.Proofs
open Go.RowKit (Below)
set_option maxRecDepth 100000
set_option maxHeartbeats 6400000
variable {n:Nat} {w:World} {cs1 cs2 cs3 cs4 cs5 cs6 cs7 cs8 cs9:List Value}
def qdt (s:Tl01Source) (r2:qg):Nat→(List qW)→Int→Int→Int→Option ((List qW) × Int × Int × Int)
 | 0,_,_,_,_=>none
 | n+1,x1,i5,i6,i7 =>
  bif decide (i7<(r2.Aj.length:Int)) then
   (qes n r2 i7).bind fun r3 =>
   (qe3 n (⟨s.code,i5,i6⟩:Tl01Source) (r3.length:Int)).bind fun o=>match o with
    | (r4,i8,i9) =>
     (appS x1 ([r4]:List qW)).bind fun x2 =>
     qdt s r2 n x2 i8 i9 (W64 (i7+1))
  else
   some (x1,i5,i6,i7)
def qfK (n:Nat) (s:Tl01Source) (most:Int) (wild:Bool):Option (qc × Int × Int) :=
 (qgR n (⟨s.code,s.at_,s.seed⟩:Tl01Source)).bind fun o=>match o with
  | (r1,i1,i2) =>
   (qgJ n (⟨s.code,i1,i2⟩:Tl01Source) most wild).bind fun o=>match o with
    | (r2,i3,i4) =>
     (qdt s r2 n ([]:List qW) i3 i4 0).bind fun o=>match o with
     | (x1,i5,i6,_) =>
      some ((⟨r1,r2,x1⟩:qc),i5,i6)
theorem qhM {n:Nat} {w0 w:World} {F:List Ch} {s:Tl01Source} {bb1:Nat} {p1:Option Addr} {k1:Nat} {most:Int} {wild:Bool} (h0:SH w0 w (Ch.box bb1 (qaf s p1 k1) 225::F)) (ha1:GoT.R w (Fr w0 F) s [.slice p1 s.code.length k1,.int .i64 s.at_,.int .i64 s.seed]) {r:(qc × Int × Int)} (hF:qfK n s most wild=some r):RetW Tryz.prog 160 [.pointer (some ⟨bb1,0,none⟩),.int .i64 most,.bool wild] w (fun us w'=>∃ (S1:Nat→Prop) (cs1:List Value),us=[GoT.v qc cs1]∧SH w0 w' (Ch.own S1 (r.1:qc) cs1::Ch.box bb1 [.slice p1 s.code.length k1,.int .i64 r.2.1,.int .i64 r.2.2] 225::F)):=by
 have h:=SH.frm1 h0 ha1
 refine qa7 Tryz.func160 rfl (m:=38) rfl rfl (zSR (qx qb h rfl rfl rfl fun w1 bb2 h=>X0 4 rfl ?_))
 replace h:=h.pick [1,0,2] rfl
 obtain ⟨o1,hr1,hF⟩:=qe hF
 obtain ⟨r1,i1,i2⟩:=o1
 refine qt (cB 189 rfl) (qjX (s:=(⟨s.code,s.at_,s.seed⟩:Tl01Source)) h (show GoT.R _ _ ((⟨s.code,s.at_,s.seed⟩:Tl01Source):Tl01Source) _ from ⟨[.slice p1 s.code.length k1],[.int .i64 s.at_,.int .i64 s.seed],rfl,⟨_,_,rfl,(qf (h.frG 2 0 1 rfl rfl rfl)).1⟩,⟨[.int .i64 s.at_],[.int .i64 s.seed],rfl,rfl,rfl⟩⟩) hr1) rfl rfl rfl rfl ?_
 rintro w2 us1 ⟨S2,cs2,rfl,h⟩
 obtain ⟨p2,k2,rfl,-⟩:=qaK (h.own 0 rfl)
 replace h:SH _ _ [Ch.own S2 (r1:qj) [.slice p2 r1.Ai.length k2],Ch.box bb1 [.slice p1 s.code.length k1,.int .i64 i1,.int .i64 i2] 225,Ch.box bb2 [.slice none 0 0,.slice none 0 0,.slice none 0 0,.slice none 0 0,.slice none 0 0] 48,Ch.grp (old w0) (FS F) [fct (s:Tl01Source) [.slice p1 s.code.length k1,.int .i64 s.at_,.int .i64 s.seed],same w0 w F]]:=h
 refine qx qb h rfl rfl rfl fun w3 bb3 h=>zs 0 h rfl fun w4 h=>X0 6 rfl ?_
 replace h:=h.pick [2,0,1,3,4] rfl
 obtain ⟨o2,hr2,hF⟩:=qe hF
 obtain ⟨r2,i3,i4⟩:=o2
 refine qt (cB 190 rfl) (qjW (a_0:=(⟨s.code,i1,i2⟩:Tl01Source)) (a_1:=most) (a_2:=wild) h (show GoT.R _ _ ((⟨s.code,i1,i2⟩:Tl01Source):Tl01Source) _ from ⟨[.slice p1 s.code.length k1],[.int .i64 i1,.int .i64 i2],rfl,⟨_,_,rfl,(qf (h.frG 4 0 1 rfl rfl rfl)).1⟩,⟨[.int .i64 i1],[.int .i64 i2],rfl,rfl,rfl⟩⟩) hr2) rfl rfl rfl rfl ?_
 rintro w5 us2 ⟨S3,cs3,rfl,h⟩
 obtain ⟨p3,k3,p4,k4,p5,k5,rfl,-,-,-⟩:=qZ (h.own 0 rfl)
 replace h:SH _ _ [Ch.own S3 (r2:qg) (qal r2 p3 p4 p5 k3 k4 k5),Ch.box bb1 [.slice p1 s.code.length k1,.int .i64 i3,.int .i64 i4] 225,Ch.box bb3 [.slice p2 r1.Ai.length k2] 41,Ch.own S2 (r1:qj) [.slice p2 r1.Ai.length k2],Ch.box bb2 [.slice none 0 0,.slice none 0 0,.slice none 0 0,.slice none 0 0,.slice none 0 0] 48,Ch.grp (old w0) (FS F) [fct (s:Tl01Source) [.slice p1 s.code.length k1,.int .i64 s.at_,.int .i64 s.seed],same w0 w F]]:=h
 refine qx qb h rfl rfl rfl fun w6 bb4 h=>zs 0 h rfl fun w7 h=>zNSR (qdf qb [] _ ([]:List qW) [0,1,2,3,4,5,6] h rfl rfl rfl rfl rfl rfl rfl rfl rfl qe6 rfl rfl fun w8 p6 S4 h=>X0 7 rfl ?_)
 obtain ⟨o3,hF,hK1⟩:=qe hF
 refine qq (rL (fun m e w'=>∃ (S5:Nat→Prop) (p7:Option Addr) (ln1:Nat) (k6:Nat) (x1:(List qW)) (i5:Int) (i6:Int) (i7:Int),qdt s r2 m x1 i5 i6 i7=some o3∧e=[(0,.pointer (some ⟨bb1,0,none⟩)),(6,.pointer (some ⟨bb2,0,none⟩)),(7,.pointer (some ⟨bb3,0,none⟩)),(8,.pointer (some ⟨bb4,0,none⟩)),(9,.slice p7 ln1 k6),(10,.int .i64 i7)]∧SH w0 w' [Ch.own S5 (x1:List qW) [.slice p7 ln1 k6],Ch.box bb4 (qal r2 p3 p4 p5 k3 k4 k5) 45,Ch.own S3 (r2:qg) (qal r2 p3 p4 p5 k3 k4 k5),Ch.box bb1 [.slice p1 s.code.length k1,.int .i64 i5,.int .i64 i6] 225,Ch.box bb3 [.slice p2 r1.Ai.length k2] 41,Ch.own S2 (r1:qj) [.slice p2 r1.Ai.length k2],Ch.box bb2 [.slice none 0 0,.slice none 0 0,.slice none 0 0,.slice none 0 0,.slice none 0 0] 48,Ch.grp (old w0) (FS F) [fct (s:Tl01Source) [.slice p1 s.code.length k1,.int .i64 s.at_,.int .i64 s.seed],same w0 w F]]) n ⟨_,_,_,_,_,_,_,_,hF,rfl,h⟩ rfl ?_)
 rintro m1 e1 w9 ⟨S5,p7,ln1,k6,x1,i5,i6,i7,hF,rfl,h⟩
 obtain rfl:=(h.sl 0 rfl).2
 rcases m1 with _|m1
 ·cases hF
 refine X1 9 1 h rfl (qm rfl hF ?_ ?_)<;>intro hF
 ·refine X1 8 1 h rfl (zcL h hF (qga (h.own 2 rfl)) rfl fun r3 w10 S6 p8 k7 h hF=>zp1 rfl ?_)
  replace h:=h.pick [4,0,1,2,3,5,6,7,8] rfl
  obtain ⟨o4,hr4,hF⟩:=qe hF
  obtain ⟨r4,i8,i9⟩:=o4
  refine qt (cB 191 rfl) (qiv (s:=(⟨s.code,i5,i6⟩:Tl01Source)) (sinks:=(r3.length:Int)) h (show GoT.R _ _ ((⟨s.code,i5,i6⟩:Tl01Source):Tl01Source) _ from ⟨[.slice p1 s.code.length k1],[.int .i64 i5,.int .i64 i6],rfl,⟨_,_,rfl,(qf (h.frG 8 0 1 rfl rfl rfl)).1⟩,⟨[.int .i64 i5],[.int .i64 i6],rfl,rfl,rfl⟩⟩) hr4) rfl rfl rfl rfl ?_
  rintro w11 us3 ⟨S7,cs4,rfl,h⟩
  obtain ⟨p9,k8,p10,k9,p11,k10,p12,k11,rfl,-,-,-,-⟩:=qbR (h.own 0 rfl)
  replace h:SH _ _ [Ch.own S7 (r4:qW) (qfq r4 p9 p10 p11 p12 k8 k9 k10 k11),Ch.box bb1 [.slice p1 s.code.length k1,.int .i64 i8,.int .i64 i9] 225,Ch.own S6 (r3:List Int) [.slice p8 r3.length k7],Ch.own S5 (x1:List qW) [.slice p7 x1.length k6],Ch.box bb4 (qal r2 p3 p4 p5 k3 k4 k5) 45,Ch.own S3 (r2:qg) (qal r2 p3 p4 p5 k3 k4 k5),Ch.box bb3 [.slice p2 r1.Ai.length k2] 41,Ch.own S2 (r1:qj) [.slice p2 r1.Ai.length k2],Ch.box bb2 [.slice none 0 0,.slice none 0 0,.slice none 0 0,.slice none 0 0,.slice none 0 0] 48,Ch.grp (old w0) (FS F) [fct (s:Tl01Source) [.slice p1 s.code.length k1,.int .i64 s.at_,.int .i64 s.seed],same w0 w F]]:=h
  refine qdf qb [.tmp 31] _ ([r4]:List qW) [1,2,3,4,5,6,7,8,9] h rfl rfl rfl rfl rfl rfl rfl rfl rfl (qbQ (qB 0 h rfl) qe6 rfl) rfl rfl fun w12 p13 S8 h=>?_
  obtain ⟨x2,hx1,hF⟩:=qe hF
  obtain ⟨g1,hx1⟩:=qw hx1
  replace h:=h.pick [0,3,1,2,4,5,6,7,8,9] rfl
  refine qi0 qb h rfl rfl rfl rfl rfl rfl rfl rfl rfl g1 hx1 rfl fun w13 p14 k12 S9 h=>X0 8 rfl ?_
  replace h:=h.pick [0,3,4,1,5,6,7,8] rfl
  exact rK ⟨_,_,_,_,_,_,_,_,hF,rfl,h⟩ rfl
 refine qy rfl ?_
 obtain rfl:=qd hF;replace hF:=hK1
 refine X2 5 4 1 h rfl (r_v (qah qb [0,1,2] [.tmp 34,.tmp 35,.tmp 36] rfl rfl rfl rfl rfl rfl rfl rfl) rfl (zs 6 h rfl fun w14 h=>qa5 ?_))
 have hk1:=h
 obtain ⟨S10,h⟩:=h.gather [1,3,4,6,7] (qop (⟨r1,r2,x1⟩:qc) h (qB 5 h rfl) (qB 2 h rfl) (qB 0 h rfl) (by rfl) (by rfl)) rfl
 obtain rfl:=qd hF
 replace h:=h.pick [0,2,5] rfl
 exact qbd qb [GoT.v qc [.slice p2 r1.Ai.length k2,.slice p3 r2.Ab.length k3,.slice p4 r2.Aj.length k4,.slice p5 r2.Af.length k5,.slice p7 x1.length k6]] ⟨⟨_,_,_,rfl,rfl,hk1.box 6 rfl,rfl⟩,trivial⟩ ⟨_,_,rfl,SH.unfr 1 1 h0 h rfl rfl⟩
def qfr (n:Nat) (a_0:Tl01Source):Option (qc × Int × Int) :=
 (qk n (⟨a_0.code,a_0.at_,a_0.seed⟩:Tl01Source) 3).bind fun o=>match o with
  | (i1,i2,i3) =>
   (qfK n (⟨a_0.code,i2,i3⟩:Tl01Source) 6 (i1==0)).bind fun o=>match o with
    | (r1,i4,i5) =>
     (qk n (⟨a_0.code,i4,i5⟩:Tl01Source) (r1.Ah.length:Int)).bind fun o=>match o with
      | (i6,i7,i8) =>
       (qk n (⟨a_0.code,i7,i8⟩:Tl01Source) 20).bind fun o=>match o with
        | (i9,i10,i11) =>
         bif (i9==0) then
          (subS r1.Ah 1 (r1.Ah.length:Int)).bind fun x1 =>
          some ((⟨(⟨r1.Ac.Ai⟩:qj),(⟨r1.Aa.Ab,r1.Aa.Aj,r1.Aa.Af⟩:qg),x1⟩:qc),i10,i11)
         else
          bif (i9==1) then
           (idx r1.Ah i6).bind fun y1 =>
           (qen n y1.Ay).bind fun r2 =>
           (appS r2 ([0]:List Int)).bind fun x2 =>
           some ((⟨r1.Ac,r1.Aa,(setS r1.Ah i6 (⟨y1.Ak,y1.Bh,y1.Be,x2⟩:qW))⟩:qc),i10,i11)
          else
           bif (i9==2) then
            (idx r1.Ah i6).bind fun y2 =>
            (idx y2.Bh 0).bind fun _ =>
            some ((⟨r1.Ac,r1.Aa,(setS r1.Ah i6 (⟨y2.Ak,(setS y2.Bh 0 1),y2.Be,y2.Ay⟩:qW))⟩:qc),i10,i11)
           else
            bif (i9==3) then
             (idx r1.Ah i6).bind fun y4 =>
             (qk n (⟨a_0.code,i10,i11⟩:Tl01Source) 3).bind fun o=>match o with
              | (i12,i13,i14) =>
               (idx ([(-1),500,501]:List Int) i12).bind fun y5 =>
               (idx y4.Be 0).bind fun _ =>
               some ((⟨r1.Ac,r1.Aa,(setS r1.Ah i6 (⟨y4.Ak,y4.Bh,(setS y4.Be 0 y5),y4.Ay⟩:qW))⟩:qc),i13,i14)
            else
             bif (i9==4) then
              (idx r1.Ah i6).bind fun y7 =>
              (qk n (⟨a_0.code,i10,i11⟩:Tl01Source) 5).bind fun o=>match o with
               | (i15,i16,i17) =>
                (idx y7.Ak (W64 ((y7.Ak.length:Int)-1))).bind fun _ =>
                some ((⟨r1.Ac,r1.Aa,(setS r1.Ah i6 (⟨(setS y7.Ak (W64 ((y7.Ak.length:Int)-1)) (W64 (i15-1))),y7.Bh,y7.Be,y7.Ay⟩:qW))⟩:qc),i16,i17)
             else
              bif (i9==5) then
               (idx r1.Aa.Af 0).bind fun y9 =>
               some ((⟨r1.Ac,(⟨r1.Aa.Ab,r1.Aa.Aj,(setS r1.Aa.Af 0 ({ y9 with Bl:=3 }))⟩:qg),r1.Ah⟩:qc),i10,i11)
              else
               some (r1,i10,i11)
theorem qjh {n:Nat} {w0 w:World} {F:List Ch} {a_0:Tl01Source} {bb1:Nat} {p1:Option Addr} {k1:Nat} (h0:SH w0 w (Ch.box bb1 (qaf a_0 p1 k1) 225::F)) (ha1:GoT.R w (Fr w0 F) a_0 [.slice p1 a_0.code.length k1,.int .i64 a_0.at_,.int .i64 a_0.seed]) {r:(qc × Int × Int)} (hF:qfr n a_0=some r):RetW Tryz.prog 159 [.pointer (some ⟨bb1,0,none⟩)] w (fun us w'=>∃ (S1:Nat→Prop) (cs1:List Value),us=[GoT.v qc cs1]∧SH w0 w' (Ch.grp (fun _=>False) S1 [fct (r.1:qc) cs1]::Ch.box bb1 [.slice p1 a_0.code.length k1,.int .i64 r.2.1,.int .i64 r.2.2] 225::F)):=by
 have h:=SH.frm1 h0 ha1
 refine qa7 Tryz.func159 rfl (m:=90) rfl rfl (zSR (qx qb h rfl rfl rfl fun w1 bb2 h=>X0 5 rfl ?_))
 replace h:=h.pick [1,0,2] rfl
 obtain ⟨o1,hr1,hF⟩:=qe hF
 obtain ⟨i1,i2,i3⟩:=o1
 refine qt (cB 132 rfl) (qh (a_0:=(⟨a_0.code,a_0.at_,a_0.seed⟩:Tl01Source)) (a_1:=3) h (show GoT.R _ _ ((⟨a_0.code,a_0.at_,a_0.seed⟩:Tl01Source):Tl01Source) _ from ⟨[.slice p1 a_0.code.length k1],[.int .i64 a_0.at_,.int .i64 a_0.seed],rfl,⟨_,_,rfl,(qf (h.frG 2 0 1 rfl rfl rfl)).1⟩,⟨[.int .i64 a_0.at_],[.int .i64 a_0.seed],rfl,rfl,rfl⟩⟩) hr1) rfl rfl rfl rfl ?_
 rintro w2 us1 ⟨rfl,h⟩
 dsimp only at h
 refine zp1 rfl ?_
 obtain ⟨o2,hr2,hF⟩:=qe hF
 obtain ⟨r1,i4,i5⟩:=o2
 refine qt (cB 160 rfl) (qhM (s:=(⟨a_0.code,i2,i3⟩:Tl01Source)) (most:=6) (wild:=(i1==0)) h (show GoT.R _ _ ((⟨a_0.code,i2,i3⟩:Tl01Source):Tl01Source) _ from ⟨[.slice p1 a_0.code.length k1],[.int .i64 i2,.int .i64 i3],rfl,⟨_,_,rfl,(qf (h.frG 2 0 1 rfl rfl rfl)).1⟩,⟨[.int .i64 i2],[.int .i64 i3],rfl,rfl,rfl⟩⟩) hr2) rfl rfl rfl rfl ?_
 rintro w3 us2 ⟨S2,cs2,rfl,h⟩
 obtain ⟨p2,k2,p3,k3,p4,k4,p5,k5,p6,k6,rfl,-,-,-,-,-⟩:=qT (h.own 0 rfl)
 replace h:SH _ _ [Ch.own S2 (r1:qc) (qz r1 p2 p3 p4 p5 p6 k2 k3 k4 k5 k6),Ch.box bb1 [.slice p1 a_0.code.length k1,.int .i64 i4,.int .i64 i5] 225,Ch.box bb2 [.slice none 0 0,.slice none 0 0,.slice none 0 0,.slice none 0 0,.slice none 0 0] 48,Ch.grp (old w0) (FS F) [fct (a_0:Tl01Source) [.slice p1 a_0.code.length k1,.int .i64 a_0.at_,.int .i64 a_0.seed],same w0 w F]]:=h
 refine qx qb h rfl rfl rfl fun w4 bb3 h=>zs 0 h rfl fun w5 h=>X1 7 0 h rfl ?_
 replace h:=h.pick [2,0,1,3,4] rfl
 obtain ⟨o3,hr3,hF⟩:=qe hF
 obtain ⟨i6,i7,i8⟩:=o3
 refine qt (cB 132 rfl) (qh (a_0:=(⟨a_0.code,i4,i5⟩:Tl01Source)) (a_1:=(r1.Ah.length:Int)) h (show GoT.R _ _ ((⟨a_0.code,i4,i5⟩:Tl01Source):Tl01Source) _ from ⟨[.slice p1 a_0.code.length k1],[.int .i64 i4,.int .i64 i5],rfl,⟨_,_,rfl,(qf (h.frG 4 0 1 rfl rfl rfl)).1⟩,⟨[.int .i64 i4],[.int .i64 i5],rfl,rfl,rfl⟩⟩) hr3) rfl rfl rfl rfl ?_
 rintro w6 us3 ⟨rfl,h⟩
 dsimp only at h
 refine X0 6 rfl ?_
 obtain ⟨o4,hr4,hF⟩:=qe hF
 obtain ⟨i9,i10,i11⟩:=o4
 refine qt (cB 132 rfl) (qh (a_0:=(⟨a_0.code,i7,i8⟩:Tl01Source)) (a_1:=20) h (show GoT.R _ _ ((⟨a_0.code,i7,i8⟩:Tl01Source):Tl01Source) _ from ⟨[.slice p1 a_0.code.length k1],[.int .i64 i7,.int .i64 i8],rfl,⟨_,_,rfl,(qf (h.frG 4 0 1 rfl rfl rfl)).1⟩,⟨[.int .i64 i7],[.int .i64 i8],rfl,rfl,rfl⟩⟩) hr4) rfl rfl rfl rfl ?_
 rintro w7 us4 ⟨rfl,h⟩
 dsimp only at h
 refine X0 7 rfl (qm rfl hF ?_ ?_)<;>intro hF
 ·refine X1 3 1 h rfl ?_
  obtain ⟨x1,hx1,hF⟩:=qe hF
  obtain ⟨p7,k7,hp1,hk1,hl1,g1⟩:=qld (qfz (h.own 2 rfl)).2.2.2.2.1 hx1
  refine r_v (qiF qb rfl rfl rfl (qln g1 (qfz (h.own 2 rfl)).2.2.2.2.2) hp1 hk1 hl1 rfl rfl rfl rfl) rfl (zp1 rfl (zs 1 h rfl fun w8 h=>X1 5 1 h rfl (zs 3 h rfl fun w9 h=>qa5 ?_)))
  have hk2:=h
  replace h:=h.frzI 2 rfl
  replace h:=h.grpAdd 2 rfl (x:=((⟨(⟨r1.Ac.Ai⟩:qj),(⟨r1.Aa.Ab,r1.Aa.Aj,r1.Aa.Af⟩:qg),x1⟩:qc):qc)) (show GoT.R _ _ ((⟨(⟨r1.Ac.Ai⟩:qj),(⟨r1.Aa.Ab,r1.Aa.Aj,r1.Aa.Af⟩:qg),x1⟩:qc):qc) _ from ⟨[.slice p2 r1.Ac.Ai.length k2],[.slice p3 r1.Aa.Ab.length k3,.slice p4 r1.Aa.Aj.length k4,.slice p5 r1.Aa.Af.length k5,.slice p7 x1.length k7],rfl,⟨_,_,rfl,(qfz (h.grpS 2 0 rfl rfl)).1.1⟩,⟨[.slice p3 r1.Aa.Ab.length k3,.slice p4 r1.Aa.Aj.length k4,.slice p5 r1.Aa.Af.length k5],[.slice p7 x1.length k7],rfl,⟨[.slice p3 r1.Aa.Ab.length k3],[.slice p4 r1.Aa.Aj.length k4,.slice p5 r1.Aa.Af.length k5],rfl,⟨_,_,rfl,(qfz (h.grpS 2 0 rfl rfl)).2.1.1⟩,⟨[.slice p4 r1.Aa.Aj.length k4],[.slice p5 r1.Aa.Af.length k5],rfl,⟨_,_,rfl,(qfz (h.grpS 2 0 rfl rfl)).2.2.1.1⟩,⟨_,_,rfl,(qfz (h.grpS 2 0 rfl rfl)).2.2.2.1.1⟩⟩⟩,⟨_,_,rfl,(qkV (qfz (h.grpS 2 0 rfl rfl)).2.2.2.2.1 hx1 hp1 hk1)⟩⟩⟩)
  replace h:=h.grpKeep [0] 2 rfl
  obtain rfl:=qd hF
  replace h:=h.pick [2,0,4] rfl
  exact qbd qb [GoT.v qc [.slice p2 r1.Ac.Ai.length k2,.slice p3 r1.Aa.Ab.length k3,.slice p4 r1.Aa.Aj.length k4,.slice p5 r1.Aa.Af.length k5,.slice p7 x1.length k7]] ⟨⟨_,_,_,rfl,rfl,hk2.box 3 rfl,rfl⟩,trivial⟩ ⟨_,_,rfl,SH.unfr 1 1 h0 h rfl rfl⟩
 refine X0 5 rfl (qm rfl hF ?_ ?_)<;>intro hF
 ·replace h:=h.pick [2,0,1,3,4] rfl
  obtain ⟨S3,S4,S5,h⟩:=qfl h
  obtain ⟨y1,hy1,hF⟩:=qe hF
  have he1:=qax hy1
  obtain ⟨S6,S7,cs3,h⟩:=h.take hy1
  obtain ⟨p8,k8,p9,k9,p10,k10,p11,k11,rfl,-,-,-,-⟩:=qbR (h.own 0 rfl)
  obtain ⟨S8,S9,S10,S11,h⟩:=qgm h
  refine rA [14] [4,8] h rfl fun w10 h=>M2 63 [0,1,2,3,4,5] 1 1 (h.pick [4,8] rfl) rfl ?_
  obtain ⟨b1,hp2,-,-,hl3⟩:=h.holeAt 4 rfl
  obtain ⟨q1,hq1⟩:∃ q,q=0+(i6).toNat*GoT.k qW:=⟨_,rfl⟩
  refine Ax 6 127 hp2 hq1 ⟨he1.1,qN he1.2.1 hl3⟩ (h.pick [4,8] rfl) rfl (M0 255 [7] (h.pick [4,8] rfl) rfl (Aw 8 511 (fun w' hw=>qeJ qb (qfy hw 0 rfl hp2 hq1) (j:=3) rfl rfl rfl) (h.pick [4,8] rfl) rfl ?_))
  obtain ⟨r2,hr5,hF⟩:=qe hF
  obtain ⟨x2,hx2,hF⟩:=qe hF
  refine qjx (fun e w'=>∃ (S22:Nat→Prop) (p22:Option Addr) (k19:Nat),e=[(2,.pointer (some ⟨bb2,0,none⟩)),(3,.pointer (some ⟨bb3,0,none⟩))]∧SH w0 w' [Ch.own S22 (x2:List Int) [.slice p22 x2.length k19],Ch.own S10 (y1.Be:List Int) [.slice p10 y1.Be.length k10],Ch.own S9 (y1.Bh:List Int) [.slice p9 y1.Bh.length k9],Ch.own S8 (y1.Ak:List Int) [.slice p8 y1.Ak.length k8],Ch.hole S7 (r1.Ah:List qW) p6 r1.Ah.length k6 (i6).toNat [.slice p8 y1.Ak.length k8,.slice p9 y1.Bh.length k9,.slice p10 y1.Be.length k10,.slice p22 x2.length k19],Ch.own S4 (r1.Aa:qg) (qal r1.Aa p3 p4 p5 k3 k4 k5),Ch.own S3 (r1.Ac:qj) [.slice p2 r1.Ac.Ai.length k2],Ch.box bb1 [.slice p1 a_0.code.length k1,.int .i64 i10,.int .i64 i11] 225,Ch.box bb3 (qz r1 p2 p3 p4 p5 p6 k2 k3 k4 k5 k6) 48,Ch.box bb2 [.slice none 0 0,.slice none 0 0,.slice none 0 0,.slice none 0 0,.slice none 0 0] 48,Ch.grp (old w0) (FS F) [fct (a_0:Tl01Source) [.slice p1 a_0.code.length k1,.int .i64 a_0.at_,.int .i64 a_0.seed],same w0 w F]]) 0 (bits 15 32767) ?_ ?_
  ·intro K
   refine At 9 10 1023 1535 rfl ?_ ?_
   ·refine qjL r2 h (cB 188 rfl) (qer (h.own 0 rfl) hr5) rfl rfl rfl rfl fun w20 S19 p19 k17 h=>Ag (h.pick [5,9] rfl) (Ao 10 2047 rfl (ql qb [.const (.int .i64 (0))] _ ([0]:List Int) h rfl rfl rfl rfl rfl rfl rfl rfl rfl ⟨rfl,trivial⟩ rfl fun w21 p20 S20 h=>Ag (h.pick [6,10] rfl) (Ao 11 4095 rfl ?_)))
    obtain ⟨g4,hx2⟩:=qw hx2
    refine qak qb 1 h rfl (h.sl 0 rfl).1 (h.sl 0 rfl).2 rfl rfl rfl rfl rfl rfl rfl rfl rfl g4 hx2 rfl fun w22 p21 k18 S21 h=>Ag (h.pick [6,10] rfl) (Ao 12 8191 rfl ?_)
    obtain ⟨b4,hp5,-,-,hl9⟩:=h.holeAt 6 rfl
    obtain ⟨q4,hq4⟩:∃ q,q=0+(i6).toNat*GoT.k qW:=⟨_,rfl⟩
    refine zx hp5 hq4 ⟨he1.1,qN he1.2.1 hl9⟩ rfl (G0 16383 [13] (h.pick [6,10] rfl) rfl (Ao 14 32767 rfl (qhQ qb 6 3 h rfl hp5 hq4 rfl rfl rfl rfl rfl rfl fun w23 h=>qdR (fun hs=>absurd (hs 14 (by decide)) (by decide)) ?_)))
    replace h:=h.pick [1,3,4,5,6,7,8,9,10,11,12] rfl
    exact qjj [(2,_),(3,_)] ⟨rfl,rfl,trivial⟩ (K _ _ ⟨_,_,_,rfl,h⟩)
   refine ql qb [.const (.int .i64 (0))] _ ([0]:List Int) h rfl rfl rfl rfl rfl rfl rfl rfl rfl ⟨rfl,trivial⟩ rfl fun w20 p19 S19 h=>Ag (h.pick [5,9] rfl) (Ao 9 2047 rfl (qjL r2 h (cB 188 rfl) (qer (h.own 1 rfl) hr5) rfl rfl rfl rfl fun w21 S20 p20 k17 h=>Ag (h.pick [6,10] rfl) (Ao 11 4095 rfl ?_)))
   obtain ⟨g4,hx2⟩:=qw hx2
   refine qak qb 0 h rfl (h.sl 1 rfl).1 (h.sl 1 rfl).2 rfl rfl rfl rfl rfl rfl rfl rfl rfl g4 hx2 rfl fun w22 p21 k18 S21 h=>Ag (h.pick [6,10] rfl) (Ao 12 8191 rfl ?_)
   obtain ⟨b4,hp5,-,-,hl9⟩:=h.holeAt 6 rfl
   obtain ⟨q4,hq4⟩:∃ q,q=0+(i6).toNat*GoT.k qW:=⟨_,rfl⟩
   refine zx hp5 hq4 ⟨he1.1,qN he1.2.1 hl9⟩ rfl (G0 16383 [13] (h.pick [6,10] rfl) rfl (Ao 14 32767 rfl (qhQ qb 6 3 h rfl hp5 hq4 rfl rfl rfl rfl rfl rfl fun w23 h=>?_)))
   replace h:SH _ _ [Ch.own S21 (x2:List Int) [.slice p21 x2.length k18],Ch.own S19 (([0]:List Int):List Int) [.slice p19 1 1],Ch.own S11 (y1.Ay:List Int) [.slice p11 y1.Ay.length k11],Ch.own S10 (y1.Be:List Int) [.slice p10 y1.Be.length k10],Ch.own S9 (y1.Bh:List Int) [.slice p9 y1.Bh.length k9],Ch.own S8 (y1.Ak:List Int) [.slice p8 y1.Ak.length k8],Ch.hole S7 (r1.Ah:List qW) p6 r1.Ah.length k6 (i6).toNat [.slice p8 y1.Ak.length k8,.slice p9 y1.Bh.length k9,.slice p10 y1.Be.length k10,.slice p21 x2.length k18],Ch.own S4 (r1.Aa:qg) (qal r1.Aa p3 p4 p5 k3 k4 k5),Ch.own S3 (r1.Ac:qj) [.slice p2 r1.Ac.Ai.length k2],Ch.box bb1 [.slice p1 a_0.code.length k1,.int .i64 i10,.int .i64 i11] 225,Ch.box bb3 (qz r1 p2 p3 p4 p5 p6 k2 k3 k4 k5 k6) 48,Ch.box bb2 [.slice none 0 0,.slice none 0 0,.slice none 0 0,.slice none 0 0,.slice none 0 0] 48,Ch.grp (old w0) (FS F) [fct (a_0:Tl01Source) [.slice p1 a_0.code.length k1,.int .i64 a_0.at_,.int .i64 a_0.seed],same w0 w F]]:=h
   refine qdR (fun hs=>absurd (hs 14 (by decide)) (by decide)) ?_
   replace h:=h.pick [0,3,4,5,6,7,8,9,10,11,12] rfl
   exact qjj [(2,_),(3,_)] ⟨rfl,rfl,trivial⟩ (K _ _ ⟨_,_,_,rfl,h⟩)
  rintro e2 w24 ⟨S22,p22,k19,rfl,h⟩
  refine Ad (X1 4 8 h rfl (zs 9 h rfl fun w25 h=>qa5 ?_))
  have hk3:=h
  obtain ⟨S23,h⟩:=h.gather [4,5,6,7,8,9,10] (qhS (⟨y1.Ak,y1.Bh,y1.Be,x2⟩:qW) h (qB 3 h rfl) (qB 2 h rfl) (qB 1 h rfl) (qB 0 h rfl) (by rfl) (by rfl) (by rfl)) rfl
  replace h:=h.put
  obtain ⟨S24,h⟩:=qh1 (S:=_) h
  replace h:=h.frzI 2 rfl
  replace h:=h.frzI 1 rfl
  replace h:=h.frzI 0 rfl
  replace h:=h.pick [2,1,0,3,4,5,6] rfl
  replace h:=SH.merge h
  replace h:=SH.merge h
  replace h:=h.grpAdd 0 rfl (x:=((⟨r1.Ac,r1.Aa,(setS r1.Ah i6 (⟨y1.Ak,y1.Bh,y1.Be,x2⟩:qW))⟩:qc):qc)) (show GoT.R _ _ ((⟨(⟨r1.Ac.Ai⟩:qj),(⟨r1.Aa.Ab,r1.Aa.Aj,r1.Aa.Af⟩:qg),(setS r1.Ah i6 (⟨y1.Ak,y1.Bh,y1.Be,x2⟩:qW))⟩:qc):qc) _ from ⟨[.slice p2 r1.Ac.Ai.length k2],[.slice p3 r1.Aa.Ab.length k3,.slice p4 r1.Aa.Aj.length k4,.slice p5 r1.Aa.Af.length k5,.slice p6 r1.Ah.length k6],rfl,⟨_,_,rfl,(qfI (h.grpS 0 0 rfl rfl)).1⟩,⟨[.slice p3 r1.Aa.Ab.length k3,.slice p4 r1.Aa.Aj.length k4,.slice p5 r1.Aa.Af.length k5],[.slice p6 r1.Ah.length k6],rfl,⟨[.slice p3 r1.Aa.Ab.length k3],[.slice p4 r1.Aa.Aj.length k4,.slice p5 r1.Aa.Af.length k5],rfl,⟨_,_,rfl,(qcb (h.grpS 0 1 rfl rfl)).1.1⟩,⟨[.slice p4 r1.Aa.Aj.length k4],[.slice p5 r1.Aa.Af.length k5],rfl,⟨_,_,rfl,(qcb (h.grpS 0 1 rfl rfl)).2.1.1⟩,⟨_,_,rfl,(qcb (h.grpS 0 1 rfl rfl)).2.2.1⟩⟩⟩,(h.grpS 0 2 rfl rfl)⟩⟩)
  replace h:=h.grpKeep [0] 0 rfl
  obtain rfl:=qd hF
  replace h:=h.pick [0,1,4] rfl
  exact qbd qb [GoT.v qc (qz r1 p2 p3 p4 p5 p6 k2 k3 k4 k5 k6)] ⟨⟨_,_,_,rfl,rfl,hk3.box 9 rfl,rfl⟩,trivial⟩ ⟨_,_,rfl,SH.unfr 1 1 h0 h rfl rfl⟩
 refine X0 5 rfl (qm rfl hF ?_ ?_)<;>intro hF
 ·refine X1 4 1 h rfl ?_
  replace h:=h.pick [2,0,1,3,4] rfl
  obtain ⟨S25,S26,S27,h⟩:=qfl h
  obtain ⟨y2,hy2,hF⟩:=qe hF
  have he2:=qax hy2
  obtain ⟨S28,S29,cs4,h⟩:=h.take hy2
  obtain ⟨p23,k20,p24,k21,p25,k22,p26,k23,rfl,-,-,-,-⟩:=qbR (h.own 0 rfl)
  obtain ⟨S30,S31,S32,S33,h⟩:=qgm h
  obtain ⟨b5,hp6,-,-,hl11⟩:=h.holeAt 4 rfl
  obtain ⟨q5,hq5⟩:∃ q,q=0+(i6).toNat*GoT.k qW:=⟨_,rfl⟩
  refine zx hp6 hq5 ⟨he2.1,qN he2.2.1 hl11⟩ rfl (zp1 rfl (zc 1 (qfy h 4 rfl hp6 hq5) rfl ?_))
  obtain ⟨y3,hy3,hF,he3,b6,_,q6,cs5,hp7,hq6,rfl,hc5⟩:=(h.sl 2 rfl).1.ix hF
  refine zx hp7 hq6 ⟨he3.1,qN he3.2.1 (h.sl 2 rfl).2⟩ rfl (qdF qb 2 0 1 h rfl hy3 hp7 hq6 rfl hc5 rfl rfl rfl rfl rfl rfl rfl fun w26 h=>X1 5 8 h rfl (zs 9 h rfl fun w27 h=>qa5 ?_))
  have hk4:=h
  obtain ⟨S34,h⟩:=h.gather [4,5,6,7,8,9,10] (qhS (⟨y2.Ak,(setS y2.Bh 0 1),y2.Be,y2.Ay⟩:qW) h (qB 3 h rfl) (qB 2 h rfl) (qB 1 h rfl) (qB 0 h rfl) (by rfl) (by rfl) (by rfl)) rfl
  replace h:=h.put
  obtain ⟨S35,h⟩:=qh1 (S:=_) h
  replace h:=h.frzI 2 rfl
  replace h:=h.frzI 1 rfl
  replace h:=h.frzI 0 rfl
  replace h:=h.pick [2,1,0,3,4,5,6] rfl
  replace h:=SH.merge h
  replace h:=SH.merge h
  replace h:=h.grpAdd 0 rfl (x:=((⟨r1.Ac,r1.Aa,(setS r1.Ah i6 (⟨y2.Ak,(setS y2.Bh 0 1),y2.Be,y2.Ay⟩:qW))⟩:qc):qc)) (show GoT.R _ _ ((⟨(⟨r1.Ac.Ai⟩:qj),(⟨r1.Aa.Ab,r1.Aa.Aj,r1.Aa.Af⟩:qg),(setS r1.Ah i6 (⟨y2.Ak,(setS y2.Bh 0 1),y2.Be,y2.Ay⟩:qW))⟩:qc):qc) _ from ⟨[.slice p2 r1.Ac.Ai.length k2],[.slice p3 r1.Aa.Ab.length k3,.slice p4 r1.Aa.Aj.length k4,.slice p5 r1.Aa.Af.length k5,.slice p6 r1.Ah.length k6],rfl,⟨_,_,rfl,(qfI (h.grpS 0 0 rfl rfl)).1⟩,⟨[.slice p3 r1.Aa.Ab.length k3,.slice p4 r1.Aa.Aj.length k4,.slice p5 r1.Aa.Af.length k5],[.slice p6 r1.Ah.length k6],rfl,⟨[.slice p3 r1.Aa.Ab.length k3],[.slice p4 r1.Aa.Aj.length k4,.slice p5 r1.Aa.Af.length k5],rfl,⟨_,_,rfl,(qcb (h.grpS 0 1 rfl rfl)).1.1⟩,⟨[.slice p4 r1.Aa.Aj.length k4],[.slice p5 r1.Aa.Af.length k5],rfl,⟨_,_,rfl,(qcb (h.grpS 0 1 rfl rfl)).2.1.1⟩,⟨_,_,rfl,(qcb (h.grpS 0 1 rfl rfl)).2.2.1⟩⟩⟩,(h.grpS 0 2 rfl rfl)⟩⟩)
  replace h:=h.grpKeep [0] 0 rfl
  obtain rfl:=qd hF
  replace h:=h.pick [0,1,4] rfl
  exact qbd qb [GoT.v qc (qz r1 p2 p3 p4 p5 p6 k2 k3 k4 k5 k6)] ⟨⟨_,_,_,rfl,rfl,hk4.box 9 rfl,rfl⟩,trivial⟩ ⟨_,_,rfl,SH.unfr 1 1 h0 h rfl rfl⟩
 refine X0 5 rfl (qm rfl hF ?_ ?_)<;>intro hF
 ·replace h:=h.pick [2,0,1,3,4] rfl
  obtain ⟨S36,S37,S38,h⟩:=qfl h
  obtain ⟨y4,hy4,hF⟩:=qe hF
  have he4:=qax hy4
  obtain ⟨S39,S40,cs6,h⟩:=h.take hy4
  obtain ⟨p27,k24,p28,k25,p29,k26,p30,k27,rfl,-,-,-,-⟩:=qbR (h.own 0 rfl)
  obtain ⟨S41,S42,S43,S44,h⟩:=qgm h
  refine rA [] [4,8] h rfl fun w28 h=>M1 7 [0,1,2] 1 (h.pick [4,8] rfl) rfl ?_
  obtain ⟨b7,hp8,-,-,hl13⟩:=h.holeAt 4 rfl
  obtain ⟨q7,hq7⟩:∃ q,q=0+(i6).toNat*GoT.k qW:=⟨_,rfl⟩
  refine Ax 3 15 hp8 hq7 ⟨he4.1,qN he4.2.1 hl13⟩ (h.pick [4,8] rfl) rfl (M0 31 [4] (h.pick [4,8] rfl) rfl (Aw 5 63 (fun w' hw=>qeJ qb (qfy hw 0 rfl hp8 hq7) (j:=2) rfl rfl rfl) (h.pick [4,8] rfl) rfl ?_))
  refine M0 191 [7] (h.pick [4,8] rfl) rfl ?_
  obtain ⟨o5,hr9,hF⟩:=qe hF
  obtain ⟨i12,i13,i14⟩:=o5
  obtain ⟨y5,hy5,hF⟩:=qe hF
  obtain ⟨y6,hy6,hF⟩:=qe hF
  refine qjx (fun e w'=>e=[(2,.pointer (some ⟨bb2,0,none⟩)),(3,.pointer (some ⟨bb3,0,none⟩))]∧SH w0 w' [Ch.box bb1 [.slice p1 a_0.code.length k1,.int .i64 i13,.int .i64 i14] 225,Ch.own S44 (y4.Ay:List Int) [.slice p30 y4.Ay.length k27],Ch.own S43 ((setS y4.Be 0 y5):List Int) [.slice p29 y4.Be.length k26],Ch.own S42 (y4.Bh:List Int) [.slice p28 y4.Bh.length k25],Ch.own S41 (y4.Ak:List Int) [.slice p27 y4.Ak.length k24],Ch.hole S40 (r1.Ah:List qW) p6 r1.Ah.length k6 (i6).toNat [.slice p27 y4.Ak.length k24,.slice p28 y4.Bh.length k25,.slice p29 y4.Be.length k26,.slice p30 y4.Ay.length k27],Ch.own S37 (r1.Aa:qg) (qal r1.Aa p3 p4 p5 k3 k4 k5),Ch.own S36 (r1.Ac:qj) [.slice p2 r1.Ac.Ai.length k2],Ch.box bb3 (qz r1 p2 p3 p4 p5 p6 k2 k3 k4 k5 k6) 48,Ch.box bb2 [.slice none 0 0,.slice none 0 0,.slice none 0 0,.slice none 0 0,.slice none 0 0] 48,Ch.grp (old w0) (FS F) [fct (a_0:Tl01Source) [.slice p1 a_0.code.length k1,.int .i64 a_0.at_,.int .i64 a_0.seed],same w0 w F]]) 0 (bits 13 8191) ?_ ?_
  ·intro K
   refine At 6 8 255 447 rfl ?_ ?_
   ·refine ql qb [.const (.int .i64 (-1)),.const (.int .i64 (500)),.const (.int .i64 (501))] _ ([(-1),500,501]:List Int) h rfl rfl rfl rfl rfl rfl rfl rfl rfl ⟨rfl,rfl,rfl,trivial⟩ rfl fun w36 p33 S47 h=>Ag (h.pick [5,9] rfl) (Ao 8 511 rfl ?_)
    replace h:=h.pick [8,0,1,2,3,4,5,6,7,9,10,11] rfl
    refine qt (cB 132 rfl) (qh (a_0:=(⟨a_0.code,i10,i11⟩:Tl01Source)) (a_1:=3) h (show GoT.R _ _ ((⟨a_0.code,i10,i11⟩:Tl01Source):Tl01Source) _ from ⟨[.slice p1 a_0.code.length k1],[.int .i64 i10,.int .i64 i11],rfl,⟨_,_,rfl,(qf (h.frG 11 0 1 rfl rfl rfl)).1⟩,⟨[.int .i64 i10],[.int .i64 i11],rfl,rfl,rfl⟩⟩) hr9) rfl rfl rfl rfl ?_
    rintro w37 us7 ⟨rfl,h⟩
    dsimp only at h
    refine Ag (h.pick [6,9] rfl) ?_
    have he9:=qax hy5
    obtain ⟨b12,o_7,q12,cs11,hp13,hq12,-,hr14,hc11⟩:=(h.sl 1 rfl).1.at hy5
    obtain rfl:=hr14
    refine Ax 9 1023 hp13 hq12 ⟨he9.1,qN he9.2.1 (h.sl 1 rfl).2⟩ (h.pick [6,9] rfl) rfl (Ao 10 2047 rfl (r_v (qeJ qb (qcl (w1:=w) (S1:=fun _=>False) h 1 rfl hy5 hp13 hq12 rfl) (j:=0) rfl rfl rfl) rfl (Ag (h.pick [6,9] rfl) ?_)))
    have he10:=qax hy6
    obtain ⟨b13,o_8,q13,cs12,hp14,hq13,-,hr15,hc12⟩:=(h.sl 3 rfl).1.at hy6
    obtain rfl:=hr15
    refine Ax 11 4095 hp14 hq13 ⟨he10.1,qN he10.2.1 (h.sl 3 rfl).2⟩ (h.pick [6,9] rfl) rfl (Ao 12 8191 rfl (qdF qb 3 0 y5 h rfl hy6 hp14 hq13 rfl hc12 rfl rfl rfl rfl rfl rfl rfl fun w38 h=>Ag (h.pick [6,9] rfl) ?_))
    replace h:=h.pick [0,2,3,4,5,6,7,8,9,10,11] rfl
    exact qjj [(2,_),(3,_)] ⟨rfl,rfl,trivial⟩ (K _ _ ⟨rfl,h⟩)
   replace h:=h.pick [7,0,1,2,3,4,5,6,8,9,10] rfl
   refine qt (cB 132 rfl) (qh (a_0:=(⟨a_0.code,i10,i11⟩:Tl01Source)) (a_1:=3) h (show GoT.R _ _ ((⟨a_0.code,i10,i11⟩:Tl01Source):Tl01Source) _ from ⟨[.slice p1 a_0.code.length k1],[.int .i64 i10,.int .i64 i11],rfl,⟨_,_,rfl,(qf (h.frG 10 0 1 rfl rfl rfl)).1⟩,⟨[.int .i64 i10],[.int .i64 i11],rfl,rfl,rfl⟩⟩) hr9) rfl rfl rfl rfl ?_
   rintro w36 us7 ⟨rfl,h⟩
   dsimp only at h
   refine Ag (h.pick [5,8] rfl) (Ao 6 511 rfl (ql qb [.const (.int .i64 (-1)),.const (.int .i64 (500)),.const (.int .i64 (501))] _ ([(-1),500,501]:List Int) h rfl rfl rfl rfl rfl rfl rfl rfl rfl ⟨rfl,rfl,rfl,trivial⟩ rfl fun w37 p33 S47 h=>Ag (h.pick [6,9] rfl) ?_))
   have he9:=qax hy5
   obtain ⟨b12,o_7,q12,cs11,hp13,hq12,-,hr14,hc11⟩:=(h.sl 0 rfl).1.at hy5
   obtain rfl:=hr14
   refine Ax 9 1023 hp13 hq12 ⟨he9.1,qN he9.2.1 (h.sl 0 rfl).2⟩ (h.pick [6,9] rfl) rfl (Ao 10 2047 rfl (r_v (qeJ qb (qcl (w1:=w) (S1:=fun _=>False) h 0 rfl hy5 hp13 hq12 rfl) (j:=0) rfl rfl rfl) rfl (Ag (h.pick [6,9] rfl) ?_)))
   have he10:=qax hy6
   obtain ⟨b13,o_8,q13,cs12,hp14,hq13,-,hr15,hc12⟩:=(h.sl 3 rfl).1.at hy6
   obtain rfl:=hr15
   refine Ax 11 4095 hp14 hq13 ⟨he10.1,qN he10.2.1 (h.sl 3 rfl).2⟩ (h.pick [6,9] rfl) rfl (Ao 12 8191 rfl (qdF qb 3 0 y5 h rfl hy6 hp14 hq13 rfl hc12 rfl rfl rfl rfl rfl rfl rfl fun w38 h=>Ag (h.pick [6,9] rfl) ?_))
   replace h:=h.pick [1,2,3,4,5,6,7,8,9,10,11] rfl
   exact qjj [(2,_),(3,_)] ⟨rfl,rfl,trivial⟩ (K _ _ ⟨rfl,h⟩)
  rintro e4 w39 ⟨rfl,h⟩
  refine Ad (X1 4 8 h rfl (zs 9 h rfl fun w40 h=>qa5 ?_))
  have hk5:=h
  obtain ⟨S48,h⟩:=h.gather [0,5,6,7,8,9,10] (qhS (⟨y4.Ak,y4.Bh,(setS y4.Be 0 y5),y4.Ay⟩:qW) h (qB 4 h rfl) (qB 3 h rfl) (qB 2 h rfl) (qB 1 h rfl) (by rfl) (by rfl) (by rfl)) rfl
  replace h:=h.pick [0,2,1,3,4,5,6,7] rfl
  replace h:=h.put
  obtain ⟨S49,h⟩:=qh1 (S:=_) h
  replace h:=h.frzI 3 rfl
  replace h:=h.frzI 2 rfl
  replace h:=h.frzI 0 rfl
  replace h:=h.pick [3,2,0,1,4,5,6] rfl
  replace h:=SH.merge h
  replace h:=SH.merge h
  replace h:=h.grpAdd 0 rfl (x:=((⟨r1.Ac,r1.Aa,(setS r1.Ah i6 (⟨y4.Ak,y4.Bh,(setS y4.Be 0 y5),y4.Ay⟩:qW))⟩:qc):qc)) (show GoT.R _ _ ((⟨(⟨r1.Ac.Ai⟩:qj),(⟨r1.Aa.Ab,r1.Aa.Aj,r1.Aa.Af⟩:qg),(setS r1.Ah i6 (⟨y4.Ak,y4.Bh,(setS y4.Be 0 y5),y4.Ay⟩:qW))⟩:qc):qc) _ from ⟨[.slice p2 r1.Ac.Ai.length k2],[.slice p3 r1.Aa.Ab.length k3,.slice p4 r1.Aa.Aj.length k4,.slice p5 r1.Aa.Af.length k5,.slice p6 r1.Ah.length k6],rfl,⟨_,_,rfl,(qfI (h.grpS 0 0 rfl rfl)).1⟩,⟨[.slice p3 r1.Aa.Ab.length k3,.slice p4 r1.Aa.Aj.length k4,.slice p5 r1.Aa.Af.length k5],[.slice p6 r1.Ah.length k6],rfl,⟨[.slice p3 r1.Aa.Ab.length k3],[.slice p4 r1.Aa.Aj.length k4,.slice p5 r1.Aa.Af.length k5],rfl,⟨_,_,rfl,(qcb (h.grpS 0 1 rfl rfl)).1.1⟩,⟨[.slice p4 r1.Aa.Aj.length k4],[.slice p5 r1.Aa.Af.length k5],rfl,⟨_,_,rfl,(qcb (h.grpS 0 1 rfl rfl)).2.1.1⟩,⟨_,_,rfl,(qcb (h.grpS 0 1 rfl rfl)).2.2.1⟩⟩⟩,(h.grpS 0 2 rfl rfl)⟩⟩)
  replace h:=h.grpKeep [0] 0 rfl
  obtain rfl:=qd hF
  replace h:=h.pick [0,1,4] rfl
  exact qbd qb [GoT.v qc (qz r1 p2 p3 p4 p5 p6 k2 k3 k4 k5 k6)] ⟨⟨_,_,_,rfl,rfl,hk5.box 9 rfl,rfl⟩,trivial⟩ ⟨_,_,rfl,SH.unfr 1 1 h0 h rfl rfl⟩
 refine X0 5 rfl (qm rfl hF ?_ ?_)<;>intro hF
 ·replace h:=h.pick [2,0,1,3,4] rfl
  obtain ⟨S50,S51,S52,h⟩:=qfl h
  obtain ⟨y7,hy7,hF⟩:=qe hF
  have he11:=qax hy7
  obtain ⟨S53,S54,cs13,h⟩:=h.take hy7
  obtain ⟨p34,k28,p35,k29,p36,k30,p37,k31,rfl,-,-,-,-⟩:=qbR (h.own 0 rfl)
  obtain ⟨S55,S56,S57,S58,h⟩:=qgm h
  refine rA [] [4,8] h rfl fun w41 h=>M1 7 [0,1,2] 1 (h.pick [4,8] rfl) rfl ?_
  obtain ⟨b14,hp15,-,-,hl15⟩:=h.holeAt 4 rfl
  obtain ⟨q14,hq14⟩:∃ q,q=0+(i6).toNat*GoT.k qW:=⟨_,rfl⟩
  refine Ax 3 15 hp15 hq14 ⟨he11.1,qN he11.2.1 hl15⟩ (h.pick [4,8] rfl) rfl (M0 31 [4] (h.pick [4,8] rfl) rfl (Aw 5 63 (fun w' hw=>qeJ qb (qfy hw 0 rfl hp15 hq14) (j:=0) rfl rfl rfl) (h.pick [4,8] rfl) rfl ?_))
  refine M1 511 [6,7,8] 1 (h.pick [4,8] rfl) rfl ?_
  obtain ⟨b15,hp16,-,-,hl17⟩:=h.holeAt 4 rfl
  obtain ⟨q15,hq15⟩:∃ q,q=0+(i6).toNat*GoT.k qW:=⟨_,rfl⟩
  refine Ax 9 1023 hp16 hq15 ⟨he11.1,qN he11.2.1 hl17⟩ (h.pick [4,8] rfl) rfl (M0 2047 [10] (h.pick [4,8] rfl) rfl (Aw 11 4095 (fun w' hw=>qeJ qb (qfy hw 0 rfl hp16 hq15) (j:=0) rfl rfl rfl) (h.pick [4,8] rfl) rfl ?_))
  refine M0 32767 [12,13,14] (h.pick [4,8] rfl) rfl (Ao 15 65535 rfl ?_)
  replace h:=h.pick [7,0,1,2,3,4,5,6,8,9,10] rfl
  obtain ⟨o6,hr16,hF⟩:=qe hF
  obtain ⟨i15,i16,i17⟩:=o6
  refine qt (cB 132 rfl) (qh (a_0:=(⟨a_0.code,i10,i11⟩:Tl01Source)) (a_1:=5) h (show GoT.R _ _ ((⟨a_0.code,i10,i11⟩:Tl01Source):Tl01Source) _ from ⟨[.slice p1 a_0.code.length k1],[.int .i64 i10,.int .i64 i11],rfl,⟨_,_,rfl,(qf (h.frG 10 0 1 rfl rfl rfl)).1⟩,⟨[.int .i64 i10],[.int .i64 i11],rfl,rfl,rfl⟩⟩) hr16) rfl rfl rfl rfl ?_
  rintro w42 us8 ⟨rfl,h⟩
  dsimp only at h
  refine G0 131071 [16] (h.pick [5,8] rfl) rfl ?_
  obtain ⟨y8,hy8,hF,he12,b16,_,q16,cs14,hp17,hq16,rfl,hc14⟩:=(h.sl 4 rfl).1.ix hF
  refine Ax 17 262143 hp17 hq16 ⟨he12.1,qN he12.2.1 (h.sl 4 rfl).2⟩ (h.pick [5,8] rfl) rfl (Ao 18 524287 rfl (qdF qb 4 0 (W64 (i15-1)) h rfl hy8 hp17 hq16 rfl hc14 rfl rfl rfl rfl rfl rfl rfl fun w43 h=>Ag (h.pick [5,8] rfl) (Ad (X1 4 8 h rfl (zs 9 h rfl fun w44 h=>qa5 ?_)))))
  have hk6:=h
  obtain ⟨S59,h⟩:=h.gather [0,5,6,7,8,9,10] (qhS (⟨(setS y7.Ak (W64 ((y7.Ak.length:Int)-1)) (W64 (i15-1))),y7.Bh,y7.Be,y7.Ay⟩:qW) h (qB 4 h rfl) (qB 3 h rfl) (qB 2 h rfl) (qB 1 h rfl) (by rfl) (by rfl) (by rfl)) rfl
  replace h:=h.pick [0,2,1,3,4,5,6,7] rfl
  replace h:=h.put
  obtain ⟨S60,h⟩:=qh1 (S:=_) h
  replace h:=h.frzI 3 rfl
  replace h:=h.frzI 2 rfl
  replace h:=h.frzI 0 rfl
  replace h:=h.pick [3,2,0,1,4,5,6] rfl
  replace h:=SH.merge h
  replace h:=SH.merge h
  replace h:=h.grpAdd 0 rfl (x:=((⟨r1.Ac,r1.Aa,(setS r1.Ah i6 (⟨(setS y7.Ak (W64 ((y7.Ak.length:Int)-1)) (W64 (i15-1))),y7.Bh,y7.Be,y7.Ay⟩:qW))⟩:qc):qc)) (show GoT.R _ _ ((⟨(⟨r1.Ac.Ai⟩:qj),(⟨r1.Aa.Ab,r1.Aa.Aj,r1.Aa.Af⟩:qg),(setS r1.Ah i6 (⟨(setS y7.Ak (W64 ((y7.Ak.length:Int)-1)) (W64 (i15-1))),y7.Bh,y7.Be,y7.Ay⟩:qW))⟩:qc):qc) _ from ⟨[.slice p2 r1.Ac.Ai.length k2],[.slice p3 r1.Aa.Ab.length k3,.slice p4 r1.Aa.Aj.length k4,.slice p5 r1.Aa.Af.length k5,.slice p6 r1.Ah.length k6],rfl,⟨_,_,rfl,(qfI (h.grpS 0 0 rfl rfl)).1⟩,⟨[.slice p3 r1.Aa.Ab.length k3,.slice p4 r1.Aa.Aj.length k4,.slice p5 r1.Aa.Af.length k5],[.slice p6 r1.Ah.length k6],rfl,⟨[.slice p3 r1.Aa.Ab.length k3],[.slice p4 r1.Aa.Aj.length k4,.slice p5 r1.Aa.Af.length k5],rfl,⟨_,_,rfl,(qcb (h.grpS 0 1 rfl rfl)).1.1⟩,⟨[.slice p4 r1.Aa.Aj.length k4],[.slice p5 r1.Aa.Af.length k5],rfl,⟨_,_,rfl,(qcb (h.grpS 0 1 rfl rfl)).2.1.1⟩,⟨_,_,rfl,(qcb (h.grpS 0 1 rfl rfl)).2.2.1⟩⟩⟩,(h.grpS 0 2 rfl rfl)⟩⟩)
  replace h:=h.grpKeep [0] 0 rfl
  obtain rfl:=qd hF
  replace h:=h.pick [0,1,4] rfl
  exact qbd qb [GoT.v qc (qz r1 p2 p3 p4 p5 p6 k2 k3 k4 k5 k6)] ⟨⟨_,_,_,rfl,rfl,hk6.box 9 rfl,rfl⟩,trivial⟩ ⟨_,_,rfl,SH.unfr 1 1 h0 h rfl rfl⟩
 refine X0 5 rfl (qm rfl hF ?_ ?_)<;>intro hF
 ·refine X1 4 1 h rfl ?_
  replace h:=h.pick [2,0,1,3,4] rfl
  obtain ⟨S61,S62,S63,h⟩:=qfl h
  replace h:=h.pick [1,0,2,3,4,5,6] rfl
  obtain ⟨S64,S65,S66,h⟩:=qly h
  obtain ⟨y9,hy9,hF,he13,b17,_,q17,cs15,hp18,hq17,hr18,hc16⟩:=(h.sl 0 rfl).1.ix hF
  obtain rfl:=qcp hr18
  refine zx hp18 hq17 ⟨he13.1,qN he13.2.1 (h.sl 0 rfl).2⟩ rfl (zp1 rfl (qdF qb 0 1 ({ y9 with Bl:=3 }:qac) h rfl hy9 hp18 hq17 (qf1 y9) hc16 rfl rfl rfl (qf1 ({ y9 with Bl:=3 })) rfl rfl rfl fun w45 h=>X1 5 6 h rfl (zs 7 h rfl fun w46 h=>qa5 ?_)))
  have hk7:=h
  replace h:=h.frzI 4 rfl
  replace h:=h.frzI 2 rfl
  replace h:=h.frzI 1 rfl
  replace h:=h.frzI 0 rfl
  replace h:=h.frzI 3 rfl
  replace h:=h.pick [4,2,0,1,3,5,6,7,8] rfl
  replace h:=SH.merge h
  replace h:=h.pick [0,2,1,3,4,5,6,7] rfl
  replace h:=SH.merge h
  replace h:=SH.merge h
  replace h:=SH.merge h
  replace h:=h.grpAdd 0 rfl (x:=((⟨r1.Ac,(⟨r1.Aa.Ab,r1.Aa.Aj,(setS r1.Aa.Af 0 ({ y9 with Bl:=3 }))⟩:qg),r1.Ah⟩:qc):qc)) (show GoT.R _ _ ((⟨(⟨r1.Ac.Ai⟩:qj),(⟨r1.Aa.Ab,r1.Aa.Aj,(setS r1.Aa.Af 0 ({ y9 with Bl:=3 }))⟩:qg),r1.Ah⟩:qc):qc) _ from ⟨[.slice p2 r1.Ac.Ai.length k2],[.slice p3 r1.Aa.Ab.length k3,.slice p4 r1.Aa.Aj.length k4,.slice p5 r1.Aa.Af.length k5,.slice p6 r1.Ah.length k6],rfl,⟨_,_,rfl,(qfI (h.grpS 0 0 rfl rfl)).1⟩,⟨[.slice p3 r1.Aa.Ab.length k3,.slice p4 r1.Aa.Aj.length k4,.slice p5 r1.Aa.Af.length k5],[.slice p6 r1.Ah.length k6],rfl,⟨[.slice p3 r1.Aa.Ab.length k3],[.slice p4 r1.Aa.Aj.length k4,.slice p5 r1.Aa.Af.length k5],rfl,(h.grpS 0 1 rfl rfl),⟨[.slice p4 r1.Aa.Aj.length k4],[.slice p5 r1.Aa.Af.length k5],rfl,(h.grpS 0 2 rfl rfl),(h.grpS 0 3 rfl rfl)⟩⟩,(h.grpS 0 4 rfl rfl)⟩⟩)
  replace h:=h.grpKeep [0] 0 rfl
  obtain rfl:=qd hF
  replace h:=h.pick [0,1,4] rfl
  exact qbd qb [GoT.v qc (qz r1 p2 p3 p4 p5 p6 k2 k3 k4 k5 k6)] ⟨⟨_,_,_,rfl,rfl,hk7.box 7 rfl,rfl⟩,trivial⟩ ⟨_,_,rfl,SH.unfr 1 1 h0 h rfl rfl⟩
 refine X1 5 1 h rfl (zs 3 h rfl fun w47 h=>qa5 ?_)
 have hk8:=h
 replace h:=h.frzI 2 rfl
 replace h:=h.grpAdd 2 rfl (x:=(r1:qc)) (h.grpS 2 0 rfl rfl)
 replace h:=h.grpKeep [0] 2 rfl
 obtain rfl:=qd hF
 replace h:=h.pick [2,0,4] rfl
 exact qbd qb [GoT.v qc (qz r1 p2 p3 p4 p5 p6 k2 k3 k4 k5 k6)] ⟨⟨_,_,_,rfl,rfl,hk8.box 3 rfl,rfl⟩,trivial⟩ ⟨_,_,rfl,SH.unfr 1 1 h0 h rfl rfl⟩
def qgO (n:Nat) (s:Tl01Source):Option (qc × Int × Int) :=
 (qk n (⟨s.code,s.at_,s.seed⟩:Tl01Source) 16).bind fun o=>match o with
  | (i1,i2,i3) =>
   bif (i1==0) then
    (qfr n (⟨s.code,i2,i3⟩:Tl01Source)).bind fun o=>match o with
     | (r1,i4,i5) =>
      some (r1,i4,i5)
   else
    (qk n (⟨s.code,i2,i3⟩:Tl01Source) 7).bind fun o=>match o with
     | (i6,i7,i8) =>
      (qk n (⟨s.code,i7,i8⟩:Tl01Source) 8).bind fun o=>match o with
       | (i9,i10,i11) =>
        (qfK n (⟨s.code,i10,i11⟩:Tl01Source) (W64 (2+i6)) (i9==0)).bind fun o=>match o with
         | (r2,i12,i13) =>
          some (r2,i12,i13)
theorem qjU {n:Nat} {w0 w:World} {F:List Ch} {s:Tl01Source} {bb1:Nat} {p1:Option Addr} {k1:Nat} (h0:SH w0 w (Ch.box bb1 (qaf s p1 k1) 225::F)) (ha1:GoT.R w (Fr w0 F) s [.slice p1 s.code.length k1,.int .i64 s.at_,.int .i64 s.seed]) {r:(qc × Int × Int)} (hF:qgO n s=some r):RetW Tryz.prog 129 [.pointer (some ⟨bb1,0,none⟩)] w (fun us w'=>∃ (S1:Nat→Prop) (cs1:List Value),us=[GoT.v qc cs1]∧SH w0 w' (Ch.grp (fun _=>False) S1 [fct (r.1:qc) cs1]::Ch.box bb1 [.slice p1 s.code.length k1,.int .i64 r.2.1,.int .i64 r.2.2] 225::F)):=by
 have h:=SH.frm1 h0 ha1
 refine qa7 Tryz.func129 rfl (m:=16) rfl rfl (zSR (qx qb h rfl rfl rfl fun w1 bb2 h=>X0 5 rfl ?_))
 replace h:=h.pick [1,0,2] rfl
 obtain ⟨o1,hr1,hF⟩:=qe hF
 obtain ⟨i1,i2,i3⟩:=o1
 refine qt (cB 132 rfl) (qh (a_0:=(⟨s.code,s.at_,s.seed⟩:Tl01Source)) (a_1:=16) h (show GoT.R _ _ ((⟨s.code,s.at_,s.seed⟩:Tl01Source):Tl01Source) _ from ⟨[.slice p1 s.code.length k1],[.int .i64 s.at_,.int .i64 s.seed],rfl,⟨_,_,rfl,(qf (h.frG 2 0 1 rfl rfl rfl)).1⟩,⟨[.int .i64 s.at_],[.int .i64 s.seed],rfl,rfl,rfl⟩⟩) hr1) rfl rfl rfl rfl ?_
 rintro w2 us1 ⟨rfl,h⟩
 dsimp only at h
 refine X0 2 rfl (qm rfl hF ?_ ?_)<;>intro hF
 ·refine X0 3 rfl ?_
  obtain ⟨o2,hr2,hF⟩:=qe hF
  obtain ⟨r1,i4,i5⟩:=o2
  refine qt (cB 159 rfl) (qjh (a_0:=(⟨s.code,i2,i3⟩:Tl01Source)) h (show GoT.R _ _ ((⟨s.code,i2,i3⟩:Tl01Source):Tl01Source) _ from ⟨[.slice p1 s.code.length k1],[.int .i64 i2,.int .i64 i3],rfl,⟨_,_,rfl,(qf (h.frG 2 0 1 rfl rfl rfl)).1⟩,⟨[.int .i64 i2],[.int .i64 i3],rfl,rfl,rfl⟩⟩) hr2) rfl rfl rfl rfl ?_
  rintro w3 us2 ⟨S2,cs2,rfl,h⟩
  have hr3:=h.grpS 0 0 rfl rfl
  obtain ⟨p2,k2,p3,k3,p4,k4,p5,k5,p6,k6,rfl,s1,s2,s3,s4,s5⟩:=qT hr3
  replace h:SH _ _ [Ch.grp (fun _=>False) S2 [fct (r1:qc) [.slice p2 r1.Ac.Ai.length k2,.slice p3 r1.Aa.Ab.length k3,.slice p4 r1.Aa.Aj.length k4,.slice p5 r1.Aa.Af.length k5,.slice p6 r1.Ah.length k6]],Ch.box bb1 [.slice p1 s.code.length k1,.int .i64 i4,.int .i64 i5] 225,Ch.box bb2 [.slice none 0 0,.slice none 0 0,.slice none 0 0,.slice none 0 0,.slice none 0 0] 48,Ch.grp (old w0) (FS F) [fct (s:Tl01Source) [.slice p1 s.code.length k1,.int .i64 s.at_,.int .i64 s.seed],same w0 w F]]:=h
  refine zs 2 h rfl fun w4 h=>qa5 ?_
  have hk1:=h
  replace h:=h.grpAdd 0 rfl (x:=(r1:qc)) (h.grpS 0 0 rfl rfl)
  replace h:=h.grpKeep [0] 0 rfl
  obtain rfl:=qd hF
  replace h:=h.pick [0,1,3] rfl
  exact qbd qb [GoT.v qc (qz r1 p2 p3 p4 p5 p6 k2 k3 k4 k5 k6)] ⟨⟨_,_,_,rfl,rfl,hk1.box 2 rfl,rfl⟩,trivial⟩ ⟨_,_,rfl,SH.unfr 1 1 h0 h rfl rfl⟩
 refine X0 5 rfl ?_
 obtain ⟨o3,hr5,hF⟩:=qe hF
 obtain ⟨i6,i7,i8⟩:=o3
 refine qt (cB 132 rfl) (qh (a_0:=(⟨s.code,i2,i3⟩:Tl01Source)) (a_1:=7) h (show GoT.R _ _ ((⟨s.code,i2,i3⟩:Tl01Source):Tl01Source) _ from ⟨[.slice p1 s.code.length k1],[.int .i64 i2,.int .i64 i3],rfl,⟨_,_,rfl,(qf (h.frG 2 0 1 rfl rfl rfl)).1⟩,⟨[.int .i64 i2],[.int .i64 i3],rfl,rfl,rfl⟩⟩) hr5) rfl rfl rfl rfl ?_
 rintro w5 us3 ⟨rfl,h⟩
 dsimp only at h
 refine zp2 rfl ?_
 obtain ⟨o4,hr6,hF⟩:=qe hF
 obtain ⟨i9,i10,i11⟩:=o4
 refine qt (cB 132 rfl) (qh (a_0:=(⟨s.code,i7,i8⟩:Tl01Source)) (a_1:=8) h (show GoT.R _ _ ((⟨s.code,i7,i8⟩:Tl01Source):Tl01Source) _ from ⟨[.slice p1 s.code.length k1],[.int .i64 i7,.int .i64 i8],rfl,⟨_,_,rfl,(qf (h.frG 2 0 1 rfl rfl rfl)).1⟩,⟨[.int .i64 i7],[.int .i64 i8],rfl,rfl,rfl⟩⟩) hr6) rfl rfl rfl rfl ?_
 rintro w6 us4 ⟨rfl,h⟩
 dsimp only at h
 refine zp1 rfl ?_
 obtain ⟨o5,hr7,hF⟩:=qe hF
 obtain ⟨r2,i12,i13⟩:=o5
 refine qt (cB 160 rfl) (qhM (s:=(⟨s.code,i10,i11⟩:Tl01Source)) (most:=(W64 (2+i6))) (wild:=(i9==0)) h (show GoT.R _ _ ((⟨s.code,i10,i11⟩:Tl01Source):Tl01Source) _ from ⟨[.slice p1 s.code.length k1],[.int .i64 i10,.int .i64 i11],rfl,⟨_,_,rfl,(qf (h.frG 2 0 1 rfl rfl rfl)).1⟩,⟨[.int .i64 i10],[.int .i64 i11],rfl,rfl,rfl⟩⟩) hr7) rfl rfl rfl rfl ?_
 rintro w7 us5 ⟨S3,cs3,rfl,h⟩
 obtain ⟨p7,k7,p8,k8,p9,k9,p10,k10,p11,k11,rfl,-,-,-,-,-⟩:=qT (h.own 0 rfl)
 replace h:SH _ _ [Ch.own S3 (r2:qc) (qz r2 p7 p8 p9 p10 p11 k7 k8 k9 k10 k11),Ch.box bb1 [.slice p1 s.code.length k1,.int .i64 i12,.int .i64 i13] 225,Ch.box bb2 [.slice none 0 0,.slice none 0 0,.slice none 0 0,.slice none 0 0,.slice none 0 0] 48,Ch.grp (old w0) (FS F) [fct (s:Tl01Source) [.slice p1 s.code.length k1,.int .i64 s.at_,.int .i64 s.seed],same w0 w F]]:=h
 refine zs 2 h rfl fun w8 h=>qa5 ?_
 have hk2:=h
 replace h:=h.frzI 0 rfl
 replace h:=h.grpAdd 0 rfl (x:=(r2:qc)) (h.grpS 0 0 rfl rfl)
 replace h:=h.grpKeep [0] 0 rfl
 obtain rfl:=qd hF
 replace h:=h.pick [0,1,3] rfl
 exact qbd qb [GoT.v qc (qz r2 p7 p8 p9 p10 p11 k7 k8 k9 k10 k11)] ⟨⟨_,_,_,rfl,rfl,hk2.box 2 rfl,rfl⟩,trivial⟩ ⟨_,_,rfl,SH.unfr 1 1 h0 h rfl rfl⟩
def qdx (code:(List (IntK .u8))):Nat→Int→Int→Option (Int × Int)
 | 0,_,_=>none
 | n+1,i1,i2 =>
  (
   bif decide (i2<(code.length:Int)) then some (decide (i2<64)) else
   some false).bind fun b1 =>
  bif b1 then
   (idx code i2).bind fun y1 =>
   qdx code n ((W64 ((W64 (i1*31))+(W64 y1.val))).tmod 2147483647) (W64 (i2+1))
  else
   some (i1,i2)
def qid (n:Nat) (code:(List (IntK .u8))):Option (Option Tl01Source) :=
 (qdx code n 12345 0).bind fun o=>match o with
 | (i1,_) =>
  some (some (⟨code,0,i1⟩:Tl01Source))
theorem qkl {n:Nat} {w:World} {code:(List (IntK .u8))} {cs1:List Value} (ha1:GoT.R w (old w) code cs1) {r:(Option Tl01Source)} (hF:qid n code=some r):RetZ Tryz.prog 128 [GoT.v (List (IntK .u8)) cs1] w (fun us L=>∃ (ubb1:Nat) (ui2:Int),r=(some (⟨code,0,ui2⟩:Tl01Source))∧us=[GoT.v (Option Tl01Source) [.pointer (some ⟨ubb1,0,none⟩)]]∧L=[Ch.box ubb1 (cs1++[.int .i64 0,.int .i64 ui2]) 225]):=by
 obtain ⟨p1,k1,rfl,s1⟩:=ha1
 refine qmX Tryz.func128 rfl (m:=34) rfl rfl (fun h=>?_)
 refine X0 7 rfl (r_v (qah qb [0,2] [.tmp 5,.const (.int .i64 (12345))] rfl rfl rfl rfl rfl rfl rfl rfl) rfl (qO h rfl rfl fun w1 bb1 h=>X0 7 rfl ?_))
 obtain ⟨o1,hF,hK1⟩:=qe hF
 refine qq (rL (fun m e w'=>∃ (i1:Int) (i2:Int),qdx code m i1 i2=some o1∧e=[(0,.slice p1 code.length k1),(3,.pointer (some ⟨bb1,0,none⟩)),(4,.int .i64 i2)]∧SH w w' [Ch.box bb1 [.slice p1 code.length k1,.int .i64 0,.int .i64 i1] 225]) n ⟨_,_,hF,rfl,h⟩ rfl ?_)
 rintro m1 e1 w2 ⟨i1,i2,hF,rfl,h⟩
 rcases m1 with _|m1
 ·cases hF
 refine zSS ?_
 obtain ⟨KF1,hKF1,o2,hF,hK2⟩:=bindE hF
 refine qa2 (fun e w'=>∃ (b1:Bool),KF1 b1=some o1∧e=[(0,.slice p1 code.length k1),(3,.pointer (some ⟨bb1,0,none⟩)),(4,.int .i64 i2),(15,.bool b1)]∧SH w w' [Ch.box bb1 [.slice p1 code.length k1,.int .i64 0,.int .i64 i1] 225]) ?_ ?_
 ·refine X0 6 rfl (qi (t:=12) hF rfl ?_ ?_)<;>intro hF
  ·refine X0 6 rfl ?_
   obtain rfl:=qd hF
   exact rG ⟨_,hK2,rfl,h⟩ rfl
  refine X0 4 rfl ?_
  obtain rfl:=qd hF
  exact rG ⟨_,hK2,rfl,h⟩ rfl
 rintro e2 w5 ⟨b1,hF,rfl,h⟩
 subst hKF1
 refine qm rfl hF ?_ ?_<;>intro hF
 ·refine zKSB (rA [15] [0] h rfl fun w3 h=>M1 255 [0,1,2,3,4,5,6,7] 0 (h.pick [0] rfl) rfl ?_)
  obtain ⟨y1,hy1,hF,he1,b2,_,q1,cs2,hp1,hq1,rfl,hc2⟩:=s1.ix hF
  exact Ae 8 511 hp1 hq1 he1 (h.pick [0] rfl) rfl (Al 9 1023 0 hc2 (h.pick [0] rfl) rfl (M0 8191 [10,11,12] (h.pick [0] rfl) rfl (Ao 13 16383 rfl (zp1 rfl (G0 32767 [14] (h.pick [0] rfl) rfl (Ao 15 65535 rfl (zs 0 h rfl fun w4 h=>qdR (fun hs=>absurd (hs 15 (by decide)) (by decide)) (Ad (X0 6 rfl (rK ⟨_,_,hF,rfl,h⟩ rfl))))))))))
 refine qy rfl ?_
 obtain rfl:=qd hF;replace hF:=hK1
 refine X0 5 rfl ?_
 obtain rfl:=qd hF
 exact qqW qb [GoT.v (Option Tl01Source) [.pointer (some ⟨bb1,0,none⟩)]] h ⟨rfl,trivial⟩ ⟨bb1,i1,rfl,rfl,rfl⟩
def qe4 (_:Nat) (b:qc) (a_instance:Int):Option qr :=
 (idx b.Aa.Ab a_instance).bind fun y1 =>
 (idx b.Ac.Ai y1.Ba).bind fun y2 =>
 some y2
theorem qif {A:Nat→Prop} (hA:∀ b,A b→old w b) {b:qc} {a_instance:Int} (ha1:GoT.R w A b cs1) {r:qr} (hF:qe4 n b a_instance=some r):RetG Tryz.prog 195 [GoT.v qc cs1,.int .i64 a_instance] w A r:=by
 obtain ⟨p1,k1,p2,k2,p3,k3,p4,k4,p5,k5,rfl,s1,s2,s3,s4,s5⟩:=qT ha1
 have hg:=Rg.start hA
 refine qgo Tryz.func195 rfl (m:=17) rfl rfl (fun h=>?_)
 refine zSR (qO h rfl rfl fun w1 bb1 h=>qx qb h rfl rfl rfl fun w2 bb2 h=>zNS (rA [] [1] h rfl fun w3 h=>M2 127 [0,1,2,3,4,5,6] 0 0 (h.pick [1] rfl) rfl ?_))
 obtain ⟨y1,hy1,hF,he1,b1,_,q1,cs2,hp1,hq1,hr1,hc1⟩:=s2.ix hF
 obtain ⟨p6,k6,rfl,s6⟩:=qau hr1
 refine Ae 7 255 hp1 hq1 he1 (h.pick [1] rfl) rfl (M0 511 [8] (h.pick [1] rfl) rfl (Al 9 1023 1 hc1 (h.pick [1] rfl) rfl ?_))
 obtain ⟨y2,hy2,hF,he2,b2,_,q2,cs3,hp2,hq2,hr2,hc2⟩:=s1.ix hF
 obtain ⟨p7,k7,p8,k8,p9,k9,rfl,s7,s8,s9⟩:=qQ hr2
 refine Ae 10 2047 hp2 hq2 he2 (h.pick [1] rfl) rfl (Al 11 4095 0 hc2 (h.pick [1] rfl) rfl (Ao 12 8191 rfl (zs 0 h rfl fun w4 h=>Ag (h.pick [1] rfl) (Ad ?_))))
 obtain rfl:=qd hF
 have hv1:GoRs.Rs (ρ:=qr) h.wc (reg A w h.wc) y2 [GoT.v qr (qv y2 p7 p8 p9 k7 k8 k9)]:=⟨_,rfl,(hg.outR h (qkf y2 (hg.inS h s7) (hg.inS h s8) (hg.inS h s9)))⟩
 exact qiV qb (ρ:=qr) (r:=y2) [GoT.v qr (qv y2 p7 p8 p9 k7 k8 k9)] h ⟨⟨_,_,_,rfl,rfl,h.box 0 rfl,rfl⟩,trivial⟩ hv1
def qet (n:Nat) (b:qc) (place:Int):Option Bool :=
 (qeH n (⟨b.Ac.Ai⟩:qj) (⟨b.Aa.Ab,b.Aa.Aj,b.Aa.Af⟩:qg) place).bind fun o=>match o with
  | (r2,_) =>
   bif decide (r2.instance_ ≥ 0) then
    (qe4 n b r2.instance_).bind fun r4 =>
    (idx r4.Aq r2.pin).bind fun y1 =>
    some y1.Bc
   else
    some false
theorem qf5 {b:qc} {place:Int} (ha1:GoT.R w (old w) b cs1) {r:Bool} (hF:qet n b place=some r):RetV Tryz.prog 192 [GoT.v qc cs1,.int .i64 place] w r:=by
 obtain ⟨p1,k1,p2,k2,p3,k3,p4,k4,p5,k5,rfl,s1,s2,s3,s4,s5⟩:=qT ha1
 refine zV 31 Tryz.func192 rfl fun h=>zSR (qO h rfl rfl fun w1 bb1 h=>X2 9 0 0 h rfl ?_)
 obtain ⟨r1,hr1,hF⟩:=qe hF
 obtain ⟨r2,r3⟩:=r1
 refine qgb (r2,r3) h (cB 105 rfl) (qgg (qbw _ (h.oldS s1)) (qat _ (h.oldS s2) (h.oldS s3) (h.oldS s4)) hr1) rfl rfl rfl rfl fun w2 S1 us1 hv1 hr2=>?_
 obtain ⟨S2,S3,cs2,us2,rfl,hv2,hr3⟩:=hv1.cons hr2
 obtain rfl:=qbk (hv2.sh.own 0 rfl)
 obtain ⟨rfl,h⟩:=hv2.lastB hr3
 refine zp3 rfl (qx qb h rfl rfl rfl fun w3 bb2 h=>zs 0 h rfl fun w4 h=>X0 3 rfl (rA [] [0,2] h rfl fun w5 h=>M1 15 [0,1,2,3] 0 (h.pick [0,2] rfl) rfl (qn4 (t:=19) hF rfl ?_ ?_)))<;>intro hF
 ·refine qgf 4 rfl (by kernel_rfl) (bits 16 31) (by kernel_rfl) (by kernel_rfl) (fun w' hw=>qeJ qb (hw.box 1 rfl) (j:=0) rfl rfl rfl) (h.pick [0,2] rfl) rfl (qgf 5 rfl (by kernel_rfl) (bits 16 63) (by kernel_rfl) (by kernel_rfl) (fun w' hw=>v_p qb rfl w') (h.pick [0,2] rfl) rfl (qgf 6 rfl (by kernel_rfl) (bits 16 127) (by kernel_rfl) (by kernel_rfl) (fun w' hw=>qeJ qb (hw.box 0 rfl) (j:=0) rfl rfl rfl) (h.pick [0,2] rfl) rfl (qgf 9 rfl (by kernel_rfl) (bits 16 639) (by kernel_rfl) (by kernel_rfl) (fun w' hw=>v_p qb rfl w') (h.pick [0,2] rfl) rfl (qgf 10 rfl (by kernel_rfl) (bits 16 1663) (by kernel_rfl) (by kernel_rfl) (fun w' hw=>qeJ qb (hw.box 0 rfl) (j:=1) rfl rfl rfl) (h.pick [0,2] rfl) rfl (Ao 7 1791 rfl (X0 1 rfl ?_))))))
  have hg1:Rg (old w) w (old w) w:=.start (fun _ h=>h)
  obtain ⟨r4,hr5,hF⟩:=qe hF
  refine qi3 r4 hg1 h (cB 195 rfl) (qif (hg1.atB h) (hg1.inBR h ha1) hr5) rfl rfl rfl rfl fun w6 us3 S5 h hv4=>?_
  obtain ⟨cs3,rfl,hr6⟩:=qh2 hv4
  have hr7:=hr6
  obtain ⟨p6,k6,p7,k7,p8,k8,rfl,s6,s7,s8⟩:=qQ hr6
  replace h:=h.grpAdd 0 rfl hr7
  refine Ag (h.pick [1,3] rfl) (qgf 8 rfl (by kernel_rfl) (bits 16 2047) (by kernel_rfl) (by kernel_rfl) (fun w' hw=>v_p qb rfl w') (h.pick [1,3] rfl) rfl ?_)
  obtain ⟨y1,hy1,hF,he1,b1,_,q1,cs4,hp1,hq1,hr8,hc1⟩:=(qgV (h.grp 0 0 rfl rfl)).1.1.ix hF
  obtain rfl:=qdg hr8
  refine qgf 11 rfl (by kernel_rfl) (bits 16 4095) (by kernel_rfl) (by kernel_rfl) (fun w' hw=>qpZ qb hp1 hq1 ⟨he1.1,qN he1.2.1 (qgV (h.grp 0 0 rfl rfl)).1.2⟩ rfl rfl rfl rfl rfl rfl) (h.pick [1,3] rfl) rfl (qgf 12 rfl (by kernel_rfl) (bits 16 8191) (by kernel_rfl) (by kernel_rfl) (fun w' hw=>v_p qb rfl w') (h.pick [1,3] rfl) rfl (Ao 13 16383 rfl (X0 1 rfl (zc 3 hc1 rfl (G0 65535 [14,15] (h.pick [1,3] rfl) rfl (Ad ?_))))))
  replace h:=h.pick [1,2,3] rfl
  exact rb h hF rfl
 exact qhm 4 rfl (by kernel_rfl) rfl (bits 16 31) (by kernel_rfl) (by kernel_rfl) (h.pick [0,2] rfl) rfl (qhm 5 rfl (by kernel_rfl) rfl (bits 16 63) (by kernel_rfl) (by kernel_rfl) (h.pick [0,2] rfl) rfl (qhm 6 rfl (by kernel_rfl) rfl (bits 16 127) (by kernel_rfl) (by kernel_rfl) (h.pick [0,2] rfl) rfl (qhm 7 rfl (by kernel_rfl) rfl (bits 16 255) (by kernel_rfl) (by kernel_rfl) (h.pick [0,2] rfl) rfl (qhm 8 rfl (by kernel_rfl) rfl (bits 16 511) (by kernel_rfl) (by kernel_rfl) (h.pick [0,2] rfl) rfl (qhm 9 rfl (by kernel_rfl) rfl (bits 16 1023) (by kernel_rfl) (by kernel_rfl) (h.pick [0,2] rfl) rfl (qhm 10 rfl (by kernel_rfl) rfl (bits 16 2047) (by kernel_rfl) (by kernel_rfl) (h.pick [0,2] rfl) rfl (qhm 11 rfl (by kernel_rfl) rfl (bits 16 4095) (by kernel_rfl) (by kernel_rfl) (h.pick [0,2] rfl) rfl (qhm 12 rfl (by kernel_rfl) rfl (bits 16 8191) (by kernel_rfl) (by kernel_rfl) (h.pick [0,2] rfl) rfl (qhm 13 rfl (by kernel_rfl) rfl (bits 16 16383) (by kernel_rfl) (by kernel_rfl) (h.pick [0,2] rfl) rfl (M0 65535 [14,15] (h.pick [0,2] rfl) rfl (Ad (rb h hF rfl))))))))))))
def qbt (b:qc):Nat→(List Int)→Int→Option ((List Int) × Int)
 | 0,_,_=>none
 | n+1,x1,i1 =>
  (qaB n b).bind fun r1 =>
  bif decide (i1<r1) then
   (qeH n (⟨b.Ac.Ai⟩:qj) (⟨b.Aa.Ab,b.Aa.Aj,b.Aa.Af⟩:qg) i1).bind fun o=>match o with
    | (r3,_) =>
     (
      bif decide (r3.instance_<0) then
       (idx b.Aa.Af r3.pin).bind fun y1 =>
       bif (y1.Bl==1) then some true else
       (qet n b i1).bind fun r5 =>
       some r5
      else
       (qet n b i1).bind fun r6 =>
       some r6).bind fun b1 =>
     bif b1 then
      (appS x1 ([i1]:List Int)).bind fun x2 =>
      qbt b n x2 (W64 (i1+1))
     else
      qbt b n x1 (W64 (i1+1))
  else
   some (x1,i1)
def qfW (n:Nat) (b:qc):Option (List Int) :=
 (qbt b n ([]:List Int) 0).bind fun o=>match o with
 | (x1,_) =>
  some x1
theorem qjM {b:qc} (ha1:GoT.R w (old w) b cs1) {r:(List Int)} (hF:qfW n b=some r):RetV Tryz.prog 161 [GoT.v qc cs1] w r:=by
 obtain ⟨p1,k1,p2,k2,p3,k3,p4,k4,p5,k5,rfl,s1,s2,s3,s4,s5⟩:=qT ha1
 refine zV 47 Tryz.func161 rfl fun h=>zSR (qO h rfl rfl fun w1 bb1 h=>X0 4 rfl (ql qb [] _ ([]:List Int) h rfl rfl rfl rfl rfl rfl rfl rfl rfl trivial rfl fun w2 p6 S1 h=>X0 7 rfl ?_))
 obtain ⟨o1,hF,hK1⟩:=qe hF
 refine qq (rL (fun m e w'=>∃ (S2:Nat→Prop) (p7:Option Addr) (ln1:Nat) (k6:Nat) (x1:(List Int)) (i1:Int),qbt b m x1 i1=some o1∧e=[(1,.pointer (some ⟨bb1,0,none⟩)),(3,.slice p7 ln1 k6),(4,.int .i64 i1)]∧SH w w' [Ch.own S2 (x1:List Int) [.slice p7 ln1 k6],Ch.box bb1 (qz b p1 p2 p3 p4 p5 k1 k2 k3 k4 k5) 48]) n ⟨_,_,_,_,_,_,hF,rfl,h⟩ rfl ?_)
 rintro m1 e1 w3 ⟨S2,p7,ln1,k6,x1,i1,hF,rfl,h⟩
 obtain rfl:=(h.sl 0 rfl).2
 rcases m1 with _|m1
 ·cases hF
 refine X1 5 1 h rfl (zcI h hF (qbm (h.old ha1)) rfl fun r1 w4 h hF=>X0 2 rfl (qm rfl hF ?_ ?_))<;>intro hF
 ·refine X2 10 1 1 h rfl ?_
  obtain ⟨r2,hr2,hF⟩:=qe hF
  obtain ⟨r3,r4⟩:=r2
  refine qgb (r3,r4) h (cB 105 rfl) (qgg (qbw _ (h.oldS s1)) (qat _ (h.oldS s2) (h.oldS s3) (h.oldS s4)) hr2) rfl rfl rfl rfl fun w5 S3 us1 hv1 hr3=>?_
  obtain ⟨S4,S5,cs2,us2,rfl,hv2,hr4⟩:=hv1.cons hr3
  obtain rfl:=qbk (hv2.sh.own 0 rfl)
  obtain ⟨rfl,h⟩:=hv2.lastB hr4
  refine zp3 rfl (qx qb h rfl rfl rfl fun w6 bb2 h=>zs 0 h rfl fun w7 h=>X0 3 rfl ?_)
  obtain ⟨KF1,hKF1,o2,hF,hK2⟩:=bindE hF
  refine qa2 (fun e w'=>∃ (b1:Bool),KF1 b1=some o1∧e=[(1,.pointer (some ⟨bb1,0,none⟩)),(3,.slice p7 x1.length k6),(4,.int .i64 i1),(41,.bool b1)]∧SH w w' [Ch.own S2 (x1:List Int) [.slice p7 x1.length k6],Ch.box bb1 (qz b p1 p2 p3 p4 p5 k1 k2 k3 k4 k5) 48]) ?_ ?_
  ·refine X1 5 0 h rfl (qi (t:=26) hF rfl ?_ ?_)<;>intro hF
   ·refine X2 11 3 0 h rfl ?_
    obtain ⟨y1,hy1,hF,he1,b2,_,q1,cs3,hp1,hq1,hr6,hc3⟩:=s4.ix hF
    obtain rfl:=qcp hr6
    refine zxe hp1 hq1 he1 rfl (X0 3 rfl (zc 1 (hc3.below h.below) rfl (X0 4 rfl (qi (t:=37) hF rfl ?_ ?_))))<;>intro hF
    ·refine X0 5 rfl ?_
     replace h:=h.pick [2,3] rfl
     obtain rfl:=qd hF
     exact rG ⟨_,hK2,rfl,h⟩ rfl
    refine X1 5 3 h rfl (zcB h hF (qf5 (h.old ha1)) rfl fun r5 w10 h hF=>X0 2 rfl ?_)
    replace h:=h.pick [2,3] rfl
    obtain rfl:=qd hF
    exact rG ⟨_,hK2,rfl,h⟩ rfl
   refine X1 16 3 h rfl (zcB h hF (qf5 (h.old ha1)) rfl fun r6 w11 h hF=>X0 2 rfl ?_)
   replace h:=h.pick [2,3] rfl
   obtain rfl:=qd hF
   exact rG ⟨_,hK2,rfl,h⟩ rfl
  rintro e2 w12 ⟨b1,hF,rfl,h⟩
  subst hKF1
  refine qm rfl hF ?_ ?_<;>intro hF
  ·refine X0 3 rfl (ql qb [.tmp 43] _ ([i1]:List Int) h rfl rfl rfl rfl rfl rfl rfl rfl rfl ⟨rfl,trivial⟩ rfl fun w8 p8 S7 h=>?_)
   obtain ⟨x2,hx1,hF⟩:=qe hF
   obtain ⟨g1,hx1⟩:=qw hx1
   refine qak qb 1 h rfl (h.sl 0 rfl).1 (h.sl 0 rfl).2 rfl rfl rfl rfl rfl rfl rfl rfl rfl g1 hx1 rfl fun w9 p9 k7 S8 h=>X0 8 rfl ?_
   replace h:=h.pick [1,2] rfl
   exact rK ⟨_,_,_,_,_,_,hF,rfl,h⟩ rfl
  exact X0 7 rfl (rK ⟨_,_,_,_,_,_,hF,rfl,h⟩ rfl)
 refine qy rfl ?_
 obtain rfl:=qd hF;replace hF:=hK1
 refine X0 5 rfl ?_
 obtain rfl:=qd hF
 exact rO 0 h rfl ⟨rfl,trivial⟩
def qfs (n:Nat) (l:qj) (d:qg) (place:Int):Option Int :=
 (qeH n l d place).bind fun o=>match o with
  | (r2,r3) =>
   bif (!r3) then some (-1) else
   some r2.net
theorem qjv {l:qj} {d:qg} {place:Int} (ha1:GoT.R w (old w) l cs1) (ha2:GoT.R w (old w) d cs2) {r:Int} (hF:qfs n l d place=some r):RetV Tryz.prog 193 [GoT.v qj cs1,GoT.v qg cs2,.int .i64 place] w r:=by
 obtain ⟨p1,k1,rfl,s1⟩:=qaK ha1
 obtain ⟨p2,k2,p3,k3,p4,k4,rfl,s2,s3,s4⟩:=qZ ha2
 refine zV 20 Tryz.func193 rfl fun h=>zSR (qO h rfl rfl fun w1 bb1 h=>qO h rfl rfl fun w2 bb2 h=>X2 7 1 0 h rfl ?_)
 obtain ⟨r1,hr1,hF⟩:=qe hF
 obtain ⟨r2,r3⟩:=r1
 refine qgb (r2,r3) h (cB 105 rfl) (qgg (h.old ha1) (h.old ha2) hr1) rfl rfl rfl rfl fun w3 S1 us1 hv1 hr2=>?_
 obtain ⟨S2,S3,cs3,us2,rfl,hv2,hr3⟩:=hv1.cons hr2
 obtain rfl:=qbk (hv2.sh.own 0 rfl)
 obtain ⟨rfl,h⟩:=hv2.lastB hr3
 refine zp3 rfl (qx qb h rfl rfl rfl fun w4 bb3 h=>zs 0 h rfl fun w5 h=>X0 8 rfl (qm rfl hF ?_ ?_))<;>intro hF
 ·exact X0 4 rfl (ri h hF rfl)
 exact X1 7 0 h rfl (ri h hF rfl)
def qbP (net:Int) (r1:(List Tl05Place)):Nat→Int→Option (Flow Int Int)
 | 0,_=>none
 | n+1,i1 =>
  bif decide (i1<(r1.length:Int)) then
   (idx r1 i1).bind fun y1 =>
   bif (y1.net==net) then
    (idx r1 i1).bind fun y2 =>
    bif y2.drives then some (.ret i1) else
    qbP net r1 n (W64 (i1+1))
   else
    qbP net r1 n (W64 (i1+1))
  else
   some (.nxt i1)
def qfM (n:Nat) (d:qg) (net:Int):Option Int :=
 (qbS n d).bind fun r1 =>
 (qbP net r1 n 0).bind fun o=>match o with
 | .ret r=>some r
 | .nxt _ =>
  some (-1)
theorem qjG {d:qg} {net:Int} (ha1:GoT.R w (old w) d cs1) {r:Int} (hF:qfM n d net=some r):RetV Tryz.prog 194 [GoT.v qg cs1,.int .i64 net] w r:=by
 obtain ⟨p1,k1,p2,k2,p3,k3,rfl,s1,s2,s3⟩:=qZ ha1
 refine zV 30 Tryz.func194 rfl fun h=>zSR (qO h rfl rfl fun w1 bb1 h=>X1 5 0 h rfl (zcL h hF (qdK (h.old ha1)) rfl fun r1 w2 S1 p4 k4 h hF=>X0 7 rfl ?_))
 obtain ⟨o1,hF,hK1⟩:=qe hF
 refine qq ?_
 replace h:=h.pick [0] rfl
 refine rL (fun m e w'=>∃ (i1:Int),qbP net r1 m i1=some o1∧e=[(1,.int .i64 net),(5,.slice p4 r1.length k4),(6,.int .i64 i1)]∧SH w w' [Ch.own S1 (r1:List Tl05Place) [.slice p4 r1.length k4]]) n ⟨_,hF,rfl,h⟩ rfl ?_
 rintro m1 e1 w3 ⟨i1,hF,rfl,h⟩
 rcases m1 with _|m1
 ·cases hF
 refine X0 8 rfl (qm rfl hF ?_ ?_)<;>intro hF
 ·refine X0 7 rfl ?_
  obtain ⟨y1,hy1,hF,he1,b1,_,q1,cs2,hp1,hq1,hr2,hc2⟩:=(h.sl 0 rfl).1.ix hF
  obtain rfl:=qbk hr2
  refine zx hp1 hq1 ⟨he1.1,qN he1.2.1 (h.sl 0 rfl).2⟩ rfl (zp1 rfl (zc 2 hc2 rfl (zp3 rfl (qi (t:=22) hF rfl ?_ ?_))))<;>intro hF
  ·refine X0 5 rfl ?_
   obtain ⟨y2,hy2,hF,he2,b2,_,q2,cs3,hp2,hq2,hr3,hc3⟩:=(h.sl 0 rfl).1.ix hF
   obtain rfl:=qbk hr3
   refine zx hp2 hq2 ⟨he2.1,qN he2.2.1 (h.sl 0 rfl).2⟩ rfl (X0 3 rfl (zc 3 hc3 rfl (X0 2 rfl (qm rfl hF ?_ ?_))))<;>intro hF
   ·refine X0 5 rfl ?_
    obtain rfl:=qd hF;replace hF:=hK1
    exact ri h hF rfl
   exact X0 7 rfl (rK ⟨_,hF,rfl,h⟩ rfl)
  exact X0 7 rfl (qel rfl rfl (X0 7 rfl (rK ⟨_,hF,rfl,h⟩ rfl)))
 refine qy rfl ?_
 obtain rfl:=qd hF;replace hF:=hK1
 exact X0 4 rfl (ri h hF rfl)
def qcI (a_instance:Int) (pin:Int) (r1:(List Tl05Place)):Nat→Int→Option (Flow Int Int)
 | 0,_=>none
 | n+1,i1 =>
  bif decide (i1<(r1.length:Int)) then
   (idx r1 i1).bind fun y1 =>
   bif (y1.instance_==a_instance) then
    (idx r1 i1).bind fun y2 =>
    bif (y2.pin==pin) then some (.ret i1) else
    qcI a_instance pin r1 n (W64 (i1+1))
   else
    qcI a_instance pin r1 n (W64 (i1+1))
  else
   some (.nxt i1)
def qfC (n:Nat) (d:qg) (a_instance:Int) (pin:Int):Option Int :=
 (qbS n d).bind fun r1 =>
 (qcI a_instance pin r1 n 0).bind fun o=>match o with
 | .ret r=>some r
 | .nxt _ =>
  some (-1)
theorem qkv {d:qg} {a_instance:Int} {pin:Int} (ha1:GoT.R w (old w) d cs1) {r:Int} (hF:qfC n d a_instance pin=some r):RetV Tryz.prog 196 [GoT.v qg cs1,.int .i64 a_instance,.int .i64 pin] w r:=by
 obtain ⟨p1,k1,p2,k2,p3,k3,rfl,s1,s2,s3⟩:=qZ ha1
 refine zV 34 Tryz.func196 rfl fun h=>zSR (qO h rfl rfl fun w1 bb1 h=>X1 5 0 h rfl (zcL h hF (qdK (h.old ha1)) rfl fun r1 w2 S1 p4 k4 h hF=>X0 7 rfl ?_))
 obtain ⟨o1,hF,hK1⟩:=qe hF
 refine qq ?_
 replace h:=h.pick [0] rfl
 refine rL (fun m e w'=>∃ (i1:Int),qcI a_instance pin r1 m i1=some o1∧e=[(1,.int .i64 a_instance),(2,.int .i64 pin),(7,.slice p4 r1.length k4),(8,.int .i64 i1)]∧SH w w' [Ch.own S1 (r1:List Tl05Place) [.slice p4 r1.length k4]]) n ⟨_,hF,rfl,h⟩ rfl ?_
 rintro m1 e1 w3 ⟨i1,hF,rfl,h⟩
 rcases m1 with _|m1
 ·cases hF
 refine X0 8 rfl (qm rfl hF ?_ ?_)<;>intro hF
 ·refine X0 7 rfl ?_
  obtain ⟨y1,hy1,hF,he1,b1,_,q1,cs2,hp1,hq1,hr2,hc2⟩:=(h.sl 0 rfl).1.ix hF
  obtain rfl:=qbk hr2
  refine zx hp1 hq1 ⟨he1.1,qN he1.2.1 (h.sl 0 rfl).2⟩ rfl (zp1 rfl (zc 0 hc2 rfl (zp3 rfl (qi (t:=24) hF rfl ?_ ?_))))<;>intro hF
  ·refine X0 5 rfl ?_
   obtain ⟨y2,hy2,hF,he2,b2,_,q2,cs3,hp2,hq2,hr3,hc3⟩:=(h.sl 0 rfl).1.ix hF
   obtain rfl:=qbk hr3
   refine zx hp2 hq2 ⟨he2.1,qN he2.2.1 (h.sl 0 rfl).2⟩ rfl (X0 3 rfl (zc 1 hc3 rfl (X0 6 rfl (qm rfl hF ?_ ?_))))<;>intro hF
   ·refine X0 5 rfl ?_
    obtain rfl:=qd hF;replace hF:=hK1
    exact ri h hF rfl
   exact X0 7 rfl (rK ⟨_,hF,rfl,h⟩ rfl)
  exact X0 9 rfl (qel rfl rfl (X0 7 rfl (rK ⟨_,hF,rfl,h⟩ rfl)))
 refine qy rfl ?_
 obtain rfl:=qd hF;replace hF:=hK1
 exact X0 4 rfl (ri h hF rfl)
def qby (a_0:qc) (r6:(List Int)):Nat→(List Int)→Int→Option ((List Int) × Int)
 | 0,_,_=>none
 | n+1,x1,i1 =>
  bif decide (i1<(r6.length:Int)) then
   (idx r6 i1).bind fun y1 =>
   (qet n a_0 y1).bind fun r7 =>
   bif (!r7) then
    (idx r6 i1).bind fun y2 =>
    (appS x1 ([y2]:List Int)).bind fun x2 =>
    qby a_0 r6 n x2 (W64 (i1+1))
   else
    qby a_0 r6 n x1 (W64 (i1+1))
  else
   some (x1,i1)
def qdc (a_0:qc) (r2:Tl05Place) (r8:qr):Nat→Int→Option (Flow (List Int) Int)
 | 0,_=>none
 | n+1,i2 =>
  bif decide (i2<(r8.Ar.length:Int)) then
   (
    (idx r8.Ar i2).bind fun y3 =>
    bif (y3.Au==r2.pin) then
     (idx r8.Ar i2).bind fun y4 =>
     some (decide (y4.Am≤3))
    else
     some false).bind fun b3 =>
   bif b3 then
    (qfC n (⟨a_0.Aa.Ab,a_0.Aa.Aj,a_0.Aa.Af⟩:qg) r2.instance_ (W64 ((r8.Aq.length:Int)-1))).bind fun r9 =>
    some (.ret ([r9]:List Int))
   else
    qdc a_0 r2 r8 n (W64 (i2+1))
  else
   some (.nxt i2)
def qgh (n:Nat) (a_0:qc) (a_1:Int):Option (List Int) :=
 (qeH n (⟨a_0.Ac.Ai⟩:qj) (⟨a_0.Aa.Ab,a_0.Aa.Aj,a_0.Aa.Af⟩:qg) a_1).bind fun o=>match o with
  | (r2,_) =>
   (qfs n (⟨a_0.Ac.Ai⟩:qj) (⟨a_0.Aa.Ab,a_0.Aa.Aj,a_0.Aa.Af⟩:qg) a_1).bind fun r4 =>
   (qfM n (⟨a_0.Aa.Ab,a_0.Aa.Aj,a_0.Aa.Af⟩:qg) r4).bind fun r5 =>
   bif (r5==a_1) then
    (qes n (⟨a_0.Aa.Ab,a_0.Aa.Aj,a_0.Aa.Af⟩:qg) r4).bind fun r6 =>
    (qby a_0 r6 n ([]:List Int) 0).bind fun o=>match o with
    | (x1,_) =>
     some x1
   else
    bif decide (r2.instance_<0) then some ([]:List Int) else
    (qe4 n a_0 r2.instance_).bind fun r8 =>
    (qdc a_0 r2 r8 n 0).bind fun o=>match o with
    | .ret r=>some r
    | .nxt _ =>
     some ([]:List Int)
theorem qkk {a_0:qc} {a_1:Int} (ha1:GoT.R w (old w) a_0 cs1) {r:(List Int)} (hF:qgh n a_0 a_1=some r):RetV Tryz.prog 162 [GoT.v qc cs1,.int .i64 a_1] w r:=by
 obtain ⟨p1,k1,p2,k2,p3,k3,p4,k4,p5,k5,rfl,s1,s2,s3,s4,s5⟩:=qT ha1
 refine zV 104 Tryz.func162 rfl fun h=>zSR (qO h rfl rfl fun w1 bb1 h=>X0 4 rfl (ql qb [] _ ([]:List Int) h rfl rfl rfl rfl rfl rfl rfl rfl rfl trivial rfl fun w2 p6 S1 h=>X2 9 1 1 h rfl ?_))
 obtain ⟨r1,hr1,hF⟩:=qe hF
 obtain ⟨r2,r3⟩:=r1
 refine qgb (r2,r3) h (cB 105 rfl) (qgg (qbw _ (h.oldS s1)) (qat _ (h.oldS s2) (h.oldS s3) (h.oldS s4)) hr1) rfl rfl rfl rfl fun w3 S2 us1 hv1 hr2=>?_
 obtain ⟨S3,S4,cs2,us2,rfl,hv2,hr3⟩:=hv1.cons hr2
 obtain rfl:=qbk (hv2.sh.own 0 rfl)
 obtain ⟨rfl,h⟩:=hv2.lastB hr3
 refine zp3 rfl (qx qb h rfl rfl rfl fun w4 bb2 h=>zs 0 h rfl fun w5 h=>X2 9 3 3 h rfl (zcI h hF (qjv (qbw _ (h.oldS s1)) (qat _ (h.oldS s2) (h.oldS s3) (h.oldS s4))) rfl fun r4 w6 h hF=>X1 8 3 h rfl (zcI h hF (qjG (qat _ (h.oldS s2) (h.oldS s3) (h.oldS s4))) rfl fun r5 w7 h hF=>X0 3 rfl (qm rfl hF ?_ ?_))))<;>intro hF
 ·refine X1 5 3 h rfl (zcL h hF (qga (qat _ (h.oldS s2) (h.oldS s3) (h.oldS s4))) rfl fun r6 w8 S6 p7 k6 h hF=>X0 7 rfl ?_)
  obtain ⟨o1,hF,hK1⟩:=qe hF
  refine qq ?_
  replace h:=h.pick [0,3,4] rfl
  refine rL (fun m e w'=>∃ (S7:Nat→Prop) (p8:Option Addr) (ln1:Nat) (k7:Nat) (x1:(List Int)) (i1:Int),qby a_0 r6 m x1 i1=some o1∧e=[(2,.pointer (some ⟨bb1,0,none⟩)),(5,.slice p8 ln1 k7),(9,.slice p7 r6.length k6),(10,.int .i64 i1)]∧SH w w' [Ch.own S6 (r6:List Int) [.slice p7 r6.length k6],Ch.own S7 (x1:List Int) [.slice p8 ln1 k7],Ch.box bb1 (qz a_0 p1 p2 p3 p4 p5 k1 k2 k3 k4 k5) 48]) n ⟨_,_,_,_,_,_,hF,rfl,h⟩ rfl ?_
  rintro m1 e1 w9 ⟨S7,p8,ln1,k7,x1,i1,hF,rfl,h⟩
  obtain rfl:=(h.sl 1 rfl).2
  rcases m1 with _|m1
  ·cases hF
  refine X0 8 rfl (qm rfl hF ?_ ?_)<;>intro hF
  ·refine X0 4 rfl (rD (Y1 1 2 h rfl ?_))
   refine zd2 rfl ?_
   obtain ⟨y1,hy1,hF,he1,b1,_,q1,cs3,hp1,hq1,rfl,hc3⟩:=(h.sl 0 rfl).1.ix hF
   refine zdx hp1 hq1 ⟨he1.1,qN he1.2.1 (h.sl 0 rfl).2⟩ rfl (zdc 0 hc3 rfl ?_)
   obtain ⟨r7,hr9,hF⟩:=qe hF
   refine qcg r7 (vsB _) (cB 192 rfl) (fun _ hb=>qf5 ((h.ext hb).old ha1) hr9) rfl rfl rfl rfl (zd1 rfl (dN h fun w10 h=>qm rfl hF ?_ ?_))<;>intro hF
   ·refine X0 4 rfl ?_
    obtain ⟨y2,hy2,hF,he2,b2,_,q2,cs4,hp2,hq2,rfl,hc5⟩:=(h.sl 0 rfl).1.ix hF
    refine zx hp2 hq2 ⟨he2.1,qN he2.2.1 (h.sl 0 rfl).2⟩ rfl (zc 0 hc5 rfl (ql qb [.tmp 56] _ ([y2]:List Int) h rfl rfl rfl rfl rfl rfl rfl rfl rfl ⟨rfl,trivial⟩ rfl fun w11 p9 S8 h=>?_))
    obtain ⟨x2,hx1,hF⟩:=qe hF
    obtain ⟨g1,hx1⟩:=qw hx1
    refine qak qb 2 h rfl (h.sl 0 rfl).1 (h.sl 0 rfl).2 rfl rfl rfl rfl rfl rfl rfl rfl rfl g1 hx1 rfl fun w12 p10 k8 S9 h=>X0 8 rfl ?_
    replace h:=h.pick [1,2,3] rfl
    exact rK ⟨_,_,_,_,_,_,hF,rfl,h⟩ rfl
   exact X0 7 rfl (rK ⟨_,_,_,_,_,_,hF,rfl,h⟩ rfl)
  refine qy rfl ?_
  obtain rfl:=qd hF;replace hF:=hK1
  refine X0 5 rfl ?_
  obtain rfl:=qd hF
  exact rO 1 h rfl ⟨rfl,trivial⟩
 refine X1 8 0 h rfl (qm rfl hF ?_ ?_)<;>intro hF
 ·refine X0 5 rfl ?_
  obtain rfl:=qd hF
  exact rO 2 h rfl ⟨rfl,trivial⟩
 refine X2 6 3 0 h rfl ?_
 have hg1:Rg (old w) w (old w) w:=.start (fun _ h=>h)
 obtain ⟨r8,hr11,hF⟩:=qe hF
 refine qi3 r8 hg1 h (cB 195 rfl) (qif (hg1.atB h) (hg1.inBR h ha1) hr11) rfl rfl rfl rfl fun w13 us3 S10 h hv4=>?_
 obtain ⟨cs5,rfl,hr12⟩:=qh2 hv4
 have hr13:=hr12
 obtain ⟨p11,k9,p12,k10,p13,k11,rfl,s6,s7,s8⟩:=qQ hr12
 replace h:=h.grpAdd 0 rfl hr13
 refine qx qb h rfl rfl rfl fun w14 bb3 h=>zs 0 h rfl fun w15 h=>X0 6 rfl ?_
 obtain ⟨o2,hF,hK2⟩:=qe hF
 refine qq ?_
 replace h:=h.pick [0,1,2,4,5] rfl
 refine rL (fun m e w'=>∃ (i2:Int),qdc a_0 r2 r8 m i2=some o2∧e=[(2,.pointer (some ⟨bb1,0,none⟩)),(5,.slice p6 0 0),(6,.pointer (some ⟨bb2,0,none⟩)),(11,.pointer (some ⟨bb3,0,none⟩)),(12,.int .i64 i2)]∧SH w w' [Ch.box bb3 (qv r8 p11 p12 p13 k9 k10 k11) 169,Ch.grp (old w) S10 [fct (r8:qr) [.string r8.As,.int .i64 r8.Am,.slice p11 r8.Aq.length k9,.slice p12 r8.Ar.length k10,.slice p13 r8.Bb.length k11,.int .i64 r8.Bo,.int .i64 r8.Bk]],Ch.box bb2 (qgq r2) 150,Ch.own S1 (([]:List Int):List Int) [.slice p6 0 0],Ch.box bb1 (qz a_0 p1 p2 p3 p4 p5 k1 k2 k3 k4 k5) 48]) n ⟨_,hF,rfl,h⟩ rfl ?_
 rintro m2 e2 w16 ⟨i2,hF,rfl,h⟩
 rcases m2 with _|m2
 ·cases hF
 refine X1 9 0 h rfl (qm rfl hF ?_ ?_)<;>intro hF
 ·refine X0 4 rfl ?_
  obtain ⟨KF1,hKF1,o3,hF,hK3⟩:=bindE hF
  refine qa2 (fun e w'=>∃ (b3:Bool),KF1 b3=some o2∧e=[(2,.pointer (some ⟨bb1,0,none⟩)),(5,.slice p6 0 0),(6,.pointer (some ⟨bb2,0,none⟩)),(11,.pointer (some ⟨bb3,0,none⟩)),(12,.int .i64 i2),(92,.bool b3)]∧SH w w' [Ch.box bb3 (qv r8 p11 p12 p13 k9 k10 k11) 169,Ch.grp (old w) S10 [fct (r8:qr) [.string r8.As,.int .i64 r8.Am,.slice p11 r8.Aq.length k9,.slice p12 r8.Ar.length k10,.slice p13 r8.Bb.length k11,.int .i64 r8.Bo,.int .i64 r8.Bk]],Ch.box bb2 (qgq r2) 150,Ch.own S1 (([]:List Int):List Int) [.slice p6 0 0],Ch.box bb1 (qz a_0 p1 p2 p3 p4 p5 k1 k2 k3 k4 k5) 48]) ?_ ?_
  ·refine rD (Y1 2 0 h rfl ?_)
   refine zd1 rfl ?_
   obtain ⟨y3,hy3,hF,he3,b4,_,q3,cs6,hp3,hq3,hr15,hc9⟩:=(qgV (h.grpS 1 0 rfl rfl)).2.1.1.ix hF
   have hr16:=hr15
   obtain ⟨p15,k12,p16,k13,rfl,s9,s10⟩:=qaM hr15
   replace h:=h.grpAdd 1 rfl hr16
   refine zdx hp3 hq3 ⟨he3.1,qN he3.2.1 (qgV (h.grpS 1 1 rfl rfl)).2.1.2⟩ rfl (zd1 rfl (zdc 1 hc9 rfl (Y1 2 2 h rfl ?_)))
   refine zd2 rfl (qaD (t:=84) hF rfl ?_ ?_)<;>intro hF
   ·refine Y1 4 0 h rfl ?_
    refine Y0 3 rfl ?_
    obtain ⟨y4,hy4,hF,he4,b5,_,q4,cs7,hp4,hq4,hr17,hc10⟩:=(qgV (h.grpS 1 1 rfl rfl)).2.1.1.ix hF
    have hr18:=hr17
    obtain ⟨p17,k14,p18,k15,rfl,s11,s12⟩:=qaM hr17
    replace h:=h.grpAdd 1 rfl hr18
    refine zdx hp4 hq4 ⟨he4.1,qN he4.2.1 (qgV (h.grpS 1 2 rfl rfl)).2.1.2⟩ rfl (Y0 3 rfl (zdc 0 hc10 rfl (Y0 3 rfl (dN h fun w19 h=>?_))))
    replace h:=h.grpKeep [2] 1 rfl
    obtain rfl:=qd hF
    exact rG ⟨_,hK3,rfl,h⟩ rfl
   refine Y0 8 rfl (dN h fun w20 h=>?_)
   replace h:=h.grpKeep [1] 1 rfl
   obtain rfl:=qd hF
   exact rG ⟨_,hK3,rfl,h⟩ rfl
  rintro e3 w21 ⟨b3,hF,rfl,h⟩
  subst hKF1
  refine qm rfl hF ?_ ?_<;>intro hF
  ·refine X3 10 4 2 0 h rfl (zcI h hF (qkv (qat _ (h.oldS (s2.mono hg1.old)) (h.oldS (s3.mono hg1.old)) (h.oldS (s4.mono hg1.old)))) rfl fun r9 w17 h hF=>ql qb [.tmp 101] _ ([r9]:List Int) h rfl rfl rfl rfl rfl rfl rfl rfl rfl ⟨rfl,trivial⟩ rfl fun w18 p14 S11 h=>X0 2 rfl ?_)
   replace h:=h.pick [0,1,3,4,5] rfl
   obtain rfl:=qd hF;replace hF:=hK2
   obtain rfl:=qd hF
   exact rO 0 h rfl ⟨rfl,trivial⟩
  exact X0 7 rfl (rK ⟨_,hF,rfl,h⟩ rfl)
 refine qy rfl ?_
 obtain rfl:=qd hF;replace hF:=hK2
 refine X0 5 rfl ?_
 replace h:=h.pick [0,2,3,4] rfl
 obtain rfl:=qd hF
 exact rO 2 h rfl ⟨rfl,trivial⟩
def qb4 (s:Tl01Source) (b:qc):Nat→(List Int)→Int→Int→Int→Int→Option ((List Int) × Int × Int)
 | 0,_,_,_,_,_=>none
 | n+1,x3,i18,i19,i20,i21 =>
  bif decide (i21 > 0) then
   (qgh n b i20).bind fun r3 =>
   bif ((r3.length:Int)==0) then some (x3,i18,i19) else
   (qk n (⟨s.code,i18,i19⟩:Tl01Source) (r3.length:Int)).bind fun o=>match o with
    | (i22,i23,i24) =>
     (idx r3 i22).bind fun y1 =>
     (appS x3 ([y1]:List Int)).bind fun x4 =>
     qb4 s b n x4 i23 i24 y1 (W64 (i21-1))
  else
   some (x3,i18,i19)
def qee (n:Nat) (s:Tl01Source) (b:qc):Option ((List Int) × Int × Int) :=
 (qfW n b).bind fun r1 =>
 (qaB n b).bind fun r2 =>
 (qk n (⟨s.code,s.at_,s.seed⟩:Tl01Source) (if r2 > 1 then r2 else 1)).bind fun o=>match o with
  | (i1,i2,i3) =>
   (
    bif decide ((r1.length:Int) > 0) then
     (qk n (⟨s.code,i2,i3⟩:Tl01Source) 6).bind fun o=>match o with
      | (i28,i29,i30) =>
       some (i29,i30,decide (i28 > 0))
    else
     some (i2,i3,false)).bind fun o=>match o with
    | (i4,i5,b1) =>
     (
      bif b1 then
       (qk n (⟨s.code,i4,i5⟩:Tl01Source) (r1.length:Int)).bind fun o=>match o with
        | (i25,i26,i27) =>
         (idx r1 i25).bind fun y2 =>
         some (i26,i27,y2)
      else
       some (i4,i5,i1)).bind fun o=>match o with
      | (i6,i7,i8) =>
       (qk n (⟨s.code,i6,i7⟩:Tl01Source) 10).bind fun o=>match o with
        | (i9,i10,i11) =>
         (qb4 s b n ([i8]:List Int) i10 i11 i8 (W64 (2+i9))).bind fun o=>match o with
         | (x2,i16,i17) =>
          some (x2,i16,i17)
theorem qgj {n:Nat} {w0 w:World} {F:List Ch} {s:Tl01Source} {bb1:Nat} {p1:Option Addr} {k1:Nat} {b:qc} {cs1:List Value} (h0:SH w0 w (Ch.box bb1 (qaf s p1 k1) 225::F)) (ha1:GoT.R w (Fr w0 F) s [.slice p1 s.code.length k1,.int .i64 s.at_,.int .i64 s.seed]) (ha2:GoT.R w (Fr w0 F) b cs1) {r:((List Int) × Int × Int)} (hF:qee n s b=some r):RetW Tryz.prog 130 [.pointer (some ⟨bb1,0,none⟩),GoT.v qc cs1] w (fun us w'=>∃ (S1:Nat→Prop) (cs2:List Value),us=[GoT.v (List Int) cs2]∧SH w0 w' (Ch.own S1 (r.1:(List Int)) cs2::Ch.box bb1 [.slice p1 s.code.length k1,.int .i64 r.2.1,.int .i64 r.2.2] 225::F)):=by
 have h:=SH.frm1 h0 ha1
 have hz1:=ha2
 obtain ⟨p2,k2,p3,k3,p4,k4,p5,k5,p6,k6,rfl,s1,s2,s3,s4,s5⟩:=qT ha2
 replace h:=h.grpAdd 1 rfl hz1
 replace h:SH _ _ [Ch.box bb1 (qaf s p1 k1) 225,Ch.grp (old w0) (FS F) [fct (b:qc) [.slice p2 b.Ac.Ai.length k2,.slice p3 b.Aa.Ab.length k3,.slice p4 b.Aa.Aj.length k4,.slice p5 b.Aa.Af.length k5,.slice p6 b.Ah.length k6],fct (s:Tl01Source) [.slice p1 s.code.length k1,.int .i64 s.at_,.int .i64 s.seed],same w0 w F]]:=h
 refine qa7 Tryz.func130 rfl (m:=59) rfl rfl (zSR (qO h rfl rfl fun w1 bb2 h=>X1 5 0 h rfl (zcL h hF (qjM (h.grp 2 0 rfl rfl)) rfl fun r1 w2 S2 p7 k7 h hF=>X1 6 1 h rfl (zcI h hF (qbm (h.grp 3 0 rfl rfl)) rfl fun r2 w3 h hF=>zp1 rfl ?_))))
 replace h:=h.pick [2,0,1,3] rfl
 obtain ⟨o1,hr3,hF⟩:=qe hF
 obtain ⟨i1,i2,i3⟩:=o1
 refine qt (cB 132 rfl) (qh (a_0:=(⟨s.code,s.at_,s.seed⟩:Tl01Source)) (a_1:=(if r2 > 1 then r2 else 1)) h (show GoT.R _ _ ((⟨s.code,s.at_,s.seed⟩:Tl01Source):Tl01Source) _ from ⟨[.slice p1 s.code.length k1],[.int .i64 s.at_,.int .i64 s.seed],rfl,⟨_,_,rfl,(qf (h.frG 3 1 1 rfl rfl rfl)).1⟩,⟨[.int .i64 s.at_],[.int .i64 s.seed],rfl,rfl,rfl⟩⟩) hr3) rfl rfl rfl rfl ?_
 rintro w4 us1 ⟨rfl,h⟩
 dsimp only at h
 refine X0 4 rfl ?_
 obtain ⟨KF3,hKF3,o7,hF,hK3⟩:=bindE hF
 refine qa2 (fun e w'=>∃ (i4:Int) (i5:Int) (b1:Bool),KF3 (i4,i5,b1)=some r∧e=[(0,.pointer (some ⟨bb1,0,none⟩)),(3,.pointer (some ⟨bb2,0,none⟩)),(5,.slice p7 r1.length k7),(6,.int .i64 i1),(24,.bool b1)]∧SH w0 w' [Ch.box bb1 [.slice p1 s.code.length k1,.int .i64 i4,.int .i64 i5] 225,Ch.own S2 (r1:List Int) [.slice p7 r1.length k7],Ch.box bb2 (qz b p2 p3 p4 p5 p6 k2 k3 k4 k5 k6) 48,Ch.grp (old w0) (FS F) [fct (b:qc) [.slice p2 b.Ac.Ai.length k2,.slice p3 b.Aa.Ab.length k3,.slice p4 b.Aa.Aj.length k4,.slice p5 b.Aa.Af.length k5,.slice p6 b.Ah.length k6],fct (s:Tl01Source) [.slice p1 s.code.length k1,.int .i64 s.at_,.int .i64 s.seed],same w0 w F]]) ?_ ?_
 ·refine X0 5 rfl (qi (t:=20) hF rfl ?_ ?_)<;>intro hF
  ·refine X0 3 rfl ?_
   obtain ⟨o8,hr10,hF⟩:=qe hF
   obtain ⟨i28,i29,i30⟩:=o8
   refine qt (cB 132 rfl) (qh (a_0:=(⟨s.code,i2,i3⟩:Tl01Source)) (a_1:=6) h (show GoT.R _ _ ((⟨s.code,i2,i3⟩:Tl01Source):Tl01Source) _ from ⟨[.slice p1 s.code.length k1],[.int .i64 i2,.int .i64 i3],rfl,⟨_,_,rfl,(qf (h.frG 3 1 1 rfl rfl rfl)).1⟩,⟨[.int .i64 i2],[.int .i64 i3],rfl,rfl,rfl⟩⟩) hr10) rfl rfl rfl rfl ?_
   rintro w15 us5 ⟨rfl,h⟩
   dsimp only at h
   refine X0 4 rfl ?_
   obtain rfl:=qd hF
   exact rG ⟨_,_,_,hK3,rfl,h⟩ rfl
  refine X0 5 rfl ?_
  obtain rfl:=qd hF
  exact rG ⟨_,_,_,hK3,rfl,h⟩ rfl
 rintro e4 w16 ⟨i4,i5,b1,hF,rfl,h⟩
 subst hKF3
 obtain ⟨KF2,hKF2,o5,hF,hK2⟩:=bindE hF
 refine qa2 (fun e w'=>∃ (i6:Int) (i7:Int) (i8:Int),KF2 (i6,i7,i8)=some r∧e=[(0,.pointer (some ⟨bb1,0,none⟩)),(3,.pointer (some ⟨bb2,0,none⟩)),(6,.int .i64 i8)]∧SH w0 w' [Ch.box bb1 [.slice p1 s.code.length k1,.int .i64 i6,.int .i64 i7] 225,Ch.box bb2 (qz b p2 p3 p4 p5 p6 k2 k3 k4 k5 k6) 48,Ch.grp (old w0) (FS F) [fct (b:qc) [.slice p2 b.Ac.Ai.length k2,.slice p3 b.Aa.Ab.length k3,.slice p4 b.Aa.Aj.length k4,.slice p5 b.Aa.Af.length k5,.slice p6 b.Ah.length k6],fct (s:Tl01Source) [.slice p1 s.code.length k1,.int .i64 s.at_,.int .i64 s.seed],same w0 w F]]) ?_ ?_
 ·refine qm rfl hF ?_ ?_<;>intro hF
  ·refine X0 5 rfl ?_
   obtain ⟨o6,hr8,hF⟩:=qe hF
   obtain ⟨i25,i26,i27⟩:=o6
   refine qt (cB 132 rfl) (qh (a_0:=(⟨s.code,i4,i5⟩:Tl01Source)) (a_1:=(r1.length:Int)) h (show GoT.R _ _ ((⟨s.code,i4,i5⟩:Tl01Source):Tl01Source) _ from ⟨[.slice p1 s.code.length k1],[.int .i64 i4,.int .i64 i5],rfl,⟨_,_,rfl,(qf (h.frG 3 1 1 rfl rfl rfl)).1⟩,⟨[.int .i64 i4],[.int .i64 i5],rfl,rfl,rfl⟩⟩) hr8) rfl rfl rfl rfl ?_
   rintro w13 us4 ⟨rfl,h⟩
   dsimp only at h
   obtain ⟨y2,hy2,hF,he2,b3,_,q2,cs4,hp2,hq2,rfl,hc5⟩:=(h.sl 1 rfl).1.ix hF
   refine zx hp2 hq2 ⟨he2.1,qN he2.2.1 (h.sl 1 rfl).2⟩ rfl (zc 0 hc5 rfl (X0 2 rfl ?_))
   replace h:=h.pick [0,2,3] rfl
   obtain rfl:=qd hF
   exact rG ⟨_,_,_,hK2,rfl,h⟩ rfl
  refine qcV ?_
  replace h:=h.pick [0,2,3] rfl
  obtain rfl:=qd hF
  exact rG ⟨_,_,_,hK2,rfl,h⟩ rfl
 rintro e3 w14 ⟨i6,i7,i8,hF,rfl,h⟩
 subst hKF2
 refine X0 3 rfl (ql qb [.tmp 32] _ ([i8]:List Int) h rfl rfl rfl rfl rfl rfl rfl rfl rfl ⟨rfl,trivial⟩ rfl fun w5 p8 S3 h=>X0 6 rfl ?_)
 replace h:=h.pick [1,0,2,3] rfl
 obtain ⟨o2,hr4,hF⟩:=qe hF
 obtain ⟨i9,i10,i11⟩:=o2
 refine qt (cB 132 rfl) (qh (a_0:=(⟨s.code,i6,i7⟩:Tl01Source)) (a_1:=10) h (show GoT.R _ _ ((⟨s.code,i6,i7⟩:Tl01Source):Tl01Source) _ from ⟨[.slice p1 s.code.length k1],[.int .i64 i6,.int .i64 i7],rfl,⟨_,_,rfl,(qf (h.frG 3 1 1 rfl rfl rfl)).1⟩,⟨[.int .i64 i6],[.int .i64 i7],rfl,rfl,rfl⟩⟩) hr4) rfl rfl rfl rfl ?_
 rintro w6 us2 ⟨rfl,h⟩
 dsimp only at h
 refine X0 3 rfl ?_
 obtain ⟨KF1,hKF1,o3,hF,hK1⟩:=bindE hF
 refine qa2 (fun e w'=>∃ (S5:Nat→Prop) (p10:Option Addr) (ln2:Nat) (k9:Nat) (x2:(List Int)) (i16:Int) (i17:Int),KF1 (x2,i16,i17)=some r∧e=[(7,.slice p10 ln2 k9)]∧SH w0 w' [Ch.box bb1 [.slice p1 s.code.length k1,.int .i64 i16,.int .i64 i17] 225,Ch.own S5 (x2:List Int) [.slice p10 ln2 k9],Ch.grp (old w0) (FS F) [fct (s:Tl01Source) [.slice p1 s.code.length k1,.int .i64 s.at_,.int .i64 s.seed],same w0 w F]]) ?_ ?_
 ·refine qq (rL (fun m e w'=>∃ (S6:Nat→Prop) (p11:Option Addr) (ln3:Nat) (k10:Nat) (x3:(List Int)) (i18:Int) (i19:Int) (i20:Int) (i21:Int),qb4 s b m x3 i18 i19 i20 i21=some o3∧e=[(0,.pointer (some ⟨bb1,0,none⟩)),(3,.pointer (some ⟨bb2,0,none⟩)),(6,.int .i64 i20),(7,.slice p11 ln3 k10),(8,.int .i64 i21)]∧SH w0 w' [Ch.box bb1 [.slice p1 s.code.length k1,.int .i64 i18,.int .i64 i19] 225,Ch.own S6 (x3:List Int) [.slice p11 ln3 k10],Ch.box bb2 (qz b p2 p3 p4 p5 p6 k2 k3 k4 k5 k6) 48,Ch.grp (old w0) (FS F) [fct (b:qc) [.slice p2 b.Ac.Ai.length k2,.slice p3 b.Aa.Ab.length k3,.slice p4 b.Aa.Aj.length k4,.slice p5 b.Aa.Af.length k5,.slice p6 b.Ah.length k6],fct (s:Tl01Source) [.slice p1 s.code.length k1,.int .i64 s.at_,.int .i64 s.seed],same w0 w F]]) n ⟨_,_,_,_,_,_,_,_,_,hF,rfl,h⟩ rfl ?_)
  rintro m1 e1 w7 ⟨S6,p11,ln3,k10,x3,i18,i19,i20,i21,hF,rfl,h⟩
  obtain rfl:=(h.sl 1 rfl).2
  rcases m1 with _|m1
  ·cases hF
  refine X0 6 rfl (qm rfl hF ?_ ?_)<;>intro hF
  ·refine X1 7 2 h rfl (zcL h hF (qkk (h.grp 3 0 rfl rfl)) rfl fun r3 w8 S7 p12 k11 h hF=>X0 9 rfl (qm rfl hF ?_ ?_))<;>intro hF
   ·refine qy rfl ?_
    replace h:=h.grpKeep [1,2] 4 rfl
    replace h:=h.pick [1,2,4] rfl
    obtain rfl:=qd hF
    exact rG ⟨_,_,_,_,_,_,_,hK1,rfl,h⟩ rfl
   refine X0 7 rfl ?_
   replace h:=h.pick [1,0,2,3,4] rfl
   obtain ⟨o4,hr6,hF⟩:=qe hF
   obtain ⟨i22,i23,i24⟩:=o4
   refine qt (cB 132 rfl) (qh (a_0:=(⟨s.code,i18,i19⟩:Tl01Source)) (a_1:=(r3.length:Int)) h (show GoT.R _ _ ((⟨s.code,i18,i19⟩:Tl01Source):Tl01Source) _ from ⟨[.slice p1 s.code.length k1],[.int .i64 i18,.int .i64 i19],rfl,⟨_,_,rfl,(qf (h.frG 4 1 1 rfl rfl rfl)).1⟩,⟨[.int .i64 i18],[.int .i64 i19],rfl,rfl,rfl⟩⟩) hr6) rfl rfl rfl rfl ?_
   rintro w9 us3 ⟨rfl,h⟩
   dsimp only at h
   obtain ⟨y1,hy1,hF,he1,b2,_,q1,cs3,hp1,hq1,rfl,hc3⟩:=(h.sl 1 rfl).1.ix hF
   refine zx hp1 hq1 ⟨he1.1,qN he1.2.1 (h.sl 1 rfl).2⟩ rfl (zc 0 hc3 rfl (X0 5 rfl (ql qb [.tmp 55] _ ([y1]:List Int) h rfl rfl rfl rfl rfl rfl rfl rfl rfl ⟨rfl,trivial⟩ rfl fun w10 p13 S8 h=>?_)))
   obtain ⟨x4,hx1,hF⟩:=qe hF
   obtain ⟨g1,hx1⟩:=qw hx1
   refine qak qb 3 h rfl (h.sl 0 rfl).1 (h.sl 0 rfl).2 rfl rfl rfl rfl rfl rfl rfl rfl rfl g1 hx1 rfl fun w11 p14 k12 S9 h=>X0 8 rfl ?_
   replace h:=h.pick [1,3,4,5] rfl
   exact rK ⟨_,_,_,_,_,_,_,_,_,hF,rfl,h⟩ rfl
  refine qy rfl ?_
  replace h:=h.grpKeep [1,2] 3 rfl
  replace h:=h.pick [0,1,3] rfl
  obtain rfl:=qd hF
  exact rG ⟨_,_,_,_,_,_,_,hK1,rfl,h⟩ rfl
 rintro e2 w12 ⟨S5,p10,ln2,k9,x2,i16,i17,hF,rfl,h⟩
 subst hKF1
 obtain rfl:=(h.sl 1 rfl).2
 refine X0 5 rfl ?_
 obtain rfl:=qd hF
 replace h:=h.pick [1,0,2] rfl
 exact qbd qb [GoT.v (List Int) [.slice p10 x2.length k9]] ⟨rfl,trivial⟩ ⟨_,_,rfl,SH.unfr 1 1 h0 h rfl rfl⟩
end Go.Fw


namespace Go.Fw
open Go
structure GCell (b q:Nat) (cs:List Value) where
 ok:Bool
instance gt_GCell {b q:Nat} {cs:List Value}:GoT (GCell b q cs) where
 k:=1
 agg:=false
 zero:=⟨false⟩
 zc:=[.pointer none]
 R w S x ds:=ds=[.pointer none]∧(x.ok=true→S b∧CellsAt w b q cs)
 O w S x ds:=ds=[.pointer none]∧(x.ok=true→S b∧CellsAt w b q cs)
 kpos:=by decide
 noagg _:=rfl
 len {w S x ds} h:=by obtain ⟨rfl,_⟩:=h;rfl
 one {w S x ds} h:=by obtain ⟨rfl,_⟩:=h;simp [Value.oneCell']
 loc {w w' S x ds} h hs:=⟨h.1,fun hx=>⟨(h.2 hx).1,(h.2 hx).2.loc (hs _ (h.2 hx).1)⟩⟩
 mono {w S S' x ds} h hs:=⟨h.1,fun hx=>⟨hs _ (h.2 hx).1,(h.2 hx).2⟩⟩
 toR h:=h
 locO {w w' S x ds} h hs:=⟨h.1,fun hx=>⟨(h.2 hx).1,(h.2 hx).2.loc (hs _ (h.2 hx).1)⟩⟩
 monoO {w S S' x ds} h hs:=⟨h.1,fun hx=>⟨hs _ (h.2 hx).1,(h.2 hx).2⟩⟩
 zO _ _:=⟨rfl,fun h=>by cases h⟩
section
variable {w:World} {S:Nat→Prop} {b q:Nat} {cs:List Value}
theorem gcell (hS:S b) (h:CellsAt w b q cs):GoT.R w S (⟨true⟩:GCell b q cs) [.pointer none]:=⟨rfl,fun _=>⟨hS,h⟩⟩
theorem gcellAt (h:GoT.R w S (⟨true⟩:GCell b q cs) [.pointer none]):CellsAt w b q cs:=(h.2 rfl).2
theorem SlR.ixS {α β:Type} [GoT α] {xs:List α} {p:Option Addr} {c:Nat} {i:Int} {f:α→Option β} {r:β} (h:SlR w S xs p c) (hF:(idx xs i).bind f=some r) :
  ∃ y,idx xs i=some y∧f y=some r∧(0≤i∧i<xs.length∧xs[i.toNat]?=some y)∧∃ b o q cs,p=some ⟨b,o,none⟩∧q=o+i.toNat*GoT.k α∧S b∧GoT.R w S y cs∧CellsAt w b q cs:=by
 obtain ⟨y,hy,hF⟩:=qe hF
 obtain ⟨b,o,q,cs,h1,h2,h3,h4,h5⟩:=h.at hy
 exact ⟨y,hy,hF,qax hy,b,o,q,cs,h1,h2,h3,h4,h5⟩
end
end Go.Fw
