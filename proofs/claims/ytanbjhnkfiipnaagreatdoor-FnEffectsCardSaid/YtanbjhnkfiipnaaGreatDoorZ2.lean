/- By a program of mine (gen.py): for each function a plain function and the proof that the code computes it. -/
import Derived.Test.YtanbjhnkfiipnaaGreatDoorG1
open Option renaming bind_some → je
open Nat renaming le_refl → jf, le_of_ble_eq_true → jr, lt_of_lt_of_le → js, mul_le_mul_right → jt, zero_le → jw, succ_mul → jE, le_trans → jR, zero_add → jS
open List renaming length_append → jg, length_singleton → jj, getElem?_eq_getElem → jm, mem_cons_of_mem → jo, mem_cons_self → jp, getElem_mem → jq, mem_of_getElem? → ju, eq_nil_of_length_eq_zero → jx, getD_eq_getElem?_getD → jy, not_mem_nil → jz, length_map → jB, getElem?_append_left → jC, getElem?_take → jF, getElem?_toArray → jG, getElem?_append_right → jH, mem_cons → jI, size_toArray → jJ, append_nil → jL, getElem_of_mem → jM, take_length → jN, append_assoc → jO, all_eq_true → jQ
open Bool renaming and_eq_true → jh, eq_iff_iff → jk, true_and → jv, not_eq_true' → jD, and_assoc → jP, not_true → jT
open Go.Result renaming andThen_ok → ji
open Go.Sem renaming run_bind → jl, run_pure → jn
open Int renaming toNat_natCast → jA
open Array renaming getElem?_append_left → jK

namespace Go.Fw
open Go Go.Proofs
open Go.RowKit (Below)
set_option maxRecDepth 100000
set_option maxHeartbeats 6400000
variable {n:Nat} {w:World} {cs1 cs2 cs3 cs4 cs5 cs6 cs7 cs8 cs9:List Value}
def ql (_:Nat) (a_0:Tl01Source) (a_1:Int):Option (Int × Int × Int) :=
 bif decide (a_1≤1) then some (0,a_0.at_,a_0.seed) else
 bif decide (a_0.at_<(a_0.code.length:Int)) then
  (idx a_0.code a_0.at_).bind fun y1 =>
  bif decide (a_1≤256) then
   (remS (W64 y1.val) a_1).bind fun y2 =>
   some (y2,W64 (a_0.at_+1),a_0.seed)
  else
   (remS ((W64 ((W64 ((W64 (a_0.seed*48271))+(W64 y1.val)))+1)).tmod 2147483647) a_1).bind fun y3 =>
   some (y3,W64 (a_0.at_+1),(W64 ((W64 ((W64 (a_0.seed*48271))+(W64 y1.val)))+1)).tmod 2147483647)
 else
  (remS (W64 (((W64 ((W64 (a_0.seed*48271))+11)).tmod 2147483647).tdiv 7)) a_1).bind fun y4 =>
  some (y4,a_0.at_,(W64 ((W64 (a_0.seed*48271))+11)).tmod 2147483647)
theorem qi {n:Nat} {w0 w:World} {F:List Ch} {a_0:Tl01Source} {bb1:Nat} {p1:Option Addr} {k1:Nat} {a_1:Int} (h0:SH w0 w (Ch.box bb1 (qh a_0 p1 k1) 108::F)) (ha1:GoT.R w (Fr w0 F) a_0 [.slice p1 a_0.code.length k1,.int .i64 a_0.at_,.int .i64 a_0.seed]) {r:(Int × Int × Int)} (hF:ql n a_0 a_1=some r):RetW Tryz.prog 32 [.pointer (some ⟨bb1,0,none⟩),.int .i64 a_1] w (fun us w'=>us=[.int .i64 r.1]∧SH w0 w' (Ch.box bb1 [.slice p1 a_0.code.length k1,.int .i64 r.2.1,.int .i64 r.2.2] 108::F)):=by
 have h:=SH.frame [Ch.box bb1 (qh a_0 p1 k1) 108] h0
 replace h:=h.grpAdd 1 rfl ha1
 replace h:SH _ _ [Ch.box bb1 (qh a_0 p1 k1) 108,Ch.grp (old w0) (FS F) [fct (a_0:Tl01Source) [.slice p1 a_0.code.length k1,.int .i64 a_0.at_,.int .i64 a_0.seed],same w0 w F]]:=h
 refine qbi Tryz.func32 rfl (m:=76) rfl rfl (X0 10 rfl (qm rfl hF ?_ ?_))<;>intro hF
 ·refine X0 4 rfl ?_
  obtain rfl:=qd hF
  replace h:SH _ _ [Ch.box bb1 (qh a_0 p1 k1) 108,Ch.grp (old w0) (FS F) [fct (a_0:Tl01Source) [.slice p1 a_0.code.length k1,.int .i64 a_0.at_,.int .i64 a_0.seed],same w0 w F]]:=h
  exact qbp qb [.int .i64 0] ⟨rfl,trivial⟩ ⟨rfl,SH.unframe 1 (L0:=[Ch.box bb1 (qh a_0 p1 k1) 108]) h0 [Ch.box bb1 (qh a_0 p1 k1) 108] h rfl⟩
 refine zKSS (rD (Y1 4 0 h rfl ?_))
 refine Y1 4 0 h rfl ?_
 refine zd2 rfl (dN h fun w1 h=>qm rfl hF ?_ ?_)<;>intro hF
 ·refine qfd (rD (Y1 4 0 h rfl ?_))
  refine Y1 4 0 h rfl ?_
  obtain ⟨y1,hy1,hF,he1,b1,_,q1,cs1,hp1,hq1,rfl,hc3⟩:=(qf (h.grp 1 0 rfl rfl)).1.ix hF
  refine zdx hp1 hq1 ⟨he1.1,qab he1.2.1 (qf (h.grp 1 0 rfl rfl)).2⟩ rfl (zdc 0 hc3 rfl (zd2 rfl (dN h fun w2 h=>X1 9 0 h rfl (zs 0 h rfl fun w3 h=>X0 7 rfl (qm rfl hF ?_ ?_)))))<;>intro hF
  ·refine X0 4 rfl ?_
   obtain ⟨y2,hx1,hF⟩:=qe hF
   obtain ⟨g1,hx1⟩:=qji hx1
   refine r_v (qms g1 hx1 rfl rfl) rfl (X0 2 rfl ?_)
   obtain rfl:=qd hF
   replace h:SH _ _ [Ch.box bb1 [.slice p1 a_0.code.length k1,.int .i64 (W64 (a_0.at_+1)),.int .i64 a_0.seed] 108,Ch.grp (old w0) (FS F) [fct (a_0:Tl01Source) [.slice p1 a_0.code.length k1,.int .i64 a_0.at_,.int .i64 a_0.seed],same w0 w F]]:=h
   exact qbp qb [.int .i64 y2] ⟨rfl,trivial⟩ ⟨rfl,SH.unframe 1 (L0:=[Ch.box bb1 (qh a_0 p1 k1) 108]) h0 [Ch.box bb1 [.slice p1 a_0.code.length k1,.int .i64 (W64 (a_0.at_+1)),.int .i64 a_0.seed] 108] h rfl⟩
  refine X1 15 0 h rfl (zs 0 h rfl fun w4 h=>X1 8 0 h rfl ?_)
  obtain ⟨y3,hx2,hF⟩:=qe hF
  obtain ⟨g2,hx2⟩:=qji hx2
  refine r_v (qms g2 hx2 rfl rfl) rfl (X0 2 rfl ?_)
  obtain rfl:=qd hF
  replace h:SH _ _ [Ch.box bb1 [.slice p1 a_0.code.length k1,.int .i64 (W64 (a_0.at_+1)),.int .i64 ((W64 ((W64 ((W64 (a_0.seed*48271))+(W64 y1.val)))+1)).tmod 2147483647)] 108,Ch.grp (old w0) (FS F) [fct (a_0:Tl01Source) [.slice p1 a_0.code.length k1,.int .i64 a_0.at_,.int .i64 a_0.seed],same w0 w F]]:=h
  exact qbp qb [.int .i64 y3] ⟨rfl,trivial⟩ ⟨rfl,SH.unframe 1 (L0:=[Ch.box bb1 (qh a_0 p1 k1) 108]) h0 [Ch.box bb1 [.slice p1 a_0.code.length k1,.int .i64 (W64 (a_0.at_+1)),.int .i64 ((W64 ((W64 ((W64 (a_0.seed*48271))+(W64 y1.val)))+1)).tmod 2147483647)] 108] h rfl⟩
 refine X1 13 0 h rfl (zs 0 h rfl fun w5 h=>X1 9 0 h rfl ?_)
 obtain ⟨y4,hx3,hF⟩:=qe hF
 obtain ⟨g3,hx3⟩:=qji hx3
 refine r_v (qms g3 hx3 rfl rfl) rfl (X0 2 rfl ?_)
 obtain rfl:=qd hF
 replace h:SH _ _ [Ch.box bb1 [.slice p1 a_0.code.length k1,.int .i64 a_0.at_,.int .i64 ((W64 ((W64 (a_0.seed*48271))+11)).tmod 2147483647)] 108,Ch.grp (old w0) (FS F) [fct (a_0:Tl01Source) [.slice p1 a_0.code.length k1,.int .i64 a_0.at_,.int .i64 a_0.seed],same w0 w F]]:=h
 exact qbp qb [.int .i64 y4] ⟨rfl,trivial⟩ ⟨rfl,SH.unframe 1 (L0:=[Ch.box bb1 (qh a_0 p1 k1) 108]) h0 [Ch.box bb1 [.slice p1 a_0.code.length k1,.int .i64 a_0.at_,.int .i64 ((W64 ((W64 (a_0.seed*48271))+11)).tmod 2147483647)] 108] h rfl⟩
def qep (c:qv) (y1:Int):Nat→Bool→Bool→Int→Option (Bool × Bool × Int)
 | 0,_,_,_=>none
 | n+1,b1,b2,i1 =>
  bif decide (i1<(c.Bb.length:Int)) then
   bif ((bitS .and .i64 i1 y1) != 0) then qep c y1 n b1 b2 (W64 (i1+1)) else
   (
    bif b1 then some true else
    (idx c.Bb i1).bind fun y4 =>
    (idx c.Bb (W64 (i1+y1))).bind fun y5 =>
    some (decide (y4<y5))).bind fun b3 =>
   bif b2 then qep c y1 n b3 true (W64 (i1+1)) else
   (idx c.Bb i1).bind fun y2 =>
   (idx c.Bb (W64 (i1+y1))).bind fun y3 =>
   qep c y1 n b3 (decide (y2 > y3)) (W64 (i1+1))
  else
   some (b1,b2,i1)
def qhU (n:Nat) (c:qv) (pin:Int):Option Int :=
 (shlS 1 (IntKind.wrap .u64 pin)).bind fun y1 =>
 (qep c y1 n false false 0).bind fun o=>match o with
 | (b1,b2,_) =>
  (
   bif b1 then some b2 else
   some false).bind fun b8 =>
  bif b8 then some 3 else
  bif b1 then some 1 else
  bif b2 then some 2 else
  some 0
theorem qki {c:qv} {pin:Int} (ha1:GoT.R w (old w) c cs1) {r:Int} (hF:qhU n c pin=some r):RetV Tryz.prog 155 [GoT.v qv cs1,.int .i64 pin] w r:=by
 obtain ⟨p1,k1,p2,k2,p3,k3,rfl,s1,s2,s3⟩:=qQ ha1
 refine zV 64 Tryz.func155 rfl fun h=>zSR (qS h rfl rfl fun w1 bb1 h=>X0 11 rfl ?_)
 obtain ⟨y1,hx1,hF⟩:=qe hF
 obtain ⟨g1,hx1⟩:=qjh hx1
 refine r_v (qn2 g1 rfl rfl) rfl ?_
 rw [hx1]
 refine X0 7 rfl ?_
 obtain ⟨o1,hF,hK1⟩:=qe hF
 refine qu (rL (fun m e w'=>∃ (b1:Bool) (b2:Bool) (i1:Int),qep c y1 m b1 b2 i1=some o1∧e=[(2,.pointer (some ⟨bb1,0,none⟩)),(5,.bool b1),(6,.bool b2),(7,.int .i64 y1),(8,.int .i64 i1)]∧SH w w' [Ch.box bb1 (qy c p1 p2 p3 k1 k2 k3) 128]) n ⟨_,_,_,hF,rfl,h⟩ rfl ?_)
 rintro m1 e1 w2 ⟨b1,b2,i1,hF,rfl,h⟩
 rcases m1 with _|m1
 ·cases hF
 refine X1 9 0 h rfl (qm rfl hF ?_ ?_)<;>intro hF
 ·refine X0 8 rfl (r_v (qp6 rfl rfl rfl) rfl (X0 2 rfl (qm rfl hF ?_ ?_)))<;>intro hF
  ·exact qA rfl (X0 5 rfl (rK ⟨_,_,_,hF,rfl,h⟩ rfl))
  refine zKS ?_
  obtain ⟨KF1,hKF1,o2,hF,hK2⟩:=bindE hF
  refine qaV (fun e w'=>∃ (b3:Bool),KF1 b3=some o1∧e=[(2,.pointer (some ⟨bb1,0,none⟩)),(5,.bool b3),(6,.bool b2),(7,.int .i64 y1),(8,.int .i64 i1)]∧SH w w' [Ch.box bb1 (qy c p1 p2 p3 k1 k2 k3) 128]) ?_ ?_
  ·refine rD (zd2 rfl (qaJ (t:=24) hF rfl ?_ ?_))<;>intro hF
   ·refine Y0 15 rfl (dN h fun w5 h=>?_)
    obtain rfl:=qd hF
    exact rG ⟨_,hK2,rfl,h⟩ rfl
   refine Y1 4 0 h rfl ?_
   refine Y0 3 rfl ?_
   obtain ⟨y4,hy3,hF,he3,b6,_,q3,cs4,hp3,hq3,rfl,hc5⟩:=s3.ix hF
   refine zdxe hp3 hq3 he3 rfl (Y0 1 rfl (zdc 0 (hc5.below h.below) rfl (Y1 4 0 h rfl ?_)))
   refine Y0 7 rfl ?_
   obtain ⟨y5,hy4,hF,he4,b7,_,q4,cs5,hp4,hq4,rfl,hc6⟩:=s3.ix hF
   refine zdxe hp4 hq4 he4 rfl (Y0 1 rfl (zdc 0 (hc6.below h.below) rfl (Y0 4 rfl (dN h fun w6 h=>?_))))
   obtain rfl:=qd hF
   exact rG ⟨_,hK2,rfl,h⟩ rfl
  rintro e2 w7 ⟨b3,hF,rfl,h⟩
  subst hKF1
  refine rD (zd2 rfl (qaJ (t:=40) hF rfl ?_ ?_))<;>intro hF
  ·exact Y0 15 rfl (dN h fun w3 h=>X0 6 rfl (rK ⟨_,_,_,hF,rfl,h⟩ rfl))
  refine Y1 4 0 h rfl ?_
  refine Y0 3 rfl ?_
  obtain ⟨y2,hy1,hF,he1,b4,_,q1,cs2,hp1,hq1,rfl,hc3⟩:=s3.ix hF
  refine zdxe hp1 hq1 he1 rfl (Y0 1 rfl (zdc 0 (hc3.below h.below) rfl (Y1 4 0 h rfl ?_)))
  refine Y0 7 rfl ?_
  obtain ⟨y3,hy2,hF,he2,b5,_,q2,cs3,hp2,hq2,rfl,hc4⟩:=s3.ix hF
  exact zdxe hp2 hq2 he2 rfl (Y0 1 rfl (zdc 0 (hc4.below h.below) rfl (Y0 4 rfl (dN h fun w4 h=>X0 6 rfl (rK ⟨_,_,_,hF,rfl,h⟩ rfl)))))
 refine qA rfl ?_
 obtain rfl:=qd hF;replace hF:=hK1
 refine X0 3 rfl ?_
 obtain ⟨KF2,hKF2,o3,hF,hK3⟩:=bindE hF
 refine qaV (fun e w'=>∃ (b8:Bool),KF2 b8=some r∧e=[(5,.bool b1),(6,.bool b2),(55,.bool b8)]∧SH w w' []) ?_ ?_
 ·refine X0 3 rfl (qj (t:=57) hF rfl ?_ ?_)<;>intro hF
  ·refine X0 5 rfl ?_
   replace h:=h.pick [] rfl
   obtain rfl:=qd hF
   exact rG ⟨_,hK3,rfl,h⟩ rfl
  refine X0 4 rfl ?_
  replace h:=h.pick [] rfl
  obtain rfl:=qd hF
  exact rG ⟨_,hK3,rfl,h⟩ rfl
 rintro e3 w8 ⟨b8,hF,rfl,h⟩
 subst hKF2
 refine qm rfl hF ?_ ?_<;>intro hF
 ·exact X0 4 rfl (ri h hF rfl)
 refine X0 5 rfl (qm rfl hF ?_ ?_)<;>intro hF
 ·exact X0 4 rfl (ri h hF rfl)
 refine X0 5 rfl (qm rfl hF ?_ ?_)<;>intro hF
 ·exact X0 4 rfl (ri h hF rfl)
 exact X0 6 rfl (ri h hF rfl)
def qce (s:Tl01Source) (step:Int):Nat→(List Int)→Int→Int→Int→Int→Option ((List Int) × Int × Int × Int × Int)
 | 0,_,_,_,_,_=>none
 | n+1,x1,i7,i8,i9,i10 =>
  bif decide (i10 > 0) then
   (appS x1 ([i9]:List Int)).bind fun x2 =>
   (ql n (⟨s.code,i7,i8⟩:Tl01Source) step).bind fun o=>match o with
    | (i11,i12,i13) =>
     qce s step n x2 i12 i13 (W64 ((W64 (i9+1))+i11)) (W64 (i10-1))
  else
   some (x1,i7,i8,i9,i10)
def qes (n:Nat) (s:Tl01Source) (step:Int):Option ((List Int) × Int × Int) :=
 (ql n (⟨s.code,s.at_,s.seed⟩:Tl01Source) step).bind fun o=>match o with
  | (i1,i2,i3) =>
   (ql n (⟨s.code,i2,i3⟩:Tl01Source) 3).bind fun o=>match o with
    | (i4,i5,i6) =>
     (qce s step n ([]:List Int) i5 i6 i1 (W64 (1+i4))).bind fun o=>match o with
     | (x1,i7,i8,_,_) =>
      some (x1,i7,i8)
theorem qgY {n:Nat} {w0 w:World} {F:List Ch} {s:Tl01Source} {bb1:Nat} {p1:Option Addr} {k1:Nat} {step:Int} (h0:SH w0 w (Ch.box bb1 (qh s p1 k1) 108::F)) (ha1:GoT.R w (Fr w0 F) s [.slice p1 s.code.length k1,.int .i64 s.at_,.int .i64 s.seed]) {r:((List Int) × Int × Int)} (hF:qes n s step=some r):RetW Tryz.prog 185 [.pointer (some ⟨bb1,0,none⟩),.int .i64 step] w (fun us w'=>∃ (S1:Nat→Prop) (cs1:List Value),us=[GoT.v (List Int) cs1]∧SH w0 w' (Ch.own S1 (r.1:(List Int)) cs1::Ch.box bb1 [.slice p1 s.code.length k1,.int .i64 r.2.1,.int .i64 r.2.2] 108::F)):=by
 have h:=SH.frame [Ch.box bb1 (qh s p1 k1) 108] h0
 replace h:=h.grpAdd 1 rfl ha1
 replace h:SH _ _ [Ch.box bb1 (qh s p1 k1) 108,Ch.grp (old w0) (FS F) [fct (s:Tl01Source) [.slice p1 s.code.length k1,.int .i64 s.at_,.int .i64 s.seed],same w0 w F]]:=h
 refine qbi Tryz.func185 rfl (m:=30) rfl rfl (X0 6 rfl (qn qb [] _ ([]:List Int) h rfl rfl rfl rfl rfl rfl rfl rfl rfl trivial rfl fun w1 p2 S2 h=>X0 6 rfl ?_))
 replace h:=h.pick [1,0,2] rfl
 obtain ⟨o1,hr1,hF⟩:=qe hF
 obtain ⟨i1,i2,i3⟩:=o1
 refine qz (cB 32 rfl) (qi (a_0:=(⟨s.code,s.at_,s.seed⟩:Tl01Source)) (a_1:=step) h ⟨[.slice p1 s.code.length k1],[.int .i64 s.at_,.int .i64 s.seed],rfl,⟨_,_,rfl,(qf (h.frG 2 0 1 rfl rfl rfl)).1⟩,⟨[.int .i64 s.at_],[.int .i64 s.seed],rfl,rfl,rfl⟩⟩ hr1) rfl rfl rfl rfl ?_
 rintro w2 us1 ⟨rfl,h⟩
 replace h:SH _ _ [Ch.box bb1 [.slice p1 s.code.length k1,.int .i64 i2,.int .i64 i3] 108,Ch.own S2 (([]:List Int):List Int) [.slice p2 0 0],Ch.grp (old w0) (FS F) [fct (s:Tl01Source) [.slice p1 s.code.length k1,.int .i64 s.at_,.int .i64 s.seed],same w0 w F]]:=h
 refine X0 6 rfl ?_
 obtain ⟨o2,hr2,hF⟩:=qe hF
 obtain ⟨i4,i5,i6⟩:=o2
 refine qz (cB 32 rfl) (qi (a_0:=(⟨s.code,i2,i3⟩:Tl01Source)) (a_1:=3) h ⟨[.slice p1 s.code.length k1],[.int .i64 i2,.int .i64 i3],rfl,⟨_,_,rfl,(qf (h.frG 2 0 1 rfl rfl rfl)).1⟩,⟨[.int .i64 i2],[.int .i64 i3],rfl,rfl,rfl⟩⟩ hr2) rfl rfl rfl rfl ?_
 rintro w3 us2 ⟨rfl,h⟩
 replace h:SH _ _ [Ch.box bb1 [.slice p1 s.code.length k1,.int .i64 i5,.int .i64 i6] 108,Ch.own S2 (([]:List Int):List Int) [.slice p2 0 0],Ch.grp (old w0) (FS F) [fct (s:Tl01Source) [.slice p1 s.code.length k1,.int .i64 s.at_,.int .i64 s.seed],same w0 w F]]:=h
 refine X0 3 rfl ?_
 obtain ⟨o3,hF,hK1⟩:=qe hF
 refine qu (rL (fun m e w'=>∃ (S3:Nat→Prop) (p3:Option Addr) (ln1:Nat) (k2:Nat) (x1:(List Int)) (i7:Int) (i8:Int) (i9:Int) (i10:Int),qce s step m x1 i7 i8 i9 i10=some o3∧e=[(0,.pointer (some ⟨bb1,0,none⟩)),(1,.int .i64 step),(5,.slice p3 ln1 k2),(6,.int .i64 i9),(7,.int .i64 i10)]∧SH w0 w' [Ch.box bb1 [.slice p1 s.code.length k1,.int .i64 i7,.int .i64 i8] 108,Ch.own S3 (x1:List Int) [.slice p3 ln1 k2],Ch.grp (old w0) (FS F) [fct (s:Tl01Source) [.slice p1 s.code.length k1,.int .i64 s.at_,.int .i64 s.seed],same w0 w F]]) n ⟨_,_,_,_,_,_,_,_,_,hF,rfl,h⟩ rfl ?_)
 rintro m1 e1 w4 ⟨S3,p3,ln1,k2,x1,i7,i8,i9,i10,hF,rfl,h⟩
 obtain rfl:=(h.sl 1 rfl).2
 rcases m1 with _|m1
 ·cases hF
 refine X0 6 rfl (qm rfl hF ?_ ?_)<;>intro hF
 ·refine X0 7 rfl (qn qb [.tmp 20] _ ([i9]:List Int) h rfl rfl rfl rfl rfl rfl rfl rfl rfl ⟨rfl,trivial⟩ rfl fun w5 p4 S4 h=>?_)
  obtain ⟨x2,hx1,hF⟩:=qe hF
  obtain ⟨g1,hx1⟩:=qk hx1
  refine qau qb 2 h rfl (h.sl 0 rfl).1 (h.sl 0 rfl).2 rfl rfl rfl rfl rfl rfl rfl rfl rfl g1 hx1 rfl fun w6 p5 k3 S5 h=>X0 7 rfl ?_
  replace h:=h.pick [1,0,2,3] rfl
  obtain ⟨o4,hr3,hF⟩:=qe hF
  obtain ⟨i11,i12,i13⟩:=o4
  refine qz (cB 32 rfl) (qi (a_0:=(⟨s.code,i7,i8⟩:Tl01Source)) (a_1:=step) h ⟨[.slice p1 s.code.length k1],[.int .i64 i7,.int .i64 i8],rfl,⟨_,_,rfl,(qf (h.frG 3 0 1 rfl rfl rfl)).1⟩,⟨[.int .i64 i7],[.int .i64 i8],rfl,rfl,rfl⟩⟩ hr3) rfl rfl rfl rfl ?_
  rintro w7 us3 ⟨rfl,h⟩
  replace h:SH _ _ [Ch.box bb1 [.slice p1 s.code.length k1,.int .i64 i12,.int .i64 i13] 108,Ch.own S4 (([i9]:List Int):List Int) [.slice p4 1 1],Ch.own S5 (x2:List Int) [.slice p5 x2.length k3],Ch.grp (old w0) (FS F) [fct (s:Tl01Source) [.slice p1 s.code.length k1,.int .i64 s.at_,.int .i64 s.seed],same w0 w F]]:=h
  refine X0 9 rfl ?_
  replace h:=h.pick [0,2,3] rfl
  exact rK ⟨_,_,_,_,_,_,_,_,_,hF,rfl,h⟩ rfl
 refine qA rfl ?_
 obtain rfl:=qd hF;replace hF:=hK1
 refine X0 5 rfl ?_
 obtain rfl:=qd hF
 replace h:=h.pick [1,0,2] rfl
 replace h:SH _ _ [Ch.own S3 (x1:List Int) [.slice p3 x1.length k2],Ch.box bb1 [.slice p1 s.code.length k1,.int .i64 i7,.int .i64 i8] 108,Ch.grp (old w0) (FS F) [fct (s:Tl01Source) [.slice p1 s.code.length k1,.int .i64 s.at_,.int .i64 s.seed],same w0 w F]]:=h
 exact qbp qb [GoT.v (List Int) [.slice p3 x1.length k2]] ⟨rfl,trivial⟩ ⟨_,_,rfl,SH.unframe 1 (L0:=[Ch.box bb1 (qh s p1 k1) 108]) h0 [Ch.own S3 (x1:List Int) [.slice p3 x1.length k2],Ch.box bb1 [.slice p1 s.code.length k1,.int .i64 i7,.int .i64 i8] 108] h rfl⟩
def qcU (a_0:Tl01Source) (a_1:Int) (r1:(List Int)) (r2:(List Int)):Nat→(List Int)→Int→Int→Int→Option ((List Int) × Int × Int × Int)
 | 0,_,_,_,_=>none
 | n+1,x1,i5,i6,i7 =>
  bif decide (i7<(W64 ((r1.length:Int)*(r2.length:Int)))) then
   (ql n (⟨a_0.code,i5,i6⟩:Tl01Source) 10).bind fun o=>match o with
    | (i8,i9,i10) =>
     (remS i7 (r2.length:Int)).bind fun y1 =>
     (
      bif decide (y1 > 0) then
       (idx x1 (W64 (i7-1))).bind fun y3 =>
       (ql n (⟨a_0.code,i9,i10⟩:Tl01Source) 20).bind fun o=>match o with
        | (i17,i18,i19) =>
         some (i18,i19,(if (W64 (y3+i17)) > (W64 (a_1+i8)) then (W64 (y3+i17)) else (W64 (a_1+i8))))
      else
       some (i9,i10,W64 (a_1+i8))).bind fun o=>match o with
      | (i11,i12,i13) =>
       bif decide (i7 ≥ (r2.length:Int)) then
        (idx x1 (W64 (i7-(r2.length:Int)))).bind fun y2 =>
        (ql n (⟨a_0.code,i11,i12⟩:Tl01Source) 20).bind fun o=>match o with
         | (i14,i15,i16) =>
          (appS x1 ([(if (W64 (y2+i14)) > i13 then (W64 (y2+i14)) else i13)]:List Int)).bind fun x2 =>
          qcU a_0 a_1 r1 r2 n x2 i15 i16 (W64 (i7+1))
       else
        (appS x1 ([i13]:List Int)).bind fun x3 =>
        qcU a_0 a_1 r1 r2 n x3 i11 i12 (W64 (i7+1))
  else
   some (x1,i5,i6,i7)
def qgp (n:Nat) (a_0:Tl01Source) (a_1:Int):Option (qN × Int × Int) :=
 (qes n (⟨a_0.code,a_0.at_,a_0.seed⟩:Tl01Source) 60).bind fun o=>match o with
  | (r1,i1,i2) =>
   (qes n (⟨a_0.code,i1,i2⟩:Tl01Source) 40).bind fun o=>match o with
    | (r2,i3,i4) =>
     (qcU a_0 a_1 r1 r2 n ([]:List Int) i3 i4 0).bind fun o=>match o with
     | (x1,i5,i6,_) =>
      some ((⟨r1,r2,x1⟩:qN),i5,i6)
theorem qie {n:Nat} {w0 w:World} {F:List Ch} {a_0:Tl01Source} {bb1:Nat} {p1:Option Addr} {k1:Nat} {a_1:Int} (h0:SH w0 w (Ch.box bb1 (qh a_0 p1 k1) 108::F)) (ha1:GoT.R w (Fr w0 F) a_0 [.slice p1 a_0.code.length k1,.int .i64 a_0.at_,.int .i64 a_0.seed]) {r:(qN × Int × Int)} (hF:qgp n a_0 a_1=some r):RetW Tryz.prog 171 [.pointer (some ⟨bb1,0,none⟩),.int .i64 a_1] w (fun us w'=>∃ (S1:Nat→Prop) (cs1:List Value),us=[GoT.v qN cs1]∧SH w0 w' (Ch.own S1 (r.1:qN) cs1::Ch.box bb1 [.slice p1 a_0.code.length k1,.int .i64 r.2.1,.int .i64 r.2.2] 108::F)):=by
 have h:=SH.frame [Ch.box bb1 (qh a_0 p1 k1) 108] h0
 replace h:=h.grpAdd 1 rfl ha1
 replace h:SH _ _ [Ch.box bb1 (qh a_0 p1 k1) 108,Ch.grp (old w0) (FS F) [fct (a_0:Tl01Source) [.slice p1 a_0.code.length k1,.int .i64 a_0.at_,.int .i64 a_0.seed],same w0 w F]]:=h
 refine qbi Tryz.func171 rfl (m:=66) rfl rfl (zSR (qx qb h rfl rfl rfl fun w1 bb2 h=>X0 4 rfl ?_))
 replace h:=h.pick [1,0,2] rfl
 obtain ⟨o1,hr1,hF⟩:=qe hF
 obtain ⟨r1,i1,i2⟩:=o1
 refine qz (cB 185 rfl) (qgY (s:=(⟨a_0.code,a_0.at_,a_0.seed⟩:Tl01Source)) (step:=60) h ⟨[.slice p1 a_0.code.length k1],[.int .i64 a_0.at_,.int .i64 a_0.seed],rfl,⟨_,_,rfl,(qf (h.frG 2 0 1 rfl rfl rfl)).1⟩,⟨[.int .i64 a_0.at_],[.int .i64 a_0.seed],rfl,rfl,rfl⟩⟩ hr1) rfl rfl rfl rfl ?_
 rintro w2 us1 ⟨S2,cs2,rfl,h⟩
 obtain ⟨p2,k2,rfl,-⟩:=h.own 0 rfl
 replace h:SH _ _ [Ch.own S2 (r1:List Int) [.slice p2 r1.length k2],Ch.box bb1 [.slice p1 a_0.code.length k1,.int .i64 i1,.int .i64 i2] 108,Ch.box bb2 [.slice none 0 0,.slice none 0 0,.slice none 0 0] 209,Ch.grp (old w0) (FS F) [fct (a_0:Tl01Source) [.slice p1 a_0.code.length k1,.int .i64 a_0.at_,.int .i64 a_0.seed],same w0 w F]]:=h
 refine X0 5 rfl ?_
 replace h:=h.pick [1,0,2,3] rfl
 obtain ⟨o2,hr2,hF⟩:=qe hF
 obtain ⟨r2,i3,i4⟩:=o2
 refine qz (cB 185 rfl) (qgY (s:=(⟨a_0.code,i1,i2⟩:Tl01Source)) (step:=40) h ⟨[.slice p1 a_0.code.length k1],[.int .i64 i1,.int .i64 i2],rfl,⟨_,_,rfl,(qf (h.frG 3 0 1 rfl rfl rfl)).1⟩,⟨[.int .i64 i1],[.int .i64 i2],rfl,rfl,rfl⟩⟩ hr2) rfl rfl rfl rfl ?_
 rintro w3 us2 ⟨S3,cs3,rfl,h⟩
 obtain ⟨p3,k3,rfl,-⟩:=h.own 0 rfl
 replace h:SH _ _ [Ch.own S3 (r2:List Int) [.slice p3 r2.length k3],Ch.box bb1 [.slice p1 a_0.code.length k1,.int .i64 i3,.int .i64 i4] 108,Ch.own S2 (r1:List Int) [.slice p2 r1.length k2],Ch.box bb2 [.slice none 0 0,.slice none 0 0,.slice none 0 0] 209,Ch.grp (old w0) (FS F) [fct (a_0:Tl01Source) [.slice p1 a_0.code.length k1,.int .i64 a_0.at_,.int .i64 a_0.seed],same w0 w F]]:=h
 refine X0 4 rfl (qn qb [] _ ([]:List Int) h rfl rfl rfl rfl rfl rfl rfl rfl rfl trivial rfl fun w4 p4 S4 h=>X0 13 rfl ?_)
 obtain ⟨o3,hF,hK1⟩:=qe hF
 refine qu (rL (fun m e w'=>∃ (S5:Nat→Prop) (p5:Option Addr) (ln1:Nat) (k4:Nat) (x1:(List Int)) (i5:Int) (i6:Int) (i7:Int),qcU a_0 a_1 r1 r2 m x1 i5 i6 i7=some o3∧e=[(0,.pointer (some ⟨bb1,0,none⟩)),(1,.int .i64 a_1),(4,.pointer (some ⟨bb2,0,none⟩)),(5,.slice p2 r1.length k2),(6,.slice p3 r2.length k3),(7,.slice p5 ln1 k4),(8,.int .i64 (r2.length:Int)),(9,.int .i64 i7)]∧SH w0 w' [Ch.own S5 (x1:List Int) [.slice p5 ln1 k4],Ch.own S3 (r2:List Int) [.slice p3 r2.length k3],Ch.box bb1 [.slice p1 a_0.code.length k1,.int .i64 i5,.int .i64 i6] 108,Ch.own S2 (r1:List Int) [.slice p2 r1.length k2],Ch.box bb2 [.slice none 0 0,.slice none 0 0,.slice none 0 0] 209,Ch.grp (old w0) (FS F) [fct (a_0:Tl01Source) [.slice p1 a_0.code.length k1,.int .i64 a_0.at_,.int .i64 a_0.seed],same w0 w F]]) n ⟨_,_,_,_,_,_,_,_,hF,rfl,h⟩ rfl ?_)
 rintro m1 e1 w5 ⟨S5,p5,ln1,k4,x1,i5,i6,i7,hF,rfl,h⟩
 obtain rfl:=(h.sl 0 rfl).2
 rcases m1 with _|m1
 ·cases hF
 refine X0 10 rfl (qm rfl hF ?_ ?_)<;>intro hF
 ·refine X0 7 rfl ?_
  replace h:=h.pick [2,0,1,3,4,5] rfl
  obtain ⟨o4,hr3,hF⟩:=qe hF
  obtain ⟨i8,i9,i10⟩:=o4
  refine qz (cB 32 rfl) (qi (a_0:=(⟨a_0.code,i5,i6⟩:Tl01Source)) (a_1:=10) h ⟨[.slice p1 a_0.code.length k1],[.int .i64 i5,.int .i64 i6],rfl,⟨_,_,rfl,(qf (h.frG 5 0 1 rfl rfl rfl)).1⟩,⟨[.int .i64 i5],[.int .i64 i6],rfl,rfl,rfl⟩⟩ hr3) rfl rfl rfl rfl ?_
  rintro w6 us3 ⟨rfl,h⟩
  replace h:SH _ _ [Ch.box bb1 [.slice p1 a_0.code.length k1,.int .i64 i9,.int .i64 i10] 108,Ch.own S5 (x1:List Int) [.slice p5 x1.length k4],Ch.own S3 (r2:List Int) [.slice p3 r2.length k3],Ch.own S2 (r1:List Int) [.slice p2 r1.length k2],Ch.box bb2 [.slice none 0 0,.slice none 0 0,.slice none 0 0] 209,Ch.grp (old w0) (FS F) [fct (a_0:Tl01Source) [.slice p1 a_0.code.length k1,.int .i64 a_0.at_,.int .i64 a_0.seed],same w0 w F]]:=h
  refine X0 8 rfl ?_
  obtain ⟨y1,hx1,hF⟩:=qe hF
  obtain ⟨g1,hx1⟩:=qji hx1
  refine r_v (qms g1 hx1 rfl rfl) rfl (X0 2 rfl ?_)
  obtain ⟨KF1,hKF1,o6,hF,hK2⟩:=bindE hF
  refine qaV (fun e w'=>∃ (i11:Int) (i12:Int) (i13:Int),KF1 (i11,i12,i13)=some o3∧e=[(0,.pointer (some ⟨bb1,0,none⟩)),(1,.int .i64 a_1),(4,.pointer (some ⟨bb2,0,none⟩)),(5,.slice p2 r1.length k2),(6,.slice p3 r2.length k3),(7,.slice p5 x1.length k4),(8,.int .i64 (r2.length:Int)),(9,.int .i64 i7),(10,.int .i64 i13)]∧SH w0 w' [Ch.box bb1 [.slice p1 a_0.code.length k1,.int .i64 i11,.int .i64 i12] 108,Ch.own S5 (x1:List Int) [.slice p5 x1.length k4],Ch.own S3 (r2:List Int) [.slice p3 r2.length k3],Ch.own S2 (r1:List Int) [.slice p2 r1.length k2],Ch.box bb2 [.slice none 0 0,.slice none 0 0,.slice none 0 0] 209,Ch.grp (old w0) (FS F) [fct (a_0:Tl01Source) [.slice p1 a_0.code.length k1,.int .i64 a_0.at_,.int .i64 a_0.seed],same w0 w F]]) ?_ ?_
  ·refine qm rfl hF ?_ ?_<;>intro hF
   ·refine rA [] [1] h rfl fun w13 h=>M0 15 [0,1,2,3] (h.pick [1] rfl) rfl ?_
    obtain ⟨y3,hy2,hF,he2,b2,_,q2,cs5,hp2,hq2,rfl,hc5⟩:=(h.sl 1 rfl).1.ix hF
    refine Ax 4 31 hp2 hq2 ⟨he2.1,qab he2.2.1 (h.sl 1 rfl).2⟩ (h.pick [1] rfl) rfl (Aw 5 63 (fun w' hw=>qe2 qb (qdP (w1:=w) (S1:=fun _=>False) hw 0 rfl hy2 hp2 hq2 rfl) (j:=0) rfl rfl rfl) (h.pick [1] rfl) rfl ?_)
    refine M0 127 [6] (h.pick [1] rfl) rfl (Ao 7 255 rfl ?_)
    obtain ⟨o7,hr7,hF⟩:=qe hF
    obtain ⟨i17,i18,i19⟩:=o7
    refine qz (cB 32 rfl) (qi (a_0:=(⟨a_0.code,i9,i10⟩:Tl01Source)) (a_1:=20) h ⟨[.slice p1 a_0.code.length k1],[.int .i64 i9,.int .i64 i10],rfl,⟨_,_,rfl,(qf (h.frG 5 0 1 rfl rfl rfl)).1⟩,⟨[.int .i64 i9],[.int .i64 i10],rfl,rfl,rfl⟩⟩ hr7) rfl rfl rfl rfl ?_
    rintro w14 us5 ⟨rfl,h⟩
    replace h:SH _ _ [Ch.box bb1 [.slice p1 a_0.code.length k1,.int .i64 i18,.int .i64 i19] 108,Ch.own S5 (x1:List Int) [.slice p5 x1.length k4],Ch.own S3 (r2:List Int) [.slice p3 r2.length k3],Ch.own S2 (r1:List Int) [.slice p2 r1.length k2],Ch.box bb2 [.slice none 0 0,.slice none 0 0,.slice none 0 0] 209,Ch.grp (old w0) (FS F) [fct (a_0:Tl01Source) [.slice p1 a_0.code.length k1,.int .i64 a_0.at_,.int .i64 a_0.seed],same w0 w F]]:=h
    refine G0 2047 [8,9,10] (h.pick [1] rfl) rfl (Ad ?_)
    obtain rfl:=qd hF
    exact rG ⟨_,_,_,hK2,rfl,h⟩ rfl
   refine qdy ?_
   obtain rfl:=qd hF
   exact rG ⟨_,_,_,hK2,rfl,h⟩ rfl
  rintro e2 w15 ⟨i11,i12,i13,hF,rfl,h⟩
  subst hKF1
  refine X0 7 rfl (qm rfl hF ?_ ?_)<;>intro hF
  ·refine rA [] [1] h rfl fun w7 h=>M0 31 [0,1,2,3,4] (h.pick [1] rfl) rfl ?_
   obtain ⟨y2,hy1,hF,he1,b1,_,q1,cs4,hp1,hq1,rfl,hc3⟩:=(h.sl 1 rfl).1.ix hF
   refine Ax 5 63 hp1 hq1 ⟨he1.1,qab he1.2.1 (h.sl 1 rfl).2⟩ (h.pick [1] rfl) rfl (Aw 6 127 (fun w' hw=>qe2 qb (qdP (w1:=w) (S1:=fun _=>False) hw 0 rfl hy1 hp1 hq1 rfl) (j:=0) rfl rfl rfl) (h.pick [1] rfl) rfl ?_)
   refine M0 255 [7] (h.pick [1] rfl) rfl (Ao 8 511 rfl ?_)
   obtain ⟨o5,hr5,hF⟩:=qe hF
   obtain ⟨i14,i15,i16⟩:=o5
   refine qz (cB 32 rfl) (qi (a_0:=(⟨a_0.code,i11,i12⟩:Tl01Source)) (a_1:=20) h ⟨[.slice p1 a_0.code.length k1],[.int .i64 i11,.int .i64 i12],rfl,⟨_,_,rfl,(qf (h.frG 5 0 1 rfl rfl rfl)).1⟩,⟨[.int .i64 i11],[.int .i64 i12],rfl,rfl,rfl⟩⟩ hr5) rfl rfl rfl rfl ?_
   rintro w8 us4 ⟨rfl,h⟩
   replace h:SH _ _ [Ch.box bb1 [.slice p1 a_0.code.length k1,.int .i64 i15,.int .i64 i16] 108,Ch.own S5 (x1:List Int) [.slice p5 x1.length k4],Ch.own S3 (r2:List Int) [.slice p3 r2.length k3],Ch.own S2 (r1:List Int) [.slice p2 r1.length k2],Ch.box bb2 [.slice none 0 0,.slice none 0 0,.slice none 0 0] 209,Ch.grp (old w0) (FS F) [fct (a_0:Tl01Source) [.slice p1 a_0.code.length k1,.int .i64 a_0.at_,.int .i64 a_0.seed],same w0 w F]]:=h
   refine G0 4095 [9,10,11] (h.pick [1] rfl) rfl (Ad (X0 3 rfl (qn qb [.tmp 59] _ ([(if (W64 (y2+i14)) > i13 then (W64 (y2+i14)) else i13)]:List Int) h rfl rfl rfl rfl rfl rfl rfl rfl rfl ⟨rfl,trivial⟩ rfl fun w9 p6 S6 h=>?_)))
   obtain ⟨x2,hx2,hF⟩:=qe hF
   obtain ⟨g2,hx2⟩:=qk hx2
   refine qau qb 2 h rfl (h.sl 0 rfl).1 (h.sl 0 rfl).2 rfl rfl rfl rfl rfl rfl rfl rfl rfl g2 hx2 rfl fun w10 p7 k5 S7 h=>X0 8 rfl ?_
   replace h:=h.pick [2,3,1,4,5,6] rfl
   exact rK ⟨_,_,_,_,_,_,_,_,hF,rfl,h⟩ rfl
  refine X0 4 rfl (qn qb [.tmp 59] _ ([i13]:List Int) h rfl rfl rfl rfl rfl rfl rfl rfl rfl ⟨rfl,trivial⟩ rfl fun w11 p8 S8 h=>?_)
  obtain ⟨x3,hx3,hF⟩:=qe hF
  obtain ⟨g3,hx3⟩:=qk hx3
  refine qau qb 2 h rfl (h.sl 0 rfl).1 (h.sl 0 rfl).2 rfl rfl rfl rfl rfl rfl rfl rfl rfl g3 hx3 rfl fun w12 p9 k6 S9 h=>X0 8 rfl ?_
  replace h:=h.pick [2,3,1,4,5,6] rfl
  exact rK ⟨_,_,_,_,_,_,_,_,hF,rfl,h⟩ rfl
 refine qA rfl ?_
 obtain rfl:=qd hF;replace hF:=hK1
 refine X0 5 rfl (r_v (qai qb [0,1,2] [.tmp 62,.tmp 63,.tmp 64] rfl rfl rfl rfl rfl rfl rfl rfl) rfl (zs 4 h rfl fun w16 h=>qaW ?_))
 have hk1:=h
 obtain ⟨S10,h⟩:=h.gather [2,4,5] (qok (⟨r1,r2,x1⟩:qN) h (qE 3 h rfl) (qE 1 h rfl) (qE 0 h rfl) (by rfl) (by rfl)) rfl
 obtain rfl:=qd hF
 replace h:=h.pick [0,1,3] rfl
 replace h:SH _ _ [Ch.own S10 ((⟨r1,r2,x1⟩:qN):qN) [.slice p2 r1.length k2,.slice p3 r2.length k3,.slice p5 x1.length k4],Ch.box bb1 [.slice p1 a_0.code.length k1,.int .i64 i5,.int .i64 i6] 108,Ch.grp (old w0) (FS F) [fct (a_0:Tl01Source) [.slice p1 a_0.code.length k1,.int .i64 a_0.at_,.int .i64 a_0.seed],same w0 w F]]:=h
 exact qbp qb [GoT.v qN [.slice p2 r1.length k2,.slice p3 r2.length k3,.slice p5 x1.length k4]] ⟨⟨_,_,_,rfl,rfl,hk1.box 4 rfl,rfl⟩,trivial⟩ ⟨_,_,rfl,SH.unframe 1 (L0:=[Ch.box bb1 (qh a_0 p1 k1) 108]) h0 [Ch.own S10 ((⟨r1,r2,x1⟩:qN):qN) [.slice p2 r1.length k2,.slice p3 r2.length k3,.slice p5 x1.length k4],Ch.box bb1 [.slice p1 a_0.code.length k1,.int .i64 i5,.int .i64 i6] 108] h rfl⟩
def qcu (n:Nat) (s:Tl01Source) (base:Int):Option ((List qN) × Int × Int) :=
 (qgp n (⟨s.code,s.at_,s.seed⟩:Tl01Source) base).bind fun o=>match o with
  | (r1,i1,i2) =>
   (qgp n (⟨s.code,i1,i2⟩:Tl01Source) base).bind fun o=>match o with
    | (r2,i3,i4) =>
     some (([r1,r2]:List qN),i3,i4)
theorem qeK {n:Nat} {w0 w:World} {F:List Ch} {s:Tl01Source} {bb1:Nat} {p1:Option Addr} {k1:Nat} {base:Int} (h0:SH w0 w (Ch.box bb1 (qh s p1 k1) 108::F)) (ha1:GoT.R w (Fr w0 F) s [.slice p1 s.code.length k1,.int .i64 s.at_,.int .i64 s.seed]) {r:((List qN) × Int × Int)} (hF:qcu n s base=some r):RetW Tryz.prog 163 [.pointer (some ⟨bb1,0,none⟩),.int .i64 base] w (fun us w'=>∃ (S1:Nat→Prop) (cs1:List Value),us=[GoT.v (List qN) cs1]∧SH w0 w' (Ch.own S1 (r.1:(List qN)) cs1::Ch.box bb1 [.slice p1 s.code.length k1,.int .i64 r.2.1,.int .i64 r.2.2] 108::F)):=by
 have h:=SH.frame [Ch.box bb1 (qh s p1 k1) 108] h0
 replace h:=h.grpAdd 1 rfl ha1
 replace h:SH _ _ [Ch.box bb1 (qh s p1 k1) 108,Ch.grp (old w0) (FS F) [fct (s:Tl01Source) [.slice p1 s.code.length k1,.int .i64 s.at_,.int .i64 s.seed],same w0 w F]]:=h
 refine qbi Tryz.func163 rfl (m:=14) rfl rfl (X0 8 rfl ?_)
 obtain ⟨o1,hr1,hF⟩:=qe hF
 obtain ⟨r1,i1,i2⟩:=o1
 refine qz (cB 171 rfl) (qie (a_0:=(⟨s.code,s.at_,s.seed⟩:Tl01Source)) (a_1:=base) h ⟨[.slice p1 s.code.length k1],[.int .i64 s.at_,.int .i64 s.seed],rfl,⟨_,_,rfl,(qf (h.frG 1 0 1 rfl rfl rfl)).1⟩,⟨[.int .i64 s.at_],[.int .i64 s.seed],rfl,rfl,rfl⟩⟩ hr1) rfl rfl rfl rfl ?_
 rintro w1 us1 ⟨S2,cs2,rfl,h⟩
 obtain ⟨p2,k2,p3,k3,p4,k4,rfl,-,-,-⟩:=qez (h.own 0 rfl)
 replace h:SH _ _ [Ch.own S2 (r1:qN) (qf1 r1 p2 p3 p4 k2 k3 k4),Ch.box bb1 [.slice p1 s.code.length k1,.int .i64 i1,.int .i64 i2] 108,Ch.grp (old w0) (FS F) [fct (s:Tl01Source) [.slice p1 s.code.length k1,.int .i64 s.at_,.int .i64 s.seed],same w0 w F]]:=h
 refine qx qb h rfl rfl rfl fun w2 bb2 h=>zs 0 h rfl fun w3 h=>zNS (rA [] [0] h rfl fun w4 h=>M1 7 [0,1,2] 0 (h.pick [0] rfl) rfl (Ao 3 15 rfl ?_))
 replace h:=h.pick [2,0,1,3] rfl
 obtain ⟨o2,hr2,hF⟩:=qe hF
 obtain ⟨r2,i3,i4⟩:=o2
 refine qz (cB 171 rfl) (qie (a_0:=(⟨s.code,i1,i2⟩:Tl01Source)) (a_1:=base) h ⟨[.slice p1 s.code.length k1],[.int .i64 i1,.int .i64 i2],rfl,⟨_,_,rfl,(qf (h.frG 3 0 1 rfl rfl rfl)).1⟩,⟨[.int .i64 i1],[.int .i64 i2],rfl,rfl,rfl⟩⟩ hr2) rfl rfl rfl rfl ?_
 rintro w5 us2 ⟨S3,cs3,rfl,h⟩
 obtain ⟨p5,k5,p6,k6,p7,k7,rfl,-,-,-⟩:=qez (h.own 0 rfl)
 replace h:SH _ _ [Ch.own S3 (r2:qN) (qf1 r2 p5 p6 p7 k5 k6 k7),Ch.box bb1 [.slice p1 s.code.length k1,.int .i64 i3,.int .i64 i4] 108,Ch.box bb2 (qf1 r1 p2 p3 p4 k2 k3 k4) 209,Ch.own S2 (r1:qN) (qf1 r1 p2 p3 p4 k2 k3 k4),Ch.grp (old w0) (FS F) [fct (s:Tl01Source) [.slice p1 s.code.length k1,.int .i64 s.at_,.int .i64 s.seed],same w0 w F]]:=h
 refine Ag (h.pick [2] rfl) (Ao 4 31 rfl (qbz qb [.tmp 9,.tmp 12] _ ([r1,r2]:List qN) [1,2,4] h rfl rfl rfl rfl rfl rfl rfl rfl rfl (qb7 (qE 3 h rfl) (qb7 (qE 0 h rfl) qc6 rfl) rfl) rfl rfl fun w6 p8 S4 h=>G0 63 [5] (h.pick [2] rfl) rfl (Ad ?_)))
 obtain rfl:=qd hF
 replace h:=h.pick [0,1,3] rfl
 replace h:SH _ _ [Ch.own S4 (([r1,r2]:List qN):List qN) [.slice p8 2 2],Ch.box bb1 [.slice p1 s.code.length k1,.int .i64 i3,.int .i64 i4] 108,Ch.grp (old w0) (FS F) [fct (s:Tl01Source) [.slice p1 s.code.length k1,.int .i64 s.at_,.int .i64 s.seed],same w0 w F]]:=h
 exact qbp qb [GoT.v (List qN) [.slice p8 2 2]] ⟨rfl,trivial⟩ ⟨_,_,rfl,SH.unframe 1 (L0:=[Ch.box bb1 (qh s p1 k1) 108]) h0 [Ch.own S4 (([r1,r2]:List qN):List qN) [.slice p8 2 2],Ch.box bb1 [.slice p1 s.code.length k1,.int .i64 i3,.int .i64 i4] 108] h rfl⟩
def qcp (n:Nat) (s:Tl01Source) (kind:Int) (a_from:Int) (a_to:Int) (sense:Int):Option (qag × Int × Int) :=
 bif decide (kind ≥ 4) then
  (ql n (⟨s.code,s.at_,s.seed⟩:Tl01Source) 10).bind fun o=>match o with
   | (i1,i2,i3) =>
    (qcu n (⟨s.code,i2,i3⟩:Tl01Source) (W64 (5-i1))).bind fun o=>match o with
     | (r1,i4,i5) =>
      some ((⟨kind,a_from,a_to,0,r1,[]⟩:qag),i4,i5)
 else
  (ql n (⟨s.code,s.at_,s.seed⟩:Tl01Source) 20).bind fun o=>match o with
   | (i6,i7,i8) =>
    (qcu n (⟨s.code,i7,i8⟩:Tl01Source) (W64 (5+i6))).bind fun o=>match o with
     | (r2,i9,i10) =>
      (qcu n (⟨s.code,i9,i10⟩:Tl01Source) 10).bind fun o=>match o with
       | (r3,i11,i12) =>
        some ((⟨kind,a_from,a_to,sense,r2,r3⟩:qag),i11,i12)
theorem qc3 {n:Nat} {w0 w:World} {F:List Ch} {s:Tl01Source} {bb1:Nat} {p1:Option Addr} {k1:Nat} {kind:Int} {a_from:Int} {a_to:Int} {sense:Int} (h0:SH w0 w (Ch.box bb1 (qh s p1 k1) 108::F)) (ha1:GoT.R w (Fr w0 F) s [.slice p1 s.code.length k1,.int .i64 s.at_,.int .i64 s.seed]) {r:(qag × Int × Int)} (hF:qcp n s kind a_from a_to sense=some r):RetW Tryz.prog 156 [.pointer (some ⟨bb1,0,none⟩),.int .i64 kind,.int .i64 a_from,.int .i64 a_to,.int .i64 sense] w (fun us w'=>∃ (S1:Nat→Prop) (cs1:List Value),us=[GoT.v qag cs1]∧SH w0 w' (Ch.own S1 (r.1:qag) cs1::Ch.box bb1 [.slice p1 s.code.length k1,.int .i64 r.2.1,.int .i64 r.2.2] 108::F)):=by
 have h:=SH.frame [Ch.box bb1 (qh s p1 k1) 108] h0
 replace h:=h.grpAdd 1 rfl ha1
 replace h:SH _ _ [Ch.box bb1 (qh s p1 k1) 108,Ch.grp (old w0) (FS F) [fct (s:Tl01Source) [.slice p1 s.code.length k1,.int .i64 s.at_,.int .i64 s.seed],same w0 w F]]:=h
 refine qbi Tryz.func156 rfl (m:=36) rfl rfl (zSR (qx qb h rfl rfl rfl fun w1 bb2 h=>X0 7 rfl (qm rfl hF ?_ ?_)))<;>intro hF
 ·refine X0 7 rfl ?_
  replace h:=h.pick [1,0,2] rfl
  obtain ⟨o1,hr1,hF⟩:=qe hF
  obtain ⟨i1,i2,i3⟩:=o1
  refine qz (cB 32 rfl) (qi (a_0:=(⟨s.code,s.at_,s.seed⟩:Tl01Source)) (a_1:=10) h ⟨[.slice p1 s.code.length k1],[.int .i64 s.at_,.int .i64 s.seed],rfl,⟨_,_,rfl,(qf (h.frG 2 0 1 rfl rfl rfl)).1⟩,⟨[.int .i64 s.at_],[.int .i64 s.seed],rfl,rfl,rfl⟩⟩ hr1) rfl rfl rfl rfl ?_
  rintro w2 us1 ⟨rfl,h⟩
  replace h:SH _ _ [Ch.box bb1 [.slice p1 s.code.length k1,.int .i64 i2,.int .i64 i3] 108,Ch.box bb2 [.int .i64 0,.int .i64 0,.int .i64 0,.int .i64 0,.slice none 0 0,.slice none 0 0] 133,Ch.grp (old w0) (FS F) [fct (s:Tl01Source) [.slice p1 s.code.length k1,.int .i64 s.at_,.int .i64 s.seed],same w0 w F]]:=h
  refine zp1 rfl ?_
  obtain ⟨o2,hr2,hF⟩:=qe hF
  obtain ⟨r1,i4,i5⟩:=o2
  refine qz (cB 163 rfl) (qeK (s:=(⟨s.code,i2,i3⟩:Tl01Source)) (base:=(W64 (5-i1))) h ⟨[.slice p1 s.code.length k1],[.int .i64 i2,.int .i64 i3],rfl,⟨_,_,rfl,(qf (h.frG 2 0 1 rfl rfl rfl)).1⟩,⟨[.int .i64 i2],[.int .i64 i3],rfl,rfl,rfl⟩⟩ hr2) rfl rfl rfl rfl ?_
  rintro w3 us2 ⟨S2,cs2,rfl,h⟩
  obtain ⟨p2,k2,rfl,-⟩:=h.own 0 rfl
  replace h:SH _ _ [Ch.own S2 (r1:List qN) [.slice p2 r1.length k2],Ch.box bb1 [.slice p1 s.code.length k1,.int .i64 i4,.int .i64 i5] 108,Ch.box bb2 [.int .i64 0,.int .i64 0,.int .i64 0,.int .i64 0,.slice none 0 0,.slice none 0 0] 133,Ch.grp (old w0) (FS F) [fct (s:Tl01Source) [.slice p1 s.code.length k1,.int .i64 s.at_,.int .i64 s.seed],same w0 w F]]:=h
  refine r_v (qai qb [0,1,2,4] [.tmp 14,.tmp 15,.tmp 16,.tmp 21] rfl rfl rfl rfl rfl rfl rfl rfl) rfl (zs 2 h rfl fun w4 h=>qaW ?_)
  have hk1:=h
  obtain ⟨S3,h⟩:=h.gather [1,2,3] (qn4 (⟨kind,a_from,a_to,0,r1,[]⟩:qag) h (qD (S:=fun _=>False) rfl) (qD (S:=fun _=>False) rfl) (qD (S:=fun _=>False) rfl) (qD (S:=fun _=>False) rfl) (qE 0 h rfl) qjQ (by rfl) (by rfl) (by rfl) (by rfl) (by rfl)) rfl
  obtain rfl:=qd hF
  replace h:=h.pick [0,1,3] rfl
  replace h:SH _ _ [Ch.own S3 ((⟨kind,a_from,a_to,0,r1,[]⟩:qag):qag) [.int .i64 kind,.int .i64 a_from,.int .i64 a_to,.int .i64 0,.slice p2 r1.length k2,.slice none 0 0],Ch.box bb1 [.slice p1 s.code.length k1,.int .i64 i4,.int .i64 i5] 108,Ch.grp (old w0) (FS F) [fct (s:Tl01Source) [.slice p1 s.code.length k1,.int .i64 s.at_,.int .i64 s.seed],same w0 w F]]:=h
  exact qbp qb [GoT.v qag [.int .i64 kind,.int .i64 a_from,.int .i64 a_to,.int .i64 0,.slice p2 r1.length k2,.slice none 0 0]] ⟨⟨_,_,_,rfl,rfl,hk1.box 2 rfl,rfl⟩,trivial⟩ ⟨_,_,rfl,SH.unframe 1 (L0:=[Ch.box bb1 (qh s p1 k1) 108]) h0 [Ch.own S3 ((⟨kind,a_from,a_to,0,r1,[]⟩:qag):qag) [.int .i64 kind,.int .i64 a_from,.int .i64 a_to,.int .i64 0,.slice p2 r1.length k2,.slice none 0 0],Ch.box bb1 [.slice p1 s.code.length k1,.int .i64 i4,.int .i64 i5] 108] h rfl⟩
 refine X0 5 rfl ?_
 replace h:=h.pick [1,0,2] rfl
 obtain ⟨o3,hr3,hF⟩:=qe hF
 obtain ⟨i6,i7,i8⟩:=o3
 refine qz (cB 32 rfl) (qi (a_0:=(⟨s.code,s.at_,s.seed⟩:Tl01Source)) (a_1:=20) h ⟨[.slice p1 s.code.length k1],[.int .i64 s.at_,.int .i64 s.seed],rfl,⟨_,_,rfl,(qf (h.frG 2 0 1 rfl rfl rfl)).1⟩,⟨[.int .i64 s.at_],[.int .i64 s.seed],rfl,rfl,rfl⟩⟩ hr3) rfl rfl rfl rfl ?_
 rintro w5 us3 ⟨rfl,h⟩
 replace h:SH _ _ [Ch.box bb1 [.slice p1 s.code.length k1,.int .i64 i7,.int .i64 i8] 108,Ch.box bb2 [.int .i64 0,.int .i64 0,.int .i64 0,.int .i64 0,.slice none 0 0,.slice none 0 0] 133,Ch.grp (old w0) (FS F) [fct (s:Tl01Source) [.slice p1 s.code.length k1,.int .i64 s.at_,.int .i64 s.seed],same w0 w F]]:=h
 refine zp1 rfl ?_
 obtain ⟨o4,hr4,hF⟩:=qe hF
 obtain ⟨r2,i9,i10⟩:=o4
 refine qz (cB 163 rfl) (qeK (s:=(⟨s.code,i7,i8⟩:Tl01Source)) (base:=(W64 (5+i6))) h ⟨[.slice p1 s.code.length k1],[.int .i64 i7,.int .i64 i8],rfl,⟨_,_,rfl,(qf (h.frG 2 0 1 rfl rfl rfl)).1⟩,⟨[.int .i64 i7],[.int .i64 i8],rfl,rfl,rfl⟩⟩ hr4) rfl rfl rfl rfl ?_
 rintro w6 us4 ⟨S4,cs3,rfl,h⟩
 obtain ⟨p3,k3,rfl,-⟩:=h.own 0 rfl
 replace h:SH _ _ [Ch.own S4 (r2:List qN) [.slice p3 r2.length k3],Ch.box bb1 [.slice p1 s.code.length k1,.int .i64 i9,.int .i64 i10] 108,Ch.box bb2 [.int .i64 0,.int .i64 0,.int .i64 0,.int .i64 0,.slice none 0 0,.slice none 0 0] 133,Ch.grp (old w0) (FS F) [fct (s:Tl01Source) [.slice p1 s.code.length k1,.int .i64 s.at_,.int .i64 s.seed],same w0 w F]]:=h
 refine X0 10 rfl ?_
 replace h:=h.pick [1,0,2,3] rfl
 obtain ⟨o5,hr5,hF⟩:=qe hF
 obtain ⟨r3,i11,i12⟩:=o5
 refine qz (cB 163 rfl) (qeK (s:=(⟨s.code,i9,i10⟩:Tl01Source)) (base:=10) h ⟨[.slice p1 s.code.length k1],[.int .i64 i9,.int .i64 i10],rfl,⟨_,_,rfl,(qf (h.frG 3 0 1 rfl rfl rfl)).1⟩,⟨[.int .i64 i9],[.int .i64 i10],rfl,rfl,rfl⟩⟩ hr5) rfl rfl rfl rfl ?_
 rintro w7 us5 ⟨S5,cs4,rfl,h⟩
 obtain ⟨p4,k4,rfl,-⟩:=h.own 0 rfl
 replace h:SH _ _ [Ch.own S5 (r3:List qN) [.slice p4 r3.length k4],Ch.box bb1 [.slice p1 s.code.length k1,.int .i64 i11,.int .i64 i12] 108,Ch.own S4 (r2:List qN) [.slice p3 r2.length k3],Ch.box bb2 [.int .i64 0,.int .i64 0,.int .i64 0,.int .i64 0,.slice none 0 0,.slice none 0 0] 133,Ch.grp (old w0) (FS F) [fct (s:Tl01Source) [.slice p1 s.code.length k1,.int .i64 s.at_,.int .i64 s.seed],same w0 w F]]:=h
 refine r_v (qai qb [0,1,2,3,4,5] [.tmp 28,.tmp 29,.tmp 30,.tmp 31,.tmp 32,.tmp 34] rfl rfl rfl rfl rfl rfl rfl rfl) rfl (zs 3 h rfl fun w8 h=>qaW ?_)
 have hk2:=h
 obtain ⟨S6,h⟩:=h.gather [1,3,4] (qn4 (⟨kind,a_from,a_to,sense,r2,r3⟩:qag) h (qD (S:=fun _=>False) rfl) (qD (S:=fun _=>False) rfl) (qD (S:=fun _=>False) rfl) (qD (S:=fun _=>False) rfl) (qE 2 h rfl) (qE 0 h rfl) (by rfl) (by rfl) (by rfl) (by rfl) (by rfl)) rfl
 obtain rfl:=qd hF
 replace h:=h.pick [0,1,3] rfl
 replace h:SH _ _ [Ch.own S6 ((⟨kind,a_from,a_to,sense,r2,r3⟩:qag):qag) [.int .i64 kind,.int .i64 a_from,.int .i64 a_to,.int .i64 sense,.slice p3 r2.length k3,.slice p4 r3.length k4],Ch.box bb1 [.slice p1 s.code.length k1,.int .i64 i11,.int .i64 i12] 108,Ch.grp (old w0) (FS F) [fct (s:Tl01Source) [.slice p1 s.code.length k1,.int .i64 s.at_,.int .i64 s.seed],same w0 w F]]:=h
 exact qbp qb [GoT.v qag [.int .i64 kind,.int .i64 a_from,.int .i64 a_to,.int .i64 sense,.slice p3 r2.length k3,.slice p4 r3.length k4]] ⟨⟨_,_,_,rfl,rfl,hk2.box 3 rfl,rfl⟩,trivial⟩ ⟨_,_,rfl,SH.unframe 1 (L0:=[Ch.box bb1 (qh s p1 k1) 108]) h0 [Ch.own S6 ((⟨kind,a_from,a_to,sense,r2,r3⟩:qag):qag) [.int .i64 kind,.int .i64 a_from,.int .i64 a_to,.int .i64 sense,.slice p3 r2.length k3,.slice p4 r3.length k4],Ch.box bb1 [.slice p1 s.code.length k1,.int .i64 i11,.int .i64 i12] 108] h rfl⟩
def qcT (a_0:Tl01Source) (a_1:ByteArray) (a_2:(List Int)) (i1:Int) (i4:Int) (x1:(List qY)) (x3:(List qY)):Nat→(List qag)→Int→Int→Int→Option ((List qag) × Int × Int × Int)
 | 0,_,_,_,_=>none
 | n+1,x4,i13,i14,i15 =>
  bif decide (i15<(x1.length:Int)) then
   (qhU n (⟨a_1,1,x3,[],a_2,i1,i4⟩:qv) i15).bind fun r1 =>
   bif (r1 != 0) then
    (qcp n (⟨a_0.code,i13,i14⟩:Tl01Source) 1 i15 (x1.length:Int) r1).bind fun o=>match o with
     | (r2,i16,i17) =>
      (appS x4 ([r2]:List qag)).bind fun x5 =>
      qcT a_0 a_1 a_2 i1 i4 x1 x3 n x5 i16 i17 (W64 (i15+1))
   else
    qcT a_0 a_1 a_2 i1 i4 x1 x3 n x4 i13 i14 (W64 (i15+1))
  else
   some (x4,i13,i14,i15)
def qdK (a_0:Tl01Source) (a_2:(List Int)):Nat→(List qY)→Int→Int→Int→Option ((List qY) × Int × Int × Int)
 | 0,_,_,_,_=>none
 | n+1,x1,i7,i8,i9 =>
  bif decide (i9<(a_2.length:Int)) then
   (idx ([(⟨#[97]⟩:ByteArray),(⟨#[98]⟩:ByteArray),(⟨#[99]⟩:ByteArray),(⟨#[100]⟩:ByteArray)]:List ByteArray) (x1.length:Int)).bind fun y1 =>
   (ql n (⟨a_0.code,i7,i8⟩:Tl01Source) 9).bind fun o=>match o with
    | (i10,i11,i12) =>
     (appS x1 ([(⟨y1,1,W64 (1+i10),false⟩:qY)]:List qY)).bind fun x2 =>
     qdK a_0 a_2 n x2 i11 i12 (W64 (2*i9))
  else
   some (x1,i7,i8,i9)
def qd3 (n:Nat) (a_0:Tl01Source) (a_1:ByteArray) (a_2:(List Int)):Option (qv × Int × Int) :=
 (ql n (⟨a_0.code,a_0.at_,a_0.seed⟩:Tl01Source) 50).bind fun o=>match o with
  | (i1,i2,i3) =>
   (ql n (⟨a_0.code,i2,i3⟩:Tl01Source) 80).bind fun o=>match o with
    | (i4,i5,i6) =>
     (qdK a_0 a_2 n ([]:List qY) i5 i6 1).bind fun o=>match o with
     | (x1,i7,i8,_) =>
      (appS x1 ([(⟨(⟨#[121]⟩:ByteArray),2,0,false⟩:qY)]:List qY)).bind fun x3 =>
      (qcT a_0 a_1 a_2 i1 i4 x1 x3 n ([]:List qag) i7 i8 0).bind fun o=>match o with
      | (x4,i13,i14,_) =>
       some ((⟨a_1,1,x3,x4,a_2,i1,i4⟩:qv),i13,i14)
theorem qen {n:Nat} {w0 w:World} {F:List Ch} {a_0:Tl01Source} {bb1:Nat} {p1:Option Addr} {k1:Nat} {a_1:ByteArray} {a_2:(List Int)} {S1:Nat→Prop} {p2:Option Addr} {k2:Nat} (h0:SH w0 w (Ch.box bb1 (qh a_0 p1 k1) 108::Ch.own S1 (a_2:List Int) [.slice p2 a_2.length k2]::F)) (ha1:GoT.R w (Fr w0 F) a_0 [.slice p1 a_0.code.length k1,.int .i64 a_0.at_,.int .i64 a_0.seed]) {r:(qv × Int × Int)} (hF:qd3 n a_0 a_1 a_2=some r):RetW Tryz.prog 141 [.pointer (some ⟨bb1,0,none⟩),.string a_1,.slice p2 a_2.length k2] w (fun us w'=>∃ (S2:Nat→Prop) (cs1:List Value),us=[GoT.v qv cs1]∧SH w0 w' (Ch.own S2 (r.1:qv) cs1::Ch.box bb1 [.slice p1 a_0.code.length k1,.int .i64 r.2.1,.int .i64 r.2.2] 108::F)):=by
 have h:=SH.frame [Ch.box bb1 (qh a_0 p1 k1) 108,Ch.own S1 (a_2:List Int) [.slice p2 a_2.length k2]] h0
 replace h:=h.grpAdd 2 rfl ha1
 replace h:SH _ _ [Ch.box bb1 (qh a_0 p1 k1) 108,Ch.own S1 (a_2:List Int) [.slice p2 a_2.length k2],Ch.grp (old w0) (FS F) [fct (a_0:Tl01Source) [.slice p1 a_0.code.length k1,.int .i64 a_0.at_,.int .i64 a_0.seed],same w0 w F]]:=h
 refine qbi Tryz.func141 rfl (m:=71) rfl rfl (zSR (qx qb h rfl rfl rfl fun w1 bb2 h=>zNSR (qn qb [.const (.string (⟨#[97]⟩:ByteArray)),.const (.string (⟨#[98]⟩:ByteArray)),.const (.string (⟨#[99]⟩:ByteArray)),.const (.string (⟨#[100]⟩:ByteArray))] _ ([(⟨#[97]⟩:ByteArray),(⟨#[98]⟩:ByteArray),(⟨#[99]⟩:ByteArray),(⟨#[100]⟩:ByteArray)]:List ByteArray) h rfl rfl rfl rfl rfl rfl rfl rfl rfl ⟨rfl,rfl,rfl,rfl,trivial⟩ rfl fun w2 p3 S3 h=>X0 7 rfl ?_)))
 replace h:=h.pick [2,0,1,3,4] rfl
 obtain ⟨o1,hr1,hF⟩:=qe hF
 obtain ⟨i1,i2,i3⟩:=o1
 refine qz (cB 32 rfl) (qi (a_0:=(⟨a_0.code,a_0.at_,a_0.seed⟩:Tl01Source)) (a_1:=50) h ⟨[.slice p1 a_0.code.length k1],[.int .i64 a_0.at_,.int .i64 a_0.seed],rfl,⟨_,_,rfl,(qf (h.frG 4 0 1 rfl rfl rfl)).1⟩,⟨[.int .i64 a_0.at_],[.int .i64 a_0.seed],rfl,rfl,rfl⟩⟩ hr1) rfl rfl rfl rfl ?_
 rintro w3 us1 ⟨rfl,h⟩
 replace h:SH _ _ [Ch.box bb1 [.slice p1 a_0.code.length k1,.int .i64 i2,.int .i64 i3] 108,Ch.own S3 (([(⟨#[97]⟩:ByteArray),(⟨#[98]⟩:ByteArray),(⟨#[99]⟩:ByteArray),(⟨#[100]⟩:ByteArray)]:List ByteArray):List ByteArray) [.slice p3 4 4],Ch.box bb2 [.string ByteArray.empty,.int .i64 0,.slice none 0 0,.slice none 0 0,.slice none 0 0,.int .i64 0,.int .i64 0] 128,Ch.own S1 (a_2:List Int) [.slice p2 a_2.length k2],Ch.grp (old w0) (FS F) [fct (a_0:Tl01Source) [.slice p1 a_0.code.length k1,.int .i64 a_0.at_,.int .i64 a_0.seed],same w0 w F]]:=h
 refine zp1 rfl ?_
 obtain ⟨o2,hr2,hF⟩:=qe hF
 obtain ⟨i4,i5,i6⟩:=o2
 refine qz (cB 32 rfl) (qi (a_0:=(⟨a_0.code,i2,i3⟩:Tl01Source)) (a_1:=80) h ⟨[.slice p1 a_0.code.length k1],[.int .i64 i2,.int .i64 i3],rfl,⟨_,_,rfl,(qf (h.frG 4 0 1 rfl rfl rfl)).1⟩,⟨[.int .i64 i2],[.int .i64 i3],rfl,rfl,rfl⟩⟩ hr2) rfl rfl rfl rfl ?_
 rintro w4 us2 ⟨rfl,h⟩
 replace h:SH _ _ [Ch.box bb1 [.slice p1 a_0.code.length k1,.int .i64 i5,.int .i64 i6] 108,Ch.own S3 (([(⟨#[97]⟩:ByteArray),(⟨#[98]⟩:ByteArray),(⟨#[99]⟩:ByteArray),(⟨#[100]⟩:ByteArray)]:List ByteArray):List ByteArray) [.slice p3 4 4],Ch.box bb2 [.string ByteArray.empty,.int .i64 0,.slice none 0 0,.slice none 0 0,.slice none 0 0,.int .i64 0,.int .i64 0] 128,Ch.own S1 (a_2:List Int) [.slice p2 a_2.length k2],Ch.grp (old w0) (FS F) [fct (a_0:Tl01Source) [.slice p1 a_0.code.length k1,.int .i64 a_0.at_,.int .i64 a_0.seed],same w0 w F]]:=h
 refine r_v (qai qb [0,1,4,5,6] [.tmp 16,.const (.int .i64 (1)),.tmp 17,.tmp 19,.tmp 21] rfl rfl rfl rfl rfl rfl rfl rfl) rfl (qx qb h rfl rfl rfl fun w5 bb3 h=>zs 0 h rfl fun w6 h=>zNSR (qn qb [] _ ([]:List qY) h rfl rfl rfl rfl rfl rfl rfl rfl rfl trivial rfl fun w7 p4 S4 h=>X0 7 rfl ?_))
 obtain ⟨o3,hF,hK1⟩:=qe hF
 refine qu (rL (fun m e w'=>∃ (S5:Nat→Prop) (p5:Option Addr) (ln1:Nat) (k3:Nat) (x1:(List qY)) (i7:Int) (i8:Int) (i9:Int),qdK a_0 a_2 m x1 i7 i8 i9=some o3∧e=[(0,.pointer (some ⟨bb1,0,none⟩)),(2,.slice p2 a_2.length k2),(6,.pointer (some ⟨bb2,0,none⟩)),(7,.slice p3 4 4),(8,.pointer (some ⟨bb3,0,none⟩)),(9,.slice p5 ln1 k3),(10,.int .i64 i9)]∧SH w0 w' [Ch.own S5 (x1:List qY) [.slice p5 ln1 k3],Ch.box bb3 [.string a_1,.int .i64 1,.slice none 0 0,.slice none 0 0,.slice p2 a_2.length k2,.int .i64 i1,.int .i64 i4] 128,Ch.box bb1 [.slice p1 a_0.code.length k1,.int .i64 i7,.int .i64 i8] 108,Ch.own S3 (([(⟨#[97]⟩:ByteArray),(⟨#[98]⟩:ByteArray),(⟨#[99]⟩:ByteArray),(⟨#[100]⟩:ByteArray)]:List ByteArray):List ByteArray) [.slice p3 4 4],Ch.box bb2 [.string ByteArray.empty,.int .i64 0,.slice none 0 0,.slice none 0 0,.slice none 0 0,.int .i64 0,.int .i64 0] 128,Ch.own S1 (a_2:List Int) [.slice p2 a_2.length k2],Ch.grp (old w0) (FS F) [fct (a_0:Tl01Source) [.slice p1 a_0.code.length k1,.int .i64 a_0.at_,.int .i64 a_0.seed],same w0 w F]]) n ⟨_,_,_,_,_,_,_,_,hF,rfl,h⟩ rfl ?_)
 rintro m1 e1 w8 ⟨S5,p5,ln1,k3,x1,i7,i8,i9,hF,rfl,h⟩
 obtain rfl:=(h.sl 0 rfl).2
 rcases m1 with _|m1
 ·cases hF
 refine X0 8 rfl (qm rfl hF ?_ ?_)<;>intro hF
 ·refine zKSB (rA [] [3] h rfl fun w9 h=>M0 15 [0,1,2,3] (h.pick [3] rfl) rfl ?_)
  obtain ⟨y1,hy1,hF,he1,b1,_,q1,cs2,hp1,hq1,rfl,hc2⟩:=(h.sl 3 rfl).1.ix hF
  refine Ax 4 31 hp1 hq1 ⟨he1.1,qab he1.2.1 (h.sl 3 rfl).2⟩ (h.pick [3] rfl) rfl (Aw 5 63 (fun w' hw=>qe2 qb (qdP (w1:=w) (S1:=fun _=>False) hw 0 rfl hy1 hp1 hq1 rfl) (j:=0) rfl rfl rfl) (h.pick [3] rfl) rfl ?_)
  refine M0 127 [6] (h.pick [3] rfl) rfl (Ao 7 255 rfl ?_)
  replace h:=h.pick [2,0,1,3,4,5,6] rfl
  obtain ⟨o4,hr4,hF⟩:=qe hF
  obtain ⟨i10,i11,i12⟩:=o4
  refine qz (cB 32 rfl) (qi (a_0:=(⟨a_0.code,i7,i8⟩:Tl01Source)) (a_1:=9) h ⟨[.slice p1 a_0.code.length k1],[.int .i64 i7,.int .i64 i8],rfl,⟨_,_,rfl,(qf (h.frG 6 0 1 rfl rfl rfl)).1⟩,⟨[.int .i64 i7],[.int .i64 i8],rfl,rfl,rfl⟩⟩ hr4) rfl rfl rfl rfl ?_
  rintro w10 us3 ⟨rfl,h⟩
  replace h:SH _ _ [Ch.box bb1 [.slice p1 a_0.code.length k1,.int .i64 i11,.int .i64 i12] 108,Ch.own S5 (x1:List qY) [.slice p5 x1.length k3],Ch.box bb3 [.string a_1,.int .i64 1,.slice none 0 0,.slice none 0 0,.slice p2 a_2.length k2,.int .i64 i1,.int .i64 i4] 128,Ch.own S3 (([(⟨#[97]⟩:ByteArray),(⟨#[98]⟩:ByteArray),(⟨#[99]⟩:ByteArray),(⟨#[100]⟩:ByteArray)]:List ByteArray):List ByteArray) [.slice p3 4 4],Ch.box bb2 [.string ByteArray.empty,.int .i64 0,.slice none 0 0,.slice none 0 0,.slice none 0 0,.int .i64 0,.int .i64 0] 128,Ch.own S1 (a_2:List Int) [.slice p2 a_2.length k2],Ch.grp (old w0) (FS F) [fct (a_0:Tl01Source) [.slice p1 a_0.code.length k1,.int .i64 a_0.at_,.int .i64 a_0.seed],same w0 w F]]:=h
  refine G0 511 [8] (h.pick [3] rfl) rfl (Aw 9 1023 (fun w' hw=>qai qb [0,1,2] [.tmp 35,.const (.int .i64 (1)),.tmp 38] rfl rfl rfl rfl rfl rfl rfl rfl) (h.pick [3] rfl) rfl ?_)
  refine Ao 10 2047 rfl (qn qb [.tmp 39] _ ([(⟨y1,1,W64 (1+i10),false⟩:qY)]:List qY) h rfl rfl rfl rfl rfl rfl rfl rfl rfl ⟨(qif (⟨y1,1,W64 (1+i10),false⟩:qY)),trivial⟩ rfl fun w11 p6 S6 h=>Ag (h.pick [4] rfl) (Ao 11 4095 rfl ?_))
  obtain ⟨x2,hx1,hF⟩:=qe hF
  obtain ⟨g1,hx1⟩:=qk hx1
  refine qau qb 2 h rfl (h.sl 0 rfl).1 (h.sl 0 rfl).2 rfl rfl rfl rfl rfl rfl rfl rfl rfl g1 hx1 rfl fun w12 p7 k4 S7 h=>G0 8191 [12] (h.pick [4] rfl) rfl (Ad (X0 6 rfl ?_))
  replace h:=h.pick [2,3,1,4,5,6,7] rfl
  exact rK ⟨_,_,_,_,_,_,_,_,hF,rfl,h⟩ rfl
 refine qA rfl ?_
 obtain rfl:=qd hF;replace hF:=hK1
 refine X0 9 rfl (r_v (qai qb [0,1] [.const (.string (⟨#[121]⟩:ByteArray)),.const (.int .i64 (2))] rfl rfl rfl rfl rfl rfl rfl rfl) rfl (qn qb [.tmp 45] _ ([(⟨(⟨#[121]⟩:ByteArray),2,0,false⟩:qY)]:List qY) h rfl rfl rfl rfl rfl rfl rfl rfl rfl ⟨(qif (⟨(⟨#[121]⟩:ByteArray),2,0,false⟩:qY)),trivial⟩ rfl fun w13 p8 S8 h=>?_))
 obtain ⟨x3,hx2,hF⟩:=qe hF
 obtain ⟨g2,hx2⟩:=qk hx2
 refine qau qb 1 h rfl (h.sl 0 rfl).1 (h.sl 0 rfl).2 rfl rfl rfl rfl rfl rfl rfl rfl rfl g2 hx2 rfl fun w14 p9 k5 S9 h=>zp1 rfl (zs 2 h rfl fun w15 h=>zNSR (qbz qb [] _ ([]:List qag) [0,1,2,3,4,5,6,7] h rfl rfl rfl rfl rfl rfl rfl rfl rfl qc6 rfl rfl fun w16 p10 S10 h=>X0 7 rfl ?_))
 obtain ⟨o5,hF,hK2⟩:=qe hF
 refine qu ?_
 replace h:=h.pick [0,2,3,4,6,7,8] rfl
 refine rL (fun m e w'=>∃ (S11:Nat→Prop) (p11:Option Addr) (ln2:Nat) (k6:Nat) (x4:(List qag)) (i13:Int) (i14:Int) (i15:Int),qcT a_0 a_1 a_2 i1 i4 x1 x3 m x4 i13 i14 i15=some o5∧e=[(0,.pointer (some ⟨bb1,0,none⟩)),(6,.pointer (some ⟨bb2,0,none⟩)),(8,.pointer (some ⟨bb3,0,none⟩)),(11,.int .i64 (x1.length:Int)),(12,.slice p11 ln2 k6),(13,.int .i64 i15)]∧SH w0 w' [Ch.own S11 (x4:List qag) [.slice p11 ln2 k6],Ch.own S9 (x3:List qY) [.slice p9 x3.length k5],Ch.box bb3 [.string a_1,.int .i64 1,.slice p9 x3.length k5,.slice none 0 0,.slice p2 a_2.length k2,.int .i64 i1,.int .i64 i4] 128,Ch.box bb1 [.slice p1 a_0.code.length k1,.int .i64 i13,.int .i64 i14] 108,Ch.box bb2 [.string ByteArray.empty,.int .i64 0,.slice none 0 0,.slice none 0 0,.slice none 0 0,.int .i64 0,.int .i64 0] 128,Ch.own S1 (a_2:List Int) [.slice p2 a_2.length k2],Ch.grp (old w0) (FS F) [fct (a_0:Tl01Source) [.slice p1 a_0.code.length k1,.int .i64 a_0.at_,.int .i64 a_0.seed],same w0 w F]]) n ⟨_,_,_,_,_,_,_,_,hF,rfl,h⟩ rfl ?_
 rintro m2 e2 w17 ⟨S11,p11,ln2,k6,x4,i13,i14,i15,hF,rfl,h⟩
 obtain rfl:=(h.sl 0 rfl).2
 rcases m2 with _|m2
 ·cases hF
 refine X0 7 rfl (qm rfl hF ?_ ?_)<;>intro hF
 ·refine X1 7 2 h rfl (zcI h hF (qki ⟨[.string a_1],[.int .i64 1,.slice p9 x3.length k5,.slice none 0 0,.slice p2 a_2.length k2,.int .i64 i1,.int .i64 i4],rfl,rfl,⟨[.int .i64 1],[.slice p9 x3.length k5,.slice none 0 0,.slice p2 a_2.length k2,.int .i64 i1,.int .i64 i4],rfl,rfl,⟨[.slice p9 x3.length k5],[.slice none 0 0,.slice p2 a_2.length k2,.int .i64 i1,.int .i64 i4],rfl,(h.own 1 rfl),⟨[.slice none 0 0],[.slice p2 a_2.length k2,.int .i64 i1,.int .i64 i4],rfl,⟨_,_,rfl,qbf⟩,⟨[.slice p2 a_2.length k2],[.int .i64 i1,.int .i64 i4],rfl,(h.own 5 rfl),⟨[.int .i64 i1],[.int .i64 i4],rfl,rfl,rfl⟩⟩⟩⟩⟩⟩) rfl fun r1 w18 h hF=>X0 7 rfl (qm rfl hF ?_ ?_))<;>intro hF
  ·refine X0 6 rfl ?_
   replace h:=h.pick [3,0,1,2,4,5,6] rfl
   obtain ⟨o6,hr6,hF⟩:=qe hF
   obtain ⟨r2,i16,i17⟩:=o6
   refine qz (cB 156 rfl) (qc3 (s:=(⟨a_0.code,i13,i14⟩:Tl01Source)) (kind:=1) (a_from:=i15) (a_to:=(x1.length:Int)) (sense:=r1) h ⟨[.slice p1 a_0.code.length k1],[.int .i64 i13,.int .i64 i14],rfl,⟨_,_,rfl,(qf (h.frG 6 0 1 rfl rfl rfl)).1⟩,⟨[.int .i64 i13],[.int .i64 i14],rfl,rfl,rfl⟩⟩ hr6) rfl rfl rfl rfl ?_
   rintro w19 us4 ⟨S12,cs3,rfl,h⟩
   obtain ⟨p12,k7,p13,k8,rfl,-,-⟩:=qaE (h.own 0 rfl)
   replace h:SH _ _ [Ch.own S12 (r2:qag) (qfb r2 p12 p13 k7 k8),Ch.box bb1 [.slice p1 a_0.code.length k1,.int .i64 i16,.int .i64 i17] 108,Ch.own S11 (x4:List qag) [.slice p11 x4.length k6],Ch.own S9 (x3:List qY) [.slice p9 x3.length k5],Ch.box bb3 [.string a_1,.int .i64 1,.slice p9 x3.length k5,.slice none 0 0,.slice p2 a_2.length k2,.int .i64 i1,.int .i64 i4] 128,Ch.box bb2 [.string ByteArray.empty,.int .i64 0,.slice none 0 0,.slice none 0 0,.slice none 0 0,.int .i64 0,.int .i64 0] 128,Ch.own S1 (a_2:List Int) [.slice p2 a_2.length k2],Ch.grp (old w0) (FS F) [fct (a_0:Tl01Source) [.slice p1 a_0.code.length k1,.int .i64 a_0.at_,.int .i64 a_0.seed],same w0 w F]]:=h
   refine qbz qb [.tmp 65] _ ([r2]:List qag) [1,2,3,4,5,6,7] h rfl rfl rfl rfl rfl rfl rfl rfl rfl (qb7 (qE 0 h rfl) qc6 rfl) rfl rfl fun w20 p14 S13 h=>?_
   obtain ⟨x5,hx3,hF⟩:=qe hF
   obtain ⟨g3,hx3⟩:=qk hx3
   replace h:=h.pick [0,2,1,3,4,5,6,7] rfl
   refine qjg qb h rfl rfl rfl rfl rfl rfl rfl rfl rfl g3 hx3 rfl fun w21 p15 k9 S14 h=>X0 8 rfl ?_
   replace h:=h.pick [0,2,3,1,4,5,6] rfl
   exact rK ⟨_,_,_,_,_,_,_,_,hF,rfl,h⟩ rfl
  exact X0 7 rfl (rK ⟨_,_,_,_,_,_,_,_,hF,rfl,h⟩ rfl)
 refine qA rfl ?_
 obtain rfl:=qd hF;replace hF:=hK2
 refine X0 4 rfl (zs 2 h rfl fun w22 h=>X1 4 2 h rfl (zs 4 h rfl fun w23 h=>qaW ?_))
 have hk1:=h
 obtain ⟨S15,h⟩:=h.gather [2,3,4,6] (qlE (⟨a_1,1,x3,x4,a_2,i1,i4⟩:qv) h (qD (S:=fun _=>False) rfl) (qD (S:=fun _=>False) rfl) (qE 1 h rfl) (qE 0 h rfl) (qE 5 h rfl) (qD (S:=fun _=>False) rfl) (qD (S:=fun _=>False) rfl) (by rfl) (by rfl) (by rfl) (by rfl) (by rfl) (by rfl)) rfl
 obtain rfl:=qd hF
 replace h:=h.pick [0,2,4] rfl
 replace h:SH _ _ [Ch.own S15 ((⟨a_1,1,x3,x4,a_2,i1,i4⟩:qv):qv) [.string a_1,.int .i64 1,.slice p9 x3.length k5,.slice p11 x4.length k6,.slice p2 a_2.length k2,.int .i64 i1,.int .i64 i4],Ch.box bb1 [.slice p1 a_0.code.length k1,.int .i64 i13,.int .i64 i14] 108,Ch.grp (old w0) (FS F) [fct (a_0:Tl01Source) [.slice p1 a_0.code.length k1,.int .i64 a_0.at_,.int .i64 a_0.seed],same w0 w F]]:=h
 exact qbp qb [GoT.v qv [.string a_1,.int .i64 1,.slice p9 x3.length k5,.slice p11 x4.length k6,.slice p2 a_2.length k2,.int .i64 i1,.int .i64 i4]] ⟨⟨_,_,_,rfl,rfl,hk1.box 4 rfl,rfl⟩,trivial⟩ ⟨_,_,rfl,SH.unframe 1 (L0:=[Ch.box bb1 (qh a_0 p1 k1) 108,Ch.own S1 (a_2:List Int) [.slice p2 a_2.length k2]]) h0 [Ch.own S15 ((⟨a_1,1,x3,x4,a_2,i1,i4⟩:qv):qv) [.string a_1,.int .i64 1,.slice p9 x3.length k5,.slice p11 x4.length k6,.slice p2 a_2.length k2,.int .i64 i1,.int .i64 i4],Ch.box bb1 [.slice p1 a_0.code.length k1,.int .i64 i13,.int .i64 i14] 108] h rfl⟩
def qdq (n:Nat) (s:Tl01Source) (name:ByteArray) (kind:Int) (edge:Int):Option (qv × Int × Int) :=
 (ql n (⟨s.code,s.at_,s.seed⟩:Tl01Source) 50).bind fun o=>match o with
  | (i1,i2,i3) =>
   (ql n (⟨s.code,i2,i3⟩:Tl01Source) 80).bind fun o=>match o with
    | (i4,i5,i6) =>
     (ql n (⟨s.code,i5,i6⟩:Tl01Source) 9).bind fun o=>match o with
      | (i7,i8,i9) =>
       (ql n (⟨s.code,i8,i9⟩:Tl01Source) 9).bind fun o=>match o with
        | (i10,i11,i12) =>
         (qcp n (⟨s.code,i11,i12⟩:Tl01Source) edge 1 2 0).bind fun o=>match o with
          | (r1,i13,i14) =>
           (qcp n (⟨s.code,i13,i14⟩:Tl01Source) 4 1 0 0).bind fun o=>match o with
            | (r2,i15,i16) =>
             (qcp n (⟨s.code,i15,i16⟩:Tl01Source) 5 1 0 0).bind fun o=>match o with
              | (r3,i17,i18) =>
               bif (kind==3) then
                (qcp n (⟨s.code,i17,i18⟩:Tl01Source) 1 0 2 1).bind fun o=>match o with
                 | (r4,i19,i20) =>
                  (appS ([r1,r2,r3]:List qag) ([r4]:List qag)).bind fun x1 =>
                  some ((⟨name,kind,([(⟨(⟨#[100]⟩:ByteArray),1,W64 (1+i7),false⟩:qY),(⟨(⟨#[99,107]⟩:ByteArray),1,W64 (1+i10),true⟩:qY),(⟨(⟨#[113]⟩:ByteArray),2,0,false⟩:qY)]:List qY),x1,[],i1,i4⟩:qv),i19,i20)
               else
                some ((⟨name,kind,([(⟨(⟨#[100]⟩:ByteArray),1,W64 (1+i7),false⟩:qY),(⟨(⟨#[99,107]⟩:ByteArray),1,W64 (1+i10),true⟩:qY),(⟨(⟨#[113]⟩:ByteArray),2,0,false⟩:qY)]:List qY),([r1,r2,r3]:List qag),[],i1,i4⟩:qv),i17,i18)
theorem qfa {n:Nat} {w0 w:World} {F:List Ch} {s:Tl01Source} {bb1:Nat} {p1:Option Addr} {k1:Nat} {name:ByteArray} {kind:Int} {edge:Int} (h0:SH w0 w (Ch.box bb1 (qh s p1 k1) 108::F)) (ha1:GoT.R w (Fr w0 F) s [.slice p1 s.code.length k1,.int .i64 s.at_,.int .i64 s.seed]) {r:(qv × Int × Int)} (hF:qdq n s name kind edge=some r):RetW Tryz.prog 142 [.pointer (some ⟨bb1,0,none⟩),.string name,.int .i64 kind,.int .i64 edge] w (fun us w'=>∃ (S1:Nat→Prop) (cs1:List Value),us=[GoT.v qv cs1]∧SH w0 w' (Ch.own S1 (r.1:qv) cs1::Ch.box bb1 [.slice p1 s.code.length k1,.int .i64 r.2.1,.int .i64 r.2.2] 108::F)):=by
 have h:=SH.frame [Ch.box bb1 (qh s p1 k1) 108] h0
 replace h:=h.grpAdd 1 rfl ha1
 replace h:SH _ _ [Ch.box bb1 (qh s p1 k1) 108,Ch.grp (old w0) (FS F) [fct (s:Tl01Source) [.slice p1 s.code.length k1,.int .i64 s.at_,.int .i64 s.seed],same w0 w F]]:=h
 refine qbi Tryz.func142 rfl (m:=47) rfl rfl (zSR (qx qb h rfl rfl rfl fun w1 bb2 h=>X0 6 rfl ?_))
 replace h:=h.pick [1,0,2] rfl
 obtain ⟨o1,hr1,hF⟩:=qe hF
 obtain ⟨i1,i2,i3⟩:=o1
 refine qz (cB 32 rfl) (qi (a_0:=(⟨s.code,s.at_,s.seed⟩:Tl01Source)) (a_1:=50) h ⟨[.slice p1 s.code.length k1],[.int .i64 s.at_,.int .i64 s.seed],rfl,⟨_,_,rfl,(qf (h.frG 2 0 1 rfl rfl rfl)).1⟩,⟨[.int .i64 s.at_],[.int .i64 s.seed],rfl,rfl,rfl⟩⟩ hr1) rfl rfl rfl rfl ?_
 rintro w2 us1 ⟨rfl,h⟩
 replace h:SH _ _ [Ch.box bb1 [.slice p1 s.code.length k1,.int .i64 i2,.int .i64 i3] 108,Ch.box bb2 [.string ByteArray.empty,.int .i64 0,.slice none 0 0,.slice none 0 0,.slice none 0 0,.int .i64 0,.int .i64 0] 128,Ch.grp (old w0) (FS F) [fct (s:Tl01Source) [.slice p1 s.code.length k1,.int .i64 s.at_,.int .i64 s.seed],same w0 w F]]:=h
 refine zp1 rfl ?_
 obtain ⟨o2,hr2,hF⟩:=qe hF
 obtain ⟨i4,i5,i6⟩:=o2
 refine qz (cB 32 rfl) (qi (a_0:=(⟨s.code,i2,i3⟩:Tl01Source)) (a_1:=80) h ⟨[.slice p1 s.code.length k1],[.int .i64 i2,.int .i64 i3],rfl,⟨_,_,rfl,(qf (h.frG 2 0 1 rfl rfl rfl)).1⟩,⟨[.int .i64 i2],[.int .i64 i3],rfl,rfl,rfl⟩⟩ hr2) rfl rfl rfl rfl ?_
 rintro w3 us2 ⟨rfl,h⟩
 replace h:SH _ _ [Ch.box bb1 [.slice p1 s.code.length k1,.int .i64 i5,.int .i64 i6] 108,Ch.box bb2 [.string ByteArray.empty,.int .i64 0,.slice none 0 0,.slice none 0 0,.slice none 0 0,.int .i64 0,.int .i64 0] 128,Ch.grp (old w0) (FS F) [fct (s:Tl01Source) [.slice p1 s.code.length k1,.int .i64 s.at_,.int .i64 s.seed],same w0 w F]]:=h
 refine r_v (qai qb [0,1,5,6] [.tmp 11,.tmp 12,.tmp 14,.tmp 16] rfl rfl rfl rfl rfl rfl rfl rfl) rfl (qx qb h rfl rfl rfl fun w4 bb3 h=>zs 0 h rfl fun w5 h=>X0 4 rfl ?_)
 replace h:=h.pick [1,0,2,3] rfl
 obtain ⟨o3,hr3,hF⟩:=qe hF
 obtain ⟨i7,i8,i9⟩:=o3
 refine qz (cB 32 rfl) (qi (a_0:=(⟨s.code,i5,i6⟩:Tl01Source)) (a_1:=9) h ⟨[.slice p1 s.code.length k1],[.int .i64 i5,.int .i64 i6],rfl,⟨_,_,rfl,(qf (h.frG 3 0 1 rfl rfl rfl)).1⟩,⟨[.int .i64 i5],[.int .i64 i6],rfl,rfl,rfl⟩⟩ hr3) rfl rfl rfl rfl ?_
 rintro w6 us3 ⟨rfl,h⟩
 replace h:SH _ _ [Ch.box bb1 [.slice p1 s.code.length k1,.int .i64 i8,.int .i64 i9] 108,Ch.box bb3 [.string name,.int .i64 kind,.slice none 0 0,.slice none 0 0,.slice none 0 0,.int .i64 i1,.int .i64 i4] 128,Ch.box bb2 [.string ByteArray.empty,.int .i64 0,.slice none 0 0,.slice none 0 0,.slice none 0 0,.int .i64 0,.int .i64 0] 128,Ch.grp (old w0) (FS F) [fct (s:Tl01Source) [.slice p1 s.code.length k1,.int .i64 s.at_,.int .i64 s.seed],same w0 w F]]:=h
 refine zp1 rfl (r_v (qai qb [0,1,2] [.const (.string (⟨#[100]⟩:ByteArray)),.const (.int .i64 (1)),.tmp 20] rfl rfl rfl rfl rfl rfl rfl rfl) rfl (zp1 rfl ?_))
 obtain ⟨o4,hr4,hF⟩:=qe hF
 obtain ⟨i10,i11,i12⟩:=o4
 refine qz (cB 32 rfl) (qi (a_0:=(⟨s.code,i8,i9⟩:Tl01Source)) (a_1:=9) h ⟨[.slice p1 s.code.length k1],[.int .i64 i8,.int .i64 i9],rfl,⟨_,_,rfl,(qf (h.frG 3 0 1 rfl rfl rfl)).1⟩,⟨[.int .i64 i8],[.int .i64 i9],rfl,rfl,rfl⟩⟩ hr4) rfl rfl rfl rfl ?_
 rintro w7 us4 ⟨rfl,h⟩
 replace h:SH _ _ [Ch.box bb1 [.slice p1 s.code.length k1,.int .i64 i11,.int .i64 i12] 108,Ch.box bb3 [.string name,.int .i64 kind,.slice none 0 0,.slice none 0 0,.slice none 0 0,.int .i64 i1,.int .i64 i4] 128,Ch.box bb2 [.string ByteArray.empty,.int .i64 0,.slice none 0 0,.slice none 0 0,.slice none 0 0,.int .i64 0,.int .i64 0] 128,Ch.grp (old w0) (FS F) [fct (s:Tl01Source) [.slice p1 s.code.length k1,.int .i64 s.at_,.int .i64 s.seed],same w0 w F]]:=h
 refine zp1 rfl (r_v (qai qb [0,1,2,3] [.const (.string (⟨#[99,107]⟩:ByteArray)),.const (.int .i64 (1)),.tmp 24,.const (.bool true)] rfl rfl rfl rfl rfl rfl rfl rfl) rfl (r_v (qai qb [0,1] [.const (.string (⟨#[113]⟩:ByteArray)),.const (.int .i64 (2))] rfl rfl rfl rfl rfl rfl rfl rfl) rfl (qn qb [.tmp 21,.tmp 25,.tmp 26] _ ([(⟨(⟨#[100]⟩:ByteArray),1,W64 (1+i7),false⟩:qY),(⟨(⟨#[99,107]⟩:ByteArray),1,W64 (1+i10),true⟩:qY),(⟨(⟨#[113]⟩:ByteArray),2,0,false⟩:qY)]:List qY) h rfl rfl rfl rfl rfl rfl rfl rfl rfl ⟨(qif (⟨(⟨#[100]⟩:ByteArray),1,W64 (1+i7),false⟩:qY)),(qif (⟨(⟨#[99,107]⟩:ByteArray),1,W64 (1+i10),true⟩:qY)),(qif (⟨(⟨#[113]⟩:ByteArray),2,0,false⟩:qY)),trivial⟩ rfl fun w8 p2 S2 h=>zp1 rfl (zs 2 h rfl fun w9 h=>X0 5 rfl ?_))))
 replace h:=h.pick [1,0,2,3,4] rfl
 obtain ⟨o5,hr5,hF⟩:=qe hF
 obtain ⟨r1,i13,i14⟩:=o5
 refine qz (cB 156 rfl) (qc3 (s:=(⟨s.code,i11,i12⟩:Tl01Source)) (kind:=edge) (a_from:=1) (a_to:=2) (sense:=0) h ⟨[.slice p1 s.code.length k1],[.int .i64 i11,.int .i64 i12],rfl,⟨_,_,rfl,(qf (h.frG 4 0 1 rfl rfl rfl)).1⟩,⟨[.int .i64 i11],[.int .i64 i12],rfl,rfl,rfl⟩⟩ hr5) rfl rfl rfl rfl ?_
 rintro w10 us5 ⟨S3,cs2,rfl,h⟩
 obtain ⟨p3,k2,p4,k3,rfl,-,-⟩:=qaE (h.own 0 rfl)
 replace h:SH _ _ [Ch.own S3 (r1:qag) (qfb r1 p3 p4 k2 k3),Ch.box bb1 [.slice p1 s.code.length k1,.int .i64 i13,.int .i64 i14] 108,Ch.own S2 (([(⟨(⟨#[100]⟩:ByteArray),1,W64 (1+i7),false⟩:qY),(⟨(⟨#[99,107]⟩:ByteArray),1,W64 (1+i10),true⟩:qY),(⟨(⟨#[113]⟩:ByteArray),2,0,false⟩:qY)]:List qY):List qY) [.slice p2 3 3],Ch.box bb3 [.string name,.int .i64 kind,.slice p2 3 3,.slice none 0 0,.slice none 0 0,.int .i64 i1,.int .i64 i4] 128,Ch.box bb2 [.string ByteArray.empty,.int .i64 0,.slice none 0 0,.slice none 0 0,.slice none 0 0,.int .i64 0,.int .i64 0] 128,Ch.grp (old w0) (FS F) [fct (s:Tl01Source) [.slice p1 s.code.length k1,.int .i64 s.at_,.int .i64 s.seed],same w0 w F]]:=h
 refine zp1 rfl ?_
 replace h:=h.pick [1,0,2,3,4,5] rfl
 obtain ⟨o6,hr6,hF⟩:=qe hF
 obtain ⟨r2,i15,i16⟩:=o6
 refine qz (cB 156 rfl) (qc3 (s:=(⟨s.code,i13,i14⟩:Tl01Source)) (kind:=4) (a_from:=1) (a_to:=0) (sense:=0) h ⟨[.slice p1 s.code.length k1],[.int .i64 i13,.int .i64 i14],rfl,⟨_,_,rfl,(qf (h.frG 5 0 1 rfl rfl rfl)).1⟩,⟨[.int .i64 i13],[.int .i64 i14],rfl,rfl,rfl⟩⟩ hr6) rfl rfl rfl rfl ?_
 rintro w11 us6 ⟨S4,cs3,rfl,h⟩
 obtain ⟨p5,k4,p6,k5,rfl,-,-⟩:=qaE (h.own 0 rfl)
 replace h:SH _ _ [Ch.own S4 (r2:qag) (qfb r2 p5 p6 k4 k5),Ch.box bb1 [.slice p1 s.code.length k1,.int .i64 i15,.int .i64 i16] 108,Ch.own S3 (r1:qag) (qfb r1 p3 p4 k2 k3),Ch.own S2 (([(⟨(⟨#[100]⟩:ByteArray),1,W64 (1+i7),false⟩:qY),(⟨(⟨#[99,107]⟩:ByteArray),1,W64 (1+i10),true⟩:qY),(⟨(⟨#[113]⟩:ByteArray),2,0,false⟩:qY)]:List qY):List qY) [.slice p2 3 3],Ch.box bb3 [.string name,.int .i64 kind,.slice p2 3 3,.slice none 0 0,.slice none 0 0,.int .i64 i1,.int .i64 i4] 128,Ch.box bb2 [.string ByteArray.empty,.int .i64 0,.slice none 0 0,.slice none 0 0,.slice none 0 0,.int .i64 0,.int .i64 0] 128,Ch.grp (old w0) (FS F) [fct (s:Tl01Source) [.slice p1 s.code.length k1,.int .i64 s.at_,.int .i64 s.seed],same w0 w F]]:=h
 refine zp1 rfl ?_
 replace h:=h.pick [1,0,2,3,4,5,6] rfl
 obtain ⟨o7,hr7,hF⟩:=qe hF
 obtain ⟨r3,i17,i18⟩:=o7
 refine qz (cB 156 rfl) (qc3 (s:=(⟨s.code,i15,i16⟩:Tl01Source)) (kind:=5) (a_from:=1) (a_to:=0) (sense:=0) h ⟨[.slice p1 s.code.length k1],[.int .i64 i15,.int .i64 i16],rfl,⟨_,_,rfl,(qf (h.frG 6 0 1 rfl rfl rfl)).1⟩,⟨[.int .i64 i15],[.int .i64 i16],rfl,rfl,rfl⟩⟩ hr7) rfl rfl rfl rfl ?_
 rintro w12 us7 ⟨S5,cs4,rfl,h⟩
 obtain ⟨p7,k6,p8,k7,rfl,-,-⟩:=qaE (h.own 0 rfl)
 replace h:SH _ _ [Ch.own S5 (r3:qag) (qfb r3 p7 p8 k6 k7),Ch.box bb1 [.slice p1 s.code.length k1,.int .i64 i17,.int .i64 i18] 108,Ch.own S4 (r2:qag) (qfb r2 p5 p6 k4 k5),Ch.own S3 (r1:qag) (qfb r1 p3 p4 k2 k3),Ch.own S2 (([(⟨(⟨#[100]⟩:ByteArray),1,W64 (1+i7),false⟩:qY),(⟨(⟨#[99,107]⟩:ByteArray),1,W64 (1+i10),true⟩:qY),(⟨(⟨#[113]⟩:ByteArray),2,0,false⟩:qY)]:List qY):List qY) [.slice p2 3 3],Ch.box bb3 [.string name,.int .i64 kind,.slice p2 3 3,.slice none 0 0,.slice none 0 0,.int .i64 i1,.int .i64 i4] 128,Ch.box bb2 [.string ByteArray.empty,.int .i64 0,.slice none 0 0,.slice none 0 0,.slice none 0 0,.int .i64 0,.int .i64 0] 128,Ch.grp (old w0) (FS F) [fct (s:Tl01Source) [.slice p1 s.code.length k1,.int .i64 s.at_,.int .i64 s.seed],same w0 w F]]:=h
 refine qbz qb [.tmp 31,.tmp 33,.tmp 35] _ ([r1,r2,r3]:List qag) [1,4,5,6,7] h rfl rfl rfl rfl rfl rfl rfl rfl rfl (qb7 (qE 3 h rfl) (qb7 (qE 2 h rfl) (qb7 (qE 0 h rfl) qc6 rfl) rfl) rfl) rfl rfl fun w13 p9 S6 h=>X0 8 rfl (qm rfl hF ?_ ?_)<;>intro hF
 ·refine X0 3 rfl ?_
  replace h:=h.pick [1,0,2,3,4,5] rfl
  obtain ⟨o8,hr8,hF⟩:=qe hF
  obtain ⟨r4,i19,i20⟩:=o8
  refine qz (cB 156 rfl) (qc3 (s:=(⟨s.code,i17,i18⟩:Tl01Source)) (kind:=1) (a_from:=0) (a_to:=2) (sense:=1) h ⟨[.slice p1 s.code.length k1],[.int .i64 i17,.int .i64 i18],rfl,⟨_,_,rfl,(qf (h.frG 5 0 1 rfl rfl rfl)).1⟩,⟨[.int .i64 i17],[.int .i64 i18],rfl,rfl,rfl⟩⟩ hr8) rfl rfl rfl rfl ?_
  rintro w14 us8 ⟨S7,cs5,rfl,h⟩
  obtain ⟨p10,k8,p11,k9,rfl,-,-⟩:=qaE (h.own 0 rfl)
  replace h:SH _ _ [Ch.own S7 (r4:qag) (qfb r4 p10 p11 k8 k9),Ch.box bb1 [.slice p1 s.code.length k1,.int .i64 i19,.int .i64 i20] 108,Ch.own S6 (([r1,r2,r3]:List qag):List qag) [.slice p9 3 3],Ch.own S2 (([(⟨(⟨#[100]⟩:ByteArray),1,W64 (1+i7),false⟩:qY),(⟨(⟨#[99,107]⟩:ByteArray),1,W64 (1+i10),true⟩:qY),(⟨(⟨#[113]⟩:ByteArray),2,0,false⟩:qY)]:List qY):List qY) [.slice p2 3 3],Ch.box bb3 [.string name,.int .i64 kind,.slice p2 3 3,.slice none 0 0,.slice none 0 0,.int .i64 i1,.int .i64 i4] 128,Ch.box bb2 [.string ByteArray.empty,.int .i64 0,.slice none 0 0,.slice none 0 0,.slice none 0 0,.int .i64 0,.int .i64 0] 128,Ch.grp (old w0) (FS F) [fct (s:Tl01Source) [.slice p1 s.code.length k1,.int .i64 s.at_,.int .i64 s.seed],same w0 w F]]:=h
  refine qbz qb [.tmp 41] _ ([r4]:List qag) [1,2,3,4,5,6] h rfl rfl rfl rfl rfl rfl rfl rfl rfl (qb7 (qE 0 h rfl) qc6 rfl) rfl rfl fun w15 p12 S8 h=>?_
  obtain ⟨x1,hx1,hF⟩:=qe hF
  obtain ⟨g1,hx1⟩:=qk hx1
  replace h:=h.pick [0,2,1,3,4,5,6] rfl
  refine qjg qb h rfl rfl rfl rfl rfl rfl rfl rfl rfl g1 hx1 rfl fun w16 p13 k10 S9 h=>X0 6 rfl (zs 3 h rfl fun w17 h=>X1 4 3 h rfl (zs 4 h rfl fun w18 h=>qaW ?_))
  have hk1:=h
  obtain ⟨S10,h⟩:=h.gather [1,3,4,5] (qlE (⟨name,kind,([(⟨(⟨#[100]⟩:ByteArray),1,W64 (1+i7),false⟩:qY),(⟨(⟨#[99,107]⟩:ByteArray),1,W64 (1+i10),true⟩:qY),(⟨(⟨#[113]⟩:ByteArray),2,0,false⟩:qY)]:List qY),x1,[],i1,i4⟩:qv) h (qD (S:=fun _=>False) rfl) (qD (S:=fun _=>False) rfl) (qE 2 h rfl) (qE 0 h rfl) qjQ (qD (S:=fun _=>False) rfl) (qD (S:=fun _=>False) rfl) (by rfl) (by rfl) (by rfl) (by rfl) (by rfl) (by rfl)) rfl
  obtain rfl:=qd hF
  replace h:=h.pick [0,1,4] rfl
  replace h:SH _ _ [Ch.own S10 ((⟨name,kind,([(⟨(⟨#[100]⟩:ByteArray),1,W64 (1+i7),false⟩:qY),(⟨(⟨#[99,107]⟩:ByteArray),1,W64 (1+i10),true⟩:qY),(⟨(⟨#[113]⟩:ByteArray),2,0,false⟩:qY)]:List qY),x1,[],i1,i4⟩:qv):qv) [.string name,.int .i64 kind,.slice p2 3 3,.slice p13 x1.length k10,.slice none 0 0,.int .i64 i1,.int .i64 i4],Ch.box bb1 [.slice p1 s.code.length k1,.int .i64 i19,.int .i64 i20] 108,Ch.grp (old w0) (FS F) [fct (s:Tl01Source) [.slice p1 s.code.length k1,.int .i64 s.at_,.int .i64 s.seed],same w0 w F]]:=h
  exact qbp qb [GoT.v qv [.string name,.int .i64 kind,.slice p2 3 3,.slice p13 x1.length k10,.slice none 0 0,.int .i64 i1,.int .i64 i4]] ⟨⟨_,_,_,rfl,rfl,hk1.box 4 rfl,rfl⟩,trivial⟩ ⟨_,_,rfl,SH.unframe 1 (L0:=[Ch.box bb1 (qh s p1 k1) 108]) h0 [Ch.own S10 ((⟨name,kind,([(⟨(⟨#[100]⟩:ByteArray),1,W64 (1+i7),false⟩:qY),(⟨(⟨#[99,107]⟩:ByteArray),1,W64 (1+i10),true⟩:qY),(⟨(⟨#[113]⟩:ByteArray),2,0,false⟩:qY)]:List qY),x1,[],i1,i4⟩:qv):qv) [.string name,.int .i64 kind,.slice p2 3 3,.slice p13 x1.length k10,.slice none 0 0,.int .i64 i1,.int .i64 i4],Ch.box bb1 [.slice p1 s.code.length k1,.int .i64 i19,.int .i64 i20] 108] h rfl⟩
 refine X0 5 rfl (zs 3 h rfl fun w19 h=>X1 4 3 h rfl (zs 4 h rfl fun w20 h=>qaW ?_))
 have hk2:=h
 obtain ⟨S11,h⟩:=h.gather [1,3,4,5] (qlE (⟨name,kind,([(⟨(⟨#[100]⟩:ByteArray),1,W64 (1+i7),false⟩:qY),(⟨(⟨#[99,107]⟩:ByteArray),1,W64 (1+i10),true⟩:qY),(⟨(⟨#[113]⟩:ByteArray),2,0,false⟩:qY)]:List qY),([r1,r2,r3]:List qag),[],i1,i4⟩:qv) h (qD (S:=fun _=>False) rfl) (qD (S:=fun _=>False) rfl) (qE 2 h rfl) (qE 0 h rfl) qjQ (qD (S:=fun _=>False) rfl) (qD (S:=fun _=>False) rfl) (by rfl) (by rfl) (by rfl) (by rfl) (by rfl) (by rfl)) rfl
 obtain rfl:=qd hF
 replace h:=h.pick [0,1,4] rfl
 replace h:SH _ _ [Ch.own S11 ((⟨name,kind,([(⟨(⟨#[100]⟩:ByteArray),1,W64 (1+i7),false⟩:qY),(⟨(⟨#[99,107]⟩:ByteArray),1,W64 (1+i10),true⟩:qY),(⟨(⟨#[113]⟩:ByteArray),2,0,false⟩:qY)]:List qY),([r1,r2,r3]:List qag),[],i1,i4⟩:qv):qv) [.string name,.int .i64 kind,.slice p2 3 3,.slice p9 3 3,.slice none 0 0,.int .i64 i1,.int .i64 i4],Ch.box bb1 [.slice p1 s.code.length k1,.int .i64 i17,.int .i64 i18] 108,Ch.grp (old w0) (FS F) [fct (s:Tl01Source) [.slice p1 s.code.length k1,.int .i64 s.at_,.int .i64 s.seed],same w0 w F]]:=h
 exact qbp qb [GoT.v qv [.string name,.int .i64 kind,.slice p2 3 3,.slice p9 3 3,.slice none 0 0,.int .i64 i1,.int .i64 i4]] ⟨⟨_,_,_,rfl,rfl,hk2.box 4 rfl,rfl⟩,trivial⟩ ⟨_,_,rfl,SH.unframe 1 (L0:=[Ch.box bb1 (qh s p1 k1) 108]) h0 [Ch.own S11 ((⟨name,kind,([(⟨(⟨#[100]⟩:ByteArray),1,W64 (1+i7),false⟩:qY),(⟨(⟨#[99,107]⟩:ByteArray),1,W64 (1+i10),true⟩:qY),(⟨(⟨#[113]⟩:ByteArray),2,0,false⟩:qY)]:List qY),([r1,r2,r3]:List qag),[],i1,i4⟩:qv):qv) [.string name,.int .i64 kind,.slice p2 3 3,.slice p9 3 3,.slice none 0 0,.int .i64 i1,.int .i64 i4],Ch.box bb1 [.slice p1 s.code.length k1,.int .i64 i17,.int .i64 i18] 108] h rfl⟩
def qhc (n:Nat) (s:Tl01Source):Option (qq × Int × Int) :=
 (qd3 n (⟨s.code,s.at_,s.seed⟩:Tl01Source) (⟨#[105,110,118]⟩:ByteArray) ([1,0]:List Int)).bind fun o=>match o with
  | (r1,i1,i2) =>
   (qd3 n (⟨s.code,i1,i2⟩:Tl01Source) (⟨#[98,117,102]⟩:ByteArray) ([0,1]:List Int)).bind fun o=>match o with
    | (r2,i3,i4) =>
     (qd3 n (⟨s.code,i3,i4⟩:Tl01Source) (⟨#[110,97,110,100]⟩:ByteArray) ([1,1,1,0]:List Int)).bind fun o=>match o with
      | (r3,i5,i6) =>
       (qd3 n (⟨s.code,i5,i6⟩:Tl01Source) (⟨#[120,111,114]⟩:ByteArray) ([0,1,1,0]:List Int)).bind fun o=>match o with
        | (r4,i7,i8) =>
         (qd3 n (⟨s.code,i7,i8⟩:Tl01Source) (⟨#[109,117,120]⟩:ByteArray) ([0,1,0,1,0,0,1,1]:List Int)).bind fun o=>match o with
          | (r5,i9,i10) =>
           (qdq n (⟨s.code,i9,i10⟩:Tl01Source) (⟨#[102,108,111,112]⟩:ByteArray) 2 2).bind fun o=>match o with
            | (r6,i11,i12) =>
             (qdq n (⟨s.code,i11,i12⟩:Tl01Source) (⟨#[102,108,111,112,110]⟩:ByteArray) 2 3).bind fun o=>match o with
              | (r7,i13,i14) =>
               (qdq n (⟨s.code,i13,i14⟩:Tl01Source) (⟨#[108,97,116,99,104]⟩:ByteArray) 3 2).bind fun o=>match o with
                | (r8,i15,i16) =>
                 some ((⟨([r1,r2,r3,r4,r5,r6,r7,r8]:List qv)⟩:qq),i15,i16)
theorem qkv {n:Nat} {w0 w:World} {F:List Ch} {s:Tl01Source} {bb1:Nat} {p1:Option Addr} {k1:Nat} (h0:SH w0 w (Ch.box bb1 (qh s p1 k1) 108::F)) (ha1:GoT.R w (Fr w0 F) s [.slice p1 s.code.length k1,.int .i64 s.at_,.int .i64 s.seed]) {r:(qq × Int × Int)} (hF:qhc n s=some r):RetW Tryz.prog 115 [.pointer (some ⟨bb1,0,none⟩)] w (fun us w'=>∃ (S1:Nat→Prop) (cs1:List Value),us=[GoT.v qq cs1]∧SH w0 w' (Ch.own S1 (r.1:qq) cs1::Ch.box bb1 [.slice p1 s.code.length k1,.int .i64 r.2.1,.int .i64 r.2.2] 108::F)):=by
 have h:=SH.frame [Ch.box bb1 (qh s p1 k1) 108] h0
 replace h:=h.grpAdd 1 rfl ha1
 replace h:SH _ _ [Ch.box bb1 (qh s p1 k1) 108,Ch.grp (old w0) (FS F) [fct (s:Tl01Source) [.slice p1 s.code.length k1,.int .i64 s.at_,.int .i64 s.seed],same w0 w F]]:=h
 refine qbi Tryz.func115 rfl (m:=45) rfl rfl (zSR (qx qb h rfl rfl rfl fun w1 bb2 h=>zNSR (r_v (qai qb [] [] rfl rfl rfl rfl rfl rfl rfl rfl) rfl (qx qb h rfl rfl rfl fun w2 bb3 h=>zs 0 h rfl fun w3 h=>X0 4 rfl (qn qb [.const (.int .i64 (1)),.const (.int .i64 (0))] _ ([1,0]:List Int) h rfl rfl rfl rfl rfl rfl rfl rfl rfl ⟨rfl,rfl,trivial⟩ rfl fun w4 p2 S2 h=>?_)))))
 replace h:=h.pick [3,0,1,2,4] rfl
 obtain ⟨o1,hr1,hF⟩:=qe hF
 obtain ⟨r1,i1,i2⟩:=o1
 refine qz (cB 141 rfl) (qen (a_0:=(⟨s.code,s.at_,s.seed⟩:Tl01Source)) (a_1:=(⟨#[105,110,118]⟩:ByteArray)) (a_2:=([1,0]:List Int)) h ⟨[.slice p1 s.code.length k1],[.int .i64 s.at_,.int .i64 s.seed],rfl,⟨_,_,rfl,(qf (h.frG 4 0 2 rfl rfl rfl)).1⟩,⟨[.int .i64 s.at_],[.int .i64 s.seed],rfl,rfl,rfl⟩⟩ hr1) rfl rfl rfl rfl ?_
 rintro w5 us1 ⟨S3,cs2,rfl,h⟩
 obtain ⟨p3,k2,p4,k3,p5,k4,rfl,-,-,-⟩:=qQ (h.own 0 rfl)
 replace h:SH _ _ [Ch.own S3 (r1:qv) (qy r1 p3 p4 p5 k2 k3 k4),Ch.box bb1 [.slice p1 s.code.length k1,.int .i64 i1,.int .i64 i2] 108,Ch.box bb3 [.slice none 0 0] 26,Ch.box bb2 [.slice none 0 0] 26,Ch.grp (old w0) (FS F) [fct (s:Tl01Source) [.slice p1 s.code.length k1,.int .i64 s.at_,.int .i64 s.seed],same w0 w F]]:=h
 refine qx qb h rfl rfl rfl fun w6 bb4 h=>zs 0 h rfl fun w7 h=>X0 4 rfl (qn qb [.const (.int .i64 (0)),.const (.int .i64 (1))] _ ([0,1]:List Int) h rfl rfl rfl rfl rfl rfl rfl rfl rfl ⟨rfl,rfl,trivial⟩ rfl fun w8 p6 S4 h=>?_)
 replace h:=h.pick [3,0,1,2,4,5,6] rfl
 obtain ⟨o2,hr2,hF⟩:=qe hF
 obtain ⟨r2,i3,i4⟩:=o2
 refine qz (cB 141 rfl) (qen (a_0:=(⟨s.code,i1,i2⟩:Tl01Source)) (a_1:=(⟨#[98,117,102]⟩:ByteArray)) (a_2:=([0,1]:List Int)) h ⟨[.slice p1 s.code.length k1],[.int .i64 i1,.int .i64 i2],rfl,⟨_,_,rfl,(qf (h.frG 6 0 2 rfl rfl rfl)).1⟩,⟨[.int .i64 i1],[.int .i64 i2],rfl,rfl,rfl⟩⟩ hr2) rfl rfl rfl rfl ?_
 rintro w9 us2 ⟨S5,cs3,rfl,h⟩
 obtain ⟨p7,k5,p8,k6,p9,k7,rfl,-,-,-⟩:=qQ (h.own 0 rfl)
 replace h:SH _ _ [Ch.own S5 (r2:qv) (qy r2 p7 p8 p9 k5 k6 k7),Ch.box bb1 [.slice p1 s.code.length k1,.int .i64 i3,.int .i64 i4] 108,Ch.box bb4 (qy r1 p3 p4 p5 k2 k3 k4) 128,Ch.own S3 (r1:qv) (qy r1 p3 p4 p5 k2 k3 k4),Ch.box bb3 [.slice none 0 0] 26,Ch.box bb2 [.slice none 0 0] 26,Ch.grp (old w0) (FS F) [fct (s:Tl01Source) [.slice p1 s.code.length k1,.int .i64 s.at_,.int .i64 s.seed],same w0 w F]]:=h
 refine qx qb h rfl rfl rfl fun w10 bb5 h=>zs 0 h rfl fun w11 h=>X0 4 rfl (qn qb [.const (.int .i64 (1)),.const (.int .i64 (1)),.const (.int .i64 (1)),.const (.int .i64 (0))] _ ([1,1,1,0]:List Int) h rfl rfl rfl rfl rfl rfl rfl rfl rfl ⟨rfl,rfl,rfl,rfl,trivial⟩ rfl fun w12 p10 S6 h=>?_)
 replace h:=h.pick [3,0,1,2,4,5,6,7,8] rfl
 obtain ⟨o3,hr3,hF⟩:=qe hF
 obtain ⟨r3,i5,i6⟩:=o3
 refine qz (cB 141 rfl) (qen (a_0:=(⟨s.code,i3,i4⟩:Tl01Source)) (a_1:=(⟨#[110,97,110,100]⟩:ByteArray)) (a_2:=([1,1,1,0]:List Int)) h ⟨[.slice p1 s.code.length k1],[.int .i64 i3,.int .i64 i4],rfl,⟨_,_,rfl,(qf (h.frG 8 0 2 rfl rfl rfl)).1⟩,⟨[.int .i64 i3],[.int .i64 i4],rfl,rfl,rfl⟩⟩ hr3) rfl rfl rfl rfl ?_
 rintro w13 us3 ⟨S7,cs4,rfl,h⟩
 obtain ⟨p11,k8,p12,k9,p13,k10,rfl,-,-,-⟩:=qQ (h.own 0 rfl)
 replace h:SH _ _ [Ch.own S7 (r3:qv) (qy r3 p11 p12 p13 k8 k9 k10),Ch.box bb1 [.slice p1 s.code.length k1,.int .i64 i5,.int .i64 i6] 108,Ch.box bb5 (qy r2 p7 p8 p9 k5 k6 k7) 128,Ch.own S5 (r2:qv) (qy r2 p7 p8 p9 k5 k6 k7),Ch.box bb4 (qy r1 p3 p4 p5 k2 k3 k4) 128,Ch.own S3 (r1:qv) (qy r1 p3 p4 p5 k2 k3 k4),Ch.box bb3 [.slice none 0 0] 26,Ch.box bb2 [.slice none 0 0] 26,Ch.grp (old w0) (FS F) [fct (s:Tl01Source) [.slice p1 s.code.length k1,.int .i64 s.at_,.int .i64 s.seed],same w0 w F]]:=h
 refine qx qb h rfl rfl rfl fun w14 bb6 h=>zs 0 h rfl fun w15 h=>X0 4 rfl (qn qb [.const (.int .i64 (0)),.const (.int .i64 (1)),.const (.int .i64 (1)),.const (.int .i64 (0))] _ ([0,1,1,0]:List Int) h rfl rfl rfl rfl rfl rfl rfl rfl rfl ⟨rfl,rfl,rfl,rfl,trivial⟩ rfl fun w16 p14 S8 h=>?_)
 replace h:=h.pick [3,0,1,2,4,5,6,7,8,9,10] rfl
 obtain ⟨o4,hr4,hF⟩:=qe hF
 obtain ⟨r4,i7,i8⟩:=o4
 refine qz (cB 141 rfl) (qen (a_0:=(⟨s.code,i5,i6⟩:Tl01Source)) (a_1:=(⟨#[120,111,114]⟩:ByteArray)) (a_2:=([0,1,1,0]:List Int)) h ⟨[.slice p1 s.code.length k1],[.int .i64 i5,.int .i64 i6],rfl,⟨_,_,rfl,(qf (h.frG 10 0 2 rfl rfl rfl)).1⟩,⟨[.int .i64 i5],[.int .i64 i6],rfl,rfl,rfl⟩⟩ hr4) rfl rfl rfl rfl ?_
 rintro w17 us4 ⟨S9,cs5,rfl,h⟩
 obtain ⟨p15,k11,p16,k12,p17,k13,rfl,-,-,-⟩:=qQ (h.own 0 rfl)
 replace h:SH _ _ [Ch.own S9 (r4:qv) (qy r4 p15 p16 p17 k11 k12 k13),Ch.box bb1 [.slice p1 s.code.length k1,.int .i64 i7,.int .i64 i8] 108,Ch.box bb6 (qy r3 p11 p12 p13 k8 k9 k10) 128,Ch.own S7 (r3:qv) (qy r3 p11 p12 p13 k8 k9 k10),Ch.box bb5 (qy r2 p7 p8 p9 k5 k6 k7) 128,Ch.own S5 (r2:qv) (qy r2 p7 p8 p9 k5 k6 k7),Ch.box bb4 (qy r1 p3 p4 p5 k2 k3 k4) 128,Ch.own S3 (r1:qv) (qy r1 p3 p4 p5 k2 k3 k4),Ch.box bb3 [.slice none 0 0] 26,Ch.box bb2 [.slice none 0 0] 26,Ch.grp (old w0) (FS F) [fct (s:Tl01Source) [.slice p1 s.code.length k1,.int .i64 s.at_,.int .i64 s.seed],same w0 w F]]:=h
 refine qx qb h rfl rfl rfl fun w18 bb7 h=>zs 0 h rfl fun w19 h=>X0 4 rfl (qn qb [.const (.int .i64 (0)),.const (.int .i64 (1)),.const (.int .i64 (0)),.const (.int .i64 (1)),.const (.int .i64 (0)),.const (.int .i64 (0)),.const (.int .i64 (1)),.const (.int .i64 (1))] _ ([0,1,0,1,0,0,1,1]:List Int) h rfl rfl rfl rfl rfl rfl rfl rfl rfl ⟨rfl,rfl,rfl,rfl,rfl,rfl,rfl,rfl,trivial⟩ rfl fun w20 p18 S10 h=>?_)
 replace h:=h.pick [3,0,1,2,4,5,6,7,8,9,10,11,12] rfl
 obtain ⟨o5,hr5,hF⟩:=qe hF
 obtain ⟨r5,i9,i10⟩:=o5
 refine qz (cB 141 rfl) (qen (a_0:=(⟨s.code,i7,i8⟩:Tl01Source)) (a_1:=(⟨#[109,117,120]⟩:ByteArray)) (a_2:=([0,1,0,1,0,0,1,1]:List Int)) h ⟨[.slice p1 s.code.length k1],[.int .i64 i7,.int .i64 i8],rfl,⟨_,_,rfl,(qf (h.frG 12 0 2 rfl rfl rfl)).1⟩,⟨[.int .i64 i7],[.int .i64 i8],rfl,rfl,rfl⟩⟩ hr5) rfl rfl rfl rfl ?_
 rintro w21 us5 ⟨S11,cs6,rfl,h⟩
 obtain ⟨p19,k14,p20,k15,p21,k16,rfl,-,-,-⟩:=qQ (h.own 0 rfl)
 replace h:SH _ _ [Ch.own S11 (r5:qv) (qy r5 p19 p20 p21 k14 k15 k16),Ch.box bb1 [.slice p1 s.code.length k1,.int .i64 i9,.int .i64 i10] 108,Ch.box bb7 (qy r4 p15 p16 p17 k11 k12 k13) 128,Ch.own S9 (r4:qv) (qy r4 p15 p16 p17 k11 k12 k13),Ch.box bb6 (qy r3 p11 p12 p13 k8 k9 k10) 128,Ch.own S7 (r3:qv) (qy r3 p11 p12 p13 k8 k9 k10),Ch.box bb5 (qy r2 p7 p8 p9 k5 k6 k7) 128,Ch.own S5 (r2:qv) (qy r2 p7 p8 p9 k5 k6 k7),Ch.box bb4 (qy r1 p3 p4 p5 k2 k3 k4) 128,Ch.own S3 (r1:qv) (qy r1 p3 p4 p5 k2 k3 k4),Ch.box bb3 [.slice none 0 0] 26,Ch.box bb2 [.slice none 0 0] 26,Ch.grp (old w0) (FS F) [fct (s:Tl01Source) [.slice p1 s.code.length k1,.int .i64 s.at_,.int .i64 s.seed],same w0 w F]]:=h
 refine qx qb h rfl rfl rfl fun w22 bb8 h=>zs 0 h rfl fun w23 h=>X0 4 rfl ?_
 replace h:=h.pick [2,0,1,3,4,5,6,7,8,9,10,11,12,13] rfl
 obtain ⟨o6,hr6,hF⟩:=qe hF
 obtain ⟨r6,i11,i12⟩:=o6
 refine qz (cB 142 rfl) (qfa (s:=(⟨s.code,i9,i10⟩:Tl01Source)) (name:=(⟨#[102,108,111,112]⟩:ByteArray)) (kind:=2) (edge:=2) h ⟨[.slice p1 s.code.length k1],[.int .i64 i9,.int .i64 i10],rfl,⟨_,_,rfl,(qf (h.frG 13 0 1 rfl rfl rfl)).1⟩,⟨[.int .i64 i9],[.int .i64 i10],rfl,rfl,rfl⟩⟩ hr6) rfl rfl rfl rfl ?_
 rintro w24 us6 ⟨S12,cs7,rfl,h⟩
 obtain ⟨p22,k17,p23,k18,p24,k19,rfl,-,-,-⟩:=qQ (h.own 0 rfl)
 replace h:SH _ _ [Ch.own S12 (r6:qv) (qy r6 p22 p23 p24 k17 k18 k19),Ch.box bb1 [.slice p1 s.code.length k1,.int .i64 i11,.int .i64 i12] 108,Ch.box bb8 (qy r5 p19 p20 p21 k14 k15 k16) 128,Ch.own S11 (r5:qv) (qy r5 p19 p20 p21 k14 k15 k16),Ch.box bb7 (qy r4 p15 p16 p17 k11 k12 k13) 128,Ch.own S9 (r4:qv) (qy r4 p15 p16 p17 k11 k12 k13),Ch.box bb6 (qy r3 p11 p12 p13 k8 k9 k10) 128,Ch.own S7 (r3:qv) (qy r3 p11 p12 p13 k8 k9 k10),Ch.box bb5 (qy r2 p7 p8 p9 k5 k6 k7) 128,Ch.own S5 (r2:qv) (qy r2 p7 p8 p9 k5 k6 k7),Ch.box bb4 (qy r1 p3 p4 p5 k2 k3 k4) 128,Ch.own S3 (r1:qv) (qy r1 p3 p4 p5 k2 k3 k4),Ch.box bb3 [.slice none 0 0] 26,Ch.box bb2 [.slice none 0 0] 26,Ch.grp (old w0) (FS F) [fct (s:Tl01Source) [.slice p1 s.code.length k1,.int .i64 s.at_,.int .i64 s.seed],same w0 w F]]:=h
 refine qx qb h rfl rfl rfl fun w25 bb9 h=>zs 0 h rfl fun w26 h=>X0 4 rfl ?_
 replace h:=h.pick [2,0,1,3,4,5,6,7,8,9,10,11,12,13,14,15] rfl
 obtain ⟨o7,hr7,hF⟩:=qe hF
 obtain ⟨r7,i13,i14⟩:=o7
 refine qz (cB 142 rfl) (qfa (s:=(⟨s.code,i11,i12⟩:Tl01Source)) (name:=(⟨#[102,108,111,112,110]⟩:ByteArray)) (kind:=2) (edge:=3) h ⟨[.slice p1 s.code.length k1],[.int .i64 i11,.int .i64 i12],rfl,⟨_,_,rfl,(qf (h.frG 15 0 1 rfl rfl rfl)).1⟩,⟨[.int .i64 i11],[.int .i64 i12],rfl,rfl,rfl⟩⟩ hr7) rfl rfl rfl rfl ?_
 rintro w27 us7 ⟨S13,cs8,rfl,h⟩
 obtain ⟨p25,k20,p26,k21,p27,k22,rfl,-,-,-⟩:=qQ (h.own 0 rfl)
 replace h:SH _ _ [Ch.own S13 (r7:qv) (qy r7 p25 p26 p27 k20 k21 k22),Ch.box bb1 [.slice p1 s.code.length k1,.int .i64 i13,.int .i64 i14] 108,Ch.box bb9 (qy r6 p22 p23 p24 k17 k18 k19) 128,Ch.own S12 (r6:qv) (qy r6 p22 p23 p24 k17 k18 k19),Ch.box bb8 (qy r5 p19 p20 p21 k14 k15 k16) 128,Ch.own S11 (r5:qv) (qy r5 p19 p20 p21 k14 k15 k16),Ch.box bb7 (qy r4 p15 p16 p17 k11 k12 k13) 128,Ch.own S9 (r4:qv) (qy r4 p15 p16 p17 k11 k12 k13),Ch.box bb6 (qy r3 p11 p12 p13 k8 k9 k10) 128,Ch.own S7 (r3:qv) (qy r3 p11 p12 p13 k8 k9 k10),Ch.box bb5 (qy r2 p7 p8 p9 k5 k6 k7) 128,Ch.own S5 (r2:qv) (qy r2 p7 p8 p9 k5 k6 k7),Ch.box bb4 (qy r1 p3 p4 p5 k2 k3 k4) 128,Ch.own S3 (r1:qv) (qy r1 p3 p4 p5 k2 k3 k4),Ch.box bb3 [.slice none 0 0] 26,Ch.box bb2 [.slice none 0 0] 26,Ch.grp (old w0) (FS F) [fct (s:Tl01Source) [.slice p1 s.code.length k1,.int .i64 s.at_,.int .i64 s.seed],same w0 w F]]:=h
 refine qx qb h rfl rfl rfl fun w28 bb10 h=>zs 0 h rfl fun w29 h=>X0 4 rfl ?_
 replace h:=h.pick [2,0,1,3,4,5,6,7,8,9,10,11,12,13,14,15,16,17] rfl
 obtain ⟨o8,hr8,hF⟩:=qe hF
 obtain ⟨r8,i15,i16⟩:=o8
 refine qz (cB 142 rfl) (qfa (s:=(⟨s.code,i13,i14⟩:Tl01Source)) (name:=(⟨#[108,97,116,99,104]⟩:ByteArray)) (kind:=3) (edge:=2) h ⟨[.slice p1 s.code.length k1],[.int .i64 i13,.int .i64 i14],rfl,⟨_,_,rfl,(qf (h.frG 17 0 1 rfl rfl rfl)).1⟩,⟨[.int .i64 i13],[.int .i64 i14],rfl,rfl,rfl⟩⟩ hr8) rfl rfl rfl rfl ?_
 rintro w30 us8 ⟨S14,cs9,rfl,h⟩
 obtain ⟨p28,k23,p29,k24,p30,k25,rfl,-,-,-⟩:=qQ (h.own 0 rfl)
 replace h:SH _ _ [Ch.own S14 (r8:qv) (qy r8 p28 p29 p30 k23 k24 k25),Ch.box bb1 [.slice p1 s.code.length k1,.int .i64 i15,.int .i64 i16] 108,Ch.box bb10 (qy r7 p25 p26 p27 k20 k21 k22) 128,Ch.own S13 (r7:qv) (qy r7 p25 p26 p27 k20 k21 k22),Ch.box bb9 (qy r6 p22 p23 p24 k17 k18 k19) 128,Ch.own S12 (r6:qv) (qy r6 p22 p23 p24 k17 k18 k19),Ch.box bb8 (qy r5 p19 p20 p21 k14 k15 k16) 128,Ch.own S11 (r5:qv) (qy r5 p19 p20 p21 k14 k15 k16),Ch.box bb7 (qy r4 p15 p16 p17 k11 k12 k13) 128,Ch.own S9 (r4:qv) (qy r4 p15 p16 p17 k11 k12 k13),Ch.box bb6 (qy r3 p11 p12 p13 k8 k9 k10) 128,Ch.own S7 (r3:qv) (qy r3 p11 p12 p13 k8 k9 k10),Ch.box bb5 (qy r2 p7 p8 p9 k5 k6 k7) 128,Ch.own S5 (r2:qv) (qy r2 p7 p8 p9 k5 k6 k7),Ch.box bb4 (qy r1 p3 p4 p5 k2 k3 k4) 128,Ch.own S3 (r1:qv) (qy r1 p3 p4 p5 k2 k3 k4),Ch.box bb3 [.slice none 0 0] 26,Ch.box bb2 [.slice none 0 0] 26,Ch.grp (old w0) (FS F) [fct (s:Tl01Source) [.slice p1 s.code.length k1,.int .i64 s.at_,.int .i64 s.seed],same w0 w F]]:=h
 refine qx qb h rfl rfl rfl fun w31 bb11 h=>zs 0 h rfl fun w32 h=>X5 8 15 13 11 9 7 h rfl (X3 3 5 3 0 h rfl (qbz qb [.tmp 34,.tmp 35,.tmp 36,.tmp 37,.tmp 38,.tmp 39,.tmp 40,.tmp 41] _ ([r1,r2,r3,r4,r5,r6,r7,r8]:List qv) [0,2,3,5,7,9,11,13,15,17,18,19] h rfl rfl rfl rfl rfl rfl rfl rfl rfl (qb7 (qE 16 h rfl) (qb7 (qE 14 h rfl) (qb7 (qE 12 h rfl) (qb7 (qE 10 h rfl) (qb7 (qE 8 h rfl) (qb7 (qE 6 h rfl) (qb7 (qE 4 h rfl) (qb7 (qE 1 h rfl) qc6 rfl) rfl) rfl) rfl) rfl) rfl) rfl) rfl) rfl rfl fun w33 p31 S15 h=>zp1 rfl (zs 10 h rfl fun w34 h=>X1 4 10 h rfl (zs 11 h rfl fun w35 h=>qaW ?_))))
 have hk1:=h
 obtain ⟨S16,h⟩:=h.gather [1,2,3,4,5,6,7,8,9,10,11,12] (qmJ (⟨([r1,r2,r3,r4,r5,r6,r7,r8]:List qv)⟩:qq) h (qE 0 h rfl) ) rfl
 obtain rfl:=qd hF
 replace h:=h.pick [0,2,12] rfl
 replace h:SH _ _ [Ch.own S16 ((⟨([r1,r2,r3,r4,r5,r6,r7,r8]:List qv)⟩:qq):qq) [.slice p31 8 8],Ch.box bb1 [.slice p1 s.code.length k1,.int .i64 i15,.int .i64 i16] 108,Ch.grp (old w0) (FS F) [fct (s:Tl01Source) [.slice p1 s.code.length k1,.int .i64 s.at_,.int .i64 s.seed],same w0 w F]]:=h
 exact qbp qb [GoT.v qq [.slice p31 8 8]] ⟨⟨_,_,_,rfl,rfl,hk1.box 11 rfl,rfl⟩,trivial⟩ ⟨_,_,rfl,SH.unframe 1 (L0:=[Ch.box bb1 (qh s p1 k1) 108]) h0 [Ch.own S16 ((⟨([r1,r2,r3,r4,r5,r6,r7,r8]:List qv)⟩:qq):qq) [.slice p31 8 8],Ch.box bb1 [.slice p1 s.code.length k1,.int .i64 i15,.int .i64 i16] 108] h rfl⟩
def qbc:Nat→Int→Option ByteArray
 | 0,_=>none
 | n+1,a_n =>
  bif decide (a_n<0) then
   ((qbc n) (W64 (0-a_n))).bind fun r1 =>
   (catB (⟨#[45]⟩:ByteArray) r1).bind fun z1 =>
   some z1
  else
   bif decide (a_n<10) then some (strOf ([(⟨IntKind.wrap .u8 (W64 (48+a_n))⟩:IntK .u8)]:List (IntK .u8))) else
   ((qbc n) (W64 (a_n.tdiv 10))).bind fun r2 =>
   (catB r2 (strOf ([(⟨IntKind.wrap .u8 (W64 (48+(a_n.tmod 10)))⟩:IntK .u8)]:List (IntK .u8)))).bind fun z2 =>
   some z2
theorem qhM {n:Nat}:∀ {w:World} {a_n:Int}  {r:ByteArray} (_:qbc n a_n=some r),RetV Tryz.prog 143 [.int .i64 a_n] w r:=by
 induction n with
 | zero=>intro w a_n r hF;rw [qbc] at hF;cases hF
 | succ n ih =>
  intro w a_n r hF
  obtain ⟨rc,hrc⟩:∃ rc,rc=qbc n:=⟨_,rfl⟩
  rw [←hrc] at ih
  refine zV 26 Tryz.func143 rfl fun h=>?_
  unfold qbc at hF
  rw [←hrc] at hF
  refine X0 10 rfl (qm rfl hF ?_ ?_)<;>intro hF
  ·refine X0 4 rfl (zcS h hF ih rfl fun r1 w1 h hF=>?_)
   obtain ⟨z1,hx1,hF⟩:=qe hF
   obtain ⟨g1,hx1⟩:=qho hx1
   refine r_v (qmj g1 rfl rfl) rfl ?_
   rw [hx1]
   refine X0 2 rfl ?_
   obtain rfl:=qd hF
   exact qbB qb (ρ:=ByteArray) [_] h ⟨rfl,trivial⟩ (qmv _ _)
  ·refine X0 7 rfl (qm rfl hF ?_ ?_)<;>intro hF
   ·refine X0 5 rfl (qn qb [.tmp 13] _ ([(⟨IntKind.wrap .u8 (W64 (48+a_n))⟩:IntK .u8)]:List (IntK .u8)) h rfl rfl rfl rfl rfl rfl rfl rfl rfl ⟨rfl,trivial⟩ rfl fun w2 p1 S1 h=>r_v (qk8 qb (h.sl 0 rfl).1 (h.sl 0 rfl).2 rfl ⟨rfl,rfl⟩ ⟨rfl,rfl⟩ rfl rfl) rfl (X0 2 rfl ?_))
    obtain rfl:=qd hF
    exact qbB qb (ρ:=ByteArray) [_] h ⟨rfl,trivial⟩ (qmv _ _)
   ·refine zKS ?_
    obtain ⟨r2,hr2,hF⟩:=qe hF
    obtain ⟨z2,hx2,hF⟩:=qe hF
    refine qaV (fun e w'=>e=[(2,.string z2)]∧SH w w' []) ?_ ?_
    ·refine rA [] [] h rfl fun w5 h=>M0 123 [0,1,3,4,5,6] (h.pick [] rfl) rfl (At 2 7 127 251 rfl ?_ ?_)
     ·refine qk9 r2 h (cB 143 rfl) (ih hr2) rfl rfl rfl rfl fun w11 h=>Ag (h.pick [] rfl) (Ao 7 255 rfl (qn qb [.tmp 22] _ ([(⟨IntKind.wrap .u8 (W64 (48+(a_n.tmod 10)))⟩:IntK .u8)]:List (IntK .u8)) h rfl rfl rfl rfl rfl rfl rfl rfl rfl ⟨rfl,trivial⟩ rfl fun w12 p5 S5 h=>Ag (h.pick [] rfl) (Ao 8 511 rfl (r_v (qk8 qb (h.sl 0 rfl).1 (h.sl 0 rfl).2 rfl ⟨rfl,rfl⟩ ⟨rfl,rfl⟩ rfl rfl) rfl (Ag (h.pick [] rfl) ?_)))))
      obtain ⟨g6,hx2⟩:=qho hx2
      refine Aw 9 1023 (fun w' hw=>qmj g6 rfl rfl) (h.pick [] rfl) rfl ?_
      rw [hx2]
      refine M0 2047 [10] (h.pick [] rfl) rfl (Ad ?_)
      replace h:=h.pick [] rfl
      exact rG ⟨rfl,h⟩ rfl
     ·refine qn qb [.tmp 22] _ ([(⟨IntKind.wrap .u8 (W64 (48+(a_n.tmod 10)))⟩:IntK .u8)]:List (IntK .u8)) h rfl rfl rfl rfl rfl rfl rfl rfl rfl ⟨rfl,trivial⟩ rfl fun w13 p6 S6 h=>Ag (h.pick [] rfl) (At 2 8 255 507 rfl ?_ ?_)
      ·refine qk9 r2 h (cB 143 rfl) (ih hr2) rfl rfl rfl rfl fun w14 h=>Ag (h.pick [] rfl) (Ao 8 511 rfl (r_v (qk8 qb (h.sl 0 rfl).1 (h.sl 0 rfl).2 rfl ⟨rfl,rfl⟩ ⟨rfl,rfl⟩ rfl rfl) rfl (Ag (h.pick [] rfl) ?_)))
       obtain ⟨g7,hx2⟩:=qho hx2
       refine Aw 9 1023 (fun w' hw=>qmj g7 rfl rfl) (h.pick [] rfl) rfl ?_
       rw [hx2]
       refine M0 2047 [10] (h.pick [] rfl) rfl (Ad ?_)
       replace h:=h.pick [] rfl
       exact rG ⟨rfl,h⟩ rfl
      ·refine r_v (qk8 qb (h.sl 0 rfl).1 (h.sl 0 rfl).2 rfl ⟨rfl,rfl⟩ ⟨rfl,rfl⟩ rfl rfl) rfl (Ag (h.pick [] rfl) (Ao 2 511 rfl (qk9 r2 h (cB 143 rfl) (ih hr2) rfl rfl rfl rfl fun w15 h=>Ag (h.pick [] rfl) ?_)))
       obtain ⟨g8,hx2⟩:=qho hx2
       refine Aw 9 1023 (fun w' hw=>qmj g8 rfl rfl) (h.pick [] rfl) rfl ?_
       rw [hx2]
       refine M0 2047 [10] (h.pick [] rfl) rfl (Ad ?_)
       replace h:=h.pick [] rfl
       exact rG ⟨rfl,h⟩ rfl
    ·rintro e1 w16 ⟨rfl,h⟩
     obtain rfl:=qd hF
     exact qbB qb (ρ:=ByteArray) [_] h ⟨rfl,trivial⟩ (qmv _ _)
def qcW (a_0:Tl01Source) (x2:(List ByteArray)) (y1:Int):Nat→(List Int)→Int→Int→Int→Option ((List Int) × Int × Int × Int)
 | 0,_,_,_,_=>none
 | n+1,x4,i10,i11,i12 =>
  (idx ([2,2,3,3,4,3,3,3]:List Int) y1).bind fun y2 =>
  bif decide (i12<(W64 (y2-1))) then
   (ql n (⟨a_0.code,i10,i11⟩:Tl01Source) (W64 ((x2.length:Int)-1))).bind fun o=>match o with
    | (i13,i14,i15) =>
     (ql n (⟨a_0.code,i14,i15⟩:Tl01Source) 3).bind fun o=>match o with
      | (i16,i17,i18) =>
       (
        bif (i16==0) then some (W64 ((x2.length:Int)-1)) else
        some (W64 (1+i13))).bind fun i19 =>
       (
        bif decide (y1 ≥ 5) then some (i12==1) else
        some false).bind fun b3 =>
       bif b3 then
        (appS ([]:List Int) x4).bind fun x5 =>
        (appS x5 ([0]:List Int)).bind fun x6 =>
        qcW a_0 x2 y1 n x6 i17 i18 (W64 (i12+1))
       else
        (appS ([]:List Int) x4).bind fun x7 =>
        (appS x7 ([i19]:List Int)).bind fun x8 =>
        qcW a_0 x2 y1 n x8 i17 i18 (W64 (i12+1))
  else
   some (x4,i10,i11,i12)
def qcX (a_0:Tl01Source) (a_2:Bool) (x2:(List ByteArray)) (x3:(List qw)):Nat→(List qw)→Int→Int→Int→Option ((List qw) × Int × Int × Int)
 | 0,_,_,_,_=>none
 | n+1,x13,i20,i21,i22 =>
  bif decide (i22<(x3.length:Int)) then
   (
    (ql n (⟨a_0.code,i20,i21⟩:Tl01Source) 4).bind fun o=>match o with
     | (i28,i29,i30) =>
      bif (i28==0) then
       (idx x13 i22).bind fun y5 =>
       bif (y5.Az==5) then some (i29,i30,true) else
       (idx x13 i22).bind fun y6 =>
       bif (y6.Az==6) then some (i29,i30,true) else
       some (i29,i30,a_2)
      else
       some (i29,i30,false)).bind fun o=>match o with
    | (i23,i24,b4) =>
     bif b4 then
      (idx x13 i22).bind fun y3 =>
      (ql n (⟨a_0.code,i23,i24⟩:Tl01Source) (W64 ((x2.length:Int)-1))).bind fun o=>match o with
       | (i25,i26,i27) =>
        (idx y3.Aj 0).bind fun _ =>
        qcX a_0 a_2 x2 x3 n (setS x13 i22 (⟨y3.Au,y3.Az,(setS y3.Aj 0 (W64 (1+i25)))⟩:qw)) i26 i27 (W64 (i22+1))
     else
      qcX a_0 a_2 x2 x3 n x13 i23 i24 (W64 (i22+1))
  else
   some (x13,i20,i21,i22)
def qdQ (a_0:Tl01Source):Nat→(List ByteArray)→(List qw)→Int→Int→Int→Option ((List ByteArray) × (List qw) × Int × Int × Int)
 | 0,_,_,_,_,_=>none
 | n+1,x2,x3,i4,i5,i6 =>
  bif decide (i6 > 0) then
   (ql n (⟨a_0.code,i4,i5⟩:Tl01Source) 12).bind fun o=>match o with
    | (i7,i8,i9) =>
     (idx ([0,1,2,2,3,4,5,5,5,6,7,1]:List Int) i7).bind fun y1 =>
     (qbc n (x3.length:Int)).bind fun r1 =>
     (catB (⟨#[117]⟩:ByteArray) r1).bind fun z1 =>
     (qcW a_0 x2 y1 n ([]:List Int) i8 i9 0).bind fun o=>match o with
     | (x4,i10,i11,_) =>
      (appS ([]:List Int) x4).bind fun x9 =>
      (appS x9 ([(x2.length:Int)]:List Int)).bind fun x10 =>
      (qbc n (x2.length:Int)).bind fun r2 =>
      (catB (⟨#[110]⟩:ByteArray) r2).bind fun z2 =>
      (appS x2 ([z2]:List ByteArray)).bind fun x11 =>
      (appS x3 ([(⟨z1,y1,x10⟩:qw)]:List qw)).bind fun x12 =>
      qdQ a_0 n x11 x12 i10 i11 (W64 (i6-1))
  else
   some (x2,x3,i4,i5,i6)
def qhf (n:Nat) (a_0:Tl01Source) (a_1:Int) (a_2:Bool):Option (qg × Int × Int) :=
 (appS ([]:List ByteArray) ([(⟨#[110,99,107]⟩:ByteArray),(⟨#[110,97]⟩:ByteArray),(⟨#[110,98]⟩:ByteArray)]:List ByteArray)).bind fun x1 =>
 (ql n (⟨a_0.code,a_0.at_,a_0.seed⟩:Tl01Source) (W64 (a_1-1))).bind fun o=>match o with
  | (i1,i2,i3) =>
   (qdQ a_0 n x1 ([]:List qw) i2 i3 (W64 (2+i1))).bind fun o=>match o with
   | (x2,x3,i4,i5,_) =>
    (qcX a_0 a_2 x2 x3 n x3 i4 i5 0).bind fun o=>match o with
    | (x13,i20,i21,_) =>
     (appS ([]:List qC) ([(⟨(⟨#[99,107]⟩:ByteArray),1,0⟩:qC),(⟨(⟨#[97]⟩:ByteArray),1,1⟩:qC),(⟨(⟨#[98]⟩:ByteArray),1,2⟩:qC)]:List qC)).bind fun x14 =>
     (appS x14 ([(⟨(⟨#[121]⟩:ByteArray),2,W64 ((x2.length:Int)-1)⟩:qC)]:List qC)).bind fun x15 =>
     (ql n (⟨a_0.code,i20,i21⟩:Tl01Source) 2).bind fun o=>match o with
      | (i31,i32,i33) =>
       bif (i31==0) then
        (ql n (⟨a_0.code,i32,i33⟩:Tl01Source) (W64 ((x2.length:Int)-1))).bind fun o=>match o with
         | (i34,i35,i36) =>
          (appS x15 ([(⟨(⟨#[122]⟩:ByteArray),2,W64 (1+i34)⟩:qC)]:List qC)).bind fun x16 =>
          some ((⟨x13,x2,x16⟩:qg),i35,i36)
       else
        some ((⟨x13,x2,x15⟩:qg),i32,i33)
theorem qkF {n:Nat} {w0 w:World} {F:List Ch} {a_0:Tl01Source} {bb1:Nat} {p1:Option Addr} {k1:Nat} {a_1:Int} {a_2:Bool} (h0:SH w0 w (Ch.box bb1 (qh a_0 p1 k1) 108::F)) (ha1:GoT.R w (Fr w0 F) a_0 [.slice p1 a_0.code.length k1,.int .i64 a_0.at_,.int .i64 a_0.seed]) {r:(qg × Int × Int)} (hF:qhf n a_0 a_1 a_2=some r):RetW Tryz.prog 116 [.pointer (some ⟨bb1,0,none⟩),.int .i64 a_1,.bool a_2] w (fun us w'=>∃ (S1:Nat→Prop) (cs1:List Value),us=[GoT.v qg cs1]∧SH w0 w' (Ch.own S1 (r.1:qg) cs1::Ch.box bb1 [.slice p1 a_0.code.length k1,.int .i64 r.2.1,.int .i64 r.2.2] 108::F)):=by
 have h:=SH.frame [Ch.box bb1 (qh a_0 p1 k1) 108] h0
 replace h:=h.grpAdd 1 rfl ha1
 replace h:SH _ _ [Ch.box bb1 (qh a_0 p1 k1) 108,Ch.grp (old w0) (FS F) [fct (a_0:Tl01Source) [.slice p1 a_0.code.length k1,.int .i64 a_0.at_,.int .i64 a_0.seed],same w0 w F]]:=h
 refine qbi Tryz.func116 rfl (m:=174) rfl rfl (zSR (qx qb h rfl rfl rfl fun w1 bb2 h=>zNSR (qn qb [.const (.string (⟨#[110,99,107]⟩:ByteArray)),.const (.string (⟨#[110,97]⟩:ByteArray)),.const (.string (⟨#[110,98]⟩:ByteArray))] _ ([(⟨#[110,99,107]⟩:ByteArray),(⟨#[110,97]⟩:ByteArray),(⟨#[110,98]⟩:ByteArray)]:List ByteArray) h rfl rfl rfl rfl rfl rfl rfl rfl rfl ⟨rfl,rfl,rfl,trivial⟩ rfl fun w2 p2 S2 h=>r_v (qai qb [1] [.tmp 18] rfl rfl rfl rfl rfl rfl rfl rfl) rfl (qx qb h rfl rfl rfl fun w3 bb3 h=>zs 0 h rfl fun w4 h=>zNSR (r_v (qai qb [0,1] [.const (.string (⟨#[99,107]⟩:ByteArray)),.const (.int .i64 (1))] rfl rfl rfl rfl rfl rfl rfl rfl) rfl (r_v (qai qb [0,1,2] [.const (.string (⟨#[97]⟩:ByteArray)),.const (.int .i64 (1)),.const (.int .i64 (1))] rfl rfl rfl rfl rfl rfl rfl rfl) rfl (r_v (qai qb [0,1,2] [.const (.string (⟨#[98]⟩:ByteArray)),.const (.int .i64 (1)),.const (.int .i64 (2))] rfl rfl rfl rfl rfl rfl rfl rfl) rfl (qn qb [.tmp 20,.tmp 21,.tmp 22] _ ([(⟨(⟨#[99,107]⟩:ByteArray),1,0⟩:qC),(⟨(⟨#[97]⟩:ByteArray),1,1⟩:qC),(⟨(⟨#[98]⟩:ByteArray),1,2⟩:qC)]:List qC) h rfl rfl rfl rfl rfl rfl rfl rfl rfl ⟨(qgv (⟨(⟨#[99,107]⟩:ByteArray),1,0⟩:qC)),(qgv (⟨(⟨#[97]⟩:ByteArray),1,1⟩:qC)),(qgv (⟨(⟨#[98]⟩:ByteArray),1,2⟩:qC)),trivial⟩ rfl fun w5 p3 S3 h=>zp1 rfl (zs 1 h rfl fun w6 h=>zNSR (qn qb [.const (.int .i64 (2)),.const (.int .i64 (2)),.const (.int .i64 (3)),.const (.int .i64 (3)),.const (.int .i64 (4)),.const (.int .i64 (3)),.const (.int .i64 (3)),.const (.int .i64 (3))] _ ([2,2,3,3,4,3,3,3]:List Int) h rfl rfl rfl rfl rfl rfl rfl rfl rfl ⟨rfl,rfl,rfl,rfl,rfl,rfl,rfl,rfl,trivial⟩ rfl fun w7 p4 S4 h=>X0 4 rfl (qbz qb [] _ ([]:List qw) [0,1,2,3,4,5,6] h rfl rfl rfl rfl rfl rfl rfl rfl rfl qc6 rfl rfl fun w8 p5 S5 h=>X0 4 rfl (qn qb [] _ ([]:List ByteArray) h rfl rfl rfl rfl rfl rfl rfl rfl rfl trivial rfl fun w9 p6 S6 h=>X1 2 4 h rfl ?_))))))))))))
 obtain ⟨x1,hx1,hF⟩:=qe hF
 obtain ⟨g1,hx1⟩:=qk hx1
 refine qau qb 0 h rfl (h.sl 5 rfl).1 (h.sl 5 rfl).2 rfl rfl rfl rfl rfl rfl rfl rfl rfl g1 hx1 rfl fun w10 p7 k2 S7 h=>X0 8 rfl ?_
 replace h:=h.pick [7,0,1,2,3,4,5,6,8] rfl
 obtain ⟨o1,hr1,hF⟩:=qe hF
 obtain ⟨i1,i2,i3⟩:=o1
 refine qz (cB 32 rfl) (qi (a_0:=(⟨a_0.code,a_0.at_,a_0.seed⟩:Tl01Source)) (a_1:=(W64 (a_1-1))) h ⟨[.slice p1 a_0.code.length k1],[.int .i64 a_0.at_,.int .i64 a_0.seed],rfl,⟨_,_,rfl,(qf (h.frG 8 0 1 rfl rfl rfl)).1⟩,⟨[.int .i64 a_0.at_],[.int .i64 a_0.seed],rfl,rfl,rfl⟩⟩ hr1) rfl rfl rfl rfl ?_
 rintro w11 us1 ⟨rfl,h⟩
 replace h:SH _ _ [Ch.box bb1 [.slice p1 a_0.code.length k1,.int .i64 i2,.int .i64 i3] 108,Ch.own S7 (x1:List ByteArray) [.slice p7 x1.length k2],Ch.own S5 (([]:List qw):List qw) [.slice p5 0 0],Ch.own S4 (([2,2,3,3,4,3,3,3]:List Int):List Int) [.slice p4 8 8],Ch.own S3 (([(⟨(⟨#[99,107]⟩:ByteArray),1,0⟩:qC),(⟨(⟨#[97]⟩:ByteArray),1,1⟩:qC),(⟨(⟨#[98]⟩:ByteArray),1,2⟩:qC)]:List qC):List qC) [.slice p3 3 3],Ch.box bb3 [.slice none 0 0,.slice p2 3 3,.slice p3 3 3] 31,Ch.own S2 (([(⟨#[110,99,107]⟩:ByteArray),(⟨#[110,97]⟩:ByteArray),(⟨#[110,98]⟩:ByteArray)]:List ByteArray):List ByteArray) [.slice p2 3 3],Ch.box bb2 [.slice none 0 0,.slice none 0 0,.slice none 0 0] 31,Ch.grp (old w0) (FS F) [fct (a_0:Tl01Source) [.slice p1 a_0.code.length k1,.int .i64 a_0.at_,.int .i64 a_0.seed],same w0 w F]]:=h
 refine X0 3 rfl ?_
 obtain ⟨o2,hF,hK1⟩:=qe hF
 refine qu (rL (fun m e w'=>∃ (S8:Nat→Prop) (p8:Option Addr) (ln1:Nat) (k3:Nat) (x2:(List ByteArray)) (S9:Nat→Prop) (p9:Option Addr) (ln2:Nat) (k4:Nat) (x3:(List qw)) (i4:Int) (i5:Int) (i6:Int),qdQ a_0 m x2 x3 i4 i5 i6=some o2∧e=[(0,.pointer (some ⟨bb1,0,none⟩)),(2,.bool a_2),(6,.pointer (some ⟨bb2,0,none⟩)),(7,.pointer (some ⟨bb3,0,none⟩)),(8,.slice p4 8 8),(9,.slice p9 ln2 k4),(10,.slice p8 ln1 k3),(11,.int .i64 i6)]∧SH w0 w' [Ch.box bb1 [.slice p1 a_0.code.length k1,.int .i64 i4,.int .i64 i5] 108,Ch.own S8 (x2:List ByteArray) [.slice p8 ln1 k3],Ch.own S9 (x3:List qw) [.slice p9 ln2 k4],Ch.own S4 (([2,2,3,3,4,3,3,3]:List Int):List Int) [.slice p4 8 8],Ch.own S3 (([(⟨(⟨#[99,107]⟩:ByteArray),1,0⟩:qC),(⟨(⟨#[97]⟩:ByteArray),1,1⟩:qC),(⟨(⟨#[98]⟩:ByteArray),1,2⟩:qC)]:List qC):List qC) [.slice p3 3 3],Ch.box bb3 [.slice none 0 0,.slice p2 3 3,.slice p3 3 3] 31,Ch.own S2 (([(⟨#[110,99,107]⟩:ByteArray),(⟨#[110,97]⟩:ByteArray),(⟨#[110,98]⟩:ByteArray)]:List ByteArray):List ByteArray) [.slice p2 3 3],Ch.box bb2 [.slice none 0 0,.slice none 0 0,.slice none 0 0] 31,Ch.grp (old w0) (FS F) [fct (a_0:Tl01Source) [.slice p1 a_0.code.length k1,.int .i64 a_0.at_,.int .i64 a_0.seed],same w0 w F]]) n ⟨_,_,_,_,_,_,_,_,_,_,_,_,_,hF,rfl,h⟩ rfl ?_)
 rintro m1 e1 w12 ⟨S8,p8,ln1,k3,x2,S9,p9,ln2,k4,x3,i4,i5,i6,hF,rfl,h⟩
 obtain rfl:=(h.sl 1 rfl).2
 obtain rfl:=(h.sl 2 rfl).2
 rcases m1 with _|m1
 ·cases hF
 refine X0 6 rfl (qm rfl hF ?_ ?_)<;>intro hF
 ·refine zKSBSR (qn qb [.const (.int .i64 (0)),.const (.int .i64 (1)),.const (.int .i64 (2)),.const (.int .i64 (2)),.const (.int .i64 (3)),.const (.int .i64 (4)),.const (.int .i64 (5)),.const (.int .i64 (5)),.const (.int .i64 (5)),.const (.int .i64 (6)),.const (.int .i64 (7)),.const (.int .i64 (1))] _ ([0,1,2,2,3,4,5,5,5,6,7,1]:List Int) h rfl rfl rfl rfl rfl rfl rfl rfl rfl ⟨rfl,rfl,rfl,rfl,rfl,rfl,rfl,rfl,rfl,rfl,rfl,rfl,trivial⟩ rfl fun w13 p10 S10 h=>zp1 rfl ?_)
  replace h:=h.pick [1,0,2,3,4,5,6,7,8,9] rfl
  obtain ⟨o3,hr2,hF⟩:=qe hF
  obtain ⟨i7,i8,i9⟩:=o3
  refine qz (cB 32 rfl) (qi (a_0:=(⟨a_0.code,i4,i5⟩:Tl01Source)) (a_1:=12) h ⟨[.slice p1 a_0.code.length k1],[.int .i64 i4,.int .i64 i5],rfl,⟨_,_,rfl,(qf (h.frG 9 0 1 rfl rfl rfl)).1⟩,⟨[.int .i64 i4],[.int .i64 i5],rfl,rfl,rfl⟩⟩ hr2) rfl rfl rfl rfl ?_
  rintro w14 us2 ⟨rfl,h⟩
  replace h:SH _ _ [Ch.box bb1 [.slice p1 a_0.code.length k1,.int .i64 i8,.int .i64 i9] 108,Ch.own S10 (([0,1,2,2,3,4,5,5,5,6,7,1]:List Int):List Int) [.slice p10 12 12],Ch.own S8 (x2:List ByteArray) [.slice p8 x2.length k3],Ch.own S9 (x3:List qw) [.slice p9 x3.length k4],Ch.own S4 (([2,2,3,3,4,3,3,3]:List Int):List Int) [.slice p4 8 8],Ch.own S3 (([(⟨(⟨#[99,107]⟩:ByteArray),1,0⟩:qC),(⟨(⟨#[97]⟩:ByteArray),1,1⟩:qC),(⟨(⟨#[98]⟩:ByteArray),1,2⟩:qC)]:List qC):List qC) [.slice p3 3 3],Ch.box bb3 [.slice none 0 0,.slice p2 3 3,.slice p3 3 3] 31,Ch.own S2 (([(⟨#[110,99,107]⟩:ByteArray),(⟨#[110,97]⟩:ByteArray),(⟨#[110,98]⟩:ByteArray)]:List ByteArray):List ByteArray) [.slice p2 3 3],Ch.box bb2 [.slice none 0 0,.slice none 0 0,.slice none 0 0] 31,Ch.grp (old w0) (FS F) [fct (a_0:Tl01Source) [.slice p1 a_0.code.length k1,.int .i64 a_0.at_,.int .i64 a_0.seed],same w0 w F]]:=h
  obtain ⟨y1,hy1,hF,he1,b1,_,q1,cs2,hp1,hq1,rfl,hc2⟩:=(h.sl 1 rfl).1.ix hF
  refine zx hp1 hq1 ⟨he1.1,qab he1.2.1 (h.sl 1 rfl).2⟩ rfl (zc 0 hc2 rfl (X0 6 rfl (zcS h hF qhM rfl fun r1 w15 h hF=>?_)))
  obtain ⟨z1,hx2,hF⟩:=qe hF
  obtain ⟨g2,hx2⟩:=qho hx2
  refine r_v (qmj g2 rfl rfl) rfl ?_
  rw [hx2]
  refine zp1 rfl (r_v (qai qb [0,1] [.tmp 48,.tmp 49] rfl rfl rfl rfl rfl rfl rfl rfl) rfl (qx qb h rfl rfl rfl fun w16 bb4 h=>zs 0 h rfl fun w17 h=>X0 6 rfl ?_))
  replace h:=h.nil (α:=Int)
  obtain ⟨o4,hF,hK2⟩:=qe hF
  refine qu ?_
  replace h:=h.pick [0,1,2,4,5,6,7,8,9,10,11] rfl
  refine rL (fun m e w'=>∃ (S11:Nat→Prop) (p11:Option Addr) (ln3:Nat) (k5:Nat) (x4:(List Int)) (i10:Int) (i11:Int) (i12:Int),qcW a_0 x2 y1 m x4 i10 i11 i12=some o4∧e=[(0,.pointer (some ⟨bb1,0,none⟩)),(2,.bool a_2),(6,.pointer (some ⟨bb2,0,none⟩)),(7,.pointer (some ⟨bb3,0,none⟩)),(8,.slice p4 8 8),(9,.slice p9 x3.length k4),(10,.slice p8 x2.length k3),(11,.int .i64 i6),(12,.int .i64 y1),(13,.pointer (some ⟨bb4,0,none⟩)),(14,.int .i64 i12)]∧SH w0 w' [Ch.own S11 (x4:List Int) [.slice p11 ln3 k5],Ch.box bb4 [.string z1,.int .i64 y1,.slice p11 ln3 k5] 111,Ch.box bb1 [.slice p1 a_0.code.length k1,.int .i64 i10,.int .i64 i11] 108,Ch.own S8 (x2:List ByteArray) [.slice p8 x2.length k3],Ch.own S9 (x3:List qw) [.slice p9 x3.length k4],Ch.own S4 (([2,2,3,3,4,3,3,3]:List Int):List Int) [.slice p4 8 8],Ch.own S3 (([(⟨(⟨#[99,107]⟩:ByteArray),1,0⟩:qC),(⟨(⟨#[97]⟩:ByteArray),1,1⟩:qC),(⟨(⟨#[98]⟩:ByteArray),1,2⟩:qC)]:List qC):List qC) [.slice p3 3 3],Ch.box bb3 [.slice none 0 0,.slice p2 3 3,.slice p3 3 3] 31,Ch.own S2 (([(⟨#[110,99,107]⟩:ByteArray),(⟨#[110,97]⟩:ByteArray),(⟨#[110,98]⟩:ByteArray)]:List ByteArray):List ByteArray) [.slice p2 3 3],Ch.box bb2 [.slice none 0 0,.slice none 0 0,.slice none 0 0] 31,Ch.grp (old w0) (FS F) [fct (a_0:Tl01Source) [.slice p1 a_0.code.length k1,.int .i64 a_0.at_,.int .i64 a_0.seed],same w0 w F]]) m1 ⟨_,_,_,_,_,_,_,_,hF,rfl,h⟩ rfl ?_
  rintro m2 e2 w18 ⟨S11,p11,ln3,k5,x4,i10,i11,i12,hF,rfl,h⟩
  obtain rfl:=(h.sl 0 rfl).2
  rcases m2 with _|m2
  ·cases hF
  refine X0 6 rfl ?_
  obtain ⟨y2,hy2,hF,he2,b2,_,q2,cs3,hp2,hq2,rfl,hc3⟩:=(h.sl 5 rfl).1.ix hF
  refine zx hp2 hq2 ⟨he2.1,qab he2.2.1 (h.sl 5 rfl).2⟩ rfl (zc 0 hc3 rfl (X0 3 rfl (qm rfl hF ?_ ?_)))<;>intro hF
  ·refine X0 9 rfl ?_
   replace h:=h.pick [2,0,1,3,4,5,6,7,8,9,10] rfl
   obtain ⟨o5,hr6,hF⟩:=qe hF
   obtain ⟨i13,i14,i15⟩:=o5
   refine qz (cB 32 rfl) (qi (a_0:=(⟨a_0.code,i10,i11⟩:Tl01Source)) (a_1:=(W64 ((x2.length:Int)-1))) h ⟨[.slice p1 a_0.code.length k1],[.int .i64 i10,.int .i64 i11],rfl,⟨_,_,rfl,(qf (h.frG 10 0 1 rfl rfl rfl)).1⟩,⟨[.int .i64 i10],[.int .i64 i11],rfl,rfl,rfl⟩⟩ hr6) rfl rfl rfl rfl ?_
   rintro w19 us3 ⟨rfl,h⟩
   replace h:SH _ _ [Ch.box bb1 [.slice p1 a_0.code.length k1,.int .i64 i14,.int .i64 i15] 108,Ch.own S11 (x4:List Int) [.slice p11 x4.length k5],Ch.box bb4 [.string z1,.int .i64 y1,.slice p11 x4.length k5] 111,Ch.own S8 (x2:List ByteArray) [.slice p8 x2.length k3],Ch.own S9 (x3:List qw) [.slice p9 x3.length k4],Ch.own S4 (([2,2,3,3,4,3,3,3]:List Int):List Int) [.slice p4 8 8],Ch.own S3 (([(⟨(⟨#[99,107]⟩:ByteArray),1,0⟩:qC),(⟨(⟨#[97]⟩:ByteArray),1,1⟩:qC),(⟨(⟨#[98]⟩:ByteArray),1,2⟩:qC)]:List qC):List qC) [.slice p3 3 3],Ch.box bb3 [.slice none 0 0,.slice p2 3 3,.slice p3 3 3] 31,Ch.own S2 (([(⟨#[110,99,107]⟩:ByteArray),(⟨#[110,97]⟩:ByteArray),(⟨#[110,98]⟩:ByteArray)]:List ByteArray):List ByteArray) [.slice p2 3 3],Ch.box bb2 [.slice none 0 0,.slice none 0 0,.slice none 0 0] 31,Ch.grp (old w0) (FS F) [fct (a_0:Tl01Source) [.slice p1 a_0.code.length k1,.int .i64 a_0.at_,.int .i64 a_0.seed],same w0 w F]]:=h
   refine X0 7 rfl ?_
   obtain ⟨o6,hr7,hF⟩:=qe hF
   obtain ⟨i16,i17,i18⟩:=o6
   refine qz (cB 32 rfl) (qi (a_0:=(⟨a_0.code,i14,i15⟩:Tl01Source)) (a_1:=3) h ⟨[.slice p1 a_0.code.length k1],[.int .i64 i14,.int .i64 i15],rfl,⟨_,_,rfl,(qf (h.frG 10 0 1 rfl rfl rfl)).1⟩,⟨[.int .i64 i14],[.int .i64 i15],rfl,rfl,rfl⟩⟩ hr7) rfl rfl rfl rfl ?_
   rintro w20 us4 ⟨rfl,h⟩
   replace h:SH _ _ [Ch.box bb1 [.slice p1 a_0.code.length k1,.int .i64 i17,.int .i64 i18] 108,Ch.own S11 (x4:List Int) [.slice p11 x4.length k5],Ch.box bb4 [.string z1,.int .i64 y1,.slice p11 x4.length k5] 111,Ch.own S8 (x2:List ByteArray) [.slice p8 x2.length k3],Ch.own S9 (x3:List qw) [.slice p9 x3.length k4],Ch.own S4 (([2,2,3,3,4,3,3,3]:List Int):List Int) [.slice p4 8 8],Ch.own S3 (([(⟨(⟨#[99,107]⟩:ByteArray),1,0⟩:qC),(⟨(⟨#[97]⟩:ByteArray),1,1⟩:qC),(⟨(⟨#[98]⟩:ByteArray),1,2⟩:qC)]:List qC):List qC) [.slice p3 3 3],Ch.box bb3 [.slice none 0 0,.slice p2 3 3,.slice p3 3 3] 31,Ch.own S2 (([(⟨#[110,99,107]⟩:ByteArray),(⟨#[110,97]⟩:ByteArray),(⟨#[110,98]⟩:ByteArray)]:List ByteArray):List ByteArray) [.slice p2 3 3],Ch.box bb2 [.slice none 0 0,.slice none 0 0,.slice none 0 0] 31,Ch.grp (old w0) (FS F) [fct (a_0:Tl01Source) [.slice p1 a_0.code.length k1,.int .i64 a_0.at_,.int .i64 a_0.seed],same w0 w F]]:=h
   refine X0 2 rfl ?_
   obtain ⟨KF2,hKF2,o8,hF,hK4⟩:=bindE hF
   refine qaV (fun e w'=>∃ (i19:Int),KF2 i19=some o4∧e=[(0,.pointer (some ⟨bb1,0,none⟩)),(2,.bool a_2),(6,.pointer (some ⟨bb2,0,none⟩)),(7,.pointer (some ⟨bb3,0,none⟩)),(8,.slice p4 8 8),(9,.slice p9 x3.length k4),(10,.slice p8 x2.length k3),(11,.int .i64 i6),(12,.int .i64 y1),(13,.pointer (some ⟨bb4,0,none⟩)),(14,.int .i64 i12),(15,.int .i64 i19)]∧SH w0 w' [Ch.box bb1 [.slice p1 a_0.code.length k1,.int .i64 i17,.int .i64 i18] 108,Ch.own S11 (x4:List Int) [.slice p11 x4.length k5],Ch.box bb4 [.string z1,.int .i64 y1,.slice p11 x4.length k5] 111,Ch.own S8 (x2:List ByteArray) [.slice p8 x2.length k3],Ch.own S9 (x3:List qw) [.slice p9 x3.length k4],Ch.own S4 (([2,2,3,3,4,3,3,3]:List Int):List Int) [.slice p4 8 8],Ch.own S3 (([(⟨(⟨#[99,107]⟩:ByteArray),1,0⟩:qC),(⟨(⟨#[97]⟩:ByteArray),1,1⟩:qC),(⟨(⟨#[98]⟩:ByteArray),1,2⟩:qC)]:List qC):List qC) [.slice p3 3 3],Ch.box bb3 [.slice none 0 0,.slice p2 3 3,.slice p3 3 3] 31,Ch.own S2 (([(⟨#[110,99,107]⟩:ByteArray),(⟨#[110,97]⟩:ByteArray),(⟨#[110,98]⟩:ByteArray)]:List ByteArray):List ByteArray) [.slice p2 3 3],Ch.box bb2 [.slice none 0 0,.slice none 0 0,.slice none 0 0] 31,Ch.grp (old w0) (FS F) [fct (a_0:Tl01Source) [.slice p1 a_0.code.length k1,.int .i64 a_0.at_,.int .i64 a_0.seed],same w0 w F]]) ?_ ?_
   ·refine qm rfl hF ?_ ?_<;>intro hF
    ·refine X0 6 rfl ?_
     obtain rfl:=qd hF
     exact rG ⟨_,hK4,rfl,h⟩ rfl
    refine qdy ?_
    obtain rfl:=qd hF
    exact rG ⟨_,hK4,rfl,h⟩ rfl
   rintro e4 w32 ⟨i19,hF,rfl,h⟩
   subst hKF2
   refine zSS ?_
   obtain ⟨KF1,hKF1,o7,hF,hK3⟩:=bindE hF
   refine qaV (fun e w'=>∃ (b3:Bool),KF1 b3=some o4∧e=[(0,.pointer (some ⟨bb1,0,none⟩)),(2,.bool a_2),(6,.pointer (some ⟨bb2,0,none⟩)),(7,.pointer (some ⟨bb3,0,none⟩)),(8,.slice p4 8 8),(9,.slice p9 x3.length k4),(10,.slice p8 x2.length k3),(11,.int .i64 i6),(12,.int .i64 y1),(13,.pointer (some ⟨bb4,0,none⟩)),(14,.int .i64 i12),(15,.int .i64 i19),(77,.bool b3)]∧SH w0 w' [Ch.box bb1 [.slice p1 a_0.code.length k1,.int .i64 i17,.int .i64 i18] 108,Ch.own S11 (x4:List Int) [.slice p11 x4.length k5],Ch.box bb4 [.string z1,.int .i64 y1,.slice p11 x4.length k5] 111,Ch.own S8 (x2:List ByteArray) [.slice p8 x2.length k3],Ch.own S9 (x3:List qw) [.slice p9 x3.length k4],Ch.own S4 (([2,2,3,3,4,3,3,3]:List Int):List Int) [.slice p4 8 8],Ch.own S3 (([(⟨(⟨#[99,107]⟩:ByteArray),1,0⟩:qC),(⟨(⟨#[97]⟩:ByteArray),1,1⟩:qC),(⟨(⟨#[98]⟩:ByteArray),1,2⟩:qC)]:List qC):List qC) [.slice p3 3 3],Ch.box bb3 [.slice none 0 0,.slice p2 3 3,.slice p3 3 3] 31,Ch.own S2 (([(⟨#[110,99,107]⟩:ByteArray),(⟨#[110,97]⟩:ByteArray),(⟨#[110,98]⟩:ByteArray)]:List ByteArray):List ByteArray) [.slice p2 3 3],Ch.box bb2 [.slice none 0 0,.slice none 0 0,.slice none 0 0] 31,Ch.grp (old w0) (FS F) [fct (a_0:Tl01Source) [.slice p1 a_0.code.length k1,.int .i64 a_0.at_,.int .i64 a_0.seed],same w0 w F]]) ?_ ?_
   ·refine X0 4 rfl (qj (t:=74) hF rfl ?_ ?_)<;>intro hF
    ·refine X0 6 rfl ?_
     obtain rfl:=qd hF
     exact rG ⟨_,hK3,rfl,h⟩ rfl
    refine X0 4 rfl ?_
    obtain rfl:=qd hF
    exact rG ⟨_,hK3,rfl,h⟩ rfl
   rintro e3 w31 ⟨b3,hF,rfl,h⟩
   subst hKF1
   refine qm rfl hF ?_ ?_<;>intro hF
   ·refine X0 4 rfl (qn qb [] _ ([]:List Int) h rfl rfl rfl rfl rfl rfl rfl rfl rfl trivial rfl fun w21 p12 S12 h=>X1 2 3 h rfl ?_)
    obtain ⟨x5,hx3,hF⟩:=qe hF
    obtain ⟨g3,hx3⟩:=qk hx3
    refine qau qb 0 h rfl (h.sl 2 rfl).1 (h.sl 2 rfl).2 rfl rfl rfl rfl rfl rfl rfl rfl rfl g3 hx3 rfl fun w22 p13 k6 S13 h=>zp1 rfl (qn qb [.tmp 82] _ ([0]:List Int) h rfl rfl rfl rfl rfl rfl rfl rfl rfl ⟨rfl,trivial⟩ rfl fun w23 p14 S14 h=>?_)
    obtain ⟨x6,hx4,hF⟩:=qe hF
    obtain ⟨g4,hx4⟩:=qk hx4
    refine qau qb 1 h rfl (h.sl 0 rfl).1 (h.sl 0 rfl).2 rfl rfl rfl rfl rfl rfl rfl rfl rfl g4 hx4 rfl fun w24 p15 k7 S15 h=>zp1 rfl (zs 4 h rfl fun w25 h=>X0 7 rfl ?_)
    replace h:=h.pick [1,4,2,5,6,7,8,9,10,11,12] rfl
    exact rK ⟨_,_,_,_,_,_,_,_,hF,rfl,h⟩ rfl
   refine X0 2 rfl (qn qb [] _ ([]:List Int) h rfl rfl rfl rfl rfl rfl rfl rfl rfl trivial rfl fun w26 p16 S16 h=>X1 2 3 h rfl ?_)
   obtain ⟨x7,hx5,hF⟩:=qe hF
   obtain ⟨g5,hx5⟩:=qk hx5
   refine qau qb 0 h rfl (h.sl 2 rfl).1 (h.sl 2 rfl).2 rfl rfl rfl rfl rfl rfl rfl rfl rfl g5 hx5 rfl fun w27 p17 k8 S17 h=>zp1 rfl (qn qb [.tmp 82] _ ([i19]:List Int) h rfl rfl rfl rfl rfl rfl rfl rfl rfl ⟨rfl,trivial⟩ rfl fun w28 p18 S18 h=>?_)
   obtain ⟨x8,hx6,hF⟩:=qe hF
   obtain ⟨g6,hx6⟩:=qk hx6
   refine qau qb 1 h rfl (h.sl 0 rfl).1 (h.sl 0 rfl).2 rfl rfl rfl rfl rfl rfl rfl rfl rfl g6 hx6 rfl fun w29 p19 k9 S19 h=>zp1 rfl (zs 4 h rfl fun w30 h=>X0 7 rfl ?_)
   replace h:=h.pick [1,4,2,5,6,7,8,9,10,11,12] rfl
   exact rK ⟨_,_,_,_,_,_,_,_,hF,rfl,h⟩ rfl
  refine qA rfl ?_
  obtain rfl:=qd hF;replace hF:=hK2
  refine zSR (qn qb [] _ ([]:List Int) h rfl rfl rfl rfl rfl rfl rfl rfl rfl trivial rfl fun w33 p20 S20 h=>X1 2 2 h rfl ?_)
  obtain ⟨x9,hx7,hF⟩:=qe hF
  obtain ⟨g7,hx7⟩:=qk hx7
  refine qau qb 0 h rfl (h.sl 1 rfl).1 (h.sl 1 rfl).2 rfl rfl rfl rfl rfl rfl rfl rfl rfl g7 hx7 rfl fun w34 p21 k10 S21 h=>zp2 rfl (qn qb [.tmp 91] _ ([(x2.length:Int)]:List Int) h rfl rfl rfl rfl rfl rfl rfl rfl rfl ⟨rfl,trivial⟩ rfl fun w35 p22 S22 h=>?_)
  obtain ⟨x10,hx8,hF⟩:=qe hF
  obtain ⟨g8,hx8⟩:=qk hx8
  refine qau qb 1 h rfl (h.sl 0 rfl).1 (h.sl 0 rfl).2 rfl rfl rfl rfl rfl rfl rfl rfl rfl g8 hx8 rfl fun w36 p23 k11 S23 h=>zp1 rfl (zs 3 h rfl fun w37 h=>X0 6 rfl (zcS h hF qhM rfl fun r2 w38 h hF=>?_))
  obtain ⟨z2,hx9,hF⟩:=qe hF
  obtain ⟨g9,hx9⟩:=qho hx9
  refine r_v (qmj g9 rfl rfl) rfl ?_
  rw [hx9]
  refine qn qb [.tmp 99] _ ([z2]:List ByteArray) h rfl rfl rfl rfl rfl rfl rfl rfl rfl ⟨rfl,trivial⟩ rfl fun w39 p24 S24 h=>?_
  obtain ⟨x11,hx10,hF⟩:=qe hF
  obtain ⟨g10,hx10⟩:=qk hx10
  refine qau qb 6 h rfl (h.sl 0 rfl).1 (h.sl 0 rfl).2 rfl rfl rfl rfl rfl rfl rfl rfl rfl g10 hx10 rfl fun w40 p25 k12 S25 h=>X1 5 4 h rfl (qbz qb [.tmp 103] _ ([(⟨z1,y1,x10⟩:qw)]:List qw) [0,1,3,4,5,6,7,8,9,10,11,12,13] h rfl rfl rfl rfl rfl rfl rfl rfl rfl (qb7 (qj5 (⟨z1,y1,x10⟩:qw) h (qD (S:=fun _=>False) rfl) (qD (S:=fun _=>False) rfl) (qE 2 h rfl) (by rfl) (by rfl)) qc6 rfl) rfl rfl fun w41 p26 S26 h=>?_)
  obtain ⟨x12,hx11,hF⟩:=qe hF
  obtain ⟨g11,hx11⟩:=qk hx11
  replace h:=h.pick [0,7,1,2,3,4,5,6,8,9,10,11,12,13] rfl
  refine qjg qb h rfl rfl rfl rfl rfl rfl rfl rfl rfl g11 hx11 rfl fun w42 p27 k13 S27 h=>X0 8 rfl ?_
  replace h:=h.pick [5,6,0,7,8,9,10,11,12] rfl
  exact rK ⟨_,_,_,_,_,_,_,_,_,_,_,_,_,hF,rfl,h⟩ rfl
 refine qA rfl ?_
 obtain rfl:=qd hF;replace hF:=hK1
 refine X0 5 rfl ?_
 obtain ⟨o9,hF,hK5⟩:=qe hF
 refine qu ?_
 replace h:=h.pick [0,1,2,4,5,6,7,8] rfl
 refine rL (fun m e w'=>∃ (S28:Nat→Prop) (x13:(List qw)) (i20:Int) (i21:Int) (i22:Int),qcX a_0 a_2 x2 x3 m x13 i20 i21 i22=some o9∧e=[(0,.pointer (some ⟨bb1,0,none⟩)),(2,.bool a_2),(6,.pointer (some ⟨bb2,0,none⟩)),(7,.pointer (some ⟨bb3,0,none⟩)),(9,.slice p9 x3.length k4),(10,.slice p8 x2.length k3),(16,.int .i64 i22)]∧SH w0 w' [Ch.box bb1 [.slice p1 a_0.code.length k1,.int .i64 i20,.int .i64 i21] 108,Ch.own S8 (x2:List ByteArray) [.slice p8 x2.length k3],Ch.own S28 (x13:List qw) [.slice p9 x3.length k4],Ch.own S3 (([(⟨(⟨#[99,107]⟩:ByteArray),1,0⟩:qC),(⟨(⟨#[97]⟩:ByteArray),1,1⟩:qC),(⟨(⟨#[98]⟩:ByteArray),1,2⟩:qC)]:List qC):List qC) [.slice p3 3 3],Ch.box bb3 [.slice none 0 0,.slice p2 3 3,.slice p3 3 3] 31,Ch.own S2 (([(⟨#[110,99,107]⟩:ByteArray),(⟨#[110,97]⟩:ByteArray),(⟨#[110,98]⟩:ByteArray)]:List ByteArray):List ByteArray) [.slice p2 3 3],Ch.box bb2 [.slice none 0 0,.slice none 0 0,.slice none 0 0] 31,Ch.grp (old w0) (FS F) [fct (a_0:Tl01Source) [.slice p1 a_0.code.length k1,.int .i64 a_0.at_,.int .i64 a_0.seed],same w0 w F]]) n ⟨_,_,_,_,_,hF,rfl,h⟩ rfl ?_
 rintro m3 e5 w43 ⟨S28,x13,i20,i21,i22,hF,rfl,h⟩
 rcases m3 with _|m3
 ·cases hF
 refine X0 8 rfl (qm rfl hF ?_ ?_)<;>intro hF
 ·refine X0 4 rfl ?_
  obtain ⟨KF3,hKF3,o11,hF,hK6⟩:=bindE hF
  refine qaV (fun e w'=>∃ (i23:Int) (i24:Int) (b4:Bool),KF3 (i23,i24,b4)=some o9∧e=[(0,.pointer (some ⟨bb1,0,none⟩)),(2,.bool a_2),(6,.pointer (some ⟨bb2,0,none⟩)),(7,.pointer (some ⟨bb3,0,none⟩)),(9,.slice p9 x3.length k4),(10,.slice p8 x2.length k3),(16,.int .i64 i22),(133,.bool b4)]∧SH w0 w' [Ch.box bb1 [.slice p1 a_0.code.length k1,.int .i64 i23,.int .i64 i24] 108,Ch.own S8 (x2:List ByteArray) [.slice p8 x2.length k3],Ch.own S28 (x13:List qw) [.slice p9 x3.length k4],Ch.own S3 (([(⟨(⟨#[99,107]⟩:ByteArray),1,0⟩:qC),(⟨(⟨#[97]⟩:ByteArray),1,1⟩:qC),(⟨(⟨#[98]⟩:ByteArray),1,2⟩:qC)]:List qC):List qC) [.slice p3 3 3],Ch.box bb3 [.slice none 0 0,.slice p2 3 3,.slice p3 3 3] 31,Ch.own S2 (([(⟨#[110,99,107]⟩:ByteArray),(⟨#[110,97]⟩:ByteArray),(⟨#[110,98]⟩:ByteArray)]:List ByteArray):List ByteArray) [.slice p2 3 3],Ch.box bb2 [.slice none 0 0,.slice none 0 0,.slice none 0 0] 31,Ch.grp (old w0) (FS F) [fct (a_0:Tl01Source) [.slice p1 a_0.code.length k1,.int .i64 a_0.at_,.int .i64 a_0.seed],same w0 w F]]) ?_ ?_
  ·refine X0 2 rfl ?_
   obtain ⟨o12,hr11,hF⟩:=qe hF
   obtain ⟨i28,i29,i30⟩:=o12
   refine qz (cB 32 rfl) (qi (a_0:=(⟨a_0.code,i20,i21⟩:Tl01Source)) (a_1:=4) h ⟨[.slice p1 a_0.code.length k1],[.int .i64 i20,.int .i64 i21],rfl,⟨_,_,rfl,(qf (h.frG 7 0 1 rfl rfl rfl)).1⟩,⟨[.int .i64 i20],[.int .i64 i21],rfl,rfl,rfl⟩⟩ hr11) rfl rfl rfl rfl ?_
   rintro w47 us6 ⟨rfl,h⟩
   replace h:SH _ _ [Ch.box bb1 [.slice p1 a_0.code.length k1,.int .i64 i29,.int .i64 i30] 108,Ch.own S8 (x2:List ByteArray) [.slice p8 x2.length k3],Ch.own S28 (x13:List qw) [.slice p9 x3.length k4],Ch.own S3 (([(⟨(⟨#[99,107]⟩:ByteArray),1,0⟩:qC),(⟨(⟨#[97]⟩:ByteArray),1,1⟩:qC),(⟨(⟨#[98]⟩:ByteArray),1,2⟩:qC)]:List qC):List qC) [.slice p3 3 3],Ch.box bb3 [.slice none 0 0,.slice p2 3 3,.slice p3 3 3] 31,Ch.own S2 (([(⟨#[110,99,107]⟩:ByteArray),(⟨#[110,97]⟩:ByteArray),(⟨#[110,98]⟩:ByteArray)]:List ByteArray):List ByteArray) [.slice p2 3 3],Ch.box bb2 [.slice none 0 0,.slice none 0 0,.slice none 0 0] 31,Ch.grp (old w0) (FS F) [fct (a_0:Tl01Source) [.slice p1 a_0.code.length k1,.int .i64 a_0.at_,.int .i64 a_0.seed],same w0 w F]]:=h
   refine zp2 rfl (qj (t:=115) hF rfl ?_ ?_)<;>intro hF
   ·refine X0 5 rfl ?_
    obtain ⟨y5,hy5,hF⟩:=qe hF
    have he5:=qbd hy5
    replace h:=h.lrn0 2 rfl
    obtain ⟨b7,o_4,q5,cs6,hp5,hq5,-,hr12,hc10⟩:=(qap (h.lrnO 2 rfl)).1.at hy5
    have hr13:=hr12
    obtain ⟨p29,k15,rfl,s2⟩:=qax hr12
    replace h:=h.lrnAdd 2 rfl hr13
    refine zx hp5 hq5 ⟨he5.1,qab he5.2.1 (qap (h.lrnO 2 rfl)).2⟩ rfl (X0 3 rfl (zc 1 hc10 rfl (X0 4 rfl (qj (t:=122) hF rfl ?_ ?_))))<;>intro hF
    ·refine X0 15 rfl ?_
     replace h:=h.unlrn 2 rfl
     obtain rfl:=qd hF
     exact rG ⟨_,_,_,hK6,rfl,h⟩ rfl
    refine X0 5 rfl ?_
    obtain ⟨y6,hy6,hF,he6,b8,_,q6,cs7,hp6,hq6,hr14,hc11⟩:=(qap (h.lrnO 2 rfl)).1.ix hF
    have hr15:=hr14
    obtain ⟨p30,k16,rfl,s3⟩:=qax hr14
    replace h:=h.lrnAdd 2 rfl hr15
    refine zx hp6 hq6 ⟨he6.1,qab he6.2.1 (qap (h.lrnO 2 rfl)).2⟩ rfl (X0 3 rfl (zc 1 hc11 rfl (X0 6 rfl (qj (t:=130) hF rfl ?_ ?_))))<;>intro hF
    ·refine X0 5 rfl ?_
     replace h:=h.unlrn 2 rfl
     obtain rfl:=qd hF
     exact rG ⟨_,_,_,hK6,rfl,h⟩ rfl
    refine X0 6 rfl ?_
    replace h:=h.unlrn 2 rfl
    obtain rfl:=qd hF
    exact rG ⟨_,_,_,hK6,rfl,h⟩ rfl
   refine X0 19 rfl ?_
   obtain rfl:=qd hF
   exact rG ⟨_,_,_,hK6,rfl,h⟩ rfl
  rintro e6 w48 ⟨i23,i24,b4,hF,rfl,h⟩
  subst hKF3
  refine qm rfl hF ?_ ?_<;>intro hF
  ·obtain ⟨y3,hy3,hF⟩:=qe hF
   have he3:=qbd hy3
   replace h:=h.pick [2,0,1,3,4,5,6,7] rfl
   obtain ⟨S29,S30,cs4,h⟩:=h.take hy3
   obtain ⟨p28,k14,rfl,-⟩:=qax (h.own 0 rfl)
   obtain ⟨S31,h⟩:=qkR h
   refine rA [] [1] h rfl fun w44 h=>M0 3 [0,1] (h.pick [1] rfl) rfl ?_
   obtain ⟨b5,hp3,-,-,hl2⟩:=h.holeAt 1 rfl
   obtain ⟨q3,hq3⟩:∃ q,q=0+(i22).toNat*GoT.k qw:=⟨_,rfl⟩
   refine Ax 2 7 hp3 hq3 ⟨he3.1,qab he3.2.1 hl2⟩ (h.pick [1] rfl) rfl (M0 15 [3] (h.pick [1] rfl) rfl (Aw 4 31 (fun w' hw=>qe2 qb (qfS hw 0 rfl hp3 hq3) (j:=2) rfl rfl rfl) (h.pick [1] rfl) rfl ?_))
   refine M0 511 [5,6,7,8] (h.pick [1] rfl) rfl (Ao 9 1023 rfl ?_)
   replace h:=h.pick [2,0,1,3,4,5,6,7,8] rfl
   obtain ⟨o10,hr9,hF⟩:=qe hF
   obtain ⟨i25,i26,i27⟩:=o10
   refine qz (cB 32 rfl) (qi (a_0:=(⟨a_0.code,i23,i24⟩:Tl01Source)) (a_1:=(W64 ((x2.length:Int)-1))) h ⟨[.slice p1 a_0.code.length k1],[.int .i64 i23,.int .i64 i24],rfl,⟨_,_,rfl,(qf (h.frG 8 0 1 rfl rfl rfl)).1⟩,⟨[.int .i64 i23],[.int .i64 i24],rfl,rfl,rfl⟩⟩ hr9) rfl rfl rfl rfl ?_
   rintro w45 us5 ⟨rfl,h⟩
   replace h:SH _ _ [Ch.box bb1 [.slice p1 a_0.code.length k1,.int .i64 i26,.int .i64 i27] 108,Ch.own S31 (y3.Aj:List Int) [.slice p28 y3.Aj.length k14],Ch.hole S30 (x13:List qw) p9 x3.length k4 (i22).toNat [.string y3.Au,.int .i64 y3.Az,.slice p28 y3.Aj.length k14],Ch.own S8 (x2:List ByteArray) [.slice p8 x2.length k3],Ch.own S3 (([(⟨(⟨#[99,107]⟩:ByteArray),1,0⟩:qC),(⟨(⟨#[97]⟩:ByteArray),1,1⟩:qC),(⟨(⟨#[98]⟩:ByteArray),1,2⟩:qC)]:List qC):List qC) [.slice p3 3 3],Ch.box bb3 [.slice none 0 0,.slice p2 3 3,.slice p3 3 3] 31,Ch.own S2 (([(⟨#[110,99,107]⟩:ByteArray),(⟨#[110,97]⟩:ByteArray),(⟨#[110,98]⟩:ByteArray)]:List ByteArray):List ByteArray) [.slice p2 3 3],Ch.box bb2 [.slice none 0 0,.slice none 0 0,.slice none 0 0] 31,Ch.grp (old w0) (FS F) [fct (a_0:Tl01Source) [.slice p1 a_0.code.length k1,.int .i64 a_0.at_,.int .i64 a_0.seed],same w0 w F]]:=h
   refine G0 2047 [10] (h.pick [2] rfl) rfl ?_
   obtain ⟨y4,hy4,hF,he4,b6,_,q4,cs5,hp4,hq4,rfl,hc9⟩:=(h.sl 1 rfl).1.ix hF
   refine Ax 11 4095 hp4 hq4 ⟨he4.1,qab he4.2.1 (h.sl 1 rfl).2⟩ (h.pick [2] rfl) rfl (Ao 12 8191 rfl (qd8 qb 1 0 (W64 (1+i25)) h rfl hy4 hp4 hq4 rfl hc9 rfl rfl rfl rfl rfl rfl rfl fun w46 h=>Ag (h.pick [2] rfl) (Ad (X0 6 rfl ?_))))
   obtain ⟨S32,h⟩:=h.gather [0,2,3,4,5,6,7,8] (qj5 (⟨y3.Au,y3.Az,(setS y3.Aj 0 (W64 (1+i25)))⟩:qw) h (qD (S:=fun _=>False) rfl) (qD (S:=fun _=>False) rfl) (qE 1 h rfl) (by rfl) (by rfl)) rfl
   replace h:=h.pick [0,2,1,3,4,5,6,7,8] rfl
   replace h:=h.put
   obtain ⟨S33,h⟩:=qin (S:=_) h
   replace h:=h.pick [1,2,0,3,4,5,6,7] rfl
   exact rK ⟨_,_,_,_,_,hF,rfl,h⟩ rfl
  exact X0 7 rfl (rK ⟨_,_,_,_,_,hF,rfl,h⟩ rfl)
 refine qA rfl ?_
 obtain rfl:=qd hF;replace hF:=hK5
 refine zSR (qn qb [] _ ([]:List qC) h rfl rfl rfl rfl rfl rfl rfl rfl rfl trivial rfl fun w49 p31 S34 h=>X1 2 5 h rfl ?_)
 obtain ⟨x14,hx12,hF⟩:=qe hF
 obtain ⟨g12,hx12⟩:=qk hx12
 refine qau qb 0 h rfl (h.sl 4 rfl).1 (h.sl 4 rfl).2 rfl rfl rfl rfl rfl rfl rfl rfl rfl g12 hx12 rfl fun w50 p32 k17 S35 h=>X0 8 rfl (r_v (qai qb [0,1,2] [.const (.string (⟨#[121]⟩:ByteArray)),.const (.int .i64 (2)),.tmp 153] rfl rfl rfl rfl rfl rfl rfl rfl) rfl (qn qb [.tmp 154] _ ([(⟨(⟨#[121]⟩:ByteArray),2,W64 ((x2.length:Int)-1)⟩:qC)]:List qC) h rfl rfl rfl rfl rfl rfl rfl rfl rfl ⟨(qgv (⟨(⟨#[121]⟩:ByteArray),2,W64 ((x2.length:Int)-1)⟩:qC)),trivial⟩ rfl fun w51 p33 S36 h=>?_))
 obtain ⟨x15,hx13,hF⟩:=qe hF
 obtain ⟨g13,hx13⟩:=qk hx13
 refine qau qb 1 h rfl (h.sl 0 rfl).1 (h.sl 0 rfl).2 rfl rfl rfl rfl rfl rfl rfl rfl rfl g13 hx13 rfl fun w52 p34 k18 S37 h=>X0 6 rfl ?_
 replace h:=h.pick [2,0,1,3,4,5,6,7,8,9] rfl
 obtain ⟨o13,hr16,hF⟩:=qe hF
 obtain ⟨i31,i32,i33⟩:=o13
 refine qz (cB 32 rfl) (qi (a_0:=(⟨a_0.code,i20,i21⟩:Tl01Source)) (a_1:=2) h ⟨[.slice p1 a_0.code.length k1],[.int .i64 i20,.int .i64 i21],rfl,⟨_,_,rfl,(qf (h.frG 9 0 1 rfl rfl rfl)).1⟩,⟨[.int .i64 i20],[.int .i64 i21],rfl,rfl,rfl⟩⟩ hr16) rfl rfl rfl rfl ?_
 rintro w53 us7 ⟨rfl,h⟩
 replace h:SH _ _ [Ch.box bb1 [.slice p1 a_0.code.length k1,.int .i64 i32,.int .i64 i33] 108,Ch.own S36 (([(⟨(⟨#[121]⟩:ByteArray),2,W64 ((x2.length:Int)-1)⟩:qC)]:List qC):List qC) [.slice p33 1 1],Ch.own S37 (x15:List qC) [.slice p34 x15.length k18],Ch.own S8 (x2:List ByteArray) [.slice p8 x2.length k3],Ch.own S28 (x13:List qw) [.slice p9 x3.length k4],Ch.own S3 (([(⟨(⟨#[99,107]⟩:ByteArray),1,0⟩:qC),(⟨(⟨#[97]⟩:ByteArray),1,1⟩:qC),(⟨(⟨#[98]⟩:ByteArray),1,2⟩:qC)]:List qC):List qC) [.slice p3 3 3],Ch.box bb3 [.slice none 0 0,.slice p2 3 3,.slice p3 3 3] 31,Ch.own S2 (([(⟨#[110,99,107]⟩:ByteArray),(⟨#[110,97]⟩:ByteArray),(⟨#[110,98]⟩:ByteArray)]:List ByteArray):List ByteArray) [.slice p2 3 3],Ch.box bb2 [.slice none 0 0,.slice none 0 0,.slice none 0 0] 31,Ch.grp (old w0) (FS F) [fct (a_0:Tl01Source) [.slice p1 a_0.code.length k1,.int .i64 a_0.at_,.int .i64 a_0.seed],same w0 w F]]:=h
 refine X0 2 rfl (qm rfl hF ?_ ?_)<;>intro hF
 ·refine X0 6 rfl ?_
  obtain ⟨o14,hr17,hF⟩:=qe hF
  obtain ⟨i34,i35,i36⟩:=o14
  refine qz (cB 32 rfl) (qi (a_0:=(⟨a_0.code,i32,i33⟩:Tl01Source)) (a_1:=(W64 ((x2.length:Int)-1))) h ⟨[.slice p1 a_0.code.length k1],[.int .i64 i32,.int .i64 i33],rfl,⟨_,_,rfl,(qf (h.frG 9 0 1 rfl rfl rfl)).1⟩,⟨[.int .i64 i32],[.int .i64 i33],rfl,rfl,rfl⟩⟩ hr17) rfl rfl rfl rfl ?_
  rintro w54 us8 ⟨rfl,h⟩
  replace h:SH _ _ [Ch.box bb1 [.slice p1 a_0.code.length k1,.int .i64 i35,.int .i64 i36] 108,Ch.own S36 (([(⟨(⟨#[121]⟩:ByteArray),2,W64 ((x2.length:Int)-1)⟩:qC)]:List qC):List qC) [.slice p33 1 1],Ch.own S37 (x15:List qC) [.slice p34 x15.length k18],Ch.own S8 (x2:List ByteArray) [.slice p8 x2.length k3],Ch.own S28 (x13:List qw) [.slice p9 x3.length k4],Ch.own S3 (([(⟨(⟨#[99,107]⟩:ByteArray),1,0⟩:qC),(⟨(⟨#[97]⟩:ByteArray),1,1⟩:qC),(⟨(⟨#[98]⟩:ByteArray),1,2⟩:qC)]:List qC):List qC) [.slice p3 3 3],Ch.box bb3 [.slice none 0 0,.slice p2 3 3,.slice p3 3 3] 31,Ch.own S2 (([(⟨#[110,99,107]⟩:ByteArray),(⟨#[110,97]⟩:ByteArray),(⟨#[110,98]⟩:ByteArray)]:List ByteArray):List ByteArray) [.slice p2 3 3],Ch.box bb2 [.slice none 0 0,.slice none 0 0,.slice none 0 0] 31,Ch.grp (old w0) (FS F) [fct (a_0:Tl01Source) [.slice p1 a_0.code.length k1,.int .i64 a_0.at_,.int .i64 a_0.seed],same w0 w F]]:=h
  refine zp1 rfl (r_v (qai qb [0,1,2] [.const (.string (⟨#[122]⟩:ByteArray)),.const (.int .i64 (2)),.tmp 166] rfl rfl rfl rfl rfl rfl rfl rfl) rfl (qn qb [.tmp 167] _ ([(⟨(⟨#[122]⟩:ByteArray),2,W64 (1+i34)⟩:qC)]:List qC) h rfl rfl rfl rfl rfl rfl rfl rfl rfl ⟨(qgv (⟨(⟨#[122]⟩:ByteArray),2,W64 (1+i34)⟩:qC)),trivial⟩ rfl fun w55 p35 S38 h=>?_))
  obtain ⟨x16,hx14,hF⟩:=qe hF
  obtain ⟨g14,hx14⟩:=qk hx14
  refine qau qb 3 h rfl (h.sl 0 rfl).1 (h.sl 0 rfl).2 rfl rfl rfl rfl rfl rfl rfl rfl rfl g14 hx14 rfl fun w56 p36 k19 S39 h=>X0 7 rfl (r_v (qai qb [0,1,2] [.tmp 170,.tmp 171,.tmp 172] rfl rfl rfl rfl rfl rfl rfl rfl) rfl (zs 9 h rfl fun w57 h=>qaW ?_))
  have hk1:=h
  obtain ⟨S40,h⟩:=h.gather [0,1,2,6,7,8,9,10] (qlx (⟨x13,x2,x16⟩:qg) h (qE 5 h rfl) (qE 4 h rfl) (qE 3 h rfl) (by rfl) (by rfl)) rfl
  obtain rfl:=qd hF
  replace h:=h.pick [0,2,8] rfl
  replace h:SH _ _ [Ch.own S40 ((⟨x13,x2,x16⟩:qg):qg) [.slice p9 x3.length k4,.slice p8 x2.length k3,.slice p36 x16.length k19],Ch.box bb1 [.slice p1 a_0.code.length k1,.int .i64 i35,.int .i64 i36] 108,Ch.grp (old w0) (FS F) [fct (a_0:Tl01Source) [.slice p1 a_0.code.length k1,.int .i64 a_0.at_,.int .i64 a_0.seed],same w0 w F]]:=h
  exact qbp qb [GoT.v qg [.slice p9 x3.length k4,.slice p8 x2.length k3,.slice p36 x16.length k19]] ⟨⟨_,_,_,rfl,rfl,hk1.box 9 rfl,rfl⟩,trivial⟩ ⟨_,_,rfl,SH.unframe 1 (L0:=[Ch.box bb1 (qh a_0 p1 k1) 108]) h0 [Ch.own S40 ((⟨x13,x2,x16⟩:qg):qg) [.slice p9 x3.length k4,.slice p8 x2.length k3,.slice p36 x16.length k19],Ch.box bb1 [.slice p1 a_0.code.length k1,.int .i64 i35,.int .i64 i36] 108] h rfl⟩
 refine X0 6 rfl (r_v (qai qb [0,1,2] [.tmp 170,.tmp 171,.tmp 172] rfl rfl rfl rfl rfl rfl rfl rfl) rfl (zs 8 h rfl fun w58 h=>qaW ?_))
 have hk2:=h
 obtain ⟨S41,h⟩:=h.gather [0,1,5,6,7,8,9] (qlx (⟨x13,x2,x15⟩:qg) h (qE 4 h rfl) (qE 3 h rfl) (qE 2 h rfl) (by rfl) (by rfl)) rfl
 obtain rfl:=qd hF
 replace h:=h.pick [0,1,7] rfl
 replace h:SH _ _ [Ch.own S41 ((⟨x13,x2,x15⟩:qg):qg) [.slice p9 x3.length k4,.slice p8 x2.length k3,.slice p34 x15.length k18],Ch.box bb1 [.slice p1 a_0.code.length k1,.int .i64 i32,.int .i64 i33] 108,Ch.grp (old w0) (FS F) [fct (a_0:Tl01Source) [.slice p1 a_0.code.length k1,.int .i64 a_0.at_,.int .i64 a_0.seed],same w0 w F]]:=h
 exact qbp qb [GoT.v qg [.slice p9 x3.length k4,.slice p8 x2.length k3,.slice p34 x15.length k18]] ⟨⟨_,_,_,rfl,rfl,hk2.box 8 rfl,rfl⟩,trivial⟩ ⟨_,_,rfl,SH.unframe 1 (L0:=[Ch.box bb1 (qh a_0 p1 k1) 108]) h0 [Ch.own S41 ((⟨x13,x2,x15⟩:qg):qg) [.slice p9 x3.length k4,.slice p8 x2.length k3,.slice p34 x15.length k18],Ch.box bb1 [.slice p1 a_0.code.length k1,.int .i64 i32,.int .i64 i33] 108] h rfl⟩
def qeE (_:Nat) (list:(List Int)):Option (List Int) :=
 (appS ([]:List Int) list).bind fun x1 =>
 some x1
theorem qeO {list:(List Int)} (ha1:GoT.R w (old w) list cs1) {r:(List Int)} (hF:qeE n list=some r):RetV Tryz.prog 114 [GoT.v (List Int) cs1] w r:=by
 obtain ⟨p1,k1,rfl,s1⟩:=ha1
 refine zV 6 Tryz.func114 rfl fun h=>X0 6 rfl (qn qb [] _ ([]:List Int) h rfl rfl rfl rfl rfl rfl rfl rfl rfl trivial rfl fun w1 p2 S1 h=>zp1 rfl ?_)
 obtain ⟨x1,hx1,hF⟩:=qe hF
 obtain ⟨g1,hx1⟩:=qk hx1
 refine qau qb 0 h rfl (h.oldS s1) rfl rfl rfl rfl rfl rfl rfl rfl rfl rfl g1 hx1 rfl fun w2 p3 k2 S2 h=>X0 2 rfl ?_
 obtain rfl:=qd hF
 exact rO 0 h rfl ⟨rfl,trivial⟩
def qga (_:Nat) (sinks:Int) (load:Int):Option qR :=
 (mkS sinks (0:Int)).bind fun x1 =>
 some (⟨([(-1)]:List Int),([0]:List Int),([load]:List Int),x1⟩:qR)
theorem qjU {sinks:Int} {load:Int}  {r:qR} (hF:qga n sinks load=some r):RetV Tryz.prog 144 [.int .i64 sinks,.int .i64 load] w r:=by
 refine zV 12 Tryz.func144 rfl fun h=>zSR (qx qb h rfl rfl rfl fun w1 bb1 h=>zNSR (qn qb [.const (.int .i64 (-1))] _ ([(-1)]:List Int) h rfl rfl rfl rfl rfl rfl rfl rfl rfl ⟨rfl,trivial⟩ rfl fun w2 p1 S1 h=>qn qb [.const (.int .i64 (0))] _ ([0]:List Int) h rfl rfl rfl rfl rfl rfl rfl rfl rfl ⟨rfl,trivial⟩ rfl fun w3 p2 S2 h=>zp1 rfl (qn qb [.tmp 7] _ ([load]:List Int) h rfl rfl rfl rfl rfl rfl rfl rfl rfl ⟨rfl,trivial⟩ rfl fun w4 p3 S3 h=>zp1 rfl ?_)))
 obtain ⟨x1,hx1,hF⟩:=qe hF
 obtain ⟨g1,g2,hx1⟩:=qgT hx1
 refine qhT qb Int h rfl rfl rfl rfl rfl rfl rfl rfl rfl g1 g2 hx1 rfl fun w5 S4 p4 h=>r_v (qai qb [0,1,2,3] [.tmp 5,.tmp 6,.tmp 8,.tmp 10] rfl rfl rfl rfl rfl rfl rfl rfl) rfl (zs 4 h rfl fun w6 h=>qaW ?_)
 obtain rfl:=qd hF
 exact qbB qb (ρ:=qR) [GoT.v qR [.slice p1 1 1,.slice p2 1 1,.slice p3 1 1,.slice p4 x1.length x1.length]] h ⟨⟨_,_,_,rfl,rfl,h.box 4 rfl,rfl⟩,trivial⟩ (PV.done h (qb0 (qia (⟨([(-1)]:List Int),([0]:List Int),([load]:List Int),x1⟩:qR) h (qE 3 h rfl) (qE 2 h rfl) (qE 1 h rfl) (qE 0 h rfl) (by rfl) (by rfl) (by rfl))))
end Go.Fw


namespace Go.Fw
open Go Go.Proofs
open Go.RowKit (Below)
set_option maxRecDepth 100000
set_option maxHeartbeats 6400000
variable {n:Nat} {w:World} {cs1 cs2 cs3 cs4 cs5 cs6 cs7 cs8 cs9:List Value}
def qcb (s:Tl01Source) (r1:qR) (x3:(List Int)):Nat→(List Int)→Int→Int→Int→Option ((List Int) × Int × Int × Int)
 | 0,_,_,_,_=>none
 | n+1,x7,i19,i20,i21 =>
  bif decide (i21<(r1.Av.length:Int)) then
   (ql n (⟨s.code,i19,i20⟩:Tl01Source) (x3.length:Int)).bind fun o=>match o with
    | (i22,i23,i24) =>
     (idx x7 i21).bind fun _ =>
     qcb s r1 x3 n (setS x7 i21 i22) i23 i24 (W64 (i21+1))
  else
   some (x7,i19,i20,i21)
def qca (s:Tl01Source):Nat→(List Int)→(List Int)→(List Int)→Int→Int→Int→Option ((List Int) × (List Int) × (List Int) × Int × Int × Int)
 | 0,_,_,_,_,_,_=>none
 | n+1,x1,x2,x3,i7,i8,i9 =>
  bif decide (i9 > 0) then
   (qeE n x3).bind fun r2 =>
   (ql n (⟨s.code,i7,i8⟩:Tl01Source) (x3.length:Int)).bind fun o=>match o with
    | (i10,i11,i12) =>
     (appS r2 ([i10]:List Int)).bind fun x4 =>
     (qeE n x2).bind fun r3 =>
     (ql n (⟨s.code,i11,i12⟩:Tl01Source) 400).bind fun o=>match o with
      | (i13,i14,i15) =>
       (appS r3 ([i13]:List Int)).bind fun x5 =>
       (qeE n x1).bind fun r4 =>
       (ql n (⟨s.code,i14,i15⟩:Tl01Source) 8).bind fun o=>match o with
        | (i16,i17,i18) =>
         (appS r4 ([i16]:List Int)).bind fun x6 =>
         qca s n x6 x5 x4 i17 i18 (W64 (i9-1))
  else
   some (x1,x2,x3,i7,i8,i9)
def qfg (n:Nat) (s:Tl01Source) (sinks:Int):Option (qR × Int × Int) :=
 (ql n (⟨s.code,s.at_,s.seed⟩:Tl01Source) 6).bind fun o=>match o with
  | (i1,i2,i3) =>
   (qga n sinks i1).bind fun r1 =>
   (ql n (⟨s.code,i2,i3⟩:Tl01Source) 4).bind fun o=>match o with
    | (i4,i5,i6) =>
     (qca s n r1.Bd r1.Be r1.Ak i5 i6 i4).bind fun o=>match o with
     | (x1,x2,x3,i7,i8,_) =>
      (qcb s r1 x3 n r1.Av i7 i8 0).bind fun o=>match o with
      | (x7,i19,i20,_) =>
       some ((⟨x3,x2,x1,x7⟩:qR),i19,i20)
theorem qi4 {n:Nat} {w0 w:World} {F:List Ch} {s:Tl01Source} {bb1:Nat} {p1:Option Addr} {k1:Nat} {sinks:Int} (h0:SH w0 w (Ch.box bb1 (qh s p1 k1) 108::F)) (ha1:GoT.R w (Fr w0 F) s [.slice p1 s.code.length k1,.int .i64 s.at_,.int .i64 s.seed]) {r:(qR × Int × Int)} (hF:qfg n s sinks=some r):RetW Tryz.prog 117 [.pointer (some ⟨bb1,0,none⟩),.int .i64 sinks] w (fun us w'=>∃ (S1:Nat→Prop) (cs1:List Value),us=[GoT.v qR cs1]∧SH w0 w' (Ch.own S1 (r.1:qR) cs1::Ch.box bb1 [.slice p1 s.code.length k1,.int .i64 r.2.1,.int .i64 r.2.2] 108::F)):=by
 have h:=SH.frame [Ch.box bb1 (qh s p1 k1) 108] h0
 replace h:=h.grpAdd 1 rfl ha1
 replace h:SH _ _ [Ch.box bb1 (qh s p1 k1) 108,Ch.grp (old w0) (FS F) [fct (s:Tl01Source) [.slice p1 s.code.length k1,.int .i64 s.at_,.int .i64 s.seed],same w0 w F]]:=h
 refine qbi Tryz.func117 rfl (m:=64) rfl rfl (zSR (qx qb h rfl rfl rfl fun w1 bb2 h=>X0 5 rfl ?_))
 replace h:=h.pick [1,0,2] rfl
 obtain ⟨o1,hr1,hF⟩:=qe hF
 obtain ⟨i1,i2,i3⟩:=o1
 refine qz (cB 32 rfl) (qi (a_0:=(⟨s.code,s.at_,s.seed⟩:Tl01Source)) (a_1:=6) h ⟨[.slice p1 s.code.length k1],[.int .i64 s.at_,.int .i64 s.seed],rfl,⟨_,_,rfl,(qf (h.frG 2 0 1 rfl rfl rfl)).1⟩,⟨[.int .i64 s.at_],[.int .i64 s.seed],rfl,rfl,rfl⟩⟩ hr1) rfl rfl rfl rfl ?_
 rintro w2 us1 ⟨rfl,h⟩
 replace h:SH _ _ [Ch.box bb1 [.slice p1 s.code.length k1,.int .i64 i2,.int .i64 i3] 108,Ch.box bb2 [.slice none 0 0,.slice none 0 0,.slice none 0 0,.slice none 0 0] 118,Ch.grp (old w0) (FS F) [fct (s:Tl01Source) [.slice p1 s.code.length k1,.int .i64 s.at_,.int .i64 s.seed],same w0 w F]]:=h
 refine zcO h hF qjU rfl fun r1 w3 S2 cs2 h hF=>?_
 obtain ⟨p2,k2,p3,k3,p4,k4,p5,k5,rfl,-,-,-,-⟩:=qb1 (h.own 0 rfl)
 refine qx qb h rfl rfl rfl fun w4 bb3 h=>zs 0 h rfl fun w5 h=>X0 5 rfl ?_
 replace h:=h.pick [2,0,1,3,4] rfl
 obtain ⟨o2,hr3,hF⟩:=qe hF
 obtain ⟨i4,i5,i6⟩:=o2
 refine qz (cB 32 rfl) (qi (a_0:=(⟨s.code,i2,i3⟩:Tl01Source)) (a_1:=4) h ⟨[.slice p1 s.code.length k1],[.int .i64 i2,.int .i64 i3],rfl,⟨_,_,rfl,(qf (h.frG 4 0 1 rfl rfl rfl)).1⟩,⟨[.int .i64 i2],[.int .i64 i3],rfl,rfl,rfl⟩⟩ hr3) rfl rfl rfl rfl ?_
 rintro w6 us2 ⟨rfl,h⟩
 replace h:SH _ _ [Ch.box bb1 [.slice p1 s.code.length k1,.int .i64 i5,.int .i64 i6] 108,Ch.box bb3 (qeY r1 p2 p3 p4 p5 k2 k3 k4 k5) 118,Ch.own S2 (r1:qR) (qeY r1 p2 p3 p4 p5 k2 k3 k4 k5),Ch.box bb2 [.slice none 0 0,.slice none 0 0,.slice none 0 0,.slice none 0 0] 118,Ch.grp (old w0) (FS F) [fct (s:Tl01Source) [.slice p1 s.code.length k1,.int .i64 s.at_,.int .i64 s.seed],same w0 w F]]:=h
 refine X0 2 rfl ?_
 replace h:=h.pick [2,0,1,3,4] rfl
 obtain ⟨S3,S4,S5,S6,h⟩:=qgW h
 obtain ⟨o3,hF,hK1⟩:=qe hF
 refine qu (rL (fun m e w'=>∃ (S7:Nat→Prop) (p6:Option Addr) (ln1:Nat) (k6:Nat) (x1:(List Int)) (S8:Nat→Prop) (p7:Option Addr) (ln2:Nat) (k7:Nat) (x2:(List Int)) (S9:Nat→Prop) (p8:Option Addr) (ln3:Nat) (k8:Nat) (x3:(List Int)) (i7:Int) (i8:Int) (i9:Int),qca s m x1 x2 x3 i7 i8 i9=some o3∧e=[(0,.pointer (some ⟨bb1,0,none⟩)),(4,.pointer (some ⟨bb2,0,none⟩)),(5,.pointer (some ⟨bb3,0,none⟩)),(6,.int .i64 i9)]∧SH w0 w' [Ch.own S6 (r1.Av:List Int) [.slice p5 r1.Av.length k5],Ch.own S7 (x1:List Int) [.slice p6 ln1 k6],Ch.own S8 (x2:List Int) [.slice p7 ln2 k7],Ch.own S9 (x3:List Int) [.slice p8 ln3 k8],Ch.box bb1 [.slice p1 s.code.length k1,.int .i64 i7,.int .i64 i8] 108,Ch.box bb3 [.slice p8 ln3 k8,.slice p7 ln2 k7,.slice p6 ln1 k6,.slice p5 r1.Av.length k5] 118,Ch.box bb2 [.slice none 0 0,.slice none 0 0,.slice none 0 0,.slice none 0 0] 118,Ch.grp (old w0) (FS F) [fct (s:Tl01Source) [.slice p1 s.code.length k1,.int .i64 s.at_,.int .i64 s.seed],same w0 w F]]) n ⟨_,_,_,_,_,_,_,_,_,_,_,_,_,_,_,_,_,_,hF,rfl,h⟩ rfl ?_)
 rintro m1 e1 w7 ⟨S7,p6,ln1,k6,x1,S8,p7,ln2,k7,x2,S9,p8,ln3,k8,x3,i7,i8,i9,hF,rfl,h⟩
 obtain rfl:=(h.sl 1 rfl).2
 obtain rfl:=(h.sl 2 rfl).2
 obtain rfl:=(h.sl 3 rfl).2
 rcases m1 with _|m1
 ·cases hF
 refine X0 6 rfl (qm rfl hF ?_ ?_)<;>intro hF
 ·refine X1 10 5 h rfl (rA [25] [5] h rfl fun w8 h=>M4 12946203 [0,1,3,4,8,9,11,15,16,18,22,23] 0 0 0 0 (h.pick [5] rfl) rfl (Ao 2 12946207 rfl (zcL h hF (qeO (h.own 3 rfl)) rfl fun r2 w9 S10 p9 k9 h hF=>Ag (h.pick [6] rfl) (Ao 5 12946239 rfl ?_))))
  replace h:=h.pick [5,0,1,2,3,4,6,7,8] rfl
  obtain ⟨o4,hr5,hF⟩:=qe hF
  obtain ⟨i10,i11,i12⟩:=o4
  refine qz (cB 32 rfl) (qi (a_0:=(⟨s.code,i7,i8⟩:Tl01Source)) (a_1:=(x3.length:Int)) h ⟨[.slice p1 s.code.length k1],[.int .i64 i7,.int .i64 i8],rfl,⟨_,_,rfl,(qf (h.frG 8 0 1 rfl rfl rfl)).1⟩,⟨[.int .i64 i7],[.int .i64 i8],rfl,rfl,rfl⟩⟩ hr5) rfl rfl rfl rfl ?_
  rintro w10 us3 ⟨rfl,h⟩
  replace h:SH _ _ [Ch.box bb1 [.slice p1 s.code.length k1,.int .i64 i11,.int .i64 i12] 108,Ch.own S10 (r2:List Int) [.slice p9 r2.length k9],Ch.own S6 (r1.Av:List Int) [.slice p5 r1.Av.length k5],Ch.own S7 (x1:List Int) [.slice p6 x1.length k6],Ch.own S8 (x2:List Int) [.slice p7 x2.length k7],Ch.own S9 (x3:List Int) [.slice p8 x3.length k8],Ch.box bb3 [.slice p8 x3.length k8,.slice p7 x2.length k7,.slice p6 x1.length k6,.slice p5 r1.Av.length k5] 118,Ch.box bb2 [.slice none 0 0,.slice none 0 0,.slice none 0 0,.slice none 0 0] 118,Ch.grp (old w0) (FS F) [fct (s:Tl01Source) [.slice p1 s.code.length k1,.int .i64 s.at_,.int .i64 s.seed],same w0 w F]]:=h
  refine Ag (h.pick [6] rfl) (Ao 6 12946303 rfl (qn qb [.tmp 27] _ ([i10]:List Int) h rfl rfl rfl rfl rfl rfl rfl rfl rfl ⟨rfl,trivial⟩ rfl fun w11 p10 S11 h=>Ag (h.pick [7] rfl) (Ao 7 12946431 rfl ?_)))
  obtain ⟨x4,hx1,hF⟩:=qe hF
  obtain ⟨g1,hx1⟩:=qk hx1
  refine qau qb 2 h rfl (h.sl 0 rfl).1 (h.sl 0 rfl).2 rfl rfl rfl rfl rfl rfl rfl rfl rfl g1 hx1 rfl fun w12 p11 k10 S12 h=>Ag (h.pick [7] rfl) (Ao 10 12947455 rfl (zcL h hF (qeO (h.own 5 rfl)) rfl fun r3 w13 S13 p12 k11 h hF=>Ag (h.pick [8] rfl) (Ao 12 12951551 rfl ?_)))
  replace h:=h.pick [2,0,1,3,4,5,6,7,8,9,10] rfl
  obtain ⟨o5,hr7,hF⟩:=qe hF
  obtain ⟨i13,i14,i15⟩:=o5
  refine qz (cB 32 rfl) (qi (a_0:=(⟨s.code,i11,i12⟩:Tl01Source)) (a_1:=400) h ⟨[.slice p1 s.code.length k1],[.int .i64 i11,.int .i64 i12],rfl,⟨_,_,rfl,(qf (h.frG 10 0 1 rfl rfl rfl)).1⟩,⟨[.int .i64 i11],[.int .i64 i12],rfl,rfl,rfl⟩⟩ hr7) rfl rfl rfl rfl ?_
  rintro w14 us4 ⟨rfl,h⟩
  replace h:SH _ _ [Ch.box bb1 [.slice p1 s.code.length k1,.int .i64 i14,.int .i64 i15] 108,Ch.own S13 (r3:List Int) [.slice p12 r3.length k11],Ch.own S11 (([i10]:List Int):List Int) [.slice p10 1 1],Ch.own S12 (x4:List Int) [.slice p11 x4.length k10],Ch.own S6 (r1.Av:List Int) [.slice p5 r1.Av.length k5],Ch.own S7 (x1:List Int) [.slice p6 x1.length k6],Ch.own S8 (x2:List Int) [.slice p7 x2.length k7],Ch.own S9 (x3:List Int) [.slice p8 x3.length k8],Ch.box bb3 [.slice p8 x3.length k8,.slice p7 x2.length k7,.slice p6 x1.length k6,.slice p5 r1.Av.length k5] 118,Ch.box bb2 [.slice none 0 0,.slice none 0 0,.slice none 0 0,.slice none 0 0] 118,Ch.grp (old w0) (FS F) [fct (s:Tl01Source) [.slice p1 s.code.length k1,.int .i64 s.at_,.int .i64 s.seed],same w0 w F]]:=h
  refine Ag (h.pick [8] rfl) (Ao 13 12959743 rfl (qn qb [.tmp 34] _ ([i13]:List Int) h rfl rfl rfl rfl rfl rfl rfl rfl rfl ⟨rfl,trivial⟩ rfl fun w15 p13 S14 h=>Ag (h.pick [9] rfl) (Ao 14 12976127 rfl ?_)))
  obtain ⟨x5,hx2,hF⟩:=qe hF
  obtain ⟨g2,hx2⟩:=qk hx2
  refine qau qb 2 h rfl (h.sl 0 rfl).1 (h.sl 0 rfl).2 rfl rfl rfl rfl rfl rfl rfl rfl rfl g2 hx2 rfl fun w16 p14 k12 S15 h=>Ag (h.pick [9] rfl) (Ao 17 13107199 rfl (zcL h hF (qeO (h.own 6 rfl)) rfl fun r4 w17 S16 p15 k13 h hF=>Ag (h.pick [10] rfl) (Ao 19 13631487 rfl ?_)))
  replace h:=h.pick [2,0,1,3,4,5,6,7,8,9,10,11,12] rfl
  obtain ⟨o6,hr9,hF⟩:=qe hF
  obtain ⟨i16,i17,i18⟩:=o6
  refine qz (cB 32 rfl) (qi (a_0:=(⟨s.code,i14,i15⟩:Tl01Source)) (a_1:=8) h ⟨[.slice p1 s.code.length k1],[.int .i64 i14,.int .i64 i15],rfl,⟨_,_,rfl,(qf (h.frG 12 0 1 rfl rfl rfl)).1⟩,⟨[.int .i64 i14],[.int .i64 i15],rfl,rfl,rfl⟩⟩ hr9) rfl rfl rfl rfl ?_
  rintro w18 us5 ⟨rfl,h⟩
  replace h:SH _ _ [Ch.box bb1 [.slice p1 s.code.length k1,.int .i64 i17,.int .i64 i18] 108,Ch.own S16 (r4:List Int) [.slice p15 r4.length k13],Ch.own S14 (([i13]:List Int):List Int) [.slice p13 1 1],Ch.own S15 (x5:List Int) [.slice p14 x5.length k12],Ch.own S11 (([i10]:List Int):List Int) [.slice p10 1 1],Ch.own S12 (x4:List Int) [.slice p11 x4.length k10],Ch.own S6 (r1.Av:List Int) [.slice p5 r1.Av.length k5],Ch.own S7 (x1:List Int) [.slice p6 x1.length k6],Ch.own S8 (x2:List Int) [.slice p7 x2.length k7],Ch.own S9 (x3:List Int) [.slice p8 x3.length k8],Ch.box bb3 [.slice p8 x3.length k8,.slice p7 x2.length k7,.slice p6 x1.length k6,.slice p5 r1.Av.length k5] 118,Ch.box bb2 [.slice none 0 0,.slice none 0 0,.slice none 0 0,.slice none 0 0] 118,Ch.grp (old w0) (FS F) [fct (s:Tl01Source) [.slice p1 s.code.length k1,.int .i64 s.at_,.int .i64 s.seed],same w0 w F]]:=h
  refine Ag (h.pick [10] rfl) (Ao 20 14680063 rfl (qn qb [.tmp 41] _ ([i16]:List Int) h rfl rfl rfl rfl rfl rfl rfl rfl rfl ⟨rfl,trivial⟩ rfl fun w19 p16 S17 h=>Ag (h.pick [11] rfl) (Ao 21 16777215 rfl ?_)))
  obtain ⟨x6,hx3,hF⟩:=qe hF
  obtain ⟨g3,hx3⟩:=qk hx3
  refine qau qb 2 h rfl (h.sl 0 rfl).1 (h.sl 0 rfl).2 rfl rfl rfl rfl rfl rfl rfl rfl rfl g3 hx3 rfl fun w20 p17 k14 S18 h=>Ag (h.pick [11] rfl) (Aw 24 33554431 (fun w' hw=>qai qb [0,1,2,3] [.tmp 29,.tmp 36,.tmp 43,.tmp 45] rfl rfl rfl rfl rfl rfl rfl rfl) (h.pick [11] rfl) rfl ?_)
  refine Ao 25 67108863 rfl (zs 11 h rfl fun w21 h=>qeB (fun hs=>absurd (hs 25 (by decide)) (by decide)) (Ad (X0 6 rfl ?_)))
  replace h:=h.pick [7,2,4,6,1,11,12,13] rfl
  exact rK ⟨_,_,_,_,_,_,_,_,_,_,_,_,_,_,_,_,_,_,hF,rfl,h⟩ rfl
 refine qA rfl ?_
 obtain rfl:=qd hF;replace hF:=hK1
 refine X0 5 rfl ?_
 obtain ⟨o7,hF,hK2⟩:=qe hF
 refine qu (rL (fun m e w'=>∃ (x7:(List Int)) (i19:Int) (i20:Int) (i21:Int),qcb s r1 x3 m x7 i19 i20 i21=some o7∧e=[(0,.pointer (some ⟨bb1,0,none⟩)),(4,.pointer (some ⟨bb2,0,none⟩)),(5,.pointer (some ⟨bb3,0,none⟩)),(8,.int .i64 i21)]∧SH w0 w' [Ch.own S6 (x7:List Int) [.slice p5 r1.Av.length k5],Ch.own S7 (x1:List Int) [.slice p6 x1.length k6],Ch.own S8 (x2:List Int) [.slice p7 x2.length k7],Ch.own S9 (x3:List Int) [.slice p8 x3.length k8],Ch.box bb1 [.slice p1 s.code.length k1,.int .i64 i19,.int .i64 i20] 108,Ch.box bb3 [.slice p8 x3.length k8,.slice p7 x2.length k7,.slice p6 x1.length k6,.slice p5 r1.Av.length k5] 118,Ch.box bb2 [.slice none 0 0,.slice none 0 0,.slice none 0 0,.slice none 0 0] 118,Ch.grp (old w0) (FS F) [fct (s:Tl01Source) [.slice p1 s.code.length k1,.int .i64 s.at_,.int .i64 s.seed],same w0 w F]]) n ⟨_,_,_,_,hF,rfl,h⟩ rfl ?_)
 rintro m2 e2 w22 ⟨x7,i19,i20,i21,hF,rfl,h⟩
 rcases m2 with _|m2
 ·cases hF
 refine X1 9 5 h rfl (qm rfl hF ?_ ?_)<;>intro hF
 ·refine zKSB (rA [] [5] h rfl fun w23 h=>M2 127 [0,1,2,3,4,5,6] 0 0 (h.pick [5] rfl) rfl (Ao 7 255 rfl ?_))
  replace h:=h.pick [4,0,1,2,3,5,6,7] rfl
  obtain ⟨o8,hr10,hF⟩:=qe hF
  obtain ⟨i22,i23,i24⟩:=o8
  refine qz (cB 32 rfl) (qi (a_0:=(⟨s.code,i19,i20⟩:Tl01Source)) (a_1:=(x3.length:Int)) h ⟨[.slice p1 s.code.length k1],[.int .i64 i19,.int .i64 i20],rfl,⟨_,_,rfl,(qf (h.frG 7 0 1 rfl rfl rfl)).1⟩,⟨[.int .i64 i19],[.int .i64 i20],rfl,rfl,rfl⟩⟩ hr10) rfl rfl rfl rfl ?_
  rintro w24 us6 ⟨rfl,h⟩
  replace h:SH _ _ [Ch.box bb1 [.slice p1 s.code.length k1,.int .i64 i23,.int .i64 i24] 108,Ch.own S6 (x7:List Int) [.slice p5 r1.Av.length k5],Ch.own S7 (x1:List Int) [.slice p6 x1.length k6],Ch.own S8 (x2:List Int) [.slice p7 x2.length k7],Ch.own S9 (x3:List Int) [.slice p8 x3.length k8],Ch.box bb3 [.slice p8 x3.length k8,.slice p7 x2.length k7,.slice p6 x1.length k6,.slice p5 r1.Av.length k5] 118,Ch.box bb2 [.slice none 0 0,.slice none 0 0,.slice none 0 0,.slice none 0 0] 118,Ch.grp (old w0) (FS F) [fct (s:Tl01Source) [.slice p1 s.code.length k1,.int .i64 s.at_,.int .i64 s.seed],same w0 w F]]:=h
  refine Ag (h.pick [5] rfl) ?_
  obtain ⟨y1,hy1,hF,he1,b1,_,q1,cs3,hp1,hq1,rfl,hc3⟩:=(h.sl 1 rfl).1.ix hF
  refine Ax 8 511 hp1 hq1 ⟨he1.1,qab he1.2.1 (h.sl 1 rfl).2⟩ (h.pick [5] rfl) rfl (Ao 9 1023 rfl (qd8 qb 1 0 i22 h rfl hy1 hp1 hq1 rfl hc3 rfl rfl rfl rfl rfl rfl rfl fun w25 h=>Ag (h.pick [5] rfl) (Ad (X0 6 rfl ?_))))
  replace h:=h.pick [1,2,3,4,0,5,6,7] rfl
  exact rK ⟨_,_,_,_,hF,rfl,h⟩ rfl
 refine qA rfl ?_
 obtain rfl:=qd hF;replace hF:=hK2
 refine X1 3 5 h rfl (zs 6 h rfl fun w26 h=>qaW ?_)
 have hk1:=h
 obtain ⟨S19,h⟩:=h.gather [4,5,6,7] (qia (⟨x3,x2,x1,x7⟩:qR) h (qE 3 h rfl) (qE 2 h rfl) (qE 1 h rfl) (qE 0 h rfl) (by rfl) (by rfl) (by rfl)) rfl
 obtain rfl:=qd hF
 replace h:=h.pick [0,1,4] rfl
 replace h:SH _ _ [Ch.own S19 ((⟨x3,x2,x1,x7⟩:qR):qR) [.slice p8 x3.length k8,.slice p7 x2.length k7,.slice p6 x1.length k6,.slice p5 r1.Av.length k5],Ch.box bb1 [.slice p1 s.code.length k1,.int .i64 i19,.int .i64 i20] 108,Ch.grp (old w0) (FS F) [fct (s:Tl01Source) [.slice p1 s.code.length k1,.int .i64 s.at_,.int .i64 s.seed],same w0 w F]]:=h
 exact qbp qb [GoT.v qR [.slice p8 x3.length k8,.slice p7 x2.length k7,.slice p6 x1.length k6,.slice p5 r1.Av.length k5]] ⟨⟨_,_,_,rfl,rfl,hk1.box 6 rfl,rfl⟩,trivial⟩ ⟨_,_,rfl,SH.unframe 1 (L0:=[Ch.box bb1 (qh s p1 k1) 108]) h0 [Ch.own S19 ((⟨x3,x2,x1,x7⟩:qR):qR) [.slice p8 x3.length k8,.slice p7 x2.length k7,.slice p6 x1.length k6,.slice p5 r1.Av.length k5],Ch.box bb1 [.slice p1 s.code.length k1,.int .i64 i19,.int .i64 i20] 108] h rfl⟩
def qdI (s:Tl01Source) (r2:qg):Nat→(List qR)→Int→Int→Int→Option ((List qR) × Int × Int × Int)
 | 0,_,_,_,_=>none
 | n+1,x1,i5,i6,i7 =>
  bif decide (i7<(r2.Aj.length:Int)) then
   (qeQ n r2 i7).bind fun r3 =>
   (qfg n (⟨s.code,i5,i6⟩:Tl01Source) (r3.length:Int)).bind fun o=>match o with
    | (r4,i8,i9) =>
     (appS x1 ([r4]:List qR)).bind fun x2 =>
     qdI s r2 n x2 i8 i9 (W64 (i7+1))
  else
   some (x1,i5,i6,i7)
def qgj (n:Nat) (s:Tl01Source) (most:Int) (wild:Bool):Option (qc × Int × Int) :=
 (qhc n (⟨s.code,s.at_,s.seed⟩:Tl01Source)).bind fun o=>match o with
  | (r1,i1,i2) =>
   (qhf n (⟨s.code,i1,i2⟩:Tl01Source) most wild).bind fun o=>match o with
    | (r2,i3,i4) =>
     (qdI s r2 n ([]:List qR) i3 i4 0).bind fun o=>match o with
     | (x1,i5,i6,_) =>
      some ((⟨r1,r2,x1⟩:qc),i5,i6)
theorem qh9 {n:Nat} {w0 w:World} {F:List Ch} {s:Tl01Source} {bb1:Nat} {p1:Option Addr} {k1:Nat} {most:Int} {wild:Bool} (h0:SH w0 w (Ch.box bb1 (qh s p1 k1) 108::F)) (ha1:GoT.R w (Fr w0 F) s [.slice p1 s.code.length k1,.int .i64 s.at_,.int .i64 s.seed]) {r:(qc × Int × Int)} (hF:qgj n s most wild=some r):RetW Tryz.prog 68 [.pointer (some ⟨bb1,0,none⟩),.int .i64 most,.bool wild] w (fun us w'=>∃ (S1:Nat→Prop) (cs1:List Value),us=[GoT.v qc cs1]∧SH w0 w' (Ch.own S1 (r.1:qc) cs1::Ch.box bb1 [.slice p1 s.code.length k1,.int .i64 r.2.1,.int .i64 r.2.2] 108::F)):=by
 have h:=SH.frame [Ch.box bb1 (qh s p1 k1) 108] h0
 replace h:=h.grpAdd 1 rfl ha1
 replace h:SH _ _ [Ch.box bb1 (qh s p1 k1) 108,Ch.grp (old w0) (FS F) [fct (s:Tl01Source) [.slice p1 s.code.length k1,.int .i64 s.at_,.int .i64 s.seed],same w0 w F]]:=h
 refine qbi Tryz.func68 rfl (m:=38) rfl rfl (zSR (qx qb h rfl rfl rfl fun w1 bb2 h=>X0 4 rfl ?_))
 replace h:=h.pick [1,0,2] rfl
 obtain ⟨o1,hr1,hF⟩:=qe hF
 obtain ⟨r1,i1,i2⟩:=o1
 refine qz (cB 115 rfl) (qkv (s:=(⟨s.code,s.at_,s.seed⟩:Tl01Source)) h ⟨[.slice p1 s.code.length k1],[.int .i64 s.at_,.int .i64 s.seed],rfl,⟨_,_,rfl,(qf (h.frG 2 0 1 rfl rfl rfl)).1⟩,⟨[.int .i64 s.at_],[.int .i64 s.seed],rfl,rfl,rfl⟩⟩ hr1) rfl rfl rfl rfl ?_
 rintro w2 us1 ⟨S2,cs2,rfl,h⟩
 obtain ⟨p2,k2,rfl,-⟩:=qbL (h.own 0 rfl)
 replace h:SH _ _ [Ch.own S2 (r1:qq) [.slice p2 r1.Ai.length k2],Ch.box bb1 [.slice p1 s.code.length k1,.int .i64 i1,.int .i64 i2] 108,Ch.box bb2 [.slice none 0 0,.slice none 0 0,.slice none 0 0,.slice none 0 0,.slice none 0 0] 34,Ch.grp (old w0) (FS F) [fct (s:Tl01Source) [.slice p1 s.code.length k1,.int .i64 s.at_,.int .i64 s.seed],same w0 w F]]:=h
 refine qx qb h rfl rfl rfl fun w3 bb3 h=>zs 0 h rfl fun w4 h=>X0 6 rfl ?_
 replace h:=h.pick [2,0,1,3,4] rfl
 obtain ⟨o2,hr2,hF⟩:=qe hF
 obtain ⟨r2,i3,i4⟩:=o2
 refine qz (cB 116 rfl) (qkF (a_0:=(⟨s.code,i1,i2⟩:Tl01Source)) (a_1:=most) (a_2:=wild) h ⟨[.slice p1 s.code.length k1],[.int .i64 i1,.int .i64 i2],rfl,⟨_,_,rfl,(qf (h.frG 4 0 1 rfl rfl rfl)).1⟩,⟨[.int .i64 i1],[.int .i64 i2],rfl,rfl,rfl⟩⟩ hr2) rfl rfl rfl rfl ?_
 rintro w5 us2 ⟨S3,cs3,rfl,h⟩
 obtain ⟨p3,k3,p4,k4,p5,k5,rfl,-,-,-⟩:=qaz (h.own 0 rfl)
 replace h:SH _ _ [Ch.own S3 (r2:qg) (qaj r2 p3 p4 p5 k3 k4 k5),Ch.box bb1 [.slice p1 s.code.length k1,.int .i64 i3,.int .i64 i4] 108,Ch.box bb3 [.slice p2 r1.Ai.length k2] 26,Ch.own S2 (r1:qq) [.slice p2 r1.Ai.length k2],Ch.box bb2 [.slice none 0 0,.slice none 0 0,.slice none 0 0,.slice none 0 0,.slice none 0 0] 34,Ch.grp (old w0) (FS F) [fct (s:Tl01Source) [.slice p1 s.code.length k1,.int .i64 s.at_,.int .i64 s.seed],same w0 w F]]:=h
 refine qx qb h rfl rfl rfl fun w6 bb4 h=>zs 0 h rfl fun w7 h=>zNSR (qbz qb [] _ ([]:List qR) [0,1,2,3,4,5,6] h rfl rfl rfl rfl rfl rfl rfl rfl rfl qc6 rfl rfl fun w8 p6 S4 h=>X0 7 rfl ?_)
 obtain ⟨o3,hF,hK1⟩:=qe hF
 refine qu (rL (fun m e w'=>∃ (S5:Nat→Prop) (p7:Option Addr) (ln1:Nat) (k6:Nat) (x1:(List qR)) (i5:Int) (i6:Int) (i7:Int),qdI s r2 m x1 i5 i6 i7=some o3∧e=[(0,.pointer (some ⟨bb1,0,none⟩)),(6,.pointer (some ⟨bb2,0,none⟩)),(7,.pointer (some ⟨bb3,0,none⟩)),(8,.pointer (some ⟨bb4,0,none⟩)),(9,.slice p7 ln1 k6),(10,.int .i64 i7)]∧SH w0 w' [Ch.own S5 (x1:List qR) [.slice p7 ln1 k6],Ch.box bb4 (qaj r2 p3 p4 p5 k3 k4 k5) 31,Ch.own S3 (r2:qg) (qaj r2 p3 p4 p5 k3 k4 k5),Ch.box bb1 [.slice p1 s.code.length k1,.int .i64 i5,.int .i64 i6] 108,Ch.box bb3 [.slice p2 r1.Ai.length k2] 26,Ch.own S2 (r1:qq) [.slice p2 r1.Ai.length k2],Ch.box bb2 [.slice none 0 0,.slice none 0 0,.slice none 0 0,.slice none 0 0,.slice none 0 0] 34,Ch.grp (old w0) (FS F) [fct (s:Tl01Source) [.slice p1 s.code.length k1,.int .i64 s.at_,.int .i64 s.seed],same w0 w F]]) n ⟨_,_,_,_,_,_,_,_,hF,rfl,h⟩ rfl ?_)
 rintro m1 e1 w9 ⟨S5,p7,ln1,k6,x1,i5,i6,i7,hF,rfl,h⟩
 obtain rfl:=(h.sl 0 rfl).2
 rcases m1 with _|m1
 ·cases hF
 refine X1 9 1 h rfl (qm rfl hF ?_ ?_)<;>intro hF
 ·refine X1 8 1 h rfl (zcL h hF (qgx (h.own 2 rfl)) rfl fun r3 w10 S6 p8 k7 h hF=>zp1 rfl ?_)
  replace h:=h.pick [4,0,1,2,3,5,6,7,8] rfl
  obtain ⟨o4,hr4,hF⟩:=qe hF
  obtain ⟨r4,i8,i9⟩:=o4
  refine qz (cB 117 rfl) (qi4 (s:=(⟨s.code,i5,i6⟩:Tl01Source)) (sinks:=(r3.length:Int)) h ⟨[.slice p1 s.code.length k1],[.int .i64 i5,.int .i64 i6],rfl,⟨_,_,rfl,(qf (h.frG 8 0 1 rfl rfl rfl)).1⟩,⟨[.int .i64 i5],[.int .i64 i6],rfl,rfl,rfl⟩⟩ hr4) rfl rfl rfl rfl ?_
  rintro w11 us3 ⟨S7,cs4,rfl,h⟩
  obtain ⟨p9,k8,p10,k9,p11,k10,p12,k11,rfl,-,-,-,-⟩:=qb1 (h.own 0 rfl)
  replace h:SH _ _ [Ch.own S7 (r4:qR) (qeY r4 p9 p10 p11 p12 k8 k9 k10 k11),Ch.box bb1 [.slice p1 s.code.length k1,.int .i64 i8,.int .i64 i9] 108,Ch.own S6 (r3:List Int) [.slice p8 r3.length k7],Ch.own S5 (x1:List qR) [.slice p7 x1.length k6],Ch.box bb4 (qaj r2 p3 p4 p5 k3 k4 k5) 31,Ch.own S3 (r2:qg) (qaj r2 p3 p4 p5 k3 k4 k5),Ch.box bb3 [.slice p2 r1.Ai.length k2] 26,Ch.own S2 (r1:qq) [.slice p2 r1.Ai.length k2],Ch.box bb2 [.slice none 0 0,.slice none 0 0,.slice none 0 0,.slice none 0 0,.slice none 0 0] 34,Ch.grp (old w0) (FS F) [fct (s:Tl01Source) [.slice p1 s.code.length k1,.int .i64 s.at_,.int .i64 s.seed],same w0 w F]]:=h
  refine qbz qb [.tmp 31] _ ([r4]:List qR) [1,2,3,4,5,6,7,8,9] h rfl rfl rfl rfl rfl rfl rfl rfl rfl (qb7 (qE 0 h rfl) qc6 rfl) rfl rfl fun w12 p13 S8 h=>?_
  obtain ⟨x2,hx1,hF⟩:=qe hF
  obtain ⟨g1,hx1⟩:=qk hx1
  replace h:=h.pick [0,3,1,2,4,5,6,7,8,9] rfl
  refine qjg qb h rfl rfl rfl rfl rfl rfl rfl rfl rfl g1 hx1 rfl fun w13 p14 k12 S9 h=>X0 8 rfl ?_
  replace h:=h.pick [0,3,4,1,5,6,7,8] rfl
  exact rK ⟨_,_,_,_,_,_,_,_,hF,rfl,h⟩ rfl
 refine qA rfl ?_
 obtain rfl:=qd hF;replace hF:=hK1
 refine X2 5 4 1 h rfl (r_v (qai qb [0,1,2] [.tmp 34,.tmp 35,.tmp 36] rfl rfl rfl rfl rfl rfl rfl rfl) rfl (zs 6 h rfl fun w14 h=>qaW ?_))
 have hk1:=h
 obtain ⟨S10,h⟩:=h.gather [1,3,4,6,7] (qoq (⟨r1,r2,x1⟩:qc) h (qE 5 h rfl) (qE 2 h rfl) (qE 0 h rfl) (by rfl) (by rfl)) rfl
 obtain rfl:=qd hF
 replace h:=h.pick [0,2,5] rfl
 replace h:SH _ _ [Ch.own S10 ((⟨r1,r2,x1⟩:qc):qc) [.slice p2 r1.Ai.length k2,.slice p3 r2.Ab.length k3,.slice p4 r2.Aj.length k4,.slice p5 r2.Af.length k5,.slice p7 x1.length k6],Ch.box bb1 [.slice p1 s.code.length k1,.int .i64 i5,.int .i64 i6] 108,Ch.grp (old w0) (FS F) [fct (s:Tl01Source) [.slice p1 s.code.length k1,.int .i64 s.at_,.int .i64 s.seed],same w0 w F]]:=h
 exact qbp qb [GoT.v qc [.slice p2 r1.Ai.length k2,.slice p3 r2.Ab.length k3,.slice p4 r2.Aj.length k4,.slice p5 r2.Af.length k5,.slice p7 x1.length k6]] ⟨⟨_,_,_,rfl,rfl,hk1.box 6 rfl,rfl⟩,trivial⟩ ⟨_,_,rfl,SH.unframe 1 (L0:=[Ch.box bb1 (qh s p1 k1) 108]) h0 [Ch.own S10 ((⟨r1,r2,x1⟩:qc):qc) [.slice p2 r1.Ai.length k2,.slice p3 r2.Ab.length k3,.slice p4 r2.Aj.length k4,.slice p5 r2.Af.length k5,.slice p7 x1.length k6],Ch.box bb1 [.slice p1 s.code.length k1,.int .i64 i5,.int .i64 i6] 108] h rfl⟩
def qfI (n:Nat) (a_0:Tl01Source):Option (qc × Int × Int) :=
 (ql n (⟨a_0.code,a_0.at_,a_0.seed⟩:Tl01Source) 3).bind fun o=>match o with
  | (i1,i2,i3) =>
   (qgj n (⟨a_0.code,i2,i3⟩:Tl01Source) 6 (i1==0)).bind fun o=>match o with
    | (r1,i4,i5) =>
     (ql n (⟨a_0.code,i4,i5⟩:Tl01Source) (r1.Ah.length:Int)).bind fun o=>match o with
      | (i6,i7,i8) =>
       (ql n (⟨a_0.code,i7,i8⟩:Tl01Source) 20).bind fun o=>match o with
        | (i9,i10,i11) =>
         bif (i9==0) then
          (subS r1.Ah 1 (r1.Ah.length:Int)).bind fun x1 =>
          some ((⟨(⟨r1.Ac.Ai⟩:qq),(⟨r1.Aa.Ab,r1.Aa.Aj,r1.Aa.Af⟩:qg),x1⟩:qc),i10,i11)
         else
          bif (i9==1) then
           (idx r1.Ah i6).bind fun y1 =>
           (qeE n y1.Av).bind fun r2 =>
           (appS r2 ([0]:List Int)).bind fun x2 =>
           some ((⟨r1.Ac,r1.Aa,(setS r1.Ah i6 (⟨y1.Ak,y1.Be,y1.Bd,x2⟩:qR))⟩:qc),i10,i11)
          else
           bif (i9==2) then
            (idx r1.Ah i6).bind fun y2 =>
            (idx y2.Be 0).bind fun _ =>
            some ((⟨r1.Ac,r1.Aa,(setS r1.Ah i6 (⟨y2.Ak,(setS y2.Be 0 1),y2.Bd,y2.Av⟩:qR))⟩:qc),i10,i11)
           else
            bif (i9==3) then
             (idx r1.Ah i6).bind fun y4 =>
             (ql n (⟨a_0.code,i10,i11⟩:Tl01Source) 3).bind fun o=>match o with
              | (i12,i13,i14) =>
               (idx ([(-1),500,501]:List Int) i12).bind fun y5 =>
               (idx y4.Bd 0).bind fun _ =>
               some ((⟨r1.Ac,r1.Aa,(setS r1.Ah i6 (⟨y4.Ak,y4.Be,(setS y4.Bd 0 y5),y4.Av⟩:qR))⟩:qc),i13,i14)
            else
             bif (i9==4) then
              (idx r1.Ah i6).bind fun y7 =>
              (ql n (⟨a_0.code,i10,i11⟩:Tl01Source) 5).bind fun o=>match o with
               | (i15,i16,i17) =>
                (idx y7.Ak (W64 ((y7.Ak.length:Int)-1))).bind fun _ =>
                some ((⟨r1.Ac,r1.Aa,(setS r1.Ah i6 (⟨(setS y7.Ak (W64 ((y7.Ak.length:Int)-1)) (W64 (i15-1))),y7.Be,y7.Bd,y7.Av⟩:qR))⟩:qc),i16,i17)
             else
              bif (i9==5) then
               (idx r1.Aa.Af 0).bind fun y9 =>
               some ((⟨r1.Ac,(⟨r1.Aa.Ab,r1.Aa.Aj,(setS r1.Aa.Af 0 ({ y9 with Bn:=3 }))⟩:qg),r1.Ah⟩:qc),i10,i11)
              else
               some (r1,i10,i11)
theorem qjv {n:Nat} {w0 w:World} {F:List Ch} {a_0:Tl01Source} {bb1:Nat} {p1:Option Addr} {k1:Nat} (h0:SH w0 w (Ch.box bb1 (qh a_0 p1 k1) 108::F)) (ha1:GoT.R w (Fr w0 F) a_0 [.slice p1 a_0.code.length k1,.int .i64 a_0.at_,.int .i64 a_0.seed]) {r:(qc × Int × Int)} (hF:qfI n a_0=some r):RetW Tryz.prog 67 [.pointer (some ⟨bb1,0,none⟩)] w (fun us w'=>∃ (S1:Nat→Prop) (cs1:List Value),us=[GoT.v qc cs1]∧SH w0 w' (Ch.grp (fun _=>False) S1 [fct (r.1:qc) cs1]::Ch.box bb1 [.slice p1 a_0.code.length k1,.int .i64 r.2.1,.int .i64 r.2.2] 108::F)):=by
 have h:=SH.frame [Ch.box bb1 (qh a_0 p1 k1) 108] h0
 replace h:=h.grpAdd 1 rfl ha1
 replace h:SH _ _ [Ch.box bb1 (qh a_0 p1 k1) 108,Ch.grp (old w0) (FS F) [fct (a_0:Tl01Source) [.slice p1 a_0.code.length k1,.int .i64 a_0.at_,.int .i64 a_0.seed],same w0 w F]]:=h
 refine qbi Tryz.func67 rfl (m:=90) rfl rfl (zSR (qx qb h rfl rfl rfl fun w1 bb2 h=>X0 5 rfl ?_))
 replace h:=h.pick [1,0,2] rfl
 obtain ⟨o1,hr1,hF⟩:=qe hF
 obtain ⟨i1,i2,i3⟩:=o1
 refine qz (cB 32 rfl) (qi (a_0:=(⟨a_0.code,a_0.at_,a_0.seed⟩:Tl01Source)) (a_1:=3) h ⟨[.slice p1 a_0.code.length k1],[.int .i64 a_0.at_,.int .i64 a_0.seed],rfl,⟨_,_,rfl,(qf (h.frG 2 0 1 rfl rfl rfl)).1⟩,⟨[.int .i64 a_0.at_],[.int .i64 a_0.seed],rfl,rfl,rfl⟩⟩ hr1) rfl rfl rfl rfl ?_
 rintro w2 us1 ⟨rfl,h⟩
 replace h:SH _ _ [Ch.box bb1 [.slice p1 a_0.code.length k1,.int .i64 i2,.int .i64 i3] 108,Ch.box bb2 [.slice none 0 0,.slice none 0 0,.slice none 0 0,.slice none 0 0,.slice none 0 0] 34,Ch.grp (old w0) (FS F) [fct (a_0:Tl01Source) [.slice p1 a_0.code.length k1,.int .i64 a_0.at_,.int .i64 a_0.seed],same w0 w F]]:=h
 refine zp1 rfl ?_
 obtain ⟨o2,hr2,hF⟩:=qe hF
 obtain ⟨r1,i4,i5⟩:=o2
 refine qz (cB 68 rfl) (qh9 (s:=(⟨a_0.code,i2,i3⟩:Tl01Source)) (most:=6) (wild:=(i1==0)) h ⟨[.slice p1 a_0.code.length k1],[.int .i64 i2,.int .i64 i3],rfl,⟨_,_,rfl,(qf (h.frG 2 0 1 rfl rfl rfl)).1⟩,⟨[.int .i64 i2],[.int .i64 i3],rfl,rfl,rfl⟩⟩ hr2) rfl rfl rfl rfl ?_
 rintro w3 us2 ⟨S2,cs2,rfl,h⟩
 obtain ⟨p2,k2,p3,k3,p4,k4,p5,k5,p6,k6,rfl,-,-,-,-,-⟩:=qJ (h.own 0 rfl)
 replace h:SH _ _ [Ch.own S2 (r1:qc) (qp r1 p2 p3 p4 p5 p6 k2 k3 k4 k5 k6),Ch.box bb1 [.slice p1 a_0.code.length k1,.int .i64 i4,.int .i64 i5] 108,Ch.box bb2 [.slice none 0 0,.slice none 0 0,.slice none 0 0,.slice none 0 0,.slice none 0 0] 34,Ch.grp (old w0) (FS F) [fct (a_0:Tl01Source) [.slice p1 a_0.code.length k1,.int .i64 a_0.at_,.int .i64 a_0.seed],same w0 w F]]:=h
 refine qx qb h rfl rfl rfl fun w4 bb3 h=>zs 0 h rfl fun w5 h=>X1 7 0 h rfl ?_
 replace h:=h.pick [2,0,1,3,4] rfl
 obtain ⟨o3,hr3,hF⟩:=qe hF
 obtain ⟨i6,i7,i8⟩:=o3
 refine qz (cB 32 rfl) (qi (a_0:=(⟨a_0.code,i4,i5⟩:Tl01Source)) (a_1:=(r1.Ah.length:Int)) h ⟨[.slice p1 a_0.code.length k1],[.int .i64 i4,.int .i64 i5],rfl,⟨_,_,rfl,(qf (h.frG 4 0 1 rfl rfl rfl)).1⟩,⟨[.int .i64 i4],[.int .i64 i5],rfl,rfl,rfl⟩⟩ hr3) rfl rfl rfl rfl ?_
 rintro w6 us3 ⟨rfl,h⟩
 replace h:SH _ _ [Ch.box bb1 [.slice p1 a_0.code.length k1,.int .i64 i7,.int .i64 i8] 108,Ch.box bb3 (qp r1 p2 p3 p4 p5 p6 k2 k3 k4 k5 k6) 34,Ch.own S2 (r1:qc) (qp r1 p2 p3 p4 p5 p6 k2 k3 k4 k5 k6),Ch.box bb2 [.slice none 0 0,.slice none 0 0,.slice none 0 0,.slice none 0 0,.slice none 0 0] 34,Ch.grp (old w0) (FS F) [fct (a_0:Tl01Source) [.slice p1 a_0.code.length k1,.int .i64 a_0.at_,.int .i64 a_0.seed],same w0 w F]]:=h
 refine X0 6 rfl ?_
 obtain ⟨o4,hr4,hF⟩:=qe hF
 obtain ⟨i9,i10,i11⟩:=o4
 refine qz (cB 32 rfl) (qi (a_0:=(⟨a_0.code,i7,i8⟩:Tl01Source)) (a_1:=20) h ⟨[.slice p1 a_0.code.length k1],[.int .i64 i7,.int .i64 i8],rfl,⟨_,_,rfl,(qf (h.frG 4 0 1 rfl rfl rfl)).1⟩,⟨[.int .i64 i7],[.int .i64 i8],rfl,rfl,rfl⟩⟩ hr4) rfl rfl rfl rfl ?_
 rintro w7 us4 ⟨rfl,h⟩
 replace h:SH _ _ [Ch.box bb1 [.slice p1 a_0.code.length k1,.int .i64 i10,.int .i64 i11] 108,Ch.box bb3 (qp r1 p2 p3 p4 p5 p6 k2 k3 k4 k5 k6) 34,Ch.own S2 (r1:qc) (qp r1 p2 p3 p4 p5 p6 k2 k3 k4 k5 k6),Ch.box bb2 [.slice none 0 0,.slice none 0 0,.slice none 0 0,.slice none 0 0,.slice none 0 0] 34,Ch.grp (old w0) (FS F) [fct (a_0:Tl01Source) [.slice p1 a_0.code.length k1,.int .i64 a_0.at_,.int .i64 a_0.seed],same w0 w F]]:=h
 refine X0 7 rfl (qm rfl hF ?_ ?_)<;>intro hF
 ·refine X1 3 1 h rfl ?_
  obtain ⟨x1,hx1,hF⟩:=qe hF
  obtain ⟨p7,k7,hp1,hk1,hl1,g1⟩:=qkI (qfU (h.own 2 rfl)).2.2.2.2.1 hx1
  refine r_v (qh0 qb rfl rfl rfl (qkk g1 (qfU (h.own 2 rfl)).2.2.2.2.2) hp1 hk1 hl1 rfl rfl rfl rfl) rfl (zp1 rfl (zs 1 h rfl fun w8 h=>X1 5 1 h rfl (zs 3 h rfl fun w9 h=>qaW ?_)))
  have hk2:=h
  replace h:=h.frzI 2 rfl
  replace h:=h.grpAdd 2 rfl (x:=((⟨(⟨r1.Ac.Ai⟩:qq),(⟨r1.Aa.Ab,r1.Aa.Aj,r1.Aa.Af⟩:qg),x1⟩:qc):qc)) (⟨[.slice p2 r1.Ac.Ai.length k2],[.slice p3 r1.Aa.Ab.length k3,.slice p4 r1.Aa.Aj.length k4,.slice p5 r1.Aa.Af.length k5,.slice p7 x1.length k7],rfl,⟨_,_,rfl,(qfU (h.grpS 2 0 rfl rfl)).1.1⟩,⟨[.slice p3 r1.Aa.Ab.length k3,.slice p4 r1.Aa.Aj.length k4,.slice p5 r1.Aa.Af.length k5],[.slice p7 x1.length k7],rfl,⟨[.slice p3 r1.Aa.Ab.length k3],[.slice p4 r1.Aa.Aj.length k4,.slice p5 r1.Aa.Af.length k5],rfl,⟨_,_,rfl,(qfU (h.grpS 2 0 rfl rfl)).2.1.1⟩,⟨[.slice p4 r1.Aa.Aj.length k4],[.slice p5 r1.Aa.Af.length k5],rfl,⟨_,_,rfl,(qfU (h.grpS 2 0 rfl rfl)).2.2.1.1⟩,⟨_,_,rfl,(qfU (h.grpS 2 0 rfl rfl)).2.2.2.1.1⟩⟩⟩,⟨_,_,rfl,(qkD (qfU (h.grpS 2 0 rfl rfl)).2.2.2.2.1 hx1 hp1 hk1)⟩⟩⟩)
  replace h:=h.grpKeep [0] 2 rfl
  obtain rfl:=qd hF
  replace h:=h.pick [2,0,4] rfl
  replace h:SH _ _ [Ch.grp (fun _=>False) S2 [fct ((⟨(⟨r1.Ac.Ai⟩:qq),(⟨r1.Aa.Ab,r1.Aa.Aj,r1.Aa.Af⟩:qg),x1⟩:qc):qc) [.slice p2 r1.Ac.Ai.length k2,.slice p3 r1.Aa.Ab.length k3,.slice p4 r1.Aa.Aj.length k4,.slice p5 r1.Aa.Af.length k5,.slice p7 x1.length k7]],Ch.box bb1 [.slice p1 a_0.code.length k1,.int .i64 i10,.int .i64 i11] 108,Ch.grp (old w0) (FS F) [fct (a_0:Tl01Source) [.slice p1 a_0.code.length k1,.int .i64 a_0.at_,.int .i64 a_0.seed],same w0 w F]]:=h
  exact qbp qb [GoT.v qc [.slice p2 r1.Ac.Ai.length k2,.slice p3 r1.Aa.Ab.length k3,.slice p4 r1.Aa.Aj.length k4,.slice p5 r1.Aa.Af.length k5,.slice p7 x1.length k7]] ⟨⟨_,_,_,rfl,rfl,hk2.box 3 rfl,rfl⟩,trivial⟩ ⟨_,_,rfl,SH.unframe 1 (L0:=[Ch.box bb1 (qh a_0 p1 k1) 108]) h0 [Ch.grp (fun _=>False) S2 [fct ((⟨(⟨r1.Ac.Ai⟩:qq),(⟨r1.Aa.Ab,r1.Aa.Aj,r1.Aa.Af⟩:qg),x1⟩:qc):qc) [.slice p2 r1.Ac.Ai.length k2,.slice p3 r1.Aa.Ab.length k3,.slice p4 r1.Aa.Aj.length k4,.slice p5 r1.Aa.Af.length k5,.slice p7 x1.length k7]],Ch.box bb1 [.slice p1 a_0.code.length k1,.int .i64 i10,.int .i64 i11] 108] h rfl⟩
 refine X0 5 rfl (qm rfl hF ?_ ?_)<;>intro hF
 ·replace h:=h.pick [2,0,1,3,4] rfl
  obtain ⟨S3,S4,S5,h⟩:=qfF h
  obtain ⟨y1,hy1,hF⟩:=qe hF
  have he1:=qbd hy1
  obtain ⟨S6,S7,cs3,h⟩:=h.take hy1
  obtain ⟨p8,k8,p9,k9,p10,k10,p11,k11,rfl,-,-,-,-⟩:=qb1 (h.own 0 rfl)
  obtain ⟨S8,S9,S10,S11,h⟩:=qgW h
  refine rA [14] [4,8] h rfl fun w10 h=>M2 63 [0,1,2,3,4,5] 1 1 (h.pick [4,8] rfl) rfl ?_
  obtain ⟨b1,hp2,-,-,hl3⟩:=h.holeAt 4 rfl
  obtain ⟨q1,hq1⟩:∃ q,q=0+(i6).toNat*GoT.k qR:=⟨_,rfl⟩
  refine Ax 6 127 hp2 hq1 ⟨he1.1,qab he1.2.1 hl3⟩ (h.pick [4,8] rfl) rfl (M0 255 [7] (h.pick [4,8] rfl) rfl (Aw 8 511 (fun w' hw=>qe2 qb (qfS hw 0 rfl hp2 hq1) (j:=3) rfl rfl rfl) (h.pick [4,8] rfl) rfl ?_))
  obtain ⟨r2,hr5,hF⟩:=qe hF
  obtain ⟨x2,hx2,hF⟩:=qe hF
  refine qk6 (fun e w'=>∃ (S22:Nat→Prop) (p22:Option Addr) (k19:Nat),e=[(2,.pointer (some ⟨bb2,0,none⟩)),(3,.pointer (some ⟨bb3,0,none⟩))]∧SH w0 w' [Ch.own S22 (x2:List Int) [.slice p22 x2.length k19],Ch.own S10 (y1.Bd:List Int) [.slice p10 y1.Bd.length k10],Ch.own S9 (y1.Be:List Int) [.slice p9 y1.Be.length k9],Ch.own S8 (y1.Ak:List Int) [.slice p8 y1.Ak.length k8],Ch.hole S7 (r1.Ah:List qR) p6 r1.Ah.length k6 (i6).toNat [.slice p8 y1.Ak.length k8,.slice p9 y1.Be.length k9,.slice p10 y1.Bd.length k10,.slice p22 x2.length k19],Ch.own S4 (r1.Aa:qg) (qaj r1.Aa p3 p4 p5 k3 k4 k5),Ch.own S3 (r1.Ac:qq) [.slice p2 r1.Ac.Ai.length k2],Ch.box bb1 [.slice p1 a_0.code.length k1,.int .i64 i10,.int .i64 i11] 108,Ch.box bb3 (qp r1 p2 p3 p4 p5 p6 k2 k3 k4 k5 k6) 34,Ch.box bb2 [.slice none 0 0,.slice none 0 0,.slice none 0 0,.slice none 0 0,.slice none 0 0] 34,Ch.grp (old w0) (FS F) [fct (a_0:Tl01Source) [.slice p1 a_0.code.length k1,.int .i64 a_0.at_,.int .i64 a_0.seed],same w0 w F]]) 0 (bits 15 32767) ?_ ?_
  ·intro K
   refine At 9 10 1023 1535 rfl ?_ ?_
   ·refine qjR r2 h (cB 114 rfl) (qeO (h.own 0 rfl) hr5) rfl rfl rfl rfl fun w20 S19 p19 k17 h=>Ag (h.pick [5,9] rfl) (Ao 10 2047 rfl (qn qb [.const (.int .i64 (0))] _ ([0]:List Int) h rfl rfl rfl rfl rfl rfl rfl rfl rfl ⟨rfl,trivial⟩ rfl fun w21 p20 S20 h=>Ag (h.pick [6,10] rfl) (Ao 11 4095 rfl ?_)))
    obtain ⟨g4,hx2⟩:=qk hx2
    refine qau qb 1 h rfl (h.sl 0 rfl).1 (h.sl 0 rfl).2 rfl rfl rfl rfl rfl rfl rfl rfl rfl g4 hx2 rfl fun w22 p21 k18 S21 h=>Ag (h.pick [6,10] rfl) (Ao 12 8191 rfl ?_)
    obtain ⟨b4,hp5,-,-,hl9⟩:=h.holeAt 6 rfl
    obtain ⟨q4,hq4⟩:∃ q,q=0+(i6).toNat*GoT.k qR:=⟨_,rfl⟩
    refine zx hp5 hq4 ⟨he1.1,qab he1.2.1 hl9⟩ rfl (G0 16383 [13] (h.pick [6,10] rfl) rfl (Ao 14 32767 rfl (qh5 qb 6 3 h rfl hp5 hq4 rfl rfl rfl rfl rfl rfl fun w23 h=>qeB (fun hs=>absurd (hs 14 (by decide)) (by decide)) ?_)))
    replace h:=h.pick [1,3,4,5,6,7,8,9,10,11,12] rfl
    exact qkO [(2,_),(3,_)] ⟨rfl,rfl,trivial⟩ (K _ _ ⟨_,_,_,rfl,h⟩)
   refine qn qb [.const (.int .i64 (0))] _ ([0]:List Int) h rfl rfl rfl rfl rfl rfl rfl rfl rfl ⟨rfl,trivial⟩ rfl fun w20 p19 S19 h=>Ag (h.pick [5,9] rfl) (Ao 9 2047 rfl (qjR r2 h (cB 114 rfl) (qeO (h.own 1 rfl) hr5) rfl rfl rfl rfl fun w21 S20 p20 k17 h=>Ag (h.pick [6,10] rfl) (Ao 11 4095 rfl ?_)))
   obtain ⟨g4,hx2⟩:=qk hx2
   refine qau qb 0 h rfl (h.sl 1 rfl).1 (h.sl 1 rfl).2 rfl rfl rfl rfl rfl rfl rfl rfl rfl g4 hx2 rfl fun w22 p21 k18 S21 h=>Ag (h.pick [6,10] rfl) (Ao 12 8191 rfl ?_)
   obtain ⟨b4,hp5,-,-,hl9⟩:=h.holeAt 6 rfl
   obtain ⟨q4,hq4⟩:∃ q,q=0+(i6).toNat*GoT.k qR:=⟨_,rfl⟩
   refine zx hp5 hq4 ⟨he1.1,qab he1.2.1 hl9⟩ rfl (G0 16383 [13] (h.pick [6,10] rfl) rfl (Ao 14 32767 rfl (qh5 qb 6 3 h rfl hp5 hq4 rfl rfl rfl rfl rfl rfl fun w23 h=>?_)))
   replace h:SH _ _ [Ch.own S21 (x2:List Int) [.slice p21 x2.length k18],Ch.own S19 (([0]:List Int):List Int) [.slice p19 1 1],Ch.own S11 (y1.Av:List Int) [.slice p11 y1.Av.length k11],Ch.own S10 (y1.Bd:List Int) [.slice p10 y1.Bd.length k10],Ch.own S9 (y1.Be:List Int) [.slice p9 y1.Be.length k9],Ch.own S8 (y1.Ak:List Int) [.slice p8 y1.Ak.length k8],Ch.hole S7 (r1.Ah:List qR) p6 r1.Ah.length k6 (i6).toNat [.slice p8 y1.Ak.length k8,.slice p9 y1.Be.length k9,.slice p10 y1.Bd.length k10,.slice p21 x2.length k18],Ch.own S4 (r1.Aa:qg) (qaj r1.Aa p3 p4 p5 k3 k4 k5),Ch.own S3 (r1.Ac:qq) [.slice p2 r1.Ac.Ai.length k2],Ch.box bb1 [.slice p1 a_0.code.length k1,.int .i64 i10,.int .i64 i11] 108,Ch.box bb3 (qp r1 p2 p3 p4 p5 p6 k2 k3 k4 k5 k6) 34,Ch.box bb2 [.slice none 0 0,.slice none 0 0,.slice none 0 0,.slice none 0 0,.slice none 0 0] 34,Ch.grp (old w0) (FS F) [fct (a_0:Tl01Source) [.slice p1 a_0.code.length k1,.int .i64 a_0.at_,.int .i64 a_0.seed],same w0 w F]]:=h
   refine qeB (fun hs=>absurd (hs 14 (by decide)) (by decide)) ?_
   replace h:=h.pick [0,3,4,5,6,7,8,9,10,11,12] rfl
   exact qkO [(2,_),(3,_)] ⟨rfl,rfl,trivial⟩ (K _ _ ⟨_,_,_,rfl,h⟩)
  rintro e2 w24 ⟨S22,p22,k19,rfl,h⟩
  refine Ad (X1 4 8 h rfl (zs 9 h rfl fun w25 h=>qaW ?_))
  have hk3:=h
  obtain ⟨S23,h⟩:=h.gather [4,5,6,7,8,9,10] (qia (⟨y1.Ak,y1.Be,y1.Bd,x2⟩:qR) h (qE 3 h rfl) (qE 2 h rfl) (qE 1 h rfl) (qE 0 h rfl) (by rfl) (by rfl) (by rfl)) rfl
  replace h:=h.put
  obtain ⟨S24,h⟩:=qin (S:=_) h
  replace h:=h.frzI 2 rfl
  replace h:=h.frzI 1 rfl
  replace h:=h.frzI 0 rfl
  replace h:=h.pick [2,1,0,3,4,5,6] rfl
  replace h:=SH.merge h
  replace h:=SH.merge h
  replace h:=h.grpAdd 0 rfl (x:=((⟨r1.Ac,r1.Aa,(setS r1.Ah i6 (⟨y1.Ak,y1.Be,y1.Bd,x2⟩:qR))⟩:qc):qc)) (⟨[.slice p2 r1.Ac.Ai.length k2],[.slice p3 r1.Aa.Ab.length k3,.slice p4 r1.Aa.Aj.length k4,.slice p5 r1.Aa.Af.length k5,.slice p6 r1.Ah.length k6],rfl,⟨_,_,rfl,(qgc (h.grpS 0 0 rfl rfl)).1⟩,⟨[.slice p3 r1.Aa.Ab.length k3,.slice p4 r1.Aa.Aj.length k4,.slice p5 r1.Aa.Af.length k5],[.slice p6 r1.Ah.length k6],rfl,⟨[.slice p3 r1.Aa.Ab.length k3],[.slice p4 r1.Aa.Aj.length k4,.slice p5 r1.Aa.Af.length k5],rfl,⟨_,_,rfl,(qco (h.grpS 0 1 rfl rfl)).1.1⟩,⟨[.slice p4 r1.Aa.Aj.length k4],[.slice p5 r1.Aa.Af.length k5],rfl,⟨_,_,rfl,(qco (h.grpS 0 1 rfl rfl)).2.1.1⟩,⟨_,_,rfl,(qco (h.grpS 0 1 rfl rfl)).2.2.1⟩⟩⟩,(h.grpS 0 2 rfl rfl)⟩⟩)
  replace h:=h.grpKeep [0] 0 rfl
  obtain rfl:=qd hF
  replace h:=h.pick [0,1,4] rfl
  replace h:SH _ _ [Ch.grp (fun _=>False) (fun b=>(fun b=>S3 b∨S4 b) b∨S24 b) [fct ((⟨r1.Ac,r1.Aa,(setS r1.Ah i6 (⟨y1.Ak,y1.Be,y1.Bd,x2⟩:qR))⟩:qc):qc) [.slice p2 r1.Ac.Ai.length k2,.slice p3 r1.Aa.Ab.length k3,.slice p4 r1.Aa.Aj.length k4,.slice p5 r1.Aa.Af.length k5,.slice p6 r1.Ah.length k6]],Ch.box bb1 [.slice p1 a_0.code.length k1,.int .i64 i10,.int .i64 i11] 108,Ch.grp (old w0) (FS F) [fct (a_0:Tl01Source) [.slice p1 a_0.code.length k1,.int .i64 a_0.at_,.int .i64 a_0.seed],same w0 w F]]:=h
  exact qbp qb [GoT.v qc (qp r1 p2 p3 p4 p5 p6 k2 k3 k4 k5 k6)] ⟨⟨_,_,_,rfl,rfl,hk3.box 9 rfl,rfl⟩,trivial⟩ ⟨_,_,rfl,SH.unframe 1 (L0:=[Ch.box bb1 (qh a_0 p1 k1) 108]) h0 [Ch.grp (fun _=>False) (fun b=>(fun b=>S3 b∨S4 b) b∨S24 b) [fct ((⟨r1.Ac,r1.Aa,(setS r1.Ah i6 (⟨y1.Ak,y1.Be,y1.Bd,x2⟩:qR))⟩:qc):qc) [.slice p2 r1.Ac.Ai.length k2,.slice p3 r1.Aa.Ab.length k3,.slice p4 r1.Aa.Aj.length k4,.slice p5 r1.Aa.Af.length k5,.slice p6 r1.Ah.length k6]],Ch.box bb1 [.slice p1 a_0.code.length k1,.int .i64 i10,.int .i64 i11] 108] h rfl⟩
 refine X0 5 rfl (qm rfl hF ?_ ?_)<;>intro hF
 ·refine X1 4 1 h rfl ?_
  replace h:=h.pick [2,0,1,3,4] rfl
  obtain ⟨S25,S26,S27,h⟩:=qfF h
  obtain ⟨y2,hy2,hF⟩:=qe hF
  have he2:=qbd hy2
  obtain ⟨S28,S29,cs4,h⟩:=h.take hy2
  obtain ⟨p23,k20,p24,k21,p25,k22,p26,k23,rfl,-,-,-,-⟩:=qb1 (h.own 0 rfl)
  obtain ⟨S30,S31,S32,S33,h⟩:=qgW h
  obtain ⟨b5,hp6,-,-,hl11⟩:=h.holeAt 4 rfl
  obtain ⟨q5,hq5⟩:∃ q,q=0+(i6).toNat*GoT.k qR:=⟨_,rfl⟩
  refine zx hp6 hq5 ⟨he2.1,qab he2.2.1 hl11⟩ rfl (zp1 rfl (zc 1 (qfS h 4 rfl hp6 hq5) rfl ?_))
  obtain ⟨y3,hy3,hF,he3,b6,_,q6,cs5,hp7,hq6,rfl,hc5⟩:=(h.sl 2 rfl).1.ix hF
  refine zx hp7 hq6 ⟨he3.1,qab he3.2.1 (h.sl 2 rfl).2⟩ rfl (qd8 qb 2 0 1 h rfl hy3 hp7 hq6 rfl hc5 rfl rfl rfl rfl rfl rfl rfl fun w26 h=>X1 5 8 h rfl (zs 9 h rfl fun w27 h=>qaW ?_))
  have hk4:=h
  obtain ⟨S34,h⟩:=h.gather [4,5,6,7,8,9,10] (qia (⟨y2.Ak,(setS y2.Be 0 1),y2.Bd,y2.Av⟩:qR) h (qE 3 h rfl) (qE 2 h rfl) (qE 1 h rfl) (qE 0 h rfl) (by rfl) (by rfl) (by rfl)) rfl
  replace h:=h.put
  obtain ⟨S35,h⟩:=qin (S:=_) h
  replace h:=h.frzI 2 rfl
  replace h:=h.frzI 1 rfl
  replace h:=h.frzI 0 rfl
  replace h:=h.pick [2,1,0,3,4,5,6] rfl
  replace h:=SH.merge h
  replace h:=SH.merge h
  replace h:=h.grpAdd 0 rfl (x:=((⟨r1.Ac,r1.Aa,(setS r1.Ah i6 (⟨y2.Ak,(setS y2.Be 0 1),y2.Bd,y2.Av⟩:qR))⟩:qc):qc)) (⟨[.slice p2 r1.Ac.Ai.length k2],[.slice p3 r1.Aa.Ab.length k3,.slice p4 r1.Aa.Aj.length k4,.slice p5 r1.Aa.Af.length k5,.slice p6 r1.Ah.length k6],rfl,⟨_,_,rfl,(qgc (h.grpS 0 0 rfl rfl)).1⟩,⟨[.slice p3 r1.Aa.Ab.length k3,.slice p4 r1.Aa.Aj.length k4,.slice p5 r1.Aa.Af.length k5],[.slice p6 r1.Ah.length k6],rfl,⟨[.slice p3 r1.Aa.Ab.length k3],[.slice p4 r1.Aa.Aj.length k4,.slice p5 r1.Aa.Af.length k5],rfl,⟨_,_,rfl,(qco (h.grpS 0 1 rfl rfl)).1.1⟩,⟨[.slice p4 r1.Aa.Aj.length k4],[.slice p5 r1.Aa.Af.length k5],rfl,⟨_,_,rfl,(qco (h.grpS 0 1 rfl rfl)).2.1.1⟩,⟨_,_,rfl,(qco (h.grpS 0 1 rfl rfl)).2.2.1⟩⟩⟩,(h.grpS 0 2 rfl rfl)⟩⟩)
  replace h:=h.grpKeep [0] 0 rfl
  obtain rfl:=qd hF
  replace h:=h.pick [0,1,4] rfl
  replace h:SH _ _ [Ch.grp (fun _=>False) (fun b=>(fun b=>S25 b∨S26 b) b∨S35 b) [fct ((⟨r1.Ac,r1.Aa,(setS r1.Ah i6 (⟨y2.Ak,(setS y2.Be 0 1),y2.Bd,y2.Av⟩:qR))⟩:qc):qc) [.slice p2 r1.Ac.Ai.length k2,.slice p3 r1.Aa.Ab.length k3,.slice p4 r1.Aa.Aj.length k4,.slice p5 r1.Aa.Af.length k5,.slice p6 r1.Ah.length k6]],Ch.box bb1 [.slice p1 a_0.code.length k1,.int .i64 i10,.int .i64 i11] 108,Ch.grp (old w0) (FS F) [fct (a_0:Tl01Source) [.slice p1 a_0.code.length k1,.int .i64 a_0.at_,.int .i64 a_0.seed],same w0 w F]]:=h
  exact qbp qb [GoT.v qc (qp r1 p2 p3 p4 p5 p6 k2 k3 k4 k5 k6)] ⟨⟨_,_,_,rfl,rfl,hk4.box 9 rfl,rfl⟩,trivial⟩ ⟨_,_,rfl,SH.unframe 1 (L0:=[Ch.box bb1 (qh a_0 p1 k1) 108]) h0 [Ch.grp (fun _=>False) (fun b=>(fun b=>S25 b∨S26 b) b∨S35 b) [fct ((⟨r1.Ac,r1.Aa,(setS r1.Ah i6 (⟨y2.Ak,(setS y2.Be 0 1),y2.Bd,y2.Av⟩:qR))⟩:qc):qc) [.slice p2 r1.Ac.Ai.length k2,.slice p3 r1.Aa.Ab.length k3,.slice p4 r1.Aa.Aj.length k4,.slice p5 r1.Aa.Af.length k5,.slice p6 r1.Ah.length k6]],Ch.box bb1 [.slice p1 a_0.code.length k1,.int .i64 i10,.int .i64 i11] 108] h rfl⟩
 refine X0 5 rfl (qm rfl hF ?_ ?_)<;>intro hF
 ·replace h:=h.pick [2,0,1,3,4] rfl
  obtain ⟨S36,S37,S38,h⟩:=qfF h
  obtain ⟨y4,hy4,hF⟩:=qe hF
  have he4:=qbd hy4
  obtain ⟨S39,S40,cs6,h⟩:=h.take hy4
  obtain ⟨p27,k24,p28,k25,p29,k26,p30,k27,rfl,-,-,-,-⟩:=qb1 (h.own 0 rfl)
  obtain ⟨S41,S42,S43,S44,h⟩:=qgW h
  refine rA [] [4,8] h rfl fun w28 h=>M1 7 [0,1,2] 1 (h.pick [4,8] rfl) rfl ?_
  obtain ⟨b7,hp8,-,-,hl13⟩:=h.holeAt 4 rfl
  obtain ⟨q7,hq7⟩:∃ q,q=0+(i6).toNat*GoT.k qR:=⟨_,rfl⟩
  refine Ax 3 15 hp8 hq7 ⟨he4.1,qab he4.2.1 hl13⟩ (h.pick [4,8] rfl) rfl (M0 31 [4] (h.pick [4,8] rfl) rfl (Aw 5 63 (fun w' hw=>qe2 qb (qfS hw 0 rfl hp8 hq7) (j:=2) rfl rfl rfl) (h.pick [4,8] rfl) rfl ?_))
  refine M0 191 [7] (h.pick [4,8] rfl) rfl ?_
  obtain ⟨o5,hr9,hF⟩:=qe hF
  obtain ⟨i12,i13,i14⟩:=o5
  obtain ⟨y5,hy5,hF⟩:=qe hF
  obtain ⟨y6,hy6,hF⟩:=qe hF
  refine qk6 (fun e w'=>e=[(2,.pointer (some ⟨bb2,0,none⟩)),(3,.pointer (some ⟨bb3,0,none⟩))]∧SH w0 w' [Ch.box bb1 [.slice p1 a_0.code.length k1,.int .i64 i13,.int .i64 i14] 108,Ch.own S44 (y4.Av:List Int) [.slice p30 y4.Av.length k27],Ch.own S43 ((setS y4.Bd 0 y5):List Int) [.slice p29 y4.Bd.length k26],Ch.own S42 (y4.Be:List Int) [.slice p28 y4.Be.length k25],Ch.own S41 (y4.Ak:List Int) [.slice p27 y4.Ak.length k24],Ch.hole S40 (r1.Ah:List qR) p6 r1.Ah.length k6 (i6).toNat [.slice p27 y4.Ak.length k24,.slice p28 y4.Be.length k25,.slice p29 y4.Bd.length k26,.slice p30 y4.Av.length k27],Ch.own S37 (r1.Aa:qg) (qaj r1.Aa p3 p4 p5 k3 k4 k5),Ch.own S36 (r1.Ac:qq) [.slice p2 r1.Ac.Ai.length k2],Ch.box bb3 (qp r1 p2 p3 p4 p5 p6 k2 k3 k4 k5 k6) 34,Ch.box bb2 [.slice none 0 0,.slice none 0 0,.slice none 0 0,.slice none 0 0,.slice none 0 0] 34,Ch.grp (old w0) (FS F) [fct (a_0:Tl01Source) [.slice p1 a_0.code.length k1,.int .i64 a_0.at_,.int .i64 a_0.seed],same w0 w F]]) 0 (bits 13 8191) ?_ ?_
  ·intro K
   refine At 6 8 255 447 rfl ?_ ?_
   ·refine qn qb [.const (.int .i64 (-1)),.const (.int .i64 (500)),.const (.int .i64 (501))] _ ([(-1),500,501]:List Int) h rfl rfl rfl rfl rfl rfl rfl rfl rfl ⟨rfl,rfl,rfl,trivial⟩ rfl fun w36 p33 S47 h=>Ag (h.pick [5,9] rfl) (Ao 8 511 rfl ?_)
    replace h:=h.pick [8,0,1,2,3,4,5,6,7,9,10,11] rfl
    refine qz (cB 32 rfl) (qi (a_0:=(⟨a_0.code,i10,i11⟩:Tl01Source)) (a_1:=3) h ⟨[.slice p1 a_0.code.length k1],[.int .i64 i10,.int .i64 i11],rfl,⟨_,_,rfl,(qf (h.frG 11 0 1 rfl rfl rfl)).1⟩,⟨[.int .i64 i10],[.int .i64 i11],rfl,rfl,rfl⟩⟩ hr9) rfl rfl rfl rfl ?_
    rintro w37 us7 ⟨rfl,h⟩
    replace h:SH _ _ [Ch.box bb1 [.slice p1 a_0.code.length k1,.int .i64 i13,.int .i64 i14] 108,Ch.own S47 (([(-1),500,501]:List Int):List Int) [.slice p33 3 3],Ch.own S44 (y4.Av:List Int) [.slice p30 y4.Av.length k27],Ch.own S43 (y4.Bd:List Int) [.slice p29 y4.Bd.length k26],Ch.own S42 (y4.Be:List Int) [.slice p28 y4.Be.length k25],Ch.own S41 (y4.Ak:List Int) [.slice p27 y4.Ak.length k24],Ch.hole S40 (r1.Ah:List qR) p6 r1.Ah.length k6 (i6).toNat [.slice p27 y4.Ak.length k24,.slice p28 y4.Be.length k25,.slice p29 y4.Bd.length k26,.slice p30 y4.Av.length k27],Ch.own S37 (r1.Aa:qg) (qaj r1.Aa p3 p4 p5 k3 k4 k5),Ch.own S36 (r1.Ac:qq) [.slice p2 r1.Ac.Ai.length k2],Ch.box bb3 (qp r1 p2 p3 p4 p5 p6 k2 k3 k4 k5 k6) 34,Ch.box bb2 [.slice none 0 0,.slice none 0 0,.slice none 0 0,.slice none 0 0,.slice none 0 0] 34,Ch.grp (old w0) (FS F) [fct (a_0:Tl01Source) [.slice p1 a_0.code.length k1,.int .i64 a_0.at_,.int .i64 a_0.seed],same w0 w F]]:=h
    refine Ag (h.pick [6,9] rfl) ?_
    have he9:=qbd hy5
    obtain ⟨b12,o_7,q12,cs11,hp13,hq12,-,hr14,hc11⟩:=(h.sl 1 rfl).1.at hy5
    obtain rfl:=hr14
    refine Ax 9 1023 hp13 hq12 ⟨he9.1,qab he9.2.1 (h.sl 1 rfl).2⟩ (h.pick [6,9] rfl) rfl (Ao 10 2047 rfl (r_v (qe2 qb (qdP (w1:=w) (S1:=fun _=>False) h 1 rfl hy5 hp13 hq12 rfl) (j:=0) rfl rfl rfl) rfl (Ag (h.pick [6,9] rfl) ?_)))
    have he10:=qbd hy6
    obtain ⟨b13,o_8,q13,cs12,hp14,hq13,-,hr15,hc12⟩:=(h.sl 3 rfl).1.at hy6
    obtain rfl:=hr15
    refine Ax 11 4095 hp14 hq13 ⟨he10.1,qab he10.2.1 (h.sl 3 rfl).2⟩ (h.pick [6,9] rfl) rfl (Ao 12 8191 rfl (qd8 qb 3 0 y5 h rfl hy6 hp14 hq13 rfl hc12 rfl rfl rfl rfl rfl rfl rfl fun w38 h=>Ag (h.pick [6,9] rfl) ?_))
    replace h:=h.pick [0,2,3,4,5,6,7,8,9,10,11] rfl
    exact qkO [(2,_),(3,_)] ⟨rfl,rfl,trivial⟩ (K _ _ ⟨rfl,h⟩)
   replace h:=h.pick [7,0,1,2,3,4,5,6,8,9,10] rfl
   refine qz (cB 32 rfl) (qi (a_0:=(⟨a_0.code,i10,i11⟩:Tl01Source)) (a_1:=3) h ⟨[.slice p1 a_0.code.length k1],[.int .i64 i10,.int .i64 i11],rfl,⟨_,_,rfl,(qf (h.frG 10 0 1 rfl rfl rfl)).1⟩,⟨[.int .i64 i10],[.int .i64 i11],rfl,rfl,rfl⟩⟩ hr9) rfl rfl rfl rfl ?_
   rintro w36 us7 ⟨rfl,h⟩
   replace h:SH _ _ [Ch.box bb1 [.slice p1 a_0.code.length k1,.int .i64 i13,.int .i64 i14] 108,Ch.own S44 (y4.Av:List Int) [.slice p30 y4.Av.length k27],Ch.own S43 (y4.Bd:List Int) [.slice p29 y4.Bd.length k26],Ch.own S42 (y4.Be:List Int) [.slice p28 y4.Be.length k25],Ch.own S41 (y4.Ak:List Int) [.slice p27 y4.Ak.length k24],Ch.hole S40 (r1.Ah:List qR) p6 r1.Ah.length k6 (i6).toNat [.slice p27 y4.Ak.length k24,.slice p28 y4.Be.length k25,.slice p29 y4.Bd.length k26,.slice p30 y4.Av.length k27],Ch.own S37 (r1.Aa:qg) (qaj r1.Aa p3 p4 p5 k3 k4 k5),Ch.own S36 (r1.Ac:qq) [.slice p2 r1.Ac.Ai.length k2],Ch.box bb3 (qp r1 p2 p3 p4 p5 p6 k2 k3 k4 k5 k6) 34,Ch.box bb2 [.slice none 0 0,.slice none 0 0,.slice none 0 0,.slice none 0 0,.slice none 0 0] 34,Ch.grp (old w0) (FS F) [fct (a_0:Tl01Source) [.slice p1 a_0.code.length k1,.int .i64 a_0.at_,.int .i64 a_0.seed],same w0 w F]]:=h
   refine Ag (h.pick [5,8] rfl) (Ao 6 511 rfl (qn qb [.const (.int .i64 (-1)),.const (.int .i64 (500)),.const (.int .i64 (501))] _ ([(-1),500,501]:List Int) h rfl rfl rfl rfl rfl rfl rfl rfl rfl ⟨rfl,rfl,rfl,trivial⟩ rfl fun w37 p33 S47 h=>Ag (h.pick [6,9] rfl) ?_))
   have he9:=qbd hy5
   obtain ⟨b12,o_7,q12,cs11,hp13,hq12,-,hr14,hc11⟩:=(h.sl 0 rfl).1.at hy5
   obtain rfl:=hr14
   refine Ax 9 1023 hp13 hq12 ⟨he9.1,qab he9.2.1 (h.sl 0 rfl).2⟩ (h.pick [6,9] rfl) rfl (Ao 10 2047 rfl (r_v (qe2 qb (qdP (w1:=w) (S1:=fun _=>False) h 0 rfl hy5 hp13 hq12 rfl) (j:=0) rfl rfl rfl) rfl (Ag (h.pick [6,9] rfl) ?_)))
   have he10:=qbd hy6
   obtain ⟨b13,o_8,q13,cs12,hp14,hq13,-,hr15,hc12⟩:=(h.sl 3 rfl).1.at hy6
   obtain rfl:=hr15
   refine Ax 11 4095 hp14 hq13 ⟨he10.1,qab he10.2.1 (h.sl 3 rfl).2⟩ (h.pick [6,9] rfl) rfl (Ao 12 8191 rfl (qd8 qb 3 0 y5 h rfl hy6 hp14 hq13 rfl hc12 rfl rfl rfl rfl rfl rfl rfl fun w38 h=>Ag (h.pick [6,9] rfl) ?_))
   replace h:=h.pick [1,2,3,4,5,6,7,8,9,10,11] rfl
   exact qkO [(2,_),(3,_)] ⟨rfl,rfl,trivial⟩ (K _ _ ⟨rfl,h⟩)
  rintro e4 w39 ⟨rfl,h⟩
  refine Ad (X1 4 8 h rfl (zs 9 h rfl fun w40 h=>qaW ?_))
  have hk5:=h
  obtain ⟨S48,h⟩:=h.gather [0,5,6,7,8,9,10] (qia (⟨y4.Ak,y4.Be,(setS y4.Bd 0 y5),y4.Av⟩:qR) h (qE 4 h rfl) (qE 3 h rfl) (qE 2 h rfl) (qE 1 h rfl) (by rfl) (by rfl) (by rfl)) rfl
  replace h:=h.pick [0,2,1,3,4,5,6,7] rfl
  replace h:=h.put
  obtain ⟨S49,h⟩:=qin (S:=_) h
  replace h:=h.frzI 3 rfl
  replace h:=h.frzI 2 rfl
  replace h:=h.frzI 0 rfl
  replace h:=h.pick [3,2,0,1,4,5,6] rfl
  replace h:=SH.merge h
  replace h:=SH.merge h
  replace h:=h.grpAdd 0 rfl (x:=((⟨r1.Ac,r1.Aa,(setS r1.Ah i6 (⟨y4.Ak,y4.Be,(setS y4.Bd 0 y5),y4.Av⟩:qR))⟩:qc):qc)) (⟨[.slice p2 r1.Ac.Ai.length k2],[.slice p3 r1.Aa.Ab.length k3,.slice p4 r1.Aa.Aj.length k4,.slice p5 r1.Aa.Af.length k5,.slice p6 r1.Ah.length k6],rfl,⟨_,_,rfl,(qgc (h.grpS 0 0 rfl rfl)).1⟩,⟨[.slice p3 r1.Aa.Ab.length k3,.slice p4 r1.Aa.Aj.length k4,.slice p5 r1.Aa.Af.length k5],[.slice p6 r1.Ah.length k6],rfl,⟨[.slice p3 r1.Aa.Ab.length k3],[.slice p4 r1.Aa.Aj.length k4,.slice p5 r1.Aa.Af.length k5],rfl,⟨_,_,rfl,(qco (h.grpS 0 1 rfl rfl)).1.1⟩,⟨[.slice p4 r1.Aa.Aj.length k4],[.slice p5 r1.Aa.Af.length k5],rfl,⟨_,_,rfl,(qco (h.grpS 0 1 rfl rfl)).2.1.1⟩,⟨_,_,rfl,(qco (h.grpS 0 1 rfl rfl)).2.2.1⟩⟩⟩,(h.grpS 0 2 rfl rfl)⟩⟩)
  replace h:=h.grpKeep [0] 0 rfl
  obtain rfl:=qd hF
  replace h:=h.pick [0,1,4] rfl
  replace h:SH _ _ [Ch.grp (fun _=>False) (fun b=>(fun b=>S36 b∨S37 b) b∨S49 b) [fct ((⟨r1.Ac,r1.Aa,(setS r1.Ah i6 (⟨y4.Ak,y4.Be,(setS y4.Bd 0 y5),y4.Av⟩:qR))⟩:qc):qc) [.slice p2 r1.Ac.Ai.length k2,.slice p3 r1.Aa.Ab.length k3,.slice p4 r1.Aa.Aj.length k4,.slice p5 r1.Aa.Af.length k5,.slice p6 r1.Ah.length k6]],Ch.box bb1 [.slice p1 a_0.code.length k1,.int .i64 i13,.int .i64 i14] 108,Ch.grp (old w0) (FS F) [fct (a_0:Tl01Source) [.slice p1 a_0.code.length k1,.int .i64 a_0.at_,.int .i64 a_0.seed],same w0 w F]]:=h
  exact qbp qb [GoT.v qc (qp r1 p2 p3 p4 p5 p6 k2 k3 k4 k5 k6)] ⟨⟨_,_,_,rfl,rfl,hk5.box 9 rfl,rfl⟩,trivial⟩ ⟨_,_,rfl,SH.unframe 1 (L0:=[Ch.box bb1 (qh a_0 p1 k1) 108]) h0 [Ch.grp (fun _=>False) (fun b=>(fun b=>S36 b∨S37 b) b∨S49 b) [fct ((⟨r1.Ac,r1.Aa,(setS r1.Ah i6 (⟨y4.Ak,y4.Be,(setS y4.Bd 0 y5),y4.Av⟩:qR))⟩:qc):qc) [.slice p2 r1.Ac.Ai.length k2,.slice p3 r1.Aa.Ab.length k3,.slice p4 r1.Aa.Aj.length k4,.slice p5 r1.Aa.Af.length k5,.slice p6 r1.Ah.length k6]],Ch.box bb1 [.slice p1 a_0.code.length k1,.int .i64 i13,.int .i64 i14] 108] h rfl⟩
 refine X0 5 rfl (qm rfl hF ?_ ?_)<;>intro hF
 ·replace h:=h.pick [2,0,1,3,4] rfl
  obtain ⟨S50,S51,S52,h⟩:=qfF h
  obtain ⟨y7,hy7,hF⟩:=qe hF
  have he11:=qbd hy7
  obtain ⟨S53,S54,cs13,h⟩:=h.take hy7
  obtain ⟨p34,k28,p35,k29,p36,k30,p37,k31,rfl,-,-,-,-⟩:=qb1 (h.own 0 rfl)
  obtain ⟨S55,S56,S57,S58,h⟩:=qgW h
  refine rA [] [4,8] h rfl fun w41 h=>M1 7 [0,1,2] 1 (h.pick [4,8] rfl) rfl ?_
  obtain ⟨b14,hp15,-,-,hl15⟩:=h.holeAt 4 rfl
  obtain ⟨q14,hq14⟩:∃ q,q=0+(i6).toNat*GoT.k qR:=⟨_,rfl⟩
  refine Ax 3 15 hp15 hq14 ⟨he11.1,qab he11.2.1 hl15⟩ (h.pick [4,8] rfl) rfl (M0 31 [4] (h.pick [4,8] rfl) rfl (Aw 5 63 (fun w' hw=>qe2 qb (qfS hw 0 rfl hp15 hq14) (j:=0) rfl rfl rfl) (h.pick [4,8] rfl) rfl ?_))
  refine M1 511 [6,7,8] 1 (h.pick [4,8] rfl) rfl ?_
  obtain ⟨b15,hp16,-,-,hl17⟩:=h.holeAt 4 rfl
  obtain ⟨q15,hq15⟩:∃ q,q=0+(i6).toNat*GoT.k qR:=⟨_,rfl⟩
  refine Ax 9 1023 hp16 hq15 ⟨he11.1,qab he11.2.1 hl17⟩ (h.pick [4,8] rfl) rfl (M0 2047 [10] (h.pick [4,8] rfl) rfl (Aw 11 4095 (fun w' hw=>qe2 qb (qfS hw 0 rfl hp16 hq15) (j:=0) rfl rfl rfl) (h.pick [4,8] rfl) rfl ?_))
  refine M0 32767 [12,13,14] (h.pick [4,8] rfl) rfl (Ao 15 65535 rfl ?_)
  replace h:=h.pick [7,0,1,2,3,4,5,6,8,9,10] rfl
  obtain ⟨o6,hr16,hF⟩:=qe hF
  obtain ⟨i15,i16,i17⟩:=o6
  refine qz (cB 32 rfl) (qi (a_0:=(⟨a_0.code,i10,i11⟩:Tl01Source)) (a_1:=5) h ⟨[.slice p1 a_0.code.length k1],[.int .i64 i10,.int .i64 i11],rfl,⟨_,_,rfl,(qf (h.frG 10 0 1 rfl rfl rfl)).1⟩,⟨[.int .i64 i10],[.int .i64 i11],rfl,rfl,rfl⟩⟩ hr16) rfl rfl rfl rfl ?_
  rintro w42 us8 ⟨rfl,h⟩
  replace h:SH _ _ [Ch.box bb1 [.slice p1 a_0.code.length k1,.int .i64 i16,.int .i64 i17] 108,Ch.own S58 (y7.Av:List Int) [.slice p37 y7.Av.length k31],Ch.own S57 (y7.Bd:List Int) [.slice p36 y7.Bd.length k30],Ch.own S56 (y7.Be:List Int) [.slice p35 y7.Be.length k29],Ch.own S55 (y7.Ak:List Int) [.slice p34 y7.Ak.length k28],Ch.hole S54 (r1.Ah:List qR) p6 r1.Ah.length k6 (i6).toNat [.slice p34 y7.Ak.length k28,.slice p35 y7.Be.length k29,.slice p36 y7.Bd.length k30,.slice p37 y7.Av.length k31],Ch.own S51 (r1.Aa:qg) (qaj r1.Aa p3 p4 p5 k3 k4 k5),Ch.own S50 (r1.Ac:qq) [.slice p2 r1.Ac.Ai.length k2],Ch.box bb3 (qp r1 p2 p3 p4 p5 p6 k2 k3 k4 k5 k6) 34,Ch.box bb2 [.slice none 0 0,.slice none 0 0,.slice none 0 0,.slice none 0 0,.slice none 0 0] 34,Ch.grp (old w0) (FS F) [fct (a_0:Tl01Source) [.slice p1 a_0.code.length k1,.int .i64 a_0.at_,.int .i64 a_0.seed],same w0 w F]]:=h
  refine G0 131071 [16] (h.pick [5,8] rfl) rfl ?_
  obtain ⟨y8,hy8,hF,he12,b16,_,q16,cs14,hp17,hq16,rfl,hc14⟩:=(h.sl 4 rfl).1.ix hF
  refine Ax 17 262143 hp17 hq16 ⟨he12.1,qab he12.2.1 (h.sl 4 rfl).2⟩ (h.pick [5,8] rfl) rfl (Ao 18 524287 rfl (qd8 qb 4 0 (W64 (i15-1)) h rfl hy8 hp17 hq16 rfl hc14 rfl rfl rfl rfl rfl rfl rfl fun w43 h=>Ag (h.pick [5,8] rfl) (Ad (X1 4 8 h rfl (zs 9 h rfl fun w44 h=>qaW ?_)))))
  have hk6:=h
  obtain ⟨S59,h⟩:=h.gather [0,5,6,7,8,9,10] (qia (⟨(setS y7.Ak (W64 ((y7.Ak.length:Int)-1)) (W64 (i15-1))),y7.Be,y7.Bd,y7.Av⟩:qR) h (qE 4 h rfl) (qE 3 h rfl) (qE 2 h rfl) (qE 1 h rfl) (by rfl) (by rfl) (by rfl)) rfl
  replace h:=h.pick [0,2,1,3,4,5,6,7] rfl
  replace h:=h.put
  obtain ⟨S60,h⟩:=qin (S:=_) h
  replace h:=h.frzI 3 rfl
  replace h:=h.frzI 2 rfl
  replace h:=h.frzI 0 rfl
  replace h:=h.pick [3,2,0,1,4,5,6] rfl
  replace h:=SH.merge h
  replace h:=SH.merge h
  replace h:=h.grpAdd 0 rfl (x:=((⟨r1.Ac,r1.Aa,(setS r1.Ah i6 (⟨(setS y7.Ak (W64 ((y7.Ak.length:Int)-1)) (W64 (i15-1))),y7.Be,y7.Bd,y7.Av⟩:qR))⟩:qc):qc)) (⟨[.slice p2 r1.Ac.Ai.length k2],[.slice p3 r1.Aa.Ab.length k3,.slice p4 r1.Aa.Aj.length k4,.slice p5 r1.Aa.Af.length k5,.slice p6 r1.Ah.length k6],rfl,⟨_,_,rfl,(qgc (h.grpS 0 0 rfl rfl)).1⟩,⟨[.slice p3 r1.Aa.Ab.length k3,.slice p4 r1.Aa.Aj.length k4,.slice p5 r1.Aa.Af.length k5],[.slice p6 r1.Ah.length k6],rfl,⟨[.slice p3 r1.Aa.Ab.length k3],[.slice p4 r1.Aa.Aj.length k4,.slice p5 r1.Aa.Af.length k5],rfl,⟨_,_,rfl,(qco (h.grpS 0 1 rfl rfl)).1.1⟩,⟨[.slice p4 r1.Aa.Aj.length k4],[.slice p5 r1.Aa.Af.length k5],rfl,⟨_,_,rfl,(qco (h.grpS 0 1 rfl rfl)).2.1.1⟩,⟨_,_,rfl,(qco (h.grpS 0 1 rfl rfl)).2.2.1⟩⟩⟩,(h.grpS 0 2 rfl rfl)⟩⟩)
  replace h:=h.grpKeep [0] 0 rfl
  obtain rfl:=qd hF
  replace h:=h.pick [0,1,4] rfl
  replace h:SH _ _ [Ch.grp (fun _=>False) (fun b=>(fun b=>S50 b∨S51 b) b∨S60 b) [fct ((⟨r1.Ac,r1.Aa,(setS r1.Ah i6 (⟨(setS y7.Ak (W64 ((y7.Ak.length:Int)-1)) (W64 (i15-1))),y7.Be,y7.Bd,y7.Av⟩:qR))⟩:qc):qc) [.slice p2 r1.Ac.Ai.length k2,.slice p3 r1.Aa.Ab.length k3,.slice p4 r1.Aa.Aj.length k4,.slice p5 r1.Aa.Af.length k5,.slice p6 r1.Ah.length k6]],Ch.box bb1 [.slice p1 a_0.code.length k1,.int .i64 i16,.int .i64 i17] 108,Ch.grp (old w0) (FS F) [fct (a_0:Tl01Source) [.slice p1 a_0.code.length k1,.int .i64 a_0.at_,.int .i64 a_0.seed],same w0 w F]]:=h
  exact qbp qb [GoT.v qc (qp r1 p2 p3 p4 p5 p6 k2 k3 k4 k5 k6)] ⟨⟨_,_,_,rfl,rfl,hk6.box 9 rfl,rfl⟩,trivial⟩ ⟨_,_,rfl,SH.unframe 1 (L0:=[Ch.box bb1 (qh a_0 p1 k1) 108]) h0 [Ch.grp (fun _=>False) (fun b=>(fun b=>S50 b∨S51 b) b∨S60 b) [fct ((⟨r1.Ac,r1.Aa,(setS r1.Ah i6 (⟨(setS y7.Ak (W64 ((y7.Ak.length:Int)-1)) (W64 (i15-1))),y7.Be,y7.Bd,y7.Av⟩:qR))⟩:qc):qc) [.slice p2 r1.Ac.Ai.length k2,.slice p3 r1.Aa.Ab.length k3,.slice p4 r1.Aa.Aj.length k4,.slice p5 r1.Aa.Af.length k5,.slice p6 r1.Ah.length k6]],Ch.box bb1 [.slice p1 a_0.code.length k1,.int .i64 i16,.int .i64 i17] 108] h rfl⟩
 refine X0 5 rfl (qm rfl hF ?_ ?_)<;>intro hF
 ·refine X1 4 1 h rfl ?_
  replace h:=h.pick [2,0,1,3,4] rfl
  obtain ⟨S61,S62,S63,h⟩:=qfF h
  replace h:=h.pick [1,0,2,3,4,5,6] rfl
  obtain ⟨S64,S65,S66,h⟩:=qlM h
  obtain ⟨y9,hy9,hF,he13,b17,_,q17,cs15,hp18,hq17,hr18,hc16⟩:=(h.sl 0 rfl).1.ix hF
  obtain rfl:=qc0 hr18
  refine zx hp18 hq17 ⟨he13.1,qab he13.2.1 (h.sl 0 rfl).2⟩ rfl (zp1 rfl (qd8 qb 0 1 ({ y9 with Bn:=3 }:qC) h rfl hy9 hp18 hq17 (qgv y9) hc16 rfl rfl rfl (qgv ({ y9 with Bn:=3 })) rfl rfl rfl fun w45 h=>X1 5 6 h rfl (zs 7 h rfl fun w46 h=>qaW ?_)))
  have hk7:=h
  replace h:=h.frzI 4 rfl
  replace h:=h.frzI 2 rfl
  replace h:=h.frzI 1 rfl
  replace h:=h.frzI 0 rfl
  replace h:=h.frzI 3 rfl
  replace h:=h.pick [4,2,0,1,3,5,6,7,8] rfl
  replace h:=SH.merge h
  replace h:=h.pick [0,2,1,3,4,5,6,7] rfl
  replace h:=SH.merge h
  replace h:=SH.merge h
  replace h:=SH.merge h
  replace h:=h.grpAdd 0 rfl (x:=((⟨r1.Ac,(⟨r1.Aa.Ab,r1.Aa.Aj,(setS r1.Aa.Af 0 ({ y9 with Bn:=3 }))⟩:qg),r1.Ah⟩:qc):qc)) (⟨[.slice p2 r1.Ac.Ai.length k2],[.slice p3 r1.Aa.Ab.length k3,.slice p4 r1.Aa.Aj.length k4,.slice p5 r1.Aa.Af.length k5,.slice p6 r1.Ah.length k6],rfl,⟨_,_,rfl,(qgc (h.grpS 0 0 rfl rfl)).1⟩,⟨[.slice p3 r1.Aa.Ab.length k3,.slice p4 r1.Aa.Aj.length k4,.slice p5 r1.Aa.Af.length k5],[.slice p6 r1.Ah.length k6],rfl,⟨[.slice p3 r1.Aa.Ab.length k3],[.slice p4 r1.Aa.Aj.length k4,.slice p5 r1.Aa.Af.length k5],rfl,(h.grpS 0 1 rfl rfl),⟨[.slice p4 r1.Aa.Aj.length k4],[.slice p5 r1.Aa.Af.length k5],rfl,(h.grpS 0 2 rfl rfl),(h.grpS 0 3 rfl rfl)⟩⟩,(h.grpS 0 4 rfl rfl)⟩⟩)
  replace h:=h.grpKeep [0] 0 rfl
  obtain rfl:=qd hF
  replace h:=h.pick [0,1,4] rfl
  replace h:SH _ _ [Ch.grp (fun _=>False) (fun b=>(fun b=>(fun b=>(fun b=>S61 b∨S64 b) b∨S65 b) b∨S66 b) b∨S63 b) [fct ((⟨r1.Ac,(⟨r1.Aa.Ab,r1.Aa.Aj,(setS r1.Aa.Af 0 ({ y9 with Bn:=3 }))⟩:qg),r1.Ah⟩:qc):qc) [.slice p2 r1.Ac.Ai.length k2,.slice p3 r1.Aa.Ab.length k3,.slice p4 r1.Aa.Aj.length k4,.slice p5 r1.Aa.Af.length k5,.slice p6 r1.Ah.length k6]],Ch.box bb1 [.slice p1 a_0.code.length k1,.int .i64 i10,.int .i64 i11] 108,Ch.grp (old w0) (FS F) [fct (a_0:Tl01Source) [.slice p1 a_0.code.length k1,.int .i64 a_0.at_,.int .i64 a_0.seed],same w0 w F]]:=h
  exact qbp qb [GoT.v qc (qp r1 p2 p3 p4 p5 p6 k2 k3 k4 k5 k6)] ⟨⟨_,_,_,rfl,rfl,hk7.box 7 rfl,rfl⟩,trivial⟩ ⟨_,_,rfl,SH.unframe 1 (L0:=[Ch.box bb1 (qh a_0 p1 k1) 108]) h0 [Ch.grp (fun _=>False) (fun b=>(fun b=>(fun b=>(fun b=>S61 b∨S64 b) b∨S65 b) b∨S66 b) b∨S63 b) [fct ((⟨r1.Ac,(⟨r1.Aa.Ab,r1.Aa.Aj,(setS r1.Aa.Af 0 ({ y9 with Bn:=3 }))⟩:qg),r1.Ah⟩:qc):qc) [.slice p2 r1.Ac.Ai.length k2,.slice p3 r1.Aa.Ab.length k3,.slice p4 r1.Aa.Aj.length k4,.slice p5 r1.Aa.Af.length k5,.slice p6 r1.Ah.length k6]],Ch.box bb1 [.slice p1 a_0.code.length k1,.int .i64 i10,.int .i64 i11] 108] h rfl⟩
 refine X1 5 1 h rfl (zs 3 h rfl fun w47 h=>qaW ?_)
 have hk8:=h
 replace h:=h.frzI 2 rfl
 replace h:=h.grpAdd 2 rfl (x:=(r1:qc)) (h.grpS 2 0 rfl rfl)
 replace h:=h.grpKeep [0] 2 rfl
 obtain rfl:=qd hF
 replace h:=h.pick [2,0,4] rfl
 replace h:SH _ _ [Ch.grp (fun _=>False) S2 [fct (r1:qc) [.slice p2 r1.Ac.Ai.length k2,.slice p3 r1.Aa.Ab.length k3,.slice p4 r1.Aa.Aj.length k4,.slice p5 r1.Aa.Af.length k5,.slice p6 r1.Ah.length k6]],Ch.box bb1 [.slice p1 a_0.code.length k1,.int .i64 i10,.int .i64 i11] 108,Ch.grp (old w0) (FS F) [fct (a_0:Tl01Source) [.slice p1 a_0.code.length k1,.int .i64 a_0.at_,.int .i64 a_0.seed],same w0 w F]]:=h
 exact qbp qb [GoT.v qc (qp r1 p2 p3 p4 p5 p6 k2 k3 k4 k5 k6)] ⟨⟨_,_,_,rfl,rfl,hk8.box 3 rfl,rfl⟩,trivial⟩ ⟨_,_,rfl,SH.unframe 1 (L0:=[Ch.box bb1 (qh a_0 p1 k1) 108]) h0 [Ch.grp (fun _=>False) S2 [fct (r1:qc) [.slice p2 r1.Ac.Ai.length k2,.slice p3 r1.Aa.Ab.length k3,.slice p4 r1.Aa.Aj.length k4,.slice p5 r1.Aa.Af.length k5,.slice p6 r1.Ah.length k6]],Ch.box bb1 [.slice p1 a_0.code.length k1,.int .i64 i10,.int .i64 i11] 108] h rfl⟩
def qhm (n:Nat) (s:Tl01Source):Option (qc × Int × Int) :=
 (ql n (⟨s.code,s.at_,s.seed⟩:Tl01Source) 16).bind fun o=>match o with
  | (i1,i2,i3) =>
   bif (i1==0) then
    (qfI n (⟨s.code,i2,i3⟩:Tl01Source)).bind fun o=>match o with
     | (r1,i4,i5) =>
      some (r1,i4,i5)
   else
    (ql n (⟨s.code,i2,i3⟩:Tl01Source) 7).bind fun o=>match o with
     | (i6,i7,i8) =>
      (ql n (⟨s.code,i7,i8⟩:Tl01Source) 8).bind fun o=>match o with
       | (i9,i10,i11) =>
        (qgj n (⟨s.code,i10,i11⟩:Tl01Source) (W64 (2+i6)) (i9==0)).bind fun o=>match o with
         | (r2,i12,i13) =>
          some (r2,i12,i13)
theorem qkJ {n:Nat} {w0 w:World} {F:List Ch} {s:Tl01Source} {bb1:Nat} {p1:Option Addr} {k1:Nat} (h0:SH w0 w (Ch.box bb1 (qh s p1 k1) 108::F)) (ha1:GoT.R w (Fr w0 F) s [.slice p1 s.code.length k1,.int .i64 s.at_,.int .i64 s.seed]) {r:(qc × Int × Int)} (hF:qhm n s=some r):RetW Tryz.prog 31 [.pointer (some ⟨bb1,0,none⟩)] w (fun us w'=>∃ (S1:Nat→Prop) (cs1:List Value),us=[GoT.v qc cs1]∧SH w0 w' (Ch.grp (fun _=>False) S1 [fct (r.1:qc) cs1]::Ch.box bb1 [.slice p1 s.code.length k1,.int .i64 r.2.1,.int .i64 r.2.2] 108::F)):=by
 have h:=SH.frame [Ch.box bb1 (qh s p1 k1) 108] h0
 replace h:=h.grpAdd 1 rfl ha1
 replace h:SH _ _ [Ch.box bb1 (qh s p1 k1) 108,Ch.grp (old w0) (FS F) [fct (s:Tl01Source) [.slice p1 s.code.length k1,.int .i64 s.at_,.int .i64 s.seed],same w0 w F]]:=h
 refine qbi Tryz.func31 rfl (m:=16) rfl rfl (zSR (qx qb h rfl rfl rfl fun w1 bb2 h=>X0 5 rfl ?_))
 replace h:=h.pick [1,0,2] rfl
 obtain ⟨o1,hr1,hF⟩:=qe hF
 obtain ⟨i1,i2,i3⟩:=o1
 refine qz (cB 32 rfl) (qi (a_0:=(⟨s.code,s.at_,s.seed⟩:Tl01Source)) (a_1:=16) h ⟨[.slice p1 s.code.length k1],[.int .i64 s.at_,.int .i64 s.seed],rfl,⟨_,_,rfl,(qf (h.frG 2 0 1 rfl rfl rfl)).1⟩,⟨[.int .i64 s.at_],[.int .i64 s.seed],rfl,rfl,rfl⟩⟩ hr1) rfl rfl rfl rfl ?_
 rintro w2 us1 ⟨rfl,h⟩
 replace h:SH _ _ [Ch.box bb1 [.slice p1 s.code.length k1,.int .i64 i2,.int .i64 i3] 108,Ch.box bb2 [.slice none 0 0,.slice none 0 0,.slice none 0 0,.slice none 0 0,.slice none 0 0] 34,Ch.grp (old w0) (FS F) [fct (s:Tl01Source) [.slice p1 s.code.length k1,.int .i64 s.at_,.int .i64 s.seed],same w0 w F]]:=h
 refine X0 2 rfl (qm rfl hF ?_ ?_)<;>intro hF
 ·refine X0 3 rfl ?_
  obtain ⟨o2,hr2,hF⟩:=qe hF
  obtain ⟨r1,i4,i5⟩:=o2
  refine qz (cB 67 rfl) (qjv (a_0:=(⟨s.code,i2,i3⟩:Tl01Source)) h ⟨[.slice p1 s.code.length k1],[.int .i64 i2,.int .i64 i3],rfl,⟨_,_,rfl,(qf (h.frG 2 0 1 rfl rfl rfl)).1⟩,⟨[.int .i64 i2],[.int .i64 i3],rfl,rfl,rfl⟩⟩ hr2) rfl rfl rfl rfl ?_
  rintro w3 us2 ⟨S2,cs2,rfl,h⟩
  have hr3:=h.grpS 0 0 rfl rfl
  obtain ⟨p2,k2,p3,k3,p4,k4,p5,k5,p6,k6,rfl,s1,s2,s3,s4,s5⟩:=qJ hr3
  replace h:SH _ _ [Ch.grp (fun _=>False) S2 [fct (r1:qc) [.slice p2 r1.Ac.Ai.length k2,.slice p3 r1.Aa.Ab.length k3,.slice p4 r1.Aa.Aj.length k4,.slice p5 r1.Aa.Af.length k5,.slice p6 r1.Ah.length k6]],Ch.box bb1 [.slice p1 s.code.length k1,.int .i64 i4,.int .i64 i5] 108,Ch.box bb2 [.slice none 0 0,.slice none 0 0,.slice none 0 0,.slice none 0 0,.slice none 0 0] 34,Ch.grp (old w0) (FS F) [fct (s:Tl01Source) [.slice p1 s.code.length k1,.int .i64 s.at_,.int .i64 s.seed],same w0 w F]]:=h
  refine zs 2 h rfl fun w4 h=>qaW ?_
  have hk1:=h
  replace h:=h.grpAdd 0 rfl (x:=(r1:qc)) (h.grpS 0 0 rfl rfl)
  replace h:=h.grpKeep [0] 0 rfl
  obtain rfl:=qd hF
  replace h:=h.pick [0,1,3] rfl
  replace h:SH _ _ [Ch.grp (fun _=>False) S2 [fct (r1:qc) [.slice p2 r1.Ac.Ai.length k2,.slice p3 r1.Aa.Ab.length k3,.slice p4 r1.Aa.Aj.length k4,.slice p5 r1.Aa.Af.length k5,.slice p6 r1.Ah.length k6]],Ch.box bb1 [.slice p1 s.code.length k1,.int .i64 i4,.int .i64 i5] 108,Ch.grp (old w0) (FS F) [fct (s:Tl01Source) [.slice p1 s.code.length k1,.int .i64 s.at_,.int .i64 s.seed],same w0 w F]]:=h
  exact qbp qb [GoT.v qc (qp r1 p2 p3 p4 p5 p6 k2 k3 k4 k5 k6)] ⟨⟨_,_,_,rfl,rfl,hk1.box 2 rfl,rfl⟩,trivial⟩ ⟨_,_,rfl,SH.unframe 1 (L0:=[Ch.box bb1 (qh s p1 k1) 108]) h0 [Ch.grp (fun _=>False) S2 [fct (r1:qc) [.slice p2 r1.Ac.Ai.length k2,.slice p3 r1.Aa.Ab.length k3,.slice p4 r1.Aa.Aj.length k4,.slice p5 r1.Aa.Af.length k5,.slice p6 r1.Ah.length k6]],Ch.box bb1 [.slice p1 s.code.length k1,.int .i64 i4,.int .i64 i5] 108] h rfl⟩
 refine X0 5 rfl ?_
 obtain ⟨o3,hr5,hF⟩:=qe hF
 obtain ⟨i6,i7,i8⟩:=o3
 refine qz (cB 32 rfl) (qi (a_0:=(⟨s.code,i2,i3⟩:Tl01Source)) (a_1:=7) h ⟨[.slice p1 s.code.length k1],[.int .i64 i2,.int .i64 i3],rfl,⟨_,_,rfl,(qf (h.frG 2 0 1 rfl rfl rfl)).1⟩,⟨[.int .i64 i2],[.int .i64 i3],rfl,rfl,rfl⟩⟩ hr5) rfl rfl rfl rfl ?_
 rintro w5 us3 ⟨rfl,h⟩
 replace h:SH _ _ [Ch.box bb1 [.slice p1 s.code.length k1,.int .i64 i7,.int .i64 i8] 108,Ch.box bb2 [.slice none 0 0,.slice none 0 0,.slice none 0 0,.slice none 0 0,.slice none 0 0] 34,Ch.grp (old w0) (FS F) [fct (s:Tl01Source) [.slice p1 s.code.length k1,.int .i64 s.at_,.int .i64 s.seed],same w0 w F]]:=h
 refine zp2 rfl ?_
 obtain ⟨o4,hr6,hF⟩:=qe hF
 obtain ⟨i9,i10,i11⟩:=o4
 refine qz (cB 32 rfl) (qi (a_0:=(⟨s.code,i7,i8⟩:Tl01Source)) (a_1:=8) h ⟨[.slice p1 s.code.length k1],[.int .i64 i7,.int .i64 i8],rfl,⟨_,_,rfl,(qf (h.frG 2 0 1 rfl rfl rfl)).1⟩,⟨[.int .i64 i7],[.int .i64 i8],rfl,rfl,rfl⟩⟩ hr6) rfl rfl rfl rfl ?_
 rintro w6 us4 ⟨rfl,h⟩
 replace h:SH _ _ [Ch.box bb1 [.slice p1 s.code.length k1,.int .i64 i10,.int .i64 i11] 108,Ch.box bb2 [.slice none 0 0,.slice none 0 0,.slice none 0 0,.slice none 0 0,.slice none 0 0] 34,Ch.grp (old w0) (FS F) [fct (s:Tl01Source) [.slice p1 s.code.length k1,.int .i64 s.at_,.int .i64 s.seed],same w0 w F]]:=h
 refine zp1 rfl ?_
 obtain ⟨o5,hr7,hF⟩:=qe hF
 obtain ⟨r2,i12,i13⟩:=o5
 refine qz (cB 68 rfl) (qh9 (s:=(⟨s.code,i10,i11⟩:Tl01Source)) (most:=(W64 (2+i6))) (wild:=(i9==0)) h ⟨[.slice p1 s.code.length k1],[.int .i64 i10,.int .i64 i11],rfl,⟨_,_,rfl,(qf (h.frG 2 0 1 rfl rfl rfl)).1⟩,⟨[.int .i64 i10],[.int .i64 i11],rfl,rfl,rfl⟩⟩ hr7) rfl rfl rfl rfl ?_
 rintro w7 us5 ⟨S3,cs3,rfl,h⟩
 obtain ⟨p7,k7,p8,k8,p9,k9,p10,k10,p11,k11,rfl,-,-,-,-,-⟩:=qJ (h.own 0 rfl)
 replace h:SH _ _ [Ch.own S3 (r2:qc) (qp r2 p7 p8 p9 p10 p11 k7 k8 k9 k10 k11),Ch.box bb1 [.slice p1 s.code.length k1,.int .i64 i12,.int .i64 i13] 108,Ch.box bb2 [.slice none 0 0,.slice none 0 0,.slice none 0 0,.slice none 0 0,.slice none 0 0] 34,Ch.grp (old w0) (FS F) [fct (s:Tl01Source) [.slice p1 s.code.length k1,.int .i64 s.at_,.int .i64 s.seed],same w0 w F]]:=h
 refine zs 2 h rfl fun w8 h=>qaW ?_
 have hk2:=h
 replace h:=h.frzI 0 rfl
 replace h:=h.grpAdd 0 rfl (x:=(r2:qc)) (h.grpS 0 0 rfl rfl)
 replace h:=h.grpKeep [0] 0 rfl
 obtain rfl:=qd hF
 replace h:=h.pick [0,1,3] rfl
 replace h:SH _ _ [Ch.grp (fun _=>False) S3 [fct (r2:qc) [.slice p7 r2.Ac.Ai.length k7,.slice p8 r2.Aa.Ab.length k8,.slice p9 r2.Aa.Aj.length k9,.slice p10 r2.Aa.Af.length k10,.slice p11 r2.Ah.length k11]],Ch.box bb1 [.slice p1 s.code.length k1,.int .i64 i12,.int .i64 i13] 108,Ch.grp (old w0) (FS F) [fct (s:Tl01Source) [.slice p1 s.code.length k1,.int .i64 s.at_,.int .i64 s.seed],same w0 w F]]:=h
 exact qbp qb [GoT.v qc (qp r2 p7 p8 p9 p10 p11 k7 k8 k9 k10 k11)] ⟨⟨_,_,_,rfl,rfl,hk2.box 2 rfl,rfl⟩,trivial⟩ ⟨_,_,rfl,SH.unframe 1 (L0:=[Ch.box bb1 (qh s p1 k1) 108]) h0 [Ch.grp (fun _=>False) S3 [fct (r2:qc) [.slice p7 r2.Ac.Ai.length k7,.slice p8 r2.Aa.Ab.length k8,.slice p9 r2.Aa.Aj.length k9,.slice p10 r2.Aa.Af.length k10,.slice p11 r2.Ah.length k11]],Ch.box bb1 [.slice p1 s.code.length k1,.int .i64 i12,.int .i64 i13] 108] h rfl⟩
def qdL (code:(List (IntK .u8))):Nat→Int→Int→Option (Int × Int)
 | 0,_,_=>none
 | n+1,i1,i2 =>
  (
   bif decide (i2<(code.length:Int)) then some (decide (i2<64)) else
   some false).bind fun b1 =>
  bif b1 then
   (idx code i2).bind fun y1 =>
   qdL code n ((W64 ((W64 (i1*31))+(W64 y1.val))).tmod 2147483647) (W64 (i2+1))
  else
   some (i1,i2)
def qim (n:Nat) (code:(List (IntK .u8))):Option (Option Tl01Source) :=
 (qdL code n 12345 0).bind fun o=>match o with
 | (i1,_) =>
  some (some (⟨code,0,i1⟩:Tl01Source))
theorem qky {n:Nat} {w:World} {code:(List (IntK .u8))} {cs1:List Value} (ha1:GoT.R w (old w) code cs1) {r:(Option Tl01Source)} (hF:qim n code=some r):RetZ Tryz.prog 30 [GoT.v (List (IntK .u8)) cs1] w (fun us L=>∃ (ubb1:Nat) (ui2:Int),r=(some (⟨code,0,ui2⟩:Tl01Source))∧us=[GoT.v (Option Tl01Source) [.pointer (some ⟨ubb1,0,none⟩)]]∧L=[Ch.box ubb1 (cs1++[.int .i64 0,.int .i64 ui2]) 108]):=by
 obtain ⟨p1,k1,rfl,s1⟩:=ha1
 refine qmM Tryz.func30 rfl (m:=34) rfl rfl (fun h=>?_)
 refine X0 7 rfl (r_v (qai qb [0,2] [.tmp 5,.const (.int .i64 (12345))] rfl rfl rfl rfl rfl rfl rfl rfl) rfl (qS h rfl rfl fun w1 bb1 h=>X0 7 rfl ?_))
 obtain ⟨o1,hF,hK1⟩:=qe hF
 refine qu (rL (fun m e w'=>∃ (i1:Int) (i2:Int),qdL code m i1 i2=some o1∧e=[(0,.slice p1 code.length k1),(3,.pointer (some ⟨bb1,0,none⟩)),(4,.int .i64 i2)]∧SH w w' [Ch.box bb1 [.slice p1 code.length k1,.int .i64 0,.int .i64 i1] 108]) n ⟨_,_,hF,rfl,h⟩ rfl ?_)
 rintro m1 e1 w2 ⟨i1,i2,hF,rfl,h⟩
 rcases m1 with _|m1
 ·cases hF
 refine zSS ?_
 obtain ⟨KF1,hKF1,o2,hF,hK2⟩:=bindE hF
 refine qaV (fun e w'=>∃ (b1:Bool),KF1 b1=some o1∧e=[(0,.slice p1 code.length k1),(3,.pointer (some ⟨bb1,0,none⟩)),(4,.int .i64 i2),(15,.bool b1)]∧SH w w' [Ch.box bb1 [.slice p1 code.length k1,.int .i64 0,.int .i64 i1] 108]) ?_ ?_
 ·refine X0 6 rfl (qj (t:=12) hF rfl ?_ ?_)<;>intro hF
  ·refine X0 6 rfl ?_
   obtain rfl:=qd hF
   exact rG ⟨_,hK2,rfl,h⟩ rfl
  refine X0 4 rfl ?_
  obtain rfl:=qd hF
  exact rG ⟨_,hK2,rfl,h⟩ rfl
 rintro e2 w5 ⟨b1,hF,rfl,h⟩
 subst hKF1
 refine qm rfl hF ?_ ?_<;>intro hF
 ·refine zKSB (rA [15] [0] h rfl fun w3 h=>M1 255 [0,1,2,3,4,5,6,7] 0 (h.pick [0] rfl) rfl ?_)
  obtain ⟨y1,hy1,hF,he1,b2,_,q1,cs2,hp1,hq1,rfl,hc2⟩:=s1.ix hF
  exact Ae 8 511 hp1 hq1 he1 (h.pick [0] rfl) rfl (Al 9 1023 0 hc2 (h.pick [0] rfl) rfl (M0 8191 [10,11,12] (h.pick [0] rfl) rfl (Ao 13 16383 rfl (zp1 rfl (G0 32767 [14] (h.pick [0] rfl) rfl (Ao 15 65535 rfl (zs 0 h rfl fun w4 h=>qeB (fun hs=>absurd (hs 15 (by decide)) (by decide)) (Ad (X0 6 rfl (rK ⟨_,_,hF,rfl,h⟩ rfl))))))))))
 refine qA rfl ?_
 obtain rfl:=qd hF;replace hF:=hK1
 refine X0 5 rfl ?_
 obtain rfl:=qd hF
 exact qp8 qb [GoT.v (Option Tl01Source) [.pointer (some ⟨bb1,0,none⟩)]] h ⟨rfl,trivial⟩ ⟨bb1,i1,rfl,rfl,rfl⟩
def qch (s:Tl01Source) (b:qc):Nat→(List Int)→Int→Int→Int→Int→Option ((List Int) × Int × Int)
 | 0,_,_,_,_,_=>none
 | n+1,x3,i18,i19,i20,i21 =>
  bif decide (i21 > 0) then
   (qfA n b i20).bind fun r3 =>
   bif ((r3.length:Int)==0) then some (x3,i18,i19) else
   (ql n (⟨s.code,i18,i19⟩:Tl01Source) (r3.length:Int)).bind fun o=>match o with
    | (i22,i23,i24) =>
     (idx r3 i22).bind fun y1 =>
     (appS x3 ([y1]:List Int)).bind fun x4 =>
     qch s b n x4 i23 i24 y1 (W64 (i21-1))
  else
   some (x3,i18,i19)
def qew (n:Nat) (s:Tl01Source) (b:qc):Option ((List Int) × Int × Int) :=
 (qf5 n b).bind fun r1 =>
 (qaw n b).bind fun r2 =>
 (ql n (⟨s.code,s.at_,s.seed⟩:Tl01Source) (if r2 > 1 then r2 else 1)).bind fun o=>match o with
  | (i1,i2,i3) =>
   (
    bif decide ((r1.length:Int) > 0) then
     (ql n (⟨s.code,i2,i3⟩:Tl01Source) 6).bind fun o=>match o with
      | (i28,i29,i30) =>
       some (i29,i30,decide (i28 > 0))
    else
     some (i2,i3,false)).bind fun o=>match o with
    | (i4,i5,b1) =>
     (
      bif b1 then
       (ql n (⟨s.code,i4,i5⟩:Tl01Source) (r1.length:Int)).bind fun o=>match o with
        | (i25,i26,i27) =>
         (idx r1 i25).bind fun y2 =>
         some (i26,i27,y2)
      else
       some (i4,i5,i1)).bind fun o=>match o with
      | (i6,i7,i8) =>
       (ql n (⟨s.code,i6,i7⟩:Tl01Source) 10).bind fun o=>match o with
        | (i9,i10,i11) =>
         (qch s b n ([i8]:List Int) i10 i11 i8 (W64 (2+i9))).bind fun o=>match o with
         | (x2,i16,i17) =>
          some (x2,i16,i17)
theorem qgN {n:Nat} {w0 w:World} {F:List Ch} {s:Tl01Source} {bb1:Nat} {p1:Option Addr} {k1:Nat} {b:qc} {cs1:List Value} (h0:SH w0 w (Ch.box bb1 (qh s p1 k1) 108::F)) (ha1:GoT.R w (Fr w0 F) s [.slice p1 s.code.length k1,.int .i64 s.at_,.int .i64 s.seed]) (ha2:GoT.R w (Fr w0 F) b cs1) {r:((List Int) × Int × Int)} (hF:qew n s b=some r):RetW Tryz.prog 96 [.pointer (some ⟨bb1,0,none⟩),GoT.v qc cs1] w (fun us w'=>∃ (S1:Nat→Prop) (cs2:List Value),us=[GoT.v (List Int) cs2]∧SH w0 w' (Ch.own S1 (r.1:(List Int)) cs2::Ch.box bb1 [.slice p1 s.code.length k1,.int .i64 r.2.1,.int .i64 r.2.2] 108::F)):=by
 have h:=SH.frame [Ch.box bb1 (qh s p1 k1) 108] h0
 replace h:=h.grpAdd 1 rfl ha1
 have hz1:=ha2
 obtain ⟨p2,k2,p3,k3,p4,k4,p5,k5,p6,k6,rfl,s1,s2,s3,s4,s5⟩:=qJ ha2
 replace h:=h.grpAdd 1 rfl hz1
 replace h:SH _ _ [Ch.box bb1 (qh s p1 k1) 108,Ch.grp (old w0) (FS F) [fct (b:qc) [.slice p2 b.Ac.Ai.length k2,.slice p3 b.Aa.Ab.length k3,.slice p4 b.Aa.Aj.length k4,.slice p5 b.Aa.Af.length k5,.slice p6 b.Ah.length k6],fct (s:Tl01Source) [.slice p1 s.code.length k1,.int .i64 s.at_,.int .i64 s.seed],same w0 w F]]:=h
 refine qbi Tryz.func96 rfl (m:=59) rfl rfl (zSR (qS h rfl rfl fun w1 bb2 h=>X1 5 0 h rfl (zcL h hF (qjX (h.grp 2 0 rfl rfl)) rfl fun r1 w2 S2 p7 k7 h hF=>X1 6 1 h rfl (zcI h hF (qbh (h.grp 3 0 rfl rfl)) rfl fun r2 w3 h hF=>zp1 rfl ?_))))
 replace h:=h.pick [2,0,1,3] rfl
 obtain ⟨o1,hr3,hF⟩:=qe hF
 obtain ⟨i1,i2,i3⟩:=o1
 refine qz (cB 32 rfl) (qi (a_0:=(⟨s.code,s.at_,s.seed⟩:Tl01Source)) (a_1:=(if r2 > 1 then r2 else 1)) h ⟨[.slice p1 s.code.length k1],[.int .i64 s.at_,.int .i64 s.seed],rfl,⟨_,_,rfl,(qf (h.frG 3 1 1 rfl rfl rfl)).1⟩,⟨[.int .i64 s.at_],[.int .i64 s.seed],rfl,rfl,rfl⟩⟩ hr3) rfl rfl rfl rfl ?_
 rintro w4 us1 ⟨rfl,h⟩
 replace h:SH _ _ [Ch.box bb1 [.slice p1 s.code.length k1,.int .i64 i2,.int .i64 i3] 108,Ch.own S2 (r1:List Int) [.slice p7 r1.length k7],Ch.box bb2 (qp b p2 p3 p4 p5 p6 k2 k3 k4 k5 k6) 34,Ch.grp (old w0) (FS F) [fct (b:qc) [.slice p2 b.Ac.Ai.length k2,.slice p3 b.Aa.Ab.length k3,.slice p4 b.Aa.Aj.length k4,.slice p5 b.Aa.Af.length k5,.slice p6 b.Ah.length k6],fct (s:Tl01Source) [.slice p1 s.code.length k1,.int .i64 s.at_,.int .i64 s.seed],same w0 w F]]:=h
 refine X0 4 rfl ?_
 obtain ⟨KF3,hKF3,o7,hF,hK3⟩:=bindE hF
 refine qaV (fun e w'=>∃ (i4:Int) (i5:Int) (b1:Bool),KF3 (i4,i5,b1)=some r∧e=[(0,.pointer (some ⟨bb1,0,none⟩)),(3,.pointer (some ⟨bb2,0,none⟩)),(5,.slice p7 r1.length k7),(6,.int .i64 i1),(24,.bool b1)]∧SH w0 w' [Ch.box bb1 [.slice p1 s.code.length k1,.int .i64 i4,.int .i64 i5] 108,Ch.own S2 (r1:List Int) [.slice p7 r1.length k7],Ch.box bb2 (qp b p2 p3 p4 p5 p6 k2 k3 k4 k5 k6) 34,Ch.grp (old w0) (FS F) [fct (b:qc) [.slice p2 b.Ac.Ai.length k2,.slice p3 b.Aa.Ab.length k3,.slice p4 b.Aa.Aj.length k4,.slice p5 b.Aa.Af.length k5,.slice p6 b.Ah.length k6],fct (s:Tl01Source) [.slice p1 s.code.length k1,.int .i64 s.at_,.int .i64 s.seed],same w0 w F]]) ?_ ?_
 ·refine X0 5 rfl (qj (t:=20) hF rfl ?_ ?_)<;>intro hF
  ·refine X0 3 rfl ?_
   obtain ⟨o8,hr10,hF⟩:=qe hF
   obtain ⟨i28,i29,i30⟩:=o8
   refine qz (cB 32 rfl) (qi (a_0:=(⟨s.code,i2,i3⟩:Tl01Source)) (a_1:=6) h ⟨[.slice p1 s.code.length k1],[.int .i64 i2,.int .i64 i3],rfl,⟨_,_,rfl,(qf (h.frG 3 1 1 rfl rfl rfl)).1⟩,⟨[.int .i64 i2],[.int .i64 i3],rfl,rfl,rfl⟩⟩ hr10) rfl rfl rfl rfl ?_
   rintro w15 us5 ⟨rfl,h⟩
   replace h:SH _ _ [Ch.box bb1 [.slice p1 s.code.length k1,.int .i64 i29,.int .i64 i30] 108,Ch.own S2 (r1:List Int) [.slice p7 r1.length k7],Ch.box bb2 (qp b p2 p3 p4 p5 p6 k2 k3 k4 k5 k6) 34,Ch.grp (old w0) (FS F) [fct (b:qc) [.slice p2 b.Ac.Ai.length k2,.slice p3 b.Aa.Ab.length k3,.slice p4 b.Aa.Aj.length k4,.slice p5 b.Aa.Af.length k5,.slice p6 b.Ah.length k6],fct (s:Tl01Source) [.slice p1 s.code.length k1,.int .i64 s.at_,.int .i64 s.seed],same w0 w F]]:=h
   refine X0 4 rfl ?_
   obtain rfl:=qd hF
   exact rG ⟨_,_,_,hK3,rfl,h⟩ rfl
  refine X0 5 rfl ?_
  obtain rfl:=qd hF
  exact rG ⟨_,_,_,hK3,rfl,h⟩ rfl
 rintro e4 w16 ⟨i4,i5,b1,hF,rfl,h⟩
 subst hKF3
 obtain ⟨KF2,hKF2,o5,hF,hK2⟩:=bindE hF
 refine qaV (fun e w'=>∃ (i6:Int) (i7:Int) (i8:Int),KF2 (i6,i7,i8)=some r∧e=[(0,.pointer (some ⟨bb1,0,none⟩)),(3,.pointer (some ⟨bb2,0,none⟩)),(6,.int .i64 i8)]∧SH w0 w' [Ch.box bb1 [.slice p1 s.code.length k1,.int .i64 i6,.int .i64 i7] 108,Ch.box bb2 (qp b p2 p3 p4 p5 p6 k2 k3 k4 k5 k6) 34,Ch.grp (old w0) (FS F) [fct (b:qc) [.slice p2 b.Ac.Ai.length k2,.slice p3 b.Aa.Ab.length k3,.slice p4 b.Aa.Aj.length k4,.slice p5 b.Aa.Af.length k5,.slice p6 b.Ah.length k6],fct (s:Tl01Source) [.slice p1 s.code.length k1,.int .i64 s.at_,.int .i64 s.seed],same w0 w F]]) ?_ ?_
 ·refine qm rfl hF ?_ ?_<;>intro hF
  ·refine X0 5 rfl ?_
   obtain ⟨o6,hr8,hF⟩:=qe hF
   obtain ⟨i25,i26,i27⟩:=o6
   refine qz (cB 32 rfl) (qi (a_0:=(⟨s.code,i4,i5⟩:Tl01Source)) (a_1:=(r1.length:Int)) h ⟨[.slice p1 s.code.length k1],[.int .i64 i4,.int .i64 i5],rfl,⟨_,_,rfl,(qf (h.frG 3 1 1 rfl rfl rfl)).1⟩,⟨[.int .i64 i4],[.int .i64 i5],rfl,rfl,rfl⟩⟩ hr8) rfl rfl rfl rfl ?_
   rintro w13 us4 ⟨rfl,h⟩
   replace h:SH _ _ [Ch.box bb1 [.slice p1 s.code.length k1,.int .i64 i26,.int .i64 i27] 108,Ch.own S2 (r1:List Int) [.slice p7 r1.length k7],Ch.box bb2 (qp b p2 p3 p4 p5 p6 k2 k3 k4 k5 k6) 34,Ch.grp (old w0) (FS F) [fct (b:qc) [.slice p2 b.Ac.Ai.length k2,.slice p3 b.Aa.Ab.length k3,.slice p4 b.Aa.Aj.length k4,.slice p5 b.Aa.Af.length k5,.slice p6 b.Ah.length k6],fct (s:Tl01Source) [.slice p1 s.code.length k1,.int .i64 s.at_,.int .i64 s.seed],same w0 w F]]:=h
   obtain ⟨y2,hy2,hF,he2,b3,_,q2,cs4,hp2,hq2,rfl,hc5⟩:=(h.sl 1 rfl).1.ix hF
   refine zx hp2 hq2 ⟨he2.1,qab he2.2.1 (h.sl 1 rfl).2⟩ rfl (zc 0 hc5 rfl (X0 2 rfl ?_))
   replace h:=h.pick [0,2,3] rfl
   obtain rfl:=qd hF
   exact rG ⟨_,_,_,hK2,rfl,h⟩ rfl
  refine qdy ?_
  replace h:=h.pick [0,2,3] rfl
  obtain rfl:=qd hF
  exact rG ⟨_,_,_,hK2,rfl,h⟩ rfl
 rintro e3 w14 ⟨i6,i7,i8,hF,rfl,h⟩
 subst hKF2
 refine X0 3 rfl (qn qb [.tmp 32] _ ([i8]:List Int) h rfl rfl rfl rfl rfl rfl rfl rfl rfl ⟨rfl,trivial⟩ rfl fun w5 p8 S3 h=>X0 6 rfl ?_)
 replace h:=h.pick [1,0,2,3] rfl
 obtain ⟨o2,hr4,hF⟩:=qe hF
 obtain ⟨i9,i10,i11⟩:=o2
 refine qz (cB 32 rfl) (qi (a_0:=(⟨s.code,i6,i7⟩:Tl01Source)) (a_1:=10) h ⟨[.slice p1 s.code.length k1],[.int .i64 i6,.int .i64 i7],rfl,⟨_,_,rfl,(qf (h.frG 3 1 1 rfl rfl rfl)).1⟩,⟨[.int .i64 i6],[.int .i64 i7],rfl,rfl,rfl⟩⟩ hr4) rfl rfl rfl rfl ?_
 rintro w6 us2 ⟨rfl,h⟩
 replace h:SH _ _ [Ch.box bb1 [.slice p1 s.code.length k1,.int .i64 i10,.int .i64 i11] 108,Ch.own S3 (([i8]:List Int):List Int) [.slice p8 1 1],Ch.box bb2 (qp b p2 p3 p4 p5 p6 k2 k3 k4 k5 k6) 34,Ch.grp (old w0) (FS F) [fct (b:qc) [.slice p2 b.Ac.Ai.length k2,.slice p3 b.Aa.Ab.length k3,.slice p4 b.Aa.Aj.length k4,.slice p5 b.Aa.Af.length k5,.slice p6 b.Ah.length k6],fct (s:Tl01Source) [.slice p1 s.code.length k1,.int .i64 s.at_,.int .i64 s.seed],same w0 w F]]:=h
 refine X0 3 rfl ?_
 obtain ⟨KF1,hKF1,o3,hF,hK1⟩:=bindE hF
 refine qaV (fun e w'=>∃ (S5:Nat→Prop) (p10:Option Addr) (ln2:Nat) (k9:Nat) (x2:(List Int)) (i16:Int) (i17:Int),KF1 (x2,i16,i17)=some r∧e=[(7,.slice p10 ln2 k9)]∧SH w0 w' [Ch.box bb1 [.slice p1 s.code.length k1,.int .i64 i16,.int .i64 i17] 108,Ch.own S5 (x2:List Int) [.slice p10 ln2 k9],Ch.grp (old w0) (FS F) [fct (s:Tl01Source) [.slice p1 s.code.length k1,.int .i64 s.at_,.int .i64 s.seed],same w0 w F]]) ?_ ?_
 ·refine qu (rL (fun m e w'=>∃ (S6:Nat→Prop) (p11:Option Addr) (ln3:Nat) (k10:Nat) (x3:(List Int)) (i18:Int) (i19:Int) (i20:Int) (i21:Int),qch s b m x3 i18 i19 i20 i21=some o3∧e=[(0,.pointer (some ⟨bb1,0,none⟩)),(3,.pointer (some ⟨bb2,0,none⟩)),(6,.int .i64 i20),(7,.slice p11 ln3 k10),(8,.int .i64 i21)]∧SH w0 w' [Ch.box bb1 [.slice p1 s.code.length k1,.int .i64 i18,.int .i64 i19] 108,Ch.own S6 (x3:List Int) [.slice p11 ln3 k10],Ch.box bb2 (qp b p2 p3 p4 p5 p6 k2 k3 k4 k5 k6) 34,Ch.grp (old w0) (FS F) [fct (b:qc) [.slice p2 b.Ac.Ai.length k2,.slice p3 b.Aa.Ab.length k3,.slice p4 b.Aa.Aj.length k4,.slice p5 b.Aa.Af.length k5,.slice p6 b.Ah.length k6],fct (s:Tl01Source) [.slice p1 s.code.length k1,.int .i64 s.at_,.int .i64 s.seed],same w0 w F]]) n ⟨_,_,_,_,_,_,_,_,_,hF,rfl,h⟩ rfl ?_)
  rintro m1 e1 w7 ⟨S6,p11,ln3,k10,x3,i18,i19,i20,i21,hF,rfl,h⟩
  obtain rfl:=(h.sl 1 rfl).2
  rcases m1 with _|m1
  ·cases hF
  refine X0 6 rfl (qm rfl hF ?_ ?_)<;>intro hF
  ·refine X1 7 2 h rfl (zcL h hF (qh2 (h.grp 3 0 rfl rfl)) rfl fun r3 w8 S7 p12 k11 h hF=>X0 9 rfl (qm rfl hF ?_ ?_))<;>intro hF
   ·refine qA rfl ?_
    replace h:=h.grpKeep [1,2] 4 rfl
    replace h:=h.pick [1,2,4] rfl
    obtain rfl:=qd hF
    exact rG ⟨_,_,_,_,_,_,_,hK1,rfl,h⟩ rfl
   refine X0 7 rfl ?_
   replace h:=h.pick [1,0,2,3,4] rfl
   obtain ⟨o4,hr6,hF⟩:=qe hF
   obtain ⟨i22,i23,i24⟩:=o4
   refine qz (cB 32 rfl) (qi (a_0:=(⟨s.code,i18,i19⟩:Tl01Source)) (a_1:=(r3.length:Int)) h ⟨[.slice p1 s.code.length k1],[.int .i64 i18,.int .i64 i19],rfl,⟨_,_,rfl,(qf (h.frG 4 1 1 rfl rfl rfl)).1⟩,⟨[.int .i64 i18],[.int .i64 i19],rfl,rfl,rfl⟩⟩ hr6) rfl rfl rfl rfl ?_
   rintro w9 us3 ⟨rfl,h⟩
   replace h:SH _ _ [Ch.box bb1 [.slice p1 s.code.length k1,.int .i64 i23,.int .i64 i24] 108,Ch.own S7 (r3:List Int) [.slice p12 r3.length k11],Ch.own S6 (x3:List Int) [.slice p11 x3.length k10],Ch.box bb2 (qp b p2 p3 p4 p5 p6 k2 k3 k4 k5 k6) 34,Ch.grp (old w0) (FS F) [fct (b:qc) [.slice p2 b.Ac.Ai.length k2,.slice p3 b.Aa.Ab.length k3,.slice p4 b.Aa.Aj.length k4,.slice p5 b.Aa.Af.length k5,.slice p6 b.Ah.length k6],fct (s:Tl01Source) [.slice p1 s.code.length k1,.int .i64 s.at_,.int .i64 s.seed],same w0 w F]]:=h
   obtain ⟨y1,hy1,hF,he1,b2,_,q1,cs3,hp1,hq1,rfl,hc3⟩:=(h.sl 1 rfl).1.ix hF
   refine zx hp1 hq1 ⟨he1.1,qab he1.2.1 (h.sl 1 rfl).2⟩ rfl (zc 0 hc3 rfl (X0 5 rfl (qn qb [.tmp 55] _ ([y1]:List Int) h rfl rfl rfl rfl rfl rfl rfl rfl rfl ⟨rfl,trivial⟩ rfl fun w10 p13 S8 h=>?_)))
   obtain ⟨x4,hx1,hF⟩:=qe hF
   obtain ⟨g1,hx1⟩:=qk hx1
   refine qau qb 3 h rfl (h.sl 0 rfl).1 (h.sl 0 rfl).2 rfl rfl rfl rfl rfl rfl rfl rfl rfl g1 hx1 rfl fun w11 p14 k12 S9 h=>X0 8 rfl ?_
   replace h:=h.pick [1,3,4,5] rfl
   exact rK ⟨_,_,_,_,_,_,_,_,_,hF,rfl,h⟩ rfl
  refine qA rfl ?_
  replace h:=h.grpKeep [1,2] 3 rfl
  replace h:=h.pick [0,1,3] rfl
  obtain rfl:=qd hF
  exact rG ⟨_,_,_,_,_,_,_,hK1,rfl,h⟩ rfl
 rintro e2 w12 ⟨S5,p10,ln2,k9,x2,i16,i17,hF,rfl,h⟩
 subst hKF1
 obtain rfl:=(h.sl 1 rfl).2
 refine X0 5 rfl ?_
 obtain rfl:=qd hF
 replace h:=h.pick [1,0,2] rfl
 replace h:SH _ _ [Ch.own S5 (x2:List Int) [.slice p10 x2.length k9],Ch.box bb1 [.slice p1 s.code.length k1,.int .i64 i16,.int .i64 i17] 108,Ch.grp (old w0) (FS F) [fct (s:Tl01Source) [.slice p1 s.code.length k1,.int .i64 s.at_,.int .i64 s.seed],same w0 w F]]:=h
 exact qbp qb [GoT.v (List Int) [.slice p10 x2.length k9]] ⟨rfl,trivial⟩ ⟨_,_,rfl,SH.unframe 1 (L0:=[Ch.box bb1 (qh s p1 k1) 108]) h0 [Ch.own S5 (x2:List Int) [.slice p10 x2.length k9],Ch.box bb1 [.slice p1 s.code.length k1,.int .i64 i16,.int .i64 i17] 108] h rfl⟩
end Go.Fw
