/- By a program of mine (gen.py): for each function a plain function and the proof that the code computes it. -/
import Derived.Test.YtmkldekhhkijdaaGreatDoorQR7
import Derived.Test.YtmkldekhhkijdaaGreatDoorB9
import Derived.Test.YtmkldekhhkijdaaGreatDoorFw30
import Derived.Test.YtmkldekhhkijdaaGreatDoorA2
import Derived.Handed
open Option renaming bind_some → jd, map_some → jL
open Nat renaming le_refl → je, mul_le_mul_right → jo, le_of_ble_eq_true → jq, lt_of_lt_of_le → jr, succ_mul → jF, zero_le → jP, zero_add → jQ
open Go.Result renaming andThen_ok → jf
open Bool renaming and_eq_true → jg, eq_iff_iff → jl, true_and → jB, not_eq_true' → jJ
open List renaming getElem?_eq_getElem → jh, length_append → ji, length_singleton → jm, mem_cons_of_mem → jn, mem_cons_self → jp, length_cons → js, getElem?_append_left → jt, getElem_mem → ju, getD_eq_getElem?_getD → jv, getElem?_take → jw, drop_eq_getElem_cons → jx, getElem?_append_right → jy, getElem?_toArray → jz, mem_of_getElem? → jA, eq_nil_of_length_eq_zero → jD, append_assoc → jE, size_toArray → jG, length_map → jH, getElem_of_mem → jI, all_eq_true → jK, map_append → jM, not_mem_nil → jN, take_length → jO, map_cons → jR
open Go.Sem renaming run_bind → jj, run_pure → jk
open Int renaming toNat_natCast → jC

namespace Go.Fw
open Go Go.Proofs
open Go.RowKit (Below)
set_option maxRecDepth 100000
set_option maxHeartbeats 6400000
variable {n:Nat} {w:World} {cs1 cs2 cs3 cs4 cs5 cs6 cs7 cs8 cs9:List Value}
def qaA (a:(List Int)):Nat→(List Int)→Int→Int→Option ((List Int) × Int × Int)
 | 0,_,_,_=>none
 | n+1,x1,i1,i2 =>
  bif decide (i2<(a.length:Int)) then
   (idx x1 i2).bind fun _ =>
   qaA a n (setS x1 i2 i1) (W64 (i1+1)) (W64 (i2+1))
  else
   some (x1,i1,i2)
def qQ (n:Nat) (a:(List Int)) (k:Int):Option (Int × (List Int)) :=
 (qaA a n a k 0).bind fun o=>match o with
 | (x1,i1,_) =>
  some (i1,x1)
theorem qZ {n:Nat} {w0 w:World} {F:List Ch} {a:(List Int)} {k:Int} {S1:Nat→Prop} {p1:Option Addr} {ln1 k1:Nat} (h:SH w0 w (Ch.own S1 (a:List Int) [.slice p1 ln1 k1]::F)) {r:(Int × (List Int))} (hF:qQ n a k=some r):RetN Tryz.prog 56 [.slice p1 ln1 k1,.int .i64 k] w (fun w'=>∃ Z0:Nat→Prop,SH w0 w' (Ch.own Z0 (r.2:List Int) [.slice p1 ln1 k1]::F)) r.1:=by
 refine qbA Tryz.func56 rfl (m:=19) rfl rfl ?_
 obtain rfl:=(h.sl 0 rfl).2
 refine X0 9 rfl ?_
 obtain ⟨o1,hF,hK1⟩:=qe hF
 refine ql (rL (fun m e w'=>∃ (x1:(List Int)) (i1:Int) (i2:Int),qaA a m x1 i1 i2=some o1∧e=[(0,.slice p1 a.length k1),(1,.int .i64 i1),(5,.int .i64 i2)]∧SH w0 w' (Ch.own S1 (x1:List Int) [.slice p1 a.length k1]::F)) n ⟨_,_,_,hF,rfl,h⟩ rfl ?_)
 rintro m1 e1 w1 ⟨x1,i1,i2,hF,rfl,h⟩
 rcases m1 with _|m1
 ·cases hF
 refine X0 8 rfl (qg rfl hF ?_ ?_)<;>intro hF
 ·refine X0 8 rfl ?_
  obtain ⟨y1,hy1,hF,he1,b1,_,q1,cs1,hp1,hq1,rfl,hc2⟩:=(h.sl 0 rfl).1.ix hF
  exact zx hp1 hq1 ⟨he1.1,qI he1.2.1 (h.sl 0 rfl).2⟩ rfl (qbK qb 0 0 i1 h rfl hy1 hp1 hq1 rfl hc2 rfl rfl rfl rfl rfl rfl rfl fun w2 h=>X0 12 rfl (rK ⟨_,_,_,hF,rfl,h⟩ rfl))
 refine qq rfl ?_
 obtain rfl:=qa hF;replace hF:=hK1
 refine X0 5 rfl ?_
 obtain rfl:=qa hF
 exact qgz qb ⟨_,h⟩ ⟨rfl,trivial⟩
def qd8:Nat→Int→ByteArray→Option (Int × ByteArray)
 | 0,_,_=>none
 | n+1,i1,z1 =>
  bif decide (i1 > 0) then
   (catB (strOf ([(⟨IntKind.wrap .u8 (W64 (48+(i1.tmod 10)))⟩:IntK .u8)]:List (IntK .u8))) z1).bind fun z2 =>
   qd8 n (W64 (i1.tdiv 10)) z2
  else
   some (i1,z1)
def qcY (n:Nat) (k:Int):Option ByteArray :=
 bif decide (k≤0) then some (⟨#[109,48]⟩:ByteArray) else
 (qd8 n k (⟨#[]⟩:ByteArray)).bind fun o=>match o with
 | (_,z1) =>
  (catB (⟨#[109]⟩:ByteArray) z1).bind fun z3 =>
  some z3
theorem qef {k:Int}  {r:ByteArray} (hF:qcY n k=some r):RetV Tryz.prog 142 [.int .i64 k] w r:=by
 refine zV 20 Tryz.func142 rfl fun h=>X0 10 rfl (qg rfl hF ?_ ?_)<;>intro hF
 ·refine X0 4 rfl ?_
  obtain rfl:=qa hF
  exact qW qb (ρ:=ByteArray) [_] h ⟨rfl,trivial⟩ (qeU _ _)
 refine X0 6 rfl ?_
 obtain ⟨o1,hF,hK1⟩:=qe hF
 refine ql (rL (fun m e w'=>∃ (i1:Int) (z1:ByteArray),qd8 m i1 z1=some o1∧e=[(0,.int .i64 i1),(3,.string z1)]∧SH w w' []) n ⟨_,_,hF,rfl,h⟩ rfl ?_)
 rintro m1 e1 w1 ⟨i1,z1,hF,rfl,h⟩
 rcases m1 with _|m1
 ·cases hF
 refine X0 6 rfl (qg rfl hF ?_ ?_)<;>intro hF
 ·refine X0 8 rfl (qR qb [.tmp 11] _ ([(⟨IntKind.wrap .u8 (W64 (48+(i1.tmod 10)))⟩:IntK .u8)]:List (IntK .u8)) h rfl rfl rfl rfl rfl rfl rfl rfl rfl ⟨rfl,trivial⟩ rfl fun w2 p1 S1 h=>r_v (qkm qb (h.sl 0 rfl).1 (h.sl 0 rfl).2 rfl ⟨rfl,rfl⟩ ⟨rfl,rfl⟩ rfl rfl) rfl (zp1 rfl ?_))
  obtain ⟨z2,hx1,hF⟩:=qe hF
  obtain ⟨g1,hx1⟩:=qan hx1
  refine r_v (qd6 g1 rfl rfl) rfl ?_
  rw [hx1]
  refine X0 8 rfl ?_
  replace h:=h.pick [] rfl
  exact rK ⟨_,_,hF,rfl,h⟩ rfl
 refine qq rfl ?_
 obtain rfl:=qa hF;replace hF:=hK1
 refine X0 3 rfl ?_
 obtain ⟨z3,hx2,hF⟩:=qe hF
 obtain ⟨g2,hx2⟩:=qan hx2
 refine r_v (qd6 g2 rfl rfl) rfl ?_
 rw [hx2]
 refine X0 2 rfl ?_
 obtain rfl:=qa hF
 exact qW qb (ρ:=ByteArray) [_] h ⟨rfl,trivial⟩ (qeU _ _)
def qdf (a:(List qM)):Nat→(List qM)→Int→Int→Option ((List qM) × Int × Int)
 | 0,_,_,_=>none
 | n+1,x1,i1,i2 =>
  bif decide (i2<(a.length:Int)) then
   (qcY n i1).bind fun r1 =>
   (idx x1 i2).bind fun y1 =>
   (idx (setS x1 i2 ({ y1 with Aq:=r1 })) i2).bind fun y2 =>
   (idx (setS (setS x1 i2 ({ y1 with Aq:=r1 })) i2 ({ y2 with Bl:=W64 (i1+1) })) i2).bind fun y3 =>
   (idx (setS (setS (setS x1 i2 ({ y1 with Aq:=r1 })) i2 ({ y2 with Bl:=W64 (i1+1) })) i2 ({ y3 with Bk:=W64 ((W64 (i1+1))+1) })) i2).bind fun y4 =>
   qdf a n (setS (setS (setS (setS x1 i2 ({ y1 with Aq:=r1 })) i2 ({ y2 with Bl:=W64 (i1+1) })) i2 ({ y3 with Bk:=W64 ((W64 (i1+1))+1) })) i2 ({ y4 with Be:=(((W64 ((W64 ((W64 (i1+1))+1))+1)).tmod 3)==0) })) (W64 ((W64 ((W64 ((W64 (i1+1))+1))+1))+1)) (W64 (i2+1))
  else
   some (x1,i1,i2)
def qii (n:Nat) (a:(List qM)) (k:Int):Option (Int × (List qM)) :=
 (qdf a n a k 0).bind fun o=>match o with
 | (x1,i1,_) =>
  some (i1,x1)
theorem qkf {n:Nat} {w0 w:World} {F:List Ch} {a:(List qM)} {k:Int} {S1:Nat→Prop} {p1:Option Addr} {ln1 k1:Nat} (h:SH w0 w (Ch.own S1 (a:List qM) [.slice p1 ln1 k1]::F)) {r:(Int × (List qM))} (hF:qii n a k=some r):RetN Tryz.prog 143 [.slice p1 ln1 k1,.int .i64 k] w (fun w'=>∃ Z0:Nat→Prop,SH w0 w' (Ch.own Z0 (r.2:List qM) [.slice p1 ln1 k1]::F)) r.1:=by
 refine qbA Tryz.func143 rfl (m:=44) rfl rfl ?_
 obtain rfl:=(h.sl 0 rfl).2
 refine X0 9 rfl ?_
 obtain ⟨o1,hF,hK1⟩:=qe hF
 refine ql (rL (fun m e w'=>∃ (x1:(List qM)) (i1:Int) (i2:Int),qdf a m x1 i1 i2=some o1∧e=[(0,.slice p1 a.length k1),(1,.int .i64 i1),(5,.int .i64 i2)]∧SH w0 w' (Ch.own S1 (x1:List qM) [.slice p1 a.length k1]::F)) n ⟨_,_,_,hF,rfl,h⟩ rfl ?_)
 rintro m1 e1 w1 ⟨x1,i1,i2,hF,rfl,h⟩
 rcases m1 with _|m1
 ·cases hF
 refine X0 8 rfl (qg rfl hF ?_ ?_)<;>intro hF
 ·refine X0 8 rfl (zcS h hF qef rfl fun r1 w2 h hF=>?_)
  obtain ⟨y1,hy1,hF,he1,b1,_,q1,cs1,hp1,hq1,hr2,hc2⟩:=(h.sl 0 rfl).1.ix hF
  obtain rfl:=qao hr2
  refine zx hp1 hq1 ⟨he1.1,qI he1.2.1 (h.sl 0 rfl).2⟩ rfl (zp1 rfl (qbK qb 0 0 ({ y1 with Aq:=r1 }:qM) h rfl hy1 hp1 hq1 (qcP y1) hc2 rfl rfl rfl (qcP ({ y1 with Aq:=r1 })) rfl rfl rfl fun w3 h=>X0 12 rfl ?_))
  obtain ⟨y2,hy2,hF,he2,b2,_,q2,cs2,hp2,hq2,hr3,hc3⟩:=(h.sl 0 rfl).1.ix hF
  obtain rfl:=qao hr3
  refine zx hp2 hq2 ⟨he2.1,qI he2.2.1 (h.sl 0 rfl).2⟩ rfl (zp1 rfl (qbK qb 0 1 ({ y2 with Bl:=W64 (i1+1) }:qM) h rfl hy2 hp2 hq2 (qcP y2) hc3 rfl rfl rfl (qcP ({ y2 with Bl:=W64 (i1+1) })) rfl rfl rfl fun w4 h=>X0 12 rfl ?_))
  obtain ⟨y3,hy3,hF,he3,b3,_,q3,cs3,hp3,hq3,hr4,hc4⟩:=(h.sl 0 rfl).1.ix hF
  obtain rfl:=qao hr4
  refine zx hp3 hq3 ⟨he3.1,qI he3.2.1 (h.sl 0 rfl).2⟩ rfl (zp1 rfl (qbK qb 0 2 ({ y3 with Bk:=W64 ((W64 (i1+1))+1) }:qM) h rfl hy3 hp3 hq3 (qcP y3) hc4 rfl rfl rfl (qcP ({ y3 with Bk:=W64 ((W64 (i1+1))+1) })) rfl rfl rfl fun w5 h=>X0 14 rfl ?_))
  obtain ⟨y4,hy4,hF,he4,b4,_,q4,cs4,hp4,hq4,hr5,hc5⟩:=(h.sl 0 rfl).1.ix hF
  obtain rfl:=qao hr5
  exact zx hp4 hq4 ⟨he4.1,qI he4.2.1 (h.sl 0 rfl).2⟩ rfl (zp1 rfl (qbK qb 0 3 ({ y4 with Be:=(((W64 ((W64 ((W64 (i1+1))+1))+1)).tmod 3)==0) }:qM) h rfl hy4 hp4 hq4 (qcP y4) hc5 rfl rfl rfl (qcP ({ y4 with Be:=(((W64 ((W64 ((W64 (i1+1))+1))+1)).tmod 3)==0) })) rfl rfl rfl fun w6 h=>X0 12 rfl (rK ⟨_,_,_,hF,rfl,h⟩ rfl)))
 refine qq rfl ?_
 obtain rfl:=qa hF;replace hF:=hK1
 refine X0 5 rfl ?_
 obtain rfl:=qa hF
 exact qgz qb ⟨_,h⟩ ⟨rfl,trivial⟩
def qcf (a:(List qp)):Nat→(List qp)→Int→Int→Option ((List qp) × Int × Int)
 | 0,_,_,_=>none
 | n+1,x1,i1,i2 =>
  bif decide (i2<(a.length:Int)) then
   (idx x1 i2).bind fun y1 =>
   (qQ n y1.Bb i1).bind fun o=>match o with
    | (r1,x2) =>
     (qQ n y1.Ba r1).bind fun o=>match o with
      | (r2,x3) =>
       (qQ n y1.Au r2).bind fun o=>match o with
        | (r3,x4) =>
         qcf a n (setS x1 i2 (⟨x2,x3,x4⟩:qp)) r3 (W64 (i2+1))
  else
   some (x1,i1,i2)
def qfL (n:Nat) (a:(List qp)) (k:Int):Option (Int × (List qp)) :=
 (qcf a n a k 0).bind fun o=>match o with
 | (x1,i1,_) =>
  some (i1,x1)
theorem qhc {n:Nat} {w0 w:World} {F:List Ch} {a:(List qp)} {k:Int} {S1:Nat→Prop} {p1:Option Addr} {ln1 k1:Nat} (h:SH w0 w (Ch.own S1 (a:List qp) [.slice p1 ln1 k1]::F)) {r:(Int × (List qp))} (hF:qfL n a k=some r):RetN Tryz.prog 172 [.slice p1 ln1 k1,.int .i64 k] w (fun w'=>∃ Z0:Nat→Prop,SH w0 w' (Ch.own Z0 (r.2:List qp) [.slice p1 ln1 k1]::F)) r.1:=by
 refine qbA Tryz.func172 rfl (m:=34) rfl rfl ?_
 obtain rfl:=(h.sl 0 rfl).2
 refine X0 9 rfl ?_
 obtain ⟨o1,hF,hK1⟩:=qe hF
 refine ql (rL (fun m e w'=>∃ (S2:Nat→Prop) (x1:(List qp)) (i1:Int) (i2:Int),qcf a m x1 i1 i2=some o1∧e=[(0,.slice p1 a.length k1),(1,.int .i64 i1),(5,.int .i64 i2)]∧SH w0 w' (Ch.own S2 (x1:List qp) [.slice p1 a.length k1]::F)) n ⟨_,_,_,_,hF,rfl,h⟩ rfl ?_)
 rintro m1 e1 w1 ⟨S2,x1,i1,i2,hF,rfl,h⟩
 rcases m1 with _|m1
 ·cases hF
 refine X0 8 rfl (qg rfl hF ?_ ?_)<;>intro hF
 ·refine X0 7 rfl ?_
  obtain ⟨y1,hy1,hF⟩:=qe hF
  have he1:=qaX hy1
  obtain ⟨S3,S4,cs1,h⟩:=h.take hy1
  obtain ⟨p2,k2,p3,k3,p4,k4,rfl,-,-,-⟩:=qaP (h.own 0 rfl)
  obtain ⟨S5,S6,S7,h⟩:=qnS h
  obtain ⟨b1,hp1,-,-,hl2⟩:=h.holeAt 3 rfl
  obtain ⟨q1,hq1⟩:∃ q,q=0+(i2).toNat*GoT.k qp:=⟨_,rfl⟩
  refine zx hp1 hq1 ⟨he1.1,qI he1.2.1 hl2⟩ rfl (zp1 rfl (zc 0 (qbL h 3 rfl hp1 hq1) rfl (zp1 rfl ?_)))
  replace h:=h.pickT 4 [2,0,1,3] rfl
  obtain ⟨o2,hr1,hF⟩:=qe hF
  obtain ⟨r1,x2⟩:=o2
  refine qbv r1 (cB 56 rfl) (qZ h hr1) rfl rfl rfl rfl ?_
  rintro w2 ⟨S8,h⟩
  refine X0 6 rfl ?_
  obtain ⟨b2,hp2,-,-,hl4⟩:=h.holeAt 3 rfl
  obtain ⟨q2,hq2⟩:∃ q,q=0+(i2).toNat*GoT.k qp:=⟨_,rfl⟩
  refine zx hp2 hq2 ⟨he1.1,qI he1.2.1 hl4⟩ rfl (zp1 rfl (zc 1 (qbL h 3 rfl hp2 hq2) rfl (zp1 rfl ?_)))
  replace h:=h.pickT 4 [2,0,1,3] rfl
  obtain ⟨o3,hr2,hF⟩:=qe hF
  obtain ⟨r2,x3⟩:=o3
  refine qbv r2 (cB 56 rfl) (qZ h hr2) rfl rfl rfl rfl ?_
  rintro w3 ⟨S9,h⟩
  refine X0 5 rfl ?_
  obtain ⟨b3,hp3,-,-,hl6⟩:=h.holeAt 3 rfl
  obtain ⟨q3,hq3⟩:∃ q,q=0+(i2).toNat*GoT.k qp:=⟨_,rfl⟩
  refine zx hp3 hq3 ⟨he1.1,qI he1.2.1 hl6⟩ rfl (zp1 rfl (zc 2 (qbL h 3 rfl hp3 hq3) rfl (zp1 rfl ?_)))
  replace h:=h.pickT 4 [2,0,1,3] rfl
  obtain ⟨o4,hr3,hF⟩:=qe hF
  obtain ⟨r3,x4⟩:=o4
  refine qbv r3 (cB 56 rfl) (qZ h hr3) rfl rfl rfl rfl ?_
  rintro w4 ⟨S10,h⟩
  refine X0 8 rfl ?_
  obtain ⟨S11,h⟩:=h.gatherT 4 [3] (qm6 (⟨x2,x3,x4⟩:qp) h (qaC 2 h rfl) (qaC 1 h rfl) (qaC 0 h rfl) (by rfl) (by rfl)) rfl
  replace h:=h.put
  obtain ⟨S12,h⟩:=qkT (S:=_) h
  exact rK ⟨_,_,_,_,hF,rfl,h⟩ rfl
 refine qq rfl ?_
 obtain rfl:=qa hF;replace hF:=hK1
 refine X0 5 rfl ?_
 obtain rfl:=qa hF
 exact qgz qb ⟨_,h⟩ ⟨rfl,trivial⟩
def qc5 (a:(List qF)):Nat→(List qF)→Int→Int→Option ((List qF) × Int × Int)
 | 0,_,_,_=>none
 | n+1,x1,i1,i2 =>
  bif decide (i2<(a.length:Int)) then
   (idx x1 i2).bind fun y1 =>
   (qfL n y1.Az (W64 ((W64 ((W64 ((W64 (i1+1))+1))+1))+1))).bind fun o=>match o with
    | (r1,x2) =>
     (qfL n y1.Bi r1).bind fun o=>match o with
      | (r2,x3) =>
       qc5 a n (setS x1 i2 (⟨i1,W64 (i1+1),W64 ((W64 (i1+1))+1),W64 ((W64 ((W64 (i1+1))+1))+1),x2,x3⟩:qF)) r2 (W64 (i2+1))
  else
   some (x1,i1,i2)
def qil (n:Nat) (a:(List qF)) (k:Int):Option (Int × (List qF)) :=
 (qc5 a n a k 0).bind fun o=>match o with
 | (x1,i1,_) =>
  some (i1,x1)
theorem qki {n:Nat} {w0 w:World} {F:List Ch} {a:(List qF)} {k:Int} {S1:Nat→Prop} {p1:Option Addr} {ln1 k1:Nat} (h:SH w0 w (Ch.own S1 (a:List qF) [.slice p1 ln1 k1]::F)) {r:(Int × (List qF))} (hF:qil n a k=some r):RetN Tryz.prog 144 [.slice p1 ln1 k1,.int .i64 k] w (fun w'=>∃ Z0:Nat→Prop,SH w0 w' (Ch.own Z0 (r.2:List qF) [.slice p1 ln1 k1]::F)) r.1:=by
 refine qbA Tryz.func144 rfl (m:=55) rfl rfl ?_
 obtain rfl:=(h.sl 0 rfl).2
 refine X0 9 rfl ?_
 obtain ⟨o1,hF,hK1⟩:=qe hF
 refine ql (rL (fun m e w'=>∃ (S2:Nat→Prop) (x1:(List qF)) (i1:Int) (i2:Int),qc5 a m x1 i1 i2=some o1∧e=[(0,.slice p1 a.length k1),(1,.int .i64 i1),(5,.int .i64 i2)]∧SH w0 w' (Ch.own S2 (x1:List qF) [.slice p1 a.length k1]::F)) n ⟨_,_,_,_,hF,rfl,h⟩ rfl ?_)
 rintro m1 e1 w1 ⟨S2,x1,i1,i2,hF,rfl,h⟩
 rcases m1 with _|m1
 ·cases hF
 refine X0 8 rfl (qg rfl hF ?_ ?_)<;>intro hF
 ·refine X0 8 rfl ?_
  obtain ⟨y1,hy1,hF⟩:=qe hF
  have he1:=qaX hy1
  obtain ⟨S3,S4,cs1,h⟩:=h.take hy1
  obtain ⟨p2,k2,p3,k3,rfl,-,-⟩:=qak (h.own 0 rfl)
  obtain ⟨S5,S6,h⟩:=qo4 h
  obtain ⟨b1,hp1,-,-,hl2⟩:=h.holeAt 2 rfl
  obtain ⟨q1,hq1⟩:∃ q,q=0+(i2).toNat*GoT.k qF:=⟨_,rfl⟩
  refine zx hp1 hq1 ⟨he1.1,qI he1.2.1 hl2⟩ rfl (zp1 rfl (qe9 qb 2 0 h rfl hp1 hq1 rfl rfl rfl rfl rfl rfl fun w2 h=>?_))
  replace h:SH _ _ (Ch.own S6 (y1.Bi:List qp) [.slice p3 y1.Bi.length k3]::Ch.own S5 (y1.Az:List qp) [.slice p2 y1.Az.length k2]::Ch.hole S4 (x1:List qF) p1 a.length k1 (i2).toNat [.int .i64 i1,.int .i64 y1.Av,.int .i64 y1.To,.int .i64 y1.Bf,.slice p2 y1.Az.length k2,.slice p3 y1.Bi.length k3]::F):=h
  refine X0 12 rfl ?_
  obtain ⟨b2,hp2,-,-,hl4⟩:=h.holeAt 2 rfl
  obtain ⟨q2,hq2⟩:∃ q,q=0+(i2).toNat*GoT.k qF:=⟨_,rfl⟩
  refine zx hp2 hq2 ⟨he1.1,qI he1.2.1 hl4⟩ rfl (zp1 rfl (qe9 qb 2 1 h rfl hp2 hq2 rfl rfl rfl rfl rfl rfl fun w3 h=>X0 12 rfl ?_))
  obtain ⟨b3,hp3,-,-,hl6⟩:=h.holeAt 2 rfl
  obtain ⟨q3,hq3⟩:∃ q,q=0+(i2).toNat*GoT.k qF:=⟨_,rfl⟩
  refine zx hp3 hq3 ⟨he1.1,qI he1.2.1 hl6⟩ rfl (zp1 rfl (qe9 qb 2 2 h rfl hp3 hq3 rfl rfl rfl rfl rfl rfl fun w4 h=>X0 12 rfl ?_))
  obtain ⟨b4,hp4,-,-,hl8⟩:=h.holeAt 2 rfl
  obtain ⟨q4,hq4⟩:∃ q,q=0+(i2).toNat*GoT.k qF:=⟨_,rfl⟩
  refine zx hp4 hq4 ⟨he1.1,qI he1.2.1 hl8⟩ rfl (zp1 rfl (qe9 qb 2 3 h rfl hp4 hq4 rfl rfl rfl rfl rfl rfl fun w5 h=>?_))
  replace h:SH _ _ (Ch.own S6 (y1.Bi:List qp) [.slice p3 y1.Bi.length k3]::Ch.own S5 (y1.Az:List qp) [.slice p2 y1.Az.length k2]::Ch.hole S4 (x1:List qF) p1 a.length k1 (i2).toNat [.int .i64 i1,.int .i64 (W64 (i1+1)),.int .i64 (W64 ((W64 (i1+1))+1)),.int .i64 (W64 ((W64 ((W64 (i1+1))+1))+1)),.slice p2 y1.Az.length k2,.slice p3 y1.Bi.length k3]::F):=h
  refine X0 11 rfl ?_
  obtain ⟨b5,hp5,-,-,hl10⟩:=h.holeAt 2 rfl
  obtain ⟨q5,hq5⟩:∃ q,q=0+(i2).toNat*GoT.k qF:=⟨_,rfl⟩
  refine zx hp5 hq5 ⟨he1.1,qI he1.2.1 hl10⟩ rfl (zp1 rfl (zc 4 (qbL h 2 rfl hp5 hq5) rfl (zp1 rfl ?_)))
  replace h:=h.pickT 3 [1,0,2] rfl
  obtain ⟨o2,hr1,hF⟩:=qe hF
  obtain ⟨r1,x2⟩:=o2
  refine qbv r1 (cB 172 rfl) (qhc h hr1) rfl rfl rfl rfl ?_
  rintro w6 ⟨S7,h⟩
  refine X0 5 rfl ?_
  obtain ⟨b6,hp6,-,-,hl12⟩:=h.holeAt 2 rfl
  obtain ⟨q6,hq6⟩:∃ q,q=0+(i2).toNat*GoT.k qF:=⟨_,rfl⟩
  refine zx hp6 hq6 ⟨he1.1,qI he1.2.1 hl12⟩ rfl (zp1 rfl (zc 5 (qbL h 2 rfl hp6 hq6) rfl (zp1 rfl ?_)))
  replace h:=h.pickT 3 [1,0,2] rfl
  obtain ⟨o3,hr2,hF⟩:=qe hF
  obtain ⟨r2,x3⟩:=o3
  refine qbv r2 (cB 172 rfl) (qhc h hr2) rfl rfl rfl rfl ?_
  rintro w7 ⟨S8,h⟩
  refine X0 8 rfl ?_
  obtain ⟨S9,h⟩:=h.gatherT 3 [2] (qpz (⟨i1,W64 (i1+1),W64 ((W64 (i1+1))+1),W64 ((W64 ((W64 (i1+1))+1))+1),x2,x3⟩:qF) h (qu (S:=fun _=>False) rfl) (qu (S:=fun _=>False) rfl) (qu (S:=fun _=>False) rfl) (qu (S:=fun _=>False) rfl) (qaC 1 h rfl) (qaC 0 h rfl) (by rfl) (by rfl) (by rfl) (by rfl) (by rfl)) rfl
  replace h:=h.put
  obtain ⟨S10,h⟩:=qkT (S:=_) h
  exact rK ⟨_,_,_,_,hF,rfl,h⟩ rfl
 refine qq rfl ?_
 obtain rfl:=qa hF;replace hF:=hK1
 refine X0 5 rfl ?_
 obtain rfl:=qa hF
 exact qgz qb ⟨_,h⟩ ⟨rfl,trivial⟩
def qcB (a:(List qn)):Nat→(List qn)→Int→Int→Option ((List qn) × Int × Int)
 | 0,_,_,_=>none
 | n+1,x1,i1,i2 =>
  bif decide (i2<(a.length:Int)) then
   (qcY n i1).bind fun r1 =>
   (idx x1 i2).bind fun y1 =>
   (qii n y1.Am (W64 ((W64 (i1+1))+1))).bind fun o=>match o with
    | (r2,x2) =>
     (qil n y1.Ar r2).bind fun o=>match o with
      | (r3,x3) =>
       (qQ n y1.Ay r3).bind fun o=>match o with
        | (r4,x4) =>
         qcB a n (setS x1 i2 (⟨r1,W64 (i1+1),x2,x3,x4,r4,W64 (r4+1)⟩:qn)) (W64 ((W64 (r4+1))+1)) (W64 (i2+1))
  else
   some (x1,i1,i2)
def qhL (n:Nat) (a:(List qn)) (k:Int):Option (Int × (List qn)) :=
 (qcB a n a k 0).bind fun o=>match o with
 | (x1,i1,_) =>
  some (i1,x1)
theorem qj4 {n:Nat} {w0 w:World} {F:List Ch} {a:(List qn)} {k:Int} {S1:Nat→Prop} {p1:Option Addr} {ln1 k1:Nat} (h:SH w0 w (Ch.own S1 (a:List qn) [.slice p1 ln1 k1]::F)) {r:(Int × (List qn))} (hF:qhL n a k=some r):RetN Tryz.prog 98 [.slice p1 ln1 k1,.int .i64 k] w (fun w'=>∃ Z0:Nat→Prop,SH w0 w' (Ch.own Z0 (r.2:List qn) [.slice p1 ln1 k1]::F)) r.1:=by
 refine qbA Tryz.func98 rfl (m:=63) rfl rfl ?_
 obtain rfl:=(h.sl 0 rfl).2
 refine X0 9 rfl ?_
 obtain ⟨o1,hF,hK1⟩:=qe hF
 refine ql (rL (fun m e w'=>∃ (S2:Nat→Prop) (x1:(List qn)) (i1:Int) (i2:Int),qcB a m x1 i1 i2=some o1∧e=[(0,.slice p1 a.length k1),(1,.int .i64 i1),(5,.int .i64 i2)]∧SH w0 w' (Ch.own S2 (x1:List qn) [.slice p1 a.length k1]::F)) n ⟨_,_,_,_,hF,rfl,h⟩ rfl ?_)
 rintro m1 e1 w1 ⟨S2,x1,i1,i2,hF,rfl,h⟩
 rcases m1 with _|m1
 ·cases hF
 refine X0 8 rfl (qg rfl hF ?_ ?_)<;>intro hF
 ·refine X0 8 rfl (zcS h hF qef rfl fun r1 w2 h hF=>?_)
  obtain ⟨y1,hy1,hF⟩:=qe hF
  have he1:=qaX hy1
  obtain ⟨S3,S4,cs1,h⟩:=h.take hy1
  obtain ⟨p2,k2,p3,k3,p4,k4,rfl,-,-,-⟩:=qL (h.own 0 rfl)
  obtain ⟨S5,S6,S7,h⟩:=qoz h
  obtain ⟨b1,hp1,-,-,hl2⟩:=h.holeAt 3 rfl
  obtain ⟨q1,hq1⟩:∃ q,q=0+(i2).toNat*GoT.k qn:=⟨_,rfl⟩
  refine zx hp1 hq1 ⟨he1.1,qI he1.2.1 hl2⟩ rfl (zp1 rfl (qe9 qb 3 0 h rfl hp1 hq1 rfl rfl rfl rfl rfl rfl fun w3 h=>?_))
  replace h:SH _ _ (Ch.own S7 (y1.Ay:List Int) [.slice p4 y1.Ay.length k4]::Ch.own S6 (y1.Ar:List qF) [.slice p3 y1.Ar.length k3]::Ch.own S5 (y1.Am:List qM) [.slice p2 y1.Am.length k2]::Ch.hole S4 (x1:List qn) p1 a.length k1 (i2).toNat [.string r1,.int .i64 y1.Ap,.slice p2 y1.Am.length k2,.slice p3 y1.Ar.length k3,.slice p4 y1.Ay.length k4,.int .i64 y1.Bo,.int .i64 y1.Bj]::F):=h
  refine X0 12 rfl ?_
  obtain ⟨b2,hp2,-,-,hl4⟩:=h.holeAt 3 rfl
  obtain ⟨q2,hq2⟩:∃ q,q=0+(i2).toNat*GoT.k qn:=⟨_,rfl⟩
  refine zx hp2 hq2 ⟨he1.1,qI he1.2.1 hl4⟩ rfl (zp1 rfl (qe9 qb 3 1 h rfl hp2 hq2 rfl rfl rfl rfl rfl rfl fun w4 h=>X0 11 rfl ?_))
  obtain ⟨b3,hp3,-,-,hl6⟩:=h.holeAt 3 rfl
  obtain ⟨q3,hq3⟩:∃ q,q=0+(i2).toNat*GoT.k qn:=⟨_,rfl⟩
  refine zx hp3 hq3 ⟨he1.1,qI he1.2.1 hl6⟩ rfl (zp1 rfl (zc 2 (qbL h 3 rfl hp3 hq3) rfl (zp1 rfl ?_)))
  replace h:=h.pickT 4 [2,0,1,3] rfl
  obtain ⟨o2,hr2,hF⟩:=qe hF
  obtain ⟨r2,x2⟩:=o2
  refine qbv r2 (cB 143 rfl) (qkf h hr2) rfl rfl rfl rfl ?_
  rintro w5 ⟨S8,h⟩
  refine X0 6 rfl ?_
  obtain ⟨b4,hp4,-,-,hl8⟩:=h.holeAt 3 rfl
  obtain ⟨q4,hq4⟩:∃ q,q=0+(i2).toNat*GoT.k qn:=⟨_,rfl⟩
  refine zx hp4 hq4 ⟨he1.1,qI he1.2.1 hl8⟩ rfl (zp1 rfl (zc 3 (qbL h 3 rfl hp4 hq4) rfl (zp1 rfl ?_)))
  replace h:=h.pickT 4 [2,0,1,3] rfl
  obtain ⟨o3,hr3,hF⟩:=qe hF
  obtain ⟨r3,x3⟩:=o3
  refine qbv r3 (cB 144 rfl) (qki h hr3) rfl rfl rfl rfl ?_
  rintro w6 ⟨S9,h⟩
  refine X0 6 rfl ?_
  obtain ⟨b5,hp5,-,-,hl10⟩:=h.holeAt 3 rfl
  obtain ⟨q5,hq5⟩:∃ q,q=0+(i2).toNat*GoT.k qn:=⟨_,rfl⟩
  refine zx hp5 hq5 ⟨he1.1,qI he1.2.1 hl10⟩ rfl (zp1 rfl (zc 4 (qbL h 3 rfl hp5 hq5) rfl (zp1 rfl ?_)))
  replace h:=h.pickT 4 [2,0,1,3] rfl
  obtain ⟨o4,hr4,hF⟩:=qe hF
  obtain ⟨r4,x4⟩:=o4
  refine qbv r4 (cB 56 rfl) (qZ h hr4) rfl rfl rfl rfl ?_
  rintro w7 ⟨S10,h⟩
  refine X0 7 rfl ?_
  obtain ⟨b6,hp6,-,-,hl12⟩:=h.holeAt 3 rfl
  obtain ⟨q6,hq6⟩:∃ q,q=0+(i2).toNat*GoT.k qn:=⟨_,rfl⟩
  refine zx hp6 hq6 ⟨he1.1,qI he1.2.1 hl12⟩ rfl (zp1 rfl (qe9 qb 3 5 h rfl hp6 hq6 rfl rfl rfl rfl rfl rfl fun w8 h=>X0 12 rfl ?_))
  obtain ⟨b7,hp7,-,-,hl14⟩:=h.holeAt 3 rfl
  obtain ⟨q7,hq7⟩:∃ q,q=0+(i2).toNat*GoT.k qn:=⟨_,rfl⟩
  refine zx hp7 hq7 ⟨he1.1,qI he1.2.1 hl14⟩ rfl (zp1 rfl (qe9 qb 3 6 h rfl hp7 hq7 rfl rfl rfl rfl rfl rfl fun w9 h=>?_))
  replace h:SH _ _ (Ch.own S10 (x4:List Int) [.slice p4 y1.Ay.length k4]::Ch.own S9 (x3:List qF) [.slice p3 y1.Ar.length k3]::Ch.own S8 (x2:List qM) [.slice p2 y1.Am.length k2]::Ch.hole S4 (x1:List qn) p1 a.length k1 (i2).toNat [.string r1,.int .i64 (W64 (i1+1)),.slice p2 y1.Am.length k2,.slice p3 y1.Ar.length k3,.slice p4 y1.Ay.length k4,.int .i64 r4,.int .i64 (W64 (r4+1))]::F):=h
  refine X0 12 rfl ?_
  obtain ⟨S11,h⟩:=h.gatherT 4 [3] (qoj (⟨r1,W64 (i1+1),x2,x3,x4,r4,W64 (r4+1)⟩:qn) h (qu (S:=fun _=>False) rfl) (qu (S:=fun _=>False) rfl) (qaC 2 h rfl) (qaC 1 h rfl) (qaC 0 h rfl) (qu (S:=fun _=>False) rfl) (qu (S:=fun _=>False) rfl) (by rfl) (by rfl) (by rfl) (by rfl) (by rfl) (by rfl)) rfl
  replace h:=h.put
  obtain ⟨S12,h⟩:=qkT (S:=_) h
  exact rK ⟨_,_,_,_,hF,rfl,h⟩ rfl
 refine qq rfl ?_
 obtain rfl:=qa hF;replace hF:=hK1
 refine X0 5 rfl ?_
 obtain rfl:=qa hF
 exact qgz qb ⟨_,h⟩ ⟨rfl,trivial⟩
def qfw (n:Nat) (a:qh) (k:Int):Option (Int × (List qn)) :=
 (qhL n a.Ai k).bind fun o=>match o with
  | (r1,x1) =>
   some (r1,x1)
theorem qjs {n:Nat} {w0 w:World} {F:List Ch} {a:qh} {k:Int} {S1:Nat→Prop} {p1:Option Addr} {ln1 k1:Nat} (h:SH w0 w (Ch.own S1 (a.Ai:List qn) [.slice p1 ln1 k1]::F)) {r:(Int × (List qn))} (hF:qfw n a k=some r):RetN Tryz.prog 53 [.agg #[.slice p1 ln1 k1],.int .i64 k] w (fun w'=>∃ Z0:Nat→Prop,SH w0 w' (Ch.own Z0 (r.2:List qn) [.slice p1 ln1 k1]::F)) r.1:=by
 refine qbA Tryz.func53 rfl (m:=10) rfl rfl ?_
 obtain rfl:=(h.sl 0 rfl).2
 refine zSR (qr h rfl rfl fun w1 bb1 h=>X1 7 0 h rfl ?_)
 replace h:=h.pickT 2 [1,0] rfl
 obtain ⟨o1,hr1,hF⟩:=qe hF
 obtain ⟨r1,x1⟩:=o1
 refine qbv r1 (cB 98 rfl) (qj4 h hr1) rfl rfl rfl rfl ?_
 rintro w2 ⟨S2,h⟩
 refine X0 7 rfl ?_
 obtain rfl:=qa hF
 replace h:=h.pickT 2 [0] rfl
 exact qgz qb ⟨_,h⟩ ⟨rfl,trivial⟩
def qbs (a:(List qd)):Nat→(List qd)→Int→Int→Option ((List qd) × Int × Int)
 | 0,_,_,_=>none
 | n+1,x1,i1,i2 =>
  bif decide (i2<(a.length:Int)) then
   (qcY n i1).bind fun r1 =>
   (idx x1 i2).bind fun y1 =>
   (qQ n y1.Af (W64 ((W64 (i1+1))+1))).bind fun o=>match o with
    | (r2,x2) =>
     qbs a n (setS x1 i2 (⟨r1,W64 (i1+1),x2⟩:qd)) r2 (W64 (i2+1))
  else
   some (x1,i1,i2)
def qfN (n:Nat) (a:(List qd)) (k:Int):Option (Int × (List qd)) :=
 (qbs a n a k 0).bind fun o=>match o with
 | (x1,i1,_) =>
  some (i1,x1)
theorem qiS {n:Nat} {w0 w:World} {F:List Ch} {a:(List qd)} {k:Int} {S1:Nat→Prop} {p1:Option Addr} {ln1 k1:Nat} (h:SH w0 w (Ch.own S1 (a:List qd) [.slice p1 ln1 k1]::F)) {r:(Int × (List qd))} (hF:qfN n a k=some r):RetN Tryz.prog 99 [.slice p1 ln1 k1,.int .i64 k] w (fun w'=>∃ Z0:Nat→Prop,SH w0 w' (Ch.own Z0 (r.2:List qd) [.slice p1 ln1 k1]::F)) r.1:=by
 refine qbA Tryz.func99 rfl (m:=35) rfl rfl ?_
 obtain rfl:=(h.sl 0 rfl).2
 refine X0 9 rfl ?_
 obtain ⟨o1,hF,hK1⟩:=qe hF
 refine ql (rL (fun m e w'=>∃ (S2:Nat→Prop) (x1:(List qd)) (i1:Int) (i2:Int),qbs a m x1 i1 i2=some o1∧e=[(0,.slice p1 a.length k1),(1,.int .i64 i1),(5,.int .i64 i2)]∧SH w0 w' (Ch.own S2 (x1:List qd) [.slice p1 a.length k1]::F)) n ⟨_,_,_,_,hF,rfl,h⟩ rfl ?_)
 rintro m1 e1 w1 ⟨S2,x1,i1,i2,hF,rfl,h⟩
 rcases m1 with _|m1
 ·cases hF
 refine X0 8 rfl (qg rfl hF ?_ ?_)<;>intro hF
 ·refine X0 8 rfl (zcS h hF qef rfl fun r1 w2 h hF=>?_)
  obtain ⟨y1,hy1,hF⟩:=qe hF
  have he1:=qaX hy1
  obtain ⟨S3,S4,cs1,h⟩:=h.take hy1
  obtain ⟨p2,k2,rfl,-⟩:=qG (h.own 0 rfl)
  obtain ⟨S5,h⟩:=qlq h
  obtain ⟨b1,hp1,-,-,hl2⟩:=h.holeAt 1 rfl
  obtain ⟨q1,hq1⟩:∃ q,q=0+(i2).toNat*GoT.k qd:=⟨_,rfl⟩
  refine zx hp1 hq1 ⟨he1.1,qI he1.2.1 hl2⟩ rfl (zp1 rfl (qe9 qb 1 0 h rfl hp1 hq1 rfl rfl rfl rfl rfl rfl fun w3 h=>X0 12 rfl ?_))
  obtain ⟨b2,hp2,-,-,hl4⟩:=h.holeAt 1 rfl
  obtain ⟨q2,hq2⟩:∃ q,q=0+(i2).toNat*GoT.k qd:=⟨_,rfl⟩
  refine zx hp2 hq2 ⟨he1.1,qI he1.2.1 hl4⟩ rfl (zp1 rfl (qe9 qb 1 1 h rfl hp2 hq2 rfl rfl rfl rfl rfl rfl fun w4 h=>?_))
  replace h:SH _ _ (Ch.own S5 (y1.Af:List Int) [.slice p2 y1.Af.length k2]::Ch.hole S4 (x1:List qd) p1 a.length k1 (i2).toNat [.string r1,.int .i64 (W64 (i1+1)),.slice p2 y1.Af.length k2]::F):=h
  refine X0 10 rfl ?_
  obtain ⟨b3,hp3,-,-,hl6⟩:=h.holeAt 1 rfl
  obtain ⟨q3,hq3⟩:∃ q,q=0+(i2).toNat*GoT.k qd:=⟨_,rfl⟩
  refine zx hp3 hq3 ⟨he1.1,qI he1.2.1 hl6⟩ rfl (zp1 rfl (zc 2 (qbL h 1 rfl hp3 hq3) rfl (zp1 rfl ?_)))
  obtain ⟨o2,hr2,hF⟩:=qe hF
  obtain ⟨r2,x2⟩:=o2
  refine qbv r2 (cB 56 rfl) (qZ h hr2) rfl rfl rfl rfl ?_
  rintro w5 ⟨S6,h⟩
  refine X0 8 rfl ?_
  obtain ⟨S7,h⟩:=h.gatherT 2 [1] (qkp (⟨r1,W64 (i1+1),x2⟩:qd) h (qu (S:=fun _=>False) rfl) (qu (S:=fun _=>False) rfl) (qaC 0 h rfl) (by rfl) (by rfl)) rfl
  replace h:=h.put
  obtain ⟨S8,h⟩:=qkT (S:=_) h
  exact rK ⟨_,_,_,_,hF,rfl,h⟩ rfl
 refine qq rfl ?_
 obtain rfl:=qa hF;replace hF:=hK1
 refine X0 5 rfl ?_
 obtain rfl:=qa hF
 exact qgz qb ⟨_,h⟩ ⟨rfl,trivial⟩
def qbX (a:(List ByteArray)):Nat→(List ByteArray)→Int→Int→Option ((List ByteArray) × Int × Int)
 | 0,_,_,_=>none
 | n+1,x1,i1,i2 =>
  bif decide (i2<(a.length:Int)) then
   (qcY n i1).bind fun r1 =>
   (idx x1 i2).bind fun _ =>
   qbX a n (setS x1 i2 r1) (W64 (i1+1)) (W64 (i2+1))
  else
   some (x1,i1,i2)
def qgC (n:Nat) (a:(List ByteArray)) (k:Int):Option (Int × (List ByteArray)) :=
 (qbX a n a k 0).bind fun o=>match o with
 | (x1,i1,_) =>
  some (i1,x1)
theorem qjh {n:Nat} {w0 w:World} {F:List Ch} {a:(List ByteArray)} {k:Int} {S1:Nat→Prop} {p1:Option Addr} {ln1 k1:Nat} (h:SH w0 w (Ch.own S1 (a:List ByteArray) [.slice p1 ln1 k1]::F)) {r:(Int × (List ByteArray))} (hF:qgC n a k=some r):RetN Tryz.prog 100 [.slice p1 ln1 k1,.int .i64 k] w (fun w'=>∃ Z0:Nat→Prop,SH w0 w' (Ch.own Z0 (r.2:List ByteArray) [.slice p1 ln1 k1]::F)) r.1:=by
 refine qbA Tryz.func100 rfl (m:=20) rfl rfl ?_
 obtain rfl:=(h.sl 0 rfl).2
 refine X0 9 rfl ?_
 obtain ⟨o1,hF,hK1⟩:=qe hF
 refine ql (rL (fun m e w'=>∃ (x1:(List ByteArray)) (i1:Int) (i2:Int),qbX a m x1 i1 i2=some o1∧e=[(0,.slice p1 a.length k1),(1,.int .i64 i1),(5,.int .i64 i2)]∧SH w0 w' (Ch.own S1 (x1:List ByteArray) [.slice p1 a.length k1]::F)) n ⟨_,_,_,hF,rfl,h⟩ rfl ?_)
 rintro m1 e1 w1 ⟨x1,i1,i2,hF,rfl,h⟩
 rcases m1 with _|m1
 ·cases hF
 refine X0 8 rfl (qg rfl hF ?_ ?_)<;>intro hF
 ·refine X0 8 rfl (zcS h hF qef rfl fun r1 w2 h hF=>?_)
  obtain ⟨y1,hy1,hF,he1,b1,_,q1,cs1,hp1,hq1,rfl,hc2⟩:=(h.sl 0 rfl).1.ix hF
  exact zx hp1 hq1 ⟨he1.1,qI he1.2.1 (h.sl 0 rfl).2⟩ rfl (qbK qb 0 0 r1 h rfl hy1 hp1 hq1 rfl hc2 rfl rfl rfl rfl rfl rfl rfl fun w3 h=>X0 12 rfl (rK ⟨_,_,_,hF,rfl,h⟩ rfl))
 refine qq rfl ?_
 obtain rfl:=qa hF;replace hF:=hK1
 refine X0 5 rfl ?_
 obtain rfl:=qa hF
 exact qgz qb ⟨_,h⟩ ⟨rfl,trivial⟩
def qcC (a:(List qy)):Nat→(List qy)→Int→Int→Option ((List qy) × Int × Int)
 | 0,_,_,_=>none
 | n+1,x1,i1,i2 =>
  bif decide (i2<(a.length:Int)) then
   (qcY n i1).bind fun r1 =>
   (idx x1 i2).bind fun y1 =>
   (idx (setS x1 i2 ({ y1 with Aq:=r1 })) i2).bind fun y2 =>
   (idx (setS (setS x1 i2 ({ y1 with Aq:=r1 })) i2 ({ y2 with Bl:=W64 (i1+1) })) i2).bind fun y3 =>
   qcC a n (setS (setS (setS x1 i2 ({ y1 with Aq:=r1 })) i2 ({ y2 with Bl:=W64 (i1+1) })) i2 ({ y3 with Bn:=W64 ((W64 (i1+1))+1) })) (W64 ((W64 ((W64 (i1+1))+1))+1)) (W64 (i2+1))
  else
   some (x1,i1,i2)
def qhJ (n:Nat) (a:(List qy)) (k:Int):Option (Int × (List qy)) :=
 (qcC a n a k 0).bind fun o=>match o with
 | (x1,i1,_) =>
  some (i1,x1)
theorem qj0 {n:Nat} {w0 w:World} {F:List Ch} {a:(List qy)} {k:Int} {S1:Nat→Prop} {p1:Option Addr} {ln1 k1:Nat} (h:SH w0 w (Ch.own S1 (a:List qy) [.slice p1 ln1 k1]::F)) {r:(Int × (List qy))} (hF:qhJ n a k=some r):RetN Tryz.prog 101 [.slice p1 ln1 k1,.int .i64 k] w (fun w'=>∃ Z0:Nat→Prop,SH w0 w' (Ch.own Z0 (r.2:List qy) [.slice p1 ln1 k1]::F)) r.1:=by
 refine qbA Tryz.func101 rfl (m:=35) rfl rfl ?_
 obtain rfl:=(h.sl 0 rfl).2
 refine X0 9 rfl ?_
 obtain ⟨o1,hF,hK1⟩:=qe hF
 refine ql (rL (fun m e w'=>∃ (x1:(List qy)) (i1:Int) (i2:Int),qcC a m x1 i1 i2=some o1∧e=[(0,.slice p1 a.length k1),(1,.int .i64 i1),(5,.int .i64 i2)]∧SH w0 w' (Ch.own S1 (x1:List qy) [.slice p1 a.length k1]::F)) n ⟨_,_,_,hF,rfl,h⟩ rfl ?_)
 rintro m1 e1 w1 ⟨x1,i1,i2,hF,rfl,h⟩
 rcases m1 with _|m1
 ·cases hF
 refine X0 8 rfl (qg rfl hF ?_ ?_)<;>intro hF
 ·refine X0 8 rfl (zcS h hF qef rfl fun r1 w2 h hF=>?_)
  obtain ⟨y1,hy1,hF,he1,b1,_,q1,cs1,hp1,hq1,hr2,hc2⟩:=(h.sl 0 rfl).1.ix hF
  obtain rfl:=qah hr2
  refine zx hp1 hq1 ⟨he1.1,qI he1.2.1 (h.sl 0 rfl).2⟩ rfl (zp1 rfl (qbK qb 0 0 ({ y1 with Aq:=r1 }:qy) h rfl hy1 hp1 hq1 (qc6 y1) hc2 rfl rfl rfl (qc6 ({ y1 with Aq:=r1 })) rfl rfl rfl fun w3 h=>X0 12 rfl ?_))
  obtain ⟨y2,hy2,hF,he2,b2,_,q2,cs2,hp2,hq2,hr3,hc3⟩:=(h.sl 0 rfl).1.ix hF
  obtain rfl:=qah hr3
  refine zx hp2 hq2 ⟨he2.1,qI he2.2.1 (h.sl 0 rfl).2⟩ rfl (zp1 rfl (qbK qb 0 1 ({ y2 with Bl:=W64 (i1+1) }:qy) h rfl hy2 hp2 hq2 (qc6 y2) hc3 rfl rfl rfl (qc6 ({ y2 with Bl:=W64 (i1+1) })) rfl rfl rfl fun w4 h=>X0 12 rfl ?_))
  obtain ⟨y3,hy3,hF,he3,b3,_,q3,cs3,hp3,hq3,hr4,hc4⟩:=(h.sl 0 rfl).1.ix hF
  obtain rfl:=qah hr4
  exact zx hp3 hq3 ⟨he3.1,qI he3.2.1 (h.sl 0 rfl).2⟩ rfl (zp1 rfl (qbK qb 0 2 ({ y3 with Bn:=W64 ((W64 (i1+1))+1) }:qy) h rfl hy3 hp3 hq3 (qc6 y3) hc4 rfl rfl rfl (qc6 ({ y3 with Bn:=W64 ((W64 (i1+1))+1) })) rfl rfl rfl fun w5 h=>X0 12 rfl (rK ⟨_,_,_,hF,rfl,h⟩ rfl)))
 refine qq rfl ?_
 obtain rfl:=qa hF;replace hF:=hK1
 refine X0 5 rfl ?_
 obtain rfl:=qa hF
 exact qgz qb ⟨_,h⟩ ⟨rfl,trivial⟩
def qfI (n:Nat) (a:qc) (k:Int):Option (Int × (List qd) × (List ByteArray) × (List qy)) :=
 (qfN n a.Aa k).bind fun o=>match o with
  | (r1,x1) =>
   (qgC n a.Af r1).bind fun o=>match o with
    | (r2,x2) =>
     (qhJ n a.Ac r2).bind fun o=>match o with
      | (r3,x3) =>
       some (r3,x1,x2,x3)
theorem qjR {n:Nat} {w0 w:World} {F:List Ch} {a:qc} {k:Int} {S1:Nat→Prop} {p1:Option Addr} {ln1 k1:Nat} {S2:Nat→Prop} {p2:Option Addr} {ln2 k2:Nat} {S3:Nat→Prop} {p3:Option Addr} {ln3 k3:Nat} (h:SH w0 w (Ch.own S3 (a.Ac:List qy) [.slice p3 ln3 k3]::Ch.own S2 (a.Af:List ByteArray) [.slice p2 ln2 k2]::Ch.own S1 (a.Aa:List qd) [.slice p1 ln1 k1]::F)) {r:(Int × (List qd) × (List ByteArray) × (List qy))} (hF:qfI n a k=some r):RetN Tryz.prog 54 [.agg #[.slice p1 ln1 k1,.slice p2 ln2 k2,.slice p3 ln3 k3],.int .i64 k] w (fun w'=>∃ Z0 Z1 Z2:Nat→Prop,SH w0 w' (Ch.own Z2 (r.2.2.2:List qy) [.slice p3 ln3 k3]::Ch.own Z1 (r.2.2.1:List ByteArray) [.slice p2 ln2 k2]::Ch.own Z0 (r.2.1:List qd) [.slice p1 ln1 k1]::F)) r.1:=by
 refine qbA Tryz.func54 rfl (m:=18) rfl rfl ?_
 obtain rfl:=(h.sl 0 rfl).2
 obtain rfl:=(h.sl 1 rfl).2
 obtain rfl:=(h.sl 2 rfl).2
 refine zSR (qr h rfl rfl fun w1 bb1 h=>X1 7 0 h rfl ?_)
 replace h:=h.pickT 4 [3,0,1,2] rfl
 obtain ⟨o1,hr1,hF⟩:=qe hF
 obtain ⟨r1,x1⟩:=o1
 refine qbv r1 (cB 99 rfl) (qiS h hr1) rfl rfl rfl rfl ?_
 rintro w2 ⟨S4,h⟩
 refine X1 7 1 h rfl ?_
 replace h:=h.pickT 4 [3,0,1,2] rfl
 obtain ⟨o2,hr2,hF⟩:=qe hF
 obtain ⟨r2,x2⟩:=o2
 refine qbv r2 (cB 100 rfl) (qjh h hr2) rfl rfl rfl rfl ?_
 rintro w3 ⟨S5,h⟩
 refine X1 7 2 h rfl ?_
 replace h:=h.pickT 4 [3,0,1,2] rfl
 obtain ⟨o3,hr3,hF⟩:=qe hF
 obtain ⟨r3,x3⟩:=o3
 refine qbv r3 (cB 101 rfl) (qj0 h hr3) rfl rfl rfl rfl ?_
 rintro w4 ⟨S6,h⟩
 refine X0 7 rfl ?_
 obtain rfl:=qa hF
 replace h:=h.pickT 4 [0,1,2] rfl
 exact qgz qb ⟨_,_,_,h⟩ ⟨rfl,trivial⟩
def qcx (a:(List qw)):Nat→(List qw)→Int→Int→Option ((List qw) × Int × Int)
 | 0,_,_,_=>none
 | n+1,x1,i1,i2 =>
  bif decide (i2<(a.length:Int)) then
   (idx x1 i2).bind fun y1 =>
   (qQ n y1.Ak i1).bind fun o=>match o with
    | (r1,x2) =>
     (qQ n y1.Bm r1).bind fun o=>match o with
      | (r2,x3) =>
       (qQ n y1.Bk r2).bind fun o=>match o with
        | (r3,x4) =>
         (qQ n y1.Bc r3).bind fun o=>match o with
          | (r4,x5) =>
           qcx a n (setS x1 i2 (⟨x2,x3,x4,x5⟩:qw)) r4 (W64 (i2+1))
  else
   some (x1,i1,i2)
def qhO (n:Nat) (a:(List qw)) (k:Int):Option (Int × (List qw)) :=
 (qcx a n a k 0).bind fun o=>match o with
 | (x1,i1,_) =>
  some (i1,x1)
theorem qjZ {n:Nat} {w0 w:World} {F:List Ch} {a:(List qw)} {k:Int} {S1:Nat→Prop} {p1:Option Addr} {ln1 k1:Nat} (h:SH w0 w (Ch.own S1 (a:List qw) [.slice p1 ln1 k1]::F)) {r:(Int × (List qw))} (hF:qhO n a k=some r):RetN Tryz.prog 55 [.slice p1 ln1 k1,.int .i64 k] w (fun w'=>∃ Z0:Nat→Prop,SH w0 w' (Ch.own Z0 (r.2:List qw) [.slice p1 ln1 k1]::F)) r.1:=by
 refine qbA Tryz.func55 rfl (m:=41) rfl rfl ?_
 obtain rfl:=(h.sl 0 rfl).2
 refine X0 9 rfl ?_
 obtain ⟨o1,hF,hK1⟩:=qe hF
 refine ql (rL (fun m e w'=>∃ (S2:Nat→Prop) (x1:(List qw)) (i1:Int) (i2:Int),qcx a m x1 i1 i2=some o1∧e=[(0,.slice p1 a.length k1),(1,.int .i64 i1),(5,.int .i64 i2)]∧SH w0 w' (Ch.own S2 (x1:List qw) [.slice p1 a.length k1]::F)) n ⟨_,_,_,_,hF,rfl,h⟩ rfl ?_)
 rintro m1 e1 w1 ⟨S2,x1,i1,i2,hF,rfl,h⟩
 rcases m1 with _|m1
 ·cases hF
 refine X0 8 rfl (qg rfl hF ?_ ?_)<;>intro hF
 ·refine X0 7 rfl ?_
  obtain ⟨y1,hy1,hF⟩:=qe hF
  have he1:=qaX hy1
  obtain ⟨S3,S4,cs1,h⟩:=h.take hy1
  obtain ⟨p2,k2,p3,k3,p4,k4,p5,k5,rfl,-,-,-,-⟩:=qaU (h.own 0 rfl)
  obtain ⟨S5,S6,S7,S8,h⟩:=qoL h
  obtain ⟨b1,hp1,-,-,hl2⟩:=h.holeAt 4 rfl
  obtain ⟨q1,hq1⟩:∃ q,q=0+(i2).toNat*GoT.k qw:=⟨_,rfl⟩
  refine zx hp1 hq1 ⟨he1.1,qI he1.2.1 hl2⟩ rfl (zp1 rfl (zc 0 (qbL h 4 rfl hp1 hq1) rfl (zp1 rfl ?_)))
  replace h:=h.pickT 5 [3,0,1,2,4] rfl
  obtain ⟨o2,hr1,hF⟩:=qe hF
  obtain ⟨r1,x2⟩:=o2
  refine qbv r1 (cB 56 rfl) (qZ h hr1) rfl rfl rfl rfl ?_
  rintro w2 ⟨S9,h⟩
  refine X0 6 rfl ?_
  obtain ⟨b2,hp2,-,-,hl4⟩:=h.holeAt 4 rfl
  obtain ⟨q2,hq2⟩:∃ q,q=0+(i2).toNat*GoT.k qw:=⟨_,rfl⟩
  refine zx hp2 hq2 ⟨he1.1,qI he1.2.1 hl4⟩ rfl (zp1 rfl (zc 1 (qbL h 4 rfl hp2 hq2) rfl (zp1 rfl ?_)))
  replace h:=h.pickT 5 [3,0,1,2,4] rfl
  obtain ⟨o3,hr2,hF⟩:=qe hF
  obtain ⟨r2,x3⟩:=o3
  refine qbv r2 (cB 56 rfl) (qZ h hr2) rfl rfl rfl rfl ?_
  rintro w3 ⟨S10,h⟩
  refine X0 6 rfl ?_
  obtain ⟨b3,hp3,-,-,hl6⟩:=h.holeAt 4 rfl
  obtain ⟨q3,hq3⟩:∃ q,q=0+(i2).toNat*GoT.k qw:=⟨_,rfl⟩
  refine zx hp3 hq3 ⟨he1.1,qI he1.2.1 hl6⟩ rfl (zp1 rfl (zc 2 (qbL h 4 rfl hp3 hq3) rfl (zp1 rfl ?_)))
  replace h:=h.pickT 5 [3,0,1,2,4] rfl
  obtain ⟨o4,hr3,hF⟩:=qe hF
  obtain ⟨r3,x4⟩:=o4
  refine qbv r3 (cB 56 rfl) (qZ h hr3) rfl rfl rfl rfl ?_
  rintro w4 ⟨S11,h⟩
  refine X0 5 rfl ?_
  obtain ⟨b4,hp4,-,-,hl8⟩:=h.holeAt 4 rfl
  obtain ⟨q4,hq4⟩:∃ q,q=0+(i2).toNat*GoT.k qw:=⟨_,rfl⟩
  refine zx hp4 hq4 ⟨he1.1,qI he1.2.1 hl8⟩ rfl (zp1 rfl (zc 3 (qbL h 4 rfl hp4 hq4) rfl (zp1 rfl ?_)))
  replace h:=h.pickT 5 [3,0,1,2,4] rfl
  obtain ⟨o5,hr4,hF⟩:=qe hF
  obtain ⟨r4,x5⟩:=o5
  refine qbv r4 (cB 56 rfl) (qZ h hr4) rfl rfl rfl rfl ?_
  rintro w5 ⟨S12,h⟩
  refine X0 8 rfl ?_
  obtain ⟨S13,h⟩:=h.gatherT 5 [4] (qoQ (⟨x2,x3,x4,x5⟩:qw) h (qaC 3 h rfl) (qaC 2 h rfl) (qaC 1 h rfl) (qaC 0 h rfl) (by rfl) (by rfl) (by rfl)) rfl
  replace h:=h.put
  obtain ⟨S14,h⟩:=qkT (S:=_) h
  exact rK ⟨_,_,_,_,hF,rfl,h⟩ rfl
 refine qq rfl ?_
 obtain rfl:=qa hF;replace hF:=hK1
 refine X0 5 rfl ?_
 obtain rfl:=qa hF
 exact qgz qb ⟨_,h⟩ ⟨rfl,trivial⟩
def qf4 (n:Nat) (a:qm) (k:Int):Option (Int × (List qn) × (List qd) × (List ByteArray) × (List qy) × (List qw)) :=
 (qfw n (⟨a.Ah.Ai⟩:qh) k).bind fun o=>match o with
  | (r1,x1) =>
   (qfI n (⟨a.Ab.Aa,a.Ab.Af,a.Ab.Ac⟩:qc) r1).bind fun o=>match o with
    | (r2,x2,x3,x4) =>
     (qhO n a.Aj r2).bind fun o=>match o with
      | (r3,x5) =>
       some (r3,x1,x2,x3,x4,x5)
theorem qj9 {n:Nat} {w0 w:World} {F:List Ch} {a:qm} {k:Int} {S1:Nat→Prop} {p1:Option Addr} {ln1 k1:Nat} {S2:Nat→Prop} {p2:Option Addr} {ln2 k2:Nat} {S3:Nat→Prop} {p3:Option Addr} {ln3 k3:Nat} {S4:Nat→Prop} {p4:Option Addr} {ln4 k4:Nat} {S5:Nat→Prop} {p5:Option Addr} {ln5 k5:Nat} (h:SH w0 w (Ch.own S5 (a.Aj:List qw) [.slice p5 ln5 k5]::Ch.own S4 (a.Ab.Ac:List qy) [.slice p4 ln4 k4]::Ch.own S3 (a.Ab.Af:List ByteArray) [.slice p3 ln3 k3]::Ch.own S2 (a.Ab.Aa:List qd) [.slice p2 ln2 k2]::Ch.own S1 (a.Ah.Ai:List qn) [.slice p1 ln1 k1]::F)) {r:(Int × (List qn) × (List qd) × (List ByteArray) × (List qy) × (List qw))} (hF:qf4 n a k=some r):RetN Tryz.prog 23 [.agg #[.slice p1 ln1 k1,.slice p2 ln2 k2,.slice p3 ln3 k3,.slice p4 ln4 k4,.slice p5 ln5 k5],.int .i64 k] w (fun w'=>∃ Z0 Z1 Z2 Z3 Z4:Nat→Prop,SH w0 w' (Ch.own Z4 (r.2.2.2.2.2:List qw) [.slice p5 ln5 k5]::Ch.own Z3 (r.2.2.2.2.1:List qy) [.slice p4 ln4 k4]::Ch.own Z2 (r.2.2.2.1:List ByteArray) [.slice p3 ln3 k3]::Ch.own Z1 (r.2.2.1:List qd) [.slice p2 ln2 k2]::Ch.own Z0 (r.2.1:List qn) [.slice p1 ln1 k1]::F)) r.1:=by
 refine qbA Tryz.func23 rfl (m:=18) rfl rfl ?_
 obtain rfl:=(h.sl 0 rfl).2
 obtain rfl:=(h.sl 1 rfl).2
 obtain rfl:=(h.sl 2 rfl).2
 obtain rfl:=(h.sl 3 rfl).2
 obtain rfl:=(h.sl 4 rfl).2
 refine zSR (qr h rfl rfl fun w1 bb1 h=>X1 7 0 h rfl ?_)
 replace h:=h.pickT 6 [5,0,1,2,3,4] rfl
 obtain ⟨o1,hr1,hF⟩:=qe hF
 obtain ⟨r1,x1⟩:=o1
 refine qbv r1 (cB 53 rfl) (qjs h hr1) rfl rfl rfl rfl ?_
 rintro w2 ⟨S6,h⟩
 refine X1 7 1 h rfl ?_
 replace h:=h.pickT 6 [3,4,5,0,1,2] rfl
 obtain ⟨o2,hr2,hF⟩:=qe hF
 obtain ⟨r2,x2,x3,x4⟩:=o2
 refine qbv r2 (cB 54 rfl) (qjR h hr2) rfl rfl rfl rfl ?_
 rintro w3 ⟨S7,S8,S9,h⟩
 refine X1 7 4 h rfl ?_
 replace h:=h.pickT 6 [5,0,1,2,3,4] rfl
 obtain ⟨o3,hr3,hF⟩:=qe hF
 obtain ⟨r3,x5⟩:=o3
 refine qbv r3 (cB 55 rfl) (qjZ h hr3) rfl rfl rfl rfl ?_
 rintro w4 ⟨S10,h⟩
 refine X0 7 rfl ?_
 obtain rfl:=qa hF
 replace h:=h.pickT 6 [0,1,2,3,4] rfl
 exact qgz qb ⟨_,_,_,_,_,h⟩ ⟨rfl,trivial⟩
def qey (n:Nat) (a:qf) (k:Int):Option (Int × (List Int) × (List Int) × (List Int)) :=
 (qQ n a.Av k).bind fun o=>match o with
  | (r1,x1) =>
   (qQ n a.As r1).bind fun o=>match o with
    | (r2,x2) =>
     (qQ n a.To r2).bind fun o=>match o with
      | (r3,x3) =>
       some (r3,x1,x2,x3)
theorem qiX {n:Nat} {w0 w:World} {F:List Ch} {a:qf} {k:Int} {S1:Nat→Prop} {p1:Option Addr} {ln1 k1:Nat} {S2:Nat→Prop} {p2:Option Addr} {ln2 k2:Nat} {S3:Nat→Prop} {p3:Option Addr} {ln3 k3:Nat} (h:SH w0 w (Ch.own S3 (a.To:List Int) [.slice p3 ln3 k3]::Ch.own S2 (a.As:List Int) [.slice p2 ln2 k2]::Ch.own S1 (a.Av:List Int) [.slice p1 ln1 k1]::F)) {r:(Int × (List Int) × (List Int) × (List Int))} (hF:qey n a k=some r):RetN Tryz.prog 24 [.agg #[.int .i64 a.Ap,.int .i64 a.Bd,.slice p1 ln1 k1,.slice p2 ln2 k2,.slice p3 ln3 k3],.int .i64 k] w (fun w'=>∃ Z0 Z1 Z2:Nat→Prop,SH w0 w' (Ch.own Z2 (r.2.2.2:List Int) [.slice p3 ln3 k3]::Ch.own Z1 (r.2.2.1:List Int) [.slice p2 ln2 k2]::Ch.own Z0 (r.2.1:List Int) [.slice p1 ln1 k1]::F)) r.1:=by
 refine qbA Tryz.func24 rfl (m:=18) rfl rfl ?_
 obtain rfl:=(h.sl 0 rfl).2
 obtain rfl:=(h.sl 1 rfl).2
 obtain rfl:=(h.sl 2 rfl).2
 refine zSR (qr h rfl rfl fun w1 bb1 h=>X1 7 0 h rfl ?_)
 replace h:=h.pickT 4 [3,0,1,2] rfl
 obtain ⟨o1,hr1,hF⟩:=qe hF
 obtain ⟨r1,x1⟩:=o1
 refine qbv r1 (cB 56 rfl) (qZ h hr1) rfl rfl rfl rfl ?_
 rintro w2 ⟨S4,h⟩
 refine X1 7 1 h rfl ?_
 replace h:=h.pickT 4 [3,0,1,2] rfl
 obtain ⟨o2,hr2,hF⟩:=qe hF
 obtain ⟨r2,x2⟩:=o2
 refine qbv r2 (cB 56 rfl) (qZ h hr2) rfl rfl rfl rfl ?_
 rintro w3 ⟨S5,h⟩
 refine X1 7 2 h rfl ?_
 replace h:=h.pickT 4 [3,0,1,2] rfl
 obtain ⟨o3,hr3,hF⟩:=qe hF
 obtain ⟨r3,x3⟩:=o3
 refine qbv r3 (cB 56 rfl) (qZ h hr3) rfl rfl rfl rfl ?_
 rintro w4 ⟨S6,h⟩
 refine X0 7 rfl ?_
 obtain rfl:=qa hF
 replace h:=h.pickT 4 [0,1,2] rfl
 exact qgz qb ⟨_,_,_,h⟩ ⟨rfl,trivial⟩
def qcd (a:(List Int)):Nat→Int→Int→Option (Flow Int (Int × Int))
 | 0,_,_=>none
 | n+1,i1,i2 =>
  bif decide (i2<(a.length:Int)) then
   (idx a i2).bind fun y1 =>
   bif (y1 != i1) then some (.ret (-1)) else
   qcd a n (W64 (i1+1)) (W64 (i2+1))
  else
   some (.nxt (i1,i2))
def qdu (n:Nat) (a:(List Int)) (k:Int):Option Int :=
 (qcd a n k 0).bind fun o=>match o with
 | .ret r=>some r
 | .nxt (i1,_) =>
  some i1
theorem qfP {a:(List Int)} {k:Int} (ha1:GoT.R w (old w) a cs1) {r:Int} (hF:qdu n a k=some r):RetV Tryz.prog 57 [GoT.v (List Int) cs1,.int .i64 k] w r:=by
 obtain ⟨p1,k1,rfl,s1⟩:=ha1
 refine zV 21 Tryz.func57 rfl fun h=>X0 9 rfl ?_
 obtain ⟨o1,hF,hK1⟩:=qe hF
 refine ql (rL (fun m e w'=>∃ (i1:Int) (i2:Int),qcd a m i1 i2=some o1∧e=[(0,.slice p1 a.length k1),(1,.int .i64 i1),(5,.int .i64 i2)]∧SH w w' []) n ⟨_,_,hF,rfl,h⟩ rfl ?_)
 rintro m1 e1 w1 ⟨i1,i2,hF,rfl,h⟩
 rcases m1 with _|m1
 ·cases hF
 refine X0 8 rfl (qg rfl hF ?_ ?_)<;>intro hF
 ·refine X0 8 rfl ?_
  obtain ⟨y1,hy1,hF,he1,b1,_,q1,cs2,hp1,hq1,rfl,hc2⟩:=s1.ix hF
  refine zxe hp1 hq1 he1 rfl (zc 0 (hc2.below h.below) rfl (X0 3 rfl (qg rfl hF ?_ ?_)))<;>intro hF
  ·refine X0 4 rfl ?_
   obtain rfl:=qa hF;replace hF:=hK1
   exact ri h hF rfl
  exact X0 12 rfl (rK ⟨_,_,hF,rfl,h⟩ rfl)
 refine qq rfl ?_
 obtain rfl:=qa hF;replace hF:=hK1
 exact X0 5 rfl (ri h hF rfl)
def qdm (n:Nat) (a:qf) (k:Int):Option Int :=
 (qdu n a.Av k).bind fun r1 =>
 bif decide (r1<0) then some (-1) else
 (qdu n a.As r1).bind fun r2 =>
 bif decide (r2<0) then some (-1) else
 (qdu n a.To r2).bind fun r3 =>
 bif decide (r3<0) then some (-1) else
 some r3
theorem qgs {a:qf} {k:Int} (ha1:GoT.R w (old w) a cs1) {r:Int} (hF:qdm n a k=some r):RetV Tryz.prog 25 [GoT.v qf cs1,.int .i64 k] w r:=by
 obtain ⟨p1,k1,p2,k2,p3,k3,rfl,s1,s2,s3⟩:=qaY ha1
 refine zV 24 Tryz.func25 rfl fun h=>zSR (qr h rfl rfl fun w1 bb1 h=>X1 7 0 h rfl (zcI h hF (qfP ⟨_,_,rfl,(h.oldS s1)⟩) rfl fun r1 w2 h hF=>X0 8 rfl (qg rfl hF ?_ ?_)))<;>intro hF
 ·exact X0 4 rfl (ri h hF rfl)
 refine X1 6 0 h rfl (zcI h hF (qfP ⟨_,_,rfl,(h.oldS s2)⟩) rfl fun r2 w3 h hF=>X0 8 rfl (qg rfl hF ?_ ?_))<;>intro hF
 ·exact X0 4 rfl (ri h hF rfl)
 refine X1 6 0 h rfl (zcI h hF (qfP ⟨_,_,rfl,(h.oldS s3)⟩) rfl fun r3 w4 h hF=>X0 8 rfl (qg rfl hF ?_ ?_))<;>intro hF
 ·exact X0 4 rfl (ri h hF rfl)
 exact X0 6 rfl (ri h hF rfl)
def qdq (n:Nat) (a_0:qm) (a_1:ByteArray):Option Bool :=
 bif decide ((a_1.size:Int) > 1048576) then some true else
 (qhr n a_0 1048576).bind fun r1 =>
 bif decide (r1<0) then some true else
 (qew n a_0).bind fun r2 =>
 (qdi n r2 a_1).bind fun o=>match o with
  | (r4,r5) =>
   (qew n a_0).bind fun r6 =>
   (qci n r6 a_1).bind fun o=>match o with
    | (r8,r9) =>
     (
      (qc9 n r8 r4).bind fun r22 =>
      bif (!r22) then some true else
      some (!(r9==r5))).bind fun b1 =>
     bif b1 then some false else
     (qew n a_0).bind fun r10 =>
     (qhv n r6 r10).bind fun r11 =>
     bif (!r11) then some false else
     (qf4 n (⟨(⟨r6.Ah.Ai⟩:qh),(⟨r6.Ab.Aa,r6.Ab.Af,r6.Ab.Ac⟩:qc),r6.Aj⟩:qm) 1).bind fun o=>match o with
      | (r12,_,_,_,_,_) =>
       (
        bif decide (r12<0) then some true else
        (qc9 n r8 r4).bind fun r21 =>
        bif (!r21) then some true else
        some (!(r9==r5))).bind fun b2 =>
       bif b2 then some false else
       (qey n (⟨r8.Ap,r8.Bd,r8.Av,r8.As,r8.To⟩:qf) 1).bind fun o=>match o with
        | (r13,x6,x7,x8) =>
         (qdm n (⟨r8.Ap,r8.Bd,x6,x7,x8⟩:qf) 1).bind fun r14 =>
         bif decide (r14<0) then some false else
         bif (r14 != r13) then some false else
         (qew n (⟨(⟨a_0.Ah.Ai⟩:qh),(⟨a_0.Ab.Aa,a_0.Ab.Af,a_0.Ab.Ac⟩:qc),a_0.Aj⟩:qm)).bind fun r15 =>
         (qci n r15 a_1).bind fun o=>match o with
          | (r17,r18) =>
           (
            (qc9 n r17 r4).bind fun r20 =>
            bif (!r20) then some true else
            some (!(r18==r5))).bind fun b3 =>
           bif b3 then some false else
           (qdm n (⟨r8.Ap,r8.Bd,x6,x7,x8⟩:qf) 1).bind fun r19 =>
           bif decide (r19<0) then some false else
           bif (r19 != r13) then some false else
           some true
theorem qg6 {a_0:qm} {a_1:ByteArray} (ha1:GoT.R w (old w) a_0 cs1) (hgv0:GV 0 (exWords.map Value.string) w (old w)) (hgv1:GVE 1 isIntC w (old w)) (hgv2:GV 2 (Lib.pow10Tab.map (Value.int .u64)) w (old w)) (hgv3:GVE 3 isErrC w (old w)) (hgv4:GVE 4 isErrC w (old w)) {r:Bool} (hF:qdq n a_0 a_1=some r):RetV Tryz.prog 5 [GoT.v qm cs1,.string a_1] w r:=by
 obtain ⟨p1,k1,p2,k2,p3,k3,p4,k4,p5,k5,rfl,s1,s2,s3,s4,s5⟩:=qaa ha1
 refine zV 104 Tryz.func5 rfl fun h=>zSR (qr h rfl rfl fun w1 bb1 h=>X0 9 rfl (qg rfl hF ?_ ?_))<;>intro hF
 ·exact X0 4 rfl (rb h hF rfl)
 refine X1 9 0 h rfl (zcI h hF (qlC (h.old ha1)) rfl fun r1 w2 h hF=>X0 8 rfl (qg rfl hF ?_ ?_))<;>intro hF
 ·exact X0 4 rfl (rb h hF rfl)
 refine X1 4 0 h rfl (zcO h hF (qfM (h.old ha1)) rfl fun r2 w3 S1 cs2 h hF=>?_)
 obtain ⟨p6,k6,p7,k7,p8,k8,p9,k9,p10,k10,rfl,-,-,-,-,-⟩:=qaa (h.own 0 rfl)
 refine zp1 rfl ?_
 obtain ⟨r3,hr3,hF⟩:=qe hF
 obtain ⟨r4,r5⟩:=r3
 refine qgB (r4,r5) h (cB 22 rfl) (qi9 (h.own 0 rfl) hr3) rfl rfl rfl rfl fun w4 S2 us1 hv1 hr4=>?_
 obtain ⟨S3,S4,cs3,us2,rfl,hv2,hr5⟩:=hv1.cons hr4
 obtain ⟨p11,k11,p12,k12,p13,k13,rfl,-,-,-⟩:=qaY (hv2.sh.own 0 rfl)
 obtain ⟨rfl,h⟩:=hv2.lastB hr5
 refine zp3 rfl (qB qb h rfl rfl rfl fun w5 bb2 h=>zs 0 h rfl fun w6 h=>X1 5 3 h rfl (zcO h hF (qfM (h.old ha1)) rfl fun r6 w7 S6 cs4 h hF=>?_))
 obtain ⟨p14,k14,p15,k15,p16,k16,p17,k17,p18,k18,rfl,-,-,-,-,-⟩:=qaa (h.own 0 rfl)
 refine qB qb h rfl rfl rfl fun w8 bb3 h=>zs 0 h rfl fun w9 h=>X1 5 0 h rfl ?_
 obtain ⟨r7,hr8,hF⟩:=qe hF
 obtain ⟨r8,r9⟩:=r7
 refine qgB (r8,r9) h (cB 18 rfl) (qgq (h.own 1 rfl) (h.old hgv0) (h.old hgv1) (h.old hgv2) (h.old hgv3) (h.old hgv4) hr8) rfl rfl rfl rfl fun w10 S7 us3 hv4 hr9=>?_
 obtain ⟨S8,S9,cs5,us4,rfl,hv5,hr10⟩:=hv4.cons hr9
 obtain ⟨p19,k19,p20,k20,p21,k21,rfl,-,-,-⟩:=qaY (hv5.sh.own 0 rfl)
 obtain ⟨rfl,h⟩:=hv5.lastB hr10
 refine zp3 rfl (qB qb h rfl rfl rfl fun w11 bb4 h=>zs 0 h rfl fun w12 h=>X0 4 rfl ?_)
 obtain ⟨KF3,hKF3,o5,hF,hK3⟩:=bindE hF
 refine qbx (fun e w'=>∃ (b1:Bool),KF3 b1=some r∧e=[(1,.string a_1),(2,.pointer (some ⟨bb1,0,none⟩)),(6,.pointer (some ⟨bb2,0,none⟩)),(7,.bool r5),(8,.pointer (some ⟨bb3,0,none⟩)),(9,.pointer (some ⟨bb4,0,none⟩)),(10,.bool r9),(47,.bool b1)]∧SH w w' [Ch.box bb4 (qT r8 p19 p20 p21 k19 k20 k21) 50,Ch.own S8 (r8:qf) (qT r8 p19 p20 p21 k19 k20 k21),Ch.box bb3 (qaI r6 p14 p15 p16 p17 p18 k14 k15 k16 k17 k18) 48,Ch.own S6 (r6:qm) (qaI r6 p14 p15 p16 p17 p18 k14 k15 k16 k17 k18),Ch.box bb2 (qT r4 p11 p12 p13 k11 k12 k13) 50,Ch.own S3 (r4:qf) (qT r4 p11 p12 p13 k11 k12 k13),Ch.box bb1 (qaI a_0 p1 p2 p3 p4 p5 k1 k2 k3 k4 k5) 32]) ?_ ?_
 ·refine X2 3 0 4 h rfl (zcB h hF (qfx (h.own 1 rfl) (h.own 5 rfl)) rfl fun r22 w28 h hF=>zp2 rfl (qi (t:=43) hF rfl ?_ ?_))<;>intro hF
  ·refine X0 5 rfl ?_
   replace h:=h.pick [0,1,2,3,4,5,7] rfl
   obtain rfl:=qa hF
   exact rG ⟨_,hK3,rfl,h⟩ rfl
  refine X0 8 rfl ?_
  replace h:=h.pick [0,1,2,3,4,5,7] rfl
  obtain rfl:=qa hF
  exact rG ⟨_,hK3,rfl,h⟩ rfl
 rintro e3 w29 ⟨b1,hF,rfl,h⟩
 subst hKF3
 refine qg rfl hF ?_ ?_<;>intro hF
 ·exact X0 4 rfl (rb h hF rfl)
 refine zKSS (rA [] [2,6] h rfl fun w13 h=>M2 3 [0,1] 0 1 (h.pick [2,6] rfl) rfl (Ao 2 7 rfl (zcO h hF (qfM (h.old ha1)) rfl fun r10 w14 S11 cs6 h hF=>?_)))
 obtain ⟨p22,k22,p23,k23,p24,k24,p25,k25,p26,k26,rfl,-,-,-,-,-⟩:=qaa (h.own 0 rfl)
 refine Ag (h.pick [3,7] rfl) (Ao 3 15 rfl (zcB h hF (qlj (h.own 4 rfl) (h.own 0 rfl)) rfl fun r11 w15 h hF=>G0 31 [4] (h.pick [3,7] rfl) rfl (Ad (qg rfl hF ?_ ?_))))<;>intro hF
 ·exact X0 4 rfl (rb h hF rfl)
 refine X1 9 3 h rfl ?_
 replace h:=h.pick [4,0,1,2,3,5,6,7] rfl
 obtain ⟨S12,S13,S14,h⟩:=qmK h
 replace h:=h.pick [2,0,1,3,4,5,6,7,8,9] rfl
 obtain ⟨S15,h⟩:=ql4 h
 replace h:=h.pick [2,0,1,3,4,5,6,7,8,9] rfl
 obtain ⟨S16,S17,S18,h⟩:=qmV h
 replace h:=h.pick [4,0,1,2,3,6,7,9,10,11] rfl
 obtain ⟨o1,hr14,hF⟩:=qe hF
 obtain ⟨r12,x1,x2,x3,x4,x5⟩:=o1
 refine qbv r12 (cB 23 rfl) (qj9 h hr14) rfl rfl rfl rfl ?_
 rintro w16 ⟨S19,S20,S21,S22,S23,h⟩
 replace h:SH _ _ [Ch.own S23 (x5:List qw) [.slice p18 r6.Aj.length k18],Ch.own S22 (x4:List qy) [.slice p17 r6.Ab.Ac.length k17],Ch.own S21 (x3:List ByteArray) [.slice p16 r6.Ab.Af.length k16],Ch.own S20 (x2:List qd) [.slice p15 r6.Ab.Aa.length k15],Ch.own S19 (x1:List qn) [.slice p14 r6.Ah.Ai.length k14],Ch.box bb4 (qT r8 p19 p20 p21 k19 k20 k21) 50,Ch.own S8 (r8:qf) (qT r8 p19 p20 p21 k19 k20 k21),Ch.box bb2 (qT r4 p11 p12 p13 k11 k12 k13) 50,Ch.own S3 (r4:qf) (qT r4 p11 p12 p13 k11 k12 k13),Ch.box bb1 (qaI a_0 p1 p2 p3 p4 p5 k1 k2 k3 k4 k5) 32]:=h
 refine X0 4 rfl ?_
 obtain ⟨KF2,hKF2,o4,hF,hK2⟩:=bindE hF
 refine qbx (fun e w'=>∃ (b2:Bool),KF2 b2=some r∧e=[(1,.string a_1),(2,.pointer (some ⟨bb1,0,none⟩)),(6,.pointer (some ⟨bb2,0,none⟩)),(7,.bool r5),(9,.pointer (some ⟨bb4,0,none⟩)),(68,.bool b2)]∧SH w w' [Ch.box bb4 (qT r8 p19 p20 p21 k19 k20 k21) 50,Ch.own S8 (r8:qf) (qT r8 p19 p20 p21 k19 k20 k21),Ch.box bb2 (qT r4 p11 p12 p13 k11 k12 k13) 50,Ch.own S3 (r4:qf) (qT r4 p11 p12 p13 k11 k12 k13),Ch.box bb1 (qaI a_0 p1 p2 p3 p4 p5 k1 k2 k3 k4 k5) 32]) ?_ ?_
 ·refine X0 4 rfl (qi (t:=58) hF rfl ?_ ?_)<;>intro hF
  ·refine X0 11 rfl ?_
   replace h:=h.pick [5,6,7,8,9] rfl
   obtain rfl:=qa hF
   exact rG ⟨_,hK2,rfl,h⟩ rfl
  refine X2 5 5 7 h rfl (zcB h hF (qfx (h.own 6 rfl) (h.own 8 rfl)) rfl fun r21 w26 h hF=>X0 4 rfl (qi (t:=64) hF rfl ?_ ?_))<;>intro hF
  ·refine X0 5 rfl ?_
   replace h:=h.pick [5,6,7,8,9] rfl
   obtain rfl:=qa hF
   exact rG ⟨_,hK2,rfl,h⟩ rfl
  refine X0 8 rfl ?_
  replace h:=h.pick [5,6,7,8,9] rfl
  obtain rfl:=qa hF
  exact rG ⟨_,hK2,rfl,h⟩ rfl
 rintro e2 w27 ⟨b2,hF,rfl,h⟩
 subst hKF2
 refine qg rfl hF ?_ ?_<;>intro hF
 ·exact X0 4 rfl (rb h hF rfl)
 refine X1 9 0 h rfl ?_
 replace h:=h.pick [1,0,2,3,4] rfl
 obtain ⟨S24,S25,S26,h⟩:=qkP h
 obtain ⟨o2,hr15,hF⟩:=qe hF
 obtain ⟨r13,x6,x7,x8⟩:=o2
 refine qbv r13 (cB 24 rfl) (qiX h hr15) rfl rfl rfl rfl ?_
 rintro w17 ⟨S27,S28,S29,h⟩
 replace h:SH _ _ [Ch.own S29 (x8:List Int) [.slice p21 r8.To.length k21],Ch.own S28 (x7:List Int) [.slice p20 r8.As.length k20],Ch.own S27 (x6:List Int) [.slice p19 r8.Av.length k19],Ch.box bb4 (qT r8 p19 p20 p21 k19 k20 k21) 50,Ch.box bb2 (qT r4 p11 p12 p13 k11 k12 k13) 50,Ch.own S3 (r4:qf) (qT r4 p11 p12 p13 k11 k12 k13),Ch.box bb1 (qaI a_0 p1 p2 p3 p4 p5 k1 k2 k3 k4 k5) 32]:=h
 refine X1 10 3 h rfl (zcI h hF (qgs (show GoT.R _ _ ((⟨r8.Ap,r8.Bd,x6,x7,x8⟩:qf):qf) _ from ⟨[.int .i64 r8.Ap],[.int .i64 r8.Bd,.slice p19 r8.Av.length k19,.slice p20 r8.As.length k20,.slice p21 r8.To.length k21],rfl,rfl,⟨[.int .i64 r8.Bd],[.slice p19 r8.Av.length k19,.slice p20 r8.As.length k20,.slice p21 r8.To.length k21],rfl,rfl,⟨[.slice p19 r8.Av.length k19],[.slice p20 r8.As.length k20,.slice p21 r8.To.length k21],rfl,(h.own 2 rfl),⟨[.slice p20 r8.As.length k20],[.slice p21 r8.To.length k21],rfl,(h.own 1 rfl),(h.own 0 rfl)⟩⟩⟩⟩)) rfl fun r14 w18 h hF=>X0 8 rfl (qg rfl hF ?_ ?_))<;>intro hF
 ·exact X0 4 rfl (rb h hF rfl)
 refine X0 8 rfl (qg rfl hF ?_ ?_)<;>intro hF
 ·exact X0 4 rfl (rb h hF rfl)
 refine X1 4 6 h rfl (zcO h hF (qfM (qpw _ (h.oldS s1) (h.oldS s2) (h.oldS s3) (h.oldS s4) (h.oldS s5))) rfl fun r15 w19 S30 cs7 h hF=>?_)
 obtain ⟨p27,k27,p28,k28,p29,k29,p30,k30,p31,k31,rfl,-,-,-,-,-⟩:=qaa (h.own 0 rfl)
 refine zp1 rfl ?_
 obtain ⟨r16,hr18,hF⟩:=qe hF
 obtain ⟨r17,r18⟩:=r16
 refine qgB (r17,r18) h (cB 18 rfl) (qgq (h.own 0 rfl) (h.old hgv0) (h.old hgv1) (h.old hgv2) (h.old hgv3) (h.old hgv4) hr18) rfl rfl rfl rfl fun w20 S31 us5 hv7 hr19=>?_
 obtain ⟨S32,S33,cs8,us6,rfl,hv8,hr20⟩:=hv7.cons hr19
 obtain ⟨p32,k32,p33,k33,p34,k34,rfl,-,-,-⟩:=qaY (hv8.sh.own 0 rfl)
 obtain ⟨rfl,h⟩:=hv8.lastB hr20
 refine zp3 rfl (qB qb h rfl rfl rfl fun w21 bb5 h=>zs 0 h rfl fun w22 h=>X0 4 rfl ?_)
 obtain ⟨KF1,hKF1,o3,hF,hK1⟩:=bindE hF
 refine qbx (fun e w'=>∃ (b3:Bool),KF1 b3=some r∧e=[(9,.pointer (some ⟨bb4,0,none⟩)),(12,.int .i64 r13),(95,.bool b3)]∧SH w w' [Ch.own S29 (x8:List Int) [.slice p21 r8.To.length k21],Ch.own S28 (x7:List Int) [.slice p20 r8.As.length k20],Ch.own S27 (x6:List Int) [.slice p19 r8.Av.length k19],Ch.box bb4 (qT r8 p19 p20 p21 k19 k20 k21) 50]) ?_ ?_
 ·refine X2 3 0 7 h rfl (zcB h hF (qfx (h.own 1 rfl) (h.own 8 rfl)) rfl fun r20 w24 h hF=>zp2 rfl (qi (t:=91) hF rfl ?_ ?_))<;>intro hF
  ·refine X0 5 rfl ?_
   replace h:=h.pick [3,4,5,6] rfl
   obtain rfl:=qa hF
   exact rG ⟨_,hK1,rfl,h⟩ rfl
  refine X0 8 rfl ?_
  replace h:=h.pick [3,4,5,6] rfl
  obtain rfl:=qa hF
  exact rG ⟨_,hK1,rfl,h⟩ rfl
 rintro e1 w25 ⟨b3,hF,rfl,h⟩
 subst hKF1
 refine qg rfl hF ?_ ?_<;>intro hF
 ·exact X0 4 rfl (rb h hF rfl)
 refine X1 9 3 h rfl (zcI h hF (qgs (show GoT.R _ _ ((⟨r8.Ap,r8.Bd,x6,x7,x8⟩:qf):qf) _ from ⟨[.int .i64 r8.Ap],[.int .i64 r8.Bd,.slice p19 r8.Av.length k19,.slice p20 r8.As.length k20,.slice p21 r8.To.length k21],rfl,rfl,⟨[.int .i64 r8.Bd],[.slice p19 r8.Av.length k19,.slice p20 r8.As.length k20,.slice p21 r8.To.length k21],rfl,rfl,⟨[.slice p19 r8.Av.length k19],[.slice p20 r8.As.length k20,.slice p21 r8.To.length k21],rfl,(h.own 2 rfl),⟨[.slice p20 r8.As.length k20],[.slice p21 r8.To.length k21],rfl,(h.own 1 rfl),(h.own 0 rfl)⟩⟩⟩⟩)) rfl fun r19 w23 h hF=>X0 8 rfl (qg rfl hF ?_ ?_))<;>intro hF
 ·exact X0 4 rfl (rb h hF rfl)
 refine X0 8 rfl (qg rfl hF ?_ ?_)<;>intro hF
 ·exact X0 4 rfl (rb h hF rfl)
 exact X0 5 rfl (rb h hF rfl)
end Go.Fw


namespace Go.Fw
open Go
set_option maxRecDepth 100000
def pre {α:Type} (f:Nat→α) (j:Nat):List α:=(List.range j).map f
theorem qn0 {α:Type} {f:Nat→α} {j:Nat}:(pre f j).length=j:=by simp [pre]
theorem qsn {α:Type} {f:Nat→α} {n j:Nat} (h:j<n):idx (pre f n) (j:Int)=some (f j):=by
 rw [qct (by rw [qn0];exact h)]
 simp [pre]
theorem qs4 {a:List Int}:∀ (rest done:List Int) (i1:Int),a.length=done.length+rest.length→0≤i1→i1+rest.length≤4000000000000→a.length≤1048576 →
  Ev (fun n=>qaA a n (done++rest) i1 (done.length:Int)) (done++pre (fun q=>i1+(q:Int)) rest.length,i1+(rest.length:Int),(a.length:Int))
 | [],done,i1,h,_,_,_=>by
  have e:done.length=a.length:=by simpa using h.symm
  refine Ev.succ ?_
  rw [e]
  simp only [qaA,qk (je _),cond_false]
  simp [pre]
  exact .done
 | x::rest,done,i1,h,h0,h1,hl=>by
  rw [js] at h h1
  have hlt:done.length<a.length:=by omega
  have hix:idx (done++x::rest) (done.length:Int)=some x:=by
   rw [qct (by rw [ji,js];omega),List.getElem_append_right (je _)]
   simp
  have hset:setS (done++x::rest) (done.length:Int) i1=(done++[i1])++rest:=by
   unfold setS
   rw [jC,List.set_append_right _ _ (je _),Nat.sub_self]
   simp
  have ew:W64 (i1+1)=i1+1:=qaw (by omega) (by omega)
  have ih:=qs4 (a:=a) rest (done++[i1]) (i1+1) (by rw [ji,jm];omega) (by omega) (by omega) hl
  rw [ji,jm] at ih
  refine Ev.succ ?_
  simp only [qaA,qj hlt,cond_true,hix,jd,hset,ew,qb8 (show done.length<9223372036854775807 by omega)]
  have e1:(done++[i1])++pre (fun q=>i1+1+(q:Int)) rest.length=done++pre (fun q=>i1+(q:Int)) (x::rest).length:=by
   rw [jE,js]
   refine congrArg (done++·) ?_
   unfold pre
   rw [List.range_succ_eq_map,jR,List.map_map,List.singleton_append]
   have hm:List.map ((fun q:Nat=>i1+(q:Int)) ∘ Nat.succ) (List.range rest.length)=List.map (fun q:Nat=>i1+1+(q:Int)) (List.range rest.length):=List.map_congr_left fun q _=>by
    show i1+((q+1:Nat):Int)=i1+1+(q:Int)
    omega
   rw [hm]
   simp
  have e2:i1+1+(rest.length:Int)=i1+((x::rest).length:Int):=by rw [js];omega
  rw [←e1,←e2]
  exact ih
theorem qqJ {a:List Int} {k:Int} (h0:0≤k) (h1:k≤2000000000000) (hl:a.length≤1048576):Ev (fun n=>qQ n a k) (k+(a.length:Int),pre (fun q=>k+(q:Int)) a.length):=by
 unfold qQ
 exact Ev.bind (qs4 a [] k (by simp) h0 (by omega) hl) .done
theorem qrr {m:Nat} {k:Int} (h0:0≤k) (h1:k≤2000000000000) (hl:m≤1048576):Ev (fun n=>qdu n (pre (fun q=>k+(q:Int)) m) k) (k+(m:Int)):=by
 have:=loopF (Lf:=fun n s i=>qcd (pre (fun q=>k+(q:Int)) m) n s i) (S:=fun i=>k+(i:Int)) (len:=m) (fin:=.nxt (k+(m:Int),(m:Int)))
  (fun n=>by simp only [qcd,qn0,qk (je _),cond_false])
  (fun i hi X hX=>by
   have ew:W64 (k+(i:Int)+1)=k+((i+1:Nat):Int):=by rw [qaw (by omega) (by omega)];omega
   simp only [qcd,qn0]
   refine Ev.tt (qj hi) (Ev.bindN (qsn hi) (Ev.ff (by simp) ?_))
   rw [ew,wS i]
   exact hX)
 unfold qdu
 refine Ev.bind (b:=.nxt (k+(m:Int),(m:Int))) ?_ .done
 simpa using this
theorem qnG {a:qf} {k:Int} (h0:0≤k) (h1:k≤900000000000) (hw:qdE a≤1048576):∃ z y1 y2 y3,Ev (fun n=>qey n a k) (z,y1,y2,y3)∧Ev (fun n=>qdm n (⟨a.Ap,a.Bd,y1,y2,y3⟩:qf) k) z∧(k≤z∧z≤k+16*(qdE a:Int)):=by
 have ew:qdE a=a.Av.length+a.As.length+a.To.length:=rfl
 refine ⟨k+(a.Av.length:Int)+(a.As.length:Int)+(a.To.length:Int),pre (fun q=>k+(q:Int)) a.Av.length,pre (fun q=>k+(a.Av.length:Int)+(q:Int)) a.As.length,pre (fun q=>k+(a.Av.length:Int)+(a.As.length:Int)+(q:Int)) a.To.length,?_,?_,by omega,by omega⟩
 ·unfold qey
  exact Ev.bind (qqJ h0 (by omega) (by omega)) (Ev.bind (qqJ (by omega) (by omega) (by omega)) (Ev.bind (qqJ (by omega) (by omega) (by omega)) .done))
 ·unfold qdm
  exact Ev.bind (qrr h0 (by omega) (by omega)) (Ev.ff (decide_eq_false (by omega)) (Ev.bind (qrr (by omega) (by omega) (by omega)) (Ev.ff (decide_eq_false (by omega)) (Ev.bind (qrr (by omega) (by omega) (by omega)) (Ev.ff (decide_eq_false (by omega)) .done)))))
end Go.Fw


namespace Go.Fw
open Go
set_option maxRecDepth 100000
def Mk {σ:Type} (F:Nat→Option (Int × σ)) (k:Int) (w:Nat):Prop:=∃ k' x,Ev F (k',x)∧k≤k'∧k'≤k+16*(w:Int)
theorem qoB {α:Type} {t:List α} {j:Nat} {y:α} (h:j<t.length):idx (setS t (j:Int) y) (j:Int)=some y:=by
 rw [qct (by rw [qgU];exact h),qp0 h]
theorem qni {α:Type} {t:List α} {i:Int} {y z:α}:setS (setS t i y) i z=setS t i z:=by
 unfold setS;rw [List.set_set]
theorem qmE {α:Type} {a:List α} {wt:α→Nat} {j:Nat} (h:j<a.length):((a.take (j+1)).map wt).sum=((a.take j).map wt).sum+wt a[j]:=by
 rw [List.take_succ_eq_append_getElem h,jM,List.sum_append];simp
theorem qov {α:Type} {a:List α} {wt:α→Nat} {j:Nat}:((a.take j).map wt).sum≤(a.map wt).sum:=by
 conv=>rhs;rw [←List.take_append_drop j a]
 rw [jM,List.sum_append]
 exact Nat.le_add_right _ _
theorem qfW {α:Type} {a:List α} {wt:α→Nat} {Lf:Nat→List α→Int→Int→Option (List α × Int × Int)} {F:Nat→Option (Int × List α)} {k:Int} (hk0:0≤k) (hk1:k+16*((a.length+(a.map wt).sum:Nat):Int)≤1000000000000)
  (hend:∀ n t k,Lf (n+1) t k (a.length:Int)=some (t,k,(a.length:Int)))
  (hstep:∀ x,x ∈ a→∀ k:Int,0≤k→k+16*((1+wt x:Nat):Int)≤1000000000000→∃ y k',k≤k'∧k'≤k+16*((1+wt x:Nat):Int) ∧
   ∀ (t:List α) (j:Nat),j<9223372036854775807→j<a.length→j<t.length→t[j]?=some x→∀ X,Ev (fun n=>Lf n (setS t (j:Int) y) k' ((j+1:Nat):Int)) X→Ev (fun n=>Lf (n+1) t k (j:Int)) X)
  (hl:a.length≤1048576)
  (hF:∀ n,F n=(Lf n a k 0).bind fun o=>match o with|(x1,i1,_)=>some (i1,x1)):Mk F k (a.length+(a.map wt).sum):=by
 obtain ⟨⟨t,k'⟩,⟨_,_,h3,h4⟩,e⟩:=loopE (τ:=List α × Int) (Lf:=fun n t j=>Lf n t.1 t.2 j) (fin:=fun t=>(t.1,t.2,(a.length:Int)))
  (fun j t=>t.1.length=a.length∧(∀ i,j≤i→t.1[i]?=a[i]?)∧k≤t.2∧t.2≤k+16*((j+((a.take j).map wt).sum:Nat):Int)) (len:=a.length)
  (fun n t=>hend n t.1 t.2)
  (fun j t hj ht=>by
   obtain ⟨h1,h2,h3,h4⟩:=ht
   have hs:=qmE (wt:=wt) hj
   have hs2:=qov (a:=a) (wt:=wt) (j:=j+1)
   obtain ⟨y,k',q1,q2,q3⟩:=hstep a[j] (ju hj) t.2 (by omega) (by omega)
   refine ⟨(setS t.1 (j:Int) y,k'),⟨by rw [qgU];exact h1,fun i hi=>?_,by show k≤k';omega,?_⟩,fun X hX=>?_⟩
   ·show (t.1.set _ _)[i]?=_
    rw [List.getElem?_set_ne (by rw [jC];omega)]
    exact h2 i (by omega)
   ·show k'≤k+_
    rw [hs]
    omega
   ·exact q3 t.1 j (by omega) hj (by omega) (by rw [h2 j (je _),jh hj]) X hX) 0 (jP _) (a,k) ⟨rfl,fun _ _=>rfl,Int.le_refl _,by show k≤k+_;omega⟩
 rw [jO] at h4
 exact ⟨k',t,Ev.congr hF (Ev.bind e .done),h3,h4⟩
theorem qrL {α:Type} {pre a:List α} {j:Nat} {y:α} (hp:pre.length=j) (hj:j<a.length):setS (pre++a.drop j) (j:Int) y=(pre++[y])++a.drop (j+1):=by
 show (pre++a.drop j).set j y=_
 rw [List.set_append,if_neg (by omega),hp,Nat.sub_self,jx hj,List.set_cons_zero,jE]
 rfl
def marked (k:Int) (m:Nat):List Int:=(List.range m).map fun (i:Nat)=>k+(i:Int)
theorem qpx {a:List Int} {k:Int} (h0:0≤k) (h1:k≤1000000000000) (hl:a.length≤1048576):Ev (fun n=>qQ n a k) (k+(a.length:Int),marked k a.length):=by
 have hL:Ev (fun n=>qaA a n a k 0) (marked k a.length,k+(a.length:Int),(a.length:Int)):=by
  have:=loopF (τ:=List Int × Int) (Lf:=fun n t j=>qaA a n t.1 t.2 j) (S:=fun j=>(marked k j++a.drop j,k+(j:Int))) (len:=a.length) (fin:=(marked k a.length,k+(a.length:Int),(a.length:Int))) (fun n=>by
    simp only [qaA,qk (je _),cond_false,List.drop_length,List.append_nil])
   (fun j hj X hX=>by
    have hp:(marked k j).length=j:=by simp [marked]
    have hlt:j<(marked k j++a.drop j).length:=by rw [ji,hp,List.length_drop];omega
    have hm:marked k (j+1)=marked k j++[k+(j:Int)]:=by unfold marked;rw [List.range_succ,jM];rfl
    simp only [qaA,qj hj,cond_true,qct hlt,jd,qrL hp hj,wS j,qaw (show -9223372036854775808≤k+(j:Int)+1 by omega) (by omega)]
    rw [←hm]
    rw [show k+(j:Int)+1=k+((j+1:Nat):Int) by omega]
    exact hX)
  simpa [marked] using this
 unfold qQ
 exact Ev.bind hL .done
theorem qex {a:List Int} {k:Int} (h0:0≤k) (h1:k≤1000000000000) (hl:qad a≤1048576):∃ k' x,Ev (fun n=>qQ n a k) (k',x)∧k≤k'∧k'≤k+16*(qad a:Int) :=
 ⟨_,_,qpx h0 h1 hl,by omega,by unfold qad;omega⟩
theorem qpK {a b:ByteArray} (h:a.size+b.size≤1000000):catB a b=some (a++b):=by
 unfold catB
 rw [if_pos]
 show ((a.size+b.size:Nat):Int)≤9223372036854775807
 omega
theorem qnu {x:IntK .u8}:(strOf [x]).size=1:=rfl
theorem qgP {k:Int} (hk:k≤1000000000001000):∃ s,Ev (fun n=>qcY n k) s:=by
 have main:∀ m:Nat,∀ i1:Int,∀ z:ByteArray,0≤i1→i1≤9000000000000000000→i1<10 ^ m→z.size+m≤1000→∃ o:Int × ByteArray,o.2.size≤1000∧Ev (fun n=>qd8 n i1 z) o:=by
  intro m
  induction m with
  | zero =>
   intro i1 z h0 hb h1 hz
   have:i1=0:=by have:(10:Int) ^ 0=1:=rfl;omega
   subst this
   exact ⟨(0,z),by show z.size≤1000;omega,Ev.succ (Ev.ff (by decide) .done)⟩
  | succ m ih =>
   intro i1 z h0 hb h1 hz
   by_cases hp:i1=0
   ·subst hp
    exact ⟨(0,z),by show z.size≤1000;omega,Ev.succ (Ev.ff (by decide) .done)⟩
   ·have hd:i1.tdiv 10=i1 / 10:=Int.tdiv_eq_ediv_of_nonneg h0
    have h10:(10:Int) ^ (m+1)=10 ^ m*10:=Int.pow_succ _ _
    have hc:catB (strOf ([(⟨IntKind.wrap .u8 (W64 (48+(i1.tmod 10)))⟩:IntK .u8)])) z=some (strOf ([(⟨IntKind.wrap .u8 (W64 (48+(i1.tmod 10)))⟩:IntK .u8)])++z):=qpK (by rw [qnu];omega)
    obtain ⟨o,ho,e⟩:=ih (i1 / 10) (strOf ([(⟨IntKind.wrap .u8 (W64 (48+(i1.tmod 10)))⟩:IntK .u8)])++z) (by omega) (by omega) (by omega) (by rw [ByteArray.size_append,qnu];omega)
    refine ⟨o,ho,Ev.succ ?_⟩
    simp only [qd8,show decide (i1 > 0)=true by simp;omega,cond_true,hc,jd,hd,qaw (show -9223372036854775808≤i1 / 10 by omega) (by omega)]
    exact e
 unfold qcY
 by_cases h0:k≤0
 ·exact ⟨_,Ev.tt (by simpa using h0) .done⟩
 ·obtain ⟨⟨o1,o2⟩,ho,e⟩:=main 16 k ⟨#[]⟩ (by omega) (by omega) (by have:(10:Int) ^ 16=10000000000000000:=rfl;omega) (by decide)
  refine ⟨(⟨#[109]⟩:ByteArray)++o2,Ev.ff (by simp;omega) (Ev.bind e ?_)⟩
  have ho:o2.size≤1000:=ho
  show Ev (fun n=>(catB ⟨#[109]⟩ o2).bind fun z3=>some z3) _
  rw [qpK (show (⟨#[109]⟩:ByteArray).size+o2.size≤1000000 by have:(⟨#[109]⟩:ByteArray).size=1:=rfl;omega)]
  exact .done
theorem qjU {a:(List qp)} {k:Int} (h0:0≤k) (h1:k+16*(qb7 a:Int)≤1000000000000) (hw:qb7 a≤1048576):Mk (fun n=>qfL n a k) k (qb7 a):=by
 refine qfW (a:=a) (wt:=(fun x:qp=>qcT x)) h0 h1 (Lf:=qcf a) (fun n t k=>by simp only [qcf,qk (je _),cond_false]) (fun x hx k h0 h1=>?_) (by simp only [qb7] at hw;omega) (fun _=>rfl)
 have hs:=qbS (wt:=(fun x:qp=>qcT x)) hx
 have ew:qcT x=qad x.Bb+qad x.Ba+qad x.Au:=rfl
 have hw:a.length+(a.map (fun x:qp=>qcT x)).sum≤1048576:=hw
 simp only [ew] at hs h1 ⊢
 obtain ⟨k1,x1,q1,l1,u1⟩:=qex (a:=x.Bb) (k:=k) (by omega) (by omega) (by omega)
 obtain ⟨k2,x2,q2,l2,u2⟩:=qex (a:=x.Ba) (k:=k1) (by omega) (by omega) (by omega)
 obtain ⟨k3,x3,q3,l3,u3⟩:=qex (a:=x.Au) (k:=k2) (by omega) (by omega) (by omega)
 refine ⟨⟨x1,x2,x3⟩,k3,by omega,by omega,fun t j hb hj ht hx X hX=>?_⟩
 simp only [qcf,qj hj,cond_true,qb8 hb]
 try simp only [qaf hx,jd]
 refine Ev.bind q1 ?_
 refine Ev.bind q2 ?_
 refine Ev.bind q3 ?_
 exact hX
theorem qog {a:(List qF)} {k:Int} (h0:0≤k) (h1:k+16*(qfz a:Int)≤1000000000000) (hw:qfz a≤1048576):Mk (fun n=>qil n a k) k (qfz a):=by
 refine qfW (a:=a) (wt:=(fun x:qF=>qgr x)) h0 h1 (Lf:=qc5 a) (fun n t k=>by simp only [qc5,qk (je _),cond_false]) (fun x hx k h0 h1=>?_) (by simp only [qfz] at hw;omega) (fun _=>rfl)
 have hs:=qbS (wt:=(fun x:qF=>qgr x)) hx
 have ew:qgr x=qb7 x.Az+qb7 x.Bi:=rfl
 have hw:a.length+(a.map (fun x:qF=>qgr x)).sum≤1048576:=hw
 simp only [ew] at hs h1 ⊢
 have e1:W64 (k+1)=k+1:=qaw (by omega) (by omega)
 have e2:W64 (k+1+1)=k+1+1:=qaw (by omega) (by omega)
 have e3:W64 (k+1+1+1)=k+1+1+1:=qaw (by omega) (by omega)
 have e4:W64 (k+1+1+1+1)=k+1+1+1+1:=qaw (by omega) (by omega)
 obtain ⟨k1,x1,q1,l1,u1⟩:=qjU (a:=x.Az) (k:=k+1+1+1+1) (by omega) (by omega) (by omega)
 obtain ⟨k2,x2,q2,l2,u2⟩:=qjU (a:=x.Bi) (k:=k1) (by omega) (by omega) (by omega)
 refine ⟨⟨k,k+1,k+1+1,k+1+1+1,x1,x2⟩,k2,by omega,by omega,fun t j hb hj ht hx X hX=>?_⟩
 simp only [qc5,qj hj,cond_true,qb8 hb]
 try simp only [qaf hx,jd,e1,e2,e3,e4]
 refine Ev.bind q1 ?_
 refine Ev.bind q2 ?_
 exact hX
theorem qoe {a:(List qM)} {k:Int} (h0:0≤k) (h1:k+16*(qfy a:Int)≤1000000000000) (hw:qfy a≤1048576):Mk (fun n=>qii n a k) k (qfy a):=by
 refine qfW (a:=a) (wt:=(fun x:qM=>qhP x)) h0 h1 (Lf:=qdf a) (fun n t k=>by simp only [qdf,qk (je _),cond_false]) (fun x hx k h0 h1=>?_) (by simp only [qfy] at hw;omega) (fun _=>rfl)
 have hs:=qbS (wt:=(fun x:qM=>qhP x)) hx
 have ew:qhP x=x.Aq.size:=rfl
 have hw:a.length+(a.map (fun x:qM=>qhP x)).sum≤1048576:=hw
 simp only [ew] at hs h1 ⊢
 obtain ⟨s1,es1⟩:=qgP (k:=k) (by omega)
 have e1:W64 (k+1)=k+1:=qaw (by omega) (by omega)
 have e2:W64 (k+1+1)=k+1+1:=qaw (by omega) (by omega)
 have e3:W64 (k+1+1+1)=k+1+1+1:=qaw (by omega) (by omega)
 have e4:W64 (k+1+1+1+1)=k+1+1+1+1:=qaw (by omega) (by omega)
 refine ⟨⟨s1,k+1,k+1+1,((k+1+1+1).tmod 3)==0⟩,k+1+1+1+1,by omega,by omega,fun t j hb hj ht hx X hX=>?_⟩
 simp only [qdf,qj hj,cond_true,qb8 hb]
 try simp only [qaf hx,qoB ht,jd,qni]
 refine Ev.bind es1 ?_
 try simp only [e1,e2,e3,e4]
 exact hX
theorem qnw {a:(List qn)} {k:Int} (h0:0≤k) (h1:k+16*(qeu a:Int)≤1000000000000) (hw:qeu a≤1048576):Mk (fun n=>qhL n a k) k (qeu a):=by
 refine qfW (a:=a) (wt:=(fun x:qn=>qel x)) h0 h1 (Lf:=qcB a) (fun n t k=>by simp only [qcB,qk (je _),cond_false]) (fun x hx k h0 h1=>?_) (by simp only [qeu] at hw;omega) (fun _=>rfl)
 have hs:=qbS (wt:=(fun x:qn=>qel x)) hx
 have ew:qel x=x.Aq.size+qfy x.Am+qfz x.Ar+qad x.Ay:=rfl
 have hw:a.length+(a.map (fun x:qn=>qel x)).sum≤1048576:=hw
 simp only [ew] at hs h1 ⊢
 obtain ⟨s1,es1⟩:=qgP (k:=k) (by omega)
 have e1:W64 (k+1)=k+1:=qaw (by omega) (by omega)
 have e2:W64 (k+1+1)=k+1+1:=qaw (by omega) (by omega)
 obtain ⟨k2,x2,q2,l2,u2⟩:=qoe (a:=x.Am) (k:=k+1+1) (by omega) (by omega) (by omega)
 obtain ⟨k3,x3,q3,l3,u3⟩:=qog (a:=x.Ar) (k:=k2) (by omega) (by omega) (by omega)
 obtain ⟨k4,x4,q4,l4,u4⟩:=qex (a:=x.Ay) (k:=k3) (by omega) (by omega) (by omega)
 have e3:W64 (k4+1)=k4+1:=qaw (by omega) (by omega)
 have e4:W64 (k4+1+1)=k4+1+1:=qaw (by omega) (by omega)
 refine ⟨⟨s1,k+1,x2,x3,x4,k4,k4+1⟩,k4+1+1,by omega,by omega,fun t j hb hj ht hx X hX=>?_⟩
 simp only [qcB,qj hj,cond_true,qb8 hb]
 try simp only [qaf hx,jd]
 refine Ev.bind es1 ?_
 try simp only [e1,e2]
 refine Ev.bind q2 ?_
 refine Ev.bind q3 ?_
 refine Ev.bind q4 ?_
 try simp only [e3,e4]
 exact hX
theorem qmw {a:qh} {k:Int} (h0:0≤k) (h1:k+16*(qc7 a:Int)≤1000000000000) (hw:qc7 a≤1048576):Mk (fun n=>qfw n a k) k (qc7 a):=by
 simp only [qc7] at h1 hw ⊢
 obtain ⟨k1,x1,q1,l1,u1⟩:=qnw (a:=a.Ai) (k:=k) (by omega) (by omega) (by omega)
 refine ⟨k1,x1,?_,by omega,by omega⟩
 unfold qfw
 exact Ev.bind q1 (.done)
theorem qkQ {a:(List qd)} {k:Int} (h0:0≤k) (h1:k+16*(qbg a:Int)≤1000000000000) (hw:qbg a≤1048576):Mk (fun n=>qfN n a k) k (qbg a):=by
 refine qfW (a:=a) (wt:=(fun x:qd=>qa3 x)) h0 h1 (Lf:=qbs a) (fun n t k=>by simp only [qbs,qk (je _),cond_false]) (fun x hx k h0 h1=>?_) (by simp only [qbg] at hw;omega) (fun _=>rfl)
 have hs:=qbS (wt:=(fun x:qd=>qa3 x)) hx
 have ew:qa3 x=x.Aq.size+qad x.Af:=rfl
 have hw:a.length+(a.map (fun x:qd=>qa3 x)).sum≤1048576:=hw
 simp only [ew] at hs h1 ⊢
 obtain ⟨s1,es1⟩:=qgP (k:=k) (by omega)
 have e1:W64 (k+1)=k+1:=qaw (by omega) (by omega)
 have e2:W64 (k+1+1)=k+1+1:=qaw (by omega) (by omega)
 obtain ⟨k2,x2,q2,l2,u2⟩:=qex (a:=x.Af) (k:=k+1+1) (by omega) (by omega) (by omega)
 refine ⟨⟨s1,k+1,x2⟩,k2,by omega,by omega,fun t j hb hj ht hx X hX=>?_⟩
 simp only [qbs,qj hj,cond_true,qb8 hb]
 try simp only [qaf hx,jd]
 refine Ev.bind es1 ?_
 try simp only [e1,e2]
 refine Ev.bind q2 ?_
 exact hX
theorem qma {a:(List ByteArray)} {k:Int} (h0:0≤k) (h1:k+16*(qc8 a:Int)≤1000000000000) (hw:qc8 a≤1048576):Mk (fun n=>qgC n a k) k (qc8 a):=by
 refine qfW (a:=a) (wt:=(fun x:ByteArray=>x.size)) h0 h1 (Lf:=qbX a) (fun n t k=>by simp only [qbX,qk (je _),cond_false]) (fun x hx k h0 h1=>?_) (by simp only [qc8] at hw;omega) (fun _=>rfl)
 obtain ⟨s,es⟩:=qgP (k:=k) (by omega)
 have e1:W64 (k+1)=k+1:=qaw (by omega) (by omega)
 refine ⟨s,k+1,by omega,by omega,fun t j hb hj ht hx X hX=>?_⟩
 simp only [qbX,qj hj,cond_true,e1,qb8 hb]
 refine Ev.bind es ?_
 try simp only [qaf hx,jd]
 exact hX
theorem qnX {a:(List qy)} {k:Int} (h0:0≤k) (h1:k+16*(qen a:Int)≤1000000000000) (hw:qen a≤1048576):Mk (fun n=>qhJ n a k) k (qen a):=by
 refine qfW (a:=a) (wt:=(fun x:qy=>qfQ x)) h0 h1 (Lf:=qcC a) (fun n t k=>by simp only [qcC,qk (je _),cond_false]) (fun x hx k h0 h1=>?_) (by simp only [qen] at hw;omega) (fun _=>rfl)
 have hs:=qbS (wt:=(fun x:qy=>qfQ x)) hx
 have ew:qfQ x=x.Aq.size:=rfl
 have hw:a.length+(a.map (fun x:qy=>qfQ x)).sum≤1048576:=hw
 simp only [ew] at hs h1 ⊢
 obtain ⟨s1,es1⟩:=qgP (k:=k) (by omega)
 have e1:W64 (k+1)=k+1:=qaw (by omega) (by omega)
 have e2:W64 (k+1+1)=k+1+1:=qaw (by omega) (by omega)
 have e3:W64 (k+1+1+1)=k+1+1+1:=qaw (by omega) (by omega)
 refine ⟨⟨s1,k+1,k+1+1⟩,k+1+1+1,by omega,by omega,fun t j hb hj ht hx X hX=>?_⟩
 simp only [qcC,qj hj,cond_true,qb8 hb]
 try simp only [qaf hx,qoB ht,jd,qni]
 refine Ev.bind es1 ?_
 try simp only [e1,e2,e3]
 exact hX
theorem qmZ {a:qc} {k:Int} (h0:0≤k) (h1:k+16*(qdn a:Int)≤1000000000000) (hw:qdn a≤1048576):Mk (fun n=>qfI n a k) k (qdn a):=by
 simp only [qdn] at h1 hw ⊢
 obtain ⟨k1,x1,q1,l1,u1⟩:=qkQ (a:=a.Aa) (k:=k) (by omega) (by omega) (by omega)
 obtain ⟨k2,x2,q2,l2,u2⟩:=qma (a:=a.Af) (k:=k1) (by omega) (by omega) (by omega)
 obtain ⟨k3,x3,q3,l3,u3⟩:=qnX (a:=a.Ac) (k:=k2) (by omega) (by omega) (by omega)
 refine ⟨k3,(x1,x2,x3),?_,by omega,by omega⟩
 unfold qfI
 exact Ev.bind q1 (Ev.bind q2 (Ev.bind q3 (.done)))
theorem qnN {a:(List qw)} {k:Int} (h0:0≤k) (h1:k+16*(qes a:Int)≤1000000000000) (hw:qes a≤1048576):Mk (fun n=>qhO n a k) k (qes a):=by
 refine qfW (a:=a) (wt:=(fun x:qw=>qd3 x)) h0 h1 (Lf:=qcx a) (fun n t k=>by simp only [qcx,qk (je _),cond_false]) (fun x hx k h0 h1=>?_) (by simp only [qes] at hw;omega) (fun _=>rfl)
 have hs:=qbS (wt:=(fun x:qw=>qd3 x)) hx
 have ew:qd3 x=qad x.Ak+qad x.Bm+qad x.Bk+qad x.Bc:=rfl
 have hw:a.length+(a.map (fun x:qw=>qd3 x)).sum≤1048576:=hw
 simp only [ew] at hs h1 ⊢
 obtain ⟨k1,x1,q1,l1,u1⟩:=qex (a:=x.Ak) (k:=k) (by omega) (by omega) (by omega)
 obtain ⟨k2,x2,q2,l2,u2⟩:=qex (a:=x.Bm) (k:=k1) (by omega) (by omega) (by omega)
 obtain ⟨k3,x3,q3,l3,u3⟩:=qex (a:=x.Bk) (k:=k2) (by omega) (by omega) (by omega)
 obtain ⟨k4,x4,q4,l4,u4⟩:=qex (a:=x.Bc) (k:=k3) (by omega) (by omega) (by omega)
 refine ⟨⟨x1,x2,x3,x4⟩,k4,by omega,by omega,fun t j hb hj ht hx X hX=>?_⟩
 simp only [qcx,qj hj,cond_true,qb8 hb]
 try simp only [qaf hx,jd]
 refine Ev.bind q1 ?_
 refine Ev.bind q2 ?_
 refine Ev.bind q3 ?_
 refine Ev.bind q4 ?_
 exact hX
theorem qnO {a:qm} {k:Int} (h0:0≤k) (h1:k+16*(qez a:Int)≤1000000000000) (hw:qez a≤1048576):Mk (fun n=>qf4 n a k) k (qez a):=by
 simp only [qez] at h1 hw ⊢
 obtain ⟨k1,x1,q1,l1,u1⟩:=qmw (a:=a.Ah) (k:=k) (by omega) (by omega) (by omega)
 obtain ⟨k2,⟨x2_0,x2_1,x2_2⟩,q2,l2,u2⟩:=qmZ (a:=a.Ab) (k:=k1) (by omega) (by omega) (by omega)
 obtain ⟨k3,x3,q3,l3,u3⟩:=qnN (a:=a.Aj) (k:=k2) (by omega) (by omega) (by omega)
 refine ⟨k3,(x1,x2_0,x2_1,x2_2,x3),?_,by omega,by omega⟩
 unfold qf4
 exact Ev.bind q1 (Ev.bind q2 (Ev.bind q3 (.done)))
end Go.Fw


namespace Go.Fw
open Go
set_option maxRecDepth 100000
theorem qin {b:qm} {s:ByteArray} (h0:qjJ b) (_h1:rngS s):Ev (fun n=>qdq n b s) true:=by
 unfold qdq
 by_cases hs:(s.size:Int) > 1048576
 ·exact Ev.tt (decide_eq_true hs) .done
 refine Ev.ff (decide_eq_false hs) ?_
 obtain ⟨r1,e1,q1⟩:=qrF (a:=b) (left:=1048576) h0 (by omega) (by omega)
 refine Ev.bind e1 ?_
 rcases q1 with q1|⟨p1,q1⟩
 ·exact Ev.tt (by simpa using q1) .done
 refine Ev.ff (by simp;omega) ?_
 have w0:qez b≤1048576:=by omega
 have k0:=qoV h0 w0
 obtain ⟨⟨R0,R1⟩,hsp,hi,v0⟩:=qkW (b:=b) (s:=s) k0 (by omega)
 have v0:qdE R0≤1048576:=v0
 refine Ev.bind (qkg w0) (Ev.bind hsp (Ev.bind (qkg w0) (Ev.bind hi ?_)))
 refine Ev.bind (b:=false) (Ev.bind (qiG v0) (Ev.ff rfl (Ev.now (by simp)))) (Ev.ff rfl ?_)
 refine Ev.bind (qkg w0) (Ev.bind (qrC w0) (Ev.ff rfl ?_))
 obtain ⟨m1,⟨x1_0,x1_1,x1_2,x1_3,x1_4⟩,mk1,ml1,mu1⟩:=qnO (a:=b) (k:=1) (by omega) (by omega) w0
 refine Ev.bind mk1 ?_
 refine Ev.bind (b:=false) (Ev.ff (by simp;omega) (Ev.bind (qiG v0) (Ev.ff rfl (Ev.now (by simp))))) (Ev.ff rfl ?_)
 obtain ⟨z1,y1,y2,y3,hm1,hh1,zl1⟩:=qnG (a:=R0) (k:=1) (by omega) (by omega) v0
 refine Ev.bind hm1 (Ev.bind hh1 (Ev.ff (by simp;omega) (Ev.ff qa2 ?_)))
 refine Ev.bind (qkg w0) (Ev.bind hi ?_)
 refine Ev.bind (b:=false) (Ev.bind (qiG v0) (Ev.ff rfl (Ev.now (by simp)))) (Ev.ff rfl ?_)
 exact Ev.bind hh1 (Ev.ff (by simp;omega) (Ev.ff qa2 .done))
end Go.Fw


namespace Go.Fw
open Go
open Go.ChangeShapes Go.WideShapes Go.ChangeAt Go.RowKit
theorem qgv {H:Type} {enc:TypeId × Value→H} {a:Assume} {C:Checked} {os:Os} {f:FuncId} {fn:Func} {s:ChangeSpec} {conds:List PathCond} {apart fresh handsOn again:Bool} {X:World→Array Value→Prop}
  (hX:∀ (w w':World) (args:Array Value),w.heap=w'.heap→X w args→X w' args)
  (own:ownKnob C.prog.godebug=none) (started:os.Started) (noInit:C.prog.inits.idxOf? f=none) (hfn:C.prog.funcs[f]?=some fn)
  (witness:∃ (w:World) (tape:Tape) (i:Input),w.os=os∧(w.forCall tape i).Shaped C.prog∧i.vars=[]∧Input.okWide C.prog (w.forCall tape i) .any w.heap.size f i ∧
   ((s.pre enc C.prog fn conds apart (w.forCall tape i).memory i.args∧X (w.forCall tape i).memory i.args)∧sizedMet enc C.prog fn (OpenSpec.ofChange s) apart (w.forCall tape i).memory i.args)∧a.holds C.prog (lone (Frame.enter C.prog f i.args .normal) [] (w.forCall tape i)))
  (contract:∀ (W:World) (base:Nat) (args:Array Value) (ds gs:List (DataW H)) (before:List MemPlace),
   (∀ (j:Nat) t v,fn.params[j]?=some t→args[j]?=some v→Value.okWide C.prog W .any base t v) →
   DataW.Whole enc C.prog fn.params.toList s.vars apart W args.toList ds gs before →
   X W args→W.ShapedOpen C.prog →
   Calls C.prog f args W fun e W'=>∃ v,e=.returned v∧s.post enc C.prog fn apart fresh handsOn again W args v W') :
  ReturnsInHanded a C os f .any (fun w args=>(s.pre enc C.prog fn conds apart w args∧X w args)∧sizedMet enc C.prog fn (OpenSpec.ofChange s) apart w args) (s.post enc C.prog fn apart fresh handsOn again):=by
 refine returnsInHanded_of_calls own started noInit witness ?_
 intro w tape i _ hsh _ hok hpre _
 obtain ⟨_,_,_,fn',hfn',_,_,_,_,hval⟩:=hok
 have e:fn'=fn:=Option.some.inj (hfn'.symm.trans hfn)
 subst e
 obtain ⟨⟨⟨ds,gs,before,hw,_⟩,hx⟩,_⟩:=hpre
 have hw':=DataW.Whole.of_heap (w':=w.forCall tape i) (by rfl) hw
 refine (contract (w.forCall tape i) w.heap.size i.args ds gs before hval hw' (hX _ _ _ (by rfl) hx) hsh).mono fun e W' ⟨v,he,hp⟩=>?_
 subst he
 exact ChangeSpec.post_blind hp
variable {P:Program} {W:World}
theorem GVE.of_shaped {g:Nat} {zero:Array Value} {t t':TypeId} (hw:W.ShapedOpen P) (hg:g<P.globals.size) (hz:((begin P (fun _ _=>0) default).world.heap[g]?).bind Obj.row?=some (zero,t)) (h1:zero.size=1) (hb:P.buildable t=true) (hc:P.cellTypes P.depth t=some [t']) (hu:P.underlying t'=some (.int .i64)):GVE g isIntC W (Fw.old W):=by
 obtain ⟨cs,e1,e2,h3⟩:=hw.1 g zero t hg hz
 obtain ⟨ts,e,_,hv⟩:=h3 hb
 rw [hc] at e
 obtain rfl:=Option.some.inj e
 have hs:cs.size=1:=by omega
 have h0:cs[0]?=some (cs[0]'(by omega)):=Array.getElem?_eq_getElem _
 obtain ⟨u,hu',hk⟩:=hv 0 _ h0
 have eu:u=t':=by simpa using hu'.symm
 subst eu
 have ec:cs=[cs[0]'(by omega)].toArray:=by
  refine Array.ext (by simp [hs]) fun i h1 h2=>?_
  obtain rfl:i=0:=by omega
  rfl
 refine ⟨rfl,(Array.getElem?_eq_some_iff.1 e1).1,[cs[0]'(by omega)],t,_,?_,by rw [←ec];exact e1⟩
 generalize cs[0]'(by omega)=v at hk
 unfold Cell.ok at hk
 rw [hu] at hk
 cases v with
 | int k n =>
  obtain ⟨rfl,_⟩:=hk
  rfl
 | _=>exact hk.elim
theorem qm7 {H:Type} {enc:TypeId × Value→H} {base:Nat} {sp:Nat→Bool} {held:Bool} {fuel:Nat} {t:TypeId} {ms:Array (String × TypeId)} {cs:List Value} {d:DataW H} {p:List MemPlace} (ht:P.underlying t=some (.interface ms))
  (h:DataW.trod enc P W base sp held fuel t cs=some (d,p)):isErrC cs=true:=by
 cases fuel with
 | zero=>simp [DataW.trod] at h
 | succ fuel =>
  simp only [DataW.trod,ht] at h
  split at h<;>first|rfl|(exfalso;simp_all;done)
end Go.Fw
