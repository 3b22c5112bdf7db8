/- By a program of mine (gen.py): for each function a plain function and the proof that the code computes it. -/
import Derived.Test.YteofoidaapgdkaaGreatDoorW20
import Derived.Test.YteofoidaapgdkaaGreatDoorB7
import Derived.Test.YteofoidaapgdkaaGreatDoorFw30
import Derived.Test.YteofoidaapgdkaaGreatDoorA2
open Option renaming bind_some → jd
open Nat renaming le_refl → je, mul_le_mul_right → jn, le_of_ble_eq_true → jp, lt_of_lt_of_le → jr, succ_mul → jC, zero_add → jP, le_trans → jQ
open Bool renaming and_eq_true → jf, eq_iff_iff → jh, not_eq_true' → ju, true_and → jA
open Go.Result renaming andThen_ok → jg
open List renaming getElem?_eq_getElem → ji, length_append → jm, mem_cons_of_mem → jo, getElem?_append_left → jq, getElem_mem → js, mem_cons_self → jt, getElem?_take → jv, getElem?_append_right → jw, append_assoc → jx, getElem?_toArray → jz, eq_nil_of_length_eq_zero → jB, length_singleton → jD, length_map → jE, all_eq_true → jF, getElem_of_mem → jG, size_toArray → jH, getD_eq_getElem?_getD → jJ, map_append → jK, drop_eq_getElem_cons → jL, mem_of_getElem? → jM, not_mem_nil → jN, take_length → jO, mem_cons → jR
open Go.Sem renaming run_bind → jj, run_pure → jk
open Int renaming toNat_natCast → jy
open Array renaming getElem?_append_left → jI

namespace Go.Fw
open Go Go.Proofs
open Go.RowKit (Below)
set_option maxRecDepth 100000
set_option maxHeartbeats 1600000
variable {n:Nat} {w:World} {cs1 cs2 cs3 cs4 cs5 cs6 cs7 cs8 cs9:List Value}
def qd7:Nat→Int→ByteArray→Option (Int × ByteArray)
 | 0,_,_=>none
 | n+1,i1,z1 =>
  bif decide (i1 > 0) then
   (catB (strOf ([(⟨IntKind.wrap .u8 (W64 (48+(i1.tmod 10)))⟩:IntK .u8)]:List (IntK .u8))) z1).bind fun z2 =>
   qd7 n (W64 (i1.tdiv 10)) z2
  else
   some (i1,z1)
def qcX (n:Nat) (k:Int):Option ByteArray :=
 bif decide (k≤0) then some (⟨#[109,48]⟩:ByteArray) else
 (qd7 n k (⟨#[]⟩:ByteArray)).bind fun o=>match o with
 | (_,z1) =>
  (catB (⟨#[109]⟩:ByteArray) z1).bind fun z3 =>
  some z3
theorem qd8 {k:Int}  {r:ByteArray} (hF:qcX n k=some r):RetV Tryz.prog 212 [.int .i64 k] w r:=by
 refine zV 20 Tryz.func212 rfl fun h=>X0 10 rfl (qh rfl hF ?_ ?_)<;>intro hF
 ·refine X0 4 rfl ?_
  obtain rfl:=qa hF
  exact qaE qb (ρ:=ByteArray) [_] h ⟨rfl,trivial⟩ (qqP _ _)
 refine X0 6 rfl ?_
 obtain ⟨o1,hF,hK1⟩:=qf hF
 refine ql (rL (fun m e w'=>∃ (i1:Int) (z1:ByteArray),qd7 m i1 z1=some o1∧e=[(0,.int .i64 i1),(3,.string z1)]∧SH w w' []) n ⟨_,_,hF,rfl,h⟩ rfl ?_)
 rintro m1 e1 w1 ⟨i1,z1,hF,rfl,h⟩
 rcases m1 with _|m1
 ·cases hF
 refine X0 6 rfl (qh rfl hF ?_ ?_)<;>intro hF
 ·refine X0 8 rfl (qab qb [.tmp 11] _ ([(⟨IntKind.wrap .u8 (W64 (48+(i1.tmod 10)))⟩:IntK .u8)]:List (IntK .u8)) h rfl rfl rfl rfl rfl rfl rfl rfl rfl ⟨rfl,trivial⟩ rfl fun w2 p1 S1 h=>r_v (qtj qb (h.sl 0 rfl).1 (h.sl 0 rfl).2 rfl ⟨rfl,rfl⟩ ⟨rfl,rfl⟩ rfl rfl) rfl (zp1 rfl ?_))
  obtain ⟨z2,hx1,hF⟩:=qf hF
  obtain ⟨g1,hx1⟩:=qoy hx1
  refine r_v (qtX g1 rfl rfl) rfl ?_
  rw [hx1]
  refine X0 8 rfl ?_
  replace h:=h.pick [] rfl
  exact rK ⟨_,_,hF,rfl,h⟩ rfl
 refine qr rfl ?_
 obtain rfl:=qa hF;replace hF:=hK1
 refine X0 3 rfl ?_
 obtain ⟨z3,hx2,hF⟩:=qf hF
 obtain ⟨g2,hx2⟩:=qoy hx2
 refine r_v (qtX g2 rfl rfl) rfl ?_
 rw [hx2]
 refine X0 2 rfl ?_
 obtain rfl:=qa hF
 exact qaE qb (ρ:=ByteArray) [_] h ⟨rfl,trivial⟩ (qqP _ _)
def qdd (a:(List qO)):Nat→(List qO)→Int→Int→Option ((List qO) × Int × Int)
 | 0,_,_,_=>none
 | n+1,x1,i1,i2 =>
  bif decide (i2<(a.length:Int)) then
   (qcX n i1).bind fun r1 =>
   (idx x1 i2).bind fun y1 =>
   (idx (setS x1 i2 ({ y1 with Ar:=r1 })) i2).bind fun y2 =>
   (idx (setS (setS x1 i2 ({ y1 with Ar:=r1 })) i2 ({ y2 with Bm:=W64 (i1+1) })) i2).bind fun y3 =>
   (idx (setS (setS (setS x1 i2 ({ y1 with Ar:=r1 })) i2 ({ y2 with Bm:=W64 (i1+1) })) i2 ({ y3 with Bk:=W64 ((W64 (i1+1))+1) })) i2).bind fun y4 =>
   qdd a n (setS (setS (setS (setS x1 i2 ({ y1 with Ar:=r1 })) i2 ({ y2 with Bm:=W64 (i1+1) })) i2 ({ y3 with Bk:=W64 ((W64 (i1+1))+1) })) i2 ({ y4 with Bh:=(((W64 ((W64 ((W64 (i1+1))+1))+1)).tmod 3)==0) })) (W64 ((W64 ((W64 ((W64 (i1+1))+1))+1))+1)) (W64 (i2+1))
  else
   some (x1,i1,i2)
def qiU (n:Nat) (a:(List qO)) (k:Int):Option (Int × (List qO)) :=
 (qdd a n a k 0).bind fun o=>match o with
 | (x1,i1,_) =>
  some (i1,x1)
theorem qlz {n:Nat} {w0 w:World} {F:List Ch} {a:(List qO)} {k:Int} {S1:Nat→Prop} {p1:Option Addr} {ln1 k1:Nat} (h:SH w0 w (Ch.own S1 (a:List qO) [.slice p1 ln1 k1]::F)) {r:(Int × (List qO))} (hF:qiU n a k=some r):RetN Tryz.prog 213 [.slice p1 ln1 k1,.int .i64 k] w (fun w'=>∃ Z0:Nat→Prop,SH w0 w' (Ch.own Z0 (r.2:List qO) [.slice p1 ln1 k1]::F)) r.1:=by
 refine qa4 Tryz.func213 rfl (m:=44) rfl rfl ?_
 obtain rfl:=(h.sl 0 rfl).2
 refine X0 9 rfl ?_
 obtain ⟨o1,hF,hK1⟩:=qf hF
 refine ql (rL (fun m e w'=>∃ (x1:(List qO)) (i1:Int) (i2:Int),qdd a m x1 i1 i2=some o1∧e=[(0,.slice p1 a.length k1),(1,.int .i64 i1),(5,.int .i64 i2)]∧SH w0 w' (Ch.own S1 (x1:List qO) [.slice p1 a.length k1]::F)) n ⟨_,_,_,hF,rfl,h⟩ rfl ?_)
 rintro m1 e1 w1 ⟨x1,i1,i2,hF,rfl,h⟩
 rcases m1 with _|m1
 ·cases hF
 refine X0 8 rfl (qh rfl hF ?_ ?_)<;>intro hF
 ·refine X0 8 rfl (zcS h hF qd8 rfl fun r1 w2 h hF=>?_)
  obtain ⟨y1,hy1,hF,he1,b1,_,q1,cs1,hp1,hq1,hr2,hc2⟩:=(h.sl 0 rfl).1.ix hF
  obtain rfl:=qau hr2
  refine zx hp1 hq1 ⟨he1.1,qJ he1.2.1 (h.sl 0 rfl).2⟩ rfl (zp1 rfl (qaS qb 0 0 ({ y1 with Ar:=r1 }:qO) h rfl hy1 hp1 hq1 (qcJ y1) hc2 rfl rfl rfl (qcJ ({ y1 with Ar:=r1 })) rfl rfl rfl fun w3 h=>X0 12 rfl ?_))
  obtain ⟨y2,hy2,hF,he2,b2,_,q2,cs2,hp2,hq2,hr3,hc3⟩:=(h.sl 0 rfl).1.ix hF
  obtain rfl:=qau hr3
  refine zx hp2 hq2 ⟨he2.1,qJ he2.2.1 (h.sl 0 rfl).2⟩ rfl (zp1 rfl (qaS qb 0 1 ({ y2 with Bm:=W64 (i1+1) }:qO) h rfl hy2 hp2 hq2 (qcJ y2) hc3 rfl rfl rfl (qcJ ({ y2 with Bm:=W64 (i1+1) })) rfl rfl rfl fun w4 h=>X0 12 rfl ?_))
  obtain ⟨y3,hy3,hF,he3,b3,_,q3,cs3,hp3,hq3,hr4,hc4⟩:=(h.sl 0 rfl).1.ix hF
  obtain rfl:=qau hr4
  refine zx hp3 hq3 ⟨he3.1,qJ he3.2.1 (h.sl 0 rfl).2⟩ rfl (zp1 rfl (qaS qb 0 2 ({ y3 with Bk:=W64 ((W64 (i1+1))+1) }:qO) h rfl hy3 hp3 hq3 (qcJ y3) hc4 rfl rfl rfl (qcJ ({ y3 with Bk:=W64 ((W64 (i1+1))+1) })) rfl rfl rfl fun w5 h=>X0 14 rfl ?_))
  obtain ⟨y4,hy4,hF,he4,b4,_,q4,cs4,hp4,hq4,hr5,hc5⟩:=(h.sl 0 rfl).1.ix hF
  obtain rfl:=qau hr5
  exact zx hp4 hq4 ⟨he4.1,qJ he4.2.1 (h.sl 0 rfl).2⟩ rfl (zp1 rfl (qaS qb 0 3 ({ y4 with Bh:=(((W64 ((W64 ((W64 (i1+1))+1))+1)).tmod 3)==0) }:qO) h rfl hy4 hp4 hq4 (qcJ y4) hc5 rfl rfl rfl (qcJ ({ y4 with Bh:=(((W64 ((W64 ((W64 (i1+1))+1))+1)).tmod 3)==0) })) rfl rfl rfl fun w6 h=>X0 12 rfl (rK ⟨_,_,_,hF,rfl,h⟩ rfl)))
 refine qr rfl ?_
 obtain rfl:=qa hF;replace hF:=hK1
 refine X0 5 rfl ?_
 obtain rfl:=qa hF
 exact qfC qb ⟨_,h⟩ ⟨rfl,trivial⟩
def qb9 (a:(List qq)):Nat→(List qq)→Int→Int→Option ((List qq) × Int × Int)
 | 0,_,_,_=>none
 | n+1,x1,i1,i2 =>
  bif decide (i2<(a.length:Int)) then
   (idx x1 i2).bind fun y1 =>
   (qah n y1.Bf i1).bind fun o=>match o with
    | (r1,x2) =>
     (qah n y1.Be r1).bind fun o=>match o with
      | (r2,x3) =>
       (qah n y1.Av r2).bind fun o=>match o with
        | (r3,x4) =>
         qb9 a n (setS x1 i2 (⟨x2,x3,x4⟩:qq)) r3 (W64 (i2+1))
  else
   some (x1,i1,i2)
def qfT (n:Nat) (a:(List qq)) (k:Int):Option (Int × (List qq)) :=
 (qb9 a n a k 0).bind fun o=>match o with
 | (x1,i1,_) =>
  some (i1,x1)
theorem qhB {n:Nat} {w0 w:World} {F:List Ch} {a:(List qq)} {k:Int} {S1:Nat→Prop} {p1:Option Addr} {ln1 k1:Nat} (h:SH w0 w (Ch.own S1 (a:List qq) [.slice p1 ln1 k1]::F)) {r:(Int × (List qq))} (hF:qfT n a k=some r):RetN Tryz.prog 257 [.slice p1 ln1 k1,.int .i64 k] w (fun w'=>∃ Z0:Nat→Prop,SH w0 w' (Ch.own Z0 (r.2:List qq) [.slice p1 ln1 k1]::F)) r.1:=by
 refine qa4 Tryz.func257 rfl (m:=34) rfl rfl ?_
 obtain rfl:=(h.sl 0 rfl).2
 refine X0 9 rfl ?_
 obtain ⟨o1,hF,hK1⟩:=qf hF
 refine ql (rL (fun m e w'=>∃ (S2:Nat→Prop) (x1:(List qq)) (i1:Int) (i2:Int),qb9 a m x1 i1 i2=some o1∧e=[(0,.slice p1 a.length k1),(1,.int .i64 i1),(5,.int .i64 i2)]∧SH w0 w' (Ch.own S2 (x1:List qq) [.slice p1 a.length k1]::F)) n ⟨_,_,_,_,hF,rfl,h⟩ rfl ?_)
 rintro m1 e1 w1 ⟨S2,x1,i1,i2,hF,rfl,h⟩
 rcases m1 with _|m1
 ·cases hF
 refine X0 8 rfl (qh rfl hF ?_ ?_)<;>intro hF
 ·refine X0 7 rfl ?_
  obtain ⟨y1,hy1,hF⟩:=qf hF
  have he1:=qcf hy1
  obtain ⟨S3,S4,cs1,h⟩:=h.take hy1
  obtain ⟨p2,k2,p3,k3,p4,k4,rfl,-,-,-⟩:=qaX (h.own 0 rfl)
  obtain ⟨S5,S6,S7,h⟩:=qo8 h
  obtain ⟨b1,hp1,-,-,hl2⟩:=h.holeAt 3 rfl
  obtain ⟨q1,hq1⟩:∃ q,q=0+(i2).toNat*GoT.k qq:=⟨_,rfl⟩
  refine zx hp1 hq1 ⟨he1.1,qJ he1.2.1 hl2⟩ rfl (zp1 rfl (zc 0 (qbR h 3 rfl hp1 hq1) rfl (zp1 rfl ?_)))
  replace h:=h.pickT 4 [2,0,1,3] rfl
  obtain ⟨o2,hr1,hF⟩:=qf hF
  obtain ⟨r1,x2⟩:=o2
  refine qbi r1 (cB 22 rfl) (qan h hr1) rfl rfl rfl rfl ?_
  rintro w2 ⟨S8,h⟩
  refine X0 6 rfl ?_
  obtain ⟨b2,hp2,-,-,hl4⟩:=h.holeAt 3 rfl
  obtain ⟨q2,hq2⟩:∃ q,q=0+(i2).toNat*GoT.k qq:=⟨_,rfl⟩
  refine zx hp2 hq2 ⟨he1.1,qJ he1.2.1 hl4⟩ rfl (zp1 rfl (zc 1 (qbR h 3 rfl hp2 hq2) rfl (zp1 rfl ?_)))
  replace h:=h.pickT 4 [2,0,1,3] rfl
  obtain ⟨o3,hr2,hF⟩:=qf hF
  obtain ⟨r2,x3⟩:=o3
  refine qbi r2 (cB 22 rfl) (qan h hr2) rfl rfl rfl rfl ?_
  rintro w3 ⟨S9,h⟩
  refine X0 5 rfl ?_
  obtain ⟨b3,hp3,-,-,hl6⟩:=h.holeAt 3 rfl
  obtain ⟨q3,hq3⟩:∃ q,q=0+(i2).toNat*GoT.k qq:=⟨_,rfl⟩
  refine zx hp3 hq3 ⟨he1.1,qJ he1.2.1 hl6⟩ rfl (zp1 rfl (zc 2 (qbR h 3 rfl hp3 hq3) rfl (zp1 rfl ?_)))
  replace h:=h.pickT 4 [2,0,1,3] rfl
  obtain ⟨o4,hr3,hF⟩:=qf hF
  obtain ⟨r3,x4⟩:=o4
  refine qbi r3 (cB 22 rfl) (qan h hr3) rfl rfl rfl rfl ?_
  rintro w4 ⟨S10,h⟩
  refine X0 8 rfl ?_
  obtain ⟨S11,h⟩:=h.gatherT 4 [3] (qoD (⟨x2,x3,x4⟩:qq) h (qas 2 h rfl) (qas 1 h rfl) (qas 0 h rfl) (by rfl) (by rfl)) rfl
  replace h:=h.put
  obtain ⟨S12,h⟩:=qlO (S:=_) h
  exact rK ⟨_,_,_,_,hF,rfl,h⟩ rfl
 refine qr rfl ?_
 obtain rfl:=qa hF;replace hF:=hK1
 refine X0 5 rfl ?_
 obtain rfl:=qa hF
 exact qfC qb ⟨_,h⟩ ⟨rfl,trivial⟩
def qc5 (a:(List qF)):Nat→(List qF)→Int→Int→Option ((List qF) × Int × Int)
 | 0,_,_,_=>none
 | n+1,x1,i1,i2 =>
  bif decide (i2<(a.length:Int)) then
   (idx x1 i2).bind fun y1 =>
   (qfT n y1.Bb (W64 ((W64 ((W64 ((W64 (i1+1))+1))+1))+1))).bind fun o=>match o with
    | (r1,x2) =>
     (qfT n y1.Az r1).bind fun o=>match o with
      | (r2,x3) =>
       qc5 a n (setS x1 i2 (⟨i1,W64 (i1+1),W64 ((W64 (i1+1))+1),W64 ((W64 ((W64 (i1+1))+1))+1),x2,x3⟩:qF)) r2 (W64 (i2+1))
  else
   some (x1,i1,i2)
def qiX (n:Nat) (a:(List qF)) (k:Int):Option (Int × (List qF)) :=
 (qc5 a n a k 0).bind fun o=>match o with
 | (x1,i1,_) =>
  some (i1,x1)
theorem qlr {n:Nat} {w0 w:World} {F:List Ch} {a:(List qF)} {k:Int} {S1:Nat→Prop} {p1:Option Addr} {ln1 k1:Nat} (h:SH w0 w (Ch.own S1 (a:List qF) [.slice p1 ln1 k1]::F)) {r:(Int × (List qF))} (hF:qiX n a k=some r):RetN Tryz.prog 214 [.slice p1 ln1 k1,.int .i64 k] w (fun w'=>∃ Z0:Nat→Prop,SH w0 w' (Ch.own Z0 (r.2:List qF) [.slice p1 ln1 k1]::F)) r.1:=by
 refine qa4 Tryz.func214 rfl (m:=55) rfl rfl ?_
 obtain rfl:=(h.sl 0 rfl).2
 refine X0 9 rfl ?_
 obtain ⟨o1,hF,hK1⟩:=qf hF
 refine ql (rL (fun m e w'=>∃ (S2:Nat→Prop) (x1:(List qF)) (i1:Int) (i2:Int),qc5 a m x1 i1 i2=some o1∧e=[(0,.slice p1 a.length k1),(1,.int .i64 i1),(5,.int .i64 i2)]∧SH w0 w' (Ch.own S2 (x1:List qF) [.slice p1 a.length k1]::F)) n ⟨_,_,_,_,hF,rfl,h⟩ rfl ?_)
 rintro m1 e1 w1 ⟨S2,x1,i1,i2,hF,rfl,h⟩
 rcases m1 with _|m1
 ·cases hF
 refine X0 8 rfl (qh rfl hF ?_ ?_)<;>intro hF
 ·refine X0 8 rfl ?_
  obtain ⟨y1,hy1,hF⟩:=qf hF
  have he1:=qcf hy1
  obtain ⟨S3,S4,cs1,h⟩:=h.take hy1
  obtain ⟨p2,k2,p3,k3,rfl,-,-⟩:=qag (h.own 0 rfl)
  obtain ⟨S5,S6,h⟩:=qqM h
  obtain ⟨b1,hp1,-,-,hl2⟩:=h.holeAt 2 rfl
  obtain ⟨q1,hq1⟩:∃ q,q=0+(i2).toNat*GoT.k qF:=⟨_,rfl⟩
  refine zx hp1 hq1 ⟨he1.1,qJ he1.2.1 hl2⟩ rfl (zp1 rfl (qe7 qb 2 0 h rfl hp1 hq1 rfl rfl rfl rfl rfl rfl fun w2 h=>?_))
  replace h:SH _ _ (Ch.own S6 (y1.Az:List qq) [.slice p3 y1.Az.length k3]::Ch.own S5 (y1.Bb:List qq) [.slice p2 y1.Bb.length k2]::Ch.hole S4 (x1:List qF) p1 a.length k1 (i2).toNat [.int .i64 i1,.int .i64 y1.Bd,.int .i64 y1.To,.int .i64 y1.Bi,.slice p2 y1.Bb.length k2,.slice p3 y1.Az.length k3]::F):=h
  refine X0 12 rfl ?_
  obtain ⟨b2,hp2,-,-,hl4⟩:=h.holeAt 2 rfl
  obtain ⟨q2,hq2⟩:∃ q,q=0+(i2).toNat*GoT.k qF:=⟨_,rfl⟩
  refine zx hp2 hq2 ⟨he1.1,qJ he1.2.1 hl4⟩ rfl (zp1 rfl (qe7 qb 2 1 h rfl hp2 hq2 rfl rfl rfl rfl rfl rfl fun w3 h=>X0 12 rfl ?_))
  obtain ⟨b3,hp3,-,-,hl6⟩:=h.holeAt 2 rfl
  obtain ⟨q3,hq3⟩:∃ q,q=0+(i2).toNat*GoT.k qF:=⟨_,rfl⟩
  refine zx hp3 hq3 ⟨he1.1,qJ he1.2.1 hl6⟩ rfl (zp1 rfl (qe7 qb 2 2 h rfl hp3 hq3 rfl rfl rfl rfl rfl rfl fun w4 h=>X0 12 rfl ?_))
  obtain ⟨b4,hp4,-,-,hl8⟩:=h.holeAt 2 rfl
  obtain ⟨q4,hq4⟩:∃ q,q=0+(i2).toNat*GoT.k qF:=⟨_,rfl⟩
  refine zx hp4 hq4 ⟨he1.1,qJ he1.2.1 hl8⟩ rfl (zp1 rfl (qe7 qb 2 3 h rfl hp4 hq4 rfl rfl rfl rfl rfl rfl fun w5 h=>?_))
  replace h:SH _ _ (Ch.own S6 (y1.Az:List qq) [.slice p3 y1.Az.length k3]::Ch.own S5 (y1.Bb:List qq) [.slice p2 y1.Bb.length k2]::Ch.hole S4 (x1:List qF) p1 a.length k1 (i2).toNat [.int .i64 i1,.int .i64 (W64 (i1+1)),.int .i64 (W64 ((W64 (i1+1))+1)),.int .i64 (W64 ((W64 ((W64 (i1+1))+1))+1)),.slice p2 y1.Bb.length k2,.slice p3 y1.Az.length k3]::F):=h
  refine X0 11 rfl ?_
  obtain ⟨b5,hp5,-,-,hl10⟩:=h.holeAt 2 rfl
  obtain ⟨q5,hq5⟩:∃ q,q=0+(i2).toNat*GoT.k qF:=⟨_,rfl⟩
  refine zx hp5 hq5 ⟨he1.1,qJ he1.2.1 hl10⟩ rfl (zp1 rfl (zc 4 (qbR h 2 rfl hp5 hq5) rfl (zp1 rfl ?_)))
  replace h:=h.pickT 3 [1,0,2] rfl
  obtain ⟨o2,hr1,hF⟩:=qf hF
  obtain ⟨r1,x2⟩:=o2
  refine qbi r1 (cB 257 rfl) (qhB h hr1) rfl rfl rfl rfl ?_
  rintro w6 ⟨S7,h⟩
  refine X0 5 rfl ?_
  obtain ⟨b6,hp6,-,-,hl12⟩:=h.holeAt 2 rfl
  obtain ⟨q6,hq6⟩:∃ q,q=0+(i2).toNat*GoT.k qF:=⟨_,rfl⟩
  refine zx hp6 hq6 ⟨he1.1,qJ he1.2.1 hl12⟩ rfl (zp1 rfl (zc 5 (qbR h 2 rfl hp6 hq6) rfl (zp1 rfl ?_)))
  replace h:=h.pickT 3 [1,0,2] rfl
  obtain ⟨o3,hr2,hF⟩:=qf hF
  obtain ⟨r2,x3⟩:=o3
  refine qbi r2 (cB 257 rfl) (qhB h hr2) rfl rfl rfl rfl ?_
  rintro w7 ⟨S8,h⟩
  refine X0 8 rfl ?_
  obtain ⟨S9,h⟩:=h.gatherT 3 [2] (qq7 (⟨i1,W64 (i1+1),W64 ((W64 (i1+1))+1),W64 ((W64 ((W64 (i1+1))+1))+1),x2,x3⟩:qF) h (qK (S:=fun _=>False) rfl) (qK (S:=fun _=>False) rfl) (qK (S:=fun _=>False) rfl) (qK (S:=fun _=>False) rfl) (qas 1 h rfl) (qas 0 h rfl) (by rfl) (by rfl) (by rfl) (by rfl) (by rfl)) rfl
  replace h:=h.put
  obtain ⟨S10,h⟩:=qlO (S:=_) h
  exact rK ⟨_,_,_,_,hF,rfl,h⟩ rfl
 refine qr rfl ?_
 obtain rfl:=qa hF;replace hF:=hK1
 refine X0 5 rfl ?_
 obtain rfl:=qa hF
 exact qfC qb ⟨_,h⟩ ⟨rfl,trivial⟩
def qco (a:(List qp)):Nat→(List qp)→Int→Int→Option ((List qp) × Int × Int)
 | 0,_,_,_=>none
 | n+1,x1,i1,i2 =>
  bif decide (i2<(a.length:Int)) then
   (qcX n i1).bind fun r1 =>
   (idx x1 i2).bind fun y1 =>
   (qiU n y1.Am (W64 ((W64 (i1+1))+1))).bind fun o=>match o with
    | (r2,x2) =>
     (qiX n y1.Aj r2).bind fun o=>match o with
      | (r3,x3) =>
       (qah n y1.Bc r3).bind fun o=>match o with
        | (r4,x4) =>
         qco a n (setS x1 i2 (⟨r1,W64 (i1+1),x2,x3,x4,r4,W64 (r4+1)⟩:qp)) (W64 ((W64 (r4+1))+1)) (W64 (i2+1))
  else
   some (x1,i1,i2)
def qie (n:Nat) (a:(List qp)) (k:Int):Option (Int × (List qp)) :=
 (qco a n a k 0).bind fun o=>match o with
 | (x1,i1,_) =>
  some (i1,x1)
theorem qkR {n:Nat} {w0 w:World} {F:List Ch} {a:(List qp)} {k:Int} {S1:Nat→Prop} {p1:Option Addr} {ln1 k1:Nat} (h:SH w0 w (Ch.own S1 (a:List qp) [.slice p1 ln1 k1]::F)) {r:(Int × (List qp))} (hF:qie n a k=some r):RetN Tryz.prog 140 [.slice p1 ln1 k1,.int .i64 k] w (fun w'=>∃ Z0:Nat→Prop,SH w0 w' (Ch.own Z0 (r.2:List qp) [.slice p1 ln1 k1]::F)) r.1:=by
 refine qa4 Tryz.func140 rfl (m:=63) rfl rfl ?_
 obtain rfl:=(h.sl 0 rfl).2
 refine X0 9 rfl ?_
 obtain ⟨o1,hF,hK1⟩:=qf hF
 refine ql (rL (fun m e w'=>∃ (S2:Nat→Prop) (x1:(List qp)) (i1:Int) (i2:Int),qco a m x1 i1 i2=some o1∧e=[(0,.slice p1 a.length k1),(1,.int .i64 i1),(5,.int .i64 i2)]∧SH w0 w' (Ch.own S2 (x1:List qp) [.slice p1 a.length k1]::F)) n ⟨_,_,_,_,hF,rfl,h⟩ rfl ?_)
 rintro m1 e1 w1 ⟨S2,x1,i1,i2,hF,rfl,h⟩
 rcases m1 with _|m1
 ·cases hF
 refine X0 8 rfl (qh rfl hF ?_ ?_)<;>intro hF
 ·refine X0 8 rfl (zcS h hF qd8 rfl fun r1 w2 h hF=>?_)
  obtain ⟨y1,hy1,hF⟩:=qf hF
  have he1:=qcf hy1
  obtain ⟨S3,S4,cs1,h⟩:=h.take hy1
  obtain ⟨p2,k2,p3,k3,p4,k4,rfl,-,-,-⟩:=qU (h.own 0 rfl)
  obtain ⟨S5,S6,S7,h⟩:=qpI h
  obtain ⟨b1,hp1,-,-,hl2⟩:=h.holeAt 3 rfl
  obtain ⟨q1,hq1⟩:∃ q,q=0+(i2).toNat*GoT.k qp:=⟨_,rfl⟩
  refine zx hp1 hq1 ⟨he1.1,qJ he1.2.1 hl2⟩ rfl (zp1 rfl (qe7 qb 3 0 h rfl hp1 hq1 rfl rfl rfl rfl rfl rfl fun w3 h=>?_))
  replace h:SH _ _ (Ch.own S7 (y1.Bc:List Int) [.slice p4 y1.Bc.length k4]::Ch.own S6 (y1.Aj:List qF) [.slice p3 y1.Aj.length k3]::Ch.own S5 (y1.Am:List qO) [.slice p2 y1.Am.length k2]::Ch.hole S4 (x1:List qp) p1 a.length k1 (i2).toNat [.string r1,.int .i64 y1.Ay,.slice p2 y1.Am.length k2,.slice p3 y1.Aj.length k3,.slice p4 y1.Bc.length k4,.int .i64 y1.Bq,.int .i64 y1.Bj]::F):=h
  refine X0 12 rfl ?_
  obtain ⟨b2,hp2,-,-,hl4⟩:=h.holeAt 3 rfl
  obtain ⟨q2,hq2⟩:∃ q,q=0+(i2).toNat*GoT.k qp:=⟨_,rfl⟩
  refine zx hp2 hq2 ⟨he1.1,qJ he1.2.1 hl4⟩ rfl (zp1 rfl (qe7 qb 3 1 h rfl hp2 hq2 rfl rfl rfl rfl rfl rfl fun w4 h=>X0 11 rfl ?_))
  obtain ⟨b3,hp3,-,-,hl6⟩:=h.holeAt 3 rfl
  obtain ⟨q3,hq3⟩:∃ q,q=0+(i2).toNat*GoT.k qp:=⟨_,rfl⟩
  refine zx hp3 hq3 ⟨he1.1,qJ he1.2.1 hl6⟩ rfl (zp1 rfl (zc 2 (qbR h 3 rfl hp3 hq3) rfl (zp1 rfl ?_)))
  replace h:=h.pickT 4 [2,0,1,3] rfl
  obtain ⟨o2,hr2,hF⟩:=qf hF
  obtain ⟨r2,x2⟩:=o2
  refine qbi r2 (cB 213 rfl) (qlz h hr2) rfl rfl rfl rfl ?_
  rintro w5 ⟨S8,h⟩
  refine X0 6 rfl ?_
  obtain ⟨b4,hp4,-,-,hl8⟩:=h.holeAt 3 rfl
  obtain ⟨q4,hq4⟩:∃ q,q=0+(i2).toNat*GoT.k qp:=⟨_,rfl⟩
  refine zx hp4 hq4 ⟨he1.1,qJ he1.2.1 hl8⟩ rfl (zp1 rfl (zc 3 (qbR h 3 rfl hp4 hq4) rfl (zp1 rfl ?_)))
  replace h:=h.pickT 4 [2,0,1,3] rfl
  obtain ⟨o3,hr3,hF⟩:=qf hF
  obtain ⟨r3,x3⟩:=o3
  refine qbi r3 (cB 214 rfl) (qlr h hr3) rfl rfl rfl rfl ?_
  rintro w6 ⟨S9,h⟩
  refine X0 6 rfl ?_
  obtain ⟨b5,hp5,-,-,hl10⟩:=h.holeAt 3 rfl
  obtain ⟨q5,hq5⟩:∃ q,q=0+(i2).toNat*GoT.k qp:=⟨_,rfl⟩
  refine zx hp5 hq5 ⟨he1.1,qJ he1.2.1 hl10⟩ rfl (zp1 rfl (zc 4 (qbR h 3 rfl hp5 hq5) rfl (zp1 rfl ?_)))
  replace h:=h.pickT 4 [2,0,1,3] rfl
  obtain ⟨o4,hr4,hF⟩:=qf hF
  obtain ⟨r4,x4⟩:=o4
  refine qbi r4 (cB 22 rfl) (qan h hr4) rfl rfl rfl rfl ?_
  rintro w7 ⟨S10,h⟩
  refine X0 7 rfl ?_
  obtain ⟨b6,hp6,-,-,hl12⟩:=h.holeAt 3 rfl
  obtain ⟨q6,hq6⟩:∃ q,q=0+(i2).toNat*GoT.k qp:=⟨_,rfl⟩
  refine zx hp6 hq6 ⟨he1.1,qJ he1.2.1 hl12⟩ rfl (zp1 rfl (qe7 qb 3 5 h rfl hp6 hq6 rfl rfl rfl rfl rfl rfl fun w8 h=>X0 12 rfl ?_))
  obtain ⟨b7,hp7,-,-,hl14⟩:=h.holeAt 3 rfl
  obtain ⟨q7,hq7⟩:∃ q,q=0+(i2).toNat*GoT.k qp:=⟨_,rfl⟩
  refine zx hp7 hq7 ⟨he1.1,qJ he1.2.1 hl14⟩ rfl (zp1 rfl (qe7 qb 3 6 h rfl hp7 hq7 rfl rfl rfl rfl rfl rfl fun w9 h=>?_))
  replace h:SH _ _ (Ch.own S10 (x4:List Int) [.slice p4 y1.Bc.length k4]::Ch.own S9 (x3:List qF) [.slice p3 y1.Aj.length k3]::Ch.own S8 (x2:List qO) [.slice p2 y1.Am.length k2]::Ch.hole S4 (x1:List qp) p1 a.length k1 (i2).toNat [.string r1,.int .i64 (W64 (i1+1)),.slice p2 y1.Am.length k2,.slice p3 y1.Aj.length k3,.slice p4 y1.Bc.length k4,.int .i64 r4,.int .i64 (W64 (r4+1))]::F):=h
  refine X0 12 rfl ?_
  obtain ⟨S11,h⟩:=h.gatherT 4 [3] (qp3 (⟨r1,W64 (i1+1),x2,x3,x4,r4,W64 (r4+1)⟩:qp) h (qK (S:=fun _=>False) rfl) (qK (S:=fun _=>False) rfl) (qas 2 h rfl) (qas 1 h rfl) (qas 0 h rfl) (qK (S:=fun _=>False) rfl) (qK (S:=fun _=>False) rfl) (by rfl) (by rfl) (by rfl) (by rfl) (by rfl) (by rfl)) rfl
  replace h:=h.put
  obtain ⟨S12,h⟩:=qlO (S:=_) h
  exact rK ⟨_,_,_,_,hF,rfl,h⟩ rfl
 refine qr rfl ?_
 obtain rfl:=qa hF;replace hF:=hK1
 refine X0 5 rfl ?_
 obtain rfl:=qa hF
 exact qfC qb ⟨_,h⟩ ⟨rfl,trivial⟩
def qfr (n:Nat) (a:qn) (k:Int):Option (Int × (List qp)) :=
 (qie n a.Ak k).bind fun o=>match o with
  | (r1,x1) =>
   some (r1,x1)
theorem qjM {n:Nat} {w0 w:World} {F:List Ch} {a:qn} {k:Int} {S1:Nat→Prop} {p1:Option Addr} {ln1 k1:Nat} (h:SH w0 w (Ch.own S1 (a.Ak:List qp) [.slice p1 ln1 k1]::F)) {r:(Int × (List qp))} (hF:qfr n a k=some r):RetN Tryz.prog 64 [.agg #[.slice p1 ln1 k1],.int .i64 k] w (fun w'=>∃ Z0:Nat→Prop,SH w0 w' (Ch.own Z0 (r.2:List qp) [.slice p1 ln1 k1]::F)) r.1:=by
 refine qa4 Tryz.func64 rfl (m:=10) rfl rfl ?_
 obtain rfl:=(h.sl 0 rfl).2
 refine zSR (qu h rfl rfl fun w1 bb1 h=>X1 7 0 h rfl ?_)
 replace h:=h.pickT 2 [1,0] rfl
 obtain ⟨o1,hr1,hF⟩:=qf hF
 obtain ⟨r1,x1⟩:=o1
 refine qbi r1 (cB 140 rfl) (qkR h hr1) rfl rfl rfl rfl ?_
 rintro w2 ⟨S2,h⟩
 refine X0 7 rfl ?_
 obtain rfl:=qa hF
 replace h:=h.pickT 2 [0] rfl
 exact qfC qb ⟨_,h⟩ ⟨rfl,trivial⟩
def qbq (a:(List qd)):Nat→(List qd)→Int→Int→Option ((List qd) × Int × Int)
 | 0,_,_,_=>none
 | n+1,x1,i1,i2 =>
  bif decide (i2<(a.length:Int)) then
   (qcX n i1).bind fun r1 =>
   (idx x1 i2).bind fun y1 =>
   (qah n y1.Ah (W64 ((W64 (i1+1))+1))).bind fun o=>match o with
    | (r2,x2) =>
     qbq a n (setS x1 i2 (⟨r1,W64 (i1+1),x2⟩:qd)) r2 (W64 (i2+1))
  else
   some (x1,i1,i2)
def qf4 (n:Nat) (a:(List qd)) (k:Int):Option (Int × (List qd)) :=
 (qbq a n a k 0).bind fun o=>match o with
 | (x1,i1,_) =>
  some (i1,x1)
theorem qjl {n:Nat} {w0 w:World} {F:List Ch} {a:(List qd)} {k:Int} {S1:Nat→Prop} {p1:Option Addr} {ln1 k1:Nat} (h:SH w0 w (Ch.own S1 (a:List qd) [.slice p1 ln1 k1]::F)) {r:(Int × (List qd))} (hF:qf4 n a k=some r):RetN Tryz.prog 141 [.slice p1 ln1 k1,.int .i64 k] w (fun w'=>∃ Z0:Nat→Prop,SH w0 w' (Ch.own Z0 (r.2:List qd) [.slice p1 ln1 k1]::F)) r.1:=by
 refine qa4 Tryz.func141 rfl (m:=35) rfl rfl ?_
 obtain rfl:=(h.sl 0 rfl).2
 refine X0 9 rfl ?_
 obtain ⟨o1,hF,hK1⟩:=qf hF
 refine ql (rL (fun m e w'=>∃ (S2:Nat→Prop) (x1:(List qd)) (i1:Int) (i2:Int),qbq a m x1 i1 i2=some o1∧e=[(0,.slice p1 a.length k1),(1,.int .i64 i1),(5,.int .i64 i2)]∧SH w0 w' (Ch.own S2 (x1:List qd) [.slice p1 a.length k1]::F)) n ⟨_,_,_,_,hF,rfl,h⟩ rfl ?_)
 rintro m1 e1 w1 ⟨S2,x1,i1,i2,hF,rfl,h⟩
 rcases m1 with _|m1
 ·cases hF
 refine X0 8 rfl (qh rfl hF ?_ ?_)<;>intro hF
 ·refine X0 8 rfl (zcS h hF qd8 rfl fun r1 w2 h hF=>?_)
  obtain ⟨y1,hy1,hF⟩:=qf hF
  have he1:=qcf hy1
  obtain ⟨S3,S4,cs1,h⟩:=h.take hy1
  obtain ⟨p2,k2,rfl,-⟩:=qM (h.own 0 rfl)
  obtain ⟨S5,h⟩:=qmk h
  obtain ⟨b1,hp1,-,-,hl2⟩:=h.holeAt 1 rfl
  obtain ⟨q1,hq1⟩:∃ q,q=0+(i2).toNat*GoT.k qd:=⟨_,rfl⟩
  refine zx hp1 hq1 ⟨he1.1,qJ he1.2.1 hl2⟩ rfl (zp1 rfl (qe7 qb 1 0 h rfl hp1 hq1 rfl rfl rfl rfl rfl rfl fun w3 h=>X0 12 rfl ?_))
  obtain ⟨b2,hp2,-,-,hl4⟩:=h.holeAt 1 rfl
  obtain ⟨q2,hq2⟩:∃ q,q=0+(i2).toNat*GoT.k qd:=⟨_,rfl⟩
  refine zx hp2 hq2 ⟨he1.1,qJ he1.2.1 hl4⟩ rfl (zp1 rfl (qe7 qb 1 1 h rfl hp2 hq2 rfl rfl rfl rfl rfl rfl fun w4 h=>?_))
  replace h:SH _ _ (Ch.own S5 (y1.Ah:List Int) [.slice p2 y1.Ah.length k2]::Ch.hole S4 (x1:List qd) p1 a.length k1 (i2).toNat [.string r1,.int .i64 (W64 (i1+1)),.slice p2 y1.Ah.length k2]::F):=h
  refine X0 10 rfl ?_
  obtain ⟨b3,hp3,-,-,hl6⟩:=h.holeAt 1 rfl
  obtain ⟨q3,hq3⟩:∃ q,q=0+(i2).toNat*GoT.k qd:=⟨_,rfl⟩
  refine zx hp3 hq3 ⟨he1.1,qJ he1.2.1 hl6⟩ rfl (zp1 rfl (zc 2 (qbR h 1 rfl hp3 hq3) rfl (zp1 rfl ?_)))
  obtain ⟨o2,hr2,hF⟩:=qf hF
  obtain ⟨r2,x2⟩:=o2
  refine qbi r2 (cB 22 rfl) (qan h hr2) rfl rfl rfl rfl ?_
  rintro w5 ⟨S6,h⟩
  refine X0 8 rfl ?_
  obtain ⟨S7,h⟩:=h.gatherT 2 [1] (qll (⟨r1,W64 (i1+1),x2⟩:qd) h (qK (S:=fun _=>False) rfl) (qK (S:=fun _=>False) rfl) (qas 0 h rfl) (by rfl) (by rfl)) rfl
  replace h:=h.put
  obtain ⟨S8,h⟩:=qlO (S:=_) h
  exact rK ⟨_,_,_,_,hF,rfl,h⟩ rfl
 refine qr rfl ?_
 obtain rfl:=qa hF;replace hF:=hK1
 refine X0 5 rfl ?_
 obtain rfl:=qa hF
 exact qfC qb ⟨_,h⟩ ⟨rfl,trivial⟩
def qbT (a:(List ByteArray)):Nat→(List ByteArray)→Int→Int→Option ((List ByteArray) × Int × Int)
 | 0,_,_,_=>none
 | n+1,x1,i1,i2 =>
  bif decide (i2<(a.length:Int)) then
   (qcX n i1).bind fun r1 =>
   (idx x1 i2).bind fun _ =>
   qbT a n (setS x1 i2 r1) (W64 (i1+1)) (W64 (i2+1))
  else
   some (x1,i1,i2)
def qgO (n:Nat) (a:(List ByteArray)) (k:Int):Option (Int × (List ByteArray)) :=
 (qbT a n a k 0).bind fun o=>match o with
 | (x1,i1,_) =>
  some (i1,x1)
theorem qjX {n:Nat} {w0 w:World} {F:List Ch} {a:(List ByteArray)} {k:Int} {S1:Nat→Prop} {p1:Option Addr} {ln1 k1:Nat} (h:SH w0 w (Ch.own S1 (a:List ByteArray) [.slice p1 ln1 k1]::F)) {r:(Int × (List ByteArray))} (hF:qgO n a k=some r):RetN Tryz.prog 142 [.slice p1 ln1 k1,.int .i64 k] w (fun w'=>∃ Z0:Nat→Prop,SH w0 w' (Ch.own Z0 (r.2:List ByteArray) [.slice p1 ln1 k1]::F)) r.1:=by
 refine qa4 Tryz.func142 rfl (m:=20) rfl rfl ?_
 obtain rfl:=(h.sl 0 rfl).2
 refine X0 9 rfl ?_
 obtain ⟨o1,hF,hK1⟩:=qf hF
 refine ql (rL (fun m e w'=>∃ (x1:(List ByteArray)) (i1:Int) (i2:Int),qbT a m x1 i1 i2=some o1∧e=[(0,.slice p1 a.length k1),(1,.int .i64 i1),(5,.int .i64 i2)]∧SH w0 w' (Ch.own S1 (x1:List ByteArray) [.slice p1 a.length k1]::F)) n ⟨_,_,_,hF,rfl,h⟩ rfl ?_)
 rintro m1 e1 w1 ⟨x1,i1,i2,hF,rfl,h⟩
 rcases m1 with _|m1
 ·cases hF
 refine X0 8 rfl (qh rfl hF ?_ ?_)<;>intro hF
 ·refine X0 8 rfl (zcS h hF qd8 rfl fun r1 w2 h hF=>?_)
  obtain ⟨y1,hy1,hF,he1,b1,_,q1,cs1,hp1,hq1,rfl,hc2⟩:=(h.sl 0 rfl).1.ix hF
  exact zx hp1 hq1 ⟨he1.1,qJ he1.2.1 (h.sl 0 rfl).2⟩ rfl (qaS qb 0 0 r1 h rfl hy1 hp1 hq1 rfl hc2 rfl rfl rfl rfl rfl rfl rfl fun w3 h=>X0 12 rfl (rK ⟨_,_,_,hF,rfl,h⟩ rfl))
 refine qr rfl ?_
 obtain rfl:=qa hF;replace hF:=hK1
 refine X0 5 rfl ?_
 obtain rfl:=qa hF
 exact qfC qb ⟨_,h⟩ ⟨rfl,trivial⟩
def qcr (a:(List qB)):Nat→(List qB)→Int→Int→Option ((List qB) × Int × Int)
 | 0,_,_,_=>none
 | n+1,x1,i1,i2 =>
  bif decide (i2<(a.length:Int)) then
   (qcX n i1).bind fun r1 =>
   (idx x1 i2).bind fun y1 =>
   (idx (setS x1 i2 ({ y1 with Ar:=r1 })) i2).bind fun y2 =>
   (idx (setS (setS x1 i2 ({ y1 with Ar:=r1 })) i2 ({ y2 with Bm:=W64 (i1+1) })) i2).bind fun y3 =>
   qcr a n (setS (setS (setS x1 i2 ({ y1 with Ar:=r1 })) i2 ({ y2 with Bm:=W64 (i1+1) })) i2 ({ y3 with Bp:=W64 ((W64 (i1+1))+1) })) (W64 ((W64 ((W64 (i1+1))+1))+1)) (W64 (i2+1))
  else
   some (x1,i1,i2)
def qik (n:Nat) (a:(List qB)) (k:Int):Option (Int × (List qB)) :=
 (qcr a n a k 0).bind fun o=>match o with
 | (x1,i1,_) =>
  some (i1,x1)
theorem qkM {n:Nat} {w0 w:World} {F:List Ch} {a:(List qB)} {k:Int} {S1:Nat→Prop} {p1:Option Addr} {ln1 k1:Nat} (h:SH w0 w (Ch.own S1 (a:List qB) [.slice p1 ln1 k1]::F)) {r:(Int × (List qB))} (hF:qik n a k=some r):RetN Tryz.prog 143 [.slice p1 ln1 k1,.int .i64 k] w (fun w'=>∃ Z0:Nat→Prop,SH w0 w' (Ch.own Z0 (r.2:List qB) [.slice p1 ln1 k1]::F)) r.1:=by
 refine qa4 Tryz.func143 rfl (m:=35) rfl rfl ?_
 obtain rfl:=(h.sl 0 rfl).2
 refine X0 9 rfl ?_
 obtain ⟨o1,hF,hK1⟩:=qf hF
 refine ql (rL (fun m e w'=>∃ (x1:(List qB)) (i1:Int) (i2:Int),qcr a m x1 i1 i2=some o1∧e=[(0,.slice p1 a.length k1),(1,.int .i64 i1),(5,.int .i64 i2)]∧SH w0 w' (Ch.own S1 (x1:List qB) [.slice p1 a.length k1]::F)) n ⟨_,_,_,hF,rfl,h⟩ rfl ?_)
 rintro m1 e1 w1 ⟨x1,i1,i2,hF,rfl,h⟩
 rcases m1 with _|m1
 ·cases hF
 refine X0 8 rfl (qh rfl hF ?_ ?_)<;>intro hF
 ·refine X0 8 rfl (zcS h hF qd8 rfl fun r1 w2 h hF=>?_)
  obtain ⟨y1,hy1,hF,he1,b1,_,q1,cs1,hp1,hq1,hr2,hc2⟩:=(h.sl 0 rfl).1.ix hF
  obtain rfl:=qak hr2
  refine zx hp1 hq1 ⟨he1.1,qJ he1.2.1 (h.sl 0 rfl).2⟩ rfl (zp1 rfl (qaS qb 0 0 ({ y1 with Ar:=r1 }:qB) h rfl hy1 hp1 hq1 (qdb y1) hc2 rfl rfl rfl (qdb ({ y1 with Ar:=r1 })) rfl rfl rfl fun w3 h=>X0 12 rfl ?_))
  obtain ⟨y2,hy2,hF,he2,b2,_,q2,cs2,hp2,hq2,hr3,hc3⟩:=(h.sl 0 rfl).1.ix hF
  obtain rfl:=qak hr3
  refine zx hp2 hq2 ⟨he2.1,qJ he2.2.1 (h.sl 0 rfl).2⟩ rfl (zp1 rfl (qaS qb 0 1 ({ y2 with Bm:=W64 (i1+1) }:qB) h rfl hy2 hp2 hq2 (qdb y2) hc3 rfl rfl rfl (qdb ({ y2 with Bm:=W64 (i1+1) })) rfl rfl rfl fun w4 h=>X0 12 rfl ?_))
  obtain ⟨y3,hy3,hF,he3,b3,_,q3,cs3,hp3,hq3,hr4,hc4⟩:=(h.sl 0 rfl).1.ix hF
  obtain rfl:=qak hr4
  exact zx hp3 hq3 ⟨he3.1,qJ he3.2.1 (h.sl 0 rfl).2⟩ rfl (zp1 rfl (qaS qb 0 2 ({ y3 with Bp:=W64 ((W64 (i1+1))+1) }:qB) h rfl hy3 hp3 hq3 (qdb y3) hc4 rfl rfl rfl (qdb ({ y3 with Bp:=W64 ((W64 (i1+1))+1) })) rfl rfl rfl fun w5 h=>X0 12 rfl (rK ⟨_,_,_,hF,rfl,h⟩ rfl)))
 refine qr rfl ?_
 obtain rfl:=qa hF;replace hF:=hK1
 refine X0 5 rfl ?_
 obtain rfl:=qa hF
 exact qfC qb ⟨_,h⟩ ⟨rfl,trivial⟩
def qfQ (n:Nat) (a:qc) (k:Int):Option (Int × (List qd) × (List ByteArray) × (List qB)) :=
 (qf4 n a.Aa k).bind fun o=>match o with
  | (r1,x1) =>
   (qgO n a.Ah r1).bind fun o=>match o with
    | (r2,x2) =>
     (qik n a.Af r2).bind fun o=>match o with
      | (r3,x3) =>
       some (r3,x1,x2,x3)
theorem qkx {n:Nat} {w0 w:World} {F:List Ch} {a:qc} {k:Int} {S1:Nat→Prop} {p1:Option Addr} {ln1 k1:Nat} {S2:Nat→Prop} {p2:Option Addr} {ln2 k2:Nat} {S3:Nat→Prop} {p3:Option Addr} {ln3 k3:Nat} (h:SH w0 w (Ch.own S3 (a.Af:List qB) [.slice p3 ln3 k3]::Ch.own S2 (a.Ah:List ByteArray) [.slice p2 ln2 k2]::Ch.own S1 (a.Aa:List qd) [.slice p1 ln1 k1]::F)) {r:(Int × (List qd) × (List ByteArray) × (List qB))} (hF:qfQ n a k=some r):RetN Tryz.prog 65 [.agg #[.slice p1 ln1 k1,.slice p2 ln2 k2,.slice p3 ln3 k3],.int .i64 k] w (fun w'=>∃ Z0 Z1 Z2:Nat→Prop,SH w0 w' (Ch.own Z2 (r.2.2.2:List qB) [.slice p3 ln3 k3]::Ch.own Z1 (r.2.2.1:List ByteArray) [.slice p2 ln2 k2]::Ch.own Z0 (r.2.1:List qd) [.slice p1 ln1 k1]::F)) r.1:=by
 refine qa4 Tryz.func65 rfl (m:=18) rfl rfl ?_
 obtain rfl:=(h.sl 0 rfl).2
 obtain rfl:=(h.sl 1 rfl).2
 obtain rfl:=(h.sl 2 rfl).2
 refine zSR (qu h rfl rfl fun w1 bb1 h=>X1 7 0 h rfl ?_)
 replace h:=h.pickT 4 [3,0,1,2] rfl
 obtain ⟨o1,hr1,hF⟩:=qf hF
 obtain ⟨r1,x1⟩:=o1
 refine qbi r1 (cB 141 rfl) (qjl h hr1) rfl rfl rfl rfl ?_
 rintro w2 ⟨S4,h⟩
 refine X1 7 1 h rfl ?_
 replace h:=h.pickT 4 [3,0,1,2] rfl
 obtain ⟨o2,hr2,hF⟩:=qf hF
 obtain ⟨r2,x2⟩:=o2
 refine qbi r2 (cB 142 rfl) (qjX h hr2) rfl rfl rfl rfl ?_
 rintro w3 ⟨S5,h⟩
 refine X1 7 2 h rfl ?_
 replace h:=h.pickT 4 [3,0,1,2] rfl
 obtain ⟨o3,hr3,hF⟩:=qf hF
 obtain ⟨r3,x3⟩:=o3
 refine qbi r3 (cB 143 rfl) (qkM h hr3) rfl rfl rfl rfl ?_
 rintro w4 ⟨S6,h⟩
 refine X0 7 rfl ?_
 obtain rfl:=qa hF
 replace h:=h.pickT 4 [0,1,2] rfl
 exact qfC qb ⟨_,_,_,h⟩ ⟨rfl,trivial⟩
def qcv (a:(List qw)):Nat→(List qw)→Int→Int→Option ((List qw) × Int × Int)
 | 0,_,_,_=>none
 | n+1,x1,i1,i2 =>
  bif decide (i2<(a.length:Int)) then
   (idx x1 i2).bind fun y1 =>
   (qah n y1.Ai i1).bind fun o=>match o with
    | (r1,x2) =>
     (qah n y1.Bn r1).bind fun o=>match o with
      | (r2,x3) =>
       (qah n y1.Bk r2).bind fun o=>match o with
        | (r3,x4) =>
         (qah n y1.Bg r3).bind fun o=>match o with
          | (r4,x5) =>
           qcv a n (setS x1 i2 (⟨x2,x3,x4,x5⟩:qw)) r4 (W64 (i2+1))
  else
   some (x1,i1,i2)
def qif (n:Nat) (a:(List qw)) (k:Int):Option (Int × (List qw)) :=
 (qcv a n a k 0).bind fun o=>match o with
 | (x1,i1,_) =>
  some (i1,x1)
theorem qkV {n:Nat} {w0 w:World} {F:List Ch} {a:(List qw)} {k:Int} {S1:Nat→Prop} {p1:Option Addr} {ln1 k1:Nat} (h:SH w0 w (Ch.own S1 (a:List qw) [.slice p1 ln1 k1]::F)) {r:(Int × (List qw))} (hF:qif n a k=some r):RetN Tryz.prog 66 [.slice p1 ln1 k1,.int .i64 k] w (fun w'=>∃ Z0:Nat→Prop,SH w0 w' (Ch.own Z0 (r.2:List qw) [.slice p1 ln1 k1]::F)) r.1:=by
 refine qa4 Tryz.func66 rfl (m:=41) rfl rfl ?_
 obtain rfl:=(h.sl 0 rfl).2
 refine X0 9 rfl ?_
 obtain ⟨o1,hF,hK1⟩:=qf hF
 refine ql (rL (fun m e w'=>∃ (S2:Nat→Prop) (x1:(List qw)) (i1:Int) (i2:Int),qcv a m x1 i1 i2=some o1∧e=[(0,.slice p1 a.length k1),(1,.int .i64 i1),(5,.int .i64 i2)]∧SH w0 w' (Ch.own S2 (x1:List qw) [.slice p1 a.length k1]::F)) n ⟨_,_,_,_,hF,rfl,h⟩ rfl ?_)
 rintro m1 e1 w1 ⟨S2,x1,i1,i2,hF,rfl,h⟩
 rcases m1 with _|m1
 ·cases hF
 refine X0 8 rfl (qh rfl hF ?_ ?_)<;>intro hF
 ·refine X0 7 rfl ?_
  obtain ⟨y1,hy1,hF⟩:=qf hF
  have he1:=qcf hy1
  obtain ⟨S3,S4,cs1,h⟩:=h.take hy1
  obtain ⟨p2,k2,p3,k3,p4,k4,p5,k5,rfl,-,-,-,-⟩:=qa0 (h.own 0 rfl)
  obtain ⟨S5,S6,S7,S8,h⟩:=qpT h
  obtain ⟨b1,hp1,-,-,hl2⟩:=h.holeAt 4 rfl
  obtain ⟨q1,hq1⟩:∃ q,q=0+(i2).toNat*GoT.k qw:=⟨_,rfl⟩
  refine zx hp1 hq1 ⟨he1.1,qJ he1.2.1 hl2⟩ rfl (zp1 rfl (zc 0 (qbR h 4 rfl hp1 hq1) rfl (zp1 rfl ?_)))
  replace h:=h.pickT 5 [3,0,1,2,4] rfl
  obtain ⟨o2,hr1,hF⟩:=qf hF
  obtain ⟨r1,x2⟩:=o2
  refine qbi r1 (cB 22 rfl) (qan h hr1) rfl rfl rfl rfl ?_
  rintro w2 ⟨S9,h⟩
  refine X0 6 rfl ?_
  obtain ⟨b2,hp2,-,-,hl4⟩:=h.holeAt 4 rfl
  obtain ⟨q2,hq2⟩:∃ q,q=0+(i2).toNat*GoT.k qw:=⟨_,rfl⟩
  refine zx hp2 hq2 ⟨he1.1,qJ he1.2.1 hl4⟩ rfl (zp1 rfl (zc 1 (qbR h 4 rfl hp2 hq2) rfl (zp1 rfl ?_)))
  replace h:=h.pickT 5 [3,0,1,2,4] rfl
  obtain ⟨o3,hr2,hF⟩:=qf hF
  obtain ⟨r2,x3⟩:=o3
  refine qbi r2 (cB 22 rfl) (qan h hr2) rfl rfl rfl rfl ?_
  rintro w3 ⟨S10,h⟩
  refine X0 6 rfl ?_
  obtain ⟨b3,hp3,-,-,hl6⟩:=h.holeAt 4 rfl
  obtain ⟨q3,hq3⟩:∃ q,q=0+(i2).toNat*GoT.k qw:=⟨_,rfl⟩
  refine zx hp3 hq3 ⟨he1.1,qJ he1.2.1 hl6⟩ rfl (zp1 rfl (zc 2 (qbR h 4 rfl hp3 hq3) rfl (zp1 rfl ?_)))
  replace h:=h.pickT 5 [3,0,1,2,4] rfl
  obtain ⟨o4,hr3,hF⟩:=qf hF
  obtain ⟨r3,x4⟩:=o4
  refine qbi r3 (cB 22 rfl) (qan h hr3) rfl rfl rfl rfl ?_
  rintro w4 ⟨S11,h⟩
  refine X0 5 rfl ?_
  obtain ⟨b4,hp4,-,-,hl8⟩:=h.holeAt 4 rfl
  obtain ⟨q4,hq4⟩:∃ q,q=0+(i2).toNat*GoT.k qw:=⟨_,rfl⟩
  refine zx hp4 hq4 ⟨he1.1,qJ he1.2.1 hl8⟩ rfl (zp1 rfl (zc 3 (qbR h 4 rfl hp4 hq4) rfl (zp1 rfl ?_)))
  replace h:=h.pickT 5 [3,0,1,2,4] rfl
  obtain ⟨o5,hr4,hF⟩:=qf hF
  obtain ⟨r4,x5⟩:=o5
  refine qbi r4 (cB 22 rfl) (qan h hr4) rfl rfl rfl rfl ?_
  rintro w5 ⟨S12,h⟩
  refine X0 8 rfl ?_
  obtain ⟨S13,h⟩:=h.gatherT 5 [4] (qp5 (⟨x2,x3,x4,x5⟩:qw) h (qas 3 h rfl) (qas 2 h rfl) (qas 1 h rfl) (qas 0 h rfl) (by rfl) (by rfl) (by rfl)) rfl
  replace h:=h.put
  obtain ⟨S14,h⟩:=qlO (S:=_) h
  exact rK ⟨_,_,_,_,hF,rfl,h⟩ rfl
 refine qr rfl ?_
 obtain rfl:=qa hF;replace hF:=hK1
 refine X0 5 rfl ?_
 obtain rfl:=qa hF
 exact qfC qb ⟨_,h⟩ ⟨rfl,trivial⟩
def qgm (n:Nat) (a:qk) (k:Int):Option (Int × (List qp) × (List qd) × (List ByteArray) × (List qB) × (List qw)) :=
 (qfr n (⟨a.Au.Ak⟩:qn) k).bind fun o=>match o with
  | (r1,x1) =>
   (qfQ n (⟨a.Ab.Aa,a.Ab.Ah,a.Ab.Af⟩:qc) r1).bind fun o=>match o with
    | (r2,x2,x3,x4) =>
     (qif n a.Ac r2).bind fun o=>match o with
      | (r3,x5) =>
       some (r3,x1,x2,x3,x4,x5)
theorem qk1 {n:Nat} {w0 w:World} {F:List Ch} {a:qk} {k:Int} {S1:Nat→Prop} {p1:Option Addr} {ln1 k1:Nat} {S2:Nat→Prop} {p2:Option Addr} {ln2 k2:Nat} {S3:Nat→Prop} {p3:Option Addr} {ln3 k3:Nat} {S4:Nat→Prop} {p4:Option Addr} {ln4 k4:Nat} {S5:Nat→Prop} {p5:Option Addr} {ln5 k5:Nat} (h:SH w0 w (Ch.own S5 (a.Ac:List qw) [.slice p5 ln5 k5]::Ch.own S4 (a.Ab.Af:List qB) [.slice p4 ln4 k4]::Ch.own S3 (a.Ab.Ah:List ByteArray) [.slice p3 ln3 k3]::Ch.own S2 (a.Ab.Aa:List qd) [.slice p2 ln2 k2]::Ch.own S1 (a.Au.Ak:List qp) [.slice p1 ln1 k1]::F)) {r:(Int × (List qp) × (List qd) × (List ByteArray) × (List qB) × (List qw))} (hF:qgm n a k=some r):RetN Tryz.prog 19 [.agg #[.slice p1 ln1 k1,.slice p2 ln2 k2,.slice p3 ln3 k3,.slice p4 ln4 k4,.slice p5 ln5 k5],.int .i64 k] w (fun w'=>∃ Z0 Z1 Z2 Z3 Z4:Nat→Prop,SH w0 w' (Ch.own Z4 (r.2.2.2.2.2:List qw) [.slice p5 ln5 k5]::Ch.own Z3 (r.2.2.2.2.1:List qB) [.slice p4 ln4 k4]::Ch.own Z2 (r.2.2.2.1:List ByteArray) [.slice p3 ln3 k3]::Ch.own Z1 (r.2.2.1:List qd) [.slice p2 ln2 k2]::Ch.own Z0 (r.2.1:List qp) [.slice p1 ln1 k1]::F)) r.1:=by
 refine qa4 Tryz.func19 rfl (m:=18) rfl rfl ?_
 obtain rfl:=(h.sl 0 rfl).2
 obtain rfl:=(h.sl 1 rfl).2
 obtain rfl:=(h.sl 2 rfl).2
 obtain rfl:=(h.sl 3 rfl).2
 obtain rfl:=(h.sl 4 rfl).2
 refine zSR (qu h rfl rfl fun w1 bb1 h=>X1 7 0 h rfl ?_)
 replace h:=h.pickT 6 [5,0,1,2,3,4] rfl
 obtain ⟨o1,hr1,hF⟩:=qf hF
 obtain ⟨r1,x1⟩:=o1
 refine qbi r1 (cB 64 rfl) (qjM h hr1) rfl rfl rfl rfl ?_
 rintro w2 ⟨S6,h⟩
 refine X1 7 1 h rfl ?_
 replace h:=h.pickT 6 [3,4,5,0,1,2] rfl
 obtain ⟨o2,hr2,hF⟩:=qf hF
 obtain ⟨r2,x2,x3,x4⟩:=o2
 refine qbi r2 (cB 65 rfl) (qkx h hr2) rfl rfl rfl rfl ?_
 rintro w3 ⟨S7,S8,S9,h⟩
 refine X1 7 4 h rfl ?_
 replace h:=h.pickT 6 [5,0,1,2,3,4] rfl
 obtain ⟨o3,hr3,hF⟩:=qf hF
 obtain ⟨r3,x5⟩:=o3
 refine qbi r3 (cB 66 rfl) (qkV h hr3) rfl rfl rfl rfl ?_
 rintro w4 ⟨S10,h⟩
 refine X0 7 rfl ?_
 obtain rfl:=qa hF
 replace h:=h.pickT 6 [0,1,2,3,4] rfl
 exact qfC qb ⟨_,_,_,_,_,h⟩ ⟨rfl,trivial⟩
def qcm (a:(List Bool)):Nat→(List Bool)→Int→Int→Option ((List Bool) × Int × Int)
 | 0,_,_,_=>none
 | n+1,x1,i1,i2 =>
  bif decide (i2<(a.length:Int)) then
   (idx x1 i2).bind fun _ =>
   qcm a n (setS x1 i2 ((i1.tmod 3)==0)) (W64 (i1+1)) (W64 (i2+1))
  else
   some (x1,i1,i2)
def qib (n:Nat) (a:(List Bool)) (k:Int):Option (Int × (List Bool)) :=
 (qcm a n a k 0).bind fun o=>match o with
 | (x1,i1,_) =>
  some (i1,x1)
theorem qk3 {n:Nat} {w0 w:World} {F:List Ch} {a:(List Bool)} {k:Int} {S1:Nat→Prop} {p1:Option Addr} {ln1 k1:Nat} (h:SH w0 w (Ch.own S1 (a:List Bool) [.slice p1 ln1 k1]::F)) {r:(Int × (List Bool))} (hF:qib n a k=some r):RetN Tryz.prog 67 [.slice p1 ln1 k1,.int .i64 k] w (fun w'=>∃ Z0:Nat→Prop,SH w0 w' (Ch.own Z0 (r.2:List Bool) [.slice p1 ln1 k1]::F)) r.1:=by
 refine qa4 Tryz.func67 rfl (m:=21) rfl rfl ?_
 obtain rfl:=(h.sl 0 rfl).2
 refine X0 9 rfl ?_
 obtain ⟨o1,hF,hK1⟩:=qf hF
 refine ql (rL (fun m e w'=>∃ (x1:(List Bool)) (i1:Int) (i2:Int),qcm a m x1 i1 i2=some o1∧e=[(0,.slice p1 a.length k1),(1,.int .i64 i1),(5,.int .i64 i2)]∧SH w0 w' (Ch.own S1 (x1:List Bool) [.slice p1 a.length k1]::F)) n ⟨_,_,_,hF,rfl,h⟩ rfl ?_)
 rintro m1 e1 w1 ⟨x1,i1,i2,hF,rfl,h⟩
 rcases m1 with _|m1
 ·cases hF
 refine X0 8 rfl (qh rfl hF ?_ ?_)<;>intro hF
 ·refine X0 10 rfl ?_
  obtain ⟨y1,hy1,hF,he1,b1,_,q1,cs1,hp1,hq1,rfl,hc2⟩:=(h.sl 0 rfl).1.ix hF
  exact zx hp1 hq1 ⟨he1.1,qJ he1.2.1 (h.sl 0 rfl).2⟩ rfl (qaS qb 0 0 ((i1.tmod 3)==0) h rfl hy1 hp1 hq1 rfl hc2 rfl rfl rfl rfl rfl rfl rfl fun w2 h=>X0 12 rfl (rK ⟨_,_,_,hF,rfl,h⟩ rfl))
 refine qr rfl ?_
 obtain rfl:=qa hF;replace hF:=hK1
 refine X0 5 rfl ?_
 obtain rfl:=qa hF
 exact qfC qb ⟨_,h⟩ ⟨rfl,trivial⟩
def qck (a:(List qm)):Nat→(List qm)→Int→Int→Option ((List qm) × Int × Int)
 | 0,_,_,_=>none
 | n+1,x1,i1,i2 =>
  bif decide (i2<(a.length:Int)) then
   (idx x1 i2).bind fun y1 =>
   (idx (setS x1 i2 ({ y1 with As:=i1 })) i2).bind fun y2 =>
   qck a n (setS (setS x1 i2 ({ y1 with As:=i1 })) i2 ({ y2 with Ba:=W64 (i1+1) })) (W64 ((W64 (i1+1))+1)) (W64 (i2+1))
  else
   some (x1,i1,i2)
def qgv (n:Nat) (a:(List qm)) (k:Int):Option (Int × (List qm)) :=
 (qck a n a k 0).bind fun o=>match o with
 | (x1,i1,_) =>
  some (i1,x1)
theorem qh8 {n:Nat} {w0 w:World} {F:List Ch} {a:(List qm)} {k:Int} {S1:Nat→Prop} {p1:Option Addr} {ln1 k1:Nat} (h:SH w0 w (Ch.own S1 (a:List qm) [.slice p1 ln1 k1]::F)) {r:(Int × (List qm))} (hF:qgv n a k=some r):RetN Tryz.prog 68 [.slice p1 ln1 k1,.int .i64 k] w (fun w'=>∃ Z0:Nat→Prop,SH w0 w' (Ch.own Z0 (r.2:List qm) [.slice p1 ln1 k1]::F)) r.1:=by
 refine qa4 Tryz.func68 rfl (m:=27) rfl rfl ?_
 obtain rfl:=(h.sl 0 rfl).2
 refine X0 9 rfl ?_
 obtain ⟨o1,hF,hK1⟩:=qf hF
 refine ql (rL (fun m e w'=>∃ (x1:(List qm)) (i1:Int) (i2:Int),qck a m x1 i1 i2=some o1∧e=[(0,.slice p1 a.length k1),(1,.int .i64 i1),(5,.int .i64 i2)]∧SH w0 w' (Ch.own S1 (x1:List qm) [.slice p1 a.length k1]::F)) n ⟨_,_,_,hF,rfl,h⟩ rfl ?_)
 rintro m1 e1 w1 ⟨x1,i1,i2,hF,rfl,h⟩
 rcases m1 with _|m1
 ·cases hF
 refine X0 8 rfl (qh rfl hF ?_ ?_)<;>intro hF
 ·refine X0 8 rfl ?_
  obtain ⟨y1,hy1,hF,he1,b1,_,q1,cs1,hp1,hq1,hr1,hc2⟩:=(h.sl 0 rfl).1.ix hF
  obtain rfl:=qv hr1
  refine zx hp1 hq1 ⟨he1.1,qJ he1.2.1 (h.sl 0 rfl).2⟩ rfl (zp1 rfl (qaS qb 0 0 ({ y1 with As:=i1 }:qm) h rfl hy1 hp1 hq1 (qS y1) hc2 rfl rfl rfl (qS ({ y1 with As:=i1 })) rfl rfl rfl fun w2 h=>X0 12 rfl ?_))
  obtain ⟨y2,hy2,hF,he2,b2,_,q2,cs2,hp2,hq2,hr2,hc3⟩:=(h.sl 0 rfl).1.ix hF
  obtain rfl:=qv hr2
  exact zx hp2 hq2 ⟨he2.1,qJ he2.2.1 (h.sl 0 rfl).2⟩ rfl (zp1 rfl (qaS qb 0 1 ({ y2 with Ba:=W64 (i1+1) }:qm) h rfl hy2 hp2 hq2 (qS y2) hc3 rfl rfl rfl (qS ({ y2 with Ba:=W64 (i1+1) })) rfl rfl rfl fun w3 h=>X0 12 rfl (rK ⟨_,_,_,hF,rfl,h⟩ rfl)))
 refine qr rfl ?_
 obtain rfl:=qa hF;replace hF:=hK1
 refine X0 5 rfl ?_
 obtain rfl:=qa hF
 exact qfC qb ⟨_,h⟩ ⟨rfl,trivial⟩
def qfW (n:Nat) (a:qt) (k:Int):Option (Int × (List Bool) × (List qm) × (List qm)) :=
 (qib n a.Aq k).bind fun o=>match o with
  | (r1,x1) =>
   (qgv n a.Ap r1).bind fun o=>match o with
    | (r2,x2) =>
     (qgv n a.Az r2).bind fun o=>match o with
      | (r3,x3) =>
       some (r3,x1,x2,x3)
theorem qkF {n:Nat} {w0 w:World} {F:List Ch} {a:qt} {k:Int} {S1:Nat→Prop} {p1:Option Addr} {ln1 k1:Nat} {S2:Nat→Prop} {p2:Option Addr} {ln2 k2:Nat} {S3:Nat→Prop} {p3:Option Addr} {ln3 k3:Nat} (h:SH w0 w (Ch.own S3 (a.Az:List qm) [.slice p3 ln3 k3]::Ch.own S2 (a.Ap:List qm) [.slice p2 ln2 k2]::Ch.own S1 (a.Aq:List Bool) [.slice p1 ln1 k1]::F)) {r:(Int × (List Bool) × (List qm) × (List qm))} (hF:qfW n a k=some r):RetN Tryz.prog 20 [.agg #[.slice p1 ln1 k1,.slice p2 ln2 k2,.slice p3 ln3 k3],.int .i64 k] w (fun w'=>∃ Z0 Z1 Z2:Nat→Prop,SH w0 w' (Ch.own Z2 (r.2.2.2:List qm) [.slice p3 ln3 k3]::Ch.own Z1 (r.2.2.1:List qm) [.slice p2 ln2 k2]::Ch.own Z0 (r.2.1:List Bool) [.slice p1 ln1 k1]::F)) r.1:=by
 refine qa4 Tryz.func20 rfl (m:=18) rfl rfl ?_
 obtain rfl:=(h.sl 0 rfl).2
 obtain rfl:=(h.sl 1 rfl).2
 obtain rfl:=(h.sl 2 rfl).2
 refine zSR (qu h rfl rfl fun w1 bb1 h=>X1 7 0 h rfl ?_)
 replace h:=h.pickT 4 [3,0,1,2] rfl
 obtain ⟨o1,hr1,hF⟩:=qf hF
 obtain ⟨r1,x1⟩:=o1
 refine qbi r1 (cB 67 rfl) (qk3 h hr1) rfl rfl rfl rfl ?_
 rintro w2 ⟨S4,h⟩
 refine X1 7 1 h rfl ?_
 replace h:=h.pickT 4 [3,0,1,2] rfl
 obtain ⟨o2,hr2,hF⟩:=qf hF
 obtain ⟨r2,x2⟩:=o2
 refine qbi r2 (cB 68 rfl) (qh8 h hr2) rfl rfl rfl rfl ?_
 rintro w3 ⟨S5,h⟩
 refine X1 7 2 h rfl ?_
 replace h:=h.pickT 4 [3,0,1,2] rfl
 obtain ⟨o3,hr3,hF⟩:=qf hF
 obtain ⟨r3,x3⟩:=o3
 refine qbi r3 (cB 68 rfl) (qh8 h hr3) rfl rfl rfl rfl ?_
 rintro w4 ⟨S6,h⟩
 refine X0 7 rfl ?_
 obtain rfl:=qa hF
 replace h:=h.pickT 4 [0,1,2] rfl
 exact qfC qb ⟨_,_,_,h⟩ ⟨rfl,trivial⟩
def qbp (a:(List qe)):Nat→(List qe)→Int→Int→Option ((List qe) × Int × Int)
 | 0,_,_,_=>none
 | n+1,x1,i1,i2 =>
  bif decide (i2<(a.length:Int)) then
   (idx x1 i2).bind fun y1 =>
   (idx (setS x1 i2 ({ y1 with A:=i1 })) i2).bind fun y2 =>
   (idx (setS (setS x1 i2 ({ y1 with A:=i1 })) i2 ({ y2 with B:=W64 (i1+1) })) i2).bind fun y3 =>
   qbp a n (setS (setS (setS x1 i2 ({ y1 with A:=i1 })) i2 ({ y2 with B:=W64 (i1+1) })) i2 ({ y3 with Bo:=W64 ((W64 (i1+1))+1) })) (W64 ((W64 ((W64 (i1+1))+1))+1)) (W64 (i2+1))
  else
   some (x1,i1,i2)
def qfY (n:Nat) (a:(List qe)) (k:Int):Option (Int × (List qe)) :=
 (qbp a n a k 0).bind fun o=>match o with
 | (x1,i1,_) =>
  some (i1,x1)
theorem qjj {n:Nat} {w0 w:World} {F:List Ch} {a:(List qe)} {k:Int} {S1:Nat→Prop} {p1:Option Addr} {ln1 k1:Nat} (h:SH w0 w (Ch.own S1 (a:List qe) [.slice p1 ln1 k1]::F)) {r:(Int × (List qe))} (hF:qfY n a k=some r):RetN Tryz.prog 21 [.slice p1 ln1 k1,.int .i64 k] w (fun w'=>∃ Z0:Nat→Prop,SH w0 w' (Ch.own Z0 (r.2:List qe) [.slice p1 ln1 k1]::F)) r.1:=by
 refine qa4 Tryz.func21 rfl (m:=34) rfl rfl ?_
 obtain rfl:=(h.sl 0 rfl).2
 refine X0 9 rfl ?_
 obtain ⟨o1,hF,hK1⟩:=qf hF
 refine ql (rL (fun m e w'=>∃ (x1:(List qe)) (i1:Int) (i2:Int),qbp a m x1 i1 i2=some o1∧e=[(0,.slice p1 a.length k1),(1,.int .i64 i1),(5,.int .i64 i2)]∧SH w0 w' (Ch.own S1 (x1:List qe) [.slice p1 a.length k1]::F)) n ⟨_,_,_,hF,rfl,h⟩ rfl ?_)
 rintro m1 e1 w1 ⟨x1,i1,i2,hF,rfl,h⟩
 rcases m1 with _|m1
 ·cases hF
 refine X0 8 rfl (qh rfl hF ?_ ?_)<;>intro hF
 ·refine X0 8 rfl ?_
  obtain ⟨y1,hy1,hF,he1,b1,_,q1,cs1,hp1,hq1,hr1,hc2⟩:=(h.sl 0 rfl).1.ix hF
  obtain rfl:=qQ hr1
  refine zx hp1 hq1 ⟨he1.1,qJ he1.2.1 (h.sl 0 rfl).2⟩ rfl (zp1 rfl (qaS qb 0 0 ({ y1 with A:=i1 }:qe) h rfl hy1 hp1 hq1 (qbe y1) hc2 rfl rfl rfl (qbe ({ y1 with A:=i1 })) rfl rfl rfl fun w2 h=>X0 12 rfl ?_))
  obtain ⟨y2,hy2,hF,he2,b2,_,q2,cs2,hp2,hq2,hr2,hc3⟩:=(h.sl 0 rfl).1.ix hF
  obtain rfl:=qQ hr2
  refine zx hp2 hq2 ⟨he2.1,qJ he2.2.1 (h.sl 0 rfl).2⟩ rfl (zp1 rfl (qaS qb 0 1 ({ y2 with B:=W64 (i1+1) }:qe) h rfl hy2 hp2 hq2 (qbe y2) hc3 rfl rfl rfl (qbe ({ y2 with B:=W64 (i1+1) })) rfl rfl rfl fun w3 h=>X0 12 rfl ?_))
  obtain ⟨y3,hy3,hF,he3,b3,_,q3,cs3,hp3,hq3,hr3,hc4⟩:=(h.sl 0 rfl).1.ix hF
  obtain rfl:=qQ hr3
  exact zx hp3 hq3 ⟨he3.1,qJ he3.2.1 (h.sl 0 rfl).2⟩ rfl (zp1 rfl (qaS qb 0 2 ({ y3 with Bo:=W64 ((W64 (i1+1))+1) }:qe) h rfl hy3 hp3 hq3 (qbe y3) hc4 rfl rfl rfl (qbe ({ y3 with Bo:=W64 ((W64 (i1+1))+1) })) rfl rfl rfl fun w4 h=>X0 12 rfl (rK ⟨_,_,_,hF,rfl,h⟩ rfl)))
 refine qr rfl ?_
 obtain rfl:=qa hF;replace hF:=hK1
 refine X0 5 rfl ?_
 obtain rfl:=qa hF
 exact qfC qb ⟨_,h⟩ ⟨rfl,trivial⟩
def qcN (n:Nat) (a_0:qk) (a_1:qt) (a_2:(List qe)):Option Bool :=
 (qhF n a_0 1048576).bind fun r1 =>
 bif decide (r1<0) then some true else
 (qg1 n a_1 r1).bind fun r2 =>
 bif decide (r2<0) then some true else
 (qgR n a_2 r2).bind fun r3 =>
 bif decide (r3<0) then some true else
 (qer n a_0).bind fun r4 =>
 (qdR n a_1).bind fun r5 =>
 (qb8 n a_2).bind fun r6 =>
 (qdI n r4 r5 r6).bind fun o=>match o with
  | (r8,r9) =>
   (qer n a_0).bind fun r10 =>
   (qdR n a_1).bind fun r11 =>
   (qb8 n a_2).bind fun r12 =>
   (qcj n r10 r11 r12).bind fun o=>match o with
    | (r14,r15) =>
     (
      (qaA n r14 r8).bind fun r36 =>
      bif (!r36) then some true else
      some (r15 != r9)).bind fun b1 =>
     bif b1 then some false else
     (qer n a_0).bind fun r16 =>
     (qhD n r10 r16).bind fun r17 =>
     bif (!r17) then some false else
     (qdR n a_1).bind fun r18 =>
     (qgV n r11 r18).bind fun r19 =>
     bif (!r19) then some false else
     (qb8 n a_2).bind fun r20 =>
     (qfs n r12 r20).bind fun r21 =>
     bif (!r21) then some false else
     (qgm n (⟨(⟨r10.Au.Ak⟩:qn),(⟨r10.Ab.Aa,r10.Ab.Ah,r10.Ab.Af⟩:qc),r10.Ac⟩:qk) 1).bind fun o=>match o with
      | (r22,_,_,_,_,_) =>
       (qfW n (⟨r11.Aq,r11.Ap,r11.Az⟩:qt) r22).bind fun o=>match o with
        | (r23,_,_,_) =>
         (qfY n r12 r23).bind fun o=>match o with
          | (r24,_) =>
           (
            bif decide (r24<0) then some true else
            (qaA n r14 r8).bind fun r35 =>
            bif (!r35) then some true else
            some (r15 != r9)).bind fun b2 =>
           bif b2 then some false else
           (qah n r14 1).bind fun o=>match o with
            | (r25,x10) =>
             (qeJ n x10 1).bind fun r26 =>
             bif decide (r26<0) then some false else
             bif (r26 != r25) then some false else
             (qer n (⟨(⟨a_0.Au.Ak⟩:qn),(⟨a_0.Ab.Aa,a_0.Ab.Ah,a_0.Ab.Af⟩:qc),a_0.Ac⟩:qk)).bind fun r27 =>
             (qdR n (⟨a_1.Aq,a_1.Ap,a_1.Az⟩:qt)).bind fun r28 =>
             (qb8 n a_2).bind fun r29 =>
             (qcj n r27 r28 r29).bind fun o=>match o with
              | (r31,r32) =>
               (
                (qaA n r31 r8).bind fun r34 =>
                bif (!r34) then some true else
                some (r32 != r9)).bind fun b3 =>
               bif b3 then some false else
               (qeJ n x10 1).bind fun r33 =>
               bif decide (r33<0) then some false else
               bif (r33 != r25) then some false else
               some true
theorem qgM {a_0:qk} {a_1:qt} {a_2:(List qe)} (ha1:GoT.R w (old w) a_0 cs1) (ha2:GoT.R w (old w) a_1 cs2) (ha3:GoT.R w (old w) a_2 cs3) {r:Bool} (hF:qcN n a_0 a_1 a_2=some r):RetV Tryz.prog 3 [GoT.v qk cs1,GoT.v qt cs2,GoT.v (List qe) cs3] w r:=by
 obtain ⟨p1,k1,p2,k2,p3,k3,p4,k4,p5,k5,rfl,s1,s2,s3,s4,s5⟩:=qV ha1
 obtain ⟨p6,k6,p7,k7,p8,k8,rfl,s6,s7,s8⟩:=qaf ha2
 obtain ⟨p9,k9,rfl,s9⟩:=ha3
 refine zV 142 Tryz.func3 rfl fun h=>zSR (qu h rfl rfl fun w1 bb1 h=>qu h rfl rfl fun w2 bb2 h=>X1 10 1 h rfl (zcI h hF (qmi (h.old ha1)) rfl fun r1 w3 h hF=>X0 8 rfl (qh rfl hF ?_ ?_)))<;>intro hF
 ·exact X0 4 rfl (rb h hF rfl)
 refine X1 5 0 h rfl (zcI h hF (qlF (h.old ha2)) rfl fun r2 w4 h hF=>X0 8 rfl (qh rfl hF ?_ ?_))<;>intro hF
 ·exact X0 4 rfl (rb h hF rfl)
 refine X0 5 rfl (zcI h hF (qkE ⟨_,_,rfl,(h.oldS s9)⟩) rfl fun r3 w5 h hF=>X0 8 rfl (qh rfl hF ?_ ?_))<;>intro hF
 ·exact X0 4 rfl (rb h hF rfl)
 refine zKS (rA [] [0,1] h rfl fun w6 h=>M2 21 [0,2,4] 1 0 (h.pick [0,1] rfl) rfl (Ao 1 23 rfl (zcO h hF (qfO (h.old ha1)) rfl fun r4 w7 S1 cs4 h hF=>?_)))
 obtain ⟨p10,k10,p11,k11,p12,k12,p13,k13,p14,k14,rfl,-,-,-,-,-⟩:=qV (h.own 0 rfl)
 refine Ag (h.pick [1,2] rfl) (Ao 3 31 rfl (zcO h hF (qfi (h.old ha2)) rfl fun r5 w8 S2 cs5 h hF=>?_))
 obtain ⟨p15,k15,p16,k16,p17,k17,rfl,-,-,-⟩:=qaf (h.own 0 rfl)
 refine Ag (h.pick [2,3] rfl) (Ao 5 63 rfl (zcL h hF (qdT ⟨_,_,rfl,(h.oldS s9)⟩) rfl fun r6 w9 S3 p18 k18 h hF=>Ag (h.pick [3,4] rfl) (Ao 6 127 rfl ?_)))
 obtain ⟨r7,hr7,hF⟩:=qf hF
 obtain ⟨r8,r9⟩:=r7
 refine qfg (r8,r9) h (cB 10 rfl) (qi4 (h.own 2 rfl) (h.own 1 rfl) (h.own 0 rfl) hr7) rfl rfl rfl rfl fun w10 S4 us1 hv1 hr8=>?_
 obtain ⟨S5,S6,p19,k19,us2,rfl,hv2,hr9⟩:=hv1.consL hr8
 obtain ⟨rfl,h⟩:=hv2.lastI hr9
 refine G0 4095 [7,8,9,10,11] (h.pick [4,5] rfl) rfl (Ad (X1 3 5 h rfl (zcO h hF (qfO (h.old ha1)) rfl fun r10 w11 S8 cs6 h hF=>?_)))
 obtain ⟨p20,k20,p21,k21,p22,k22,p23,k23,p24,k24,rfl,-,-,-,-,-⟩:=qV (h.own 0 rfl)
 refine qx qb h rfl rfl rfl fun w12 bb3 h=>zs 0 h rfl fun w13 h=>X1 4 6 h rfl (zcO h hF (qfi (h.old ha2)) rfl fun r11 w14 S9 cs7 h hF=>?_)
 obtain ⟨p25,k25,p26,k26,p27,k27,rfl,-,-,-⟩:=qaf (h.own 0 rfl)
 refine qx qb h rfl rfl rfl fun w15 bb4 h=>zs 0 h rfl fun w16 h=>X0 4 rfl (zcL h hF (qdT ⟨_,_,rfl,(h.oldS s9)⟩) rfl fun r12 w17 S10 p28 k28 h hF=>X2 7 3 1 h rfl ?_)
 obtain ⟨r13,hr14,hF⟩:=qf hF
 obtain ⟨r14,r15⟩:=r13
 refine qfg (r14,r15) h (cB 14 rfl) (qf9 (h.own 4 rfl) (h.own 2 rfl) (h.own 0 rfl) hr14) rfl rfl rfl rfl fun w18 S11 us3 hv4 hr15=>?_
 obtain ⟨S12,S13,p29,k29,us4,rfl,hv5,hr16⟩:=hv4.consL hr15
 obtain ⟨rfl,h⟩:=hv5.lastI hr16
 refine X0 8 rfl ?_
 obtain ⟨KF3,hKF3,o7,hF,hK3⟩:=bindE hF
 refine qcx (fun e w'=>∃ (b1:Bool),KF3 b1=some r∧e=[(2,.slice p9 a_2.length k9),(3,.pointer (some ⟨bb1,0,none⟩)),(4,.pointer (some ⟨bb2,0,none⟩)),(8,.slice p19 r8.length k19),(9,.int .i64 r9),(10,.pointer (some ⟨bb3,0,none⟩)),(11,.pointer (some ⟨bb4,0,none⟩)),(12,.slice p28 r12.length k28),(13,.slice p29 r14.length k29),(14,.int .i64 r15),(66,.bool b1)]∧SH w w' [Ch.own S12 (r14:List Int) [.slice p29 r14.length k29],Ch.own S10 (r12:List qe) [.slice p28 r12.length k28],Ch.box bb4 (qaB r11 p25 p26 p27 k25 k26 k27) 57,Ch.own S9 (r11:qt) (qaB r11 p25 p26 p27 k25 k26 k27),Ch.box bb3 (qaC r10 p20 p21 p22 p23 p24 k20 k21 k22 k23 k24) 53,Ch.own S8 (r10:qk) (qaC r10 p20 p21 p22 p23 p24 k20 k21 k22 k23 k24),Ch.own S5 (r8:List Int) [.slice p19 r8.length k19],Ch.box bb2 (qaB a_1 p6 p7 p8 k6 k7 k8) 36,Ch.box bb1 (qaC a_0 p1 p2 p3 p4 p5 k1 k2 k3 k4 k5) 32]) ?_ ?_
 ·refine X0 3 rfl (zcB h hF (qat (h.own 0 rfl) (h.own 6 rfl)) rfl fun r36 w42 h hF=>zp2 rfl (qg (t:=62) hF rfl ?_ ?_))<;>intro hF
  ·refine X0 5 rfl ?_
   replace h:=h.pick [0,1,2,3,4,5,6,10,11] rfl
   obtain rfl:=qa hF
   exact rG ⟨_,hK3,rfl,h⟩ rfl
  refine X0 8 rfl ?_
  replace h:=h.pick [0,1,2,3,4,5,6,10,11] rfl
  obtain rfl:=qa hF
  exact rG ⟨_,hK3,rfl,h⟩ rfl
 rintro e3 w43 ⟨b1,hF,rfl,h⟩
 subst hKF3
 refine qh rfl hF ?_ ?_<;>intro hF
 ·exact X0 4 rfl (rb h hF rfl)
 refine zKSS (rA [] [4,8] h rfl fun w19 h=>M2 3 [0,1] 0 1 (h.pick [4,8] rfl) rfl (Ao 2 7 rfl (zcO h hF (qfO (h.old ha1)) rfl fun r16 w20 S15 cs8 h hF=>?_)))
 obtain ⟨p30,k30,p31,k31,p32,k32,p33,k33,p34,k34,rfl,-,-,-,-,-⟩:=qV (h.own 0 rfl)
 refine Ag (h.pick [5,9] rfl) (Ao 3 15 rfl (zcB h hF (qmu (h.own 6 rfl) (h.own 0 rfl)) rfl fun r17 w21 h hF=>G0 31 [4] (h.pick [5,9] rfl) rfl (Ad (qh rfl hF ?_ ?_))))<;>intro hF
 ·exact X0 4 rfl (rb h hF rfl)
 refine zKSS (rA [] [3,8] h rfl fun w22 h=>M2 3 [0,1] 0 1 (h.pick [3,8] rfl) rfl (Ao 2 7 rfl (zcO h hF (qfi (h.old ha2)) rfl fun r18 w23 S16 cs9 h hF=>?_)))
 obtain ⟨p35,k35,p36,k36,p37,k37,rfl,-,-,-⟩:=qaf (h.own 0 rfl)
 refine Ag (h.pick [4,9] rfl) (Ao 3 15 rfl (zcB h hF (ql5 (h.own 5 rfl) (h.own 0 rfl)) rfl fun r19 w24 h hF=>G0 31 [4] (h.pick [4,9] rfl) rfl (Ad (qh rfl hF ?_ ?_))))<;>intro hF
 ·exact X0 4 rfl (rb h hF rfl)
 refine X0 6 rfl (zcL h hF (qdT ⟨_,_,rfl,(h.oldS s9)⟩) rfl fun r20 w25 S17 p38 k38 h hF=>zcB h hF (qkw (h.own 4 rfl) (h.own 0 rfl)) rfl fun r21 w26 h hF=>X0 2 rfl (qh rfl hF ?_ ?_))<;>intro hF
 ·exact X0 4 rfl (rb h hF rfl)
 refine X1 9 7 h rfl ?_
 replace h:=h.pick [8,0,1,2,3,4,5,6,7,9,10,11] rfl
 obtain ⟨S18,S19,S20,h⟩:=qn7 h
 replace h:=h.pick [2,0,1,3,4,5,6,7,8,9,10,11,12,13] rfl
 obtain ⟨S21,h⟩:=qnD h
 replace h:=h.pick [2,0,1,3,4,5,6,7,8,9,10,11,12,13] rfl
 obtain ⟨S22,S23,S24,h⟩:=qn0 h
 replace h:=h.pick [4,0,1,2,3,8,9,10,11,13,14,15] rfl
 obtain ⟨o1,hr24,hF⟩:=qf hF
 obtain ⟨r22,x1,x2,x3,x4,x5⟩:=o1
 refine qbi r22 (cB 19 rfl) (qk1 h hr24) rfl rfl rfl rfl ?_
 rintro w27 ⟨S25,S26,S27,S28,S29,h⟩
 replace h:SH _ _ [Ch.own S29 (x5:List qw) [.slice p24 r10.Ac.length k24],Ch.own S28 (x4:List qB) [.slice p23 r10.Ab.Af.length k23],Ch.own S27 (x3:List ByteArray) [.slice p22 r10.Ab.Ah.length k22],Ch.own S26 (x2:List qd) [.slice p21 r10.Ab.Aa.length k21],Ch.own S25 (x1:List qp) [.slice p20 r10.Au.Ak.length k20],Ch.own S12 (r14:List Int) [.slice p29 r14.length k29],Ch.own S10 (r12:List qe) [.slice p28 r12.length k28],Ch.box bb4 (qaB r11 p25 p26 p27 k25 k26 k27) 57,Ch.own S9 (r11:qt) (qaB r11 p25 p26 p27 k25 k26 k27),Ch.own S5 (r8:List Int) [.slice p19 r8.length k19],Ch.box bb2 (qaB a_1 p6 p7 p8 k6 k7 k8) 36,Ch.box bb1 (qaC a_0 p1 p2 p3 p4 p5 k1 k2 k3 k4 k5) 32]:=h
 refine X1 6 7 h rfl ?_
 replace h:=h.pick [8,0,1,2,3,4,5,6,7,9,10,11] rfl
 obtain ⟨S30,S31,S32,h⟩:=qnS h
 replace h:=h.pick [0,1,2,8,9,11,12,13] rfl
 obtain ⟨o2,hr25,hF⟩:=qf hF
 obtain ⟨r23,x6,x7,x8⟩:=o2
 refine qbi r23 (cB 20 rfl) (qkF h hr25) rfl rfl rfl rfl ?_
 rintro w28 ⟨S33,S34,S35,h⟩
 replace h:SH _ _ [Ch.own S35 (x8:List qm) [.slice p27 r11.Az.length k27],Ch.own S34 (x7:List qm) [.slice p26 r11.Ap.length k26],Ch.own S33 (x6:List Bool) [.slice p25 r11.Aq.length k25],Ch.own S12 (r14:List Int) [.slice p29 r14.length k29],Ch.own S10 (r12:List qe) [.slice p28 r12.length k28],Ch.own S5 (r8:List Int) [.slice p19 r8.length k19],Ch.box bb2 (qaB a_1 p6 p7 p8 k6 k7 k8) 36,Ch.box bb1 (qaC a_0 p1 p2 p3 p4 p5 k1 k2 k3 k4 k5) 32]:=h
 refine X0 6 rfl ?_
 replace h:=h.pick [4,3,5,6,7] rfl
 obtain ⟨o3,hr26,hF⟩:=qf hF
 obtain ⟨r24,x9⟩:=o3
 refine qbi r24 (cB 21 rfl) (qjj h hr26) rfl rfl rfl rfl ?_
 rintro w29 ⟨S36,h⟩
 replace h:SH _ _ [Ch.own S36 (x9:List qe) [.slice p28 r12.length k28],Ch.own S12 (r14:List Int) [.slice p29 r14.length k29],Ch.own S5 (r8:List Int) [.slice p19 r8.length k19],Ch.box bb2 (qaB a_1 p6 p7 p8 k6 k7 k8) 36,Ch.box bb1 (qaC a_0 p1 p2 p3 p4 p5 k1 k2 k3 k4 k5) 32]:=h
 refine X0 4 rfl ?_
 obtain ⟨KF2,hKF2,o6,hF,hK2⟩:=bindE hF
 refine qcx (fun e w'=>∃ (b2:Bool),KF2 b2=some r∧e=[(2,.slice p9 a_2.length k9),(3,.pointer (some ⟨bb1,0,none⟩)),(4,.pointer (some ⟨bb2,0,none⟩)),(8,.slice p19 r8.length k19),(9,.int .i64 r9),(13,.slice p29 r14.length k29),(103,.bool b2)]∧SH w w' [Ch.own S12 (r14:List Int) [.slice p29 r14.length k29],Ch.own S5 (r8:List Int) [.slice p19 r8.length k19],Ch.box bb2 (qaB a_1 p6 p7 p8 k6 k7 k8) 36,Ch.box bb1 (qaC a_0 p1 p2 p3 p4 p5 k1 k2 k3 k4 k5) 32]) ?_ ?_
 ·refine X0 4 rfl (qg (t:=93) hF rfl ?_ ?_)<;>intro hF
  ·refine X0 11 rfl ?_
   replace h:=h.pick [1,2,3,4] rfl
   obtain rfl:=qa hF
   exact rG ⟨_,hK2,rfl,h⟩ rfl
  refine X0 5 rfl (zcB h hF (qat (h.own 1 rfl) (h.own 2 rfl)) rfl fun r35 w40 h hF=>X0 4 rfl (qg (t:=99) hF rfl ?_ ?_))<;>intro hF
  ·refine X0 5 rfl ?_
   replace h:=h.pick [1,2,3,4] rfl
   obtain rfl:=qa hF
   exact rG ⟨_,hK2,rfl,h⟩ rfl
  refine X0 8 rfl ?_
  replace h:=h.pick [1,2,3,4] rfl
  obtain rfl:=qa hF
  exact rG ⟨_,hK2,rfl,h⟩ rfl
 rintro e2 w41 ⟨b2,hF,rfl,h⟩
 subst hKF2
 refine qh rfl hF ?_ ?_<;>intro hF
 ·exact X0 4 rfl (rb h hF rfl)
 refine X0 9 rfl ?_
 obtain ⟨o4,hr27,hF⟩:=qf hF
 obtain ⟨r25,x10⟩:=o4
 refine qbi r25 (cB 22 rfl) (qan h hr27) rfl rfl rfl rfl ?_
 rintro w30 ⟨S37,h⟩
 replace h:SH _ _ [Ch.own S37 (x10:List Int) [.slice p29 r14.length k29],Ch.own S5 (r8:List Int) [.slice p19 r8.length k19],Ch.box bb2 (qaB a_1 p6 p7 p8 k6 k7 k8) 36,Ch.box bb1 (qaC a_0 p1 p2 p3 p4 p5 k1 k2 k3 k4 k5) 32]:=h
 refine X0 10 rfl (zcI h hF (qic (h.own 0 rfl)) rfl fun r26 w31 h hF=>X0 8 rfl (qh rfl hF ?_ ?_))<;>intro hF
 ·exact X0 4 rfl (rb h hF rfl)
 refine X0 8 rfl (qh rfl hF ?_ ?_)<;>intro hF
 ·exact X0 4 rfl (rb h hF rfl)
 refine zKS (rA [] [2,3] h rfl fun w32 h=>M2 21 [0,2,4] 1 0 (h.pick [2,3] rfl) rfl (Ao 1 23 rfl (zcO h hF (qfO (qqY _ (h.oldS s1) (h.oldS s2) (h.oldS s3) (h.oldS s4) (h.oldS s5))) rfl fun r27 w33 S38 cs10 h hF=>?_)))
 obtain ⟨p39,k39,p40,k40,p41,k41,p42,k42,p43,k43,rfl,-,-,-,-,-⟩:=qV (h.own 0 rfl)
 refine Ag (h.pick [3,4] rfl) (Ao 3 31 rfl (zcO h hF (qfi (qpZ _ (h.oldS s6) (h.oldS s7) (h.oldS s8))) rfl fun r28 w34 S39 cs11 h hF=>?_))
 obtain ⟨p44,k44,p45,k45,p46,k46,rfl,-,-,-⟩:=qaf (h.own 0 rfl)
 refine Ag (h.pick [4,5] rfl) (Ao 5 63 rfl (zcL h hF (qdT ⟨_,_,rfl,(h.oldS s9)⟩) rfl fun r29 w35 S40 p47 k47 h hF=>Ag (h.pick [5,6] rfl) (Ao 6 127 rfl ?_)))
 obtain ⟨r30,hr32,hF⟩:=qf hF
 obtain ⟨r31,r32⟩:=r30
 refine qfg (r31,r32) h (cB 14 rfl) (qf9 (h.own 2 rfl) (h.own 1 rfl) (h.own 0 rfl) hr32) rfl rfl rfl rfl fun w36 S41 us5 hv7 hr33=>?_
 obtain ⟨S42,S43,p48,k48,us6,rfl,hv8,hr34⟩:=hv7.consL hr33
 obtain ⟨rfl,h⟩:=hv8.lastI hr34
 refine G0 4095 [7,8,9,10,11] (h.pick [6,7] rfl) rfl (Ad (zSS ?_))
 obtain ⟨KF1,hKF1,o5,hF,hK1⟩:=bindE hF
 refine qcx (fun e w'=>∃ (b3:Bool),KF1 b3=some r∧e=[(13,.slice p29 r14.length k29),(16,.int .i64 r25),(133,.bool b3)]∧SH w w' [Ch.own S37 (x10:List Int) [.slice p29 r14.length k29]]) ?_ ?_
 ·refine X0 3 rfl (zcB h hF (qat (h.own 0 rfl) (h.own 5 rfl)) rfl fun r34 w38 h hF=>zp2 rfl (qg (t:=129) hF rfl ?_ ?_))<;>intro hF
  ·refine X0 5 rfl ?_
   replace h:=h.pick [4] rfl
   obtain rfl:=qa hF
   exact rG ⟨_,hK1,rfl,h⟩ rfl
  refine X0 8 rfl ?_
  replace h:=h.pick [4] rfl
  obtain rfl:=qa hF
  exact rG ⟨_,hK1,rfl,h⟩ rfl
 rintro e1 w39 ⟨b3,hF,rfl,h⟩
 subst hKF1
 refine qh rfl hF ?_ ?_<;>intro hF
 ·exact X0 4 rfl (rb h hF rfl)
 refine X0 9 rfl (zcI h hF (qic (h.own 0 rfl)) rfl fun r33 w37 h hF=>X0 8 rfl (qh rfl hF ?_ ?_))<;>intro hF
 ·exact X0 4 rfl (rb h hF rfl)
 refine X0 8 rfl (qh rfl hF ?_ ?_)<;>intro hF
 ·exact X0 4 rfl (rb h hF rfl)
 exact X0 5 rfl (rb h hF rfl)
end Go.Fw


namespace Go.Fw
open Go Go.Proofs
open Go.RowKit (Below)
set_option maxRecDepth 100000
set_option maxHeartbeats 1600000
variable {n:Nat} {w:World} {cs1 cs2 cs3 cs4 cs5 cs6 cs7 cs8 cs9:List Value}
end Go.Fw


namespace Go.Fw
open Go Go.Proofs
open Go.RowKit (Below)
set_option maxRecDepth 100000
set_option maxHeartbeats 1600000
variable {n:Nat} {w:World} {cs1 cs2 cs3 cs4 cs5 cs6 cs7 cs8 cs9:List Value}
end Go.Fw


namespace Go.Fw
open Go
end Go.Fw


namespace Go.Fw
open Go
set_option maxRecDepth 100000
def Mk {σ:Type} (F:Nat→Option (Int × σ)) (k:Int) (w:Nat):Prop:=∃ k' x,Ev F (k',x)∧k≤k'∧k'≤k+16*(w:Int)
theorem qaV {α:Type} {t:List α} {j:Nat} {y:α} (h:j<t.length):idx (setS t (j:Int) y) (j:Int)=some y:=by
 rw [qf6 (by rw [qjb];exact h),qrC h]
theorem qal {α:Type} {t:List α} {i:Int} {y z:α}:setS (setS t i y) i z=setS t i z:=by
 unfold setS;rw [List.set_set]
theorem qnX {α:Type} {a:List α} {wt:α→Nat} {j:Nat} (h:j<a.length):((a.take (j+1)).map wt).sum=((a.take j).map wt).sum+wt a[j]:=by
 rw [List.take_succ_eq_append_getElem h,jK,List.sum_append];simp
theorem qp7 {α:Type} {a:List α} {wt:α→Nat} {j:Nat}:((a.take j).map wt).sum≤(a.map wt).sum:=by
 conv=>rhs;rw [←List.take_append_drop j a]
 rw [jK,List.sum_append]
 exact Nat.le_add_right _ _
theorem qed {α:Type} {a:List α} {wt:α→Nat} {Lf:Nat→List α→Int→Int→Option (List α × Int × Int)} {F:Nat→Option (Int × List α)} {k:Int} (hk0:0≤k) (hk1:k+16*((a.length+(a.map wt).sum:Nat):Int)≤1000000000000)
  (hend:∀ n t k,Lf (n+1) t k (a.length:Int)=some (t,k,(a.length:Int)))
  (hstep:∀ x,x ∈ a→∀ k:Int,0≤k→k+16*((1+wt x:Nat):Int)≤1000000000000→∃ y k',k≤k'∧k'≤k+16*((1+wt x:Nat):Int) ∧
   ∀ (t:List α) (j:Nat),j<9223372036854775807→j<a.length→j<t.length→t[j]?=some x→∀ X,Ev (fun n=>Lf n (setS t (j:Int) y) k' ((j+1:Nat):Int)) X→Ev (fun n=>Lf (n+1) t k (j:Int)) X)
  (hl:a.length≤1048576)
  (hF:∀ n,F n=(Lf n a k 0).bind fun o=>match o with|(x1,i1,_)=>some (i1,x1)):Mk F k (a.length+(a.map wt).sum):=by
 obtain ⟨⟨t,k'⟩,⟨_,_,h3,h4⟩,e⟩:=loopE (τ:=List α × Int) (Lf:=fun n t j=>Lf n t.1 t.2 j) (fin:=fun t=>(t.1,t.2,(a.length:Int)))
  (fun j t=>t.1.length=a.length∧(∀ i,j≤i→t.1[i]?=a[i]?)∧k≤t.2∧t.2≤k+16*((j+((a.take j).map wt).sum:Nat):Int)) (len:=a.length)
  (fun n t=>hend n t.1 t.2)
  (fun j t hj ht=>by
   obtain ⟨h1,h2,h3,h4⟩:=ht
   have hs:=qnX (wt:=wt) hj
   have hs2:=qp7 (a:=a) (wt:=wt) (j:=j+1)
   obtain ⟨y,k',q1,q2,q3⟩:=hstep a[j] (js hj) t.2 (by omega) (by omega)
   refine ⟨(setS t.1 (j:Int) y,k'),⟨by rw [qjb];exact h1,fun i hi=>?_,by show k≤k';omega,?_⟩,fun X hX=>?_⟩
   ·show (t.1.set _ _)[i]?=_
    rw [List.getElem?_set_ne (by rw [jy];omega)]
    exact h2 i (by omega)
   ·show k'≤k+_
    rw [hs]
    omega
   ·exact q3 t.1 j (by omega) hj (by omega) (by rw [h2 j (je _),ji hj]) X hX) 0 (Nat.zero_le _) (a,k) ⟨rfl,fun _ _=>rfl,Int.le_refl _,by show k≤k+_;omega⟩
 rw [jO] at h4
 exact ⟨k',t,Ev.congr hF (Ev.bind e .done),h3,h4⟩
theorem qr6 {α:Type} {pre a:List α} {j:Nat} {y:α} (hp:pre.length=j) (hj:j<a.length):setS (pre++a.drop j) (j:Int) y=(pre++[y])++a.drop (j+1):=by
 show (pre++a.drop j).set j y=_
 rw [List.set_append,if_neg (by omega),hp,Nat.sub_self,jL hj,List.set_cons_zero,jx]
 rfl
def marked (k:Int) (m:Nat):List Int:=(List.range m).map fun (i:Nat)=>k+(i:Int)
theorem qm5 {a:List Int} {k:Int} (h0:0≤k) (h1:k≤1000000000000) (hl:a.length≤1048576):Ev (fun n=>qah n a k) (k+(a.length:Int),marked k a.length):=by
 have hL:Ev (fun n=>qbu a n a k 0) (marked k a.length,k+(a.length:Int),(a.length:Int)):=by
  have:=loopF (τ:=List Int × Int) (Lf:=fun n t j=>qbu a n t.1 t.2 j) (S:=fun j=>(marked k j++a.drop j,k+(j:Int))) (len:=a.length) (fin:=(marked k a.length,k+(a.length:Int),(a.length:Int))) (fun n=>by
    simp only [qbu,qj (je _),cond_false,List.drop_length,List.append_nil])
   (fun j hj X hX=>by
    have hp:(marked k j).length=j:=by simp [marked]
    have hlt:j<(marked k j++a.drop j).length:=by rw [jm,hp,List.length_drop];omega
    have hm:marked k (j+1)=marked k j++[k+(j:Int)]:=by unfold marked;rw [List.range_succ,jK];rfl
    simp only [qbu,qi hj,cond_true,qf6 hlt,jd,qr6 hp hj,wS j,qZ (show -9223372036854775808≤k+(j:Int)+1 by omega) (by omega)]
    rw [←hm]
    rw [show k+(j:Int)+1=k+((j+1:Nat):Int) by omega]
    exact hX)
  simpa [marked] using this
 unfold qah
 exact Ev.bind hL .done
theorem qeo {a:List Int} {k:Int} (h0:0≤k) (h1:k≤1000000000000) (hl:qaw a≤1048576):∃ k' x,Ev (fun n=>qah n a k) (k',x)∧k≤k'∧k'≤k+16*(qaw a:Int) :=
 ⟨_,_,qm5 h0 h1 hl,by omega,by unfold qaw;omega⟩
theorem qs8 {k:Int} {m:Nat} (h0:0≤k) (h1:k≤1000000000000) (hl:m≤1048576):Ev (fun n=>qeJ n (marked k m) k) (k+(m:Int)):=by
 have hlen:(marked k m).length=m:=by simp [marked]
 have hL:Ev (fun n=>qbt (marked k m) n k 0) (.nxt (k+(m:Int),(m:Int))):=by
  have:=loopF (Lf:=qbt (marked k m)) (S:=fun j=>k+(j:Int)) (len:=m) (fin:=.nxt (k+(m:Int),(m:Int))) (fun n=>by
    simp only [qbt,hlen,qj (je _),cond_false])
   (fun j hj X hX=>by
    have e:idx (marked k m) (j:Int)=some (k+(j:Int)):=by
     rw [qf6 (by rw [hlen];exact hj)];simp [marked]
    simp only [qbt,hlen,qi hj,cond_true,e,jd,bne_self_eq_false,cond_false,wS j,qZ (show -9223372036854775808≤k+(j:Int)+1 by omega) (by omega)]
    rw [show k+(j:Int)+1=k+((j+1:Nat):Int) by omega]
    exact hX)
  simpa using this
 unfold qeJ
 exact Ev.bind hL .done
theorem qq8 {a b:ByteArray} (h:a.size+b.size≤1000000):catB a b=some (a++b):=by
 unfold catB
 rw [if_pos]
 show ((a.size+b.size:Nat):Int)≤9223372036854775807
 omega
theorem qof {x:IntK .u8}:(strOf [x]).size=1:=rfl
theorem qhe {k:Int} (hk:k≤1000000000001000):∃ s,Ev (fun n=>qcX n k) s:=by
 have main:∀ m:Nat,∀ i1:Int,∀ z:ByteArray,0≤i1→i1≤9000000000000000000→i1<10 ^ m→z.size+m≤1000→∃ o:Int × ByteArray,o.2.size≤1000∧Ev (fun n=>qd7 n i1 z) o:=by
  intro m
  induction m with
  | zero =>
   intro i1 z h0 hb h1 hz
   have:i1=0:=by have:(10:Int) ^ 0=1:=rfl;omega
   subst this
   exact ⟨(0,z),by show z.size≤1000;omega,Ev.succ (Ev.ff (by decide) .done)⟩
  | succ m ih =>
   intro i1 z h0 hb h1 hz
   by_cases hp:i1=0
   ·subst hp
    exact ⟨(0,z),by show z.size≤1000;omega,Ev.succ (Ev.ff (by decide) .done)⟩
   ·have hd:i1.tdiv 10=i1 / 10:=Int.tdiv_eq_ediv_of_nonneg h0
    have h10:(10:Int) ^ (m+1)=10 ^ m*10:=Int.pow_succ _ _
    have hc:catB (strOf ([(⟨IntKind.wrap .u8 (W64 (48+(i1.tmod 10)))⟩:IntK .u8)])) z=some (strOf ([(⟨IntKind.wrap .u8 (W64 (48+(i1.tmod 10)))⟩:IntK .u8)])++z):=qq8 (by rw [qof];omega)
    obtain ⟨o,ho,e⟩:=ih (i1 / 10) (strOf ([(⟨IntKind.wrap .u8 (W64 (48+(i1.tmod 10)))⟩:IntK .u8)])++z) (by omega) (by omega) (by omega) (by rw [ByteArray.size_append,qof];omega)
    refine ⟨o,ho,Ev.succ ?_⟩
    simp only [qd7,show decide (i1 > 0)=true by simp;omega,cond_true,hc,jd,hd,qZ (show -9223372036854775808≤i1 / 10 by omega) (by omega)]
    exact e
 unfold qcX
 by_cases h0:k≤0
 ·exact ⟨_,Ev.tt (by simpa using h0) .done⟩
 ·obtain ⟨⟨o1,o2⟩,ho,e⟩:=main 16 k ⟨#[]⟩ (by omega) (by omega) (by have:(10:Int) ^ 16=10000000000000000:=rfl;omega) (by decide)
  refine ⟨(⟨#[109]⟩:ByteArray)++o2,Ev.ff (by simp;omega) (Ev.bind e ?_)⟩
  have ho:o2.size≤1000:=ho
  show Ev (fun n=>(catB ⟨#[109]⟩ o2).bind fun z3=>some z3) _
  rw [qq8 (show (⟨#[109]⟩:ByteArray).size+o2.size≤1000000 by have:(⟨#[109]⟩:ByteArray).size=1:=rfl;omega)]
  exact .done
theorem qmY {α:Type} {a:List α}:(a.map (fun _=>0)).sum=0:=by induction a<;>simp_all
theorem qkH {a:(List qq)} {k:Int} (h0:0≤k) (h1:k+16*(qb3 a:Int)≤1000000000000) (hw:qb3 a≤1048576):Mk (fun n=>qfT n a k) k (qb3 a):=by
 refine qed (a:=a) (wt:=(fun x:qq=>qcM x)) h0 h1 (Lf:=qb9 a) (fun n t k=>by simp only [qb9,qj (je _),cond_false]) (fun x hx k h0 h1=>?_) (by simp only [qb3] at hw;omega) (fun _=>rfl)
 have hs:=qbw (wt:=(fun x:qq=>qcM x)) hx
 have ew:qcM x=qaw x.Bf+qaw x.Be+qaw x.Av:=rfl
 have hw:a.length+(a.map (fun x:qq=>qcM x)).sum≤1048576:=hw
 simp only [ew] at hs h1 ⊢
 obtain ⟨k1,x1,q1,l1,u1⟩:=qeo (a:=x.Bf) (k:=k) (by omega) (by omega) (by omega)
 obtain ⟨k2,x2,q2,l2,u2⟩:=qeo (a:=x.Be) (k:=k1) (by omega) (by omega) (by omega)
 obtain ⟨k3,x3,q3,l3,u3⟩:=qeo (a:=x.Av) (k:=k2) (by omega) (by omega) (by omega)
 refine ⟨⟨x1,x2,x3⟩,k3,by omega,by omega,fun t j hb hj ht hx X hX=>?_⟩
 simp only [qb9,qi hj,cond_true,qcL hb]
 try simp only [qz hx,qaV ht,jd,qal]
 refine Ev.bind q1 ?_
 try simp only [qz hx,qaV ht,jd,qal]
 refine Ev.bind q2 ?_
 try simp only [qz hx,qaV ht,jd,qal]
 refine Ev.bind q3 ?_
 try simp only [qz hx,qaV ht,jd,qal]
 exact hX
theorem qpl {a:(List qF)} {k:Int} (h0:0≤k) (h1:k+16*(qfD a:Int)≤1000000000000) (hw:qfD a≤1048576):Mk (fun n=>qiX n a k) k (qfD a):=by
 refine qed (a:=a) (wt:=(fun x:qF=>qgH x)) h0 h1 (Lf:=qc5 a) (fun n t k=>by simp only [qc5,qj (je _),cond_false]) (fun x hx k h0 h1=>?_) (by simp only [qfD] at hw;omega) (fun _=>rfl)
 have hs:=qbw (wt:=(fun x:qF=>qgH x)) hx
 have ew:qgH x=qb3 x.Bb+qb3 x.Az:=rfl
 have hw:a.length+(a.map (fun x:qF=>qgH x)).sum≤1048576:=hw
 simp only [ew] at hs h1 ⊢
 have e1:W64 (k+1)=k+1:=qZ (by omega) (by omega)
 have e2:W64 (k+1+1)=k+1+1:=qZ (by omega) (by omega)
 have e3:W64 (k+1+1+1)=k+1+1+1:=qZ (by omega) (by omega)
 have e4:W64 (k+1+1+1+1)=k+1+1+1+1:=qZ (by omega) (by omega)
 obtain ⟨k1,x1,q1,l1,u1⟩:=qkH (a:=x.Bb) (k:=k+1+1+1+1) (by omega) (by omega) (by omega)
 obtain ⟨k2,x2,q2,l2,u2⟩:=qkH (a:=x.Az) (k:=k1) (by omega) (by omega) (by omega)
 refine ⟨⟨k,k+1,k+1+1,k+1+1+1,x1,x2⟩,k2,by omega,by omega,fun t j hb hj ht hx X hX=>?_⟩
 simp only [qc5,qi hj,cond_true,qcL hb]
 try simp only [qz hx,qaV ht,jd,qal,e1,e2,e3,e4]
 refine Ev.bind q1 ?_
 try simp only [qz hx,qaV ht,jd,qal,e1,e2,e3,e4]
 refine Ev.bind q2 ?_
 try simp only [qz hx,qaV ht,jd,qal,e1,e2,e3,e4]
 exact hX
theorem qpv {a:(List qO)} {k:Int} (h0:0≤k) (h1:k+16*(qfE a:Int)≤1000000000000) (hw:qfE a≤1048576):Mk (fun n=>qiU n a k) k (qfE a):=by
 refine qed (a:=a) (wt:=(fun x:qO=>qiu x)) h0 h1 (Lf:=qdd a) (fun n t k=>by simp only [qdd,qj (je _),cond_false]) (fun x hx k h0 h1=>?_) (by simp only [qfE] at hw;omega) (fun _=>rfl)
 have hs:=qbw (wt:=(fun x:qO=>qiu x)) hx
 have ew:qiu x=x.Ar.size:=rfl
 have hw:a.length+(a.map (fun x:qO=>qiu x)).sum≤1048576:=hw
 simp only [ew] at hs h1 ⊢
 obtain ⟨s1,es1⟩:=qhe (k:=k) (by omega)
 have e1:W64 (k+1)=k+1:=qZ (by omega) (by omega)
 have e2:W64 (k+1+1)=k+1+1:=qZ (by omega) (by omega)
 have e3:W64 (k+1+1+1)=k+1+1+1:=qZ (by omega) (by omega)
 have e4:W64 (k+1+1+1+1)=k+1+1+1+1:=qZ (by omega) (by omega)
 refine ⟨⟨s1,k+1,k+1+1,((k+1+1+1).tmod 3)==0⟩,k+1+1+1+1,by omega,by omega,fun t j hb hj ht hx X hX=>?_⟩
 simp only [qdd,qi hj,cond_true,qcL hb]
 try simp only [qz hx,qaV ht,jd,qal]
 refine Ev.bind es1 ?_
 try simp only [qz hx,qaV ht,jd,qal,e1,e2,e3,e4]
 exact hX
theorem qoU {a:(List qp)} {k:Int} (h0:0≤k) (h1:k+16*(qen a:Int)≤1000000000000) (hw:qen a≤1048576):Mk (fun n=>qie n a k) k (qen a):=by
 refine qed (a:=a) (wt:=(fun x:qp=>qeh x)) h0 h1 (Lf:=qco a) (fun n t k=>by simp only [qco,qj (je _),cond_false]) (fun x hx k h0 h1=>?_) (by simp only [qen] at hw;omega) (fun _=>rfl)
 have hs:=qbw (wt:=(fun x:qp=>qeh x)) hx
 have ew:qeh x=x.Ar.size+qfE x.Am+qfD x.Aj+qaw x.Bc:=rfl
 have hw:a.length+(a.map (fun x:qp=>qeh x)).sum≤1048576:=hw
 simp only [ew] at hs h1 ⊢
 obtain ⟨s1,es1⟩:=qhe (k:=k) (by omega)
 have e1:W64 (k+1)=k+1:=qZ (by omega) (by omega)
 have e2:W64 (k+1+1)=k+1+1:=qZ (by omega) (by omega)
 obtain ⟨k2,x2,q2,l2,u2⟩:=qpv (a:=x.Am) (k:=k+1+1) (by omega) (by omega) (by omega)
 obtain ⟨k3,x3,q3,l3,u3⟩:=qpl (a:=x.Aj) (k:=k2) (by omega) (by omega) (by omega)
 obtain ⟨k4,x4,q4,l4,u4⟩:=qeo (a:=x.Bc) (k:=k3) (by omega) (by omega) (by omega)
 have e3:W64 (k4+1)=k4+1:=qZ (by omega) (by omega)
 have e4:W64 (k4+1+1)=k4+1+1:=qZ (by omega) (by omega)
 refine ⟨⟨s1,k+1,x2,x3,x4,k4,k4+1⟩,k4+1+1,by omega,by omega,fun t j hb hj ht hx X hX=>?_⟩
 simp only [qco,qi hj,cond_true,qcL hb]
 try simp only [qz hx,qaV ht,jd,qal]
 refine Ev.bind es1 ?_
 try simp only [qz hx,qaV ht,jd,qal,e1,e2]
 refine Ev.bind q2 ?_
 try simp only [qz hx,qaV ht,jd,qal,e1,e2]
 refine Ev.bind q3 ?_
 try simp only [qz hx,qaV ht,jd,qal,e1,e2]
 refine Ev.bind q4 ?_
 try simp only [qz hx,qaV ht,jd,qal,e1,e2,e3,e4]
 exact hX
theorem qm0 {a:qn} {k:Int} (h0:0≤k) (h1:k+16*(qc9 a:Int)≤1000000000000) (hw:qc9 a≤1048576):Mk (fun n=>qfr n a k) k (qc9 a):=by
 simp only [qc9] at h1 hw ⊢
 obtain ⟨k1,x1,q1,l1,u1⟩:=qoU (a:=a.Ak) (k:=k) (by omega) (by omega) (by omega)
 refine ⟨k1,x1,?_,by omega,by omega⟩
 unfold qfr
 exact Ev.bind q1 (.done)
theorem qlQ {a:(List qd)} {k:Int} (h0:0≤k) (h1:k+16*(qbc a:Int)≤1000000000000) (hw:qbc a≤1048576):Mk (fun n=>qf4 n a k) k (qbc a):=by
 refine qed (a:=a) (wt:=(fun x:qd=>qa5 x)) h0 h1 (Lf:=qbq a) (fun n t k=>by simp only [qbq,qj (je _),cond_false]) (fun x hx k h0 h1=>?_) (by simp only [qbc] at hw;omega) (fun _=>rfl)
 have hs:=qbw (wt:=(fun x:qd=>qa5 x)) hx
 have ew:qa5 x=x.Ar.size+qaw x.Ah:=rfl
 have hw:a.length+(a.map (fun x:qd=>qa5 x)).sum≤1048576:=hw
 simp only [ew] at hs h1 ⊢
 obtain ⟨s1,es1⟩:=qhe (k:=k) (by omega)
 have e1:W64 (k+1)=k+1:=qZ (by omega) (by omega)
 have e2:W64 (k+1+1)=k+1+1:=qZ (by omega) (by omega)
 obtain ⟨k2,x2,q2,l2,u2⟩:=qeo (a:=x.Ah) (k:=k+1+1) (by omega) (by omega) (by omega)
 refine ⟨⟨s1,k+1,x2⟩,k2,by omega,by omega,fun t j hb hj ht hx X hX=>?_⟩
 simp only [qbq,qi hj,cond_true,qcL hb]
 try simp only [qz hx,qaV ht,jd,qal]
 refine Ev.bind es1 ?_
 try simp only [qz hx,qaV ht,jd,qal,e1,e2]
 refine Ev.bind q2 ?_
 try simp only [qz hx,qaV ht,jd,qal,e1,e2]
 exact hX
theorem qne {a:(List ByteArray)} {k:Int} (h0:0≤k) (h1:k+16*(qc0 a:Int)≤1000000000000) (hw:qc0 a≤1048576):Mk (fun n=>qgO n a k) k (qc0 a):=by
 refine qed (a:=a) (wt:=(fun x:ByteArray=>x.size)) h0 h1 (Lf:=qbT a) (fun n t k=>by simp only [qbT,qj (je _),cond_false]) (fun x hx k h0 h1=>?_) (by simp only [qc0] at hw;omega) (fun _=>rfl)
 obtain ⟨s,es⟩:=qhe (k:=k) (by omega)
 have e1:W64 (k+1)=k+1:=qZ (by omega) (by omega)
 refine ⟨s,k+1,by omega,by omega,fun t j hb hj ht hx X hX=>?_⟩
 simp only [qbT,qi hj,cond_true,e1,qcL hb]
 refine Ev.bind es ?_
 try simp only [qz hx,jd]
 exact hX
theorem qo1 {a:(List qB)} {k:Int} (h0:0≤k) (h1:k+16*(qep a:Int)≤1000000000000) (hw:qep a≤1048576):Mk (fun n=>qik n a k) k (qep a):=by
 refine qed (a:=a) (wt:=(fun x:qB=>qf1 x)) h0 h1 (Lf:=qcr a) (fun n t k=>by simp only [qcr,qj (je _),cond_false]) (fun x hx k h0 h1=>?_) (by simp only [qep] at hw;omega) (fun _=>rfl)
 have hs:=qbw (wt:=(fun x:qB=>qf1 x)) hx
 have ew:qf1 x=x.Ar.size:=rfl
 have hw:a.length+(a.map (fun x:qB=>qf1 x)).sum≤1048576:=hw
 simp only [ew] at hs h1 ⊢
 obtain ⟨s1,es1⟩:=qhe (k:=k) (by omega)
 have e1:W64 (k+1)=k+1:=qZ (by omega) (by omega)
 have e2:W64 (k+1+1)=k+1+1:=qZ (by omega) (by omega)
 have e3:W64 (k+1+1+1)=k+1+1+1:=qZ (by omega) (by omega)
 refine ⟨⟨s1,k+1,k+1+1⟩,k+1+1+1,by omega,by omega,fun t j hb hj ht hx X hX=>?_⟩
 simp only [qcr,qi hj,cond_true,qcL hb]
 try simp only [qz hx,qaV ht,jd,qal]
 refine Ev.bind es1 ?_
 try simp only [qz hx,qaV ht,jd,qal,e1,e2,e3]
 exact hX
theorem qnQ {a:qc} {k:Int} (h0:0≤k) (h1:k+16*(qdi a:Int)≤1000000000000) (hw:qdi a≤1048576):Mk (fun n=>qfQ n a k) k (qdi a):=by
 simp only [qdi] at h1 hw ⊢
 obtain ⟨k1,x1,q1,l1,u1⟩:=qlQ (a:=a.Aa) (k:=k) (by omega) (by omega) (by omega)
 obtain ⟨k2,x2,q2,l2,u2⟩:=qne (a:=a.Ah) (k:=k1) (by omega) (by omega) (by omega)
 obtain ⟨k3,x3,q3,l3,u3⟩:=qo1 (a:=a.Af) (k:=k2) (by omega) (by omega) (by omega)
 refine ⟨k3,(x1,x2,x3),?_,by omega,by omega⟩
 unfold qfQ
 exact Ev.bind q1 (Ev.bind q2 (Ev.bind q3 (.done)))
theorem qph {a:(List qw)} {k:Int} (h0:0≤k) (h1:k+16*(qeq a:Int)≤1000000000000) (hw:qeq a≤1048576):Mk (fun n=>qif n a k) k (qeq a):=by
 refine qed (a:=a) (wt:=(fun x:qw=>qd9 x)) h0 h1 (Lf:=qcv a) (fun n t k=>by simp only [qcv,qj (je _),cond_false]) (fun x hx k h0 h1=>?_) (by simp only [qeq] at hw;omega) (fun _=>rfl)
 have hs:=qbw (wt:=(fun x:qw=>qd9 x)) hx
 have ew:qd9 x=qaw x.Ai+qaw x.Bn+qaw x.Bk+qaw x.Bg:=rfl
 have hw:a.length+(a.map (fun x:qw=>qd9 x)).sum≤1048576:=hw
 simp only [ew] at hs h1 ⊢
 obtain ⟨k1,x1,q1,l1,u1⟩:=qeo (a:=x.Ai) (k:=k) (by omega) (by omega) (by omega)
 obtain ⟨k2,x2,q2,l2,u2⟩:=qeo (a:=x.Bn) (k:=k1) (by omega) (by omega) (by omega)
 obtain ⟨k3,x3,q3,l3,u3⟩:=qeo (a:=x.Bk) (k:=k2) (by omega) (by omega) (by omega)
 obtain ⟨k4,x4,q4,l4,u4⟩:=qeo (a:=x.Bg) (k:=k3) (by omega) (by omega) (by omega)
 refine ⟨⟨x1,x2,x3,x4⟩,k4,by omega,by omega,fun t j hb hj ht hx X hX=>?_⟩
 simp only [qcv,qi hj,cond_true,qcL hb]
 try simp only [qz hx,qaV ht,jd,qal]
 refine Ev.bind q1 ?_
 try simp only [qz hx,qaV ht,jd,qal]
 refine Ev.bind q2 ?_
 try simp only [qz hx,qaV ht,jd,qal]
 refine Ev.bind q3 ?_
 try simp only [qz hx,qaV ht,jd,qal]
 refine Ev.bind q4 ?_
 try simp only [qz hx,qaV ht,jd,qal]
 exact hX
theorem qoH {a:qk} {k:Int} (h0:0≤k) (h1:k+16*(qew a:Int)≤1000000000000) (hw:qew a≤1048576):Mk (fun n=>qgm n a k) k (qew a):=by
 simp only [qew] at h1 hw ⊢
 obtain ⟨k1,x1,q1,l1,u1⟩:=qm0 (a:=a.Au) (k:=k) (by omega) (by omega) (by omega)
 obtain ⟨k2,⟨x2_0,x2_1,x2_2⟩,q2,l2,u2⟩:=qnQ (a:=a.Ab) (k:=k1) (by omega) (by omega) (by omega)
 obtain ⟨k3,x3,q3,l3,u3⟩:=qph (a:=a.Ac) (k:=k2) (by omega) (by omega) (by omega)
 refine ⟨k3,(x1,x2_0,x2_1,x2_2,x3),?_,by omega,by omega⟩
 unfold qgm
 exact Ev.bind q1 (Ev.bind q2 (Ev.bind q3 (.done)))
theorem qoQ {a:(List Bool)} {k:Int} (h0:0≤k) (h1:k+16*(qfk a:Int)≤1000000000000) (hw:qfk a≤1048576):Mk (fun n=>qib n a k) k (qfk a):=by
 rw [show qfk a=a.length+(a.map (fun _:Bool=>0)).sum by unfold qfk;rw [qmY,Nat.add_zero]] at *
 refine qed (a:=a) (wt:=(fun _:Bool=>0)) h0 h1 (Lf:=qcm a) (fun n t k=>by simp only [qcm,qj (je _),cond_false]) (fun x hx k h0 h1=>?_) (by omega) (fun _=>rfl)
 have e1:W64 (k+1)=k+1:=qZ (by omega) (by omega)
 refine ⟨(k.tmod 3)==0,k+1,by omega,by omega,fun t j hb hj ht hx X hX=>?_⟩
 simp only [qcm,qi hj,cond_true,e1,qcL hb]
 try simp only [qz hx,jd]
 exact hX
theorem qlP {a:(List qe)} {k:Int} (h0:0≤k) (h1:k+16*(qbx a:Int)≤1000000000000) (hw:qbx a≤1048576):Mk (fun n=>qfY n a k) k (qbx a):=by
 rw [show qbx a=a.length+(a.map (fun _:qe=>0)).sum by unfold qbx;rw [qmY,Nat.add_zero]] at *
 refine qed (a:=a) (wt:=(fun _:qe=>0)) h0 h1 (Lf:=qbp a) (fun n t k=>by simp only [qbp,qj (je _),cond_false]) (fun x hx k h0 h1=>?_) (by omega) (fun _=>rfl)
 have hs:=qbw (wt:=(fun _:qe=>0)) hx
 have e1:W64 (k+1)=k+1:=qZ (by omega) (by omega)
 have e2:W64 (k+1+1)=k+1+1:=qZ (by omega) (by omega)
 have e3:W64 (k+1+1+1)=k+1+1+1:=qZ (by omega) (by omega)
 refine ⟨⟨k,k+1,k+1+1⟩,k+1+1+1,by omega,by omega,fun t j hb hj ht hx X hX=>?_⟩
 simp only [qbp,qi hj,cond_true,qcL hb]
 try simp only [qz hx,qaV ht,jd,qal,e1,e2,e3]
 exact hX
theorem qlp {a:(List qm)} {k:Int} (h0:0≤k) (h1:k+16*(qe1 a:Int)≤1000000000000) (hw:qe1 a≤1048576):Mk (fun n=>qgv n a k) k (qe1 a):=by
 rw [show qe1 a=a.length+(a.map (fun _:qm=>0)).sum by unfold qe1;rw [qmY,Nat.add_zero]] at *
 refine qed (a:=a) (wt:=(fun _:qm=>0)) h0 h1 (Lf:=qck a) (fun n t k=>by simp only [qck,qj (je _),cond_false]) (fun x hx k h0 h1=>?_) (by omega) (fun _=>rfl)
 have hs:=qbw (wt:=(fun _:qm=>0)) hx
 have e1:W64 (k+1)=k+1:=qZ (by omega) (by omega)
 have e2:W64 (k+1+1)=k+1+1:=qZ (by omega) (by omega)
 refine ⟨⟨k,k+1⟩,k+1+1,by omega,by omega,fun t j hb hj ht hx X hX=>?_⟩
 simp only [qck,qi hj,cond_true,qcL hb]
 try simp only [qz hx,qaV ht,jd,qal,e1,e2]
 exact hX
theorem qn8 {a:qt} {k:Int} (h0:0≤k) (h1:k+16*(qdh a:Int)≤1000000000000) (hw:qdh a≤1048576):Mk (fun n=>qfW n a k) k (qdh a):=by
 simp only [qdh] at h1 hw ⊢
 obtain ⟨k1,x1,q1,l1,u1⟩:=qoQ (a:=a.Aq) (k:=k) (by omega) (by omega) (by omega)
 obtain ⟨k2,x2,q2,l2,u2⟩:=qlp (a:=a.Ap) (k:=k1) (by omega) (by omega) (by omega)
 obtain ⟨k3,x3,q3,l3,u3⟩:=qlp (a:=a.Az) (k:=k2) (by omega) (by omega) (by omega)
 refine ⟨k3,(x1,x2,x3),?_,by omega,by omega⟩
 unfold qfW
 exact Ev.bind q1 (Ev.bind q2 (Ev.bind q3 (.done)))
end Go.Fw


namespace Go.Fw
open Go
set_option maxRecDepth 100000
end Go.Fw


namespace Go.Fw
open Go
set_option maxRecDepth 100000
theorem qij {b:qk} {t:qt} {ks:(List qe)} (h0:qkq b) (h1:qjr t) (h2:(rngL qfy) ks):Ev (fun n=>qcN n b t ks) true:=by
 unfold qcN
 obtain ⟨r1,e1,q1⟩:=qsR (a:=b) (left:=1048576) h0 (by omega) (by omega)
 refine Ev.bind e1 ?_
 rcases q1 with q1|⟨p1,q1⟩
 ·exact Ev.tt (by simpa using q1) .done
 refine Ev.ff (by simp;omega) ?_
 obtain ⟨r2,e2,q2⟩:=qrW (a:=t) (left:=r1) h1 p1 (by omega)
 refine Ev.bind e2 ?_
 rcases q2 with q2|⟨p2,q2⟩
 ·exact Ev.tt (by simpa using q2) .done
 refine Ev.ff (by simp;omega) ?_
 obtain ⟨r3,e3,q3⟩:=qoS (a:=ks) (left:=r2) h2 p2 (by omega)
 refine Ev.bind e3 ?_
 rcases q3 with q3|⟨p3,q3⟩
 ·exact Ev.tt (by simpa using q3) .done
 refine Ev.ff (by simp;omega) ?_
 have w0:qew b≤1048576:=by omega
 have k0:=qqX h0 w0
 have w1:qdh t≤1048576:=by omega
 have k1:=qpw h1 w1
 have w2:qbx ks≤1048576:=by omega
 have k2:=qnd h2 w2
 obtain ⟨⟨R0,R1⟩,hs,hi,v0⟩:=qk6 (b:=b) (t:=t) (ks:=ks) k0 k2.len
 have v0:qaw R0≤1048576:=v0
 refine Ev.bind (qle w0) ?_
 refine Ev.bind (qkn w1) ?_
 refine Ev.bind (qhO w2) ?_
 refine Ev.bind hs ?_
 refine Ev.bind (qle w0) ?_
 refine Ev.bind (qkn w1) ?_
 refine Ev.bind (qhO w2) ?_
 refine Ev.bind hi ?_
 refine Ev.bind (b:=false) (Ev.bind (qdr v0) (Ev.ff rfl (Ev.now (by simp)))) (Ev.ff rfl ?_)
 refine Ev.bind (qle w0) ?_
 refine Ev.bind (qsy w0) (Ev.ff rfl ?_)
 refine Ev.bind (qkn w1) ?_
 refine Ev.bind (qrN w1) (Ev.ff rfl ?_)
 refine Ev.bind (qhO w2) ?_
 refine Ev.bind (qoX w2) (Ev.ff rfl ?_)
 obtain ⟨m1,⟨x1_0,x1_1,x1_2,x1_3,x1_4⟩,mk1,ml1,mu1⟩:=qoH (a:=b) (k:=1) (by omega) (by omega) w0
 refine Ev.bind mk1 ?_
 obtain ⟨m2,⟨x2_0,x2_1,x2_2⟩,mk2,ml2,mu2⟩:=qn8 (a:=t) (k:=m1) (by omega) (by omega) w1
 refine Ev.bind mk2 ?_
 obtain ⟨m3,x3_0,mk3,ml3,mu3⟩:=qlP (a:=ks) (k:=m2) (by omega) (by omega) w2
 refine Ev.bind mk3 ?_
 refine Ev.bind (b:=false) (Ev.ff (by simp;omega) (Ev.bind (qdr v0) (Ev.ff rfl (Ev.now (by simp))))) (Ev.ff rfl ?_)
 have hh1:=qs8 (k:=1) (m:=R0.length) (by omega) (by omega) v0
 refine Ev.bind (qm5 (by omega) (by omega) v0) ?_
 refine Ev.bind hh1 (Ev.ff (by simp;omega) (Ev.ff qax ?_))
 refine Ev.bind (qle w0) ?_
 refine Ev.bind (qkn w1) ?_
 refine Ev.bind (qhO w2) ?_
 refine Ev.bind hi ?_
 refine Ev.bind (b:=false) (Ev.bind (qdr v0) (Ev.ff rfl (Ev.now (by simp)))) (Ev.ff rfl ?_)
 refine Ev.bind hh1 (Ev.ff (by simp;omega) (Ev.ff qax ?_))
 exact .done
end Go.Fw


namespace Go.Fw
open Go
end Go.Fw


namespace Go.Fw
open Go
open Go.RowKit (Below)
structure Same where
 w:World
 K:Nat→Prop
instance instSame:GoT Same where
 k:=1
 agg:=false
 zero:=⟨default,fun _=>False⟩
 zc:=[.bool true]
 R w S x cs:=cs=[.bool true]∧∀ b,x.K b→S b∧w.heap[b]?=x.w.heap[b]?
 O w S x cs:=cs=[.bool true]∧∀ b,x.K b→S b∧w.heap[b]?=x.w.heap[b]?
 kpos:=by decide
 noagg _:=rfl
 len h:=by obtain ⟨rfl,_⟩:=h;rfl
 one h:=by obtain ⟨rfl,_⟩:=h;simp [Value.oneCell']
 loc h hs:=⟨h.1,fun b hb=>⟨(h.2 b hb).1,(hs b (h.2 b hb).1).trans (h.2 b hb).2⟩⟩
 mono h hs:=⟨h.1,fun b hb=>⟨hs b (h.2 b hb).1,(h.2 b hb).2⟩⟩
 toR h:=h
 locO h hs:=⟨h.1,fun b hb=>⟨(h.2 b hb).1,(hs b (h.2 b hb).1).trans (h.2 b hb).2⟩⟩
 monoO h hs:=⟨h.1,fun b hb=>⟨hs b (h.2 b hb).1,(h.2 b hb).2⟩⟩
 zO _ _:=⟨rfl,fun _ h=>h.elim⟩
def FS (F:List Ch) (b:Nat):Prop:=∃ d,d ∈ F∧d.S b
abbrev Fr (w0:World) (F:List Ch) (b:Nat):Prop:=FS F b∨old w0 b
abbrev same (w0 w:World) (F:List Ch):Fct:=fct (⟨w,Fr w0 F⟩:Same) [.bool true]
section
variable {P:Program} {T:Tab} {n:Nat} {Q:Exit→Act→World→Prop} {k:List It} {e:Env} {w0 w w':World} {L L' F:List Ch}
theorem SH.frame (L:List Ch) (h:SH w0 w (L++F)):SH w0 w (L++[Ch.grp (Fw.old w0) (FS F) [same w0 w F]]):=by
 have hp:=List.pairwise_append.1 h.apart
 refine ⟨h.below,fun c hc=>?_,fun c hc=>?_,List.pairwise_append.2 ⟨hp.1,List.pairwise_singleton ..,fun c hc d hd b hb=>?_⟩⟩
 ·rcases List.mem_append.1 hc with hc|hc
  ·exact h.holds c (List.mem_append_left _ hc)
  ·obtain rfl:=List.mem_singleton.1 hc
   refine ⟨fun f hf=>?_,fun b hb=>?_⟩
   ·obtain rfl:=List.mem_singleton.1 hf
    exact ⟨rfl,fun b hb=>⟨hb,rfl⟩⟩
   ·obtain ⟨d,hd,hb⟩:=hb
    exact (h.holds d (List.mem_append_right _ hd)).2 b hb
 ·rcases List.mem_append.1 hc with hc|hc
  ·exact h.elder c (List.mem_append_left _ hc)
  ·obtain rfl:=List.mem_singleton.1 hc
   exact fun b hb=>hb
 ·obtain rfl:=List.mem_singleton.1 hd
  rintro ⟨d,hd,hdb⟩
  exact hp.2.2 c hc d hd b hb hdb
variable {α:Type} [GoT α] {x:α} {cs:List Value} {S D:Nat→Prop} {fs:List Fct}
end
section
open Go.ChangeShapes Go.RowKit
variable {H:Type} {enc:TypeId × Value→H} {P:Program} {w:World} {base:Nat} {spare:Nat→Bool} {held:Bool}
end
end Go.Fw
